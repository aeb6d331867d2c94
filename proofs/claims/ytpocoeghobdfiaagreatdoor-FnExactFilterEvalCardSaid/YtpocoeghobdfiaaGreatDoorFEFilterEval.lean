/-
  The walk of the program's FilterEval, and the reference's: both come to filterEvalV. Conditions: the lengths' bounds that are stated.
-/
import Derived.Test.YtpocoeghobdfiaaGreatDoorFEP6
import Derived.Test.YtpocoeghobdfiaaGreatDoorFEP5
import Derived.Test.YtpocoeghobdfiaaGreatDoorFEP3
import Derived.Test.YtpocoeghobdfiaaGreatDoorFEP2
import Derived.Test.YtpocoeghobdfiaaGreatDoorFEFilter
import Derived.Test.YtpocoeghobdfiaaGreatDoorFEEntry
namespace Go.Proofs.YtpocoeghobdfiaaGreatDoor.PG
open Go.RowKit Go.Proofs.YtpocoeghobdfiaaGreatDoorW.PrintWords Go.Proofs.YtpocoeghobdfiaaGreatDoorW.PrintLast Go.Proofs.YtpocoeghobdfiaaGreatDoorW.PrintMore Go.Proofs.YtpocoeghobdfiaaGreatDoor.Gn Go.Proofs.YtpocoeghobdfiaaGreatDoor.Sem
attribute [local go_sem] max2_int min2_int max_two min_two max_three min_three max_four min_four
set_option linter.unusedVariables false
set_option linter.unusedSimpArgs false

theorem entry_calls (A0 : Option Addr) (c0 : Nat) (d : List S113) (A1 : Option Addr) (c1 : Nat) (l : List S115) (W : World) (h0 : Kd.C k113 W A0 d.length d) (l0 : d.length ≤ c0) (h1 : Kd.C k115 W A1 l.length l) (l1 : l.length ≤ c1) :
    Calls Tryz.prog 39 #[.agg #[.slice A0 d.length c0, .slice A1 l.length c1]] W fun e w' => e = .returned (.bool (entryB d l)) ∧ Below W.heap.size W w' := by
  obtain ⟨k, hk⟩ := (impl_entry d l).rounds
  exact impl_EntryRight.calls k A0 c0 d A1 c1 l _ W h0 l0 h1 l1 hk
/-- Is a filter valid. -/
noncomputable def filterB (x : XS) : Bool := Classical.choose (filter_same x)
theorem filterB_spec (x : XS) : Ev (fun k => spec_FilterRight.f k x) (filterB x) ∧ Ev (fun k => impl_FilterRight.f k x) (filterB x) ∧ (filterB x = true → x.length ≤ 20 ∧ ∃ D, Ev (fun k => impl_depthOf.f k x) ((x.length : Int), D) ∧ 0 < x.length) := Classical.choose_spec (filter_same x)
/-- Do texts rise, all of them names. -/
def namesAt (l : List ByteArray) (i : Nat) : Bool := nameB (rdOf ByteArray.empty l (i : Int)) && stepB lessB (rdOf ByteArray.empty l) i
def namesB (l : List ByteArray) : Bool := (List.range l.length).all (namesAt l)
theorem impl_names (l : List ByteArray) (hl : l.length ≤ 9223372036854775807) : Ev (fun k => impl_areNames.f k l) (namesB l) := by
  unfold impl_areNames.f
  have := all_loop (fun k i => impl_areNames.l0 k l l (l.length : Int) i) (namesAt l) l.length true ?_ ?_
  · simpa [namesB] using this
  · exact Ev_one fun k => by simp only [impl_areNames.l0]; rw [if_neg (by omega)]
  · intro i hi u hu
    have e0 : wrap64 ((i : Int) + 1) = ((i + 1 : Nat) : Int) := by rw [wsucc (by omega) (by omega)]; omega
    refine Ev.step (fun k => by simp only [impl_areNames.l0]; rw [if_pos (by omega), if_pos (by omega), if_pos (by omega), e0]) ?_
    rw [impl_name]
    unfold namesAt stepB
    simp only [Option.bind_some]
    cases nameB (rdOf ByteArray.empty l (i : Int))
    · exact Ev_some fun k => by simp
    · simp only [if_true, Bool.true_and]
      by_cases h0 : i = 0
      · subst h0
        simpa using hu
      · rw [decide_eq_false h0, Bool.false_or]
        refine Ev.congr (fun k => by rw [if_pos (by omega), w_id (by omega) (by omega), if_pos (by omega), if_pos (by omega)]) ?_
        unfold lessB
        cases Op.bytesLess (rdOf ByteArray.empty l ((i : Int) - 1)).toList (rdOf ByteArray.empty l (i : Int)).toList
        · exact Ev_some fun k => by simp
        · simpa using hu
theorem spec_names (l : List ByteArray) (hl : l.length ≤ 9223372036854775807) : Ev (fun k => spec_l04Names.f k l) (namesB l) := by
  unfold spec_l04Names.f
  have := all_loop (fun k i => spec_l04Names.l0 k l i) (namesAt l) l.length true ?_ ?_
  · simpa [namesB] using this
  · exact Ev_one fun k => by simp only [spec_l04Names.l0]; rw [if_neg (by omega)]
  · intro i hi u hu
    have e0 : wrap64 ((i : Int) + 1) = ((i + 1 : Nat) : Int) := by rw [wsucc (by omega) (by omega)]; omega
    refine Ev.step (fun k => by simp only [spec_l04Names.l0]; rw [if_pos (by omega), if_pos (by omega), e0]) ?_
    refine Ev_bind (spec_name _) ?_
    unfold namesAt stepB
    cases nameB (rdOf ByteArray.empty l (i : Int))
    · exact Ev_some fun k => by simp
    · simp only [if_true, Bool.true_and]
      by_cases h0 : i = 0
      · subst h0
        simpa using hu
      · rw [decide_eq_false h0, Bool.false_or]
        refine Ev.congr (fun k => by rw [if_pos (by omega), w_id (by omega) (by omega), if_pos (by omega), if_pos (by omega)]) ?_
        unfold lessB
        cases Op.bytesLess (rdOf ByteArray.empty l ((i : Int) - 1)).toList (rdOf ByteArray.empty l (i : Int)).toList
        · exact Ev_some fun k => by simp
        · simpa using hu
theorem filter_val (known : List ByteArray) (l : List S115) (x : XS) : ∃ v, filterB x = true → ∃ k, evF (nodeV known l) k x = some (v, []) := by
  by_cases h : filterB x = true
  · obtain ⟨h20, D, hE, hpos⟩ := (filterB_spec x).2.2 h
    obtain ⟨k, v, hev⟩ := filter_taken (nodeV known l) x h20 D hE hpos
    exact ⟨v, fun _ => ⟨k, hev⟩⟩
  · exact ⟨0, fun h' => absurd h' h⟩
/-- What a filter says. -/
noncomputable def filterV (known : List ByteArray) (l : List S115) (x : XS) : Int := Classical.choose (filter_val known l x)
theorem filterV_spec (known : List ByteArray) (l : List S115) (x : XS) (h : filterB x = true) : ∃ k, evF (nodeV known l) k x = some (filterV known l x, []) := Classical.choose_spec (filter_val known l x) h
noncomputable def filterEvalV (x : XS) (d : List S113) (l : List S115) (known : List ByteArray) : Int :=
  if decide ((x.length : Int) > 400) || decide ((known.length : Int) > 400) then 0 else if filterB x && (entryB d l && namesB known) then filterV known l x else 2
theorem spec_filterEval (x : XS) (d : List S113) (l : List S115) (known : List ByteArray) (hd : d.length ≤ 9223372036854775807) (hl : l.length ≤ 9223372036854775807) (hv : ∀ x, x ∈ l → x.f1.length ≤ 9223372036854775807) :
    Ev (fun k => spec_FilterEval.f k x d l known) (filterEvalV x d l known) := by
  unfold spec_FilterEval.f filterEvalV
  have hj : ∀ b : Bool, b = (decide ((x.length : Int) > 400) || decide ((known.length : Int) > 400)) → Ev (fun k => spec_FilterEval.j0 k x known b d l) (if (decide ((x.length : Int) > 400) || decide ((known.length : Int) > 400)) = true then 0 else if (filterB x && (entryB d l && namesB known)) = true then filterV known l x else 2) := by
    intro b hb
    rw [← hb]
    cases b
    · refine Ev.step (f := fun k => (spec_FilterRight.f k x).bind fun t398 => if t398 = true then ((spec_EntryRight.f k d l).bind fun t399 => if t399 = true then ((spec_l04Names.f k known).bind fun t400 => if t400 = true then ((spec_l04Eval.f k x 0 d l known).bind fun bt401 => some bt401.1) else some 2) else some 2) else some 2) (fun k => by simp only [spec_FilterEval.j0]; rw [if_neg (by simp)]) ?_
      have hkl : known.length ≤ 400 := by
        simp only [Bool.false_eq, Bool.or_eq_false_iff, decide_eq_false_iff_not] at hb
        omega
      rw [if_neg (by simp)]
      refine Ev_bind (filterB_spec x).1 ?_
      cases hf : filterB x
      · exact Ev_some fun k => by simp
      · simp only [if_true, Bool.true_and]
        refine Ev_bind (spec_entry d l hd hl hv) ?_
        cases he : entryB d l
        · exact Ev_some fun k => by simp
        · simp only [if_true, Bool.true_and]
          refine Ev_bind (spec_names known (by omega)) ?_
          cases namesB known
          · exact Ev_some fun k => by simp
          · simp only [if_true]
            obtain ⟨k, hk⟩ := filterV_spec known l x hf
            obtain ⟨e, _, _, _, hE⟩ := (spec_eval known d l (up_of_entry he) (by omega) hl hv x (by have := ((filterB_spec x).2.2 hf).1; omega) k).1 x _ _ hk 0 rfl (Nat.zero_le _)
            exact Ev_bind hE (Ev.now _)
    · rw [if_pos rfl]
      exact Ev_one fun k => by simp [spec_FilterEval.j0]
  by_cases h1 : (x.length : Int) > 400
  · simp only [if_pos h1]
    exact hj true (by rw [decide_eq_true h1]; rfl)
  · simp only [if_neg h1]
    exact hj _ (by rw [decide_eq_false h1]; rfl)
def impl_FilterEval.f (k : Nat) (l0 : XS) (l1_0 : List S113) (l1_1 : List S115) (l2 : List ByteArray) : Option Int :=
  if (l0.length : Int) > 400 then some 0 else if (l2.length : Int) > 400 then some 0 else (impl_FilterRight.f k l0).bind fun b1 => if b1 = true then ((impl_EntryRight.f k l1_0 l1_1).bind fun b2 => if b2 = true then ((impl_areNames.f k l2).bind fun b3 => if b3 = true then ((evF (nodeV l2 l1_1) k l0).bind fun q => some q.1) else some 2) else some 2) else some 2
theorem impl_FilterEval.mono (l0 : XS) (l1_0 : List S113) (l1_1 : List S115) (l2 : List ByteArray) (k : Nat) : LeO (impl_FilterEval.f k l0 l1_0 l1_1 l2) (impl_FilterEval.f (k + 1) l0 l1_0 l1_1 l2) := by
  unfold impl_FilterEval.f
  refine LeO.ite (LeO.refl _) (LeO.ite (LeO.refl _) (LeO.bind (impl_FilterRight.mono _ _) fun _ => LeO.ite (LeO.bind (impl_EntryRight.mono _ _ _) fun _ => LeO.ite (LeO.bind (impl_areNames.mono _ _) fun _ => LeO.ite (LeO.bind (fun r h => (ev_mono _ k).1 _ _ h) fun _ => LeO.refl _) (LeO.refl _)) (LeO.refl _)) (LeO.refl _)))
theorem impl_filterEval (x : XS) (d : List S113) (l : List S115) (known : List ByteArray) : Ev (fun k => impl_FilterEval.f k x d l known) (filterEvalV x d l known) := by
  unfold impl_FilterEval.f filterEvalV
  by_cases h1 : (x.length : Int) > 400
  · simp only [if_pos h1, decide_eq_true h1, Bool.true_or, if_true]
    exact Ev.now _
  · by_cases h2 : (known.length : Int) > 400
    · simp only [if_neg h1, if_pos h2, decide_eq_true h2, Bool.or_true, if_true]
      exact Ev.now _
    · simp only [if_neg h1, if_neg h2, decide_eq_false h1, decide_eq_false h2, Bool.or_false, Bool.false_eq_true, if_false]
      refine Ev_bind (filterB_spec x).2.1 ?_
      cases hf : filterB x
      · exact Ev_some fun k => by simp
      · simp only [if_true, Bool.true_and]
        refine Ev_bind (impl_entry d l) ?_
        cases he : entryB d l
        · exact Ev_some fun k => by simp
        · simp only [if_true, Bool.true_and]
          refine Ev_bind (impl_names known (by omega)) ?_
          cases namesB known
          · exact Ev_some fun k => by simp
          · simp only [if_true]
            obtain ⟨k, hk⟩ := filterV_spec known l x hf
            exact Ev_bind (a := (filterV known l x, [])) ⟨k, fun k' hk' => evF_le _ hk' hk⟩ (Ev.now _)
theorem many_node (A : Option Addr) (c : Nat) (l : XS) (W : World) (hr : Kd.C k87 W A l.length l) (hc : l.length ≤ c) : Calls Tryz.prog 49 #[.slice A l.length c] W fun e w' => e = .returned (.bool (decide ((l.length : Int) > 400))) ∧ Below W.heap.size W w' := by
  refine (impl_isMany_Node.calls A c l _ W hr hc rfl).mono ?_
  rintro e w' ⟨rfl, h⟩
  exact ⟨rfl, by first | exact h | exact h.below | (subst h; exact Below.refl _ _) | (obtain ⟨n, rfl⟩ := h; exact pw_below_drewN (Below.refl _ _) n)⟩
theorem many_string (A : Option Addr) (c : Nat) (l : List ByteArray) (W : World) (hr : Kd.C Kd.string W A l.length l) (hc : l.length ≤ c) : Calls Tryz.prog 50 #[.slice A l.length c] W fun e w' => e = .returned (.bool (decide ((l.length : Int) > 400))) ∧ Below W.heap.size W w' := by
  refine (impl_isMany_string.calls A c l _ W hr hc rfl).mono ?_
  rintro e w' ⟨rfl, h⟩
  exact ⟨rfl, by first | exact h | exact h.below | (subst h; exact Below.refl _ _) | (obtain ⟨n, rfl⟩ := h; exact pw_below_drewN (Below.refl _ _) n)⟩
set_option maxHeartbeats 8000000 in
set_option maxRecDepth 100000 in
theorem impl_FilterEval.calls (k : Nat) (A0 : Option Addr) (c0 : Nat) (l0 : XS) (A1_0 : Option Addr) (c1_0 : Nat) (l1_0 : List S113) (A1_1 : Option Addr) (c1_1 : Nat) (l1_1 : List S115) (A2 : Option Addr) (c2 : Nat) (l2 : List ByteArray) (r : Int) (w : World)
    (hr0 : Kd.C k87 w A0 l0.length l0) (hc0 : l0.length ≤ c0) (hr1_0 : Kd.C k113 w A1_0 l1_0.length l1_0) (hc1_0 : l1_0.length ≤ c1_0) (hr1_1 : Kd.C k115 w A1_1 l1_1.length l1_1) (hc1_1 : l1_1.length ≤ c1_1) (hr2 : Kd.C Kd.string w A2 l2.length l2) (hc2 : l2.length ≤ c2) (h : impl_FilterEval.f k l0 l1_0 l1_1 l2 = some r) :
    Calls Tryz.prog 20 #[.slice A0 l0.length c0, .agg #[.slice A1_0 l1_0.length c1_0, .slice A1_1 l1_1.length c1_1], .slice A2 l2.length c2] w fun e w' => e = .returned (.int .i64 r) ∧ Below w.heap.size w w' := by
  obtain ⟨w1, hw1⟩ : ∃ w1, w.alloc (.cells #[.slice A1_0 l1_0.length c1_0, .slice A1_1 l1_1.length c1_1] 37) = w1 := ⟨_, rfl⟩
  have hb0 : Below w.heap.size w w1 := by rw [← hw1]; exact below_alloc (Below.refl _ _) _
  have hE : EntAt w1 w.heap.size A1_0 l1_0.length c1_0 A1_1 c1_1 l1_1 := by
    have hn : w1.heap[w.heap.size]? = some (.cells #[.slice A1_0 l1_0.length c1_0, .slice A1_1 l1_1.length c1_1] 37 (0, 0)) := by rw [← hw1]; exact heap_alloc_new w _
    exact ⟨cell_blk hn rfl, cell_blk hn rfl, hc1_1, Kd.C_below hr1_1 hb0⟩
  have HB0 := Aside0.mk hb0
  have HMN := Aside0.mk (fun (W : World) (hb : Below w1.heap.size w1 W) => many_node A0 c0 l0 W (Kd.C_below (Kd.C_below hr0 hb0) hb) hc0)
  have HMS := Aside0.mk (fun (W : World) (hb : Below w1.heap.size w1 W) => many_string A2 c2 l2 W (Kd.C_below (Kd.C_below hr2 hb0) hb) hc2)
  have HV := Aside0.mk (fun (W : World) (hb : Below w1.heap.size w1 W) => (And.intro (hE.below hb).e0 (hE.below hb).e1))
  have HFR := Aside0.mk (fun (b : Bool) (hf : impl_FilterRight.f k l0 = some b) (W : World) (hb : Below w1.heap.size w1 W) => impl_FilterRight.calls k A0 c0 l0 b W (Kd.C_below (Kd.C_below hr0 hb0) hb) hc0 hf)
  have HER := Aside0.mk (fun (b : Bool) (hf : impl_EntryRight.f k l1_0 l1_1 = some b) (W : World) (hb : Below w1.heap.size w1 W) => impl_EntryRight.calls k A1_0 c1_0 l1_0 A1_1 c1_1 l1_1 b W (Kd.C_below (Kd.C_below hr1_0 hb0) hb) hc1_0 (Kd.C_below (Kd.C_below hr1_1 hb0) hb) hc1_1 hf)
  have HNR := Aside0.mk (fun (b : Bool) (hf : impl_areNames.f k l2 = some b) (W : World) (hb : Below w1.heap.size w1 W) => impl_areNames.calls k A2 c2 l2 b W (Kd.C_below (Kd.C_below hr2 hb0) hb) hc2 hf)
  have HEV := Aside0.mk (fun (hent : entryB l1_0 l1_1 = true) (v : Int) (rest : XS) (hev : evF (nodeV l2 l1_1) k l0 = some (v, rest)) (W : World) (hb : Below w1.heap.size w1 W) => eval_calls w1 w.heap.size A1_0 l1_0.length c1_0 A1_1 c1_1 l1_1 A2 c2 l2 hE (rises_of (up_of_entry hent)) (Kd.C_below hr2 hb0) hc2 k k (Nat.le_refl _) l0 v rest hev A0 c0 W (Kd.C_below hr0 hb0) hc0 hb)
  clear hr0 hr1_0 hr1_1 hr2 hE hb0
  unfold impl_FilterEval.f at h
  by_cases h1 : (l0.length : Int) > 400
  · rw [if_pos h1] at h
    obtain rfl := Option.some.inj h
    have HM1 := HMN.out w1 (Below.refl _ _)
    rw [decide_eq_true h1] at HM1
    clear h1 h
    go_enter Tryz.func20, Tryz.ntmps20
    go_wp2_with (go_at_call 49; refine HM1.mono ?_; rintro e w2 ⟨rfl, hb2⟩)
    go_ret
    exact ⟨rfl, below_step HB0.out hb2⟩
  rw [if_neg h1] at h
  have HM1 := HMN.out w1 (Below.refl _ _)
  rw [decide_eq_false h1] at HM1
  clear h1
  by_cases h2 : (l2.length : Int) > 400
  · rw [if_pos h2] at h
    obtain rfl := Option.some.inj h
    have HM2 := Aside0.mk (fun W hb => (show Calls Tryz.prog 50 #[.slice A2 l2.length c2] W (fun e w' => e = .returned (.bool true) ∧ Below W.heap.size W w') by have := HMS.out W hb; rw [decide_eq_true h2] at this; exact this))
    clear h2 h
    go_enter Tryz.func20, Tryz.ntmps20
    go_wp2_with (first | (go_at_call 49; refine HM1.mono ?_; rintro e w2 ⟨rfl, hb2⟩) | (go_at_call 50; refine (HM2.out w2 hb2).mono ?_; rintro e w3 ⟨rfl, hb3⟩))
    go_ret
    exact ⟨rfl, below_step HB0.out (below_step hb2 hb3)⟩
  rw [if_neg h2] at h
  have HM2 := Aside0.mk (fun W hb => (show Calls Tryz.prog 50 #[.slice A2 l2.length c2] W (fun e w' => e = .returned (.bool false) ∧ Below W.heap.size W w') by have := HMS.out W hb; rw [decide_eq_false h2] at this; exact this))
  clear h2
  obtain ⟨b1, hf1, h⟩ := Option.bind_eq_some_iff.1 h
  have HF1 := Aside0.mk (HFR.out b1 hf1)
  clear hf1
  cases b1 with
  | false =>
    rw [if_neg (by simp)] at h
    obtain rfl := Option.some.inj h
    clear h
    go_enter Tryz.func20, Tryz.ntmps20
    go_wp2_with (first | (go_at_call 49; refine HM1.mono ?_; rintro e w2 ⟨rfl, hb2⟩) | (go_at_call 50; refine (HM2.out w2 hb2).mono ?_; rintro e w3 ⟨rfl, hb3⟩) | (go_at_call 51; refine (HF1.out w3 (below_step hb2 hb3)).mono ?_; rintro e w4 ⟨rfl, hb4⟩; obtain ⟨f0, f1⟩ := HV.out w4 (below_step hb2 (below_step hb3 hb4))))
    go_ret
    exact ⟨rfl, below_step HB0.out (below_step hb2 (below_step hb3 hb4))⟩
  | true =>
    rw [if_pos rfl] at h
    obtain ⟨b2, hf2, h⟩ := Option.bind_eq_some_iff.1 h
    have HF2 := Aside0.mk (HER.out b2 hf2)
    have HEQ := Aside0.mk (show entryB l1_0 l1_1 = b2 from Ev_eq (impl_entry l1_0 l1_1) (Ev.of (fun k => impl_EntryRight.mono _ _ _) hf2))
    clear hf2
    cases b2 with
    | false =>
      rw [if_neg (by simp)] at h
      obtain rfl := Option.some.inj h
      clear h
      go_enter Tryz.func20, Tryz.ntmps20
      go_wp2_with (first | (go_at_call 49; refine HM1.mono ?_; rintro e w2 ⟨rfl, hb2⟩) | (go_at_call 50; refine (HM2.out w2 hb2).mono ?_; rintro e w3 ⟨rfl, hb3⟩) | (go_at_call 51; refine (HF1.out w3 (below_step hb2 hb3)).mono ?_; rintro e w4 ⟨rfl, hb4⟩; obtain ⟨f0, f1⟩ := HV.out w4 (below_step hb2 (below_step hb3 hb4))) | (go_at_call 39; refine (HF2.out w4 (below_step hb2 (below_step hb3 hb4))).mono ?_; rintro e w5 ⟨rfl, hb5⟩))
      go_ret
      exact ⟨rfl, below_step HB0.out (below_step hb2 (below_step hb3 (below_step hb4 hb5)))⟩
    | true =>
      rw [if_pos rfl] at h
      obtain ⟨b3, hf3, h⟩ := Option.bind_eq_some_iff.1 h
      have HF3 := Aside0.mk (HNR.out b3 hf3)
      clear hf3
      cases b3 with
      | false =>
        rw [if_neg (by simp)] at h
        obtain rfl := Option.some.inj h
        clear h
        go_enter Tryz.func20, Tryz.ntmps20
        go_wp2_with (first | (go_at_call 49; refine HM1.mono ?_; rintro e w2 ⟨rfl, hb2⟩) | (go_at_call 50; refine (HM2.out w2 hb2).mono ?_; rintro e w3 ⟨rfl, hb3⟩) | (go_at_call 51; refine (HF1.out w3 (below_step hb2 hb3)).mono ?_; rintro e w4 ⟨rfl, hb4⟩; obtain ⟨f0, f1⟩ := HV.out w4 (below_step hb2 (below_step hb3 hb4))) | (go_at_call 39; refine (HF2.out w4 (below_step hb2 (below_step hb3 hb4))).mono ?_; rintro e w5 ⟨rfl, hb5⟩) | (go_at_call 52; refine (HF3.out w5 (below_step hb2 (below_step hb3 (below_step hb4 hb5)))).mono ?_; rintro e w6 ⟨rfl, hb6⟩))
        go_ret
        exact ⟨rfl, below_step HB0.out (below_step hb2 (below_step hb3 (below_step hb4 (below_step hb5 hb6))))⟩
      | true =>
        rw [if_pos rfl] at h
        obtain ⟨⟨v, rest⟩, hev, h⟩ := Option.bind_eq_some_iff.1 h
        obtain rfl := Option.some.inj h
        have HF4 := Aside0.mk (HEV.out HEQ.out v rest hev)
        clear hev h
        show Calls _ _ _ _ fun e w' => e = .returned (.int .i64 v) ∧ Below w.heap.size w w'
        go_enter Tryz.func20, Tryz.ntmps20
        go_wp2_with (first | (go_at_call 49; refine HM1.mono ?_; rintro e w2 ⟨rfl, hb2⟩) | (go_at_call 50; refine (HM2.out w2 hb2).mono ?_; rintro e w3 ⟨rfl, hb3⟩) | (go_at_call 51; refine (HF1.out w3 (below_step hb2 hb3)).mono ?_; rintro e w4 ⟨rfl, hb4⟩; obtain ⟨f0, f1⟩ := HV.out w4 (below_step hb2 (below_step hb3 hb4))) | (go_at_call 39; refine (HF2.out w4 (below_step hb2 (below_step hb3 hb4))).mono ?_; rintro e w5 ⟨rfl, hb5⟩) | (go_at_call 52; refine (HF3.out w5 (below_step hb2 (below_step hb3 (below_step hb4 hb5)))).mono ?_; rintro e w6 ⟨rfl, hb6⟩) | (go_at_call 53; refine (HF4.out w6 (below_step hb2 (below_step hb3 (below_step hb4 (below_step hb5 hb6))))).mono ?_; rintro e w7 ⟨A7, c7, rfl, hl7, hC7, hb7⟩))
        go_ret
        exact ⟨rfl, below_step HB0.out (below_step hb2 (below_step hb3 (below_step hb4 (below_step hb5 (below_step hb6 hb7)))))⟩
end Go.Proofs.YtpocoeghobdfiaaGreatDoor.PG
