/-
  The program's ExprEval, walked: it comes to exprEvalV. No condition but the lengths' bounds.
-/
import Derived.Test.YtpocoeghobdfiaaGreatDoorEEP4
import Derived.Test.YtpocoeghobdfiaaGreatDoorEEP2
import Derived.Test.YtpocoeghobdfiaaGreatDoorEEP5
import Derived.Test.YtpocoeghobdfiaaGreatDoorEEExprEvalN
import Derived.Test.YtpocoeghobdfiaaGreatDoorEESorted
namespace Go.Proofs.YtpocoeghobdfiaaGreatDoor.PG
open Go.RowKit Go.Proofs.YtpocoeghobdfiaaGreatDoorW.PrintWords Go.Proofs.YtpocoeghobdfiaaGreatDoorW.PrintLast Go.Proofs.YtpocoeghobdfiaaGreatDoorW.PrintMore Go.Proofs.YtpocoeghobdfiaaGreatDoor.Gn Go.Proofs.YtpocoeghobdfiaaGreatDoor.Sem
attribute [local go_sem] max2_int min2_int max_two min_two max_three min_three max_four min_four World.cell?_drew World.frozen?_drew
set_option linter.unusedVariables false
set_option linter.unusedSimpArgs false

theorem and_tt (b : Bool) : (true && b) = b := by cases b <;> rfl
theorem exprEval_calls (L : List S115) (W0 : World) (g : Nat) (A0 : Option Addr) (n0 c0 : Nat) (A1 : Option Addr) (c1 : Nat) (he : EntAt W0 g A0 n0 c0 A1 c1 L) (hs : Rises L) {x : List S70} {t : ByteArray} {r : List S70} {f : Bool} (h : Tx L x t r f) :
    x.length ≤ 500 → ∀ (A : Option Addr) (c : Nat) (W : World), Kd.C k70 W0 A x.length x → x.length ≤ c → Below W0.heap.size W0 W → Calls Tryz.prog 74 #[.slice A x.length c, .pointer (some ⟨g, 0, none⟩)] W (RetX W0 W t r f) := by
  induction h with
  | text p r h1 h2 =>
    intro hx A c W hr hc hb
    obtain ⟨op, txt, num⟩ := p
    have h3 := exprEval_all L W0 g A0 n0 c0 A1 c1 he hs op txt num r r [] true txt ⟨rfl, rfl⟩ (by simp only at h1; rw [h1]; rfl) (by simp) (.inl ⟨h1, rfl, rfl⟩) (by simp only at h2; omega) A c W hr hc hb
    rw [and_tt] at h3
    exact h3
  | attr p r h1 h2 =>
    intro hx A c W hr hc hb
    obtain ⟨op, txt, num⟩ := p
    have h3 := exprEval_all L W0 g A0 n0 c0 A1 c1 he hs op txt num r r [] true (headS (valsOf txt L)) ⟨rfl, rfl⟩ (by simp only at h1; rw [h1]; rfl) (by simp) (.inr (.inl ⟨h1, rfl, rfl⟩)) (by simp only at h2; omega) A c W hr hc hb
    rw [and_tt] at h3
    exact h3
  | lower p r r1 a f h1 h2 ih =>
    intro hx A c W hr hc hb
    have hz := h2.size
    obtain ⟨op, txt, num⟩ := p
    simp only [List.length_cons] at hx
    refine exprEval_all L W0 g A0 n0 c0 A1 c1 he hs op txt num r r1 [a] f (caseS false a) ⟨r1, f, true, fun A c W hA hc hb => ih (by omega) A c W hA hc hb, ⟨rfl, rfl⟩, by simp⟩ (by simp only at h1; rw [h1]; rfl) (by simp) (.inr (.inr (.inl ⟨h1, a, rfl, by omega, rfl⟩))) (by rw [caseS_size]; omega) A c W hr hc hb
  | upper p r r1 a f h1 h2 ih =>
    intro hx A c W hr hc hb
    have hz := h2.size
    obtain ⟨op, txt, num⟩ := p
    simp only [List.length_cons] at hx
    refine exprEval_all L W0 g A0 n0 c0 A1 c1 he hs op txt num r r1 [a] f (caseS true a) ⟨r1, f, true, fun A c W hA hc hb => ih (by omega) A c W hA hc hb, ⟨rfl, rfl⟩, by simp⟩ (by simp only at h1; rw [h1]; rfl) (by simp) (.inr (.inr (.inr (.inl ⟨h1, a, rfl, by omega, rfl⟩)))) (by rw [caseS_size]; omega) A c W hr hc hb
  | join p r r1 r2 a b f g' h1 h2 h3 ih ih2 =>
    intro hx A c W hr hc hb
    have hz := h2.size
    have hz2 := h3.size
    obtain ⟨op, txt, num⟩ := p
    simp only [List.length_cons] at hx
    refine exprEval_all L W0 g A0 n0 c0 A1 c1 he hs op txt num r r2 [a, b] (f && g') (a ++ b) ⟨r1, f, g', fun A c W hA hc hb => ih (by omega) A c W hA hc hb, ⟨r2, g', true, fun A c W hA hc hb => ih2 (by omega) A c W hA hc hb, ⟨rfl, rfl⟩, by simp⟩, rfl⟩ (by simp only at h1; rw [h1]; rfl) (by simp) (.inr (.inr (.inr (.inr (.inl ⟨h1, a, b, rfl, rfl⟩))))) (by rw [ByteArray.size_append]; omega) A c W hr hc hb
  | first p r r1 r2 a b f g' h1 h2 h3 ih ih2 =>
    intro hx A c W hr hc hb
    have hz := h2.size
    have hz2 := h3.size
    obtain ⟨op, txt, num⟩ := p
    simp only [List.length_cons] at hx
    refine exprEval_all L W0 g A0 n0 c0 A1 c1 he hs op txt num r r2 [a, b] (f && g') (firstS a b) ⟨r1, f, g', fun A c W hA hc hb => ih (by omega) A c W hA hc hb, ⟨r2, g', true, fun A c W hA hc hb => ih2 (by omega) A c W hA hc hb, ⟨rfl, rfl⟩, by simp⟩, rfl⟩ (by simp only at h1; rw [h1]; rfl) (by simp) (.inr (.inr (.inr (.inr (.inr (.inl ⟨h1, a, b, rfl, rfl⟩)))))) (by unfold firstS; split <;> omega) A c W hr hc hb
  | left p r r1 a f h1 hn0 hn40 h2 ih =>
    intro hx A c W hr hc hb
    have hz := h2.size
    obtain ⟨op, txt, num⟩ := p
    simp only [List.length_cons] at hx
    simp only at hn0 hn40
    refine exprEval_all L W0 g A0 n0 c0 A1 c1 he hs op txt num r r1 [a] f (leftS a num) ⟨r1, f, true, fun A c W hA hc hb => ih (by omega) A c W hA hc hb, ⟨rfl, rfl⟩, by simp⟩ (by simp only at h1; rw [h1]; rfl) (by simp) (.inr (.inr (.inr (.inr (.inr (.inr ⟨h1, a, rfl, by omega, hn0, hn40, rfl⟩)))))) (by have e : (leftS a num).size ≤ a.size := by { simp [leftS]; omega }; omega) A c W hr hc hb
/-- Texts of a valid entry are short. -/
theorem head_short {d : List S113} {l : List S115} (h : entryB d l = true) (name : ByteArray) : (headS (valsOf name l)).size ≤ 100 := by
  rw [vals_at (up_of_entry h)]
  unfold entryB at h
  simp only [Bool.and_eq_true, decide_eq_true_eq, List.all_eq_true, List.mem_range] at h
  refine valsL_mem name l (fun v => (headS v).size ≤ 100) (by show (0 : Nat) ≤ 100; omega) (fun x hx => ?_)
  obtain ⟨i, hi, rfl⟩ := List.getElem_of_mem hx
  have h1 := h.2.2.2 i hi
  unfold attrAt at h1
  simp only [Bool.and_eq_true] at h1
  have h2 := h1.1
  rw [attr_rd l i hi] at h2
  unfold attrB valsB at h2
  simp only [Bool.and_eq_true, decide_eq_true_eq, List.all_eq_true, List.mem_range] at h2
  generalize (l[i]'hi).f1 = v at h2
  have h3 := h2.2.2 0 (by omega)
  cases v with
  | nil => show (0 : Nat) ≤ 100; omega
  | cons y ys =>
    unfold valAt properB at h3
    simp only [Bool.and_eq_true, decide_eq_true_eq] at h3
    have h4 : (rdOf ByteArray.empty (y :: ys) ((0 : Nat) : Int)) = y := rfl
    rw [h4] at h3
    show y.size ≤ 100
    omega
noncomputable def exprB (x : List S70) : Bool := Classical.choose (expr_same x)
theorem exprB_spec (x : List S70) : Ev (fun k => spec_ExprRight.f k x) (exprB x) ∧ Ev (fun k => impl_ExprRight.f k x) (exprB x) := Classical.choose_spec (expr_same x)
theorem exprB_wf {x : List S70} (h : exprB x = true) : x.length ≤ 12 ∧ Wf x [] := by
  obtain ⟨k, hk⟩ := (exprB_spec x).2.rounds
  rw [h] at hk
  exact right_wf hk
theorem tx_val (x : List S70) (d : List S113) (l : List S115) : ∃ p : ByteArray × Bool, (exprB x && entryB d l) = true → Tx l x p.1 [] p.2 := by
  by_cases h : (exprB x && entryB d l) = true
  · have h' := h
    rw [Bool.and_eq_true] at h'
    obtain ⟨t, f, hT⟩ := (exprB_wf h'.1).2.tx (head_short h'.2)
    exact ⟨(t, f), fun _ => hT⟩
  · exact ⟨(⟨#[]⟩, false), fun h' => absurd h' h⟩
noncomputable def txV (x : List S70) (d : List S113) (l : List S115) : ByteArray × Bool := Classical.choose (tx_val x d l)
theorem txV_spec {x : List S70} {d : List S113} {l : List S115} (h : (exprB x && entryB d l) = true) : Tx l x (txV x d l).1 [] (txV x d l).2 := Classical.choose_spec (tx_val x d l) h
/-- What ExprEval answers: a text and a code. -/
noncomputable def exprEvalV (x : List S70) (d : List S113) (l : List S115) : ByteArray × Int :=
  if (x.length : Int) > 400 then (⟨#[]⟩, 2) else if (exprB x && entryB d l) = true then (if (txV x d l).2 = true then ((txV x d l).1, 0) else (⟨#[]⟩, 8)) else (⟨#[]⟩, 1)
def RetT (p : ByteArray × Int) (W : World) (e : Ending) (w' : World) : Prop := e = .returned (.agg #[.string p.1, .int .i64 0, .int .i64 p.2]) ∧ Below W.heap.size W w'
theorem many_part (A : Option Addr) (c : Nat) (l : List S70) (W : World) (hr : Kd.C k70 W A l.length l) (hc : l.length ≤ c) : Calls Tryz.prog 37 #[.slice A l.length c] W fun e w' => e = .returned (.bool (decide ((l.length : Int) > 400))) ∧ Below W.heap.size W w' := by
  refine (impl_isMany_Part.calls A c l _ W hr hc rfl).mono ?_
  rintro e w' ⟨rfl, h⟩
  exact ⟨rfl, by first | exact h | exact h.below | (subst h; exact Below.refl _ _) | (obtain ⟨n, rfl⟩ := h; exact pw_below_drewN (Below.refl _ _) n)⟩
theorem expr_right_c (A : Option Addr) (c : Nat) (x : List S70) (W : World) (hr : Kd.C k70 W A x.length x) (hc : x.length ≤ c) : Calls Tryz.prog 38 #[.slice A x.length c] W fun e w' => e = .returned (.bool (exprB x)) ∧ Below W.heap.size W w' := by
  obtain ⟨k, hk⟩ := (exprB_spec x).2.rounds
  exact impl_ExprRight.calls k A c x _ W hr hc hk
theorem entry_c (A0 : Option Addr) (c0 : Nat) (d : List S113) (A1 : Option Addr) (c1 : Nat) (l : List S115) (W : World) (h0 : Kd.C k113 W A0 d.length d) (l0 : d.length ≤ c0) (h1 : Kd.C k115 W A1 l.length l) (l1 : l.length ≤ c1) :
    Calls Tryz.prog 39 #[.agg #[.slice A0 d.length c0, .slice A1 l.length c1]] W fun e w' => e = .returned (.bool (entryB d l)) ∧ Below W.heap.size W w' := by
  obtain ⟨k, hk⟩ := (impl_entry d l).rounds
  exact impl_EntryRight.calls k A0 c0 d A1 c1 l _ W h0 l0 h1 l1 hk
set_option maxHeartbeats 4000000 in
theorem evaluated_calls (W0 W : World) (t : ByteArray) (f : Bool) (A : Option Addr) (n c g : Nat) (hcon : Calls Tryz.prog 74 #[.slice A n c, .pointer (some ⟨g, 0, none⟩)] W (RetX W0 W t [] f)) :
    Calls Tryz.prog 40 #[.slice A n c, .pointer (some ⟨g, 0, none⟩)] W fun e w' => e = .returned (.tuple #[.string (if f = true then t else ⟨#[]⟩), .int .i64 (if f = true then 0 else 8)]) ∧ Below W.heap.size W w' := by
  cases f
  all_goals
    go_enter Tryz.func40, Tryz.ntmps40
    go_wp2_with (go_at_call 74; refine hcon.mono ?_; rintro e w1 ⟨A1, c1, rfl, h1, hk1, hb1⟩)
    go_ret2
    exact ⟨rfl, hb1⟩
theorem out_row {w : World} {g : Nat} {t t0 : ByteArray} {n n0 m m0 : Int} (h : w.heap[g]? = some (.cells #[.string t0, .int .i64 m0, .int .i64 n0] 30 (0, 0))) : (((w.setCell ⟨g, 0, none⟩ (.string t)).setCell ⟨g, 1, none⟩ (.int .i64 m)).setCell ⟨g, 2, none⟩ (.int .i64 n)).heap[g]? = some (.cells #[.string t, .int .i64 m, .int .i64 n] 30 (0, 0)) :=
  blk_put (cs := #[.string t, .int .i64 m, .int .i64 n0]) (blk_put (cs := #[.string t, .int .i64 m0, .int .i64 n0]) (blk_put (cs := #[.string t0, .int .i64 m0, .int .i64 n0]) h 0 _ rfl) 1 _ rfl) 2 _ rfl
theorem out_below {W w : World} {g : Nat} {u v x : Value} (h : Below W.heap.size W w) (hg : W.heap.size ≤ g) : Below W.heap.size W (((w.setCell ⟨g, 0, none⟩ u).setCell ⟨g, 1, none⟩ v).setCell ⟨g, 2, none⟩ x) := below_set (below_set (below_set h hg) hg) hg
set_option maxHeartbeats 4000000 in
set_option maxRecDepth 100000 in
theorem impl_exprEval_c (A : Option Addr) (c : Nat) (x : List S70) (A0 : Option Addr) (c0 : Nat) (d : List S113) (A1 : Option Addr) (c1 : Nat) (l : List S115) (W : World)
    (hr : Kd.C k70 W A x.length x) (hc : x.length ≤ c) (hr0 : Kd.C k113 W A0 d.length d) (hc0 : d.length ≤ c0) (hr1 : Kd.C k115 W A1 l.length l) (hc1 : l.length ≤ c1) :
    Calls Tryz.prog 11 #[.slice A x.length c, .agg #[.slice A0 d.length c0, .slice A1 l.length c1]] W (RetT (exprEvalV x d l) W) := by
  obtain ⟨w1, hw1⟩ : ∃ w1, W.alloc (.cells #[.slice A0 d.length c0, .slice A1 l.length c1] 37) = w1 := ⟨_, rfl⟩
  have hb0 : Below W.heap.size W w1 := by rw [← hw1]; exact below_alloc (Below.refl _ _) _
  have hE : EntAt w1 W.heap.size A0 d.length c0 A1 c1 l := by
    have hn : w1.heap[W.heap.size]? = some (.cells #[.slice A0 d.length c0, .slice A1 l.length c1] 37 (0, 0)) := by rw [← hw1]; exact heap_alloc_new W _
    exact ⟨cell_blk hn rfl, cell_blk hn rfl, hc1, Kd.C_below hr1 hb0⟩
  obtain ⟨w2, hw2⟩ : ∃ w2, w1.alloc (.cells #[.string ⟨#[]⟩, .int .i64 0, .int .i64 0] 30) = w2 := ⟨_, rfl⟩
  have hb12 : Below w1.heap.size w1 w2 := by rw [← hw2]; exact below_alloc (Below.refl _ _) _
  have hn2 : w2.heap[w1.heap.size]? = some (.cells #[.string ⟨#[]⟩, .int .i64 0, .int .i64 0] 30 (0, 0)) := by rw [← hw2]; exact heap_alloc_new w1 _
  have HM := many_part A c x w2 (Kd.C_below (Kd.C_below hr hb0) hb12) hc
  have HN2 := Aside0.mk hn2
  have HB12 := Aside0.mk hb12
  have HX := Aside0.mk (fun (V : World) (hb : Below w1.heap.size w1 V) => expr_right_c A c x V (Kd.C_below (Kd.C_below hr hb0) hb) hc)
  have HY := Aside0.mk (fun (V : World) (hb : Below w1.heap.size w1 V) => entry_c A0 c0 d A1 c1 l V (Kd.C_below (Kd.C_below hr0 hb0) hb) hc0 (Kd.C_below (Kd.C_below hr1 hb0) hb) hc1)
  have HV := Aside0.mk (fun (V : World) (hb : Below w1.heap.size w1 V) => (And.intro (hE.below hb).e0 (hE.below hb).e1))
  have HT := Aside0.mk (fun (h : (exprB x && entryB d l) = true) (V : World) (hb : Below w1.heap.size w1 V) => evaluated_calls w1 V _ _ A x.length c W.heap.size (exprEval_calls l w1 W.heap.size A0 d.length c0 A1 c1 hE (rises_of (up_of_entry (d := d) (by rw [Bool.and_eq_true] at h; exact h.2))) (txV_spec h) (by rw [Bool.and_eq_true] at h; have := (exprB_wf h.1).1; omega) A c V (Kd.C_below hr hb0) hc hb))
  have HB0 := Aside0.mk hb0
  clear hr hc hr0 hc0 hr1 hc1 hE hb0 hb12 hn2
  unfold exprEvalV
  generalize txV x d l = p at HT ⊢
  obtain ⟨t, f⟩ := p
  simp only at HT ⊢
  generalize exprB x = b1 at HX HT ⊢
  generalize entryB d l = b2 at HY HT ⊢
  have HBV2 : Aside0 (Below w1.heap.size w1 w2) := HB12
  have v0 := (HV.out w2 HB12.out).1
  have v1 := (HV.out w2 HB12.out).2
  by_cases h1 : (x.length : Int) > 400
  · rw [if_pos h1]
    rw [decide_eq_true h1] at HM
    clear h1 HT
    go_enter Tryz.func11, Tryz.ntmps11
    go_wp2_with (first | (go_at_call 37; refine HM.mono ?_; rintro e w3 ⟨rfl, hb3⟩; have HN3 := Aside0.mk (blk_below HN2.out hb3); have HBV3 := Aside0.mk (below_step HBV2.out hb3); obtain ⟨e0, e1⟩ := HV.out w3 HBV3.out; have z0 := blk_cell HN3.out 0; have y0 := blk_frozen HN3.out 0; have z1 := blk_cell HN3.out 1; have y1 := blk_frozen HN3.out 1; have z2 := blk_cell HN3.out 2; have y2 := blk_frozen HN3.out 2))
    refine bodyPost_ret (results_cell_row rfl _ _ w1.heap.size 30 #[.string ⟨#[]⟩, .int .i64 0, .int .i64 2] (0, 0) _ rfl (out_row HN3.out) Tryz.underlying30 rfl (by kernel_rfl)) rfl ?_
    exact ⟨rfl, out_below (below_step HB0.out HBV3.out) HB0.out.size⟩
  rw [if_neg h1]
  rw [decide_eq_false h1] at HM
  clear h1
  cases b1
  · clear HT
    go_enter Tryz.func11, Tryz.ntmps11
    go_wp2_with (first | (go_at_call 37; refine HM.mono ?_; rintro e w3 ⟨rfl, hb3⟩; have HN3 := Aside0.mk (blk_below HN2.out hb3); have HBV3 := Aside0.mk (below_step HBV2.out hb3); obtain ⟨e0, e1⟩ := HV.out w3 HBV3.out; have z0 := blk_cell HN3.out 0; have y0 := blk_frozen HN3.out 0; have z1 := blk_cell HN3.out 1; have y1 := blk_frozen HN3.out 1; have z2 := blk_cell HN3.out 2; have y2 := blk_frozen HN3.out 2) | (go_at_call 38; refine (HX.out w3 HBV3.out).mono ?_; rintro e w4 ⟨rfl, hb4⟩; have HN4 := Aside0.mk (blk_below HN3.out hb4); have HBV4 := Aside0.mk (below_step HBV3.out hb4); obtain ⟨e0, e1⟩ := HV.out w4 HBV4.out; have z0 := blk_cell HN4.out 0; have y0 := blk_frozen HN4.out 0; have z1 := blk_cell HN4.out 1; have y1 := blk_frozen HN4.out 1; have z2 := blk_cell HN4.out 2; have y2 := blk_frozen HN4.out 2))
    refine bodyPost_ret (results_cell_row rfl _ _ w1.heap.size 30 #[.string ⟨#[]⟩, .int .i64 0, .int .i64 1] (0, 0) _ rfl (out_row HN4.out) Tryz.underlying30 rfl (by kernel_rfl)) rfl ?_
    exact ⟨rfl, out_below (below_step HB0.out HBV4.out) HB0.out.size⟩
  cases b2
  · clear HT
    go_enter Tryz.func11, Tryz.ntmps11
    go_wp2_with (first | (go_at_call 37; refine HM.mono ?_; rintro e w3 ⟨rfl, hb3⟩; have HN3 := Aside0.mk (blk_below HN2.out hb3); have HBV3 := Aside0.mk (below_step HBV2.out hb3); obtain ⟨e0, e1⟩ := HV.out w3 HBV3.out; have z0 := blk_cell HN3.out 0; have y0 := blk_frozen HN3.out 0; have z1 := blk_cell HN3.out 1; have y1 := blk_frozen HN3.out 1; have z2 := blk_cell HN3.out 2; have y2 := blk_frozen HN3.out 2) | (go_at_call 38; refine (HX.out w3 HBV3.out).mono ?_; rintro e w4 ⟨rfl, hb4⟩; have HN4 := Aside0.mk (blk_below HN3.out hb4); have HBV4 := Aside0.mk (below_step HBV3.out hb4); obtain ⟨e0, e1⟩ := HV.out w4 HBV4.out; have z0 := blk_cell HN4.out 0; have y0 := blk_frozen HN4.out 0; have z1 := blk_cell HN4.out 1; have y1 := blk_frozen HN4.out 1; have z2 := blk_cell HN4.out 2; have y2 := blk_frozen HN4.out 2) | (go_at_call 39; refine (HY.out w4 HBV4.out).mono ?_; rintro e w5 ⟨rfl, hb5⟩; have HN5 := Aside0.mk (blk_below HN4.out hb5); have HBV5 := Aside0.mk (below_step HBV4.out hb5); obtain ⟨e0, e1⟩ := HV.out w5 HBV5.out; have z0 := blk_cell HN5.out 0; have y0 := blk_frozen HN5.out 0; have z1 := blk_cell HN5.out 1; have y1 := blk_frozen HN5.out 1; have z2 := blk_cell HN5.out 2; have y2 := blk_frozen HN5.out 2))
    refine bodyPost_ret (results_cell_row rfl _ _ w1.heap.size 30 #[.string ⟨#[]⟩, .int .i64 0, .int .i64 1] (0, 0) _ rfl (out_row HN5.out) Tryz.underlying30 rfl (by kernel_rfl)) rfl ?_
    exact ⟨rfl, out_below (below_step HB0.out HBV5.out) HB0.out.size⟩
  have HT2 := Aside0.mk (HT.out rfl)
  clear HT
  cases f
  · go_enter Tryz.func11, Tryz.ntmps11
    go_wp2_with (first | (go_at_call 37; refine HM.mono ?_; rintro e w3 ⟨rfl, hb3⟩; have HN3 := Aside0.mk (blk_below HN2.out hb3); have HBV3 := Aside0.mk (below_step HBV2.out hb3); obtain ⟨e0, e1⟩ := HV.out w3 HBV3.out; have z0 := blk_cell HN3.out 0; have y0 := blk_frozen HN3.out 0; have z1 := blk_cell HN3.out 1; have y1 := blk_frozen HN3.out 1; have z2 := blk_cell HN3.out 2; have y2 := blk_frozen HN3.out 2) | (go_at_call 38; refine (HX.out w3 HBV3.out).mono ?_; rintro e w4 ⟨rfl, hb4⟩; have HN4 := Aside0.mk (blk_below HN3.out hb4); have HBV4 := Aside0.mk (below_step HBV3.out hb4); obtain ⟨e0, e1⟩ := HV.out w4 HBV4.out; have z0 := blk_cell HN4.out 0; have y0 := blk_frozen HN4.out 0; have z1 := blk_cell HN4.out 1; have y1 := blk_frozen HN4.out 1; have z2 := blk_cell HN4.out 2; have y2 := blk_frozen HN4.out 2) | (go_at_call 39; refine (HY.out w4 HBV4.out).mono ?_; rintro e w5 ⟨rfl, hb5⟩; have HN5 := Aside0.mk (blk_below HN4.out hb5); have HBV5 := Aside0.mk (below_step HBV4.out hb5); obtain ⟨e0, e1⟩ := HV.out w5 HBV5.out; have z0 := blk_cell HN5.out 0; have y0 := blk_frozen HN5.out 0; have z1 := blk_cell HN5.out 1; have y1 := blk_frozen HN5.out 1; have z2 := blk_cell HN5.out 2; have y2 := blk_frozen HN5.out 2) | (go_at_call 40; refine (HT2.out w5 HBV5.out).mono ?_; rintro e w6 ⟨rfl, hb6⟩; have HN6 := Aside0.mk (blk_below HN5.out hb6); have HBV6 := Aside0.mk (below_step HBV5.out hb6); obtain ⟨e0, e1⟩ := HV.out w6 HBV6.out; have z0 := blk_cell HN6.out 0; have y0 := blk_frozen HN6.out 0; have z1 := blk_cell HN6.out 1; have y1 := blk_frozen HN6.out 1; have z2 := blk_cell HN6.out 2; have y2 := blk_frozen HN6.out 2))
    refine bodyPost_ret (results_cell_row rfl _ _ w1.heap.size 30 #[.string ⟨#[]⟩, .int .i64 0, .int .i64 8] (0, 0) _ rfl (out_row HN6.out) Tryz.underlying30 rfl (by kernel_rfl)) rfl ?_
    exact ⟨rfl, out_below (below_step HB0.out HBV6.out) HB0.out.size⟩
  · go_enter Tryz.func11, Tryz.ntmps11
    go_wp2_with (first | (go_at_call 37; refine HM.mono ?_; rintro e w3 ⟨rfl, hb3⟩; have HN3 := Aside0.mk (blk_below HN2.out hb3); have HBV3 := Aside0.mk (below_step HBV2.out hb3); obtain ⟨e0, e1⟩ := HV.out w3 HBV3.out; have z0 := blk_cell HN3.out 0; have y0 := blk_frozen HN3.out 0; have z1 := blk_cell HN3.out 1; have y1 := blk_frozen HN3.out 1; have z2 := blk_cell HN3.out 2; have y2 := blk_frozen HN3.out 2) | (go_at_call 38; refine (HX.out w3 HBV3.out).mono ?_; rintro e w4 ⟨rfl, hb4⟩; have HN4 := Aside0.mk (blk_below HN3.out hb4); have HBV4 := Aside0.mk (below_step HBV3.out hb4); obtain ⟨e0, e1⟩ := HV.out w4 HBV4.out; have z0 := blk_cell HN4.out 0; have y0 := blk_frozen HN4.out 0; have z1 := blk_cell HN4.out 1; have y1 := blk_frozen HN4.out 1; have z2 := blk_cell HN4.out 2; have y2 := blk_frozen HN4.out 2) | (go_at_call 39; refine (HY.out w4 HBV4.out).mono ?_; rintro e w5 ⟨rfl, hb5⟩; have HN5 := Aside0.mk (blk_below HN4.out hb5); have HBV5 := Aside0.mk (below_step HBV4.out hb5); obtain ⟨e0, e1⟩ := HV.out w5 HBV5.out; have z0 := blk_cell HN5.out 0; have y0 := blk_frozen HN5.out 0; have z1 := blk_cell HN5.out 1; have y1 := blk_frozen HN5.out 1; have z2 := blk_cell HN5.out 2; have y2 := blk_frozen HN5.out 2) | (go_at_call 40; refine (HT2.out w5 HBV5.out).mono ?_; rintro e w6 ⟨rfl, hb6⟩; have HN6 := Aside0.mk (blk_below HN5.out hb6); have HBV6 := Aside0.mk (below_step HBV5.out hb6); obtain ⟨e0, e1⟩ := HV.out w6 HBV6.out; have z0 := blk_cell HN6.out 0; have y0 := blk_frozen HN6.out 0; have z1 := blk_cell HN6.out 1; have y1 := blk_frozen HN6.out 1; have z2 := blk_cell HN6.out 2; have y2 := blk_frozen HN6.out 2))
    refine bodyPost_ret (results_cell_row rfl _ _ w1.heap.size 30 #[.string t, .int .i64 0, .int .i64 0] (0, 0) _ rfl (out_row HN6.out) Tryz.underlying30 rfl (by kernel_rfl)) rfl ?_
    exact ⟨rfl, out_below (below_step HB0.out HBV6.out) HB0.out.size⟩
noncomputable def impl_ExprEval.f (l0 : List S70) (l1_0 : List S113) (l1_1 : List S115) : Option (ByteArray × Int × Int) := some ((exprEvalV l0 l1_0 l1_1).1, 0, (exprEvalV l0 l1_0 l1_1).2)
theorem impl_ExprEval.calls (A0 : Option Addr) (c0 : Nat) (l0 : List S70) (A1_0 : Option Addr) (c1_0 : Nat) (l1_0 : List S113) (A1_1 : Option Addr) (c1_1 : Nat) (l1_1 : List S115) (r1 : ByteArray) (r2 r3 : Int) (w : World)
    (hr0 : Kd.C k70 w A0 l0.length l0) (hc0 : l0.length ≤ c0) (hr1_0 : Kd.C k113 w A1_0 l1_0.length l1_0) (hc1_0 : l1_0.length ≤ c1_0) (hr1_1 : Kd.C k115 w A1_1 l1_1.length l1_1) (hc1_1 : l1_1.length ≤ c1_1) (h : impl_ExprEval.f l0 l1_0 l1_1 = some (r1, r2, r3)) :
    Calls Tryz.prog 11 #[.slice A0 l0.length c0, .agg #[.slice A1_0 l1_0.length c1_0, .slice A1_1 l1_1.length c1_1]] w fun e w' => e = .returned (.agg #[.string r1, .int .i64 r2, .int .i64 r3]) ∧ Below w.heap.size w w' := by
  unfold impl_ExprEval.f at h
  simp only [Option.some.injEq, Prod.mk.injEq] at h
  obtain ⟨rfl, rfl, rfl⟩ := h
  exact impl_exprEval_c A0 c0 l0 A1_0 c1_0 l1_0 A1_1 c1_1 l1_1 w hr0 hc0 hr1_0 hc1_0 hr1_1 hc1_1
end Go.Proofs.YtpocoeghobdfiaaGreatDoor.PG
