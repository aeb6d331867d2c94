/-
  Functions that the law reaches, each as a plain Lean function, with the proof that the call comes to it (written by a program of this session by way of the kit's print program). Conditions: what each contract states.
-/
import Derived.Laws.Cover1
import Derived.Test.YtpocoeghobdfiaaGreatDoorEEP1
import Derived.Test.YtpocoeghobdfiaaGreatDoorEEP2
import Derived.Test.YtpocoeghobdfiaaGreatDoorEESq
namespace Go.Proofs.YtpocoeghobdfiaaGreatDoor.PG
open Go.Proofs.YtpocoeghobdfiaaGreatDoor.Sq Go.RowKit Go.Proofs.YtpocoeghobdfiaaGreatDoorW.PrintWords Go.Proofs.YtpocoeghobdfiaaGreatDoorW.PrintLast Go.Proofs.YtpocoeghobdfiaaGreatDoorW.PrintMore
attribute [local go_sem] max2_int min2_int max_two min_two max_three min_three max_four min_four   -- for this text's walks alone
set_option linter.unusedVariables false
set_option linter.unusedSimpArgs false

/-! ### spec_l03Of: function 103 -/
def spec_l03Of.f (k : Nat) (l0_0 : List (S113)) (l0_1 : List (S115)) (a1 : ByteArray) : Option (List ByteArray) := (spec_l03At.f k l0_0 l0_1 a1).bind fun t236 => (if t236 < 0 then (some ([] : List ByteArray)) else (if 0 ≤ t236 then (if t236 < (l0_1.length : Int) then (some ((rd_T115 l0_1 t236).f1)) else (none)) else (none)))
theorem spec_l03Of.mono : ∀ a0 a1 a2 k, LeO (spec_l03Of.f k a0 a1 a2) (spec_l03Of.f (k + 1) a0 a1 a2) := by
  intro a0 a1 a2 k
  unfold spec_l03Of.f
  repeat' first
      | (with_reducible exact spec_l03At.mono _ _ _ _)
      | (with_reducible exact LeO.refl _)
      | (with_reducible exact LeO.none _)
      | (with_reducible refine LeO.ite ?_ ?_)
      | (with_reducible refine LeO.bind ?_ (fun _ => ?_))
      | exact spec_l03At.mono _ _ _ _
      | exact LeO.none _
      | refine LeO.ite ?_ ?_
      | refine LeO.bind ?_ (fun _ => ?_)
set_option maxHeartbeats 8000000 in
set_option maxRecDepth 100000 in
theorem spec_l03Of.calls (k : Nat) (A0_0 : Option Addr) (c0_0 : Nat) (l0_0 : List (S113)) (P0_1_ : Nat → Prop) (A0_1 : Option Addr) (c0_1 : Nat) (l0_1 : List (S115)) (a1 : ByteArray) (r : List ByteArray) (w : World) (hr0_0 : Kd.C k113 w A0_0 l0_0.length l0_0) (hc0_0 : l0_0.length ≤ c0_0) (hs0_1 : Kd.V k115 115 w w.heap.size (fun k_ => P0_1_ k_) (.slice A0_1 l0_1.length c0_1) l0_1) (h : spec_l03Of.f k l0_0 l0_1 a1 = some r) :
    Calls Tryz.prog 103 #[.agg #[.slice A0_0 l0_0.length c0_0, .slice A0_1 l0_1.length c0_1], .string a1] w fun e w' => ∃ v0_ : Value, e = .returned (v0_) ∧ Kd.V Kd.string 9 w' w.heap.size (fun k_ => (P0_1_ k_ ∨ w.heap.size ≤ k_)) v0_ r ∧ Below w.heap.size w w' := by
  have hu37 := Tryz.underlying37
  have HR0_0 := Aside0.mk hr0_0
  have HC0_0 := Aside0.mk hc0_0
  clear hr0_0 hc0_0
  have HO0_1 := Aside0.mk (show Kd.V k115 115 w w.heap.size (fun k_ => (P0_1_ k_ ∨ w.heap.size ≤ k_)) (.slice A0_1 l0_1.length c0_1) l0_1 from Kd.V_mono hs0_1 (fun k_ hk => .inl hk))
  have HB := Aside0.mk (Below.refl w.heap.size w)
  have H : ((spec_l03At.f k l0_0 l0_1 a1).bind fun t236 => (if t236 < 0 then (some ([] : List ByteArray)) else (if 0 ≤ t236 then (if t236 < (l0_1.length : Int) then (some ((rd_T115 l0_1 t236).f1)) else (none)) else (none)))) = some r := h
  clear h
  replace H := Option.bind_eq_some_iff.mp H
  obtain ⟨t236, A30, H⟩ := H
  replace H : (if t236 < 0 then (some ([] : List ByteArray)) else (if 0 ≤ t236 then (if t236 < (l0_1.length : Int) then (some ((rd_T115 l0_1 t236).f1)) else (none)) else (none))) = some r := H
  have A3 := Aside0.mk A30
  clear A30
  by_cases c4 : t236 < 0
  · rw [if_pos c4] at H
    have c4b0 : decide (t236 < 0) = true := decide_eq_true c4
    clear c4
    obtain rfl := Option.some.inj H
    go_enter Tryz.func103, Tryz.ntmps103
    go_wp2_with (first | ((with_reducible refine gate_dst (N := 2) rfl ?_); refine box_event ?hg (N := 2) ?hd (cs := #[.slice A0_0 l0_0.length c0_0, .slice A0_1 l0_1.length c0_1]) (t := 37) ?hr ?_; (case hd => rfl); (case hg => rfl); (case hr => first | (go_simp; done) | (go_simp; rfl)); intro gb235 hg w5 hbox hb; have n0_ := Aside0.mk (Kd.V_below (Kd.V_elderB (rV HO0_1.out) gb235 (Nat.le_of_eq hg.symm)) hb); have n1_ := Aside0.mk (below_step By hb); have n2_ := Aside0.mk (hbox); have n3_ := Aside0.mk ((by rw [hg]; exact (below_size By) : w.heap.size ≤ gb235)); have n4_ := Aside0.mk ((by rw [hg]; exact (below_size By) : w.heap.size ≤ gb235)); clear HO0_1; clear HB; have HO0_1 := n0_; have HB := n1_; have BK235 := n2_; have GW235 := n3_; have GE235 := n4_; clear n0_ n1_ n2_ n3_ n4_; clear hb hbox hg; have ⟨hcz6_0, hcz6_1⟩ := cq2 BK235.out; have ⟨hfz6_0, hfz6_1⟩ := fq2 BK235.out) | ((with_reducible refine gate_callee (f := 92) rfl ?_); refine goesL_ (some 8) rfl rfl Tryz.func92 (by kernel_rfl) rfl #[.agg #[.slice A0_0 l0_0.length c0_0, .slice A0_1 l0_1.length c0_1], .string a1] rfl Ag ?_; (with_reducible refine (spec_l03At.calls k _ _ l0_0 _ _ l0_1 a1 t236 _ ?side1 ?side2 ?side3 ?side4 A3.out).mono ?_); (case side1 => exact rC (Kd.C_below HR0_0.out HB.out)); (case side2 => exact HC0_0.out); (case side3 => repeat (first | exact (Kd.V_reads' HO0_1.out).2.2 | (with_reducible refine Kd.C_alloc ?_ _) | (with_reducible refine Kd.C_drewN ?_ _) | (with_reducible refine Kd.C_drew ?_))); (case side4 => exact (Kd.V_reads' HO0_1.out).2.1); rintro e w7 ⟨rfl, hb⟩; refine ⟨_, rfl, ?_⟩; have n0_ := Aside0.mk (Kd.V_below (rV HO0_1.out) hb); have n1_ := Aside0.mk (bb BK235.out hb); have n2_ := Aside0.mk (below_step By hb); clear HO0_1; clear BK235; clear HB; have HO0_1 := n0_; have BK235 := n1_; have HB := n2_; clear n0_ n1_ n2_; (try clear hb); (try clear hb2); (try clear hk); (try clear hi)))
    go_ret
    exact ⟨_, Rf, Kd.V_mono ((Kd.V_nil _ _ _ w.heap.size (fun k_ => w.heap.size ≤ k_))) (fun k_ hk => by first | exact ⟨(.inr (hk.1)), hk.2⟩ | exact (.inr (hk))), By⟩
  · rw [if_neg c4] at H
    have c4b0 : decide (t236 < 0) = false := decide_eq_false c4
    clear c4
    by_cases c8 : 0 ≤ t236
    · rw [if_pos c8] at H
      have c8b0 : decide (0 ≤ t236) = true := decide_eq_true c8
      clear c8
      by_cases c9 : t236 < (l0_1.length : Int)
      · rw [if_pos c9] at H
        have c9b0 : decide (t236 < (l0_1.length : Int)) = true := decide_eq_true c9
        clear c9
        obtain rfl := Option.some.inj H
        go_enter Tryz.func103, Tryz.ntmps103
        go_wp2_with (first | ((with_reducible refine gate_dst (N := 2) rfl ?_); refine box_event ?hg (N := 2) ?hd (cs := #[.slice A0_0 l0_0.length c0_0, .slice A0_1 l0_1.length c0_1]) (t := 37) ?hr ?_; (case hd => rfl); (case hg => rfl); (case hr => first | (go_simp; done) | (go_simp; rfl)); intro gb235 hg w10 hbox hb; have n0_ := Aside0.mk (Kd.V_below (Kd.V_elderB (rV HO0_1.out) gb235 (Nat.le_of_eq hg.symm)) hb); have n1_ := Aside0.mk (below_step By hb); have n2_ := Aside0.mk (hbox); have n3_ := Aside0.mk ((by rw [hg]; exact (below_size By) : w.heap.size ≤ gb235)); have n4_ := Aside0.mk ((by rw [hg]; exact (below_size By) : w.heap.size ≤ gb235)); clear HO0_1; clear HB; have HO0_1 := n0_; have HB := n1_; have BK235 := n2_; have GW235 := n3_; have GE235 := n4_; clear n0_ n1_ n2_ n3_ n4_; clear hb hbox hg; have ⟨hcz11_0, hcz11_1⟩ := cq2 BK235.out; have ⟨hfz11_0, hfz11_1⟩ := fq2 BK235.out) | ((with_reducible refine gate_callee (f := 92) rfl ?_); refine goesL_ (some 8) rfl rfl Tryz.func92 (by kernel_rfl) rfl #[.agg #[.slice A0_0 l0_0.length c0_0, .slice A0_1 l0_1.length c0_1], .string a1] rfl Ag ?_; (with_reducible refine (spec_l03At.calls k _ _ l0_0 _ _ l0_1 a1 t236 _ ?side1 ?side2 ?side3 ?side4 A3.out).mono ?_); (case side1 => exact rC (Kd.C_below HR0_0.out HB.out)); (case side2 => exact HC0_0.out); (case side3 => repeat (first | exact (Kd.V_reads' HO0_1.out).2.2 | (with_reducible refine Kd.C_alloc ?_ _) | (with_reducible refine Kd.C_drewN ?_ _) | (with_reducible refine Kd.C_drew ?_))); (case side4 => exact (Kd.V_reads' HO0_1.out).2.1); rintro e w12 ⟨rfl, hb⟩; refine ⟨_, rfl, ?_⟩; have n0_ := Aside0.mk (Kd.V_below (rV HO0_1.out) hb); have n1_ := Aside0.mk (bb BK235.out hb); have n2_ := Aside0.mk (below_step By hb); clear HO0_1; clear BK235; clear HB; have HO0_1 := n0_; have BK235 := n1_; have HB := n2_; clear n0_ n1_ n2_; (try clear hb); (try clear hb2); (try clear hk); (try clear hi); have ⟨hcz13_0, hcz13_1⟩ := cq2 BK235.out; have ⟨hfz13_0, hfz13_1⟩ := fq2 BK235.out; have p237 : 0 ≤ (t236 : Int) := of_decide_eq_true Da; have q237 : t236 < (l0_1.length : Int) := of_decide_eq_true Da; obtain ⟨ad237, A237_1, c237_1, e237, hx237_0, hx237_1, hl237_1, hi237_1⟩ := at_T115 (Kd.V_reads' HO0_1.out).2.2 t236 p237 q237; cases e237; obtain ⟨ce237, hce237, hMe237, hcc237⟩ := Kd.V_get HO0_1.out z115 t236 p237 (by first | exact q237 | exact of_decide_eq_true Da | (have e_ := (Kd.V_reads' HO0_1.out).1; omega)); obtain ⟨ua237_1, uc237_1, rfl, ul237_1, ge237_1⟩ := k115_openF hMe237; have hv237_1 := hcc237 1 _ rfl; rw [add_field _ _ 1 (by omega)] at hv237_1; replace hv237_1 := Option.some.inj (hv237_1.symm.trans hx237_1); injection hv237_1 with hva_ hvn_ hvc_; rw [hva_] at ge237_1; rw [hvc_] at ul237_1; have HL237_1 := Aside0.mk (show Kd.V Kd.string 9 _ w.heap.size _ _ ((rd_T115 l0_1 t236).f1) from Kd.V_mk ul237_1 ge237_1); clear hva_ hvn_ hvc_ ge237_1 ul237_1; clear hcc237 hce237; have HR237_1 := Aside0.mk hi237_1; have HC237_1 := Aside0.mk hl237_1; clear hi237_1 hl237_1; replace p237 := eq_true p237; replace q237 := eq_true q237))
        go_ret
        exact ⟨_, Rf, by (with_reducible repeat (first | apply Kd.V_alloc | apply Kd.V_drewN | apply Kd.V_drew)); exact Kd.V_mono HL237_1.out (fun _ hk => hk.1), By⟩
      · rw [if_neg c9] at H
        exact absurd H (by simp)
    · rw [if_neg c8] at H
      exact absurd H (by simp)

set_option linter.unusedVariables false
set_option linter.unusedSimpArgs false

/-! ### spec_l03Values: function 102 -/
def spec_l03Values.l0 : Nat → List ByteArray → Int → Option (Bool)
  | 0, _, _ => none
  | k + 1, x0, x3 => if x3 < (x0.length : Int) then (if 0 ≤ x3 then ((spec_l02Value.f k (rdOf ByteArray.empty x0 x3)).bind fun t336 => (if t336 = true then (if x3 > 0 then (if 0 ≤ (wrap64 (x3 - 1)) then (if (wrap64 (x3 - 1)) < (x0.length : Int) then ((spec_Norm.f k (rdOf ByteArray.empty x0 (wrap64 (x3 - 1)))).bind fun t338 => ((spec_Norm.f k (rdOf ByteArray.empty x0 x3)).bind fun t340 => (if ((Op.bytesLess t338.toList t340.toList) = true) then (spec_l03Values.l0 k x0 (wrap64 (x3 + 1))) else (some false)))) else (none)) else (none)) else (spec_l03Values.l0 k x0 (wrap64 (x3 + 1)))) else (some false))) else (none)) else (if (x0.length : Int) ≥ 1 then (some (decide ((x0.length : Int) ≤ 4))) else (some false))
def spec_l03Values.f (k : Nat) (l0 : List ByteArray) : Option (Bool) := spec_l03Values.l0 k l0 0
theorem spec_l03Values.mono_l : ∀ k, (∀ y0 y1, LeO (spec_l03Values.l0 k y0 y1) (spec_l03Values.l0 (k + 1) y0 y1))
  | 0 => fun _ _ r h => by simp [spec_l03Values.l0] at h
  | k + 1 => by
    have ih0 := spec_l03Values.mono_l k
    · intro y0 y1
      unfold spec_l03Values.l0
      repeat' first
      | (with_reducible exact ih0 _ _)
      | (with_reducible exact spec_Norm.mono _ _)
      | (with_reducible exact spec_l02Value.mono _ _)
      | (with_reducible exact LeO.refl _)
      | (with_reducible exact LeO.none _)
      | (with_reducible refine LeO.ite ?_ ?_)
      | (with_reducible refine LeO.bind ?_ (fun _ => ?_))
      | exact ih0 _ _
      | exact spec_Norm.mono _ _
      | exact spec_l02Value.mono _ _
      | exact LeO.none _
      | refine LeO.ite ?_ ?_
      | refine LeO.bind ?_ (fun _ => ?_)
theorem spec_l03Values.mono : ∀ a0 k, LeO (spec_l03Values.f k a0) (spec_l03Values.f (k + 1) a0) := by
  intro a0 k
  have ih0 := spec_l03Values.mono_l k
  unfold spec_l03Values.f
  repeat' first
      | (with_reducible exact ih0 _ _)
      | (with_reducible exact spec_Norm.mono _ _)
      | (with_reducible exact spec_l02Value.mono _ _)
      | (with_reducible exact LeO.refl _)
      | (with_reducible exact LeO.none _)
      | (with_reducible refine LeO.ite ?_ ?_)
      | (with_reducible refine LeO.bind ?_ (fun _ => ?_))
      | exact ih0 _ _
      | exact spec_Norm.mono _ _
      | exact spec_l02Value.mono _ _
      | exact LeO.none _
      | refine LeO.ite ?_ ?_
      | refine LeO.bind ?_ (fun _ => ?_)
def spec_l03Values.T4 : Bool × List (List Nat × List Nat) := (true, [([], []), ([], []), ([0, 1], [0, 1]), ([2], [2]), ([3], [3]), ([4], [4]), ([5, 4], [5]), ([6], [6]), ([7, 6], [6, 7]), ([8, 6, 6], [6, 8]), ([9], [9]), ([9], [9]), ([11, 9], [9, 11]), ([10, 12, 9], [9, 10, 12]), ([13, 9], [9, 13]), ([14, 9, 9], [9, 14]), ([9], [9]), ([9], [9]), ([16, 17, 9], [9, 16, 17]), ([18, 9], [9, 18]), ([19, 15, 9], [9, 19]), ([15, 20, 9], [9, 15, 20]), ([9, 21, 6], [6, 9, 21]), ([6, 22], [6, 22])])
def spec_l03Values.B4 : List Nat := [0, 0, 3, 7, 15, 31, 63, 127, 255, 511, 1023, 1023, 3071, 8191, 16383, 32767, 1023, 1023, 197631, 459775, 1048575, 2097151, 4194303, 8388607]
theorem spec_l03Values.tab4 : rtab .any (opsOf Tryz.f102 4) = spec_l03Values.T4 := by kernel_rfl
theorem spec_l03Values.bits4 : waitsOk spec_l03Values.T4.2 spec_l03Values.B4 = true := by kernel_rfl
set_option maxHeartbeats 8000000 in
set_option maxRecDepth 100000 in
theorem spec_l03Values.calls (k : Nat) (A0 : Option Addr) (c0 : Nat) (l0 : List ByteArray) (r : Bool) (w : World) (hr0 : Kd.C Kd.string w A0 l0.length l0) (hc0 : l0.length ≤ c0) (h : spec_l03Values.f k l0 = some r) :
    Calls Tryz.prog 102 #[.slice A0 l0.length c0] w fun e w' => e = .returned (.bool r) ∧ Below w.heap.size w w' := by
  have HR0 := Aside0.mk hr0
  have HC0 := Aside0.mk hc0
  clear hr0 hc0
  have HB := Aside0.mk (Below.refl w.heap.size w)
  have H : (spec_l03Values.l0 k l0 0) = some r := h
  clear h
  have H' := Aside0.mk H
  clear H
  go_enter Tryz.func102, Tryz.ntmps102
  go_wp2
  go_loopg [3] k (fun kq v3 w' => ∃ (x3_1 : Int), v3 = .int .i64 x3_1 ∧ Aside0 (spec_l03Values.l0 kq l0 x3_1 = some r) ∧ Aside0 (kq ≤ k) ∧ Aside0 (Below w.heap.size w w'))
  case atStart => exact ⟨(0), (by first | rfl | (simp; done) | (simp [*]; done)), H', ⟨Nat.le_refl _⟩, ⟨By⟩⟩
  case round =>
    clear H'
    try clear c1
    obtain ⟨x3_1, rfl, HA, HK1, HB⟩ := hrel
    cases gk with
    | zero => exact absurd HA.out (by simp [spec_l03Values.l0])
    | succ k1 =>
      have H := HA.out
      clear HA
      simp only [spec_l03Values.l0] at H
      by_cases c2 : x3_1 < (l0.length : Int)
      · rw [if_pos c2] at H
        have c2b0 : decide (x3_1 < (l0.length : Int)) = true := decide_eq_true c2
        clear c2
        by_cases c3 : 0 ≤ x3_1
        · rw [if_pos c3] at H
          have c3b0 : decide (0 ≤ x3_1) = true := decide_eq_true c3
          clear c3
          replace H := Option.bind_eq_some_iff.mp H
          obtain ⟨t336, A40, H⟩ := H
          replace H : (if t336 = true then (if x3_1 > 0 then (if 0 ≤ (wrap64 (x3_1 - 1)) then (if (wrap64 (x3_1 - 1)) < (l0.length : Int) then ((spec_Norm.f k1 (rdOf ByteArray.empty l0 (wrap64 (x3_1 - 1)))).bind fun t338 => ((spec_Norm.f k1 (rdOf ByteArray.empty l0 x3_1)).bind fun t340 => (if ((Op.bytesLess t338.toList t340.toList) = true) then (spec_l03Values.l0 k1 l0 (wrap64 (x3_1 + 1))) else (some false)))) else (none)) else (none)) else (spec_l03Values.l0 k1 l0 (wrap64 (x3_1 + 1)))) else (some false)) = some r := H
          have A4 := Aside0.mk A40
          clear A40
          by_cases c5 : t336 = true
          · subst c5
            have H1 : (if x3_1 > 0 then (if 0 ≤ (wrap64 (x3_1 - 1)) then (if (wrap64 (x3_1 - 1)) < (l0.length : Int) then ((spec_Norm.f k1 (rdOf ByteArray.empty l0 (wrap64 (x3_1 - 1)))).bind fun t338 => ((spec_Norm.f k1 (rdOf ByteArray.empty l0 x3_1)).bind fun t340 => (if ((Op.bytesLess t338.toList t340.toList) = true) then (spec_l03Values.l0 k1 l0 (wrap64 (x3_1 + 1))) else (some false)))) else (none)) else (none)) else (spec_l03Values.l0 k1 l0 (wrap64 (x3_1 + 1)))) = some r := by rw [if_pos rfl] at H; exact H
            clear H
            have H := H1
            clear H1
            by_cases c6 : x3_1 > 0
            · rw [if_pos c6] at H
              have c6b0 : decide (0 < x3_1) = true := decide_eq_true c6
              clear c6
              obtain ⟨ji7, hji7⟩ : ∃ j_ : Int, (wrap64 (x3_1 - 1)) = j_ := ⟨_, rfl⟩
              replace H : (if 0 ≤ (ji7) then (if (ji7) < (l0.length : Int) then ((spec_Norm.f k1 (rdOf ByteArray.empty l0 (ji7))).bind fun t338 => ((spec_Norm.f k1 (rdOf ByteArray.empty l0 x3_1)).bind fun t340 => (if ((Op.bytesLess t338.toList t340.toList) = true) then (spec_l03Values.l0 k1 l0 (wrap64 (x3_1 + 1))) else (some false)))) else (none)) else (none)) = some r := by first | (rw [hji7] at H; exact H) | (simp only [hji7] at H ⊢; exact H)
              (try rw [hji7] at A4)
              have hji7w : (IntKind.i64.wrap (x3_1 - 1)) = ji7 := (i64_w _).trans hji7
              by_cases c8 : 0 ≤ (ji7)
              · rw [if_pos c8] at H
                have c8b0 : decide (0 ≤ (ji7)) = true := decide_eq_true c8
                clear c8
                by_cases c9 : (ji7) < (l0.length : Int)
                · rw [if_pos c9] at H
                  have c9b0 : decide ((ji7) < (l0.length : Int)) = true := decide_eq_true c9
                  clear c9
                  replace H := Option.bind_eq_some_iff.mp H
                  obtain ⟨t338, A100, H⟩ := H
                  replace H : ((spec_Norm.f k1 (rdOf ByteArray.empty l0 x3_1)).bind fun t340 => (if ((Op.bytesLess t338.toList t340.toList) = true) then (spec_l03Values.l0 k1 l0 (wrap64 (x3_1 + 1))) else (some false))) = some r := H
                  have A10 := Aside0.mk A100
                  clear A100
                  replace H := Option.bind_eq_some_iff.mp H
                  obtain ⟨t340, A110, H⟩ := H
                  replace H : (if ((Op.bytesLess t338.toList t340.toList) = true) then (spec_l03Values.l0 k1 l0 (wrap64 (x3_1 + 1))) else (some false)) = some r := H
                  have A11 := Aside0.mk A110
                  clear A110
                  by_cases c12 : ((Op.bytesLess t338.toList t340.toList) = true)
                  · rw [if_pos c12] at H
                    have c12b0 : (Op.bytesLess t338.toList t340.toList) = true := c12
                    clear c12
                    have H' := Aside0.mk H
                    clear H
                    try go_wp2
                    have n0_ := Aside0.mk (below_drew1 HB.out)
                    clear HB
                    have HB := n0_
                    clear n0_
                    have p335 : 0 ≤ (x3_1 : Int) := of_decide_eq_true Da
                    have q335 : x3_1 < (l0.length : Int) := of_decide_eq_true Da
                    obtain ⟨ad335, e335, hx335_0⟩ := Kd.at_string HR0.out x3_1 p335 q335
                    have hw335_0 := hx335_0
                    cases e335
                    replace hx335_0 := bz HB.out hx335_0
                    replace p335 := eq_true p335
                    replace q335 := eq_true q335
                    have p337 : 0 ≤ ((ji7) : Int) := of_decide_eq_true Da
                    have q337 : (ji7) < (l0.length : Int) := of_decide_eq_true Da
                    obtain ⟨ad337, e337, hx337_0⟩ := Kd.at_string HR0.out (ji7) p337 q337
                    have hw337_0 := hx337_0
                    obtain rfl : ad335 = ad337 := (by injection e337)
                    replace hx337_0 := bz HB.out hx337_0
                    replace p337 := eq_true p337
                    replace q337 := eq_true q337
                    have p339 : 0 ≤ (x3_1 : Int) := of_decide_eq_true Da
                    have q339 : x3_1 < (l0.length : Int) := of_decide_eq_true Da
                    obtain ⟨ad339, e339, hx339_0⟩ := Kd.at_string HR0.out x3_1 p339 q339
                    have hw339_0 := hx339_0
                    obtain rfl : ad335 = ad339 := (by injection e339)
                    replace hx339_0 := bz HB.out hx339_0
                    replace p339 := eq_true p339
                    replace q339 := eq_true q339
                    refine start_ (n := 24) (S := fun w' => w'.cell? (ad335.add (x3_1).toNat) = some (.string (rdOf ByteArray.empty l0 x3_1)) ∧ w'.cell? (ad335.add ((ji7)).toNat) = some (.string (rdOf ByteArray.empty l0 (ji7))) ∧ w'.cell? (ad335.add (x3_1).toNat) = some (.string (rdOf ByteArray.empty l0 x3_1))) (ds := []) (bv 24 0) (by kernel_rfl) rfl rfl ⟨(bz HB.out hw335_0), (bz HB.out hw337_0), (bz HB.out hw339_0)⟩ (fun hHeld => ?_); refine with_tabW spec_l03Values.tab4 spec_l03Values.bits4 (fun HT_ HW_ => ?_)
                    generalize wr.drew = w13 at HB hx335_0 hx337_0 hx339_0 hHeld ⊢
                    refine pu 0 10 (bv 24 1) HT_.out (h := ?_)
                    refine pu 1 11 (bv 24 3) HT_.out (h := ?_)
                    refine pu 2 12 (bv 24 7) HT_.out (h := ?_)
                    refine tk 3 13 (bv 24 15) HT_.out HW_.out hHeld (h := ?_)
                    refine one_ (i := 4) (N := some 14) (bv 24 31) rfl rfl (one_of HT_.out (by kernel_rfl)) (by decide) (fun K hK => ?_)
                    refine goes_ Tryz.func101 (by kernel_rfl) rfl #[.string (rdOf ByteArray.empty l0 x3_1)] (by rfl) rfl rfl Ag ?_
                    with_reducible refine (spec_l02Value.calls k1 (rdOf ByteArray.empty l0 x3_1) true _ A4.out).mono ?_
                    rintro e w14 ⟨rfl, hb⟩
                    refine ⟨_, rfl, ?_⟩
                    have n0_ := Aside0.mk (below_step By hb)
                    clear HB
                    have HB := n0_
                    clear n0_
                    (try clear hb)
                    (try clear hb2)
                    (try clear hk)
                    (try clear hi)
                    refine hK.out _ _ ⟨(bz HB.out hw335_0), (bz HB.out hw337_0), (bz HB.out hw339_0)⟩ (fun hHeld => ?_)
                    clear hK K
                    refine norm_ (a' := ?_) ?_ ?_
                    rotate_left
                    · show Act.put _ (some 14) _ = _
                      simp only [Act.put, List.setIfInBounds_toArray, List.set_cons_zero, List.set_cons_succ, i64_w, i32_w]
                      rfl
                    refine pu 5 15 (bv 24 63) HT_.out (h := ?_)
                    refine pu 6 16 (bv 24 127) HT_.out (h := ?_)
                    refine pu 7 17 (bv 24 255) HT_.out (h := ?_)
                    refine pu 8 18 (bv 24 511) HT_.out (h := ?_)
                    refine pu 9 19 (bv 24 1023) HT_.out (h := ?_)
                    refine pu 10 20 (bv 24 2047) HT_.out (h := ?_)
                    refine pu 11 21 (bv 24 4095) HT_.out (h := ?_)
                    refine pu 12 22 (bv 24 8191) HT_.out (h := ?_)
                    refine pu 13 23 (bv 24 16383) HT_.out (h := ?_)
                    refine pu 16 26 (bv 24 81919) HT_.out (h := ?_)
                    refine pu 17 27 (bv 24 212991) HT_.out (h := ?_)
                    refine pu 18 28 (bv 24 475135) HT_.out (h := ?_)
                    refine tk 14 24 (bv 24 491519) HT_.out HW_.out hHeld (h := ?_)
                    refine tk 19 29 (bv 24 1015807) HT_.out HW_.out hHeld (h := ?_)
                    refine one_ (i := 15) (N := some 25) (bv 24 1048575) rfl rfl (one_of HT_.out (by kernel_rfl)) (by decide) (fun K hK => ?_)
                    refine goes_ Tryz.func118 (by kernel_rfl) rfl #[.string (rdOf ByteArray.empty l0 (ji7))] (by rfl) rfl rfl (by (try simp only [List.map_toArray, List.map_cons, List.map_nil]); first | done | (simp only [hji7]; rfl) | rfl | (simp only [List.length_drop, List.length_take]; rfl)) ?_
                    with_reducible refine (spec_Norm.calls k1 (rdOf ByteArray.empty l0 (ji7)) t338 _ A10.out).mono ?_
                    rintro e w15 ⟨rfl, hb⟩
                    refine ⟨_, rfl, ?_⟩
                    have n0_ := Aside0.mk (below_step By hb)
                    clear HB
                    have HB := n0_
                    clear n0_
                    (try clear hb)
                    (try clear hb2)
                    (try clear hk)
                    (try clear hi)
                    refine hK.out _ _ ⟨(bz HB.out hw335_0), (bz HB.out hw337_0), (bz HB.out hw339_0)⟩ (fun hHeld => ?_)
                    clear hK K
                    refine norm_ (a' := ?_) ?_ ?_
                    rotate_left
                    · show Act.put _ (some 25) _ = _
                      simp only [Act.put, List.setIfInBounds_toArray, List.set_cons_zero, List.set_cons_succ, i64_w, i32_w]
                      rfl
                    refine one_ (i := 20) (N := some 30) (bv 24 2097151) rfl rfl (one_of HT_.out (by kernel_rfl)) (by decide) (fun K hK => ?_)
                    refine goes_ Tryz.func118 (by kernel_rfl) rfl #[.string (rdOf ByteArray.empty l0 x3_1)] (by rfl) rfl rfl Ag ?_
                    with_reducible refine (spec_Norm.calls k1 (rdOf ByteArray.empty l0 x3_1) t340 _ A11.out).mono ?_
                    rintro e w16 ⟨rfl, hb⟩
                    refine ⟨_, rfl, ?_⟩
                    have n0_ := Aside0.mk (below_step By hb)
                    clear HB
                    have HB := n0_
                    clear n0_
                    (try clear hb)
                    (try clear hb2)
                    (try clear hk)
                    (try clear hi)
                    refine hK.out _ _ ⟨(bz HB.out hw335_0), (bz HB.out hw337_0), (bz HB.out hw339_0)⟩ (fun hHeld => ?_)
                    clear hK K
                    refine norm_ (a' := ?_) ?_ ?_
                    rotate_left
                    · show Act.put _ (some 30) _ = _
                      simp only [Act.put, List.setIfInBounds_toArray, List.set_cons_zero, List.set_cons_succ, i64_w, i32_w]
                      rfl
                    refine pu 21 31 (bv 24 4194303) HT_.out (h := ?_)
                    refine pu 22 32 (bv 24 8388607) HT_.out (h := ?_)
                    refine pu 23 33 (bv 24 16777215) HT_.out (h := ?_)
                    refine done_ (done_of HT_.out (by kernel_rfl)) ?_
                    try go_wp2
                    go_roundg k1
                    case measure => have := HK1.out; omega
                    case rel => exact ⟨(wrap64 (x3_1 + 1)), (by first | rfl | (simp; done) | (simp [*]; done)), H', ⟨by have := HK1.out; omega⟩, ⟨By⟩⟩
                  · rw [if_neg c12] at H
                    have c12b0 : (Op.bytesLess t338.toList t340.toList) = false := by simpa using c12
                    clear c12
                    obtain rfl := Option.some.inj H
                    try go_wp2
                    have n0_ := Aside0.mk (below_drew1 HB.out)
                    clear HB
                    have HB := n0_
                    clear n0_
                    have p335 : 0 ≤ (x3_1 : Int) := of_decide_eq_true Da
                    have q335 : x3_1 < (l0.length : Int) := of_decide_eq_true Da
                    obtain ⟨ad335, e335, hx335_0⟩ := Kd.at_string HR0.out x3_1 p335 q335
                    have hw335_0 := hx335_0
                    cases e335
                    replace hx335_0 := bz HB.out hx335_0
                    replace p335 := eq_true p335
                    replace q335 := eq_true q335
                    have p337 : 0 ≤ ((ji7) : Int) := of_decide_eq_true Da
                    have q337 : (ji7) < (l0.length : Int) := of_decide_eq_true Da
                    obtain ⟨ad337, e337, hx337_0⟩ := Kd.at_string HR0.out (ji7) p337 q337
                    have hw337_0 := hx337_0
                    obtain rfl : ad335 = ad337 := (by injection e337)
                    replace hx337_0 := bz HB.out hx337_0
                    replace p337 := eq_true p337
                    replace q337 := eq_true q337
                    have p339 : 0 ≤ (x3_1 : Int) := of_decide_eq_true Da
                    have q339 : x3_1 < (l0.length : Int) := of_decide_eq_true Da
                    obtain ⟨ad339, e339, hx339_0⟩ := Kd.at_string HR0.out x3_1 p339 q339
                    have hw339_0 := hx339_0
                    obtain rfl : ad335 = ad339 := (by injection e339)
                    replace hx339_0 := bz HB.out hx339_0
                    replace p339 := eq_true p339
                    replace q339 := eq_true q339
                    refine start_ (n := 24) (S := fun w' => w'.cell? (ad335.add (x3_1).toNat) = some (.string (rdOf ByteArray.empty l0 x3_1)) ∧ w'.cell? (ad335.add ((ji7)).toNat) = some (.string (rdOf ByteArray.empty l0 (ji7))) ∧ w'.cell? (ad335.add (x3_1).toNat) = some (.string (rdOf ByteArray.empty l0 x3_1))) (ds := []) (bv 24 0) (by kernel_rfl) rfl rfl ⟨(bz HB.out hw335_0), (bz HB.out hw337_0), (bz HB.out hw339_0)⟩ (fun hHeld => ?_); refine with_tabW spec_l03Values.tab4 spec_l03Values.bits4 (fun HT_ HW_ => ?_)
                    generalize wr.drew = w17 at HB hx335_0 hx337_0 hx339_0 hHeld ⊢
                    refine pu 0 10 (bv 24 1) HT_.out (h := ?_)
                    refine pu 1 11 (bv 24 3) HT_.out (h := ?_)
                    refine pu 2 12 (bv 24 7) HT_.out (h := ?_)
                    refine tk 3 13 (bv 24 15) HT_.out HW_.out hHeld (h := ?_)
                    refine one_ (i := 4) (N := some 14) (bv 24 31) rfl rfl (one_of HT_.out (by kernel_rfl)) (by decide) (fun K hK => ?_)
                    refine goes_ Tryz.func101 (by kernel_rfl) rfl #[.string (rdOf ByteArray.empty l0 x3_1)] (by rfl) rfl rfl Ag ?_
                    with_reducible refine (spec_l02Value.calls k1 (rdOf ByteArray.empty l0 x3_1) true _ A4.out).mono ?_
                    rintro e w18 ⟨rfl, hb⟩
                    refine ⟨_, rfl, ?_⟩
                    have n0_ := Aside0.mk (below_step By hb)
                    clear HB
                    have HB := n0_
                    clear n0_
                    (try clear hb)
                    (try clear hb2)
                    (try clear hk)
                    (try clear hi)
                    refine hK.out _ _ ⟨(bz HB.out hw335_0), (bz HB.out hw337_0), (bz HB.out hw339_0)⟩ (fun hHeld => ?_)
                    clear hK K
                    refine norm_ (a' := ?_) ?_ ?_
                    rotate_left
                    · show Act.put _ (some 14) _ = _
                      simp only [Act.put, List.setIfInBounds_toArray, List.set_cons_zero, List.set_cons_succ, i64_w, i32_w]
                      rfl
                    refine pu 5 15 (bv 24 63) HT_.out (h := ?_)
                    refine pu 6 16 (bv 24 127) HT_.out (h := ?_)
                    refine pu 7 17 (bv 24 255) HT_.out (h := ?_)
                    refine pu 8 18 (bv 24 511) HT_.out (h := ?_)
                    refine pu 9 19 (bv 24 1023) HT_.out (h := ?_)
                    refine pu 10 20 (bv 24 2047) HT_.out (h := ?_)
                    refine pu 11 21 (bv 24 4095) HT_.out (h := ?_)
                    refine pu 12 22 (bv 24 8191) HT_.out (h := ?_)
                    refine pu 13 23 (bv 24 16383) HT_.out (h := ?_)
                    refine pu 16 26 (bv 24 81919) HT_.out (h := ?_)
                    refine pu 17 27 (bv 24 212991) HT_.out (h := ?_)
                    refine pu 18 28 (bv 24 475135) HT_.out (h := ?_)
                    refine tk 14 24 (bv 24 491519) HT_.out HW_.out hHeld (h := ?_)
                    refine tk 19 29 (bv 24 1015807) HT_.out HW_.out hHeld (h := ?_)
                    refine one_ (i := 15) (N := some 25) (bv 24 1048575) rfl rfl (one_of HT_.out (by kernel_rfl)) (by decide) (fun K hK => ?_)
                    refine goes_ Tryz.func118 (by kernel_rfl) rfl #[.string (rdOf ByteArray.empty l0 (ji7))] (by rfl) rfl rfl (by (try simp only [List.map_toArray, List.map_cons, List.map_nil]); first | done | (simp only [hji7]; rfl) | rfl | (simp only [List.length_drop, List.length_take]; rfl)) ?_
                    with_reducible refine (spec_Norm.calls k1 (rdOf ByteArray.empty l0 (ji7)) t338 _ A10.out).mono ?_
                    rintro e w19 ⟨rfl, hb⟩
                    refine ⟨_, rfl, ?_⟩
                    have n0_ := Aside0.mk (below_step By hb)
                    clear HB
                    have HB := n0_
                    clear n0_
                    (try clear hb)
                    (try clear hb2)
                    (try clear hk)
                    (try clear hi)
                    refine hK.out _ _ ⟨(bz HB.out hw335_0), (bz HB.out hw337_0), (bz HB.out hw339_0)⟩ (fun hHeld => ?_)
                    clear hK K
                    refine norm_ (a' := ?_) ?_ ?_
                    rotate_left
                    · show Act.put _ (some 25) _ = _
                      simp only [Act.put, List.setIfInBounds_toArray, List.set_cons_zero, List.set_cons_succ, i64_w, i32_w]
                      rfl
                    refine one_ (i := 20) (N := some 30) (bv 24 2097151) rfl rfl (one_of HT_.out (by kernel_rfl)) (by decide) (fun K hK => ?_)
                    refine goes_ Tryz.func118 (by kernel_rfl) rfl #[.string (rdOf ByteArray.empty l0 x3_1)] (by rfl) rfl rfl Ag ?_
                    with_reducible refine (spec_Norm.calls k1 (rdOf ByteArray.empty l0 x3_1) t340 _ A11.out).mono ?_
                    rintro e w20 ⟨rfl, hb⟩
                    refine ⟨_, rfl, ?_⟩
                    have n0_ := Aside0.mk (below_step By hb)
                    clear HB
                    have HB := n0_
                    clear n0_
                    (try clear hb)
                    (try clear hb2)
                    (try clear hk)
                    (try clear hi)
                    refine hK.out _ _ ⟨(bz HB.out hw335_0), (bz HB.out hw337_0), (bz HB.out hw339_0)⟩ (fun hHeld => ?_)
                    clear hK K
                    refine norm_ (a' := ?_) ?_ ?_
                    rotate_left
                    · show Act.put _ (some 30) _ = _
                      simp only [Act.put, List.setIfInBounds_toArray, List.set_cons_zero, List.set_cons_succ, i64_w, i32_w]
                      rfl
                    refine pu 21 31 (bv 24 4194303) HT_.out (h := ?_)
                    refine pu 22 32 (bv 24 8388607) HT_.out (h := ?_)
                    refine pu 23 33 (bv 24 16777215) HT_.out (h := ?_)
                    refine done_ (done_of HT_.out (by kernel_rfl)) ?_
                    try go_wp2
                    go_ret
                    exact ⟨by first | rfl | (simp [errW_none, errW_some] <;> rfl) | (simp only [← hji7]; first | rfl | (simp [errW_none, errW_some] <;> rfl)) | (simp [*, errW_none, errW_some] <;> first | rfl | (rw [Bool.eq_iff_iff]; simp)), By⟩
                · rw [if_neg c9] at H
                  exact absurd H (by simp)
              · rw [if_neg c8] at H
                exact absurd H (by simp)
            · rw [if_neg c6] at H
              have c6b0 : decide (0 < x3_1) = false := decide_eq_false c6
              clear c6
              have H' := Aside0.mk H
              clear H
              try go_wp2
              have n0_ := Aside0.mk (below_drew1 HB.out)
              clear HB
              have HB := n0_
              clear n0_
              have p335 : 0 ≤ (x3_1 : Int) := of_decide_eq_true Da
              have q335 : x3_1 < (l0.length : Int) := of_decide_eq_true Da
              obtain ⟨ad335, e335, hx335_0⟩ := Kd.at_string HR0.out x3_1 p335 q335
              have hw335_0 := hx335_0
              cases e335
              replace hx335_0 := bz HB.out hx335_0
              replace p335 := eq_true p335
              replace q335 := eq_true q335
              refine start_ (n := 24) (S := fun w' => w'.cell? (ad335.add (x3_1).toNat) = some (.string (rdOf ByteArray.empty l0 x3_1))) (ds := []) (bv 24 0) (by kernel_rfl) rfl rfl ((bz HB.out hw335_0)) (fun hHeld => ?_); refine with_tabW spec_l03Values.tab4 spec_l03Values.bits4 (fun HT_ HW_ => ?_)
              generalize wr.drew = w21 at HB hx335_0 hHeld ⊢
              refine pu 0 10 (bv 24 1) HT_.out (h := ?_)
              refine pu 1 11 (bv 24 3) HT_.out (h := ?_)
              refine pu 2 12 (bv 24 7) HT_.out (h := ?_)
              refine take_ (i := 3) (N := some 13) (v := ?_) (a' := ?_) (bv 24 15) rfl rfl (take_ofW HT_.out HW_.out (by kernel_rfl)) (fun _ _ _ h => h) (Or.inl ⟨by rfl, ?_⟩) hHeld ?_ ?_
              rotate_left
              · intro w' s0
                go_simp
                with_reducible rfl
              rotate_left
              · simp only [Act.put, List.setIfInBounds_toArray, List.set_cons_zero, List.set_cons_succ, i64_w, i32_w]
                rfl
              refine one_ (i := 4) (N := some 14) (bv 24 31) rfl rfl (one_of HT_.out (by kernel_rfl)) (by decide) (fun K hK => ?_)
              refine goes_ Tryz.func101 (by kernel_rfl) rfl #[.string (rdOf ByteArray.empty l0 x3_1)] (by rfl) rfl rfl Ag ?_
              with_reducible refine (spec_l02Value.calls k1 (rdOf ByteArray.empty l0 x3_1) true _ A4.out).mono ?_
              rintro e w22 ⟨rfl, hb⟩
              refine ⟨_, rfl, ?_⟩
              have n0_ := Aside0.mk (below_step By hb)
              clear HB
              have HB := n0_
              clear n0_
              (try clear hb)
              (try clear hb2)
              (try clear hk)
              (try clear hi)
              refine hK.out _ _ ((bz HB.out hw335_0)) (fun hHeld => ?_)
              clear hK K
              refine norm_ (a' := ?_) ?_ ?_
              rotate_left
              · show Act.put _ (some 14) _ = _
                simp only [Act.put, List.setIfInBounds_toArray, List.set_cons_zero, List.set_cons_succ, i64_w, i32_w]
                rfl
              refine pu 5 15 (bv 24 63) HT_.out (h := ?_)
              refine pu 6 16 (bv 24 127) HT_.out (h := ?_)
              refine pu 7 17 (bv 24 255) HT_.out (h := ?_)
              refine pu 8 18 (bv 24 511) HT_.out (h := ?_)
              refine pu 9 19 (bv 24 1023) HT_.out (h := ?_)
              refine pn 10 20 (bv 24 2047) HT_.out (h := ?_)
              refine pn 11 21 (bv 24 4095) HT_.out (h := ?_)
              refine pn 12 22 (bv 24 8191) HT_.out (h := ?_)
              refine pn 13 23 (bv 24 16383) HT_.out (h := ?_)
              refine pn 14 24 (bv 24 32767) HT_.out (h := ?_)
              refine pn 15 25 (bv 24 65535) HT_.out (h := ?_)
              refine pn 16 26 (bv 24 131071) HT_.out (h := ?_)
              refine pn 17 27 (bv 24 262143) HT_.out (h := ?_)
              refine pn 18 28 (bv 24 524287) HT_.out (h := ?_)
              refine pn 19 29 (bv 24 1048575) HT_.out (h := ?_)
              refine pn 20 30 (bv 24 2097151) HT_.out (h := ?_)
              refine pn 21 31 (bv 24 4194303) HT_.out (h := ?_)
              refine pu 22 32 (bv 24 8388607) HT_.out (h := ?_)
              refine pu 23 33 (bv 24 16777215) HT_.out (h := ?_)
              refine done_ (done_of HT_.out (by kernel_rfl)) ?_
              try go_wp2
              go_roundg k1
              case measure => have := HK1.out; omega
              case rel => exact ⟨(wrap64 (x3_1 + 1)), (by first | rfl | (simp; done) | (simp [*]; done)), H', ⟨by have := HK1.out; omega⟩, ⟨By⟩⟩
          · replace c5 := Bool.eq_false_iff.mpr c5
            subst c5
            have H1 : (some false) = some r := by rw [if_neg (show ¬ (false = true) by decide)] at H; exact H
            clear H
            have H := H1
            clear H1
            obtain rfl := Option.some.inj H
            try go_wp2
            have n0_ := Aside0.mk (below_drew1 HB.out)
            clear HB
            have HB := n0_
            clear n0_
            have p335 : 0 ≤ (x3_1 : Int) := of_decide_eq_true Da
            have q335 : x3_1 < (l0.length : Int) := of_decide_eq_true Da
            obtain ⟨ad335, e335, hx335_0⟩ := Kd.at_string HR0.out x3_1 p335 q335
            have hw335_0 := hx335_0
            cases e335
            replace hx335_0 := bz HB.out hx335_0
            replace p335 := eq_true p335
            replace q335 := eq_true q335
            refine start_ (n := 24) (S := fun w' => w'.cell? (ad335.add (x3_1).toNat) = some (.string (rdOf ByteArray.empty l0 x3_1))) (ds := []) (bv 24 0) (by kernel_rfl) rfl rfl ((bz HB.out hw335_0)) (fun hHeld => ?_); refine with_tabW spec_l03Values.tab4 spec_l03Values.bits4 (fun HT_ HW_ => ?_)
            generalize wr.drew = w23 at HB hx335_0 hHeld ⊢
            refine pu 0 10 (bv 24 1) HT_.out (h := ?_)
            refine pu 1 11 (bv 24 3) HT_.out (h := ?_)
            refine pu 2 12 (bv 24 7) HT_.out (h := ?_)
            refine take_ (i := 3) (N := some 13) (v := ?_) (a' := ?_) (bv 24 15) rfl rfl (take_ofW HT_.out HW_.out (by kernel_rfl)) (fun _ _ _ h => h) (Or.inl ⟨by rfl, ?_⟩) hHeld ?_ ?_
            rotate_left
            · intro w' s0
              go_simp
              with_reducible rfl
            rotate_left
            · simp only [Act.put, List.setIfInBounds_toArray, List.set_cons_zero, List.set_cons_succ, i64_w, i32_w]
              rfl
            refine one_ (i := 4) (N := some 14) (bv 24 31) rfl rfl (one_of HT_.out (by kernel_rfl)) (by decide) (fun K hK => ?_)
            refine goes_ Tryz.func101 (by kernel_rfl) rfl #[.string (rdOf ByteArray.empty l0 x3_1)] (by rfl) rfl rfl Ag ?_
            with_reducible refine (spec_l02Value.calls k1 (rdOf ByteArray.empty l0 x3_1) false _ A4.out).mono ?_
            rintro e w24 ⟨rfl, hb⟩
            refine ⟨_, rfl, ?_⟩
            have n0_ := Aside0.mk (below_step By hb)
            clear HB
            have HB := n0_
            clear n0_
            (try clear hb)
            (try clear hb2)
            (try clear hk)
            (try clear hi)
            refine hK.out _ _ ((bz HB.out hw335_0)) (fun hHeld => ?_)
            clear hK K
            refine norm_ (a' := ?_) ?_ ?_
            rotate_left
            · show Act.put _ (some 14) _ = _
              simp only [Act.put, List.setIfInBounds_toArray, List.set_cons_zero, List.set_cons_succ, i64_w, i32_w]
              rfl
            refine pu 5 15 (bv 24 63) HT_.out (h := ?_)
            refine pu 6 16 (bv 24 127) HT_.out (h := ?_)
            refine pn 7 17 (bv 24 255) HT_.out (h := ?_)
            refine pn 8 18 (bv 24 511) HT_.out (h := ?_)
            refine pn 9 19 (bv 24 1023) HT_.out (h := ?_)
            refine pn 10 20 (bv 24 2047) HT_.out (h := ?_)
            refine pn 11 21 (bv 24 4095) HT_.out (h := ?_)
            refine pn 12 22 (bv 24 8191) HT_.out (h := ?_)
            refine pn 13 23 (bv 24 16383) HT_.out (h := ?_)
            refine pn 14 24 (bv 24 32767) HT_.out (h := ?_)
            refine pn 15 25 (bv 24 65535) HT_.out (h := ?_)
            refine pn 16 26 (bv 24 131071) HT_.out (h := ?_)
            refine pn 17 27 (bv 24 262143) HT_.out (h := ?_)
            refine pn 18 28 (bv 24 524287) HT_.out (h := ?_)
            refine pn 19 29 (bv 24 1048575) HT_.out (h := ?_)
            refine pn 20 30 (bv 24 2097151) HT_.out (h := ?_)
            refine pn 21 31 (bv 24 4194303) HT_.out (h := ?_)
            refine pn 22 32 (bv 24 8388607) HT_.out (h := ?_)
            refine pu 23 33 (bv 24 16777215) HT_.out (h := ?_)
            refine done_ (done_of HT_.out (by kernel_rfl)) ?_
            try go_wp2
            go_ret
            exact ⟨Rf, By⟩
        · rw [if_neg c3] at H
          exact absurd H (by simp)
      · rw [if_neg c2] at H
        have c2b0 : decide (x3_1 < (l0.length : Int)) = false := decide_eq_false c2
        clear c2
        by_cases c25 : (l0.length : Int) ≥ 1
        · rw [if_pos c25] at H
          have c25b0 : decide (1 ≤ (l0.length : Int)) = true := decide_eq_true c25
          have c25b1 : decide (1 ≤ l0.length) = true := decide_eq_true (by omega)
          clear c25
          obtain rfl := Option.some.inj H
          go_wp2
          go_ret
          exact ⟨Rf, By⟩
        · rw [if_neg c25] at H
          have c25b0 : decide (1 ≤ (l0.length : Int)) = false := decide_eq_false c25
          have c25b1 : decide (1 ≤ l0.length) = false := decide_eq_false (by omega)
          clear c25
          obtain rfl := Option.some.inj H
          go_wp2
          go_ret
          exact ⟨Rf, By⟩

set_option linter.unusedVariables false
set_option linter.unusedSimpArgs false

/-! ### spec_l03Attrs: function 67 -/
def spec_l03Attrs.l0 : Nat → List (S115) → Int → Option (Bool)
  | 0, _, _ => none
  | k + 1, x0, x3 => if x3 < (x0.length : Int) then (if 0 ≤ x3 then ((spec_NameRight.f k ((rd_T115 x0 x3).f0)).bind fun t342 => (if t342 = true then (if x3 > 0 then (if 0 ≤ (wrap64 (x3 - 1)) then (if (wrap64 (x3 - 1)) < (x0.length : Int) then (if ((Op.bytesLess (((rd_T115 x0 (wrap64 (x3 - 1))).f0).toList) (((rd_T115 x0 x3).f0).toList)) = true) then ((spec_l03Values.f k ((rd_T115 x0 x3).f1)).bind fun t346 => (if t346 = true then (spec_l03Attrs.l0 k x0 (wrap64 (x3 + 1))) else (some false))) else (some false)) else (none)) else (none)) else ((spec_l03Values.f k ((rd_T115 x0 x3).f1)).bind fun t348 => (if t348 = true then (spec_l03Attrs.l0 k x0 (wrap64 (x3 + 1))) else (some false)))) else (some false))) else (none)) else (some (decide ((x0.length : Int) ≤ 8)))
def spec_l03Attrs.f (k : Nat) (l0 : List (S115)) : Option (Bool) := spec_l03Attrs.l0 k l0 0
theorem spec_l03Attrs.mono_l : ∀ k, (∀ y0 y1, LeO (spec_l03Attrs.l0 k y0 y1) (spec_l03Attrs.l0 (k + 1) y0 y1))
  | 0 => fun _ _ r h => by simp [spec_l03Attrs.l0] at h
  | k + 1 => by
    have ih0 := spec_l03Attrs.mono_l k
    · intro y0 y1
      unfold spec_l03Attrs.l0
      repeat' first
      | (with_reducible exact ih0 _ _)
      | (with_reducible exact spec_NameRight.mono _ _)
      | (with_reducible exact spec_l03Values.mono _ _)
      | (with_reducible exact LeO.refl _)
      | (with_reducible exact LeO.none _)
      | (with_reducible refine LeO.ite ?_ ?_)
      | (with_reducible refine LeO.bind ?_ (fun _ => ?_))
      | exact ih0 _ _
      | exact spec_NameRight.mono _ _
      | exact spec_l03Values.mono _ _
      | exact LeO.none _
      | refine LeO.ite ?_ ?_
      | refine LeO.bind ?_ (fun _ => ?_)
theorem spec_l03Attrs.mono : ∀ a0 k, LeO (spec_l03Attrs.f k a0) (spec_l03Attrs.f (k + 1) a0) := by
  intro a0 k
  have ih0 := spec_l03Attrs.mono_l k
  unfold spec_l03Attrs.f
  repeat' first
      | (with_reducible exact ih0 _ _)
      | (with_reducible exact spec_NameRight.mono _ _)
      | (with_reducible exact spec_l03Values.mono _ _)
      | (with_reducible exact LeO.refl _)
      | (with_reducible exact LeO.none _)
      | (with_reducible refine LeO.ite ?_ ?_)
      | (with_reducible refine LeO.bind ?_ (fun _ => ?_))
      | exact ih0 _ _
      | exact spec_NameRight.mono _ _
      | exact spec_l03Values.mono _ _
      | exact LeO.none _
      | refine LeO.ite ?_ ?_
      | refine LeO.bind ?_ (fun _ => ?_)
def spec_l03Attrs.T4 : Bool × List (List Nat × List Nat) := (true, [([], []), ([], []), ([0, 1], [0, 1]), ([2], [2]), ([3], [3]), ([4], [4]), ([5], [5]), ([6, 5], [6]), ([7], [7]), ([8, 7], [7, 8]), ([9, 7, 7], [7, 9]), ([10], [10]), ([10], [10]), ([12, 10], [10, 12]), ([11, 13, 10], [10, 11, 13]), ([14, 10], [10, 14]), ([15, 10], [10, 15]), ([10], [10]), ([10], [10]), ([17, 18, 10], [10, 17, 18]), ([19, 10], [10, 19]), ([20, 10], [10, 20]), ([16, 21, 10], [10, 16, 21]), ([10, 22, 7], [7, 10, 22]), ([7, 23], [7, 23]), ([24, 10], [24]), ([25], [25]), ([25], [25]), ([26, 27, 25], [25, 26, 27]), ([28, 25], [25, 28]), ([29, 25], [25, 29]), ([30, 25, 25], [25, 30]), ([31, 25], [25, 31]), ([25, 32], [25, 32])])
def spec_l03Attrs.B4 : List Nat := [0, 0, 3, 7, 15, 31, 63, 127, 255, 511, 1023, 2047, 2047, 6143, 16383, 32767, 65535, 2047, 2047, 395263, 919551, 1968127, 4194303, 8388607, 16777215, 33554431, 67108863, 67108863, 268435455, 536870911, 1073741823, 2147483647, 4294967295, 8589934591]
theorem spec_l03Attrs.tab4 : rtab .any (opsOf Tryz.f67 4) = spec_l03Attrs.T4 := by kernel_rfl
theorem spec_l03Attrs.bits4 : waitsOk spec_l03Attrs.T4.2 spec_l03Attrs.B4 = true := by kernel_rfl
set_option maxHeartbeats 8000000 in
set_option maxRecDepth 100000 in
theorem spec_l03Attrs.calls (k : Nat) (A0 : Option Addr) (c0 : Nat) (l0 : List (S115)) (r : Bool) (w : World) (hr0 : Kd.C k115 w A0 l0.length l0) (hc0 : l0.length ≤ c0) (h : spec_l03Attrs.f k l0 = some r) :
    Calls Tryz.prog 67 #[.slice A0 l0.length c0] w fun e w' => e = .returned (.bool r) ∧ Below w.heap.size w w' := by
  have HR0 := Aside0.mk hr0
  have HC0 := Aside0.mk hc0
  clear hr0 hc0
  have HB := Aside0.mk (Below.refl w.heap.size w)
  have H : (spec_l03Attrs.l0 k l0 0) = some r := h
  clear h
  have H' := Aside0.mk H
  clear H
  go_enter Tryz.func67, Tryz.ntmps67
  go_wp2
  go_loopg [3] k (fun kq v3 w' => ∃ (x3_1 : Int), v3 = .int .i64 x3_1 ∧ Aside0 (spec_l03Attrs.l0 kq l0 x3_1 = some r) ∧ Aside0 (kq ≤ k) ∧ Aside0 (Below w.heap.size w w'))
  case atStart => exact ⟨(0), (by first | rfl | (simp; done) | (simp [*]; done)), H', ⟨Nat.le_refl _⟩, ⟨By⟩⟩
  case round =>
    clear H'
    obtain ⟨x3_1, rfl, HA, HK1, HB⟩ := hrel
    cases gk with
    | zero => exact absurd HA.out (by simp [spec_l03Attrs.l0])
    | succ k1 =>
      have H := HA.out
      clear HA
      simp only [spec_l03Attrs.l0] at H
      by_cases c2 : x3_1 < (l0.length : Int)
      · rw [if_pos c2] at H
        have c2b0 : decide (x3_1 < (l0.length : Int)) = true := decide_eq_true c2
        clear c2
        by_cases c3 : 0 ≤ x3_1
        · rw [if_pos c3] at H
          have c3b0 : decide (0 ≤ x3_1) = true := decide_eq_true c3
          clear c3
          replace H := Option.bind_eq_some_iff.mp H
          obtain ⟨t342, A40, H⟩ := H
          replace H : (if t342 = true then (if x3_1 > 0 then (if 0 ≤ (wrap64 (x3_1 - 1)) then (if (wrap64 (x3_1 - 1)) < (l0.length : Int) then (if ((Op.bytesLess (((rd_T115 l0 (wrap64 (x3_1 - 1))).f0).toList) (((rd_T115 l0 x3_1).f0).toList)) = true) then ((spec_l03Values.f k1 ((rd_T115 l0 x3_1).f1)).bind fun t346 => (if t346 = true then (spec_l03Attrs.l0 k1 l0 (wrap64 (x3_1 + 1))) else (some false))) else (some false)) else (none)) else (none)) else ((spec_l03Values.f k1 ((rd_T115 l0 x3_1).f1)).bind fun t348 => (if t348 = true then (spec_l03Attrs.l0 k1 l0 (wrap64 (x3_1 + 1))) else (some false)))) else (some false)) = some r := H
          have A4 := Aside0.mk A40
          clear A40
          by_cases c5 : t342 = true
          · subst c5
            have H1 : (if x3_1 > 0 then (if 0 ≤ (wrap64 (x3_1 - 1)) then (if (wrap64 (x3_1 - 1)) < (l0.length : Int) then (if ((Op.bytesLess (((rd_T115 l0 (wrap64 (x3_1 - 1))).f0).toList) (((rd_T115 l0 x3_1).f0).toList)) = true) then ((spec_l03Values.f k1 ((rd_T115 l0 x3_1).f1)).bind fun t346 => (if t346 = true then (spec_l03Attrs.l0 k1 l0 (wrap64 (x3_1 + 1))) else (some false))) else (some false)) else (none)) else (none)) else ((spec_l03Values.f k1 ((rd_T115 l0 x3_1).f1)).bind fun t348 => (if t348 = true then (spec_l03Attrs.l0 k1 l0 (wrap64 (x3_1 + 1))) else (some false)))) = some r := by rw [if_pos rfl] at H; exact H
            clear H
            have H := H1
            clear H1
            by_cases c6 : x3_1 > 0
            · rw [if_pos c6] at H
              have c6b0 : decide (0 < x3_1) = true := decide_eq_true c6
              clear c6
              obtain ⟨ji7, hji7⟩ : ∃ j_ : Int, (wrap64 (x3_1 - 1)) = j_ := ⟨_, rfl⟩
              replace H : (if 0 ≤ (ji7) then (if (ji7) < (l0.length : Int) then (if ((Op.bytesLess (((rd_T115 l0 (ji7)).f0).toList) (((rd_T115 l0 x3_1).f0).toList)) = true) then ((spec_l03Values.f k1 ((rd_T115 l0 x3_1).f1)).bind fun t346 => (if t346 = true then (spec_l03Attrs.l0 k1 l0 (wrap64 (x3_1 + 1))) else (some false))) else (some false)) else (none)) else (none)) = some r := by first | (rw [hji7] at H; exact H) | (simp only [hji7] at H ⊢; exact H)
              (try rw [hji7] at A4)
              have hji7w : (IntKind.i64.wrap (x3_1 - 1)) = ji7 := (i64_w _).trans hji7
              by_cases c8 : 0 ≤ (ji7)
              · rw [if_pos c8] at H
                have c8b0 : decide (0 ≤ (ji7)) = true := decide_eq_true c8
                clear c8
                by_cases c9 : (ji7) < (l0.length : Int)
                · rw [if_pos c9] at H
                  have c9b0 : decide ((ji7) < (l0.length : Int)) = true := decide_eq_true c9
                  clear c9
                  by_cases c10 : ((Op.bytesLess (((rd_T115 l0 (ji7)).f0).toList) (((rd_T115 l0 x3_1).f0).toList)) = true)
                  · rw [if_pos c10] at H
                    have c10b0 : (Op.bytesLess (((rd_T115 l0 (ji7)).f0).toList) (((rd_T115 l0 x3_1).f0).toList)) = true := c10
                    clear c10
                    replace H := Option.bind_eq_some_iff.mp H
                    obtain ⟨t346, A110, H⟩ := H
                    replace H : (if t346 = true then (spec_l03Attrs.l0 k1 l0 (wrap64 (x3_1 + 1))) else (some false)) = some r := H
                    have A11 := Aside0.mk A110
                    clear A110
                    by_cases c12 : t346 = true
                    · subst c12
                      have H1 : (spec_l03Attrs.l0 k1 l0 (wrap64 (x3_1 + 1))) = some r := by rw [if_pos rfl] at H; exact H
                      clear H
                      have H := H1
                      clear H1
                      have H' := Aside0.mk H
                      clear H
                      try go_wp2
                      have n0_ := Aside0.mk (below_drew1 HB.out)
                      clear HB
                      have HB := n0_
                      clear n0_
                      have p341 : 0 ≤ (x3_1 : Int) := of_decide_eq_true Da
                      have q341 : x3_1 < (l0.length : Int) := of_decide_eq_true Da
                      obtain ⟨ad341, A341_1, c341_1, e341, hx341_0, hx341_1, hl341_1, hi341_1⟩ := at_T115 HR0.out x3_1 p341 q341
                      have hw341_1 := hx341_1
                      have hw341_0 := hx341_0
                      cases e341
                      replace hx341_0 := bz HB.out hx341_0
                      replace hx341_1 := bz HB.out hx341_1
                      have HR341_1 := Aside0.mk hi341_1
                      have HC341_1 := Aside0.mk hl341_1
                      clear hi341_1 hl341_1
                      replace p341 := eq_true p341
                      replace q341 := eq_true q341
                      have p343 : 0 ≤ ((ji7) : Int) := of_decide_eq_true Da
                      have q343 : (ji7) < (l0.length : Int) := of_decide_eq_true Da
                      obtain ⟨ad343, A343_1, c343_1, e343, hx343_0, hx343_1, hl343_1, hi343_1⟩ := at_T115 HR0.out (ji7) p343 q343
                      have hw343_1 := hx343_1
                      have hw343_0 := hx343_0
                      obtain rfl : ad341 = ad343 := (by injection e343)
                      replace hx343_0 := bz HB.out hx343_0
                      replace hx343_1 := bz HB.out hx343_1
                      have HR343_1 := Aside0.mk hi343_1
                      have HC343_1 := Aside0.mk hl343_1
                      clear hi343_1 hl343_1
                      replace p343 := eq_true p343
                      replace q343 := eq_true q343
                      have p344 : 0 ≤ (x3_1 : Int) := of_decide_eq_true Da
                      have q344 : x3_1 < (l0.length : Int) := of_decide_eq_true Da
                      obtain ⟨ad344, A344_1, c344_1, e344, hx344_0, hx344_1, hl344_1, hi344_1⟩ := at_T115 HR0.out x3_1 p344 q344
                      have hw344_1 := hx344_1
                      have hw344_0 := hx344_0
                      obtain rfl : ad341 = ad344 := (by injection e344)
                      replace hx344_0 := bz HB.out hx344_0
                      replace hx344_1 := bz HB.out hx344_1
                      have HR344_1 := Aside0.mk hi344_1
                      have HC344_1 := Aside0.mk hl344_1
                      clear hi344_1 hl344_1
                      replace p344 := eq_true p344
                      replace q344 := eq_true q344
                      have ea_ := Option.some.inj (hx341_1.symm.trans hx344_1)
                      injection ea_ with ea_ en_ ec_
                      subst ea_
                      subst ec_
                      clear en_
                      have p345 : 0 ≤ (x3_1 : Int) := of_decide_eq_true Da
                      have q345 : x3_1 < (l0.length : Int) := of_decide_eq_true Da
                      obtain ⟨ad345, A345_1, c345_1, e345, hx345_0, hx345_1, hl345_1, hi345_1⟩ := at_T115 HR0.out x3_1 p345 q345
                      have hw345_1 := hx345_1
                      have hw345_0 := hx345_0
                      obtain rfl : ad341 = ad345 := (by injection e345)
                      replace hx345_0 := bz HB.out hx345_0
                      replace hx345_1 := bz HB.out hx345_1
                      have HR345_1 := Aside0.mk hi345_1
                      have HC345_1 := Aside0.mk hl345_1
                      clear hi345_1 hl345_1
                      replace p345 := eq_true p345
                      replace q345 := eq_true q345
                      have ea_ := Option.some.inj (hx341_1.symm.trans hx345_1)
                      injection ea_ with ea_ en_ ec_
                      subst ea_
                      subst ec_
                      clear en_
                      refine start_ (n := 34) (S := fun w' => w'.cell? (ad341.add ((x3_1).toNat * 2)) = some (.string ((rd_T115 l0 x3_1).f0)) ∧ w'.cell? ⟨(ad341.add ((x3_1).toNat * 2)).block, (ad341.add ((x3_1).toNat * 2)).off + 1, none⟩ = some (.slice A341_1 ((rd_T115 l0 x3_1).f1).length c341_1) ∧ w'.cell? (ad341.add (((ji7)).toNat * 2)) = some (.string ((rd_T115 l0 (ji7)).f0)) ∧ w'.cell? ⟨(ad341.add (((ji7)).toNat * 2)).block, (ad341.add (((ji7)).toNat * 2)).off + 1, none⟩ = some (.slice A343_1 ((rd_T115 l0 (ji7)).f1).length c343_1) ∧ w'.cell? (ad341.add ((x3_1).toNat * 2)) = some (.string ((rd_T115 l0 x3_1).f0)) ∧ w'.cell? ⟨(ad341.add ((x3_1).toNat * 2)).block, (ad341.add ((x3_1).toNat * 2)).off + 1, none⟩ = some (.slice A341_1 ((rd_T115 l0 x3_1).f1).length c341_1) ∧ w'.cell? (ad341.add ((x3_1).toNat * 2)) = some (.string ((rd_T115 l0 x3_1).f0)) ∧ w'.cell? ⟨(ad341.add ((x3_1).toNat * 2)).block, (ad341.add ((x3_1).toNat * 2)).off + 1, none⟩ = some (.slice A341_1 ((rd_T115 l0 x3_1).f1).length c341_1)) (ds := []) (bv 34 0) (by kernel_rfl) rfl rfl ⟨(bz HB.out hw341_0), (bz HB.out hw341_1), (bz HB.out hw343_0), (bz HB.out hw343_1), (bz HB.out hw344_0), (bz HB.out hw344_1), (bz HB.out hw345_0), (bz HB.out hw345_1)⟩ (fun hHeld => ?_); refine with_tabW spec_l03Attrs.tab4 spec_l03Attrs.bits4 (fun HT_ HW_ => ?_)
                      generalize wr.drew = w13 at HB HR341_1 HR343_1 HR344_1 HR345_1 hx341_0 hx341_1 hx343_0 hx343_1 hx344_0 hx344_1 hx345_0 hx345_1 hHeld ⊢
                      refine pu 0 10 (bv 34 1) HT_.out (h := ?_)
                      refine pu 1 11 (bv 34 3) HT_.out (h := ?_)
                      refine pu 2 12 (bv 34 7) HT_.out (h := ?_)
                      refine pu 3 13 (bv 34 15) HT_.out (h := ?_)
                      refine tk 4 14 (bv 34 31) HT_.out HW_.out hHeld (h := ?_)
                      refine one_ (i := 5) (N := some 15) (bv 34 63) rfl rfl (one_of HT_.out (by kernel_rfl)) (by decide) (fun K hK => ?_)
                      refine goes_ Tryz.func78 (by kernel_rfl) rfl #[.string ((rd_T115 l0 x3_1).f0)] (by rfl) rfl rfl Ag ?_
                      with_reducible refine (spec_NameRight.calls k1 ((rd_T115 l0 x3_1).f0) true _ A4.out).mono ?_
                      rintro e w' ⟨rfl, ⟨nd, rfl⟩⟩
                      refine ⟨_, rfl, ?_⟩
                      refine hK.out _ _ ⟨(bz HB.out hw341_0), (bz HB.out hw341_1), (bz HB.out hw343_0), (bz HB.out hw343_1), (bz HB.out hw344_0), (bz HB.out hw344_1), (bz HB.out hw345_0), (bz HB.out hw345_1)⟩ (fun hHeld => ?_)
                      clear hK K
                      refine norm_ (a' := ?_) ?_ ?_
                      rotate_left
                      · show Act.put _ (some 15) _ = _
                        simp only [Act.put, List.setIfInBounds_toArray, List.set_cons_zero, List.set_cons_succ, i64_w, i32_w]
                        rfl
                      refine pu 6 16 (bv 34 127) HT_.out (h := ?_)
                      refine pu 7 17 (bv 34 255) HT_.out (h := ?_)
                      refine pu 8 18 (bv 34 511) HT_.out (h := ?_)
                      refine pu 9 19 (bv 34 1023) HT_.out (h := ?_)
                      refine pu 10 20 (bv 34 2047) HT_.out (h := ?_)
                      refine pu 11 21 (bv 34 4095) HT_.out (h := ?_)
                      refine pu 12 22 (bv 34 8191) HT_.out (h := ?_)
                      refine pu 13 23 (bv 34 16383) HT_.out (h := ?_)
                      refine pu 14 24 (bv 34 32767) HT_.out (h := ?_)
                      refine pu 15 25 (bv 34 65535) HT_.out (h := ?_)
                      refine pu 17 27 (bv 34 196607) HT_.out (h := ?_)
                      refine pu 18 28 (bv 34 458751) HT_.out (h := ?_)
                      refine pu 19 29 (bv 34 983039) HT_.out (h := ?_)
                      refine pu 20 30 (bv 34 2031615) HT_.out (h := ?_)
                      refine tk 16 26 (bv 34 2097151) HT_.out HW_.out hHeld (h := ?_)
                      refine tk 21 31 (bv 34 4194303) HT_.out HW_.out hHeld (h := ?_)
                      refine pu 22 32 (bv 34 8388607) HT_.out (h := ?_)
                      refine pu 23 33 (bv 34 16777215) HT_.out (h := ?_)
                      refine pu 24 34 (bv 34 33554431) HT_.out (h := ?_)
                      refine pu 25 35 (bv 34 67108863) HT_.out (h := ?_)
                      refine pu 26 36 (bv 34 134217727) HT_.out (h := ?_)
                      refine pu 27 37 (bv 34 268435455) HT_.out (h := ?_)
                      refine pu 28 38 (bv 34 536870911) HT_.out (h := ?_)
                      refine pu 29 39 (bv 34 1073741823) HT_.out (h := ?_)
                      refine tk 30 40 (bv 34 2147483647) HT_.out HW_.out hHeld (h := ?_)
                      refine one_ (i := 31) (N := some 41) (bv 34 4294967295) rfl rfl (one_of HT_.out (by kernel_rfl)) (by decide) (fun K hK => ?_)
                      refine goes_ Tryz.func102 (by kernel_rfl) rfl #[.slice A341_1 ((rd_T115 l0 x3_1).f1).length c341_1] (by rfl) rfl rfl Ag ?_
                      with_reducible refine (spec_l03Values.calls k1 _ _ ((rd_T115 l0 x3_1).f1) true _ ?side1 ?side2 A11.out).mono ?_
                      (case side1 => repeat (first | exact (Kd.C_below HR345_1.out By) | (with_reducible refine Kd.C_alloc ?_ _) | (with_reducible refine Kd.C_drewN ?_ _) | (with_reducible refine Kd.C_drew ?_)))
                      (case side2 => exact HC345_1.out)
                      rintro e w14 ⟨rfl, hb⟩
                      refine ⟨_, rfl, ?_⟩
                      have n0_ := Aside0.mk (below_step By hb)
                      clear HB
                      have HB := n0_
                      clear n0_
                      (try clear hb)
                      (try clear hb2)
                      (try clear hk)
                      (try clear hi)
                      refine hK.out _ _ ⟨(bz HB.out hw341_0), (bz HB.out hw341_1), (bz HB.out hw343_0), (bz HB.out hw343_1), (bz HB.out hw344_0), (bz HB.out hw344_1), (bz HB.out hw345_0), (bz HB.out hw345_1)⟩ (fun hHeld => ?_)
                      clear hK K
                      refine norm_ (a' := ?_) ?_ ?_
                      rotate_left
                      · show Act.put _ (some 41) _ = _
                        simp only [Act.put, List.setIfInBounds_toArray, List.set_cons_zero, List.set_cons_succ, i64_w, i32_w]
                        rfl
                      refine pu 32 42 (bv 34 8589934591) HT_.out (h := ?_)
                      refine pu 33 43 (bv 34 17179869183) HT_.out (h := ?_)
                      refine done_ (done_of HT_.out (by kernel_rfl)) ?_
                      try go_wp2
                      go_roundg k1
                      case measure => have := HK1.out; omega
                      case rel => exact ⟨(wrap64 (x3_1 + 1)), (by first | rfl | (simp; done) | (simp [*]; done)), H', ⟨by have := HK1.out; omega⟩, ⟨By⟩⟩
                    · replace c12 := Bool.eq_false_iff.mpr c12
                      subst c12
                      have H1 : (some false) = some r := by rw [if_neg (show ¬ (false = true) by decide)] at H; exact H
                      clear H
                      have H := H1
                      clear H1
                      obtain rfl := Option.some.inj H
                      try go_wp2
                      have n0_ := Aside0.mk (below_drew1 HB.out)
                      clear HB
                      have HB := n0_
                      clear n0_
                      have p341 : 0 ≤ (x3_1 : Int) := of_decide_eq_true Da
                      have q341 : x3_1 < (l0.length : Int) := of_decide_eq_true Da
                      obtain ⟨ad341, A341_1, c341_1, e341, hx341_0, hx341_1, hl341_1, hi341_1⟩ := at_T115 HR0.out x3_1 p341 q341
                      have hw341_1 := hx341_1
                      have hw341_0 := hx341_0
                      cases e341
                      replace hx341_0 := bz HB.out hx341_0
                      replace hx341_1 := bz HB.out hx341_1
                      have HR341_1 := Aside0.mk hi341_1
                      have HC341_1 := Aside0.mk hl341_1
                      clear hi341_1 hl341_1
                      replace p341 := eq_true p341
                      replace q341 := eq_true q341
                      have p343 : 0 ≤ ((ji7) : Int) := of_decide_eq_true Da
                      have q343 : (ji7) < (l0.length : Int) := of_decide_eq_true Da
                      obtain ⟨ad343, A343_1, c343_1, e343, hx343_0, hx343_1, hl343_1, hi343_1⟩ := at_T115 HR0.out (ji7) p343 q343
                      have hw343_1 := hx343_1
                      have hw343_0 := hx343_0
                      obtain rfl : ad341 = ad343 := (by injection e343)
                      replace hx343_0 := bz HB.out hx343_0
                      replace hx343_1 := bz HB.out hx343_1
                      have HR343_1 := Aside0.mk hi343_1
                      have HC343_1 := Aside0.mk hl343_1
                      clear hi343_1 hl343_1
                      replace p343 := eq_true p343
                      replace q343 := eq_true q343
                      have p344 : 0 ≤ (x3_1 : Int) := of_decide_eq_true Da
                      have q344 : x3_1 < (l0.length : Int) := of_decide_eq_true Da
                      obtain ⟨ad344, A344_1, c344_1, e344, hx344_0, hx344_1, hl344_1, hi344_1⟩ := at_T115 HR0.out x3_1 p344 q344
                      have hw344_1 := hx344_1
                      have hw344_0 := hx344_0
                      obtain rfl : ad341 = ad344 := (by injection e344)
                      replace hx344_0 := bz HB.out hx344_0
                      replace hx344_1 := bz HB.out hx344_1
                      have HR344_1 := Aside0.mk hi344_1
                      have HC344_1 := Aside0.mk hl344_1
                      clear hi344_1 hl344_1
                      replace p344 := eq_true p344
                      replace q344 := eq_true q344
                      have ea_ := Option.some.inj (hx341_1.symm.trans hx344_1)
                      injection ea_ with ea_ en_ ec_
                      subst ea_
                      subst ec_
                      clear en_
                      have p345 : 0 ≤ (x3_1 : Int) := of_decide_eq_true Da
                      have q345 : x3_1 < (l0.length : Int) := of_decide_eq_true Da
                      obtain ⟨ad345, A345_1, c345_1, e345, hx345_0, hx345_1, hl345_1, hi345_1⟩ := at_T115 HR0.out x3_1 p345 q345
                      have hw345_1 := hx345_1
                      have hw345_0 := hx345_0
                      obtain rfl : ad341 = ad345 := (by injection e345)
                      replace hx345_0 := bz HB.out hx345_0
                      replace hx345_1 := bz HB.out hx345_1
                      have HR345_1 := Aside0.mk hi345_1
                      have HC345_1 := Aside0.mk hl345_1
                      clear hi345_1 hl345_1
                      replace p345 := eq_true p345
                      replace q345 := eq_true q345
                      have ea_ := Option.some.inj (hx341_1.symm.trans hx345_1)
                      injection ea_ with ea_ en_ ec_
                      subst ea_
                      subst ec_
                      clear en_
                      refine start_ (n := 34) (S := fun w' => w'.cell? (ad341.add ((x3_1).toNat * 2)) = some (.string ((rd_T115 l0 x3_1).f0)) ∧ w'.cell? ⟨(ad341.add ((x3_1).toNat * 2)).block, (ad341.add ((x3_1).toNat * 2)).off + 1, none⟩ = some (.slice A341_1 ((rd_T115 l0 x3_1).f1).length c341_1) ∧ w'.cell? (ad341.add (((ji7)).toNat * 2)) = some (.string ((rd_T115 l0 (ji7)).f0)) ∧ w'.cell? ⟨(ad341.add (((ji7)).toNat * 2)).block, (ad341.add (((ji7)).toNat * 2)).off + 1, none⟩ = some (.slice A343_1 ((rd_T115 l0 (ji7)).f1).length c343_1) ∧ w'.cell? (ad341.add ((x3_1).toNat * 2)) = some (.string ((rd_T115 l0 x3_1).f0)) ∧ w'.cell? ⟨(ad341.add ((x3_1).toNat * 2)).block, (ad341.add ((x3_1).toNat * 2)).off + 1, none⟩ = some (.slice A341_1 ((rd_T115 l0 x3_1).f1).length c341_1) ∧ w'.cell? (ad341.add ((x3_1).toNat * 2)) = some (.string ((rd_T115 l0 x3_1).f0)) ∧ w'.cell? ⟨(ad341.add ((x3_1).toNat * 2)).block, (ad341.add ((x3_1).toNat * 2)).off + 1, none⟩ = some (.slice A341_1 ((rd_T115 l0 x3_1).f1).length c341_1)) (ds := []) (bv 34 0) (by kernel_rfl) rfl rfl ⟨(bz HB.out hw341_0), (bz HB.out hw341_1), (bz HB.out hw343_0), (bz HB.out hw343_1), (bz HB.out hw344_0), (bz HB.out hw344_1), (bz HB.out hw345_0), (bz HB.out hw345_1)⟩ (fun hHeld => ?_); refine with_tabW spec_l03Attrs.tab4 spec_l03Attrs.bits4 (fun HT_ HW_ => ?_)
                      generalize wr.drew = w15 at HB HR341_1 HR343_1 HR344_1 HR345_1 hx341_0 hx341_1 hx343_0 hx343_1 hx344_0 hx344_1 hx345_0 hx345_1 hHeld ⊢
                      refine pu 0 10 (bv 34 1) HT_.out (h := ?_)
                      refine pu 1 11 (bv 34 3) HT_.out (h := ?_)
                      refine pu 2 12 (bv 34 7) HT_.out (h := ?_)
                      refine pu 3 13 (bv 34 15) HT_.out (h := ?_)
                      refine tk 4 14 (bv 34 31) HT_.out HW_.out hHeld (h := ?_)
                      refine one_ (i := 5) (N := some 15) (bv 34 63) rfl rfl (one_of HT_.out (by kernel_rfl)) (by decide) (fun K hK => ?_)
                      refine goes_ Tryz.func78 (by kernel_rfl) rfl #[.string ((rd_T115 l0 x3_1).f0)] (by rfl) rfl rfl Ag ?_
                      with_reducible refine (spec_NameRight.calls k1 ((rd_T115 l0 x3_1).f0) true _ A4.out).mono ?_
                      rintro e w' ⟨rfl, ⟨nd, rfl⟩⟩
                      refine ⟨_, rfl, ?_⟩
                      refine hK.out _ _ ⟨(bz HB.out hw341_0), (bz HB.out hw341_1), (bz HB.out hw343_0), (bz HB.out hw343_1), (bz HB.out hw344_0), (bz HB.out hw344_1), (bz HB.out hw345_0), (bz HB.out hw345_1)⟩ (fun hHeld => ?_)
                      clear hK K
                      refine norm_ (a' := ?_) ?_ ?_
                      rotate_left
                      · show Act.put _ (some 15) _ = _
                        simp only [Act.put, List.setIfInBounds_toArray, List.set_cons_zero, List.set_cons_succ, i64_w, i32_w]
                        rfl
                      refine pu 6 16 (bv 34 127) HT_.out (h := ?_)
                      refine pu 7 17 (bv 34 255) HT_.out (h := ?_)
                      refine pu 8 18 (bv 34 511) HT_.out (h := ?_)
                      refine pu 9 19 (bv 34 1023) HT_.out (h := ?_)
                      refine pu 10 20 (bv 34 2047) HT_.out (h := ?_)
                      refine pu 11 21 (bv 34 4095) HT_.out (h := ?_)
                      refine pu 12 22 (bv 34 8191) HT_.out (h := ?_)
                      refine pu 13 23 (bv 34 16383) HT_.out (h := ?_)
                      refine pu 14 24 (bv 34 32767) HT_.out (h := ?_)
                      refine pu 15 25 (bv 34 65535) HT_.out (h := ?_)
                      refine pu 17 27 (bv 34 196607) HT_.out (h := ?_)
                      refine pu 18 28 (bv 34 458751) HT_.out (h := ?_)
                      refine pu 19 29 (bv 34 983039) HT_.out (h := ?_)
                      refine pu 20 30 (bv 34 2031615) HT_.out (h := ?_)
                      refine tk 16 26 (bv 34 2097151) HT_.out HW_.out hHeld (h := ?_)
                      refine tk 21 31 (bv 34 4194303) HT_.out HW_.out hHeld (h := ?_)
                      refine pu 22 32 (bv 34 8388607) HT_.out (h := ?_)
                      refine pu 23 33 (bv 34 16777215) HT_.out (h := ?_)
                      refine pu 24 34 (bv 34 33554431) HT_.out (h := ?_)
                      refine pu 25 35 (bv 34 67108863) HT_.out (h := ?_)
                      refine pu 26 36 (bv 34 134217727) HT_.out (h := ?_)
                      refine pu 27 37 (bv 34 268435455) HT_.out (h := ?_)
                      refine pu 28 38 (bv 34 536870911) HT_.out (h := ?_)
                      refine pu 29 39 (bv 34 1073741823) HT_.out (h := ?_)
                      refine tk 30 40 (bv 34 2147483647) HT_.out HW_.out hHeld (h := ?_)
                      refine one_ (i := 31) (N := some 41) (bv 34 4294967295) rfl rfl (one_of HT_.out (by kernel_rfl)) (by decide) (fun K hK => ?_)
                      refine goes_ Tryz.func102 (by kernel_rfl) rfl #[.slice A341_1 ((rd_T115 l0 x3_1).f1).length c341_1] (by rfl) rfl rfl Ag ?_
                      with_reducible refine (spec_l03Values.calls k1 _ _ ((rd_T115 l0 x3_1).f1) false _ ?side1 ?side2 A11.out).mono ?_
                      (case side1 => repeat (first | exact (Kd.C_below HR345_1.out By) | (with_reducible refine Kd.C_alloc ?_ _) | (with_reducible refine Kd.C_drewN ?_ _) | (with_reducible refine Kd.C_drew ?_)))
                      (case side2 => exact HC345_1.out)
                      rintro e w16 ⟨rfl, hb⟩
                      refine ⟨_, rfl, ?_⟩
                      have n0_ := Aside0.mk (below_step By hb)
                      clear HB
                      have HB := n0_
                      clear n0_
                      (try clear hb)
                      (try clear hb2)
                      (try clear hk)
                      (try clear hi)
                      refine hK.out _ _ ⟨(bz HB.out hw341_0), (bz HB.out hw341_1), (bz HB.out hw343_0), (bz HB.out hw343_1), (bz HB.out hw344_0), (bz HB.out hw344_1), (bz HB.out hw345_0), (bz HB.out hw345_1)⟩ (fun hHeld => ?_)
                      clear hK K
                      refine norm_ (a' := ?_) ?_ ?_
                      rotate_left
                      · show Act.put _ (some 41) _ = _
                        simp only [Act.put, List.setIfInBounds_toArray, List.set_cons_zero, List.set_cons_succ, i64_w, i32_w]
                        rfl
                      refine pu 32 42 (bv 34 8589934591) HT_.out (h := ?_)
                      refine pu 33 43 (bv 34 17179869183) HT_.out (h := ?_)
                      refine done_ (done_of HT_.out (by kernel_rfl)) ?_
                      try go_wp2
                      go_ret
                      exact ⟨by first | rfl | (simp [errW_none, errW_some] <;> rfl) | (simp only [← hji7]; first | rfl | (simp [errW_none, errW_some] <;> rfl)) | (simp [*, errW_none, errW_some] <;> first | rfl | (rw [Bool.eq_iff_iff]; simp)), By⟩
                  · rw [if_neg c10] at H
                    have c10b0 : (Op.bytesLess (((rd_T115 l0 (ji7)).f0).toList) (((rd_T115 l0 x3_1).f0).toList)) = false := by simpa using c10
                    clear c10
                    obtain rfl := Option.some.inj H
                    try go_wp2
                    have n0_ := Aside0.mk (below_drew1 HB.out)
                    clear HB
                    have HB := n0_
                    clear n0_
                    have p341 : 0 ≤ (x3_1 : Int) := of_decide_eq_true Da
                    have q341 : x3_1 < (l0.length : Int) := of_decide_eq_true Da
                    obtain ⟨ad341, A341_1, c341_1, e341, hx341_0, hx341_1, hl341_1, hi341_1⟩ := at_T115 HR0.out x3_1 p341 q341
                    have hw341_1 := hx341_1
                    have hw341_0 := hx341_0
                    cases e341
                    replace hx341_0 := bz HB.out hx341_0
                    replace hx341_1 := bz HB.out hx341_1
                    have HR341_1 := Aside0.mk hi341_1
                    have HC341_1 := Aside0.mk hl341_1
                    clear hi341_1 hl341_1
                    replace p341 := eq_true p341
                    replace q341 := eq_true q341
                    have p343 : 0 ≤ ((ji7) : Int) := of_decide_eq_true Da
                    have q343 : (ji7) < (l0.length : Int) := of_decide_eq_true Da
                    obtain ⟨ad343, A343_1, c343_1, e343, hx343_0, hx343_1, hl343_1, hi343_1⟩ := at_T115 HR0.out (ji7) p343 q343
                    have hw343_1 := hx343_1
                    have hw343_0 := hx343_0
                    obtain rfl : ad341 = ad343 := (by injection e343)
                    replace hx343_0 := bz HB.out hx343_0
                    replace hx343_1 := bz HB.out hx343_1
                    have HR343_1 := Aside0.mk hi343_1
                    have HC343_1 := Aside0.mk hl343_1
                    clear hi343_1 hl343_1
                    replace p343 := eq_true p343
                    replace q343 := eq_true q343
                    have p344 : 0 ≤ (x3_1 : Int) := of_decide_eq_true Da
                    have q344 : x3_1 < (l0.length : Int) := of_decide_eq_true Da
                    obtain ⟨ad344, A344_1, c344_1, e344, hx344_0, hx344_1, hl344_1, hi344_1⟩ := at_T115 HR0.out x3_1 p344 q344
                    have hw344_1 := hx344_1
                    have hw344_0 := hx344_0
                    obtain rfl : ad341 = ad344 := (by injection e344)
                    replace hx344_0 := bz HB.out hx344_0
                    replace hx344_1 := bz HB.out hx344_1
                    have HR344_1 := Aside0.mk hi344_1
                    have HC344_1 := Aside0.mk hl344_1
                    clear hi344_1 hl344_1
                    replace p344 := eq_true p344
                    replace q344 := eq_true q344
                    have ea_ := Option.some.inj (hx341_1.symm.trans hx344_1)
                    injection ea_ with ea_ en_ ec_
                    subst ea_
                    subst ec_
                    clear en_
                    refine start_ (n := 34) (S := fun w' => w'.cell? (ad341.add ((x3_1).toNat * 2)) = some (.string ((rd_T115 l0 x3_1).f0)) ∧ w'.cell? ⟨(ad341.add ((x3_1).toNat * 2)).block, (ad341.add ((x3_1).toNat * 2)).off + 1, none⟩ = some (.slice A341_1 ((rd_T115 l0 x3_1).f1).length c341_1) ∧ w'.cell? (ad341.add (((ji7)).toNat * 2)) = some (.string ((rd_T115 l0 (ji7)).f0)) ∧ w'.cell? ⟨(ad341.add (((ji7)).toNat * 2)).block, (ad341.add (((ji7)).toNat * 2)).off + 1, none⟩ = some (.slice A343_1 ((rd_T115 l0 (ji7)).f1).length c343_1) ∧ w'.cell? (ad341.add ((x3_1).toNat * 2)) = some (.string ((rd_T115 l0 x3_1).f0)) ∧ w'.cell? ⟨(ad341.add ((x3_1).toNat * 2)).block, (ad341.add ((x3_1).toNat * 2)).off + 1, none⟩ = some (.slice A341_1 ((rd_T115 l0 x3_1).f1).length c341_1)) (ds := []) (bv 34 0) (by kernel_rfl) rfl rfl ⟨(bz HB.out hw341_0), (bz HB.out hw341_1), (bz HB.out hw343_0), (bz HB.out hw343_1), (bz HB.out hw344_0), (bz HB.out hw344_1)⟩ (fun hHeld => ?_); refine with_tabW spec_l03Attrs.tab4 spec_l03Attrs.bits4 (fun HT_ HW_ => ?_)
                    generalize wr.drew = w17 at HB HR341_1 HR343_1 HR344_1 hx341_0 hx341_1 hx343_0 hx343_1 hx344_0 hx344_1 hHeld ⊢
                    refine pu 0 10 (bv 34 1) HT_.out (h := ?_)
                    refine pu 1 11 (bv 34 3) HT_.out (h := ?_)
                    refine pu 2 12 (bv 34 7) HT_.out (h := ?_)
                    refine pu 3 13 (bv 34 15) HT_.out (h := ?_)
                    refine tk 4 14 (bv 34 31) HT_.out HW_.out hHeld (h := ?_)
                    refine one_ (i := 5) (N := some 15) (bv 34 63) rfl rfl (one_of HT_.out (by kernel_rfl)) (by decide) (fun K hK => ?_)
                    refine goes_ Tryz.func78 (by kernel_rfl) rfl #[.string ((rd_T115 l0 x3_1).f0)] (by rfl) rfl rfl Ag ?_
                    with_reducible refine (spec_NameRight.calls k1 ((rd_T115 l0 x3_1).f0) true _ A4.out).mono ?_
                    rintro e w' ⟨rfl, ⟨nd, rfl⟩⟩
                    refine ⟨_, rfl, ?_⟩
                    refine hK.out _ _ ⟨(bz HB.out hw341_0), (bz HB.out hw341_1), (bz HB.out hw343_0), (bz HB.out hw343_1), (bz HB.out hw344_0), (bz HB.out hw344_1)⟩ (fun hHeld => ?_)
                    clear hK K
                    refine norm_ (a' := ?_) ?_ ?_
                    rotate_left
                    · show Act.put _ (some 15) _ = _
                      simp only [Act.put, List.setIfInBounds_toArray, List.set_cons_zero, List.set_cons_succ, i64_w, i32_w]
                      rfl
                    refine pu 6 16 (bv 34 127) HT_.out (h := ?_)
                    refine pu 7 17 (bv 34 255) HT_.out (h := ?_)
                    refine pu 8 18 (bv 34 511) HT_.out (h := ?_)
                    refine pu 9 19 (bv 34 1023) HT_.out (h := ?_)
                    refine pu 10 20 (bv 34 2047) HT_.out (h := ?_)
                    refine pu 11 21 (bv 34 4095) HT_.out (h := ?_)
                    refine pu 12 22 (bv 34 8191) HT_.out (h := ?_)
                    refine pu 13 23 (bv 34 16383) HT_.out (h := ?_)
                    refine pu 14 24 (bv 34 32767) HT_.out (h := ?_)
                    refine pu 15 25 (bv 34 65535) HT_.out (h := ?_)
                    refine pu 17 27 (bv 34 196607) HT_.out (h := ?_)
                    refine pu 18 28 (bv 34 458751) HT_.out (h := ?_)
                    refine pu 19 29 (bv 34 983039) HT_.out (h := ?_)
                    refine pu 20 30 (bv 34 2031615) HT_.out (h := ?_)
                    refine tk 16 26 (bv 34 2097151) HT_.out HW_.out hHeld (h := ?_)
                    refine tk 21 31 (bv 34 4194303) HT_.out HW_.out hHeld (h := ?_)
                    refine pu 22 32 (bv 34 8388607) HT_.out (h := ?_)
                    refine pu 23 33 (bv 34 16777215) HT_.out (h := ?_)
                    refine pu 24 34 (bv 34 33554431) HT_.out (h := ?_)
                    refine pu 25 35 (bv 34 67108863) HT_.out (h := ?_)
                    refine pn 26 36 (bv 34 134217727) HT_.out (h := ?_)
                    refine pn 27 37 (bv 34 268435455) HT_.out (h := ?_)
                    refine pn 28 38 (bv 34 536870911) HT_.out (h := ?_)
                    refine pn 29 39 (bv 34 1073741823) HT_.out (h := ?_)
                    refine pn 30 40 (bv 34 2147483647) HT_.out (h := ?_)
                    refine pn 31 41 (bv 34 4294967295) HT_.out (h := ?_)
                    refine pn 32 42 (bv 34 8589934591) HT_.out (h := ?_)
                    refine pu 33 43 (bv 34 17179869183) HT_.out (h := ?_)
                    refine done_ (done_of HT_.out (by kernel_rfl)) ?_
                    try go_wp2
                    go_ret
                    exact ⟨by first | rfl | (simp [errW_none, errW_some] <;> rfl) | (simp only [← hji7]; first | rfl | (simp [errW_none, errW_some] <;> rfl)) | (simp [*, errW_none, errW_some] <;> first | rfl | (rw [Bool.eq_iff_iff]; simp)), By⟩
                · rw [if_neg c9] at H
                  exact absurd H (by simp)
              · rw [if_neg c8] at H
                exact absurd H (by simp)
            · rw [if_neg c6] at H
              have c6b0 : decide (0 < x3_1) = false := decide_eq_false c6
              clear c6
              replace H := Option.bind_eq_some_iff.mp H
              obtain ⟨t348, A180, H⟩ := H
              replace H : (if t348 = true then (spec_l03Attrs.l0 k1 l0 (wrap64 (x3_1 + 1))) else (some false)) = some r := H
              have A18 := Aside0.mk A180
              clear A180
              by_cases c19 : t348 = true
              · subst c19
                have H1 : (spec_l03Attrs.l0 k1 l0 (wrap64 (x3_1 + 1))) = some r := by rw [if_pos rfl] at H; exact H
                clear H
                have H := H1
                clear H1
                have H' := Aside0.mk H
                clear H
                try go_wp2
                have n0_ := Aside0.mk (below_drew1 HB.out)
                clear HB
                have HB := n0_
                clear n0_
                have p341 : 0 ≤ (x3_1 : Int) := of_decide_eq_true Da
                have q341 : x3_1 < (l0.length : Int) := of_decide_eq_true Da
                obtain ⟨ad341, A341_1, c341_1, e341, hx341_0, hx341_1, hl341_1, hi341_1⟩ := at_T115 HR0.out x3_1 p341 q341
                have hw341_1 := hx341_1
                have hw341_0 := hx341_0
                cases e341
                replace hx341_0 := bz HB.out hx341_0
                replace hx341_1 := bz HB.out hx341_1
                have HR341_1 := Aside0.mk hi341_1
                have HC341_1 := Aside0.mk hl341_1
                clear hi341_1 hl341_1
                replace p341 := eq_true p341
                replace q341 := eq_true q341
                have p347 : 0 ≤ (x3_1 : Int) := of_decide_eq_true Da
                have q347 : x3_1 < (l0.length : Int) := of_decide_eq_true Da
                obtain ⟨ad347, A347_1, c347_1, e347, hx347_0, hx347_1, hl347_1, hi347_1⟩ := at_T115 HR0.out x3_1 p347 q347
                have hw347_1 := hx347_1
                have hw347_0 := hx347_0
                obtain rfl : ad341 = ad347 := (by injection e347)
                replace hx347_0 := bz HB.out hx347_0
                replace hx347_1 := bz HB.out hx347_1
                have HR347_1 := Aside0.mk hi347_1
                have HC347_1 := Aside0.mk hl347_1
                clear hi347_1 hl347_1
                replace p347 := eq_true p347
                replace q347 := eq_true q347
                have ea_ := Option.some.inj (hx341_1.symm.trans hx347_1)
                injection ea_ with ea_ en_ ec_
                subst ea_
                subst ec_
                clear en_
                refine start_ (n := 34) (S := fun w' => w'.cell? (ad341.add ((x3_1).toNat * 2)) = some (.string ((rd_T115 l0 x3_1).f0)) ∧ w'.cell? ⟨(ad341.add ((x3_1).toNat * 2)).block, (ad341.add ((x3_1).toNat * 2)).off + 1, none⟩ = some (.slice A341_1 ((rd_T115 l0 x3_1).f1).length c341_1) ∧ w'.cell? (ad341.add ((x3_1).toNat * 2)) = some (.string ((rd_T115 l0 x3_1).f0)) ∧ w'.cell? ⟨(ad341.add ((x3_1).toNat * 2)).block, (ad341.add ((x3_1).toNat * 2)).off + 1, none⟩ = some (.slice A341_1 ((rd_T115 l0 x3_1).f1).length c341_1)) (ds := []) (bv 34 0) (by kernel_rfl) rfl rfl ⟨(bz HB.out hw341_0), (bz HB.out hw341_1), (bz HB.out hw347_0), (bz HB.out hw347_1)⟩ (fun hHeld => ?_); refine with_tabW spec_l03Attrs.tab4 spec_l03Attrs.bits4 (fun HT_ HW_ => ?_)
                generalize wr.drew = w20 at HB HR341_1 HR347_1 hx341_0 hx341_1 hx347_0 hx347_1 hHeld ⊢
                refine pu 0 10 (bv 34 1) HT_.out (h := ?_)
                refine pu 1 11 (bv 34 3) HT_.out (h := ?_)
                refine pu 2 12 (bv 34 7) HT_.out (h := ?_)
                refine pu 3 13 (bv 34 15) HT_.out (h := ?_)
                refine tk 4 14 (bv 34 31) HT_.out HW_.out hHeld (h := ?_)
                refine one_ (i := 5) (N := some 15) (bv 34 63) rfl rfl (one_of HT_.out (by kernel_rfl)) (by decide) (fun K hK => ?_)
                refine goes_ Tryz.func78 (by kernel_rfl) rfl #[.string ((rd_T115 l0 x3_1).f0)] (by rfl) rfl rfl Ag ?_
                with_reducible refine (spec_NameRight.calls k1 ((rd_T115 l0 x3_1).f0) true _ A4.out).mono ?_
                rintro e w' ⟨rfl, ⟨nd, rfl⟩⟩
                refine ⟨_, rfl, ?_⟩
                refine hK.out _ _ ⟨(bz HB.out hw341_0), (bz HB.out hw341_1), (bz HB.out hw347_0), (bz HB.out hw347_1)⟩ (fun hHeld => ?_)
                clear hK K
                refine norm_ (a' := ?_) ?_ ?_
                rotate_left
                · show Act.put _ (some 15) _ = _
                  simp only [Act.put, List.setIfInBounds_toArray, List.set_cons_zero, List.set_cons_succ, i64_w, i32_w]
                  rfl
                refine pu 6 16 (bv 34 127) HT_.out (h := ?_)
                refine pu 7 17 (bv 34 255) HT_.out (h := ?_)
                refine pu 8 18 (bv 34 511) HT_.out (h := ?_)
                refine pu 9 19 (bv 34 1023) HT_.out (h := ?_)
                refine pu 10 20 (bv 34 2047) HT_.out (h := ?_)
                refine pn 11 21 (bv 34 4095) HT_.out (h := ?_)
                refine pn 12 22 (bv 34 8191) HT_.out (h := ?_)
                refine pn 13 23 (bv 34 16383) HT_.out (h := ?_)
                refine pn 14 24 (bv 34 32767) HT_.out (h := ?_)
                refine pn 15 25 (bv 34 65535) HT_.out (h := ?_)
                refine pn 16 26 (bv 34 131071) HT_.out (h := ?_)
                refine pn 17 27 (bv 34 262143) HT_.out (h := ?_)
                refine pn 18 28 (bv 34 524287) HT_.out (h := ?_)
                refine pn 19 29 (bv 34 1048575) HT_.out (h := ?_)
                refine pn 20 30 (bv 34 2097151) HT_.out (h := ?_)
                refine pn 21 31 (bv 34 4194303) HT_.out (h := ?_)
                refine pn 22 32 (bv 34 8388607) HT_.out (h := ?_)
                refine pu 23 33 (bv 34 16777215) HT_.out (h := ?_)
                refine pu 24 34 (bv 34 33554431) HT_.out (h := ?_)
                refine pu 25 35 (bv 34 67108863) HT_.out (h := ?_)
                refine pu 26 36 (bv 34 134217727) HT_.out (h := ?_)
                refine pu 27 37 (bv 34 268435455) HT_.out (h := ?_)
                refine pu 28 38 (bv 34 536870911) HT_.out (h := ?_)
                refine pu 29 39 (bv 34 1073741823) HT_.out (h := ?_)
                refine tk 30 40 (bv 34 2147483647) HT_.out HW_.out hHeld (h := ?_)
                refine one_ (i := 31) (N := some 41) (bv 34 4294967295) rfl rfl (one_of HT_.out (by kernel_rfl)) (by decide) (fun K hK => ?_)
                refine goes_ Tryz.func102 (by kernel_rfl) rfl #[.slice A341_1 ((rd_T115 l0 x3_1).f1).length c341_1] (by rfl) rfl rfl Ag ?_
                with_reducible refine (spec_l03Values.calls k1 _ _ ((rd_T115 l0 x3_1).f1) true _ ?side1 ?side2 A18.out).mono ?_
                (case side1 => repeat (first | exact (Kd.C_below HR347_1.out By) | (with_reducible refine Kd.C_alloc ?_ _) | (with_reducible refine Kd.C_drewN ?_ _) | (with_reducible refine Kd.C_drew ?_)))
                (case side2 => exact HC347_1.out)
                rintro e w21 ⟨rfl, hb⟩
                refine ⟨_, rfl, ?_⟩
                have n0_ := Aside0.mk (below_step By hb)
                clear HB
                have HB := n0_
                clear n0_
                (try clear hb)
                (try clear hb2)
                (try clear hk)
                (try clear hi)
                refine hK.out _ _ ⟨(bz HB.out hw341_0), (bz HB.out hw341_1), (bz HB.out hw347_0), (bz HB.out hw347_1)⟩ (fun hHeld => ?_)
                clear hK K
                refine norm_ (a' := ?_) ?_ ?_
                rotate_left
                · show Act.put _ (some 41) _ = _
                  simp only [Act.put, List.setIfInBounds_toArray, List.set_cons_zero, List.set_cons_succ, i64_w, i32_w]
                  rfl
                refine pu 32 42 (bv 34 8589934591) HT_.out (h := ?_)
                refine pu 33 43 (bv 34 17179869183) HT_.out (h := ?_)
                refine done_ (done_of HT_.out (by kernel_rfl)) ?_
                try go_wp2
                go_roundg k1
                case measure => have := HK1.out; omega
                case rel => exact ⟨(wrap64 (x3_1 + 1)), (by first | rfl | (simp; done) | (simp [*]; done)), H', ⟨by have := HK1.out; omega⟩, ⟨By⟩⟩
              · replace c19 := Bool.eq_false_iff.mpr c19
                subst c19
                have H1 : (some false) = some r := by rw [if_neg (show ¬ (false = true) by decide)] at H; exact H
                clear H
                have H := H1
                clear H1
                obtain rfl := Option.some.inj H
                try go_wp2
                have n0_ := Aside0.mk (below_drew1 HB.out)
                clear HB
                have HB := n0_
                clear n0_
                have p341 : 0 ≤ (x3_1 : Int) := of_decide_eq_true Da
                have q341 : x3_1 < (l0.length : Int) := of_decide_eq_true Da
                obtain ⟨ad341, A341_1, c341_1, e341, hx341_0, hx341_1, hl341_1, hi341_1⟩ := at_T115 HR0.out x3_1 p341 q341
                have hw341_1 := hx341_1
                have hw341_0 := hx341_0
                cases e341
                replace hx341_0 := bz HB.out hx341_0
                replace hx341_1 := bz HB.out hx341_1
                have HR341_1 := Aside0.mk hi341_1
                have HC341_1 := Aside0.mk hl341_1
                clear hi341_1 hl341_1
                replace p341 := eq_true p341
                replace q341 := eq_true q341
                have p347 : 0 ≤ (x3_1 : Int) := of_decide_eq_true Da
                have q347 : x3_1 < (l0.length : Int) := of_decide_eq_true Da
                obtain ⟨ad347, A347_1, c347_1, e347, hx347_0, hx347_1, hl347_1, hi347_1⟩ := at_T115 HR0.out x3_1 p347 q347
                have hw347_1 := hx347_1
                have hw347_0 := hx347_0
                obtain rfl : ad341 = ad347 := (by injection e347)
                replace hx347_0 := bz HB.out hx347_0
                replace hx347_1 := bz HB.out hx347_1
                have HR347_1 := Aside0.mk hi347_1
                have HC347_1 := Aside0.mk hl347_1
                clear hi347_1 hl347_1
                replace p347 := eq_true p347
                replace q347 := eq_true q347
                have ea_ := Option.some.inj (hx341_1.symm.trans hx347_1)
                injection ea_ with ea_ en_ ec_
                subst ea_
                subst ec_
                clear en_
                refine start_ (n := 34) (S := fun w' => w'.cell? (ad341.add ((x3_1).toNat * 2)) = some (.string ((rd_T115 l0 x3_1).f0)) ∧ w'.cell? ⟨(ad341.add ((x3_1).toNat * 2)).block, (ad341.add ((x3_1).toNat * 2)).off + 1, none⟩ = some (.slice A341_1 ((rd_T115 l0 x3_1).f1).length c341_1) ∧ w'.cell? (ad341.add ((x3_1).toNat * 2)) = some (.string ((rd_T115 l0 x3_1).f0)) ∧ w'.cell? ⟨(ad341.add ((x3_1).toNat * 2)).block, (ad341.add ((x3_1).toNat * 2)).off + 1, none⟩ = some (.slice A341_1 ((rd_T115 l0 x3_1).f1).length c341_1)) (ds := []) (bv 34 0) (by kernel_rfl) rfl rfl ⟨(bz HB.out hw341_0), (bz HB.out hw341_1), (bz HB.out hw347_0), (bz HB.out hw347_1)⟩ (fun hHeld => ?_); refine with_tabW spec_l03Attrs.tab4 spec_l03Attrs.bits4 (fun HT_ HW_ => ?_)
                generalize wr.drew = w22 at HB HR341_1 HR347_1 hx341_0 hx341_1 hx347_0 hx347_1 hHeld ⊢
                refine pu 0 10 (bv 34 1) HT_.out (h := ?_)
                refine pu 1 11 (bv 34 3) HT_.out (h := ?_)
                refine pu 2 12 (bv 34 7) HT_.out (h := ?_)
                refine pu 3 13 (bv 34 15) HT_.out (h := ?_)
                refine tk 4 14 (bv 34 31) HT_.out HW_.out hHeld (h := ?_)
                refine one_ (i := 5) (N := some 15) (bv 34 63) rfl rfl (one_of HT_.out (by kernel_rfl)) (by decide) (fun K hK => ?_)
                refine goes_ Tryz.func78 (by kernel_rfl) rfl #[.string ((rd_T115 l0 x3_1).f0)] (by rfl) rfl rfl Ag ?_
                with_reducible refine (spec_NameRight.calls k1 ((rd_T115 l0 x3_1).f0) true _ A4.out).mono ?_
                rintro e w' ⟨rfl, ⟨nd, rfl⟩⟩
                refine ⟨_, rfl, ?_⟩
                refine hK.out _ _ ⟨(bz HB.out hw341_0), (bz HB.out hw341_1), (bz HB.out hw347_0), (bz HB.out hw347_1)⟩ (fun hHeld => ?_)
                clear hK K
                refine norm_ (a' := ?_) ?_ ?_
                rotate_left
                · show Act.put _ (some 15) _ = _
                  simp only [Act.put, List.setIfInBounds_toArray, List.set_cons_zero, List.set_cons_succ, i64_w, i32_w]
                  rfl
                refine pu 6 16 (bv 34 127) HT_.out (h := ?_)
                refine pu 7 17 (bv 34 255) HT_.out (h := ?_)
                refine pu 8 18 (bv 34 511) HT_.out (h := ?_)
                refine pu 9 19 (bv 34 1023) HT_.out (h := ?_)
                refine pu 10 20 (bv 34 2047) HT_.out (h := ?_)
                refine pn 11 21 (bv 34 4095) HT_.out (h := ?_)
                refine pn 12 22 (bv 34 8191) HT_.out (h := ?_)
                refine pn 13 23 (bv 34 16383) HT_.out (h := ?_)
                refine pn 14 24 (bv 34 32767) HT_.out (h := ?_)
                refine pn 15 25 (bv 34 65535) HT_.out (h := ?_)
                refine pn 16 26 (bv 34 131071) HT_.out (h := ?_)
                refine pn 17 27 (bv 34 262143) HT_.out (h := ?_)
                refine pn 18 28 (bv 34 524287) HT_.out (h := ?_)
                refine pn 19 29 (bv 34 1048575) HT_.out (h := ?_)
                refine pn 20 30 (bv 34 2097151) HT_.out (h := ?_)
                refine pn 21 31 (bv 34 4194303) HT_.out (h := ?_)
                refine pn 22 32 (bv 34 8388607) HT_.out (h := ?_)
                refine pu 23 33 (bv 34 16777215) HT_.out (h := ?_)
                refine pu 24 34 (bv 34 33554431) HT_.out (h := ?_)
                refine pu 25 35 (bv 34 67108863) HT_.out (h := ?_)
                refine pu 26 36 (bv 34 134217727) HT_.out (h := ?_)
                refine pu 27 37 (bv 34 268435455) HT_.out (h := ?_)
                refine pu 28 38 (bv 34 536870911) HT_.out (h := ?_)
                refine pu 29 39 (bv 34 1073741823) HT_.out (h := ?_)
                refine tk 30 40 (bv 34 2147483647) HT_.out HW_.out hHeld (h := ?_)
                refine one_ (i := 31) (N := some 41) (bv 34 4294967295) rfl rfl (one_of HT_.out (by kernel_rfl)) (by decide) (fun K hK => ?_)
                refine goes_ Tryz.func102 (by kernel_rfl) rfl #[.slice A341_1 ((rd_T115 l0 x3_1).f1).length c341_1] (by rfl) rfl rfl Ag ?_
                with_reducible refine (spec_l03Values.calls k1 _ _ ((rd_T115 l0 x3_1).f1) false _ ?side1 ?side2 A18.out).mono ?_
                (case side1 => repeat (first | exact (Kd.C_below HR347_1.out By) | (with_reducible refine Kd.C_alloc ?_ _) | (with_reducible refine Kd.C_drewN ?_ _) | (with_reducible refine Kd.C_drew ?_)))
                (case side2 => exact HC347_1.out)
                rintro e w23 ⟨rfl, hb⟩
                refine ⟨_, rfl, ?_⟩
                have n0_ := Aside0.mk (below_step By hb)
                clear HB
                have HB := n0_
                clear n0_
                (try clear hb)
                (try clear hb2)
                (try clear hk)
                (try clear hi)
                refine hK.out _ _ ⟨(bz HB.out hw341_0), (bz HB.out hw341_1), (bz HB.out hw347_0), (bz HB.out hw347_1)⟩ (fun hHeld => ?_)
                clear hK K
                refine norm_ (a' := ?_) ?_ ?_
                rotate_left
                · show Act.put _ (some 41) _ = _
                  simp only [Act.put, List.setIfInBounds_toArray, List.set_cons_zero, List.set_cons_succ, i64_w, i32_w]
                  rfl
                refine pu 32 42 (bv 34 8589934591) HT_.out (h := ?_)
                refine pu 33 43 (bv 34 17179869183) HT_.out (h := ?_)
                refine done_ (done_of HT_.out (by kernel_rfl)) ?_
                try go_wp2
                go_ret
                exact ⟨Rf, By⟩
          · replace c5 := Bool.eq_false_iff.mpr c5
            subst c5
            have H1 : (some false) = some r := by rw [if_neg (show ¬ (false = true) by decide)] at H; exact H
            clear H
            have H := H1
            clear H1
            obtain rfl := Option.some.inj H
            try go_wp2
            have n0_ := Aside0.mk (below_drew1 HB.out)
            clear HB
            have HB := n0_
            clear n0_
            have p341 : 0 ≤ (x3_1 : Int) := of_decide_eq_true Da
            have q341 : x3_1 < (l0.length : Int) := of_decide_eq_true Da
            obtain ⟨ad341, A341_1, c341_1, e341, hx341_0, hx341_1, hl341_1, hi341_1⟩ := at_T115 HR0.out x3_1 p341 q341
            have hw341_1 := hx341_1
            have hw341_0 := hx341_0
            cases e341
            replace hx341_0 := bz HB.out hx341_0
            replace hx341_1 := bz HB.out hx341_1
            have HR341_1 := Aside0.mk hi341_1
            have HC341_1 := Aside0.mk hl341_1
            clear hi341_1 hl341_1
            replace p341 := eq_true p341
            replace q341 := eq_true q341
            refine start_ (n := 34) (S := fun w' => w'.cell? (ad341.add ((x3_1).toNat * 2)) = some (.string ((rd_T115 l0 x3_1).f0)) ∧ w'.cell? ⟨(ad341.add ((x3_1).toNat * 2)).block, (ad341.add ((x3_1).toNat * 2)).off + 1, none⟩ = some (.slice A341_1 ((rd_T115 l0 x3_1).f1).length c341_1)) (ds := []) (bv 34 0) (by kernel_rfl) rfl rfl ⟨(bz HB.out hw341_0), (bz HB.out hw341_1)⟩ (fun hHeld => ?_); refine with_tabW spec_l03Attrs.tab4 spec_l03Attrs.bits4 (fun HT_ HW_ => ?_)
            generalize wr.drew = w24 at HB HR341_1 hx341_0 hx341_1 hHeld ⊢
            refine pu 0 10 (bv 34 1) HT_.out (h := ?_)
            refine pu 1 11 (bv 34 3) HT_.out (h := ?_)
            refine pu 2 12 (bv 34 7) HT_.out (h := ?_)
            refine pu 3 13 (bv 34 15) HT_.out (h := ?_)
            refine tk 4 14 (bv 34 31) HT_.out HW_.out hHeld (h := ?_)
            refine one_ (i := 5) (N := some 15) (bv 34 63) rfl rfl (one_of HT_.out (by kernel_rfl)) (by decide) (fun K hK => ?_)
            refine goes_ Tryz.func78 (by kernel_rfl) rfl #[.string ((rd_T115 l0 x3_1).f0)] (by rfl) rfl rfl Ag ?_
            with_reducible refine (spec_NameRight.calls k1 ((rd_T115 l0 x3_1).f0) false _ A4.out).mono ?_
            rintro e w' ⟨rfl, ⟨nd, rfl⟩⟩
            refine ⟨_, rfl, ?_⟩
            refine hK.out _ _ ⟨(bz HB.out hw341_0), (bz HB.out hw341_1)⟩ (fun hHeld => ?_)
            clear hK K
            refine norm_ (a' := ?_) ?_ ?_
            rotate_left
            · show Act.put _ (some 15) _ = _
              simp only [Act.put, List.setIfInBounds_toArray, List.set_cons_zero, List.set_cons_succ, i64_w, i32_w]
              rfl
            refine pu 6 16 (bv 34 127) HT_.out (h := ?_)
            refine pu 7 17 (bv 34 255) HT_.out (h := ?_)
            refine pn 8 18 (bv 34 511) HT_.out (h := ?_)
            refine pn 9 19 (bv 34 1023) HT_.out (h := ?_)
            refine pn 10 20 (bv 34 2047) HT_.out (h := ?_)
            refine pn 11 21 (bv 34 4095) HT_.out (h := ?_)
            refine pn 12 22 (bv 34 8191) HT_.out (h := ?_)
            refine pn 13 23 (bv 34 16383) HT_.out (h := ?_)
            refine pn 14 24 (bv 34 32767) HT_.out (h := ?_)
            refine pn 15 25 (bv 34 65535) HT_.out (h := ?_)
            refine pn 16 26 (bv 34 131071) HT_.out (h := ?_)
            refine pn 17 27 (bv 34 262143) HT_.out (h := ?_)
            refine pn 18 28 (bv 34 524287) HT_.out (h := ?_)
            refine pn 19 29 (bv 34 1048575) HT_.out (h := ?_)
            refine pn 20 30 (bv 34 2097151) HT_.out (h := ?_)
            refine pn 21 31 (bv 34 4194303) HT_.out (h := ?_)
            refine pn 22 32 (bv 34 8388607) HT_.out (h := ?_)
            refine pn 23 33 (bv 34 16777215) HT_.out (h := ?_)
            refine pu 24 34 (bv 34 33554431) HT_.out (h := ?_)
            refine pu 25 35 (bv 34 67108863) HT_.out (h := ?_)
            refine pn 26 36 (bv 34 134217727) HT_.out (h := ?_)
            refine pn 27 37 (bv 34 268435455) HT_.out (h := ?_)
            refine pn 28 38 (bv 34 536870911) HT_.out (h := ?_)
            refine pn 29 39 (bv 34 1073741823) HT_.out (h := ?_)
            refine pn 30 40 (bv 34 2147483647) HT_.out (h := ?_)
            refine pn 31 41 (bv 34 4294967295) HT_.out (h := ?_)
            refine pn 32 42 (bv 34 8589934591) HT_.out (h := ?_)
            refine pu 33 43 (bv 34 17179869183) HT_.out (h := ?_)
            refine done_ (done_of HT_.out (by kernel_rfl)) ?_
            try go_wp2
            go_ret
            exact ⟨Rf, By⟩
        · rw [if_neg c3] at H
          exact absurd H (by simp)
      · rw [if_neg c2] at H
        have c2b0 : decide (x3_1 < (l0.length : Int)) = false := decide_eq_false c2
        clear c2
        obtain rfl := Option.some.inj H
        go_wp2
        go_ret
        exact ⟨Rf, By⟩

set_option linter.unusedVariables false
set_option linter.unusedSimpArgs false

/-! ### spec_EntryRight: function 32 -/
def spec_EntryRight.f (k : Nat) (l0_0 : List (S113)) (l0_1 : List (S115)) : Option (Bool) := if (l0_0.length : Int) > 0 then ((spec_DnRight.f k l0_0).bind fun t350 => (if t350 = true then ((spec_l03Attrs.f k l0_1).bind fun t351 => (some t351)) else (some false))) else (some false)
theorem spec_EntryRight.mono : ∀ a0 a1 k, LeO (spec_EntryRight.f k a0 a1) (spec_EntryRight.f (k + 1) a0 a1) := by
  intro a0 a1 k
  unfold spec_EntryRight.f
  repeat' first
      | (with_reducible exact spec_DnRight.mono _ _)
      | (with_reducible exact spec_l03Attrs.mono _ _)
      | (with_reducible exact LeO.refl _)
      | (with_reducible exact LeO.none _)
      | (with_reducible refine LeO.ite ?_ ?_)
      | (with_reducible refine LeO.bind ?_ (fun _ => ?_))
      | exact spec_DnRight.mono _ _
      | exact spec_l03Attrs.mono _ _
      | exact LeO.none _
      | refine LeO.ite ?_ ?_
      | refine LeO.bind ?_ (fun _ => ?_)
set_option maxHeartbeats 8000000 in
set_option maxRecDepth 100000 in
theorem spec_EntryRight.calls (k : Nat) (A0_0 : Option Addr) (c0_0 : Nat) (l0_0 : List (S113)) (A0_1 : Option Addr) (c0_1 : Nat) (l0_1 : List (S115)) (r : Bool) (w : World) (hr0_0 : Kd.C k113 w A0_0 l0_0.length l0_0) (hc0_0 : l0_0.length ≤ c0_0) (hr0_1 : Kd.C k115 w A0_1 l0_1.length l0_1) (hc0_1 : l0_1.length ≤ c0_1) (h : spec_EntryRight.f k l0_0 l0_1 = some r) :
    Calls Tryz.prog 32 #[.agg #[.slice A0_0 l0_0.length c0_0, .slice A0_1 l0_1.length c0_1]] w fun e w' => e = .returned (.bool r) ∧ Below w.heap.size w w' := by
  have hu37 := Tryz.underlying37
  have HR0_0 := Aside0.mk hr0_0
  have HC0_0 := Aside0.mk hc0_0
  clear hr0_0 hc0_0
  have HR0_1 := Aside0.mk hr0_1
  have HC0_1 := Aside0.mk hc0_1
  clear hr0_1 hc0_1
  have HB := Aside0.mk (Below.refl w.heap.size w)
  have H : (if (l0_0.length : Int) > 0 then ((spec_DnRight.f k l0_0).bind fun t350 => (if t350 = true then ((spec_l03Attrs.f k l0_1).bind fun t351 => (some t351)) else (some false))) else (some false)) = some r := h
  clear h
  by_cases c2 : (l0_0.length : Int) > 0
  · rw [if_pos c2] at H
    have c2b0 : decide (0 < (l0_0.length : Int)) = true := decide_eq_true c2
    have c2b1 : decide (0 < l0_0.length) = true := decide_eq_true (by omega)
    clear c2
    replace H := Option.bind_eq_some_iff.mp H
    obtain ⟨t350, A30, H⟩ := H
    replace H : (if t350 = true then ((spec_l03Attrs.f k l0_1).bind fun t351 => (some t351)) else (some false)) = some r := H
    have A3 := Aside0.mk A30
    clear A30
    by_cases c4 : t350 = true
    · subst c4
      have H1 : ((spec_l03Attrs.f k l0_1).bind fun t351 => (some t351)) = some r := by rw [if_pos rfl] at H; exact H
      clear H
      have H := H1
      clear H1
      replace H := Option.bind_eq_some_iff.mp H
      obtain ⟨t351, A50, H⟩ := H
      replace H : (some t351) = some r := H
      have A5 := Aside0.mk A50
      clear A50
      obtain rfl := Option.some.inj H
      go_enter Tryz.func32, Tryz.ntmps32
      go_wp2_with (first | ((with_reducible refine gate_dst (N := 1) rfl ?_); refine box_event ?hg (N := 1) ?hd (cs := #[.slice A0_0 l0_0.length c0_0, .slice A0_1 l0_1.length c0_1]) (t := 37) ?hr ?_; (case hd => rfl); (case hg => rfl); (case hr => first | (go_simp; done) | (go_simp; rfl)); intro gb349 hg w6 hbox hb; have n0_ := Aside0.mk (below_step By hb); have n1_ := Aside0.mk (hbox); have n2_ := Aside0.mk ((by rw [hg]; exact (below_size By) : w.heap.size ≤ gb349)); have n3_ := Aside0.mk ((by rw [hg]; exact (below_size By) : w.heap.size ≤ gb349)); clear HB; have HB := n0_; have BK349 := n1_; have GW349 := n2_; have GE349 := n3_; clear n0_ n1_ n2_ n3_; clear hb hbox hg; have ⟨hcz7_0, hcz7_1⟩ := cq2 BK349.out; have ⟨hfz7_0, hfz7_1⟩ := fq2 BK349.out) | (go_at_call 66; (with_reducible refine (spec_DnRight.calls k _ _ l0_0 true _ ?side1 ?side2 A3.out).mono ?_); (case side1 => exact rC (Kd.C_below HR0_0.out HB.out)); (case side2 => exact HC0_0.out); rintro e w8 ⟨rfl, hb⟩; have n0_ := Aside0.mk (bb BK349.out hb); have n1_ := Aside0.mk (below_step By hb); clear BK349; clear HB; have BK349 := n0_; have HB := n1_; clear n0_ n1_; (try clear hb); (try clear hb2); (try clear hk); (try clear hi); have ⟨hcz9_0, hcz9_1⟩ := cq2 BK349.out; have ⟨hfz9_0, hfz9_1⟩ := fq2 BK349.out) | (go_at_call 67; (with_reducible refine (spec_l03Attrs.calls k _ _ l0_1 t351 _ ?side1 ?side2 A5.out).mono ?_); (case side1 => exact rC (Kd.C_below HR0_1.out HB.out)); (case side2 => exact HC0_1.out); rintro e w10 ⟨rfl, hb⟩; have n0_ := Aside0.mk (bb BK349.out hb); have n1_ := Aside0.mk (below_step By hb); clear BK349; clear HB; have BK349 := n0_; have HB := n1_; clear n0_ n1_; (try clear hb); (try clear hb2); (try clear hk); (try clear hi)))
      go_ret
      exact ⟨Rf, By⟩
    · replace c4 := Bool.eq_false_iff.mpr c4
      subst c4
      have H1 : (some false) = some r := by rw [if_neg (show ¬ (false = true) by decide)] at H; exact H
      clear H
      have H := H1
      clear H1
      obtain rfl := Option.some.inj H
      go_enter Tryz.func32, Tryz.ntmps32
      go_wp2_with (first | ((with_reducible refine gate_dst (N := 1) rfl ?_); refine box_event ?hg (N := 1) ?hd (cs := #[.slice A0_0 l0_0.length c0_0, .slice A0_1 l0_1.length c0_1]) (t := 37) ?hr ?_; (case hd => rfl); (case hg => rfl); (case hr => first | (go_simp; done) | (go_simp; rfl)); intro gb349 hg w11 hbox hb; have n0_ := Aside0.mk (below_step By hb); have n1_ := Aside0.mk (hbox); have n2_ := Aside0.mk ((by rw [hg]; exact (below_size By) : w.heap.size ≤ gb349)); have n3_ := Aside0.mk ((by rw [hg]; exact (below_size By) : w.heap.size ≤ gb349)); clear HB; have HB := n0_; have BK349 := n1_; have GW349 := n2_; have GE349 := n3_; clear n0_ n1_ n2_ n3_; clear hb hbox hg; have ⟨hcz12_0, hcz12_1⟩ := cq2 BK349.out; have ⟨hfz12_0, hfz12_1⟩ := fq2 BK349.out) | (go_at_call 66; (with_reducible refine (spec_DnRight.calls k _ _ l0_0 false _ ?side1 ?side2 A3.out).mono ?_); (case side1 => exact rC (Kd.C_below HR0_0.out HB.out)); (case side2 => exact HC0_0.out); rintro e w13 ⟨rfl, hb⟩; have n0_ := Aside0.mk (bb BK349.out hb); have n1_ := Aside0.mk (below_step By hb); clear BK349; clear HB; have BK349 := n0_; have HB := n1_; clear n0_ n1_; (try clear hb); (try clear hb2); (try clear hk); (try clear hi)))
      go_ret
      exact ⟨Rf, By⟩
  · rw [if_neg c2] at H
    have c2b0 : decide (0 < (l0_0.length : Int)) = false := decide_eq_false c2
    have c2b1 : decide (0 < l0_0.length) = false := decide_eq_false (by omega)
    clear c2
    obtain rfl := Option.some.inj H
    go_enter Tryz.func32, Tryz.ntmps32
    go_wp2_with (first | ((with_reducible refine gate_dst (N := 1) rfl ?_); refine box_event ?hg (N := 1) ?hd (cs := #[.slice A0_0 l0_0.length c0_0, .slice A0_1 l0_1.length c0_1]) (t := 37) ?hr ?_; (case hd => rfl); (case hg => rfl); (case hr => first | (go_simp; done) | (go_simp; rfl)); intro gb349 hg w14 hbox hb; have n0_ := Aside0.mk (below_step By hb); have n1_ := Aside0.mk (hbox); have n2_ := Aside0.mk ((by rw [hg]; exact (below_size By) : w.heap.size ≤ gb349)); have n3_ := Aside0.mk ((by rw [hg]; exact (below_size By) : w.heap.size ≤ gb349)); clear HB; have HB := n0_; have BK349 := n1_; have GW349 := n2_; have GE349 := n3_; clear n0_ n1_ n2_ n3_; clear hb hbox hg; have ⟨hcz15_0, hcz15_1⟩ := cq2 BK349.out; have ⟨hfz15_0, hfz15_1⟩ := fq2 BK349.out))
    go_ret
    exact ⟨Rf, By⟩

set_option linter.unusedVariables false
set_option linter.unusedSimpArgs false

/-! ### spec_l01Min: function 105 -/
def spec_l01Min.f (a0 : Int) (a1 : Int) : Option (Int) := if a0 < a1 then (some a0) else (some a1)
set_option maxHeartbeats 8000000 in
set_option maxRecDepth 100000 in
theorem spec_l01Min.calls (a0 : Int) (a1 : Int) (r : Int) (w : World) (h : spec_l01Min.f a0 a1 = some r) :
    Calls Tryz.prog 105 #[.int .i64 a0, .int .i64 a1] w fun e w' => e = .returned (.int .i64 r) ∧ Drawn0 w w' := by
  have H : (if a0 < a1 then (some a0) else (some a1)) = some r := h
  clear h
  by_cases c3 : a0 < a1
  · rw [if_pos c3] at H
    have c3b0 : decide (a0 < a1) = true := decide_eq_true c3
    clear c3
    obtain rfl := Option.some.inj H
    go_enter Tryz.func105, Tryz.ntmps105
    go_wp2
    go_ret
    exact ⟨by first | rfl | (simp; done) | (simp [*]; done), by repeat (first | exact Drawn0.refl _ | apply Drawn0.step)⟩
  · rw [if_neg c3] at H
    have c3b0 : decide (a0 < a1) = false := decide_eq_false c3
    clear c3
    obtain rfl := Option.some.inj H
    go_enter Tryz.func105, Tryz.ntmps105
    go_wp2
    go_ret
    exact ⟨by first | rfl | (simp; done) | (simp [*]; done), by repeat (first | exact Drawn0.refl _ | apply Drawn0.step)⟩

end Go.Proofs.YtpocoeghobdfiaaGreatDoor.PG
