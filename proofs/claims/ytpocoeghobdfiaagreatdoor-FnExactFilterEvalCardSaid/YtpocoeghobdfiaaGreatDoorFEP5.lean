/-
  Functions that the law reaches, each as a plain Lean function, with the proof that the call comes to it (written by a program of this session by way of the kit's print program). Conditions: what each contract states.
-/
import Derived.Laws.Cover1
import Derived.Test.YtpocoeghobdfiaaGreatDoorFEP1
import Derived.Test.YtpocoeghobdfiaaGreatDoorFELibTrim
import Derived.Test.YtpocoeghobdfiaaGreatDoorFESq
import Derived.Test.YtpocoeghobdfiaaGreatDoorFEP3
import Derived.Test.YtpocoeghobdfiaaGreatDoorFECompare
import Derived.Test.YtpocoeghobdfiaaGreatDoorFEP2
namespace Go.Proofs.YtpocoeghobdfiaaGreatDoor.PG
open Go.Proofs.YtpocoeghobdfiaaGreatDoor.Sq Go.RowKit Go.Proofs.YtpocoeghobdfiaaGreatDoorW.PrintWords Go.Proofs.YtpocoeghobdfiaaGreatDoorW.PrintLast Go.Proofs.YtpocoeghobdfiaaGreatDoorW.PrintMore
attribute [local go_sem] max2_int min2_int max_two min_two max_three min_three max_four min_four   -- for this text's walks alone
set_option linter.unusedVariables false
set_option linter.unusedSimpArgs false

/-! ### impl_NameRight: function 85 -/
def impl_NameRight.f (a0 : ByteArray) : Option (Bool) := if (a0.size : Int) ≥ 1 then (if (a0.size : Int) ≤ 20 then (if 0 < (a0.size : Int) then (if (bt a0 0) ≥ 97 then (if (bt a0 0) ≤ 122 then ((strings_Trim.f a0 (⟨#[97, 98, 99, 100, 101, 102, 103, 104, 105, 106, 107, 108, 109, 110, 111, 112, 113, 114, 115, 116, 117, 118, 119, 120, 121, 122, 48, 49, 50, 51, 52, 53, 54, 55, 56, 57, 95]⟩ : ByteArray)).bind fun t329 => (some (t329.toList == ([] : List UInt8)))) else (some false)) else (some false)) else (none)) else (some false)) else (some false)
set_option maxHeartbeats 8000000 in
set_option maxRecDepth 100000 in
theorem impl_NameRight.calls (a0 : ByteArray) (r : Bool) (w : World) (h : impl_NameRight.f a0 = some r) :
    Calls Tryz.prog 85 #[.string a0] w fun e w' => e = .returned (.bool r) ∧ Below w.heap.size w w' := by
  have HB := Aside0.mk (Below.refl w.heap.size w)
  have H : (if (a0.size : Int) ≥ 1 then (if (a0.size : Int) ≤ 20 then (if 0 < (a0.size : Int) then (if (bt a0 0) ≥ 97 then (if (bt a0 0) ≤ 122 then ((strings_Trim.f a0 (⟨#[97, 98, 99, 100, 101, 102, 103, 104, 105, 106, 107, 108, 109, 110, 111, 112, 113, 114, 115, 116, 117, 118, 119, 120, 121, 122, 48, 49, 50, 51, 52, 53, 54, 55, 56, 57, 95]⟩ : ByteArray)).bind fun t329 => (some (t329.toList == ([] : List UInt8)))) else (some false)) else (some false)) else (none)) else (some false)) else (some false)) = some r := h
  clear h
  by_cases c2 : (a0.size : Int) ≥ 1
  · rw [if_pos c2] at H
    have c2b0 : decide (1 ≤ (a0.size : Int)) = true := decide_eq_true c2
    have c2b1 : decide (1 ≤ a0.size) = true := decide_eq_true (by omega)
    clear c2
    by_cases c3 : (a0.size : Int) ≤ 20
    · rw [if_pos c3] at H
      have c3b0 : decide ((a0.size : Int) ≤ 20) = true := decide_eq_true c3
      have c3b1 : decide (a0.size ≤ 20) = true := decide_eq_true (by omega)
      clear c3
      by_cases c4 : 0 < (a0.size : Int)
      · rw [if_pos c4] at H
        have c4b0 : decide (0 < (a0.size : Int)) = true := decide_eq_true c4
        have c4b1 : decide (0 < a0.size) = true := decide_eq_true (by omega)
        clear c4
        by_cases c6 : (bt a0 0) ≥ 97
        · rw [if_pos c6] at H
          have c6b0 : decide (97 ≤ (bt a0 0)) = true := decide_eq_true c6
          clear c6
          by_cases c8 : (bt a0 0) ≤ 122
          · rw [if_pos c8] at H
            have c8b0 : decide ((bt a0 0) ≤ 122) = true := decide_eq_true c8
            clear c8
            replace H := Option.bind_eq_some_iff.mp H
            obtain ⟨t329, A90, H⟩ := H
            replace H : (some (t329.toList == ([] : List UInt8))) = some r := H
            have A9 := Aside0.mk A90
            clear A90
            obtain rfl := Option.some.inj H
            have p5 : 0 ≤ (0 : Int) := (by omega)
            have q5 : 0 < a0.size := (by have : (0 : Int) < (a0.size : Int) := of_decide_eq_true Da; omega)
            have hx5 : ∀ h : 0 < a0.size, ((a0[0]'h).toNat : Int) = bt a0 0 := bt_at a0 0
            clear p5
            have qi5 : (0 < (a0.size : Int)) = True := eq_true (of_decide_eq_true Da)
            replace q5 := eq_true q5
            have p7 : 0 ≤ (0 : Int) := (by omega)
            have q7 : 0 < a0.size := (by have : (0 : Int) < (a0.size : Int) := of_decide_eq_true Da; omega)
            have hx7 : ∀ h : 0 < a0.size, ((a0[0]'h).toNat : Int) = bt a0 0 := bt_at a0 0
            clear p7
            have qi7 : (0 < (a0.size : Int)) = True := eq_true (of_decide_eq_true Da)
            replace q7 := eq_true q7
            go_enter Tryz.func85, Tryz.ntmps85
            go_wp2_with (first | (go_at_call 120; (with_reducible refine (strings_Trim.calls a0 (⟨#[97, 98, 99, 100, 101, 102, 103, 104, 105, 106, 107, 108, 109, 110, 111, 112, 113, 114, 115, 116, 117, 118, 119, 120, 121, 122, 48, 49, 50, 51, 52, 53, 54, 55, 56, 57, 95]⟩ : ByteArray) t329 _ A9.out).mono ?_); rintro e w10 ⟨rfl, hb⟩; have n0_ := Aside0.mk (below_step By hb); clear HB; have HB := n0_; clear n0_; (try clear hb); (try clear hb2); (try clear hk); (try clear hi)))
            go_ret
            exact ⟨Rf, By⟩
          · rw [if_neg c8] at H
            have c8b0 : decide ((bt a0 0) ≤ 122) = false := decide_eq_false c8
            clear c8
            obtain rfl := Option.some.inj H
            have p5 : 0 ≤ (0 : Int) := (by omega)
            have q5 : 0 < a0.size := (by have : (0 : Int) < (a0.size : Int) := of_decide_eq_true Da; omega)
            have hx5 : ∀ h : 0 < a0.size, ((a0[0]'h).toNat : Int) = bt a0 0 := bt_at a0 0
            clear p5
            have qi5 : (0 < (a0.size : Int)) = True := eq_true (of_decide_eq_true Da)
            replace q5 := eq_true q5
            have p7 : 0 ≤ (0 : Int) := (by omega)
            have q7 : 0 < a0.size := (by have : (0 : Int) < (a0.size : Int) := of_decide_eq_true Da; omega)
            have hx7 : ∀ h : 0 < a0.size, ((a0[0]'h).toNat : Int) = bt a0 0 := bt_at a0 0
            clear p7
            have qi7 : (0 < (a0.size : Int)) = True := eq_true (of_decide_eq_true Da)
            replace q7 := eq_true q7
            go_enter Tryz.func85, Tryz.ntmps85
            go_wp2
            go_ret
            exact ⟨Rf, By⟩
        · rw [if_neg c6] at H
          have c6b0 : decide (97 ≤ (bt a0 0)) = false := decide_eq_false c6
          clear c6
          obtain rfl := Option.some.inj H
          have p5 : 0 ≤ (0 : Int) := (by omega)
          have q5 : 0 < a0.size := (by have : (0 : Int) < (a0.size : Int) := of_decide_eq_true Da; omega)
          have hx5 : ∀ h : 0 < a0.size, ((a0[0]'h).toNat : Int) = bt a0 0 := bt_at a0 0
          clear p5
          have qi5 : (0 < (a0.size : Int)) = True := eq_true (of_decide_eq_true Da)
          replace q5 := eq_true q5
          go_enter Tryz.func85, Tryz.ntmps85
          go_wp2
          go_ret
          exact ⟨Rf, By⟩
      · rw [if_neg c4] at H
        exact absurd H (by simp)
    · rw [if_neg c3] at H
      have c3b0 : decide ((a0.size : Int) ≤ 20) = false := decide_eq_false c3
      have c3b1 : decide (a0.size ≤ 20) = false := decide_eq_false (by omega)
      clear c3
      obtain rfl := Option.some.inj H
      go_enter Tryz.func85, Tryz.ntmps85
      go_wp2
      go_ret
      exact ⟨Rf, By⟩
  · rw [if_neg c2] at H
    have c2b0 : decide (1 ≤ (a0.size : Int)) = false := decide_eq_false c2
    have c2b1 : decide (1 ≤ a0.size) = false := decide_eq_false (by omega)
    clear c2
    obtain rfl := Option.some.inj H
    go_enter Tryz.func85, Tryz.ntmps85
    go_wp2
    go_ret
    exact ⟨Rf, By⟩

set_option linter.unusedVariables false
set_option linter.unusedSimpArgs false

/-! ### impl_byNorm: function 114 -/
def impl_byNorm.f (k : Nat) (a0 : ByteArray) (a1 : ByteArray) : Option (Int) := (impl_Norm.f k a0).bind fun t352 => ((impl_Norm.f k a1).bind fun t353 => ((strings_Compare.f t352 t353).bind fun t354 => (some t354)))
theorem impl_byNorm.mono : ∀ a0 a1 k, LeO (impl_byNorm.f k a0 a1) (impl_byNorm.f (k + 1) a0 a1) := by
  intro a0 a1 k
  unfold impl_byNorm.f
  repeat' first
      | (with_reducible exact impl_Norm.mono _ _)
      | (with_reducible exact LeO.refl _)
      | (with_reducible exact LeO.none _)
      | (with_reducible refine LeO.ite ?_ ?_)
      | (with_reducible refine LeO.bind ?_ (fun _ => ?_))
      | exact impl_Norm.mono _ _
      | exact LeO.none _
      | refine LeO.ite ?_ ?_
      | refine LeO.bind ?_ (fun _ => ?_)
set_option maxHeartbeats 8000000 in
set_option maxRecDepth 100000 in
theorem impl_byNorm.calls (k : Nat) (a0 : ByteArray) (a1 : ByteArray) (r : Int) (w : World) (h : impl_byNorm.f k a0 a1 = some r) :
    Calls Tryz.prog 114 #[.string a0, .string a1] w fun e w' => e = .returned (.int .i64 r) ∧ Below w.heap.size w w' := by
  have HB := Aside0.mk (Below.refl w.heap.size w)
  have H : ((impl_Norm.f k a0).bind fun t352 => ((impl_Norm.f k a1).bind fun t353 => ((strings_Compare.f t352 t353).bind fun t354 => (some t354)))) = some r := h
  clear h
  replace H := Option.bind_eq_some_iff.mp H
  obtain ⟨t352, A30, H⟩ := H
  replace H : ((impl_Norm.f k a1).bind fun t353 => ((strings_Compare.f t352 t353).bind fun t354 => (some t354))) = some r := H
  have A3 := Aside0.mk A30
  clear A30
  replace H := Option.bind_eq_some_iff.mp H
  obtain ⟨t353, A40, H⟩ := H
  replace H : ((strings_Compare.f t352 t353).bind fun t354 => (some t354)) = some r := H
  have A4 := Aside0.mk A40
  clear A40
  replace H := Option.bind_eq_some_iff.mp H
  obtain ⟨t354, A50, H⟩ := H
  replace H : (some t354) = some r := H
  have A5 := Aside0.mk A50
  clear A50
  obtain rfl := Option.some.inj H
  go_enter Tryz.func114, Tryz.ntmps114
  go_wp2_with (first | ((with_reducible refine gate_callee (f := 98) rfl ?_); refine goesL_ (some 6) rfl rfl Tryz.func98 (by kernel_rfl) rfl #[.string a0] rfl Ag ?_; (with_reducible refine (impl_Norm.calls k a0 t352 _ A3.out).mono ?_); rintro e w6 ⟨rfl, hb⟩; refine ⟨_, rfl, ?_⟩; have n0_ := Aside0.mk (below_step By hb); clear HB; have HB := n0_; clear n0_; (try clear hb); (try clear hb2); (try clear hk); (try clear hi)) | ((with_reducible refine gate_callee (f := 98) rfl ?_); refine goesL_ (some 8) rfl rfl Tryz.func98 (by kernel_rfl) rfl #[.string a1] rfl Ag ?_; (with_reducible refine (impl_Norm.calls k a1 t353 _ A4.out).mono ?_); rintro e w7 ⟨rfl, hb⟩; refine ⟨_, rfl, ?_⟩; have n0_ := Aside0.mk (below_step By hb); clear HB; have HB := n0_; clear n0_; (try clear hb); (try clear hb2); (try clear hk); (try clear hi)) | ((with_reducible refine gate_callee (f := 142) rfl ?_); refine goesL_ (some 9) rfl rfl Tryz.func142 (by kernel_rfl) rfl #[.string t352, .string t353] rfl Ag ?_; (with_reducible refine (strings_Compare.calls t352 t353 t354 _ A5.out).mono ?_); rintro e w8 ⟨rfl, hb⟩; refine ⟨_, rfl, ?_⟩; have n0_ := Aside0.mk (below_step By hb); clear HB; have HB := n0_; clear n0_; (try clear hb); (try clear hb2); (try clear hk); (try clear hi)))
  go_ret
  exact ⟨Rf, By⟩

set_option linter.unusedVariables false
set_option linter.unusedSimpArgs false

/-! ### impl_isAttr: function 73 -/
mutual
def impl_isAttr.j0 : Nat → Bool → ByteArray → List ByteArray → Option (Bool)
  | 0, _, _, _ => none
  | k + 1, x15, x356000, x356001 => if x15 = true then (some false) else (impl_isAttr.l0 k x356001 (x356001.length : Int) 0 x356000 x356001)
def impl_isAttr.l0 : Nat → List ByteArray → Int → Int → ByteArray → List ByteArray → Option (Bool)
  | 0, _, _, _, _, _ => none
  | k + 1, x17, x18, x19, x356000, x356001 => if x19 < x18 then (if 0 ≤ x19 then (if x19 < (x17.length : Int) then ((impl_isProper.f k (rdOf ByteArray.empty x17 x19)).bind fun t360 => (if t360 = true then (if x19 > 0 then (if 0 ≤ (wrap64 (x19 - 1)) then (if (wrap64 (x19 - 1)) < (x356001.length : Int) then ((impl_byNorm.f k (rdOf ByteArray.empty x356001 (wrap64 (x19 - 1))) (rdOf ByteArray.empty x17 x19)).bind fun t362 => (if t362 ≥ 0 then (some false) else (impl_isAttr.l0 k x17 x18 (wrap64 (x19 + 1)) x356000 x356001))) else (none)) else (none)) else (impl_isAttr.l0 k x17 x18 (wrap64 (x19 + 1)) x356000 x356001)) else (some false))) else (none)) else (none)) else (some true)
end
def impl_isAttr.f (k : Nat) (a0_0 : ByteArray) (l0_1 : List ByteArray) : Option (Bool) := (impl_NameRight.f a0_0).bind fun t356 => (if t356 = true then ((impl_size_string.f l0_1).bind fun t357 => ((impl_between.f t357 1 4).bind fun t358 => (impl_isAttr.j0 k (!t358) a0_0 l0_1))) else (impl_isAttr.j0 k true a0_0 l0_1))
theorem impl_isAttr.mono_l : ∀ k, (∀ y0 y1 y2, LeO (impl_isAttr.j0 k y0 y1 y2) (impl_isAttr.j0 (k + 1) y0 y1 y2)) ∧ (∀ y0 y1 y2 y3 y4, LeO (impl_isAttr.l0 k y0 y1 y2 y3 y4) (impl_isAttr.l0 (k + 1) y0 y1 y2 y3 y4))
  | 0 => ⟨fun _ _ _ r h => by simp [impl_isAttr.j0] at h, fun _ _ _ _ _ r h => by simp [impl_isAttr.l0] at h⟩
  | k + 1 => by
    obtain ⟨ih0, ih1⟩ := impl_isAttr.mono_l k
    refine ⟨?_, ?_⟩
    · intro y0 y1 y2
      unfold impl_isAttr.j0
      repeat' first
      | (with_reducible exact ih0 _ _ _)
      | (with_reducible exact ih1 _ _ _ _ _)
      | (with_reducible exact impl_byNorm.mono _ _ _)
      | (with_reducible exact impl_isProper.mono _ _)
      | (with_reducible exact LeO.refl _)
      | (with_reducible exact LeO.none _)
      | (with_reducible refine LeO.ite ?_ ?_)
      | (with_reducible refine LeO.bind ?_ (fun _ => ?_))
      | exact ih0 _ _ _
      | exact ih1 _ _ _ _ _
      | exact impl_byNorm.mono _ _ _
      | exact impl_isProper.mono _ _
      | exact LeO.none _
      | refine LeO.ite ?_ ?_
      | refine LeO.bind ?_ (fun _ => ?_)
    · intro y0 y1 y2 y3 y4
      unfold impl_isAttr.l0
      repeat' first
      | (with_reducible exact ih0 _ _ _)
      | (with_reducible exact ih1 _ _ _ _ _)
      | (with_reducible exact impl_byNorm.mono _ _ _)
      | (with_reducible exact impl_isProper.mono _ _)
      | (with_reducible exact LeO.refl _)
      | (with_reducible exact LeO.none _)
      | (with_reducible refine LeO.ite ?_ ?_)
      | (with_reducible refine LeO.bind ?_ (fun _ => ?_))
      | exact ih0 _ _ _
      | exact ih1 _ _ _ _ _
      | exact impl_byNorm.mono _ _ _
      | exact impl_isProper.mono _ _
      | exact LeO.none _
      | refine LeO.ite ?_ ?_
      | refine LeO.bind ?_ (fun _ => ?_)
theorem impl_isAttr.mono : ∀ a0 a1 k, LeO (impl_isAttr.f k a0 a1) (impl_isAttr.f (k + 1) a0 a1) := by
  intro a0 a1 k
  obtain ⟨ih0, ih1⟩ := impl_isAttr.mono_l k
  unfold impl_isAttr.f
  repeat' first
      | (with_reducible exact ih0 _ _ _)
      | (with_reducible exact ih1 _ _ _ _ _)
      | (with_reducible exact impl_byNorm.mono _ _ _)
      | (with_reducible exact impl_isProper.mono _ _)
      | (with_reducible exact LeO.refl _)
      | (with_reducible exact LeO.none _)
      | (with_reducible refine LeO.ite ?_ ?_)
      | (with_reducible refine LeO.bind ?_ (fun _ => ?_))
      | exact ih0 _ _ _
      | exact ih1 _ _ _ _ _
      | exact impl_byNorm.mono _ _ _
      | exact impl_isProper.mono _ _
      | exact LeO.none _
      | refine LeO.ite ?_ ?_
      | refine LeO.bind ?_ (fun _ => ?_)
set_option maxHeartbeats 8000000 in
set_option maxRecDepth 100000 in
theorem impl_isAttr.calls (k : Nat) (a0_0 : ByteArray) (A0_1 : Option Addr) (c0_1 : Nat) (l0_1 : List ByteArray) (r : Bool) (w : World) (hr0_1 : Kd.C Kd.string w A0_1 l0_1.length l0_1) (hc0_1 : l0_1.length ≤ c0_1) (h : impl_isAttr.f k a0_0 l0_1 = some r) :
    Calls Tryz.prog 73 #[.agg #[.string a0_0, .slice A0_1 l0_1.length c0_1]] w fun e w' => e = .returned (.bool r) ∧ Below w.heap.size w w' := by
  have hu115 := Tryz.underlying115
  have HR0_1 := Aside0.mk hr0_1
  have HC0_1 := Aside0.mk hc0_1
  clear hr0_1 hc0_1
  have HB := Aside0.mk (Below.refl w.heap.size w)
  have H : ((impl_NameRight.f a0_0).bind fun t356 => (if t356 = true then ((impl_size_string.f l0_1).bind fun t357 => ((impl_between.f t357 1 4).bind fun t358 => (impl_isAttr.j0 k (!t358) a0_0 l0_1))) else (impl_isAttr.j0 k true a0_0 l0_1))) = some r := h
  clear h
  have HC2 := Aside0.mk H
  clear H
  go_enter Tryz.func73, Tryz.ntmps73
  go_upto_region 1 with (first | ((with_reducible refine gate_dst (N := 1) rfl ?_); refine box_event ?hg (N := 1) ?hd (cs := #[.string a0_0, .slice A0_1 l0_1.length c0_1]) (t := 115) ?hr ?_; (case hd => rfl); (case hg => rfl); (case hr => first | (go_simp; done) | (go_simp; rfl)); intro gb355 hg w3 hbox hb; have n0_ := Aside0.mk (below_step By hb); have n1_ := Aside0.mk (hbox); have n2_ := Aside0.mk ((by rw [hg]; exact (below_size By) : w.heap.size ≤ gb355)); have n3_ := Aside0.mk ((by rw [hg]; exact (below_size By) : w.heap.size ≤ gb355)); clear HB; have HB := n0_; have BK355 := n1_; have GW355 := n2_; have GE355 := n3_; clear n0_ n1_ n2_ n3_; clear hb hbox hg))
  (try simp only [Act.put, List.setIfInBounds_toArray, List.set_cons_zero, List.set_cons_succ])
  go_cut [15] (fun v15 wc => ∃ (kq : Nat) (x15_1 : Bool), v15 = .bool x15_1 ∧ Aside0 (impl_isAttr.j0 kq x15_1 a0_0 l0_1 = some r) ∧ Aside0 (kq ≤ k) ∧ Aside0 (wc.heap[gb355]? = some (.cells #[.string a0_0, (.slice A0_1 l0_1.length c0_1)] 115 (0, 0))) ∧ Aside0 (Below w.heap.size w wc))
  case first =>
    have H := HC2.out
    clear HC2
    replace H := Option.bind_eq_some_iff.mp H
    obtain ⟨t356, A40, H⟩ := H
    replace H : (if t356 = true then ((impl_size_string.f l0_1).bind fun t357 => ((impl_between.f t357 1 4).bind fun t358 => (impl_isAttr.j0 k (!t358) a0_0 l0_1))) else (impl_isAttr.j0 k true a0_0 l0_1)) = some r := H
    have A4 := Aside0.mk A40
    clear A40
    by_cases c5 : t356 = true
    · subst c5
      have H1 : ((impl_size_string.f l0_1).bind fun t357 => ((impl_between.f t357 1 4).bind fun t358 => (impl_isAttr.j0 k (!t358) a0_0 l0_1))) = some r := by rw [if_pos rfl] at H; exact H
      clear H
      have H := H1
      clear H1
      replace H := Option.bind_eq_some_iff.mp H
      obtain ⟨t357, A60, H⟩ := H
      replace H : ((impl_between.f t357 1 4).bind fun t358 => (impl_isAttr.j0 k (!t358) a0_0 l0_1)) = some r := H
      have A6 := Aside0.mk A60
      clear A60
      replace H := Option.bind_eq_some_iff.mp H
      obtain ⟨t358, A70, H⟩ := H
      replace H : (impl_isAttr.j0 k (!t358) a0_0 l0_1) = some r := H
      have A7 := Aside0.mk A70
      clear A70
      have H' := Aside0.mk H
      clear H
      have hcz8_0 : w3.cell? ⟨gb355, 0, none⟩ = some (.string a0_0) := bc BK355.out 0
      have hcz8_1 : w3.cell? ⟨gb355, 1, none⟩ = some (.slice A0_1 l0_1.length c0_1) := bc BK355.out 1
      have hfz8_0 := blk_frozen BK355.out 0
      have hfz8_1 := blk_frozen BK355.out 1
      go_wp2_with (first | ((with_reducible refine gate_callee (f := 85) rfl ?_); refine goesL_ (some 7) rfl rfl Tryz.func85 (by kernel_rfl) rfl #[.string a0_0] rfl Ag ?_; (with_reducible refine (impl_NameRight.calls a0_0 true _ A4.out).mono ?_); rintro e w9 ⟨rfl, hb⟩; refine ⟨_, rfl, ?_⟩; have n0_ := Aside0.mk (bb BK355.out hb); have n1_ := Aside0.mk (below_step By hb); clear BK355; clear HB; have BK355 := n0_; have HB := n1_; clear n0_ n1_; (try clear hb); (try clear hb2); (try clear hk); (try clear hi); have ⟨hcz10_0, hcz10_1⟩ := cq2 BK355.out; have ⟨hfz10_0, hfz10_1⟩ := fq2 BK355.out) | (go_at_call 112; (with_reducible refine (impl_size_string.calls _ _ l0_1 t357 _ ?side1 ?side2 A6.out).mono ?_); (case side1 => exact rC (Kd.C_below HR0_1.out HB.out)); (case side2 => exact HC0_1.out); rintro e w' ⟨rfl, ⟨nd, rfl⟩⟩) | (go_at_call 111; (with_reducible refine (impl_between.calls t357 1 4 t358 _ A7.out).mono ?_); rintro e w' ⟨rfl, ⟨nd, rfl⟩⟩))
      go_meet
      case rel => exact ⟨_, (!t358), (by first | rfl | (simp; done) | (simp [*]; done)), H', ⟨by first | omega | exact Nat.le_refl _⟩, ⟨by (with_reducible repeat (first | refine blk_drewN ?_ _ | refine blk_drew ?_ | refine blk_alloc ?_ _)); exact BK355.out⟩, ⟨By⟩⟩
    · replace c5 := Bool.eq_false_iff.mpr c5
      subst c5
      have H1 : (impl_isAttr.j0 k true a0_0 l0_1) = some r := by rw [if_neg (show ¬ (false = true) by decide)] at H; exact H
      clear H
      have H := H1
      clear H1
      have H' := Aside0.mk H
      clear H
      have hcz11_0 : w3.cell? ⟨gb355, 0, none⟩ = some (.string a0_0) := bc BK355.out 0
      have hcz11_1 : w3.cell? ⟨gb355, 1, none⟩ = some (.slice A0_1 l0_1.length c0_1) := bc BK355.out 1
      have hfz11_0 := blk_frozen BK355.out 0
      have hfz11_1 := blk_frozen BK355.out 1
      go_wp2_with (first | ((with_reducible refine gate_callee (f := 85) rfl ?_); refine goesL_ (some 7) rfl rfl Tryz.func85 (by kernel_rfl) rfl #[.string a0_0] rfl Ag ?_; (with_reducible refine (impl_NameRight.calls a0_0 false _ A4.out).mono ?_); rintro e w12 ⟨rfl, hb⟩; refine ⟨_, rfl, ?_⟩; have n0_ := Aside0.mk (bb BK355.out hb); have n1_ := Aside0.mk (below_step By hb); clear BK355; clear HB; have BK355 := n0_; have HB := n1_; clear n0_ n1_; (try clear hb); (try clear hb2); (try clear hk); (try clear hi)))
      go_meet
      case rel => exact ⟨_, (true), (by first | rfl | (simp; done) | (simp [*]; done)), H', ⟨by first | omega | exact Nat.le_refl _⟩, ⟨by (with_reducible repeat (first | refine blk_drewN ?_ _ | refine blk_drew ?_ | refine blk_alloc ?_ _)); exact BK355.out⟩, ⟨By⟩⟩
  case rest =>
    clear HC2
    try clear p2
    try clear c5
    try clear c7
    try clear c8
    try clear hcz10_0
    try clear hcz10_1
    try clear hcz11_0
    try clear hcz11_1
    try clear hcz8_0
    try clear hcz8_1
    try clear hfz10_0
    try clear hfz10_1
    try clear hfz11_0
    try clear hfz11_1
    try clear hfz8_0
    try clear hfz8_1
    obtain ⟨kq, x15_1, rfl, HA, HJ1, BK355, HB⟩ := hcut
    cases kq with
    | zero => exact absurd HA.out (by simp [impl_isAttr.j0])
    | succ kj1 =>
      have H := HA.out
      clear HA
      simp only [impl_isAttr.j0] at H
      by_cases c13 : x15_1 = true
      · subst c13
        have H1 : (some false) = some r := by rw [if_pos rfl] at H; exact H
        clear H
        have H := H1
        clear H1
        obtain rfl := Option.some.inj H
        go_wp2
        go_ret
        exact ⟨Rf, By⟩
      · replace c13 := Bool.eq_false_iff.mpr c13
        subst c13
        have H1 : (impl_isAttr.l0 kj1 l0_1 (l0_1.length : Int) 0 a0_0 l0_1) = some r := by rw [if_neg (show ¬ (false = true) by decide)] at H; exact H
        clear H
        have H := H1
        clear H1
        have H' := Aside0.mk H
        clear H
        have hcz14_0 : wc.cell? ⟨gb355, 0, none⟩ = some (.string a0_0) := bc BK355.out 0
        have hcz14_1 : wc.cell? ⟨gb355, 1, none⟩ = some (.slice A0_1 l0_1.length c0_1) := bc BK355.out 1
        have hfz14_0 := blk_frozen BK355.out 0
        have hfz14_1 := blk_frozen BK355.out 1
        go_wp2
        go_loopg [19] kj1 (fun kq v19 w' => ∃ (x19_2 : Int), v19 = .int .i64 x19_2 ∧ Aside0 (impl_isAttr.l0 kq l0_1 (l0_1.length : Int) x19_2 a0_0 l0_1 = some r) ∧ Aside0 (kq ≤ kj1) ∧ Aside0 (w'.heap[gb355]? = some (.cells #[.string a0_0, (.slice A0_1 l0_1.length c0_1)] 115 (0, 0))) ∧ Aside0 (Below w.heap.size w w'))
        case atStart => exact ⟨(0), (by first | rfl | (simp; done) | (simp [*]; done)), H', ⟨Nat.le_refl _⟩, ⟨by (with_reducible repeat (first | refine blk_drewN ?_ _ | refine blk_drew ?_ | refine blk_alloc ?_ _)); exact BK355.out⟩, ⟨By⟩⟩
        case round =>
          clear H'
          try clear c1
          try clear p2
          try clear c5
          try clear c7
          try clear c8
          try clear c13
          try clear hcz10_0
          try clear hcz10_1
          try clear hcz11_0
          try clear hcz11_1
          try clear hcz14_0
          try clear hcz14_1
          try clear hcz8_0
          try clear hcz8_1
          try clear hfz10_0
          try clear hfz10_1
          try clear hfz11_0
          try clear hfz11_1
          try clear hfz14_0
          try clear hfz14_1
          try clear hfz8_0
          try clear hfz8_1
          try clear p2
          obtain ⟨x19_2, rfl, HA, HK2, BK355, HB⟩ := hrel
          cases gk with
          | zero => exact absurd HA.out (by simp [impl_isAttr.l0])
          | succ k2 =>
            have H := HA.out
            clear HA
            simp only [impl_isAttr.l0] at H
            by_cases c15 : x19_2 < (l0_1.length : Int)
            · rw [if_pos c15] at H
              have c15b0 : decide (x19_2 < (l0_1.length : Int)) = true := decide_eq_true c15
              clear c15
              by_cases c16 : 0 ≤ x19_2
              · rw [if_pos c16] at H
                have c16b0 : decide (0 ≤ x19_2) = true := decide_eq_true c16
                clear c16
                by_cases c17 : x19_2 < (l0_1.length : Int)
                · rw [if_pos c17] at H
                  have c17b0 : decide (x19_2 < (l0_1.length : Int)) = true := decide_eq_true c17
                  clear c17
                  replace H := Option.bind_eq_some_iff.mp H
                  obtain ⟨t360, A180, H⟩ := H
                  replace H : (if t360 = true then (if x19_2 > 0 then (if 0 ≤ (wrap64 (x19_2 - 1)) then (if (wrap64 (x19_2 - 1)) < (l0_1.length : Int) then ((impl_byNorm.f k2 (rdOf ByteArray.empty l0_1 (wrap64 (x19_2 - 1))) (rdOf ByteArray.empty l0_1 x19_2)).bind fun t362 => (if t362 ≥ 0 then (some false) else (impl_isAttr.l0 k2 l0_1 (l0_1.length : Int) (wrap64 (x19_2 + 1)) a0_0 l0_1))) else (none)) else (none)) else (impl_isAttr.l0 k2 l0_1 (l0_1.length : Int) (wrap64 (x19_2 + 1)) a0_0 l0_1)) else (some false)) = some r := H
                  have A18 := Aside0.mk A180
                  clear A180
                  by_cases c19 : t360 = true
                  · subst c19
                    have H1 : (if x19_2 > 0 then (if 0 ≤ (wrap64 (x19_2 - 1)) then (if (wrap64 (x19_2 - 1)) < (l0_1.length : Int) then ((impl_byNorm.f k2 (rdOf ByteArray.empty l0_1 (wrap64 (x19_2 - 1))) (rdOf ByteArray.empty l0_1 x19_2)).bind fun t362 => (if t362 ≥ 0 then (some false) else (impl_isAttr.l0 k2 l0_1 (l0_1.length : Int) (wrap64 (x19_2 + 1)) a0_0 l0_1))) else (none)) else (none)) else (impl_isAttr.l0 k2 l0_1 (l0_1.length : Int) (wrap64 (x19_2 + 1)) a0_0 l0_1)) = some r := by rw [if_pos rfl] at H; exact H
                    clear H
                    have H := H1
                    clear H1
                    by_cases c20 : x19_2 > 0
                    · rw [if_pos c20] at H
                      have c20b0 : decide (0 < x19_2) = true := decide_eq_true c20
                      clear c20
                      obtain ⟨ji21, hji21⟩ : ∃ j_ : Int, (wrap64 (x19_2 - 1)) = j_ := ⟨_, rfl⟩
                      replace H : (if 0 ≤ (ji21) then (if (ji21) < (l0_1.length : Int) then ((impl_byNorm.f k2 (rdOf ByteArray.empty l0_1 (ji21)) (rdOf ByteArray.empty l0_1 x19_2)).bind fun t362 => (if t362 ≥ 0 then (some false) else (impl_isAttr.l0 k2 l0_1 (l0_1.length : Int) (wrap64 (x19_2 + 1)) a0_0 l0_1))) else (none)) else (none)) = some r := by first | (rw [hji21] at H; exact H) | (simp only [hji21] at H ⊢; exact H)
                      (try rw [hji21] at A18)
                      have hji21w : (IntKind.i64.wrap (x19_2 - 1)) = ji21 := (i64_w _).trans hji21
                      by_cases c22 : 0 ≤ (ji21)
                      · rw [if_pos c22] at H
                        have c22b0 : decide (0 ≤ (ji21)) = true := decide_eq_true c22
                        clear c22
                        by_cases c23 : (ji21) < (l0_1.length : Int)
                        · rw [if_pos c23] at H
                          have c23b0 : decide ((ji21) < (l0_1.length : Int)) = true := decide_eq_true c23
                          clear c23
                          replace H := Option.bind_eq_some_iff.mp H
                          obtain ⟨t362, A240, H⟩ := H
                          replace H : (if t362 ≥ 0 then (some false) else (impl_isAttr.l0 k2 l0_1 (l0_1.length : Int) (wrap64 (x19_2 + 1)) a0_0 l0_1)) = some r := H
                          have A24 := Aside0.mk A240
                          clear A240
                          by_cases c25 : t362 ≥ 0
                          · rw [if_pos c25] at H
                            have c25b0 : decide (0 ≤ t362) = true := decide_eq_true c25
                            clear c25
                            obtain rfl := Option.some.inj H
                            have p359 : 0 ≤ (x19_2 : Int) := of_decide_eq_true Da
                            have q359 : x19_2 < (l0_1.length : Int) := of_decide_eq_true Da
                            obtain ⟨ad359, e359, hx359_0⟩ := Kd.at_string HR0_1.out x19_2 p359 q359
                            cases e359
                            replace hx359_0 := bz HB.out hx359_0
                            replace p359 := eq_true p359
                            replace q359 := eq_true q359
                            go_wp2_with (first | ((with_reducible refine gate_callee (f := 113) rfl ?_); refine goesL_ (some 25) rfl rfl Tryz.func113 (by kernel_rfl) rfl #[.string (rdOf ByteArray.empty l0_1 x19_2)] rfl Ag ?_; (with_reducible refine (impl_isProper.calls k2 (rdOf ByteArray.empty l0_1 x19_2) true _ A18.out).mono ?_); rintro e w26 ⟨rfl, hb⟩; refine ⟨_, rfl, ?_⟩; have n0_ := Aside0.mk (bb BK355.out hb); have n1_ := Aside0.mk (below_step By hb); clear BK355; clear HB; have BK355 := n0_; have HB := n1_; clear n0_ n1_; (try clear hb); (try clear hb2); (try clear hk); (try clear hi); have ⟨hcz27_0, hcz27_1⟩ := cq2 BK355.out; have ⟨hfz27_0, hfz27_1⟩ := fq2 BK355.out; have p361 : 0 ≤ ((ji21) : Int) := of_decide_eq_true Da; have q361 : (ji21) < (l0_1.length : Int) := of_decide_eq_true Da; obtain ⟨ad361, e361, hx361_0⟩ := Kd.at_string HR0_1.out (ji21) p361 q361; obtain rfl : ad359 = ad361 := (by injection e361); replace hx361_0 := bz HB.out hx361_0; replace p361 := eq_true p361; replace q361 := eq_true q361) | (go_at_call 114; (with_reducible refine (impl_byNorm.calls k2 (rdOf ByteArray.empty l0_1 (ji21)) (rdOf ByteArray.empty l0_1 x19_2) t362 _ A24.out).mono ?_); rintro e w28 ⟨rfl, hb⟩; have n0_ := Aside0.mk (bb BK355.out hb); have n1_ := Aside0.mk (below_step By hb); clear BK355; clear HB; have BK355 := n0_; have HB := n1_; clear n0_ n1_; (try clear hb); (try clear hb2); (try clear hk); (try clear hi)))
                            go_ret
                            exact ⟨by first | rfl | (simp [errW_none, errW_some] <;> rfl) | (simp only [← hji21]; first | rfl | (simp [errW_none, errW_some] <;> rfl)) | (simp [*, errW_none, errW_some] <;> first | rfl | (rw [Bool.eq_iff_iff]; simp)), By⟩
                          · rw [if_neg c25] at H
                            have c25b0 : decide (0 ≤ t362) = false := decide_eq_false c25
                            clear c25
                            have H' := Aside0.mk H
                            clear H
                            have p359 : 0 ≤ (x19_2 : Int) := of_decide_eq_true Da
                            have q359 : x19_2 < (l0_1.length : Int) := of_decide_eq_true Da
                            obtain ⟨ad359, e359, hx359_0⟩ := Kd.at_string HR0_1.out x19_2 p359 q359
                            cases e359
                            replace hx359_0 := bz HB.out hx359_0
                            replace p359 := eq_true p359
                            replace q359 := eq_true q359
                            go_wp2_with (first | ((with_reducible refine gate_callee (f := 113) rfl ?_); refine goesL_ (some 25) rfl rfl Tryz.func113 (by kernel_rfl) rfl #[.string (rdOf ByteArray.empty l0_1 x19_2)] rfl Ag ?_; (with_reducible refine (impl_isProper.calls k2 (rdOf ByteArray.empty l0_1 x19_2) true _ A18.out).mono ?_); rintro e w29 ⟨rfl, hb⟩; refine ⟨_, rfl, ?_⟩; have n0_ := Aside0.mk (bb BK355.out hb); have n1_ := Aside0.mk (below_step By hb); clear BK355; clear HB; have BK355 := n0_; have HB := n1_; clear n0_ n1_; (try clear hb); (try clear hb2); (try clear hk); (try clear hi); have ⟨hcz30_0, hcz30_1⟩ := cq2 BK355.out; have ⟨hfz30_0, hfz30_1⟩ := fq2 BK355.out; have p361 : 0 ≤ ((ji21) : Int) := of_decide_eq_true Da; have q361 : (ji21) < (l0_1.length : Int) := of_decide_eq_true Da; obtain ⟨ad361, e361, hx361_0⟩ := Kd.at_string HR0_1.out (ji21) p361 q361; obtain rfl : ad359 = ad361 := (by injection e361); replace hx361_0 := bz HB.out hx361_0; replace p361 := eq_true p361; replace q361 := eq_true q361) | (go_at_call 114; (with_reducible refine (impl_byNorm.calls k2 (rdOf ByteArray.empty l0_1 (ji21)) (rdOf ByteArray.empty l0_1 x19_2) t362 _ A24.out).mono ?_); rintro e w31 ⟨rfl, hb⟩; have n0_ := Aside0.mk (bb BK355.out hb); have n1_ := Aside0.mk (below_step By hb); clear BK355; clear HB; have BK355 := n0_; have HB := n1_; clear n0_ n1_; (try clear hb); (try clear hb2); (try clear hk); (try clear hi)))
                            go_roundg k2
                            case measure => have := HJ1.out; have := HK2.out; omega
                            case rel => exact ⟨(wrap64 (x19_2 + 1)), (by first | rfl | (simp; done) | (simp [*]; done)), H', ⟨by have := HJ1.out; have := HK2.out; omega⟩, ⟨by (with_reducible repeat (first | refine blk_drewN ?_ _ | refine blk_drew ?_ | refine blk_alloc ?_ _)); exact BK355.out⟩, ⟨By⟩⟩
                        · rw [if_neg c23] at H
                          exact absurd H (by simp)
                      · rw [if_neg c22] at H
                        exact absurd H (by simp)
                    · rw [if_neg c20] at H
                      have c20b0 : decide (0 < x19_2) = false := decide_eq_false c20
                      clear c20
                      have H' := Aside0.mk H
                      clear H
                      have p359 : 0 ≤ (x19_2 : Int) := of_decide_eq_true Da
                      have q359 : x19_2 < (l0_1.length : Int) := of_decide_eq_true Da
                      obtain ⟨ad359, e359, hx359_0⟩ := Kd.at_string HR0_1.out x19_2 p359 q359
                      cases e359
                      replace hx359_0 := bz HB.out hx359_0
                      replace p359 := eq_true p359
                      replace q359 := eq_true q359
                      go_wp2_with (first | ((with_reducible refine gate_callee (f := 113) rfl ?_); refine goesL_ (some 25) rfl rfl Tryz.func113 (by kernel_rfl) rfl #[.string (rdOf ByteArray.empty l0_1 x19_2)] rfl Ag ?_; (with_reducible refine (impl_isProper.calls k2 (rdOf ByteArray.empty l0_1 x19_2) true _ A18.out).mono ?_); rintro e w32 ⟨rfl, hb⟩; refine ⟨_, rfl, ?_⟩; have n0_ := Aside0.mk (bb BK355.out hb); have n1_ := Aside0.mk (below_step By hb); clear BK355; clear HB; have BK355 := n0_; have HB := n1_; clear n0_ n1_; (try clear hb); (try clear hb2); (try clear hk); (try clear hi)))
                      go_roundg k2
                      case measure => have := HJ1.out; have := HK2.out; omega
                      case rel => exact ⟨(wrap64 (x19_2 + 1)), (by first | rfl | (simp; done) | (simp [*]; done)), H', ⟨by have := HJ1.out; have := HK2.out; omega⟩, ⟨by (with_reducible repeat (first | refine blk_drewN ?_ _ | refine blk_drew ?_ | refine blk_alloc ?_ _)); exact BK355.out⟩, ⟨By⟩⟩
                  · replace c19 := Bool.eq_false_iff.mpr c19
                    subst c19
                    have H1 : (some false) = some r := by rw [if_neg (show ¬ (false = true) by decide)] at H; exact H
                    clear H
                    have H := H1
                    clear H1
                    obtain rfl := Option.some.inj H
                    have p359 : 0 ≤ (x19_2 : Int) := of_decide_eq_true Da
                    have q359 : x19_2 < (l0_1.length : Int) := of_decide_eq_true Da
                    obtain ⟨ad359, e359, hx359_0⟩ := Kd.at_string HR0_1.out x19_2 p359 q359
                    cases e359
                    replace hx359_0 := bz HB.out hx359_0
                    replace p359 := eq_true p359
                    replace q359 := eq_true q359
                    go_wp2_with (first | ((with_reducible refine gate_callee (f := 113) rfl ?_); refine goesL_ (some 25) rfl rfl Tryz.func113 (by kernel_rfl) rfl #[.string (rdOf ByteArray.empty l0_1 x19_2)] rfl Ag ?_; (with_reducible refine (impl_isProper.calls k2 (rdOf ByteArray.empty l0_1 x19_2) false _ A18.out).mono ?_); rintro e w33 ⟨rfl, hb⟩; refine ⟨_, rfl, ?_⟩; have n0_ := Aside0.mk (bb BK355.out hb); have n1_ := Aside0.mk (below_step By hb); clear BK355; clear HB; have BK355 := n0_; have HB := n1_; clear n0_ n1_; (try clear hb); (try clear hb2); (try clear hk); (try clear hi)))
                    go_ret
                    exact ⟨Rf, By⟩
                · rw [if_neg c17] at H
                  exact absurd H (by simp)
              · rw [if_neg c16] at H
                exact absurd H (by simp)
            · rw [if_neg c15] at H
              have c15b0 : decide (x19_2 < (l0_1.length : Int)) = false := decide_eq_false c15
              clear c15
              obtain rfl := Option.some.inj H
              go_wp2
              go_ret
              exact ⟨Rf, By⟩

set_option linter.unusedVariables false
set_option linter.unusedSimpArgs false

/-! ### impl_isRdn: function 110 -/
def impl_isRdn.f (k : Nat) (a0_0 : ByteArray) (a0_1 : ByteArray) : Option (Bool) := (impl_NameRight.f a0_0).bind fun t386 => (if t386 = true then ((impl_isProper.f k a0_1).bind fun t387 => (some t387)) else (some false))
theorem impl_isRdn.mono : ∀ a0 a1 k, LeO (impl_isRdn.f k a0 a1) (impl_isRdn.f (k + 1) a0 a1) := by
  intro a0 a1 k
  unfold impl_isRdn.f
  repeat' first
      | (with_reducible exact impl_isProper.mono _ _)
      | (with_reducible exact LeO.refl _)
      | (with_reducible exact LeO.none _)
      | (with_reducible refine LeO.ite ?_ ?_)
      | (with_reducible refine LeO.bind ?_ (fun _ => ?_))
      | exact impl_isProper.mono _ _
      | exact LeO.none _
      | refine LeO.ite ?_ ?_
      | refine LeO.bind ?_ (fun _ => ?_)
set_option maxHeartbeats 8000000 in
set_option maxRecDepth 100000 in
theorem impl_isRdn.calls (k : Nat) (a0_0 : ByteArray) (a0_1 : ByteArray) (r : Bool) (w : World) (h : impl_isRdn.f k a0_0 a0_1 = some r) :
    Calls Tryz.prog 110 #[.agg #[.string a0_0, .string a0_1]] w fun e w' => e = .returned (.bool r) ∧ Below w.heap.size w w' := by
  have hu113 := Tryz.underlying113
  have HB := Aside0.mk (Below.refl w.heap.size w)
  have H : ((impl_NameRight.f a0_0).bind fun t386 => (if t386 = true then ((impl_isProper.f k a0_1).bind fun t387 => (some t387)) else (some false))) = some r := h
  clear h
  replace H := Option.bind_eq_some_iff.mp H
  obtain ⟨t386, A20, H⟩ := H
  replace H : (if t386 = true then ((impl_isProper.f k a0_1).bind fun t387 => (some t387)) else (some false)) = some r := H
  have A2 := Aside0.mk A20
  clear A20
  by_cases c3 : t386 = true
  · subst c3
    have H1 : ((impl_isProper.f k a0_1).bind fun t387 => (some t387)) = some r := by rw [if_pos rfl] at H; exact H
    clear H
    have H := H1
    clear H1
    replace H := Option.bind_eq_some_iff.mp H
    obtain ⟨t387, A40, H⟩ := H
    replace H : (some t387) = some r := H
    have A4 := Aside0.mk A40
    clear A40
    obtain rfl := Option.some.inj H
    go_enter Tryz.func110, Tryz.ntmps110
    go_wp2_with (first | ((with_reducible refine gate_dst (N := 1) rfl ?_); refine box_event ?hg (N := 1) ?hd (cs := #[.string a0_0, .string a0_1]) (t := 113) ?hr ?_; (case hd => rfl); (case hg => rfl); (case hr => first | (go_simp; done) | (go_simp; rfl)); intro gb385 hg w5 hbox hb; have n0_ := Aside0.mk (below_step By hb); have n1_ := Aside0.mk (hbox); have n2_ := Aside0.mk ((by rw [hg]; exact (below_size By) : w.heap.size ≤ gb385)); have n3_ := Aside0.mk ((by rw [hg]; exact (below_size By) : w.heap.size ≤ gb385)); clear HB; have HB := n0_; have BK385 := n1_; have GW385 := n2_; have GE385 := n3_; clear n0_ n1_ n2_ n3_; clear hb hbox hg; have ⟨hcz6_0, hcz6_1⟩ := cq2 BK385.out; have ⟨hfz6_0, hfz6_1⟩ := fq2 BK385.out) | ((with_reducible refine gate_callee (f := 85) rfl ?_); refine goesL_ (some 5) rfl rfl Tryz.func85 (by kernel_rfl) rfl #[.string a0_0] rfl Ag ?_; (with_reducible refine (impl_NameRight.calls a0_0 true _ A2.out).mono ?_); rintro e w7 ⟨rfl, hb⟩; refine ⟨_, rfl, ?_⟩; have n0_ := Aside0.mk (bb BK385.out hb); have n1_ := Aside0.mk (below_step By hb); clear BK385; clear HB; have BK385 := n0_; have HB := n1_; clear n0_ n1_; (try clear hb); (try clear hb2); (try clear hk); (try clear hi); have ⟨hcz8_0, hcz8_1⟩ := cq2 BK385.out; have ⟨hfz8_0, hfz8_1⟩ := fq2 BK385.out) | (go_at_call 113; (with_reducible refine (impl_isProper.calls k a0_1 t387 _ A4.out).mono ?_); rintro e w9 ⟨rfl, hb⟩; have n0_ := Aside0.mk (bb BK385.out hb); have n1_ := Aside0.mk (below_step By hb); clear BK385; clear HB; have BK385 := n0_; have HB := n1_; clear n0_ n1_; (try clear hb); (try clear hb2); (try clear hk); (try clear hi)))
    go_ret
    exact ⟨Rf, By⟩
  · replace c3 := Bool.eq_false_iff.mpr c3
    subst c3
    have H1 : (some false) = some r := by rw [if_neg (show ¬ (false = true) by decide)] at H; exact H
    clear H
    have H := H1
    clear H1
    obtain rfl := Option.some.inj H
    go_enter Tryz.func110, Tryz.ntmps110
    go_wp2_with (first | ((with_reducible refine gate_dst (N := 1) rfl ?_); refine box_event ?hg (N := 1) ?hd (cs := #[.string a0_0, .string a0_1]) (t := 113) ?hr ?_; (case hd => rfl); (case hg => rfl); (case hr => first | (go_simp; done) | (go_simp; rfl)); intro gb385 hg w10 hbox hb; have n0_ := Aside0.mk (below_step By hb); have n1_ := Aside0.mk (hbox); have n2_ := Aside0.mk ((by rw [hg]; exact (below_size By) : w.heap.size ≤ gb385)); have n3_ := Aside0.mk ((by rw [hg]; exact (below_size By) : w.heap.size ≤ gb385)); clear HB; have HB := n0_; have BK385 := n1_; have GW385 := n2_; have GE385 := n3_; clear n0_ n1_ n2_ n3_; clear hb hbox hg; have ⟨hcz11_0, hcz11_1⟩ := cq2 BK385.out; have ⟨hfz11_0, hfz11_1⟩ := fq2 BK385.out) | ((with_reducible refine gate_callee (f := 85) rfl ?_); refine goesL_ (some 5) rfl rfl Tryz.func85 (by kernel_rfl) rfl #[.string a0_0] rfl Ag ?_; (with_reducible refine (impl_NameRight.calls a0_0 false _ A2.out).mono ?_); rintro e w12 ⟨rfl, hb⟩; refine ⟨_, rfl, ?_⟩; have n0_ := Aside0.mk (bb BK385.out hb); have n1_ := Aside0.mk (below_step By hb); clear BK385; clear HB; have BK385 := n0_; have HB := n1_; clear n0_ n1_; (try clear hb); (try clear hb2); (try clear hk); (try clear hi)))
    go_ret
    exact ⟨Rf, By⟩

set_option linter.unusedVariables false
set_option linter.unusedSimpArgs false

/-! ### impl_depthOf: function 84 -/
mutual
def impl_depthOf.j0 : Nat → List (S87) → Int → Bool → Int → ByteArray → ByteArray → Int → Option (Int × Int)
  | 0, _, _, _, _, _, _, _ => none
  | k + 1, x0, x16, x17, x371000, x371001, x371002, x371003 => if x17 = true then (if x371001.toList = ([] : List UInt8) then (if x371002.toList = ([] : List UInt8) then (if x371003 < 1 then (impl_depthOf.j1 k x0 true x371000 x371001 x371002 x371003) else (if x371000 = 3 then (if x371003 = 1 then (impl_depthOf.j1 k x0 (decide (x371003 > 20)) x371000 x371001 x371002 x371003) else (impl_depthOf.j1 k x0 true x371000 x371001 x371002 x371003)) else (impl_depthOf.j1 k x0 (decide (x371003 > 20)) x371000 x371001 x371002 x371003))) else (impl_depthOf.j1 k x0 true x371000 x371001 x371002 x371003)) else (impl_depthOf.j1 k x0 true x371000 x371001 x371002 x371003)) else (if x16 = 5 then (if x371002.toList = ([] : List UInt8) then (if x371003 = 0 then ((impl_NameRight.f x371001).bind fun t377 => (if t377 = true then (some (1, 1)) else (some (0, 0)))) else (some (0, 0))) else (some (0, 0))) else (if x16 = 4 then (impl_depthOf.j3 k (x16 == 4) x371000 x371001 x371002 x371003) else (if x16 = 6 then (impl_depthOf.j3 k (x16 == 6) x371000 x371001 x371002 x371003) else (if x16 = 7 then (impl_depthOf.j3 k (x16 == 7) x371000 x371001 x371002 x371003) else (impl_depthOf.j3 k (x16 == 8) x371000 x371001 x371002 x371003)))))
def impl_depthOf.j1 : Nat → List (S87) → Bool → Int → ByteArray → ByteArray → Int → Option (Int × Int)
  | 0, _, _, _, _, _, _ => none
  | k + 1, x0, x48, x371000, x371001, x371002, x371003 => if x48 = true then (some (0, 0)) else (impl_depthOf.l0 k x0 1 0 x371003 0)
def impl_depthOf.l0 : Nat → List (S87) → Int → Int → Int → Int → Option (Int × Int)
  | 0, _, _, _, _, _ => none
  | k + 1, x0, x5, x6, x50, x51 => if x51 < x50 then (if 0 ≤ x5 then (if x5 ≤ (x0.length : Int) then ((impl_depthOf.f k (x0.drop (x5 : Int).toNat)).bind fun bt375 => (if bt375.1 = 0 then (some (0, 0)) else (impl_depthOf.l0 k x0 (wrap64 (x5 + bt375.1)) (mx x6 bt375.2) x50 (wrap64 (x51 + 1))))) else (none)) else (none)) else (some (x5, wrap64 (x6 + 1)))
def impl_depthOf.j3 : Nat → Bool → Int → ByteArray → ByteArray → Int → Option (Int × Int)
  | 0, _, _, _, _, _ => none
  | k + 1, x77, x371000, x371001, x371002, x371003 => if x77 = true then ((impl_isProper.f k x371002).bind fun t378 => (if t378 = true then (if x371003 = 0 then ((impl_NameRight.f x371001).bind fun t379 => (if t379 = true then (some (1, 1)) else (some (0, 0)))) else (some (0, 0))) else (some (0, 0)))) else (some (0, 0))
def impl_depthOf.f : Nat → List (S87) → Option (Int × Int)
  | 0, _ => none
  | k + 1, l0 => if (l0.length : Int) = 0 then (some (0, 0)) else (if 0 < (l0.length : Int) then (if ((rd_T87 l0 0).f0) = 1 then (impl_depthOf.j0 k l0 ((rd_T87 l0 0).f0) (((rd_T87 l0 0).f0) == 1) ((rd_T87 l0 0).f0) ((rd_T87 l0 0).f1) ((rd_T87 l0 0).f2) ((rd_T87 l0 0).f3)) else (if ((rd_T87 l0 0).f0) = 2 then (impl_depthOf.j0 k l0 ((rd_T87 l0 0).f0) (((rd_T87 l0 0).f0) == 2) ((rd_T87 l0 0).f0) ((rd_T87 l0 0).f1) ((rd_T87 l0 0).f2) ((rd_T87 l0 0).f3)) else (impl_depthOf.j0 k l0 ((rd_T87 l0 0).f0) (((rd_T87 l0 0).f0) == 3) ((rd_T87 l0 0).f0) ((rd_T87 l0 0).f1) ((rd_T87 l0 0).f2) ((rd_T87 l0 0).f3)))) else (none))
end
theorem impl_depthOf.mono_l : ∀ k, (∀ y0, LeO (impl_depthOf.f k y0) (impl_depthOf.f (k + 1) y0)) ∧ (∀ y0 y1 y2 y3 y4 y5 y6, LeO (impl_depthOf.j0 k y0 y1 y2 y3 y4 y5 y6) (impl_depthOf.j0 (k + 1) y0 y1 y2 y3 y4 y5 y6)) ∧ (∀ y0 y1 y2 y3 y4 y5, LeO (impl_depthOf.j1 k y0 y1 y2 y3 y4 y5) (impl_depthOf.j1 (k + 1) y0 y1 y2 y3 y4 y5)) ∧ (∀ y0 y1 y2 y3 y4, LeO (impl_depthOf.l0 k y0 y1 y2 y3 y4) (impl_depthOf.l0 (k + 1) y0 y1 y2 y3 y4)) ∧ (∀ y0 y1 y2 y3 y4, LeO (impl_depthOf.j3 k y0 y1 y2 y3 y4) (impl_depthOf.j3 (k + 1) y0 y1 y2 y3 y4))
  | 0 => ⟨fun _ r h => by simp [impl_depthOf.f] at h, fun _ _ _ _ _ _ _ r h => by simp [impl_depthOf.j0] at h, fun _ _ _ _ _ _ r h => by simp [impl_depthOf.j1] at h, fun _ _ _ _ _ r h => by simp [impl_depthOf.l0] at h, fun _ _ _ _ _ r h => by simp [impl_depthOf.j3] at h⟩
  | k + 1 => by
    obtain ⟨ih0, ih1, ih2, ih3, ih4⟩ := impl_depthOf.mono_l k
    refine ⟨?_, ?_, ?_, ?_, ?_⟩
    · intro y0
      unfold impl_depthOf.f
      repeat' first
      | (with_reducible exact ih0 _)
      | (with_reducible exact ih1 _ _ _ _ _ _ _)
      | (with_reducible exact ih2 _ _ _ _ _ _)
      | (with_reducible exact ih3 _ _ _ _ _)
      | (with_reducible exact ih4 _ _ _ _ _)
      | (with_reducible exact impl_isProper.mono _ _)
      | (with_reducible exact LeO.refl _)
      | (with_reducible exact LeO.none _)
      | (with_reducible refine LeO.ite ?_ ?_)
      | (with_reducible refine LeO.bind ?_ (fun _ => ?_))
      | exact ih0 _
      | exact ih1 _ _ _ _ _ _ _
      | exact ih2 _ _ _ _ _ _
      | exact ih3 _ _ _ _ _
      | exact ih4 _ _ _ _ _
      | exact impl_isProper.mono _ _
      | exact LeO.none _
      | refine LeO.ite ?_ ?_
      | refine LeO.bind ?_ (fun _ => ?_)
    · intro y0 y1 y2 y3 y4 y5 y6
      unfold impl_depthOf.j0
      repeat' first
      | (with_reducible exact ih0 _)
      | (with_reducible exact ih1 _ _ _ _ _ _ _)
      | (with_reducible exact ih2 _ _ _ _ _ _)
      | (with_reducible exact ih3 _ _ _ _ _)
      | (with_reducible exact ih4 _ _ _ _ _)
      | (with_reducible exact impl_isProper.mono _ _)
      | (with_reducible exact LeO.refl _)
      | (with_reducible exact LeO.none _)
      | (with_reducible refine LeO.ite ?_ ?_)
      | (with_reducible refine LeO.bind ?_ (fun _ => ?_))
      | exact ih0 _
      | exact ih1 _ _ _ _ _ _ _
      | exact ih2 _ _ _ _ _ _
      | exact ih3 _ _ _ _ _
      | exact ih4 _ _ _ _ _
      | exact impl_isProper.mono _ _
      | exact LeO.none _
      | refine LeO.ite ?_ ?_
      | refine LeO.bind ?_ (fun _ => ?_)
    · intro y0 y1 y2 y3 y4 y5
      unfold impl_depthOf.j1
      repeat' first
      | (with_reducible exact ih0 _)
      | (with_reducible exact ih1 _ _ _ _ _ _ _)
      | (with_reducible exact ih2 _ _ _ _ _ _)
      | (with_reducible exact ih3 _ _ _ _ _)
      | (with_reducible exact ih4 _ _ _ _ _)
      | (with_reducible exact impl_isProper.mono _ _)
      | (with_reducible exact LeO.refl _)
      | (with_reducible exact LeO.none _)
      | (with_reducible refine LeO.ite ?_ ?_)
      | (with_reducible refine LeO.bind ?_ (fun _ => ?_))
      | exact ih0 _
      | exact ih1 _ _ _ _ _ _ _
      | exact ih2 _ _ _ _ _ _
      | exact ih3 _ _ _ _ _
      | exact ih4 _ _ _ _ _
      | exact impl_isProper.mono _ _
      | exact LeO.none _
      | refine LeO.ite ?_ ?_
      | refine LeO.bind ?_ (fun _ => ?_)
    · intro y0 y1 y2 y3 y4
      unfold impl_depthOf.l0
      repeat' first
      | (with_reducible exact ih0 _)
      | (with_reducible exact ih1 _ _ _ _ _ _ _)
      | (with_reducible exact ih2 _ _ _ _ _ _)
      | (with_reducible exact ih3 _ _ _ _ _)
      | (with_reducible exact ih4 _ _ _ _ _)
      | (with_reducible exact impl_isProper.mono _ _)
      | (with_reducible exact LeO.refl _)
      | (with_reducible exact LeO.none _)
      | (with_reducible refine LeO.ite ?_ ?_)
      | (with_reducible refine LeO.bind ?_ (fun _ => ?_))
      | exact ih0 _
      | exact ih1 _ _ _ _ _ _ _
      | exact ih2 _ _ _ _ _ _
      | exact ih3 _ _ _ _ _
      | exact ih4 _ _ _ _ _
      | exact impl_isProper.mono _ _
      | exact LeO.none _
      | refine LeO.ite ?_ ?_
      | refine LeO.bind ?_ (fun _ => ?_)
    · intro y0 y1 y2 y3 y4
      unfold impl_depthOf.j3
      repeat' first
      | (with_reducible exact ih0 _)
      | (with_reducible exact ih1 _ _ _ _ _ _ _)
      | (with_reducible exact ih2 _ _ _ _ _ _)
      | (with_reducible exact ih3 _ _ _ _ _)
      | (with_reducible exact ih4 _ _ _ _ _)
      | (with_reducible exact impl_isProper.mono _ _)
      | (with_reducible exact LeO.refl _)
      | (with_reducible exact LeO.none _)
      | (with_reducible refine LeO.ite ?_ ?_)
      | (with_reducible refine LeO.bind ?_ (fun _ => ?_))
      | exact ih0 _
      | exact ih1 _ _ _ _ _ _ _
      | exact ih2 _ _ _ _ _ _
      | exact ih3 _ _ _ _ _
      | exact ih4 _ _ _ _ _
      | exact impl_isProper.mono _ _
      | exact LeO.none _
      | refine LeO.ite ?_ ?_
      | refine LeO.bind ?_ (fun _ => ?_)
theorem impl_depthOf.mono : ∀ a0 k, LeO (impl_depthOf.f k a0) (impl_depthOf.f (k + 1) a0) := by
  intro a0 k
  obtain ⟨ih0, ih1, ih2, ih3, ih4⟩ := impl_depthOf.mono_l k
  exact ih0 a0
set_option maxHeartbeats 8000000 in
set_option maxRecDepth 100000 in
theorem impl_depthOf.calls (k : Nat) : ∀ (A0 : Option Addr) (c0 : Nat) (l0 : List (S87)) (r1 : Int) (r2 : Int) (w : World) (hr0 : Kd.C k87 w A0 l0.length l0) (hc0 : l0.length ≤ c0) (h : impl_depthOf.f k l0 = some (r1, r2)),
    Calls Tryz.prog 84 #[.slice A0 l0.length c0] w fun e w' => e = .returned (.tuple #[.int .i64 r1, .int .i64 r2]) ∧ Below w.heap.size w w' := by
  induction k using Nat.strongRecOn with
  | _ k ih =>
  intro A0 c0 l0 r1 r2 w hr0 hc0 h
  cases k with
  | zero => exact absurd h (by simp [impl_depthOf.f])
  | succ k =>
  simp only [impl_depthOf.f] at h
  have hu87 := Tryz.underlying87
  have HR0 := Aside0.mk hr0
  have HC0 := Aside0.mk hc0
  clear hr0 hc0
  have HB := Aside0.mk (Below.refl w.heap.size w)
  have H : (if (l0.length : Int) = 0 then (some (0, 0)) else (if 0 < (l0.length : Int) then (if ((rd_T87 l0 0).f0) = 1 then (impl_depthOf.j0 k l0 ((rd_T87 l0 0).f0) (((rd_T87 l0 0).f0) == 1) ((rd_T87 l0 0).f0) ((rd_T87 l0 0).f1) ((rd_T87 l0 0).f2) ((rd_T87 l0 0).f3)) else (if ((rd_T87 l0 0).f0) = 2 then (impl_depthOf.j0 k l0 ((rd_T87 l0 0).f0) (((rd_T87 l0 0).f0) == 2) ((rd_T87 l0 0).f0) ((rd_T87 l0 0).f1) ((rd_T87 l0 0).f2) ((rd_T87 l0 0).f3)) else (impl_depthOf.j0 k l0 ((rd_T87 l0 0).f0) (((rd_T87 l0 0).f0) == 3) ((rd_T87 l0 0).f0) ((rd_T87 l0 0).f1) ((rd_T87 l0 0).f2) ((rd_T87 l0 0).f3)))) else (none))) = some (r1, r2) := h
  clear h
  by_cases c2 : (l0.length : Int) = 0
  · rw [if_pos c2] at H
    have c2b0 : ((l0.length : Int) == 0) = true := beq_iff_eq.mpr c2
    have c2b1 : ((l0.length : Int) != 0) = false := bne_eq_false_iff_eq.mpr c2
    clear c2
    simp only [Option.some.injEq, Prod.mk.injEq] at H
    obtain ⟨rfl, rfl⟩ := H
    go_enter Tryz.func84, Tryz.ntmps84
    go_wp2
    go_ret2
    exact ⟨Rf, By⟩
  · rw [if_neg c2] at H
    have c2b0 : ((l0.length : Int) == 0) = false := beq_eq_false_iff_ne.mpr c2
    have c2b1 : ((l0.length : Int) != 0) = true := bne_iff_ne.mpr c2
    have c2b2 : ¬ (l0 = []) := fun h_ => c2 (by rw [h_]; rfl)
    by_cases c3 : 0 < (l0.length : Int)
    · rw [if_pos c3] at H
      have c3b0 : decide (0 < (l0.length : Int)) = true := decide_eq_true c3
      have c3b1 : decide (0 < l0.length) = true := decide_eq_true (by omega)
      clear c3
      have HC4 := Aside0.mk H
      clear H
      have p369 : 0 ≤ (0 : Int) := (by omega)
      have q369 : 0 < (l0.length : Int) := of_decide_eq_true Da
      obtain ⟨ad369, e369, hx369_0, hx369_1, hx369_2, hx369_3⟩ := at_T87 HR0.out 0 p369 q369
      cases e369
      have qi369 : (0 < l0.length) = True := eq_true (by omega)
      (try rw [show ((0 : Int)).toNat = 0 from rfl] at hx369_0)
      (try rw [show 0 * 4 = 0 from rfl] at hx369_0)
      (try rw [Addr.add_zero'] at hx369_0)
      (try rw [show ((0 : Int)).toNat = 0 from rfl] at hx369_1)
      (try rw [show 0 * 4 = 0 from rfl] at hx369_1)
      (try rw [Addr.add_zero'] at hx369_1)
      (try rw [show ((0 : Int)).toNat = 0 from rfl] at hx369_2)
      (try rw [show 0 * 4 = 0 from rfl] at hx369_2)
      (try rw [Addr.add_zero'] at hx369_2)
      (try rw [show ((0 : Int)).toNat = 0 from rfl] at hx369_3)
      (try rw [show 0 * 4 = 0 from rfl] at hx369_3)
      (try rw [Addr.add_zero'] at hx369_3)
      replace p369 := eq_true p369
      replace q369 := eq_true q369
      go_enter Tryz.func84, Tryz.ntmps84
      go_upto_if 17 with (first | ((with_reducible refine gate_dst (N := 4) rfl ?_); refine box_event ?hg (N := 4) ?hd (cs := #[.int .i64 0, .string (⟨#[]⟩ : ByteArray), .string (⟨#[]⟩ : ByteArray), .int .i64 0]) (t := 87) ?hr ?_; (case hd => rfl); (case hg => rfl); (case hr => first | (go_simp; done) | (go_simp; rfl)); intro gb370 hg w5 hbox hb; have n0_ := Aside0.mk (below_step By hb); have n1_ := Aside0.mk (hbox); have n2_ := Aside0.mk ((by rw [hg]; exact (below_size By) : w.heap.size ≤ gb370)); have n3_ := Aside0.mk ((by rw [hg]; exact (below_size By) : w.heap.size ≤ gb370)); clear HB; have HB := n0_; have BK370 := n1_; have GW370 := n2_; have GE370 := n3_; clear n0_ n1_ n2_ n3_; clear hb hbox hg; have ⟨hcz6_0, hcz6_1, hcz6_2, hcz6_3⟩ := cq4 BK370.out; have ⟨hfz6_0, hfz6_1, hfz6_2, hfz6_3⟩ := fq4 BK370.out))
      (try simp only [Act.put, List.setIfInBounds_toArray, List.set_cons_zero, List.set_cons_succ])
      go_cut [17] (fun v17 wc => ∃ (kq : Nat) (x17_3 : Bool), v17 = .bool x17_3 ∧ Aside0 (impl_depthOf.j0 kq l0 ((rd_T87 l0 0).f0) x17_3 ((rd_T87 l0 0).f0) ((rd_T87 l0 0).f1) ((rd_T87 l0 0).f2) ((rd_T87 l0 0).f3) = some (r1, r2)) ∧ Aside0 (kq ≤ k) ∧ Aside0 (wc.heap[gb370]? = some (.cells #[.int .i64 ((rd_T87 l0 0).f0), .string ((rd_T87 l0 0).f1), .string ((rd_T87 l0 0).f2), .int .i64 ((rd_T87 l0 0).f3)] 87 (0, 0))) ∧ Aside0 (Below w.heap.size w wc))
      case first =>
        have H := HC4.out
        clear HC4
        by_cases c7 : ((rd_T87 l0 0).f0) = 1
        · rw [if_pos c7] at H
          have c7b0 : (((rd_T87 l0 0).f0) == 1) = true := beq_iff_eq.mpr c7
          have c7b1 : (((rd_T87 l0 0).f0) != 1) = false := bne_eq_false_iff_eq.mpr c7
          clear c7
          (first | rw [c7b0] | (simp only [i64_w, i32_w]; rw [c7b0]) | skip)
          have H' := Aside0.mk H
          clear H
          go_wp2
          go_meet
          case rel => exact ⟨_, ((((rd_T87 l0 0).f0) == 1)), (by first | rfl | (simp; done) | (simp [*]; done)), H', ⟨by first | omega | exact Nat.le_refl _⟩, ⟨(pq4 Pk)⟩, ⟨By⟩⟩
        · rw [if_neg c7] at H
          have c7b0 : (((rd_T87 l0 0).f0) == 1) = false := beq_eq_false_iff_ne.mpr c7
          have c7b1 : (((rd_T87 l0 0).f0) != 1) = true := bne_iff_ne.mpr c7
          (first | rw [c7b0] | (simp only [i64_w, i32_w]; rw [c7b0]) | skip)
          by_cases c8 : ((rd_T87 l0 0).f0) = 2
          · rw [if_pos c8] at H
            have c8b0 : (((rd_T87 l0 0).f0) == 2) = true := beq_iff_eq.mpr c8
            have c8b1 : (((rd_T87 l0 0).f0) != 2) = false := bne_eq_false_iff_eq.mpr c8
            clear c8
            have H' := Aside0.mk H
            clear H
            go_wp2
            go_meet
            case rel => exact ⟨_, ((((rd_T87 l0 0).f0) == 2)), (by first | rfl | (simp; done) | (simp [*]; done)), H', ⟨by first | omega | exact Nat.le_refl _⟩, ⟨(pq4 Pk)⟩, ⟨By⟩⟩
          · rw [if_neg c8] at H
            have c8b0 : (((rd_T87 l0 0).f0) == 2) = false := beq_eq_false_iff_ne.mpr c8
            have c8b1 : (((rd_T87 l0 0).f0) != 2) = true := bne_iff_ne.mpr c8
            have H' := Aside0.mk H
            clear H
            go_wp2
            go_meet
            case rel => exact ⟨_, ((((rd_T87 l0 0).f0) == 3)), (by first | rfl | (simp; done) | (simp [*]; done)), H', ⟨by first | omega | exact Nat.le_refl _⟩, ⟨(pq4 Pk)⟩, ⟨By⟩⟩
      case rest =>
        clear HC4
        try clear c2
        try clear c2b0
        try clear c2b1
        try clear c2b2
        try clear p2
        try clear c3
        try clear c3b0
        try clear c3b1
        try clear p3
        try clear q3
        try clear hx3
        try clear qi3
        try clear c7
        try clear c7b0
        try clear c7b1
        try clear c8
        try clear c8b0
        try clear c8b1
        try clear hcz6_0
        try clear hcz6_1
        try clear hcz6_2
        try clear hcz6_3
        try clear hfz6_0
        try clear hfz6_1
        try clear hfz6_2
        try clear hfz6_3
        try clear hx369_0
        try clear hx369_1
        try clear hx369_2
        try clear hx369_3
        try clear p369
        try clear q369
        obtain ⟨kq, x17_3, rfl, HA, HJ3, BK370, HB⟩ := hcut
        cases kq with
        | zero => exact absurd HA.out (by simp [impl_depthOf.j0])
        | succ kj3 =>
          have H := HA.out
          clear HA
          simp only [impl_depthOf.j0] at H
          by_cases c9 : x17_3 = true
          · subst c9
            have H1 : (if ((rd_T87 l0 0).f1).toList = ([] : List UInt8) then (if ((rd_T87 l0 0).f2).toList = ([] : List UInt8) then (if ((rd_T87 l0 0).f3) < 1 then (impl_depthOf.j1 kj3 l0 true ((rd_T87 l0 0).f0) ((rd_T87 l0 0).f1) ((rd_T87 l0 0).f2) ((rd_T87 l0 0).f3)) else (if ((rd_T87 l0 0).f0) = 3 then (if ((rd_T87 l0 0).f3) = 1 then (impl_depthOf.j1 kj3 l0 (decide (((rd_T87 l0 0).f3) > 20)) ((rd_T87 l0 0).f0) ((rd_T87 l0 0).f1) ((rd_T87 l0 0).f2) ((rd_T87 l0 0).f3)) else (impl_depthOf.j1 kj3 l0 true ((rd_T87 l0 0).f0) ((rd_T87 l0 0).f1) ((rd_T87 l0 0).f2) ((rd_T87 l0 0).f3))) else (impl_depthOf.j1 kj3 l0 (decide (((rd_T87 l0 0).f3) > 20)) ((rd_T87 l0 0).f0) ((rd_T87 l0 0).f1) ((rd_T87 l0 0).f2) ((rd_T87 l0 0).f3)))) else (impl_depthOf.j1 kj3 l0 true ((rd_T87 l0 0).f0) ((rd_T87 l0 0).f1) ((rd_T87 l0 0).f2) ((rd_T87 l0 0).f3))) else (impl_depthOf.j1 kj3 l0 true ((rd_T87 l0 0).f0) ((rd_T87 l0 0).f1) ((rd_T87 l0 0).f2) ((rd_T87 l0 0).f3))) = some (r1, r2) := by rw [if_pos rfl] at H; exact H
            clear H
            have H := H1
            clear H1
            have HC10 := Aside0.mk H
            clear H
            go_upto_region 9 with (fail)
            go_cut [48] (fun v48 wc => ∃ (kq : Nat) (x48_9 : Bool), v48 = .bool x48_9 ∧ Aside0 (impl_depthOf.j1 kq l0 x48_9 ((rd_T87 l0 0).f0) ((rd_T87 l0 0).f1) ((rd_T87 l0 0).f2) ((rd_T87 l0 0).f3) = some (r1, r2)) ∧ Aside0 (kq ≤ kj3) ∧ Aside0 (wc.heap[gb370]? = some (.cells #[.int .i64 ((rd_T87 l0 0).f0), .string ((rd_T87 l0 0).f1), .string ((rd_T87 l0 0).f2), .int .i64 ((rd_T87 l0 0).f3)] 87 (0, 0))) ∧ Aside0 (Below w.heap.size w wc))
            case first =>
              have H := HC10.out
              clear HC10
              by_cases c11 : ((rd_T87 l0 0).f1).toList = ([] : List UInt8)
              · rw [if_pos c11] at H
                have c11b0 : (((rd_T87 l0 0).f1).toList == ([] : List UInt8)) = true := beq_iff_eq.mpr c11
                have c11b1 : (((rd_T87 l0 0).f1).toList != ([] : List UInt8)) = false := bne_eq_false_iff_eq.mpr c11
                clear c11
                (first | rw [c11b0] | (simp only [i64_w, i32_w]; rw [c11b0]) | skip)
                by_cases c12 : ((rd_T87 l0 0).f2).toList = ([] : List UInt8)
                · rw [if_pos c12] at H
                  have c12b0 : (((rd_T87 l0 0).f2).toList == ([] : List UInt8)) = true := beq_iff_eq.mpr c12
                  have c12b1 : (((rd_T87 l0 0).f2).toList != ([] : List UInt8)) = false := bne_eq_false_iff_eq.mpr c12
                  clear c12
                  by_cases c13 : ((rd_T87 l0 0).f3) < 1
                  · rw [if_pos c13] at H
                    have c13b0 : decide (((rd_T87 l0 0).f3) < 1) = true := decide_eq_true c13
                    clear c13
                    have H' := Aside0.mk H
                    clear H
                    have hcz14_0 : wc.cell? ⟨gb370, 0, none⟩ = some (.int .i64 ((rd_T87 l0 0).f0)) := bc BK370.out 0
                    have hcz14_1 : wc.cell? ⟨gb370, 1, none⟩ = some (.string ((rd_T87 l0 0).f1)) := bc BK370.out 1
                    have hcz14_2 : wc.cell? ⟨gb370, 2, none⟩ = some (.string ((rd_T87 l0 0).f2)) := bc BK370.out 2
                    have hcz14_3 : wc.cell? ⟨gb370, 3, none⟩ = some (.int .i64 ((rd_T87 l0 0).f3)) := bc BK370.out 3
                    have hfz14_0 := blk_frozen BK370.out 0
                    have hfz14_1 := blk_frozen BK370.out 1
                    have hfz14_2 := blk_frozen BK370.out 2
                    have hfz14_3 := blk_frozen BK370.out 3
                    go_wp2
                    go_meet
                    case rel => exact ⟨_, (true), (by first | rfl | (simp; done) | (simp [*]; done)), H', ⟨by have := HJ3.out; first | omega | exact Nat.le_refl _⟩, ⟨by (with_reducible repeat (first | refine blk_drewN ?_ _ | refine blk_drew ?_ | refine blk_alloc ?_ _)); exact BK370.out⟩, ⟨By⟩⟩
                  · rw [if_neg c13] at H
                    have c13b0 : decide (((rd_T87 l0 0).f3) < 1) = false := decide_eq_false c13
                    clear c13
                    by_cases c15 : ((rd_T87 l0 0).f0) = 3
                    · rw [if_pos c15] at H
                      have c15b0 : (((rd_T87 l0 0).f0) == 3) = true := beq_iff_eq.mpr c15
                      have c15b1 : (((rd_T87 l0 0).f0) != 3) = false := bne_eq_false_iff_eq.mpr c15
                      clear c15
                      by_cases c16 : ((rd_T87 l0 0).f3) = 1
                      · rw [if_pos c16] at H
                        have c16b0 : (((rd_T87 l0 0).f3) == 1) = true := beq_iff_eq.mpr c16
                        have c16b1 : (((rd_T87 l0 0).f3) != 1) = false := bne_eq_false_iff_eq.mpr c16
                        clear c16
                        have H' := Aside0.mk H
                        clear H
                        have hcz17_0 : wc.cell? ⟨gb370, 0, none⟩ = some (.int .i64 ((rd_T87 l0 0).f0)) := bc BK370.out 0
                        have hcz17_1 : wc.cell? ⟨gb370, 1, none⟩ = some (.string ((rd_T87 l0 0).f1)) := bc BK370.out 1
                        have hcz17_2 : wc.cell? ⟨gb370, 2, none⟩ = some (.string ((rd_T87 l0 0).f2)) := bc BK370.out 2
                        have hcz17_3 : wc.cell? ⟨gb370, 3, none⟩ = some (.int .i64 ((rd_T87 l0 0).f3)) := bc BK370.out 3
                        have hfz17_0 := blk_frozen BK370.out 0
                        have hfz17_1 := blk_frozen BK370.out 1
                        have hfz17_2 := blk_frozen BK370.out 2
                        have hfz17_3 := blk_frozen BK370.out 3
                        go_wp2
                        go_meet
                        case rel => exact ⟨_, (decide (((rd_T87 l0 0).f3) > 20)), (by first | rfl | (simp; done) | (simp [*]; done)), H', ⟨by have := HJ3.out; first | omega | exact Nat.le_refl _⟩, ⟨by (with_reducible repeat (first | refine blk_drewN ?_ _ | refine blk_drew ?_ | refine blk_alloc ?_ _)); exact BK370.out⟩, ⟨By⟩⟩
                      · rw [if_neg c16] at H
                        have c16b0 : (((rd_T87 l0 0).f3) == 1) = false := beq_eq_false_iff_ne.mpr c16
                        have c16b1 : (((rd_T87 l0 0).f3) != 1) = true := bne_iff_ne.mpr c16
                        have H' := Aside0.mk H
                        clear H
                        have hcz18_0 : wc.cell? ⟨gb370, 0, none⟩ = some (.int .i64 ((rd_T87 l0 0).f0)) := bc BK370.out 0
                        have hcz18_1 : wc.cell? ⟨gb370, 1, none⟩ = some (.string ((rd_T87 l0 0).f1)) := bc BK370.out 1
                        have hcz18_2 : wc.cell? ⟨gb370, 2, none⟩ = some (.string ((rd_T87 l0 0).f2)) := bc BK370.out 2
                        have hcz18_3 : wc.cell? ⟨gb370, 3, none⟩ = some (.int .i64 ((rd_T87 l0 0).f3)) := bc BK370.out 3
                        have hfz18_0 := blk_frozen BK370.out 0
                        have hfz18_1 := blk_frozen BK370.out 1
                        have hfz18_2 := blk_frozen BK370.out 2
                        have hfz18_3 := blk_frozen BK370.out 3
                        go_wp2
                        go_meet
                        case rel => exact ⟨_, (true), (by first | rfl | (simp; done) | (simp [*]; done)), H', ⟨by have := HJ3.out; first | omega | exact Nat.le_refl _⟩, ⟨by (with_reducible repeat (first | refine blk_drewN ?_ _ | refine blk_drew ?_ | refine blk_alloc ?_ _)); exact BK370.out⟩, ⟨By⟩⟩
                    · rw [if_neg c15] at H
                      have c15b0 : (((rd_T87 l0 0).f0) == 3) = false := beq_eq_false_iff_ne.mpr c15
                      have c15b1 : (((rd_T87 l0 0).f0) != 3) = true := bne_iff_ne.mpr c15
                      have H' := Aside0.mk H
                      clear H
                      have hcz19_0 : wc.cell? ⟨gb370, 0, none⟩ = some (.int .i64 ((rd_T87 l0 0).f0)) := bc BK370.out 0
                      have hcz19_1 : wc.cell? ⟨gb370, 1, none⟩ = some (.string ((rd_T87 l0 0).f1)) := bc BK370.out 1
                      have hcz19_2 : wc.cell? ⟨gb370, 2, none⟩ = some (.string ((rd_T87 l0 0).f2)) := bc BK370.out 2
                      have hcz19_3 : wc.cell? ⟨gb370, 3, none⟩ = some (.int .i64 ((rd_T87 l0 0).f3)) := bc BK370.out 3
                      have hfz19_0 := blk_frozen BK370.out 0
                      have hfz19_1 := blk_frozen BK370.out 1
                      have hfz19_2 := blk_frozen BK370.out 2
                      have hfz19_3 := blk_frozen BK370.out 3
                      go_wp2
                      go_meet
                      case rel => exact ⟨_, (decide (((rd_T87 l0 0).f3) > 20)), (by first | rfl | (simp; done) | (simp [*]; done)), H', ⟨by have := HJ3.out; first | omega | exact Nat.le_refl _⟩, ⟨by (with_reducible repeat (first | refine blk_drewN ?_ _ | refine blk_drew ?_ | refine blk_alloc ?_ _)); exact BK370.out⟩, ⟨By⟩⟩
                · rw [if_neg c12] at H
                  have c12b0 : (((rd_T87 l0 0).f2).toList == ([] : List UInt8)) = false := beq_eq_false_iff_ne.mpr c12
                  have c12b1 : (((rd_T87 l0 0).f2).toList != ([] : List UInt8)) = true := bne_iff_ne.mpr c12
                  have H' := Aside0.mk H
                  clear H
                  have hcz20_0 : wc.cell? ⟨gb370, 0, none⟩ = some (.int .i64 ((rd_T87 l0 0).f0)) := bc BK370.out 0
                  have hcz20_1 : wc.cell? ⟨gb370, 1, none⟩ = some (.string ((rd_T87 l0 0).f1)) := bc BK370.out 1
                  have hcz20_2 : wc.cell? ⟨gb370, 2, none⟩ = some (.string ((rd_T87 l0 0).f2)) := bc BK370.out 2
                  have hcz20_3 : wc.cell? ⟨gb370, 3, none⟩ = some (.int .i64 ((rd_T87 l0 0).f3)) := bc BK370.out 3
                  have hfz20_0 := blk_frozen BK370.out 0
                  have hfz20_1 := blk_frozen BK370.out 1
                  have hfz20_2 := blk_frozen BK370.out 2
                  have hfz20_3 := blk_frozen BK370.out 3
                  go_wp2
                  go_meet
                  case rel => exact ⟨_, (true), (by first | rfl | (simp; done) | (simp [*]; done)), H', ⟨by have := HJ3.out; first | omega | exact Nat.le_refl _⟩, ⟨by (with_reducible repeat (first | refine blk_drewN ?_ _ | refine blk_drew ?_ | refine blk_alloc ?_ _)); exact BK370.out⟩, ⟨By⟩⟩
              · rw [if_neg c11] at H
                have c11b0 : (((rd_T87 l0 0).f1).toList == ([] : List UInt8)) = false := beq_eq_false_iff_ne.mpr c11
                have c11b1 : (((rd_T87 l0 0).f1).toList != ([] : List UInt8)) = true := bne_iff_ne.mpr c11
                (first | rw [c11b0] | (simp only [i64_w, i32_w]; rw [c11b0]) | skip)
                have H' := Aside0.mk H
                clear H
                have hcz21_0 : wc.cell? ⟨gb370, 0, none⟩ = some (.int .i64 ((rd_T87 l0 0).f0)) := bc BK370.out 0
                have hcz21_1 : wc.cell? ⟨gb370, 1, none⟩ = some (.string ((rd_T87 l0 0).f1)) := bc BK370.out 1
                have hcz21_2 : wc.cell? ⟨gb370, 2, none⟩ = some (.string ((rd_T87 l0 0).f2)) := bc BK370.out 2
                have hcz21_3 : wc.cell? ⟨gb370, 3, none⟩ = some (.int .i64 ((rd_T87 l0 0).f3)) := bc BK370.out 3
                have hfz21_0 := blk_frozen BK370.out 0
                have hfz21_1 := blk_frozen BK370.out 1
                have hfz21_2 := blk_frozen BK370.out 2
                have hfz21_3 := blk_frozen BK370.out 3
                go_wp2
                go_meet
                case rel => exact ⟨_, (true), (by first | rfl | (simp; done) | (simp [*]; done)), H', ⟨by have := HJ3.out; first | omega | exact Nat.le_refl _⟩, ⟨by (with_reducible repeat (first | refine blk_drewN ?_ _ | refine blk_drew ?_ | refine blk_alloc ?_ _)); exact BK370.out⟩, ⟨By⟩⟩
            case rest =>
              clear HC10
              try clear c1
              try clear c2
              try clear c2b0
              try clear c2b1
              try clear c2b2
              try clear p2
              try clear c3
              try clear c3b0
              try clear c3b1
              try clear p3
              try clear q3
              try clear hx3
              try clear qi3
              try clear c7
              try clear c7b0
              try clear c7b1
              try clear c8
              try clear c8b0
              try clear c8b1
              try clear c9
              try clear c11
              try clear c11b0
              try clear c11b1
              try clear c12
              try clear c12b0
              try clear c12b1
              try clear c13
              try clear c13b0
              try clear c15
              try clear c15b0
              try clear c15b1
              try clear c16
              try clear c16b0
              try clear c16b1
              try clear hcz14_0
              try clear hcz14_1
              try clear hcz14_2
              try clear hcz14_3
              try clear hcz17_0
              try clear hcz17_1
              try clear hcz17_2
              try clear hcz17_3
              try clear hcz18_0
              try clear hcz18_1
              try clear hcz18_2
              try clear hcz18_3
              try clear hcz19_0
              try clear hcz19_1
              try clear hcz19_2
              try clear hcz19_3
              try clear hcz20_0
              try clear hcz20_1
              try clear hcz20_2
              try clear hcz20_3
              try clear hcz21_0
              try clear hcz21_1
              try clear hcz21_2
              try clear hcz21_3
              try clear hcz6_0
              try clear hcz6_1
              try clear hcz6_2
              try clear hcz6_3
              try clear hfz14_0
              try clear hfz14_1
              try clear hfz14_2
              try clear hfz14_3
              try clear hfz17_0
              try clear hfz17_1
              try clear hfz17_2
              try clear hfz17_3
              try clear hfz18_0
              try clear hfz18_1
              try clear hfz18_2
              try clear hfz18_3
              try clear hfz19_0
              try clear hfz19_1
              try clear hfz19_2
              try clear hfz19_3
              try clear hfz20_0
              try clear hfz20_1
              try clear hfz20_2
              try clear hfz20_3
              try clear hfz21_0
              try clear hfz21_1
              try clear hfz21_2
              try clear hfz21_3
              try clear hfz6_0
              try clear hfz6_1
              try clear hfz6_2
              try clear hfz6_3
              try clear hx369_0
              try clear hx369_1
              try clear hx369_2
              try clear hx369_3
              try clear p2
              try clear p3
              try clear p369
              try clear q3
              try clear q369
              obtain ⟨kq, x48_9, rfl, HA, HJ9, BK370, HB⟩ := hcut
              cases kq with
              | zero => exact absurd HA.out (by simp [impl_depthOf.j1])
              | succ kj9 =>
                have H := HA.out
                clear HA
                simp only [impl_depthOf.j1] at H
                by_cases c22 : x48_9 = true
                · subst c22
                  have H1 : (some (0, 0)) = some (r1, r2) := by rw [if_pos rfl] at H; exact H
                  clear H
                  have H := H1
                  clear H1
                  simp only [Option.some.injEq, Prod.mk.injEq] at H
                  obtain ⟨rfl, rfl⟩ := H
                  go_wp2
                  go_ret2
                  exact ⟨Rf, By⟩
                · replace c22 := Bool.eq_false_iff.mpr c22
                  subst c22
                  have H1 : (impl_depthOf.l0 kj9 l0 1 0 ((rd_T87 l0 0).f3) 0) = some (r1, r2) := by rw [if_neg (show ¬ (false = true) by decide)] at H; exact H
                  clear H
                  have H := H1
                  clear H1
                  have H' := Aside0.mk H
                  clear H
                  have hcz23_0 : wc.cell? ⟨gb370, 0, none⟩ = some (.int .i64 ((rd_T87 l0 0).f0)) := bc BK370.out 0
                  have hcz23_1 : wc.cell? ⟨gb370, 1, none⟩ = some (.string ((rd_T87 l0 0).f1)) := bc BK370.out 1
                  have hcz23_2 : wc.cell? ⟨gb370, 2, none⟩ = some (.string ((rd_T87 l0 0).f2)) := bc BK370.out 2
                  have hcz23_3 : wc.cell? ⟨gb370, 3, none⟩ = some (.int .i64 ((rd_T87 l0 0).f3)) := bc BK370.out 3
                  have hfz23_0 := blk_frozen BK370.out 0
                  have hfz23_1 := blk_frozen BK370.out 1
                  have hfz23_2 := blk_frozen BK370.out 2
                  have hfz23_3 := blk_frozen BK370.out 3
                  go_wp2
                  go_loopg [5, 6, 51] kj9 (fun kq v5 v6 v51 w' => ∃ (x5_3 : Int) (x6_3 : Int) (x51_3 : Int), v5 = .int .i64 x5_3 ∧ v6 = .int .i64 x6_3 ∧ v51 = .int .i64 x51_3 ∧ Aside0 (impl_depthOf.l0 kq l0 x5_3 x6_3 ((rd_T87 l0 0).f3) x51_3 = some (r1, r2)) ∧ Aside0 (kq ≤ kj9) ∧ Aside0 (w'.heap[gb370]? = some (.cells #[.int .i64 ((rd_T87 l0 0).f0), .string ((rd_T87 l0 0).f1), .string ((rd_T87 l0 0).f2), .int .i64 ((rd_T87 l0 0).f3)] 87 (0, 0))) ∧ Aside0 (Below w.heap.size w w'))
                  case atStart => exact ⟨(1), (0), (0), (by first | rfl | (simp; done) | (simp [*]; done)), (by first | rfl | (simp; done) | (simp [*]; done)), (by first | rfl | (simp; done) | (simp [*]; done)), H', ⟨Nat.le_refl _⟩, ⟨by (with_reducible repeat (first | refine blk_drewN ?_ _ | refine blk_drew ?_ | refine blk_alloc ?_ _)); exact BK370.out⟩, ⟨By⟩⟩
                  case round =>
                    clear H'
                    try clear c1
                    try clear c2
                    try clear c2b0
                    try clear c2b1
                    try clear c2b2
                    try clear p2
                    try clear c3
                    try clear c3b0
                    try clear c3b1
                    try clear p3
                    try clear q3
                    try clear hx3
                    try clear qi3
                    try clear c7
                    try clear c7b0
                    try clear c7b1
                    try clear c8
                    try clear c8b0
                    try clear c8b1
                    try clear c9
                    try clear c11
                    try clear c11b0
                    try clear c11b1
                    try clear c12
                    try clear c12b0
                    try clear c12b1
                    try clear c13
                    try clear c13b0
                    try clear c15
                    try clear c15b0
                    try clear c15b1
                    try clear c16
                    try clear c16b0
                    try clear c16b1
                    try clear c22
                    try clear hcz14_0
                    try clear hcz14_1
                    try clear hcz14_2
                    try clear hcz14_3
                    try clear hcz17_0
                    try clear hcz17_1
                    try clear hcz17_2
                    try clear hcz17_3
                    try clear hcz18_0
                    try clear hcz18_1
                    try clear hcz18_2
                    try clear hcz18_3
                    try clear hcz19_0
                    try clear hcz19_1
                    try clear hcz19_2
                    try clear hcz19_3
                    try clear hcz20_0
                    try clear hcz20_1
                    try clear hcz20_2
                    try clear hcz20_3
                    try clear hcz21_0
                    try clear hcz21_1
                    try clear hcz21_2
                    try clear hcz21_3
                    try clear hcz23_0
                    try clear hcz23_1
                    try clear hcz23_2
                    try clear hcz23_3
                    try clear hcz6_0
                    try clear hcz6_1
                    try clear hcz6_2
                    try clear hcz6_3
                    try clear hfz14_0
                    try clear hfz14_1
                    try clear hfz14_2
                    try clear hfz14_3
                    try clear hfz17_0
                    try clear hfz17_1
                    try clear hfz17_2
                    try clear hfz17_3
                    try clear hfz18_0
                    try clear hfz18_1
                    try clear hfz18_2
                    try clear hfz18_3
                    try clear hfz19_0
                    try clear hfz19_1
                    try clear hfz19_2
                    try clear hfz19_3
                    try clear hfz20_0
                    try clear hfz20_1
                    try clear hfz20_2
                    try clear hfz20_3
                    try clear hfz21_0
                    try clear hfz21_1
                    try clear hfz21_2
                    try clear hfz21_3
                    try clear hfz23_0
                    try clear hfz23_1
                    try clear hfz23_2
                    try clear hfz23_3
                    try clear hfz6_0
                    try clear hfz6_1
                    try clear hfz6_2
                    try clear hfz6_3
                    try clear hx369_0
                    try clear hx369_1
                    try clear hx369_2
                    try clear hx369_3
                    try clear p2
                    try clear p3
                    try clear p369
                    try clear q3
                    try clear q369
                    obtain ⟨x5_3, x6_3, x51_3, rfl, rfl, rfl, HA, HK3, BK370, HB⟩ := hrel
                    cases gk with
                    | zero => exact absurd HA.out (by simp [impl_depthOf.l0])
                    | succ k3 =>
                      have H := HA.out
                      clear HA
                      simp only [impl_depthOf.l0] at H
                      by_cases c24 : x51_3 < ((rd_T87 l0 0).f3)
                      · rw [if_pos c24] at H
                        have c24b0 : decide (x51_3 < ((rd_T87 l0 0).f3)) = true := decide_eq_true c24
                        clear c24
                        by_cases c25 : 0 ≤ x5_3
                        · rw [if_pos c25] at H
                          have c25b0 := eq_true c25
                          have c25b1 : decide (0 ≤ x5_3) = true := decide_eq_true c25
                          clear c25
                          by_cases c26 : x5_3 ≤ (l0.length : Int)
                          · rw [if_pos c26] at H
                            have c26b0 := eq_true c26
                            have c26b1 : decide (x5_3 ≤ (l0.length : Int)) = true := decide_eq_true c26
                            clear c26
                            obtain ⟨y371, hy371⟩ : ∃ y_ : List (S87), y_ = (l0.drop (x5_3 : Int).toNat) := ⟨_, rfl⟩
                            replace H : ((impl_depthOf.f k3 y371).bind fun bt375 => (if bt375.1 = 0 then (some (0, 0)) else (impl_depthOf.l0 k3 l0 (wrap64 (x5_3 + bt375.1)) (mx x6_3 bt375.2) ((rd_T87 l0 0).f3) (wrap64 (x51_3 + 1))))) = some (r1, r2) := by first | (rw [hy371]; with_reducible exact H) | (have H2_ := (Option.bind_some _ _).symm.trans H; rw [hy371]; with_reducible exact H2_) | (have H2_ := (Option.bind_some _ _).symm.trans H; with_reducible exact H2_) | with_reducible exact H | (rw [hy371]; exact H) | exact H
                            have Ny371 := Aside0.mk hy371
                            clear hy371
                            replace H := Option.bind_eq_some_iff.mp H
                            obtain ⟨⟨t375, t376⟩, A270, H⟩ := H
                            replace H : (if t375 = 0 then (some (0, 0)) else (impl_depthOf.l0 k3 l0 (wrap64 (x5_3 + t375)) (mx x6_3 t376) ((rd_T87 l0 0).f3) (wrap64 (x51_3 + 1)))) = some (r1, r2) := H
                            have A27 := Aside0.mk A270
                            clear A270
                            by_cases c28 : t375 = 0
                            · rw [if_pos c28] at H
                              have c28b0 : (t375 == 0) = true := beq_iff_eq.mpr c28
                              have c28b1 : (t375 != 0) = false := bne_eq_false_iff_eq.mpr c28
                              clear c28
                              simp only [Option.some.injEq, Prod.mk.injEq] at H
                              obtain ⟨rfl, rfl⟩ := H
                              have q29 : (x5_3 : Int) ≤ ((l0.length : Int) : Int) := of_decide_eq_true Da
                              obtain ⟨i029, hi029, _, hsz29, _⟩ := info_parts info87
                              have hroom29 : l0.length ≤ c0 := HC0.out
                              have hC29 : Kd.C k87 _ (some ad369) l0.length l0 := HR0.out
                              have q029 : (0 : Int) ≤ (x5_3 : Int) := of_decide_eq_true Da
                              have hcut29 := cut_from (P := Tryz.prog) 48 87 .i64 Tryz.underlying48 hi029 4 hsz29 (some ad369) l0.length c0 x5_3 q029 q29
                              have hr29 := Kd.C_drop (m := (x5_3 : Int).toNat) (c := c0) hC29 (by omega) hroom29
                              obtain ⟨A29, hA29⟩ : ∃ A1, A1 = (if c0 = (x5_3 : Int).toNat then (some ad369) else ((some ad369) : Option Addr).map (·.add ((x5_3 : Int).toNat * 4))) := ⟨_, rfl⟩
                              obtain ⟨c29, hc29⟩ : ∃ c1, c1 = c0 - (x5_3 : Int).toNat := ⟨_, rfl⟩
                              have hy29 : y371.length = l0.length - (x5_3 : Int).toNat := (by rw [Ny371.out, List.length_drop] <;> omega)
                              rw [show (l0).drop (x5_3 : Int).toNat = y371 from Ny371.out.symm] at hr29
                              replace hr29 : Kd.C k87 _ A29 y371.length y371 := (by rw [hA29]; exact hr29)
                              rw [← hy29, ← hA29, ← hc29] at hcut29
                              have HR374 := Aside0.mk hr29
                              have HC374 := Aside0.mk (show y371.length ≤ c29 from by rw [hy29, hc29]; exact Nat.sub_le_sub_right hroom29 _)
                              clear hr29 hC29 hroom29 hi029 hsz29 hc29
                              have KY29 := Aside0.mk hy29
                              have KA29 := Aside0.mk hA29
                              clear hy29 hA29
                              replace q29 := eq_true q29
                              go_wp2_with (first | ((with_reducible refine gate_callee (f := 84) rfl ?_); refine goesL_ (some 57) rfl rfl Tryz.func84 (by kernel_rfl) rfl #[.slice A29 y371.length c29] rfl Ag ?_; (with_reducible refine (ih k3 (by have := HJ3.out; have := HJ9.out; have := HK3.out; omega) _ _ y371 t375 t376 _ ?side1 ?side2 A27.out).mono ?_); (case side1 => exact rC (Kd.C_below HR374.out HB.out)); (case side2 => exact HC374.out); rintro e w30 ⟨rfl, hb⟩; refine ⟨_, rfl, ?_⟩; have n0_ := Aside0.mk (bb BK370.out hb); have n1_ := Aside0.mk (below_step By hb); clear BK370; clear HB; have BK370 := n0_; have HB := n1_; clear n0_ n1_; (try clear hb); (try clear hb2); (try clear hk); (try clear hi)))
                              go_ret2
                              exact ⟨Rf, By⟩
                            · rw [if_neg c28] at H
                              have c28b0 : (t375 == 0) = false := beq_eq_false_iff_ne.mpr c28
                              have c28b1 : (t375 != 0) = true := bne_iff_ne.mpr c28
                              obtain ⟨ji31, hji31⟩ : ∃ j_ : Int, (mx x6_3 t376) = j_ := ⟨_, rfl⟩
                              replace H : (impl_depthOf.l0 k3 l0 (wrap64 (x5_3 + t375)) ji31 ((rd_T87 l0 0).f3) (wrap64 (x51_3 + 1))) = some (r1, r2) := by first | (rw [hji31] at H; exact H) | (simp only [hji31] at H ⊢; exact H)
                              (try rw [hji31] at A27)
                              have hji31_ : (if x6_3 < t376 then t376 else x6_3) = ji31 := hji31
                              have H' := Aside0.mk H
                              clear H
                              have q32 : (x5_3 : Int) ≤ ((l0.length : Int) : Int) := of_decide_eq_true Da
                              obtain ⟨i032, hi032, _, hsz32, _⟩ := info_parts info87
                              have hroom32 : l0.length ≤ c0 := HC0.out
                              have hC32 : Kd.C k87 _ (some ad369) l0.length l0 := HR0.out
                              have q032 : (0 : Int) ≤ (x5_3 : Int) := of_decide_eq_true Da
                              have hcut32 := cut_from (P := Tryz.prog) 48 87 .i64 Tryz.underlying48 hi032 4 hsz32 (some ad369) l0.length c0 x5_3 q032 q32
                              have hr32 := Kd.C_drop (m := (x5_3 : Int).toNat) (c := c0) hC32 (by omega) hroom32
                              obtain ⟨A32, hA32⟩ : ∃ A1, A1 = (if c0 = (x5_3 : Int).toNat then (some ad369) else ((some ad369) : Option Addr).map (·.add ((x5_3 : Int).toNat * 4))) := ⟨_, rfl⟩
                              obtain ⟨c32, hc32⟩ : ∃ c1, c1 = c0 - (x5_3 : Int).toNat := ⟨_, rfl⟩
                              have hy32 : y371.length = l0.length - (x5_3 : Int).toNat := (by rw [Ny371.out, List.length_drop] <;> omega)
                              rw [show (l0).drop (x5_3 : Int).toNat = y371 from Ny371.out.symm] at hr32
                              replace hr32 : Kd.C k87 _ A32 y371.length y371 := (by rw [hA32]; exact hr32)
                              rw [← hy32, ← hA32, ← hc32] at hcut32
                              have HR374 := Aside0.mk hr32
                              have HC374 := Aside0.mk (show y371.length ≤ c32 from by rw [hy32, hc32]; exact Nat.sub_le_sub_right hroom32 _)
                              clear hr32 hC32 hroom32 hi032 hsz32 hc32
                              have KY32 := Aside0.mk hy32
                              have KA32 := Aside0.mk hA32
                              clear hy32 hA32
                              replace q32 := eq_true q32
                              go_wp2_with (first | ((with_reducible refine gate_callee (f := 84) rfl ?_); refine goesL_ (some 57) rfl rfl Tryz.func84 (by kernel_rfl) rfl #[.slice A32 y371.length c32] rfl Ag ?_; (with_reducible refine (ih k3 (by have := HJ3.out; have := HJ9.out; have := HK3.out; omega) _ _ y371 t375 t376 _ ?side1 ?side2 A27.out).mono ?_); (case side1 => exact rC (Kd.C_below HR374.out HB.out)); (case side2 => exact HC374.out); rintro e w33 ⟨rfl, hb⟩; refine ⟨_, rfl, ?_⟩; have n0_ := Aside0.mk (bb BK370.out hb); have n1_ := Aside0.mk (below_step By hb); clear BK370; clear HB; have BK370 := n0_; have HB := n1_; clear n0_ n1_; (try clear hb); (try clear hb2); (try clear hk); (try clear hi)))
                              go_roundg k3
                              case measure => have := HJ3.out; have := HJ9.out; have := HK3.out; omega
                              case rel => exact ⟨(wrap64 (x5_3 + t375)), (ji31), (wrap64 (x51_3 + 1)), (by first | rfl | (simp; done) | (simp [*]; done)), (by first | rfl | (simp; done) | (simp only [← hji31] <;> (first | rfl | simp)) | (simp [*]; done)), (by first | rfl | (simp; done) | (simp [*]; done)), H', ⟨by have := HJ3.out; have := HJ9.out; have := HK3.out; omega⟩, ⟨by (with_reducible repeat (first | refine blk_drewN ?_ _ | refine blk_drew ?_ | refine blk_alloc ?_ _)); exact BK370.out⟩, ⟨By⟩⟩
                          · rw [if_neg c26] at H
                            exact absurd H (by simp)
                        · rw [if_neg c25] at H
                          exact absurd H (by simp)
                      · rw [if_neg c24] at H
                        have c24b0 : decide (x51_3 < ((rd_T87 l0 0).f3)) = false := decide_eq_false c24
                        clear c24
                        simp only [Option.some.injEq, Prod.mk.injEq] at H
                        obtain ⟨rfl, rfl⟩ := H
                        go_wp2
                        go_ret2
                        exact ⟨Rf, By⟩
          · replace c9 := Bool.eq_false_iff.mpr c9
            subst c9
            have H1 : (if ((rd_T87 l0 0).f0) = 5 then (if ((rd_T87 l0 0).f2).toList = ([] : List UInt8) then (if ((rd_T87 l0 0).f3) = 0 then ((impl_NameRight.f ((rd_T87 l0 0).f1)).bind fun t377 => (if t377 = true then (some (1, 1)) else (some (0, 0)))) else (some (0, 0))) else (some (0, 0))) else (if ((rd_T87 l0 0).f0) = 4 then (impl_depthOf.j3 kj3 (((rd_T87 l0 0).f0) == 4) ((rd_T87 l0 0).f0) ((rd_T87 l0 0).f1) ((rd_T87 l0 0).f2) ((rd_T87 l0 0).f3)) else (if ((rd_T87 l0 0).f0) = 6 then (impl_depthOf.j3 kj3 (((rd_T87 l0 0).f0) == 6) ((rd_T87 l0 0).f0) ((rd_T87 l0 0).f1) ((rd_T87 l0 0).f2) ((rd_T87 l0 0).f3)) else (if ((rd_T87 l0 0).f0) = 7 then (impl_depthOf.j3 kj3 (((rd_T87 l0 0).f0) == 7) ((rd_T87 l0 0).f0) ((rd_T87 l0 0).f1) ((rd_T87 l0 0).f2) ((rd_T87 l0 0).f3)) else (impl_depthOf.j3 kj3 (((rd_T87 l0 0).f0) == 8) ((rd_T87 l0 0).f0) ((rd_T87 l0 0).f1) ((rd_T87 l0 0).f2) ((rd_T87 l0 0).f3)))))) = some (r1, r2) := by rw [if_neg (show ¬ (false = true) by decide)] at H; exact H
            clear H
            have H := H1
            clear H1
            by_cases c34 : ((rd_T87 l0 0).f0) = 5
            · rw [if_pos c34] at H
              have c34b0 : (((rd_T87 l0 0).f0) == 5) = true := beq_iff_eq.mpr c34
              have c34b1 : (((rd_T87 l0 0).f0) != 5) = false := bne_eq_false_iff_eq.mpr c34
              clear c34
              by_cases c35 : ((rd_T87 l0 0).f2).toList = ([] : List UInt8)
              · rw [if_pos c35] at H
                have c35b0 : (((rd_T87 l0 0).f2).toList == ([] : List UInt8)) = true := beq_iff_eq.mpr c35
                have c35b1 : (((rd_T87 l0 0).f2).toList != ([] : List UInt8)) = false := bne_eq_false_iff_eq.mpr c35
                clear c35
                by_cases c36 : ((rd_T87 l0 0).f3) = 0
                · rw [if_pos c36] at H
                  have c36b0 : (((rd_T87 l0 0).f3) == 0) = true := beq_iff_eq.mpr c36
                  have c36b1 : (((rd_T87 l0 0).f3) != 0) = false := bne_eq_false_iff_eq.mpr c36
                  clear c36
                  replace H := Option.bind_eq_some_iff.mp H
                  obtain ⟨t377, A370, H⟩ := H
                  replace H : (if t377 = true then (some (1, 1)) else (some (0, 0))) = some (r1, r2) := H
                  have A37 := Aside0.mk A370
                  clear A370
                  by_cases c38 : t377 = true
                  · subst c38
                    have H1 : (some (1, 1)) = some (r1, r2) := by rw [if_pos rfl] at H; exact H
                    clear H
                    have H := H1
                    clear H1
                    simp only [Option.some.injEq, Prod.mk.injEq] at H
                    obtain ⟨rfl, rfl⟩ := H
                    have hcz39_0 : wc.cell? ⟨gb370, 0, none⟩ = some (.int .i64 ((rd_T87 l0 0).f0)) := bc BK370.out 0
                    have hcz39_1 : wc.cell? ⟨gb370, 1, none⟩ = some (.string ((rd_T87 l0 0).f1)) := bc BK370.out 1
                    have hcz39_2 : wc.cell? ⟨gb370, 2, none⟩ = some (.string ((rd_T87 l0 0).f2)) := bc BK370.out 2
                    have hcz39_3 : wc.cell? ⟨gb370, 3, none⟩ = some (.int .i64 ((rd_T87 l0 0).f3)) := bc BK370.out 3
                    have hfz39_0 := blk_frozen BK370.out 0
                    have hfz39_1 := blk_frozen BK370.out 1
                    have hfz39_2 := blk_frozen BK370.out 2
                    have hfz39_3 := blk_frozen BK370.out 3
                    go_wp2_with (first | (go_at_call 85; (with_reducible refine (impl_NameRight.calls ((rd_T87 l0 0).f1) true _ A37.out).mono ?_); rintro e w40 ⟨rfl, hb⟩; have n0_ := Aside0.mk (bb BK370.out hb); have n1_ := Aside0.mk (below_step By hb); clear BK370; clear HB; have BK370 := n0_; have HB := n1_; clear n0_ n1_; (try clear hb); (try clear hb2); (try clear hk); (try clear hi)))
                    go_ret2
                    exact ⟨Rf, By⟩
                  · replace c38 := Bool.eq_false_iff.mpr c38
                    subst c38
                    have H1 : (some (0, 0)) = some (r1, r2) := by rw [if_neg (show ¬ (false = true) by decide)] at H; exact H
                    clear H
                    have H := H1
                    clear H1
                    simp only [Option.some.injEq, Prod.mk.injEq] at H
                    obtain ⟨rfl, rfl⟩ := H
                    have hcz41_0 : wc.cell? ⟨gb370, 0, none⟩ = some (.int .i64 ((rd_T87 l0 0).f0)) := bc BK370.out 0
                    have hcz41_1 : wc.cell? ⟨gb370, 1, none⟩ = some (.string ((rd_T87 l0 0).f1)) := bc BK370.out 1
                    have hcz41_2 : wc.cell? ⟨gb370, 2, none⟩ = some (.string ((rd_T87 l0 0).f2)) := bc BK370.out 2
                    have hcz41_3 : wc.cell? ⟨gb370, 3, none⟩ = some (.int .i64 ((rd_T87 l0 0).f3)) := bc BK370.out 3
                    have hfz41_0 := blk_frozen BK370.out 0
                    have hfz41_1 := blk_frozen BK370.out 1
                    have hfz41_2 := blk_frozen BK370.out 2
                    have hfz41_3 := blk_frozen BK370.out 3
                    go_wp2_with (first | (go_at_call 85; (with_reducible refine (impl_NameRight.calls ((rd_T87 l0 0).f1) false _ A37.out).mono ?_); rintro e w42 ⟨rfl, hb⟩; have n0_ := Aside0.mk (bb BK370.out hb); have n1_ := Aside0.mk (below_step By hb); clear BK370; clear HB; have BK370 := n0_; have HB := n1_; clear n0_ n1_; (try clear hb); (try clear hb2); (try clear hk); (try clear hi)))
                    go_ret2
                    exact ⟨Rf, By⟩
                · rw [if_neg c36] at H
                  have c36b0 : (((rd_T87 l0 0).f3) == 0) = false := beq_eq_false_iff_ne.mpr c36
                  have c36b1 : (((rd_T87 l0 0).f3) != 0) = true := bne_iff_ne.mpr c36
                  simp only [Option.some.injEq, Prod.mk.injEq] at H
                  obtain ⟨rfl, rfl⟩ := H
                  have hcz43_0 : wc.cell? ⟨gb370, 0, none⟩ = some (.int .i64 ((rd_T87 l0 0).f0)) := bc BK370.out 0
                  have hcz43_1 : wc.cell? ⟨gb370, 1, none⟩ = some (.string ((rd_T87 l0 0).f1)) := bc BK370.out 1
                  have hcz43_2 : wc.cell? ⟨gb370, 2, none⟩ = some (.string ((rd_T87 l0 0).f2)) := bc BK370.out 2
                  have hcz43_3 : wc.cell? ⟨gb370, 3, none⟩ = some (.int .i64 ((rd_T87 l0 0).f3)) := bc BK370.out 3
                  have hfz43_0 := blk_frozen BK370.out 0
                  have hfz43_1 := blk_frozen BK370.out 1
                  have hfz43_2 := blk_frozen BK370.out 2
                  have hfz43_3 := blk_frozen BK370.out 3
                  go_wp2
                  go_ret2
                  exact ⟨Rf, By⟩
              · rw [if_neg c35] at H
                have c35b0 : (((rd_T87 l0 0).f2).toList == ([] : List UInt8)) = false := beq_eq_false_iff_ne.mpr c35
                have c35b1 : (((rd_T87 l0 0).f2).toList != ([] : List UInt8)) = true := bne_iff_ne.mpr c35
                simp only [Option.some.injEq, Prod.mk.injEq] at H
                obtain ⟨rfl, rfl⟩ := H
                have hcz44_0 : wc.cell? ⟨gb370, 0, none⟩ = some (.int .i64 ((rd_T87 l0 0).f0)) := bc BK370.out 0
                have hcz44_1 : wc.cell? ⟨gb370, 1, none⟩ = some (.string ((rd_T87 l0 0).f1)) := bc BK370.out 1
                have hcz44_2 : wc.cell? ⟨gb370, 2, none⟩ = some (.string ((rd_T87 l0 0).f2)) := bc BK370.out 2
                have hcz44_3 : wc.cell? ⟨gb370, 3, none⟩ = some (.int .i64 ((rd_T87 l0 0).f3)) := bc BK370.out 3
                have hfz44_0 := blk_frozen BK370.out 0
                have hfz44_1 := blk_frozen BK370.out 1
                have hfz44_2 := blk_frozen BK370.out 2
                have hfz44_3 := blk_frozen BK370.out 3
                go_wp2
                go_ret2
                exact ⟨Rf, By⟩
            · rw [if_neg c34] at H
              have c34b0 : (((rd_T87 l0 0).f0) == 5) = false := beq_eq_false_iff_ne.mpr c34
              have c34b1 : (((rd_T87 l0 0).f0) != 5) = true := bne_iff_ne.mpr c34
              have HC45 := Aside0.mk H
              clear H
              go_upto_if 77 with (fail)
              go_cut [77] (fun v77 wc => ∃ (kq : Nat) (x77_44 : Bool), v77 = .bool x77_44 ∧ Aside0 (impl_depthOf.j3 kq x77_44 ((rd_T87 l0 0).f0) ((rd_T87 l0 0).f1) ((rd_T87 l0 0).f2) ((rd_T87 l0 0).f3) = some (r1, r2)) ∧ Aside0 (kq ≤ kj3) ∧ Aside0 (wc.heap[gb370]? = some (.cells #[.int .i64 ((rd_T87 l0 0).f0), .string ((rd_T87 l0 0).f1), .string ((rd_T87 l0 0).f2), .int .i64 ((rd_T87 l0 0).f3)] 87 (0, 0))) ∧ Aside0 (Below w.heap.size w wc))
              case first =>
                have H := HC45.out
                clear HC45
                by_cases c46 : ((rd_T87 l0 0).f0) = 4
                · rw [if_pos c46] at H
                  have c46b0 : (((rd_T87 l0 0).f0) == 4) = true := beq_iff_eq.mpr c46
                  have c46b1 : (((rd_T87 l0 0).f0) != 4) = false := bne_eq_false_iff_eq.mpr c46
                  clear c46
                  (first | rw [c46b0] | (simp only [i64_w, i32_w]; rw [c46b0]) | skip)
                  have H' := Aside0.mk H
                  clear H
                  go_wp2
                  go_meet
                  case rel => exact ⟨_, ((((rd_T87 l0 0).f0) == 4)), (by first | rfl | (simp; done) | (simp [*]; done)), H', ⟨by have := HJ3.out; first | omega | exact Nat.le_refl _⟩, ⟨by (with_reducible repeat (first | refine blk_drewN ?_ _ | refine blk_drew ?_ | refine blk_alloc ?_ _)); exact BK370.out⟩, ⟨By⟩⟩
                · rw [if_neg c46] at H
                  have c46b0 : (((rd_T87 l0 0).f0) == 4) = false := beq_eq_false_iff_ne.mpr c46
                  have c46b1 : (((rd_T87 l0 0).f0) != 4) = true := bne_iff_ne.mpr c46
                  (first | rw [c46b0] | (simp only [i64_w, i32_w]; rw [c46b0]) | skip)
                  by_cases c47 : ((rd_T87 l0 0).f0) = 6
                  · rw [if_pos c47] at H
                    have c47b0 : (((rd_T87 l0 0).f0) == 6) = true := beq_iff_eq.mpr c47
                    have c47b1 : (((rd_T87 l0 0).f0) != 6) = false := bne_eq_false_iff_eq.mpr c47
                    clear c47
                    have H' := Aside0.mk H
                    clear H
                    go_wp2
                    go_meet
                    case rel => exact ⟨_, ((((rd_T87 l0 0).f0) == 6)), (by first | rfl | (simp; done) | (simp [*]; done)), H', ⟨by have := HJ3.out; first | omega | exact Nat.le_refl _⟩, ⟨by (with_reducible repeat (first | refine blk_drewN ?_ _ | refine blk_drew ?_ | refine blk_alloc ?_ _)); exact BK370.out⟩, ⟨By⟩⟩
                  · rw [if_neg c47] at H
                    have c47b0 : (((rd_T87 l0 0).f0) == 6) = false := beq_eq_false_iff_ne.mpr c47
                    have c47b1 : (((rd_T87 l0 0).f0) != 6) = true := bne_iff_ne.mpr c47
                    by_cases c48 : ((rd_T87 l0 0).f0) = 7
                    · rw [if_pos c48] at H
                      have c48b0 : (((rd_T87 l0 0).f0) == 7) = true := beq_iff_eq.mpr c48
                      have c48b1 : (((rd_T87 l0 0).f0) != 7) = false := bne_eq_false_iff_eq.mpr c48
                      clear c48
                      have H' := Aside0.mk H
                      clear H
                      go_wp2
                      go_meet
                      case rel => exact ⟨_, ((((rd_T87 l0 0).f0) == 7)), (by first | rfl | (simp; done) | (simp [*]; done)), H', ⟨by have := HJ3.out; first | omega | exact Nat.le_refl _⟩, ⟨by (with_reducible repeat (first | refine blk_drewN ?_ _ | refine blk_drew ?_ | refine blk_alloc ?_ _)); exact BK370.out⟩, ⟨By⟩⟩
                    · rw [if_neg c48] at H
                      have c48b0 : (((rd_T87 l0 0).f0) == 7) = false := beq_eq_false_iff_ne.mpr c48
                      have c48b1 : (((rd_T87 l0 0).f0) != 7) = true := bne_iff_ne.mpr c48
                      have H' := Aside0.mk H
                      clear H
                      go_wp2
                      go_meet
                      case rel => exact ⟨_, ((((rd_T87 l0 0).f0) == 8)), (by first | rfl | (simp; done) | (simp [*]; done)), H', ⟨by have := HJ3.out; first | omega | exact Nat.le_refl _⟩, ⟨by (with_reducible repeat (first | refine blk_drewN ?_ _ | refine blk_drew ?_ | refine blk_alloc ?_ _)); exact BK370.out⟩, ⟨By⟩⟩
              case rest =>
                clear HC45
                try clear c1
                try clear c2
                try clear c2b0
                try clear c2b1
                try clear c2b2
                try clear p2
                try clear q2
                try clear c3
                try clear c3b0
                try clear c3b1
                try clear p3
                try clear q3
                try clear hx3
                try clear qi3
                try clear c4
                try clear p6
                try clear c7
                try clear c7b0
                try clear c7b1
                try clear c8
                try clear c8b0
                try clear c8b1
                try clear c9
                try clear c11
                try clear c11b0
                try clear c11b1
                try clear c12
                try clear c12b0
                try clear c12b1
                try clear c13
                try clear c13b0
                try clear c15
                try clear c15b0
                try clear c15b1
                try clear c16
                try clear c16b0
                try clear c16b1
                try clear c22
                try clear c24
                try clear c24b0
                try clear c25
                try clear c25b0
                try clear c25b1
                try clear c26
                try clear c26b0
                try clear c26b1
                try clear c28
                try clear c28b0
                try clear c28b1
                try clear c29
                try clear q29
                try clear c32
                try clear q32
                try clear c34
                try clear c34b0
                try clear c34b1
                try clear c35
                try clear c35b0
                try clear c35b1
                try clear c36
                try clear c36b0
                try clear c36b1
                try clear p36
                try clear q36
                try clear hx36
                try clear c38
                try clear c46
                try clear c46b0
                try clear c46b1
                try clear c47
                try clear c47b0
                try clear c47b1
                try clear c48
                try clear c48b0
                try clear c48b1
                try clear hcz14_0
                try clear hcz14_1
                try clear hcz14_2
                try clear hcz14_3
                try clear hcz17_0
                try clear hcz17_1
                try clear hcz17_2
                try clear hcz17_3
                try clear hcz18_0
                try clear hcz18_1
                try clear hcz18_2
                try clear hcz18_3
                try clear hcz19_0
                try clear hcz19_1
                try clear hcz19_2
                try clear hcz19_3
                try clear hcz20_0
                try clear hcz20_1
                try clear hcz20_2
                try clear hcz20_3
                try clear hcz21_0
                try clear hcz21_1
                try clear hcz21_2
                try clear hcz21_3
                try clear hcz23_0
                try clear hcz23_1
                try clear hcz23_2
                try clear hcz23_3
                try clear hcz39_0
                try clear hcz39_1
                try clear hcz39_2
                try clear hcz39_3
                try clear hcz41_0
                try clear hcz41_1
                try clear hcz41_2
                try clear hcz41_3
                try clear hcz43_0
                try clear hcz43_1
                try clear hcz43_2
                try clear hcz43_3
                try clear hcz44_0
                try clear hcz44_1
                try clear hcz44_2
                try clear hcz44_3
                try clear hcz6_0
                try clear hcz6_1
                try clear hcz6_2
                try clear hcz6_3
                try clear hfz14_0
                try clear hfz14_1
                try clear hfz14_2
                try clear hfz14_3
                try clear hfz17_0
                try clear hfz17_1
                try clear hfz17_2
                try clear hfz17_3
                try clear hfz18_0
                try clear hfz18_1
                try clear hfz18_2
                try clear hfz18_3
                try clear hfz19_0
                try clear hfz19_1
                try clear hfz19_2
                try clear hfz19_3
                try clear hfz20_0
                try clear hfz20_1
                try clear hfz20_2
                try clear hfz20_3
                try clear hfz21_0
                try clear hfz21_1
                try clear hfz21_2
                try clear hfz21_3
                try clear hfz23_0
                try clear hfz23_1
                try clear hfz23_2
                try clear hfz23_3
                try clear hfz39_0
                try clear hfz39_1
                try clear hfz39_2
                try clear hfz39_3
                try clear hfz41_0
                try clear hfz41_1
                try clear hfz41_2
                try clear hfz41_3
                try clear hfz43_0
                try clear hfz43_1
                try clear hfz43_2
                try clear hfz43_3
                try clear hfz44_0
                try clear hfz44_1
                try clear hfz44_2
                try clear hfz44_3
                try clear hfz6_0
                try clear hfz6_1
                try clear hfz6_2
                try clear hfz6_3
                try clear hx369_0
                try clear hx369_1
                try clear hx369_2
                try clear hx369_3
                try clear p2
                try clear p3
                try clear p369
                try clear q029
                try clear q032
                try clear q29
                try clear q3
                try clear q32
                try clear q369
                obtain ⟨kq, x77_44, rfl, HA, HJ44, BK370, HB⟩ := hcut
                cases kq with
                | zero => exact absurd HA.out (by simp [impl_depthOf.j3])
                | succ kj44 =>
                  have H := HA.out
                  clear HA
                  simp only [impl_depthOf.j3] at H
                  by_cases c49 : x77_44 = true
                  · subst c49
                    have H1 : ((impl_isProper.f kj44 ((rd_T87 l0 0).f2)).bind fun t378 => (if t378 = true then (if ((rd_T87 l0 0).f3) = 0 then ((impl_NameRight.f ((rd_T87 l0 0).f1)).bind fun t379 => (if t379 = true then (some (1, 1)) else (some (0, 0)))) else (some (0, 0))) else (some (0, 0)))) = some (r1, r2) := by rw [if_pos rfl] at H; exact H
                    clear H
                    have H := H1
                    clear H1
                    replace H := Option.bind_eq_some_iff.mp H
                    obtain ⟨t378, A500, H⟩ := H
                    replace H : (if t378 = true then (if ((rd_T87 l0 0).f3) = 0 then ((impl_NameRight.f ((rd_T87 l0 0).f1)).bind fun t379 => (if t379 = true then (some (1, 1)) else (some (0, 0)))) else (some (0, 0))) else (some (0, 0))) = some (r1, r2) := H
                    have A50 := Aside0.mk A500
                    clear A500
                    by_cases c51 : t378 = true
                    · subst c51
                      have H1 : (if ((rd_T87 l0 0).f3) = 0 then ((impl_NameRight.f ((rd_T87 l0 0).f1)).bind fun t379 => (if t379 = true then (some (1, 1)) else (some (0, 0)))) else (some (0, 0))) = some (r1, r2) := by rw [if_pos rfl] at H; exact H
                      clear H
                      have H := H1
                      clear H1
                      by_cases c52 : ((rd_T87 l0 0).f3) = 0
                      · rw [if_pos c52] at H
                        have c52b0 : (((rd_T87 l0 0).f3) == 0) = true := beq_iff_eq.mpr c52
                        have c52b1 : (((rd_T87 l0 0).f3) != 0) = false := bne_eq_false_iff_eq.mpr c52
                        clear c52
                        replace H := Option.bind_eq_some_iff.mp H
                        obtain ⟨t379, A530, H⟩ := H
                        replace H : (if t379 = true then (some (1, 1)) else (some (0, 0))) = some (r1, r2) := H
                        have A53 := Aside0.mk A530
                        clear A530
                        by_cases c54 : t379 = true
                        · subst c54
                          have H1 : (some (1, 1)) = some (r1, r2) := by rw [if_pos rfl] at H; exact H
                          clear H
                          have H := H1
                          clear H1
                          simp only [Option.some.injEq, Prod.mk.injEq] at H
                          obtain ⟨rfl, rfl⟩ := H
                          have hcz55_0 : wc.cell? ⟨gb370, 0, none⟩ = some (.int .i64 ((rd_T87 l0 0).f0)) := bc BK370.out 0
                          have hcz55_1 : wc.cell? ⟨gb370, 1, none⟩ = some (.string ((rd_T87 l0 0).f1)) := bc BK370.out 1
                          have hcz55_2 : wc.cell? ⟨gb370, 2, none⟩ = some (.string ((rd_T87 l0 0).f2)) := bc BK370.out 2
                          have hcz55_3 : wc.cell? ⟨gb370, 3, none⟩ = some (.int .i64 ((rd_T87 l0 0).f3)) := bc BK370.out 3
                          have hfz55_0 := blk_frozen BK370.out 0
                          have hfz55_1 := blk_frozen BK370.out 1
                          have hfz55_2 := blk_frozen BK370.out 2
                          have hfz55_3 := blk_frozen BK370.out 3
                          go_wp2_with (first | ((with_reducible refine gate_callee (f := 113) rfl ?_); refine goesL_ (some 84) rfl rfl Tryz.func113 (by kernel_rfl) rfl #[.string ((rd_T87 l0 0).f2)] rfl Ag ?_; (with_reducible refine (impl_isProper.calls kj44 ((rd_T87 l0 0).f2) true _ A50.out).mono ?_); rintro e w56 ⟨rfl, hb⟩; refine ⟨_, rfl, ?_⟩; have n0_ := Aside0.mk (bb BK370.out hb); have n1_ := Aside0.mk (below_step By hb); clear BK370; clear HB; have BK370 := n0_; have HB := n1_; clear n0_ n1_; (try clear hb); (try clear hb2); (try clear hk); (try clear hi); have ⟨hcz57_0, hcz57_1, hcz57_2, hcz57_3⟩ := cq4 BK370.out; have ⟨hfz57_0, hfz57_1, hfz57_2, hfz57_3⟩ := fq4 BK370.out) | (go_at_call 85; (with_reducible refine (impl_NameRight.calls ((rd_T87 l0 0).f1) true _ A53.out).mono ?_); rintro e w58 ⟨rfl, hb⟩; have n0_ := Aside0.mk (bb BK370.out hb); have n1_ := Aside0.mk (below_step By hb); clear BK370; clear HB; have BK370 := n0_; have HB := n1_; clear n0_ n1_; (try clear hb); (try clear hb2); (try clear hk); (try clear hi)))
                          go_ret2
                          exact ⟨Rf, By⟩
                        · replace c54 := Bool.eq_false_iff.mpr c54
                          subst c54
                          have H1 : (some (0, 0)) = some (r1, r2) := by rw [if_neg (show ¬ (false = true) by decide)] at H; exact H
                          clear H
                          have H := H1
                          clear H1
                          simp only [Option.some.injEq, Prod.mk.injEq] at H
                          obtain ⟨rfl, rfl⟩ := H
                          have hcz59_0 : wc.cell? ⟨gb370, 0, none⟩ = some (.int .i64 ((rd_T87 l0 0).f0)) := bc BK370.out 0
                          have hcz59_1 : wc.cell? ⟨gb370, 1, none⟩ = some (.string ((rd_T87 l0 0).f1)) := bc BK370.out 1
                          have hcz59_2 : wc.cell? ⟨gb370, 2, none⟩ = some (.string ((rd_T87 l0 0).f2)) := bc BK370.out 2
                          have hcz59_3 : wc.cell? ⟨gb370, 3, none⟩ = some (.int .i64 ((rd_T87 l0 0).f3)) := bc BK370.out 3
                          have hfz59_0 := blk_frozen BK370.out 0
                          have hfz59_1 := blk_frozen BK370.out 1
                          have hfz59_2 := blk_frozen BK370.out 2
                          have hfz59_3 := blk_frozen BK370.out 3
                          go_wp2_with (first | ((with_reducible refine gate_callee (f := 113) rfl ?_); refine goesL_ (some 84) rfl rfl Tryz.func113 (by kernel_rfl) rfl #[.string ((rd_T87 l0 0).f2)] rfl Ag ?_; (with_reducible refine (impl_isProper.calls kj44 ((rd_T87 l0 0).f2) true _ A50.out).mono ?_); rintro e w60 ⟨rfl, hb⟩; refine ⟨_, rfl, ?_⟩; have n0_ := Aside0.mk (bb BK370.out hb); have n1_ := Aside0.mk (below_step By hb); clear BK370; clear HB; have BK370 := n0_; have HB := n1_; clear n0_ n1_; (try clear hb); (try clear hb2); (try clear hk); (try clear hi); have ⟨hcz61_0, hcz61_1, hcz61_2, hcz61_3⟩ := cq4 BK370.out; have ⟨hfz61_0, hfz61_1, hfz61_2, hfz61_3⟩ := fq4 BK370.out) | (go_at_call 85; (with_reducible refine (impl_NameRight.calls ((rd_T87 l0 0).f1) false _ A53.out).mono ?_); rintro e w62 ⟨rfl, hb⟩; have n0_ := Aside0.mk (bb BK370.out hb); have n1_ := Aside0.mk (below_step By hb); clear BK370; clear HB; have BK370 := n0_; have HB := n1_; clear n0_ n1_; (try clear hb); (try clear hb2); (try clear hk); (try clear hi)))
                          go_ret2
                          exact ⟨Rf, By⟩
                      · rw [if_neg c52] at H
                        have c52b0 : (((rd_T87 l0 0).f3) == 0) = false := beq_eq_false_iff_ne.mpr c52
                        have c52b1 : (((rd_T87 l0 0).f3) != 0) = true := bne_iff_ne.mpr c52
                        simp only [Option.some.injEq, Prod.mk.injEq] at H
                        obtain ⟨rfl, rfl⟩ := H
                        have hcz63_0 : wc.cell? ⟨gb370, 0, none⟩ = some (.int .i64 ((rd_T87 l0 0).f0)) := bc BK370.out 0
                        have hcz63_1 : wc.cell? ⟨gb370, 1, none⟩ = some (.string ((rd_T87 l0 0).f1)) := bc BK370.out 1
                        have hcz63_2 : wc.cell? ⟨gb370, 2, none⟩ = some (.string ((rd_T87 l0 0).f2)) := bc BK370.out 2
                        have hcz63_3 : wc.cell? ⟨gb370, 3, none⟩ = some (.int .i64 ((rd_T87 l0 0).f3)) := bc BK370.out 3
                        have hfz63_0 := blk_frozen BK370.out 0
                        have hfz63_1 := blk_frozen BK370.out 1
                        have hfz63_2 := blk_frozen BK370.out 2
                        have hfz63_3 := blk_frozen BK370.out 3
                        go_wp2_with (first | ((with_reducible refine gate_callee (f := 113) rfl ?_); refine goesL_ (some 84) rfl rfl Tryz.func113 (by kernel_rfl) rfl #[.string ((rd_T87 l0 0).f2)] rfl Ag ?_; (with_reducible refine (impl_isProper.calls kj44 ((rd_T87 l0 0).f2) true _ A50.out).mono ?_); rintro e w64 ⟨rfl, hb⟩; refine ⟨_, rfl, ?_⟩; have n0_ := Aside0.mk (bb BK370.out hb); have n1_ := Aside0.mk (below_step By hb); clear BK370; clear HB; have BK370 := n0_; have HB := n1_; clear n0_ n1_; (try clear hb); (try clear hb2); (try clear hk); (try clear hi); have ⟨hcz65_0, hcz65_1, hcz65_2, hcz65_3⟩ := cq4 BK370.out; have ⟨hfz65_0, hfz65_1, hfz65_2, hfz65_3⟩ := fq4 BK370.out))
                        go_ret2
                        exact ⟨Rf, By⟩
                    · replace c51 := Bool.eq_false_iff.mpr c51
                      subst c51
                      have H1 : (some (0, 0)) = some (r1, r2) := by rw [if_neg (show ¬ (false = true) by decide)] at H; exact H
                      clear H
                      have H := H1
                      clear H1
                      simp only [Option.some.injEq, Prod.mk.injEq] at H
                      obtain ⟨rfl, rfl⟩ := H
                      have hcz66_0 : wc.cell? ⟨gb370, 0, none⟩ = some (.int .i64 ((rd_T87 l0 0).f0)) := bc BK370.out 0
                      have hcz66_1 : wc.cell? ⟨gb370, 1, none⟩ = some (.string ((rd_T87 l0 0).f1)) := bc BK370.out 1
                      have hcz66_2 : wc.cell? ⟨gb370, 2, none⟩ = some (.string ((rd_T87 l0 0).f2)) := bc BK370.out 2
                      have hcz66_3 : wc.cell? ⟨gb370, 3, none⟩ = some (.int .i64 ((rd_T87 l0 0).f3)) := bc BK370.out 3
                      have hfz66_0 := blk_frozen BK370.out 0
                      have hfz66_1 := blk_frozen BK370.out 1
                      have hfz66_2 := blk_frozen BK370.out 2
                      have hfz66_3 := blk_frozen BK370.out 3
                      go_wp2_with (first | ((with_reducible refine gate_callee (f := 113) rfl ?_); refine goesL_ (some 84) rfl rfl Tryz.func113 (by kernel_rfl) rfl #[.string ((rd_T87 l0 0).f2)] rfl Ag ?_; (with_reducible refine (impl_isProper.calls kj44 ((rd_T87 l0 0).f2) false _ A50.out).mono ?_); rintro e w67 ⟨rfl, hb⟩; refine ⟨_, rfl, ?_⟩; have n0_ := Aside0.mk (bb BK370.out hb); have n1_ := Aside0.mk (below_step By hb); clear BK370; clear HB; have BK370 := n0_; have HB := n1_; clear n0_ n1_; (try clear hb); (try clear hb2); (try clear hk); (try clear hi)))
                      go_ret2
                      exact ⟨Rf, By⟩
                  · replace c49 := Bool.eq_false_iff.mpr c49
                    subst c49
                    have H1 : (some (0, 0)) = some (r1, r2) := by rw [if_neg (show ¬ (false = true) by decide)] at H; exact H
                    clear H
                    have H := H1
                    clear H1
                    simp only [Option.some.injEq, Prod.mk.injEq] at H
                    obtain ⟨rfl, rfl⟩ := H
                    go_wp2
                    go_ret2
                    exact ⟨Rf, By⟩
    · rw [if_neg c3] at H
      exact absurd H (by simp)

set_option linter.unusedVariables false
set_option linter.unusedSimpArgs false

/-! ### impl_FilterRight: function 51 -/
def impl_FilterRight.f (k : Nat) (l0 : List (S87)) : Option (Bool) := if (l0.length : Int) > 20 then (some false) else ((impl_depthOf.f k l0).bind fun bt380 => (if bt380.1 > 0 then (if bt380.1 = (l0.length : Int) then (some (decide (bt380.2 ≤ 5))) else (some false)) else (some false)))
theorem impl_FilterRight.mono : ∀ a0 k, LeO (impl_FilterRight.f k a0) (impl_FilterRight.f (k + 1) a0) := by
  intro a0 k
  unfold impl_FilterRight.f
  repeat' first
      | (with_reducible exact impl_depthOf.mono _ _)
      | (with_reducible exact LeO.refl _)
      | (with_reducible exact LeO.none _)
      | (with_reducible refine LeO.ite ?_ ?_)
      | (with_reducible refine LeO.bind ?_ (fun _ => ?_))
      | exact impl_depthOf.mono _ _
      | exact LeO.none _
      | refine LeO.ite ?_ ?_
      | refine LeO.bind ?_ (fun _ => ?_)
set_option maxHeartbeats 8000000 in
set_option maxRecDepth 100000 in
theorem impl_FilterRight.calls (k : Nat) (A0 : Option Addr) (c0 : Nat) (l0 : List (S87)) (r : Bool) (w : World) (hr0 : Kd.C k87 w A0 l0.length l0) (hc0 : l0.length ≤ c0) (h : impl_FilterRight.f k l0 = some r) :
    Calls Tryz.prog 51 #[.slice A0 l0.length c0] w fun e w' => e = .returned (.bool r) ∧ Below w.heap.size w w' := by
  have HR0 := Aside0.mk hr0
  have HC0 := Aside0.mk hc0
  clear hr0 hc0
  have HB := Aside0.mk (Below.refl w.heap.size w)
  have H : (if (l0.length : Int) > 20 then (some false) else ((impl_depthOf.f k l0).bind fun bt380 => (if bt380.1 > 0 then (if bt380.1 = (l0.length : Int) then (some (decide (bt380.2 ≤ 5))) else (some false)) else (some false)))) = some r := h
  clear h
  by_cases c2 : (l0.length : Int) > 20
  · rw [if_pos c2] at H
    have c2b0 : decide (20 < (l0.length : Int)) = true := decide_eq_true c2
    have c2b1 : decide (20 < l0.length) = true := decide_eq_true (by omega)
    clear c2
    obtain rfl := Option.some.inj H
    go_enter Tryz.func51, Tryz.ntmps51
    go_wp2
    go_ret
    exact ⟨Rf, By⟩
  · rw [if_neg c2] at H
    have c2b0 : decide (20 < (l0.length : Int)) = false := decide_eq_false c2
    have c2b1 : decide (20 < l0.length) = false := decide_eq_false (by omega)
    clear c2
    replace H := Option.bind_eq_some_iff.mp H
    obtain ⟨⟨t380, t381⟩, A30, H⟩ := H
    replace H : (if t380 > 0 then (if t380 = (l0.length : Int) then (some (decide (t381 ≤ 5))) else (some false)) else (some false)) = some r := H
    have A3 := Aside0.mk A30
    clear A30
    by_cases c4 : t380 > 0
    · rw [if_pos c4] at H
      have c4b0 : decide (0 < t380) = true := decide_eq_true c4
      clear c4
      by_cases c5 : t380 = (l0.length : Int)
      · rw [if_pos c5] at H
        have c5b0 : (t380 == (l0.length : Int)) = true := beq_iff_eq.mpr c5
        have c5b1 : (t380 != (l0.length : Int)) = false := bne_eq_false_iff_eq.mpr c5
        clear c5
        obtain rfl := Option.some.inj H
        go_enter Tryz.func51, Tryz.ntmps51
        go_wp2_with (first | ((with_reducible refine gate_callee (f := 84) rfl ?_); refine goesL_ (some 10) rfl rfl Tryz.func84 (by kernel_rfl) rfl #[.slice A0 l0.length c0] rfl Ag ?_; (with_reducible refine (impl_depthOf.calls k _ _ l0 t380 t381 _ ?side1 ?side2 A3.out).mono ?_); (case side1 => repeat (first | exact HR0.out | (with_reducible refine Kd.C_alloc ?_ _) | (with_reducible refine Kd.C_drewN ?_ _) | (with_reducible refine Kd.C_drew ?_))); (case side2 => exact HC0.out); rintro e w6 ⟨rfl, hb⟩; refine ⟨_, rfl, ?_⟩; have n0_ := Aside0.mk (below_step By hb); clear HB; have HB := n0_; clear n0_; (try clear hb); (try clear hb2); (try clear hk); (try clear hi)))
        go_ret
        exact ⟨Rf, By⟩
      · rw [if_neg c5] at H
        have c5b0 : (t380 == (l0.length : Int)) = false := beq_eq_false_iff_ne.mpr c5
        have c5b1 : (t380 != (l0.length : Int)) = true := bne_iff_ne.mpr c5
        obtain rfl := Option.some.inj H
        go_enter Tryz.func51, Tryz.ntmps51
        go_wp2_with (first | ((with_reducible refine gate_callee (f := 84) rfl ?_); refine goesL_ (some 10) rfl rfl Tryz.func84 (by kernel_rfl) rfl #[.slice A0 l0.length c0] rfl Ag ?_; (with_reducible refine (impl_depthOf.calls k _ _ l0 t380 t381 _ ?side1 ?side2 A3.out).mono ?_); (case side1 => repeat (first | exact HR0.out | (with_reducible refine Kd.C_alloc ?_ _) | (with_reducible refine Kd.C_drewN ?_ _) | (with_reducible refine Kd.C_drew ?_))); (case side2 => exact HC0.out); rintro e w7 ⟨rfl, hb⟩; refine ⟨_, rfl, ?_⟩; have n0_ := Aside0.mk (below_step By hb); clear HB; have HB := n0_; clear n0_; (try clear hb); (try clear hb2); (try clear hk); (try clear hi)))
        go_ret
        exact ⟨Rf, By⟩
    · rw [if_neg c4] at H
      have c4b0 : decide (0 < t380) = false := decide_eq_false c4
      clear c4
      obtain rfl := Option.some.inj H
      go_enter Tryz.func51, Tryz.ntmps51
      go_wp2_with (first | ((with_reducible refine gate_callee (f := 84) rfl ?_); refine goesL_ (some 10) rfl rfl Tryz.func84 (by kernel_rfl) rfl #[.slice A0 l0.length c0] rfl Ag ?_; (with_reducible refine (impl_depthOf.calls k _ _ l0 t380 t381 _ ?side1 ?side2 A3.out).mono ?_); (case side1 => repeat (first | exact HR0.out | (with_reducible refine Kd.C_alloc ?_ _) | (with_reducible refine Kd.C_drewN ?_ _) | (with_reducible refine Kd.C_drew ?_))); (case side2 => exact HC0.out); rintro e w8 ⟨rfl, hb⟩; refine ⟨_, rfl, ?_⟩; have n0_ := Aside0.mk (below_step By hb); clear HB; have HB := n0_; clear n0_; (try clear hb); (try clear hb2); (try clear hk); (try clear hi)))
      go_ret
      exact ⟨Rf, By⟩

set_option linter.unusedVariables false
set_option linter.unusedSimpArgs false

/-! ### impl_areNames: function 52 -/
def impl_areNames.l0 : Nat → List ByteArray → List ByteArray → Int → Int → Option (Bool)
  | 0, _, _, _, _ => none
  | k + 1, x0, x5, x6, x7 => if x7 < x6 then (if 0 ≤ x7 then (if x7 < (x5.length : Int) then ((impl_NameRight.f (rdOf ByteArray.empty x5 x7)).bind fun t383 => (if t383 = true then (if x7 > 0 then (if 0 ≤ (wrap64 (x7 - 1)) then (if (wrap64 (x7 - 1)) < (x0.length : Int) then (if ((Op.bytesLess ((rdOf ByteArray.empty x0 (wrap64 (x7 - 1))).toList) ((rdOf ByteArray.empty x5 x7).toList)) = true) then (impl_areNames.l0 k x0 x5 x6 (wrap64 (x7 + 1))) else (some false)) else (none)) else (none)) else (impl_areNames.l0 k x0 x5 x6 (wrap64 (x7 + 1)))) else (some false))) else (none)) else (none)) else (some true)
def impl_areNames.f (k : Nat) (l0 : List ByteArray) : Option (Bool) := impl_areNames.l0 k l0 l0 (l0.length : Int) 0
theorem impl_areNames.mono_l : ∀ k, (∀ y0 y1 y2 y3, LeO (impl_areNames.l0 k y0 y1 y2 y3) (impl_areNames.l0 (k + 1) y0 y1 y2 y3))
  | 0 => fun _ _ _ _ r h => by simp [impl_areNames.l0] at h
  | k + 1 => by
    have ih0 := impl_areNames.mono_l k
    · intro y0 y1 y2 y3
      unfold impl_areNames.l0
      repeat' first
      | (with_reducible exact ih0 _ _ _ _)
      | (with_reducible exact LeO.refl _)
      | (with_reducible exact LeO.none _)
      | (with_reducible refine LeO.ite ?_ ?_)
      | (with_reducible refine LeO.bind ?_ (fun _ => ?_))
      | exact ih0 _ _ _ _
      | exact LeO.none _
      | refine LeO.ite ?_ ?_
      | refine LeO.bind ?_ (fun _ => ?_)
theorem impl_areNames.mono : ∀ a0 k, LeO (impl_areNames.f k a0) (impl_areNames.f (k + 1) a0) := by
  intro a0 k
  have ih0 := impl_areNames.mono_l k
  unfold impl_areNames.f
  repeat' first
      | (with_reducible exact ih0 _ _ _ _)
      | (with_reducible exact LeO.refl _)
      | (with_reducible exact LeO.none _)
      | (with_reducible refine LeO.ite ?_ ?_)
      | (with_reducible refine LeO.bind ?_ (fun _ => ?_))
      | exact ih0 _ _ _ _
      | exact LeO.none _
      | refine LeO.ite ?_ ?_
      | refine LeO.bind ?_ (fun _ => ?_)
set_option maxHeartbeats 8000000 in
set_option maxRecDepth 100000 in
theorem impl_areNames.calls (k : Nat) (A0 : Option Addr) (c0 : Nat) (l0 : List ByteArray) (r : Bool) (w : World) (hr0 : Kd.C Kd.string w A0 l0.length l0) (hc0 : l0.length ≤ c0) (h : impl_areNames.f k l0 = some r) :
    Calls Tryz.prog 52 #[.slice A0 l0.length c0] w fun e w' => e = .returned (.bool r) ∧ Below w.heap.size w w' := by
  have HR0 := Aside0.mk hr0
  have HC0 := Aside0.mk hc0
  clear hr0 hc0
  have HB := Aside0.mk (Below.refl w.heap.size w)
  have H : (impl_areNames.l0 k l0 l0 (l0.length : Int) 0) = some r := h
  clear h
  have H' := Aside0.mk H
  clear H
  go_enter Tryz.func52, Tryz.ntmps52
  go_wp2
  go_loopg [7] k (fun kq v7 w' => ∃ (x7_1 : Int), v7 = .int .i64 x7_1 ∧ Aside0 (impl_areNames.l0 kq l0 l0 (l0.length : Int) x7_1 = some r) ∧ Aside0 (kq ≤ k) ∧ Aside0 (Below w.heap.size w w'))
  case atStart => exact ⟨(0), (by first | rfl | (simp; done) | (simp [*]; done)), H', ⟨Nat.le_refl _⟩, ⟨By⟩⟩
  case round =>
    clear H'
    obtain ⟨x7_1, rfl, HA, HK1, HB⟩ := hrel
    cases gk with
    | zero => exact absurd HA.out (by simp [impl_areNames.l0])
    | succ k1 =>
      have H := HA.out
      clear HA
      simp only [impl_areNames.l0] at H
      by_cases c2 : x7_1 < (l0.length : Int)
      · rw [if_pos c2] at H
        have c2b0 : decide (x7_1 < (l0.length : Int)) = true := decide_eq_true c2
        clear c2
        by_cases c3 : 0 ≤ x7_1
        · rw [if_pos c3] at H
          have c3b0 : decide (0 ≤ x7_1) = true := decide_eq_true c3
          clear c3
          by_cases c4 : x7_1 < (l0.length : Int)
          · rw [if_pos c4] at H
            have c4b0 : decide (x7_1 < (l0.length : Int)) = true := decide_eq_true c4
            clear c4
            replace H := Option.bind_eq_some_iff.mp H
            obtain ⟨t383, A50, H⟩ := H
            replace H : (if t383 = true then (if x7_1 > 0 then (if 0 ≤ (wrap64 (x7_1 - 1)) then (if (wrap64 (x7_1 - 1)) < (l0.length : Int) then (if ((Op.bytesLess ((rdOf ByteArray.empty l0 (wrap64 (x7_1 - 1))).toList) ((rdOf ByteArray.empty l0 x7_1).toList)) = true) then (impl_areNames.l0 k1 l0 l0 (l0.length : Int) (wrap64 (x7_1 + 1))) else (some false)) else (none)) else (none)) else (impl_areNames.l0 k1 l0 l0 (l0.length : Int) (wrap64 (x7_1 + 1)))) else (some false)) = some r := H
            have A5 := Aside0.mk A50
            clear A50
            by_cases c6 : t383 = true
            · subst c6
              have H1 : (if x7_1 > 0 then (if 0 ≤ (wrap64 (x7_1 - 1)) then (if (wrap64 (x7_1 - 1)) < (l0.length : Int) then (if ((Op.bytesLess ((rdOf ByteArray.empty l0 (wrap64 (x7_1 - 1))).toList) ((rdOf ByteArray.empty l0 x7_1).toList)) = true) then (impl_areNames.l0 k1 l0 l0 (l0.length : Int) (wrap64 (x7_1 + 1))) else (some false)) else (none)) else (none)) else (impl_areNames.l0 k1 l0 l0 (l0.length : Int) (wrap64 (x7_1 + 1)))) = some r := by rw [if_pos rfl] at H; exact H
              clear H
              have H := H1
              clear H1
              by_cases c7 : x7_1 > 0
              · rw [if_pos c7] at H
                have c7b0 : decide (0 < x7_1) = true := decide_eq_true c7
                clear c7
                obtain ⟨ji8, hji8⟩ : ∃ j_ : Int, (wrap64 (x7_1 - 1)) = j_ := ⟨_, rfl⟩
                replace H : (if 0 ≤ (ji8) then (if (ji8) < (l0.length : Int) then (if ((Op.bytesLess ((rdOf ByteArray.empty l0 (ji8)).toList) ((rdOf ByteArray.empty l0 x7_1).toList)) = true) then (impl_areNames.l0 k1 l0 l0 (l0.length : Int) (wrap64 (x7_1 + 1))) else (some false)) else (none)) else (none)) = some r := by first | (rw [hji8] at H; exact H) | (simp only [hji8] at H ⊢; exact H)
                (try rw [hji8] at A5)
                have hji8w : (IntKind.i64.wrap (x7_1 - 1)) = ji8 := (i64_w _).trans hji8
                by_cases c9 : 0 ≤ (ji8)
                · rw [if_pos c9] at H
                  have c9b0 : decide (0 ≤ (ji8)) = true := decide_eq_true c9
                  clear c9
                  by_cases c10 : (ji8) < (l0.length : Int)
                  · rw [if_pos c10] at H
                    have c10b0 : decide ((ji8) < (l0.length : Int)) = true := decide_eq_true c10
                    clear c10
                    by_cases c11 : ((Op.bytesLess ((rdOf ByteArray.empty l0 (ji8)).toList) ((rdOf ByteArray.empty l0 x7_1).toList)) = true)
                    · rw [if_pos c11] at H
                      have c11b0 : (Op.bytesLess ((rdOf ByteArray.empty l0 (ji8)).toList) ((rdOf ByteArray.empty l0 x7_1).toList)) = true := c11
                      clear c11
                      have H' := Aside0.mk H
                      clear H
                      have p382 : 0 ≤ (x7_1 : Int) := of_decide_eq_true Da
                      have q382 : x7_1 < (l0.length : Int) := of_decide_eq_true Da
                      obtain ⟨ad382, e382, hx382_0⟩ := Kd.at_string HR0.out x7_1 p382 q382
                      cases e382
                      replace hx382_0 := bz HB.out hx382_0
                      replace p382 := eq_true p382
                      replace q382 := eq_true q382
                      go_wp2_with (first | ((with_reducible refine gate_callee (f := 85) rfl ?_); refine goesL_ (some 13) rfl rfl Tryz.func85 (by kernel_rfl) rfl #[.string (rdOf ByteArray.empty l0 x7_1)] rfl Ag ?_; (with_reducible refine (impl_NameRight.calls (rdOf ByteArray.empty l0 x7_1) true _ A5.out).mono ?_); rintro e w12 ⟨rfl, hb⟩; refine ⟨_, rfl, ?_⟩; have n0_ := Aside0.mk (below_step By hb); clear HB; have HB := n0_; clear n0_; (try clear hb); (try clear hb2); (try clear hk); (try clear hi); have p384 : 0 ≤ ((ji8) : Int) := of_decide_eq_true Da; have q384 : (ji8) < (l0.length : Int) := of_decide_eq_true Da; obtain ⟨ad384, e384, hx384_0⟩ := Kd.at_string HR0.out (ji8) p384 q384; obtain rfl : ad382 = ad384 := (by injection e384); replace hx384_0 := bz HB.out hx384_0; replace p384 := eq_true p384; replace q384 := eq_true q384))
                      go_roundg k1
                      case measure => have := HK1.out; omega
                      case rel => exact ⟨(wrap64 (x7_1 + 1)), (by first | rfl | (simp; done) | (simp [*]; done)), H', ⟨by have := HK1.out; omega⟩, ⟨By⟩⟩
                    · rw [if_neg c11] at H
                      have c11b0 : (Op.bytesLess ((rdOf ByteArray.empty l0 (ji8)).toList) ((rdOf ByteArray.empty l0 x7_1).toList)) = false := by simpa using c11
                      clear c11
                      obtain rfl := Option.some.inj H
                      have p382 : 0 ≤ (x7_1 : Int) := of_decide_eq_true Da
                      have q382 : x7_1 < (l0.length : Int) := of_decide_eq_true Da
                      obtain ⟨ad382, e382, hx382_0⟩ := Kd.at_string HR0.out x7_1 p382 q382
                      cases e382
                      replace hx382_0 := bz HB.out hx382_0
                      replace p382 := eq_true p382
                      replace q382 := eq_true q382
                      go_wp2_with (first | ((with_reducible refine gate_callee (f := 85) rfl ?_); refine goesL_ (some 13) rfl rfl Tryz.func85 (by kernel_rfl) rfl #[.string (rdOf ByteArray.empty l0 x7_1)] rfl Ag ?_; (with_reducible refine (impl_NameRight.calls (rdOf ByteArray.empty l0 x7_1) true _ A5.out).mono ?_); rintro e w13 ⟨rfl, hb⟩; refine ⟨_, rfl, ?_⟩; have n0_ := Aside0.mk (below_step By hb); clear HB; have HB := n0_; clear n0_; (try clear hb); (try clear hb2); (try clear hk); (try clear hi); have p384 : 0 ≤ ((ji8) : Int) := of_decide_eq_true Da; have q384 : (ji8) < (l0.length : Int) := of_decide_eq_true Da; obtain ⟨ad384, e384, hx384_0⟩ := Kd.at_string HR0.out (ji8) p384 q384; obtain rfl : ad382 = ad384 := (by injection e384); replace hx384_0 := bz HB.out hx384_0; replace p384 := eq_true p384; replace q384 := eq_true q384))
                      go_ret
                      exact ⟨by first | rfl | (simp [errW_none, errW_some] <;> rfl) | (simp only [← hji8]; first | rfl | (simp [errW_none, errW_some] <;> rfl)) | (simp [*, errW_none, errW_some] <;> first | rfl | (rw [Bool.eq_iff_iff]; simp)), By⟩
                  · rw [if_neg c10] at H
                    exact absurd H (by simp)
                · rw [if_neg c9] at H
                  exact absurd H (by simp)
              · rw [if_neg c7] at H
                have c7b0 : decide (0 < x7_1) = false := decide_eq_false c7
                clear c7
                have H' := Aside0.mk H
                clear H
                have p382 : 0 ≤ (x7_1 : Int) := of_decide_eq_true Da
                have q382 : x7_1 < (l0.length : Int) := of_decide_eq_true Da
                obtain ⟨ad382, e382, hx382_0⟩ := Kd.at_string HR0.out x7_1 p382 q382
                cases e382
                replace hx382_0 := bz HB.out hx382_0
                replace p382 := eq_true p382
                replace q382 := eq_true q382
                go_wp2_with (first | ((with_reducible refine gate_callee (f := 85) rfl ?_); refine goesL_ (some 13) rfl rfl Tryz.func85 (by kernel_rfl) rfl #[.string (rdOf ByteArray.empty l0 x7_1)] rfl Ag ?_; (with_reducible refine (impl_NameRight.calls (rdOf ByteArray.empty l0 x7_1) true _ A5.out).mono ?_); rintro e w14 ⟨rfl, hb⟩; refine ⟨_, rfl, ?_⟩; have n0_ := Aside0.mk (below_step By hb); clear HB; have HB := n0_; clear n0_; (try clear hb); (try clear hb2); (try clear hk); (try clear hi)))
                go_roundg k1
                case measure => have := HK1.out; omega
                case rel => exact ⟨(wrap64 (x7_1 + 1)), (by first | rfl | (simp; done) | (simp [*]; done)), H', ⟨by have := HK1.out; omega⟩, ⟨By⟩⟩
            · replace c6 := Bool.eq_false_iff.mpr c6
              subst c6
              have H1 : (some false) = some r := by rw [if_neg (show ¬ (false = true) by decide)] at H; exact H
              clear H
              have H := H1
              clear H1
              obtain rfl := Option.some.inj H
              have p382 : 0 ≤ (x7_1 : Int) := of_decide_eq_true Da
              have q382 : x7_1 < (l0.length : Int) := of_decide_eq_true Da
              obtain ⟨ad382, e382, hx382_0⟩ := Kd.at_string HR0.out x7_1 p382 q382
              cases e382
              replace hx382_0 := bz HB.out hx382_0
              replace p382 := eq_true p382
              replace q382 := eq_true q382
              go_wp2_with (first | ((with_reducible refine gate_callee (f := 85) rfl ?_); refine goesL_ (some 13) rfl rfl Tryz.func85 (by kernel_rfl) rfl #[.string (rdOf ByteArray.empty l0 x7_1)] rfl Ag ?_; (with_reducible refine (impl_NameRight.calls (rdOf ByteArray.empty l0 x7_1) false _ A5.out).mono ?_); rintro e w15 ⟨rfl, hb⟩; refine ⟨_, rfl, ?_⟩; have n0_ := Aside0.mk (below_step By hb); clear HB; have HB := n0_; clear n0_; (try clear hb); (try clear hb2); (try clear hk); (try clear hi)))
              go_ret
              exact ⟨Rf, By⟩
          · rw [if_neg c4] at H
            exact absurd H (by simp)
        · rw [if_neg c3] at H
          exact absurd H (by simp)
      · rw [if_neg c2] at H
        have c2b0 : decide (x7_1 < (l0.length : Int)) = false := decide_eq_false c2
        clear c2
        obtain rfl := Option.some.inj H
        go_wp2
        go_ret
        exact ⟨Rf, By⟩

end Go.Proofs.YtpocoeghobdfiaaGreatDoor.PG
