/-
  Functions that the law reaches, each as a plain Lean function, with the proof that the call comes to it (written by a program of this session by way of the kit's print program). Conditions: what each contract states.
-/
import Derived.Laws.Cover1
import Derived.Test.YtpocoeghobdfiaaGreatDoorFEP1
import Derived.Test.YtpocoeghobdfiaaGreatDoorFESq
import Derived.Test.YtpocoeghobdfiaaGreatDoorFEGen
namespace Go.Proofs.YtpocoeghobdfiaaGreatDoor.PG
open Go.Proofs.YtpocoeghobdfiaaGreatDoor.Sq Go.RowKit Go.Proofs.YtpocoeghobdfiaaGreatDoorW.PrintWords Go.Proofs.YtpocoeghobdfiaaGreatDoorW.PrintLast Go.Proofs.YtpocoeghobdfiaaGreatDoorW.PrintMore
attribute [local go_sem] max2_int min2_int max_two min_two max_three min_three max_four min_four   -- for this text's walks alone
set_option linter.unusedVariables false
set_option linter.unusedSimpArgs false

/-! ### spec_l04End: function 77 -/
mutual
def spec_l04End.j0 : Nat → List (S87) → Int → Int → Bool → Option (Int)
  | 0, _, _, _, _ => none
  | k + 1, x0, x1, x2, x23 => if x23 = true then (some (-1)) else (if 0 ≤ x1 then (if x1 < (x0.length : Int) then (spec_l04End.l0 k x0 (wrap64 (x1 + 1)) x2 ((rd_T87 x0 x1).f3)) else (none)) else (none))
def spec_l04End.l0 : Nat → List (S87) → Int → Int → Int → Option (Int)
  | 0, _, _, _, _ => none
  | k + 1, x0, x1, x2, x7 => if x7 > 0 then (if x1 ≥ 0 then ((spec_l04End.f k x0 x1 (wrap64 (x2 + 1))).bind fun t223 => (spec_l04End.l0 k x0 t223 x2 (wrap64 (x7 - 1)))) else (some x1)) else (some x1)
def spec_l04End.f : Nat → List (S87) → Int → Int → Option (Int)
  | 0, _, _, _ => none
  | k + 1, l0, a1, a2 => if a1 ≥ (l0.length : Int) then (spec_l04End.j0 k l0 a1 a2 true) else (if a2 > 5 then (spec_l04End.j0 k l0 a1 a2 true) else (if 0 ≤ a1 then (if a1 < (l0.length : Int) then ((spec_l04Node.f k ((rd_T87 l0 a1).f0) ((rd_T87 l0 a1).f1) ((rd_T87 l0 a1).f2) ((rd_T87 l0 a1).f3)).bind fun t221 => (spec_l04End.j0 k l0 a1 a2 (!t221))) else (none)) else (none)))
end
theorem spec_l04End.mono_l : ∀ k, (∀ y0 y1 y2, LeO (spec_l04End.f k y0 y1 y2) (spec_l04End.f (k + 1) y0 y1 y2)) ∧ (∀ y0 y1 y2 y3, LeO (spec_l04End.j0 k y0 y1 y2 y3) (spec_l04End.j0 (k + 1) y0 y1 y2 y3)) ∧ (∀ y0 y1 y2 y3, LeO (spec_l04End.l0 k y0 y1 y2 y3) (spec_l04End.l0 (k + 1) y0 y1 y2 y3))
  | 0 => ⟨fun _ _ _ r h => by simp [spec_l04End.f] at h, fun _ _ _ _ r h => by simp [spec_l04End.j0] at h, fun _ _ _ _ r h => by simp [spec_l04End.l0] at h⟩
  | k + 1 => by
    obtain ⟨ih0, ih1, ih2⟩ := spec_l04End.mono_l k
    refine ⟨?_, ?_, ?_⟩
    · intro y0 y1 y2
      unfold spec_l04End.f
      repeat' first
      | (with_reducible exact ih0 _ _ _)
      | (with_reducible exact ih1 _ _ _ _)
      | (with_reducible exact ih2 _ _ _ _)
      | (with_reducible exact spec_l04Node.mono _ _ _ _ _)
      | (with_reducible exact LeO.refl _)
      | (with_reducible exact LeO.none _)
      | (with_reducible refine LeO.ite ?_ ?_)
      | (with_reducible refine LeO.bind ?_ (fun _ => ?_))
      | exact ih0 _ _ _
      | exact ih1 _ _ _ _
      | exact ih2 _ _ _ _
      | exact spec_l04Node.mono _ _ _ _ _
      | exact LeO.none _
      | refine LeO.ite ?_ ?_
      | refine LeO.bind ?_ (fun _ => ?_)
    · intro y0 y1 y2 y3
      unfold spec_l04End.j0
      repeat' first
      | (with_reducible exact ih0 _ _ _)
      | (with_reducible exact ih1 _ _ _ _)
      | (with_reducible exact ih2 _ _ _ _)
      | (with_reducible exact spec_l04Node.mono _ _ _ _ _)
      | (with_reducible exact LeO.refl _)
      | (with_reducible exact LeO.none _)
      | (with_reducible refine LeO.ite ?_ ?_)
      | (with_reducible refine LeO.bind ?_ (fun _ => ?_))
      | exact ih0 _ _ _
      | exact ih1 _ _ _ _
      | exact ih2 _ _ _ _
      | exact spec_l04Node.mono _ _ _ _ _
      | exact LeO.none _
      | refine LeO.ite ?_ ?_
      | refine LeO.bind ?_ (fun _ => ?_)
    · intro y0 y1 y2 y3
      unfold spec_l04End.l0
      repeat' first
      | (with_reducible exact ih0 _ _ _)
      | (with_reducible exact ih1 _ _ _ _)
      | (with_reducible exact ih2 _ _ _ _)
      | (with_reducible exact spec_l04Node.mono _ _ _ _ _)
      | (with_reducible exact LeO.refl _)
      | (with_reducible exact LeO.none _)
      | (with_reducible refine LeO.ite ?_ ?_)
      | (with_reducible refine LeO.bind ?_ (fun _ => ?_))
      | exact ih0 _ _ _
      | exact ih1 _ _ _ _
      | exact ih2 _ _ _ _
      | exact spec_l04Node.mono _ _ _ _ _
      | exact LeO.none _
      | refine LeO.ite ?_ ?_
      | refine LeO.bind ?_ (fun _ => ?_)
theorem spec_l04End.mono : ∀ a0 a1 a2 k, LeO (spec_l04End.f k a0 a1 a2) (spec_l04End.f (k + 1) a0 a1 a2) := by
  intro a0 a1 a2 k
  obtain ⟨ih0, ih1, ih2⟩ := spec_l04End.mono_l k
  exact ih0 a0 a1 a2
set_option maxHeartbeats 8000000 in
set_option maxRecDepth 100000 in
theorem spec_l04End.calls (k : Nat) : ∀ (A0 : Option Addr) (c0 : Nat) (l0 : List (S87)) (a1 : Int) (a2 : Int) (r : Int) (w : World) (hr0 : Kd.C k87 w A0 l0.length l0) (hc0 : l0.length ≤ c0) (h : spec_l04End.f k l0 a1 a2 = some r),
    Calls Tryz.prog 77 #[.slice A0 l0.length c0, .int .i64 a1, .int .i64 a2] w fun e w' => e = .returned (.int .i64 r) ∧ Below w.heap.size w w' := by
  induction k using Nat.strongRecOn with
  | _ k ih =>
  intro A0 c0 l0 a1 a2 r w hr0 hc0 h
  cases k with
  | zero => exact absurd h (by simp [spec_l04End.f])
  | succ k =>
  simp only [spec_l04End.f] at h
  have hu87 := Tryz.underlying87
  have HR0 := Aside0.mk hr0
  have HC0 := Aside0.mk hc0
  clear hr0 hc0
  have HB := Aside0.mk (Below.refl w.heap.size w)
  have H : (if a1 ≥ (l0.length : Int) then (spec_l04End.j0 k l0 a1 a2 true) else (if a2 > 5 then (spec_l04End.j0 k l0 a1 a2 true) else (if 0 ≤ a1 then (if a1 < (l0.length : Int) then ((spec_l04Node.f k ((rd_T87 l0 a1).f0) ((rd_T87 l0 a1).f1) ((rd_T87 l0 a1).f2) ((rd_T87 l0 a1).f3)).bind fun t221 => (spec_l04End.j0 k l0 a1 a2 (!t221))) else (none)) else (none)))) = some r := h
  clear h
  have HC4 := Aside0.mk H
  clear H
  go_enter Tryz.func77, Tryz.ntmps77
  go_upto_region 1 with (fail)
  go_cut [23] (fun v23 wc => ∃ (kq : Nat) (x23_3 : Bool), v23 = .bool x23_3 ∧ Aside0 (spec_l04End.j0 kq l0 a1 a2 x23_3 = some r) ∧ Aside0 (kq ≤ k) ∧ Aside0 (Below w.heap.size w wc))
  case first =>
    have H := HC4.out
    clear HC4
    by_cases c5 : a1 ≥ (l0.length : Int)
    · rw [if_pos c5] at H
      have c5b0 : decide ((l0.length : Int) ≤ a1) = true := decide_eq_true c5
      clear c5
      (first | rw [c5b0] | (simp only [i64_w, i32_w]; rw [c5b0]) | skip)
      have H' := Aside0.mk H
      clear H
      go_wp2
      go_meet
      case rel => exact ⟨_, (true), (by first | rfl | (simp; done) | (simp [*]; done)), H', ⟨by first | omega | exact Nat.le_refl _⟩, ⟨By⟩⟩
    · rw [if_neg c5] at H
      have c5b0 : decide ((l0.length : Int) ≤ a1) = false := decide_eq_false c5
      clear c5
      (first | rw [c5b0] | (simp only [i64_w, i32_w]; rw [c5b0]) | skip)
      by_cases c6 : a2 > 5
      · rw [if_pos c6] at H
        have c6b0 : decide (5 < a2) = true := decide_eq_true c6
        clear c6
        have H' := Aside0.mk H
        clear H
        go_wp2
        go_meet
        case rel => exact ⟨_, (true), (by first | rfl | (simp; done) | (simp [*]; done)), H', ⟨by first | omega | exact Nat.le_refl _⟩, ⟨By⟩⟩
      · rw [if_neg c6] at H
        have c6b0 : decide (5 < a2) = false := decide_eq_false c6
        clear c6
        by_cases c7 : 0 ≤ a1
        · rw [if_pos c7] at H
          have c7b0 : decide (0 ≤ a1) = true := decide_eq_true c7
          clear c7
          by_cases c8 : a1 < (l0.length : Int)
          · rw [if_pos c8] at H
            have c8b0 : decide (a1 < (l0.length : Int)) = true := decide_eq_true c8
            clear c8
            replace H := Option.bind_eq_some_iff.mp H
            obtain ⟨t221, A90, H⟩ := H
            replace H : (spec_l04End.j0 k l0 a1 a2 (!t221)) = some r := H
            have A9 := Aside0.mk A90
            clear A90
            have H' := Aside0.mk H
            clear H
            have p220 : 0 ≤ (a1 : Int) := of_decide_eq_true Da
            have q220 : a1 < (l0.length : Int) := of_decide_eq_true Da
            obtain ⟨ad220, e220, hx220_0, hx220_1, hx220_2, hx220_3⟩ := at_T87 HR0.out a1 p220 q220
            cases e220
            replace hx220_0 := bz HB.out hx220_0
            replace hx220_1 := bz HB.out hx220_1
            replace hx220_2 := bz HB.out hx220_2
            replace hx220_3 := bz HB.out hx220_3
            replace p220 := eq_true p220
            replace q220 := eq_true q220
            go_wp2_with (first | (go_at_call 117; (with_reducible refine (spec_l04Node.calls k ((rd_T87 l0 a1).f0) ((rd_T87 l0 a1).f1) ((rd_T87 l0 a1).f2) ((rd_T87 l0 a1).f3) t221 _ A9.out).mono ?_); rintro e w10 ⟨rfl, hb⟩; have n0_ := Aside0.mk (below_step By hb); clear HB; have HB := n0_; clear n0_; (try clear hb); (try clear hb2); (try clear hk); (try clear hi)))
            go_meet
            case rel => exact ⟨_, (!t221), (by first | rfl | (simp; done) | (simp [*]; done)), H', ⟨by first | omega | exact Nat.le_refl _⟩, ⟨By⟩⟩
          · rw [if_neg c8] at H
            exact absurd H (by simp)
        · rw [if_neg c7] at H
          exact absurd H (by simp)
  case rest =>
    clear HC4
    try clear p2
    try clear q2
    try clear hx2
    try clear c5
    try clear c5b0
    try clear c6
    try clear c6b0
    try clear c7
    try clear c7b0
    try clear c8
    try clear c8b0
    try clear hx220_0
    try clear hx220_1
    try clear hx220_2
    try clear hx220_3
    try clear p220
    try clear q220
    obtain ⟨kq, x23_3, rfl, HA, HJ3, HB⟩ := hcut
    cases kq with
    | zero => exact absurd HA.out (by simp [spec_l04End.j0])
    | succ kj3 =>
      have H := HA.out
      clear HA
      simp only [spec_l04End.j0] at H
      by_cases c11 : x23_3 = true
      · subst c11
        have H1 : (some (-1)) = some r := by rw [if_pos rfl] at H; exact H
        clear H
        have H := H1
        clear H1
        obtain rfl := Option.some.inj H
        go_wp2
        go_ret
        exact ⟨Rf, By⟩
      · replace c11 := Bool.eq_false_iff.mpr c11
        subst c11
        have H1 : (if 0 ≤ a1 then (if a1 < (l0.length : Int) then (spec_l04End.l0 kj3 l0 (wrap64 (a1 + 1)) a2 ((rd_T87 l0 a1).f3)) else (none)) else (none)) = some r := by rw [if_neg (show ¬ (false = true) by decide)] at H; exact H
        clear H
        have H := H1
        clear H1
        by_cases c12 : 0 ≤ a1
        · rw [if_pos c12] at H
          have c12b0 : decide (0 ≤ a1) = true := decide_eq_true c12
          clear c12
          by_cases c13 : a1 < (l0.length : Int)
          · rw [if_pos c13] at H
            have c13b0 : decide (a1 < (l0.length : Int)) = true := decide_eq_true c13
            clear c13
            have H' := Aside0.mk H
            clear H
            have p222 : 0 ≤ (a1 : Int) := of_decide_eq_true Da
            have q222 : a1 < (l0.length : Int) := of_decide_eq_true Da
            obtain ⟨ad222, e222, hx222_0, hx222_1, hx222_2, hx222_3⟩ := at_T87 HR0.out a1 p222 q222
            cases e222
            replace hx222_0 := bz HB.out hx222_0
            replace hx222_1 := bz HB.out hx222_1
            replace hx222_2 := bz HB.out hx222_2
            replace hx222_3 := bz HB.out hx222_3
            replace p222 := eq_true p222
            replace q222 := eq_true q222
            go_wp2
            go_loopg [1, 7] kj3 (fun kq v1 v7 w' => ∃ (x1_2 : Int) (x7_2 : Int), v1 = .int .i64 x1_2 ∧ v7 = .int .i64 x7_2 ∧ Aside0 (spec_l04End.l0 kq l0 x1_2 a2 x7_2 = some r) ∧ Aside0 (kq ≤ kj3) ∧ Aside0 (Below w.heap.size w w'))
            case atStart => exact ⟨(wrap64 (a1 + 1)), ((rd_T87 l0 a1).f3), (by first | rfl | (simp; done) | (simp [*]; done)), (by first | rfl | (simp; done) | (simp [*]; done)), H', ⟨Nat.le_refl _⟩, ⟨By⟩⟩
            case round =>
              clear H'
              try clear c1
              try clear p2
              try clear q2
              try clear hx2
              try clear c5
              try clear c5b0
              try clear c6
              try clear c6b0
              try clear p6
              try clear c7
              try clear c7b0
              try clear c8
              try clear c8b0
              try clear c11
              try clear c12
              try clear c12b0
              try clear c13
              try clear c13b0
              try clear hx220_0
              try clear hx220_1
              try clear hx220_2
              try clear hx220_3
              try clear hx222_0
              try clear hx222_1
              try clear hx222_2
              try clear hx222_3
              try clear p2
              try clear p220
              try clear p222
              try clear q2
              try clear q220
              try clear q222
              obtain ⟨x1_2, x7_2, rfl, rfl, HA, HK2, HB⟩ := hrel
              cases gk with
              | zero => exact absurd HA.out (by simp [spec_l04End.l0])
              | succ k2 =>
                have H := HA.out
                clear HA
                simp only [spec_l04End.l0] at H
                by_cases c14 : x7_2 > 0
                · rw [if_pos c14] at H
                  have c14b0 : decide (0 < x7_2) = true := decide_eq_true c14
                  clear c14
                  by_cases c15 : x1_2 ≥ 0
                  · rw [if_pos c15] at H
                    have c15b0 : decide (0 ≤ x1_2) = true := decide_eq_true c15
                    clear c15
                    replace H := Option.bind_eq_some_iff.mp H
                    obtain ⟨t223, A160, H⟩ := H
                    replace H : (spec_l04End.l0 k2 l0 t223 a2 (wrap64 (x7_2 - 1))) = some r := H
                    have A16 := Aside0.mk A160
                    clear A160
                    have H' := Aside0.mk H
                    clear H
                    go_wp2_with (first | ((with_reducible refine gate_callee (f := 77) rfl ?_); refine goesL_ (some 43) rfl rfl Tryz.func77 (by kernel_rfl) rfl #[.slice (some ad222) l0.length c0, .int .i64 x1_2, .int .i64 (wrap64 (a2 + 1))] rfl Ag ?_; (with_reducible refine (ih k2 (by have := HJ3.out; have := HK2.out; omega) _ _ l0 x1_2 (wrap64 (a2 + 1)) t223 _ ?side1 ?side2 A16.out).mono ?_); (case side1 => exact rC (Kd.C_below HR0.out HB.out)); (case side2 => exact HC0.out); rintro e w17 ⟨rfl, hb⟩; refine ⟨_, rfl, ?_⟩; have n0_ := Aside0.mk (below_step By hb); clear HB; have HB := n0_; clear n0_; (try clear hb); (try clear hb2); (try clear hk); (try clear hi)))
                    go_roundg k2
                    case measure => have := HJ3.out; have := HK2.out; omega
                    case rel => exact ⟨(t223), (wrap64 (x7_2 - 1)), (by first | rfl | (simp; done) | (simp [*]; done)), (by first | rfl | (simp; done) | (simp [*]; done)), H', ⟨by have := HJ3.out; have := HK2.out; omega⟩, ⟨By⟩⟩
                  · rw [if_neg c15] at H
                    have c15b0 : decide (0 ≤ x1_2) = false := decide_eq_false c15
                    clear c15
                    obtain rfl := Option.some.inj H
                    go_wp2
                    go_ret
                    exact ⟨Rf, By⟩
                · rw [if_neg c14] at H
                  have c14b0 : decide (0 < x7_2) = false := decide_eq_false c14
                  clear c14
                  obtain rfl := Option.some.inj H
                  go_wp2
                  go_ret
                  exact ⟨Rf, By⟩
          · rw [if_neg c13] at H
            exact absurd H (by simp)
        · rw [if_neg c12] at H
          exact absurd H (by simp)

set_option linter.unusedVariables false
set_option linter.unusedSimpArgs false

/-! ### spec_FilterRight: function 45 -/
def spec_FilterRight.f (k : Nat) (l0 : List (S87)) : Option (Bool) := if (l0.length : Int) ≤ 20 then ((spec_l04End.f k l0 0 1).bind fun t224 => (some (t224 == (l0.length : Int)))) else (some false)
theorem spec_FilterRight.mono : ∀ a0 k, LeO (spec_FilterRight.f k a0) (spec_FilterRight.f (k + 1) a0) := by
  intro a0 k
  unfold spec_FilterRight.f
  repeat' first
      | (with_reducible exact spec_l04End.mono _ _ _ _)
      | (with_reducible exact LeO.refl _)
      | (with_reducible exact LeO.none _)
      | (with_reducible refine LeO.ite ?_ ?_)
      | (with_reducible refine LeO.bind ?_ (fun _ => ?_))
      | exact spec_l04End.mono _ _ _ _
      | exact LeO.none _
      | refine LeO.ite ?_ ?_
      | refine LeO.bind ?_ (fun _ => ?_)
set_option maxHeartbeats 8000000 in
set_option maxRecDepth 100000 in
theorem spec_FilterRight.calls (k : Nat) (A0 : Option Addr) (c0 : Nat) (l0 : List (S87)) (r : Bool) (w : World) (hr0 : Kd.C k87 w A0 l0.length l0) (hc0 : l0.length ≤ c0) (h : spec_FilterRight.f k l0 = some r) :
    Calls Tryz.prog 45 #[.slice A0 l0.length c0] w fun e w' => e = .returned (.bool r) ∧ Below w.heap.size w w' := by
  have HR0 := Aside0.mk hr0
  have HC0 := Aside0.mk hc0
  clear hr0 hc0
  have HB := Aside0.mk (Below.refl w.heap.size w)
  have H : (if (l0.length : Int) ≤ 20 then ((spec_l04End.f k l0 0 1).bind fun t224 => (some (t224 == (l0.length : Int)))) else (some false)) = some r := h
  clear h
  by_cases c2 : (l0.length : Int) ≤ 20
  · rw [if_pos c2] at H
    have c2b0 : decide ((l0.length : Int) ≤ 20) = true := decide_eq_true c2
    have c2b1 : decide (l0.length ≤ 20) = true := decide_eq_true (by omega)
    clear c2
    replace H := Option.bind_eq_some_iff.mp H
    obtain ⟨t224, A30, H⟩ := H
    replace H : (some (t224 == (l0.length : Int))) = some r := H
    have A3 := Aside0.mk A30
    clear A30
    obtain rfl := Option.some.inj H
    go_enter Tryz.func45, Tryz.ntmps45
    go_wp2_with (first | (go_at_call 77; (with_reducible refine (spec_l04End.calls k _ _ l0 0 1 t224 _ ?side1 ?side2 A3.out).mono ?_); (case side1 => repeat (first | exact HR0.out | (with_reducible refine Kd.C_alloc ?_ _) | (with_reducible refine Kd.C_drewN ?_ _) | (with_reducible refine Kd.C_drew ?_))); (case side2 => exact HC0.out); rintro e w4 ⟨rfl, hb⟩; have n0_ := Aside0.mk (below_step By hb); clear HB; have HB := n0_; clear n0_; (try clear hb); (try clear hb2); (try clear hk); (try clear hi)))
    go_ret
    exact ⟨Rf, By⟩
  · rw [if_neg c2] at H
    have c2b0 : decide ((l0.length : Int) ≤ 20) = false := decide_eq_false c2
    have c2b1 : decide (l0.length ≤ 20) = false := decide_eq_false (by omega)
    clear c2
    obtain rfl := Option.some.inj H
    go_enter Tryz.func45, Tryz.ntmps45
    go_wp2
    go_ret
    exact ⟨Rf, By⟩

set_option linter.unusedVariables false
set_option linter.unusedSimpArgs false

/-! ### spec_l04Names: function 46 -/
def spec_l04Names.l0 : Nat → List ByteArray → Int → Option (Bool)
  | 0, _, _ => none
  | k + 1, x0, x3 => if x3 < (x0.length : Int) then (if 0 ≤ x3 then ((spec_NameRight.f k (rdOf ByteArray.empty x0 x3)).bind fun t226 => (if t226 = true then (if x3 > 0 then (if 0 ≤ (wrap64 (x3 - 1)) then (if (wrap64 (x3 - 1)) < (x0.length : Int) then (if ((Op.bytesLess ((rdOf ByteArray.empty x0 (wrap64 (x3 - 1))).toList) ((rdOf ByteArray.empty x0 x3).toList)) = true) then (spec_l04Names.l0 k x0 (wrap64 (x3 + 1))) else (some false)) else (none)) else (none)) else (spec_l04Names.l0 k x0 (wrap64 (x3 + 1)))) else (some false))) else (none)) else (some true)
def spec_l04Names.f (k : Nat) (l0 : List ByteArray) : Option (Bool) := spec_l04Names.l0 k l0 0
theorem spec_l04Names.mono_l : ∀ k, (∀ y0 y1, LeO (spec_l04Names.l0 k y0 y1) (spec_l04Names.l0 (k + 1) y0 y1))
  | 0 => fun _ _ r h => by simp [spec_l04Names.l0] at h
  | k + 1 => by
    have ih0 := spec_l04Names.mono_l k
    · intro y0 y1
      unfold spec_l04Names.l0
      repeat' first
      | (with_reducible exact ih0 _ _)
      | (with_reducible exact spec_NameRight.mono _ _)
      | (with_reducible exact LeO.refl _)
      | (with_reducible exact LeO.none _)
      | (with_reducible refine LeO.ite ?_ ?_)
      | (with_reducible refine LeO.bind ?_ (fun _ => ?_))
      | exact ih0 _ _
      | exact spec_NameRight.mono _ _
      | exact LeO.none _
      | refine LeO.ite ?_ ?_
      | refine LeO.bind ?_ (fun _ => ?_)
theorem spec_l04Names.mono : ∀ a0 k, LeO (spec_l04Names.f k a0) (spec_l04Names.f (k + 1) a0) := by
  intro a0 k
  have ih0 := spec_l04Names.mono_l k
  unfold spec_l04Names.f
  repeat' first
      | (with_reducible exact ih0 _ _)
      | (with_reducible exact spec_NameRight.mono _ _)
      | (with_reducible exact LeO.refl _)
      | (with_reducible exact LeO.none _)
      | (with_reducible refine LeO.ite ?_ ?_)
      | (with_reducible refine LeO.bind ?_ (fun _ => ?_))
      | exact ih0 _ _
      | exact spec_NameRight.mono _ _
      | exact LeO.none _
      | refine LeO.ite ?_ ?_
      | refine LeO.bind ?_ (fun _ => ?_)
set_option maxHeartbeats 8000000 in
set_option maxRecDepth 100000 in
theorem spec_l04Names.calls (k : Nat) (A0 : Option Addr) (c0 : Nat) (l0 : List ByteArray) (r : Bool) (w : World) (hr0 : Kd.C Kd.string w A0 l0.length l0) (hc0 : l0.length ≤ c0) (h : spec_l04Names.f k l0 = some r) :
    Calls Tryz.prog 46 #[.slice A0 l0.length c0] w fun e w' => e = .returned (.bool r) ∧ Drawn0 w w' := by
  have HR0 := Aside0.mk hr0
  have HC0 := Aside0.mk hc0
  clear hr0 hc0
  have H : (spec_l04Names.l0 k l0 0) = some r := h
  clear h
  have H' := Aside0.mk H
  clear H
  go_enter Tryz.func46, Tryz.ntmps46
  go_wp2
  repeat (go_quiet (fail); try go_wp2)
  go_loopg [3] k (fun kq v3 w' => ∃ (x3_1 : Int), v3 = .int .i64 x3_1 ∧ Aside0 (spec_l04Names.l0 kq l0 x3_1 = some r) ∧ Aside0 (kq ≤ k) ∧ Drawn0 w w')
  case atStart => exact ⟨(0), (by first | rfl | (simp; done) | (simp [*]; done)), H', ⟨Nat.le_refl _⟩, by repeat (first | exact Drawn0.refl _ | apply Drawn0.step)⟩
  case round =>
    clear H'
    obtain ⟨x3_1, rfl, HA, HK1, ⟨m1, rfl⟩⟩ := hrel
    cases gk with
    | zero => exact absurd HA.out (by simp [spec_l04Names.l0])
    | succ k1 =>
      have H := HA.out
      clear HA
      simp only [spec_l04Names.l0] at H
      by_cases c2 : x3_1 < (l0.length : Int)
      · rw [if_pos c2] at H
        have c2b0 : decide (x3_1 < (l0.length : Int)) = true := decide_eq_true c2
        clear c2
        by_cases c3 : 0 ≤ x3_1
        · rw [if_pos c3] at H
          have c3b0 : decide (0 ≤ x3_1) = true := decide_eq_true c3
          clear c3
          replace H := Option.bind_eq_some_iff.mp H
          obtain ⟨t226, A40, H⟩ := H
          replace H : (if t226 = true then (if x3_1 > 0 then (if 0 ≤ (wrap64 (x3_1 - 1)) then (if (wrap64 (x3_1 - 1)) < (l0.length : Int) then (if ((Op.bytesLess ((rdOf ByteArray.empty l0 (wrap64 (x3_1 - 1))).toList) ((rdOf ByteArray.empty l0 x3_1).toList)) = true) then (spec_l04Names.l0 k1 l0 (wrap64 (x3_1 + 1))) else (some false)) else (none)) else (none)) else (spec_l04Names.l0 k1 l0 (wrap64 (x3_1 + 1)))) else (some false)) = some r := H
          have A4 := Aside0.mk A40
          clear A40
          by_cases c5 : t226 = true
          · subst c5
            have H1 : (if x3_1 > 0 then (if 0 ≤ (wrap64 (x3_1 - 1)) then (if (wrap64 (x3_1 - 1)) < (l0.length : Int) then (if ((Op.bytesLess ((rdOf ByteArray.empty l0 (wrap64 (x3_1 - 1))).toList) ((rdOf ByteArray.empty l0 x3_1).toList)) = true) then (spec_l04Names.l0 k1 l0 (wrap64 (x3_1 + 1))) else (some false)) else (none)) else (none)) else (spec_l04Names.l0 k1 l0 (wrap64 (x3_1 + 1)))) = some r := by rw [if_pos rfl] at H; exact H
            clear H
            have H := H1
            clear H1
            by_cases c6 : x3_1 > 0
            · rw [if_pos c6] at H
              have c6b0 : decide (0 < x3_1) = true := decide_eq_true c6
              clear c6
              obtain ⟨ji7, hji7⟩ : ∃ j_ : Int, (wrap64 (x3_1 - 1)) = j_ := ⟨_, rfl⟩
              replace H : (if 0 ≤ (ji7) then (if (ji7) < (l0.length : Int) then (if ((Op.bytesLess ((rdOf ByteArray.empty l0 (ji7)).toList) ((rdOf ByteArray.empty l0 x3_1).toList)) = true) then (spec_l04Names.l0 k1 l0 (wrap64 (x3_1 + 1))) else (some false)) else (none)) else (none)) = some r := by first | (rw [hji7] at H; exact H) | (simp only [hji7] at H ⊢; exact H)
              (try rw [hji7] at A4)
              have hji7w : (IntKind.i64.wrap (x3_1 - 1)) = ji7 := (i64_w _).trans hji7
              by_cases c8 : 0 ≤ (ji7)
              · rw [if_pos c8] at H
                have c8b0 : decide (0 ≤ (ji7)) = true := decide_eq_true c8
                clear c8
                by_cases c9 : (ji7) < (l0.length : Int)
                · rw [if_pos c9] at H
                  have c9b0 : decide ((ji7) < (l0.length : Int)) = true := decide_eq_true c9
                  clear c9
                  by_cases c10 : ((Op.bytesLess ((rdOf ByteArray.empty l0 (ji7)).toList) ((rdOf ByteArray.empty l0 x3_1).toList)) = true)
                  · rw [if_pos c10] at H
                    have c10b0 : (Op.bytesLess ((rdOf ByteArray.empty l0 (ji7)).toList) ((rdOf ByteArray.empty l0 x3_1).toList)) = true := c10
                    clear c10
                    have H' := Aside0.mk H
                    clear H
                    have p225 : 0 ≤ (x3_1 : Int) := of_decide_eq_true Da
                    have q225 : x3_1 < (l0.length : Int) := of_decide_eq_true Da
                    obtain ⟨ad225, e225, hx225_0⟩ := Kd.at_string HR0.out x3_1 p225 q225
                    cases e225
                    replace p225 := eq_true p225
                    replace q225 := eq_true q225
                    go_wp2_with (first | (go_at_call 78; (with_reducible refine (spec_NameRight.calls k1 (rdOf ByteArray.empty l0 x3_1) true _ A4.out).mono ?_); rintro e w' ⟨rfl, ⟨nd, rfl⟩⟩; (try first | exact ⟨rfl, _, World.drewN_drewN _ _ _⟩ | exact ⟨rfl, _, Eq.trans (World.drewN_drewN _ _ _) (congrArg (World.drewN _) (Nat.add_assoc _ _ _))⟩); have p227 : 0 ≤ ((ji7) : Int) := of_decide_eq_true Da; have q227 : (ji7) < (l0.length : Int) := of_decide_eq_true Da; obtain ⟨ad227, e227, hx227_0⟩ := Kd.at_string HR0.out (ji7) p227 q227; obtain rfl : ad225 = ad227 := (by injection e227); replace p227 := eq_true p227; replace q227 := eq_true q227; have p228 : 0 ≤ (x3_1 : Int) := of_decide_eq_true Da; have q228 : x3_1 < (l0.length : Int) := of_decide_eq_true Da; obtain ⟨ad228, e228, hx228_0⟩ := Kd.at_string HR0.out x3_1 p228 q228; obtain rfl : ad225 = ad228 := (by injection e228); replace p228 := eq_true p228; replace q228 := eq_true q228))
                    repeat (go_quiet (first | (go_at_call 78; (with_reducible refine (spec_NameRight.calls k1 (rdOf ByteArray.empty l0 x3_1) true _ A4.out).mono ?_); rintro e w' ⟨rfl, ⟨nd, rfl⟩⟩; (try first | exact ⟨rfl, _, World.drewN_drewN _ _ _⟩ | exact ⟨rfl, _, Eq.trans (World.drewN_drewN _ _ _) (congrArg (World.drewN _) (Nat.add_assoc _ _ _))⟩); have p227 : 0 ≤ ((ji7) : Int) := of_decide_eq_true Da; have q227 : (ji7) < (l0.length : Int) := of_decide_eq_true Da; obtain ⟨ad227, e227, hx227_0⟩ := Kd.at_string HR0.out (ji7) p227 q227; obtain rfl : ad225 = ad227 := (by injection e227); replace p227 := eq_true p227; replace q227 := eq_true q227; have p228 : 0 ≤ (x3_1 : Int) := of_decide_eq_true Da; have q228 : x3_1 < (l0.length : Int) := of_decide_eq_true Da; obtain ⟨ad228, e228, hx228_0⟩ := Kd.at_string HR0.out x3_1 p228 q228; obtain rfl : ad225 = ad228 := (by injection e228); replace p228 := eq_true p228; replace q228 := eq_true q228)); try go_wp2_with (first | (go_at_call 78; (with_reducible refine (spec_NameRight.calls k1 (rdOf ByteArray.empty l0 x3_1) true _ A4.out).mono ?_); rintro e w' ⟨rfl, ⟨nd, rfl⟩⟩; (try first | exact ⟨rfl, _, World.drewN_drewN _ _ _⟩ | exact ⟨rfl, _, Eq.trans (World.drewN_drewN _ _ _) (congrArg (World.drewN _) (Nat.add_assoc _ _ _))⟩); have p227 : 0 ≤ ((ji7) : Int) := of_decide_eq_true Da; have q227 : (ji7) < (l0.length : Int) := of_decide_eq_true Da; obtain ⟨ad227, e227, hx227_0⟩ := Kd.at_string HR0.out (ji7) p227 q227; obtain rfl : ad225 = ad227 := (by injection e227); replace p227 := eq_true p227; replace q227 := eq_true q227; have p228 : 0 ≤ (x3_1 : Int) := of_decide_eq_true Da; have q228 : x3_1 < (l0.length : Int) := of_decide_eq_true Da; obtain ⟨ad228, e228, hx228_0⟩ := Kd.at_string HR0.out x3_1 p228 q228; obtain rfl : ad225 = ad228 := (by injection e228); replace p228 := eq_true p228; replace q228 := eq_true q228)))
                    go_roundg k1
                    case measure => have := HK1.out; omega
                    case rel => exact ⟨(wrap64 (x3_1 + 1)), (by first | rfl | (simp; done) | (simp [*]; done)), H', ⟨by have := HK1.out; omega⟩, by repeat (first | exact Drawn0.refl _ | apply Drawn0.step)⟩
                  · rw [if_neg c10] at H
                    have c10b0 : (Op.bytesLess ((rdOf ByteArray.empty l0 (ji7)).toList) ((rdOf ByteArray.empty l0 x3_1).toList)) = false := by simpa using c10
                    clear c10
                    obtain rfl := Option.some.inj H
                    have p225 : 0 ≤ (x3_1 : Int) := of_decide_eq_true Da
                    have q225 : x3_1 < (l0.length : Int) := of_decide_eq_true Da
                    obtain ⟨ad225, e225, hx225_0⟩ := Kd.at_string HR0.out x3_1 p225 q225
                    cases e225
                    replace p225 := eq_true p225
                    replace q225 := eq_true q225
                    go_wp2_with (first | (go_at_call 78; (with_reducible refine (spec_NameRight.calls k1 (rdOf ByteArray.empty l0 x3_1) true _ A4.out).mono ?_); rintro e w' ⟨rfl, ⟨nd, rfl⟩⟩; (try first | exact ⟨rfl, _, World.drewN_drewN _ _ _⟩ | exact ⟨rfl, _, Eq.trans (World.drewN_drewN _ _ _) (congrArg (World.drewN _) (Nat.add_assoc _ _ _))⟩); have p227 : 0 ≤ ((ji7) : Int) := of_decide_eq_true Da; have q227 : (ji7) < (l0.length : Int) := of_decide_eq_true Da; obtain ⟨ad227, e227, hx227_0⟩ := Kd.at_string HR0.out (ji7) p227 q227; obtain rfl : ad225 = ad227 := (by injection e227); replace p227 := eq_true p227; replace q227 := eq_true q227; have p228 : 0 ≤ (x3_1 : Int) := of_decide_eq_true Da; have q228 : x3_1 < (l0.length : Int) := of_decide_eq_true Da; obtain ⟨ad228, e228, hx228_0⟩ := Kd.at_string HR0.out x3_1 p228 q228; obtain rfl : ad225 = ad228 := (by injection e228); replace p228 := eq_true p228; replace q228 := eq_true q228))
                    repeat (go_quiet (first | (go_at_call 78; (with_reducible refine (spec_NameRight.calls k1 (rdOf ByteArray.empty l0 x3_1) true _ A4.out).mono ?_); rintro e w' ⟨rfl, ⟨nd, rfl⟩⟩; (try first | exact ⟨rfl, _, World.drewN_drewN _ _ _⟩ | exact ⟨rfl, _, Eq.trans (World.drewN_drewN _ _ _) (congrArg (World.drewN _) (Nat.add_assoc _ _ _))⟩); have p227 : 0 ≤ ((ji7) : Int) := of_decide_eq_true Da; have q227 : (ji7) < (l0.length : Int) := of_decide_eq_true Da; obtain ⟨ad227, e227, hx227_0⟩ := Kd.at_string HR0.out (ji7) p227 q227; obtain rfl : ad225 = ad227 := (by injection e227); replace p227 := eq_true p227; replace q227 := eq_true q227; have p228 : 0 ≤ (x3_1 : Int) := of_decide_eq_true Da; have q228 : x3_1 < (l0.length : Int) := of_decide_eq_true Da; obtain ⟨ad228, e228, hx228_0⟩ := Kd.at_string HR0.out x3_1 p228 q228; obtain rfl : ad225 = ad228 := (by injection e228); replace p228 := eq_true p228; replace q228 := eq_true q228)); try go_wp2_with (first | (go_at_call 78; (with_reducible refine (spec_NameRight.calls k1 (rdOf ByteArray.empty l0 x3_1) true _ A4.out).mono ?_); rintro e w' ⟨rfl, ⟨nd, rfl⟩⟩; (try first | exact ⟨rfl, _, World.drewN_drewN _ _ _⟩ | exact ⟨rfl, _, Eq.trans (World.drewN_drewN _ _ _) (congrArg (World.drewN _) (Nat.add_assoc _ _ _))⟩); have p227 : 0 ≤ ((ji7) : Int) := of_decide_eq_true Da; have q227 : (ji7) < (l0.length : Int) := of_decide_eq_true Da; obtain ⟨ad227, e227, hx227_0⟩ := Kd.at_string HR0.out (ji7) p227 q227; obtain rfl : ad225 = ad227 := (by injection e227); replace p227 := eq_true p227; replace q227 := eq_true q227; have p228 : 0 ≤ (x3_1 : Int) := of_decide_eq_true Da; have q228 : x3_1 < (l0.length : Int) := of_decide_eq_true Da; obtain ⟨ad228, e228, hx228_0⟩ := Kd.at_string HR0.out x3_1 p228 q228; obtain rfl : ad225 = ad228 := (by injection e228); replace p228 := eq_true p228; replace q228 := eq_true q228)))
                    go_ret
                    exact ⟨by first | rfl | (simp; done) | (simp only [← hji7] <;> (first | rfl | simp)) | (simp [*]; done), by repeat (first | exact Drawn0.refl _ | apply Drawn0.step)⟩
                · rw [if_neg c9] at H
                  exact absurd H (by simp)
              · rw [if_neg c8] at H
                exact absurd H (by simp)
            · rw [if_neg c6] at H
              have c6b0 : decide (0 < x3_1) = false := decide_eq_false c6
              clear c6
              have H' := Aside0.mk H
              clear H
              have p225 : 0 ≤ (x3_1 : Int) := of_decide_eq_true Da
              have q225 : x3_1 < (l0.length : Int) := of_decide_eq_true Da
              obtain ⟨ad225, e225, hx225_0⟩ := Kd.at_string HR0.out x3_1 p225 q225
              cases e225
              replace p225 := eq_true p225
              replace q225 := eq_true q225
              go_wp2_with (first | (go_at_call 78; (with_reducible refine (spec_NameRight.calls k1 (rdOf ByteArray.empty l0 x3_1) true _ A4.out).mono ?_); rintro e w' ⟨rfl, ⟨nd, rfl⟩⟩; (try first | exact ⟨rfl, _, World.drewN_drewN _ _ _⟩ | exact ⟨rfl, _, Eq.trans (World.drewN_drewN _ _ _) (congrArg (World.drewN _) (Nat.add_assoc _ _ _))⟩)))
              repeat (go_quiet (first | (go_at_call 78; (with_reducible refine (spec_NameRight.calls k1 (rdOf ByteArray.empty l0 x3_1) true _ A4.out).mono ?_); rintro e w' ⟨rfl, ⟨nd, rfl⟩⟩; (try first | exact ⟨rfl, _, World.drewN_drewN _ _ _⟩ | exact ⟨rfl, _, Eq.trans (World.drewN_drewN _ _ _) (congrArg (World.drewN _) (Nat.add_assoc _ _ _))⟩))); try go_wp2_with (first | (go_at_call 78; (with_reducible refine (spec_NameRight.calls k1 (rdOf ByteArray.empty l0 x3_1) true _ A4.out).mono ?_); rintro e w' ⟨rfl, ⟨nd, rfl⟩⟩; (try first | exact ⟨rfl, _, World.drewN_drewN _ _ _⟩ | exact ⟨rfl, _, Eq.trans (World.drewN_drewN _ _ _) (congrArg (World.drewN _) (Nat.add_assoc _ _ _))⟩))))
              go_roundg k1
              case measure => have := HK1.out; omega
              case rel => exact ⟨(wrap64 (x3_1 + 1)), (by first | rfl | (simp; done) | (simp [*]; done)), H', ⟨by have := HK1.out; omega⟩, by repeat (first | exact Drawn0.refl _ | apply Drawn0.step)⟩
          · replace c5 := Bool.eq_false_iff.mpr c5
            subst c5
            have H1 : (some false) = some r := by rw [if_neg (show ¬ (false = true) by decide)] at H; exact H
            clear H
            have H := H1
            clear H1
            obtain rfl := Option.some.inj H
            have p225 : 0 ≤ (x3_1 : Int) := of_decide_eq_true Da
            have q225 : x3_1 < (l0.length : Int) := of_decide_eq_true Da
            obtain ⟨ad225, e225, hx225_0⟩ := Kd.at_string HR0.out x3_1 p225 q225
            cases e225
            replace p225 := eq_true p225
            replace q225 := eq_true q225
            go_wp2_with (first | (go_at_call 78; (with_reducible refine (spec_NameRight.calls k1 (rdOf ByteArray.empty l0 x3_1) false _ A4.out).mono ?_); rintro e w' ⟨rfl, ⟨nd, rfl⟩⟩; (try first | exact ⟨rfl, _, World.drewN_drewN _ _ _⟩ | exact ⟨rfl, _, Eq.trans (World.drewN_drewN _ _ _) (congrArg (World.drewN _) (Nat.add_assoc _ _ _))⟩)))
            repeat (go_quiet (first | (go_at_call 78; (with_reducible refine (spec_NameRight.calls k1 (rdOf ByteArray.empty l0 x3_1) false _ A4.out).mono ?_); rintro e w' ⟨rfl, ⟨nd, rfl⟩⟩; (try first | exact ⟨rfl, _, World.drewN_drewN _ _ _⟩ | exact ⟨rfl, _, Eq.trans (World.drewN_drewN _ _ _) (congrArg (World.drewN _) (Nat.add_assoc _ _ _))⟩))); try go_wp2_with (first | (go_at_call 78; (with_reducible refine (spec_NameRight.calls k1 (rdOf ByteArray.empty l0 x3_1) false _ A4.out).mono ?_); rintro e w' ⟨rfl, ⟨nd, rfl⟩⟩; (try first | exact ⟨rfl, _, World.drewN_drewN _ _ _⟩ | exact ⟨rfl, _, Eq.trans (World.drewN_drewN _ _ _) (congrArg (World.drewN _) (Nat.add_assoc _ _ _))⟩))))
            go_ret
            exact ⟨by first | rfl | (simp; done) | (simp [*]; done), by repeat (first | exact Drawn0.refl _ | apply Drawn0.step)⟩
        · rw [if_neg c3] at H
          exact absurd H (by simp)
      · rw [if_neg c2] at H
        have c2b0 : decide (x3_1 < (l0.length : Int)) = false := decide_eq_false c2
        clear c2
        obtain rfl := Option.some.inj H
        go_wp2
        repeat (go_quiet (fail); try go_wp2)
        go_ret
        exact ⟨by first | rfl | (simp; done) | (simp [*]; done), by repeat (first | exact Drawn0.refl _ | apply Drawn0.step)⟩

set_option linter.unusedVariables false
set_option linter.unusedSimpArgs false

/-! ### spec_l04Inner: function 79 -/
def spec_l04Inner.f (a0_0 : Int) (a0_1 : ByteArray) (a0_2 : ByteArray) (a0_3 : Int) : Option (Bool) := if a0_0 = 1 then (some true) else (if a0_0 = 2 then (some true) else (some (a0_0 == 3)))
set_option maxHeartbeats 8000000 in
set_option maxRecDepth 100000 in
theorem spec_l04Inner.calls (a0_0 : Int) (a0_1 : ByteArray) (a0_2 : ByteArray) (a0_3 : Int) (r : Bool) (w : World) (h : spec_l04Inner.f a0_0 a0_1 a0_2 a0_3 = some r) :
    Calls Tryz.prog 79 #[.agg #[.int .i64 a0_0, .string a0_1, .string a0_2, .int .i64 a0_3]] w fun e w' => e = .returned (.bool r) ∧ Below w.heap.size w w' := by
  have hu87 := Tryz.underlying87
  have HB := Aside0.mk (Below.refl w.heap.size w)
  have H : (if a0_0 = 1 then (some true) else (if a0_0 = 2 then (some true) else (some (a0_0 == 3)))) = some r := h
  clear h
  by_cases c2 : a0_0 = 1
  · rw [if_pos c2] at H
    have c2b0 : (a0_0 == 1) = true := beq_iff_eq.mpr c2
    have c2b1 : (a0_0 != 1) = false := bne_eq_false_iff_eq.mpr c2
    clear c2
    obtain rfl := Option.some.inj H
    go_enter Tryz.func79, Tryz.ntmps79
    go_wp2_with (first | ((with_reducible refine gate_dst (N := 1) rfl ?_); refine box_event ?hg (N := 1) ?hd (cs := #[.int .i64 a0_0, .string a0_1, .string a0_2, .int .i64 a0_3]) (t := 87) ?hr ?_; (case hd => rfl); (case hg => rfl); (case hr => first | (go_simp; done) | (go_simp; rfl)); intro gb229 hg w3 hbox hb; have n0_ := Aside0.mk (below_step By hb); have n1_ := Aside0.mk (hbox); have n2_ := Aside0.mk ((by rw [hg]; exact (below_size By) : w.heap.size ≤ gb229)); have n3_ := Aside0.mk ((by rw [hg]; exact (below_size By) : w.heap.size ≤ gb229)); clear HB; have HB := n0_; have BK229 := n1_; have GW229 := n2_; have GE229 := n3_; clear n0_ n1_ n2_ n3_; clear hb hbox hg; have ⟨hcz4_0, hcz4_1, hcz4_2, hcz4_3⟩ := cq4 BK229.out; have ⟨hfz4_0, hfz4_1, hfz4_2, hfz4_3⟩ := fq4 BK229.out))
    go_ret
    exact ⟨Rf, By⟩
  · rw [if_neg c2] at H
    have c2b0 : (a0_0 == 1) = false := beq_eq_false_iff_ne.mpr c2
    have c2b1 : (a0_0 != 1) = true := bne_iff_ne.mpr c2
    by_cases c5 : a0_0 = 2
    · rw [if_pos c5] at H
      have c5b0 : (a0_0 == 2) = true := beq_iff_eq.mpr c5
      have c5b1 : (a0_0 != 2) = false := bne_eq_false_iff_eq.mpr c5
      clear c5
      obtain rfl := Option.some.inj H
      go_enter Tryz.func79, Tryz.ntmps79
      go_wp2_with (first | ((with_reducible refine gate_dst (N := 1) rfl ?_); refine box_event ?hg (N := 1) ?hd (cs := #[.int .i64 a0_0, .string a0_1, .string a0_2, .int .i64 a0_3]) (t := 87) ?hr ?_; (case hd => rfl); (case hg => rfl); (case hr => first | (go_simp; done) | (go_simp; rfl)); intro gb229 hg w6 hbox hb; have n0_ := Aside0.mk (below_step By hb); have n1_ := Aside0.mk (hbox); have n2_ := Aside0.mk ((by rw [hg]; exact (below_size By) : w.heap.size ≤ gb229)); have n3_ := Aside0.mk ((by rw [hg]; exact (below_size By) : w.heap.size ≤ gb229)); clear HB; have HB := n0_; have BK229 := n1_; have GW229 := n2_; have GE229 := n3_; clear n0_ n1_ n2_ n3_; clear hb hbox hg; have ⟨hcz7_0, hcz7_1, hcz7_2, hcz7_3⟩ := cq4 BK229.out; have ⟨hfz7_0, hfz7_1, hfz7_2, hfz7_3⟩ := fq4 BK229.out))
      go_ret
      exact ⟨Rf, By⟩
    · rw [if_neg c5] at H
      have c5b0 : (a0_0 == 2) = false := beq_eq_false_iff_ne.mpr c5
      have c5b1 : (a0_0 != 2) = true := bne_iff_ne.mpr c5
      obtain rfl := Option.some.inj H
      go_enter Tryz.func79, Tryz.ntmps79
      go_wp2_with (first | ((with_reducible refine gate_dst (N := 1) rfl ?_); refine box_event ?hg (N := 1) ?hd (cs := #[.int .i64 a0_0, .string a0_1, .string a0_2, .int .i64 a0_3]) (t := 87) ?hr ?_; (case hd => rfl); (case hg => rfl); (case hr => first | (go_simp; done) | (go_simp; rfl)); intro gb229 hg w8 hbox hb; have n0_ := Aside0.mk (below_step By hb); have n1_ := Aside0.mk (hbox); have n2_ := Aside0.mk ((by rw [hg]; exact (below_size By) : w.heap.size ≤ gb229)); have n3_ := Aside0.mk ((by rw [hg]; exact (below_size By) : w.heap.size ≤ gb229)); clear HB; have HB := n0_; have BK229 := n1_; have GW229 := n2_; have GE229 := n3_; clear n0_ n1_ n2_ n3_; clear hb hbox hg; have ⟨hcz9_0, hcz9_1, hcz9_2, hcz9_3⟩ := cq4 BK229.out; have ⟨hfz9_0, hfz9_1, hfz9_2, hfz9_3⟩ := fq4 BK229.out))
      go_ret
      exact ⟨Rf, By⟩

set_option linter.unusedVariables false
set_option linter.unusedSimpArgs false

/-! ### spec_l04Has: function 80 -/
def spec_l04Has.l0 : Nat → List ByteArray → ByteArray → Int → Option (Bool)
  | 0, _, _, _ => none
  | k + 1, x0, x1, x5 => if x5 < (x0.length : Int) then (if 0 ≤ x5 then (if (rdOf ByteArray.empty x0 x5).toList = x1.toList then (some true) else (spec_l04Has.l0 k x0 x1 (wrap64 (x5 + 1)))) else (none)) else (some false)
def spec_l04Has.f (k : Nat) (l0 : List ByteArray) (a1 : ByteArray) : Option (Bool) := spec_l04Has.l0 k l0 a1 0
theorem spec_l04Has.mono_l : ∀ k, (∀ y0 y1 y2, LeO (spec_l04Has.l0 k y0 y1 y2) (spec_l04Has.l0 (k + 1) y0 y1 y2))
  | 0 => fun _ _ _ r h => by simp [spec_l04Has.l0] at h
  | k + 1 => by
    have ih0 := spec_l04Has.mono_l k
    · intro y0 y1 y2
      unfold spec_l04Has.l0
      repeat' first
      | (with_reducible exact ih0 _ _ _)
      | (with_reducible exact LeO.refl _)
      | (with_reducible exact LeO.none _)
      | (with_reducible refine LeO.ite ?_ ?_)
      | (with_reducible refine LeO.bind ?_ (fun _ => ?_))
      | exact ih0 _ _ _
      | exact LeO.none _
      | refine LeO.ite ?_ ?_
      | refine LeO.bind ?_ (fun _ => ?_)
theorem spec_l04Has.mono : ∀ a0 a1 k, LeO (spec_l04Has.f k a0 a1) (spec_l04Has.f (k + 1) a0 a1) := by
  intro a0 a1 k
  have ih0 := spec_l04Has.mono_l k
  unfold spec_l04Has.f
  repeat' first
      | (with_reducible exact ih0 _ _ _)
      | (with_reducible exact LeO.refl _)
      | (with_reducible exact LeO.none _)
      | (with_reducible refine LeO.ite ?_ ?_)
      | (with_reducible refine LeO.bind ?_ (fun _ => ?_))
      | exact ih0 _ _ _
      | exact LeO.none _
      | refine LeO.ite ?_ ?_
      | refine LeO.bind ?_ (fun _ => ?_)
set_option maxHeartbeats 8000000 in
set_option maxRecDepth 100000 in
theorem spec_l04Has.calls (k : Nat) (A0 : Option Addr) (c0 : Nat) (l0 : List ByteArray) (a1 : ByteArray) (r : Bool) (w : World) (hr0 : Kd.C Kd.string w A0 l0.length l0) (hc0 : l0.length ≤ c0) (h : spec_l04Has.f k l0 a1 = some r) :
    Calls Tryz.prog 80 #[.slice A0 l0.length c0, .string a1] w fun e w' => e = .returned (.bool r) ∧ Drawn0 w w' := by
  have HR0 := Aside0.mk hr0
  have HC0 := Aside0.mk hc0
  clear hr0 hc0
  have H : (spec_l04Has.l0 k l0 a1 0) = some r := h
  clear h
  have H' := Aside0.mk H
  clear H
  go_enter Tryz.func80, Tryz.ntmps80
  go_wp2
  go_loopg [5] k (fun kq v5 w' => ∃ (x5_1 : Int), v5 = .int .i64 x5_1 ∧ Aside0 (spec_l04Has.l0 kq l0 a1 x5_1 = some r) ∧ Aside0 (kq ≤ k) ∧ Drawn0 w w')
  case atStart => exact ⟨(0), (by first | rfl | (simp; done) | (simp [*]; done)), H', ⟨Nat.le_refl _⟩, by repeat (first | exact Drawn0.refl _ | apply Drawn0.step)⟩
  case round =>
    clear H'
    try clear p2
    obtain ⟨x5_1, rfl, HA, HK1, ⟨m1, rfl⟩⟩ := hrel
    cases gk with
    | zero => exact absurd HA.out (by simp [spec_l04Has.l0])
    | succ k1 =>
      have H := HA.out
      clear HA
      simp only [spec_l04Has.l0] at H
      by_cases c3 : x5_1 < (l0.length : Int)
      · rw [if_pos c3] at H
        have c3b0 : decide (x5_1 < (l0.length : Int)) = true := decide_eq_true c3
        clear c3
        by_cases c4 : 0 ≤ x5_1
        · rw [if_pos c4] at H
          have c4b0 : decide (0 ≤ x5_1) = true := decide_eq_true c4
          clear c4
          by_cases c5 : (rdOf ByteArray.empty l0 x5_1).toList = a1.toList
          · rw [if_pos c5] at H
            have c5b0 : ((rdOf ByteArray.empty l0 x5_1).toList == a1.toList) = true := beq_iff_eq.mpr c5
            have c5b1 : ((rdOf ByteArray.empty l0 x5_1).toList != a1.toList) = false := bne_eq_false_iff_eq.mpr c5
            clear c5
            obtain rfl := Option.some.inj H
            have p230 : 0 ≤ (x5_1 : Int) := of_decide_eq_true Da
            have q230 : x5_1 < (l0.length : Int) := of_decide_eq_true Da
            obtain ⟨ad230, e230, hx230_0⟩ := Kd.at_string HR0.out x5_1 p230 q230
            cases e230
            replace p230 := eq_true p230
            replace q230 := eq_true q230
            go_wp2
            go_ret
            exact ⟨by first | rfl | (simp; done) | (simp [*]; done), by repeat (first | exact Drawn0.refl _ | apply Drawn0.step)⟩
          · rw [if_neg c5] at H
            have c5b0 : ((rdOf ByteArray.empty l0 x5_1).toList == a1.toList) = false := beq_eq_false_iff_ne.mpr c5
            have c5b1 : ((rdOf ByteArray.empty l0 x5_1).toList != a1.toList) = true := bne_iff_ne.mpr c5
            have H' := Aside0.mk H
            clear H
            have p230 : 0 ≤ (x5_1 : Int) := of_decide_eq_true Da
            have q230 : x5_1 < (l0.length : Int) := of_decide_eq_true Da
            obtain ⟨ad230, e230, hx230_0⟩ := Kd.at_string HR0.out x5_1 p230 q230
            cases e230
            replace p230 := eq_true p230
            replace q230 := eq_true q230
            go_wp2
            go_roundg k1
            case measure => have := HK1.out; omega
            case rel => exact ⟨(wrap64 (x5_1 + 1)), (by first | rfl | (simp; done) | (simp [*]; done)), H', ⟨by have := HK1.out; omega⟩, by repeat (first | exact Drawn0.refl _ | apply Drawn0.step)⟩
        · rw [if_neg c4] at H
          exact absurd H (by simp)
      · rw [if_neg c3] at H
        have c3b0 : decide (x5_1 < (l0.length : Int)) = false := decide_eq_false c3
        clear c3
        obtain rfl := Option.some.inj H
        go_wp2
        go_ret
        exact ⟨by first | rfl | (simp; done) | (simp [*]; done), by repeat (first | exact Drawn0.refl _ | apply Drawn0.step)⟩

set_option linter.unusedVariables false
set_option linter.unusedSimpArgs false

/-! ### spec_l04Truth: function 81 -/
def spec_l04Truth.f (a0 : Bool) : Option (Int) := if a0 = true then (some 1) else (some 0)
set_option maxHeartbeats 8000000 in
set_option maxRecDepth 100000 in
theorem spec_l04Truth.calls (a0 : Bool) (r : Int) (w : World) (h : spec_l04Truth.f a0 = some r) :
    Calls Tryz.prog 81 #[.bool a0] w fun e w' => e = .returned (.int .i64 r) ∧ Drawn0 w w' := by
  have H : (if a0 = true then (some 1) else (some 0)) = some r := h
  clear h
  by_cases c2 : a0 = true
  · subst c2
    have H1 : (some 1) = some r := by rw [if_pos rfl] at H; exact H
    clear H
    have H := H1
    clear H1
    obtain rfl := Option.some.inj H
    go_enter Tryz.func81, Tryz.ntmps81
    go_wp2
    go_ret
    exact ⟨by first | rfl | (simp; done) | (simp [*]; done), by repeat (first | exact Drawn0.refl _ | apply Drawn0.step)⟩
  · replace c2 := Bool.eq_false_iff.mpr c2
    subst c2
    have H1 : (some 0) = some r := by rw [if_neg (show ¬ (false = true) by decide)] at H; exact H
    clear H
    have H := H1
    clear H1
    obtain rfl := Option.some.inj H
    go_enter Tryz.func81, Tryz.ntmps81
    go_wp2
    go_ret
    exact ⟨by first | rfl | (simp; done) | (simp [*]; done), by repeat (first | exact Drawn0.refl _ | apply Drawn0.step)⟩

set_option linter.unusedVariables false
set_option linter.unusedSimpArgs false

/-! ### spec_l03At: function 92 -/
def spec_l03At.l0 : Nat → ByteArray → Int → List (S113) → List (S115) → Option (Int)
  | 0, _, _, _, _ => none
  | k + 1, x1, x5, x232000, x232001 => if x5 < (x232001.length : Int) then (if 0 ≤ x5 then (if ((rd_T115 x232001 x5).f0).toList = x1.toList then (some x5) else (spec_l03At.l0 k x1 (wrap64 (x5 + 1)) x232000 x232001)) else (none)) else (some (-1))
def spec_l03At.f (k : Nat) (l0_0 : List (S113)) (l0_1 : List (S115)) (a1 : ByteArray) : Option (Int) := spec_l03At.l0 k a1 0 l0_0 l0_1
theorem spec_l03At.mono_l : ∀ k, (∀ y0 y1 y2 y3, LeO (spec_l03At.l0 k y0 y1 y2 y3) (spec_l03At.l0 (k + 1) y0 y1 y2 y3))
  | 0 => fun _ _ _ _ r h => by simp [spec_l03At.l0] at h
  | k + 1 => by
    have ih0 := spec_l03At.mono_l k
    · intro y0 y1 y2 y3
      unfold spec_l03At.l0
      repeat' first
      | (with_reducible exact ih0 _ _ _ _)
      | (with_reducible exact LeO.refl _)
      | (with_reducible exact LeO.none _)
      | (with_reducible refine LeO.ite ?_ ?_)
      | (with_reducible refine LeO.bind ?_ (fun _ => ?_))
      | exact ih0 _ _ _ _
      | exact LeO.none _
      | refine LeO.ite ?_ ?_
      | refine LeO.bind ?_ (fun _ => ?_)
theorem spec_l03At.mono : ∀ a0 a1 a2 k, LeO (spec_l03At.f k a0 a1 a2) (spec_l03At.f (k + 1) a0 a1 a2) := by
  intro a0 a1 a2 k
  have ih0 := spec_l03At.mono_l k
  unfold spec_l03At.f
  repeat' first
      | (with_reducible exact ih0 _ _ _ _)
      | (with_reducible exact LeO.refl _)
      | (with_reducible exact LeO.none _)
      | (with_reducible refine LeO.ite ?_ ?_)
      | (with_reducible refine LeO.bind ?_ (fun _ => ?_))
      | exact ih0 _ _ _ _
      | exact LeO.none _
      | refine LeO.ite ?_ ?_
      | refine LeO.bind ?_ (fun _ => ?_)
set_option maxHeartbeats 8000000 in
set_option maxRecDepth 100000 in
theorem spec_l03At.calls (k : Nat) (A0_0 : Option Addr) (c0_0 : Nat) (l0_0 : List (S113)) (A0_1 : Option Addr) (c0_1 : Nat) (l0_1 : List (S115)) (a1 : ByteArray) (r : Int) (w : World) (hr0_0 : Kd.C k113 w A0_0 l0_0.length l0_0) (hc0_0 : l0_0.length ≤ c0_0) (hr0_1 : Kd.C k115 w A0_1 l0_1.length l0_1) (hc0_1 : l0_1.length ≤ c0_1) (h : spec_l03At.f k l0_0 l0_1 a1 = some r) :
    Calls Tryz.prog 92 #[.agg #[.slice A0_0 l0_0.length c0_0, .slice A0_1 l0_1.length c0_1], .string a1] w fun e w' => e = .returned (.int .i64 r) ∧ Below w.heap.size w w' := by
  have hu37 := Tryz.underlying37
  have HR0_0 := Aside0.mk hr0_0
  have HC0_0 := Aside0.mk hc0_0
  clear hr0_0 hc0_0
  have HR0_1 := Aside0.mk hr0_1
  have HC0_1 := Aside0.mk hc0_1
  clear hr0_1 hc0_1
  have HB := Aside0.mk (Below.refl w.heap.size w)
  have H : (spec_l03At.l0 k a1 0 l0_0 l0_1) = some r := h
  clear h
  have H' := Aside0.mk H
  clear H
  go_enter Tryz.func92, Tryz.ntmps92
  go_wp2_with (first | ((with_reducible refine gate_dst (N := 2) rfl ?_); refine box_event ?hg (N := 2) ?hd (cs := #[.slice A0_0 l0_0.length c0_0, .slice A0_1 l0_1.length c0_1]) (t := 37) ?hr ?_; (case hd => rfl); (case hg => rfl); (case hr => first | (go_simp; done) | (go_simp; rfl)); intro gb231 hg w3 hbox hb; have n0_ := Aside0.mk (below_step By hb); have n1_ := Aside0.mk (hbox); have n2_ := Aside0.mk ((by rw [hg]; exact (below_size By) : w.heap.size ≤ gb231)); have n3_ := Aside0.mk ((by rw [hg]; exact (below_size By) : w.heap.size ≤ gb231)); clear HB; have HB := n0_; have BK231 := n1_; have GW231 := n2_; have GE231 := n3_; clear n0_ n1_ n2_ n3_; clear hb hbox hg))
  go_loopg [5] k (fun kq v5 w' => ∃ (x5_1 : Int), v5 = .int .i64 x5_1 ∧ Aside0 (spec_l03At.l0 kq a1 x5_1 l0_0 l0_1 = some r) ∧ Aside0 (kq ≤ k) ∧ Aside0 (w'.heap[gb231]? = some (.cells #[(.slice A0_0 l0_0.length c0_0), (.slice A0_1 l0_1.length c0_1)] 37 (0, 0))) ∧ Aside0 (Below w.heap.size w w'))
  case atStart => exact ⟨(0), (by first | rfl | (simp; done) | (simp [*]; done)), H', ⟨Nat.le_refl _⟩, ⟨by (with_reducible repeat (first | refine blk_drewN ?_ _ | refine blk_drew ?_ | refine blk_alloc ?_ _)); exact BK231.out⟩, ⟨By⟩⟩
  case round =>
    clear H'
    try clear p2
    obtain ⟨x5_1, rfl, HA, HK1, BK231, HB⟩ := hrel
    cases gk with
    | zero => exact absurd HA.out (by simp [spec_l03At.l0])
    | succ k1 =>
      have H := HA.out
      clear HA
      simp only [spec_l03At.l0] at H
      by_cases c4 : x5_1 < (l0_1.length : Int)
      · rw [if_pos c4] at H
        have c4b0 : decide (x5_1 < (l0_1.length : Int)) = true := decide_eq_true c4
        clear c4
        by_cases c5 : 0 ≤ x5_1
        · rw [if_pos c5] at H
          have c5b0 : decide (0 ≤ x5_1) = true := decide_eq_true c5
          clear c5
          by_cases c6 : ((rd_T115 l0_1 x5_1).f0).toList = a1.toList
          · rw [if_pos c6] at H
            have c6b0 : (((rd_T115 l0_1 x5_1).f0).toList == a1.toList) = true := beq_iff_eq.mpr c6
            have c6b1 : (((rd_T115 l0_1 x5_1).f0).toList != a1.toList) = false := bne_eq_false_iff_eq.mpr c6
            clear c6
            obtain rfl := Option.some.inj H
            have hcz7_0 : wr.cell? ⟨gb231, 0, none⟩ = some (.slice A0_0 l0_0.length c0_0) := bc BK231.out 0
            have hcz7_1 : wr.cell? ⟨gb231, 1, none⟩ = some (.slice A0_1 l0_1.length c0_1) := bc BK231.out 1
            have hfz7_0 := blk_frozen BK231.out 0
            have hfz7_1 := blk_frozen BK231.out 1
            have p232 : 0 ≤ (x5_1 : Int) := of_decide_eq_true Da
            have q232 : x5_1 < (l0_1.length : Int) := of_decide_eq_true Da
            obtain ⟨ad232, A232_1, c232_1, e232, hx232_0, hx232_1, hl232_1, hi232_1⟩ := at_T115 HR0_1.out x5_1 p232 q232
            cases e232
            replace hx232_0 := bz HB.out hx232_0
            replace hx232_1 := bz HB.out hx232_1
            have HR232_1 := Aside0.mk hi232_1
            have HC232_1 := Aside0.mk hl232_1
            clear hi232_1 hl232_1
            replace p232 := eq_true p232
            replace q232 := eq_true q232
            go_wp2
            go_ret
            exact ⟨Rf, By⟩
          · rw [if_neg c6] at H
            have c6b0 : (((rd_T115 l0_1 x5_1).f0).toList == a1.toList) = false := beq_eq_false_iff_ne.mpr c6
            have c6b1 : (((rd_T115 l0_1 x5_1).f0).toList != a1.toList) = true := bne_iff_ne.mpr c6
            have H' := Aside0.mk H
            clear H
            have hcz8_0 : wr.cell? ⟨gb231, 0, none⟩ = some (.slice A0_0 l0_0.length c0_0) := bc BK231.out 0
            have hcz8_1 : wr.cell? ⟨gb231, 1, none⟩ = some (.slice A0_1 l0_1.length c0_1) := bc BK231.out 1
            have hfz8_0 := blk_frozen BK231.out 0
            have hfz8_1 := blk_frozen BK231.out 1
            have p232 : 0 ≤ (x5_1 : Int) := of_decide_eq_true Da
            have q232 : x5_1 < (l0_1.length : Int) := of_decide_eq_true Da
            obtain ⟨ad232, A232_1, c232_1, e232, hx232_0, hx232_1, hl232_1, hi232_1⟩ := at_T115 HR0_1.out x5_1 p232 q232
            cases e232
            replace hx232_0 := bz HB.out hx232_0
            replace hx232_1 := bz HB.out hx232_1
            have HR232_1 := Aside0.mk hi232_1
            have HC232_1 := Aside0.mk hl232_1
            clear hi232_1 hl232_1
            replace p232 := eq_true p232
            replace q232 := eq_true q232
            go_wp2
            go_roundg k1
            case measure => have := HK1.out; omega
            case rel => exact ⟨(wrap64 (x5_1 + 1)), (by first | rfl | (simp; done) | (simp [*]; done)), H', ⟨by have := HK1.out; omega⟩, ⟨by (with_reducible repeat (first | refine blk_drewN ?_ _ | refine blk_drew ?_ | refine blk_alloc ?_ _)); exact BK231.out⟩, ⟨By⟩⟩
        · rw [if_neg c5] at H
          exact absurd H (by simp)
      · rw [if_neg c4] at H
        have c4b0 : decide (x5_1 < (l0_1.length : Int)) = false := decide_eq_false c4
        clear c4
        obtain rfl := Option.some.inj H
        have hcz9_0 : wr.cell? ⟨gb231, 0, none⟩ = some (.slice A0_0 l0_0.length c0_0) := bc BK231.out 0
        have hcz9_1 : wr.cell? ⟨gb231, 1, none⟩ = some (.slice A0_1 l0_1.length c0_1) := bc BK231.out 1
        have hfz9_0 := blk_frozen BK231.out 0
        have hfz9_1 := blk_frozen BK231.out 1
        go_wp2
        go_ret
        exact ⟨Rf, By⟩

set_option linter.unusedVariables false
set_option linter.unusedSimpArgs false

/-! ### spec_l03Of: function 103 -/
def spec_l03Of.f (k : Nat) (l0_0 : List (S113)) (l0_1 : List (S115)) (a1 : ByteArray) : Option (List ByteArray) := (spec_l03At.f k l0_0 l0_1 a1).bind fun t234 => (if t234 < 0 then (some ([] : List ByteArray)) else (if 0 ≤ t234 then (if t234 < (l0_1.length : Int) then (some ((rd_T115 l0_1 t234).f1)) else (none)) else (none)))
theorem spec_l03Of.mono : ∀ a0 a1 a2 k, LeO (spec_l03Of.f k a0 a1 a2) (spec_l03Of.f (k + 1) a0 a1 a2) := by
  intro a0 a1 a2 k
  unfold spec_l03Of.f
  repeat' first
      | (with_reducible exact spec_l03At.mono _ _ _ _)
      | (with_reducible exact LeO.refl _)
      | (with_reducible exact LeO.none _)
      | (with_reducible refine LeO.ite ?_ ?_)
      | (with_reducible refine LeO.bind ?_ (fun _ => ?_))
      | exact spec_l03At.mono _ _ _ _
      | exact LeO.none _
      | refine LeO.ite ?_ ?_
      | refine LeO.bind ?_ (fun _ => ?_)
set_option maxHeartbeats 8000000 in
set_option maxRecDepth 100000 in
theorem spec_l03Of.calls (k : Nat) (A0_0 : Option Addr) (c0_0 : Nat) (l0_0 : List (S113)) (P0_1_ : Nat → Prop) (A0_1 : Option Addr) (c0_1 : Nat) (l0_1 : List (S115)) (a1 : ByteArray) (r : List ByteArray) (w : World) (hr0_0 : Kd.C k113 w A0_0 l0_0.length l0_0) (hc0_0 : l0_0.length ≤ c0_0) (hs0_1 : Kd.V k115 115 w w.heap.size (fun k_ => P0_1_ k_) (.slice A0_1 l0_1.length c0_1) l0_1) (h : spec_l03Of.f k l0_0 l0_1 a1 = some r) :
    Calls Tryz.prog 103 #[.agg #[.slice A0_0 l0_0.length c0_0, .slice A0_1 l0_1.length c0_1], .string a1] w fun e w' => ∃ v0_ : Value, e = .returned (v0_) ∧ Kd.V Kd.string 9 w' w.heap.size (fun k_ => (P0_1_ k_ ∨ w.heap.size ≤ k_)) v0_ r ∧ Below w.heap.size w w' := by
  have hu37 := Tryz.underlying37
  have HR0_0 := Aside0.mk hr0_0
  have HC0_0 := Aside0.mk hc0_0
  clear hr0_0 hc0_0
  have HO0_1 := Aside0.mk (show Kd.V k115 115 w w.heap.size (fun k_ => (P0_1_ k_ ∨ w.heap.size ≤ k_)) (.slice A0_1 l0_1.length c0_1) l0_1 from Kd.V_mono hs0_1 (fun k_ hk => .inl hk))
  have HB := Aside0.mk (Below.refl w.heap.size w)
  have H : ((spec_l03At.f k l0_0 l0_1 a1).bind fun t234 => (if t234 < 0 then (some ([] : List ByteArray)) else (if 0 ≤ t234 then (if t234 < (l0_1.length : Int) then (some ((rd_T115 l0_1 t234).f1)) else (none)) else (none)))) = some r := h
  clear h
  replace H := Option.bind_eq_some_iff.mp H
  obtain ⟨t234, A30, H⟩ := H
  replace H : (if t234 < 0 then (some ([] : List ByteArray)) else (if 0 ≤ t234 then (if t234 < (l0_1.length : Int) then (some ((rd_T115 l0_1 t234).f1)) else (none)) else (none))) = some r := H
  have A3 := Aside0.mk A30
  clear A30
  by_cases c4 : t234 < 0
  · rw [if_pos c4] at H
    have c4b0 : decide (t234 < 0) = true := decide_eq_true c4
    clear c4
    obtain rfl := Option.some.inj H
    go_enter Tryz.func103, Tryz.ntmps103
    go_wp2_with (first | ((with_reducible refine gate_dst (N := 2) rfl ?_); refine box_event ?hg (N := 2) ?hd (cs := #[.slice A0_0 l0_0.length c0_0, .slice A0_1 l0_1.length c0_1]) (t := 37) ?hr ?_; (case hd => rfl); (case hg => rfl); (case hr => first | (go_simp; done) | (go_simp; rfl)); intro gb233 hg w5 hbox hb; have n0_ := Aside0.mk (Kd.V_below (Kd.V_elderB (rV HO0_1.out) gb233 (Nat.le_of_eq hg.symm)) hb); have n1_ := Aside0.mk (below_step By hb); have n2_ := Aside0.mk (hbox); have n3_ := Aside0.mk ((by rw [hg]; exact (below_size By) : w.heap.size ≤ gb233)); have n4_ := Aside0.mk ((by rw [hg]; exact (below_size By) : w.heap.size ≤ gb233)); clear HO0_1; clear HB; have HO0_1 := n0_; have HB := n1_; have BK233 := n2_; have GW233 := n3_; have GE233 := n4_; clear n0_ n1_ n2_ n3_ n4_; clear hb hbox hg; have ⟨hcz6_0, hcz6_1⟩ := cq2 BK233.out; have ⟨hfz6_0, hfz6_1⟩ := fq2 BK233.out) | ((with_reducible refine gate_callee (f := 92) rfl ?_); refine goesL_ (some 8) rfl rfl Tryz.func92 (by kernel_rfl) rfl #[.agg #[.slice A0_0 l0_0.length c0_0, .slice A0_1 l0_1.length c0_1], .string a1] rfl Ag ?_; (with_reducible refine (spec_l03At.calls k _ _ l0_0 _ _ l0_1 a1 t234 _ ?side1 ?side2 ?side3 ?side4 A3.out).mono ?_); (case side1 => exact rC (Kd.C_below HR0_0.out HB.out)); (case side2 => exact HC0_0.out); (case side3 => repeat (first | exact (Kd.V_reads' HO0_1.out).2.2 | (with_reducible refine Kd.C_alloc ?_ _) | (with_reducible refine Kd.C_drewN ?_ _) | (with_reducible refine Kd.C_drew ?_))); (case side4 => exact (Kd.V_reads' HO0_1.out).2.1); rintro e w7 ⟨rfl, hb⟩; refine ⟨_, rfl, ?_⟩; have n0_ := Aside0.mk (Kd.V_below (rV HO0_1.out) hb); have n1_ := Aside0.mk (bb BK233.out hb); have n2_ := Aside0.mk (below_step By hb); clear HO0_1; clear BK233; clear HB; have HO0_1 := n0_; have BK233 := n1_; have HB := n2_; clear n0_ n1_ n2_; (try clear hb); (try clear hb2); (try clear hk); (try clear hi)))
    go_ret
    exact ⟨_, Rf, Kd.V_mono ((Kd.V_nil _ _ _ w.heap.size (fun k_ => w.heap.size ≤ k_))) (fun k_ hk => by first | exact ⟨(.inr (hk.1)), hk.2⟩ | exact (.inr (hk))), By⟩
  · rw [if_neg c4] at H
    have c4b0 : decide (t234 < 0) = false := decide_eq_false c4
    clear c4
    by_cases c8 : 0 ≤ t234
    · rw [if_pos c8] at H
      have c8b0 : decide (0 ≤ t234) = true := decide_eq_true c8
      clear c8
      by_cases c9 : t234 < (l0_1.length : Int)
      · rw [if_pos c9] at H
        have c9b0 : decide (t234 < (l0_1.length : Int)) = true := decide_eq_true c9
        clear c9
        obtain rfl := Option.some.inj H
        go_enter Tryz.func103, Tryz.ntmps103
        go_wp2_with (first | ((with_reducible refine gate_dst (N := 2) rfl ?_); refine box_event ?hg (N := 2) ?hd (cs := #[.slice A0_0 l0_0.length c0_0, .slice A0_1 l0_1.length c0_1]) (t := 37) ?hr ?_; (case hd => rfl); (case hg => rfl); (case hr => first | (go_simp; done) | (go_simp; rfl)); intro gb233 hg w10 hbox hb; have n0_ := Aside0.mk (Kd.V_below (Kd.V_elderB (rV HO0_1.out) gb233 (Nat.le_of_eq hg.symm)) hb); have n1_ := Aside0.mk (below_step By hb); have n2_ := Aside0.mk (hbox); have n3_ := Aside0.mk ((by rw [hg]; exact (below_size By) : w.heap.size ≤ gb233)); have n4_ := Aside0.mk ((by rw [hg]; exact (below_size By) : w.heap.size ≤ gb233)); clear HO0_1; clear HB; have HO0_1 := n0_; have HB := n1_; have BK233 := n2_; have GW233 := n3_; have GE233 := n4_; clear n0_ n1_ n2_ n3_ n4_; clear hb hbox hg; have ⟨hcz11_0, hcz11_1⟩ := cq2 BK233.out; have ⟨hfz11_0, hfz11_1⟩ := fq2 BK233.out) | ((with_reducible refine gate_callee (f := 92) rfl ?_); refine goesL_ (some 8) rfl rfl Tryz.func92 (by kernel_rfl) rfl #[.agg #[.slice A0_0 l0_0.length c0_0, .slice A0_1 l0_1.length c0_1], .string a1] rfl Ag ?_; (with_reducible refine (spec_l03At.calls k _ _ l0_0 _ _ l0_1 a1 t234 _ ?side1 ?side2 ?side3 ?side4 A3.out).mono ?_); (case side1 => exact rC (Kd.C_below HR0_0.out HB.out)); (case side2 => exact HC0_0.out); (case side3 => repeat (first | exact (Kd.V_reads' HO0_1.out).2.2 | (with_reducible refine Kd.C_alloc ?_ _) | (with_reducible refine Kd.C_drewN ?_ _) | (with_reducible refine Kd.C_drew ?_))); (case side4 => exact (Kd.V_reads' HO0_1.out).2.1); rintro e w12 ⟨rfl, hb⟩; refine ⟨_, rfl, ?_⟩; have n0_ := Aside0.mk (Kd.V_below (rV HO0_1.out) hb); have n1_ := Aside0.mk (bb BK233.out hb); have n2_ := Aside0.mk (below_step By hb); clear HO0_1; clear BK233; clear HB; have HO0_1 := n0_; have BK233 := n1_; have HB := n2_; clear n0_ n1_ n2_; (try clear hb); (try clear hb2); (try clear hk); (try clear hi); have ⟨hcz13_0, hcz13_1⟩ := cq2 BK233.out; have ⟨hfz13_0, hfz13_1⟩ := fq2 BK233.out; have p235 : 0 ≤ (t234 : Int) := of_decide_eq_true Da; have q235 : t234 < (l0_1.length : Int) := of_decide_eq_true Da; obtain ⟨ad235, A235_1, c235_1, e235, hx235_0, hx235_1, hl235_1, hi235_1⟩ := at_T115 (Kd.V_reads' HO0_1.out).2.2 t234 p235 q235; cases e235; obtain ⟨ce235, hce235, hMe235, hcc235⟩ := Kd.V_get HO0_1.out z115 t234 p235 (by first | exact q235 | exact of_decide_eq_true Da | (have e_ := (Kd.V_reads' HO0_1.out).1; omega)); obtain ⟨ua235_1, uc235_1, rfl, ul235_1, ge235_1⟩ := k115_openF hMe235; have hv235_1 := hcc235 1 _ rfl; rw [add_field _ _ 1 (by omega)] at hv235_1; replace hv235_1 := Option.some.inj (hv235_1.symm.trans hx235_1); injection hv235_1 with hva_ hvn_ hvc_; rw [hva_] at ge235_1; rw [hvc_] at ul235_1; have HL235_1 := Aside0.mk (show Kd.V Kd.string 9 _ w.heap.size _ _ ((rd_T115 l0_1 t234).f1) from Kd.V_mk ul235_1 ge235_1); clear hva_ hvn_ hvc_ ge235_1 ul235_1; clear hcc235 hce235; have HR235_1 := Aside0.mk hi235_1; have HC235_1 := Aside0.mk hl235_1; clear hi235_1 hl235_1; replace p235 := eq_true p235; replace q235 := eq_true q235))
        go_ret
        exact ⟨_, Rf, by (with_reducible repeat (first | apply Kd.V_alloc | apply Kd.V_drewN | apply Kd.V_drew)); exact Kd.V_mono HL235_1.out (fun _ hk => hk.1), By⟩
      · rw [if_neg c9] at H
        exact absurd H (by simp)
    · rw [if_neg c8] at H
      exact absurd H (by simp)

set_option linter.unusedVariables false
set_option linter.unusedSimpArgs false

/-! ### spec_l04Begins: function 119 -/
def spec_l04Begins.f (a0 : ByteArray) (a1 : ByteArray) : Option (Bool) := if (a0.size : Int) ≥ (a1.size : Int) then (if 0 ≤ (a1.size : Int) then (if (a1.size : Int) ≤ (a0.size : Int) then (some ((a0.extract 0 ((a1.size : Int) : Int).toNat).toList == a1.toList)) else (none)) else (none)) else (some false)
set_option maxHeartbeats 8000000 in
set_option maxRecDepth 100000 in
theorem spec_l04Begins.calls (a0 : ByteArray) (a1 : ByteArray) (r : Bool) (w : World) (h : spec_l04Begins.f a0 a1 = some r) :
    Calls Tryz.prog 119 #[.string a0, .string a1] w fun e w' => e = .returned (.bool r) ∧ Drawn0 w w' := by
  have H : (if (a0.size : Int) ≥ (a1.size : Int) then (if 0 ≤ (a1.size : Int) then (if (a1.size : Int) ≤ (a0.size : Int) then (some ((a0.extract 0 ((a1.size : Int) : Int).toNat).toList == a1.toList)) else (none)) else (none)) else (some false)) = some r := h
  clear h
  by_cases c3 : (a0.size : Int) ≥ (a1.size : Int)
  · rw [if_pos c3] at H
    have c3b0 : decide ((a1.size : Int) ≤ (a0.size : Int)) = true := decide_eq_true c3
    have c3b1 : decide (a1.size ≤ a0.size) = true := decide_eq_true (Int.ofNat_le.mp c3)
    clear c3
    by_cases c4 : 0 ≤ (a1.size : Int)
    · rw [if_pos c4] at H
      have c4b0 := eq_true c4
      have c4b1 : decide (0 ≤ (a1.size : Int)) = true := decide_eq_true c4
      clear c4
      by_cases c5 : (a1.size : Int) ≤ (a0.size : Int)
      · rw [if_pos c5] at H
        have c5b0 := eq_true c5
        have c5b1 : decide ((a1.size : Int) ≤ (a0.size : Int)) = true := decide_eq_true c5
        clear c5
        obtain rfl := Option.some.inj H
        go_enter Tryz.func119, Tryz.ntmps119
        go_wp2
        go_ret
        exact ⟨by first | rfl | (simp; done) | (simp [*]; done), by repeat (first | exact Drawn0.refl _ | apply Drawn0.step)⟩
      · rw [if_neg c5] at H
        exact absurd H (by simp)
    · rw [if_neg c4] at H
      exact absurd H (by simp)
  · rw [if_neg c3] at H
    have c3b0 : decide ((a1.size : Int) ≤ (a0.size : Int)) = false := decide_eq_false c3
    have c3b1 : decide (a1.size ≤ a0.size) = false := decide_eq_false (fun h => c3 (Int.ofNat_le.mpr h))
    clear c3
    obtain rfl := Option.some.inj H
    go_enter Tryz.func119, Tryz.ntmps119
    go_wp2
    go_ret
    exact ⟨by first | rfl | (simp; done) | (simp [*]; done), by repeat (first | exact Drawn0.refl _ | apply Drawn0.step)⟩

set_option linter.unusedVariables false
set_option linter.unusedSimpArgs false

/-! ### spec_l04Item: function 82 -/
mutual
def spec_l04Item.l0 : Nat → List ByteArray → ByteArray → Int → Int → ByteArray → ByteArray → Int → Option (Bool)
  | 0, _, _, _, _, _, _, _ => none
  | k + 1, x5, x6, x7, x237000, x237001, x237002, x237003 => if x7 < (x5.length : Int) then (if 0 ≤ x7 then ((spec_Norm.f k (rdOf ByteArray.empty x5 x7)).bind fun t243 => (if x237000 = 4 then (spec_l04Item.j1 k x5 x6 x7 t243 (t243.toList == x6.toList) x237000 x237001 x237002 x237003) else (spec_l04Item.j1 k x5 x6 x7 t243 false x237000 x237001 x237002 x237003))) else (none)) else (some false)
def spec_l04Item.j1 : Nat → List ByteArray → ByteArray → Int → ByteArray → Bool → Int → ByteArray → ByteArray → Int → Option (Bool)
  | 0, _, _, _, _, _, _, _, _, _ => none
  | k + 1, x5, x6, x7, x8, x27, x237000, x237001, x237002, x237003 => if x27 = true then (some true) else (if x237000 = 5 then (some true) else (if x237000 = 6 then ((spec_l04Begins.f x8 x6).bind fun t244 => (spec_l04Item.j2 k x5 x6 x7 x8 t244 x237000 x237001 x237002 x237003)) else (spec_l04Item.j2 k x5 x6 x7 x8 false x237000 x237001 x237002 x237003)))
def spec_l04Item.j2 : Nat → List ByteArray → ByteArray → Int → ByteArray → Bool → Int → ByteArray → ByteArray → Int → Option (Bool)
  | 0, _, _, _, _, _, _, _, _, _ => none
  | k + 1, x5, x6, x7, x8, x27, x237000, x237001, x237002, x237003 => if x27 = true then (some true) else (if x237000 = 7 then (spec_l04Item.j3 k x5 x6 x7 x8 (!(Op.bytesLess x8.toList x6.toList)) x237000 x237001 x237002 x237003) else (spec_l04Item.j3 k x5 x6 x7 x8 false x237000 x237001 x237002 x237003))
def spec_l04Item.j3 : Nat → List ByteArray → ByteArray → Int → ByteArray → Bool → Int → ByteArray → ByteArray → Int → Option (Bool)
  | 0, _, _, _, _, _, _, _, _, _ => none
  | k + 1, x5, x6, x7, x8, x27, x237000, x237001, x237002, x237003 => if x27 = true then (some true) else (if x237000 = 8 then (if ((Op.bytesLess x6.toList x8.toList) = true) then (spec_l04Item.l0 k x5 x6 (wrap64 (x7 + 1)) x237000 x237001 x237002 x237003) else (some true)) else (spec_l04Item.l0 k x5 x6 (wrap64 (x7 + 1)) x237000 x237001 x237002 x237003))
end
def spec_l04Item.f (k : Nat) (a0_0 : Int) (a0_1 : ByteArray) (a0_2 : ByteArray) (a0_3 : Int) (l1_0 : List (S113)) (l1_1 : List (S115)) : Option (Bool) := (spec_l03Of.f k l1_0 l1_1 a0_1).bind fun t238 => ((spec_Norm.f k a0_2).bind fun t241 => (spec_l04Item.l0 k t238 t241 0 a0_0 a0_1 a0_2 a0_3))
theorem spec_l04Item.mono_l : ∀ k, (∀ y0 y1 y2 y3 y4 y5 y6, LeO (spec_l04Item.l0 k y0 y1 y2 y3 y4 y5 y6) (spec_l04Item.l0 (k + 1) y0 y1 y2 y3 y4 y5 y6)) ∧ (∀ y0 y1 y2 y3 y4 y5 y6 y7 y8, LeO (spec_l04Item.j1 k y0 y1 y2 y3 y4 y5 y6 y7 y8) (spec_l04Item.j1 (k + 1) y0 y1 y2 y3 y4 y5 y6 y7 y8)) ∧ (∀ y0 y1 y2 y3 y4 y5 y6 y7 y8, LeO (spec_l04Item.j2 k y0 y1 y2 y3 y4 y5 y6 y7 y8) (spec_l04Item.j2 (k + 1) y0 y1 y2 y3 y4 y5 y6 y7 y8)) ∧ (∀ y0 y1 y2 y3 y4 y5 y6 y7 y8, LeO (spec_l04Item.j3 k y0 y1 y2 y3 y4 y5 y6 y7 y8) (spec_l04Item.j3 (k + 1) y0 y1 y2 y3 y4 y5 y6 y7 y8))
  | 0 => ⟨fun _ _ _ _ _ _ _ r h => by simp [spec_l04Item.l0] at h, fun _ _ _ _ _ _ _ _ _ r h => by simp [spec_l04Item.j1] at h, fun _ _ _ _ _ _ _ _ _ r h => by simp [spec_l04Item.j2] at h, fun _ _ _ _ _ _ _ _ _ r h => by simp [spec_l04Item.j3] at h⟩
  | k + 1 => by
    obtain ⟨ih0, ih1, ih2, ih3⟩ := spec_l04Item.mono_l k
    refine ⟨?_, ?_, ?_, ?_⟩
    · intro y0 y1 y2 y3 y4 y5 y6
      unfold spec_l04Item.l0
      repeat' first
      | (with_reducible exact ih0 _ _ _ _ _ _ _)
      | (with_reducible exact ih1 _ _ _ _ _ _ _ _ _)
      | (with_reducible exact ih2 _ _ _ _ _ _ _ _ _)
      | (with_reducible exact ih3 _ _ _ _ _ _ _ _ _)
      | (with_reducible exact spec_Norm.mono _ _)
      | (with_reducible exact spec_l03Of.mono _ _ _ _)
      | (with_reducible exact LeO.refl _)
      | (with_reducible exact LeO.none _)
      | (with_reducible refine LeO.ite ?_ ?_)
      | (with_reducible refine LeO.bind ?_ (fun _ => ?_))
      | exact ih0 _ _ _ _ _ _ _
      | exact ih1 _ _ _ _ _ _ _ _ _
      | exact ih2 _ _ _ _ _ _ _ _ _
      | exact ih3 _ _ _ _ _ _ _ _ _
      | exact spec_Norm.mono _ _
      | exact spec_l03Of.mono _ _ _ _
      | exact LeO.none _
      | refine LeO.ite ?_ ?_
      | refine LeO.bind ?_ (fun _ => ?_)
    · intro y0 y1 y2 y3 y4 y5 y6 y7 y8
      unfold spec_l04Item.j1
      repeat' first
      | (with_reducible exact ih0 _ _ _ _ _ _ _)
      | (with_reducible exact ih1 _ _ _ _ _ _ _ _ _)
      | (with_reducible exact ih2 _ _ _ _ _ _ _ _ _)
      | (with_reducible exact ih3 _ _ _ _ _ _ _ _ _)
      | (with_reducible exact spec_Norm.mono _ _)
      | (with_reducible exact spec_l03Of.mono _ _ _ _)
      | (with_reducible exact LeO.refl _)
      | (with_reducible exact LeO.none _)
      | (with_reducible refine LeO.ite ?_ ?_)
      | (with_reducible refine LeO.bind ?_ (fun _ => ?_))
      | exact ih0 _ _ _ _ _ _ _
      | exact ih1 _ _ _ _ _ _ _ _ _
      | exact ih2 _ _ _ _ _ _ _ _ _
      | exact ih3 _ _ _ _ _ _ _ _ _
      | exact spec_Norm.mono _ _
      | exact spec_l03Of.mono _ _ _ _
      | exact LeO.none _
      | refine LeO.ite ?_ ?_
      | refine LeO.bind ?_ (fun _ => ?_)
    · intro y0 y1 y2 y3 y4 y5 y6 y7 y8
      unfold spec_l04Item.j2
      repeat' first
      | (with_reducible exact ih0 _ _ _ _ _ _ _)
      | (with_reducible exact ih1 _ _ _ _ _ _ _ _ _)
      | (with_reducible exact ih2 _ _ _ _ _ _ _ _ _)
      | (with_reducible exact ih3 _ _ _ _ _ _ _ _ _)
      | (with_reducible exact spec_Norm.mono _ _)
      | (with_reducible exact spec_l03Of.mono _ _ _ _)
      | (with_reducible exact LeO.refl _)
      | (with_reducible exact LeO.none _)
      | (with_reducible refine LeO.ite ?_ ?_)
      | (with_reducible refine LeO.bind ?_ (fun _ => ?_))
      | exact ih0 _ _ _ _ _ _ _
      | exact ih1 _ _ _ _ _ _ _ _ _
      | exact ih2 _ _ _ _ _ _ _ _ _
      | exact ih3 _ _ _ _ _ _ _ _ _
      | exact spec_Norm.mono _ _
      | exact spec_l03Of.mono _ _ _ _
      | exact LeO.none _
      | refine LeO.ite ?_ ?_
      | refine LeO.bind ?_ (fun _ => ?_)
    · intro y0 y1 y2 y3 y4 y5 y6 y7 y8
      unfold spec_l04Item.j3
      repeat' first
      | (with_reducible exact ih0 _ _ _ _ _ _ _)
      | (with_reducible exact ih1 _ _ _ _ _ _ _ _ _)
      | (with_reducible exact ih2 _ _ _ _ _ _ _ _ _)
      | (with_reducible exact ih3 _ _ _ _ _ _ _ _ _)
      | (with_reducible exact spec_Norm.mono _ _)
      | (with_reducible exact spec_l03Of.mono _ _ _ _)
      | (with_reducible exact LeO.refl _)
      | (with_reducible exact LeO.none _)
      | (with_reducible refine LeO.ite ?_ ?_)
      | (with_reducible refine LeO.bind ?_ (fun _ => ?_))
      | exact ih0 _ _ _ _ _ _ _
      | exact ih1 _ _ _ _ _ _ _ _ _
      | exact ih2 _ _ _ _ _ _ _ _ _
      | exact ih3 _ _ _ _ _ _ _ _ _
      | exact spec_Norm.mono _ _
      | exact spec_l03Of.mono _ _ _ _
      | exact LeO.none _
      | refine LeO.ite ?_ ?_
      | refine LeO.bind ?_ (fun _ => ?_)
theorem spec_l04Item.mono : ∀ a0 a1 a2 a3 a4 a5 k, LeO (spec_l04Item.f k a0 a1 a2 a3 a4 a5) (spec_l04Item.f (k + 1) a0 a1 a2 a3 a4 a5) := by
  intro a0 a1 a2 a3 a4 a5 k
  obtain ⟨ih0, ih1, ih2, ih3⟩ := spec_l04Item.mono_l k
  unfold spec_l04Item.f
  repeat' first
      | (with_reducible exact ih0 _ _ _ _ _ _ _)
      | (with_reducible exact ih1 _ _ _ _ _ _ _ _ _)
      | (with_reducible exact ih2 _ _ _ _ _ _ _ _ _)
      | (with_reducible exact ih3 _ _ _ _ _ _ _ _ _)
      | (with_reducible exact spec_Norm.mono _ _)
      | (with_reducible exact spec_l03Of.mono _ _ _ _)
      | (with_reducible exact LeO.refl _)
      | (with_reducible exact LeO.none _)
      | (with_reducible refine LeO.ite ?_ ?_)
      | (with_reducible refine LeO.bind ?_ (fun _ => ?_))
      | exact ih0 _ _ _ _ _ _ _
      | exact ih1 _ _ _ _ _ _ _ _ _
      | exact ih2 _ _ _ _ _ _ _ _ _
      | exact ih3 _ _ _ _ _ _ _ _ _
      | exact spec_Norm.mono _ _
      | exact spec_l03Of.mono _ _ _ _
      | exact LeO.none _
      | refine LeO.ite ?_ ?_
      | refine LeO.bind ?_ (fun _ => ?_)
set_option maxHeartbeats 8000000 in
set_option maxRecDepth 100000 in
theorem spec_l04Item.calls (k : Nat) (a0_0 : Int) (a0_1 : ByteArray) (a0_2 : ByteArray) (a0_3 : Int) (A1_0 : Option Addr) (c1_0 : Nat) (l1_0 : List (S113)) (A1_1 : Option Addr) (c1_1 : Nat) (l1_1 : List (S115)) (r : Bool) (w : World) (hr1_0 : Kd.C k113 w A1_0 l1_0.length l1_0) (hc1_0 : l1_0.length ≤ c1_0) (hr1_1 : Kd.C k115 w A1_1 l1_1.length l1_1) (hc1_1 : l1_1.length ≤ c1_1) (h : spec_l04Item.f k a0_0 a0_1 a0_2 a0_3 l1_0 l1_1 = some r) :
    Calls Tryz.prog 82 #[.agg #[.int .i64 a0_0, .string a0_1, .string a0_2, .int .i64 a0_3], .agg #[.slice A1_0 l1_0.length c1_0, .slice A1_1 l1_1.length c1_1]] w fun e w' => e = .returned (.bool r) ∧ Below w.heap.size w w' := by
  have hu87 := Tryz.underlying87
  have hu37 := Tryz.underlying37
  have HR1_0 := Aside0.mk hr1_0
  have HC1_0 := Aside0.mk hc1_0
  clear hr1_0 hc1_0
  have HR1_1 := Aside0.mk hr1_1
  have HC1_1 := Aside0.mk hc1_1
  clear hr1_1 hc1_1
  have HB := Aside0.mk (Below.refl w.heap.size w)
  have H : ((spec_l03Of.f k l1_0 l1_1 a0_1).bind fun t238 => ((spec_Norm.f k a0_2).bind fun t241 => (spec_l04Item.l0 k t238 t241 0 a0_0 a0_1 a0_2 a0_3))) = some r := h
  clear h
  replace H := Option.bind_eq_some_iff.mp H
  obtain ⟨t238, A30, H⟩ := H
  replace H : ((spec_Norm.f k a0_2).bind fun t241 => (spec_l04Item.l0 k t238 t241 0 a0_0 a0_1 a0_2 a0_3)) = some r := H
  have A3 := Aside0.mk A30
  clear A30
  replace H := Option.bind_eq_some_iff.mp H
  obtain ⟨t241, A40, H⟩ := H
  replace H : (spec_l04Item.l0 k t238 t241 0 a0_0 a0_1 a0_2 a0_3) = some r := H
  have A4 := Aside0.mk A40
  clear A40
  have H' := Aside0.mk H
  clear H
  go_enter Tryz.func82, Tryz.ntmps82
  go_wp2_with (first | ((with_reducible refine gate_dst (N := 2) rfl ?_); refine box_event ?hg (N := 2) ?hd (cs := #[.int .i64 a0_0, .string a0_1, .string a0_2, .int .i64 a0_3]) (t := 87) ?hr ?_; (case hd => rfl); (case hg => rfl); (case hr => first | (go_simp; done) | (go_simp; rfl)); intro gb236 hg w5 hbox hb; have n0_ := Aside0.mk (below_step By hb); have n1_ := Aside0.mk (hbox); have n2_ := Aside0.mk ((by rw [hg]; exact (below_size By) : w.heap.size ≤ gb236)); have n3_ := Aside0.mk ((by rw [hg]; exact (below_size By) : w.heap.size ≤ gb236)); clear HB; have HB := n0_; have BK236 := n1_; have GW236 := n2_; have GE236 := n3_; clear n0_ n1_ n2_ n3_; clear hb hbox hg) | ((with_reducible refine gate_dst (N := 3) rfl ?_); refine box_event ?hg (N := 3) ?hd (cs := #[.slice A1_0 l1_0.length c1_0, .slice A1_1 l1_1.length c1_1]) (t := 37) ?hr ?_; (case hd => rfl); (case hg => rfl); (case hr => first | (go_simp; done) | (go_simp; rfl)); intro gb237 hg w6 hbox hb; have n0_ := Aside0.mk (bb BK236.out hb); have n1_ := Aside0.mk (below_step By hb); have n2_ := Aside0.mk (hbox); have n3_ := Aside0.mk ((by rw [hg]; exact (below_size By) : w.heap.size ≤ gb237)); have n4_ := Aside0.mk ((by rw [hg]; exact (below_size By) : w.heap.size ≤ gb237)); have n5_ := Aside0.mk ((by rw [hg]; exact Nat.ne_of_lt (bl BK236.out) : gb236 ≠ gb237)); have n6_ := Aside0.mk ((by rw [hg]; exact Nat.ne_of_gt (bl BK236.out) : gb237 ≠ gb236)); clear BK236; clear HB; have BK236 := n0_; have HB := n1_; have BK237 := n2_; have GW237 := n3_; have GE237 := n4_; have NB236_237 := n5_; have NB237_236 := n6_; clear n0_ n1_ n2_ n3_ n4_ n5_ n6_; clear hb hbox hg; have hnb7 := NB237_236.out; have hnc7 := NB236_237.out; have ⟨hcz8_0, hcz8_1⟩ := cq2 BK237.out; have ⟨hfz8_0, hfz8_1⟩ := fq2 BK237.out; have ⟨hcz9_0, hcz9_1, hcz9_2, hcz9_3⟩ := cq4 BK236.out; have ⟨hfz9_0, hfz9_1, hfz9_2, hfz9_3⟩ := fq4 BK236.out) | ((with_reducible refine gate_callee (f := 103) rfl ?_); refine goesL_ (some 12) rfl rfl Tryz.func103 (by kernel_rfl) rfl #[.agg #[.slice A1_0 l1_0.length c1_0, .slice A1_1 l1_1.length c1_1], .string a0_1] rfl Ag ?_; (with_reducible refine (spec_l03Of.calls k _ _ l1_0 (fun k_ => k_ < w.heap.size) _ _ l1_1 a0_1 t238 _ ?side1 ?side2 ?side3 A3.out).mono ?_); (case side1 => exact rC (Kd.C_below HR1_0.out HB.out)); (case side2 => exact HC1_0.out); (case side3 => exact Kd.V_mk HC1_1.out (Kd.F_below (Kd.C_F k115_heap HR1_1.out) By)); rintro e w10 ⟨v239, rfl, ho0, hb⟩; refine ⟨_, rfl, ?_⟩; have n0_ := Aside0.mk (Kd.V_lower (Kd.V_mono (ok' := fun k_ => k_ ≠ gb236 ∧ k_ ≠ gb237) ho0 (fun k_ hk_ => ⟨Or.elim hk_ (fun hs_ => fun e_ => Nat.not_le.2 hs_ (by rw [e_]; exact GW236.out)) (fun hn_ => (Kd.freshB (g := gb236) (o := .cells #[.int .i64 a0_0, .string a0_1, .string a0_2, .int .i64 a0_3] 87 (0, 0)) Pk k_ hn_)), Or.elim hk_ (fun hs_ => fun e_ => Nat.not_le.2 hs_ (by rw [e_]; exact GW237.out)) (fun hn_ => (Kd.freshB (g := gb237) (o := .cells #[.slice A1_0 l1_0.length c1_0, .slice A1_1 l1_1.length c1_1] 37 (0, 0)) Pk k_ hn_))⟩)) (below_size By)); have n1_ := Aside0.mk (bb BK236.out hb); have n2_ := Aside0.mk (bb BK237.out hb); have n3_ := Aside0.mk (below_step By hb); clear BK236; clear BK237; clear HB; have HO240 := n0_; have BK236 := n1_; have BK237 := n2_; have HB := n3_; clear n0_ n1_ n2_ n3_; (try clear hb); (try clear hb2); (try clear hk); (try clear hi); (try clear ho0); have ⟨hcz11_0, hcz11_1, hcz11_2, hcz11_3⟩ := cq4 BK236.out; have ⟨hfz11_0, hfz11_1, hfz11_2, hfz11_3⟩ := fq4 BK236.out) | ((with_reducible refine gate_callee (f := 118) rfl ?_); refine goesL_ (some 15) rfl rfl Tryz.func118 (by kernel_rfl) rfl #[.string a0_2] rfl Ag ?_; (with_reducible refine (spec_Norm.calls k a0_2 t241 _ A4.out).mono ?_); rintro e w12 ⟨rfl, hb⟩; refine ⟨_, rfl, ?_⟩; have n0_ := Aside0.mk (Kd.V_below (rV HO240.out) hb); have n1_ := Aside0.mk (bb BK236.out hb); have n2_ := Aside0.mk (bb BK237.out hb); have n3_ := Aside0.mk (below_step By hb); clear HO240; clear BK236; clear BK237; clear HB; have HO240 := n0_; have BK236 := n1_; have BK237 := n2_; have HB := n3_; clear n0_ n1_ n2_ n3_; (try clear hb); (try clear hb2); (try clear hk); (try clear hi)))
  go_loopg [7] k (fun kq v7 w' => ∃ (x7_1 : Int), v7 = .int .i64 x7_1 ∧ Aside0 (spec_l04Item.l0 kq t238 t241 x7_1 a0_0 a0_1 a0_2 a0_3 = some r) ∧ Aside0 (kq ≤ k) ∧ Aside0 (Kd.V Kd.string 9 w' w.heap.size (fun k_ => k_ ≠ gb236 ∧ k_ ≠ gb237) v239 t238) ∧ Aside0 (w'.heap[gb236]? = some (.cells #[.int .i64 a0_0, .string a0_1, .string a0_2, .int .i64 a0_3] 87 (0, 0))) ∧ Aside0 (w'.heap[gb237]? = some (.cells #[(.slice A1_0 l1_0.length c1_0), (.slice A1_1 l1_1.length c1_1)] 37 (0, 0))) ∧ Aside0 (Below w.heap.size w w'))
  case atStart => exact ⟨(0), (by first | rfl | (simp; done) | (simp [*]; done)), H', ⟨Nat.le_refl _⟩, ⟨by (with_reducible repeat (first | apply Kd.V_alloc | apply Kd.V_drewN | apply Kd.V_drew)); exact HO240.out⟩, ⟨by (with_reducible repeat (first | refine blk_drewN ?_ _ | refine blk_drew ?_ | refine blk_alloc ?_ _)); exact BK236.out⟩, ⟨by (with_reducible repeat (first | refine blk_drewN ?_ _ | refine blk_drew ?_ | refine blk_alloc ?_ _)); exact BK237.out⟩, ⟨By⟩⟩
  case round =>
    clear H'
    try clear c1
    try clear p2
    try clear c7
    try clear c8
    try clear c10
    try clear c11
    try clear hcz11_0
    try clear hcz11_1
    try clear hcz11_2
    try clear hcz11_3
    try clear hcz8_0
    try clear hcz8_1
    try clear hcz9_0
    try clear hcz9_1
    try clear hcz9_2
    try clear hcz9_3
    try clear hfz11_0
    try clear hfz11_1
    try clear hfz11_2
    try clear hfz11_3
    try clear hfz8_0
    try clear hfz8_1
    try clear hfz9_0
    try clear hfz9_1
    try clear hfz9_2
    try clear hfz9_3
    obtain ⟨x7_1, rfl, HA, HK1, HO_5, BK236, BK237, HB⟩ := hrel
    cases gk with
    | zero => exact absurd HA.out (by simp [spec_l04Item.l0])
    | succ k1 =>
      have H := HA.out
      clear HA
      simp only [spec_l04Item.l0] at H
      by_cases c13 : x7_1 < (t238.length : Int)
      · rw [if_pos c13] at H
        have c13b0 : decide (x7_1 < (t238.length : Int)) = true := decide_eq_true c13
        clear c13
        by_cases c14 : 0 ≤ x7_1
        · rw [if_pos c14] at H
          have c14b0 : decide (0 ≤ x7_1) = true := decide_eq_true c14
          clear c14
          replace H := Option.bind_eq_some_iff.mp H
          obtain ⟨t243, A150, H⟩ := H
          replace H : (if a0_0 = 4 then (spec_l04Item.j1 k1 t238 t241 x7_1 t243 (t243.toList == t241.toList) a0_0 a0_1 a0_2 a0_3) else (spec_l04Item.j1 k1 t238 t241 x7_1 t243 false a0_0 a0_1 a0_2 a0_3)) = some r := H
          have A15 := Aside0.mk A150
          clear A150
          have HC16 := Aside0.mk H
          clear H
          obtain ⟨Ao17, co17, eo17⟩ := Kd.V_slice HO_5.out
          subst eo17
          have p242 : 0 ≤ (x7_1 : Int) := of_decide_eq_true Da
          have q242 : x7_1 < (t238.length : Int) := of_decide_eq_true Da
          obtain ⟨ad242, e242, hx242_0⟩ := Kd.at_string (Kd.V_reads' HO_5.out).2.2 x7_1 p242 q242
          cases e242
          replace p242 := eq_true p242
          replace q242 := eq_true q242
          go_upto_region 7 with (first | ((with_reducible refine gate_callee (f := 118) rfl ?_); refine goesL_ (some 26) rfl rfl Tryz.func118 (by kernel_rfl) rfl #[.string (rdOf ByteArray.empty t238 x7_1)] rfl Ag ?_; (with_reducible refine (spec_Norm.calls k1 (rdOf ByteArray.empty t238 x7_1) t243 _ A15.out).mono ?_); rintro e w18 ⟨rfl, hb⟩; refine ⟨_, rfl, ?_⟩; have n0_ := Aside0.mk (Kd.V_below (rV HO_5.out) hb); have n1_ := Aside0.mk (bb BK236.out hb); have n2_ := Aside0.mk (bb BK237.out hb); have n3_ := Aside0.mk (below_step By hb); clear HO_5; clear BK236; clear BK237; clear HB; have HO_5 := n0_; have BK236 := n1_; have BK237 := n2_; have HB := n3_; clear n0_ n1_ n2_ n3_; (try clear hb); (try clear hb2); (try clear hk); (try clear hi)))
          (try simp only [Act.put, List.setIfInBounds_toArray, List.set_cons_zero, List.set_cons_succ])
          go_cut [27] (fun v27 wc => ∃ (kq : Nat) (x27_15 : Bool), v27 = .bool x27_15 ∧ Aside0 (spec_l04Item.j1 kq t238 t241 x7_1 t243 x27_15 a0_0 a0_1 a0_2 a0_3 = some r) ∧ Aside0 (kq ≤ k1) ∧ Aside0 (Kd.V Kd.string 9 wc w.heap.size (fun k_ => k_ ≠ gb236 ∧ k_ ≠ gb237) (.slice (some ad242) t238.length co17) t238) ∧ Aside0 (wc.heap[gb236]? = some (.cells #[.int .i64 a0_0, .string a0_1, .string a0_2, .int .i64 a0_3] 87 (0, 0))) ∧ Aside0 (wc.heap[gb237]? = some (.cells #[(.slice A1_0 l1_0.length c1_0), (.slice A1_1 l1_1.length c1_1)] 37 (0, 0))) ∧ Aside0 (Below w.heap.size w wc))
          case first =>
            have H := HC16.out
            clear HC16
            by_cases c19 : a0_0 = 4
            · rw [if_pos c19] at H
              have c19b0 : (a0_0 == 4) = true := beq_iff_eq.mpr c19
              have c19b1 : (a0_0 != 4) = false := bne_eq_false_iff_eq.mpr c19
              clear c19
              (first | rw [c19b0] | (simp only [i64_w, i32_w]; rw [c19b0]) | skip)
              have H' := Aside0.mk H
              clear H
              have hnb20 := NB236_237.out
              have hnc20 := NB237_236.out
              have hcz21_0 : w18.cell? ⟨gb236, 0, none⟩ = some (.int .i64 a0_0) := bc BK236.out 0
              have hcz21_1 : w18.cell? ⟨gb236, 1, none⟩ = some (.string a0_1) := bc BK236.out 1
              have hcz21_2 : w18.cell? ⟨gb236, 2, none⟩ = some (.string a0_2) := bc BK236.out 2
              have hcz21_3 : w18.cell? ⟨gb236, 3, none⟩ = some (.int .i64 a0_3) := bc BK236.out 3
              have hfz21_0 := blk_frozen BK236.out 0
              have hfz21_1 := blk_frozen BK236.out 1
              have hfz21_2 := blk_frozen BK236.out 2
              have hfz21_3 := blk_frozen BK236.out 3
              go_wp2
              go_meet
              case rel => exact ⟨_, ((t243.toList == t241.toList)), (by first | rfl | (simp; done) | (simp [*]; done)), H', ⟨by have := HK1.out; first | omega | exact Nat.le_refl _⟩, ⟨by (with_reducible repeat (first | apply Kd.V_alloc | apply Kd.V_drewN | apply Kd.V_drew)); exact HO_5.out⟩, ⟨by (with_reducible repeat (first | refine blk_drewN ?_ _ | refine blk_drew ?_ | refine blk_alloc ?_ _)); exact BK236.out⟩, ⟨by (with_reducible repeat (first | refine blk_drewN ?_ _ | refine blk_drew ?_ | refine blk_alloc ?_ _)); exact BK237.out⟩, ⟨By⟩⟩
            · rw [if_neg c19] at H
              have c19b0 : (a0_0 == 4) = false := beq_eq_false_iff_ne.mpr c19
              have c19b1 : (a0_0 != 4) = true := bne_iff_ne.mpr c19
              (first | rw [c19b0] | (simp only [i64_w, i32_w]; rw [c19b0]) | skip)
              have H' := Aside0.mk H
              clear H
              have hnb22 := NB236_237.out
              have hnc22 := NB237_236.out
              have hcz23_0 : w18.cell? ⟨gb236, 0, none⟩ = some (.int .i64 a0_0) := bc BK236.out 0
              have hcz23_1 : w18.cell? ⟨gb236, 1, none⟩ = some (.string a0_1) := bc BK236.out 1
              have hcz23_2 : w18.cell? ⟨gb236, 2, none⟩ = some (.string a0_2) := bc BK236.out 2
              have hcz23_3 : w18.cell? ⟨gb236, 3, none⟩ = some (.int .i64 a0_3) := bc BK236.out 3
              have hfz23_0 := blk_frozen BK236.out 0
              have hfz23_1 := blk_frozen BK236.out 1
              have hfz23_2 := blk_frozen BK236.out 2
              have hfz23_3 := blk_frozen BK236.out 3
              go_wp2
              go_meet
              case rel => exact ⟨_, (false), (by first | rfl | (simp; done) | (simp [*]; done)), H', ⟨by have := HK1.out; first | omega | exact Nat.le_refl _⟩, ⟨by (with_reducible repeat (first | apply Kd.V_alloc | apply Kd.V_drewN | apply Kd.V_drew)); exact HO_5.out⟩, ⟨by (with_reducible repeat (first | refine blk_drewN ?_ _ | refine blk_drew ?_ | refine blk_alloc ?_ _)); exact BK236.out⟩, ⟨by (with_reducible repeat (first | refine blk_drewN ?_ _ | refine blk_drew ?_ | refine blk_alloc ?_ _)); exact BK237.out⟩, ⟨By⟩⟩
          case rest =>
            clear HC16
            try clear c1
            try clear c2
            try clear p2
            try clear q2
            try clear hx2
            try clear c7
            try clear c8
            try clear c10
            try clear c11
            try clear c13
            try clear c13b0
            try clear c14
            try clear c14b0
            try clear c19
            try clear c19b0
            try clear c19b1
            try clear c20
            try clear c22
            try clear hcz11_0
            try clear hcz11_1
            try clear hcz11_2
            try clear hcz11_3
            try clear hcz21_0
            try clear hcz21_1
            try clear hcz21_2
            try clear hcz21_3
            try clear hcz23_0
            try clear hcz23_1
            try clear hcz23_2
            try clear hcz23_3
            try clear hcz8_0
            try clear hcz8_1
            try clear hcz9_0
            try clear hcz9_1
            try clear hcz9_2
            try clear hcz9_3
            try clear hfz11_0
            try clear hfz11_1
            try clear hfz11_2
            try clear hfz11_3
            try clear hfz21_0
            try clear hfz21_1
            try clear hfz21_2
            try clear hfz21_3
            try clear hfz23_0
            try clear hfz23_1
            try clear hfz23_2
            try clear hfz23_3
            try clear hfz8_0
            try clear hfz8_1
            try clear hfz9_0
            try clear hfz9_1
            try clear hfz9_2
            try clear hfz9_3
            try clear hx242_0
            try clear p2
            try clear p242
            try clear q242
            obtain ⟨kq, x27_15, rfl, HA, HJ15, HO_5, BK236, BK237, HB⟩ := hcut
            cases kq with
            | zero => exact absurd HA.out (by simp [spec_l04Item.j1])
            | succ kj15 =>
              have H := HA.out
              clear HA
              simp only [spec_l04Item.j1] at H
              by_cases c24 : x27_15 = true
              · subst c24
                have H1 : (some true) = some r := by rw [if_pos rfl] at H; exact H
                clear H
                have H := H1
                clear H1
                obtain rfl := Option.some.inj H
                go_wp2
                go_ret
                exact ⟨Rf, By⟩
              · replace c24 := Bool.eq_false_iff.mpr c24
                subst c24
                have H1 : (if a0_0 = 5 then (some true) else (if a0_0 = 6 then ((spec_l04Begins.f t243 t241).bind fun t244 => (spec_l04Item.j2 kj15 t238 t241 x7_1 t243 t244 a0_0 a0_1 a0_2 a0_3)) else (spec_l04Item.j2 kj15 t238 t241 x7_1 t243 false a0_0 a0_1 a0_2 a0_3))) = some r := by rw [if_neg (show ¬ (false = true) by decide)] at H; exact H
                clear H
                have H := H1
                clear H1
                by_cases c25 : a0_0 = 5
                · rw [if_pos c25] at H
                  have c25b0 : (a0_0 == 5) = true := beq_iff_eq.mpr c25
                  have c25b1 : (a0_0 != 5) = false := bne_eq_false_iff_eq.mpr c25
                  clear c25
                  obtain rfl := Option.some.inj H
                  have hnb26 := NB236_237.out
                  have hnc26 := NB237_236.out
                  have hcz27_0 : wc.cell? ⟨gb236, 0, none⟩ = some (.int .i64 a0_0) := bc BK236.out 0
                  have hcz27_1 : wc.cell? ⟨gb236, 1, none⟩ = some (.string a0_1) := bc BK236.out 1
                  have hcz27_2 : wc.cell? ⟨gb236, 2, none⟩ = some (.string a0_2) := bc BK236.out 2
                  have hcz27_3 : wc.cell? ⟨gb236, 3, none⟩ = some (.int .i64 a0_3) := bc BK236.out 3
                  have hfz27_0 := blk_frozen BK236.out 0
                  have hfz27_1 := blk_frozen BK236.out 1
                  have hfz27_2 := blk_frozen BK236.out 2
                  have hfz27_3 := blk_frozen BK236.out 3
                  go_wp2
                  go_ret
                  exact ⟨Rf, By⟩
                · rw [if_neg c25] at H
                  have c25b0 : (a0_0 == 5) = false := beq_eq_false_iff_ne.mpr c25
                  have c25b1 : (a0_0 != 5) = true := bne_iff_ne.mpr c25
                  have HC28 := Aside0.mk H
                  clear H
                  have hnb29 := NB236_237.out
                  have hnc29 := NB237_236.out
                  have hcz30_0 : wc.cell? ⟨gb236, 0, none⟩ = some (.int .i64 a0_0) := bc BK236.out 0
                  have hcz30_1 : wc.cell? ⟨gb236, 1, none⟩ = some (.string a0_1) := bc BK236.out 1
                  have hcz30_2 : wc.cell? ⟨gb236, 2, none⟩ = some (.string a0_2) := bc BK236.out 2
                  have hcz30_3 : wc.cell? ⟨gb236, 3, none⟩ = some (.int .i64 a0_3) := bc BK236.out 3
                  have hfz30_0 := blk_frozen BK236.out 0
                  have hfz30_1 := blk_frozen BK236.out 1
                  have hfz30_2 := blk_frozen BK236.out 2
                  have hfz30_3 := blk_frozen BK236.out 3
                  go_upto_region 9 with (fail)
                  go_cut [27] (fun v27 wc => ∃ (kq : Nat) (x27_27 : Bool), v27 = .bool x27_27 ∧ Aside0 (spec_l04Item.j2 kq t238 t241 x7_1 t243 x27_27 a0_0 a0_1 a0_2 a0_3 = some r) ∧ Aside0 (kq ≤ kj15) ∧ Aside0 (Kd.V Kd.string 9 wc w.heap.size (fun k_ => k_ ≠ gb236 ∧ k_ ≠ gb237) (.slice (some ad242) t238.length co17) t238) ∧ Aside0 (wc.heap[gb236]? = some (.cells #[.int .i64 a0_0, .string a0_1, .string a0_2, .int .i64 a0_3] 87 (0, 0))) ∧ Aside0 (wc.heap[gb237]? = some (.cells #[(.slice A1_0 l1_0.length c1_0), (.slice A1_1 l1_1.length c1_1)] 37 (0, 0))) ∧ Aside0 (Below w.heap.size w wc))
                  case first =>
                    have H := HC28.out
                    clear HC28
                    by_cases c31 : a0_0 = 6
                    · rw [if_pos c31] at H
                      have c31b0 : (a0_0 == 6) = true := beq_iff_eq.mpr c31
                      have c31b1 : (a0_0 != 6) = false := bne_eq_false_iff_eq.mpr c31
                      clear c31
                      (first | rw [c31b0] | (simp only [i64_w, i32_w]; rw [c31b0]) | skip)
                      replace H := Option.bind_eq_some_iff.mp H
                      obtain ⟨t244, A320, H⟩ := H
                      replace H : (spec_l04Item.j2 kj15 t238 t241 x7_1 t243 t244 a0_0 a0_1 a0_2 a0_3) = some r := H
                      have A32 := Aside0.mk A320
                      clear A320
                      have H' := Aside0.mk H
                      clear H
                      have hnb33 := NB236_237.out
                      have hnc33 := NB237_236.out
                      have hcz34_0 : wc.cell? ⟨gb236, 0, none⟩ = some (.int .i64 a0_0) := bc BK236.out 0
                      have hcz34_1 : wc.cell? ⟨gb236, 1, none⟩ = some (.string a0_1) := bc BK236.out 1
                      have hcz34_2 : wc.cell? ⟨gb236, 2, none⟩ = some (.string a0_2) := bc BK236.out 2
                      have hcz34_3 : wc.cell? ⟨gb236, 3, none⟩ = some (.int .i64 a0_3) := bc BK236.out 3
                      have hfz34_0 := blk_frozen BK236.out 0
                      have hfz34_1 := blk_frozen BK236.out 1
                      have hfz34_2 := blk_frozen BK236.out 2
                      have hfz34_3 := blk_frozen BK236.out 3
                      go_wp2_with (first | (go_at_call 119; (with_reducible refine (spec_l04Begins.calls t243 t241 t244 _ A32.out).mono ?_); rintro e w' ⟨rfl, ⟨nd, rfl⟩⟩))
                      go_meet
                      case rel => exact ⟨_, (t244), (by first | rfl | (simp; done) | (simp [*]; done)), H', ⟨by have := HK1.out; have := HJ15.out; first | omega | exact Nat.le_refl _⟩, ⟨by (with_reducible repeat (first | apply Kd.V_alloc | apply Kd.V_drewN | apply Kd.V_drew)); exact HO_5.out⟩, ⟨by (with_reducible repeat (first | refine blk_drewN ?_ _ | refine blk_drew ?_ | refine blk_alloc ?_ _)); exact BK236.out⟩, ⟨by (with_reducible repeat (first | refine blk_drewN ?_ _ | refine blk_drew ?_ | refine blk_alloc ?_ _)); exact BK237.out⟩, ⟨By⟩⟩
                    · rw [if_neg c31] at H
                      have c31b0 : (a0_0 == 6) = false := beq_eq_false_iff_ne.mpr c31
                      have c31b1 : (a0_0 != 6) = true := bne_iff_ne.mpr c31
                      (first | rw [c31b0] | (simp only [i64_w, i32_w]; rw [c31b0]) | skip)
                      have H' := Aside0.mk H
                      clear H
                      have hnb35 := NB236_237.out
                      have hnc35 := NB237_236.out
                      have hcz36_0 : wc.cell? ⟨gb236, 0, none⟩ = some (.int .i64 a0_0) := bc BK236.out 0
                      have hcz36_1 : wc.cell? ⟨gb236, 1, none⟩ = some (.string a0_1) := bc BK236.out 1
                      have hcz36_2 : wc.cell? ⟨gb236, 2, none⟩ = some (.string a0_2) := bc BK236.out 2
                      have hcz36_3 : wc.cell? ⟨gb236, 3, none⟩ = some (.int .i64 a0_3) := bc BK236.out 3
                      have hfz36_0 := blk_frozen BK236.out 0
                      have hfz36_1 := blk_frozen BK236.out 1
                      have hfz36_2 := blk_frozen BK236.out 2
                      have hfz36_3 := blk_frozen BK236.out 3
                      go_wp2
                      go_meet
                      case rel => exact ⟨_, (false), (by first | rfl | (simp; done) | (simp [*]; done)), H', ⟨by have := HK1.out; have := HJ15.out; first | omega | exact Nat.le_refl _⟩, ⟨by (with_reducible repeat (first | apply Kd.V_alloc | apply Kd.V_drewN | apply Kd.V_drew)); exact HO_5.out⟩, ⟨by (with_reducible repeat (first | refine blk_drewN ?_ _ | refine blk_drew ?_ | refine blk_alloc ?_ _)); exact BK236.out⟩, ⟨by (with_reducible repeat (first | refine blk_drewN ?_ _ | refine blk_drew ?_ | refine blk_alloc ?_ _)); exact BK237.out⟩, ⟨By⟩⟩
                  case rest =>
                    clear HC28
                    try clear c1
                    try clear c2
                    try clear p2
                    try clear q2
                    try clear hx2
                    try clear c3
                    try clear c7
                    try clear c8
                    try clear c10
                    try clear c11
                    try clear c13
                    try clear c13b0
                    try clear c14
                    try clear c14b0
                    try clear c19
                    try clear c19b0
                    try clear c19b1
                    try clear c20
                    try clear c22
                    try clear c24
                    try clear p24
                    try clear q24
                    try clear hx24
                    try clear c25
                    try clear c25b0
                    try clear c25b1
                    try clear c26
                    try clear c29
                    try clear c31
                    try clear c31b0
                    try clear c31b1
                    try clear c33
                    try clear c35
                    try clear hcz11_0
                    try clear hcz11_1
                    try clear hcz11_2
                    try clear hcz11_3
                    try clear hcz21_0
                    try clear hcz21_1
                    try clear hcz21_2
                    try clear hcz21_3
                    try clear hcz23_0
                    try clear hcz23_1
                    try clear hcz23_2
                    try clear hcz23_3
                    try clear hcz27_0
                    try clear hcz27_1
                    try clear hcz27_2
                    try clear hcz27_3
                    try clear hcz30_0
                    try clear hcz30_1
                    try clear hcz30_2
                    try clear hcz30_3
                    try clear hcz34_0
                    try clear hcz34_1
                    try clear hcz34_2
                    try clear hcz34_3
                    try clear hcz36_0
                    try clear hcz36_1
                    try clear hcz36_2
                    try clear hcz36_3
                    try clear hcz8_0
                    try clear hcz8_1
                    try clear hcz9_0
                    try clear hcz9_1
                    try clear hcz9_2
                    try clear hcz9_3
                    try clear hfz11_0
                    try clear hfz11_1
                    try clear hfz11_2
                    try clear hfz11_3
                    try clear hfz21_0
                    try clear hfz21_1
                    try clear hfz21_2
                    try clear hfz21_3
                    try clear hfz23_0
                    try clear hfz23_1
                    try clear hfz23_2
                    try clear hfz23_3
                    try clear hfz27_0
                    try clear hfz27_1
                    try clear hfz27_2
                    try clear hfz27_3
                    try clear hfz30_0
                    try clear hfz30_1
                    try clear hfz30_2
                    try clear hfz30_3
                    try clear hfz34_0
                    try clear hfz34_1
                    try clear hfz34_2
                    try clear hfz34_3
                    try clear hfz36_0
                    try clear hfz36_1
                    try clear hfz36_2
                    try clear hfz36_3
                    try clear hfz8_0
                    try clear hfz8_1
                    try clear hfz9_0
                    try clear hfz9_1
                    try clear hfz9_2
                    try clear hfz9_3
                    try clear hx242_0
                    try clear p2
                    try clear p242
                    try clear q2
                    try clear q242
                    obtain ⟨kq, x27_27, rfl, HA, HJ27, HO_5, BK236, BK237, HB⟩ := hcut
                    cases kq with
                    | zero => exact absurd HA.out (by simp [spec_l04Item.j2])
                    | succ kj27 =>
                      have H := HA.out
                      clear HA
                      simp only [spec_l04Item.j2] at H
                      by_cases c37 : x27_27 = true
                      · subst c37
                        have H1 : (some true) = some r := by rw [if_pos rfl] at H; exact H
                        clear H
                        have H := H1
                        clear H1
                        obtain rfl := Option.some.inj H
                        go_wp2
                        go_ret
                        exact ⟨Rf, By⟩
                      · replace c37 := Bool.eq_false_iff.mpr c37
                        subst c37
                        have H1 : (if a0_0 = 7 then (spec_l04Item.j3 kj27 t238 t241 x7_1 t243 (!(Op.bytesLess t243.toList t241.toList)) a0_0 a0_1 a0_2 a0_3) else (spec_l04Item.j3 kj27 t238 t241 x7_1 t243 false a0_0 a0_1 a0_2 a0_3)) = some r := by rw [if_neg (show ¬ (false = true) by decide)] at H; exact H
                        clear H
                        have H := H1
                        clear H1
                        have HC38 := Aside0.mk H
                        clear H
                        go_upto_region 10 with (fail)
                        go_cut [27] (fun v27 wc => ∃ (kq : Nat) (x27_37 : Bool), v27 = .bool x27_37 ∧ Aside0 (spec_l04Item.j3 kq t238 t241 x7_1 t243 x27_37 a0_0 a0_1 a0_2 a0_3 = some r) ∧ Aside0 (kq ≤ kj27) ∧ Aside0 (Kd.V Kd.string 9 wc w.heap.size (fun k_ => k_ ≠ gb236 ∧ k_ ≠ gb237) (.slice (some ad242) t238.length co17) t238) ∧ Aside0 (wc.heap[gb236]? = some (.cells #[.int .i64 a0_0, .string a0_1, .string a0_2, .int .i64 a0_3] 87 (0, 0))) ∧ Aside0 (wc.heap[gb237]? = some (.cells #[(.slice A1_0 l1_0.length c1_0), (.slice A1_1 l1_1.length c1_1)] 37 (0, 0))) ∧ Aside0 (Below w.heap.size w wc))
                        case first =>
                          have H := HC38.out
                          clear HC38
                          by_cases c39 : a0_0 = 7
                          · rw [if_pos c39] at H
                            have c39b0 : (a0_0 == 7) = true := beq_iff_eq.mpr c39
                            have c39b1 : (a0_0 != 7) = false := bne_eq_false_iff_eq.mpr c39
                            clear c39
                            (first | rw [c39b0] | (simp only [i64_w, i32_w]; rw [c39b0]) | skip)
                            have H' := Aside0.mk H
                            clear H
                            have hnb40 := NB236_237.out
                            have hnc40 := NB237_236.out
                            have hcz41_0 : wc.cell? ⟨gb236, 0, none⟩ = some (.int .i64 a0_0) := bc BK236.out 0
                            have hcz41_1 : wc.cell? ⟨gb236, 1, none⟩ = some (.string a0_1) := bc BK236.out 1
                            have hcz41_2 : wc.cell? ⟨gb236, 2, none⟩ = some (.string a0_2) := bc BK236.out 2
                            have hcz41_3 : wc.cell? ⟨gb236, 3, none⟩ = some (.int .i64 a0_3) := bc BK236.out 3
                            have hfz41_0 := blk_frozen BK236.out 0
                            have hfz41_1 := blk_frozen BK236.out 1
                            have hfz41_2 := blk_frozen BK236.out 2
                            have hfz41_3 := blk_frozen BK236.out 3
                            go_wp2
                            go_meet
                            case rel => exact ⟨_, (!(Op.bytesLess t243.toList t241.toList)), (by first | rfl | (simp; done) | (simp [*]; done)), H', ⟨by have := HK1.out; have := HJ15.out; have := HJ27.out; first | omega | exact Nat.le_refl _⟩, ⟨by (with_reducible repeat (first | apply Kd.V_alloc | apply Kd.V_drewN | apply Kd.V_drew)); exact HO_5.out⟩, ⟨by (with_reducible repeat (first | refine blk_drewN ?_ _ | refine blk_drew ?_ | refine blk_alloc ?_ _)); exact BK236.out⟩, ⟨by (with_reducible repeat (first | refine blk_drewN ?_ _ | refine blk_drew ?_ | refine blk_alloc ?_ _)); exact BK237.out⟩, ⟨By⟩⟩
                          · rw [if_neg c39] at H
                            have c39b0 : (a0_0 == 7) = false := beq_eq_false_iff_ne.mpr c39
                            have c39b1 : (a0_0 != 7) = true := bne_iff_ne.mpr c39
                            (first | rw [c39b0] | (simp only [i64_w, i32_w]; rw [c39b0]) | skip)
                            have H' := Aside0.mk H
                            clear H
                            have hnb42 := NB236_237.out
                            have hnc42 := NB237_236.out
                            have hcz43_0 : wc.cell? ⟨gb236, 0, none⟩ = some (.int .i64 a0_0) := bc BK236.out 0
                            have hcz43_1 : wc.cell? ⟨gb236, 1, none⟩ = some (.string a0_1) := bc BK236.out 1
                            have hcz43_2 : wc.cell? ⟨gb236, 2, none⟩ = some (.string a0_2) := bc BK236.out 2
                            have hcz43_3 : wc.cell? ⟨gb236, 3, none⟩ = some (.int .i64 a0_3) := bc BK236.out 3
                            have hfz43_0 := blk_frozen BK236.out 0
                            have hfz43_1 := blk_frozen BK236.out 1
                            have hfz43_2 := blk_frozen BK236.out 2
                            have hfz43_3 := blk_frozen BK236.out 3
                            go_wp2
                            go_meet
                            case rel => exact ⟨_, (false), (by first | rfl | (simp; done) | (simp [*]; done)), H', ⟨by have := HK1.out; have := HJ15.out; have := HJ27.out; first | omega | exact Nat.le_refl _⟩, ⟨by (with_reducible repeat (first | apply Kd.V_alloc | apply Kd.V_drewN | apply Kd.V_drew)); exact HO_5.out⟩, ⟨by (with_reducible repeat (first | refine blk_drewN ?_ _ | refine blk_drew ?_ | refine blk_alloc ?_ _)); exact BK236.out⟩, ⟨by (with_reducible repeat (first | refine blk_drewN ?_ _ | refine blk_drew ?_ | refine blk_alloc ?_ _)); exact BK237.out⟩, ⟨By⟩⟩
                        case rest =>
                          clear HC38
                          try clear c1
                          try clear c2
                          try clear p2
                          try clear q2
                          try clear hx2
                          try clear c3
                          try clear c4
                          try clear c7
                          try clear c8
                          try clear c10
                          try clear c11
                          try clear c13
                          try clear c13b0
                          try clear c14
                          try clear c14b0
                          try clear c19
                          try clear c19b0
                          try clear c19b1
                          try clear c20
                          try clear c22
                          try clear c24
                          try clear p24
                          try clear q24
                          try clear hx24
                          try clear c25
                          try clear c25b0
                          try clear c25b1
                          try clear c26
                          try clear c29
                          try clear c31
                          try clear c31b0
                          try clear c31b1
                          try clear c33
                          try clear c35
                          try clear c37
                          try clear c39
                          try clear c39b0
                          try clear c39b1
                          try clear c40
                          try clear c42
                          try clear hcz11_0
                          try clear hcz11_1
                          try clear hcz11_2
                          try clear hcz11_3
                          try clear hcz21_0
                          try clear hcz21_1
                          try clear hcz21_2
                          try clear hcz21_3
                          try clear hcz23_0
                          try clear hcz23_1
                          try clear hcz23_2
                          try clear hcz23_3
                          try clear hcz27_0
                          try clear hcz27_1
                          try clear hcz27_2
                          try clear hcz27_3
                          try clear hcz30_0
                          try clear hcz30_1
                          try clear hcz30_2
                          try clear hcz30_3
                          try clear hcz34_0
                          try clear hcz34_1
                          try clear hcz34_2
                          try clear hcz34_3
                          try clear hcz36_0
                          try clear hcz36_1
                          try clear hcz36_2
                          try clear hcz36_3
                          try clear hcz41_0
                          try clear hcz41_1
                          try clear hcz41_2
                          try clear hcz41_3
                          try clear hcz43_0
                          try clear hcz43_1
                          try clear hcz43_2
                          try clear hcz43_3
                          try clear hcz8_0
                          try clear hcz8_1
                          try clear hcz9_0
                          try clear hcz9_1
                          try clear hcz9_2
                          try clear hcz9_3
                          try clear hfz11_0
                          try clear hfz11_1
                          try clear hfz11_2
                          try clear hfz11_3
                          try clear hfz21_0
                          try clear hfz21_1
                          try clear hfz21_2
                          try clear hfz21_3
                          try clear hfz23_0
                          try clear hfz23_1
                          try clear hfz23_2
                          try clear hfz23_3
                          try clear hfz27_0
                          try clear hfz27_1
                          try clear hfz27_2
                          try clear hfz27_3
                          try clear hfz30_0
                          try clear hfz30_1
                          try clear hfz30_2
                          try clear hfz30_3
                          try clear hfz34_0
                          try clear hfz34_1
                          try clear hfz34_2
                          try clear hfz34_3
                          try clear hfz36_0
                          try clear hfz36_1
                          try clear hfz36_2
                          try clear hfz36_3
                          try clear hfz41_0
                          try clear hfz41_1
                          try clear hfz41_2
                          try clear hfz41_3
                          try clear hfz43_0
                          try clear hfz43_1
                          try clear hfz43_2
                          try clear hfz43_3
                          try clear hfz8_0
                          try clear hfz8_1
                          try clear hfz9_0
                          try clear hfz9_1
                          try clear hfz9_2
                          try clear hfz9_3
                          try clear hx242_0
                          try clear p2
                          try clear p24
                          try clear p242
                          try clear q2
                          try clear q24
                          try clear q242
                          obtain ⟨kq, x27_37, rfl, HA, HJ37, HO_5, BK236, BK237, HB⟩ := hcut
                          cases kq with
                          | zero => exact absurd HA.out (by simp [spec_l04Item.j3])
                          | succ kj37 =>
                            have H := HA.out
                            clear HA
                            simp only [spec_l04Item.j3] at H
                            by_cases c44 : x27_37 = true
                            · subst c44
                              have H1 : (some true) = some r := by rw [if_pos rfl] at H; exact H
                              clear H
                              have H := H1
                              clear H1
                              obtain rfl := Option.some.inj H
                              go_wp2
                              go_ret
                              exact ⟨Rf, By⟩
                            · replace c44 := Bool.eq_false_iff.mpr c44
                              subst c44
                              have H1 : (if a0_0 = 8 then (if ((Op.bytesLess t241.toList t243.toList) = true) then (spec_l04Item.l0 kj37 t238 t241 (wrap64 (x7_1 + 1)) a0_0 a0_1 a0_2 a0_3) else (some true)) else (spec_l04Item.l0 kj37 t238 t241 (wrap64 (x7_1 + 1)) a0_0 a0_1 a0_2 a0_3)) = some r := by rw [if_neg (show ¬ (false = true) by decide)] at H; exact H
                              clear H
                              have H := H1
                              clear H1
                              by_cases c45 : a0_0 = 8
                              · rw [if_pos c45] at H
                                have c45b0 : (a0_0 == 8) = true := beq_iff_eq.mpr c45
                                have c45b1 : (a0_0 != 8) = false := bne_eq_false_iff_eq.mpr c45
                                clear c45
                                by_cases c46 : ((Op.bytesLess t241.toList t243.toList) = true)
                                · rw [if_pos c46] at H
                                  have c46b0 : (Op.bytesLess t241.toList t243.toList) = true := c46
                                  have c46z : (Op.bytesLess t243.toList t241.toList || t243.toList == t241.toList) = false := by rw [Go.Proofs.YtpocoeghobdfiaaGreatDoor.Gn.le_norm, c46b0]; rfl
                                  clear c46
                                  have H' := Aside0.mk H
                                  clear H
                                  have hnb47 := NB236_237.out
                                  have hnc47 := NB237_236.out
                                  have hcz48_0 : wc.cell? ⟨gb236, 0, none⟩ = some (.int .i64 a0_0) := bc BK236.out 0
                                  have hcz48_1 : wc.cell? ⟨gb236, 1, none⟩ = some (.string a0_1) := bc BK236.out 1
                                  have hcz48_2 : wc.cell? ⟨gb236, 2, none⟩ = some (.string a0_2) := bc BK236.out 2
                                  have hcz48_3 : wc.cell? ⟨gb236, 3, none⟩ = some (.int .i64 a0_3) := bc BK236.out 3
                                  have hfz48_0 := blk_frozen BK236.out 0
                                  have hfz48_1 := blk_frozen BK236.out 1
                                  have hfz48_2 := blk_frozen BK236.out 2
                                  have hfz48_3 := blk_frozen BK236.out 3
                                  go_wp2
                                  go_roundg kj37
                                  case measure => have := HK1.out; have := HJ15.out; have := HJ27.out; have := HJ37.out; omega
                                  case rel => exact ⟨(wrap64 (x7_1 + 1)), (by first | rfl | (simp; done) | (simp [*]; done)), H', ⟨by have := HK1.out; have := HJ15.out; have := HJ27.out; have := HJ37.out; omega⟩, ⟨by (with_reducible repeat (first | apply Kd.V_alloc | apply Kd.V_drewN | apply Kd.V_drew)); exact HO_5.out⟩, ⟨by (with_reducible repeat (first | refine blk_drewN ?_ _ | refine blk_drew ?_ | refine blk_alloc ?_ _)); exact BK236.out⟩, ⟨by (with_reducible repeat (first | refine blk_drewN ?_ _ | refine blk_drew ?_ | refine blk_alloc ?_ _)); exact BK237.out⟩, ⟨By⟩⟩
                                · rw [if_neg c46] at H
                                  have c46b0 : (Op.bytesLess t241.toList t243.toList) = false := by simpa using c46
                                  have c46z : (Op.bytesLess t243.toList t241.toList || t243.toList == t241.toList) = true := by rw [Go.Proofs.YtpocoeghobdfiaaGreatDoor.Gn.le_norm, c46b0]; rfl
                                  clear c46
                                  obtain rfl := Option.some.inj H
                                  have hnb49 := NB236_237.out
                                  have hnc49 := NB237_236.out
                                  have hcz50_0 : wc.cell? ⟨gb236, 0, none⟩ = some (.int .i64 a0_0) := bc BK236.out 0
                                  have hcz50_1 : wc.cell? ⟨gb236, 1, none⟩ = some (.string a0_1) := bc BK236.out 1
                                  have hcz50_2 : wc.cell? ⟨gb236, 2, none⟩ = some (.string a0_2) := bc BK236.out 2
                                  have hcz50_3 : wc.cell? ⟨gb236, 3, none⟩ = some (.int .i64 a0_3) := bc BK236.out 3
                                  have hfz50_0 := blk_frozen BK236.out 0
                                  have hfz50_1 := blk_frozen BK236.out 1
                                  have hfz50_2 := blk_frozen BK236.out 2
                                  have hfz50_3 := blk_frozen BK236.out 3
                                  go_wp2
                                  go_ret
                                  exact ⟨Rf, By⟩
                              · rw [if_neg c45] at H
                                have c45b0 : (a0_0 == 8) = false := beq_eq_false_iff_ne.mpr c45
                                have c45b1 : (a0_0 != 8) = true := bne_iff_ne.mpr c45
                                have H' := Aside0.mk H
                                clear H
                                have hnb51 := NB236_237.out
                                have hnc51 := NB237_236.out
                                have hcz52_0 : wc.cell? ⟨gb236, 0, none⟩ = some (.int .i64 a0_0) := bc BK236.out 0
                                have hcz52_1 : wc.cell? ⟨gb236, 1, none⟩ = some (.string a0_1) := bc BK236.out 1
                                have hcz52_2 : wc.cell? ⟨gb236, 2, none⟩ = some (.string a0_2) := bc BK236.out 2
                                have hcz52_3 : wc.cell? ⟨gb236, 3, none⟩ = some (.int .i64 a0_3) := bc BK236.out 3
                                have hfz52_0 := blk_frozen BK236.out 0
                                have hfz52_1 := blk_frozen BK236.out 1
                                have hfz52_2 := blk_frozen BK236.out 2
                                have hfz52_3 := blk_frozen BK236.out 3
                                go_wp2
                                go_roundg kj37
                                case measure => have := HK1.out; have := HJ15.out; have := HJ27.out; have := HJ37.out; omega
                                case rel => exact ⟨(wrap64 (x7_1 + 1)), (by first | rfl | (simp; done) | (simp [*]; done)), H', ⟨by have := HK1.out; have := HJ15.out; have := HJ27.out; have := HJ37.out; omega⟩, ⟨by (with_reducible repeat (first | apply Kd.V_alloc | apply Kd.V_drewN | apply Kd.V_drew)); exact HO_5.out⟩, ⟨by (with_reducible repeat (first | refine blk_drewN ?_ _ | refine blk_drew ?_ | refine blk_alloc ?_ _)); exact BK236.out⟩, ⟨by (with_reducible repeat (first | refine blk_drewN ?_ _ | refine blk_drew ?_ | refine blk_alloc ?_ _)); exact BK237.out⟩, ⟨By⟩⟩
        · rw [if_neg c14] at H
          exact absurd H (by simp)
      · rw [if_neg c13] at H
        have c13b0 : decide (x7_1 < (t238.length : Int)) = false := decide_eq_false c13
        clear c13
        obtain rfl := Option.some.inj H
        obtain ⟨Ao53, co53, eo53⟩ := Kd.V_slice HO_5.out
        subst eo53
        go_wp2
        go_ret
        exact ⟨Rf, By⟩

set_option linter.unusedVariables false
set_option linter.unusedSimpArgs false

/-! ### spec_Not: function 83 -/
def spec_Not.f (a0 : Int) : Option (Int) := if a0 = 0 then (some 1) else (if a0 = 1 then (some 0) else (some 2))
set_option maxHeartbeats 8000000 in
set_option maxRecDepth 100000 in
theorem spec_Not.calls (a0 : Int) (r : Int) (w : World) (h : spec_Not.f a0 = some r) :
    Calls Tryz.prog 83 #[.int .i64 a0] w fun e w' => e = .returned (.int .i64 r) ∧ Drawn0 w w' := by
  have H : (if a0 = 0 then (some 1) else (if a0 = 1 then (some 0) else (some 2))) = some r := h
  clear h
  by_cases c2 : a0 = 0
  · rw [if_pos c2] at H
    have c2b0 : (a0 == 0) = true := beq_iff_eq.mpr c2
    have c2b1 : (a0 != 0) = false := bne_eq_false_iff_eq.mpr c2
    clear c2
    obtain rfl := Option.some.inj H
    go_enter Tryz.func83, Tryz.ntmps83
    go_wp2
    go_ret
    exact ⟨by first | rfl | (simp; done) | (simp [*]; done), by repeat (first | exact Drawn0.refl _ | apply Drawn0.step)⟩
  · rw [if_neg c2] at H
    have c2b0 : (a0 == 0) = false := beq_eq_false_iff_ne.mpr c2
    have c2b1 : (a0 != 0) = true := bne_iff_ne.mpr c2
    by_cases c3 : a0 = 1
    · rw [if_pos c3] at H
      have c3b0 : (a0 == 1) = true := beq_iff_eq.mpr c3
      have c3b1 : (a0 != 1) = false := bne_eq_false_iff_eq.mpr c3
      clear c3
      obtain rfl := Option.some.inj H
      go_enter Tryz.func83, Tryz.ntmps83
      go_wp2
      go_ret
      exact ⟨by first | rfl | (simp; done) | (simp [*]; done), by repeat (first | exact Drawn0.refl _ | apply Drawn0.step)⟩
    · rw [if_neg c3] at H
      have c3b0 : (a0 == 1) = false := beq_eq_false_iff_ne.mpr c3
      have c3b1 : (a0 != 1) = true := bne_iff_ne.mpr c3
      obtain rfl := Option.some.inj H
      go_enter Tryz.func83, Tryz.ntmps83
      go_wp2
      go_ret
      exact ⟨by first | rfl | (simp; done) | (simp [*]; done), by repeat (first | exact Drawn0.refl _ | apply Drawn0.step)⟩

set_option linter.unusedVariables false
set_option linter.unusedSimpArgs false

/-! ### spec_l04Eval: function 47 -/
mutual
def spec_l04Eval.l0 : Nat → List (S87) → Int → List ByteArray → Bool → Bool → Int → List (S113) → List (S115) → Int → ByteArray → ByteArray → Int → Option (Int × Int)
  | 0, _, _, _, _, _, _, _, _, _, _, _, _ => none
  | k + 1, x0, x1, x3, x11, x12, x13, x246000, x246001, x248000, x248001, x248002, x248003 => if x13 > 0 then ((spec_l04Eval.f k x0 x1 x246000 x246001 x3).bind fun bt252 => (if x248000 = 1 then (if x11 = true then (if x12 = true then (spec_l04Eval.l0 k x0 bt252.2 x3 true true (wrap64 (x13 - 1)) x246000 x246001 x248000 x248001 x248002 x248003) else (spec_l04Eval.l0 k x0 bt252.2 x3 true (bt252.1 == 2) (wrap64 (x13 - 1)) x246000 x246001 x248000 x248001 x248002 x248003)) else (if x12 = true then (spec_l04Eval.l0 k x0 bt252.2 x3 (bt252.1 == 0) true (wrap64 (x13 - 1)) x246000 x246001 x248000 x248001 x248002 x248003) else (spec_l04Eval.l0 k x0 bt252.2 x3 (bt252.1 == 0) (bt252.1 == 2) (wrap64 (x13 - 1)) x246000 x246001 x248000 x248001 x248002 x248003))) else ((spec_Not.f bt252.1).bind fun t254 => (if x11 = true then (if x12 = true then (spec_l04Eval.l0 k x0 bt252.2 x3 true true (wrap64 (x13 - 1)) x246000 x246001 x248000 x248001 x248002 x248003) else (spec_l04Eval.l0 k x0 bt252.2 x3 true (t254 == 2) (wrap64 (x13 - 1)) x246000 x246001 x248000 x248001 x248002 x248003)) else (if x12 = true then (spec_l04Eval.l0 k x0 bt252.2 x3 (t254 == 0) true (wrap64 (x13 - 1)) x246000 x246001 x248000 x248001 x248002 x248003) else (spec_l04Eval.l0 k x0 bt252.2 x3 (t254 == 0) (t254 == 2) (wrap64 (x13 - 1)) x246000 x246001 x248000 x248001 x248002 x248003)))))) else (if x11 = true then (if x248000 = 2 then ((spec_Not.f 0).bind fun t255 => (some (t255, x1))) else (some (0, x1))) else (if x12 = true then (if x248000 = 2 then ((spec_Not.f 2).bind fun t256 => (some (t256, x1))) else (some (2, x1))) else (if x248000 = 2 then ((spec_Not.f 1).bind fun t257 => (some (t257, x1))) else (some (1, x1)))))
def spec_l04Eval.f : Nat → List (S87) → Int → List (S113) → List (S115) → List ByteArray → Option (Int × Int)
  | 0, _, _, _, _, _ => none
  | k + 1, l0, a1, l2_0, l2_1, l3 => if 0 ≤ a1 then (if a1 < (l0.length : Int) then ((spec_l04Inner.f ((rd_T87 l0 a1).f0) ((rd_T87 l0 a1).f1) ((rd_T87 l0 a1).f2) ((rd_T87 l0 a1).f3)).bind fun t248 => (if t248 = true then (spec_l04Eval.l0 k l0 (wrap64 (a1 + 1)) l3 false false ((rd_T87 l0 a1).f3) l2_0 l2_1 ((rd_T87 l0 a1).f0) ((rd_T87 l0 a1).f1) ((rd_T87 l0 a1).f2) ((rd_T87 l0 a1).f3)) else ((spec_l04Has.f k l3 ((rd_T87 l0 a1).f1)).bind fun t249 => (if t249 = true then ((spec_l04Item.f k ((rd_T87 l0 a1).f0) ((rd_T87 l0 a1).f1) ((rd_T87 l0 a1).f2) ((rd_T87 l0 a1).f3) l2_0 l2_1).bind fun t250 => ((spec_l04Truth.f t250).bind fun t251 => (some (t251, wrap64 (a1 + 1))))) else (some (2, wrap64 (a1 + 1))))))) else (none)) else (none)
end
theorem spec_l04Eval.mono_l : ∀ k, (∀ y0 y1 y2 y3 y4, LeO (spec_l04Eval.f k y0 y1 y2 y3 y4) (spec_l04Eval.f (k + 1) y0 y1 y2 y3 y4)) ∧ (∀ y0 y1 y2 y3 y4 y5 y6 y7 y8 y9 y10 y11, LeO (spec_l04Eval.l0 k y0 y1 y2 y3 y4 y5 y6 y7 y8 y9 y10 y11) (spec_l04Eval.l0 (k + 1) y0 y1 y2 y3 y4 y5 y6 y7 y8 y9 y10 y11))
  | 0 => ⟨fun _ _ _ _ _ r h => by simp [spec_l04Eval.f] at h, fun _ _ _ _ _ _ _ _ _ _ _ _ r h => by simp [spec_l04Eval.l0] at h⟩
  | k + 1 => by
    obtain ⟨ih0, ih1⟩ := spec_l04Eval.mono_l k
    refine ⟨?_, ?_⟩
    · intro y0 y1 y2 y3 y4
      unfold spec_l04Eval.f
      repeat' first
      | (with_reducible exact ih0 _ _ _ _ _)
      | (with_reducible exact ih1 _ _ _ _ _ _ _ _ _ _ _ _)
      | (with_reducible exact spec_l04Has.mono _ _ _)
      | (with_reducible exact spec_l04Item.mono _ _ _ _ _ _ _)
      | (with_reducible exact LeO.refl _)
      | (with_reducible exact LeO.none _)
      | (with_reducible refine LeO.ite ?_ ?_)
      | (with_reducible refine LeO.bind ?_ (fun _ => ?_))
      | exact ih0 _ _ _ _ _
      | exact ih1 _ _ _ _ _ _ _ _ _ _ _ _
      | exact spec_l04Has.mono _ _ _
      | exact spec_l04Item.mono _ _ _ _ _ _ _
      | exact LeO.none _
      | refine LeO.ite ?_ ?_
      | refine LeO.bind ?_ (fun _ => ?_)
    · intro y0 y1 y2 y3 y4 y5 y6 y7 y8 y9 y10 y11
      unfold spec_l04Eval.l0
      repeat' first
      | (with_reducible exact ih0 _ _ _ _ _)
      | (with_reducible exact ih1 _ _ _ _ _ _ _ _ _ _ _ _)
      | (with_reducible exact spec_l04Has.mono _ _ _)
      | (with_reducible exact spec_l04Item.mono _ _ _ _ _ _ _)
      | (with_reducible exact LeO.refl _)
      | (with_reducible exact LeO.none _)
      | (with_reducible refine LeO.ite ?_ ?_)
      | (with_reducible refine LeO.bind ?_ (fun _ => ?_))
      | exact ih0 _ _ _ _ _
      | exact ih1 _ _ _ _ _ _ _ _ _ _ _ _
      | exact spec_l04Has.mono _ _ _
      | exact spec_l04Item.mono _ _ _ _ _ _ _
      | exact LeO.none _
      | refine LeO.ite ?_ ?_
      | refine LeO.bind ?_ (fun _ => ?_)
theorem spec_l04Eval.mono : ∀ a0 a1 a2 a3 a4 k, LeO (spec_l04Eval.f k a0 a1 a2 a3 a4) (spec_l04Eval.f (k + 1) a0 a1 a2 a3 a4) := by
  intro a0 a1 a2 a3 a4 k
  obtain ⟨ih0, ih1⟩ := spec_l04Eval.mono_l k
  exact ih0 a0 a1 a2 a3 a4
set_option maxHeartbeats 8000000 in
set_option maxRecDepth 100000 in
theorem spec_l04Eval.calls (k : Nat) : ∀ (A0 : Option Addr) (c0 : Nat) (l0 : List (S87)) (a1 : Int) (A2_0 : Option Addr) (c2_0 : Nat) (l2_0 : List (S113)) (A2_1 : Option Addr) (c2_1 : Nat) (l2_1 : List (S115)) (A3 : Option Addr) (c3 : Nat) (l3 : List ByteArray) (r1 : Int) (r2 : Int) (w : World) (hr0 : Kd.C k87 w A0 l0.length l0) (hc0 : l0.length ≤ c0) (hr2_0 : Kd.C k113 w A2_0 l2_0.length l2_0) (hc2_0 : l2_0.length ≤ c2_0) (hr2_1 : Kd.C k115 w A2_1 l2_1.length l2_1) (hc2_1 : l2_1.length ≤ c2_1) (hr3 : Kd.C Kd.string w A3 l3.length l3) (hc3 : l3.length ≤ c3) (h : spec_l04Eval.f k l0 a1 l2_0 l2_1 l3 = some (r1, r2)),
    Calls Tryz.prog 47 #[.slice A0 l0.length c0, .int .i64 a1, .agg #[.slice A2_0 l2_0.length c2_0, .slice A2_1 l2_1.length c2_1], .slice A3 l3.length c3] w fun e w' => e = .returned (.tuple #[.int .i64 r1, .int .i64 r2]) ∧ Below w.heap.size w w' := by
  induction k using Nat.strongRecOn with
  | _ k ih =>
  intro A0 c0 l0 a1 A2_0 c2_0 l2_0 A2_1 c2_1 l2_1 A3 c3 l3 r1 r2 w hr0 hc0 hr2_0 hc2_0 hr2_1 hc2_1 hr3 hc3 h
  cases k with
  | zero => exact absurd h (by simp [spec_l04Eval.f])
  | succ k =>
  simp only [spec_l04Eval.f] at h
  have hu37 := Tryz.underlying37
  have hu87 := Tryz.underlying87
  have HR0 := Aside0.mk hr0
  have HC0 := Aside0.mk hc0
  clear hr0 hc0
  have HR2_0 := Aside0.mk hr2_0
  have HC2_0 := Aside0.mk hc2_0
  clear hr2_0 hc2_0
  have HR2_1 := Aside0.mk hr2_1
  have HC2_1 := Aside0.mk hc2_1
  clear hr2_1 hc2_1
  have HR3 := Aside0.mk hr3
  have HC3 := Aside0.mk hc3
  clear hr3 hc3
  have HB := Aside0.mk (Below.refl w.heap.size w)
  have H : (if 0 ≤ a1 then (if a1 < (l0.length : Int) then ((spec_l04Inner.f ((rd_T87 l0 a1).f0) ((rd_T87 l0 a1).f1) ((rd_T87 l0 a1).f2) ((rd_T87 l0 a1).f3)).bind fun t248 => (if t248 = true then (spec_l04Eval.l0 k l0 (wrap64 (a1 + 1)) l3 false false ((rd_T87 l0 a1).f3) l2_0 l2_1 ((rd_T87 l0 a1).f0) ((rd_T87 l0 a1).f1) ((rd_T87 l0 a1).f2) ((rd_T87 l0 a1).f3)) else ((spec_l04Has.f k l3 ((rd_T87 l0 a1).f1)).bind fun t249 => (if t249 = true then ((spec_l04Item.f k ((rd_T87 l0 a1).f0) ((rd_T87 l0 a1).f1) ((rd_T87 l0 a1).f2) ((rd_T87 l0 a1).f3) l2_0 l2_1).bind fun t250 => ((spec_l04Truth.f t250).bind fun t251 => (some (t251, wrap64 (a1 + 1))))) else (some (2, wrap64 (a1 + 1))))))) else (none)) else (none)) = some (r1, r2) := h
  clear h
  by_cases c5 : 0 ≤ a1
  · rw [if_pos c5] at H
    have c5b0 : decide (0 ≤ a1) = true := decide_eq_true c5
    clear c5
    by_cases c6 : a1 < (l0.length : Int)
    · rw [if_pos c6] at H
      have c6b0 : decide (a1 < (l0.length : Int)) = true := decide_eq_true c6
      clear c6
      replace H := Option.bind_eq_some_iff.mp H
      obtain ⟨t248, A70, H⟩ := H
      replace H : (if t248 = true then (spec_l04Eval.l0 k l0 (wrap64 (a1 + 1)) l3 false false ((rd_T87 l0 a1).f3) l2_0 l2_1 ((rd_T87 l0 a1).f0) ((rd_T87 l0 a1).f1) ((rd_T87 l0 a1).f2) ((rd_T87 l0 a1).f3)) else ((spec_l04Has.f k l3 ((rd_T87 l0 a1).f1)).bind fun t249 => (if t249 = true then ((spec_l04Item.f k ((rd_T87 l0 a1).f0) ((rd_T87 l0 a1).f1) ((rd_T87 l0 a1).f2) ((rd_T87 l0 a1).f3) l2_0 l2_1).bind fun t250 => ((spec_l04Truth.f t250).bind fun t251 => (some (t251, wrap64 (a1 + 1))))) else (some (2, wrap64 (a1 + 1)))))) = some (r1, r2) := H
      have A7 := Aside0.mk A70
      clear A70
      by_cases c8 : t248 = true
      · subst c8
        have H1 : (spec_l04Eval.l0 k l0 (wrap64 (a1 + 1)) l3 false false ((rd_T87 l0 a1).f3) l2_0 l2_1 ((rd_T87 l0 a1).f0) ((rd_T87 l0 a1).f1) ((rd_T87 l0 a1).f2) ((rd_T87 l0 a1).f3)) = some (r1, r2) := by rw [if_pos rfl] at H; exact H
        clear H
        have H := H1
        clear H1
        have H' := Aside0.mk H
        clear H
        go_enter Tryz.func47, Tryz.ntmps47
        go_wp2_with (first | ((with_reducible refine gate_dst (N := 6) rfl ?_); refine box_event ?hg (N := 6) ?hd (cs := #[.slice A2_0 l2_0.length c2_0, .slice A2_1 l2_1.length c2_1]) (t := 37) ?hr ?_; (case hd => rfl); (case hg => rfl); (case hr => first | (go_simp; done) | (go_simp; rfl)); intro gb245 hg w9 hbox hb; have n0_ := Aside0.mk (below_step By hb); have n1_ := Aside0.mk (hbox); have n2_ := Aside0.mk ((by rw [hg]; exact (below_size By) : w.heap.size ≤ gb245)); have n3_ := Aside0.mk ((by rw [hg]; exact (below_size By) : w.heap.size ≤ gb245)); clear HB; have HB := n0_; have BK245 := n1_; have GW245 := n2_; have GE245 := n3_; clear n0_ n1_ n2_ n3_; clear hb hbox hg; have p246 : 0 ≤ (a1 : Int) := of_decide_eq_true Da; have q246 : a1 < (l0.length : Int) := of_decide_eq_true Da; obtain ⟨ad246, e246, hx246_0, hx246_1, hx246_2, hx246_3⟩ := at_T87 HR0.out a1 p246 q246; cases e246; replace hx246_0 := bz HB.out hx246_0; replace hx246_1 := bz HB.out hx246_1; replace hx246_2 := bz HB.out hx246_2; replace hx246_3 := bz HB.out hx246_3; replace p246 := eq_true p246; replace q246 := eq_true q246) | ((with_reducible refine gate_dst (N := 10) rfl ?_); refine box_event ?hg (N := 10) ?hd (cs := #[.int .i64 0, .string (⟨#[]⟩ : ByteArray), .string (⟨#[]⟩ : ByteArray), .int .i64 0]) (t := 87) ?hr ?_; (case hd => rfl); (case hg => rfl); (case hr => first | (go_simp; done) | (go_simp; rfl)); intro gb247 hg w10 hbox hb; have n0_ := Aside0.mk (bb BK245.out hb); have n1_ := Aside0.mk (below_step By hb); have n2_ := Aside0.mk (hbox); have n3_ := Aside0.mk ((by rw [hg]; exact (below_size By) : w.heap.size ≤ gb247)); have n4_ := Aside0.mk ((by rw [hg]; exact (below_size By) : w.heap.size ≤ gb247)); have n5_ := Aside0.mk ((by rw [hg]; exact Nat.ne_of_lt (bl BK245.out) : gb245 ≠ gb247)); have n6_ := Aside0.mk ((by rw [hg]; exact Nat.ne_of_gt (bl BK245.out) : gb247 ≠ gb245)); clear BK245; clear HB; have BK245 := n0_; have HB := n1_; have BK247 := n2_; have GW247 := n3_; have GE247 := n4_; have NB245_247 := n5_; have NB247_245 := n6_; clear n0_ n1_ n2_ n3_ n4_ n5_ n6_; clear hb hbox hg; have hnb11 := NB247_245.out; have hnc11 := NB245_247.out; have ⟨hcz12_0, hcz12_1, hcz12_2, hcz12_3⟩ := cq4 BK247.out; have ⟨hfz12_0, hfz12_1, hfz12_2, hfz12_3⟩ := fq4 BK247.out) | ((with_reducible refine gate_callee (f := 79) rfl ?_); refine goesL_ (some 24) rfl rfl Tryz.func79 (by kernel_rfl) rfl #[.agg #[.int .i64 ((rd_T87 l0 a1).f0), .string ((rd_T87 l0 a1).f1), .string ((rd_T87 l0 a1).f2), .int .i64 ((rd_T87 l0 a1).f3)]] rfl Ag ?_; (with_reducible refine (spec_l04Inner.calls ((rd_T87 l0 a1).f0) ((rd_T87 l0 a1).f1) ((rd_T87 l0 a1).f2) ((rd_T87 l0 a1).f3) true _ A7.out).mono ?_); rintro e w13 ⟨rfl, hb⟩; refine ⟨_, rfl, ?_⟩; have n0_ := Aside0.mk (bf BK245.out hb); have n1_ := Aside0.mk (blk_below (g := gb247) (o := .cells #[.int .i64 ((rd_T87 l0 a1).f0), .string ((rd_T87 l0 a1).f1), .string ((rd_T87 l0 a1).f2), .int .i64 ((rd_T87 l0 a1).f3)] 87 (0, 0)) (pq4 Pk) hb); have n2_ := Aside0.mk (below_step By hb); clear BK245; clear BK247; clear HB; have BK245 := n0_; have BK247 := n1_; have HB := n2_; clear n0_ n1_ n2_; (try clear hb); (try clear hb2); (try clear hk); (try clear hi); have ⟨hcz14_0, hcz14_1, hcz14_2, hcz14_3⟩ := cq4 BK247.out; have ⟨hfz14_0, hfz14_1, hfz14_2, hfz14_3⟩ := fq4 BK247.out))
        go_loopg [1, 11, 12, 13] k (fun kq v1 v11 v12 v13 w' => ∃ (x1_1 : Int) (x11_1 : Bool) (x12_1 : Bool) (x13_1 : Int), v1 = .int .i64 x1_1 ∧ v11 = .bool x11_1 ∧ v12 = .bool x12_1 ∧ v13 = .int .i64 x13_1 ∧ Aside0 (spec_l04Eval.l0 kq l0 x1_1 l3 x11_1 x12_1 x13_1 l2_0 l2_1 ((rd_T87 l0 a1).f0) ((rd_T87 l0 a1).f1) ((rd_T87 l0 a1).f2) ((rd_T87 l0 a1).f3) = some (r1, r2)) ∧ Aside0 (kq ≤ k) ∧ Aside0 (w'.heap[gb245]? = some (.cells #[(.slice A2_0 l2_0.length c2_0), (.slice A2_1 l2_1.length c2_1)] 37 (0, 0))) ∧ Aside0 (w'.heap[gb247]? = some (.cells #[.int .i64 ((rd_T87 l0 a1).f0), .string ((rd_T87 l0 a1).f1), .string ((rd_T87 l0 a1).f2), .int .i64 ((rd_T87 l0 a1).f3)] 87 (0, 0))) ∧ Aside0 (Below w.heap.size w w'))
        case atStart => exact ⟨(wrap64 (a1 + 1)), (false), (false), ((rd_T87 l0 a1).f3), (by first | rfl | (simp; done) | (simp [*]; done)), (by first | rfl | (simp; done) | (simp [*]; done)), (by first | rfl | (simp; done) | (simp [*]; done)), (by first | rfl | (simp; done) | (simp [*]; done)), H', ⟨Nat.le_refl _⟩, ⟨by (with_reducible repeat (first | refine blk_drewN ?_ _ | refine blk_drew ?_ | refine blk_alloc ?_ _)); exact BK245.out⟩, ⟨by (with_reducible repeat (first | refine blk_drewN ?_ _ | refine blk_drew ?_ | refine blk_alloc ?_ _)); exact BK247.out⟩, ⟨By⟩⟩
        case round =>
          clear H'
          try clear c1
          try clear c2
          try clear p2
          try clear q2
          try clear hx2
          try clear c3
          try clear c4
          try clear c5
          try clear c5b0
          try clear c6
          try clear c6b0
          try clear p6
          try clear c7
          try clear c8
          try clear c11
          try clear hcz12_0
          try clear hcz12_1
          try clear hcz12_2
          try clear hcz12_3
          try clear hcz14_0
          try clear hcz14_1
          try clear hcz14_2
          try clear hcz14_3
          try clear hfz12_0
          try clear hfz12_1
          try clear hfz12_2
          try clear hfz12_3
          try clear hfz14_0
          try clear hfz14_1
          try clear hfz14_2
          try clear hfz14_3
          try clear hx246_0
          try clear hx246_1
          try clear hx246_2
          try clear hx246_3
          try clear p246
          try clear q246
          obtain ⟨x1_1, x11_1, x12_1, x13_1, rfl, rfl, rfl, rfl, HA, HK1, BK245, BK247, HB⟩ := hrel
          cases gk with
          | zero => exact absurd HA.out (by simp [spec_l04Eval.l0])
          | succ k1 =>
            have H := HA.out
            clear HA
            simp only [spec_l04Eval.l0] at H
            by_cases c15 : x13_1 > 0
            · rw [if_pos c15] at H
              have c15b0 : decide (0 < x13_1) = true := decide_eq_true c15
              clear c15
              replace H := Option.bind_eq_some_iff.mp H
              obtain ⟨⟨t252, t253⟩, A160, H⟩ := H
              replace H : (if ((rd_T87 l0 a1).f0) = 1 then (if x11_1 = true then (if x12_1 = true then (spec_l04Eval.l0 k1 l0 t253 l3 true true (wrap64 (x13_1 - 1)) l2_0 l2_1 ((rd_T87 l0 a1).f0) ((rd_T87 l0 a1).f1) ((rd_T87 l0 a1).f2) ((rd_T87 l0 a1).f3)) else (spec_l04Eval.l0 k1 l0 t253 l3 true (t252 == 2) (wrap64 (x13_1 - 1)) l2_0 l2_1 ((rd_T87 l0 a1).f0) ((rd_T87 l0 a1).f1) ((rd_T87 l0 a1).f2) ((rd_T87 l0 a1).f3))) else (if x12_1 = true then (spec_l04Eval.l0 k1 l0 t253 l3 (t252 == 0) true (wrap64 (x13_1 - 1)) l2_0 l2_1 ((rd_T87 l0 a1).f0) ((rd_T87 l0 a1).f1) ((rd_T87 l0 a1).f2) ((rd_T87 l0 a1).f3)) else (spec_l04Eval.l0 k1 l0 t253 l3 (t252 == 0) (t252 == 2) (wrap64 (x13_1 - 1)) l2_0 l2_1 ((rd_T87 l0 a1).f0) ((rd_T87 l0 a1).f1) ((rd_T87 l0 a1).f2) ((rd_T87 l0 a1).f3)))) else ((spec_Not.f t252).bind fun t254 => (if x11_1 = true then (if x12_1 = true then (spec_l04Eval.l0 k1 l0 t253 l3 true true (wrap64 (x13_1 - 1)) l2_0 l2_1 ((rd_T87 l0 a1).f0) ((rd_T87 l0 a1).f1) ((rd_T87 l0 a1).f2) ((rd_T87 l0 a1).f3)) else (spec_l04Eval.l0 k1 l0 t253 l3 true (t254 == 2) (wrap64 (x13_1 - 1)) l2_0 l2_1 ((rd_T87 l0 a1).f0) ((rd_T87 l0 a1).f1) ((rd_T87 l0 a1).f2) ((rd_T87 l0 a1).f3))) else (if x12_1 = true then (spec_l04Eval.l0 k1 l0 t253 l3 (t254 == 0) true (wrap64 (x13_1 - 1)) l2_0 l2_1 ((rd_T87 l0 a1).f0) ((rd_T87 l0 a1).f1) ((rd_T87 l0 a1).f2) ((rd_T87 l0 a1).f3)) else (spec_l04Eval.l0 k1 l0 t253 l3 (t254 == 0) (t254 == 2) (wrap64 (x13_1 - 1)) l2_0 l2_1 ((rd_T87 l0 a1).f0) ((rd_T87 l0 a1).f1) ((rd_T87 l0 a1).f2) ((rd_T87 l0 a1).f3)))))) = some (r1, r2) := H
              have A16 := Aside0.mk A160
              clear A160
              by_cases c17 : ((rd_T87 l0 a1).f0) = 1
              · rw [if_pos c17] at H
                have c17b0 : (((rd_T87 l0 a1).f0) == 1) = true := beq_iff_eq.mpr c17
                have c17b1 : (((rd_T87 l0 a1).f0) != 1) = false := bne_eq_false_iff_eq.mpr c17
                clear c17
                by_cases c18 : x11_1 = true
                · subst c18
                  have H1 : (if x12_1 = true then (spec_l04Eval.l0 k1 l0 t253 l3 true true (wrap64 (x13_1 - 1)) l2_0 l2_1 ((rd_T87 l0 a1).f0) ((rd_T87 l0 a1).f1) ((rd_T87 l0 a1).f2) ((rd_T87 l0 a1).f3)) else (spec_l04Eval.l0 k1 l0 t253 l3 true (t252 == 2) (wrap64 (x13_1 - 1)) l2_0 l2_1 ((rd_T87 l0 a1).f0) ((rd_T87 l0 a1).f1) ((rd_T87 l0 a1).f2) ((rd_T87 l0 a1).f3))) = some (r1, r2) := by rw [if_pos rfl] at H; exact H
                  clear H
                  have H := H1
                  clear H1
                  by_cases c19 : x12_1 = true
                  · subst c19
                    have H1 : (spec_l04Eval.l0 k1 l0 t253 l3 true true (wrap64 (x13_1 - 1)) l2_0 l2_1 ((rd_T87 l0 a1).f0) ((rd_T87 l0 a1).f1) ((rd_T87 l0 a1).f2) ((rd_T87 l0 a1).f3)) = some (r1, r2) := by rw [if_pos rfl] at H; exact H
                    clear H
                    have H := H1
                    clear H1
                    have H' := Aside0.mk H
                    clear H
                    have hnb20 := NB245_247.out
                    have hnc20 := NB247_245.out
                    have hcz21_0 : wr.cell? ⟨gb245, 0, none⟩ = some (.slice A2_0 l2_0.length c2_0) := bc BK245.out 0
                    have hcz21_1 : wr.cell? ⟨gb245, 1, none⟩ = some (.slice A2_1 l2_1.length c2_1) := bc BK245.out 1
                    have hfz21_0 := blk_frozen BK245.out 0
                    have hfz21_1 := blk_frozen BK245.out 1
                    go_wp2_with (first | ((with_reducible refine gate_callee (f := 47) rfl ?_); refine goesL_ (some 48) rfl rfl Tryz.func47 (by kernel_rfl) rfl #[.slice (some ad246) l0.length c0, .int .i64 x1_1, .agg #[.slice A2_0 l2_0.length c2_0, .slice A2_1 l2_1.length c2_1], .slice A3 l3.length c3] rfl Ag ?_; (with_reducible refine (ih k1 (by have := HK1.out; omega) _ _ l0 x1_1 _ _ l2_0 _ _ l2_1 _ _ l3 t252 t253 _ ?side1 ?side2 ?side3 ?side4 ?side5 ?side6 ?side7 ?side8 A16.out).mono ?_); (case side1 => exact rC (Kd.C_below HR0.out HB.out)); (case side2 => exact HC0.out); (case side3 => exact rC (Kd.C_below HR2_0.out HB.out)); (case side4 => exact HC2_0.out); (case side5 => exact rC (Kd.C_below HR2_1.out HB.out)); (case side6 => exact HC2_1.out); (case side7 => exact rC (Kd.C_below HR3.out HB.out)); (case side8 => exact HC3.out); rintro e w22 ⟨rfl, hb⟩; refine ⟨_, rfl, ?_⟩; have n0_ := Aside0.mk (bb BK245.out hb); have n1_ := Aside0.mk (bb BK247.out hb); have n2_ := Aside0.mk (below_step By hb); clear BK245; clear BK247; clear HB; have BK245 := n0_; have BK247 := n1_; have HB := n2_; clear n0_ n1_ n2_; (try clear hb); (try clear hb2); (try clear hk); (try clear hi); have ⟨hcz23_0, hcz23_1, hcz23_2, hcz23_3⟩ := cq4 BK247.out; have ⟨hfz23_0, hfz23_1, hfz23_2, hfz23_3⟩ := fq4 BK247.out))
                    go_roundg k1
                    case measure => have := HK1.out; omega
                    case rel => exact ⟨(t253), (true), (true), (wrap64 (x13_1 - 1)), (by first | rfl | (simp; done) | (simp [*]; done)), (by first | rfl | (simp; done) | (simp [*]; done)), (by first | rfl | (simp; done) | (simp [*]; done)), (by first | rfl | (simp; done) | (simp [*]; done)), H', ⟨by have := HK1.out; omega⟩, ⟨by (with_reducible repeat (first | refine blk_drewN ?_ _ | refine blk_drew ?_ | refine blk_alloc ?_ _)); exact BK245.out⟩, ⟨by (with_reducible repeat (first | refine blk_drewN ?_ _ | refine blk_drew ?_ | refine blk_alloc ?_ _)); exact BK247.out⟩, ⟨By⟩⟩
                  · replace c19 := Bool.eq_false_iff.mpr c19
                    subst c19
                    have H1 : (spec_l04Eval.l0 k1 l0 t253 l3 true (t252 == 2) (wrap64 (x13_1 - 1)) l2_0 l2_1 ((rd_T87 l0 a1).f0) ((rd_T87 l0 a1).f1) ((rd_T87 l0 a1).f2) ((rd_T87 l0 a1).f3)) = some (r1, r2) := by rw [if_neg (show ¬ (false = true) by decide)] at H; exact H
                    clear H
                    have H := H1
                    clear H1
                    have H' := Aside0.mk H
                    clear H
                    have hnb24 := NB245_247.out
                    have hnc24 := NB247_245.out
                    have hcz25_0 : wr.cell? ⟨gb245, 0, none⟩ = some (.slice A2_0 l2_0.length c2_0) := bc BK245.out 0
                    have hcz25_1 : wr.cell? ⟨gb245, 1, none⟩ = some (.slice A2_1 l2_1.length c2_1) := bc BK245.out 1
                    have hfz25_0 := blk_frozen BK245.out 0
                    have hfz25_1 := blk_frozen BK245.out 1
                    go_wp2_with (first | ((with_reducible refine gate_callee (f := 47) rfl ?_); refine goesL_ (some 48) rfl rfl Tryz.func47 (by kernel_rfl) rfl #[.slice (some ad246) l0.length c0, .int .i64 x1_1, .agg #[.slice A2_0 l2_0.length c2_0, .slice A2_1 l2_1.length c2_1], .slice A3 l3.length c3] rfl Ag ?_; (with_reducible refine (ih k1 (by have := HK1.out; omega) _ _ l0 x1_1 _ _ l2_0 _ _ l2_1 _ _ l3 t252 t253 _ ?side1 ?side2 ?side3 ?side4 ?side5 ?side6 ?side7 ?side8 A16.out).mono ?_); (case side1 => exact rC (Kd.C_below HR0.out HB.out)); (case side2 => exact HC0.out); (case side3 => exact rC (Kd.C_below HR2_0.out HB.out)); (case side4 => exact HC2_0.out); (case side5 => exact rC (Kd.C_below HR2_1.out HB.out)); (case side6 => exact HC2_1.out); (case side7 => exact rC (Kd.C_below HR3.out HB.out)); (case side8 => exact HC3.out); rintro e w26 ⟨rfl, hb⟩; refine ⟨_, rfl, ?_⟩; have n0_ := Aside0.mk (bb BK245.out hb); have n1_ := Aside0.mk (bb BK247.out hb); have n2_ := Aside0.mk (below_step By hb); clear BK245; clear BK247; clear HB; have BK245 := n0_; have BK247 := n1_; have HB := n2_; clear n0_ n1_ n2_; (try clear hb); (try clear hb2); (try clear hk); (try clear hi); have ⟨hcz27_0, hcz27_1, hcz27_2, hcz27_3⟩ := cq4 BK247.out; have ⟨hfz27_0, hfz27_1, hfz27_2, hfz27_3⟩ := fq4 BK247.out))
                    go_roundg k1
                    case measure => have := HK1.out; omega
                    case rel => exact ⟨(t253), (true), ((t252 == 2)), (wrap64 (x13_1 - 1)), (by first | rfl | (simp; done) | (simp [*]; done)), (by first | rfl | (simp; done) | (simp [*]; done)), (by first | rfl | (simp; done) | (simp [*]; done)), (by first | rfl | (simp; done) | (simp [*]; done)), H', ⟨by have := HK1.out; omega⟩, ⟨by (with_reducible repeat (first | refine blk_drewN ?_ _ | refine blk_drew ?_ | refine blk_alloc ?_ _)); exact BK245.out⟩, ⟨by (with_reducible repeat (first | refine blk_drewN ?_ _ | refine blk_drew ?_ | refine blk_alloc ?_ _)); exact BK247.out⟩, ⟨By⟩⟩
                · replace c18 := Bool.eq_false_iff.mpr c18
                  subst c18
                  have H1 : (if x12_1 = true then (spec_l04Eval.l0 k1 l0 t253 l3 (t252 == 0) true (wrap64 (x13_1 - 1)) l2_0 l2_1 ((rd_T87 l0 a1).f0) ((rd_T87 l0 a1).f1) ((rd_T87 l0 a1).f2) ((rd_T87 l0 a1).f3)) else (spec_l04Eval.l0 k1 l0 t253 l3 (t252 == 0) (t252 == 2) (wrap64 (x13_1 - 1)) l2_0 l2_1 ((rd_T87 l0 a1).f0) ((rd_T87 l0 a1).f1) ((rd_T87 l0 a1).f2) ((rd_T87 l0 a1).f3))) = some (r1, r2) := by rw [if_neg (show ¬ (false = true) by decide)] at H; exact H
                  clear H
                  have H := H1
                  clear H1
                  by_cases c28 : x12_1 = true
                  · subst c28
                    have H1 : (spec_l04Eval.l0 k1 l0 t253 l3 (t252 == 0) true (wrap64 (x13_1 - 1)) l2_0 l2_1 ((rd_T87 l0 a1).f0) ((rd_T87 l0 a1).f1) ((rd_T87 l0 a1).f2) ((rd_T87 l0 a1).f3)) = some (r1, r2) := by rw [if_pos rfl] at H; exact H
                    clear H
                    have H := H1
                    clear H1
                    have H' := Aside0.mk H
                    clear H
                    have hnb29 := NB245_247.out
                    have hnc29 := NB247_245.out
                    have hcz30_0 : wr.cell? ⟨gb245, 0, none⟩ = some (.slice A2_0 l2_0.length c2_0) := bc BK245.out 0
                    have hcz30_1 : wr.cell? ⟨gb245, 1, none⟩ = some (.slice A2_1 l2_1.length c2_1) := bc BK245.out 1
                    have hfz30_0 := blk_frozen BK245.out 0
                    have hfz30_1 := blk_frozen BK245.out 1
                    go_wp2_with (first | ((with_reducible refine gate_callee (f := 47) rfl ?_); refine goesL_ (some 48) rfl rfl Tryz.func47 (by kernel_rfl) rfl #[.slice (some ad246) l0.length c0, .int .i64 x1_1, .agg #[.slice A2_0 l2_0.length c2_0, .slice A2_1 l2_1.length c2_1], .slice A3 l3.length c3] rfl Ag ?_; (with_reducible refine (ih k1 (by have := HK1.out; omega) _ _ l0 x1_1 _ _ l2_0 _ _ l2_1 _ _ l3 t252 t253 _ ?side1 ?side2 ?side3 ?side4 ?side5 ?side6 ?side7 ?side8 A16.out).mono ?_); (case side1 => exact rC (Kd.C_below HR0.out HB.out)); (case side2 => exact HC0.out); (case side3 => exact rC (Kd.C_below HR2_0.out HB.out)); (case side4 => exact HC2_0.out); (case side5 => exact rC (Kd.C_below HR2_1.out HB.out)); (case side6 => exact HC2_1.out); (case side7 => exact rC (Kd.C_below HR3.out HB.out)); (case side8 => exact HC3.out); rintro e w31 ⟨rfl, hb⟩; refine ⟨_, rfl, ?_⟩; have n0_ := Aside0.mk (bb BK245.out hb); have n1_ := Aside0.mk (bb BK247.out hb); have n2_ := Aside0.mk (below_step By hb); clear BK245; clear BK247; clear HB; have BK245 := n0_; have BK247 := n1_; have HB := n2_; clear n0_ n1_ n2_; (try clear hb); (try clear hb2); (try clear hk); (try clear hi); have ⟨hcz32_0, hcz32_1, hcz32_2, hcz32_3⟩ := cq4 BK247.out; have ⟨hfz32_0, hfz32_1, hfz32_2, hfz32_3⟩ := fq4 BK247.out))
                    go_roundg k1
                    case measure => have := HK1.out; omega
                    case rel => exact ⟨(t253), ((t252 == 0)), (true), (wrap64 (x13_1 - 1)), (by first | rfl | (simp; done) | (simp [*]; done)), (by first | rfl | (simp; done) | (simp [*]; done)), (by first | rfl | (simp; done) | (simp [*]; done)), (by first | rfl | (simp; done) | (simp [*]; done)), H', ⟨by have := HK1.out; omega⟩, ⟨by (with_reducible repeat (first | refine blk_drewN ?_ _ | refine blk_drew ?_ | refine blk_alloc ?_ _)); exact BK245.out⟩, ⟨by (with_reducible repeat (first | refine blk_drewN ?_ _ | refine blk_drew ?_ | refine blk_alloc ?_ _)); exact BK247.out⟩, ⟨By⟩⟩
                  · replace c28 := Bool.eq_false_iff.mpr c28
                    subst c28
                    have H1 : (spec_l04Eval.l0 k1 l0 t253 l3 (t252 == 0) (t252 == 2) (wrap64 (x13_1 - 1)) l2_0 l2_1 ((rd_T87 l0 a1).f0) ((rd_T87 l0 a1).f1) ((rd_T87 l0 a1).f2) ((rd_T87 l0 a1).f3)) = some (r1, r2) := by rw [if_neg (show ¬ (false = true) by decide)] at H; exact H
                    clear H
                    have H := H1
                    clear H1
                    have H' := Aside0.mk H
                    clear H
                    have hnb33 := NB245_247.out
                    have hnc33 := NB247_245.out
                    have hcz34_0 : wr.cell? ⟨gb245, 0, none⟩ = some (.slice A2_0 l2_0.length c2_0) := bc BK245.out 0
                    have hcz34_1 : wr.cell? ⟨gb245, 1, none⟩ = some (.slice A2_1 l2_1.length c2_1) := bc BK245.out 1
                    have hfz34_0 := blk_frozen BK245.out 0
                    have hfz34_1 := blk_frozen BK245.out 1
                    go_wp2_with (first | ((with_reducible refine gate_callee (f := 47) rfl ?_); refine goesL_ (some 48) rfl rfl Tryz.func47 (by kernel_rfl) rfl #[.slice (some ad246) l0.length c0, .int .i64 x1_1, .agg #[.slice A2_0 l2_0.length c2_0, .slice A2_1 l2_1.length c2_1], .slice A3 l3.length c3] rfl Ag ?_; (with_reducible refine (ih k1 (by have := HK1.out; omega) _ _ l0 x1_1 _ _ l2_0 _ _ l2_1 _ _ l3 t252 t253 _ ?side1 ?side2 ?side3 ?side4 ?side5 ?side6 ?side7 ?side8 A16.out).mono ?_); (case side1 => exact rC (Kd.C_below HR0.out HB.out)); (case side2 => exact HC0.out); (case side3 => exact rC (Kd.C_below HR2_0.out HB.out)); (case side4 => exact HC2_0.out); (case side5 => exact rC (Kd.C_below HR2_1.out HB.out)); (case side6 => exact HC2_1.out); (case side7 => exact rC (Kd.C_below HR3.out HB.out)); (case side8 => exact HC3.out); rintro e w35 ⟨rfl, hb⟩; refine ⟨_, rfl, ?_⟩; have n0_ := Aside0.mk (bb BK245.out hb); have n1_ := Aside0.mk (bb BK247.out hb); have n2_ := Aside0.mk (below_step By hb); clear BK245; clear BK247; clear HB; have BK245 := n0_; have BK247 := n1_; have HB := n2_; clear n0_ n1_ n2_; (try clear hb); (try clear hb2); (try clear hk); (try clear hi); have ⟨hcz36_0, hcz36_1, hcz36_2, hcz36_3⟩ := cq4 BK247.out; have ⟨hfz36_0, hfz36_1, hfz36_2, hfz36_3⟩ := fq4 BK247.out))
                    go_roundg k1
                    case measure => have := HK1.out; omega
                    case rel => exact ⟨(t253), ((t252 == 0)), ((t252 == 2)), (wrap64 (x13_1 - 1)), (by first | rfl | (simp; done) | (simp [*]; done)), (by first | rfl | (simp; done) | (simp [*]; done)), (by first | rfl | (simp; done) | (simp [*]; done)), (by first | rfl | (simp; done) | (simp [*]; done)), H', ⟨by have := HK1.out; omega⟩, ⟨by (with_reducible repeat (first | refine blk_drewN ?_ _ | refine blk_drew ?_ | refine blk_alloc ?_ _)); exact BK245.out⟩, ⟨by (with_reducible repeat (first | refine blk_drewN ?_ _ | refine blk_drew ?_ | refine blk_alloc ?_ _)); exact BK247.out⟩, ⟨By⟩⟩
              · rw [if_neg c17] at H
                have c17b0 : (((rd_T87 l0 a1).f0) == 1) = false := beq_eq_false_iff_ne.mpr c17
                have c17b1 : (((rd_T87 l0 a1).f0) != 1) = true := bne_iff_ne.mpr c17
                replace H := Option.bind_eq_some_iff.mp H
                obtain ⟨t254, A370, H⟩ := H
                replace H : (if x11_1 = true then (if x12_1 = true then (spec_l04Eval.l0 k1 l0 t253 l3 true true (wrap64 (x13_1 - 1)) l2_0 l2_1 ((rd_T87 l0 a1).f0) ((rd_T87 l0 a1).f1) ((rd_T87 l0 a1).f2) ((rd_T87 l0 a1).f3)) else (spec_l04Eval.l0 k1 l0 t253 l3 true (t254 == 2) (wrap64 (x13_1 - 1)) l2_0 l2_1 ((rd_T87 l0 a1).f0) ((rd_T87 l0 a1).f1) ((rd_T87 l0 a1).f2) ((rd_T87 l0 a1).f3))) else (if x12_1 = true then (spec_l04Eval.l0 k1 l0 t253 l3 (t254 == 0) true (wrap64 (x13_1 - 1)) l2_0 l2_1 ((rd_T87 l0 a1).f0) ((rd_T87 l0 a1).f1) ((rd_T87 l0 a1).f2) ((rd_T87 l0 a1).f3)) else (spec_l04Eval.l0 k1 l0 t253 l3 (t254 == 0) (t254 == 2) (wrap64 (x13_1 - 1)) l2_0 l2_1 ((rd_T87 l0 a1).f0) ((rd_T87 l0 a1).f1) ((rd_T87 l0 a1).f2) ((rd_T87 l0 a1).f3)))) = some (r1, r2) := H
                have A37 := Aside0.mk A370
                clear A370
                by_cases c38 : x11_1 = true
                · subst c38
                  have H1 : (if x12_1 = true then (spec_l04Eval.l0 k1 l0 t253 l3 true true (wrap64 (x13_1 - 1)) l2_0 l2_1 ((rd_T87 l0 a1).f0) ((rd_T87 l0 a1).f1) ((rd_T87 l0 a1).f2) ((rd_T87 l0 a1).f3)) else (spec_l04Eval.l0 k1 l0 t253 l3 true (t254 == 2) (wrap64 (x13_1 - 1)) l2_0 l2_1 ((rd_T87 l0 a1).f0) ((rd_T87 l0 a1).f1) ((rd_T87 l0 a1).f2) ((rd_T87 l0 a1).f3))) = some (r1, r2) := by rw [if_pos rfl] at H; exact H
                  clear H
                  have H := H1
                  clear H1
                  by_cases c39 : x12_1 = true
                  · subst c39
                    have H1 : (spec_l04Eval.l0 k1 l0 t253 l3 true true (wrap64 (x13_1 - 1)) l2_0 l2_1 ((rd_T87 l0 a1).f0) ((rd_T87 l0 a1).f1) ((rd_T87 l0 a1).f2) ((rd_T87 l0 a1).f3)) = some (r1, r2) := by rw [if_pos rfl] at H; exact H
                    clear H
                    have H := H1
                    clear H1
                    have H' := Aside0.mk H
                    clear H
                    have hnb40 := NB245_247.out
                    have hnc40 := NB247_245.out
                    have hcz41_0 : wr.cell? ⟨gb245, 0, none⟩ = some (.slice A2_0 l2_0.length c2_0) := bc BK245.out 0
                    have hcz41_1 : wr.cell? ⟨gb245, 1, none⟩ = some (.slice A2_1 l2_1.length c2_1) := bc BK245.out 1
                    have hfz41_0 := blk_frozen BK245.out 0
                    have hfz41_1 := blk_frozen BK245.out 1
                    go_wp2_with (first | ((with_reducible refine gate_callee (f := 47) rfl ?_); refine goesL_ (some 48) rfl rfl Tryz.func47 (by kernel_rfl) rfl #[.slice (some ad246) l0.length c0, .int .i64 x1_1, .agg #[.slice A2_0 l2_0.length c2_0, .slice A2_1 l2_1.length c2_1], .slice A3 l3.length c3] rfl Ag ?_; (with_reducible refine (ih k1 (by have := HK1.out; omega) _ _ l0 x1_1 _ _ l2_0 _ _ l2_1 _ _ l3 t252 t253 _ ?side1 ?side2 ?side3 ?side4 ?side5 ?side6 ?side7 ?side8 A16.out).mono ?_); (case side1 => exact rC (Kd.C_below HR0.out HB.out)); (case side2 => exact HC0.out); (case side3 => exact rC (Kd.C_below HR2_0.out HB.out)); (case side4 => exact HC2_0.out); (case side5 => exact rC (Kd.C_below HR2_1.out HB.out)); (case side6 => exact HC2_1.out); (case side7 => exact rC (Kd.C_below HR3.out HB.out)); (case side8 => exact HC3.out); rintro e w42 ⟨rfl, hb⟩; refine ⟨_, rfl, ?_⟩; have n0_ := Aside0.mk (bb BK245.out hb); have n1_ := Aside0.mk (bb BK247.out hb); have n2_ := Aside0.mk (below_step By hb); clear BK245; clear BK247; clear HB; have BK245 := n0_; have BK247 := n1_; have HB := n2_; clear n0_ n1_ n2_; (try clear hb); (try clear hb2); (try clear hk); (try clear hi); have ⟨hcz43_0, hcz43_1, hcz43_2, hcz43_3⟩ := cq4 BK247.out; have ⟨hfz43_0, hfz43_1, hfz43_2, hfz43_3⟩ := fq4 BK247.out) | ((with_reducible refine gate_callee (f := 83) rfl ?_); refine goesL_ (some 56) rfl rfl Tryz.func83 (by kernel_rfl) rfl #[.int .i64 t252] rfl Ag ?_; (with_reducible refine (spec_Not.calls t252 t254 _ A37.out).mono ?_); rintro e w' ⟨rfl, ⟨nd, rfl⟩⟩; refine ⟨_, rfl, ?_⟩))
                    go_roundg k1
                    case measure => have := HK1.out; omega
                    case rel => exact ⟨(t253), (true), (true), (wrap64 (x13_1 - 1)), (by first | rfl | (simp; done) | (simp [*]; done)), (by first | rfl | (simp; done) | (simp [*]; done)), (by first | rfl | (simp; done) | (simp [*]; done)), (by first | rfl | (simp; done) | (simp [*]; done)), H', ⟨by have := HK1.out; omega⟩, ⟨by (with_reducible repeat (first | refine blk_drewN ?_ _ | refine blk_drew ?_ | refine blk_alloc ?_ _)); exact BK245.out⟩, ⟨by (with_reducible repeat (first | refine blk_drewN ?_ _ | refine blk_drew ?_ | refine blk_alloc ?_ _)); exact BK247.out⟩, ⟨By⟩⟩
                  · replace c39 := Bool.eq_false_iff.mpr c39
                    subst c39
                    have H1 : (spec_l04Eval.l0 k1 l0 t253 l3 true (t254 == 2) (wrap64 (x13_1 - 1)) l2_0 l2_1 ((rd_T87 l0 a1).f0) ((rd_T87 l0 a1).f1) ((rd_T87 l0 a1).f2) ((rd_T87 l0 a1).f3)) = some (r1, r2) := by rw [if_neg (show ¬ (false = true) by decide)] at H; exact H
                    clear H
                    have H := H1
                    clear H1
                    have H' := Aside0.mk H
                    clear H
                    have hnb44 := NB245_247.out
                    have hnc44 := NB247_245.out
                    have hcz45_0 : wr.cell? ⟨gb245, 0, none⟩ = some (.slice A2_0 l2_0.length c2_0) := bc BK245.out 0
                    have hcz45_1 : wr.cell? ⟨gb245, 1, none⟩ = some (.slice A2_1 l2_1.length c2_1) := bc BK245.out 1
                    have hfz45_0 := blk_frozen BK245.out 0
                    have hfz45_1 := blk_frozen BK245.out 1
                    go_wp2_with (first | ((with_reducible refine gate_callee (f := 47) rfl ?_); refine goesL_ (some 48) rfl rfl Tryz.func47 (by kernel_rfl) rfl #[.slice (some ad246) l0.length c0, .int .i64 x1_1, .agg #[.slice A2_0 l2_0.length c2_0, .slice A2_1 l2_1.length c2_1], .slice A3 l3.length c3] rfl Ag ?_; (with_reducible refine (ih k1 (by have := HK1.out; omega) _ _ l0 x1_1 _ _ l2_0 _ _ l2_1 _ _ l3 t252 t253 _ ?side1 ?side2 ?side3 ?side4 ?side5 ?side6 ?side7 ?side8 A16.out).mono ?_); (case side1 => exact rC (Kd.C_below HR0.out HB.out)); (case side2 => exact HC0.out); (case side3 => exact rC (Kd.C_below HR2_0.out HB.out)); (case side4 => exact HC2_0.out); (case side5 => exact rC (Kd.C_below HR2_1.out HB.out)); (case side6 => exact HC2_1.out); (case side7 => exact rC (Kd.C_below HR3.out HB.out)); (case side8 => exact HC3.out); rintro e w46 ⟨rfl, hb⟩; refine ⟨_, rfl, ?_⟩; have n0_ := Aside0.mk (bb BK245.out hb); have n1_ := Aside0.mk (bb BK247.out hb); have n2_ := Aside0.mk (below_step By hb); clear BK245; clear BK247; clear HB; have BK245 := n0_; have BK247 := n1_; have HB := n2_; clear n0_ n1_ n2_; (try clear hb); (try clear hb2); (try clear hk); (try clear hi); have ⟨hcz47_0, hcz47_1, hcz47_2, hcz47_3⟩ := cq4 BK247.out; have ⟨hfz47_0, hfz47_1, hfz47_2, hfz47_3⟩ := fq4 BK247.out) | ((with_reducible refine gate_callee (f := 83) rfl ?_); refine goesL_ (some 56) rfl rfl Tryz.func83 (by kernel_rfl) rfl #[.int .i64 t252] rfl Ag ?_; (with_reducible refine (spec_Not.calls t252 t254 _ A37.out).mono ?_); rintro e w' ⟨rfl, ⟨nd, rfl⟩⟩; refine ⟨_, rfl, ?_⟩))
                    go_roundg k1
                    case measure => have := HK1.out; omega
                    case rel => exact ⟨(t253), (true), ((t254 == 2)), (wrap64 (x13_1 - 1)), (by first | rfl | (simp; done) | (simp [*]; done)), (by first | rfl | (simp; done) | (simp [*]; done)), (by first | rfl | (simp; done) | (simp [*]; done)), (by first | rfl | (simp; done) | (simp [*]; done)), H', ⟨by have := HK1.out; omega⟩, ⟨by (with_reducible repeat (first | refine blk_drewN ?_ _ | refine blk_drew ?_ | refine blk_alloc ?_ _)); exact BK245.out⟩, ⟨by (with_reducible repeat (first | refine blk_drewN ?_ _ | refine blk_drew ?_ | refine blk_alloc ?_ _)); exact BK247.out⟩, ⟨By⟩⟩
                · replace c38 := Bool.eq_false_iff.mpr c38
                  subst c38
                  have H1 : (if x12_1 = true then (spec_l04Eval.l0 k1 l0 t253 l3 (t254 == 0) true (wrap64 (x13_1 - 1)) l2_0 l2_1 ((rd_T87 l0 a1).f0) ((rd_T87 l0 a1).f1) ((rd_T87 l0 a1).f2) ((rd_T87 l0 a1).f3)) else (spec_l04Eval.l0 k1 l0 t253 l3 (t254 == 0) (t254 == 2) (wrap64 (x13_1 - 1)) l2_0 l2_1 ((rd_T87 l0 a1).f0) ((rd_T87 l0 a1).f1) ((rd_T87 l0 a1).f2) ((rd_T87 l0 a1).f3))) = some (r1, r2) := by rw [if_neg (show ¬ (false = true) by decide)] at H; exact H
                  clear H
                  have H := H1
                  clear H1
                  by_cases c48 : x12_1 = true
                  · subst c48
                    have H1 : (spec_l04Eval.l0 k1 l0 t253 l3 (t254 == 0) true (wrap64 (x13_1 - 1)) l2_0 l2_1 ((rd_T87 l0 a1).f0) ((rd_T87 l0 a1).f1) ((rd_T87 l0 a1).f2) ((rd_T87 l0 a1).f3)) = some (r1, r2) := by rw [if_pos rfl] at H; exact H
                    clear H
                    have H := H1
                    clear H1
                    have H' := Aside0.mk H
                    clear H
                    have hnb49 := NB245_247.out
                    have hnc49 := NB247_245.out
                    have hcz50_0 : wr.cell? ⟨gb245, 0, none⟩ = some (.slice A2_0 l2_0.length c2_0) := bc BK245.out 0
                    have hcz50_1 : wr.cell? ⟨gb245, 1, none⟩ = some (.slice A2_1 l2_1.length c2_1) := bc BK245.out 1
                    have hfz50_0 := blk_frozen BK245.out 0
                    have hfz50_1 := blk_frozen BK245.out 1
                    go_wp2_with (first | ((with_reducible refine gate_callee (f := 47) rfl ?_); refine goesL_ (some 48) rfl rfl Tryz.func47 (by kernel_rfl) rfl #[.slice (some ad246) l0.length c0, .int .i64 x1_1, .agg #[.slice A2_0 l2_0.length c2_0, .slice A2_1 l2_1.length c2_1], .slice A3 l3.length c3] rfl Ag ?_; (with_reducible refine (ih k1 (by have := HK1.out; omega) _ _ l0 x1_1 _ _ l2_0 _ _ l2_1 _ _ l3 t252 t253 _ ?side1 ?side2 ?side3 ?side4 ?side5 ?side6 ?side7 ?side8 A16.out).mono ?_); (case side1 => exact rC (Kd.C_below HR0.out HB.out)); (case side2 => exact HC0.out); (case side3 => exact rC (Kd.C_below HR2_0.out HB.out)); (case side4 => exact HC2_0.out); (case side5 => exact rC (Kd.C_below HR2_1.out HB.out)); (case side6 => exact HC2_1.out); (case side7 => exact rC (Kd.C_below HR3.out HB.out)); (case side8 => exact HC3.out); rintro e w51 ⟨rfl, hb⟩; refine ⟨_, rfl, ?_⟩; have n0_ := Aside0.mk (bb BK245.out hb); have n1_ := Aside0.mk (bb BK247.out hb); have n2_ := Aside0.mk (below_step By hb); clear BK245; clear BK247; clear HB; have BK245 := n0_; have BK247 := n1_; have HB := n2_; clear n0_ n1_ n2_; (try clear hb); (try clear hb2); (try clear hk); (try clear hi); have ⟨hcz52_0, hcz52_1, hcz52_2, hcz52_3⟩ := cq4 BK247.out; have ⟨hfz52_0, hfz52_1, hfz52_2, hfz52_3⟩ := fq4 BK247.out) | ((with_reducible refine gate_callee (f := 83) rfl ?_); refine goesL_ (some 56) rfl rfl Tryz.func83 (by kernel_rfl) rfl #[.int .i64 t252] rfl Ag ?_; (with_reducible refine (spec_Not.calls t252 t254 _ A37.out).mono ?_); rintro e w' ⟨rfl, ⟨nd, rfl⟩⟩; refine ⟨_, rfl, ?_⟩))
                    go_roundg k1
                    case measure => have := HK1.out; omega
                    case rel => exact ⟨(t253), ((t254 == 0)), (true), (wrap64 (x13_1 - 1)), (by first | rfl | (simp; done) | (simp [*]; done)), (by first | rfl | (simp; done) | (simp [*]; done)), (by first | rfl | (simp; done) | (simp [*]; done)), (by first | rfl | (simp; done) | (simp [*]; done)), H', ⟨by have := HK1.out; omega⟩, ⟨by (with_reducible repeat (first | refine blk_drewN ?_ _ | refine blk_drew ?_ | refine blk_alloc ?_ _)); exact BK245.out⟩, ⟨by (with_reducible repeat (first | refine blk_drewN ?_ _ | refine blk_drew ?_ | refine blk_alloc ?_ _)); exact BK247.out⟩, ⟨By⟩⟩
                  · replace c48 := Bool.eq_false_iff.mpr c48
                    subst c48
                    have H1 : (spec_l04Eval.l0 k1 l0 t253 l3 (t254 == 0) (t254 == 2) (wrap64 (x13_1 - 1)) l2_0 l2_1 ((rd_T87 l0 a1).f0) ((rd_T87 l0 a1).f1) ((rd_T87 l0 a1).f2) ((rd_T87 l0 a1).f3)) = some (r1, r2) := by rw [if_neg (show ¬ (false = true) by decide)] at H; exact H
                    clear H
                    have H := H1
                    clear H1
                    have H' := Aside0.mk H
                    clear H
                    have hnb53 := NB245_247.out
                    have hnc53 := NB247_245.out
                    have hcz54_0 : wr.cell? ⟨gb245, 0, none⟩ = some (.slice A2_0 l2_0.length c2_0) := bc BK245.out 0
                    have hcz54_1 : wr.cell? ⟨gb245, 1, none⟩ = some (.slice A2_1 l2_1.length c2_1) := bc BK245.out 1
                    have hfz54_0 := blk_frozen BK245.out 0
                    have hfz54_1 := blk_frozen BK245.out 1
                    go_wp2_with (first | ((with_reducible refine gate_callee (f := 47) rfl ?_); refine goesL_ (some 48) rfl rfl Tryz.func47 (by kernel_rfl) rfl #[.slice (some ad246) l0.length c0, .int .i64 x1_1, .agg #[.slice A2_0 l2_0.length c2_0, .slice A2_1 l2_1.length c2_1], .slice A3 l3.length c3] rfl Ag ?_; (with_reducible refine (ih k1 (by have := HK1.out; omega) _ _ l0 x1_1 _ _ l2_0 _ _ l2_1 _ _ l3 t252 t253 _ ?side1 ?side2 ?side3 ?side4 ?side5 ?side6 ?side7 ?side8 A16.out).mono ?_); (case side1 => exact rC (Kd.C_below HR0.out HB.out)); (case side2 => exact HC0.out); (case side3 => exact rC (Kd.C_below HR2_0.out HB.out)); (case side4 => exact HC2_0.out); (case side5 => exact rC (Kd.C_below HR2_1.out HB.out)); (case side6 => exact HC2_1.out); (case side7 => exact rC (Kd.C_below HR3.out HB.out)); (case side8 => exact HC3.out); rintro e w55 ⟨rfl, hb⟩; refine ⟨_, rfl, ?_⟩; have n0_ := Aside0.mk (bb BK245.out hb); have n1_ := Aside0.mk (bb BK247.out hb); have n2_ := Aside0.mk (below_step By hb); clear BK245; clear BK247; clear HB; have BK245 := n0_; have BK247 := n1_; have HB := n2_; clear n0_ n1_ n2_; (try clear hb); (try clear hb2); (try clear hk); (try clear hi); have ⟨hcz56_0, hcz56_1, hcz56_2, hcz56_3⟩ := cq4 BK247.out; have ⟨hfz56_0, hfz56_1, hfz56_2, hfz56_3⟩ := fq4 BK247.out) | ((with_reducible refine gate_callee (f := 83) rfl ?_); refine goesL_ (some 56) rfl rfl Tryz.func83 (by kernel_rfl) rfl #[.int .i64 t252] rfl Ag ?_; (with_reducible refine (spec_Not.calls t252 t254 _ A37.out).mono ?_); rintro e w' ⟨rfl, ⟨nd, rfl⟩⟩; refine ⟨_, rfl, ?_⟩))
                    go_roundg k1
                    case measure => have := HK1.out; omega
                    case rel => exact ⟨(t253), ((t254 == 0)), ((t254 == 2)), (wrap64 (x13_1 - 1)), (by first | rfl | (simp; done) | (simp [*]; done)), (by first | rfl | (simp; done) | (simp [*]; done)), (by first | rfl | (simp; done) | (simp [*]; done)), (by first | rfl | (simp; done) | (simp [*]; done)), H', ⟨by have := HK1.out; omega⟩, ⟨by (with_reducible repeat (first | refine blk_drewN ?_ _ | refine blk_drew ?_ | refine blk_alloc ?_ _)); exact BK245.out⟩, ⟨by (with_reducible repeat (first | refine blk_drewN ?_ _ | refine blk_drew ?_ | refine blk_alloc ?_ _)); exact BK247.out⟩, ⟨By⟩⟩
            · rw [if_neg c15] at H
              have c15b0 : decide (0 < x13_1) = false := decide_eq_false c15
              clear c15
              by_cases c57 : x11_1 = true
              · subst c57
                have H1 : (if ((rd_T87 l0 a1).f0) = 2 then ((spec_Not.f 0).bind fun t255 => (some (t255, x1_1))) else (some (0, x1_1))) = some (r1, r2) := by rw [if_pos rfl] at H; exact H
                clear H
                have H := H1
                clear H1
                by_cases c58 : ((rd_T87 l0 a1).f0) = 2
                · rw [if_pos c58] at H
                  have c58b0 : (((rd_T87 l0 a1).f0) == 2) = true := beq_iff_eq.mpr c58
                  have c58b1 : (((rd_T87 l0 a1).f0) != 2) = false := bne_eq_false_iff_eq.mpr c58
                  clear c58
                  replace H := Option.bind_eq_some_iff.mp H
                  obtain ⟨t255, A590, H⟩ := H
                  replace H : (some (t255, x1_1)) = some (r1, r2) := H
                  have A59 := Aside0.mk A590
                  clear A590
                  simp only [Option.some.injEq, Prod.mk.injEq] at H
                  obtain ⟨rfl, rfl⟩ := H
                  have hnb60 := NB247_245.out
                  have hnc60 := NB245_247.out
                  have hcz61_0 : wr.cell? ⟨gb247, 0, none⟩ = some (.int .i64 ((rd_T87 l0 a1).f0)) := bc BK247.out 0
                  have hcz61_1 : wr.cell? ⟨gb247, 1, none⟩ = some (.string ((rd_T87 l0 a1).f1)) := bc BK247.out 1
                  have hcz61_2 : wr.cell? ⟨gb247, 2, none⟩ = some (.string ((rd_T87 l0 a1).f2)) := bc BK247.out 2
                  have hcz61_3 : wr.cell? ⟨gb247, 3, none⟩ = some (.int .i64 ((rd_T87 l0 a1).f3)) := bc BK247.out 3
                  have hfz61_0 := blk_frozen BK247.out 0
                  have hfz61_1 := blk_frozen BK247.out 1
                  have hfz61_2 := blk_frozen BK247.out 2
                  have hfz61_3 := blk_frozen BK247.out 3
                  go_wp2_with (first | ((with_reducible refine gate_callee (f := 83) rfl ?_); refine goesL_ (some 75) rfl rfl Tryz.func83 (by kernel_rfl) rfl #[.int .i64 0] rfl Ag ?_; (with_reducible refine (spec_Not.calls 0 t255 _ A59.out).mono ?_); rintro e w' ⟨rfl, ⟨nd, rfl⟩⟩; refine ⟨_, rfl, ?_⟩))
                  go_ret2
                  exact ⟨Rf, By⟩
                · rw [if_neg c58] at H
                  have c58b0 : (((rd_T87 l0 a1).f0) == 2) = false := beq_eq_false_iff_ne.mpr c58
                  have c58b1 : (((rd_T87 l0 a1).f0) != 2) = true := bne_iff_ne.mpr c58
                  simp only [Option.some.injEq, Prod.mk.injEq] at H
                  obtain ⟨rfl, rfl⟩ := H
                  have hnb62 := NB247_245.out
                  have hnc62 := NB245_247.out
                  have hcz63_0 : wr.cell? ⟨gb247, 0, none⟩ = some (.int .i64 ((rd_T87 l0 a1).f0)) := bc BK247.out 0
                  have hcz63_1 : wr.cell? ⟨gb247, 1, none⟩ = some (.string ((rd_T87 l0 a1).f1)) := bc BK247.out 1
                  have hcz63_2 : wr.cell? ⟨gb247, 2, none⟩ = some (.string ((rd_T87 l0 a1).f2)) := bc BK247.out 2
                  have hcz63_3 : wr.cell? ⟨gb247, 3, none⟩ = some (.int .i64 ((rd_T87 l0 a1).f3)) := bc BK247.out 3
                  have hfz63_0 := blk_frozen BK247.out 0
                  have hfz63_1 := blk_frozen BK247.out 1
                  have hfz63_2 := blk_frozen BK247.out 2
                  have hfz63_3 := blk_frozen BK247.out 3
                  go_wp2
                  go_ret2
                  exact ⟨Rf, By⟩
              · replace c57 := Bool.eq_false_iff.mpr c57
                subst c57
                have H1 : (if x12_1 = true then (if ((rd_T87 l0 a1).f0) = 2 then ((spec_Not.f 2).bind fun t256 => (some (t256, x1_1))) else (some (2, x1_1))) else (if ((rd_T87 l0 a1).f0) = 2 then ((spec_Not.f 1).bind fun t257 => (some (t257, x1_1))) else (some (1, x1_1)))) = some (r1, r2) := by rw [if_neg (show ¬ (false = true) by decide)] at H; exact H
                clear H
                have H := H1
                clear H1
                by_cases c64 : x12_1 = true
                · subst c64
                  have H1 : (if ((rd_T87 l0 a1).f0) = 2 then ((spec_Not.f 2).bind fun t256 => (some (t256, x1_1))) else (some (2, x1_1))) = some (r1, r2) := by rw [if_pos rfl] at H; exact H
                  clear H
                  have H := H1
                  clear H1
                  by_cases c65 : ((rd_T87 l0 a1).f0) = 2
                  · rw [if_pos c65] at H
                    have c65b0 : (((rd_T87 l0 a1).f0) == 2) = true := beq_iff_eq.mpr c65
                    have c65b1 : (((rd_T87 l0 a1).f0) != 2) = false := bne_eq_false_iff_eq.mpr c65
                    clear c65
                    replace H := Option.bind_eq_some_iff.mp H
                    obtain ⟨t256, A660, H⟩ := H
                    replace H : (some (t256, x1_1)) = some (r1, r2) := H
                    have A66 := Aside0.mk A660
                    clear A660
                    simp only [Option.some.injEq, Prod.mk.injEq] at H
                    obtain ⟨rfl, rfl⟩ := H
                    have hnb67 := NB247_245.out
                    have hnc67 := NB245_247.out
                    have hcz68_0 : wr.cell? ⟨gb247, 0, none⟩ = some (.int .i64 ((rd_T87 l0 a1).f0)) := bc BK247.out 0
                    have hcz68_1 : wr.cell? ⟨gb247, 1, none⟩ = some (.string ((rd_T87 l0 a1).f1)) := bc BK247.out 1
                    have hcz68_2 : wr.cell? ⟨gb247, 2, none⟩ = some (.string ((rd_T87 l0 a1).f2)) := bc BK247.out 2
                    have hcz68_3 : wr.cell? ⟨gb247, 3, none⟩ = some (.int .i64 ((rd_T87 l0 a1).f3)) := bc BK247.out 3
                    have hfz68_0 := blk_frozen BK247.out 0
                    have hfz68_1 := blk_frozen BK247.out 1
                    have hfz68_2 := blk_frozen BK247.out 2
                    have hfz68_3 := blk_frozen BK247.out 3
                    go_wp2_with (first | ((with_reducible refine gate_callee (f := 83) rfl ?_); refine goesL_ (some 75) rfl rfl Tryz.func83 (by kernel_rfl) rfl #[.int .i64 2] rfl Ag ?_; (with_reducible refine (spec_Not.calls 2 t256 _ A66.out).mono ?_); rintro e w' ⟨rfl, ⟨nd, rfl⟩⟩; refine ⟨_, rfl, ?_⟩))
                    go_ret2
                    exact ⟨Rf, By⟩
                  · rw [if_neg c65] at H
                    have c65b0 : (((rd_T87 l0 a1).f0) == 2) = false := beq_eq_false_iff_ne.mpr c65
                    have c65b1 : (((rd_T87 l0 a1).f0) != 2) = true := bne_iff_ne.mpr c65
                    simp only [Option.some.injEq, Prod.mk.injEq] at H
                    obtain ⟨rfl, rfl⟩ := H
                    have hnb69 := NB247_245.out
                    have hnc69 := NB245_247.out
                    have hcz70_0 : wr.cell? ⟨gb247, 0, none⟩ = some (.int .i64 ((rd_T87 l0 a1).f0)) := bc BK247.out 0
                    have hcz70_1 : wr.cell? ⟨gb247, 1, none⟩ = some (.string ((rd_T87 l0 a1).f1)) := bc BK247.out 1
                    have hcz70_2 : wr.cell? ⟨gb247, 2, none⟩ = some (.string ((rd_T87 l0 a1).f2)) := bc BK247.out 2
                    have hcz70_3 : wr.cell? ⟨gb247, 3, none⟩ = some (.int .i64 ((rd_T87 l0 a1).f3)) := bc BK247.out 3
                    have hfz70_0 := blk_frozen BK247.out 0
                    have hfz70_1 := blk_frozen BK247.out 1
                    have hfz70_2 := blk_frozen BK247.out 2
                    have hfz70_3 := blk_frozen BK247.out 3
                    go_wp2
                    go_ret2
                    exact ⟨Rf, By⟩
                · replace c64 := Bool.eq_false_iff.mpr c64
                  subst c64
                  have H1 : (if ((rd_T87 l0 a1).f0) = 2 then ((spec_Not.f 1).bind fun t257 => (some (t257, x1_1))) else (some (1, x1_1))) = some (r1, r2) := by rw [if_neg (show ¬ (false = true) by decide)] at H; exact H
                  clear H
                  have H := H1
                  clear H1
                  by_cases c71 : ((rd_T87 l0 a1).f0) = 2
                  · rw [if_pos c71] at H
                    have c71b0 : (((rd_T87 l0 a1).f0) == 2) = true := beq_iff_eq.mpr c71
                    have c71b1 : (((rd_T87 l0 a1).f0) != 2) = false := bne_eq_false_iff_eq.mpr c71
                    clear c71
                    replace H := Option.bind_eq_some_iff.mp H
                    obtain ⟨t257, A720, H⟩ := H
                    replace H : (some (t257, x1_1)) = some (r1, r2) := H
                    have A72 := Aside0.mk A720
                    clear A720
                    simp only [Option.some.injEq, Prod.mk.injEq] at H
                    obtain ⟨rfl, rfl⟩ := H
                    have hnb73 := NB247_245.out
                    have hnc73 := NB245_247.out
                    have hcz74_0 : wr.cell? ⟨gb247, 0, none⟩ = some (.int .i64 ((rd_T87 l0 a1).f0)) := bc BK247.out 0
                    have hcz74_1 : wr.cell? ⟨gb247, 1, none⟩ = some (.string ((rd_T87 l0 a1).f1)) := bc BK247.out 1
                    have hcz74_2 : wr.cell? ⟨gb247, 2, none⟩ = some (.string ((rd_T87 l0 a1).f2)) := bc BK247.out 2
                    have hcz74_3 : wr.cell? ⟨gb247, 3, none⟩ = some (.int .i64 ((rd_T87 l0 a1).f3)) := bc BK247.out 3
                    have hfz74_0 := blk_frozen BK247.out 0
                    have hfz74_1 := blk_frozen BK247.out 1
                    have hfz74_2 := blk_frozen BK247.out 2
                    have hfz74_3 := blk_frozen BK247.out 3
                    go_wp2_with (first | ((with_reducible refine gate_callee (f := 83) rfl ?_); refine goesL_ (some 75) rfl rfl Tryz.func83 (by kernel_rfl) rfl #[.int .i64 1] rfl Ag ?_; (with_reducible refine (spec_Not.calls 1 t257 _ A72.out).mono ?_); rintro e w' ⟨rfl, ⟨nd, rfl⟩⟩; refine ⟨_, rfl, ?_⟩))
                    go_ret2
                    exact ⟨Rf, By⟩
                  · rw [if_neg c71] at H
                    have c71b0 : (((rd_T87 l0 a1).f0) == 2) = false := beq_eq_false_iff_ne.mpr c71
                    have c71b1 : (((rd_T87 l0 a1).f0) != 2) = true := bne_iff_ne.mpr c71
                    simp only [Option.some.injEq, Prod.mk.injEq] at H
                    obtain ⟨rfl, rfl⟩ := H
                    have hnb75 := NB247_245.out
                    have hnc75 := NB245_247.out
                    have hcz76_0 : wr.cell? ⟨gb247, 0, none⟩ = some (.int .i64 ((rd_T87 l0 a1).f0)) := bc BK247.out 0
                    have hcz76_1 : wr.cell? ⟨gb247, 1, none⟩ = some (.string ((rd_T87 l0 a1).f1)) := bc BK247.out 1
                    have hcz76_2 : wr.cell? ⟨gb247, 2, none⟩ = some (.string ((rd_T87 l0 a1).f2)) := bc BK247.out 2
                    have hcz76_3 : wr.cell? ⟨gb247, 3, none⟩ = some (.int .i64 ((rd_T87 l0 a1).f3)) := bc BK247.out 3
                    have hfz76_0 := blk_frozen BK247.out 0
                    have hfz76_1 := blk_frozen BK247.out 1
                    have hfz76_2 := blk_frozen BK247.out 2
                    have hfz76_3 := blk_frozen BK247.out 3
                    go_wp2
                    go_ret2
                    exact ⟨Rf, By⟩
      · replace c8 := Bool.eq_false_iff.mpr c8
        subst c8
        have H1 : ((spec_l04Has.f k l3 ((rd_T87 l0 a1).f1)).bind fun t249 => (if t249 = true then ((spec_l04Item.f k ((rd_T87 l0 a1).f0) ((rd_T87 l0 a1).f1) ((rd_T87 l0 a1).f2) ((rd_T87 l0 a1).f3) l2_0 l2_1).bind fun t250 => ((spec_l04Truth.f t250).bind fun t251 => (some (t251, wrap64 (a1 + 1))))) else (some (2, wrap64 (a1 + 1))))) = some (r1, r2) := by rw [if_neg (show ¬ (false = true) by decide)] at H; exact H
        clear H
        have H := H1
        clear H1
        replace H := Option.bind_eq_some_iff.mp H
        obtain ⟨t249, A770, H⟩ := H
        replace H : (if t249 = true then ((spec_l04Item.f k ((rd_T87 l0 a1).f0) ((rd_T87 l0 a1).f1) ((rd_T87 l0 a1).f2) ((rd_T87 l0 a1).f3) l2_0 l2_1).bind fun t250 => ((spec_l04Truth.f t250).bind fun t251 => (some (t251, wrap64 (a1 + 1))))) else (some (2, wrap64 (a1 + 1)))) = some (r1, r2) := H
        have A77 := Aside0.mk A770
        clear A770
        by_cases c78 : t249 = true
        · subst c78
          have H1 : ((spec_l04Item.f k ((rd_T87 l0 a1).f0) ((rd_T87 l0 a1).f1) ((rd_T87 l0 a1).f2) ((rd_T87 l0 a1).f3) l2_0 l2_1).bind fun t250 => ((spec_l04Truth.f t250).bind fun t251 => (some (t251, wrap64 (a1 + 1))))) = some (r1, r2) := by rw [if_pos rfl] at H; exact H
          clear H
          have H := H1
          clear H1
          replace H := Option.bind_eq_some_iff.mp H
          obtain ⟨t250, A790, H⟩ := H
          replace H : ((spec_l04Truth.f t250).bind fun t251 => (some (t251, wrap64 (a1 + 1)))) = some (r1, r2) := H
          have A79 := Aside0.mk A790
          clear A790
          replace H := Option.bind_eq_some_iff.mp H
          obtain ⟨t251, A800, H⟩ := H
          replace H : (some (t251, wrap64 (a1 + 1))) = some (r1, r2) := H
          have A80 := Aside0.mk A800
          clear A800
          simp only [Option.some.injEq, Prod.mk.injEq] at H
          obtain ⟨rfl, rfl⟩ := H
          go_enter Tryz.func47, Tryz.ntmps47
          go_wp2_with (first | ((with_reducible refine gate_dst (N := 6) rfl ?_); refine box_event ?hg (N := 6) ?hd (cs := #[.slice A2_0 l2_0.length c2_0, .slice A2_1 l2_1.length c2_1]) (t := 37) ?hr ?_; (case hd => rfl); (case hg => rfl); (case hr => first | (go_simp; done) | (go_simp; rfl)); intro gb245 hg w81 hbox hb; have n0_ := Aside0.mk (below_step By hb); have n1_ := Aside0.mk (hbox); have n2_ := Aside0.mk ((by rw [hg]; exact (below_size By) : w.heap.size ≤ gb245)); have n3_ := Aside0.mk ((by rw [hg]; exact (below_size By) : w.heap.size ≤ gb245)); clear HB; have HB := n0_; have BK245 := n1_; have GW245 := n2_; have GE245 := n3_; clear n0_ n1_ n2_ n3_; clear hb hbox hg; have p246 : 0 ≤ (a1 : Int) := of_decide_eq_true Da; have q246 : a1 < (l0.length : Int) := of_decide_eq_true Da; obtain ⟨ad246, e246, hx246_0, hx246_1, hx246_2, hx246_3⟩ := at_T87 HR0.out a1 p246 q246; cases e246; replace hx246_0 := bz HB.out hx246_0; replace hx246_1 := bz HB.out hx246_1; replace hx246_2 := bz HB.out hx246_2; replace hx246_3 := bz HB.out hx246_3; replace p246 := eq_true p246; replace q246 := eq_true q246) | ((with_reducible refine gate_dst (N := 10) rfl ?_); refine box_event ?hg (N := 10) ?hd (cs := #[.int .i64 0, .string (⟨#[]⟩ : ByteArray), .string (⟨#[]⟩ : ByteArray), .int .i64 0]) (t := 87) ?hr ?_; (case hd => rfl); (case hg => rfl); (case hr => first | (go_simp; done) | (go_simp; rfl)); intro gb247 hg w82 hbox hb; have n0_ := Aside0.mk (bb BK245.out hb); have n1_ := Aside0.mk (below_step By hb); have n2_ := Aside0.mk (hbox); have n3_ := Aside0.mk ((by rw [hg]; exact (below_size By) : w.heap.size ≤ gb247)); have n4_ := Aside0.mk ((by rw [hg]; exact (below_size By) : w.heap.size ≤ gb247)); have n5_ := Aside0.mk ((by rw [hg]; exact Nat.ne_of_lt (bl BK245.out) : gb245 ≠ gb247)); have n6_ := Aside0.mk ((by rw [hg]; exact Nat.ne_of_gt (bl BK245.out) : gb247 ≠ gb245)); clear BK245; clear HB; have BK245 := n0_; have HB := n1_; have BK247 := n2_; have GW247 := n3_; have GE247 := n4_; have NB245_247 := n5_; have NB247_245 := n6_; clear n0_ n1_ n2_ n3_ n4_ n5_ n6_; clear hb hbox hg; have hnb83 := NB247_245.out; have hnc83 := NB245_247.out; have ⟨hcz84_0, hcz84_1, hcz84_2, hcz84_3⟩ := cq4 BK247.out; have ⟨hfz84_0, hfz84_1, hfz84_2, hfz84_3⟩ := fq4 BK247.out) | ((with_reducible refine gate_callee (f := 79) rfl ?_); refine goesL_ (some 24) rfl rfl Tryz.func79 (by kernel_rfl) rfl #[.agg #[.int .i64 ((rd_T87 l0 a1).f0), .string ((rd_T87 l0 a1).f1), .string ((rd_T87 l0 a1).f2), .int .i64 ((rd_T87 l0 a1).f3)]] rfl Ag ?_; (with_reducible refine (spec_l04Inner.calls ((rd_T87 l0 a1).f0) ((rd_T87 l0 a1).f1) ((rd_T87 l0 a1).f2) ((rd_T87 l0 a1).f3) false _ A7.out).mono ?_); rintro e w85 ⟨rfl, hb⟩; refine ⟨_, rfl, ?_⟩; have n0_ := Aside0.mk (bf BK245.out hb); have n1_ := Aside0.mk (blk_below (g := gb247) (o := .cells #[.int .i64 ((rd_T87 l0 a1).f0), .string ((rd_T87 l0 a1).f1), .string ((rd_T87 l0 a1).f2), .int .i64 ((rd_T87 l0 a1).f3)] 87 (0, 0)) (pq4 Pk) hb); have n2_ := Aside0.mk (below_step By hb); clear BK245; clear BK247; clear HB; have BK245 := n0_; have BK247 := n1_; have HB := n2_; clear n0_ n1_ n2_; (try clear hb); (try clear hb2); (try clear hk); (try clear hi); have ⟨hcz86_0, hcz86_1, hcz86_2, hcz86_3⟩ := cq4 BK247.out; have ⟨hfz86_0, hfz86_1, hfz86_2, hfz86_3⟩ := fq4 BK247.out) | ((with_reducible refine gate_callee (f := 80) rfl ?_); refine goesL_ (some 29) rfl rfl Tryz.func80 (by kernel_rfl) rfl #[.slice A3 l3.length c3, .string ((rd_T87 l0 a1).f1)] rfl Ag ?_; (with_reducible refine (spec_l04Has.calls k _ _ l3 ((rd_T87 l0 a1).f1) true _ ?side1 ?side2 A77.out).mono ?_); (case side1 => exact rC (Kd.C_below HR3.out HB.out)); (case side2 => exact HC3.out); rintro e w' ⟨rfl, ⟨nd, rfl⟩⟩; refine ⟨_, rfl, ?_⟩; have ⟨hcz87_0, hcz87_1⟩ := cq2 BK245.out; have ⟨hfz87_0, hfz87_1⟩ := fq2 BK245.out) | ((with_reducible refine gate_callee (f := 82) rfl ?_); refine goesL_ (some 34) rfl rfl Tryz.func82 (by kernel_rfl) rfl #[.agg #[.int .i64 ((rd_T87 l0 a1).f0), .string ((rd_T87 l0 a1).f1), .string ((rd_T87 l0 a1).f2), .int .i64 ((rd_T87 l0 a1).f3)], .agg #[.slice A2_0 l2_0.length c2_0, .slice A2_1 l2_1.length c2_1]] rfl Ag ?_; (with_reducible refine (spec_l04Item.calls k ((rd_T87 l0 a1).f0) ((rd_T87 l0 a1).f1) ((rd_T87 l0 a1).f2) ((rd_T87 l0 a1).f3) _ _ l2_0 _ _ l2_1 t250 _ ?side1 ?side2 ?side3 ?side4 A79.out).mono ?_); (case side1 => repeat (first | exact (Kd.C_below HR2_0.out By) | (with_reducible refine Kd.C_alloc ?_ _) | (with_reducible refine Kd.C_drewN ?_ _) | (with_reducible refine Kd.C_drew ?_))); (case side2 => exact HC2_0.out); (case side3 => repeat (first | exact (Kd.C_below HR2_1.out By) | (with_reducible refine Kd.C_alloc ?_ _) | (with_reducible refine Kd.C_drewN ?_ _) | (with_reducible refine Kd.C_drew ?_))); (case side4 => exact HC2_1.out); rintro e w88 ⟨rfl, hb⟩; refine ⟨_, rfl, ?_⟩; have n0_ := Aside0.mk (bb BK245.out hb); have n1_ := Aside0.mk (bb BK247.out hb); have n2_ := Aside0.mk (below_step By hb); clear BK245; clear BK247; clear HB; have BK245 := n0_; have BK247 := n1_; have HB := n2_; clear n0_ n1_ n2_; (try clear hb); (try clear hb2); (try clear hk); (try clear hi)) | ((with_reducible refine gate_callee (f := 81) rfl ?_); refine goesL_ (some 35) rfl rfl Tryz.func81 (by kernel_rfl) rfl #[.bool t250] rfl Ag ?_; (with_reducible refine (spec_l04Truth.calls t250 t251 _ A80.out).mono ?_); rintro e w' ⟨rfl, ⟨nd, rfl⟩⟩; refine ⟨_, rfl, ?_⟩))
          go_ret2
          exact ⟨Rf, By⟩
        · replace c78 := Bool.eq_false_iff.mpr c78
          subst c78
          have H1 : (some (2, wrap64 (a1 + 1))) = some (r1, r2) := by rw [if_neg (show ¬ (false = true) by decide)] at H; exact H
          clear H
          have H := H1
          clear H1
          simp only [Option.some.injEq, Prod.mk.injEq] at H
          obtain ⟨rfl, rfl⟩ := H
          go_enter Tryz.func47, Tryz.ntmps47
          go_wp2_with (first | ((with_reducible refine gate_dst (N := 6) rfl ?_); refine box_event ?hg (N := 6) ?hd (cs := #[.slice A2_0 l2_0.length c2_0, .slice A2_1 l2_1.length c2_1]) (t := 37) ?hr ?_; (case hd => rfl); (case hg => rfl); (case hr => first | (go_simp; done) | (go_simp; rfl)); intro gb245 hg w89 hbox hb; have n0_ := Aside0.mk (below_step By hb); have n1_ := Aside0.mk (hbox); have n2_ := Aside0.mk ((by rw [hg]; exact (below_size By) : w.heap.size ≤ gb245)); have n3_ := Aside0.mk ((by rw [hg]; exact (below_size By) : w.heap.size ≤ gb245)); clear HB; have HB := n0_; have BK245 := n1_; have GW245 := n2_; have GE245 := n3_; clear n0_ n1_ n2_ n3_; clear hb hbox hg; have p246 : 0 ≤ (a1 : Int) := of_decide_eq_true Da; have q246 : a1 < (l0.length : Int) := of_decide_eq_true Da; obtain ⟨ad246, e246, hx246_0, hx246_1, hx246_2, hx246_3⟩ := at_T87 HR0.out a1 p246 q246; cases e246; replace hx246_0 := bz HB.out hx246_0; replace hx246_1 := bz HB.out hx246_1; replace hx246_2 := bz HB.out hx246_2; replace hx246_3 := bz HB.out hx246_3; replace p246 := eq_true p246; replace q246 := eq_true q246) | ((with_reducible refine gate_dst (N := 10) rfl ?_); refine box_event ?hg (N := 10) ?hd (cs := #[.int .i64 0, .string (⟨#[]⟩ : ByteArray), .string (⟨#[]⟩ : ByteArray), .int .i64 0]) (t := 87) ?hr ?_; (case hd => rfl); (case hg => rfl); (case hr => first | (go_simp; done) | (go_simp; rfl)); intro gb247 hg w90 hbox hb; have n0_ := Aside0.mk (bb BK245.out hb); have n1_ := Aside0.mk (below_step By hb); have n2_ := Aside0.mk (hbox); have n3_ := Aside0.mk ((by rw [hg]; exact (below_size By) : w.heap.size ≤ gb247)); have n4_ := Aside0.mk ((by rw [hg]; exact (below_size By) : w.heap.size ≤ gb247)); have n5_ := Aside0.mk ((by rw [hg]; exact Nat.ne_of_lt (bl BK245.out) : gb245 ≠ gb247)); have n6_ := Aside0.mk ((by rw [hg]; exact Nat.ne_of_gt (bl BK245.out) : gb247 ≠ gb245)); clear BK245; clear HB; have BK245 := n0_; have HB := n1_; have BK247 := n2_; have GW247 := n3_; have GE247 := n4_; have NB245_247 := n5_; have NB247_245 := n6_; clear n0_ n1_ n2_ n3_ n4_ n5_ n6_; clear hb hbox hg; have hnb91 := NB247_245.out; have hnc91 := NB245_247.out; have ⟨hcz92_0, hcz92_1, hcz92_2, hcz92_3⟩ := cq4 BK247.out; have ⟨hfz92_0, hfz92_1, hfz92_2, hfz92_3⟩ := fq4 BK247.out) | ((with_reducible refine gate_callee (f := 79) rfl ?_); refine goesL_ (some 24) rfl rfl Tryz.func79 (by kernel_rfl) rfl #[.agg #[.int .i64 ((rd_T87 l0 a1).f0), .string ((rd_T87 l0 a1).f1), .string ((rd_T87 l0 a1).f2), .int .i64 ((rd_T87 l0 a1).f3)]] rfl Ag ?_; (with_reducible refine (spec_l04Inner.calls ((rd_T87 l0 a1).f0) ((rd_T87 l0 a1).f1) ((rd_T87 l0 a1).f2) ((rd_T87 l0 a1).f3) false _ A7.out).mono ?_); rintro e w93 ⟨rfl, hb⟩; refine ⟨_, rfl, ?_⟩; have n0_ := Aside0.mk (bf BK245.out hb); have n1_ := Aside0.mk (blk_below (g := gb247) (o := .cells #[.int .i64 ((rd_T87 l0 a1).f0), .string ((rd_T87 l0 a1).f1), .string ((rd_T87 l0 a1).f2), .int .i64 ((rd_T87 l0 a1).f3)] 87 (0, 0)) (pq4 Pk) hb); have n2_ := Aside0.mk (below_step By hb); clear BK245; clear BK247; clear HB; have BK245 := n0_; have BK247 := n1_; have HB := n2_; clear n0_ n1_ n2_; (try clear hb); (try clear hb2); (try clear hk); (try clear hi); have ⟨hcz94_0, hcz94_1, hcz94_2, hcz94_3⟩ := cq4 BK247.out; have ⟨hfz94_0, hfz94_1, hfz94_2, hfz94_3⟩ := fq4 BK247.out) | ((with_reducible refine gate_callee (f := 80) rfl ?_); refine goesL_ (some 29) rfl rfl Tryz.func80 (by kernel_rfl) rfl #[.slice A3 l3.length c3, .string ((rd_T87 l0 a1).f1)] rfl Ag ?_; (with_reducible refine (spec_l04Has.calls k _ _ l3 ((rd_T87 l0 a1).f1) false _ ?side1 ?side2 A77.out).mono ?_); (case side1 => exact rC (Kd.C_below HR3.out HB.out)); (case side2 => exact HC3.out); rintro e w' ⟨rfl, ⟨nd, rfl⟩⟩; refine ⟨_, rfl, ?_⟩))
          go_ret2
          exact ⟨Rf, By⟩
    · rw [if_neg c6] at H
      exact absurd H (by simp)
  · rw [if_neg c5] at H
    exact absurd H (by simp)

set_option linter.unusedVariables false
set_option linter.unusedSimpArgs false

/-! ### spec_FilterEval: function 17 -/
def spec_FilterEval.j0 : Nat → List (S87) → List ByteArray → Bool → List (S113) → List (S115) → Option (Int)
  | 0, _, _, _, _, _ => none
  | k + 1, x0, x2, x16, x259000, x259001 => if x16 = true then (some 0) else ((spec_FilterRight.f k x0).bind fun t259 => (if t259 = true then ((spec_EntryRight.f k x259000 x259001).bind fun t260 => (if t260 = true then ((spec_l04Names.f k x2).bind fun t261 => (if t261 = true then ((spec_l04Eval.f k x0 0 x259000 x259001 x2).bind fun bt262 => (some bt262.1)) else (some 2))) else (some 2))) else (some 2)))
def spec_FilterEval.f (k : Nat) (l0 : List (S87)) (l1_0 : List (S113)) (l1_1 : List (S115)) (l2 : List ByteArray) : Option (Int) := if (l0.length : Int) > 400 then (spec_FilterEval.j0 k l0 l2 true l1_0 l1_1) else (spec_FilterEval.j0 k l0 l2 (decide ((l2.length : Int) > 400)) l1_0 l1_1)
theorem spec_FilterEval.mono_l : ∀ k, (∀ y0 y1 y2 y3 y4, LeO (spec_FilterEval.j0 k y0 y1 y2 y3 y4) (spec_FilterEval.j0 (k + 1) y0 y1 y2 y3 y4))
  | 0 => fun _ _ _ _ _ r h => by simp [spec_FilterEval.j0] at h
  | k + 1 => by
    have ih0 := spec_FilterEval.mono_l k
    · intro y0 y1 y2 y3 y4
      unfold spec_FilterEval.j0
      repeat' first
      | (with_reducible exact ih0 _ _ _ _ _)
      | (with_reducible exact spec_EntryRight.mono _ _ _)
      | (with_reducible exact spec_FilterRight.mono _ _)
      | (with_reducible exact spec_l04Eval.mono _ _ _ _ _ _)
      | (with_reducible exact spec_l04Names.mono _ _)
      | (with_reducible exact LeO.refl _)
      | (with_reducible exact LeO.none _)
      | (with_reducible refine LeO.ite ?_ ?_)
      | (with_reducible refine LeO.bind ?_ (fun _ => ?_))
      | exact ih0 _ _ _ _ _
      | exact spec_EntryRight.mono _ _ _
      | exact spec_FilterRight.mono _ _
      | exact spec_l04Eval.mono _ _ _ _ _ _
      | exact spec_l04Names.mono _ _
      | exact LeO.none _
      | refine LeO.ite ?_ ?_
      | refine LeO.bind ?_ (fun _ => ?_)
theorem spec_FilterEval.mono : ∀ a0 a1 a2 a3 k, LeO (spec_FilterEval.f k a0 a1 a2 a3) (spec_FilterEval.f (k + 1) a0 a1 a2 a3) := by
  intro a0 a1 a2 a3 k
  have ih0 := spec_FilterEval.mono_l k
  unfold spec_FilterEval.f
  repeat' first
      | (with_reducible exact ih0 _ _ _ _ _)
      | (with_reducible exact spec_EntryRight.mono _ _ _)
      | (with_reducible exact spec_FilterRight.mono _ _)
      | (with_reducible exact spec_l04Eval.mono _ _ _ _ _ _)
      | (with_reducible exact spec_l04Names.mono _ _)
      | (with_reducible exact LeO.refl _)
      | (with_reducible exact LeO.none _)
      | (with_reducible refine LeO.ite ?_ ?_)
      | (with_reducible refine LeO.bind ?_ (fun _ => ?_))
      | exact ih0 _ _ _ _ _
      | exact spec_EntryRight.mono _ _ _
      | exact spec_FilterRight.mono _ _
      | exact spec_l04Eval.mono _ _ _ _ _ _
      | exact spec_l04Names.mono _ _
      | exact LeO.none _
      | refine LeO.ite ?_ ?_
      | refine LeO.bind ?_ (fun _ => ?_)
set_option maxHeartbeats 8000000 in
set_option maxRecDepth 100000 in
theorem spec_FilterEval.calls (k : Nat) (A0 : Option Addr) (c0 : Nat) (l0 : List (S87)) (A1_0 : Option Addr) (c1_0 : Nat) (l1_0 : List (S113)) (A1_1 : Option Addr) (c1_1 : Nat) (l1_1 : List (S115)) (A2 : Option Addr) (c2 : Nat) (l2 : List ByteArray) (r : Int) (w : World) (hr0 : Kd.C k87 w A0 l0.length l0) (hc0 : l0.length ≤ c0) (hr1_0 : Kd.C k113 w A1_0 l1_0.length l1_0) (hc1_0 : l1_0.length ≤ c1_0) (hr1_1 : Kd.C k115 w A1_1 l1_1.length l1_1) (hc1_1 : l1_1.length ≤ c1_1) (hr2 : Kd.C Kd.string w A2 l2.length l2) (hc2 : l2.length ≤ c2) (h : spec_FilterEval.f k l0 l1_0 l1_1 l2 = some r) :
    Calls Tryz.prog 17 #[.slice A0 l0.length c0, .agg #[.slice A1_0 l1_0.length c1_0, .slice A1_1 l1_1.length c1_1], .slice A2 l2.length c2] w fun e w' => e = .returned (.int .i64 r) ∧ Below w.heap.size w w' := by
  have hu37 := Tryz.underlying37
  have HR0 := Aside0.mk hr0
  have HC0 := Aside0.mk hc0
  clear hr0 hc0
  have HR1_0 := Aside0.mk hr1_0
  have HC1_0 := Aside0.mk hc1_0
  clear hr1_0 hc1_0
  have HR1_1 := Aside0.mk hr1_1
  have HC1_1 := Aside0.mk hc1_1
  clear hr1_1 hc1_1
  have HR2 := Aside0.mk hr2
  have HC2 := Aside0.mk hc2
  clear hr2 hc2
  have HB := Aside0.mk (Below.refl w.heap.size w)
  have H : (if (l0.length : Int) > 400 then (spec_FilterEval.j0 k l0 l2 true l1_0 l1_1) else (spec_FilterEval.j0 k l0 l2 (decide ((l2.length : Int) > 400)) l1_0 l1_1)) = some r := h
  clear h
  have HC4 := Aside0.mk H
  clear H
  go_enter Tryz.func17, Tryz.ntmps17
  go_upto_region 1 with (first | ((with_reducible refine gate_dst (N := 4) rfl ?_); (try (refine gate_guard (by rfl) ?_; dsimp only)); refine box_event ?hg (N := 4) ?hd (cs := #[.slice A1_0 l1_0.length c1_0, .slice A1_1 l1_1.length c1_1]) (t := 37) ?hr ?_; (case hd => rfl); (case hg => rfl); (case hr => first | (go_simp; done) | (go_simp; rfl)); intro gb258 hg w5 hbox hb; have n0_ := Aside0.mk (below_step By hb); have n1_ := Aside0.mk (hbox); have n2_ := Aside0.mk ((by rw [hg]; exact (below_size By) : w.heap.size ≤ gb258)); have n3_ := Aside0.mk ((by rw [hg]; exact (below_size By) : w.heap.size ≤ gb258)); clear HB; have HB := n0_; have BK258 := n1_; have GW258 := n2_; have GE258 := n3_; clear n0_ n1_ n2_ n3_; clear hb hbox hg))
  (try simp only [Act.put, List.setIfInBounds_toArray, List.set_cons_zero, List.set_cons_succ])
  go_cut [16] (fun v16 wc => ∃ (kq : Nat) (x16_3 : Bool), v16 = .bool x16_3 ∧ Aside0 (spec_FilterEval.j0 kq l0 l2 x16_3 l1_0 l1_1 = some r) ∧ Aside0 (kq ≤ k) ∧ Aside0 (wc.heap[gb258]? = some (.cells #[(.slice A1_0 l1_0.length c1_0), (.slice A1_1 l1_1.length c1_1)] 37 (0, 0))) ∧ Aside0 (Below w.heap.size w wc))
  case first =>
    have H := HC4.out
    clear HC4
    by_cases c6 : (l0.length : Int) > 400
    · rw [if_pos c6] at H
      have c6b0 : decide (400 < (l0.length : Int)) = true := decide_eq_true c6
      have c6b1 : decide (400 < l0.length) = true := decide_eq_true (by omega)
      clear c6
      (first | rw [c6b0] | (simp only [i64_w, i32_w]; rw [c6b0]) | skip)
      have H' := Aside0.mk H
      clear H
      go_wp2
      go_meet
      case rel => exact ⟨_, (true), (by first | rfl | (simp; done) | (simp [*]; done)), H', ⟨by first | omega | exact Nat.le_refl _⟩, ⟨by (with_reducible repeat (first | refine blk_drewN ?_ _ | refine blk_drew ?_ | refine blk_alloc ?_ _)); exact BK258.out⟩, ⟨By⟩⟩
    · rw [if_neg c6] at H
      have c6b0 : decide (400 < (l0.length : Int)) = false := decide_eq_false c6
      have c6b1 : decide (400 < l0.length) = false := decide_eq_false (by omega)
      clear c6
      (first | rw [c6b0] | (simp only [i64_w, i32_w]; rw [c6b0]) | skip)
      have H' := Aside0.mk H
      clear H
      go_wp2
      go_meet
      case rel => exact ⟨_, (decide ((l2.length : Int) > 400)), (by first | rfl | (simp; done) | (simp [*]; done)), H', ⟨by first | omega | exact Nat.le_refl _⟩, ⟨by (with_reducible repeat (first | refine blk_drewN ?_ _ | refine blk_drew ?_ | refine blk_alloc ?_ _)); exact BK258.out⟩, ⟨By⟩⟩
  case rest =>
    clear HC4
    try clear c1
    try clear c2
    try clear p2
    try clear c6
    try clear c6b0
    try clear c6b1
    obtain ⟨kq, x16_3, rfl, HA, HJ3, BK258, HB⟩ := hcut
    cases kq with
    | zero => exact absurd HA.out (by simp [spec_FilterEval.j0])
    | succ kj3 =>
      have H := HA.out
      clear HA
      simp only [spec_FilterEval.j0] at H
      by_cases c7 : x16_3 = true
      · subst c7
        have H1 : (some 0) = some r := by rw [if_pos rfl] at H; exact H
        clear H
        have H := H1
        clear H1
        obtain rfl := Option.some.inj H
        go_wp2
        go_ret
        exact ⟨Rf, By⟩
      · replace c7 := Bool.eq_false_iff.mpr c7
        subst c7
        have H1 : ((spec_FilterRight.f kj3 l0).bind fun t259 => (if t259 = true then ((spec_EntryRight.f kj3 l1_0 l1_1).bind fun t260 => (if t260 = true then ((spec_l04Names.f kj3 l2).bind fun t261 => (if t261 = true then ((spec_l04Eval.f kj3 l0 0 l1_0 l1_1 l2).bind fun bt262 => (some bt262.1)) else (some 2))) else (some 2))) else (some 2))) = some r := by rw [if_neg (show ¬ (false = true) by decide)] at H; exact H
        clear H
        have H := H1
        clear H1
        replace H := Option.bind_eq_some_iff.mp H
        obtain ⟨t259, A80, H⟩ := H
        replace H : (if t259 = true then ((spec_EntryRight.f kj3 l1_0 l1_1).bind fun t260 => (if t260 = true then ((spec_l04Names.f kj3 l2).bind fun t261 => (if t261 = true then ((spec_l04Eval.f kj3 l0 0 l1_0 l1_1 l2).bind fun bt262 => (some bt262.1)) else (some 2))) else (some 2))) else (some 2)) = some r := H
        have A8 := Aside0.mk A80
        clear A80
        by_cases c9 : t259 = true
        · subst c9
          have H1 : ((spec_EntryRight.f kj3 l1_0 l1_1).bind fun t260 => (if t260 = true then ((spec_l04Names.f kj3 l2).bind fun t261 => (if t261 = true then ((spec_l04Eval.f kj3 l0 0 l1_0 l1_1 l2).bind fun bt262 => (some bt262.1)) else (some 2))) else (some 2))) = some r := by rw [if_pos rfl] at H; exact H
          clear H
          have H := H1
          clear H1
          replace H := Option.bind_eq_some_iff.mp H
          obtain ⟨t260, A100, H⟩ := H
          replace H : (if t260 = true then ((spec_l04Names.f kj3 l2).bind fun t261 => (if t261 = true then ((spec_l04Eval.f kj3 l0 0 l1_0 l1_1 l2).bind fun bt262 => (some bt262.1)) else (some 2))) else (some 2)) = some r := H
          have A10 := Aside0.mk A100
          clear A100
          by_cases c11 : t260 = true
          · subst c11
            have H1 : ((spec_l04Names.f kj3 l2).bind fun t261 => (if t261 = true then ((spec_l04Eval.f kj3 l0 0 l1_0 l1_1 l2).bind fun bt262 => (some bt262.1)) else (some 2))) = some r := by rw [if_pos rfl] at H; exact H
            clear H
            have H := H1
            clear H1
            replace H := Option.bind_eq_some_iff.mp H
            obtain ⟨t261, A120, H⟩ := H
            replace H : (if t261 = true then ((spec_l04Eval.f kj3 l0 0 l1_0 l1_1 l2).bind fun bt262 => (some bt262.1)) else (some 2)) = some r := H
            have A12 := Aside0.mk A120
            clear A120
            by_cases c13 : t261 = true
            · subst c13
              have H1 : ((spec_l04Eval.f kj3 l0 0 l1_0 l1_1 l2).bind fun bt262 => (some bt262.1)) = some r := by rw [if_pos rfl] at H; exact H
              clear H
              have H := H1
              clear H1
              replace H := Option.bind_eq_some_iff.mp H
              obtain ⟨⟨t262, t263⟩, A140, H⟩ := H
              replace H : (some t262) = some r := H
              have A14 := Aside0.mk A140
              clear A140
              obtain rfl := Option.some.inj H
              go_wp2_with (first | ((with_reducible refine gate_callee (f := 45) rfl ?_); refine goesL_ (some 18) rfl rfl Tryz.func45 (by kernel_rfl) rfl #[.slice A0 l0.length c0] rfl Ag ?_; (with_reducible refine (spec_FilterRight.calls kj3 _ _ l0 true _ ?side1 ?side2 A8.out).mono ?_); (case side1 => exact rC (Kd.C_below HR0.out HB.out)); (case side2 => exact HC0.out); rintro e w15 ⟨rfl, hb⟩; refine ⟨_, rfl, ?_⟩; have n0_ := Aside0.mk (bb BK258.out hb); have n1_ := Aside0.mk (below_step By hb); clear BK258; clear HB; have BK258 := n0_; have HB := n1_; clear n0_ n1_; (try clear hb); (try clear hb2); (try clear hk); (try clear hi); have ⟨hcz16_0, hcz16_1⟩ := cq2 BK258.out; have ⟨hfz16_0, hfz16_1⟩ := fq2 BK258.out) | (go_at_call 32; (with_reducible refine (spec_EntryRight.calls kj3 _ _ l1_0 _ _ l1_1 true _ ?side1 ?side2 ?side3 ?side4 A10.out).mono ?_); (case side1 => exact rC (Kd.C_below HR1_0.out HB.out)); (case side2 => exact HC1_0.out); (case side3 => exact rC (Kd.C_below HR1_1.out HB.out)); (case side4 => exact HC1_1.out); rintro e w17 ⟨rfl, hb⟩; have n0_ := Aside0.mk (bb BK258.out hb); have n1_ := Aside0.mk (below_step By hb); clear BK258; clear HB; have BK258 := n0_; have HB := n1_; clear n0_ n1_; (try clear hb); (try clear hb2); (try clear hk); (try clear hi)) | (go_at_call 46; (with_reducible refine (spec_l04Names.calls kj3 _ _ l2 true _ ?side1 ?side2 A12.out).mono ?_); (case side1 => exact rC (Kd.C_below HR2.out HB.out)); (case side2 => exact HC2.out); rintro e w' ⟨rfl, ⟨nd, rfl⟩⟩; have ⟨hcz18_0, hcz18_1⟩ := cq2 BK258.out; have ⟨hfz18_0, hfz18_1⟩ := fq2 BK258.out) | ((with_reducible refine gate_callee (f := 47) rfl ?_); refine goesL_ (some 34) rfl rfl Tryz.func47 (by kernel_rfl) rfl #[.slice A0 l0.length c0, .int .i64 0, .agg #[.slice A1_0 l1_0.length c1_0, .slice A1_1 l1_1.length c1_1], .slice A2 l2.length c2] rfl Ag ?_; (with_reducible refine (spec_l04Eval.calls kj3 _ _ l0 0 _ _ l1_0 _ _ l1_1 _ _ l2 t262 t263 _ ?side1 ?side2 ?side3 ?side4 ?side5 ?side6 ?side7 ?side8 A14.out).mono ?_); (case side1 => repeat (first | exact (Kd.C_below HR0.out By) | (with_reducible refine Kd.C_alloc ?_ _) | (with_reducible refine Kd.C_drewN ?_ _) | (with_reducible refine Kd.C_drew ?_))); (case side2 => exact HC0.out); (case side3 => repeat (first | exact (Kd.C_below HR1_0.out By) | (with_reducible refine Kd.C_alloc ?_ _) | (with_reducible refine Kd.C_drewN ?_ _) | (with_reducible refine Kd.C_drew ?_))); (case side4 => exact HC1_0.out); (case side5 => repeat (first | exact (Kd.C_below HR1_1.out By) | (with_reducible refine Kd.C_alloc ?_ _) | (with_reducible refine Kd.C_drewN ?_ _) | (with_reducible refine Kd.C_drew ?_))); (case side6 => exact HC1_1.out); (case side7 => repeat (first | exact (Kd.C_below HR2.out By) | (with_reducible refine Kd.C_alloc ?_ _) | (with_reducible refine Kd.C_drewN ?_ _) | (with_reducible refine Kd.C_drew ?_))); (case side8 => exact HC2.out); rintro e w19 ⟨rfl, hb⟩; refine ⟨_, rfl, ?_⟩; have n0_ := Aside0.mk (bb BK258.out hb); have n1_ := Aside0.mk (below_step By hb); clear BK258; clear HB; have BK258 := n0_; have HB := n1_; clear n0_ n1_; (try clear hb); (try clear hb2); (try clear hk); (try clear hi)))
              go_ret
              exact ⟨Rf, By⟩
            · replace c13 := Bool.eq_false_iff.mpr c13
              subst c13
              have H1 : (some 2) = some r := by rw [if_neg (show ¬ (false = true) by decide)] at H; exact H
              clear H
              have H := H1
              clear H1
              obtain rfl := Option.some.inj H
              go_wp2_with (first | ((with_reducible refine gate_callee (f := 45) rfl ?_); refine goesL_ (some 18) rfl rfl Tryz.func45 (by kernel_rfl) rfl #[.slice A0 l0.length c0] rfl Ag ?_; (with_reducible refine (spec_FilterRight.calls kj3 _ _ l0 true _ ?side1 ?side2 A8.out).mono ?_); (case side1 => exact rC (Kd.C_below HR0.out HB.out)); (case side2 => exact HC0.out); rintro e w20 ⟨rfl, hb⟩; refine ⟨_, rfl, ?_⟩; have n0_ := Aside0.mk (bb BK258.out hb); have n1_ := Aside0.mk (below_step By hb); clear BK258; clear HB; have BK258 := n0_; have HB := n1_; clear n0_ n1_; (try clear hb); (try clear hb2); (try clear hk); (try clear hi); have ⟨hcz21_0, hcz21_1⟩ := cq2 BK258.out; have ⟨hfz21_0, hfz21_1⟩ := fq2 BK258.out) | (go_at_call 32; (with_reducible refine (spec_EntryRight.calls kj3 _ _ l1_0 _ _ l1_1 true _ ?side1 ?side2 ?side3 ?side4 A10.out).mono ?_); (case side1 => exact rC (Kd.C_below HR1_0.out HB.out)); (case side2 => exact HC1_0.out); (case side3 => exact rC (Kd.C_below HR1_1.out HB.out)); (case side4 => exact HC1_1.out); rintro e w22 ⟨rfl, hb⟩; have n0_ := Aside0.mk (bb BK258.out hb); have n1_ := Aside0.mk (below_step By hb); clear BK258; clear HB; have BK258 := n0_; have HB := n1_; clear n0_ n1_; (try clear hb); (try clear hb2); (try clear hk); (try clear hi)) | (go_at_call 46; (with_reducible refine (spec_l04Names.calls kj3 _ _ l2 false _ ?side1 ?side2 A12.out).mono ?_); (case side1 => exact rC (Kd.C_below HR2.out HB.out)); (case side2 => exact HC2.out); rintro e w' ⟨rfl, ⟨nd, rfl⟩⟩))
              go_ret
              exact ⟨Rf, By⟩
          · replace c11 := Bool.eq_false_iff.mpr c11
            subst c11
            have H1 : (some 2) = some r := by rw [if_neg (show ¬ (false = true) by decide)] at H; exact H
            clear H
            have H := H1
            clear H1
            obtain rfl := Option.some.inj H
            go_wp2_with (first | ((with_reducible refine gate_callee (f := 45) rfl ?_); refine goesL_ (some 18) rfl rfl Tryz.func45 (by kernel_rfl) rfl #[.slice A0 l0.length c0] rfl Ag ?_; (with_reducible refine (spec_FilterRight.calls kj3 _ _ l0 true _ ?side1 ?side2 A8.out).mono ?_); (case side1 => exact rC (Kd.C_below HR0.out HB.out)); (case side2 => exact HC0.out); rintro e w23 ⟨rfl, hb⟩; refine ⟨_, rfl, ?_⟩; have n0_ := Aside0.mk (bb BK258.out hb); have n1_ := Aside0.mk (below_step By hb); clear BK258; clear HB; have BK258 := n0_; have HB := n1_; clear n0_ n1_; (try clear hb); (try clear hb2); (try clear hk); (try clear hi); have ⟨hcz24_0, hcz24_1⟩ := cq2 BK258.out; have ⟨hfz24_0, hfz24_1⟩ := fq2 BK258.out) | (go_at_call 32; (with_reducible refine (spec_EntryRight.calls kj3 _ _ l1_0 _ _ l1_1 false _ ?side1 ?side2 ?side3 ?side4 A10.out).mono ?_); (case side1 => exact rC (Kd.C_below HR1_0.out HB.out)); (case side2 => exact HC1_0.out); (case side3 => exact rC (Kd.C_below HR1_1.out HB.out)); (case side4 => exact HC1_1.out); rintro e w25 ⟨rfl, hb⟩; have n0_ := Aside0.mk (bb BK258.out hb); have n1_ := Aside0.mk (below_step By hb); clear BK258; clear HB; have BK258 := n0_; have HB := n1_; clear n0_ n1_; (try clear hb); (try clear hb2); (try clear hk); (try clear hi)))
            go_ret
            exact ⟨Rf, By⟩
        · replace c9 := Bool.eq_false_iff.mpr c9
          subst c9
          have H1 : (some 2) = some r := by rw [if_neg (show ¬ (false = true) by decide)] at H; exact H
          clear H
          have H := H1
          clear H1
          obtain rfl := Option.some.inj H
          go_wp2_with (first | ((with_reducible refine gate_callee (f := 45) rfl ?_); refine goesL_ (some 18) rfl rfl Tryz.func45 (by kernel_rfl) rfl #[.slice A0 l0.length c0] rfl Ag ?_; (with_reducible refine (spec_FilterRight.calls kj3 _ _ l0 false _ ?side1 ?side2 A8.out).mono ?_); (case side1 => exact rC (Kd.C_below HR0.out HB.out)); (case side2 => exact HC0.out); rintro e w26 ⟨rfl, hb⟩; refine ⟨_, rfl, ?_⟩; have n0_ := Aside0.mk (bb BK258.out hb); have n1_ := Aside0.mk (below_step By hb); clear BK258; clear HB; have BK258 := n0_; have HB := n1_; clear n0_ n1_; (try clear hb); (try clear hb2); (try clear hk); (try clear hi)))
          go_ret
          exact ⟨Rf, By⟩

set_option linter.unusedVariables false
set_option linter.unusedSimpArgs false

/-! ### impl_between: function 111 -/
def impl_between.f (a0 : Int) (a1 : Int) (a2 : Int) : Option (Bool) := if a0 ≥ a1 then (some (decide (a0 ≤ a2))) else (some false)
set_option maxHeartbeats 8000000 in
set_option maxRecDepth 100000 in
theorem impl_between.calls (a0 : Int) (a1 : Int) (a2 : Int) (r : Bool) (w : World) (h : impl_between.f a0 a1 a2 = some r) :
    Calls Tryz.prog 111 #[.int .i64 a0, .int .i64 a1, .int .i64 a2] w fun e w' => e = .returned (.bool r) ∧ Drawn0 w w' := by
  have H : (if a0 ≥ a1 then (some (decide (a0 ≤ a2))) else (some false)) = some r := h
  clear h
  by_cases c4 : a0 ≥ a1
  · rw [if_pos c4] at H
    have c4b0 : decide (a1 ≤ a0) = true := decide_eq_true c4
    clear c4
    obtain rfl := Option.some.inj H
    go_enter Tryz.func111, Tryz.ntmps111
    go_wp2
    go_ret
    exact ⟨by first | rfl | (simp; done) | (simp [*]; done), by repeat (first | exact Drawn0.refl _ | apply Drawn0.step)⟩
  · rw [if_neg c4] at H
    have c4b0 : decide (a1 ≤ a0) = false := decide_eq_false c4
    clear c4
    obtain rfl := Option.some.inj H
    go_enter Tryz.func111, Tryz.ntmps111
    go_wp2
    go_ret
    exact ⟨by first | rfl | (simp; done) | (simp [*]; done), by repeat (first | exact Drawn0.refl _ | apply Drawn0.step)⟩

/-- THE ONE PURE STATEMENT of impl_between: yours. -/
def impl_between.Pure : Prop := ∀ (a0 : Int) (a1 : Int) (a2 : Int), (Lit.int .i64 a0).wf = true → (Lit.int .i64 a1).wf = true → (Lit.int .i64 a2).wf = true → impl_between.f a0 a1 a2 = some true
theorem impl_between.walk (P : impl_between.Pure) (a0 : Int) (a1 : Int) (a2 : Int) (w : World) (w0 : (Lit.int .i64 a0).wf = true) (w1 : (Lit.int .i64 a1).wf = true) (w2 : (Lit.int .i64 a2).wf = true) :
    Calls Tryz.prog 111 #[.int .i64 a0, .int .i64 a1, .int .i64 a2] w fun e w' => e = .returned (.bool true) ∧ Below w.heap.size w w' := by
  have h := P a0 a1 a2 w0 w1 w2
  refine (impl_between.calls a0 a1 a2 true w h).mono ?_
  rintro e w' ⟨rfl, hd⟩
  exact ⟨rfl, hd.below⟩

set_option linter.unusedVariables false
set_option linter.unusedSimpArgs false

/-! ### impl_size_string: function 112 -/
def impl_size_string.f (l0 : List ByteArray) : Option (Int) := some (l0.length : Int)
set_option maxHeartbeats 8000000 in
set_option maxRecDepth 100000 in
theorem impl_size_string.calls (A0 : Option Addr) (c0 : Nat) (l0 : List ByteArray) (r : Int) (w : World) (hr0 : Kd.C Kd.string w A0 l0.length l0) (hc0 : l0.length ≤ c0) (h : impl_size_string.f l0 = some r) :
    Calls Tryz.prog 112 #[.slice A0 l0.length c0] w fun e w' => e = .returned (.int .i64 r) ∧ Drawn0 w w' := by
  have HR0 := Aside0.mk hr0
  have HC0 := Aside0.mk hc0
  clear hr0 hc0
  have H : (some (l0.length : Int)) = some r := h
  clear h
  obtain rfl := Option.some.inj H
  go_enter Tryz.func112, Tryz.ntmps112
  go_wp2
  go_ret
  exact ⟨by first | rfl | (simp; done) | (simp [*]; done), by repeat (first | exact Drawn0.refl _ | apply Drawn0.step)⟩

set_option linter.unusedVariables false
set_option linter.unusedSimpArgs false

/-! ### impl_isPrintable: function 137 -/
def impl_isPrintable.l0 : Nat → ByteArray → Int → Int → Option (Bool)
  | 0, _, _, _ => none
  | k + 1, x0, x5, x6 => if x6 < x5 then (if 0 ≤ x6 then (if x6 < (x0.size : Int) then (if (bt x0 x6) < 32 then (some false) else (if (bt x0 x6) > 126 then (some false) else (impl_isPrintable.l0 k x0 x5 (wrap64 (x6 + 1))))) else (none)) else (none)) else (some true)
def impl_isPrintable.f (k : Nat) (a0 : ByteArray) : Option (Bool) := impl_isPrintable.l0 k a0 (a0.size : Int) 0
theorem impl_isPrintable.mono_l : ∀ k, (∀ y0 y1 y2, LeO (impl_isPrintable.l0 k y0 y1 y2) (impl_isPrintable.l0 (k + 1) y0 y1 y2))
  | 0 => fun _ _ _ r h => by simp [impl_isPrintable.l0] at h
  | k + 1 => by
    have ih0 := impl_isPrintable.mono_l k
    · intro y0 y1 y2
      unfold impl_isPrintable.l0
      repeat' first
      | (with_reducible exact ih0 _ _ _)
      | (with_reducible exact LeO.refl _)
      | (with_reducible exact LeO.none _)
      | (with_reducible refine LeO.ite ?_ ?_)
      | (with_reducible refine LeO.bind ?_ (fun _ => ?_))
      | exact ih0 _ _ _
      | exact LeO.none _
      | refine LeO.ite ?_ ?_
      | refine LeO.bind ?_ (fun _ => ?_)
theorem impl_isPrintable.mono : ∀ a0 k, LeO (impl_isPrintable.f k a0) (impl_isPrintable.f (k + 1) a0) := by
  intro a0 k
  have ih0 := impl_isPrintable.mono_l k
  unfold impl_isPrintable.f
  repeat' first
      | (with_reducible exact ih0 _ _ _)
      | (with_reducible exact LeO.refl _)
      | (with_reducible exact LeO.none _)
      | (with_reducible refine LeO.ite ?_ ?_)
      | (with_reducible refine LeO.bind ?_ (fun _ => ?_))
      | exact ih0 _ _ _
      | exact LeO.none _
      | refine LeO.ite ?_ ?_
      | refine LeO.bind ?_ (fun _ => ?_)
set_option maxHeartbeats 8000000 in
set_option maxRecDepth 100000 in
theorem impl_isPrintable.calls (k : Nat) (a0 : ByteArray) (r : Bool) (w : World) (h : impl_isPrintable.f k a0 = some r) :
    Calls Tryz.prog 137 #[.string a0] w fun e w' => e = .returned (.bool r) ∧ Drawn0 w w' := by
  have H : (impl_isPrintable.l0 k a0 (a0.size : Int) 0) = some r := h
  clear h
  have H' := Aside0.mk H
  clear H
  go_enter Tryz.func137, Tryz.ntmps137
  go_wp2
  go_loopg [6] k (fun kq v6 w' => ∃ (x6_1 : Int), v6 = .int .i64 x6_1 ∧ Aside0 (impl_isPrintable.l0 kq a0 (a0.size : Int) x6_1 = some r) ∧ Aside0 (kq ≤ k) ∧ Drawn0 w w')
  case atStart => exact ⟨(0), (by first | rfl | (simp; done) | (simp [*]; done)), H', ⟨Nat.le_refl _⟩, by repeat (first | exact Drawn0.refl _ | apply Drawn0.step)⟩
  case round =>
    clear H'
    try clear c1
    obtain ⟨x6_1, rfl, HA, HK1, ⟨m1, rfl⟩⟩ := hrel
    cases gk with
    | zero => exact absurd HA.out (by simp [impl_isPrintable.l0])
    | succ k1 =>
      have H := HA.out
      clear HA
      simp only [impl_isPrintable.l0] at H
      by_cases c2 : x6_1 < (a0.size : Int)
      · rw [if_pos c2] at H
        have c2b0 : decide (x6_1 < (a0.size : Int)) = true := decide_eq_true c2
        clear c2
        by_cases c3 : 0 ≤ x6_1
        · rw [if_pos c3] at H
          have c3b0 : decide (0 ≤ x6_1) = true := decide_eq_true c3
          clear c3
          by_cases c4 : x6_1 < (a0.size : Int)
          · rw [if_pos c4] at H
            have c4b0 : decide (x6_1 < (a0.size : Int)) = true := decide_eq_true c4
            clear c4
            by_cases c6 : (bt a0 x6_1) < 32
            · rw [if_pos c6] at H
              have c6b0 : decide ((bt a0 x6_1) < 32) = true := decide_eq_true c6
              clear c6
              obtain rfl := Option.some.inj H
              have p5 : 0 ≤ (x6_1 : Int) := of_decide_eq_true Da
              have q5 : x6_1 < (a0.size : Int) := of_decide_eq_true Da
              have hx5 := bt_at a0 x6_1
              replace p5 := eq_true p5
              replace q5 := eq_true q5
              go_wp2
              go_ret
              exact ⟨by first | rfl | (simp; done) | (simp [*]; done), by repeat (first | exact Drawn0.refl _ | apply Drawn0.step)⟩
            · rw [if_neg c6] at H
              have c6b0 : decide ((bt a0 x6_1) < 32) = false := decide_eq_false c6
              clear c6
              by_cases c8 : (bt a0 x6_1) > 126
              · rw [if_pos c8] at H
                have c8b0 : decide (126 < (bt a0 x6_1)) = true := decide_eq_true c8
                clear c8
                obtain rfl := Option.some.inj H
                have p5 : 0 ≤ (x6_1 : Int) := of_decide_eq_true Da
                have q5 : x6_1 < (a0.size : Int) := of_decide_eq_true Da
                have hx5 := bt_at a0 x6_1
                replace p5 := eq_true p5
                replace q5 := eq_true q5
                have p7 : 0 ≤ (x6_1 : Int) := of_decide_eq_true Da
                have q7 : x6_1 < (a0.size : Int) := of_decide_eq_true Da
                have hx7 := bt_at a0 x6_1
                replace p7 := eq_true p7
                replace q7 := eq_true q7
                go_wp2
                go_ret
                exact ⟨by first | rfl | (simp; done) | (simp [*]; done), by repeat (first | exact Drawn0.refl _ | apply Drawn0.step)⟩
              · rw [if_neg c8] at H
                have c8b0 : decide (126 < (bt a0 x6_1)) = false := decide_eq_false c8
                clear c8
                have H' := Aside0.mk H
                clear H
                have p5 : 0 ≤ (x6_1 : Int) := of_decide_eq_true Da
                have q5 : x6_1 < (a0.size : Int) := of_decide_eq_true Da
                have hx5 := bt_at a0 x6_1
                replace p5 := eq_true p5
                replace q5 := eq_true q5
                have p7 : 0 ≤ (x6_1 : Int) := of_decide_eq_true Da
                have q7 : x6_1 < (a0.size : Int) := of_decide_eq_true Da
                have hx7 := bt_at a0 x6_1
                replace p7 := eq_true p7
                replace q7 := eq_true q7
                go_wp2
                go_roundg k1
                case measure => have := HK1.out; omega
                case rel => exact ⟨(wrap64 (x6_1 + 1)), (by first | rfl | (simp; done) | (simp [*]; done)), H', ⟨by have := HK1.out; omega⟩, by repeat (first | exact Drawn0.refl _ | apply Drawn0.step)⟩
          · rw [if_neg c4] at H
            exact absurd H (by simp)
        · rw [if_neg c3] at H
          exact absurd H (by simp)
      · rw [if_neg c2] at H
        have c2b0 : decide (x6_1 < (a0.size : Int)) = false := decide_eq_false c2
        clear c2
        obtain rfl := Option.some.inj H
        go_wp2
        go_ret
        exact ⟨by first | rfl | (simp; done) | (simp [*]; done), by repeat (first | exact Drawn0.refl _ | apply Drawn0.step)⟩

set_option linter.unusedVariables false
set_option linter.unusedSimpArgs false

/-! ### stringslite_HasSuffix: function 169 -/
def stringslite_HasSuffix.f (a0 : ByteArray) (a1 : ByteArray) : Option (Bool) := if (a0.size : Int) ≥ (a1.size : Int) then (if 0 ≤ (wrap64 ((a0.size : Int) - (a1.size : Int))) then (if (wrap64 ((a0.size : Int) - (a1.size : Int))) ≤ (a0.size : Int) then (some ((a0.extract ((wrap64 ((a0.size : Int) - (a1.size : Int))) : Int).toNat a0.size).toList == a1.toList)) else (none)) else (none)) else (some false)
set_option maxHeartbeats 8000000 in
set_option maxRecDepth 100000 in
theorem stringslite_HasSuffix.calls (a0 : ByteArray) (a1 : ByteArray) (r : Bool) (w : World) (h : stringslite_HasSuffix.f a0 a1 = some r) :
    Calls Tryz.prog 169 #[.string a0, .string a1] w fun e w' => e = .returned (.bool r) ∧ Drawn0 w w' := by
  have H : (if (a0.size : Int) ≥ (a1.size : Int) then (if 0 ≤ (wrap64 ((a0.size : Int) - (a1.size : Int))) then (if (wrap64 ((a0.size : Int) - (a1.size : Int))) ≤ (a0.size : Int) then (some ((a0.extract ((wrap64 ((a0.size : Int) - (a1.size : Int))) : Int).toNat a0.size).toList == a1.toList)) else (none)) else (none)) else (some false)) = some r := h
  clear h
  by_cases c3 : (a0.size : Int) ≥ (a1.size : Int)
  · rw [if_pos c3] at H
    have c3b0 : decide ((a1.size : Int) ≤ (a0.size : Int)) = true := decide_eq_true c3
    have c3b1 : decide (a1.size ≤ a0.size) = true := decide_eq_true (Int.ofNat_le.mp c3)
    clear c3
    obtain ⟨ji4, hji4⟩ : ∃ j_ : Int, (wrap64 ((a0.size : Int) - (a1.size : Int))) = j_ := ⟨_, rfl⟩
    replace H : (if 0 ≤ (ji4) then (if (ji4) ≤ (a0.size : Int) then (some ((a0.extract ((ji4) : Int).toNat a0.size).toList == a1.toList)) else (none)) else (none)) = some r := by first | (rw [hji4] at H; exact H) | (simp only [hji4] at H ⊢; exact H)
    have hji4w : (IntKind.i64.wrap ((a0.size : Int) - (a1.size : Int))) = ji4 := (i64_w _).trans hji4
    by_cases c5 : 0 ≤ (ji4)
    · rw [if_pos c5] at H
      have c5b0 := eq_true c5
      have c5b1 : decide (0 ≤ (ji4)) = true := decide_eq_true c5
      clear c5
      by_cases c6 : (ji4) ≤ (a0.size : Int)
      · rw [if_pos c6] at H
        have c6b0 := eq_true c6
        have c6b1 : decide ((ji4) ≤ (a0.size : Int)) = true := decide_eq_true c6
        clear c6
        obtain rfl := Option.some.inj H
        go_enter Tryz.func169, Tryz.ntmps169
        go_wp2
        go_ret
        exact ⟨by first | rfl | (simp; done) | (simp only [← hji4] <;> (first | rfl | simp)) | (simp [*]; done), by repeat (first | exact Drawn0.refl _ | apply Drawn0.step)⟩
      · rw [if_neg c6] at H
        exact absurd H (by simp)
    · rw [if_neg c5] at H
      exact absurd H (by simp)
  · rw [if_neg c3] at H
    have c3b0 : decide ((a1.size : Int) ≤ (a0.size : Int)) = false := decide_eq_false c3
    have c3b1 : decide (a1.size ≤ a0.size) = false := decide_eq_false (fun h => c3 (Int.ofNat_le.mpr h))
    clear c3
    obtain rfl := Option.some.inj H
    go_enter Tryz.func169, Tryz.ntmps169
    go_wp2
    go_ret
    exact ⟨by first | rfl | (simp; done) | (simp [*]; done), by repeat (first | exact Drawn0.refl _ | apply Drawn0.step)⟩

set_option linter.unusedVariables false
set_option linter.unusedSimpArgs false

/-! ### stringslite_TrimSuffix: function 158 -/
def stringslite_TrimSuffix.f (a0 : ByteArray) (a1 : ByteArray) : Option (ByteArray) := (stringslite_HasSuffix.f a0 a1).bind fun t330 => (if t330 = true then (if 0 ≤ (wrap64 ((a0.size : Int) - (a1.size : Int))) then (if (wrap64 ((a0.size : Int) - (a1.size : Int))) ≤ (a0.size : Int) then (some (a0.extract 0 ((wrap64 ((a0.size : Int) - (a1.size : Int))) : Int).toNat)) else (none)) else (none)) else (some a0))
set_option maxHeartbeats 8000000 in
set_option maxRecDepth 100000 in
theorem stringslite_TrimSuffix.calls (a0 : ByteArray) (a1 : ByteArray) (r : ByteArray) (w : World) (h : stringslite_TrimSuffix.f a0 a1 = some r) :
    Calls Tryz.prog 158 #[.string a0, .string a1] w fun e w' => e = .returned (.string r) ∧ Drawn0 w w' := by
  have H : ((stringslite_HasSuffix.f a0 a1).bind fun t330 => (if t330 = true then (if 0 ≤ (wrap64 ((a0.size : Int) - (a1.size : Int))) then (if (wrap64 ((a0.size : Int) - (a1.size : Int))) ≤ (a0.size : Int) then (some (a0.extract 0 ((wrap64 ((a0.size : Int) - (a1.size : Int))) : Int).toNat)) else (none)) else (none)) else (some a0))) = some r := h
  clear h
  replace H := Option.bind_eq_some_iff.mp H
  obtain ⟨t330, A30, H⟩ := H
  replace H : (if t330 = true then (if 0 ≤ (wrap64 ((a0.size : Int) - (a1.size : Int))) then (if (wrap64 ((a0.size : Int) - (a1.size : Int))) ≤ (a0.size : Int) then (some (a0.extract 0 ((wrap64 ((a0.size : Int) - (a1.size : Int))) : Int).toNat)) else (none)) else (none)) else (some a0)) = some r := H
  have A3 := Aside0.mk A30
  clear A30
  by_cases c4 : t330 = true
  · subst c4
    have H1 : (if 0 ≤ (wrap64 ((a0.size : Int) - (a1.size : Int))) then (if (wrap64 ((a0.size : Int) - (a1.size : Int))) ≤ (a0.size : Int) then (some (a0.extract 0 ((wrap64 ((a0.size : Int) - (a1.size : Int))) : Int).toNat)) else (none)) else (none)) = some r := by rw [if_pos rfl] at H; exact H
    clear H
    have H := H1
    clear H1
    obtain ⟨ji5, hji5⟩ : ∃ j_ : Int, (wrap64 ((a0.size : Int) - (a1.size : Int))) = j_ := ⟨_, rfl⟩
    replace H : (if 0 ≤ (ji5) then (if (ji5) ≤ (a0.size : Int) then (some (a0.extract 0 ((ji5) : Int).toNat)) else (none)) else (none)) = some r := by first | (rw [hji5] at H; exact H) | (simp only [hji5] at H ⊢; exact H)
    (try rw [hji5] at A3)
    have hji5w : (IntKind.i64.wrap ((a0.size : Int) - (a1.size : Int))) = ji5 := (i64_w _).trans hji5
    by_cases c6 : 0 ≤ (ji5)
    · rw [if_pos c6] at H
      have c6b0 := eq_true c6
      have c6b1 : decide (0 ≤ (ji5)) = true := decide_eq_true c6
      clear c6
      by_cases c7 : (ji5) ≤ (a0.size : Int)
      · rw [if_pos c7] at H
        have c7b0 := eq_true c7
        have c7b1 : decide ((ji5) ≤ (a0.size : Int)) = true := decide_eq_true c7
        clear c7
        obtain rfl := Option.some.inj H
        go_enter Tryz.func158, Tryz.ntmps158
        go_wp2_with (first | ((with_reducible refine gate_callee (f := 169) rfl ?_); refine goesL_ (some 7) rfl rfl Tryz.func169 (by kernel_rfl) rfl #[.string a0, .string a1] rfl Ag ?_; (with_reducible refine (stringslite_HasSuffix.calls a0 a1 true _ A3.out).mono ?_); rintro e w' ⟨rfl, ⟨nd, rfl⟩⟩; refine ⟨_, rfl, ?_⟩))
        go_ret
        exact ⟨by first | rfl | (simp; done) | (simp only [← hji5] <;> (first | rfl | simp)) | (simp [*]; done), by repeat (first | exact Drawn0.refl _ | apply Drawn0.step)⟩
      · rw [if_neg c7] at H
        exact absurd H (by simp)
    · rw [if_neg c6] at H
      exact absurd H (by simp)
  · replace c4 := Bool.eq_false_iff.mpr c4
    subst c4
    have H1 : (some a0) = some r := by rw [if_neg (show ¬ (false = true) by decide)] at H; exact H
    clear H
    have H := H1
    clear H1
    obtain rfl := Option.some.inj H
    go_enter Tryz.func158, Tryz.ntmps158
    go_wp2_with (first | ((with_reducible refine gate_callee (f := 169) rfl ?_); refine goesL_ (some 7) rfl rfl Tryz.func169 (by kernel_rfl) rfl #[.string a0, .string a1] rfl Ag ?_; (with_reducible refine (stringslite_HasSuffix.calls a0 a1 false _ A3.out).mono ?_); rintro e w' ⟨rfl, ⟨nd, rfl⟩⟩; refine ⟨_, rfl, ?_⟩))
    go_ret
    exact ⟨by first | rfl | (simp; done) | (simp [*]; done), by repeat (first | exact Drawn0.refl _ | apply Drawn0.step)⟩

set_option linter.unusedVariables false
set_option linter.unusedSimpArgs false

/-! ### strings_TrimSuffix: function 138 -/
def strings_TrimSuffix.f (a0 : ByteArray) (a1 : ByteArray) : Option (ByteArray) := (stringslite_TrimSuffix.f a0 a1).bind fun t331 => (some t331)
set_option maxHeartbeats 8000000 in
set_option maxRecDepth 100000 in
theorem strings_TrimSuffix.calls (a0 : ByteArray) (a1 : ByteArray) (r : ByteArray) (w : World) (h : strings_TrimSuffix.f a0 a1 = some r) :
    Calls Tryz.prog 138 #[.string a0, .string a1] w fun e w' => e = .returned (.string r) ∧ Drawn0 w w' := by
  have H : ((stringslite_TrimSuffix.f a0 a1).bind fun t331 => (some t331)) = some r := h
  clear h
  replace H := Option.bind_eq_some_iff.mp H
  obtain ⟨t331, A30, H⟩ := H
  replace H : (some t331) = some r := H
  have A3 := Aside0.mk A30
  clear A30
  obtain rfl := Option.some.inj H
  go_enter Tryz.func138, Tryz.ntmps138
  go_wp2_with (first | ((with_reducible refine gate_callee (f := 158) rfl ?_); refine goesL_ (some 7) rfl rfl Tryz.func158 (by kernel_rfl) rfl #[.string a0, .string a1] rfl Ag ?_; (with_reducible refine (stringslite_TrimSuffix.calls a0 a1 t331 _ A3.out).mono ?_); rintro e w' ⟨rfl, ⟨nd, rfl⟩⟩; refine ⟨_, rfl, ?_⟩))
  go_ret
  exact ⟨by first | rfl | (simp; done) | (simp [*]; done), by repeat (first | exact Drawn0.refl _ | apply Drawn0.step)⟩

end Go.Proofs.YtpocoeghobdfiaaGreatDoor.PG
