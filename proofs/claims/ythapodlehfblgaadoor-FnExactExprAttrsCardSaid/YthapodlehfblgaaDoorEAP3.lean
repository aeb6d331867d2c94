/-
  Functions that the law reaches, each as a plain Lean function, with the proof that the call comes to it (written by a program of this session by way of the kit's print program). Conditions: what each contract states.
-/
import Derived.Test.YthapodlehfblgaaDoorEAP1
import Derived.Test.YthapodlehfblgaaDoorEALibTrim
import Derived.Test.YthapodlehfblgaaDoorEASq
namespace Go.Proofs.YthapodlehfblgaaDoor.PG
open Go.Proofs.YthapodlehfblgaaDoor.Sq Go.RowKit Go.Proofs.YthapodlehfblgaaDoorW.PrintWords Go.Proofs.YthapodlehfblgaaDoorW.PrintLast Go.Proofs.YthapodlehfblgaaDoorW.PrintMore
attribute [local go_sem] max2_int min2_int max_two min_two max_three min_three max_four min_four   -- for this text's walks alone
set_option linter.unusedVariables false
set_option linter.unusedSimpArgs false

/-! ### impl_NameRight: function 99 -/
def impl_NameRight.f (a0 : ByteArray) : Option (Bool) := if (a0.size : Int) ≥ 1 then (if (a0.size : Int) ≤ 20 then (if 0 < (a0.size : Int) then (if (bt a0 0) ≥ 97 then (if (bt a0 0) ≤ 122 then ((strings_Trim.f a0 (⟨#[97, 98, 99, 100, 101, 102, 103, 104, 105, 106, 107, 108, 109, 110, 111, 112, 113, 114, 115, 116, 117, 118, 119, 120, 121, 122, 48, 49, 50, 51, 52, 53, 54, 55, 56, 57, 95]⟩ : ByteArray)).bind fun t476 => (some (t476.toList == ([] : List UInt8)))) else (some false)) else (some false)) else (none)) else (some false)) else (some false)
set_option maxHeartbeats 8000000 in
set_option maxRecDepth 100000 in
theorem impl_NameRight.calls (a0 : ByteArray) (r : Bool) (w : World) (h : impl_NameRight.f a0 = some r) :
    Calls Tryd.prog 99 #[.string a0] w fun e w' => e = .returned (.bool r) ∧ Below w.heap.size w w' := by
  have HB := Aside0.mk (Below.refl w.heap.size w); have H : (if (a0.size : Int) ≥ 1 then (if (a0.size : Int) ≤ 20 then (if 0 < (a0.size : Int) then (if (bt a0 0) ≥ 97 then (if (bt a0 0) ≤ 122 then ((strings_Trim.f a0 (⟨#[97, 98, 99, 100, 101, 102, 103, 104, 105, 106, 107, 108, 109, 110, 111, 112, 113, 114, 115, 116, 117, 118, 119, 120, 121, 122, 48, 49, 50, 51, 52, 53, 54, 55, 56, 57, 95]⟩ : ByteArray)).bind fun t476 => (some (t476.toList == ([] : List UInt8)))) else (some false)) else (some false)) else (none)) else (some false)) else (some false)) = some r := h; clear h; by_cases c2 : (a0.size : Int) ≥ 1
  · rw [if_pos c2] at H; have c2b0 : decide (1 ≤ (a0.size : Int)) = true := decide_eq_true c2; have c2b1 : decide (1 ≤ a0.size) = true := decide_eq_true (by omega); clear c2; by_cases c3 : (a0.size : Int) ≤ 20
    · rw [if_pos c3] at H; have c3b0 : decide ((a0.size : Int) ≤ 20) = true := decide_eq_true c3; have c3b1 : decide (a0.size ≤ 20) = true := decide_eq_true (by omega); clear c3; by_cases c4 : 0 < (a0.size : Int)
      · rw [if_pos c4] at H; have c4b0 : decide (0 < (a0.size : Int)) = true := decide_eq_true c4; have c4b1 : decide (0 < a0.size) = true := decide_eq_true (by omega); clear c4; by_cases c6 : (bt a0 0) ≥ 97
        · rw [if_pos c6] at H; have c6b0 : decide (97 ≤ (bt a0 0)) = true := decide_eq_true c6; clear c6; by_cases c8 : (bt a0 0) ≤ 122
          · rw [if_pos c8] at H; have c8b0 : decide ((bt a0 0) ≤ 122) = true := decide_eq_true c8; clear c8; replace H := Option.bind_eq_some_iff.mp H; obtain ⟨t476, A90, H⟩ := H; (try dsimp only at H); have A9 := Aside0.mk A90; clear A90; obtain rfl := Option.some.inj H; have p5 : 0 ≤ (0 : Int) := (by omega); have q5 : 0 < a0.size := (by have : (0 : Int) < (a0.size : Int) := of_decide_eq_true Da; omega); have hx5 : ∀ h : 0 < a0.size, ((a0[0]'h).toNat : Int) = bt a0 0 := bt_at a0 0; clear p5; have qi5 : (0 < (a0.size : Int)) = True := eq_true (of_decide_eq_true Da); replace q5 := eq_true q5; have p7 : 0 ≤ (0 : Int) := (by omega); have q7 : 0 < a0.size := (by have : (0 : Int) < (a0.size : Int) := of_decide_eq_true Da; omega); have hx7 : ∀ h : 0 < a0.size, ((a0[0]'h).toNat : Int) = bt a0 0 := bt_at a0 0; clear p7; have qi7 : (0 < (a0.size : Int)) = True := eq_true (of_decide_eq_true Da); replace q7 := eq_true q7; go_enter Tryd.func99, Tryd.ntmps99; go_wp2_with (first | (go_at_call 121; (with_reducible refine (strings_Trim.calls a0 (⟨#[97, 98, 99, 100, 101, 102, 103, 104, 105, 106, 107, 108, 109, 110, 111, 112, 113, 114, 115, 116, 117, 118, 119, 120, 121, 122, 48, 49, 50, 51, 52, 53, 54, 55, 56, 57, 95]⟩ : ByteArray) t476 _ A9.out).mono ?_); rintro e w10 ⟨rfl, hb⟩; have n0_ := Aside0.mk (below_step By hb); clear HB; have HB := n0_; clear n0_; (try clear hb); (try clear hb2); (try clear hk); (try clear hi))); go_ret; exact ⟨Rf, By⟩
          · rw [if_neg c8] at H; have c8b0 : decide ((bt a0 0) ≤ 122) = false := decide_eq_false c8; clear c8; obtain rfl := Option.some.inj H; have p5 : 0 ≤ (0 : Int) := (by omega); have q5 : 0 < a0.size := (by have : (0 : Int) < (a0.size : Int) := of_decide_eq_true Da; omega); have hx5 : ∀ h : 0 < a0.size, ((a0[0]'h).toNat : Int) = bt a0 0 := bt_at a0 0; clear p5; have qi5 : (0 < (a0.size : Int)) = True := eq_true (of_decide_eq_true Da); replace q5 := eq_true q5; have p7 : 0 ≤ (0 : Int) := (by omega); have q7 : 0 < a0.size := (by have : (0 : Int) < (a0.size : Int) := of_decide_eq_true Da; omega); have hx7 : ∀ h : 0 < a0.size, ((a0[0]'h).toNat : Int) = bt a0 0 := bt_at a0 0; clear p7; have qi7 : (0 < (a0.size : Int)) = True := eq_true (of_decide_eq_true Da); replace q7 := eq_true q7; go_enter Tryd.func99, Tryd.ntmps99; go_wp2; go_ret; exact ⟨Rf, By⟩
        · rw [if_neg c6] at H; have c6b0 : decide (97 ≤ (bt a0 0)) = false := decide_eq_false c6; clear c6; obtain rfl := Option.some.inj H; have p5 : 0 ≤ (0 : Int) := (by omega); have q5 : 0 < a0.size := (by have : (0 : Int) < (a0.size : Int) := of_decide_eq_true Da; omega); have hx5 : ∀ h : 0 < a0.size, ((a0[0]'h).toNat : Int) = bt a0 0 := bt_at a0 0; clear p5; have qi5 : (0 < (a0.size : Int)) = True := eq_true (of_decide_eq_true Da); replace q5 := eq_true q5; go_enter Tryd.func99, Tryd.ntmps99; go_wp2; go_ret; exact ⟨Rf, By⟩
      · rw [if_neg c4] at H; exact absurd H (by simp)
    · rw [if_neg c3] at H; have c3b0 : decide ((a0.size : Int) ≤ 20) = false := decide_eq_false c3; have c3b1 : decide (a0.size ≤ 20) = false := decide_eq_false (by omega); clear c3; obtain rfl := Option.some.inj H; go_enter Tryd.func99, Tryd.ntmps99; go_wp2; go_ret; exact ⟨Rf, By⟩
  · rw [if_neg c2] at H; have c2b0 : decide (1 ≤ (a0.size : Int)) = false := decide_eq_false c2; have c2b1 : decide (1 ≤ a0.size) = false := decide_eq_false (by omega); clear c2; obtain rfl := Option.some.inj H; go_enter Tryd.func99, Tryd.ntmps99; go_wp2; go_ret; exact ⟨Rf, By⟩

set_option linter.unusedVariables false
set_option linter.unusedSimpArgs false

/-! ### impl_isPart: function 108 -/
def impl_isPart.j0 : Nat → Bool → Int → ByteArray → Int → Option (Bool)
  | 0, _, _, _, _ => none
  | k + 1, x3, x478000, x478001, x478002 => if x3 = true then (some false) else (if x478000 = 1 then (if (x478001.size : Int) ≤ 40 then ((impl_isPrintable.f k x478001).bind fun t481 => (some t481)) else (some false)) else (if x478000 = 2 then ((impl_NameRight.f x478001).bind fun t482 => (some t482)) else (some (x478001.toList == ([] : List UInt8)))))
def impl_isPart.f (k : Nat) (a0_0 : Int) (a0_1 : ByteArray) (a0_2 : Int) : Option (Bool) := (impl_operands.f k a0_0).bind fun t478 => (if t478 < 0 then (impl_isPart.j0 k (decide (t478 < 0)) a0_0 a0_1 a0_2) else (if a0_0 = 7 then ((impl_between.f a0_2 0 40).bind fun t479 => (impl_isPart.j0 k (!t479) a0_0 a0_1 a0_2)) else (if a0_2 = 0 then ((impl_between.f a0_2 0 40).bind fun t480 => (impl_isPart.j0 k (!t480) a0_0 a0_1 a0_2)) else (impl_isPart.j0 k (a0_2 != 0) a0_0 a0_1 a0_2))))
theorem impl_isPart.mono_l : ∀ k, (∀ y0 y1 y2 y3, LeO (impl_isPart.j0 k y0 y1 y2 y3) (impl_isPart.j0 (k + 1) y0 y1 y2 y3))
  | 0 => fun _ _ _ _ r h => by simp [impl_isPart.j0] at h
  | k + 1 => by
    have ih0 := impl_isPart.mono_l k
    · intro y0 y1 y2 y3; unfold impl_isPart.j0; repeat' first
      | (with_reducible exact ih0 _ _ _ _)
      | (with_reducible exact impl_isPrintable.mono _ _)
      | (with_reducible exact impl_operands.mono _ _)
      | (with_reducible exact LeO.refl _)
      | (with_reducible exact LeO.none _)
      | (with_reducible refine LeO.ite ?_ ?_)
      | (with_reducible refine LeO.bind ?_ (fun _ => ?_))
theorem impl_isPart.mono : ∀ a0 a1 a2 k, LeO (impl_isPart.f k a0 a1 a2) (impl_isPart.f (k + 1) a0 a1 a2) := by
  intro a0 a1 a2 k; have ih0 := impl_isPart.mono_l k; unfold impl_isPart.f; repeat' first
      | (with_reducible exact ih0 _ _ _ _)
      | (with_reducible exact impl_isPrintable.mono _ _)
      | (with_reducible exact impl_operands.mono _ _)
      | (with_reducible exact LeO.refl _)
      | (with_reducible exact LeO.none _)
      | (with_reducible refine LeO.ite ?_ ?_)
      | (with_reducible refine LeO.bind ?_ (fun _ => ?_))
set_option maxHeartbeats 8000000 in
set_option maxRecDepth 100000 in
theorem impl_isPart.calls (k : Nat) (a0_0 : Int) (a0_1 : ByteArray) (a0_2 : Int) (r : Bool) (w : World) (h : impl_isPart.f k a0_0 a0_1 a0_2 = some r) :
    Calls Tryd.prog 108 #[.agg #[.int .i64 a0_0, .string a0_1, .int .i64 a0_2]] w fun e w' => e = .returned (.bool r) ∧ Below w.heap.size w w' := by
  have hu82 := Tryd.underlying82; have HB := Aside0.mk (Below.refl w.heap.size w); have H : ((impl_operands.f k a0_0).bind fun t478 => (if t478 < 0 then (impl_isPart.j0 k (decide (t478 < 0)) a0_0 a0_1 a0_2) else (if a0_0 = 7 then ((impl_between.f a0_2 0 40).bind fun t479 => (impl_isPart.j0 k (!t479) a0_0 a0_1 a0_2)) else (if a0_2 = 0 then ((impl_between.f a0_2 0 40).bind fun t480 => (impl_isPart.j0 k (!t480) a0_0 a0_1 a0_2)) else (impl_isPart.j0 k (a0_2 != 0) a0_0 a0_1 a0_2))))) = some r := h; clear h; replace H := Option.bind_eq_some_iff.mp H; obtain ⟨t478, A20, H⟩ := H; (try dsimp only at H); have A2 := Aside0.mk A20; clear A20; have HC3 := Aside0.mk H; clear H; go_enter Tryd.func108, Tryd.ntmps108; go_upto_if 3 with (first | ((with_reducible refine gate_dst (N := 1) rfl ?_); refine box_event ?hg (N := 1) ?hd (cs := #[.int .i64 a0_0, .string a0_1, .int .i64 a0_2]) (t := 82) ?hr ?_; (case hd => rfl); (case hg => rfl); (case hr => first | (go_simp; done) | (go_simp; rfl)); intro gb477 hg w4 hbox hb; have n_ := aa (below_step By hb) <| aa (hbox) <| aa ((by rw [hg]; exact (below_size By) : w.heap.size ≤ gb477)) <| Aside0.mk ((by rw [hg]; exact (below_size By) : w.heap.size ≤ gb477)); clear HB; obtain ⟨HB, BK477, GW477, GE477⟩ := n_; clear hb hbox hg; have ⟨hcz5_0, hcz5_1, hcz5_2⟩ := cq3 BK477.out; have ⟨hfz5_0, hfz5_1, hfz5_2⟩ := fq3 BK477.out) | ((with_reducible refine gate_callee (f := 109) rfl ?_); refine goesL_ (some 6) rfl rfl Tryd.func109 (by kernel_rfl) rfl #[.int .i64 a0_0] rfl Ag ?_; (with_reducible refine (impl_operands.calls k a0_0 t478 _ A2.out).mono ?_); rintro e w' ⟨rfl, ⟨nd, rfl⟩⟩; refine ⟨_, rfl, ?_⟩)); (try simp only [Act.put, List.setIfInBounds_toArray, List.set_cons_zero, List.set_cons_succ]); go_cut [3] (fun v3 wc => ∃ (kq : Nat) (x3_2 : Bool), v3 = .bool x3_2 ∧ Aside0 (impl_isPart.j0 kq x3_2 a0_0 a0_1 a0_2 = some r) ∧ Aside0 (kq ≤ k) ∧ Aside0 (wc.heap[gb477]? = some (.cells #[.int .i64 a0_0, .string a0_1, .int .i64 a0_2] 82 (0, 0))) ∧ Aside0 (Below w.heap.size w wc))
  case first =>
    have H := HC3.out; clear HC3; by_cases c6 : t478 < 0
    · rw [if_pos c6] at H; have c6b0 : decide (t478 < 0) = true := decide_eq_true c6; clear c6; (first | rw [c6b0] | (simp only [i64_w, i32_w]; rw [c6b0]) | skip); have H' := Aside0.mk H; clear H; go_wp2; go_meet
      case rel => exact ⟨_, (decide (t478 < 0)), (by first | rfl | (simp; done) | (simp [*]; done)), H', ⟨by first | omega | exact Nat.le_refl _⟩, ⟨by (with_reducible repeat (first | refine blk_drewN ?_ _ | refine blk_drew ?_ | refine blk_alloc ?_ _)); exact BK477.out⟩, ⟨By⟩⟩
    · rw [if_neg c6] at H; have c6b0 : decide (t478 < 0) = false := decide_eq_false c6; clear c6; (first | rw [c6b0] | (simp only [i64_w, i32_w]; rw [c6b0]) | skip); by_cases c7 : a0_0 = 7
      · rw [if_pos c7] at H; have c7b0 : (a0_0 == 7) = true := beq_iff_eq.mpr c7; have c7b1 : (a0_0 != 7) = false := bne_eq_false_iff_eq.mpr c7; clear c7; replace H := Option.bind_eq_some_iff.mp H; obtain ⟨t479, A80, H⟩ := H; (try dsimp only at H); have A8 := Aside0.mk A80; clear A80; have H' := Aside0.mk H; clear H; have hcz9_0 : w4.cell? ⟨gb477, 0, none⟩ = some (.int .i64 a0_0) := bc BK477.out 0; have hcz9_1 : w4.cell? ⟨gb477, 1, none⟩ = some (.string a0_1) := bc BK477.out 1; have hcz9_2 : w4.cell? ⟨gb477, 2, none⟩ = some (.int .i64 a0_2) := bc BK477.out 2; have hfz9_0 := blk_frozen BK477.out 0; have hfz9_1 := blk_frozen BK477.out 1; have hfz9_2 := blk_frozen BK477.out 2; go_wp2_with (first | ((with_reducible refine gate_callee (f := 83) rfl ?_); refine goesL_ (some 18) rfl rfl Tryd.func83 (by kernel_rfl) rfl #[.int .i64 a0_2, .int .i64 0, .int .i64 40] rfl Ag ?_; (with_reducible refine (impl_between.calls a0_2 0 40 t479 _ A8.out).mono ?_); rintro e w' ⟨rfl, ⟨nd, rfl⟩⟩; refine ⟨_, rfl, ?_⟩)); go_meet
        case rel => exact ⟨_, (!t479), (by first | rfl | (simp; done) | (simp [*]; done)), H', ⟨by first | omega | exact Nat.le_refl _⟩, ⟨by (with_reducible repeat (first | refine blk_drewN ?_ _ | refine blk_drew ?_ | refine blk_alloc ?_ _)); exact BK477.out⟩, ⟨By⟩⟩
      · rw [if_neg c7] at H; have c7b0 : (a0_0 == 7) = false := beq_eq_false_iff_ne.mpr c7; have c7b1 : (a0_0 != 7) = true := bne_iff_ne.mpr c7; by_cases c10 : a0_2 = 0
        · rw [if_pos c10] at H; have c10b0 : (a0_2 == 0) = true := beq_iff_eq.mpr c10; have c10b1 : (a0_2 != 0) = false := bne_eq_false_iff_eq.mpr c10; clear c10; replace H := Option.bind_eq_some_iff.mp H; obtain ⟨t480, A110, H⟩ := H; (try dsimp only at H); have A11 := Aside0.mk A110; clear A110; have H' := Aside0.mk H; clear H; have hcz12_0 : w4.cell? ⟨gb477, 0, none⟩ = some (.int .i64 a0_0) := bc BK477.out 0; have hcz12_1 : w4.cell? ⟨gb477, 1, none⟩ = some (.string a0_1) := bc BK477.out 1; have hcz12_2 : w4.cell? ⟨gb477, 2, none⟩ = some (.int .i64 a0_2) := bc BK477.out 2; have hfz12_0 := blk_frozen BK477.out 0; have hfz12_1 := blk_frozen BK477.out 1; have hfz12_2 := blk_frozen BK477.out 2; go_wp2_with (first | ((with_reducible refine gate_callee (f := 83) rfl ?_); refine goesL_ (some 18) rfl rfl Tryd.func83 (by kernel_rfl) rfl #[.int .i64 a0_2, .int .i64 0, .int .i64 40] rfl Ag ?_; (with_reducible refine (impl_between.calls a0_2 0 40 t480 _ A11.out).mono ?_); rintro e w' ⟨rfl, ⟨nd, rfl⟩⟩; refine ⟨_, rfl, ?_⟩)); go_meet
          case rel => exact ⟨_, (!t480), (by first | rfl | (simp; done) | (simp [*]; done)), H', ⟨by first | omega | exact Nat.le_refl _⟩, ⟨by (with_reducible repeat (first | refine blk_drewN ?_ _ | refine blk_drew ?_ | refine blk_alloc ?_ _)); exact BK477.out⟩, ⟨By⟩⟩
        · rw [if_neg c10] at H; have c10b0 : (a0_2 == 0) = false := beq_eq_false_iff_ne.mpr c10; have c10b1 : (a0_2 != 0) = true := bne_iff_ne.mpr c10; have H' := Aside0.mk H; clear H; have hcz13_0 : w4.cell? ⟨gb477, 0, none⟩ = some (.int .i64 a0_0) := bc BK477.out 0; have hcz13_1 : w4.cell? ⟨gb477, 1, none⟩ = some (.string a0_1) := bc BK477.out 1; have hcz13_2 : w4.cell? ⟨gb477, 2, none⟩ = some (.int .i64 a0_2) := bc BK477.out 2; have hfz13_0 := blk_frozen BK477.out 0; have hfz13_1 := blk_frozen BK477.out 1; have hfz13_2 := blk_frozen BK477.out 2; go_wp2; go_meet
          case rel => exact ⟨_, ((a0_2 != 0)), (by first | rfl | (simp; done) | (simp [*]; done)), H', ⟨by first | omega | exact Nat.le_refl _⟩, ⟨by (with_reducible repeat (first | refine blk_drewN ?_ _ | refine blk_drew ?_ | refine blk_alloc ?_ _)); exact BK477.out⟩, ⟨By⟩⟩
  case rest =>
    clear HC3; try clear c1
    try clear p2
    try clear c6
    try clear c6b0
    try clear c7
    try clear c7b0
    try clear c7b1
    try clear c8
    try clear c10
    try clear c10b0
    try clear c10b1
    try clear hcz12_0
    try clear hcz12_1
    try clear hcz12_2
    try clear hcz13_0
    try clear hcz13_1
    try clear hcz13_2
    try clear hcz5_0
    try clear hcz5_1
    try clear hcz5_2
    try clear hcz9_0
    try clear hcz9_1
    try clear hcz9_2
    try clear hfz12_0
    try clear hfz12_1
    try clear hfz12_2
    try clear hfz13_0
    try clear hfz13_1
    try clear hfz13_2
    try clear hfz5_0
    try clear hfz5_1
    try clear hfz5_2
    try clear hfz9_0
    try clear hfz9_1
    try clear hfz9_2
    obtain ⟨kq, x3_2, rfl, HA, HJ2, BK477, HB⟩ := hcut; cases kq with
    | zero => exact absurd HA.out (by simp [impl_isPart.j0])
    | succ kj2 =>
      have H := HA.out; clear HA; simp only [impl_isPart.j0] at H; by_cases c14 : x3_2 = true
      · subst c14; rw [if_pos rfl] at H; obtain rfl := Option.some.inj H; go_wp2; go_ret; exact ⟨Rf, By⟩
      · replace c14 := Bool.eq_false_iff.mpr c14; subst c14; rw [if_neg (show ¬ (false = true) by decide)] at H; by_cases c15 : a0_0 = 1
        · rw [if_pos c15] at H; have c15b0 : (a0_0 == 1) = true := beq_iff_eq.mpr c15; have c15b1 : (a0_0 != 1) = false := bne_eq_false_iff_eq.mpr c15; clear c15; by_cases c16 : (a0_1.size : Int) ≤ 40
          · rw [if_pos c16] at H; have c16b0 : decide ((a0_1.size : Int) ≤ 40) = true := decide_eq_true c16; have c16b1 : decide (a0_1.size ≤ 40) = true := decide_eq_true (by omega); clear c16; replace H := Option.bind_eq_some_iff.mp H; obtain ⟨t481, A170, H⟩ := H; (try dsimp only at H); have A17 := Aside0.mk A170; clear A170; obtain rfl := Option.some.inj H; have hcz18_0 : wc.cell? ⟨gb477, 0, none⟩ = some (.int .i64 a0_0) := bc BK477.out 0; have hcz18_1 : wc.cell? ⟨gb477, 1, none⟩ = some (.string a0_1) := bc BK477.out 1; have hcz18_2 : wc.cell? ⟨gb477, 2, none⟩ = some (.int .i64 a0_2) := bc BK477.out 2; have hfz18_0 := blk_frozen BK477.out 0; have hfz18_1 := blk_frozen BK477.out 1; have hfz18_2 := blk_frozen BK477.out 2; go_wp2_with (first | (go_at_call 126; (with_reducible refine (impl_isPrintable.calls kj2 a0_1 t481 _ A17.out).mono ?_); rintro e w' ⟨rfl, ⟨nd, rfl⟩⟩)); go_ret; exact ⟨Rf, By⟩
          · rw [if_neg c16] at H; have c16b0 : decide ((a0_1.size : Int) ≤ 40) = false := decide_eq_false c16; have c16b1 : decide (a0_1.size ≤ 40) = false := decide_eq_false (by omega); clear c16; obtain rfl := Option.some.inj H; have hcz19_0 : wc.cell? ⟨gb477, 0, none⟩ = some (.int .i64 a0_0) := bc BK477.out 0; have hcz19_1 : wc.cell? ⟨gb477, 1, none⟩ = some (.string a0_1) := bc BK477.out 1; have hcz19_2 : wc.cell? ⟨gb477, 2, none⟩ = some (.int .i64 a0_2) := bc BK477.out 2; have hfz19_0 := blk_frozen BK477.out 0; have hfz19_1 := blk_frozen BK477.out 1; have hfz19_2 := blk_frozen BK477.out 2; go_wp2; go_ret; exact ⟨Rf, By⟩
        · rw [if_neg c15] at H; have c15b0 : (a0_0 == 1) = false := beq_eq_false_iff_ne.mpr c15; have c15b1 : (a0_0 != 1) = true := bne_iff_ne.mpr c15; by_cases c20 : a0_0 = 2
          · rw [if_pos c20] at H; have c20b0 : (a0_0 == 2) = true := beq_iff_eq.mpr c20; have c20b1 : (a0_0 != 2) = false := bne_eq_false_iff_eq.mpr c20; clear c20; replace H := Option.bind_eq_some_iff.mp H; obtain ⟨t482, A210, H⟩ := H; (try dsimp only at H); have A21 := Aside0.mk A210; clear A210; obtain rfl := Option.some.inj H; have hcz22_0 : wc.cell? ⟨gb477, 0, none⟩ = some (.int .i64 a0_0) := bc BK477.out 0; have hcz22_1 : wc.cell? ⟨gb477, 1, none⟩ = some (.string a0_1) := bc BK477.out 1; have hcz22_2 : wc.cell? ⟨gb477, 2, none⟩ = some (.int .i64 a0_2) := bc BK477.out 2; have hfz22_0 := blk_frozen BK477.out 0; have hfz22_1 := blk_frozen BK477.out 1; have hfz22_2 := blk_frozen BK477.out 2; go_wp2_with (first | ((with_reducible refine gate_callee (f := 99) rfl ?_); refine goesL_ (some 39) rfl rfl Tryd.func99 (by kernel_rfl) rfl #[.string a0_1] rfl Ag ?_; (with_reducible refine (impl_NameRight.calls a0_1 t482 _ A21.out).mono ?_); rintro e w23 ⟨rfl, hb⟩; refine ⟨_, rfl, ?_⟩; have n_ := aa (bb BK477.out hb) <| Aside0.mk (below_step By hb); clear BK477 HB; obtain ⟨BK477, HB⟩ := n_; (try clear hb); (try clear hb2); (try clear hk); (try clear hi))); go_ret; exact ⟨Rf, By⟩
          · rw [if_neg c20] at H; have c20b0 : (a0_0 == 2) = false := beq_eq_false_iff_ne.mpr c20; have c20b1 : (a0_0 != 2) = true := bne_iff_ne.mpr c20; obtain rfl := Option.some.inj H; have hcz24_0 : wc.cell? ⟨gb477, 0, none⟩ = some (.int .i64 a0_0) := bc BK477.out 0; have hcz24_1 : wc.cell? ⟨gb477, 1, none⟩ = some (.string a0_1) := bc BK477.out 1; have hcz24_2 : wc.cell? ⟨gb477, 2, none⟩ = some (.int .i64 a0_2) := bc BK477.out 2; have hfz24_0 := blk_frozen BK477.out 0; have hfz24_1 := blk_frozen BK477.out 1; have hfz24_2 := blk_frozen BK477.out 2; go_wp2; go_ret; exact ⟨Rf, By⟩

set_option linter.unusedVariables false
set_option linter.unusedSimpArgs false

/-! ### impl_exprDepth: function 77 -/
mutual
def impl_exprDepth.j0 : Nat → List (S82) → Bool → Option (Int × Int)
  | 0, _, _ => none
  | k + 1, x0, x17 => if x17 = true then (some (0, 0)) else (if 0 < (x0.length : Int) then ((impl_operands.f k ((rd_T82 x0 0).f0)).bind fun t486 => (impl_exprDepth.l0 k x0 1 0 t486 0)) else (none))
def impl_exprDepth.l0 : Nat → List (S82) → Int → Int → Int → Int → Option (Int × Int)
  | 0, _, _, _, _, _ => none
  | k + 1, x0, x4, x5, x22, x23 => if x23 < x22 then (if 0 ≤ x4 then (if x4 ≤ (x0.length : Int) then ((impl_exprDepth.f k (x0.drop (x4 : Int).toNat)).bind fun bt491 => (if bt491.1 = 0 then (some (0, 0)) else (impl_exprDepth.l0 k x0 (wrap64 (x4 + bt491.1)) (mx x5 bt491.2) x22 (wrap64 (x23 + 1))))) else (none)) else (none)) else (some (x4, wrap64 (x5 + 1)))
def impl_exprDepth.f : Nat → List (S82) → Option (Int × Int)
  | 0, _ => none
  | k + 1, l0 => if (l0.length : Int) = 0 then (impl_exprDepth.j0 k l0 true) else (if 0 < (l0.length : Int) then ((impl_isPart.f k ((rd_T82 l0 0).f0) ((rd_T82 l0 0).f1) ((rd_T82 l0 0).f2)).bind fun t484 => (impl_exprDepth.j0 k l0 (!t484))) else (none))
end
theorem impl_exprDepth.mono_l : ∀ k, (∀ y0, LeO (impl_exprDepth.f k y0) (impl_exprDepth.f (k + 1) y0)) ∧ (∀ y0 y1, LeO (impl_exprDepth.j0 k y0 y1) (impl_exprDepth.j0 (k + 1) y0 y1)) ∧ (∀ y0 y1 y2 y3 y4, LeO (impl_exprDepth.l0 k y0 y1 y2 y3 y4) (impl_exprDepth.l0 (k + 1) y0 y1 y2 y3 y4))
  | 0 => ⟨fun _ r h => by simp [impl_exprDepth.f] at h, fun _ _ r h => by simp [impl_exprDepth.j0] at h, fun _ _ _ _ _ r h => by simp [impl_exprDepth.l0] at h⟩
  | k + 1 => by
    obtain ⟨ih0, ih1, ih2⟩ := impl_exprDepth.mono_l k; refine ⟨?_, ?_, ?_⟩
    · intro y0; unfold impl_exprDepth.f; repeat' first
      | (with_reducible exact ih0 _)
      | (with_reducible exact ih1 _ _)
      | (with_reducible exact ih2 _ _ _ _ _)
      | (with_reducible exact impl_isPart.mono _ _ _ _)
      | (with_reducible exact impl_operands.mono _ _)
      | (with_reducible exact LeO.refl _)
      | (with_reducible exact LeO.none _)
      | (with_reducible refine LeO.ite ?_ ?_)
      | (with_reducible refine LeO.bind ?_ (fun _ => ?_))
    · intro y0 y1; unfold impl_exprDepth.j0; repeat' first
      | (with_reducible exact ih0 _)
      | (with_reducible exact ih1 _ _)
      | (with_reducible exact ih2 _ _ _ _ _)
      | (with_reducible exact impl_isPart.mono _ _ _ _)
      | (with_reducible exact impl_operands.mono _ _)
      | (with_reducible exact LeO.refl _)
      | (with_reducible exact LeO.none _)
      | (with_reducible refine LeO.ite ?_ ?_)
      | (with_reducible refine LeO.bind ?_ (fun _ => ?_))
    · intro y0 y1 y2 y3 y4; unfold impl_exprDepth.l0; repeat' first
      | (with_reducible exact ih0 _)
      | (with_reducible exact ih1 _ _)
      | (with_reducible exact ih2 _ _ _ _ _)
      | (with_reducible exact impl_isPart.mono _ _ _ _)
      | (with_reducible exact impl_operands.mono _ _)
      | (with_reducible exact LeO.refl _)
      | (with_reducible exact LeO.none _)
      | (with_reducible refine LeO.ite ?_ ?_)
      | (with_reducible refine LeO.bind ?_ (fun _ => ?_))
theorem impl_exprDepth.mono : ∀ a0 k, LeO (impl_exprDepth.f k a0) (impl_exprDepth.f (k + 1) a0) := by
  intro a0 k; obtain ⟨ih0, ih1, ih2⟩ := impl_exprDepth.mono_l k; exact ih0 a0
set_option maxHeartbeats 8000000 in
set_option maxRecDepth 100000 in
theorem impl_exprDepth.calls (k : Nat) : ∀ (A0 : Option Addr) (c0 : Nat) (l0 : List (S82)) (r1 : Int) (r2 : Int) (w : World) (hr0 : Kd.C k82 w A0 l0.length l0) (hc0 : l0.length ≤ c0) (h : impl_exprDepth.f k l0 = some (r1, r2)),
    Calls Tryd.prog 77 #[.slice A0 l0.length c0] w fun e w' => e = .returned (.tuple #[.int .i64 r1, .int .i64 r2]) ∧ Below w.heap.size w w' := by
  induction k using Nat.strongRecOn with
  | _ k ih =>
  intro A0 c0 l0 r1 r2 w hr0 hc0 h; cases k with
  | zero => exact absurd h (by simp [impl_exprDepth.f])
  | succ k =>
  simp only [impl_exprDepth.f] at h; have hu82 := Tryd.underlying82; have HR0 := Aside0.mk hr0; have HC0 := Aside0.mk hc0; clear hr0 hc0; have HB := Aside0.mk (Below.refl w.heap.size w); have H : (if (l0.length : Int) = 0 then (impl_exprDepth.j0 k l0 true) else (if 0 < (l0.length : Int) then ((impl_isPart.f k ((rd_T82 l0 0).f0) ((rd_T82 l0 0).f1) ((rd_T82 l0 0).f2)).bind fun t484 => (impl_exprDepth.j0 k l0 (!t484))) else (none))) = some (r1, r2) := h; clear h; have HC2 := Aside0.mk H; clear H; go_enter Tryd.func77, Tryd.ntmps77; go_upto_region 1 with (fail); go_cut [17] (fun v17 wc => ∃ (kq : Nat) (x17_1 : Bool), v17 = .bool x17_1 ∧ Aside0 (impl_exprDepth.j0 kq l0 x17_1 = some (r1, r2)) ∧ Aside0 (kq ≤ k) ∧ Aside0 (Below w.heap.size w wc))
  case first =>
    have H := HC2.out; clear HC2; by_cases c3 : (l0.length : Int) = 0
    · rw [if_pos c3] at H; have c3b0 : ((l0.length : Int) == 0) = true := beq_iff_eq.mpr c3; have c3b1 : ((l0.length : Int) != 0) = false := bne_eq_false_iff_eq.mpr c3; clear c3; (first | rw [c3b0] | (simp only [i64_w, i32_w]; rw [c3b0]) | skip); have H' := Aside0.mk H; clear H; go_wp2; go_meet
      case rel => exact ⟨_, (true), (by first | rfl | (simp; done) | (simp [*]; done)), H', ⟨by first | omega | exact Nat.le_refl _⟩, ⟨By⟩⟩
    · rw [if_neg c3] at H; have c3b0 : ((l0.length : Int) == 0) = false := beq_eq_false_iff_ne.mpr c3; have c3b1 : ((l0.length : Int) != 0) = true := bne_iff_ne.mpr c3; have c3b2 : ¬ (l0 = []) := fun h_ => c3 (by rw [h_]; rfl)
      (first | rw [c3b0] | (simp only [i64_w, i32_w]; rw [c3b0]) | skip); by_cases c4 : 0 < (l0.length : Int)
      · rw [if_pos c4] at H; have c4b0 : decide (0 < (l0.length : Int)) = true := decide_eq_true c4; have c4b1 : decide (0 < l0.length) = true := decide_eq_true (by omega); clear c4; replace H := Option.bind_eq_some_iff.mp H; obtain ⟨t484, A50, H⟩ := H; replace H : (impl_exprDepth.j0 k l0 (!t484)) = some (r1, r2) := H; have A5 := Aside0.mk A50; clear A50; have H' := Aside0.mk H; clear H; have p483 : 0 ≤ (0 : Int) := (by omega); have q483 : 0 < (l0.length : Int) := of_decide_eq_true Da; obtain ⟨ad483, e483, hx483_0, hx483_1, hx483_2⟩ := at_T82 HR0.out 0 p483 q483; cases e483
        have qi483 : (0 < l0.length) = True := eq_true (by omega); (try rw [show ((0 : Int)).toNat = 0 from rfl] at hx483_0); (try rw [show 0 * 3 = 0 from rfl] at hx483_0); (try rw [Addr.add_zero'] at hx483_0); (try rw [show ((0 : Int)).toNat = 0 from rfl] at hx483_1); (try rw [show 0 * 3 = 0 from rfl] at hx483_1); (try rw [Addr.add_zero'] at hx483_1); (try rw [show ((0 : Int)).toNat = 0 from rfl] at hx483_2); (try rw [show 0 * 3 = 0 from rfl] at hx483_2); (try rw [Addr.add_zero'] at hx483_2); replace hx483_0 := bz HB.out hx483_0; replace hx483_1 := bz HB.out hx483_1; replace hx483_2 := bz HB.out hx483_2; replace p483 := eq_true p483; replace q483 := eq_true q483; go_wp2_with (first | (go_at_call 108; (with_reducible refine (impl_isPart.calls k ((rd_T82 l0 0).f0) ((rd_T82 l0 0).f1) ((rd_T82 l0 0).f2) t484 _ A5.out).mono ?_); rintro e w6 ⟨rfl, hb⟩; have n0_ := Aside0.mk (below_step By hb); clear HB; have HB := n0_; clear n0_; (try clear hb); (try clear hb2); (try clear hk); (try clear hi))); go_meet
        case rel => exact ⟨_, (!t484), (by first | rfl | (simp; done) | (simp [*]; done)), H', ⟨by first | omega | exact Nat.le_refl _⟩, ⟨By⟩⟩
      · rw [if_neg c4] at H; exact absurd H (by simp)
  case rest =>
    clear HC2; try clear p2
    try clear c3
    try clear c3b0
    try clear c3b1
    try clear c3b2
    try clear c4
    try clear c4b0
    try clear c4b1
    try clear p4
    try clear q4
    try clear hx4
    try clear qi4
    try clear hx483_0
    try clear hx483_1
    try clear hx483_2
    try clear p483
    try clear q483
    obtain ⟨kq, x17_1, rfl, HA, HJ1, HB⟩ := hcut; cases kq with
    | zero => exact absurd HA.out (by simp [impl_exprDepth.j0])
    | succ kj1 =>
      have H := HA.out; clear HA; simp only [impl_exprDepth.j0] at H; by_cases c7 : x17_1 = true
      · subst c7; have H1 : (some (0, 0)) = some (r1, r2) := by rw [if_pos rfl] at H; exact H
        clear H; have H := H1; clear H1; simp only [Option.some.injEq, Prod.mk.injEq] at H; obtain ⟨rfl, rfl⟩ := H; go_wp2; go_ret2; exact ⟨Rf, By⟩
      · replace c7 := Bool.eq_false_iff.mpr c7; subst c7; have H1 : (if 0 < (l0.length : Int) then ((impl_operands.f kj1 ((rd_T82 l0 0).f0)).bind fun t486 => (impl_exprDepth.l0 kj1 l0 1 0 t486 0)) else (none)) = some (r1, r2) := by rw [if_neg (show ¬ (false = true) by decide)] at H; exact H
        clear H; have H := H1; clear H1; by_cases c8 : 0 < (l0.length : Int)
        · rw [if_pos c8] at H; have c8b0 : decide (0 < (l0.length : Int)) = true := decide_eq_true c8; have c8b1 : decide (0 < l0.length) = true := decide_eq_true (by omega); clear c8; replace H := Option.bind_eq_some_iff.mp H; obtain ⟨t486, A90, H⟩ := H; replace H : (impl_exprDepth.l0 kj1 l0 1 0 t486 0) = some (r1, r2) := H; have A9 := Aside0.mk A90; clear A90; have H' := Aside0.mk H; clear H; have p485 : 0 ≤ (0 : Int) := (by omega); have q485 : 0 < (l0.length : Int) := of_decide_eq_true Da; obtain ⟨ad485, e485, hx485_0, hx485_1, hx485_2⟩ := at_T82 HR0.out 0 p485 q485; cases e485
          have qi485 : (0 < l0.length) = True := eq_true (by omega); (try rw [show ((0 : Int)).toNat = 0 from rfl] at hx485_0); (try rw [show 0 * 3 = 0 from rfl] at hx485_0); (try rw [Addr.add_zero'] at hx485_0); (try rw [show ((0 : Int)).toNat = 0 from rfl] at hx485_1); (try rw [show 0 * 3 = 0 from rfl] at hx485_1); (try rw [Addr.add_zero'] at hx485_1); (try rw [show ((0 : Int)).toNat = 0 from rfl] at hx485_2); (try rw [show 0 * 3 = 0 from rfl] at hx485_2); (try rw [Addr.add_zero'] at hx485_2); replace hx485_0 := bz HB.out hx485_0; replace hx485_1 := bz HB.out hx485_1; replace hx485_2 := bz HB.out hx485_2; replace p485 := eq_true p485; replace q485 := eq_true q485; go_wp2_with (first | ((with_reducible refine gate_callee (f := 109) rfl ?_); refine goesL_ (some 22) rfl rfl Tryd.func109 (by kernel_rfl) rfl #[.int .i64 ((rd_T82 l0 0).f0)] rfl Ag ?_; (with_reducible refine (impl_operands.calls kj1 ((rd_T82 l0 0).f0) t486 _ A9.out).mono ?_); rintro e w' ⟨rfl, ⟨nd, rfl⟩⟩; refine ⟨_, rfl, ?_⟩)); go_loopg [4, 5, 23] kj1 (fun kq v4 v5 v23 w' => ∃ (x4_2 : Int) (x5_2 : Int) (x23_2 : Int), v4 = .int .i64 x4_2 ∧ v5 = .int .i64 x5_2 ∧ v23 = .int .i64 x23_2 ∧ Aside0 (impl_exprDepth.l0 kq l0 x4_2 x5_2 t486 x23_2 = some (r1, r2)) ∧ Aside0 (kq ≤ kj1) ∧ Aside0 (Below w.heap.size w w'))
          case atStart => exact ⟨(1), (0), (0), (by first | rfl | (simp; done) | (simp [*]; done)), (by first | rfl | (simp; done) | (simp [*]; done)), (by first | rfl | (simp; done) | (simp [*]; done)), H', ⟨Nat.le_refl _⟩, ⟨By⟩⟩
          case round =>
            clear H'; try clear c1
            try clear p2
            try clear c3
            try clear c3b0
            try clear c3b1
            try clear c3b2
            try clear c4
            try clear c4b0
            try clear c4b1
            try clear p4
            try clear q4
            try clear hx4
            try clear qi4
            try clear c7
            try clear c8
            try clear c8b0
            try clear c8b1
            try clear hx483_0
            try clear hx483_1
            try clear hx483_2
            try clear hx485_0
            try clear hx485_1
            try clear hx485_2
            try clear p2
            try clear p4
            try clear p483
            try clear p485
            try clear q4
            try clear q483
            try clear q485
            obtain ⟨x4_2, x5_2, x23_2, rfl, rfl, rfl, HA, HK2, HB⟩ := hrel; cases gk with
            | zero => exact absurd HA.out (by simp [impl_exprDepth.l0])
            | succ k2 =>
              have H := HA.out; clear HA; simp only [impl_exprDepth.l0] at H; by_cases c10 : x23_2 < t486
              · rw [if_pos c10] at H; have c10b0 : decide (x23_2 < t486) = true := decide_eq_true c10; clear c10; by_cases c11 : 0 ≤ x4_2
                · rw [if_pos c11] at H; have c11b0 := eq_true c11; have c11b1 : decide (0 ≤ x4_2) = true := decide_eq_true c11; clear c11; by_cases c12 : x4_2 ≤ (l0.length : Int)
                  · rw [if_pos c12] at H; have c12b0 := eq_true c12; have c12b1 : decide (x4_2 ≤ (l0.length : Int)) = true := decide_eq_true c12; clear c12; obtain ⟨y487, hy487⟩ : ∃ y_ : List (S82), y_ = (l0.drop (x4_2 : Int).toNat) := ⟨_, rfl⟩; replace H : ((impl_exprDepth.f k2 y487).bind fun bt491 => (if bt491.1 = 0 then (some (0, 0)) else (impl_exprDepth.l0 k2 l0 (wrap64 (x4_2 + bt491.1)) (mx x5_2 bt491.2) t486 (wrap64 (x23_2 + 1))))) = some (r1, r2) := by first | (rw [hy487]; with_reducible exact H) | (have H2_ := (Option.bind_some _ _).symm.trans H; rw [hy487]; with_reducible exact H2_) | (have H2_ := (Option.bind_some _ _).symm.trans H; with_reducible exact H2_) | with_reducible exact H | (rw [hy487]; exact H) | exact H
                    have Ny487 := Aside0.mk hy487; clear hy487; replace H := Option.bind_eq_some_iff.mp H; obtain ⟨⟨t491, t492⟩, A130, H⟩ := H; replace H : (if t491 = 0 then (some (0, 0)) else (impl_exprDepth.l0 k2 l0 (wrap64 (x4_2 + t491)) (mx x5_2 t492) t486 (wrap64 (x23_2 + 1)))) = some (r1, r2) := H; have A13 := Aside0.mk A130; clear A130; by_cases c14 : t491 = 0
                    · rw [if_pos c14] at H; have c14b0 : (t491 == 0) = true := beq_iff_eq.mpr c14; have c14b1 : (t491 != 0) = false := bne_eq_false_iff_eq.mpr c14; clear c14; simp only [Option.some.injEq, Prod.mk.injEq] at H; obtain ⟨rfl, rfl⟩ := H; have q15 : (x4_2 : Int) ≤ ((l0.length : Int) : Int) := of_decide_eq_true Da; obtain ⟨i015, hi015, _, hsz15, _⟩ := info_parts info82; have hroom15 : l0.length ≤ c0 := HC0.out; have hC15 : Kd.C k82 _ (some ad485) l0.length l0 := HR0.out; have q015 : (0 : Int) ≤ (x4_2 : Int) := of_decide_eq_true Da; have hcut15 := cut_from (P := Tryd.prog) 42 82 .i64 Tryd.underlying42 hi015 3 hsz15 (some ad485) l0.length c0 x4_2 q015 q15; have hr15 := Kd.C_drop (m := (x4_2 : Int).toNat) (c := c0) hC15 (by omega) hroom15; obtain ⟨A15, hA15⟩ : ∃ A1, A1 = (if c0 = (x4_2 : Int).toNat then (some ad485) else ((some ad485) : Option Addr).map (·.add ((x4_2 : Int).toNat * 3))) := ⟨_, rfl⟩; obtain ⟨c15, hc15⟩ : ∃ c1, c1 = c0 - (x4_2 : Int).toNat := ⟨_, rfl⟩; have hy15 : y487.length = l0.length - (x4_2 : Int).toNat := (by rw [Ny487.out, List.length_drop] <;> omega); rw [show (l0).drop (x4_2 : Int).toNat = y487 from Ny487.out.symm] at hr15; replace hr15 : Kd.C k82 _ A15 y487.length y487 := (by rw [hA15]; exact hr15); rw [← hy15, ← hA15, ← hc15] at hcut15; have HR490 := Aside0.mk hr15; have HC490 := Aside0.mk (show y487.length ≤ c15 from by rw [hy15, hc15]; exact Nat.sub_le_sub_right hroom15 _); clear hr15 hC15 hroom15 hi015 hsz15 hc15; have KY15 := Aside0.mk hy15; have KA15 := Aside0.mk hA15; clear hy15 hA15; replace q15 := eq_true q15; go_wp2_with (first | ((with_reducible refine gate_callee (f := 77) rfl ?_); refine goesL_ (some 29) rfl rfl Tryd.func77 (by kernel_rfl) rfl #[.slice A15 y487.length c15] rfl Ag ?_; (with_reducible refine (ih k2 (by have := HJ1.out; have := HK2.out; omega) _ _ y487 t491 t492 _ ?side1 ?side2 A13.out).mono ?_); (case side1 => exact rC (Kd.C_below HR490.out HB.out)); (case side2 => exact HC490.out); rintro e w16 ⟨rfl, hb⟩; refine ⟨_, rfl, ?_⟩; have n0_ := Aside0.mk (below_step By hb); clear HB; have HB := n0_; clear n0_; (try clear hb); (try clear hb2); (try clear hk); (try clear hi))); go_ret2; exact ⟨Rf, By⟩
                    · rw [if_neg c14] at H; have c14b0 : (t491 == 0) = false := beq_eq_false_iff_ne.mpr c14; have c14b1 : (t491 != 0) = true := bne_iff_ne.mpr c14; obtain ⟨ji17, hji17⟩ : ∃ j_ : Int, (mx x5_2 t492) = j_ := ⟨_, rfl⟩; replace H : (impl_exprDepth.l0 k2 l0 (wrap64 (x4_2 + t491)) ji17 t486 (wrap64 (x23_2 + 1))) = some (r1, r2) := by first | (rw [hji17] at H; exact H) | (simp only [hji17] at H ⊢; exact H)
                      (try rw [hji17] at A13); have hji17_ : (if x5_2 < t492 then t492 else x5_2) = ji17 := hji17; have H' := Aside0.mk H; clear H; have q18 : (x4_2 : Int) ≤ ((l0.length : Int) : Int) := of_decide_eq_true Da; obtain ⟨i018, hi018, _, hsz18, _⟩ := info_parts info82; have hroom18 : l0.length ≤ c0 := HC0.out; have hC18 : Kd.C k82 _ (some ad485) l0.length l0 := HR0.out; have q018 : (0 : Int) ≤ (x4_2 : Int) := of_decide_eq_true Da; have hcut18 := cut_from (P := Tryd.prog) 42 82 .i64 Tryd.underlying42 hi018 3 hsz18 (some ad485) l0.length c0 x4_2 q018 q18; have hr18 := Kd.C_drop (m := (x4_2 : Int).toNat) (c := c0) hC18 (by omega) hroom18; obtain ⟨A18, hA18⟩ : ∃ A1, A1 = (if c0 = (x4_2 : Int).toNat then (some ad485) else ((some ad485) : Option Addr).map (·.add ((x4_2 : Int).toNat * 3))) := ⟨_, rfl⟩; obtain ⟨c18, hc18⟩ : ∃ c1, c1 = c0 - (x4_2 : Int).toNat := ⟨_, rfl⟩; have hy18 : y487.length = l0.length - (x4_2 : Int).toNat := (by rw [Ny487.out, List.length_drop] <;> omega); rw [show (l0).drop (x4_2 : Int).toNat = y487 from Ny487.out.symm] at hr18; replace hr18 : Kd.C k82 _ A18 y487.length y487 := (by rw [hA18]; exact hr18); rw [← hy18, ← hA18, ← hc18] at hcut18; have HR490 := Aside0.mk hr18; have HC490 := Aside0.mk (show y487.length ≤ c18 from by rw [hy18, hc18]; exact Nat.sub_le_sub_right hroom18 _); clear hr18 hC18 hroom18 hi018 hsz18 hc18; have KY18 := Aside0.mk hy18; have KA18 := Aside0.mk hA18; clear hy18 hA18; replace q18 := eq_true q18; go_wp2_with (first | ((with_reducible refine gate_callee (f := 77) rfl ?_); refine goesL_ (some 29) rfl rfl Tryd.func77 (by kernel_rfl) rfl #[.slice A18 y487.length c18] rfl Ag ?_; (with_reducible refine (ih k2 (by have := HJ1.out; have := HK2.out; omega) _ _ y487 t491 t492 _ ?side1 ?side2 A13.out).mono ?_); (case side1 => exact rC (Kd.C_below HR490.out HB.out)); (case side2 => exact HC490.out); rintro e w19 ⟨rfl, hb⟩; refine ⟨_, rfl, ?_⟩; have n0_ := Aside0.mk (below_step By hb); clear HB; have HB := n0_; clear n0_; (try clear hb); (try clear hb2); (try clear hk); (try clear hi))); go_roundg k2
                      case measure => have := HJ1.out; have := HK2.out; omega
                      case rel => exact ⟨(wrap64 (x4_2 + t491)), (ji17), (wrap64 (x23_2 + 1)), (by first | rfl | (simp; done) | (simp [*]; done)), (by first | rfl | (simp; done) | (simp only [← hji17] <;> (first | rfl | simp)) | (simp [*]; done)), (by first | rfl | (simp; done) | (simp [*]; done)), H', ⟨by have := HJ1.out; have := HK2.out; omega⟩, ⟨By⟩⟩
                  · rw [if_neg c12] at H; exact absurd H (by simp)
                · rw [if_neg c11] at H; exact absurd H (by simp)
              · rw [if_neg c10] at H; have c10b0 : decide (x23_2 < t486) = false := decide_eq_false c10; clear c10; simp only [Option.some.injEq, Prod.mk.injEq] at H; obtain ⟨rfl, rfl⟩ := H; go_wp2; go_ret2; exact ⟨Rf, By⟩
        · rw [if_neg c8] at H; exact absurd H (by simp)

set_option linter.unusedVariables false
set_option linter.unusedSimpArgs false

/-! ### impl_ExprRight: function 49 -/
def impl_ExprRight.f (k : Nat) (l0 : List (S82)) : Option (Bool) := if (l0.length : Int) > 12 then (some false) else ((impl_exprDepth.f k l0).bind fun bt493 => (if bt493.1 > 0 then (if bt493.1 = (l0.length : Int) then (some (decide (bt493.2 ≤ 5))) else (some false)) else (some false)))
theorem impl_ExprRight.mono : ∀ a0 k, LeO (impl_ExprRight.f k a0) (impl_ExprRight.f (k + 1) a0) := by
  intro a0 k; unfold impl_ExprRight.f; repeat' first
      | (with_reducible exact impl_exprDepth.mono _ _)
      | (with_reducible exact LeO.refl _)
      | (with_reducible exact LeO.none _)
      | (with_reducible refine LeO.ite ?_ ?_)
      | (with_reducible refine LeO.bind ?_ (fun _ => ?_))
set_option maxHeartbeats 8000000 in
set_option maxRecDepth 100000 in
theorem impl_ExprRight.calls (k : Nat) (A0 : Option Addr) (c0 : Nat) (l0 : List (S82)) (r : Bool) (w : World) (hr0 : Kd.C k82 w A0 l0.length l0) (hc0 : l0.length ≤ c0) (h : impl_ExprRight.f k l0 = some r) :
    Calls Tryd.prog 49 #[.slice A0 l0.length c0] w fun e w' => e = .returned (.bool r) ∧ Below w.heap.size w w' := by
  have HR0 := Aside0.mk hr0; have HC0 := Aside0.mk hc0; clear hr0 hc0; have HB := Aside0.mk (Below.refl w.heap.size w); have H : (if (l0.length : Int) > 12 then (some false) else ((impl_exprDepth.f k l0).bind fun bt493 => (if bt493.1 > 0 then (if bt493.1 = (l0.length : Int) then (some (decide (bt493.2 ≤ 5))) else (some false)) else (some false)))) = some r := h; clear h; by_cases c2 : (l0.length : Int) > 12
  · rw [if_pos c2] at H; have c2b0 : decide (12 < (l0.length : Int)) = true := decide_eq_true c2; have c2b1 : decide (12 < l0.length) = true := decide_eq_true (by omega); clear c2; obtain rfl := Option.some.inj H; go_enter Tryd.func49, Tryd.ntmps49; go_wp2; go_ret; exact ⟨Rf, By⟩
  · rw [if_neg c2] at H; have c2b0 : decide (12 < (l0.length : Int)) = false := decide_eq_false c2; have c2b1 : decide (12 < l0.length) = false := decide_eq_false (by omega); clear c2; replace H := Option.bind_eq_some_iff.mp H; obtain ⟨⟨t493, t494⟩, A30, H⟩ := H; (try dsimp only at H); have A3 := Aside0.mk A30; clear A30; by_cases c4 : t493 > 0
    · rw [if_pos c4] at H; have c4b0 : decide (0 < t493) = true := decide_eq_true c4; clear c4; by_cases c5 : t493 = (l0.length : Int)
      · rw [if_pos c5] at H; have c5b0 : (t493 == (l0.length : Int)) = true := beq_iff_eq.mpr c5; have c5b1 : (t493 != (l0.length : Int)) = false := bne_eq_false_iff_eq.mpr c5; clear c5; obtain rfl := Option.some.inj H; go_enter Tryd.func49, Tryd.ntmps49; go_wp2_with (first | ((with_reducible refine gate_callee (f := 77) rfl ?_); refine goesL_ (some 10) rfl rfl Tryd.func77 (by kernel_rfl) rfl #[.slice A0 l0.length c0] rfl Ag ?_; (with_reducible refine (impl_exprDepth.calls k _ _ l0 t493 t494 _ ?side1 ?side2 A3.out).mono ?_); (case side1 => repeat (first | exact HR0.out | (with_reducible refine Kd.C_alloc ?_ _) | (with_reducible refine Kd.C_drewN ?_ _) | (with_reducible refine Kd.C_drew ?_))); (case side2 => exact HC0.out); rintro e w6 ⟨rfl, hb⟩; refine ⟨_, rfl, ?_⟩; have n0_ := Aside0.mk (below_step By hb); clear HB; have HB := n0_; clear n0_; (try clear hb); (try clear hb2); (try clear hk); (try clear hi))); go_ret; exact ⟨Rf, By⟩
      · rw [if_neg c5] at H; have c5b0 : (t493 == (l0.length : Int)) = false := beq_eq_false_iff_ne.mpr c5; have c5b1 : (t493 != (l0.length : Int)) = true := bne_iff_ne.mpr c5; obtain rfl := Option.some.inj H; go_enter Tryd.func49, Tryd.ntmps49; go_wp2_with (first | ((with_reducible refine gate_callee (f := 77) rfl ?_); refine goesL_ (some 10) rfl rfl Tryd.func77 (by kernel_rfl) rfl #[.slice A0 l0.length c0] rfl Ag ?_; (with_reducible refine (impl_exprDepth.calls k _ _ l0 t493 t494 _ ?side1 ?side2 A3.out).mono ?_); (case side1 => repeat (first | exact HR0.out | (with_reducible refine Kd.C_alloc ?_ _) | (with_reducible refine Kd.C_drewN ?_ _) | (with_reducible refine Kd.C_drew ?_))); (case side2 => exact HC0.out); rintro e w7 ⟨rfl, hb⟩; refine ⟨_, rfl, ?_⟩; have n0_ := Aside0.mk (below_step By hb); clear HB; have HB := n0_; clear n0_; (try clear hb); (try clear hb2); (try clear hk); (try clear hi))); go_ret; exact ⟨Rf, By⟩
    · rw [if_neg c4] at H; have c4b0 : decide (0 < t493) = false := decide_eq_false c4; clear c4; obtain rfl := Option.some.inj H; go_enter Tryd.func49, Tryd.ntmps49; go_wp2_with (first | ((with_reducible refine gate_callee (f := 77) rfl ?_); refine goesL_ (some 10) rfl rfl Tryd.func77 (by kernel_rfl) rfl #[.slice A0 l0.length c0] rfl Ag ?_; (with_reducible refine (impl_exprDepth.calls k _ _ l0 t493 t494 _ ?side1 ?side2 A3.out).mono ?_); (case side1 => repeat (first | exact HR0.out | (with_reducible refine Kd.C_alloc ?_ _) | (with_reducible refine Kd.C_drewN ?_ _) | (with_reducible refine Kd.C_drew ?_))); (case side2 => exact HC0.out); rintro e w8 ⟨rfl, hb⟩; refine ⟨_, rfl, ?_⟩; have n0_ := Aside0.mk (below_step By hb); clear HB; have HB := n0_; clear n0_; (try clear hb); (try clear hb2); (try clear hk); (try clear hi))); go_ret; exact ⟨Rf, By⟩

end Go.Proofs.YthapodlehfblgaaDoor.PG
