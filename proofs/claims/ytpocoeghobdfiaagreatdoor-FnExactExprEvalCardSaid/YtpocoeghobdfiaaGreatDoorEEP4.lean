/-
  Functions that the law reaches, each as a plain Lean function, with the proof that the call comes to it (written by a program of this session by way of the kit's print program). Conditions: what each contract states.
-/
import Derived.Test.YtpocoeghobdfiaaGreatDoorEEP1
import Derived.Test.YtpocoeghobdfiaaGreatDoorEELibTrim
import Derived.Test.YtpocoeghobdfiaaGreatDoorEESq
import Derived.Test.YtpocoeghobdfiaaGreatDoorEEP2
import Derived.Test.YtpocoeghobdfiaaGreatDoorEECompare
namespace Go.Proofs.YtpocoeghobdfiaaGreatDoor.PG
open Go.Proofs.YtpocoeghobdfiaaGreatDoor.Sq Go.RowKit Go.Proofs.YtpocoeghobdfiaaGreatDoorW.PrintWords Go.Proofs.YtpocoeghobdfiaaGreatDoorW.PrintLast Go.Proofs.YtpocoeghobdfiaaGreatDoorW.PrintMore
attribute [local go_sem] max2_int min2_int max_two min_two max_three min_three max_four min_four   -- for this text's walks alone
set_option linter.unusedVariables false
set_option linter.unusedSimpArgs false

/-! ### impl_NameRight: function 85 -/
def impl_NameRight.f (a0 : ByteArray) : Option (Bool) := if (a0.size : Int) ≥ 1 then (if (a0.size : Int) ≤ 20 then (if 0 < (a0.size : Int) then (if (bt a0 0) ≥ 97 then (if (bt a0 0) ≤ 122 then ((strings_Trim.f a0 (⟨#[97, 98, 99, 100, 101, 102, 103, 104, 105, 106, 107, 108, 109, 110, 111, 112, 113, 114, 115, 116, 117, 118, 119, 120, 121, 122, 48, 49, 50, 51, 52, 53, 54, 55, 56, 57, 95]⟩ : ByteArray)).bind fun t247 => (some (t247.toList == ([] : List UInt8)))) else (some false)) else (some false)) else (none)) else (some false)) else (some false)
set_option maxHeartbeats 8000000 in
set_option maxRecDepth 100000 in
theorem impl_NameRight.calls (a0 : ByteArray) (r : Bool) (w : World) (h : impl_NameRight.f a0 = some r) :
    Calls Tryz.prog 85 #[.string a0] w fun e w' => e = .returned (.bool r) ∧ Below w.heap.size w w' := by
  have HB := Aside0.mk (Below.refl w.heap.size w)
  have H : (if (a0.size : Int) ≥ 1 then (if (a0.size : Int) ≤ 20 then (if 0 < (a0.size : Int) then (if (bt a0 0) ≥ 97 then (if (bt a0 0) ≤ 122 then ((strings_Trim.f a0 (⟨#[97, 98, 99, 100, 101, 102, 103, 104, 105, 106, 107, 108, 109, 110, 111, 112, 113, 114, 115, 116, 117, 118, 119, 120, 121, 122, 48, 49, 50, 51, 52, 53, 54, 55, 56, 57, 95]⟩ : ByteArray)).bind fun t247 => (some (t247.toList == ([] : List UInt8)))) else (some false)) else (some false)) else (none)) else (some false)) else (some false)) = some r := h
  clear h
  by_cases c2 : (a0.size : Int) ≥ 1
  · rw [if_pos c2] at H
    have c2b0 : decide (1 ≤ (a0.size : Int)) = true := decide_eq_true c2
    have c2b1 : decide (1 ≤ a0.size) = true := decide_eq_true (by omega)
    clear c2
    by_cases c3 : (a0.size : Int) ≤ 20
    · rw [if_pos c3] at H
      have c3b0 : decide ((a0.size : Int) ≤ 20) = true := decide_eq_true c3
      have c3b1 : decide (a0.size ≤ 20) = true := decide_eq_true (by omega)
      clear c3
      by_cases c4 : 0 < (a0.size : Int)
      · rw [if_pos c4] at H
        have c4b0 : decide (0 < (a0.size : Int)) = true := decide_eq_true c4
        have c4b1 : decide (0 < a0.size) = true := decide_eq_true (by omega)
        clear c4
        by_cases c6 : (bt a0 0) ≥ 97
        · rw [if_pos c6] at H
          have c6b0 : decide (97 ≤ (bt a0 0)) = true := decide_eq_true c6
          clear c6
          by_cases c8 : (bt a0 0) ≤ 122
          · rw [if_pos c8] at H
            have c8b0 : decide ((bt a0 0) ≤ 122) = true := decide_eq_true c8
            clear c8
            replace H := Option.bind_eq_some_iff.mp H
            obtain ⟨t247, A90, H⟩ := H
            replace H : (some (t247.toList == ([] : List UInt8))) = some r := H
            have A9 := Aside0.mk A90
            clear A90
            obtain rfl := Option.some.inj H
            have p5 : 0 ≤ (0 : Int) := (by omega)
            have q5 : 0 < a0.size := (by have : (0 : Int) < (a0.size : Int) := of_decide_eq_true Da; omega)
            have hx5 : ∀ h : 0 < a0.size, ((a0[0]'h).toNat : Int) = bt a0 0 := bt_at a0 0
            clear p5
            have qi5 : (0 < (a0.size : Int)) = True := eq_true (of_decide_eq_true Da)
            replace q5 := eq_true q5
            have p7 : 0 ≤ (0 : Int) := (by omega)
            have q7 : 0 < a0.size := (by have : (0 : Int) < (a0.size : Int) := of_decide_eq_true Da; omega)
            have hx7 : ∀ h : 0 < a0.size, ((a0[0]'h).toNat : Int) = bt a0 0 := bt_at a0 0
            clear p7
            have qi7 : (0 < (a0.size : Int)) = True := eq_true (of_decide_eq_true Da)
            replace q7 := eq_true q7
            go_enter Tryz.func85, Tryz.ntmps85
            go_wp2_with (first | (go_at_call 120; (with_reducible refine (strings_Trim.calls a0 (⟨#[97, 98, 99, 100, 101, 102, 103, 104, 105, 106, 107, 108, 109, 110, 111, 112, 113, 114, 115, 116, 117, 118, 119, 120, 121, 122, 48, 49, 50, 51, 52, 53, 54, 55, 56, 57, 95]⟩ : ByteArray) t247 _ A9.out).mono ?_); rintro e w10 ⟨rfl, hb⟩; have n0_ := Aside0.mk (below_step By hb); clear HB; have HB := n0_; clear n0_; (try clear hb); (try clear hb2); (try clear hk); (try clear hi)))
            go_ret
            exact ⟨Rf, By⟩
          · rw [if_neg c8] at H
            have c8b0 : decide ((bt a0 0) ≤ 122) = false := decide_eq_false c8
            clear c8
            obtain rfl := Option.some.inj H
            have p5 : 0 ≤ (0 : Int) := (by omega)
            have q5 : 0 < a0.size := (by have : (0 : Int) < (a0.size : Int) := of_decide_eq_true Da; omega)
            have hx5 : ∀ h : 0 < a0.size, ((a0[0]'h).toNat : Int) = bt a0 0 := bt_at a0 0
            clear p5
            have qi5 : (0 < (a0.size : Int)) = True := eq_true (of_decide_eq_true Da)
            replace q5 := eq_true q5
            have p7 : 0 ≤ (0 : Int) := (by omega)
            have q7 : 0 < a0.size := (by have : (0 : Int) < (a0.size : Int) := of_decide_eq_true Da; omega)
            have hx7 : ∀ h : 0 < a0.size, ((a0[0]'h).toNat : Int) = bt a0 0 := bt_at a0 0
            clear p7
            have qi7 : (0 < (a0.size : Int)) = True := eq_true (of_decide_eq_true Da)
            replace q7 := eq_true q7
            go_enter Tryz.func85, Tryz.ntmps85
            go_wp2
            go_ret
            exact ⟨Rf, By⟩
        · rw [if_neg c6] at H
          have c6b0 : decide (97 ≤ (bt a0 0)) = false := decide_eq_false c6
          clear c6
          obtain rfl := Option.some.inj H
          have p5 : 0 ≤ (0 : Int) := (by omega)
          have q5 : 0 < a0.size := (by have : (0 : Int) < (a0.size : Int) := of_decide_eq_true Da; omega)
          have hx5 : ∀ h : 0 < a0.size, ((a0[0]'h).toNat : Int) = bt a0 0 := bt_at a0 0
          clear p5
          have qi5 : (0 < (a0.size : Int)) = True := eq_true (of_decide_eq_true Da)
          replace q5 := eq_true q5
          go_enter Tryz.func85, Tryz.ntmps85
          go_wp2
          go_ret
          exact ⟨Rf, By⟩
      · rw [if_neg c4] at H
        exact absurd H (by simp)
    · rw [if_neg c3] at H
      have c3b0 : decide ((a0.size : Int) ≤ 20) = false := decide_eq_false c3
      have c3b1 : decide (a0.size ≤ 20) = false := decide_eq_false (by omega)
      clear c3
      obtain rfl := Option.some.inj H
      go_enter Tryz.func85, Tryz.ntmps85
      go_wp2
      go_ret
      exact ⟨Rf, By⟩
  · rw [if_neg c2] at H
    have c2b0 : decide (1 ≤ (a0.size : Int)) = false := decide_eq_false c2
    have c2b1 : decide (1 ≤ a0.size) = false := decide_eq_false (by omega)
    clear c2
    obtain rfl := Option.some.inj H
    go_enter Tryz.func85, Tryz.ntmps85
    go_wp2
    go_ret
    exact ⟨Rf, By⟩

set_option linter.unusedVariables false
set_option linter.unusedSimpArgs false

/-! ### impl_isPart: function 106 -/
def impl_isPart.j0 : Nat → Bool → Int → ByteArray → Int → Option (Bool)
  | 0, _, _, _, _ => none
  | k + 1, x3, x288000, x288001, x288002 => if x3 = true then (some false) else (if x288000 = 1 then (if (x288001.size : Int) ≤ 40 then ((impl_isPrintable.f k x288001).bind fun t291 => (some t291)) else (some false)) else (if x288000 = 2 then ((impl_NameRight.f x288001).bind fun t292 => (some t292)) else (some (x288001.toList == ([] : List UInt8)))))
def impl_isPart.f (k : Nat) (a0_0 : Int) (a0_1 : ByteArray) (a0_2 : Int) : Option (Bool) := (impl_operands.f k a0_0).bind fun t288 => (if t288 < 0 then (impl_isPart.j0 k (decide (t288 < 0)) a0_0 a0_1 a0_2) else (if a0_0 = 7 then ((impl_between.f a0_2 0 40).bind fun t289 => (impl_isPart.j0 k (!t289) a0_0 a0_1 a0_2)) else (if a0_2 = 0 then ((impl_between.f a0_2 0 40).bind fun t290 => (impl_isPart.j0 k (!t290) a0_0 a0_1 a0_2)) else (impl_isPart.j0 k (a0_2 != 0) a0_0 a0_1 a0_2))))
theorem impl_isPart.mono_l : ∀ k, (∀ y0 y1 y2 y3, LeO (impl_isPart.j0 k y0 y1 y2 y3) (impl_isPart.j0 (k + 1) y0 y1 y2 y3))
  | 0 => fun _ _ _ _ r h => by simp [impl_isPart.j0] at h
  | k + 1 => by
    have ih0 := impl_isPart.mono_l k
    · intro y0 y1 y2 y3
      unfold impl_isPart.j0
      repeat' first
      | (with_reducible exact ih0 _ _ _ _)
      | (with_reducible exact impl_isPrintable.mono _ _)
      | (with_reducible exact impl_operands.mono _ _)
      | (with_reducible exact LeO.refl _)
      | (with_reducible exact LeO.none _)
      | (with_reducible refine LeO.ite ?_ ?_)
      | (with_reducible refine LeO.bind ?_ (fun _ => ?_))
      | exact ih0 _ _ _ _
      | exact impl_isPrintable.mono _ _
      | exact impl_operands.mono _ _
      | exact LeO.none _
      | refine LeO.ite ?_ ?_
      | refine LeO.bind ?_ (fun _ => ?_)
theorem impl_isPart.mono : ∀ a0 a1 a2 k, LeO (impl_isPart.f k a0 a1 a2) (impl_isPart.f (k + 1) a0 a1 a2) := by
  intro a0 a1 a2 k
  have ih0 := impl_isPart.mono_l k
  unfold impl_isPart.f
  repeat' first
      | (with_reducible exact ih0 _ _ _ _)
      | (with_reducible exact impl_isPrintable.mono _ _)
      | (with_reducible exact impl_operands.mono _ _)
      | (with_reducible exact LeO.refl _)
      | (with_reducible exact LeO.none _)
      | (with_reducible refine LeO.ite ?_ ?_)
      | (with_reducible refine LeO.bind ?_ (fun _ => ?_))
      | exact ih0 _ _ _ _
      | exact impl_isPrintable.mono _ _
      | exact impl_operands.mono _ _
      | exact LeO.none _
      | refine LeO.ite ?_ ?_
      | refine LeO.bind ?_ (fun _ => ?_)
set_option maxHeartbeats 8000000 in
set_option maxRecDepth 100000 in
theorem impl_isPart.calls (k : Nat) (a0_0 : Int) (a0_1 : ByteArray) (a0_2 : Int) (r : Bool) (w : World) (h : impl_isPart.f k a0_0 a0_1 a0_2 = some r) :
    Calls Tryz.prog 106 #[.agg #[.int .i64 a0_0, .string a0_1, .int .i64 a0_2]] w fun e w' => e = .returned (.bool r) ∧ Below w.heap.size w w' := by
  have hu70 := Tryz.underlying70
  have HB := Aside0.mk (Below.refl w.heap.size w)
  have H : ((impl_operands.f k a0_0).bind fun t288 => (if t288 < 0 then (impl_isPart.j0 k (decide (t288 < 0)) a0_0 a0_1 a0_2) else (if a0_0 = 7 then ((impl_between.f a0_2 0 40).bind fun t289 => (impl_isPart.j0 k (!t289) a0_0 a0_1 a0_2)) else (if a0_2 = 0 then ((impl_between.f a0_2 0 40).bind fun t290 => (impl_isPart.j0 k (!t290) a0_0 a0_1 a0_2)) else (impl_isPart.j0 k (a0_2 != 0) a0_0 a0_1 a0_2))))) = some r := h
  clear h
  replace H := Option.bind_eq_some_iff.mp H
  obtain ⟨t288, A20, H⟩ := H
  replace H : (if t288 < 0 then (impl_isPart.j0 k (decide (t288 < 0)) a0_0 a0_1 a0_2) else (if a0_0 = 7 then ((impl_between.f a0_2 0 40).bind fun t289 => (impl_isPart.j0 k (!t289) a0_0 a0_1 a0_2)) else (if a0_2 = 0 then ((impl_between.f a0_2 0 40).bind fun t290 => (impl_isPart.j0 k (!t290) a0_0 a0_1 a0_2)) else (impl_isPart.j0 k (a0_2 != 0) a0_0 a0_1 a0_2)))) = some r := H
  have A2 := Aside0.mk A20
  clear A20
  have HC3 := Aside0.mk H
  clear H
  go_enter Tryz.func106, Tryz.ntmps106
  go_upto_if 3 with (first | ((with_reducible refine gate_dst (N := 1) rfl ?_); refine box_event ?hg (N := 1) ?hd (cs := #[.int .i64 a0_0, .string a0_1, .int .i64 a0_2]) (t := 70) ?hr ?_; (case hd => rfl); (case hg => rfl); (case hr => first | (go_simp; done) | (go_simp; rfl)); intro gb287 hg w4 hbox hb; have n0_ := Aside0.mk (below_step By hb); have n1_ := Aside0.mk (hbox); have n2_ := Aside0.mk ((by rw [hg]; exact (below_size By) : w.heap.size ≤ gb287)); have n3_ := Aside0.mk ((by rw [hg]; exact (below_size By) : w.heap.size ≤ gb287)); clear HB; have HB := n0_; have BK287 := n1_; have GW287 := n2_; have GE287 := n3_; clear n0_ n1_ n2_ n3_; clear hb hbox hg; have ⟨hcz5_0, hcz5_1, hcz5_2⟩ := cq3 BK287.out; have ⟨hfz5_0, hfz5_1, hfz5_2⟩ := fq3 BK287.out) | ((with_reducible refine gate_callee (f := 107) rfl ?_); refine goesL_ (some 6) rfl rfl Tryz.func107 (by kernel_rfl) rfl #[.int .i64 a0_0] rfl Ag ?_; (with_reducible refine (impl_operands.calls k a0_0 t288 _ A2.out).mono ?_); rintro e w' ⟨rfl, ⟨nd, rfl⟩⟩; refine ⟨_, rfl, ?_⟩))
  (try simp only [Act.put, List.setIfInBounds_toArray, List.set_cons_zero, List.set_cons_succ])
  go_cut [3] (fun v3 wc => ∃ (kq : Nat) (x3_2 : Bool), v3 = .bool x3_2 ∧ Aside0 (impl_isPart.j0 kq x3_2 a0_0 a0_1 a0_2 = some r) ∧ Aside0 (kq ≤ k) ∧ Aside0 (wc.heap[gb287]? = some (.cells #[.int .i64 a0_0, .string a0_1, .int .i64 a0_2] 70 (0, 0))) ∧ Aside0 (Below w.heap.size w wc))
  case first =>
    have H := HC3.out
    clear HC3
    by_cases c6 : t288 < 0
    · rw [if_pos c6] at H
      have c6b0 : decide (t288 < 0) = true := decide_eq_true c6
      clear c6
      (first | rw [c6b0] | (simp only [i64_w, i32_w]; rw [c6b0]) | skip)
      have H' := Aside0.mk H
      clear H
      go_wp2
      go_meet
      case rel => exact ⟨_, (decide (t288 < 0)), (by first | rfl | (simp; done) | (simp [*]; done)), H', ⟨by first | omega | exact Nat.le_refl _⟩, ⟨by (with_reducible repeat (first | refine blk_drewN ?_ _ | refine blk_drew ?_ | refine blk_alloc ?_ _)); exact BK287.out⟩, ⟨By⟩⟩
    · rw [if_neg c6] at H
      have c6b0 : decide (t288 < 0) = false := decide_eq_false c6
      clear c6
      (first | rw [c6b0] | (simp only [i64_w, i32_w]; rw [c6b0]) | skip)
      by_cases c7 : a0_0 = 7
      · rw [if_pos c7] at H
        have c7b0 : (a0_0 == 7) = true := beq_iff_eq.mpr c7
        have c7b1 : (a0_0 != 7) = false := bne_eq_false_iff_eq.mpr c7
        clear c7
        replace H := Option.bind_eq_some_iff.mp H
        obtain ⟨t289, A80, H⟩ := H
        replace H : (impl_isPart.j0 k (!t289) a0_0 a0_1 a0_2) = some r := H
        have A8 := Aside0.mk A80
        clear A80
        have H' := Aside0.mk H
        clear H
        have hcz9_0 : w4.cell? ⟨gb287, 0, none⟩ = some (.int .i64 a0_0) := bc BK287.out 0
        have hcz9_1 : w4.cell? ⟨gb287, 1, none⟩ = some (.string a0_1) := bc BK287.out 1
        have hcz9_2 : w4.cell? ⟨gb287, 2, none⟩ = some (.int .i64 a0_2) := bc BK287.out 2
        have hfz9_0 := blk_frozen BK287.out 0
        have hfz9_1 := blk_frozen BK287.out 1
        have hfz9_2 := blk_frozen BK287.out 2
        go_wp2_with (first | ((with_reducible refine gate_callee (f := 111) rfl ?_); refine goesL_ (some 18) rfl rfl Tryz.func111 (by kernel_rfl) rfl #[.int .i64 a0_2, .int .i64 0, .int .i64 40] rfl Ag ?_; (with_reducible refine (impl_between.calls a0_2 0 40 t289 _ A8.out).mono ?_); rintro e w' ⟨rfl, ⟨nd, rfl⟩⟩; refine ⟨_, rfl, ?_⟩))
        go_meet
        case rel => exact ⟨_, (!t289), (by first | rfl | (simp; done) | (simp [*]; done)), H', ⟨by first | omega | exact Nat.le_refl _⟩, ⟨by (with_reducible repeat (first | refine blk_drewN ?_ _ | refine blk_drew ?_ | refine blk_alloc ?_ _)); exact BK287.out⟩, ⟨By⟩⟩
      · rw [if_neg c7] at H
        have c7b0 : (a0_0 == 7) = false := beq_eq_false_iff_ne.mpr c7
        have c7b1 : (a0_0 != 7) = true := bne_iff_ne.mpr c7
        by_cases c10 : a0_2 = 0
        · rw [if_pos c10] at H
          have c10b0 : (a0_2 == 0) = true := beq_iff_eq.mpr c10
          have c10b1 : (a0_2 != 0) = false := bne_eq_false_iff_eq.mpr c10
          clear c10
          replace H := Option.bind_eq_some_iff.mp H
          obtain ⟨t290, A110, H⟩ := H
          replace H : (impl_isPart.j0 k (!t290) a0_0 a0_1 a0_2) = some r := H
          have A11 := Aside0.mk A110
          clear A110
          have H' := Aside0.mk H
          clear H
          have hcz12_0 : w4.cell? ⟨gb287, 0, none⟩ = some (.int .i64 a0_0) := bc BK287.out 0
          have hcz12_1 : w4.cell? ⟨gb287, 1, none⟩ = some (.string a0_1) := bc BK287.out 1
          have hcz12_2 : w4.cell? ⟨gb287, 2, none⟩ = some (.int .i64 a0_2) := bc BK287.out 2
          have hfz12_0 := blk_frozen BK287.out 0
          have hfz12_1 := blk_frozen BK287.out 1
          have hfz12_2 := blk_frozen BK287.out 2
          go_wp2_with (first | ((with_reducible refine gate_callee (f := 111) rfl ?_); refine goesL_ (some 18) rfl rfl Tryz.func111 (by kernel_rfl) rfl #[.int .i64 a0_2, .int .i64 0, .int .i64 40] rfl Ag ?_; (with_reducible refine (impl_between.calls a0_2 0 40 t290 _ A11.out).mono ?_); rintro e w' ⟨rfl, ⟨nd, rfl⟩⟩; refine ⟨_, rfl, ?_⟩))
          go_meet
          case rel => exact ⟨_, (!t290), (by first | rfl | (simp; done) | (simp [*]; done)), H', ⟨by first | omega | exact Nat.le_refl _⟩, ⟨by (with_reducible repeat (first | refine blk_drewN ?_ _ | refine blk_drew ?_ | refine blk_alloc ?_ _)); exact BK287.out⟩, ⟨By⟩⟩
        · rw [if_neg c10] at H
          have c10b0 : (a0_2 == 0) = false := beq_eq_false_iff_ne.mpr c10
          have c10b1 : (a0_2 != 0) = true := bne_iff_ne.mpr c10
          have H' := Aside0.mk H
          clear H
          have hcz13_0 : w4.cell? ⟨gb287, 0, none⟩ = some (.int .i64 a0_0) := bc BK287.out 0
          have hcz13_1 : w4.cell? ⟨gb287, 1, none⟩ = some (.string a0_1) := bc BK287.out 1
          have hcz13_2 : w4.cell? ⟨gb287, 2, none⟩ = some (.int .i64 a0_2) := bc BK287.out 2
          have hfz13_0 := blk_frozen BK287.out 0
          have hfz13_1 := blk_frozen BK287.out 1
          have hfz13_2 := blk_frozen BK287.out 2
          go_wp2
          go_meet
          case rel => exact ⟨_, ((a0_2 != 0)), (by first | rfl | (simp; done) | (simp [*]; done)), H', ⟨by first | omega | exact Nat.le_refl _⟩, ⟨by (with_reducible repeat (first | refine blk_drewN ?_ _ | refine blk_drew ?_ | refine blk_alloc ?_ _)); exact BK287.out⟩, ⟨By⟩⟩
  case rest =>
    clear HC3
    try clear c1
    try clear p2
    try clear c6
    try clear c6b0
    try clear c7
    try clear c7b0
    try clear c7b1
    try clear c10
    try clear c10b0
    try clear c10b1
    try clear c11
    try clear hcz12_0
    try clear hcz12_1
    try clear hcz12_2
    try clear hcz13_0
    try clear hcz13_1
    try clear hcz13_2
    try clear hcz5_0
    try clear hcz5_1
    try clear hcz5_2
    try clear hcz9_0
    try clear hcz9_1
    try clear hcz9_2
    try clear hfz12_0
    try clear hfz12_1
    try clear hfz12_2
    try clear hfz13_0
    try clear hfz13_1
    try clear hfz13_2
    try clear hfz5_0
    try clear hfz5_1
    try clear hfz5_2
    try clear hfz9_0
    try clear hfz9_1
    try clear hfz9_2
    obtain ⟨kq, x3_2, rfl, HA, HJ2, BK287, HB⟩ := hcut
    cases kq with
    | zero => exact absurd HA.out (by simp [impl_isPart.j0])
    | succ kj2 =>
      have H := HA.out
      clear HA
      simp only [impl_isPart.j0] at H
      by_cases c14 : x3_2 = true
      · subst c14
        have H1 : (some false) = some r := by rw [if_pos rfl] at H; exact H
        clear H
        have H := H1
        clear H1
        obtain rfl := Option.some.inj H
        go_wp2
        go_ret
        exact ⟨Rf, By⟩
      · replace c14 := Bool.eq_false_iff.mpr c14
        subst c14
        have H1 : (if a0_0 = 1 then (if (a0_1.size : Int) ≤ 40 then ((impl_isPrintable.f kj2 a0_1).bind fun t291 => (some t291)) else (some false)) else (if a0_0 = 2 then ((impl_NameRight.f a0_1).bind fun t292 => (some t292)) else (some (a0_1.toList == ([] : List UInt8))))) = some r := by rw [if_neg (show ¬ (false = true) by decide)] at H; exact H
        clear H
        have H := H1
        clear H1
        by_cases c15 : a0_0 = 1
        · rw [if_pos c15] at H
          have c15b0 : (a0_0 == 1) = true := beq_iff_eq.mpr c15
          have c15b1 : (a0_0 != 1) = false := bne_eq_false_iff_eq.mpr c15
          clear c15
          by_cases c16 : (a0_1.size : Int) ≤ 40
          · rw [if_pos c16] at H
            have c16b0 : decide ((a0_1.size : Int) ≤ 40) = true := decide_eq_true c16
            have c16b1 : decide (a0_1.size ≤ 40) = true := decide_eq_true (by omega)
            clear c16
            replace H := Option.bind_eq_some_iff.mp H
            obtain ⟨t291, A170, H⟩ := H
            replace H : (some t291) = some r := H
            have A17 := Aside0.mk A170
            clear A170
            obtain rfl := Option.some.inj H
            have hcz18_0 : wc.cell? ⟨gb287, 0, none⟩ = some (.int .i64 a0_0) := bc BK287.out 0
            have hcz18_1 : wc.cell? ⟨gb287, 1, none⟩ = some (.string a0_1) := bc BK287.out 1
            have hcz18_2 : wc.cell? ⟨gb287, 2, none⟩ = some (.int .i64 a0_2) := bc BK287.out 2
            have hfz18_0 := blk_frozen BK287.out 0
            have hfz18_1 := blk_frozen BK287.out 1
            have hfz18_2 := blk_frozen BK287.out 2
            go_wp2_with (first | (go_at_call 137; (with_reducible refine (impl_isPrintable.calls kj2 a0_1 t291 _ A17.out).mono ?_); rintro e w' ⟨rfl, ⟨nd, rfl⟩⟩))
            go_ret
            exact ⟨Rf, By⟩
          · rw [if_neg c16] at H
            have c16b0 : decide ((a0_1.size : Int) ≤ 40) = false := decide_eq_false c16
            have c16b1 : decide (a0_1.size ≤ 40) = false := decide_eq_false (by omega)
            clear c16
            obtain rfl := Option.some.inj H
            have hcz19_0 : wc.cell? ⟨gb287, 0, none⟩ = some (.int .i64 a0_0) := bc BK287.out 0
            have hcz19_1 : wc.cell? ⟨gb287, 1, none⟩ = some (.string a0_1) := bc BK287.out 1
            have hcz19_2 : wc.cell? ⟨gb287, 2, none⟩ = some (.int .i64 a0_2) := bc BK287.out 2
            have hfz19_0 := blk_frozen BK287.out 0
            have hfz19_1 := blk_frozen BK287.out 1
            have hfz19_2 := blk_frozen BK287.out 2
            go_wp2
            go_ret
            exact ⟨Rf, By⟩
        · rw [if_neg c15] at H
          have c15b0 : (a0_0 == 1) = false := beq_eq_false_iff_ne.mpr c15
          have c15b1 : (a0_0 != 1) = true := bne_iff_ne.mpr c15
          by_cases c20 : a0_0 = 2
          · rw [if_pos c20] at H
            have c20b0 : (a0_0 == 2) = true := beq_iff_eq.mpr c20
            have c20b1 : (a0_0 != 2) = false := bne_eq_false_iff_eq.mpr c20
            clear c20
            replace H := Option.bind_eq_some_iff.mp H
            obtain ⟨t292, A210, H⟩ := H
            replace H : (some t292) = some r := H
            have A21 := Aside0.mk A210
            clear A210
            obtain rfl := Option.some.inj H
            have hcz22_0 : wc.cell? ⟨gb287, 0, none⟩ = some (.int .i64 a0_0) := bc BK287.out 0
            have hcz22_1 : wc.cell? ⟨gb287, 1, none⟩ = some (.string a0_1) := bc BK287.out 1
            have hcz22_2 : wc.cell? ⟨gb287, 2, none⟩ = some (.int .i64 a0_2) := bc BK287.out 2
            have hfz22_0 := blk_frozen BK287.out 0
            have hfz22_1 := blk_frozen BK287.out 1
            have hfz22_2 := blk_frozen BK287.out 2
            go_wp2_with (first | ((with_reducible refine gate_callee (f := 85) rfl ?_); refine goesL_ (some 39) rfl rfl Tryz.func85 (by kernel_rfl) rfl #[.string a0_1] rfl Ag ?_; (with_reducible refine (impl_NameRight.calls a0_1 t292 _ A21.out).mono ?_); rintro e w23 ⟨rfl, hb⟩; refine ⟨_, rfl, ?_⟩; have n0_ := Aside0.mk (bb BK287.out hb); have n1_ := Aside0.mk (below_step By hb); clear BK287; clear HB; have BK287 := n0_; have HB := n1_; clear n0_ n1_; (try clear hb); (try clear hb2); (try clear hk); (try clear hi)))
            go_ret
            exact ⟨Rf, By⟩
          · rw [if_neg c20] at H
            have c20b0 : (a0_0 == 2) = false := beq_eq_false_iff_ne.mpr c20
            have c20b1 : (a0_0 != 2) = true := bne_iff_ne.mpr c20
            obtain rfl := Option.some.inj H
            have hcz24_0 : wc.cell? ⟨gb287, 0, none⟩ = some (.int .i64 a0_0) := bc BK287.out 0
            have hcz24_1 : wc.cell? ⟨gb287, 1, none⟩ = some (.string a0_1) := bc BK287.out 1
            have hcz24_2 : wc.cell? ⟨gb287, 2, none⟩ = some (.int .i64 a0_2) := bc BK287.out 2
            have hfz24_0 := blk_frozen BK287.out 0
            have hfz24_1 := blk_frozen BK287.out 1
            have hfz24_2 := blk_frozen BK287.out 2
            go_wp2
            go_ret
            exact ⟨Rf, By⟩

set_option linter.unusedVariables false
set_option linter.unusedSimpArgs false

/-! ### impl_exprDepth: function 71 -/
mutual
def impl_exprDepth.j0 : Nat → List (S70) → Bool → Option (Int × Int)
  | 0, _, _ => none
  | k + 1, x0, x17 => if x17 = true then (some (0, 0)) else (if 0 < (x0.length : Int) then ((impl_operands.f k ((rd_T70 x0 0).f0)).bind fun t296 => (impl_exprDepth.l0 k x0 1 0 t296 0)) else (none))
def impl_exprDepth.l0 : Nat → List (S70) → Int → Int → Int → Int → Option (Int × Int)
  | 0, _, _, _, _, _ => none
  | k + 1, x0, x4, x5, x22, x23 => if x23 < x22 then (if 0 ≤ x4 then (if x4 ≤ (x0.length : Int) then ((impl_exprDepth.f k (x0.drop (x4 : Int).toNat)).bind fun bt301 => (if bt301.1 = 0 then (some (0, 0)) else (impl_exprDepth.l0 k x0 (wrap64 (x4 + bt301.1)) (mx x5 bt301.2) x22 (wrap64 (x23 + 1))))) else (none)) else (none)) else (some (x4, wrap64 (x5 + 1)))
def impl_exprDepth.f : Nat → List (S70) → Option (Int × Int)
  | 0, _ => none
  | k + 1, l0 => if (l0.length : Int) = 0 then (impl_exprDepth.j0 k l0 true) else (if 0 < (l0.length : Int) then ((impl_isPart.f k ((rd_T70 l0 0).f0) ((rd_T70 l0 0).f1) ((rd_T70 l0 0).f2)).bind fun t294 => (impl_exprDepth.j0 k l0 (!t294))) else (none))
end
theorem impl_exprDepth.mono_l : ∀ k, (∀ y0, LeO (impl_exprDepth.f k y0) (impl_exprDepth.f (k + 1) y0)) ∧ (∀ y0 y1, LeO (impl_exprDepth.j0 k y0 y1) (impl_exprDepth.j0 (k + 1) y0 y1)) ∧ (∀ y0 y1 y2 y3 y4, LeO (impl_exprDepth.l0 k y0 y1 y2 y3 y4) (impl_exprDepth.l0 (k + 1) y0 y1 y2 y3 y4))
  | 0 => ⟨fun _ r h => by simp [impl_exprDepth.f] at h, fun _ _ r h => by simp [impl_exprDepth.j0] at h, fun _ _ _ _ _ r h => by simp [impl_exprDepth.l0] at h⟩
  | k + 1 => by
    obtain ⟨ih0, ih1, ih2⟩ := impl_exprDepth.mono_l k
    refine ⟨?_, ?_, ?_⟩
    · intro y0
      unfold impl_exprDepth.f
      repeat' first
      | (with_reducible exact ih0 _)
      | (with_reducible exact ih1 _ _)
      | (with_reducible exact ih2 _ _ _ _ _)
      | (with_reducible exact impl_isPart.mono _ _ _ _)
      | (with_reducible exact impl_operands.mono _ _)
      | (with_reducible exact LeO.refl _)
      | (with_reducible exact LeO.none _)
      | (with_reducible refine LeO.ite ?_ ?_)
      | (with_reducible refine LeO.bind ?_ (fun _ => ?_))
      | exact ih0 _
      | exact ih1 _ _
      | exact ih2 _ _ _ _ _
      | exact impl_isPart.mono _ _ _ _
      | exact impl_operands.mono _ _
      | exact LeO.none _
      | refine LeO.ite ?_ ?_
      | refine LeO.bind ?_ (fun _ => ?_)
    · intro y0 y1
      unfold impl_exprDepth.j0
      repeat' first
      | (with_reducible exact ih0 _)
      | (with_reducible exact ih1 _ _)
      | (with_reducible exact ih2 _ _ _ _ _)
      | (with_reducible exact impl_isPart.mono _ _ _ _)
      | (with_reducible exact impl_operands.mono _ _)
      | (with_reducible exact LeO.refl _)
      | (with_reducible exact LeO.none _)
      | (with_reducible refine LeO.ite ?_ ?_)
      | (with_reducible refine LeO.bind ?_ (fun _ => ?_))
      | exact ih0 _
      | exact ih1 _ _
      | exact ih2 _ _ _ _ _
      | exact impl_isPart.mono _ _ _ _
      | exact impl_operands.mono _ _
      | exact LeO.none _
      | refine LeO.ite ?_ ?_
      | refine LeO.bind ?_ (fun _ => ?_)
    · intro y0 y1 y2 y3 y4
      unfold impl_exprDepth.l0
      repeat' first
      | (with_reducible exact ih0 _)
      | (with_reducible exact ih1 _ _)
      | (with_reducible exact ih2 _ _ _ _ _)
      | (with_reducible exact impl_isPart.mono _ _ _ _)
      | (with_reducible exact impl_operands.mono _ _)
      | (with_reducible exact LeO.refl _)
      | (with_reducible exact LeO.none _)
      | (with_reducible refine LeO.ite ?_ ?_)
      | (with_reducible refine LeO.bind ?_ (fun _ => ?_))
      | exact ih0 _
      | exact ih1 _ _
      | exact ih2 _ _ _ _ _
      | exact impl_isPart.mono _ _ _ _
      | exact impl_operands.mono _ _
      | exact LeO.none _
      | refine LeO.ite ?_ ?_
      | refine LeO.bind ?_ (fun _ => ?_)
theorem impl_exprDepth.mono : ∀ a0 k, LeO (impl_exprDepth.f k a0) (impl_exprDepth.f (k + 1) a0) := by
  intro a0 k
  obtain ⟨ih0, ih1, ih2⟩ := impl_exprDepth.mono_l k
  exact ih0 a0
set_option maxHeartbeats 8000000 in
set_option maxRecDepth 100000 in
theorem impl_exprDepth.calls (k : Nat) : ∀ (A0 : Option Addr) (c0 : Nat) (l0 : List (S70)) (r1 : Int) (r2 : Int) (w : World) (hr0 : Kd.C k70 w A0 l0.length l0) (hc0 : l0.length ≤ c0) (h : impl_exprDepth.f k l0 = some (r1, r2)),
    Calls Tryz.prog 71 #[.slice A0 l0.length c0] w fun e w' => e = .returned (.tuple #[.int .i64 r1, .int .i64 r2]) ∧ Below w.heap.size w w' := by
  induction k using Nat.strongRecOn with
  | _ k ih =>
  intro A0 c0 l0 r1 r2 w hr0 hc0 h
  cases k with
  | zero => exact absurd h (by simp [impl_exprDepth.f])
  | succ k =>
  simp only [impl_exprDepth.f] at h
  have hu70 := Tryz.underlying70
  have HR0 := Aside0.mk hr0
  have HC0 := Aside0.mk hc0
  clear hr0 hc0
  have HB := Aside0.mk (Below.refl w.heap.size w)
  have H : (if (l0.length : Int) = 0 then (impl_exprDepth.j0 k l0 true) else (if 0 < (l0.length : Int) then ((impl_isPart.f k ((rd_T70 l0 0).f0) ((rd_T70 l0 0).f1) ((rd_T70 l0 0).f2)).bind fun t294 => (impl_exprDepth.j0 k l0 (!t294))) else (none))) = some (r1, r2) := h
  clear h
  have HC2 := Aside0.mk H
  clear H
  go_enter Tryz.func71, Tryz.ntmps71
  go_upto_region 1 with (fail)
  go_cut [17] (fun v17 wc => ∃ (kq : Nat) (x17_1 : Bool), v17 = .bool x17_1 ∧ Aside0 (impl_exprDepth.j0 kq l0 x17_1 = some (r1, r2)) ∧ Aside0 (kq ≤ k) ∧ Aside0 (Below w.heap.size w wc))
  case first =>
    have H := HC2.out
    clear HC2
    by_cases c3 : (l0.length : Int) = 0
    · rw [if_pos c3] at H
      have c3b0 : ((l0.length : Int) == 0) = true := beq_iff_eq.mpr c3
      have c3b1 : ((l0.length : Int) != 0) = false := bne_eq_false_iff_eq.mpr c3
      clear c3
      (first | rw [c3b0] | (simp only [i64_w, i32_w]; rw [c3b0]) | skip)
      have H' := Aside0.mk H
      clear H
      go_wp2
      go_meet
      case rel => exact ⟨_, (true), (by first | rfl | (simp; done) | (simp [*]; done)), H', ⟨by first | omega | exact Nat.le_refl _⟩, ⟨By⟩⟩
    · rw [if_neg c3] at H
      have c3b0 : ((l0.length : Int) == 0) = false := beq_eq_false_iff_ne.mpr c3
      have c3b1 : ((l0.length : Int) != 0) = true := bne_iff_ne.mpr c3
      have c3b2 : ¬ (l0 = []) := fun h_ => c3 (by rw [h_]; rfl)
      (first | rw [c3b0] | (simp only [i64_w, i32_w]; rw [c3b0]) | skip)
      by_cases c4 : 0 < (l0.length : Int)
      · rw [if_pos c4] at H
        have c4b0 : decide (0 < (l0.length : Int)) = true := decide_eq_true c4
        have c4b1 : decide (0 < l0.length) = true := decide_eq_true (by omega)
        clear c4
        replace H := Option.bind_eq_some_iff.mp H
        obtain ⟨t294, A50, H⟩ := H
        replace H : (impl_exprDepth.j0 k l0 (!t294)) = some (r1, r2) := H
        have A5 := Aside0.mk A50
        clear A50
        have H' := Aside0.mk H
        clear H
        have p293 : 0 ≤ (0 : Int) := (by omega)
        have q293 : 0 < (l0.length : Int) := of_decide_eq_true Da
        obtain ⟨ad293, e293, hx293_0, hx293_1, hx293_2⟩ := at_T70 HR0.out 0 p293 q293
        cases e293
        have qi293 : (0 < l0.length) = True := eq_true (by omega)
        (try rw [show ((0 : Int)).toNat = 0 from rfl] at hx293_0)
        (try rw [show 0 * 3 = 0 from rfl] at hx293_0)
        (try rw [Addr.add_zero'] at hx293_0)
        (try rw [show ((0 : Int)).toNat = 0 from rfl] at hx293_1)
        (try rw [show 0 * 3 = 0 from rfl] at hx293_1)
        (try rw [Addr.add_zero'] at hx293_1)
        (try rw [show ((0 : Int)).toNat = 0 from rfl] at hx293_2)
        (try rw [show 0 * 3 = 0 from rfl] at hx293_2)
        (try rw [Addr.add_zero'] at hx293_2)
        replace hx293_0 := bz HB.out hx293_0
        replace hx293_1 := bz HB.out hx293_1
        replace hx293_2 := bz HB.out hx293_2
        replace p293 := eq_true p293
        replace q293 := eq_true q293
        go_wp2_with (first | (go_at_call 106; (with_reducible refine (impl_isPart.calls k ((rd_T70 l0 0).f0) ((rd_T70 l0 0).f1) ((rd_T70 l0 0).f2) t294 _ A5.out).mono ?_); rintro e w6 ⟨rfl, hb⟩; have n0_ := Aside0.mk (below_step By hb); clear HB; have HB := n0_; clear n0_; (try clear hb); (try clear hb2); (try clear hk); (try clear hi)))
        go_meet
        case rel => exact ⟨_, (!t294), (by first | rfl | (simp; done) | (simp [*]; done)), H', ⟨by first | omega | exact Nat.le_refl _⟩, ⟨By⟩⟩
      · rw [if_neg c4] at H
        exact absurd H (by simp)
  case rest =>
    clear HC2
    try clear p2
    try clear q2
    try clear hx2
    try clear qi2
    try clear c3
    try clear c3b0
    try clear c3b1
    try clear c3b2
    try clear c4
    try clear c4b0
    try clear c4b1
    try clear hx293_0
    try clear hx293_1
    try clear hx293_2
    try clear p293
    try clear q293
    obtain ⟨kq, x17_1, rfl, HA, HJ1, HB⟩ := hcut
    cases kq with
    | zero => exact absurd HA.out (by simp [impl_exprDepth.j0])
    | succ kj1 =>
      have H := HA.out
      clear HA
      simp only [impl_exprDepth.j0] at H
      by_cases c7 : x17_1 = true
      · subst c7
        have H1 : (some (0, 0)) = some (r1, r2) := by rw [if_pos rfl] at H; exact H
        clear H
        have H := H1
        clear H1
        simp only [Option.some.injEq, Prod.mk.injEq] at H
        obtain ⟨rfl, rfl⟩ := H
        go_wp2
        go_ret2
        exact ⟨Rf, By⟩
      · replace c7 := Bool.eq_false_iff.mpr c7
        subst c7
        have H1 : (if 0 < (l0.length : Int) then ((impl_operands.f kj1 ((rd_T70 l0 0).f0)).bind fun t296 => (impl_exprDepth.l0 kj1 l0 1 0 t296 0)) else (none)) = some (r1, r2) := by rw [if_neg (show ¬ (false = true) by decide)] at H; exact H
        clear H
        have H := H1
        clear H1
        by_cases c8 : 0 < (l0.length : Int)
        · rw [if_pos c8] at H
          have c8b0 : decide (0 < (l0.length : Int)) = true := decide_eq_true c8
          have c8b1 : decide (0 < l0.length) = true := decide_eq_true (by omega)
          clear c8
          replace H := Option.bind_eq_some_iff.mp H
          obtain ⟨t296, A90, H⟩ := H
          replace H : (impl_exprDepth.l0 kj1 l0 1 0 t296 0) = some (r1, r2) := H
          have A9 := Aside0.mk A90
          clear A90
          have H' := Aside0.mk H
          clear H
          have p295 : 0 ≤ (0 : Int) := (by omega)
          have q295 : 0 < (l0.length : Int) := of_decide_eq_true Da
          obtain ⟨ad295, e295, hx295_0, hx295_1, hx295_2⟩ := at_T70 HR0.out 0 p295 q295
          cases e295
          have qi295 : (0 < l0.length) = True := eq_true (by omega)
          (try rw [show ((0 : Int)).toNat = 0 from rfl] at hx295_0)
          (try rw [show 0 * 3 = 0 from rfl] at hx295_0)
          (try rw [Addr.add_zero'] at hx295_0)
          (try rw [show ((0 : Int)).toNat = 0 from rfl] at hx295_1)
          (try rw [show 0 * 3 = 0 from rfl] at hx295_1)
          (try rw [Addr.add_zero'] at hx295_1)
          (try rw [show ((0 : Int)).toNat = 0 from rfl] at hx295_2)
          (try rw [show 0 * 3 = 0 from rfl] at hx295_2)
          (try rw [Addr.add_zero'] at hx295_2)
          replace hx295_0 := bz HB.out hx295_0
          replace hx295_1 := bz HB.out hx295_1
          replace hx295_2 := bz HB.out hx295_2
          replace p295 := eq_true p295
          replace q295 := eq_true q295
          go_wp2_with (first | ((with_reducible refine gate_callee (f := 107) rfl ?_); refine goesL_ (some 22) rfl rfl Tryz.func107 (by kernel_rfl) rfl #[.int .i64 ((rd_T70 l0 0).f0)] rfl Ag ?_; (with_reducible refine (impl_operands.calls kj1 ((rd_T70 l0 0).f0) t296 _ A9.out).mono ?_); rintro e w' ⟨rfl, ⟨nd, rfl⟩⟩; refine ⟨_, rfl, ?_⟩))
          go_loopg [4, 5, 23] kj1 (fun kq v4 v5 v23 w' => ∃ (x4_2 : Int) (x5_2 : Int) (x23_2 : Int), v4 = .int .i64 x4_2 ∧ v5 = .int .i64 x5_2 ∧ v23 = .int .i64 x23_2 ∧ Aside0 (impl_exprDepth.l0 kq l0 x4_2 x5_2 t296 x23_2 = some (r1, r2)) ∧ Aside0 (kq ≤ kj1) ∧ Aside0 (Below w.heap.size w w'))
          case atStart => exact ⟨(1), (0), (0), (by first | rfl | (simp; done) | (simp [*]; done)), (by first | rfl | (simp; done) | (simp [*]; done)), (by first | rfl | (simp; done) | (simp [*]; done)), H', ⟨Nat.le_refl _⟩, ⟨By⟩⟩
          case round =>
            clear H'
            try clear c1
            try clear p2
            try clear q2
            try clear hx2
            try clear qi2
            try clear c3
            try clear c3b0
            try clear c3b1
            try clear c3b2
            try clear c4
            try clear c4b0
            try clear c4b1
            try clear c7
            try clear c8
            try clear c8b0
            try clear c8b1
            try clear hx293_0
            try clear hx293_1
            try clear hx293_2
            try clear hx295_0
            try clear hx295_1
            try clear hx295_2
            try clear p2
            try clear p293
            try clear p295
            try clear q2
            try clear q293
            try clear q295
            obtain ⟨x4_2, x5_2, x23_2, rfl, rfl, rfl, HA, HK2, HB⟩ := hrel
            cases gk with
            | zero => exact absurd HA.out (by simp [impl_exprDepth.l0])
            | succ k2 =>
              have H := HA.out
              clear HA
              simp only [impl_exprDepth.l0] at H
              by_cases c10 : x23_2 < t296
              · rw [if_pos c10] at H
                have c10b0 : decide (x23_2 < t296) = true := decide_eq_true c10
                clear c10
                by_cases c11 : 0 ≤ x4_2
                · rw [if_pos c11] at H
                  have c11b0 := eq_true c11
                  have c11b1 : decide (0 ≤ x4_2) = true := decide_eq_true c11
                  clear c11
                  by_cases c12 : x4_2 ≤ (l0.length : Int)
                  · rw [if_pos c12] at H
                    have c12b0 := eq_true c12
                    have c12b1 : decide (x4_2 ≤ (l0.length : Int)) = true := decide_eq_true c12
                    clear c12
                    obtain ⟨y297, hy297⟩ : ∃ y_ : List (S70), y_ = (l0.drop (x4_2 : Int).toNat) := ⟨_, rfl⟩
                    replace H : ((impl_exprDepth.f k2 y297).bind fun bt301 => (if bt301.1 = 0 then (some (0, 0)) else (impl_exprDepth.l0 k2 l0 (wrap64 (x4_2 + bt301.1)) (mx x5_2 bt301.2) t296 (wrap64 (x23_2 + 1))))) = some (r1, r2) := by first | (rw [hy297]; with_reducible exact H) | (have H2_ := (Option.bind_some _ _).symm.trans H; rw [hy297]; with_reducible exact H2_) | (have H2_ := (Option.bind_some _ _).symm.trans H; with_reducible exact H2_) | with_reducible exact H | (rw [hy297]; exact H) | exact H
                    have Ny297 := Aside0.mk hy297
                    clear hy297
                    replace H := Option.bind_eq_some_iff.mp H
                    obtain ⟨⟨t301, t302⟩, A130, H⟩ := H
                    replace H : (if t301 = 0 then (some (0, 0)) else (impl_exprDepth.l0 k2 l0 (wrap64 (x4_2 + t301)) (mx x5_2 t302) t296 (wrap64 (x23_2 + 1)))) = some (r1, r2) := H
                    have A13 := Aside0.mk A130
                    clear A130
                    by_cases c14 : t301 = 0
                    · rw [if_pos c14] at H
                      have c14b0 : (t301 == 0) = true := beq_iff_eq.mpr c14
                      have c14b1 : (t301 != 0) = false := bne_eq_false_iff_eq.mpr c14
                      clear c14
                      simp only [Option.some.injEq, Prod.mk.injEq] at H
                      obtain ⟨rfl, rfl⟩ := H
                      have q15 : (x4_2 : Int) ≤ ((l0.length : Int) : Int) := of_decide_eq_true Da
                      obtain ⟨i015, hi015, _, hsz15, _⟩ := info_parts info70
                      have hroom15 : l0.length ≤ c0 := HC0.out
                      have hC15 : Kd.C k70 _ (some ad295) l0.length l0 := HR0.out
                      have q015 : (0 : Int) ≤ (x4_2 : Int) := of_decide_eq_true Da
                      have hcut15 := cut_from (P := Tryz.prog) 32 70 .i64 Tryz.underlying32 hi015 3 hsz15 (some ad295) l0.length c0 x4_2 q015 q15
                      have hr15 := Kd.C_drop (m := (x4_2 : Int).toNat) (c := c0) hC15 (by omega) hroom15
                      obtain ⟨A15, hA15⟩ : ∃ A1, A1 = (if c0 = (x4_2 : Int).toNat then (some ad295) else ((some ad295) : Option Addr).map (·.add ((x4_2 : Int).toNat * 3))) := ⟨_, rfl⟩
                      obtain ⟨c15, hc15⟩ : ∃ c1, c1 = c0 - (x4_2 : Int).toNat := ⟨_, rfl⟩
                      have hy15 : y297.length = l0.length - (x4_2 : Int).toNat := (by rw [Ny297.out, List.length_drop] <;> omega)
                      rw [show (l0).drop (x4_2 : Int).toNat = y297 from Ny297.out.symm] at hr15
                      replace hr15 : Kd.C k70 _ A15 y297.length y297 := (by rw [hA15]; exact hr15)
                      rw [← hy15, ← hA15, ← hc15] at hcut15
                      have HR300 := Aside0.mk hr15
                      have HC300 := Aside0.mk (show y297.length ≤ c15 from by rw [hy15, hc15]; exact Nat.sub_le_sub_right hroom15 _)
                      clear hr15 hC15 hroom15 hi015 hsz15 hc15
                      have KY15 := Aside0.mk hy15
                      have KA15 := Aside0.mk hA15
                      clear hy15 hA15
                      replace q15 := eq_true q15
                      go_wp2_with (first | ((with_reducible refine gate_callee (f := 71) rfl ?_); refine goesL_ (some 29) rfl rfl Tryz.func71 (by kernel_rfl) rfl #[.slice A15 y297.length c15] rfl Ag ?_; (with_reducible refine (ih k2 (by have := HJ1.out; have := HK2.out; omega) _ _ y297 t301 t302 _ ?side1 ?side2 A13.out).mono ?_); (case side1 => exact rC (Kd.C_below HR300.out HB.out)); (case side2 => exact HC300.out); rintro e w16 ⟨rfl, hb⟩; refine ⟨_, rfl, ?_⟩; have n0_ := Aside0.mk (below_step By hb); clear HB; have HB := n0_; clear n0_; (try clear hb); (try clear hb2); (try clear hk); (try clear hi)))
                      go_ret2
                      exact ⟨Rf, By⟩
                    · rw [if_neg c14] at H
                      have c14b0 : (t301 == 0) = false := beq_eq_false_iff_ne.mpr c14
                      have c14b1 : (t301 != 0) = true := bne_iff_ne.mpr c14
                      obtain ⟨ji17, hji17⟩ : ∃ j_ : Int, (mx x5_2 t302) = j_ := ⟨_, rfl⟩
                      replace H : (impl_exprDepth.l0 k2 l0 (wrap64 (x4_2 + t301)) ji17 t296 (wrap64 (x23_2 + 1))) = some (r1, r2) := by first | (rw [hji17] at H; exact H) | (simp only [hji17] at H ⊢; exact H)
                      (try rw [hji17] at A13)
                      have hji17_ : (if x5_2 < t302 then t302 else x5_2) = ji17 := hji17
                      have H' := Aside0.mk H
                      clear H
                      have q18 : (x4_2 : Int) ≤ ((l0.length : Int) : Int) := of_decide_eq_true Da
                      obtain ⟨i018, hi018, _, hsz18, _⟩ := info_parts info70
                      have hroom18 : l0.length ≤ c0 := HC0.out
                      have hC18 : Kd.C k70 _ (some ad295) l0.length l0 := HR0.out
                      have q018 : (0 : Int) ≤ (x4_2 : Int) := of_decide_eq_true Da
                      have hcut18 := cut_from (P := Tryz.prog) 32 70 .i64 Tryz.underlying32 hi018 3 hsz18 (some ad295) l0.length c0 x4_2 q018 q18
                      have hr18 := Kd.C_drop (m := (x4_2 : Int).toNat) (c := c0) hC18 (by omega) hroom18
                      obtain ⟨A18, hA18⟩ : ∃ A1, A1 = (if c0 = (x4_2 : Int).toNat then (some ad295) else ((some ad295) : Option Addr).map (·.add ((x4_2 : Int).toNat * 3))) := ⟨_, rfl⟩
                      obtain ⟨c18, hc18⟩ : ∃ c1, c1 = c0 - (x4_2 : Int).toNat := ⟨_, rfl⟩
                      have hy18 : y297.length = l0.length - (x4_2 : Int).toNat := (by rw [Ny297.out, List.length_drop] <;> omega)
                      rw [show (l0).drop (x4_2 : Int).toNat = y297 from Ny297.out.symm] at hr18
                      replace hr18 : Kd.C k70 _ A18 y297.length y297 := (by rw [hA18]; exact hr18)
                      rw [← hy18, ← hA18, ← hc18] at hcut18
                      have HR300 := Aside0.mk hr18
                      have HC300 := Aside0.mk (show y297.length ≤ c18 from by rw [hy18, hc18]; exact Nat.sub_le_sub_right hroom18 _)
                      clear hr18 hC18 hroom18 hi018 hsz18 hc18
                      have KY18 := Aside0.mk hy18
                      have KA18 := Aside0.mk hA18
                      clear hy18 hA18
                      replace q18 := eq_true q18
                      go_wp2_with (first | ((with_reducible refine gate_callee (f := 71) rfl ?_); refine goesL_ (some 29) rfl rfl Tryz.func71 (by kernel_rfl) rfl #[.slice A18 y297.length c18] rfl Ag ?_; (with_reducible refine (ih k2 (by have := HJ1.out; have := HK2.out; omega) _ _ y297 t301 t302 _ ?side1 ?side2 A13.out).mono ?_); (case side1 => exact rC (Kd.C_below HR300.out HB.out)); (case side2 => exact HC300.out); rintro e w19 ⟨rfl, hb⟩; refine ⟨_, rfl, ?_⟩; have n0_ := Aside0.mk (below_step By hb); clear HB; have HB := n0_; clear n0_; (try clear hb); (try clear hb2); (try clear hk); (try clear hi)))
                      go_roundg k2
                      case measure => have := HJ1.out; have := HK2.out; omega
                      case rel => exact ⟨(wrap64 (x4_2 + t301)), (ji17), (wrap64 (x23_2 + 1)), (by first | rfl | (simp; done) | (simp [*]; done)), (by first | rfl | (simp; done) | (simp only [← hji17] <;> (first | rfl | simp)) | (simp [*]; done)), (by first | rfl | (simp; done) | (simp [*]; done)), H', ⟨by have := HJ1.out; have := HK2.out; omega⟩, ⟨By⟩⟩
                  · rw [if_neg c12] at H
                    exact absurd H (by simp)
                · rw [if_neg c11] at H
                  exact absurd H (by simp)
              · rw [if_neg c10] at H
                have c10b0 : decide (x23_2 < t296) = false := decide_eq_false c10
                clear c10
                simp only [Option.some.injEq, Prod.mk.injEq] at H
                obtain ⟨rfl, rfl⟩ := H
                go_wp2
                go_ret2
                exact ⟨Rf, By⟩
        · rw [if_neg c8] at H
          exact absurd H (by simp)

set_option linter.unusedVariables false
set_option linter.unusedSimpArgs false

/-! ### impl_ExprRight: function 38 -/
def impl_ExprRight.f (k : Nat) (l0 : List (S70)) : Option (Bool) := if (l0.length : Int) > 12 then (some false) else ((impl_exprDepth.f k l0).bind fun bt303 => (if bt303.1 > 0 then (if bt303.1 = (l0.length : Int) then (some (decide (bt303.2 ≤ 5))) else (some false)) else (some false)))
theorem impl_ExprRight.mono : ∀ a0 k, LeO (impl_ExprRight.f k a0) (impl_ExprRight.f (k + 1) a0) := by
  intro a0 k
  unfold impl_ExprRight.f
  repeat' first
      | (with_reducible exact impl_exprDepth.mono _ _)
      | (with_reducible exact LeO.refl _)
      | (with_reducible exact LeO.none _)
      | (with_reducible refine LeO.ite ?_ ?_)
      | (with_reducible refine LeO.bind ?_ (fun _ => ?_))
      | exact impl_exprDepth.mono _ _
      | exact LeO.none _
      | refine LeO.ite ?_ ?_
      | refine LeO.bind ?_ (fun _ => ?_)
set_option maxHeartbeats 8000000 in
set_option maxRecDepth 100000 in
theorem impl_ExprRight.calls (k : Nat) (A0 : Option Addr) (c0 : Nat) (l0 : List (S70)) (r : Bool) (w : World) (hr0 : Kd.C k70 w A0 l0.length l0) (hc0 : l0.length ≤ c0) (h : impl_ExprRight.f k l0 = some r) :
    Calls Tryz.prog 38 #[.slice A0 l0.length c0] w fun e w' => e = .returned (.bool r) ∧ Below w.heap.size w w' := by
  have HR0 := Aside0.mk hr0
  have HC0 := Aside0.mk hc0
  clear hr0 hc0
  have HB := Aside0.mk (Below.refl w.heap.size w)
  have H : (if (l0.length : Int) > 12 then (some false) else ((impl_exprDepth.f k l0).bind fun bt303 => (if bt303.1 > 0 then (if bt303.1 = (l0.length : Int) then (some (decide (bt303.2 ≤ 5))) else (some false)) else (some false)))) = some r := h
  clear h
  by_cases c2 : (l0.length : Int) > 12
  · rw [if_pos c2] at H
    have c2b0 : decide (12 < (l0.length : Int)) = true := decide_eq_true c2
    have c2b1 : decide (12 < l0.length) = true := decide_eq_true (by omega)
    clear c2
    obtain rfl := Option.some.inj H
    go_enter Tryz.func38, Tryz.ntmps38
    go_wp2
    go_ret
    exact ⟨Rf, By⟩
  · rw [if_neg c2] at H
    have c2b0 : decide (12 < (l0.length : Int)) = false := decide_eq_false c2
    have c2b1 : decide (12 < l0.length) = false := decide_eq_false (by omega)
    clear c2
    replace H := Option.bind_eq_some_iff.mp H
    obtain ⟨⟨t303, t304⟩, A30, H⟩ := H
    replace H : (if t303 > 0 then (if t303 = (l0.length : Int) then (some (decide (t304 ≤ 5))) else (some false)) else (some false)) = some r := H
    have A3 := Aside0.mk A30
    clear A30
    by_cases c4 : t303 > 0
    · rw [if_pos c4] at H
      have c4b0 : decide (0 < t303) = true := decide_eq_true c4
      clear c4
      by_cases c5 : t303 = (l0.length : Int)
      · rw [if_pos c5] at H
        have c5b0 : (t303 == (l0.length : Int)) = true := beq_iff_eq.mpr c5
        have c5b1 : (t303 != (l0.length : Int)) = false := bne_eq_false_iff_eq.mpr c5
        clear c5
        obtain rfl := Option.some.inj H
        go_enter Tryz.func38, Tryz.ntmps38
        go_wp2_with (first | ((with_reducible refine gate_callee (f := 71) rfl ?_); refine goesL_ (some 10) rfl rfl Tryz.func71 (by kernel_rfl) rfl #[.slice A0 l0.length c0] rfl Ag ?_; (with_reducible refine (impl_exprDepth.calls k _ _ l0 t303 t304 _ ?side1 ?side2 A3.out).mono ?_); (case side1 => repeat (first | exact HR0.out | (with_reducible refine Kd.C_alloc ?_ _) | (with_reducible refine Kd.C_drewN ?_ _) | (with_reducible refine Kd.C_drew ?_))); (case side2 => exact HC0.out); rintro e w6 ⟨rfl, hb⟩; refine ⟨_, rfl, ?_⟩; have n0_ := Aside0.mk (below_step By hb); clear HB; have HB := n0_; clear n0_; (try clear hb); (try clear hb2); (try clear hk); (try clear hi)))
        go_ret
        exact ⟨Rf, By⟩
      · rw [if_neg c5] at H
        have c5b0 : (t303 == (l0.length : Int)) = false := beq_eq_false_iff_ne.mpr c5
        have c5b1 : (t303 != (l0.length : Int)) = true := bne_iff_ne.mpr c5
        obtain rfl := Option.some.inj H
        go_enter Tryz.func38, Tryz.ntmps38
        go_wp2_with (first | ((with_reducible refine gate_callee (f := 71) rfl ?_); refine goesL_ (some 10) rfl rfl Tryz.func71 (by kernel_rfl) rfl #[.slice A0 l0.length c0] rfl Ag ?_; (with_reducible refine (impl_exprDepth.calls k _ _ l0 t303 t304 _ ?side1 ?side2 A3.out).mono ?_); (case side1 => repeat (first | exact HR0.out | (with_reducible refine Kd.C_alloc ?_ _) | (with_reducible refine Kd.C_drewN ?_ _) | (with_reducible refine Kd.C_drew ?_))); (case side2 => exact HC0.out); rintro e w7 ⟨rfl, hb⟩; refine ⟨_, rfl, ?_⟩; have n0_ := Aside0.mk (below_step By hb); clear HB; have HB := n0_; clear n0_; (try clear hb); (try clear hb2); (try clear hk); (try clear hi)))
        go_ret
        exact ⟨Rf, By⟩
    · rw [if_neg c4] at H
      have c4b0 : decide (0 < t303) = false := decide_eq_false c4
      clear c4
      obtain rfl := Option.some.inj H
      go_enter Tryz.func38, Tryz.ntmps38
      go_wp2_with (first | ((with_reducible refine gate_callee (f := 71) rfl ?_); refine goesL_ (some 10) rfl rfl Tryz.func71 (by kernel_rfl) rfl #[.slice A0 l0.length c0] rfl Ag ?_; (with_reducible refine (impl_exprDepth.calls k _ _ l0 t303 t304 _ ?side1 ?side2 A3.out).mono ?_); (case side1 => repeat (first | exact HR0.out | (with_reducible refine Kd.C_alloc ?_ _) | (with_reducible refine Kd.C_drewN ?_ _) | (with_reducible refine Kd.C_drew ?_))); (case side2 => exact HC0.out); rintro e w8 ⟨rfl, hb⟩; refine ⟨_, rfl, ?_⟩; have n0_ := Aside0.mk (below_step By hb); clear HB; have HB := n0_; clear n0_; (try clear hb); (try clear hb2); (try clear hk); (try clear hi)))
      go_ret
      exact ⟨Rf, By⟩

set_option linter.unusedVariables false
set_option linter.unusedSimpArgs false

/-! ### impl_byNorm: function 114 -/
def impl_byNorm.f (k : Nat) (a0 : ByteArray) (a1 : ByteArray) : Option (Int) := (impl_Norm.f k a0).bind fun t270 => ((impl_Norm.f k a1).bind fun t271 => ((strings_Compare.f t270 t271).bind fun t272 => (some t272)))
theorem impl_byNorm.mono : ∀ a0 a1 k, LeO (impl_byNorm.f k a0 a1) (impl_byNorm.f (k + 1) a0 a1) := by
  intro a0 a1 k
  unfold impl_byNorm.f
  repeat' first
      | (with_reducible exact impl_Norm.mono _ _)
      | (with_reducible exact LeO.refl _)
      | (with_reducible exact LeO.none _)
      | (with_reducible refine LeO.ite ?_ ?_)
      | (with_reducible refine LeO.bind ?_ (fun _ => ?_))
      | exact impl_Norm.mono _ _
      | exact LeO.none _
      | refine LeO.ite ?_ ?_
      | refine LeO.bind ?_ (fun _ => ?_)
set_option maxHeartbeats 8000000 in
set_option maxRecDepth 100000 in
theorem impl_byNorm.calls (k : Nat) (a0 : ByteArray) (a1 : ByteArray) (r : Int) (w : World) (h : impl_byNorm.f k a0 a1 = some r) :
    Calls Tryz.prog 114 #[.string a0, .string a1] w fun e w' => e = .returned (.int .i64 r) ∧ Below w.heap.size w w' := by
  have HB := Aside0.mk (Below.refl w.heap.size w)
  have H : ((impl_Norm.f k a0).bind fun t270 => ((impl_Norm.f k a1).bind fun t271 => ((strings_Compare.f t270 t271).bind fun t272 => (some t272)))) = some r := h
  clear h
  replace H := Option.bind_eq_some_iff.mp H
  obtain ⟨t270, A30, H⟩ := H
  replace H : ((impl_Norm.f k a1).bind fun t271 => ((strings_Compare.f t270 t271).bind fun t272 => (some t272))) = some r := H
  have A3 := Aside0.mk A30
  clear A30
  replace H := Option.bind_eq_some_iff.mp H
  obtain ⟨t271, A40, H⟩ := H
  replace H : ((strings_Compare.f t270 t271).bind fun t272 => (some t272)) = some r := H
  have A4 := Aside0.mk A40
  clear A40
  replace H := Option.bind_eq_some_iff.mp H
  obtain ⟨t272, A50, H⟩ := H
  replace H : (some t272) = some r := H
  have A5 := Aside0.mk A50
  clear A50
  obtain rfl := Option.some.inj H
  go_enter Tryz.func114, Tryz.ntmps114
  go_wp2_with (first | ((with_reducible refine gate_callee (f := 98) rfl ?_); refine goesL_ (some 6) rfl rfl Tryz.func98 (by kernel_rfl) rfl #[.string a0] rfl Ag ?_; (with_reducible refine (impl_Norm.calls k a0 t270 _ A3.out).mono ?_); rintro e w6 ⟨rfl, hb⟩; refine ⟨_, rfl, ?_⟩; have n0_ := Aside0.mk (below_step By hb); clear HB; have HB := n0_; clear n0_; (try clear hb); (try clear hb2); (try clear hk); (try clear hi)) | ((with_reducible refine gate_callee (f := 98) rfl ?_); refine goesL_ (some 8) rfl rfl Tryz.func98 (by kernel_rfl) rfl #[.string a1] rfl Ag ?_; (with_reducible refine (impl_Norm.calls k a1 t271 _ A4.out).mono ?_); rintro e w7 ⟨rfl, hb⟩; refine ⟨_, rfl, ?_⟩; have n0_ := Aside0.mk (below_step By hb); clear HB; have HB := n0_; clear n0_; (try clear hb); (try clear hb2); (try clear hk); (try clear hi)) | ((with_reducible refine gate_callee (f := 142) rfl ?_); refine goesL_ (some 9) rfl rfl Tryz.func142 (by kernel_rfl) rfl #[.string t270, .string t271] rfl Ag ?_; (with_reducible refine (strings_Compare.calls t270 t271 t272 _ A5.out).mono ?_); rintro e w8 ⟨rfl, hb⟩; refine ⟨_, rfl, ?_⟩; have n0_ := Aside0.mk (below_step By hb); clear HB; have HB := n0_; clear n0_; (try clear hb); (try clear hb2); (try clear hk); (try clear hi)))
  go_ret
  exact ⟨Rf, By⟩

set_option linter.unusedVariables false
set_option linter.unusedSimpArgs false

/-! ### impl_isAttr: function 73 -/
mutual
def impl_isAttr.j0 : Nat → Bool → ByteArray → List ByteArray → Option (Bool)
  | 0, _, _, _ => none
  | k + 1, x15, x274000, x274001 => if x15 = true then (some false) else (impl_isAttr.l0 k x274001 (x274001.length : Int) 0 x274000 x274001)
def impl_isAttr.l0 : Nat → List ByteArray → Int → Int → ByteArray → List ByteArray → Option (Bool)
  | 0, _, _, _, _, _ => none
  | k + 1, x17, x18, x19, x274000, x274001 => if x19 < x18 then (if 0 ≤ x19 then (if x19 < (x17.length : Int) then ((impl_isProper.f k (rdOf ByteArray.empty x17 x19)).bind fun t278 => (if t278 = true then (if x19 > 0 then (if 0 ≤ (wrap64 (x19 - 1)) then (if (wrap64 (x19 - 1)) < (x274001.length : Int) then ((impl_byNorm.f k (rdOf ByteArray.empty x274001 (wrap64 (x19 - 1))) (rdOf ByteArray.empty x17 x19)).bind fun t280 => (if t280 ≥ 0 then (some false) else (impl_isAttr.l0 k x17 x18 (wrap64 (x19 + 1)) x274000 x274001))) else (none)) else (none)) else (impl_isAttr.l0 k x17 x18 (wrap64 (x19 + 1)) x274000 x274001)) else (some false))) else (none)) else (none)) else (some true)
end
def impl_isAttr.f (k : Nat) (a0_0 : ByteArray) (l0_1 : List ByteArray) : Option (Bool) := (impl_NameRight.f a0_0).bind fun t274 => (if t274 = true then ((impl_size_string.f l0_1).bind fun t275 => ((impl_between.f t275 1 4).bind fun t276 => (impl_isAttr.j0 k (!t276) a0_0 l0_1))) else (impl_isAttr.j0 k true a0_0 l0_1))
theorem impl_isAttr.mono_l : ∀ k, (∀ y0 y1 y2, LeO (impl_isAttr.j0 k y0 y1 y2) (impl_isAttr.j0 (k + 1) y0 y1 y2)) ∧ (∀ y0 y1 y2 y3 y4, LeO (impl_isAttr.l0 k y0 y1 y2 y3 y4) (impl_isAttr.l0 (k + 1) y0 y1 y2 y3 y4))
  | 0 => ⟨fun _ _ _ r h => by simp [impl_isAttr.j0] at h, fun _ _ _ _ _ r h => by simp [impl_isAttr.l0] at h⟩
  | k + 1 => by
    obtain ⟨ih0, ih1⟩ := impl_isAttr.mono_l k
    refine ⟨?_, ?_⟩
    · intro y0 y1 y2
      unfold impl_isAttr.j0
      repeat' first
      | (with_reducible exact ih0 _ _ _)
      | (with_reducible exact ih1 _ _ _ _ _)
      | (with_reducible exact impl_byNorm.mono _ _ _)
      | (with_reducible exact impl_isProper.mono _ _)
      | (with_reducible exact LeO.refl _)
      | (with_reducible exact LeO.none _)
      | (with_reducible refine LeO.ite ?_ ?_)
      | (with_reducible refine LeO.bind ?_ (fun _ => ?_))
      | exact ih0 _ _ _
      | exact ih1 _ _ _ _ _
      | exact impl_byNorm.mono _ _ _
      | exact impl_isProper.mono _ _
      | exact LeO.none _
      | refine LeO.ite ?_ ?_
      | refine LeO.bind ?_ (fun _ => ?_)
    · intro y0 y1 y2 y3 y4
      unfold impl_isAttr.l0
      repeat' first
      | (with_reducible exact ih0 _ _ _)
      | (with_reducible exact ih1 _ _ _ _ _)
      | (with_reducible exact impl_byNorm.mono _ _ _)
      | (with_reducible exact impl_isProper.mono _ _)
      | (with_reducible exact LeO.refl _)
      | (with_reducible exact LeO.none _)
      | (with_reducible refine LeO.ite ?_ ?_)
      | (with_reducible refine LeO.bind ?_ (fun _ => ?_))
      | exact ih0 _ _ _
      | exact ih1 _ _ _ _ _
      | exact impl_byNorm.mono _ _ _
      | exact impl_isProper.mono _ _
      | exact LeO.none _
      | refine LeO.ite ?_ ?_
      | refine LeO.bind ?_ (fun _ => ?_)
theorem impl_isAttr.mono : ∀ a0 a1 k, LeO (impl_isAttr.f k a0 a1) (impl_isAttr.f (k + 1) a0 a1) := by
  intro a0 a1 k
  obtain ⟨ih0, ih1⟩ := impl_isAttr.mono_l k
  unfold impl_isAttr.f
  repeat' first
      | (with_reducible exact ih0 _ _ _)
      | (with_reducible exact ih1 _ _ _ _ _)
      | (with_reducible exact impl_byNorm.mono _ _ _)
      | (with_reducible exact impl_isProper.mono _ _)
      | (with_reducible exact LeO.refl _)
      | (with_reducible exact LeO.none _)
      | (with_reducible refine LeO.ite ?_ ?_)
      | (with_reducible refine LeO.bind ?_ (fun _ => ?_))
      | exact ih0 _ _ _
      | exact ih1 _ _ _ _ _
      | exact impl_byNorm.mono _ _ _
      | exact impl_isProper.mono _ _
      | exact LeO.none _
      | refine LeO.ite ?_ ?_
      | refine LeO.bind ?_ (fun _ => ?_)
set_option maxHeartbeats 8000000 in
set_option maxRecDepth 100000 in
theorem impl_isAttr.calls (k : Nat) (a0_0 : ByteArray) (A0_1 : Option Addr) (c0_1 : Nat) (l0_1 : List ByteArray) (r : Bool) (w : World) (hr0_1 : Kd.C Kd.string w A0_1 l0_1.length l0_1) (hc0_1 : l0_1.length ≤ c0_1) (h : impl_isAttr.f k a0_0 l0_1 = some r) :
    Calls Tryz.prog 73 #[.agg #[.string a0_0, .slice A0_1 l0_1.length c0_1]] w fun e w' => e = .returned (.bool r) ∧ Below w.heap.size w w' := by
  have hu115 := Tryz.underlying115
  have HR0_1 := Aside0.mk hr0_1
  have HC0_1 := Aside0.mk hc0_1
  clear hr0_1 hc0_1
  have HB := Aside0.mk (Below.refl w.heap.size w)
  have H : ((impl_NameRight.f a0_0).bind fun t274 => (if t274 = true then ((impl_size_string.f l0_1).bind fun t275 => ((impl_between.f t275 1 4).bind fun t276 => (impl_isAttr.j0 k (!t276) a0_0 l0_1))) else (impl_isAttr.j0 k true a0_0 l0_1))) = some r := h
  clear h
  have HC2 := Aside0.mk H
  clear H
  go_enter Tryz.func73, Tryz.ntmps73
  go_upto_region 1 with (first | ((with_reducible refine gate_dst (N := 1) rfl ?_); refine box_event ?hg (N := 1) ?hd (cs := #[.string a0_0, .slice A0_1 l0_1.length c0_1]) (t := 115) ?hr ?_; (case hd => rfl); (case hg => rfl); (case hr => first | (go_simp; done) | (go_simp; rfl)); intro gb273 hg w3 hbox hb; have n0_ := Aside0.mk (below_step By hb); have n1_ := Aside0.mk (hbox); have n2_ := Aside0.mk ((by rw [hg]; exact (below_size By) : w.heap.size ≤ gb273)); have n3_ := Aside0.mk ((by rw [hg]; exact (below_size By) : w.heap.size ≤ gb273)); clear HB; have HB := n0_; have BK273 := n1_; have GW273 := n2_; have GE273 := n3_; clear n0_ n1_ n2_ n3_; clear hb hbox hg))
  (try simp only [Act.put, List.setIfInBounds_toArray, List.set_cons_zero, List.set_cons_succ])
  go_cut [15] (fun v15 wc => ∃ (kq : Nat) (x15_1 : Bool), v15 = .bool x15_1 ∧ Aside0 (impl_isAttr.j0 kq x15_1 a0_0 l0_1 = some r) ∧ Aside0 (kq ≤ k) ∧ Aside0 (wc.heap[gb273]? = some (.cells #[.string a0_0, (.slice A0_1 l0_1.length c0_1)] 115 (0, 0))) ∧ Aside0 (Below w.heap.size w wc))
  case first =>
    have H := HC2.out
    clear HC2
    replace H := Option.bind_eq_some_iff.mp H
    obtain ⟨t274, A40, H⟩ := H
    replace H : (if t274 = true then ((impl_size_string.f l0_1).bind fun t275 => ((impl_between.f t275 1 4).bind fun t276 => (impl_isAttr.j0 k (!t276) a0_0 l0_1))) else (impl_isAttr.j0 k true a0_0 l0_1)) = some r := H
    have A4 := Aside0.mk A40
    clear A40
    by_cases c5 : t274 = true
    · subst c5
      have H1 : ((impl_size_string.f l0_1).bind fun t275 => ((impl_between.f t275 1 4).bind fun t276 => (impl_isAttr.j0 k (!t276) a0_0 l0_1))) = some r := by rw [if_pos rfl] at H; exact H
      clear H
      have H := H1
      clear H1
      replace H := Option.bind_eq_some_iff.mp H
      obtain ⟨t275, A60, H⟩ := H
      replace H : ((impl_between.f t275 1 4).bind fun t276 => (impl_isAttr.j0 k (!t276) a0_0 l0_1)) = some r := H
      have A6 := Aside0.mk A60
      clear A60
      replace H := Option.bind_eq_some_iff.mp H
      obtain ⟨t276, A70, H⟩ := H
      replace H : (impl_isAttr.j0 k (!t276) a0_0 l0_1) = some r := H
      have A7 := Aside0.mk A70
      clear A70
      have H' := Aside0.mk H
      clear H
      have hcz8_0 : w3.cell? ⟨gb273, 0, none⟩ = some (.string a0_0) := bc BK273.out 0
      have hcz8_1 : w3.cell? ⟨gb273, 1, none⟩ = some (.slice A0_1 l0_1.length c0_1) := bc BK273.out 1
      have hfz8_0 := blk_frozen BK273.out 0
      have hfz8_1 := blk_frozen BK273.out 1
      go_wp2_with (first | ((with_reducible refine gate_callee (f := 85) rfl ?_); refine goesL_ (some 7) rfl rfl Tryz.func85 (by kernel_rfl) rfl #[.string a0_0] rfl Ag ?_; (with_reducible refine (impl_NameRight.calls a0_0 true _ A4.out).mono ?_); rintro e w9 ⟨rfl, hb⟩; refine ⟨_, rfl, ?_⟩; have n0_ := Aside0.mk (bb BK273.out hb); have n1_ := Aside0.mk (below_step By hb); clear BK273; clear HB; have BK273 := n0_; have HB := n1_; clear n0_ n1_; (try clear hb); (try clear hb2); (try clear hk); (try clear hi); have ⟨hcz10_0, hcz10_1⟩ := cq2 BK273.out; have ⟨hfz10_0, hfz10_1⟩ := fq2 BK273.out) | (go_at_call 112; (with_reducible refine (impl_size_string.calls _ _ l0_1 t275 _ ?side1 ?side2 A6.out).mono ?_); (case side1 => exact rC (Kd.C_below HR0_1.out HB.out)); (case side2 => exact HC0_1.out); rintro e w' ⟨rfl, ⟨nd, rfl⟩⟩) | (go_at_call 111; (with_reducible refine (impl_between.calls t275 1 4 t276 _ A7.out).mono ?_); rintro e w' ⟨rfl, ⟨nd, rfl⟩⟩))
      go_meet
      case rel => exact ⟨_, (!t276), (by first | rfl | (simp; done) | (simp [*]; done)), H', ⟨by first | omega | exact Nat.le_refl _⟩, ⟨by (with_reducible repeat (first | refine blk_drewN ?_ _ | refine blk_drew ?_ | refine blk_alloc ?_ _)); exact BK273.out⟩, ⟨By⟩⟩
    · replace c5 := Bool.eq_false_iff.mpr c5
      subst c5
      have H1 : (impl_isAttr.j0 k true a0_0 l0_1) = some r := by rw [if_neg (show ¬ (false = true) by decide)] at H; exact H
      clear H
      have H := H1
      clear H1
      have H' := Aside0.mk H
      clear H
      have hcz11_0 : w3.cell? ⟨gb273, 0, none⟩ = some (.string a0_0) := bc BK273.out 0
      have hcz11_1 : w3.cell? ⟨gb273, 1, none⟩ = some (.slice A0_1 l0_1.length c0_1) := bc BK273.out 1
      have hfz11_0 := blk_frozen BK273.out 0
      have hfz11_1 := blk_frozen BK273.out 1
      go_wp2_with (first | ((with_reducible refine gate_callee (f := 85) rfl ?_); refine goesL_ (some 7) rfl rfl Tryz.func85 (by kernel_rfl) rfl #[.string a0_0] rfl Ag ?_; (with_reducible refine (impl_NameRight.calls a0_0 false _ A4.out).mono ?_); rintro e w12 ⟨rfl, hb⟩; refine ⟨_, rfl, ?_⟩; have n0_ := Aside0.mk (bb BK273.out hb); have n1_ := Aside0.mk (below_step By hb); clear BK273; clear HB; have BK273 := n0_; have HB := n1_; clear n0_ n1_; (try clear hb); (try clear hb2); (try clear hk); (try clear hi)))
      go_meet
      case rel => exact ⟨_, (true), (by first | rfl | (simp; done) | (simp [*]; done)), H', ⟨by first | omega | exact Nat.le_refl _⟩, ⟨by (with_reducible repeat (first | refine blk_drewN ?_ _ | refine blk_drew ?_ | refine blk_alloc ?_ _)); exact BK273.out⟩, ⟨By⟩⟩
  case rest =>
    clear HC2
    try clear p2
    try clear c5
    try clear c7
    try clear c8
    try clear hcz10_0
    try clear hcz10_1
    try clear hcz11_0
    try clear hcz11_1
    try clear hcz8_0
    try clear hcz8_1
    try clear hfz10_0
    try clear hfz10_1
    try clear hfz11_0
    try clear hfz11_1
    try clear hfz8_0
    try clear hfz8_1
    obtain ⟨kq, x15_1, rfl, HA, HJ1, BK273, HB⟩ := hcut
    cases kq with
    | zero => exact absurd HA.out (by simp [impl_isAttr.j0])
    | succ kj1 =>
      have H := HA.out
      clear HA
      simp only [impl_isAttr.j0] at H
      by_cases c13 : x15_1 = true
      · subst c13
        have H1 : (some false) = some r := by rw [if_pos rfl] at H; exact H
        clear H
        have H := H1
        clear H1
        obtain rfl := Option.some.inj H
        go_wp2
        go_ret
        exact ⟨Rf, By⟩
      · replace c13 := Bool.eq_false_iff.mpr c13
        subst c13
        have H1 : (impl_isAttr.l0 kj1 l0_1 (l0_1.length : Int) 0 a0_0 l0_1) = some r := by rw [if_neg (show ¬ (false = true) by decide)] at H; exact H
        clear H
        have H := H1
        clear H1
        have H' := Aside0.mk H
        clear H
        have hcz14_0 : wc.cell? ⟨gb273, 0, none⟩ = some (.string a0_0) := bc BK273.out 0
        have hcz14_1 : wc.cell? ⟨gb273, 1, none⟩ = some (.slice A0_1 l0_1.length c0_1) := bc BK273.out 1
        have hfz14_0 := blk_frozen BK273.out 0
        have hfz14_1 := blk_frozen BK273.out 1
        go_wp2
        go_loopg [19] kj1 (fun kq v19 w' => ∃ (x19_2 : Int), v19 = .int .i64 x19_2 ∧ Aside0 (impl_isAttr.l0 kq l0_1 (l0_1.length : Int) x19_2 a0_0 l0_1 = some r) ∧ Aside0 (kq ≤ kj1) ∧ Aside0 (w'.heap[gb273]? = some (.cells #[.string a0_0, (.slice A0_1 l0_1.length c0_1)] 115 (0, 0))) ∧ Aside0 (Below w.heap.size w w'))
        case atStart => exact ⟨(0), (by first | rfl | (simp; done) | (simp [*]; done)), H', ⟨Nat.le_refl _⟩, ⟨by (with_reducible repeat (first | refine blk_drewN ?_ _ | refine blk_drew ?_ | refine blk_alloc ?_ _)); exact BK273.out⟩, ⟨By⟩⟩
        case round =>
          clear H'
          try clear c1
          try clear p2
          try clear c5
          try clear c7
          try clear c8
          try clear c13
          try clear hcz10_0
          try clear hcz10_1
          try clear hcz11_0
          try clear hcz11_1
          try clear hcz14_0
          try clear hcz14_1
          try clear hcz8_0
          try clear hcz8_1
          try clear hfz10_0
          try clear hfz10_1
          try clear hfz11_0
          try clear hfz11_1
          try clear hfz14_0
          try clear hfz14_1
          try clear hfz8_0
          try clear hfz8_1
          try clear p2
          obtain ⟨x19_2, rfl, HA, HK2, BK273, HB⟩ := hrel
          cases gk with
          | zero => exact absurd HA.out (by simp [impl_isAttr.l0])
          | succ k2 =>
            have H := HA.out
            clear HA
            simp only [impl_isAttr.l0] at H
            by_cases c15 : x19_2 < (l0_1.length : Int)
            · rw [if_pos c15] at H
              have c15b0 : decide (x19_2 < (l0_1.length : Int)) = true := decide_eq_true c15
              clear c15
              by_cases c16 : 0 ≤ x19_2
              · rw [if_pos c16] at H
                have c16b0 : decide (0 ≤ x19_2) = true := decide_eq_true c16
                clear c16
                by_cases c17 : x19_2 < (l0_1.length : Int)
                · rw [if_pos c17] at H
                  have c17b0 : decide (x19_2 < (l0_1.length : Int)) = true := decide_eq_true c17
                  clear c17
                  replace H := Option.bind_eq_some_iff.mp H
                  obtain ⟨t278, A180, H⟩ := H
                  replace H : (if t278 = true then (if x19_2 > 0 then (if 0 ≤ (wrap64 (x19_2 - 1)) then (if (wrap64 (x19_2 - 1)) < (l0_1.length : Int) then ((impl_byNorm.f k2 (rdOf ByteArray.empty l0_1 (wrap64 (x19_2 - 1))) (rdOf ByteArray.empty l0_1 x19_2)).bind fun t280 => (if t280 ≥ 0 then (some false) else (impl_isAttr.l0 k2 l0_1 (l0_1.length : Int) (wrap64 (x19_2 + 1)) a0_0 l0_1))) else (none)) else (none)) else (impl_isAttr.l0 k2 l0_1 (l0_1.length : Int) (wrap64 (x19_2 + 1)) a0_0 l0_1)) else (some false)) = some r := H
                  have A18 := Aside0.mk A180
                  clear A180
                  by_cases c19 : t278 = true
                  · subst c19
                    have H1 : (if x19_2 > 0 then (if 0 ≤ (wrap64 (x19_2 - 1)) then (if (wrap64 (x19_2 - 1)) < (l0_1.length : Int) then ((impl_byNorm.f k2 (rdOf ByteArray.empty l0_1 (wrap64 (x19_2 - 1))) (rdOf ByteArray.empty l0_1 x19_2)).bind fun t280 => (if t280 ≥ 0 then (some false) else (impl_isAttr.l0 k2 l0_1 (l0_1.length : Int) (wrap64 (x19_2 + 1)) a0_0 l0_1))) else (none)) else (none)) else (impl_isAttr.l0 k2 l0_1 (l0_1.length : Int) (wrap64 (x19_2 + 1)) a0_0 l0_1)) = some r := by rw [if_pos rfl] at H; exact H
                    clear H
                    have H := H1
                    clear H1
                    by_cases c20 : x19_2 > 0
                    · rw [if_pos c20] at H
                      have c20b0 : decide (0 < x19_2) = true := decide_eq_true c20
                      clear c20
                      obtain ⟨ji21, hji21⟩ : ∃ j_ : Int, (wrap64 (x19_2 - 1)) = j_ := ⟨_, rfl⟩
                      replace H : (if 0 ≤ (ji21) then (if (ji21) < (l0_1.length : Int) then ((impl_byNorm.f k2 (rdOf ByteArray.empty l0_1 (ji21)) (rdOf ByteArray.empty l0_1 x19_2)).bind fun t280 => (if t280 ≥ 0 then (some false) else (impl_isAttr.l0 k2 l0_1 (l0_1.length : Int) (wrap64 (x19_2 + 1)) a0_0 l0_1))) else (none)) else (none)) = some r := by first | (rw [hji21] at H; exact H) | (simp only [hji21] at H ⊢; exact H)
                      (try rw [hji21] at A18)
                      have hji21w : (IntKind.i64.wrap (x19_2 - 1)) = ji21 := (i64_w _).trans hji21
                      by_cases c22 : 0 ≤ (ji21)
                      · rw [if_pos c22] at H
                        have c22b0 : decide (0 ≤ (ji21)) = true := decide_eq_true c22
                        clear c22
                        by_cases c23 : (ji21) < (l0_1.length : Int)
                        · rw [if_pos c23] at H
                          have c23b0 : decide ((ji21) < (l0_1.length : Int)) = true := decide_eq_true c23
                          clear c23
                          replace H := Option.bind_eq_some_iff.mp H
                          obtain ⟨t280, A240, H⟩ := H
                          replace H : (if t280 ≥ 0 then (some false) else (impl_isAttr.l0 k2 l0_1 (l0_1.length : Int) (wrap64 (x19_2 + 1)) a0_0 l0_1)) = some r := H
                          have A24 := Aside0.mk A240
                          clear A240
                          by_cases c25 : t280 ≥ 0
                          · rw [if_pos c25] at H
                            have c25b0 : decide (0 ≤ t280) = true := decide_eq_true c25
                            clear c25
                            obtain rfl := Option.some.inj H
                            have p277 : 0 ≤ (x19_2 : Int) := of_decide_eq_true Da
                            have q277 : x19_2 < (l0_1.length : Int) := of_decide_eq_true Da
                            obtain ⟨ad277, e277, hx277_0⟩ := Kd.at_string HR0_1.out x19_2 p277 q277
                            cases e277
                            replace hx277_0 := bz HB.out hx277_0
                            replace p277 := eq_true p277
                            replace q277 := eq_true q277
                            go_wp2_with (first | ((with_reducible refine gate_callee (f := 113) rfl ?_); refine goesL_ (some 25) rfl rfl Tryz.func113 (by kernel_rfl) rfl #[.string (rdOf ByteArray.empty l0_1 x19_2)] rfl Ag ?_; (with_reducible refine (impl_isProper.calls k2 (rdOf ByteArray.empty l0_1 x19_2) true _ A18.out).mono ?_); rintro e w26 ⟨rfl, hb⟩; refine ⟨_, rfl, ?_⟩; have n0_ := Aside0.mk (bb BK273.out hb); have n1_ := Aside0.mk (below_step By hb); clear BK273; clear HB; have BK273 := n0_; have HB := n1_; clear n0_ n1_; (try clear hb); (try clear hb2); (try clear hk); (try clear hi); have ⟨hcz27_0, hcz27_1⟩ := cq2 BK273.out; have ⟨hfz27_0, hfz27_1⟩ := fq2 BK273.out; have p279 : 0 ≤ ((ji21) : Int) := of_decide_eq_true Da; have q279 : (ji21) < (l0_1.length : Int) := of_decide_eq_true Da; obtain ⟨ad279, e279, hx279_0⟩ := Kd.at_string HR0_1.out (ji21) p279 q279; obtain rfl : ad277 = ad279 := (by injection e279); replace hx279_0 := bz HB.out hx279_0; replace p279 := eq_true p279; replace q279 := eq_true q279) | (go_at_call 114; (with_reducible refine (impl_byNorm.calls k2 (rdOf ByteArray.empty l0_1 (ji21)) (rdOf ByteArray.empty l0_1 x19_2) t280 _ A24.out).mono ?_); rintro e w28 ⟨rfl, hb⟩; have n0_ := Aside0.mk (bb BK273.out hb); have n1_ := Aside0.mk (below_step By hb); clear BK273; clear HB; have BK273 := n0_; have HB := n1_; clear n0_ n1_; (try clear hb); (try clear hb2); (try clear hk); (try clear hi)))
                            go_ret
                            exact ⟨by first | rfl | (simp [errW_none, errW_some] <;> rfl) | (simp only [← hji21]; first | rfl | (simp [errW_none, errW_some] <;> rfl)) | (simp [*, errW_none, errW_some] <;> first | rfl | (rw [Bool.eq_iff_iff]; simp)), By⟩
                          · rw [if_neg c25] at H
                            have c25b0 : decide (0 ≤ t280) = false := decide_eq_false c25
                            clear c25
                            have H' := Aside0.mk H
                            clear H
                            have p277 : 0 ≤ (x19_2 : Int) := of_decide_eq_true Da
                            have q277 : x19_2 < (l0_1.length : Int) := of_decide_eq_true Da
                            obtain ⟨ad277, e277, hx277_0⟩ := Kd.at_string HR0_1.out x19_2 p277 q277
                            cases e277
                            replace hx277_0 := bz HB.out hx277_0
                            replace p277 := eq_true p277
                            replace q277 := eq_true q277
                            go_wp2_with (first | ((with_reducible refine gate_callee (f := 113) rfl ?_); refine goesL_ (some 25) rfl rfl Tryz.func113 (by kernel_rfl) rfl #[.string (rdOf ByteArray.empty l0_1 x19_2)] rfl Ag ?_; (with_reducible refine (impl_isProper.calls k2 (rdOf ByteArray.empty l0_1 x19_2) true _ A18.out).mono ?_); rintro e w29 ⟨rfl, hb⟩; refine ⟨_, rfl, ?_⟩; have n0_ := Aside0.mk (bb BK273.out hb); have n1_ := Aside0.mk (below_step By hb); clear BK273; clear HB; have BK273 := n0_; have HB := n1_; clear n0_ n1_; (try clear hb); (try clear hb2); (try clear hk); (try clear hi); have ⟨hcz30_0, hcz30_1⟩ := cq2 BK273.out; have ⟨hfz30_0, hfz30_1⟩ := fq2 BK273.out; have p279 : 0 ≤ ((ji21) : Int) := of_decide_eq_true Da; have q279 : (ji21) < (l0_1.length : Int) := of_decide_eq_true Da; obtain ⟨ad279, e279, hx279_0⟩ := Kd.at_string HR0_1.out (ji21) p279 q279; obtain rfl : ad277 = ad279 := (by injection e279); replace hx279_0 := bz HB.out hx279_0; replace p279 := eq_true p279; replace q279 := eq_true q279) | (go_at_call 114; (with_reducible refine (impl_byNorm.calls k2 (rdOf ByteArray.empty l0_1 (ji21)) (rdOf ByteArray.empty l0_1 x19_2) t280 _ A24.out).mono ?_); rintro e w31 ⟨rfl, hb⟩; have n0_ := Aside0.mk (bb BK273.out hb); have n1_ := Aside0.mk (below_step By hb); clear BK273; clear HB; have BK273 := n0_; have HB := n1_; clear n0_ n1_; (try clear hb); (try clear hb2); (try clear hk); (try clear hi)))
                            go_roundg k2
                            case measure => have := HJ1.out; have := HK2.out; omega
                            case rel => exact ⟨(wrap64 (x19_2 + 1)), (by first | rfl | (simp; done) | (simp [*]; done)), H', ⟨by have := HJ1.out; have := HK2.out; omega⟩, ⟨by (with_reducible repeat (first | refine blk_drewN ?_ _ | refine blk_drew ?_ | refine blk_alloc ?_ _)); exact BK273.out⟩, ⟨By⟩⟩
                        · rw [if_neg c23] at H
                          exact absurd H (by simp)
                      · rw [if_neg c22] at H
                        exact absurd H (by simp)
                    · rw [if_neg c20] at H
                      have c20b0 : decide (0 < x19_2) = false := decide_eq_false c20
                      clear c20
                      have H' := Aside0.mk H
                      clear H
                      have p277 : 0 ≤ (x19_2 : Int) := of_decide_eq_true Da
                      have q277 : x19_2 < (l0_1.length : Int) := of_decide_eq_true Da
                      obtain ⟨ad277, e277, hx277_0⟩ := Kd.at_string HR0_1.out x19_2 p277 q277
                      cases e277
                      replace hx277_0 := bz HB.out hx277_0
                      replace p277 := eq_true p277
                      replace q277 := eq_true q277
                      go_wp2_with (first | ((with_reducible refine gate_callee (f := 113) rfl ?_); refine goesL_ (some 25) rfl rfl Tryz.func113 (by kernel_rfl) rfl #[.string (rdOf ByteArray.empty l0_1 x19_2)] rfl Ag ?_; (with_reducible refine (impl_isProper.calls k2 (rdOf ByteArray.empty l0_1 x19_2) true _ A18.out).mono ?_); rintro e w32 ⟨rfl, hb⟩; refine ⟨_, rfl, ?_⟩; have n0_ := Aside0.mk (bb BK273.out hb); have n1_ := Aside0.mk (below_step By hb); clear BK273; clear HB; have BK273 := n0_; have HB := n1_; clear n0_ n1_; (try clear hb); (try clear hb2); (try clear hk); (try clear hi)))
                      go_roundg k2
                      case measure => have := HJ1.out; have := HK2.out; omega
                      case rel => exact ⟨(wrap64 (x19_2 + 1)), (by first | rfl | (simp; done) | (simp [*]; done)), H', ⟨by have := HJ1.out; have := HK2.out; omega⟩, ⟨by (with_reducible repeat (first | refine blk_drewN ?_ _ | refine blk_drew ?_ | refine blk_alloc ?_ _)); exact BK273.out⟩, ⟨By⟩⟩
                  · replace c19 := Bool.eq_false_iff.mpr c19
                    subst c19
                    have H1 : (some false) = some r := by rw [if_neg (show ¬ (false = true) by decide)] at H; exact H
                    clear H
                    have H := H1
                    clear H1
                    obtain rfl := Option.some.inj H
                    have p277 : 0 ≤ (x19_2 : Int) := of_decide_eq_true Da
                    have q277 : x19_2 < (l0_1.length : Int) := of_decide_eq_true Da
                    obtain ⟨ad277, e277, hx277_0⟩ := Kd.at_string HR0_1.out x19_2 p277 q277
                    cases e277
                    replace hx277_0 := bz HB.out hx277_0
                    replace p277 := eq_true p277
                    replace q277 := eq_true q277
                    go_wp2_with (first | ((with_reducible refine gate_callee (f := 113) rfl ?_); refine goesL_ (some 25) rfl rfl Tryz.func113 (by kernel_rfl) rfl #[.string (rdOf ByteArray.empty l0_1 x19_2)] rfl Ag ?_; (with_reducible refine (impl_isProper.calls k2 (rdOf ByteArray.empty l0_1 x19_2) false _ A18.out).mono ?_); rintro e w33 ⟨rfl, hb⟩; refine ⟨_, rfl, ?_⟩; have n0_ := Aside0.mk (bb BK273.out hb); have n1_ := Aside0.mk (below_step By hb); clear BK273; clear HB; have BK273 := n0_; have HB := n1_; clear n0_ n1_; (try clear hb); (try clear hb2); (try clear hk); (try clear hi)))
                    go_ret
                    exact ⟨Rf, By⟩
                · rw [if_neg c17] at H
                  exact absurd H (by simp)
              · rw [if_neg c16] at H
                exact absurd H (by simp)
            · rw [if_neg c15] at H
              have c15b0 : decide (x19_2 < (l0_1.length : Int)) = false := decide_eq_false c15
              clear c15
              obtain rfl := Option.some.inj H
              go_wp2
              go_ret
              exact ⟨Rf, By⟩

set_option linter.unusedVariables false
set_option linter.unusedSimpArgs false

/-! ### impl_isRdn: function 110 -/
def impl_isRdn.f (k : Nat) (a0_0 : ByteArray) (a0_1 : ByteArray) : Option (Bool) := (impl_NameRight.f a0_0).bind fun t306 => (if t306 = true then ((impl_isProper.f k a0_1).bind fun t307 => (some t307)) else (some false))
theorem impl_isRdn.mono : ∀ a0 a1 k, LeO (impl_isRdn.f k a0 a1) (impl_isRdn.f (k + 1) a0 a1) := by
  intro a0 a1 k
  unfold impl_isRdn.f
  repeat' first
      | (with_reducible exact impl_isProper.mono _ _)
      | (with_reducible exact LeO.refl _)
      | (with_reducible exact LeO.none _)
      | (with_reducible refine LeO.ite ?_ ?_)
      | (with_reducible refine LeO.bind ?_ (fun _ => ?_))
      | exact impl_isProper.mono _ _
      | exact LeO.none _
      | refine LeO.ite ?_ ?_
      | refine LeO.bind ?_ (fun _ => ?_)
set_option maxHeartbeats 8000000 in
set_option maxRecDepth 100000 in
theorem impl_isRdn.calls (k : Nat) (a0_0 : ByteArray) (a0_1 : ByteArray) (r : Bool) (w : World) (h : impl_isRdn.f k a0_0 a0_1 = some r) :
    Calls Tryz.prog 110 #[.agg #[.string a0_0, .string a0_1]] w fun e w' => e = .returned (.bool r) ∧ Below w.heap.size w w' := by
  have hu113 := Tryz.underlying113
  have HB := Aside0.mk (Below.refl w.heap.size w)
  have H : ((impl_NameRight.f a0_0).bind fun t306 => (if t306 = true then ((impl_isProper.f k a0_1).bind fun t307 => (some t307)) else (some false))) = some r := h
  clear h
  replace H := Option.bind_eq_some_iff.mp H
  obtain ⟨t306, A20, H⟩ := H
  replace H : (if t306 = true then ((impl_isProper.f k a0_1).bind fun t307 => (some t307)) else (some false)) = some r := H
  have A2 := Aside0.mk A20
  clear A20
  by_cases c3 : t306 = true
  · subst c3
    have H1 : ((impl_isProper.f k a0_1).bind fun t307 => (some t307)) = some r := by rw [if_pos rfl] at H; exact H
    clear H
    have H := H1
    clear H1
    replace H := Option.bind_eq_some_iff.mp H
    obtain ⟨t307, A40, H⟩ := H
    replace H : (some t307) = some r := H
    have A4 := Aside0.mk A40
    clear A40
    obtain rfl := Option.some.inj H
    go_enter Tryz.func110, Tryz.ntmps110
    go_wp2_with (first | ((with_reducible refine gate_dst (N := 1) rfl ?_); refine box_event ?hg (N := 1) ?hd (cs := #[.string a0_0, .string a0_1]) (t := 113) ?hr ?_; (case hd => rfl); (case hg => rfl); (case hr => first | (go_simp; done) | (go_simp; rfl)); intro gb305 hg w5 hbox hb; have n0_ := Aside0.mk (below_step By hb); have n1_ := Aside0.mk (hbox); have n2_ := Aside0.mk ((by rw [hg]; exact (below_size By) : w.heap.size ≤ gb305)); have n3_ := Aside0.mk ((by rw [hg]; exact (below_size By) : w.heap.size ≤ gb305)); clear HB; have HB := n0_; have BK305 := n1_; have GW305 := n2_; have GE305 := n3_; clear n0_ n1_ n2_ n3_; clear hb hbox hg; have ⟨hcz6_0, hcz6_1⟩ := cq2 BK305.out; have ⟨hfz6_0, hfz6_1⟩ := fq2 BK305.out) | ((with_reducible refine gate_callee (f := 85) rfl ?_); refine goesL_ (some 5) rfl rfl Tryz.func85 (by kernel_rfl) rfl #[.string a0_0] rfl Ag ?_; (with_reducible refine (impl_NameRight.calls a0_0 true _ A2.out).mono ?_); rintro e w7 ⟨rfl, hb⟩; refine ⟨_, rfl, ?_⟩; have n0_ := Aside0.mk (bb BK305.out hb); have n1_ := Aside0.mk (below_step By hb); clear BK305; clear HB; have BK305 := n0_; have HB := n1_; clear n0_ n1_; (try clear hb); (try clear hb2); (try clear hk); (try clear hi); have ⟨hcz8_0, hcz8_1⟩ := cq2 BK305.out; have ⟨hfz8_0, hfz8_1⟩ := fq2 BK305.out) | (go_at_call 113; (with_reducible refine (impl_isProper.calls k a0_1 t307 _ A4.out).mono ?_); rintro e w9 ⟨rfl, hb⟩; have n0_ := Aside0.mk (bb BK305.out hb); have n1_ := Aside0.mk (below_step By hb); clear BK305; clear HB; have BK305 := n0_; have HB := n1_; clear n0_ n1_; (try clear hb); (try clear hb2); (try clear hk); (try clear hi)))
    go_ret
    exact ⟨Rf, By⟩
  · replace c3 := Bool.eq_false_iff.mpr c3
    subst c3
    have H1 : (some false) = some r := by rw [if_neg (show ¬ (false = true) by decide)] at H; exact H
    clear H
    have H := H1
    clear H1
    obtain rfl := Option.some.inj H
    go_enter Tryz.func110, Tryz.ntmps110
    go_wp2_with (first | ((with_reducible refine gate_dst (N := 1) rfl ?_); refine box_event ?hg (N := 1) ?hd (cs := #[.string a0_0, .string a0_1]) (t := 113) ?hr ?_; (case hd => rfl); (case hg => rfl); (case hr => first | (go_simp; done) | (go_simp; rfl)); intro gb305 hg w10 hbox hb; have n0_ := Aside0.mk (below_step By hb); have n1_ := Aside0.mk (hbox); have n2_ := Aside0.mk ((by rw [hg]; exact (below_size By) : w.heap.size ≤ gb305)); have n3_ := Aside0.mk ((by rw [hg]; exact (below_size By) : w.heap.size ≤ gb305)); clear HB; have HB := n0_; have BK305 := n1_; have GW305 := n2_; have GE305 := n3_; clear n0_ n1_ n2_ n3_; clear hb hbox hg; have ⟨hcz11_0, hcz11_1⟩ := cq2 BK305.out; have ⟨hfz11_0, hfz11_1⟩ := fq2 BK305.out) | ((with_reducible refine gate_callee (f := 85) rfl ?_); refine goesL_ (some 5) rfl rfl Tryz.func85 (by kernel_rfl) rfl #[.string a0_0] rfl Ag ?_; (with_reducible refine (impl_NameRight.calls a0_0 false _ A2.out).mono ?_); rintro e w12 ⟨rfl, hb⟩; refine ⟨_, rfl, ?_⟩; have n0_ := Aside0.mk (bb BK305.out hb); have n1_ := Aside0.mk (below_step By hb); clear BK305; clear HB; have BK305 := n0_; have HB := n1_; clear n0_ n1_; (try clear hb); (try clear hb2); (try clear hk); (try clear hi)))
    go_ret
    exact ⟨Rf, By⟩

end Go.Proofs.YtpocoeghobdfiaaGreatDoor.PG
