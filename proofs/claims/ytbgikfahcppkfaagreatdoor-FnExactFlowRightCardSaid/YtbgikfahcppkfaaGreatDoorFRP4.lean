/-
  Functions that the law reaches, each as a plain Lean function, with the proof that the call comes to it (written by a program of this session by way of the kit's print program). Conditions: what each contract states.
-/
import Derived.Test.YtbgikfahcppkfaaGreatDoorFRP1
import Derived.Test.YtbgikfahcppkfaaGreatDoorFRLibTrim
import Derived.Test.YtbgikfahcppkfaaGreatDoorFRSq
import Derived.Test.YtbgikfahcppkfaaGreatDoorFRP3
namespace Go.Proofs.YtbgikfahcppkfaaGreatDoor.PG
open Go.Proofs.YtbgikfahcppkfaaGreatDoor.Sq Go.RowKit Go.Proofs.YtbgikfahcppkfaaGreatDoorW.PrintWords Go.Proofs.YtbgikfahcppkfaaGreatDoorW.PrintLast Go.Proofs.YtbgikfahcppkfaaGreatDoorW.PrintMore
attribute [local go_sem] max2_int min2_int max_two min_two max_three min_three max_four min_four   -- for this text's walks alone
set_option linter.unusedVariables false
set_option linter.unusedSimpArgs false

/-! ### impl_NameRight: function 49 -/
def impl_NameRight.f (a0 : ByteArray) : Option (Bool) := if (a0.size : Int) ≥ 1 then (if (a0.size : Int) ≤ 20 then (if 0 < (a0.size : Int) then (if (bt a0 0) ≥ 97 then (if (bt a0 0) ≤ 122 then ((strings_Trim.f a0 (⟨#[97, 98, 99, 100, 101, 102, 103, 104, 105, 106, 107, 108, 109, 110, 111, 112, 113, 114, 115, 116, 117, 118, 119, 120, 121, 122, 48, 49, 50, 51, 52, 53, 54, 55, 56, 57, 95]⟩ : ByteArray)).bind fun t338 => (some (t338.toList == ([] : List UInt8)))) else (some false)) else (some false)) else (none)) else (some false)) else (some false)
set_option maxHeartbeats 8000000 in
set_option maxRecDepth 100000 in
theorem impl_NameRight.calls (a0 : ByteArray) (r : Bool) (w : World) (h : impl_NameRight.f a0 = some r) :
    Calls Tryz.prog 49 #[.string a0] w fun e w' => e = .returned (.bool r) ∧ Below w.heap.size w w' := by
  have HB := Aside0.mk (Below.refl w.heap.size w); have H : (if (a0.size : Int) ≥ 1 then (if (a0.size : Int) ≤ 20 then (if 0 < (a0.size : Int) then (if (bt a0 0) ≥ 97 then (if (bt a0 0) ≤ 122 then ((strings_Trim.f a0 (⟨#[97, 98, 99, 100, 101, 102, 103, 104, 105, 106, 107, 108, 109, 110, 111, 112, 113, 114, 115, 116, 117, 118, 119, 120, 121, 122, 48, 49, 50, 51, 52, 53, 54, 55, 56, 57, 95]⟩ : ByteArray)).bind fun t338 => (some (t338.toList == ([] : List UInt8)))) else (some false)) else (some false)) else (none)) else (some false)) else (some false)) = some r := h; clear h; by_cases c2 : (a0.size : Int) ≥ 1
  · rw [if_pos c2] at H; have c2b0 : decide (1 ≤ (a0.size : Int)) = true := decide_eq_true c2; have c2b1 : decide (1 ≤ a0.size) = true := decide_eq_true (by omega); clear c2; by_cases c3 : (a0.size : Int) ≤ 20
    · rw [if_pos c3] at H; have c3b0 : decide ((a0.size : Int) ≤ 20) = true := decide_eq_true c3; have c3b1 : decide (a0.size ≤ 20) = true := decide_eq_true (by omega); clear c3; by_cases c4 : 0 < (a0.size : Int)
      · rw [if_pos c4] at H; have c4b0 : decide (0 < (a0.size : Int)) = true := decide_eq_true c4; have c4b1 : decide (0 < a0.size) = true := decide_eq_true (by omega); clear c4; by_cases c6 : (bt a0 0) ≥ 97
        · rw [if_pos c6] at H; have c6b0 : decide (97 ≤ (bt a0 0)) = true := decide_eq_true c6; clear c6; by_cases c8 : (bt a0 0) ≤ 122
          · rw [if_pos c8] at H; have c8b0 : decide ((bt a0 0) ≤ 122) = true := decide_eq_true c8; clear c8; replace H := Option.bind_eq_some_iff.mp H; obtain ⟨t338, A90, H⟩ := H; (try dsimp only at H); have A9 := Aside0.mk A90; clear A90; obtain rfl := Option.some.inj H; have p5 : 0 ≤ (0 : Int) := (by omega); have q5 : 0 < a0.size := (by have : (0 : Int) < (a0.size : Int) := of_decide_eq_true Da; omega); have hx5 : ∀ h : 0 < a0.size, ((a0[0]'h).toNat : Int) = bt a0 0 := bt_at a0 0; clear p5; have qi5 : (0 < (a0.size : Int)) = True := eq_true (of_decide_eq_true Da); replace q5 := eq_true q5; have p7 : 0 ≤ (0 : Int) := (by omega); have q7 : 0 < a0.size := (by have : (0 : Int) < (a0.size : Int) := of_decide_eq_true Da; omega); have hx7 : ∀ h : 0 < a0.size, ((a0[0]'h).toNat : Int) = bt a0 0 := bt_at a0 0; clear p7; have qi7 : (0 < (a0.size : Int)) = True := eq_true (of_decide_eq_true Da); replace q7 := eq_true q7; go_enter Tryz.func49, Tryz.ntmps49; go_wp2_with (first | (go_at_call 104; (with_reducible refine (strings_Trim.calls a0 (⟨#[97, 98, 99, 100, 101, 102, 103, 104, 105, 106, 107, 108, 109, 110, 111, 112, 113, 114, 115, 116, 117, 118, 119, 120, 121, 122, 48, 49, 50, 51, 52, 53, 54, 55, 56, 57, 95]⟩ : ByteArray) t338 _ A9.out).mono ?_); rintro e w10 ⟨rfl, hb⟩; have n0_ := Aside0.mk (below_step By hb); clear HB; have HB := n0_; clear n0_; (try clear hb); (try clear hb2); (try clear hk); (try clear hi))); go_ret; exact ⟨Rf, By⟩
          · rw [if_neg c8] at H; have c8b0 : decide ((bt a0 0) ≤ 122) = false := decide_eq_false c8; clear c8; obtain rfl := Option.some.inj H; have p5 : 0 ≤ (0 : Int) := (by omega); have q5 : 0 < a0.size := (by have : (0 : Int) < (a0.size : Int) := of_decide_eq_true Da; omega); have hx5 : ∀ h : 0 < a0.size, ((a0[0]'h).toNat : Int) = bt a0 0 := bt_at a0 0; clear p5; have qi5 : (0 < (a0.size : Int)) = True := eq_true (of_decide_eq_true Da); replace q5 := eq_true q5; have p7 : 0 ≤ (0 : Int) := (by omega); have q7 : 0 < a0.size := (by have : (0 : Int) < (a0.size : Int) := of_decide_eq_true Da; omega); have hx7 : ∀ h : 0 < a0.size, ((a0[0]'h).toNat : Int) = bt a0 0 := bt_at a0 0; clear p7; have qi7 : (0 < (a0.size : Int)) = True := eq_true (of_decide_eq_true Da); replace q7 := eq_true q7; go_enter Tryz.func49, Tryz.ntmps49; go_wp2; go_ret; exact ⟨Rf, By⟩
        · rw [if_neg c6] at H; have c6b0 : decide (97 ≤ (bt a0 0)) = false := decide_eq_false c6; clear c6; obtain rfl := Option.some.inj H; have p5 : 0 ≤ (0 : Int) := (by omega); have q5 : 0 < a0.size := (by have : (0 : Int) < (a0.size : Int) := of_decide_eq_true Da; omega); have hx5 : ∀ h : 0 < a0.size, ((a0[0]'h).toNat : Int) = bt a0 0 := bt_at a0 0; clear p5; have qi5 : (0 < (a0.size : Int)) = True := eq_true (of_decide_eq_true Da); replace q5 := eq_true q5; go_enter Tryz.func49, Tryz.ntmps49; go_wp2; go_ret; exact ⟨Rf, By⟩
      · rw [if_neg c4] at H; exact absurd H (by simp)
    · rw [if_neg c3] at H; have c3b0 : decide ((a0.size : Int) ≤ 20) = false := decide_eq_false c3; have c3b1 : decide (a0.size ≤ 20) = false := decide_eq_false (by omega); clear c3; obtain rfl := Option.some.inj H; go_enter Tryz.func49, Tryz.ntmps49; go_wp2; go_ret; exact ⟨Rf, By⟩
  · rw [if_neg c2] at H; have c2b0 : decide (1 ≤ (a0.size : Int)) = false := decide_eq_false c2; have c2b1 : decide (1 ≤ a0.size) = false := decide_eq_false (by omega); clear c2; obtain rfl := Option.some.inj H; go_enter Tryz.func49, Tryz.ntmps49; go_wp2; go_ret; exact ⟨Rf, By⟩

set_option linter.unusedVariables false
set_option linter.unusedSimpArgs false

/-! ### impl_depthOf: function 137 -/
mutual
def impl_depthOf.j0 : Nat → List (S155) → Int → Bool → Int → ByteArray → ByteArray → Int → Option (Int × Int)
  | 0, _, _, _, _, _, _, _ => none
  | k + 1, x0, x16, x17, x363000, x363001, x363002, x363003 => if x17 = true then (if x363001.toList = ([] : List UInt8) then (if x363002.toList = ([] : List UInt8) then (if x363003 < 1 then (impl_depthOf.j1 k x0 true x363000 x363001 x363002 x363003) else (if x363000 = 3 then (if x363003 = 1 then (impl_depthOf.j1 k x0 (decide (x363003 > 20)) x363000 x363001 x363002 x363003) else (impl_depthOf.j1 k x0 true x363000 x363001 x363002 x363003)) else (impl_depthOf.j1 k x0 (decide (x363003 > 20)) x363000 x363001 x363002 x363003))) else (impl_depthOf.j1 k x0 true x363000 x363001 x363002 x363003)) else (impl_depthOf.j1 k x0 true x363000 x363001 x363002 x363003)) else (if x16 = 5 then (if x363002.toList = ([] : List UInt8) then (if x363003 = 0 then ((impl_NameRight.f x363001).bind fun t369 => (if t369 = true then (some (1, 1)) else (some (0, 0)))) else (some (0, 0))) else (some (0, 0))) else (if x16 = 4 then (impl_depthOf.j3 k (x16 == 4) x363000 x363001 x363002 x363003) else (if x16 = 6 then (impl_depthOf.j3 k (x16 == 6) x363000 x363001 x363002 x363003) else (if x16 = 7 then (impl_depthOf.j3 k (x16 == 7) x363000 x363001 x363002 x363003) else (impl_depthOf.j3 k (x16 == 8) x363000 x363001 x363002 x363003)))))
def impl_depthOf.j1 : Nat → List (S155) → Bool → Int → ByteArray → ByteArray → Int → Option (Int × Int)
  | 0, _, _, _, _, _, _ => none
  | k + 1, x0, x48, x363000, x363001, x363002, x363003 => if x48 = true then (some (0, 0)) else (impl_depthOf.l0 k x0 1 0 x363003 0)
def impl_depthOf.l0 : Nat → List (S155) → Int → Int → Int → Int → Option (Int × Int)
  | 0, _, _, _, _, _ => none
  | k + 1, x0, x5, x6, x50, x51 => if x51 < x50 then (if 0 ≤ x5 then (if x5 ≤ (x0.length : Int) then ((impl_depthOf.f k (x0.drop (x5 : Int).toNat)).bind fun bt367 => (if bt367.1 = 0 then (some (0, 0)) else (impl_depthOf.l0 k x0 (wrap64 (x5 + bt367.1)) (mx x6 bt367.2) x50 (wrap64 (x51 + 1))))) else (none)) else (none)) else (some (x5, wrap64 (x6 + 1)))
def impl_depthOf.j3 : Nat → Bool → Int → ByteArray → ByteArray → Int → Option (Int × Int)
  | 0, _, _, _, _, _ => none
  | k + 1, x77, x363000, x363001, x363002, x363003 => if x77 = true then ((impl_isProper.f k x363002).bind fun t370 => (if t370 = true then (if x363003 = 0 then ((impl_NameRight.f x363001).bind fun t371 => (if t371 = true then (some (1, 1)) else (some (0, 0)))) else (some (0, 0))) else (some (0, 0)))) else (some (0, 0))
def impl_depthOf.f : Nat → List (S155) → Option (Int × Int)
  | 0, _ => none
  | k + 1, l0 => if (l0.length : Int) = 0 then (some (0, 0)) else (if 0 < (l0.length : Int) then (if ((rd_T155 l0 0).f0) = 1 then (impl_depthOf.j0 k l0 ((rd_T155 l0 0).f0) (((rd_T155 l0 0).f0) == 1) ((rd_T155 l0 0).f0) ((rd_T155 l0 0).f1) ((rd_T155 l0 0).f2) ((rd_T155 l0 0).f3)) else (if ((rd_T155 l0 0).f0) = 2 then (impl_depthOf.j0 k l0 ((rd_T155 l0 0).f0) (((rd_T155 l0 0).f0) == 2) ((rd_T155 l0 0).f0) ((rd_T155 l0 0).f1) ((rd_T155 l0 0).f2) ((rd_T155 l0 0).f3)) else (impl_depthOf.j0 k l0 ((rd_T155 l0 0).f0) (((rd_T155 l0 0).f0) == 3) ((rd_T155 l0 0).f0) ((rd_T155 l0 0).f1) ((rd_T155 l0 0).f2) ((rd_T155 l0 0).f3)))) else (none))
end
theorem impl_depthOf.mono_l : ∀ k, (∀ y0, LeO (impl_depthOf.f k y0) (impl_depthOf.f (k + 1) y0)) ∧ (∀ y0 y1 y2 y3 y4 y5 y6, LeO (impl_depthOf.j0 k y0 y1 y2 y3 y4 y5 y6) (impl_depthOf.j0 (k + 1) y0 y1 y2 y3 y4 y5 y6)) ∧ (∀ y0 y1 y2 y3 y4 y5, LeO (impl_depthOf.j1 k y0 y1 y2 y3 y4 y5) (impl_depthOf.j1 (k + 1) y0 y1 y2 y3 y4 y5)) ∧ (∀ y0 y1 y2 y3 y4, LeO (impl_depthOf.l0 k y0 y1 y2 y3 y4) (impl_depthOf.l0 (k + 1) y0 y1 y2 y3 y4)) ∧ (∀ y0 y1 y2 y3 y4, LeO (impl_depthOf.j3 k y0 y1 y2 y3 y4) (impl_depthOf.j3 (k + 1) y0 y1 y2 y3 y4))
  | 0 => ⟨fun _ r h => by simp [impl_depthOf.f] at h, fun _ _ _ _ _ _ _ r h => by simp [impl_depthOf.j0] at h, fun _ _ _ _ _ _ r h => by simp [impl_depthOf.j1] at h, fun _ _ _ _ _ r h => by simp [impl_depthOf.l0] at h, fun _ _ _ _ _ r h => by simp [impl_depthOf.j3] at h⟩
  | k + 1 => by
    obtain ⟨ih0, ih1, ih2, ih3, ih4⟩ := impl_depthOf.mono_l k; refine ⟨?_, ?_, ?_, ?_, ?_⟩
    · intro y0; unfold impl_depthOf.f; repeat' first
      | (with_reducible exact ih0 _)
      | (with_reducible exact ih1 _ _ _ _ _ _ _)
      | (with_reducible exact ih2 _ _ _ _ _ _)
      | (with_reducible exact ih3 _ _ _ _ _)
      | (with_reducible exact ih4 _ _ _ _ _)
      | (with_reducible exact impl_isProper.mono _ _)
      | (with_reducible exact LeO.refl _)
      | (with_reducible exact LeO.none _)
      | (with_reducible refine LeO.ite ?_ ?_)
      | (with_reducible refine LeO.bind ?_ (fun _ => ?_))
    · intro y0 y1 y2 y3 y4 y5 y6; unfold impl_depthOf.j0; repeat' first
      | (with_reducible exact ih0 _)
      | (with_reducible exact ih1 _ _ _ _ _ _ _)
      | (with_reducible exact ih2 _ _ _ _ _ _)
      | (with_reducible exact ih3 _ _ _ _ _)
      | (with_reducible exact ih4 _ _ _ _ _)
      | (with_reducible exact impl_isProper.mono _ _)
      | (with_reducible exact LeO.refl _)
      | (with_reducible exact LeO.none _)
      | (with_reducible refine LeO.ite ?_ ?_)
      | (with_reducible refine LeO.bind ?_ (fun _ => ?_))
    · intro y0 y1 y2 y3 y4 y5; unfold impl_depthOf.j1; repeat' first
      | (with_reducible exact ih0 _)
      | (with_reducible exact ih1 _ _ _ _ _ _ _)
      | (with_reducible exact ih2 _ _ _ _ _ _)
      | (with_reducible exact ih3 _ _ _ _ _)
      | (with_reducible exact ih4 _ _ _ _ _)
      | (with_reducible exact impl_isProper.mono _ _)
      | (with_reducible exact LeO.refl _)
      | (with_reducible exact LeO.none _)
      | (with_reducible refine LeO.ite ?_ ?_)
      | (with_reducible refine LeO.bind ?_ (fun _ => ?_))
    · intro y0 y1 y2 y3 y4; unfold impl_depthOf.l0; repeat' first
      | (with_reducible exact ih0 _)
      | (with_reducible exact ih1 _ _ _ _ _ _ _)
      | (with_reducible exact ih2 _ _ _ _ _ _)
      | (with_reducible exact ih3 _ _ _ _ _)
      | (with_reducible exact ih4 _ _ _ _ _)
      | (with_reducible exact impl_isProper.mono _ _)
      | (with_reducible exact LeO.refl _)
      | (with_reducible exact LeO.none _)
      | (with_reducible refine LeO.ite ?_ ?_)
      | (with_reducible refine LeO.bind ?_ (fun _ => ?_))
    · intro y0 y1 y2 y3 y4; unfold impl_depthOf.j3; repeat' first
      | (with_reducible exact ih0 _)
      | (with_reducible exact ih1 _ _ _ _ _ _ _)
      | (with_reducible exact ih2 _ _ _ _ _ _)
      | (with_reducible exact ih3 _ _ _ _ _)
      | (with_reducible exact ih4 _ _ _ _ _)
      | (with_reducible exact impl_isProper.mono _ _)
      | (with_reducible exact LeO.refl _)
      | (with_reducible exact LeO.none _)
      | (with_reducible refine LeO.ite ?_ ?_)
      | (with_reducible refine LeO.bind ?_ (fun _ => ?_))
theorem impl_depthOf.mono : ∀ a0 k, LeO (impl_depthOf.f k a0) (impl_depthOf.f (k + 1) a0) := by
  intro a0 k; obtain ⟨ih0, ih1, ih2, ih3, ih4⟩ := impl_depthOf.mono_l k; exact ih0 a0
set_option maxHeartbeats 8000000 in
set_option maxRecDepth 100000 in
theorem impl_depthOf.calls (k : Nat) : ∀ (A0 : Option Addr) (c0 : Nat) (l0 : List (S155)) (r1 : Int) (r2 : Int) (w : World) (hr0 : Kd.C k155 w A0 l0.length l0) (hc0 : l0.length ≤ c0) (h : impl_depthOf.f k l0 = some (r1, r2)),
    Calls Tryz.prog 137 #[.slice A0 l0.length c0] w fun e w' => e = .returned (.tuple #[.int .i64 r1, .int .i64 r2]) ∧ Below w.heap.size w w' := by
  induction k using Nat.strongRecOn with
  | _ k ih =>
  intro A0 c0 l0 r1 r2 w hr0 hc0 h; cases k with
  | zero => exact absurd h (by simp [impl_depthOf.f])
  | succ k =>
  simp only [impl_depthOf.f] at h; have hu155 := Tryz.underlying155; have HR0 := Aside0.mk hr0; have HC0 := Aside0.mk hc0; clear hr0 hc0; have HB := Aside0.mk (Below.refl w.heap.size w); have H : (if (l0.length : Int) = 0 then (some (0, 0)) else (if 0 < (l0.length : Int) then (if ((rd_T155 l0 0).f0) = 1 then (impl_depthOf.j0 k l0 ((rd_T155 l0 0).f0) (((rd_T155 l0 0).f0) == 1) ((rd_T155 l0 0).f0) ((rd_T155 l0 0).f1) ((rd_T155 l0 0).f2) ((rd_T155 l0 0).f3)) else (if ((rd_T155 l0 0).f0) = 2 then (impl_depthOf.j0 k l0 ((rd_T155 l0 0).f0) (((rd_T155 l0 0).f0) == 2) ((rd_T155 l0 0).f0) ((rd_T155 l0 0).f1) ((rd_T155 l0 0).f2) ((rd_T155 l0 0).f3)) else (impl_depthOf.j0 k l0 ((rd_T155 l0 0).f0) (((rd_T155 l0 0).f0) == 3) ((rd_T155 l0 0).f0) ((rd_T155 l0 0).f1) ((rd_T155 l0 0).f2) ((rd_T155 l0 0).f3)))) else (none))) = some (r1, r2) := h; clear h; by_cases c2 : (l0.length : Int) = 0
  · rw [if_pos c2] at H; have c2b0 : ((l0.length : Int) == 0) = true := beq_iff_eq.mpr c2; have c2b1 : ((l0.length : Int) != 0) = false := bne_eq_false_iff_eq.mpr c2; clear c2; simp only [Option.some.injEq, Prod.mk.injEq] at H; obtain ⟨rfl, rfl⟩ := H; go_enter Tryz.func137, Tryz.ntmps137; go_wp2; go_ret2; exact ⟨Rf, By⟩
  · rw [if_neg c2] at H; have c2b0 : ((l0.length : Int) == 0) = false := beq_eq_false_iff_ne.mpr c2; have c2b1 : ((l0.length : Int) != 0) = true := bne_iff_ne.mpr c2; have c2b2 : ¬ (l0 = []) := fun h_ => c2 (by rw [h_]; rfl)
    by_cases c3 : 0 < (l0.length : Int)
    · rw [if_pos c3] at H; have c3b0 : decide (0 < (l0.length : Int)) = true := decide_eq_true c3; have c3b1 : decide (0 < l0.length) = true := decide_eq_true (by omega); clear c3; have HC4 := Aside0.mk H; clear H; have p361 : 0 ≤ (0 : Int) := (by omega); have q361 : 0 < (l0.length : Int) := of_decide_eq_true Da; obtain ⟨ad361, e361, hx361_0, hx361_1, hx361_2, hx361_3⟩ := at_T155 HR0.out 0 p361 q361; cases e361
      have qi361 : (0 < l0.length) = True := eq_true (by omega); (try rw [show ((0 : Int)).toNat = 0 from rfl] at hx361_0); (try rw [show 0 * 4 = 0 from rfl] at hx361_0); (try rw [Addr.add_zero'] at hx361_0); (try rw [show ((0 : Int)).toNat = 0 from rfl] at hx361_1); (try rw [show 0 * 4 = 0 from rfl] at hx361_1); (try rw [Addr.add_zero'] at hx361_1); (try rw [show ((0 : Int)).toNat = 0 from rfl] at hx361_2); (try rw [show 0 * 4 = 0 from rfl] at hx361_2); (try rw [Addr.add_zero'] at hx361_2); (try rw [show ((0 : Int)).toNat = 0 from rfl] at hx361_3); (try rw [show 0 * 4 = 0 from rfl] at hx361_3); (try rw [Addr.add_zero'] at hx361_3); replace p361 := eq_true p361; replace q361 := eq_true q361; go_enter Tryz.func137, Tryz.ntmps137; go_upto_if 17 with (first | ((with_reducible refine gate_dst (N := 4) rfl ?_); refine box_event ?hg (N := 4) ?hd (cs := #[.int .i64 0, .string (⟨#[]⟩ : ByteArray), .string (⟨#[]⟩ : ByteArray), .int .i64 0]) (t := 155) ?hr ?_; (case hd => rfl); (case hg => rfl); (case hr => first | (go_simp; done) | (go_simp; rfl)); intro gb362 hg w5 hbox hb; have n_ := aa (below_step By hb) <| aa (hbox) <| aa ((by rw [hg]; exact (below_size By) : w.heap.size ≤ gb362)) <| Aside0.mk ((by rw [hg]; exact (below_size By) : w.heap.size ≤ gb362)); clear HB; obtain ⟨HB, BK362, GW362, GE362⟩ := n_; clear hb hbox hg; have ⟨hcz6_0, hcz6_1, hcz6_2, hcz6_3⟩ := cq4 BK362.out; have ⟨hfz6_0, hfz6_1, hfz6_2, hfz6_3⟩ := fq4 BK362.out)); (try simp only [Act.put, List.setIfInBounds_toArray, List.set_cons_zero, List.set_cons_succ]); go_cut [17] (fun v17 wc => ∃ (kq : Nat) (x17_3 : Bool), v17 = .bool x17_3 ∧ Aside0 (impl_depthOf.j0 kq l0 ((rd_T155 l0 0).f0) x17_3 ((rd_T155 l0 0).f0) ((rd_T155 l0 0).f1) ((rd_T155 l0 0).f2) ((rd_T155 l0 0).f3) = some (r1, r2)) ∧ Aside0 (kq ≤ k) ∧ Aside0 (wc.heap[gb362]? = some (.cells #[.int .i64 ((rd_T155 l0 0).f0), .string ((rd_T155 l0 0).f1), .string ((rd_T155 l0 0).f2), .int .i64 ((rd_T155 l0 0).f3)] 155 (0, 0))) ∧ Aside0 (Below w.heap.size w wc))
      case first =>
        have H := HC4.out; clear HC4; by_cases c7 : ((rd_T155 l0 0).f0) = 1
        · rw [if_pos c7] at H; have c7b0 : (((rd_T155 l0 0).f0) == 1) = true := beq_iff_eq.mpr c7; have c7b1 : (((rd_T155 l0 0).f0) != 1) = false := bne_eq_false_iff_eq.mpr c7; clear c7; (first | rw [c7b0] | (simp only [i64_w, i32_w]; rw [c7b0]) | skip); have H' := Aside0.mk H; clear H; go_wp2; go_meet
          case rel => exact ⟨_, ((((rd_T155 l0 0).f0) == 1)), (by first | rfl | (simp; done) | (simp [*]; done)), H', ⟨by first | omega | exact Nat.le_refl _⟩, ⟨(pq4 Pk)⟩, ⟨By⟩⟩
        · rw [if_neg c7] at H; have c7b0 : (((rd_T155 l0 0).f0) == 1) = false := beq_eq_false_iff_ne.mpr c7; have c7b1 : (((rd_T155 l0 0).f0) != 1) = true := bne_iff_ne.mpr c7; (first | rw [c7b0] | (simp only [i64_w, i32_w]; rw [c7b0]) | skip); by_cases c8 : ((rd_T155 l0 0).f0) = 2
          · rw [if_pos c8] at H; have c8b0 : (((rd_T155 l0 0).f0) == 2) = true := beq_iff_eq.mpr c8; have c8b1 : (((rd_T155 l0 0).f0) != 2) = false := bne_eq_false_iff_eq.mpr c8; clear c8; have H' := Aside0.mk H; clear H; go_wp2; go_meet
            case rel => exact ⟨_, ((((rd_T155 l0 0).f0) == 2)), (by first | rfl | (simp; done) | (simp [*]; done)), H', ⟨by first | omega | exact Nat.le_refl _⟩, ⟨(pq4 Pk)⟩, ⟨By⟩⟩
          · rw [if_neg c8] at H; have c8b0 : (((rd_T155 l0 0).f0) == 2) = false := beq_eq_false_iff_ne.mpr c8; have c8b1 : (((rd_T155 l0 0).f0) != 2) = true := bne_iff_ne.mpr c8; have H' := Aside0.mk H; clear H; go_wp2; go_meet
            case rel => exact ⟨_, ((((rd_T155 l0 0).f0) == 3)), (by first | rfl | (simp; done) | (simp [*]; done)), H', ⟨by first | omega | exact Nat.le_refl _⟩, ⟨(pq4 Pk)⟩, ⟨By⟩⟩
      case rest =>
        clear HC4; try clear c1
        try clear c2
        try clear c2b0
        try clear c2b1
        try clear c2b2
        try clear p2
        try clear c3
        try clear c3b0
        try clear c3b1
        try clear p3
        try clear q3
        try clear hx3
        try clear qi3
        try clear c7
        try clear c7b0
        try clear c7b1
        try clear c8
        try clear c8b0
        try clear c8b1
        try clear hcz6_0
        try clear hcz6_1
        try clear hcz6_2
        try clear hcz6_3
        try clear hfz6_0
        try clear hfz6_1
        try clear hfz6_2
        try clear hfz6_3
        try clear hx361_0
        try clear hx361_1
        try clear hx361_2
        try clear hx361_3
        try clear p361
        try clear q361
        obtain ⟨kq, x17_3, rfl, HA, HJ3, BK362, HB⟩ := hcut; cases kq with
        | zero => exact absurd HA.out (by simp [impl_depthOf.j0])
        | succ kj3 =>
          have H := HA.out; clear HA; simp only [impl_depthOf.j0] at H; by_cases c9 : x17_3 = true
          · subst c9; have H1 : (if ((rd_T155 l0 0).f1).toList = ([] : List UInt8) then (if ((rd_T155 l0 0).f2).toList = ([] : List UInt8) then (if ((rd_T155 l0 0).f3) < 1 then (impl_depthOf.j1 kj3 l0 true ((rd_T155 l0 0).f0) ((rd_T155 l0 0).f1) ((rd_T155 l0 0).f2) ((rd_T155 l0 0).f3)) else (if ((rd_T155 l0 0).f0) = 3 then (if ((rd_T155 l0 0).f3) = 1 then (impl_depthOf.j1 kj3 l0 (decide (((rd_T155 l0 0).f3) > 20)) ((rd_T155 l0 0).f0) ((rd_T155 l0 0).f1) ((rd_T155 l0 0).f2) ((rd_T155 l0 0).f3)) else (impl_depthOf.j1 kj3 l0 true ((rd_T155 l0 0).f0) ((rd_T155 l0 0).f1) ((rd_T155 l0 0).f2) ((rd_T155 l0 0).f3))) else (impl_depthOf.j1 kj3 l0 (decide (((rd_T155 l0 0).f3) > 20)) ((rd_T155 l0 0).f0) ((rd_T155 l0 0).f1) ((rd_T155 l0 0).f2) ((rd_T155 l0 0).f3)))) else (impl_depthOf.j1 kj3 l0 true ((rd_T155 l0 0).f0) ((rd_T155 l0 0).f1) ((rd_T155 l0 0).f2) ((rd_T155 l0 0).f3))) else (impl_depthOf.j1 kj3 l0 true ((rd_T155 l0 0).f0) ((rd_T155 l0 0).f1) ((rd_T155 l0 0).f2) ((rd_T155 l0 0).f3))) = some (r1, r2) := by rw [if_pos rfl] at H; exact H
            clear H; have H := H1; clear H1; have HC10 := Aside0.mk H; clear H; go_upto_region 9 with (fail); go_cut [48] (fun v48 wc => ∃ (kq : Nat) (x48_9 : Bool), v48 = .bool x48_9 ∧ Aside0 (impl_depthOf.j1 kq l0 x48_9 ((rd_T155 l0 0).f0) ((rd_T155 l0 0).f1) ((rd_T155 l0 0).f2) ((rd_T155 l0 0).f3) = some (r1, r2)) ∧ Aside0 (kq ≤ kj3) ∧ Aside0 (wc.heap[gb362]? = some (.cells #[.int .i64 ((rd_T155 l0 0).f0), .string ((rd_T155 l0 0).f1), .string ((rd_T155 l0 0).f2), .int .i64 ((rd_T155 l0 0).f3)] 155 (0, 0))) ∧ Aside0 (Below w.heap.size w wc))
            case first =>
              have H := HC10.out; clear HC10; by_cases c11 : ((rd_T155 l0 0).f1).toList = ([] : List UInt8)
              · rw [if_pos c11] at H; have c11b0 : (((rd_T155 l0 0).f1).toList == ([] : List UInt8)) = true := beq_iff_eq.mpr c11; have c11b1 : (((rd_T155 l0 0).f1).toList != ([] : List UInt8)) = false := bne_eq_false_iff_eq.mpr c11; clear c11; (first | rw [c11b0] | (simp only [i64_w, i32_w]; rw [c11b0]) | skip); by_cases c12 : ((rd_T155 l0 0).f2).toList = ([] : List UInt8)
                · rw [if_pos c12] at H; have c12b0 : (((rd_T155 l0 0).f2).toList == ([] : List UInt8)) = true := beq_iff_eq.mpr c12; have c12b1 : (((rd_T155 l0 0).f2).toList != ([] : List UInt8)) = false := bne_eq_false_iff_eq.mpr c12; clear c12; by_cases c13 : ((rd_T155 l0 0).f3) < 1
                  · rw [if_pos c13] at H; have c13b0 : decide (((rd_T155 l0 0).f3) < 1) = true := decide_eq_true c13; clear c13; have H' := Aside0.mk H; clear H; have hcz14_0 : wc.cell? ⟨gb362, 0, none⟩ = some (.int .i64 ((rd_T155 l0 0).f0)) := bc BK362.out 0; have hcz14_1 : wc.cell? ⟨gb362, 1, none⟩ = some (.string ((rd_T155 l0 0).f1)) := bc BK362.out 1; have hcz14_2 : wc.cell? ⟨gb362, 2, none⟩ = some (.string ((rd_T155 l0 0).f2)) := bc BK362.out 2; have hcz14_3 : wc.cell? ⟨gb362, 3, none⟩ = some (.int .i64 ((rd_T155 l0 0).f3)) := bc BK362.out 3; have hfz14_0 := blk_frozen BK362.out 0; have hfz14_1 := blk_frozen BK362.out 1; have hfz14_2 := blk_frozen BK362.out 2; have hfz14_3 := blk_frozen BK362.out 3; go_wp2; go_meet
                    case rel => exact ⟨_, (true), (by first | rfl | (simp; done) | (simp [*]; done)), H', ⟨by have := HJ3.out; first | omega | exact Nat.le_refl _⟩, ⟨by (with_reducible repeat (first | refine blk_drewN ?_ _ | refine blk_drew ?_ | refine blk_alloc ?_ _)); exact BK362.out⟩, ⟨By⟩⟩
                  · rw [if_neg c13] at H; have c13b0 : decide (((rd_T155 l0 0).f3) < 1) = false := decide_eq_false c13; clear c13; by_cases c15 : ((rd_T155 l0 0).f0) = 3
                    · rw [if_pos c15] at H; have c15b0 : (((rd_T155 l0 0).f0) == 3) = true := beq_iff_eq.mpr c15; have c15b1 : (((rd_T155 l0 0).f0) != 3) = false := bne_eq_false_iff_eq.mpr c15; clear c15; by_cases c16 : ((rd_T155 l0 0).f3) = 1
                      · rw [if_pos c16] at H; have c16b0 : (((rd_T155 l0 0).f3) == 1) = true := beq_iff_eq.mpr c16; have c16b1 : (((rd_T155 l0 0).f3) != 1) = false := bne_eq_false_iff_eq.mpr c16; clear c16; have H' := Aside0.mk H; clear H; have hcz17_0 : wc.cell? ⟨gb362, 0, none⟩ = some (.int .i64 ((rd_T155 l0 0).f0)) := bc BK362.out 0; have hcz17_1 : wc.cell? ⟨gb362, 1, none⟩ = some (.string ((rd_T155 l0 0).f1)) := bc BK362.out 1; have hcz17_2 : wc.cell? ⟨gb362, 2, none⟩ = some (.string ((rd_T155 l0 0).f2)) := bc BK362.out 2; have hcz17_3 : wc.cell? ⟨gb362, 3, none⟩ = some (.int .i64 ((rd_T155 l0 0).f3)) := bc BK362.out 3; have hfz17_0 := blk_frozen BK362.out 0; have hfz17_1 := blk_frozen BK362.out 1; have hfz17_2 := blk_frozen BK362.out 2; have hfz17_3 := blk_frozen BK362.out 3; go_wp2; go_meet
                        case rel => exact ⟨_, (decide (((rd_T155 l0 0).f3) > 20)), (by first | rfl | (simp; done) | (simp [*]; done)), H', ⟨by have := HJ3.out; first | omega | exact Nat.le_refl _⟩, ⟨by (with_reducible repeat (first | refine blk_drewN ?_ _ | refine blk_drew ?_ | refine blk_alloc ?_ _)); exact BK362.out⟩, ⟨By⟩⟩
                      · rw [if_neg c16] at H; have c16b0 : (((rd_T155 l0 0).f3) == 1) = false := beq_eq_false_iff_ne.mpr c16; have c16b1 : (((rd_T155 l0 0).f3) != 1) = true := bne_iff_ne.mpr c16; have H' := Aside0.mk H; clear H; have hcz18_0 : wc.cell? ⟨gb362, 0, none⟩ = some (.int .i64 ((rd_T155 l0 0).f0)) := bc BK362.out 0; have hcz18_1 : wc.cell? ⟨gb362, 1, none⟩ = some (.string ((rd_T155 l0 0).f1)) := bc BK362.out 1; have hcz18_2 : wc.cell? ⟨gb362, 2, none⟩ = some (.string ((rd_T155 l0 0).f2)) := bc BK362.out 2; have hcz18_3 : wc.cell? ⟨gb362, 3, none⟩ = some (.int .i64 ((rd_T155 l0 0).f3)) := bc BK362.out 3; have hfz18_0 := blk_frozen BK362.out 0; have hfz18_1 := blk_frozen BK362.out 1; have hfz18_2 := blk_frozen BK362.out 2; have hfz18_3 := blk_frozen BK362.out 3; go_wp2; go_meet
                        case rel => exact ⟨_, (true), (by first | rfl | (simp; done) | (simp [*]; done)), H', ⟨by have := HJ3.out; first | omega | exact Nat.le_refl _⟩, ⟨by (with_reducible repeat (first | refine blk_drewN ?_ _ | refine blk_drew ?_ | refine blk_alloc ?_ _)); exact BK362.out⟩, ⟨By⟩⟩
                    · rw [if_neg c15] at H; have c15b0 : (((rd_T155 l0 0).f0) == 3) = false := beq_eq_false_iff_ne.mpr c15; have c15b1 : (((rd_T155 l0 0).f0) != 3) = true := bne_iff_ne.mpr c15; have H' := Aside0.mk H; clear H; have hcz19_0 : wc.cell? ⟨gb362, 0, none⟩ = some (.int .i64 ((rd_T155 l0 0).f0)) := bc BK362.out 0; have hcz19_1 : wc.cell? ⟨gb362, 1, none⟩ = some (.string ((rd_T155 l0 0).f1)) := bc BK362.out 1; have hcz19_2 : wc.cell? ⟨gb362, 2, none⟩ = some (.string ((rd_T155 l0 0).f2)) := bc BK362.out 2; have hcz19_3 : wc.cell? ⟨gb362, 3, none⟩ = some (.int .i64 ((rd_T155 l0 0).f3)) := bc BK362.out 3; have hfz19_0 := blk_frozen BK362.out 0; have hfz19_1 := blk_frozen BK362.out 1; have hfz19_2 := blk_frozen BK362.out 2; have hfz19_3 := blk_frozen BK362.out 3; go_wp2; go_meet
                      case rel => exact ⟨_, (decide (((rd_T155 l0 0).f3) > 20)), (by first | rfl | (simp; done) | (simp [*]; done)), H', ⟨by have := HJ3.out; first | omega | exact Nat.le_refl _⟩, ⟨by (with_reducible repeat (first | refine blk_drewN ?_ _ | refine blk_drew ?_ | refine blk_alloc ?_ _)); exact BK362.out⟩, ⟨By⟩⟩
                · rw [if_neg c12] at H; have c12b0 : (((rd_T155 l0 0).f2).toList == ([] : List UInt8)) = false := beq_eq_false_iff_ne.mpr c12; have c12b1 : (((rd_T155 l0 0).f2).toList != ([] : List UInt8)) = true := bne_iff_ne.mpr c12; have H' := Aside0.mk H; clear H; have hcz20_0 : wc.cell? ⟨gb362, 0, none⟩ = some (.int .i64 ((rd_T155 l0 0).f0)) := bc BK362.out 0; have hcz20_1 : wc.cell? ⟨gb362, 1, none⟩ = some (.string ((rd_T155 l0 0).f1)) := bc BK362.out 1; have hcz20_2 : wc.cell? ⟨gb362, 2, none⟩ = some (.string ((rd_T155 l0 0).f2)) := bc BK362.out 2; have hcz20_3 : wc.cell? ⟨gb362, 3, none⟩ = some (.int .i64 ((rd_T155 l0 0).f3)) := bc BK362.out 3; have hfz20_0 := blk_frozen BK362.out 0; have hfz20_1 := blk_frozen BK362.out 1; have hfz20_2 := blk_frozen BK362.out 2; have hfz20_3 := blk_frozen BK362.out 3; go_wp2; go_meet
                  case rel => exact ⟨_, (true), (by first | rfl | (simp; done) | (simp [*]; done)), H', ⟨by have := HJ3.out; first | omega | exact Nat.le_refl _⟩, ⟨by (with_reducible repeat (first | refine blk_drewN ?_ _ | refine blk_drew ?_ | refine blk_alloc ?_ _)); exact BK362.out⟩, ⟨By⟩⟩
              · rw [if_neg c11] at H; have c11b0 : (((rd_T155 l0 0).f1).toList == ([] : List UInt8)) = false := beq_eq_false_iff_ne.mpr c11; have c11b1 : (((rd_T155 l0 0).f1).toList != ([] : List UInt8)) = true := bne_iff_ne.mpr c11; (first | rw [c11b0] | (simp only [i64_w, i32_w]; rw [c11b0]) | skip); have H' := Aside0.mk H; clear H; have hcz21_0 : wc.cell? ⟨gb362, 0, none⟩ = some (.int .i64 ((rd_T155 l0 0).f0)) := bc BK362.out 0; have hcz21_1 : wc.cell? ⟨gb362, 1, none⟩ = some (.string ((rd_T155 l0 0).f1)) := bc BK362.out 1; have hcz21_2 : wc.cell? ⟨gb362, 2, none⟩ = some (.string ((rd_T155 l0 0).f2)) := bc BK362.out 2; have hcz21_3 : wc.cell? ⟨gb362, 3, none⟩ = some (.int .i64 ((rd_T155 l0 0).f3)) := bc BK362.out 3; have hfz21_0 := blk_frozen BK362.out 0; have hfz21_1 := blk_frozen BK362.out 1; have hfz21_2 := blk_frozen BK362.out 2; have hfz21_3 := blk_frozen BK362.out 3; go_wp2; go_meet
                case rel => exact ⟨_, (true), (by first | rfl | (simp; done) | (simp [*]; done)), H', ⟨by have := HJ3.out; first | omega | exact Nat.le_refl _⟩, ⟨by (with_reducible repeat (first | refine blk_drewN ?_ _ | refine blk_drew ?_ | refine blk_alloc ?_ _)); exact BK362.out⟩, ⟨By⟩⟩
            case rest =>
              clear HC10; try clear c1
              try clear c2
              try clear c2b0
              try clear c2b1
              try clear c2b2
              try clear p2
              try clear c3
              try clear c3b0
              try clear c3b1
              try clear p3
              try clear q3
              try clear hx3
              try clear qi3
              try clear c7
              try clear c7b0
              try clear c7b1
              try clear c8
              try clear c8b0
              try clear c8b1
              try clear c9
              try clear c11
              try clear c11b0
              try clear c11b1
              try clear c12
              try clear c12b0
              try clear c12b1
              try clear c13
              try clear c13b0
              try clear c15
              try clear c15b0
              try clear c15b1
              try clear c16
              try clear c16b0
              try clear c16b1
              try clear hcz14_0
              try clear hcz14_1
              try clear hcz14_2
              try clear hcz14_3
              try clear hcz17_0
              try clear hcz17_1
              try clear hcz17_2
              try clear hcz17_3
              try clear hcz18_0
              try clear hcz18_1
              try clear hcz18_2
              try clear hcz18_3
              try clear hcz19_0
              try clear hcz19_1
              try clear hcz19_2
              try clear hcz19_3
              try clear hcz20_0
              try clear hcz20_1
              try clear hcz20_2
              try clear hcz20_3
              try clear hcz21_0
              try clear hcz21_1
              try clear hcz21_2
              try clear hcz21_3
              try clear hcz6_0
              try clear hcz6_1
              try clear hcz6_2
              try clear hcz6_3
              try clear hfz14_0
              try clear hfz14_1
              try clear hfz14_2
              try clear hfz14_3
              try clear hfz17_0
              try clear hfz17_1
              try clear hfz17_2
              try clear hfz17_3
              try clear hfz18_0
              try clear hfz18_1
              try clear hfz18_2
              try clear hfz18_3
              try clear hfz19_0
              try clear hfz19_1
              try clear hfz19_2
              try clear hfz19_3
              try clear hfz20_0
              try clear hfz20_1
              try clear hfz20_2
              try clear hfz20_3
              try clear hfz21_0
              try clear hfz21_1
              try clear hfz21_2
              try clear hfz21_3
              try clear hfz6_0
              try clear hfz6_1
              try clear hfz6_2
              try clear hfz6_3
              try clear hx361_0
              try clear hx361_1
              try clear hx361_2
              try clear hx361_3
              try clear p2
              try clear p3
              try clear p361
              try clear q3
              try clear q361
              obtain ⟨kq, x48_9, rfl, HA, HJ9, BK362, HB⟩ := hcut; cases kq with
              | zero => exact absurd HA.out (by simp [impl_depthOf.j1])
              | succ kj9 =>
                have H := HA.out; clear HA; simp only [impl_depthOf.j1] at H; by_cases c22 : x48_9 = true
                · subst c22; have H1 : (some (0, 0)) = some (r1, r2) := by rw [if_pos rfl] at H; exact H
                  clear H; have H := H1; clear H1; simp only [Option.some.injEq, Prod.mk.injEq] at H; obtain ⟨rfl, rfl⟩ := H; go_wp2; go_ret2; exact ⟨Rf, By⟩
                · replace c22 := Bool.eq_false_iff.mpr c22; subst c22; have H1 : (impl_depthOf.l0 kj9 l0 1 0 ((rd_T155 l0 0).f3) 0) = some (r1, r2) := by rw [if_neg (show ¬ (false = true) by decide)] at H; exact H
                  clear H; have H := H1; clear H1; have H' := Aside0.mk H; clear H; have hcz23_0 : wc.cell? ⟨gb362, 0, none⟩ = some (.int .i64 ((rd_T155 l0 0).f0)) := bc BK362.out 0; have hcz23_1 : wc.cell? ⟨gb362, 1, none⟩ = some (.string ((rd_T155 l0 0).f1)) := bc BK362.out 1; have hcz23_2 : wc.cell? ⟨gb362, 2, none⟩ = some (.string ((rd_T155 l0 0).f2)) := bc BK362.out 2; have hcz23_3 : wc.cell? ⟨gb362, 3, none⟩ = some (.int .i64 ((rd_T155 l0 0).f3)) := bc BK362.out 3; have hfz23_0 := blk_frozen BK362.out 0; have hfz23_1 := blk_frozen BK362.out 1; have hfz23_2 := blk_frozen BK362.out 2; have hfz23_3 := blk_frozen BK362.out 3; go_wp2; go_loopg [5, 6, 51] kj9 (fun kq v5 v6 v51 w' => ∃ (x5_3 : Int) (x6_3 : Int) (x51_3 : Int), v5 = .int .i64 x5_3 ∧ v6 = .int .i64 x6_3 ∧ v51 = .int .i64 x51_3 ∧ Aside0 (impl_depthOf.l0 kq l0 x5_3 x6_3 ((rd_T155 l0 0).f3) x51_3 = some (r1, r2)) ∧ Aside0 (kq ≤ kj9) ∧ Aside0 (w'.heap[gb362]? = some (.cells #[.int .i64 ((rd_T155 l0 0).f0), .string ((rd_T155 l0 0).f1), .string ((rd_T155 l0 0).f2), .int .i64 ((rd_T155 l0 0).f3)] 155 (0, 0))) ∧ Aside0 (Below w.heap.size w w'))
                  case atStart => exact ⟨(1), (0), (0), (by first | rfl | (simp; done) | (simp [*]; done)), (by first | rfl | (simp; done) | (simp [*]; done)), (by first | rfl | (simp; done) | (simp [*]; done)), H', ⟨Nat.le_refl _⟩, ⟨by (with_reducible repeat (first | refine blk_drewN ?_ _ | refine blk_drew ?_ | refine blk_alloc ?_ _)); exact BK362.out⟩, ⟨By⟩⟩
                  case round =>
                    clear H'; try clear c1
                    try clear c2
                    try clear c2b0
                    try clear c2b1
                    try clear c2b2
                    try clear p2
                    try clear c3
                    try clear c3b0
                    try clear c3b1
                    try clear p3
                    try clear q3
                    try clear hx3
                    try clear qi3
                    try clear c7
                    try clear c7b0
                    try clear c7b1
                    try clear c8
                    try clear c8b0
                    try clear c8b1
                    try clear c9
                    try clear c11
                    try clear c11b0
                    try clear c11b1
                    try clear c12
                    try clear c12b0
                    try clear c12b1
                    try clear c13
                    try clear c13b0
                    try clear c15
                    try clear c15b0
                    try clear c15b1
                    try clear c16
                    try clear c16b0
                    try clear c16b1
                    try clear c22
                    try clear hcz14_0
                    try clear hcz14_1
                    try clear hcz14_2
                    try clear hcz14_3
                    try clear hcz17_0
                    try clear hcz17_1
                    try clear hcz17_2
                    try clear hcz17_3
                    try clear hcz18_0
                    try clear hcz18_1
                    try clear hcz18_2
                    try clear hcz18_3
                    try clear hcz19_0
                    try clear hcz19_1
                    try clear hcz19_2
                    try clear hcz19_3
                    try clear hcz20_0
                    try clear hcz20_1
                    try clear hcz20_2
                    try clear hcz20_3
                    try clear hcz21_0
                    try clear hcz21_1
                    try clear hcz21_2
                    try clear hcz21_3
                    try clear hcz23_0
                    try clear hcz23_1
                    try clear hcz23_2
                    try clear hcz23_3
                    try clear hcz6_0
                    try clear hcz6_1
                    try clear hcz6_2
                    try clear hcz6_3
                    try clear hfz14_0
                    try clear hfz14_1
                    try clear hfz14_2
                    try clear hfz14_3
                    try clear hfz17_0
                    try clear hfz17_1
                    try clear hfz17_2
                    try clear hfz17_3
                    try clear hfz18_0
                    try clear hfz18_1
                    try clear hfz18_2
                    try clear hfz18_3
                    try clear hfz19_0
                    try clear hfz19_1
                    try clear hfz19_2
                    try clear hfz19_3
                    try clear hfz20_0
                    try clear hfz20_1
                    try clear hfz20_2
                    try clear hfz20_3
                    try clear hfz21_0
                    try clear hfz21_1
                    try clear hfz21_2
                    try clear hfz21_3
                    try clear hfz23_0
                    try clear hfz23_1
                    try clear hfz23_2
                    try clear hfz23_3
                    try clear hfz6_0
                    try clear hfz6_1
                    try clear hfz6_2
                    try clear hfz6_3
                    try clear hx361_0
                    try clear hx361_1
                    try clear hx361_2
                    try clear hx361_3
                    try clear p2
                    try clear p3
                    try clear p361
                    try clear q3
                    try clear q361
                    obtain ⟨x5_3, x6_3, x51_3, rfl, rfl, rfl, HA, HK3, BK362, HB⟩ := hrel; cases gk with
                    | zero => exact absurd HA.out (by simp [impl_depthOf.l0])
                    | succ k3 =>
                      have H := HA.out; clear HA; simp only [impl_depthOf.l0] at H; by_cases c24 : x51_3 < ((rd_T155 l0 0).f3)
                      · rw [if_pos c24] at H; have c24b0 : decide (x51_3 < ((rd_T155 l0 0).f3)) = true := decide_eq_true c24; clear c24; by_cases c25 : 0 ≤ x5_3
                        · rw [if_pos c25] at H; have c25b0 := eq_true c25; have c25b1 : decide (0 ≤ x5_3) = true := decide_eq_true c25; clear c25; by_cases c26 : x5_3 ≤ (l0.length : Int)
                          · rw [if_pos c26] at H; have c26b0 := eq_true c26; have c26b1 : decide (x5_3 ≤ (l0.length : Int)) = true := decide_eq_true c26; clear c26; obtain ⟨y363, hy363⟩ : ∃ y_ : List (S155), y_ = (l0.drop (x5_3 : Int).toNat) := ⟨_, rfl⟩; replace H : ((impl_depthOf.f k3 y363).bind fun bt367 => (if bt367.1 = 0 then (some (0, 0)) else (impl_depthOf.l0 k3 l0 (wrap64 (x5_3 + bt367.1)) (mx x6_3 bt367.2) ((rd_T155 l0 0).f3) (wrap64 (x51_3 + 1))))) = some (r1, r2) := by first | (rw [hy363]; with_reducible exact H) | (have H2_ := (Option.bind_some _ _).symm.trans H; rw [hy363]; with_reducible exact H2_) | (have H2_ := (Option.bind_some _ _).symm.trans H; with_reducible exact H2_) | with_reducible exact H | (rw [hy363]; exact H) | exact H
                            have Ny363 := Aside0.mk hy363; clear hy363; replace H := Option.bind_eq_some_iff.mp H; obtain ⟨⟨t367, t368⟩, A270, H⟩ := H; replace H : (if t367 = 0 then (some (0, 0)) else (impl_depthOf.l0 k3 l0 (wrap64 (x5_3 + t367)) (mx x6_3 t368) ((rd_T155 l0 0).f3) (wrap64 (x51_3 + 1)))) = some (r1, r2) := H; have A27 := Aside0.mk A270; clear A270; by_cases c28 : t367 = 0
                            · rw [if_pos c28] at H; have c28b0 : (t367 == 0) = true := beq_iff_eq.mpr c28; have c28b1 : (t367 != 0) = false := bne_eq_false_iff_eq.mpr c28; clear c28; simp only [Option.some.injEq, Prod.mk.injEq] at H; obtain ⟨rfl, rfl⟩ := H; have q29 : (x5_3 : Int) ≤ ((l0.length : Int) : Int) := of_decide_eq_true Da; obtain ⟨i029, hi029, _, hsz29, _⟩ := info_parts info155; have hroom29 : l0.length ≤ c0 := HC0.out; have hC29 : Kd.C k155 _ (some ad361) l0.length l0 := HR0.out; have q029 : (0 : Int) ≤ (x5_3 : Int) := of_decide_eq_true Da; have hcut29 := cut_from (P := Tryz.prog) 62 155 .i64 Tryz.underlying62 hi029 4 hsz29 (some ad361) l0.length c0 x5_3 q029 q29; have hr29 := Kd.C_drop (m := (x5_3 : Int).toNat) (c := c0) hC29 (by omega) hroom29; obtain ⟨A29, hA29⟩ : ∃ A1, A1 = (if c0 = (x5_3 : Int).toNat then (some ad361) else ((some ad361) : Option Addr).map (·.add ((x5_3 : Int).toNat * 4))) := ⟨_, rfl⟩; obtain ⟨c29, hc29⟩ : ∃ c1, c1 = c0 - (x5_3 : Int).toNat := ⟨_, rfl⟩; have hy29 : y363.length = l0.length - (x5_3 : Int).toNat := (by rw [Ny363.out, List.length_drop] <;> omega); rw [show (l0).drop (x5_3 : Int).toNat = y363 from Ny363.out.symm] at hr29; replace hr29 : Kd.C k155 _ A29 y363.length y363 := (by rw [hA29]; exact hr29); rw [← hy29, ← hA29, ← hc29] at hcut29; have HR366 := Aside0.mk hr29; have HC366 := Aside0.mk (show y363.length ≤ c29 from by rw [hy29, hc29]; exact Nat.sub_le_sub_right hroom29 _); clear hr29 hC29 hroom29 hi029 hsz29 hc29; have KY29 := Aside0.mk hy29; have KA29 := Aside0.mk hA29; clear hy29 hA29; replace q29 := eq_true q29; go_wp2_with (first | ((with_reducible refine gate_callee (f := 137) rfl ?_); refine goesL_ (some 57) rfl rfl Tryz.func137 (by kernel_rfl) rfl #[.slice A29 y363.length c29] rfl Ag ?_; (with_reducible refine (ih k3 (by have := HJ3.out; have := HJ9.out; have := HK3.out; omega) _ _ y363 t367 t368 _ ?side1 ?side2 A27.out).mono ?_); (case side1 => exact rC (Kd.C_below HR366.out HB.out)); (case side2 => exact HC366.out); rintro e w30 ⟨rfl, hb⟩; refine ⟨_, rfl, ?_⟩; have n_ := aa (bb BK362.out hb) <| Aside0.mk (below_step By hb); clear BK362 HB; obtain ⟨BK362, HB⟩ := n_; (try clear hb); (try clear hb2); (try clear hk); (try clear hi))); go_ret2; exact ⟨Rf, By⟩
                            · rw [if_neg c28] at H; have c28b0 : (t367 == 0) = false := beq_eq_false_iff_ne.mpr c28; have c28b1 : (t367 != 0) = true := bne_iff_ne.mpr c28; obtain ⟨ji31, hji31⟩ : ∃ j_ : Int, (mx x6_3 t368) = j_ := ⟨_, rfl⟩; replace H : (impl_depthOf.l0 k3 l0 (wrap64 (x5_3 + t367)) ji31 ((rd_T155 l0 0).f3) (wrap64 (x51_3 + 1))) = some (r1, r2) := by first | (rw [hji31] at H; exact H) | (simp only [hji31] at H ⊢; exact H)
                              (try rw [hji31] at A27); have hji31_ : (if x6_3 < t368 then t368 else x6_3) = ji31 := hji31; have H' := Aside0.mk H; clear H; have q32 : (x5_3 : Int) ≤ ((l0.length : Int) : Int) := of_decide_eq_true Da; obtain ⟨i032, hi032, _, hsz32, _⟩ := info_parts info155; have hroom32 : l0.length ≤ c0 := HC0.out; have hC32 : Kd.C k155 _ (some ad361) l0.length l0 := HR0.out; have q032 : (0 : Int) ≤ (x5_3 : Int) := of_decide_eq_true Da; have hcut32 := cut_from (P := Tryz.prog) 62 155 .i64 Tryz.underlying62 hi032 4 hsz32 (some ad361) l0.length c0 x5_3 q032 q32; have hr32 := Kd.C_drop (m := (x5_3 : Int).toNat) (c := c0) hC32 (by omega) hroom32; obtain ⟨A32, hA32⟩ : ∃ A1, A1 = (if c0 = (x5_3 : Int).toNat then (some ad361) else ((some ad361) : Option Addr).map (·.add ((x5_3 : Int).toNat * 4))) := ⟨_, rfl⟩; obtain ⟨c32, hc32⟩ : ∃ c1, c1 = c0 - (x5_3 : Int).toNat := ⟨_, rfl⟩; have hy32 : y363.length = l0.length - (x5_3 : Int).toNat := (by rw [Ny363.out, List.length_drop] <;> omega); rw [show (l0).drop (x5_3 : Int).toNat = y363 from Ny363.out.symm] at hr32; replace hr32 : Kd.C k155 _ A32 y363.length y363 := (by rw [hA32]; exact hr32); rw [← hy32, ← hA32, ← hc32] at hcut32; have HR366 := Aside0.mk hr32; have HC366 := Aside0.mk (show y363.length ≤ c32 from by rw [hy32, hc32]; exact Nat.sub_le_sub_right hroom32 _); clear hr32 hC32 hroom32 hi032 hsz32 hc32; have KY32 := Aside0.mk hy32; have KA32 := Aside0.mk hA32; clear hy32 hA32; replace q32 := eq_true q32; go_wp2_with (first | ((with_reducible refine gate_callee (f := 137) rfl ?_); refine goesL_ (some 57) rfl rfl Tryz.func137 (by kernel_rfl) rfl #[.slice A32 y363.length c32] rfl Ag ?_; (with_reducible refine (ih k3 (by have := HJ3.out; have := HJ9.out; have := HK3.out; omega) _ _ y363 t367 t368 _ ?side1 ?side2 A27.out).mono ?_); (case side1 => exact rC (Kd.C_below HR366.out HB.out)); (case side2 => exact HC366.out); rintro e w33 ⟨rfl, hb⟩; refine ⟨_, rfl, ?_⟩; have n_ := aa (bb BK362.out hb) <| Aside0.mk (below_step By hb); clear BK362 HB; obtain ⟨BK362, HB⟩ := n_; (try clear hb); (try clear hb2); (try clear hk); (try clear hi))); go_roundg k3
                              case measure => have := HJ3.out; have := HJ9.out; have := HK3.out; omega
                              case rel => exact ⟨(wrap64 (x5_3 + t367)), (ji31), (wrap64 (x51_3 + 1)), (by first | rfl | (simp; done) | (simp [*]; done)), (by first | rfl | (simp; done) | (simp only [← hji31] <;> (first | rfl | simp)) | (simp [*]; done)), (by first | rfl | (simp; done) | (simp [*]; done)), H', ⟨by have := HJ3.out; have := HJ9.out; have := HK3.out; omega⟩, ⟨by (with_reducible repeat (first | refine blk_drewN ?_ _ | refine blk_drew ?_ | refine blk_alloc ?_ _)); exact BK362.out⟩, ⟨By⟩⟩
                          · rw [if_neg c26] at H; exact absurd H (by simp)
                        · rw [if_neg c25] at H; exact absurd H (by simp)
                      · rw [if_neg c24] at H; have c24b0 : decide (x51_3 < ((rd_T155 l0 0).f3)) = false := decide_eq_false c24; clear c24; simp only [Option.some.injEq, Prod.mk.injEq] at H; obtain ⟨rfl, rfl⟩ := H; go_wp2; go_ret2; exact ⟨Rf, By⟩
          · replace c9 := Bool.eq_false_iff.mpr c9; subst c9; have H1 : (if ((rd_T155 l0 0).f0) = 5 then (if ((rd_T155 l0 0).f2).toList = ([] : List UInt8) then (if ((rd_T155 l0 0).f3) = 0 then ((impl_NameRight.f ((rd_T155 l0 0).f1)).bind fun t369 => (if t369 = true then (some (1, 1)) else (some (0, 0)))) else (some (0, 0))) else (some (0, 0))) else (if ((rd_T155 l0 0).f0) = 4 then (impl_depthOf.j3 kj3 (((rd_T155 l0 0).f0) == 4) ((rd_T155 l0 0).f0) ((rd_T155 l0 0).f1) ((rd_T155 l0 0).f2) ((rd_T155 l0 0).f3)) else (if ((rd_T155 l0 0).f0) = 6 then (impl_depthOf.j3 kj3 (((rd_T155 l0 0).f0) == 6) ((rd_T155 l0 0).f0) ((rd_T155 l0 0).f1) ((rd_T155 l0 0).f2) ((rd_T155 l0 0).f3)) else (if ((rd_T155 l0 0).f0) = 7 then (impl_depthOf.j3 kj3 (((rd_T155 l0 0).f0) == 7) ((rd_T155 l0 0).f0) ((rd_T155 l0 0).f1) ((rd_T155 l0 0).f2) ((rd_T155 l0 0).f3)) else (impl_depthOf.j3 kj3 (((rd_T155 l0 0).f0) == 8) ((rd_T155 l0 0).f0) ((rd_T155 l0 0).f1) ((rd_T155 l0 0).f2) ((rd_T155 l0 0).f3)))))) = some (r1, r2) := by rw [if_neg (show ¬ (false = true) by decide)] at H; exact H
            clear H; have H := H1; clear H1; by_cases c34 : ((rd_T155 l0 0).f0) = 5
            · rw [if_pos c34] at H; have c34b0 : (((rd_T155 l0 0).f0) == 5) = true := beq_iff_eq.mpr c34; have c34b1 : (((rd_T155 l0 0).f0) != 5) = false := bne_eq_false_iff_eq.mpr c34; clear c34; by_cases c35 : ((rd_T155 l0 0).f2).toList = ([] : List UInt8)
              · rw [if_pos c35] at H; have c35b0 : (((rd_T155 l0 0).f2).toList == ([] : List UInt8)) = true := beq_iff_eq.mpr c35; have c35b1 : (((rd_T155 l0 0).f2).toList != ([] : List UInt8)) = false := bne_eq_false_iff_eq.mpr c35; clear c35; by_cases c36 : ((rd_T155 l0 0).f3) = 0
                · rw [if_pos c36] at H; have c36b0 : (((rd_T155 l0 0).f3) == 0) = true := beq_iff_eq.mpr c36; have c36b1 : (((rd_T155 l0 0).f3) != 0) = false := bne_eq_false_iff_eq.mpr c36; clear c36; replace H := Option.bind_eq_some_iff.mp H; obtain ⟨t369, A370, H⟩ := H; replace H : (if t369 = true then (some (1, 1)) else (some (0, 0))) = some (r1, r2) := H; have A37 := Aside0.mk A370; clear A370; by_cases c38 : t369 = true
                  · subst c38; have H1 : (some (1, 1)) = some (r1, r2) := by rw [if_pos rfl] at H; exact H
                    clear H; have H := H1; clear H1; simp only [Option.some.injEq, Prod.mk.injEq] at H; obtain ⟨rfl, rfl⟩ := H; have hcz39_0 : wc.cell? ⟨gb362, 0, none⟩ = some (.int .i64 ((rd_T155 l0 0).f0)) := bc BK362.out 0; have hcz39_1 : wc.cell? ⟨gb362, 1, none⟩ = some (.string ((rd_T155 l0 0).f1)) := bc BK362.out 1; have hcz39_2 : wc.cell? ⟨gb362, 2, none⟩ = some (.string ((rd_T155 l0 0).f2)) := bc BK362.out 2; have hcz39_3 : wc.cell? ⟨gb362, 3, none⟩ = some (.int .i64 ((rd_T155 l0 0).f3)) := bc BK362.out 3; have hfz39_0 := blk_frozen BK362.out 0; have hfz39_1 := blk_frozen BK362.out 1; have hfz39_2 := blk_frozen BK362.out 2; have hfz39_3 := blk_frozen BK362.out 3; go_wp2_with (first | (go_at_call 49; (with_reducible refine (impl_NameRight.calls ((rd_T155 l0 0).f1) true _ A37.out).mono ?_); rintro e w40 ⟨rfl, hb⟩; have n_ := aa (bb BK362.out hb) <| Aside0.mk (below_step By hb); clear BK362 HB; obtain ⟨BK362, HB⟩ := n_; (try clear hb); (try clear hb2); (try clear hk); (try clear hi))); go_ret2; exact ⟨Rf, By⟩
                  · replace c38 := Bool.eq_false_iff.mpr c38; subst c38; have H1 : (some (0, 0)) = some (r1, r2) := by rw [if_neg (show ¬ (false = true) by decide)] at H; exact H
                    clear H; have H := H1; clear H1; simp only [Option.some.injEq, Prod.mk.injEq] at H; obtain ⟨rfl, rfl⟩ := H; have hcz41_0 : wc.cell? ⟨gb362, 0, none⟩ = some (.int .i64 ((rd_T155 l0 0).f0)) := bc BK362.out 0; have hcz41_1 : wc.cell? ⟨gb362, 1, none⟩ = some (.string ((rd_T155 l0 0).f1)) := bc BK362.out 1; have hcz41_2 : wc.cell? ⟨gb362, 2, none⟩ = some (.string ((rd_T155 l0 0).f2)) := bc BK362.out 2; have hcz41_3 : wc.cell? ⟨gb362, 3, none⟩ = some (.int .i64 ((rd_T155 l0 0).f3)) := bc BK362.out 3; have hfz41_0 := blk_frozen BK362.out 0; have hfz41_1 := blk_frozen BK362.out 1; have hfz41_2 := blk_frozen BK362.out 2; have hfz41_3 := blk_frozen BK362.out 3; go_wp2_with (first | (go_at_call 49; (with_reducible refine (impl_NameRight.calls ((rd_T155 l0 0).f1) false _ A37.out).mono ?_); rintro e w42 ⟨rfl, hb⟩; have n_ := aa (bb BK362.out hb) <| Aside0.mk (below_step By hb); clear BK362 HB; obtain ⟨BK362, HB⟩ := n_; (try clear hb); (try clear hb2); (try clear hk); (try clear hi))); go_ret2; exact ⟨Rf, By⟩
                · rw [if_neg c36] at H; have c36b0 : (((rd_T155 l0 0).f3) == 0) = false := beq_eq_false_iff_ne.mpr c36; have c36b1 : (((rd_T155 l0 0).f3) != 0) = true := bne_iff_ne.mpr c36; simp only [Option.some.injEq, Prod.mk.injEq] at H; obtain ⟨rfl, rfl⟩ := H; have hcz43_0 : wc.cell? ⟨gb362, 0, none⟩ = some (.int .i64 ((rd_T155 l0 0).f0)) := bc BK362.out 0; have hcz43_1 : wc.cell? ⟨gb362, 1, none⟩ = some (.string ((rd_T155 l0 0).f1)) := bc BK362.out 1; have hcz43_2 : wc.cell? ⟨gb362, 2, none⟩ = some (.string ((rd_T155 l0 0).f2)) := bc BK362.out 2; have hcz43_3 : wc.cell? ⟨gb362, 3, none⟩ = some (.int .i64 ((rd_T155 l0 0).f3)) := bc BK362.out 3; have hfz43_0 := blk_frozen BK362.out 0; have hfz43_1 := blk_frozen BK362.out 1; have hfz43_2 := blk_frozen BK362.out 2; have hfz43_3 := blk_frozen BK362.out 3; go_wp2; go_ret2; exact ⟨Rf, By⟩
              · rw [if_neg c35] at H; have c35b0 : (((rd_T155 l0 0).f2).toList == ([] : List UInt8)) = false := beq_eq_false_iff_ne.mpr c35; have c35b1 : (((rd_T155 l0 0).f2).toList != ([] : List UInt8)) = true := bne_iff_ne.mpr c35; simp only [Option.some.injEq, Prod.mk.injEq] at H; obtain ⟨rfl, rfl⟩ := H; have hcz44_0 : wc.cell? ⟨gb362, 0, none⟩ = some (.int .i64 ((rd_T155 l0 0).f0)) := bc BK362.out 0; have hcz44_1 : wc.cell? ⟨gb362, 1, none⟩ = some (.string ((rd_T155 l0 0).f1)) := bc BK362.out 1; have hcz44_2 : wc.cell? ⟨gb362, 2, none⟩ = some (.string ((rd_T155 l0 0).f2)) := bc BK362.out 2; have hcz44_3 : wc.cell? ⟨gb362, 3, none⟩ = some (.int .i64 ((rd_T155 l0 0).f3)) := bc BK362.out 3; have hfz44_0 := blk_frozen BK362.out 0; have hfz44_1 := blk_frozen BK362.out 1; have hfz44_2 := blk_frozen BK362.out 2; have hfz44_3 := blk_frozen BK362.out 3; go_wp2; go_ret2; exact ⟨Rf, By⟩
            · rw [if_neg c34] at H; have c34b0 : (((rd_T155 l0 0).f0) == 5) = false := beq_eq_false_iff_ne.mpr c34; have c34b1 : (((rd_T155 l0 0).f0) != 5) = true := bne_iff_ne.mpr c34; have HC45 := Aside0.mk H; clear H; go_upto_if 77 with (fail); go_cut [77] (fun v77 wc => ∃ (kq : Nat) (x77_44 : Bool), v77 = .bool x77_44 ∧ Aside0 (impl_depthOf.j3 kq x77_44 ((rd_T155 l0 0).f0) ((rd_T155 l0 0).f1) ((rd_T155 l0 0).f2) ((rd_T155 l0 0).f3) = some (r1, r2)) ∧ Aside0 (kq ≤ kj3) ∧ Aside0 (wc.heap[gb362]? = some (.cells #[.int .i64 ((rd_T155 l0 0).f0), .string ((rd_T155 l0 0).f1), .string ((rd_T155 l0 0).f2), .int .i64 ((rd_T155 l0 0).f3)] 155 (0, 0))) ∧ Aside0 (Below w.heap.size w wc))
              case first =>
                have H := HC45.out; clear HC45; by_cases c46 : ((rd_T155 l0 0).f0) = 4
                · rw [if_pos c46] at H; have c46b0 : (((rd_T155 l0 0).f0) == 4) = true := beq_iff_eq.mpr c46; have c46b1 : (((rd_T155 l0 0).f0) != 4) = false := bne_eq_false_iff_eq.mpr c46; clear c46; (first | rw [c46b0] | (simp only [i64_w, i32_w]; rw [c46b0]) | skip); have H' := Aside0.mk H; clear H; go_wp2; go_meet
                  case rel => exact ⟨_, ((((rd_T155 l0 0).f0) == 4)), (by first | rfl | (simp; done) | (simp [*]; done)), H', ⟨by have := HJ3.out; first | omega | exact Nat.le_refl _⟩, ⟨by (with_reducible repeat (first | refine blk_drewN ?_ _ | refine blk_drew ?_ | refine blk_alloc ?_ _)); exact BK362.out⟩, ⟨By⟩⟩
                · rw [if_neg c46] at H; have c46b0 : (((rd_T155 l0 0).f0) == 4) = false := beq_eq_false_iff_ne.mpr c46; have c46b1 : (((rd_T155 l0 0).f0) != 4) = true := bne_iff_ne.mpr c46; (first | rw [c46b0] | (simp only [i64_w, i32_w]; rw [c46b0]) | skip); by_cases c47 : ((rd_T155 l0 0).f0) = 6
                  · rw [if_pos c47] at H; have c47b0 : (((rd_T155 l0 0).f0) == 6) = true := beq_iff_eq.mpr c47; have c47b1 : (((rd_T155 l0 0).f0) != 6) = false := bne_eq_false_iff_eq.mpr c47; clear c47; have H' := Aside0.mk H; clear H; go_wp2; go_meet
                    case rel => exact ⟨_, ((((rd_T155 l0 0).f0) == 6)), (by first | rfl | (simp; done) | (simp [*]; done)), H', ⟨by have := HJ3.out; first | omega | exact Nat.le_refl _⟩, ⟨by (with_reducible repeat (first | refine blk_drewN ?_ _ | refine blk_drew ?_ | refine blk_alloc ?_ _)); exact BK362.out⟩, ⟨By⟩⟩
                  · rw [if_neg c47] at H; have c47b0 : (((rd_T155 l0 0).f0) == 6) = false := beq_eq_false_iff_ne.mpr c47; have c47b1 : (((rd_T155 l0 0).f0) != 6) = true := bne_iff_ne.mpr c47; by_cases c48 : ((rd_T155 l0 0).f0) = 7
                    · rw [if_pos c48] at H; have c48b0 : (((rd_T155 l0 0).f0) == 7) = true := beq_iff_eq.mpr c48; have c48b1 : (((rd_T155 l0 0).f0) != 7) = false := bne_eq_false_iff_eq.mpr c48; clear c48; have H' := Aside0.mk H; clear H; go_wp2; go_meet
                      case rel => exact ⟨_, ((((rd_T155 l0 0).f0) == 7)), (by first | rfl | (simp; done) | (simp [*]; done)), H', ⟨by have := HJ3.out; first | omega | exact Nat.le_refl _⟩, ⟨by (with_reducible repeat (first | refine blk_drewN ?_ _ | refine blk_drew ?_ | refine blk_alloc ?_ _)); exact BK362.out⟩, ⟨By⟩⟩
                    · rw [if_neg c48] at H; have c48b0 : (((rd_T155 l0 0).f0) == 7) = false := beq_eq_false_iff_ne.mpr c48; have c48b1 : (((rd_T155 l0 0).f0) != 7) = true := bne_iff_ne.mpr c48; have H' := Aside0.mk H; clear H; go_wp2; go_meet
                      case rel => exact ⟨_, ((((rd_T155 l0 0).f0) == 8)), (by first | rfl | (simp; done) | (simp [*]; done)), H', ⟨by have := HJ3.out; first | omega | exact Nat.le_refl _⟩, ⟨by (with_reducible repeat (first | refine blk_drewN ?_ _ | refine blk_drew ?_ | refine blk_alloc ?_ _)); exact BK362.out⟩, ⟨By⟩⟩
              case rest =>
                clear HC45; try clear c1
                try clear c2
                try clear c2b0
                try clear c2b1
                try clear c2b2
                try clear p2
                try clear q2
                try clear c3
                try clear c3b0
                try clear c3b1
                try clear p3
                try clear q3
                try clear hx3
                try clear qi3
                try clear c4
                try clear p6
                try clear c7
                try clear c7b0
                try clear c7b1
                try clear c8
                try clear c8b0
                try clear c8b1
                try clear c9
                try clear c11
                try clear c11b0
                try clear c11b1
                try clear c12
                try clear c12b0
                try clear c12b1
                try clear c13
                try clear c13b0
                try clear c15
                try clear c15b0
                try clear c15b1
                try clear c16
                try clear c16b0
                try clear c16b1
                try clear c22
                try clear c24
                try clear c24b0
                try clear c25
                try clear c25b0
                try clear c25b1
                try clear c26
                try clear c26b0
                try clear c26b1
                try clear c28
                try clear c28b0
                try clear c28b1
                try clear c29
                try clear q29
                try clear c32
                try clear q32
                try clear c34
                try clear c34b0
                try clear c34b1
                try clear c35
                try clear c35b0
                try clear c35b1
                try clear c36
                try clear c36b0
                try clear c36b1
                try clear p36
                try clear q36
                try clear hx36
                try clear c38
                try clear c46
                try clear c46b0
                try clear c46b1
                try clear c47
                try clear c47b0
                try clear c47b1
                try clear c48
                try clear c48b0
                try clear c48b1
                try clear hcz14_0
                try clear hcz14_1
                try clear hcz14_2
                try clear hcz14_3
                try clear hcz17_0
                try clear hcz17_1
                try clear hcz17_2
                try clear hcz17_3
                try clear hcz18_0
                try clear hcz18_1
                try clear hcz18_2
                try clear hcz18_3
                try clear hcz19_0
                try clear hcz19_1
                try clear hcz19_2
                try clear hcz19_3
                try clear hcz20_0
                try clear hcz20_1
                try clear hcz20_2
                try clear hcz20_3
                try clear hcz21_0
                try clear hcz21_1
                try clear hcz21_2
                try clear hcz21_3
                try clear hcz23_0
                try clear hcz23_1
                try clear hcz23_2
                try clear hcz23_3
                try clear hcz39_0
                try clear hcz39_1
                try clear hcz39_2
                try clear hcz39_3
                try clear hcz41_0
                try clear hcz41_1
                try clear hcz41_2
                try clear hcz41_3
                try clear hcz43_0
                try clear hcz43_1
                try clear hcz43_2
                try clear hcz43_3
                try clear hcz44_0
                try clear hcz44_1
                try clear hcz44_2
                try clear hcz44_3
                try clear hcz6_0
                try clear hcz6_1
                try clear hcz6_2
                try clear hcz6_3
                try clear hfz14_0
                try clear hfz14_1
                try clear hfz14_2
                try clear hfz14_3
                try clear hfz17_0
                try clear hfz17_1
                try clear hfz17_2
                try clear hfz17_3
                try clear hfz18_0
                try clear hfz18_1
                try clear hfz18_2
                try clear hfz18_3
                try clear hfz19_0
                try clear hfz19_1
                try clear hfz19_2
                try clear hfz19_3
                try clear hfz20_0
                try clear hfz20_1
                try clear hfz20_2
                try clear hfz20_3
                try clear hfz21_0
                try clear hfz21_1
                try clear hfz21_2
                try clear hfz21_3
                try clear hfz23_0
                try clear hfz23_1
                try clear hfz23_2
                try clear hfz23_3
                try clear hfz39_0
                try clear hfz39_1
                try clear hfz39_2
                try clear hfz39_3
                try clear hfz41_0
                try clear hfz41_1
                try clear hfz41_2
                try clear hfz41_3
                try clear hfz43_0
                try clear hfz43_1
                try clear hfz43_2
                try clear hfz43_3
                try clear hfz44_0
                try clear hfz44_1
                try clear hfz44_2
                try clear hfz44_3
                try clear hfz6_0
                try clear hfz6_1
                try clear hfz6_2
                try clear hfz6_3
                try clear hx361_0
                try clear hx361_1
                try clear hx361_2
                try clear hx361_3
                try clear p2
                try clear p3
                try clear p361
                try clear q029
                try clear q032
                try clear q29
                try clear q3
                try clear q32
                try clear q361
                obtain ⟨kq, x77_44, rfl, HA, HJ44, BK362, HB⟩ := hcut; cases kq with
                | zero => exact absurd HA.out (by simp [impl_depthOf.j3])
                | succ kj44 =>
                  have H := HA.out; clear HA; simp only [impl_depthOf.j3] at H; by_cases c49 : x77_44 = true
                  · subst c49; have H1 : ((impl_isProper.f kj44 ((rd_T155 l0 0).f2)).bind fun t370 => (if t370 = true then (if ((rd_T155 l0 0).f3) = 0 then ((impl_NameRight.f ((rd_T155 l0 0).f1)).bind fun t371 => (if t371 = true then (some (1, 1)) else (some (0, 0)))) else (some (0, 0))) else (some (0, 0)))) = some (r1, r2) := by rw [if_pos rfl] at H; exact H
                    clear H; have H := H1; clear H1; replace H := Option.bind_eq_some_iff.mp H; obtain ⟨t370, A500, H⟩ := H; replace H : (if t370 = true then (if ((rd_T155 l0 0).f3) = 0 then ((impl_NameRight.f ((rd_T155 l0 0).f1)).bind fun t371 => (if t371 = true then (some (1, 1)) else (some (0, 0)))) else (some (0, 0))) else (some (0, 0))) = some (r1, r2) := H; have A50 := Aside0.mk A500; clear A500; by_cases c51 : t370 = true
                    · subst c51; have H1 : (if ((rd_T155 l0 0).f3) = 0 then ((impl_NameRight.f ((rd_T155 l0 0).f1)).bind fun t371 => (if t371 = true then (some (1, 1)) else (some (0, 0)))) else (some (0, 0))) = some (r1, r2) := by rw [if_pos rfl] at H; exact H
                      clear H; have H := H1; clear H1; by_cases c52 : ((rd_T155 l0 0).f3) = 0
                      · rw [if_pos c52] at H; have c52b0 : (((rd_T155 l0 0).f3) == 0) = true := beq_iff_eq.mpr c52; have c52b1 : (((rd_T155 l0 0).f3) != 0) = false := bne_eq_false_iff_eq.mpr c52; clear c52; replace H := Option.bind_eq_some_iff.mp H; obtain ⟨t371, A530, H⟩ := H; replace H : (if t371 = true then (some (1, 1)) else (some (0, 0))) = some (r1, r2) := H; have A53 := Aside0.mk A530; clear A530; by_cases c54 : t371 = true
                        · subst c54; have H1 : (some (1, 1)) = some (r1, r2) := by rw [if_pos rfl] at H; exact H
                          clear H; have H := H1; clear H1; simp only [Option.some.injEq, Prod.mk.injEq] at H; obtain ⟨rfl, rfl⟩ := H; have hcz55_0 : wc.cell? ⟨gb362, 0, none⟩ = some (.int .i64 ((rd_T155 l0 0).f0)) := bc BK362.out 0; have hcz55_1 : wc.cell? ⟨gb362, 1, none⟩ = some (.string ((rd_T155 l0 0).f1)) := bc BK362.out 1; have hcz55_2 : wc.cell? ⟨gb362, 2, none⟩ = some (.string ((rd_T155 l0 0).f2)) := bc BK362.out 2; have hcz55_3 : wc.cell? ⟨gb362, 3, none⟩ = some (.int .i64 ((rd_T155 l0 0).f3)) := bc BK362.out 3; have hfz55_0 := blk_frozen BK362.out 0; have hfz55_1 := blk_frozen BK362.out 1; have hfz55_2 := blk_frozen BK362.out 2; have hfz55_3 := blk_frozen BK362.out 3; go_wp2_with (first | ((with_reducible refine gate_callee (f := 118) rfl ?_); refine goesL_ (some 84) rfl rfl Tryz.func118 (by kernel_rfl) rfl #[.string ((rd_T155 l0 0).f2)] rfl Ag ?_; (with_reducible refine (impl_isProper.calls kj44 ((rd_T155 l0 0).f2) true _ A50.out).mono ?_); rintro e w56 ⟨rfl, hb⟩; refine ⟨_, rfl, ?_⟩; have n_ := aa (bb BK362.out hb) <| Aside0.mk (below_step By hb); clear BK362 HB; obtain ⟨BK362, HB⟩ := n_; (try clear hb); (try clear hb2); (try clear hk); (try clear hi); have ⟨hcz57_0, hcz57_1, hcz57_2, hcz57_3⟩ := cq4 BK362.out; have ⟨hfz57_0, hfz57_1, hfz57_2, hfz57_3⟩ := fq4 BK362.out) | (go_at_call 49; (with_reducible refine (impl_NameRight.calls ((rd_T155 l0 0).f1) true _ A53.out).mono ?_); rintro e w58 ⟨rfl, hb⟩; have n_ := aa (bb BK362.out hb) <| Aside0.mk (below_step By hb); clear BK362 HB; obtain ⟨BK362, HB⟩ := n_; (try clear hb); (try clear hb2); (try clear hk); (try clear hi))); go_ret2; exact ⟨Rf, By⟩
                        · replace c54 := Bool.eq_false_iff.mpr c54; subst c54; have H1 : (some (0, 0)) = some (r1, r2) := by rw [if_neg (show ¬ (false = true) by decide)] at H; exact H
                          clear H; have H := H1; clear H1; simp only [Option.some.injEq, Prod.mk.injEq] at H; obtain ⟨rfl, rfl⟩ := H; have hcz59_0 : wc.cell? ⟨gb362, 0, none⟩ = some (.int .i64 ((rd_T155 l0 0).f0)) := bc BK362.out 0; have hcz59_1 : wc.cell? ⟨gb362, 1, none⟩ = some (.string ((rd_T155 l0 0).f1)) := bc BK362.out 1; have hcz59_2 : wc.cell? ⟨gb362, 2, none⟩ = some (.string ((rd_T155 l0 0).f2)) := bc BK362.out 2; have hcz59_3 : wc.cell? ⟨gb362, 3, none⟩ = some (.int .i64 ((rd_T155 l0 0).f3)) := bc BK362.out 3; have hfz59_0 := blk_frozen BK362.out 0; have hfz59_1 := blk_frozen BK362.out 1; have hfz59_2 := blk_frozen BK362.out 2; have hfz59_3 := blk_frozen BK362.out 3; go_wp2_with (first | ((with_reducible refine gate_callee (f := 118) rfl ?_); refine goesL_ (some 84) rfl rfl Tryz.func118 (by kernel_rfl) rfl #[.string ((rd_T155 l0 0).f2)] rfl Ag ?_; (with_reducible refine (impl_isProper.calls kj44 ((rd_T155 l0 0).f2) true _ A50.out).mono ?_); rintro e w60 ⟨rfl, hb⟩; refine ⟨_, rfl, ?_⟩; have n_ := aa (bb BK362.out hb) <| Aside0.mk (below_step By hb); clear BK362 HB; obtain ⟨BK362, HB⟩ := n_; (try clear hb); (try clear hb2); (try clear hk); (try clear hi); have ⟨hcz61_0, hcz61_1, hcz61_2, hcz61_3⟩ := cq4 BK362.out; have ⟨hfz61_0, hfz61_1, hfz61_2, hfz61_3⟩ := fq4 BK362.out) | (go_at_call 49; (with_reducible refine (impl_NameRight.calls ((rd_T155 l0 0).f1) false _ A53.out).mono ?_); rintro e w62 ⟨rfl, hb⟩; have n_ := aa (bb BK362.out hb) <| Aside0.mk (below_step By hb); clear BK362 HB; obtain ⟨BK362, HB⟩ := n_; (try clear hb); (try clear hb2); (try clear hk); (try clear hi))); go_ret2; exact ⟨Rf, By⟩
                      · rw [if_neg c52] at H; have c52b0 : (((rd_T155 l0 0).f3) == 0) = false := beq_eq_false_iff_ne.mpr c52; have c52b1 : (((rd_T155 l0 0).f3) != 0) = true := bne_iff_ne.mpr c52; simp only [Option.some.injEq, Prod.mk.injEq] at H; obtain ⟨rfl, rfl⟩ := H; have hcz63_0 : wc.cell? ⟨gb362, 0, none⟩ = some (.int .i64 ((rd_T155 l0 0).f0)) := bc BK362.out 0; have hcz63_1 : wc.cell? ⟨gb362, 1, none⟩ = some (.string ((rd_T155 l0 0).f1)) := bc BK362.out 1; have hcz63_2 : wc.cell? ⟨gb362, 2, none⟩ = some (.string ((rd_T155 l0 0).f2)) := bc BK362.out 2; have hcz63_3 : wc.cell? ⟨gb362, 3, none⟩ = some (.int .i64 ((rd_T155 l0 0).f3)) := bc BK362.out 3; have hfz63_0 := blk_frozen BK362.out 0; have hfz63_1 := blk_frozen BK362.out 1; have hfz63_2 := blk_frozen BK362.out 2; have hfz63_3 := blk_frozen BK362.out 3; go_wp2_with (first | ((with_reducible refine gate_callee (f := 118) rfl ?_); refine goesL_ (some 84) rfl rfl Tryz.func118 (by kernel_rfl) rfl #[.string ((rd_T155 l0 0).f2)] rfl Ag ?_; (with_reducible refine (impl_isProper.calls kj44 ((rd_T155 l0 0).f2) true _ A50.out).mono ?_); rintro e w64 ⟨rfl, hb⟩; refine ⟨_, rfl, ?_⟩; have n_ := aa (bb BK362.out hb) <| Aside0.mk (below_step By hb); clear BK362 HB; obtain ⟨BK362, HB⟩ := n_; (try clear hb); (try clear hb2); (try clear hk); (try clear hi); have ⟨hcz65_0, hcz65_1, hcz65_2, hcz65_3⟩ := cq4 BK362.out; have ⟨hfz65_0, hfz65_1, hfz65_2, hfz65_3⟩ := fq4 BK362.out)); go_ret2; exact ⟨Rf, By⟩
                    · replace c51 := Bool.eq_false_iff.mpr c51; subst c51; have H1 : (some (0, 0)) = some (r1, r2) := by rw [if_neg (show ¬ (false = true) by decide)] at H; exact H
                      clear H; have H := H1; clear H1; simp only [Option.some.injEq, Prod.mk.injEq] at H; obtain ⟨rfl, rfl⟩ := H; have hcz66_0 : wc.cell? ⟨gb362, 0, none⟩ = some (.int .i64 ((rd_T155 l0 0).f0)) := bc BK362.out 0; have hcz66_1 : wc.cell? ⟨gb362, 1, none⟩ = some (.string ((rd_T155 l0 0).f1)) := bc BK362.out 1; have hcz66_2 : wc.cell? ⟨gb362, 2, none⟩ = some (.string ((rd_T155 l0 0).f2)) := bc BK362.out 2; have hcz66_3 : wc.cell? ⟨gb362, 3, none⟩ = some (.int .i64 ((rd_T155 l0 0).f3)) := bc BK362.out 3; have hfz66_0 := blk_frozen BK362.out 0; have hfz66_1 := blk_frozen BK362.out 1; have hfz66_2 := blk_frozen BK362.out 2; have hfz66_3 := blk_frozen BK362.out 3; go_wp2_with (first | ((with_reducible refine gate_callee (f := 118) rfl ?_); refine goesL_ (some 84) rfl rfl Tryz.func118 (by kernel_rfl) rfl #[.string ((rd_T155 l0 0).f2)] rfl Ag ?_; (with_reducible refine (impl_isProper.calls kj44 ((rd_T155 l0 0).f2) false _ A50.out).mono ?_); rintro e w67 ⟨rfl, hb⟩; refine ⟨_, rfl, ?_⟩; have n_ := aa (bb BK362.out hb) <| Aside0.mk (below_step By hb); clear BK362 HB; obtain ⟨BK362, HB⟩ := n_; (try clear hb); (try clear hb2); (try clear hk); (try clear hi))); go_ret2; exact ⟨Rf, By⟩
                  · replace c49 := Bool.eq_false_iff.mpr c49; subst c49; have H1 : (some (0, 0)) = some (r1, r2) := by rw [if_neg (show ¬ (false = true) by decide)] at H; exact H
                    clear H; have H := H1; clear H1; simp only [Option.some.injEq, Prod.mk.injEq] at H; obtain ⟨rfl, rfl⟩ := H; go_wp2; go_ret2; exact ⟨Rf, By⟩
    · rw [if_neg c3] at H; exact absurd H (by simp)

set_option linter.unusedVariables false
set_option linter.unusedSimpArgs false

/-! ### impl_FilterRight: function 83 -/
def impl_FilterRight.f (k : Nat) (l0 : List (S155)) : Option (Bool) := if (l0.length : Int) > 20 then (some false) else ((impl_depthOf.f k l0).bind fun bt372 => (if bt372.1 > 0 then (if bt372.1 = (l0.length : Int) then (some (decide (bt372.2 ≤ 5))) else (some false)) else (some false)))
theorem impl_FilterRight.mono : ∀ a0 k, LeO (impl_FilterRight.f k a0) (impl_FilterRight.f (k + 1) a0) := by
  intro a0 k; unfold impl_FilterRight.f; repeat' first
      | (with_reducible exact impl_depthOf.mono _ _)
      | (with_reducible exact LeO.refl _)
      | (with_reducible exact LeO.none _)
      | (with_reducible refine LeO.ite ?_ ?_)
      | (with_reducible refine LeO.bind ?_ (fun _ => ?_))
set_option maxHeartbeats 8000000 in
set_option maxRecDepth 100000 in
theorem impl_FilterRight.calls (k : Nat) (A0 : Option Addr) (c0 : Nat) (l0 : List (S155)) (r : Bool) (w : World) (hr0 : Kd.C k155 w A0 l0.length l0) (hc0 : l0.length ≤ c0) (h : impl_FilterRight.f k l0 = some r) :
    Calls Tryz.prog 83 #[.slice A0 l0.length c0] w fun e w' => e = .returned (.bool r) ∧ Below w.heap.size w w' := by
  have HR0 := Aside0.mk hr0; have HC0 := Aside0.mk hc0; clear hr0 hc0; have HB := Aside0.mk (Below.refl w.heap.size w); have H : (if (l0.length : Int) > 20 then (some false) else ((impl_depthOf.f k l0).bind fun bt372 => (if bt372.1 > 0 then (if bt372.1 = (l0.length : Int) then (some (decide (bt372.2 ≤ 5))) else (some false)) else (some false)))) = some r := h; clear h; by_cases c2 : (l0.length : Int) > 20
  · rw [if_pos c2] at H; have c2b0 : decide (20 < (l0.length : Int)) = true := decide_eq_true c2; have c2b1 : decide (20 < l0.length) = true := decide_eq_true (by omega); clear c2; obtain rfl := Option.some.inj H; go_enter Tryz.func83, Tryz.ntmps83; go_wp2; go_ret; exact ⟨Rf, By⟩
  · rw [if_neg c2] at H; have c2b0 : decide (20 < (l0.length : Int)) = false := decide_eq_false c2; have c2b1 : decide (20 < l0.length) = false := decide_eq_false (by omega); clear c2; replace H := Option.bind_eq_some_iff.mp H; obtain ⟨⟨t372, t373⟩, A30, H⟩ := H; (try dsimp only at H); have A3 := Aside0.mk A30; clear A30; by_cases c4 : t372 > 0
    · rw [if_pos c4] at H; have c4b0 : decide (0 < t372) = true := decide_eq_true c4; clear c4; by_cases c5 : t372 = (l0.length : Int)
      · rw [if_pos c5] at H; have c5b0 : (t372 == (l0.length : Int)) = true := beq_iff_eq.mpr c5; have c5b1 : (t372 != (l0.length : Int)) = false := bne_eq_false_iff_eq.mpr c5; clear c5; obtain rfl := Option.some.inj H; go_enter Tryz.func83, Tryz.ntmps83; go_wp2_with (first | ((with_reducible refine gate_callee (f := 137) rfl ?_); refine goesL_ (some 10) rfl rfl Tryz.func137 (by kernel_rfl) rfl #[.slice A0 l0.length c0] rfl Ag ?_; (with_reducible refine (impl_depthOf.calls k _ _ l0 t372 t373 _ ?side1 ?side2 A3.out).mono ?_); (case side1 => repeat (first | exact HR0.out | (with_reducible refine Kd.C_alloc ?_ _) | (with_reducible refine Kd.C_drewN ?_ _) | (with_reducible refine Kd.C_drew ?_))); (case side2 => exact HC0.out); rintro e w6 ⟨rfl, hb⟩; refine ⟨_, rfl, ?_⟩; have n0_ := Aside0.mk (below_step By hb); clear HB; have HB := n0_; clear n0_; (try clear hb); (try clear hb2); (try clear hk); (try clear hi))); go_ret; exact ⟨Rf, By⟩
      · rw [if_neg c5] at H; have c5b0 : (t372 == (l0.length : Int)) = false := beq_eq_false_iff_ne.mpr c5; have c5b1 : (t372 != (l0.length : Int)) = true := bne_iff_ne.mpr c5; obtain rfl := Option.some.inj H; go_enter Tryz.func83, Tryz.ntmps83; go_wp2_with (first | ((with_reducible refine gate_callee (f := 137) rfl ?_); refine goesL_ (some 10) rfl rfl Tryz.func137 (by kernel_rfl) rfl #[.slice A0 l0.length c0] rfl Ag ?_; (with_reducible refine (impl_depthOf.calls k _ _ l0 t372 t373 _ ?side1 ?side2 A3.out).mono ?_); (case side1 => repeat (first | exact HR0.out | (with_reducible refine Kd.C_alloc ?_ _) | (with_reducible refine Kd.C_drewN ?_ _) | (with_reducible refine Kd.C_drew ?_))); (case side2 => exact HC0.out); rintro e w7 ⟨rfl, hb⟩; refine ⟨_, rfl, ?_⟩; have n0_ := Aside0.mk (below_step By hb); clear HB; have HB := n0_; clear n0_; (try clear hb); (try clear hb2); (try clear hk); (try clear hi))); go_ret; exact ⟨Rf, By⟩
    · rw [if_neg c4] at H; have c4b0 : decide (0 < t372) = false := decide_eq_false c4; clear c4; obtain rfl := Option.some.inj H; go_enter Tryz.func83, Tryz.ntmps83; go_wp2_with (first | ((with_reducible refine gate_callee (f := 137) rfl ?_); refine goesL_ (some 10) rfl rfl Tryz.func137 (by kernel_rfl) rfl #[.slice A0 l0.length c0] rfl Ag ?_; (with_reducible refine (impl_depthOf.calls k _ _ l0 t372 t373 _ ?side1 ?side2 A3.out).mono ?_); (case side1 => repeat (first | exact HR0.out | (with_reducible refine Kd.C_alloc ?_ _) | (with_reducible refine Kd.C_drewN ?_ _) | (with_reducible refine Kd.C_drew ?_))); (case side2 => exact HC0.out); rintro e w8 ⟨rfl, hb⟩; refine ⟨_, rfl, ?_⟩; have n0_ := Aside0.mk (below_step By hb); clear HB; have HB := n0_; clear n0_; (try clear hb); (try clear hb2); (try clear hk); (try clear hi))); go_ret; exact ⟨Rf, By⟩

set_option linter.unusedVariables false
set_option linter.unusedSimpArgs false

/-! ### impl_isPart: function 181 -/
def impl_isPart.j0 : Nat → Bool → Int → ByteArray → Int → Option (Bool)
  | 0, _, _, _, _ => none
  | k + 1, x3, x375000, x375001, x375002 => if x3 = true then (some false) else (if x375000 = 1 then (if (x375001.size : Int) ≤ 40 then ((impl_isPrintable.f k x375001).bind fun t378 => (some t378)) else (some false)) else (if x375000 = 2 then ((impl_NameRight.f x375001).bind fun t379 => (some t379)) else (some (x375001.toList == ([] : List UInt8)))))
def impl_isPart.f (k : Nat) (a0_0 : Int) (a0_1 : ByteArray) (a0_2 : Int) : Option (Bool) := (impl_operands.f k a0_0).bind fun t375 => (if t375 < 0 then (impl_isPart.j0 k (decide (t375 < 0)) a0_0 a0_1 a0_2) else (if a0_0 = 7 then ((impl_between.f a0_2 0 40).bind fun t376 => (impl_isPart.j0 k (!t376) a0_0 a0_1 a0_2)) else (if a0_2 = 0 then ((impl_between.f a0_2 0 40).bind fun t377 => (impl_isPart.j0 k (!t377) a0_0 a0_1 a0_2)) else (impl_isPart.j0 k (a0_2 != 0) a0_0 a0_1 a0_2))))
theorem impl_isPart.mono_l : ∀ k, (∀ y0 y1 y2 y3, LeO (impl_isPart.j0 k y0 y1 y2 y3) (impl_isPart.j0 (k + 1) y0 y1 y2 y3))
  | 0 => fun _ _ _ _ r h => by simp [impl_isPart.j0] at h
  | k + 1 => by
    have ih0 := impl_isPart.mono_l k
    · intro y0 y1 y2 y3; unfold impl_isPart.j0; repeat' first
      | (with_reducible exact ih0 _ _ _ _)
      | (with_reducible exact impl_isPrintable.mono _ _)
      | (with_reducible exact impl_operands.mono _ _)
      | (with_reducible exact LeO.refl _)
      | (with_reducible exact LeO.none _)
      | (with_reducible refine LeO.ite ?_ ?_)
      | (with_reducible refine LeO.bind ?_ (fun _ => ?_))
theorem impl_isPart.mono : ∀ a0 a1 a2 k, LeO (impl_isPart.f k a0 a1 a2) (impl_isPart.f (k + 1) a0 a1 a2) := by
  intro a0 a1 a2 k; have ih0 := impl_isPart.mono_l k; unfold impl_isPart.f; repeat' first
      | (with_reducible exact ih0 _ _ _ _)
      | (with_reducible exact impl_isPrintable.mono _ _)
      | (with_reducible exact impl_operands.mono _ _)
      | (with_reducible exact LeO.refl _)
      | (with_reducible exact LeO.none _)
      | (with_reducible refine LeO.ite ?_ ?_)
      | (with_reducible refine LeO.bind ?_ (fun _ => ?_))
set_option maxHeartbeats 8000000 in
set_option maxRecDepth 100000 in
theorem impl_isPart.calls (k : Nat) (a0_0 : Int) (a0_1 : ByteArray) (a0_2 : Int) (r : Bool) (w : World) (h : impl_isPart.f k a0_0 a0_1 a0_2 = some r) :
    Calls Tryz.prog 181 #[.agg #[.int .i64 a0_0, .string a0_1, .int .i64 a0_2]] w fun e w' => e = .returned (.bool r) ∧ Below w.heap.size w w' := by
  have hu156 := Tryz.underlying156; have HB := Aside0.mk (Below.refl w.heap.size w); have H : ((impl_operands.f k a0_0).bind fun t375 => (if t375 < 0 then (impl_isPart.j0 k (decide (t375 < 0)) a0_0 a0_1 a0_2) else (if a0_0 = 7 then ((impl_between.f a0_2 0 40).bind fun t376 => (impl_isPart.j0 k (!t376) a0_0 a0_1 a0_2)) else (if a0_2 = 0 then ((impl_between.f a0_2 0 40).bind fun t377 => (impl_isPart.j0 k (!t377) a0_0 a0_1 a0_2)) else (impl_isPart.j0 k (a0_2 != 0) a0_0 a0_1 a0_2))))) = some r := h; clear h; replace H := Option.bind_eq_some_iff.mp H; obtain ⟨t375, A20, H⟩ := H; (try dsimp only at H); have A2 := Aside0.mk A20; clear A20; have HC3 := Aside0.mk H; clear H; go_enter Tryz.func181, Tryz.ntmps181; go_upto_if 3 with (first | ((with_reducible refine gate_dst (N := 1) rfl ?_); refine box_event ?hg (N := 1) ?hd (cs := #[.int .i64 a0_0, .string a0_1, .int .i64 a0_2]) (t := 156) ?hr ?_; (case hd => rfl); (case hg => rfl); (case hr => first | (go_simp; done) | (go_simp; rfl)); intro gb374 hg w4 hbox hb; have n_ := aa (below_step By hb) <| aa (hbox) <| aa ((by rw [hg]; exact (below_size By) : w.heap.size ≤ gb374)) <| Aside0.mk ((by rw [hg]; exact (below_size By) : w.heap.size ≤ gb374)); clear HB; obtain ⟨HB, BK374, GW374, GE374⟩ := n_; clear hb hbox hg; have ⟨hcz5_0, hcz5_1, hcz5_2⟩ := cq3 BK374.out; have ⟨hfz5_0, hfz5_1, hfz5_2⟩ := fq3 BK374.out) | ((with_reducible refine gate_callee (f := 182) rfl ?_); refine goesL_ (some 6) rfl rfl Tryz.func182 (by kernel_rfl) rfl #[.int .i64 a0_0] rfl Ag ?_; (with_reducible refine (impl_operands.calls k a0_0 t375 _ A2.out).mono ?_); rintro e w' ⟨rfl, ⟨nd, rfl⟩⟩; refine ⟨_, rfl, ?_⟩)); (try simp only [Act.put, List.setIfInBounds_toArray, List.set_cons_zero, List.set_cons_succ]); go_cut [3] (fun v3 wc => ∃ (kq : Nat) (x3_2 : Bool), v3 = .bool x3_2 ∧ Aside0 (impl_isPart.j0 kq x3_2 a0_0 a0_1 a0_2 = some r) ∧ Aside0 (kq ≤ k) ∧ Aside0 (wc.heap[gb374]? = some (.cells #[.int .i64 a0_0, .string a0_1, .int .i64 a0_2] 156 (0, 0))) ∧ Aside0 (Below w.heap.size w wc))
  case first =>
    have H := HC3.out; clear HC3; by_cases c6 : t375 < 0
    · rw [if_pos c6] at H; have c6b0 : decide (t375 < 0) = true := decide_eq_true c6; clear c6; (first | rw [c6b0] | (simp only [i64_w, i32_w]; rw [c6b0]) | skip); have H' := Aside0.mk H; clear H; go_wp2; go_meet
      case rel => exact ⟨_, (decide (t375 < 0)), (by first | rfl | (simp; done) | (simp [*]; done)), H', ⟨by first | omega | exact Nat.le_refl _⟩, ⟨by (with_reducible repeat (first | refine blk_drewN ?_ _ | refine blk_drew ?_ | refine blk_alloc ?_ _)); exact BK374.out⟩, ⟨By⟩⟩
    · rw [if_neg c6] at H; have c6b0 : decide (t375 < 0) = false := decide_eq_false c6; clear c6; (first | rw [c6b0] | (simp only [i64_w, i32_w]; rw [c6b0]) | skip); by_cases c7 : a0_0 = 7
      · rw [if_pos c7] at H; have c7b0 : (a0_0 == 7) = true := beq_iff_eq.mpr c7; have c7b1 : (a0_0 != 7) = false := bne_eq_false_iff_eq.mpr c7; clear c7; replace H := Option.bind_eq_some_iff.mp H; obtain ⟨t376, A80, H⟩ := H; (try dsimp only at H); have A8 := Aside0.mk A80; clear A80; have H' := Aside0.mk H; clear H; have hcz9_0 : w4.cell? ⟨gb374, 0, none⟩ = some (.int .i64 a0_0) := bc BK374.out 0; have hcz9_1 : w4.cell? ⟨gb374, 1, none⟩ = some (.string a0_1) := bc BK374.out 1; have hcz9_2 : w4.cell? ⟨gb374, 2, none⟩ = some (.int .i64 a0_2) := bc BK374.out 2; have hfz9_0 := blk_frozen BK374.out 0; have hfz9_1 := blk_frozen BK374.out 1; have hfz9_2 := blk_frozen BK374.out 2; go_wp2_with (first | ((with_reducible refine gate_callee (f := 151) rfl ?_); refine goesL_ (some 18) rfl rfl Tryz.func151 (by kernel_rfl) rfl #[.int .i64 a0_2, .int .i64 0, .int .i64 40] rfl Ag ?_; (with_reducible refine (impl_between.calls a0_2 0 40 t376 _ A8.out).mono ?_); rintro e w' ⟨rfl, ⟨nd, rfl⟩⟩; refine ⟨_, rfl, ?_⟩)); go_meet
        case rel => exact ⟨_, (!t376), (by first | rfl | (simp; done) | (simp [*]; done)), H', ⟨by first | omega | exact Nat.le_refl _⟩, ⟨by (with_reducible repeat (first | refine blk_drewN ?_ _ | refine blk_drew ?_ | refine blk_alloc ?_ _)); exact BK374.out⟩, ⟨By⟩⟩
      · rw [if_neg c7] at H; have c7b0 : (a0_0 == 7) = false := beq_eq_false_iff_ne.mpr c7; have c7b1 : (a0_0 != 7) = true := bne_iff_ne.mpr c7; by_cases c10 : a0_2 = 0
        · rw [if_pos c10] at H; have c10b0 : (a0_2 == 0) = true := beq_iff_eq.mpr c10; have c10b1 : (a0_2 != 0) = false := bne_eq_false_iff_eq.mpr c10; clear c10; replace H := Option.bind_eq_some_iff.mp H; obtain ⟨t377, A110, H⟩ := H; (try dsimp only at H); have A11 := Aside0.mk A110; clear A110; have H' := Aside0.mk H; clear H; have hcz12_0 : w4.cell? ⟨gb374, 0, none⟩ = some (.int .i64 a0_0) := bc BK374.out 0; have hcz12_1 : w4.cell? ⟨gb374, 1, none⟩ = some (.string a0_1) := bc BK374.out 1; have hcz12_2 : w4.cell? ⟨gb374, 2, none⟩ = some (.int .i64 a0_2) := bc BK374.out 2; have hfz12_0 := blk_frozen BK374.out 0; have hfz12_1 := blk_frozen BK374.out 1; have hfz12_2 := blk_frozen BK374.out 2; go_wp2_with (first | ((with_reducible refine gate_callee (f := 151) rfl ?_); refine goesL_ (some 18) rfl rfl Tryz.func151 (by kernel_rfl) rfl #[.int .i64 a0_2, .int .i64 0, .int .i64 40] rfl Ag ?_; (with_reducible refine (impl_between.calls a0_2 0 40 t377 _ A11.out).mono ?_); rintro e w' ⟨rfl, ⟨nd, rfl⟩⟩; refine ⟨_, rfl, ?_⟩)); go_meet
          case rel => exact ⟨_, (!t377), (by first | rfl | (simp; done) | (simp [*]; done)), H', ⟨by first | omega | exact Nat.le_refl _⟩, ⟨by (with_reducible repeat (first | refine blk_drewN ?_ _ | refine blk_drew ?_ | refine blk_alloc ?_ _)); exact BK374.out⟩, ⟨By⟩⟩
        · rw [if_neg c10] at H; have c10b0 : (a0_2 == 0) = false := beq_eq_false_iff_ne.mpr c10; have c10b1 : (a0_2 != 0) = true := bne_iff_ne.mpr c10; have H' := Aside0.mk H; clear H; have hcz13_0 : w4.cell? ⟨gb374, 0, none⟩ = some (.int .i64 a0_0) := bc BK374.out 0; have hcz13_1 : w4.cell? ⟨gb374, 1, none⟩ = some (.string a0_1) := bc BK374.out 1; have hcz13_2 : w4.cell? ⟨gb374, 2, none⟩ = some (.int .i64 a0_2) := bc BK374.out 2; have hfz13_0 := blk_frozen BK374.out 0; have hfz13_1 := blk_frozen BK374.out 1; have hfz13_2 := blk_frozen BK374.out 2; go_wp2; go_meet
          case rel => exact ⟨_, ((a0_2 != 0)), (by first | rfl | (simp; done) | (simp [*]; done)), H', ⟨by first | omega | exact Nat.le_refl _⟩, ⟨by (with_reducible repeat (first | refine blk_drewN ?_ _ | refine blk_drew ?_ | refine blk_alloc ?_ _)); exact BK374.out⟩, ⟨By⟩⟩
  case rest =>
    clear HC3; try clear c1
    try clear p2
    try clear c6
    try clear c6b0
    try clear c7
    try clear c7b0
    try clear c7b1
    try clear c10
    try clear c10b0
    try clear c10b1
    try clear hcz12_0
    try clear hcz12_1
    try clear hcz12_2
    try clear hcz13_0
    try clear hcz13_1
    try clear hcz13_2
    try clear hcz5_0
    try clear hcz5_1
    try clear hcz5_2
    try clear hcz9_0
    try clear hcz9_1
    try clear hcz9_2
    try clear hfz12_0
    try clear hfz12_1
    try clear hfz12_2
    try clear hfz13_0
    try clear hfz13_1
    try clear hfz13_2
    try clear hfz5_0
    try clear hfz5_1
    try clear hfz5_2
    try clear hfz9_0
    try clear hfz9_1
    try clear hfz9_2
    obtain ⟨kq, x3_2, rfl, HA, HJ2, BK374, HB⟩ := hcut; cases kq with
    | zero => exact absurd HA.out (by simp [impl_isPart.j0])
    | succ kj2 =>
      have H := HA.out; clear HA; simp only [impl_isPart.j0] at H; by_cases c14 : x3_2 = true
      · subst c14; rw [if_pos rfl] at H; obtain rfl := Option.some.inj H; go_wp2; go_ret; exact ⟨Rf, By⟩
      · replace c14 := Bool.eq_false_iff.mpr c14; subst c14; rw [if_neg (show ¬ (false = true) by decide)] at H; by_cases c15 : a0_0 = 1
        · rw [if_pos c15] at H; have c15b0 : (a0_0 == 1) = true := beq_iff_eq.mpr c15; have c15b1 : (a0_0 != 1) = false := bne_eq_false_iff_eq.mpr c15; clear c15; by_cases c16 : (a0_1.size : Int) ≤ 40
          · rw [if_pos c16] at H; have c16b0 : decide ((a0_1.size : Int) ≤ 40) = true := decide_eq_true c16; have c16b1 : decide (a0_1.size ≤ 40) = true := decide_eq_true (by omega); clear c16; replace H := Option.bind_eq_some_iff.mp H; obtain ⟨t378, A170, H⟩ := H; (try dsimp only at H); have A17 := Aside0.mk A170; clear A170; obtain rfl := Option.some.inj H; have hcz18_0 : wc.cell? ⟨gb374, 0, none⟩ = some (.int .i64 a0_0) := bc BK374.out 0; have hcz18_1 : wc.cell? ⟨gb374, 1, none⟩ = some (.string a0_1) := bc BK374.out 1; have hcz18_2 : wc.cell? ⟨gb374, 2, none⟩ = some (.int .i64 a0_2) := bc BK374.out 2; have hfz18_0 := blk_frozen BK374.out 0; have hfz18_1 := blk_frozen BK374.out 1; have hfz18_2 := blk_frozen BK374.out 2; go_wp2_with (first | (go_at_call 171; (with_reducible refine (impl_isPrintable.calls kj2 a0_1 t378 _ A17.out).mono ?_); rintro e w' ⟨rfl, ⟨nd, rfl⟩⟩)); go_ret; exact ⟨Rf, By⟩
          · rw [if_neg c16] at H; have c16b0 : decide ((a0_1.size : Int) ≤ 40) = false := decide_eq_false c16; have c16b1 : decide (a0_1.size ≤ 40) = false := decide_eq_false (by omega); clear c16; obtain rfl := Option.some.inj H; have hcz19_0 : wc.cell? ⟨gb374, 0, none⟩ = some (.int .i64 a0_0) := bc BK374.out 0; have hcz19_1 : wc.cell? ⟨gb374, 1, none⟩ = some (.string a0_1) := bc BK374.out 1; have hcz19_2 : wc.cell? ⟨gb374, 2, none⟩ = some (.int .i64 a0_2) := bc BK374.out 2; have hfz19_0 := blk_frozen BK374.out 0; have hfz19_1 := blk_frozen BK374.out 1; have hfz19_2 := blk_frozen BK374.out 2; go_wp2; go_ret; exact ⟨Rf, By⟩
        · rw [if_neg c15] at H; have c15b0 : (a0_0 == 1) = false := beq_eq_false_iff_ne.mpr c15; have c15b1 : (a0_0 != 1) = true := bne_iff_ne.mpr c15; by_cases c20 : a0_0 = 2
          · rw [if_pos c20] at H; have c20b0 : (a0_0 == 2) = true := beq_iff_eq.mpr c20; have c20b1 : (a0_0 != 2) = false := bne_eq_false_iff_eq.mpr c20; clear c20; replace H := Option.bind_eq_some_iff.mp H; obtain ⟨t379, A210, H⟩ := H; (try dsimp only at H); have A21 := Aside0.mk A210; clear A210; obtain rfl := Option.some.inj H; have hcz22_0 : wc.cell? ⟨gb374, 0, none⟩ = some (.int .i64 a0_0) := bc BK374.out 0; have hcz22_1 : wc.cell? ⟨gb374, 1, none⟩ = some (.string a0_1) := bc BK374.out 1; have hcz22_2 : wc.cell? ⟨gb374, 2, none⟩ = some (.int .i64 a0_2) := bc BK374.out 2; have hfz22_0 := blk_frozen BK374.out 0; have hfz22_1 := blk_frozen BK374.out 1; have hfz22_2 := blk_frozen BK374.out 2; go_wp2_with (first | ((with_reducible refine gate_callee (f := 49) rfl ?_); refine goesL_ (some 39) rfl rfl Tryz.func49 (by kernel_rfl) rfl #[.string a0_1] rfl Ag ?_; (with_reducible refine (impl_NameRight.calls a0_1 t379 _ A21.out).mono ?_); rintro e w23 ⟨rfl, hb⟩; refine ⟨_, rfl, ?_⟩; have n_ := aa (bb BK374.out hb) <| Aside0.mk (below_step By hb); clear BK374 HB; obtain ⟨BK374, HB⟩ := n_; (try clear hb); (try clear hb2); (try clear hk); (try clear hi))); go_ret; exact ⟨Rf, By⟩
          · rw [if_neg c20] at H; have c20b0 : (a0_0 == 2) = false := beq_eq_false_iff_ne.mpr c20; have c20b1 : (a0_0 != 2) = true := bne_iff_ne.mpr c20; obtain rfl := Option.some.inj H; have hcz24_0 : wc.cell? ⟨gb374, 0, none⟩ = some (.int .i64 a0_0) := bc BK374.out 0; have hcz24_1 : wc.cell? ⟨gb374, 1, none⟩ = some (.string a0_1) := bc BK374.out 1; have hcz24_2 : wc.cell? ⟨gb374, 2, none⟩ = some (.int .i64 a0_2) := bc BK374.out 2; have hfz24_0 := blk_frozen BK374.out 0; have hfz24_1 := blk_frozen BK374.out 1; have hfz24_2 := blk_frozen BK374.out 2; go_wp2; go_ret; exact ⟨Rf, By⟩

set_option linter.unusedVariables false
set_option linter.unusedSimpArgs false

/-! ### impl_exprDepth: function 138 -/
mutual
def impl_exprDepth.j0 : Nat → List (S156) → Bool → Option (Int × Int)
  | 0, _, _ => none
  | k + 1, x0, x17 => if x17 = true then (some (0, 0)) else (if 0 < (x0.length : Int) then ((impl_operands.f k ((rd_T156 x0 0).f0)).bind fun t383 => (impl_exprDepth.l0 k x0 1 0 t383 0)) else (none))
def impl_exprDepth.l0 : Nat → List (S156) → Int → Int → Int → Int → Option (Int × Int)
  | 0, _, _, _, _, _ => none
  | k + 1, x0, x4, x5, x22, x23 => if x23 < x22 then (if 0 ≤ x4 then (if x4 ≤ (x0.length : Int) then ((impl_exprDepth.f k (x0.drop (x4 : Int).toNat)).bind fun bt388 => (if bt388.1 = 0 then (some (0, 0)) else (impl_exprDepth.l0 k x0 (wrap64 (x4 + bt388.1)) (mx x5 bt388.2) x22 (wrap64 (x23 + 1))))) else (none)) else (none)) else (some (x4, wrap64 (x5 + 1)))
def impl_exprDepth.f : Nat → List (S156) → Option (Int × Int)
  | 0, _ => none
  | k + 1, l0 => if (l0.length : Int) = 0 then (impl_exprDepth.j0 k l0 true) else (if 0 < (l0.length : Int) then ((impl_isPart.f k ((rd_T156 l0 0).f0) ((rd_T156 l0 0).f1) ((rd_T156 l0 0).f2)).bind fun t381 => (impl_exprDepth.j0 k l0 (!t381))) else (none))
end
theorem impl_exprDepth.mono_l : ∀ k, (∀ y0, LeO (impl_exprDepth.f k y0) (impl_exprDepth.f (k + 1) y0)) ∧ (∀ y0 y1, LeO (impl_exprDepth.j0 k y0 y1) (impl_exprDepth.j0 (k + 1) y0 y1)) ∧ (∀ y0 y1 y2 y3 y4, LeO (impl_exprDepth.l0 k y0 y1 y2 y3 y4) (impl_exprDepth.l0 (k + 1) y0 y1 y2 y3 y4))
  | 0 => ⟨fun _ r h => by simp [impl_exprDepth.f] at h, fun _ _ r h => by simp [impl_exprDepth.j0] at h, fun _ _ _ _ _ r h => by simp [impl_exprDepth.l0] at h⟩
  | k + 1 => by
    obtain ⟨ih0, ih1, ih2⟩ := impl_exprDepth.mono_l k; refine ⟨?_, ?_, ?_⟩
    · intro y0; unfold impl_exprDepth.f; repeat' first
      | (with_reducible exact ih0 _)
      | (with_reducible exact ih1 _ _)
      | (with_reducible exact ih2 _ _ _ _ _)
      | (with_reducible exact impl_isPart.mono _ _ _ _)
      | (with_reducible exact impl_operands.mono _ _)
      | (with_reducible exact LeO.refl _)
      | (with_reducible exact LeO.none _)
      | (with_reducible refine LeO.ite ?_ ?_)
      | (with_reducible refine LeO.bind ?_ (fun _ => ?_))
    · intro y0 y1; unfold impl_exprDepth.j0; repeat' first
      | (with_reducible exact ih0 _)
      | (with_reducible exact ih1 _ _)
      | (with_reducible exact ih2 _ _ _ _ _)
      | (with_reducible exact impl_isPart.mono _ _ _ _)
      | (with_reducible exact impl_operands.mono _ _)
      | (with_reducible exact LeO.refl _)
      | (with_reducible exact LeO.none _)
      | (with_reducible refine LeO.ite ?_ ?_)
      | (with_reducible refine LeO.bind ?_ (fun _ => ?_))
    · intro y0 y1 y2 y3 y4; unfold impl_exprDepth.l0; repeat' first
      | (with_reducible exact ih0 _)
      | (with_reducible exact ih1 _ _)
      | (with_reducible exact ih2 _ _ _ _ _)
      | (with_reducible exact impl_isPart.mono _ _ _ _)
      | (with_reducible exact impl_operands.mono _ _)
      | (with_reducible exact LeO.refl _)
      | (with_reducible exact LeO.none _)
      | (with_reducible refine LeO.ite ?_ ?_)
      | (with_reducible refine LeO.bind ?_ (fun _ => ?_))
theorem impl_exprDepth.mono : ∀ a0 k, LeO (impl_exprDepth.f k a0) (impl_exprDepth.f (k + 1) a0) := by
  intro a0 k; obtain ⟨ih0, ih1, ih2⟩ := impl_exprDepth.mono_l k; exact ih0 a0
set_option maxHeartbeats 8000000 in
set_option maxRecDepth 100000 in
theorem impl_exprDepth.calls (k : Nat) : ∀ (A0 : Option Addr) (c0 : Nat) (l0 : List (S156)) (r1 : Int) (r2 : Int) (w : World) (hr0 : Kd.C k156 w A0 l0.length l0) (hc0 : l0.length ≤ c0) (h : impl_exprDepth.f k l0 = some (r1, r2)),
    Calls Tryz.prog 138 #[.slice A0 l0.length c0] w fun e w' => e = .returned (.tuple #[.int .i64 r1, .int .i64 r2]) ∧ Below w.heap.size w w' := by
  induction k using Nat.strongRecOn with
  | _ k ih =>
  intro A0 c0 l0 r1 r2 w hr0 hc0 h; cases k with
  | zero => exact absurd h (by simp [impl_exprDepth.f])
  | succ k =>
  simp only [impl_exprDepth.f] at h; have hu156 := Tryz.underlying156; have HR0 := Aside0.mk hr0; have HC0 := Aside0.mk hc0; clear hr0 hc0; have HB := Aside0.mk (Below.refl w.heap.size w); have H : (if (l0.length : Int) = 0 then (impl_exprDepth.j0 k l0 true) else (if 0 < (l0.length : Int) then ((impl_isPart.f k ((rd_T156 l0 0).f0) ((rd_T156 l0 0).f1) ((rd_T156 l0 0).f2)).bind fun t381 => (impl_exprDepth.j0 k l0 (!t381))) else (none))) = some (r1, r2) := h; clear h; have HC2 := Aside0.mk H; clear H; go_enter Tryz.func138, Tryz.ntmps138; go_upto_region 1 with (fail); go_cut [17] (fun v17 wc => ∃ (kq : Nat) (x17_1 : Bool), v17 = .bool x17_1 ∧ Aside0 (impl_exprDepth.j0 kq l0 x17_1 = some (r1, r2)) ∧ Aside0 (kq ≤ k) ∧ Aside0 (Below w.heap.size w wc))
  case first =>
    have H := HC2.out; clear HC2; by_cases c3 : (l0.length : Int) = 0
    · rw [if_pos c3] at H; have c3b0 : ((l0.length : Int) == 0) = true := beq_iff_eq.mpr c3; have c3b1 : ((l0.length : Int) != 0) = false := bne_eq_false_iff_eq.mpr c3; clear c3; (first | rw [c3b0] | (simp only [i64_w, i32_w]; rw [c3b0]) | skip); have H' := Aside0.mk H; clear H; go_wp2; go_meet
      case rel => exact ⟨_, (true), (by first | rfl | (simp; done) | (simp [*]; done)), H', ⟨by first | omega | exact Nat.le_refl _⟩, ⟨By⟩⟩
    · rw [if_neg c3] at H; have c3b0 : ((l0.length : Int) == 0) = false := beq_eq_false_iff_ne.mpr c3; have c3b1 : ((l0.length : Int) != 0) = true := bne_iff_ne.mpr c3; have c3b2 : ¬ (l0 = []) := fun h_ => c3 (by rw [h_]; rfl)
      (first | rw [c3b0] | (simp only [i64_w, i32_w]; rw [c3b0]) | skip); by_cases c4 : 0 < (l0.length : Int)
      · rw [if_pos c4] at H; have c4b0 : decide (0 < (l0.length : Int)) = true := decide_eq_true c4; have c4b1 : decide (0 < l0.length) = true := decide_eq_true (by omega); clear c4; replace H := Option.bind_eq_some_iff.mp H; obtain ⟨t381, A50, H⟩ := H; replace H : (impl_exprDepth.j0 k l0 (!t381)) = some (r1, r2) := H; have A5 := Aside0.mk A50; clear A50; have H' := Aside0.mk H; clear H; have p380 : 0 ≤ (0 : Int) := (by omega); have q380 : 0 < (l0.length : Int) := of_decide_eq_true Da; obtain ⟨ad380, e380, hx380_0, hx380_1, hx380_2⟩ := at_T156 HR0.out 0 p380 q380; cases e380
        have qi380 : (0 < l0.length) = True := eq_true (by omega); (try rw [show ((0 : Int)).toNat = 0 from rfl] at hx380_0); (try rw [show 0 * 3 = 0 from rfl] at hx380_0); (try rw [Addr.add_zero'] at hx380_0); (try rw [show ((0 : Int)).toNat = 0 from rfl] at hx380_1); (try rw [show 0 * 3 = 0 from rfl] at hx380_1); (try rw [Addr.add_zero'] at hx380_1); (try rw [show ((0 : Int)).toNat = 0 from rfl] at hx380_2); (try rw [show 0 * 3 = 0 from rfl] at hx380_2); (try rw [Addr.add_zero'] at hx380_2); replace hx380_0 := bz HB.out hx380_0; replace hx380_1 := bz HB.out hx380_1; replace hx380_2 := bz HB.out hx380_2; replace p380 := eq_true p380; replace q380 := eq_true q380; go_wp2_with (first | (go_at_call 181; (with_reducible refine (impl_isPart.calls k ((rd_T156 l0 0).f0) ((rd_T156 l0 0).f1) ((rd_T156 l0 0).f2) t381 _ A5.out).mono ?_); rintro e w6 ⟨rfl, hb⟩; have n0_ := Aside0.mk (below_step By hb); clear HB; have HB := n0_; clear n0_; (try clear hb); (try clear hb2); (try clear hk); (try clear hi))); go_meet
        case rel => exact ⟨_, (!t381), (by first | rfl | (simp; done) | (simp [*]; done)), H', ⟨by first | omega | exact Nat.le_refl _⟩, ⟨By⟩⟩
      · rw [if_neg c4] at H; exact absurd H (by simp)
  case rest =>
    clear HC2; try clear c1
    try clear p2
    try clear c3
    try clear c3b0
    try clear c3b1
    try clear c3b2
    try clear p3
    try clear q3
    try clear hx3
    try clear qi3
    try clear c4
    try clear c4b0
    try clear c4b1
    try clear hx380_0
    try clear hx380_1
    try clear hx380_2
    try clear p380
    try clear q380
    obtain ⟨kq, x17_1, rfl, HA, HJ1, HB⟩ := hcut; cases kq with
    | zero => exact absurd HA.out (by simp [impl_exprDepth.j0])
    | succ kj1 =>
      have H := HA.out; clear HA; simp only [impl_exprDepth.j0] at H; by_cases c7 : x17_1 = true
      · subst c7; have H1 : (some (0, 0)) = some (r1, r2) := by rw [if_pos rfl] at H; exact H
        clear H; have H := H1; clear H1; simp only [Option.some.injEq, Prod.mk.injEq] at H; obtain ⟨rfl, rfl⟩ := H; go_wp2; go_ret2; exact ⟨Rf, By⟩
      · replace c7 := Bool.eq_false_iff.mpr c7; subst c7; have H1 : (if 0 < (l0.length : Int) then ((impl_operands.f kj1 ((rd_T156 l0 0).f0)).bind fun t383 => (impl_exprDepth.l0 kj1 l0 1 0 t383 0)) else (none)) = some (r1, r2) := by rw [if_neg (show ¬ (false = true) by decide)] at H; exact H
        clear H; have H := H1; clear H1; by_cases c8 : 0 < (l0.length : Int)
        · rw [if_pos c8] at H; have c8b0 : decide (0 < (l0.length : Int)) = true := decide_eq_true c8; have c8b1 : decide (0 < l0.length) = true := decide_eq_true (by omega); clear c8; replace H := Option.bind_eq_some_iff.mp H; obtain ⟨t383, A90, H⟩ := H; replace H : (impl_exprDepth.l0 kj1 l0 1 0 t383 0) = some (r1, r2) := H; have A9 := Aside0.mk A90; clear A90; have H' := Aside0.mk H; clear H; have p382 : 0 ≤ (0 : Int) := (by omega); have q382 : 0 < (l0.length : Int) := of_decide_eq_true Da; obtain ⟨ad382, e382, hx382_0, hx382_1, hx382_2⟩ := at_T156 HR0.out 0 p382 q382; cases e382
          have qi382 : (0 < l0.length) = True := eq_true (by omega); (try rw [show ((0 : Int)).toNat = 0 from rfl] at hx382_0); (try rw [show 0 * 3 = 0 from rfl] at hx382_0); (try rw [Addr.add_zero'] at hx382_0); (try rw [show ((0 : Int)).toNat = 0 from rfl] at hx382_1); (try rw [show 0 * 3 = 0 from rfl] at hx382_1); (try rw [Addr.add_zero'] at hx382_1); (try rw [show ((0 : Int)).toNat = 0 from rfl] at hx382_2); (try rw [show 0 * 3 = 0 from rfl] at hx382_2); (try rw [Addr.add_zero'] at hx382_2); replace hx382_0 := bz HB.out hx382_0; replace hx382_1 := bz HB.out hx382_1; replace hx382_2 := bz HB.out hx382_2; replace p382 := eq_true p382; replace q382 := eq_true q382; go_wp2_with (first | ((with_reducible refine gate_callee (f := 182) rfl ?_); refine goesL_ (some 22) rfl rfl Tryz.func182 (by kernel_rfl) rfl #[.int .i64 ((rd_T156 l0 0).f0)] rfl Ag ?_; (with_reducible refine (impl_operands.calls kj1 ((rd_T156 l0 0).f0) t383 _ A9.out).mono ?_); rintro e w' ⟨rfl, ⟨nd, rfl⟩⟩; refine ⟨_, rfl, ?_⟩)); go_loopg [4, 5, 23] kj1 (fun kq v4 v5 v23 w' => ∃ (x4_2 : Int) (x5_2 : Int) (x23_2 : Int), v4 = .int .i64 x4_2 ∧ v5 = .int .i64 x5_2 ∧ v23 = .int .i64 x23_2 ∧ Aside0 (impl_exprDepth.l0 kq l0 x4_2 x5_2 t383 x23_2 = some (r1, r2)) ∧ Aside0 (kq ≤ kj1) ∧ Aside0 (Below w.heap.size w w'))
          case atStart => exact ⟨(1), (0), (0), (by first | rfl | (simp; done) | (simp [*]; done)), (by first | rfl | (simp; done) | (simp [*]; done)), (by first | rfl | (simp; done) | (simp [*]; done)), H', ⟨Nat.le_refl _⟩, ⟨By⟩⟩
          case round =>
            clear H'; try clear c1
            try clear p2
            try clear c3
            try clear c3b0
            try clear c3b1
            try clear c3b2
            try clear p3
            try clear q3
            try clear hx3
            try clear qi3
            try clear c4
            try clear c4b0
            try clear c4b1
            try clear c7
            try clear c8
            try clear c8b0
            try clear c8b1
            try clear hx380_0
            try clear hx380_1
            try clear hx380_2
            try clear hx382_0
            try clear hx382_1
            try clear hx382_2
            try clear p2
            try clear p3
            try clear p380
            try clear p382
            try clear q3
            try clear q380
            try clear q382
            obtain ⟨x4_2, x5_2, x23_2, rfl, rfl, rfl, HA, HK2, HB⟩ := hrel; cases gk with
            | zero => exact absurd HA.out (by simp [impl_exprDepth.l0])
            | succ k2 =>
              have H := HA.out; clear HA; simp only [impl_exprDepth.l0] at H; by_cases c10 : x23_2 < t383
              · rw [if_pos c10] at H; have c10b0 : decide (x23_2 < t383) = true := decide_eq_true c10; clear c10; by_cases c11 : 0 ≤ x4_2
                · rw [if_pos c11] at H; have c11b0 := eq_true c11; have c11b1 : decide (0 ≤ x4_2) = true := decide_eq_true c11; clear c11; by_cases c12 : x4_2 ≤ (l0.length : Int)
                  · rw [if_pos c12] at H; have c12b0 := eq_true c12; have c12b1 : decide (x4_2 ≤ (l0.length : Int)) = true := decide_eq_true c12; clear c12; obtain ⟨y384, hy384⟩ : ∃ y_ : List (S156), y_ = (l0.drop (x4_2 : Int).toNat) := ⟨_, rfl⟩; replace H : ((impl_exprDepth.f k2 y384).bind fun bt388 => (if bt388.1 = 0 then (some (0, 0)) else (impl_exprDepth.l0 k2 l0 (wrap64 (x4_2 + bt388.1)) (mx x5_2 bt388.2) t383 (wrap64 (x23_2 + 1))))) = some (r1, r2) := by first | (rw [hy384]; with_reducible exact H) | (have H2_ := (Option.bind_some _ _).symm.trans H; rw [hy384]; with_reducible exact H2_) | (have H2_ := (Option.bind_some _ _).symm.trans H; with_reducible exact H2_) | with_reducible exact H | (rw [hy384]; exact H) | exact H
                    have Ny384 := Aside0.mk hy384; clear hy384; replace H := Option.bind_eq_some_iff.mp H; obtain ⟨⟨t388, t389⟩, A130, H⟩ := H; replace H : (if t388 = 0 then (some (0, 0)) else (impl_exprDepth.l0 k2 l0 (wrap64 (x4_2 + t388)) (mx x5_2 t389) t383 (wrap64 (x23_2 + 1)))) = some (r1, r2) := H; have A13 := Aside0.mk A130; clear A130; by_cases c14 : t388 = 0
                    · rw [if_pos c14] at H; have c14b0 : (t388 == 0) = true := beq_iff_eq.mpr c14; have c14b1 : (t388 != 0) = false := bne_eq_false_iff_eq.mpr c14; clear c14; simp only [Option.some.injEq, Prod.mk.injEq] at H; obtain ⟨rfl, rfl⟩ := H; have q15 : (x4_2 : Int) ≤ ((l0.length : Int) : Int) := of_decide_eq_true Da; obtain ⟨i015, hi015, _, hsz15, _⟩ := info_parts info156; have hroom15 : l0.length ≤ c0 := HC0.out; have hC15 : Kd.C k156 _ (some ad382) l0.length l0 := HR0.out; have q015 : (0 : Int) ≤ (x4_2 : Int) := of_decide_eq_true Da; have hcut15 := cut_from (P := Tryz.prog) 63 156 .i64 Tryz.underlying63 hi015 3 hsz15 (some ad382) l0.length c0 x4_2 q015 q15; have hr15 := Kd.C_drop (m := (x4_2 : Int).toNat) (c := c0) hC15 (by omega) hroom15; obtain ⟨A15, hA15⟩ : ∃ A1, A1 = (if c0 = (x4_2 : Int).toNat then (some ad382) else ((some ad382) : Option Addr).map (·.add ((x4_2 : Int).toNat * 3))) := ⟨_, rfl⟩; obtain ⟨c15, hc15⟩ : ∃ c1, c1 = c0 - (x4_2 : Int).toNat := ⟨_, rfl⟩; have hy15 : y384.length = l0.length - (x4_2 : Int).toNat := (by rw [Ny384.out, List.length_drop] <;> omega); rw [show (l0).drop (x4_2 : Int).toNat = y384 from Ny384.out.symm] at hr15; replace hr15 : Kd.C k156 _ A15 y384.length y384 := (by rw [hA15]; exact hr15); rw [← hy15, ← hA15, ← hc15] at hcut15; have HR387 := Aside0.mk hr15; have HC387 := Aside0.mk (show y384.length ≤ c15 from by rw [hy15, hc15]; exact Nat.sub_le_sub_right hroom15 _); clear hr15 hC15 hroom15 hi015 hsz15 hc15; have KY15 := Aside0.mk hy15; have KA15 := Aside0.mk hA15; clear hy15 hA15; replace q15 := eq_true q15; go_wp2_with (first | ((with_reducible refine gate_callee (f := 138) rfl ?_); refine goesL_ (some 29) rfl rfl Tryz.func138 (by kernel_rfl) rfl #[.slice A15 y384.length c15] rfl Ag ?_; (with_reducible refine (ih k2 (by have := HJ1.out; have := HK2.out; omega) _ _ y384 t388 t389 _ ?side1 ?side2 A13.out).mono ?_); (case side1 => exact rC (Kd.C_below HR387.out HB.out)); (case side2 => exact HC387.out); rintro e w16 ⟨rfl, hb⟩; refine ⟨_, rfl, ?_⟩; have n0_ := Aside0.mk (below_step By hb); clear HB; have HB := n0_; clear n0_; (try clear hb); (try clear hb2); (try clear hk); (try clear hi))); go_ret2; exact ⟨Rf, By⟩
                    · rw [if_neg c14] at H; have c14b0 : (t388 == 0) = false := beq_eq_false_iff_ne.mpr c14; have c14b1 : (t388 != 0) = true := bne_iff_ne.mpr c14; obtain ⟨ji17, hji17⟩ : ∃ j_ : Int, (mx x5_2 t389) = j_ := ⟨_, rfl⟩; replace H : (impl_exprDepth.l0 k2 l0 (wrap64 (x4_2 + t388)) ji17 t383 (wrap64 (x23_2 + 1))) = some (r1, r2) := by first | (rw [hji17] at H; exact H) | (simp only [hji17] at H ⊢; exact H)
                      (try rw [hji17] at A13); have hji17_ : (if x5_2 < t389 then t389 else x5_2) = ji17 := hji17; have H' := Aside0.mk H; clear H; have q18 : (x4_2 : Int) ≤ ((l0.length : Int) : Int) := of_decide_eq_true Da; obtain ⟨i018, hi018, _, hsz18, _⟩ := info_parts info156; have hroom18 : l0.length ≤ c0 := HC0.out; have hC18 : Kd.C k156 _ (some ad382) l0.length l0 := HR0.out; have q018 : (0 : Int) ≤ (x4_2 : Int) := of_decide_eq_true Da; have hcut18 := cut_from (P := Tryz.prog) 63 156 .i64 Tryz.underlying63 hi018 3 hsz18 (some ad382) l0.length c0 x4_2 q018 q18; have hr18 := Kd.C_drop (m := (x4_2 : Int).toNat) (c := c0) hC18 (by omega) hroom18; obtain ⟨A18, hA18⟩ : ∃ A1, A1 = (if c0 = (x4_2 : Int).toNat then (some ad382) else ((some ad382) : Option Addr).map (·.add ((x4_2 : Int).toNat * 3))) := ⟨_, rfl⟩; obtain ⟨c18, hc18⟩ : ∃ c1, c1 = c0 - (x4_2 : Int).toNat := ⟨_, rfl⟩; have hy18 : y384.length = l0.length - (x4_2 : Int).toNat := (by rw [Ny384.out, List.length_drop] <;> omega); rw [show (l0).drop (x4_2 : Int).toNat = y384 from Ny384.out.symm] at hr18; replace hr18 : Kd.C k156 _ A18 y384.length y384 := (by rw [hA18]; exact hr18); rw [← hy18, ← hA18, ← hc18] at hcut18; have HR387 := Aside0.mk hr18; have HC387 := Aside0.mk (show y384.length ≤ c18 from by rw [hy18, hc18]; exact Nat.sub_le_sub_right hroom18 _); clear hr18 hC18 hroom18 hi018 hsz18 hc18; have KY18 := Aside0.mk hy18; have KA18 := Aside0.mk hA18; clear hy18 hA18; replace q18 := eq_true q18; go_wp2_with (first | ((with_reducible refine gate_callee (f := 138) rfl ?_); refine goesL_ (some 29) rfl rfl Tryz.func138 (by kernel_rfl) rfl #[.slice A18 y384.length c18] rfl Ag ?_; (with_reducible refine (ih k2 (by have := HJ1.out; have := HK2.out; omega) _ _ y384 t388 t389 _ ?side1 ?side2 A13.out).mono ?_); (case side1 => exact rC (Kd.C_below HR387.out HB.out)); (case side2 => exact HC387.out); rintro e w19 ⟨rfl, hb⟩; refine ⟨_, rfl, ?_⟩; have n0_ := Aside0.mk (below_step By hb); clear HB; have HB := n0_; clear n0_; (try clear hb); (try clear hb2); (try clear hk); (try clear hi))); go_roundg k2
                      case measure => have := HJ1.out; have := HK2.out; omega
                      case rel => exact ⟨(wrap64 (x4_2 + t388)), (ji17), (wrap64 (x23_2 + 1)), (by first | rfl | (simp; done) | (simp [*]; done)), (by first | rfl | (simp; done) | (simp only [← hji17] <;> (first | rfl | simp)) | (simp [*]; done)), (by first | rfl | (simp; done) | (simp [*]; done)), H', ⟨by have := HJ1.out; have := HK2.out; omega⟩, ⟨By⟩⟩
                  · rw [if_neg c12] at H; exact absurd H (by simp)
                · rw [if_neg c11] at H; exact absurd H (by simp)
              · rw [if_neg c10] at H; have c10b0 : decide (x23_2 < t383) = false := decide_eq_false c10; clear c10; simp only [Option.some.injEq, Prod.mk.injEq] at H; obtain ⟨rfl, rfl⟩ := H; go_wp2; go_ret2; exact ⟨Rf, By⟩
        · rw [if_neg c8] at H; exact absurd H (by simp)

set_option linter.unusedVariables false
set_option linter.unusedSimpArgs false

/-! ### impl_ExprRight: function 84 -/
def impl_ExprRight.f (k : Nat) (l0 : List (S156)) : Option (Bool) := if (l0.length : Int) > 12 then (some false) else ((impl_exprDepth.f k l0).bind fun bt390 => (if bt390.1 > 0 then (if bt390.1 = (l0.length : Int) then (some (decide (bt390.2 ≤ 5))) else (some false)) else (some false)))
theorem impl_ExprRight.mono : ∀ a0 k, LeO (impl_ExprRight.f k a0) (impl_ExprRight.f (k + 1) a0) := by
  intro a0 k; unfold impl_ExprRight.f; repeat' first
      | (with_reducible exact impl_exprDepth.mono _ _)
      | (with_reducible exact LeO.refl _)
      | (with_reducible exact LeO.none _)
      | (with_reducible refine LeO.ite ?_ ?_)
      | (with_reducible refine LeO.bind ?_ (fun _ => ?_))
set_option maxHeartbeats 8000000 in
set_option maxRecDepth 100000 in
theorem impl_ExprRight.calls (k : Nat) (A0 : Option Addr) (c0 : Nat) (l0 : List (S156)) (r : Bool) (w : World) (hr0 : Kd.C k156 w A0 l0.length l0) (hc0 : l0.length ≤ c0) (h : impl_ExprRight.f k l0 = some r) :
    Calls Tryz.prog 84 #[.slice A0 l0.length c0] w fun e w' => e = .returned (.bool r) ∧ Below w.heap.size w w' := by
  have HR0 := Aside0.mk hr0; have HC0 := Aside0.mk hc0; clear hr0 hc0; have HB := Aside0.mk (Below.refl w.heap.size w); have H : (if (l0.length : Int) > 12 then (some false) else ((impl_exprDepth.f k l0).bind fun bt390 => (if bt390.1 > 0 then (if bt390.1 = (l0.length : Int) then (some (decide (bt390.2 ≤ 5))) else (some false)) else (some false)))) = some r := h; clear h; by_cases c2 : (l0.length : Int) > 12
  · rw [if_pos c2] at H; have c2b0 : decide (12 < (l0.length : Int)) = true := decide_eq_true c2; have c2b1 : decide (12 < l0.length) = true := decide_eq_true (by omega); clear c2; obtain rfl := Option.some.inj H; go_enter Tryz.func84, Tryz.ntmps84; go_wp2; go_ret; exact ⟨Rf, By⟩
  · rw [if_neg c2] at H; have c2b0 : decide (12 < (l0.length : Int)) = false := decide_eq_false c2; have c2b1 : decide (12 < l0.length) = false := decide_eq_false (by omega); clear c2; replace H := Option.bind_eq_some_iff.mp H; obtain ⟨⟨t390, t391⟩, A30, H⟩ := H; (try dsimp only at H); have A3 := Aside0.mk A30; clear A30; by_cases c4 : t390 > 0
    · rw [if_pos c4] at H; have c4b0 : decide (0 < t390) = true := decide_eq_true c4; clear c4; by_cases c5 : t390 = (l0.length : Int)
      · rw [if_pos c5] at H; have c5b0 : (t390 == (l0.length : Int)) = true := beq_iff_eq.mpr c5; have c5b1 : (t390 != (l0.length : Int)) = false := bne_eq_false_iff_eq.mpr c5; clear c5; obtain rfl := Option.some.inj H; go_enter Tryz.func84, Tryz.ntmps84; go_wp2_with (first | ((with_reducible refine gate_callee (f := 138) rfl ?_); refine goesL_ (some 10) rfl rfl Tryz.func138 (by kernel_rfl) rfl #[.slice A0 l0.length c0] rfl Ag ?_; (with_reducible refine (impl_exprDepth.calls k _ _ l0 t390 t391 _ ?side1 ?side2 A3.out).mono ?_); (case side1 => repeat (first | exact HR0.out | (with_reducible refine Kd.C_alloc ?_ _) | (with_reducible refine Kd.C_drewN ?_ _) | (with_reducible refine Kd.C_drew ?_))); (case side2 => exact HC0.out); rintro e w6 ⟨rfl, hb⟩; refine ⟨_, rfl, ?_⟩; have n0_ := Aside0.mk (below_step By hb); clear HB; have HB := n0_; clear n0_; (try clear hb); (try clear hb2); (try clear hk); (try clear hi))); go_ret; exact ⟨Rf, By⟩
      · rw [if_neg c5] at H; have c5b0 : (t390 == (l0.length : Int)) = false := beq_eq_false_iff_ne.mpr c5; have c5b1 : (t390 != (l0.length : Int)) = true := bne_iff_ne.mpr c5; obtain rfl := Option.some.inj H; go_enter Tryz.func84, Tryz.ntmps84; go_wp2_with (first | ((with_reducible refine gate_callee (f := 138) rfl ?_); refine goesL_ (some 10) rfl rfl Tryz.func138 (by kernel_rfl) rfl #[.slice A0 l0.length c0] rfl Ag ?_; (with_reducible refine (impl_exprDepth.calls k _ _ l0 t390 t391 _ ?side1 ?side2 A3.out).mono ?_); (case side1 => repeat (first | exact HR0.out | (with_reducible refine Kd.C_alloc ?_ _) | (with_reducible refine Kd.C_drewN ?_ _) | (with_reducible refine Kd.C_drew ?_))); (case side2 => exact HC0.out); rintro e w7 ⟨rfl, hb⟩; refine ⟨_, rfl, ?_⟩; have n0_ := Aside0.mk (below_step By hb); clear HB; have HB := n0_; clear n0_; (try clear hb); (try clear hb2); (try clear hk); (try clear hi))); go_ret; exact ⟨Rf, By⟩
    · rw [if_neg c4] at H; have c4b0 : decide (0 < t390) = false := decide_eq_false c4; clear c4; obtain rfl := Option.some.inj H; go_enter Tryz.func84, Tryz.ntmps84; go_wp2_with (first | ((with_reducible refine gate_callee (f := 138) rfl ?_); refine goesL_ (some 10) rfl rfl Tryz.func138 (by kernel_rfl) rfl #[.slice A0 l0.length c0] rfl Ag ?_; (with_reducible refine (impl_exprDepth.calls k _ _ l0 t390 t391 _ ?side1 ?side2 A3.out).mono ?_); (case side1 => repeat (first | exact HR0.out | (with_reducible refine Kd.C_alloc ?_ _) | (with_reducible refine Kd.C_drewN ?_ _) | (with_reducible refine Kd.C_drew ?_))); (case side2 => exact HC0.out); rintro e w8 ⟨rfl, hb⟩; refine ⟨_, rfl, ?_⟩; have n0_ := Aside0.mk (below_step By hb); clear HB; have HB := n0_; clear n0_; (try clear hb); (try clear hb2); (try clear hk); (try clear hi))); go_ret; exact ⟨Rf, By⟩

set_option linter.unusedVariables false
set_option linter.unusedSimpArgs false

/-! ### impl_isRdn: function 136 -/
def impl_isRdn.f (k : Nat) (a0_0 : ByteArray) (a0_1 : ByteArray) : Option (Bool) := (impl_NameRight.f a0_0).bind fun t521 => (if t521 = true then ((impl_isProper.f k a0_1).bind fun t522 => (some t522)) else (some false))
theorem impl_isRdn.mono : ∀ a0 a1 k, LeO (impl_isRdn.f k a0 a1) (impl_isRdn.f (k + 1) a0 a1) := by
  intro a0 a1 k; unfold impl_isRdn.f; repeat' first
      | (with_reducible exact impl_isProper.mono _ _)
      | (with_reducible exact LeO.refl _)
      | (with_reducible exact LeO.none _)
      | (with_reducible refine LeO.ite ?_ ?_)
      | (with_reducible refine LeO.bind ?_ (fun _ => ?_))
set_option maxHeartbeats 8000000 in
set_option maxRecDepth 100000 in
theorem impl_isRdn.calls (k : Nat) (a0_0 : ByteArray) (a0_1 : ByteArray) (r : Bool) (w : World) (h : impl_isRdn.f k a0_0 a0_1 = some r) :
    Calls Tryz.prog 136 #[.agg #[.string a0_0, .string a0_1]] w fun e w' => e = .returned (.bool r) ∧ Below w.heap.size w w' := by
  have hu126 := Tryz.underlying126; have HB := Aside0.mk (Below.refl w.heap.size w); have H : ((impl_NameRight.f a0_0).bind fun t521 => (if t521 = true then ((impl_isProper.f k a0_1).bind fun t522 => (some t522)) else (some false))) = some r := h; clear h; replace H := Option.bind_eq_some_iff.mp H; obtain ⟨t521, A20, H⟩ := H; (try dsimp only at H); have A2 := Aside0.mk A20; clear A20; by_cases c3 : t521 = true
  · subst c3; rw [if_pos rfl] at H; replace H := Option.bind_eq_some_iff.mp H; obtain ⟨t522, A40, H⟩ := H; (try dsimp only at H); have A4 := Aside0.mk A40; clear A40; obtain rfl := Option.some.inj H; go_enter Tryz.func136, Tryz.ntmps136; go_wp2_with (first | ((with_reducible refine gate_dst (N := 1) rfl ?_); refine box_event ?hg (N := 1) ?hd (cs := #[.string a0_0, .string a0_1]) (t := 126) ?hr ?_; (case hd => rfl); (case hg => rfl); (case hr => first | (go_simp; done) | (go_simp; rfl)); intro gb520 hg w5 hbox hb; have n_ := aa (below_step By hb) <| aa (hbox) <| aa ((by rw [hg]; exact (below_size By) : w.heap.size ≤ gb520)) <| Aside0.mk ((by rw [hg]; exact (below_size By) : w.heap.size ≤ gb520)); clear HB; obtain ⟨HB, BK520, GW520, GE520⟩ := n_; clear hb hbox hg; have ⟨hcz6_0, hcz6_1⟩ := cq2 BK520.out; have ⟨hfz6_0, hfz6_1⟩ := fq2 BK520.out) | ((with_reducible refine gate_callee (f := 49) rfl ?_); refine goesL_ (some 5) rfl rfl Tryz.func49 (by kernel_rfl) rfl #[.string a0_0] rfl Ag ?_; (with_reducible refine (impl_NameRight.calls a0_0 true _ A2.out).mono ?_); rintro e w7 ⟨rfl, hb⟩; refine ⟨_, rfl, ?_⟩; have n_ := aa (bb BK520.out hb) <| Aside0.mk (below_step By hb); clear BK520 HB; obtain ⟨BK520, HB⟩ := n_; (try clear hb); (try clear hb2); (try clear hk); (try clear hi); have ⟨hcz8_0, hcz8_1⟩ := cq2 BK520.out; have ⟨hfz8_0, hfz8_1⟩ := fq2 BK520.out) | (go_at_call 118; (with_reducible refine (impl_isProper.calls k a0_1 t522 _ A4.out).mono ?_); rintro e w9 ⟨rfl, hb⟩; have n_ := aa (bb BK520.out hb) <| Aside0.mk (below_step By hb); clear BK520 HB; obtain ⟨BK520, HB⟩ := n_; (try clear hb); (try clear hb2); (try clear hk); (try clear hi))); go_ret; exact ⟨Rf, By⟩
  · replace c3 := Bool.eq_false_iff.mpr c3; subst c3; rw [if_neg (show ¬ (false = true) by decide)] at H; obtain rfl := Option.some.inj H; go_enter Tryz.func136, Tryz.ntmps136; go_wp2_with (first | ((with_reducible refine gate_dst (N := 1) rfl ?_); refine box_event ?hg (N := 1) ?hd (cs := #[.string a0_0, .string a0_1]) (t := 126) ?hr ?_; (case hd => rfl); (case hg => rfl); (case hr => first | (go_simp; done) | (go_simp; rfl)); intro gb520 hg w10 hbox hb; have n_ := aa (below_step By hb) <| aa (hbox) <| aa ((by rw [hg]; exact (below_size By) : w.heap.size ≤ gb520)) <| Aside0.mk ((by rw [hg]; exact (below_size By) : w.heap.size ≤ gb520)); clear HB; obtain ⟨HB, BK520, GW520, GE520⟩ := n_; clear hb hbox hg; have ⟨hcz11_0, hcz11_1⟩ := cq2 BK520.out; have ⟨hfz11_0, hfz11_1⟩ := fq2 BK520.out) | ((with_reducible refine gate_callee (f := 49) rfl ?_); refine goesL_ (some 5) rfl rfl Tryz.func49 (by kernel_rfl) rfl #[.string a0_0] rfl Ag ?_; (with_reducible refine (impl_NameRight.calls a0_0 false _ A2.out).mono ?_); rintro e w12 ⟨rfl, hb⟩; refine ⟨_, rfl, ?_⟩; have n_ := aa (bb BK520.out hb) <| Aside0.mk (below_step By hb); clear BK520 HB; obtain ⟨BK520, HB⟩ := n_; (try clear hb); (try clear hb2); (try clear hk); (try clear hi))); go_ret; exact ⟨Rf, By⟩

end Go.Proofs.YtbgikfahcppkfaaGreatDoor.PG
