/-
  Functions that the law reaches, each as a plain Lean function, with the proof that the call comes to it (written by a program of this session by way of the kit's print program). Conditions: what each contract states.
-/
import Derived.Test.YthapodlehfblgaaDoorAOP1
import Derived.Test.YthapodlehfblgaaDoorAOLibTrim
import Derived.Test.YthapodlehfblgaaDoorAOSq
import Derived.Test.YthapodlehfblgaaDoorAOP2
import Derived.Test.YthapodlehfblgaaDoorAOCompare
namespace Go.Proofs.YthapodlehfblgaaDoor.PA
open Go.Proofs.YthapodlehfblgaaDoor.Sq Go.RowKit Go.Proofs.YthapodlehfblgaaDoorW.PrintWords Go.Proofs.YthapodlehfblgaaDoorW.PrintLast Go.Proofs.YthapodlehfblgaaDoorW.PrintMore
attribute [local go_sem] max2_int min2_int max_two min_two max_three min_three max_four min_four   -- for this text's walks alone
set_option linter.unusedVariables false
set_option linter.unusedSimpArgs false

/-! ### impl_NameRight: function 99 -/
def impl_NameRight.f (a0 : ByteArray) : Option (Bool) := if (a0.size : Int) ≥ 1 then (if (a0.size : Int) ≤ 20 then (if 0 < (a0.size : Int) then (if (bt a0 0) ≥ 97 then (if (bt a0 0) ≤ 122 then ((strings_Trim.f a0 (⟨#[97, 98, 99, 100, 101, 102, 103, 104, 105, 106, 107, 108, 109, 110, 111, 112, 113, 114, 115, 116, 117, 118, 119, 120, 121, 122, 48, 49, 50, 51, 52, 53, 54, 55, 56, 57, 95]⟩ : ByteArray)).bind fun t280 => (some (t280.toList == ([] : List UInt8)))) else (some false)) else (some false)) else (none)) else (some false)) else (some false)
set_option maxHeartbeats 8000000 in
set_option maxRecDepth 100000 in
theorem impl_NameRight.calls (a0 : ByteArray) (r : Bool) (w : World) (h : impl_NameRight.f a0 = some r) :
    Calls Tryd.prog 99 #[.string a0] w fun e w' => e = .returned (.bool r) ∧ Below w.heap.size w w' := by
  have HB := Aside0.mk (Below.refl w.heap.size w); have H : (if (a0.size : Int) ≥ 1 then (if (a0.size : Int) ≤ 20 then (if 0 < (a0.size : Int) then (if (bt a0 0) ≥ 97 then (if (bt a0 0) ≤ 122 then ((strings_Trim.f a0 (⟨#[97, 98, 99, 100, 101, 102, 103, 104, 105, 106, 107, 108, 109, 110, 111, 112, 113, 114, 115, 116, 117, 118, 119, 120, 121, 122, 48, 49, 50, 51, 52, 53, 54, 55, 56, 57, 95]⟩ : ByteArray)).bind fun t280 => (some (t280.toList == ([] : List UInt8)))) else (some false)) else (some false)) else (none)) else (some false)) else (some false)) = some r := h; clear h; by_cases c2 : (a0.size : Int) ≥ 1
  · rw [if_pos c2] at H; have c2b0 : decide (1 ≤ (a0.size : Int)) = true := decide_eq_true c2; have c2b1 : decide (1 ≤ a0.size) = true := decide_eq_true (by omega); clear c2; by_cases c3 : (a0.size : Int) ≤ 20
    · rw [if_pos c3] at H; have c3b0 : decide ((a0.size : Int) ≤ 20) = true := decide_eq_true c3; have c3b1 : decide (a0.size ≤ 20) = true := decide_eq_true (by omega); clear c3; by_cases c4 : 0 < (a0.size : Int)
      · rw [if_pos c4] at H; have c4b0 : decide (0 < (a0.size : Int)) = true := decide_eq_true c4; have c4b1 : decide (0 < a0.size) = true := decide_eq_true (by omega); clear c4; by_cases c6 : (bt a0 0) ≥ 97
        · rw [if_pos c6] at H; have c6b0 : decide (97 ≤ (bt a0 0)) = true := decide_eq_true c6; clear c6; by_cases c8 : (bt a0 0) ≤ 122
          · rw [if_pos c8] at H; have c8b0 : decide ((bt a0 0) ≤ 122) = true := decide_eq_true c8; clear c8; replace H := Option.bind_eq_some_iff.mp H; obtain ⟨t280, A90, H⟩ := H; (try dsimp only at H); have A9 := Aside0.mk A90; clear A90; obtain rfl := Option.some.inj H; have p5 : 0 ≤ (0 : Int) := (by omega); have q5 : 0 < a0.size := (by have : (0 : Int) < (a0.size : Int) := of_decide_eq_true Da; omega); have hx5 : ∀ h : 0 < a0.size, ((a0[0]'h).toNat : Int) = bt a0 0 := bt_at a0 0; clear p5; have qi5 : (0 < (a0.size : Int)) = True := eq_true (of_decide_eq_true Da); replace q5 := eq_true q5; have p7 : 0 ≤ (0 : Int) := (by omega); have q7 : 0 < a0.size := (by have : (0 : Int) < (a0.size : Int) := of_decide_eq_true Da; omega); have hx7 : ∀ h : 0 < a0.size, ((a0[0]'h).toNat : Int) = bt a0 0 := bt_at a0 0; clear p7; have qi7 : (0 < (a0.size : Int)) = True := eq_true (of_decide_eq_true Da); replace q7 := eq_true q7; go_enter Tryd.func99, Tryd.ntmps99; go_wp2_with (first | (go_at_call 121; (with_reducible refine (strings_Trim.calls a0 (⟨#[97, 98, 99, 100, 101, 102, 103, 104, 105, 106, 107, 108, 109, 110, 111, 112, 113, 114, 115, 116, 117, 118, 119, 120, 121, 122, 48, 49, 50, 51, 52, 53, 54, 55, 56, 57, 95]⟩ : ByteArray) t280 _ A9.out).mono ?_); rintro e w10 ⟨rfl, hb⟩; have n0_ := Aside0.mk (below_step By hb); clear HB; have HB := n0_; clear n0_; (try clear hb); (try clear hb2); (try clear hk); (try clear hi))); go_ret; exact ⟨Rf, By⟩
          · rw [if_neg c8] at H; have c8b0 : decide ((bt a0 0) ≤ 122) = false := decide_eq_false c8; clear c8; obtain rfl := Option.some.inj H; have p5 : 0 ≤ (0 : Int) := (by omega); have q5 : 0 < a0.size := (by have : (0 : Int) < (a0.size : Int) := of_decide_eq_true Da; omega); have hx5 : ∀ h : 0 < a0.size, ((a0[0]'h).toNat : Int) = bt a0 0 := bt_at a0 0; clear p5; have qi5 : (0 < (a0.size : Int)) = True := eq_true (of_decide_eq_true Da); replace q5 := eq_true q5; have p7 : 0 ≤ (0 : Int) := (by omega); have q7 : 0 < a0.size := (by have : (0 : Int) < (a0.size : Int) := of_decide_eq_true Da; omega); have hx7 : ∀ h : 0 < a0.size, ((a0[0]'h).toNat : Int) = bt a0 0 := bt_at a0 0; clear p7; have qi7 : (0 < (a0.size : Int)) = True := eq_true (of_decide_eq_true Da); replace q7 := eq_true q7; go_enter Tryd.func99, Tryd.ntmps99; go_wp2; go_ret; exact ⟨Rf, By⟩
        · rw [if_neg c6] at H; have c6b0 : decide (97 ≤ (bt a0 0)) = false := decide_eq_false c6; clear c6; obtain rfl := Option.some.inj H; have p5 : 0 ≤ (0 : Int) := (by omega); have q5 : 0 < a0.size := (by have : (0 : Int) < (a0.size : Int) := of_decide_eq_true Da; omega); have hx5 : ∀ h : 0 < a0.size, ((a0[0]'h).toNat : Int) = bt a0 0 := bt_at a0 0; clear p5; have qi5 : (0 < (a0.size : Int)) = True := eq_true (of_decide_eq_true Da); replace q5 := eq_true q5; go_enter Tryd.func99, Tryd.ntmps99; go_wp2; go_ret; exact ⟨Rf, By⟩
      · rw [if_neg c4] at H; exact absurd H (by simp)
    · rw [if_neg c3] at H; have c3b0 : decide ((a0.size : Int) ≤ 20) = false := decide_eq_false c3; have c3b1 : decide (a0.size ≤ 20) = false := decide_eq_false (by omega); clear c3; obtain rfl := Option.some.inj H; go_enter Tryd.func99, Tryd.ntmps99; go_wp2; go_ret; exact ⟨Rf, By⟩
  · rw [if_neg c2] at H; have c2b0 : decide (1 ≤ (a0.size : Int)) = false := decide_eq_false c2; have c2b1 : decide (1 ≤ a0.size) = false := decide_eq_false (by omega); clear c2; obtain rfl := Option.some.inj H; go_enter Tryd.func99, Tryd.ntmps99; go_wp2; go_ret; exact ⟨Rf, By⟩

set_option linter.unusedVariables false
set_option linter.unusedSimpArgs false

/-! ### impl_byNorm: function 102 -/
def impl_byNorm.f (k : Nat) (a0 : ByteArray) (a1 : ByteArray) : Option (Int) := (impl_Norm.f k a0).bind fun t303 => ((impl_Norm.f k a1).bind fun t304 => ((strings_Compare.f t303 t304).bind fun t305 => (some t305)))
theorem impl_byNorm.mono : ∀ a0 a1 k, LeO (impl_byNorm.f k a0 a1) (impl_byNorm.f (k + 1) a0 a1) := by
  intro a0 a1 k; unfold impl_byNorm.f; repeat' first
      | (with_reducible exact impl_Norm.mono _ _)
      | (with_reducible exact LeO.refl _)
      | (with_reducible exact LeO.none _)
      | (with_reducible refine LeO.ite ?_ ?_)
      | (with_reducible refine LeO.bind ?_ (fun _ => ?_))
set_option maxHeartbeats 8000000 in
set_option maxRecDepth 100000 in
theorem impl_byNorm.calls (k : Nat) (a0 : ByteArray) (a1 : ByteArray) (r : Int) (w : World) (h : impl_byNorm.f k a0 a1 = some r) :
    Calls Tryd.prog 102 #[.string a0, .string a1] w fun e w' => e = .returned (.int .i64 r) ∧ Below w.heap.size w w' := by
  have HB := Aside0.mk (Below.refl w.heap.size w); have H : ((impl_Norm.f k a0).bind fun t303 => ((impl_Norm.f k a1).bind fun t304 => ((strings_Compare.f t303 t304).bind fun t305 => (some t305)))) = some r := h; clear h; replace H := Option.bind_eq_some_iff.mp H; obtain ⟨t303, A30, H⟩ := H; (try dsimp only at H); have A3 := Aside0.mk A30; clear A30; replace H := Option.bind_eq_some_iff.mp H; obtain ⟨t304, A40, H⟩ := H; (try dsimp only at H); have A4 := Aside0.mk A40; clear A40; replace H := Option.bind_eq_some_iff.mp H; obtain ⟨t305, A50, H⟩ := H; (try dsimp only at H); have A5 := Aside0.mk A50; clear A50; obtain rfl := Option.some.inj H; go_enter Tryd.func102, Tryd.ntmps102; go_wp2_with (first | ((with_reducible refine gate_callee (f := 122) rfl ?_); refine goesL_ (some 6) rfl rfl Tryd.func122 (by kernel_rfl) rfl #[.string a0] rfl Ag ?_; (with_reducible refine (impl_Norm.calls k a0 t303 _ A3.out).mono ?_); rintro e w6 ⟨rfl, hb⟩; refine ⟨_, rfl, ?_⟩; have n0_ := Aside0.mk (below_step By hb); clear HB; have HB := n0_; clear n0_; (try clear hb); (try clear hb2); (try clear hk); (try clear hi)) | ((with_reducible refine gate_callee (f := 122) rfl ?_); refine goesL_ (some 8) rfl rfl Tryd.func122 (by kernel_rfl) rfl #[.string a1] rfl Ag ?_; (with_reducible refine (impl_Norm.calls k a1 t304 _ A4.out).mono ?_); rintro e w7 ⟨rfl, hb⟩; refine ⟨_, rfl, ?_⟩; have n0_ := Aside0.mk (below_step By hb); clear HB; have HB := n0_; clear n0_; (try clear hb); (try clear hb2); (try clear hk); (try clear hi)) | ((with_reducible refine gate_callee (f := 123) rfl ?_); refine goesL_ (some 9) rfl rfl Tryd.func123 (by kernel_rfl) rfl #[.string t303, .string t304] rfl Ag ?_; (with_reducible refine (strings_Compare.calls t303 t304 t305 _ A5.out).mono ?_); rintro e w8 ⟨rfl, hb⟩; refine ⟨_, rfl, ?_⟩; have n0_ := Aside0.mk (below_step By hb); clear HB; have HB := n0_; clear n0_; (try clear hb); (try clear hb2); (try clear hk); (try clear hi))); go_ret; exact ⟨Rf, By⟩

set_option linter.unusedVariables false
set_option linter.unusedSimpArgs false

/-! ### impl_isAttr: function 71 -/
mutual
def impl_isAttr.j0 : Nat → Bool → ByteArray → List ByteArray → Option (Bool)
  | 0, _, _, _ => none
  | k + 1, x15, x307000, x307001 => if x15 = true then (some false) else (impl_isAttr.l0 k x307001 (x307001.length : Int) 0 x307000 x307001)
def impl_isAttr.l0 : Nat → List ByteArray → Int → Int → ByteArray → List ByteArray → Option (Bool)
  | 0, _, _, _, _, _ => none
  | k + 1, x17, x18, x19, x307000, x307001 => if x19 < x18 then (if 0 ≤ x19 then (if x19 < (x17.length : Int) then ((impl_isProper.f k (rdOf ByteArray.empty x17 x19)).bind fun t311 => (if t311 = true then (if x19 > 0 then (if 0 ≤ (wrap64 (x19 - 1)) then (if (wrap64 (x19 - 1)) < (x307001.length : Int) then ((impl_byNorm.f k (rdOf ByteArray.empty x307001 (wrap64 (x19 - 1))) (rdOf ByteArray.empty x17 x19)).bind fun t313 => (if t313 ≥ 0 then (some false) else (impl_isAttr.l0 k x17 x18 (wrap64 (x19 + 1)) x307000 x307001))) else (none)) else (none)) else (impl_isAttr.l0 k x17 x18 (wrap64 (x19 + 1)) x307000 x307001)) else (some false))) else (none)) else (none)) else (some true)
end
def impl_isAttr.f (k : Nat) (a0_0 : ByteArray) (l0_1 : List ByteArray) : Option (Bool) := (impl_NameRight.f a0_0).bind fun t307 => (if t307 = true then ((impl_size_string.f l0_1).bind fun t308 => ((impl_between.f t308 1 4).bind fun t309 => (impl_isAttr.j0 k (!t309) a0_0 l0_1))) else (impl_isAttr.j0 k true a0_0 l0_1))
theorem impl_isAttr.mono_l : ∀ k, (∀ y0 y1 y2, LeO (impl_isAttr.j0 k y0 y1 y2) (impl_isAttr.j0 (k + 1) y0 y1 y2)) ∧ (∀ y0 y1 y2 y3 y4, LeO (impl_isAttr.l0 k y0 y1 y2 y3 y4) (impl_isAttr.l0 (k + 1) y0 y1 y2 y3 y4))
  | 0 => ⟨fun _ _ _ r h => by simp [impl_isAttr.j0] at h, fun _ _ _ _ _ r h => by simp [impl_isAttr.l0] at h⟩
  | k + 1 => by
    obtain ⟨ih0, ih1⟩ := impl_isAttr.mono_l k; refine ⟨?_, ?_⟩
    · intro y0 y1 y2; unfold impl_isAttr.j0; repeat' first
      | (with_reducible exact ih0 _ _ _)
      | (with_reducible exact ih1 _ _ _ _ _)
      | (with_reducible exact impl_byNorm.mono _ _ _)
      | (with_reducible exact impl_isProper.mono _ _)
      | (with_reducible exact LeO.refl _)
      | (with_reducible exact LeO.none _)
      | (with_reducible refine LeO.ite ?_ ?_)
      | (with_reducible refine LeO.bind ?_ (fun _ => ?_))
    · intro y0 y1 y2 y3 y4; unfold impl_isAttr.l0; repeat' first
      | (with_reducible exact ih0 _ _ _)
      | (with_reducible exact ih1 _ _ _ _ _)
      | (with_reducible exact impl_byNorm.mono _ _ _)
      | (with_reducible exact impl_isProper.mono _ _)
      | (with_reducible exact LeO.refl _)
      | (with_reducible exact LeO.none _)
      | (with_reducible refine LeO.ite ?_ ?_)
      | (with_reducible refine LeO.bind ?_ (fun _ => ?_))
theorem impl_isAttr.mono : ∀ a0 a1 k, LeO (impl_isAttr.f k a0 a1) (impl_isAttr.f (k + 1) a0 a1) := by
  intro a0 a1 k; obtain ⟨ih0, ih1⟩ := impl_isAttr.mono_l k; unfold impl_isAttr.f; repeat' first
      | (with_reducible exact ih0 _ _ _)
      | (with_reducible exact ih1 _ _ _ _ _)
      | (with_reducible exact impl_byNorm.mono _ _ _)
      | (with_reducible exact impl_isProper.mono _ _)
      | (with_reducible exact LeO.refl _)
      | (with_reducible exact LeO.none _)
      | (with_reducible refine LeO.ite ?_ ?_)
      | (with_reducible refine LeO.bind ?_ (fun _ => ?_))
set_option maxHeartbeats 8000000 in
set_option maxRecDepth 100000 in
theorem impl_isAttr.calls (k : Nat) (a0_0 : ByteArray) (A0_1 : Option Addr) (c0_1 : Nat) (l0_1 : List ByteArray) (r : Bool) (w : World) (hr0_1 : Kd.C Kd.string w A0_1 l0_1.length l0_1) (hc0_1 : l0_1.length ≤ c0_1) (h : impl_isAttr.f k a0_0 l0_1 = some r) :
    Calls Tryd.prog 71 #[.agg #[.string a0_0, .slice A0_1 l0_1.length c0_1]] w fun e w' => e = .returned (.bool r) ∧ Below w.heap.size w w' := by
  have hu102 := Tryd.underlying102; have HR0_1 := Aside0.mk hr0_1; have HC0_1 := Aside0.mk hc0_1; clear hr0_1 hc0_1; have HB := Aside0.mk (Below.refl w.heap.size w); have H : ((impl_NameRight.f a0_0).bind fun t307 => (if t307 = true then ((impl_size_string.f l0_1).bind fun t308 => ((impl_between.f t308 1 4).bind fun t309 => (impl_isAttr.j0 k (!t309) a0_0 l0_1))) else (impl_isAttr.j0 k true a0_0 l0_1))) = some r := h; clear h; have HC2 := Aside0.mk H; clear H; go_enter Tryd.func71, Tryd.ntmps71; go_upto_region 1 with (first | ((with_reducible refine gate_dst (N := 1) rfl ?_); refine box_event ?hg (N := 1) ?hd (cs := #[.string a0_0, .slice A0_1 l0_1.length c0_1]) (t := 102) ?hr ?_; (case hd => rfl); (case hg => rfl); (case hr => first | (go_simp; done) | (go_simp; rfl)); intro gb306 hg w3 hbox hb; have n_ := aa (below_step By hb) <| aa (hbox) <| aa ((by rw [hg]; exact (below_size By) : w.heap.size ≤ gb306)) <| Aside0.mk ((by rw [hg]; exact (below_size By) : w.heap.size ≤ gb306)); clear HB; obtain ⟨HB, BK306, GW306, GE306⟩ := n_; clear hb hbox hg)); (try simp only [Act.put, List.setIfInBounds_toArray, List.set_cons_zero, List.set_cons_succ]); go_cut [15] (fun v15 wc => ∃ (kq : Nat) (x15_1 : Bool), v15 = .bool x15_1 ∧ Aside0 (impl_isAttr.j0 kq x15_1 a0_0 l0_1 = some r) ∧ Aside0 (kq ≤ k) ∧ Aside0 (wc.heap[gb306]? = some (.cells #[.string a0_0, (.slice A0_1 l0_1.length c0_1)] 102 (0, 0))) ∧ Aside0 (Below w.heap.size w wc))
  case first =>
    have H := HC2.out; clear HC2; replace H := Option.bind_eq_some_iff.mp H; obtain ⟨t307, A40, H⟩ := H; (try dsimp only at H); have A4 := Aside0.mk A40; clear A40; by_cases c5 : t307 = true
    · subst c5; rw [if_pos rfl] at H; replace H := Option.bind_eq_some_iff.mp H; obtain ⟨t308, A60, H⟩ := H; (try dsimp only at H); have A6 := Aside0.mk A60; clear A60; replace H := Option.bind_eq_some_iff.mp H; obtain ⟨t309, A70, H⟩ := H; (try dsimp only at H); have A7 := Aside0.mk A70; clear A70; have H' := Aside0.mk H; clear H; have hcz8_0 : w3.cell? ⟨gb306, 0, none⟩ = some (.string a0_0) := bc BK306.out 0; have hcz8_1 : w3.cell? ⟨gb306, 1, none⟩ = some (.slice A0_1 l0_1.length c0_1) := bc BK306.out 1; have hfz8_0 := blk_frozen BK306.out 0; have hfz8_1 := blk_frozen BK306.out 1; go_wp2_with (first | ((with_reducible refine gate_callee (f := 99) rfl ?_); refine goesL_ (some 7) rfl rfl Tryd.func99 (by kernel_rfl) rfl #[.string a0_0] rfl Ag ?_; (with_reducible refine (impl_NameRight.calls a0_0 true _ A4.out).mono ?_); rintro e w9 ⟨rfl, hb⟩; refine ⟨_, rfl, ?_⟩; have n_ := aa (bb BK306.out hb) <| Aside0.mk (below_step By hb); clear BK306 HB; obtain ⟨BK306, HB⟩ := n_; (try clear hb); (try clear hb2); (try clear hk); (try clear hi); have ⟨hcz10_0, hcz10_1⟩ := cq2 BK306.out; have ⟨hfz10_0, hfz10_1⟩ := fq2 BK306.out) | (go_at_call 100; (with_reducible refine (impl_size_string.calls _ _ l0_1 t308 _ ?side1 ?side2 A6.out).mono ?_); (case side1 => exact rC (Kd.C_below HR0_1.out HB.out)); (case side2 => exact HC0_1.out); rintro e w' ⟨rfl, ⟨nd, rfl⟩⟩) | (go_at_call 83; (with_reducible refine (impl_between.calls t308 1 4 t309 _ A7.out).mono ?_); rintro e w' ⟨rfl, ⟨nd, rfl⟩⟩)); go_meet
      case rel => exact ⟨_, (!t309), (by first | rfl | (simp; done) | (simp [*]; done)), H', ⟨by first | omega | exact Nat.le_refl _⟩, ⟨by (with_reducible repeat (first | refine blk_drewN ?_ _ | refine blk_drew ?_ | refine blk_alloc ?_ _)); exact BK306.out⟩, ⟨By⟩⟩
    · replace c5 := Bool.eq_false_iff.mpr c5; subst c5; rw [if_neg (show ¬ (false = true) by decide)] at H; have H' := Aside0.mk H; clear H; have hcz11_0 : w3.cell? ⟨gb306, 0, none⟩ = some (.string a0_0) := bc BK306.out 0; have hcz11_1 : w3.cell? ⟨gb306, 1, none⟩ = some (.slice A0_1 l0_1.length c0_1) := bc BK306.out 1; have hfz11_0 := blk_frozen BK306.out 0; have hfz11_1 := blk_frozen BK306.out 1; go_wp2_with (first | ((with_reducible refine gate_callee (f := 99) rfl ?_); refine goesL_ (some 7) rfl rfl Tryd.func99 (by kernel_rfl) rfl #[.string a0_0] rfl Ag ?_; (with_reducible refine (impl_NameRight.calls a0_0 false _ A4.out).mono ?_); rintro e w12 ⟨rfl, hb⟩; refine ⟨_, rfl, ?_⟩; have n_ := aa (bb BK306.out hb) <| Aside0.mk (below_step By hb); clear BK306 HB; obtain ⟨BK306, HB⟩ := n_; (try clear hb); (try clear hb2); (try clear hk); (try clear hi))); go_meet
      case rel => exact ⟨_, (true), (by first | rfl | (simp; done) | (simp [*]; done)), H', ⟨by first | omega | exact Nat.le_refl _⟩, ⟨by (with_reducible repeat (first | refine blk_drewN ?_ _ | refine blk_drew ?_ | refine blk_alloc ?_ _)); exact BK306.out⟩, ⟨By⟩⟩
  case rest =>
    clear HC2; try clear p2
    try clear c5
    try clear c7
    try clear c9
    try clear hcz10_0
    try clear hcz10_1
    try clear hcz11_0
    try clear hcz11_1
    try clear hcz8_0
    try clear hcz8_1
    try clear hfz10_0
    try clear hfz10_1
    try clear hfz11_0
    try clear hfz11_1
    try clear hfz8_0
    try clear hfz8_1
    obtain ⟨kq, x15_1, rfl, HA, HJ1, BK306, HB⟩ := hcut; cases kq with
    | zero => exact absurd HA.out (by simp [impl_isAttr.j0])
    | succ kj1 =>
      have H := HA.out; clear HA; simp only [impl_isAttr.j0] at H; by_cases c13 : x15_1 = true
      · subst c13; rw [if_pos rfl] at H; obtain rfl := Option.some.inj H; go_wp2; go_ret; exact ⟨Rf, By⟩
      · replace c13 := Bool.eq_false_iff.mpr c13; subst c13; rw [if_neg (show ¬ (false = true) by decide)] at H; have H' := Aside0.mk H; clear H; have hcz14_0 : wc.cell? ⟨gb306, 0, none⟩ = some (.string a0_0) := bc BK306.out 0; have hcz14_1 : wc.cell? ⟨gb306, 1, none⟩ = some (.slice A0_1 l0_1.length c0_1) := bc BK306.out 1; have hfz14_0 := blk_frozen BK306.out 0; have hfz14_1 := blk_frozen BK306.out 1; go_wp2; go_loopg [19] kj1 (fun kq v19 w' => ∃ (x19_2 : Int), v19 = .int .i64 x19_2 ∧ Aside0 (impl_isAttr.l0 kq l0_1 (l0_1.length : Int) x19_2 a0_0 l0_1 = some r) ∧ Aside0 (kq ≤ kj1) ∧ Aside0 (w'.heap[gb306]? = some (.cells #[.string a0_0, (.slice A0_1 l0_1.length c0_1)] 102 (0, 0))) ∧ Aside0 (Below w.heap.size w w'))
        case atStart => exact ⟨(0), (by first | rfl | (simp; done) | (simp [*]; done)), H', ⟨Nat.le_refl _⟩, ⟨by (with_reducible repeat (first | refine blk_drewN ?_ _ | refine blk_drew ?_ | refine blk_alloc ?_ _)); exact BK306.out⟩, ⟨By⟩⟩
        case round =>
          clear H'; try clear c1
          try clear p2
          try clear c5
          try clear c7
          try clear c9
          try clear c13
          try clear hcz10_0
          try clear hcz10_1
          try clear hcz11_0
          try clear hcz11_1
          try clear hcz14_0
          try clear hcz14_1
          try clear hcz8_0
          try clear hcz8_1
          try clear hfz10_0
          try clear hfz10_1
          try clear hfz11_0
          try clear hfz11_1
          try clear hfz14_0
          try clear hfz14_1
          try clear hfz8_0
          try clear hfz8_1
          try clear p2
          obtain ⟨x19_2, rfl, HA, HK2, BK306, HB⟩ := hrel; cases gk with
          | zero => exact absurd HA.out (by simp [impl_isAttr.l0])
          | succ k2 =>
            have H := HA.out; clear HA; simp only [impl_isAttr.l0] at H; by_cases c15 : x19_2 < (l0_1.length : Int)
            · rw [if_pos c15] at H; have c15b0 : decide (x19_2 < (l0_1.length : Int)) = true := decide_eq_true c15; clear c15; by_cases c16 : 0 ≤ x19_2
              · rw [if_pos c16] at H; have c16b0 : decide (0 ≤ x19_2) = true := decide_eq_true c16; clear c16; by_cases c17 : x19_2 < (l0_1.length : Int)
                · rw [if_pos c17] at H; have c17b0 : decide (x19_2 < (l0_1.length : Int)) = true := decide_eq_true c17; clear c17; replace H := Option.bind_eq_some_iff.mp H; obtain ⟨t311, A180, H⟩ := H; (try dsimp only at H); have A18 := Aside0.mk A180; clear A180; by_cases c19 : t311 = true
                  · subst c19; rw [if_pos rfl] at H; by_cases c20 : x19_2 > 0
                    · rw [if_pos c20] at H; have c20b0 : decide (0 < x19_2) = true := decide_eq_true c20; clear c20; obtain ⟨ji21, hji21⟩ : ∃ j_ : Int, (wrap64 (x19_2 - 1)) = j_ := ⟨_, rfl⟩; replace H : (if 0 ≤ (ji21) then (if (ji21) < (l0_1.length : Int) then ((impl_byNorm.f k2 (rdOf ByteArray.empty l0_1 (ji21)) (rdOf ByteArray.empty l0_1 x19_2)).bind fun t313 => (if t313 ≥ 0 then (some false) else (impl_isAttr.l0 k2 l0_1 (l0_1.length : Int) (wrap64 (x19_2 + 1)) a0_0 l0_1))) else (none)) else (none)) = some r := by first | (rw [hji21] at H; exact H) | (simp only [hji21] at H ⊢; exact H)
                      (try rw [hji21] at A18); have hji21w : (IntKind.i64.wrap (x19_2 - 1)) = ji21 := (i64_w _).trans hji21; by_cases c22 : 0 ≤ (ji21)
                      · rw [if_pos c22] at H; have c22b0 : decide (0 ≤ (ji21)) = true := decide_eq_true c22; clear c22; by_cases c23 : (ji21) < (l0_1.length : Int)
                        · rw [if_pos c23] at H; have c23b0 : decide ((ji21) < (l0_1.length : Int)) = true := decide_eq_true c23; clear c23; replace H := Option.bind_eq_some_iff.mp H; obtain ⟨t313, A240, H⟩ := H; (try dsimp only at H); have A24 := Aside0.mk A240; clear A240; by_cases c25 : t313 ≥ 0
                          · rw [if_pos c25] at H; have c25b0 : decide (0 ≤ t313) = true := decide_eq_true c25; clear c25; obtain rfl := Option.some.inj H; have p310 : 0 ≤ (x19_2 : Int) := of_decide_eq_true Da; have q310 : x19_2 < (l0_1.length : Int) := of_decide_eq_true Da; obtain ⟨ad310, e310, hx310_0⟩ := Kd.at_string HR0_1.out x19_2 p310 q310; cases e310
                            replace hx310_0 := bz HB.out hx310_0; replace p310 := eq_true p310; replace q310 := eq_true q310; go_wp2_with (first | ((with_reducible refine gate_callee (f := 101) rfl ?_); refine goesL_ (some 25) rfl rfl Tryd.func101 (by kernel_rfl) rfl #[.string (rdOf ByteArray.empty l0_1 x19_2)] rfl Ag ?_; (with_reducible refine (impl_isProper.calls k2 (rdOf ByteArray.empty l0_1 x19_2) true _ A18.out).mono ?_); rintro e w26 ⟨rfl, hb⟩; refine ⟨_, rfl, ?_⟩; have n_ := aa (bb BK306.out hb) <| Aside0.mk (below_step By hb); clear BK306 HB; obtain ⟨BK306, HB⟩ := n_; (try clear hb); (try clear hb2); (try clear hk); (try clear hi); have ⟨hcz27_0, hcz27_1⟩ := cq2 BK306.out; have ⟨hfz27_0, hfz27_1⟩ := fq2 BK306.out; have p312 : 0 ≤ ((ji21) : Int) := of_decide_eq_true Da; have q312 : (ji21) < (l0_1.length : Int) := of_decide_eq_true Da; obtain ⟨ad312, e312, hx312_0⟩ := Kd.at_string HR0_1.out (ji21) p312 q312; obtain rfl : ad310 = ad312 := (by injection e312); replace hx312_0 := bz HB.out hx312_0; replace p312 := eq_true p312; replace q312 := eq_true q312) | (go_at_call 102; (with_reducible refine (impl_byNorm.calls k2 (rdOf ByteArray.empty l0_1 (ji21)) (rdOf ByteArray.empty l0_1 x19_2) t313 _ A24.out).mono ?_); rintro e w28 ⟨rfl, hb⟩; have n_ := aa (bb BK306.out hb) <| Aside0.mk (below_step By hb); clear BK306 HB; obtain ⟨BK306, HB⟩ := n_; (try clear hb); (try clear hb2); (try clear hk); (try clear hi))); go_ret; exact ⟨by first | rfl | (simp [errW_none, errW_some] <;> rfl) | (simp only [← hji21]; first | rfl | (simp [errW_none, errW_some] <;> rfl)) | (simp [*, errW_none, errW_some] <;> first | rfl | (rw [Bool.eq_iff_iff]; simp)), By⟩
                          · rw [if_neg c25] at H; have c25b0 : decide (0 ≤ t313) = false := decide_eq_false c25; clear c25; have H' := Aside0.mk H; clear H; have p310 : 0 ≤ (x19_2 : Int) := of_decide_eq_true Da; have q310 : x19_2 < (l0_1.length : Int) := of_decide_eq_true Da; obtain ⟨ad310, e310, hx310_0⟩ := Kd.at_string HR0_1.out x19_2 p310 q310; cases e310
                            replace hx310_0 := bz HB.out hx310_0; replace p310 := eq_true p310; replace q310 := eq_true q310; go_wp2_with (first | ((with_reducible refine gate_callee (f := 101) rfl ?_); refine goesL_ (some 25) rfl rfl Tryd.func101 (by kernel_rfl) rfl #[.string (rdOf ByteArray.empty l0_1 x19_2)] rfl Ag ?_; (with_reducible refine (impl_isProper.calls k2 (rdOf ByteArray.empty l0_1 x19_2) true _ A18.out).mono ?_); rintro e w29 ⟨rfl, hb⟩; refine ⟨_, rfl, ?_⟩; have n_ := aa (bb BK306.out hb) <| Aside0.mk (below_step By hb); clear BK306 HB; obtain ⟨BK306, HB⟩ := n_; (try clear hb); (try clear hb2); (try clear hk); (try clear hi); have ⟨hcz30_0, hcz30_1⟩ := cq2 BK306.out; have ⟨hfz30_0, hfz30_1⟩ := fq2 BK306.out; have p312 : 0 ≤ ((ji21) : Int) := of_decide_eq_true Da; have q312 : (ji21) < (l0_1.length : Int) := of_decide_eq_true Da; obtain ⟨ad312, e312, hx312_0⟩ := Kd.at_string HR0_1.out (ji21) p312 q312; obtain rfl : ad310 = ad312 := (by injection e312); replace hx312_0 := bz HB.out hx312_0; replace p312 := eq_true p312; replace q312 := eq_true q312) | (go_at_call 102; (with_reducible refine (impl_byNorm.calls k2 (rdOf ByteArray.empty l0_1 (ji21)) (rdOf ByteArray.empty l0_1 x19_2) t313 _ A24.out).mono ?_); rintro e w31 ⟨rfl, hb⟩; have n_ := aa (bb BK306.out hb) <| Aside0.mk (below_step By hb); clear BK306 HB; obtain ⟨BK306, HB⟩ := n_; (try clear hb); (try clear hb2); (try clear hk); (try clear hi))); go_roundg k2
                            case measure => have := HJ1.out; have := HK2.out; omega
                            case rel => exact ⟨(wrap64 (x19_2 + 1)), (by first | rfl | (simp; done) | (simp [*]; done)), H', ⟨by have := HJ1.out; have := HK2.out; omega⟩, ⟨by (with_reducible repeat (first | refine blk_drewN ?_ _ | refine blk_drew ?_ | refine blk_alloc ?_ _)); exact BK306.out⟩, ⟨By⟩⟩
                        · rw [if_neg c23] at H; exact absurd H (by simp)
                      · rw [if_neg c22] at H; exact absurd H (by simp)
                    · rw [if_neg c20] at H; have c20b0 : decide (0 < x19_2) = false := decide_eq_false c20; clear c20; have H' := Aside0.mk H; clear H; have p310 : 0 ≤ (x19_2 : Int) := of_decide_eq_true Da; have q310 : x19_2 < (l0_1.length : Int) := of_decide_eq_true Da; obtain ⟨ad310, e310, hx310_0⟩ := Kd.at_string HR0_1.out x19_2 p310 q310; cases e310
                      replace hx310_0 := bz HB.out hx310_0; replace p310 := eq_true p310; replace q310 := eq_true q310; go_wp2_with (first | ((with_reducible refine gate_callee (f := 101) rfl ?_); refine goesL_ (some 25) rfl rfl Tryd.func101 (by kernel_rfl) rfl #[.string (rdOf ByteArray.empty l0_1 x19_2)] rfl Ag ?_; (with_reducible refine (impl_isProper.calls k2 (rdOf ByteArray.empty l0_1 x19_2) true _ A18.out).mono ?_); rintro e w32 ⟨rfl, hb⟩; refine ⟨_, rfl, ?_⟩; have n_ := aa (bb BK306.out hb) <| Aside0.mk (below_step By hb); clear BK306 HB; obtain ⟨BK306, HB⟩ := n_; (try clear hb); (try clear hb2); (try clear hk); (try clear hi))); go_roundg k2
                      case measure => have := HJ1.out; have := HK2.out; omega
                      case rel => exact ⟨(wrap64 (x19_2 + 1)), (by first | rfl | (simp; done) | (simp [*]; done)), H', ⟨by have := HJ1.out; have := HK2.out; omega⟩, ⟨by (with_reducible repeat (first | refine blk_drewN ?_ _ | refine blk_drew ?_ | refine blk_alloc ?_ _)); exact BK306.out⟩, ⟨By⟩⟩
                  · replace c19 := Bool.eq_false_iff.mpr c19; subst c19; rw [if_neg (show ¬ (false = true) by decide)] at H; obtain rfl := Option.some.inj H; have p310 : 0 ≤ (x19_2 : Int) := of_decide_eq_true Da; have q310 : x19_2 < (l0_1.length : Int) := of_decide_eq_true Da; obtain ⟨ad310, e310, hx310_0⟩ := Kd.at_string HR0_1.out x19_2 p310 q310; cases e310
                    replace hx310_0 := bz HB.out hx310_0; replace p310 := eq_true p310; replace q310 := eq_true q310; go_wp2_with (first | ((with_reducible refine gate_callee (f := 101) rfl ?_); refine goesL_ (some 25) rfl rfl Tryd.func101 (by kernel_rfl) rfl #[.string (rdOf ByteArray.empty l0_1 x19_2)] rfl Ag ?_; (with_reducible refine (impl_isProper.calls k2 (rdOf ByteArray.empty l0_1 x19_2) false _ A18.out).mono ?_); rintro e w33 ⟨rfl, hb⟩; refine ⟨_, rfl, ?_⟩; have n_ := aa (bb BK306.out hb) <| Aside0.mk (below_step By hb); clear BK306 HB; obtain ⟨BK306, HB⟩ := n_; (try clear hb); (try clear hb2); (try clear hk); (try clear hi))); go_ret; exact ⟨Rf, By⟩
                · rw [if_neg c17] at H; exact absurd H (by simp)
              · rw [if_neg c16] at H; exact absurd H (by simp)
            · rw [if_neg c15] at H; have c15b0 : decide (x19_2 < (l0_1.length : Int)) = false := decide_eq_false c15; clear c15; obtain rfl := Option.some.inj H; go_wp2; go_ret; exact ⟨Rf, By⟩

set_option linter.unusedVariables false
set_option linter.unusedSimpArgs false

/-! ### impl_isRdn: function 98 -/
def impl_isRdn.f (k : Nat) (a0_0 : ByteArray) (a0_1 : ByteArray) : Option (Bool) := (impl_NameRight.f a0_0).bind fun t322 => (if t322 = true then ((impl_isProper.f k a0_1).bind fun t323 => (some t323)) else (some false))
theorem impl_isRdn.mono : ∀ a0 a1 k, LeO (impl_isRdn.f k a0 a1) (impl_isRdn.f (k + 1) a0 a1) := by
  intro a0 a1 k; unfold impl_isRdn.f; repeat' first
      | (with_reducible exact impl_isProper.mono _ _)
      | (with_reducible exact LeO.refl _)
      | (with_reducible exact LeO.none _)
      | (with_reducible refine LeO.ite ?_ ?_)
      | (with_reducible refine LeO.bind ?_ (fun _ => ?_))
set_option maxHeartbeats 8000000 in
set_option maxRecDepth 100000 in
theorem impl_isRdn.calls (k : Nat) (a0_0 : ByteArray) (a0_1 : ByteArray) (r : Bool) (w : World) (h : impl_isRdn.f k a0_0 a0_1 = some r) :
    Calls Tryd.prog 98 #[.agg #[.string a0_0, .string a0_1]] w fun e w' => e = .returned (.bool r) ∧ Below w.heap.size w w' := by
  have hu103 := Tryd.underlying103; have HB := Aside0.mk (Below.refl w.heap.size w); have H : ((impl_NameRight.f a0_0).bind fun t322 => (if t322 = true then ((impl_isProper.f k a0_1).bind fun t323 => (some t323)) else (some false))) = some r := h; clear h; replace H := Option.bind_eq_some_iff.mp H; obtain ⟨t322, A20, H⟩ := H; (try dsimp only at H); have A2 := Aside0.mk A20; clear A20; by_cases c3 : t322 = true
  · subst c3; rw [if_pos rfl] at H; replace H := Option.bind_eq_some_iff.mp H; obtain ⟨t323, A40, H⟩ := H; (try dsimp only at H); have A4 := Aside0.mk A40; clear A40; obtain rfl := Option.some.inj H; go_enter Tryd.func98, Tryd.ntmps98; go_wp2_with (first | ((with_reducible refine gate_dst (N := 1) rfl ?_); refine box_event ?hg (N := 1) ?hd (cs := #[.string a0_0, .string a0_1]) (t := 103) ?hr ?_; (case hd => rfl); (case hg => rfl); (case hr => first | (go_simp; done) | (go_simp; rfl)); intro gb321 hg w5 hbox hb; have n_ := aa (below_step By hb) <| aa (hbox) <| aa ((by rw [hg]; exact (below_size By) : w.heap.size ≤ gb321)) <| Aside0.mk ((by rw [hg]; exact (below_size By) : w.heap.size ≤ gb321)); clear HB; obtain ⟨HB, BK321, GW321, GE321⟩ := n_; clear hb hbox hg; have ⟨hcz6_0, hcz6_1⟩ := cq2 BK321.out; have ⟨hfz6_0, hfz6_1⟩ := fq2 BK321.out) | ((with_reducible refine gate_callee (f := 99) rfl ?_); refine goesL_ (some 5) rfl rfl Tryd.func99 (by kernel_rfl) rfl #[.string a0_0] rfl Ag ?_; (with_reducible refine (impl_NameRight.calls a0_0 true _ A2.out).mono ?_); rintro e w7 ⟨rfl, hb⟩; refine ⟨_, rfl, ?_⟩; have n_ := aa (bb BK321.out hb) <| Aside0.mk (below_step By hb); clear BK321 HB; obtain ⟨BK321, HB⟩ := n_; (try clear hb); (try clear hb2); (try clear hk); (try clear hi); have ⟨hcz8_0, hcz8_1⟩ := cq2 BK321.out; have ⟨hfz8_0, hfz8_1⟩ := fq2 BK321.out) | (go_at_call 101; (with_reducible refine (impl_isProper.calls k a0_1 t323 _ A4.out).mono ?_); rintro e w9 ⟨rfl, hb⟩; have n_ := aa (bb BK321.out hb) <| Aside0.mk (below_step By hb); clear BK321 HB; obtain ⟨BK321, HB⟩ := n_; (try clear hb); (try clear hb2); (try clear hk); (try clear hi))); go_ret; exact ⟨Rf, By⟩
  · replace c3 := Bool.eq_false_iff.mpr c3; subst c3; rw [if_neg (show ¬ (false = true) by decide)] at H; obtain rfl := Option.some.inj H; go_enter Tryd.func98, Tryd.ntmps98; go_wp2_with (first | ((with_reducible refine gate_dst (N := 1) rfl ?_); refine box_event ?hg (N := 1) ?hd (cs := #[.string a0_0, .string a0_1]) (t := 103) ?hr ?_; (case hd => rfl); (case hg => rfl); (case hr => first | (go_simp; done) | (go_simp; rfl)); intro gb321 hg w10 hbox hb; have n_ := aa (below_step By hb) <| aa (hbox) <| aa ((by rw [hg]; exact (below_size By) : w.heap.size ≤ gb321)) <| Aside0.mk ((by rw [hg]; exact (below_size By) : w.heap.size ≤ gb321)); clear HB; obtain ⟨HB, BK321, GW321, GE321⟩ := n_; clear hb hbox hg; have ⟨hcz11_0, hcz11_1⟩ := cq2 BK321.out; have ⟨hfz11_0, hfz11_1⟩ := fq2 BK321.out) | ((with_reducible refine gate_callee (f := 99) rfl ?_); refine goesL_ (some 5) rfl rfl Tryd.func99 (by kernel_rfl) rfl #[.string a0_0] rfl Ag ?_; (with_reducible refine (impl_NameRight.calls a0_0 false _ A2.out).mono ?_); rintro e w12 ⟨rfl, hb⟩; refine ⟨_, rfl, ?_⟩; have n_ := aa (bb BK321.out hb) <| Aside0.mk (below_step By hb); clear BK321 HB; obtain ⟨BK321, HB⟩ := n_; (try clear hb); (try clear hb2); (try clear hk); (try clear hi))); go_ret; exact ⟨Rf, By⟩

end Go.Proofs.YthapodlehfblgaaDoor.PA
