/-
  Functions that the law reaches, each as a plain Lean function, with the proof that the call comes to it (written by a program of this session by way of the kit's print program). Conditions: what each contract states.
-/
import Derived.Test.YtpocoeghobdfiaaDoorTPP1
import Derived.Test.YtpocoeghobdfiaaDoorTPLibTrim
import Derived.Test.YtpocoeghobdfiaaDoorTPSq
import Derived.Test.YtpocoeghobdfiaaDoorTPP3
namespace Go.Proofs.YtpocoeghobdfiaaDoor.PG
open Go.Proofs.YtpocoeghobdfiaaDoor.Sq Go.RowKit Go.Proofs.YtpocoeghobdfiaaDoorW.PrintWords Go.Proofs.YtpocoeghobdfiaaDoorW.PrintLast Go.Proofs.YtpocoeghobdfiaaDoorW.PrintMore
attribute [local go_sem] max2_int min2_int max_two min_two max_three min_three max_four min_four   -- for this text's walks alone
set_option linter.unusedVariables false
set_option linter.unusedSimpArgs false

/-! ### impl_NameRight: function 144 -/
def impl_NameRight.f (a0 : ByteArray) : Option (Bool) := if (a0.size : Int) ≥ 1 then (if (a0.size : Int) ≤ 20 then (if 0 < (a0.size : Int) then (if (bt a0 0) ≥ 97 then (if (bt a0 0) ≤ 122 then ((strings_Trim.f a0 (⟨#[97, 98, 99, 100, 101, 102, 103, 104, 105, 106, 107, 108, 109, 110, 111, 112, 113, 114, 115, 116, 117, 118, 119, 120, 121, 122, 48, 49, 50, 51, 52, 53, 54, 55, 56, 57, 95]⟩ : ByteArray)).bind fun t514 => (some (t514.toList == ([] : List UInt8)))) else (some false)) else (some false)) else (none)) else (some false)) else (some false)
set_option maxHeartbeats 8000000 in
set_option maxRecDepth 100000 in
theorem impl_NameRight.calls (a0 : ByteArray) (r : Bool) (w : World) (h : impl_NameRight.f a0 = some r) :
    Calls Tryd.prog 144 #[.string a0] w fun e w' => e = .returned (.bool r) ∧ Below w.heap.size w w' := by
  have HB := Aside0.mk (Below.refl w.heap.size w)
  have H : (if (a0.size : Int) ≥ 1 then (if (a0.size : Int) ≤ 20 then (if 0 < (a0.size : Int) then (if (bt a0 0) ≥ 97 then (if (bt a0 0) ≤ 122 then ((strings_Trim.f a0 (⟨#[97, 98, 99, 100, 101, 102, 103, 104, 105, 106, 107, 108, 109, 110, 111, 112, 113, 114, 115, 116, 117, 118, 119, 120, 121, 122, 48, 49, 50, 51, 52, 53, 54, 55, 56, 57, 95]⟩ : ByteArray)).bind fun t514 => (some (t514.toList == ([] : List UInt8)))) else (some false)) else (some false)) else (none)) else (some false)) else (some false)) = some r := h
  clear h
  by_cases c2 : (a0.size : Int) ≥ 1
  · rw [if_pos c2] at H
    have c2b0 : decide (1 ≤ (a0.size : Int)) = true := decide_eq_true c2
    have c2b1 : decide (1 ≤ a0.size) = true := decide_eq_true (by omega)
    clear c2
    by_cases c3 : (a0.size : Int) ≤ 20
    · rw [if_pos c3] at H
      have c3b0 : decide ((a0.size : Int) ≤ 20) = true := decide_eq_true c3
      have c3b1 : decide (a0.size ≤ 20) = true := decide_eq_true (by omega)
      clear c3
      by_cases c4 : 0 < (a0.size : Int)
      · rw [if_pos c4] at H
        have c4b0 : decide (0 < (a0.size : Int)) = true := decide_eq_true c4
        have c4b1 : decide (0 < a0.size) = true := decide_eq_true (by omega)
        clear c4
        by_cases c6 : (bt a0 0) ≥ 97
        · rw [if_pos c6] at H
          have c6b0 : decide (97 ≤ (bt a0 0)) = true := decide_eq_true c6
          clear c6
          by_cases c8 : (bt a0 0) ≤ 122
          · rw [if_pos c8] at H
            have c8b0 : decide ((bt a0 0) ≤ 122) = true := decide_eq_true c8
            clear c8
            replace H := Option.bind_eq_some_iff.mp H
            obtain ⟨t514, A90, H⟩ := H
            replace H : (some (t514.toList == ([] : List UInt8))) = some r := H
            have A9 := Aside0.mk A90
            clear A90
            obtain rfl := Option.some.inj H
            have p5 : 0 ≤ (0 : Int) := (by omega)
            have q5 : 0 < a0.size := (by have : (0 : Int) < (a0.size : Int) := of_decide_eq_true Da; omega)
            have hx5 : ∀ h : 0 < a0.size, ((a0[0]'h).toNat : Int) = bt a0 0 := bt_at a0 0
            clear p5
            have qi5 : (0 < (a0.size : Int)) = True := eq_true (of_decide_eq_true Da)
            replace q5 := eq_true q5
            have p7 : 0 ≤ (0 : Int) := (by omega)
            have q7 : 0 < a0.size := (by have : (0 : Int) < (a0.size : Int) := of_decide_eq_true Da; omega)
            have hx7 : ∀ h : 0 < a0.size, ((a0[0]'h).toNat : Int) = bt a0 0 := bt_at a0 0
            clear p7
            have qi7 : (0 < (a0.size : Int)) = True := eq_true (of_decide_eq_true Da)
            replace q7 := eq_true q7
            go_enter Tryd.func144, Tryd.ntmps144
            go_wp2_with (first | (go_at_call 166; (with_reducible refine (strings_Trim.calls a0 (⟨#[97, 98, 99, 100, 101, 102, 103, 104, 105, 106, 107, 108, 109, 110, 111, 112, 113, 114, 115, 116, 117, 118, 119, 120, 121, 122, 48, 49, 50, 51, 52, 53, 54, 55, 56, 57, 95]⟩ : ByteArray) t514 _ A9.out).mono ?_); rintro e w10 ⟨rfl, hb⟩; have n0_ := Aside0.mk (below_step By hb); clear HB; have HB := n0_; clear n0_; (try clear hb); (try clear hb2); (try clear hk); (try clear hi)))
            go_ret
            exact ⟨Rf, By⟩
          · rw [if_neg c8] at H
            have c8b0 : decide ((bt a0 0) ≤ 122) = false := decide_eq_false c8
            clear c8
            obtain rfl := Option.some.inj H
            have p5 : 0 ≤ (0 : Int) := (by omega)
            have q5 : 0 < a0.size := (by have : (0 : Int) < (a0.size : Int) := of_decide_eq_true Da; omega)
            have hx5 : ∀ h : 0 < a0.size, ((a0[0]'h).toNat : Int) = bt a0 0 := bt_at a0 0
            clear p5
            have qi5 : (0 < (a0.size : Int)) = True := eq_true (of_decide_eq_true Da)
            replace q5 := eq_true q5
            have p7 : 0 ≤ (0 : Int) := (by omega)
            have q7 : 0 < a0.size := (by have : (0 : Int) < (a0.size : Int) := of_decide_eq_true Da; omega)
            have hx7 : ∀ h : 0 < a0.size, ((a0[0]'h).toNat : Int) = bt a0 0 := bt_at a0 0
            clear p7
            have qi7 : (0 < (a0.size : Int)) = True := eq_true (of_decide_eq_true Da)
            replace q7 := eq_true q7
            go_enter Tryd.func144, Tryd.ntmps144
            go_wp2
            go_ret
            exact ⟨Rf, By⟩
        · rw [if_neg c6] at H
          have c6b0 : decide (97 ≤ (bt a0 0)) = false := decide_eq_false c6
          clear c6
          obtain rfl := Option.some.inj H
          have p5 : 0 ≤ (0 : Int) := (by omega)
          have q5 : 0 < a0.size := (by have : (0 : Int) < (a0.size : Int) := of_decide_eq_true Da; omega)
          have hx5 : ∀ h : 0 < a0.size, ((a0[0]'h).toNat : Int) = bt a0 0 := bt_at a0 0
          clear p5
          have qi5 : (0 < (a0.size : Int)) = True := eq_true (of_decide_eq_true Da)
          replace q5 := eq_true q5
          go_enter Tryd.func144, Tryd.ntmps144
          go_wp2
          go_ret
          exact ⟨Rf, By⟩
      · rw [if_neg c4] at H
        exact absurd H (by simp)
    · rw [if_neg c3] at H
      have c3b0 : decide ((a0.size : Int) ≤ 20) = false := decide_eq_false c3
      have c3b1 : decide (a0.size ≤ 20) = false := decide_eq_false (by omega)
      clear c3
      obtain rfl := Option.some.inj H
      go_enter Tryd.func144, Tryd.ntmps144
      go_wp2
      go_ret
      exact ⟨Rf, By⟩
  · rw [if_neg c2] at H
    have c2b0 : decide (1 ≤ (a0.size : Int)) = false := decide_eq_false c2
    have c2b1 : decide (1 ≤ a0.size) = false := decide_eq_false (by omega)
    clear c2
    obtain rfl := Option.some.inj H
    go_enter Tryd.func144, Tryd.ntmps144
    go_wp2
    go_ret
    exact ⟨Rf, By⟩

set_option linter.unusedVariables false
set_option linter.unusedSimpArgs false

/-! ### impl_isRow: function 112 -/
def impl_isRow.f (k : Nat) (a0_0 : Int) (a0_1 : ByteArray) (a0_2 : ByteArray) (a0_3 : ByteArray) (a0_4 : Bool) (a0_5 : Int) (a0_6 : Bool) (a1 : Int) (a2 : Int) : Option (Bool) := (impl_between.f a0_0 1 (wrap64 (a1 - 1))).bind fun t539 => (if t539 = true then ((impl_NameRight.f a0_1).bind fun t540 => (if t540 = true then ((impl_isOptional.f k a0_2).bind fun t541 => (if t541 = true then ((impl_isOptional.f k a0_3).bind fun t542 => (if t542 = true then ((impl_between.f a0_5 1 a2).bind fun t543 => (if t543 = true then (if a0_6 = true then (if a0_4 = true then (some false) else (if a0_2.toList = ([] : List UInt8) then (some (a0_3.toList == ([] : List UInt8))) else (some false))) else (some true)) else (some false))) else (some false))) else (some false))) else (some false))) else (some false))
theorem impl_isRow.mono : ∀ a0 a1 a2 a3 a4 a5 a6 a7 a8 k, LeO (impl_isRow.f k a0 a1 a2 a3 a4 a5 a6 a7 a8) (impl_isRow.f (k + 1) a0 a1 a2 a3 a4 a5 a6 a7 a8) := by
  intro a0 a1 a2 a3 a4 a5 a6 a7 a8 k
  unfold impl_isRow.f
  repeat' first
      | (with_reducible exact impl_isOptional.mono _ _)
      | (with_reducible exact LeO.refl _)
      | (with_reducible exact LeO.none _)
      | (with_reducible refine LeO.ite ?_ ?_)
      | (with_reducible refine LeO.bind ?_ (fun _ => ?_))
      | exact impl_isOptional.mono _ _
      | exact LeO.none _
      | refine LeO.ite ?_ ?_
      | refine LeO.bind ?_ (fun _ => ?_)
set_option maxHeartbeats 8000000 in
set_option maxRecDepth 100000 in
theorem impl_isRow.calls (k : Nat) (a0_0 : Int) (a0_1 : ByteArray) (a0_2 : ByteArray) (a0_3 : ByteArray) (a0_4 : Bool) (a0_5 : Int) (a0_6 : Bool) (a1 : Int) (a2 : Int) (r : Bool) (w : World) (h : impl_isRow.f k a0_0 a0_1 a0_2 a0_3 a0_4 a0_5 a0_6 a1 a2 = some r) :
    Calls Tryd.prog 112 #[.agg #[.int .i64 a0_0, .string a0_1, .string a0_2, .string a0_3, .bool a0_4, .int .i64 a0_5, .bool a0_6], .int .i64 a1, .int .i64 a2] w fun e w' => e = .returned (.bool r) ∧ Below w.heap.size w w' := by
  have hu34 := Tryd.underlying34
  have HB := Aside0.mk (Below.refl w.heap.size w)
  have H : ((impl_between.f a0_0 1 (wrap64 (a1 - 1))).bind fun t539 => (if t539 = true then ((impl_NameRight.f a0_1).bind fun t540 => (if t540 = true then ((impl_isOptional.f k a0_2).bind fun t541 => (if t541 = true then ((impl_isOptional.f k a0_3).bind fun t542 => (if t542 = true then ((impl_between.f a0_5 1 a2).bind fun t543 => (if t543 = true then (if a0_6 = true then (if a0_4 = true then (some false) else (if a0_2.toList = ([] : List UInt8) then (some (a0_3.toList == ([] : List UInt8))) else (some false))) else (some true)) else (some false))) else (some false))) else (some false))) else (some false))) else (some false))) = some r := h
  clear h
  replace H := Option.bind_eq_some_iff.mp H
  obtain ⟨t539, A40, H⟩ := H
  replace H : (if t539 = true then ((impl_NameRight.f a0_1).bind fun t540 => (if t540 = true then ((impl_isOptional.f k a0_2).bind fun t541 => (if t541 = true then ((impl_isOptional.f k a0_3).bind fun t542 => (if t542 = true then ((impl_between.f a0_5 1 a2).bind fun t543 => (if t543 = true then (if a0_6 = true then (if a0_4 = true then (some false) else (if a0_2.toList = ([] : List UInt8) then (some (a0_3.toList == ([] : List UInt8))) else (some false))) else (some true)) else (some false))) else (some false))) else (some false))) else (some false))) else (some false)) = some r := H
  have A4 := Aside0.mk A40
  clear A40
  by_cases c5 : t539 = true
  · subst c5
    have H1 : ((impl_NameRight.f a0_1).bind fun t540 => (if t540 = true then ((impl_isOptional.f k a0_2).bind fun t541 => (if t541 = true then ((impl_isOptional.f k a0_3).bind fun t542 => (if t542 = true then ((impl_between.f a0_5 1 a2).bind fun t543 => (if t543 = true then (if a0_6 = true then (if a0_4 = true then (some false) else (if a0_2.toList = ([] : List UInt8) then (some (a0_3.toList == ([] : List UInt8))) else (some false))) else (some true)) else (some false))) else (some false))) else (some false))) else (some false))) = some r := by rw [if_pos rfl] at H; exact H
    clear H
    have H := H1
    clear H1
    replace H := Option.bind_eq_some_iff.mp H
    obtain ⟨t540, A60, H⟩ := H
    replace H : (if t540 = true then ((impl_isOptional.f k a0_2).bind fun t541 => (if t541 = true then ((impl_isOptional.f k a0_3).bind fun t542 => (if t542 = true then ((impl_between.f a0_5 1 a2).bind fun t543 => (if t543 = true then (if a0_6 = true then (if a0_4 = true then (some false) else (if a0_2.toList = ([] : List UInt8) then (some (a0_3.toList == ([] : List UInt8))) else (some false))) else (some true)) else (some false))) else (some false))) else (some false))) else (some false)) = some r := H
    have A6 := Aside0.mk A60
    clear A60
    by_cases c7 : t540 = true
    · subst c7
      have H1 : ((impl_isOptional.f k a0_2).bind fun t541 => (if t541 = true then ((impl_isOptional.f k a0_3).bind fun t542 => (if t542 = true then ((impl_between.f a0_5 1 a2).bind fun t543 => (if t543 = true then (if a0_6 = true then (if a0_4 = true then (some false) else (if a0_2.toList = ([] : List UInt8) then (some (a0_3.toList == ([] : List UInt8))) else (some false))) else (some true)) else (some false))) else (some false))) else (some false))) = some r := by rw [if_pos rfl] at H; exact H
      clear H
      have H := H1
      clear H1
      replace H := Option.bind_eq_some_iff.mp H
      obtain ⟨t541, A80, H⟩ := H
      replace H : (if t541 = true then ((impl_isOptional.f k a0_3).bind fun t542 => (if t542 = true then ((impl_between.f a0_5 1 a2).bind fun t543 => (if t543 = true then (if a0_6 = true then (if a0_4 = true then (some false) else (if a0_2.toList = ([] : List UInt8) then (some (a0_3.toList == ([] : List UInt8))) else (some false))) else (some true)) else (some false))) else (some false))) else (some false)) = some r := H
      have A8 := Aside0.mk A80
      clear A80
      by_cases c9 : t541 = true
      · subst c9
        have H1 : ((impl_isOptional.f k a0_3).bind fun t542 => (if t542 = true then ((impl_between.f a0_5 1 a2).bind fun t543 => (if t543 = true then (if a0_6 = true then (if a0_4 = true then (some false) else (if a0_2.toList = ([] : List UInt8) then (some (a0_3.toList == ([] : List UInt8))) else (some false))) else (some true)) else (some false))) else (some false))) = some r := by rw [if_pos rfl] at H; exact H
        clear H
        have H := H1
        clear H1
        replace H := Option.bind_eq_some_iff.mp H
        obtain ⟨t542, A100, H⟩ := H
        replace H : (if t542 = true then ((impl_between.f a0_5 1 a2).bind fun t543 => (if t543 = true then (if a0_6 = true then (if a0_4 = true then (some false) else (if a0_2.toList = ([] : List UInt8) then (some (a0_3.toList == ([] : List UInt8))) else (some false))) else (some true)) else (some false))) else (some false)) = some r := H
        have A10 := Aside0.mk A100
        clear A100
        by_cases c11 : t542 = true
        · subst c11
          have H1 : ((impl_between.f a0_5 1 a2).bind fun t543 => (if t543 = true then (if a0_6 = true then (if a0_4 = true then (some false) else (if a0_2.toList = ([] : List UInt8) then (some (a0_3.toList == ([] : List UInt8))) else (some false))) else (some true)) else (some false))) = some r := by rw [if_pos rfl] at H; exact H
          clear H
          have H := H1
          clear H1
          replace H := Option.bind_eq_some_iff.mp H
          obtain ⟨t543, A120, H⟩ := H
          replace H : (if t543 = true then (if a0_6 = true then (if a0_4 = true then (some false) else (if a0_2.toList = ([] : List UInt8) then (some (a0_3.toList == ([] : List UInt8))) else (some false))) else (some true)) else (some false)) = some r := H
          have A12 := Aside0.mk A120
          clear A120
          by_cases c13 : t543 = true
          · subst c13
            have H1 : (if a0_6 = true then (if a0_4 = true then (some false) else (if a0_2.toList = ([] : List UInt8) then (some (a0_3.toList == ([] : List UInt8))) else (some false))) else (some true)) = some r := by rw [if_pos rfl] at H; exact H
            clear H
            have H := H1
            clear H1
            by_cases c14 : a0_6 = true
            · subst c14
              have H1 : (if a0_4 = true then (some false) else (if a0_2.toList = ([] : List UInt8) then (some (a0_3.toList == ([] : List UInt8))) else (some false))) = some r := by rw [if_pos rfl] at H; exact H
              clear H
              have H := H1
              clear H1
              by_cases c15 : a0_4 = true
              · subst c15
                have H1 : (some false) = some r := by rw [if_pos rfl] at H; exact H
                clear H
                have H := H1
                clear H1
                obtain rfl := Option.some.inj H
                go_enter Tryd.func112, Tryd.ntmps112
                go_wp2_with (first | ((with_reducible refine gate_dst (N := 3) rfl ?_); refine box_event ?hg (N := 3) ?hd (cs := #[.int .i64 a0_0, .string a0_1, .string a0_2, .string a0_3, .bool true, .int .i64 a0_5, .bool true]) (t := 34) ?hr ?_; (case hd => rfl); (case hg => rfl); (case hr => first | (go_simp; done) | (go_simp; rfl)); intro gb538 hg w16 hbox hb; have n0_ := Aside0.mk (below_step By hb); have n1_ := Aside0.mk (hbox); have n2_ := Aside0.mk ((by rw [hg]; exact (below_size By) : w.heap.size ≤ gb538)); have n3_ := Aside0.mk ((by rw [hg]; exact (below_size By) : w.heap.size ≤ gb538)); clear HB; have HB := n0_; have BK538 := n1_; have GW538 := n2_; have GE538 := n3_; clear n0_ n1_ n2_ n3_; clear hb hbox hg; have ⟨hcz17_0, hcz17_1, hcz17_2, hcz17_3, hcz17_4, hcz17_5, hcz17_6⟩ := cq7 BK538.out; have ⟨hfz17_0, hfz17_1, hfz17_2, hfz17_3, hfz17_4, hfz17_5, hfz17_6⟩ := fq7 BK538.out) | ((with_reducible refine gate_callee (f := 77) rfl ?_); refine goesL_ (some 11) rfl rfl Tryd.func77 (by kernel_rfl) rfl #[.int .i64 a0_0, .int .i64 1, .int .i64 (wrap64 (a1 - 1))] rfl Ag ?_; (with_reducible refine (impl_between.calls a0_0 1 (wrap64 (a1 - 1)) true _ A4.out).mono ?_); rintro e w' ⟨rfl, ⟨nd, rfl⟩⟩; refine ⟨_, rfl, ?_⟩) | (go_at_call 144; (with_reducible refine (impl_NameRight.calls a0_1 true _ A6.out).mono ?_); rintro e w18 ⟨rfl, hb⟩; have n0_ := Aside0.mk (bb BK538.out hb); have n1_ := Aside0.mk (below_step By hb); clear BK538; clear HB; have BK538 := n0_; have HB := n1_; clear n0_ n1_; (try clear hb); (try clear hb2); (try clear hk); (try clear hi); have ⟨hcz19_0, hcz19_1, hcz19_2, hcz19_3, hcz19_4, hcz19_5, hcz19_6⟩ := cq7 BK538.out; have ⟨hfz19_0, hfz19_1, hfz19_2, hfz19_3, hfz19_4, hfz19_5, hfz19_6⟩ := fq7 BK538.out) | (go_at_call 146; (with_reducible refine (impl_isOptional.calls k a0_2 true _ A8.out).mono ?_); rintro e w20 ⟨rfl, hb⟩; have n0_ := Aside0.mk (bb BK538.out hb); have n1_ := Aside0.mk (below_step By hb); clear BK538; clear HB; have BK538 := n0_; have HB := n1_; clear n0_ n1_; (try clear hb); (try clear hb2); (try clear hk); (try clear hi); have ⟨hcz21_0, hcz21_1, hcz21_2, hcz21_3, hcz21_4, hcz21_5, hcz21_6⟩ := cq7 BK538.out; have ⟨hfz21_0, hfz21_1, hfz21_2, hfz21_3, hfz21_4, hfz21_5, hfz21_6⟩ := fq7 BK538.out) | (go_at_call 146; (with_reducible refine (impl_isOptional.calls k a0_3 true _ A10.out).mono ?_); rintro e w22 ⟨rfl, hb⟩; have n0_ := Aside0.mk (bb BK538.out hb); have n1_ := Aside0.mk (below_step By hb); clear BK538; clear HB; have BK538 := n0_; have HB := n1_; clear n0_ n1_; (try clear hb); (try clear hb2); (try clear hk); (try clear hi); have ⟨hcz23_0, hcz23_1, hcz23_2, hcz23_3, hcz23_4, hcz23_5, hcz23_6⟩ := cq7 BK538.out; have ⟨hfz23_0, hfz23_1, hfz23_2, hfz23_3, hfz23_4, hfz23_5, hfz23_6⟩ := fq7 BK538.out) | (go_at_call 77; (with_reducible refine (impl_between.calls a0_5 1 a2 true _ A12.out).mono ?_); rintro e w' ⟨rfl, ⟨nd, rfl⟩⟩))
                go_ret
                exact ⟨Rf, By⟩
              · replace c15 := Bool.eq_false_iff.mpr c15
                subst c15
                have H1 : (if a0_2.toList = ([] : List UInt8) then (some (a0_3.toList == ([] : List UInt8))) else (some false)) = some r := by rw [if_neg (show ¬ (false = true) by decide)] at H; exact H
                clear H
                have H := H1
                clear H1
                by_cases c24 : a0_2.toList = ([] : List UInt8)
                · rw [if_pos c24] at H
                  have c24b0 : (a0_2.toList == ([] : List UInt8)) = true := beq_iff_eq.mpr c24
                  have c24b1 : (a0_2.toList != ([] : List UInt8)) = false := bne_eq_false_iff_eq.mpr c24
                  clear c24
                  obtain rfl := Option.some.inj H
                  go_enter Tryd.func112, Tryd.ntmps112
                  go_wp2_with (first | ((with_reducible refine gate_dst (N := 3) rfl ?_); refine box_event ?hg (N := 3) ?hd (cs := #[.int .i64 a0_0, .string a0_1, .string a0_2, .string a0_3, .bool false, .int .i64 a0_5, .bool true]) (t := 34) ?hr ?_; (case hd => rfl); (case hg => rfl); (case hr => first | (go_simp; done) | (go_simp; rfl)); intro gb538 hg w25 hbox hb; have n0_ := Aside0.mk (below_step By hb); have n1_ := Aside0.mk (hbox); have n2_ := Aside0.mk ((by rw [hg]; exact (below_size By) : w.heap.size ≤ gb538)); have n3_ := Aside0.mk ((by rw [hg]; exact (below_size By) : w.heap.size ≤ gb538)); clear HB; have HB := n0_; have BK538 := n1_; have GW538 := n2_; have GE538 := n3_; clear n0_ n1_ n2_ n3_; clear hb hbox hg; have ⟨hcz26_0, hcz26_1, hcz26_2, hcz26_3, hcz26_4, hcz26_5, hcz26_6⟩ := cq7 BK538.out; have ⟨hfz26_0, hfz26_1, hfz26_2, hfz26_3, hfz26_4, hfz26_5, hfz26_6⟩ := fq7 BK538.out) | ((with_reducible refine gate_callee (f := 77) rfl ?_); refine goesL_ (some 11) rfl rfl Tryd.func77 (by kernel_rfl) rfl #[.int .i64 a0_0, .int .i64 1, .int .i64 (wrap64 (a1 - 1))] rfl Ag ?_; (with_reducible refine (impl_between.calls a0_0 1 (wrap64 (a1 - 1)) true _ A4.out).mono ?_); rintro e w' ⟨rfl, ⟨nd, rfl⟩⟩; refine ⟨_, rfl, ?_⟩) | (go_at_call 144; (with_reducible refine (impl_NameRight.calls a0_1 true _ A6.out).mono ?_); rintro e w27 ⟨rfl, hb⟩; have n0_ := Aside0.mk (bb BK538.out hb); have n1_ := Aside0.mk (below_step By hb); clear BK538; clear HB; have BK538 := n0_; have HB := n1_; clear n0_ n1_; (try clear hb); (try clear hb2); (try clear hk); (try clear hi); have ⟨hcz28_0, hcz28_1, hcz28_2, hcz28_3, hcz28_4, hcz28_5, hcz28_6⟩ := cq7 BK538.out; have ⟨hfz28_0, hfz28_1, hfz28_2, hfz28_3, hfz28_4, hfz28_5, hfz28_6⟩ := fq7 BK538.out) | (go_at_call 146; (with_reducible refine (impl_isOptional.calls k a0_2 true _ A8.out).mono ?_); rintro e w29 ⟨rfl, hb⟩; have n0_ := Aside0.mk (bb BK538.out hb); have n1_ := Aside0.mk (below_step By hb); clear BK538; clear HB; have BK538 := n0_; have HB := n1_; clear n0_ n1_; (try clear hb); (try clear hb2); (try clear hk); (try clear hi); have ⟨hcz30_0, hcz30_1, hcz30_2, hcz30_3, hcz30_4, hcz30_5, hcz30_6⟩ := cq7 BK538.out; have ⟨hfz30_0, hfz30_1, hfz30_2, hfz30_3, hfz30_4, hfz30_5, hfz30_6⟩ := fq7 BK538.out) | (go_at_call 146; (with_reducible refine (impl_isOptional.calls k a0_3 true _ A10.out).mono ?_); rintro e w31 ⟨rfl, hb⟩; have n0_ := Aside0.mk (bb BK538.out hb); have n1_ := Aside0.mk (below_step By hb); clear BK538; clear HB; have BK538 := n0_; have HB := n1_; clear n0_ n1_; (try clear hb); (try clear hb2); (try clear hk); (try clear hi); have ⟨hcz32_0, hcz32_1, hcz32_2, hcz32_3, hcz32_4, hcz32_5, hcz32_6⟩ := cq7 BK538.out; have ⟨hfz32_0, hfz32_1, hfz32_2, hfz32_3, hfz32_4, hfz32_5, hfz32_6⟩ := fq7 BK538.out) | (go_at_call 77; (with_reducible refine (impl_between.calls a0_5 1 a2 true _ A12.out).mono ?_); rintro e w' ⟨rfl, ⟨nd, rfl⟩⟩))
                  go_ret
                  exact ⟨Rf, By⟩
                · rw [if_neg c24] at H
                  have c24b0 : (a0_2.toList == ([] : List UInt8)) = false := beq_eq_false_iff_ne.mpr c24
                  have c24b1 : (a0_2.toList != ([] : List UInt8)) = true := bne_iff_ne.mpr c24
                  obtain rfl := Option.some.inj H
                  go_enter Tryd.func112, Tryd.ntmps112
                  go_wp2_with (first | ((with_reducible refine gate_dst (N := 3) rfl ?_); refine box_event ?hg (N := 3) ?hd (cs := #[.int .i64 a0_0, .string a0_1, .string a0_2, .string a0_3, .bool false, .int .i64 a0_5, .bool true]) (t := 34) ?hr ?_; (case hd => rfl); (case hg => rfl); (case hr => first | (go_simp; done) | (go_simp; rfl)); intro gb538 hg w33 hbox hb; have n0_ := Aside0.mk (below_step By hb); have n1_ := Aside0.mk (hbox); have n2_ := Aside0.mk ((by rw [hg]; exact (below_size By) : w.heap.size ≤ gb538)); have n3_ := Aside0.mk ((by rw [hg]; exact (below_size By) : w.heap.size ≤ gb538)); clear HB; have HB := n0_; have BK538 := n1_; have GW538 := n2_; have GE538 := n3_; clear n0_ n1_ n2_ n3_; clear hb hbox hg; have ⟨hcz34_0, hcz34_1, hcz34_2, hcz34_3, hcz34_4, hcz34_5, hcz34_6⟩ := cq7 BK538.out; have ⟨hfz34_0, hfz34_1, hfz34_2, hfz34_3, hfz34_4, hfz34_5, hfz34_6⟩ := fq7 BK538.out) | ((with_reducible refine gate_callee (f := 77) rfl ?_); refine goesL_ (some 11) rfl rfl Tryd.func77 (by kernel_rfl) rfl #[.int .i64 a0_0, .int .i64 1, .int .i64 (wrap64 (a1 - 1))] rfl Ag ?_; (with_reducible refine (impl_between.calls a0_0 1 (wrap64 (a1 - 1)) true _ A4.out).mono ?_); rintro e w' ⟨rfl, ⟨nd, rfl⟩⟩; refine ⟨_, rfl, ?_⟩) | (go_at_call 144; (with_reducible refine (impl_NameRight.calls a0_1 true _ A6.out).mono ?_); rintro e w35 ⟨rfl, hb⟩; have n0_ := Aside0.mk (bb BK538.out hb); have n1_ := Aside0.mk (below_step By hb); clear BK538; clear HB; have BK538 := n0_; have HB := n1_; clear n0_ n1_; (try clear hb); (try clear hb2); (try clear hk); (try clear hi); have ⟨hcz36_0, hcz36_1, hcz36_2, hcz36_3, hcz36_4, hcz36_5, hcz36_6⟩ := cq7 BK538.out; have ⟨hfz36_0, hfz36_1, hfz36_2, hfz36_3, hfz36_4, hfz36_5, hfz36_6⟩ := fq7 BK538.out) | (go_at_call 146; (with_reducible refine (impl_isOptional.calls k a0_2 true _ A8.out).mono ?_); rintro e w37 ⟨rfl, hb⟩; have n0_ := Aside0.mk (bb BK538.out hb); have n1_ := Aside0.mk (below_step By hb); clear BK538; clear HB; have BK538 := n0_; have HB := n1_; clear n0_ n1_; (try clear hb); (try clear hb2); (try clear hk); (try clear hi); have ⟨hcz38_0, hcz38_1, hcz38_2, hcz38_3, hcz38_4, hcz38_5, hcz38_6⟩ := cq7 BK538.out; have ⟨hfz38_0, hfz38_1, hfz38_2, hfz38_3, hfz38_4, hfz38_5, hfz38_6⟩ := fq7 BK538.out) | (go_at_call 146; (with_reducible refine (impl_isOptional.calls k a0_3 true _ A10.out).mono ?_); rintro e w39 ⟨rfl, hb⟩; have n0_ := Aside0.mk (bb BK538.out hb); have n1_ := Aside0.mk (below_step By hb); clear BK538; clear HB; have BK538 := n0_; have HB := n1_; clear n0_ n1_; (try clear hb); (try clear hb2); (try clear hk); (try clear hi); have ⟨hcz40_0, hcz40_1, hcz40_2, hcz40_3, hcz40_4, hcz40_5, hcz40_6⟩ := cq7 BK538.out; have ⟨hfz40_0, hfz40_1, hfz40_2, hfz40_3, hfz40_4, hfz40_5, hfz40_6⟩ := fq7 BK538.out) | (go_at_call 77; (with_reducible refine (impl_between.calls a0_5 1 a2 true _ A12.out).mono ?_); rintro e w' ⟨rfl, ⟨nd, rfl⟩⟩))
                  go_ret
                  exact ⟨Rf, By⟩
            · replace c14 := Bool.eq_false_iff.mpr c14
              subst c14
              have H1 : (some true) = some r := by rw [if_neg (show ¬ (false = true) by decide)] at H; exact H
              clear H
              have H := H1
              clear H1
              obtain rfl := Option.some.inj H
              go_enter Tryd.func112, Tryd.ntmps112
              go_wp2_with (first | ((with_reducible refine gate_dst (N := 3) rfl ?_); refine box_event ?hg (N := 3) ?hd (cs := #[.int .i64 a0_0, .string a0_1, .string a0_2, .string a0_3, .bool a0_4, .int .i64 a0_5, .bool false]) (t := 34) ?hr ?_; (case hd => rfl); (case hg => rfl); (case hr => first | (go_simp; done) | (go_simp; rfl)); intro gb538 hg w41 hbox hb; have n0_ := Aside0.mk (below_step By hb); have n1_ := Aside0.mk (hbox); have n2_ := Aside0.mk ((by rw [hg]; exact (below_size By) : w.heap.size ≤ gb538)); have n3_ := Aside0.mk ((by rw [hg]; exact (below_size By) : w.heap.size ≤ gb538)); clear HB; have HB := n0_; have BK538 := n1_; have GW538 := n2_; have GE538 := n3_; clear n0_ n1_ n2_ n3_; clear hb hbox hg; have ⟨hcz42_0, hcz42_1, hcz42_2, hcz42_3, hcz42_4, hcz42_5, hcz42_6⟩ := cq7 BK538.out; have ⟨hfz42_0, hfz42_1, hfz42_2, hfz42_3, hfz42_4, hfz42_5, hfz42_6⟩ := fq7 BK538.out) | ((with_reducible refine gate_callee (f := 77) rfl ?_); refine goesL_ (some 11) rfl rfl Tryd.func77 (by kernel_rfl) rfl #[.int .i64 a0_0, .int .i64 1, .int .i64 (wrap64 (a1 - 1))] rfl Ag ?_; (with_reducible refine (impl_between.calls a0_0 1 (wrap64 (a1 - 1)) true _ A4.out).mono ?_); rintro e w' ⟨rfl, ⟨nd, rfl⟩⟩; refine ⟨_, rfl, ?_⟩) | (go_at_call 144; (with_reducible refine (impl_NameRight.calls a0_1 true _ A6.out).mono ?_); rintro e w43 ⟨rfl, hb⟩; have n0_ := Aside0.mk (bb BK538.out hb); have n1_ := Aside0.mk (below_step By hb); clear BK538; clear HB; have BK538 := n0_; have HB := n1_; clear n0_ n1_; (try clear hb); (try clear hb2); (try clear hk); (try clear hi); have ⟨hcz44_0, hcz44_1, hcz44_2, hcz44_3, hcz44_4, hcz44_5, hcz44_6⟩ := cq7 BK538.out; have ⟨hfz44_0, hfz44_1, hfz44_2, hfz44_3, hfz44_4, hfz44_5, hfz44_6⟩ := fq7 BK538.out) | (go_at_call 146; (with_reducible refine (impl_isOptional.calls k a0_2 true _ A8.out).mono ?_); rintro e w45 ⟨rfl, hb⟩; have n0_ := Aside0.mk (bb BK538.out hb); have n1_ := Aside0.mk (below_step By hb); clear BK538; clear HB; have BK538 := n0_; have HB := n1_; clear n0_ n1_; (try clear hb); (try clear hb2); (try clear hk); (try clear hi); have ⟨hcz46_0, hcz46_1, hcz46_2, hcz46_3, hcz46_4, hcz46_5, hcz46_6⟩ := cq7 BK538.out; have ⟨hfz46_0, hfz46_1, hfz46_2, hfz46_3, hfz46_4, hfz46_5, hfz46_6⟩ := fq7 BK538.out) | (go_at_call 146; (with_reducible refine (impl_isOptional.calls k a0_3 true _ A10.out).mono ?_); rintro e w47 ⟨rfl, hb⟩; have n0_ := Aside0.mk (bb BK538.out hb); have n1_ := Aside0.mk (below_step By hb); clear BK538; clear HB; have BK538 := n0_; have HB := n1_; clear n0_ n1_; (try clear hb); (try clear hb2); (try clear hk); (try clear hi); have ⟨hcz48_0, hcz48_1, hcz48_2, hcz48_3, hcz48_4, hcz48_5, hcz48_6⟩ := cq7 BK538.out; have ⟨hfz48_0, hfz48_1, hfz48_2, hfz48_3, hfz48_4, hfz48_5, hfz48_6⟩ := fq7 BK538.out) | (go_at_call 77; (with_reducible refine (impl_between.calls a0_5 1 a2 true _ A12.out).mono ?_); rintro e w' ⟨rfl, ⟨nd, rfl⟩⟩))
              go_ret
              exact ⟨Rf, By⟩
          · replace c13 := Bool.eq_false_iff.mpr c13
            subst c13
            have H1 : (some false) = some r := by rw [if_neg (show ¬ (false = true) by decide)] at H; exact H
            clear H
            have H := H1
            clear H1
            obtain rfl := Option.some.inj H
            go_enter Tryd.func112, Tryd.ntmps112
            go_wp2_with (first | ((with_reducible refine gate_dst (N := 3) rfl ?_); refine box_event ?hg (N := 3) ?hd (cs := #[.int .i64 a0_0, .string a0_1, .string a0_2, .string a0_3, .bool a0_4, .int .i64 a0_5, .bool a0_6]) (t := 34) ?hr ?_; (case hd => rfl); (case hg => rfl); (case hr => first | (go_simp; done) | (go_simp; rfl)); intro gb538 hg w49 hbox hb; have n0_ := Aside0.mk (below_step By hb); have n1_ := Aside0.mk (hbox); have n2_ := Aside0.mk ((by rw [hg]; exact (below_size By) : w.heap.size ≤ gb538)); have n3_ := Aside0.mk ((by rw [hg]; exact (below_size By) : w.heap.size ≤ gb538)); clear HB; have HB := n0_; have BK538 := n1_; have GW538 := n2_; have GE538 := n3_; clear n0_ n1_ n2_ n3_; clear hb hbox hg; have ⟨hcz50_0, hcz50_1, hcz50_2, hcz50_3, hcz50_4, hcz50_5, hcz50_6⟩ := cq7 BK538.out; have ⟨hfz50_0, hfz50_1, hfz50_2, hfz50_3, hfz50_4, hfz50_5, hfz50_6⟩ := fq7 BK538.out) | ((with_reducible refine gate_callee (f := 77) rfl ?_); refine goesL_ (some 11) rfl rfl Tryd.func77 (by kernel_rfl) rfl #[.int .i64 a0_0, .int .i64 1, .int .i64 (wrap64 (a1 - 1))] rfl Ag ?_; (with_reducible refine (impl_between.calls a0_0 1 (wrap64 (a1 - 1)) true _ A4.out).mono ?_); rintro e w' ⟨rfl, ⟨nd, rfl⟩⟩; refine ⟨_, rfl, ?_⟩) | (go_at_call 144; (with_reducible refine (impl_NameRight.calls a0_1 true _ A6.out).mono ?_); rintro e w51 ⟨rfl, hb⟩; have n0_ := Aside0.mk (bb BK538.out hb); have n1_ := Aside0.mk (below_step By hb); clear BK538; clear HB; have BK538 := n0_; have HB := n1_; clear n0_ n1_; (try clear hb); (try clear hb2); (try clear hk); (try clear hi); have ⟨hcz52_0, hcz52_1, hcz52_2, hcz52_3, hcz52_4, hcz52_5, hcz52_6⟩ := cq7 BK538.out; have ⟨hfz52_0, hfz52_1, hfz52_2, hfz52_3, hfz52_4, hfz52_5, hfz52_6⟩ := fq7 BK538.out) | (go_at_call 146; (with_reducible refine (impl_isOptional.calls k a0_2 true _ A8.out).mono ?_); rintro e w53 ⟨rfl, hb⟩; have n0_ := Aside0.mk (bb BK538.out hb); have n1_ := Aside0.mk (below_step By hb); clear BK538; clear HB; have BK538 := n0_; have HB := n1_; clear n0_ n1_; (try clear hb); (try clear hb2); (try clear hk); (try clear hi); have ⟨hcz54_0, hcz54_1, hcz54_2, hcz54_3, hcz54_4, hcz54_5, hcz54_6⟩ := cq7 BK538.out; have ⟨hfz54_0, hfz54_1, hfz54_2, hfz54_3, hfz54_4, hfz54_5, hfz54_6⟩ := fq7 BK538.out) | (go_at_call 146; (with_reducible refine (impl_isOptional.calls k a0_3 true _ A10.out).mono ?_); rintro e w55 ⟨rfl, hb⟩; have n0_ := Aside0.mk (bb BK538.out hb); have n1_ := Aside0.mk (below_step By hb); clear BK538; clear HB; have BK538 := n0_; have HB := n1_; clear n0_ n1_; (try clear hb); (try clear hb2); (try clear hk); (try clear hi); have ⟨hcz56_0, hcz56_1, hcz56_2, hcz56_3, hcz56_4, hcz56_5, hcz56_6⟩ := cq7 BK538.out; have ⟨hfz56_0, hfz56_1, hfz56_2, hfz56_3, hfz56_4, hfz56_5, hfz56_6⟩ := fq7 BK538.out) | (go_at_call 77; (with_reducible refine (impl_between.calls a0_5 1 a2 false _ A12.out).mono ?_); rintro e w' ⟨rfl, ⟨nd, rfl⟩⟩))
            go_ret
            exact ⟨Rf, By⟩
        · replace c11 := Bool.eq_false_iff.mpr c11
          subst c11
          have H1 : (some false) = some r := by rw [if_neg (show ¬ (false = true) by decide)] at H; exact H
          clear H
          have H := H1
          clear H1
          obtain rfl := Option.some.inj H
          go_enter Tryd.func112, Tryd.ntmps112
          go_wp2_with (first | ((with_reducible refine gate_dst (N := 3) rfl ?_); refine box_event ?hg (N := 3) ?hd (cs := #[.int .i64 a0_0, .string a0_1, .string a0_2, .string a0_3, .bool a0_4, .int .i64 a0_5, .bool a0_6]) (t := 34) ?hr ?_; (case hd => rfl); (case hg => rfl); (case hr => first | (go_simp; done) | (go_simp; rfl)); intro gb538 hg w57 hbox hb; have n0_ := Aside0.mk (below_step By hb); have n1_ := Aside0.mk (hbox); have n2_ := Aside0.mk ((by rw [hg]; exact (below_size By) : w.heap.size ≤ gb538)); have n3_ := Aside0.mk ((by rw [hg]; exact (below_size By) : w.heap.size ≤ gb538)); clear HB; have HB := n0_; have BK538 := n1_; have GW538 := n2_; have GE538 := n3_; clear n0_ n1_ n2_ n3_; clear hb hbox hg; have ⟨hcz58_0, hcz58_1, hcz58_2, hcz58_3, hcz58_4, hcz58_5, hcz58_6⟩ := cq7 BK538.out; have ⟨hfz58_0, hfz58_1, hfz58_2, hfz58_3, hfz58_4, hfz58_5, hfz58_6⟩ := fq7 BK538.out) | ((with_reducible refine gate_callee (f := 77) rfl ?_); refine goesL_ (some 11) rfl rfl Tryd.func77 (by kernel_rfl) rfl #[.int .i64 a0_0, .int .i64 1, .int .i64 (wrap64 (a1 - 1))] rfl Ag ?_; (with_reducible refine (impl_between.calls a0_0 1 (wrap64 (a1 - 1)) true _ A4.out).mono ?_); rintro e w' ⟨rfl, ⟨nd, rfl⟩⟩; refine ⟨_, rfl, ?_⟩) | (go_at_call 144; (with_reducible refine (impl_NameRight.calls a0_1 true _ A6.out).mono ?_); rintro e w59 ⟨rfl, hb⟩; have n0_ := Aside0.mk (bb BK538.out hb); have n1_ := Aside0.mk (below_step By hb); clear BK538; clear HB; have BK538 := n0_; have HB := n1_; clear n0_ n1_; (try clear hb); (try clear hb2); (try clear hk); (try clear hi); have ⟨hcz60_0, hcz60_1, hcz60_2, hcz60_3, hcz60_4, hcz60_5, hcz60_6⟩ := cq7 BK538.out; have ⟨hfz60_0, hfz60_1, hfz60_2, hfz60_3, hfz60_4, hfz60_5, hfz60_6⟩ := fq7 BK538.out) | (go_at_call 146; (with_reducible refine (impl_isOptional.calls k a0_2 true _ A8.out).mono ?_); rintro e w61 ⟨rfl, hb⟩; have n0_ := Aside0.mk (bb BK538.out hb); have n1_ := Aside0.mk (below_step By hb); clear BK538; clear HB; have BK538 := n0_; have HB := n1_; clear n0_ n1_; (try clear hb); (try clear hb2); (try clear hk); (try clear hi); have ⟨hcz62_0, hcz62_1, hcz62_2, hcz62_3, hcz62_4, hcz62_5, hcz62_6⟩ := cq7 BK538.out; have ⟨hfz62_0, hfz62_1, hfz62_2, hfz62_3, hfz62_4, hfz62_5, hfz62_6⟩ := fq7 BK538.out) | (go_at_call 146; (with_reducible refine (impl_isOptional.calls k a0_3 false _ A10.out).mono ?_); rintro e w63 ⟨rfl, hb⟩; have n0_ := Aside0.mk (bb BK538.out hb); have n1_ := Aside0.mk (below_step By hb); clear BK538; clear HB; have BK538 := n0_; have HB := n1_; clear n0_ n1_; (try clear hb); (try clear hb2); (try clear hk); (try clear hi)))
          go_ret
          exact ⟨Rf, By⟩
      · replace c9 := Bool.eq_false_iff.mpr c9
        subst c9
        have H1 : (some false) = some r := by rw [if_neg (show ¬ (false = true) by decide)] at H; exact H
        clear H
        have H := H1
        clear H1
        obtain rfl := Option.some.inj H
        go_enter Tryd.func112, Tryd.ntmps112
        go_wp2_with (first | ((with_reducible refine gate_dst (N := 3) rfl ?_); refine box_event ?hg (N := 3) ?hd (cs := #[.int .i64 a0_0, .string a0_1, .string a0_2, .string a0_3, .bool a0_4, .int .i64 a0_5, .bool a0_6]) (t := 34) ?hr ?_; (case hd => rfl); (case hg => rfl); (case hr => first | (go_simp; done) | (go_simp; rfl)); intro gb538 hg w64 hbox hb; have n0_ := Aside0.mk (below_step By hb); have n1_ := Aside0.mk (hbox); have n2_ := Aside0.mk ((by rw [hg]; exact (below_size By) : w.heap.size ≤ gb538)); have n3_ := Aside0.mk ((by rw [hg]; exact (below_size By) : w.heap.size ≤ gb538)); clear HB; have HB := n0_; have BK538 := n1_; have GW538 := n2_; have GE538 := n3_; clear n0_ n1_ n2_ n3_; clear hb hbox hg; have ⟨hcz65_0, hcz65_1, hcz65_2, hcz65_3, hcz65_4, hcz65_5, hcz65_6⟩ := cq7 BK538.out; have ⟨hfz65_0, hfz65_1, hfz65_2, hfz65_3, hfz65_4, hfz65_5, hfz65_6⟩ := fq7 BK538.out) | ((with_reducible refine gate_callee (f := 77) rfl ?_); refine goesL_ (some 11) rfl rfl Tryd.func77 (by kernel_rfl) rfl #[.int .i64 a0_0, .int .i64 1, .int .i64 (wrap64 (a1 - 1))] rfl Ag ?_; (with_reducible refine (impl_between.calls a0_0 1 (wrap64 (a1 - 1)) true _ A4.out).mono ?_); rintro e w' ⟨rfl, ⟨nd, rfl⟩⟩; refine ⟨_, rfl, ?_⟩) | (go_at_call 144; (with_reducible refine (impl_NameRight.calls a0_1 true _ A6.out).mono ?_); rintro e w66 ⟨rfl, hb⟩; have n0_ := Aside0.mk (bb BK538.out hb); have n1_ := Aside0.mk (below_step By hb); clear BK538; clear HB; have BK538 := n0_; have HB := n1_; clear n0_ n1_; (try clear hb); (try clear hb2); (try clear hk); (try clear hi); have ⟨hcz67_0, hcz67_1, hcz67_2, hcz67_3, hcz67_4, hcz67_5, hcz67_6⟩ := cq7 BK538.out; have ⟨hfz67_0, hfz67_1, hfz67_2, hfz67_3, hfz67_4, hfz67_5, hfz67_6⟩ := fq7 BK538.out) | (go_at_call 146; (with_reducible refine (impl_isOptional.calls k a0_2 false _ A8.out).mono ?_); rintro e w68 ⟨rfl, hb⟩; have n0_ := Aside0.mk (bb BK538.out hb); have n1_ := Aside0.mk (below_step By hb); clear BK538; clear HB; have BK538 := n0_; have HB := n1_; clear n0_ n1_; (try clear hb); (try clear hb2); (try clear hk); (try clear hi)))
        go_ret
        exact ⟨Rf, By⟩
    · replace c7 := Bool.eq_false_iff.mpr c7
      subst c7
      have H1 : (some false) = some r := by rw [if_neg (show ¬ (false = true) by decide)] at H; exact H
      clear H
      have H := H1
      clear H1
      obtain rfl := Option.some.inj H
      go_enter Tryd.func112, Tryd.ntmps112
      go_wp2_with (first | ((with_reducible refine gate_dst (N := 3) rfl ?_); refine box_event ?hg (N := 3) ?hd (cs := #[.int .i64 a0_0, .string a0_1, .string a0_2, .string a0_3, .bool a0_4, .int .i64 a0_5, .bool a0_6]) (t := 34) ?hr ?_; (case hd => rfl); (case hg => rfl); (case hr => first | (go_simp; done) | (go_simp; rfl)); intro gb538 hg w69 hbox hb; have n0_ := Aside0.mk (below_step By hb); have n1_ := Aside0.mk (hbox); have n2_ := Aside0.mk ((by rw [hg]; exact (below_size By) : w.heap.size ≤ gb538)); have n3_ := Aside0.mk ((by rw [hg]; exact (below_size By) : w.heap.size ≤ gb538)); clear HB; have HB := n0_; have BK538 := n1_; have GW538 := n2_; have GE538 := n3_; clear n0_ n1_ n2_ n3_; clear hb hbox hg; have ⟨hcz70_0, hcz70_1, hcz70_2, hcz70_3, hcz70_4, hcz70_5, hcz70_6⟩ := cq7 BK538.out; have ⟨hfz70_0, hfz70_1, hfz70_2, hfz70_3, hfz70_4, hfz70_5, hfz70_6⟩ := fq7 BK538.out) | ((with_reducible refine gate_callee (f := 77) rfl ?_); refine goesL_ (some 11) rfl rfl Tryd.func77 (by kernel_rfl) rfl #[.int .i64 a0_0, .int .i64 1, .int .i64 (wrap64 (a1 - 1))] rfl Ag ?_; (with_reducible refine (impl_between.calls a0_0 1 (wrap64 (a1 - 1)) true _ A4.out).mono ?_); rintro e w' ⟨rfl, ⟨nd, rfl⟩⟩; refine ⟨_, rfl, ?_⟩) | (go_at_call 144; (with_reducible refine (impl_NameRight.calls a0_1 false _ A6.out).mono ?_); rintro e w71 ⟨rfl, hb⟩; have n0_ := Aside0.mk (bb BK538.out hb); have n1_ := Aside0.mk (below_step By hb); clear BK538; clear HB; have BK538 := n0_; have HB := n1_; clear n0_ n1_; (try clear hb); (try clear hb2); (try clear hk); (try clear hi)))
      go_ret
      exact ⟨Rf, By⟩
  · replace c5 := Bool.eq_false_iff.mpr c5
    subst c5
    have H1 : (some false) = some r := by rw [if_neg (show ¬ (false = true) by decide)] at H; exact H
    clear H
    have H := H1
    clear H1
    obtain rfl := Option.some.inj H
    go_enter Tryd.func112, Tryd.ntmps112
    go_wp2_with (first | ((with_reducible refine gate_dst (N := 3) rfl ?_); refine box_event ?hg (N := 3) ?hd (cs := #[.int .i64 a0_0, .string a0_1, .string a0_2, .string a0_3, .bool a0_4, .int .i64 a0_5, .bool a0_6]) (t := 34) ?hr ?_; (case hd => rfl); (case hg => rfl); (case hr => first | (go_simp; done) | (go_simp; rfl)); intro gb538 hg w72 hbox hb; have n0_ := Aside0.mk (below_step By hb); have n1_ := Aside0.mk (hbox); have n2_ := Aside0.mk ((by rw [hg]; exact (below_size By) : w.heap.size ≤ gb538)); have n3_ := Aside0.mk ((by rw [hg]; exact (below_size By) : w.heap.size ≤ gb538)); clear HB; have HB := n0_; have BK538 := n1_; have GW538 := n2_; have GE538 := n3_; clear n0_ n1_ n2_ n3_; clear hb hbox hg; have ⟨hcz73_0, hcz73_1, hcz73_2, hcz73_3, hcz73_4, hcz73_5, hcz73_6⟩ := cq7 BK538.out; have ⟨hfz73_0, hfz73_1, hfz73_2, hfz73_3, hfz73_4, hfz73_5, hfz73_6⟩ := fq7 BK538.out) | ((with_reducible refine gate_callee (f := 77) rfl ?_); refine goesL_ (some 11) rfl rfl Tryd.func77 (by kernel_rfl) rfl #[.int .i64 a0_0, .int .i64 1, .int .i64 (wrap64 (a1 - 1))] rfl Ag ?_; (with_reducible refine (impl_between.calls a0_0 1 (wrap64 (a1 - 1)) false _ A4.out).mono ?_); rintro e w' ⟨rfl, ⟨nd, rfl⟩⟩; refine ⟨_, rfl, ?_⟩))
    go_ret
    exact ⟨Rf, By⟩

set_option linter.unusedVariables false
set_option linter.unusedSimpArgs false

/-! ### impl_TableRight: function 60 -/
mutual
def impl_TableRight.j0 : Nat → Bool → Int → Int → List (S34) → Option (Bool)
  | 0, _, _, _, _ => none
  | k + 1, x22, x545000, x545001, x545002 => if x22 = true then (some false) else (impl_TableRight.l0 k x545002 (x545002.length : Int) 0 x545000 x545001 x545002)
def impl_TableRight.l0 : Nat → List (S34) → Int → Int → Int → Int → List (S34) → Option (Bool)
  | 0, _, _, _, _, _, _ => none
  | k + 1, x24, x25, x26, x545000, x545001, x545002 => if x26 < x25 then (if 0 ≤ x26 then (if x26 < (x24.length : Int) then ((impl_isRow.f k ((rd_T34 x24 x26).f0) ((rd_T34 x24 x26).f1) ((rd_T34 x24 x26).f2) ((rd_T34 x24 x26).f3) ((rd_T34 x24 x26).f4) ((rd_T34 x24 x26).f5) ((rd_T34 x24 x26).f6) x545000 x545001).bind fun t549 => (if t549 = true then (if x26 > 0 then (if 0 ≤ (wrap64 (x26 - 1)) then (if (wrap64 (x26 - 1)) < (x545002.length : Int) then (impl_TableRight.j2 k x26 x24 x25 x26 (decide (((rd_T34 x545002 (wrap64 (x26 - 1))).f0) ≥ ((rd_T34 x24 x26).f0))) x545000 x545001 x545002 ((rd_T34 x24 x26).f0) ((rd_T34 x24 x26).f1) ((rd_T34 x24 x26).f2) ((rd_T34 x24 x26).f3) ((rd_T34 x24 x26).f4) ((rd_T34 x24 x26).f5) ((rd_T34 x24 x26).f6)) else (none)) else (none)) else (impl_TableRight.j2 k x26 x24 x25 x26 false x545000 x545001 x545002 ((rd_T34 x24 x26).f0) ((rd_T34 x24 x26).f1) ((rd_T34 x24 x26).f2) ((rd_T34 x24 x26).f3) ((rd_T34 x24 x26).f4) ((rd_T34 x24 x26).f5) ((rd_T34 x24 x26).f6))) else (impl_TableRight.j2 k x26 x24 x25 x26 true x545000 x545001 x545002 ((rd_T34 x24 x26).f0) ((rd_T34 x24 x26).f1) ((rd_T34 x24 x26).f2) ((rd_T34 x24 x26).f3) ((rd_T34 x24 x26).f4) ((rd_T34 x24 x26).f5) ((rd_T34 x24 x26).f6)))) else (none)) else (none)) else (some true)
def impl_TableRight.j2 : Nat → Int → List (S34) → Int → Int → Bool → Int → Int → List (S34) → Int → ByteArray → ByteArray → ByteArray → Bool → Int → Bool → Option (Bool)
  | 0, _, _, _, _, _, _, _, _, _, _, _, _, _, _, _ => none
  | k + 1, x3, x24, x25, x26, x53, x545000, x545001, x545002, x549000, x549001, x549002, x549003, x549004, x549005, x549006 => if x53 = true then (some false) else (if 0 ≤ x3 then (if x3 ≤ (x545002.length : Int) then ((some (x545002.take (x3 : Int).toNat : List (S34))).bind fun y551 => (impl_TableRight.l1 k x24 x25 x26 y551 (y551.length : Int) 0 x545000 x545001 x545002 x549000 x549001 x549002 x549003 x549004 x549005 x549006)) else (none)) else (none))
def impl_TableRight.l1 : Nat → List (S34) → Int → Int → List (S34) → Int → Int → Int → Int → List (S34) → Int → ByteArray → ByteArray → ByteArray → Bool → Int → Bool → Option (Bool)
  | 0, _, _, _, _, _, _, _, _, _, _, _, _, _, _, _, _ => none
  | k + 1, x24, x25, x26, x57, x58, x59, x545000, x545001, x545002, x549000, x549001, x549002, x549003, x549004, x549005, x549006 => if x59 < x58 then (if 0 ≤ x59 then (if x59 < (x57.length : Int) then (if ((rd_T34 x57 x59).f5) = x549005 then (some false) else (if ((rd_T34 x57 x59).f1).toList = x549001.toList then (if ((rd_T34 x57 x59).f6 = true) then (impl_TableRight.l1 k x24 x25 x26 x57 x58 (wrap64 (x59 + 1)) x545000 x545001 x545002 x549000 x549001 x549002 x549003 x549004 x549005 x549006) else (if x549006 = true then (impl_TableRight.l1 k x24 x25 x26 x57 x58 (wrap64 (x59 + 1)) x545000 x545001 x545002 x549000 x549001 x549002 x549003 x549004 x549005 x549006) else (some false))) else (impl_TableRight.l1 k x24 x25 x26 x57 x58 (wrap64 (x59 + 1)) x545000 x545001 x545002 x549000 x549001 x549002 x549003 x549004 x549005 x549006))) else (none)) else (none)) else (impl_TableRight.l0 k x24 x25 (wrap64 (x26 + 1)) x545000 x545001 x545002)
end
def impl_TableRight.f (k : Nat) (a0_0 : Int) (a0_1 : Int) (l0_2 : List (S34)) : Option (Bool) := (impl_between.f a0_0 1 1000000).bind fun t545 => (if t545 = true then ((impl_between.f a0_1 0 1000000).bind fun t546 => (if t546 = true then (impl_TableRight.j0 k (decide ((l0_2.length : Int) > 20)) a0_0 a0_1 l0_2) else (impl_TableRight.j0 k true a0_0 a0_1 l0_2))) else (impl_TableRight.j0 k true a0_0 a0_1 l0_2))
theorem impl_TableRight.mono_l : ∀ k, (∀ y0 y1 y2 y3, LeO (impl_TableRight.j0 k y0 y1 y2 y3) (impl_TableRight.j0 (k + 1) y0 y1 y2 y3)) ∧ (∀ y0 y1 y2 y3 y4 y5, LeO (impl_TableRight.l0 k y0 y1 y2 y3 y4 y5) (impl_TableRight.l0 (k + 1) y0 y1 y2 y3 y4 y5)) ∧ (∀ y0 y1 y2 y3 y4 y5 y6 y7 y8 y9 y10 y11 y12 y13 y14, LeO (impl_TableRight.j2 k y0 y1 y2 y3 y4 y5 y6 y7 y8 y9 y10 y11 y12 y13 y14) (impl_TableRight.j2 (k + 1) y0 y1 y2 y3 y4 y5 y6 y7 y8 y9 y10 y11 y12 y13 y14)) ∧ (∀ y0 y1 y2 y3 y4 y5 y6 y7 y8 y9 y10 y11 y12 y13 y14 y15, LeO (impl_TableRight.l1 k y0 y1 y2 y3 y4 y5 y6 y7 y8 y9 y10 y11 y12 y13 y14 y15) (impl_TableRight.l1 (k + 1) y0 y1 y2 y3 y4 y5 y6 y7 y8 y9 y10 y11 y12 y13 y14 y15))
  | 0 => ⟨fun _ _ _ _ r h => by simp [impl_TableRight.j0] at h, fun _ _ _ _ _ _ r h => by simp [impl_TableRight.l0] at h, fun _ _ _ _ _ _ _ _ _ _ _ _ _ _ _ r h => by simp [impl_TableRight.j2] at h, fun _ _ _ _ _ _ _ _ _ _ _ _ _ _ _ _ r h => by simp [impl_TableRight.l1] at h⟩
  | k + 1 => by
    obtain ⟨ih0, ih1, ih2, ih3⟩ := impl_TableRight.mono_l k
    refine ⟨?_, ?_, ?_, ?_⟩
    · intro y0 y1 y2 y3
      unfold impl_TableRight.j0
      repeat' first
      | (with_reducible exact ih0 _ _ _ _)
      | (with_reducible exact ih1 _ _ _ _ _ _)
      | (with_reducible exact ih2 _ _ _ _ _ _ _ _ _ _ _ _ _ _ _)
      | (with_reducible exact ih3 _ _ _ _ _ _ _ _ _ _ _ _ _ _ _ _)
      | (with_reducible exact impl_isRow.mono _ _ _ _ _ _ _ _ _ _)
      | (with_reducible exact LeO.refl _)
      | (with_reducible exact LeO.none _)
      | (with_reducible refine LeO.ite ?_ ?_)
      | (with_reducible refine LeO.bind ?_ (fun _ => ?_))
      | exact ih0 _ _ _ _
      | exact ih1 _ _ _ _ _ _
      | exact ih2 _ _ _ _ _ _ _ _ _ _ _ _ _ _ _
      | exact ih3 _ _ _ _ _ _ _ _ _ _ _ _ _ _ _ _
      | exact impl_isRow.mono _ _ _ _ _ _ _ _ _ _
      | exact LeO.none _
      | refine LeO.ite ?_ ?_
      | refine LeO.bind ?_ (fun _ => ?_)
    · intro y0 y1 y2 y3 y4 y5
      unfold impl_TableRight.l0
      repeat' first
      | (with_reducible exact ih0 _ _ _ _)
      | (with_reducible exact ih1 _ _ _ _ _ _)
      | (with_reducible exact ih2 _ _ _ _ _ _ _ _ _ _ _ _ _ _ _)
      | (with_reducible exact ih3 _ _ _ _ _ _ _ _ _ _ _ _ _ _ _ _)
      | (with_reducible exact impl_isRow.mono _ _ _ _ _ _ _ _ _ _)
      | (with_reducible exact LeO.refl _)
      | (with_reducible exact LeO.none _)
      | (with_reducible refine LeO.ite ?_ ?_)
      | (with_reducible refine LeO.bind ?_ (fun _ => ?_))
      | exact ih0 _ _ _ _
      | exact ih1 _ _ _ _ _ _
      | exact ih2 _ _ _ _ _ _ _ _ _ _ _ _ _ _ _
      | exact ih3 _ _ _ _ _ _ _ _ _ _ _ _ _ _ _ _
      | exact impl_isRow.mono _ _ _ _ _ _ _ _ _ _
      | exact LeO.none _
      | refine LeO.ite ?_ ?_
      | refine LeO.bind ?_ (fun _ => ?_)
    · intro y0 y1 y2 y3 y4 y5 y6 y7 y8 y9 y10 y11 y12 y13 y14
      unfold impl_TableRight.j2
      repeat' first
      | (with_reducible exact ih0 _ _ _ _)
      | (with_reducible exact ih1 _ _ _ _ _ _)
      | (with_reducible exact ih2 _ _ _ _ _ _ _ _ _ _ _ _ _ _ _)
      | (with_reducible exact ih3 _ _ _ _ _ _ _ _ _ _ _ _ _ _ _ _)
      | (with_reducible exact impl_isRow.mono _ _ _ _ _ _ _ _ _ _)
      | (with_reducible exact LeO.refl _)
      | (with_reducible exact LeO.none _)
      | (with_reducible refine LeO.ite ?_ ?_)
      | (with_reducible refine LeO.bind ?_ (fun _ => ?_))
      | exact ih0 _ _ _ _
      | exact ih1 _ _ _ _ _ _
      | exact ih2 _ _ _ _ _ _ _ _ _ _ _ _ _ _ _
      | exact ih3 _ _ _ _ _ _ _ _ _ _ _ _ _ _ _ _
      | exact impl_isRow.mono _ _ _ _ _ _ _ _ _ _
      | exact LeO.none _
      | refine LeO.ite ?_ ?_
      | refine LeO.bind ?_ (fun _ => ?_)
    · intro y0 y1 y2 y3 y4 y5 y6 y7 y8 y9 y10 y11 y12 y13 y14 y15
      unfold impl_TableRight.l1
      repeat' first
      | (with_reducible exact ih0 _ _ _ _)
      | (with_reducible exact ih1 _ _ _ _ _ _)
      | (with_reducible exact ih2 _ _ _ _ _ _ _ _ _ _ _ _ _ _ _)
      | (with_reducible exact ih3 _ _ _ _ _ _ _ _ _ _ _ _ _ _ _ _)
      | (with_reducible exact impl_isRow.mono _ _ _ _ _ _ _ _ _ _)
      | (with_reducible exact LeO.refl _)
      | (with_reducible exact LeO.none _)
      | (with_reducible refine LeO.ite ?_ ?_)
      | (with_reducible refine LeO.bind ?_ (fun _ => ?_))
      | exact ih0 _ _ _ _
      | exact ih1 _ _ _ _ _ _
      | exact ih2 _ _ _ _ _ _ _ _ _ _ _ _ _ _ _
      | exact ih3 _ _ _ _ _ _ _ _ _ _ _ _ _ _ _ _
      | exact impl_isRow.mono _ _ _ _ _ _ _ _ _ _
      | exact LeO.none _
      | refine LeO.ite ?_ ?_
      | refine LeO.bind ?_ (fun _ => ?_)
theorem impl_TableRight.mono : ∀ a0 a1 a2 k, LeO (impl_TableRight.f k a0 a1 a2) (impl_TableRight.f (k + 1) a0 a1 a2) := by
  intro a0 a1 a2 k
  obtain ⟨ih0, ih1, ih2, ih3⟩ := impl_TableRight.mono_l k
  unfold impl_TableRight.f
  repeat' first
      | (with_reducible exact ih0 _ _ _ _)
      | (with_reducible exact ih1 _ _ _ _ _ _)
      | (with_reducible exact ih2 _ _ _ _ _ _ _ _ _ _ _ _ _ _ _)
      | (with_reducible exact ih3 _ _ _ _ _ _ _ _ _ _ _ _ _ _ _ _)
      | (with_reducible exact impl_isRow.mono _ _ _ _ _ _ _ _ _ _)
      | (with_reducible exact LeO.refl _)
      | (with_reducible exact LeO.none _)
      | (with_reducible refine LeO.ite ?_ ?_)
      | (with_reducible refine LeO.bind ?_ (fun _ => ?_))
      | exact ih0 _ _ _ _
      | exact ih1 _ _ _ _ _ _
      | exact ih2 _ _ _ _ _ _ _ _ _ _ _ _ _ _ _
      | exact ih3 _ _ _ _ _ _ _ _ _ _ _ _ _ _ _ _
      | exact impl_isRow.mono _ _ _ _ _ _ _ _ _ _
      | exact LeO.none _
      | refine LeO.ite ?_ ?_
      | refine LeO.bind ?_ (fun _ => ?_)
def impl_TableRight.T6 : Bool × List (List Nat × List Nat) := (true, [([], []), ([], []), ([1], [1]), ([], []), ([3], [3]), ([0, 2, 4], [0, 2, 4]), ([5], [5]), ([6, 5], [6]), ([7], [7]), ([8, 7], [7, 8]), ([9, 7, 7], [7, 9]), ([10], [10]), ([11, 10], [10, 11]), ([10], [10]), ([13, 10], [10, 13]), ([12, 14, 10], [10, 12, 14]), ([15, 10], [10, 15]), ([16, 10], [10, 16]), ([10], [10]), ([18, 10], [10, 18]), ([17, 19, 10], [10, 17, 19]), ([10, 20, 7], [7, 10, 20]), ([7, 21], [7, 21])])
def impl_TableRight.B6 : List Nat := [0, 0, 2, 0, 8, 31, 63, 127, 255, 511, 1023, 2047, 4095, 2047, 10239, 32767, 65535, 131071, 2047, 264191, 1048575, 2097151, 4194303]
theorem impl_TableRight.tab6 : rtab .any (opsOf Tryd.f60 6) = impl_TableRight.T6 := by kernel_rfl
theorem impl_TableRight.bits6 : waitsOk impl_TableRight.T6.2 impl_TableRight.B6 = true := by kernel_rfl
set_option maxHeartbeats 8000000 in
set_option maxRecDepth 100000 in
theorem impl_TableRight.calls (k : Nat) (a0_0 : Int) (a0_1 : Int) (A0_2 : Option Addr) (c0_2 : Nat) (l0_2 : List (S34)) (r : Bool) (w : World) (hr0_2 : Kd.C k34 w A0_2 l0_2.length l0_2) (hc0_2 : l0_2.length ≤ c0_2) (h : impl_TableRight.f k a0_0 a0_1 l0_2 = some r) :
    Calls Tryd.prog 60 #[.agg #[.int .i64 a0_0, .int .i64 a0_1, .slice A0_2 l0_2.length c0_2]] w fun e w' => e = .returned (.bool r) ∧ Below w.heap.size w w' := by
  have hu38 := Tryd.underlying38
  have hu34 := Tryd.underlying34
  have HR0_2 := Aside0.mk hr0_2
  have HC0_2 := Aside0.mk hc0_2
  clear hr0_2 hc0_2
  have HB := Aside0.mk (Below.refl w.heap.size w)
  have H : ((impl_between.f a0_0 1 1000000).bind fun t545 => (if t545 = true then ((impl_between.f a0_1 0 1000000).bind fun t546 => (if t546 = true then (impl_TableRight.j0 k (decide ((l0_2.length : Int) > 20)) a0_0 a0_1 l0_2) else (impl_TableRight.j0 k true a0_0 a0_1 l0_2))) else (impl_TableRight.j0 k true a0_0 a0_1 l0_2))) = some r := h
  clear h
  have HC2 := Aside0.mk H
  clear H
  go_enter Tryd.func60, Tryd.ntmps60
  go_upto_region 1 with (first | ((with_reducible refine gate_dst (N := 1) rfl ?_); (try (refine gate_guard (by rfl) ?_; dsimp only)); refine box_event ?hg (N := 1) ?hd (cs := #[.int .i64 a0_0, .int .i64 a0_1, .slice A0_2 l0_2.length c0_2]) (t := 38) ?hr ?_; (case hd => rfl); (case hg => rfl); (case hr => first | (go_simp; done) | (go_simp; rfl)); intro gb544 hg w3 hbox hb; have n0_ := Aside0.mk (below_step By hb); have n1_ := Aside0.mk (hbox); have n2_ := Aside0.mk ((by rw [hg]; exact (below_size By) : w.heap.size ≤ gb544)); have n3_ := Aside0.mk ((by rw [hg]; exact (below_size By) : w.heap.size ≤ gb544)); clear HB; have HB := n0_; have BK544 := n1_; have GW544 := n2_; have GE544 := n3_; clear n0_ n1_ n2_ n3_; clear hb hbox hg))
  (try simp only [Act.put, List.setIfInBounds_toArray, List.set_cons_zero, List.set_cons_succ])
  go_cut [22] (fun v22 wc => ∃ (kq : Nat) (x22_1 : Bool), v22 = .bool x22_1 ∧ Aside0 (impl_TableRight.j0 kq x22_1 a0_0 a0_1 l0_2 = some r) ∧ Aside0 (kq ≤ k) ∧ Aside0 (wc.heap[gb544]? = some (.cells #[.int .i64 a0_0, .int .i64 a0_1, (.slice A0_2 l0_2.length c0_2)] 38 (0, 0))) ∧ Aside0 (Below w.heap.size w wc))
  case first =>
    have H := HC2.out
    clear HC2
    replace H := Option.bind_eq_some_iff.mp H
    obtain ⟨t545, A40, H⟩ := H
    replace H : (if t545 = true then ((impl_between.f a0_1 0 1000000).bind fun t546 => (if t546 = true then (impl_TableRight.j0 k (decide ((l0_2.length : Int) > 20)) a0_0 a0_1 l0_2) else (impl_TableRight.j0 k true a0_0 a0_1 l0_2))) else (impl_TableRight.j0 k true a0_0 a0_1 l0_2)) = some r := H
    have A4 := Aside0.mk A40
    clear A40
    by_cases c5 : t545 = true
    · subst c5
      have H1 : ((impl_between.f a0_1 0 1000000).bind fun t546 => (if t546 = true then (impl_TableRight.j0 k (decide ((l0_2.length : Int) > 20)) a0_0 a0_1 l0_2) else (impl_TableRight.j0 k true a0_0 a0_1 l0_2))) = some r := by rw [if_pos rfl] at H; exact H
      clear H
      have H := H1
      clear H1
      replace H := Option.bind_eq_some_iff.mp H
      obtain ⟨t546, A60, H⟩ := H
      replace H : (if t546 = true then (impl_TableRight.j0 k (decide ((l0_2.length : Int) > 20)) a0_0 a0_1 l0_2) else (impl_TableRight.j0 k true a0_0 a0_1 l0_2)) = some r := H
      have A6 := Aside0.mk A60
      clear A60
      by_cases c7 : t546 = true
      · subst c7
        have H1 : (impl_TableRight.j0 k (decide ((l0_2.length : Int) > 20)) a0_0 a0_1 l0_2) = some r := by rw [if_pos rfl] at H; exact H
        clear H
        have H := H1
        clear H1
        have H' := Aside0.mk H
        clear H
        have hcz8_0 : w3.cell? ⟨gb544, 0, none⟩ = some (.int .i64 a0_0) := bc BK544.out 0
        have hcz8_1 : w3.cell? ⟨gb544, 1, none⟩ = some (.int .i64 a0_1) := bc BK544.out 1
        have hcz8_2 : w3.cell? ⟨gb544, 2, none⟩ = some (.slice A0_2 l0_2.length c0_2) := bc BK544.out 2
        have hfz8_0 := blk_frozen BK544.out 0
        have hfz8_1 := blk_frozen BK544.out 1
        have hfz8_2 := blk_frozen BK544.out 2
        go_wp2_with (first | ((with_reducible refine gate_callee (f := 77) rfl ?_); refine goesL_ (some 9) rfl rfl Tryd.func77 (by kernel_rfl) rfl #[.int .i64 a0_0, .int .i64 1, .int .i64 1000000] rfl Ag ?_; (with_reducible refine (impl_between.calls a0_0 1 1000000 true _ A4.out).mono ?_); rintro e w' ⟨rfl, ⟨nd, rfl⟩⟩; refine ⟨_, rfl, ?_⟩) | (go_at_call 77; (with_reducible refine (impl_between.calls a0_1 0 1000000 true _ A6.out).mono ?_); rintro e w' ⟨rfl, ⟨nd, rfl⟩⟩))
        go_meet
        case rel => exact ⟨_, (decide ((l0_2.length : Int) > 20)), (by first | rfl | (simp; done) | (simp [*]; done)), H', ⟨by first | omega | exact Nat.le_refl _⟩, ⟨by (with_reducible repeat (first | refine blk_drewN ?_ _ | refine blk_drew ?_ | refine blk_alloc ?_ _)); exact BK544.out⟩, ⟨By⟩⟩
      · replace c7 := Bool.eq_false_iff.mpr c7
        subst c7
        have H1 : (impl_TableRight.j0 k true a0_0 a0_1 l0_2) = some r := by rw [if_neg (show ¬ (false = true) by decide)] at H; exact H
        clear H
        have H := H1
        clear H1
        have H' := Aside0.mk H
        clear H
        have hcz9_0 : w3.cell? ⟨gb544, 0, none⟩ = some (.int .i64 a0_0) := bc BK544.out 0
        have hcz9_1 : w3.cell? ⟨gb544, 1, none⟩ = some (.int .i64 a0_1) := bc BK544.out 1
        have hcz9_2 : w3.cell? ⟨gb544, 2, none⟩ = some (.slice A0_2 l0_2.length c0_2) := bc BK544.out 2
        have hfz9_0 := blk_frozen BK544.out 0
        have hfz9_1 := blk_frozen BK544.out 1
        have hfz9_2 := blk_frozen BK544.out 2
        go_wp2_with (first | ((with_reducible refine gate_callee (f := 77) rfl ?_); refine goesL_ (some 9) rfl rfl Tryd.func77 (by kernel_rfl) rfl #[.int .i64 a0_0, .int .i64 1, .int .i64 1000000] rfl Ag ?_; (with_reducible refine (impl_between.calls a0_0 1 1000000 true _ A4.out).mono ?_); rintro e w' ⟨rfl, ⟨nd, rfl⟩⟩; refine ⟨_, rfl, ?_⟩) | (go_at_call 77; (with_reducible refine (impl_between.calls a0_1 0 1000000 false _ A6.out).mono ?_); rintro e w' ⟨rfl, ⟨nd, rfl⟩⟩))
        go_meet
        case rel => exact ⟨_, (true), (by first | rfl | (simp; done) | (simp [*]; done)), H', ⟨by first | omega | exact Nat.le_refl _⟩, ⟨by (with_reducible repeat (first | refine blk_drewN ?_ _ | refine blk_drew ?_ | refine blk_alloc ?_ _)); exact BK544.out⟩, ⟨By⟩⟩
    · replace c5 := Bool.eq_false_iff.mpr c5
      subst c5
      have H1 : (impl_TableRight.j0 k true a0_0 a0_1 l0_2) = some r := by rw [if_neg (show ¬ (false = true) by decide)] at H; exact H
      clear H
      have H := H1
      clear H1
      have H' := Aside0.mk H
      clear H
      have hcz10_0 : w3.cell? ⟨gb544, 0, none⟩ = some (.int .i64 a0_0) := bc BK544.out 0
      have hcz10_1 : w3.cell? ⟨gb544, 1, none⟩ = some (.int .i64 a0_1) := bc BK544.out 1
      have hcz10_2 : w3.cell? ⟨gb544, 2, none⟩ = some (.slice A0_2 l0_2.length c0_2) := bc BK544.out 2
      have hfz10_0 := blk_frozen BK544.out 0
      have hfz10_1 := blk_frozen BK544.out 1
      have hfz10_2 := blk_frozen BK544.out 2
      go_wp2_with (first | ((with_reducible refine gate_callee (f := 77) rfl ?_); refine goesL_ (some 9) rfl rfl Tryd.func77 (by kernel_rfl) rfl #[.int .i64 a0_0, .int .i64 1, .int .i64 1000000] rfl Ag ?_; (with_reducible refine (impl_between.calls a0_0 1 1000000 false _ A4.out).mono ?_); rintro e w' ⟨rfl, ⟨nd, rfl⟩⟩; refine ⟨_, rfl, ?_⟩))
      go_meet
      case rel => exact ⟨_, (true), (by first | rfl | (simp; done) | (simp [*]; done)), H', ⟨by first | omega | exact Nat.le_refl _⟩, ⟨by (with_reducible repeat (first | refine blk_drewN ?_ _ | refine blk_drew ?_ | refine blk_alloc ?_ _)); exact BK544.out⟩, ⟨By⟩⟩
  case rest =>
    clear HC2
    try clear p2
    try clear c5
    try clear c6
    try clear c7
    try clear hcz10_0
    try clear hcz10_1
    try clear hcz10_2
    try clear hcz8_0
    try clear hcz8_1
    try clear hcz8_2
    try clear hcz9_0
    try clear hcz9_1
    try clear hcz9_2
    try clear hfz10_0
    try clear hfz10_1
    try clear hfz10_2
    try clear hfz8_0
    try clear hfz8_1
    try clear hfz8_2
    try clear hfz9_0
    try clear hfz9_1
    try clear hfz9_2
    obtain ⟨kq, x22_1, rfl, HA, HJ1, BK544, HB⟩ := hcut
    cases kq with
    | zero => exact absurd HA.out (by simp [impl_TableRight.j0])
    | succ kj1 =>
      have H := HA.out
      clear HA
      simp only [impl_TableRight.j0] at H
      by_cases c11 : x22_1 = true
      · subst c11
        have H1 : (some false) = some r := by rw [if_pos rfl] at H; exact H
        clear H
        have H := H1
        clear H1
        obtain rfl := Option.some.inj H
        go_wp2
        go_ret
        exact ⟨Rf, By⟩
      · replace c11 := Bool.eq_false_iff.mpr c11
        subst c11
        have H1 : (impl_TableRight.l0 kj1 l0_2 (l0_2.length : Int) 0 a0_0 a0_1 l0_2) = some r := by rw [if_neg (show ¬ (false = true) by decide)] at H; exact H
        clear H
        have H := H1
        clear H1
        have H' := Aside0.mk H
        clear H
        have hcz12_0 : wc.cell? ⟨gb544, 0, none⟩ = some (.int .i64 a0_0) := bc BK544.out 0
        have hcz12_1 : wc.cell? ⟨gb544, 1, none⟩ = some (.int .i64 a0_1) := bc BK544.out 1
        have hcz12_2 : wc.cell? ⟨gb544, 2, none⟩ = some (.slice A0_2 l0_2.length c0_2) := bc BK544.out 2
        have hfz12_0 := blk_frozen BK544.out 0
        have hfz12_1 := blk_frozen BK544.out 1
        have hfz12_2 := blk_frozen BK544.out 2
        go_wp2
        go_loopg [26] kj1 (fun kq v26 w' => ∃ (x26_2 : Int), v26 = .int .i64 x26_2 ∧ Aside0 (impl_TableRight.l0 kq l0_2 (l0_2.length : Int) x26_2 a0_0 a0_1 l0_2 = some r) ∧ Aside0 (kq ≤ kj1) ∧ Aside0 (w'.heap[gb544]? = some (.cells #[.int .i64 a0_0, .int .i64 a0_1, (.slice A0_2 l0_2.length c0_2)] 38 (0, 0))) ∧ Aside0 (Below w.heap.size w w'))
        case atStart => exact ⟨(0), (by first | rfl | (simp; done) | (simp [*]; done)), H', ⟨Nat.le_refl _⟩, ⟨by (with_reducible repeat (first | refine blk_drewN ?_ _ | refine blk_drew ?_ | refine blk_alloc ?_ _)); exact BK544.out⟩, ⟨By⟩⟩
        case round =>
          clear H'
          try clear c1
          try clear p2
          try clear c5
          try clear c6
          try clear c7
          try clear c11
          try clear hcz10_0
          try clear hcz10_1
          try clear hcz10_2
          try clear hcz12_0
          try clear hcz12_1
          try clear hcz12_2
          try clear hcz8_0
          try clear hcz8_1
          try clear hcz8_2
          try clear hcz9_0
          try clear hcz9_1
          try clear hcz9_2
          try clear hfz10_0
          try clear hfz10_1
          try clear hfz10_2
          try clear hfz12_0
          try clear hfz12_1
          try clear hfz12_2
          try clear hfz8_0
          try clear hfz8_1
          try clear hfz8_2
          try clear hfz9_0
          try clear hfz9_1
          try clear hfz9_2
          try clear p2
          obtain ⟨x26_2, rfl, HA, HK2, BK544, HB⟩ := hrel
          cases gk with
          | zero => exact absurd HA.out (by simp [impl_TableRight.l0])
          | succ k2 =>
            have H := HA.out
            clear HA
            simp only [impl_TableRight.l0] at H
            by_cases c13 : x26_2 < (l0_2.length : Int)
            · rw [if_pos c13] at H
              have c13b0 : decide (x26_2 < (l0_2.length : Int)) = true := decide_eq_true c13
              clear c13
              by_cases c14 : 0 ≤ x26_2
              · rw [if_pos c14] at H
                have c14b0 : decide (0 ≤ x26_2) = true := decide_eq_true c14
                clear c14
                by_cases c15 : x26_2 < (l0_2.length : Int)
                · rw [if_pos c15] at H
                  have c15b0 : decide (x26_2 < (l0_2.length : Int)) = true := decide_eq_true c15
                  clear c15
                  have HC16 := Aside0.mk H
                  clear H
                  have p547 : 0 ≤ (x26_2 : Int) := of_decide_eq_true Da
                  have q547 : x26_2 < (l0_2.length : Int) := of_decide_eq_true Da
                  obtain ⟨ad547, e547, hx547_0, hx547_1, hx547_2, hx547_3, hx547_4, hx547_5, hx547_6⟩ := at_T34 HR0_2.out x26_2 p547 q547
                  cases e547
                  replace hx547_0 := bz HB.out hx547_0
                  replace hx547_1 := bz HB.out hx547_1
                  replace hx547_2 := bz HB.out hx547_2
                  replace hx547_3 := bz HB.out hx547_3
                  replace hx547_4 := bz HB.out hx547_4
                  replace hx547_5 := bz HB.out hx547_5
                  replace hx547_6 := bz HB.out hx547_6
                  replace p547 := eq_true p547
                  replace q547 := eq_true q547
                  go_upto_region 6 with (first | ((with_reducible refine gate_dst (N := 4) rfl ?_); (try (refine gate_guard (by rfl) ?_; dsimp only)); refine box_event ?hg (N := 4) ?hd (cs := #[.int .i64 0, .string (⟨#[]⟩ : ByteArray), .string (⟨#[]⟩ : ByteArray), .string (⟨#[]⟩ : ByteArray), .bool false, .int .i64 0, .bool false]) (t := 34) ?hr ?_; (case hd => rfl); (case hg => rfl); (case hr => first | (go_simp; done) | (go_simp; rfl)); intro gb548 hg w17 hbox hb; have n0_ := Aside0.mk (bb BK544.out hb); have n1_ := Aside0.mk (below_step By hb); have n2_ := Aside0.mk (hbox); have n3_ := Aside0.mk ((by rw [hg]; exact (below_size By) : w.heap.size ≤ gb548)); have n4_ := Aside0.mk ((by rw [hg]; exact (below_size By) : w.heap.size ≤ gb548)); have n5_ := Aside0.mk ((by rw [hg]; exact Nat.ne_of_lt (bl BK544.out) : gb544 ≠ gb548)); have n6_ := Aside0.mk ((by rw [hg]; exact Nat.ne_of_gt (bl BK544.out) : gb548 ≠ gb544)); clear BK544; clear HB; have BK544 := n0_; have HB := n1_; have BK548 := n2_; have GW548 := n3_; have GE548 := n4_; have NB544_548 := n5_; have NB548_544 := n6_; clear n0_ n1_ n2_ n3_ n4_ n5_ n6_; clear hb hbox hg; have hnb18 := NB548_544.out; have hnc18 := NB544_548.out; have ⟨hcz19_0, hcz19_1, hcz19_2, hcz19_3, hcz19_4, hcz19_5, hcz19_6⟩ := cq7 BK548.out; have ⟨hfz19_0, hfz19_1, hfz19_2, hfz19_3, hfz19_4, hfz19_5, hfz19_6⟩ := fq7 BK548.out))
                  (try simp only [Act.put, List.setIfInBounds_toArray, List.set_cons_zero, List.set_cons_succ])
                  go_cut [53] (fun v53 wc => ∃ (kq : Nat) (x53_15 : Bool), v53 = .bool x53_15 ∧ Aside0 (impl_TableRight.j2 kq x26_2 l0_2 (l0_2.length : Int) x26_2 x53_15 a0_0 a0_1 l0_2 ((rd_T34 l0_2 x26_2).f0) ((rd_T34 l0_2 x26_2).f1) ((rd_T34 l0_2 x26_2).f2) ((rd_T34 l0_2 x26_2).f3) ((rd_T34 l0_2 x26_2).f4) ((rd_T34 l0_2 x26_2).f5) ((rd_T34 l0_2 x26_2).f6) = some r) ∧ Aside0 (kq ≤ k2) ∧ Aside0 (wc.heap[gb544]? = some (.cells #[.int .i64 a0_0, .int .i64 a0_1, (.slice (some ad547) l0_2.length c0_2)] 38 (0, 0))) ∧ Aside0 (wc.heap[gb548]? = some (.cells #[.int .i64 ((rd_T34 l0_2 x26_2).f0), .string ((rd_T34 l0_2 x26_2).f1), .string ((rd_T34 l0_2 x26_2).f2), .string ((rd_T34 l0_2 x26_2).f3), .bool ((rd_T34 l0_2 x26_2).f4), .int .i64 ((rd_T34 l0_2 x26_2).f5), .bool ((rd_T34 l0_2 x26_2).f6)] 34 (0, 0))) ∧ Aside0 (Below w.heap.size w wc))
                  case first =>
                    have H := HC16.out
                    clear HC16
                    replace H := Option.bind_eq_some_iff.mp H
                    obtain ⟨t549, A200, H⟩ := H
                    replace H : (if t549 = true then (if x26_2 > 0 then (if 0 ≤ (wrap64 (x26_2 - 1)) then (if (wrap64 (x26_2 - 1)) < (l0_2.length : Int) then (impl_TableRight.j2 k2 x26_2 l0_2 (l0_2.length : Int) x26_2 (decide (((rd_T34 l0_2 (wrap64 (x26_2 - 1))).f0) ≥ ((rd_T34 l0_2 x26_2).f0))) a0_0 a0_1 l0_2 ((rd_T34 l0_2 x26_2).f0) ((rd_T34 l0_2 x26_2).f1) ((rd_T34 l0_2 x26_2).f2) ((rd_T34 l0_2 x26_2).f3) ((rd_T34 l0_2 x26_2).f4) ((rd_T34 l0_2 x26_2).f5) ((rd_T34 l0_2 x26_2).f6)) else (none)) else (none)) else (impl_TableRight.j2 k2 x26_2 l0_2 (l0_2.length : Int) x26_2 false a0_0 a0_1 l0_2 ((rd_T34 l0_2 x26_2).f0) ((rd_T34 l0_2 x26_2).f1) ((rd_T34 l0_2 x26_2).f2) ((rd_T34 l0_2 x26_2).f3) ((rd_T34 l0_2 x26_2).f4) ((rd_T34 l0_2 x26_2).f5) ((rd_T34 l0_2 x26_2).f6))) else (impl_TableRight.j2 k2 x26_2 l0_2 (l0_2.length : Int) x26_2 true a0_0 a0_1 l0_2 ((rd_T34 l0_2 x26_2).f0) ((rd_T34 l0_2 x26_2).f1) ((rd_T34 l0_2 x26_2).f2) ((rd_T34 l0_2 x26_2).f3) ((rd_T34 l0_2 x26_2).f4) ((rd_T34 l0_2 x26_2).f5) ((rd_T34 l0_2 x26_2).f6))) = some r := H
                    have A20 := Aside0.mk A200
                    clear A200
                    by_cases c21 : t549 = true
                    · subst c21
                      have H1 : (if x26_2 > 0 then (if 0 ≤ (wrap64 (x26_2 - 1)) then (if (wrap64 (x26_2 - 1)) < (l0_2.length : Int) then (impl_TableRight.j2 k2 x26_2 l0_2 (l0_2.length : Int) x26_2 (decide (((rd_T34 l0_2 (wrap64 (x26_2 - 1))).f0) ≥ ((rd_T34 l0_2 x26_2).f0))) a0_0 a0_1 l0_2 ((rd_T34 l0_2 x26_2).f0) ((rd_T34 l0_2 x26_2).f1) ((rd_T34 l0_2 x26_2).f2) ((rd_T34 l0_2 x26_2).f3) ((rd_T34 l0_2 x26_2).f4) ((rd_T34 l0_2 x26_2).f5) ((rd_T34 l0_2 x26_2).f6)) else (none)) else (none)) else (impl_TableRight.j2 k2 x26_2 l0_2 (l0_2.length : Int) x26_2 false a0_0 a0_1 l0_2 ((rd_T34 l0_2 x26_2).f0) ((rd_T34 l0_2 x26_2).f1) ((rd_T34 l0_2 x26_2).f2) ((rd_T34 l0_2 x26_2).f3) ((rd_T34 l0_2 x26_2).f4) ((rd_T34 l0_2 x26_2).f5) ((rd_T34 l0_2 x26_2).f6))) = some r := by rw [if_pos rfl] at H; exact H
                      clear H
                      have H := H1
                      clear H1
                      by_cases c22 : x26_2 > 0
                      · rw [if_pos c22] at H
                        have c22b0 : decide (0 < x26_2) = true := decide_eq_true c22
                        clear c22
                        (first | rw [c22b0] | (simp only [i64_w, i32_w]; rw [c22b0]) | skip)
                        obtain ⟨ji23, hji23⟩ : ∃ j_ : Int, (wrap64 (x26_2 - 1)) = j_ := ⟨_, rfl⟩
                        replace H : (if 0 ≤ (ji23) then (if (ji23) < (l0_2.length : Int) then (impl_TableRight.j2 k2 x26_2 l0_2 (l0_2.length : Int) x26_2 (decide (((rd_T34 l0_2 (ji23)).f0) ≥ ((rd_T34 l0_2 x26_2).f0))) a0_0 a0_1 l0_2 ((rd_T34 l0_2 x26_2).f0) ((rd_T34 l0_2 x26_2).f1) ((rd_T34 l0_2 x26_2).f2) ((rd_T34 l0_2 x26_2).f3) ((rd_T34 l0_2 x26_2).f4) ((rd_T34 l0_2 x26_2).f5) ((rd_T34 l0_2 x26_2).f6)) else (none)) else (none)) = some r := by first | (rw [hji23] at H; exact H) | (simp only [hji23] at H ⊢; exact H)
                        (try rw [hji23] at A20)
                        have hji23w : (IntKind.i64.wrap (x26_2 - 1)) = ji23 := (i64_w _).trans hji23
                        by_cases c24 : 0 ≤ (ji23)
                        · rw [if_pos c24] at H
                          have c24b0 : decide (0 ≤ (ji23)) = true := decide_eq_true c24
                          clear c24
                          by_cases c25 : (ji23) < (l0_2.length : Int)
                          · rw [if_pos c25] at H
                            have c25b0 : decide ((ji23) < (l0_2.length : Int)) = true := decide_eq_true c25
                            clear c25
                            have H' := Aside0.mk H
                            clear H
                            try go_wp2
                            have n0_ : Aside0 ((((((((w17.setCell ⟨gb548, 0, none⟩ (.int .i64 ((rd_T34 l0_2 x26_2).f0))).setCell ⟨gb548, 1, none⟩ (.string ((rd_T34 l0_2 x26_2).f1))).setCell ⟨gb548, 2, none⟩ (.string ((rd_T34 l0_2 x26_2).f2))).setCell ⟨gb548, 3, none⟩ (.string ((rd_T34 l0_2 x26_2).f3))).setCell ⟨gb548, 4, none⟩ (.bool ((rd_T34 l0_2 x26_2).f4))).setCell ⟨gb548, 5, none⟩ (.int .i64 ((rd_T34 l0_2 x26_2).f5))).setCell ⟨gb548, 6, none⟩ (.bool ((rd_T34 l0_2 x26_2).f6))).heap[gb544]? = some (.cells #[.int .i64 a0_0, .int .i64 a0_1, .slice (some ad547) l0_2.length c0_2] 38 (0, 0))) := ⟨Fr⟩
                            have n1_ : Aside0 ((((((((w17.setCell ⟨gb548, 0, none⟩ (.int .i64 ((rd_T34 l0_2 x26_2).f0))).setCell ⟨gb548, 1, none⟩ (.string ((rd_T34 l0_2 x26_2).f1))).setCell ⟨gb548, 2, none⟩ (.string ((rd_T34 l0_2 x26_2).f2))).setCell ⟨gb548, 3, none⟩ (.string ((rd_T34 l0_2 x26_2).f3))).setCell ⟨gb548, 4, none⟩ (.bool ((rd_T34 l0_2 x26_2).f4))).setCell ⟨gb548, 5, none⟩ (.int .i64 ((rd_T34 l0_2 x26_2).f5))).setCell ⟨gb548, 6, none⟩ (.bool ((rd_T34 l0_2 x26_2).f6))).heap[gb548]? = some (.cells #[.int .i64 ((rd_T34 l0_2 x26_2).f0), .string ((rd_T34 l0_2 x26_2).f1), .string ((rd_T34 l0_2 x26_2).f2), .string ((rd_T34 l0_2 x26_2).f3), .bool ((rd_T34 l0_2 x26_2).f4), .int .i64 ((rd_T34 l0_2 x26_2).f5), .bool ((rd_T34 l0_2 x26_2).f6)] 34 (0, 0))) := ⟨(pq7 Pk)⟩
                            have n2_ : Aside0 (Below w.heap.size w (((((((w17.setCell ⟨gb548, 0, none⟩ (.int .i64 ((rd_T34 l0_2 x26_2).f0))).setCell ⟨gb548, 1, none⟩ (.string ((rd_T34 l0_2 x26_2).f1))).setCell ⟨gb548, 2, none⟩ (.string ((rd_T34 l0_2 x26_2).f2))).setCell ⟨gb548, 3, none⟩ (.string ((rd_T34 l0_2 x26_2).f3))).setCell ⟨gb548, 4, none⟩ (.bool ((rd_T34 l0_2 x26_2).f4))).setCell ⟨gb548, 5, none⟩ (.int .i64 ((rd_T34 l0_2 x26_2).f5))).setCell ⟨gb548, 6, none⟩ (.bool ((rd_T34 l0_2 x26_2).f6)))) := ⟨By⟩
                            (try clear BK544)
                            (try clear BK548)
                            (try clear HB)
                            generalize (((((((w17.setCell ⟨gb548, 0, none⟩ (.int .i64 ((rd_T34 l0_2 x26_2).f0))).setCell ⟨gb548, 1, none⟩ (.string ((rd_T34 l0_2 x26_2).f1))).setCell ⟨gb548, 2, none⟩ (.string ((rd_T34 l0_2 x26_2).f2))).setCell ⟨gb548, 3, none⟩ (.string ((rd_T34 l0_2 x26_2).f3))).setCell ⟨gb548, 4, none⟩ (.bool ((rd_T34 l0_2 x26_2).f4))).setCell ⟨gb548, 5, none⟩ (.int .i64 ((rd_T34 l0_2 x26_2).f5))).setCell ⟨gb548, 6, none⟩ (.bool ((rd_T34 l0_2 x26_2).f6))) = w26 at n0_ n1_ n2_ ⊢
                            have BK544 := n0_
                            have BK548 := n1_
                            have HB := n2_
                            clear n0_ n1_ n2_
                            have n0_ := Aside0.mk (blk_drew BK544.out)
                            have n1_ := Aside0.mk (blk_drew BK548.out)
                            have n2_ := Aside0.mk (below_drew1 HB.out)
                            clear BK544
                            clear BK548
                            clear HB
                            have BK544 := n0_
                            have BK548 := n1_
                            have HB := n2_
                            clear n0_ n1_ n2_
                            have p550 : 0 ≤ ((ji23) : Int) := of_decide_eq_true Da
                            have q550 : (ji23) < (l0_2.length : Int) := of_decide_eq_true Da
                            obtain ⟨ad550, e550, hx550_0, hx550_1, hx550_2, hx550_3, hx550_4, hx550_5, hx550_6⟩ := at_T34 HR0_2.out (ji23) p550 q550
                            have hw550_6 := hx550_6
                            have hw550_5 := hx550_5
                            have hw550_4 := hx550_4
                            have hw550_3 := hx550_3
                            have hw550_2 := hx550_2
                            have hw550_1 := hx550_1
                            have hw550_0 := hx550_0
                            obtain rfl : ad547 = ad550 := (by injection e550)
                            replace hx550_0 := bz HB.out hx550_0
                            replace hx550_1 := bz HB.out hx550_1
                            replace hx550_2 := bz HB.out hx550_2
                            replace hx550_3 := bz HB.out hx550_3
                            replace hx550_4 := bz HB.out hx550_4
                            replace hx550_5 := bz HB.out hx550_5
                            replace hx550_6 := bz HB.out hx550_6
                            replace p550 := eq_true p550
                            replace q550 := eq_true q550
                            refine start_ (n := 23) (S := fun w' => w'.cell? ⟨gb548, 0, none⟩ = some (.int .i64 ((rd_T34 l0_2 x26_2).f0)) ∧ w'.cell? ⟨gb548, 1, none⟩ = some (.string ((rd_T34 l0_2 x26_2).f1)) ∧ w'.cell? ⟨gb548, 2, none⟩ = some (.string ((rd_T34 l0_2 x26_2).f2)) ∧ w'.cell? ⟨gb548, 3, none⟩ = some (.string ((rd_T34 l0_2 x26_2).f3)) ∧ w'.cell? ⟨gb548, 4, none⟩ = some (.bool ((rd_T34 l0_2 x26_2).f4)) ∧ w'.cell? ⟨gb548, 5, none⟩ = some (.int .i64 ((rd_T34 l0_2 x26_2).f5)) ∧ w'.cell? ⟨gb548, 6, none⟩ = some (.bool ((rd_T34 l0_2 x26_2).f6)) ∧ w'.cell? ⟨gb544, 0, none⟩ = some (.int .i64 a0_0) ∧ w'.cell? ⟨gb544, 1, none⟩ = some (.int .i64 a0_1) ∧ w'.cell? ⟨gb544, 2, none⟩ = some (.slice (some ad547) l0_2.length c0_2) ∧ w'.cell? (ad547.add (((ji23)).toNat * 7)) = some (.int .i64 ((rd_T34 l0_2 (ji23)).f0)) ∧ w'.cell? ⟨(ad547.add (((ji23)).toNat * 7)).block, (ad547.add (((ji23)).toNat * 7)).off + 1, none⟩ = some (.string ((rd_T34 l0_2 (ji23)).f1)) ∧ w'.cell? ⟨(ad547.add (((ji23)).toNat * 7)).block, (ad547.add (((ji23)).toNat * 7)).off + 2, none⟩ = some (.string ((rd_T34 l0_2 (ji23)).f2)) ∧ w'.cell? ⟨(ad547.add (((ji23)).toNat * 7)).block, (ad547.add (((ji23)).toNat * 7)).off + 3, none⟩ = some (.string ((rd_T34 l0_2 (ji23)).f3)) ∧ w'.cell? ⟨(ad547.add (((ji23)).toNat * 7)).block, (ad547.add (((ji23)).toNat * 7)).off + 4, none⟩ = some (.bool ((rd_T34 l0_2 (ji23)).f4)) ∧ w'.cell? ⟨(ad547.add (((ji23)).toNat * 7)).block, (ad547.add (((ji23)).toNat * 7)).off + 5, none⟩ = some (.int .i64 ((rd_T34 l0_2 (ji23)).f5)) ∧ w'.cell? ⟨(ad547.add (((ji23)).toNat * 7)).block, (ad547.add (((ji23)).toNat * 7)).off + 6, none⟩ = some (.bool ((rd_T34 l0_2 (ji23)).f6))) (ds := []) (bv 23 0) (by kernel_rfl) rfl rfl ⟨bc BK548.out 0, bc BK548.out 1, bc BK548.out 2, bc BK548.out 3, bc BK548.out 4, bc BK548.out 5, bc BK548.out 6, bc BK544.out 0, bc BK544.out 1, bc BK544.out 2, (bz HB.out hw550_0), (bz HB.out hw550_1), (bz HB.out hw550_2), (bz HB.out hw550_3), (bz HB.out hw550_4), (bz HB.out hw550_5), (bz HB.out hw550_6)⟩ (fun hHeld => ?_); refine with_tabW impl_TableRight.tab6 impl_TableRight.bits6 (fun HT_ HW_ => ?_)
                            generalize w26.drew = w27 at BK544 BK548 HB hx550_0 hx550_1 hx550_2 hx550_3 hx550_4 hx550_5 hx550_6 hHeld ⊢
                            refine pu 1 32 (bv 23 2) HT_.out (h := ?_)
                            refine pu 3 34 (bv 23 10) HT_.out (h := ?_)
                            refine tk 0 31 (bv 23 11) HT_.out HW_.out hHeld (h := ?_)
                            refine tk 2 33 (bv 23 15) HT_.out HW_.out hHeld (h := ?_)
                            refine tk 4 35 (bv 23 31) HT_.out HW_.out hHeld (h := ?_)
                            refine one_ (i := 5) (N := some 36) (bv 23 63) rfl rfl (one_of HT_.out (by kernel_rfl)) (by decide) (fun K hK => ?_)
                            refine goes_ Tryd.func112 (by kernel_rfl) rfl #[.agg #[.int .i64 ((rd_T34 l0_2 x26_2).f0), .string ((rd_T34 l0_2 x26_2).f1), .string ((rd_T34 l0_2 x26_2).f2), .string ((rd_T34 l0_2 x26_2).f3), .bool ((rd_T34 l0_2 x26_2).f4), .int .i64 ((rd_T34 l0_2 x26_2).f5), .bool ((rd_T34 l0_2 x26_2).f6)], .int .i64 a0_0, .int .i64 a0_1] (by rfl) rfl rfl Ag ?_
                            with_reducible refine (impl_isRow.calls k2 ((rd_T34 l0_2 x26_2).f0) ((rd_T34 l0_2 x26_2).f1) ((rd_T34 l0_2 x26_2).f2) ((rd_T34 l0_2 x26_2).f3) ((rd_T34 l0_2 x26_2).f4) ((rd_T34 l0_2 x26_2).f5) ((rd_T34 l0_2 x26_2).f6) a0_0 a0_1 true _ A20.out).mono ?_
                            rintro e w28 ⟨rfl, hb⟩
                            refine ⟨_, rfl, ?_⟩
                            have n0_ := Aside0.mk (bb BK544.out hb)
                            have n1_ := Aside0.mk (bb BK548.out hb)
                            have n2_ := Aside0.mk (below_step By hb)
                            clear BK544
                            clear BK548
                            clear HB
                            have BK544 := n0_
                            have BK548 := n1_
                            have HB := n2_
                            clear n0_ n1_ n2_
                            (try clear hb)
                            (try clear hb2)
                            (try clear hk)
                            (try clear hi)
                            refine hK.out _ _ ⟨bc BK548.out 0, bc BK548.out 1, bc BK548.out 2, bc BK548.out 3, bc BK548.out 4, bc BK548.out 5, bc BK548.out 6, bc BK544.out 0, bc BK544.out 1, bc BK544.out 2, (bz HB.out hw550_0), (bz HB.out hw550_1), (bz HB.out hw550_2), (bz HB.out hw550_3), (bz HB.out hw550_4), (bz HB.out hw550_5), (bz HB.out hw550_6)⟩ (fun hHeld => ?_)
                            clear hK K
                            refine norm_ (a' := ?_) ?_ ?_
                            rotate_left
                            · show Act.put _ (some 36) _ = _
                              simp only [Act.put, List.setIfInBounds_toArray, List.set_cons_zero, List.set_cons_succ, i64_w, i32_w]
                              rfl
                            refine pu 6 37 (bv 23 127) HT_.out (h := ?_)
                            refine pu 7 38 (bv 23 255) HT_.out (h := ?_)
                            refine pu 8 39 (bv 23 511) HT_.out (h := ?_)
                            refine pu 9 40 (bv 23 1023) HT_.out (h := ?_)
                            refine pu 10 41 (bv 23 2047) HT_.out (h := ?_)
                            refine pu 11 42 (bv 23 4095) HT_.out (h := ?_)
                            refine pu 13 44 (bv 23 12287) HT_.out (h := ?_)
                            refine pu 14 45 (bv 23 28671) HT_.out (h := ?_)
                            refine pu 18 49 (bv 23 290815) HT_.out (h := ?_)
                            refine tk 12 43 (bv 23 294911) HT_.out HW_.out hHeld (h := ?_)
                            refine pu 15 46 (bv 23 327679) HT_.out (h := ?_)
                            refine pu 16 47 (bv 23 393215) HT_.out (h := ?_)
                            refine tk 17 48 (bv 23 524287) HT_.out HW_.out hHeld (h := ?_)
                            refine tk 19 50 (bv 23 1048575) HT_.out HW_.out hHeld (h := ?_)
                            refine pu 20 51 (bv 23 2097151) HT_.out (h := ?_)
                            refine pu 21 52 (bv 23 4194303) HT_.out (h := ?_)
                            refine pu 22 53 (bv 23 8388607) HT_.out (h := ?_)
                            refine done_ (done_of HT_.out (by kernel_rfl)) ?_
                            try go_wp2
                            go_meet
                            case rel => exact ⟨_, (decide (((rd_T34 l0_2 (ji23)).f0) ≥ ((rd_T34 l0_2 x26_2).f0))), (by first | rfl | (simp; done) | (simp only [← hji23] <;> (first | rfl | simp)) | (simp [*]; done)), H', ⟨by have := HJ1.out; have := HK2.out; first | omega | exact Nat.le_refl _⟩, ⟨by (with_reducible repeat (first | refine blk_drewN ?_ _ | refine blk_drew ?_ | refine blk_alloc ?_ _)); exact BK544.out⟩, ⟨by (with_reducible repeat (first | refine blk_drewN ?_ _ | refine blk_drew ?_ | refine blk_alloc ?_ _)); exact BK548.out⟩, ⟨By⟩⟩
                          · rw [if_neg c25] at H
                            exact absurd H (by simp)
                        · rw [if_neg c24] at H
                          exact absurd H (by simp)
                      · rw [if_neg c22] at H
                        have c22b0 : decide (0 < x26_2) = false := decide_eq_false c22
                        clear c22
                        (first | rw [c22b0] | (simp only [i64_w, i32_w]; rw [c22b0]) | skip)
                        have H' := Aside0.mk H
                        clear H
                        try go_wp2
                        have n0_ : Aside0 ((((((((w17.setCell ⟨gb548, 0, none⟩ (.int .i64 ((rd_T34 l0_2 x26_2).f0))).setCell ⟨gb548, 1, none⟩ (.string ((rd_T34 l0_2 x26_2).f1))).setCell ⟨gb548, 2, none⟩ (.string ((rd_T34 l0_2 x26_2).f2))).setCell ⟨gb548, 3, none⟩ (.string ((rd_T34 l0_2 x26_2).f3))).setCell ⟨gb548, 4, none⟩ (.bool ((rd_T34 l0_2 x26_2).f4))).setCell ⟨gb548, 5, none⟩ (.int .i64 ((rd_T34 l0_2 x26_2).f5))).setCell ⟨gb548, 6, none⟩ (.bool ((rd_T34 l0_2 x26_2).f6))).heap[gb544]? = some (.cells #[.int .i64 a0_0, .int .i64 a0_1, .slice (some ad547) l0_2.length c0_2] 38 (0, 0))) := ⟨Fr⟩
                        have n1_ : Aside0 ((((((((w17.setCell ⟨gb548, 0, none⟩ (.int .i64 ((rd_T34 l0_2 x26_2).f0))).setCell ⟨gb548, 1, none⟩ (.string ((rd_T34 l0_2 x26_2).f1))).setCell ⟨gb548, 2, none⟩ (.string ((rd_T34 l0_2 x26_2).f2))).setCell ⟨gb548, 3, none⟩ (.string ((rd_T34 l0_2 x26_2).f3))).setCell ⟨gb548, 4, none⟩ (.bool ((rd_T34 l0_2 x26_2).f4))).setCell ⟨gb548, 5, none⟩ (.int .i64 ((rd_T34 l0_2 x26_2).f5))).setCell ⟨gb548, 6, none⟩ (.bool ((rd_T34 l0_2 x26_2).f6))).heap[gb548]? = some (.cells #[.int .i64 ((rd_T34 l0_2 x26_2).f0), .string ((rd_T34 l0_2 x26_2).f1), .string ((rd_T34 l0_2 x26_2).f2), .string ((rd_T34 l0_2 x26_2).f3), .bool ((rd_T34 l0_2 x26_2).f4), .int .i64 ((rd_T34 l0_2 x26_2).f5), .bool ((rd_T34 l0_2 x26_2).f6)] 34 (0, 0))) := ⟨(pq7 Pk)⟩
                        have n2_ : Aside0 (Below w.heap.size w (((((((w17.setCell ⟨gb548, 0, none⟩ (.int .i64 ((rd_T34 l0_2 x26_2).f0))).setCell ⟨gb548, 1, none⟩ (.string ((rd_T34 l0_2 x26_2).f1))).setCell ⟨gb548, 2, none⟩ (.string ((rd_T34 l0_2 x26_2).f2))).setCell ⟨gb548, 3, none⟩ (.string ((rd_T34 l0_2 x26_2).f3))).setCell ⟨gb548, 4, none⟩ (.bool ((rd_T34 l0_2 x26_2).f4))).setCell ⟨gb548, 5, none⟩ (.int .i64 ((rd_T34 l0_2 x26_2).f5))).setCell ⟨gb548, 6, none⟩ (.bool ((rd_T34 l0_2 x26_2).f6)))) := ⟨By⟩
                        (try clear BK544)
                        (try clear BK548)
                        (try clear HB)
                        generalize (((((((w17.setCell ⟨gb548, 0, none⟩ (.int .i64 ((rd_T34 l0_2 x26_2).f0))).setCell ⟨gb548, 1, none⟩ (.string ((rd_T34 l0_2 x26_2).f1))).setCell ⟨gb548, 2, none⟩ (.string ((rd_T34 l0_2 x26_2).f2))).setCell ⟨gb548, 3, none⟩ (.string ((rd_T34 l0_2 x26_2).f3))).setCell ⟨gb548, 4, none⟩ (.bool ((rd_T34 l0_2 x26_2).f4))).setCell ⟨gb548, 5, none⟩ (.int .i64 ((rd_T34 l0_2 x26_2).f5))).setCell ⟨gb548, 6, none⟩ (.bool ((rd_T34 l0_2 x26_2).f6))) = w29 at n0_ n1_ n2_ ⊢
                        have BK544 := n0_
                        have BK548 := n1_
                        have HB := n2_
                        clear n0_ n1_ n2_
                        have n0_ := Aside0.mk (blk_drew BK544.out)
                        have n1_ := Aside0.mk (blk_drew BK548.out)
                        have n2_ := Aside0.mk (below_drew1 HB.out)
                        clear BK544
                        clear BK548
                        clear HB
                        have BK544 := n0_
                        have BK548 := n1_
                        have HB := n2_
                        clear n0_ n1_ n2_
                        refine start_ (n := 23) (S := fun w' => w'.cell? ⟨gb548, 0, none⟩ = some (.int .i64 ((rd_T34 l0_2 x26_2).f0)) ∧ w'.cell? ⟨gb548, 1, none⟩ = some (.string ((rd_T34 l0_2 x26_2).f1)) ∧ w'.cell? ⟨gb548, 2, none⟩ = some (.string ((rd_T34 l0_2 x26_2).f2)) ∧ w'.cell? ⟨gb548, 3, none⟩ = some (.string ((rd_T34 l0_2 x26_2).f3)) ∧ w'.cell? ⟨gb548, 4, none⟩ = some (.bool ((rd_T34 l0_2 x26_2).f4)) ∧ w'.cell? ⟨gb548, 5, none⟩ = some (.int .i64 ((rd_T34 l0_2 x26_2).f5)) ∧ w'.cell? ⟨gb548, 6, none⟩ = some (.bool ((rd_T34 l0_2 x26_2).f6)) ∧ w'.cell? ⟨gb544, 0, none⟩ = some (.int .i64 a0_0) ∧ w'.cell? ⟨gb544, 1, none⟩ = some (.int .i64 a0_1) ∧ w'.cell? ⟨gb544, 2, none⟩ = some (.slice (some ad547) l0_2.length c0_2)) (ds := []) (bv 23 0) (by kernel_rfl) rfl rfl ⟨bc BK548.out 0, bc BK548.out 1, bc BK548.out 2, bc BK548.out 3, bc BK548.out 4, bc BK548.out 5, bc BK548.out 6, bc BK544.out 0, bc BK544.out 1, bc BK544.out 2⟩ (fun hHeld => ?_); refine with_tabW impl_TableRight.tab6 impl_TableRight.bits6 (fun HT_ HW_ => ?_)
                        generalize w29.drew = w30 at BK544 BK548 HB hHeld ⊢
                        refine pu 1 32 (bv 23 2) HT_.out (h := ?_)
                        refine pu 3 34 (bv 23 10) HT_.out (h := ?_)
                        refine tk 0 31 (bv 23 11) HT_.out HW_.out hHeld (h := ?_)
                        refine tk 2 33 (bv 23 15) HT_.out HW_.out hHeld (h := ?_)
                        refine tk 4 35 (bv 23 31) HT_.out HW_.out hHeld (h := ?_)
                        refine one_ (i := 5) (N := some 36) (bv 23 63) rfl rfl (one_of HT_.out (by kernel_rfl)) (by decide) (fun K hK => ?_)
                        refine goes_ Tryd.func112 (by kernel_rfl) rfl #[.agg #[.int .i64 ((rd_T34 l0_2 x26_2).f0), .string ((rd_T34 l0_2 x26_2).f1), .string ((rd_T34 l0_2 x26_2).f2), .string ((rd_T34 l0_2 x26_2).f3), .bool ((rd_T34 l0_2 x26_2).f4), .int .i64 ((rd_T34 l0_2 x26_2).f5), .bool ((rd_T34 l0_2 x26_2).f6)], .int .i64 a0_0, .int .i64 a0_1] (by rfl) rfl rfl Ag ?_
                        with_reducible refine (impl_isRow.calls k2 ((rd_T34 l0_2 x26_2).f0) ((rd_T34 l0_2 x26_2).f1) ((rd_T34 l0_2 x26_2).f2) ((rd_T34 l0_2 x26_2).f3) ((rd_T34 l0_2 x26_2).f4) ((rd_T34 l0_2 x26_2).f5) ((rd_T34 l0_2 x26_2).f6) a0_0 a0_1 true _ A20.out).mono ?_
                        rintro e w31 ⟨rfl, hb⟩
                        refine ⟨_, rfl, ?_⟩
                        have n0_ := Aside0.mk (bb BK544.out hb)
                        have n1_ := Aside0.mk (bb BK548.out hb)
                        have n2_ := Aside0.mk (below_step By hb)
                        clear BK544
                        clear BK548
                        clear HB
                        have BK544 := n0_
                        have BK548 := n1_
                        have HB := n2_
                        clear n0_ n1_ n2_
                        (try clear hb)
                        (try clear hb2)
                        (try clear hk)
                        (try clear hi)
                        refine hK.out _ _ ⟨bc BK548.out 0, bc BK548.out 1, bc BK548.out 2, bc BK548.out 3, bc BK548.out 4, bc BK548.out 5, bc BK548.out 6, bc BK544.out 0, bc BK544.out 1, bc BK544.out 2⟩ (fun hHeld => ?_)
                        clear hK K
                        refine norm_ (a' := ?_) ?_ ?_
                        rotate_left
                        · show Act.put _ (some 36) _ = _
                          simp only [Act.put, List.setIfInBounds_toArray, List.set_cons_zero, List.set_cons_succ, i64_w, i32_w]
                          rfl
                        refine pu 6 37 (bv 23 127) HT_.out (h := ?_)
                        refine pu 7 38 (bv 23 255) HT_.out (h := ?_)
                        refine pu 8 39 (bv 23 511) HT_.out (h := ?_)
                        refine pu 9 40 (bv 23 1023) HT_.out (h := ?_)
                        refine pu 10 41 (bv 23 2047) HT_.out (h := ?_)
                        refine pn 11 42 (bv 23 4095) HT_.out (h := ?_)
                        refine pn 12 43 (bv 23 8191) HT_.out (h := ?_)
                        refine pn 13 44 (bv 23 16383) HT_.out (h := ?_)
                        refine pn 14 45 (bv 23 32767) HT_.out (h := ?_)
                        refine pn 15 46 (bv 23 65535) HT_.out (h := ?_)
                        refine pn 16 47 (bv 23 131071) HT_.out (h := ?_)
                        refine pn 17 48 (bv 23 262143) HT_.out (h := ?_)
                        refine pn 18 49 (bv 23 524287) HT_.out (h := ?_)
                        refine pn 19 50 (bv 23 1048575) HT_.out (h := ?_)
                        refine pn 20 51 (bv 23 2097151) HT_.out (h := ?_)
                        refine pu 21 52 (bv 23 4194303) HT_.out (h := ?_)
                        refine pu 22 53 (bv 23 8388607) HT_.out (h := ?_)
                        refine done_ (done_of HT_.out (by kernel_rfl)) ?_
                        try go_wp2
                        go_meet
                        case rel => exact ⟨_, (false), (by first | rfl | (simp; done) | (simp [*]; done)), H', ⟨by have := HJ1.out; have := HK2.out; first | omega | exact Nat.le_refl _⟩, ⟨by (with_reducible repeat (first | refine blk_drewN ?_ _ | refine blk_drew ?_ | refine blk_alloc ?_ _)); exact BK544.out⟩, ⟨by (with_reducible repeat (first | refine blk_drewN ?_ _ | refine blk_drew ?_ | refine blk_alloc ?_ _)); exact BK548.out⟩, ⟨By⟩⟩
                    · replace c21 := Bool.eq_false_iff.mpr c21
                      subst c21
                      have H1 : (impl_TableRight.j2 k2 x26_2 l0_2 (l0_2.length : Int) x26_2 true a0_0 a0_1 l0_2 ((rd_T34 l0_2 x26_2).f0) ((rd_T34 l0_2 x26_2).f1) ((rd_T34 l0_2 x26_2).f2) ((rd_T34 l0_2 x26_2).f3) ((rd_T34 l0_2 x26_2).f4) ((rd_T34 l0_2 x26_2).f5) ((rd_T34 l0_2 x26_2).f6)) = some r := by rw [if_neg (show ¬ (false = true) by decide)] at H; exact H
                      clear H
                      have H := H1
                      clear H1
                      have H' := Aside0.mk H
                      clear H
                      try go_wp2
                      have n0_ : Aside0 ((((((((w17.setCell ⟨gb548, 0, none⟩ (.int .i64 ((rd_T34 l0_2 x26_2).f0))).setCell ⟨gb548, 1, none⟩ (.string ((rd_T34 l0_2 x26_2).f1))).setCell ⟨gb548, 2, none⟩ (.string ((rd_T34 l0_2 x26_2).f2))).setCell ⟨gb548, 3, none⟩ (.string ((rd_T34 l0_2 x26_2).f3))).setCell ⟨gb548, 4, none⟩ (.bool ((rd_T34 l0_2 x26_2).f4))).setCell ⟨gb548, 5, none⟩ (.int .i64 ((rd_T34 l0_2 x26_2).f5))).setCell ⟨gb548, 6, none⟩ (.bool ((rd_T34 l0_2 x26_2).f6))).heap[gb544]? = some (.cells #[.int .i64 a0_0, .int .i64 a0_1, .slice (some ad547) l0_2.length c0_2] 38 (0, 0))) := ⟨Fr⟩
                      have n1_ : Aside0 ((((((((w17.setCell ⟨gb548, 0, none⟩ (.int .i64 ((rd_T34 l0_2 x26_2).f0))).setCell ⟨gb548, 1, none⟩ (.string ((rd_T34 l0_2 x26_2).f1))).setCell ⟨gb548, 2, none⟩ (.string ((rd_T34 l0_2 x26_2).f2))).setCell ⟨gb548, 3, none⟩ (.string ((rd_T34 l0_2 x26_2).f3))).setCell ⟨gb548, 4, none⟩ (.bool ((rd_T34 l0_2 x26_2).f4))).setCell ⟨gb548, 5, none⟩ (.int .i64 ((rd_T34 l0_2 x26_2).f5))).setCell ⟨gb548, 6, none⟩ (.bool ((rd_T34 l0_2 x26_2).f6))).heap[gb548]? = some (.cells #[.int .i64 ((rd_T34 l0_2 x26_2).f0), .string ((rd_T34 l0_2 x26_2).f1), .string ((rd_T34 l0_2 x26_2).f2), .string ((rd_T34 l0_2 x26_2).f3), .bool ((rd_T34 l0_2 x26_2).f4), .int .i64 ((rd_T34 l0_2 x26_2).f5), .bool ((rd_T34 l0_2 x26_2).f6)] 34 (0, 0))) := ⟨(pq7 Pk)⟩
                      have n2_ : Aside0 (Below w.heap.size w (((((((w17.setCell ⟨gb548, 0, none⟩ (.int .i64 ((rd_T34 l0_2 x26_2).f0))).setCell ⟨gb548, 1, none⟩ (.string ((rd_T34 l0_2 x26_2).f1))).setCell ⟨gb548, 2, none⟩ (.string ((rd_T34 l0_2 x26_2).f2))).setCell ⟨gb548, 3, none⟩ (.string ((rd_T34 l0_2 x26_2).f3))).setCell ⟨gb548, 4, none⟩ (.bool ((rd_T34 l0_2 x26_2).f4))).setCell ⟨gb548, 5, none⟩ (.int .i64 ((rd_T34 l0_2 x26_2).f5))).setCell ⟨gb548, 6, none⟩ (.bool ((rd_T34 l0_2 x26_2).f6)))) := ⟨By⟩
                      (try clear BK544)
                      (try clear BK548)
                      (try clear HB)
                      generalize (((((((w17.setCell ⟨gb548, 0, none⟩ (.int .i64 ((rd_T34 l0_2 x26_2).f0))).setCell ⟨gb548, 1, none⟩ (.string ((rd_T34 l0_2 x26_2).f1))).setCell ⟨gb548, 2, none⟩ (.string ((rd_T34 l0_2 x26_2).f2))).setCell ⟨gb548, 3, none⟩ (.string ((rd_T34 l0_2 x26_2).f3))).setCell ⟨gb548, 4, none⟩ (.bool ((rd_T34 l0_2 x26_2).f4))).setCell ⟨gb548, 5, none⟩ (.int .i64 ((rd_T34 l0_2 x26_2).f5))).setCell ⟨gb548, 6, none⟩ (.bool ((rd_T34 l0_2 x26_2).f6))) = w32 at n0_ n1_ n2_ ⊢
                      have BK544 := n0_
                      have BK548 := n1_
                      have HB := n2_
                      clear n0_ n1_ n2_
                      have n0_ := Aside0.mk (blk_drew BK544.out)
                      have n1_ := Aside0.mk (blk_drew BK548.out)
                      have n2_ := Aside0.mk (below_drew1 HB.out)
                      clear BK544
                      clear BK548
                      clear HB
                      have BK544 := n0_
                      have BK548 := n1_
                      have HB := n2_
                      clear n0_ n1_ n2_
                      refine start_ (n := 23) (S := fun w' => w'.cell? ⟨gb548, 0, none⟩ = some (.int .i64 ((rd_T34 l0_2 x26_2).f0)) ∧ w'.cell? ⟨gb548, 1, none⟩ = some (.string ((rd_T34 l0_2 x26_2).f1)) ∧ w'.cell? ⟨gb548, 2, none⟩ = some (.string ((rd_T34 l0_2 x26_2).f2)) ∧ w'.cell? ⟨gb548, 3, none⟩ = some (.string ((rd_T34 l0_2 x26_2).f3)) ∧ w'.cell? ⟨gb548, 4, none⟩ = some (.bool ((rd_T34 l0_2 x26_2).f4)) ∧ w'.cell? ⟨gb548, 5, none⟩ = some (.int .i64 ((rd_T34 l0_2 x26_2).f5)) ∧ w'.cell? ⟨gb548, 6, none⟩ = some (.bool ((rd_T34 l0_2 x26_2).f6)) ∧ w'.cell? ⟨gb544, 0, none⟩ = some (.int .i64 a0_0) ∧ w'.cell? ⟨gb544, 1, none⟩ = some (.int .i64 a0_1) ∧ w'.cell? ⟨gb544, 2, none⟩ = some (.slice (some ad547) l0_2.length c0_2)) (ds := []) (bv 23 0) (by kernel_rfl) rfl rfl ⟨bc BK548.out 0, bc BK548.out 1, bc BK548.out 2, bc BK548.out 3, bc BK548.out 4, bc BK548.out 5, bc BK548.out 6, bc BK544.out 0, bc BK544.out 1, bc BK544.out 2⟩ (fun hHeld => ?_); refine with_tabW impl_TableRight.tab6 impl_TableRight.bits6 (fun HT_ HW_ => ?_)
                      generalize w32.drew = w33 at BK544 BK548 HB hHeld ⊢
                      refine pu 1 32 (bv 23 2) HT_.out (h := ?_)
                      refine pu 3 34 (bv 23 10) HT_.out (h := ?_)
                      refine tk 0 31 (bv 23 11) HT_.out HW_.out hHeld (h := ?_)
                      refine tk 2 33 (bv 23 15) HT_.out HW_.out hHeld (h := ?_)
                      refine tk 4 35 (bv 23 31) HT_.out HW_.out hHeld (h := ?_)
                      refine one_ (i := 5) (N := some 36) (bv 23 63) rfl rfl (one_of HT_.out (by kernel_rfl)) (by decide) (fun K hK => ?_)
                      refine goes_ Tryd.func112 (by kernel_rfl) rfl #[.agg #[.int .i64 ((rd_T34 l0_2 x26_2).f0), .string ((rd_T34 l0_2 x26_2).f1), .string ((rd_T34 l0_2 x26_2).f2), .string ((rd_T34 l0_2 x26_2).f3), .bool ((rd_T34 l0_2 x26_2).f4), .int .i64 ((rd_T34 l0_2 x26_2).f5), .bool ((rd_T34 l0_2 x26_2).f6)], .int .i64 a0_0, .int .i64 a0_1] (by rfl) rfl rfl Ag ?_
                      with_reducible refine (impl_isRow.calls k2 ((rd_T34 l0_2 x26_2).f0) ((rd_T34 l0_2 x26_2).f1) ((rd_T34 l0_2 x26_2).f2) ((rd_T34 l0_2 x26_2).f3) ((rd_T34 l0_2 x26_2).f4) ((rd_T34 l0_2 x26_2).f5) ((rd_T34 l0_2 x26_2).f6) a0_0 a0_1 false _ A20.out).mono ?_
                      rintro e w34 ⟨rfl, hb⟩
                      refine ⟨_, rfl, ?_⟩
                      have n0_ := Aside0.mk (bb BK544.out hb)
                      have n1_ := Aside0.mk (bb BK548.out hb)
                      have n2_ := Aside0.mk (below_step By hb)
                      clear BK544
                      clear BK548
                      clear HB
                      have BK544 := n0_
                      have BK548 := n1_
                      have HB := n2_
                      clear n0_ n1_ n2_
                      (try clear hb)
                      (try clear hb2)
                      (try clear hk)
                      (try clear hi)
                      refine hK.out _ _ ⟨bc BK548.out 0, bc BK548.out 1, bc BK548.out 2, bc BK548.out 3, bc BK548.out 4, bc BK548.out 5, bc BK548.out 6, bc BK544.out 0, bc BK544.out 1, bc BK544.out 2⟩ (fun hHeld => ?_)
                      clear hK K
                      refine norm_ (a' := ?_) ?_ ?_
                      rotate_left
                      · show Act.put _ (some 36) _ = _
                        simp only [Act.put, List.setIfInBounds_toArray, List.set_cons_zero, List.set_cons_succ, i64_w, i32_w]
                        rfl
                      refine pu 6 37 (bv 23 127) HT_.out (h := ?_)
                      refine pu 7 38 (bv 23 255) HT_.out (h := ?_)
                      refine pn 8 39 (bv 23 511) HT_.out (h := ?_)
                      refine pn 9 40 (bv 23 1023) HT_.out (h := ?_)
                      refine pn 10 41 (bv 23 2047) HT_.out (h := ?_)
                      refine pn 11 42 (bv 23 4095) HT_.out (h := ?_)
                      refine pn 12 43 (bv 23 8191) HT_.out (h := ?_)
                      refine pn 13 44 (bv 23 16383) HT_.out (h := ?_)
                      refine pn 14 45 (bv 23 32767) HT_.out (h := ?_)
                      refine pn 15 46 (bv 23 65535) HT_.out (h := ?_)
                      refine pn 16 47 (bv 23 131071) HT_.out (h := ?_)
                      refine pn 17 48 (bv 23 262143) HT_.out (h := ?_)
                      refine pn 18 49 (bv 23 524287) HT_.out (h := ?_)
                      refine pn 19 50 (bv 23 1048575) HT_.out (h := ?_)
                      refine pn 20 51 (bv 23 2097151) HT_.out (h := ?_)
                      refine pn 21 52 (bv 23 4194303) HT_.out (h := ?_)
                      refine pu 22 53 (bv 23 8388607) HT_.out (h := ?_)
                      refine done_ (done_of HT_.out (by kernel_rfl)) ?_
                      try go_wp2
                      go_meet
                      case rel => exact ⟨_, (true), (by first | rfl | (simp; done) | (simp [*]; done)), H', ⟨by have := HJ1.out; have := HK2.out; first | omega | exact Nat.le_refl _⟩, ⟨by (with_reducible repeat (first | refine blk_drewN ?_ _ | refine blk_drew ?_ | refine blk_alloc ?_ _)); exact BK544.out⟩, ⟨by (with_reducible repeat (first | refine blk_drewN ?_ _ | refine blk_drew ?_ | refine blk_alloc ?_ _)); exact BK548.out⟩, ⟨By⟩⟩
                  case rest =>
                    clear HC16
                    try clear c1
                    try clear c2
                    try clear p2
                    try clear p5
                    try clear q5
                    try clear hx5
                    try clear c11
                    try clear c21
                    try clear c22
                    try clear c22b0
                    try clear c24
                    try clear c25
                    try clear hx550_0
                    try clear hx550_1
                    try clear hx550_2
                    try clear hx550_3
                    try clear hx550_4
                    try clear hx550_5
                    try clear hx550_6
                    try clear p550
                    try clear q550
                    obtain ⟨kq, x53_15, rfl, HA, HJ15, BK544, BK548, HB⟩ := hcut
                    cases kq with
                    | zero => exact absurd HA.out (by simp [impl_TableRight.j2])
                    | succ kj15 =>
                      have H := HA.out
                      clear HA
                      simp only [impl_TableRight.j2] at H
                      by_cases c35 : x53_15 = true
                      · subst c35
                        have H1 : (some false) = some r := by rw [if_pos rfl] at H; exact H
                        clear H
                        have H := H1
                        clear H1
                        obtain rfl := Option.some.inj H
                        go_wp2
                        go_ret
                        exact ⟨Rf, By⟩
                      · replace c35 := Bool.eq_false_iff.mpr c35
                        subst c35
                        have H1 : (if 0 ≤ x26_2 then (if x26_2 ≤ (l0_2.length : Int) then ((some (l0_2.take (x26_2 : Int).toNat : List (S34))).bind fun y551 => (impl_TableRight.l1 kj15 l0_2 (l0_2.length : Int) x26_2 y551 (y551.length : Int) 0 a0_0 a0_1 l0_2 ((rd_T34 l0_2 x26_2).f0) ((rd_T34 l0_2 x26_2).f1) ((rd_T34 l0_2 x26_2).f2) ((rd_T34 l0_2 x26_2).f3) ((rd_T34 l0_2 x26_2).f4) ((rd_T34 l0_2 x26_2).f5) ((rd_T34 l0_2 x26_2).f6))) else (none)) else (none)) = some r := by rw [if_neg (show ¬ (false = true) by decide)] at H; exact H
                        clear H
                        have H := H1
                        clear H1
                        by_cases c36 : 0 ≤ x26_2
                        · rw [if_pos c36] at H
                          have c36b0 := eq_true c36
                          have c36b1 : decide (0 ≤ x26_2) = true := decide_eq_true c36
                          clear c36
                          by_cases c37 : x26_2 ≤ (l0_2.length : Int)
                          · rw [if_pos c37] at H
                            have c37b0 := eq_true c37
                            have c37b1 : decide (x26_2 ≤ (l0_2.length : Int)) = true := decide_eq_true c37
                            clear c37
                            obtain ⟨y551, hy551⟩ : ∃ y_ : List (S34), y_ = (l0_2.take (x26_2 : Int).toNat) := ⟨_, rfl⟩
                            replace H : (impl_TableRight.l1 kj15 l0_2 (l0_2.length : Int) x26_2 y551 (y551.length : Int) 0 a0_0 a0_1 l0_2 ((rd_T34 l0_2 x26_2).f0) ((rd_T34 l0_2 x26_2).f1) ((rd_T34 l0_2 x26_2).f2) ((rd_T34 l0_2 x26_2).f3) ((rd_T34 l0_2 x26_2).f4) ((rd_T34 l0_2 x26_2).f5) ((rd_T34 l0_2 x26_2).f6)) = some r := by first | (rw [hy551]; with_reducible exact H) | (have H2_ := (Option.bind_some _ _).symm.trans H; rw [hy551]; with_reducible exact H2_) | (have H2_ := (Option.bind_some _ _).symm.trans H; with_reducible exact H2_) | with_reducible exact H | (rw [hy551]; exact H) | exact H
                            have Ny551 := Aside0.mk hy551
                            clear hy551
                            have H' := Aside0.mk H
                            clear H
                            have hnb38 := NB544_548.out
                            have hnc38 := NB548_544.out
                            have hcz39_0 : wc.cell? ⟨gb544, 0, none⟩ = some (.int .i64 a0_0) := bc BK544.out 0
                            have hcz39_1 : wc.cell? ⟨gb544, 1, none⟩ = some (.int .i64 a0_1) := bc BK544.out 1
                            have hcz39_2 : wc.cell? ⟨gb544, 2, none⟩ = some (.slice (some ad547) l0_2.length c0_2) := bc BK544.out 2
                            have hfz39_0 := blk_frozen BK544.out 0
                            have hfz39_1 := blk_frozen BK544.out 1
                            have hfz39_2 := blk_frozen BK544.out 2
                            have q40 : (x26_2 : Int) ≤ ((l0_2.length : Int) : Int) := of_decide_eq_true Da
                            obtain ⟨i040, hi040, _, hsz40, _⟩ := info_parts info34
                            have hroom40 : l0_2.length ≤ c0_2 := HC0_2.out
                            have hC40 : Kd.C k34 _ (some ad547) l0_2.length l0_2 := HR0_2.out
                            have hcut40 := cut_to (P := Tryd.prog) 36 34 .i64 Tryd.underlying36 hi040 (some ad547) l0_2.length c0_2 x26_2 (of_decide_eq_true Da) q40 hroom40
                            have hr40 := Kd.C_take (m := (x26_2 : Int).toNat) hC40 (by omega)
                            have hy40 : y551.length = (x26_2 : Int).toNat := (by rw [Ny551.out, List.length_take]; omega)
                            rw [← Ny551.out] at hr40
                            rw [← hy40] at hcut40
                            have HR554 := Aside0.mk hr40
                            have HC554 := Aside0.mk (show y551.length ≤ c0_2 from by omega)
                            clear hr40 hC40 hroom40 hi040 hsz40
                            have KY40 := Aside0.mk hy40
                            clear hy40
                            replace q40 := eq_true q40
                            go_wp2
                            go_loopg [59] kj15 (fun kq v59 w' => ∃ (x59_4 : Int), v59 = .int .i64 x59_4 ∧ Aside0 (impl_TableRight.l1 kq l0_2 (l0_2.length : Int) x26_2 y551 (y551.length : Int) x59_4 a0_0 a0_1 l0_2 ((rd_T34 l0_2 x26_2).f0) ((rd_T34 l0_2 x26_2).f1) ((rd_T34 l0_2 x26_2).f2) ((rd_T34 l0_2 x26_2).f3) ((rd_T34 l0_2 x26_2).f4) ((rd_T34 l0_2 x26_2).f5) ((rd_T34 l0_2 x26_2).f6) = some r) ∧ Aside0 (kq ≤ kj15) ∧ Aside0 (w'.heap[gb544]? = some (.cells #[.int .i64 a0_0, .int .i64 a0_1, (.slice (some ad547) l0_2.length c0_2)] 38 (0, 0))) ∧ Aside0 (w'.heap[gb548]? = some (.cells #[.int .i64 ((rd_T34 l0_2 x26_2).f0), .string ((rd_T34 l0_2 x26_2).f1), .string ((rd_T34 l0_2 x26_2).f2), .string ((rd_T34 l0_2 x26_2).f3), .bool ((rd_T34 l0_2 x26_2).f4), .int .i64 ((rd_T34 l0_2 x26_2).f5), .bool ((rd_T34 l0_2 x26_2).f6)] 34 (0, 0))) ∧ Aside0 (Below w.heap.size w w'))
                            case atStart => exact ⟨(0), (by first | rfl | (simp; done) | (simp [*]; done)), H', ⟨Nat.le_refl _⟩, ⟨by (with_reducible repeat (first | refine blk_drewN ?_ _ | refine blk_drew ?_ | refine blk_alloc ?_ _)); exact BK544.out⟩, ⟨by (with_reducible repeat (first | refine blk_drewN ?_ _ | refine blk_drew ?_ | refine blk_alloc ?_ _)); exact BK548.out⟩, ⟨By⟩⟩
                            case round =>
                              clear H'
                              try clear c1
                              try clear c2
                              try clear p2
                              try clear c3
                              try clear q4
                              try clear p5
                              try clear q5
                              try clear hx5
                              try clear c11
                              try clear c21
                              try clear c22
                              try clear c22b0
                              try clear c24
                              try clear c25
                              try clear c35
                              try clear c36
                              try clear c36b0
                              try clear c36b1
                              try clear c37
                              try clear c37b0
                              try clear c37b1
                              try clear c38
                              try clear q40
                              try clear hcz39_0
                              try clear hcz39_1
                              try clear hcz39_2
                              try clear hfz39_0
                              try clear hfz39_1
                              try clear hfz39_2
                              try clear hx550_0
                              try clear hx550_1
                              try clear hx550_2
                              try clear hx550_3
                              try clear hx550_4
                              try clear hx550_5
                              try clear hx550_6
                              try clear p2
                              try clear p5
                              try clear p550
                              try clear q40
                              try clear q5
                              try clear q550
                              obtain ⟨x59_4, rfl, HA, HK4, BK544, BK548, HB⟩ := hrel
                              cases gk with
                              | zero => exact absurd HA.out (by simp [impl_TableRight.l1])
                              | succ k4 =>
                                have H := HA.out
                                clear HA
                                simp only [impl_TableRight.l1] at H
                                by_cases c41 : x59_4 < (y551.length : Int)
                                · rw [if_pos c41] at H
                                  have c41b0 : decide (x59_4 < (y551.length : Int)) = true := decide_eq_true c41
                                  clear c41
                                  by_cases c42 : 0 ≤ x59_4
                                  · rw [if_pos c42] at H
                                    have c42b0 : decide (0 ≤ x59_4) = true := decide_eq_true c42
                                    clear c42
                                    by_cases c43 : x59_4 < (y551.length : Int)
                                    · rw [if_pos c43] at H
                                      have c43b0 : decide (x59_4 < (y551.length : Int)) = true := decide_eq_true c43
                                      clear c43
                                      by_cases c44 : ((rd_T34 y551 x59_4).f5) = ((rd_T34 l0_2 x26_2).f5)
                                      · rw [if_pos c44] at H
                                        have c44b0 : (((rd_T34 y551 x59_4).f5) == ((rd_T34 l0_2 x26_2).f5)) = true := beq_iff_eq.mpr c44
                                        have c44b1 : (((rd_T34 y551 x59_4).f5) != ((rd_T34 l0_2 x26_2).f5)) = false := bne_eq_false_iff_eq.mpr c44
                                        clear c44
                                        obtain rfl := Option.some.inj H
                                        have p555 : 0 ≤ (x59_4 : Int) := of_decide_eq_true Da
                                        have q555 : x59_4 < (y551.length : Int) := of_decide_eq_true Da
                                        obtain ⟨ad555, e555, hx555_0, hx555_1, hx555_2, hx555_3, hx555_4, hx555_5, hx555_6⟩ := at_T34 HR554.out x59_4 p555 q555
                                        obtain rfl : ad547 = ad555 := (by injection e555)
                                        replace hx555_0 := bz HB.out hx555_0
                                        replace hx555_1 := bz HB.out hx555_1
                                        replace hx555_2 := bz HB.out hx555_2
                                        replace hx555_3 := bz HB.out hx555_3
                                        replace hx555_4 := bz HB.out hx555_4
                                        replace hx555_5 := bz HB.out hx555_5
                                        replace hx555_6 := bz HB.out hx555_6
                                        replace p555 := eq_true p555
                                        replace q555 := eq_true q555
                                        go_wp2_with (first | ((with_reducible refine gate_dst (N := 6) rfl ?_); (try (refine gate_guard (by rfl) ?_; dsimp only)); refine box_event ?hg (N := 6) ?hd (cs := #[.int .i64 0, .string (⟨#[]⟩ : ByteArray), .string (⟨#[]⟩ : ByteArray), .string (⟨#[]⟩ : ByteArray), .bool false, .int .i64 0, .bool false]) (t := 34) ?hr ?_; (case hd => rfl); (case hg => rfl); (case hr => first | (go_simp; done) | (go_simp; rfl)); intro gb556 hg w45 hbox hb; have n0_ := Aside0.mk (bb BK544.out hb); have n1_ := Aside0.mk (bb BK548.out hb); have n2_ := Aside0.mk (below_step By hb); have n3_ := Aside0.mk (hbox); have n4_ := Aside0.mk ((by rw [hg]; exact (below_size By) : w.heap.size ≤ gb556)); have n5_ := Aside0.mk ((by rw [hg]; exact (below_size By) : w.heap.size ≤ gb556)); have n6_ := Aside0.mk ((by rw [hg]; exact Nat.ne_of_lt (bl BK544.out) : gb544 ≠ gb556)); have n7_ := Aside0.mk ((by rw [hg]; exact Nat.ne_of_gt (bl BK544.out) : gb556 ≠ gb544)); have n8_ := Aside0.mk ((by rw [hg]; exact Nat.ne_of_lt (bl BK548.out) : gb548 ≠ gb556)); have n9_ := Aside0.mk ((by rw [hg]; exact Nat.ne_of_gt (bl BK548.out) : gb556 ≠ gb548)); clear BK544; clear BK548; clear HB; have BK544 := n0_; have BK548 := n1_; have HB := n2_; have BK556 := n3_; have GW556 := n4_; have GE556 := n5_; have NB544_556 := n6_; have NB556_544 := n7_; have NB548_556 := n8_; have NB556_548 := n9_; clear n0_ n1_ n2_ n3_ n4_ n5_ n6_ n7_ n8_ n9_; clear hb hbox hg; have hnb46 := NB556_544.out; have hnc46 := NB544_556.out; have hnb47 := NB556_548.out; have hnc47 := NB548_556.out; have ⟨hcz48_0, hcz48_1, hcz48_2, hcz48_3, hcz48_4, hcz48_5, hcz48_6⟩ := cq7 BK556.out; have ⟨hfz48_0, hfz48_1, hfz48_2, hfz48_3, hfz48_4, hfz48_5, hfz48_6⟩ := fq7 BK556.out; have hnb49 := NB548_544.out; have hnc49 := NB544_548.out; have ⟨hcz50_0, hcz50_1, hcz50_2, hcz50_3, hcz50_4, hcz50_5, hcz50_6⟩ := cq7 BK548.out; have ⟨hfz50_0, hfz50_1, hfz50_2, hfz50_3, hfz50_4, hfz50_5, hfz50_6⟩ := fq7 BK548.out))
                                        go_ret
                                        exact ⟨Rf, By⟩
                                      · rw [if_neg c44] at H
                                        have c44b0 : (((rd_T34 y551 x59_4).f5) == ((rd_T34 l0_2 x26_2).f5)) = false := beq_eq_false_iff_ne.mpr c44
                                        have c44b1 : (((rd_T34 y551 x59_4).f5) != ((rd_T34 l0_2 x26_2).f5)) = true := bne_iff_ne.mpr c44
                                        by_cases c51 : ((rd_T34 y551 x59_4).f1).toList = ((rd_T34 l0_2 x26_2).f1).toList
                                        · rw [if_pos c51] at H
                                          have c51b0 : (((rd_T34 y551 x59_4).f1).toList == ((rd_T34 l0_2 x26_2).f1).toList) = true := beq_iff_eq.mpr c51
                                          have c51b1 : (((rd_T34 y551 x59_4).f1).toList != ((rd_T34 l0_2 x26_2).f1).toList) = false := bne_eq_false_iff_eq.mpr c51
                                          clear c51
                                          obtain ⟨bq52, hbq52⟩ : ∃ b_ : Bool, b_ = ((rd_T34 y551 x59_4).f6) := ⟨_, rfl⟩
                                          replace H : (if (bq52 = true) then (impl_TableRight.l1 k4 l0_2 (l0_2.length : Int) x26_2 y551 (y551.length : Int) (wrap64 (x59_4 + 1)) a0_0 a0_1 l0_2 ((rd_T34 l0_2 x26_2).f0) ((rd_T34 l0_2 x26_2).f1) ((rd_T34 l0_2 x26_2).f2) ((rd_T34 l0_2 x26_2).f3) ((rd_T34 l0_2 x26_2).f4) ((rd_T34 l0_2 x26_2).f5) ((rd_T34 l0_2 x26_2).f6)) else (if ((rd_T34 l0_2 x26_2).f6) = true then (impl_TableRight.l1 k4 l0_2 (l0_2.length : Int) x26_2 y551 (y551.length : Int) (wrap64 (x59_4 + 1)) a0_0 a0_1 l0_2 ((rd_T34 l0_2 x26_2).f0) ((rd_T34 l0_2 x26_2).f1) ((rd_T34 l0_2 x26_2).f2) ((rd_T34 l0_2 x26_2).f3) ((rd_T34 l0_2 x26_2).f4) ((rd_T34 l0_2 x26_2).f5) ((rd_T34 l0_2 x26_2).f6)) else (some false))) = some r := by rw [← hbq52] at H; exact H
                                          have Nbq52 := Aside0.mk hbq52
                                          clear hbq52
                                          by_cases c53 : (bq52 = true)
                                          · subst c53
                                            have H1 : (impl_TableRight.l1 k4 l0_2 (l0_2.length : Int) x26_2 y551 (y551.length : Int) (wrap64 (x59_4 + 1)) a0_0 a0_1 l0_2 ((rd_T34 l0_2 x26_2).f0) ((rd_T34 l0_2 x26_2).f1) ((rd_T34 l0_2 x26_2).f2) ((rd_T34 l0_2 x26_2).f3) ((rd_T34 l0_2 x26_2).f4) ((rd_T34 l0_2 x26_2).f5) ((rd_T34 l0_2 x26_2).f6)) = some r := by rw [if_pos rfl] at H; exact H
                                            clear H
                                            have H := H1
                                            clear H1
                                            have H' := Aside0.mk H
                                            clear H
                                            have p555 : 0 ≤ (x59_4 : Int) := of_decide_eq_true Da
                                            have q555 : x59_4 < (y551.length : Int) := of_decide_eq_true Da
                                            obtain ⟨ad555, e555, hx555_0, hx555_1, hx555_2, hx555_3, hx555_4, hx555_5, hx555_6⟩ := at_T34 HR554.out x59_4 p555 q555
                                            (try rw [← Nbq52.out] at hx555_4); (try rw [← Nbq52.out] at hw555_4)
                                            (try rw [← Nbq52.out] at hx555_6); (try rw [← Nbq52.out] at hw555_6)
                                            obtain rfl : ad547 = ad555 := (by injection e555)
                                            replace hx555_0 := bz HB.out hx555_0
                                            replace hx555_1 := bz HB.out hx555_1
                                            replace hx555_2 := bz HB.out hx555_2
                                            replace hx555_3 := bz HB.out hx555_3
                                            replace hx555_4 := bz HB.out hx555_4
                                            replace hx555_5 := bz HB.out hx555_5
                                            replace hx555_6 := bz HB.out hx555_6
                                            replace p555 := eq_true p555
                                            replace q555 := eq_true q555
                                            go_wp2_with (first | ((with_reducible refine gate_dst (N := 6) rfl ?_); (try (refine gate_guard (by rfl) ?_; dsimp only)); refine box_event ?hg (N := 6) ?hd (cs := #[.int .i64 0, .string (⟨#[]⟩ : ByteArray), .string (⟨#[]⟩ : ByteArray), .string (⟨#[]⟩ : ByteArray), .bool false, .int .i64 0, .bool false]) (t := 34) ?hr ?_; (case hd => rfl); (case hg => rfl); (case hr => first | (go_simp; done) | (go_simp; rfl)); intro gb556 hg w54 hbox hb; have n0_ := Aside0.mk (bb BK544.out hb); have n1_ := Aside0.mk (bb BK548.out hb); have n2_ := Aside0.mk (below_step By hb); have n3_ := Aside0.mk (hbox); have n4_ := Aside0.mk ((by rw [hg]; exact (below_size By) : w.heap.size ≤ gb556)); have n5_ := Aside0.mk ((by rw [hg]; exact (below_size By) : w.heap.size ≤ gb556)); have n6_ := Aside0.mk ((by rw [hg]; exact Nat.ne_of_lt (bl BK544.out) : gb544 ≠ gb556)); have n7_ := Aside0.mk ((by rw [hg]; exact Nat.ne_of_gt (bl BK544.out) : gb556 ≠ gb544)); have n8_ := Aside0.mk ((by rw [hg]; exact Nat.ne_of_lt (bl BK548.out) : gb548 ≠ gb556)); have n9_ := Aside0.mk ((by rw [hg]; exact Nat.ne_of_gt (bl BK548.out) : gb556 ≠ gb548)); clear BK544; clear BK548; clear HB; have BK544 := n0_; have BK548 := n1_; have HB := n2_; have BK556 := n3_; have GW556 := n4_; have GE556 := n5_; have NB544_556 := n6_; have NB556_544 := n7_; have NB548_556 := n8_; have NB556_548 := n9_; clear n0_ n1_ n2_ n3_ n4_ n5_ n6_ n7_ n8_ n9_; clear hb hbox hg; have hnb55 := NB556_544.out; have hnc55 := NB544_556.out; have hnb56 := NB556_548.out; have hnc56 := NB548_556.out; have ⟨hcz57_0, hcz57_1, hcz57_2, hcz57_3, hcz57_4, hcz57_5, hcz57_6⟩ := cq7 BK556.out; have ⟨hfz57_0, hfz57_1, hfz57_2, hfz57_3, hfz57_4, hfz57_5, hfz57_6⟩ := fq7 BK556.out; have hnb58 := NB548_544.out; have hnc58 := NB544_548.out; have ⟨hcz59_0, hcz59_1, hcz59_2, hcz59_3, hcz59_4, hcz59_5, hcz59_6⟩ := cq7 BK548.out; have ⟨hfz59_0, hfz59_1, hfz59_2, hfz59_3, hfz59_4, hfz59_5, hfz59_6⟩ := fq7 BK548.out))
                                            go_roundg k4
                                            case measure => have := HJ1.out; have := HK2.out; have := HJ15.out; have := HK4.out; omega
                                            case rel => exact ⟨(wrap64 (x59_4 + 1)), (by first | rfl | (simp; done) | (simp [*]; done)), H', ⟨by have := HJ1.out; have := HK2.out; have := HJ15.out; have := HK4.out; omega⟩, ⟨Fr⟩, ⟨Fr⟩, ⟨By⟩⟩
                                          · replace c53 := Bool.eq_false_iff.mpr c53
                                            subst c53
                                            have H1 : (if ((rd_T34 l0_2 x26_2).f6) = true then (impl_TableRight.l1 k4 l0_2 (l0_2.length : Int) x26_2 y551 (y551.length : Int) (wrap64 (x59_4 + 1)) a0_0 a0_1 l0_2 ((rd_T34 l0_2 x26_2).f0) ((rd_T34 l0_2 x26_2).f1) ((rd_T34 l0_2 x26_2).f2) ((rd_T34 l0_2 x26_2).f3) ((rd_T34 l0_2 x26_2).f4) ((rd_T34 l0_2 x26_2).f5) ((rd_T34 l0_2 x26_2).f6)) else (some false)) = some r := by rw [if_neg (show ¬ (false = true) by decide)] at H; exact H
                                            clear H
                                            have H := H1
                                            clear H1
                                            by_cases c60 : ((rd_T34 l0_2 x26_2).f6) = true
                                            · rw [if_pos c60] at H
                                              have c60b0 : ((rd_T34 l0_2 x26_2).f6) = true := c60
                                              clear c60
                                              have H' := Aside0.mk H
                                              clear H
                                              have p555 : 0 ≤ (x59_4 : Int) := of_decide_eq_true Da
                                              have q555 : x59_4 < (y551.length : Int) := of_decide_eq_true Da
                                              obtain ⟨ad555, e555, hx555_0, hx555_1, hx555_2, hx555_3, hx555_4, hx555_5, hx555_6⟩ := at_T34 HR554.out x59_4 p555 q555
                                              (try rw [← Nbq52.out] at hx555_4); (try rw [← Nbq52.out] at hw555_4)
                                              (try rw [← Nbq52.out] at hx555_6); (try rw [← Nbq52.out] at hw555_6)
                                              obtain rfl : ad547 = ad555 := (by injection e555)
                                              replace hx555_0 := bz HB.out hx555_0
                                              replace hx555_1 := bz HB.out hx555_1
                                              replace hx555_2 := bz HB.out hx555_2
                                              replace hx555_3 := bz HB.out hx555_3
                                              replace hx555_4 := bz HB.out hx555_4
                                              replace hx555_5 := bz HB.out hx555_5
                                              replace hx555_6 := bz HB.out hx555_6
                                              replace p555 := eq_true p555
                                              replace q555 := eq_true q555
                                              go_wp2_with (first | ((with_reducible refine gate_dst (N := 6) rfl ?_); (try (refine gate_guard (by rfl) ?_; dsimp only)); refine box_event ?hg (N := 6) ?hd (cs := #[.int .i64 0, .string (⟨#[]⟩ : ByteArray), .string (⟨#[]⟩ : ByteArray), .string (⟨#[]⟩ : ByteArray), .bool false, .int .i64 0, .bool false]) (t := 34) ?hr ?_; (case hd => rfl); (case hg => rfl); (case hr => first | (go_simp; done) | (go_simp; rfl)); intro gb556 hg w61 hbox hb; have n0_ := Aside0.mk (bb BK544.out hb); have n1_ := Aside0.mk (bb BK548.out hb); have n2_ := Aside0.mk (below_step By hb); have n3_ := Aside0.mk (hbox); have n4_ := Aside0.mk ((by rw [hg]; exact (below_size By) : w.heap.size ≤ gb556)); have n5_ := Aside0.mk ((by rw [hg]; exact (below_size By) : w.heap.size ≤ gb556)); have n6_ := Aside0.mk ((by rw [hg]; exact Nat.ne_of_lt (bl BK544.out) : gb544 ≠ gb556)); have n7_ := Aside0.mk ((by rw [hg]; exact Nat.ne_of_gt (bl BK544.out) : gb556 ≠ gb544)); have n8_ := Aside0.mk ((by rw [hg]; exact Nat.ne_of_lt (bl BK548.out) : gb548 ≠ gb556)); have n9_ := Aside0.mk ((by rw [hg]; exact Nat.ne_of_gt (bl BK548.out) : gb556 ≠ gb548)); clear BK544; clear BK548; clear HB; have BK544 := n0_; have BK548 := n1_; have HB := n2_; have BK556 := n3_; have GW556 := n4_; have GE556 := n5_; have NB544_556 := n6_; have NB556_544 := n7_; have NB548_556 := n8_; have NB556_548 := n9_; clear n0_ n1_ n2_ n3_ n4_ n5_ n6_ n7_ n8_ n9_; clear hb hbox hg; have hnb62 := NB556_544.out; have hnc62 := NB544_556.out; have hnb63 := NB556_548.out; have hnc63 := NB548_556.out; have ⟨hcz64_0, hcz64_1, hcz64_2, hcz64_3, hcz64_4, hcz64_5, hcz64_6⟩ := cq7 BK556.out; have ⟨hfz64_0, hfz64_1, hfz64_2, hfz64_3, hfz64_4, hfz64_5, hfz64_6⟩ := fq7 BK556.out; have hnb65 := NB548_544.out; have hnc65 := NB544_548.out; have ⟨hcz66_0, hcz66_1, hcz66_2, hcz66_3, hcz66_4, hcz66_5, hcz66_6⟩ := cq7 BK548.out; have ⟨hfz66_0, hfz66_1, hfz66_2, hfz66_3, hfz66_4, hfz66_5, hfz66_6⟩ := fq7 BK548.out))
                                              go_roundg k4
                                              case measure => have := HJ1.out; have := HK2.out; have := HJ15.out; have := HK4.out; omega
                                              case rel => exact ⟨(wrap64 (x59_4 + 1)), (by first | rfl | (simp; done) | (simp [*]; done)), H', ⟨by have := HJ1.out; have := HK2.out; have := HJ15.out; have := HK4.out; omega⟩, ⟨Fr⟩, ⟨Fr⟩, ⟨By⟩⟩
                                            · rw [if_neg c60] at H
                                              have c60b0 : ((rd_T34 l0_2 x26_2).f6) = false := by simpa using c60
                                              clear c60
                                              obtain rfl := Option.some.inj H
                                              have p555 : 0 ≤ (x59_4 : Int) := of_decide_eq_true Da
                                              have q555 : x59_4 < (y551.length : Int) := of_decide_eq_true Da
                                              obtain ⟨ad555, e555, hx555_0, hx555_1, hx555_2, hx555_3, hx555_4, hx555_5, hx555_6⟩ := at_T34 HR554.out x59_4 p555 q555
                                              (try rw [← Nbq52.out] at hx555_4); (try rw [← Nbq52.out] at hw555_4)
                                              (try rw [← Nbq52.out] at hx555_6); (try rw [← Nbq52.out] at hw555_6)
                                              obtain rfl : ad547 = ad555 := (by injection e555)
                                              replace hx555_0 := bz HB.out hx555_0
                                              replace hx555_1 := bz HB.out hx555_1
                                              replace hx555_2 := bz HB.out hx555_2
                                              replace hx555_3 := bz HB.out hx555_3
                                              replace hx555_4 := bz HB.out hx555_4
                                              replace hx555_5 := bz HB.out hx555_5
                                              replace hx555_6 := bz HB.out hx555_6
                                              replace p555 := eq_true p555
                                              replace q555 := eq_true q555
                                              go_wp2_with (first | ((with_reducible refine gate_dst (N := 6) rfl ?_); (try (refine gate_guard (by rfl) ?_; dsimp only)); refine box_event ?hg (N := 6) ?hd (cs := #[.int .i64 0, .string (⟨#[]⟩ : ByteArray), .string (⟨#[]⟩ : ByteArray), .string (⟨#[]⟩ : ByteArray), .bool false, .int .i64 0, .bool false]) (t := 34) ?hr ?_; (case hd => rfl); (case hg => rfl); (case hr => first | (go_simp; done) | (go_simp; rfl)); intro gb556 hg w67 hbox hb; have n0_ := Aside0.mk (bb BK544.out hb); have n1_ := Aside0.mk (bb BK548.out hb); have n2_ := Aside0.mk (below_step By hb); have n3_ := Aside0.mk (hbox); have n4_ := Aside0.mk ((by rw [hg]; exact (below_size By) : w.heap.size ≤ gb556)); have n5_ := Aside0.mk ((by rw [hg]; exact (below_size By) : w.heap.size ≤ gb556)); have n6_ := Aside0.mk ((by rw [hg]; exact Nat.ne_of_lt (bl BK544.out) : gb544 ≠ gb556)); have n7_ := Aside0.mk ((by rw [hg]; exact Nat.ne_of_gt (bl BK544.out) : gb556 ≠ gb544)); have n8_ := Aside0.mk ((by rw [hg]; exact Nat.ne_of_lt (bl BK548.out) : gb548 ≠ gb556)); have n9_ := Aside0.mk ((by rw [hg]; exact Nat.ne_of_gt (bl BK548.out) : gb556 ≠ gb548)); clear BK544; clear BK548; clear HB; have BK544 := n0_; have BK548 := n1_; have HB := n2_; have BK556 := n3_; have GW556 := n4_; have GE556 := n5_; have NB544_556 := n6_; have NB556_544 := n7_; have NB548_556 := n8_; have NB556_548 := n9_; clear n0_ n1_ n2_ n3_ n4_ n5_ n6_ n7_ n8_ n9_; clear hb hbox hg; have hnb68 := NB556_544.out; have hnc68 := NB544_556.out; have hnb69 := NB556_548.out; have hnc69 := NB548_556.out; have ⟨hcz70_0, hcz70_1, hcz70_2, hcz70_3, hcz70_4, hcz70_5, hcz70_6⟩ := cq7 BK556.out; have ⟨hfz70_0, hfz70_1, hfz70_2, hfz70_3, hfz70_4, hfz70_5, hfz70_6⟩ := fq7 BK556.out; have hnb71 := NB548_544.out; have hnc71 := NB544_548.out; have ⟨hcz72_0, hcz72_1, hcz72_2, hcz72_3, hcz72_4, hcz72_5, hcz72_6⟩ := cq7 BK548.out; have ⟨hfz72_0, hfz72_1, hfz72_2, hfz72_3, hfz72_4, hfz72_5, hfz72_6⟩ := fq7 BK548.out))
                                              go_ret
                                              exact ⟨Rf, By⟩
                                        · rw [if_neg c51] at H
                                          have c51b0 : (((rd_T34 y551 x59_4).f1).toList == ((rd_T34 l0_2 x26_2).f1).toList) = false := beq_eq_false_iff_ne.mpr c51
                                          have c51b1 : (((rd_T34 y551 x59_4).f1).toList != ((rd_T34 l0_2 x26_2).f1).toList) = true := bne_iff_ne.mpr c51
                                          have H' := Aside0.mk H
                                          clear H
                                          have p555 : 0 ≤ (x59_4 : Int) := of_decide_eq_true Da
                                          have q555 : x59_4 < (y551.length : Int) := of_decide_eq_true Da
                                          obtain ⟨ad555, e555, hx555_0, hx555_1, hx555_2, hx555_3, hx555_4, hx555_5, hx555_6⟩ := at_T34 HR554.out x59_4 p555 q555
                                          obtain rfl : ad547 = ad555 := (by injection e555)
                                          replace hx555_0 := bz HB.out hx555_0
                                          replace hx555_1 := bz HB.out hx555_1
                                          replace hx555_2 := bz HB.out hx555_2
                                          replace hx555_3 := bz HB.out hx555_3
                                          replace hx555_4 := bz HB.out hx555_4
                                          replace hx555_5 := bz HB.out hx555_5
                                          replace hx555_6 := bz HB.out hx555_6
                                          replace p555 := eq_true p555
                                          replace q555 := eq_true q555
                                          go_wp2_with (first | ((with_reducible refine gate_dst (N := 6) rfl ?_); (try (refine gate_guard (by rfl) ?_; dsimp only)); refine box_event ?hg (N := 6) ?hd (cs := #[.int .i64 0, .string (⟨#[]⟩ : ByteArray), .string (⟨#[]⟩ : ByteArray), .string (⟨#[]⟩ : ByteArray), .bool false, .int .i64 0, .bool false]) (t := 34) ?hr ?_; (case hd => rfl); (case hg => rfl); (case hr => first | (go_simp; done) | (go_simp; rfl)); intro gb556 hg w73 hbox hb; have n0_ := Aside0.mk (bb BK544.out hb); have n1_ := Aside0.mk (bb BK548.out hb); have n2_ := Aside0.mk (below_step By hb); have n3_ := Aside0.mk (hbox); have n4_ := Aside0.mk ((by rw [hg]; exact (below_size By) : w.heap.size ≤ gb556)); have n5_ := Aside0.mk ((by rw [hg]; exact (below_size By) : w.heap.size ≤ gb556)); have n6_ := Aside0.mk ((by rw [hg]; exact Nat.ne_of_lt (bl BK544.out) : gb544 ≠ gb556)); have n7_ := Aside0.mk ((by rw [hg]; exact Nat.ne_of_gt (bl BK544.out) : gb556 ≠ gb544)); have n8_ := Aside0.mk ((by rw [hg]; exact Nat.ne_of_lt (bl BK548.out) : gb548 ≠ gb556)); have n9_ := Aside0.mk ((by rw [hg]; exact Nat.ne_of_gt (bl BK548.out) : gb556 ≠ gb548)); clear BK544; clear BK548; clear HB; have BK544 := n0_; have BK548 := n1_; have HB := n2_; have BK556 := n3_; have GW556 := n4_; have GE556 := n5_; have NB544_556 := n6_; have NB556_544 := n7_; have NB548_556 := n8_; have NB556_548 := n9_; clear n0_ n1_ n2_ n3_ n4_ n5_ n6_ n7_ n8_ n9_; clear hb hbox hg; have hnb74 := NB556_544.out; have hnc74 := NB544_556.out; have hnb75 := NB556_548.out; have hnc75 := NB548_556.out; have ⟨hcz76_0, hcz76_1, hcz76_2, hcz76_3, hcz76_4, hcz76_5, hcz76_6⟩ := cq7 BK556.out; have ⟨hfz76_0, hfz76_1, hfz76_2, hfz76_3, hfz76_4, hfz76_5, hfz76_6⟩ := fq7 BK556.out; have hnb77 := NB548_544.out; have hnc77 := NB544_548.out; have ⟨hcz78_0, hcz78_1, hcz78_2, hcz78_3, hcz78_4, hcz78_5, hcz78_6⟩ := cq7 BK548.out; have ⟨hfz78_0, hfz78_1, hfz78_2, hfz78_3, hfz78_4, hfz78_5, hfz78_6⟩ := fq7 BK548.out))
                                          go_roundg k4
                                          case measure => have := HJ1.out; have := HK2.out; have := HJ15.out; have := HK4.out; omega
                                          case rel => exact ⟨(wrap64 (x59_4 + 1)), (by first | rfl | (simp; done) | (simp [*]; done)), H', ⟨by have := HJ1.out; have := HK2.out; have := HJ15.out; have := HK4.out; omega⟩, ⟨Fr⟩, ⟨Fr⟩, ⟨By⟩⟩
                                    · rw [if_neg c43] at H
                                      exact absurd H (by simp)
                                  · rw [if_neg c42] at H
                                    exact absurd H (by simp)
                                · rw [if_neg c41] at H
                                  have c41b0 : decide (x59_4 < (y551.length : Int)) = false := decide_eq_false c41
                                  clear c41
                                  have H' := Aside0.mk H
                                  clear H
                                  go_wp2
                                  go_roundg k4
                                  case measure => have := HJ1.out; have := HK2.out; have := HJ15.out; have := HK4.out; omega
                                  case rel => exact ⟨(wrap64 (x26_2 + 1)), (by first | rfl | (simp; done) | (simp [*]; done)), H', ⟨by have := HJ1.out; have := HK2.out; have := HJ15.out; have := HK4.out; omega⟩, ⟨by (with_reducible repeat (first | refine blk_drewN ?_ _ | refine blk_drew ?_ | refine blk_alloc ?_ _)); exact BK544.out⟩, ⟨By⟩⟩
                          · rw [if_neg c37] at H
                            exact absurd H (by simp)
                        · rw [if_neg c36] at H
                          exact absurd H (by simp)
                · rw [if_neg c15] at H
                  exact absurd H (by simp)
              · rw [if_neg c14] at H
                exact absurd H (by simp)
            · rw [if_neg c13] at H
              have c13b0 : decide (x26_2 < (l0_2.length : Int)) = false := decide_eq_false c13
              clear c13
              obtain rfl := Option.some.inj H
              go_wp2
              go_ret
              exact ⟨Rf, By⟩

end Go.Proofs.YtpocoeghobdfiaaDoor.PG
