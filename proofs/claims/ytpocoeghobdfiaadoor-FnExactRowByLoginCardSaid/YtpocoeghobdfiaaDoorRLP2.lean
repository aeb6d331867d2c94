/-
  Functions that the law reaches, each as a plain Lean function, with the proof that the call comes to it (written by a program of this session by way of the kit's print program). Conditions: what each contract states.
-/
import Derived.Test.YtpocoeghobdfiaaDoorRLP1
import Derived.Test.YtpocoeghobdfiaaDoorRLSq
-- WRITTEN BY A PROGRAM OF THIS SESSION (wip/gen/gen.py), by way of the kit's print program. Lean checks it.
namespace Go.Proofs.YtpocoeghobdfiaaDoor.PG
open Go.Proofs.YtpocoeghobdfiaaDoor.Sq Go.RowKit Go.Proofs.YtpocoeghobdfiaaDoorW.PrintWords Go.Proofs.YtpocoeghobdfiaaDoorW.PrintLast Go.Proofs.YtpocoeghobdfiaaDoorW.PrintMore
attribute [local go_sem] max2_int min2_int max_two min_two max_three min_three max_four min_four   -- for this text's walks alone
set_option linter.unusedVariables false
set_option linter.unusedSimpArgs false

/-! ### spec_l12Row: function 110 -/
def spec_l12Row.f (k : Nat) (a0_0 : Int) (a0_1 : ByteArray) (a0_2 : ByteArray) (a0_3 : ByteArray) (a0_4 : Bool) (a0_5 : Int) (a0_6 : Bool) : Option (Bool) := (spec_NameRight.f k a0_1).bind fun t194 => (if t194 = true then ((spec_l12Text.f k a0_2).bind fun t195 => (if t195 = true then ((spec_l12Text.f k a0_3).bind fun t196 => (if t196 = true then (if a0_6 = true then (if a0_4 = true then (some false) else (if a0_2.toList = ([] : List UInt8) then (some (a0_3.toList == ([] : List UInt8))) else (some false))) else (some true)) else (some false))) else (some false))) else (some false))
theorem spec_l12Row.mono : ∀ a0 a1 a2 a3 a4 a5 a6 k, LeO (spec_l12Row.f k a0 a1 a2 a3 a4 a5 a6) (spec_l12Row.f (k + 1) a0 a1 a2 a3 a4 a5 a6) := by
  intro a0 a1 a2 a3 a4 a5 a6 k
  unfold spec_l12Row.f
  repeat' first
      | (with_reducible exact spec_NameRight.mono _ _)
      | (with_reducible exact spec_l12Text.mono _ _)
      | (with_reducible exact LeO.refl _)
      | (with_reducible exact LeO.none _)
      | (with_reducible refine LeO.ite ?_ ?_)
      | (with_reducible refine LeO.bind ?_ (fun _ => ?_))
      | exact spec_NameRight.mono _ _
      | exact spec_l12Text.mono _ _
      | exact LeO.none _
      | refine LeO.ite ?_ ?_
      | refine LeO.bind ?_ (fun _ => ?_)
set_option maxHeartbeats 8000000 in
set_option maxRecDepth 100000 in
theorem spec_l12Row.calls (k : Nat) (a0_0 : Int) (a0_1 : ByteArray) (a0_2 : ByteArray) (a0_3 : ByteArray) (a0_4 : Bool) (a0_5 : Int) (a0_6 : Bool) (r : Bool) (w : World) (h : spec_l12Row.f k a0_0 a0_1 a0_2 a0_3 a0_4 a0_5 a0_6 = some r) :
    Calls Tryd.prog 110 #[.agg #[.int .i64 a0_0, .string a0_1, .string a0_2, .string a0_3, .bool a0_4, .int .i64 a0_5, .bool a0_6]] w fun e w' => e = .returned (.bool r) ∧ Below w.heap.size w w' := by
  have hu34 := Tryd.underlying34
  have HB := Aside0.mk (Below.refl w.heap.size w)
  have H : ((spec_NameRight.f k a0_1).bind fun t194 => (if t194 = true then ((spec_l12Text.f k a0_2).bind fun t195 => (if t195 = true then ((spec_l12Text.f k a0_3).bind fun t196 => (if t196 = true then (if a0_6 = true then (if a0_4 = true then (some false) else (if a0_2.toList = ([] : List UInt8) then (some (a0_3.toList == ([] : List UInt8))) else (some false))) else (some true)) else (some false))) else (some false))) else (some false))) = some r := h
  clear h
  replace H := Option.bind_eq_some_iff.mp H
  obtain ⟨t194, A20, H⟩ := H
  replace H : (if t194 = true then ((spec_l12Text.f k a0_2).bind fun t195 => (if t195 = true then ((spec_l12Text.f k a0_3).bind fun t196 => (if t196 = true then (if a0_6 = true then (if a0_4 = true then (some false) else (if a0_2.toList = ([] : List UInt8) then (some (a0_3.toList == ([] : List UInt8))) else (some false))) else (some true)) else (some false))) else (some false))) else (some false)) = some r := H
  have A2 := Aside0.mk A20
  clear A20
  by_cases c3 : t194 = true
  · subst c3
    have H1 : ((spec_l12Text.f k a0_2).bind fun t195 => (if t195 = true then ((spec_l12Text.f k a0_3).bind fun t196 => (if t196 = true then (if a0_6 = true then (if a0_4 = true then (some false) else (if a0_2.toList = ([] : List UInt8) then (some (a0_3.toList == ([] : List UInt8))) else (some false))) else (some true)) else (some false))) else (some false))) = some r := by rw [if_pos rfl] at H; exact H
    clear H
    have H := H1
    clear H1
    replace H := Option.bind_eq_some_iff.mp H
    obtain ⟨t195, A40, H⟩ := H
    replace H : (if t195 = true then ((spec_l12Text.f k a0_3).bind fun t196 => (if t196 = true then (if a0_6 = true then (if a0_4 = true then (some false) else (if a0_2.toList = ([] : List UInt8) then (some (a0_3.toList == ([] : List UInt8))) else (some false))) else (some true)) else (some false))) else (some false)) = some r := H
    have A4 := Aside0.mk A40
    clear A40
    by_cases c5 : t195 = true
    · subst c5
      have H1 : ((spec_l12Text.f k a0_3).bind fun t196 => (if t196 = true then (if a0_6 = true then (if a0_4 = true then (some false) else (if a0_2.toList = ([] : List UInt8) then (some (a0_3.toList == ([] : List UInt8))) else (some false))) else (some true)) else (some false))) = some r := by rw [if_pos rfl] at H; exact H
      clear H
      have H := H1
      clear H1
      replace H := Option.bind_eq_some_iff.mp H
      obtain ⟨t196, A60, H⟩ := H
      replace H : (if t196 = true then (if a0_6 = true then (if a0_4 = true then (some false) else (if a0_2.toList = ([] : List UInt8) then (some (a0_3.toList == ([] : List UInt8))) else (some false))) else (some true)) else (some false)) = some r := H
      have A6 := Aside0.mk A60
      clear A60
      by_cases c7 : t196 = true
      · subst c7
        have H1 : (if a0_6 = true then (if a0_4 = true then (some false) else (if a0_2.toList = ([] : List UInt8) then (some (a0_3.toList == ([] : List UInt8))) else (some false))) else (some true)) = some r := by rw [if_pos rfl] at H; exact H
        clear H
        have H := H1
        clear H1
        by_cases c8 : a0_6 = true
        · subst c8
          have H1 : (if a0_4 = true then (some false) else (if a0_2.toList = ([] : List UInt8) then (some (a0_3.toList == ([] : List UInt8))) else (some false))) = some r := by rw [if_pos rfl] at H; exact H
          clear H
          have H := H1
          clear H1
          by_cases c9 : a0_4 = true
          · subst c9
            have H1 : (some false) = some r := by rw [if_pos rfl] at H; exact H
            clear H
            have H := H1
            clear H1
            obtain rfl := Option.some.inj H
            go_enter Tryd.func110, Tryd.ntmps110
            go_wp2_with (first | ((with_reducible refine gate_dst (N := 1) rfl ?_); refine box_event ?hg (N := 1) ?hd (cs := #[.int .i64 a0_0, .string a0_1, .string a0_2, .string a0_3, .bool true, .int .i64 a0_5, .bool true]) (t := 34) ?hr ?_; (case hd => rfl); (case hg => rfl); (case hr => first | (go_simp; done) | (go_simp; rfl)); intro gb193 hg w10 hbox hb; have n0_ := Aside0.mk (below_step By hb); have n1_ := Aside0.mk (hbox); have n2_ := Aside0.mk ((by rw [hg]; exact (below_size By) : w.heap.size ≤ gb193)); have n3_ := Aside0.mk ((by rw [hg]; exact (below_size By) : w.heap.size ≤ gb193)); clear HB; have HB := n0_; have BK193 := n1_; have GW193 := n2_; have GE193 := n3_; clear n0_ n1_ n2_ n3_; clear hb hbox hg; have ⟨hcz11_0, hcz11_1, hcz11_2, hcz11_3, hcz11_4, hcz11_5, hcz11_6⟩ := cq7 BK193.out; have ⟨hfz11_0, hfz11_1, hfz11_2, hfz11_3, hfz11_4, hfz11_5, hfz11_6⟩ := fq7 BK193.out) | ((with_reducible refine gate_callee (f := 143) rfl ?_); refine goesL_ (some 5) rfl rfl Tryd.func143 (by kernel_rfl) rfl #[.string a0_1] rfl Ag ?_; (with_reducible refine (spec_NameRight.calls k a0_1 true _ A2.out).mono ?_); rintro e w' ⟨rfl, ⟨nd, rfl⟩⟩; refine ⟨_, rfl, ?_⟩) | (go_at_call 145; (with_reducible refine (spec_l12Text.calls k a0_2 true _ A4.out).mono ?_); rintro e w12 ⟨rfl, hb⟩; have n0_ := Aside0.mk (bb BK193.out hb); have n1_ := Aside0.mk (below_step By hb); clear BK193; clear HB; have BK193 := n0_; have HB := n1_; clear n0_ n1_; (try clear hb); (try clear hb2); (try clear hk); (try clear hi); have ⟨hcz13_0, hcz13_1, hcz13_2, hcz13_3, hcz13_4, hcz13_5, hcz13_6⟩ := cq7 BK193.out; have ⟨hfz13_0, hfz13_1, hfz13_2, hfz13_3, hfz13_4, hfz13_5, hfz13_6⟩ := fq7 BK193.out) | (go_at_call 145; (with_reducible refine (spec_l12Text.calls k a0_3 true _ A6.out).mono ?_); rintro e w14 ⟨rfl, hb⟩; have n0_ := Aside0.mk (bb BK193.out hb); have n1_ := Aside0.mk (below_step By hb); clear BK193; clear HB; have BK193 := n0_; have HB := n1_; clear n0_ n1_; (try clear hb); (try clear hb2); (try clear hk); (try clear hi); have ⟨hcz15_0, hcz15_1, hcz15_2, hcz15_3, hcz15_4, hcz15_5, hcz15_6⟩ := cq7 BK193.out; have ⟨hfz15_0, hfz15_1, hfz15_2, hfz15_3, hfz15_4, hfz15_5, hfz15_6⟩ := fq7 BK193.out))
            go_ret
            exact ⟨Rf, By⟩
          · replace c9 := Bool.eq_false_iff.mpr c9
            subst c9
            have H1 : (if a0_2.toList = ([] : List UInt8) then (some (a0_3.toList == ([] : List UInt8))) else (some false)) = some r := by rw [if_neg (show ¬ (false = true) by decide)] at H; exact H
            clear H
            have H := H1
            clear H1
            by_cases c16 : a0_2.toList = ([] : List UInt8)
            · rw [if_pos c16] at H
              have c16b0 : (a0_2.toList == ([] : List UInt8)) = true := beq_iff_eq.mpr c16
              have c16b1 : (a0_2.toList != ([] : List UInt8)) = false := bne_eq_false_iff_eq.mpr c16
              clear c16
              obtain rfl := Option.some.inj H
              go_enter Tryd.func110, Tryd.ntmps110
              go_wp2_with (first | ((with_reducible refine gate_dst (N := 1) rfl ?_); refine box_event ?hg (N := 1) ?hd (cs := #[.int .i64 a0_0, .string a0_1, .string a0_2, .string a0_3, .bool false, .int .i64 a0_5, .bool true]) (t := 34) ?hr ?_; (case hd => rfl); (case hg => rfl); (case hr => first | (go_simp; done) | (go_simp; rfl)); intro gb193 hg w17 hbox hb; have n0_ := Aside0.mk (below_step By hb); have n1_ := Aside0.mk (hbox); have n2_ := Aside0.mk ((by rw [hg]; exact (below_size By) : w.heap.size ≤ gb193)); have n3_ := Aside0.mk ((by rw [hg]; exact (below_size By) : w.heap.size ≤ gb193)); clear HB; have HB := n0_; have BK193 := n1_; have GW193 := n2_; have GE193 := n3_; clear n0_ n1_ n2_ n3_; clear hb hbox hg; have ⟨hcz18_0, hcz18_1, hcz18_2, hcz18_3, hcz18_4, hcz18_5, hcz18_6⟩ := cq7 BK193.out; have ⟨hfz18_0, hfz18_1, hfz18_2, hfz18_3, hfz18_4, hfz18_5, hfz18_6⟩ := fq7 BK193.out) | ((with_reducible refine gate_callee (f := 143) rfl ?_); refine goesL_ (some 5) rfl rfl Tryd.func143 (by kernel_rfl) rfl #[.string a0_1] rfl Ag ?_; (with_reducible refine (spec_NameRight.calls k a0_1 true _ A2.out).mono ?_); rintro e w' ⟨rfl, ⟨nd, rfl⟩⟩; refine ⟨_, rfl, ?_⟩) | (go_at_call 145; (with_reducible refine (spec_l12Text.calls k a0_2 true _ A4.out).mono ?_); rintro e w19 ⟨rfl, hb⟩; have n0_ := Aside0.mk (bb BK193.out hb); have n1_ := Aside0.mk (below_step By hb); clear BK193; clear HB; have BK193 := n0_; have HB := n1_; clear n0_ n1_; (try clear hb); (try clear hb2); (try clear hk); (try clear hi); have ⟨hcz20_0, hcz20_1, hcz20_2, hcz20_3, hcz20_4, hcz20_5, hcz20_6⟩ := cq7 BK193.out; have ⟨hfz20_0, hfz20_1, hfz20_2, hfz20_3, hfz20_4, hfz20_5, hfz20_6⟩ := fq7 BK193.out) | (go_at_call 145; (with_reducible refine (spec_l12Text.calls k a0_3 true _ A6.out).mono ?_); rintro e w21 ⟨rfl, hb⟩; have n0_ := Aside0.mk (bb BK193.out hb); have n1_ := Aside0.mk (below_step By hb); clear BK193; clear HB; have BK193 := n0_; have HB := n1_; clear n0_ n1_; (try clear hb); (try clear hb2); (try clear hk); (try clear hi); have ⟨hcz22_0, hcz22_1, hcz22_2, hcz22_3, hcz22_4, hcz22_5, hcz22_6⟩ := cq7 BK193.out; have ⟨hfz22_0, hfz22_1, hfz22_2, hfz22_3, hfz22_4, hfz22_5, hfz22_6⟩ := fq7 BK193.out))
              go_ret
              exact ⟨Rf, By⟩
            · rw [if_neg c16] at H
              have c16b0 : (a0_2.toList == ([] : List UInt8)) = false := beq_eq_false_iff_ne.mpr c16
              have c16b1 : (a0_2.toList != ([] : List UInt8)) = true := bne_iff_ne.mpr c16
              obtain rfl := Option.some.inj H
              go_enter Tryd.func110, Tryd.ntmps110
              go_wp2_with (first | ((with_reducible refine gate_dst (N := 1) rfl ?_); refine box_event ?hg (N := 1) ?hd (cs := #[.int .i64 a0_0, .string a0_1, .string a0_2, .string a0_3, .bool false, .int .i64 a0_5, .bool true]) (t := 34) ?hr ?_; (case hd => rfl); (case hg => rfl); (case hr => first | (go_simp; done) | (go_simp; rfl)); intro gb193 hg w23 hbox hb; have n0_ := Aside0.mk (below_step By hb); have n1_ := Aside0.mk (hbox); have n2_ := Aside0.mk ((by rw [hg]; exact (below_size By) : w.heap.size ≤ gb193)); have n3_ := Aside0.mk ((by rw [hg]; exact (below_size By) : w.heap.size ≤ gb193)); clear HB; have HB := n0_; have BK193 := n1_; have GW193 := n2_; have GE193 := n3_; clear n0_ n1_ n2_ n3_; clear hb hbox hg; have ⟨hcz24_0, hcz24_1, hcz24_2, hcz24_3, hcz24_4, hcz24_5, hcz24_6⟩ := cq7 BK193.out; have ⟨hfz24_0, hfz24_1, hfz24_2, hfz24_3, hfz24_4, hfz24_5, hfz24_6⟩ := fq7 BK193.out) | ((with_reducible refine gate_callee (f := 143) rfl ?_); refine goesL_ (some 5) rfl rfl Tryd.func143 (by kernel_rfl) rfl #[.string a0_1] rfl Ag ?_; (with_reducible refine (spec_NameRight.calls k a0_1 true _ A2.out).mono ?_); rintro e w' ⟨rfl, ⟨nd, rfl⟩⟩; refine ⟨_, rfl, ?_⟩) | (go_at_call 145; (with_reducible refine (spec_l12Text.calls k a0_2 true _ A4.out).mono ?_); rintro e w25 ⟨rfl, hb⟩; have n0_ := Aside0.mk (bb BK193.out hb); have n1_ := Aside0.mk (below_step By hb); clear BK193; clear HB; have BK193 := n0_; have HB := n1_; clear n0_ n1_; (try clear hb); (try clear hb2); (try clear hk); (try clear hi); have ⟨hcz26_0, hcz26_1, hcz26_2, hcz26_3, hcz26_4, hcz26_5, hcz26_6⟩ := cq7 BK193.out; have ⟨hfz26_0, hfz26_1, hfz26_2, hfz26_3, hfz26_4, hfz26_5, hfz26_6⟩ := fq7 BK193.out) | (go_at_call 145; (with_reducible refine (spec_l12Text.calls k a0_3 true _ A6.out).mono ?_); rintro e w27 ⟨rfl, hb⟩; have n0_ := Aside0.mk (bb BK193.out hb); have n1_ := Aside0.mk (below_step By hb); clear BK193; clear HB; have BK193 := n0_; have HB := n1_; clear n0_ n1_; (try clear hb); (try clear hb2); (try clear hk); (try clear hi); have ⟨hcz28_0, hcz28_1, hcz28_2, hcz28_3, hcz28_4, hcz28_5, hcz28_6⟩ := cq7 BK193.out; have ⟨hfz28_0, hfz28_1, hfz28_2, hfz28_3, hfz28_4, hfz28_5, hfz28_6⟩ := fq7 BK193.out))
              go_ret
              exact ⟨Rf, By⟩
        · replace c8 := Bool.eq_false_iff.mpr c8
          subst c8
          have H1 : (some true) = some r := by rw [if_neg (show ¬ (false = true) by decide)] at H; exact H
          clear H
          have H := H1
          clear H1
          obtain rfl := Option.some.inj H
          go_enter Tryd.func110, Tryd.ntmps110
          go_wp2_with (first | ((with_reducible refine gate_dst (N := 1) rfl ?_); refine box_event ?hg (N := 1) ?hd (cs := #[.int .i64 a0_0, .string a0_1, .string a0_2, .string a0_3, .bool a0_4, .int .i64 a0_5, .bool false]) (t := 34) ?hr ?_; (case hd => rfl); (case hg => rfl); (case hr => first | (go_simp; done) | (go_simp; rfl)); intro gb193 hg w29 hbox hb; have n0_ := Aside0.mk (below_step By hb); have n1_ := Aside0.mk (hbox); have n2_ := Aside0.mk ((by rw [hg]; exact (below_size By) : w.heap.size ≤ gb193)); have n3_ := Aside0.mk ((by rw [hg]; exact (below_size By) : w.heap.size ≤ gb193)); clear HB; have HB := n0_; have BK193 := n1_; have GW193 := n2_; have GE193 := n3_; clear n0_ n1_ n2_ n3_; clear hb hbox hg; have ⟨hcz30_0, hcz30_1, hcz30_2, hcz30_3, hcz30_4, hcz30_5, hcz30_6⟩ := cq7 BK193.out; have ⟨hfz30_0, hfz30_1, hfz30_2, hfz30_3, hfz30_4, hfz30_5, hfz30_6⟩ := fq7 BK193.out) | ((with_reducible refine gate_callee (f := 143) rfl ?_); refine goesL_ (some 5) rfl rfl Tryd.func143 (by kernel_rfl) rfl #[.string a0_1] rfl Ag ?_; (with_reducible refine (spec_NameRight.calls k a0_1 true _ A2.out).mono ?_); rintro e w' ⟨rfl, ⟨nd, rfl⟩⟩; refine ⟨_, rfl, ?_⟩) | (go_at_call 145; (with_reducible refine (spec_l12Text.calls k a0_2 true _ A4.out).mono ?_); rintro e w31 ⟨rfl, hb⟩; have n0_ := Aside0.mk (bb BK193.out hb); have n1_ := Aside0.mk (below_step By hb); clear BK193; clear HB; have BK193 := n0_; have HB := n1_; clear n0_ n1_; (try clear hb); (try clear hb2); (try clear hk); (try clear hi); have ⟨hcz32_0, hcz32_1, hcz32_2, hcz32_3, hcz32_4, hcz32_5, hcz32_6⟩ := cq7 BK193.out; have ⟨hfz32_0, hfz32_1, hfz32_2, hfz32_3, hfz32_4, hfz32_5, hfz32_6⟩ := fq7 BK193.out) | (go_at_call 145; (with_reducible refine (spec_l12Text.calls k a0_3 true _ A6.out).mono ?_); rintro e w33 ⟨rfl, hb⟩; have n0_ := Aside0.mk (bb BK193.out hb); have n1_ := Aside0.mk (below_step By hb); clear BK193; clear HB; have BK193 := n0_; have HB := n1_; clear n0_ n1_; (try clear hb); (try clear hb2); (try clear hk); (try clear hi); have ⟨hcz34_0, hcz34_1, hcz34_2, hcz34_3, hcz34_4, hcz34_5, hcz34_6⟩ := cq7 BK193.out; have ⟨hfz34_0, hfz34_1, hfz34_2, hfz34_3, hfz34_4, hfz34_5, hfz34_6⟩ := fq7 BK193.out))
          go_ret
          exact ⟨Rf, By⟩
      · replace c7 := Bool.eq_false_iff.mpr c7
        subst c7
        have H1 : (some false) = some r := by rw [if_neg (show ¬ (false = true) by decide)] at H; exact H
        clear H
        have H := H1
        clear H1
        obtain rfl := Option.some.inj H
        go_enter Tryd.func110, Tryd.ntmps110
        go_wp2_with (first | ((with_reducible refine gate_dst (N := 1) rfl ?_); refine box_event ?hg (N := 1) ?hd (cs := #[.int .i64 a0_0, .string a0_1, .string a0_2, .string a0_3, .bool a0_4, .int .i64 a0_5, .bool a0_6]) (t := 34) ?hr ?_; (case hd => rfl); (case hg => rfl); (case hr => first | (go_simp; done) | (go_simp; rfl)); intro gb193 hg w35 hbox hb; have n0_ := Aside0.mk (below_step By hb); have n1_ := Aside0.mk (hbox); have n2_ := Aside0.mk ((by rw [hg]; exact (below_size By) : w.heap.size ≤ gb193)); have n3_ := Aside0.mk ((by rw [hg]; exact (below_size By) : w.heap.size ≤ gb193)); clear HB; have HB := n0_; have BK193 := n1_; have GW193 := n2_; have GE193 := n3_; clear n0_ n1_ n2_ n3_; clear hb hbox hg; have ⟨hcz36_0, hcz36_1, hcz36_2, hcz36_3, hcz36_4, hcz36_5, hcz36_6⟩ := cq7 BK193.out; have ⟨hfz36_0, hfz36_1, hfz36_2, hfz36_3, hfz36_4, hfz36_5, hfz36_6⟩ := fq7 BK193.out) | ((with_reducible refine gate_callee (f := 143) rfl ?_); refine goesL_ (some 5) rfl rfl Tryd.func143 (by kernel_rfl) rfl #[.string a0_1] rfl Ag ?_; (with_reducible refine (spec_NameRight.calls k a0_1 true _ A2.out).mono ?_); rintro e w' ⟨rfl, ⟨nd, rfl⟩⟩; refine ⟨_, rfl, ?_⟩) | (go_at_call 145; (with_reducible refine (spec_l12Text.calls k a0_2 true _ A4.out).mono ?_); rintro e w37 ⟨rfl, hb⟩; have n0_ := Aside0.mk (bb BK193.out hb); have n1_ := Aside0.mk (below_step By hb); clear BK193; clear HB; have BK193 := n0_; have HB := n1_; clear n0_ n1_; (try clear hb); (try clear hb2); (try clear hk); (try clear hi); have ⟨hcz38_0, hcz38_1, hcz38_2, hcz38_3, hcz38_4, hcz38_5, hcz38_6⟩ := cq7 BK193.out; have ⟨hfz38_0, hfz38_1, hfz38_2, hfz38_3, hfz38_4, hfz38_5, hfz38_6⟩ := fq7 BK193.out) | (go_at_call 145; (with_reducible refine (spec_l12Text.calls k a0_3 false _ A6.out).mono ?_); rintro e w39 ⟨rfl, hb⟩; have n0_ := Aside0.mk (bb BK193.out hb); have n1_ := Aside0.mk (below_step By hb); clear BK193; clear HB; have BK193 := n0_; have HB := n1_; clear n0_ n1_; (try clear hb); (try clear hb2); (try clear hk); (try clear hi)))
        go_ret
        exact ⟨Rf, By⟩
    · replace c5 := Bool.eq_false_iff.mpr c5
      subst c5
      have H1 : (some false) = some r := by rw [if_neg (show ¬ (false = true) by decide)] at H; exact H
      clear H
      have H := H1
      clear H1
      obtain rfl := Option.some.inj H
      go_enter Tryd.func110, Tryd.ntmps110
      go_wp2_with (first | ((with_reducible refine gate_dst (N := 1) rfl ?_); refine box_event ?hg (N := 1) ?hd (cs := #[.int .i64 a0_0, .string a0_1, .string a0_2, .string a0_3, .bool a0_4, .int .i64 a0_5, .bool a0_6]) (t := 34) ?hr ?_; (case hd => rfl); (case hg => rfl); (case hr => first | (go_simp; done) | (go_simp; rfl)); intro gb193 hg w40 hbox hb; have n0_ := Aside0.mk (below_step By hb); have n1_ := Aside0.mk (hbox); have n2_ := Aside0.mk ((by rw [hg]; exact (below_size By) : w.heap.size ≤ gb193)); have n3_ := Aside0.mk ((by rw [hg]; exact (below_size By) : w.heap.size ≤ gb193)); clear HB; have HB := n0_; have BK193 := n1_; have GW193 := n2_; have GE193 := n3_; clear n0_ n1_ n2_ n3_; clear hb hbox hg; have ⟨hcz41_0, hcz41_1, hcz41_2, hcz41_3, hcz41_4, hcz41_5, hcz41_6⟩ := cq7 BK193.out; have ⟨hfz41_0, hfz41_1, hfz41_2, hfz41_3, hfz41_4, hfz41_5, hfz41_6⟩ := fq7 BK193.out) | ((with_reducible refine gate_callee (f := 143) rfl ?_); refine goesL_ (some 5) rfl rfl Tryd.func143 (by kernel_rfl) rfl #[.string a0_1] rfl Ag ?_; (with_reducible refine (spec_NameRight.calls k a0_1 true _ A2.out).mono ?_); rintro e w' ⟨rfl, ⟨nd, rfl⟩⟩; refine ⟨_, rfl, ?_⟩) | (go_at_call 145; (with_reducible refine (spec_l12Text.calls k a0_2 false _ A4.out).mono ?_); rintro e w42 ⟨rfl, hb⟩; have n0_ := Aside0.mk (bb BK193.out hb); have n1_ := Aside0.mk (below_step By hb); clear BK193; clear HB; have BK193 := n0_; have HB := n1_; clear n0_ n1_; (try clear hb); (try clear hb2); (try clear hk); (try clear hi)))
      go_ret
      exact ⟨Rf, By⟩
  · replace c3 := Bool.eq_false_iff.mpr c3
    subst c3
    have H1 : (some false) = some r := by rw [if_neg (show ¬ (false = true) by decide)] at H; exact H
    clear H
    have H := H1
    clear H1
    obtain rfl := Option.some.inj H
    go_enter Tryd.func110, Tryd.ntmps110
    go_wp2_with (first | ((with_reducible refine gate_dst (N := 1) rfl ?_); refine box_event ?hg (N := 1) ?hd (cs := #[.int .i64 a0_0, .string a0_1, .string a0_2, .string a0_3, .bool a0_4, .int .i64 a0_5, .bool a0_6]) (t := 34) ?hr ?_; (case hd => rfl); (case hg => rfl); (case hr => first | (go_simp; done) | (go_simp; rfl)); intro gb193 hg w43 hbox hb; have n0_ := Aside0.mk (below_step By hb); have n1_ := Aside0.mk (hbox); have n2_ := Aside0.mk ((by rw [hg]; exact (below_size By) : w.heap.size ≤ gb193)); have n3_ := Aside0.mk ((by rw [hg]; exact (below_size By) : w.heap.size ≤ gb193)); clear HB; have HB := n0_; have BK193 := n1_; have GW193 := n2_; have GE193 := n3_; clear n0_ n1_ n2_ n3_; clear hb hbox hg; have ⟨hcz44_0, hcz44_1, hcz44_2, hcz44_3, hcz44_4, hcz44_5, hcz44_6⟩ := cq7 BK193.out; have ⟨hfz44_0, hfz44_1, hfz44_2, hfz44_3, hfz44_4, hfz44_5, hfz44_6⟩ := fq7 BK193.out) | ((with_reducible refine gate_callee (f := 143) rfl ?_); refine goesL_ (some 5) rfl rfl Tryd.func143 (by kernel_rfl) rfl #[.string a0_1] rfl Ag ?_; (with_reducible refine (spec_NameRight.calls k a0_1 false _ A2.out).mono ?_); rintro e w' ⟨rfl, ⟨nd, rfl⟩⟩; refine ⟨_, rfl, ?_⟩))
    go_ret
    exact ⟨Rf, By⟩

end Go.Proofs.YtpocoeghobdfiaaDoor.PG

-- WRITTEN BY A PROGRAM OF THIS SESSION (wip/gen/gen.py), by way of the kit's print program. Lean checks it.
namespace Go.Proofs.YtpocoeghobdfiaaDoor.PG
open Go.Proofs.YtpocoeghobdfiaaDoor.Sq Go.RowKit Go.Proofs.YtpocoeghobdfiaaDoorW.PrintWords Go.Proofs.YtpocoeghobdfiaaDoorW.PrintLast Go.Proofs.YtpocoeghobdfiaaDoorW.PrintMore
attribute [local go_sem] max2_int min2_int max_two min_two max_three min_three max_four min_four   -- for this text's walks alone
set_option linter.unusedVariables false
set_option linter.unusedSimpArgs false

/-! ### spec_TableRight: function 58 -/
mutual
def spec_TableRight.j0 : Nat → Bool → Int → Int → List (S34) → Option (Bool)
  | 0, _, _, _, _ => none
  | k + 1, x21, x198000, x198001, x198002 => if x21 = true then (some false) else (spec_TableRight.l0 k 0 x198000 x198001 x198002)
def spec_TableRight.l0 : Nat → Int → Int → Int → List (S34) → Option (Bool)
  | 0, _, _, _, _ => none
  | k + 1, x3, x198000, x198001, x198002 => if x3 < (x198002.length : Int) then (if 0 ≤ x3 then ((spec_l12Row.f k ((rd_T34 x198002 x3).f0) ((rd_T34 x198002 x3).f1) ((rd_T34 x198002 x3).f2) ((rd_T34 x198002 x3).f3) ((rd_T34 x198002 x3).f4) ((rd_T34 x198002 x3).f5) ((rd_T34 x198002 x3).f6)).bind fun t202 => (if t202 = true then ((spec_l02Is.f ((rd_T34 x198002 x3).f0) 1 (wrap64 (x198000 - 1))).bind fun t203 => (if t203 = true then (if x3 > 0 then (if 0 ≤ (wrap64 (x3 - 1)) then (if (wrap64 (x3 - 1)) < (x198002.length : Int) then (if ((rd_T34 x198002 (wrap64 (x3 - 1))).f0) ≥ ((rd_T34 x198002 x3).f0) then (spec_TableRight.j2 k x3 true x198000 x198001 x198002 ((rd_T34 x198002 x3).f0) ((rd_T34 x198002 x3).f1) ((rd_T34 x198002 x3).f2) ((rd_T34 x198002 x3).f3) ((rd_T34 x198002 x3).f4) ((rd_T34 x198002 x3).f5) ((rd_T34 x198002 x3).f6)) else ((spec_l02Is.f ((rd_T34 x198002 x3).f5) 1 x198001).bind fun t205 => (spec_TableRight.j2 k x3 (!t205) x198000 x198001 x198002 ((rd_T34 x198002 x3).f0) ((rd_T34 x198002 x3).f1) ((rd_T34 x198002 x3).f2) ((rd_T34 x198002 x3).f3) ((rd_T34 x198002 x3).f4) ((rd_T34 x198002 x3).f5) ((rd_T34 x198002 x3).f6)))) else (none)) else (none)) else ((spec_l02Is.f ((rd_T34 x198002 x3).f5) 1 x198001).bind fun t206 => (spec_TableRight.j2 k x3 (!t206) x198000 x198001 x198002 ((rd_T34 x198002 x3).f0) ((rd_T34 x198002 x3).f1) ((rd_T34 x198002 x3).f2) ((rd_T34 x198002 x3).f3) ((rd_T34 x198002 x3).f4) ((rd_T34 x198002 x3).f5) ((rd_T34 x198002 x3).f6)))) else (spec_TableRight.j2 k x3 true x198000 x198001 x198002 ((rd_T34 x198002 x3).f0) ((rd_T34 x198002 x3).f1) ((rd_T34 x198002 x3).f2) ((rd_T34 x198002 x3).f3) ((rd_T34 x198002 x3).f4) ((rd_T34 x198002 x3).f5) ((rd_T34 x198002 x3).f6)))) else (spec_TableRight.j2 k x3 true x198000 x198001 x198002 ((rd_T34 x198002 x3).f0) ((rd_T34 x198002 x3).f1) ((rd_T34 x198002 x3).f2) ((rd_T34 x198002 x3).f3) ((rd_T34 x198002 x3).f4) ((rd_T34 x198002 x3).f5) ((rd_T34 x198002 x3).f6)))) else (none)) else (some true)
def spec_TableRight.j2 : Nat → Int → Bool → Int → Int → List (S34) → Int → ByteArray → ByteArray → ByteArray → Bool → Int → Bool → Option (Bool)
  | 0, _, _, _, _, _, _, _, _, _, _, _, _ => none
  | k + 1, x3, x69, x198000, x198001, x198002, x202000, x202001, x202002, x202003, x202004, x202005, x202006 => if x69 = true then (some false) else (spec_TableRight.l1 k x3 0 x198000 x198001 x198002 x202000 x202001 x202002 x202003 x202004 x202005 x202006)
def spec_TableRight.l1 : Nat → Int → Int → Int → Int → List (S34) → Int → ByteArray → ByteArray → ByteArray → Bool → Int → Bool → Option (Bool)
  | 0, _, _, _, _, _, _, _, _, _, _, _, _ => none
  | k + 1, x3, x5, x198000, x198001, x198002, x202000, x202001, x202002, x202003, x202004, x202005, x202006 => if x5 < x3 then (if 0 ≤ x5 then (if x5 < (x198002.length : Int) then (if ((rd_T34 x198002 x5).f5) = x202005 then (some false) else (if ((rd_T34 x198002 x5).f6 = true) then (spec_TableRight.l1 k x3 (wrap64 (x5 + 1)) x198000 x198001 x198002 x202000 x202001 x202002 x202003 x202004 x202005 x202006) else (if x202006 = true then (spec_TableRight.l1 k x3 (wrap64 (x5 + 1)) x198000 x198001 x198002 x202000 x202001 x202002 x202003 x202004 x202005 x202006) else (if ((rd_T34 x198002 x5).f1).toList = x202001.toList then (some false) else (spec_TableRight.l1 k x3 (wrap64 (x5 + 1)) x198000 x198001 x198002 x202000 x202001 x202002 x202003 x202004 x202005 x202006))))) else (none)) else (none)) else (spec_TableRight.l0 k (wrap64 (x3 + 1)) x198000 x198001 x198002)
end
def spec_TableRight.f (k : Nat) (a0_0 : Int) (a0_1 : Int) (l0_2 : List (S34)) : Option (Bool) := (spec_l02Is.f a0_0 1 1000000).bind fun t198 => (if t198 = true then ((spec_l02Is.f a0_1 0 1000000).bind fun t199 => (if t199 = true then (spec_TableRight.j0 k (decide ((l0_2.length : Int) > 20)) a0_0 a0_1 l0_2) else (spec_TableRight.j0 k true a0_0 a0_1 l0_2))) else (spec_TableRight.j0 k true a0_0 a0_1 l0_2))
theorem spec_TableRight.mono_l : ∀ k, (∀ y0 y1 y2 y3, LeO (spec_TableRight.j0 k y0 y1 y2 y3) (spec_TableRight.j0 (k + 1) y0 y1 y2 y3)) ∧ (∀ y0 y1 y2 y3, LeO (spec_TableRight.l0 k y0 y1 y2 y3) (spec_TableRight.l0 (k + 1) y0 y1 y2 y3)) ∧ (∀ y0 y1 y2 y3 y4 y5 y6 y7 y8 y9 y10 y11, LeO (spec_TableRight.j2 k y0 y1 y2 y3 y4 y5 y6 y7 y8 y9 y10 y11) (spec_TableRight.j2 (k + 1) y0 y1 y2 y3 y4 y5 y6 y7 y8 y9 y10 y11)) ∧ (∀ y0 y1 y2 y3 y4 y5 y6 y7 y8 y9 y10 y11, LeO (spec_TableRight.l1 k y0 y1 y2 y3 y4 y5 y6 y7 y8 y9 y10 y11) (spec_TableRight.l1 (k + 1) y0 y1 y2 y3 y4 y5 y6 y7 y8 y9 y10 y11))
  | 0 => ⟨fun _ _ _ _ r h => by simp [spec_TableRight.j0] at h, fun _ _ _ _ r h => by simp [spec_TableRight.l0] at h, fun _ _ _ _ _ _ _ _ _ _ _ _ r h => by simp [spec_TableRight.j2] at h, fun _ _ _ _ _ _ _ _ _ _ _ _ r h => by simp [spec_TableRight.l1] at h⟩
  | k + 1 => by
    obtain ⟨ih0, ih1, ih2, ih3⟩ := spec_TableRight.mono_l k
    refine ⟨?_, ?_, ?_, ?_⟩
    · intro y0 y1 y2 y3
      unfold spec_TableRight.j0
      repeat' first
      | (with_reducible exact ih0 _ _ _ _)
      | (with_reducible exact ih1 _ _ _ _)
      | (with_reducible exact ih2 _ _ _ _ _ _ _ _ _ _ _ _)
      | (with_reducible exact ih3 _ _ _ _ _ _ _ _ _ _ _ _)
      | (with_reducible exact spec_l12Row.mono _ _ _ _ _ _ _ _)
      | (with_reducible exact LeO.refl _)
      | (with_reducible exact LeO.none _)
      | (with_reducible refine LeO.ite ?_ ?_)
      | (with_reducible refine LeO.bind ?_ (fun _ => ?_))
      | exact ih0 _ _ _ _
      | exact ih1 _ _ _ _
      | exact ih2 _ _ _ _ _ _ _ _ _ _ _ _
      | exact ih3 _ _ _ _ _ _ _ _ _ _ _ _
      | exact spec_l12Row.mono _ _ _ _ _ _ _ _
      | exact LeO.none _
      | refine LeO.ite ?_ ?_
      | refine LeO.bind ?_ (fun _ => ?_)
    · intro y0 y1 y2 y3
      unfold spec_TableRight.l0
      repeat' first
      | (with_reducible exact ih0 _ _ _ _)
      | (with_reducible exact ih1 _ _ _ _)
      | (with_reducible exact ih2 _ _ _ _ _ _ _ _ _ _ _ _)
      | (with_reducible exact ih3 _ _ _ _ _ _ _ _ _ _ _ _)
      | (with_reducible exact spec_l12Row.mono _ _ _ _ _ _ _ _)
      | (with_reducible exact LeO.refl _)
      | (with_reducible exact LeO.none _)
      | (with_reducible refine LeO.ite ?_ ?_)
      | (with_reducible refine LeO.bind ?_ (fun _ => ?_))
      | exact ih0 _ _ _ _
      | exact ih1 _ _ _ _
      | exact ih2 _ _ _ _ _ _ _ _ _ _ _ _
      | exact ih3 _ _ _ _ _ _ _ _ _ _ _ _
      | exact spec_l12Row.mono _ _ _ _ _ _ _ _
      | exact LeO.none _
      | refine LeO.ite ?_ ?_
      | refine LeO.bind ?_ (fun _ => ?_)
    · intro y0 y1 y2 y3 y4 y5 y6 y7 y8 y9 y10 y11
      unfold spec_TableRight.j2
      repeat' first
      | (with_reducible exact ih0 _ _ _ _)
      | (with_reducible exact ih1 _ _ _ _)
      | (with_reducible exact ih2 _ _ _ _ _ _ _ _ _ _ _ _)
      | (with_reducible exact ih3 _ _ _ _ _ _ _ _ _ _ _ _)
      | (with_reducible exact spec_l12Row.mono _ _ _ _ _ _ _ _)
      | (with_reducible exact LeO.refl _)
      | (with_reducible exact LeO.none _)
      | (with_reducible refine LeO.ite ?_ ?_)
      | (with_reducible refine LeO.bind ?_ (fun _ => ?_))
      | exact ih0 _ _ _ _
      | exact ih1 _ _ _ _
      | exact ih2 _ _ _ _ _ _ _ _ _ _ _ _
      | exact ih3 _ _ _ _ _ _ _ _ _ _ _ _
      | exact spec_l12Row.mono _ _ _ _ _ _ _ _
      | exact LeO.none _
      | refine LeO.ite ?_ ?_
      | refine LeO.bind ?_ (fun _ => ?_)
    · intro y0 y1 y2 y3 y4 y5 y6 y7 y8 y9 y10 y11
      unfold spec_TableRight.l1
      repeat' first
      | (with_reducible exact ih0 _ _ _ _)
      | (with_reducible exact ih1 _ _ _ _)
      | (with_reducible exact ih2 _ _ _ _ _ _ _ _ _ _ _ _)
      | (with_reducible exact ih3 _ _ _ _ _ _ _ _ _ _ _ _)
      | (with_reducible exact spec_l12Row.mono _ _ _ _ _ _ _ _)
      | (with_reducible exact LeO.refl _)
      | (with_reducible exact LeO.none _)
      | (with_reducible refine LeO.ite ?_ ?_)
      | (with_reducible refine LeO.bind ?_ (fun _ => ?_))
      | exact ih0 _ _ _ _
      | exact ih1 _ _ _ _
      | exact ih2 _ _ _ _ _ _ _ _ _ _ _ _
      | exact ih3 _ _ _ _ _ _ _ _ _ _ _ _
      | exact spec_l12Row.mono _ _ _ _ _ _ _ _
      | exact LeO.none _
      | refine LeO.ite ?_ ?_
      | refine LeO.bind ?_ (fun _ => ?_)
theorem spec_TableRight.mono : ∀ a0 a1 a2 k, LeO (spec_TableRight.f k a0 a1 a2) (spec_TableRight.f (k + 1) a0 a1 a2) := by
  intro a0 a1 a2 k
  obtain ⟨ih0, ih1, ih2, ih3⟩ := spec_TableRight.mono_l k
  unfold spec_TableRight.f
  repeat' first
      | (with_reducible exact ih0 _ _ _ _)
      | (with_reducible exact ih1 _ _ _ _)
      | (with_reducible exact ih2 _ _ _ _ _ _ _ _ _ _ _ _)
      | (with_reducible exact ih3 _ _ _ _ _ _ _ _ _ _ _ _)
      | (with_reducible exact spec_l12Row.mono _ _ _ _ _ _ _ _)
      | (with_reducible exact LeO.refl _)
      | (with_reducible exact LeO.none _)
      | (with_reducible refine LeO.ite ?_ ?_)
      | (with_reducible refine LeO.bind ?_ (fun _ => ?_))
      | exact ih0 _ _ _ _
      | exact ih1 _ _ _ _
      | exact ih2 _ _ _ _ _ _ _ _ _ _ _ _
      | exact ih3 _ _ _ _ _ _ _ _ _ _ _ _
      | exact spec_l12Row.mono _ _ _ _ _ _ _ _
      | exact LeO.none _
      | refine LeO.ite ?_ ?_
      | refine LeO.bind ?_ (fun _ => ?_)
def spec_TableRight.T7 : Bool × List (List Nat × List Nat) := (true, [([], []), ([0], [0]), ([1], [1]), ([2, 1], [2]), ([3], [3]), ([4, 3], [3, 4]), ([3], [3]), ([6, 3], [3, 6]), ([7, 3], [3, 7]), ([5, 8, 3, 3], [3, 5, 8]), ([9, 3], [3, 9]), ([3, 10], [3, 10]), ([11, 9], [11]), ([12], [12]), ([13, 12], [12, 13]), ([14, 12, 12], [12, 14]), ([15], [15]), ([16, 15], [15, 16]), ([15], [15]), ([18, 15], [15, 18]), ([17, 19, 15], [15, 17, 19]), ([20, 15], [15, 20]), ([21, 15], [15, 21]), ([15], [15]), ([23, 15], [15, 23]), ([22, 24, 15], [15, 22, 24]), ([15, 25, 12], [12, 15, 25]), ([12, 26], [12, 26]), ([27, 15], [27]), ([28], [28]), ([29, 28], [28, 29]), ([28], [28]), ([31, 28], [28, 31]), ([30, 32, 28, 28], [28, 30, 32]), ([33, 28], [28, 33]), ([28, 34], [28, 34])])
def spec_TableRight.B7 : List Nat := [0, 1, 3, 7, 15, 31, 15, 79, 207, 511, 1023, 2047, 4095, 8191, 16383, 32767, 65535, 131071, 65535, 327679, 1048575, 2097151, 4194303, 65535, 8454143, 33554431, 67108863, 134217727, 268435455, 536870911, 1073741823, 536870911, 2684354559, 8589934591, 17179869183, 34359738367]
theorem spec_TableRight.tab7 : rtab .any (opsOf Tryd.f58 7) = spec_TableRight.T7 := by kernel_rfl
theorem spec_TableRight.bits7 : waitsOk spec_TableRight.T7.2 spec_TableRight.B7 = true := by kernel_rfl
def spec_TableRight.T12 : Bool × List (List Nat × List Nat) := (true, [([], []), ([0], [0]), ([], []), ([1, 2], [1, 2]), ([3], [3]), ([4], [4]), ([], []), ([6], [6]), ([5, 7], [5, 7]), ([8], [8]), ([9], [9]), ([10, 9], [9, 10]), ([9], [9]), ([11, 12, 9], [9, 11, 12]), ([13, 9], [9, 13]), ([14, 9], [9, 14]), ([15, 9], [9, 15]), ([16, 9, 9], [9, 16]), ([17], [17]), ([18, 17], [17, 18]), ([19, 17], [17, 19]), ([17, 20, 9], [9, 17, 20]), ([21, 17, 9], [9, 21]), ([22], [22]), ([23, 22], [22, 23]), ([22], [22]), ([24, 25, 22], [22, 24, 25]), ([26, 22], [22, 26]), ([27, 22], [22, 27]), ([22], [22]), ([29, 22], [22, 29]), ([28, 30, 22], [22, 28, 30]), ([22, 31, 9], [9, 22, 31]), ([9, 32], [9, 32])])
def spec_TableRight.B12 : List Nat := [0, 1, 0, 7, 15, 31, 0, 64, 255, 511, 1023, 2047, 1023, 8191, 16383, 32767, 65535, 131071, 262143, 524287, 1048575, 2097151, 4194303, 8388607, 16777215, 8388607, 67108863, 134217727, 268435455, 8388607, 545259519, 2147483647, 4294967295, 8589934591]
theorem spec_TableRight.tab12 : rtab .any (opsOf Tryd.f58 12) = spec_TableRight.T12 := by kernel_rfl
theorem spec_TableRight.bits12 : waitsOk spec_TableRight.T12.2 spec_TableRight.B12 = true := by kernel_rfl
set_option maxHeartbeats 8000000 in
set_option maxRecDepth 100000 in
theorem spec_TableRight.calls (k : Nat) (a0_0 : Int) (a0_1 : Int) (A0_2 : Option Addr) (c0_2 : Nat) (l0_2 : List (S34)) (r : Bool) (w : World) (hr0_2 : Kd.C k34 w A0_2 l0_2.length l0_2) (hc0_2 : l0_2.length ≤ c0_2) (h : spec_TableRight.f k a0_0 a0_1 l0_2 = some r) :
    Calls Tryd.prog 58 #[.agg #[.int .i64 a0_0, .int .i64 a0_1, .slice A0_2 l0_2.length c0_2]] w fun e w' => e = .returned (.bool r) ∧ Below w.heap.size w w' := by
  have hu38 := Tryd.underlying38
  have hu34 := Tryd.underlying34
  have HR0_2 := Aside0.mk hr0_2
  have HC0_2 := Aside0.mk hc0_2
  clear hr0_2 hc0_2
  have HB := Aside0.mk (Below.refl w.heap.size w)
  have H : ((spec_l02Is.f a0_0 1 1000000).bind fun t198 => (if t198 = true then ((spec_l02Is.f a0_1 0 1000000).bind fun t199 => (if t199 = true then (spec_TableRight.j0 k (decide ((l0_2.length : Int) > 20)) a0_0 a0_1 l0_2) else (spec_TableRight.j0 k true a0_0 a0_1 l0_2))) else (spec_TableRight.j0 k true a0_0 a0_1 l0_2))) = some r := h
  clear h
  have HC2 := Aside0.mk H
  clear H
  go_enter Tryd.func58, Tryd.ntmps58
  go_upto_region 1 with (first | ((with_reducible refine gate_dst (N := 1) rfl ?_); (try (refine gate_guard (by rfl) ?_; dsimp only)); refine box_event ?hg (N := 1) ?hd (cs := #[.int .i64 a0_0, .int .i64 a0_1, .slice A0_2 l0_2.length c0_2]) (t := 38) ?hr ?_; (case hd => rfl); (case hg => rfl); (case hr => first | (go_simp; done) | (go_simp; rfl)); intro gb197 hg w3 hbox hb; have n0_ := Aside0.mk (below_step By hb); have n1_ := Aside0.mk (hbox); have n2_ := Aside0.mk ((by rw [hg]; exact (below_size By) : w.heap.size ≤ gb197)); have n3_ := Aside0.mk ((by rw [hg]; exact (below_size By) : w.heap.size ≤ gb197)); clear HB; have HB := n0_; have BK197 := n1_; have GW197 := n2_; have GE197 := n3_; clear n0_ n1_ n2_ n3_; clear hb hbox hg))
  (try simp only [Act.put, List.setIfInBounds_toArray, List.set_cons_zero, List.set_cons_succ])
  go_cut [21] (fun v21 wc => ∃ (kq : Nat) (x21_1 : Bool), v21 = .bool x21_1 ∧ Aside0 (spec_TableRight.j0 kq x21_1 a0_0 a0_1 l0_2 = some r) ∧ Aside0 (kq ≤ k) ∧ Aside0 (wc.heap[gb197]? = some (.cells #[.int .i64 a0_0, .int .i64 a0_1, (.slice A0_2 l0_2.length c0_2)] 38 (0, 0))) ∧ Aside0 (Below w.heap.size w wc))
  case first =>
    have H := HC2.out
    clear HC2
    replace H := Option.bind_eq_some_iff.mp H
    obtain ⟨t198, A40, H⟩ := H
    replace H : (if t198 = true then ((spec_l02Is.f a0_1 0 1000000).bind fun t199 => (if t199 = true then (spec_TableRight.j0 k (decide ((l0_2.length : Int) > 20)) a0_0 a0_1 l0_2) else (spec_TableRight.j0 k true a0_0 a0_1 l0_2))) else (spec_TableRight.j0 k true a0_0 a0_1 l0_2)) = some r := H
    have A4 := Aside0.mk A40
    clear A40
    by_cases c5 : t198 = true
    · subst c5
      have H1 : ((spec_l02Is.f a0_1 0 1000000).bind fun t199 => (if t199 = true then (spec_TableRight.j0 k (decide ((l0_2.length : Int) > 20)) a0_0 a0_1 l0_2) else (spec_TableRight.j0 k true a0_0 a0_1 l0_2))) = some r := by rw [if_pos rfl] at H; exact H
      clear H
      have H := H1
      clear H1
      replace H := Option.bind_eq_some_iff.mp H
      obtain ⟨t199, A60, H⟩ := H
      replace H : (if t199 = true then (spec_TableRight.j0 k (decide ((l0_2.length : Int) > 20)) a0_0 a0_1 l0_2) else (spec_TableRight.j0 k true a0_0 a0_1 l0_2)) = some r := H
      have A6 := Aside0.mk A60
      clear A60
      by_cases c7 : t199 = true
      · subst c7
        have H1 : (spec_TableRight.j0 k (decide ((l0_2.length : Int) > 20)) a0_0 a0_1 l0_2) = some r := by rw [if_pos rfl] at H; exact H
        clear H
        have H := H1
        clear H1
        have H' := Aside0.mk H
        clear H
        have hcz8_0 : w3.cell? ⟨gb197, 0, none⟩ = some (.int .i64 a0_0) := bc BK197.out 0
        have hcz8_1 : w3.cell? ⟨gb197, 1, none⟩ = some (.int .i64 a0_1) := bc BK197.out 1
        have hcz8_2 : w3.cell? ⟨gb197, 2, none⟩ = some (.slice A0_2 l0_2.length c0_2) := bc BK197.out 2
        have hfz8_0 := blk_frozen BK197.out 0
        have hfz8_1 := blk_frozen BK197.out 1
        have hfz8_2 := blk_frozen BK197.out 2
        go_wp2_with (first | ((with_reducible refine gate_callee (f := 74) rfl ?_); refine goesL_ (some 8) rfl rfl Tryd.func74 (by kernel_rfl) rfl #[.int .i64 a0_0, .int .i64 1, .int .i64 1000000] rfl Ag ?_; (with_reducible refine (spec_l02Is.calls a0_0 1 1000000 true _ A4.out).mono ?_); rintro e w' ⟨rfl, ⟨nd, rfl⟩⟩; refine ⟨_, rfl, ?_⟩) | (go_at_call 74; (with_reducible refine (spec_l02Is.calls a0_1 0 1000000 true _ A6.out).mono ?_); rintro e w' ⟨rfl, ⟨nd, rfl⟩⟩))
        go_meet
        case rel => exact ⟨_, (decide ((l0_2.length : Int) > 20)), (by first | rfl | (simp; done) | (simp [*]; done)), H', ⟨by first | omega | exact Nat.le_refl _⟩, ⟨by (with_reducible repeat (first | refine blk_drewN ?_ _ | refine blk_drew ?_ | refine blk_alloc ?_ _)); exact BK197.out⟩, ⟨By⟩⟩
      · replace c7 := Bool.eq_false_iff.mpr c7
        subst c7
        have H1 : (spec_TableRight.j0 k true a0_0 a0_1 l0_2) = some r := by rw [if_neg (show ¬ (false = true) by decide)] at H; exact H
        clear H
        have H := H1
        clear H1
        have H' := Aside0.mk H
        clear H
        have hcz9_0 : w3.cell? ⟨gb197, 0, none⟩ = some (.int .i64 a0_0) := bc BK197.out 0
        have hcz9_1 : w3.cell? ⟨gb197, 1, none⟩ = some (.int .i64 a0_1) := bc BK197.out 1
        have hcz9_2 : w3.cell? ⟨gb197, 2, none⟩ = some (.slice A0_2 l0_2.length c0_2) := bc BK197.out 2
        have hfz9_0 := blk_frozen BK197.out 0
        have hfz9_1 := blk_frozen BK197.out 1
        have hfz9_2 := blk_frozen BK197.out 2
        go_wp2_with (first | ((with_reducible refine gate_callee (f := 74) rfl ?_); refine goesL_ (some 8) rfl rfl Tryd.func74 (by kernel_rfl) rfl #[.int .i64 a0_0, .int .i64 1, .int .i64 1000000] rfl Ag ?_; (with_reducible refine (spec_l02Is.calls a0_0 1 1000000 true _ A4.out).mono ?_); rintro e w' ⟨rfl, ⟨nd, rfl⟩⟩; refine ⟨_, rfl, ?_⟩) | (go_at_call 74; (with_reducible refine (spec_l02Is.calls a0_1 0 1000000 false _ A6.out).mono ?_); rintro e w' ⟨rfl, ⟨nd, rfl⟩⟩))
        go_meet
        case rel => exact ⟨_, (true), (by first | rfl | (simp; done) | (simp [*]; done)), H', ⟨by first | omega | exact Nat.le_refl _⟩, ⟨by (with_reducible repeat (first | refine blk_drewN ?_ _ | refine blk_drew ?_ | refine blk_alloc ?_ _)); exact BK197.out⟩, ⟨By⟩⟩
    · replace c5 := Bool.eq_false_iff.mpr c5
      subst c5
      have H1 : (spec_TableRight.j0 k true a0_0 a0_1 l0_2) = some r := by rw [if_neg (show ¬ (false = true) by decide)] at H; exact H
      clear H
      have H := H1
      clear H1
      have H' := Aside0.mk H
      clear H
      have hcz10_0 : w3.cell? ⟨gb197, 0, none⟩ = some (.int .i64 a0_0) := bc BK197.out 0
      have hcz10_1 : w3.cell? ⟨gb197, 1, none⟩ = some (.int .i64 a0_1) := bc BK197.out 1
      have hcz10_2 : w3.cell? ⟨gb197, 2, none⟩ = some (.slice A0_2 l0_2.length c0_2) := bc BK197.out 2
      have hfz10_0 := blk_frozen BK197.out 0
      have hfz10_1 := blk_frozen BK197.out 1
      have hfz10_2 := blk_frozen BK197.out 2
      go_wp2_with (first | ((with_reducible refine gate_callee (f := 74) rfl ?_); refine goesL_ (some 8) rfl rfl Tryd.func74 (by kernel_rfl) rfl #[.int .i64 a0_0, .int .i64 1, .int .i64 1000000] rfl Ag ?_; (with_reducible refine (spec_l02Is.calls a0_0 1 1000000 false _ A4.out).mono ?_); rintro e w' ⟨rfl, ⟨nd, rfl⟩⟩; refine ⟨_, rfl, ?_⟩))
      go_meet
      case rel => exact ⟨_, (true), (by first | rfl | (simp; done) | (simp [*]; done)), H', ⟨by first | omega | exact Nat.le_refl _⟩, ⟨by (with_reducible repeat (first | refine blk_drewN ?_ _ | refine blk_drew ?_ | refine blk_alloc ?_ _)); exact BK197.out⟩, ⟨By⟩⟩
  case rest =>
    clear HC2
    try clear p2
    try clear c5
    try clear c7
    try clear hcz10_0
    try clear hcz10_1
    try clear hcz10_2
    try clear hcz8_0
    try clear hcz8_1
    try clear hcz8_2
    try clear hcz9_0
    try clear hcz9_1
    try clear hcz9_2
    try clear hfz10_0
    try clear hfz10_1
    try clear hfz10_2
    try clear hfz8_0
    try clear hfz8_1
    try clear hfz8_2
    try clear hfz9_0
    try clear hfz9_1
    try clear hfz9_2
    obtain ⟨kq, x21_1, rfl, HA, HJ1, BK197, HB⟩ := hcut
    cases kq with
    | zero => exact absurd HA.out (by simp [spec_TableRight.j0])
    | succ kj1 =>
      have H := HA.out
      clear HA
      simp only [spec_TableRight.j0] at H
      by_cases c11 : x21_1 = true
      · subst c11
        have H1 : (some false) = some r := by rw [if_pos rfl] at H; exact H
        clear H
        have H := H1
        clear H1
        obtain rfl := Option.some.inj H
        go_wp2
        go_ret
        exact ⟨Rf, By⟩
      · replace c11 := Bool.eq_false_iff.mpr c11
        subst c11
        have H1 : (spec_TableRight.l0 kj1 0 a0_0 a0_1 l0_2) = some r := by rw [if_neg (show ¬ (false = true) by decide)] at H; exact H
        clear H
        have H := H1
        clear H1
        have H' := Aside0.mk H
        clear H
        go_wp2
        go_loopg [3] kj1 (fun kq v3 w' => ∃ (x3_2 : Int), v3 = .int .i64 x3_2 ∧ Aside0 (spec_TableRight.l0 kq x3_2 a0_0 a0_1 l0_2 = some r) ∧ Aside0 (kq ≤ kj1) ∧ Aside0 (w'.heap[gb197]? = some (.cells #[.int .i64 a0_0, .int .i64 a0_1, (.slice A0_2 l0_2.length c0_2)] 38 (0, 0))) ∧ Aside0 (Below w.heap.size w w'))
        case atStart => exact ⟨(0), (by first | rfl | (simp; done) | (simp [*]; done)), H', ⟨Nat.le_refl _⟩, ⟨by (with_reducible repeat (first | refine blk_drewN ?_ _ | refine blk_drew ?_ | refine blk_alloc ?_ _)); exact BK197.out⟩, ⟨By⟩⟩
        case round =>
          clear H'
          try clear c1
          try clear p2
          try clear c5
          try clear c7
          try clear c11
          try clear hcz10_0
          try clear hcz10_1
          try clear hcz10_2
          try clear hcz8_0
          try clear hcz8_1
          try clear hcz8_2
          try clear hcz9_0
          try clear hcz9_1
          try clear hcz9_2
          try clear hfz10_0
          try clear hfz10_1
          try clear hfz10_2
          try clear hfz8_0
          try clear hfz8_1
          try clear hfz8_2
          try clear hfz9_0
          try clear hfz9_1
          try clear hfz9_2
          try clear p2
          obtain ⟨x3_2, rfl, HA, HK2, BK197, HB⟩ := hrel
          cases gk with
          | zero => exact absurd HA.out (by simp [spec_TableRight.l0])
          | succ k2 =>
            have H := HA.out
            clear HA
            simp only [spec_TableRight.l0] at H
            by_cases c12 : x3_2 < (l0_2.length : Int)
            · rw [if_pos c12] at H
              have c12b0 : decide (x3_2 < (l0_2.length : Int)) = true := decide_eq_true c12
              clear c12
              by_cases c13 : 0 ≤ x3_2
              · rw [if_pos c13] at H
                have c13b0 : decide (0 ≤ x3_2) = true := decide_eq_true c13
                clear c13
                have HC14 := Aside0.mk H
                clear H
                have hcz15_0 : wr.cell? ⟨gb197, 0, none⟩ = some (.int .i64 a0_0) := bc BK197.out 0
                have hcz15_1 : wr.cell? ⟨gb197, 1, none⟩ = some (.int .i64 a0_1) := bc BK197.out 1
                have hcz15_2 : wr.cell? ⟨gb197, 2, none⟩ = some (.slice A0_2 l0_2.length c0_2) := bc BK197.out 2
                have hfz15_0 := blk_frozen BK197.out 0
                have hfz15_1 := blk_frozen BK197.out 1
                have hfz15_2 := blk_frozen BK197.out 2
                have p200 : 0 ≤ (x3_2 : Int) := of_decide_eq_true Da
                have q200 : x3_2 < (l0_2.length : Int) := of_decide_eq_true Da
                obtain ⟨ad200, e200, hx200_0, hx200_1, hx200_2, hx200_3, hx200_4, hx200_5, hx200_6⟩ := at_T34 HR0_2.out x3_2 p200 q200
                cases e200
                replace hx200_0 := bz HB.out hx200_0
                replace hx200_1 := bz HB.out hx200_1
                replace hx200_2 := bz HB.out hx200_2
                replace hx200_3 := bz HB.out hx200_3
                replace hx200_4 := bz HB.out hx200_4
                replace hx200_5 := bz HB.out hx200_5
                replace hx200_6 := bz HB.out hx200_6
                replace p200 := eq_true p200
                replace q200 := eq_true q200
                go_upto_region 7 with (first | ((with_reducible refine gate_dst (N := 4) rfl ?_); (try (refine gate_guard (by rfl) ?_; dsimp only)); refine box_event ?hg (N := 4) ?hd (cs := #[.int .i64 0, .string (⟨#[]⟩ : ByteArray), .string (⟨#[]⟩ : ByteArray), .string (⟨#[]⟩ : ByteArray), .bool false, .int .i64 0, .bool false]) (t := 34) ?hr ?_; (case hd => rfl); (case hg => rfl); (case hr => first | (go_simp; done) | (go_simp; rfl)); intro gb201 hg w16 hbox hb; have n0_ := Aside0.mk (bb BK197.out hb); have n1_ := Aside0.mk (below_step By hb); have n2_ := Aside0.mk (hbox); have n3_ := Aside0.mk ((by rw [hg]; exact (below_size By) : w.heap.size ≤ gb201)); have n4_ := Aside0.mk ((by rw [hg]; exact (below_size By) : w.heap.size ≤ gb201)); have n5_ := Aside0.mk ((by rw [hg]; exact Nat.ne_of_lt (bl BK197.out) : gb197 ≠ gb201)); have n6_ := Aside0.mk ((by rw [hg]; exact Nat.ne_of_gt (bl BK197.out) : gb201 ≠ gb197)); clear BK197; clear HB; have BK197 := n0_; have HB := n1_; have BK201 := n2_; have GW201 := n3_; have GE201 := n4_; have NB197_201 := n5_; have NB201_197 := n6_; clear n0_ n1_ n2_ n3_ n4_ n5_ n6_; clear hb hbox hg; have hnb17 := NB201_197.out; have hnc17 := NB197_201.out; have ⟨hcz18_0, hcz18_1, hcz18_2, hcz18_3, hcz18_4, hcz18_5, hcz18_6⟩ := cq7 BK201.out; have ⟨hfz18_0, hfz18_1, hfz18_2, hfz18_3, hfz18_4, hfz18_5, hfz18_6⟩ := fq7 BK201.out))
                (try simp only [Act.put, List.setIfInBounds_toArray, List.set_cons_zero, List.set_cons_succ])
                go_cut [69] (fun v69 wc => ∃ (kq : Nat) (x69_13 : Bool), v69 = .bool x69_13 ∧ Aside0 (spec_TableRight.j2 kq x3_2 x69_13 a0_0 a0_1 l0_2 ((rd_T34 l0_2 x3_2).f0) ((rd_T34 l0_2 x3_2).f1) ((rd_T34 l0_2 x3_2).f2) ((rd_T34 l0_2 x3_2).f3) ((rd_T34 l0_2 x3_2).f4) ((rd_T34 l0_2 x3_2).f5) ((rd_T34 l0_2 x3_2).f6) = some r) ∧ Aside0 (kq ≤ k2) ∧ Aside0 (wc.heap[gb197]? = some (.cells #[.int .i64 a0_0, .int .i64 a0_1, (.slice (some ad200) l0_2.length c0_2)] 38 (0, 0))) ∧ Aside0 (wc.heap[gb201]? = some (.cells #[.int .i64 ((rd_T34 l0_2 x3_2).f0), .string ((rd_T34 l0_2 x3_2).f1), .string ((rd_T34 l0_2 x3_2).f2), .string ((rd_T34 l0_2 x3_2).f3), .bool ((rd_T34 l0_2 x3_2).f4), .int .i64 ((rd_T34 l0_2 x3_2).f5), .bool ((rd_T34 l0_2 x3_2).f6)] 34 (0, 0))) ∧ Aside0 (Below w.heap.size w wc))
                case first =>
                  have H := HC14.out
                  clear HC14
                  replace H := Option.bind_eq_some_iff.mp H
                  obtain ⟨t202, A190, H⟩ := H
                  replace H : (if t202 = true then ((spec_l02Is.f ((rd_T34 l0_2 x3_2).f0) 1 (wrap64 (a0_0 - 1))).bind fun t203 => (if t203 = true then (if x3_2 > 0 then (if 0 ≤ (wrap64 (x3_2 - 1)) then (if (wrap64 (x3_2 - 1)) < (l0_2.length : Int) then (if ((rd_T34 l0_2 (wrap64 (x3_2 - 1))).f0) ≥ ((rd_T34 l0_2 x3_2).f0) then (spec_TableRight.j2 k2 x3_2 true a0_0 a0_1 l0_2 ((rd_T34 l0_2 x3_2).f0) ((rd_T34 l0_2 x3_2).f1) ((rd_T34 l0_2 x3_2).f2) ((rd_T34 l0_2 x3_2).f3) ((rd_T34 l0_2 x3_2).f4) ((rd_T34 l0_2 x3_2).f5) ((rd_T34 l0_2 x3_2).f6)) else ((spec_l02Is.f ((rd_T34 l0_2 x3_2).f5) 1 a0_1).bind fun t205 => (spec_TableRight.j2 k2 x3_2 (!t205) a0_0 a0_1 l0_2 ((rd_T34 l0_2 x3_2).f0) ((rd_T34 l0_2 x3_2).f1) ((rd_T34 l0_2 x3_2).f2) ((rd_T34 l0_2 x3_2).f3) ((rd_T34 l0_2 x3_2).f4) ((rd_T34 l0_2 x3_2).f5) ((rd_T34 l0_2 x3_2).f6)))) else (none)) else (none)) else ((spec_l02Is.f ((rd_T34 l0_2 x3_2).f5) 1 a0_1).bind fun t206 => (spec_TableRight.j2 k2 x3_2 (!t206) a0_0 a0_1 l0_2 ((rd_T34 l0_2 x3_2).f0) ((rd_T34 l0_2 x3_2).f1) ((rd_T34 l0_2 x3_2).f2) ((rd_T34 l0_2 x3_2).f3) ((rd_T34 l0_2 x3_2).f4) ((rd_T34 l0_2 x3_2).f5) ((rd_T34 l0_2 x3_2).f6)))) else (spec_TableRight.j2 k2 x3_2 true a0_0 a0_1 l0_2 ((rd_T34 l0_2 x3_2).f0) ((rd_T34 l0_2 x3_2).f1) ((rd_T34 l0_2 x3_2).f2) ((rd_T34 l0_2 x3_2).f3) ((rd_T34 l0_2 x3_2).f4) ((rd_T34 l0_2 x3_2).f5) ((rd_T34 l0_2 x3_2).f6)))) else (spec_TableRight.j2 k2 x3_2 true a0_0 a0_1 l0_2 ((rd_T34 l0_2 x3_2).f0) ((rd_T34 l0_2 x3_2).f1) ((rd_T34 l0_2 x3_2).f2) ((rd_T34 l0_2 x3_2).f3) ((rd_T34 l0_2 x3_2).f4) ((rd_T34 l0_2 x3_2).f5) ((rd_T34 l0_2 x3_2).f6))) = some r := H
                  have A19 := Aside0.mk A190
                  clear A190
                  by_cases c20 : t202 = true
                  · subst c20
                    have H1 : ((spec_l02Is.f ((rd_T34 l0_2 x3_2).f0) 1 (wrap64 (a0_0 - 1))).bind fun t203 => (if t203 = true then (if x3_2 > 0 then (if 0 ≤ (wrap64 (x3_2 - 1)) then (if (wrap64 (x3_2 - 1)) < (l0_2.length : Int) then (if ((rd_T34 l0_2 (wrap64 (x3_2 - 1))).f0) ≥ ((rd_T34 l0_2 x3_2).f0) then (spec_TableRight.j2 k2 x3_2 true a0_0 a0_1 l0_2 ((rd_T34 l0_2 x3_2).f0) ((rd_T34 l0_2 x3_2).f1) ((rd_T34 l0_2 x3_2).f2) ((rd_T34 l0_2 x3_2).f3) ((rd_T34 l0_2 x3_2).f4) ((rd_T34 l0_2 x3_2).f5) ((rd_T34 l0_2 x3_2).f6)) else ((spec_l02Is.f ((rd_T34 l0_2 x3_2).f5) 1 a0_1).bind fun t205 => (spec_TableRight.j2 k2 x3_2 (!t205) a0_0 a0_1 l0_2 ((rd_T34 l0_2 x3_2).f0) ((rd_T34 l0_2 x3_2).f1) ((rd_T34 l0_2 x3_2).f2) ((rd_T34 l0_2 x3_2).f3) ((rd_T34 l0_2 x3_2).f4) ((rd_T34 l0_2 x3_2).f5) ((rd_T34 l0_2 x3_2).f6)))) else (none)) else (none)) else ((spec_l02Is.f ((rd_T34 l0_2 x3_2).f5) 1 a0_1).bind fun t206 => (spec_TableRight.j2 k2 x3_2 (!t206) a0_0 a0_1 l0_2 ((rd_T34 l0_2 x3_2).f0) ((rd_T34 l0_2 x3_2).f1) ((rd_T34 l0_2 x3_2).f2) ((rd_T34 l0_2 x3_2).f3) ((rd_T34 l0_2 x3_2).f4) ((rd_T34 l0_2 x3_2).f5) ((rd_T34 l0_2 x3_2).f6)))) else (spec_TableRight.j2 k2 x3_2 true a0_0 a0_1 l0_2 ((rd_T34 l0_2 x3_2).f0) ((rd_T34 l0_2 x3_2).f1) ((rd_T34 l0_2 x3_2).f2) ((rd_T34 l0_2 x3_2).f3) ((rd_T34 l0_2 x3_2).f4) ((rd_T34 l0_2 x3_2).f5) ((rd_T34 l0_2 x3_2).f6)))) = some r := by rw [if_pos rfl] at H; exact H
                    clear H
                    have H := H1
                    clear H1
                    replace H := Option.bind_eq_some_iff.mp H
                    obtain ⟨t203, A210, H⟩ := H
                    replace H : (if t203 = true then (if x3_2 > 0 then (if 0 ≤ (wrap64 (x3_2 - 1)) then (if (wrap64 (x3_2 - 1)) < (l0_2.length : Int) then (if ((rd_T34 l0_2 (wrap64 (x3_2 - 1))).f0) ≥ ((rd_T34 l0_2 x3_2).f0) then (spec_TableRight.j2 k2 x3_2 true a0_0 a0_1 l0_2 ((rd_T34 l0_2 x3_2).f0) ((rd_T34 l0_2 x3_2).f1) ((rd_T34 l0_2 x3_2).f2) ((rd_T34 l0_2 x3_2).f3) ((rd_T34 l0_2 x3_2).f4) ((rd_T34 l0_2 x3_2).f5) ((rd_T34 l0_2 x3_2).f6)) else ((spec_l02Is.f ((rd_T34 l0_2 x3_2).f5) 1 a0_1).bind fun t205 => (spec_TableRight.j2 k2 x3_2 (!t205) a0_0 a0_1 l0_2 ((rd_T34 l0_2 x3_2).f0) ((rd_T34 l0_2 x3_2).f1) ((rd_T34 l0_2 x3_2).f2) ((rd_T34 l0_2 x3_2).f3) ((rd_T34 l0_2 x3_2).f4) ((rd_T34 l0_2 x3_2).f5) ((rd_T34 l0_2 x3_2).f6)))) else (none)) else (none)) else ((spec_l02Is.f ((rd_T34 l0_2 x3_2).f5) 1 a0_1).bind fun t206 => (spec_TableRight.j2 k2 x3_2 (!t206) a0_0 a0_1 l0_2 ((rd_T34 l0_2 x3_2).f0) ((rd_T34 l0_2 x3_2).f1) ((rd_T34 l0_2 x3_2).f2) ((rd_T34 l0_2 x3_2).f3) ((rd_T34 l0_2 x3_2).f4) ((rd_T34 l0_2 x3_2).f5) ((rd_T34 l0_2 x3_2).f6)))) else (spec_TableRight.j2 k2 x3_2 true a0_0 a0_1 l0_2 ((rd_T34 l0_2 x3_2).f0) ((rd_T34 l0_2 x3_2).f1) ((rd_T34 l0_2 x3_2).f2) ((rd_T34 l0_2 x3_2).f3) ((rd_T34 l0_2 x3_2).f4) ((rd_T34 l0_2 x3_2).f5) ((rd_T34 l0_2 x3_2).f6))) = some r := H
                    have A21 := Aside0.mk A210
                    clear A210
                    by_cases c22 : t203 = true
                    · subst c22
                      have H1 : (if x3_2 > 0 then (if 0 ≤ (wrap64 (x3_2 - 1)) then (if (wrap64 (x3_2 - 1)) < (l0_2.length : Int) then (if ((rd_T34 l0_2 (wrap64 (x3_2 - 1))).f0) ≥ ((rd_T34 l0_2 x3_2).f0) then (spec_TableRight.j2 k2 x3_2 true a0_0 a0_1 l0_2 ((rd_T34 l0_2 x3_2).f0) ((rd_T34 l0_2 x3_2).f1) ((rd_T34 l0_2 x3_2).f2) ((rd_T34 l0_2 x3_2).f3) ((rd_T34 l0_2 x3_2).f4) ((rd_T34 l0_2 x3_2).f5) ((rd_T34 l0_2 x3_2).f6)) else ((spec_l02Is.f ((rd_T34 l0_2 x3_2).f5) 1 a0_1).bind fun t205 => (spec_TableRight.j2 k2 x3_2 (!t205) a0_0 a0_1 l0_2 ((rd_T34 l0_2 x3_2).f0) ((rd_T34 l0_2 x3_2).f1) ((rd_T34 l0_2 x3_2).f2) ((rd_T34 l0_2 x3_2).f3) ((rd_T34 l0_2 x3_2).f4) ((rd_T34 l0_2 x3_2).f5) ((rd_T34 l0_2 x3_2).f6)))) else (none)) else (none)) else ((spec_l02Is.f ((rd_T34 l0_2 x3_2).f5) 1 a0_1).bind fun t206 => (spec_TableRight.j2 k2 x3_2 (!t206) a0_0 a0_1 l0_2 ((rd_T34 l0_2 x3_2).f0) ((rd_T34 l0_2 x3_2).f1) ((rd_T34 l0_2 x3_2).f2) ((rd_T34 l0_2 x3_2).f3) ((rd_T34 l0_2 x3_2).f4) ((rd_T34 l0_2 x3_2).f5) ((rd_T34 l0_2 x3_2).f6)))) = some r := by rw [if_pos rfl] at H; exact H
                      clear H
                      have H := H1
                      clear H1
                      by_cases c23 : x3_2 > 0
                      · rw [if_pos c23] at H
                        have c23b0 : decide (0 < x3_2) = true := decide_eq_true c23
                        clear c23
                        (first | rw [c23b0] | (simp only [i64_w, i32_w]; rw [c23b0]) | skip)
                        obtain ⟨ji24, hji24⟩ : ∃ j_ : Int, (wrap64 (x3_2 - 1)) = j_ := ⟨_, rfl⟩
                        replace H : (if 0 ≤ (ji24) then (if (ji24) < (l0_2.length : Int) then (if ((rd_T34 l0_2 (ji24)).f0) ≥ ((rd_T34 l0_2 x3_2).f0) then (spec_TableRight.j2 k2 x3_2 true a0_0 a0_1 l0_2 ((rd_T34 l0_2 x3_2).f0) ((rd_T34 l0_2 x3_2).f1) ((rd_T34 l0_2 x3_2).f2) ((rd_T34 l0_2 x3_2).f3) ((rd_T34 l0_2 x3_2).f4) ((rd_T34 l0_2 x3_2).f5) ((rd_T34 l0_2 x3_2).f6)) else ((spec_l02Is.f ((rd_T34 l0_2 x3_2).f5) 1 a0_1).bind fun t205 => (spec_TableRight.j2 k2 x3_2 (!t205) a0_0 a0_1 l0_2 ((rd_T34 l0_2 x3_2).f0) ((rd_T34 l0_2 x3_2).f1) ((rd_T34 l0_2 x3_2).f2) ((rd_T34 l0_2 x3_2).f3) ((rd_T34 l0_2 x3_2).f4) ((rd_T34 l0_2 x3_2).f5) ((rd_T34 l0_2 x3_2).f6)))) else (none)) else (none)) = some r := by first | (rw [hji24] at H; exact H) | (simp only [hji24] at H ⊢; exact H)
                        (try rw [hji24] at A19)
                        (try rw [hji24] at A21)
                        have hji24w : (IntKind.i64.wrap (x3_2 - 1)) = ji24 := (i64_w _).trans hji24
                        by_cases c25 : 0 ≤ (ji24)
                        · rw [if_pos c25] at H
                          have c25b0 : decide (0 ≤ (ji24)) = true := decide_eq_true c25
                          clear c25
                          by_cases c26 : (ji24) < (l0_2.length : Int)
                          · rw [if_pos c26] at H
                            have c26b0 : decide ((ji24) < (l0_2.length : Int)) = true := decide_eq_true c26
                            clear c26
                            by_cases c27 : ((rd_T34 l0_2 (ji24)).f0) ≥ ((rd_T34 l0_2 x3_2).f0)
                            · rw [if_pos c27] at H
                              have c27b0 : decide (((rd_T34 l0_2 x3_2).f0) ≤ ((rd_T34 l0_2 (ji24)).f0)) = true := decide_eq_true c27
                              clear c27
                              have H' := Aside0.mk H
                              clear H
                              try go_wp2
                              have n0_ : Aside0 ((((((((w16.setCell ⟨gb201, 0, none⟩ (.int .i64 ((rd_T34 l0_2 x3_2).f0))).setCell ⟨gb201, 1, none⟩ (.string ((rd_T34 l0_2 x3_2).f1))).setCell ⟨gb201, 2, none⟩ (.string ((rd_T34 l0_2 x3_2).f2))).setCell ⟨gb201, 3, none⟩ (.string ((rd_T34 l0_2 x3_2).f3))).setCell ⟨gb201, 4, none⟩ (.bool ((rd_T34 l0_2 x3_2).f4))).setCell ⟨gb201, 5, none⟩ (.int .i64 ((rd_T34 l0_2 x3_2).f5))).setCell ⟨gb201, 6, none⟩ (.bool ((rd_T34 l0_2 x3_2).f6))).heap[gb197]? = some (.cells #[.int .i64 a0_0, .int .i64 a0_1, .slice (some ad200) l0_2.length c0_2] 38 (0, 0))) := ⟨Fr⟩
                              have n1_ : Aside0 ((((((((w16.setCell ⟨gb201, 0, none⟩ (.int .i64 ((rd_T34 l0_2 x3_2).f0))).setCell ⟨gb201, 1, none⟩ (.string ((rd_T34 l0_2 x3_2).f1))).setCell ⟨gb201, 2, none⟩ (.string ((rd_T34 l0_2 x3_2).f2))).setCell ⟨gb201, 3, none⟩ (.string ((rd_T34 l0_2 x3_2).f3))).setCell ⟨gb201, 4, none⟩ (.bool ((rd_T34 l0_2 x3_2).f4))).setCell ⟨gb201, 5, none⟩ (.int .i64 ((rd_T34 l0_2 x3_2).f5))).setCell ⟨gb201, 6, none⟩ (.bool ((rd_T34 l0_2 x3_2).f6))).heap[gb201]? = some (.cells #[.int .i64 ((rd_T34 l0_2 x3_2).f0), .string ((rd_T34 l0_2 x3_2).f1), .string ((rd_T34 l0_2 x3_2).f2), .string ((rd_T34 l0_2 x3_2).f3), .bool ((rd_T34 l0_2 x3_2).f4), .int .i64 ((rd_T34 l0_2 x3_2).f5), .bool ((rd_T34 l0_2 x3_2).f6)] 34 (0, 0))) := ⟨(pq7 Pk)⟩
                              have n2_ : Aside0 (Below w.heap.size w (((((((w16.setCell ⟨gb201, 0, none⟩ (.int .i64 ((rd_T34 l0_2 x3_2).f0))).setCell ⟨gb201, 1, none⟩ (.string ((rd_T34 l0_2 x3_2).f1))).setCell ⟨gb201, 2, none⟩ (.string ((rd_T34 l0_2 x3_2).f2))).setCell ⟨gb201, 3, none⟩ (.string ((rd_T34 l0_2 x3_2).f3))).setCell ⟨gb201, 4, none⟩ (.bool ((rd_T34 l0_2 x3_2).f4))).setCell ⟨gb201, 5, none⟩ (.int .i64 ((rd_T34 l0_2 x3_2).f5))).setCell ⟨gb201, 6, none⟩ (.bool ((rd_T34 l0_2 x3_2).f6)))) := ⟨By⟩
                              (try clear BK197)
                              (try clear BK201)
                              (try clear HB)
                              generalize (((((((w16.setCell ⟨gb201, 0, none⟩ (.int .i64 ((rd_T34 l0_2 x3_2).f0))).setCell ⟨gb201, 1, none⟩ (.string ((rd_T34 l0_2 x3_2).f1))).setCell ⟨gb201, 2, none⟩ (.string ((rd_T34 l0_2 x3_2).f2))).setCell ⟨gb201, 3, none⟩ (.string ((rd_T34 l0_2 x3_2).f3))).setCell ⟨gb201, 4, none⟩ (.bool ((rd_T34 l0_2 x3_2).f4))).setCell ⟨gb201, 5, none⟩ (.int .i64 ((rd_T34 l0_2 x3_2).f5))).setCell ⟨gb201, 6, none⟩ (.bool ((rd_T34 l0_2 x3_2).f6))) = w28 at n0_ n1_ n2_ ⊢
                              have BK197 := n0_
                              have BK201 := n1_
                              have HB := n2_
                              clear n0_ n1_ n2_
                              have n0_ := Aside0.mk (blk_drew BK197.out)
                              have n1_ := Aside0.mk (blk_drew BK201.out)
                              have n2_ := Aside0.mk (below_drew1 HB.out)
                              clear BK197
                              clear BK201
                              clear HB
                              have BK197 := n0_
                              have BK201 := n1_
                              have HB := n2_
                              clear n0_ n1_ n2_
                              have p204 : 0 ≤ ((ji24) : Int) := of_decide_eq_true Da
                              have q204 : (ji24) < (l0_2.length : Int) := of_decide_eq_true Da
                              obtain ⟨ad204, e204, hx204_0, hx204_1, hx204_2, hx204_3, hx204_4, hx204_5, hx204_6⟩ := at_T34 HR0_2.out (ji24) p204 q204
                              have hw204_6 := hx204_6
                              have hw204_5 := hx204_5
                              have hw204_4 := hx204_4
                              have hw204_3 := hx204_3
                              have hw204_2 := hx204_2
                              have hw204_1 := hx204_1
                              have hw204_0 := hx204_0
                              obtain rfl : ad200 = ad204 := (by injection e204)
                              replace hx204_0 := bz HB.out hx204_0
                              replace hx204_1 := bz HB.out hx204_1
                              replace hx204_2 := bz HB.out hx204_2
                              replace hx204_3 := bz HB.out hx204_3
                              replace hx204_4 := bz HB.out hx204_4
                              replace hx204_5 := bz HB.out hx204_5
                              replace hx204_6 := bz HB.out hx204_6
                              replace p204 := eq_true p204
                              replace q204 := eq_true q204
                              refine start_ (n := 36) (S := fun w' => w'.cell? ⟨gb201, 0, none⟩ = some (.int .i64 ((rd_T34 l0_2 x3_2).f0)) ∧ w'.cell? ⟨gb201, 1, none⟩ = some (.string ((rd_T34 l0_2 x3_2).f1)) ∧ w'.cell? ⟨gb201, 2, none⟩ = some (.string ((rd_T34 l0_2 x3_2).f2)) ∧ w'.cell? ⟨gb201, 3, none⟩ = some (.string ((rd_T34 l0_2 x3_2).f3)) ∧ w'.cell? ⟨gb201, 4, none⟩ = some (.bool ((rd_T34 l0_2 x3_2).f4)) ∧ w'.cell? ⟨gb201, 5, none⟩ = some (.int .i64 ((rd_T34 l0_2 x3_2).f5)) ∧ w'.cell? ⟨gb201, 6, none⟩ = some (.bool ((rd_T34 l0_2 x3_2).f6)) ∧ w'.cell? ⟨gb197, 0, none⟩ = some (.int .i64 a0_0) ∧ w'.cell? ⟨gb197, 1, none⟩ = some (.int .i64 a0_1) ∧ w'.cell? ⟨gb197, 2, none⟩ = some (.slice (some ad200) l0_2.length c0_2) ∧ w'.cell? (ad200.add (((ji24)).toNat * 7)) = some (.int .i64 ((rd_T34 l0_2 (ji24)).f0)) ∧ w'.cell? ⟨(ad200.add (((ji24)).toNat * 7)).block, (ad200.add (((ji24)).toNat * 7)).off + 1, none⟩ = some (.string ((rd_T34 l0_2 (ji24)).f1)) ∧ w'.cell? ⟨(ad200.add (((ji24)).toNat * 7)).block, (ad200.add (((ji24)).toNat * 7)).off + 2, none⟩ = some (.string ((rd_T34 l0_2 (ji24)).f2)) ∧ w'.cell? ⟨(ad200.add (((ji24)).toNat * 7)).block, (ad200.add (((ji24)).toNat * 7)).off + 3, none⟩ = some (.string ((rd_T34 l0_2 (ji24)).f3)) ∧ w'.cell? ⟨(ad200.add (((ji24)).toNat * 7)).block, (ad200.add (((ji24)).toNat * 7)).off + 4, none⟩ = some (.bool ((rd_T34 l0_2 (ji24)).f4)) ∧ w'.cell? ⟨(ad200.add (((ji24)).toNat * 7)).block, (ad200.add (((ji24)).toNat * 7)).off + 5, none⟩ = some (.int .i64 ((rd_T34 l0_2 (ji24)).f5)) ∧ w'.cell? ⟨(ad200.add (((ji24)).toNat * 7)).block, (ad200.add (((ji24)).toNat * 7)).off + 6, none⟩ = some (.bool ((rd_T34 l0_2 (ji24)).f6))) (ds := []) (bv 36 0) (by kernel_rfl) rfl rfl ⟨bc BK201.out 0, bc BK201.out 1, bc BK201.out 2, bc BK201.out 3, bc BK201.out 4, bc BK201.out 5, bc BK201.out 6, bc BK197.out 0, bc BK197.out 1, bc BK197.out 2, (bz HB.out hw204_0), (bz HB.out hw204_1), (bz HB.out hw204_2), (bz HB.out hw204_3), (bz HB.out hw204_4), (bz HB.out hw204_5), (bz HB.out hw204_6)⟩ (fun hHeld => ?_); refine with_tabW spec_TableRight.tab7 spec_TableRight.bits7 (fun HT_ HW_ => ?_)
                              generalize w28.drew = w29 at BK197 BK201 HB hx204_0 hx204_1 hx204_2 hx204_3 hx204_4 hx204_5 hx204_6 hHeld ⊢
                              refine tk 0 34 (bv 36 1) HT_.out HW_.out hHeld (h := ?_)
                              refine one_ (i := 1) (N := some 35) (bv 36 3) rfl rfl (one_of HT_.out (by kernel_rfl)) (by decide) (fun K hK => ?_)
                              refine goes_ Tryd.func110 (by kernel_rfl) rfl #[.agg #[.int .i64 ((rd_T34 l0_2 x3_2).f0), .string ((rd_T34 l0_2 x3_2).f1), .string ((rd_T34 l0_2 x3_2).f2), .string ((rd_T34 l0_2 x3_2).f3), .bool ((rd_T34 l0_2 x3_2).f4), .int .i64 ((rd_T34 l0_2 x3_2).f5), .bool ((rd_T34 l0_2 x3_2).f6)]] (by rfl) rfl rfl Ag ?_
                              with_reducible refine (spec_l12Row.calls k2 ((rd_T34 l0_2 x3_2).f0) ((rd_T34 l0_2 x3_2).f1) ((rd_T34 l0_2 x3_2).f2) ((rd_T34 l0_2 x3_2).f3) ((rd_T34 l0_2 x3_2).f4) ((rd_T34 l0_2 x3_2).f5) ((rd_T34 l0_2 x3_2).f6) true _ A19.out).mono ?_
                              rintro e w30 ⟨rfl, hb⟩
                              refine ⟨_, rfl, ?_⟩
                              have n0_ := Aside0.mk (bb BK197.out hb)
                              have n1_ := Aside0.mk (bb BK201.out hb)
                              have n2_ := Aside0.mk (below_step By hb)
                              clear BK197
                              clear BK201
                              clear HB
                              have BK197 := n0_
                              have BK201 := n1_
                              have HB := n2_
                              clear n0_ n1_ n2_
                              (try clear hb)
                              (try clear hb2)
                              (try clear hk)
                              (try clear hi)
                              refine hK.out _ _ ⟨bc BK201.out 0, bc BK201.out 1, bc BK201.out 2, bc BK201.out 3, bc BK201.out 4, bc BK201.out 5, bc BK201.out 6, bc BK197.out 0, bc BK197.out 1, bc BK197.out 2, (bz HB.out hw204_0), (bz HB.out hw204_1), (bz HB.out hw204_2), (bz HB.out hw204_3), (bz HB.out hw204_4), (bz HB.out hw204_5), (bz HB.out hw204_6)⟩ (fun hHeld => ?_)
                              clear hK K
                              refine norm_ (a' := ?_) ?_ ?_
                              rotate_left
                              · show Act.put _ (some 35) _ = _
                                simp only [Act.put, List.setIfInBounds_toArray, List.set_cons_zero, List.set_cons_succ, i64_w, i32_w]
                                rfl
                              refine pu 2 36 (bv 36 7) HT_.out (h := ?_)
                              refine pu 3 37 (bv 36 15) HT_.out (h := ?_)
                              refine pu 4 38 (bv 36 31) HT_.out (h := ?_)
                              refine pu 6 40 (bv 36 95) HT_.out (h := ?_)
                              refine tk 5 39 (bv 36 127) HT_.out HW_.out hHeld (h := ?_)
                              refine tk 7 41 (bv 36 255) HT_.out HW_.out hHeld (h := ?_)
                              refine pu 8 42 (bv 36 511) HT_.out (h := ?_)
                              refine one_ (i := 9) (N := some 43) (bv 36 1023) rfl rfl (one_of HT_.out (by kernel_rfl)) (by decide) (fun K hK => ?_)
                              refine goes_ Tryd.func74 (by kernel_rfl) rfl #[.int .i64 ((rd_T34 l0_2 x3_2).f0), .int .i64 1, .int .i64 (wrap64 (a0_0 - 1))] (by rfl) rfl rfl Ag ?_
                              with_reducible refine (spec_l02Is.calls ((rd_T34 l0_2 x3_2).f0) 1 (wrap64 (a0_0 - 1)) true _ A21.out).mono ?_
                              rintro e w' ⟨rfl, ⟨nd, rfl⟩⟩
                              refine ⟨_, rfl, ?_⟩
                              refine hK.out _ _ ⟨bc BK201.out 0, bc BK201.out 1, bc BK201.out 2, bc BK201.out 3, bc BK201.out 4, bc BK201.out 5, bc BK201.out 6, bc BK197.out 0, bc BK197.out 1, bc BK197.out 2, (bz HB.out hw204_0), (bz HB.out hw204_1), (bz HB.out hw204_2), (bz HB.out hw204_3), (bz HB.out hw204_4), (bz HB.out hw204_5), (bz HB.out hw204_6)⟩ (fun hHeld => ?_)
                              clear hK K
                              refine norm_ (a' := ?_) ?_ ?_
                              rotate_left
                              · show Act.put _ (some 43) _ = _
                                simp only [Act.put, List.setIfInBounds_toArray, List.set_cons_zero, List.set_cons_succ, i64_w, i32_w]
                                rfl
                              refine pu 10 44 (bv 36 2047) HT_.out (h := ?_)
                              refine pu 11 45 (bv 36 4095) HT_.out (h := ?_)
                              refine pu 12 46 (bv 36 8191) HT_.out (h := ?_)
                              refine pu 13 47 (bv 36 16383) HT_.out (h := ?_)
                              refine pu 14 48 (bv 36 32767) HT_.out (h := ?_)
                              refine pu 15 49 (bv 36 65535) HT_.out (h := ?_)
                              refine pu 16 50 (bv 36 131071) HT_.out (h := ?_)
                              refine pu 18 52 (bv 36 393215) HT_.out (h := ?_)
                              refine pu 19 53 (bv 36 917503) HT_.out (h := ?_)
                              refine pu 23 57 (bv 36 9306111) HT_.out (h := ?_)
                              refine tk 17 51 (bv 36 9437183) HT_.out HW_.out hHeld (h := ?_)
                              refine pu 20 54 (bv 36 10485759) HT_.out (h := ?_)
                              refine pu 21 55 (bv 36 12582911) HT_.out (h := ?_)
                              refine tk 22 56 (bv 36 16777215) HT_.out HW_.out hHeld (h := ?_)
                              refine tk 24 58 (bv 36 33554431) HT_.out HW_.out hHeld (h := ?_)
                              refine pu 25 59 (bv 36 67108863) HT_.out (h := ?_)
                              refine pu 26 60 (bv 36 134217727) HT_.out (h := ?_)
                              refine pu 27 61 (bv 36 268435455) HT_.out (h := ?_)
                              refine pu 28 62 (bv 36 536870911) HT_.out (h := ?_)
                              refine pn 29 63 (bv 36 1073741823) HT_.out (h := ?_)
                              refine pn 30 64 (bv 36 2147483647) HT_.out (h := ?_)
                              refine pn 31 65 (bv 36 4294967295) HT_.out (h := ?_)
                              refine pn 32 66 (bv 36 8589934591) HT_.out (h := ?_)
                              refine pn 33 67 (bv 36 17179869183) HT_.out (h := ?_)
                              refine pn 34 68 (bv 36 34359738367) HT_.out (h := ?_)
                              refine pu 35 69 (bv 36 68719476735) HT_.out (h := ?_)
                              refine done_ (done_of HT_.out (by kernel_rfl)) ?_
                              try go_wp2
                              go_meet
                              case rel => exact ⟨_, (true), (by first | rfl | (simp; done) | (simp [*]; done)), H', ⟨by have := HJ1.out; have := HK2.out; first | omega | exact Nat.le_refl _⟩, ⟨by (with_reducible repeat (first | refine blk_drewN ?_ _ | refine blk_drew ?_ | refine blk_alloc ?_ _)); exact BK197.out⟩, ⟨by (with_reducible repeat (first | refine blk_drewN ?_ _ | refine blk_drew ?_ | refine blk_alloc ?_ _)); exact BK201.out⟩, ⟨By⟩⟩
                            · rw [if_neg c27] at H
                              have c27b0 : decide (((rd_T34 l0_2 x3_2).f0) ≤ ((rd_T34 l0_2 (ji24)).f0)) = false := decide_eq_false c27
                              clear c27
                              replace H := Option.bind_eq_some_iff.mp H
                              obtain ⟨t205, A310, H⟩ := H
                              replace H : (spec_TableRight.j2 k2 x3_2 (!t205) a0_0 a0_1 l0_2 ((rd_T34 l0_2 x3_2).f0) ((rd_T34 l0_2 x3_2).f1) ((rd_T34 l0_2 x3_2).f2) ((rd_T34 l0_2 x3_2).f3) ((rd_T34 l0_2 x3_2).f4) ((rd_T34 l0_2 x3_2).f5) ((rd_T34 l0_2 x3_2).f6)) = some r := H
                              have A31 := Aside0.mk A310
                              clear A310
                              have H' := Aside0.mk H
                              clear H
                              try go_wp2
                              have n0_ : Aside0 ((((((((w16.setCell ⟨gb201, 0, none⟩ (.int .i64 ((rd_T34 l0_2 x3_2).f0))).setCell ⟨gb201, 1, none⟩ (.string ((rd_T34 l0_2 x3_2).f1))).setCell ⟨gb201, 2, none⟩ (.string ((rd_T34 l0_2 x3_2).f2))).setCell ⟨gb201, 3, none⟩ (.string ((rd_T34 l0_2 x3_2).f3))).setCell ⟨gb201, 4, none⟩ (.bool ((rd_T34 l0_2 x3_2).f4))).setCell ⟨gb201, 5, none⟩ (.int .i64 ((rd_T34 l0_2 x3_2).f5))).setCell ⟨gb201, 6, none⟩ (.bool ((rd_T34 l0_2 x3_2).f6))).heap[gb197]? = some (.cells #[.int .i64 a0_0, .int .i64 a0_1, .slice (some ad200) l0_2.length c0_2] 38 (0, 0))) := ⟨Fr⟩
                              have n1_ : Aside0 ((((((((w16.setCell ⟨gb201, 0, none⟩ (.int .i64 ((rd_T34 l0_2 x3_2).f0))).setCell ⟨gb201, 1, none⟩ (.string ((rd_T34 l0_2 x3_2).f1))).setCell ⟨gb201, 2, none⟩ (.string ((rd_T34 l0_2 x3_2).f2))).setCell ⟨gb201, 3, none⟩ (.string ((rd_T34 l0_2 x3_2).f3))).setCell ⟨gb201, 4, none⟩ (.bool ((rd_T34 l0_2 x3_2).f4))).setCell ⟨gb201, 5, none⟩ (.int .i64 ((rd_T34 l0_2 x3_2).f5))).setCell ⟨gb201, 6, none⟩ (.bool ((rd_T34 l0_2 x3_2).f6))).heap[gb201]? = some (.cells #[.int .i64 ((rd_T34 l0_2 x3_2).f0), .string ((rd_T34 l0_2 x3_2).f1), .string ((rd_T34 l0_2 x3_2).f2), .string ((rd_T34 l0_2 x3_2).f3), .bool ((rd_T34 l0_2 x3_2).f4), .int .i64 ((rd_T34 l0_2 x3_2).f5), .bool ((rd_T34 l0_2 x3_2).f6)] 34 (0, 0))) := ⟨(pq7 Pk)⟩
                              have n2_ : Aside0 (Below w.heap.size w (((((((w16.setCell ⟨gb201, 0, none⟩ (.int .i64 ((rd_T34 l0_2 x3_2).f0))).setCell ⟨gb201, 1, none⟩ (.string ((rd_T34 l0_2 x3_2).f1))).setCell ⟨gb201, 2, none⟩ (.string ((rd_T34 l0_2 x3_2).f2))).setCell ⟨gb201, 3, none⟩ (.string ((rd_T34 l0_2 x3_2).f3))).setCell ⟨gb201, 4, none⟩ (.bool ((rd_T34 l0_2 x3_2).f4))).setCell ⟨gb201, 5, none⟩ (.int .i64 ((rd_T34 l0_2 x3_2).f5))).setCell ⟨gb201, 6, none⟩ (.bool ((rd_T34 l0_2 x3_2).f6)))) := ⟨By⟩
                              (try clear BK197)
                              (try clear BK201)
                              (try clear HB)
                              generalize (((((((w16.setCell ⟨gb201, 0, none⟩ (.int .i64 ((rd_T34 l0_2 x3_2).f0))).setCell ⟨gb201, 1, none⟩ (.string ((rd_T34 l0_2 x3_2).f1))).setCell ⟨gb201, 2, none⟩ (.string ((rd_T34 l0_2 x3_2).f2))).setCell ⟨gb201, 3, none⟩ (.string ((rd_T34 l0_2 x3_2).f3))).setCell ⟨gb201, 4, none⟩ (.bool ((rd_T34 l0_2 x3_2).f4))).setCell ⟨gb201, 5, none⟩ (.int .i64 ((rd_T34 l0_2 x3_2).f5))).setCell ⟨gb201, 6, none⟩ (.bool ((rd_T34 l0_2 x3_2).f6))) = w32 at n0_ n1_ n2_ ⊢
                              have BK197 := n0_
                              have BK201 := n1_
                              have HB := n2_
                              clear n0_ n1_ n2_
                              have n0_ := Aside0.mk (blk_drew BK197.out)
                              have n1_ := Aside0.mk (blk_drew BK201.out)
                              have n2_ := Aside0.mk (below_drew1 HB.out)
                              clear BK197
                              clear BK201
                              clear HB
                              have BK197 := n0_
                              have BK201 := n1_
                              have HB := n2_
                              clear n0_ n1_ n2_
                              have p204 : 0 ≤ ((ji24) : Int) := of_decide_eq_true Da
                              have q204 : (ji24) < (l0_2.length : Int) := of_decide_eq_true Da
                              obtain ⟨ad204, e204, hx204_0, hx204_1, hx204_2, hx204_3, hx204_4, hx204_5, hx204_6⟩ := at_T34 HR0_2.out (ji24) p204 q204
                              have hw204_6 := hx204_6
                              have hw204_5 := hx204_5
                              have hw204_4 := hx204_4
                              have hw204_3 := hx204_3
                              have hw204_2 := hx204_2
                              have hw204_1 := hx204_1
                              have hw204_0 := hx204_0
                              obtain rfl : ad200 = ad204 := (by injection e204)
                              replace hx204_0 := bz HB.out hx204_0
                              replace hx204_1 := bz HB.out hx204_1
                              replace hx204_2 := bz HB.out hx204_2
                              replace hx204_3 := bz HB.out hx204_3
                              replace hx204_4 := bz HB.out hx204_4
                              replace hx204_5 := bz HB.out hx204_5
                              replace hx204_6 := bz HB.out hx204_6
                              replace p204 := eq_true p204
                              replace q204 := eq_true q204
                              refine start_ (n := 36) (S := fun w' => w'.cell? ⟨gb201, 0, none⟩ = some (.int .i64 ((rd_T34 l0_2 x3_2).f0)) ∧ w'.cell? ⟨gb201, 1, none⟩ = some (.string ((rd_T34 l0_2 x3_2).f1)) ∧ w'.cell? ⟨gb201, 2, none⟩ = some (.string ((rd_T34 l0_2 x3_2).f2)) ∧ w'.cell? ⟨gb201, 3, none⟩ = some (.string ((rd_T34 l0_2 x3_2).f3)) ∧ w'.cell? ⟨gb201, 4, none⟩ = some (.bool ((rd_T34 l0_2 x3_2).f4)) ∧ w'.cell? ⟨gb201, 5, none⟩ = some (.int .i64 ((rd_T34 l0_2 x3_2).f5)) ∧ w'.cell? ⟨gb201, 6, none⟩ = some (.bool ((rd_T34 l0_2 x3_2).f6)) ∧ w'.cell? ⟨gb197, 0, none⟩ = some (.int .i64 a0_0) ∧ w'.cell? ⟨gb197, 1, none⟩ = some (.int .i64 a0_1) ∧ w'.cell? ⟨gb197, 2, none⟩ = some (.slice (some ad200) l0_2.length c0_2) ∧ w'.cell? (ad200.add (((ji24)).toNat * 7)) = some (.int .i64 ((rd_T34 l0_2 (ji24)).f0)) ∧ w'.cell? ⟨(ad200.add (((ji24)).toNat * 7)).block, (ad200.add (((ji24)).toNat * 7)).off + 1, none⟩ = some (.string ((rd_T34 l0_2 (ji24)).f1)) ∧ w'.cell? ⟨(ad200.add (((ji24)).toNat * 7)).block, (ad200.add (((ji24)).toNat * 7)).off + 2, none⟩ = some (.string ((rd_T34 l0_2 (ji24)).f2)) ∧ w'.cell? ⟨(ad200.add (((ji24)).toNat * 7)).block, (ad200.add (((ji24)).toNat * 7)).off + 3, none⟩ = some (.string ((rd_T34 l0_2 (ji24)).f3)) ∧ w'.cell? ⟨(ad200.add (((ji24)).toNat * 7)).block, (ad200.add (((ji24)).toNat * 7)).off + 4, none⟩ = some (.bool ((rd_T34 l0_2 (ji24)).f4)) ∧ w'.cell? ⟨(ad200.add (((ji24)).toNat * 7)).block, (ad200.add (((ji24)).toNat * 7)).off + 5, none⟩ = some (.int .i64 ((rd_T34 l0_2 (ji24)).f5)) ∧ w'.cell? ⟨(ad200.add (((ji24)).toNat * 7)).block, (ad200.add (((ji24)).toNat * 7)).off + 6, none⟩ = some (.bool ((rd_T34 l0_2 (ji24)).f6))) (ds := []) (bv 36 0) (by kernel_rfl) rfl rfl ⟨bc BK201.out 0, bc BK201.out 1, bc BK201.out 2, bc BK201.out 3, bc BK201.out 4, bc BK201.out 5, bc BK201.out 6, bc BK197.out 0, bc BK197.out 1, bc BK197.out 2, (bz HB.out hw204_0), (bz HB.out hw204_1), (bz HB.out hw204_2), (bz HB.out hw204_3), (bz HB.out hw204_4), (bz HB.out hw204_5), (bz HB.out hw204_6)⟩ (fun hHeld => ?_); refine with_tabW spec_TableRight.tab7 spec_TableRight.bits7 (fun HT_ HW_ => ?_)
                              generalize w32.drew = w33 at BK197 BK201 HB hx204_0 hx204_1 hx204_2 hx204_3 hx204_4 hx204_5 hx204_6 hHeld ⊢
                              refine tk 0 34 (bv 36 1) HT_.out HW_.out hHeld (h := ?_)
                              refine one_ (i := 1) (N := some 35) (bv 36 3) rfl rfl (one_of HT_.out (by kernel_rfl)) (by decide) (fun K hK => ?_)
                              refine goes_ Tryd.func110 (by kernel_rfl) rfl #[.agg #[.int .i64 ((rd_T34 l0_2 x3_2).f0), .string ((rd_T34 l0_2 x3_2).f1), .string ((rd_T34 l0_2 x3_2).f2), .string ((rd_T34 l0_2 x3_2).f3), .bool ((rd_T34 l0_2 x3_2).f4), .int .i64 ((rd_T34 l0_2 x3_2).f5), .bool ((rd_T34 l0_2 x3_2).f6)]] (by rfl) rfl rfl Ag ?_
                              with_reducible refine (spec_l12Row.calls k2 ((rd_T34 l0_2 x3_2).f0) ((rd_T34 l0_2 x3_2).f1) ((rd_T34 l0_2 x3_2).f2) ((rd_T34 l0_2 x3_2).f3) ((rd_T34 l0_2 x3_2).f4) ((rd_T34 l0_2 x3_2).f5) ((rd_T34 l0_2 x3_2).f6) true _ A19.out).mono ?_
                              rintro e w34 ⟨rfl, hb⟩
                              refine ⟨_, rfl, ?_⟩
                              have n0_ := Aside0.mk (bb BK197.out hb)
                              have n1_ := Aside0.mk (bb BK201.out hb)
                              have n2_ := Aside0.mk (below_step By hb)
                              clear BK197
                              clear BK201
                              clear HB
                              have BK197 := n0_
                              have BK201 := n1_
                              have HB := n2_
                              clear n0_ n1_ n2_
                              (try clear hb)
                              (try clear hb2)
                              (try clear hk)
                              (try clear hi)
                              refine hK.out _ _ ⟨bc BK201.out 0, bc BK201.out 1, bc BK201.out 2, bc BK201.out 3, bc BK201.out 4, bc BK201.out 5, bc BK201.out 6, bc BK197.out 0, bc BK197.out 1, bc BK197.out 2, (bz HB.out hw204_0), (bz HB.out hw204_1), (bz HB.out hw204_2), (bz HB.out hw204_3), (bz HB.out hw204_4), (bz HB.out hw204_5), (bz HB.out hw204_6)⟩ (fun hHeld => ?_)
                              clear hK K
                              refine norm_ (a' := ?_) ?_ ?_
                              rotate_left
                              · show Act.put _ (some 35) _ = _
                                simp only [Act.put, List.setIfInBounds_toArray, List.set_cons_zero, List.set_cons_succ, i64_w, i32_w]
                                rfl
                              refine pu 2 36 (bv 36 7) HT_.out (h := ?_)
                              refine pu 3 37 (bv 36 15) HT_.out (h := ?_)
                              refine pu 4 38 (bv 36 31) HT_.out (h := ?_)
                              refine pu 6 40 (bv 36 95) HT_.out (h := ?_)
                              refine tk 5 39 (bv 36 127) HT_.out HW_.out hHeld (h := ?_)
                              refine tk 7 41 (bv 36 255) HT_.out HW_.out hHeld (h := ?_)
                              refine pu 8 42 (bv 36 511) HT_.out (h := ?_)
                              refine one_ (i := 9) (N := some 43) (bv 36 1023) rfl rfl (one_of HT_.out (by kernel_rfl)) (by decide) (fun K hK => ?_)
                              refine goes_ Tryd.func74 (by kernel_rfl) rfl #[.int .i64 ((rd_T34 l0_2 x3_2).f0), .int .i64 1, .int .i64 (wrap64 (a0_0 - 1))] (by rfl) rfl rfl Ag ?_
                              with_reducible refine (spec_l02Is.calls ((rd_T34 l0_2 x3_2).f0) 1 (wrap64 (a0_0 - 1)) true _ A21.out).mono ?_
                              rintro e w' ⟨rfl, ⟨nd, rfl⟩⟩
                              refine ⟨_, rfl, ?_⟩
                              refine hK.out _ _ ⟨bc BK201.out 0, bc BK201.out 1, bc BK201.out 2, bc BK201.out 3, bc BK201.out 4, bc BK201.out 5, bc BK201.out 6, bc BK197.out 0, bc BK197.out 1, bc BK197.out 2, (bz HB.out hw204_0), (bz HB.out hw204_1), (bz HB.out hw204_2), (bz HB.out hw204_3), (bz HB.out hw204_4), (bz HB.out hw204_5), (bz HB.out hw204_6)⟩ (fun hHeld => ?_)
                              clear hK K
                              refine norm_ (a' := ?_) ?_ ?_
                              rotate_left
                              · show Act.put _ (some 43) _ = _
                                simp only [Act.put, List.setIfInBounds_toArray, List.set_cons_zero, List.set_cons_succ, i64_w, i32_w]
                                rfl
                              refine pu 10 44 (bv 36 2047) HT_.out (h := ?_)
                              refine pu 11 45 (bv 36 4095) HT_.out (h := ?_)
                              refine pu 12 46 (bv 36 8191) HT_.out (h := ?_)
                              refine pu 13 47 (bv 36 16383) HT_.out (h := ?_)
                              refine pu 14 48 (bv 36 32767) HT_.out (h := ?_)
                              refine pu 15 49 (bv 36 65535) HT_.out (h := ?_)
                              refine pu 16 50 (bv 36 131071) HT_.out (h := ?_)
                              refine pu 18 52 (bv 36 393215) HT_.out (h := ?_)
                              refine pu 19 53 (bv 36 917503) HT_.out (h := ?_)
                              refine pu 23 57 (bv 36 9306111) HT_.out (h := ?_)
                              refine tk 17 51 (bv 36 9437183) HT_.out HW_.out hHeld (h := ?_)
                              refine pu 20 54 (bv 36 10485759) HT_.out (h := ?_)
                              refine pu 21 55 (bv 36 12582911) HT_.out (h := ?_)
                              refine tk 22 56 (bv 36 16777215) HT_.out HW_.out hHeld (h := ?_)
                              refine tk 24 58 (bv 36 33554431) HT_.out HW_.out hHeld (h := ?_)
                              refine pu 25 59 (bv 36 67108863) HT_.out (h := ?_)
                              refine pu 26 60 (bv 36 134217727) HT_.out (h := ?_)
                              refine pu 27 61 (bv 36 268435455) HT_.out (h := ?_)
                              refine pu 28 62 (bv 36 536870911) HT_.out (h := ?_)
                              refine pu 29 63 (bv 36 1073741823) HT_.out (h := ?_)
                              refine pu 31 65 (bv 36 3221225471) HT_.out (h := ?_)
                              refine tk 30 64 (bv 36 4294967295) HT_.out HW_.out hHeld (h := ?_)
                              refine tk 32 66 (bv 36 8589934591) HT_.out HW_.out hHeld (h := ?_)
                              refine one_ (i := 33) (N := some 67) (bv 36 17179869183) rfl rfl (one_of HT_.out (by kernel_rfl)) (by decide) (fun K hK => ?_)
                              refine goes_ Tryd.func74 (by kernel_rfl) rfl #[.int .i64 ((rd_T34 l0_2 x3_2).f5), .int .i64 1, .int .i64 a0_1] (by rfl) rfl rfl Ag ?_
                              with_reducible refine (spec_l02Is.calls ((rd_T34 l0_2 x3_2).f5) 1 a0_1 t205 _ A31.out).mono ?_
                              rintro e w' ⟨rfl, ⟨nd, rfl⟩⟩
                              refine ⟨_, rfl, ?_⟩
                              refine hK.out _ _ ⟨bc BK201.out 0, bc BK201.out 1, bc BK201.out 2, bc BK201.out 3, bc BK201.out 4, bc BK201.out 5, bc BK201.out 6, bc BK197.out 0, bc BK197.out 1, bc BK197.out 2, (bz HB.out hw204_0), (bz HB.out hw204_1), (bz HB.out hw204_2), (bz HB.out hw204_3), (bz HB.out hw204_4), (bz HB.out hw204_5), (bz HB.out hw204_6)⟩ (fun hHeld => ?_)
                              clear hK K
                              refine norm_ (a' := ?_) ?_ ?_
                              rotate_left
                              · show Act.put _ (some 67) _ = _
                                simp only [Act.put, List.setIfInBounds_toArray, List.set_cons_zero, List.set_cons_succ, i64_w, i32_w]
                                rfl
                              refine pu 34 68 (bv 36 34359738367) HT_.out (h := ?_)
                              refine pu 35 69 (bv 36 68719476735) HT_.out (h := ?_)
                              refine done_ (done_of HT_.out (by kernel_rfl)) ?_
                              try go_wp2
                              go_meet
                              case rel => exact ⟨_, (!t205), (by first | rfl | (simp; done) | (simp [*]; done)), H', ⟨by have := HJ1.out; have := HK2.out; first | omega | exact Nat.le_refl _⟩, ⟨by (with_reducible repeat (first | refine blk_drewN ?_ _ | refine blk_drew ?_ | refine blk_alloc ?_ _)); exact BK197.out⟩, ⟨by (with_reducible repeat (first | refine blk_drewN ?_ _ | refine blk_drew ?_ | refine blk_alloc ?_ _)); exact BK201.out⟩, ⟨By⟩⟩
                          · rw [if_neg c26] at H
                            exact absurd H (by simp)
                        · rw [if_neg c25] at H
                          exact absurd H (by simp)
                      · rw [if_neg c23] at H
                        have c23b0 : decide (0 < x3_2) = false := decide_eq_false c23
                        clear c23
                        (first | rw [c23b0] | (simp only [i64_w, i32_w]; rw [c23b0]) | skip)
                        replace H := Option.bind_eq_some_iff.mp H
                        obtain ⟨t206, A350, H⟩ := H
                        replace H : (spec_TableRight.j2 k2 x3_2 (!t206) a0_0 a0_1 l0_2 ((rd_T34 l0_2 x3_2).f0) ((rd_T34 l0_2 x3_2).f1) ((rd_T34 l0_2 x3_2).f2) ((rd_T34 l0_2 x3_2).f3) ((rd_T34 l0_2 x3_2).f4) ((rd_T34 l0_2 x3_2).f5) ((rd_T34 l0_2 x3_2).f6)) = some r := H
                        have A35 := Aside0.mk A350
                        clear A350
                        have H' := Aside0.mk H
                        clear H
                        try go_wp2
                        have n0_ : Aside0 ((((((((w16.setCell ⟨gb201, 0, none⟩ (.int .i64 ((rd_T34 l0_2 x3_2).f0))).setCell ⟨gb201, 1, none⟩ (.string ((rd_T34 l0_2 x3_2).f1))).setCell ⟨gb201, 2, none⟩ (.string ((rd_T34 l0_2 x3_2).f2))).setCell ⟨gb201, 3, none⟩ (.string ((rd_T34 l0_2 x3_2).f3))).setCell ⟨gb201, 4, none⟩ (.bool ((rd_T34 l0_2 x3_2).f4))).setCell ⟨gb201, 5, none⟩ (.int .i64 ((rd_T34 l0_2 x3_2).f5))).setCell ⟨gb201, 6, none⟩ (.bool ((rd_T34 l0_2 x3_2).f6))).heap[gb197]? = some (.cells #[.int .i64 a0_0, .int .i64 a0_1, .slice (some ad200) l0_2.length c0_2] 38 (0, 0))) := ⟨Fr⟩
                        have n1_ : Aside0 ((((((((w16.setCell ⟨gb201, 0, none⟩ (.int .i64 ((rd_T34 l0_2 x3_2).f0))).setCell ⟨gb201, 1, none⟩ (.string ((rd_T34 l0_2 x3_2).f1))).setCell ⟨gb201, 2, none⟩ (.string ((rd_T34 l0_2 x3_2).f2))).setCell ⟨gb201, 3, none⟩ (.string ((rd_T34 l0_2 x3_2).f3))).setCell ⟨gb201, 4, none⟩ (.bool ((rd_T34 l0_2 x3_2).f4))).setCell ⟨gb201, 5, none⟩ (.int .i64 ((rd_T34 l0_2 x3_2).f5))).setCell ⟨gb201, 6, none⟩ (.bool ((rd_T34 l0_2 x3_2).f6))).heap[gb201]? = some (.cells #[.int .i64 ((rd_T34 l0_2 x3_2).f0), .string ((rd_T34 l0_2 x3_2).f1), .string ((rd_T34 l0_2 x3_2).f2), .string ((rd_T34 l0_2 x3_2).f3), .bool ((rd_T34 l0_2 x3_2).f4), .int .i64 ((rd_T34 l0_2 x3_2).f5), .bool ((rd_T34 l0_2 x3_2).f6)] 34 (0, 0))) := ⟨(pq7 Pk)⟩
                        have n2_ : Aside0 (Below w.heap.size w (((((((w16.setCell ⟨gb201, 0, none⟩ (.int .i64 ((rd_T34 l0_2 x3_2).f0))).setCell ⟨gb201, 1, none⟩ (.string ((rd_T34 l0_2 x3_2).f1))).setCell ⟨gb201, 2, none⟩ (.string ((rd_T34 l0_2 x3_2).f2))).setCell ⟨gb201, 3, none⟩ (.string ((rd_T34 l0_2 x3_2).f3))).setCell ⟨gb201, 4, none⟩ (.bool ((rd_T34 l0_2 x3_2).f4))).setCell ⟨gb201, 5, none⟩ (.int .i64 ((rd_T34 l0_2 x3_2).f5))).setCell ⟨gb201, 6, none⟩ (.bool ((rd_T34 l0_2 x3_2).f6)))) := ⟨By⟩
                        (try clear BK197)
                        (try clear BK201)
                        (try clear HB)
                        generalize (((((((w16.setCell ⟨gb201, 0, none⟩ (.int .i64 ((rd_T34 l0_2 x3_2).f0))).setCell ⟨gb201, 1, none⟩ (.string ((rd_T34 l0_2 x3_2).f1))).setCell ⟨gb201, 2, none⟩ (.string ((rd_T34 l0_2 x3_2).f2))).setCell ⟨gb201, 3, none⟩ (.string ((rd_T34 l0_2 x3_2).f3))).setCell ⟨gb201, 4, none⟩ (.bool ((rd_T34 l0_2 x3_2).f4))).setCell ⟨gb201, 5, none⟩ (.int .i64 ((rd_T34 l0_2 x3_2).f5))).setCell ⟨gb201, 6, none⟩ (.bool ((rd_T34 l0_2 x3_2).f6))) = w36 at n0_ n1_ n2_ ⊢
                        have BK197 := n0_
                        have BK201 := n1_
                        have HB := n2_
                        clear n0_ n1_ n2_
                        have n0_ := Aside0.mk (blk_drew BK197.out)
                        have n1_ := Aside0.mk (blk_drew BK201.out)
                        have n2_ := Aside0.mk (below_drew1 HB.out)
                        clear BK197
                        clear BK201
                        clear HB
                        have BK197 := n0_
                        have BK201 := n1_
                        have HB := n2_
                        clear n0_ n1_ n2_
                        refine start_ (n := 36) (S := fun w' => w'.cell? ⟨gb201, 0, none⟩ = some (.int .i64 ((rd_T34 l0_2 x3_2).f0)) ∧ w'.cell? ⟨gb201, 1, none⟩ = some (.string ((rd_T34 l0_2 x3_2).f1)) ∧ w'.cell? ⟨gb201, 2, none⟩ = some (.string ((rd_T34 l0_2 x3_2).f2)) ∧ w'.cell? ⟨gb201, 3, none⟩ = some (.string ((rd_T34 l0_2 x3_2).f3)) ∧ w'.cell? ⟨gb201, 4, none⟩ = some (.bool ((rd_T34 l0_2 x3_2).f4)) ∧ w'.cell? ⟨gb201, 5, none⟩ = some (.int .i64 ((rd_T34 l0_2 x3_2).f5)) ∧ w'.cell? ⟨gb201, 6, none⟩ = some (.bool ((rd_T34 l0_2 x3_2).f6)) ∧ w'.cell? ⟨gb197, 0, none⟩ = some (.int .i64 a0_0) ∧ w'.cell? ⟨gb197, 1, none⟩ = some (.int .i64 a0_1) ∧ w'.cell? ⟨gb197, 2, none⟩ = some (.slice (some ad200) l0_2.length c0_2)) (ds := []) (bv 36 0) (by kernel_rfl) rfl rfl ⟨bc BK201.out 0, bc BK201.out 1, bc BK201.out 2, bc BK201.out 3, bc BK201.out 4, bc BK201.out 5, bc BK201.out 6, bc BK197.out 0, bc BK197.out 1, bc BK197.out 2⟩ (fun hHeld => ?_); refine with_tabW spec_TableRight.tab7 spec_TableRight.bits7 (fun HT_ HW_ => ?_)
                        generalize w36.drew = w37 at BK197 BK201 HB hHeld ⊢
                        refine tk 0 34 (bv 36 1) HT_.out HW_.out hHeld (h := ?_)
                        refine one_ (i := 1) (N := some 35) (bv 36 3) rfl rfl (one_of HT_.out (by kernel_rfl)) (by decide) (fun K hK => ?_)
                        refine goes_ Tryd.func110 (by kernel_rfl) rfl #[.agg #[.int .i64 ((rd_T34 l0_2 x3_2).f0), .string ((rd_T34 l0_2 x3_2).f1), .string ((rd_T34 l0_2 x3_2).f2), .string ((rd_T34 l0_2 x3_2).f3), .bool ((rd_T34 l0_2 x3_2).f4), .int .i64 ((rd_T34 l0_2 x3_2).f5), .bool ((rd_T34 l0_2 x3_2).f6)]] (by rfl) rfl rfl Ag ?_
                        with_reducible refine (spec_l12Row.calls k2 ((rd_T34 l0_2 x3_2).f0) ((rd_T34 l0_2 x3_2).f1) ((rd_T34 l0_2 x3_2).f2) ((rd_T34 l0_2 x3_2).f3) ((rd_T34 l0_2 x3_2).f4) ((rd_T34 l0_2 x3_2).f5) ((rd_T34 l0_2 x3_2).f6) true _ A19.out).mono ?_
                        rintro e w38 ⟨rfl, hb⟩
                        refine ⟨_, rfl, ?_⟩
                        have n0_ := Aside0.mk (bb BK197.out hb)
                        have n1_ := Aside0.mk (bb BK201.out hb)
                        have n2_ := Aside0.mk (below_step By hb)
                        clear BK197
                        clear BK201
                        clear HB
                        have BK197 := n0_
                        have BK201 := n1_
                        have HB := n2_
                        clear n0_ n1_ n2_
                        (try clear hb)
                        (try clear hb2)
                        (try clear hk)
                        (try clear hi)
                        refine hK.out _ _ ⟨bc BK201.out 0, bc BK201.out 1, bc BK201.out 2, bc BK201.out 3, bc BK201.out 4, bc BK201.out 5, bc BK201.out 6, bc BK197.out 0, bc BK197.out 1, bc BK197.out 2⟩ (fun hHeld => ?_)
                        clear hK K
                        refine norm_ (a' := ?_) ?_ ?_
                        rotate_left
                        · show Act.put _ (some 35) _ = _
                          simp only [Act.put, List.setIfInBounds_toArray, List.set_cons_zero, List.set_cons_succ, i64_w, i32_w]
                          rfl
                        refine pu 2 36 (bv 36 7) HT_.out (h := ?_)
                        refine pu 3 37 (bv 36 15) HT_.out (h := ?_)
                        refine pu 4 38 (bv 36 31) HT_.out (h := ?_)
                        refine pu 6 40 (bv 36 95) HT_.out (h := ?_)
                        refine tk 5 39 (bv 36 127) HT_.out HW_.out hHeld (h := ?_)
                        refine tk 7 41 (bv 36 255) HT_.out HW_.out hHeld (h := ?_)
                        refine pu 8 42 (bv 36 511) HT_.out (h := ?_)
                        refine one_ (i := 9) (N := some 43) (bv 36 1023) rfl rfl (one_of HT_.out (by kernel_rfl)) (by decide) (fun K hK => ?_)
                        refine goes_ Tryd.func74 (by kernel_rfl) rfl #[.int .i64 ((rd_T34 l0_2 x3_2).f0), .int .i64 1, .int .i64 (wrap64 (a0_0 - 1))] (by rfl) rfl rfl Ag ?_
                        with_reducible refine (spec_l02Is.calls ((rd_T34 l0_2 x3_2).f0) 1 (wrap64 (a0_0 - 1)) true _ A21.out).mono ?_
                        rintro e w' ⟨rfl, ⟨nd, rfl⟩⟩
                        refine ⟨_, rfl, ?_⟩
                        refine hK.out _ _ ⟨bc BK201.out 0, bc BK201.out 1, bc BK201.out 2, bc BK201.out 3, bc BK201.out 4, bc BK201.out 5, bc BK201.out 6, bc BK197.out 0, bc BK197.out 1, bc BK197.out 2⟩ (fun hHeld => ?_)
                        clear hK K
                        refine norm_ (a' := ?_) ?_ ?_
                        rotate_left
                        · show Act.put _ (some 43) _ = _
                          simp only [Act.put, List.setIfInBounds_toArray, List.set_cons_zero, List.set_cons_succ, i64_w, i32_w]
                          rfl
                        refine pu 10 44 (bv 36 2047) HT_.out (h := ?_)
                        refine pu 11 45 (bv 36 4095) HT_.out (h := ?_)
                        refine pu 12 46 (bv 36 8191) HT_.out (h := ?_)
                        refine pu 13 47 (bv 36 16383) HT_.out (h := ?_)
                        refine pu 14 48 (bv 36 32767) HT_.out (h := ?_)
                        refine pu 15 49 (bv 36 65535) HT_.out (h := ?_)
                        refine pn 16 50 (bv 36 131071) HT_.out (h := ?_)
                        refine pn 17 51 (bv 36 262143) HT_.out (h := ?_)
                        refine pn 18 52 (bv 36 524287) HT_.out (h := ?_)
                        refine pn 19 53 (bv 36 1048575) HT_.out (h := ?_)
                        refine pn 20 54 (bv 36 2097151) HT_.out (h := ?_)
                        refine pn 21 55 (bv 36 4194303) HT_.out (h := ?_)
                        refine pn 22 56 (bv 36 8388607) HT_.out (h := ?_)
                        refine pn 23 57 (bv 36 16777215) HT_.out (h := ?_)
                        refine pn 24 58 (bv 36 33554431) HT_.out (h := ?_)
                        refine pn 25 59 (bv 36 67108863) HT_.out (h := ?_)
                        refine pu 26 60 (bv 36 134217727) HT_.out (h := ?_)
                        refine pu 27 61 (bv 36 268435455) HT_.out (h := ?_)
                        refine pu 28 62 (bv 36 536870911) HT_.out (h := ?_)
                        refine pu 29 63 (bv 36 1073741823) HT_.out (h := ?_)
                        refine pu 31 65 (bv 36 3221225471) HT_.out (h := ?_)
                        refine tk 30 64 (bv 36 4294967295) HT_.out HW_.out hHeld (h := ?_)
                        refine tk 32 66 (bv 36 8589934591) HT_.out HW_.out hHeld (h := ?_)
                        refine one_ (i := 33) (N := some 67) (bv 36 17179869183) rfl rfl (one_of HT_.out (by kernel_rfl)) (by decide) (fun K hK => ?_)
                        refine goes_ Tryd.func74 (by kernel_rfl) rfl #[.int .i64 ((rd_T34 l0_2 x3_2).f5), .int .i64 1, .int .i64 a0_1] (by rfl) rfl rfl Ag ?_
                        with_reducible refine (spec_l02Is.calls ((rd_T34 l0_2 x3_2).f5) 1 a0_1 t206 _ A35.out).mono ?_
                        rintro e w' ⟨rfl, ⟨nd, rfl⟩⟩
                        refine ⟨_, rfl, ?_⟩
                        refine hK.out _ _ ⟨bc BK201.out 0, bc BK201.out 1, bc BK201.out 2, bc BK201.out 3, bc BK201.out 4, bc BK201.out 5, bc BK201.out 6, bc BK197.out 0, bc BK197.out 1, bc BK197.out 2⟩ (fun hHeld => ?_)
                        clear hK K
                        refine norm_ (a' := ?_) ?_ ?_
                        rotate_left
                        · show Act.put _ (some 67) _ = _
                          simp only [Act.put, List.setIfInBounds_toArray, List.set_cons_zero, List.set_cons_succ, i64_w, i32_w]
                          rfl
                        refine pu 34 68 (bv 36 34359738367) HT_.out (h := ?_)
                        refine pu 35 69 (bv 36 68719476735) HT_.out (h := ?_)
                        refine done_ (done_of HT_.out (by kernel_rfl)) ?_
                        try go_wp2
                        go_meet
                        case rel => exact ⟨_, (!t206), (by first | rfl | (simp; done) | (simp [*]; done)), H', ⟨by have := HJ1.out; have := HK2.out; first | omega | exact Nat.le_refl _⟩, ⟨by (with_reducible repeat (first | refine blk_drewN ?_ _ | refine blk_drew ?_ | refine blk_alloc ?_ _)); exact BK197.out⟩, ⟨by (with_reducible repeat (first | refine blk_drewN ?_ _ | refine blk_drew ?_ | refine blk_alloc ?_ _)); exact BK201.out⟩, ⟨By⟩⟩
                    · replace c22 := Bool.eq_false_iff.mpr c22
                      subst c22
                      have H1 : (spec_TableRight.j2 k2 x3_2 true a0_0 a0_1 l0_2 ((rd_T34 l0_2 x3_2).f0) ((rd_T34 l0_2 x3_2).f1) ((rd_T34 l0_2 x3_2).f2) ((rd_T34 l0_2 x3_2).f3) ((rd_T34 l0_2 x3_2).f4) ((rd_T34 l0_2 x3_2).f5) ((rd_T34 l0_2 x3_2).f6)) = some r := by rw [if_neg (show ¬ (false = true) by decide)] at H; exact H
                      clear H
                      have H := H1
                      clear H1
                      have H' := Aside0.mk H
                      clear H
                      try go_wp2
                      have n0_ : Aside0 ((((((((w16.setCell ⟨gb201, 0, none⟩ (.int .i64 ((rd_T34 l0_2 x3_2).f0))).setCell ⟨gb201, 1, none⟩ (.string ((rd_T34 l0_2 x3_2).f1))).setCell ⟨gb201, 2, none⟩ (.string ((rd_T34 l0_2 x3_2).f2))).setCell ⟨gb201, 3, none⟩ (.string ((rd_T34 l0_2 x3_2).f3))).setCell ⟨gb201, 4, none⟩ (.bool ((rd_T34 l0_2 x3_2).f4))).setCell ⟨gb201, 5, none⟩ (.int .i64 ((rd_T34 l0_2 x3_2).f5))).setCell ⟨gb201, 6, none⟩ (.bool ((rd_T34 l0_2 x3_2).f6))).heap[gb197]? = some (.cells #[.int .i64 a0_0, .int .i64 a0_1, .slice (some ad200) l0_2.length c0_2] 38 (0, 0))) := ⟨Fr⟩
                      have n1_ : Aside0 ((((((((w16.setCell ⟨gb201, 0, none⟩ (.int .i64 ((rd_T34 l0_2 x3_2).f0))).setCell ⟨gb201, 1, none⟩ (.string ((rd_T34 l0_2 x3_2).f1))).setCell ⟨gb201, 2, none⟩ (.string ((rd_T34 l0_2 x3_2).f2))).setCell ⟨gb201, 3, none⟩ (.string ((rd_T34 l0_2 x3_2).f3))).setCell ⟨gb201, 4, none⟩ (.bool ((rd_T34 l0_2 x3_2).f4))).setCell ⟨gb201, 5, none⟩ (.int .i64 ((rd_T34 l0_2 x3_2).f5))).setCell ⟨gb201, 6, none⟩ (.bool ((rd_T34 l0_2 x3_2).f6))).heap[gb201]? = some (.cells #[.int .i64 ((rd_T34 l0_2 x3_2).f0), .string ((rd_T34 l0_2 x3_2).f1), .string ((rd_T34 l0_2 x3_2).f2), .string ((rd_T34 l0_2 x3_2).f3), .bool ((rd_T34 l0_2 x3_2).f4), .int .i64 ((rd_T34 l0_2 x3_2).f5), .bool ((rd_T34 l0_2 x3_2).f6)] 34 (0, 0))) := ⟨(pq7 Pk)⟩
                      have n2_ : Aside0 (Below w.heap.size w (((((((w16.setCell ⟨gb201, 0, none⟩ (.int .i64 ((rd_T34 l0_2 x3_2).f0))).setCell ⟨gb201, 1, none⟩ (.string ((rd_T34 l0_2 x3_2).f1))).setCell ⟨gb201, 2, none⟩ (.string ((rd_T34 l0_2 x3_2).f2))).setCell ⟨gb201, 3, none⟩ (.string ((rd_T34 l0_2 x3_2).f3))).setCell ⟨gb201, 4, none⟩ (.bool ((rd_T34 l0_2 x3_2).f4))).setCell ⟨gb201, 5, none⟩ (.int .i64 ((rd_T34 l0_2 x3_2).f5))).setCell ⟨gb201, 6, none⟩ (.bool ((rd_T34 l0_2 x3_2).f6)))) := ⟨By⟩
                      (try clear BK197)
                      (try clear BK201)
                      (try clear HB)
                      generalize (((((((w16.setCell ⟨gb201, 0, none⟩ (.int .i64 ((rd_T34 l0_2 x3_2).f0))).setCell ⟨gb201, 1, none⟩ (.string ((rd_T34 l0_2 x3_2).f1))).setCell ⟨gb201, 2, none⟩ (.string ((rd_T34 l0_2 x3_2).f2))).setCell ⟨gb201, 3, none⟩ (.string ((rd_T34 l0_2 x3_2).f3))).setCell ⟨gb201, 4, none⟩ (.bool ((rd_T34 l0_2 x3_2).f4))).setCell ⟨gb201, 5, none⟩ (.int .i64 ((rd_T34 l0_2 x3_2).f5))).setCell ⟨gb201, 6, none⟩ (.bool ((rd_T34 l0_2 x3_2).f6))) = w39 at n0_ n1_ n2_ ⊢
                      have BK197 := n0_
                      have BK201 := n1_
                      have HB := n2_
                      clear n0_ n1_ n2_
                      have n0_ := Aside0.mk (blk_drew BK197.out)
                      have n1_ := Aside0.mk (blk_drew BK201.out)
                      have n2_ := Aside0.mk (below_drew1 HB.out)
                      clear BK197
                      clear BK201
                      clear HB
                      have BK197 := n0_
                      have BK201 := n1_
                      have HB := n2_
                      clear n0_ n1_ n2_
                      refine start_ (n := 36) (S := fun w' => w'.cell? ⟨gb201, 0, none⟩ = some (.int .i64 ((rd_T34 l0_2 x3_2).f0)) ∧ w'.cell? ⟨gb201, 1, none⟩ = some (.string ((rd_T34 l0_2 x3_2).f1)) ∧ w'.cell? ⟨gb201, 2, none⟩ = some (.string ((rd_T34 l0_2 x3_2).f2)) ∧ w'.cell? ⟨gb201, 3, none⟩ = some (.string ((rd_T34 l0_2 x3_2).f3)) ∧ w'.cell? ⟨gb201, 4, none⟩ = some (.bool ((rd_T34 l0_2 x3_2).f4)) ∧ w'.cell? ⟨gb201, 5, none⟩ = some (.int .i64 ((rd_T34 l0_2 x3_2).f5)) ∧ w'.cell? ⟨gb201, 6, none⟩ = some (.bool ((rd_T34 l0_2 x3_2).f6)) ∧ w'.cell? ⟨gb197, 0, none⟩ = some (.int .i64 a0_0) ∧ w'.cell? ⟨gb197, 1, none⟩ = some (.int .i64 a0_1) ∧ w'.cell? ⟨gb197, 2, none⟩ = some (.slice (some ad200) l0_2.length c0_2)) (ds := []) (bv 36 0) (by kernel_rfl) rfl rfl ⟨bc BK201.out 0, bc BK201.out 1, bc BK201.out 2, bc BK201.out 3, bc BK201.out 4, bc BK201.out 5, bc BK201.out 6, bc BK197.out 0, bc BK197.out 1, bc BK197.out 2⟩ (fun hHeld => ?_); refine with_tabW spec_TableRight.tab7 spec_TableRight.bits7 (fun HT_ HW_ => ?_)
                      generalize w39.drew = w40 at BK197 BK201 HB hHeld ⊢
                      refine tk 0 34 (bv 36 1) HT_.out HW_.out hHeld (h := ?_)
                      refine one_ (i := 1) (N := some 35) (bv 36 3) rfl rfl (one_of HT_.out (by kernel_rfl)) (by decide) (fun K hK => ?_)
                      refine goes_ Tryd.func110 (by kernel_rfl) rfl #[.agg #[.int .i64 ((rd_T34 l0_2 x3_2).f0), .string ((rd_T34 l0_2 x3_2).f1), .string ((rd_T34 l0_2 x3_2).f2), .string ((rd_T34 l0_2 x3_2).f3), .bool ((rd_T34 l0_2 x3_2).f4), .int .i64 ((rd_T34 l0_2 x3_2).f5), .bool ((rd_T34 l0_2 x3_2).f6)]] (by rfl) rfl rfl Ag ?_
                      with_reducible refine (spec_l12Row.calls k2 ((rd_T34 l0_2 x3_2).f0) ((rd_T34 l0_2 x3_2).f1) ((rd_T34 l0_2 x3_2).f2) ((rd_T34 l0_2 x3_2).f3) ((rd_T34 l0_2 x3_2).f4) ((rd_T34 l0_2 x3_2).f5) ((rd_T34 l0_2 x3_2).f6) true _ A19.out).mono ?_
                      rintro e w41 ⟨rfl, hb⟩
                      refine ⟨_, rfl, ?_⟩
                      have n0_ := Aside0.mk (bb BK197.out hb)
                      have n1_ := Aside0.mk (bb BK201.out hb)
                      have n2_ := Aside0.mk (below_step By hb)
                      clear BK197
                      clear BK201
                      clear HB
                      have BK197 := n0_
                      have BK201 := n1_
                      have HB := n2_
                      clear n0_ n1_ n2_
                      (try clear hb)
                      (try clear hb2)
                      (try clear hk)
                      (try clear hi)
                      refine hK.out _ _ ⟨bc BK201.out 0, bc BK201.out 1, bc BK201.out 2, bc BK201.out 3, bc BK201.out 4, bc BK201.out 5, bc BK201.out 6, bc BK197.out 0, bc BK197.out 1, bc BK197.out 2⟩ (fun hHeld => ?_)
                      clear hK K
                      refine norm_ (a' := ?_) ?_ ?_
                      rotate_left
                      · show Act.put _ (some 35) _ = _
                        simp only [Act.put, List.setIfInBounds_toArray, List.set_cons_zero, List.set_cons_succ, i64_w, i32_w]
                        rfl
                      refine pu 2 36 (bv 36 7) HT_.out (h := ?_)
                      refine pu 3 37 (bv 36 15) HT_.out (h := ?_)
                      refine pu 4 38 (bv 36 31) HT_.out (h := ?_)
                      refine pu 6 40 (bv 36 95) HT_.out (h := ?_)
                      refine tk 5 39 (bv 36 127) HT_.out HW_.out hHeld (h := ?_)
                      refine tk 7 41 (bv 36 255) HT_.out HW_.out hHeld (h := ?_)
                      refine pu 8 42 (bv 36 511) HT_.out (h := ?_)
                      refine one_ (i := 9) (N := some 43) (bv 36 1023) rfl rfl (one_of HT_.out (by kernel_rfl)) (by decide) (fun K hK => ?_)
                      refine goes_ Tryd.func74 (by kernel_rfl) rfl #[.int .i64 ((rd_T34 l0_2 x3_2).f0), .int .i64 1, .int .i64 (wrap64 (a0_0 - 1))] (by rfl) rfl rfl Ag ?_
                      with_reducible refine (spec_l02Is.calls ((rd_T34 l0_2 x3_2).f0) 1 (wrap64 (a0_0 - 1)) false _ A21.out).mono ?_
                      rintro e w' ⟨rfl, ⟨nd, rfl⟩⟩
                      refine ⟨_, rfl, ?_⟩
                      refine hK.out _ _ ⟨bc BK201.out 0, bc BK201.out 1, bc BK201.out 2, bc BK201.out 3, bc BK201.out 4, bc BK201.out 5, bc BK201.out 6, bc BK197.out 0, bc BK197.out 1, bc BK197.out 2⟩ (fun hHeld => ?_)
                      clear hK K
                      refine norm_ (a' := ?_) ?_ ?_
                      rotate_left
                      · show Act.put _ (some 43) _ = _
                        simp only [Act.put, List.setIfInBounds_toArray, List.set_cons_zero, List.set_cons_succ, i64_w, i32_w]
                        rfl
                      refine pu 10 44 (bv 36 2047) HT_.out (h := ?_)
                      refine pu 11 45 (bv 36 4095) HT_.out (h := ?_)
                      refine pu 12 46 (bv 36 8191) HT_.out (h := ?_)
                      refine pn 13 47 (bv 36 16383) HT_.out (h := ?_)
                      refine pn 14 48 (bv 36 32767) HT_.out (h := ?_)
                      refine pn 15 49 (bv 36 65535) HT_.out (h := ?_)
                      refine pn 16 50 (bv 36 131071) HT_.out (h := ?_)
                      refine pn 17 51 (bv 36 262143) HT_.out (h := ?_)
                      refine pn 18 52 (bv 36 524287) HT_.out (h := ?_)
                      refine pn 19 53 (bv 36 1048575) HT_.out (h := ?_)
                      refine pn 20 54 (bv 36 2097151) HT_.out (h := ?_)
                      refine pn 21 55 (bv 36 4194303) HT_.out (h := ?_)
                      refine pn 22 56 (bv 36 8388607) HT_.out (h := ?_)
                      refine pn 23 57 (bv 36 16777215) HT_.out (h := ?_)
                      refine pn 24 58 (bv 36 33554431) HT_.out (h := ?_)
                      refine pn 25 59 (bv 36 67108863) HT_.out (h := ?_)
                      refine pn 26 60 (bv 36 134217727) HT_.out (h := ?_)
                      refine pu 27 61 (bv 36 268435455) HT_.out (h := ?_)
                      refine pu 28 62 (bv 36 536870911) HT_.out (h := ?_)
                      refine pn 29 63 (bv 36 1073741823) HT_.out (h := ?_)
                      refine pn 30 64 (bv 36 2147483647) HT_.out (h := ?_)
                      refine pn 31 65 (bv 36 4294967295) HT_.out (h := ?_)
                      refine pn 32 66 (bv 36 8589934591) HT_.out (h := ?_)
                      refine pn 33 67 (bv 36 17179869183) HT_.out (h := ?_)
                      refine pn 34 68 (bv 36 34359738367) HT_.out (h := ?_)
                      refine pu 35 69 (bv 36 68719476735) HT_.out (h := ?_)
                      refine done_ (done_of HT_.out (by kernel_rfl)) ?_
                      try go_wp2
                      go_meet
                      case rel => exact ⟨_, (true), (by first | rfl | (simp; done) | (simp [*]; done)), H', ⟨by have := HJ1.out; have := HK2.out; first | omega | exact Nat.le_refl _⟩, ⟨by (with_reducible repeat (first | refine blk_drewN ?_ _ | refine blk_drew ?_ | refine blk_alloc ?_ _)); exact BK197.out⟩, ⟨by (with_reducible repeat (first | refine blk_drewN ?_ _ | refine blk_drew ?_ | refine blk_alloc ?_ _)); exact BK201.out⟩, ⟨By⟩⟩
                  · replace c20 := Bool.eq_false_iff.mpr c20
                    subst c20
                    have H1 : (spec_TableRight.j2 k2 x3_2 true a0_0 a0_1 l0_2 ((rd_T34 l0_2 x3_2).f0) ((rd_T34 l0_2 x3_2).f1) ((rd_T34 l0_2 x3_2).f2) ((rd_T34 l0_2 x3_2).f3) ((rd_T34 l0_2 x3_2).f4) ((rd_T34 l0_2 x3_2).f5) ((rd_T34 l0_2 x3_2).f6)) = some r := by rw [if_neg (show ¬ (false = true) by decide)] at H; exact H
                    clear H
                    have H := H1
                    clear H1
                    have H' := Aside0.mk H
                    clear H
                    try go_wp2
                    have n0_ : Aside0 ((((((((w16.setCell ⟨gb201, 0, none⟩ (.int .i64 ((rd_T34 l0_2 x3_2).f0))).setCell ⟨gb201, 1, none⟩ (.string ((rd_T34 l0_2 x3_2).f1))).setCell ⟨gb201, 2, none⟩ (.string ((rd_T34 l0_2 x3_2).f2))).setCell ⟨gb201, 3, none⟩ (.string ((rd_T34 l0_2 x3_2).f3))).setCell ⟨gb201, 4, none⟩ (.bool ((rd_T34 l0_2 x3_2).f4))).setCell ⟨gb201, 5, none⟩ (.int .i64 ((rd_T34 l0_2 x3_2).f5))).setCell ⟨gb201, 6, none⟩ (.bool ((rd_T34 l0_2 x3_2).f6))).heap[gb197]? = some (.cells #[.int .i64 a0_0, .int .i64 a0_1, .slice (some ad200) l0_2.length c0_2] 38 (0, 0))) := ⟨Fr⟩
                    have n1_ : Aside0 ((((((((w16.setCell ⟨gb201, 0, none⟩ (.int .i64 ((rd_T34 l0_2 x3_2).f0))).setCell ⟨gb201, 1, none⟩ (.string ((rd_T34 l0_2 x3_2).f1))).setCell ⟨gb201, 2, none⟩ (.string ((rd_T34 l0_2 x3_2).f2))).setCell ⟨gb201, 3, none⟩ (.string ((rd_T34 l0_2 x3_2).f3))).setCell ⟨gb201, 4, none⟩ (.bool ((rd_T34 l0_2 x3_2).f4))).setCell ⟨gb201, 5, none⟩ (.int .i64 ((rd_T34 l0_2 x3_2).f5))).setCell ⟨gb201, 6, none⟩ (.bool ((rd_T34 l0_2 x3_2).f6))).heap[gb201]? = some (.cells #[.int .i64 ((rd_T34 l0_2 x3_2).f0), .string ((rd_T34 l0_2 x3_2).f1), .string ((rd_T34 l0_2 x3_2).f2), .string ((rd_T34 l0_2 x3_2).f3), .bool ((rd_T34 l0_2 x3_2).f4), .int .i64 ((rd_T34 l0_2 x3_2).f5), .bool ((rd_T34 l0_2 x3_2).f6)] 34 (0, 0))) := ⟨(pq7 Pk)⟩
                    have n2_ : Aside0 (Below w.heap.size w (((((((w16.setCell ⟨gb201, 0, none⟩ (.int .i64 ((rd_T34 l0_2 x3_2).f0))).setCell ⟨gb201, 1, none⟩ (.string ((rd_T34 l0_2 x3_2).f1))).setCell ⟨gb201, 2, none⟩ (.string ((rd_T34 l0_2 x3_2).f2))).setCell ⟨gb201, 3, none⟩ (.string ((rd_T34 l0_2 x3_2).f3))).setCell ⟨gb201, 4, none⟩ (.bool ((rd_T34 l0_2 x3_2).f4))).setCell ⟨gb201, 5, none⟩ (.int .i64 ((rd_T34 l0_2 x3_2).f5))).setCell ⟨gb201, 6, none⟩ (.bool ((rd_T34 l0_2 x3_2).f6)))) := ⟨By⟩
                    (try clear BK197)
                    (try clear BK201)
                    (try clear HB)
                    generalize (((((((w16.setCell ⟨gb201, 0, none⟩ (.int .i64 ((rd_T34 l0_2 x3_2).f0))).setCell ⟨gb201, 1, none⟩ (.string ((rd_T34 l0_2 x3_2).f1))).setCell ⟨gb201, 2, none⟩ (.string ((rd_T34 l0_2 x3_2).f2))).setCell ⟨gb201, 3, none⟩ (.string ((rd_T34 l0_2 x3_2).f3))).setCell ⟨gb201, 4, none⟩ (.bool ((rd_T34 l0_2 x3_2).f4))).setCell ⟨gb201, 5, none⟩ (.int .i64 ((rd_T34 l0_2 x3_2).f5))).setCell ⟨gb201, 6, none⟩ (.bool ((rd_T34 l0_2 x3_2).f6))) = w42 at n0_ n1_ n2_ ⊢
                    have BK197 := n0_
                    have BK201 := n1_
                    have HB := n2_
                    clear n0_ n1_ n2_
                    have n0_ := Aside0.mk (blk_drew BK197.out)
                    have n1_ := Aside0.mk (blk_drew BK201.out)
                    have n2_ := Aside0.mk (below_drew1 HB.out)
                    clear BK197
                    clear BK201
                    clear HB
                    have BK197 := n0_
                    have BK201 := n1_
                    have HB := n2_
                    clear n0_ n1_ n2_
                    refine start_ (n := 36) (S := fun w' => w'.cell? ⟨gb201, 0, none⟩ = some (.int .i64 ((rd_T34 l0_2 x3_2).f0)) ∧ w'.cell? ⟨gb201, 1, none⟩ = some (.string ((rd_T34 l0_2 x3_2).f1)) ∧ w'.cell? ⟨gb201, 2, none⟩ = some (.string ((rd_T34 l0_2 x3_2).f2)) ∧ w'.cell? ⟨gb201, 3, none⟩ = some (.string ((rd_T34 l0_2 x3_2).f3)) ∧ w'.cell? ⟨gb201, 4, none⟩ = some (.bool ((rd_T34 l0_2 x3_2).f4)) ∧ w'.cell? ⟨gb201, 5, none⟩ = some (.int .i64 ((rd_T34 l0_2 x3_2).f5)) ∧ w'.cell? ⟨gb201, 6, none⟩ = some (.bool ((rd_T34 l0_2 x3_2).f6))) (ds := []) (bv 36 0) (by kernel_rfl) rfl rfl ⟨bc BK201.out 0, bc BK201.out 1, bc BK201.out 2, bc BK201.out 3, bc BK201.out 4, bc BK201.out 5, bc BK201.out 6⟩ (fun hHeld => ?_); refine with_tabW spec_TableRight.tab7 spec_TableRight.bits7 (fun HT_ HW_ => ?_)
                    generalize w42.drew = w43 at BK197 BK201 HB hHeld ⊢
                    refine tk 0 34 (bv 36 1) HT_.out HW_.out hHeld (h := ?_)
                    refine one_ (i := 1) (N := some 35) (bv 36 3) rfl rfl (one_of HT_.out (by kernel_rfl)) (by decide) (fun K hK => ?_)
                    refine goes_ Tryd.func110 (by kernel_rfl) rfl #[.agg #[.int .i64 ((rd_T34 l0_2 x3_2).f0), .string ((rd_T34 l0_2 x3_2).f1), .string ((rd_T34 l0_2 x3_2).f2), .string ((rd_T34 l0_2 x3_2).f3), .bool ((rd_T34 l0_2 x3_2).f4), .int .i64 ((rd_T34 l0_2 x3_2).f5), .bool ((rd_T34 l0_2 x3_2).f6)]] (by rfl) rfl rfl Ag ?_
                    with_reducible refine (spec_l12Row.calls k2 ((rd_T34 l0_2 x3_2).f0) ((rd_T34 l0_2 x3_2).f1) ((rd_T34 l0_2 x3_2).f2) ((rd_T34 l0_2 x3_2).f3) ((rd_T34 l0_2 x3_2).f4) ((rd_T34 l0_2 x3_2).f5) ((rd_T34 l0_2 x3_2).f6) false _ A19.out).mono ?_
                    rintro e w44 ⟨rfl, hb⟩
                    refine ⟨_, rfl, ?_⟩
                    have n0_ := Aside0.mk (bb BK197.out hb)
                    have n1_ := Aside0.mk (bb BK201.out hb)
                    have n2_ := Aside0.mk (below_step By hb)
                    clear BK197
                    clear BK201
                    clear HB
                    have BK197 := n0_
                    have BK201 := n1_
                    have HB := n2_
                    clear n0_ n1_ n2_
                    (try clear hb)
                    (try clear hb2)
                    (try clear hk)
                    (try clear hi)
                    refine hK.out _ _ ⟨bc BK201.out 0, bc BK201.out 1, bc BK201.out 2, bc BK201.out 3, bc BK201.out 4, bc BK201.out 5, bc BK201.out 6⟩ (fun hHeld => ?_)
                    clear hK K
                    refine norm_ (a' := ?_) ?_ ?_
                    rotate_left
                    · show Act.put _ (some 35) _ = _
                      simp only [Act.put, List.setIfInBounds_toArray, List.set_cons_zero, List.set_cons_succ, i64_w, i32_w]
                      rfl
                    refine pu 2 36 (bv 36 7) HT_.out (h := ?_)
                    refine pu 3 37 (bv 36 15) HT_.out (h := ?_)
                    refine pn 4 38 (bv 36 31) HT_.out (h := ?_)
                    refine pn 5 39 (bv 36 63) HT_.out (h := ?_)
                    refine pn 6 40 (bv 36 127) HT_.out (h := ?_)
                    refine pn 7 41 (bv 36 255) HT_.out (h := ?_)
                    refine pn 8 42 (bv 36 511) HT_.out (h := ?_)
                    refine pn 9 43 (bv 36 1023) HT_.out (h := ?_)
                    refine pn 10 44 (bv 36 2047) HT_.out (h := ?_)
                    refine pu 11 45 (bv 36 4095) HT_.out (h := ?_)
                    refine pu 12 46 (bv 36 8191) HT_.out (h := ?_)
                    refine pn 13 47 (bv 36 16383) HT_.out (h := ?_)
                    refine pn 14 48 (bv 36 32767) HT_.out (h := ?_)
                    refine pn 15 49 (bv 36 65535) HT_.out (h := ?_)
                    refine pn 16 50 (bv 36 131071) HT_.out (h := ?_)
                    refine pn 17 51 (bv 36 262143) HT_.out (h := ?_)
                    refine pn 18 52 (bv 36 524287) HT_.out (h := ?_)
                    refine pn 19 53 (bv 36 1048575) HT_.out (h := ?_)
                    refine pn 20 54 (bv 36 2097151) HT_.out (h := ?_)
                    refine pn 21 55 (bv 36 4194303) HT_.out (h := ?_)
                    refine pn 22 56 (bv 36 8388607) HT_.out (h := ?_)
                    refine pn 23 57 (bv 36 16777215) HT_.out (h := ?_)
                    refine pn 24 58 (bv 36 33554431) HT_.out (h := ?_)
                    refine pn 25 59 (bv 36 67108863) HT_.out (h := ?_)
                    refine pn 26 60 (bv 36 134217727) HT_.out (h := ?_)
                    refine pu 27 61 (bv 36 268435455) HT_.out (h := ?_)
                    refine pu 28 62 (bv 36 536870911) HT_.out (h := ?_)
                    refine pn 29 63 (bv 36 1073741823) HT_.out (h := ?_)
                    refine pn 30 64 (bv 36 2147483647) HT_.out (h := ?_)
                    refine pn 31 65 (bv 36 4294967295) HT_.out (h := ?_)
                    refine pn 32 66 (bv 36 8589934591) HT_.out (h := ?_)
                    refine pn 33 67 (bv 36 17179869183) HT_.out (h := ?_)
                    refine pn 34 68 (bv 36 34359738367) HT_.out (h := ?_)
                    refine pu 35 69 (bv 36 68719476735) HT_.out (h := ?_)
                    refine done_ (done_of HT_.out (by kernel_rfl)) ?_
                    try go_wp2
                    go_meet
                    case rel => exact ⟨_, (true), (by first | rfl | (simp; done) | (simp [*]; done)), H', ⟨by have := HJ1.out; have := HK2.out; first | omega | exact Nat.le_refl _⟩, ⟨by (with_reducible repeat (first | refine blk_drewN ?_ _ | refine blk_drew ?_ | refine blk_alloc ?_ _)); exact BK197.out⟩, ⟨by (with_reducible repeat (first | refine blk_drewN ?_ _ | refine blk_drew ?_ | refine blk_alloc ?_ _)); exact BK201.out⟩, ⟨By⟩⟩
                case rest =>
                  clear HC14
                  try clear c1
                  try clear c2
                  try clear p2
                  try clear p6
                  try clear c7
                  try clear c11
                  try clear c20
                  try clear c22
                  obtain ⟨kq, x69_13, rfl, HA, HJ13, BK197, BK201, HB⟩ := hcut
                  cases kq with
                  | zero => exact absurd HA.out (by simp [spec_TableRight.j2])
                  | succ kj13 =>
                    have H := HA.out
                    clear HA
                    simp only [spec_TableRight.j2] at H
                    by_cases c45 : x69_13 = true
                    · subst c45
                      have H1 : (some false) = some r := by rw [if_pos rfl] at H; exact H
                      clear H
                      have H := H1
                      clear H1
                      obtain rfl := Option.some.inj H
                      go_wp2
                      go_ret
                      exact ⟨Rf, By⟩
                    · replace c45 := Bool.eq_false_iff.mpr c45
                      subst c45
                      have H1 : (spec_TableRight.l1 kj13 x3_2 0 a0_0 a0_1 l0_2 ((rd_T34 l0_2 x3_2).f0) ((rd_T34 l0_2 x3_2).f1) ((rd_T34 l0_2 x3_2).f2) ((rd_T34 l0_2 x3_2).f3) ((rd_T34 l0_2 x3_2).f4) ((rd_T34 l0_2 x3_2).f5) ((rd_T34 l0_2 x3_2).f6)) = some r := by rw [if_neg (show ¬ (false = true) by decide)] at H; exact H
                      clear H
                      have H := H1
                      clear H1
                      have H' := Aside0.mk H
                      clear H
                      go_wp2
                      go_loopg [5] kj13 (fun kq v5 w' => ∃ (x5_4 : Int), v5 = .int .i64 x5_4 ∧ Aside0 (spec_TableRight.l1 kq x3_2 x5_4 a0_0 a0_1 l0_2 ((rd_T34 l0_2 x3_2).f0) ((rd_T34 l0_2 x3_2).f1) ((rd_T34 l0_2 x3_2).f2) ((rd_T34 l0_2 x3_2).f3) ((rd_T34 l0_2 x3_2).f4) ((rd_T34 l0_2 x3_2).f5) ((rd_T34 l0_2 x3_2).f6) = some r) ∧ Aside0 (kq ≤ kj13) ∧ Aside0 (w'.heap[gb197]? = some (.cells #[.int .i64 a0_0, .int .i64 a0_1, (.slice (some ad200) l0_2.length c0_2)] 38 (0, 0))) ∧ Aside0 (w'.heap[gb201]? = some (.cells #[.int .i64 ((rd_T34 l0_2 x3_2).f0), .string ((rd_T34 l0_2 x3_2).f1), .string ((rd_T34 l0_2 x3_2).f2), .string ((rd_T34 l0_2 x3_2).f3), .bool ((rd_T34 l0_2 x3_2).f4), .int .i64 ((rd_T34 l0_2 x3_2).f5), .bool ((rd_T34 l0_2 x3_2).f6)] 34 (0, 0))) ∧ Aside0 (Below w.heap.size w w'))
                      case atStart => exact ⟨(0), (by first | rfl | (simp; done) | (simp [*]; done)), H', ⟨Nat.le_refl _⟩, ⟨by (with_reducible repeat (first | refine blk_drewN ?_ _ | refine blk_drew ?_ | refine blk_alloc ?_ _)); exact BK197.out⟩, ⟨by (with_reducible repeat (first | refine blk_drewN ?_ _ | refine blk_drew ?_ | refine blk_alloc ?_ _)); exact BK201.out⟩, ⟨By⟩⟩
                      case round =>
                        clear H'
                        try clear c1
                        try clear c2
                        try clear p2
                        try clear c4
                        try clear p6
                        try clear c7
                        try clear c11
                        try clear c20
                        try clear c22
                        try clear c45
                        try clear p2
                        try clear p6
                        obtain ⟨x5_4, rfl, HA, HK4, BK197, BK201, HB⟩ := hrel
                        cases gk with
                        | zero => exact absurd HA.out (by simp [spec_TableRight.l1])
                        | succ k4 =>
                          have H := HA.out
                          clear HA
                          simp only [spec_TableRight.l1] at H
                          by_cases c46 : x5_4 < x3_2
                          · rw [if_pos c46] at H
                            have c46b0 : decide (x5_4 < x3_2) = true := decide_eq_true c46
                            clear c46
                            by_cases c47 : 0 ≤ x5_4
                            · rw [if_pos c47] at H
                              have c47b0 : decide (0 ≤ x5_4) = true := decide_eq_true c47
                              clear c47
                              by_cases c48 : x5_4 < (l0_2.length : Int)
                              · rw [if_pos c48] at H
                                have c48b0 : decide (x5_4 < (l0_2.length : Int)) = true := decide_eq_true c48
                                clear c48
                                by_cases c49 : ((rd_T34 l0_2 x5_4).f5) = ((rd_T34 l0_2 x3_2).f5)
                                · rw [if_pos c49] at H
                                  have c49b0 : (((rd_T34 l0_2 x5_4).f5) == ((rd_T34 l0_2 x3_2).f5)) = true := beq_iff_eq.mpr c49
                                  have c49b1 : (((rd_T34 l0_2 x5_4).f5) != ((rd_T34 l0_2 x3_2).f5)) = false := bne_eq_false_iff_eq.mpr c49
                                  clear c49
                                  obtain rfl := Option.some.inj H
                                  try go_wp2
                                  have n0_ := Aside0.mk (blk_drew BK197.out)
                                  have n1_ := Aside0.mk (blk_drew BK201.out)
                                  have n2_ := Aside0.mk (below_drew1 HB.out)
                                  clear BK197
                                  clear BK201
                                  clear HB
                                  have BK197 := n0_
                                  have BK201 := n1_
                                  have HB := n2_
                                  clear n0_ n1_ n2_
                                  have p207 : 0 ≤ (x5_4 : Int) := of_decide_eq_true Da
                                  have q207 : x5_4 < (l0_2.length : Int) := of_decide_eq_true Da
                                  obtain ⟨ad207, e207, hx207_0, hx207_1, hx207_2, hx207_3, hx207_4, hx207_5, hx207_6⟩ := at_T34 HR0_2.out x5_4 p207 q207
                                  have hw207_6 := hx207_6
                                  have hw207_5 := hx207_5
                                  have hw207_4 := hx207_4
                                  have hw207_3 := hx207_3
                                  have hw207_2 := hx207_2
                                  have hw207_1 := hx207_1
                                  have hw207_0 := hx207_0
                                  obtain rfl : ad200 = ad207 := (by injection e207)
                                  replace hx207_0 := bz HB.out hx207_0
                                  replace hx207_1 := bz HB.out hx207_1
                                  replace hx207_2 := bz HB.out hx207_2
                                  replace hx207_3 := bz HB.out hx207_3
                                  replace hx207_4 := bz HB.out hx207_4
                                  replace hx207_5 := bz HB.out hx207_5
                                  replace hx207_6 := bz HB.out hx207_6
                                  replace p207 := eq_true p207
                                  replace q207 := eq_true q207
                                  refine start_ (n := 34) (S := fun w' => w'.cell? ⟨gb197, 0, none⟩ = some (.int .i64 a0_0) ∧ w'.cell? ⟨gb197, 1, none⟩ = some (.int .i64 a0_1) ∧ w'.cell? ⟨gb197, 2, none⟩ = some (.slice (some ad200) l0_2.length c0_2) ∧ w'.cell? ⟨gb201, 0, none⟩ = some (.int .i64 ((rd_T34 l0_2 x3_2).f0)) ∧ w'.cell? ⟨gb201, 1, none⟩ = some (.string ((rd_T34 l0_2 x3_2).f1)) ∧ w'.cell? ⟨gb201, 2, none⟩ = some (.string ((rd_T34 l0_2 x3_2).f2)) ∧ w'.cell? ⟨gb201, 3, none⟩ = some (.string ((rd_T34 l0_2 x3_2).f3)) ∧ w'.cell? ⟨gb201, 4, none⟩ = some (.bool ((rd_T34 l0_2 x3_2).f4)) ∧ w'.cell? ⟨gb201, 5, none⟩ = some (.int .i64 ((rd_T34 l0_2 x3_2).f5)) ∧ w'.cell? ⟨gb201, 6, none⟩ = some (.bool ((rd_T34 l0_2 x3_2).f6)) ∧ w'.cell? (ad200.add ((x5_4).toNat * 7)) = some (.int .i64 ((rd_T34 l0_2 x5_4).f0)) ∧ w'.cell? ⟨(ad200.add ((x5_4).toNat * 7)).block, (ad200.add ((x5_4).toNat * 7)).off + 1, none⟩ = some (.string ((rd_T34 l0_2 x5_4).f1)) ∧ w'.cell? ⟨(ad200.add ((x5_4).toNat * 7)).block, (ad200.add ((x5_4).toNat * 7)).off + 2, none⟩ = some (.string ((rd_T34 l0_2 x5_4).f2)) ∧ w'.cell? ⟨(ad200.add ((x5_4).toNat * 7)).block, (ad200.add ((x5_4).toNat * 7)).off + 3, none⟩ = some (.string ((rd_T34 l0_2 x5_4).f3)) ∧ w'.cell? ⟨(ad200.add ((x5_4).toNat * 7)).block, (ad200.add ((x5_4).toNat * 7)).off + 4, none⟩ = some (.bool ((rd_T34 l0_2 x5_4).f4)) ∧ w'.cell? ⟨(ad200.add ((x5_4).toNat * 7)).block, (ad200.add ((x5_4).toNat * 7)).off + 5, none⟩ = some (.int .i64 ((rd_T34 l0_2 x5_4).f5)) ∧ w'.cell? ⟨(ad200.add ((x5_4).toNat * 7)).block, (ad200.add ((x5_4).toNat * 7)).off + 6, none⟩ = some (.bool ((rd_T34 l0_2 x5_4).f6))) (ds := []) (bv 34 0) (by kernel_rfl) rfl rfl ⟨bc BK197.out 0, bc BK197.out 1, bc BK197.out 2, bc BK201.out 0, bc BK201.out 1, bc BK201.out 2, bc BK201.out 3, bc BK201.out 4, bc BK201.out 5, bc BK201.out 6, (bz HB.out hw207_0), (bz HB.out hw207_1), (bz HB.out hw207_2), (bz HB.out hw207_3), (bz HB.out hw207_4), (bz HB.out hw207_5), (bz HB.out hw207_6)⟩ (fun hHeld => ?_); refine with_tabW spec_TableRight.tab12 spec_TableRight.bits12 (fun HT_ HW_ => ?_)
                                  generalize wr.drew = w50 at BK197 BK201 HB hx207_0 hx207_1 hx207_2 hx207_3 hx207_4 hx207_5 hx207_6 hHeld ⊢
                                  refine pu 0 75 (bv 34 1) HT_.out (h := ?_)
                                  refine pu 2 77 (bv 34 5) HT_.out (h := ?_)
                                  refine pu 6 81 (bv 34 69) HT_.out (h := ?_)
                                  refine tk 1 76 (bv 34 71) HT_.out HW_.out hHeld (h := ?_)
                                  refine pu 3 78 (bv 34 79) HT_.out (h := ?_)
                                  refine pu 4 79 (bv 34 95) HT_.out (h := ?_)
                                  refine tk 5 80 (bv 34 127) HT_.out HW_.out hHeld (h := ?_)
                                  refine tk 7 82 (bv 34 255) HT_.out HW_.out hHeld (h := ?_)
                                  refine pu 8 83 (bv 34 511) HT_.out (h := ?_)
                                  refine pu 9 84 (bv 34 1023) HT_.out (h := ?_)
                                  refine pn 10 85 (bv 34 2047) HT_.out (h := ?_)
                                  refine pn 11 86 (bv 34 4095) HT_.out (h := ?_)
                                  refine pn 12 87 (bv 34 8191) HT_.out (h := ?_)
                                  refine pn 13 88 (bv 34 16383) HT_.out (h := ?_)
                                  refine pn 14 89 (bv 34 32767) HT_.out (h := ?_)
                                  refine pn 15 90 (bv 34 65535) HT_.out (h := ?_)
                                  refine pn 16 91 (bv 34 131071) HT_.out (h := ?_)
                                  refine pn 17 92 (bv 34 262143) HT_.out (h := ?_)
                                  refine pn 18 93 (bv 34 524287) HT_.out (h := ?_)
                                  refine pn 19 94 (bv 34 1048575) HT_.out (h := ?_)
                                  refine pn 20 95 (bv 34 2097151) HT_.out (h := ?_)
                                  refine pn 21 96 (bv 34 4194303) HT_.out (h := ?_)
                                  refine pn 22 97 (bv 34 8388607) HT_.out (h := ?_)
                                  refine pn 23 98 (bv 34 16777215) HT_.out (h := ?_)
                                  refine pn 24 99 (bv 34 33554431) HT_.out (h := ?_)
                                  refine pn 25 100 (bv 34 67108863) HT_.out (h := ?_)
                                  refine pn 26 101 (bv 34 134217727) HT_.out (h := ?_)
                                  refine pn 27 102 (bv 34 268435455) HT_.out (h := ?_)
                                  refine pn 28 103 (bv 34 536870911) HT_.out (h := ?_)
                                  refine pn 29 104 (bv 34 1073741823) HT_.out (h := ?_)
                                  refine pn 30 105 (bv 34 2147483647) HT_.out (h := ?_)
                                  refine pn 31 106 (bv 34 4294967295) HT_.out (h := ?_)
                                  refine pn 32 107 (bv 34 8589934591) HT_.out (h := ?_)
                                  refine pu 33 108 (bv 34 17179869183) HT_.out (h := ?_)
                                  refine done_ (done_of HT_.out (by kernel_rfl)) ?_
                                  try go_wp2
                                  go_ret
                                  exact ⟨Rf, By⟩
                                · rw [if_neg c49] at H
                                  have c49b0 : (((rd_T34 l0_2 x5_4).f5) == ((rd_T34 l0_2 x3_2).f5)) = false := beq_eq_false_iff_ne.mpr c49
                                  have c49b1 : (((rd_T34 l0_2 x5_4).f5) != ((rd_T34 l0_2 x3_2).f5)) = true := bne_iff_ne.mpr c49
                                  obtain ⟨bq51, hbq51⟩ : ∃ b_ : Bool, b_ = ((rd_T34 l0_2 x5_4).f6) := ⟨_, rfl⟩
                                  replace H : (if (bq51 = true) then (spec_TableRight.l1 k4 x3_2 (wrap64 (x5_4 + 1)) a0_0 a0_1 l0_2 ((rd_T34 l0_2 x3_2).f0) ((rd_T34 l0_2 x3_2).f1) ((rd_T34 l0_2 x3_2).f2) ((rd_T34 l0_2 x3_2).f3) ((rd_T34 l0_2 x3_2).f4) ((rd_T34 l0_2 x3_2).f5) ((rd_T34 l0_2 x3_2).f6)) else (if ((rd_T34 l0_2 x3_2).f6) = true then (spec_TableRight.l1 k4 x3_2 (wrap64 (x5_4 + 1)) a0_0 a0_1 l0_2 ((rd_T34 l0_2 x3_2).f0) ((rd_T34 l0_2 x3_2).f1) ((rd_T34 l0_2 x3_2).f2) ((rd_T34 l0_2 x3_2).f3) ((rd_T34 l0_2 x3_2).f4) ((rd_T34 l0_2 x3_2).f5) ((rd_T34 l0_2 x3_2).f6)) else (if ((rd_T34 l0_2 x5_4).f1).toList = ((rd_T34 l0_2 x3_2).f1).toList then (some false) else (spec_TableRight.l1 k4 x3_2 (wrap64 (x5_4 + 1)) a0_0 a0_1 l0_2 ((rd_T34 l0_2 x3_2).f0) ((rd_T34 l0_2 x3_2).f1) ((rd_T34 l0_2 x3_2).f2) ((rd_T34 l0_2 x3_2).f3) ((rd_T34 l0_2 x3_2).f4) ((rd_T34 l0_2 x3_2).f5) ((rd_T34 l0_2 x3_2).f6))))) = some r := by rw [← hbq51] at H; exact H
                                  have Nbq51 := Aside0.mk hbq51
                                  clear hbq51
                                  by_cases c52 : (bq51 = true)
                                  · subst c52
                                    have H1 : (spec_TableRight.l1 k4 x3_2 (wrap64 (x5_4 + 1)) a0_0 a0_1 l0_2 ((rd_T34 l0_2 x3_2).f0) ((rd_T34 l0_2 x3_2).f1) ((rd_T34 l0_2 x3_2).f2) ((rd_T34 l0_2 x3_2).f3) ((rd_T34 l0_2 x3_2).f4) ((rd_T34 l0_2 x3_2).f5) ((rd_T34 l0_2 x3_2).f6)) = some r := by rw [if_pos rfl] at H; exact H
                                    clear H
                                    have H := H1
                                    clear H1
                                    have H' := Aside0.mk H
                                    clear H
                                    try go_wp2
                                    have n0_ := Aside0.mk (blk_drew BK197.out)
                                    have n1_ := Aside0.mk (blk_drew BK201.out)
                                    have n2_ := Aside0.mk (below_drew1 HB.out)
                                    clear BK197
                                    clear BK201
                                    clear HB
                                    have BK197 := n0_
                                    have BK201 := n1_
                                    have HB := n2_
                                    clear n0_ n1_ n2_
                                    have p207 : 0 ≤ (x5_4 : Int) := of_decide_eq_true Da
                                    have q207 : x5_4 < (l0_2.length : Int) := of_decide_eq_true Da
                                    obtain ⟨ad207, e207, hx207_0, hx207_1, hx207_2, hx207_3, hx207_4, hx207_5, hx207_6⟩ := at_T34 HR0_2.out x5_4 p207 q207
                                    have hw207_6 := hx207_6
                                    have hw207_5 := hx207_5
                                    have hw207_4 := hx207_4
                                    have hw207_3 := hx207_3
                                    have hw207_2 := hx207_2
                                    have hw207_1 := hx207_1
                                    have hw207_0 := hx207_0
                                    (try rw [← Nbq51.out] at hx207_4); (try rw [← Nbq51.out] at hw207_4)
                                    (try rw [← Nbq51.out] at hx207_6); (try rw [← Nbq51.out] at hw207_6)
                                    obtain rfl : ad200 = ad207 := (by injection e207)
                                    replace hx207_0 := bz HB.out hx207_0
                                    replace hx207_1 := bz HB.out hx207_1
                                    replace hx207_2 := bz HB.out hx207_2
                                    replace hx207_3 := bz HB.out hx207_3
                                    replace hx207_4 := bz HB.out hx207_4
                                    replace hx207_5 := bz HB.out hx207_5
                                    replace hx207_6 := bz HB.out hx207_6
                                    replace p207 := eq_true p207
                                    replace q207 := eq_true q207
                                    have p208 : 0 ≤ (x5_4 : Int) := of_decide_eq_true Da
                                    have q208 : x5_4 < (l0_2.length : Int) := of_decide_eq_true Da
                                    obtain ⟨ad208, e208, hx208_0, hx208_1, hx208_2, hx208_3, hx208_4, hx208_5, hx208_6⟩ := at_T34 HR0_2.out x5_4 p208 q208
                                    have hw208_6 := hx208_6
                                    have hw208_5 := hx208_5
                                    have hw208_4 := hx208_4
                                    have hw208_3 := hx208_3
                                    have hw208_2 := hx208_2
                                    have hw208_1 := hx208_1
                                    have hw208_0 := hx208_0
                                    (try rw [← Nbq51.out] at hx208_4); (try rw [← Nbq51.out] at hw208_4)
                                    (try rw [← Nbq51.out] at hx208_6); (try rw [← Nbq51.out] at hw208_6)
                                    obtain rfl : ad200 = ad208 := (by injection e208)
                                    replace hx208_0 := bz HB.out hx208_0
                                    replace hx208_1 := bz HB.out hx208_1
                                    replace hx208_2 := bz HB.out hx208_2
                                    replace hx208_3 := bz HB.out hx208_3
                                    replace hx208_4 := bz HB.out hx208_4
                                    replace hx208_5 := bz HB.out hx208_5
                                    replace hx208_6 := bz HB.out hx208_6
                                    replace p208 := eq_true p208
                                    replace q208 := eq_true q208
                                    refine start_ (n := 34) (S := fun w' => w'.cell? ⟨gb197, 0, none⟩ = some (.int .i64 a0_0) ∧ w'.cell? ⟨gb197, 1, none⟩ = some (.int .i64 a0_1) ∧ w'.cell? ⟨gb197, 2, none⟩ = some (.slice (some ad200) l0_2.length c0_2) ∧ w'.cell? ⟨gb201, 0, none⟩ = some (.int .i64 ((rd_T34 l0_2 x3_2).f0)) ∧ w'.cell? ⟨gb201, 1, none⟩ = some (.string ((rd_T34 l0_2 x3_2).f1)) ∧ w'.cell? ⟨gb201, 2, none⟩ = some (.string ((rd_T34 l0_2 x3_2).f2)) ∧ w'.cell? ⟨gb201, 3, none⟩ = some (.string ((rd_T34 l0_2 x3_2).f3)) ∧ w'.cell? ⟨gb201, 4, none⟩ = some (.bool ((rd_T34 l0_2 x3_2).f4)) ∧ w'.cell? ⟨gb201, 5, none⟩ = some (.int .i64 ((rd_T34 l0_2 x3_2).f5)) ∧ w'.cell? ⟨gb201, 6, none⟩ = some (.bool ((rd_T34 l0_2 x3_2).f6)) ∧ w'.cell? (ad200.add ((x5_4).toNat * 7)) = some (.int .i64 ((rd_T34 l0_2 x5_4).f0)) ∧ w'.cell? ⟨(ad200.add ((x5_4).toNat * 7)).block, (ad200.add ((x5_4).toNat * 7)).off + 1, none⟩ = some (.string ((rd_T34 l0_2 x5_4).f1)) ∧ w'.cell? ⟨(ad200.add ((x5_4).toNat * 7)).block, (ad200.add ((x5_4).toNat * 7)).off + 2, none⟩ = some (.string ((rd_T34 l0_2 x5_4).f2)) ∧ w'.cell? ⟨(ad200.add ((x5_4).toNat * 7)).block, (ad200.add ((x5_4).toNat * 7)).off + 3, none⟩ = some (.string ((rd_T34 l0_2 x5_4).f3)) ∧ w'.cell? ⟨(ad200.add ((x5_4).toNat * 7)).block, (ad200.add ((x5_4).toNat * 7)).off + 4, none⟩ = some (.bool ((rd_T34 l0_2 x5_4).f4)) ∧ w'.cell? ⟨(ad200.add ((x5_4).toNat * 7)).block, (ad200.add ((x5_4).toNat * 7)).off + 5, none⟩ = some (.int .i64 ((rd_T34 l0_2 x5_4).f5)) ∧ w'.cell? ⟨(ad200.add ((x5_4).toNat * 7)).block, (ad200.add ((x5_4).toNat * 7)).off + 6, none⟩ = some (.bool true) ∧ w'.cell? (ad200.add ((x5_4).toNat * 7)) = some (.int .i64 ((rd_T34 l0_2 x5_4).f0)) ∧ w'.cell? ⟨(ad200.add ((x5_4).toNat * 7)).block, (ad200.add ((x5_4).toNat * 7)).off + 1, none⟩ = some (.string ((rd_T34 l0_2 x5_4).f1)) ∧ w'.cell? ⟨(ad200.add ((x5_4).toNat * 7)).block, (ad200.add ((x5_4).toNat * 7)).off + 2, none⟩ = some (.string ((rd_T34 l0_2 x5_4).f2)) ∧ w'.cell? ⟨(ad200.add ((x5_4).toNat * 7)).block, (ad200.add ((x5_4).toNat * 7)).off + 3, none⟩ = some (.string ((rd_T34 l0_2 x5_4).f3)) ∧ w'.cell? ⟨(ad200.add ((x5_4).toNat * 7)).block, (ad200.add ((x5_4).toNat * 7)).off + 4, none⟩ = some (.bool ((rd_T34 l0_2 x5_4).f4)) ∧ w'.cell? ⟨(ad200.add ((x5_4).toNat * 7)).block, (ad200.add ((x5_4).toNat * 7)).off + 5, none⟩ = some (.int .i64 ((rd_T34 l0_2 x5_4).f5)) ∧ w'.cell? ⟨(ad200.add ((x5_4).toNat * 7)).block, (ad200.add ((x5_4).toNat * 7)).off + 6, none⟩ = some (.bool true)) (ds := []) (bv 34 0) (by kernel_rfl) rfl rfl ⟨bc BK197.out 0, bc BK197.out 1, bc BK197.out 2, bc BK201.out 0, bc BK201.out 1, bc BK201.out 2, bc BK201.out 3, bc BK201.out 4, bc BK201.out 5, bc BK201.out 6, (bz HB.out hw207_0), (bz HB.out hw207_1), (bz HB.out hw207_2), (bz HB.out hw207_3), (bz HB.out hw207_4), (bz HB.out hw207_5), (bz HB.out hw207_6), (bz HB.out hw208_0), (bz HB.out hw208_1), (bz HB.out hw208_2), (bz HB.out hw208_3), (bz HB.out hw208_4), (bz HB.out hw208_5), (bz HB.out hw208_6)⟩ (fun hHeld => ?_); refine with_tabW spec_TableRight.tab12 spec_TableRight.bits12 (fun HT_ HW_ => ?_)
                                    generalize wr.drew = w53 at BK197 BK201 HB hx207_0 hx207_1 hx207_2 hx207_3 hx207_4 hx207_5 hx207_6 hx208_0 hx208_1 hx208_2 hx208_3 hx208_4 hx208_5 hx208_6 hHeld ⊢
                                    refine pu 0 75 (bv 34 1) HT_.out (h := ?_)
                                    refine pu 2 77 (bv 34 5) HT_.out (h := ?_)
                                    refine pu 6 81 (bv 34 69) HT_.out (h := ?_)
                                    refine tk 1 76 (bv 34 71) HT_.out HW_.out hHeld (h := ?_)
                                    refine pu 3 78 (bv 34 79) HT_.out (h := ?_)
                                    refine pu 4 79 (bv 34 95) HT_.out (h := ?_)
                                    refine tk 5 80 (bv 34 127) HT_.out HW_.out hHeld (h := ?_)
                                    refine tk 7 82 (bv 34 255) HT_.out HW_.out hHeld (h := ?_)
                                    refine pu 8 83 (bv 34 511) HT_.out (h := ?_)
                                    refine pu 9 84 (bv 34 1023) HT_.out (h := ?_)
                                    refine pu 10 85 (bv 34 2047) HT_.out (h := ?_)
                                    refine pu 12 87 (bv 34 6143) HT_.out (h := ?_)
                                    refine tk 11 86 (bv 34 8191) HT_.out HW_.out hHeld (h := ?_)
                                    refine pu 13 88 (bv 34 16383) HT_.out (h := ?_)
                                    refine pu 14 89 (bv 34 32767) HT_.out (h := ?_)
                                    refine tk 15 90 (bv 34 65535) HT_.out HW_.out hHeld (h := ?_)
                                    refine pu 16 91 (bv 34 131071) HT_.out (h := ?_)
                                    refine pu 17 92 (bv 34 262143) HT_.out (h := ?_)
                                    refine pn 18 93 (bv 34 524287) HT_.out (h := ?_)
                                    refine pn 19 94 (bv 34 1048575) HT_.out (h := ?_)
                                    refine pn 20 95 (bv 34 2097151) HT_.out (h := ?_)
                                    refine pu 21 96 (bv 34 4194303) HT_.out (h := ?_)
                                    refine pu 22 97 (bv 34 8388607) HT_.out (h := ?_)
                                    refine pn 23 98 (bv 34 16777215) HT_.out (h := ?_)
                                    refine pn 24 99 (bv 34 33554431) HT_.out (h := ?_)
                                    refine pn 25 100 (bv 34 67108863) HT_.out (h := ?_)
                                    refine pn 26 101 (bv 34 134217727) HT_.out (h := ?_)
                                    refine pn 27 102 (bv 34 268435455) HT_.out (h := ?_)
                                    refine pn 28 103 (bv 34 536870911) HT_.out (h := ?_)
                                    refine pn 29 104 (bv 34 1073741823) HT_.out (h := ?_)
                                    refine pn 30 105 (bv 34 2147483647) HT_.out (h := ?_)
                                    refine pn 31 106 (bv 34 4294967295) HT_.out (h := ?_)
                                    refine pu 32 107 (bv 34 8589934591) HT_.out (h := ?_)
                                    refine pu 33 108 (bv 34 17179869183) HT_.out (h := ?_)
                                    refine done_ (done_of HT_.out (by kernel_rfl)) ?_
                                    try go_wp2
                                    go_roundg k4
                                    case measure => have := HJ1.out; have := HK2.out; have := HJ13.out; have := HK4.out; omega
                                    case rel => exact ⟨(wrap64 (x5_4 + 1)), (by first | rfl | (simp; done) | (simp [*]; done)), H', ⟨by have := HJ1.out; have := HK2.out; have := HJ13.out; have := HK4.out; omega⟩, ⟨by (with_reducible repeat (first | refine blk_drewN ?_ _ | refine blk_drew ?_ | refine blk_alloc ?_ _)); exact BK197.out⟩, ⟨by (with_reducible repeat (first | refine blk_drewN ?_ _ | refine blk_drew ?_ | refine blk_alloc ?_ _)); exact BK201.out⟩, ⟨By⟩⟩
                                  · replace c52 := Bool.eq_false_iff.mpr c52
                                    subst c52
                                    have H1 : (if ((rd_T34 l0_2 x3_2).f6) = true then (spec_TableRight.l1 k4 x3_2 (wrap64 (x5_4 + 1)) a0_0 a0_1 l0_2 ((rd_T34 l0_2 x3_2).f0) ((rd_T34 l0_2 x3_2).f1) ((rd_T34 l0_2 x3_2).f2) ((rd_T34 l0_2 x3_2).f3) ((rd_T34 l0_2 x3_2).f4) ((rd_T34 l0_2 x3_2).f5) ((rd_T34 l0_2 x3_2).f6)) else (if ((rd_T34 l0_2 x5_4).f1).toList = ((rd_T34 l0_2 x3_2).f1).toList then (some false) else (spec_TableRight.l1 k4 x3_2 (wrap64 (x5_4 + 1)) a0_0 a0_1 l0_2 ((rd_T34 l0_2 x3_2).f0) ((rd_T34 l0_2 x3_2).f1) ((rd_T34 l0_2 x3_2).f2) ((rd_T34 l0_2 x3_2).f3) ((rd_T34 l0_2 x3_2).f4) ((rd_T34 l0_2 x3_2).f5) ((rd_T34 l0_2 x3_2).f6)))) = some r := by rw [if_neg (show ¬ (false = true) by decide)] at H; exact H
                                    clear H
                                    have H := H1
                                    clear H1
                                    by_cases c54 : ((rd_T34 l0_2 x3_2).f6) = true
                                    · rw [if_pos c54] at H
                                      have c54b0 : ((rd_T34 l0_2 x3_2).f6) = true := c54
                                      clear c54
                                      have H' := Aside0.mk H
                                      clear H
                                      try go_wp2
                                      have n0_ := Aside0.mk (blk_drew BK197.out)
                                      have n1_ := Aside0.mk (blk_drew BK201.out)
                                      have n2_ := Aside0.mk (below_drew1 HB.out)
                                      clear BK197
                                      clear BK201
                                      clear HB
                                      have BK197 := n0_
                                      have BK201 := n1_
                                      have HB := n2_
                                      clear n0_ n1_ n2_
                                      have p207 : 0 ≤ (x5_4 : Int) := of_decide_eq_true Da
                                      have q207 : x5_4 < (l0_2.length : Int) := of_decide_eq_true Da
                                      obtain ⟨ad207, e207, hx207_0, hx207_1, hx207_2, hx207_3, hx207_4, hx207_5, hx207_6⟩ := at_T34 HR0_2.out x5_4 p207 q207
                                      have hw207_6 := hx207_6
                                      have hw207_5 := hx207_5
                                      have hw207_4 := hx207_4
                                      have hw207_3 := hx207_3
                                      have hw207_2 := hx207_2
                                      have hw207_1 := hx207_1
                                      have hw207_0 := hx207_0
                                      (try rw [← Nbq51.out] at hx207_4); (try rw [← Nbq51.out] at hw207_4)
                                      (try rw [← Nbq51.out] at hx207_6); (try rw [← Nbq51.out] at hw207_6)
                                      obtain rfl : ad200 = ad207 := (by injection e207)
                                      replace hx207_0 := bz HB.out hx207_0
                                      replace hx207_1 := bz HB.out hx207_1
                                      replace hx207_2 := bz HB.out hx207_2
                                      replace hx207_3 := bz HB.out hx207_3
                                      replace hx207_4 := bz HB.out hx207_4
                                      replace hx207_5 := bz HB.out hx207_5
                                      replace hx207_6 := bz HB.out hx207_6
                                      replace p207 := eq_true p207
                                      replace q207 := eq_true q207
                                      have p208 : 0 ≤ (x5_4 : Int) := of_decide_eq_true Da
                                      have q208 : x5_4 < (l0_2.length : Int) := of_decide_eq_true Da
                                      obtain ⟨ad208, e208, hx208_0, hx208_1, hx208_2, hx208_3, hx208_4, hx208_5, hx208_6⟩ := at_T34 HR0_2.out x5_4 p208 q208
                                      have hw208_6 := hx208_6
                                      have hw208_5 := hx208_5
                                      have hw208_4 := hx208_4
                                      have hw208_3 := hx208_3
                                      have hw208_2 := hx208_2
                                      have hw208_1 := hx208_1
                                      have hw208_0 := hx208_0
                                      (try rw [← Nbq51.out] at hx208_4); (try rw [← Nbq51.out] at hw208_4)
                                      (try rw [← Nbq51.out] at hx208_6); (try rw [← Nbq51.out] at hw208_6)
                                      obtain rfl : ad200 = ad208 := (by injection e208)
                                      replace hx208_0 := bz HB.out hx208_0
                                      replace hx208_1 := bz HB.out hx208_1
                                      replace hx208_2 := bz HB.out hx208_2
                                      replace hx208_3 := bz HB.out hx208_3
                                      replace hx208_4 := bz HB.out hx208_4
                                      replace hx208_5 := bz HB.out hx208_5
                                      replace hx208_6 := bz HB.out hx208_6
                                      replace p208 := eq_true p208
                                      replace q208 := eq_true q208
                                      refine start_ (n := 34) (S := fun w' => w'.cell? ⟨gb197, 0, none⟩ = some (.int .i64 a0_0) ∧ w'.cell? ⟨gb197, 1, none⟩ = some (.int .i64 a0_1) ∧ w'.cell? ⟨gb197, 2, none⟩ = some (.slice (some ad200) l0_2.length c0_2) ∧ w'.cell? ⟨gb201, 0, none⟩ = some (.int .i64 ((rd_T34 l0_2 x3_2).f0)) ∧ w'.cell? ⟨gb201, 1, none⟩ = some (.string ((rd_T34 l0_2 x3_2).f1)) ∧ w'.cell? ⟨gb201, 2, none⟩ = some (.string ((rd_T34 l0_2 x3_2).f2)) ∧ w'.cell? ⟨gb201, 3, none⟩ = some (.string ((rd_T34 l0_2 x3_2).f3)) ∧ w'.cell? ⟨gb201, 4, none⟩ = some (.bool ((rd_T34 l0_2 x3_2).f4)) ∧ w'.cell? ⟨gb201, 5, none⟩ = some (.int .i64 ((rd_T34 l0_2 x3_2).f5)) ∧ w'.cell? ⟨gb201, 6, none⟩ = some (.bool ((rd_T34 l0_2 x3_2).f6)) ∧ w'.cell? (ad200.add ((x5_4).toNat * 7)) = some (.int .i64 ((rd_T34 l0_2 x5_4).f0)) ∧ w'.cell? ⟨(ad200.add ((x5_4).toNat * 7)).block, (ad200.add ((x5_4).toNat * 7)).off + 1, none⟩ = some (.string ((rd_T34 l0_2 x5_4).f1)) ∧ w'.cell? ⟨(ad200.add ((x5_4).toNat * 7)).block, (ad200.add ((x5_4).toNat * 7)).off + 2, none⟩ = some (.string ((rd_T34 l0_2 x5_4).f2)) ∧ w'.cell? ⟨(ad200.add ((x5_4).toNat * 7)).block, (ad200.add ((x5_4).toNat * 7)).off + 3, none⟩ = some (.string ((rd_T34 l0_2 x5_4).f3)) ∧ w'.cell? ⟨(ad200.add ((x5_4).toNat * 7)).block, (ad200.add ((x5_4).toNat * 7)).off + 4, none⟩ = some (.bool ((rd_T34 l0_2 x5_4).f4)) ∧ w'.cell? ⟨(ad200.add ((x5_4).toNat * 7)).block, (ad200.add ((x5_4).toNat * 7)).off + 5, none⟩ = some (.int .i64 ((rd_T34 l0_2 x5_4).f5)) ∧ w'.cell? ⟨(ad200.add ((x5_4).toNat * 7)).block, (ad200.add ((x5_4).toNat * 7)).off + 6, none⟩ = some (.bool false) ∧ w'.cell? (ad200.add ((x5_4).toNat * 7)) = some (.int .i64 ((rd_T34 l0_2 x5_4).f0)) ∧ w'.cell? ⟨(ad200.add ((x5_4).toNat * 7)).block, (ad200.add ((x5_4).toNat * 7)).off + 1, none⟩ = some (.string ((rd_T34 l0_2 x5_4).f1)) ∧ w'.cell? ⟨(ad200.add ((x5_4).toNat * 7)).block, (ad200.add ((x5_4).toNat * 7)).off + 2, none⟩ = some (.string ((rd_T34 l0_2 x5_4).f2)) ∧ w'.cell? ⟨(ad200.add ((x5_4).toNat * 7)).block, (ad200.add ((x5_4).toNat * 7)).off + 3, none⟩ = some (.string ((rd_T34 l0_2 x5_4).f3)) ∧ w'.cell? ⟨(ad200.add ((x5_4).toNat * 7)).block, (ad200.add ((x5_4).toNat * 7)).off + 4, none⟩ = some (.bool ((rd_T34 l0_2 x5_4).f4)) ∧ w'.cell? ⟨(ad200.add ((x5_4).toNat * 7)).block, (ad200.add ((x5_4).toNat * 7)).off + 5, none⟩ = some (.int .i64 ((rd_T34 l0_2 x5_4).f5)) ∧ w'.cell? ⟨(ad200.add ((x5_4).toNat * 7)).block, (ad200.add ((x5_4).toNat * 7)).off + 6, none⟩ = some (.bool false)) (ds := []) (bv 34 0) (by kernel_rfl) rfl rfl ⟨bc BK197.out 0, bc BK197.out 1, bc BK197.out 2, bc BK201.out 0, bc BK201.out 1, bc BK201.out 2, bc BK201.out 3, bc BK201.out 4, bc BK201.out 5, bc BK201.out 6, (bz HB.out hw207_0), (bz HB.out hw207_1), (bz HB.out hw207_2), (bz HB.out hw207_3), (bz HB.out hw207_4), (bz HB.out hw207_5), (bz HB.out hw207_6), (bz HB.out hw208_0), (bz HB.out hw208_1), (bz HB.out hw208_2), (bz HB.out hw208_3), (bz HB.out hw208_4), (bz HB.out hw208_5), (bz HB.out hw208_6)⟩ (fun hHeld => ?_); refine with_tabW spec_TableRight.tab12 spec_TableRight.bits12 (fun HT_ HW_ => ?_)
                                      generalize wr.drew = w55 at BK197 BK201 HB hx207_0 hx207_1 hx207_2 hx207_3 hx207_4 hx207_5 hx207_6 hx208_0 hx208_1 hx208_2 hx208_3 hx208_4 hx208_5 hx208_6 hHeld ⊢
                                      refine pu 0 75 (bv 34 1) HT_.out (h := ?_)
                                      refine pu 2 77 (bv 34 5) HT_.out (h := ?_)
                                      refine pu 6 81 (bv 34 69) HT_.out (h := ?_)
                                      refine tk 1 76 (bv 34 71) HT_.out HW_.out hHeld (h := ?_)
                                      refine pu 3 78 (bv 34 79) HT_.out (h := ?_)
                                      refine pu 4 79 (bv 34 95) HT_.out (h := ?_)
                                      refine tk 5 80 (bv 34 127) HT_.out HW_.out hHeld (h := ?_)
                                      refine tk 7 82 (bv 34 255) HT_.out HW_.out hHeld (h := ?_)
                                      refine pu 8 83 (bv 34 511) HT_.out (h := ?_)
                                      refine pu 9 84 (bv 34 1023) HT_.out (h := ?_)
                                      refine pu 10 85 (bv 34 2047) HT_.out (h := ?_)
                                      refine pu 12 87 (bv 34 6143) HT_.out (h := ?_)
                                      refine tk 11 86 (bv 34 8191) HT_.out HW_.out hHeld (h := ?_)
                                      refine pu 13 88 (bv 34 16383) HT_.out (h := ?_)
                                      refine pu 14 89 (bv 34 32767) HT_.out (h := ?_)
                                      refine tk 15 90 (bv 34 65535) HT_.out HW_.out hHeld (h := ?_)
                                      refine pu 16 91 (bv 34 131071) HT_.out (h := ?_)
                                      refine pu 17 92 (bv 34 262143) HT_.out (h := ?_)
                                      refine pu 18 93 (bv 34 524287) HT_.out (h := ?_)
                                      refine tk 19 94 (bv 34 1048575) HT_.out HW_.out hHeld (h := ?_)
                                      refine pu 20 95 (bv 34 2097151) HT_.out (h := ?_)
                                      refine pu 21 96 (bv 34 4194303) HT_.out (h := ?_)
                                      refine pu 22 97 (bv 34 8388607) HT_.out (h := ?_)
                                      refine pn 23 98 (bv 34 16777215) HT_.out (h := ?_)
                                      refine pn 24 99 (bv 34 33554431) HT_.out (h := ?_)
                                      refine pn 25 100 (bv 34 67108863) HT_.out (h := ?_)
                                      refine pn 26 101 (bv 34 134217727) HT_.out (h := ?_)
                                      refine pn 27 102 (bv 34 268435455) HT_.out (h := ?_)
                                      refine pn 28 103 (bv 34 536870911) HT_.out (h := ?_)
                                      refine pn 29 104 (bv 34 1073741823) HT_.out (h := ?_)
                                      refine pn 30 105 (bv 34 2147483647) HT_.out (h := ?_)
                                      refine pn 31 106 (bv 34 4294967295) HT_.out (h := ?_)
                                      refine pu 32 107 (bv 34 8589934591) HT_.out (h := ?_)
                                      refine pu 33 108 (bv 34 17179869183) HT_.out (h := ?_)
                                      refine done_ (done_of HT_.out (by kernel_rfl)) ?_
                                      try go_wp2
                                      go_roundg k4
                                      case measure => have := HJ1.out; have := HK2.out; have := HJ13.out; have := HK4.out; omega
                                      case rel => exact ⟨(wrap64 (x5_4 + 1)), (by first | rfl | (simp; done) | (simp [*]; done)), H', ⟨by have := HJ1.out; have := HK2.out; have := HJ13.out; have := HK4.out; omega⟩, ⟨by (with_reducible repeat (first | refine blk_drewN ?_ _ | refine blk_drew ?_ | refine blk_alloc ?_ _)); exact BK197.out⟩, ⟨by (with_reducible repeat (first | refine blk_drewN ?_ _ | refine blk_drew ?_ | refine blk_alloc ?_ _)); exact BK201.out⟩, ⟨By⟩⟩
                                    · rw [if_neg c54] at H
                                      have c54b0 : ((rd_T34 l0_2 x3_2).f6) = false := by simpa using c54
                                      clear c54
                                      by_cases c56 : ((rd_T34 l0_2 x5_4).f1).toList = ((rd_T34 l0_2 x3_2).f1).toList
                                      · rw [if_pos c56] at H
                                        have c56b0 : (((rd_T34 l0_2 x5_4).f1).toList == ((rd_T34 l0_2 x3_2).f1).toList) = true := beq_iff_eq.mpr c56
                                        have c56b1 : (((rd_T34 l0_2 x5_4).f1).toList != ((rd_T34 l0_2 x3_2).f1).toList) = false := bne_eq_false_iff_eq.mpr c56
                                        clear c56
                                        obtain rfl := Option.some.inj H
                                        try go_wp2
                                        have n0_ := Aside0.mk (blk_drew BK197.out)
                                        have n1_ := Aside0.mk (blk_drew BK201.out)
                                        have n2_ := Aside0.mk (below_drew1 HB.out)
                                        clear BK197
                                        clear BK201
                                        clear HB
                                        have BK197 := n0_
                                        have BK201 := n1_
                                        have HB := n2_
                                        clear n0_ n1_ n2_
                                        have p207 : 0 ≤ (x5_4 : Int) := of_decide_eq_true Da
                                        have q207 : x5_4 < (l0_2.length : Int) := of_decide_eq_true Da
                                        obtain ⟨ad207, e207, hx207_0, hx207_1, hx207_2, hx207_3, hx207_4, hx207_5, hx207_6⟩ := at_T34 HR0_2.out x5_4 p207 q207
                                        have hw207_6 := hx207_6
                                        have hw207_5 := hx207_5
                                        have hw207_4 := hx207_4
                                        have hw207_3 := hx207_3
                                        have hw207_2 := hx207_2
                                        have hw207_1 := hx207_1
                                        have hw207_0 := hx207_0
                                        (try rw [← Nbq51.out] at hx207_4); (try rw [← Nbq51.out] at hw207_4)
                                        (try rw [← Nbq51.out] at hx207_6); (try rw [← Nbq51.out] at hw207_6)
                                        obtain rfl : ad200 = ad207 := (by injection e207)
                                        replace hx207_0 := bz HB.out hx207_0
                                        replace hx207_1 := bz HB.out hx207_1
                                        replace hx207_2 := bz HB.out hx207_2
                                        replace hx207_3 := bz HB.out hx207_3
                                        replace hx207_4 := bz HB.out hx207_4
                                        replace hx207_5 := bz HB.out hx207_5
                                        replace hx207_6 := bz HB.out hx207_6
                                        replace p207 := eq_true p207
                                        replace q207 := eq_true q207
                                        have p208 : 0 ≤ (x5_4 : Int) := of_decide_eq_true Da
                                        have q208 : x5_4 < (l0_2.length : Int) := of_decide_eq_true Da
                                        obtain ⟨ad208, e208, hx208_0, hx208_1, hx208_2, hx208_3, hx208_4, hx208_5, hx208_6⟩ := at_T34 HR0_2.out x5_4 p208 q208
                                        have hw208_6 := hx208_6
                                        have hw208_5 := hx208_5
                                        have hw208_4 := hx208_4
                                        have hw208_3 := hx208_3
                                        have hw208_2 := hx208_2
                                        have hw208_1 := hx208_1
                                        have hw208_0 := hx208_0
                                        (try rw [← Nbq51.out] at hx208_4); (try rw [← Nbq51.out] at hw208_4)
                                        (try rw [← Nbq51.out] at hx208_6); (try rw [← Nbq51.out] at hw208_6)
                                        obtain rfl : ad200 = ad208 := (by injection e208)
                                        replace hx208_0 := bz HB.out hx208_0
                                        replace hx208_1 := bz HB.out hx208_1
                                        replace hx208_2 := bz HB.out hx208_2
                                        replace hx208_3 := bz HB.out hx208_3
                                        replace hx208_4 := bz HB.out hx208_4
                                        replace hx208_5 := bz HB.out hx208_5
                                        replace hx208_6 := bz HB.out hx208_6
                                        replace p208 := eq_true p208
                                        replace q208 := eq_true q208
                                        have p209 : 0 ≤ (x5_4 : Int) := of_decide_eq_true Da
                                        have q209 : x5_4 < (l0_2.length : Int) := of_decide_eq_true Da
                                        obtain ⟨ad209, e209, hx209_0, hx209_1, hx209_2, hx209_3, hx209_4, hx209_5, hx209_6⟩ := at_T34 HR0_2.out x5_4 p209 q209
                                        have hw209_6 := hx209_6
                                        have hw209_5 := hx209_5
                                        have hw209_4 := hx209_4
                                        have hw209_3 := hx209_3
                                        have hw209_2 := hx209_2
                                        have hw209_1 := hx209_1
                                        have hw209_0 := hx209_0
                                        (try rw [← Nbq51.out] at hx209_4); (try rw [← Nbq51.out] at hw209_4)
                                        (try rw [← Nbq51.out] at hx209_6); (try rw [← Nbq51.out] at hw209_6)
                                        obtain rfl : ad200 = ad209 := (by injection e209)
                                        replace hx209_0 := bz HB.out hx209_0
                                        replace hx209_1 := bz HB.out hx209_1
                                        replace hx209_2 := bz HB.out hx209_2
                                        replace hx209_3 := bz HB.out hx209_3
                                        replace hx209_4 := bz HB.out hx209_4
                                        replace hx209_5 := bz HB.out hx209_5
                                        replace hx209_6 := bz HB.out hx209_6
                                        replace p209 := eq_true p209
                                        replace q209 := eq_true q209
                                        refine start_ (n := 34) (S := fun w' => w'.cell? ⟨gb197, 0, none⟩ = some (.int .i64 a0_0) ∧ w'.cell? ⟨gb197, 1, none⟩ = some (.int .i64 a0_1) ∧ w'.cell? ⟨gb197, 2, none⟩ = some (.slice (some ad200) l0_2.length c0_2) ∧ w'.cell? ⟨gb201, 0, none⟩ = some (.int .i64 ((rd_T34 l0_2 x3_2).f0)) ∧ w'.cell? ⟨gb201, 1, none⟩ = some (.string ((rd_T34 l0_2 x3_2).f1)) ∧ w'.cell? ⟨gb201, 2, none⟩ = some (.string ((rd_T34 l0_2 x3_2).f2)) ∧ w'.cell? ⟨gb201, 3, none⟩ = some (.string ((rd_T34 l0_2 x3_2).f3)) ∧ w'.cell? ⟨gb201, 4, none⟩ = some (.bool ((rd_T34 l0_2 x3_2).f4)) ∧ w'.cell? ⟨gb201, 5, none⟩ = some (.int .i64 ((rd_T34 l0_2 x3_2).f5)) ∧ w'.cell? ⟨gb201, 6, none⟩ = some (.bool ((rd_T34 l0_2 x3_2).f6)) ∧ w'.cell? (ad200.add ((x5_4).toNat * 7)) = some (.int .i64 ((rd_T34 l0_2 x5_4).f0)) ∧ w'.cell? ⟨(ad200.add ((x5_4).toNat * 7)).block, (ad200.add ((x5_4).toNat * 7)).off + 1, none⟩ = some (.string ((rd_T34 l0_2 x5_4).f1)) ∧ w'.cell? ⟨(ad200.add ((x5_4).toNat * 7)).block, (ad200.add ((x5_4).toNat * 7)).off + 2, none⟩ = some (.string ((rd_T34 l0_2 x5_4).f2)) ∧ w'.cell? ⟨(ad200.add ((x5_4).toNat * 7)).block, (ad200.add ((x5_4).toNat * 7)).off + 3, none⟩ = some (.string ((rd_T34 l0_2 x5_4).f3)) ∧ w'.cell? ⟨(ad200.add ((x5_4).toNat * 7)).block, (ad200.add ((x5_4).toNat * 7)).off + 4, none⟩ = some (.bool ((rd_T34 l0_2 x5_4).f4)) ∧ w'.cell? ⟨(ad200.add ((x5_4).toNat * 7)).block, (ad200.add ((x5_4).toNat * 7)).off + 5, none⟩ = some (.int .i64 ((rd_T34 l0_2 x5_4).f5)) ∧ w'.cell? ⟨(ad200.add ((x5_4).toNat * 7)).block, (ad200.add ((x5_4).toNat * 7)).off + 6, none⟩ = some (.bool false) ∧ w'.cell? (ad200.add ((x5_4).toNat * 7)) = some (.int .i64 ((rd_T34 l0_2 x5_4).f0)) ∧ w'.cell? ⟨(ad200.add ((x5_4).toNat * 7)).block, (ad200.add ((x5_4).toNat * 7)).off + 1, none⟩ = some (.string ((rd_T34 l0_2 x5_4).f1)) ∧ w'.cell? ⟨(ad200.add ((x5_4).toNat * 7)).block, (ad200.add ((x5_4).toNat * 7)).off + 2, none⟩ = some (.string ((rd_T34 l0_2 x5_4).f2)) ∧ w'.cell? ⟨(ad200.add ((x5_4).toNat * 7)).block, (ad200.add ((x5_4).toNat * 7)).off + 3, none⟩ = some (.string ((rd_T34 l0_2 x5_4).f3)) ∧ w'.cell? ⟨(ad200.add ((x5_4).toNat * 7)).block, (ad200.add ((x5_4).toNat * 7)).off + 4, none⟩ = some (.bool ((rd_T34 l0_2 x5_4).f4)) ∧ w'.cell? ⟨(ad200.add ((x5_4).toNat * 7)).block, (ad200.add ((x5_4).toNat * 7)).off + 5, none⟩ = some (.int .i64 ((rd_T34 l0_2 x5_4).f5)) ∧ w'.cell? ⟨(ad200.add ((x5_4).toNat * 7)).block, (ad200.add ((x5_4).toNat * 7)).off + 6, none⟩ = some (.bool false) ∧ w'.cell? (ad200.add ((x5_4).toNat * 7)) = some (.int .i64 ((rd_T34 l0_2 x5_4).f0)) ∧ w'.cell? ⟨(ad200.add ((x5_4).toNat * 7)).block, (ad200.add ((x5_4).toNat * 7)).off + 1, none⟩ = some (.string ((rd_T34 l0_2 x5_4).f1)) ∧ w'.cell? ⟨(ad200.add ((x5_4).toNat * 7)).block, (ad200.add ((x5_4).toNat * 7)).off + 2, none⟩ = some (.string ((rd_T34 l0_2 x5_4).f2)) ∧ w'.cell? ⟨(ad200.add ((x5_4).toNat * 7)).block, (ad200.add ((x5_4).toNat * 7)).off + 3, none⟩ = some (.string ((rd_T34 l0_2 x5_4).f3)) ∧ w'.cell? ⟨(ad200.add ((x5_4).toNat * 7)).block, (ad200.add ((x5_4).toNat * 7)).off + 4, none⟩ = some (.bool ((rd_T34 l0_2 x5_4).f4)) ∧ w'.cell? ⟨(ad200.add ((x5_4).toNat * 7)).block, (ad200.add ((x5_4).toNat * 7)).off + 5, none⟩ = some (.int .i64 ((rd_T34 l0_2 x5_4).f5)) ∧ w'.cell? ⟨(ad200.add ((x5_4).toNat * 7)).block, (ad200.add ((x5_4).toNat * 7)).off + 6, none⟩ = some (.bool (false))) (ds := []) (bv 34 0) (by kernel_rfl) rfl rfl ⟨bc BK197.out 0, bc BK197.out 1, bc BK197.out 2, bc BK201.out 0, bc BK201.out 1, bc BK201.out 2, bc BK201.out 3, bc BK201.out 4, bc BK201.out 5, bc BK201.out 6, (bz HB.out hw207_0), (bz HB.out hw207_1), (bz HB.out hw207_2), (bz HB.out hw207_3), (bz HB.out hw207_4), (bz HB.out hw207_5), (bz HB.out hw207_6), (bz HB.out hw208_0), (bz HB.out hw208_1), (bz HB.out hw208_2), (bz HB.out hw208_3), (bz HB.out hw208_4), (bz HB.out hw208_5), (bz HB.out hw208_6), (bz HB.out hw209_0), (bz HB.out hw209_1), (bz HB.out hw209_2), (bz HB.out hw209_3), (bz HB.out hw209_4), (bz HB.out hw209_5), (bz HB.out hw209_6)⟩ (fun hHeld => ?_); refine with_tabW spec_TableRight.tab12 spec_TableRight.bits12 (fun HT_ HW_ => ?_)
                                        generalize wr.drew = w57 at BK197 BK201 HB hx207_0 hx207_1 hx207_2 hx207_3 hx207_4 hx207_5 hx207_6 hx208_0 hx208_1 hx208_2 hx208_3 hx208_4 hx208_5 hx208_6 hx209_0 hx209_1 hx209_2 hx209_3 hx209_4 hx209_5 hx209_6 hHeld ⊢
                                        refine pu 0 75 (bv 34 1) HT_.out (h := ?_)
                                        refine pu 2 77 (bv 34 5) HT_.out (h := ?_)
                                        refine pu 6 81 (bv 34 69) HT_.out (h := ?_)
                                        refine tk 1 76 (bv 34 71) HT_.out HW_.out hHeld (h := ?_)
                                        refine pu 3 78 (bv 34 79) HT_.out (h := ?_)
                                        refine pu 4 79 (bv 34 95) HT_.out (h := ?_)
                                        refine tk 5 80 (bv 34 127) HT_.out HW_.out hHeld (h := ?_)
                                        refine tk 7 82 (bv 34 255) HT_.out HW_.out hHeld (h := ?_)
                                        refine pu 8 83 (bv 34 511) HT_.out (h := ?_)
                                        refine pu 9 84 (bv 34 1023) HT_.out (h := ?_)
                                        refine pu 10 85 (bv 34 2047) HT_.out (h := ?_)
                                        refine pu 12 87 (bv 34 6143) HT_.out (h := ?_)
                                        refine tk 11 86 (bv 34 8191) HT_.out HW_.out hHeld (h := ?_)
                                        refine pu 13 88 (bv 34 16383) HT_.out (h := ?_)
                                        refine pu 14 89 (bv 34 32767) HT_.out (h := ?_)
                                        refine tk 15 90 (bv 34 65535) HT_.out HW_.out hHeld (h := ?_)
                                        refine pu 16 91 (bv 34 131071) HT_.out (h := ?_)
                                        refine pu 17 92 (bv 34 262143) HT_.out (h := ?_)
                                        refine pu 18 93 (bv 34 524287) HT_.out (h := ?_)
                                        refine tk 19 94 (bv 34 1048575) HT_.out HW_.out hHeld (h := ?_)
                                        refine pu 20 95 (bv 34 2097151) HT_.out (h := ?_)
                                        refine pu 21 96 (bv 34 4194303) HT_.out (h := ?_)
                                        refine pu 22 97 (bv 34 8388607) HT_.out (h := ?_)
                                        refine pu 23 98 (bv 34 16777215) HT_.out (h := ?_)
                                        refine pu 25 100 (bv 34 50331647) HT_.out (h := ?_)
                                        refine pu 29 104 (bv 34 587202559) HT_.out (h := ?_)
                                        refine tk 24 99 (bv 34 603979775) HT_.out HW_.out hHeld (h := ?_)
                                        refine pu 26 101 (bv 34 671088639) HT_.out (h := ?_)
                                        refine pu 27 102 (bv 34 805306367) HT_.out (h := ?_)
                                        refine tk 28 103 (bv 34 1073741823) HT_.out HW_.out hHeld (h := ?_)
                                        refine tk 30 105 (bv 34 2147483647) HT_.out HW_.out hHeld (h := ?_)
                                        refine pu 31 106 (bv 34 4294967295) HT_.out (h := ?_)
                                        refine pu 32 107 (bv 34 8589934591) HT_.out (h := ?_)
                                        refine pu 33 108 (bv 34 17179869183) HT_.out (h := ?_)
                                        refine done_ (done_of HT_.out (by kernel_rfl)) ?_
                                        try go_wp2
                                        go_ret
                                        exact ⟨Rf, By⟩
                                      · rw [if_neg c56] at H
                                        have c56b0 : (((rd_T34 l0_2 x5_4).f1).toList == ((rd_T34 l0_2 x3_2).f1).toList) = false := beq_eq_false_iff_ne.mpr c56
                                        have c56b1 : (((rd_T34 l0_2 x5_4).f1).toList != ((rd_T34 l0_2 x3_2).f1).toList) = true := bne_iff_ne.mpr c56
                                        have H' := Aside0.mk H
                                        clear H
                                        try go_wp2
                                        have n0_ := Aside0.mk (blk_drew BK197.out)
                                        have n1_ := Aside0.mk (blk_drew BK201.out)
                                        have n2_ := Aside0.mk (below_drew1 HB.out)
                                        clear BK197
                                        clear BK201
                                        clear HB
                                        have BK197 := n0_
                                        have BK201 := n1_
                                        have HB := n2_
                                        clear n0_ n1_ n2_
                                        have p207 : 0 ≤ (x5_4 : Int) := of_decide_eq_true Da
                                        have q207 : x5_4 < (l0_2.length : Int) := of_decide_eq_true Da
                                        obtain ⟨ad207, e207, hx207_0, hx207_1, hx207_2, hx207_3, hx207_4, hx207_5, hx207_6⟩ := at_T34 HR0_2.out x5_4 p207 q207
                                        have hw207_6 := hx207_6
                                        have hw207_5 := hx207_5
                                        have hw207_4 := hx207_4
                                        have hw207_3 := hx207_3
                                        have hw207_2 := hx207_2
                                        have hw207_1 := hx207_1
                                        have hw207_0 := hx207_0
                                        (try rw [← Nbq51.out] at hx207_4); (try rw [← Nbq51.out] at hw207_4)
                                        (try rw [← Nbq51.out] at hx207_6); (try rw [← Nbq51.out] at hw207_6)
                                        obtain rfl : ad200 = ad207 := (by injection e207)
                                        replace hx207_0 := bz HB.out hx207_0
                                        replace hx207_1 := bz HB.out hx207_1
                                        replace hx207_2 := bz HB.out hx207_2
                                        replace hx207_3 := bz HB.out hx207_3
                                        replace hx207_4 := bz HB.out hx207_4
                                        replace hx207_5 := bz HB.out hx207_5
                                        replace hx207_6 := bz HB.out hx207_6
                                        replace p207 := eq_true p207
                                        replace q207 := eq_true q207
                                        have p208 : 0 ≤ (x5_4 : Int) := of_decide_eq_true Da
                                        have q208 : x5_4 < (l0_2.length : Int) := of_decide_eq_true Da
                                        obtain ⟨ad208, e208, hx208_0, hx208_1, hx208_2, hx208_3, hx208_4, hx208_5, hx208_6⟩ := at_T34 HR0_2.out x5_4 p208 q208
                                        have hw208_6 := hx208_6
                                        have hw208_5 := hx208_5
                                        have hw208_4 := hx208_4
                                        have hw208_3 := hx208_3
                                        have hw208_2 := hx208_2
                                        have hw208_1 := hx208_1
                                        have hw208_0 := hx208_0
                                        (try rw [← Nbq51.out] at hx208_4); (try rw [← Nbq51.out] at hw208_4)
                                        (try rw [← Nbq51.out] at hx208_6); (try rw [← Nbq51.out] at hw208_6)
                                        obtain rfl : ad200 = ad208 := (by injection e208)
                                        replace hx208_0 := bz HB.out hx208_0
                                        replace hx208_1 := bz HB.out hx208_1
                                        replace hx208_2 := bz HB.out hx208_2
                                        replace hx208_3 := bz HB.out hx208_3
                                        replace hx208_4 := bz HB.out hx208_4
                                        replace hx208_5 := bz HB.out hx208_5
                                        replace hx208_6 := bz HB.out hx208_6
                                        replace p208 := eq_true p208
                                        replace q208 := eq_true q208
                                        have p209 : 0 ≤ (x5_4 : Int) := of_decide_eq_true Da
                                        have q209 : x5_4 < (l0_2.length : Int) := of_decide_eq_true Da
                                        obtain ⟨ad209, e209, hx209_0, hx209_1, hx209_2, hx209_3, hx209_4, hx209_5, hx209_6⟩ := at_T34 HR0_2.out x5_4 p209 q209
                                        have hw209_6 := hx209_6
                                        have hw209_5 := hx209_5
                                        have hw209_4 := hx209_4
                                        have hw209_3 := hx209_3
                                        have hw209_2 := hx209_2
                                        have hw209_1 := hx209_1
                                        have hw209_0 := hx209_0
                                        (try rw [← Nbq51.out] at hx209_4); (try rw [← Nbq51.out] at hw209_4)
                                        (try rw [← Nbq51.out] at hx209_6); (try rw [← Nbq51.out] at hw209_6)
                                        obtain rfl : ad200 = ad209 := (by injection e209)
                                        replace hx209_0 := bz HB.out hx209_0
                                        replace hx209_1 := bz HB.out hx209_1
                                        replace hx209_2 := bz HB.out hx209_2
                                        replace hx209_3 := bz HB.out hx209_3
                                        replace hx209_4 := bz HB.out hx209_4
                                        replace hx209_5 := bz HB.out hx209_5
                                        replace hx209_6 := bz HB.out hx209_6
                                        replace p209 := eq_true p209
                                        replace q209 := eq_true q209
                                        refine start_ (n := 34) (S := fun w' => w'.cell? ⟨gb197, 0, none⟩ = some (.int .i64 a0_0) ∧ w'.cell? ⟨gb197, 1, none⟩ = some (.int .i64 a0_1) ∧ w'.cell? ⟨gb197, 2, none⟩ = some (.slice (some ad200) l0_2.length c0_2) ∧ w'.cell? ⟨gb201, 0, none⟩ = some (.int .i64 ((rd_T34 l0_2 x3_2).f0)) ∧ w'.cell? ⟨gb201, 1, none⟩ = some (.string ((rd_T34 l0_2 x3_2).f1)) ∧ w'.cell? ⟨gb201, 2, none⟩ = some (.string ((rd_T34 l0_2 x3_2).f2)) ∧ w'.cell? ⟨gb201, 3, none⟩ = some (.string ((rd_T34 l0_2 x3_2).f3)) ∧ w'.cell? ⟨gb201, 4, none⟩ = some (.bool ((rd_T34 l0_2 x3_2).f4)) ∧ w'.cell? ⟨gb201, 5, none⟩ = some (.int .i64 ((rd_T34 l0_2 x3_2).f5)) ∧ w'.cell? ⟨gb201, 6, none⟩ = some (.bool ((rd_T34 l0_2 x3_2).f6)) ∧ w'.cell? (ad200.add ((x5_4).toNat * 7)) = some (.int .i64 ((rd_T34 l0_2 x5_4).f0)) ∧ w'.cell? ⟨(ad200.add ((x5_4).toNat * 7)).block, (ad200.add ((x5_4).toNat * 7)).off + 1, none⟩ = some (.string ((rd_T34 l0_2 x5_4).f1)) ∧ w'.cell? ⟨(ad200.add ((x5_4).toNat * 7)).block, (ad200.add ((x5_4).toNat * 7)).off + 2, none⟩ = some (.string ((rd_T34 l0_2 x5_4).f2)) ∧ w'.cell? ⟨(ad200.add ((x5_4).toNat * 7)).block, (ad200.add ((x5_4).toNat * 7)).off + 3, none⟩ = some (.string ((rd_T34 l0_2 x5_4).f3)) ∧ w'.cell? ⟨(ad200.add ((x5_4).toNat * 7)).block, (ad200.add ((x5_4).toNat * 7)).off + 4, none⟩ = some (.bool ((rd_T34 l0_2 x5_4).f4)) ∧ w'.cell? ⟨(ad200.add ((x5_4).toNat * 7)).block, (ad200.add ((x5_4).toNat * 7)).off + 5, none⟩ = some (.int .i64 ((rd_T34 l0_2 x5_4).f5)) ∧ w'.cell? ⟨(ad200.add ((x5_4).toNat * 7)).block, (ad200.add ((x5_4).toNat * 7)).off + 6, none⟩ = some (.bool false) ∧ w'.cell? (ad200.add ((x5_4).toNat * 7)) = some (.int .i64 ((rd_T34 l0_2 x5_4).f0)) ∧ w'.cell? ⟨(ad200.add ((x5_4).toNat * 7)).block, (ad200.add ((x5_4).toNat * 7)).off + 1, none⟩ = some (.string ((rd_T34 l0_2 x5_4).f1)) ∧ w'.cell? ⟨(ad200.add ((x5_4).toNat * 7)).block, (ad200.add ((x5_4).toNat * 7)).off + 2, none⟩ = some (.string ((rd_T34 l0_2 x5_4).f2)) ∧ w'.cell? ⟨(ad200.add ((x5_4).toNat * 7)).block, (ad200.add ((x5_4).toNat * 7)).off + 3, none⟩ = some (.string ((rd_T34 l0_2 x5_4).f3)) ∧ w'.cell? ⟨(ad200.add ((x5_4).toNat * 7)).block, (ad200.add ((x5_4).toNat * 7)).off + 4, none⟩ = some (.bool ((rd_T34 l0_2 x5_4).f4)) ∧ w'.cell? ⟨(ad200.add ((x5_4).toNat * 7)).block, (ad200.add ((x5_4).toNat * 7)).off + 5, none⟩ = some (.int .i64 ((rd_T34 l0_2 x5_4).f5)) ∧ w'.cell? ⟨(ad200.add ((x5_4).toNat * 7)).block, (ad200.add ((x5_4).toNat * 7)).off + 6, none⟩ = some (.bool false) ∧ w'.cell? (ad200.add ((x5_4).toNat * 7)) = some (.int .i64 ((rd_T34 l0_2 x5_4).f0)) ∧ w'.cell? ⟨(ad200.add ((x5_4).toNat * 7)).block, (ad200.add ((x5_4).toNat * 7)).off + 1, none⟩ = some (.string ((rd_T34 l0_2 x5_4).f1)) ∧ w'.cell? ⟨(ad200.add ((x5_4).toNat * 7)).block, (ad200.add ((x5_4).toNat * 7)).off + 2, none⟩ = some (.string ((rd_T34 l0_2 x5_4).f2)) ∧ w'.cell? ⟨(ad200.add ((x5_4).toNat * 7)).block, (ad200.add ((x5_4).toNat * 7)).off + 3, none⟩ = some (.string ((rd_T34 l0_2 x5_4).f3)) ∧ w'.cell? ⟨(ad200.add ((x5_4).toNat * 7)).block, (ad200.add ((x5_4).toNat * 7)).off + 4, none⟩ = some (.bool ((rd_T34 l0_2 x5_4).f4)) ∧ w'.cell? ⟨(ad200.add ((x5_4).toNat * 7)).block, (ad200.add ((x5_4).toNat * 7)).off + 5, none⟩ = some (.int .i64 ((rd_T34 l0_2 x5_4).f5)) ∧ w'.cell? ⟨(ad200.add ((x5_4).toNat * 7)).block, (ad200.add ((x5_4).toNat * 7)).off + 6, none⟩ = some (.bool (false))) (ds := []) (bv 34 0) (by kernel_rfl) rfl rfl ⟨bc BK197.out 0, bc BK197.out 1, bc BK197.out 2, bc BK201.out 0, bc BK201.out 1, bc BK201.out 2, bc BK201.out 3, bc BK201.out 4, bc BK201.out 5, bc BK201.out 6, (bz HB.out hw207_0), (bz HB.out hw207_1), (bz HB.out hw207_2), (bz HB.out hw207_3), (bz HB.out hw207_4), (bz HB.out hw207_5), (bz HB.out hw207_6), (bz HB.out hw208_0), (bz HB.out hw208_1), (bz HB.out hw208_2), (bz HB.out hw208_3), (bz HB.out hw208_4), (bz HB.out hw208_5), (bz HB.out hw208_6), (bz HB.out hw209_0), (bz HB.out hw209_1), (bz HB.out hw209_2), (bz HB.out hw209_3), (bz HB.out hw209_4), (bz HB.out hw209_5), (bz HB.out hw209_6)⟩ (fun hHeld => ?_); refine with_tabW spec_TableRight.tab12 spec_TableRight.bits12 (fun HT_ HW_ => ?_)
                                        generalize wr.drew = w58 at BK197 BK201 HB hx207_0 hx207_1 hx207_2 hx207_3 hx207_4 hx207_5 hx207_6 hx208_0 hx208_1 hx208_2 hx208_3 hx208_4 hx208_5 hx208_6 hx209_0 hx209_1 hx209_2 hx209_3 hx209_4 hx209_5 hx209_6 hHeld ⊢
                                        refine pu 0 75 (bv 34 1) HT_.out (h := ?_)
                                        refine pu 2 77 (bv 34 5) HT_.out (h := ?_)
                                        refine pu 6 81 (bv 34 69) HT_.out (h := ?_)
                                        refine tk 1 76 (bv 34 71) HT_.out HW_.out hHeld (h := ?_)
                                        refine pu 3 78 (bv 34 79) HT_.out (h := ?_)
                                        refine pu 4 79 (bv 34 95) HT_.out (h := ?_)
                                        refine tk 5 80 (bv 34 127) HT_.out HW_.out hHeld (h := ?_)
                                        refine tk 7 82 (bv 34 255) HT_.out HW_.out hHeld (h := ?_)
                                        refine pu 8 83 (bv 34 511) HT_.out (h := ?_)
                                        refine pu 9 84 (bv 34 1023) HT_.out (h := ?_)
                                        refine pu 10 85 (bv 34 2047) HT_.out (h := ?_)
                                        refine pu 12 87 (bv 34 6143) HT_.out (h := ?_)
                                        refine tk 11 86 (bv 34 8191) HT_.out HW_.out hHeld (h := ?_)
                                        refine pu 13 88 (bv 34 16383) HT_.out (h := ?_)
                                        refine pu 14 89 (bv 34 32767) HT_.out (h := ?_)
                                        refine tk 15 90 (bv 34 65535) HT_.out HW_.out hHeld (h := ?_)
                                        refine pu 16 91 (bv 34 131071) HT_.out (h := ?_)
                                        refine pu 17 92 (bv 34 262143) HT_.out (h := ?_)
                                        refine pu 18 93 (bv 34 524287) HT_.out (h := ?_)
                                        refine tk 19 94 (bv 34 1048575) HT_.out HW_.out hHeld (h := ?_)
                                        refine pu 20 95 (bv 34 2097151) HT_.out (h := ?_)
                                        refine pu 21 96 (bv 34 4194303) HT_.out (h := ?_)
                                        refine pu 22 97 (bv 34 8388607) HT_.out (h := ?_)
                                        refine pu 23 98 (bv 34 16777215) HT_.out (h := ?_)
                                        refine pu 25 100 (bv 34 50331647) HT_.out (h := ?_)
                                        refine pu 29 104 (bv 34 587202559) HT_.out (h := ?_)
                                        refine tk 24 99 (bv 34 603979775) HT_.out HW_.out hHeld (h := ?_)
                                        refine pu 26 101 (bv 34 671088639) HT_.out (h := ?_)
                                        refine pu 27 102 (bv 34 805306367) HT_.out (h := ?_)
                                        refine tk 28 103 (bv 34 1073741823) HT_.out HW_.out hHeld (h := ?_)
                                        refine tk 30 105 (bv 34 2147483647) HT_.out HW_.out hHeld (h := ?_)
                                        refine pu 31 106 (bv 34 4294967295) HT_.out (h := ?_)
                                        refine pu 32 107 (bv 34 8589934591) HT_.out (h := ?_)
                                        refine pu 33 108 (bv 34 17179869183) HT_.out (h := ?_)
                                        refine done_ (done_of HT_.out (by kernel_rfl)) ?_
                                        try go_wp2
                                        go_roundg k4
                                        case measure => have := HJ1.out; have := HK2.out; have := HJ13.out; have := HK4.out; omega
                                        case rel => exact ⟨(wrap64 (x5_4 + 1)), (by first | rfl | (simp; done) | (simp [*]; done)), H', ⟨by have := HJ1.out; have := HK2.out; have := HJ13.out; have := HK4.out; omega⟩, ⟨by (with_reducible repeat (first | refine blk_drewN ?_ _ | refine blk_drew ?_ | refine blk_alloc ?_ _)); exact BK197.out⟩, ⟨by (with_reducible repeat (first | refine blk_drewN ?_ _ | refine blk_drew ?_ | refine blk_alloc ?_ _)); exact BK201.out⟩, ⟨By⟩⟩
                              · rw [if_neg c48] at H
                                exact absurd H (by simp)
                            · rw [if_neg c47] at H
                              exact absurd H (by simp)
                          · rw [if_neg c46] at H
                            have c46b0 : decide (x5_4 < x3_2) = false := decide_eq_false c46
                            clear c46
                            have H' := Aside0.mk H
                            clear H
                            go_wp2
                            go_roundg k4
                            case measure => have := HJ1.out; have := HK2.out; have := HJ13.out; have := HK4.out; omega
                            case rel => exact ⟨(wrap64 (x3_2 + 1)), (by first | rfl | (simp; done) | (simp [*]; done)), H', ⟨by have := HJ1.out; have := HK2.out; have := HJ13.out; have := HK4.out; omega⟩, ⟨by (with_reducible repeat (first | refine blk_drewN ?_ _ | refine blk_drew ?_ | refine blk_alloc ?_ _)); exact BK197.out⟩, ⟨By⟩⟩
              · rw [if_neg c13] at H
                exact absurd H (by simp)
            · rw [if_neg c12] at H
              have c12b0 : decide (x3_2 < (l0_2.length : Int)) = false := decide_eq_false c12
              clear c12
              obtain rfl := Option.some.inj H
              have hcz59_0 : wr.cell? ⟨gb197, 0, none⟩ = some (.int .i64 a0_0) := bc BK197.out 0
              have hcz59_1 : wr.cell? ⟨gb197, 1, none⟩ = some (.int .i64 a0_1) := bc BK197.out 1
              have hcz59_2 : wr.cell? ⟨gb197, 2, none⟩ = some (.slice A0_2 l0_2.length c0_2) := bc BK197.out 2
              have hfz59_0 := blk_frozen BK197.out 0
              have hfz59_1 := blk_frozen BK197.out 1
              have hfz59_2 := blk_frozen BK197.out 2
              go_wp2
              go_ret
              exact ⟨Rf, By⟩

end Go.Proofs.YtpocoeghobdfiaaDoor.PG

-- WRITTEN BY A PROGRAM OF THIS SESSION (wip/gen/gen.py), by way of the kit's print program. Lean checks it.
namespace Go.Proofs.YtpocoeghobdfiaaDoor.PG
open Go.Proofs.YtpocoeghobdfiaaDoor.Sq Go.RowKit Go.Proofs.YtpocoeghobdfiaaDoorW.PrintWords Go.Proofs.YtpocoeghobdfiaaDoorW.PrintLast Go.Proofs.YtpocoeghobdfiaaDoorW.PrintMore
attribute [local go_sem] max2_int min2_int max_two min_two max_three min_three max_four min_four   -- for this text's walks alone
set_option linter.unusedVariables false
set_option linter.unusedSimpArgs false

/-! ### spec_l12Login: function 64 -/
def spec_l12Login.l0 : Nat → ByteArray → Int → Int → Int → List (S34) → Option (Int)
  | 0, _, _, _, _, _ => none
  | k + 1, x1, x5, x281000, x281001, x281002 => if x5 < (x281002.length : Int) then (if 0 ≤ x5 then (if ((rd_T34 x281002 x5).f1).toList = x1.toList then (if ((rd_T34 x281002 x5).f6 = true) then (spec_l12Login.l0 k x1 (wrap64 (x5 + 1)) x281000 x281001 x281002) else (some x5)) else (spec_l12Login.l0 k x1 (wrap64 (x5 + 1)) x281000 x281001 x281002)) else (none)) else (some (-1))
def spec_l12Login.f (k : Nat) (a0_0 : Int) (a0_1 : Int) (l0_2 : List (S34)) (a1 : ByteArray) : Option (Int) := spec_l12Login.l0 k a1 0 a0_0 a0_1 l0_2
theorem spec_l12Login.mono_l : ∀ k, (∀ y0 y1 y2 y3 y4, LeO (spec_l12Login.l0 k y0 y1 y2 y3 y4) (spec_l12Login.l0 (k + 1) y0 y1 y2 y3 y4))
  | 0 => fun _ _ _ _ _ r h => by simp [spec_l12Login.l0] at h
  | k + 1 => by
    have ih0 := spec_l12Login.mono_l k
    · intro y0 y1 y2 y3 y4
      unfold spec_l12Login.l0
      repeat' first
      | (with_reducible exact ih0 _ _ _ _ _)
      | (with_reducible exact LeO.refl _)
      | (with_reducible exact LeO.none _)
      | (with_reducible refine LeO.ite ?_ ?_)
      | (with_reducible refine LeO.bind ?_ (fun _ => ?_))
      | exact ih0 _ _ _ _ _
      | exact LeO.none _
      | refine LeO.ite ?_ ?_
      | refine LeO.bind ?_ (fun _ => ?_)
theorem spec_l12Login.mono : ∀ a0 a1 a2 a3 k, LeO (spec_l12Login.f k a0 a1 a2 a3) (spec_l12Login.f (k + 1) a0 a1 a2 a3) := by
  intro a0 a1 a2 a3 k
  have ih0 := spec_l12Login.mono_l k
  unfold spec_l12Login.f
  repeat' first
      | (with_reducible exact ih0 _ _ _ _ _)
      | (with_reducible exact LeO.refl _)
      | (with_reducible exact LeO.none _)
      | (with_reducible refine LeO.ite ?_ ?_)
      | (with_reducible refine LeO.bind ?_ (fun _ => ?_))
      | exact ih0 _ _ _ _ _
      | exact LeO.none _
      | refine LeO.ite ?_ ?_
      | refine LeO.bind ?_ (fun _ => ?_)
set_option maxHeartbeats 8000000 in
set_option maxRecDepth 100000 in
theorem spec_l12Login.calls (k : Nat) (a0_0 : Int) (a0_1 : Int) (A0_2 : Option Addr) (c0_2 : Nat) (l0_2 : List (S34)) (a1 : ByteArray) (r : Int) (w : World) (hr0_2 : Kd.C k34 w A0_2 l0_2.length l0_2) (hc0_2 : l0_2.length ≤ c0_2) (h : spec_l12Login.f k a0_0 a0_1 l0_2 a1 = some r) :
    Calls Tryd.prog 64 #[.agg #[.int .i64 a0_0, .int .i64 a0_1, .slice A0_2 l0_2.length c0_2], .string a1] w fun e w' => e = .returned (.int .i64 r) ∧ Below w.heap.size w w' := by
  have hu38 := Tryd.underlying38
  have HR0_2 := Aside0.mk hr0_2
  have HC0_2 := Aside0.mk hc0_2
  clear hr0_2 hc0_2
  have HB := Aside0.mk (Below.refl w.heap.size w)
  have H : (spec_l12Login.l0 k a1 0 a0_0 a0_1 l0_2) = some r := h
  clear h
  have H' := Aside0.mk H
  clear H
  go_enter Tryd.func64, Tryd.ntmps64
  go_wp2_with (first | ((with_reducible refine gate_dst (N := 2) rfl ?_); refine box_event ?hg (N := 2) ?hd (cs := #[.int .i64 a0_0, .int .i64 a0_1, .slice A0_2 l0_2.length c0_2]) (t := 38) ?hr ?_; (case hd => rfl); (case hg => rfl); (case hr => first | (go_simp; done) | (go_simp; rfl)); intro gb280 hg w3 hbox hb; have n0_ := Aside0.mk (below_step By hb); have n1_ := Aside0.mk (hbox); have n2_ := Aside0.mk ((by rw [hg]; exact (below_size By) : w.heap.size ≤ gb280)); have n3_ := Aside0.mk ((by rw [hg]; exact (below_size By) : w.heap.size ≤ gb280)); clear HB; have HB := n0_; have BK280 := n1_; have GW280 := n2_; have GE280 := n3_; clear n0_ n1_ n2_ n3_; clear hb hbox hg))
  go_loopg [5] k (fun kq v5 w' => ∃ (x5_1 : Int), v5 = .int .i64 x5_1 ∧ Aside0 (spec_l12Login.l0 kq a1 x5_1 a0_0 a0_1 l0_2 = some r) ∧ Aside0 (kq ≤ k) ∧ Aside0 (w'.heap[gb280]? = some (.cells #[.int .i64 a0_0, .int .i64 a0_1, (.slice A0_2 l0_2.length c0_2)] 38 (0, 0))) ∧ Aside0 (Below w.heap.size w w'))
  case atStart => exact ⟨(0), (by first | rfl | (simp; done) | (simp [*]; done)), H', ⟨Nat.le_refl _⟩, ⟨by (with_reducible repeat (first | refine blk_drewN ?_ _ | refine blk_drew ?_ | refine blk_alloc ?_ _)); exact BK280.out⟩, ⟨By⟩⟩
  case round =>
    clear H'
    try clear p2
    obtain ⟨x5_1, rfl, HA, HK1, BK280, HB⟩ := hrel
    cases gk with
    | zero => exact absurd HA.out (by simp [spec_l12Login.l0])
    | succ k1 =>
      have H := HA.out
      clear HA
      simp only [spec_l12Login.l0] at H
      by_cases c4 : x5_1 < (l0_2.length : Int)
      · rw [if_pos c4] at H
        have c4b0 : decide (x5_1 < (l0_2.length : Int)) = true := decide_eq_true c4
        clear c4
        by_cases c5 : 0 ≤ x5_1
        · rw [if_pos c5] at H
          have c5b0 : decide (0 ≤ x5_1) = true := decide_eq_true c5
          clear c5
          by_cases c6 : ((rd_T34 l0_2 x5_1).f1).toList = a1.toList
          · rw [if_pos c6] at H
            have c6b0 : (((rd_T34 l0_2 x5_1).f1).toList == a1.toList) = true := beq_iff_eq.mpr c6
            have c6b1 : (((rd_T34 l0_2 x5_1).f1).toList != a1.toList) = false := bne_eq_false_iff_eq.mpr c6
            clear c6
            obtain ⟨bq7, hbq7⟩ : ∃ b_ : Bool, b_ = ((rd_T34 l0_2 x5_1).f6) := ⟨_, rfl⟩
            replace H : (if (bq7 = true) then (spec_l12Login.l0 k1 a1 (wrap64 (x5_1 + 1)) a0_0 a0_1 l0_2) else (some x5_1)) = some r := by rw [← hbq7] at H; exact H
            have Nbq7 := Aside0.mk hbq7
            clear hbq7
            by_cases c8 : (bq7 = true)
            · subst c8
              have H1 : (spec_l12Login.l0 k1 a1 (wrap64 (x5_1 + 1)) a0_0 a0_1 l0_2) = some r := by rw [if_pos rfl] at H; exact H
              clear H
              have H := H1
              clear H1
              have H' := Aside0.mk H
              clear H
              have hcz9_0 : wr.cell? ⟨gb280, 0, none⟩ = some (.int .i64 a0_0) := bc BK280.out 0
              have hcz9_1 : wr.cell? ⟨gb280, 1, none⟩ = some (.int .i64 a0_1) := bc BK280.out 1
              have hcz9_2 : wr.cell? ⟨gb280, 2, none⟩ = some (.slice A0_2 l0_2.length c0_2) := bc BK280.out 2
              have hfz9_0 := blk_frozen BK280.out 0
              have hfz9_1 := blk_frozen BK280.out 1
              have hfz9_2 := blk_frozen BK280.out 2
              have p281 : 0 ≤ (x5_1 : Int) := of_decide_eq_true Da
              have q281 : x5_1 < (l0_2.length : Int) := of_decide_eq_true Da
              obtain ⟨ad281, e281, hx281_0, hx281_1, hx281_2, hx281_3, hx281_4, hx281_5, hx281_6⟩ := at_T34 HR0_2.out x5_1 p281 q281
              (try rw [← Nbq7.out] at hx281_4); (try rw [← Nbq7.out] at hw281_4)
              (try rw [← Nbq7.out] at hx281_6); (try rw [← Nbq7.out] at hw281_6)
              cases e281
              replace hx281_0 := bz HB.out hx281_0
              replace hx281_1 := bz HB.out hx281_1
              replace hx281_2 := bz HB.out hx281_2
              replace hx281_3 := bz HB.out hx281_3
              replace hx281_4 := bz HB.out hx281_4
              replace hx281_5 := bz HB.out hx281_5
              replace hx281_6 := bz HB.out hx281_6
              replace p281 := eq_true p281
              replace q281 := eq_true q281
              have p282 : 0 ≤ (x5_1 : Int) := of_decide_eq_true Da
              have q282 : x5_1 < (l0_2.length : Int) := of_decide_eq_true Da
              obtain ⟨ad282, e282, hx282_0, hx282_1, hx282_2, hx282_3, hx282_4, hx282_5, hx282_6⟩ := at_T34 HR0_2.out x5_1 p282 q282
              (try rw [← Nbq7.out] at hx282_4); (try rw [← Nbq7.out] at hw282_4)
              (try rw [← Nbq7.out] at hx282_6); (try rw [← Nbq7.out] at hw282_6)
              obtain rfl : ad281 = ad282 := (by injection e282)
              replace hx282_0 := bz HB.out hx282_0
              replace hx282_1 := bz HB.out hx282_1
              replace hx282_2 := bz HB.out hx282_2
              replace hx282_3 := bz HB.out hx282_3
              replace hx282_4 := bz HB.out hx282_4
              replace hx282_5 := bz HB.out hx282_5
              replace hx282_6 := bz HB.out hx282_6
              replace p282 := eq_true p282
              replace q282 := eq_true q282
              go_wp2
              go_roundg k1
              case measure => have := HK1.out; omega
              case rel => exact ⟨(wrap64 (x5_1 + 1)), (by first | rfl | (simp; done) | (simp [*]; done)), H', ⟨by have := HK1.out; omega⟩, ⟨by (with_reducible repeat (first | refine blk_drewN ?_ _ | refine blk_drew ?_ | refine blk_alloc ?_ _)); exact BK280.out⟩, ⟨By⟩⟩
            · replace c8 := Bool.eq_false_iff.mpr c8
              subst c8
              have H1 : (some x5_1) = some r := by rw [if_neg (show ¬ (false = true) by decide)] at H; exact H
              clear H
              have H := H1
              clear H1
              obtain rfl := Option.some.inj H
              have hcz10_0 : wr.cell? ⟨gb280, 0, none⟩ = some (.int .i64 a0_0) := bc BK280.out 0
              have hcz10_1 : wr.cell? ⟨gb280, 1, none⟩ = some (.int .i64 a0_1) := bc BK280.out 1
              have hcz10_2 : wr.cell? ⟨gb280, 2, none⟩ = some (.slice A0_2 l0_2.length c0_2) := bc BK280.out 2
              have hfz10_0 := blk_frozen BK280.out 0
              have hfz10_1 := blk_frozen BK280.out 1
              have hfz10_2 := blk_frozen BK280.out 2
              have p281 : 0 ≤ (x5_1 : Int) := of_decide_eq_true Da
              have q281 : x5_1 < (l0_2.length : Int) := of_decide_eq_true Da
              obtain ⟨ad281, e281, hx281_0, hx281_1, hx281_2, hx281_3, hx281_4, hx281_5, hx281_6⟩ := at_T34 HR0_2.out x5_1 p281 q281
              (try rw [← Nbq7.out] at hx281_4); (try rw [← Nbq7.out] at hw281_4)
              (try rw [← Nbq7.out] at hx281_6); (try rw [← Nbq7.out] at hw281_6)
              cases e281
              replace hx281_0 := bz HB.out hx281_0
              replace hx281_1 := bz HB.out hx281_1
              replace hx281_2 := bz HB.out hx281_2
              replace hx281_3 := bz HB.out hx281_3
              replace hx281_4 := bz HB.out hx281_4
              replace hx281_5 := bz HB.out hx281_5
              replace hx281_6 := bz HB.out hx281_6
              replace p281 := eq_true p281
              replace q281 := eq_true q281
              have p282 : 0 ≤ (x5_1 : Int) := of_decide_eq_true Da
              have q282 : x5_1 < (l0_2.length : Int) := of_decide_eq_true Da
              obtain ⟨ad282, e282, hx282_0, hx282_1, hx282_2, hx282_3, hx282_4, hx282_5, hx282_6⟩ := at_T34 HR0_2.out x5_1 p282 q282
              (try rw [← Nbq7.out] at hx282_4); (try rw [← Nbq7.out] at hw282_4)
              (try rw [← Nbq7.out] at hx282_6); (try rw [← Nbq7.out] at hw282_6)
              obtain rfl : ad281 = ad282 := (by injection e282)
              replace hx282_0 := bz HB.out hx282_0
              replace hx282_1 := bz HB.out hx282_1
              replace hx282_2 := bz HB.out hx282_2
              replace hx282_3 := bz HB.out hx282_3
              replace hx282_4 := bz HB.out hx282_4
              replace hx282_5 := bz HB.out hx282_5
              replace hx282_6 := bz HB.out hx282_6
              replace p282 := eq_true p282
              replace q282 := eq_true q282
              go_wp2
              go_ret
              exact ⟨Rf, By⟩
          · rw [if_neg c6] at H
            have c6b0 : (((rd_T34 l0_2 x5_1).f1).toList == a1.toList) = false := beq_eq_false_iff_ne.mpr c6
            have c6b1 : (((rd_T34 l0_2 x5_1).f1).toList != a1.toList) = true := bne_iff_ne.mpr c6
            have H' := Aside0.mk H
            clear H
            have hcz11_0 : wr.cell? ⟨gb280, 0, none⟩ = some (.int .i64 a0_0) := bc BK280.out 0
            have hcz11_1 : wr.cell? ⟨gb280, 1, none⟩ = some (.int .i64 a0_1) := bc BK280.out 1
            have hcz11_2 : wr.cell? ⟨gb280, 2, none⟩ = some (.slice A0_2 l0_2.length c0_2) := bc BK280.out 2
            have hfz11_0 := blk_frozen BK280.out 0
            have hfz11_1 := blk_frozen BK280.out 1
            have hfz11_2 := blk_frozen BK280.out 2
            have p281 : 0 ≤ (x5_1 : Int) := of_decide_eq_true Da
            have q281 : x5_1 < (l0_2.length : Int) := of_decide_eq_true Da
            obtain ⟨ad281, e281, hx281_0, hx281_1, hx281_2, hx281_3, hx281_4, hx281_5, hx281_6⟩ := at_T34 HR0_2.out x5_1 p281 q281
            cases e281
            replace hx281_0 := bz HB.out hx281_0
            replace hx281_1 := bz HB.out hx281_1
            replace hx281_2 := bz HB.out hx281_2
            replace hx281_3 := bz HB.out hx281_3
            replace hx281_4 := bz HB.out hx281_4
            replace hx281_5 := bz HB.out hx281_5
            replace hx281_6 := bz HB.out hx281_6
            replace p281 := eq_true p281
            replace q281 := eq_true q281
            go_wp2
            go_roundg k1
            case measure => have := HK1.out; omega
            case rel => exact ⟨(wrap64 (x5_1 + 1)), (by first | rfl | (simp; done) | (simp [*]; done)), H', ⟨by have := HK1.out; omega⟩, ⟨by (with_reducible repeat (first | refine blk_drewN ?_ _ | refine blk_drew ?_ | refine blk_alloc ?_ _)); exact BK280.out⟩, ⟨By⟩⟩
        · rw [if_neg c5] at H
          exact absurd H (by simp)
      · rw [if_neg c4] at H
        have c4b0 : decide (x5_1 < (l0_2.length : Int)) = false := decide_eq_false c4
        clear c4
        obtain rfl := Option.some.inj H
        have hcz12_0 : wr.cell? ⟨gb280, 0, none⟩ = some (.int .i64 a0_0) := bc BK280.out 0
        have hcz12_1 : wr.cell? ⟨gb280, 1, none⟩ = some (.int .i64 a0_1) := bc BK280.out 1
        have hcz12_2 : wr.cell? ⟨gb280, 2, none⟩ = some (.slice A0_2 l0_2.length c0_2) := bc BK280.out 2
        have hfz12_0 := blk_frozen BK280.out 0
        have hfz12_1 := blk_frozen BK280.out 1
        have hfz12_2 := blk_frozen BK280.out 2
        go_wp2
        go_ret
        exact ⟨Rf, By⟩

end Go.Proofs.YtpocoeghobdfiaaDoor.PG

-- WRITTEN BY A PROGRAM OF THIS SESSION (wip/gen/gen.py), by way of the kit's print program. Lean checks it.
namespace Go.Proofs.YtpocoeghobdfiaaDoor.PG
open Go.Proofs.YtpocoeghobdfiaaDoor.Sq Go.RowKit Go.Proofs.YtpocoeghobdfiaaDoorW.PrintWords Go.Proofs.YtpocoeghobdfiaaDoorW.PrintLast Go.Proofs.YtpocoeghobdfiaaDoorW.PrintMore
attribute [local go_sem] max2_int min2_int max_two min_two max_three min_three max_four min_four   -- for this text's walks alone
set_option linter.unusedVariables false
set_option linter.unusedSimpArgs false

/-! ### spec_RowByLogin: function 23 -/
def spec_RowByLogin.f (k : Nat) (a0_0 : Int) (a0_1 : Int) (l0_2 : List (S34)) (a1 : ByteArray) : Option (Int × ByteArray × ByteArray × ByteArray × Bool × Int × Bool) := (spec_l12Login.f k a0_0 a0_1 l0_2 a1).bind fun t285 => (if (a1.size : Int) > 8000 then (some (0, (⟨#[]⟩ : ByteArray), (⟨#[]⟩ : ByteArray), (⟨#[]⟩ : ByteArray), false, 0, false)) else (if t285 < 0 then (some (0, (⟨#[]⟩ : ByteArray), (⟨#[]⟩ : ByteArray), (⟨#[]⟩ : ByteArray), false, 0, false)) else ((spec_TableRight.f k a0_0 a0_1 l0_2).bind fun t286 => (if t286 = true then (if 0 ≤ t285 then (if t285 < (l0_2.length : Int) then (some ((rd_T34 l0_2 t285).f0, (rd_T34 l0_2 t285).f1, (rd_T34 l0_2 t285).f2, (rd_T34 l0_2 t285).f3, (rd_T34 l0_2 t285).f4, (rd_T34 l0_2 t285).f5, (rd_T34 l0_2 t285).f6)) else (none)) else (none)) else (some (0, (⟨#[]⟩ : ByteArray), (⟨#[]⟩ : ByteArray), (⟨#[]⟩ : ByteArray), false, 0, false))))))
theorem spec_RowByLogin.mono : ∀ a0 a1 a2 a3 k, LeO (spec_RowByLogin.f k a0 a1 a2 a3) (spec_RowByLogin.f (k + 1) a0 a1 a2 a3) := by
  intro a0 a1 a2 a3 k
  unfold spec_RowByLogin.f
  repeat' first
      | (with_reducible exact spec_TableRight.mono _ _ _ _)
      | (with_reducible exact spec_l12Login.mono _ _ _ _ _)
      | (with_reducible exact LeO.refl _)
      | (with_reducible exact LeO.none _)
      | (with_reducible refine LeO.ite ?_ ?_)
      | (with_reducible refine LeO.bind ?_ (fun _ => ?_))
      | exact spec_TableRight.mono _ _ _ _
      | exact spec_l12Login.mono _ _ _ _ _
      | exact LeO.none _
      | refine LeO.ite ?_ ?_
      | refine LeO.bind ?_ (fun _ => ?_)
set_option maxHeartbeats 8000000 in
set_option maxRecDepth 100000 in
theorem spec_RowByLogin.calls (k : Nat) (a0_0 : Int) (a0_1 : Int) (A0_2 : Option Addr) (c0_2 : Nat) (l0_2 : List (S34)) (a1 : ByteArray) (r1 : Int) (r2 : ByteArray) (r3 : ByteArray) (r4 : ByteArray) (r5 : Bool) (r6 : Int) (r7 : Bool) (w : World) (hr0_2 : Kd.C k34 w A0_2 l0_2.length l0_2) (hc0_2 : l0_2.length ≤ c0_2) (h : spec_RowByLogin.f k a0_0 a0_1 l0_2 a1 = some (r1, r2, r3, r4, r5, r6, r7)) :
    Calls Tryd.prog 23 #[.agg #[.int .i64 a0_0, .int .i64 a0_1, .slice A0_2 l0_2.length c0_2], .string a1] w fun e w' => e = .returned (.agg #[.int .i64 r1, .string r2, .string r3, .string r4, .bool r5, .int .i64 r6, .bool r7]) ∧ Below w.heap.size w w' := by
  have hu38 := Tryd.underlying38
  have hu34 := Tryd.underlying34
  have HR0_2 := Aside0.mk hr0_2
  have HC0_2 := Aside0.mk hc0_2
  clear hr0_2 hc0_2
  have HB := Aside0.mk (Below.refl w.heap.size w)
  have H : ((spec_l12Login.f k a0_0 a0_1 l0_2 a1).bind fun t285 => (if (a1.size : Int) > 8000 then (some (0, (⟨#[]⟩ : ByteArray), (⟨#[]⟩ : ByteArray), (⟨#[]⟩ : ByteArray), false, 0, false)) else (if t285 < 0 then (some (0, (⟨#[]⟩ : ByteArray), (⟨#[]⟩ : ByteArray), (⟨#[]⟩ : ByteArray), false, 0, false)) else ((spec_TableRight.f k a0_0 a0_1 l0_2).bind fun t286 => (if t286 = true then (if 0 ≤ t285 then (if t285 < (l0_2.length : Int) then (some ((rd_T34 l0_2 t285).f0, (rd_T34 l0_2 t285).f1, (rd_T34 l0_2 t285).f2, (rd_T34 l0_2 t285).f3, (rd_T34 l0_2 t285).f4, (rd_T34 l0_2 t285).f5, (rd_T34 l0_2 t285).f6)) else (none)) else (none)) else (some (0, (⟨#[]⟩ : ByteArray), (⟨#[]⟩ : ByteArray), (⟨#[]⟩ : ByteArray), false, 0, false))))))) = some (r1, r2, r3, r4, r5, r6, r7) := h
  clear h
  replace H := Option.bind_eq_some_iff.mp H
  obtain ⟨t285, A30, H⟩ := H
  replace H : (if (a1.size : Int) > 8000 then (some (0, (⟨#[]⟩ : ByteArray), (⟨#[]⟩ : ByteArray), (⟨#[]⟩ : ByteArray), false, 0, false)) else (if t285 < 0 then (some (0, (⟨#[]⟩ : ByteArray), (⟨#[]⟩ : ByteArray), (⟨#[]⟩ : ByteArray), false, 0, false)) else ((spec_TableRight.f k a0_0 a0_1 l0_2).bind fun t286 => (if t286 = true then (if 0 ≤ t285 then (if t285 < (l0_2.length : Int) then (some ((rd_T34 l0_2 t285).f0, (rd_T34 l0_2 t285).f1, (rd_T34 l0_2 t285).f2, (rd_T34 l0_2 t285).f3, (rd_T34 l0_2 t285).f4, (rd_T34 l0_2 t285).f5, (rd_T34 l0_2 t285).f6)) else (none)) else (none)) else (some (0, (⟨#[]⟩ : ByteArray), (⟨#[]⟩ : ByteArray), (⟨#[]⟩ : ByteArray), false, 0, false)))))) = some (r1, r2, r3, r4, r5, r6, r7) := H
  have A3 := Aside0.mk A30
  clear A30
  by_cases c4 : (a1.size : Int) > 8000
  · rw [if_pos c4] at H
    have c4b0 : decide (8000 < (a1.size : Int)) = true := decide_eq_true c4
    have c4b1 : decide (8000 < a1.size) = true := decide_eq_true (by omega)
    clear c4
    simp only [Option.some.injEq, Prod.mk.injEq] at H
    obtain ⟨rfl, rfl, rfl, rfl, rfl, rfl, rfl⟩ := H
    go_enter Tryd.func23, Tryd.ntmps23
    go_wp2_with (first | ((with_reducible refine gate_dst (N := 2) rfl ?_); refine box_event ?hg (N := 2) ?hd (cs := #[.int .i64 a0_0, .int .i64 a0_1, .slice A0_2 l0_2.length c0_2]) (t := 38) ?hr ?_; (case hd => rfl); (case hg => rfl); (case hr => first | (go_simp; done) | (go_simp; rfl)); intro gb283 hg w5 hbox hb; have n0_ := Aside0.mk (below_step By hb); have n1_ := Aside0.mk (hbox); have n2_ := Aside0.mk ((by rw [hg]; exact (below_size By) : w.heap.size ≤ gb283)); have n3_ := Aside0.mk ((by rw [hg]; exact (below_size By) : w.heap.size ≤ gb283)); clear HB; have HB := n0_; have BK283 := n1_; have GW283 := n2_; have GE283 := n3_; clear n0_ n1_ n2_ n3_; clear hb hbox hg) | ((with_reducible refine gate_dst (N := 4) rfl ?_); refine box_event ?hg (N := 4) ?hd (cs := #[.int .i64 0, .string (⟨#[]⟩ : ByteArray), .string (⟨#[]⟩ : ByteArray), .string (⟨#[]⟩ : ByteArray), .bool false, .int .i64 0, .bool false]) (t := 34) ?hr ?_; (case hd => rfl); (case hg => rfl); (case hr => first | (go_simp; done) | (go_simp; rfl)); intro gb284 hg w6 hbox hb; have n0_ := Aside0.mk (bb BK283.out hb); have n1_ := Aside0.mk (below_step By hb); have n2_ := Aside0.mk (hbox); have n3_ := Aside0.mk ((by rw [hg]; exact (below_size By) : w.heap.size ≤ gb284)); have n4_ := Aside0.mk ((by rw [hg]; exact (below_size By) : w.heap.size ≤ gb284)); have n5_ := Aside0.mk ((by rw [hg]; exact Nat.ne_of_lt (bl BK283.out) : gb283 ≠ gb284)); have n6_ := Aside0.mk ((by rw [hg]; exact Nat.ne_of_gt (bl BK283.out) : gb284 ≠ gb283)); clear BK283; clear HB; have BK283 := n0_; have HB := n1_; have BK284 := n2_; have GW284 := n3_; have GE284 := n4_; have NB283_284 := n5_; have NB284_283 := n6_; clear n0_ n1_ n2_ n3_ n4_ n5_ n6_; clear hb hbox hg; have hnb7 := NB283_284.out; have hnc7 := NB284_283.out; have ⟨hcz8_0, hcz8_1, hcz8_2⟩ := cq3 BK283.out; have ⟨hfz8_0, hfz8_1, hfz8_2⟩ := fq3 BK283.out) | ((with_reducible refine gate_callee (f := 64) rfl ?_); refine goesL_ (some 8) rfl rfl Tryd.func64 (by kernel_rfl) rfl #[.agg #[.int .i64 a0_0, .int .i64 a0_1, .slice A0_2 l0_2.length c0_2], .string a1] rfl Ag ?_; (with_reducible refine (spec_l12Login.calls k a0_0 a0_1 _ _ l0_2 a1 t285 _ ?side1 ?side2 A3.out).mono ?_); (case side1 => repeat (first | exact (Kd.C_below HR0_2.out HB.out) | (with_reducible refine Kd.C_alloc ?_ _) | (with_reducible refine Kd.C_drewN ?_ _) | (with_reducible refine Kd.C_drew ?_))); (case side2 => exact HC0_2.out); rintro e w9 ⟨rfl, hb⟩; refine ⟨_, rfl, ?_⟩; have n0_ := Aside0.mk (bb BK283.out hb); have n1_ := Aside0.mk (bb BK284.out hb); have n2_ := Aside0.mk (below_step By hb); clear BK283; clear BK284; clear HB; have BK283 := n0_; have BK284 := n1_; have HB := n2_; clear n0_ n1_ n2_; (try clear hb); (try clear hb2); (try clear hk); (try clear hi); have ⟨hcz10_0, hcz10_1, hcz10_2, hcz10_3, hcz10_4, hcz10_5, hcz10_6⟩ := cq7 BK284.out; have ⟨hfz10_0, hfz10_1, hfz10_2, hfz10_3, hfz10_4, hfz10_5, hfz10_6⟩ := fq7 BK284.out))
    refine bodyPost_ret (results_cell_row rfl _ _ gb284 34 #[.int .i64 0, .string (⟨#[]⟩ : ByteArray), .string (⟨#[]⟩ : ByteArray), .string (⟨#[]⟩ : ByteArray), .bool false, .int .i64 0, .bool false] (0, 0) _ rfl (pq7 Pk) Tryd.underlying34 rfl (by kernel_rfl)) rfl ?_
    exact ⟨Rf, By⟩
  · rw [if_neg c4] at H
    have c4b0 : decide (8000 < (a1.size : Int)) = false := decide_eq_false c4
    have c4b1 : decide (8000 < a1.size) = false := decide_eq_false (by omega)
    clear c4
    by_cases c11 : t285 < 0
    · rw [if_pos c11] at H
      have c11b0 : decide (t285 < 0) = true := decide_eq_true c11
      clear c11
      simp only [Option.some.injEq, Prod.mk.injEq] at H
      obtain ⟨rfl, rfl, rfl, rfl, rfl, rfl, rfl⟩ := H
      go_enter Tryd.func23, Tryd.ntmps23
      go_wp2_with (first | ((with_reducible refine gate_dst (N := 2) rfl ?_); refine box_event ?hg (N := 2) ?hd (cs := #[.int .i64 a0_0, .int .i64 a0_1, .slice A0_2 l0_2.length c0_2]) (t := 38) ?hr ?_; (case hd => rfl); (case hg => rfl); (case hr => first | (go_simp; done) | (go_simp; rfl)); intro gb283 hg w12 hbox hb; have n0_ := Aside0.mk (below_step By hb); have n1_ := Aside0.mk (hbox); have n2_ := Aside0.mk ((by rw [hg]; exact (below_size By) : w.heap.size ≤ gb283)); have n3_ := Aside0.mk ((by rw [hg]; exact (below_size By) : w.heap.size ≤ gb283)); clear HB; have HB := n0_; have BK283 := n1_; have GW283 := n2_; have GE283 := n3_; clear n0_ n1_ n2_ n3_; clear hb hbox hg) | ((with_reducible refine gate_dst (N := 4) rfl ?_); refine box_event ?hg (N := 4) ?hd (cs := #[.int .i64 0, .string (⟨#[]⟩ : ByteArray), .string (⟨#[]⟩ : ByteArray), .string (⟨#[]⟩ : ByteArray), .bool false, .int .i64 0, .bool false]) (t := 34) ?hr ?_; (case hd => rfl); (case hg => rfl); (case hr => first | (go_simp; done) | (go_simp; rfl)); intro gb284 hg w13 hbox hb; have n0_ := Aside0.mk (bb BK283.out hb); have n1_ := Aside0.mk (below_step By hb); have n2_ := Aside0.mk (hbox); have n3_ := Aside0.mk ((by rw [hg]; exact (below_size By) : w.heap.size ≤ gb284)); have n4_ := Aside0.mk ((by rw [hg]; exact (below_size By) : w.heap.size ≤ gb284)); have n5_ := Aside0.mk ((by rw [hg]; exact Nat.ne_of_lt (bl BK283.out) : gb283 ≠ gb284)); have n6_ := Aside0.mk ((by rw [hg]; exact Nat.ne_of_gt (bl BK283.out) : gb284 ≠ gb283)); clear BK283; clear HB; have BK283 := n0_; have HB := n1_; have BK284 := n2_; have GW284 := n3_; have GE284 := n4_; have NB283_284 := n5_; have NB284_283 := n6_; clear n0_ n1_ n2_ n3_ n4_ n5_ n6_; clear hb hbox hg; have hnb14 := NB283_284.out; have hnc14 := NB284_283.out; have ⟨hcz15_0, hcz15_1, hcz15_2⟩ := cq3 BK283.out; have ⟨hfz15_0, hfz15_1, hfz15_2⟩ := fq3 BK283.out) | ((with_reducible refine gate_callee (f := 64) rfl ?_); refine goesL_ (some 8) rfl rfl Tryd.func64 (by kernel_rfl) rfl #[.agg #[.int .i64 a0_0, .int .i64 a0_1, .slice A0_2 l0_2.length c0_2], .string a1] rfl Ag ?_; (with_reducible refine (spec_l12Login.calls k a0_0 a0_1 _ _ l0_2 a1 t285 _ ?side1 ?side2 A3.out).mono ?_); (case side1 => repeat (first | exact (Kd.C_below HR0_2.out HB.out) | (with_reducible refine Kd.C_alloc ?_ _) | (with_reducible refine Kd.C_drewN ?_ _) | (with_reducible refine Kd.C_drew ?_))); (case side2 => exact HC0_2.out); rintro e w16 ⟨rfl, hb⟩; refine ⟨_, rfl, ?_⟩; have n0_ := Aside0.mk (bb BK283.out hb); have n1_ := Aside0.mk (bb BK284.out hb); have n2_ := Aside0.mk (below_step By hb); clear BK283; clear BK284; clear HB; have BK283 := n0_; have BK284 := n1_; have HB := n2_; clear n0_ n1_ n2_; (try clear hb); (try clear hb2); (try clear hk); (try clear hi); have ⟨hcz17_0, hcz17_1, hcz17_2, hcz17_3, hcz17_4, hcz17_5, hcz17_6⟩ := cq7 BK284.out; have ⟨hfz17_0, hfz17_1, hfz17_2, hfz17_3, hfz17_4, hfz17_5, hfz17_6⟩ := fq7 BK284.out))
      refine bodyPost_ret (results_cell_row rfl _ _ gb284 34 #[.int .i64 0, .string (⟨#[]⟩ : ByteArray), .string (⟨#[]⟩ : ByteArray), .string (⟨#[]⟩ : ByteArray), .bool false, .int .i64 0, .bool false] (0, 0) _ rfl (pq7 Pk) Tryd.underlying34 rfl (by kernel_rfl)) rfl ?_
      exact ⟨Rf, By⟩
    · rw [if_neg c11] at H
      have c11b0 : decide (t285 < 0) = false := decide_eq_false c11
      clear c11
      replace H := Option.bind_eq_some_iff.mp H
      obtain ⟨t286, A180, H⟩ := H
      replace H : (if t286 = true then (if 0 ≤ t285 then (if t285 < (l0_2.length : Int) then (some ((rd_T34 l0_2 t285).f0, (rd_T34 l0_2 t285).f1, (rd_T34 l0_2 t285).f2, (rd_T34 l0_2 t285).f3, (rd_T34 l0_2 t285).f4, (rd_T34 l0_2 t285).f5, (rd_T34 l0_2 t285).f6)) else (none)) else (none)) else (some (0, (⟨#[]⟩ : ByteArray), (⟨#[]⟩ : ByteArray), (⟨#[]⟩ : ByteArray), false, 0, false))) = some (r1, r2, r3, r4, r5, r6, r7) := H
      have A18 := Aside0.mk A180
      clear A180
      by_cases c19 : t286 = true
      · subst c19
        have H1 : (if 0 ≤ t285 then (if t285 < (l0_2.length : Int) then (some ((rd_T34 l0_2 t285).f0, (rd_T34 l0_2 t285).f1, (rd_T34 l0_2 t285).f2, (rd_T34 l0_2 t285).f3, (rd_T34 l0_2 t285).f4, (rd_T34 l0_2 t285).f5, (rd_T34 l0_2 t285).f6)) else (none)) else (none)) = some (r1, r2, r3, r4, r5, r6, r7) := by rw [if_pos rfl] at H; exact H
        clear H
        have H := H1
        clear H1
        by_cases c20 : 0 ≤ t285
        · rw [if_pos c20] at H
          have c20b0 : decide (0 ≤ t285) = true := decide_eq_true c20
          clear c20
          by_cases c21 : t285 < (l0_2.length : Int)
          · rw [if_pos c21] at H
            have c21b0 : decide (t285 < (l0_2.length : Int)) = true := decide_eq_true c21
            clear c21
            simp only [Option.some.injEq, Prod.mk.injEq] at H
            obtain ⟨rfl, rfl, rfl, rfl, rfl, rfl, rfl⟩ := H
            go_enter Tryd.func23, Tryd.ntmps23
            go_wp2_with (first | ((with_reducible refine gate_dst (N := 2) rfl ?_); refine box_event ?hg (N := 2) ?hd (cs := #[.int .i64 a0_0, .int .i64 a0_1, .slice A0_2 l0_2.length c0_2]) (t := 38) ?hr ?_; (case hd => rfl); (case hg => rfl); (case hr => first | (go_simp; done) | (go_simp; rfl)); intro gb283 hg w22 hbox hb; have n0_ := Aside0.mk (below_step By hb); have n1_ := Aside0.mk (hbox); have n2_ := Aside0.mk ((by rw [hg]; exact (below_size By) : w.heap.size ≤ gb283)); have n3_ := Aside0.mk ((by rw [hg]; exact (below_size By) : w.heap.size ≤ gb283)); clear HB; have HB := n0_; have BK283 := n1_; have GW283 := n2_; have GE283 := n3_; clear n0_ n1_ n2_ n3_; clear hb hbox hg) | ((with_reducible refine gate_dst (N := 4) rfl ?_); refine box_event ?hg (N := 4) ?hd (cs := #[.int .i64 0, .string (⟨#[]⟩ : ByteArray), .string (⟨#[]⟩ : ByteArray), .string (⟨#[]⟩ : ByteArray), .bool false, .int .i64 0, .bool false]) (t := 34) ?hr ?_; (case hd => rfl); (case hg => rfl); (case hr => first | (go_simp; done) | (go_simp; rfl)); intro gb284 hg w23 hbox hb; have n0_ := Aside0.mk (bb BK283.out hb); have n1_ := Aside0.mk (below_step By hb); have n2_ := Aside0.mk (hbox); have n3_ := Aside0.mk ((by rw [hg]; exact (below_size By) : w.heap.size ≤ gb284)); have n4_ := Aside0.mk ((by rw [hg]; exact (below_size By) : w.heap.size ≤ gb284)); have n5_ := Aside0.mk ((by rw [hg]; exact Nat.ne_of_lt (bl BK283.out) : gb283 ≠ gb284)); have n6_ := Aside0.mk ((by rw [hg]; exact Nat.ne_of_gt (bl BK283.out) : gb284 ≠ gb283)); clear BK283; clear HB; have BK283 := n0_; have HB := n1_; have BK284 := n2_; have GW284 := n3_; have GE284 := n4_; have NB283_284 := n5_; have NB284_283 := n6_; clear n0_ n1_ n2_ n3_ n4_ n5_ n6_; clear hb hbox hg; have hnb24 := NB283_284.out; have hnc24 := NB284_283.out; have ⟨hcz25_0, hcz25_1, hcz25_2⟩ := cq3 BK283.out; have ⟨hfz25_0, hfz25_1, hfz25_2⟩ := fq3 BK283.out) | ((with_reducible refine gate_callee (f := 64) rfl ?_); refine goesL_ (some 8) rfl rfl Tryd.func64 (by kernel_rfl) rfl #[.agg #[.int .i64 a0_0, .int .i64 a0_1, .slice A0_2 l0_2.length c0_2], .string a1] rfl Ag ?_; (with_reducible refine (spec_l12Login.calls k a0_0 a0_1 _ _ l0_2 a1 t285 _ ?side1 ?side2 A3.out).mono ?_); (case side1 => repeat (first | exact (Kd.C_below HR0_2.out HB.out) | (with_reducible refine Kd.C_alloc ?_ _) | (with_reducible refine Kd.C_drewN ?_ _) | (with_reducible refine Kd.C_drew ?_))); (case side2 => exact HC0_2.out); rintro e w26 ⟨rfl, hb⟩; refine ⟨_, rfl, ?_⟩; have n0_ := Aside0.mk (bb BK283.out hb); have n1_ := Aside0.mk (bb BK284.out hb); have n2_ := Aside0.mk (below_step By hb); clear BK283; clear BK284; clear HB; have BK283 := n0_; have BK284 := n1_; have HB := n2_; clear n0_ n1_ n2_; (try clear hb); (try clear hb2); (try clear hk); (try clear hi); have ⟨hcz27_0, hcz27_1, hcz27_2⟩ := cq3 BK283.out; have ⟨hfz27_0, hfz27_1, hfz27_2⟩ := fq3 BK283.out) | (go_at_call 58; (with_reducible refine (spec_TableRight.calls k a0_0 a0_1 _ _ l0_2 true _ ?side1 ?side2 A18.out).mono ?_); (case side1 => repeat (first | exact (Kd.C_below HR0_2.out HB.out) | (with_reducible refine Kd.C_alloc ?_ _) | (with_reducible refine Kd.C_drewN ?_ _) | (with_reducible refine Kd.C_drew ?_))); (case side2 => exact HC0_2.out); rintro e w28 ⟨rfl, hb⟩; have n0_ := Aside0.mk (bb BK283.out hb); have n1_ := Aside0.mk (bb BK284.out hb); have n2_ := Aside0.mk (below_step By hb); clear BK283; clear BK284; clear HB; have BK283 := n0_; have BK284 := n1_; have HB := n2_; clear n0_ n1_ n2_; (try clear hb); (try clear hb2); (try clear hk); (try clear hi); have ⟨hcz29_0, hcz29_1, hcz29_2⟩ := cq3 BK283.out; have ⟨hfz29_0, hfz29_1, hfz29_2⟩ := fq3 BK283.out; have p287 : 0 ≤ (t285 : Int) := of_decide_eq_true Da; have q287 : t285 < (l0_2.length : Int) := of_decide_eq_true Da; obtain ⟨ad287, e287, hx287_0, hx287_1, hx287_2, hx287_3, hx287_4, hx287_5, hx287_6⟩ := at_T34 HR0_2.out t285 p287 q287; cases e287; replace hx287_0 := bz HB.out hx287_0; replace hx287_1 := bz HB.out hx287_1; replace hx287_2 := bz HB.out hx287_2; replace hx287_3 := bz HB.out hx287_3; replace hx287_4 := bz HB.out hx287_4; replace hx287_5 := bz HB.out hx287_5; replace hx287_6 := bz HB.out hx287_6; replace p287 := eq_true p287; replace q287 := eq_true q287; have ⟨hcz30_0, hcz30_1, hcz30_2, hcz30_3, hcz30_4, hcz30_5, hcz30_6⟩ := cq7 BK284.out; have ⟨hfz30_0, hfz30_1, hfz30_2, hfz30_3, hfz30_4, hfz30_5, hfz30_6⟩ := fq7 BK284.out))
            refine bodyPost_ret (results_cell_row rfl _ _ gb284 34 #[.int .i64 ((rd_T34 l0_2 t285).f0), .string ((rd_T34 l0_2 t285).f1), .string ((rd_T34 l0_2 t285).f2), .string ((rd_T34 l0_2 t285).f3), .bool ((rd_T34 l0_2 t285).f4), .int .i64 ((rd_T34 l0_2 t285).f5), .bool ((rd_T34 l0_2 t285).f6)] (0, 0) _ rfl (pq7 Pk) Tryd.underlying34 rfl (by kernel_rfl)) rfl ?_
            exact ⟨Rf, By⟩
          · rw [if_neg c21] at H
            exact absurd H (by simp)
        · rw [if_neg c20] at H
          exact absurd H (by simp)
      · replace c19 := Bool.eq_false_iff.mpr c19
        subst c19
        have H1 : (some (0, (⟨#[]⟩ : ByteArray), (⟨#[]⟩ : ByteArray), (⟨#[]⟩ : ByteArray), false, 0, false)) = some (r1, r2, r3, r4, r5, r6, r7) := by rw [if_neg (show ¬ (false = true) by decide)] at H; exact H
        clear H
        have H := H1
        clear H1
        simp only [Option.some.injEq, Prod.mk.injEq] at H
        obtain ⟨rfl, rfl, rfl, rfl, rfl, rfl, rfl⟩ := H
        go_enter Tryd.func23, Tryd.ntmps23
        go_wp2_with (first | ((with_reducible refine gate_dst (N := 2) rfl ?_); refine box_event ?hg (N := 2) ?hd (cs := #[.int .i64 a0_0, .int .i64 a0_1, .slice A0_2 l0_2.length c0_2]) (t := 38) ?hr ?_; (case hd => rfl); (case hg => rfl); (case hr => first | (go_simp; done) | (go_simp; rfl)); intro gb283 hg w31 hbox hb; have n0_ := Aside0.mk (below_step By hb); have n1_ := Aside0.mk (hbox); have n2_ := Aside0.mk ((by rw [hg]; exact (below_size By) : w.heap.size ≤ gb283)); have n3_ := Aside0.mk ((by rw [hg]; exact (below_size By) : w.heap.size ≤ gb283)); clear HB; have HB := n0_; have BK283 := n1_; have GW283 := n2_; have GE283 := n3_; clear n0_ n1_ n2_ n3_; clear hb hbox hg) | ((with_reducible refine gate_dst (N := 4) rfl ?_); refine box_event ?hg (N := 4) ?hd (cs := #[.int .i64 0, .string (⟨#[]⟩ : ByteArray), .string (⟨#[]⟩ : ByteArray), .string (⟨#[]⟩ : ByteArray), .bool false, .int .i64 0, .bool false]) (t := 34) ?hr ?_; (case hd => rfl); (case hg => rfl); (case hr => first | (go_simp; done) | (go_simp; rfl)); intro gb284 hg w32 hbox hb; have n0_ := Aside0.mk (bb BK283.out hb); have n1_ := Aside0.mk (below_step By hb); have n2_ := Aside0.mk (hbox); have n3_ := Aside0.mk ((by rw [hg]; exact (below_size By) : w.heap.size ≤ gb284)); have n4_ := Aside0.mk ((by rw [hg]; exact (below_size By) : w.heap.size ≤ gb284)); have n5_ := Aside0.mk ((by rw [hg]; exact Nat.ne_of_lt (bl BK283.out) : gb283 ≠ gb284)); have n6_ := Aside0.mk ((by rw [hg]; exact Nat.ne_of_gt (bl BK283.out) : gb284 ≠ gb283)); clear BK283; clear HB; have BK283 := n0_; have HB := n1_; have BK284 := n2_; have GW284 := n3_; have GE284 := n4_; have NB283_284 := n5_; have NB284_283 := n6_; clear n0_ n1_ n2_ n3_ n4_ n5_ n6_; clear hb hbox hg; have hnb33 := NB283_284.out; have hnc33 := NB284_283.out; have ⟨hcz34_0, hcz34_1, hcz34_2⟩ := cq3 BK283.out; have ⟨hfz34_0, hfz34_1, hfz34_2⟩ := fq3 BK283.out) | ((with_reducible refine gate_callee (f := 64) rfl ?_); refine goesL_ (some 8) rfl rfl Tryd.func64 (by kernel_rfl) rfl #[.agg #[.int .i64 a0_0, .int .i64 a0_1, .slice A0_2 l0_2.length c0_2], .string a1] rfl Ag ?_; (with_reducible refine (spec_l12Login.calls k a0_0 a0_1 _ _ l0_2 a1 t285 _ ?side1 ?side2 A3.out).mono ?_); (case side1 => repeat (first | exact (Kd.C_below HR0_2.out HB.out) | (with_reducible refine Kd.C_alloc ?_ _) | (with_reducible refine Kd.C_drewN ?_ _) | (with_reducible refine Kd.C_drew ?_))); (case side2 => exact HC0_2.out); rintro e w35 ⟨rfl, hb⟩; refine ⟨_, rfl, ?_⟩; have n0_ := Aside0.mk (bb BK283.out hb); have n1_ := Aside0.mk (bb BK284.out hb); have n2_ := Aside0.mk (below_step By hb); clear BK283; clear BK284; clear HB; have BK283 := n0_; have BK284 := n1_; have HB := n2_; clear n0_ n1_ n2_; (try clear hb); (try clear hb2); (try clear hk); (try clear hi); have ⟨hcz36_0, hcz36_1, hcz36_2⟩ := cq3 BK283.out; have ⟨hfz36_0, hfz36_1, hfz36_2⟩ := fq3 BK283.out) | (go_at_call 58; (with_reducible refine (spec_TableRight.calls k a0_0 a0_1 _ _ l0_2 false _ ?side1 ?side2 A18.out).mono ?_); (case side1 => repeat (first | exact (Kd.C_below HR0_2.out HB.out) | (with_reducible refine Kd.C_alloc ?_ _) | (with_reducible refine Kd.C_drewN ?_ _) | (with_reducible refine Kd.C_drew ?_))); (case side2 => exact HC0_2.out); rintro e w37 ⟨rfl, hb⟩; have n0_ := Aside0.mk (bb BK283.out hb); have n1_ := Aside0.mk (bb BK284.out hb); have n2_ := Aside0.mk (below_step By hb); clear BK283; clear BK284; clear HB; have BK283 := n0_; have BK284 := n1_; have HB := n2_; clear n0_ n1_ n2_; (try clear hb); (try clear hb2); (try clear hk); (try clear hi); have ⟨hcz38_0, hcz38_1, hcz38_2, hcz38_3, hcz38_4, hcz38_5, hcz38_6⟩ := cq7 BK284.out; have ⟨hfz38_0, hfz38_1, hfz38_2, hfz38_3, hfz38_4, hfz38_5, hfz38_6⟩ := fq7 BK284.out))
        refine bodyPost_ret (results_cell_row rfl _ _ gb284 34 #[.int .i64 0, .string (⟨#[]⟩ : ByteArray), .string (⟨#[]⟩ : ByteArray), .string (⟨#[]⟩ : ByteArray), .bool false, .int .i64 0, .bool false] (0, 0) _ rfl (pq7 Pk) Tryd.underlying34 rfl (by kernel_rfl)) rfl ?_
        exact ⟨Rf, By⟩

end Go.Proofs.YtpocoeghobdfiaaDoor.PG

-- WRITTEN BY A PROGRAM OF THIS SESSION (wip/gen/gen.py), by way of the kit's print program. Lean checks it.
namespace Go.Proofs.YtpocoeghobdfiaaDoor.PG
open Go.Proofs.YtpocoeghobdfiaaDoor.Sq Go.RowKit Go.Proofs.YtpocoeghobdfiaaDoorW.PrintWords Go.Proofs.YtpocoeghobdfiaaDoorW.PrintLast Go.Proofs.YtpocoeghobdfiaaDoorW.PrintMore
attribute [local go_sem] max2_int min2_int max_two min_two max_three min_three max_four min_four   -- for this text's walks alone
set_option linter.unusedVariables false
set_option linter.unusedSimpArgs false

/-! ### impl_between: function 77 -/
def impl_between.f (a0 : Int) (a1 : Int) (a2 : Int) : Option (Bool) := if a0 ≥ a1 then (some (decide (a0 ≤ a2))) else (some false)
set_option maxHeartbeats 8000000 in
set_option maxRecDepth 100000 in
theorem impl_between.calls (a0 : Int) (a1 : Int) (a2 : Int) (r : Bool) (w : World) (h : impl_between.f a0 a1 a2 = some r) :
    Calls Tryd.prog 77 #[.int .i64 a0, .int .i64 a1, .int .i64 a2] w fun e w' => e = .returned (.bool r) ∧ Drawn0 w w' := by
  have H : (if a0 ≥ a1 then (some (decide (a0 ≤ a2))) else (some false)) = some r := h
  clear h
  by_cases c4 : a0 ≥ a1
  · rw [if_pos c4] at H
    have c4b0 : decide (a1 ≤ a0) = true := decide_eq_true c4
    clear c4
    obtain rfl := Option.some.inj H
    go_enter Tryd.func77, Tryd.ntmps77
    go_wp2
    go_ret
    exact ⟨by first | rfl | (simp; done) | (simp [*]; done), by repeat (first | exact Drawn0.refl _ | apply Drawn0.step)⟩
  · rw [if_neg c4] at H
    have c4b0 : decide (a1 ≤ a0) = false := decide_eq_false c4
    clear c4
    obtain rfl := Option.some.inj H
    go_enter Tryd.func77, Tryd.ntmps77
    go_wp2
    go_ret
    exact ⟨by first | rfl | (simp; done) | (simp [*]; done), by repeat (first | exact Drawn0.refl _ | apply Drawn0.step)⟩

end Go.Proofs.YtpocoeghobdfiaaDoor.PG

-- WRITTEN BY A PROGRAM OF THIS SESSION (wip/gen/gen.py), by way of the kit's print program. Lean checks it.
namespace Go.Proofs.YtpocoeghobdfiaaDoor.PG
open Go.Proofs.YtpocoeghobdfiaaDoor.Sq Go.RowKit Go.Proofs.YtpocoeghobdfiaaDoorW.PrintWords Go.Proofs.YtpocoeghobdfiaaDoorW.PrintLast Go.Proofs.YtpocoeghobdfiaaDoorW.PrintMore
attribute [local go_sem] max2_int min2_int max_two min_two max_three min_three max_four min_four   -- for this text's walks alone
set_option linter.unusedVariables false
set_option linter.unusedSimpArgs false

/-! ### impl_isPrintable: function 130 -/
def impl_isPrintable.l0 : Nat → ByteArray → Int → Int → Option (Bool)
  | 0, _, _, _ => none
  | k + 1, x0, x5, x6 => if x6 < x5 then (if 0 ≤ x6 then (if x6 < (x0.size : Int) then (if (bt x0 x6) < 32 then (some false) else (if (bt x0 x6) > 126 then (some false) else (impl_isPrintable.l0 k x0 x5 (wrap64 (x6 + 1))))) else (none)) else (none)) else (some true)
def impl_isPrintable.f (k : Nat) (a0 : ByteArray) : Option (Bool) := impl_isPrintable.l0 k a0 (a0.size : Int) 0
theorem impl_isPrintable.mono_l : ∀ k, (∀ y0 y1 y2, LeO (impl_isPrintable.l0 k y0 y1 y2) (impl_isPrintable.l0 (k + 1) y0 y1 y2))
  | 0 => fun _ _ _ r h => by simp [impl_isPrintable.l0] at h
  | k + 1 => by
    have ih0 := impl_isPrintable.mono_l k
    · intro y0 y1 y2
      unfold impl_isPrintable.l0
      repeat' first
      | (with_reducible exact ih0 _ _ _)
      | (with_reducible exact LeO.refl _)
      | (with_reducible exact LeO.none _)
      | (with_reducible refine LeO.ite ?_ ?_)
      | (with_reducible refine LeO.bind ?_ (fun _ => ?_))
      | exact ih0 _ _ _
      | exact LeO.none _
      | refine LeO.ite ?_ ?_
      | refine LeO.bind ?_ (fun _ => ?_)
theorem impl_isPrintable.mono : ∀ a0 k, LeO (impl_isPrintable.f k a0) (impl_isPrintable.f (k + 1) a0) := by
  intro a0 k
  have ih0 := impl_isPrintable.mono_l k
  unfold impl_isPrintable.f
  repeat' first
      | (with_reducible exact ih0 _ _ _)
      | (with_reducible exact LeO.refl _)
      | (with_reducible exact LeO.none _)
      | (with_reducible refine LeO.ite ?_ ?_)
      | (with_reducible refine LeO.bind ?_ (fun _ => ?_))
      | exact ih0 _ _ _
      | exact LeO.none _
      | refine LeO.ite ?_ ?_
      | refine LeO.bind ?_ (fun _ => ?_)
set_option maxHeartbeats 8000000 in
set_option maxRecDepth 100000 in
theorem impl_isPrintable.calls (k : Nat) (a0 : ByteArray) (r : Bool) (w : World) (h : impl_isPrintable.f k a0 = some r) :
    Calls Tryd.prog 130 #[.string a0] w fun e w' => e = .returned (.bool r) ∧ Drawn0 w w' := by
  have H : (impl_isPrintable.l0 k a0 (a0.size : Int) 0) = some r := h
  clear h
  have H' := Aside0.mk H
  clear H
  go_enter Tryd.func130, Tryd.ntmps130
  go_wp2
  go_loopg [6] k (fun kq v6 w' => ∃ (x6_1 : Int), v6 = .int .i64 x6_1 ∧ Aside0 (impl_isPrintable.l0 kq a0 (a0.size : Int) x6_1 = some r) ∧ Aside0 (kq ≤ k) ∧ Drawn0 w w')
  case atStart => exact ⟨(0), (by first | rfl | (simp; done) | (simp [*]; done)), H', ⟨Nat.le_refl _⟩, by repeat (first | exact Drawn0.refl _ | apply Drawn0.step)⟩
  case round =>
    clear H'
    try clear c1
    obtain ⟨x6_1, rfl, HA, HK1, ⟨m1, rfl⟩⟩ := hrel
    cases gk with
    | zero => exact absurd HA.out (by simp [impl_isPrintable.l0])
    | succ k1 =>
      have H := HA.out
      clear HA
      simp only [impl_isPrintable.l0] at H
      by_cases c2 : x6_1 < (a0.size : Int)
      · rw [if_pos c2] at H
        have c2b0 : decide (x6_1 < (a0.size : Int)) = true := decide_eq_true c2
        clear c2
        by_cases c3 : 0 ≤ x6_1
        · rw [if_pos c3] at H
          have c3b0 : decide (0 ≤ x6_1) = true := decide_eq_true c3
          clear c3
          by_cases c4 : x6_1 < (a0.size : Int)
          · rw [if_pos c4] at H
            have c4b0 : decide (x6_1 < (a0.size : Int)) = true := decide_eq_true c4
            clear c4
            by_cases c6 : (bt a0 x6_1) < 32
            · rw [if_pos c6] at H
              have c6b0 : decide ((bt a0 x6_1) < 32) = true := decide_eq_true c6
              clear c6
              obtain rfl := Option.some.inj H
              have p5 : 0 ≤ (x6_1 : Int) := of_decide_eq_true Da
              have q5 : x6_1 < (a0.size : Int) := of_decide_eq_true Da
              have hx5 := bt_at a0 x6_1
              replace p5 := eq_true p5
              replace q5 := eq_true q5
              go_wp2
              go_ret
              exact ⟨by first | rfl | (simp; done) | (simp [*]; done), by repeat (first | exact Drawn0.refl _ | apply Drawn0.step)⟩
            · rw [if_neg c6] at H
              have c6b0 : decide ((bt a0 x6_1) < 32) = false := decide_eq_false c6
              clear c6
              by_cases c8 : (bt a0 x6_1) > 126
              · rw [if_pos c8] at H
                have c8b0 : decide (126 < (bt a0 x6_1)) = true := decide_eq_true c8
                clear c8
                obtain rfl := Option.some.inj H
                have p5 : 0 ≤ (x6_1 : Int) := of_decide_eq_true Da
                have q5 : x6_1 < (a0.size : Int) := of_decide_eq_true Da
                have hx5 := bt_at a0 x6_1
                replace p5 := eq_true p5
                replace q5 := eq_true q5
                have p7 : 0 ≤ (x6_1 : Int) := of_decide_eq_true Da
                have q7 : x6_1 < (a0.size : Int) := of_decide_eq_true Da
                have hx7 := bt_at a0 x6_1
                replace p7 := eq_true p7
                replace q7 := eq_true q7
                go_wp2
                go_ret
                exact ⟨by first | rfl | (simp; done) | (simp [*]; done), by repeat (first | exact Drawn0.refl _ | apply Drawn0.step)⟩
              · rw [if_neg c8] at H
                have c8b0 : decide (126 < (bt a0 x6_1)) = false := decide_eq_false c8
                clear c8
                have H' := Aside0.mk H
                clear H
                have p5 : 0 ≤ (x6_1 : Int) := of_decide_eq_true Da
                have q5 : x6_1 < (a0.size : Int) := of_decide_eq_true Da
                have hx5 := bt_at a0 x6_1
                replace p5 := eq_true p5
                replace q5 := eq_true q5
                have p7 : 0 ≤ (x6_1 : Int) := of_decide_eq_true Da
                have q7 : x6_1 < (a0.size : Int) := of_decide_eq_true Da
                have hx7 := bt_at a0 x6_1
                replace p7 := eq_true p7
                replace q7 := eq_true q7
                go_wp2
                go_roundg k1
                case measure => have := HK1.out; omega
                case rel => exact ⟨(wrap64 (x6_1 + 1)), (by first | rfl | (simp; done) | (simp [*]; done)), H', ⟨by have := HK1.out; omega⟩, by repeat (first | exact Drawn0.refl _ | apply Drawn0.step)⟩
          · rw [if_neg c4] at H
            exact absurd H (by simp)
        · rw [if_neg c3] at H
          exact absurd H (by simp)
      · rw [if_neg c2] at H
        have c2b0 : decide (x6_1 < (a0.size : Int)) = false := decide_eq_false c2
        clear c2
        obtain rfl := Option.some.inj H
        go_wp2
        go_ret
        exact ⟨by first | rfl | (simp; done) | (simp [*]; done), by repeat (first | exact Drawn0.refl _ | apply Drawn0.step)⟩

end Go.Proofs.YtpocoeghobdfiaaDoor.PG

-- WRITTEN BY A PROGRAM OF THIS SESSION (wip/gen/gen.py), by way of the kit's print program. Lean checks it.
namespace Go.Proofs.YtpocoeghobdfiaaDoor.PG
open Go.Proofs.YtpocoeghobdfiaaDoor.Sq Go.RowKit Go.Proofs.YtpocoeghobdfiaaDoorW.PrintWords Go.Proofs.YtpocoeghobdfiaaDoorW.PrintLast Go.Proofs.YtpocoeghobdfiaaDoorW.PrintMore
attribute [local go_sem] max2_int min2_int max_two min_two max_three min_three max_four min_four   -- for this text's walks alone
set_option linter.unusedVariables false
set_option linter.unusedSimpArgs false

/-! ### stringslite_HasSuffix: function 169 -/
def stringslite_HasSuffix.f (a0 : ByteArray) (a1 : ByteArray) : Option (Bool) := if (a0.size : Int) ≥ (a1.size : Int) then (if 0 ≤ (wrap64 ((a0.size : Int) - (a1.size : Int))) then (if (wrap64 ((a0.size : Int) - (a1.size : Int))) ≤ (a0.size : Int) then (some ((a0.extract ((wrap64 ((a0.size : Int) - (a1.size : Int))) : Int).toNat a0.size).toList == a1.toList)) else (none)) else (none)) else (some false)
set_option maxHeartbeats 8000000 in
set_option maxRecDepth 100000 in
theorem stringslite_HasSuffix.calls (a0 : ByteArray) (a1 : ByteArray) (r : Bool) (w : World) (h : stringslite_HasSuffix.f a0 a1 = some r) :
    Calls Tryd.prog 169 #[.string a0, .string a1] w fun e w' => e = .returned (.bool r) ∧ Drawn0 w w' := by
  have H : (if (a0.size : Int) ≥ (a1.size : Int) then (if 0 ≤ (wrap64 ((a0.size : Int) - (a1.size : Int))) then (if (wrap64 ((a0.size : Int) - (a1.size : Int))) ≤ (a0.size : Int) then (some ((a0.extract ((wrap64 ((a0.size : Int) - (a1.size : Int))) : Int).toNat a0.size).toList == a1.toList)) else (none)) else (none)) else (some false)) = some r := h
  clear h
  by_cases c3 : (a0.size : Int) ≥ (a1.size : Int)
  · rw [if_pos c3] at H
    have c3b0 : decide ((a1.size : Int) ≤ (a0.size : Int)) = true := decide_eq_true c3
    have c3b1 : decide (a1.size ≤ a0.size) = true := decide_eq_true (Int.ofNat_le.mp c3)
    clear c3
    obtain ⟨ji4, hji4⟩ : ∃ j_ : Int, (wrap64 ((a0.size : Int) - (a1.size : Int))) = j_ := ⟨_, rfl⟩
    replace H : (if 0 ≤ (ji4) then (if (ji4) ≤ (a0.size : Int) then (some ((a0.extract ((ji4) : Int).toNat a0.size).toList == a1.toList)) else (none)) else (none)) = some r := by first | (rw [hji4] at H; exact H) | (simp only [hji4] at H ⊢; exact H)
    have hji4w : (IntKind.i64.wrap ((a0.size : Int) - (a1.size : Int))) = ji4 := (i64_w _).trans hji4
    by_cases c5 : 0 ≤ (ji4)
    · rw [if_pos c5] at H
      have c5b0 := eq_true c5
      have c5b1 : decide (0 ≤ (ji4)) = true := decide_eq_true c5
      clear c5
      by_cases c6 : (ji4) ≤ (a0.size : Int)
      · rw [if_pos c6] at H
        have c6b0 := eq_true c6
        have c6b1 : decide ((ji4) ≤ (a0.size : Int)) = true := decide_eq_true c6
        clear c6
        obtain rfl := Option.some.inj H
        go_enter Tryd.func169, Tryd.ntmps169
        go_wp2
        go_ret
        exact ⟨by first | rfl | (simp; done) | (simp only [← hji4] <;> (first | rfl | simp)) | (simp [*]; done), by repeat (first | exact Drawn0.refl _ | apply Drawn0.step)⟩
      · rw [if_neg c6] at H
        exact absurd H (by simp)
    · rw [if_neg c5] at H
      exact absurd H (by simp)
  · rw [if_neg c3] at H
    have c3b0 : decide ((a1.size : Int) ≤ (a0.size : Int)) = false := decide_eq_false c3
    have c3b1 : decide (a1.size ≤ a0.size) = false := decide_eq_false (fun h => c3 (Int.ofNat_le.mpr h))
    clear c3
    obtain rfl := Option.some.inj H
    go_enter Tryd.func169, Tryd.ntmps169
    go_wp2
    go_ret
    exact ⟨by first | rfl | (simp; done) | (simp [*]; done), by repeat (first | exact Drawn0.refl _ | apply Drawn0.step)⟩

end Go.Proofs.YtpocoeghobdfiaaDoor.PG

-- WRITTEN BY A PROGRAM OF THIS SESSION (wip/gen/gen.py), by way of the kit's print program. Lean checks it.
namespace Go.Proofs.YtpocoeghobdfiaaDoor.PG
open Go.Proofs.YtpocoeghobdfiaaDoor.Sq Go.RowKit Go.Proofs.YtpocoeghobdfiaaDoorW.PrintWords Go.Proofs.YtpocoeghobdfiaaDoorW.PrintLast Go.Proofs.YtpocoeghobdfiaaDoorW.PrintMore
attribute [local go_sem] max2_int min2_int max_two min_two max_three min_three max_four min_four   -- for this text's walks alone
set_option linter.unusedVariables false
set_option linter.unusedSimpArgs false

/-! ### stringslite_TrimSuffix: function 158 -/
def stringslite_TrimSuffix.f (a0 : ByteArray) (a1 : ByteArray) : Option (ByteArray) := (stringslite_HasSuffix.f a0 a1).bind fun t351 => (if t351 = true then (if 0 ≤ (wrap64 ((a0.size : Int) - (a1.size : Int))) then (if (wrap64 ((a0.size : Int) - (a1.size : Int))) ≤ (a0.size : Int) then (some (a0.extract 0 ((wrap64 ((a0.size : Int) - (a1.size : Int))) : Int).toNat)) else (none)) else (none)) else (some a0))
set_option maxHeartbeats 8000000 in
set_option maxRecDepth 100000 in
theorem stringslite_TrimSuffix.calls (a0 : ByteArray) (a1 : ByteArray) (r : ByteArray) (w : World) (h : stringslite_TrimSuffix.f a0 a1 = some r) :
    Calls Tryd.prog 158 #[.string a0, .string a1] w fun e w' => e = .returned (.string r) ∧ Drawn0 w w' := by
  have H : ((stringslite_HasSuffix.f a0 a1).bind fun t351 => (if t351 = true then (if 0 ≤ (wrap64 ((a0.size : Int) - (a1.size : Int))) then (if (wrap64 ((a0.size : Int) - (a1.size : Int))) ≤ (a0.size : Int) then (some (a0.extract 0 ((wrap64 ((a0.size : Int) - (a1.size : Int))) : Int).toNat)) else (none)) else (none)) else (some a0))) = some r := h
  clear h
  replace H := Option.bind_eq_some_iff.mp H
  obtain ⟨t351, A30, H⟩ := H
  replace H : (if t351 = true then (if 0 ≤ (wrap64 ((a0.size : Int) - (a1.size : Int))) then (if (wrap64 ((a0.size : Int) - (a1.size : Int))) ≤ (a0.size : Int) then (some (a0.extract 0 ((wrap64 ((a0.size : Int) - (a1.size : Int))) : Int).toNat)) else (none)) else (none)) else (some a0)) = some r := H
  have A3 := Aside0.mk A30
  clear A30
  by_cases c4 : t351 = true
  · subst c4
    have H1 : (if 0 ≤ (wrap64 ((a0.size : Int) - (a1.size : Int))) then (if (wrap64 ((a0.size : Int) - (a1.size : Int))) ≤ (a0.size : Int) then (some (a0.extract 0 ((wrap64 ((a0.size : Int) - (a1.size : Int))) : Int).toNat)) else (none)) else (none)) = some r := by rw [if_pos rfl] at H; exact H
    clear H
    have H := H1
    clear H1
    obtain ⟨ji5, hji5⟩ : ∃ j_ : Int, (wrap64 ((a0.size : Int) - (a1.size : Int))) = j_ := ⟨_, rfl⟩
    replace H : (if 0 ≤ (ji5) then (if (ji5) ≤ (a0.size : Int) then (some (a0.extract 0 ((ji5) : Int).toNat)) else (none)) else (none)) = some r := by first | (rw [hji5] at H; exact H) | (simp only [hji5] at H ⊢; exact H)
    (try rw [hji5] at A3)
    have hji5w : (IntKind.i64.wrap ((a0.size : Int) - (a1.size : Int))) = ji5 := (i64_w _).trans hji5
    by_cases c6 : 0 ≤ (ji5)
    · rw [if_pos c6] at H
      have c6b0 := eq_true c6
      have c6b1 : decide (0 ≤ (ji5)) = true := decide_eq_true c6
      clear c6
      by_cases c7 : (ji5) ≤ (a0.size : Int)
      · rw [if_pos c7] at H
        have c7b0 := eq_true c7
        have c7b1 : decide ((ji5) ≤ (a0.size : Int)) = true := decide_eq_true c7
        clear c7
        obtain rfl := Option.some.inj H
        go_enter Tryd.func158, Tryd.ntmps158
        go_wp2_with (first | ((with_reducible refine gate_callee (f := 169) rfl ?_); refine goesL_ (some 7) rfl rfl Tryd.func169 (by kernel_rfl) rfl #[.string a0, .string a1] rfl Ag ?_; (with_reducible refine (stringslite_HasSuffix.calls a0 a1 true _ A3.out).mono ?_); rintro e w' ⟨rfl, ⟨nd, rfl⟩⟩; refine ⟨_, rfl, ?_⟩))
        go_ret
        exact ⟨by first | rfl | (simp; done) | (simp only [← hji5] <;> (first | rfl | simp)) | (simp [*]; done), by repeat (first | exact Drawn0.refl _ | apply Drawn0.step)⟩
      · rw [if_neg c7] at H
        exact absurd H (by simp)
    · rw [if_neg c6] at H
      exact absurd H (by simp)
  · replace c4 := Bool.eq_false_iff.mpr c4
    subst c4
    have H1 : (some a0) = some r := by rw [if_neg (show ¬ (false = true) by decide)] at H; exact H
    clear H
    have H := H1
    clear H1
    obtain rfl := Option.some.inj H
    go_enter Tryd.func158, Tryd.ntmps158
    go_wp2_with (first | ((with_reducible refine gate_callee (f := 169) rfl ?_); refine goesL_ (some 7) rfl rfl Tryd.func169 (by kernel_rfl) rfl #[.string a0, .string a1] rfl Ag ?_; (with_reducible refine (stringslite_HasSuffix.calls a0 a1 false _ A3.out).mono ?_); rintro e w' ⟨rfl, ⟨nd, rfl⟩⟩; refine ⟨_, rfl, ?_⟩))
    go_ret
    exact ⟨by first | rfl | (simp; done) | (simp [*]; done), by repeat (first | exact Drawn0.refl _ | apply Drawn0.step)⟩

end Go.Proofs.YtpocoeghobdfiaaDoor.PG

-- WRITTEN BY A PROGRAM OF THIS SESSION (wip/gen/gen.py), by way of the kit's print program. Lean checks it.
namespace Go.Proofs.YtpocoeghobdfiaaDoor.PG
open Go.Proofs.YtpocoeghobdfiaaDoor.Sq Go.RowKit Go.Proofs.YtpocoeghobdfiaaDoorW.PrintWords Go.Proofs.YtpocoeghobdfiaaDoorW.PrintLast Go.Proofs.YtpocoeghobdfiaaDoorW.PrintMore
attribute [local go_sem] max2_int min2_int max_two min_two max_three min_three max_four min_four   -- for this text's walks alone
set_option linter.unusedVariables false
set_option linter.unusedSimpArgs false

/-! ### strings_TrimSuffix: function 131 -/
def strings_TrimSuffix.f (a0 : ByteArray) (a1 : ByteArray) : Option (ByteArray) := (stringslite_TrimSuffix.f a0 a1).bind fun t352 => (some t352)
set_option maxHeartbeats 8000000 in
set_option maxRecDepth 100000 in
theorem strings_TrimSuffix.calls (a0 : ByteArray) (a1 : ByteArray) (r : ByteArray) (w : World) (h : strings_TrimSuffix.f a0 a1 = some r) :
    Calls Tryd.prog 131 #[.string a0, .string a1] w fun e w' => e = .returned (.string r) ∧ Drawn0 w w' := by
  have H : ((stringslite_TrimSuffix.f a0 a1).bind fun t352 => (some t352)) = some r := h
  clear h
  replace H := Option.bind_eq_some_iff.mp H
  obtain ⟨t352, A30, H⟩ := H
  replace H : (some t352) = some r := H
  have A3 := Aside0.mk A30
  clear A30
  obtain rfl := Option.some.inj H
  go_enter Tryd.func131, Tryd.ntmps131
  go_wp2_with (first | ((with_reducible refine gate_callee (f := 158) rfl ?_); refine goesL_ (some 7) rfl rfl Tryd.func158 (by kernel_rfl) rfl #[.string a0, .string a1] rfl Ag ?_; (with_reducible refine (stringslite_TrimSuffix.calls a0 a1 t352 _ A3.out).mono ?_); rintro e w' ⟨rfl, ⟨nd, rfl⟩⟩; refine ⟨_, rfl, ?_⟩))
  go_ret
  exact ⟨by first | rfl | (simp; done) | (simp [*]; done), by repeat (first | exact Drawn0.refl _ | apply Drawn0.step)⟩

end Go.Proofs.YtpocoeghobdfiaaDoor.PG
