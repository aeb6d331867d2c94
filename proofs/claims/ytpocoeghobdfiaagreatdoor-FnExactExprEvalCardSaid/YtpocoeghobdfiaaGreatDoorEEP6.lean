/-
  Functions that the law reaches, each as a plain Lean function, with the proof that the call comes to it (written by a program of this session by way of the kit's print program). Conditions: what each contract states.
-/
import Derived.Test.YtpocoeghobdfiaaGreatDoorEEP1
import Derived.Test.YtpocoeghobdfiaaGreatDoorEEP2
import Derived.Test.YtpocoeghobdfiaaGreatDoorEEExprEval
import Derived.Test.YtpocoeghobdfiaaGreatDoorEESpecEval
import Derived.Test.YtpocoeghobdfiaaGreatDoorEESq
namespace Go.Proofs.YtpocoeghobdfiaaGreatDoor.PG
open Go.Proofs.YtpocoeghobdfiaaGreatDoor.Sq Go.RowKit Go.Proofs.YtpocoeghobdfiaaGreatDoorW.PrintWords Go.Proofs.YtpocoeghobdfiaaGreatDoorW.PrintLast Go.Proofs.YtpocoeghobdfiaaGreatDoorW.PrintMore
attribute [local go_sem] max2_int min2_int max_two min_two max_three min_three max_four min_four   -- for this text's walks alone
set_option linter.unusedVariables false
set_option linter.unusedSimpArgs false

/-! ### laws_FnExactExprEval: function 3 -/
noncomputable def laws_FnExactExprEval.f (k : Nat) (l0 : List (S63)) (l1_0 : List (S102)) (l1_1 : List (S105)) : Option (Bool) := (laws_szPartS.f k l0 1048576).bind fun t190 => (if t190 < 0 then (some true) else ((laws_szEntry.f k l1_0 l1_1 t190).bind fun t191 => (if t191 < 0 then (some true) else ((laws_toPartS.f k l0).bind fun t192 => ((laws_toEntry.f k l1_0 l1_1).bind fun bt195 => ((spec_ExprEval.f t192 bt195.1 bt195.2).bind fun bt201 => ((laws_toPartS.f k l0).bind fun t205 => ((laws_toEntry.f k l1_0 l1_1).bind fun bt208 => ((impl_ExprEval.f t205 bt208.1 bt208.2).bind fun bt215 => ((laws_eqTextOut.f bt215.1 bt215.2.1 bt215.2.2 bt201.1 bt201.2.1 bt201.2.2).bind fun t219 => (if t219 = true then ((laws_toPartS.f k l0).bind fun t220 => ((laws_eqPartS.f k t205 t220).bind fun t223 => (if t223 = true then ((laws_toEntry.f k l1_0 l1_1).bind fun bt224 => ((laws_eqEntry.f k bt208.1 bt208.2 bt224.1 bt224.2).bind fun t230 => (if t230 = true then (some true) else (some false)))) else (some false)))) else (some false))))))))))))
theorem laws_FnExactExprEval.mono : ∀ a0 a1 a2 k, LeO (laws_FnExactExprEval.f k a0 a1 a2) (laws_FnExactExprEval.f (k + 1) a0 a1 a2) := by
  intro a0 a1 a2 k
  unfold laws_FnExactExprEval.f
  repeat' first
      | (with_reducible exact laws_eqEntry.mono _ _ _ _ _)
      | (with_reducible exact laws_eqPartS.mono _ _ _)
      | (with_reducible exact laws_szEntry.mono _ _ _ _)
      | (with_reducible exact laws_szPartS.mono _ _ _)
      | (with_reducible exact laws_toEntry.mono _ _ _)
      | (with_reducible exact laws_toPartS.mono _ _)
      | (with_reducible exact LeO.refl _)
      | (with_reducible exact LeO.none _)
      | (with_reducible refine LeO.ite ?_ ?_)
      | (with_reducible refine LeO.bind ?_ (fun _ => ?_))
      | exact laws_eqEntry.mono _ _ _ _ _
      | exact laws_eqPartS.mono _ _ _
      | exact laws_szEntry.mono _ _ _ _
      | exact laws_szPartS.mono _ _ _
      | exact laws_toEntry.mono _ _ _
      | exact laws_toPartS.mono _ _
      | exact LeO.none _
      | refine LeO.ite ?_ ?_
      | refine LeO.bind ?_ (fun _ => ?_)
set_option maxHeartbeats 8000000 in
set_option maxRecDepth 100000 in
theorem laws_FnExactExprEval.calls (k : Nat) (A0 : Option Addr) (c0 : Nat) (l0 : List (S63)) (A1_0 : Option Addr) (c1_0 : Nat) (l1_0 : List (S102)) (A1_1 : Option Addr) (c1_1 : Nat) (l1_1 : List (S105)) (r : Bool) (w : World) (hr0 : Kd.C k63 w A0 l0.length l0) (hc0 : l0.length ≤ c0) (hr1_0 : Kd.C k102 w A1_0 l1_0.length l1_0) (hc1_0 : l1_0.length ≤ c1_0) (hr1_1 : Kd.C k105 w A1_1 l1_1.length l1_1) (hc1_1 : l1_1.length ≤ c1_1) (h : laws_FnExactExprEval.f k l0 l1_0 l1_1 = some r) (hrt : r = true := by rfl) :
    Calls Tryz.prog 3 #[.slice A0 l0.length c0, .agg #[.slice A1_0 l1_0.length c1_0, .slice A1_1 l1_1.length c1_1]] w fun e w' => e = .returned (.bool r) ∧ Below w.heap.size w w' := by
  have HRT := Aside0.mk hrt
  clear hrt
  have hu26 := Tryz.underlying26
  have hu30 := Tryz.underlying30
  have hu37 := Tryz.underlying37
  have HR0 := Aside0.mk hr0
  have HC0 := Aside0.mk hc0
  clear hr0 hc0
  have HR1_0 := Aside0.mk hr1_0
  have HC1_0 := Aside0.mk hc1_0
  clear hr1_0 hc1_0
  have HR1_1 := Aside0.mk hr1_1
  have HC1_1 := Aside0.mk hc1_1
  clear hr1_1 hc1_1
  have HB := Aside0.mk (Below.refl w.heap.size w)
  have H : ((laws_szPartS.f k l0 1048576).bind fun t190 => (if t190 < 0 then (some true) else ((laws_szEntry.f k l1_0 l1_1 t190).bind fun t191 => (if t191 < 0 then (some true) else ((laws_toPartS.f k l0).bind fun t192 => ((laws_toEntry.f k l1_0 l1_1).bind fun bt195 => ((spec_ExprEval.f t192 bt195.1 bt195.2).bind fun bt201 => ((laws_toPartS.f k l0).bind fun t205 => ((laws_toEntry.f k l1_0 l1_1).bind fun bt208 => ((impl_ExprEval.f t205 bt208.1 bt208.2).bind fun bt215 => ((laws_eqTextOut.f bt215.1 bt215.2.1 bt215.2.2 bt201.1 bt201.2.1 bt201.2.2).bind fun t219 => (if t219 = true then ((laws_toPartS.f k l0).bind fun t220 => ((laws_eqPartS.f k t205 t220).bind fun t223 => (if t223 = true then ((laws_toEntry.f k l1_0 l1_1).bind fun bt224 => ((laws_eqEntry.f k bt208.1 bt208.2 bt224.1 bt224.2).bind fun t230 => (if t230 = true then (some true) else (some false)))) else (some false)))) else (some false))))))))))))) = some r := h
  clear h
  replace H := Option.bind_eq_some_iff.mp H
  obtain ⟨t190, A30, H⟩ := H
  replace H : (if t190 < 0 then (some true) else ((laws_szEntry.f k l1_0 l1_1 t190).bind fun t191 => (if t191 < 0 then (some true) else ((laws_toPartS.f k l0).bind fun t192 => ((laws_toEntry.f k l1_0 l1_1).bind fun bt195 => ((spec_ExprEval.f t192 bt195.1 bt195.2).bind fun bt201 => ((laws_toPartS.f k l0).bind fun t205 => ((laws_toEntry.f k l1_0 l1_1).bind fun bt208 => ((impl_ExprEval.f t205 bt208.1 bt208.2).bind fun bt215 => ((laws_eqTextOut.f bt215.1 bt215.2.1 bt215.2.2 bt201.1 bt201.2.1 bt201.2.2).bind fun t219 => (if t219 = true then ((laws_toPartS.f k l0).bind fun t220 => ((laws_eqPartS.f k t205 t220).bind fun t223 => (if t223 = true then ((laws_toEntry.f k l1_0 l1_1).bind fun bt224 => ((laws_eqEntry.f k bt208.1 bt208.2 bt224.1 bt224.2).bind fun t230 => (if t230 = true then (some true) else (some false)))) else (some false)))) else (some false)))))))))))) = some r := H
  have A3 := Aside0.mk A30
  clear A30
  by_cases c4 : t190 < 0
  · rw [if_pos c4] at H
    have c4b0 : decide (t190 < 0) = true := decide_eq_true c4
    clear c4
    obtain rfl := Option.some.inj H
    go_enter Tryz.func3, Tryz.ntmps3
    go_wp2_with (first | ((with_reducible refine gate_dst (N := 3) rfl ?_); refine box_event ?hg (N := 3) ?hd (cs := #[.slice A1_0 l1_0.length c1_0, .slice A1_1 l1_1.length c1_1]) (t := 26) ?hr ?_; (case hd => rfl); (case hg => rfl); (case hr => first | (go_simp; done) | (go_simp; rfl)); intro gb189 hg w5 hbox hb; have n0_ := Aside0.mk (below_step By hb); have n1_ := Aside0.mk (hbox); have n2_ := Aside0.mk ((by rw [hg]; exact (below_size By) : w.heap.size ≤ gb189)); have n3_ := Aside0.mk ((by rw [hg]; exact (below_size By) : w.heap.size ≤ gb189)); clear HB; have HB := n0_; have BK189 := n1_; have GW189 := n2_; have GE189 := n3_; clear n0_ n1_ n2_ n3_; clear hb hbox hg) | ((with_reducible refine gate_callee (f := 6) rfl ?_); refine goesL_ (some 12) rfl rfl Tryz.func6 (by kernel_rfl) rfl #[.slice A0 l0.length c0, .int .i64 1048576] rfl Ag ?_; (with_reducible refine (laws_szPartS.calls k _ _ l0 1048576 t190 _ ?side1 ?side2 A3.out).mono ?_); (case side1 => exact rC (Kd.C_below HR0.out HB.out)); (case side2 => exact HC0.out); rintro e w6 ⟨rfl, hb⟩; refine ⟨_, rfl, ?_⟩; have n0_ := Aside0.mk (bb BK189.out hb); have n1_ := Aside0.mk (below_step By hb); clear BK189; clear HB; have BK189 := n0_; have HB := n1_; clear n0_ n1_; (try clear hb); (try clear hb2); (try clear hk); (try clear hi)))
    go_ret
    exact ⟨Rf, By⟩
  · rw [if_neg c4] at H
    have c4b0 : decide (t190 < 0) = false := decide_eq_false c4
    clear c4
    replace H := Option.bind_eq_some_iff.mp H
    obtain ⟨t191, A70, H⟩ := H
    replace H : (if t191 < 0 then (some true) else ((laws_toPartS.f k l0).bind fun t192 => ((laws_toEntry.f k l1_0 l1_1).bind fun bt195 => ((spec_ExprEval.f t192 bt195.1 bt195.2).bind fun bt201 => ((laws_toPartS.f k l0).bind fun t205 => ((laws_toEntry.f k l1_0 l1_1).bind fun bt208 => ((impl_ExprEval.f t205 bt208.1 bt208.2).bind fun bt215 => ((laws_eqTextOut.f bt215.1 bt215.2.1 bt215.2.2 bt201.1 bt201.2.1 bt201.2.2).bind fun t219 => (if t219 = true then ((laws_toPartS.f k l0).bind fun t220 => ((laws_eqPartS.f k t205 t220).bind fun t223 => (if t223 = true then ((laws_toEntry.f k l1_0 l1_1).bind fun bt224 => ((laws_eqEntry.f k bt208.1 bt208.2 bt224.1 bt224.2).bind fun t230 => (if t230 = true then (some true) else (some false)))) else (some false)))) else (some false)))))))))) = some r := H
    have A7 := Aside0.mk A70
    clear A70
    by_cases c8 : t191 < 0
    · rw [if_pos c8] at H
      have c8b0 : decide (t191 < 0) = true := decide_eq_true c8
      clear c8
      obtain rfl := Option.some.inj H
      go_enter Tryz.func3, Tryz.ntmps3
      go_wp2_with (first | ((with_reducible refine gate_dst (N := 3) rfl ?_); refine box_event ?hg (N := 3) ?hd (cs := #[.slice A1_0 l1_0.length c1_0, .slice A1_1 l1_1.length c1_1]) (t := 26) ?hr ?_; (case hd => rfl); (case hg => rfl); (case hr => first | (go_simp; done) | (go_simp; rfl)); intro gb189 hg w9 hbox hb; have n0_ := Aside0.mk (below_step By hb); have n1_ := Aside0.mk (hbox); have n2_ := Aside0.mk ((by rw [hg]; exact (below_size By) : w.heap.size ≤ gb189)); have n3_ := Aside0.mk ((by rw [hg]; exact (below_size By) : w.heap.size ≤ gb189)); clear HB; have HB := n0_; have BK189 := n1_; have GW189 := n2_; have GE189 := n3_; clear n0_ n1_ n2_ n3_; clear hb hbox hg) | ((with_reducible refine gate_callee (f := 6) rfl ?_); refine goesL_ (some 12) rfl rfl Tryz.func6 (by kernel_rfl) rfl #[.slice A0 l0.length c0, .int .i64 1048576] rfl Ag ?_; (with_reducible refine (laws_szPartS.calls k _ _ l0 1048576 t190 _ ?side1 ?side2 A3.out).mono ?_); (case side1 => exact rC (Kd.C_below HR0.out HB.out)); (case side2 => exact HC0.out); rintro e w10 ⟨rfl, hb⟩; refine ⟨_, rfl, ?_⟩; have n0_ := Aside0.mk (bb BK189.out hb); have n1_ := Aside0.mk (below_step By hb); clear BK189; clear HB; have BK189 := n0_; have HB := n1_; clear n0_ n1_; (try clear hb); (try clear hb2); (try clear hk); (try clear hi); have ⟨hcz11_0, hcz11_1⟩ := cq2 BK189.out; have ⟨hfz11_0, hfz11_1⟩ := fq2 BK189.out) | ((with_reducible refine gate_callee (f := 7) rfl ?_); refine goesL_ (some 17) rfl rfl Tryz.func7 (by kernel_rfl) rfl #[.agg #[.slice A1_0 l1_0.length c1_0, .slice A1_1 l1_1.length c1_1], .int .i64 t190] rfl Ag ?_; (with_reducible refine (laws_szEntry.calls k _ _ l1_0 _ _ l1_1 t190 t191 _ ?side1 ?side2 ?side3 ?side4 A7.out).mono ?_); (case side1 => exact rC (Kd.C_below HR1_0.out HB.out)); (case side2 => exact HC1_0.out); (case side3 => exact rC (Kd.C_below HR1_1.out HB.out)); (case side4 => exact HC1_1.out); rintro e w12 ⟨rfl, hb⟩; refine ⟨_, rfl, ?_⟩; have n0_ := Aside0.mk (bb BK189.out hb); have n1_ := Aside0.mk (below_step By hb); clear BK189; clear HB; have BK189 := n0_; have HB := n1_; clear n0_ n1_; (try clear hb); (try clear hb2); (try clear hk); (try clear hi)))
      go_ret
      exact ⟨Rf, By⟩
    · rw [if_neg c8] at H
      have c8b0 : decide (t191 < 0) = false := decide_eq_false c8
      clear c8
      replace H := Option.bind_eq_some_iff.mp H
      obtain ⟨t192, A130, H⟩ := H
      replace H : ((laws_toEntry.f k l1_0 l1_1).bind fun bt195 => ((spec_ExprEval.f t192 bt195.1 bt195.2).bind fun bt201 => ((laws_toPartS.f k l0).bind fun t205 => ((laws_toEntry.f k l1_0 l1_1).bind fun bt208 => ((impl_ExprEval.f t205 bt208.1 bt208.2).bind fun bt215 => ((laws_eqTextOut.f bt215.1 bt215.2.1 bt215.2.2 bt201.1 bt201.2.1 bt201.2.2).bind fun t219 => (if t219 = true then ((laws_toPartS.f k l0).bind fun t220 => ((laws_eqPartS.f k t205 t220).bind fun t223 => (if t223 = true then ((laws_toEntry.f k l1_0 l1_1).bind fun bt224 => ((laws_eqEntry.f k bt208.1 bt208.2 bt224.1 bt224.2).bind fun t230 => (if t230 = true then (some true) else (some false)))) else (some false)))) else (some false)))))))) = some r := H
      have A13 := Aside0.mk A130
      clear A130
      replace H := Option.bind_eq_some_iff.mp H
      obtain ⟨⟨t195, t198⟩, A140, H⟩ := H
      replace H : ((spec_ExprEval.f t192 t195 t198).bind fun bt201 => ((laws_toPartS.f k l0).bind fun t205 => ((laws_toEntry.f k l1_0 l1_1).bind fun bt208 => ((impl_ExprEval.f t205 bt208.1 bt208.2).bind fun bt215 => ((laws_eqTextOut.f bt215.1 bt215.2.1 bt215.2.2 bt201.1 bt201.2.1 bt201.2.2).bind fun t219 => (if t219 = true then ((laws_toPartS.f k l0).bind fun t220 => ((laws_eqPartS.f k t205 t220).bind fun t223 => (if t223 = true then ((laws_toEntry.f k l1_0 l1_1).bind fun bt224 => ((laws_eqEntry.f k bt208.1 bt208.2 bt224.1 bt224.2).bind fun t230 => (if t230 = true then (some true) else (some false)))) else (some false)))) else (some false))))))) = some r := H
      have A14 := Aside0.mk A140
      clear A140
      replace H := Option.bind_eq_some_iff.mp H
      obtain ⟨⟨t201, t202, t203⟩, A150, H⟩ := H
      replace H : ((laws_toPartS.f k l0).bind fun t205 => ((laws_toEntry.f k l1_0 l1_1).bind fun bt208 => ((impl_ExprEval.f t205 bt208.1 bt208.2).bind fun bt215 => ((laws_eqTextOut.f bt215.1 bt215.2.1 bt215.2.2 t201 t202 t203).bind fun t219 => (if t219 = true then ((laws_toPartS.f k l0).bind fun t220 => ((laws_eqPartS.f k t205 t220).bind fun t223 => (if t223 = true then ((laws_toEntry.f k l1_0 l1_1).bind fun bt224 => ((laws_eqEntry.f k bt208.1 bt208.2 bt224.1 bt224.2).bind fun t230 => (if t230 = true then (some true) else (some false)))) else (some false)))) else (some false)))))) = some r := H
      have A15 := Aside0.mk A150
      clear A150
      replace H := Option.bind_eq_some_iff.mp H
      obtain ⟨t205, A160, H⟩ := H
      replace H : ((laws_toEntry.f k l1_0 l1_1).bind fun bt208 => ((impl_ExprEval.f t205 bt208.1 bt208.2).bind fun bt215 => ((laws_eqTextOut.f bt215.1 bt215.2.1 bt215.2.2 t201 t202 t203).bind fun t219 => (if t219 = true then ((laws_toPartS.f k l0).bind fun t220 => ((laws_eqPartS.f k t205 t220).bind fun t223 => (if t223 = true then ((laws_toEntry.f k l1_0 l1_1).bind fun bt224 => ((laws_eqEntry.f k bt208.1 bt208.2 bt224.1 bt224.2).bind fun t230 => (if t230 = true then (some true) else (some false)))) else (some false)))) else (some false))))) = some r := H
      have A16 := Aside0.mk A160
      clear A160
      replace H := Option.bind_eq_some_iff.mp H
      obtain ⟨⟨t208, t211⟩, A170, H⟩ := H
      replace H : ((impl_ExprEval.f t205 t208 t211).bind fun bt215 => ((laws_eqTextOut.f bt215.1 bt215.2.1 bt215.2.2 t201 t202 t203).bind fun t219 => (if t219 = true then ((laws_toPartS.f k l0).bind fun t220 => ((laws_eqPartS.f k t205 t220).bind fun t223 => (if t223 = true then ((laws_toEntry.f k l1_0 l1_1).bind fun bt224 => ((laws_eqEntry.f k t208 t211 bt224.1 bt224.2).bind fun t230 => (if t230 = true then (some true) else (some false)))) else (some false)))) else (some false)))) = some r := H
      have A17 := Aside0.mk A170
      clear A170
      replace H := Option.bind_eq_some_iff.mp H
      obtain ⟨⟨t215, t216, t217⟩, A180, H⟩ := H
      replace H : ((laws_eqTextOut.f t215 t216 t217 t201 t202 t203).bind fun t219 => (if t219 = true then ((laws_toPartS.f k l0).bind fun t220 => ((laws_eqPartS.f k t205 t220).bind fun t223 => (if t223 = true then ((laws_toEntry.f k l1_0 l1_1).bind fun bt224 => ((laws_eqEntry.f k t208 t211 bt224.1 bt224.2).bind fun t230 => (if t230 = true then (some true) else (some false)))) else (some false)))) else (some false))) = some r := H
      have A18 := Aside0.mk A180
      clear A180
      replace H := Option.bind_eq_some_iff.mp H
      obtain ⟨t219, A190, H⟩ := H
      replace H : (if t219 = true then ((laws_toPartS.f k l0).bind fun t220 => ((laws_eqPartS.f k t205 t220).bind fun t223 => (if t223 = true then ((laws_toEntry.f k l1_0 l1_1).bind fun bt224 => ((laws_eqEntry.f k t208 t211 bt224.1 bt224.2).bind fun t230 => (if t230 = true then (some true) else (some false)))) else (some false)))) else (some false)) = some r := H
      have A19 := Aside0.mk A190
      clear A190
      by_cases c20 : t219 = true
      · subst c20
        have H1 : ((laws_toPartS.f k l0).bind fun t220 => ((laws_eqPartS.f k t205 t220).bind fun t223 => (if t223 = true then ((laws_toEntry.f k l1_0 l1_1).bind fun bt224 => ((laws_eqEntry.f k t208 t211 bt224.1 bt224.2).bind fun t230 => (if t230 = true then (some true) else (some false)))) else (some false)))) = some r := by rw [if_pos rfl] at H; exact H
        clear H
        have H := H1
        clear H1
        replace H := Option.bind_eq_some_iff.mp H
        obtain ⟨t220, A210, H⟩ := H
        replace H : ((laws_eqPartS.f k t205 t220).bind fun t223 => (if t223 = true then ((laws_toEntry.f k l1_0 l1_1).bind fun bt224 => ((laws_eqEntry.f k t208 t211 bt224.1 bt224.2).bind fun t230 => (if t230 = true then (some true) else (some false)))) else (some false))) = some r := H
        have A21 := Aside0.mk A210
        clear A210
        replace H := Option.bind_eq_some_iff.mp H
        obtain ⟨t223, A220, H⟩ := H
        replace H : (if t223 = true then ((laws_toEntry.f k l1_0 l1_1).bind fun bt224 => ((laws_eqEntry.f k t208 t211 bt224.1 bt224.2).bind fun t230 => (if t230 = true then (some true) else (some false)))) else (some false)) = some r := H
        have A22 := Aside0.mk A220
        clear A220
        by_cases c23 : t223 = true
        · subst c23
          have H1 : ((laws_toEntry.f k l1_0 l1_1).bind fun bt224 => ((laws_eqEntry.f k t208 t211 bt224.1 bt224.2).bind fun t230 => (if t230 = true then (some true) else (some false)))) = some r := by rw [if_pos rfl] at H; exact H
          clear H
          have H := H1
          clear H1
          replace H := Option.bind_eq_some_iff.mp H
          obtain ⟨⟨t224, t227⟩, A240, H⟩ := H
          replace H : ((laws_eqEntry.f k t208 t211 t224 t227).bind fun t230 => (if t230 = true then (some true) else (some false))) = some r := H
          have A24 := Aside0.mk A240
          clear A240
          replace H := Option.bind_eq_some_iff.mp H
          obtain ⟨t230, A250, H⟩ := H
          replace H : (if t230 = true then (some true) else (some false)) = some r := H
          have A25 := Aside0.mk A250
          clear A250
          by_cases c26 : t230 = true
          · subst c26
            have H1 : (some true) = some r := by rw [if_pos rfl] at H; exact H
            clear H
            have H := H1
            clear H1
            obtain rfl := Option.some.inj H
            go_enter Tryz.func3, Tryz.ntmps3
            try go_wp2_with (first | ((with_reducible refine gate_dst (N := 3) rfl ?_); refine box_event ?hg (N := 3) ?hd (cs := #[.slice A1_0 l1_0.length c1_0, .slice A1_1 l1_1.length c1_1]) (t := 26) ?hr ?_; (case hd => rfl); (case hg => rfl); (case hr => first | (go_simp; done) | (go_simp; rfl)); intro gb189 hg w27 hbox hb; have n0_ := Aside0.mk (below_step By hb); have n1_ := Aside0.mk (hbox); have n2_ := Aside0.mk ((by rw [hg]; exact (below_size By) : w.heap.size ≤ gb189)); have n3_ := Aside0.mk ((by rw [hg]; exact (below_size By) : w.heap.size ≤ gb189)); clear HB; have HB := n0_; have BK189 := n1_; have GW189 := n2_; have GE189 := n3_; clear n0_ n1_ n2_ n3_; clear hb hbox hg) | ((with_reducible refine gate_callee (f := 6) rfl ?_); refine goesL_ (some 12) rfl rfl Tryz.func6 (by kernel_rfl) rfl #[.slice A0 l0.length c0, .int .i64 1048576] rfl Ag ?_; (with_reducible refine (laws_szPartS.calls k _ _ l0 1048576 t190 _ ?side1 ?side2 A3.out).mono ?_); (case side1 => exact rC (Kd.C_below HR0.out HB.out)); (case side2 => exact HC0.out); rintro e w28 ⟨rfl, hb⟩; refine ⟨_, rfl, ?_⟩; have n0_ := Aside0.mk (bb BK189.out hb); have n1_ := Aside0.mk (below_step By hb); clear BK189; clear HB; have BK189 := n0_; have HB := n1_; clear n0_ n1_; (try clear hb); (try clear hb2); (try clear hk); (try clear hi); have ⟨hcz29_0, hcz29_1⟩ := cq2 BK189.out; have ⟨hfz29_0, hfz29_1⟩ := fq2 BK189.out) | ((with_reducible refine gate_callee (f := 7) rfl ?_); refine goesL_ (some 17) rfl rfl Tryz.func7 (by kernel_rfl) rfl #[.agg #[.slice A1_0 l1_0.length c1_0, .slice A1_1 l1_1.length c1_1], .int .i64 t190] rfl Ag ?_; (with_reducible refine (laws_szEntry.calls k _ _ l1_0 _ _ l1_1 t190 t191 _ ?side1 ?side2 ?side3 ?side4 A7.out).mono ?_); (case side1 => exact rC (Kd.C_below HR1_0.out HB.out)); (case side2 => exact HC1_0.out); (case side3 => exact rC (Kd.C_below HR1_1.out HB.out)); (case side4 => exact HC1_1.out); rintro e w30 ⟨rfl, hb⟩; refine ⟨_, rfl, ?_⟩; have n0_ := Aside0.mk (bb BK189.out hb); have n1_ := Aside0.mk (below_step By hb); clear BK189; clear HB; have BK189 := n0_; have HB := n1_; clear n0_ n1_; (try clear hb); (try clear hb2); (try clear hk); (try clear hi)))
            have n0_ := Aside0.mk (blk_drew BK189.out)
            have n1_ := Aside0.mk (below_drew1 HB.out)
            clear BK189
            clear HB
            have BK189 := n0_
            have HB := n1_
            clear n0_ n1_
            refine start_ (n := 7) (S := fun w' => w'.cell? ⟨gb189, 0, none⟩ = some (.slice A1_0 l1_0.length c1_0) ∧ w'.cell? ⟨gb189, 1, none⟩ = some (.slice A1_1 l1_1.length c1_1)) (ds := []) (bv 7 0) (by kernel_rfl) rfl rfl ⟨bc BK189.out 0, bc BK189.out 1⟩ (fun hHeld => ?_)
            generalize w30.drew = w31 at BK189 HB hHeld ⊢
            refine pure_ (i := 0) (N := some 20) (v := ?_) (a' := ?_) (bv 7 1) rfl rfl (by kernel_rfl) (fun _ _ _ h => h) (Or.inl ⟨by rfl, ?_⟩) ?_ ?_
            rotate_left
            · intro w'
              go_simp
              with_reducible rfl
            rotate_left
            · simp only [Act.put, List.setIfInBounds_toArray, List.set_cons_zero, List.set_cons_succ, i64_w, i32_w]
              rfl
            refine take_ (i := 2) (N := some 22) (v := ?_) (a' := ?_) (bv 7 5) rfl rfl (by kernel_rfl) (fun _ _ _ h => h) (Or.inl ⟨by rfl, ?_⟩) hHeld ?_ ?_
            rotate_left
            · rintro w' ⟨s0, s1⟩
              go_simp
              with_reducible rfl
            rotate_left
            · simp only [Act.put, List.setIfInBounds_toArray, List.set_cons_zero, List.set_cons_succ, i64_w, i32_w]
              rfl
            refine join_ (σ := Value × Value × Value × Nat) 1 (bv 7 63) (fun s_ => [(21, s_.1), (23, .agg #[s_.2.1, s_.2.2.1]), (24, .agg #[.string t201, .int .i64 t202, .int .i64 t203]), (6, .pointer (some ⟨s_.2.2.2, 0, none⟩))]) (fun s_ w' => (w'.cell? ⟨gb189, 0, none⟩ = some (.slice A1_0 l1_0.length c1_0) ∧ w'.cell? ⟨gb189, 1, none⟩ = some (.slice A1_1 l1_1.length c1_1)) ∧ (Kd.R k70 70 w' w.heap.size (fun _ => True) s_.1 t192) ∧ (Kd.R k113 113 w' w.heap.size (fun _ => True) s_.2.1 t195) ∧ (Kd.S k115 115 w' w.heap.size (fun _ => True) s_.2.2.1 t198) ∧ (w'.heap[gb189]? = some (.cells #[.slice A1_0 l1_0.length c1_0, .slice A1_1 l1_1.length c1_1] 26 (0, 0))) ∧ (w'.heap[s_.2.2.2]? = some (.cells #[.string (⟨#[]⟩ : ByteArray), .int .i64 0, .int .i64 0] 30 (0, 0))) ∧ (w.heap.size ≤ s_.2.2.2) ∧ (w.heap.size ≤ s_.2.2.2) ∧ (gb189 ≠ s_.2.2.2) ∧ (s_.2.2.2 ≠ gb189) ∧ (Below w.heap.size w w')) ?_ ?_
            rotate_left
            · intro hCont
              refine two_ (i := 1) (j := 5) (Ni := some 21) (Nj := some 6) (bv 7 7) (bv 7 37) rfl rfl rfl rfl (by kernel_rfl) (by decide) (by decide) (fun K hK => ?_) (fun K hK => ?_)
              · skip
                refine goes_ Tryz.func9 (by kernel_rfl) rfl #[.slice A0 l0.length c0] (by rfl) rfl rfl Ag ?_
                with_reducible refine (laws_toPartS.calls k _ _ l0 t192 _ ?side1 ?side2 A13.out).mono ?_
                (case side1 => exact rC (Kd.C_below HR0.out HB.out))
                (case side2 => exact HC0.out)
                rintro e w32 ⟨v193, rfl, ho0, hb⟩
                refine ⟨_, rfl, ?_⟩
                have n0_ := Aside0.mk (Kd.R_lower ho0 (below_size By))
                have n1_ := Aside0.mk (bb BK189.out hb)
                have n2_ := Aside0.mk (below_step By hb)
                clear BK189
                clear HB
                have HO194 := n0_
                have BK189 := n1_
                have HB := n2_
                clear n0_ n1_ n2_
                (try clear hb)
                (try clear hb2)
                (try clear hk)
                (try clear hi)
                (try clear ho0)
                refine hK.out _ _ ⟨bc BK189.out 0, bc BK189.out 1⟩ (fun hHeld => ?_)
                clear hK K
                refine norm_ (a' := ?_) ?_ ?_
                rotate_left
                · show Act.put _ (some 21) _ = _
                  simp only [Act.put, List.setIfInBounds_toArray, List.set_cons_zero, List.set_cons_succ, i64_w, i32_w]
                  rfl
                refine two_ (i := 3) (j := 5) (Ni := some 23) (Nj := some 6) (bv 7 15) (bv 7 39) rfl rfl rfl rfl (by kernel_rfl) (by decide) (by decide) (fun K hK => ?_) (fun K hK => ?_)
                · skip
                  refine goes_ Tryz.func10 (by kernel_rfl) rfl #[.agg #[.slice A1_0 l1_0.length c1_0, .slice A1_1 l1_1.length c1_1]] (by rfl) rfl rfl Ag ?_
                  with_reducible refine (laws_toEntry.calls k _ _ l1_0 _ _ l1_1 t195 t198 _ ?side1 ?side2 ?side3 ?side4 A14.out).mono ?_
                  (case side1 => exact rC (Kd.C_below HR1_0.out HB.out))
                  (case side2 => exact HC1_0.out)
                  (case side3 => exact rC (Kd.C_below HR1_1.out HB.out))
                  (case side4 => exact HC1_1.out)
                  rintro e w33 ⟨v196, v199, rfl, ho0, ho1, hb⟩
                  refine ⟨_, rfl, ?_⟩
                  have n0_ := Aside0.mk (Kd.R_below (rR HO194.out) hb)
                  have n1_ := Aside0.mk (Kd.R_lower ho0 (below_size By))
                  have n2_ := Aside0.mk (Kd.S_lower ho1 (below_size By))
                  have n3_ := Aside0.mk (bb BK189.out hb)
                  have n4_ := Aside0.mk (below_step By hb)
                  clear HO194
                  clear BK189
                  clear HB
                  have HO194 := n0_
                  have HO197 := n1_
                  have HO200 := n2_
                  have BK189 := n3_
                  have HB := n4_
                  clear n0_ n1_ n2_ n3_ n4_
                  (try clear hb)
                  (try clear hb2)
                  (try clear hk)
                  (try clear hi)
                  (try clear ho0)
                  (try clear ho1)
                  obtain ⟨Ao34, co34, eo34⟩ := Kd.R_slice HO194.out
                  (first | subst eo34 | (injection eo34 with f1_ f2_ f3_; have f4_ := f1_.symm; have f5_ := f3_.symm; clear f1_ f2_ f3_; subst f4_; subst f5_))
                  obtain ⟨Ao35, co35, eo35⟩ := Kd.R_slice HO197.out
                  (first | subst eo35 | (injection eo35 with f1_ f2_ f3_; have f4_ := f1_.symm; have f5_ := f3_.symm; clear f1_ f2_ f3_; subst f4_; subst f5_))
                  obtain ⟨Ao36, co36, eo36⟩ := Kd.S_slice HO200.out
                  (first | subst eo36 | (injection eo36 with f1_ f2_ f3_; have f4_ := f1_.symm; have f5_ := f3_.symm; clear f1_ f2_ f3_; subst f4_; subst f5_))
                  refine hK.out _ _ ⟨bc BK189.out 0, bc BK189.out 1⟩ (fun hHeld => ?_)
                  clear hK K
                  refine norm_ (a' := ?_) ?_ ?_
                  rotate_left
                  · show Act.put _ (some 23) _ = _
                    simp only [Act.put, List.setIfInBounds_toArray, List.set_cons_zero, List.set_cons_succ, i64_w, i32_w]
                    rfl
                  refine two_ (i := 4) (j := 5) (Ni := some 24) (Nj := some 6) (bv 7 31) (bv 7 47) rfl rfl rfl rfl (by kernel_rfl) (by decide) (by decide) (fun K hK => ?_) (fun K hK => ?_)
                  · skip
                    refine goes_ Tryz.func8 (by kernel_rfl) rfl #[.slice Ao34 t192.length co34, .agg #[.slice Ao35 t195.length co35, .slice Ao36 t198.length co36]] (by rfl) rfl rfl Ag ?_
                    with_reducible refine (spec_ExprEval.calls _ _ t192 _ _ t195 _ _ t198 t201 t202 t203 _ ?side1 ?side2 ?side3 ?side4 ?side5 ?side6 A15.out).mono ?_
                    (case side1 => exact rC (Kd.R_reads' HO194.out).2.2)
                    (case side2 => exact (Kd.R_reads' HO194.out).2.1)
                    (case side3 => exact rC (Kd.R_reads' HO197.out).2.2)
                    (case side4 => exact (Kd.R_reads' HO197.out).2.1)
                    (case side5 => repeat (first | exact (Kd.S_reads' HO200.out).2.2 | (with_reducible refine Kd.C_alloc ?_ _) | (with_reducible refine Kd.C_drewN ?_ _) | (with_reducible refine Kd.C_drew ?_)))
                    (case side6 => exact (Kd.S_reads' HO200.out).2.1)
                    rintro e w37 ⟨rfl, hb⟩
                    refine ⟨_, rfl, ?_⟩
                    have n0_ := Aside0.mk (Kd.R_below (rR HO194.out) hb)
                    have n1_ := Aside0.mk (Kd.R_below (rR HO197.out) hb)
                    have n2_ := Aside0.mk (Kd.S_below (rS HO200.out) hb)
                    have n3_ := Aside0.mk (bb BK189.out hb)
                    have n4_ := Aside0.mk (below_step By hb)
                    clear HO194
                    clear HO197
                    clear HO200
                    clear BK189
                    clear HB
                    have HO194 := n0_
                    have HO197 := n1_
                    have HO200 := n2_
                    have BK189 := n3_
                    have HB := n4_
                    clear n0_ n1_ n2_ n3_ n4_
                    (try clear hb)
                    (try clear hb2)
                    (try clear hk)
                    (try clear hi)
                    refine hK.out _ _ ⟨bc BK189.out 0, bc BK189.out 1⟩ (fun hHeld => ?_)
                    clear hK K
                    refine norm_ (a' := ?_) ?_ ?_
                    rotate_left
                    · show Act.put _ (some 24) _ = _
                      simp only [Act.put, List.setIfInBounds_toArray, List.set_cons_zero, List.set_cons_succ, i64_w, i32_w]
                      rfl
                    refine one_ (i := 5) (N := some 6) (bv 7 63) rfl rfl (by kernel_rfl) (by decide) (fun K hK => ?_)
                    refine box_step ?hg (N := 6) ?hd (cs := #[.string (⟨#[]⟩ : ByteArray), .int .i64 0, .int .i64 0]) (t := 30) ?hr ?_; (case hd => rfl); (case hg => rfl); (case hr => first | (go_simp; done) | (go_simp; rfl))
                    intro gb204 hg w38 hbox hb
                    have n0_ := Aside0.mk (Kd.R_below (rR HO194.out) hb)
                    have n1_ := Aside0.mk (Kd.R_below (rR HO197.out) hb)
                    have n2_ := Aside0.mk (Kd.S_below (rS HO200.out) hb)
                    have n3_ := Aside0.mk (bb BK189.out hb)
                    have n4_ := Aside0.mk (below_step By hb)
                    have n5_ := Aside0.mk (hbox)
                    have n6_ := Aside0.mk ((by rw [hg]; exact (below_size By) : w.heap.size ≤ gb204))
                    have n7_ := Aside0.mk ((by rw [hg]; exact (below_size By) : w.heap.size ≤ gb204))
                    have n8_ := Aside0.mk ((by rw [hg]; exact Nat.ne_of_lt (bl BK189.out) : gb189 ≠ gb204))
                    have n9_ := Aside0.mk ((by rw [hg]; exact Nat.ne_of_gt (bl BK189.out) : gb204 ≠ gb189))
                    clear HO194
                    clear HO197
                    clear HO200
                    clear BK189
                    clear HB
                    have HO194 := n0_
                    have HO197 := n1_
                    have HO200 := n2_
                    have BK189 := n3_
                    have HB := n4_
                    have BK204 := n5_
                    have GW204 := n6_
                    have GE204 := n7_
                    have NB189_204 := n8_
                    have NB204_189 := n9_
                    clear n0_ n1_ n2_ n3_ n4_ n5_ n6_ n7_ n8_ n9_
                    clear hb hbox hg
                    refine hK.out _ _ ⟨bc BK189.out 0, bc BK189.out 1⟩ (fun hHeld => ?_)
                    clear hK K
                    refine norm_ (a' := ?_) ?_ ?_
                    rotate_left
                    · show Act.put _ (some 6) _ = _
                      simp only [Act.put, List.setIfInBounds_toArray, List.set_cons_zero, List.set_cons_succ, i64_w, i32_w]
                      rfl
                    exact norm_ (by simp only [putAll, Act.put, List.setIfInBounds_toArray, List.set_cons_zero, List.set_cons_succ]) (hCont (.slice Ao34 t192.length co34, .slice Ao35 t195.length co35, .slice Ao36 t198.length co36, gb204) _ ⟨hHeld, (rR HO194.out), (rR HO197.out), (rS HO200.out), Pk, Pk, GW204.out, GE204.out, NB189_204.out, NB204_189.out, By⟩)
                  · skip
                    refine box_step ?hg (N := 6) ?hd (cs := #[.string (⟨#[]⟩ : ByteArray), .int .i64 0, .int .i64 0]) (t := 30) ?hr ?_; (case hd => rfl); (case hg => rfl); (case hr => first | (go_simp; done) | (go_simp; rfl))
                    intro gb204 hg w34 hbox hb
                    have n0_ := Aside0.mk (Kd.R_below (rR HO194.out) hb)
                    have n1_ := Aside0.mk (Kd.R_below (rR HO197.out) hb)
                    have n2_ := Aside0.mk (Kd.S_below (rS HO200.out) hb)
                    have n3_ := Aside0.mk (bb BK189.out hb)
                    have n4_ := Aside0.mk (below_step By hb)
                    have n5_ := Aside0.mk (hbox)
                    have n6_ := Aside0.mk ((by rw [hg]; exact (below_size By) : w.heap.size ≤ gb204))
                    have n7_ := Aside0.mk ((by rw [hg]; exact (below_size By) : w.heap.size ≤ gb204))
                    have n8_ := Aside0.mk ((by rw [hg]; exact Nat.ne_of_lt (bl BK189.out) : gb189 ≠ gb204))
                    have n9_ := Aside0.mk ((by rw [hg]; exact Nat.ne_of_gt (bl BK189.out) : gb204 ≠ gb189))
                    clear HO194
                    clear HO197
                    clear HO200
                    clear BK189
                    clear HB
                    have HO194 := n0_
                    have HO197 := n1_
                    have HO200 := n2_
                    have BK189 := n3_
                    have HB := n4_
                    have BK204 := n5_
                    have GW204 := n6_
                    have GE204 := n7_
                    have NB189_204 := n8_
                    have NB204_189 := n9_
                    clear n0_ n1_ n2_ n3_ n4_ n5_ n6_ n7_ n8_ n9_
                    clear hb hbox hg
                    obtain ⟨Ao35, co35, eo35⟩ := Kd.R_slice HO194.out
                    (first | subst eo35 | (injection eo35 with f1_ f2_ f3_; have f4_ := f1_.symm; have f5_ := f3_.symm; clear f1_ f2_ f3_; subst f4_; subst f5_))
                    obtain ⟨Ao36, co36, eo36⟩ := Kd.R_slice HO197.out
                    (first | subst eo36 | (injection eo36 with f1_ f2_ f3_; have f4_ := f1_.symm; have f5_ := f3_.symm; clear f1_ f2_ f3_; subst f4_; subst f5_))
                    obtain ⟨Ao37, co37, eo37⟩ := Kd.S_slice HO200.out
                    (first | subst eo37 | (injection eo37 with f1_ f2_ f3_; have f4_ := f1_.symm; have f5_ := f3_.symm; clear f1_ f2_ f3_; subst f4_; subst f5_))
                    refine hK.out _ _ ⟨bc BK189.out 0, bc BK189.out 1⟩ (fun hHeld => ?_)
                    clear hK K
                    refine norm_ (a' := ?_) ?_ ?_
                    rotate_left
                    · show Act.put _ (some 6) _ = _
                      simp only [Act.put, List.setIfInBounds_toArray, List.set_cons_zero, List.set_cons_succ, i64_w, i32_w]
                      rfl
                    refine one_ (i := 4) (N := some 24) (bv 7 63) rfl rfl (by kernel_rfl) (by decide) (fun K hK => ?_)
                    refine goes_ Tryz.func8 (by kernel_rfl) rfl #[.slice Ao35 t192.length co35, .agg #[.slice Ao36 t195.length co36, .slice Ao37 t198.length co37]] (by rfl) rfl rfl Ag ?_
                    with_reducible refine (spec_ExprEval.calls _ _ t192 _ _ t195 _ _ t198 t201 t202 t203 _ ?side1 ?side2 ?side3 ?side4 ?side5 ?side6 A15.out).mono ?_
                    (case side1 => exact rC (Kd.R_reads' HO194.out).2.2)
                    (case side2 => exact (Kd.R_reads' HO194.out).2.1)
                    (case side3 => exact rC (Kd.R_reads' HO197.out).2.2)
                    (case side4 => exact (Kd.R_reads' HO197.out).2.1)
                    (case side5 => repeat (first | exact (Kd.S_reads' HO200.out).2.2 | (with_reducible refine Kd.C_alloc ?_ _) | (with_reducible refine Kd.C_drewN ?_ _) | (with_reducible refine Kd.C_drew ?_)))
                    (case side6 => exact (Kd.S_reads' HO200.out).2.1)
                    rintro e w38 ⟨rfl, hb⟩
                    refine ⟨_, rfl, ?_⟩
                    have n0_ := Aside0.mk (Kd.R_below (rR HO194.out) hb)
                    have n1_ := Aside0.mk (Kd.R_below (rR HO197.out) hb)
                    have n2_ := Aside0.mk (Kd.S_below (rS HO200.out) hb)
                    have n3_ := Aside0.mk (bb BK189.out hb)
                    have n4_ := Aside0.mk (bb BK204.out hb)
                    have n5_ := Aside0.mk (below_step By hb)
                    clear HO194
                    clear HO197
                    clear HO200
                    clear BK189
                    clear BK204
                    clear HB
                    have HO194 := n0_
                    have HO197 := n1_
                    have HO200 := n2_
                    have BK189 := n3_
                    have BK204 := n4_
                    have HB := n5_
                    clear n0_ n1_ n2_ n3_ n4_ n5_
                    (try clear hb)
                    (try clear hb2)
                    (try clear hk)
                    (try clear hi)
                    refine hK.out _ _ ⟨bc BK189.out 0, bc BK189.out 1⟩ (fun hHeld => ?_)
                    clear hK K
                    refine norm_ (a' := ?_) ?_ ?_
                    rotate_left
                    · show Act.put _ (some 24) _ = _
                      simp only [Act.put, List.setIfInBounds_toArray, List.set_cons_zero, List.set_cons_succ, i64_w, i32_w]
                      rfl
                    exact norm_ (by simp only [putAll, Act.put, List.setIfInBounds_toArray, List.set_cons_zero, List.set_cons_succ]) (hCont (.slice Ao35 t192.length co35, .slice Ao36 t195.length co36, .slice Ao37 t198.length co37, gb204) _ ⟨hHeld, (rR HO194.out), (rR HO197.out), (rS HO200.out), Pk, Pk, GW204.out, GE204.out, NB189_204.out, NB204_189.out, By⟩)
                · skip
                  refine box_step ?hg (N := 6) ?hd (cs := #[.string (⟨#[]⟩ : ByteArray), .int .i64 0, .int .i64 0]) (t := 30) ?hr ?_; (case hd => rfl); (case hg => rfl); (case hr => first | (go_simp; done) | (go_simp; rfl))
                  intro gb204 hg w33 hbox hb
                  have n0_ := Aside0.mk (Kd.R_below (rR HO194.out) hb)
                  have n1_ := Aside0.mk (bb BK189.out hb)
                  have n2_ := Aside0.mk (below_step By hb)
                  have n3_ := Aside0.mk (hbox)
                  have n4_ := Aside0.mk ((by rw [hg]; exact (below_size By) : w.heap.size ≤ gb204))
                  have n5_ := Aside0.mk ((by rw [hg]; exact (below_size By) : w.heap.size ≤ gb204))
                  have n6_ := Aside0.mk ((by rw [hg]; exact Nat.ne_of_lt (bl BK189.out) : gb189 ≠ gb204))
                  have n7_ := Aside0.mk ((by rw [hg]; exact Nat.ne_of_gt (bl BK189.out) : gb204 ≠ gb189))
                  clear HO194
                  clear BK189
                  clear HB
                  have HO194 := n0_
                  have BK189 := n1_
                  have HB := n2_
                  have BK204 := n3_
                  have GW204 := n4_
                  have GE204 := n5_
                  have NB189_204 := n6_
                  have NB204_189 := n7_
                  clear n0_ n1_ n2_ n3_ n4_ n5_ n6_ n7_
                  clear hb hbox hg
                  refine hK.out _ _ ⟨bc BK189.out 0, bc BK189.out 1⟩ (fun hHeld => ?_)
                  clear hK K
                  refine norm_ (a' := ?_) ?_ ?_
                  rotate_left
                  · show Act.put _ (some 6) _ = _
                    simp only [Act.put, List.setIfInBounds_toArray, List.set_cons_zero, List.set_cons_succ, i64_w, i32_w]
                    rfl
                  refine one_ (i := 3) (N := some 23) (bv 7 47) rfl rfl (by kernel_rfl) (by decide) (fun K hK => ?_)
                  refine goes_ Tryz.func10 (by kernel_rfl) rfl #[.agg #[.slice A1_0 l1_0.length c1_0, .slice A1_1 l1_1.length c1_1]] (by rfl) rfl rfl Ag ?_
                  with_reducible refine (laws_toEntry.calls k _ _ l1_0 _ _ l1_1 t195 t198 _ ?side1 ?side2 ?side3 ?side4 A14.out).mono ?_
                  (case side1 => exact rC (Kd.C_below HR1_0.out HB.out))
                  (case side2 => exact HC1_0.out)
                  (case side3 => exact rC (Kd.C_below HR1_1.out HB.out))
                  (case side4 => exact HC1_1.out)
                  rintro e w34 ⟨v196, v199, rfl, ho0, ho1, hb⟩
                  refine ⟨_, rfl, ?_⟩
                  have n0_ := Aside0.mk (Kd.R_below (rR HO194.out) hb)
                  have n1_ := Aside0.mk (Kd.R_lower ho0 (below_size By))
                  have n2_ := Aside0.mk (Kd.S_lower ho1 (below_size By))
                  have n3_ := Aside0.mk (bb BK189.out hb)
                  have n4_ := Aside0.mk (bb BK204.out hb)
                  have n5_ := Aside0.mk (below_step By hb)
                  clear HO194
                  clear BK189
                  clear BK204
                  clear HB
                  have HO194 := n0_
                  have HO197 := n1_
                  have HO200 := n2_
                  have BK189 := n3_
                  have BK204 := n4_
                  have HB := n5_
                  clear n0_ n1_ n2_ n3_ n4_ n5_
                  (try clear hb)
                  (try clear hb2)
                  (try clear hk)
                  (try clear hi)
                  (try clear ho0)
                  (try clear ho1)
                  obtain ⟨Ao35, co35, eo35⟩ := Kd.R_slice HO194.out
                  (first | subst eo35 | (injection eo35 with f1_ f2_ f3_; have f4_ := f1_.symm; have f5_ := f3_.symm; clear f1_ f2_ f3_; subst f4_; subst f5_))
                  obtain ⟨Ao36, co36, eo36⟩ := Kd.R_slice HO197.out
                  (first | subst eo36 | (injection eo36 with f1_ f2_ f3_; have f4_ := f1_.symm; have f5_ := f3_.symm; clear f1_ f2_ f3_; subst f4_; subst f5_))
                  obtain ⟨Ao37, co37, eo37⟩ := Kd.S_slice HO200.out
                  (first | subst eo37 | (injection eo37 with f1_ f2_ f3_; have f4_ := f1_.symm; have f5_ := f3_.symm; clear f1_ f2_ f3_; subst f4_; subst f5_))
                  refine hK.out _ _ ⟨bc BK189.out 0, bc BK189.out 1⟩ (fun hHeld => ?_)
                  clear hK K
                  refine norm_ (a' := ?_) ?_ ?_
                  rotate_left
                  · show Act.put _ (some 23) _ = _
                    simp only [Act.put, List.setIfInBounds_toArray, List.set_cons_zero, List.set_cons_succ, i64_w, i32_w]
                    rfl
                  refine one_ (i := 4) (N := some 24) (bv 7 63) rfl rfl (by kernel_rfl) (by decide) (fun K hK => ?_)
                  refine goes_ Tryz.func8 (by kernel_rfl) rfl #[.slice Ao35 t192.length co35, .agg #[.slice Ao36 t195.length co36, .slice Ao37 t198.length co37]] (by rfl) rfl rfl Ag ?_
                  with_reducible refine (spec_ExprEval.calls _ _ t192 _ _ t195 _ _ t198 t201 t202 t203 _ ?side1 ?side2 ?side3 ?side4 ?side5 ?side6 A15.out).mono ?_
                  (case side1 => exact rC (Kd.R_reads' HO194.out).2.2)
                  (case side2 => exact (Kd.R_reads' HO194.out).2.1)
                  (case side3 => exact rC (Kd.R_reads' HO197.out).2.2)
                  (case side4 => exact (Kd.R_reads' HO197.out).2.1)
                  (case side5 => repeat (first | exact (Kd.S_reads' HO200.out).2.2 | (with_reducible refine Kd.C_alloc ?_ _) | (with_reducible refine Kd.C_drewN ?_ _) | (with_reducible refine Kd.C_drew ?_)))
                  (case side6 => exact (Kd.S_reads' HO200.out).2.1)
                  rintro e w38 ⟨rfl, hb⟩
                  refine ⟨_, rfl, ?_⟩
                  have n0_ := Aside0.mk (Kd.R_below (rR HO194.out) hb)
                  have n1_ := Aside0.mk (Kd.R_below (rR HO197.out) hb)
                  have n2_ := Aside0.mk (Kd.S_below (rS HO200.out) hb)
                  have n3_ := Aside0.mk (bb BK189.out hb)
                  have n4_ := Aside0.mk (bb BK204.out hb)
                  have n5_ := Aside0.mk (below_step By hb)
                  clear HO194
                  clear HO197
                  clear HO200
                  clear BK189
                  clear BK204
                  clear HB
                  have HO194 := n0_
                  have HO197 := n1_
                  have HO200 := n2_
                  have BK189 := n3_
                  have BK204 := n4_
                  have HB := n5_
                  clear n0_ n1_ n2_ n3_ n4_ n5_
                  (try clear hb)
                  (try clear hb2)
                  (try clear hk)
                  (try clear hi)
                  refine hK.out _ _ ⟨bc BK189.out 0, bc BK189.out 1⟩ (fun hHeld => ?_)
                  clear hK K
                  refine norm_ (a' := ?_) ?_ ?_
                  rotate_left
                  · show Act.put _ (some 24) _ = _
                    simp only [Act.put, List.setIfInBounds_toArray, List.set_cons_zero, List.set_cons_succ, i64_w, i32_w]
                    rfl
                  exact norm_ (by simp only [putAll, Act.put, List.setIfInBounds_toArray, List.set_cons_zero, List.set_cons_succ]) (hCont (.slice Ao35 t192.length co35, .slice Ao36 t195.length co36, .slice Ao37 t198.length co37, gb204) _ ⟨hHeld, (rR HO194.out), (rR HO197.out), (rS HO200.out), Pk, Pk, GW204.out, GE204.out, NB189_204.out, NB204_189.out, By⟩)
              · skip
                refine box_step ?hg (N := 6) ?hd (cs := #[.string (⟨#[]⟩ : ByteArray), .int .i64 0, .int .i64 0]) (t := 30) ?hr ?_; (case hd => rfl); (case hg => rfl); (case hr => first | (go_simp; done) | (go_simp; rfl))
                intro gb204 hg w32 hbox hb
                have n0_ := Aside0.mk (bb BK189.out hb)
                have n1_ := Aside0.mk (below_step By hb)
                have n2_ := Aside0.mk (hbox)
                have n3_ := Aside0.mk ((by rw [hg]; exact (below_size By) : w.heap.size ≤ gb204))
                have n4_ := Aside0.mk ((by rw [hg]; exact (below_size By) : w.heap.size ≤ gb204))
                have n5_ := Aside0.mk ((by rw [hg]; exact Nat.ne_of_lt (bl BK189.out) : gb189 ≠ gb204))
                have n6_ := Aside0.mk ((by rw [hg]; exact Nat.ne_of_gt (bl BK189.out) : gb204 ≠ gb189))
                clear BK189
                clear HB
                have BK189 := n0_
                have HB := n1_
                have BK204 := n2_
                have GW204 := n3_
                have GE204 := n4_
                have NB189_204 := n5_
                have NB204_189 := n6_
                clear n0_ n1_ n2_ n3_ n4_ n5_ n6_
                clear hb hbox hg
                refine hK.out _ _ ⟨bc BK189.out 0, bc BK189.out 1⟩ (fun hHeld => ?_)
                clear hK K
                refine norm_ (a' := ?_) ?_ ?_
                rotate_left
                · show Act.put _ (some 6) _ = _
                  simp only [Act.put, List.setIfInBounds_toArray, List.set_cons_zero, List.set_cons_succ, i64_w, i32_w]
                  rfl
                refine one_ (i := 1) (N := some 21) (bv 7 39) rfl rfl (by kernel_rfl) (by decide) (fun K hK => ?_)
                refine goes_ Tryz.func9 (by kernel_rfl) rfl #[.slice A0 l0.length c0] (by rfl) rfl rfl Ag ?_
                with_reducible refine (laws_toPartS.calls k _ _ l0 t192 _ ?side1 ?side2 A13.out).mono ?_
                (case side1 => exact rC (Kd.C_below HR0.out HB.out))
                (case side2 => exact HC0.out)
                rintro e w33 ⟨v193, rfl, ho0, hb⟩
                refine ⟨_, rfl, ?_⟩
                have n0_ := Aside0.mk (Kd.R_lower ho0 (below_size By))
                have n1_ := Aside0.mk (bb BK189.out hb)
                have n2_ := Aside0.mk (bb BK204.out hb)
                have n3_ := Aside0.mk (below_step By hb)
                clear BK189
                clear BK204
                clear HB
                have HO194 := n0_
                have BK189 := n1_
                have BK204 := n2_
                have HB := n3_
                clear n0_ n1_ n2_ n3_
                (try clear hb)
                (try clear hb2)
                (try clear hk)
                (try clear hi)
                (try clear ho0)
                refine hK.out _ _ ⟨bc BK189.out 0, bc BK189.out 1⟩ (fun hHeld => ?_)
                clear hK K
                refine norm_ (a' := ?_) ?_ ?_
                rotate_left
                · show Act.put _ (some 21) _ = _
                  simp only [Act.put, List.setIfInBounds_toArray, List.set_cons_zero, List.set_cons_succ, i64_w, i32_w]
                  rfl
                refine one_ (i := 3) (N := some 23) (bv 7 47) rfl rfl (by kernel_rfl) (by decide) (fun K hK => ?_)
                refine goes_ Tryz.func10 (by kernel_rfl) rfl #[.agg #[.slice A1_0 l1_0.length c1_0, .slice A1_1 l1_1.length c1_1]] (by rfl) rfl rfl Ag ?_
                with_reducible refine (laws_toEntry.calls k _ _ l1_0 _ _ l1_1 t195 t198 _ ?side1 ?side2 ?side3 ?side4 A14.out).mono ?_
                (case side1 => exact rC (Kd.C_below HR1_0.out HB.out))
                (case side2 => exact HC1_0.out)
                (case side3 => exact rC (Kd.C_below HR1_1.out HB.out))
                (case side4 => exact HC1_1.out)
                rintro e w34 ⟨v196, v199, rfl, ho0, ho1, hb⟩
                refine ⟨_, rfl, ?_⟩
                have n0_ := Aside0.mk (Kd.R_below (rR HO194.out) hb)
                have n1_ := Aside0.mk (Kd.R_lower ho0 (below_size By))
                have n2_ := Aside0.mk (Kd.S_lower ho1 (below_size By))
                have n3_ := Aside0.mk (bb BK189.out hb)
                have n4_ := Aside0.mk (bb BK204.out hb)
                have n5_ := Aside0.mk (below_step By hb)
                clear HO194
                clear BK189
                clear BK204
                clear HB
                have HO194 := n0_
                have HO197 := n1_
                have HO200 := n2_
                have BK189 := n3_
                have BK204 := n4_
                have HB := n5_
                clear n0_ n1_ n2_ n3_ n4_ n5_
                (try clear hb)
                (try clear hb2)
                (try clear hk)
                (try clear hi)
                (try clear ho0)
                (try clear ho1)
                obtain ⟨Ao35, co35, eo35⟩ := Kd.R_slice HO194.out
                (first | subst eo35 | (injection eo35 with f1_ f2_ f3_; have f4_ := f1_.symm; have f5_ := f3_.symm; clear f1_ f2_ f3_; subst f4_; subst f5_))
                obtain ⟨Ao36, co36, eo36⟩ := Kd.R_slice HO197.out
                (first | subst eo36 | (injection eo36 with f1_ f2_ f3_; have f4_ := f1_.symm; have f5_ := f3_.symm; clear f1_ f2_ f3_; subst f4_; subst f5_))
                obtain ⟨Ao37, co37, eo37⟩ := Kd.S_slice HO200.out
                (first | subst eo37 | (injection eo37 with f1_ f2_ f3_; have f4_ := f1_.symm; have f5_ := f3_.symm; clear f1_ f2_ f3_; subst f4_; subst f5_))
                refine hK.out _ _ ⟨bc BK189.out 0, bc BK189.out 1⟩ (fun hHeld => ?_)
                clear hK K
                refine norm_ (a' := ?_) ?_ ?_
                rotate_left
                · show Act.put _ (some 23) _ = _
                  simp only [Act.put, List.setIfInBounds_toArray, List.set_cons_zero, List.set_cons_succ, i64_w, i32_w]
                  rfl
                refine one_ (i := 4) (N := some 24) (bv 7 63) rfl rfl (by kernel_rfl) (by decide) (fun K hK => ?_)
                refine goes_ Tryz.func8 (by kernel_rfl) rfl #[.slice Ao35 t192.length co35, .agg #[.slice Ao36 t195.length co36, .slice Ao37 t198.length co37]] (by rfl) rfl rfl Ag ?_
                with_reducible refine (spec_ExprEval.calls _ _ t192 _ _ t195 _ _ t198 t201 t202 t203 _ ?side1 ?side2 ?side3 ?side4 ?side5 ?side6 A15.out).mono ?_
                (case side1 => exact rC (Kd.R_reads' HO194.out).2.2)
                (case side2 => exact (Kd.R_reads' HO194.out).2.1)
                (case side3 => exact rC (Kd.R_reads' HO197.out).2.2)
                (case side4 => exact (Kd.R_reads' HO197.out).2.1)
                (case side5 => repeat (first | exact (Kd.S_reads' HO200.out).2.2 | (with_reducible refine Kd.C_alloc ?_ _) | (with_reducible refine Kd.C_drewN ?_ _) | (with_reducible refine Kd.C_drew ?_)))
                (case side6 => exact (Kd.S_reads' HO200.out).2.1)
                rintro e w38 ⟨rfl, hb⟩
                refine ⟨_, rfl, ?_⟩
                have n0_ := Aside0.mk (Kd.R_below (rR HO194.out) hb)
                have n1_ := Aside0.mk (Kd.R_below (rR HO197.out) hb)
                have n2_ := Aside0.mk (Kd.S_below (rS HO200.out) hb)
                have n3_ := Aside0.mk (bb BK189.out hb)
                have n4_ := Aside0.mk (bb BK204.out hb)
                have n5_ := Aside0.mk (below_step By hb)
                clear HO194
                clear HO197
                clear HO200
                clear BK189
                clear BK204
                clear HB
                have HO194 := n0_
                have HO197 := n1_
                have HO200 := n2_
                have BK189 := n3_
                have BK204 := n4_
                have HB := n5_
                clear n0_ n1_ n2_ n3_ n4_ n5_
                (try clear hb)
                (try clear hb2)
                (try clear hk)
                (try clear hi)
                refine hK.out _ _ ⟨bc BK189.out 0, bc BK189.out 1⟩ (fun hHeld => ?_)
                clear hK K
                refine norm_ (a' := ?_) ?_ ?_
                rotate_left
                · show Act.put _ (some 24) _ = _
                  simp only [Act.put, List.setIfInBounds_toArray, List.set_cons_zero, List.set_cons_succ, i64_w, i32_w]
                  rfl
                exact norm_ (by simp only [putAll, Act.put, List.setIfInBounds_toArray, List.set_cons_zero, List.set_cons_succ]) (hCont (.slice Ao35 t192.length co35, .slice Ao36 t195.length co36, .slice Ao37 t198.length co37, gb204) _ ⟨hHeld, (rR HO194.out), (rR HO197.out), (rS HO200.out), Pk, Pk, GW204.out, GE204.out, NB189_204.out, NB204_189.out, By⟩)
            rintro ⟨v193, v196, v199, gb204⟩ w39 ⟨hS_, h0_, h1_, h2_, h3_, h4_, h5_, h6_, h7_, h8_, h9_⟩
            have n0_ : Aside0 (Kd.R k70 70 w39 w.heap.size (fun _ => True) v193 t192) := ⟨h0_⟩
            have n1_ : Aside0 (Kd.R k113 113 w39 w.heap.size (fun _ => True) v196 t195) := ⟨h1_⟩
            have n2_ : Aside0 (Kd.S k115 115 w39 w.heap.size (fun _ => True) v199 t198) := ⟨h2_⟩
            have n3_ : Aside0 (w39.heap[gb189]? = some (.cells #[.slice A1_0 l1_0.length c1_0, .slice A1_1 l1_1.length c1_1] 26 (0, 0))) := ⟨h3_⟩
            have n4_ : Aside0 (w39.heap[gb204]? = some (.cells #[.string (⟨#[]⟩ : ByteArray), .int .i64 0, .int .i64 0] 30 (0, 0))) := ⟨h4_⟩
            have n5_ : Aside0 (w.heap.size ≤ gb204) := ⟨h5_⟩
            have n6_ : Aside0 (w.heap.size ≤ gb204) := ⟨h6_⟩
            have n7_ : Aside0 (gb189 ≠ gb204) := ⟨h7_⟩
            have n8_ : Aside0 (gb204 ≠ gb189) := ⟨h8_⟩
            have n9_ : Aside0 (Below w.heap.size w w39) := ⟨h9_⟩
            clear BK189
            clear HB
            clear h0_ h1_ h2_ h3_ h4_ h5_ h6_ h7_ h8_ h9_
            have HO194 := n0_
            have HO197 := n1_
            have HO200 := n2_
            have BK189 := n3_
            have BK204 := n4_
            have GW204 := n5_
            have GE204 := n6_
            have NB189_204 := n7_
            have NB204_189 := n8_
            have HB := n9_
            clear n0_ n1_ n2_ n3_ n4_ n5_ n6_ n7_ n8_ n9_
            have hHeld : w39.cell? ⟨gb189, 0, none⟩ = some (.slice A1_0 l1_0.length c1_0) ∧ w39.cell? ⟨gb189, 1, none⟩ = some (.slice A1_1 l1_1.length c1_1) := hS_
            refine norm_ (a' := ?_) ?_ ?_
            rotate_left
            · simp only [putAll, Act.put, List.setIfInBounds_toArray, List.set_cons_zero, List.set_cons_succ]
              rfl
            refine one_ (i := 6) (N := none) (bv 7 127) rfl rfl (by kernel_rfl) (by decide) (fun K hK => ?_)
            have hs40 : w39.cell? ⟨gb204, 0, none⟩ = some (.string (⟨#[]⟩ : ByteArray)) := bc BK204.out 0
            have hfs40 := blk_frozen BK204.out 0
            have hns40_0 := NB189_204.out
            have hms40_0 := NB204_189.out
            have hs41 : w39.cell? ⟨gb204, 1, none⟩ = some (.int .i64 0) := bc BK204.out 1
            have hfs41 := blk_frozen BK204.out 1
            have hns41_0 := NB189_204.out
            have hms41_0 := NB204_189.out
            have hs42 : w39.cell? ⟨gb204, 2, none⟩ = some (.int .i64 0) := bc BK204.out 2
            have hfs42 := blk_frozen BK204.out 2
            have hns42_0 := NB189_204.out
            have hms42_0 := NB204_189.out
            refine skip_ (w1 := ?_) (by rfl) rfl ?_ ?_
            rotate_left
            · go_simp
              rfl
            refine hK.out _ _ ⟨((cell_far (p := ⟨gb204, _, none⟩) NB189_204.out _).trans (((cell_far (p := ⟨gb204, _, none⟩) NB189_204.out _).trans (((cell_far (p := ⟨gb204, _, none⟩) NB189_204.out _).trans (hHeld.1)))))), ((cell_far (p := ⟨gb204, _, none⟩) NB189_204.out _).trans (((cell_far (p := ⟨gb204, _, none⟩) NB189_204.out _).trans (((cell_far (p := ⟨gb204, _, none⟩) NB189_204.out _).trans (hHeld.2))))))⟩ (fun hHeld => ?_)
            clear hK K
            refine done_ (by kernel_rfl) ?_
            try go_wp2_with (first | ((with_reducible refine gate_callee (f := 9) rfl ?_); refine goesL_ (some 26) rfl rfl Tryz.func9 (by kernel_rfl) rfl #[.slice A0 l0.length c0] rfl Ag ?_; (with_reducible refine (laws_toPartS.calls k _ _ l0 t205 _ ?side1 ?side2 A16.out).mono ?_); (case side1 => exact Kd.C_below HR0.out By); (case side2 => exact HC0.out); rintro e w43 ⟨v206, rfl, ho0, hb⟩; refine ⟨_, rfl, ?_⟩; have n0_ := Aside0.mk (Kd.R_elder' (by (with_reducible repeat (first | apply Kd.R_alloc | apply Kd.R_drewN | apply Kd.R_drew)); exact (Kd.R_mono (Kd.R_far (p := ⟨gb204, 2, none⟩) (Kd.R_far (p := ⟨gb204, 1, none⟩) (Kd.R_far (p := ⟨gb204, 0, none⟩) (Kd.R_types HO194.out BK204.out (by decide)) (fun _ hk => hk.2) (.string t201)) (fun _ hk => hk.2) (.int .i64 t202)) (fun _ hk => hk.2) (.int .i64 t203)) (fun _ h_ => h_.1))) (Kd.R_base ho0) hb); have n1_ := Aside0.mk (Kd.R_below (by (with_reducible repeat (first | apply Kd.R_alloc | apply Kd.R_drewN | apply Kd.R_drew)); exact (Kd.R_mono (Kd.R_far (p := ⟨gb204, 2, none⟩) (Kd.R_far (p := ⟨gb204, 1, none⟩) (Kd.R_far (p := ⟨gb204, 0, none⟩) (Kd.R_types HO197.out BK204.out (by decide)) (fun _ hk => hk.2) (.string t201)) (fun _ hk => hk.2) (.int .i64 t202)) (fun _ hk => hk.2) (.int .i64 t203)) (fun _ h_ => h_.1))) hb); have n2_ := Aside0.mk (Kd.S_below (by (with_reducible repeat (first | apply Kd.S_alloc | apply Kd.S_drewN | apply Kd.S_drew)); exact (Kd.S_mono (Kd.S_far (p := ⟨gb204, 2, none⟩) (Kd.S_far (p := ⟨gb204, 1, none⟩) (Kd.S_far (p := ⟨gb204, 0, none⟩) (Kd.S_types HO200.out BK204.out (by decide)) (fun _ hk => hk.2) (.string t201)) (fun _ hk => hk.2) (.int .i64 t202)) (fun _ hk => hk.2) (.int .i64 t203)) (fun _ h_ => h_.1))) hb); have n3_ := Aside0.mk (Kd.R_lower (Kd.R_new' ho0 (Kd.R_lt (by (with_reducible repeat (first | apply Kd.R_alloc | apply Kd.R_drewN | apply Kd.R_drew)); exact (Kd.R_mono (Kd.R_far (p := ⟨gb204, 2, none⟩) (Kd.R_far (p := ⟨gb204, 1, none⟩) (Kd.R_far (p := ⟨gb204, 0, none⟩) (Kd.R_types HO194.out BK204.out (by decide)) (fun _ hk => hk.2) (.string t201)) (fun _ hk => hk.2) (.int .i64 t202)) (fun _ hk => hk.2) (.int .i64 t203)) (fun _ h_ => h_.1))))) (below_size By)); have n4_ := Aside0.mk (bf BK189.out hb); have n5_ := Aside0.mk (blk_below (g := gb204) (o := .cells #[.string t201, .int .i64 t202, .int .i64 t203] 30 (0, 0)) (pq3 Pk) hb); have n6_ := Aside0.mk (below_step By hb); clear HO194; clear HO197; clear HO200; clear BK189; clear BK204; clear HB; have HO194 := n0_; have HO197 := n1_; have HO200 := n2_; have HO207 := n3_; have BK189 := n4_; have BK204 := n5_; have HB := n6_; clear n0_ n1_ n2_ n3_ n4_ n5_ n6_; (try clear hb); (try clear hb2); (try clear hk); (try clear hi); (try clear ho0); have hnb44 := NB189_204.out; have hnc44 := NB204_189.out; have ⟨hcz45_0, hcz45_1⟩ := cq2 BK189.out; have ⟨hfz45_0, hfz45_1⟩ := fq2 BK189.out) | ((with_reducible refine gate_callee (f := 10) rfl ?_); refine goesL_ (some 28) rfl rfl Tryz.func10 (by kernel_rfl) rfl #[.agg #[.slice A1_0 l1_0.length c1_0, .slice A1_1 l1_1.length c1_1]] rfl Ag ?_; (with_reducible refine (laws_toEntry.calls k _ _ l1_0 _ _ l1_1 t208 t211 _ ?side1 ?side2 ?side3 ?side4 A17.out).mono ?_); (case side1 => exact rC (Kd.C_below HR1_0.out HB.out)); (case side2 => exact HC1_0.out); (case side3 => exact rC (Kd.C_below HR1_1.out HB.out)); (case side4 => exact HC1_1.out); rintro e w46 ⟨v209, v212, rfl, ho0, ho1, hb⟩; refine ⟨_, rfl, ?_⟩; have n0_ := Aside0.mk (Kd.R_below (rR HO194.out) hb); have n1_ := Aside0.mk (Kd.R_elder' (rR HO197.out) (Kd.R_base ho0) hb); have n2_ := Aside0.mk (Kd.S_elder' (rS HO200.out) (Kd.S_base ho1) hb); have n3_ := Aside0.mk (Kd.R_below (rR HO207.out) hb); have n4_ := Aside0.mk (Kd.R_lower (Kd.R_new' ho0 (Kd.R_lt (rR HO197.out))) (below_size By)); have n5_ := Aside0.mk (Kd.S_lower (Kd.S_new' ho1 (Kd.S_lt (rS HO200.out))) (below_size By)); have n6_ := Aside0.mk (bb BK189.out hb); have n7_ := Aside0.mk (bb BK204.out hb); have n8_ := Aside0.mk (below_step By hb); clear HO194; clear HO197; clear HO200; clear HO207; clear BK189; clear BK204; clear HB; have HO194 := n0_; have HO197 := n1_; have HO200 := n2_; have HO207 := n3_; have HO210 := n4_; have HO213 := n5_; have BK189 := n6_; have BK204 := n7_; have HB := n8_; clear n0_ n1_ n2_ n3_ n4_ n5_ n6_ n7_ n8_; (try clear hb); (try clear hb2); (try clear hk); (try clear hi); (try clear ho0); (try clear ho1)) | ((with_reducible refine gate_dst (N := 8) rfl ?_); refine box_event ?hg (N := 8) ?hd (cs := #[.slice none 0 0, .slice none 0 0]) (t := 37) ?hr ?_; (case hd => rfl); (case hg => rfl); (case hr => first | (go_simp; done) | (go_simp; rfl)); intro gb214 hg w47 hbox hb; have n0_ := Aside0.mk (Kd.R_below (rR HO194.out) hb); have n1_ := Aside0.mk (Kd.R_below (rR HO197.out) hb); have n2_ := Aside0.mk (Kd.S_below (rS HO200.out) hb); have n3_ := Aside0.mk (Kd.R_below (rR HO207.out) hb); have n4_ := Aside0.mk (Kd.R_below (rR HO210.out) hb); have n5_ := Aside0.mk (Kd.S_below (rS HO213.out) hb); have n6_ := Aside0.mk (bb BK189.out hb); have n7_ := Aside0.mk (bb BK204.out hb); have n8_ := Aside0.mk (below_step By hb); have n9_ := Aside0.mk (hbox); have n10_ := Aside0.mk ((by rw [hg]; exact (below_size By) : w.heap.size ≤ gb214)); have n11_ := Aside0.mk ((by rw [hg]; exact (below_size By) : w.heap.size ≤ gb214)); have n12_ := Aside0.mk ((by rw [hg]; exact Nat.ne_of_lt (bl BK189.out) : gb189 ≠ gb214)); have n13_ := Aside0.mk ((by rw [hg]; exact Nat.ne_of_gt (bl BK189.out) : gb214 ≠ gb189)); have n14_ := Aside0.mk ((by rw [hg]; exact Nat.ne_of_lt (bl BK204.out) : gb204 ≠ gb214)); have n15_ := Aside0.mk ((by rw [hg]; exact Nat.ne_of_gt (bl BK204.out) : gb214 ≠ gb204)); clear HO194; clear HO197; clear HO200; clear HO207; clear HO210; clear HO213; clear BK189; clear BK204; clear HB; have HO194 := n0_; have HO197 := n1_; have HO200 := n2_; have HO207 := n3_; have HO210 := n4_; have HO213 := n5_; have BK189 := n6_; have BK204 := n7_; have HB := n8_; have BK214 := n9_; have GW214 := n10_; have GE214 := n11_; have NB189_214 := n12_; have NB214_189 := n13_; have NB204_214 := n14_; have NB214_204 := n15_; clear n0_ n1_ n2_ n3_ n4_ n5_ n6_ n7_ n8_ n9_ n10_ n11_ n12_ n13_ n14_ n15_; clear hb hbox hg; obtain ⟨Ao48, co48, eo48⟩ := Kd.R_slice HO210.out; subst eo48; have hnb49 := NB214_189.out; have hnc49 := NB189_214.out; have hnb50 := NB214_204.out; have hnc50 := NB204_214.out; have ⟨hcz51_0, hcz51_1⟩ := cq2 BK214.out; have ⟨hfz51_0, hfz51_1⟩ := fq2 BK214.out; obtain ⟨Ao52, co52, eo52⟩ := Kd.S_slice HO213.out; subst eo52; obtain ⟨Ao53, co53, eo53⟩ := Kd.R_slice HO207.out; subst eo53) | ((with_reducible refine gate_callee (f := 11) rfl ?_); refine goesL_ (some 31) rfl rfl Tryz.func11 (by kernel_rfl) rfl #[.slice Ao53 t205.length co53, .agg #[.slice Ao48 t208.length co48, .slice Ao52 t211.length co52]] rfl Ag ?_; (with_reducible refine (impl_ExprEval.calls _ _ t205 _ _ t208 _ _ t211 t215 t216 t217 _ ?side1 ?side2 ?side3 ?side4 ?side5 ?side6 A18.out).mono ?_); (case side1 => refine (Kd.R_reads' (e := 70) (base := w.heap.size) (ok := fun k_ => (True ∧ some k_ ≠ (v193 : Value).ownBlock)) (n := t205.length) (c := co53) ?_).2.2; exact (by (with_reducible repeat (first | apply Kd.R_alloc | apply Kd.R_drewN | apply Kd.R_drew)); exact (Kd.R_mono (Kd.R_far (p := ⟨gb214, 1, none⟩) (Kd.R_far (p := ⟨gb214, 0, none⟩) (Kd.R_types HO207.out BK214.out (by decide)) (fun _ hk => hk.2) (.slice Ao48 t208.length co48)) (fun _ hk => hk.2) (.slice Ao52 t211.length co52)) (fun _ h_ => h_.1)))); (case side2 => exact (Kd.R_reads' HO207.out).2.1); (case side3 => refine (Kd.R_reads' (e := 113) (base := w.heap.size) (ok := fun k_ => (True ∧ some k_ ≠ (v196 : Value).ownBlock)) (n := t208.length) (c := co48) ?_).2.2; exact (by (with_reducible repeat (first | apply Kd.R_alloc | apply Kd.R_drewN | apply Kd.R_drew)); exact (Kd.R_mono (Kd.R_far (p := ⟨gb214, 1, none⟩) (Kd.R_far (p := ⟨gb214, 0, none⟩) (Kd.R_types HO210.out BK214.out (by decide)) (fun _ hk => hk.2) (.slice Ao48 t208.length co48)) (fun _ hk => hk.2) (.slice Ao52 t211.length co52)) (fun _ h_ => h_.1)))); (case side4 => exact (Kd.R_reads' HO210.out).2.1); (case side5 => refine (Kd.S_reads' (e := 115) (base := w.heap.size) (ok := fun k_ => (True ∧ some k_ ≠ (v199 : Value).ownBlock)) (n := t211.length) (c := co52) ?_).2.2; exact (by (with_reducible repeat (first | apply Kd.S_alloc | apply Kd.S_drewN | apply Kd.S_drew)); exact (Kd.S_mono (Kd.S_far (p := ⟨gb214, 1, none⟩) (Kd.S_far (p := ⟨gb214, 0, none⟩) (Kd.S_types HO213.out BK214.out (by decide)) (fun _ hk => hk.2) (.slice Ao48 t208.length co48)) (fun _ hk => hk.2) (.slice Ao52 t211.length co52)) (fun _ h_ => h_.1)))); (case side6 => exact (Kd.S_reads' HO213.out).2.1); rintro e w54 ⟨rfl, hb⟩; refine ⟨_, rfl, ?_⟩; have n0_ := Aside0.mk (Kd.R_below (by (with_reducible repeat (first | apply Kd.R_alloc | apply Kd.R_drewN | apply Kd.R_drew)); exact (Kd.R_mono (Kd.R_far (p := ⟨gb214, 1, none⟩) (Kd.R_far (p := ⟨gb214, 0, none⟩) (Kd.R_types HO194.out BK214.out (by decide)) (fun _ hk => hk.2) (.slice Ao48 t208.length co48)) (fun _ hk => hk.2) (.slice Ao52 t211.length co52)) (fun _ h_ => h_.1))) hb); have n1_ := Aside0.mk (Kd.R_below (by (with_reducible repeat (first | apply Kd.R_alloc | apply Kd.R_drewN | apply Kd.R_drew)); exact (Kd.R_mono (Kd.R_far (p := ⟨gb214, 1, none⟩) (Kd.R_far (p := ⟨gb214, 0, none⟩) (Kd.R_types HO197.out BK214.out (by decide)) (fun _ hk => hk.2) (.slice Ao48 t208.length co48)) (fun _ hk => hk.2) (.slice Ao52 t211.length co52)) (fun _ h_ => h_.1))) hb); have n2_ := Aside0.mk (Kd.S_below (by (with_reducible repeat (first | apply Kd.S_alloc | apply Kd.S_drewN | apply Kd.S_drew)); exact (Kd.S_mono (Kd.S_far (p := ⟨gb214, 1, none⟩) (Kd.S_far (p := ⟨gb214, 0, none⟩) (Kd.S_types HO200.out BK214.out (by decide)) (fun _ hk => hk.2) (.slice Ao48 t208.length co48)) (fun _ hk => hk.2) (.slice Ao52 t211.length co52)) (fun _ h_ => h_.1))) hb); have n3_ := Aside0.mk (Kd.R_below (by (with_reducible repeat (first | apply Kd.R_alloc | apply Kd.R_drewN | apply Kd.R_drew)); exact (Kd.R_mono (Kd.R_far (p := ⟨gb214, 1, none⟩) (Kd.R_far (p := ⟨gb214, 0, none⟩) (Kd.R_types HO207.out BK214.out (by decide)) (fun _ hk => hk.2) (.slice Ao48 t208.length co48)) (fun _ hk => hk.2) (.slice Ao52 t211.length co52)) (fun _ h_ => h_.1))) hb); have n4_ := Aside0.mk (Kd.R_below (by (with_reducible repeat (first | apply Kd.R_alloc | apply Kd.R_drewN | apply Kd.R_drew)); exact (Kd.R_mono (Kd.R_far (p := ⟨gb214, 1, none⟩) (Kd.R_far (p := ⟨gb214, 0, none⟩) (Kd.R_types HO210.out BK214.out (by decide)) (fun _ hk => hk.2) (.slice Ao48 t208.length co48)) (fun _ hk => hk.2) (.slice Ao52 t211.length co52)) (fun _ h_ => h_.1))) hb); have n5_ := Aside0.mk (Kd.S_below (by (with_reducible repeat (first | apply Kd.S_alloc | apply Kd.S_drewN | apply Kd.S_drew)); exact (Kd.S_mono (Kd.S_far (p := ⟨gb214, 1, none⟩) (Kd.S_far (p := ⟨gb214, 0, none⟩) (Kd.S_types HO213.out BK214.out (by decide)) (fun _ hk => hk.2) (.slice Ao48 t208.length co48)) (fun _ hk => hk.2) (.slice Ao52 t211.length co52)) (fun _ h_ => h_.1))) hb); have n6_ := Aside0.mk (bf BK189.out hb); have n7_ := Aside0.mk (bf BK204.out hb); have n8_ := Aside0.mk (blk_below (g := gb214) (o := .cells #[.slice Ao48 t208.length co48, .slice Ao52 t211.length co52] 37 (0, 0)) (pq2 Pk) hb); have n9_ := Aside0.mk (below_step By hb); clear HO194; clear HO197; clear HO200; clear HO207; clear HO210; clear HO213; clear BK189; clear BK204; clear BK214; clear HB; have HO194 := n0_; have HO197 := n1_; have HO200 := n2_; have HO207 := n3_; have HO210 := n4_; have HO213 := n5_; have BK189 := n6_; have BK204 := n7_; have BK214 := n8_; have HB := n9_; clear n0_ n1_ n2_ n3_ n4_ n5_ n6_ n7_ n8_ n9_; (try clear hb); (try clear hb2); (try clear hk); (try clear hi)) | ((with_reducible refine gate_dst (N := 9) rfl ?_); refine box_event ?hg (N := 9) ?hd (cs := #[.string (⟨#[]⟩ : ByteArray), .int .i64 0, .int .i64 0]) (t := 30) ?hr ?_; (case hd => rfl); (case hg => rfl); (case hr => first | (go_simp; done) | (go_simp; rfl)); intro gb218 hg w55 hbox hb; have n0_ := Aside0.mk (Kd.R_below (rR HO194.out) hb); have n1_ := Aside0.mk (Kd.R_below (rR HO197.out) hb); have n2_ := Aside0.mk (Kd.S_below (rS HO200.out) hb); have n3_ := Aside0.mk (Kd.R_below (rR HO207.out) hb); have n4_ := Aside0.mk (Kd.R_below (rR HO210.out) hb); have n5_ := Aside0.mk (Kd.S_below (rS HO213.out) hb); have n6_ := Aside0.mk (bb BK189.out hb); have n7_ := Aside0.mk (bb BK204.out hb); have n8_ := Aside0.mk (bb BK214.out hb); have n9_ := Aside0.mk (below_step By hb); have n10_ := Aside0.mk (hbox); have n11_ := Aside0.mk ((by rw [hg]; exact (below_size By) : w.heap.size ≤ gb218)); have n12_ := Aside0.mk ((by rw [hg]; exact (below_size By) : w.heap.size ≤ gb218)); have n13_ := Aside0.mk ((by rw [hg]; exact Nat.ne_of_lt (bl BK189.out) : gb189 ≠ gb218)); have n14_ := Aside0.mk ((by rw [hg]; exact Nat.ne_of_gt (bl BK189.out) : gb218 ≠ gb189)); have n15_ := Aside0.mk ((by rw [hg]; exact Nat.ne_of_lt (bl BK204.out) : gb204 ≠ gb218)); have n16_ := Aside0.mk ((by rw [hg]; exact Nat.ne_of_gt (bl BK204.out) : gb218 ≠ gb204)); have n17_ := Aside0.mk ((by rw [hg]; exact Nat.ne_of_lt (bl BK214.out) : gb214 ≠ gb218)); have n18_ := Aside0.mk ((by rw [hg]; exact Nat.ne_of_gt (bl BK214.out) : gb218 ≠ gb214)); clear HO194; clear HO197; clear HO200; clear HO207; clear HO210; clear HO213; clear BK189; clear BK204; clear BK214; clear HB; have HO194 := n0_; have HO197 := n1_; have HO200 := n2_; have HO207 := n3_; have HO210 := n4_; have HO213 := n5_; have BK189 := n6_; have BK204 := n7_; have BK214 := n8_; have HB := n9_; have BK218 := n10_; have GW218 := n11_; have GE218 := n12_; have NB189_218 := n13_; have NB218_189 := n14_; have NB204_218 := n15_; have NB218_204 := n16_; have NB214_218 := n17_; have NB218_214 := n18_; clear n0_ n1_ n2_ n3_ n4_ n5_ n6_ n7_ n8_ n9_ n10_ n11_ n12_ n13_ n14_ n15_ n16_ n17_ n18_; clear hb hbox hg; have hnb56 := NB218_189.out; have hnc56 := NB189_218.out; have hnb57 := NB218_204.out; have hnc57 := NB204_218.out; have hnb58 := NB218_214.out; have hnc58 := NB214_218.out; have ⟨hcz59_0, hcz59_1, hcz59_2⟩ := cq3 BK218.out; have ⟨hfz59_0, hfz59_1, hfz59_2⟩ := fq3 BK218.out; have ⟨hcz60_0, hcz60_1, hcz60_2⟩ := cq3 BK204.out; have ⟨hfz60_0, hfz60_1, hfz60_2⟩ := fq3 BK204.out) | ((with_reducible refine gate_callee (f := 12) rfl ?_); refine goesL_ (some 34) rfl rfl Tryz.func12 (by kernel_rfl) rfl #[.agg #[.string t215, .int .i64 t216, .int .i64 t217], .agg #[.string t201, .int .i64 t202, .int .i64 t203]] rfl Ag ?_; (with_reducible refine (laws_eqTextOut.calls t215 t216 t217 t201 t202 t203 true _ A19.out).mono ?_); rintro e w61 ⟨rfl, hb⟩; refine ⟨_, rfl, ?_⟩; have n0_ := Aside0.mk (Kd.R_below (by (with_reducible repeat (first | apply Kd.R_alloc | apply Kd.R_drewN | apply Kd.R_drew)); exact (Kd.R_mono (Kd.R_far (p := ⟨gb218, 2, none⟩) (Kd.R_far (p := ⟨gb218, 1, none⟩) (Kd.R_far (p := ⟨gb218, 0, none⟩) (Kd.R_types HO194.out BK218.out (by decide)) (fun _ hk => hk.2) (.string t215)) (fun _ hk => hk.2) (.int .i64 t216)) (fun _ hk => hk.2) (.int .i64 t217)) (fun _ h_ => h_.1))) hb); have n1_ := Aside0.mk (Kd.R_below (by (with_reducible repeat (first | apply Kd.R_alloc | apply Kd.R_drewN | apply Kd.R_drew)); exact (Kd.R_mono (Kd.R_far (p := ⟨gb218, 2, none⟩) (Kd.R_far (p := ⟨gb218, 1, none⟩) (Kd.R_far (p := ⟨gb218, 0, none⟩) (Kd.R_types HO197.out BK218.out (by decide)) (fun _ hk => hk.2) (.string t215)) (fun _ hk => hk.2) (.int .i64 t216)) (fun _ hk => hk.2) (.int .i64 t217)) (fun _ h_ => h_.1))) hb); have n2_ := Aside0.mk (Kd.S_below (by (with_reducible repeat (first | apply Kd.S_alloc | apply Kd.S_drewN | apply Kd.S_drew)); exact (Kd.S_mono (Kd.S_far (p := ⟨gb218, 2, none⟩) (Kd.S_far (p := ⟨gb218, 1, none⟩) (Kd.S_far (p := ⟨gb218, 0, none⟩) (Kd.S_types HO200.out BK218.out (by decide)) (fun _ hk => hk.2) (.string t215)) (fun _ hk => hk.2) (.int .i64 t216)) (fun _ hk => hk.2) (.int .i64 t217)) (fun _ h_ => h_.1))) hb); have n3_ := Aside0.mk (Kd.R_below (by (with_reducible repeat (first | apply Kd.R_alloc | apply Kd.R_drewN | apply Kd.R_drew)); exact (Kd.R_mono (Kd.R_far (p := ⟨gb218, 2, none⟩) (Kd.R_far (p := ⟨gb218, 1, none⟩) (Kd.R_far (p := ⟨gb218, 0, none⟩) (Kd.R_types HO207.out BK218.out (by decide)) (fun _ hk => hk.2) (.string t215)) (fun _ hk => hk.2) (.int .i64 t216)) (fun _ hk => hk.2) (.int .i64 t217)) (fun _ h_ => h_.1))) hb); have n4_ := Aside0.mk (Kd.R_below (by (with_reducible repeat (first | apply Kd.R_alloc | apply Kd.R_drewN | apply Kd.R_drew)); exact (Kd.R_mono (Kd.R_far (p := ⟨gb218, 2, none⟩) (Kd.R_far (p := ⟨gb218, 1, none⟩) (Kd.R_far (p := ⟨gb218, 0, none⟩) (Kd.R_types HO210.out BK218.out (by decide)) (fun _ hk => hk.2) (.string t215)) (fun _ hk => hk.2) (.int .i64 t216)) (fun _ hk => hk.2) (.int .i64 t217)) (fun _ h_ => h_.1))) hb); have n5_ := Aside0.mk (Kd.S_below (by (with_reducible repeat (first | apply Kd.S_alloc | apply Kd.S_drewN | apply Kd.S_drew)); exact (Kd.S_mono (Kd.S_far (p := ⟨gb218, 2, none⟩) (Kd.S_far (p := ⟨gb218, 1, none⟩) (Kd.S_far (p := ⟨gb218, 0, none⟩) (Kd.S_types HO213.out BK218.out (by decide)) (fun _ hk => hk.2) (.string t215)) (fun _ hk => hk.2) (.int .i64 t216)) (fun _ hk => hk.2) (.int .i64 t217)) (fun _ h_ => h_.1))) hb); have n6_ := Aside0.mk (bf BK189.out hb); have n7_ := Aside0.mk (bf BK204.out hb); have n8_ := Aside0.mk (bf BK214.out hb); have n9_ := Aside0.mk (blk_below (g := gb218) (o := .cells #[.string t215, .int .i64 t216, .int .i64 t217] 30 (0, 0)) (pq3 Pk) hb); have n10_ := Aside0.mk (below_step By hb); clear HO194; clear HO197; clear HO200; clear HO207; clear HO210; clear HO213; clear BK189; clear BK204; clear BK214; clear BK218; clear HB; have HO194 := n0_; have HO197 := n1_; have HO200 := n2_; have HO207 := n3_; have HO210 := n4_; have HO213 := n5_; have BK189 := n6_; have BK204 := n7_; have BK214 := n8_; have BK218 := n9_; have HB := n10_; clear n0_ n1_ n2_ n3_ n4_ n5_ n6_ n7_ n8_ n9_ n10_; (try clear hb); (try clear hb2); (try clear hk); (try clear hi)) | ((with_reducible refine gate_callee (f := 9) rfl ?_); refine goesL_ (some 38) rfl rfl Tryz.func9 (by kernel_rfl) rfl #[.slice A0 l0.length c0] rfl Ag ?_; (with_reducible refine (laws_toPartS.calls k _ _ l0 t220 _ ?side1 ?side2 A21.out).mono ?_); (case side1 => exact rC (Kd.C_below HR0.out HB.out)); (case side2 => exact HC0.out); rintro e w62 ⟨v221, rfl, ho0, hb⟩; refine ⟨_, rfl, ?_⟩; have n0_ := Aside0.mk (Kd.R_elder' (rR HO194.out) (Kd.R_base ho0) hb); have n1_ := Aside0.mk (Kd.R_below (rR HO197.out) hb); have n2_ := Aside0.mk (Kd.S_below (rS HO200.out) hb); have n3_ := Aside0.mk (Kd.R_elder' (rR HO207.out) (Kd.R_base ho0) hb); have n4_ := Aside0.mk (Kd.R_below (rR HO210.out) hb); have n5_ := Aside0.mk (Kd.S_below (rS HO213.out) hb); have n6_ := Aside0.mk (Kd.R_lower (Kd.R_new' (Kd.R_new' ho0 (Kd.R_lt (rR HO194.out))) (Kd.R_lt (rR HO207.out))) (below_size By)); have n7_ := Aside0.mk (bb BK189.out hb); have n8_ := Aside0.mk (bb BK204.out hb); have n9_ := Aside0.mk (bb BK214.out hb); have n10_ := Aside0.mk (bb BK218.out hb); have n11_ := Aside0.mk (below_step By hb); clear HO194; clear HO197; clear HO200; clear HO207; clear HO210; clear HO213; clear BK189; clear BK204; clear BK214; clear BK218; clear HB; have HO194 := n0_; have HO197 := n1_; have HO200 := n2_; have HO207 := n3_; have HO210 := n4_; have HO213 := n5_; have HO222 := n6_; have BK189 := n7_; have BK204 := n8_; have BK214 := n9_; have BK218 := n10_; have HB := n11_; clear n0_ n1_ n2_ n3_ n4_ n5_ n6_ n7_ n8_ n9_ n10_ n11_; (try clear hb); (try clear hb2); (try clear hk); (try clear hi); (try clear ho0); obtain ⟨Ao63, co63, eo63⟩ := Kd.R_slice HO222.out; subst eo63) | ((with_reducible refine gate_callee (f := 13) rfl ?_); refine goesL_ (some 39) rfl rfl Tryz.func13 (by kernel_rfl) rfl #[.slice Ao53 t205.length co53, .slice Ao63 t220.length co63] rfl Ag ?_; (with_reducible refine (laws_eqPartS.calls k _ _ t205 _ _ t220 true _ ?side1 ?side2 ?side3 ?side4 A22.out).mono ?_); (case side1 => exact rC (Kd.R_reads' HO207.out).2.2); (case side2 => exact (Kd.R_reads' HO207.out).2.1); (case side3 => exact rC (Kd.R_reads' HO222.out).2.2); (case side4 => exact (Kd.R_reads' HO222.out).2.1); rintro e w64 ⟨rfl, hb⟩; refine ⟨_, rfl, ?_⟩; have n0_ := Aside0.mk (Kd.R_below (rR HO194.out) hb); have n1_ := Aside0.mk (Kd.R_below (rR HO197.out) hb); have n2_ := Aside0.mk (Kd.S_below (rS HO200.out) hb); have n3_ := Aside0.mk (Kd.R_below (rR HO207.out) hb); have n4_ := Aside0.mk (Kd.R_below (rR HO210.out) hb); have n5_ := Aside0.mk (Kd.S_below (rS HO213.out) hb); have n6_ := Aside0.mk (Kd.R_below (rR HO222.out) hb); have n7_ := Aside0.mk (bb BK189.out hb); have n8_ := Aside0.mk (bb BK204.out hb); have n9_ := Aside0.mk (bb BK214.out hb); have n10_ := Aside0.mk (bb BK218.out hb); have n11_ := Aside0.mk (below_step By hb); clear HO194; clear HO197; clear HO200; clear HO207; clear HO210; clear HO213; clear HO222; clear BK189; clear BK204; clear BK214; clear BK218; clear HB; have HO194 := n0_; have HO197 := n1_; have HO200 := n2_; have HO207 := n3_; have HO210 := n4_; have HO213 := n5_; have HO222 := n6_; have BK189 := n7_; have BK204 := n8_; have BK214 := n9_; have BK218 := n10_; have HB := n11_; clear n0_ n1_ n2_ n3_ n4_ n5_ n6_ n7_ n8_ n9_ n10_ n11_; (try clear hb); (try clear hb2); (try clear hk); (try clear hi)))
            have n0_ := Aside0.mk (Kd.R_drew HO194.out)
            have n1_ := Aside0.mk (Kd.R_drew HO197.out)
            have n2_ := Aside0.mk (Kd.S_drew HO200.out)
            have n3_ := Aside0.mk (Kd.R_drew HO207.out)
            have n4_ := Aside0.mk (Kd.R_drew HO210.out)
            have n5_ := Aside0.mk (Kd.S_drew HO213.out)
            have n6_ := Aside0.mk (Kd.R_drew HO222.out)
            have n7_ := Aside0.mk (blk_drew BK189.out)
            have n8_ := Aside0.mk (blk_drew BK204.out)
            have n9_ := Aside0.mk (blk_drew BK214.out)
            have n10_ := Aside0.mk (blk_drew BK218.out)
            have n11_ := Aside0.mk (below_drew1 HB.out)
            clear HO194
            clear HO197
            clear HO200
            clear HO207
            clear HO210
            clear HO213
            clear HO222
            clear BK189
            clear BK204
            clear BK214
            clear BK218
            clear HB
            have HO194 := n0_
            have HO197 := n1_
            have HO200 := n2_
            have HO207 := n3_
            have HO210 := n4_
            have HO213 := n5_
            have HO222 := n6_
            have BK189 := n7_
            have BK204 := n8_
            have BK214 := n9_
            have BK218 := n10_
            have HB := n11_
            clear n0_ n1_ n2_ n3_ n4_ n5_ n6_ n7_ n8_ n9_ n10_ n11_
            refine start_ (n := 5) (S := fun w' => w'.cell? ⟨gb214, 0, none⟩ = some (.slice Ao48 t208.length co48) ∧ w'.cell? ⟨gb214, 1, none⟩ = some (.slice Ao52 t211.length co52) ∧ w'.cell? ⟨gb189, 0, none⟩ = some (.slice A1_0 l1_0.length c1_0) ∧ w'.cell? ⟨gb189, 1, none⟩ = some (.slice A1_1 l1_1.length c1_1)) (ds := []) (bv 5 0) (by kernel_rfl) rfl rfl ⟨bc BK214.out 0, bc BK214.out 1, bc BK189.out 0, bc BK189.out 1⟩ (fun hHeld => ?_)
            generalize w64.drew = w65 at HO194 HO197 HO200 HO207 HO210 HO213 HO222 BK189 BK204 BK214 BK218 HB hHeld ⊢
            refine take_ (i := 0) (N := some 41) (v := ?_) (a' := ?_) (bv 5 1) rfl rfl (by kernel_rfl) (fun _ _ _ h => h) (Or.inl ⟨by rfl, ?_⟩) hHeld ?_ ?_
            rotate_left
            · rintro w' ⟨s0, s1, s2, s3⟩
              go_simp
              with_reducible rfl
            rotate_left
            · simp only [Act.put, List.setIfInBounds_toArray, List.set_cons_zero, List.set_cons_succ, i64_w, i32_w]
              rfl
            refine take_ (i := 1) (N := some 42) (v := ?_) (a' := ?_) (bv 5 3) rfl rfl (by kernel_rfl) (fun _ _ _ h => h) (Or.inl ⟨by rfl, ?_⟩) hHeld ?_ ?_
            rotate_left
            · rintro w' ⟨s0, s1, s2, s3⟩
              go_simp
              with_reducible rfl
            rotate_left
            · simp only [Act.put, List.setIfInBounds_toArray, List.set_cons_zero, List.set_cons_succ, i64_w, i32_w]
              rfl
            refine one_ (i := 2) (N := some 43) (bv 5 7) rfl rfl (by kernel_rfl) (by decide) (fun K hK => ?_)
            refine goes_ Tryz.func10 (by kernel_rfl) rfl #[.agg #[.slice A1_0 l1_0.length c1_0, .slice A1_1 l1_1.length c1_1]] (by rfl) rfl rfl Ag ?_
            with_reducible refine (laws_toEntry.calls k _ _ l1_0 _ _ l1_1 t224 t227 _ ?side1 ?side2 ?side3 ?side4 A24.out).mono ?_
            (case side1 => exact rC (Kd.C_below HR1_0.out HB.out))
            (case side2 => exact HC1_0.out)
            (case side3 => exact rC (Kd.C_below HR1_1.out HB.out))
            (case side4 => exact HC1_1.out)
            rintro e w66 ⟨v225, v228, rfl, ho0, ho1, hb⟩
            refine ⟨_, rfl, ?_⟩
            have n0_ := Aside0.mk (Kd.R_below (rR HO194.out) hb)
            have n1_ := Aside0.mk (Kd.R_elder' (rR HO197.out) (Kd.R_base ho0) hb)
            have n2_ := Aside0.mk (Kd.S_elder' (rS HO200.out) (Kd.S_base ho1) hb)
            have n3_ := Aside0.mk (Kd.R_below (rR HO207.out) hb)
            have n4_ := Aside0.mk (Kd.R_elder' (rR HO210.out) (Kd.R_base ho0) hb)
            have n5_ := Aside0.mk (Kd.S_elder' (rS HO213.out) (Kd.S_base ho1) hb)
            have n6_ := Aside0.mk (Kd.R_below (rR HO222.out) hb)
            have n7_ := Aside0.mk (Kd.R_lower (Kd.R_new' (Kd.R_new' ho0 (Kd.R_lt (rR HO197.out))) (Kd.R_lt (rR HO210.out))) (below_size By))
            have n8_ := Aside0.mk (Kd.S_lower (Kd.S_new' (Kd.S_new' ho1 (Kd.S_lt (rS HO200.out))) (Kd.S_lt (rS HO213.out))) (below_size By))
            have n9_ := Aside0.mk (bb BK189.out hb)
            have n10_ := Aside0.mk (bb BK204.out hb)
            have n11_ := Aside0.mk (bb BK214.out hb)
            have n12_ := Aside0.mk (bb BK218.out hb)
            have n13_ := Aside0.mk (below_step By hb)
            clear HO194
            clear HO197
            clear HO200
            clear HO207
            clear HO210
            clear HO213
            clear HO222
            clear BK189
            clear BK204
            clear BK214
            clear BK218
            clear HB
            have HO194 := n0_
            have HO197 := n1_
            have HO200 := n2_
            have HO207 := n3_
            have HO210 := n4_
            have HO213 := n5_
            have HO222 := n6_
            have HO226 := n7_
            have HO229 := n8_
            have BK189 := n9_
            have BK204 := n10_
            have BK214 := n11_
            have BK218 := n12_
            have HB := n13_
            clear n0_ n1_ n2_ n3_ n4_ n5_ n6_ n7_ n8_ n9_ n10_ n11_ n12_ n13_
            (try clear hb)
            (try clear hb2)
            (try clear hk)
            (try clear hi)
            (try clear ho0)
            (try clear ho1)
            obtain ⟨Ao67, co67, eo67⟩ := Kd.R_slice HO226.out
            (first | subst eo67 | (injection eo67 with f1_ f2_ f3_; have f4_ := f1_.symm; have f5_ := f3_.symm; clear f1_ f2_ f3_; subst f4_; subst f5_))
            obtain ⟨Ao68, co68, eo68⟩ := Kd.S_slice HO229.out
            (first | subst eo68 | (injection eo68 with f1_ f2_ f3_; have f4_ := f1_.symm; have f5_ := f3_.symm; clear f1_ f2_ f3_; subst f4_; subst f5_))
            refine hK.out _ _ ⟨bc BK214.out 0, bc BK214.out 1, bc BK189.out 0, bc BK189.out 1⟩ (fun hHeld => ?_)
            clear hK K
            refine norm_ (a' := ?_) ?_ ?_
            rotate_left
            · show Act.put _ (some 43) _ = _
              simp only [Act.put, List.setIfInBounds_toArray, List.set_cons_zero, List.set_cons_succ, i64_w, i32_w]
              rfl
            refine one_ (i := 3) (N := some 44) (bv 5 15) rfl rfl (by kernel_rfl) (by decide) (fun K hK => ?_)
            refine goes_ Tryz.func14 (by kernel_rfl) rfl #[.agg #[.slice Ao48 t208.length co48, .slice Ao52 t211.length co52], .agg #[.slice Ao67 t224.length co67, .slice Ao68 t227.length co68]] (by rfl) rfl rfl Ag ?_
            with_reducible refine (laws_eqEntry.calls k _ _ t208 _ _ t211 _ _ t224 _ _ t227 true _ ?side1 ?side2 ?side3 ?side4 ?side5 ?side6 ?side7 ?side8 A25.out).mono ?_
            (case side1 => exact rC (Kd.R_reads' HO210.out).2.2)
            (case side2 => exact (Kd.R_reads' HO210.out).2.1)
            (case side3 => repeat (first | exact (Kd.S_reads' HO213.out).2.2 | (with_reducible refine Kd.C_alloc ?_ _) | (with_reducible refine Kd.C_drewN ?_ _) | (with_reducible refine Kd.C_drew ?_)))
            (case side4 => exact (Kd.S_reads' HO213.out).2.1)
            (case side5 => exact rC (Kd.R_reads' HO226.out).2.2)
            (case side6 => exact (Kd.R_reads' HO226.out).2.1)
            (case side7 => repeat (first | exact (Kd.S_reads' HO229.out).2.2 | (with_reducible refine Kd.C_alloc ?_ _) | (with_reducible refine Kd.C_drewN ?_ _) | (with_reducible refine Kd.C_drew ?_)))
            (case side8 => exact (Kd.S_reads' HO229.out).2.1)
            rintro e w69 ⟨rfl, hb⟩
            refine ⟨_, rfl, ?_⟩
            have n0_ := Aside0.mk (Kd.R_below (rR HO194.out) hb)
            have n1_ := Aside0.mk (Kd.R_below (rR HO197.out) hb)
            have n2_ := Aside0.mk (Kd.S_below (rS HO200.out) hb)
            have n3_ := Aside0.mk (Kd.R_below (rR HO207.out) hb)
            have n4_ := Aside0.mk (Kd.R_below (rR HO210.out) hb)
            have n5_ := Aside0.mk (Kd.S_below (rS HO213.out) hb)
            have n6_ := Aside0.mk (Kd.R_below (rR HO222.out) hb)
            have n7_ := Aside0.mk (Kd.R_below (rR HO226.out) hb)
            have n8_ := Aside0.mk (Kd.S_below (rS HO229.out) hb)
            have n9_ := Aside0.mk (bb BK189.out hb)
            have n10_ := Aside0.mk (bb BK204.out hb)
            have n11_ := Aside0.mk (bb BK214.out hb)
            have n12_ := Aside0.mk (bb BK218.out hb)
            have n13_ := Aside0.mk (below_step By hb)
            clear HO194
            clear HO197
            clear HO200
            clear HO207
            clear HO210
            clear HO213
            clear HO222
            clear HO226
            clear HO229
            clear BK189
            clear BK204
            clear BK214
            clear BK218
            clear HB
            have HO194 := n0_
            have HO197 := n1_
            have HO200 := n2_
            have HO207 := n3_
            have HO210 := n4_
            have HO213 := n5_
            have HO222 := n6_
            have HO226 := n7_
            have HO229 := n8_
            have BK189 := n9_
            have BK204 := n10_
            have BK214 := n11_
            have BK218 := n12_
            have HB := n13_
            clear n0_ n1_ n2_ n3_ n4_ n5_ n6_ n7_ n8_ n9_ n10_ n11_ n12_ n13_
            (try clear hb)
            (try clear hb2)
            (try clear hk)
            (try clear hi)
            refine hK.out _ _ ⟨bc BK214.out 0, bc BK214.out 1, bc BK189.out 0, bc BK189.out 1⟩ (fun hHeld => ?_)
            clear hK K
            refine norm_ (a' := ?_) ?_ ?_
            rotate_left
            · show Act.put _ (some 44) _ = _
              simp only [Act.put, List.setIfInBounds_toArray, List.set_cons_zero, List.set_cons_succ, i64_w, i32_w]
              rfl
            refine pure_ (i := 4) (N := some 45) (v := ?_) (a' := ?_) (bv 5 31) rfl rfl (by kernel_rfl) (fun _ _ _ h => h) (Or.inl ⟨by rfl, ?_⟩) ?_ ?_
            rotate_left
            · intro w'
              go_simp
              with_reducible rfl
            rotate_left
            · simp only [Act.put, List.setIfInBounds_toArray, List.set_cons_zero, List.set_cons_succ, i64_w, i32_w]
              rfl
            refine done_ (by kernel_rfl) ?_
            try go_wp2
            go_ret
            exact ⟨Rf, By⟩
          · replace c26 := Bool.eq_false_iff.mpr c26
            subst c26
            have H1 : (some false) = some r := by rw [if_neg (show ¬ (false = true) by decide)] at H; exact H
            exact absurd (Option.some.inj H1) (by rw [HRT.out]; decide)
        · replace c23 := Bool.eq_false_iff.mpr c23
          subst c23
          have H1 : (some false) = some r := by rw [if_neg (show ¬ (false = true) by decide)] at H; exact H
          exact absurd (Option.some.inj H1) (by rw [HRT.out]; decide)
      · replace c20 := Bool.eq_false_iff.mpr c20
        subst c20
        have H1 : (some false) = some r := by rw [if_neg (show ¬ (false = true) by decide)] at H; exact H
        exact absurd (Option.some.inj H1) (by rw [HRT.out]; decide)

end Go.Proofs.YtpocoeghobdfiaaGreatDoor.PG
