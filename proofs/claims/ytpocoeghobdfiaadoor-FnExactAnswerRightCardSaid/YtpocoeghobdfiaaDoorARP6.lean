/-
  Functions that the law reaches, each as a plain Lean function, with the proof that the call comes to it (written by a program of this session by way of the kit's print program). Conditions: what each contract states.
-/
import Derived.Test.YtpocoeghobdfiaaDoorARP1
import Derived.Test.YtpocoeghobdfiaaDoorARP2
import Derived.Test.YtpocoeghobdfiaaDoorARP3
import Derived.Test.YtpocoeghobdfiaaDoorARAnswer
import Derived.Test.YtpocoeghobdfiaaDoorARSq
-- WRITTEN BY A PROGRAM OF THIS SESSION (wip/gen/gen.py), by way of the kit's print program. Lean checks it.
namespace Go.Proofs.YtpocoeghobdfiaaDoor.PG
open Go.Proofs.YtpocoeghobdfiaaDoor.Sq Go.RowKit Go.Proofs.YtpocoeghobdfiaaDoorW.PrintWords Go.Proofs.YtpocoeghobdfiaaDoorW.PrintLast Go.Proofs.YtpocoeghobdfiaaDoorW.PrintMore
attribute [local go_sem] max2_int min2_int max_two min_two max_three min_three max_four min_four   -- for this text's walks alone
set_option linter.unusedVariables false
set_option linter.unusedSimpArgs false

/-! ### laws_FnExactAnswerRight: function 7 -/
def laws_FnExactAnswerRight.f (k : Nat) (a0_0 : Int) (a0_1 : Int) (l0_2 : List (S61)) : Option (Bool) := (laws_szAnswer.f k a0_0 a0_1 l0_2 1048576).bind fun t565 => (if t565 < 0 then (some true) else ((laws_toAnswer.f k a0_0 a0_1 l0_2).bind fun bt566 => ((spec_AnswerRight.f k bt566.1 bt566.2.1 bt566.2.2).bind fun t571 => ((laws_toAnswer.f k a0_0 a0_1 l0_2).bind fun bt572 => ((impl_AnswerRight.f bt572.1 bt572.2.1 bt572.2.2).bind fun t578 => (if (t578 != t571) = true then (some false) else ((laws_toAnswer.f k a0_0 a0_1 l0_2).bind fun bt579 => ((laws_eqAnswer.f k bt572.1 bt572.2.1 bt572.2.2 bt579.1 bt579.2.1 bt579.2.2).bind fun t584 => (if t584 = true then (some true) else (some false))))))))))
theorem laws_FnExactAnswerRight.mono : ∀ a0 a1 a2 k, LeO (laws_FnExactAnswerRight.f k a0 a1 a2) (laws_FnExactAnswerRight.f (k + 1) a0 a1 a2) := by
  intro a0 a1 a2 k
  unfold laws_FnExactAnswerRight.f
  repeat' first
      | (with_reducible exact laws_eqAnswer.mono _ _ _ _ _ _ _)
      | (with_reducible exact laws_szAnswer.mono _ _ _ _ _)
      | (with_reducible exact laws_toAnswer.mono _ _ _ _)
      | (with_reducible exact spec_AnswerRight.mono _ _ _ _)
      | (with_reducible exact LeO.refl _)
      | (with_reducible exact LeO.none _)
      | (with_reducible refine LeO.ite ?_ ?_)
      | (with_reducible refine LeO.bind ?_ (fun _ => ?_))
      | exact laws_eqAnswer.mono _ _ _ _ _ _ _
      | exact laws_szAnswer.mono _ _ _ _ _
      | exact laws_toAnswer.mono _ _ _ _
      | exact spec_AnswerRight.mono _ _ _ _
      | exact LeO.none _
      | refine LeO.ite ?_ ?_
      | refine LeO.bind ?_ (fun _ => ?_)
set_option maxHeartbeats 8000000 in
set_option maxRecDepth 100000 in
theorem laws_FnExactAnswerRight.calls (k : Nat) (a0_0 : Int) (a0_1 : Int) (A0_2 : Option Addr) (c0_2 : Nat) (l0_2 : List (S61)) (r : Bool) (w : World) (hr0_2 : Kd.C k61 w A0_2 l0_2.length l0_2) (hc0_2 : l0_2.length ≤ c0_2) (h : laws_FnExactAnswerRight.f k a0_0 a0_1 l0_2 = some r) :
    Calls Tryd.prog 7 #[.agg #[.int .i64 a0_0, .int .i64 a0_1, .slice A0_2 l0_2.length c0_2]] w fun e w' => e = .returned (.bool r) ∧ Below w.heap.size w w' := by
  have hu49 := Tryd.underlying49
  have hu54 := Tryd.underlying54
  have HR0_2 := Aside0.mk hr0_2
  have HC0_2 := Aside0.mk hc0_2
  clear hr0_2 hc0_2
  have HB := Aside0.mk (Below.refl w.heap.size w)
  have H : ((laws_szAnswer.f k a0_0 a0_1 l0_2 1048576).bind fun t565 => (if t565 < 0 then (some true) else ((laws_toAnswer.f k a0_0 a0_1 l0_2).bind fun bt566 => ((spec_AnswerRight.f k bt566.1 bt566.2.1 bt566.2.2).bind fun t571 => ((laws_toAnswer.f k a0_0 a0_1 l0_2).bind fun bt572 => ((impl_AnswerRight.f bt572.1 bt572.2.1 bt572.2.2).bind fun t578 => (if (t578 != t571) = true then (some false) else ((laws_toAnswer.f k a0_0 a0_1 l0_2).bind fun bt579 => ((laws_eqAnswer.f k bt572.1 bt572.2.1 bt572.2.2 bt579.1 bt579.2.1 bt579.2.2).bind fun t584 => (if t584 = true then (some true) else (some false))))))))))) = some r := h
  clear h
  replace H := Option.bind_eq_some_iff.mp H
  obtain ⟨t565, A20, H⟩ := H
  replace H : (if t565 < 0 then (some true) else ((laws_toAnswer.f k a0_0 a0_1 l0_2).bind fun bt566 => ((spec_AnswerRight.f k bt566.1 bt566.2.1 bt566.2.2).bind fun t571 => ((laws_toAnswer.f k a0_0 a0_1 l0_2).bind fun bt572 => ((impl_AnswerRight.f bt572.1 bt572.2.1 bt572.2.2).bind fun t578 => (if (t578 != t571) = true then (some false) else ((laws_toAnswer.f k a0_0 a0_1 l0_2).bind fun bt579 => ((laws_eqAnswer.f k bt572.1 bt572.2.1 bt572.2.2 bt579.1 bt579.2.1 bt579.2.2).bind fun t584 => (if t584 = true then (some true) else (some false)))))))))) = some r := H
  have A2 := Aside0.mk A20
  clear A20
  by_cases c3 : t565 < 0
  · rw [if_pos c3] at H
    have c3b0 : decide (t565 < 0) = true := decide_eq_true c3
    clear c3
    obtain rfl := Option.some.inj H
    go_enter Tryd.func7, Tryd.ntmps7
    go_wp2_with (first | ((with_reducible refine gate_dst (N := 1) rfl ?_); refine box_event ?hg (N := 1) ?hd (cs := #[.int .i64 a0_0, .int .i64 a0_1, .slice A0_2 l0_2.length c0_2]) (t := 49) ?hr ?_; (case hd => rfl); (case hg => rfl); (case hr => first | (go_simp; done) | (go_simp; rfl)); intro gb564 hg w4 hbox hb; have n0_ := Aside0.mk (below_step By hb); have n1_ := Aside0.mk (hbox); have n2_ := Aside0.mk ((by rw [hg]; exact (below_size By) : w.heap.size ≤ gb564)); have n3_ := Aside0.mk ((by rw [hg]; exact (below_size By) : w.heap.size ≤ gb564)); clear HB; have HB := n0_; have BK564 := n1_; have GW564 := n2_; have GE564 := n3_; clear n0_ n1_ n2_ n3_; clear hb hbox hg; have ⟨hcz5_0, hcz5_1, hcz5_2⟩ := cq3 BK564.out; have ⟨hfz5_0, hfz5_1, hfz5_2⟩ := fq3 BK564.out) | ((with_reducible refine gate_callee (f := 29) rfl ?_); refine goesL_ (some 9) rfl rfl Tryd.func29 (by kernel_rfl) rfl #[.agg #[.int .i64 a0_0, .int .i64 a0_1, .slice A0_2 l0_2.length c0_2], .int .i64 1048576] rfl Ag ?_; (with_reducible refine (laws_szAnswer.calls k a0_0 a0_1 _ _ l0_2 1048576 t565 _ ?side1 ?side2 A2.out).mono ?_); (case side1 => repeat (first | exact (Kd.C_below HR0_2.out HB.out) | (with_reducible refine Kd.C_alloc ?_ _) | (with_reducible refine Kd.C_drewN ?_ _) | (with_reducible refine Kd.C_drew ?_))); (case side2 => exact HC0_2.out); rintro e w6 ⟨rfl, hb⟩; refine ⟨_, rfl, ?_⟩; have n0_ := Aside0.mk (bb BK564.out hb); have n1_ := Aside0.mk (below_step By hb); clear BK564; clear HB; have BK564 := n0_; have HB := n1_; clear n0_ n1_; (try clear hb); (try clear hb2); (try clear hk); (try clear hi)))
    go_ret
    exact ⟨Rf, By⟩
  · rw [if_neg c3] at H
    have c3b0 : decide (t565 < 0) = false := decide_eq_false c3
    clear c3
    replace H := Option.bind_eq_some_iff.mp H
    obtain ⟨⟨t566, t567, t568⟩, A70, H⟩ := H
    replace H : ((spec_AnswerRight.f k t566 t567 t568).bind fun t571 => ((laws_toAnswer.f k a0_0 a0_1 l0_2).bind fun bt572 => ((impl_AnswerRight.f bt572.1 bt572.2.1 bt572.2.2).bind fun t578 => (if (t578 != t571) = true then (some false) else ((laws_toAnswer.f k a0_0 a0_1 l0_2).bind fun bt579 => ((laws_eqAnswer.f k bt572.1 bt572.2.1 bt572.2.2 bt579.1 bt579.2.1 bt579.2.2).bind fun t584 => (if t584 = true then (some true) else (some false)))))))) = some r := H
    have A7 := Aside0.mk A70
    clear A70
    replace H := Option.bind_eq_some_iff.mp H
    obtain ⟨t571, A80, H⟩ := H
    replace H : ((laws_toAnswer.f k a0_0 a0_1 l0_2).bind fun bt572 => ((impl_AnswerRight.f bt572.1 bt572.2.1 bt572.2.2).bind fun t578 => (if (t578 != t571) = true then (some false) else ((laws_toAnswer.f k a0_0 a0_1 l0_2).bind fun bt579 => ((laws_eqAnswer.f k bt572.1 bt572.2.1 bt572.2.2 bt579.1 bt579.2.1 bt579.2.2).bind fun t584 => (if t584 = true then (some true) else (some false))))))) = some r := H
    have A8 := Aside0.mk A80
    clear A80
    replace H := Option.bind_eq_some_iff.mp H
    obtain ⟨⟨t572, t573, t574⟩, A90, H⟩ := H
    replace H : ((impl_AnswerRight.f t572 t573 t574).bind fun t578 => (if (t578 != t571) = true then (some false) else ((laws_toAnswer.f k a0_0 a0_1 l0_2).bind fun bt579 => ((laws_eqAnswer.f k t572 t573 t574 bt579.1 bt579.2.1 bt579.2.2).bind fun t584 => (if t584 = true then (some true) else (some false)))))) = some r := H
    have A9 := Aside0.mk A90
    clear A90
    replace H := Option.bind_eq_some_iff.mp H
    obtain ⟨t578, A100, H⟩ := H
    replace H : (if (t578 != t571) = true then (some false) else ((laws_toAnswer.f k a0_0 a0_1 l0_2).bind fun bt579 => ((laws_eqAnswer.f k t572 t573 t574 bt579.1 bt579.2.1 bt579.2.2).bind fun t584 => (if t584 = true then (some true) else (some false))))) = some r := H
    have A10 := Aside0.mk A100
    clear A100
    by_cases c11 : (t578 != t571) = true
    · rw [if_pos c11] at H
      have c11b0 : (t578 != t571) = true := c11
      (try (have c11b1 : decide (t578 = t571) = false := by simpa using c11))
      (try (have c11b2 : (t578 == t571) = false := by simpa using c11))
      (try (have c11b3 : ¬ (t578 = t571) := by simpa using c11))
      clear c11
      obtain rfl := Option.some.inj H
      go_enter Tryd.func7, Tryd.ntmps7
      go_wp2_with (first | ((with_reducible refine gate_dst (N := 1) rfl ?_); refine box_event ?hg (N := 1) ?hd (cs := #[.int .i64 a0_0, .int .i64 a0_1, .slice A0_2 l0_2.length c0_2]) (t := 49) ?hr ?_; (case hd => rfl); (case hg => rfl); (case hr => first | (go_simp; done) | (go_simp; rfl)); intro gb564 hg w12 hbox hb; have n0_ := Aside0.mk (below_step By hb); have n1_ := Aside0.mk (hbox); have n2_ := Aside0.mk ((by rw [hg]; exact (below_size By) : w.heap.size ≤ gb564)); have n3_ := Aside0.mk ((by rw [hg]; exact (below_size By) : w.heap.size ≤ gb564)); clear HB; have HB := n0_; have BK564 := n1_; have GW564 := n2_; have GE564 := n3_; clear n0_ n1_ n2_ n3_; clear hb hbox hg; have ⟨hcz13_0, hcz13_1, hcz13_2⟩ := cq3 BK564.out; have ⟨hfz13_0, hfz13_1, hfz13_2⟩ := fq3 BK564.out) | ((with_reducible refine gate_callee (f := 29) rfl ?_); refine goesL_ (some 9) rfl rfl Tryd.func29 (by kernel_rfl) rfl #[.agg #[.int .i64 a0_0, .int .i64 a0_1, .slice A0_2 l0_2.length c0_2], .int .i64 1048576] rfl Ag ?_; (with_reducible refine (laws_szAnswer.calls k a0_0 a0_1 _ _ l0_2 1048576 t565 _ ?side1 ?side2 A2.out).mono ?_); (case side1 => repeat (first | exact (Kd.C_below HR0_2.out HB.out) | (with_reducible refine Kd.C_alloc ?_ _) | (with_reducible refine Kd.C_drewN ?_ _) | (with_reducible refine Kd.C_drew ?_))); (case side2 => exact HC0_2.out); rintro e w14 ⟨rfl, hb⟩; refine ⟨_, rfl, ?_⟩; have n0_ := Aside0.mk (bb BK564.out hb); have n1_ := Aside0.mk (below_step By hb); clear BK564; clear HB; have BK564 := n0_; have HB := n1_; clear n0_ n1_; (try clear hb); (try clear hb2); (try clear hk); (try clear hi); have ⟨hcz15_0, hcz15_1, hcz15_2⟩ := cq3 BK564.out; have ⟨hfz15_0, hfz15_1, hfz15_2⟩ := fq3 BK564.out) | ((with_reducible refine gate_callee (f := 31) rfl ?_); refine goesL_ (some 13) rfl rfl Tryd.func31 (by kernel_rfl) rfl #[.agg #[.int .i64 a0_0, .int .i64 a0_1, .slice A0_2 l0_2.length c0_2]] rfl Ag ?_; (with_reducible refine (laws_toAnswer.calls k a0_0 a0_1 _ _ l0_2 t566 t567 t568 _ ?side1 ?side2 A7.out).mono ?_); (case side1 => repeat (first | exact (Kd.C_below HR0_2.out HB.out) | (with_reducible refine Kd.C_alloc ?_ _) | (with_reducible refine Kd.C_drewN ?_ _) | (with_reducible refine Kd.C_drew ?_))); (case side2 => exact HC0_2.out); rintro e w16 ⟨v569, rfl, ho0, hb⟩; refine ⟨_, rfl, ?_⟩; have n0_ := Aside0.mk (Kd.R_lower ho0 (below_size By)); have n1_ := Aside0.mk (bb BK564.out hb); have n2_ := Aside0.mk (below_step By hb); clear BK564; clear HB; have HO570 := n0_; have BK564 := n1_; have HB := n2_; clear n0_ n1_ n2_; (try clear hb); (try clear hb2); (try clear hk); (try clear hi); (try clear ho0); obtain ⟨Ao17, co17, eo17⟩ := Kd.R_slice HO570.out; subst eo17) | ((with_reducible refine gate_callee (f := 30) rfl ?_); refine goesL_ (some 14) rfl rfl Tryd.func30 (by kernel_rfl) rfl #[.agg #[.int .i64 t566, .int .i64 t567, .slice Ao17 t568.length co17]] rfl Ag ?_; (with_reducible refine (spec_AnswerRight.calls k t566 t567 _ _ t568 t571 _ ?side1 ?side2 A8.out).mono ?_); (case side1 => repeat (first | exact (Kd.R_reads' HO570.out).2.2 | (with_reducible refine Kd.C_alloc ?_ _) | (with_reducible refine Kd.C_drewN ?_ _) | (with_reducible refine Kd.C_drew ?_))); (case side2 => exact (Kd.R_reads' HO570.out).2.1); rintro e w18 ⟨rfl, hb⟩; refine ⟨_, rfl, ?_⟩; have n0_ := Aside0.mk (Kd.R_below (by (with_reducible repeat (first | apply Kd.R_alloc | apply Kd.R_drewN | apply Kd.R_drew)); exact HO570.out) hb); have n1_ := Aside0.mk (bb BK564.out hb); have n2_ := Aside0.mk (below_step By hb); clear HO570; clear BK564; clear HB; have HO570 := n0_; have BK564 := n1_; have HB := n2_; clear n0_ n1_ n2_; (try clear hb); (try clear hb2); (try clear hk); (try clear hi); have ⟨hcz19_0, hcz19_1, hcz19_2⟩ := cq3 BK564.out; have ⟨hfz19_0, hfz19_1, hfz19_2⟩ := fq3 BK564.out) | ((with_reducible refine gate_callee (f := 31) rfl ?_); refine goesL_ (some 16) rfl rfl Tryd.func31 (by kernel_rfl) rfl #[.agg #[.int .i64 a0_0, .int .i64 a0_1, .slice A0_2 l0_2.length c0_2]] rfl Ag ?_; (with_reducible refine (laws_toAnswer.calls k a0_0 a0_1 _ _ l0_2 t572 t573 t574 _ ?side1 ?side2 A9.out).mono ?_); (case side1 => repeat (first | exact (Kd.C_below HR0_2.out HB.out) | (with_reducible refine Kd.C_alloc ?_ _) | (with_reducible refine Kd.C_drewN ?_ _) | (with_reducible refine Kd.C_drew ?_))); (case side2 => exact HC0_2.out); rintro e w20 ⟨v575, rfl, ho0, hb⟩; refine ⟨_, rfl, ?_⟩; have n0_ := Aside0.mk (Kd.R_elder' (by (with_reducible repeat (first | apply Kd.R_alloc | apply Kd.R_drewN | apply Kd.R_drew)); exact HO570.out) (Kd.R_base ho0) hb); have n1_ := Aside0.mk (Kd.R_lower (Kd.R_new' ho0 (Kd.R_lt (by (with_reducible repeat (first | apply Kd.R_alloc | apply Kd.R_drewN | apply Kd.R_drew)); exact HO570.out))) (below_size By)); have n2_ := Aside0.mk (bb BK564.out hb); have n3_ := Aside0.mk (below_step By hb); clear HO570; clear BK564; clear HB; have HO570 := n0_; have HO576 := n1_; have BK564 := n2_; have HB := n3_; clear n0_ n1_ n2_ n3_; (try clear hb); (try clear hb2); (try clear hk); (try clear hi); (try clear ho0)) | ((with_reducible refine gate_dst (N := 5) rfl ?_); refine box_event ?hg (N := 5) ?hd (cs := #[.int .i64 0, .int .i64 0, .slice none 0 0]) (t := 54) ?hr ?_; (case hd => rfl); (case hg => rfl); (case hr => first | (go_simp; done) | (go_simp; rfl)); intro gb577 hg w21 hbox hb; have n0_ := Aside0.mk (Kd.R_below (by (with_reducible repeat (first | apply Kd.R_alloc | apply Kd.R_drewN | apply Kd.R_drew)); exact HO570.out) hb); have n1_ := Aside0.mk (Kd.R_below (by (with_reducible repeat (first | apply Kd.R_alloc | apply Kd.R_drewN | apply Kd.R_drew)); exact HO576.out) hb); have n2_ := Aside0.mk (bb BK564.out hb); have n3_ := Aside0.mk (below_step By hb); have n4_ := Aside0.mk (hbox); have n5_ := Aside0.mk ((by rw [hg]; exact (below_size By) : w.heap.size ≤ gb577)); have n6_ := Aside0.mk ((by rw [hg]; exact (below_size By) : w.heap.size ≤ gb577)); have n7_ := Aside0.mk ((by rw [hg]; exact Nat.ne_of_lt (bl BK564.out) : gb564 ≠ gb577)); have n8_ := Aside0.mk ((by rw [hg]; exact Nat.ne_of_gt (bl BK564.out) : gb577 ≠ gb564)); clear HO570; clear HO576; clear BK564; clear HB; have HO570 := n0_; have HO576 := n1_; have BK564 := n2_; have HB := n3_; have BK577 := n4_; have GW577 := n5_; have GE577 := n6_; have NB564_577 := n7_; have NB577_564 := n8_; clear n0_ n1_ n2_ n3_ n4_ n5_ n6_ n7_ n8_; clear hb hbox hg; have hnb22 := NB577_564.out; have hnc22 := NB564_577.out; have ⟨hcz23_0, hcz23_1, hcz23_2⟩ := cq3 BK577.out; have ⟨hfz23_0, hfz23_1, hfz23_2⟩ := fq3 BK577.out; obtain ⟨Ao24, co24, eo24⟩ := Kd.R_slice HO576.out; subst eo24) | ((with_reducible refine gate_callee (f := 32) rfl ?_); refine goesL_ (some 18) rfl rfl Tryd.func32 (by kernel_rfl) rfl #[.agg #[.int .i64 t572, .int .i64 t573, .slice Ao24 t574.length co24]] rfl Ag ?_; (with_reducible refine (impl_AnswerRight.calls t572 t573 _ _ t574 t578 _ ?side1 ?side2 A10.out).mono ?_); (case side1 => refine (Kd.R_reads' (e := 67) (base := w.heap.size) (ok := fun k_ => (True ∧ some k_ ≠ (.slice Ao17 t568.length co17 : Value).ownBlock)) (n := t574.length) (c := co24) ?_).2.2; exact (by (with_reducible repeat (first | apply Kd.R_alloc | apply Kd.R_drewN | apply Kd.R_drew)); exact (Kd.R_mono (Kd.R_far (p := ⟨gb577, 2, none⟩) (Kd.R_far (p := ⟨gb577, 1, none⟩) (Kd.R_far (p := ⟨gb577, 0, none⟩) (Kd.R_types HO576.out BK577.out (by decide)) (fun _ hk => hk.2) (.int .i64 t572)) (fun _ hk => hk.2) (.int .i64 t573)) (fun _ hk => hk.2) (.slice Ao24 t574.length co24)) (fun _ h_ => h_.1)))); (case side2 => exact (Kd.R_reads' HO576.out).2.1); rintro e w25 ⟨rfl, hb⟩; refine ⟨_, rfl, ?_⟩; have n0_ := Aside0.mk (Kd.R_below (by (with_reducible repeat (first | apply Kd.R_alloc | apply Kd.R_drewN | apply Kd.R_drew)); exact (Kd.R_mono (Kd.R_far (p := ⟨gb577, 2, none⟩) (Kd.R_far (p := ⟨gb577, 1, none⟩) (Kd.R_far (p := ⟨gb577, 0, none⟩) (Kd.R_types HO570.out BK577.out (by decide)) (fun _ hk => hk.2) (.int .i64 t572)) (fun _ hk => hk.2) (.int .i64 t573)) (fun _ hk => hk.2) (.slice Ao24 t574.length co24)) (fun _ h_ => h_.1))) hb); have n1_ := Aside0.mk (Kd.R_below (by (with_reducible repeat (first | apply Kd.R_alloc | apply Kd.R_drewN | apply Kd.R_drew)); exact (Kd.R_mono (Kd.R_far (p := ⟨gb577, 2, none⟩) (Kd.R_far (p := ⟨gb577, 1, none⟩) (Kd.R_far (p := ⟨gb577, 0, none⟩) (Kd.R_types HO576.out BK577.out (by decide)) (fun _ hk => hk.2) (.int .i64 t572)) (fun _ hk => hk.2) (.int .i64 t573)) (fun _ hk => hk.2) (.slice Ao24 t574.length co24)) (fun _ h_ => h_.1))) hb); have n2_ := Aside0.mk (bf BK564.out hb); have n3_ := Aside0.mk (blk_below (g := gb577) (o := .cells #[.int .i64 t572, .int .i64 t573, .slice Ao24 t574.length co24] 54 (0, 0)) (pq3 Pk) hb); have n4_ := Aside0.mk (below_step By hb); clear HO570; clear HO576; clear BK564; clear BK577; clear HB; have HO570 := n0_; have HO576 := n1_; have BK564 := n2_; have BK577 := n3_; have HB := n4_; clear n0_ n1_ n2_ n3_ n4_; (try clear hb); (try clear hb2); (try clear hk); (try clear hi)))
      go_ret
      exact ⟨Rf, By⟩
    · rw [if_neg c11] at H
      have c11b0 : (t578 != t571) = false := by simpa using c11
      (try (have c11b1 : decide (t578 = t571) = true := by simpa using c11))
      (try (have c11b2 : (t578 == t571) = true := by simpa using c11))
      clear c11
      replace H := Option.bind_eq_some_iff.mp H
      obtain ⟨⟨t579, t580, t581⟩, A260, H⟩ := H
      replace H : ((laws_eqAnswer.f k t572 t573 t574 t579 t580 t581).bind fun t584 => (if t584 = true then (some true) else (some false))) = some r := H
      have A26 := Aside0.mk A260
      clear A260
      replace H := Option.bind_eq_some_iff.mp H
      obtain ⟨t584, A270, H⟩ := H
      replace H : (if t584 = true then (some true) else (some false)) = some r := H
      have A27 := Aside0.mk A270
      clear A270
      by_cases c28 : t584 = true
      · subst c28
        have H1 : (some true) = some r := by rw [if_pos rfl] at H; exact H
        clear H
        have H := H1
        clear H1
        obtain rfl := Option.some.inj H
        go_enter Tryd.func7, Tryd.ntmps7
        try go_wp2_with (first | ((with_reducible refine gate_dst (N := 1) rfl ?_); refine box_event ?hg (N := 1) ?hd (cs := #[.int .i64 a0_0, .int .i64 a0_1, .slice A0_2 l0_2.length c0_2]) (t := 49) ?hr ?_; (case hd => rfl); (case hg => rfl); (case hr => first | (go_simp; done) | (go_simp; rfl)); intro gb564 hg w29 hbox hb; have n0_ := Aside0.mk (below_step By hb); have n1_ := Aside0.mk (hbox); have n2_ := Aside0.mk ((by rw [hg]; exact (below_size By) : w.heap.size ≤ gb564)); have n3_ := Aside0.mk ((by rw [hg]; exact (below_size By) : w.heap.size ≤ gb564)); clear HB; have HB := n0_; have BK564 := n1_; have GW564 := n2_; have GE564 := n3_; clear n0_ n1_ n2_ n3_; clear hb hbox hg; have ⟨hcz30_0, hcz30_1, hcz30_2⟩ := cq3 BK564.out; have ⟨hfz30_0, hfz30_1, hfz30_2⟩ := fq3 BK564.out) | ((with_reducible refine gate_callee (f := 29) rfl ?_); refine goesL_ (some 9) rfl rfl Tryd.func29 (by kernel_rfl) rfl #[.agg #[.int .i64 a0_0, .int .i64 a0_1, .slice A0_2 l0_2.length c0_2], .int .i64 1048576] rfl Ag ?_; (with_reducible refine (laws_szAnswer.calls k a0_0 a0_1 _ _ l0_2 1048576 t565 _ ?side1 ?side2 A2.out).mono ?_); (case side1 => repeat (first | exact (Kd.C_below HR0_2.out HB.out) | (with_reducible refine Kd.C_alloc ?_ _) | (with_reducible refine Kd.C_drewN ?_ _) | (with_reducible refine Kd.C_drew ?_))); (case side2 => exact HC0_2.out); rintro e w31 ⟨rfl, hb⟩; refine ⟨_, rfl, ?_⟩; have n0_ := Aside0.mk (bb BK564.out hb); have n1_ := Aside0.mk (below_step By hb); clear BK564; clear HB; have BK564 := n0_; have HB := n1_; clear n0_ n1_; (try clear hb); (try clear hb2); (try clear hk); (try clear hi); have ⟨hcz32_0, hcz32_1, hcz32_2⟩ := cq3 BK564.out; have ⟨hfz32_0, hfz32_1, hfz32_2⟩ := fq3 BK564.out) | ((with_reducible refine gate_callee (f := 31) rfl ?_); refine goesL_ (some 13) rfl rfl Tryd.func31 (by kernel_rfl) rfl #[.agg #[.int .i64 a0_0, .int .i64 a0_1, .slice A0_2 l0_2.length c0_2]] rfl Ag ?_; (with_reducible refine (laws_toAnswer.calls k a0_0 a0_1 _ _ l0_2 t566 t567 t568 _ ?side1 ?side2 A7.out).mono ?_); (case side1 => repeat (first | exact (Kd.C_below HR0_2.out HB.out) | (with_reducible refine Kd.C_alloc ?_ _) | (with_reducible refine Kd.C_drewN ?_ _) | (with_reducible refine Kd.C_drew ?_))); (case side2 => exact HC0_2.out); rintro e w33 ⟨v569, rfl, ho0, hb⟩; refine ⟨_, rfl, ?_⟩; have n0_ := Aside0.mk (Kd.R_lower ho0 (below_size By)); have n1_ := Aside0.mk (bb BK564.out hb); have n2_ := Aside0.mk (below_step By hb); clear BK564; clear HB; have HO570 := n0_; have BK564 := n1_; have HB := n2_; clear n0_ n1_ n2_; (try clear hb); (try clear hb2); (try clear hk); (try clear hi); (try clear ho0); obtain ⟨Ao34, co34, eo34⟩ := Kd.R_slice HO570.out; subst eo34) | ((with_reducible refine gate_callee (f := 30) rfl ?_); refine goesL_ (some 14) rfl rfl Tryd.func30 (by kernel_rfl) rfl #[.agg #[.int .i64 t566, .int .i64 t567, .slice Ao34 t568.length co34]] rfl Ag ?_; (with_reducible refine (spec_AnswerRight.calls k t566 t567 _ _ t568 t571 _ ?side1 ?side2 A8.out).mono ?_); (case side1 => repeat (first | exact (Kd.R_reads' HO570.out).2.2 | (with_reducible refine Kd.C_alloc ?_ _) | (with_reducible refine Kd.C_drewN ?_ _) | (with_reducible refine Kd.C_drew ?_))); (case side2 => exact (Kd.R_reads' HO570.out).2.1); rintro e w35 ⟨rfl, hb⟩; refine ⟨_, rfl, ?_⟩; have n0_ := Aside0.mk (Kd.R_below (by (with_reducible repeat (first | apply Kd.R_alloc | apply Kd.R_drewN | apply Kd.R_drew)); exact HO570.out) hb); have n1_ := Aside0.mk (bb BK564.out hb); have n2_ := Aside0.mk (below_step By hb); clear HO570; clear BK564; clear HB; have HO570 := n0_; have BK564 := n1_; have HB := n2_; clear n0_ n1_ n2_; (try clear hb); (try clear hb2); (try clear hk); (try clear hi); have ⟨hcz36_0, hcz36_1, hcz36_2⟩ := cq3 BK564.out; have ⟨hfz36_0, hfz36_1, hfz36_2⟩ := fq3 BK564.out) | ((with_reducible refine gate_callee (f := 31) rfl ?_); refine goesL_ (some 16) rfl rfl Tryd.func31 (by kernel_rfl) rfl #[.agg #[.int .i64 a0_0, .int .i64 a0_1, .slice A0_2 l0_2.length c0_2]] rfl Ag ?_; (with_reducible refine (laws_toAnswer.calls k a0_0 a0_1 _ _ l0_2 t572 t573 t574 _ ?side1 ?side2 A9.out).mono ?_); (case side1 => repeat (first | exact (Kd.C_below HR0_2.out HB.out) | (with_reducible refine Kd.C_alloc ?_ _) | (with_reducible refine Kd.C_drewN ?_ _) | (with_reducible refine Kd.C_drew ?_))); (case side2 => exact HC0_2.out); rintro e w37 ⟨v575, rfl, ho0, hb⟩; refine ⟨_, rfl, ?_⟩; have n0_ := Aside0.mk (Kd.R_elder' (by (with_reducible repeat (first | apply Kd.R_alloc | apply Kd.R_drewN | apply Kd.R_drew)); exact HO570.out) (Kd.R_base ho0) hb); have n1_ := Aside0.mk (Kd.R_lower (Kd.R_new' ho0 (Kd.R_lt (by (with_reducible repeat (first | apply Kd.R_alloc | apply Kd.R_drewN | apply Kd.R_drew)); exact HO570.out))) (below_size By)); have n2_ := Aside0.mk (bb BK564.out hb); have n3_ := Aside0.mk (below_step By hb); clear HO570; clear BK564; clear HB; have HO570 := n0_; have HO576 := n1_; have BK564 := n2_; have HB := n3_; clear n0_ n1_ n2_ n3_; (try clear hb); (try clear hb2); (try clear hk); (try clear hi); (try clear ho0)) | ((with_reducible refine gate_dst (N := 5) rfl ?_); refine box_event ?hg (N := 5) ?hd (cs := #[.int .i64 0, .int .i64 0, .slice none 0 0]) (t := 54) ?hr ?_; (case hd => rfl); (case hg => rfl); (case hr => first | (go_simp; done) | (go_simp; rfl)); intro gb577 hg w38 hbox hb; have n0_ := Aside0.mk (Kd.R_below (by (with_reducible repeat (first | apply Kd.R_alloc | apply Kd.R_drewN | apply Kd.R_drew)); exact HO570.out) hb); have n1_ := Aside0.mk (Kd.R_below (by (with_reducible repeat (first | apply Kd.R_alloc | apply Kd.R_drewN | apply Kd.R_drew)); exact HO576.out) hb); have n2_ := Aside0.mk (bb BK564.out hb); have n3_ := Aside0.mk (below_step By hb); have n4_ := Aside0.mk (hbox); have n5_ := Aside0.mk ((by rw [hg]; exact (below_size By) : w.heap.size ≤ gb577)); have n6_ := Aside0.mk ((by rw [hg]; exact (below_size By) : w.heap.size ≤ gb577)); have n7_ := Aside0.mk ((by rw [hg]; exact Nat.ne_of_lt (bl BK564.out) : gb564 ≠ gb577)); have n8_ := Aside0.mk ((by rw [hg]; exact Nat.ne_of_gt (bl BK564.out) : gb577 ≠ gb564)); clear HO570; clear HO576; clear BK564; clear HB; have HO570 := n0_; have HO576 := n1_; have BK564 := n2_; have HB := n3_; have BK577 := n4_; have GW577 := n5_; have GE577 := n6_; have NB564_577 := n7_; have NB577_564 := n8_; clear n0_ n1_ n2_ n3_ n4_ n5_ n6_ n7_ n8_; clear hb hbox hg; have hnb39 := NB577_564.out; have hnc39 := NB564_577.out; have ⟨hcz40_0, hcz40_1, hcz40_2⟩ := cq3 BK577.out; have ⟨hfz40_0, hfz40_1, hfz40_2⟩ := fq3 BK577.out; obtain ⟨Ao41, co41, eo41⟩ := Kd.R_slice HO576.out; subst eo41) | ((with_reducible refine gate_callee (f := 32) rfl ?_); refine goesL_ (some 18) rfl rfl Tryd.func32 (by kernel_rfl) rfl #[.agg #[.int .i64 t572, .int .i64 t573, .slice Ao41 t574.length co41]] rfl Ag ?_; (with_reducible refine (impl_AnswerRight.calls t572 t573 _ _ t574 t578 _ ?side1 ?side2 A10.out).mono ?_); (case side1 => refine (Kd.R_reads' (e := 67) (base := w.heap.size) (ok := fun k_ => (True ∧ some k_ ≠ (.slice Ao34 t568.length co34 : Value).ownBlock)) (n := t574.length) (c := co41) ?_).2.2; exact (by (with_reducible repeat (first | apply Kd.R_alloc | apply Kd.R_drewN | apply Kd.R_drew)); exact (Kd.R_mono (Kd.R_far (p := ⟨gb577, 2, none⟩) (Kd.R_far (p := ⟨gb577, 1, none⟩) (Kd.R_far (p := ⟨gb577, 0, none⟩) (Kd.R_types HO576.out BK577.out (by decide)) (fun _ hk => hk.2) (.int .i64 t572)) (fun _ hk => hk.2) (.int .i64 t573)) (fun _ hk => hk.2) (.slice Ao41 t574.length co41)) (fun _ h_ => h_.1)))); (case side2 => exact (Kd.R_reads' HO576.out).2.1); rintro e w42 ⟨rfl, hb⟩; refine ⟨_, rfl, ?_⟩; have n0_ := Aside0.mk (Kd.R_below (by (with_reducible repeat (first | apply Kd.R_alloc | apply Kd.R_drewN | apply Kd.R_drew)); exact (Kd.R_mono (Kd.R_far (p := ⟨gb577, 2, none⟩) (Kd.R_far (p := ⟨gb577, 1, none⟩) (Kd.R_far (p := ⟨gb577, 0, none⟩) (Kd.R_types HO570.out BK577.out (by decide)) (fun _ hk => hk.2) (.int .i64 t572)) (fun _ hk => hk.2) (.int .i64 t573)) (fun _ hk => hk.2) (.slice Ao41 t574.length co41)) (fun _ h_ => h_.1))) hb); have n1_ := Aside0.mk (Kd.R_below (by (with_reducible repeat (first | apply Kd.R_alloc | apply Kd.R_drewN | apply Kd.R_drew)); exact (Kd.R_mono (Kd.R_far (p := ⟨gb577, 2, none⟩) (Kd.R_far (p := ⟨gb577, 1, none⟩) (Kd.R_far (p := ⟨gb577, 0, none⟩) (Kd.R_types HO576.out BK577.out (by decide)) (fun _ hk => hk.2) (.int .i64 t572)) (fun _ hk => hk.2) (.int .i64 t573)) (fun _ hk => hk.2) (.slice Ao41 t574.length co41)) (fun _ h_ => h_.1))) hb); have n2_ := Aside0.mk (bf BK564.out hb); have n3_ := Aside0.mk (blk_below (g := gb577) (o := .cells #[.int .i64 t572, .int .i64 t573, .slice Ao41 t574.length co41] 54 (0, 0)) (pq3 Pk) hb); have n4_ := Aside0.mk (below_step By hb); clear HO570; clear HO576; clear BK564; clear BK577; clear HB; have HO570 := n0_; have HO576 := n1_; have BK564 := n2_; have BK577 := n3_; have HB := n4_; clear n0_ n1_ n2_ n3_ n4_; (try clear hb); (try clear hb2); (try clear hk); (try clear hi)))
        have n0_ := Aside0.mk (Kd.R_drew HO570.out)
        have n1_ := Aside0.mk (Kd.R_drew HO576.out)
        have n2_ := Aside0.mk (blk_drew BK564.out)
        have n3_ := Aside0.mk (blk_drew BK577.out)
        have n4_ := Aside0.mk (below_drew1 HB.out)
        clear HO570
        clear HO576
        clear BK564
        clear BK577
        clear HB
        have HO570 := n0_
        have HO576 := n1_
        have BK564 := n2_
        have BK577 := n3_
        have HB := n4_
        clear n0_ n1_ n2_ n3_ n4_
        refine start_ (n := 5) (S := fun w' => w'.cell? ⟨gb577, 0, none⟩ = some (.int .i64 t572) ∧ w'.cell? ⟨gb577, 1, none⟩ = some (.int .i64 t573) ∧ w'.cell? ⟨gb577, 2, none⟩ = some (.slice Ao41 t574.length co41) ∧ w'.cell? ⟨gb564, 0, none⟩ = some (.int .i64 a0_0) ∧ w'.cell? ⟨gb564, 1, none⟩ = some (.int .i64 a0_1) ∧ w'.cell? ⟨gb564, 2, none⟩ = some (.slice A0_2 l0_2.length c0_2)) (ds := []) (bv 5 0) (by kernel_rfl) rfl rfl ⟨bc BK577.out 0, bc BK577.out 1, bc BK577.out 2, bc BK564.out 0, bc BK564.out 1, bc BK564.out 2⟩ (fun hHeld => ?_)
        generalize w42.drew = w43 at HO570 HO576 BK564 BK577 HB hHeld ⊢
        refine take_ (i := 0) (N := some 22) (v := ?_) (a' := ?_) (bv 5 1) rfl rfl (by kernel_rfl) (fun _ _ _ h => h) (Or.inl ⟨by rfl, ?_⟩) hHeld ?_ ?_
        rotate_left
        · rintro w' ⟨s0, s1, s2, s3, s4, s5⟩
          go_simp
          with_reducible rfl
        rotate_left
        · simp only [Act.put, List.setIfInBounds_toArray, List.set_cons_zero, List.set_cons_succ, i64_w, i32_w]
          rfl
        refine take_ (i := 1) (N := some 23) (v := ?_) (a' := ?_) (bv 5 3) rfl rfl (by kernel_rfl) (fun _ _ _ h => h) (Or.inl ⟨by rfl, ?_⟩) hHeld ?_ ?_
        rotate_left
        · rintro w' ⟨s0, s1, s2, s3, s4, s5⟩
          go_simp
          with_reducible rfl
        rotate_left
        · simp only [Act.put, List.setIfInBounds_toArray, List.set_cons_zero, List.set_cons_succ, i64_w, i32_w]
          rfl
        refine one_ (i := 2) (N := some 24) (bv 5 7) rfl rfl (by kernel_rfl) (by decide) (fun K hK => ?_)
        refine goes_ Tryd.func31 (by kernel_rfl) rfl #[.agg #[.int .i64 a0_0, .int .i64 a0_1, .slice A0_2 l0_2.length c0_2]] (by rfl) rfl rfl Ag ?_
        with_reducible refine (laws_toAnswer.calls k a0_0 a0_1 _ _ l0_2 t579 t580 t581 _ ?side1 ?side2 A26.out).mono ?_
        (case side1 => repeat (first | exact (Kd.C_below HR0_2.out HB.out) | (with_reducible refine Kd.C_alloc ?_ _) | (with_reducible refine Kd.C_drewN ?_ _) | (with_reducible refine Kd.C_drew ?_)))
        (case side2 => exact HC0_2.out)
        rintro e w44 ⟨v582, rfl, ho0, hb⟩
        refine ⟨_, rfl, ?_⟩
        have n0_ := Aside0.mk (Kd.R_elder' (by (with_reducible repeat (first | apply Kd.R_alloc | apply Kd.R_drewN | apply Kd.R_drew)); exact HO570.out) (Kd.R_base ho0) hb)
        have n1_ := Aside0.mk (Kd.R_elder' (by (with_reducible repeat (first | apply Kd.R_alloc | apply Kd.R_drewN | apply Kd.R_drew)); exact HO576.out) (Kd.R_base ho0) hb)
        have n2_ := Aside0.mk (Kd.R_lower (Kd.R_new' (Kd.R_new' ho0 (Kd.R_lt (by (with_reducible repeat (first | apply Kd.R_alloc | apply Kd.R_drewN | apply Kd.R_drew)); exact HO570.out))) (Kd.R_lt (by (with_reducible repeat (first | apply Kd.R_alloc | apply Kd.R_drewN | apply Kd.R_drew)); exact HO576.out))) (below_size By))
        have n3_ := Aside0.mk (bb BK564.out hb)
        have n4_ := Aside0.mk (bb BK577.out hb)
        have n5_ := Aside0.mk (below_step By hb)
        clear HO570
        clear HO576
        clear BK564
        clear BK577
        clear HB
        have HO570 := n0_
        have HO576 := n1_
        have HO583 := n2_
        have BK564 := n3_
        have BK577 := n4_
        have HB := n5_
        clear n0_ n1_ n2_ n3_ n4_ n5_
        (try clear hb)
        (try clear hb2)
        (try clear hk)
        (try clear hi)
        (try clear ho0)
        obtain ⟨Ao45, co45, eo45⟩ := Kd.R_slice HO583.out
        (first | subst eo45 | (injection eo45 with f1_ f2_ f3_; have f4_ := f1_.symm; have f5_ := f3_.symm; clear f1_ f2_ f3_; subst f4_; subst f5_))
        refine hK.out _ _ ⟨bc BK577.out 0, bc BK577.out 1, bc BK577.out 2, bc BK564.out 0, bc BK564.out 1, bc BK564.out 2⟩ (fun hHeld => ?_)
        clear hK K
        refine norm_ (a' := ?_) ?_ ?_
        rotate_left
        · show Act.put _ (some 24) _ = _
          simp only [Act.put, List.setIfInBounds_toArray, List.set_cons_zero, List.set_cons_succ, i64_w, i32_w]
          rfl
        refine one_ (i := 3) (N := some 25) (bv 5 15) rfl rfl (by kernel_rfl) (by decide) (fun K hK => ?_)
        refine goes_ Tryd.func33 (by kernel_rfl) rfl #[.agg #[.int .i64 t572, .int .i64 t573, .slice Ao41 t574.length co41], .agg #[.int .i64 t579, .int .i64 t580, .slice Ao45 t581.length co45]] (by rfl) rfl rfl Ag ?_
        with_reducible refine (laws_eqAnswer.calls k t572 t573 _ _ t574 t579 t580 _ _ t581 true _ ?side1 ?side2 ?side3 ?side4 A27.out).mono ?_
        (case side1 => repeat (first | exact (Kd.R_reads' HO576.out).2.2 | (with_reducible refine Kd.C_alloc ?_ _) | (with_reducible refine Kd.C_drewN ?_ _) | (with_reducible refine Kd.C_drew ?_)))
        (case side2 => exact (Kd.R_reads' HO576.out).2.1)
        (case side3 => repeat (first | exact (Kd.R_reads' HO583.out).2.2 | (with_reducible refine Kd.C_alloc ?_ _) | (with_reducible refine Kd.C_drewN ?_ _) | (with_reducible refine Kd.C_drew ?_)))
        (case side4 => exact (Kd.R_reads' HO583.out).2.1)
        rintro e w46 ⟨rfl, hb⟩
        refine ⟨_, rfl, ?_⟩
        have n0_ := Aside0.mk (Kd.R_below (by (with_reducible repeat (first | apply Kd.R_alloc | apply Kd.R_drewN | apply Kd.R_drew)); exact HO570.out) hb)
        have n1_ := Aside0.mk (Kd.R_below (by (with_reducible repeat (first | apply Kd.R_alloc | apply Kd.R_drewN | apply Kd.R_drew)); exact HO576.out) hb)
        have n2_ := Aside0.mk (Kd.R_below (by (with_reducible repeat (first | apply Kd.R_alloc | apply Kd.R_drewN | apply Kd.R_drew)); exact HO583.out) hb)
        have n3_ := Aside0.mk (bb BK564.out hb)
        have n4_ := Aside0.mk (bb BK577.out hb)
        have n5_ := Aside0.mk (below_step By hb)
        clear HO570
        clear HO576
        clear HO583
        clear BK564
        clear BK577
        clear HB
        have HO570 := n0_
        have HO576 := n1_
        have HO583 := n2_
        have BK564 := n3_
        have BK577 := n4_
        have HB := n5_
        clear n0_ n1_ n2_ n3_ n4_ n5_
        (try clear hb)
        (try clear hb2)
        (try clear hk)
        (try clear hi)
        refine hK.out _ _ ⟨bc BK577.out 0, bc BK577.out 1, bc BK577.out 2, bc BK564.out 0, bc BK564.out 1, bc BK564.out 2⟩ (fun hHeld => ?_)
        clear hK K
        refine norm_ (a' := ?_) ?_ ?_
        rotate_left
        · show Act.put _ (some 25) _ = _
          simp only [Act.put, List.setIfInBounds_toArray, List.set_cons_zero, List.set_cons_succ, i64_w, i32_w]
          rfl
        refine pure_ (i := 4) (N := some 26) (v := ?_) (a' := ?_) (bv 5 31) rfl rfl (by kernel_rfl) (fun _ _ _ h => h) (Or.inl ⟨by rfl, ?_⟩) ?_ ?_
        rotate_left
        · intro w'
          go_simp
          with_reducible rfl
        rotate_left
        · simp only [Act.put, List.setIfInBounds_toArray, List.set_cons_zero, List.set_cons_succ, i64_w, i32_w]
          rfl
        refine done_ (by kernel_rfl) ?_
        try go_wp2
        go_ret
        exact ⟨Rf, By⟩
      · replace c28 := Bool.eq_false_iff.mpr c28
        subst c28
        have H1 : (some false) = some r := by rw [if_neg (show ¬ (false = true) by decide)] at H; exact H
        clear H
        have H := H1
        clear H1
        obtain rfl := Option.some.inj H
        go_enter Tryd.func7, Tryd.ntmps7
        try go_wp2_with (first | ((with_reducible refine gate_dst (N := 1) rfl ?_); refine box_event ?hg (N := 1) ?hd (cs := #[.int .i64 a0_0, .int .i64 a0_1, .slice A0_2 l0_2.length c0_2]) (t := 49) ?hr ?_; (case hd => rfl); (case hg => rfl); (case hr => first | (go_simp; done) | (go_simp; rfl)); intro gb564 hg w47 hbox hb; have n0_ := Aside0.mk (below_step By hb); have n1_ := Aside0.mk (hbox); have n2_ := Aside0.mk ((by rw [hg]; exact (below_size By) : w.heap.size ≤ gb564)); have n3_ := Aside0.mk ((by rw [hg]; exact (below_size By) : w.heap.size ≤ gb564)); clear HB; have HB := n0_; have BK564 := n1_; have GW564 := n2_; have GE564 := n3_; clear n0_ n1_ n2_ n3_; clear hb hbox hg; have ⟨hcz48_0, hcz48_1, hcz48_2⟩ := cq3 BK564.out; have ⟨hfz48_0, hfz48_1, hfz48_2⟩ := fq3 BK564.out) | ((with_reducible refine gate_callee (f := 29) rfl ?_); refine goesL_ (some 9) rfl rfl Tryd.func29 (by kernel_rfl) rfl #[.agg #[.int .i64 a0_0, .int .i64 a0_1, .slice A0_2 l0_2.length c0_2], .int .i64 1048576] rfl Ag ?_; (with_reducible refine (laws_szAnswer.calls k a0_0 a0_1 _ _ l0_2 1048576 t565 _ ?side1 ?side2 A2.out).mono ?_); (case side1 => repeat (first | exact (Kd.C_below HR0_2.out HB.out) | (with_reducible refine Kd.C_alloc ?_ _) | (with_reducible refine Kd.C_drewN ?_ _) | (with_reducible refine Kd.C_drew ?_))); (case side2 => exact HC0_2.out); rintro e w49 ⟨rfl, hb⟩; refine ⟨_, rfl, ?_⟩; have n0_ := Aside0.mk (bb BK564.out hb); have n1_ := Aside0.mk (below_step By hb); clear BK564; clear HB; have BK564 := n0_; have HB := n1_; clear n0_ n1_; (try clear hb); (try clear hb2); (try clear hk); (try clear hi); have ⟨hcz50_0, hcz50_1, hcz50_2⟩ := cq3 BK564.out; have ⟨hfz50_0, hfz50_1, hfz50_2⟩ := fq3 BK564.out) | ((with_reducible refine gate_callee (f := 31) rfl ?_); refine goesL_ (some 13) rfl rfl Tryd.func31 (by kernel_rfl) rfl #[.agg #[.int .i64 a0_0, .int .i64 a0_1, .slice A0_2 l0_2.length c0_2]] rfl Ag ?_; (with_reducible refine (laws_toAnswer.calls k a0_0 a0_1 _ _ l0_2 t566 t567 t568 _ ?side1 ?side2 A7.out).mono ?_); (case side1 => repeat (first | exact (Kd.C_below HR0_2.out HB.out) | (with_reducible refine Kd.C_alloc ?_ _) | (with_reducible refine Kd.C_drewN ?_ _) | (with_reducible refine Kd.C_drew ?_))); (case side2 => exact HC0_2.out); rintro e w51 ⟨v569, rfl, ho0, hb⟩; refine ⟨_, rfl, ?_⟩; have n0_ := Aside0.mk (Kd.R_lower ho0 (below_size By)); have n1_ := Aside0.mk (bb BK564.out hb); have n2_ := Aside0.mk (below_step By hb); clear BK564; clear HB; have HO570 := n0_; have BK564 := n1_; have HB := n2_; clear n0_ n1_ n2_; (try clear hb); (try clear hb2); (try clear hk); (try clear hi); (try clear ho0); obtain ⟨Ao52, co52, eo52⟩ := Kd.R_slice HO570.out; subst eo52) | ((with_reducible refine gate_callee (f := 30) rfl ?_); refine goesL_ (some 14) rfl rfl Tryd.func30 (by kernel_rfl) rfl #[.agg #[.int .i64 t566, .int .i64 t567, .slice Ao52 t568.length co52]] rfl Ag ?_; (with_reducible refine (spec_AnswerRight.calls k t566 t567 _ _ t568 t571 _ ?side1 ?side2 A8.out).mono ?_); (case side1 => repeat (first | exact (Kd.R_reads' HO570.out).2.2 | (with_reducible refine Kd.C_alloc ?_ _) | (with_reducible refine Kd.C_drewN ?_ _) | (with_reducible refine Kd.C_drew ?_))); (case side2 => exact (Kd.R_reads' HO570.out).2.1); rintro e w53 ⟨rfl, hb⟩; refine ⟨_, rfl, ?_⟩; have n0_ := Aside0.mk (Kd.R_below (by (with_reducible repeat (first | apply Kd.R_alloc | apply Kd.R_drewN | apply Kd.R_drew)); exact HO570.out) hb); have n1_ := Aside0.mk (bb BK564.out hb); have n2_ := Aside0.mk (below_step By hb); clear HO570; clear BK564; clear HB; have HO570 := n0_; have BK564 := n1_; have HB := n2_; clear n0_ n1_ n2_; (try clear hb); (try clear hb2); (try clear hk); (try clear hi); have ⟨hcz54_0, hcz54_1, hcz54_2⟩ := cq3 BK564.out; have ⟨hfz54_0, hfz54_1, hfz54_2⟩ := fq3 BK564.out) | ((with_reducible refine gate_callee (f := 31) rfl ?_); refine goesL_ (some 16) rfl rfl Tryd.func31 (by kernel_rfl) rfl #[.agg #[.int .i64 a0_0, .int .i64 a0_1, .slice A0_2 l0_2.length c0_2]] rfl Ag ?_; (with_reducible refine (laws_toAnswer.calls k a0_0 a0_1 _ _ l0_2 t572 t573 t574 _ ?side1 ?side2 A9.out).mono ?_); (case side1 => repeat (first | exact (Kd.C_below HR0_2.out HB.out) | (with_reducible refine Kd.C_alloc ?_ _) | (with_reducible refine Kd.C_drewN ?_ _) | (with_reducible refine Kd.C_drew ?_))); (case side2 => exact HC0_2.out); rintro e w55 ⟨v575, rfl, ho0, hb⟩; refine ⟨_, rfl, ?_⟩; have n0_ := Aside0.mk (Kd.R_elder' (by (with_reducible repeat (first | apply Kd.R_alloc | apply Kd.R_drewN | apply Kd.R_drew)); exact HO570.out) (Kd.R_base ho0) hb); have n1_ := Aside0.mk (Kd.R_lower (Kd.R_new' ho0 (Kd.R_lt (by (with_reducible repeat (first | apply Kd.R_alloc | apply Kd.R_drewN | apply Kd.R_drew)); exact HO570.out))) (below_size By)); have n2_ := Aside0.mk (bb BK564.out hb); have n3_ := Aside0.mk (below_step By hb); clear HO570; clear BK564; clear HB; have HO570 := n0_; have HO576 := n1_; have BK564 := n2_; have HB := n3_; clear n0_ n1_ n2_ n3_; (try clear hb); (try clear hb2); (try clear hk); (try clear hi); (try clear ho0)) | ((with_reducible refine gate_dst (N := 5) rfl ?_); refine box_event ?hg (N := 5) ?hd (cs := #[.int .i64 0, .int .i64 0, .slice none 0 0]) (t := 54) ?hr ?_; (case hd => rfl); (case hg => rfl); (case hr => first | (go_simp; done) | (go_simp; rfl)); intro gb577 hg w56 hbox hb; have n0_ := Aside0.mk (Kd.R_below (by (with_reducible repeat (first | apply Kd.R_alloc | apply Kd.R_drewN | apply Kd.R_drew)); exact HO570.out) hb); have n1_ := Aside0.mk (Kd.R_below (by (with_reducible repeat (first | apply Kd.R_alloc | apply Kd.R_drewN | apply Kd.R_drew)); exact HO576.out) hb); have n2_ := Aside0.mk (bb BK564.out hb); have n3_ := Aside0.mk (below_step By hb); have n4_ := Aside0.mk (hbox); have n5_ := Aside0.mk ((by rw [hg]; exact (below_size By) : w.heap.size ≤ gb577)); have n6_ := Aside0.mk ((by rw [hg]; exact (below_size By) : w.heap.size ≤ gb577)); have n7_ := Aside0.mk ((by rw [hg]; exact Nat.ne_of_lt (bl BK564.out) : gb564 ≠ gb577)); have n8_ := Aside0.mk ((by rw [hg]; exact Nat.ne_of_gt (bl BK564.out) : gb577 ≠ gb564)); clear HO570; clear HO576; clear BK564; clear HB; have HO570 := n0_; have HO576 := n1_; have BK564 := n2_; have HB := n3_; have BK577 := n4_; have GW577 := n5_; have GE577 := n6_; have NB564_577 := n7_; have NB577_564 := n8_; clear n0_ n1_ n2_ n3_ n4_ n5_ n6_ n7_ n8_; clear hb hbox hg; have hnb57 := NB577_564.out; have hnc57 := NB564_577.out; have ⟨hcz58_0, hcz58_1, hcz58_2⟩ := cq3 BK577.out; have ⟨hfz58_0, hfz58_1, hfz58_2⟩ := fq3 BK577.out; obtain ⟨Ao59, co59, eo59⟩ := Kd.R_slice HO576.out; subst eo59) | ((with_reducible refine gate_callee (f := 32) rfl ?_); refine goesL_ (some 18) rfl rfl Tryd.func32 (by kernel_rfl) rfl #[.agg #[.int .i64 t572, .int .i64 t573, .slice Ao59 t574.length co59]] rfl Ag ?_; (with_reducible refine (impl_AnswerRight.calls t572 t573 _ _ t574 t578 _ ?side1 ?side2 A10.out).mono ?_); (case side1 => refine (Kd.R_reads' (e := 67) (base := w.heap.size) (ok := fun k_ => (True ∧ some k_ ≠ (.slice Ao52 t568.length co52 : Value).ownBlock)) (n := t574.length) (c := co59) ?_).2.2; exact (by (with_reducible repeat (first | apply Kd.R_alloc | apply Kd.R_drewN | apply Kd.R_drew)); exact (Kd.R_mono (Kd.R_far (p := ⟨gb577, 2, none⟩) (Kd.R_far (p := ⟨gb577, 1, none⟩) (Kd.R_far (p := ⟨gb577, 0, none⟩) (Kd.R_types HO576.out BK577.out (by decide)) (fun _ hk => hk.2) (.int .i64 t572)) (fun _ hk => hk.2) (.int .i64 t573)) (fun _ hk => hk.2) (.slice Ao59 t574.length co59)) (fun _ h_ => h_.1)))); (case side2 => exact (Kd.R_reads' HO576.out).2.1); rintro e w60 ⟨rfl, hb⟩; refine ⟨_, rfl, ?_⟩; have n0_ := Aside0.mk (Kd.R_below (by (with_reducible repeat (first | apply Kd.R_alloc | apply Kd.R_drewN | apply Kd.R_drew)); exact (Kd.R_mono (Kd.R_far (p := ⟨gb577, 2, none⟩) (Kd.R_far (p := ⟨gb577, 1, none⟩) (Kd.R_far (p := ⟨gb577, 0, none⟩) (Kd.R_types HO570.out BK577.out (by decide)) (fun _ hk => hk.2) (.int .i64 t572)) (fun _ hk => hk.2) (.int .i64 t573)) (fun _ hk => hk.2) (.slice Ao59 t574.length co59)) (fun _ h_ => h_.1))) hb); have n1_ := Aside0.mk (Kd.R_below (by (with_reducible repeat (first | apply Kd.R_alloc | apply Kd.R_drewN | apply Kd.R_drew)); exact (Kd.R_mono (Kd.R_far (p := ⟨gb577, 2, none⟩) (Kd.R_far (p := ⟨gb577, 1, none⟩) (Kd.R_far (p := ⟨gb577, 0, none⟩) (Kd.R_types HO576.out BK577.out (by decide)) (fun _ hk => hk.2) (.int .i64 t572)) (fun _ hk => hk.2) (.int .i64 t573)) (fun _ hk => hk.2) (.slice Ao59 t574.length co59)) (fun _ h_ => h_.1))) hb); have n2_ := Aside0.mk (bf BK564.out hb); have n3_ := Aside0.mk (blk_below (g := gb577) (o := .cells #[.int .i64 t572, .int .i64 t573, .slice Ao59 t574.length co59] 54 (0, 0)) (pq3 Pk) hb); have n4_ := Aside0.mk (below_step By hb); clear HO570; clear HO576; clear BK564; clear BK577; clear HB; have HO570 := n0_; have HO576 := n1_; have BK564 := n2_; have BK577 := n3_; have HB := n4_; clear n0_ n1_ n2_ n3_ n4_; (try clear hb); (try clear hb2); (try clear hk); (try clear hi)))
        have n0_ := Aside0.mk (Kd.R_drew HO570.out)
        have n1_ := Aside0.mk (Kd.R_drew HO576.out)
        have n2_ := Aside0.mk (blk_drew BK564.out)
        have n3_ := Aside0.mk (blk_drew BK577.out)
        have n4_ := Aside0.mk (below_drew1 HB.out)
        clear HO570
        clear HO576
        clear BK564
        clear BK577
        clear HB
        have HO570 := n0_
        have HO576 := n1_
        have BK564 := n2_
        have BK577 := n3_
        have HB := n4_
        clear n0_ n1_ n2_ n3_ n4_
        refine start_ (n := 5) (S := fun w' => w'.cell? ⟨gb577, 0, none⟩ = some (.int .i64 t572) ∧ w'.cell? ⟨gb577, 1, none⟩ = some (.int .i64 t573) ∧ w'.cell? ⟨gb577, 2, none⟩ = some (.slice Ao59 t574.length co59) ∧ w'.cell? ⟨gb564, 0, none⟩ = some (.int .i64 a0_0) ∧ w'.cell? ⟨gb564, 1, none⟩ = some (.int .i64 a0_1) ∧ w'.cell? ⟨gb564, 2, none⟩ = some (.slice A0_2 l0_2.length c0_2)) (ds := []) (bv 5 0) (by kernel_rfl) rfl rfl ⟨bc BK577.out 0, bc BK577.out 1, bc BK577.out 2, bc BK564.out 0, bc BK564.out 1, bc BK564.out 2⟩ (fun hHeld => ?_)
        generalize w60.drew = w61 at HO570 HO576 BK564 BK577 HB hHeld ⊢
        refine take_ (i := 0) (N := some 22) (v := ?_) (a' := ?_) (bv 5 1) rfl rfl (by kernel_rfl) (fun _ _ _ h => h) (Or.inl ⟨by rfl, ?_⟩) hHeld ?_ ?_
        rotate_left
        · rintro w' ⟨s0, s1, s2, s3, s4, s5⟩
          go_simp
          with_reducible rfl
        rotate_left
        · simp only [Act.put, List.setIfInBounds_toArray, List.set_cons_zero, List.set_cons_succ, i64_w, i32_w]
          rfl
        refine take_ (i := 1) (N := some 23) (v := ?_) (a' := ?_) (bv 5 3) rfl rfl (by kernel_rfl) (fun _ _ _ h => h) (Or.inl ⟨by rfl, ?_⟩) hHeld ?_ ?_
        rotate_left
        · rintro w' ⟨s0, s1, s2, s3, s4, s5⟩
          go_simp
          with_reducible rfl
        rotate_left
        · simp only [Act.put, List.setIfInBounds_toArray, List.set_cons_zero, List.set_cons_succ, i64_w, i32_w]
          rfl
        refine one_ (i := 2) (N := some 24) (bv 5 7) rfl rfl (by kernel_rfl) (by decide) (fun K hK => ?_)
        refine goes_ Tryd.func31 (by kernel_rfl) rfl #[.agg #[.int .i64 a0_0, .int .i64 a0_1, .slice A0_2 l0_2.length c0_2]] (by rfl) rfl rfl Ag ?_
        with_reducible refine (laws_toAnswer.calls k a0_0 a0_1 _ _ l0_2 t579 t580 t581 _ ?side1 ?side2 A26.out).mono ?_
        (case side1 => repeat (first | exact (Kd.C_below HR0_2.out HB.out) | (with_reducible refine Kd.C_alloc ?_ _) | (with_reducible refine Kd.C_drewN ?_ _) | (with_reducible refine Kd.C_drew ?_)))
        (case side2 => exact HC0_2.out)
        rintro e w62 ⟨v582, rfl, ho0, hb⟩
        refine ⟨_, rfl, ?_⟩
        have n0_ := Aside0.mk (Kd.R_elder' (by (with_reducible repeat (first | apply Kd.R_alloc | apply Kd.R_drewN | apply Kd.R_drew)); exact HO570.out) (Kd.R_base ho0) hb)
        have n1_ := Aside0.mk (Kd.R_elder' (by (with_reducible repeat (first | apply Kd.R_alloc | apply Kd.R_drewN | apply Kd.R_drew)); exact HO576.out) (Kd.R_base ho0) hb)
        have n2_ := Aside0.mk (Kd.R_lower (Kd.R_new' (Kd.R_new' ho0 (Kd.R_lt (by (with_reducible repeat (first | apply Kd.R_alloc | apply Kd.R_drewN | apply Kd.R_drew)); exact HO570.out))) (Kd.R_lt (by (with_reducible repeat (first | apply Kd.R_alloc | apply Kd.R_drewN | apply Kd.R_drew)); exact HO576.out))) (below_size By))
        have n3_ := Aside0.mk (bb BK564.out hb)
        have n4_ := Aside0.mk (bb BK577.out hb)
        have n5_ := Aside0.mk (below_step By hb)
        clear HO570
        clear HO576
        clear BK564
        clear BK577
        clear HB
        have HO570 := n0_
        have HO576 := n1_
        have HO583 := n2_
        have BK564 := n3_
        have BK577 := n4_
        have HB := n5_
        clear n0_ n1_ n2_ n3_ n4_ n5_
        (try clear hb)
        (try clear hb2)
        (try clear hk)
        (try clear hi)
        (try clear ho0)
        obtain ⟨Ao63, co63, eo63⟩ := Kd.R_slice HO583.out
        (first | subst eo63 | (injection eo63 with f1_ f2_ f3_; have f4_ := f1_.symm; have f5_ := f3_.symm; clear f1_ f2_ f3_; subst f4_; subst f5_))
        refine hK.out _ _ ⟨bc BK577.out 0, bc BK577.out 1, bc BK577.out 2, bc BK564.out 0, bc BK564.out 1, bc BK564.out 2⟩ (fun hHeld => ?_)
        clear hK K
        refine norm_ (a' := ?_) ?_ ?_
        rotate_left
        · show Act.put _ (some 24) _ = _
          simp only [Act.put, List.setIfInBounds_toArray, List.set_cons_zero, List.set_cons_succ, i64_w, i32_w]
          rfl
        refine one_ (i := 3) (N := some 25) (bv 5 15) rfl rfl (by kernel_rfl) (by decide) (fun K hK => ?_)
        refine goes_ Tryd.func33 (by kernel_rfl) rfl #[.agg #[.int .i64 t572, .int .i64 t573, .slice Ao59 t574.length co59], .agg #[.int .i64 t579, .int .i64 t580, .slice Ao63 t581.length co63]] (by rfl) rfl rfl Ag ?_
        with_reducible refine (laws_eqAnswer.calls k t572 t573 _ _ t574 t579 t580 _ _ t581 false _ ?side1 ?side2 ?side3 ?side4 A27.out).mono ?_
        (case side1 => repeat (first | exact (Kd.R_reads' HO576.out).2.2 | (with_reducible refine Kd.C_alloc ?_ _) | (with_reducible refine Kd.C_drewN ?_ _) | (with_reducible refine Kd.C_drew ?_)))
        (case side2 => exact (Kd.R_reads' HO576.out).2.1)
        (case side3 => repeat (first | exact (Kd.R_reads' HO583.out).2.2 | (with_reducible refine Kd.C_alloc ?_ _) | (with_reducible refine Kd.C_drewN ?_ _) | (with_reducible refine Kd.C_drew ?_)))
        (case side4 => exact (Kd.R_reads' HO583.out).2.1)
        rintro e w64 ⟨rfl, hb⟩
        refine ⟨_, rfl, ?_⟩
        have n0_ := Aside0.mk (Kd.R_below (by (with_reducible repeat (first | apply Kd.R_alloc | apply Kd.R_drewN | apply Kd.R_drew)); exact HO570.out) hb)
        have n1_ := Aside0.mk (Kd.R_below (by (with_reducible repeat (first | apply Kd.R_alloc | apply Kd.R_drewN | apply Kd.R_drew)); exact HO576.out) hb)
        have n2_ := Aside0.mk (Kd.R_below (by (with_reducible repeat (first | apply Kd.R_alloc | apply Kd.R_drewN | apply Kd.R_drew)); exact HO583.out) hb)
        have n3_ := Aside0.mk (bb BK564.out hb)
        have n4_ := Aside0.mk (bb BK577.out hb)
        have n5_ := Aside0.mk (below_step By hb)
        clear HO570
        clear HO576
        clear HO583
        clear BK564
        clear BK577
        clear HB
        have HO570 := n0_
        have HO576 := n1_
        have HO583 := n2_
        have BK564 := n3_
        have BK577 := n4_
        have HB := n5_
        clear n0_ n1_ n2_ n3_ n4_ n5_
        (try clear hb)
        (try clear hb2)
        (try clear hk)
        (try clear hi)
        refine hK.out _ _ ⟨bc BK577.out 0, bc BK577.out 1, bc BK577.out 2, bc BK564.out 0, bc BK564.out 1, bc BK564.out 2⟩ (fun hHeld => ?_)
        clear hK K
        refine norm_ (a' := ?_) ?_ ?_
        rotate_left
        · show Act.put _ (some 25) _ = _
          simp only [Act.put, List.setIfInBounds_toArray, List.set_cons_zero, List.set_cons_succ, i64_w, i32_w]
          rfl
        refine pure_ (i := 4) (N := some 26) (v := ?_) (a' := ?_) (bv 5 31) rfl rfl (by kernel_rfl) (fun _ _ _ h => h) (Or.inl ⟨by rfl, ?_⟩) ?_ ?_
        rotate_left
        · intro w'
          go_simp
          with_reducible rfl
        rotate_left
        · simp only [Act.put, List.setIfInBounds_toArray, List.set_cons_zero, List.set_cons_succ, i64_w, i32_w]
          rfl
        refine done_ (by kernel_rfl) ?_
        try go_wp2
        go_ret
        exact ⟨Rf, By⟩

end Go.Proofs.YtpocoeghobdfiaaDoor.PG
