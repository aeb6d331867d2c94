/-
  The program's FlowRight returns what the reference's returns, and leaves its flow alone, for every flow: the plain law over the printed functions. No condition.
-/
import Derived.Test.YtbgikfahcppkfaaGreatDoorFRP5
import Derived.Test.YtbgikfahcppkfaaGreatDoorFRP2
import Derived.Test.YtbgikfahcppkfaaGreatDoorFRP3
import Derived.Test.YtbgikfahcppkfaaGreatDoorFRP1
import Derived.Test.YtbgikfahcppkfaaGreatDoorFRPutF
import Derived.Test.YtbgikfahcppkfaaGreatDoorFRParts
import Derived.Test.YtbgikfahcppkfaaGreatDoorFRDn
import Derived.Test.YtbgikfahcppkfaaGreatDoorFRHFlow
namespace Go.Proofs.YtbgikfahcppkfaaGreatDoor.Pure
set_option linter.unusedVariables false
set_option linter.unusedSimpArgs false
open Go.RowKit Go.Proofs.YtbgikfahcppkfaaGreatDoor.PG Go.Proofs.YtbgikfahcppkfaaGreatDoor Go.Proofs.YtbgikfahcppkfaaGreatDoorW.PrintWords Go.Proofs.YtbgikfahcppkfaaGreatDoorW.PrintLast Go.Proofs.YtbgikfahcppkfaaGreatDoor.Gn Go.Proofs.YtbgikfahcppkfaaGreatDoor.Sem

theorem spec_dn2 (l : List S126) (hl : l.length ≤ 9223372036854775807) : Ev (fun k => spec_DnRight.f k l) (dnB l) := by
  have hall : dnB l = ((List.range l.length).all (fun i => rdnB (rd_T126 l (i : Int))) && decide (l.length ≤ 6)) := by
    unfold dnB
    rw [Bool.and_comm]
    congr 1
    rw [Bool.eq_iff_iff, List.all_eq_true, List.all_eq_true]
    constructor
    · intro h i hi
      have hi' : i < l.length := by simpa using hi
      unfold rd_T126
      rw [Int.toNat_natCast, getD_at hi']
      exact h _ (List.getElem_mem _)
    · intro h x hx
      obtain ⟨i, hi, rfl⟩ := List.mem_iff_getElem.1 hx
      have := h i (by simpa using hi)
      unfold rd_T126 at this
      rw [Int.toNat_natCast, getD_at hi] at this
      exact this
  rw [hall]
  unfold spec_DnRight.f
  refine all_loop (fun k i => spec_DnRight.l0 k l i) _ l.length _ ?_ ?_
  · refine Ev_one fun k => ?_
    simp only [spec_DnRight.l0]
    rw [if_neg (by omega)]
    congr 2
    exact propext (by omega)
  · intro i hi u hu
    have e0 : wrap64 ((i : Int) + 1) = ((i + 1 : Nat) : Int) := by rw [wsucc (by omega) (by omega)]; omega
    refine Ev.step (fun k => by simp only [spec_DnRight.l0]; rw [if_pos (by omega), if_pos (by omega), e0]) ?_
    refine Ev_bind (spec_name _) ?_
    unfold rdnB
    cases nameB (rd_T126 l (i : Int)).f0
    · exact Ev_some fun k => by simp
    · simp only [if_true, Bool.true_and]
      refine Ev_bind (spec_proper _) ?_
      cases properB (rd_T126 l (i : Int)).f1
      · exact Ev_some fun k => by simp
      · simpa using hu

theorem spec_has (l : List ByteArray) (x : ByteArray) (hl : l.length ≤ 1000000) : Ev (fun k => spec_l04Has.f k l x) (decide (x ∈ l)) := by
  have key : ∀ (m i : Nat), i + m = l.length → Ev (fun k => spec_l04Has.l0 k l x (i : Int)) (decide (x ∈ l.drop i)) := by
    intro m
    induction m with
    | zero =>
      intro i hi
      rw [List.drop_eq_nil_of_le (by omega)]
      exact Ev_one fun k => by simp only [spec_l04Has.l0]; rw [if_neg (by omega)]; simp
    | succ m ih =>
      intro i hi
      have hlt : i < l.length := by omega
      have h1 : (i : Int) < (l.length : Int) := by omega
      have h2 : 0 ≤ (i : Int) := by omega
      have er := rd_str l hlt
      have e0 : wrap64 ((i : Int) + 1) = ((i + 1 : Nat) : Int) := by rw [wsucc (by omega) (by omega)]; omega
      rw [List.drop_eq_getElem_cons hlt]
      rcases Decidable.em ((l[i]'hlt) = x) with he | he
      · refine Ev_one fun k => ?_
        simp only [spec_l04Has.l0]
        rw [if_pos h1, if_pos h2, er, if_pos ((same_iff _ _).2 he)]
        simp [he]
      · have h := ih (i + 1) (by omega)
        refine Ev.step (fun k => ?_) (show Ev _ _ by rw [show decide (x ∈ (l[i]'hlt) :: l.drop (i + 1)) = decide (x ∈ l.drop (i + 1)) from decide_eq_decide.2 ⟨fun h => (List.mem_cons.1 h).resolve_left (fun e => he e.symm), fun h => List.mem_cons_of_mem _ h⟩]; exact h)
        simp only [spec_l04Has.l0]
        rw [if_pos h1, if_pos h2, er, if_neg (fun h => he ((same_iff _ _).1 h)), e0]
  have := key l.length 0 (by omega)
  unfold spec_l04Has.f
  simpa using this
theorem impl_has (l : List ByteArray) (x : ByteArray) (hl : l.length ≤ 1000000) : Ev (fun k => slices_Contains_string.f k l x) (decide (x ∈ l)) := by
  have key : ∀ (m i : Nat), i + m = l.length → ∃ r : Int, Ev (fun k => slices_Index_string.l0 k l x (l.length : Int) (i : Int)) r ∧ decide (r ≥ 0) = decide (x ∈ l.drop i) := by
    intro m
    induction m with
    | zero =>
      intro i hi
      refine ⟨-1, Ev_one fun k => ?_, ?_⟩
      · simp only [slices_Index_string.l0]
        rw [if_neg (by omega)]
      · rw [List.drop_eq_nil_of_le (by omega)]
        simp
    | succ m ih =>
      intro i hi
      have hlt : i < l.length := by omega
      have h1 : (i : Int) < (l.length : Int) := by omega
      have h2 : 0 ≤ (i : Int) := by omega
      have er := rd_str l hlt
      have e0 : wrap64 ((i : Int) + 1) = ((i + 1 : Nat) : Int) := by rw [wsucc (by omega) (by omega)]; omega
      rw [List.drop_eq_getElem_cons hlt]
      rcases Decidable.em (x = (l[i]'hlt)) with he | he
      · refine ⟨i, Ev_one fun k => ?_, ?_⟩
        · simp only [slices_Index_string.l0]
          rw [if_pos h1, if_pos h2, if_pos h1, er, if_pos ((same_iff _ _).2 he)]
        · rw [decide_eq_true (show (i : Int) ≥ 0 by omega), decide_eq_true (show x ∈ (l[i]'hlt) :: l.drop (i + 1) from he ▸ List.mem_cons_self)]
      · obtain ⟨r, hr, hd⟩ := ih (i + 1) (by omega)
        refine ⟨r, Ev.step (fun k => ?_) hr, ?_⟩
        · simp only [slices_Index_string.l0]
          rw [if_pos h1, if_pos h2, if_pos h1, er, if_neg (fun h => he ((same_iff _ _).1 h)), e0]
        · rw [hd]
          exact decide_eq_decide.2 ⟨fun h => List.mem_cons_of_mem _ h, fun h => (List.mem_cons.1 h).resolve_left he⟩
  obtain ⟨r, hr, hd⟩ := key l.length 0 (by omega)
  rw [List.drop_zero] at hd
  rw [← hd]
  unfold slices_Contains_string.f
  refine Ev_bind (a := r) ?_ (Ev.now _)
  unfold slices_Index_string.f
  exact hr
theorem expr_len {x : List S156} (h : Ev (fun k => spec_ExprRight.f k x) true) : x.length ≤ 12 := by
  obtain ⟨k, hk⟩ := h.rounds
  unfold spec_ExprRight.f at hk
  by_cases h12 : (x.length : Int) ≤ 12
  · omega
  · rw [if_neg h12] at hk
    cases hk
theorem flow_same (d : List S126) (f : XS) (lo ma ph : List S156) (back : Bool) (hd : d.length ≤ 9223372036854775807) :
    ∃ b, Ev (fun k => spec_FlowRight.f k d f lo ma ph back) b ∧ Ev (fun k => impl_FlowRight.f k d f lo ma ph back) b := by
  obtain ⟨bf, sf, jf, _⟩ := filter_same f
  obtain ⟨b1, s1, i1⟩ := expr_same lo
  obtain ⟨b2, s2, i2⟩ := expr_same ma
  obtain ⟨b3, s3, i3⟩ := expr_same ph
  have sd := spec_dn2 d hd
  have jd : impl_DnRight.f d = some (dnB d) := rfl
  have st : Ev (fun k => spec_FlowRight.j0 k true d f lo ma ph back) false := Ev_one fun k => by simp [spec_FlowRight.j0]
  have jt : Ev (fun k => impl_FlowRight.j0 k true d f lo ma ph back) false := Ev_one fun k => by simp [impl_FlowRight.j0]
  unfold spec_FlowRight.f impl_FlowRight.f
  rw [jd]
  simp only [Option.bind_some]
  cases hdn : dnB d with
  | false =>
    rw [hdn] at sd
    exact ⟨false, Ev_bind sd (by simpa using st), by simpa using jt⟩
  | true =>
    rw [hdn] at sd
    simp only [if_true]
    cases bf with
    | false => exact ⟨false, Ev_bind sd (Ev_bind sf (by simpa using st)), Ev_bind jf (by simpa using jt)⟩
    | true =>
      cases b1 with
      | false => exact ⟨false, Ev_bind sd (Ev_bind sf (by simpa using Ev_bind s1 (by simpa using st))), Ev_bind jf (by simpa using Ev_bind i1 (by simpa using jt))⟩
      | true =>
        cases b2 with
        | false => exact ⟨false, Ev_bind sd (Ev_bind sf (by simpa using Ev_bind s1 (by simpa using Ev_bind s2 (by simpa using st)))), Ev_bind jf (by simpa using Ev_bind i1 (by simpa using Ev_bind i2 (by simpa using jt)))⟩
        | true =>
          have fin : ∃ b, Ev (fun k => spec_FlowRight.j0 k (!b3) d f lo ma ph back) b ∧ Ev (fun k => impl_FlowRight.j0 k (!b3) d f lo ma ph back) b := by
            cases b3 with
            | false => exact ⟨false, by simpa using st, by simpa using jt⟩
            | true =>
              cases back with
              | false => exact ⟨true, Ev_one fun k => by simp [spec_FlowRight.j0], Ev_one fun k => by simp [impl_FlowRight.j0]⟩
              | true =>
                have f20 := (filter_ops sf).1
                have l1 := expr_len s1
                have l2 := expr_len s2
                have q0 := spec_flAttrs f sf
                have q1 := spec_exAttrs lo (by omega)
                have q2 := spec_exAttrs ma (by omega)
                have p0 := impl_flAttrs f (by omega)
                have p1 := impl_exAttrs lo (by omega)
                have p2 := impl_exAttrs ma (by omega)
                have n0 : (unionB [flA f]).length ≤ 20 := by
                  have h1 := unionB_le [flA f]
                  have h2 : (flA f).length ≤ f.length := by unfold flA; rw [List.length_map]; exact List.length_filter_le _ _
                  simp at h1
                  omega
                have n1 : (unionB [exA lo]).length ≤ 12 := by
                  have h1 := unionB_le [exA lo]
                  have h2 := exA_len lo
                  simp at h1
                  omega
                have n2 : (unionB [exA ma]).length ≤ 12 := by
                  have h1 := unionB_le [exA ma]
                  have h2 := exA_len ma
                  simp at h1
                  omega
                generalize unionB [flA f] = u0 at *
                generalize unionB [exA lo] = u1 at *
                generalize unionB [exA ma] = u2 at *
                obtain ⟨x, hx⟩ : ∃ x : ByteArray, x = ⟨#[112, 104, 111, 110, 101]⟩ := ⟨_, rfl⟩
                have hc : slices_Concat_string.f [u0, u1, u2] = some (u0 ++ (u1 ++ u2)) := by
                  unfold slices_Concat_string.f
                  rw [if_pos (by simp; omega)]
                  simp
                have hi := impl_has (u0 ++ (u1 ++ u2)) x (by simp; omega)
                have h0 := spec_has u0 x (by omega)
                have h1 := spec_has u1 x (by omega)
                have h2 := spec_has u2 x (by omega)
                refine ⟨!decide (x ∈ u0 ++ (u1 ++ u2)), ?_, ?_⟩
                · refine Ev.step (f := fun k => (spec_FilterAttrs.f k f).bind fun t275 => ((spec_l04Has.f k t275 x).bind fun t278 => (if t278 = true then (some false) else ((spec_l13Attrs.f k lo).bind fun t279 => ((spec_l04Has.f k t279 x).bind fun t282 => (if t282 = true then (some false) else ((spec_l13Attrs.f k ma).bind fun t283 => ((spec_l04Has.f k t283 x).bind fun t286 => (some (!t286)))))))))) (fun k => by rw [hx]; simp [spec_FlowRight.j0]) ?_
                  refine Ev_bind q0 (Ev_bind h0 ?_)
                  by_cases m0 : x ∈ u0
                  · simp only [m0, decide_true, if_true]
                    simpa [m0] using Ev.now false
                  · simp only [m0, decide_false, Bool.false_eq_true, if_false]
                    refine Ev_bind q1 (Ev_bind h1 ?_)
                    by_cases m1 : x ∈ u1
                    · simp only [m1, decide_true, if_true]
                      simpa [m0, m1] using Ev.now false
                    · simp only [m1, decide_false, Bool.false_eq_true, if_false]
                      refine Ev_bind q2 (Ev_bind h2 ?_)
                      by_cases m2 : x ∈ u2
                      · simpa [m0, m1, m2] using Ev.now false
                      · simpa [m0, m1, m2] using Ev.now true
                · refine Ev.step (f := fun k => (impl_filterAttrs.f k f).bind fun t428 => ((impl_exprAttrs.f k lo).bind fun t431 => ((impl_exprAttrs.f k ma).bind fun t434 => ((slices_Concat_string.f (([t428, t431, t434] : List (List ByteArray)))).bind fun t440 => ((slices_Contains_string.f k t440 x).bind fun t443 => (some (!t443))))))) (fun k => by rw [hx]; simp [impl_FlowRight.j0]) ?_
                  refine Ev_bind p0 (Ev_bind p1 (Ev_bind p2 ?_))
                  rw [hc]
                  exact Ev_bind (a := u0 ++ (u1 ++ u2)) (Ev.now _) (Ev_bind hi (Ev.now _))
          obtain ⟨b, h1, h2⟩ := fin
          exact ⟨b, Ev_bind sd (Ev_bind sf (by simpa using Ev_bind s1 (by simpa using Ev_bind s2 (by simpa using Ev_bind s3 h1)))), Ev_bind jf (by simpa using Ev_bind i1 (by simpa using Ev_bind i2 (by simpa using Ev_bind i3 h2)))⟩
theorem FnExactFlowRight (x0 : PG.S59) (w0 : Ft.fit59 x0) : ∃ k, laws_FnExactFlowRight.f k x0.f0 x0.f1 x0.f2 x0.f3 x0.f4 x0.f5 = some true := by
  refine Ev.rounds ?_
  obtain ⟨r, hr, _, hs⟩ := sz_Flow x0 w0 1048576 (by omega) (by omega)
  unfold laws_FnExactFlowRight.f
  refine Ev_bind hr ?_
  by_cases hneg : r < 0
  · simp only [if_pos hneg]
    exact Ev.now _
  simp only [if_neg hneg]
  have hln := lens_conv_Flow x0 (hs (by omega))
  refine Ev_bind (to_Flow x0 w0) ?_
  obtain ⟨b, h1, h2⟩ := flow_same (conv_Flow x0).f0 (conv_Flow x0).f1 (conv_Flow x0).f2 (conv_Flow x0).f3 (conv_Flow x0).f4 (conv_Flow x0).f5 (Nat.le_trans hln.1.1 (by omega))
  refine Ev_bind h1 (Ev_bind (to_Flow x0 w0) (Ev_bind h2 ?_))
  simp only [bne_self_eq_false, Bool.false_eq_true, if_false]
  refine Ev_bind (to_Flow x0 w0) (Ev_bind (eq_Flow _ hln) ?_)
  simp only [if_true]
  exact Ev.now _
end Go.Proofs.YtbgikfahcppkfaaGreatDoor.Pure
