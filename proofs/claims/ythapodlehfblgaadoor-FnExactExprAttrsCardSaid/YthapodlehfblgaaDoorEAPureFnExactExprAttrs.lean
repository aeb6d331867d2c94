/-
  The program's ExprAttrs returns what the reference's returns, in memory of its own, for every expression: the plain law over the printed functions. No condition.
-/
import Derived.Test.YthapodlehfblgaaDoorEAP4
import Derived.Test.YthapodlehfblgaaDoorEAP1
import Derived.Test.YthapodlehfblgaaDoorEAPut
import Derived.Test.YthapodlehfblgaaDoorEAParts
import Derived.Test.YthapodlehfblgaaDoorEAMarkPart
import Derived.Test.YthapodlehfblgaaDoorEAMarkString
import Derived.Test.YthapodlehfblgaaDoorEAHPart
import Derived.Test.YthapodlehfblgaaDoorEAHStringS
namespace Go.Proofs.YthapodlehfblgaaDoor.Pure
set_option linter.unusedVariables false
set_option linter.unusedSimpArgs false
open Go.RowKit Go.Proofs.YthapodlehfblgaaDoor.PG Go.Proofs.YthapodlehfblgaaDoor Go.Proofs.YthapodlehfblgaaDoorW.PrintWords Go.Proofs.YthapodlehfblgaaDoorW.PrintLast Go.Proofs.YthapodlehfblgaaDoor.Gn

theorem expr_len2 {x : List S82} (h : Ev (fun k => spec_ExprRight.f k x) true) : x.length ≤ 12 := by
  obtain ⟨k, hk⟩ := h.rounds
  unfold spec_ExprRight.f at hk
  by_cases h12 : (x.length : Int) ≤ 12
  · omega
  · rw [if_neg h12] at hk
    cases hk
theorem attrs_same (x : List S82) : ∃ q, q.length ≤ 12 ∧ Ev (fun k => spec_ExprAttrs.f k x) q ∧ Ev (fun k => impl_ExprAttrs.f k x) q := by
  obtain ⟨b, s, i⟩ := expr_same x
  cases b with
  | false =>
    refine ⟨[], by simp, ?_, ?_⟩
    · unfold spec_ExprAttrs.f
      refine Ev_if (fun _ => Ev.now _) (fun _ => Ev_bind s ?_)
      simpa using Ev.now _
    · unfold impl_ExprAttrs.f
      refine Ev_bind i ?_
      simpa using Ev.now _
  | true =>
    have h12 := expr_len2 s
    have n1 : (unionB [exA x]).length ≤ 12 := by
      have h1 := unionB_le [exA x]
      have h2 := exA_len x
      simp at h1
      omega
    refine ⟨unionB [exA x], n1, ?_, ?_⟩
    · unfold spec_ExprAttrs.f
      refine Ev_if (fun h => by omega) (fun _ => Ev_bind s ?_)
      simpa using Ev_bind (spec_exAttrs x (by omega)) (Ev.now _)
    · unfold impl_ExprAttrs.f
      refine Ev_bind i ?_
      simpa using Ev_bind (impl_exAttrs x (by omega)) (Ev.now _)
theorem FnExactExprAttrs (x0 : List (PG.S80)) (w0 : Ft.fit39 x0) : ∃ k, laws_FnExactExprAttrs.f k x0 = some true := by
  refine Ev.rounds ?_
  obtain ⟨r, hr, _, hs⟩ := sz_PartS x0 w0 1048576 (by omega) (by omega)
  unfold laws_FnExactExprAttrs.f
  refine Ev_bind hr ?_
  by_cases hneg : r < 0
  · simp only [if_pos hneg]
    exact Ev.now _
  simp only [if_neg hneg]
  have hsm := hs (by omega)
  have hln := lens_conv_PartS x0 hsm
  have hto := to_PartS x0 w0
  have hlen : (x0.map conv_Part).length ≤ 1048576 := by
    rw [List.length_map]
    exact hsm.1
  refine Ev_bind hto ?_
  generalize x0.map conv_Part = y at hto hln hlen ⊢
  obtain ⟨q, hq, s, i⟩ := attrs_same y
  have heq := eq_StringS q (show q.length ≤ 9223372036854775807 by omega)
  have hm := mark_Part y 1 (by omega) (by omega) (by omega)
  have hms := mark_String q 1 (by omega) (by omega) (by omega)
  have hhs := held_String q.length 1 (by omega) (by omega) (by omega)
  refine Ev_bind s (Ev_bind hto (Ev_bind i (Ev_bind heq ?_)))
  simp only [if_true]
  refine Ev_bind hto (Ev_bind (eq_PartS y hln) ?_)
  simp only [if_true]
  refine Ev_bind hm ?_
  refine Ev.congr (fun k => if_neg (show ¬ (1 + (3 : Nat) * (y.length : Int)) < 0 by omega)) ?_
  refine Ev_bind heq ?_
  refine Ev.step (fun k => by simp only [laws_FnExactExprAttrs.j0, Bool.not_true]; rw [if_neg Bool.false_ne_true]) ?_
  refine Ev_bind hms (Ev_bind hhs ?_)
  refine Ev.congr (fun k => if_neg (show ¬ (1 + (1 : Nat) * (q.length : Int)) < 0 by omega)) (Ev.congr (fun k => if_pos rfl) ?_)
  refine Ev_bind hto (Ev_bind i (Ev_bind heq ?_))
  simp only [if_true]
  refine Ev_bind hhs ?_
  exact Ev.congr (fun k => if_neg (show ¬ (1 + (1 : Nat) * (q.length : Int)) < 0 by omega)) (Ev.congr (fun k => if_pos rfl) (Ev.now _))
end Go.Proofs.YthapodlehfblgaaDoor.Pure
