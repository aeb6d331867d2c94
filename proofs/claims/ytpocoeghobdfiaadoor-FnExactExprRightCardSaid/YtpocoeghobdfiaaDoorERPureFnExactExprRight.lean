/-
  The program's ExprRight returns what the reference's returns, and leaves its argument alone, for every expression: the plain law over the printed functions. No condition.
-/
import Derived.Test.YtpocoeghobdfiaaDoorERP2
import Derived.Test.YtpocoeghobdfiaaDoorERParts
import Derived.Test.YtpocoeghobdfiaaDoorERHPart
namespace Go.Proofs.YtpocoeghobdfiaaDoor.Pure
open Go.RowKit Go.Proofs.YtpocoeghobdfiaaDoor.PG Go.Proofs.YtpocoeghobdfiaaDoor Go.Proofs.YtpocoeghobdfiaaDoorW.PrintWords Go.Proofs.YtpocoeghobdfiaaDoorW.PrintLast Go.Proofs.YtpocoeghobdfiaaDoor.Gn

theorem FnExactExprRight (x0 : List (PG.S84)) (w0 : Ft.fit22 x0) : ∃ k, laws_FnExactExprRight.f k x0 = some true := by
  refine Ev.rounds ?_
  obtain ⟨r, hr, _, hs⟩ := sz_PartS x0 w0 1048576 (by omega) (by omega)
  unfold laws_FnExactExprRight.f
  refine Ev_bind hr ?_
  by_cases hneg : r < 0
  · simp only [if_pos hneg]
    exact Ev.now _
  simp only [if_neg hneg]
  have hsm := hs (by omega)
  refine Ev_bind (to_PartS x0 w0) ?_
  obtain ⟨b, h1, h2⟩ := expr_same (x0.map conv_Part)
  refine Ev_bind h1 (Ev_bind (to_PartS x0 w0) (Ev_bind h2 ?_))
  simp only [bne_self_eq_false, Bool.false_eq_true, if_false]
  refine Ev_bind (to_PartS x0 w0) (Ev_bind (eq_PartS _ (lens_conv_PartS x0 hsm)) ?_)
  exact Ev.now _
end Go.Proofs.YtpocoeghobdfiaaDoor.Pure
