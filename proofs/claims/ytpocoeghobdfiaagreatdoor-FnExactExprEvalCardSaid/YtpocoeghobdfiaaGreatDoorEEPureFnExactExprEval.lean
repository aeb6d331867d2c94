/-
  The program's ExprEval returns what the reference's returns, and leaves its arguments alone, for every expression and entry: the plain law over the printed functions. No condition.
-/
import Derived.Test.YtpocoeghobdfiaaGreatDoorEEP6
import Derived.Test.YtpocoeghobdfiaaGreatDoorEESpecEval
import Derived.Test.YtpocoeghobdfiaaGreatDoorEEHEntry
import Derived.Test.YtpocoeghobdfiaaGreatDoorEEHPart
import Derived.Test.YtpocoeghobdfiaaGreatDoorEEHTextOut
namespace Go.Proofs.YtpocoeghobdfiaaGreatDoor.Pure
set_option linter.unusedVariables false
set_option linter.unusedSimpArgs false
open Go.RowKit Go.Proofs.YtpocoeghobdfiaaGreatDoor.PG Go.Proofs.YtpocoeghobdfiaaGreatDoor Go.Proofs.YtpocoeghobdfiaaGreatDoorW.PrintWords Go.Proofs.YtpocoeghobdfiaaGreatDoorW.PrintLast Go.Proofs.YtpocoeghobdfiaaGreatDoor.Gn

theorem FnExactExprEval (x0 : List (PG.S63)) (x1 : PG.S26) (w0 : Ft.fit22 x0) (w1 : Ft.fit26 x1) : ∃ k, laws_FnExactExprEval.f k x0 x1.f0 x1.f1 = some true := by
  refine Ev.rounds ?_
  obtain ⟨r0, hr0, hle0, hs0⟩ := sz_PartS x0 w0 1048576 (by omega) (by omega)
  unfold laws_FnExactExprEval.f
  refine Ev_bind hr0 ?_
  by_cases hneg0 : r0 < 0
  · simp only [if_pos hneg0]
    exact Ev.now _
  simp only [if_neg hneg0]
  obtain ⟨r1, hr1, hle1, hs1⟩ := sz_Entry x1 w1 r0 (by omega) (by omega)
  refine Ev_bind hr1 ?_
  by_cases hneg1 : r1 < 0
  · simp only [if_pos hneg1]
    exact Ev.now _
  simp only [if_neg hneg1]
  have hln0 := lens_conv_PartS x0 (hs0 (by omega))
  have hln1 := lens_conv_Entry x1 (hs1 (by omega))
  refine Ev_bind (to_PartS x0 w0) (Ev_bind (to_Entry x1 w1) ?_)
  unfold spec_ExprEval.f
  simp only [Option.bind_some]
  refine Ev_bind (to_PartS x0 w0) (Ev_bind (to_Entry x1 w1) ?_)
  unfold impl_ExprEval.f
  simp only [Option.bind_some]
  generalize exprEvalV (x0.map conv_Part) (conv_Entry x1).f0 (conv_Entry x1).f1 = p
  refine Ev_bind (eq_TextOut ⟨p.1, 0, p.2⟩ (by first | trivial | exact ⟨trivial, trivial, trivial⟩ | simp [lens_TextOut])) ?_
  simp only [if_true]
  refine Ev_bind (to_PartS x0 w0) (Ev_bind (eq_PartS _ hln0) ?_)
  simp only [if_true]
  refine Ev_bind (to_Entry x1 w1) (Ev_bind (eq_Entry _ hln1) ?_)
  simp only [if_true]
  exact Ev.now _
end Go.Proofs.YtpocoeghobdfiaaGreatDoor.Pure
