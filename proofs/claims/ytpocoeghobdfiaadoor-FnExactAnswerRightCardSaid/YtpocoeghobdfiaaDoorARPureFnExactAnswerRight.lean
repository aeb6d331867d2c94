/-
  The program's AnswerRight returns what the reference's returns, and leaves its answer alone, for every answer: the plain law over the printed functions. No condition.
-/
import Derived.Test.YtpocoeghobdfiaaDoorARP6
import Derived.Test.YtpocoeghobdfiaaDoorARAnswer
import Derived.Test.YtpocoeghobdfiaaDoorARHAnswer
namespace Go.Proofs.YtpocoeghobdfiaaDoor.Pure
set_option linter.unusedVariables false
open Go.RowKit Go.Proofs.YtpocoeghobdfiaaDoor.PG Go.Proofs.YtpocoeghobdfiaaDoor Go.Proofs.YtpocoeghobdfiaaDoorW.PrintWords Go.Proofs.YtpocoeghobdfiaaDoorW.PrintLast Go.Proofs.YtpocoeghobdfiaaDoor.Gn

theorem FnExactAnswerRight (x0 : PG.S49) (w0 : Ft.fit49 x0) : ∃ k, laws_FnExactAnswerRight.f k x0.f0 x0.f1 x0.f2 = some true := by
  refine Ev.rounds ?_
  obtain ⟨r, hr, _, hs⟩ := sz_Answer x0 w0 1048576 (by omega) (by omega)
  unfold laws_FnExactAnswerRight.f
  refine Ev_bind hr ?_
  by_cases hneg : r < 0
  · simp only [if_pos hneg]
    exact Ev.now _
  simp only [if_neg hneg]
  have hln := lens_conv_Answer x0 (hs (by omega))
  refine Ev_bind (to_Answer x0 w0) ?_
  refine Ev_bind (spec_answer _ _ _ hln.2.2.1 (fun e he => ⟨(hln.2.2.2 e he).1.1, (hln.2.2.2 e he).2.1, fun x hx => ((hln.2.2.2 e he).2.2 x hx).2⟩)) ?_
  refine Ev_bind (to_Answer x0 w0) ?_
  simp only [impl_AnswerRight.f, Option.bind_some, bne_self_eq_false, Bool.false_eq_true, if_false]
  refine Ev_bind (to_Answer x0 w0) (Ev_bind (eq_Answer _ hln) ?_)
  simp only [if_true]
  exact Ev.now _
end Go.Proofs.YtpocoeghobdfiaaDoor.Pure
