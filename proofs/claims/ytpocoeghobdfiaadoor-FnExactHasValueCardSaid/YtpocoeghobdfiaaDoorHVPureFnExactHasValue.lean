/-
  The program's HasValue returns what the reference's returns, and leaves its entry alone, for every entry, name and value: the plain law over the printed functions. No condition.
-/
import Derived.Test.YtpocoeghobdfiaaDoorHVP6
import Derived.Test.YtpocoeghobdfiaaDoorHVHasValue
import Derived.Test.YtpocoeghobdfiaaDoorHVHEntry
namespace Go.Proofs.YtpocoeghobdfiaaDoor.Pure
set_option linter.unusedVariables false
open Go.RowKit Go.Proofs.YtpocoeghobdfiaaDoor.PG Go.Proofs.YtpocoeghobdfiaaDoor Go.Proofs.YtpocoeghobdfiaaDoorW.PrintWords Go.Proofs.YtpocoeghobdfiaaDoorW.PrintLast Go.Proofs.YtpocoeghobdfiaaDoor.Gn

theorem FnExactHasValue (x0 : PG.S61) (a1 : ByteArray) (a2 : ByteArray) (w0 : Ft.fit61 x0) (w1 : a1.size ≤ 140737488351232) (w2 : a2.size ≤ 140737488351232) : ∃ k, laws_FnExactHasValue.f k x0.f0 x0.f1 a1 a2 = some true := by
  refine Ev.rounds ?_
  obtain ⟨r, hr, _, hs⟩ := sz_Entry x0 w0 1048576 (by omega) (by omega)
  unfold laws_FnExactHasValue.f
  by_cases h1 : (a1.size : Int) > 1048576
  · simp only [if_pos h1]
    exact Ev.now _
  by_cases h2 : (a2.size : Int) > 1048576
  · simp only [if_neg h1, if_pos h2]
    exact Ev.now _
  simp only [if_neg h1, if_neg h2]
  refine Ev_bind hr ?_
  by_cases hneg : r < 0
  · simp only [if_pos hneg]
    exact Ev.now _
  simp only [if_neg hneg]
  have hln := lens_conv_Entry x0 (hs (by omega))
  refine Ev_bind (to_Entry x0 w0) ?_
  refine Ev_bind (spec_hasValue _ _ a1 a2 hln.1.1 hln.2.1 (fun x hx => (hln.2.2 x hx).2)) ?_
  refine Ev_bind (to_Entry x0 w0) ?_
  simp only [impl_HasValue.f, Option.bind_some, bne_self_eq_false, Bool.false_eq_true, if_false]
  refine Ev_bind (to_Entry x0 w0) (Ev_bind (eq_Entry _ hln) ?_)
  simp only [if_true]
  exact Ev.now _
end Go.Proofs.YtpocoeghobdfiaaDoor.Pure
