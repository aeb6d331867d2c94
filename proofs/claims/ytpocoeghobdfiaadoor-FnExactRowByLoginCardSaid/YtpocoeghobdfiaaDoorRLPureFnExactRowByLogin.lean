/-
  The program's RowByLogin returns the row that the reference's returns, and leaves its table alone, for every table: the plain law over the printed functions. No condition.
-/
import Derived.Test.YtpocoeghobdfiaaDoorRLP5
import Derived.Test.YtpocoeghobdfiaaDoorRLRowSame
import Derived.Test.YtpocoeghobdfiaaDoorRLHTable
namespace Go.Proofs.YtpocoeghobdfiaaDoor.Pure
set_option linter.unusedVariables false
open Go.RowKit Go.Proofs.YtpocoeghobdfiaaDoor.PG Go.Proofs.YtpocoeghobdfiaaDoor Go.Proofs.YtpocoeghobdfiaaDoorW.PrintWords Go.Proofs.YtpocoeghobdfiaaDoorW.PrintLast Go.Proofs.YtpocoeghobdfiaaDoor.Gn

theorem FnExactRowByLogin (x0 : PG.S31) (a1 : ByteArray) (w0 : Ft.fit31 x0) (w1 : a1.size ≤ 140737488351232) : ∃ k, laws_FnExactRowByLogin.f k x0.f0 x0.f1 x0.f2 a1 = some true := by
  refine Ev.rounds ?_
  obtain ⟨r, hr, _, hs⟩ := sz_Table x0 w0 1048576 (by omega) (by omega)
  unfold laws_FnExactRowByLogin.f
  by_cases hbig : (a1.size : Int) > 1048576
  · simp only [if_pos hbig]
    exact Ev.now _
  simp only [if_neg hbig]
  refine Ev_bind hr ?_
  by_cases hneg : r < 0
  · simp only [if_pos hneg]
    exact Ev.now _
  simp only [if_neg hneg]
  have hsm := hs (by omega)
  have hl : (conv_Table x0).f2.length ≤ 1048576 := by
    show (x0.f2.map conv_Row).length ≤ 1048576
    rw [List.length_map]
    exact hsm.2.2.1
  refine Ev_bind (to_Table x0 w0) ?_
  refine Ev_bind (spec_byLogin _ _ _ a1 hl) (Ev_bind (to_Table x0 w0) (Ev_bind (impl_byLogin _ _ _ a1) ?_))
  generalize byLoginT (conv_Table x0).f0 (conv_Table x0).f1 (conv_Table x0).f2 a1 = q
  refine Ev_bind (eq_Row ⟨q.1, q.2.1, q.2.2.1, q.2.2.2.1, q.2.2.2.2.1, q.2.2.2.2.2.1, q.2.2.2.2.2.2⟩ ⟨trivial, trivial, trivial, trivial, trivial, trivial, trivial⟩) ?_
  simp only [if_true]
  refine Ev_bind (to_Table x0 w0) (Ev_bind (eq_Table _ (lens_conv_Table x0 hsm)) ?_)
  simp only [if_true]
  exact Ev.now _
end Go.Proofs.YtpocoeghobdfiaaDoor.Pure
