/-
  The laws' helpers at TableOut: sizes, copies, equality, as plain functions. No condition but those stated.
-/
import Derived.Test.YthapodlehfblgaaDoorRSP3
import Derived.Test.YthapodlehfblgaaDoorRSGen
import Derived.Test.YthapodlehfblgaaDoorRSFits
import Derived.Test.YthapodlehfblgaaDoorRSHTable
import Derived.Test.YthapodlehfblgaaDoorRSHRow
namespace Go.Proofs.YthapodlehfblgaaDoor.PG
set_option linter.unusedSimpArgs false
set_option linter.unusedVariables false
open Go.RowKit Go.Proofs.YthapodlehfblgaaDoorW.PrintWords Go.Proofs.YthapodlehfblgaaDoorW.PrintLast Go.Proofs.YthapodlehfblgaaDoorW.PrintMore Go.Proofs.YthapodlehfblgaaDoor.Gn Go.Proofs.YthapodlehfblgaaDoor

def lens_TableOut (y : S57) : Prop := lens_Table y.f0 ∧ lens_Row y.f1 ∧ lens_RowS y.f2 ∧ True
theorem eq_TableOut (y : S57) (hf : lens_TableOut y) : Ev (fun k => laws_eqTableOut.f k y.f0.f0 y.f0.f1 y.f0.f2 y.f1.f0 y.f1.f1 y.f1.f2 y.f1.f3 y.f1.f4 y.f1.f5 y.f1.f6 y.f2 y.f3 y.f0.f0 y.f0.f1 y.f0.f2 y.f1.f0 y.f1.f1 y.f1.f2 y.f1.f3 y.f1.f4 y.f1.f5 y.f1.f6 y.f2 y.f3) true := by
  obtain ⟨h0, h1, h2, h3⟩ := hf
  unfold laws_eqTableOut.f
  (try simp only [if_true, eq_self_iff_true, bne_self_eq_false, Bool.false_eq_true, if_false, reduceIte, reduceCtorEq])
  refine Ev_bind (eq_Table y.f0 h0) ?_
  (try simp only [if_true, eq_self_iff_true, bne_self_eq_false, Bool.false_eq_true, if_false, reduceIte, reduceCtorEq])
  refine Ev_bind (eq_Row y.f1 h1) ?_
  (try simp only [if_true, eq_self_iff_true, bne_self_eq_false, Bool.false_eq_true, if_false, reduceIte, reduceCtorEq])
  refine Ev_bind (eq_RowS y.f2 h2) ?_
  (try simp only [if_true, eq_self_iff_true, bne_self_eq_false, Bool.false_eq_true, if_false, reduceIte, reduceCtorEq])
  exact Ev.now _
end Go.Proofs.YthapodlehfblgaaDoor.PG
