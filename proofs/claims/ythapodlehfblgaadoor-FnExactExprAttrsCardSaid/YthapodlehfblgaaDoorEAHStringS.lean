/-
  The laws' helpers at StringS: sizes, copies, equality, as plain functions. No condition but those stated.
-/
import Derived.Test.YthapodlehfblgaaDoorEAP1
import Derived.Test.YthapodlehfblgaaDoorEAGen
import Derived.Test.YthapodlehfblgaaDoorEAFits
namespace Go.Proofs.YthapodlehfblgaaDoor.PG
set_option linter.unusedSimpArgs false
set_option linter.unusedVariables false
open Go.RowKit Go.Proofs.YthapodlehfblgaaDoorW.PrintWords Go.Proofs.YthapodlehfblgaaDoorW.PrintLast Go.Proofs.YthapodlehfblgaaDoorW.PrintMore Go.Proofs.YthapodlehfblgaaDoor.Gn Go.Proofs.YthapodlehfblgaaDoor

def lens_StringS (l : List ByteArray) : Prop := l.length ≤ 9223372036854775807
theorem eq_StringS (l : List ByteArray) (hf : lens_StringS l) : Ev (fun k => laws_eqStringS.f k l l) true := by
  unfold laws_eqStringS.f
  simp only [if_true, eq_self_iff_true]
  exact eq_strs (l := laws_eqStringS.l0) (fun _ _ _ _ => rfl) l hf
end Go.Proofs.YthapodlehfblgaaDoor.PG
