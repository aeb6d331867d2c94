/-
  The laws' helpers at StringS: sizes, copies, equality, as plain functions. No condition but those stated.
-/
import Derived.Test.YtbgikfahcppkfaaDOP1
import Derived.Test.YtbgikfahcppkfaaDOGen
import Derived.Test.YtbgikfahcppkfaaDOFits
namespace Go.Proofs.Ytbgikfahcppkfaa.PG
set_option linter.unusedSimpArgs false
set_option linter.unusedVariables false
open Go.RowKit Go.Proofs.YtbgikfahcppkfaaW.PrintWords Go.Proofs.YtbgikfahcppkfaaW.PrintLast Go.Proofs.YtbgikfahcppkfaaW.PrintMore Go.Proofs.Ytbgikfahcppkfaa.Gn Go.Proofs.Ytbgikfahcppkfaa

def lens_StringS (l : List ByteArray) : Prop := l.length ≤ 9223372036854775807
theorem eq_StringS (l : List ByteArray) (hf : lens_StringS l) : Ev (fun k => laws_eqStringS.f k l l) true := by
  unfold laws_eqStringS.f
  simp only [if_true, eq_self_iff_true]
  exact eq_strs (l := laws_eqStringS.l0) (fun _ _ _ _ => rfl) l hf
end Go.Proofs.Ytbgikfahcppkfaa.PG
