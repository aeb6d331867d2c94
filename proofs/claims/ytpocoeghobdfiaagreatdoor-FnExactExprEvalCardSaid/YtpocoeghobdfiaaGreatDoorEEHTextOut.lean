/-
  The laws' helpers at TextOut: sizes, copies, equality, as plain functions. No condition but those stated.
-/
import Derived.Test.YtpocoeghobdfiaaGreatDoorEEP1
import Derived.Test.YtpocoeghobdfiaaGreatDoorEEGen
import Derived.Test.YtpocoeghobdfiaaGreatDoorEEFits
namespace Go.Proofs.YtpocoeghobdfiaaGreatDoor.PG
set_option linter.unusedSimpArgs false
set_option linter.unusedVariables false
open Go.RowKit Go.Proofs.YtpocoeghobdfiaaGreatDoorW.PrintWords Go.Proofs.YtpocoeghobdfiaaGreatDoorW.PrintLast Go.Proofs.YtpocoeghobdfiaaGreatDoorW.PrintMore Go.Proofs.YtpocoeghobdfiaaGreatDoor.Gn Go.Proofs.YtpocoeghobdfiaaGreatDoor

def lens_TextOut (y : S30) : Prop := True ∧ True ∧ True
theorem eq_TextOut (y : S30) (hf : lens_TextOut y) : Ev (fun k => laws_eqTextOut.f y.f0 y.f1 y.f2 y.f0 y.f1 y.f2) true := by
  obtain ⟨h0, h1, h2⟩ := hf
  unfold laws_eqTextOut.f
  (try simp only [if_true, eq_self_iff_true, bne_self_eq_false, Bool.false_eq_true, if_false, reduceIte, reduceCtorEq])
  exact Ev.now _
end Go.Proofs.YtpocoeghobdfiaaGreatDoor.PG
