/-
  DERIVED. GIVEN WITH THE SEED: THE CARDS: each row of YtpocoeghobdfiaaGreatDoorRows.lean that lists a variable, with what it lists TIED to the program's text (the seventh form; the later family's looks); each row that meets fmt, with fmt's text TOLD by the authors' own Lean function (tested against real Go, not proved from fmt's source: count such statements apart). THE CARD IS WHAT COUNTS. Prove the row's statement (the work); the ties are given (YtpocoeghobdfiaaGreatDoorTie.lean); close each card by the builder's one call (the guide's Derived/Test/ToyasCard.lean, 'card_holds'). Laid BY PROGRAM, IN A SANDBOX (cutbox-door.mjs). By AI agents, Wed Nov 11 2026. No macro, syntax, notation, axiom, sorry.
-/
import Derived.Test.YtpocoeghobdfiaaGreatDoorRows
import GoSem.ClaimSeven
namespace Go.Proofs.YtpocoeghobdfiaaGreatDoor
namespace Rows

/-- THE TIED CARD OF 'laws.FnExactExprEval'. -/
def fnExactExprEvalCard : Claim7 := { stood := { row := fnExactExprEvalRow, standIns := [], harness := (true, "f755e58b48fdfd9845d92e34d9440d4cd2230c668fc61505027037d5dbe34402"), looks := false }, kinds := [], alts := [], laidByText := true, laidKinds := [.data, .pinned], laidTests := true, laidLooks := .later }
def FnExactExprEvalCardSaid : Prop := Claim7.holds Tryz.pinned (.plain (OpenSpec.ofChange fnExactExprEvalSpec)) fnExactExprEvalCard

/-- THE TIED CARD OF 'laws.FnExactFilterEval'. -/
def fnExactFilterEvalCard : Claim7 := { stood := { row := fnExactFilterEvalRow, standIns := [], harness := (true, "f755e58b48fdfd9845d92e34d9440d4cd2230c668fc61505027037d5dbe34402"), looks := false }, kinds := [], alts := [], laidByText := true, laidKinds := [.data, .pinned], laidTests := true, laidLooks := .later }
def FnExactFilterEvalCardSaid : Prop := Claim7.holds Tryz.pinned (.plain (OpenSpec.ofChange fnExactFilterEvalSpec)) fnExactFilterEvalCard

/-- THE TIED CARD OF 'laws.FnExactCheck'. -/
def fnExactCheckCard : Claim7 := { stood := { row := fnExactCheckRow, standIns := [], harness := (true, "f755e58b48fdfd9845d92e34d9440d4cd2230c668fc61505027037d5dbe34402"), looks := false }, kinds := [], alts := [], laidByText := true, laidKinds := [.data, .pinned], laidTests := true, laidLooks := .later }
def FnExactCheckCardSaid : Prop := Claim7.holds Tryz.pinned (.plain (OpenSpec.ofChange fnExactCheckSpec)) fnExactCheckCard

/-- THE SECOND FORM's CARD OF 'laws.FnExactExprEval'. -/
def fnExactExprEvalUptoCard : Claim7 := { stood := { row := fnExactExprEvalUptoRow, standIns := [], harness := (true, "f755e58b48fdfd9845d92e34d9440d4cd2230c668fc61505027037d5dbe34402"), looks := false }, kinds := [], alts := [], laidByText := true, laidKinds := [.data, .pinned], laidTests := true, laidLooks := .later }
def FnExactExprEvalUptoCardSaid : Prop := Claim7.holds Tryz.pinned (.plain (OpenSpec.upto fnExactExprEvalSpec)) fnExactExprEvalUptoCard

/-- THE SECOND FORM's CARD OF 'laws.FnExactFilterEval'. -/
def fnExactFilterEvalUptoCard : Claim7 := { stood := { row := fnExactFilterEvalUptoRow, standIns := [], harness := (true, "f755e58b48fdfd9845d92e34d9440d4cd2230c668fc61505027037d5dbe34402"), looks := false }, kinds := [], alts := [], laidByText := true, laidKinds := [.data, .pinned], laidTests := true, laidLooks := .later }
def FnExactFilterEvalUptoCardSaid : Prop := Claim7.holds Tryz.pinned (.plain (OpenSpec.upto fnExactFilterEvalSpec)) fnExactFilterEvalUptoCard

/-- THE SECOND FORM's CARD OF 'laws.FnExactCheck'. -/
def fnExactCheckUptoCard : Claim7 := { stood := { row := fnExactCheckUptoRow, standIns := [], harness := (true, "f755e58b48fdfd9845d92e34d9440d4cd2230c668fc61505027037d5dbe34402"), looks := false }, kinds := [], alts := [], laidByText := true, laidKinds := [.data, .pinned], laidTests := true, laidLooks := .later }
def FnExactCheckUptoCardSaid : Prop := Claim7.holds Tryz.pinned (.plain (OpenSpec.upto fnExactCheckSpec)) fnExactCheckUptoCard
end Rows
end Go.Proofs.YtpocoeghobdfiaaGreatDoor
