/-
  DERIVED. GIVEN WITH THE SEED: THE CARDS: each row of YtbgikfahcppkfaaGreatDoorRows.lean that lists a variable, with what it lists TIED to the program's text (the seventh form; the later family's looks); each row that meets fmt, with fmt's text TOLD by the authors' own Lean function (tested against real Go, not proved from fmt's source: count such statements apart). THE CARD IS WHAT COUNTS. Prove the row's statement (the work); the ties are given (YtbgikfahcppkfaaGreatDoorTie.lean); close each card by the builder's one call (the guide's Derived/Test/ToyasCard.lean, 'card_holds'). Laid BY PROGRAM, IN A SANDBOX (cutbox-door.mjs). By AI agents, Wed Nov 11 2026. No macro, syntax, notation, axiom, sorry.
-/
import Derived.Test.YtbgikfahcppkfaaGreatDoorRows
import GoSem.ClaimSeven
namespace Go.Proofs.YtbgikfahcppkfaaGreatDoor
namespace Rows

/-- THE TIED CARD OF 'laws.FnExactViewOf'. -/
def fnExactViewOfCard : Claim7 := { stood := { row := fnExactViewOfRow, standIns := [], harness := (true, "910c1b31a0a9798f0e8e704d8b33973acd9be6ea65d614f6b6334601e2ec5516"), looks := false }, kinds := [], alts := [], laidByText := true, laidKinds := [.data, .pinned], laidTests := true, laidLooks := .later }
def FnExactViewOfCardSaid : Prop := Claim7.holds Tryz.pinned (.plain (OpenSpec.ofChange fnExactViewOfSpec)) fnExactViewOfCard

/-- THE TIED CARD OF 'laws.FnExactVisible'. -/
def fnExactVisibleCard : Claim7 := { stood := { row := fnExactVisibleRow, standIns := [], harness := (true, "910c1b31a0a9798f0e8e704d8b33973acd9be6ea65d614f6b6334601e2ec5516"), looks := false }, kinds := [], alts := [], laidByText := true, laidKinds := [.data, .pinned], laidTests := true, laidLooks := .later }
def FnExactVisibleCardSaid : Prop := Claim7.holds Tryz.pinned (.plain (OpenSpec.ofChange fnExactVisibleSpec)) fnExactVisibleCard

/-- THE TIED CARD OF 'laws.FnExactValueDrop'. -/
def fnExactValueDropCard : Claim7 := { stood := { row := fnExactValueDropRow, standIns := [], harness := (true, "910c1b31a0a9798f0e8e704d8b33973acd9be6ea65d614f6b6334601e2ec5516"), looks := false }, kinds := [], alts := [], laidByText := true, laidKinds := [.data, .pinned], laidTests := true, laidLooks := .later }
def FnExactValueDropCardSaid : Prop := Claim7.holds Tryz.pinned (.plain (OpenSpec.ofChange fnExactValueDropSpec)) fnExactValueDropCard

/-- THE TIED CARD OF 'laws.FnExactFlowRight'. -/
def fnExactFlowRightCard : Claim7 := { stood := { row := fnExactFlowRightRow, standIns := [], harness := (true, "910c1b31a0a9798f0e8e704d8b33973acd9be6ea65d614f6b6334601e2ec5516"), looks := false }, kinds := [], alts := [], laidByText := true, laidKinds := [.data, .pinned], laidTests := true, laidLooks := .later }
def FnExactFlowRightCardSaid : Prop := Claim7.holds Tryz.pinned (.plain (OpenSpec.ofChange fnExactFlowRightSpec)) fnExactFlowRightCard

/-- THE SECOND FORM's CARD OF 'laws.FnExactViewOf'. -/
def fnExactViewOfUptoCard : Claim7 := { stood := { row := fnExactViewOfUptoRow, standIns := [], harness := (true, "910c1b31a0a9798f0e8e704d8b33973acd9be6ea65d614f6b6334601e2ec5516"), looks := false }, kinds := [], alts := [], laidByText := true, laidKinds := [.data, .pinned], laidTests := true, laidLooks := .later }
def FnExactViewOfUptoCardSaid : Prop := Claim7.holds Tryz.pinned (.plain (OpenSpec.upto fnExactViewOfSpec)) fnExactViewOfUptoCard

/-- THE SECOND FORM's CARD OF 'laws.FnExactVisible'. -/
def fnExactVisibleUptoCard : Claim7 := { stood := { row := fnExactVisibleUptoRow, standIns := [], harness := (true, "910c1b31a0a9798f0e8e704d8b33973acd9be6ea65d614f6b6334601e2ec5516"), looks := false }, kinds := [], alts := [], laidByText := true, laidKinds := [.data, .pinned], laidTests := true, laidLooks := .later }
def FnExactVisibleUptoCardSaid : Prop := Claim7.holds Tryz.pinned (.plain (OpenSpec.upto fnExactVisibleSpec)) fnExactVisibleUptoCard

/-- THE SECOND FORM's CARD OF 'laws.FnExactValueDrop'. -/
def fnExactValueDropUptoCard : Claim7 := { stood := { row := fnExactValueDropUptoRow, standIns := [], harness := (true, "910c1b31a0a9798f0e8e704d8b33973acd9be6ea65d614f6b6334601e2ec5516"), looks := false }, kinds := [], alts := [], laidByText := true, laidKinds := [.data, .pinned], laidTests := true, laidLooks := .later }
def FnExactValueDropUptoCardSaid : Prop := Claim7.holds Tryz.pinned (.plain (OpenSpec.upto fnExactValueDropSpec)) fnExactValueDropUptoCard

/-- THE SECOND FORM's CARD OF 'laws.FnExactFlowRight'. -/
def fnExactFlowRightUptoCard : Claim7 := { stood := { row := fnExactFlowRightUptoRow, standIns := [], harness := (true, "910c1b31a0a9798f0e8e704d8b33973acd9be6ea65d614f6b6334601e2ec5516"), looks := false }, kinds := [], alts := [], laidByText := true, laidKinds := [.data, .pinned], laidTests := true, laidLooks := .later }
def FnExactFlowRightUptoCardSaid : Prop := Claim7.holds Tryz.pinned (.plain (OpenSpec.upto fnExactFlowRightSpec)) fnExactFlowRightUptoCard
end Rows
end Go.Proofs.YtbgikfahcppkfaaGreatDoor
