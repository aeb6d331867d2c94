/-
  DERIVED. GIVEN WITH THE SEED: THE CARDS: each row of YtpocoeghobdfiaaDoorRows.lean that lists a variable, with what it lists TIED to the program's text (the seventh form; the later family's looks); each row that meets fmt, with fmt's text TOLD by the authors' own Lean function (tested against real Go, not proved from fmt's source: count such statements apart). THE CARD IS WHAT COUNTS. Prove the row's statement (the work); the ties are given (YtpocoeghobdfiaaDoorTie.lean); close each card by the builder's one call (the guide's Derived/Test/ToyasCard.lean, 'card_holds'). Laid BY PROGRAM, IN A SANDBOX (cutbox-door.mjs). By AI agents, Wed Nov 11 2026. No macro, syntax, notation, axiom, sorry.
-/
import Derived.Test.YtpocoeghobdfiaaDoorRows
import GoSem.ClaimSeven
namespace Go.Proofs.YtpocoeghobdfiaaDoor
namespace Rows

/-- THE TIED CARD OF 'laws.FnExactExprRight'. -/
def fnExactExprRightCard : Claim7 := { stood := { row := fnExactExprRightRow, standIns := [], harness := (true, "6327f364f5eb5c064eb7fd70e5647dd8868bf3708a8727c4b52d7080a85a5df6"), looks := false }, kinds := [], alts := [], laidByText := true, laidKinds := [.data, .pinned], laidTests := true, laidLooks := .later }
def FnExactExprRightCardSaid : Prop := Claim7.holds Tryd.pinned (.plain (OpenSpec.ofChange fnExactExprRightSpec)) fnExactExprRightCard

/-- THE TIED CARD OF 'laws.FnExactRowById'. -/
def fnExactRowByIdCard : Claim7 := { stood := { row := fnExactRowByIdRow, standIns := [], harness := (true, "6327f364f5eb5c064eb7fd70e5647dd8868bf3708a8727c4b52d7080a85a5df6"), looks := false }, kinds := [], alts := [], laidByText := true, laidKinds := [.data, .pinned], laidTests := true, laidLooks := .later }
def FnExactRowByIdCardSaid : Prop := Claim7.holds Tryd.pinned (.plain (OpenSpec.ofChange fnExactRowByIdSpec)) fnExactRowByIdCard

/-- THE TIED CARD OF 'laws.FnExactRowByLogin'. -/
def fnExactRowByLoginCard : Claim7 := { stood := { row := fnExactRowByLoginRow, standIns := [], harness := (true, "6327f364f5eb5c064eb7fd70e5647dd8868bf3708a8727c4b52d7080a85a5df6"), looks := false }, kinds := [], alts := [], laidByText := true, laidKinds := [.data, .pinned], laidTests := true, laidLooks := .later }
def FnExactRowByLoginCardSaid : Prop := Claim7.holds Tryd.pinned (.plain (OpenSpec.ofChange fnExactRowByLoginSpec)) fnExactRowByLoginCard

/-- THE TIED CARD OF 'laws.FnExactTablePurge'. -/
def fnExactTablePurgeCard : Claim7 := { stood := { row := fnExactTablePurgeRow, standIns := [], harness := (true, "6327f364f5eb5c064eb7fd70e5647dd8868bf3708a8727c4b52d7080a85a5df6"), looks := false }, kinds := [], alts := [], laidByText := true, laidKinds := [.data, .pinned], laidTests := true, laidLooks := .later }
def FnExactTablePurgeCardSaid : Prop := Claim7.holds Tryd.pinned (.plain (OpenSpec.ofChange fnExactTablePurgeSpec)) fnExactTablePurgeCard

/-- THE TIED CARD OF 'laws.FnExactAnswerRight'. -/
def fnExactAnswerRightCard : Claim7 := { stood := { row := fnExactAnswerRightRow, standIns := [], harness := (true, "6327f364f5eb5c064eb7fd70e5647dd8868bf3708a8727c4b52d7080a85a5df6"), looks := false }, kinds := [], alts := [], laidByText := true, laidKinds := [.data, .pinned], laidTests := true, laidLooks := .later }
def FnExactAnswerRightCardSaid : Prop := Claim7.holds Tryd.pinned (.plain (OpenSpec.ofChange fnExactAnswerRightSpec)) fnExactAnswerRightCard

/-- THE TIED CARD OF 'laws.FnExactHasValue'. -/
def fnExactHasValueCard : Claim7 := { stood := { row := fnExactHasValueRow, standIns := [], harness := (true, "6327f364f5eb5c064eb7fd70e5647dd8868bf3708a8727c4b52d7080a85a5df6"), looks := false }, kinds := [], alts := [], laidByText := true, laidKinds := [.data, .pinned], laidTests := true, laidLooks := .later }
def FnExactHasValueCardSaid : Prop := Claim7.holds Tryd.pinned (.plain (OpenSpec.ofChange fnExactHasValueSpec)) fnExactHasValueCard

/-- THE TIED CARD OF 'laws.FnExactRowDrop'. -/
def fnExactRowDropCard : Claim7 := { stood := { row := fnExactRowDropRow, standIns := [], harness := (true, "6327f364f5eb5c064eb7fd70e5647dd8868bf3708a8727c4b52d7080a85a5df6"), looks := false }, kinds := [], alts := [], laidByText := true, laidKinds := [.data, .pinned], laidTests := true, laidLooks := .later }
def FnExactRowDropCardSaid : Prop := Claim7.holds Tryd.pinned (.plain (OpenSpec.ofChange fnExactRowDropSpec)) fnExactRowDropCard

/-- THE TIED CARD OF 'laws.FnExactAttrOf'. -/
def fnExactAttrOfCard : Claim7 := { stood := { row := fnExactAttrOfRow, standIns := [], harness := (true, "6327f364f5eb5c064eb7fd70e5647dd8868bf3708a8727c4b52d7080a85a5df6"), looks := false }, kinds := [], alts := [], laidByText := true, laidKinds := [.data, .pinned], laidTests := true, laidLooks := .later }
def FnExactAttrOfCardSaid : Prop := Claim7.holds Tryd.pinned (.plain (OpenSpec.ofChange fnExactAttrOfSpec)) fnExactAttrOfCard

/-- THE TIED CARD OF 'laws.FnExactRowsSince'. -/
def fnExactRowsSinceCard : Claim7 := { stood := { row := fnExactRowsSinceRow, standIns := [], harness := (true, "6327f364f5eb5c064eb7fd70e5647dd8868bf3708a8727c4b52d7080a85a5df6"), looks := false }, kinds := [], alts := [], laidByText := true, laidKinds := [.data, .pinned], laidTests := true, laidLooks := .later }
def FnExactRowsSinceCardSaid : Prop := Claim7.holds Tryd.pinned (.plain (OpenSpec.ofChange fnExactRowsSinceSpec)) fnExactRowsSinceCard

/-- THE SECOND FORM's CARD OF 'laws.FnExactExprRight'. -/
def fnExactExprRightUptoCard : Claim7 := { stood := { row := fnExactExprRightUptoRow, standIns := [], harness := (true, "6327f364f5eb5c064eb7fd70e5647dd8868bf3708a8727c4b52d7080a85a5df6"), looks := false }, kinds := [], alts := [], laidByText := true, laidKinds := [.data, .pinned], laidTests := true, laidLooks := .later }
def FnExactExprRightUptoCardSaid : Prop := Claim7.holds Tryd.pinned (.plain (OpenSpec.upto fnExactExprRightSpec)) fnExactExprRightUptoCard

/-- THE SECOND FORM's CARD OF 'laws.FnExactRowById'. -/
def fnExactRowByIdUptoCard : Claim7 := { stood := { row := fnExactRowByIdUptoRow, standIns := [], harness := (true, "6327f364f5eb5c064eb7fd70e5647dd8868bf3708a8727c4b52d7080a85a5df6"), looks := false }, kinds := [], alts := [], laidByText := true, laidKinds := [.data, .pinned], laidTests := true, laidLooks := .later }
def FnExactRowByIdUptoCardSaid : Prop := Claim7.holds Tryd.pinned (.plain (OpenSpec.upto fnExactRowByIdSpec)) fnExactRowByIdUptoCard

/-- THE SECOND FORM's CARD OF 'laws.FnExactRowByLogin'. -/
def fnExactRowByLoginUptoCard : Claim7 := { stood := { row := fnExactRowByLoginUptoRow, standIns := [], harness := (true, "6327f364f5eb5c064eb7fd70e5647dd8868bf3708a8727c4b52d7080a85a5df6"), looks := false }, kinds := [], alts := [], laidByText := true, laidKinds := [.data, .pinned], laidTests := true, laidLooks := .later }
def FnExactRowByLoginUptoCardSaid : Prop := Claim7.holds Tryd.pinned (.plain (OpenSpec.upto fnExactRowByLoginSpec)) fnExactRowByLoginUptoCard

/-- THE SECOND FORM's CARD OF 'laws.FnExactTablePurge'. -/
def fnExactTablePurgeUptoCard : Claim7 := { stood := { row := fnExactTablePurgeUptoRow, standIns := [], harness := (true, "6327f364f5eb5c064eb7fd70e5647dd8868bf3708a8727c4b52d7080a85a5df6"), looks := false }, kinds := [], alts := [], laidByText := true, laidKinds := [.data, .pinned], laidTests := true, laidLooks := .later }
def FnExactTablePurgeUptoCardSaid : Prop := Claim7.holds Tryd.pinned (.plain (OpenSpec.upto fnExactTablePurgeSpec)) fnExactTablePurgeUptoCard

/-- THE SECOND FORM's CARD OF 'laws.FnExactAnswerRight'. -/
def fnExactAnswerRightUptoCard : Claim7 := { stood := { row := fnExactAnswerRightUptoRow, standIns := [], harness := (true, "6327f364f5eb5c064eb7fd70e5647dd8868bf3708a8727c4b52d7080a85a5df6"), looks := false }, kinds := [], alts := [], laidByText := true, laidKinds := [.data, .pinned], laidTests := true, laidLooks := .later }
def FnExactAnswerRightUptoCardSaid : Prop := Claim7.holds Tryd.pinned (.plain (OpenSpec.upto fnExactAnswerRightSpec)) fnExactAnswerRightUptoCard

/-- THE SECOND FORM's CARD OF 'laws.FnExactHasValue'. -/
def fnExactHasValueUptoCard : Claim7 := { stood := { row := fnExactHasValueUptoRow, standIns := [], harness := (true, "6327f364f5eb5c064eb7fd70e5647dd8868bf3708a8727c4b52d7080a85a5df6"), looks := false }, kinds := [], alts := [], laidByText := true, laidKinds := [.data, .pinned], laidTests := true, laidLooks := .later }
def FnExactHasValueUptoCardSaid : Prop := Claim7.holds Tryd.pinned (.plain (OpenSpec.upto fnExactHasValueSpec)) fnExactHasValueUptoCard

/-- THE SECOND FORM's CARD OF 'laws.FnExactRowDrop'. -/
def fnExactRowDropUptoCard : Claim7 := { stood := { row := fnExactRowDropUptoRow, standIns := [], harness := (true, "6327f364f5eb5c064eb7fd70e5647dd8868bf3708a8727c4b52d7080a85a5df6"), looks := false }, kinds := [], alts := [], laidByText := true, laidKinds := [.data, .pinned], laidTests := true, laidLooks := .later }
def FnExactRowDropUptoCardSaid : Prop := Claim7.holds Tryd.pinned (.plain (OpenSpec.upto fnExactRowDropSpec)) fnExactRowDropUptoCard

/-- THE SECOND FORM's CARD OF 'laws.FnExactAttrOf'. -/
def fnExactAttrOfUptoCard : Claim7 := { stood := { row := fnExactAttrOfUptoRow, standIns := [], harness := (true, "6327f364f5eb5c064eb7fd70e5647dd8868bf3708a8727c4b52d7080a85a5df6"), looks := false }, kinds := [], alts := [], laidByText := true, laidKinds := [.data, .pinned], laidTests := true, laidLooks := .later }
def FnExactAttrOfUptoCardSaid : Prop := Claim7.holds Tryd.pinned (.plain (OpenSpec.upto fnExactAttrOfSpec)) fnExactAttrOfUptoCard

/-- THE SECOND FORM's CARD OF 'laws.FnExactRowsSince'. -/
def fnExactRowsSinceUptoCard : Claim7 := { stood := { row := fnExactRowsSinceUptoRow, standIns := [], harness := (true, "6327f364f5eb5c064eb7fd70e5647dd8868bf3708a8727c4b52d7080a85a5df6"), looks := false }, kinds := [], alts := [], laidByText := true, laidKinds := [.data, .pinned], laidTests := true, laidLooks := .later }
def FnExactRowsSinceUptoCardSaid : Prop := Claim7.holds Tryd.pinned (.plain (OpenSpec.upto fnExactRowsSinceSpec)) fnExactRowsSinceUptoCard
end Rows
end Go.Proofs.YtpocoeghobdfiaaDoor
