/-
  DERIVED. GIVEN WITH THE SEED: THE CARDS: each row of YthapodlehfblgaaDoorRows.lean that lists a variable, with what it lists TIED to the program's text (the seventh form; the later family's looks); each row that meets fmt, with fmt's text TOLD by the authors' own Lean function (tested against real Go, not proved from fmt's source: count such statements apart). THE CARD IS WHAT COUNTS. Prove the row's statement (the work); the ties are given (YthapodlehfblgaaDoorTie.lean); close each card by the builder's one call (the guide's Derived/Test/ToyasCard.lean, 'card_holds'). Laid BY PROGRAM, IN A SANDBOX (cutbox-door.mjs). By AI agents, Wed Nov 11 2026. No macro, syntax, notation, axiom, sorry.
-/
import Derived.Test.YthapodlehfblgaaDoorRows
import GoSem.ClaimSeven
namespace Go.Proofs.YthapodlehfblgaaDoor
namespace Rows

/-- THE TIED CARD OF 'laws.FnExactAttrOf'. -/
def fnExactAttrOfCard : Claim7 := { stood := { row := fnExactAttrOfRow, standIns := [], harness := (true, "68f5df999e39ca89ba77521b997a7c7f7fb88e0dd8748f3210233119baf2e8b9"), looks := false }, kinds := [], alts := [], laidByText := true, laidKinds := [.data, .pinned], laidTests := true, laidLooks := .later }
def FnExactAttrOfCardSaid : Prop := Claim7.holds Tryd.pinned (.plain (OpenSpec.ofChange fnExactAttrOfSpec)) fnExactAttrOfCard

/-- THE TIED CARD OF 'laws.FnExactExprAttrs'. -/
def fnExactExprAttrsCard : Claim7 := { stood := { row := fnExactExprAttrsRow, standIns := [], harness := (true, "68f5df999e39ca89ba77521b997a7c7f7fb88e0dd8748f3210233119baf2e8b9"), looks := false }, kinds := [], alts := [], laidByText := true, laidKinds := [.data, .pinned], laidTests := true, laidLooks := .later }
def FnExactExprAttrsCardSaid : Prop := Claim7.holds Tryd.pinned (.plain (OpenSpec.ofChange fnExactExprAttrsSpec)) fnExactExprAttrsCard

/-- THE TIED CARD OF 'laws.FnExactRowsSince'. -/
def fnExactRowsSinceCard : Claim7 := { stood := { row := fnExactRowsSinceRow, standIns := [], harness := (true, "68f5df999e39ca89ba77521b997a7c7f7fb88e0dd8748f3210233119baf2e8b9"), looks := false }, kinds := [], alts := [], laidByText := true, laidKinds := [.data, .pinned], laidTests := true, laidLooks := .later }
def FnExactRowsSinceCardSaid : Prop := Claim7.holds Tryd.pinned (.plain (OpenSpec.ofChange fnExactRowsSinceSpec)) fnExactRowsSinceCard

/-- THE SECOND FORM's CARD OF 'laws.FnExactAttrOf'. -/
def fnExactAttrOfUptoCard : Claim7 := { stood := { row := fnExactAttrOfUptoRow, standIns := [], harness := (true, "68f5df999e39ca89ba77521b997a7c7f7fb88e0dd8748f3210233119baf2e8b9"), looks := false }, kinds := [], alts := [], laidByText := true, laidKinds := [.data, .pinned], laidTests := true, laidLooks := .later }
def FnExactAttrOfUptoCardSaid : Prop := Claim7.holds Tryd.pinned (.plain (OpenSpec.upto fnExactAttrOfSpec)) fnExactAttrOfUptoCard

/-- THE SECOND FORM's CARD OF 'laws.FnExactExprAttrs'. -/
def fnExactExprAttrsUptoCard : Claim7 := { stood := { row := fnExactExprAttrsUptoRow, standIns := [], harness := (true, "68f5df999e39ca89ba77521b997a7c7f7fb88e0dd8748f3210233119baf2e8b9"), looks := false }, kinds := [], alts := [], laidByText := true, laidKinds := [.data, .pinned], laidTests := true, laidLooks := .later }
def FnExactExprAttrsUptoCardSaid : Prop := Claim7.holds Tryd.pinned (.plain (OpenSpec.upto fnExactExprAttrsSpec)) fnExactExprAttrsUptoCard

/-- THE SECOND FORM's CARD OF 'laws.FnExactRowsSince'. -/
def fnExactRowsSinceUptoCard : Claim7 := { stood := { row := fnExactRowsSinceUptoRow, standIns := [], harness := (true, "68f5df999e39ca89ba77521b997a7c7f7fb88e0dd8748f3210233119baf2e8b9"), looks := false }, kinds := [], alts := [], laidByText := true, laidKinds := [.data, .pinned], laidTests := true, laidLooks := .later }
def FnExactRowsSinceUptoCardSaid : Prop := Claim7.holds Tryd.pinned (.plain (OpenSpec.upto fnExactRowsSinceSpec)) fnExactRowsSinceUptoCard
end Rows
end Go.Proofs.YthapodlehfblgaaDoor
