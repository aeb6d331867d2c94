/-
  DERIVED. GIVEN WITH THE SEED: THE CARDS: each row of YtmkpgddfoaglpaaGreatDoorRows.lean that lists a variable, with what it lists TIED to the program's text (the seventh form; the later family's looks); each row that meets fmt, with fmt's text TOLD by the authors' own Lean function (tested against real Go, not proved from fmt's source: count such statements apart). THE CARD IS WHAT COUNTS. Prove the row's statement (the work); the ties are given (YtmkpgddfoaglpaaGreatDoorTie.lean); close each card by the builder's one call (the guide's Derived/Test/ToyasCard.lean, 'card_holds'). Laid BY PROGRAM, IN A SANDBOX (cutbox-door.mjs). By AI agents, Wed Nov 11 2026. No macro, syntax, notation, axiom, sorry.
-/
import Derived.Test.YtmkpgddfoaglpaaGreatDoorRows
import GoSem.ClaimSeven
namespace Go.Proofs.YtmkpgddfoaglpaaGreatDoor
namespace Rows

/-- THE TIED CARD OF 'laws.FnExactVisible'. -/
def fnExactVisibleCard : Claim7 := { stood := { row := fnExactVisibleRow, standIns := [], harness := (true, "7eb6e0b15529341527256ec99875d7e8dc03c8c0c52a47658a1c7ab2088006b6"), looks := false }, kinds := [], alts := [], laidByText := true, laidKinds := [.data, .pinned], laidTests := true, laidLooks := .later }
def FnExactVisibleCardSaid : Prop := Claim7.holds Tryz.pinned (.plain (OpenSpec.ofChange fnExactVisibleSpec)) fnExactVisibleCard

/-- THE TIED CARD OF 'laws.FnExactValueDrop'. -/
def fnExactValueDropCard : Claim7 := { stood := { row := fnExactValueDropRow, standIns := [], harness := (true, "7eb6e0b15529341527256ec99875d7e8dc03c8c0c52a47658a1c7ab2088006b6"), looks := false }, kinds := [], alts := [], laidByText := true, laidKinds := [.data, .pinned], laidTests := true, laidLooks := .later }
def FnExactValueDropCardSaid : Prop := Claim7.holds Tryz.pinned (.plain (OpenSpec.ofChange fnExactValueDropSpec)) fnExactValueDropCard

/-- THE TIED CARD OF 'laws.FnExactCheck'. -/
def fnExactCheckCard : Claim7 := { stood := { row := fnExactCheckRow, standIns := [], harness := (true, "7eb6e0b15529341527256ec99875d7e8dc03c8c0c52a47658a1c7ab2088006b6"), looks := false }, kinds := [], alts := [], laidByText := true, laidKinds := [.data, .pinned], laidTests := true, laidLooks := .later }
def FnExactCheckCardSaid : Prop := Claim7.holds Tryz.pinned (.plain (OpenSpec.ofChange fnExactCheckSpec)) fnExactCheckCard

/-- THE TIED CARD OF 'laws.FnExactChangesSince'. -/
def fnExactChangesSinceCard : Claim7 := { stood := { row := fnExactChangesSinceRow, standIns := [], harness := (true, "7eb6e0b15529341527256ec99875d7e8dc03c8c0c52a47658a1c7ab2088006b6"), looks := false }, kinds := [], alts := [], laidByText := true, laidKinds := [.data, .pinned], laidTests := true, laidLooks := .later }
def FnExactChangesSinceCardSaid : Prop := Claim7.holds Tryz.pinned (.plain (OpenSpec.ofChange fnExactChangesSinceSpec)) fnExactChangesSinceCard

/-- THE TIED CARD OF 'laws.FnExactChangesTrim'. -/
def fnExactChangesTrimCard : Claim7 := { stood := { row := fnExactChangesTrimRow, standIns := [], harness := (true, "7eb6e0b15529341527256ec99875d7e8dc03c8c0c52a47658a1c7ab2088006b6"), looks := false }, kinds := [], alts := [], laidByText := true, laidKinds := [.data, .pinned], laidTests := true, laidLooks := .later }
def FnExactChangesTrimCardSaid : Prop := Claim7.holds Tryz.pinned (.plain (OpenSpec.ofChange fnExactChangesTrimSpec)) fnExactChangesTrimCard

/-- THE TIED CARD OF 'laws.FnExactChangeAdd'. -/
def fnExactChangeAddCard : Claim7 := { stood := { row := fnExactChangeAddRow, standIns := [], harness := (true, "7eb6e0b15529341527256ec99875d7e8dc03c8c0c52a47658a1c7ab2088006b6"), looks := false }, kinds := [], alts := [], laidByText := true, laidKinds := [.data, .pinned], laidTests := true, laidLooks := .later }
def FnExactChangeAddCardSaid : Prop := Claim7.holds Tryz.pinned (.plain (OpenSpec.ofChange fnExactChangeAddSpec)) fnExactChangeAddCard

/-- THE TIED CARD OF 'laws.FnExactEntryRead'. -/
def fnExactEntryReadCard : Claim7 := { stood := { row := fnExactEntryReadRow, standIns := [], harness := (true, "7eb6e0b15529341527256ec99875d7e8dc03c8c0c52a47658a1c7ab2088006b6"), looks := false }, kinds := [], alts := [], laidByText := true, laidKinds := [.data, .pinned], laidTests := true, laidLooks := .later }
def FnExactEntryReadCardSaid : Prop := Claim7.holds Tryz.pinned (.plain (OpenSpec.ofChange fnExactEntryReadSpec)) fnExactEntryReadCard

/-- THE TIED CARD OF 'laws.FnExactAnswerBytes'. -/
def fnExactAnswerBytesCard : Claim7 := { stood := { row := fnExactAnswerBytesRow, standIns := [], harness := (true, "7eb6e0b15529341527256ec99875d7e8dc03c8c0c52a47658a1c7ab2088006b6"), looks := false }, kinds := [], alts := [], laidByText := true, laidKinds := [.data, .pinned], laidTests := true, laidLooks := .later }
def FnExactAnswerBytesCardSaid : Prop := Claim7.holds Tryz.pinned (.plain (OpenSpec.ofChange fnExactAnswerBytesSpec)) fnExactAnswerBytesCard

/-- THE TIED CARD OF 'laws.FnExactAnswerRead'. -/
def fnExactAnswerReadCard : Claim7 := { stood := { row := fnExactAnswerReadRow, standIns := [], harness := (true, "7eb6e0b15529341527256ec99875d7e8dc03c8c0c52a47658a1c7ab2088006b6"), looks := false }, kinds := [], alts := [], laidByText := true, laidKinds := [.data, .pinned], laidTests := true, laidLooks := .later }
def FnExactAnswerReadCardSaid : Prop := Claim7.holds Tryz.pinned (.plain (OpenSpec.ofChange fnExactAnswerReadSpec)) fnExactAnswerReadCard

/-- THE SECOND FORM's CARD OF 'laws.FnExactVisible'. -/
def fnExactVisibleUptoCard : Claim7 := { stood := { row := fnExactVisibleUptoRow, standIns := [], harness := (true, "7eb6e0b15529341527256ec99875d7e8dc03c8c0c52a47658a1c7ab2088006b6"), looks := false }, kinds := [], alts := [], laidByText := true, laidKinds := [.data, .pinned], laidTests := true, laidLooks := .later }
def FnExactVisibleUptoCardSaid : Prop := Claim7.holds Tryz.pinned (.plain (OpenSpec.upto fnExactVisibleSpec)) fnExactVisibleUptoCard

/-- THE SECOND FORM's CARD OF 'laws.FnExactValueDrop'. -/
def fnExactValueDropUptoCard : Claim7 := { stood := { row := fnExactValueDropUptoRow, standIns := [], harness := (true, "7eb6e0b15529341527256ec99875d7e8dc03c8c0c52a47658a1c7ab2088006b6"), looks := false }, kinds := [], alts := [], laidByText := true, laidKinds := [.data, .pinned], laidTests := true, laidLooks := .later }
def FnExactValueDropUptoCardSaid : Prop := Claim7.holds Tryz.pinned (.plain (OpenSpec.upto fnExactValueDropSpec)) fnExactValueDropUptoCard

/-- THE SECOND FORM's CARD OF 'laws.FnExactCheck'. -/
def fnExactCheckUptoCard : Claim7 := { stood := { row := fnExactCheckUptoRow, standIns := [], harness := (true, "7eb6e0b15529341527256ec99875d7e8dc03c8c0c52a47658a1c7ab2088006b6"), looks := false }, kinds := [], alts := [], laidByText := true, laidKinds := [.data, .pinned], laidTests := true, laidLooks := .later }
def FnExactCheckUptoCardSaid : Prop := Claim7.holds Tryz.pinned (.plain (OpenSpec.upto fnExactCheckSpec)) fnExactCheckUptoCard

/-- THE SECOND FORM's CARD OF 'laws.FnExactChangesSince'. -/
def fnExactChangesSinceUptoCard : Claim7 := { stood := { row := fnExactChangesSinceUptoRow, standIns := [], harness := (true, "7eb6e0b15529341527256ec99875d7e8dc03c8c0c52a47658a1c7ab2088006b6"), looks := false }, kinds := [], alts := [], laidByText := true, laidKinds := [.data, .pinned], laidTests := true, laidLooks := .later }
def FnExactChangesSinceUptoCardSaid : Prop := Claim7.holds Tryz.pinned (.plain (OpenSpec.upto fnExactChangesSinceSpec)) fnExactChangesSinceUptoCard

/-- THE SECOND FORM's CARD OF 'laws.FnExactChangesTrim'. -/
def fnExactChangesTrimUptoCard : Claim7 := { stood := { row := fnExactChangesTrimUptoRow, standIns := [], harness := (true, "7eb6e0b15529341527256ec99875d7e8dc03c8c0c52a47658a1c7ab2088006b6"), looks := false }, kinds := [], alts := [], laidByText := true, laidKinds := [.data, .pinned], laidTests := true, laidLooks := .later }
def FnExactChangesTrimUptoCardSaid : Prop := Claim7.holds Tryz.pinned (.plain (OpenSpec.upto fnExactChangesTrimSpec)) fnExactChangesTrimUptoCard

/-- THE SECOND FORM's CARD OF 'laws.FnExactChangeAdd'. -/
def fnExactChangeAddUptoCard : Claim7 := { stood := { row := fnExactChangeAddUptoRow, standIns := [], harness := (true, "7eb6e0b15529341527256ec99875d7e8dc03c8c0c52a47658a1c7ab2088006b6"), looks := false }, kinds := [], alts := [], laidByText := true, laidKinds := [.data, .pinned], laidTests := true, laidLooks := .later }
def FnExactChangeAddUptoCardSaid : Prop := Claim7.holds Tryz.pinned (.plain (OpenSpec.upto fnExactChangeAddSpec)) fnExactChangeAddUptoCard

/-- THE SECOND FORM's CARD OF 'laws.FnExactEntryRead'. -/
def fnExactEntryReadUptoCard : Claim7 := { stood := { row := fnExactEntryReadUptoRow, standIns := [], harness := (true, "7eb6e0b15529341527256ec99875d7e8dc03c8c0c52a47658a1c7ab2088006b6"), looks := false }, kinds := [], alts := [], laidByText := true, laidKinds := [.data, .pinned], laidTests := true, laidLooks := .later }
def FnExactEntryReadUptoCardSaid : Prop := Claim7.holds Tryz.pinned (.plain (OpenSpec.upto fnExactEntryReadSpec)) fnExactEntryReadUptoCard

/-- THE SECOND FORM's CARD OF 'laws.FnExactAnswerBytes'. -/
def fnExactAnswerBytesUptoCard : Claim7 := { stood := { row := fnExactAnswerBytesUptoRow, standIns := [], harness := (true, "7eb6e0b15529341527256ec99875d7e8dc03c8c0c52a47658a1c7ab2088006b6"), looks := false }, kinds := [], alts := [], laidByText := true, laidKinds := [.data, .pinned], laidTests := true, laidLooks := .later }
def FnExactAnswerBytesUptoCardSaid : Prop := Claim7.holds Tryz.pinned (.plain (OpenSpec.upto fnExactAnswerBytesSpec)) fnExactAnswerBytesUptoCard

/-- THE SECOND FORM's CARD OF 'laws.FnExactAnswerRead'. -/
def fnExactAnswerReadUptoCard : Claim7 := { stood := { row := fnExactAnswerReadUptoRow, standIns := [], harness := (true, "7eb6e0b15529341527256ec99875d7e8dc03c8c0c52a47658a1c7ab2088006b6"), looks := false }, kinds := [], alts := [], laidByText := true, laidKinds := [.data, .pinned], laidTests := true, laidLooks := .later }
def FnExactAnswerReadUptoCardSaid : Prop := Claim7.holds Tryz.pinned (.plain (OpenSpec.upto fnExactAnswerReadSpec)) fnExactAnswerReadUptoCard
end Rows
end Go.Proofs.YtmkpgddfoaglpaaGreatDoor
