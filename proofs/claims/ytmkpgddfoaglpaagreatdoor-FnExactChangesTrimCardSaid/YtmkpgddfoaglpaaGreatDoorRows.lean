/-
  NARROWER THAN 'FOR EVERY INPUT', by the rows' own cells (each row's printed sentence says how): FnExactVisible: laid · FnExactValueDrop: laid · FnExactCheck: laid · FnExactChangesSince: laid · FnExactChangesTrim: laid · FnExactChangeAdd: laid · FnExactEntryRead: laid · FnExactAnswerBytes: laid · FnExactAnswerRead: laid.
  DERIVED. THE GIVEN ROWS OF THIS SEAT. 9 by the template 'for every input the law returns true; each argument reads behind the call as it read before'; 0 by the template 'total and deterministic' (their statements: YtmkpgddfoaglpaaGreatDoorTotals.lean).
  GIVEN WITH THE SEED: the statements are not yours to turn. If you find one false, say at which input.
  Laid BY PROGRAM, IN A SANDBOX (cutbox-rows.mjs): the forced cells as the released guide's own fill.sh prints them over the translation b772b8aed3f50074… (all of the seat's roots in one cut). By AI agents, Wed Nov 11 2026. No macro, syntax, notation, axiom, sorry.
-/
import Derived.Test.YtmkpgddfoaglpaaGreatDoorChecked
import GoSem.PinnedTables
import GoSem.Claim
import GoSem.ClaimJoined
import GoSem.ClaimMapViews
import Derived.JoinedTies
import Derived.KernelRfl
namespace Go.Proofs.YtmkpgddfoaglpaaGreatDoor
/- THE CELL 'sum', in the pinned program and in every row, IS THE sha256 OF THE DUMP (.gsa) THAT YtmkpgddfoaglpaaGreatDoorProg.lean LOADS. Nothing in Lean hashes anything: it is a label: what it is worth is what the hold of that sum in a sandbox is worth. -/
noncomputable def Tryz.pinned : Pinned := { name := "ytmkpgddfoaglpaagreatdoor", sum := "b772b8aed3f50074c7418aa40181dd10c3ea5be0fc86c15127770046d86efd7a", checked := Tryz.checked }
namespace Rows
def none {H : Type} : Left H := { results := [], args := [] }

/- WHAT THE LISTED PACKAGE-LEVEL VARIABLES READ AS WHEN THE CALL BEGINS. Each datum BY PROGRAM (the guide's laid-datum.mjs) off the statement by which the dump's own 'gosem.cut.vars' lays the variable. In a bare row this is a premise. The card (YtmkpgddfoaglpaaGreatDoorCards.lean) ties it to the program's text. -/
def laid_unicode_utf8_acceptRanges {H : Type} : DataW H := .agg [.agg [.lit (.int .u8 128), .lit (.int .u8 191)], .agg [.lit (.int .u8 160), .lit (.int .u8 191)], .agg [.lit (.int .u8 128), .lit (.int .u8 159)], .agg [.lit (.int .u8 144), .lit (.int .u8 191)], .agg [.lit (.int .u8 128), .lit (.int .u8 143)], .agg [.lit (.int .u8 0), .lit (.int .u8 0)], .agg [.lit (.int .u8 0), .lit (.int .u8 0)], .agg [.lit (.int .u8 0), .lit (.int .u8 0)], .agg [.lit (.int .u8 0), .lit (.int .u8 0)], .agg [.lit (.int .u8 0), .lit (.int .u8 0)], .agg [.lit (.int .u8 0), .lit (.int .u8 0)], .agg [.lit (.int .u8 0), .lit (.int .u8 0)], .agg [.lit (.int .u8 0), .lit (.int .u8 0)], .agg [.lit (.int .u8 0), .lit (.int .u8 0)], .agg [.lit (.int .u8 0), .lit (.int .u8 0)], .agg [.lit (.int .u8 0), .lit (.int .u8 0)]]
/-- One of Go's own tables, pinned by name: the form's constant. -/
def laid_unicode_utf8_first : DataW Unit := Go.Pinned.utf8First

/-- 'laws.FnExactVisible': WHATEVER THE INPUT: true; the input reads as it did. -/
def fnExactVisibleSpec : ChangeSpec := { name := "fnExactVisible", fn := fun _ => fun
  | [d1, d2, d3] => { results := [.lit (.bool true)], args := [d1, d2, d3] }
  | _ => none }
def fnExactVisibleRow : OpenClaim := { program := "ytmkpgddfoaglpaagreatdoor", sum := "b772b8aed3f50074c7418aa40181dd10c3ea5be0fc86c15127770046d86efd7a", func := "loop.example/g00402/laws.FnExactVisible", spec := "fnExactVisible", inPlace := ["internal/bytealg.IndexByteString", "internal/bytealg.IndexString", "internal/bytealg.abigen_runtime_cmpstring"], unfollowed := true, recurses := true, named := ["unicode/utf8.first", "unicode/utf8.acceptRanges", "internal/bytealg.MaxLen"], apart := false, laid := [("unicode/utf8.acceptRanges", laid_unicode_utf8_acceptRanges), ("unicode/utf8.first", laid_unicode_utf8_first)] }
def FnExactVisibleSaid : Prop := fnExactVisibleRow.holds Tryz.pinned (OpenSpec.ofChange fnExactVisibleSpec)

/-- ITS FALSE NEIGHBOUR: 'it returns false'. Refute it at one input. -/
def fnExactVisibleWrong : ChangeSpec := { name := "fnExactVisible", fn := fun _ => fun
  | [d1, d2, d3] => { results := [.lit (.bool false)], args := [d1, d2, d3] }
  | _ => none }
def FnExactVisibleWrongFalsely : Prop := fnExactVisibleRow.holds Tryz.pinned (OpenSpec.ofChange fnExactVisibleWrong)

/-- 'laws.FnExactValueDrop': WHATEVER THE INPUT: true; the input reads as it did. -/
def fnExactValueDropSpec : ChangeSpec := { name := "fnExactValueDrop", fn := fun _ => fun
  | [d1, d2, d3] => { results := [.lit (.bool true)], args := [d1, d2, d3] }
  | _ => none }
def fnExactValueDropRow : OpenClaim := { program := "ytmkpgddfoaglpaagreatdoor", sum := "b772b8aed3f50074c7418aa40181dd10c3ea5be0fc86c15127770046d86efd7a", func := "loop.example/g00402/laws.FnExactValueDrop", spec := "fnExactValueDrop", inPlace := ["internal/bytealg.IndexByteString", "internal/bytealg.IndexString", "internal/bytealg.abigen_runtime_cmpstring", "slices.overlaps[loop.example/g00402/impl.Attr]"], unfollowed := true, recurses := true, named := ["unicode/utf8.first", "unicode/utf8.acceptRanges", "internal/bytealg.MaxLen"], apart := false, laid := [("unicode/utf8.acceptRanges", laid_unicode_utf8_acceptRanges), ("unicode/utf8.first", laid_unicode_utf8_first)] }
def FnExactValueDropSaid : Prop := fnExactValueDropRow.holds Tryz.pinned (OpenSpec.ofChange fnExactValueDropSpec)

/-- ITS FALSE NEIGHBOUR: 'it returns false'. Refute it at one input. -/
def fnExactValueDropWrong : ChangeSpec := { name := "fnExactValueDrop", fn := fun _ => fun
  | [d1, d2, d3] => { results := [.lit (.bool false)], args := [d1, d2, d3] }
  | _ => none }
def FnExactValueDropWrongFalsely : Prop := fnExactValueDropRow.holds Tryz.pinned (OpenSpec.ofChange fnExactValueDropWrong)

/-- 'laws.FnExactCheck': WHATEVER THE INPUT: true; the input reads as it did. -/
def fnExactCheckSpec : ChangeSpec := { name := "fnExactCheck", fn := fun _ => fun
  | [d1, d2] => { results := [.lit (.bool true)], args := [d1, d2] }
  | _ => none }
def fnExactCheckRow : OpenClaim := { program := "ytmkpgddfoaglpaagreatdoor", sum := "b772b8aed3f50074c7418aa40181dd10c3ea5be0fc86c15127770046d86efd7a", func := "loop.example/g00402/laws.FnExactCheck", spec := "fnExactCheck", inPlace := ["internal/bytealg.IndexByteString", "internal/bytealg.IndexString", "internal/bytealg.abigen_runtime_cmpstring"], unfollowed := true, recurses := true, named := ["unicode/utf8.first", "unicode/utf8.acceptRanges", "internal/bytealg.MaxLen"], apart := false, laid := [("unicode/utf8.acceptRanges", laid_unicode_utf8_acceptRanges), ("unicode/utf8.first", laid_unicode_utf8_first)] }
def FnExactCheckSaid : Prop := fnExactCheckRow.holds Tryz.pinned (OpenSpec.ofChange fnExactCheckSpec)

/-- ITS FALSE NEIGHBOUR: 'it returns false'. Refute it at one input. -/
def fnExactCheckWrong : ChangeSpec := { name := "fnExactCheck", fn := fun _ => fun
  | [d1, d2] => { results := [.lit (.bool false)], args := [d1, d2] }
  | _ => none }
def FnExactCheckWrongFalsely : Prop := fnExactCheckRow.holds Tryz.pinned (OpenSpec.ofChange fnExactCheckWrong)

/-- 'laws.FnExactChangesSince': WHATEVER THE INPUT: true; the input reads as it did. -/
def fnExactChangesSinceSpec : ChangeSpec := { name := "fnExactChangesSince", fn := fun _ => fun
  | [d1, d2] => { results := [.lit (.bool true)], args := [d1, d2] }
  | _ => none }
def fnExactChangesSinceRow : OpenClaim := { program := "ytmkpgddfoaglpaagreatdoor", sum := "b772b8aed3f50074c7418aa40181dd10c3ea5be0fc86c15127770046d86efd7a", func := "loop.example/g00402/laws.FnExactChangesSince", spec := "fnExactChangesSince", inPlace := ["internal/bytealg.IndexByteString", "internal/bytealg.IndexString", "internal/bytealg.abigen_runtime_cmpstring"], unfollowed := true, recurses := true, named := ["unicode/utf8.first", "unicode/utf8.acceptRanges", "internal/bytealg.MaxLen"], apart := false, laid := [("unicode/utf8.acceptRanges", laid_unicode_utf8_acceptRanges), ("unicode/utf8.first", laid_unicode_utf8_first)] }
def FnExactChangesSinceSaid : Prop := fnExactChangesSinceRow.holds Tryz.pinned (OpenSpec.ofChange fnExactChangesSinceSpec)

/-- ITS FALSE NEIGHBOUR: 'it returns false'. Refute it at one input. -/
def fnExactChangesSinceWrong : ChangeSpec := { name := "fnExactChangesSince", fn := fun _ => fun
  | [d1, d2] => { results := [.lit (.bool false)], args := [d1, d2] }
  | _ => none }
def FnExactChangesSinceWrongFalsely : Prop := fnExactChangesSinceRow.holds Tryz.pinned (OpenSpec.ofChange fnExactChangesSinceWrong)

/-- 'laws.FnExactChangesTrim': WHATEVER THE INPUT: true; the input reads as it did. -/
def fnExactChangesTrimSpec : ChangeSpec := { name := "fnExactChangesTrim", fn := fun _ => fun
  | [d1, d2] => { results := [.lit (.bool true)], args := [d1, d2] }
  | _ => none }
def fnExactChangesTrimRow : OpenClaim := { program := "ytmkpgddfoaglpaagreatdoor", sum := "b772b8aed3f50074c7418aa40181dd10c3ea5be0fc86c15127770046d86efd7a", func := "loop.example/g00402/laws.FnExactChangesTrim", spec := "fnExactChangesTrim", inPlace := ["internal/bytealg.IndexByteString", "internal/bytealg.IndexString", "internal/bytealg.abigen_runtime_cmpstring"], unfollowed := true, recurses := true, named := ["unicode/utf8.first", "unicode/utf8.acceptRanges", "internal/bytealg.MaxLen"], apart := false, laid := [("unicode/utf8.acceptRanges", laid_unicode_utf8_acceptRanges), ("unicode/utf8.first", laid_unicode_utf8_first)] }
def FnExactChangesTrimSaid : Prop := fnExactChangesTrimRow.holds Tryz.pinned (OpenSpec.ofChange fnExactChangesTrimSpec)

/-- ITS FALSE NEIGHBOUR: 'it returns false'. Refute it at one input. -/
def fnExactChangesTrimWrong : ChangeSpec := { name := "fnExactChangesTrim", fn := fun _ => fun
  | [d1, d2] => { results := [.lit (.bool false)], args := [d1, d2] }
  | _ => none }
def FnExactChangesTrimWrongFalsely : Prop := fnExactChangesTrimRow.holds Tryz.pinned (OpenSpec.ofChange fnExactChangesTrimWrong)

/-- 'laws.FnExactChangeAdd': WHATEVER THE INPUT: true; the input reads as it did. -/
def fnExactChangeAddSpec : ChangeSpec := { name := "fnExactChangeAdd", fn := fun _ => fun
  | [d1, d2, d3, d4] => { results := [.lit (.bool true)], args := [d1, d2, d3, d4] }
  | _ => none }
def fnExactChangeAddRow : OpenClaim := { program := "ytmkpgddfoaglpaagreatdoor", sum := "b772b8aed3f50074c7418aa40181dd10c3ea5be0fc86c15127770046d86efd7a", func := "loop.example/g00402/laws.FnExactChangeAdd", spec := "fnExactChangeAdd", inPlace := ["internal/bytealg.IndexByteString", "internal/bytealg.IndexString", "internal/bytealg.abigen_runtime_cmpstring"], unfollowed := true, recurses := true, named := ["unicode/utf8.first", "unicode/utf8.acceptRanges", "internal/bytealg.MaxLen"], apart := false, laid := [("unicode/utf8.acceptRanges", laid_unicode_utf8_acceptRanges), ("unicode/utf8.first", laid_unicode_utf8_first)] }
def FnExactChangeAddSaid : Prop := fnExactChangeAddRow.holds Tryz.pinned (OpenSpec.ofChange fnExactChangeAddSpec)

/-- ITS FALSE NEIGHBOUR: 'it returns false'. Refute it at one input. -/
def fnExactChangeAddWrong : ChangeSpec := { name := "fnExactChangeAdd", fn := fun _ => fun
  | [d1, d2, d3, d4] => { results := [.lit (.bool false)], args := [d1, d2, d3, d4] }
  | _ => none }
def FnExactChangeAddWrongFalsely : Prop := fnExactChangeAddRow.holds Tryz.pinned (OpenSpec.ofChange fnExactChangeAddWrong)

/-- 'laws.FnExactEntryRead': WHATEVER THE INPUT: true; the input reads as it did. -/
def fnExactEntryReadSpec : ChangeSpec := { name := "fnExactEntryRead", fn := fun _ => fun
  | [d] => { results := [.lit (.bool true)], args := [d] }
  | _ => none }
def fnExactEntryReadRow : OpenClaim := { program := "ytmkpgddfoaglpaagreatdoor", sum := "b772b8aed3f50074c7418aa40181dd10c3ea5be0fc86c15127770046d86efd7a", func := "loop.example/g00402/laws.FnExactEntryRead", spec := "fnExactEntryRead", inPlace := ["internal/bytealg.IndexByteString", "internal/bytealg.IndexString", "internal/bytealg.abigen_runtime_cmpstring"], unfollowed := true, recurses := true, named := ["unicode/utf8.first", "unicode/utf8.acceptRanges", "internal/bytealg.MaxLen"], apart := false, laid := [("unicode/utf8.acceptRanges", laid_unicode_utf8_acceptRanges), ("unicode/utf8.first", laid_unicode_utf8_first)] }
def FnExactEntryReadSaid : Prop := fnExactEntryReadRow.holds Tryz.pinned (OpenSpec.ofChange fnExactEntryReadSpec)

/-- ITS FALSE NEIGHBOUR: 'it returns false'. Refute it at one input. -/
def fnExactEntryReadWrong : ChangeSpec := { name := "fnExactEntryRead", fn := fun _ => fun
  | [d] => { results := [.lit (.bool false)], args := [d] }
  | _ => none }
def FnExactEntryReadWrongFalsely : Prop := fnExactEntryReadRow.holds Tryz.pinned (OpenSpec.ofChange fnExactEntryReadWrong)

/-- 'laws.FnExactAnswerBytes': WHATEVER THE INPUT: true; the input reads as it did. -/
def fnExactAnswerBytesSpec : ChangeSpec := { name := "fnExactAnswerBytes", fn := fun _ => fun
  | [d] => { results := [.lit (.bool true)], args := [d] }
  | _ => none }
def fnExactAnswerBytesRow : OpenClaim := { program := "ytmkpgddfoaglpaagreatdoor", sum := "b772b8aed3f50074c7418aa40181dd10c3ea5be0fc86c15127770046d86efd7a", func := "loop.example/g00402/laws.FnExactAnswerBytes", spec := "fnExactAnswerBytes", inPlace := ["internal/bytealg.IndexByteString", "internal/bytealg.IndexString", "internal/bytealg.abigen_runtime_cmpstring"], unfollowed := true, recurses := true, named := ["unicode/utf8.first", "unicode/utf8.acceptRanges", "internal/bytealg.MaxLen"], apart := false, laid := [("unicode/utf8.acceptRanges", laid_unicode_utf8_acceptRanges), ("unicode/utf8.first", laid_unicode_utf8_first)] }
def FnExactAnswerBytesSaid : Prop := fnExactAnswerBytesRow.holds Tryz.pinned (OpenSpec.ofChange fnExactAnswerBytesSpec)

/-- ITS FALSE NEIGHBOUR: 'it returns false'. Refute it at one input. -/
def fnExactAnswerBytesWrong : ChangeSpec := { name := "fnExactAnswerBytes", fn := fun _ => fun
  | [d] => { results := [.lit (.bool false)], args := [d] }
  | _ => none }
def FnExactAnswerBytesWrongFalsely : Prop := fnExactAnswerBytesRow.holds Tryz.pinned (OpenSpec.ofChange fnExactAnswerBytesWrong)

/-- 'laws.FnExactAnswerRead': WHATEVER THE INPUT: true; the input reads as it did. -/
def fnExactAnswerReadSpec : ChangeSpec := { name := "fnExactAnswerRead", fn := fun _ => fun
  | [d] => { results := [.lit (.bool true)], args := [d] }
  | _ => none }
def fnExactAnswerReadRow : OpenClaim := { program := "ytmkpgddfoaglpaagreatdoor", sum := "b772b8aed3f50074c7418aa40181dd10c3ea5be0fc86c15127770046d86efd7a", func := "loop.example/g00402/laws.FnExactAnswerRead", spec := "fnExactAnswerRead", inPlace := ["internal/bytealg.IndexByteString", "internal/bytealg.IndexString", "internal/bytealg.abigen_runtime_cmpstring"], unfollowed := true, recurses := true, named := ["unicode/utf8.first", "unicode/utf8.acceptRanges", "internal/bytealg.MaxLen"], apart := false, laid := [("unicode/utf8.acceptRanges", laid_unicode_utf8_acceptRanges), ("unicode/utf8.first", laid_unicode_utf8_first)] }
def FnExactAnswerReadSaid : Prop := fnExactAnswerReadRow.holds Tryz.pinned (OpenSpec.ofChange fnExactAnswerReadSpec)

/-- ITS FALSE NEIGHBOUR: 'it returns false'. Refute it at one input. -/
def fnExactAnswerReadWrong : ChangeSpec := { name := "fnExactAnswerRead", fn := fun _ => fun
  | [d] => { results := [.lit (.bool false)], args := [d] }
  | _ => none }
def FnExactAnswerReadWrongFalsely : Prop := fnExactAnswerReadRow.holds Tryz.pinned (OpenSpec.ofChange fnExactAnswerReadWrong)

/- THE SECOND FORM. 'bulk': how many values and letters a reading holds, each counted each time it is reached (what is shared counts as often as it is met; a slice's spare places count too). A statement '..UptoSaid' is the law's where the arguments, and the package variables that the reading takes, are together of bulk at most 1048576: NARROWER than '..Said'. Prove '..Said' where nothing that the law and all that it calls make is longer than what came in: it says more and counts as full. Else prove '..UptoSaid'. A law counts once. -/
mutual
def uptoBulk {H : Type} : DataW H → Nat
  | .lit (.string bytes) => bytes.length + 1
  | .lit _ => 1
  | .nil => 1
  | .ptr d => uptoBulk d + 1
  | .slice elems spare => uptoBulkAll elems + uptoBulkAll spare + 1
  | .agg parts => uptoBulkAll parts + 1
  | .iface _ d => uptoBulk d + 1
  | .map entries => uptoBulkEntries entries + 1
  | .held _ => 1
def uptoBulkAll {H : Type} : List (DataW H) → Nat
  | [] => 0
  | d :: r => uptoBulk d + uptoBulkAll r
def uptoBulkEntries {H : Type} : List (Lit × DataW H) → Nat
  | [] => 0
  | x :: r => uptoBulkEntry x + uptoBulkEntries r
def uptoBulkEntry {H : Type} : Lit × DataW H → Nat
  | (.string bytes, d) => bytes.length + uptoBulk d + 1
  | (_, d) => uptoBulk d + 1
 end
def uptoSmall : (H : Type) → List (DataW H) → Bool := fun _ ds => decide (uptoBulkAll ds ≤ 1048576)
def OpenSpec.upto (s : _root_.Go.ChangeSpec) : _root_.Go.OpenSpec := { _root_.Go.OpenSpec.ofChange s with cond := some uptoSmall }

/-- 'laws.FnExactVisible', WHERE WHAT IT READS IS OF BULK AT MOST 1048576: true; the input reads as it did. -/
def fnExactVisibleUptoRow : OpenClaim := { program := "ytmkpgddfoaglpaagreatdoor", sum := "b772b8aed3f50074c7418aa40181dd10c3ea5be0fc86c15127770046d86efd7a", func := "loop.example/g00402/laws.FnExactVisible", spec := "fnExactVisible", inPlace := ["internal/bytealg.IndexByteString", "internal/bytealg.IndexString", "internal/bytealg.abigen_runtime_cmpstring"], unfollowed := true, recurses := true, named := ["unicode/utf8.first", "unicode/utf8.acceptRanges", "internal/bytealg.MaxLen"], apart := false, laid := [("unicode/utf8.acceptRanges", laid_unicode_utf8_acceptRanges), ("unicode/utf8.first", laid_unicode_utf8_first)], narrowed := true }
def FnExactVisibleUptoSaid : Prop := fnExactVisibleUptoRow.holds Tryz.pinned (OpenSpec.upto fnExactVisibleSpec)

/-- 'laws.FnExactValueDrop', WHERE WHAT IT READS IS OF BULK AT MOST 1048576: true; the input reads as it did. -/
def fnExactValueDropUptoRow : OpenClaim := { program := "ytmkpgddfoaglpaagreatdoor", sum := "b772b8aed3f50074c7418aa40181dd10c3ea5be0fc86c15127770046d86efd7a", func := "loop.example/g00402/laws.FnExactValueDrop", spec := "fnExactValueDrop", inPlace := ["internal/bytealg.IndexByteString", "internal/bytealg.IndexString", "internal/bytealg.abigen_runtime_cmpstring", "slices.overlaps[loop.example/g00402/impl.Attr]"], unfollowed := true, recurses := true, named := ["unicode/utf8.first", "unicode/utf8.acceptRanges", "internal/bytealg.MaxLen"], apart := false, laid := [("unicode/utf8.acceptRanges", laid_unicode_utf8_acceptRanges), ("unicode/utf8.first", laid_unicode_utf8_first)], narrowed := true }
def FnExactValueDropUptoSaid : Prop := fnExactValueDropUptoRow.holds Tryz.pinned (OpenSpec.upto fnExactValueDropSpec)

/-- 'laws.FnExactCheck', WHERE WHAT IT READS IS OF BULK AT MOST 1048576: true; the input reads as it did. -/
def fnExactCheckUptoRow : OpenClaim := { program := "ytmkpgddfoaglpaagreatdoor", sum := "b772b8aed3f50074c7418aa40181dd10c3ea5be0fc86c15127770046d86efd7a", func := "loop.example/g00402/laws.FnExactCheck", spec := "fnExactCheck", inPlace := ["internal/bytealg.IndexByteString", "internal/bytealg.IndexString", "internal/bytealg.abigen_runtime_cmpstring"], unfollowed := true, recurses := true, named := ["unicode/utf8.first", "unicode/utf8.acceptRanges", "internal/bytealg.MaxLen"], apart := false, laid := [("unicode/utf8.acceptRanges", laid_unicode_utf8_acceptRanges), ("unicode/utf8.first", laid_unicode_utf8_first)], narrowed := true }
def FnExactCheckUptoSaid : Prop := fnExactCheckUptoRow.holds Tryz.pinned (OpenSpec.upto fnExactCheckSpec)

/-- 'laws.FnExactChangesSince', WHERE WHAT IT READS IS OF BULK AT MOST 1048576: true; the input reads as it did. -/
def fnExactChangesSinceUptoRow : OpenClaim := { program := "ytmkpgddfoaglpaagreatdoor", sum := "b772b8aed3f50074c7418aa40181dd10c3ea5be0fc86c15127770046d86efd7a", func := "loop.example/g00402/laws.FnExactChangesSince", spec := "fnExactChangesSince", inPlace := ["internal/bytealg.IndexByteString", "internal/bytealg.IndexString", "internal/bytealg.abigen_runtime_cmpstring"], unfollowed := true, recurses := true, named := ["unicode/utf8.first", "unicode/utf8.acceptRanges", "internal/bytealg.MaxLen"], apart := false, laid := [("unicode/utf8.acceptRanges", laid_unicode_utf8_acceptRanges), ("unicode/utf8.first", laid_unicode_utf8_first)], narrowed := true }
def FnExactChangesSinceUptoSaid : Prop := fnExactChangesSinceUptoRow.holds Tryz.pinned (OpenSpec.upto fnExactChangesSinceSpec)

/-- 'laws.FnExactChangesTrim', WHERE WHAT IT READS IS OF BULK AT MOST 1048576: true; the input reads as it did. -/
def fnExactChangesTrimUptoRow : OpenClaim := { program := "ytmkpgddfoaglpaagreatdoor", sum := "b772b8aed3f50074c7418aa40181dd10c3ea5be0fc86c15127770046d86efd7a", func := "loop.example/g00402/laws.FnExactChangesTrim", spec := "fnExactChangesTrim", inPlace := ["internal/bytealg.IndexByteString", "internal/bytealg.IndexString", "internal/bytealg.abigen_runtime_cmpstring"], unfollowed := true, recurses := true, named := ["unicode/utf8.first", "unicode/utf8.acceptRanges", "internal/bytealg.MaxLen"], apart := false, laid := [("unicode/utf8.acceptRanges", laid_unicode_utf8_acceptRanges), ("unicode/utf8.first", laid_unicode_utf8_first)], narrowed := true }
def FnExactChangesTrimUptoSaid : Prop := fnExactChangesTrimUptoRow.holds Tryz.pinned (OpenSpec.upto fnExactChangesTrimSpec)

/-- 'laws.FnExactChangeAdd', WHERE WHAT IT READS IS OF BULK AT MOST 1048576: true; the input reads as it did. -/
def fnExactChangeAddUptoRow : OpenClaim := { program := "ytmkpgddfoaglpaagreatdoor", sum := "b772b8aed3f50074c7418aa40181dd10c3ea5be0fc86c15127770046d86efd7a", func := "loop.example/g00402/laws.FnExactChangeAdd", spec := "fnExactChangeAdd", inPlace := ["internal/bytealg.IndexByteString", "internal/bytealg.IndexString", "internal/bytealg.abigen_runtime_cmpstring"], unfollowed := true, recurses := true, named := ["unicode/utf8.first", "unicode/utf8.acceptRanges", "internal/bytealg.MaxLen"], apart := false, laid := [("unicode/utf8.acceptRanges", laid_unicode_utf8_acceptRanges), ("unicode/utf8.first", laid_unicode_utf8_first)], narrowed := true }
def FnExactChangeAddUptoSaid : Prop := fnExactChangeAddUptoRow.holds Tryz.pinned (OpenSpec.upto fnExactChangeAddSpec)

/-- 'laws.FnExactEntryRead', WHERE WHAT IT READS IS OF BULK AT MOST 1048576: true; the input reads as it did. -/
def fnExactEntryReadUptoRow : OpenClaim := { program := "ytmkpgddfoaglpaagreatdoor", sum := "b772b8aed3f50074c7418aa40181dd10c3ea5be0fc86c15127770046d86efd7a", func := "loop.example/g00402/laws.FnExactEntryRead", spec := "fnExactEntryRead", inPlace := ["internal/bytealg.IndexByteString", "internal/bytealg.IndexString", "internal/bytealg.abigen_runtime_cmpstring"], unfollowed := true, recurses := true, named := ["unicode/utf8.first", "unicode/utf8.acceptRanges", "internal/bytealg.MaxLen"], apart := false, laid := [("unicode/utf8.acceptRanges", laid_unicode_utf8_acceptRanges), ("unicode/utf8.first", laid_unicode_utf8_first)], narrowed := true }
def FnExactEntryReadUptoSaid : Prop := fnExactEntryReadUptoRow.holds Tryz.pinned (OpenSpec.upto fnExactEntryReadSpec)

/-- 'laws.FnExactAnswerBytes', WHERE WHAT IT READS IS OF BULK AT MOST 1048576: true; the input reads as it did. -/
def fnExactAnswerBytesUptoRow : OpenClaim := { program := "ytmkpgddfoaglpaagreatdoor", sum := "b772b8aed3f50074c7418aa40181dd10c3ea5be0fc86c15127770046d86efd7a", func := "loop.example/g00402/laws.FnExactAnswerBytes", spec := "fnExactAnswerBytes", inPlace := ["internal/bytealg.IndexByteString", "internal/bytealg.IndexString", "internal/bytealg.abigen_runtime_cmpstring"], unfollowed := true, recurses := true, named := ["unicode/utf8.first", "unicode/utf8.acceptRanges", "internal/bytealg.MaxLen"], apart := false, laid := [("unicode/utf8.acceptRanges", laid_unicode_utf8_acceptRanges), ("unicode/utf8.first", laid_unicode_utf8_first)], narrowed := true }
def FnExactAnswerBytesUptoSaid : Prop := fnExactAnswerBytesUptoRow.holds Tryz.pinned (OpenSpec.upto fnExactAnswerBytesSpec)

/-- 'laws.FnExactAnswerRead', WHERE WHAT IT READS IS OF BULK AT MOST 1048576: true; the input reads as it did. -/
def fnExactAnswerReadUptoRow : OpenClaim := { program := "ytmkpgddfoaglpaagreatdoor", sum := "b772b8aed3f50074c7418aa40181dd10c3ea5be0fc86c15127770046d86efd7a", func := "loop.example/g00402/laws.FnExactAnswerRead", spec := "fnExactAnswerRead", inPlace := ["internal/bytealg.IndexByteString", "internal/bytealg.IndexString", "internal/bytealg.abigen_runtime_cmpstring"], unfollowed := true, recurses := true, named := ["unicode/utf8.first", "unicode/utf8.acceptRanges", "internal/bytealg.MaxLen"], apart := false, laid := [("unicode/utf8.acceptRanges", laid_unicode_utf8_acceptRanges), ("unicode/utf8.first", laid_unicode_utf8_first)], narrowed := true }
def FnExactAnswerReadUptoSaid : Prop := fnExactAnswerReadUptoRow.holds Tryz.pinned (OpenSpec.upto fnExactAnswerReadSpec)

end Rows
end Go.Proofs.YtmkpgddfoaglpaaGreatDoor
