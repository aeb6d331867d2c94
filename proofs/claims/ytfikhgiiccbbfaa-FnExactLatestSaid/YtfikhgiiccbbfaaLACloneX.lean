/-
  slices.Clone on []Rdn and on []string, in the form that the printed texts ask for. Condition: the row's size.
-/
import Derived.Test.YtfikhgiiccbbfaaLACloneRdn
import Derived.Test.YtfikhgiiccbbfaaLAClonestring
namespace Go.Proofs.Ytfikhgiiccbbfaa.PH
open Go.RowKit Go.Proofs.YtfikhgiiccbbfaaW.PrintWords Go.Proofs.YtfikhgiiccbbfaaW.PrintLast Go.Proofs.YtfikhgiiccbbfaaW.PrintMore Go.Proofs.Ytfikhgiiccbbfaa.Gn
set_option linter.unusedVariables false
set_option linter.unusedSimpArgs false

def slices_Clone_Rdn.f (l0 : List S119) : Option (List S119) := if l0.length ≤ 1000000000 then some l0 else none
theorem slices_Clone_Rdn.calls (A0 : Option Addr) (c0 : Nat) (l0 : List S119) (r : List S119) (w : World) (hr0 : Kd.C k119 w A0 l0.length l0) (hc0 : l0.length ≤ c0) (h : slices_Clone_Rdn.f l0 = some r) :
    Calls Try.prog 94 #[.slice A0 l0.length c0] w fun e w' => ∃ v0_ : Value, e = .returned (v0_) ∧ Kd.R k119 119 w' w.heap.size (fun _ => True) v0_ r ∧ Below w.heap.size w w' := by
  unfold slices_Clone_Rdn.f at h
  split at h
  · obtain rfl := Option.some.inj h
    exact clone_Rdn A0 c0 l0 w hr0 hc0 (by omega)
  · cases h
def slices_Clone_string.f (l0 : List ByteArray) : Option (List ByteArray) := if l0.length ≤ 1000000000 then some l0 else none
theorem slices_Clone_string.calls (A0 : Option Addr) (c0 : Nat) (l0 : List ByteArray) (r : List ByteArray) (w : World) (hr0 : Kd.C Kd.string w A0 l0.length l0) (hc0 : l0.length ≤ c0) (h : slices_Clone_string.f l0 = some r) :
    Calls Try.prog 95 #[.slice A0 l0.length c0] w fun e w' => ∃ v0_ : Value, e = .returned (v0_) ∧ Kd.R Kd.string 9 w' w.heap.size (fun _ => True) v0_ r ∧ Below w.heap.size w w' := by
  unfold slices_Clone_string.f at h
  split at h
  · obtain rfl := Option.some.inj h
    exact clone_string A0 c0 l0 w hr0 hc0 (by omega)
  · cases h
end Go.Proofs.Ytfikhgiiccbbfaa.PH
