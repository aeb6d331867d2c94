/-
  strings.Trim at an ASCII cutset returns the string without the cutset's bytes at both ends: the shelf's contract in this seat's numbers. Condition: the lengths' bounds of the contract.
-/
import Derived.Test.YthapodlehfblgaaDoorAOP1
import Derived.Test.YthapodlehfblgaaDoorAOLay
namespace Go.Proofs.YthapodlehfblgaaDoor.PA
open Go.RowKit Go.Shelf
open Go.Proofs.YthapodlehfblgaaDoorW.PrintWords Go.Proofs.YthapodlehfblgaaDoorW.PrintLast Go.Proofs.YthapodlehfblgaaDoorW.PrintMore

def trimOk (s c : ByteArray) : Bool := decide (s.size ≤ 9223372036854775807) && (decide (c.size < 4294967281) && c.data.toList.all (fun b => decide (b.toNat < 128)))
/-- strings.Trim, where the contract speaks. -/
def strings_Trim.f (a0 a1 : ByteArray) : Option (ByteArray) := if trimOk a0 a1 = true then some ⟨(Lib.trimS a0.data.toList a1.data.toList).toArray⟩ else none

theorem strings_Trim.calls (a0 a1 : ByteArray) (r : ByteArray) (w : World) (h : strings_Trim.f a0 a1 = some r) :
    Calls Tryd.prog 121 #[.string a0, .string a1] w fun e w' => e = .returned (.string r) ∧ Below w.heap.size w w' := by
  unfold strings_Trim.f at h
  by_cases hk : trimOk a0 a1 = true
  · rw [if_pos hk] at h
    obtain rfl := Option.some.inj h
    simp only [trimOk, Bool.and_eq_true, decide_eq_true_eq] at hk
    obtain ⟨h1, h2, h3⟩ := hk
    exact Any.strings_Trim_laid Tryd.lays160 (by kernel_rfl) a0 a1 w h1 h2 (ascii_of_all h3)
  · rw [if_neg hk] at h
    cases h
end Go.Proofs.YthapodlehfblgaaDoor.PA
