/-
  What the laws' arguments are known to fit, and how they open. No condition.
-/
import Derived.KernelRfl
import Derived.Test.YthapodlehfblgaaDoorAOOpen
import Derived.Test.YthapodlehfblgaaDoorAOP1
namespace Go.Proofs.YthapodlehfblgaaDoor.Ft
open Go.RowKit Go.Proofs.YthapodlehfblgaaDoorW.PrintWords
def fit9 (s : ByteArray) : Prop := s.size ≤ 140737488351232
theorem op9 : Opn.Opens Tryd.prog 9 Kd.string fit9 := Opn.opens_string Tryd.underlying9
def fit95 (x : PA.S95) : Prop := fit9 x.f0 ∧ fit9 x.f1
theorem op95 : Opn.Opens Tryd.prog 95 PA.k95 fit95 := Opn.opens_struct Tryd.underlying95 (Opn.opensF_cons op9 (by kernel_rfl) rfl (Opn.opensF_one op9 (by kernel_rfl) rfl)) (by kernel_rfl) (fun x : PA.S95 => (x.f0, x.f1)) (fun p => ⟨p.1, p.2⟩) (fun _ => rfl)
def fit22 (l : List (PA.S95)) : Prop := l.length * 32 ≤ 140737488351232 ∧ ∀ x, x ∈ l → fit95 x
theorem op22 : Opn.Opens Tryd.prog 22 (Kd.slice 95 PA.k95) fit22 := Opn.opens_slice Tryd.underlying22 op95 (by kernel_rfl) (by kernel_rfl)
def fit27 (l : List ByteArray) : Prop := l.length * 16 ≤ 140737488351232 ∧ ∀ x, x ∈ l → fit9 x
theorem op27 : Opn.Opens Tryd.prog 27 (Kd.slice 9 Kd.string) fit27 := Opn.opens_slice Tryd.underlying27 op9 (by kernel_rfl) (by kernel_rfl)
def fit98 (x : PA.S98) : Prop := fit9 x.f0 ∧ fit27 x.f1
theorem op98 : Opn.Opens Tryd.prog 98 PA.k98 fit98 := Opn.opens_struct Tryd.underlying98 (Opn.opensF_cons op9 (by kernel_rfl) rfl (Opn.opensF_one op27 (by kernel_rfl) rfl)) (by kernel_rfl) (fun x : PA.S98 => (x.f0, x.f1)) (fun p => ⟨p.1, p.2⟩) (fun _ => rfl)
def fit23 (l : List (PA.S98)) : Prop := l.length * 40 ≤ 140737488351232 ∧ ∀ x, x ∈ l → fit98 x
theorem op23 : Opn.Opens Tryd.prog 23 (Kd.slice 98 PA.k98) fit23 := Opn.opens_slice Tryd.underlying23 op98 (by kernel_rfl) (by kernel_rfl)
def fit25 (x : PA.S25) : Prop := fit22 x.f0 ∧ fit23 x.f1
theorem op25 : Opn.Opens Tryd.prog 25 PA.k25 fit25 := Opn.opens_struct Tryd.underlying25 (Opn.opensF_cons op22 (by kernel_rfl) rfl (Opn.opensF_one op23 (by kernel_rfl) rfl)) (by kernel_rfl) (fun x : PA.S25 => (x.f0, x.f1)) (fun p => ⟨p.1, p.2⟩) (fun _ => rfl)
end Go.Proofs.YthapodlehfblgaaDoor.Ft
