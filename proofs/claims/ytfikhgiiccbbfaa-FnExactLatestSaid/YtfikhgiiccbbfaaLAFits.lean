/-
  What the laws' arguments are known to fit, and how they open. No condition.
-/
import Derived.KernelRfl
import Derived.Test.YtfikhgiiccbbfaaLAOpen
import Derived.Test.YtfikhgiiccbbfaaLAP1
namespace Go.Proofs.Ytfikhgiiccbbfaa.Ft
open Go.RowKit Go.Proofs.YtfikhgiiccbbfaaW.PrintWords
def fit9 (s : ByteArray) : Prop := s.size ≤ 140737488351232
theorem op9 : Opn.Opens Try.prog 9 Kd.string fit9 := Opn.opens_string Try.underlying9
def fit124 (x : PH.S124) : Prop := fit9 x.f0 ∧ fit9 x.f1
theorem op124 : Opn.Opens Try.prog 124 PH.k124 fit124 := Opn.opens_struct Try.underlying124 (Opn.opensF_cons op9 (by kernel_rfl) rfl (Opn.opensF_one op9 (by kernel_rfl) rfl)) (by kernel_rfl) (fun x : PH.S124 => (x.f0, x.f1)) (fun p => ⟨p.1, p.2⟩) (fun _ => rfl)
def fit81 (l : List (PH.S124)) : Prop := l.length * 32 ≤ 140737488351232 ∧ ∀ x, x ∈ l → fit124 x
theorem op81 : Opn.Opens Try.prog 81 (Kd.slice 124 PH.k124) fit81 := Opn.opens_slice Try.underlying81 op124 (by kernel_rfl) (by kernel_rfl)
def fit76 (l : List ByteArray) : Prop := l.length * 16 ≤ 140737488351232 ∧ ∀ x, x ∈ l → fit9 x
theorem op76 : Opn.Opens Try.prog 76 (Kd.slice 9 Kd.string) fit76 := Opn.opens_slice Try.underlying76 op9 (by kernel_rfl) (by kernel_rfl)
def fit126 (x : PH.S126) : Prop := fit9 x.f0 ∧ fit76 x.f1
theorem op126 : Opn.Opens Try.prog 126 PH.k126 fit126 := Opn.opens_struct Try.underlying126 (Opn.opensF_cons op9 (by kernel_rfl) rfl (Opn.opensF_one op76 (by kernel_rfl) rfl)) (by kernel_rfl) (fun x : PH.S126 => (x.f0, x.f1)) (fun p => ⟨p.1, p.2⟩) (fun _ => rfl)
def fit82 (l : List (PH.S126)) : Prop := l.length * 40 ≤ 140737488351232 ∧ ∀ x, x ∈ l → fit126 x
theorem op82 : Opn.Opens Try.prog 82 (Kd.slice 126 PH.k126) fit82 := Opn.opens_slice Try.underlying82 op126 (by kernel_rfl) (by kernel_rfl)
def fit84 (x : PH.S84) : Prop := fit81 x.f0 ∧ fit82 x.f1
theorem op84 : Opn.Opens Try.prog 84 PH.k84 fit84 := Opn.opens_struct Try.underlying84 (Opn.opensF_cons op81 (by kernel_rfl) rfl (Opn.opensF_one op82 (by kernel_rfl) rfl)) (by kernel_rfl) (fun x : PH.S84 => (x.f0, x.f1)) (fun p => ⟨p.1, p.2⟩) (fun _ => rfl)
def fit47 (l : List (PH.S84)) : Prop := l.length * 48 ≤ 140737488351232 ∧ ∀ x, x ∈ l → fit84 x
theorem op47 : Opn.Opens Try.prog 47 (Kd.slice 84 PH.k84) fit47 := Opn.opens_slice Try.underlying47 op84 (by kernel_rfl) (by kernel_rfl)
def fit2 (n : Int) : Prop := (Lit.int .i64 n).wf = true
theorem op2 : Opn.Opens Try.prog 2 (Kd.int .i64) fit2 := Opn.opens_int Try.underlying2
def fit98 (x : PH.S98) : Prop := fit2 x.f0 ∧ fit2 x.f1 ∧ fit9 x.f2 ∧ fit84 x.f3
theorem op98 : Opn.Opens Try.prog 98 PH.k98 fit98 := Opn.opens_struct Try.underlying98 (Opn.opensF_cons op2 (by kernel_rfl) rfl (Opn.opensF_cons op2 (by kernel_rfl) rfl (Opn.opensF_cons op9 (by kernel_rfl) rfl (Opn.opensF_one op84 (by kernel_rfl) rfl)))) (by kernel_rfl) (fun x : PH.S98 => (x.f0, x.f1, x.f2, x.f3)) (fun p => ⟨p.1, p.2.1, p.2.2.1, p.2.2.2⟩) (fun _ => rfl)
def fit55 (l : List (PH.S98)) : Prop := l.length * 80 ≤ 140737488351232 ∧ ∀ x, x ∈ l → fit98 x
theorem op55 : Opn.Opens Try.prog 55 (Kd.slice 98 PH.k98) fit55 := Opn.opens_slice Try.underlying55 op98 (by kernel_rfl) (by kernel_rfl)
end Go.Proofs.Ytfikhgiiccbbfaa.Ft
