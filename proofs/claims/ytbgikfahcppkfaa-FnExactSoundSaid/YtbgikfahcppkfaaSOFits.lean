/-
  What the laws' arguments are known to fit, and how they open. No condition.
-/
import Derived.KernelRfl
import Derived.Test.YtbgikfahcppkfaaSOOpen
import Derived.Test.YtbgikfahcppkfaaSOP1
namespace Go.Proofs.Ytbgikfahcppkfaa.Ft
open Go.RowKit Go.Proofs.YtbgikfahcppkfaaW.PrintWords
def fit9 (s : ByteArray) : Prop := s.size ≤ 140737488351232
theorem op9 : Opn.Opens Try.prog 9 Kd.string fit9 := Opn.opens_string Try.underlying9
def fit2 (n : Int) : Prop := (Lit.int .i64 n).wf = true
theorem op2 : Opn.Opens Try.prog 2 (Kd.int .i64) fit2 := Opn.opens_int Try.underlying2
def fit76 (x : PG.S76) : Prop := fit9 x.f0 ∧ fit9 x.f1 ∧ fit9 x.f2 ∧ fit9 x.f3 ∧ fit2 x.f4
theorem op76 : Opn.Opens Try.prog 76 PG.k76 fit76 := Opn.opens_struct Try.underlying76 (Opn.opensF_cons op9 (by kernel_rfl) rfl (Opn.opensF_cons op9 (by kernel_rfl) rfl (Opn.opensF_cons op9 (by kernel_rfl) rfl (Opn.opensF_cons op9 (by kernel_rfl) rfl (Opn.opensF_one op2 (by kernel_rfl) rfl))))) (by kernel_rfl) (fun x : PG.S76 => (x.f0, x.f1, x.f2, x.f3, x.f4)) (fun p => ⟨p.1, p.2.1, p.2.2.1, p.2.2.2.1, p.2.2.2.2⟩) (fun _ => rfl)
def fit38 (l : List (PG.S76)) : Prop := l.length * 72 ≤ 140737488351232 ∧ ∀ x, x ∈ l → fit76 x
theorem op38 : Opn.Opens Try.prog 38 (Kd.slice 76 PG.k76) fit38 := Opn.opens_slice Try.underlying38 op76 (by kernel_rfl) (by kernel_rfl)
end Go.Proofs.Ytbgikfahcppkfaa.Ft
