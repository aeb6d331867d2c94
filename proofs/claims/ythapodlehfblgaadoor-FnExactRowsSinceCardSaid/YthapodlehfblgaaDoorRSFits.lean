/-
  What the laws' arguments are known to fit, and how they open. No condition.
-/
import Derived.KernelRfl
import Derived.Test.YthapodlehfblgaaDoorRSOpen
import Derived.Test.YthapodlehfblgaaDoorRSP1
namespace Go.Proofs.YthapodlehfblgaaDoor.Ft
open Go.RowKit Go.Proofs.YthapodlehfblgaaDoorW.PrintWords
def fit2 (n : Int) : Prop := (Lit.int .i64 n).wf = true
theorem op2 : Opn.Opens Tryd.prog 2 (Kd.int .i64) fit2 := Opn.opens_int Tryd.underlying2
def fit9 (s : ByteArray) : Prop := s.size ≤ 140737488351232
theorem op9 : Opn.Opens Tryd.prog 9 Kd.string fit9 := Opn.opens_string Tryd.underlying9
def fit4 (_ : Bool) : Prop := True
theorem op4 : Opn.Opens Tryd.prog 4 Kd.bool fit4 := Opn.opens_bool Tryd.underlying4
def fit119 (x : PG.S119) : Prop := fit2 x.f0 ∧ fit9 x.f1 ∧ fit9 x.f2 ∧ fit9 x.f3 ∧ fit4 x.f4 ∧ fit2 x.f5 ∧ fit4 x.f6
theorem op119 : Opn.Opens Tryd.prog 119 PG.k119 fit119 := Opn.opens_struct Tryd.underlying119 (Opn.opensF_cons op2 (by kernel_rfl) rfl (Opn.opensF_cons op9 (by kernel_rfl) rfl (Opn.opensF_cons op9 (by kernel_rfl) rfl (Opn.opensF_cons op9 (by kernel_rfl) rfl (Opn.opensF_cons op4 (by kernel_rfl) rfl (Opn.opensF_cons op2 (by kernel_rfl) rfl (Opn.opensF_one op4 (by kernel_rfl) rfl))))))) (by kernel_rfl) (fun x : PG.S119 => (x.f0, x.f1, x.f2, x.f3, x.f4, x.f5, x.f6)) (fun p => ⟨p.1, p.2.1, p.2.2.1, p.2.2.2.1, p.2.2.2.2.1, p.2.2.2.2.2.1, p.2.2.2.2.2.2⟩) (fun _ => rfl)
def fit47 (l : List (PG.S119)) : Prop := l.length * 80 ≤ 140737488351232 ∧ ∀ x, x ∈ l → fit119 x
theorem op47 : Opn.Opens Tryd.prog 47 (Kd.slice 119 PG.k119) fit47 := Opn.opens_slice Tryd.underlying47 op119 (by kernel_rfl) (by kernel_rfl)
def fit49 (x : PG.S49) : Prop := fit2 x.f0 ∧ fit2 x.f1 ∧ fit47 x.f2
theorem op49 : Opn.Opens Tryd.prog 49 PG.k49 fit49 := Opn.opens_struct Tryd.underlying49 (Opn.opensF_cons op2 (by kernel_rfl) rfl (Opn.opensF_cons op2 (by kernel_rfl) rfl (Opn.opensF_one op47 (by kernel_rfl) rfl))) (by kernel_rfl) (fun x : PG.S49 => (x.f0, x.f1, x.f2)) (fun p => ⟨p.1, p.2.1, p.2.2⟩) (fun _ => rfl)
def fit80 (x : PG.S80) : Prop := fit2 x.f0 ∧ fit9 x.f1 ∧ fit2 x.f2
theorem op80 : Opn.Opens Tryd.prog 80 PG.k80 fit80 := Opn.opens_struct Tryd.underlying80 (Opn.opensF_cons op2 (by kernel_rfl) rfl (Opn.opensF_cons op9 (by kernel_rfl) rfl (Opn.opensF_one op2 (by kernel_rfl) rfl))) (by kernel_rfl) (fun x : PG.S80 => (x.f0, x.f1, x.f2)) (fun p => ⟨p.1, p.2.1, p.2.2⟩) (fun _ => rfl)
def fit39 (l : List (PG.S80)) : Prop := l.length * 32 ≤ 140737488351232 ∧ ∀ x, x ∈ l → fit80 x
theorem op39 : Opn.Opens Tryd.prog 39 (Kd.slice 80 PG.k80) fit39 := Opn.opens_slice Tryd.underlying39 op80 (by kernel_rfl) (by kernel_rfl)
end Go.Proofs.YthapodlehfblgaaDoor.Ft
