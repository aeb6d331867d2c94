/-
  What the laws' arguments are known to fit, and how they open. No condition.
-/
import Derived.KernelRfl
import Derived.Test.YtbgikfahcppkfaaGreatDoorFROpen
import Derived.Test.YtbgikfahcppkfaaGreatDoorFRP1
namespace Go.Proofs.YtbgikfahcppkfaaGreatDoor.Ft
open Go.RowKit Go.Proofs.YtbgikfahcppkfaaGreatDoorW.PrintWords
def fit9 (s : ByteArray) : Prop := s.size ≤ 140737488351232
theorem op9 : Opn.Opens Tryz.prog 9 Kd.string fit9 := Opn.opens_string Tryz.underlying9
def fit117 (x : PG.S117) : Prop := fit9 x.f0 ∧ fit9 x.f1
theorem op117 : Opn.Opens Tryz.prog 117 PG.k117 fit117 := Opn.opens_struct Tryz.underlying117 (Opn.opensF_cons op9 (by kernel_rfl) rfl (Opn.opensF_one op9 (by kernel_rfl) rfl)) (by kernel_rfl) (fun x : PG.S117 => (x.f0, x.f1)) (fun p => ⟨p.1, p.2⟩) (fun _ => rfl)
def fit23 (l : List (PG.S117)) : Prop := l.length * 32 ≤ 140737488351232 ∧ ∀ x, x ∈ l → fit117 x
theorem op23 : Opn.Opens Tryz.prog 23 (Kd.slice 117 PG.k117) fit23 := Opn.opens_slice Tryz.underlying23 op117 (by kernel_rfl) (by kernel_rfl)
def fit2 (n : Int) : Prop := (Lit.int .i64 n).wf = true
theorem op2 : Opn.Opens Tryz.prog 2 (Kd.int .i64) fit2 := Opn.opens_int Tryz.underlying2
def fit148 (x : PG.S148) : Prop := fit2 x.f0 ∧ fit9 x.f1 ∧ fit9 x.f2 ∧ fit2 x.f3
theorem op148 : Opn.Opens Tryz.prog 148 PG.k148 fit148 := Opn.opens_struct Tryz.underlying148 (Opn.opensF_cons op2 (by kernel_rfl) rfl (Opn.opensF_cons op9 (by kernel_rfl) rfl (Opn.opensF_cons op9 (by kernel_rfl) rfl (Opn.opensF_one op2 (by kernel_rfl) rfl)))) (by kernel_rfl) (fun x : PG.S148 => (x.f0, x.f1, x.f2, x.f3)) (fun p => ⟨p.1, p.2.1, p.2.2.1, p.2.2.2⟩) (fun _ => rfl)
def fit56 (l : List (PG.S148)) : Prop := l.length * 48 ≤ 140737488351232 ∧ ∀ x, x ∈ l → fit148 x
theorem op56 : Opn.Opens Tryz.prog 56 (Kd.slice 148 PG.k148) fit56 := Opn.opens_slice Tryz.underlying56 op148 (by kernel_rfl) (by kernel_rfl)
def fit151 (x : PG.S151) : Prop := fit2 x.f0 ∧ fit9 x.f1 ∧ fit2 x.f2
theorem op151 : Opn.Opens Tryz.prog 151 PG.k151 fit151 := Opn.opens_struct Tryz.underlying151 (Opn.opensF_cons op2 (by kernel_rfl) rfl (Opn.opensF_cons op9 (by kernel_rfl) rfl (Opn.opensF_one op2 (by kernel_rfl) rfl))) (by kernel_rfl) (fun x : PG.S151 => (x.f0, x.f1, x.f2)) (fun p => ⟨p.1, p.2.1, p.2.2⟩) (fun _ => rfl)
def fit57 (l : List (PG.S151)) : Prop := l.length * 32 ≤ 140737488351232 ∧ ∀ x, x ∈ l → fit151 x
theorem op57 : Opn.Opens Tryz.prog 57 (Kd.slice 151 PG.k151) fit57 := Opn.opens_slice Tryz.underlying57 op151 (by kernel_rfl) (by kernel_rfl)
def fit4 (_ : Bool) : Prop := True
theorem op4 : Opn.Opens Tryz.prog 4 Kd.bool fit4 := Opn.opens_bool Tryz.underlying4
def fit59 (x : PG.S59) : Prop := fit23 x.f0 ∧ fit56 x.f1 ∧ fit57 x.f2 ∧ fit57 x.f3 ∧ fit57 x.f4 ∧ fit4 x.f5
theorem op59 : Opn.Opens Tryz.prog 59 PG.k59 fit59 := Opn.opens_struct Tryz.underlying59 (Opn.opensF_cons op23 (by kernel_rfl) rfl (Opn.opensF_cons op56 (by kernel_rfl) rfl (Opn.opensF_cons op57 (by kernel_rfl) rfl (Opn.opensF_cons op57 (by kernel_rfl) rfl (Opn.opensF_cons op57 (by kernel_rfl) rfl (Opn.opensF_one op4 (by kernel_rfl) rfl)))))) (by kernel_rfl) (fun x : PG.S59 => (x.f0, x.f1, x.f2, x.f3, x.f4, x.f5)) (fun p => ⟨p.1, p.2.1, p.2.2.1, p.2.2.2.1, p.2.2.2.2.1, p.2.2.2.2.2⟩) (fun _ => rfl)
end Go.Proofs.YtbgikfahcppkfaaGreatDoor.Ft
