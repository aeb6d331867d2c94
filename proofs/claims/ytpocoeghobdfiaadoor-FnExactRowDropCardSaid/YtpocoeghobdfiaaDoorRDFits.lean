/-
  What the laws' arguments are known to fit, and how they open. No condition.
-/
import Derived.KernelRfl
import Derived.Test.YtpocoeghobdfiaaDoorRDOpen
import Derived.Test.YtpocoeghobdfiaaDoorRDP1
namespace Go.Proofs.YtpocoeghobdfiaaDoor.Ft
open Go.RowKit Go.Proofs.YtpocoeghobdfiaaDoorW.PrintWords
def fit2 (n : Int) : Prop := (Lit.int .i64 n).wf = true
theorem op2 : Opn.Opens Tryd.prog 2 (Kd.int .i64) fit2 := Opn.opens_int Tryd.underlying2
def fit9 (s : ByteArray) : Prop := s.size ≤ 140737488351232
theorem op9 : Opn.Opens Tryd.prog 9 Kd.string fit9 := Opn.opens_string Tryd.underlying9
def fit4 (_ : Bool) : Prop := True
theorem op4 : Opn.Opens Tryd.prog 4 Kd.bool fit4 := Opn.opens_bool Tryd.underlying4
def fit136 (x : PG.S136) : Prop := fit2 x.f0 ∧ fit9 x.f1 ∧ fit9 x.f2 ∧ fit9 x.f3 ∧ fit4 x.f4 ∧ fit2 x.f5 ∧ fit4 x.f6
theorem op136 : Opn.Opens Tryd.prog 136 PG.k136 fit136 := Opn.opens_struct Tryd.underlying136 (Opn.opensF_cons op2 (by kernel_rfl) rfl (Opn.opensF_cons op9 (by kernel_rfl) rfl (Opn.opensF_cons op9 (by kernel_rfl) rfl (Opn.opensF_cons op9 (by kernel_rfl) rfl (Opn.opensF_cons op4 (by kernel_rfl) rfl (Opn.opensF_cons op2 (by kernel_rfl) rfl (Opn.opensF_one op4 (by kernel_rfl) rfl))))))) (by kernel_rfl) (fun x : PG.S136 => (x.f0, x.f1, x.f2, x.f3, x.f4, x.f5, x.f6)) (fun p => ⟨p.1, p.2.1, p.2.2.1, p.2.2.2.1, p.2.2.2.2.1, p.2.2.2.2.2.1, p.2.2.2.2.2.2⟩) (fun _ => rfl)
def fit29 (l : List (PG.S136)) : Prop := l.length * 80 ≤ 140737488351232 ∧ ∀ x, x ∈ l → fit136 x
theorem op29 : Opn.Opens Tryd.prog 29 (Kd.slice 136 PG.k136) fit29 := Opn.opens_slice Tryd.underlying29 op136 (by kernel_rfl) (by kernel_rfl)
def fit31 (x : PG.S31) : Prop := fit2 x.f0 ∧ fit2 x.f1 ∧ fit29 x.f2
theorem op31 : Opn.Opens Tryd.prog 31 PG.k31 fit31 := Opn.opens_struct Tryd.underlying31 (Opn.opensF_cons op2 (by kernel_rfl) rfl (Opn.opensF_cons op2 (by kernel_rfl) rfl (Opn.opensF_one op29 (by kernel_rfl) rfl))) (by kernel_rfl) (fun x : PG.S31 => (x.f0, x.f1, x.f2)) (fun p => ⟨p.1, p.2.1, p.2.2⟩) (fun _ => rfl)
end Go.Proofs.YtpocoeghobdfiaaDoor.Ft
