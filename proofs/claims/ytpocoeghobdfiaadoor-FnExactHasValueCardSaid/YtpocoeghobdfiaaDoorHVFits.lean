/-
  What the laws' arguments are known to fit, and how they open. No condition.
-/
import Derived.KernelRfl
import Derived.Test.YtpocoeghobdfiaaDoorHVOpen
import Derived.Test.YtpocoeghobdfiaaDoorHVP1
namespace Go.Proofs.YtpocoeghobdfiaaDoor.Ft
open Go.RowKit Go.Proofs.YtpocoeghobdfiaaDoorW.PrintWords
def fit2 (n : Int) : Prop := (Lit.int .i64 n).wf = true
theorem op2 : Opn.Opens Tryd.prog 2 (Kd.int .i64) fit2 := Opn.opens_int Tryd.underlying2
def fit9 (s : ByteArray) : Prop := s.size ≤ 140737488351232
theorem op9 : Opn.Opens Tryd.prog 9 Kd.string fit9 := Opn.opens_string Tryd.underlying9
def fit84 (x : PG.S84) : Prop := fit2 x.f0 ∧ fit9 x.f1 ∧ fit2 x.f2
theorem op84 : Opn.Opens Tryd.prog 84 PG.k84 fit84 := Opn.opens_struct Tryd.underlying84 (Opn.opensF_cons op2 (by kernel_rfl) rfl (Opn.opensF_cons op9 (by kernel_rfl) rfl (Opn.opensF_one op2 (by kernel_rfl) rfl))) (by kernel_rfl) (fun x : PG.S84 => (x.f0, x.f1, x.f2)) (fun p => ⟨p.1, p.2.1, p.2.2⟩) (fun _ => rfl)
def fit22 (l : List (PG.S84)) : Prop := l.length * 32 ≤ 140737488351232 ∧ ∀ x, x ∈ l → fit84 x
theorem op22 : Opn.Opens Tryd.prog 22 (Kd.slice 84 PG.k84) fit22 := Opn.opens_slice Tryd.underlying22 op84 (by kernel_rfl) (by kernel_rfl)
def fit4 (_ : Bool) : Prop := True
theorem op4 : Opn.Opens Tryd.prog 4 Kd.bool fit4 := Opn.opens_bool Tryd.underlying4
def fit136 (x : PG.S136) : Prop := fit2 x.f0 ∧ fit9 x.f1 ∧ fit9 x.f2 ∧ fit9 x.f3 ∧ fit4 x.f4 ∧ fit2 x.f5 ∧ fit4 x.f6
theorem op136 : Opn.Opens Tryd.prog 136 PG.k136 fit136 := Opn.opens_struct Tryd.underlying136 (Opn.opensF_cons op2 (by kernel_rfl) rfl (Opn.opensF_cons op9 (by kernel_rfl) rfl (Opn.opensF_cons op9 (by kernel_rfl) rfl (Opn.opensF_cons op9 (by kernel_rfl) rfl (Opn.opensF_cons op4 (by kernel_rfl) rfl (Opn.opensF_cons op2 (by kernel_rfl) rfl (Opn.opensF_one op4 (by kernel_rfl) rfl))))))) (by kernel_rfl) (fun x : PG.S136 => (x.f0, x.f1, x.f2, x.f3, x.f4, x.f5, x.f6)) (fun p => ⟨p.1, p.2.1, p.2.2.1, p.2.2.2.1, p.2.2.2.2.1, p.2.2.2.2.2.1, p.2.2.2.2.2.2⟩) (fun _ => rfl)
def fit29 (l : List (PG.S136)) : Prop := l.length * 80 ≤ 140737488351232 ∧ ∀ x, x ∈ l → fit136 x
theorem op29 : Opn.Opens Tryd.prog 29 (Kd.slice 136 PG.k136) fit29 := Opn.opens_slice Tryd.underlying29 op136 (by kernel_rfl) (by kernel_rfl)
def fit31 (x : PG.S31) : Prop := fit2 x.f0 ∧ fit2 x.f1 ∧ fit29 x.f2
theorem op31 : Opn.Opens Tryd.prog 31 PG.k31 fit31 := Opn.opens_struct Tryd.underlying31 (Opn.opensF_cons op2 (by kernel_rfl) rfl (Opn.opensF_cons op2 (by kernel_rfl) rfl (Opn.opensF_one op29 (by kernel_rfl) rfl))) (by kernel_rfl) (fun x : PG.S31 => (x.f0, x.f1, x.f2)) (fun p => ⟨p.1, p.2.1, p.2.2⟩) (fun _ => rfl)
def fit148 (x : PG.S148) : Prop := fit9 x.f0 ∧ fit9 x.f1
theorem op148 : Opn.Opens Tryd.prog 148 PG.k148 fit148 := Opn.opens_struct Tryd.underlying148 (Opn.opensF_cons op9 (by kernel_rfl) rfl (Opn.opensF_one op9 (by kernel_rfl) rfl)) (by kernel_rfl) (fun x : PG.S148 => (x.f0, x.f1)) (fun p => ⟨p.1, p.2⟩) (fun _ => rfl)
def fit58 (l : List (PG.S148)) : Prop := l.length * 32 ≤ 140737488351232 ∧ ∀ x, x ∈ l → fit148 x
theorem op58 : Opn.Opens Tryd.prog 58 (Kd.slice 148 PG.k148) fit58 := Opn.opens_slice Tryd.underlying58 op148 (by kernel_rfl) (by kernel_rfl)
def fit76 (l : List ByteArray) : Prop := l.length * 16 ≤ 140737488351232 ∧ ∀ x, x ∈ l → fit9 x
theorem op76 : Opn.Opens Tryd.prog 76 (Kd.slice 9 Kd.string) fit76 := Opn.opens_slice Tryd.underlying76 op9 (by kernel_rfl) (by kernel_rfl)
def fit150 (x : PG.S150) : Prop := fit9 x.f0 ∧ fit76 x.f1
theorem op150 : Opn.Opens Tryd.prog 150 PG.k150 fit150 := Opn.opens_struct Tryd.underlying150 (Opn.opensF_cons op9 (by kernel_rfl) rfl (Opn.opensF_one op76 (by kernel_rfl) rfl)) (by kernel_rfl) (fun x : PG.S150 => (x.f0, x.f1)) (fun p => ⟨p.1, p.2⟩) (fun _ => rfl)
def fit59 (l : List (PG.S150)) : Prop := l.length * 40 ≤ 140737488351232 ∧ ∀ x, x ∈ l → fit150 x
theorem op59 : Opn.Opens Tryd.prog 59 (Kd.slice 150 PG.k150) fit59 := Opn.opens_slice Tryd.underlying59 op150 (by kernel_rfl) (by kernel_rfl)
def fit61 (x : PG.S61) : Prop := fit58 x.f0 ∧ fit59 x.f1
theorem op61 : Opn.Opens Tryd.prog 61 PG.k61 fit61 := Opn.opens_struct Tryd.underlying61 (Opn.opensF_cons op58 (by kernel_rfl) rfl (Opn.opensF_one op59 (by kernel_rfl) rfl)) (by kernel_rfl) (fun x : PG.S61 => (x.f0, x.f1)) (fun p => ⟨p.1, p.2⟩) (fun _ => rfl)
def fit47 (l : List (PG.S61)) : Prop := l.length * 48 ≤ 140737488351232 ∧ ∀ x, x ∈ l → fit61 x
theorem op47 : Opn.Opens Tryd.prog 47 (Kd.slice 61 PG.k61) fit47 := Opn.opens_slice Tryd.underlying47 op61 (by kernel_rfl) (by kernel_rfl)
def fit49 (x : PG.S49) : Prop := fit2 x.f0 ∧ fit2 x.f1 ∧ fit47 x.f2
theorem op49 : Opn.Opens Tryd.prog 49 PG.k49 fit49 := Opn.opens_struct Tryd.underlying49 (Opn.opensF_cons op2 (by kernel_rfl) rfl (Opn.opensF_cons op2 (by kernel_rfl) rfl (Opn.opensF_one op47 (by kernel_rfl) rfl))) (by kernel_rfl) (fun x : PG.S49 => (x.f0, x.f1, x.f2)) (fun p => ⟨p.1, p.2.1, p.2.2⟩) (fun _ => rfl)
end Go.Proofs.YtpocoeghobdfiaaDoor.Ft
