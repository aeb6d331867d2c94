/-
  What the laws' arguments are known to fit, and how they open. No condition.
-/
import Derived.KernelRfl
import Derived.Test.YtpocoeghobdfiaaGreatDoorEEOpen
import Derived.Test.YtpocoeghobdfiaaGreatDoorEEP1
namespace Go.Proofs.YtpocoeghobdfiaaGreatDoor.Ft
open Go.RowKit Go.Proofs.YtpocoeghobdfiaaGreatDoorW.PrintWords
def fit2 (n : Int) : Prop := (Lit.int .i64 n).wf = true
theorem op2 : Opn.Opens Tryz.prog 2 (Kd.int .i64) fit2 := Opn.opens_int Tryz.underlying2
def fit9 (s : ByteArray) : Prop := s.size ≤ 140737488351232
theorem op9 : Opn.Opens Tryz.prog 9 Kd.string fit9 := Opn.opens_string Tryz.underlying9
def fit63 (x : PG.S63) : Prop := fit2 x.f0 ∧ fit9 x.f1 ∧ fit2 x.f2
theorem op63 : Opn.Opens Tryz.prog 63 PG.k63 fit63 := Opn.opens_struct Tryz.underlying63 (Opn.opensF_cons op2 (by kernel_rfl) rfl (Opn.opensF_cons op9 (by kernel_rfl) rfl (Opn.opensF_one op2 (by kernel_rfl) rfl))) (by kernel_rfl) (fun x : PG.S63 => (x.f0, x.f1, x.f2)) (fun p => ⟨p.1, p.2.1, p.2.2⟩) (fun _ => rfl)
def fit22 (l : List (PG.S63)) : Prop := l.length * 32 ≤ 140737488351232 ∧ ∀ x, x ∈ l → fit63 x
theorem op22 : Opn.Opens Tryz.prog 22 (Kd.slice 63 PG.k63) fit22 := Opn.opens_slice Tryz.underlying22 op63 (by kernel_rfl) (by kernel_rfl)
def fit102 (x : PG.S102) : Prop := fit9 x.f0 ∧ fit9 x.f1
theorem op102 : Opn.Opens Tryz.prog 102 PG.k102 fit102 := Opn.opens_struct Tryz.underlying102 (Opn.opensF_cons op9 (by kernel_rfl) rfl (Opn.opensF_one op9 (by kernel_rfl) rfl)) (by kernel_rfl) (fun x : PG.S102 => (x.f0, x.f1)) (fun p => ⟨p.1, p.2⟩) (fun _ => rfl)
def fit23 (l : List (PG.S102)) : Prop := l.length * 32 ≤ 140737488351232 ∧ ∀ x, x ∈ l → fit102 x
theorem op23 : Opn.Opens Tryz.prog 23 (Kd.slice 102 PG.k102) fit23 := Opn.opens_slice Tryz.underlying23 op102 (by kernel_rfl) (by kernel_rfl)
def fit44 (l : List ByteArray) : Prop := l.length * 16 ≤ 140737488351232 ∧ ∀ x, x ∈ l → fit9 x
theorem op44 : Opn.Opens Tryz.prog 44 (Kd.slice 9 Kd.string) fit44 := Opn.opens_slice Tryz.underlying44 op9 (by kernel_rfl) (by kernel_rfl)
def fit105 (x : PG.S105) : Prop := fit9 x.f0 ∧ fit44 x.f1
theorem op105 : Opn.Opens Tryz.prog 105 PG.k105 fit105 := Opn.opens_struct Tryz.underlying105 (Opn.opensF_cons op9 (by kernel_rfl) rfl (Opn.opensF_one op44 (by kernel_rfl) rfl)) (by kernel_rfl) (fun x : PG.S105 => (x.f0, x.f1)) (fun p => ⟨p.1, p.2⟩) (fun _ => rfl)
def fit24 (l : List (PG.S105)) : Prop := l.length * 40 ≤ 140737488351232 ∧ ∀ x, x ∈ l → fit105 x
theorem op24 : Opn.Opens Tryz.prog 24 (Kd.slice 105 PG.k105) fit24 := Opn.opens_slice Tryz.underlying24 op105 (by kernel_rfl) (by kernel_rfl)
def fit26 (x : PG.S26) : Prop := fit23 x.f0 ∧ fit24 x.f1
theorem op26 : Opn.Opens Tryz.prog 26 PG.k26 fit26 := Opn.opens_struct Tryz.underlying26 (Opn.opensF_cons op23 (by kernel_rfl) rfl (Opn.opensF_one op24 (by kernel_rfl) rfl)) (by kernel_rfl) (fun x : PG.S26 => (x.f0, x.f1)) (fun p => ⟨p.1, p.2⟩) (fun _ => rfl)
end Go.Proofs.YtpocoeghobdfiaaGreatDoor.Ft
