/-
  What the laws' arguments are known to fit, and how they open. No condition.
-/
import Derived.KernelRfl
import Derived.Test.YtnbnccmbkefibaaSCOpen
import Derived.Test.YtnbnccmbkefibaaSCP1
namespace Go.Proofs.Ytnbnccmbkefibaa.Ft
open Go.RowKit Go.Proofs.YtnbnccmbkefibaaW.PrintWords
def fit9 (s : ByteArray) : Prop := s.size ≤ 140737488351232
theorem op9 : Opn.Opens Try.prog 9 Kd.string fit9 := Opn.opens_string Try.underlying9
def fit2 (n : Int) : Prop := (Lit.int .i64 n).wf = true
theorem op2 : Opn.Opens Try.prog 2 (Kd.int .i64) fit2 := Opn.opens_int Try.underlying2
def fit28 (x : PSC.S28) : Prop := fit9 x.f0 ∧ fit2 x.f1
theorem op28 : Opn.Opens Try.prog 28 PSC.k28 fit28 := Opn.opens_struct Try.underlying28 (Opn.opensF_cons op9 (by kernel_rfl) rfl (Opn.opensF_one op2 (by kernel_rfl) rfl)) (by kernel_rfl) (fun x : PSC.S28 => (x.f0, x.f1)) (fun p => ⟨p.1, p.2⟩) (fun _ => rfl)
end Go.Proofs.Ytnbnccmbkefibaa.Ft
