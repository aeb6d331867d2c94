/-
  The program's TableNew returns the same table as the reference, and its two results share no memory: the whole run is computed by the kernel. No condition.
-/
import Derived.Test.YtnbnccmbkefibaaPFnExactTableNewx4
namespace Go.Proofs.Ytnbnccmbkefibaa.Pure
open Go.RowKit Go.Proofs.Ytnbnccmbkefibaa.PFnExactTableNew Go.Proofs.YtnbnccmbkefibaaW.PrintWords Go.Proofs.YtnbnccmbkefibaaW.PrintLast

/-- YOURS: ∃ k, laws_FnExactTableNew.f k  = some true
What it reaches (each with k first where it has rounds; `.mono`: more rounds tell the same; `.l0`, ..: its loops, with `.mono_l`): spec_TableNew.f, impl_TableNew.f, laws_eqRow.f, laws_eqRowS.f, laws_eqTable.f, laws_markText.f, laws_markRowS.f, laws_markTable.f, laws_heldRowS.f, laws_heldTable.f, laws_FnExactTableNew.f -/
theorem FnExactTableNew : laws_FnExactTableNew.Pure := by
  exact ⟨20, by kernel_rfl⟩

end Go.Proofs.Ytnbnccmbkefibaa.Pure
