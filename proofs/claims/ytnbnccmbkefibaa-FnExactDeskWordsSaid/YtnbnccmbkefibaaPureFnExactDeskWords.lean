/-
  The program's DeskWords returns the same words as the reference, and its two results share no memory: the whole run is computed by the kernel. No condition.
-/
import Derived.Test.YtnbnccmbkefibaaPFnExactDeskWordsx1
namespace Go.Proofs.Ytnbnccmbkefibaa.Pure
open Go.RowKit Go.Proofs.Ytnbnccmbkefibaa.PFnExactDeskWords Go.Proofs.YtnbnccmbkefibaaW.PrintWords Go.Proofs.YtnbnccmbkefibaaW.PrintLast

/-- YOURS: ∃ k, laws_FnExactDeskWords.f k  = some true
What it reaches (each with k first where it has rounds; `.mono`: more rounds tell the same; `.l0`, ..: its loops, with `.mono_l`): spec_DeskWords.f, impl_DeskWords.f, laws_eqStringS.f, laws_markText.f, laws_markStringS.f, laws_heldStringS.f, laws_FnExactDeskWords.f -/
theorem FnExactDeskWords : laws_FnExactDeskWords.Pure := by
  exact ⟨20, by kernel_rfl⟩

end Go.Proofs.Ytnbnccmbkefibaa.Pure
