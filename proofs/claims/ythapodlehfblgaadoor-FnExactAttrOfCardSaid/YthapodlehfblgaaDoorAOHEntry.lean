/-
  The laws' helpers at Entry: sizes, copies, equality, as plain functions. No condition but those stated.
-/
import Derived.Test.YthapodlehfblgaaDoorAOP1
import Derived.Test.YthapodlehfblgaaDoorAOGen
import Derived.Test.YthapodlehfblgaaDoorAOFits
import Derived.Test.YthapodlehfblgaaDoorAOHRdn
import Derived.Test.YthapodlehfblgaaDoorAOHAttr
namespace Go.Proofs.YthapodlehfblgaaDoor.PA
set_option linter.unusedSimpArgs false
set_option linter.unusedVariables false
open Go.RowKit Go.Proofs.YthapodlehfblgaaDoorW.PrintWords Go.Proofs.YthapodlehfblgaaDoorW.PrintLast Go.Proofs.YthapodlehfblgaaDoorW.PrintMore Go.Proofs.YthapodlehfblgaaDoor.Gn Go.Proofs.YthapodlehfblgaaDoor

def conv_Entry (x : S25) : S32 := ⟨x.f0.map conv_Rdn, x.f1.map conv_Attr⟩
def small_Entry (x : S25) : Prop := small_RdnS x.f0 ∧ small_AttrS x.f1
theorem sz_Entry (x : S25) (hf : Ft.fit25 x) : ∀ acc : Int, 0 ≤ acc → acc ≤ 1048576 → ∃ r, Ev (fun k => laws_szEntry.f k x.f0 x.f1 acc) r ∧ r ≤ acc ∧ (0 ≤ r → small_Entry x) := by
  intro acc a0 a1
  obtain ⟨h0, h1⟩ := hf
  unfold laws_szEntry.f
  obtain ⟨b0, hr0, hle0, hs0⟩ := sz_RdnS x.f0 h0 acc (by omega) (by omega)
  refine sz_bind (by omega) hr0 hle0 (fun h => by simp only [if_pos h]; exact Ev.now _) (fun p0 => ?_)
  simp only [if_neg (show ¬ b0 < 0 by omega)]
  obtain ⟨b1, hr1, hle1, hs1⟩ := sz_AttrS x.f1 h1 b0 (by omega) (by omega)
  refine sz_bind (by omega) hr1 hle1 (fun h => by simp only [if_pos h]; exact Ev.now _) (fun p1 => ?_)
  simp only [if_neg (show ¬ b1 < 0 by omega)]
  exact ⟨_, Ev.now _, Int.le_refl _, fun _ => ⟨hs0 p0, hs1 p1⟩⟩
theorem to_Entry (x : S25) (hf : Ft.fit25 x) : Ev (fun k => laws_toEntry.f k x.f0 x.f1) ((conv_Entry x).f0, (conv_Entry x).f1) := by
  obtain ⟨h0, h1⟩ := hf
  unfold laws_toEntry.f
  refine Ev_bind (to_RdnS x.f0 h0) ?_
  refine Ev_bind (to_AttrS x.f1 h1) ?_
  exact Ev.now _
def lens_Entry (y : S32) : Prop := lens_RdnS y.f0 ∧ lens_AttrS y.f1
theorem eq_Entry (y : S32) (hf : lens_Entry y) : Ev (fun k => laws_eqEntry.f k y.f0 y.f1 y.f0 y.f1) true := by
  obtain ⟨h0, h1⟩ := hf
  unfold laws_eqEntry.f
  (try simp only [if_true, eq_self_iff_true, bne_self_eq_false, Bool.false_eq_true, if_false, reduceIte, reduceCtorEq])
  refine Ev_bind (eq_RdnS y.f0 h0) ?_
  (try simp only [if_true, eq_self_iff_true, bne_self_eq_false, Bool.false_eq_true, if_false, reduceIte, reduceCtorEq])
  refine Ev_bind (eq_AttrS y.f1 h1) ?_
  (try simp only [if_true, eq_self_iff_true, bne_self_eq_false, Bool.false_eq_true, if_false, reduceIte, reduceCtorEq])
  exact Ev.now _
theorem lens_conv_Entry (x : S25) (h : small_Entry x) : lens_Entry (conv_Entry x) := by
  obtain ⟨h0, h1⟩ := h
  exact ⟨lens_conv_RdnS _ h0, lens_conv_AttrS _ h1⟩
end Go.Proofs.YthapodlehfblgaaDoor.PA
