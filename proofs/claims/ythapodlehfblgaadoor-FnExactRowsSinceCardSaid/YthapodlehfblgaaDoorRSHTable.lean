/-
  The laws' helpers at Table: sizes, copies, equality, as plain functions. No condition but those stated.
-/
import Derived.Test.YthapodlehfblgaaDoorRSP1
import Derived.Test.YthapodlehfblgaaDoorRSP2
import Derived.Test.YthapodlehfblgaaDoorRSP3
import Derived.Test.YthapodlehfblgaaDoorRSGen
import Derived.Test.YthapodlehfblgaaDoorRSFits
import Derived.Test.YthapodlehfblgaaDoorRSHRow
namespace Go.Proofs.YthapodlehfblgaaDoor.PG
set_option linter.unusedSimpArgs false
set_option linter.unusedVariables false
open Go.RowKit Go.Proofs.YthapodlehfblgaaDoorW.PrintWords Go.Proofs.YthapodlehfblgaaDoorW.PrintLast Go.Proofs.YthapodlehfblgaaDoorW.PrintMore Go.Proofs.YthapodlehfblgaaDoor.Gn Go.Proofs.YthapodlehfblgaaDoor

def conv_Table (x : S49) : S53 := ⟨x.f0, x.f1, x.f2.map conv_Row⟩
def small_Table (x : S49) : Prop := True ∧ True ∧ small_RowS x.f2
theorem sz_Table (x : S49) (hf : Ft.fit49 x) : ∀ acc : Int, 0 ≤ acc → acc ≤ 1048576 → ∃ r, Ev (fun k => laws_szTable.f k x.f0 x.f1 x.f2 acc) r ∧ r ≤ acc ∧ (0 ≤ r → small_Table x) := by
  intro acc a0 a1
  obtain ⟨h0, h1, h2⟩ := hf
  unfold laws_szTable.f
  obtain ⟨b2, hr2, hle2, hs2⟩ := sz_RowS x.f2 h2 acc (by omega) (by omega)
  refine sz_bind (by omega) hr2 hle2 (fun h => by simp only [if_pos h]; exact Ev.now _) (fun p2 => ?_)
  simp only [if_neg (show ¬ b2 < 0 by omega)]
  exact ⟨_, Ev.now _, Int.le_refl _, fun _ => ⟨trivial, trivial, hs2 p2⟩⟩
theorem to_Table (x : S49) (hf : Ft.fit49 x) : Ev (fun k => laws_toTable.f k x.f0 x.f1 x.f2) ((conv_Table x).f0, (conv_Table x).f1, (conv_Table x).f2) := by
  obtain ⟨h0, h1, h2⟩ := hf
  unfold laws_toTable.f
  refine Ev_bind (to_RowS x.f2 h2) ?_
  exact Ev.now _
def lens_Table (y : S53) : Prop := True ∧ True ∧ lens_RowS y.f2
theorem eq_Table (y : S53) (hf : lens_Table y) : Ev (fun k => laws_eqTable.f k y.f0 y.f1 y.f2 y.f0 y.f1 y.f2) true := by
  obtain ⟨h0, h1, h2⟩ := hf
  unfold laws_eqTable.f
  (try simp only [if_true, eq_self_iff_true, bne_self_eq_false, Bool.false_eq_true, if_false, reduceIte, reduceCtorEq])
  refine Ev_bind (eq_RowS y.f2 h2) ?_
  (try simp only [if_true, eq_self_iff_true, bne_self_eq_false, Bool.false_eq_true, if_false, reduceIte, reduceCtorEq])
  exact Ev.now _
theorem lens_conv_Table (x : S49) (h : small_Table x) : lens_Table (conv_Table x) := by
  obtain ⟨h0, h1, h2⟩ := h
  exact ⟨trivial, trivial, lens_conv_RowS _ h2⟩
end Go.Proofs.YthapodlehfblgaaDoor.PG
