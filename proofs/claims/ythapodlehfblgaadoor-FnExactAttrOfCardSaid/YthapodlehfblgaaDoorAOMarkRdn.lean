/-
  Marks of []Rdn: what laws.markRdnS writes is what laws.heldRdnS finds. Plain Lean over the printed functions.
-/
import Derived.Test.YthapodlehfblgaaDoorAOP2
import Derived.Test.YthapodlehfblgaaDoorAOMark
namespace Go.Proofs.YthapodlehfblgaaDoor.PA
set_option linter.unusedVariables false
set_option linter.unusedSimpArgs false
open Go.RowKit Go.Proofs.YthapodlehfblgaaDoorW.PrintWords Go.Proofs.YthapodlehfblgaaDoorW.PrintLast Go.Proofs.YthapodlehfblgaaDoorW.PrintMore Go.Proofs.YthapodlehfblgaaDoor.Gn

noncomputable def mk_Rdn (x : Int) : S103 := ⟨markT (x), markT (x + 1)⟩
theorem mark_Rdn_step (xs : List S103) (x : Int) (i : Nat) (r : Int × List S103) (hi : i < xs.length) (hl : xs.length ≤ 1000000000000000) (h0 : 0 ≤ x) (hB : x + 2 ≤ 1000000000000000) (h : Ev (fun k => laws_markRdnS.l0 k (xs.set i (mk_Rdn x)) (x + 2) ((i + 1 : Nat) : Int)) r) : Ev (fun k => laws_markRdnS.l0 k xs x (i : Int)) r := by
  have hi1 : (i : Int) < (xs.length : Int) := by omega
  have hi2 : 0 ≤ (i : Int) := by omega
  have b0 : x ≤ 1000000000000000 := by omega
  have b1 : x + 1 ≤ 1000000000000000 := by omega
  have e1 : wrap64 (x + 1) = x + 1 := mark_wrap h0 hB (rfl) (by decide)
  have e2 : wrap64 (x + 1 + 1) = x + 2 := mark_wrap h0 hB (by rw [Int.add_assoc]; rfl) (by decide)
  have e0 : wrap64 ((i : Int) + 1) = ((i + 1 : Nat) : Int) := mark_succ hi hl
  have hrd : ∀ v : S103, rd_T103 (xs.set i v) (i : Int) = v := fun v => by
    unfold rd_T103
    rw [Int.toNat_natCast, getD_at (by rw [List.length_set]; exact hi), List.getElem_set_self]
  have hstep : ∀ k, laws_markRdnS.l0 (k + 1) xs x (i : Int) = ((laws_markText.f k (x)).bind fun t0 => ((laws_markText.f k (x + 1)).bind fun t1 => laws_markRdnS.l0 k (xs.set i ⟨t0, t1⟩) (x + 2) ((i + 1 : Nat) : Int))) := fun k => by
    simp only [laws_markRdnS.l0, if_pos hi1, if_pos hi2, e1, e2, e0, Option.bind_some, hrd, List.set_set, Int.toNat_natCast]
  refine Ev.step hstep ?_
  refine Ev_bind (markT_ev b0) ?_
  refine Ev_bind (markT_ev b1) ?_
  exact h
theorem mark_Rdn (xs : List S103) (x : Int) (hl : xs.length ≤ 1000000000000000) (h0 : 0 ≤ x) (hB : x + 2 * xs.length ≤ 1000000000000000) : Ev (fun k => laws_markRdnS.f k xs x) (x + 2 * xs.length, mkL mk_Rdn 2 x xs.length) := by
  have h := mark_loop 2 mk_Rdn (fun k xs x i => laws_markRdnS.l0 k xs x i) 1000000000000000 (fun k xs x i hi => by simp only [laws_markRdnS.l0]; rw [if_neg (by omega)]) (fun xs x i r hi hl h0 hB h => mark_Rdn_step xs x i r hi hl h0 hB h) xs.length 0 xs x (by omega) hl h0 hB
  exact Ev.congr (fun k => by unfold laws_markRdnS.f; rfl) h
end Go.Proofs.YthapodlehfblgaaDoor.PA
