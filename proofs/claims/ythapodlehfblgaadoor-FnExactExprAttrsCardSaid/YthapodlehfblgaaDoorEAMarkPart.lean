/-
  Marks of []Part: what laws.markPartS writes is what laws.heldPartS finds. Plain Lean over the printed functions.
-/
import Derived.Test.YthapodlehfblgaaDoorEAP2
import Derived.Test.YthapodlehfblgaaDoorEAMark
namespace Go.Proofs.YthapodlehfblgaaDoor.PG
set_option linter.unusedVariables false
set_option linter.unusedSimpArgs false
open Go.RowKit Go.Proofs.YthapodlehfblgaaDoorW.PrintWords Go.Proofs.YthapodlehfblgaaDoorW.PrintLast Go.Proofs.YthapodlehfblgaaDoorW.PrintMore Go.Proofs.YthapodlehfblgaaDoor.Gn

noncomputable def mk_Part (x : Int) : S82 := ⟨x, markT (x + 1), x + 2⟩
theorem mark_Part_step (xs : List S82) (x : Int) (i : Nat) (r : Int × List S82) (hi : i < xs.length) (hl : xs.length ≤ 1099511627776) (h0 : 0 ≤ x) (hB : x + 3 ≤ 1099511627776) (h : Ev (fun k => laws_markPartS.l0 k (xs.set i (mk_Part x)) (x + 3) ((i + 1 : Nat) : Int)) r) : Ev (fun k => laws_markPartS.l0 k xs x (i : Int)) r := by
  have hi1 : (i : Int) < (xs.length : Int) := by omega
  have hi2 : 0 ≤ (i : Int) := by omega
  have b1 : x + 1 ≤ 1099511627776 := by omega
  have e1 : wrap64 (x + 1) = x + 1 := mark_wrap h0 hB (rfl) (by decide)
  have e2 : wrap64 (x + 1 + 1) = x + 2 := mark_wrap h0 hB (by rw [Int.add_assoc]; rfl) (by decide)
  have e3 : wrap64 (x + 2 + 1) = x + 3 := mark_wrap h0 hB (by rw [Int.add_assoc]; rfl) (by decide)
  have e0 : wrap64 ((i : Int) + 1) = ((i + 1 : Nat) : Int) := mark_succ hi hl
  have hrd : ∀ v : S82, rd_T82 (xs.set i v) (i : Int) = v := fun v => by
    unfold rd_T82
    rw [Int.toNat_natCast, getD_at (by rw [List.length_set]; exact hi), List.getElem_set_self]
  have hstep : ∀ k, laws_markPartS.l0 (k + 1) xs x (i : Int) = ((laws_markText.f k (x + 1)).bind fun t1 => laws_markPartS.l0 k (xs.set i ⟨x, t1, x + 2⟩) (x + 3) ((i + 1 : Nat) : Int)) := fun k => by
    simp only [laws_markPartS.l0, if_pos hi1, if_pos hi2, e1, e2, e3, e0, Option.bind_some, hrd, List.set_set, Int.toNat_natCast]
  refine Ev.step hstep ?_
  refine Ev_bind (markT_ev b1) ?_
  exact h
theorem mark_Part (xs : List S82) (x : Int) (hl : xs.length ≤ 1099511627776) (h0 : 0 ≤ x) (hB : x + 3 * xs.length ≤ 1099511627776) : Ev (fun k => laws_markPartS.f k xs x) (x + 3 * xs.length, mkL mk_Part 3 x xs.length) := by
  have h := mark_loop 3 mk_Part (fun k xs x i => laws_markPartS.l0 k xs x i) 1099511627776 (fun k xs x i hi => by simp only [laws_markPartS.l0]; rw [if_neg (by omega)]) (fun xs x i r hi hl h0 hB h => mark_Part_step xs x i r hi hl h0 hB h) xs.length 0 xs x (by omega) hl h0 hB
  exact Ev.congr (fun k => by unfold laws_markPartS.f; rfl) h
end Go.Proofs.YthapodlehfblgaaDoor.PG
