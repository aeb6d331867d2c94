/-
  Marks of []Rdn: what laws.markRdnS writes is what laws.heldRdnS finds. Plain Lean over the printed functions.
-/
import Derived.Test.YtfikhgiiccbbfaaLAP2
import Derived.Test.YtfikhgiiccbbfaaLAMark
namespace Go.Proofs.Ytfikhgiiccbbfaa.PH
set_option linter.unusedVariables false
set_option linter.unusedSimpArgs false
open Go.RowKit Go.Proofs.YtfikhgiiccbbfaaW.PrintWords Go.Proofs.YtfikhgiiccbbfaaW.PrintLast Go.Proofs.YtfikhgiiccbbfaaW.PrintMore Go.Proofs.Ytfikhgiiccbbfaa.Gn

noncomputable def mk_Rdn (x : Int) : S119 := ⟨markT (x), markT (x + 1)⟩
theorem mark_Rdn_step (xs : List S119) (x : Int) (i : Nat) (r : Int × List S119) (hi : i < xs.length) (hl : xs.length ≤ 4000000000000000000) (h0 : 0 ≤ x) (hB : x + 2 ≤ 4000000000000000000) (h : Ev (fun k => laws_markRdnS.l0 k (xs.set i (mk_Rdn x)) (x + 2) ((i + 1 : Nat) : Int)) r) : Ev (fun k => laws_markRdnS.l0 k xs x (i : Int)) r := by
  have hi1 : (i : Int) < (xs.length : Int) := by omega
  have hi2 : 0 ≤ (i : Int) := by omega
  have b0 : x ≤ 4000000000000000000 := by omega
  have b1 : x + 1 ≤ 4000000000000000000 := by omega
  have e1 : wrap64 (x + 1) = x + 1 := mark_wrap h0 hB (rfl) (by decide)
  have e2 : wrap64 (x + 1 + 1) = x + 2 := mark_wrap h0 hB (by rw [Int.add_assoc]; rfl) (by decide)
  have e0 : wrap64 ((i : Int) + 1) = ((i + 1 : Nat) : Int) := mark_succ hi hl
  have hrd : ∀ v : S119, rd_T119 (xs.set i v) (i : Int) = v := fun v => by
    unfold rd_T119
    rw [Int.toNat_natCast, getD_at (by rw [List.length_set]; exact hi), List.getElem_set_self]
  have hstep : ∀ k, laws_markRdnS.l0 (k + 1) xs x (i : Int) = ((laws_markText.f k (x)).bind fun t0 => ((laws_markText.f k (x + 1)).bind fun t1 => laws_markRdnS.l0 k (xs.set i ⟨t0, t1⟩) (x + 2) ((i + 1 : Nat) : Int))) := fun k => by
    simp only [laws_markRdnS.l0, if_pos hi1, if_pos hi2, e1, e2, e0, Option.bind_some, hrd, List.set_set, Int.toNat_natCast]
  refine Ev.step hstep ?_
  refine Ev_bind (markT_ev b0) ?_
  refine Ev_bind (markT_ev b1) ?_
  exact h
theorem mark_Rdn (xs : List S119) (x : Int) (hl : xs.length ≤ 4000000000000000000) (h0 : 0 ≤ x) (hB : x + 2 * xs.length ≤ 4000000000000000000) : Ev (fun k => laws_markRdnS.f k xs x) (x + 2 * xs.length, mkL mk_Rdn 2 x xs.length) := by
  have h := mark_loop 2 mk_Rdn (fun k xs x i => laws_markRdnS.l0 k xs x i) 4000000000000000000 (fun k xs x i hi => by simp only [laws_markRdnS.l0]; rw [if_neg (by omega)]) (fun xs x i r hi hl h0 hB h => mark_Rdn_step xs x i r hi hl h0 hB h) xs.length 0 xs x (by omega) hl h0 hB
  exact Ev.congr (fun k => by unfold laws_markRdnS.f; rfl) h
theorem held_Rdn_step (xs : List S119) (x : Int) (i : Nat) (r : Int) (hi : i < xs.length) (hl : xs.length ≤ 4000000000000000000) (h0 : 0 ≤ x) (hB : x + 2 ≤ 4000000000000000000) (hx : xs[i]'hi = mk_Rdn x) (h : Ev (fun k => laws_heldRdnS.l0 k xs (x + 2) ((i + 1 : Nat) : Int)) r) : Ev (fun k => laws_heldRdnS.l0 k xs x (i : Int)) r := by
  have hi1 : (i : Int) < (xs.length : Int) := by omega
  have hi2 : 0 ≤ (i : Int) := by omega
  have b0 : x ≤ 4000000000000000000 := by omega
  have b1 : x + 1 ≤ 4000000000000000000 := by omega
  have e1 : wrap64 (x + 1) = x + 1 := mark_wrap h0 hB (rfl) (by decide)
  have e2 : wrap64 (x + 1 + 1) = x + 2 := mark_wrap h0 hB (by rw [Int.add_assoc]; rfl) (by decide)
  have e0 : wrap64 ((i : Int) + 1) = ((i + 1 : Nat) : Int) := mark_succ hi hl
  have hrd : rd_T119 xs (i : Int) = ⟨markT (x), markT (x + 1)⟩ := by
    unfold rd_T119
    rw [Int.toNat_natCast, getD_at hi, hx]
    rfl
  have hstep : ∀ k, laws_heldRdnS.l0 (k + 1) xs x (i : Int) = ((laws_markText.f k (x)).bind fun t0 => if (markT (x)).toList = t0.toList then ((laws_markText.f k (x + 1)).bind fun t1 => if (markT (x + 1)).toList = t1.toList then laws_heldRdnS.l0 k xs (x + 2) ((i + 1 : Nat) : Int) else some (-1)) else some (-1)) := fun k => by
    simp only [laws_heldRdnS.l0, if_pos hi1, if_pos hi2, e1, e2, e0, hrd, bne_self_eq_false, Bool.false_eq_true, if_false, if_true, eq_self_iff_true]
  refine Ev.step hstep ?_
  refine Ev_bind (markT_ev b0) ?_
  refine Ev.congr (fun k => by rw [if_pos rfl]) ?_
  refine Ev_bind (markT_ev b1) ?_
  refine Ev.congr (fun k => by rw [if_pos rfl]) ?_
  exact h
theorem held_Rdn (m : Nat) (x : Int) (hl : m ≤ 4000000000000000000) (h0 : 0 ≤ x) (hB : x + 2 * m ≤ 4000000000000000000) : Ev (fun k => laws_heldRdnS.f k (mkL mk_Rdn 2 x m) x) (x + 2 * m) := by
  have h := held_loop 2 mk_Rdn (fun k xs x i => laws_heldRdnS.l0 k xs x i) 4000000000000000000 (fun k xs x i hi => by simp only [laws_heldRdnS.l0]; rw [if_neg (by omega)]) (fun xs x i r hi hl h0 hB hx h => held_Rdn_step xs x i r hi hl h0 hB hx h) m 0 (mkL mk_Rdn 2 x m) x (by rw [mkL_length]; omega) (by rw [mkL_length]; exact hl) h0 hB rfl
  exact Ev.congr (fun k => by unfold laws_heldRdnS.f; rfl) h
end Go.Proofs.Ytfikhgiiccbbfaa.PH
