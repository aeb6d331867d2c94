/-
  Marks of []Want: what laws.markWantS writes is what laws.heldWantS finds. Plain Lean over the printed functions.
-/
import Derived.Test.YtbgikfahcppkfaaSOP1
import Derived.Test.YtbgikfahcppkfaaSOP2
import Derived.Test.YtbgikfahcppkfaaSOMark
namespace Go.Proofs.Ytbgikfahcppkfaa.PG
set_option linter.unusedVariables false
set_option linter.unusedSimpArgs false
open Go.RowKit Go.Proofs.YtbgikfahcppkfaaW.PrintWords Go.Proofs.YtbgikfahcppkfaaW.PrintLast Go.Proofs.YtbgikfahcppkfaaW.PrintMore Go.Proofs.Ytbgikfahcppkfaa.Gn

noncomputable def mk_Want (x : Int) : S77 := ⟨markT (x), markT (x + 1), markT (x + 2), markT (x + 3), x + 4⟩
theorem mark_Want_step (xs : List S77) (x : Int) (i : Nat) (r : Int × List S77) (hi : i < xs.length) (hl : xs.length ≤ 1000000000000000) (h0 : 0 ≤ x) (hB : x + 5 ≤ 1000000000000000) (h : Ev (fun k => laws_markWantS.l0 k (xs.set i (mk_Want x)) (x + 5) ((i + 1 : Nat) : Int)) r) : Ev (fun k => laws_markWantS.l0 k xs x (i : Int)) r := by
  have hi1 : (i : Int) < (xs.length : Int) := by omega
  have hi2 : 0 ≤ (i : Int) := by omega
  have b0 : x ≤ 1000000000000000 := by omega
  have b1 : x + 1 ≤ 1000000000000000 := by omega
  have b2 : x + 2 ≤ 1000000000000000 := by omega
  have b3 : x + 3 ≤ 1000000000000000 := by omega
  have e1 : wrap64 (x + 1) = x + 1 := mark_wrap h0 hB (rfl) (by decide)
  have e2 : wrap64 (x + 1 + 1) = x + 2 := mark_wrap h0 hB (by rw [Int.add_assoc]; rfl) (by decide)
  have e3 : wrap64 (x + 2 + 1) = x + 3 := mark_wrap h0 hB (by rw [Int.add_assoc]; rfl) (by decide)
  have e4 : wrap64 (x + 3 + 1) = x + 4 := mark_wrap h0 hB (by rw [Int.add_assoc]; rfl) (by decide)
  have e5 : wrap64 (x + 4 + 1) = x + 5 := mark_wrap h0 hB (by rw [Int.add_assoc]; rfl) (by decide)
  have e0 : wrap64 ((i : Int) + 1) = ((i + 1 : Nat) : Int) := mark_succ hi hl
  have hrd : ∀ v : S77, rd_T77 (xs.set i v) (i : Int) = v := fun v => by
    unfold rd_T77
    rw [Int.toNat_natCast, getD_at (by rw [List.length_set]; exact hi), List.getElem_set_self]
  have hstep : ∀ k, laws_markWantS.l0 (k + 1) xs x (i : Int) = ((laws_markText.f k (x)).bind fun t0 => ((laws_markText.f k (x + 1)).bind fun t1 => ((laws_markText.f k (x + 2)).bind fun t2 => ((laws_markText.f k (x + 3)).bind fun t3 => laws_markWantS.l0 k (xs.set i ⟨t0, t1, t2, t3, x + 4⟩) (x + 5) ((i + 1 : Nat) : Int))))) := fun k => by
    simp only [laws_markWantS.l0, if_pos hi1, if_pos hi2, e1, e2, e3, e4, e5, e0, Option.bind_some, hrd, List.set_set, Int.toNat_natCast]
  refine Ev.step hstep ?_
  refine Ev_bind (markT_ev b0) ?_
  refine Ev_bind (markT_ev b1) ?_
  refine Ev_bind (markT_ev b2) ?_
  refine Ev_bind (markT_ev b3) ?_
  exact h
theorem mark_Want (xs : List S77) (x : Int) (hl : xs.length ≤ 1000000000000000) (h0 : 0 ≤ x) (hB : x + 5 * xs.length ≤ 1000000000000000) : Ev (fun k => laws_markWantS.f k xs x) (x + 5 * xs.length, mkL mk_Want 5 x xs.length) := by
  have h := mark_loop 5 mk_Want (fun k xs x i => laws_markWantS.l0 k xs x i) 1000000000000000 (fun k xs x i hi => by simp only [laws_markWantS.l0]; rw [if_neg (by omega)]) (fun xs x i r hi hl h0 hB h => mark_Want_step xs x i r hi hl h0 hB h) xs.length 0 xs x (by omega) hl h0 hB
  exact Ev.congr (fun k => by unfold laws_markWantS.f; rfl) h
theorem held_Want_step (xs : List S77) (x : Int) (i : Nat) (r : Int) (hi : i < xs.length) (hl : xs.length ≤ 1000000000000000) (h0 : 0 ≤ x) (hB : x + 5 ≤ 1000000000000000) (hx : xs[i]'hi = mk_Want x) (h : Ev (fun k => laws_heldWantS.l0 k xs (x + 5) ((i + 1 : Nat) : Int)) r) : Ev (fun k => laws_heldWantS.l0 k xs x (i : Int)) r := by
  have hi1 : (i : Int) < (xs.length : Int) := by omega
  have hi2 : 0 ≤ (i : Int) := by omega
  have b0 : x ≤ 1000000000000000 := by omega
  have b1 : x + 1 ≤ 1000000000000000 := by omega
  have b2 : x + 2 ≤ 1000000000000000 := by omega
  have b3 : x + 3 ≤ 1000000000000000 := by omega
  have e1 : wrap64 (x + 1) = x + 1 := mark_wrap h0 hB (rfl) (by decide)
  have e2 : wrap64 (x + 1 + 1) = x + 2 := mark_wrap h0 hB (by rw [Int.add_assoc]; rfl) (by decide)
  have e3 : wrap64 (x + 2 + 1) = x + 3 := mark_wrap h0 hB (by rw [Int.add_assoc]; rfl) (by decide)
  have e4 : wrap64 (x + 3 + 1) = x + 4 := mark_wrap h0 hB (by rw [Int.add_assoc]; rfl) (by decide)
  have e5 : wrap64 (x + 4 + 1) = x + 5 := mark_wrap h0 hB (by rw [Int.add_assoc]; rfl) (by decide)
  have e0 : wrap64 ((i : Int) + 1) = ((i + 1 : Nat) : Int) := mark_succ hi hl
  have hrd : rd_T77 xs (i : Int) = ⟨markT (x), markT (x + 1), markT (x + 2), markT (x + 3), x + 4⟩ := by
    unfold rd_T77
    rw [Int.toNat_natCast, getD_at hi, hx]
    rfl
  have hstep : ∀ k, laws_heldWantS.l0 (k + 1) xs x (i : Int) = ((laws_markText.f k (x)).bind fun t0 => if (markT (x)).toList = t0.toList then ((laws_markText.f k (x + 1)).bind fun t1 => if (markT (x + 1)).toList = t1.toList then ((laws_markText.f k (x + 2)).bind fun t2 => if (markT (x + 2)).toList = t2.toList then ((laws_markText.f k (x + 3)).bind fun t3 => if (markT (x + 3)).toList = t3.toList then laws_heldWantS.l0 k xs (x + 5) ((i + 1 : Nat) : Int) else some (-1)) else some (-1)) else some (-1)) else some (-1)) := fun k => by
    simp only [laws_heldWantS.l0, if_pos hi1, if_pos hi2, e1, e2, e3, e4, e5, e0, hrd, bne_self_eq_false, Bool.false_eq_true, if_false, if_true, eq_self_iff_true]
  refine Ev.step hstep ?_
  refine Ev_bind (markT_ev b0) ?_
  refine Ev.congr (fun k => by rw [if_pos rfl]) ?_
  refine Ev_bind (markT_ev b1) ?_
  refine Ev.congr (fun k => by rw [if_pos rfl]) ?_
  refine Ev_bind (markT_ev b2) ?_
  refine Ev.congr (fun k => by rw [if_pos rfl]) ?_
  refine Ev_bind (markT_ev b3) ?_
  refine Ev.congr (fun k => by rw [if_pos rfl]) ?_
  exact h
theorem held_Want (m : Nat) (x : Int) (hl : m ≤ 1000000000000000) (h0 : 0 ≤ x) (hB : x + 5 * m ≤ 1000000000000000) : Ev (fun k => laws_heldWantS.f k (mkL mk_Want 5 x m) x) (x + 5 * m) := by
  have h := held_loop 5 mk_Want (fun k xs x i => laws_heldWantS.l0 k xs x i) 1000000000000000 (fun k xs x i hi => by simp only [laws_heldWantS.l0]; rw [if_neg (by omega)]) (fun xs x i r hi hl h0 hB hx h => held_Want_step xs x i r hi hl h0 hB hx h) m 0 (mkL mk_Want 5 x m) x (by rw [mkL_length]; omega) (by rw [mkL_length]; exact hl) h0 hB rfl
  exact Ev.congr (fun k => by unfold laws_heldWantS.f; rfl) h
end Go.Proofs.Ytbgikfahcppkfaa.PG
