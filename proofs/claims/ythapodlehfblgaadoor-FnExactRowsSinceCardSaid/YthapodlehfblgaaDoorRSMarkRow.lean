/-
  Marks of []Row: what laws.markRowS writes is what laws.heldRowS finds. Plain Lean over the printed functions.
-/
import Derived.Test.YthapodlehfblgaaDoorRSP3
import Derived.Test.YthapodlehfblgaaDoorRSMark
namespace Go.Proofs.YthapodlehfblgaaDoor.PG
set_option linter.unusedVariables false
set_option linter.unusedSimpArgs false
open Go.RowKit Go.Proofs.YthapodlehfblgaaDoorW.PrintWords Go.Proofs.YthapodlehfblgaaDoorW.PrintLast Go.Proofs.YthapodlehfblgaaDoorW.PrintMore Go.Proofs.YthapodlehfblgaaDoor.Gn

noncomputable def mk_Row (x : Int) : S55 := ⟨x, markT (x + 1), markT (x + 2), markT (x + 3), (Int.tmod (x + 4) 3 == 0), x + 5, (Int.tmod (x + 6) 3 == 0)⟩
theorem mark_Row_step (xs : List S55) (x : Int) (i : Nat) (r : Int × List S55) (hi : i < xs.length) (hl : xs.length ≤ 1099511627776) (h0 : 0 ≤ x) (hB : x + 7 ≤ 1099511627776) (h : Ev (fun k => laws_markRowS.l0 k (xs.set i (mk_Row x)) (x + 7) ((i + 1 : Nat) : Int)) r) : Ev (fun k => laws_markRowS.l0 k xs x (i : Int)) r := by
  have hi1 : (i : Int) < (xs.length : Int) := by omega
  have hi2 : 0 ≤ (i : Int) := by omega
  have b1 : x + 1 ≤ 1099511627776 := by omega
  have b2 : x + 2 ≤ 1099511627776 := by omega
  have b3 : x + 3 ≤ 1099511627776 := by omega
  have e1 : wrap64 (x + 1) = x + 1 := mark_wrap h0 hB (rfl) (by decide)
  have e2 : wrap64 (x + 1 + 1) = x + 2 := mark_wrap h0 hB (by rw [Int.add_assoc]; rfl) (by decide)
  have e3 : wrap64 (x + 2 + 1) = x + 3 := mark_wrap h0 hB (by rw [Int.add_assoc]; rfl) (by decide)
  have e4 : wrap64 (x + 3 + 1) = x + 4 := mark_wrap h0 hB (by rw [Int.add_assoc]; rfl) (by decide)
  have e5 : wrap64 (x + 4 + 1) = x + 5 := mark_wrap h0 hB (by rw [Int.add_assoc]; rfl) (by decide)
  have e6 : wrap64 (x + 5 + 1) = x + 6 := mark_wrap h0 hB (by rw [Int.add_assoc]; rfl) (by decide)
  have e7 : wrap64 (x + 6 + 1) = x + 7 := mark_wrap h0 hB (by rw [Int.add_assoc]; rfl) (by decide)
  have e0 : wrap64 ((i : Int) + 1) = ((i + 1 : Nat) : Int) := mark_succ hi hl
  have hrd : ∀ v : S55, rd_T55 (xs.set i v) (i : Int) = v := fun v => by
    unfold rd_T55
    rw [Int.toNat_natCast, getD_at (by rw [List.length_set]; exact hi), List.getElem_set_self]
  have hstep : ∀ k, laws_markRowS.l0 (k + 1) xs x (i : Int) = ((laws_markText.f k (x + 1)).bind fun t1 => ((laws_markText.f k (x + 2)).bind fun t2 => ((laws_markText.f k (x + 3)).bind fun t3 => laws_markRowS.l0 k (xs.set i ⟨x, t1, t2, t3, (Int.tmod (x + 4) 3 == 0), x + 5, (Int.tmod (x + 6) 3 == 0)⟩) (x + 7) ((i + 1 : Nat) : Int)))) := fun k => by
    simp only [laws_markRowS.l0, if_pos hi1, if_pos hi2, e1, e2, e3, e4, e5, e6, e7, e0, Option.bind_some, hrd, List.set_set, Int.toNat_natCast]
  refine Ev.step hstep ?_
  refine Ev_bind (markT_ev b1) ?_
  refine Ev_bind (markT_ev b2) ?_
  refine Ev_bind (markT_ev b3) ?_
  exact h
theorem mark_Row (xs : List S55) (x : Int) (hl : xs.length ≤ 1099511627776) (h0 : 0 ≤ x) (hB : x + 7 * xs.length ≤ 1099511627776) : Ev (fun k => laws_markRowS.f k xs x) (x + 7 * xs.length, mkL mk_Row 7 x xs.length) := by
  have h := mark_loop 7 mk_Row (fun k xs x i => laws_markRowS.l0 k xs x i) 1099511627776 (fun k xs x i hi => by simp only [laws_markRowS.l0]; rw [if_neg (by omega)]) (fun xs x i r hi hl h0 hB h => mark_Row_step xs x i r hi hl h0 hB h) xs.length 0 xs x (by omega) hl h0 hB
  exact Ev.congr (fun k => by unfold laws_markRowS.f; rfl) h
theorem held_Row_step (xs : List S55) (x : Int) (i : Nat) (r : Int) (hi : i < xs.length) (hl : xs.length ≤ 1099511627776) (h0 : 0 ≤ x) (hB : x + 7 ≤ 1099511627776) (hx : xs[i]'hi = mk_Row x) (h : Ev (fun k => laws_heldRowS.l0 k xs (x + 7) ((i + 1 : Nat) : Int)) r) : Ev (fun k => laws_heldRowS.l0 k xs x (i : Int)) r := by
  have hi1 : (i : Int) < (xs.length : Int) := by omega
  have hi2 : 0 ≤ (i : Int) := by omega
  have b1 : x + 1 ≤ 1099511627776 := by omega
  have b2 : x + 2 ≤ 1099511627776 := by omega
  have b3 : x + 3 ≤ 1099511627776 := by omega
  have e1 : wrap64 (x + 1) = x + 1 := mark_wrap h0 hB (rfl) (by decide)
  have e2 : wrap64 (x + 1 + 1) = x + 2 := mark_wrap h0 hB (by rw [Int.add_assoc]; rfl) (by decide)
  have e3 : wrap64 (x + 2 + 1) = x + 3 := mark_wrap h0 hB (by rw [Int.add_assoc]; rfl) (by decide)
  have e4 : wrap64 (x + 3 + 1) = x + 4 := mark_wrap h0 hB (by rw [Int.add_assoc]; rfl) (by decide)
  have e5 : wrap64 (x + 4 + 1) = x + 5 := mark_wrap h0 hB (by rw [Int.add_assoc]; rfl) (by decide)
  have e6 : wrap64 (x + 5 + 1) = x + 6 := mark_wrap h0 hB (by rw [Int.add_assoc]; rfl) (by decide)
  have e7 : wrap64 (x + 6 + 1) = x + 7 := mark_wrap h0 hB (by rw [Int.add_assoc]; rfl) (by decide)
  have e0 : wrap64 ((i : Int) + 1) = ((i + 1 : Nat) : Int) := mark_succ hi hl
  have hrd : rd_T55 xs (i : Int) = ⟨x, markT (x + 1), markT (x + 2), markT (x + 3), (Int.tmod (x + 4) 3 == 0), x + 5, (Int.tmod (x + 6) 3 == 0)⟩ := by
    unfold rd_T55
    rw [Int.toNat_natCast, getD_at hi, hx]
    rfl
  have hstep : ∀ k, laws_heldRowS.l0 (k + 1) xs x (i : Int) = ((laws_markText.f k (x + 1)).bind fun t1 => if (markT (x + 1)).toList = t1.toList then ((laws_markText.f k (x + 2)).bind fun t2 => if (markT (x + 2)).toList = t2.toList then ((laws_markText.f k (x + 3)).bind fun t3 => if (markT (x + 3)).toList = t3.toList then laws_heldRowS.l0 k xs (x + 7) ((i + 1 : Nat) : Int) else some (-1)) else some (-1)) else some (-1)) := fun k => by
    simp only [laws_heldRowS.l0, if_pos hi1, if_pos hi2, e1, e2, e3, e4, e5, e6, e7, e0, hrd, bne_self_eq_false, Bool.false_eq_true, if_false, if_true, eq_self_iff_true]
  refine Ev.step hstep ?_
  refine Ev_bind (markT_ev b1) ?_
  refine Ev.congr (fun k => by rw [if_pos rfl]) ?_
  refine Ev_bind (markT_ev b2) ?_
  refine Ev.congr (fun k => by rw [if_pos rfl]) ?_
  refine Ev_bind (markT_ev b3) ?_
  refine Ev.congr (fun k => by rw [if_pos rfl]) ?_
  exact h
theorem held_Row (m : Nat) (x : Int) (hl : m ≤ 1099511627776) (h0 : 0 ≤ x) (hB : x + 7 * m ≤ 1099511627776) : Ev (fun k => laws_heldRowS.f k (mkL mk_Row 7 x m) x) (x + 7 * m) := by
  have h := held_loop 7 mk_Row (fun k xs x i => laws_heldRowS.l0 k xs x i) 1099511627776 (fun k xs x i hi => by simp only [laws_heldRowS.l0]; rw [if_neg (by omega)]) (fun xs x i r hi hl h0 hB hx h => held_Row_step xs x i r hi hl h0 hB hx h) m 0 (mkL mk_Row 7 x m) x (by rw [mkL_length]; omega) (by rw [mkL_length]; exact hl) h0 hB rfl
  exact Ev.congr (fun k => by unfold laws_heldRowS.f; rfl) h
end Go.Proofs.YthapodlehfblgaaDoor.PG
