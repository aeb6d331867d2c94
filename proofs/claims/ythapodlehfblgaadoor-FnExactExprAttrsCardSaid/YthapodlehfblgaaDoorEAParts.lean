/-
  The program's and the reference's looks at one part of an expression, and at a whole one, come to the same. No condition but the bound on lengths that is stated.
-/
import Derived.Test.YthapodlehfblgaaDoorEAP3
import Derived.Test.YthapodlehfblgaaDoorEAP1
import Derived.Test.YthapodlehfblgaaDoorEANames
import Derived.Test.YthapodlehfblgaaDoorEABase
namespace Go.Proofs.YthapodlehfblgaaDoor.PG
set_option linter.unusedSimpArgs false
set_option linter.unusedVariables false
open Go.RowKit Go.Proofs.YthapodlehfblgaaDoorW.PrintWords Go.Proofs.YthapodlehfblgaaDoorW.PrintLast Go.Proofs.YthapodlehfblgaaDoorW.PrintMore Go.Proofs.YthapodlehfblgaaDoor.Gn Go.Proofs.YthapodlehfblgaaDoor.Sem

def arOp (op : Int) : Int := if op = 1 ∨ op = 2 then 0 else if op = 3 ∨ op = 4 ∨ op = 7 then 1 else if op = 5 ∨ op = 6 then 2 else -1
theorem impl_ops (op : Int) : Ev (fun k => impl_operands.f k op) (arOp op) := by
  refine Ev_at 2 (fun k => ?_)
  unfold impl_operands.f arOp
  by_cases h1 : op = 1
  · simp [h1, impl_operands.j0]
  by_cases h2 : op = 2
  · simp [h2, impl_operands.j0]
  by_cases h3 : op = 3
  · simp [h3, impl_operands.j0, impl_operands.j1]
  by_cases h4 : op = 4
  · simp [h4, impl_operands.j0, impl_operands.j1]
  by_cases h5 : op = 5
  · simp [h5, impl_operands.j0, impl_operands.j1]
  by_cases h6 : op = 6
  · simp [h6, impl_operands.j0, impl_operands.j1]
  by_cases h7 : op = 7
  · simp [h7, impl_operands.j0, impl_operands.j1]
  simp [h1, h2, h3, h4, h5, h6, h7, impl_operands.j0, impl_operands.j1]
theorem spec_ops (op : Int) : Ev (fun k => spec_l13Many.f k op) (arOp op) := by
  refine Ev_at 2 (fun k => ?_)
  unfold spec_l13Many.f arOp
  by_cases h1 : op = 1
  · simp [h1, spec_l13Many.j0]
  by_cases h2 : op = 2
  · simp [h2, spec_l13Many.j0]
  by_cases h3 : op = 3
  · simp [h3, spec_l13Many.j0, spec_l13Many.j1]
  by_cases h4 : op = 4
  · simp [h4, spec_l13Many.j0, spec_l13Many.j1]
  by_cases h5 : op = 5
  · simp [h5, spec_l13Many.j0, spec_l13Many.j1]
  by_cases h6 : op = 6
  · simp [h6, spec_l13Many.j0, spec_l13Many.j1]
  by_cases h7 : op = 7
  · simp [h7, spec_l13Many.j0, spec_l13Many.j1]
  simp [h1, h2, h3, h4, h5, h6, h7, spec_l13Many.j0, spec_l13Many.j1]

def textB (op : Int) (t : ByteArray) : Bool := if op = 1 then decide (t.size ≤ 40) && plainB t else if op = 2 then nameB t else t.toList == ([] : List UInt8)
def partB (op : Int) (t : ByteArray) (n : Int) : Bool := decide (0 ≤ arOp op) && (decide (op = 7 ∨ n = 0) && ((decide (0 ≤ n) && decide (n ≤ 40)) && textB op t))

theorem impl_part_j0 (b : Bool) (op : Int) (t : ByteArray) (n : Int) : Ev (fun k => impl_isPart.j0 k b op t n) (!b && textB op t) := by
  unfold textB
  cases b with
  | true => exact Ev_one (fun k => by simp [impl_isPart.j0])
  | false =>
    by_cases h1 : op = 1
    · rw [if_pos h1]
      by_cases h2 : (t.size : Int) ≤ 40
      · refine Ev.step (f := fun k => (impl_isPrintable.f k t).bind fun t => some t) (fun k => by simp [impl_isPart.j0, h1, h2]) (Ev_bind (impl_plain t (by omega)) ?_)
        rw [decide_eq_true (show t.size ≤ 40 by omega)]
        simpa using Ev.now _
      · refine Ev_one (fun k => ?_)
        rw [decide_eq_false (show ¬ t.size ≤ 40 by omega)]
        simp [impl_isPart.j0, h1, h2]
    · rw [if_neg h1]
      by_cases h2 : op = 2
      · refine Ev_one (fun k => ?_)
        rw [if_pos h2]
        simp [impl_isPart.j0, h2, impl_name]
      · refine Ev_one (fun k => ?_)
        rw [if_neg h2]
        simp [impl_isPart.j0, h1, h2]
theorem spec_part_j0 (b : Bool) (op : Int) (t : ByteArray) (n : Int) : Ev (fun k => spec_l13Part.j0 k b op t n) (!b && textB op t) := by
  unfold textB
  cases b with
  | true => exact Ev_one (fun k => by simp [spec_l13Part.j0])
  | false =>
    by_cases h1 : op = 1
    · rw [if_pos h1]
      by_cases h2 : (t.size : Int) ≤ 40
      · refine Ev.step (f := fun k => (spec_l02Plain.f k t).bind fun t => some t) (fun k => by simp [spec_l13Part.j0, h1, h2]) (Ev_bind (spec_plain t (by omega)) ?_)
        rw [decide_eq_true (show t.size ≤ 40 by omega)]
        simpa using Ev.now _
      · refine Ev_one (fun k => ?_)
        rw [decide_eq_false (show ¬ t.size ≤ 40 by omega)]
        simp [spec_l13Part.j0, h1, h2]
    · rw [if_neg h1]
      by_cases h2 : op = 2
      · refine Ev.step (f := fun k => (spec_NameRight.f k t).bind fun t => some t) (fun k => by simp [spec_l13Part.j0, h2]) (Ev_bind (spec_name t) ?_)
        rw [if_pos h2]
        simpa using Ev.now _
      · refine Ev_one (fun k => ?_)
        rw [if_neg h2]
        simp [spec_l13Part.j0, h1, h2]
theorem impl_part (op : Int) (t : ByteArray) (n : Int) : Ev (fun k => impl_isPart.f k op t n) (partB op t n) := by
  unfold impl_isPart.f partB
  refine Ev_bind (impl_ops op) ?_
  by_cases h0 : arOp op < 0
  · simp only [if_pos h0]
    rw [decide_eq_false (show ¬ 0 ≤ arOp op by omega), Bool.false_and]
    have := impl_part_j0 true op t n
    simpa [h0] using this
  · simp only [if_neg h0]
    rw [decide_eq_true (show 0 ≤ arOp op by omega), Bool.true_and]
    have key := impl_part_j0 (!(decide (0 ≤ n) && decide (n ≤ 40))) op t n
    rw [Bool.not_not] at key
    by_cases h7 : op = 7
    · simp only [if_pos h7, between_eq, Option.bind_some]
      rw [decide_eq_true (show op = 7 ∨ n = 0 from .inl h7), Bool.true_and]
      exact key
    · simp only [if_neg h7]
      by_cases hn : n = 0
      · simp only [if_pos hn, between_eq, Option.bind_some]
        rw [decide_eq_true (show op = 7 ∨ n = 0 from .inr hn), Bool.true_and]
        exact key
      · simp only [if_neg hn]
        rw [decide_eq_false (show ¬ (op = 7 ∨ n = 0) by omega), Bool.false_and]
        have e : (n != 0) = true := by simp [hn]
        rw [e]
        simpa using impl_part_j0 true op t n
theorem spec_part (op : Int) (t : ByteArray) (n : Int) : Ev (fun k => spec_l13Part.f k op t n) (partB op t n) := by
  unfold spec_l13Part.f partB
  refine Ev_bind (spec_ops op) ?_
  by_cases h0 : arOp op < 0
  · simp only [if_pos h0]
    rw [decide_eq_false (show ¬ 0 ≤ arOp op by omega), Bool.false_and]
    have := spec_part_j0 true op t n
    simpa using this
  · simp only [if_neg h0]
    rw [decide_eq_true (show 0 ≤ arOp op by omega), Bool.true_and]
    have key := spec_part_j0 (!(decide (0 ≤ n) && decide (n ≤ 40))) op t n
    rw [Bool.not_not] at key
    by_cases h7 : op = 7
    · simp only [if_pos h7, l02Is_eq, Option.bind_some]
      rw [decide_eq_true (show op = 7 ∨ n = 0 from .inl h7), Bool.true_and]
      exact key
    · simp only [if_neg h7]
      by_cases hn : n = 0
      · simp only [if_pos hn, l02Is_eq, Option.bind_some]
        rw [decide_eq_true (show op = 7 ∨ n = 0 from .inr hn), Bool.true_and]
        exact key
      · simp only [if_neg hn]
        rw [decide_eq_false (show ¬ (op = 7 ∨ n = 0) by omega), Bool.false_and]
        have := spec_part_j0 true op t n
        simpa using this
theorem arOp_bounds {op : Int} {t : ByteArray} {n : Int} (h : partB op t n = true) : 0 ≤ arOp op ∧ arOp op ≤ 1000 := by
  unfold partB at h
  simp only [Bool.and_eq_true, decide_eq_true_eq] at h
  refine ⟨h.1, ?_⟩
  unfold arOp
  (repeat' split) <;> omega

theorem rd_head (p : S82) (r : List S82) : rd_T82 (p :: r) 0 = p := rfl
theorem rd_at (x : List S82) (i : Nat) (h : i < x.length) : rd_T82 x (i : Int) = x[i]'h := getD_at h
/-- A whole expression. -/
theorem expr_same (x : List S82) : ∃ b, Ev (fun k => spec_ExprRight.f k x) b ∧ Ev (fun k => impl_ExprRight.f k x) b := by
  by_cases h12 : (x.length : Int) ≤ 12
  · obtain ⟨M, D, hf, hb, hs⟩ := depth_same (fun p : S82 => partB p.f0 p.f1 p.f2) (fun p => arOp p.f0) impl_exprDepth.f impl_exprDepth.l0 spec_l13End.f spec_l13End.l0
      (fun p h => arOp_bounds h) (fun k x parts dm n i => rfl)
      (Ev_at 2 (fun k => by simp [impl_exprDepth.f, impl_exprDepth.j0]))
      (fun p r hp => Ev.step (f := fun k => (impl_isPart.f k p.f0 p.f1 p.f2).bind fun t => impl_exprDepth.j0 k (p :: r) (!t))
        (fun k => by simp only [impl_exprDepth.f]; rw [if_neg (by simp; omega), if_pos (by simp)]; rfl)
        (Ev_bind (impl_part p.f0 p.f1 p.f2) (by rw [hp]; exact Ev_one (fun k => by simp [impl_exprDepth.j0]))))
      (fun p r v hp hv => Ev.step (f := fun k => (impl_isPart.f k p.f0 p.f1 p.f2).bind fun t => impl_exprDepth.j0 k (p :: r) (!t))
        (fun k => by simp only [impl_exprDepth.f]; rw [if_neg (by simp; omega), if_pos (by simp)]; rfl)
        (Ev_bind (impl_part p.f0 p.f1 p.f2) (by
          rw [hp]
          refine Ev.step (f := fun k => (impl_operands.f k p.f0).bind fun t => impl_exprDepth.l0 k (p :: r) 1 0 t 0) (fun k => by simp only [impl_exprDepth.j0]; rw [if_neg (by simp), if_pos (by simp)]; rfl) (Ev_bind (impl_ops p.f0) hv))))
      (fun k x at_ deep n => rfl)
      (fun x at_ deep h => Ev_at 2 (fun k => by simp only [spec_l13End.f]; rw [if_pos (by omega)]; simp [spec_l13End.j0]))
      (fun x at_ deep h => Ev_at 2 (fun k => by
        simp only [spec_l13End.f]
        by_cases h1 : (at_ : Int) ≥ (x.length : Int)
        · rw [if_pos h1]; simp [spec_l13End.j0]
        · rw [if_neg h1, if_pos h]; simp [spec_l13End.j0]))
      (fun x at_ h deep hd hp => Ev.step (f := fun k => (spec_l13Part.f k (x[at_]'h).f0 (x[at_]'h).f1 (x[at_]'h).f2).bind fun t => spec_l13End.j0 k x (at_ : Int) deep (!t))
        (fun k => by simp only [spec_l13End.f]; rw [if_neg (by omega), if_neg (by omega), if_pos (by omega), if_pos (by omega), rd_at x at_ h])
        (Ev_bind (spec_part _ _ _) (by rw [hp]; exact Ev_one (fun k => by simp [spec_l13End.j0]))))
      (fun x at_ h deep v hlen hd hp hv => Ev.step (f := fun k => (spec_l13Part.f k (x[at_]'h).f0 (x[at_]'h).f1 (x[at_]'h).f2).bind fun t => spec_l13End.j0 k x (at_ : Int) deep (!t))
        (fun k => by simp only [spec_l13End.f]; rw [if_neg (by omega), if_neg (by omega), if_pos (by omega), if_pos (by omega), rd_at x at_ h])
        (Ev_bind (spec_part _ _ _) (by
          rw [hp]
          refine Ev.step (f := fun k => (spec_l13Many.f k (x[at_]'h).f0).bind fun t => spec_l13End.l0 k x (wrap64 (at_ + 1)) deep t) (fun k => by simp only [spec_l13End.j0]; rw [if_neg (by simp), if_pos (by omega), if_pos (by omega), rd_at x at_ h]) (Ev_bind (spec_ops _) ?_)
          rw [w_id (by omega) (by omega)]
          exact hv)))
      12 (by omega) x (by omega)
    have hs0 := hs x 0 rfl (Nat.zero_le _) (by omega) 1 (by omega) (by omega)
    refine ⟨(if 0 < M ∧ 1 - 1 + D ≤ 5 then ((0 : Nat) : Int) + M else -1) == (x.length : Int), ?_, ?_⟩
    · unfold spec_ExprRight.f
      simp only [if_pos h12]
      exact Ev_bind hs0 (Ev.now _)
    · unfold impl_ExprRight.f
      simp only [if_neg (show ¬ (x.length : Int) > 12 by omega)]
      refine Ev_bind hf ?_
      by_cases hM : M > 0
      · simp only [if_pos hM]
        by_cases hML : M = (x.length : Int)
        · simp only [if_pos hML]
          refine Ev_some (fun k => ?_)
          congr 1
          by_cases hD : D ≤ 5
          · rw [if_pos ⟨hM, by omega⟩, decide_eq_true hD]
            simp [hML]
          · rw [if_neg (by omega), decide_eq_false hD]
            symm
            rw [beq_eq_false_iff_ne]
            omega
        · simp only [if_neg hML]
          refine Ev_some (fun k => ?_)
          congr 1
          symm
          rw [beq_eq_false_iff_ne]
          split <;> omega
      · simp only [if_neg hM]
        refine Ev_some (fun k => ?_)
        congr 1
        symm
        rw [beq_eq_false_iff_ne, if_neg (by omega)]
        omega
  · refine ⟨false, Ev_some (fun k => ?_), Ev_some (fun k => ?_)⟩
    · unfold spec_ExprRight.f
      rw [if_neg h12]
    · unfold impl_ExprRight.f
      rw [if_pos (by omega)]
end Go.Proofs.YthapodlehfblgaaDoor.PG
