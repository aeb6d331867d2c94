/-
  The program's and the reference's looks at a filter come to the same; a valid filter is one that the plain evaluation takes whole. No condition.
-/
import Derived.Test.YtpocoeghobdfiaaGreatDoorFEP5
import Derived.Test.YtpocoeghobdfiaaGreatDoorFEP2
import Derived.Test.YtpocoeghobdfiaaGreatDoorFENames
import Derived.Test.YtpocoeghobdfiaaGreatDoorFEBase
import Derived.Test.YtpocoeghobdfiaaGreatDoorFENorm
import Derived.Test.YtpocoeghobdfiaaGreatDoorFEEval
import Derived.Test.YtpocoeghobdfiaaGreatDoorFESq
namespace Go.Proofs.YtpocoeghobdfiaaGreatDoor.PG
set_option linter.unusedSimpArgs false
set_option linter.unusedVariables false
open Go.Proofs.YtpocoeghobdfiaaGreatDoor.Sq Go.RowKit Go.Proofs.YtpocoeghobdfiaaGreatDoorW.PrintWords Go.Proofs.YtpocoeghobdfiaaGreatDoorW.PrintLast Go.Proofs.YtpocoeghobdfiaaGreatDoorW.PrintMore Go.Proofs.YtpocoeghobdfiaaGreatDoor.Gn Go.Proofs.YtpocoeghobdfiaaGreatDoor.Sem

def emB (s : ByteArray) : Bool := s.toList == ([] : List UInt8)
theorem emB_pos {s : ByteArray} (h : s.toList = []) : emB s = true := by unfold emB; simpa using h
theorem emB_neg {s : ByteArray} (h : ¬ s.toList = []) : emB s = false := by unfold emB; simpa using h
/-- A node that is as told. -/
def nodeOkB (n : S87) : Bool :=
  if n.f0 = 1 ∨ n.f0 = 2 then emB n.f1 && (emB n.f2 && (decide (1 ≤ n.f3) && decide (n.f3 ≤ 20)))
  else if n.f0 = 3 then emB n.f1 && (emB n.f2 && decide (n.f3 = 1))
  else if n.f0 = 5 then nameB n.f1 && (emB n.f2 && decide (n.f3 = 0))
  else if n.f0 = 4 ∨ n.f0 = 6 ∨ n.f0 = 7 ∨ n.f0 = 8 then nameB n.f1 && (properB n.f2 && decide (n.f3 = 0)) else false
theorem nodeOk_bounds {n : S87} (h : nodeOkB n = true) : 0 ≤ n.f3 ∧ n.f3 ≤ 1000 := by
  unfold nodeOkB at h
  split at h
  · simp only [Bool.and_eq_true, decide_eq_true_eq] at h; omega
  split at h
  · simp only [Bool.and_eq_true, decide_eq_true_eq] at h; omega
  split at h
  · simp only [Bool.and_eq_true, decide_eq_true_eq] at h; omega
  split at h
  · simp only [Bool.and_eq_true, decide_eq_true_eq] at h; omega
  cases h
theorem nodeOk_forms {n : S87} (h : nodeOkB n = true) : (¬ n.f0 > 3 ∧ 1 ≤ n.f3 ∧ n.f3 ≤ 20 ∧ ¬ (n.f0 > 8 ∨ n.f0 < 1) ∧ (n.f0 = 3 → n.f3 = 1)) ∨ (n.f0 > 3 ∧ n.f3 = 0 ∧ ¬ (n.f0 > 8 ∨ n.f0 < 1)) := by
  unfold nodeOkB at h
  split at h
  · simp only [Bool.and_eq_true, decide_eq_true_eq] at h; omega
  split at h
  · simp only [Bool.and_eq_true, decide_eq_true_eq] at h; omega
  split at h
  · simp only [Bool.and_eq_true, decide_eq_true_eq] at h; omega
  split at h
  · simp only [Bool.and_eq_true, decide_eq_true_eq] at h; omega
  cases h
abbrev XS := List S87
theorem dj1t (x : XS) (op : Int) (a v : ByteArray) (m : Int) : Ev (fun k => impl_depthOf.j1 k x true op a v m) (0, 0) := Ev_one fun k => by simp [impl_depthOf.j1]
theorem dj1f (x : XS) (op : Int) (a v : ByteArray) (m : Int) (u : Int × Int) (h : Ev (fun k => impl_depthOf.l0 k x 1 0 m 0) u) : Ev (fun k => impl_depthOf.j1 k x false op a v m) u := Ev.step (fun k => by simp only [impl_depthOf.j1]; rw [if_neg (by simp)]) h
theorem dj0t (x : XS) (op : Int) (a v : ByteArray) (m : Int) (u : Int × Int) (h : (emB a && (emB v && (decide (1 ≤ m) && (decide (m ≤ 20) && decide (op ≠ 3 ∨ m = 1))))) = true → Ev (fun k => impl_depthOf.l0 k x 1 0 m 0) u) (h0 : (emB a && (emB v && (decide (1 ≤ m) && (decide (m ≤ 20) && decide (op ≠ 3 ∨ m = 1))))) = false → u = (0, 0)) :
    Ev (fun k => impl_depthOf.j0 k x op true op a v m) u := by
  by_cases ha : a.toList = []
  · by_cases hv : v.toList = []
    · rw [emB_pos ha, emB_pos hv, Bool.true_and, Bool.true_and] at h h0
      by_cases h1 : m < 1
      · rw [decide_eq_false (show ¬ 1 ≤ m by omega), Bool.false_and] at h0
        rw [h0 rfl]
        exact Ev.step (fun k => by simp only [impl_depthOf.j0, if_true]; rw [if_pos ha, if_pos hv, if_pos h1]) (dj1t _ _ _ _ _)
      · rw [decide_eq_true (show 1 ≤ m by omega), Bool.true_and] at h h0
        have hfin : (op ≠ 3 ∨ m = 1) → Ev (fun k => impl_depthOf.j1 k x (decide (m > 20)) op a v m) u := by
          intro hc
          rw [decide_eq_true hc, Bool.and_true] at h h0
          by_cases h2 : m > 20
          · rw [decide_eq_true h2, h0 (decide_eq_false (by omega))]
            exact dj1t _ _ _ _ _
          · rw [decide_eq_false h2]
            exact dj1f _ _ _ _ _ _ (h (decide_eq_true (by omega)))
        by_cases h3 : op = 3
        · by_cases h4 : m = 1
          · exact Ev.step (fun k => by simp only [impl_depthOf.j0, if_true]; rw [if_pos ha, if_pos hv, if_neg h1, if_pos h3, if_pos h4]) (hfin (.inr h4))
          · rw [decide_eq_false (show ¬ (op ≠ 3 ∨ m = 1) by omega), Bool.and_false] at h0
            rw [h0 rfl]
            exact Ev.step (fun k => by simp only [impl_depthOf.j0, if_true]; rw [if_pos ha, if_pos hv, if_neg h1, if_pos h3, if_neg h4]) (dj1t _ _ _ _ _)
        · exact Ev.step (fun k => by simp only [impl_depthOf.j0, if_true]; rw [if_pos ha, if_pos hv, if_neg h1, if_neg h3]) (hfin (.inl h3))
    · rw [emB_neg hv, Bool.false_and, Bool.and_false] at h0
      rw [h0 rfl]
      exact Ev.step (fun k => by simp only [impl_depthOf.j0, if_true]; rw [if_pos ha, if_neg hv]) (dj1t _ _ _ _ _)
  · rw [emB_neg ha, Bool.false_and] at h0
    rw [h0 rfl]
    exact Ev.step (fun k => by simp only [impl_depthOf.j0, if_true]; rw [if_neg ha]) (dj1t _ _ _ _ _)
theorem dj3t (op : Int) (a v : ByteArray) (m : Int) : Ev (fun k => impl_depthOf.j3 k true op a v m) (if (nameB a && (properB v && decide (m = 0))) = true then (1, 1) else (0, 0)) := by
  refine Ev.step (f := fun k => (impl_isProper.f k v).bind fun t760 => if t760 = true then (if m = 0 then ((impl_NameRight.f a).bind fun t761 => if t761 = true then some (1, 1) else some (0, 0)) else some (0, 0)) else some (0, 0)) (fun k => by simp only [impl_depthOf.j3, if_true]) (Ev_bind (impl_proper v) ?_)
  cases properB v
  · exact Ev_some fun k => by simp
  by_cases h0 : m = 0
  rotate_left
  · refine Ev_some fun k => ?_
    rw [if_pos rfl, if_neg h0, decide_eq_false h0]
    simp
  refine Ev_some fun k => ?_
  rw [if_pos rfl, if_pos h0, impl_name, decide_eq_true h0]
  simp only [Option.bind_some, Bool.true_and, Bool.and_true]
  cases nameB a <;> simp
theorem dj3f (op : Int) (a v : ByteArray) (m : Int) : Ev (fun k => impl_depthOf.j3 k false op a v m) (0, 0) := Ev_one fun k => by simp [impl_depthOf.j3]
/-- The program's look at the first node of a list. -/
theorem depth_head (p : S87) (r : XS) (u : Int × Int) (h : nodeOkB p = true → Ev (fun k => impl_depthOf.l0 k (p :: r) 1 0 p.f3 0) u) (h0 : nodeOkB p = false → u = (0, 0)) : Ev (fun k => impl_depthOf.f k (p :: r)) u := by
  obtain ⟨op, a, v, m⟩ := p
  have e0 : rd_T87 (⟨op, a, v, m⟩ :: r) 0 = ⟨op, a, v, m⟩ := rfl
  have hl0 : ¬ (((⟨op, a, v, m⟩ :: r : XS).length : Nat) : Int) = 0 := by simp only [List.length_cons]; omega
  have hl1 : (0 : Int) < (((⟨op, a, v, m⟩ :: r : XS).length : Nat) : Int) := by simp only [List.length_cons]; omega
  unfold nodeOkB at h h0
  by_cases o12 : op = 1 ∨ op = 2
  · rw [if_pos o12] at h h0
    have key := dj0t (⟨op, a, v, m⟩ :: r) op a v m u (fun hh => h (by
      simp only [Bool.and_eq_true, decide_eq_true_eq] at hh ⊢; exact ⟨hh.1, hh.2.1, hh.2.2.1, hh.2.2.2.1⟩)) (fun hh => h0 (by
      rw [decide_eq_true (show op ≠ 3 ∨ m = 1 by omega), Bool.and_true] at hh; exact hh))
    rcases o12 with rfl | rfl
    · exact Ev.step (fun k => by simp only [impl_depthOf.f]; rw [if_neg hl0, if_pos hl1, e0, if_pos rfl]; rfl) key
    exact Ev.step (fun k => by simp only [impl_depthOf.f]; rw [if_neg hl0, if_pos hl1, e0, if_neg (show ¬ (2 : Int) = 1 by omega), if_pos rfl]; rfl) key
  rw [if_neg o12] at h h0
  by_cases o3 : op = 3
  · rw [if_pos o3] at h h0
    have key := dj0t (⟨op, a, v, m⟩ :: r) op a v m u (fun hh => h (by
      simp only [Bool.and_eq_true, decide_eq_true_eq] at hh ⊢; exact ⟨hh.1, hh.2.1, by omega⟩)) (fun hh => h0 (by
      rw [← hh]
      congr 2
      rw [Bool.eq_iff_iff]
      simp only [Bool.and_eq_true, decide_eq_true_eq]
      omega))
    subst o3
    exact Ev.step (fun k => by simp only [impl_depthOf.f]; rw [if_neg hl0, if_pos hl1, e0, if_neg (show ¬ (3 : Int) = 1 by omega), if_neg (show ¬ (3 : Int) = 2 by omega)]; rfl) key
  rw [if_neg o3] at h h0
  have hd3 : (op == 3) = false := by simpa using o3
  have hj : ∀ u', Ev (fun k => impl_depthOf.j0 k (⟨op, a, v, m⟩ :: r) op false op a v m) u' → Ev (fun k => impl_depthOf.f k (⟨op, a, v, m⟩ :: r)) u' := fun u' hu =>
   Ev.step (fun k => by simp only [impl_depthOf.f]; rw [if_neg hl0, if_pos hl1, e0, if_neg (show ¬ op = 1 by omega), if_neg (show ¬ op = 2 by omega)]; dsimp only; rw [hd3]) hu
  have hleaf : m = 0 → Ev (fun k => impl_depthOf.l0 k (⟨op, a, v, m⟩ :: r) 1 0 m 0) (1, 1) := by
    rintro rfl
    exact Ev_one fun k => by simp only [impl_depthOf.l0]; rw [if_neg (by omega), show wrap64 (0 + 1) = 1 from by unfold wrap64; omega]
  refine hj u ?_
  by_cases o5 : op = 5
  rotate_left
  · rw [if_neg o5] at h h0
    by_cases o4 : op = 4 ∨ op = 6 ∨ op = 7 ∨ op = 8
    rotate_left
    · rw [if_neg o4] at h0
      rw [h0 rfl]
      have hd8 : (op == 8) = false := by simp; omega
      exact Ev.step (fun k => by simp only [impl_depthOf.j0]; rw [if_neg (by simp), if_neg o5, if_neg (by omega), if_neg (by omega), if_neg (by omega), hd8]) (dj3f _ _ _ _)
    rw [if_pos o4] at h h0
    have hu : u = if (nameB a && (properB v && decide (m = 0))) = true then (1, 1) else (0, 0) := by
      by_cases hc : (nameB a && (properB v && decide (m = 0))) = true
      · rw [if_pos hc]
        refine Ev_eq (h hc) (hleaf ?_)
        simp only [Bool.and_eq_true, decide_eq_true_eq] at hc
        exact hc.2.2
      · rw [if_neg hc]
        exact h0 (by simpa using hc)
    rw [hu]
    rcases o4 with rfl | rfl | rfl | rfl
    · exact Ev.step (f := fun k => impl_depthOf.j3 k true 4 a v m) (fun k => by simp [impl_depthOf.j0]) (dj3t _ _ _ _)
    · exact Ev.step (f := fun k => impl_depthOf.j3 k true 6 a v m) (fun k => by simp [impl_depthOf.j0]) (dj3t _ _ _ _)
    · exact Ev.step (f := fun k => impl_depthOf.j3 k true 7 a v m) (fun k => by simp [impl_depthOf.j0]) (dj3t _ _ _ _)
    exact Ev.step (f := fun k => impl_depthOf.j3 k true 8 a v m) (fun k => by simp [impl_depthOf.j0]) (dj3t _ _ _ _)
  rw [if_pos o5] at h h0
  have hu : u = if (nameB a && (emB v && decide (m = 0))) = true then (1, 1) else (0, 0) := by
    by_cases hc : (nameB a && (emB v && decide (m = 0))) = true
    · rw [if_pos hc]
      refine Ev_eq (h hc) (hleaf ?_)
      simp only [Bool.and_eq_true, decide_eq_true_eq] at hc
      exact hc.2.2
    · rw [if_neg hc]
      exact h0 (by simpa using hc)
  rw [hu]
  refine Ev_one fun k => ?_
  simp only [impl_depthOf.j0]
  rw [if_neg (by simp), if_pos o5]
  by_cases hv : v.toList = []
  rotate_left
  · rw [if_neg hv, emB_neg hv, Bool.false_and, Bool.and_false]
    simp
  rw [if_pos hv, emB_pos hv, Bool.true_and]
  by_cases hm : m = 0
  rotate_left
  · rw [if_neg hm, decide_eq_false hm, Bool.and_false]
    simp
  rw [if_pos hm, decide_eq_true hm, impl_name]
  simp only [Option.bind_some, Bool.and_true]
  cases nameB a <;> simp

theorem sj1t (op : Int) (a v : ByteArray) (m : Int) : Ev (fun k => spec_l04Node.j1 k true op a v m) (nameB a && (properB v && decide (m = 0))) := by
  refine Ev.step (f := fun k => (spec_NameRight.f k a).bind fun t362 => if t362 = true then ((spec_l02Value.f k v).bind fun t363 => if t363 = true then some (m == 0) else some false) else some false) (fun k => by simp only [spec_l04Node.j1, if_true]) (Ev_bind (spec_name a) ?_)
  cases nameB a
  · exact Ev_some fun k => by simp
  simp only [if_true, Bool.true_and]
  refine Ev_bind (spec_proper v) ?_
  cases properB v
  · exact Ev_some fun k => by simp
  exact Ev_some fun k => by simp [Bool.beq_eq_decide_eq]
theorem spec_node (p : S87) : Ev (fun k => spec_l04Node.f k p.f0 p.f1 p.f2 p.f3) (nodeOkB p) := by
  obtain ⟨op, a, v, m⟩ := p
  show Ev (fun k => spec_l04Node.f k op a v m) _
  unfold nodeOkB spec_l04Node.f
  by_cases o12 : op = 1 ∨ op = 2
  · rw [if_pos o12]
    have key : Ev (fun k => spec_l04Node.j0 k op true op a v m) (emB a && (emB v && (decide (1 ≤ m) && decide (m ≤ 20)))) := by
      by_cases ha : a.toList = []
      · by_cases hv : v.toList = []
        · rw [emB_pos ha, emB_pos hv]
          exact Ev_one fun k => by simp only [spec_l04Node.j0, if_true]; rw [if_pos ha, if_pos hv, l02Is_eq]; rfl
        · rw [emB_neg hv]
          exact Ev_one fun k => by simp only [spec_l04Node.j0, if_true]; rw [if_pos ha, if_neg hv]; simp
      · rw [emB_neg ha]
        exact Ev_one fun k => by simp only [spec_l04Node.j0, if_true]; rw [if_neg ha]; simp
    rcases o12 with rfl | rfl
    · exact Ev.congr (fun k => by rw [if_pos rfl]; rfl) key
    exact Ev.congr (fun k => by rw [if_neg (by omega)]; rfl) key
  rw [if_neg o12]
  have hd2 : (op == 2) = false := by simp; omega
  have hj : ∀ u', Ev (fun k => spec_l04Node.j0 k op false op a v m) u' → Ev (fun k => if op = 1 then spec_l04Node.j0 k op (op == 1) op a v m else spec_l04Node.j0 k op (op == 2) op a v m) u' := fun u' hu => Ev.congr (fun k => by rw [if_neg (show ¬ op = 1 by omega), hd2]) hu
  refine hj _ ?_
  by_cases o3 : op = 3
  · rw [if_pos o3]
    subst o3
    by_cases ha : a.toList = []
    rotate_left
    · rw [emB_neg ha]
      exact Ev_one fun k => by simp only [spec_l04Node.j0]; rw [if_neg (by simp)]; simp [ha]
    by_cases hv : v.toList = []
    · rw [emB_pos ha, emB_pos hv]
      exact Ev_one fun k => by simp only [spec_l04Node.j0]; rw [if_neg (by simp)]; simp [ha, hv, Bool.beq_eq_decide_eq]
    rw [emB_neg hv]
    exact Ev_one fun k => by simp only [spec_l04Node.j0]; rw [if_neg (by simp)]; simp [ha, hv]
  rw [if_neg o3]
  by_cases o5 : op = 5
  · rw [if_pos o5]
    subst o5
    refine Ev.step (f := fun k => (spec_NameRight.f k a).bind fun t361 => if t361 = true then (if v.toList = [] then some (m == 0) else some false) else some false) (fun k => by simp [spec_l04Node.j0]) (Ev_bind (spec_name a) ?_)
    cases nameB a
    · exact Ev_some fun k => by simp
    by_cases hv : v.toList = []
    · rw [emB_pos hv]
      exact Ev_some fun k => by simp [hv, Bool.beq_eq_decide_eq]
    rw [emB_neg hv]
    exact Ev_some fun k => by simp [hv]
  rw [if_neg o5]
  by_cases o4 : op = 4 ∨ op = 6 ∨ op = 7 ∨ op = 8
  rotate_left
  · rw [if_neg o4]
    have hd8 : (op == 8) = false := by simp; omega
    exact Ev_at 2 fun k => by simp only [spec_l04Node.j0]; rw [if_neg (by simp), if_neg o3, if_neg o5, if_neg (by omega), if_neg (by omega), if_neg (by omega), hd8]; simp [spec_l04Node.j1]
  rw [if_pos o4]
  rcases o4 with rfl | rfl | rfl | rfl
  · exact Ev.step (f := fun k => spec_l04Node.j1 k true 4 a v m) (fun k => by simp [spec_l04Node.j0]) (sj1t _ _ _ _)
  · exact Ev.step (f := fun k => spec_l04Node.j1 k true 6 a v m) (fun k => by simp [spec_l04Node.j0]) (sj1t _ _ _ _)
  · exact Ev.step (f := fun k => spec_l04Node.j1 k true 7 a v m) (fun k => by simp [spec_l04Node.j0]) (sj1t _ _ _ _)
  exact Ev.step (f := fun k => spec_l04Node.j1 k true 8 a v m) (fun k => by simp [spec_l04Node.j0]) (sj1t _ _ _ _)
theorem node_rd (x : XS) (i : Nat) (h : i < x.length) : rd_T87 x (i : Int) = x[i]'h := getD_at h
/-- Both looks at a whole filter. -/
theorem filter_same (x : XS) : ∃ b, Ev (fun k => spec_FilterRight.f k x) b ∧ Ev (fun k => impl_FilterRight.f k x) b ∧ (b = true → x.length ≤ 20 ∧ ∃ D, Ev (fun k => impl_depthOf.f k x) ((x.length : Int), D) ∧ 0 < x.length) := by
  by_cases h12 : (x.length : Int) ≤ 20
  rotate_left
  · refine ⟨false, Ev_some (fun k => ?_), Ev_some (fun k => ?_), fun h => by cases h⟩
    · unfold spec_FilterRight.f
      rw [if_neg h12]
    unfold impl_FilterRight.f
    rw [if_pos (by omega)]
  obtain ⟨M, D, hf, hb, hs⟩ := depth_same nodeOkB (fun p => p.f3) impl_depthOf.f impl_depthOf.l0 spec_l04End.f spec_l04End.l0
    (fun p h => nodeOk_bounds h) (fun k x parts dm n i => rfl)
    (Ev_one (fun k => by simp [impl_depthOf.f]))
    (fun p r hp => depth_head p r _ (fun h => by rw [hp] at h; cases h) (fun _ => rfl))
    (fun p r v hp hv => depth_head p r v (fun _ => hv) (fun h => by rw [hp] at h; cases h))
    (fun k x at_ deep n => rfl)
    (fun x at_ deep h => Ev_at 2 (fun k => by simp only [spec_l04End.f]; rw [if_pos (by omega)]; simp [spec_l04End.j0]))
    (fun x at_ deep h => Ev_at 2 (fun k => by
      simp only [spec_l04End.f]
      by_cases h1 : (at_ : Int) ≥ (x.length : Int)
      · rw [if_pos h1]; simp [spec_l04End.j0]
      · rw [if_neg h1, if_pos h]; simp [spec_l04End.j0]))
    (fun x at_ h deep hd hp => Ev.step (f := fun k => (spec_l04Node.f k (x[at_]'h).f0 (x[at_]'h).f1 (x[at_]'h).f2 (x[at_]'h).f3).bind fun t => spec_l04End.j0 k x (at_ : Int) deep (!t))
      (fun k => by simp only [spec_l04End.f]; rw [if_neg (by omega), if_neg (by omega), if_pos (by omega), if_pos (by omega), node_rd x at_ h])
      (Ev_bind (spec_node _) (by rw [hp]; exact Ev_one (fun k => by simp [spec_l04End.j0]))))
    (fun x at_ h deep v hlen hd hp hv => Ev.step (f := fun k => (spec_l04Node.f k (x[at_]'h).f0 (x[at_]'h).f1 (x[at_]'h).f2 (x[at_]'h).f3).bind fun t => spec_l04End.j0 k x (at_ : Int) deep (!t))
      (fun k => by simp only [spec_l04End.f]; rw [if_neg (by omega), if_neg (by omega), if_pos (by omega), if_pos (by omega), node_rd x at_ h])
      (Ev_bind (spec_node _) (by
        rw [hp]
        refine Ev.step (f := fun k => spec_l04End.l0 k x (wrap64 (at_ + 1)) deep (x[at_]'h).f3) (fun k => by simp only [spec_l04End.j0]; rw [if_neg (by simp), if_pos (by omega), if_pos (by omega), node_rd x at_ h]) ?_
        rw [w_id (by omega) (by omega)]
        exact hv)))
    20 (by omega) x (by omega)
  have hs0 := hs x 0 rfl (Nat.zero_le _) (by omega) 1 (by omega) (by omega)
  refine ⟨(if 0 < M ∧ 1 - 1 + D ≤ 5 then ((0 : Nat) : Int) + M else -1) == (x.length : Int), ?_, ?_, ?_⟩
  · unfold spec_FilterRight.f
    simp only [if_pos h12]
    exact Ev_bind hs0 (Ev.now _)
  · unfold impl_FilterRight.f
    simp only [if_neg (show ¬ (x.length : Int) > 20 by omega)]
    refine Ev_bind hf ?_
    by_cases hM : M > 0
    rotate_left
    · simp only [if_neg hM]
      refine Ev_some (fun k => ?_)
      congr 1
      symm
      rw [beq_eq_false_iff_ne, if_neg (by omega)]
      omega
    simp only [if_pos hM]
    by_cases hML : M = (x.length : Int)
    rotate_left
    · simp only [if_neg hML]
      refine Ev_some (fun k => ?_)
      congr 1
      symm
      rw [beq_eq_false_iff_ne]
      split <;> omega
    simp only [if_pos hML]
    refine Ev_some (fun k => ?_)
    congr 1
    by_cases hD : D ≤ 5
    · rw [if_pos ⟨hM, by omega⟩, decide_eq_true hD]
      simp [hML]
    rw [if_neg (by omega), decide_eq_false hD]
    symm
    rw [beq_eq_false_iff_ne]
    omega
  intro hb2
  rw [beq_iff_eq] at hb2
  split at hb2
  · rename_i hc
    obtain rfl : M = (x.length : Int) := by omega
    exact ⟨by omega, D, hf, by omega⟩
  omega

/-! ### a valid filter is taken whole -/
theorem ev_mono (nv : S87 → Int) : ∀ k, (∀ y r, evF nv k y = some r → evF nv (k + 1) y = some r) ∧ (∀ m y r, evM nv k m y = some r → evM nv (k + 1) m y = some r)
  | 0 => by
    refine ⟨fun y r h => by simp [evF] at h, fun m y r h => ?_⟩
    cases m with
    | zero => simpa [evM] using h
    | succ m => simp [evM] at h
  | k + 1 => by
    obtain ⟨ih1, ih2⟩ := ev_mono nv k
    refine ⟨fun y r h => ?_, fun m y r h => ?_⟩
    · cases y with
      | nil => simp [evF] at h
      | cons n t =>
        simp only [evF] at h ⊢
        by_cases hbad : n.f0 > 8 ∨ n.f0 < 1
        · rw [if_pos hbad] at h
          cases h
        rw [if_neg hbad] at h ⊢
        by_cases h1 : n.f0 > 3
        · rw [if_pos h1] at h ⊢
          exact h
        · rw [if_neg h1] at h ⊢
          by_cases h2 : n.f3 < 1 ∨ n.f3 > 20 ∨ (n.f0 = 3 ∧ n.f3 ≠ 1)
          · rw [if_pos h2] at h
            cases h
          · rw [if_neg h2] at h ⊢
            obtain ⟨q, hq, hr⟩ := Option.map_eq_some_iff.1 h
            rw [ih2 _ _ _ hq]
            exact congrArg some hr
    · cases m with
      | zero => simpa [evM] using h
      | succ m =>
        simp only [evM] at h ⊢
        obtain ⟨p, hp, h⟩ := Option.bind_eq_some_iff.1 h
        obtain ⟨q, hq, hr⟩ := Option.map_eq_some_iff.1 h
        rw [ih1 _ _ hp]
        show (evM nv (k + 1) m p.2).map _ = _
        rw [ih2 _ _ _ hq]
        exact congrArg some hr
theorem evF_le (nv : S87 → Int) {k k' : Nat} (h : k ≤ k') {y : XS} {r : Int × XS} (hr : evF nv k y = some r) : evF nv k' y = some r := by
  induction h with
  | refl => exact hr
  | step _ ih => exact (ev_mono nv _).1 _ _ ih
theorem evM_le (nv : S87 → Int) {k k' : Nat} (h : k ≤ k') {m : Nat} {y : XS} {r : List Int × XS} (hr : evM nv k m y = some r) : evM nv k' m y = some r := by
  induction h with
  | refl => exact hr
  | step _ ih => exact (ev_mono nv _).2 _ _ _ ih
theorem taken (nv : S87 → Int) (N : Nat) (hN : N ≤ 1000000) : ∀ y : XS, y.length ≤ N → ∃ M D : Int, Ev (fun k => impl_depthOf.f k y) (M, D) ∧ (M = 0 ∨ (1 ≤ M ∧ M ≤ (y.length : Int) ∧ ∃ k v, evF nv k y = some (v, y.drop M.toNat))) := by
  induction N with
  | zero =>
   intro y hy
   obtain rfl : y = [] := List.eq_nil_of_length_eq_zero (by omega)
   exact ⟨0, 0, Ev_one (fun k => by simp [impl_depthOf.f]), .inl rfl⟩
  | succ N ihN =>
   have ih := ihN (by omega)
   intro y hy
   cases y with
   | nil => exact ⟨0, 0, Ev_one (fun k => by simp [impl_depthOf.f]), .inl rfl⟩
   | cons p r =>
    cases hp : nodeOkB p with
    | false => exact ⟨0, 0, depth_head p r _ (fun h => by rw [hp] at h; cases h) (fun _ => rfl), .inl rfl⟩
    | true =>
     have hb := nodeOk_bounds hp
     have hlen : (p :: r).length ≤ 1000001 := by omega
     have Q : ∀ (rem : Nat) (parts dm i : Int), i + rem = p.f3 → 0 ≤ i → 1 ≤ parts → parts ≤ ((p :: r).length : Int) → ∃ M D : Int, Ev (fun k => impl_depthOf.l0 k (p :: r) parts dm p.f3 i) (M, D) ∧
         (M = 0 ∨ (parts ≤ M ∧ M ≤ ((p :: r).length : Int) ∧ ∃ k vs, evM nv k rem ((p :: r).drop parts.toNat) = some (vs, (p :: r).drop M.toNat))) := by
       intro rem
       induction rem with
       | zero =>
         intro parts dm i hi h0 h1 h2
         exact ⟨parts, wrap64 (dm + 1), Ev_one (fun k => by simp only [impl_depthOf.l0]; rw [if_neg (by omega)]), .inr ⟨Int.le_refl _, h2, 0, [], by simp [evM]⟩⟩
       | succ rem ihr =>
         intro parts dm i hi h0 h1 h2
         have hdl : ((p :: r).drop parts.toNat).length ≤ N := by
           have : (p :: r).length ≤ N + 1 := hy
           rw [List.length_drop]
           omega
         have hstep : ∀ v, Ev (fun k => (impl_depthOf.f k ((p :: r).drop (parts : Int).toNat)).bind fun b => if b.1 = 0 then some (0, 0) else impl_depthOf.l0 k (p :: r) (wrap64 (parts + b.1)) (mx dm b.2) p.f3 (wrap64 (i + 1))) v → Ev (fun k => impl_depthOf.l0 k (p :: r) parts dm p.f3 i) v := fun v hv =>
           Ev.step (fun k => by simp only [impl_depthOf.l0]; rw [if_pos (by omega), if_pos (by omega), if_pos (by omega)]) hv
         obtain ⟨M1, D1, hE1, hc⟩ := ih _ hdl
         rcases hc with hM1 | ⟨hM1, hM1l, k1, v1, hev1⟩
         · refine ⟨0, 0, hstep _ (Ev_bind hE1 ?_), .inl rfl⟩
           simp only [if_pos hM1]
           exact Ev.now _
         · rw [List.length_drop] at hM1l
           obtain ⟨M, D, hE2, hc2⟩ := ihr (parts + M1) (mx dm D1) (i + 1) (by omega) (by omega) (by omega) (by omega)
           refine ⟨M, D, hstep _ (Ev_bind hE1 ?_), ?_⟩
           · simp only [if_neg (show ¬ M1 = 0 by omega)]
             rw [w_id (i := parts + M1) (by omega) (by omega), w_id (i := i + 1) (by omega) (by omega)]
             exact hE2
           · rcases hc2 with h | ⟨h3, h4, k2, vs, hev2⟩
             · exact .inl h
             · refine .inr ⟨by omega, h4, max k1 k2 + 1, v1 :: vs, ?_⟩
               simp only [evM]
               rw [evF_le nv (Nat.le_max_left k1 k2) hev1]
               show (evM nv (max k1 k2) rem (((p :: r).drop parts.toNat).drop M1.toNat)).map _ = _
               rw [List.drop_drop, show parts.toNat + M1.toNat = (parts + M1).toNat by omega, evM_le nv (Nat.le_max_right k1 k2) hev2]
               rfl
     obtain ⟨M, D, hE, hc⟩ := Q p.f3.toNat 1 0 0 (by omega) (by omega) (by omega) (by simp only [List.length_cons]; omega)
     refine ⟨M, D, depth_head p r _ (fun _ => hE) (fun h => by rw [hp] at h; cases h), ?_⟩
     rcases hc with h | ⟨h3, h4, k2, vs, hev2⟩
     · exact .inl h
     refine .inr ⟨h3, h4, k2 + 1, ?_⟩
     rcases nodeOk_forms hp with ⟨g1, g2, g3, g4, g5⟩ | ⟨g1, g2, g4⟩
     · refine ⟨combI p.f0 vs, ?_⟩
       simp only [evF]
       rw [if_neg g4, if_neg g1, if_neg (by omega)]
       rw [show ((1 : Int)).toNat = 1 from rfl, List.drop_succ_cons, List.drop_zero] at hev2
       rw [hev2]
       rfl
     refine ⟨nv p, ?_⟩
     simp only [evF]
     rw [if_neg g4, if_pos g1]
     rw [g2] at hev2
     have hz : evM nv k2 (0 : Int).toNat ((p :: r).drop (1 : Int).toNat) = some ([], r) := by cases k2 <;> simp [evM]
     rw [hz] at hev2
     simp only [Option.some.injEq, Prod.mk.injEq] at hev2
     rw [← hev2.2]
/-- .. and what it comes to. -/
theorem filter_taken (nv : S87 → Int) (x : XS) (h20 : x.length ≤ 20) (D : Int) (h : Ev (fun k => impl_depthOf.f k x) ((x.length : Int), D)) (hpos : 0 < x.length) : ∃ k v, evF nv k x = some (v, []) := by
  obtain ⟨M, D', hE, hc⟩ := taken nv 20 (by omega) x h20
  have := Ev_eq h hE
  simp only [Prod.mk.injEq] at this
  obtain ⟨rfl, _⟩ := this
  rcases hc with h0 | ⟨_, _, k, v, hev⟩
  · omega
  refine ⟨k, v, ?_⟩
  rw [hev, Int.toNat_natCast, List.drop_length]

/-! ### the reference's evaluation -/
theorem spec_hasName (l : List ByteArray) (x : ByteArray) (hl : l.length ≤ 9223372036854775807) : Ev (fun k => spec_l04Has.f k l x) (hasName l x) := by
  unfold spec_l04Has.f hasName
  have key : ∀ (d i : Nat), i + d = l.length → Ev (fun k => spec_l04Has.l0 k l x (i : Int)) ((l.drop i).any fun y => y.toList == x.toList) := by
    intro d
    induction d with
    | zero =>
      intro i hi
      rw [List.drop_eq_nil_of_le (by omega)]
      exact Ev_one fun k => by simp only [spec_l04Has.l0]; rw [if_neg (by omega)]; rfl
    | succ d ih =>
      intro i hi
      have hlt : i < l.length := by omega
      have e0 : wrap64 ((i : Int) + 1) = ((i + 1 : Nat) : Int) := by rw [wsucc (by omega) (by omega)]; omega
      have er : rdOf ByteArray.empty l (i : Int) = l[i]'hlt := by
        unfold rdOf
        rw [Int.toNat_natCast, getD_at hlt]
      rw [List.drop_eq_getElem_cons hlt, List.any_cons]
      refine Ev.step (fun k => by simp only [spec_l04Has.l0]; rw [if_pos (by omega), if_pos (by omega), e0, er]) ?_
      by_cases h : (l[i]'hlt).toList = x.toList
      · rw [show ((l[i]'hlt).toList == x.toList) = true by simpa using h, Bool.true_or]
        exact Ev_some fun k => by rw [if_pos h]
      · rw [show ((l[i]'hlt).toList == x.toList) = false by simpa using h, Bool.false_or]
        exact Ev.congr (fun k => by rw [if_neg h]) (ih (i + 1) (by omega))
  have := key l.length 0 (by omega)
  rwa [List.drop_zero] at this
theorem begins_pref (a b : ByteArray) : spec_l04Begins.f a b = some (prefB a b) := by
  unfold spec_l04Begins.f prefB
  by_cases h : b.size ≤ a.size
  · rw [if_pos (by omega), if_pos (by omega), if_pos (by omega), decide_eq_true h, Bool.true_and, Int.toNat_natCast]
  rw [if_neg (by omega), decide_eq_false h]
  rfl
theorem spec_item (op : Int) (attr value : ByteArray) (m : Int) (d : List S113) (l : List S115) (h4 : 4 ≤ op) (h8 : op ≤ 8) (hl : l.length ≤ 9223372036854775807) (hv : ∀ x, x ∈ l → x.f1.length ≤ 9223372036854775807) :
    Ev (fun k => spec_l04Item.f k op attr value m d l) ((valsL attr l).any fun v => nodeB op (normB value) (normB v)) := by
  unfold spec_l04Item.f
  refine Ev_bind (spec_of attr d l hl) (Ev_bind (spec_norm value) ?_)
  have hvl := valsL_mem attr l (fun v => v.length ≤ 9223372036854775807) (by simp) hv
  generalize valsL attr l = vs at hvl
  generalize normB value = nv
  have key : ∀ (e i : Nat), i + e = vs.length → Ev (fun k => spec_l04Item.l0 k vs nv (i : Int) op attr value m) ((vs.drop i).any fun v => nodeB op nv (normB v)) := by
    intro e
    induction e with
    | zero =>
      intro i hi
      rw [List.drop_eq_nil_of_le (by omega)]
      exact Ev_one fun k => by simp only [spec_l04Item.l0]; rw [if_neg (by omega)]; rfl
    | succ e ih =>
      intro i hi
      have hlt : i < vs.length := by omega
      have e0 : wrap64 ((i : Int) + 1) = ((i + 1 : Nat) : Int) := by rw [wsucc (by omega) (by omega)]; omega
      have er : rdOf ByteArray.empty vs (i : Int) = vs[i]'hlt := by
        unfold rdOf
        rw [Int.toNat_natCast, getD_at hlt]
      rw [List.drop_eq_getElem_cons hlt, List.any_cons]
      have hn := ih (i + 1) (by omega)
      refine Ev.step (fun k => by simp only [spec_l04Item.l0]; rw [if_pos (by omega), if_pos (by omega), er]) ?_
      refine Ev_bind (spec_norm _) ?_
      generalize normB (vs[i]'hlt) = x
      have j3 : ∀ b : Bool, Ev (fun k => spec_l04Item.j3 k vs nv (i : Int) x b op attr value m) (b || ((decide (op = 8) && (Op.bytesLess x.toList nv.toList || x.toList == nv.toList)) || ((vs.drop (i + 1)).any fun v => nodeB op nv (normB v)))) := by
        intro b
        cases b
        · refine Ev.step (f := fun k => if op = 8 then (if Op.bytesLess nv.toList x.toList = true then spec_l04Item.l0 k vs nv (wrap64 (i + 1)) op attr value m else some true) else spec_l04Item.l0 k vs nv (wrap64 (i + 1)) op attr value m) (fun k => by simp only [spec_l04Item.j3]; rw [if_neg (by simp)]) ?_
          rw [Bool.false_or, le_norm, e0]
          by_cases h : op = 8
          · simp only [if_pos h]
            rw [decide_eq_true h, Bool.true_and]
            cases Op.bytesLess nv.toList x.toList
            · exact Ev_some fun k => by simp
            · simpa using hn
          · simp only [if_neg h]
            rw [decide_eq_false h, Bool.false_and, Bool.false_or]
            exact hn
        · exact Ev_one fun k => by simp [spec_l04Item.j3]
      have j2 : ∀ b : Bool, Ev (fun k => spec_l04Item.j2 k vs nv (i : Int) x b op attr value m) (b || ((decide (op = 7) && !(Op.bytesLess x.toList nv.toList)) || ((decide (op = 8) && (Op.bytesLess x.toList nv.toList || x.toList == nv.toList)) || ((vs.drop (i + 1)).any fun v => nodeB op nv (normB v))))) := by
        intro b
        cases b
        · refine Ev.step (f := fun k => spec_l04Item.j3 k vs nv (i : Int) x (decide (op = 7) && !(Op.bytesLess x.toList nv.toList)) op attr value m) (fun k => by
            simp only [spec_l04Item.j2]
            rw [if_neg (by simp)]
            by_cases h : op = 7
            · rw [if_pos h, decide_eq_true h, Bool.true_and]
            · rw [if_neg h, decide_eq_false h, Bool.false_and]) ?_
          rw [Bool.false_or]
          exact j3 _
        · exact Ev_one fun k => by simp [spec_l04Item.j2]
      have j1 : ∀ b : Bool, Ev (fun k => spec_l04Item.j1 k vs nv (i : Int) x b op attr value m) (b || (decide (op = 5) || ((decide (op = 6) && prefB x nv) || ((decide (op = 7) && !(Op.bytesLess x.toList nv.toList)) || ((decide (op = 8) && (Op.bytesLess x.toList nv.toList || x.toList == nv.toList)) || ((vs.drop (i + 1)).any fun v => nodeB op nv (normB v))))))) := by
        intro b
        cases b
        · rw [Bool.false_or]
          by_cases h5 : op = 5
          · rw [decide_eq_true h5, Bool.true_or]
            exact Ev_one fun k => by simp only [spec_l04Item.j1]; rw [if_neg (by simp), if_pos h5]
          · rw [decide_eq_false h5, Bool.false_or]
            refine Ev.step (f := fun k => spec_l04Item.j2 k vs nv (i : Int) x (decide (op = 6) && prefB x nv) op attr value m) (fun k => by
              simp only [spec_l04Item.j1]
              rw [if_neg (by simp), if_neg h5]
              by_cases h : op = 6
              · rw [if_pos h, decide_eq_true h, Bool.true_and, begins_pref]
                rfl
              · rw [if_neg h, decide_eq_false h, Bool.false_and]) ?_
            exact j2 _
        · exact Ev_one fun k => by simp [spec_l04Item.j1]
      have hb : nodeB op nv x = ((decide (op = 4) && (x.toList == nv.toList)) || (decide (op = 5) || ((decide (op = 6) && prefB x nv) || ((decide (op = 7) && !(Op.bytesLess x.toList nv.toList)) || (decide (op = 8) && (Op.bytesLess x.toList nv.toList || x.toList == nv.toList)))))) := by
        have hop : op = 4 ∨ op = 5 ∨ op = 6 ∨ op = 7 ∨ op = 8 := by omega
        rcases hop with rfl | rfl | rfl | rfl | rfl <;> simp [nodeB]
      rw [hb]
      have key1 := j1 (decide (op = 4) && (x.toList == nv.toList))
      simp only [Bool.or_assoc] at key1 ⊢
      refine Ev.congr (fun k => ?_) key1
      by_cases h : op = 4
      · rw [if_pos h, decide_eq_true h, Bool.true_and]
      · rw [if_neg h, decide_eq_false h, Bool.false_and]
  have := key vs.length 0 (by omega)
  rwa [List.drop_zero] at this

def in012 (n : Int) : Prop := n = 0 ∨ n = 1 ∨ n = 2
theorem notI_in (n : Int) : in012 (notI n) := by
  unfold notI in012
  split <;> (try split) <;> omega
theorem combI_in (op : Int) (vs : List Int) : in012 (combI op vs) := by
  unfold combI
  split
  · exact notI_in _
  unfold in012
  split <;> split <;> (try split) <;> omega
theorem ev_in (nv : S87 → Int) (hnv : ∀ n, in012 (nv n)) : ∀ k, (∀ y v r, evF nv k y = some (v, r) → in012 v) ∧ (∀ m y vs r, evM nv k m y = some (vs, r) → vs.length = m ∧ ∀ v, v ∈ vs → in012 v)
  | 0 => by
    refine ⟨fun y v r h => by simp [evF] at h, fun m y vs r h => ?_⟩
    cases m with
    | zero =>
      simp only [evM, Option.some.injEq, Prod.mk.injEq] at h
      obtain ⟨rfl, rfl⟩ := h
      exact ⟨rfl, fun v hv => by cases hv⟩
    | succ m => simp [evM] at h
  | k + 1 => by
    obtain ⟨ih1, ih2⟩ := ev_in nv hnv k
    refine ⟨fun y v r h => ?_, fun m y vs r h => ?_⟩
    · cases y with
      | nil => simp [evF] at h
      | cons n t =>
        simp only [evF] at h
        split at h
        · cases h
        split at h
        · simp only [Option.some.injEq, Prod.mk.injEq] at h
          rw [← h.1]
          exact hnv n
        split at h
        · cases h
        obtain ⟨q, hq, hr⟩ := Option.map_eq_some_iff.1 h
        simp only [Prod.mk.injEq] at hr
        rw [← hr.1]
        exact combI_in _ _
    · cases m with
      | zero =>
        simp only [evM, Option.some.injEq, Prod.mk.injEq] at h
        obtain ⟨rfl, rfl⟩ := h
        exact ⟨rfl, fun v hv => by cases hv⟩
      | succ m =>
        simp only [evM] at h
        obtain ⟨p, hp, h⟩ := Option.bind_eq_some_iff.1 h
        obtain ⟨q, hq, hr⟩ := Option.map_eq_some_iff.1 h
        simp only [Prod.mk.injEq] at hr
        obtain ⟨rfl, rfl⟩ := hr
        have h2 := ih2 m p.2 q.1 q.2 hq
        refine ⟨by simp [h2.1], fun v hv => ?_⟩
        rcases List.mem_cons.1 hv with rfl | hv
        · exact ih1 _ _ p.2 hp
        · exact h2.2 v hv
def outI (op : Int) (no dark : Bool) : Int := if op = 2 then notI (if no then 0 else if dark then 2 else 1) else (if no then 0 else if dark then 2 else 1)
def convI (op v : Int) : Int := if op = 1 then v else notI v
def noB (op : Int) (vs : List Int) : Bool := vs.any fun v => convI op v == 0
def darkB (op : Int) (vs : List Int) : Bool := vs.any fun v => convI op v == 2
theorem comb_out (op : Int) (vs : List Int) (h1 : 1 ≤ op) (h3 : op ≤ 3) (hv : ∀ v, v ∈ vs → in012 v) (hl : op = 3 → vs.length = 1) : combI op vs = outI op (noB op vs) (darkB op vs) := by
  have hop : op = 1 ∨ op = 2 ∨ op = 3 := by omega
  rcases hop with rfl | rfl | rfl
  · have e1 : noB 1 vs = hasI vs 0 := by unfold noB hasI convI; simp
    have e2 : darkB 1 vs = hasI vs 2 := by unfold darkB hasI convI; simp
    unfold combI outI
    rw [e1, e2]
    simp
  · have e1 : noB 2 vs = hasI vs 1 := by
      unfold noB hasI
      rw [Bool.eq_iff_iff, List.any_eq_true, List.any_eq_true]
      constructor
      · rintro ⟨v, hm, hb⟩
        refine ⟨v, hm, ?_⟩
        simp only [convI, notI, beq_iff_eq] at hb ⊢
        rcases hv v hm with rfl | rfl | rfl <;> simp at hb ⊢
      · rintro ⟨v, hm, hb⟩
        refine ⟨v, hm, ?_⟩
        simp only [beq_iff_eq] at hb
        subst hb
        rfl
    have e2 : darkB 2 vs = hasI vs 2 := by
      unfold darkB hasI
      rw [Bool.eq_iff_iff, List.any_eq_true, List.any_eq_true]
      constructor
      · rintro ⟨v, hm, hb⟩
        refine ⟨v, hm, ?_⟩
        simp only [convI, notI, beq_iff_eq] at hb ⊢
        rcases hv v hm with rfl | rfl | rfl <;> simp at hb ⊢
      · rintro ⟨v, hm, hb⟩
        refine ⟨v, hm, ?_⟩
        simp only [beq_iff_eq] at hb
        subst hb
        rfl
    unfold combI outI
    rw [e1, e2]
    cases hasI vs 1 <;> cases hasI vs 2 <;> simp [notI]
  have hl1 := hl rfl
  match vs, hl1 with
  | [v], _ =>
   rcases hv v (by simp) with rfl | rfl | rfl <;> decide
theorem not_f (n : Int) : spec_Not.f n = some (notI n) := by
  unfold spec_Not.f notI
  split
  · rfl
  split <;> rfl
theorem nodeV_in (known : List ByteArray) (l : List S115) (n : S87) : in012 (nodeV known l n) := by
  unfold nodeV truthI in012
  split <;> (try split) <;> omega
theorem spec_fin (x : XS) (at_ : Int) (known : List ByteArray) (no dark : Bool) (d : List S113) (l : List S115) (op : Int) (a b : ByteArray) (mm : Int) : Ev (fun k => spec_l04Eval.l0 k x at_ known no dark 0 d l op a b mm) (outI op no dark, at_) := by
  refine Ev_one fun k => ?_
  simp only [spec_l04Eval.l0]
  rw [if_neg (by omega)]
  unfold outI
  by_cases h : op = 2
  · cases no <;> cases dark <;> simp [h, not_f]
  cases no <;> cases dark <;> simp [h]
theorem spec_more (x : XS) (at_ : Int) (known : List ByteArray) (no dark : Bool) (m : Nat) (d : List S113) (l : List S115) (op : Int) (a b : ByteArray) (mm : Int) (v e : Int) (u : Int × Int) (hm : m ≤ 1000000) (h : Ev (fun k => spec_l04Eval.f k x at_ d l known) (v, e))
    (hu : Ev (fun k => spec_l04Eval.l0 k x e known (no || convI op v == 0) (dark || convI op v == 2) (m : Int) d l op a b mm) u) : Ev (fun k => spec_l04Eval.l0 k x at_ known no dark ((m + 1 : Nat) : Int) d l op a b mm) u := by
  have e0 : wrap64 (((m + 1 : Nat) : Int) - 1) = (m : Int) := by rw [w_id (by omega) (by omega)]; omega
  refine Ev.step (f := fun k => (spec_l04Eval.f k x at_ d l known).bind fun q => spec_l04Eval.l0 k x q.2 known (no || convI op q.1 == 0) (dark || convI op q.1 == 2) (m : Int) d l op a b mm) (fun k => ?_) (Ev_bind h hu)
  simp only [spec_l04Eval.l0]
  rw [if_pos (by omega), e0]
  congr 1
  funext q
  unfold convI
  by_cases h1 : op = 1
  · rw [if_pos h1, if_pos h1]
    cases no <;> cases dark <;> simp
  · rw [if_neg h1, if_neg h1, not_f]
    cases no <;> cases dark <;> simp
theorem drop_head {x y : XS} {n : S87} {at_ : Nat} (hd : x.drop at_ = n :: y) : ∃ h : at_ < x.length, x[at_]'h = n ∧ x.drop (at_ + 1) = y := by
  have hl := congrArg List.length hd
  simp at hl
  have hlt : at_ < x.length := by omega
  refine ⟨hlt, ?_⟩
  rw [List.drop_eq_getElem_cons hlt] at hd
  injection hd with h1 h2
  exact ⟨h1, h2⟩
theorem spec_eval (known : List ByteArray) (d : List S113) (l : List S115) (hup : UpNames l) (hkn : known.length ≤ 9223372036854775807) (hl : l.length ≤ 9223372036854775807) (hv : ∀ x, x ∈ l → x.f1.length ≤ 9223372036854775807) (x : XS) (hx : x.length ≤ 1000000) :
    ∀ k, (∀ y v rest, evF (nodeV known l) k y = some (v, rest) → ∀ at_ : Nat, x.drop at_ = y → at_ ≤ x.length → ∃ e : Nat, at_ ≤ e ∧ e ≤ x.length ∧ x.drop e = rest ∧ Ev (fun k => spec_l04Eval.f k x (at_ : Int) d l known) (v, (e : Int))) ∧
      (∀ m y vs rest, m ≤ 1000000 → evM (nodeV known l) k m y = some (vs, rest) → ∀ at_ : Nat, x.drop at_ = y → at_ ≤ x.length → ∃ e : Nat, at_ ≤ e ∧ e ≤ x.length ∧ x.drop e = rest ∧ ∀ (no dark : Bool) (op : Int) (a b : ByteArray) (mm : Int), Ev (fun k => spec_l04Eval.l0 k x (at_ : Int) known no dark (m : Int) d l op a b mm) (outI op (no || noB op vs) (dark || darkB op vs), (e : Int))) := by
  have hzero : ∀ k y vs rest, evM (nodeV known l) k 0 y = some (vs, rest) → ∀ at_ : Nat, x.drop at_ = y → at_ ≤ x.length → ∃ e : Nat, at_ ≤ e ∧ e ≤ x.length ∧ x.drop e = rest ∧ ∀ (no dark : Bool) (op : Int) (a b : ByteArray) (mm : Int), Ev (fun k => spec_l04Eval.l0 k x (at_ : Int) known no dark ((0 : Nat) : Int) d l op a b mm) (outI op (no || noB op vs) (dark || darkB op vs), (e : Int)) := by
    intro k y vs rest h at_ hd hat
    have h' : evM (nodeV known l) k 0 y = some ([], y) := by cases k <;> simp [evM]
    rw [h'] at h
    simp only [Option.some.injEq, Prod.mk.injEq] at h
    obtain ⟨rfl, rfl⟩ := h
    refine ⟨at_, Nat.le_refl _, hat, hd, fun no dark op a b mm => ?_⟩
    have := spec_fin x (at_ : Int) known no dark d l op a b mm
    simpa [noB, darkB] using this
  intro k
  induction k with
  | zero =>
    refine ⟨fun y v rest h => by simp [evF] at h, fun m y vs rest _ h at_ hd hat => ?_⟩
    cases m with
    | zero => exact hzero 0 y vs rest h at_ hd hat
    | succ m => simp [evM] at h
  | succ k ih =>
    obtain ⟨ih1, ih2⟩ := ih
    refine ⟨fun y v rest h at_ hd hat => ?_, fun m y vs rest hm h at_ hd hat => ?_⟩
    · cases y with
      | nil => simp [evF] at h
      | cons n t =>
        obtain ⟨hlt, hn, hd1⟩ := drop_head hd
        have er : rd_T87 x (at_ : Int) = n := by rw [node_rd x at_ hlt, hn]
        have e1 : wrap64 ((at_ : Int) + 1) = ((at_ + 1 : Nat) : Int) := by rw [w_id (by omega) (by omega)]; omega
        simp only [evF] at h
        by_cases hbad : n.f0 > 8 ∨ n.f0 < 1
        · rw [if_pos hbad] at h
          cases h
        rw [if_neg hbad] at h
        by_cases h3 : n.f0 > 3
        · rw [if_pos h3] at h
          simp only [Option.some.injEq, Prod.mk.injEq] at h
          obtain ⟨rfl, rfl⟩ := h
          refine ⟨at_ + 1, by omega, by omega, hd1, ?_⟩
          refine Ev.step (f := fun k => (spec_l04Has.f k known n.f1).bind fun t388 => if t388 = true then ((spec_l04Item.f k n.f0 n.f1 n.f2 n.f3 d l).bind fun t389 => (spec_l04Truth.f t389).bind fun t390 => some (t390, ((at_ + 1 : Nat) : Int))) else some (2, ((at_ + 1 : Nat) : Int))) (fun k => ?_) ?_
          · simp only [spec_l04Eval.f]
            rw [if_pos (by omega), if_pos (by omega), er, e1]
            have hin : spec_l04Inner.f n.f0 n.f1 n.f2 n.f3 = some false := by
              unfold spec_l04Inner.f
              rw [if_neg (by omega), if_neg (by omega)]
              congr 1
              rw [beq_eq_false_iff_ne]
              omega
            rw [hin]
            simp
          · refine Ev_bind (spec_hasName known n.f1 hkn) ?_
            unfold nodeV
            cases hasName known n.f1
            · exact Ev_some fun k => by simp
            · simp only [if_true]
              refine Ev_bind (spec_item n.f0 n.f1 n.f2 n.f3 d l (by omega) (by omega) hl hv) ?_
              rw [vals_at hup]
              refine Ev_some fun k => ?_
              unfold spec_l04Truth.f truthI
              split <;> rfl
        · rw [if_neg h3] at h
          by_cases h2 : n.f3 < 1 ∨ n.f3 > 20 ∨ (n.f0 = 3 ∧ n.f3 ≠ 1)
          · rw [if_pos h2] at h
            cases h
          rw [if_neg h2] at h
          obtain ⟨⟨vs, r2⟩, hq, hr⟩ := Option.map_eq_some_iff.1 h
          simp only [Prod.mk.injEq] at hr
          obtain ⟨rfl, rfl⟩ := hr
          obtain ⟨e, he1, he2, he3, he4⟩ := ih2 n.f3.toNat t vs r2 (by omega) hq (at_ + 1) hd1 (by omega)
          have hvs := (ev_in (nodeV known l) (nodeV_in known l) k).2 _ _ _ _ hq
          refine ⟨e, by omega, he2, he3, ?_⟩
          rw [comb_out n.f0 vs (by omega) (by omega) hvs.2 (fun h => by rw [hvs.1]; omega)]
          refine Ev.step (f := fun k => spec_l04Eval.l0 k x ((at_ + 1 : Nat) : Int) known false false n.f3 d l n.f0 n.f1 n.f2 n.f3) (fun k => ?_) ?_
          · simp only [spec_l04Eval.f]
            rw [if_pos (by omega), if_pos (by omega), er, e1]
            have hin : spec_l04Inner.f n.f0 n.f1 n.f2 n.f3 = some true := by
              unfold spec_l04Inner.f
              by_cases o1 : n.f0 = 1
              · rw [if_pos o1]
              · rw [if_neg o1]
                by_cases o2 : n.f0 = 2
                · rw [if_pos o2]
                · rw [if_neg o2, show n.f0 = 3 by omega]
                  rfl
            rw [hin]
            simp
          · have := he4 false false n.f0 n.f1 n.f2 n.f3
            rw [show ((n.f3.toNat : Nat) : Int) = n.f3 by omega] at this
            simpa using this
    · cases m with
      | zero => exact hzero (k + 1) y vs rest h at_ hd hat
      | succ m =>
        simp only [evM] at h
        obtain ⟨⟨v1, r1⟩, hp, h⟩ := Option.bind_eq_some_iff.1 h
        obtain ⟨⟨vs2, r2⟩, hq, hr⟩ := Option.map_eq_some_iff.1 h
        simp only [Prod.mk.injEq] at hr
        obtain ⟨rfl, rfl⟩ := hr
        obtain ⟨e1, ha1, ha2, ha3, ha4⟩ := ih1 y v1 r1 hp at_ hd hat
        obtain ⟨e2, hb1, hb2, hb3, hb4⟩ := ih2 m r1 vs2 r2 (by omega) hq e1 ha3 ha2
        refine ⟨e2, by omega, hb2, hb3, fun no dark op a b mm => ?_⟩
        refine spec_more x (at_ : Int) known no dark m d l op a b mm v1 (e1 : Int) _ (by omega) ha4 ?_
        have := hb4 (no || convI op v1 == 0) (dark || convI op v1 == 2) op a b mm
        unfold noB darkB at this ⊢
        rw [List.any_cons, List.any_cons, ← Bool.or_assoc, ← Bool.or_assoc]
        exact this
end Go.Proofs.YtpocoeghobdfiaaGreatDoor.PG
