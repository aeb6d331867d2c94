/-
  The program's and the reference's looks at a filter come to the same. No condition.
-/
import Derived.Test.YtbgikfahcppkfaaGreatDoorFRP4
import Derived.Test.YtbgikfahcppkfaaGreatDoorFRP1
import Derived.Test.YtbgikfahcppkfaaGreatDoorFRNames
import Derived.Test.YtbgikfahcppkfaaGreatDoorFRBase
import Derived.Test.YtbgikfahcppkfaaGreatDoorFRNorm
namespace Go.Proofs.YtbgikfahcppkfaaGreatDoor.PG
set_option linter.unusedSimpArgs false
set_option linter.unusedVariables false
open Go.RowKit Go.Proofs.YtbgikfahcppkfaaGreatDoorW.PrintWords Go.Proofs.YtbgikfahcppkfaaGreatDoorW.PrintLast Go.Proofs.YtbgikfahcppkfaaGreatDoorW.PrintMore Go.Proofs.YtbgikfahcppkfaaGreatDoor.Gn Go.Proofs.YtbgikfahcppkfaaGreatDoor.Sem

def emB (s : ByteArray) : Bool := s.toList == ([] : List UInt8)
theorem emB_pos {s : ByteArray} (h : s.toList = []) : emB s = true := by unfold emB; simpa using h
theorem emB_neg {s : ByteArray} (h : ¬ s.toList = []) : emB s = false := by unfold emB; simpa using h
/-- A node that is as told. -/
def nodeOkB (n : S155) : Bool :=
  if n.f0 = 1 ∨ n.f0 = 2 then emB n.f1 && (emB n.f2 && (decide (1 ≤ n.f3) && decide (n.f3 ≤ 20)))
  else if n.f0 = 3 then emB n.f1 && (emB n.f2 && decide (n.f3 = 1))
  else if n.f0 = 5 then nameB n.f1 && (emB n.f2 && decide (n.f3 = 0))
  else if n.f0 = 4 ∨ n.f0 = 6 ∨ n.f0 = 7 ∨ n.f0 = 8 then nameB n.f1 && (properB n.f2 && decide (n.f3 = 0)) else false
theorem nodeOk_bounds {n : S155} (h : nodeOkB n = true) : 0 ≤ n.f3 ∧ n.f3 ≤ 1000 := by
  unfold nodeOkB at h
  split at h
  · simp only [Bool.and_eq_true, decide_eq_true_eq] at h; omega
  split at h
  · simp only [Bool.and_eq_true, decide_eq_true_eq] at h; omega
  split at h
  · simp only [Bool.and_eq_true, decide_eq_true_eq] at h; omega
  split at h
  · simp only [Bool.and_eq_true, decide_eq_true_eq] at h; omega
  · cases h
theorem nodeOk_forms {n : S155} (h : nodeOkB n = true) : (¬ n.f0 > 3 ∧ 1 ≤ n.f3 ∧ n.f3 ≤ 20 ∧ ¬ (n.f0 > 8 ∨ n.f0 < 1) ∧ (n.f0 = 3 → n.f3 = 1)) ∨ (n.f0 > 3 ∧ n.f3 = 0 ∧ ¬ (n.f0 > 8 ∨ n.f0 < 1)) := by
  unfold nodeOkB at h
  split at h
  · simp only [Bool.and_eq_true, decide_eq_true_eq] at h; omega
  split at h
  · simp only [Bool.and_eq_true, decide_eq_true_eq] at h; omega
  split at h
  · simp only [Bool.and_eq_true, decide_eq_true_eq] at h; omega
  split at h
  · simp only [Bool.and_eq_true, decide_eq_true_eq] at h; omega
  · cases h
abbrev XS := List S155
theorem dj1t (x : XS) (op : Int) (a v : ByteArray) (m : Int) : Ev (fun k => impl_depthOf.j1 k x true op a v m) (0, 0) := Ev_one fun k => by simp [impl_depthOf.j1]
theorem dj1f (x : XS) (op : Int) (a v : ByteArray) (m : Int) (u : Int × Int) (h : Ev (fun k => impl_depthOf.l0 k x 1 0 m 0) u) : Ev (fun k => impl_depthOf.j1 k x false op a v m) u := Ev.step (fun k => by simp only [impl_depthOf.j1]; rw [if_neg (by simp)]) h
theorem dj0t (x : XS) (op : Int) (a v : ByteArray) (m : Int) (u : Int × Int) (h : (emB a && (emB v && (decide (1 ≤ m) && (decide (m ≤ 20) && decide (op ≠ 3 ∨ m = 1))))) = true → Ev (fun k => impl_depthOf.l0 k x 1 0 m 0) u) (h0 : (emB a && (emB v && (decide (1 ≤ m) && (decide (m ≤ 20) && decide (op ≠ 3 ∨ m = 1))))) = false → u = (0, 0)) :
    Ev (fun k => impl_depthOf.j0 k x op true op a v m) u := by
  by_cases ha : a.toList = []
  · by_cases hv : v.toList = []
    · rw [emB_pos ha, emB_pos hv, Bool.true_and, Bool.true_and] at h h0
      by_cases h1 : m < 1
      · rw [decide_eq_false (show ¬ 1 ≤ m by omega), Bool.false_and] at h0
        rw [h0 rfl]
        exact Ev.step (fun k => by simp only [impl_depthOf.j0, if_true]; rw [if_pos ha, if_pos hv, if_pos h1]) (dj1t _ _ _ _ _)
      · rw [decide_eq_true (show 1 ≤ m by omega), Bool.true_and] at h h0
        have hfin : (op ≠ 3 ∨ m = 1) → Ev (fun k => impl_depthOf.j1 k x (decide (m > 20)) op a v m) u := by
          intro hc
          rw [decide_eq_true hc, Bool.and_true] at h h0
          by_cases h2 : m > 20
          · rw [decide_eq_true h2, h0 (decide_eq_false (by omega))]
            exact dj1t _ _ _ _ _
          · rw [decide_eq_false h2]
            exact dj1f _ _ _ _ _ _ (h (decide_eq_true (by omega)))
        by_cases h3 : op = 3
        · by_cases h4 : m = 1
          · exact Ev.step (fun k => by simp only [impl_depthOf.j0, if_true]; rw [if_pos ha, if_pos hv, if_neg h1, if_pos h3, if_pos h4]) (hfin (.inr h4))
          · rw [decide_eq_false (show ¬ (op ≠ 3 ∨ m = 1) by omega), Bool.and_false] at h0
            rw [h0 rfl]
            exact Ev.step (fun k => by simp only [impl_depthOf.j0, if_true]; rw [if_pos ha, if_pos hv, if_neg h1, if_pos h3, if_neg h4]) (dj1t _ _ _ _ _)
        · exact Ev.step (fun k => by simp only [impl_depthOf.j0, if_true]; rw [if_pos ha, if_pos hv, if_neg h1, if_neg h3]) (hfin (.inl h3))
    · rw [emB_neg hv, Bool.false_and, Bool.and_false] at h0
      rw [h0 rfl]
      exact Ev.step (fun k => by simp only [impl_depthOf.j0, if_true]; rw [if_pos ha, if_neg hv]) (dj1t _ _ _ _ _)
  · rw [emB_neg ha, Bool.false_and] at h0
    rw [h0 rfl]
    exact Ev.step (fun k => by simp only [impl_depthOf.j0, if_true]; rw [if_neg ha]) (dj1t _ _ _ _ _)
theorem dj3t (op : Int) (a v : ByteArray) (m : Int) : Ev (fun k => impl_depthOf.j3 k true op a v m) (if (nameB a && (properB v && decide (m = 0))) = true then (1, 1) else (0, 0)) := by
  refine Ev.step (f := fun k => (impl_isProper.f k v).bind fun t760 => if t760 = true then (if m = 0 then ((impl_NameRight.f a).bind fun t761 => if t761 = true then some (1, 1) else some (0, 0)) else some (0, 0)) else some (0, 0)) (fun k => by simp only [impl_depthOf.j3, if_true]) (Ev_bind (impl_proper v) ?_)
  cases properB v
  · exact Ev_some fun k => by simp
  · by_cases h0 : m = 0
    · refine Ev_some fun k => ?_
      rw [if_pos rfl, if_pos h0, impl_name, decide_eq_true h0]
      simp only [Option.bind_some, Bool.true_and, Bool.and_true]
      cases nameB a <;> simp
    · refine Ev_some fun k => ?_
      rw [if_pos rfl, if_neg h0, decide_eq_false h0]
      simp
theorem dj3f (op : Int) (a v : ByteArray) (m : Int) : Ev (fun k => impl_depthOf.j3 k false op a v m) (0, 0) := Ev_one fun k => by simp [impl_depthOf.j3]
/-- The program's look at the first node of a list. -/
theorem depth_head (p : S155) (r : XS) (u : Int × Int) (h : nodeOkB p = true → Ev (fun k => impl_depthOf.l0 k (p :: r) 1 0 p.f3 0) u) (h0 : nodeOkB p = false → u = (0, 0)) : Ev (fun k => impl_depthOf.f k (p :: r)) u := by
  obtain ⟨op, a, v, m⟩ := p
  have e0 : rd_T155 (⟨op, a, v, m⟩ :: r) 0 = ⟨op, a, v, m⟩ := rfl
  have hl0 : ¬ (((⟨op, a, v, m⟩ :: r : XS).length : Nat) : Int) = 0 := by simp only [List.length_cons]; omega
  have hl1 : (0 : Int) < (((⟨op, a, v, m⟩ :: r : XS).length : Nat) : Int) := by simp only [List.length_cons]; omega
  unfold nodeOkB at h h0
  by_cases o12 : op = 1 ∨ op = 2
  · rw [if_pos o12] at h h0
    have key := dj0t (⟨op, a, v, m⟩ :: r) op a v m u (fun hh => h (by
      simp only [Bool.and_eq_true, decide_eq_true_eq] at hh ⊢; exact ⟨hh.1, hh.2.1, hh.2.2.1, hh.2.2.2.1⟩)) (fun hh => h0 (by
      rw [decide_eq_true (show op ≠ 3 ∨ m = 1 by omega), Bool.and_true] at hh; exact hh))
    rcases o12 with rfl | rfl
    · exact Ev.step (fun k => by simp only [impl_depthOf.f]; rw [if_neg hl0, if_pos hl1, e0, if_pos rfl]; rfl) key
    · exact Ev.step (fun k => by simp only [impl_depthOf.f]; rw [if_neg hl0, if_pos hl1, e0, if_neg (show ¬ (2 : Int) = 1 by omega), if_pos rfl]; rfl) key
  · rw [if_neg o12] at h h0
    by_cases o3 : op = 3
    · rw [if_pos o3] at h h0
      have key := dj0t (⟨op, a, v, m⟩ :: r) op a v m u (fun hh => h (by
        simp only [Bool.and_eq_true, decide_eq_true_eq] at hh ⊢; exact ⟨hh.1, hh.2.1, by omega⟩)) (fun hh => h0 (by
        rw [← hh]
        congr 2
        rw [Bool.eq_iff_iff]
        simp only [Bool.and_eq_true, decide_eq_true_eq]
        omega))
      subst o3
      exact Ev.step (fun k => by simp only [impl_depthOf.f]; rw [if_neg hl0, if_pos hl1, e0, if_neg (show ¬ (3 : Int) = 1 by omega), if_neg (show ¬ (3 : Int) = 2 by omega)]; rfl) key
    · rw [if_neg o3] at h h0
      have hd3 : (op == 3) = false := by simpa using o3
      have hj : ∀ u', Ev (fun k => impl_depthOf.j0 k (⟨op, a, v, m⟩ :: r) op false op a v m) u' → Ev (fun k => impl_depthOf.f k (⟨op, a, v, m⟩ :: r)) u' := fun u' hu =>
        Ev.step (fun k => by simp only [impl_depthOf.f]; rw [if_neg hl0, if_pos hl1, e0, if_neg (show ¬ op = 1 by omega), if_neg (show ¬ op = 2 by omega)]; dsimp only; rw [hd3]) hu
      have hleaf : m = 0 → Ev (fun k => impl_depthOf.l0 k (⟨op, a, v, m⟩ :: r) 1 0 m 0) (1, 1) := by
        rintro rfl
        exact Ev_one fun k => by simp only [impl_depthOf.l0]; rw [if_neg (by omega), show wrap64 (0 + 1) = 1 from by unfold wrap64; omega]
      refine hj u ?_
      by_cases o5 : op = 5
      · rw [if_pos o5] at h h0
        have hu : u = if (nameB a && (emB v && decide (m = 0))) = true then (1, 1) else (0, 0) := by
          by_cases hc : (nameB a && (emB v && decide (m = 0))) = true
          · rw [if_pos hc]
            refine Ev_eq (h hc) (hleaf ?_)
            simp only [Bool.and_eq_true, decide_eq_true_eq] at hc
            exact hc.2.2
          · rw [if_neg hc]
            exact h0 (by simpa using hc)
        rw [hu]
        refine Ev_one fun k => ?_
        simp only [impl_depthOf.j0]
        rw [if_neg (by simp), if_pos o5]
        by_cases hv : v.toList = []
        · rw [if_pos hv, emB_pos hv, Bool.true_and]
          by_cases hm : m = 0
          · rw [if_pos hm, decide_eq_true hm, impl_name]
            simp only [Option.bind_some, Bool.and_true]
            cases nameB a <;> simp
          · rw [if_neg hm, decide_eq_false hm, Bool.and_false]
            simp
        · rw [if_neg hv, emB_neg hv, Bool.false_and, Bool.and_false]
          simp
      · rw [if_neg o5] at h h0
        by_cases o4 : op = 4 ∨ op = 6 ∨ op = 7 ∨ op = 8
        · rw [if_pos o4] at h h0
          have hu : u = if (nameB a && (properB v && decide (m = 0))) = true then (1, 1) else (0, 0) := by
            by_cases hc : (nameB a && (properB v && decide (m = 0))) = true
            · rw [if_pos hc]
              refine Ev_eq (h hc) (hleaf ?_)
              simp only [Bool.and_eq_true, decide_eq_true_eq] at hc
              exact hc.2.2
            · rw [if_neg hc]
              exact h0 (by simpa using hc)
          rw [hu]
          rcases o4 with rfl | rfl | rfl | rfl
          · exact Ev.step (f := fun k => impl_depthOf.j3 k true 4 a v m) (fun k => by simp [impl_depthOf.j0]) (dj3t _ _ _ _)
          · exact Ev.step (f := fun k => impl_depthOf.j3 k true 6 a v m) (fun k => by simp [impl_depthOf.j0]) (dj3t _ _ _ _)
          · exact Ev.step (f := fun k => impl_depthOf.j3 k true 7 a v m) (fun k => by simp [impl_depthOf.j0]) (dj3t _ _ _ _)
          · exact Ev.step (f := fun k => impl_depthOf.j3 k true 8 a v m) (fun k => by simp [impl_depthOf.j0]) (dj3t _ _ _ _)
        · rw [if_neg o4] at h0
          rw [h0 rfl]
          have hd8 : (op == 8) = false := by simp; omega
          exact Ev.step (fun k => by simp only [impl_depthOf.j0]; rw [if_neg (by simp), if_neg o5, if_neg (by omega), if_neg (by omega), if_neg (by omega), hd8]) (dj3f _ _ _ _)

theorem sj1t (op : Int) (a v : ByteArray) (m : Int) : Ev (fun k => spec_l04Node.j1 k true op a v m) (nameB a && (properB v && decide (m = 0))) := by
  refine Ev.step (f := fun k => (spec_NameRight.f k a).bind fun t362 => if t362 = true then ((spec_l02Value.f k v).bind fun t363 => if t363 = true then some (m == 0) else some false) else some false) (fun k => by simp only [spec_l04Node.j1, if_true]) (Ev_bind (spec_name a) ?_)
  cases nameB a
  · exact Ev_some fun k => by simp
  · simp only [if_true, Bool.true_and]
    refine Ev_bind (spec_proper v) ?_
    cases properB v
    · exact Ev_some fun k => by simp
    · exact Ev_some fun k => by simp [Bool.beq_eq_decide_eq]
theorem spec_node (p : S155) : Ev (fun k => spec_l04Node.f k p.f0 p.f1 p.f2 p.f3) (nodeOkB p) := by
  obtain ⟨op, a, v, m⟩ := p
  show Ev (fun k => spec_l04Node.f k op a v m) _
  unfold nodeOkB spec_l04Node.f
  by_cases o12 : op = 1 ∨ op = 2
  · rw [if_pos o12]
    have key : Ev (fun k => spec_l04Node.j0 k op true op a v m) (emB a && (emB v && (decide (1 ≤ m) && decide (m ≤ 20)))) := by
      by_cases ha : a.toList = []
      · by_cases hv : v.toList = []
        · rw [emB_pos ha, emB_pos hv]
          exact Ev_one fun k => by simp only [spec_l04Node.j0, if_true]; rw [if_pos ha, if_pos hv, l02Is_eq]; rfl
        · rw [emB_neg hv]
          exact Ev_one fun k => by simp only [spec_l04Node.j0, if_true]; rw [if_pos ha, if_neg hv]; simp
      · rw [emB_neg ha]
        exact Ev_one fun k => by simp only [spec_l04Node.j0, if_true]; rw [if_neg ha]; simp
    rcases o12 with rfl | rfl
    · exact Ev.congr (fun k => by rw [if_pos rfl]; rfl) key
    · exact Ev.congr (fun k => by rw [if_neg (by omega)]; rfl) key
  · rw [if_neg o12]
    have hd2 : (op == 2) = false := by simp; omega
    have hj : ∀ u', Ev (fun k => spec_l04Node.j0 k op false op a v m) u' → Ev (fun k => if op = 1 then spec_l04Node.j0 k op (op == 1) op a v m else spec_l04Node.j0 k op (op == 2) op a v m) u' := fun u' hu => Ev.congr (fun k => by rw [if_neg (show ¬ op = 1 by omega), hd2]) hu
    refine hj _ ?_
    by_cases o3 : op = 3
    · rw [if_pos o3]
      subst o3
      by_cases ha : a.toList = []
      · by_cases hv : v.toList = []
        · rw [emB_pos ha, emB_pos hv]
          exact Ev_one fun k => by simp only [spec_l04Node.j0]; rw [if_neg (by simp)]; simp [ha, hv, Bool.beq_eq_decide_eq]
        · rw [emB_neg hv]
          exact Ev_one fun k => by simp only [spec_l04Node.j0]; rw [if_neg (by simp)]; simp [ha, hv]
      · rw [emB_neg ha]
        exact Ev_one fun k => by simp only [spec_l04Node.j0]; rw [if_neg (by simp)]; simp [ha]
    · rw [if_neg o3]
      by_cases o5 : op = 5
      · rw [if_pos o5]
        subst o5
        refine Ev.step (f := fun k => (spec_NameRight.f k a).bind fun t361 => if t361 = true then (if v.toList = [] then some (m == 0) else some false) else some false) (fun k => by simp [spec_l04Node.j0]) (Ev_bind (spec_name a) ?_)
        cases nameB a
        · exact Ev_some fun k => by simp
        · by_cases hv : v.toList = []
          · rw [emB_pos hv]
            exact Ev_some fun k => by simp [hv, Bool.beq_eq_decide_eq]
          · rw [emB_neg hv]
            exact Ev_some fun k => by simp [hv]
      · rw [if_neg o5]
        by_cases o4 : op = 4 ∨ op = 6 ∨ op = 7 ∨ op = 8
        · rw [if_pos o4]
          rcases o4 with rfl | rfl | rfl | rfl
          · exact Ev.step (f := fun k => spec_l04Node.j1 k true 4 a v m) (fun k => by simp [spec_l04Node.j0]) (sj1t _ _ _ _)
          · exact Ev.step (f := fun k => spec_l04Node.j1 k true 6 a v m) (fun k => by simp [spec_l04Node.j0]) (sj1t _ _ _ _)
          · exact Ev.step (f := fun k => spec_l04Node.j1 k true 7 a v m) (fun k => by simp [spec_l04Node.j0]) (sj1t _ _ _ _)
          · exact Ev.step (f := fun k => spec_l04Node.j1 k true 8 a v m) (fun k => by simp [spec_l04Node.j0]) (sj1t _ _ _ _)
        · rw [if_neg o4]
          have hd8 : (op == 8) = false := by simp; omega
          exact Ev_at 2 fun k => by simp only [spec_l04Node.j0]; rw [if_neg (by simp), if_neg o3, if_neg o5, if_neg (by omega), if_neg (by omega), if_neg (by omega), hd8]; simp [spec_l04Node.j1]
theorem node_rd (x : XS) (i : Nat) (h : i < x.length) : rd_T155 x (i : Int) = x[i]'h := getD_at h
/-- Both looks at a whole filter. -/
theorem filter_same (x : XS) : ∃ b, Ev (fun k => spec_FilterRight.f k x) b ∧ Ev (fun k => impl_FilterRight.f k x) b ∧ (b = true → x.length ≤ 20 ∧ ∃ D, Ev (fun k => impl_depthOf.f k x) ((x.length : Int), D) ∧ 0 < x.length) := by
  by_cases h12 : (x.length : Int) ≤ 20
  · obtain ⟨M, D, hf, hb, hs⟩ := depth_same nodeOkB (fun p => p.f3) impl_depthOf.f impl_depthOf.l0 spec_l04End.f spec_l04End.l0
      (fun p h => nodeOk_bounds h) (fun k x parts dm n i => rfl)
      (Ev_one (fun k => by simp [impl_depthOf.f]))
      (fun p r hp => depth_head p r _ (fun h => by rw [hp] at h; cases h) (fun _ => rfl))
      (fun p r v hp hv => depth_head p r v (fun _ => hv) (fun h => by rw [hp] at h; cases h))
      (fun k x at_ deep n => rfl)
      (fun x at_ deep h => Ev_at 2 (fun k => by simp only [spec_l04End.f]; rw [if_pos (by omega)]; simp [spec_l04End.j0]))
      (fun x at_ deep h => Ev_at 2 (fun k => by
        simp only [spec_l04End.f]
        by_cases h1 : (at_ : Int) ≥ (x.length : Int)
        · rw [if_pos h1]; simp [spec_l04End.j0]
        · rw [if_neg h1, if_pos h]; simp [spec_l04End.j0]))
      (fun x at_ h deep hd hp => Ev.step (f := fun k => (spec_l04Node.f k (x[at_]'h).f0 (x[at_]'h).f1 (x[at_]'h).f2 (x[at_]'h).f3).bind fun t => spec_l04End.j0 k x (at_ : Int) deep (!t))
        (fun k => by simp only [spec_l04End.f]; rw [if_neg (by omega), if_neg (by omega), if_pos (by omega), if_pos (by omega), node_rd x at_ h])
        (Ev_bind (spec_node _) (by rw [hp]; exact Ev_one (fun k => by simp [spec_l04End.j0]))))
      (fun x at_ h deep v hlen hd hp hv => Ev.step (f := fun k => (spec_l04Node.f k (x[at_]'h).f0 (x[at_]'h).f1 (x[at_]'h).f2 (x[at_]'h).f3).bind fun t => spec_l04End.j0 k x (at_ : Int) deep (!t))
        (fun k => by simp only [spec_l04End.f]; rw [if_neg (by omega), if_neg (by omega), if_pos (by omega), if_pos (by omega), node_rd x at_ h])
        (Ev_bind (spec_node _) (by
          rw [hp]
          refine Ev.step (f := fun k => spec_l04End.l0 k x (wrap64 (at_ + 1)) deep (x[at_]'h).f3) (fun k => by simp only [spec_l04End.j0]; rw [if_neg (by simp), if_pos (by omega), if_pos (by omega), node_rd x at_ h]) ?_
          rw [w_id (by omega) (by omega)]
          exact hv)))
      20 (by omega) x (by omega)
    have hs0 := hs x 0 rfl (Nat.zero_le _) (by omega) 1 (by omega) (by omega)
    refine ⟨(if 0 < M ∧ 1 - 1 + D ≤ 5 then ((0 : Nat) : Int) + M else -1) == (x.length : Int), ?_, ?_, ?_⟩
    · unfold spec_FilterRight.f
      simp only [if_pos h12]
      exact Ev_bind hs0 (Ev.now _)
    · unfold impl_FilterRight.f
      simp only [if_neg (show ¬ (x.length : Int) > 20 by omega)]
      refine Ev_bind hf ?_
      by_cases hM : M > 0
      · simp only [if_pos hM]
        by_cases hML : M = (x.length : Int)
        · simp only [if_pos hML]
          refine Ev_some (fun k => ?_)
          congr 1
          by_cases hD : D ≤ 5
          · rw [if_pos ⟨hM, by omega⟩, decide_eq_true hD]
            simp [hML]
          · rw [if_neg (by omega), decide_eq_false hD]
            symm
            rw [beq_eq_false_iff_ne]
            omega
        · simp only [if_neg hML]
          refine Ev_some (fun k => ?_)
          congr 1
          symm
          rw [beq_eq_false_iff_ne]
          split <;> omega
      · simp only [if_neg hM]
        refine Ev_some (fun k => ?_)
        congr 1
        symm
        rw [beq_eq_false_iff_ne, if_neg (by omega)]
        omega
    · intro hb2
      rw [beq_iff_eq] at hb2
      split at hb2
      · rename_i hc
        obtain rfl : M = (x.length : Int) := by omega
        exact ⟨by omega, D, hf, by omega⟩
      · omega
  · refine ⟨false, Ev_some (fun k => ?_), Ev_some (fun k => ?_), fun h => by cases h⟩
    · unfold spec_FilterRight.f
      rw [if_neg h12]
    · unfold impl_FilterRight.f
      rw [if_pos (by omega)]

end Go.Proofs.YtbgikfahcppkfaaGreatDoor.PG
