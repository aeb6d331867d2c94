/-
  Lists of texts that rise: two of the same texts are one; a text put among them; a list in order. Plain Lean. No condition.
-/
import Derived.Sort.Walk0
import Derived.Test.YtbgikfahcppkfaaSOStrSort
namespace Go.Proofs.Ytbgikfahcppkfaa.PG
set_option linter.unusedVariables false
set_option linter.unusedSimpArgs false
open Go.RowKit Go.Proofs.YtbgikfahcppkfaaW.PrintWords Go.Proofs.YtbgikfahcppkfaaW.PrintLast Go.Proofs.YtbgikfahcppkfaaW.PrintMore Go.Proofs.Ytbgikfahcppkfaa.Gn

theorem sort_le (l : List (List UInt8)) : (l.mergeSort fun x y => decide (x ≤ y)).Pairwise (· ≤ ·) := by
  have := List.pairwise_mergeSort (le := fun x y : List UInt8 => decide (x ≤ y)) (fun a b c h1 h2 => by simp only [decide_eq_true_eq] at *; exact List.le_trans h1 h2) (fun a b => by simp only [Bool.or_eq_true, decide_eq_true_eq]; exact List.le_total a b) l
  simpa using this
theorem uniq {l1 l2 : List (List UInt8)} (h1 : l1.Pairwise (· < ·)) (h2 : l2.Pairwise (· < ·)) (h : ∀ x, x ∈ l1 ↔ x ∈ l2) : l1 = l2 := by
  induction l1 generalizing l2 with
  | nil =>
    cases l2 with
    | nil => rfl
    | cons b t => exact absurd ((h b).2 (by simp)) (by simp)
  | cons a s ih =>
    cases l2 with
    | nil => exact absurd ((h a).1 (by simp)) (by simp)
    | cons b t =>
      rw [List.pairwise_cons] at h1 h2
      have hab : a = b := by
        rcases List.mem_cons.1 ((h a).1 (by simp)) with h3 | h3
        · exact h3
        rcases List.mem_cons.1 ((h b).2 (by simp)) with h4 | h4
        · exact h4.symm
        exact absurd (h1.1 b h4) (List.lt_asymm (h2.1 a h3))
      subst hab
      rw [ih h1.2 h2.2 (fun x => ?_)]
      constructor
      · intro hx
        rcases List.mem_cons.1 ((h x).1 (by simp [hx])) with h3 | h3
        · subst h3; exact absurd (h1.1 x hx) (List.lt_irrefl x)
        · exact h3
      · intro hx
        rcases List.mem_cons.1 ((h x).2 (by simp [hx])) with h3 | h3
        · subst h3; exact absurd (h2.1 x hx) (List.lt_irrefl x)
        · exact h3

def lt8 (a b : ByteArray) : Prop := a.data.toList < b.data.toList
/-- Texts that rise. -/
def SB (l : List ByteArray) : Prop := l.Pairwise lt8
theorem less_iff (a b : ByteArray) : Op.bytesLess a.toList b.toList = decide (a.data.toList < b.data.toList) := by rw [bytesLess_eq, ByteArray.toList_eq, ByteArray.toList_eq]
theorem ba_ext {a b : ByteArray} (h : a.data.toList = b.data.toList) : a = b := by rw [← decB_enc a, ← decB_enc b, h]
instance decBA : DecidableEq ByteArray := fun a b => if h : a.data.toList = b.data.toList then isTrue (ba_ext h) else isFalse (fun e => h (by rw [e]))
instance decMem (x : ByteArray) : (l : List ByteArray) → Decidable (x ∈ l)
  | [] => isFalse (by simp)
  | y :: r => match decBA x y, decMem x r with
    | isTrue h, _ => isTrue (by rw [h]; exact List.mem_cons_self)
    | isFalse _, isTrue h2 => isTrue (List.mem_cons_of_mem _ h2)
    | isFalse h, isFalse h2 => isFalse (fun h3 => (List.mem_cons.1 h3).elim h h2)
theorem same_iff (a b : ByteArray) : a.toList = b.toList ↔ a = b := ⟨fun h => ba_ext (by rwa [ByteArray.toList_eq, ByteArray.toList_eq] at h), fun h => by rw [h]⟩
theorem SB_ext {l1 l2 : List ByteArray} (h1 : SB l1) (h2 : SB l2) (h : ∀ x, x ∈ l1 ↔ x ∈ l2) : l1 = l2 := by
  have p1 : (l1.map fun b => b.data.toList).Pairwise (· < ·) := by
    rw [List.pairwise_map]
    exact h1
  have p2 : (l2.map fun b => b.data.toList).Pairwise (· < ·) := by
    rw [List.pairwise_map]
    exact h2
  have e := uniq p1 p2 (fun x => by
    simp only [List.mem_map, h])
  have e2 := congrArg (List.map decB) e
  simpa only [List.map_map, show (decB ∘ fun b : ByteArray => b.data.toList) = id from funext decB_enc, List.map_id] using e2
theorem SB_at {l : List ByteArray} (hs : SB l) {i j : Nat} (hi : i < l.length) (hj : j < l.length) (h : i < j) : lt8 (l[i]'hi) (l[j]'hj) := List.pairwise_iff_getElem.1 hs i j hi hj h
theorem lt8_trans {a b c : ByteArray} (h1 : lt8 a b) (h2 : lt8 b c) : lt8 a c := List.lt_trans h1 h2
theorem ins_sorted {l : List ByteArray} {t : ByteArray} {p : Nat} (hs : SB l) (hp : p ≤ l.length) (hlt : ∀ j (hj : j < l.length), j < p → lt8 (l[j]'hj) t) (hge : ∀ h : p < l.length, lt8 t (l[p]'h)) :
    SB (l.take p ++ [t] ++ l.drop p) ∧ ∀ x, x ∈ l.take p ++ [t] ++ l.drop p ↔ x = t ∨ x ∈ l := by
  have hd : ∀ x, x ∈ l.drop p → lt8 t x := by
    intro x hx
    obtain ⟨j, hj, rfl⟩ := List.mem_iff_getElem.1 hx
    rw [List.length_drop] at hj
    rw [List.getElem_drop]
    cases j with
    | zero => exact hge (by omega)
    | succ j => exact lt8_trans (hge (by omega)) (SB_at hs (by omega) (by omega) (by omega))
  have ht : ∀ x, x ∈ l.take p → lt8 x t := by
    intro x hx
    obtain ⟨j, hj, rfl⟩ := List.mem_iff_getElem.1 hx
    rw [List.length_take] at hj
    rw [List.getElem_take]
    exact hlt j (by omega) (by omega)
  refine ⟨?_, fun x => ?_⟩
  · unfold SB
    rw [List.pairwise_append, List.pairwise_append]
    refine ⟨⟨hs.sublist (List.take_sublist _ _), List.pairwise_singleton _ _, fun x hx y hy => ?_⟩, hs.sublist (List.drop_sublist _ _), fun x hx y hy => ?_⟩
    · obtain rfl := List.mem_singleton.1 hy
      exact ht x hx
    · rcases List.mem_append.1 hx with hx | hx
      · exact lt8_trans (ht x hx) (hd y hy)
      · obtain rfl := List.mem_singleton.1 hx
        exact hd y hy
  · conv => rhs; rw [← List.take_append_drop p l]
    simp only [List.mem_append, List.mem_singleton]
    constructor
    · rintro ((h | h) | h)
      · exact .inr (.inl h)
      · exact .inl h
      · exact .inr (.inr h)
    · rintro (h | h | h)
      · exact .inl (.inr h)
      · exact .inl (.inl h)
      · exact .inr h
end Go.Proofs.Ytbgikfahcppkfaa.PG
