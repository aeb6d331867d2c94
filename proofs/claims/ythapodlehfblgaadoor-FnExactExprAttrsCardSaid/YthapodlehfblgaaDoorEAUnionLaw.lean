/-
  The program's union of lists of texts: it rises, and holds the lists' texts; two rising lists of the same texts are one; a text put among rising ones. Plain Lean. No condition.
-/
import Derived.Sort.Walk0
import Derived.Test.YthapodlehfblgaaDoorEAConcat
namespace Go.Proofs.YthapodlehfblgaaDoor.PG
set_option linter.unusedVariables false
set_option linter.unusedSimpArgs false
open Go.RowKit Go.Proofs.YthapodlehfblgaaDoorW.PrintWords Go.Proofs.YthapodlehfblgaaDoorW.PrintLast Go.Proofs.YthapodlehfblgaaDoorW.PrintMore Go.Proofs.YthapodlehfblgaaDoor.Gn

theorem comp_inv (zs : List (List UInt8)) (hs : ∀ i j, i < j → j < zs.length → zs.toArray[i]! ≤ zs.toArray[j]!) : ∀ m, m ≤ zs.length →
    (Lib.compactUpTo zs.toArray m).Pairwise (· < ·) ∧ (∀ x ∈ Lib.compactUpTo zs.toArray m, ∃ j, j < m ∧ zs.toArray[j]! = x) ∧ (∀ j, j < m → zs.toArray[j]! ∈ Lib.compactUpTo zs.toArray m) := by
  intro m
  induction m with
  | zero => intro _; refine ⟨by simp [Lib.compactUpTo], by simp [Lib.compactUpTo], fun j h => absurd h (Nat.not_lt_zero _)⟩
  | succ m ih =>
    intro hm
    obtain ⟨h1, h2, h3⟩ := ih (by omega)
    rw [Lib.compactUpTo_succ]
    cases hk : Lib.keeps zs.toArray m with
    | true =>
      simp only [if_true]
      refine ⟨?_, ?_, ?_⟩
      · rw [List.pairwise_append]
        refine ⟨h1, List.pairwise_singleton _ _, fun x hx y hy => ?_⟩
        obtain rfl := List.mem_singleton.1 hy
        obtain ⟨j, hj, rfl⟩ := h2 x hx
        simp only [Lib.keeps, decide_eq_true_eq] at hk
        rcases hk with hk | hk
        · omega
        have h5 : zs.toArray[m - 1]! ≤ zs.toArray[m]! := hs (m - 1) m (by omega) (by omega)
        have h6 : zs.toArray[m - 1]! < zs.toArray[m]! := by
          rcases Decidable.em (zs.toArray[m - 1]! < zs.toArray[m]!) with h | h
          · exact h
          · exact absurd (List.le_antisymm (List.not_lt.1 h) h5) hk
        rcases Nat.lt_or_ge j (m - 1) with h | h
        · exact List.lt_of_le_of_lt (hs j (m - 1) h (by omega)) h6
        · rw [show j = m - 1 by omega]; exact h6
      · intro x hx
        rcases List.mem_append.1 hx with hx | hx
        · obtain ⟨j, hj, e⟩ := h2 x hx
          exact ⟨j, by omega, e⟩
        · exact ⟨m, by omega, (List.mem_singleton.1 hx).symm⟩
      · intro j hj
        rcases Nat.lt_or_ge j m with h | h
        · exact List.mem_append_left _ (h3 j h)
        · rw [show j = m by omega]; exact List.mem_append_right _ (List.mem_singleton.2 rfl)
    | false =>
      simp only [Bool.false_eq_true, if_false, List.append_nil]
      refine ⟨h1, fun x hx => ?_, fun j hj => ?_⟩
      · obtain ⟨j, hj, e⟩ := h2 x hx
        exact ⟨j, by omega, e⟩
      · rcases Nat.lt_or_ge j m with h | h
        · exact h3 j h
        · have hj2 : j = m := by omega
          subst hj2
          simp only [Lib.keeps, decide_eq_false_iff_not, not_or, Decidable.not_not] at hk
          rw [hk.2]
          exact h3 (j - 1) (by omega)
theorem compact_sorted (zs : List (List UInt8)) (h : zs.Pairwise (· ≤ ·)) : (Lib.compact zs).Pairwise (· < ·) ∧ ∀ x, x ∈ Lib.compact zs ↔ x ∈ zs := by
  obtain ⟨h1, h2, h3⟩ := comp_inv zs (fun i j hij hj => by
    rw [getElem!_pos zs.toArray i (by simp; omega), getElem!_pos zs.toArray j (by simpa using hj)]
    simpa using List.pairwise_iff_getElem.1 h i j (by omega) hj hij) zs.length (Nat.le_refl _)
  refine ⟨h1, fun x => ⟨fun hx => ?_, fun hx => ?_⟩⟩
  · obtain ⟨j, hj, rfl⟩ := h2 x hx
    rw [getElem!_pos zs.toArray j (by simpa using hj)]
    simp
  · obtain ⟨j, hj, rfl⟩ := List.mem_iff_getElem.1 hx
    have h4 := h3 j hj
    rw [getElem!_pos zs.toArray j (by simpa using hj)] at h4
    simpa [Lib.compact] using h4
theorem sort_le (l : List (List UInt8)) : (l.mergeSort fun x y => decide (x ≤ y)).Pairwise (· ≤ ·) := by
  have := List.pairwise_mergeSort (le := fun x y : List UInt8 => decide (x ≤ y)) (fun a b c h1 h2 => by simp only [decide_eq_true_eq] at *; exact List.le_trans h1 h2) (fun a b => by simp only [Bool.or_eq_true, decide_eq_true_eq]; exact List.le_total a b) l
  simpa using this
theorem uniq {l1 l2 : List (List UInt8)} (h1 : l1.Pairwise (· < ·)) (h2 : l2.Pairwise (· < ·)) (h : ∀ x, x ∈ l1 ↔ x ∈ l2) : l1 = l2 := by
  induction l1 generalizing l2 with
  | nil =>
    cases l2 with
    | nil => rfl
    | cons b t => exact absurd ((h b).2 (by simp)) (by simp)
  | cons a s ih =>
    cases l2 with
    | nil => exact absurd ((h a).1 (by simp)) (by simp)
    | cons b t =>
      rw [List.pairwise_cons] at h1 h2
      have hab : a = b := by
        rcases List.mem_cons.1 ((h a).1 (by simp)) with h3 | h3
        · exact h3
        rcases List.mem_cons.1 ((h b).2 (by simp)) with h4 | h4
        · exact h4.symm
        exact absurd (h1.1 b h4) (List.lt_asymm (h2.1 a h3))
      subst hab
      rw [ih h1.2 h2.2 (fun x => ?_)]
      constructor
      · intro hx
        rcases List.mem_cons.1 ((h x).1 (by simp [hx])) with h3 | h3
        · subst h3; exact absurd (h1.1 x hx) (List.lt_irrefl x)
        · exact h3
      · intro hx
        rcases List.mem_cons.1 ((h x).2 (by simp [hx])) with h3 | h3
        · subst h3; exact absurd (h2.1 x hx) (List.lt_irrefl x)
        · exact h3

def lt8 (a b : ByteArray) : Prop := a.data.toList < b.data.toList
/-- Texts that rise. -/
def SB (l : List ByteArray) : Prop := l.Pairwise lt8
theorem less_iff (a b : ByteArray) : Op.bytesLess a.toList b.toList = decide (a.data.toList < b.data.toList) := by rw [bytesLess_eq, ByteArray.toList_eq, ByteArray.toList_eq]
theorem ba_ext {a b : ByteArray} (h : a.data.toList = b.data.toList) : a = b := by rw [← decB_enc a, ← decB_enc b, h]
instance decBA : DecidableEq ByteArray := fun a b => if h : a.data.toList = b.data.toList then isTrue (ba_ext h) else isFalse (fun e => h (by rw [e]))
instance decMem (x : ByteArray) : (l : List ByteArray) → Decidable (x ∈ l)
  | [] => isFalse (by simp)
  | y :: r => match decBA x y, decMem x r with
    | isTrue h, _ => isTrue (by rw [h]; exact List.mem_cons_self)
    | isFalse _, isTrue h2 => isTrue (List.mem_cons_of_mem _ h2)
    | isFalse h, isFalse h2 => isFalse (fun h3 => (List.mem_cons.1 h3).elim h h2)
theorem same_iff (a b : ByteArray) : a.toList = b.toList ↔ a = b := ⟨fun h => ba_ext (by rwa [ByteArray.toList_eq, ByteArray.toList_eq] at h), fun h => by rw [h]⟩
theorem SB_ext {l1 l2 : List ByteArray} (h1 : SB l1) (h2 : SB l2) (h : ∀ x, x ∈ l1 ↔ x ∈ l2) : l1 = l2 := by
  have p1 : (l1.map fun b => b.data.toList).Pairwise (· < ·) := by
    rw [List.pairwise_map]
    exact h1
  have p2 : (l2.map fun b => b.data.toList).Pairwise (· < ·) := by
    rw [List.pairwise_map]
    exact h2
  have e := uniq p1 p2 (fun x => by
    simp only [List.mem_map, h])
  have e2 := congrArg (List.map decB) e
  simpa only [List.map_map, show (decB ∘ fun b : ByteArray => b.data.toList) = id from funext decB_enc, List.map_id] using e2
theorem union_core (xs : List ByteArray) : (Lib.compact ((sortB xs).map fun b => b.data.toList)).Pairwise (· < ·) ∧ ∀ x, x ∈ Lib.compact ((sortB xs).map fun b => b.data.toList) ↔ x ∈ xs.map fun b => b.data.toList := by
  have e : (sortB xs).map (fun b => b.data.toList) = (xs.map fun b => b.data.toList).mergeSort fun x y => decide (x ≤ y) := by
    unfold sortB
    rw [List.map_map, show ((fun b : ByteArray => b.data.toList) ∘ decB) = id from funext enc_decB, List.map_id]
  rw [e]
  obtain ⟨h1, h2⟩ := compact_sorted _ (sort_le (xs.map fun b => b.data.toList))
  exact ⟨h1, fun x => (h2 x).trans (List.mergeSort_perm _ _).mem_iff⟩
theorem unionB_sorted (ls : List (List ByteArray)) : SB (unionB ls) := by
  unfold SB unionB compB
  rw [List.pairwise_map]
  refine (union_core ls.flatten).1.imp ?_
  intro a b h
  unfold lt8
  rwa [enc_decB, enc_decB]
theorem unionB_mem (ls : List (List ByteArray)) (x : ByteArray) : x ∈ unionB ls ↔ x ∈ ls.flatten := by
  unfold unionB compB
  rw [List.mem_map]
  constructor
  · rintro ⟨y, hy, rfl⟩
    obtain ⟨z, hz, rfl⟩ := List.mem_map.1 (((union_core ls.flatten).2 y).1 hy)
    rw [decB_enc]
    exact hz
  · intro hx
    exact ⟨x.data.toList, ((union_core ls.flatten).2 _).2 (List.mem_map.2 ⟨x, hx, rfl⟩), decB_enc x⟩
theorem SB_at {l : List ByteArray} (hs : SB l) {i j : Nat} (hi : i < l.length) (hj : j < l.length) (h : i < j) : lt8 (l[i]'hi) (l[j]'hj) := List.pairwise_iff_getElem.1 hs i j hi hj h
theorem lt8_trans {a b c : ByteArray} (h1 : lt8 a b) (h2 : lt8 b c) : lt8 a c := List.lt_trans h1 h2
theorem ins_sorted {l : List ByteArray} {t : ByteArray} {p : Nat} (hs : SB l) (hp : p ≤ l.length) (hlt : ∀ j (hj : j < l.length), j < p → lt8 (l[j]'hj) t) (hge : ∀ h : p < l.length, lt8 t (l[p]'h)) :
    SB (l.take p ++ [t] ++ l.drop p) ∧ ∀ x, x ∈ l.take p ++ [t] ++ l.drop p ↔ x = t ∨ x ∈ l := by
  have hd : ∀ x, x ∈ l.drop p → lt8 t x := by
    intro x hx
    obtain ⟨j, hj, rfl⟩ := List.mem_iff_getElem.1 hx
    rw [List.length_drop] at hj
    rw [List.getElem_drop]
    cases j with
    | zero => exact hge (by omega)
    | succ j => exact lt8_trans (hge (by omega)) (SB_at hs (by omega) (by omega) (by omega))
  have ht : ∀ x, x ∈ l.take p → lt8 x t := by
    intro x hx
    obtain ⟨j, hj, rfl⟩ := List.mem_iff_getElem.1 hx
    rw [List.length_take] at hj
    rw [List.getElem_take]
    exact hlt j (by omega) (by omega)
  refine ⟨?_, fun x => ?_⟩
  · unfold SB
    rw [List.pairwise_append, List.pairwise_append]
    refine ⟨⟨hs.sublist (List.take_sublist _ _), List.pairwise_singleton _ _, fun x hx y hy => ?_⟩, hs.sublist (List.drop_sublist _ _), fun x hx y hy => ?_⟩
    · obtain rfl := List.mem_singleton.1 hy
      exact ht x hx
    · rcases List.mem_append.1 hx with hx | hx
      · exact lt8_trans (ht x hx) (hd y hy)
      · obtain rfl := List.mem_singleton.1 hx
        exact hd y hy
  · conv => rhs; rw [← List.take_append_drop p l]
    simp only [List.mem_append, List.mem_singleton]
    constructor
    · rintro ((h | h) | h)
      · exact .inr (.inl h)
      · exact .inl h
      · exact .inr (.inr h)
    · rintro (h | h | h)
      · exact .inl (.inr h)
      · exact .inl (.inl h)
      · exact .inr h
end Go.Proofs.YthapodlehfblgaaDoor.PG
