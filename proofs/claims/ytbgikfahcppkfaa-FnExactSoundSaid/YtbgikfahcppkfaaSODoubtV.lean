/-
  Logins of more than one required account: those that come twice, as they come. Plain Lean. No condition.
-/
import Derived.Test.YtbgikfahcppkfaaSOP1
import Derived.Test.YtbgikfahcppkfaaSORise
namespace Go.Proofs.Ytbgikfahcppkfaa.PG
set_option linter.unusedVariables false
set_option linter.unusedSimpArgs false
open Go.RowKit Go.Proofs.YtbgikfahcppkfaaW.PrintWords Go.Proofs.YtbgikfahcppkfaaW.PrintLast Go.Proofs.YtbgikfahcppkfaaW.PrintMore Go.Proofs.Ytbgikfahcppkfaa.Gn

def okW (w : S77) : Bool := decide (w.f4 = 0)
/-- How many of some accounts that are right have a login. -/
def cntW (s : ByteArray) : List S77 → Nat
  | [] => 0
  | w :: r => (if okW w = true ∧ w.f1 = s then 1 else 0) + cntW s r
theorem cntW_app (s : ByteArray) : ∀ a b : List S77, cntW s (a ++ b) = cntW s a + cntW s b
  | [], b => by simp [cntW]
  | w :: r, b => by
    simp only [List.cons_append, cntW, cntW_app s r b]
    omega
theorem cntW_snoc (s : ByteArray) (p : List S77) (w : S77) : cntW s (p ++ [w]) = cntW s p + (if okW w = true ∧ w.f1 = s then 1 else 0) := by
  rw [cntW_app]
  simp [cntW]
theorem cntW_le (s : ByteArray) : ∀ p : List S77, cntW s p ≤ p.length
  | [] => Nat.le_refl _
  | w :: r => by
    have := cntW_le s r
    simp only [cntW, List.length_cons]
    split <;> omega
/-- The logins that come for the second time, behind the accounts p. -/
def outW : List S77 → List S77 → List ByteArray
  | _, [] => []
  | p, w :: r => (if okW w = true ∧ cntW w.f1 p = 1 then [w.f1] else []) ++ outW (p ++ [w]) r
theorem outW_len : ∀ (r p : List S77), (outW p r).length ≤ r.length
  | [], _ => Nat.le_refl _
  | w :: r, p => by
    have := outW_len r (p ++ [w])
    simp only [outW, List.length_append, List.length_cons]
    split
    · simp only [List.length_singleton]; omega
    · simp only [List.length_nil]; omega
theorem outW_mem (s : ByteArray) : ∀ (r p : List S77), s ∈ outW p r ↔ cntW s p ≤ 1 ∧ 2 ≤ cntW s (p ++ r)
  | [], p => by
    simp only [outW, List.not_mem_nil, List.append_nil, false_iff]
    omega
  | w :: r, p => by
    have ih := outW_mem s r (p ++ [w])
    rw [List.append_assoc, List.singleton_append, cntW_snoc] at ih
    have hge : cntW s (p ++ w :: r) = cntW s p + (if okW w = true ∧ w.f1 = s then 1 else 0) + cntW s r := by
      rw [cntW_app]
      simp only [cntW]
      omega
    simp only [outW, List.mem_append, ih]
    by_cases hs : okW w = true ∧ w.f1 = s
    · obtain ⟨h1, rfl⟩ := hs
      have hi : (if okW w = true ∧ w.f1 = w.f1 then 1 else 0) = 1 := if_pos ⟨h1, rfl⟩
      rw [hi] at hge ⊢
      by_cases hc : cntW w.f1 p = 1
      · rw [if_pos ⟨h1, hc⟩]
        simp only [List.mem_singleton]
        constructor
        · intro _
          omega
        · intro _
          exact .inl (by trivial)
      · rw [if_neg (fun h => hc h.2)]
        simp only [List.not_mem_nil, false_or]
        omega
    · have hi : (if okW w = true ∧ w.f1 = s then 1 else 0) = 0 := if_neg hs
      rw [hi] at hge ⊢
      have hn : ¬ s ∈ (if okW w = true ∧ cntW w.f1 p = 1 then [w.f1] else []) := by
        intro h
        by_cases hc : okW w = true ∧ cntW w.f1 p = 1
        · rw [if_pos hc] at h
          exact hs ⟨hc.1, (List.mem_singleton.1 h).symm⟩
        · rw [if_neg hc] at h
          exact absurd h (by simp)
      constructor
      · rintro (h | h)
        · exact absurd h hn
        · omega
      · intro h
        exact .inr (by omega)
theorem outW_once : ∀ (r p : List S77), (outW p r).Pairwise (fun a b => a ≠ b)
  | [], _ => List.Pairwise.nil
  | w :: r, p => by
    have ih := outW_once r (p ++ [w])
    simp only [outW]
    by_cases hc : okW w = true ∧ cntW w.f1 p = 1
    · rw [if_pos hc, List.singleton_append, List.pairwise_cons]
      refine ⟨fun b hb he => ?_, ih⟩
      subst he
      have h1 := ((outW_mem w.f1 r (p ++ [w])).1 hb).1
      rw [cntW_snoc, if_pos ⟨hc.1, rfl⟩] at h1
      omega
    · rw [if_neg hc, List.nil_append]
      exact ih
theorem sortB_perm (xs : List ByteArray) : (sortB xs).Perm xs := by
  unfold sortB
  have h := (List.mergeSort_perm (xs.map fun b => b.data.toList) (fun x y => decide (x ≤ y))).map decB
  rw [List.map_map, show (decB ∘ fun b : ByteArray => b.data.toList) = id from funext decB_enc, List.map_id] at h
  exact h
theorem sortB_le (xs : List ByteArray) : (sortB xs).Pairwise (fun a b => a.data.toList ≤ b.data.toList) := by
  unfold sortB
  rw [List.pairwise_map]
  refine (sort_le (xs.map fun b => b.data.toList)).imp ?_
  intro a b h
  rwa [enc_decB, enc_decB]
theorem sortB_rises (xs : List ByteArray) (h : xs.Pairwise (fun a b => a ≠ b)) : SB (sortB xs) := by
  have h1 : (sortB xs).Pairwise (fun a b => a ≠ b) := ((sortB_perm xs).pairwise_iff (fun h => Ne.symm h)).2 h
  refine (List.Pairwise.and (sortB_le xs) h1).imp ?_
  rintro a b ⟨h2, h3⟩
  unfold lt8
  rcases Decidable.em (a.data.toList < b.data.toList) with h4 | h4
  · exact h4
  · exact absurd (ba_ext (List.le_antisymm h2 (List.not_lt.1 h4))) h3
/-- The logins that are doubtful, in order. -/
def doubtV (l : List S77) : List ByteArray := sortB (outW [] l)
theorem doubtV_rises (l : List S77) : SB (doubtV l) := sortB_rises _ (outW_once l [])
theorem doubtV_mem (l : List S77) (s : ByteArray) : s ∈ doubtV l ↔ 2 ≤ cntW s l := by
  unfold doubtV
  rw [(sortB_perm _).mem_iff, outW_mem]
  simp [cntW]
theorem doubtV_len (l : List S77) : (doubtV l).length ≤ l.length := by
  unfold doubtV
  rw [sortB_length]
  exact outW_len l []
end Go.Proofs.Ytbgikfahcppkfaa.PG
