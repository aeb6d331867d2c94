/-
  Where the names of attributes rise, the binary search finds what a search from the first on finds. No condition.
-/
import Derived.Test.YthapodlehfblgaaDoorAOP2
import Derived.Test.YthapodlehfblgaaDoorAOFind
import Derived.Test.YthapodlehfblgaaDoorAOEntry
namespace Go.Proofs.YthapodlehfblgaaDoor.PA
set_option linter.unusedVariables false
set_option linter.unusedSimpArgs false
open Go.RowKit Go.Proofs.YthapodlehfblgaaDoorW.PrintWords Go.Proofs.YthapodlehfblgaaDoorW.PrintLast Go.Proofs.YthapodlehfblgaaDoorW.PrintMore Go.Proofs.YthapodlehfblgaaDoor.Gn Go.Proofs.YthapodlehfblgaaDoor.Sem

theorem less_irrefl : ∀ a : List UInt8, Op.bytesLess a a = false
  | [] => rfl
  | a :: x => by
    unfold Op.bytesLess
    have h : ¬ a < a := fun h => by have := UInt8.lt_iff_toNat_lt.1 h; omega
    simp [h, less_irrefl x]
theorem less_trans : ∀ a b c : List UInt8, Op.bytesLess a b = true → Op.bytesLess b c = true → Op.bytesLess a c = true
  | [], _, [], _, h => by cases ‹List UInt8› <;> simp [Op.bytesLess] at h
  | [], _, _ :: _, _, _ => rfl
  | _ :: _, [], _, h, _ => by simp [Op.bytesLess] at h
  | _ :: _, _ :: _, [], _, h => by simp [Op.bytesLess] at h
  | a :: x, b :: y, c :: z, h1, h2 => by
    unfold Op.bytesLess at h1 h2 ⊢
    simp only [Bool.or_eq_true, Bool.and_eq_true, decide_eq_true_eq, beq_iff_eq] at h1 h2 ⊢
    rcases h1 with h1 | ⟨rfl, h1⟩
    · rcases h2 with h2 | ⟨rfl, h2⟩
      · left
        rw [UInt8.lt_iff_toNat_lt] at *
        omega
      · exact .inl h1
    · rcases h2 with h2 | ⟨rfl, h2⟩
      · exact .inl h2
      · exact .inr ⟨rfl, less_trans x y z h1 h2⟩
theorem cmpS_neg (a b : ByteArray) : cmpS a b < 0 ↔ lessB a b = true := by
  unfold cmpS lessB
  cases h : Op.bytesLess a.toList b.toList
  · simp
    split <;> omega
  · simp
theorem cmpS_zero (a b : ByteArray) : cmpS a b = 0 ↔ a.toList = b.toList := by
  unfold cmpS
  cases h : Op.bytesLess a.toList b.toList
  · simp
  · simp
    intro e
    rw [e, less_irrefl] at h
    cases h
def UpNames (l : List S102) : Prop := ∀ i (h : i + 1 < l.length), lessB (l[i]'(by omega)).f0 (l[i + 1]'h).f0 = true
theorem up_far {l : List S102} (h : UpNames l) : ∀ (d a : Nat) (hb : a + d + 1 < l.length), lessB (l[a]'(by omega)).f0 (l[a + d + 1]'hb).f0 = true
  | 0, a, hb => h a hb
  | d + 1, a, hb => less_trans _ _ _ (up_far h d a (by omega)) (h (a + d + 1) hb)
theorem up_lt {l : List S102} (h : UpNames l) {a b : Nat} (hb : b < l.length) (hab : a < b) : lessB (l[a]'(by omega)).f0 (l[b]'hb).f0 = true := by
  obtain ⟨d, rfl⟩ : ∃ d, b = a + d + 1 := ⟨b - a - 1, by omega⟩
  exact up_far h d a hb
theorem rises_of {l : List S102} (h : UpNames l) : Rises l := by
  intro name a b hb hab hc
  rcases Nat.lt_or_eq_of_le hab with hlt | rfl
  · rw [cmpS_neg] at hc ⊢
    exact less_trans _ _ _ (up_lt h hb hlt) hc
  · exact hc
/-- The place of a name, from the first on. -/
def atL (name : ByteArray) (l : List S102) : Int := idx (fun x => x.f0.toList == name.toList) l
theorem find_at {l : List S102} (h : UpNames l) (name : ByteArray) : (findB name l = true ∧ atL name l = (findI name l : Int)) ∨ (findB name l = false ∧ atL name l = -1) := by
  have hlow : ∀ j (hj : j < l.length), j < findI name l → cmpS (l[j]'hj).f0 name < 0 := by
    intro j hj hji
    have := List.not_of_lt_findIdx (p := fun x : S102 => !decide (cmpS x.f0 name < 0)) (xs := l) hji
    simpa using this
  by_cases hlt : findI name l < l.length
  · have hnot : ¬ cmpS (l[findI name l]'hlt).f0 name < 0 := by
      have := List.findIdx_getElem (p := fun x : S102 => !decide (cmpS x.f0 name < 0)) (xs := l) (w := hlt)
      exact of_decide_eq_false ((Bool.not_eq_true' _).mp this)
    have hB : findB name l = decide (cmpS (l[findI name l]'hlt).f0 name = 0) := by
      unfold findB bsB
      rw [show bsI (fun x : S102 => cmpS x.f0 name) l = findI name l from rfl, List.getElem?_eq_getElem hlt]
    by_cases h0 : cmpS (l[findI name l]'hlt).f0 name = 0
    · refine .inl ⟨by rw [hB]; exact decide_eq_true h0, idx_hit hlt (by simpa using (cmpS_zero _ _).1 h0) (fun j hj hji => ?_)⟩
      have := hlow j hj hji
      rw [beq_eq_false_iff_ne]
      intro e
      rw [(cmpS_zero _ _).2 e] at this
      omega
    · refine .inr ⟨by rw [hB]; exact decide_eq_false h0, idx_none (fun j hj _ => ?_)⟩
      rw [beq_eq_false_iff_ne]
      intro e
      rcases Nat.lt_trichotomy j (findI name l) with h1 | h1 | h1
      · have := hlow j hj h1
        rw [(cmpS_zero _ _).2 e] at this
        omega
      · subst h1
        exact h0 ((cmpS_zero _ _).2 e)
      · have := up_lt h hj h1
        apply hnot
        rw [cmpS_neg]
        unfold lessB at this ⊢
        rw [e] at this
        exact this
  · refine .inr ⟨?_, idx_none (fun j hj _ => ?_)⟩
    · unfold findB bsB
      rw [show bsI (fun x : S102 => cmpS x.f0 name) l = findI name l from rfl, List.getElem?_eq_none (by omega)]
    · have := hlow j hj (by omega)
      rw [beq_eq_false_iff_ne]
      intro e
      rw [(cmpS_zero _ _).2 e] at this
      omega
def valsL (name : ByteArray) (l : List S102) : List ByteArray := if atL name l < 0 then [] else (rd_T102 l (atL name l)).f1
theorem vals_at {l : List S102} (h : UpNames l) (name : ByteArray) : valsOf name l = valsL name l := by
  unfold valsOf valsL
  rcases find_at h name with ⟨h1, h2⟩ | ⟨h1, h2⟩
  · rw [h1, h2, if_pos rfl, if_neg (by omega)]
  · rw [h1, h2, if_neg (by simp), if_pos (by omega)]
theorem attr_rd (l : List S102) (i : Nat) (h : i < l.length) : rd_T102 l (i : Int) = l[i]'h := getD_at h
theorem up_of_entry {d : List S103} {l : List S102} (h : entryB d l = true) : UpNames l := by
  unfold entryB at h
  simp only [Bool.and_eq_true, List.all_eq_true, List.mem_range] at h
  intro i hi
  have := h.2.2.2 (i + 1) hi
  unfold attrAt stepB at this
  simp only [Bool.and_eq_true, Bool.or_eq_true, decide_eq_true_eq] at this
  rcases this.2 with h0 | h0
  · omega
  · rw [show (((i + 1 : Nat) : Int) - 1) = (i : Int) by omega, attr_rd l i (by omega), attr_rd l (i + 1) hi] at h0
    exact h0

/-! ### the reference -/
theorem spec_at (name : ByteArray) (d : List S103) (l : List S102) (hl : l.length ≤ 9223372036854775807) : Ev (fun k => spec_l03At.f k d l name) (atL name l) := by
  unfold spec_l03At.f
  have key : ∀ (m i : Nat), i + m = l.length → (∀ j (hj : j < l.length), j < i → ((l[j]'hj).f0.toList == name.toList) = false) → Ev (fun k => spec_l03At.l0 k name (i : Int) d l) (atL name l) := by
    intro m
    induction m with
    | zero =>
      intro i hi hb
      rw [show atL name l = -1 from idx_none (fun j hj _ => hb j hj (by omega))]
      exact Ev_one fun k => by simp only [spec_l03At.l0]; rw [if_neg (by omega)]
    | succ m ih =>
      intro i hi hb
      have hlt : i < l.length := by omega
      have e0 : wrap64 ((i : Int) + 1) = ((i + 1 : Nat) : Int) := by rw [wsucc (by omega) (by omega)]; omega
      refine Ev.step (fun k => by simp only [spec_l03At.l0]; rw [if_pos (by omega), if_pos (by omega), e0, attr_rd l i hlt]) ?_
      by_cases h : (l[i]'hlt).f0.toList = name.toList
      · rw [show atL name l = (i : Int) from idx_hit hlt (by simpa using h) hb]
        exact Ev_some fun k => by rw [if_pos h]
      · refine Ev.congr (fun k => by rw [if_neg h]) (ih (i + 1) (by omega) (fun j hj hji => ?_))
        rcases Nat.lt_succ_iff_lt_or_eq.1 hji with h1 | rfl
        · exact hb j hj h1
        · simpa using h
  exact key l.length 0 (by omega) (fun j hj h => absurd h (Nat.not_lt_zero _))
theorem atL_lt (name : ByteArray) (l : List S102) : atL name l < (l.length : Int) := by
  unfold atL
  rcases idx_cases (fun x : S102 => x.f0.toList == name.toList) l with ⟨h, _⟩ | ⟨k, hk, h, _⟩
  · omega
  · omega
theorem spec_of (name : ByteArray) (d : List S103) (l : List S102) (hl : l.length ≤ 9223372036854775807) : Ev (fun k => spec_l03Of.f k d l name) (valsL name l) := by
  unfold spec_l03Of.f
  refine Ev_bind (spec_at name d l hl) ?_
  unfold valsL
  by_cases h : atL name l < 0
  · rw [if_pos h]
    exact Ev_some fun k => by rw [if_pos h]
  · rw [if_neg h]
    have := atL_lt name l
    exact Ev_some fun k => by rw [if_neg h, if_pos (by omega), if_pos (by omega)]
theorem valsL_mem (name : ByteArray) (l : List S102) (P : List ByteArray → Prop) (h0 : P []) (h : ∀ x, x ∈ l → P x.f1) : P (valsL name l) := by
  unfold valsL
  by_cases hn : atL name l < 0
  · rw [if_pos hn]
    exact h0
  · rw [if_neg hn]
    obtain ⟨i, hi⟩ : ∃ i : Nat, atL name l = (i : Int) := ⟨(atL name l).toNat, by omega⟩
    have := atL_lt name l
    rw [hi, attr_rd l i (by omega)]
    exact h _ (List.getElem_mem _)
end Go.Proofs.YthapodlehfblgaaDoor.PA
