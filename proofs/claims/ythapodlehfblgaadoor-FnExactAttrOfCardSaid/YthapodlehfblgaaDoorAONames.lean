/-
  The program's NameRight and the reference's NameRight both say whether a string is a name (Sem.nameB). No condition.
-/
import Derived.Test.YthapodlehfblgaaDoorAOP3
import Derived.Test.YthapodlehfblgaaDoorAOP1
import Derived.Test.YthapodlehfblgaaDoorAOSem
import Derived.Test.YthapodlehfblgaaDoorAOLibTrim
namespace Go.Proofs.YthapodlehfblgaaDoor.PA
set_option linter.unusedSimpArgs false
set_option linter.unusedVariables false
open Go.RowKit Go.Proofs.YthapodlehfblgaaDoorW.PrintWords Go.Proofs.YthapodlehfblgaaDoorW.PrintLast Go.Proofs.YthapodlehfblgaaDoor.Gn Go.Proofs.YthapodlehfblgaaDoor.Sem

theorem impl_name (s : ByteArray) : impl_NameRight.f s = some (nameB s) := by
  unfold impl_NameRight.f nameB
  by_cases h1 : (s.size : Int) ≥ 1
  · rw [if_pos h1, decide_eq_true (show 1 ≤ s.size by omega), Bool.true_and]
    by_cases h2 : (s.size : Int) ≤ 20
    · rw [if_pos h2, if_pos (by omega), decide_eq_true (show s.size ≤ 20 by omega), Bool.true_and]
      unfold isLo
      by_cases h3 : bt s 0 ≥ 97
      · rw [if_pos h3, decide_eq_true (show 97 ≤ bt s 0 by omega), Bool.true_and]
        by_cases h4 : bt s 0 ≤ 122
        · rw [if_pos h4, decide_eq_true h4, Bool.true_and]
          have hk : trimOk s (⟨#[97, 98, 99, 100, 101, 102, 103, 104, 105, 106, 107, 108, 109, 110, 111, 112, 113, 114, 115, 116, 117, 118, 119, 120, 121, 122, 48, 49, 50, 51, 52, 53, 54, 55, 56, 57, 95]⟩ : ByteArray) = true := by
            unfold trimOk
            rw [decide_eq_true (show s.size ≤ 9223372036854775807 by omega), Bool.true_and]
            decide
          unfold strings_Trim.f
          rw [if_pos hk, Option.bind_some, ByteArray.toList_eq]
          congr 1
          refine (trimS_nil s.data.toList nmSet).trans ?_
          exact all_bytes s (nmSet.contains ·) isNm nm_set
        · rw [if_neg h4, decide_eq_false h4, Bool.false_and]
      · rw [if_neg h3, decide_eq_false (show ¬ 97 ≤ bt s 0 by omega), Bool.false_and, Bool.false_and]
    · rw [if_neg h2, decide_eq_false (show ¬ s.size ≤ 20 by omega), Bool.false_and]
  · rw [if_neg h1, decide_eq_false (show ¬ 1 ≤ s.size by omega), Bool.false_and]

theorem spec_name_loop (s : ByteArray) (hs : s.size ≤ 20) : Ev (fun k => spec_NameRight.l0 k s 0) ((List.range s.size).all fun j => isLo (bt s (j : Int)) || (decide (j ≠ 0) && (isDi (bt s (j : Int)) || decide (bt s (j : Int) = 95)))) := by
  refine bytes_loop s (fun j c => isLo c || (decide (j ≠ 0) && (isDi c || decide (c = 95)))) (fun k i => spec_NameRight.l0 k s i) (fun k i hi => ?_) (fun k => ?_)
  · simp only [spec_NameRight.l0]
    rw [if_pos (by omega), if_pos (by omega), wsucc (by omega) (by omega)]
    have e0 : ((i : Int) + 1) = ((i + 1 : Nat) : Int) := by omega
    rw [e0]
    unfold isLo isDi
    generalize bt s (i : Int) = c
    by_cases h1 : 97 ≤ c <;> by_cases h2 : c ≤ 122 <;> by_cases h3 : i = 0 <;> by_cases h4 : 48 ≤ c <;> by_cases h5 : c ≤ 57 <;> by_cases h6 : c = 95 <;> simp [h1, h2, h3, h4, h5, h6] <;> omega
  · simp only [spec_NameRight.l0]
    rw [if_neg (by omega)]

theorem spec_name (s : ByteArray) : Ev (fun k => spec_NameRight.f k s) (nameB s) := by
  unfold nameB
  by_cases h1 : (s.size : Int) < 1
  · rw [decide_eq_false (show ¬ 1 ≤ s.size by omega), Bool.false_and]
    refine Ev_one (fun k => ?_)
    unfold spec_NameRight.f
    rw [if_pos h1]
    simp [spec_NameRight.j0]
  · rw [decide_eq_true (show 1 ≤ s.size by omega), Bool.true_and]
    by_cases h2 : s.size ≤ 20
    · rw [decide_eq_true h2, Bool.true_and]
      have e : (isLo (bt s 0) && (List.range s.size).all fun j => isNm (bt s (j : Int))) = (List.range s.size).all fun j => isLo (bt s (j : Int)) || (decide (j ≠ 0) && (isDi (bt s (j : Int)) || decide (bt s (j : Int) = 95))) := by
        rw [Bool.eq_iff_iff, Bool.and_eq_true, List.all_eq_true, List.all_eq_true]
        constructor
        · rintro ⟨h3, h4⟩ j hj
          have := h4 j hj
          by_cases hj0 : j = 0
          · subst hj0
            simp [h3]
          · simpa [isNm, hj0] using this
        · intro h3
          have h0 := h3 0 (by simp; omega)
          refine ⟨by simpa using h0, fun j hj => ?_⟩
          have := h3 j hj
          simp only [isNm, Bool.or_eq_true, Bool.and_eq_true] at this ⊢
          rcases this with h | ⟨_, h⟩
          · exact .inl h
          · exact .inr h
      rw [e]
      refine Ev.step (f := fun k => spec_NameRight.l0 k s 0) (fun k => ?_) (spec_name_loop s h2)
      unfold spec_NameRight.f
      rw [if_neg h1, decide_eq_false (by omega)]
      simp [spec_NameRight.j0]
    · rw [decide_eq_false h2, Bool.false_and]
      refine Ev_one (fun k => ?_)
      unfold spec_NameRight.f
      rw [if_neg h1, decide_eq_true (by omega)]
      simp [spec_NameRight.j0]
end Go.Proofs.YthapodlehfblgaaDoor.PA
