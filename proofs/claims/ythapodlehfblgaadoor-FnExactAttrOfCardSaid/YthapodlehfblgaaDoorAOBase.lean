/-
  The looks for printable bytes and for a number's bounds, of the program and of the reference, come to the same plain tests; loops that look at every place. No condition but the bounds on lengths that are stated.
-/
import Derived.Test.YthapodlehfblgaaDoorAOP2
import Derived.Test.YthapodlehfblgaaDoorAOP1
import Derived.Test.YthapodlehfblgaaDoorAOSem
namespace Go.Proofs.YthapodlehfblgaaDoor.PA
set_option linter.unusedSimpArgs false
set_option linter.unusedVariables false
open Go.RowKit Go.Proofs.YthapodlehfblgaaDoorW.PrintWords Go.Proofs.YthapodlehfblgaaDoorW.PrintLast Go.Proofs.YthapodlehfblgaaDoorW.PrintMore Go.Proofs.YthapodlehfblgaaDoor.Gn Go.Proofs.YthapodlehfblgaaDoor.Sem

theorem impl_plain (s : ByteArray) (hs : s.size ≤ 9223372036854775807) : Ev (fun k => impl_isPrintable.f k s) (plainB s) := by
  unfold impl_isPrintable.f plainB
  refine bytes_loop s (fun _ c => decide (32 ≤ c) && decide (c ≤ 126)) (fun k i => impl_isPrintable.l0 k s (s.size : Int) i) (fun k i hi => ?_) (fun k => ?_)
  · simp only [impl_isPrintable.l0]
    rw [if_pos (by omega), if_pos (by omega), if_pos (by omega), wsucc (by omega) (by omega)]
    have e0 : ((i : Int) + 1) = ((i + 1 : Nat) : Int) := by omega
    rw [e0]
    by_cases h1 : bt s (i : Int) < 32
    · rw [if_pos h1, decide_eq_false (by omega), Bool.false_and, if_neg Bool.false_ne_true]
    · rw [if_neg h1, decide_eq_true (by omega), Bool.true_and]
      by_cases h2 : bt s (i : Int) > 126
      · rw [if_pos h2, decide_eq_false (by omega), if_neg Bool.false_ne_true]
      · rw [if_neg h2, decide_eq_true (by omega), if_pos rfl]
  · simp only [impl_isPrintable.l0]
    rw [if_neg (by omega)]
theorem spec_plain (s : ByteArray) (hs : s.size ≤ 9223372036854775807) : Ev (fun k => spec_l02Plain.f k s) (plainB s) := by
  unfold spec_l02Plain.f plainB
  refine bytes_loop s (fun _ c => decide (32 ≤ c) && decide (c ≤ 126)) (fun k i => spec_l02Plain.l0 k s i) (fun k i hi => ?_) (fun k => ?_)
  · simp only [spec_l02Plain.l0]
    rw [if_pos (by omega), if_pos (by omega), wsucc (by omega) (by omega)]
    have e0 : ((i : Int) + 1) = ((i + 1 : Nat) : Int) := by omega
    rw [e0]
    by_cases h1 : bt s (i : Int) < 32
    · rw [if_pos h1, decide_eq_false (by omega), Bool.false_and, if_neg Bool.false_ne_true]
    · rw [if_neg h1, decide_eq_true (by omega), Bool.true_and]
      by_cases h2 : bt s (i : Int) > 126
      · rw [if_pos h2, decide_eq_false (by omega), if_neg Bool.false_ne_true]
      · rw [if_neg h2, decide_eq_true (by omega), if_pos rfl]
  · simp only [spec_l02Plain.l0]
    rw [if_neg (by omega)]

theorem between_eq (n a b : Int) : impl_between.f n a b = some (decide (a ≤ n) && decide (n ≤ b)) := by
  unfold impl_between.f
  by_cases h : n ≥ a
  · rw [if_pos h, decide_eq_true (show a ≤ n by omega), Bool.true_and]
  · rw [if_neg h, decide_eq_false (show ¬ a ≤ n by omega), Bool.false_and]
theorem l02Is_eq (n a b : Int) : spec_l02Is.f n a b = some (decide (a ≤ n) && decide (n ≤ b)) := by
  unfold spec_l02Is.f
  by_cases h : n ≥ a
  · rw [if_pos h, decide_eq_true (show a ≤ n by omega), Bool.true_and]
  · rw [if_neg h, decide_eq_false (show ¬ a ≤ n by omega), Bool.false_and]

/-- A loop over places 0 to n that goes on at each place before n comes to what it comes to at n. -/
theorem skip_loop {β : Type} (g : Nat → Int → Option β) (n : Nat) (v : β) (hend : Ev (fun k => g k (n : Int)) v)
    (hstep : ∀ i, i < n → ∀ u, Ev (fun k => g k ((i + 1 : Nat) : Int)) u → Ev (fun k => g k (i : Int)) u) : Ev (fun k => g k 0) v := by
  have key : ∀ r i, i + r = n → Ev (fun k => g k (i : Int)) v := by
    intro r
    induction r with
    | zero => intro i hi; obtain rfl : i = n := by omega
              exact hend
    | succ r ih => intro i hi; exact hstep i (by omega) _ (ih (i + 1) (by omega))
  exact key n 0 (by omega)

/-- A loop over places 0 to n: at each place it goes on if the test holds, else it says no. -/
theorem all_loop (g : Nat → Int → Option Bool) (p : Nat → Bool) (n : Nat) (e : Bool) (hend : Ev (fun k => g k (n : Int)) e)
    (hstep : ∀ i, i < n → ∀ v, Ev (fun k => g k ((i + 1 : Nat) : Int)) v → Ev (fun k => g k (i : Int)) (p i && v)) : Ev (fun k => g k 0) ((List.range n).all p && e) := by
  have key : ∀ r i, i + r = n → Ev (fun k => g k (i : Int)) ((List.range' i r).all p && e) := by
    intro r
    induction r with
    | zero => intro i hi; obtain rfl : i = n := by omega
              simpa using hend
    | succ r ih =>
      intro i hi
      rw [List.range'_succ, List.all_cons, Bool.and_assoc]
      exact hstep i (by omega) _ (ih (i + 1) (by omega))
  rw [List.range_eq_range']
  exact key n 0 (by omega)
end Go.Proofs.YthapodlehfblgaaDoor.PA
