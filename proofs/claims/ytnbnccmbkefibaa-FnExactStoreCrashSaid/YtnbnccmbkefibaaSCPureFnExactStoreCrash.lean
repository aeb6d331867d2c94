/-
  The program's StoreCrash returns the same store as the reference, for every store and every number: the plain law over the printed functions. No condition.
-/
import Derived.Test.YtnbnccmbkefibaaSCFits
import Derived.Test.YtnbnccmbkefibaaSCP1
namespace Go.Proofs.Ytnbnccmbkefibaa.Pure
open Go.RowKit Go.Proofs.Ytnbnccmbkefibaa.PSC Go.Proofs.Ytnbnccmbkefibaa Go.Proofs.YtnbnccmbkefibaaW.PrintWords Go.Proofs.YtnbnccmbkefibaaW.PrintLast

theorem crash_is (s : ByteArray) (n keep : Int) (hs : s.size ≤ 1048576) (r : ByteArray × Int) (h : spec_StoreCrash.f s n keep = some r) : impl_StoreCrash.f s n keep = some r := by
  unfold spec_StoreCrash.f spec_l02Is.f at h
  unfold impl_StoreCrash.f impl_between.f
  by_cases h0 : n ≥ 0
  · rw [if_pos h0] at h ⊢
    simp only [Option.bind_some] at h ⊢
    by_cases h1 : n ≤ (s.size : Int)
    · rw [if_pos (decide_eq_true h1)] at h ⊢
      have e1 : wrap64 ((s.size : Int) - n) = (s.size : Int) - n := by unfold wrap64; omega
      rw [e1] at h ⊢
      by_cases h2 : keep > 0
      · rw [if_pos h2] at h
        have e2 : spec_l01Min.f keep ((s.size : Int) - n) = some (mn (mx keep 0) ((s.size : Int) - n)) := by
          unfold spec_l01Min.f mn mx
          (repeat' split) <;> first | rfl | (congr 1; omega) | omega
        rw [e2] at h
        simp only [Option.bind_some] at h
        exact h
      · rw [if_neg h2] at h
        have e2 : mn (mx keep 0) ((s.size : Int) - n) = 0 := by unfold mn mx; (repeat' split) <;> omega
        have e3 : wrap64 (n + 0) = n := by unfold wrap64; omega
        rw [e2, e3]
        exact h
    · rw [if_neg (by simpa using h1)] at h ⊢
      exact h
  · rw [if_neg h0] at h ⊢
    simp only [Option.bind_some] at h ⊢
    exact h

theorem crash_some (s : ByteArray) (n keep : Int) (hs : s.size ≤ 1048576) : ∃ r, spec_StoreCrash.f s n keep = some r := by
  unfold spec_StoreCrash.f spec_l02Is.f
  by_cases h0 : n ≥ 0
  · rw [if_pos h0]
    simp only [Option.bind_some]
    by_cases h1 : n ≤ (s.size : Int)
    · rw [if_pos (decide_eq_true h1)]
      have e1 : wrap64 ((s.size : Int) - n) = (s.size : Int) - n := by unfold wrap64; omega
      rw [e1]
      by_cases h2 : keep > 0
      · rw [if_pos h2]
        unfold spec_l01Min.f
        by_cases h3 : keep < (s.size : Int) - n
        · rw [if_pos h3]
          simp only [Option.bind_some]
          have e2 : wrap64 (n + keep) = n + keep := by unfold wrap64; omega
          rw [e2, if_pos (by omega), if_pos (by omega)]
          exact ⟨_, rfl⟩
        · rw [if_neg h3]
          simp only [Option.bind_some]
          have e2 : wrap64 (n + ((s.size : Int) - n)) = (s.size : Int) := by unfold wrap64; omega
          rw [e2, if_pos (by omega), if_pos (by omega)]
          exact ⟨_, rfl⟩
      · rw [if_neg h2, if_pos h0, if_pos h1]
        exact ⟨_, rfl⟩
    · rw [if_neg (by simpa using h1)]
      exact ⟨_, rfl⟩
  · rw [if_neg h0]
    simp only [Option.bind_some]
    exact ⟨_, rfl⟩

theorem store_crash (s : ByteArray) (n keep : Int) (hs : s.size ≤ 140737488351232) : laws_FnExactStoreCrash.f s n keep = some true := by
  unfold laws_FnExactStoreCrash.f laws_szStore.f
  by_cases h0 : wrap64 (1048576 - (s.size : Int)) < 0
  · rw [if_pos h0]; simp
  · rw [if_neg h0]
    have hs' : s.size ≤ 1048576 := by unfold wrap64 at h0; omega
    simp only [Option.bind_some]
    rw [if_neg h0]
    obtain ⟨r, hr⟩ := crash_some s n keep hs'
    unfold laws_toStore.f
    simp only [Option.bind_some]
    rw [hr, crash_is s n keep hs' r hr]
    simp [laws_eqStore.f]

set_option linter.unusedVariables false in
theorem FnExactStoreCrash (x0 : PSC.S28) (a1 : Int) (w0 : Ft.fit28 x0) (w1 : (Lit.int .i64 a1).wf = true) : PSC.laws_FnExactStoreCrash.f x0.f0 x0.f1 a1 = some true := store_crash _ _ _ w0.1

end Go.Proofs.Ytnbnccmbkefibaa.Pure
