/-
  BER: BerGet and BerAll of the program and of the reference say the same. Plain Lean over the printed functions.
-/
import Derived.Test.YtfikhgiiccbbfaaFBP1
import Derived.Test.YtfikhgiiccbbfaaFBP2
import Derived.Test.YtfikhgiiccbbfaaFBBerI
import Derived.Test.YtfikhgiiccbbfaaFBLong
namespace Go.Proofs.Ytfikhgiiccbbfaa.PG
set_option linter.unusedVariables false
set_option linter.unusedSimpArgs false
open Go.RowKit Go.Proofs.YtfikhgiiccbbfaaW.PrintWords Go.Proofs.YtfikhgiiccbbfaaW.PrintLast Go.Proofs.YtfikhgiiccbbfaaW.PrintMore Go.Proofs.Ytfikhgiiccbbfaa.Gn

theorem long_one (s : ByteArray) : Ev (fun k => impl_isLong.f k [s]) (decide ((s.size : Int) > 8000)) := by
  have h := long_ev [s] (by simp)
  have e : [s].any longQ = decide ((s.size : Int) > 8000) := by simp [longQ]
  rw [e] at h
  exact h
def getA (s : ByteArray) (a : Int) : Int × ByteArray × Int × Int := if (s.size : Int) > 8000 then (0, ⟨#[]⟩, 0, 2) else if a < 0 then (0, ⟨#[]⟩, 0, 1) else getV s a
theorem impl_getA (s : ByteArray) (a : Int) : Ev (fun k => impl_BerGet.f k s a) (getA s a) := by
  unfold impl_BerGet.f getA
  refine Ev_bind (long_one s) ?_
  by_cases h : (s.size : Int) > 8000
  · rw [if_pos h]
    exact Ev.congr (fun k => if_pos (decide_eq_true h)) (Ev.now _)
  · rw [if_neg h]
    refine Ev.congr (fun k => if_neg (by simpa using h)) ?_
    by_cases h1 : a < 0
    · rw [if_pos h1]
      exact Ev.congr (fun k => if_pos h1) (Ev.now _)
    · rw [if_neg h1]
      exact Ev.congr (fun k => if_neg h1) (Ev_bind (impl_get s a (by omega) (by omega)) (Ev.now _))
theorem spec_getA (s : ByteArray) (a : Int) : Ev (fun k => spec_BerGet.f k s a) (getA s a) := by
  unfold spec_BerGet.f getA
  by_cases h : (s.size : Int) > 8000
  · rw [if_pos h]
    exact Ev.congr (fun k => if_pos h) (Ev.now _)
  · rw [if_neg h]
    refine Ev.congr (fun k => if_neg h) ?_
    by_cases h1 : a < 0
    · rw [if_pos h1]
      exact Ev.congr (fun k => if_pos h1) (Ev.now _)
    · rw [if_neg h1]
      exact Ev.congr (fun k => if_neg h1) (Ev_bind (spec_get s a (by omega) (by omega)) (Ev.now _))
theorem fin_ok {s : ByteArray} {t n p : Int} (h : (finV s t n p).2.2.2 = 0) : (finV s t n p).2.2.1 = p + n ∧ p + n ≤ (s.size : Int) := by
  unfold finV at h ⊢
  by_cases h1 : n > 4000
  · rw [if_pos h1] at h
    cases h
  · rw [if_neg h1] at h ⊢
    by_cases h2 : p + n > (s.size : Int)
    · rw [if_pos h2] at h
      cases h
    · rw [if_neg h2]
      exact ⟨rfl, by omega⟩
theorem get_ok {s : ByteArray} {a : Int} (ha : 0 ≤ a) (h : (getV s a).2.2.2 = 0) : a + 2 ≤ (getV s a).2.2.1 ∧ (getV s a).2.2.1 ≤ (s.size : Int) := by
  have hr := bt_range s (a + 1)
  have r2 := bt_range s (a + 2)
  have r3 := bt_range s (a + 3)
  unfold getV at h ⊢
  split at h
  · cases h
  rename_i h0
  rw [if_neg h0]
  split at h
  rotate_left
  · cases h
  rename_i ht
  rw [if_pos ht]
  split at h
  · cases h
  rename_i h1
  rw [if_neg h1]
  split at h
  · rename_i hL
    rw [if_pos hL]
    split at h
    · rename_i h9
      rw [if_pos h9]
      split at h
      · cases h
      rename_i h3
      rw [if_neg h3]
      split at h
      · cases h
      rename_i h4
      rw [if_neg h4]
      have := fin_ok h
      omega
    · rename_i h9
      rw [if_neg h9]
      split at h
      rotate_left
      · cases h
      rename_i hA
      rw [if_pos hA]
      split at h
      · cases h
      rename_i h3
      rw [if_neg h3]
      split at h
      · cases h
      rename_i h4
      rw [if_neg h4]
      have := fin_ok h
      omega
  · rename_i hL
    rw [if_neg hL]
    have := fin_ok h
    omega
theorem all_same (s : ByteArray) (hs : s.size ≤ 8000) : ∀ (m : Nat) (a : Int) (acc : List S27), 0 ≤ a → (s.size : Int) - a ≤ m → acc.length ≤ 60 →
    ∃ r, Ev (fun k => impl_berAll.l0 k s acc a) r ∧ Ev (fun k => spec_l09All.l0 k s a acc 0) r ∧ r.1.length ≤ 60 := by
  intro m
  induction m with
  | zero =>
    intro a acc ha hm hl
    exact ⟨(acc, 0), Ev_one fun k => by simp only [impl_berAll.l0]; rw [if_neg (by omega)], Ev_one fun k => by simp only [spec_l09All.l0]; rw [if_neg (by omega)], hl⟩
  | succ m ih =>
    intro a acc ha hm hl
    by_cases h : a < (s.size : Int)
    · have i1 := impl_get s a hs ha
      have s1 := spec_get s a hs ha
      by_cases hc : (getV s a).2.2.2 = 0
      · obtain ⟨g1, g2⟩ := get_ok ha hc
        by_cases h60 : acc.length = 60
        · refine ⟨([], 9), Ev.step (fun k => by simp only [impl_berAll.l0]; rw [if_pos h]) (Ev_bind i1 ?_), Ev.step (fun k => by simp only [spec_l09All.l0]; rw [if_pos h]) (Ev_bind s1 ?_), Nat.zero_le _⟩
          · exact Ev.congr (fun k => by rw [if_pos hc, if_pos (by omega)]) (Ev.now _)
          · exact Ev.congr (fun k => by rw [if_pos hc, if_pos (by omega)]) (Ev.now _)
        · obtain ⟨r, h1, h2, h3⟩ := ih (getV s a).2.2.1 (acc ++ [⟨(getV s a).1, (getV s a).2.1⟩]) (by omega) (by omega) (by simp; omega)
          refine ⟨r, Ev.step (fun k => by simp only [impl_berAll.l0]; rw [if_pos h]) (Ev_bind i1 ?_), Ev.step (fun k => by simp only [spec_l09All.l0]; rw [if_pos h]) (Ev_bind s1 ?_), h3⟩
          · exact Ev.congr (fun k => by rw [if_pos hc, if_neg (by omega), if_pos (by omega)]) h1
          · exact Ev.congr (fun k => by rw [if_pos hc, if_neg (by omega), if_pos (by omega)]) h2
      · refine ⟨([], (getV s a).2.2.2), Ev.step (fun k => by simp only [impl_berAll.l0]; rw [if_pos h]) (Ev_bind i1 ?_), Ev.step (fun k => by simp only [spec_l09All.l0]; rw [if_pos h]) (Ev_bind s1 ?_), Nat.zero_le _⟩
        · exact Ev.congr (fun k => if_neg hc) (Ev.now _)
        · exact Ev.congr (fun k => if_neg hc) (Ev.now _)
    · exact ⟨(acc, 0), Ev_one fun k => by simp only [impl_berAll.l0]; rw [if_neg h], Ev_one fun k => by simp only [spec_l09All.l0]; rw [if_neg h], hl⟩
theorem berAll_same (s : ByteArray) : ∃ r, Ev (fun k => impl_BerAll.f k s) r ∧ Ev (fun k => spec_BerAll.f k s) r ∧ r.1.length ≤ 60 := by
  unfold impl_BerAll.f spec_BerAll.f
  by_cases h : (s.size : Int) > 8000
  · exact ⟨([], 2), Ev_bind (long_one s) (Ev.congr (fun k => if_pos (decide_eq_true h)) (Ev.now _)), Ev.congr (fun k => if_pos h) (Ev.now _), Nat.zero_le _⟩
  · obtain ⟨r, h1, h2, h3⟩ := all_same s (by omega) s.size 0 [] (by omega) (by omega) (by simp)
    exact ⟨r, Ev_bind (long_one s) (Ev.congr (fun k => if_neg (by simpa using h)) (Ev_bind (show Ev (fun k => impl_berAll.f k s) r from h1) (Ev.now _))), Ev.congr (fun k => if_neg h) (Ev_bind (show Ev (fun k => spec_l09All.f k s) r from h2) (Ev.now _)), h3⟩
end Go.Proofs.Ytfikhgiiccbbfaa.PG
