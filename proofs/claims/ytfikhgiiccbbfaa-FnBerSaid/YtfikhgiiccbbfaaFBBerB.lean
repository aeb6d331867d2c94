/-
  BER: what was read is what would be put. Plain Lean.
-/
import Derived.Test.YtfikhgiiccbbfaaFBP1
import Derived.Test.YtfikhgiiccbbfaaFBBerC
namespace Go.Proofs.Ytfikhgiiccbbfaa.PG
set_option linter.unusedVariables false
set_option linter.unusedSimpArgs false
set_option maxRecDepth 20000
open Go.RowKit Go.Proofs.YtfikhgiiccbbfaaW.PrintWords Go.Proofs.YtfikhgiiccbbfaaW.PrintLast Go.Proofs.YtfikhgiiccbbfaaW.PrintMore Go.Proofs.Ytfikhgiiccbbfaa.Gn

theorem ext_cat (s : ByteArray) (i j k : Nat) (h1 : i ≤ j) (h2 : j ≤ k) (h3 : k ≤ s.size) : s.extract i j ++ s.extract j k = s.extract i k := by
  apply ByteArray.ext
  have hs : s.data.size = s.size := rfl
  apply Array.ext
  · simp only [ByteArray.data_extract, ByteArray.data_append, Array.size_extract, Array.size_append]
    omega
  · intro m a1 a2
    simp only [ByteArray.data_extract, ByteArray.data_append, Array.getElem_extract]
    by_cases hm : m < j - i
    · rw [Array.getElem_append_left (by simp only [Array.size_extract]; omega)]
      simp only [Array.getElem_extract]
    · rw [Array.getElem_append_right (by simp only [Array.size_extract]; omega)]
      simp only [Array.getElem_extract, Array.size_extract]
      congr 1
      omega
theorem ext_nums (s : ByteArray) (i : Nat) : ∀ (n : Nat), i + n ≤ s.size → s.extract i (i + n) = strOfNums ((List.range n).map fun j => bt s ((i + j : Nat) : Int)) := by
  intro n h
  apply ByteArray.ext
  have hs : s.data.size = s.size := rfl
  apply Array.ext
  · simp [strOfNums]
    omega
  · intro m a1 a2
    have hm : m < n := by simpa [strOfNums] using a2
    have t := num_byte s (i + m) (by omega)
    simp only [ByteArray.data_extract, Array.getElem_extract, strOfNums, List.getElem_toArray, List.getElem_map, List.getElem_range]
    rw [t]
    rfl
theorem fin_back {s : ByteArray} {a n : Int} {hl : Nat} {t p : Int} {b : ByteArray} (ha : 0 ≤ a) (hn : 0 ≤ n) (ht : tagOk (bt s a) = true)
    (hh : hdr (bt s a) n = (List.range hl).map fun j => bt s ((a.toNat + j : Nat) : Int)) (h : finV s (bt s a) n (a + hl) = (t, b, p, 0)) : s.extract a.toNat p.toNat = putV t b := by
  unfold finV at h
  by_cases h1 : n > 4000
  · rw [if_pos h1] at h
    cases h
  rw [if_neg h1] at h
  by_cases h2 : a + hl + n > (s.size : Int)
  · rw [if_pos h2] at h
    cases h
  rw [if_neg h2] at h
  injection h with e1 h
  injection h with e2 h
  injection h with e3 _
  have eq1 : (a + (hl : Int)).toNat = a.toNat + hl := by omega
  have eq2 : (a + (hl : Int) + n).toNat = a.toNat + hl + n.toNat := by omega
  rw [eq1, eq2] at e2
  have hbs : b.size = n.toNat := by rw [← e2, ByteArray.size_extract]; omega
  have hbn : (b.size : Int) = n := by omega
  unfold putV putT
  rw [← e1, if_pos ht, if_neg (by omega), hbn, hh, ← ext_nums s a.toNat hl (by omega), ← e3, eq2, ← e2]
  exact (ext_cat s _ _ _ (by omega) (by omega) (by omega)).symm
theorem get_put {s : ByteArray} {a t p : Int} {b : ByteArray} (ha : 0 ≤ a) (h : getV s a = (t, b, p, 0)) : s.extract a.toNat p.toNat = putV t b := by
  have r0 := bt_range s a
  have r1 := bt_range s (a + 1)
  have r2 := bt_range s (a + 2)
  have r3 := bt_range s (a + 3)
  have c0 : bt s ((a.toNat + 0 : Nat) : Int) = bt s a := by congr 1; omega
  have c1 : bt s ((a.toNat + 1 : Nat) : Int) = bt s (a + 1) := by congr 1; omega
  have c2 : bt s ((a.toNat + 2 : Nat) : Int) = bt s (a + 2) := by congr 1; omega
  have c3 : bt s ((a.toNat + 3 : Nat) : Int) = bt s (a + 3) := by congr 1; omega
  have q2 : (List.range 2).map (fun j => bt s ((a.toNat + j : Nat) : Int)) = [bt s a, bt s (a + 1)] := by
    show [bt s ((a.toNat + 0 : Nat) : Int), bt s ((a.toNat + 1 : Nat) : Int)] = _
    rw [c0, c1]
  have q3 : (List.range 3).map (fun j => bt s ((a.toNat + j : Nat) : Int)) = [bt s a, bt s (a + 1), bt s (a + 2)] := by
    show [bt s ((a.toNat + 0 : Nat) : Int), bt s ((a.toNat + 1 : Nat) : Int), bt s ((a.toNat + 2 : Nat) : Int)] = _
    rw [c0, c1, c2]
  have q4 : (List.range 4).map (fun j => bt s ((a.toNat + j : Nat) : Int)) = [bt s a, bt s (a + 1), bt s (a + 2), bt s (a + 3)] := by
    show [bt s ((a.toNat + 0 : Nat) : Int), bt s ((a.toNat + 1 : Nat) : Int), bt s ((a.toNat + 2 : Nat) : Int), bt s ((a.toNat + 3 : Nat) : Int)] = _
    rw [c0, c1, c2, c3]
  have m0 : bt s a % 256 = bt s a := Int.emod_eq_of_lt r0.1 (by omega)
  unfold getV at h
  by_cases h0 : a ≥ (s.size : Int)
  · rw [if_pos h0] at h
    cases h
  rw [if_neg h0] at h
  by_cases ht : tagOk (bt s a) = true
  rotate_left
  · rw [if_neg ht] at h
    cases h
  rw [if_pos ht] at h
  by_cases h1 : a + 1 ≥ (s.size : Int)
  · rw [if_pos h1] at h
    cases h
  rw [if_neg h1] at h
  by_cases hL : bt s (a + 1) ≥ 128
  · rw [if_pos hL] at h
    by_cases h9 : bt s (a + 1) = 129
    · rw [if_pos h9] at h
      by_cases h3 : a + 3 > (s.size : Int)
      · rw [if_pos h3] at h
        cases h
      rw [if_neg h3] at h
      by_cases h4 : bt s (a + 2) < 128
      · rw [if_pos h4] at h
        cases h
      rw [if_neg h4] at h
      refine fin_back (hl := 3) ha r2.1 ht ?_ h
      rw [q3, h9]
      unfold hdr
      rw [if_neg h4, if_pos (by omega), m0, Int.emod_eq_of_lt r2.1 (by omega)]
    · rw [if_neg h9] at h
      by_cases hA : bt s (a + 1) = 130
      · rw [if_pos hA] at h
        by_cases h3 : a + 4 > (s.size : Int)
        · rw [if_pos h3] at h
          cases h
        rw [if_neg h3] at h
        by_cases h4 : 256 * bt s (a + 2) + bt s (a + 3) < 256
        · rw [if_pos h4] at h
          cases h
        rw [if_neg h4] at h
        refine fin_back (hl := 4) ha (by omega) ht ?_ h
        rw [q4, hA]
        unfold hdr
        rw [if_neg (by omega), if_neg (by omega), m0, show (256 * bt s (a + 2) + bt s (a + 3)) / 256 % 256 = bt s (a + 2) by omega, show (256 * bt s (a + 2) + bt s (a + 3)) % 256 = bt s (a + 3) by omega]
      · rw [if_neg hA] at h
        cases h
  · rw [if_neg hL] at h
    refine fin_back (hl := 2) ha r1.1 ht ?_ h
    rw [q2]
    unfold hdr
    rw [if_pos (by omega), m0, Int.emod_eq_of_lt r1.1 (by omega)]
end Go.Proofs.Ytfikhgiiccbbfaa.PG
