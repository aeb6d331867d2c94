/-
  BER: reading behind a first text is reading, shifted. Plain Lean.
-/
import Derived.Test.YtfikhgiiccbbfaaFBP1
import Derived.Test.YtfikhgiiccbbfaaFBBerP
namespace Go.Proofs.Ytfikhgiiccbbfaa.PG
set_option linter.unusedVariables false
set_option linter.unusedSimpArgs false
set_option maxRecDepth 20000
open Go.RowKit Go.Proofs.YtfikhgiiccbbfaaW.PrintWords Go.Proofs.YtfikhgiiccbbfaaW.PrintLast Go.Proofs.YtfikhgiiccbbfaaW.PrintMore Go.Proofs.Ytfikhgiiccbbfaa.Gn

def shiftR (d : Int) (r : Int × ByteArray × Int × Int) : Int × ByteArray × Int × Int := (r.1, r.2.1, if r.2.2.2 = 0 then d + r.2.2.1 else r.2.2.1, r.2.2.2)
theorem bt_shift (x y : ByteArray) (i : Int) (h : 0 ≤ i) : bt (x ++ y) ((x.size : Int) + i) = bt y i := by
  obtain ⟨n, rfl⟩ := Int.eq_ofNat_of_zero_le h
  unfold bt
  have e : ((x.size : Int) + (n : Int)).toNat = x.size + n := by omega
  simp only [e, Int.toNat_natCast]
  by_cases h1 : n < y.size
  · rw [dif_pos (by rw [ByteArray.size_append]; omega), dif_pos h1, ByteArray.getElem_append_right (by omega)]
    congr 3
    omega
  · rw [dif_neg (by rw [ByteArray.size_append]; omega), dif_neg h1]
theorem ext_shift (x y : ByteArray) (i j : Nat) : (x ++ y).extract (x.size + i) (x.size + j) = y.extract i j := by
  apply ByteArray.ext
  have h1 : x.data.size = x.size := rfl
  have h2 : y.data.size = y.size := rfl
  apply Array.ext
  · simp only [ByteArray.data_extract, ByteArray.data_append, Array.size_extract, Array.size_append]
    omega
  · intro k a1 a2
    simp only [ByteArray.data_extract, ByteArray.data_append, Array.getElem_extract]
    rw [Array.getElem_append_right (by omega)]
    congr 1
    omega
theorem fin_shift (x y : ByteArray) (t n p : Int) (hp : 0 ≤ p) (hn : 0 ≤ n) : finV (x ++ y) t n ((x.size : Int) + p) = shiftR x.size (finV y t n p) := by
  unfold finV
  by_cases h1 : n > 4000
  · rw [if_pos h1, if_pos h1]
    rfl
  · rw [if_neg h1, if_neg h1]
    have hs : ((x ++ y).size : Int) = x.size + y.size := by rw [ByteArray.size_append]; omega
    by_cases h2 : p + n > (y.size : Int)
    · rw [if_pos (by omega), if_pos h2]
      rfl
    · rw [if_neg (by omega), if_neg h2]
      have e1 : ((x.size : Int) + p).toNat = x.size + p.toNat := by omega
      have e2 : ((x.size : Int) + p + n).toNat = x.size + (p + n).toNat := by omega
      rw [e1, e2, ext_shift]
      show _ = (t, _, (x.size : Int) + (p + n), (0 : Int))
      rw [Int.add_assoc]
theorem get_shift (x y : ByteArray) (a : Int) (ha : 0 ≤ a) : getV (x ++ y) ((x.size : Int) + a) = shiftR x.size (getV y a) := by
  have hs : ((x ++ y).size : Int) = x.size + y.size := by rw [ByteArray.size_append]; omega
  have b0 := bt_shift x y a ha
  have b1 := bt_shift x y (a + 1) (by omega)
  have b2 := bt_shift x y (a + 2) (by omega)
  have b3 := bt_shift x y (a + 3) (by omega)
  have r1 := bt_range y (a + 1)
  have r2 := bt_range y (a + 2)
  have r3 := bt_range y (a + 3)
  unfold getV
  rw [show (x.size : Int) + a + 1 = x.size + (a + 1) by omega, show (x.size : Int) + a + 2 = x.size + (a + 2) by omega, show (x.size : Int) + a + 3 = x.size + (a + 3) by omega, show (x.size : Int) + a + 4 = x.size + (a + 4) by omega, b0, b1, b2, b3]
  by_cases h0 : a ≥ (y.size : Int)
  · rw [if_pos (by omega), if_pos h0]
    rfl
  rw [if_neg (show ¬ (x.size : Int) + a ≥ ((x ++ y).size : Int) by omega), if_neg h0]
  by_cases ht : tagOk (bt y a) = true
  · rw [if_pos ht, if_pos ht]
    by_cases h1 : a + 1 ≥ (y.size : Int)
    · rw [if_pos (show (x.size : Int) + (a + 1) ≥ ((x ++ y).size : Int) by omega), if_pos h1]
      rfl
    rw [if_neg (show ¬ (x.size : Int) + (a + 1) ≥ ((x ++ y).size : Int) by omega), if_neg h1]
    by_cases hL : bt y (a + 1) ≥ 128
    · rw [if_pos hL, if_pos hL]
      by_cases h9 : bt y (a + 1) = 129
      · rw [if_pos h9, if_pos h9]
        by_cases h3 : a + 3 > (y.size : Int)
        · rw [if_pos (show (x.size : Int) + (a + 3) > ((x ++ y).size : Int) by omega), if_pos h3]
          rfl
        rw [if_neg (show ¬ (x.size : Int) + (a + 3) > ((x ++ y).size : Int) by omega), if_neg h3]
        by_cases h4 : bt y (a + 2) < 128
        · rw [if_pos h4, if_pos h4]
          rfl
        rw [if_neg h4, if_neg h4]
        exact fin_shift x y _ _ _ (by omega) (by omega)
      · rw [if_neg h9, if_neg h9]
        by_cases hA : bt y (a + 1) = 130
        · rw [if_pos hA, if_pos hA]
          by_cases h3 : a + 4 > (y.size : Int)
          · rw [if_pos (show (x.size : Int) + (a + 4) > ((x ++ y).size : Int) by omega), if_pos h3]
            rfl
          rw [if_neg (show ¬ (x.size : Int) + (a + 4) > ((x ++ y).size : Int) by omega), if_neg h3]
          by_cases h4 : 256 * bt y (a + 2) + bt y (a + 3) < 256
          · rw [if_pos h4, if_pos h4]
            rfl
          rw [if_neg h4, if_neg h4]
          exact fin_shift x y _ _ _ (by omega) (by omega)
        · rw [if_neg hA, if_neg hA]
          rfl
    · rw [if_neg hL, if_neg hL]
      exact fin_shift x y _ _ _ (by omega) (by omega)
  · rw [if_neg ht, if_neg ht]
    rfl
end Go.Proofs.Ytfikhgiiccbbfaa.PG
