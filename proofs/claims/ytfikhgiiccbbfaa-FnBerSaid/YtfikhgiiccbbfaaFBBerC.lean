/-
  BER: a thing put that is cut is short. Plain Lean.
-/
import Derived.Test.YtfikhgiiccbbfaaFBP1
import Derived.Test.YtfikhgiiccbbfaaFBBerT
namespace Go.Proofs.Ytfikhgiiccbbfaa.PG
set_option linter.unusedVariables false
set_option linter.unusedSimpArgs false
set_option maxRecDepth 20000
open Go.RowKit Go.Proofs.YtfikhgiiccbbfaaW.PrintWords Go.Proofs.YtfikhgiiccbbfaaW.PrintLast Go.Proofs.YtfikhgiiccbbfaaW.PrintMore Go.Proofs.Ytfikhgiiccbbfaa.Gn

theorem bt_cut (s : ByteArray) (k : Nat) (i : Int) (h0 : 0 ≤ i) (h1 : i < k) (hk : k ≤ s.size) : bt (s.extract 0 k) i = bt s i := by
  obtain ⟨n, rfl⟩ := Int.eq_ofNat_of_zero_le h0
  unfold bt
  simp only [Int.toNat_natCast]
  rw [dif_pos (by rw [ByteArray.size_extract]; omega), dif_pos (by omega)]
  simp [ByteArray.getElem_extract]
theorem put_cut (a : Int) (b : ByteArray) (ha : tagOk a = true) (hb : b.size ≤ 4000) (k : Nat) (hk : k < (putT a b).size) : getV ((putT a b).extract 0 k) 0 = gShort := by
  have ha' := ha
  unfold tagOk at ha'
  simp only [Bool.and_eq_true, decide_eq_true_eq] at ha'
  obtain ⟨⟨a0, a1⟩, _⟩ := ha'
  have am : a % 256 = a := Int.emod_eq_of_lt a0 (by omega)
  have hps := put_size a b
  have hsz : (((putT a b).extract 0 k).size : Int) = k := by rw [ByteArray.size_extract]; omega
  have hbt : ∀ (i : Nat) (h : i < (hdr a b.size).length), i < k → 0 ≤ (hdr a b.size)[i]'h → (hdr a b.size)[i]'h < 256 → bt ((putT a b).extract 0 k) (i : Int) = (hdr a b.size)[i]'h := by
    intro i h hik h0 h1
    rw [bt_cut _ k _ (by omega) (by omega) (by omega)]
    have := bt_nums (hdr a b.size) b i h h0 h1
    unfold putT
    exact this
  have hfin : ∀ p n : Int, n ≤ 4000 → (k : Int) < p + n → finV ((putT a b).extract 0 k) a n p = gShort := by
    intro p n hn hp
    unfold finV
    rw [if_neg (by omega), if_pos (by omega)]
  unfold getV
  by_cases k0 : k = 0
  · rw [if_pos (by omega)]
  rw [if_neg (by omega)]
  by_cases h1 : (b.size : Int) < 128
  · have eh : hdr a b.size = [a, (b.size : Int)] := by
      unfold hdr
      rw [if_pos h1, am, Int.emod_eq_of_lt (by omega) (by omega)]
    rw [eh] at hbt hps
    simp only [List.length_cons, List.length_nil] at hps
    have v0 : bt ((putT a b).extract 0 k) 0 = a := hbt 0 (by simp) (by omega) a0 (by show a < 256; omega)
    rw [v0, if_pos ha]
    by_cases k1 : k = 1
    · rw [if_pos (by omega)]
    have v1 : bt ((putT a b).extract 0 k) (0 + 1) = b.size := hbt 1 (by simp) (by omega) (by show (0 : Int) ≤ (b.size : Int); omega) (by show (b.size : Int) < 256; omega)
    rw [if_neg (by omega), v1, if_neg (by omega)]
    exact hfin _ _ (by omega) (by omega)
  · by_cases h2 : (b.size : Int) < 256
    · have eh : hdr a b.size = [a, 129, (b.size : Int)] := by
        unfold hdr
        rw [if_neg h1, if_pos h2, am, Int.emod_eq_of_lt (by omega) (by omega)]
      rw [eh] at hbt hps
      simp only [List.length_cons, List.length_nil] at hps
      have v0 : bt ((putT a b).extract 0 k) 0 = a := hbt 0 (by simp) (by omega) a0 (by show a < 256; omega)
      rw [v0, if_pos ha]
      by_cases k1 : k = 1
      · rw [if_pos (by omega)]
      have v1 : bt ((putT a b).extract 0 k) (0 + 1) = 129 := hbt 1 (by simp) (by omega) (by show (0 : Int) ≤ 129; omega) (by show (129 : Int) < 256; omega)
      rw [if_neg (by omega), v1, if_pos (by omega), if_pos rfl]
      by_cases k2 : k = 2
      · rw [if_pos (by omega)]
      have v2 : bt ((putT a b).extract 0 k) (0 + 2) = b.size := hbt 2 (by simp) (by omega) (by show (0 : Int) ≤ (b.size : Int); omega) (by show (b.size : Int) < 256; omega)
      rw [if_neg (by omega), v2, if_neg (by omega)]
      exact hfin _ _ (by omega) (by omega)
    · have eh : hdr a b.size = [a, 130, (b.size : Int) / 256, (b.size : Int) % 256] := by
        unfold hdr
        rw [if_neg h1, if_neg h2, am, Int.emod_eq_of_lt (show 0 ≤ (b.size : Int) / 256 by omega) (by omega)]
      rw [eh] at hbt hps
      simp only [List.length_cons, List.length_nil] at hps
      have v0 : bt ((putT a b).extract 0 k) 0 = a := hbt 0 (by simp) (by omega) a0 (by show a < 256; omega)
      rw [v0, if_pos ha]
      by_cases k1 : k = 1
      · rw [if_pos (by omega)]
      have v1 : bt ((putT a b).extract 0 k) (0 + 1) = 130 := hbt 1 (by simp) (by omega) (by show (0 : Int) ≤ 130; omega) (by show (130 : Int) < 256; omega)
      rw [if_neg (by omega), v1, if_pos (by omega), if_neg (by omega), if_pos rfl]
      by_cases k2 : k < 4
      · rw [if_pos (by omega)]
      have v2 : bt ((putT a b).extract 0 k) (0 + 2) = (b.size : Int) / 256 := hbt 2 (by simp) (by omega) (by show (0 : Int) ≤ (b.size : Int) / 256; omega) (by show (b.size : Int) / 256 < 256; omega)
      have v3 : bt ((putT a b).extract 0 k) (0 + 3) = (b.size : Int) % 256 := hbt 3 (by simp) (by omega) (by show (0 : Int) ≤ (b.size : Int) % 256; omega) (by show (b.size : Int) % 256 < 256; omega)
      have en : 256 * ((b.size : Int) / 256) + (b.size : Int) % 256 = b.size := by omega
      rw [if_neg (by omega), v2, v3, en, if_neg (by omega)]
      exact hfin _ _ (by omega) (by omega)
end Go.Proofs.Ytfikhgiiccbbfaa.PG
