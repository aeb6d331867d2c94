/-
  BER: what was put is read again. Plain Lean.
-/
import Derived.Test.YtfikhgiiccbbfaaFBP1
import Derived.Test.YtfikhgiiccbbfaaFBBerW
namespace Go.Proofs.Ytfikhgiiccbbfaa.PG
set_option linter.unusedVariables false
set_option linter.unusedSimpArgs false
set_option maxRecDepth 20000
open Go.RowKit Go.Proofs.YtfikhgiiccbbfaaW.PrintWords Go.Proofs.YtfikhgiiccbbfaaW.PrintLast Go.Proofs.YtfikhgiiccbbfaaW.PrintMore Go.Proofs.Ytfikhgiiccbbfaa.Gn

theorem bt_nums (L : List Int) (y : ByteArray) (i : Nat) (h : i < L.length) (h0 : 0 ≤ L[i]'h) (h1 : L[i]'h < 256) : bt (strOfNums L ++ y) (i : Int) = L[i]'h := by
  have hs : (strOfNums L).size = L.length := nums_size L
  unfold bt
  rw [Int.toNat_natCast, dif_pos (by rw [ByteArray.size_append]; omega)]
  rw [ByteArray.getElem_append_left (by omega)]
  show (((strOfNums L).data[i]'(by simp [strOfNums]; exact h)).toNat : Int) = _
  simp only [strOfNums, List.getElem_toArray, List.getElem_map]
  obtain ⟨v, hv⟩ := Int.eq_ofNat_of_zero_le h0
  rw [hv]
  have : v < 256 := by omega
  simp only [Int.toNat_natCast, UInt8.toNat_ofNat']
  omega
theorem ext_mid (x b t : ByteArray) (p : Nat) (hp : x.size = p) : (x ++ b ++ t).extract p (p + b.size) = b := by
  apply ByteArray.ext
  have h1 : x.data.size = p := hp
  have h2 : b.data.size = b.size := rfl
  apply Array.ext
  · simp only [ByteArray.data_extract, ByteArray.data_append, Array.size_extract, Array.size_append]
    omega
  · intro i a1 a2
    simp only [ByteArray.data_extract, ByteArray.data_append, Array.getElem_extract]
    rw [Array.getElem_append_left (by simp only [Array.size_append]; omega), Array.getElem_append_right (by omega)]
    congr 1
    omega
theorem fin_put (x b t : ByteArray) (a : Int) (hb : b.size ≤ 4000) : finV (x ++ b ++ t) a b.size (x.size : Int) = (a, b, (x.size + b.size : Int), 0) := by
  unfold finV
  rw [if_neg (by omega), if_neg (by simp only [ByteArray.size_append]; omega)]
  have e : ((x.size : Int) + (b.size : Int)).toNat = x.size + b.size := by omega
  rw [Int.toNat_natCast, e, ext_mid x b t _ rfl]
theorem put_get (a : Int) (b t : ByteArray) (ha : tagOk a = true) (hb : b.size ≤ 4000) : getV (putT a b ++ t) 0 = (a, b, ((putT a b).size : Int), 0) := by
  have ha' := ha
  unfold tagOk at ha'
  simp only [Bool.and_eq_true, decide_eq_true_eq] at ha'
  obtain ⟨⟨a0, a1⟩, _⟩ := ha'
  have am : a % 256 = a := Int.emod_eq_of_lt a0 (by omega)
  have hps := put_size a b
  have hl := hdr_len2 a b.size
  have hsz : ((putT a b ++ t).size : Int) = (hdr a b.size).length + b.size + t.size := by rw [ByteArray.size_append, hps]; omega
  have hf := fin_put (strOfNums (hdr a b.size)) b t a hb
  have hbt : ∀ (i : Nat) (h : i < (hdr a b.size).length), 0 ≤ (hdr a b.size)[i]'h → (hdr a b.size)[i]'h < 256 → bt (putT a b ++ t) (i : Int) = (hdr a b.size)[i]'h := by
    intro i h h0 h1
    have := bt_nums (hdr a b.size) (b ++ t) i h h0 h1
    rw [← ByteArray.append_assoc] at this
    unfold putT
    exact this
  have hpe : putT a b ++ t = strOfNums (hdr a b.size) ++ b ++ t := by unfold putT; rfl
  rw [nums_size] at hf
  rw [hps]
  unfold getV
  by_cases h1 : (b.size : Int) < 128
  · have eh : hdr a b.size = [a, (b.size : Int)] := by
      unfold hdr
      rw [if_pos h1, am, Int.emod_eq_of_lt (by omega) (by omega)]
    rw [← hpe] at hf
    rw [eh] at hbt hf hsz
    have v0 : bt (putT a b ++ t) 0 = a := hbt 0 (by simp) a0 (by show a < 256; omega)
    have v1 : bt (putT a b ++ t) (0 + 1) = b.size := hbt 1 (by simp) (by show (0 : Int) ≤ (b.size : Int); omega) (by show (b.size : Int) < 256; omega)
    simp only [List.length_cons, List.length_nil] at hsz hf
    rw [if_neg (by omega), v0, if_pos ha, if_neg (by omega), v1, if_neg (by omega), eh]
    exact hf
  · by_cases h2 : (b.size : Int) < 256
    · have eh : hdr a b.size = [a, 129, (b.size : Int)] := by
        unfold hdr
        rw [if_neg h1, if_pos h2, am, Int.emod_eq_of_lt (by omega) (by omega)]
      rw [← hpe] at hf
      rw [eh] at hbt hf hsz
      have v0 : bt (putT a b ++ t) 0 = a := hbt 0 (by simp) a0 (by show a < 256; omega)
      have v1 : bt (putT a b ++ t) (0 + 1) = 129 := hbt 1 (by simp) (by show (0 : Int) ≤ 129; omega) (by show (129 : Int) < 256; omega)
      have v2 : bt (putT a b ++ t) (0 + 2) = b.size := hbt 2 (by simp) (by show (0 : Int) ≤ (b.size : Int); omega) (by show (b.size : Int) < 256; omega)
      simp only [List.length_cons, List.length_nil] at hsz hf
      rw [if_neg (by omega), v0, if_pos ha, if_neg (by omega), v1, if_pos (by omega), if_pos rfl, if_neg (by omega), v2, if_neg (by omega), eh]
      exact hf
    · have eh : hdr a b.size = [a, 130, (b.size : Int) / 256, (b.size : Int) % 256] := by
        unfold hdr
        rw [if_neg h1, if_neg h2, am, Int.emod_eq_of_lt (show 0 ≤ (b.size : Int) / 256 by omega) (by omega)]
      rw [← hpe] at hf
      rw [eh] at hbt hf hsz
      have v0 : bt (putT a b ++ t) 0 = a := hbt 0 (by simp) a0 (by show a < 256; omega)
      have v1 : bt (putT a b ++ t) (0 + 1) = 130 := hbt 1 (by simp) (by show (0 : Int) ≤ 130; omega) (by show (130 : Int) < 256; omega)
      have v2 : bt (putT a b ++ t) (0 + 2) = (b.size : Int) / 256 := hbt 2 (by simp) (by show (0 : Int) ≤ (b.size : Int) / 256; omega) (by show (b.size : Int) / 256 < 256; omega)
      have v3 : bt (putT a b ++ t) (0 + 3) = (b.size : Int) % 256 := hbt 3 (by simp) (by show (0 : Int) ≤ (b.size : Int) % 256; omega) (by show (b.size : Int) % 256 < 256; omega)
      simp only [List.length_cons, List.length_nil] at hsz hf
      have en : 256 * ((b.size : Int) / 256) + (b.size : Int) % 256 = b.size := by omega
      rw [if_neg (by omega), v0, if_pos ha, if_neg (by omega), v1, if_pos (by omega), if_neg (by omega), if_pos rfl, if_neg (by omega), v2, v3, en, if_neg (by omega), eh]
      exact hf
end Go.Proofs.Ytfikhgiiccbbfaa.PG
