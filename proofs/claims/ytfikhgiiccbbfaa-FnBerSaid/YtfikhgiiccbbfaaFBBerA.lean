/-
  BER: tags and things put: what the program writes and what the reference writes. Plain Lean over the printed functions.
-/
import Derived.Test.YtfikhgiiccbbfaaFBP1
import Derived.Test.YtfikhgiiccbbfaaFBGen
namespace Go.Proofs.Ytfikhgiiccbbfaa.PG
set_option linter.unusedVariables false
set_option linter.unusedSimpArgs false
open Go.RowKit Go.Proofs.YtfikhgiiccbbfaaW.PrintWords Go.Proofs.YtfikhgiiccbbfaaW.PrintLast Go.Proofs.YtfikhgiiccbbfaaW.PrintMore Go.Proofs.Ytfikhgiiccbbfaa.Gn

def tagOk (a : Int) : Bool := decide (0 ≤ a) && decide (a ≤ 255) && decide (a % 32 ≠ 31)
theorem and31 {a : Int} (h0 : 0 ≤ a) (h1 : a ≤ 255) : Go.bits .and .i64 a 31 = a % 32 := by
  obtain ⟨n, rfl⟩ := Int.eq_ofNat_of_zero_le h0
  have hn : n < 256 := by omega
  clear h0 h1
  revert hn
  revert n
  decide +kernel
theorem impl_tag (a : Int) : impl_isTag.f a = some (tagOk a) := by
  unfold impl_isTag.f impl_between.f tagOk
  by_cases h0 : 0 ≤ a
  · by_cases h1 : a ≤ 255
    · simp [h0, h1, and31 h0 h1, bne, Bool.beq_eq_decide_eq]
    · simp [h0, h1]
  · simp [h0]
theorem spec_tag (a : Int) : spec_l09Tag.f a = some (tagOk a) := by
  unfold spec_l09Tag.f spec_l09Is.f tagOk
  by_cases h0 : 0 ≤ a
  · by_cases h1 : a ≤ 255
    · simp [h0, h1, bne, Bool.beq_eq_decide_eq, Int.tmod_eq_emod_of_nonneg h0]
    · simp [h0, h1]
  · simp [h0]
theorem nums_app (a b : List Int) : strOfNums (a ++ b) = strOfNums a ++ strOfNums b := by
  apply ByteArray.ext
  simp [strOfNums]
theorem nums_size (a : List Int) : (strOfNums a).size = a.length := by
  show (strOfNums a).data.size = _
  simp [strOfNums]
/-- The first bytes of a thing put. -/
def hdr (a n : Int) : List Int := if n < 128 then [a % 256, n % 256] else if n < 256 then [a % 256, 129, n % 256] else [a % 256, 130, n / 256 % 256, n % 256]
theorem hdr_len (a n : Int) : (hdr a n).length ≤ 4 := by
  unfold hdr
  split
  · simp
  · split <;> simp
theorem hdr_len2 (a n : Int) : 2 ≤ (hdr a n).length := by
  unfold hdr
  split
  · simp
  · split <;> simp
def putT (a : Int) (b : ByteArray) : ByteArray := strOfNums (hdr a b.size) ++ b
def putV (a : Int) (b : ByteArray) : ByteArray := if tagOk a = true then (if (b.size : Int) > 4000 then ⟨#[]⟩ else putT a b) else ⟨#[]⟩
theorem put_size (a : Int) (b : ByteArray) : (putT a b).size = (hdr a b.size).length + b.size := by
  unfold putT
  rw [ByteArray.size_append, nums_size]
theorem impl_len (n : Int) : impl_berLength.f n = some (strOfNums ((hdr 0 n).drop 1)) := by
  unfold impl_berLength.f hdr
  split
  · rfl
  · split <;> rfl
theorem hdr_split (a n : Int) : hdr a n = [a % 256] ++ (hdr 0 n).drop 1 := by
  unfold hdr
  split
  · rfl
  · split <;> rfl
theorem impl_put (a : Int) (b : ByteArray) : impl_BerPut.f a b = some (putV a b) := by
  unfold impl_BerPut.f putV putT
  rw [impl_tag, hdr_split, nums_app, impl_len]
  simp only [Option.bind_some]
  split
  · split
    · rfl
    · have h1 := hdr_len 0 b.size
      have h2 : ((hdr 0 b.size).drop 1).length ≤ 4 := by rw [List.length_drop]; omega
      rw [if_pos (by rw [nums_size, nums_size]; simp only [List.length_singleton]; omega), if_pos (by rw [ByteArray.size_append, nums_size, nums_size]; simp only [List.length_singleton]; omega)]
  · rfl
theorem spec_put0 (a : Int) (b : ByteArray) (hb : b.size ≤ 1000000) : spec_l09Put.f a b = some (putT a b) := by
  unfold spec_l09Put.f putT hdr
  simp only [Option.bind_some]
  by_cases h1 : (b.size : Int) < 128
  · rw [if_neg (by omega), if_neg (by omega), if_pos h1, if_pos (by rw [nums_size]; simp only [List.length_cons, List.length_nil]; omega)]
  · rw [if_neg h1]
    by_cases h2 : (b.size : Int) < 256
    · rw [if_neg (by omega), if_pos (by omega), if_pos h2, if_pos (by rw [nums_size]; simp only [List.length_cons, List.length_nil]; omega)]
    · rw [if_pos (by omega), if_neg h2, if_pos (by rw [nums_size]; simp only [List.length_cons, List.length_nil]; omega)]
theorem spec_put1 (a : Int) (b : ByteArray) : spec_BerPut.f a b = some (putV a b) := by
  unfold spec_BerPut.f putV
  rw [spec_tag]
  simp only [Option.bind_some]
  split
  · split
    · rfl
    · rw [spec_put0 a b (by omega)]
      rfl
  · rfl
end Go.Proofs.Ytfikhgiiccbbfaa.PG
