/-
  BER: the bytes of a number: program and reference say the same. Plain Lean over the printed functions.
-/
import Derived.Test.YtfikhgiiccbbfaaFBP2
import Derived.Test.YtfikhgiiccbbfaaFBBerW
namespace Go.Proofs.Ytfikhgiiccbbfaa.PG
set_option linter.unusedVariables false
set_option linter.unusedSimpArgs false
open Go.RowKit Go.Proofs.YtfikhgiiccbbfaaW.PrintWords Go.Proofs.YtfikhgiiccbbfaaW.PrintLast Go.Proofs.YtfikhgiiccbbfaaW.PrintMore Go.Proofs.Ytfikhgiiccbbfaa.Gn

theorem i8_w (n : Int) (h0 : 0 ≤ n) (h1 : n < 256) : wrap64 (IntKind.i8.wrap n) = if n < 128 then n else n - 256 := by
  obtain ⟨m, rfl⟩ := Int.eq_ofNat_of_zero_le h0
  have hn : m < 256 := by omega
  have e : IntKind.i8.wrap (m : Int) = if (m : Int) < 128 then (m : Int) else m - 256 := by
    clear h0 h1
    revert hn
    revert m
    decide +kernel
  rw [e]
  split <;> exact w_id (by omega) (by omega)
theorem bytes_same : ∀ (m : Nat) (c : Int) (t : List Int), -(128 * 256 ^ m) ≤ c → c < 128 * 256 ^ m → t.length + m ≤ 100 →
    ∃ L : List Int, Ev (fun k => impl_intBody.l0 k c (c % 256 :: t)) (strOfNums L) ∧ Ev (fun k => spec_l09Bytes.l0 k (c % 256 :: t) (c / 256)) (strOfNums L) ∧ L.length ≤ t.length + 1 + m ∧ 1 ≤ L.length := by
  intro m
  induction m with
  | zero =>
    intro c t h0 h1 ht
    simp only [Int.pow_zero, Int.mul_one] at h0 h1
    have hr : rd (c % 256 :: t) 0 = c % 256 := rfl
    have hi := i8_w (c % 256) (by omega) (by omega)
    have hp : (0 : Int) < ((c % 256 :: t).length : Int) := by simp only [List.length_cons]; omega
    refine ⟨c % 256 :: t, Ev_one fun k => ?_, Ev_one fun k => ?_, by simp, by simp⟩
    · simp only [impl_intBody.l0]
      rw [if_pos hp, hr, hi, if_pos (by split <;> omega)]
    · simp only [spec_l09Bytes.l0]
      rw [hr]
      by_cases hc : 0 ≤ c
      · rw [if_pos (by omega), if_pos hp, if_pos (by omega)]
      · rw [if_neg (by omega), if_pos (by omega), if_pos hp, if_pos (by omega)]
  | succ m ih =>
    intro c t h0 h1 ht
    have hr : rd (c % 256 :: t) 0 = c % 256 := rfl
    have hi := i8_w (c % 256) (by omega) (by omega)
    have hp : (0 : Int) < ((c % 256 :: t).length : Int) := by simp only [List.length_cons]; omega
    by_cases hs : -128 ≤ c ∧ c < 128
    · refine ⟨c % 256 :: t, Ev_one fun k => ?_, Ev_one fun k => ?_, by simp, by simp⟩
      · simp only [impl_intBody.l0]
        rw [if_pos hp, hr, hi, if_pos (by split <;> omega)]
      · simp only [spec_l09Bytes.l0]
        rw [hr]
        by_cases hc : 0 ≤ c
        · rw [if_pos (by omega), if_pos hp, if_pos (by omega)]
        · rw [if_neg (by omega), if_pos (by omega), if_pos hp, if_pos (by omega)]
    · have e : (256 : Int) ^ (m + 1) = 256 * 256 ^ m := by rw [Int.pow_succ, Int.mul_comm]
      obtain ⟨L, i1, s1, hl, hl1⟩ := ih (c / 256) (c % 256 :: t) (by rw [e] at h0; omega) (by rw [e] at h1; omega) (by simp only [List.length_cons]; omega)
      have hln : ([c / 256 % 256] : List Int).length + (c % 256 :: t).length < 140737488355328 := by simp only [List.length_cons, List.length_nil]; omega
      refine ⟨L, Ev.step (fun k => ?_) i1, Ev.step (fun k => ?_) s1, by simp only [List.length_cons] at hl; omega, hl1⟩
      · simp only [impl_intBody.l0]
        rw [if_pos hp, hr, hi, if_neg (by split <;> omega)]
        simp only [Option.bind_some]
        rw [if_pos hln]
        rfl
      · simp only [spec_l09Bytes.l0]
        rw [hr]
        simp only [Option.bind_some]
        by_cases hc : c / 256 = 0
        · rw [if_pos hc, if_pos hp, if_neg (by omega), if_neg (by omega), if_pos hln]
          rfl
        · rw [if_neg hc]
          by_cases hd : c / 256 = -1
          · rw [if_pos hd, if_pos hp, if_neg (by omega), if_pos hln]
            rfl
          · rw [if_neg hd, if_pos hln]
            rfl
theorem berInt_same (a n : Int) (h0 : -9223372036854775808 ≤ n) (h1 : n ≤ 9223372036854775807) :
    ∃ L : List Int, Ev (fun k => impl_intBody.f k n) (strOfNums L) ∧ Ev (fun k => spec_l09Bytes.f k n) (strOfNums L) ∧ Ev (fun k => impl_BerInt.f k a n) (putV a (strOfNums L)) ∧ Ev (fun k => spec_BerInt.f k a n) (putV a (strOfNums L)) ∧ L.length ≤ 8 ∧ 1 ≤ L.length := by
  obtain ⟨L, i1, s1, hl, hl1⟩ := bytes_same 7 n [] (by omega) (by omega) (by simp)
  have hl8 : L.length ≤ 8 := by simpa using hl
  have hz : (strOfNums L).size ≤ 8 := by rw [nums_size]; exact hl8
  refine ⟨L, i1, s1, ?_, ?_, hl8, hl1⟩
  · unfold impl_BerInt.f
    exact Ev_bind i1 (Ev_some fun k => by rw [impl_put]; rfl)
  · unfold spec_BerInt.f putV
    refine Ev.congr (fun k => by rw [spec_tag]) (Ev_bind (Ev.now _) ?_)
    by_cases ht : tagOk a = true
    · rw [if_pos ht, if_neg (by omega)]
      exact Ev.congr (fun k => if_pos ht) (Ev_bind s1 (Ev_some fun k => by rw [spec_put0 _ _ (by omega)]; rfl))
    · rw [if_neg ht]
      exact Ev.congr (fun k => if_neg ht) (Ev.now _)
end Go.Proofs.Ytfikhgiiccbbfaa.PG
