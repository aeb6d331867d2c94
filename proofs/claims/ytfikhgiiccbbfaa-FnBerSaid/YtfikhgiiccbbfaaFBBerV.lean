/-
  BER: a number's bytes, read again. Plain Lean over the printed functions.
-/
import Derived.Test.YtfikhgiiccbbfaaFBP2
import Derived.Test.YtfikhgiiccbbfaaFBBerR
import Derived.Test.YtfikhgiiccbbfaaFBBerB
namespace Go.Proofs.Ytfikhgiiccbbfaa.PG
set_option linter.unusedVariables false
set_option linter.unusedSimpArgs false
set_option maxRecDepth 20000
open Go.RowKit Go.Proofs.YtfikhgiiccbbfaaW.PrintWords Go.Proofs.YtfikhgiiccbbfaaW.PrintLast Go.Proofs.YtfikhgiiccbbfaaW.PrintMore Go.Proofs.Ytfikhgiiccbbfaa.Gn

def sgn8 (n : Int) : Int := if n < 128 then n else n - 256
/-- What bytes say behind a first value. -/
def rdV : Int → List Int → Int
  | v, [] => v
  | v, x :: r => rdV (v * 256 + x) r
/-- Bytes that may be read behind a value with no loss. -/
def fitV : Int → List Int → Prop
  | v, [] => True
  | v, x :: r => 0 ≤ x ∧ x < 256 ∧ -36028797018963968 ≤ v ∧ v ≤ 36028797018963967 ∧ fitV (v * 256 + x) r
theorem bytes_val : ∀ (m : Nat) (c : Int) (t : List Int), -(128 * 256 ^ m) ≤ c → c < 128 * 256 ^ m → m ≤ 7 → t.length + m ≤ 7 → fitV c t →
    ∃ (h : Int) (L : List Int), Ev (fun k => impl_intBody.l0 k c (c % 256 :: t)) (strOfNums (h :: L)) ∧ rdV (sgn8 h) L = rdV c t ∧ fitV (sgn8 h) L ∧ 0 ≤ h ∧ h < 256 ∧ L.length ≤ 7 := by
  intro m
  induction m with
  | zero =>
    intro c t h0 h1 hm ht hf
    simp only [Int.pow_zero, Int.mul_one] at h0 h1
    have hr : rd (c % 256 :: t) 0 = c % 256 := rfl
    have hi := i8_w (c % 256) (by omega) (by omega)
    have hp : (0 : Int) < ((c % 256 :: t).length : Int) := by simp only [List.length_cons]; omega
    have hs : sgn8 (c % 256) = c := by unfold sgn8; split <;> omega
    refine ⟨c % 256, t, Ev_one fun k => ?_, by rw [hs], by rw [hs]; exact hf, by omega, by omega, by omega⟩
    simp only [impl_intBody.l0]
    rw [if_pos hp, hr, hi, if_pos (by split <;> omega)]
  | succ m ih =>
    intro c t h0 h1 hm ht hf
    have hr : rd (c % 256 :: t) 0 = c % 256 := rfl
    have hi := i8_w (c % 256) (by omega) (by omega)
    have hp : (0 : Int) < ((c % 256 :: t).length : Int) := by simp only [List.length_cons]; omega
    by_cases hs : -128 ≤ c ∧ c < 128
    · have hs2 : sgn8 (c % 256) = c := by unfold sgn8; split <;> omega
      refine ⟨c % 256, t, Ev_one fun k => ?_, by rw [hs2], by rw [hs2]; exact hf, by omega, by omega, by omega⟩
      simp only [impl_intBody.l0]
      rw [if_pos hp, hr, hi, if_pos (by split <;> omega)]
    · have e : (256 : Int) ^ (m + 1) = 256 * 256 ^ m := by rw [Int.pow_succ, Int.mul_comm]
      have hb : (256 : Int) ^ m ≤ 281474976710656 := by
        have : m = 0 ∨ m = 1 ∨ m = 2 ∨ m = 3 ∨ m = 4 ∨ m = 5 ∨ m = 6 := by omega
        rcases this with rfl | rfl | rfl | rfl | rfl | rfl | rfl <;> decide
      have hb1 : c / 256 * 256 + c % 256 = c := by omega
      rw [e] at h0 h1
      obtain ⟨h, L, i1, v1, f1, l0, l1, l2⟩ := ih (c / 256) (c % 256 :: t) (by omega) (by omega) (by omega) (by simp only [List.length_cons]; omega) ⟨by omega, by omega, by omega, by omega, by rw [hb1]; exact hf⟩
      have hln : ([c / 256 % 256] : List Int).length + (c % 256 :: t).length < 140737488355328 := by simp only [List.length_cons, List.length_nil]; omega
      refine ⟨h, L, Ev.step (fun k => ?_) i1, by rw [v1]; show rdV (c / 256 * 256 + c % 256) t = _; rw [hb1], f1, l0, l1, l2⟩
      simp only [impl_intBody.l0]
      rw [if_pos hp, hr, hi, if_neg (by split <;> omega)]
      simp only [Option.bind_some]
      rw [if_pos hln]
      rfl
theorem read_val (n : Int) (B : ByteArray) (hB : Ev (fun k => impl_intBody.f k n) B) : ∀ (L pre : List Int) (v : Int), B = strOfNums (pre ++ L) → pre.length + L.length ≤ 8 → rdV v L = n → fitV v L →
    Ev (fun k => impl_readInt.l0 k B v (pre.length : Int)) (n, true) := by
  intro L
  induction L with
  | nil =>
    intro pre v hb hl hv hf
    have hs : B.size = pre.length := by rw [hb, nums_size]; simp
    obtain rfl : v = n := hv
    refine Ev.step (fun k => by simp only [impl_readInt.l0]; rw [if_neg (by omega)]) (Ev_bind hB ?_)
    refine Ev_some fun k => ?_
    simp
  | cons x r ih =>
    intro pre v hb hl hv hf
    obtain ⟨x0, x1, v0, v1, hf'⟩ := hf
    have hs : B.size = pre.length + (r.length + 1) := by rw [hb, nums_size]; simp
    have hbt : bt B (pre.length : Int) = x := by
      have h := bt_nums (pre ++ x :: r) ByteArray.empty pre.length (by simp) (by simp; exact x0) (by simp; exact x1)
      rw [app_nil, ← hb] at h
      simpa using h
    have e0 : wrap64 (v * 256) = v * 256 := w_id (by omega) (by omega)
    have e := or_byte (x := v * 256) (y := x) (by omega) (by omega) (by omega) x0 x1
    have e1 : wrap64 ((pre.length : Int) + 1) = ((pre ++ [x]).length : Int) := by simp only [List.length_cons] at hl; rw [w_id (by omega) (by omega)]; simp
    refine Ev.step (fun k => by simp only [impl_readInt.l0]; rw [if_pos (by omega), if_pos (by omega), hbt, e0, show wrap64 x = x from w_id (by omega) (by omega), e, e1]) ?_
    exact ih (pre ++ [x]) (v * 256 + x) (by rw [hb]; simp) (by simp at hl ⊢; omega) hv hf'
theorem berInt_read (n : Int) (h0 : -9223372036854775808 ≤ n) (h1 : n ≤ 9223372036854775807) : ∃ B : ByteArray, Ev (fun k => impl_intBody.f k n) B ∧ Ev (fun k => impl_BerIntRead.f k B) (n, 0, 0) ∧ 1 ≤ B.size ∧ B.size ≤ 8 := by
  obtain ⟨h, L, i1, v1, f1, l0, l1, l2⟩ := bytes_val 7 n [] (by omega) (by omega) (by omega) (by simp) trivial
  have hs : (strOfNums (h :: L)).size = L.length + 1 := by rw [nums_size]; simp
  refine ⟨strOfNums (h :: L), i1, ?_, by omega, by omega⟩
  have hb0 : bt (strOfNums (h :: L)) 0 = h := by
    have hh := bt_nums (h :: L) ByteArray.empty 0 (by simp) (by simpa using l0) (by simpa using l1)
    rw [app_nil] at hh
    simpa using hh
  have hr := read_val n _ i1 L [h] (sgn8 h) rfl (by simp; omega) v1 f1
  unfold impl_BerIntRead.f
  refine Ev_bind (long_one _) (Ev.congr (fun k => if_neg (by simp; omega)) (Ev_bind (a := (n, true)) ?_ (Ev.now _)))
  unfold impl_readInt.f
  refine Ev.congr (fun k => by rw [if_neg (by omega), decide_eq_false (by omega)]) ?_
  refine Ev.step (f := fun k => impl_readInt.l0 k (strOfNums (h :: L)) (sgn8 h) (([h] : List Int).length : Int)) (fun k => ?_) hr
  simp only [impl_readInt.j0]
  rw [if_neg Bool.false_ne_true, if_pos (by omega), hb0, i8_w h l0 l1]
  rfl
theorem put_body (a : Int) (b : ByteArray) (hb : b.size ≤ 8) : (putT a b).extract 2 (putT a b).size = b := by
  have eh : (hdr a b.size).length = 2 := by unfold hdr; rw [if_pos (by omega)]; rfl
  have h := ext_mid (strOfNums (hdr a b.size)) b ByteArray.empty 2 (by rw [nums_size]; exact eh)
  rw [app_nil] at h
  rw [put_size, eh]
  exact h
end Go.Proofs.Ytfikhgiiccbbfaa.PG
