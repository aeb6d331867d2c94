/-
  BER: a number read of bytes: program and reference say the same. Plain Lean over the printed functions.
-/
import Derived.Test.YtfikhgiiccbbfaaFBP2
import Derived.Test.YtfikhgiiccbbfaaFBBerN
namespace Go.Proofs.Ytfikhgiiccbbfaa.PG
set_option linter.unusedVariables false
set_option linter.unusedSimpArgs false
open Go.RowKit Go.Proofs.YtfikhgiiccbbfaaW.PrintWords Go.Proofs.YtfikhgiiccbbfaaW.PrintLast Go.Proofs.YtfikhgiiccbbfaaW.PrintMore Go.Proofs.Ytfikhgiiccbbfaa.Gn

theorem or_byte {x y : Int} (hx : x % 256 = 0) (h0 : -9223372036854775808 ≤ x) (h1 : x ≤ 9223372036854775807) (hy : 0 ≤ y) (hy2 : y < 256) : Go.bits .or .i64 x y = x + y := by
  obtain ⟨b, rfl⟩ := Int.eq_ofNat_of_zero_le hy
  have hX : (BitVec.ofInt 64 x).toNat = (x % 18446744073709551616).toNat := by
    rw [BitVec.toNat_ofInt]
    rfl
  have hY : (BitVec.ofInt 64 (b : Int)).toNat = b := by
    rw [BitVec.ofInt_natCast, BitVec.toNat_ofNat]
    exact Nat.mod_eq_of_lt (by omega)
  show IntKind.i64.wrap ((BitVec.ofInt 64 x ||| BitVec.ofInt 64 (b : Int)).toNat : Int) = _
  rw [BitVec.toNat_or, hX, hY, i64_w]
  obtain ⟨X, hXX⟩ : ∃ X, (x % 18446744073709551616).toNat = X := ⟨_, rfl⟩
  rw [hXX]
  have hd : X % 256 = 0 := by omega
  have ho : X ||| b = X + b := by
    obtain ⟨z, rfl⟩ : ∃ z, X = 2 ^ 8 * z := ⟨X / 256, by omega⟩
    exact (Nat.two_pow_add_eq_or_of_lt (show b < 2 ^ 8 by omega) z).symm
  rw [ho]
  unfold wrap64
  omega
theorem w256 (v : Int) : wrap64 (v * 256) % 256 = 0 ∧ -9223372036854775808 ≤ wrap64 (v * 256) ∧ wrap64 (v * 256) ≤ 9223372036854775807 := by
  unfold wrap64
  omega
theorem read_same (s : ByteArray) (hs : s.size ≤ 8) : ∀ (m i : Nat) (v : Int), i + m = s.size → -9223372036854775808 ≤ v → v ≤ 9223372036854775807 →
    ∃ r, Ev (fun k => impl_readInt.l0 k s v (i : Int)) r ∧ Ev (fun k => spec_l09Int.l0 k s v (i : Int)) r := by
  intro m
  induction m with
  | zero =>
    intro i v hi h0 h1
    obtain ⟨L, i1, s1, _⟩ := berInt_same 0 v h0 h1
    exact ⟨(v, ((strOfNums L).toList == s.toList)), Ev.step (fun k => by simp only [impl_readInt.l0]; rw [if_neg (by omega)]) (Ev_bind i1 (Ev.now _)), Ev.step (fun k => by simp only [spec_l09Int.l0]; rw [if_neg (by omega)]) (Ev_bind s1 (Ev.now _))⟩
  | succ m ih =>
    intro i v hi h0 h1
    have hb := bt_range s (i : Int)
    obtain ⟨w1, w2, w3⟩ := w256 v
    have e := or_byte w1 w2 w3 hb.1 (show bt s (i : Int) < 256 by omega)
    have e1 : wrap64 ((i : Int) + 1) = ((i + 1 : Nat) : Int) := by rw [w_id (by omega) (by omega)]; omega
    obtain ⟨r, r1, r2⟩ := ih (i + 1) (wrap64 (v * 256) + bt s (i : Int)) (by omega) (by omega) (by omega)
    exact ⟨r, Ev.step (fun k => by simp only [impl_readInt.l0]; rw [if_pos (by omega), if_pos (by omega), wb, e, e1]) r1, Ev.step (fun k => by simp only [spec_l09Int.l0]; rw [if_pos (by omega), if_pos (by omega), wb, e, e1]) r2⟩
theorem readInt_same (s : ByteArray) : ∃ r, Ev (fun k => impl_readInt.f k s) r ∧ Ev (fun k => spec_l09Int.f k s) r := by
  unfold impl_readInt.f spec_l09Int.f
  have bad : Ev (fun k => impl_readInt.j0 k s true) (0, false) ∧ Ev (fun k => spec_l09Int.j0 k s true) (0, false) := ⟨Ev_one fun k => by simp only [impl_readInt.j0]; rw [if_pos trivial], Ev_one fun k => by simp only [spec_l09Int.j0]; rw [if_pos trivial]⟩
  by_cases h1 : (s.size : Int) < 1
  · exact ⟨_, Ev.congr (fun k => if_pos h1) bad.1, Ev.congr (fun k => if_pos h1) bad.2⟩
  by_cases h8 : (s.size : Int) > 8
  · exact ⟨_, Ev.congr (fun k => by rw [if_neg h1, decide_eq_true h8]) bad.1, Ev.congr (fun k => by rw [if_neg h1, decide_eq_true h8]) bad.2⟩
  have hb := bt_range s 0
  have hi := i8_w (bt s 0) hb.1 (by omega)
  have z1 : wrap64 ((0 : Int) + 1) = ((1 : Nat) : Int) := w_id (by omega) (by omega)
  obtain ⟨r, r1, r2⟩ := read_same s (by omega) (s.size - 1) 1 (if bt s 0 < 128 then bt s 0 else bt s 0 - 256) (by omega) (by split <;> omega) (by split <;> omega)
  refine ⟨r, Ev.congr (fun k => by rw [if_neg h1, decide_eq_false h8]) ?_, Ev.congr (fun k => by rw [if_neg h1, decide_eq_false h8]) ?_⟩
  · exact Ev.step (fun k => by simp only [impl_readInt.j0]; rw [if_neg Bool.false_ne_true, if_pos (by omega), hi]; rfl) r1
  · refine Ev.step (fun k => by simp only [spec_l09Int.j0]; rw [if_neg Bool.false_ne_true, if_pos (by omega)]) ?_
    by_cases hL : bt s 0 ≥ 128
    · refine Ev.congr (fun k => if_pos hL) ?_
      refine Ev.step (f := fun k => spec_l09Int.l0 k s (-1) 0) (fun k => by simp only [spec_l09Int.j1]) ?_
      have e0 : wrap64 ((-1 : Int) * 256) = -256 := w_id (by omega) (by omega)
      have e1 : Go.bits .or .i64 (-256) (bt s 0) = bt s 0 - 256 := by rw [or_byte (by omega) (by omega) (by omega) hb.1 (by omega)]; omega
      refine Ev.step (fun k => by simp only [spec_l09Int.l0]; rw [if_pos (by omega), if_pos (by omega), wb, e0, e1, z1]) ?_
      rw [if_neg (by omega)] at r2
      exact r2
    · refine Ev.congr (fun k => if_neg hL) ?_
      refine Ev.step (f := fun k => spec_l09Int.l0 k s 0 0) (fun k => by simp only [spec_l09Int.j1]) ?_
      have e0 : wrap64 ((0 : Int) * 256) = 0 := w_id (by omega) (by omega)
      have e1 : Go.bits .or .i64 0 (bt s 0) = bt s 0 := by rw [or_byte (by omega) (by omega) (by omega) hb.1 (by omega)]; omega
      refine Ev.step (fun k => by simp only [spec_l09Int.l0]; rw [if_pos (by omega), if_pos (by omega), wb, e0, e1, z1]) ?_
      rw [if_pos (by omega)] at r2
      exact r2
theorem berIntRead_same (s : ByteArray) : ∃ r, Ev (fun k => impl_BerIntRead.f k s) r ∧ Ev (fun k => spec_BerIntRead.f k s) r := by
  unfold impl_BerIntRead.f spec_BerIntRead.f
  by_cases h : (s.size : Int) > 8000
  · exact ⟨(0, 0, 2), Ev_bind (long_one s) (Ev.congr (fun k => if_pos (decide_eq_true h)) (Ev.now _)), Ev.congr (fun k => if_pos h) (Ev.now _)⟩
  · obtain ⟨⟨v, b⟩, r1, r2⟩ := readInt_same s
    refine ⟨if b = true then (v, 0, 0) else (0, 0, 3), Ev_bind (long_one s) (Ev.congr (fun k => if_neg (by simpa using h)) (Ev_bind r1 ?_)), Ev.congr (fun k => if_neg h) (Ev_bind r2 ?_)⟩
    · cases b
      · exact Ev.now _
      · exact Ev.now _
    · cases b
      · exact Ev.now _
      · exact Ev.now _
end Go.Proofs.Ytfikhgiiccbbfaa.PG
