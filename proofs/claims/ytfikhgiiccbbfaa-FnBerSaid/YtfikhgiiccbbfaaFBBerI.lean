/-
  BER: what the program reads of a text at a place. Plain Lean over the printed functions.
-/
import Derived.Laws.BitsLemmas
import Derived.Test.YtfikhgiiccbbfaaFBP1
import Derived.Test.YtfikhgiiccbbfaaFBBerG
namespace Go.Proofs.Ytfikhgiiccbbfaa.PG
set_option linter.unusedVariables false
set_option linter.unusedSimpArgs false
open Go.RowKit Go.Proofs.YtfikhgiiccbbfaaW.PrintWords Go.Proofs.YtfikhgiiccbbfaaW.PrintLast Go.Proofs.YtfikhgiiccbbfaaW.PrintMore Go.Proofs.Ytfikhgiiccbbfaa.Gn

theorem same_b {a b : ByteArray} (h : a.toList = b.toList) : a = b := by
  rw [ByteArray.toList_eq, ByteArray.toList_eq] at h
  apply ByteArray.ext
  exact Array.ext' h
theorem bt_ext (s : ByteArray) (a i : Int) (ha : 0 ≤ a) (hi : 0 ≤ i) : bt (s.extract a.toNat s.size) i = bt s (a + i) := by
  obtain ⟨n, rfl⟩ := Int.eq_ofNat_of_zero_le ha
  obtain ⟨m, rfl⟩ := Int.eq_ofNat_of_zero_le hi
  unfold bt
  have e : ((n : Int) + (m : Int)).toNat = n + m := by omega
  simp only [e, Int.toNat_natCast, ByteArray.size_extract, Nat.min_self]
  by_cases h : n + m < s.size
  · rw [dif_pos (by omega), dif_pos h]
    simp [ByteArray.getElem_extract]
  · rw [dif_neg (by omega), dif_neg h]
theorem or8 {x y : Int} (h0 : 0 ≤ x) (h1 : x % 256 = 0) (h2 : x < 1000000) (h3 : 0 ≤ y) (h4 : y < 256) : Go.bits .or .i64 x y = x + y :=
  Go.bits_join .i64 31 (by decide) (fun n a b => by rw [i64_w]; exact w_id (by omega) (by omega)) 8 x y h0 (by simpa using h1) (by omega) h3 (by simpa using h4) (by omega)
theorem num_byte (q : ByteArray) (i : Nat) (h : i < q.size) : UInt8.ofNat (bt q (i : Int)).toNat = q[i]'h := by
  unfold bt
  simp only [Int.toNat_natCast]
  rw [dif_pos h]
  simp
theorem ext_one (q : ByteArray) (h : 2 ≤ q.size) : q.extract 1 2 = strOfNums [bt q 1] := by
  apply ByteArray.ext
  apply Array.ext
  · simp [strOfNums]; have : q.data.size = q.size := rfl; omega
  · intro i h1 h2
    have hi : i < 1 := by simpa [strOfNums] using h2
    obtain rfl : i = 0 := by omega
    have := num_byte q 1 (by omega)
    simp [strOfNums] at this ⊢
    rw [this]; rfl
theorem ext_two (q : ByteArray) (h : 3 ≤ q.size) : q.extract 1 3 = strOfNums [bt q 1, bt q 2] := by
  apply ByteArray.ext
  apply Array.ext
  · simp [strOfNums]; have : q.data.size = q.size := rfl; omega
  · intro i h1 h2
    have hi : i < 2 := by simpa [strOfNums] using h2
    have t1 := num_byte q 1 (by omega)
    have t2 := num_byte q 2 (by omega)
    rcases (show i = 0 ∨ i = 1 by omega) with rfl | rfl
    · simp [strOfNums] at t1 ⊢; rw [t1]; rfl
    · simp [strOfNums] at t2 ⊢; rw [t2]; rfl
theorem ext_three (q : ByteArray) (h : 4 ≤ q.size) : q.extract 1 4 = strOfNums [bt q 1, bt q 2, bt q 3] := by
  apply ByteArray.ext
  apply Array.ext
  · simp [strOfNums]; have : q.data.size = q.size := rfl; omega
  · intro i h1 h2
    have hi : i < 3 := by simpa [strOfNums] using h2
    have t1 := num_byte q 1 (by omega)
    have t2 := num_byte q 2 (by omega)
    have t3 := num_byte q 3 (by omega)
    rcases (show i = 0 ∨ i = 1 ∨ i = 2 by omega) with rfl | rfl | rfl
    · simp [strOfNums] at t1 ⊢; rw [t1]; rfl
    · simp [strOfNums] at t2 ⊢; rw [t2]; rfl
    · simp [strOfNums] at t3 ⊢; rw [t3]; rfl
theorem ext_ext (s : ByteArray) (a p n : Int) (ha : 0 ≤ a) (hp : 0 ≤ p) (hn : 0 ≤ n) (hs : a + p + n ≤ (s.size : Int)) : (s.extract a.toNat s.size).extract p.toNat (p + n).toNat = s.extract (a + p).toNat (a + p + n).toNat := by
  rw [ByteArray.extract_extract]
  congr 1
  · omega
  · omega
/-- The end of a reading where the length's bytes are right. -/
theorem impl_j4 (s : ByteArray) (a p n : Int) (hs : s.size ≤ 8000) (ha : 0 ≤ a) (ha2 : a < (s.size : Int)) (hp : 0 ≤ p) (hp2 : p ≤ 10) (hn : 0 ≤ n) (hn2 : n ≤ 4000) :
    Ev (fun k => impl_berGet.j4 k a (s.extract a.toNat s.size) p n false) (finV s (bt s a) n (a + p)) := by
  refine Ev_one fun k => ?_
  simp only [impl_berGet.j4]
  unfold finV
  have e1 : wrap64 (p + n) = p + n := w_id (by omega) (by omega)
  have e2 : wrap64 (a + (p + n)) = a + p + n := by rw [w_id (by omega) (by omega)]; omega
  have e3 := bt_ext s a 0 ha (by omega)
  rw [Int.add_zero] at e3
  have e4 : ((s.extract a.toNat s.size).size : Int) = s.size - a := by rw [ByteArray.size_extract, Nat.min_self]; omega
  rw [if_neg Bool.false_ne_true, e1, e2, e3, e4, wb, if_neg (show ¬ n > 4000 by omega)]
  by_cases h2 : a + p + n > (s.size : Int)
  · rw [if_pos (show (s.size : Int) - a < p + n by omega), if_pos h2]
    rfl
  · rw [if_neg (show ¬ (s.size : Int) - a < p + n by omega), if_neg h2, if_pos (show (0 : Int) < (s.size : Int) - a by omega), if_pos hp, if_pos (show p ≤ p + n by omega), if_pos (show p + n ≤ (s.size : Int) - a by omega), ext_ext s a p n ha hp hn (by omega)]
theorem impl_j3 (s : ByteArray) (a p n : Int) (hs : s.size ≤ 8000) (ha : 0 ≤ a) (ha2 : a + p ≤ (s.size : Int)) (hp : 1 ≤ p) (hp2 : p ≤ 10) (hn : 0 ≤ n)
    (hl : strOfNums ((hdr 0 n).drop 1) = (s.extract a.toNat s.size).extract 1 p.toNat) :
    Ev (fun k => impl_berGet.j3 k a (s.extract a.toNat s.size) p n) (finV s (bt s a) n (a + p)) := by
  have e4 : ((s.extract a.toNat s.size).size : Int) = s.size - a := by rw [ByteArray.size_extract, Nat.min_self]; omega
  by_cases h4 : n > 4000
  · unfold finV
    rw [if_pos h4]
    refine Ev.step (fun k => by simp only [impl_berGet.j3]; rw [if_pos h4]) ?_
    exact Ev_one fun k => by simp only [impl_berGet.j4]; rw [if_pos trivial]; rfl
  · refine Ev.step (fun k => by simp only [impl_berGet.j3]; rw [if_neg h4, impl_len]) ?_
    refine Ev_bind (Ev.now _) ?_
    refine Ev.congr (fun k => by rw [if_pos hp, if_pos (by omega), hl]) ?_
    have hb : (((s.extract a.toNat s.size).extract 1 p.toNat).toList != ((s.extract a.toNat s.size).extract 1 p.toNat).toList) = false := by simp
    rw [hb]
    exact impl_j4 s a p n hs ha (by omega) (by omega) hp2 hn (by omega)
theorem impl_j3_bad (s : ByteArray) (a p n : Int) (ha : 0 ≤ a) (ha2 : a + p ≤ (s.size : Int)) (hp : 1 ≤ p)
    (hl : strOfNums ((hdr 0 n).drop 1) ≠ (s.extract a.toNat s.size).extract 1 p.toNat) :
    Ev (fun k => impl_berGet.j3 k a (s.extract a.toNat s.size) p n) gBad := by
  have e4 : ((s.extract a.toNat s.size).size : Int) = s.size - a := by rw [ByteArray.size_extract, Nat.min_self]; omega
  by_cases h4 : n > 4000
  · refine Ev.step (fun k => by simp only [impl_berGet.j3]; rw [if_pos h4]) ?_
    exact Ev_one fun k => by simp only [impl_berGet.j4]; rw [if_pos trivial]; rfl
  · refine Ev.step (fun k => by simp only [impl_berGet.j3]; rw [if_neg h4, impl_len]) ?_
    refine Ev_bind (Ev.now _) ?_
    refine Ev.congr (fun k => by rw [if_pos hp, if_pos (by omega)]) ?_
    have hb : ((strOfNums ((hdr 0 n).drop 1)).toList != ((s.extract a.toNat s.size).extract 1 p.toNat).toList) = true := by
      rw [bne_iff_ne]
      exact fun h => hl (same_b h)
    rw [hb]
    exact Ev_one fun k => by simp only [impl_berGet.j4]; rw [if_pos trivial]; rfl
theorem hdr_small {n : Int} (h0 : 0 ≤ n) (h : n < 128) : (hdr 0 n).drop 1 = [n] := by
  unfold hdr
  rw [if_pos h]
  simp only [List.drop_succ_cons, List.drop_zero]
  rw [Int.emod_eq_of_lt h0 (by omega)]
theorem hdr_mid {n : Int} (h0 : 128 ≤ n) (h : n < 256) : (hdr 0 n).drop 1 = [129, n] := by
  unfold hdr
  rw [if_neg (by omega), if_pos h]
  simp only [List.drop_succ_cons, List.drop_zero]
  rw [Int.emod_eq_of_lt (by omega) (by omega)]
theorem hdr_big {x y : Int} (hx : 1 ≤ x) (hx2 : x ≤ 255) (hy : 0 ≤ y) (hy2 : y ≤ 255) : (hdr 0 (256 * x + y)).drop 1 = [130, x, y] := by
  unfold hdr
  rw [if_neg (by omega), if_neg (by omega)]
  simp only [List.drop_succ_cons, List.drop_zero]
  rw [show (256 * x + y) / 256 % 256 = x by omega, show (256 * x + y) % 256 = y by omega]
theorem nums_ne {a b : List Int} (h : a.length ≠ b.length) : strOfNums a ≠ strOfNums b := fun e => h (by rw [← nums_size, ← nums_size, e])
theorem impl_get (s : ByteArray) (a : Int) (hs : s.size ≤ 8000) (ha : 0 ≤ a) : Ev (fun k => impl_berGet.f k s a) (getV s a) := by
  unfold impl_berGet.f getV
  have hemp : Ev (fun k => impl_berGet.j0 k s (s.size : Int)) gShort := by
    refine Ev_one fun k => ?_
    simp only [impl_berGet.j0]
    rw [if_pos (by omega), if_pos (Int.le_refl _), if_pos (by simp)]
    rfl
  by_cases h0 : a ≥ (s.size : Int)
  · rw [if_pos h0]
    by_cases h1 : a > (s.size : Int)
    · exact Ev.congr (fun k => if_pos h1) hemp
    · obtain rfl : a = (s.size : Int) := by omega
      exact Ev.congr (fun k => if_neg h1) hemp
  rw [if_neg h0]
  refine Ev.congr (fun k => if_neg (show ¬ a > (s.size : Int) by omega)) ?_
  have e4 : ((s.extract a.toNat s.size).size : Int) = s.size - a := by rw [ByteArray.size_extract, Nat.min_self]; omega
  have e5 : ¬ (s.extract a.toNat s.size).toList = ([] : List UInt8) := by
    intro h
    have := congrArg List.length h
    rw [ByteArray.toList_eq] at this
    have h2 : (s.extract a.toNat s.size).data.size = (s.extract a.toNat s.size).size := rfl
    simp only [Array.length_toList, List.length_nil] at this
    omega
  have b0 : bt (s.extract a.toNat s.size) 0 = bt s a := by rw [bt_ext s a 0 ha (by omega), Int.add_zero]
  have b1 := bt_ext s a 1 ha (by omega)
  have b2 := bt_ext s a 2 ha (by omega)
  have b3 := bt_ext s a 3 ha (by omega)
  refine Ev.step (fun k => by simp only [impl_berGet.j0]; rw [if_pos ha, if_pos (show a ≤ (s.size : Int) by omega), if_neg e5, if_pos (show (0 : Int) < ((s.extract a.toNat s.size).size : Int) by omega), b0, b1, wb, wb, impl_tag]) ?_
  refine Ev_bind (Ev.now _) ?_
  by_cases ht : tagOk (bt s a) = true
  · rw [if_pos ht]
    refine Ev.congr (fun k => if_pos ht) ?_
    by_cases h1 : a + 1 ≥ (s.size : Int)
    · rw [if_pos h1]
      exact Ev.congr (fun k => if_pos (show ((s.extract a.toNat s.size).size : Int) < 2 by omega)) (Ev.now _)
    rw [if_neg h1]
    refine Ev.congr (fun k => by rw [if_neg (show ¬ ((s.extract a.toNat s.size).size : Int) < 2 by omega), if_pos (show (1 : Int) < ((s.extract a.toNat s.size).size : Int) by omega)]) ?_
    have hr := bt_range s (a + 1)
    have r2 := bt_range s (a + 2)
    have r3 := bt_range s (a + 3)
    by_cases hL : bt s (a + 1) ≥ 128
    · rw [if_pos hL]
      refine Ev.congr (fun k => if_pos hL) ?_
      have z0 : wrap64 ((0 : Int) * 256) = 0 := w_id (by omega) (by omega)
      have z3 : wrap64 ((2 : Int) + 1) = 3 := w_id (by omega) (by omega)
      have z4 : wrap64 ((3 : Int) + 1) = 4 := w_id (by omega) (by omega)
      have o2 : Go.bits .or .i64 0 (bt s (a + 2)) = bt s (a + 2) := by rw [or8 (by omega) (by omega) (by omega) r2.1 (by omega), Int.zero_add]
      have m1 : wrap64 (bt s (a + 2) * 256) = bt s (a + 2) * 256 := w_id (by omega) (by omega)
      have o3 : Go.bits .or .i64 (bt s (a + 2) * 256) (bt s (a + 3)) = 256 * bt s (a + 2) + bt s (a + 3) := by rw [or8 (by omega) (by omega) (by omega) r3.1 (by omega), Int.mul_comm]
      by_cases h9 : bt s (a + 1) = 129
      · rw [if_pos h9]
        refine Ev.congr (fun k => if_pos h9) ?_
        have lm : wrap64 (wrap64 (2 + bt s (a + 1)) - 128) = 3 := by rw [h9]; rw [w_id (i := 2 + 129) (by omega) (by omega)]; exact w_id (by omega) (by omega)
        by_cases h3 : a + 3 > (s.size : Int)
        · rw [if_pos h3]
          exact Ev_one fun k => by simp only [impl_berGet.j1]; rw [if_neg Bool.false_ne_true, lm, if_pos (show ((s.extract a.toNat s.size).size : Int) < 3 by omega)]; rfl
        rw [if_neg h3]
        have hx := ext_two (s.extract a.toNat s.size) (by omega)
        rw [b1, b2, h9] at hx
        refine Ev.step (fun k => by simp only [impl_berGet.j1]; rw [if_neg Bool.false_ne_true, lm, if_neg (show ¬ ((s.extract a.toNat s.size).size : Int) < 3 by omega)]) ?_
        refine Ev.step (fun k => by simp only [impl_berGet.l0]; rw [if_pos (show (2 : Int) < 3 by omega), if_pos (show (0 : Int) ≤ 2 by omega), if_pos (show (2 : Int) < ((s.extract a.toNat s.size).size : Int) by omega), z0, b2, wb, o2, z3]) ?_
        refine Ev.step (fun k => by simp only [impl_berGet.l0]; rw [if_neg (show ¬ (3 : Int) < 3 by omega)]) ?_
        by_cases h4 : bt s (a + 2) < 128
        · rw [if_pos h4]
          exact impl_j3_bad s a 3 _ ha (by omega) (by omega) (by rw [hdr_small r2.1 h4]; show _ ≠ (s.extract a.toNat s.size).extract 1 3; rw [hx]; exact nums_ne (by simp))
        · rw [if_neg h4]
          exact impl_j3 s a 3 _ hs ha (by omega) (by omega) (by omega) r2.1 (by rw [hdr_mid (by omega) (by omega)]; show _ = (s.extract a.toNat s.size).extract 1 3; rw [hx])
      · rw [if_neg h9]
        refine Ev.congr (fun k => if_neg h9) ?_
        by_cases hA : bt s (a + 1) = 130
        · rw [if_pos hA]
          have hf : (bt s (a + 1) != 130) = false := by rw [hA]; rfl
          rw [hf]
          have lm : wrap64 (wrap64 (2 + bt s (a + 1)) - 128) = 4 := by rw [hA]; rw [w_id (i := 2 + 130) (by omega) (by omega)]; exact w_id (by omega) (by omega)
          by_cases h3 : a + 4 > (s.size : Int)
          · rw [if_pos h3]
            exact Ev_one fun k => by simp only [impl_berGet.j1]; rw [if_neg Bool.false_ne_true, lm, if_pos (show ((s.extract a.toNat s.size).size : Int) < 4 by omega)]; rfl
          rw [if_neg h3]
          have hx := ext_three (s.extract a.toNat s.size) (by omega)
          rw [b1, b2, b3, hA] at hx
          refine Ev.step (fun k => by simp only [impl_berGet.j1]; rw [if_neg Bool.false_ne_true, lm, if_neg (show ¬ ((s.extract a.toNat s.size).size : Int) < 4 by omega)]) ?_
          refine Ev.step (fun k => by simp only [impl_berGet.l0]; rw [if_pos (show (2 : Int) < 4 by omega), if_pos (show (0 : Int) ≤ 2 by omega), if_pos (show (2 : Int) < ((s.extract a.toNat s.size).size : Int) by omega), z0, b2, wb, o2, z3]) ?_
          refine Ev.step (fun k => by simp only [impl_berGet.l0]; rw [if_pos (show (3 : Int) < 4 by omega), if_pos (show (0 : Int) ≤ 3 by omega), if_pos (show (3 : Int) < ((s.extract a.toNat s.size).size : Int) by omega), m1, b3, wb, o3, z4]) ?_
          refine Ev.step (fun k => by simp only [impl_berGet.l0]; rw [if_neg (show ¬ (4 : Int) < 4 by omega)]) ?_
          by_cases h4 : 256 * bt s (a + 2) + bt s (a + 3) < 256
          · rw [if_pos h4]
            refine impl_j3_bad s a 4 _ ha (by omega) (by omega) ?_
            show _ ≠ (s.extract a.toNat s.size).extract 1 4
            rw [hx]
            by_cases h5 : 256 * bt s (a + 2) + bt s (a + 3) < 128
            · rw [hdr_small (by omega) h5]; exact nums_ne (by simp)
            · rw [hdr_mid (by omega) h4]; exact nums_ne (by simp)
          · rw [if_neg h4]
            refine impl_j3 s a 4 _ hs ha (by omega) (by omega) (by omega) (by omega) ?_
            show _ = (s.extract a.toNat s.size).extract 1 4
            rw [hx, hdr_big (by omega) r2.2 r3.1 r3.2]
        · rw [if_neg hA]
          have hf : (bt s (a + 1) != 130) = true := by rw [bne_iff_ne]; exact hA
          rw [hf]
          exact Ev_one fun k => by simp only [impl_berGet.j1]; rw [if_pos trivial]; rfl
    · rw [if_neg hL]
      refine Ev.congr (fun k => if_neg hL) ?_
      refine impl_j3 s a 2 _ hs ha (by omega) (by omega) (by omega) hr.1 ?_
      have hx := ext_one (s.extract a.toNat s.size) (by omega)
      rw [b1] at hx
      show _ = (s.extract a.toNat s.size).extract 1 2
      rw [hx, hdr_small hr.1 (by omega)]
  · rw [if_neg ht]
    exact Ev.congr (fun k => if_neg ht) (Ev.now _)
end Go.Proofs.Ytfikhgiiccbbfaa.PG
