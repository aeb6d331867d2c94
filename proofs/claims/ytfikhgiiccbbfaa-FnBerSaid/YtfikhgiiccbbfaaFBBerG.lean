/-
  BER: what the reference reads of a text at a place. Plain Lean over the printed functions.
-/
import Derived.Test.YtfikhgiiccbbfaaFBP2
import Derived.Test.YtfikhgiiccbbfaaFBBerA
namespace Go.Proofs.Ytfikhgiiccbbfaa.PG
set_option linter.unusedVariables false
set_option linter.unusedSimpArgs false
open Go.RowKit Go.Proofs.YtfikhgiiccbbfaaW.PrintWords Go.Proofs.YtfikhgiiccbbfaaW.PrintLast Go.Proofs.YtfikhgiiccbbfaaW.PrintMore Go.Proofs.Ytfikhgiiccbbfaa.Gn

def gShort : Int × ByteArray × Int × Int := (0, ⟨#[]⟩, 0, 4)
def gBad : Int × ByteArray × Int × Int := (0, ⟨#[]⟩, 0, 3)
/-- The end of a reading: tag t, length n, the body from p on. -/
def finV (s : ByteArray) (t n p : Int) : Int × ByteArray × Int × Int :=
  if n > 4000 then gBad else if p + n > (s.size : Int) then gShort else (t, s.extract p.toNat (p + n).toNat, p + n, 0)
def getV (s : ByteArray) (a : Int) : Int × ByteArray × Int × Int :=
  if a ≥ (s.size : Int) then gShort
  else if tagOk (bt s a) = true then
    (if a + 1 ≥ (s.size : Int) then gShort
     else if bt s (a + 1) ≥ 128 then
       (if bt s (a + 1) = 129 then (if a + 3 > (s.size : Int) then gShort else if bt s (a + 2) < 128 then gBad else finV s (bt s a) (bt s (a + 2)) (a + 3))
        else if bt s (a + 1) = 130 then (if a + 4 > (s.size : Int) then gShort else if 256 * bt s (a + 2) + bt s (a + 3) < 256 then gBad else finV s (bt s a) (256 * bt s (a + 2) + bt s (a + 3)) (a + 4))
        else gBad)
     else finV s (bt s a) (bt s (a + 1)) (a + 2))
  else gBad
theorem wb (s : ByteArray) (i : Int) : wrap64 (bt s i) = bt s i := by
  have h := bt_range s i
  exact w_id (by omega) (by omega)
theorem get_fin (s : ByteArray) (t n p : Int) (hs : s.size ≤ 8000) (hn : 0 ≤ n) (hp : 0 ≤ p) (hp2 : p ≤ 9000) :
    Ev (fun k => spec_l09Get.j2 k s (s.size : Int) t n p 0 (⟨#[]⟩ : ByteArray) 0 4 0 (⟨#[]⟩ : ByteArray) 0 3) (finV s t n p) := by
  refine Ev_one fun k => ?_
  simp only [spec_l09Get.j2]
  unfold finV
  by_cases h1 : n > 4000
  · rw [if_pos h1, if_pos h1]
    rfl
  · have e : wrap64 (p + n) = p + n := w_id (by omega) (by omega)
    rw [if_neg h1, if_neg h1, e]
    by_cases h2 : p + n > (s.size : Int)
    · rw [if_pos h2, if_pos h2]
      rfl
    · rw [if_neg h2, if_neg h2, if_pos hp, if_pos (by omega), if_pos (by omega)]
theorem spec_get (s : ByteArray) (a : Int) (hs : s.size ≤ 8000) (ha : 0 ≤ a) : Ev (fun k => spec_l09Get.f k s a) (getV s a) := by
  unfold spec_l09Get.f getV
  by_cases h0 : a ≥ (s.size : Int)
  · rw [if_pos h0]
    exact Ev.congr (fun k => if_pos h0) (Ev.now _)
  rw [if_neg h0]
  have e1 : wrap64 (a + 1) = a + 1 := w_id (by omega) (by omega)
  have e2 : wrap64 (a + 2) = a + 2 := w_id (by omega) (by omega)
  refine Ev.congr (fun k => by rw [if_neg h0, if_pos ha, if_pos (by omega), wb, spec_tag, e1, e2, wb]) ?_
  refine Ev_bind (Ev.now _) ?_
  by_cases ht : tagOk (bt s a) = true
  · rw [if_pos ht]
    refine Ev.congr (fun k => if_pos ht) ?_
    by_cases h1 : a + 1 ≥ (s.size : Int)
    · rw [if_pos h1]
      exact Ev.congr (fun k => if_pos h1) (Ev.now _)
    rw [if_neg h1]
    refine Ev.congr (fun k => by rw [if_neg h1, if_pos (by omega), if_pos (by omega)]) ?_
    have hr := bt_range s (a + 1)
    by_cases hL : bt s (a + 1) ≥ 128
    · rw [if_pos hL]
      have e3 : wrap64 (bt s (a + 1) - 128) = bt s (a + 1) - 128 := w_id (by omega) (by omega)
      refine Ev.congr (fun k => by rw [if_pos hL, e3]) ?_
      have p0 : wrap64 (a + 2 + 0) = a + 2 := by rw [Int.add_zero]; exact e2
      have p1 : wrap64 (a + 2 + 1) = a + 3 := by rw [show a + 2 + 1 = a + 3 by omega]; exact w_id (by omega) (by omega)
      have p2 : wrap64 (a + 2 + 2) = a + 4 := by rw [show a + 2 + 2 = a + 4 by omega]; exact w_id (by omega) (by omega)
      have r2 := bt_range s (a + 2)
      have r3 := bt_range s (a + 3)
      have z0 : wrap64 (256 * 0) = 0 := w_id (by omega) (by omega)
      have z1 : wrap64 ((0 : Int) + 1) = 1 := w_id (by omega) (by omega)
      have z2 : wrap64 ((1 : Int) + 1) = 2 := w_id (by omega) (by omega)
      have m0 : wrap64 (0 + bt s (a + 2)) = bt s (a + 2) := by rw [Int.zero_add]; exact wb _ _
      have m1 : wrap64 (256 * bt s (a + 2)) = 256 * bt s (a + 2) := w_id (by omega) (by omega)
      have m2 : wrap64 (256 * bt s (a + 2) + bt s (a + 3)) = 256 * bt s (a + 2) + bt s (a + 3) := w_id (by omega) (by omega)
      by_cases h9 : bt s (a + 1) = 129
      · rw [if_pos h9]
        refine Ev.congr (fun k => if_pos (by omega)) ?_
        rw [show bt s (a + 1) - 128 = 1 by omega]
        by_cases h3 : a + 3 > (s.size : Int)
        · rw [if_pos h3]
          exact Ev_one fun k => by simp only [spec_l09Get.j0]; rw [if_neg Bool.false_ne_true, p1, if_pos h3]; rfl
        rw [if_neg h3]
        refine Ev.step (fun k => by simp only [spec_l09Get.j0]; rw [if_neg Bool.false_ne_true, p1, if_neg h3]) ?_
        refine Ev.step (fun k => by simp only [spec_l09Get.l0]; rw [if_pos (by omega), p0, if_pos (by omega), if_pos (by omega), wb, z0, z1, m0]) ?_
        by_cases h4 : bt s (a + 2) < 128
        · rw [if_pos h4]
          exact Ev_one fun k => by simp only [spec_l09Get.l0]; rw [if_neg (by omega), if_pos trivial, if_pos h4]; rfl
        rw [if_neg h4]
        refine Ev.step (fun k => by simp only [spec_l09Get.l0]; rw [if_neg (by omega), if_pos trivial, if_neg h4, if_neg (by omega), p1]) ?_
        exact get_fin s _ _ _ hs (by omega) (by omega) (by omega)
      · rw [if_neg h9]
        refine Ev.congr (fun k => if_neg (by omega)) ?_
        by_cases hA : bt s (a + 1) = 130
        · rw [if_pos hA]
          rw [show bt s (a + 1) - 128 = 2 by omega]
          have hf : ((2 : Int) != 2) = false := rfl
          rw [hf]
          by_cases h3 : a + 4 > (s.size : Int)
          · rw [if_pos h3]
            exact Ev_one fun k => by simp only [spec_l09Get.j0]; rw [if_neg Bool.false_ne_true, p2, if_pos h3]; rfl
          rw [if_neg h3]
          refine Ev.step (fun k => by simp only [spec_l09Get.j0]; rw [if_neg Bool.false_ne_true, p2, if_neg h3]) ?_
          refine Ev.step (fun k => by simp only [spec_l09Get.l0]; rw [if_pos (by omega), p0, if_pos (by omega), if_pos (by omega), wb, z0, z1, m0]) ?_
          refine Ev.step (fun k => by simp only [spec_l09Get.l0]; rw [if_pos (by omega), p1, if_pos (by omega), if_pos (by omega), wb, z2, m1, m2]) ?_
          by_cases h4 : 256 * bt s (a + 2) + bt s (a + 3) < 256
          · rw [if_pos h4]
            exact Ev_one fun k => by simp only [spec_l09Get.l0]; rw [if_neg (by omega), if_neg (by omega), if_pos trivial, if_pos h4]; rfl
          rw [if_neg h4]
          refine Ev.step (fun k => by simp only [spec_l09Get.l0]; rw [if_neg (by omega), if_neg (by omega), if_pos trivial, if_neg h4, p2]) ?_
          exact get_fin s _ _ _ hs (by omega) (by omega) (by omega)
        · rw [if_neg hA]
          have hf : (bt s (a + 1) - 128 != 2) = true := by rw [bne_iff_ne]; omega
          rw [hf]
          exact Ev_one fun k => by simp only [spec_l09Get.j0]; rw [if_pos trivial]; rfl
    · rw [if_neg hL]
      refine Ev.congr (fun k => if_neg hL) ?_
      exact get_fin s _ _ _ hs (by omega) (by omega) (by omega)
  · rw [if_neg ht]
    exact Ev.congr (fun k => if_neg ht) (Ev.now _)
end Go.Proofs.Ytfikhgiiccbbfaa.PG
