/-
  BER: two things put are read as two; a thing that is cut is short. Plain Lean over the printed functions.
-/
import Derived.Test.YtfikhgiiccbbfaaFBP1
import Derived.Test.YtfikhgiiccbbfaaFBBerS
namespace Go.Proofs.Ytfikhgiiccbbfaa.PG
set_option linter.unusedVariables false
set_option linter.unusedSimpArgs false
set_option maxRecDepth 20000
open Go.RowKit Go.Proofs.YtfikhgiiccbbfaaW.PrintWords Go.Proofs.YtfikhgiiccbbfaaW.PrintLast Go.Proofs.YtfikhgiiccbbfaaW.PrintMore Go.Proofs.Ytfikhgiiccbbfaa.Gn

theorem shiftR_ok (d a p : Int) (b : ByteArray) : shiftR d (a, b, p, 0) = (a, b, d + p, 0) := by
  unfold shiftR
  simp
theorem app_nil (x : ByteArray) : x ++ ByteArray.empty = x := by simp
theorem put_get0 (a : Int) (b : ByteArray) (ha : tagOk a = true) (hb : b.size ≤ 4000) : getV (putT a b) 0 = (a, b, ((putT a b).size : Int), 0) := by
  have h := put_get a b ByteArray.empty ha hb
  rwa [app_nil] at h
theorem berAll_twice (a : Int) (b : ByteArray) (ha : tagOk a = true) (hb : b.size ≤ 4000) (ht : (putT a b).size ≤ 4000) : Ev (fun k => impl_BerAll.f k (putT a b ++ putT a b)) ([⟨a, b⟩, ⟨a, b⟩], 0) := by
  have hs : (putT a b ++ putT a b).size = (putT a b).size + (putT a b).size := ByteArray.size_append
  have h2 : 2 ≤ (putT a b).size := by rw [put_size]; have := hdr_len2 a b.size; omega
  have g1 := put_get a b (putT a b) ha hb
  have g2 := get_shift (putT a b) (putT a b) 0 (by omega)
  rw [put_get0 a b ha hb, Int.add_zero, shiftR_ok] at g2
  have i1 := impl_get (putT a b ++ putT a b) 0 (by omega) (by omega)
  have i2 := impl_get (putT a b ++ putT a b) (putT a b).size (by omega) (by omega)
  rw [g1] at i1
  rw [g2] at i2
  generalize putT a b = T at *
  unfold impl_BerAll.f
  refine Ev_bind (long_one _) (Ev.congr (fun k => if_neg (by simp; omega)) (Ev_bind (a := ([⟨a, b⟩, ⟨a, b⟩], 0)) ?_ (Ev.now _)))
  unfold impl_berAll.f
  refine Ev.step (fun k => by simp only [impl_berAll.l0]; rw [if_pos (by omega)]) (Ev_bind i1 ?_)
  refine Ev.congr (fun k => by rw [if_pos rfl, if_neg (show ¬ ((([] : List S27).length : Int) = 60) by decide), if_pos (show ([] : List S27).length < 5864062014805 by decide)]) ?_
  refine Ev.step (fun k => by simp only [impl_berAll.l0]; rw [if_pos (by omega)]) (Ev_bind i2 ?_)
  refine Ev.congr (fun k => by rw [if_pos rfl, if_neg (show ¬ ((([] ++ [⟨a, b⟩] : List S27).length : Int) = 60) by simp), if_pos (show ([] ++ [⟨a, b⟩] : List S27).length < 5864062014805 by simp)]) ?_
  refine Ev_one fun k => ?_
  simp only [impl_berAll.l0]
  rw [if_neg (by omega)]
  rfl
end Go.Proofs.Ytfikhgiiccbbfaa.PG
