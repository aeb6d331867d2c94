/-
  The program's isLong over any number of texts: is one of them too long. Condition: as many texts as a slice may have.
-/
import Derived.Test.YtfikhgiiccbbfaaFBP1
import Derived.Test.YtfikhgiiccbbfaaFBGen
namespace Go.Proofs.Ytfikhgiiccbbfaa.PG
open Go.RowKit Go.Proofs.YtfikhgiiccbbfaaW.PrintWords Go.Proofs.YtfikhgiiccbbfaaW.PrintLast Go.Proofs.YtfikhgiiccbbfaaW.PrintMore Go.Proofs.Ytfikhgiiccbbfaa.Gn
set_option linter.unusedVariables false
set_option linter.unusedSimpArgs false

def longQ (s : ByteArray) : Bool := decide ((s.size : Int) > 8000)
theorem long_ev (l : List ByteArray) (hl : l.length ≤ 9223372036854775807) : Ev (fun k => impl_isLong.f k l) (l.any longQ) := by
  unfold impl_isLong.f
  have key : ∀ (d i : Nat), i + d = l.length → Ev (fun k => impl_isLong.l0 k l (l.length : Int) (i : Int)) ((l.drop i).any longQ) := by
    intro d
    induction d with
    | zero =>
      intro i hi
      rw [List.drop_eq_nil_of_le (by omega)]
      exact Ev_one fun k => by simp only [impl_isLong.l0]; rw [if_neg (by omega)]; rfl
    | succ d ih =>
      intro i hi
      have hlt : i < l.length := by omega
      have e0 : wrap64 ((i : Int) + 1) = ((i + 1 : Nat) : Int) := by rw [wsucc (by omega) (by omega)]; omega
      have er : rdOf ByteArray.empty l (i : Int) = l[i]'hlt := by
        unfold rdOf
        rw [Int.toNat_natCast, getD_at hlt]
      rw [List.drop_eq_getElem_cons hlt, List.any_cons]
      refine Ev.step (fun k => by simp only [impl_isLong.l0]; rw [if_pos (by omega), if_pos (by omega), if_pos (by omega), e0, er]) ?_
      unfold longQ
      by_cases h : ((l[i]'hlt).size : Int) > 8000
      · rw [decide_eq_true h, Bool.true_or]
        exact Ev_some fun k => by rw [if_pos h]
      · rw [decide_eq_false h, Bool.false_or]
        exact Ev.congr (fun k => by rw [if_neg h]) (ih (i + 1) (by omega))
  have := key l.length 0 (by omega)
  rwa [List.drop_zero] at this
theorem long_calls (A : Option Addr) (c : Nat) (l : List ByteArray) (W : World) (hr : Kd.C Kd.string W A l.length l) (hc : l.length ≤ c) :
    Calls Try.prog 44 #[.slice A l.length c] W fun e w' => e = .returned (.bool (l.any longQ)) ∧ ∃ n, w' = w'.drewN 0 ∧ w' = W.drewN n := by
  obtain ⟨k, hk⟩ := (long_ev l (Kd.C_max hr)).rounds
  exact (impl_isLong.calls k A c l _ W hr hc hk).mono fun e w' ⟨h1, ⟨n, h2⟩⟩ => ⟨h1, n, rfl, h2⟩
theorem lit1 (w : World) (a : ByteArray) : Kd.C Kd.string (w.alloc (.cells #[.string a] 9)) (some ⟨w.heap.size, 0, none⟩) 1 [a] := Kd.C_of_reads (d := ByteArray.empty) ⟨rfl, by decide, fun _ => ⟨_, rfl, fun j hj => by
  obtain rfl : j = 0 := by omega
  exact cell_blk (heap_alloc_new w _) rfl⟩⟩
theorem lit2 (w : World) (a b : ByteArray) : Kd.C Kd.string (w.alloc (.cells #[.string a, .string b] 9)) (some ⟨w.heap.size, 0, none⟩) 2 [a, b] := Kd.C_of_reads (d := ByteArray.empty) ⟨rfl, by decide, fun _ => ⟨_, rfl, fun j hj => by
  match j, hj with
  | 0, _ => exact cell_blk (heap_alloc_new w _) rfl
  | 1, _ => exact cell_blk (heap_alloc_new w _) rfl⟩⟩
theorem long1_calls (s : ByteArray) (W : World) : Calls Try.prog 44 #[.slice (some ⟨W.heap.size, 0, none⟩) 1 1] (W.alloc (.cells #[.string s] 9)) fun e w' => e = .returned (.bool (longQ s)) ∧ Below W.heap.size W w' :=
  (long_calls _ 1 [s] _ (lit1 W s) (Nat.le_refl _)).mono fun e w' ⟨h, n, _, h2⟩ => ⟨by rw [h]; simp, by rw [h2]; exact pw_below_drewN (below_alloc (Below.refl _ _) _) n⟩
theorem long2_calls (s t : ByteArray) (W : World) : Calls Try.prog 44 #[.slice (some ⟨W.heap.size, 0, none⟩) 2 2] (W.alloc (.cells #[.string s, .string t] 9)) fun e w' => e = .returned (.bool (longQ s || longQ t)) ∧ Below W.heap.size W w' :=
  (long_calls _ 2 [s, t] _ (lit2 W s t) (Nat.le_refl _)).mono fun e w' ⟨h, n, _, h2⟩ => ⟨by rw [h]; simp, by rw [h2]; exact pw_below_drewN (below_alloc (Below.refl _ _) _) n⟩
end Go.Proofs.Ytfikhgiiccbbfaa.PG
