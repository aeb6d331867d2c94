/-
  Marks of []string: what laws.markStringS writes is what laws.heldStringS finds. Plain Lean over the printed functions.
-/
import Derived.Test.YtfikhgiiccbbfaaLAP2
import Derived.Test.YtfikhgiiccbbfaaLAMark
namespace Go.Proofs.Ytfikhgiiccbbfaa.PH
set_option linter.unusedVariables false
set_option linter.unusedSimpArgs false
open Go.RowKit Go.Proofs.YtfikhgiiccbbfaaW.PrintWords Go.Proofs.YtfikhgiiccbbfaaW.PrintLast Go.Proofs.YtfikhgiiccbbfaaW.PrintMore Go.Proofs.Ytfikhgiiccbbfaa.Gn

theorem mark_String_step (xs : List ByteArray) (x : Int) (i : Nat) (r : Int × List ByteArray) (hi : i < xs.length) (hl : xs.length ≤ 4000000000000000000) (h0 : 0 ≤ x) (hB : x + 1 ≤ 4000000000000000000) (h : Ev (fun k => laws_markStringS.l0 k (xs.set i (markT x)) (x + 1) ((i + 1 : Nat) : Int)) r) : Ev (fun k => laws_markStringS.l0 k xs x (i : Int)) r := by
  have hi1 : (i : Int) < (xs.length : Int) := by omega
  have hi2 : 0 ≤ (i : Int) := by omega
  have b0 : x ≤ 4000000000000000000 := by omega
  have e1 : wrap64 (x + 1) = x + 1 := mark_wrap h0 hB rfl (by decide)
  have e0 : wrap64 ((i : Int) + 1) = ((i + 1 : Nat) : Int) := mark_succ hi hl
  have hstep : ∀ k, laws_markStringS.l0 (k + 1) xs x (i : Int) = ((laws_markText.f k x).bind fun t0 => laws_markStringS.l0 k (xs.set i t0) (x + 1) ((i + 1 : Nat) : Int)) := fun k => by
    simp only [laws_markStringS.l0, if_pos hi1, if_pos hi2, e1, e0, Option.bind_some, Int.toNat_natCast]
  refine Ev.step hstep ?_
  refine Ev_bind (markT_ev b0) ?_
  exact h
theorem mark_String (xs : List ByteArray) (x : Int) (hl : xs.length ≤ 4000000000000000000) (h0 : 0 ≤ x) (hB : x + (1 : Nat) * xs.length ≤ 4000000000000000000) : Ev (fun k => laws_markStringS.f k xs x) (x + (1 : Nat) * xs.length, mkL markT 1 x xs.length) := by
  have h := mark_loop 1 markT (fun k xs x i => laws_markStringS.l0 k xs x i) 4000000000000000000 (fun k xs x i hi => by simp only [laws_markStringS.l0]; rw [if_neg (by omega)]) (fun xs x i r hi hl h0 hB h => mark_String_step xs x i r hi hl h0 hB h) xs.length 0 xs x (by omega) hl h0 hB
  exact Ev.congr (fun k => by unfold laws_markStringS.f; rfl) h
theorem held_String_step (xs : List ByteArray) (x : Int) (i : Nat) (r : Int) (hi : i < xs.length) (hl : xs.length ≤ 4000000000000000000) (h0 : 0 ≤ x) (hB : x + 1 ≤ 4000000000000000000) (hx : xs[i]'hi = markT x) (h : Ev (fun k => laws_heldStringS.l0 k xs (x + 1) ((i + 1 : Nat) : Int)) r) : Ev (fun k => laws_heldStringS.l0 k xs x (i : Int)) r := by
  have hi1 : (i : Int) < (xs.length : Int) := by omega
  have hi2 : 0 ≤ (i : Int) := by omega
  have b0 : x ≤ 4000000000000000000 := by omega
  have e1 : wrap64 (x + 1) = x + 1 := mark_wrap h0 hB rfl (by decide)
  have e0 : wrap64 ((i : Int) + 1) = ((i + 1 : Nat) : Int) := mark_succ hi hl
  have hrd : rdOf ByteArray.empty xs (i : Int) = markT x := by
    unfold rdOf
    rw [Int.toNat_natCast, getD_at hi, hx]
  have hstep : ∀ k, laws_heldStringS.l0 (k + 1) xs x (i : Int) = ((laws_markText.f k x).bind fun t0 => if (markT x).toList = t0.toList then laws_heldStringS.l0 k xs (x + 1) ((i + 1 : Nat) : Int) else some (-1)) := fun k => by
    simp only [laws_heldStringS.l0, if_pos hi1, if_pos hi2, e1, e0, hrd, bne_self_eq_false, Bool.false_eq_true, if_false, if_true, eq_self_iff_true]
  refine Ev.step hstep ?_
  refine Ev_bind (markT_ev b0) ?_
  refine Ev.congr (fun k => by rw [if_pos rfl]) ?_
  exact h
theorem held_String (m : Nat) (x : Int) (hl : m ≤ 4000000000000000000) (h0 : 0 ≤ x) (hB : x + (1 : Nat) * m ≤ 4000000000000000000) : Ev (fun k => laws_heldStringS.f k (mkL markT 1 x m) x) (x + (1 : Nat) * m) := by
  have h := held_loop 1 markT (fun k xs x i => laws_heldStringS.l0 k xs x i) 4000000000000000000 (fun k xs x i hi => by simp only [laws_heldStringS.l0]; rw [if_neg (by omega)]) (fun xs x i r hi hl h0 hB hx h => held_String_step xs x i r hi hl h0 hB hx h) m 0 (mkL markT 1 x m) x (by rw [mkL_length]; omega) (by rw [mkL_length]; exact hl) h0 hB rfl
  exact Ev.congr (fun k => by unfold laws_heldStringS.f; rfl) h
end Go.Proofs.Ytfikhgiiccbbfaa.PH
