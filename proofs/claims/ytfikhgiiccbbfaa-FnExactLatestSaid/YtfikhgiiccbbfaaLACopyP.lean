/-
  Copies of an Entry, said plainly: the program's and the reference's are the entry itself. Conditions: the lengths' bounds.
-/
import Derived.Test.YtfikhgiiccbbfaaLAP4
import Derived.Test.YtfikhgiiccbbfaaLAP1
import Derived.Test.YtfikhgiiccbbfaaLAP2
import Derived.Test.YtfikhgiiccbbfaaLAGen
namespace Go.Proofs.Ytfikhgiiccbbfaa.PH
set_option linter.unusedVariables false
set_option linter.unusedSimpArgs false
open Go.RowKit Go.Proofs.YtfikhgiiccbbfaaW.PrintWords Go.Proofs.YtfikhgiiccbbfaaW.PrintLast Go.Proofs.YtfikhgiiccbbfaaW.PrintMore Go.Proofs.Ytfikhgiiccbbfaa.Gn

def okEnt (d : List S119) (l : List S112) : Prop := d.length ≤ 100000000 ∧ l.length ≤ 100000000 ∧ ∀ a, a ∈ l → a.f1.length ≤ 100000000
theorem rd_midA (dn : List S112) (a : S112) (r : List S112) : rd_T112 (dn ++ a :: r) (dn.length : Int) = a := by
  unfold rd_T112
  rw [Int.toNat_natCast]
  simp
theorem copied_l (d : List S119) : ∀ (rs dn : List S112), dn.length + rs.length ≤ 100000000 → (∀ a, a ∈ rs → a.f1.length ≤ 100000000) → Ev (fun k => impl_Entry_copied.l0 k (dn ++ rs) ((dn ++ rs).length : Int) (dn.length : Int) d dn) (d, dn ++ rs)
  | [], dn, hl, hv => Ev_one fun k => by
    rw [impl_Entry_copied.l0, if_neg (by simp), List.append_nil]
  | a :: r, dn, hl, hv => by
    have h1 : (dn.length : Int) < ((dn ++ a :: r).length : Int) := by simp; omega
    have ih := copied_l d r (dn ++ [a]) (by simp at hl ⊢; omega) (fun x hx => hv x (List.mem_cons_of_mem _ hx))
    have e1 : (dn ++ [a]) ++ r = dn ++ a :: r := by simp
    rw [e1] at ih
    have ha := hv a List.mem_cons_self
    simp only [List.length_cons] at hl
    refine Ev.step (fun k => by rw [impl_Entry_copied.l0, if_pos h1, if_pos (by omega), if_pos h1, rd_midA]) ?_
    refine Ev_bind (Ev_some fun k => (if_pos (show a.f1.length ≤ 1000000000 by omega))) ?_
    refine Ev.congr (fun k => if_pos (show dn.length < 3518437208883 by omega)) ?_
    rw [show wrap64 ((dn.length : Int) + 1) = ((dn ++ [a]).length : Int) from by rw [wsucc (by omega) (by omega)]; simp]
    exact ih
theorem copied_ev (d : List S119) (l : List S112) (h : okEnt d l) : Ev (fun k => impl_Entry_copied.f k d l) (d, l) := by
  have h1 := h.1
  unfold impl_Entry_copied.f
  refine Ev_bind (Ev_some fun k => if_pos (show d.length ≤ 1000000000 by omega)) ?_
  exact copied_l d l [] (by have := h.2.1; simpa using this) h.2.2
theorem scopy_l (d d' : List S119) : ∀ (rs dn : List S112), dn.length + rs.length ≤ 100000000 → (∀ a, a ∈ rs → a.f1.length ≤ 100000000) → Ev (fun k => spec_l03Copy.l0 k (dn.length : Int) d (dn ++ rs) d' dn) (d', dn ++ rs)
  | [], dn, hl, hv => Ev_one fun k => by
    rw [spec_l03Copy.l0, if_neg (by simp), List.append_nil]
  | a :: r, dn, hl, hv => by
    have h1 : (dn.length : Int) < ((dn ++ a :: r).length : Int) := by simp; omega
    have ih := scopy_l d d' r (dn ++ [a]) (by simp at hl ⊢; omega) (fun x hx => hv x (List.mem_cons_of_mem _ hx))
    have e1 : (dn ++ [a]) ++ r = dn ++ a :: r := by simp
    rw [e1] at ih
    have ha := hv a List.mem_cons_self
    simp only [List.length_cons] at hl
    refine Ev.step (fun k => by rw [spec_l03Copy.l0, if_pos h1, if_pos (by omega), rd_midA]) ?_
    refine Ev_bind (Ev.now _) ?_
    refine Ev.congr (fun k => by rw [if_pos (show ([] : List ByteArray).length + a.f1.length < 8796093022208 by simp; omega), if_pos (show dn.length < 3518437208883 by omega), List.nil_append]) ?_
    rw [show wrap64 ((dn.length : Int) + 1) = ((dn ++ [a]).length : Int) from by rw [wsucc (by omega) (by omega)]; simp]
    exact ih
theorem scopy_ev (d : List S119) (l : List S112) (h : okEnt d l) : Ev (fun k => spec_l03Copy.f k d l) (d, l) := by
  have h1 := h.1
  unfold spec_l03Copy.f
  refine Ev_bind (Ev.now _) ?_
  refine Ev.congr (fun k => by rw [if_pos (show ([] : List S119).length + d.length < 4398046511104 by simp; omega), List.nil_append]) ?_
  exact scopy_l d d l [] (by have := h.2.1; simpa using this) h.2.2
theorem between_v (a b c : Int) : impl_between.f a b c = some (decide (b ≤ a) && decide (a ≤ c)) := by
  unfold impl_between.f
  by_cases h : a ≥ b
  · rw [if_pos h, decide_eq_true (show b ≤ a from h), Bool.true_and]
  · rw [if_neg h, decide_eq_false (show ¬ b ≤ a from h), Bool.false_and]
theorem sis_v (a b c : Int) : spec_l02Is.f a b c = some (decide (b ≤ a) && decide (a ≤ c)) := by
  unfold spec_l02Is.f
  by_cases h : a ≥ b
  · rw [if_pos h, decide_eq_true (show b ≤ a from h), Bool.true_and]
  · rw [if_neg h, decide_eq_false (show ¬ b ≤ a from h), Bool.false_and]
end Go.Proofs.Ytfikhgiiccbbfaa.PH
