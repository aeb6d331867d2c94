/-
  The laws' helpers at Want: sizes, copies, equality, as plain functions. No condition but those stated.
-/
import Derived.Test.YtbgikfahcppkfaaSOP1
import Derived.Test.YtbgikfahcppkfaaSOGen
import Derived.Test.YtbgikfahcppkfaaSOFits
namespace Go.Proofs.Ytbgikfahcppkfaa.PG
set_option linter.unusedSimpArgs false
set_option linter.unusedVariables false
open Go.RowKit Go.Proofs.YtbgikfahcppkfaaW.PrintWords Go.Proofs.YtbgikfahcppkfaaW.PrintLast Go.Proofs.YtbgikfahcppkfaaW.PrintMore Go.Proofs.Ytbgikfahcppkfaa.Gn Go.Proofs.Ytbgikfahcppkfaa

def conv_Want (x : S76) : S77 := ⟨x.f0, x.f1, x.f2, x.f3, x.f4⟩
def small_Want (x : S76) : Prop := x.f0.size ≤ 1048576 ∧ x.f1.size ≤ 1048576 ∧ x.f2.size ≤ 1048576 ∧ x.f3.size ≤ 1048576 ∧ True
theorem sz_Want (x : S76) (hf : Ft.fit76 x) : ∀ acc : Int, 0 ≤ acc → acc ≤ 1048576 → ∃ r, Ev (fun k => laws_szWant.f x.f0 x.f1 x.f2 x.f3 x.f4 acc) r ∧ r ≤ acc ∧ (0 ≤ r → small_Want x) := by
  intro acc a0 a1
  obtain ⟨h0, h1, h2, h3, h4⟩ := hf
  unfold laws_szWant.f
  have h0' : x.f0.size ≤ 140737488351232 := h0
  have e0 : wrap64 (acc - (x.f0.size : Int)) = acc - (x.f0.size : Int) := w_id (by omega) (by omega)
  generalize wrap64 (acc - (x.f0.size : Int)) = b0 at e0 ⊢
  refine sz_str (b := b0) (by omega) (by omega) (fun h => by simp only [if_pos h]; exact Ev.now _) (fun p0 => ?_)
  simp only [if_neg (show ¬ b0 < 0 by omega)]
  have h1' : x.f1.size ≤ 140737488351232 := h1
  have e1 : wrap64 (b0 - (x.f1.size : Int)) = b0 - (x.f1.size : Int) := w_id (by omega) (by omega)
  generalize wrap64 (b0 - (x.f1.size : Int)) = b1 at e1 ⊢
  refine sz_str (b := b1) (by omega) (by omega) (fun h => by simp only [if_pos h]; exact Ev.now _) (fun p1 => ?_)
  simp only [if_neg (show ¬ b1 < 0 by omega)]
  have h2' : x.f2.size ≤ 140737488351232 := h2
  have e2 : wrap64 (b1 - (x.f2.size : Int)) = b1 - (x.f2.size : Int) := w_id (by omega) (by omega)
  generalize wrap64 (b1 - (x.f2.size : Int)) = b2 at e2 ⊢
  refine sz_str (b := b2) (by omega) (by omega) (fun h => by simp only [if_pos h]; exact Ev.now _) (fun p2 => ?_)
  simp only [if_neg (show ¬ b2 < 0 by omega)]
  have h3' : x.f3.size ≤ 140737488351232 := h3
  have e3 : wrap64 (b2 - (x.f3.size : Int)) = b2 - (x.f3.size : Int) := w_id (by omega) (by omega)
  generalize wrap64 (b2 - (x.f3.size : Int)) = b3 at e3 ⊢
  refine sz_str (b := b3) (by omega) (by omega) (fun h => by simp only [if_pos h]; exact Ev.now _) (fun p3 => ?_)
  simp only [if_neg (show ¬ b3 < 0 by omega)]
  exact ⟨_, Ev.now _, Int.le_refl _, fun _ => ⟨by omega, by omega, by omega, by omega, trivial⟩⟩
theorem to_Want (x : S76) (hf : Ft.fit76 x) : Ev (fun k => laws_toWant.f x.f0 x.f1 x.f2 x.f3 x.f4) ((conv_Want x).f0, (conv_Want x).f1, (conv_Want x).f2, (conv_Want x).f3, (conv_Want x).f4) := by
  obtain ⟨h0, h1, h2, h3, h4⟩ := hf
  unfold laws_toWant.f
  exact Ev.now _
def lens_Want (y : S77) : Prop := True ∧ True ∧ True ∧ True ∧ True
theorem eq_Want (y : S77) (hf : lens_Want y) : Ev (fun k => laws_eqWant.f y.f0 y.f1 y.f2 y.f3 y.f4 y.f0 y.f1 y.f2 y.f3 y.f4) true := by
  obtain ⟨h0, h1, h2, h3, h4⟩ := hf
  unfold laws_eqWant.f
  (try simp only [if_true, eq_self_iff_true, bne_self_eq_false, Bool.false_eq_true, if_false, reduceIte, reduceCtorEq])
  exact Ev.now _
theorem lens_conv_Want (x : S76) (h : small_Want x) : lens_Want (conv_Want x) := by
  obtain ⟨h0, h1, h2, h3, h4⟩ := h
  exact ⟨trivial, trivial, trivial, trivial, trivial⟩
def small_WantS (l : List S76) : Prop := l.length ≤ 1048576 ∧ ∀ x, x ∈ l → small_Want x
theorem sz_WantS (l : List S76) (hf : Ft.fit38 l) : ∀ acc : Int, 0 ≤ acc → acc ≤ 1048576 → ∃ r, Ev (fun k => laws_szWantS.f k l acc) r ∧ r ≤ acc ∧ (0 ≤ r → small_WantS l) := by
  have hl : l.length * 72 ≤ 140737488351232 := hf.1
  exact sz_slice (fun _ _ _ => rfl) l (by omega) (sz_loop (rdx := rd_T76) (z := z76) (fun _ _ => rfl) (e := fun k x acc => laws_szWant.f x.f0 x.f1 x.f2 x.f3 x.f4 acc) (l := laws_szWantS.l0) (small := small_Want) (fun _ _ _ _ => rfl) l (by omega) (fun x hx => sz_Want x (hf.2 x hx)))
theorem to_WantS (l : List S76) (hf : Ft.fit38 l) : Ev (fun k => laws_toWantS.f k l) (l.map conv_Want) := by
  have hl : l.length * 72 ≤ 140737488351232 := hf.1
  unfold laws_toWantS.f
  simp only [if_pos (show 0 ≤ (l.length : Int) by omega), if_pos (show (l.length : Int).toNat ≤ 3909374676536 by omega)]
  exact to_loop (rdx := rd_T76) (z := z76) (fun _ _ => rfl) (c := fun k x => laws_toWant.f x.f0 x.f1 x.f2 x.f3 x.f4) (mk := fun b => (⟨b.1, b.2.1, b.2.2.1, b.2.2.2.1, b.2.2.2.2⟩ : S77)) (l := laws_toWantS.l0) (fun _ _ _ _ => rfl) l (by omega) conv_Want (fun x hx => ⟨_, to_Want x (hf.2 x hx), rfl⟩) _ (by simp)
def lens_WantS (l : List S77) : Prop := l.length ≤ 9223372036854775807 ∧ ∀ y, y ∈ l → lens_Want y
theorem eq_WantS (l : List S77) (hf : lens_WantS l) : Ev (fun k => laws_eqWantS.f k l l) true := by
  unfold laws_eqWantS.f
  simp only [if_true, eq_self_iff_true]
  exact eq_loop (rdx := rd_T77) (z := z77) (fun _ _ => rfl) (e := fun k a b => laws_eqWant.f a.f0 a.f1 a.f2 a.f3 a.f4 b.f0 b.f1 b.f2 b.f3 b.f4) (l := laws_eqWantS.l0) (fun _ _ _ _ => rfl) l hf.1 (fun x hx => eq_Want x (hf.2 x hx))
theorem lens_conv_WantS (l : List S76) (h : small_WantS l) : lens_WantS (l.map conv_Want) := by
  refine ⟨by rw [List.length_map]; have := h.1; omega, fun y hy => ?_⟩
  obtain ⟨x, hx, rfl⟩ := List.mem_map.1 hy
  exact lens_conv_Want x (h.2 x hx)
end Go.Proofs.Ytbgikfahcppkfaa.PG
