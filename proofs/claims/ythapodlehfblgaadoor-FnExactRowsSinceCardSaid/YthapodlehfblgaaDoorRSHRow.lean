/-
  The laws' helpers at Row: sizes, copies, equality, as plain functions. No condition but those stated.
-/
import Derived.Test.YthapodlehfblgaaDoorRSP1
import Derived.Test.YthapodlehfblgaaDoorRSP2
import Derived.Test.YthapodlehfblgaaDoorRSP3
import Derived.Test.YthapodlehfblgaaDoorRSGen
import Derived.Test.YthapodlehfblgaaDoorRSFits
namespace Go.Proofs.YthapodlehfblgaaDoor.PG
set_option linter.unusedSimpArgs false
set_option linter.unusedVariables false
open Go.RowKit Go.Proofs.YthapodlehfblgaaDoorW.PrintWords Go.Proofs.YthapodlehfblgaaDoorW.PrintLast Go.Proofs.YthapodlehfblgaaDoorW.PrintMore Go.Proofs.YthapodlehfblgaaDoor.Gn Go.Proofs.YthapodlehfblgaaDoor

def conv_Row (x : S119) : S55 := ⟨x.f0, x.f1, x.f2, x.f3, x.f4, x.f5, x.f6⟩
def small_Row (x : S119) : Prop := True ∧ x.f1.size ≤ 1048576 ∧ x.f2.size ≤ 1048576 ∧ x.f3.size ≤ 1048576 ∧ True ∧ True ∧ True
theorem sz_Row (x : S119) (hf : Ft.fit119 x) : ∀ acc : Int, 0 ≤ acc → acc ≤ 1048576 → ∃ r, Ev (fun k => laws_szRow.f x.f0 x.f1 x.f2 x.f3 x.f4 x.f5 x.f6 acc) r ∧ r ≤ acc ∧ (0 ≤ r → small_Row x) := by
  intro acc a0 a1
  obtain ⟨h0, h1, h2, h3, h4, h5, h6⟩ := hf
  unfold laws_szRow.f
  have h1' : x.f1.size ≤ 140737488351232 := h1
  have e1 : wrap64 (acc - (x.f1.size : Int)) = acc - (x.f1.size : Int) := w_id (by omega) (by omega)
  generalize wrap64 (acc - (x.f1.size : Int)) = b1 at e1 ⊢
  refine sz_str (b := b1) (by omega) (by omega) (fun h => by simp only [if_pos h]; exact Ev.now _) (fun p1 => ?_)
  simp only [if_neg (show ¬ b1 < 0 by omega)]
  have h2' : x.f2.size ≤ 140737488351232 := h2
  have e2 : wrap64 (b1 - (x.f2.size : Int)) = b1 - (x.f2.size : Int) := w_id (by omega) (by omega)
  generalize wrap64 (b1 - (x.f2.size : Int)) = b2 at e2 ⊢
  refine sz_str (b := b2) (by omega) (by omega) (fun h => by simp only [if_pos h]; exact Ev.now _) (fun p2 => ?_)
  simp only [if_neg (show ¬ b2 < 0 by omega)]
  have h3' : x.f3.size ≤ 140737488351232 := h3
  have e3 : wrap64 (b2 - (x.f3.size : Int)) = b2 - (x.f3.size : Int) := w_id (by omega) (by omega)
  generalize wrap64 (b2 - (x.f3.size : Int)) = b3 at e3 ⊢
  refine sz_str (b := b3) (by omega) (by omega) (fun h => by simp only [if_pos h]; exact Ev.now _) (fun p3 => ?_)
  simp only [if_neg (show ¬ b3 < 0 by omega)]
  exact ⟨_, Ev.now _, Int.le_refl _, fun _ => ⟨trivial, by omega, by omega, by omega, trivial, trivial, trivial⟩⟩
theorem to_Row (x : S119) (hf : Ft.fit119 x) : Ev (fun k => laws_toRow.f x.f0 x.f1 x.f2 x.f3 x.f4 x.f5 x.f6) ((conv_Row x).f0, (conv_Row x).f1, (conv_Row x).f2, (conv_Row x).f3, (conv_Row x).f4, (conv_Row x).f5, (conv_Row x).f6) := by
  obtain ⟨h0, h1, h2, h3, h4, h5, h6⟩ := hf
  unfold laws_toRow.f
  exact Ev.now _
def lens_Row (y : S55) : Prop := True ∧ True ∧ True ∧ True ∧ True ∧ True ∧ True
theorem eq_Row (y : S55) (hf : lens_Row y) : Ev (fun k => laws_eqRow.f y.f0 y.f1 y.f2 y.f3 y.f4 y.f5 y.f6 y.f0 y.f1 y.f2 y.f3 y.f4 y.f5 y.f6) true := by
  obtain ⟨h0, h1, h2, h3, h4, h5, h6⟩ := hf
  unfold laws_eqRow.f
  (try simp only [if_true, eq_self_iff_true, bne_self_eq_false, Bool.false_eq_true, if_false, reduceIte, reduceCtorEq])
  exact Ev.now _
theorem lens_conv_Row (x : S119) (h : small_Row x) : lens_Row (conv_Row x) := by
  obtain ⟨h0, h1, h2, h3, h4, h5, h6⟩ := h
  exact ⟨trivial, trivial, trivial, trivial, trivial, trivial, trivial⟩
def small_RowS (l : List S119) : Prop := l.length ≤ 1048576 ∧ ∀ x, x ∈ l → small_Row x
theorem sz_RowS (l : List S119) (hf : Ft.fit47 l) : ∀ acc : Int, 0 ≤ acc → acc ≤ 1048576 → ∃ r, Ev (fun k => laws_szRowS.f k l acc) r ∧ r ≤ acc ∧ (0 ≤ r → small_RowS l) := by
  have hl : l.length * 80 ≤ 140737488351232 := hf.1
  exact sz_slice (fun _ _ _ => rfl) l (by omega) (sz_loop (rdx := rd_T119) (z := z119) (fun _ _ => rfl) (e := fun k x acc => laws_szRow.f x.f0 x.f1 x.f2 x.f3 x.f4 x.f5 x.f6 acc) (l := laws_szRowS.l0) (small := small_Row) (fun _ _ _ _ => rfl) l (by omega) (fun x hx => sz_Row x (hf.2 x hx)))
theorem to_RowS (l : List S119) (hf : Ft.fit47 l) : Ev (fun k => laws_toRowS.f k l) (l.map conv_Row) := by
  have hl : l.length * 80 ≤ 140737488351232 := hf.1
  unfold laws_toRowS.f
  simp only [if_pos (show 0 ≤ (l.length : Int) by omega), if_pos (show (l.length : Int).toNat ≤ 3518437208883 by omega)]
  exact to_loop (rdx := rd_T119) (z := z119) (fun _ _ => rfl) (c := fun k x => laws_toRow.f x.f0 x.f1 x.f2 x.f3 x.f4 x.f5 x.f6) (mk := fun b => (⟨b.1, b.2.1, b.2.2.1, b.2.2.2.1, b.2.2.2.2.1, b.2.2.2.2.2.1, b.2.2.2.2.2.2⟩ : S55)) (l := laws_toRowS.l0) (fun _ _ _ _ => rfl) l (by omega) conv_Row (fun x hx => ⟨_, to_Row x (hf.2 x hx), rfl⟩) _ (by simp)
def lens_RowS (l : List S55) : Prop := l.length ≤ 9223372036854775807 ∧ ∀ y, y ∈ l → lens_Row y
theorem eq_RowS (l : List S55) (hf : lens_RowS l) : Ev (fun k => laws_eqRowS.f k l l) true := by
  unfold laws_eqRowS.f
  simp only [if_true, eq_self_iff_true]
  exact eq_loop (rdx := rd_T55) (z := z55) (fun _ _ => rfl) (e := fun k a b => laws_eqRow.f a.f0 a.f1 a.f2 a.f3 a.f4 a.f5 a.f6 b.f0 b.f1 b.f2 b.f3 b.f4 b.f5 b.f6) (l := laws_eqRowS.l0) (fun _ _ _ _ => rfl) l hf.1 (fun x hx => eq_Row x (hf.2 x hx))
theorem lens_conv_RowS (l : List S119) (h : small_RowS l) : lens_RowS (l.map conv_Row) := by
  refine ⟨by rw [List.length_map]; have := h.1; omega, fun y hy => ?_⟩
  obtain ⟨x, hx, rfl⟩ := List.mem_map.1 hy
  exact lens_conv_Row x (h.2 x hx)
end Go.Proofs.YthapodlehfblgaaDoor.PG
