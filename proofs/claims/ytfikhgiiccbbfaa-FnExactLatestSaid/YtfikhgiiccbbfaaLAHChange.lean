/-
  The laws' helpers at Change: sizes, copies, equality, as plain functions. No condition but those stated.
-/
import Derived.Test.YtfikhgiiccbbfaaLAP1
import Derived.Test.YtfikhgiiccbbfaaLAP2
import Derived.Test.YtfikhgiiccbbfaaLAGen
import Derived.Test.YtfikhgiiccbbfaaLAFits
import Derived.Test.YtfikhgiiccbbfaaLAHEntry
namespace Go.Proofs.Ytfikhgiiccbbfaa.PH
set_option linter.unusedSimpArgs false
set_option linter.unusedVariables false
open Go.RowKit Go.Proofs.YtfikhgiiccbbfaaW.PrintWords Go.Proofs.YtfikhgiiccbbfaaW.PrintLast Go.Proofs.YtfikhgiiccbbfaaW.PrintMore Go.Proofs.Ytfikhgiiccbbfaa.Gn Go.Proofs.Ytfikhgiiccbbfaa

def conv_Change (x : S98) : S100 := ⟨x.f0, x.f1, x.f2, conv_Entry x.f3⟩
def small_Change (x : S98) : Prop := True ∧ True ∧ x.f2.size ≤ 1048576 ∧ small_Entry x.f3
theorem sz_Change (x : S98) (hf : Ft.fit98 x) : ∀ acc : Int, 0 ≤ acc → acc ≤ 1048576 → ∃ r, Ev (fun k => laws_szChange.f k x.f0 x.f1 x.f2 x.f3.f0 x.f3.f1 acc) r ∧ r ≤ acc ∧ (0 ≤ r → small_Change x) := by
  intro acc a0 a1
  obtain ⟨h0, h1, h2, h3⟩ := hf
  unfold laws_szChange.f
  have h2' : x.f2.size ≤ 140737488351232 := h2
  have e2 : wrap64 (acc - (x.f2.size : Int)) = acc - (x.f2.size : Int) := w_id (by omega) (by omega)
  generalize wrap64 (acc - (x.f2.size : Int)) = b2 at e2 ⊢
  refine sz_str (b := b2) (by omega) (by omega) (fun h => by simp only [if_pos h]; exact Ev.now _) (fun p2 => ?_)
  simp only [if_neg (show ¬ b2 < 0 by omega)]
  obtain ⟨b3, hr3, hle3, hs3⟩ := sz_Entry x.f3 h3 b2 (by omega) (by omega)
  refine sz_bind (by omega) hr3 hle3 (fun h => by simp only [if_pos h]; exact Ev.now _) (fun p3 => ?_)
  simp only [if_neg (show ¬ b3 < 0 by omega)]
  exact ⟨_, Ev.now _, Int.le_refl _, fun _ => ⟨trivial, trivial, by omega, hs3 p3⟩⟩
theorem to_Change (x : S98) (hf : Ft.fit98 x) : Ev (fun k => laws_toChange.f k x.f0 x.f1 x.f2 x.f3.f0 x.f3.f1) ((conv_Change x).f0, (conv_Change x).f1, (conv_Change x).f2, (conv_Change x).f3.f0, (conv_Change x).f3.f1) := by
  obtain ⟨h0, h1, h2, h3⟩ := hf
  unfold laws_toChange.f
  refine Ev_bind (to_Entry x.f3 h3) ?_
  exact Ev.now _
def lens_Change (y : S100) : Prop := True ∧ True ∧ True ∧ lens_Entry y.f3
theorem eq_Change (y : S100) (hf : lens_Change y) : Ev (fun k => laws_eqChange.f k y.f0 y.f1 y.f2 y.f3.f0 y.f3.f1 y.f0 y.f1 y.f2 y.f3.f0 y.f3.f1) true := by
  obtain ⟨h0, h1, h2, h3⟩ := hf
  unfold laws_eqChange.f
  (try simp only [if_true, eq_self_iff_true, bne_self_eq_false, Bool.false_eq_true, if_false, reduceIte, reduceCtorEq])
  refine Ev_bind (eq_Entry y.f3 h3) ?_
  (try simp only [if_true, eq_self_iff_true, bne_self_eq_false, Bool.false_eq_true, if_false, reduceIte, reduceCtorEq])
  exact Ev.now _
theorem lens_conv_Change (x : S98) (h : small_Change x) : lens_Change (conv_Change x) := by
  obtain ⟨h0, h1, h2, h3⟩ := h
  exact ⟨trivial, trivial, trivial, lens_conv_Entry _ h3⟩
def small_ChangeS (l : List S98) : Prop := l.length ≤ 1048576 ∧ ∀ x, x ∈ l → small_Change x
theorem sz_ChangeS (l : List S98) (hf : Ft.fit55 l) : ∀ acc : Int, 0 ≤ acc → acc ≤ 1048576 → ∃ r, Ev (fun k => laws_szChangeS.f k l acc) r ∧ r ≤ acc ∧ (0 ≤ r → small_ChangeS l) := by
  have hl : l.length * 80 ≤ 140737488351232 := hf.1
  exact sz_slice (fun _ _ _ => rfl) l (by omega) (sz_loop (rdx := rd_T98) (z := z98) (fun _ _ => rfl) (e := fun k x acc => laws_szChange.f k x.f0 x.f1 x.f2 x.f3.f0 x.f3.f1 acc) (l := laws_szChangeS.l0) (small := small_Change) (fun _ _ _ _ => rfl) l (by omega) (fun x hx => sz_Change x (hf.2 x hx)))
theorem to_ChangeS (l : List S98) (hf : Ft.fit55 l) : Ev (fun k => laws_toChangeS.f k l) (l.map conv_Change) := by
  have hl : l.length * 80 ≤ 140737488351232 := hf.1
  unfold laws_toChangeS.f
  simp only [if_pos (show 0 ≤ (l.length : Int) by omega), if_pos (show (l.length : Int).toNat ≤ 3518437208883 by omega)]
  exact to_loop (rdx := rd_T98) (z := z98) (fun _ _ => rfl) (c := fun k x => laws_toChange.f k x.f0 x.f1 x.f2 x.f3.f0 x.f3.f1) (mk := fun b => (⟨b.1, b.2.1, b.2.2.1, (⟨b.2.2.2.1, b.2.2.2.2⟩ : S89)⟩ : S100)) (l := laws_toChangeS.l0) (fun _ _ _ _ => rfl) l (by omega) conv_Change (fun x hx => ⟨_, to_Change x (hf.2 x hx), rfl⟩) _ (by simp)
def lens_ChangeS (l : List S100) : Prop := l.length ≤ 9223372036854775807 ∧ ∀ y, y ∈ l → lens_Change y
theorem eq_ChangeS (l : List S100) (hf : lens_ChangeS l) : Ev (fun k => laws_eqChangeS.f k l l) true := by
  unfold laws_eqChangeS.f
  simp only [if_true, eq_self_iff_true]
  exact eq_loop (rdx := rd_T100) (z := z100) (fun _ _ => rfl) (e := fun k a b => laws_eqChange.f k a.f0 a.f1 a.f2 a.f3.f0 a.f3.f1 b.f0 b.f1 b.f2 b.f3.f0 b.f3.f1) (l := laws_eqChangeS.l0) (fun _ _ _ _ => rfl) l hf.1 (fun x hx => eq_Change x (hf.2 x hx))
theorem lens_conv_ChangeS (l : List S98) (h : small_ChangeS l) : lens_ChangeS (l.map conv_Change) := by
  refine ⟨by rw [List.length_map]; have := h.1; omega, fun y hy => ?_⟩
  obtain ⟨x, hx, rfl⟩ := List.mem_map.1 hy
  exact lens_conv_Change x (h.2 x hx)
end Go.Proofs.Ytfikhgiiccbbfaa.PH
