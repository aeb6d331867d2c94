/-
  The laws' helpers at Rdn: sizes, copies, equality, as plain functions. No condition but those stated.
-/
import Derived.Test.YtfikhgiiccbbfaaLAP1
import Derived.Test.YtfikhgiiccbbfaaLAP2
import Derived.Test.YtfikhgiiccbbfaaLAGen
import Derived.Test.YtfikhgiiccbbfaaLAFits
namespace Go.Proofs.Ytfikhgiiccbbfaa.PH
set_option linter.unusedSimpArgs false
set_option linter.unusedVariables false
open Go.RowKit Go.Proofs.YtfikhgiiccbbfaaW.PrintWords Go.Proofs.YtfikhgiiccbbfaaW.PrintLast Go.Proofs.YtfikhgiiccbbfaaW.PrintMore Go.Proofs.Ytfikhgiiccbbfaa.Gn Go.Proofs.Ytfikhgiiccbbfaa

def conv_Rdn (x : S124) : S119 := ⟨x.f0, x.f1⟩
def small_Rdn (x : S124) : Prop := x.f0.size ≤ 1048576 ∧ x.f1.size ≤ 1048576
theorem sz_Rdn (x : S124) (hf : Ft.fit124 x) : ∀ acc : Int, 0 ≤ acc → acc ≤ 1048576 → ∃ r, Ev (fun k => laws_szRdn.f x.f0 x.f1 acc) r ∧ r ≤ acc ∧ (0 ≤ r → small_Rdn x) := by
  intro acc a0 a1
  obtain ⟨h0, h1⟩ := hf
  unfold laws_szRdn.f
  have h0' : x.f0.size ≤ 140737488351232 := h0
  have e0 : wrap64 (acc - (x.f0.size : Int)) = acc - (x.f0.size : Int) := w_id (by omega) (by omega)
  generalize wrap64 (acc - (x.f0.size : Int)) = b0 at e0 ⊢
  refine sz_str (b := b0) (by omega) (by omega) (fun h => by simp only [if_pos h]; exact Ev.now _) (fun p0 => ?_)
  simp only [if_neg (show ¬ b0 < 0 by omega)]
  have h1' : x.f1.size ≤ 140737488351232 := h1
  have e1 : wrap64 (b0 - (x.f1.size : Int)) = b0 - (x.f1.size : Int) := w_id (by omega) (by omega)
  generalize wrap64 (b0 - (x.f1.size : Int)) = b1 at e1 ⊢
  refine sz_str (b := b1) (by omega) (by omega) (fun h => by simp only [if_pos h]; exact Ev.now _) (fun p1 => ?_)
  simp only [if_neg (show ¬ b1 < 0 by omega)]
  exact ⟨_, Ev.now _, Int.le_refl _, fun _ => ⟨by omega, by omega⟩⟩
theorem to_Rdn (x : S124) (hf : Ft.fit124 x) : Ev (fun k => laws_toRdn.f x.f0 x.f1) ((conv_Rdn x).f0, (conv_Rdn x).f1) := by
  obtain ⟨h0, h1⟩ := hf
  unfold laws_toRdn.f
  exact Ev.now _
def lens_Rdn (y : S119) : Prop := True ∧ True
theorem eq_Rdn (y : S119) (hf : lens_Rdn y) : Ev (fun k => laws_eqRdn.f y.f0 y.f1 y.f0 y.f1) true := by
  obtain ⟨h0, h1⟩ := hf
  unfold laws_eqRdn.f
  (try simp only [if_true, eq_self_iff_true, bne_self_eq_false, Bool.false_eq_true, if_false, reduceIte, reduceCtorEq])
  exact Ev.now _
theorem lens_conv_Rdn (x : S124) (h : small_Rdn x) : lens_Rdn (conv_Rdn x) := by
  obtain ⟨h0, h1⟩ := h
  exact ⟨trivial, trivial⟩
def small_RdnS (l : List S124) : Prop := l.length ≤ 1048576 ∧ ∀ x, x ∈ l → small_Rdn x
theorem sz_RdnS (l : List S124) (hf : Ft.fit81 l) : ∀ acc : Int, 0 ≤ acc → acc ≤ 1048576 → ∃ r, Ev (fun k => laws_szRdnS.f k l acc) r ∧ r ≤ acc ∧ (0 ≤ r → small_RdnS l) := by
  have hl : l.length * 32 ≤ 140737488351232 := hf.1
  exact sz_slice (fun _ _ _ => rfl) l (by omega) (sz_loop (rdx := rd_T124) (z := z124) (fun _ _ => rfl) (e := fun k x acc => laws_szRdn.f x.f0 x.f1 acc) (l := laws_szRdnS.l0) (small := small_Rdn) (fun _ _ _ _ => rfl) l (by omega) (fun x hx => sz_Rdn x (hf.2 x hx)))
theorem to_RdnS (l : List S124) (hf : Ft.fit81 l) : Ev (fun k => laws_toRdnS.f k l) (l.map conv_Rdn) := by
  have hl : l.length * 32 ≤ 140737488351232 := hf.1
  unfold laws_toRdnS.f
  simp only [if_pos (show 0 ≤ (l.length : Int) by omega), if_pos (show (l.length : Int).toNat ≤ 8796093022208 by omega)]
  exact to_loop (rdx := rd_T124) (z := z124) (fun _ _ => rfl) (c := fun k x => laws_toRdn.f x.f0 x.f1) (mk := fun b => (⟨b.1, b.2⟩ : S119)) (l := laws_toRdnS.l0) (fun _ _ _ _ => rfl) l (by omega) conv_Rdn (fun x hx => ⟨_, to_Rdn x (hf.2 x hx), rfl⟩) _ (by simp)
def lens_RdnS (l : List S119) : Prop := l.length ≤ 9223372036854775807 ∧ ∀ y, y ∈ l → lens_Rdn y
theorem eq_RdnS (l : List S119) (hf : lens_RdnS l) : Ev (fun k => laws_eqRdnS.f k l l) true := by
  unfold laws_eqRdnS.f
  simp only [if_true, eq_self_iff_true]
  exact eq_loop (rdx := rd_T119) (z := z119) (fun _ _ => rfl) (e := fun k a b => laws_eqRdn.f a.f0 a.f1 b.f0 b.f1) (l := laws_eqRdnS.l0) (fun _ _ _ _ => rfl) l hf.1 (fun x hx => eq_Rdn x (hf.2 x hx))
theorem lens_conv_RdnS (l : List S124) (h : small_RdnS l) : lens_RdnS (l.map conv_Rdn) := by
  refine ⟨by rw [List.length_map]; have := h.1; omega, fun y hy => ?_⟩
  obtain ⟨x, hx, rfl⟩ := List.mem_map.1 hy
  exact lens_conv_Rdn x (h.2 x hx)
end Go.Proofs.Ytfikhgiiccbbfaa.PH
