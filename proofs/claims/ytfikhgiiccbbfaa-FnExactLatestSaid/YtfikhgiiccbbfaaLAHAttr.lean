/-
  The laws' helpers at Attr: sizes, copies, equality, as plain functions. No condition but those stated.
-/
import Derived.Test.YtfikhgiiccbbfaaLAP1
import Derived.Test.YtfikhgiiccbbfaaLAP2
import Derived.Test.YtfikhgiiccbbfaaLAGen
import Derived.Test.YtfikhgiiccbbfaaLAFits
import Derived.Test.YtfikhgiiccbbfaaLAHStringS
namespace Go.Proofs.Ytfikhgiiccbbfaa.PH
set_option linter.unusedSimpArgs false
set_option linter.unusedVariables false
open Go.RowKit Go.Proofs.YtfikhgiiccbbfaaW.PrintWords Go.Proofs.YtfikhgiiccbbfaaW.PrintLast Go.Proofs.YtfikhgiiccbbfaaW.PrintMore Go.Proofs.Ytfikhgiiccbbfaa.Gn Go.Proofs.Ytfikhgiiccbbfaa

def conv_Attr (x : S126) : S112 := ⟨x.f0, x.f1⟩
def small_Attr (x : S126) : Prop := x.f0.size ≤ 1048576 ∧ small_StringS x.f1
theorem sz_Attr (x : S126) (hf : Ft.fit126 x) : ∀ acc : Int, 0 ≤ acc → acc ≤ 1048576 → ∃ r, Ev (fun k => laws_szAttr.f k x.f0 x.f1 acc) r ∧ r ≤ acc ∧ (0 ≤ r → small_Attr x) := by
  intro acc a0 a1
  obtain ⟨h0, h1⟩ := hf
  unfold laws_szAttr.f
  have h0' : x.f0.size ≤ 140737488351232 := h0
  have e0 : wrap64 (acc - (x.f0.size : Int)) = acc - (x.f0.size : Int) := w_id (by omega) (by omega)
  generalize wrap64 (acc - (x.f0.size : Int)) = b0 at e0 ⊢
  refine sz_str (b := b0) (by omega) (by omega) (fun h => by simp only [if_pos h]; exact Ev.now _) (fun p0 => ?_)
  simp only [if_neg (show ¬ b0 < 0 by omega)]
  obtain ⟨b1, hr1, hle1, hs1⟩ := sz_StringS x.f1 h1 b0 (by omega) (by omega)
  refine sz_bind (by omega) hr1 hle1 (fun h => by simp only [if_pos h]; exact Ev.now _) (fun p1 => ?_)
  simp only [if_neg (show ¬ b1 < 0 by omega)]
  exact ⟨_, Ev.now _, Int.le_refl _, fun _ => ⟨by omega, hs1 p1⟩⟩
theorem to_Attr (x : S126) (hf : Ft.fit126 x) : Ev (fun k => laws_toAttr.f k x.f0 x.f1) ((conv_Attr x).f0, (conv_Attr x).f1) := by
  obtain ⟨h0, h1⟩ := hf
  unfold laws_toAttr.f
  refine Ev_bind (to_StringS x.f1 h1) ?_
  exact Ev.now _
def lens_Attr (y : S112) : Prop := True ∧ lens_StringS y.f1
theorem eq_Attr (y : S112) (hf : lens_Attr y) : Ev (fun k => laws_eqAttr.f k y.f0 y.f1 y.f0 y.f1) true := by
  obtain ⟨h0, h1⟩ := hf
  unfold laws_eqAttr.f
  (try simp only [if_true, eq_self_iff_true, bne_self_eq_false, Bool.false_eq_true, if_false, reduceIte, reduceCtorEq])
  refine Ev_bind (eq_StringS y.f1 h1) ?_
  (try simp only [if_true, eq_self_iff_true, bne_self_eq_false, Bool.false_eq_true, if_false, reduceIte, reduceCtorEq])
  exact Ev.now _
theorem lens_conv_Attr (x : S126) (h : small_Attr x) : lens_Attr (conv_Attr x) := by
  obtain ⟨h0, h1⟩ := h
  exact ⟨trivial, lens_StringS_small _ h1⟩
def small_AttrS (l : List S126) : Prop := l.length ≤ 1048576 ∧ ∀ x, x ∈ l → small_Attr x
theorem sz_AttrS (l : List S126) (hf : Ft.fit82 l) : ∀ acc : Int, 0 ≤ acc → acc ≤ 1048576 → ∃ r, Ev (fun k => laws_szAttrS.f k l acc) r ∧ r ≤ acc ∧ (0 ≤ r → small_AttrS l) := by
  have hl : l.length * 40 ≤ 140737488351232 := hf.1
  exact sz_slice (fun _ _ _ => rfl) l (by omega) (sz_loop (rdx := rd_T126) (z := z126) (fun _ _ => rfl) (e := fun k x acc => laws_szAttr.f k x.f0 x.f1 acc) (l := laws_szAttrS.l0) (small := small_Attr) (fun _ _ _ _ => rfl) l (by omega) (fun x hx => sz_Attr x (hf.2 x hx)))
theorem to_AttrS (l : List S126) (hf : Ft.fit82 l) : Ev (fun k => laws_toAttrS.f k l) (l.map conv_Attr) := by
  have hl : l.length * 40 ≤ 140737488351232 := hf.1
  unfold laws_toAttrS.f
  simp only [if_pos (show 0 ≤ (l.length : Int) by omega), if_pos (show (l.length : Int).toNat ≤ 7036874417766 by omega)]
  exact to_loop (rdx := rd_T126) (z := z126) (fun _ _ => rfl) (c := fun k x => laws_toAttr.f k x.f0 x.f1) (mk := fun b => (⟨b.1, b.2⟩ : S112)) (l := laws_toAttrS.l0) (fun _ _ _ _ => rfl) l (by omega) conv_Attr (fun x hx => ⟨_, to_Attr x (hf.2 x hx), rfl⟩) _ (by simp)
def lens_AttrS (l : List S112) : Prop := l.length ≤ 9223372036854775807 ∧ ∀ y, y ∈ l → lens_Attr y
theorem eq_AttrS (l : List S112) (hf : lens_AttrS l) : Ev (fun k => laws_eqAttrS.f k l l) true := by
  unfold laws_eqAttrS.f
  simp only [if_true, eq_self_iff_true]
  exact eq_loop (rdx := rd_T112) (z := z112) (fun _ _ => rfl) (e := fun k a b => laws_eqAttr.f k a.f0 a.f1 b.f0 b.f1) (l := laws_eqAttrS.l0) (fun _ _ _ _ => rfl) l hf.1 (fun x hx => eq_Attr x (hf.2 x hx))
theorem lens_conv_AttrS (l : List S126) (h : small_AttrS l) : lens_AttrS (l.map conv_Attr) := by
  refine ⟨by rw [List.length_map]; have := h.1; omega, fun y hy => ?_⟩
  obtain ⟨x, hx, rfl⟩ := List.mem_map.1 hy
  exact lens_conv_Attr x (h.2 x hx)
end Go.Proofs.Ytfikhgiiccbbfaa.PH
