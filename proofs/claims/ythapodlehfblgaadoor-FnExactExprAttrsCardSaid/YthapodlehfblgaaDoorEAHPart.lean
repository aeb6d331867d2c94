/-
  The laws' helpers at Part: sizes, copies, equality, as plain functions. No condition but those stated.
-/
import Derived.Test.YthapodlehfblgaaDoorEAP1
import Derived.Test.YthapodlehfblgaaDoorEAGen
import Derived.Test.YthapodlehfblgaaDoorEAFits
namespace Go.Proofs.YthapodlehfblgaaDoor.PG
set_option linter.unusedSimpArgs false
set_option linter.unusedVariables false
open Go.RowKit Go.Proofs.YthapodlehfblgaaDoorW.PrintWords Go.Proofs.YthapodlehfblgaaDoorW.PrintLast Go.Proofs.YthapodlehfblgaaDoorW.PrintMore Go.Proofs.YthapodlehfblgaaDoor.Gn Go.Proofs.YthapodlehfblgaaDoor

def conv_Part (x : S80) : S82 := ⟨x.f0, x.f1, x.f2⟩
def small_Part (x : S80) : Prop := True ∧ x.f1.size ≤ 1048576 ∧ True
theorem sz_Part (x : S80) (hf : Ft.fit80 x) : ∀ acc : Int, 0 ≤ acc → acc ≤ 1048576 → ∃ r, Ev (fun k => laws_szPart.f x.f0 x.f1 x.f2 acc) r ∧ r ≤ acc ∧ (0 ≤ r → small_Part x) := by
  intro acc a0 a1
  obtain ⟨h0, h1, h2⟩ := hf
  unfold laws_szPart.f
  have h1' : x.f1.size ≤ 140737488351232 := h1
  have e1 : wrap64 (acc - (x.f1.size : Int)) = acc - (x.f1.size : Int) := w_id (by omega) (by omega)
  generalize wrap64 (acc - (x.f1.size : Int)) = b1 at e1 ⊢
  refine sz_str (b := b1) (by omega) (by omega) (fun h => by simp only [if_pos h]; exact Ev.now _) (fun p1 => ?_)
  simp only [if_neg (show ¬ b1 < 0 by omega)]
  exact ⟨_, Ev.now _, Int.le_refl _, fun _ => ⟨trivial, by omega, trivial⟩⟩
theorem to_Part (x : S80) (hf : Ft.fit80 x) : Ev (fun k => laws_toPart.f x.f0 x.f1 x.f2) ((conv_Part x).f0, (conv_Part x).f1, (conv_Part x).f2) := by
  obtain ⟨h0, h1, h2⟩ := hf
  unfold laws_toPart.f
  exact Ev.now _
def lens_Part (y : S82) : Prop := True ∧ True ∧ True
theorem eq_Part (y : S82) (hf : lens_Part y) : Ev (fun k => laws_eqPart.f y.f0 y.f1 y.f2 y.f0 y.f1 y.f2) true := by
  obtain ⟨h0, h1, h2⟩ := hf
  unfold laws_eqPart.f
  (try simp only [if_true, eq_self_iff_true, bne_self_eq_false, Bool.false_eq_true, if_false, reduceIte, reduceCtorEq])
  exact Ev.now _
theorem lens_conv_Part (x : S80) (h : small_Part x) : lens_Part (conv_Part x) := by
  obtain ⟨h0, h1, h2⟩ := h
  exact ⟨trivial, trivial, trivial⟩
def small_PartS (l : List S80) : Prop := l.length ≤ 1048576 ∧ ∀ x, x ∈ l → small_Part x
theorem sz_PartS (l : List S80) (hf : Ft.fit39 l) : ∀ acc : Int, 0 ≤ acc → acc ≤ 1048576 → ∃ r, Ev (fun k => laws_szPartS.f k l acc) r ∧ r ≤ acc ∧ (0 ≤ r → small_PartS l) := by
  have hl : l.length * 32 ≤ 140737488351232 := hf.1
  exact sz_slice (fun _ _ _ => rfl) l (by omega) (sz_loop (rdx := rd_T80) (z := z80) (fun _ _ => rfl) (e := fun k x acc => laws_szPart.f x.f0 x.f1 x.f2 acc) (l := laws_szPartS.l0) (small := small_Part) (fun _ _ _ _ => rfl) l (by omega) (fun x hx => sz_Part x (hf.2 x hx)))
theorem to_PartS (l : List S80) (hf : Ft.fit39 l) : Ev (fun k => laws_toPartS.f k l) (l.map conv_Part) := by
  have hl : l.length * 32 ≤ 140737488351232 := hf.1
  unfold laws_toPartS.f
  simp only [if_pos (show 0 ≤ (l.length : Int) by omega), if_pos (show (l.length : Int).toNat ≤ 8796093022208 by omega)]
  exact to_loop (rdx := rd_T80) (z := z80) (fun _ _ => rfl) (c := fun k x => laws_toPart.f x.f0 x.f1 x.f2) (mk := fun b => (⟨b.1, b.2.1, b.2.2⟩ : S82)) (l := laws_toPartS.l0) (fun _ _ _ _ => rfl) l (by omega) conv_Part (fun x hx => ⟨_, to_Part x (hf.2 x hx), rfl⟩) _ (by simp)
def lens_PartS (l : List S82) : Prop := l.length ≤ 9223372036854775807 ∧ ∀ y, y ∈ l → lens_Part y
theorem eq_PartS (l : List S82) (hf : lens_PartS l) : Ev (fun k => laws_eqPartS.f k l l) true := by
  unfold laws_eqPartS.f
  simp only [if_true, eq_self_iff_true]
  exact eq_loop (rdx := rd_T82) (z := z82) (fun _ _ => rfl) (e := fun k a b => laws_eqPart.f a.f0 a.f1 a.f2 b.f0 b.f1 b.f2) (l := laws_eqPartS.l0) (fun _ _ _ _ => rfl) l hf.1 (fun x hx => eq_Part x (hf.2 x hx))
theorem lens_conv_PartS (l : List S80) (h : small_PartS l) : lens_PartS (l.map conv_Part) := by
  refine ⟨by rw [List.length_map]; have := h.1; omega, fun y hy => ?_⟩
  obtain ⟨x, hx, rfl⟩ := List.mem_map.1 hy
  exact lens_conv_Part x (h.2 x hx)
end Go.Proofs.YthapodlehfblgaaDoor.PG
