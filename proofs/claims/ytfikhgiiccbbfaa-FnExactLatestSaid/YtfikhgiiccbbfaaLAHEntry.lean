/-
  The laws' helpers at Entry: sizes, copies, equality, as plain functions. No condition but those stated.
-/
import Derived.Test.YtfikhgiiccbbfaaLAP1
import Derived.Test.YtfikhgiiccbbfaaLAP2
import Derived.Test.YtfikhgiiccbbfaaLAGen
import Derived.Test.YtfikhgiiccbbfaaLAFits
import Derived.Test.YtfikhgiiccbbfaaLAHRdn
import Derived.Test.YtfikhgiiccbbfaaLAHAttr
namespace Go.Proofs.Ytfikhgiiccbbfaa.PH
set_option linter.unusedSimpArgs false
set_option linter.unusedVariables false
open Go.RowKit Go.Proofs.YtfikhgiiccbbfaaW.PrintWords Go.Proofs.YtfikhgiiccbbfaaW.PrintLast Go.Proofs.YtfikhgiiccbbfaaW.PrintMore Go.Proofs.Ytfikhgiiccbbfaa.Gn Go.Proofs.Ytfikhgiiccbbfaa

def conv_Entry (x : S84) : S89 := ⟨x.f0.map conv_Rdn, x.f1.map conv_Attr⟩
def small_Entry (x : S84) : Prop := small_RdnS x.f0 ∧ small_AttrS x.f1
theorem sz_Entry (x : S84) (hf : Ft.fit84 x) : ∀ acc : Int, 0 ≤ acc → acc ≤ 1048576 → ∃ r, Ev (fun k => laws_szEntry.f k x.f0 x.f1 acc) r ∧ r ≤ acc ∧ (0 ≤ r → small_Entry x) := by
  intro acc a0 a1
  obtain ⟨h0, h1⟩ := hf
  unfold laws_szEntry.f
  obtain ⟨b0, hr0, hle0, hs0⟩ := sz_RdnS x.f0 h0 acc (by omega) (by omega)
  refine sz_bind (by omega) hr0 hle0 (fun h => by simp only [if_pos h]; exact Ev.now _) (fun p0 => ?_)
  simp only [if_neg (show ¬ b0 < 0 by omega)]
  obtain ⟨b1, hr1, hle1, hs1⟩ := sz_AttrS x.f1 h1 b0 (by omega) (by omega)
  refine sz_bind (by omega) hr1 hle1 (fun h => by simp only [if_pos h]; exact Ev.now _) (fun p1 => ?_)
  simp only [if_neg (show ¬ b1 < 0 by omega)]
  exact ⟨_, Ev.now _, Int.le_refl _, fun _ => ⟨hs0 p0, hs1 p1⟩⟩
theorem to_Entry (x : S84) (hf : Ft.fit84 x) : Ev (fun k => laws_toEntry.f k x.f0 x.f1) ((conv_Entry x).f0, (conv_Entry x).f1) := by
  obtain ⟨h0, h1⟩ := hf
  unfold laws_toEntry.f
  refine Ev_bind (to_RdnS x.f0 h0) ?_
  refine Ev_bind (to_AttrS x.f1 h1) ?_
  exact Ev.now _
def lens_Entry (y : S89) : Prop := lens_RdnS y.f0 ∧ lens_AttrS y.f1
theorem eq_Entry (y : S89) (hf : lens_Entry y) : Ev (fun k => laws_eqEntry.f k y.f0 y.f1 y.f0 y.f1) true := by
  obtain ⟨h0, h1⟩ := hf
  unfold laws_eqEntry.f
  (try simp only [if_true, eq_self_iff_true, bne_self_eq_false, Bool.false_eq_true, if_false, reduceIte, reduceCtorEq])
  refine Ev_bind (eq_RdnS y.f0 h0) ?_
  (try simp only [if_true, eq_self_iff_true, bne_self_eq_false, Bool.false_eq_true, if_false, reduceIte, reduceCtorEq])
  refine Ev_bind (eq_AttrS y.f1 h1) ?_
  (try simp only [if_true, eq_self_iff_true, bne_self_eq_false, Bool.false_eq_true, if_false, reduceIte, reduceCtorEq])
  exact Ev.now _
theorem lens_conv_Entry (x : S84) (h : small_Entry x) : lens_Entry (conv_Entry x) := by
  obtain ⟨h0, h1⟩ := h
  exact ⟨lens_conv_RdnS _ h0, lens_conv_AttrS _ h1⟩
def small_EntryS (l : List S84) : Prop := l.length ≤ 1048576 ∧ ∀ x, x ∈ l → small_Entry x
theorem sz_EntryS (l : List S84) (hf : Ft.fit47 l) : ∀ acc : Int, 0 ≤ acc → acc ≤ 1048576 → ∃ r, Ev (fun k => laws_szEntryS.f k l acc) r ∧ r ≤ acc ∧ (0 ≤ r → small_EntryS l) := by
  have hl : l.length * 48 ≤ 140737488351232 := hf.1
  exact sz_slice (fun _ _ _ => rfl) l (by omega) (sz_loop (rdx := rd_T84) (z := z84) (fun _ _ => rfl) (e := fun k x acc => laws_szEntry.f k x.f0 x.f1 acc) (l := laws_szEntryS.l0) (small := small_Entry) (fun _ _ _ _ => rfl) l (by omega) (fun x hx => sz_Entry x (hf.2 x hx)))
theorem to_EntryS (l : List S84) (hf : Ft.fit47 l) : Ev (fun k => laws_toEntryS.f k l) (l.map conv_Entry) := by
  have hl : l.length * 48 ≤ 140737488351232 := hf.1
  unfold laws_toEntryS.f
  simp only [if_pos (show 0 ≤ (l.length : Int) by omega), if_pos (show (l.length : Int).toNat ≤ 5864062014805 by omega)]
  exact to_loop (rdx := rd_T84) (z := z84) (fun _ _ => rfl) (c := fun k x => laws_toEntry.f k x.f0 x.f1) (mk := fun b => (⟨b.1, b.2⟩ : S89)) (l := laws_toEntryS.l0) (fun _ _ _ _ => rfl) l (by omega) conv_Entry (fun x hx => ⟨_, to_Entry x (hf.2 x hx), rfl⟩) _ (by simp)
def lens_EntryS (l : List S89) : Prop := l.length ≤ 9223372036854775807 ∧ ∀ y, y ∈ l → lens_Entry y
theorem eq_EntryS (l : List S89) (hf : lens_EntryS l) : Ev (fun k => laws_eqEntryS.f k l l) true := by
  unfold laws_eqEntryS.f
  simp only [if_true, eq_self_iff_true]
  exact eq_loop (rdx := rd_T89) (z := z89) (fun _ _ => rfl) (e := fun k a b => laws_eqEntry.f k a.f0 a.f1 b.f0 b.f1) (l := laws_eqEntryS.l0) (fun _ _ _ _ => rfl) l hf.1 (fun x hx => eq_Entry x (hf.2 x hx))
theorem lens_conv_EntryS (l : List S84) (h : small_EntryS l) : lens_EntryS (l.map conv_Entry) := by
  refine ⟨by rw [List.length_map]; have := h.1; omega, fun y hy => ?_⟩
  obtain ⟨x, hx, rfl⟩ := List.mem_map.1 hy
  exact lens_conv_Entry x (h.2 x hx)
end Go.Proofs.Ytfikhgiiccbbfaa.PH
