/-
  The laws' helpers at StringS: sizes, copies, equality, as plain functions. No condition but those stated.
-/
import Derived.Test.YtfikhgiiccbbfaaLAP1
import Derived.Test.YtfikhgiiccbbfaaLAP2
import Derived.Test.YtfikhgiiccbbfaaLAGen
import Derived.Test.YtfikhgiiccbbfaaLAFits
namespace Go.Proofs.Ytfikhgiiccbbfaa.PH
set_option linter.unusedSimpArgs false
set_option linter.unusedVariables false
open Go.RowKit Go.Proofs.YtfikhgiiccbbfaaW.PrintWords Go.Proofs.YtfikhgiiccbbfaaW.PrintLast Go.Proofs.YtfikhgiiccbbfaaW.PrintMore Go.Proofs.Ytfikhgiiccbbfaa.Gn Go.Proofs.Ytfikhgiiccbbfaa

def small_StringS (l : List ByteArray) : Prop := l.length ≤ 1048576 ∧ ∀ x, x ∈ l → x.size ≤ 1048576
theorem sz_StringS (l : List ByteArray) (hf : Ft.fit76 l) : ∀ acc : Int, 0 ≤ acc → acc ≤ 1048576 → ∃ r, Ev (fun k => laws_szStringS.f k l acc) r ∧ r ≤ acc ∧ (0 ≤ r → small_StringS l) := by
  have hl : l.length * 16 ≤ 140737488351232 := hf.1
  refine sz_slice (fun _ _ _ => rfl) l (by omega) (sz_loop (rdx := rdOf ByteArray.empty) (z := ByteArray.empty) (fun _ _ => rfl) (e := fun _ x acc => some (wrap64 (acc - (x.size : Int)))) (l := laws_szStringS.l0) (small := fun x => x.size ≤ 1048576) (fun _ _ _ _ => rfl) l (by omega) (fun x hx acc a0 a1 => ?_))
  have hx' : x.size ≤ 140737488351232 := hf.2 x hx
  rw [w_id (by omega) (by omega)]
  exact ⟨_, Ev.now _, by omega, fun h => by omega⟩
theorem to_StringS (l : List ByteArray) (hf : Ft.fit76 l) : Ev (fun k => laws_toStringS.f k l) l := by
  have hl : l.length * 16 ≤ 140737488351232 := hf.1
  unfold laws_toStringS.f
  simp only [if_pos (show 0 ≤ (l.length : Int) by omega), if_pos (show (l.length : Int).toNat ≤ 17592186044416 by omega)]
  have := to_loop (rdx := rdOf ByteArray.empty) (z := ByteArray.empty) (fun _ _ => rfl) (c := fun _ x => some x) (mk := fun b => b) (l := laws_toStringS.l0) (fun _ _ _ _ => rfl) l (by omega) (fun x => x) (fun x hx => ⟨_, Ev.now _, rfl⟩) (List.replicate (l.length : Int).toNat (⟨#[]⟩ : ByteArray)) (by simp)
  rw [List.map_id'] at this
  exact this
def lens_StringS (l : List ByteArray) : Prop := l.length ≤ 9223372036854775807
theorem eq_StringS (l : List ByteArray) (hf : lens_StringS l) : Ev (fun k => laws_eqStringS.f k l l) true := by
  unfold laws_eqStringS.f
  simp only [if_true, eq_self_iff_true]
  exact eq_strs (l := laws_eqStringS.l0) (fun _ _ _ _ => rfl) l hf
theorem lens_StringS_small (l : List ByteArray) (h : small_StringS l) : lens_StringS l := by
  have := h.1
  unfold lens_StringS
  omega
end Go.Proofs.Ytfikhgiiccbbfaa.PH
