/-
  A number at some limit, and one of some texts, are drawn. Plain Lean over the printed functions.
-/
import Derived.Test.YtfikhgiiccbbfaaFBP3
import Derived.Test.YtfikhgiiccbbfaaFBDrawM
namespace Go.Proofs.Ytfikhgiiccbbfaa.PG
set_option linter.unusedVariables false
set_option linter.unusedSimpArgs false
open Go.RowKit Go.Proofs.YtfikhgiiccbbfaaW.PrintWords Go.Proofs.YtfikhgiiccbbfaaW.PrintLast Go.Proofs.YtfikhgiiccbbfaaW.PrintMore Go.Proofs.Ytfikhgiiccbbfaa.Gn

theorem edge_ok (b : List Int) (a x s : Int) (hb : b.length ≤ 1000000000) (ha : 0 ≤ a) (ha2 : a ≤ b.length) :
    ∃ r a' x', spec_l01Src_edge.f b a x s = some (r, a', x', s) ∧ -9223372036854775808 ≤ r ∧ r ≤ 9223372036854775807 ∧ 0 ≤ a' ∧ a' ≤ b.length := by
  obtain ⟨r, a2, x2, e2, r0, r1, p3, p4⟩ := n_ok b a x s 14 hb ha ha2 (by omega)
  have r14 := r1 (by omega)
  have hbd : ∀ y, y ∈ ([0, 1, (-1), 2, 1000, 1001, 2147483648, 2147483647, (-2147483648), 4611686018427387904, 9223372036854775807, (-9223372036854775808), 1000000, 1000001] : List Int) → (-9223372036854775808 : Int) ≤ y ∧ y ≤ 9223372036854775807 := by decide
  have hr := rd_bounds hbd r0 (show r < (([0, 1, (-1), 2, 1000, 1001, 2147483648, 2147483647, (-2147483648), 4611686018427387904, 9223372036854775807, (-9223372036854775808), 1000000, 1000001] : List Int).length : Int) from r14)
  refine ⟨rd ([0, 1, (-1), 2, 1000, 1001, 2147483648, 2147483647, (-2147483648), 4611686018427387904, 9223372036854775807, (-9223372036854775808), 1000000, 1000001] : List Int) r, a2, x2, ?_, hr.1, hr.2, p3, p4⟩
  unfold spec_l01Src_edge.f
  simp only [Option.bind_some]
  rw [e2]
  simp only [Option.bind_some]
  rw [if_pos r0, if_pos (show r < (([0, 1, (-1), 2, 1000, 1001, 2147483648, 2147483647, (-2147483648), 4611686018427387904, 9223372036854775807, (-9223372036854775808), 1000000, 1000001] : List Int).length : Int) from r14)]
theorem pick_ok (b : List Int) (a x s : Int) (l : List ByteArray) (hl : 1 ≤ l.length) (hl2 : l.length ≤ 1000000) (hb : b.length ≤ 1000000000) (ha : 0 ≤ a) (ha2 : a ≤ b.length) :
    ∃ o a' x', spec_l01Src_pick.f b a x s l = some (o, a', x', s) ∧ o ∈ l ∧ 0 ≤ a' ∧ a' ≤ b.length := by
  obtain ⟨r, a2, x2, e2, r0, r1, p3, p4⟩ := n_ok b a x s l.length hb ha ha2 (by omega)
  have rl := r1 (by omega)
  obtain ⟨n, rfl⟩ := Int.eq_ofNat_of_zero_le r0
  have hn : n < l.length := by omega
  have e : rdOf ByteArray.empty l (n : Int) = l[n]'hn := by unfold rdOf; simp [List.getD_eq_getElem?_getD, hn]
  refine ⟨l[n]'hn, a2, x2, ?_, List.getElem_mem hn, p3, p4⟩
  unfold spec_l01Src_pick.f
  rw [e2]
  simp only [Option.bind_some]
  rw [if_pos r0, if_pos rl, e]
end Go.Proofs.Ytfikhgiiccbbfaa.PG
