/-
  The draws of a source are total: n, one, bytes. Plain Lean over the printed functions.
-/
import Derived.Test.YtfikhgiiccbbfaaFBP3
import Derived.Test.YtfikhgiiccbbfaaFBSrcN
import Derived.Test.YtfikhgiiccbbfaaFBGen
namespace Go.Proofs.Ytfikhgiiccbbfaa.PG
set_option linter.unusedVariables false
set_option linter.unusedSimpArgs false
open Go.RowKit Go.Proofs.YtfikhgiiccbbfaaW.PrintWords Go.Proofs.YtfikhgiiccbbfaaW.PrintLast Go.Proofs.YtfikhgiiccbbfaaW.PrintMore Go.Proofs.Ytfikhgiiccbbfaa.Gn

theorem u64_rem (x : Int) {m : Int} (h0 : 1 < m) (h1 : m ≤ 9223372036854775807) : 0 ≤ wrap64 ((IntKind.u64.wrap x).tmod (IntKind.u64.wrap m)) ∧ wrap64 ((IntKind.u64.wrap x).tmod (IntKind.u64.wrap m)) < m := by
  have e : IntKind.u64.wrap m = m := by rw [IntKind.wrap_u64]; omega
  have hx : 0 ≤ IntKind.u64.wrap x := by rw [IntKind.wrap_u64]; omega
  rw [e, Int.tmod_eq_emod_of_nonneg hx]
  have h2 := Int.emod_nonneg (IntKind.u64.wrap x) (show m ≠ 0 by omega)
  have h3 := Int.emod_lt_of_pos (IntKind.u64.wrap x) (show 0 < m by omega)
  rw [w_id (by omega) (by omega)]
  exact ⟨h2, h3⟩
/-- A number below m is drawn, and the place stays within the bytes. -/
theorem n_ok (b : List Int) (a x s m : Int) (hb : b.length ≤ 1000000000) (ha : 0 ≤ a) (ha2 : a ≤ b.length) (hm : m ≤ 9223372036854775807) :
    ∃ r a' x', spec_l01Src_n.f b a x s m = some (r, a', x', s) ∧ 0 ≤ r ∧ (1 ≤ m → r < m) ∧ 0 ≤ a' ∧ a' ≤ b.length := by
  unfold spec_l01Src_n.f
  by_cases h1 : m ≤ 1
  · exact ⟨0, a, x, if_pos h1, Int.le_refl _, fun _ => by omega, ha, ha2⟩
  · rw [if_neg h1]
    have hz : ¬ IntKind.u64.wrap m = 0 := by rw [IntKind.wrap_u64]; omega
    rw [if_neg hz]
    by_cases hl : a < (b.length : Int)
    · rw [if_pos hl, if_pos ha]
      obtain ⟨r0, r1⟩ := u64_rem (IntKind.u64.wrap (rd b a) + turnN x / 1048576) (show 1 < m by omega) hm
      have e : wrap64 (a + 1) = a + 1 := w_id (by omega) (by omega)
      exact ⟨_, _, _, rfl, r0, fun _ => r1, by rw [e]; omega, by rw [e]; omega⟩
    · rw [if_neg hl]
      obtain ⟨r0, r1⟩ := u64_rem (turnN x / 1048576) (show 1 < m by omega) hm
      exact ⟨_, _, _, rfl, r0, fun _ => r1, ha, ha2⟩
theorem one_ok (b : List Int) (a x s m : Int) (hb : b.length ≤ 1000000000) (ha : 0 ≤ a) (ha2 : a ≤ b.length) (hm : m ≤ 9223372036854775807) :
    ∃ r a' x', spec_l01Src_one.f b a x s m = some (r, a', x', s) ∧ 0 ≤ a' ∧ a' ≤ b.length := by
  obtain ⟨r, a', x', h, _, _, h1, h2⟩ := n_ok b a x s m hb ha ha2 hm
  refine ⟨r == 0, a', x', ?_, h1, h2⟩
  unfold spec_l01Src_one.f
  rw [h]
  rfl
theorem bytes_ok (b : List Int) (n : Int) (hn : n ≤ 1000000) (s : Int) (hb : b.length ≤ 1000000000) : ∀ (m : Nat) (i : Int) (out : List Int) (a x : Int), 0 ≤ i → n - i ≤ m → out.length ≤ i → 0 ≤ a → a ≤ b.length → i ≤ 1000000 →
    ∃ o a' x', Ev (fun k => spec_l01Src_bytes.l0 k n out i b a x s) (o, a', x', s) ∧ o.size ≤ 1000000 ∧ 0 ≤ a' ∧ a' ≤ b.length := by
  intro m
  induction m with
  | zero =>
    intro i out a x hi hm ho ha ha2 hi2
    refine ⟨strOfNums out, a, x, Ev_one fun k => ?_, ?_, ha, ha2⟩
    · simp only [spec_l01Src_bytes.l0]
      rw [if_neg (by omega)]
    · show (strOfNums out).data.size ≤ _
      simp only [strOfNums, List.size_toArray, List.length_map]
      omega
  | succ m ih =>
    intro i out a x hi hm ho ha ha2 hi2
    by_cases h : i < n
    · obtain ⟨r, a1, x1, hr, _, _, h1, h2⟩ := n_ok b a x s 256 hb ha ha2 (by omega)
      have e : wrap64 (i + 1) = i + 1 := w_id (by omega) (by omega)
      obtain ⟨o, a', x', he, h3⟩ := ih (i + 1) (out ++ [r % 256]) a1 x1 (by omega) (by omega) (by simp; omega) h1 h2 (by omega)
      refine ⟨o, a', x', Ev.step (fun k => ?_) he, h3⟩
      simp only [spec_l01Src_bytes.l0]
      rw [if_pos h, hr]
      simp only [Option.bind_some]
      rw [if_pos (by omega), e]
    · refine ⟨strOfNums out, a, x, Ev_one fun k => ?_, ?_, ha, ha2⟩
      · simp only [spec_l01Src_bytes.l0]
        rw [if_neg h]
      · show (strOfNums out).data.size ≤ _
        simp only [strOfNums, List.size_toArray, List.length_map]
        omega
end Go.Proofs.Ytfikhgiiccbbfaa.PG
