/-
  A source is made of any bytes. Plain Lean over the printed functions.
-/
import Derived.Test.YtfikhgiiccbbfaaFBP1
import Derived.Test.YtfikhgiiccbbfaaFBDrawN
namespace Go.Proofs.Ytfikhgiiccbbfaa.PG
set_option linter.unusedVariables false
set_option linter.unusedSimpArgs false
open Go.RowKit Go.Proofs.YtfikhgiiccbbfaaW.PrintWords Go.Proofs.YtfikhgiiccbbfaaW.PrintLast Go.Proofs.YtfikhgiiccbbfaaW.PrintMore Go.Proofs.Ytfikhgiiccbbfaa.Gn

theorem source_ok (l : List Int) (hl : l.length ≤ 1000000000) : ∃ x s, Ev (fun k => spec_l01Source.f k l) (l, 0, x, s) := by
  have key : ∀ (m : Nat) (i x : Int), 0 ≤ i → 64 - i ≤ m → ∃ x' s, Ev (fun k => spec_l01Source.l0 k l i l 0 x 0) (l, 0, x', s) := by
    intro m
    have fin : ∀ (i x : Int), ¬ (i < (l.length : Int) ∧ i < 64) → ∃ x' s, Ev (fun k => spec_l01Source.l0 k l i l 0 x 0) (l, 0, x', s) := by
      intro i x hn
      by_cases h12 : (wrap64 ((l.length : Int) / 20)) > 12
      · refine ⟨x, 12, Ev_one fun k => ?_⟩
        simp only [spec_l01Source.l0]
        by_cases h1 : i < (l.length : Int)
        · rw [if_pos h1, if_neg (fun h2 => hn ⟨h1, h2⟩), if_pos h12]
        · rw [if_neg h1, if_pos h12]
      · refine ⟨x, wrap64 ((l.length : Int) / 20), Ev_one fun k => ?_⟩
        simp only [spec_l01Source.l0]
        by_cases h1 : i < (l.length : Int)
        · rw [if_pos h1, if_neg (fun h2 => hn ⟨h1, h2⟩), if_neg h12]
        · rw [if_neg h1, if_neg h12]
    induction m with
    | zero =>
      intro i x hi hm
      exact fin i x (by omega)
    | succ m ih =>
      intro i x hi hm
      by_cases h : i < (l.length : Int) ∧ i < 64
      · have e : wrap64 (i + 1) = i + 1 := w_id (by omega) (by omega)
        obtain ⟨x', s, hx⟩ := ih (i + 1) (IntKind.u64.wrap ((Go.bits .xor .u64 x (IntKind.u64.wrap (rd l i))) * 1099511628211)) (by omega) (by omega)
        refine ⟨x', s, Ev.step (fun k => ?_) hx⟩
        simp only [spec_l01Source.l0]
        rw [if_pos h.1, if_pos h.2, if_pos hi, e]
      · exact fin i x h
  exact key 64 0 _ (by omega) (by omega)
end Go.Proofs.Ytfikhgiiccbbfaa.PG
