/-
  Kinds nested in one another whose rows all lie apart: a slice whose elements' rows lie apart, and two in line that share no block. No condition.
-/
import Derived.Test.YtfikhgiiccbbfaaLAWords
namespace Go.Proofs.Ytfikhgiiccbbfaa.Gn
set_option linter.unusedVariables false
set_option linter.unusedSimpArgs false
open Go.RowKit Go.Proofs.YtfikhgiiccbbfaaW.PrintWords Go.Proofs.YtfikhgiiccbbfaaW.PrintLast Go.Proofs.YtfikhgiiccbbfaaW.PrintMore

/-- A slice, the elements' rows apart. -/
def ksl {α : Type} (e : Nat) (d : Kd α) : Kd (List α) where
  sz := 1
  E := e :: d.E
  K := fun w xs cs => ∃ A c, cs = [.slice A xs.length c] ∧ xs.length ≤ c ∧ d.C w A xs.length xs
  M := fun w base ok xs cs => ∃ v, cs = [v] ∧ Kd.S d e w base ok v xs
  K_len := by
    rintro w x cs ⟨A, c, rfl, _⟩
    rfl
  K_one := by
    rintro w x cs ⟨A, c, rfl, _⟩ u hu
    rw [List.mem_singleton.1 hu]
    rfl
  K_below := by
    rintro w w1 x cs hb ⟨A, c, rfl, hl, hr⟩
    exact ⟨A, c, rfl, hl, Kd.C_below hr hb⟩
  K_of_M := by
    rintro w base ok x cs ⟨v, rfl, h⟩
    obtain ⟨A, c, rfl, hl, hr⟩ := Kd.S_reads h
    exact ⟨A, c, rfl, hl, hr⟩
  M_mono := by
    rintro w base ok ok' x cs hok ⟨v, rfl, h⟩
    exact ⟨v, rfl, Kd.S_mono h hok⟩
  M_bound := by
    rintro w base ok x cs ⟨v, rfl, h⟩
    exact ⟨v, rfl, Kd.S_bound h⟩
  M_move := by
    rintro w w1 base ok x cs hm ⟨v, rfl, h⟩
    exact ⟨v, rfl, Kd.S_move h hm⟩
  M_lower := by
    rintro w base base' ok x cs hb ⟨v, rfl, h⟩
    exact ⟨v, rfl, Kd.S_lower h hb⟩
/-- Two in line that share no block. -/
def kap {α β : Type} (a : Kd α) (b : Kd β) : Kd (α × β) where
  sz := a.sz + b.sz
  E := a.E ++ b.E
  K := fun w x cs => ∃ c0 c1, cs = c0 ++ c1 ∧ a.K w x.1 c0 ∧ b.K w x.2 c1
  M := fun w base ok x cs => ∃ c0 c1, cs = c0 ++ c1 ∧ ∃ o0 o1 : Nat → Prop, (∀ k, o0 k → ok k) ∧ (∀ k, o1 k → ok k) ∧ (∀ k, o0 k → ¬ o1 k) ∧ a.M w base o0 x.1 c0 ∧ b.M w base o1 x.2 c1
  K_len := by
    rintro w x cs ⟨c0, c1, rfl, h0, h1⟩
    rw [List.length_append, a.K_len h0, b.K_len h1]
  K_one := by
    rintro w x cs ⟨c0, c1, rfl, h0, h1⟩ u hu
    rcases List.mem_append.1 hu with hu | hu
    · exact a.K_one h0 u hu
    · exact b.K_one h1 u hu
  K_below := by
    rintro w w1 x cs hb ⟨c0, c1, rfl, h0, h1⟩
    exact ⟨c0, c1, rfl, a.K_below hb h0, b.K_below hb h1⟩
  K_of_M := by
    rintro w base ok x cs ⟨c0, c1, rfl, o0, o1, _, _, _, h0, h1⟩
    exact ⟨c0, c1, rfl, a.K_of_M h0, b.K_of_M h1⟩
  M_mono := by
    rintro w base ok ok' x cs hok ⟨c0, c1, rfl, o0, o1, p0, p1, p2, h0, h1⟩
    exact ⟨c0, c1, rfl, o0, o1, fun k hk => hok k (p0 k hk), fun k hk => hok k (p1 k hk), p2, h0, h1⟩
  M_bound := by
    rintro w base ok x cs ⟨c0, c1, rfl, o0, o1, p0, p1, p2, h0, h1⟩
    exact ⟨c0, c1, rfl, _, _, fun k hk => ⟨p0 k hk.1, hk.2.1, hk.2.2.1, let ⟨q, hq, hc⟩ := hk.2.2.2; ⟨q, List.mem_append_left _ hq, hc⟩⟩, fun k hk => ⟨p1 k hk.1, hk.2.1, hk.2.2.1, let ⟨q, hq, hc⟩ := hk.2.2.2; ⟨q, List.mem_append_right _ hq, hc⟩⟩, fun k hk h => p2 k hk.1 h.1, a.M_bound h0, b.M_bound h1⟩
  M_move := by
    rintro w w1 base ok x cs hm ⟨c0, c1, rfl, o0, o1, p0, p1, p2, h0, h1⟩
    exact ⟨c0, c1, rfl, o0, o1, p0, p1, p2, a.M_move (fun k hk => hm k (p0 k hk)) h0, b.M_move (fun k hk => hm k (p1 k hk)) h1⟩
  M_lower := by
    rintro w base base' ok x cs hb ⟨c0, c1, rfl, o0, o1, p0, p1, p2, h0, h1⟩
    exact ⟨c0, c1, rfl, o0, o1, p0, p1, p2, a.M_lower hb h0, b.M_lower hb h1⟩
end Go.Proofs.Ytfikhgiiccbbfaa.Gn
