/-
  The reference's l05Put puts a name among rising ones. Plain Lean over the printed functions. Condition: the lists' lengths that are stated.
-/
import Derived.Test.YtbgikfahcppkfaaSOP1
import Derived.Test.YtbgikfahcppkfaaSORise
namespace Go.Proofs.Ytbgikfahcppkfaa.PG
set_option linter.unusedVariables false
set_option linter.unusedSimpArgs false
open Go.RowKit Go.Proofs.YtbgikfahcppkfaaW.PrintWords Go.Proofs.YtbgikfahcppkfaaW.PrintLast Go.Proofs.YtbgikfahcppkfaaW.PrintMore Go.Proofs.Ytbgikfahcppkfaa.Gn

/-- A list of names behind one more. -/
def Put (l : List ByteArray) (t : ByteArray) (r : List ByteArray) : Prop := SB r ∧ (∀ x, x ∈ r ↔ x = t ∨ x ∈ l) ∧ r.length ≤ l.length + 1
theorem put_same {l : List ByteArray} {t : ByteArray} (hs : SB l) (h : t ∈ l) : Put l t l := ⟨hs, fun x => ⟨fun h1 => .inr h1, fun h1 => h1.elim (fun e => e ▸ h) id⟩, Nat.le_succ _⟩
theorem put_new {l : List ByteArray} {t : ByteArray} {p : Nat} (hs : SB l) (hp : p ≤ l.length) (hlt : ∀ j (hj : j < l.length), j < p → lt8 (l[j]'hj) t) (hge : ∀ h : p < l.length, lt8 t (l[p]'h)) : Put l t (l.take p ++ [t] ++ l.drop p) := by
  obtain ⟨h1, h2⟩ := ins_sorted hs hp hlt hge
  exact ⟨h1, h2, by simp only [List.length_append, List.length_take, List.length_drop, List.length_singleton]; omega⟩
theorem lt8_ge {a b : ByteArray} (h1 : ¬ lt8 a b) (h2 : a ≠ b) : lt8 b a := by
  unfold lt8 at *
  rcases Decidable.em (b.data.toList < a.data.toList) with h | h
  · exact h
  · exact absurd (ba_ext (List.le_antisymm (List.not_lt.1 h) (List.not_lt.1 h1))) h2
theorem step_lt {l : List ByteArray} {t : ByteArray} {i : Nat} {hlt : i < l.length} (hb : ∀ j (hj : j < l.length), j < i → lt8 (l[j]'hj) t) (h : lt8 (l[i]'hlt) t) : ∀ j (hj : j < l.length), j < i + 1 → lt8 (l[j]'hj) t := by
  intro j hj hji
  rcases Nat.lt_succ_iff_lt_or_eq.1 hji with h1 | h1
  · exact hb j hj h1
  · subst h1
    exact h
theorem rd_str (l : List ByteArray) {i : Nat} (h : i < l.length) : rdOf ByteArray.empty l (i : Int) = l[i]'h := by
  unfold rdOf
  rw [Int.toNat_natCast, getD_at h]
theorem put_lim {l : List ByteArray} {i : Nat} (hl : l.length ≤ 1000000) (hi : i ≤ l.length) (t : ByteArray) : (([] : List ByteArray).length + (l.take i).length < 8796093022208) ∧ ((([] : List ByteArray) ++ l.take i).length < 8796093022208) ∧ ((([] : List ByteArray) ++ l.take i ++ [t]).length + (l.drop i).length < 8796093022208) := by
  simp only [List.length_append, List.length_take, List.length_drop, List.length_singleton, List.length_nil]
  omega
theorem spec_put (l : List ByteArray) (t : ByteArray) (hs : SB l) (hl : l.length ≤ 1000000) : ∃ r, Ev (fun k => spec_l05Put.f k l t) r ∧ Put l t r := by
  have key : ∀ (m i : Nat), i + m = l.length → (∀ j (hj : j < l.length), j < i → lt8 (l[j]'hj) t) → ∃ r, Ev (fun k => spec_l05Put.l0 k l t (i : Int)) r ∧ Put l t r := by
    intro m
    induction m with
    | zero =>
      intro i hi hb
      refine ⟨_, Ev_one fun k => ?_, put_new hs (p := i) (by omega) hb (fun h => by omega)⟩
      obtain ⟨q1, q2, q3⟩ := put_lim hl (show i ≤ l.length by omega) t
      simp only [spec_l05Put.l0, Option.bind_some, Int.toNat_natCast]
      rw [if_neg (by omega), if_pos (by omega), if_pos (by omega), if_pos q1, if_pos q2, if_pos q3]
      simp
    | succ m ih =>
      intro i hi hb
      have hlt : i < l.length := by omega
      have h1 : (i : Int) < (l.length : Int) := by omega
      have h2 : 0 ≤ (i : Int) := by omega
      have er := rd_str l hlt
      have e0 : wrap64 ((i : Int) + 1) = ((i + 1 : Nat) : Int) := by rw [wsucc (by omega) (by omega)]; omega
      have hle := less_iff (l[i]'hlt) t
      rcases Decidable.em ((l[i]'hlt).data.toList < t.data.toList) with hl8 | hl8
      · obtain ⟨r, hr, hp⟩ := ih (i + 1) (by omega) (step_lt hb hl8)
        refine ⟨r, Ev.step (fun k => ?_) hr, hp⟩
        simp only [spec_l05Put.l0]
        rw [if_pos h1, if_pos h2, er, hle, if_pos (decide_eq_true hl8), e0]
      · have hd : ¬ (decide ((l[i]'hlt).data.toList < t.data.toList) = true) := by simpa using hl8
        rcases Decidable.em ((l[i]'hlt) = t) with he | he
        · refine ⟨l, Ev_one fun k => ?_, put_same hs (he ▸ List.getElem_mem hlt)⟩
          simp only [spec_l05Put.l0]
          rw [if_pos h1, if_pos h2, er, hle, if_neg hd, if_pos ((same_iff _ _).2 he)]
        · refine ⟨_, Ev_one fun k => ?_, put_new hs (p := i) (by omega) hb (fun h => lt8_ge hl8 he)⟩
          obtain ⟨q1, q2, q3⟩ := put_lim hl (show i ≤ l.length by omega) t
          simp only [spec_l05Put.l0, Option.bind_some, Int.toNat_natCast]
          rw [if_pos h1, if_pos h2, er, hle, if_neg hd, if_neg (fun h => he ((same_iff _ _).1 h)), if_pos (by omega), if_pos q1, if_pos q2, if_pos q3]
          simp
  exact key l.length 0 (by omega) (fun j hj h => absurd h (Nat.not_lt_zero _))
end Go.Proofs.Ytbgikfahcppkfaa.PG
