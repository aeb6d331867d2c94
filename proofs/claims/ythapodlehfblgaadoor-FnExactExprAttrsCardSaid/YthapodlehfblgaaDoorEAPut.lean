/-
  The reference's rising lists of names come to the program's union of them: l05Put and ExprAttrs of a valid expression. Plain Lean over the printed functions. Condition: the lists' lengths that are stated.
-/
import Derived.Test.YthapodlehfblgaaDoorEAP1
import Derived.Test.YthapodlehfblgaaDoorEAP4
import Derived.Test.YthapodlehfblgaaDoorEAUnionLaw
namespace Go.Proofs.YthapodlehfblgaaDoor.PG
set_option linter.unusedVariables false
set_option linter.unusedSimpArgs false
open Go.RowKit Go.Proofs.YthapodlehfblgaaDoorW.PrintWords Go.Proofs.YthapodlehfblgaaDoorW.PrintLast Go.Proofs.YthapodlehfblgaaDoorW.PrintMore Go.Proofs.YthapodlehfblgaaDoor.Gn

/-- A list of names behind one more. -/
def Put (l : List ByteArray) (t : ByteArray) (r : List ByteArray) : Prop := SB r ∧ (∀ x, x ∈ r ↔ x = t ∨ x ∈ l) ∧ r.length ≤ l.length + 1
theorem put_same {l : List ByteArray} {t : ByteArray} (hs : SB l) (h : t ∈ l) : Put l t l := ⟨hs, fun x => ⟨fun h1 => .inr h1, fun h1 => h1.elim (fun e => e ▸ h) id⟩, Nat.le_succ _⟩
theorem put_new {l : List ByteArray} {t : ByteArray} {p : Nat} (hs : SB l) (hp : p ≤ l.length) (hlt : ∀ j (hj : j < l.length), j < p → lt8 (l[j]'hj) t) (hge : ∀ h : p < l.length, lt8 t (l[p]'h)) : Put l t (l.take p ++ [t] ++ l.drop p) := by
  obtain ⟨h1, h2⟩ := ins_sorted hs hp hlt hge
  exact ⟨h1, h2, by simp only [List.length_append, List.length_take, List.length_drop, List.length_singleton]; omega⟩
theorem lt8_ge {a b : ByteArray} (h1 : ¬ lt8 a b) (h2 : a ≠ b) : lt8 b a := by
  unfold lt8 at *
  rcases Decidable.em (b.data.toList < a.data.toList) with h | h
  · exact h
  · exact absurd (ba_ext (List.le_antisymm (List.not_lt.1 h) (List.not_lt.1 h1))) h2
theorem step_lt {l : List ByteArray} {t : ByteArray} {i : Nat} {hlt : i < l.length} (hb : ∀ j (hj : j < l.length), j < i → lt8 (l[j]'hj) t) (h : lt8 (l[i]'hlt) t) : ∀ j (hj : j < l.length), j < i + 1 → lt8 (l[j]'hj) t := by
  intro j hj hji
  rcases Nat.lt_succ_iff_lt_or_eq.1 hji with h1 | h1
  · exact hb j hj h1
  · subst h1
    exact h
theorem rd_str (l : List ByteArray) {i : Nat} (h : i < l.length) : rdOf ByteArray.empty l (i : Int) = l[i]'h := by
  unfold rdOf
  rw [Int.toNat_natCast, getD_at h]
theorem put_lim {l : List ByteArray} {i : Nat} (hl : l.length ≤ 1000000) (hi : i ≤ l.length) (t : ByteArray) : (([] : List ByteArray).length + (l.take i).length < 8796093022208) ∧ ((([] : List ByteArray) ++ l.take i).length < 8796093022208) ∧ ((([] : List ByteArray) ++ l.take i ++ [t]).length + (l.drop i).length < 8796093022208) := by
  simp only [List.length_append, List.length_take, List.length_drop, List.length_singleton, List.length_nil]
  omega
theorem spec_put (l : List ByteArray) (t : ByteArray) (hs : SB l) (hl : l.length ≤ 1000000) : ∃ r, Ev (fun k => spec_l05Put.f k l t) r ∧ Put l t r := by
  have key : ∀ (m i : Nat), i + m = l.length → (∀ j (hj : j < l.length), j < i → lt8 (l[j]'hj) t) → ∃ r, Ev (fun k => spec_l05Put.l0 k l t (i : Int)) r ∧ Put l t r := by
    intro m
    induction m with
    | zero =>
      intro i hi hb
      refine ⟨_, Ev_one fun k => ?_, put_new hs (p := i) (by omega) hb (fun h => by omega)⟩
      obtain ⟨q1, q2, q3⟩ := put_lim hl (show i ≤ l.length by omega) t
      simp only [spec_l05Put.l0, Option.bind_some, Int.toNat_natCast]
      rw [if_neg (by omega), if_pos (by omega), if_pos (by omega), if_pos q1, if_pos q2, if_pos q3]
      simp
    | succ m ih =>
      intro i hi hb
      have hlt : i < l.length := by omega
      have h1 : (i : Int) < (l.length : Int) := by omega
      have h2 : 0 ≤ (i : Int) := by omega
      have er := rd_str l hlt
      have e0 : wrap64 ((i : Int) + 1) = ((i + 1 : Nat) : Int) := by rw [wsucc (by omega) (by omega)]; omega
      have hle := less_iff (l[i]'hlt) t
      rcases Decidable.em ((l[i]'hlt).data.toList < t.data.toList) with hl8 | hl8
      · obtain ⟨r, hr, hp⟩ := ih (i + 1) (by omega) (step_lt hb hl8)
        refine ⟨r, Ev.step (fun k => ?_) hr, hp⟩
        simp only [spec_l05Put.l0]
        rw [if_pos h1, if_pos h2, er, hle, if_pos (decide_eq_true hl8), e0]
      · have hd : ¬ (decide ((l[i]'hlt).data.toList < t.data.toList) = true) := by simpa using hl8
        rcases Decidable.em ((l[i]'hlt) = t) with he | he
        · refine ⟨l, Ev_one fun k => ?_, put_same hs (he ▸ List.getElem_mem hlt)⟩
          simp only [spec_l05Put.l0]
          rw [if_pos h1, if_pos h2, er, hle, if_neg hd, if_pos ((same_iff _ _).2 he)]
        · refine ⟨_, Ev_one fun k => ?_, put_new hs (p := i) (by omega) hb (fun h => lt8_ge hl8 he)⟩
          obtain ⟨q1, q2, q3⟩ := put_lim hl (show i ≤ l.length by omega) t
          simp only [spec_l05Put.l0, Option.bind_some, Int.toNat_natCast]
          rw [if_pos h1, if_pos h2, er, hle, if_neg hd, if_neg (fun h => he ((same_iff _ _).1 h)), if_pos (by omega), if_pos q1, if_pos q2, if_pos q3]
          simp
  exact key l.length 0 (by omega) (fun j hj h => absurd h (Nat.not_lt_zero _))
/-- The attributes in an expression, as they come. -/
def exA (x : List S82) : List ByteArray := (x.filter fun p => p.f0 == 2).map fun p => p.f1
theorem exA_cons (p : S82) (x : List S82) : exA (p :: x) = if p.f0 = 2 then p.f1 :: exA x else exA x := by
  unfold exA
  by_cases h : p.f0 = 2
  · simp [h]
  · simp [h]
theorem exA_len (x : List S82) : (exA x).length ≤ x.length := by
  unfold exA
  rw [List.length_map]
  exact List.length_filter_le _ _
theorem rd_part (x : List S82) (i : Nat) (h : i < x.length) : rd_T82 x (i : Int) = x[i]'h := getD_at h
theorem unionB_one (l : List ByteArray) (x : ByteArray) : x ∈ unionB [l] ↔ x ∈ l := by
  rw [unionB_mem]
  simp
theorem spec_exAttrs (x : List S82) (hl : x.length ≤ 1000) : Ev (fun k => spec_l13Attrs.f k x) (unionB [exA x]) := by
  have key : ∀ (m i : Nat) (acc : List ByteArray), i + m = x.length → SB acc → acc.length ≤ i → ∃ r, Ev (fun k => spec_l13Attrs.l0 k x acc (i : Int)) r ∧ SB r ∧ ∀ y, y ∈ r ↔ y ∈ acc ∨ y ∈ exA (x.drop i) := by
    intro m
    induction m with
    | zero =>
      intro i acc hi hs ha
      refine ⟨acc, Ev_one fun k => ?_, hs, fun y => ?_⟩
      · simp only [spec_l13Attrs.l0]
        rw [if_neg (by omega)]
      · rw [List.drop_eq_nil_of_le (by omega)]
        simp [exA]
    | succ m ih =>
      intro i acc hi hs ha
      have hlt : i < x.length := by omega
      have h1 : (i : Int) < (x.length : Int) := by omega
      have h2 : 0 ≤ (i : Int) := by omega
      have er := rd_part x i hlt
      have e0 : wrap64 ((i : Int) + 1) = ((i + 1 : Nat) : Int) := by rw [wsucc (by omega) (by omega)]; omega
      by_cases hp : (x[i]'hlt).f0 = 2
      · obtain ⟨q, hq, hs2, hm2, hn2⟩ := spec_put acc (x[i]'hlt).f1 hs (by omega)
        obtain ⟨r, hr, hs3, hm3⟩ := ih (i + 1) q (by omega) hs2 (by omega)
        refine ⟨r, Ev.step (f := fun k => (spec_l05Put.f k acc (x[i]'hlt).f1).bind fun t => spec_l13Attrs.l0 k x t ((i + 1 : Nat) : Int)) (fun k => ?_) (Ev_bind hq hr), hs3, fun y => ?_⟩
        · simp only [spec_l13Attrs.l0]
          rw [if_pos h1, if_pos h2, er, if_pos hp, e0]
        · rw [hm3, hm2, List.drop_eq_getElem_cons hlt, exA_cons, if_pos hp, List.mem_cons]
          constructor
          · rintro ((h | h) | h)
            · exact .inr (.inl h)
            · exact .inl h
            · exact .inr (.inr h)
          · rintro (h | h | h)
            · exact .inl (.inr h)
            · exact .inl (.inl h)
            · exact .inr h
      · obtain ⟨r, hr, hs3, hm3⟩ := ih (i + 1) acc (by omega) hs (by omega)
        refine ⟨r, Ev.step (fun k => ?_) hr, hs3, fun y => ?_⟩
        · simp only [spec_l13Attrs.l0]
          rw [if_pos h1, if_pos h2, er, if_neg hp, e0]
        · rw [hm3, List.drop_eq_getElem_cons hlt, exA_cons, if_neg hp]
  obtain ⟨r, hr, hs, hm⟩ := key x.length 0 [] (by omega) List.Pairwise.nil (by simp)
  have e : r = unionB [exA x] := SB_ext hs (unionB_sorted _) (fun y => by rw [hm, unionB_one, List.drop_zero]; simp)
  rw [← e]
  exact hr
theorem impl_exAttrs (x : List S82) (hl : x.length ≤ 1000) : Ev (fun k => impl_exprAttrs.f k x) (unionB [exA x]) := by
  have key : ∀ (m i : Nat) (acc : List ByteArray), i + m = x.length → acc.length ≤ i → Ev (fun k => impl_exprAttrs.l0 k acc x (x.length : Int) (i : Int)) (unionB [acc ++ exA (x.drop i)]) := by
    intro m
    induction m with
    | zero =>
      intro i acc hi ha
      refine Ev_one fun k => ?_
      have hu : impl_union.f [acc] = some (unionB [acc]) := by
        unfold impl_union.f
        rw [if_pos (by simp; omega)]
      simp only [impl_exprAttrs.l0]
      rw [if_neg (by omega), hu, List.drop_eq_nil_of_le (by omega)]
      simp [exA]
    | succ m ih =>
      intro i acc hi ha
      have hlt : i < x.length := by omega
      have h1 : (i : Int) < (x.length : Int) := by omega
      have h2 : 0 ≤ (i : Int) := by omega
      have er := rd_part x i hlt
      have e0 : wrap64 ((i : Int) + 1) = ((i + 1 : Nat) : Int) := by rw [wsucc (by omega) (by omega)]; omega
      rw [List.drop_eq_getElem_cons hlt, exA_cons]
      by_cases hp : (x[i]'hlt).f0 = 2
      · rw [if_pos hp]
        have h := ih (i + 1) (acc ++ [(x[i]'hlt).f1]) (by omega) (by simp; omega)
        rw [List.append_assoc] at h
        refine Ev.step (fun k => ?_) h
        simp only [impl_exprAttrs.l0]
        rw [if_pos h1, if_pos h2, if_pos h1, er, if_pos hp, if_pos (by omega), e0]
      · rw [if_neg hp]
        refine Ev.step (fun k => ?_) (ih (i + 1) acc (by omega) (by omega))
        simp only [impl_exprAttrs.l0]
        rw [if_pos h1, if_pos h2, if_pos h1, er, if_neg hp, e0]
  have := key x.length 0 [] (by omega) (by simp)
  unfold impl_exprAttrs.f
  simpa using this
end Go.Proofs.YthapodlehfblgaaDoor.PG
