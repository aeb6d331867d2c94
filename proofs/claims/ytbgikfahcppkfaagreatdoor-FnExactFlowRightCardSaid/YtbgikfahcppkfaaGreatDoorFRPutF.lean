/-
  The names in a valid filter: the reference's rising list comes to the program's union of them. Plain Lean over the printed functions. No condition.
-/
import Derived.Test.YtbgikfahcppkfaaGreatDoorFRP2
import Derived.Test.YtbgikfahcppkfaaGreatDoorFRP5
import Derived.Test.YtbgikfahcppkfaaGreatDoorFRP1
import Derived.Test.YtbgikfahcppkfaaGreatDoorFRFilterR
import Derived.Test.YtbgikfahcppkfaaGreatDoorFRPut
namespace Go.Proofs.YtbgikfahcppkfaaGreatDoor.PG
set_option linter.unusedVariables false
set_option linter.unusedSimpArgs false
open Go.RowKit Go.Proofs.YtbgikfahcppkfaaGreatDoorW.PrintWords Go.Proofs.YtbgikfahcppkfaaGreatDoorW.PrintLast Go.Proofs.YtbgikfahcppkfaaGreatDoorW.PrintMore Go.Proofs.YtbgikfahcppkfaaGreatDoor.Gn Go.Proofs.YtbgikfahcppkfaaGreatDoor.Sem

def opOk (p : S155) : Prop := 1 ≤ p.f0
/-- What lies behind a place at which the reference sees an end is as told. -/
def EndOk (x : XS) (a e : Int) : Prop := a ≤ e ∧ e ≤ x.length ∧ ∀ j : Nat, a ≤ (j : Int) → (j : Int) < e → ∀ h : j < x.length, opOk (x[j]'h)
theorem node_op {k : Nat} {p : S155} (h : spec_l04Node.f k p.f0 p.f1 p.f2 p.f3 = some true) : opOk p := by
  have h1 := Ev_eq (Ev.of (fun k => spec_l04Node.mono p.f0 p.f1 p.f2 p.f3 k) h) (spec_node p)
  have h2 := nodeOk_forms h1.symm
  unfold opOk
  omega
theorem end_neg {k : Nat} {x : XS} {a deep n e : Int} (ha : a < 0) (h : spec_l04End.l0 k x a deep n = some e) : e = a := by
  cases k with
  | zero => simp [spec_l04End.l0] at h
  | succ k =>
    simp only [spec_l04End.l0] at h
    by_cases hn : n > 0
    · rw [if_pos hn, if_neg (by omega)] at h
      exact (Option.some.inj h).symm
    · rw [if_neg hn] at h
      exact (Option.some.inj h).symm
theorem end_bad {k : Nat} {x : XS} {a deep e : Int} (h : spec_l04End.j0 k x a deep true = some e) : e = -1 := by
  cases k with
  | zero => simp [spec_l04End.j0] at h
  | succ k =>
    simp only [spec_l04End.j0, if_true] at h
    exact (Option.some.inj h).symm
theorem end_ok (x : XS) (hx : x.length ≤ 1000) : ∀ k, (∀ a deep e : Int, 0 ≤ a → spec_l04End.f k x a deep = some e → 0 ≤ e → EndOk x a e) ∧ (∀ a deep n e : Int, 0 ≤ a → a ≤ x.length → spec_l04End.l0 k x a deep n = some e → 0 ≤ e → EndOk x a e) := by
  intro k
  induction k using Nat.strongRecOn with
  | _ k ih =>
  refine ⟨fun a deep e ha h he => ?_, fun a deep n e ha hl h he => ?_⟩
  · cases k with
    | zero => simp [spec_l04End.f] at h
    | succ k =>
    simp only [spec_l04End.f] at h
    by_cases h1 : a ≥ (x.length : Int)
    · rw [if_pos h1] at h
      have := end_bad h
      omega
    rw [if_neg h1] at h
    by_cases h2 : deep > 5
    · rw [if_pos h2] at h
      have := end_bad h
      omega
    rw [if_neg h2, if_pos ha, if_pos (by omega)] at h
    obtain ⟨i, rfl⟩ := Int.eq_ofNat_of_zero_le ha
    have hlt : i < x.length := by omega
    rw [node_rd x i hlt] at h
    obtain ⟨b, hb, h⟩ := Option.bind_eq_some_iff.1 h
    cases b with
    | false =>
      have := end_bad h
      omega
    | true =>
      have hop := node_op hb
      cases k with
      | zero => simp [spec_l04End.j0] at h
      | succ k =>
      simp only [spec_l04End.j0, Bool.not_true, Bool.false_eq_true, if_false] at h
      rw [if_pos ha, if_pos (by omega), w_id (by omega) (by omega)] at h
      obtain ⟨q1, q2, q3⟩ := (ih k (by omega)).2 _ _ _ _ (by omega) (by omega) h he
      refine ⟨by omega, q2, fun j hj hje hjl => ?_⟩
      by_cases hji : j = i
      · subst hji
        exact hop
      · exact q3 j (by omega) hje hjl
  · cases k with
    | zero => simp [spec_l04End.l0] at h
    | succ k =>
    simp only [spec_l04End.l0] at h
    by_cases hn : n > 0
    · rw [if_pos hn, if_pos (by omega)] at h
      obtain ⟨t, ht, h⟩ := Option.bind_eq_some_iff.1 h
      by_cases ht0 : t < 0
      · have := end_neg ht0 h
        omega
      obtain ⟨p1, p2, p3⟩ := (ih k (by omega)).1 _ _ _ ha ht (by omega)
      obtain ⟨q1, q2, q3⟩ := (ih k (by omega)).2 _ _ _ _ (by omega) p2 h he
      refine ⟨by omega, q2, fun j hj hje hjl => ?_⟩
      by_cases hjt : (j : Int) < t
      · exact p3 j hj hjt hjl
      · exact q3 j (by omega) hje hjl
    · rw [if_neg hn] at h
      obtain rfl := Option.some.inj h
      exact ⟨Int.le_refl _, hl, fun j hj hje => by omega⟩
theorem filter_ops {x : XS} (h : Ev (fun k => spec_FilterRight.f k x) true) : x.length ≤ 20 ∧ ∀ p, p ∈ x → opOk p := by
  obtain ⟨k, hk⟩ := h.rounds
  unfold spec_FilterRight.f at hk
  by_cases h20 : (x.length : Int) ≤ 20
  · rw [if_pos h20] at hk
    obtain ⟨e, he, hk⟩ := Option.bind_eq_some_iff.1 hk
    have hk2 := Option.some.inj hk
    rw [beq_iff_eq] at hk2
    subst hk2
    obtain ⟨_, _, h3⟩ := (end_ok x (by omega) k).1 _ _ _ (Int.le_refl _) he (by omega)
    refine ⟨by omega, fun p hp => ?_⟩
    obtain ⟨j, hj, rfl⟩ := List.mem_iff_getElem.1 hp
    exact h3 j (by omega) (by omega) hj
  · rw [if_neg h20] at hk
    cases hk
/-- The names in a filter, as they come. -/
def flA (x : XS) : List ByteArray := (x.filter fun p => decide (p.f0 > 3)).map fun p => p.f1
theorem flA_cons (p : S155) (x : XS) : flA (p :: x) = if p.f0 > 3 then p.f1 :: flA x else flA x := by
  unfold flA
  by_cases h : p.f0 > 3
  · simp [h]
  · simp [h]
theorem spec_inner (p : S155) (h : opOk p) : spec_l04Inner.f p.f0 p.f1 p.f2 p.f3 = some (decide (¬ p.f0 > 3)) := by
  unfold opOk at h
  unfold spec_l04Inner.f
  by_cases h1 : p.f0 = 1
  · rw [if_pos h1]
    simp [h1]
  by_cases h2 : p.f0 = 2
  · rw [if_neg h1, if_pos h2]
    simp [h2]
  rw [if_neg h1, if_neg h2]
  congr 1
  rw [Bool.eq_iff_iff]
  simp
  omega
theorem filter_put (x : XS) (hx : x.length ≤ 1000) (i : Nat) (hi : i < x.length) (l : List ByteArray) (hs : SB l) (hl : l.length ≤ 1000000) : ∃ q, Put l (x[i]'hi).f1 q ∧ ∀ v, Ev (fun k => spec_FilterAttrs.l0 k x q ((i + 1 : Nat) : Int)) v → Ev (fun k => spec_FilterAttrs.l1 k x l (i : Int) 0) v := by
  have i1 : (i : Int) < (x.length : Int) := by omega
  have i2 : 0 ≤ (i : Int) := by omega
  have ei := node_rd x i hi
  have e1 : wrap64 ((i : Int) + 1) = ((i + 1 : Nat) : Int) := by rw [wsucc (by omega) (by omega)]; omega
  generalize x[i]'hi = p at ei ⊢
  have key : ∀ (m j : Nat), j + m = l.length → (∀ q (hq : q < l.length), q < j → lt8 (l[q]'hq) p.f1) → ∃ q, Put l p.f1 q ∧ ∀ v, Ev (fun k => spec_FilterAttrs.l0 k x q ((i + 1 : Nat) : Int)) v → Ev (fun k => spec_FilterAttrs.l1 k x l (i : Int) (j : Int)) v := by
    intro m
    induction m with
    | zero =>
      intro j hj hb
      refine ⟨_, put_new hs (p := j) (by omega) hb (fun h => by omega), fun v hv => Ev.step (fun k => ?_) hv⟩
      obtain ⟨q1, q2, q3⟩ := put_lim hl (show j ≤ l.length by omega) p.f1
      simp only [spec_FilterAttrs.l1, Option.bind_some, Int.toNat_natCast]
      rw [if_neg (by omega), if_pos (by omega), if_pos (by omega), if_pos q1, if_pos i2, if_pos i1, if_pos q2, ei, if_pos q3, e1]
      simp
    | succ m ih =>
      intro j hj hb
      have hlt : j < l.length := by omega
      have h1 : (j : Int) < (l.length : Int) := by omega
      have h2 : 0 ≤ (j : Int) := by omega
      have er := rd_str l hlt
      have e0 : wrap64 ((j : Int) + 1) = ((j + 1 : Nat) : Int) := by rw [wsucc (by omega) (by omega)]; omega
      have hle := less_iff (l[j]'hlt) p.f1
      rcases Decidable.em ((l[j]'hlt).data.toList < p.f1.data.toList) with hl8 | hl8
      · obtain ⟨r, hp, hr⟩ := ih (j + 1) (by omega) (step_lt hb hl8)
        refine ⟨r, hp, fun v hv => Ev.step (fun k => ?_) (hr v hv)⟩
        simp only [spec_FilterAttrs.l1]
        rw [if_pos h1, if_pos h2, if_pos i2, if_pos i1, er, ei, hle, if_pos (decide_eq_true hl8), e0]
      · have hd : ¬ (decide ((l[j]'hlt).data.toList < p.f1.data.toList) = true) := by simpa using hl8
        rcases Decidable.em ((l[j]'hlt) = p.f1) with he | he
        · refine ⟨l, put_same hs (he ▸ List.getElem_mem hlt), fun v hv => Ev.step (fun k => ?_) hv⟩
          simp only [spec_FilterAttrs.l1]
          rw [if_pos h1, if_pos h2, if_pos i2, if_pos i1, er, ei, hle, if_neg hd, if_pos ((same_iff _ _).2 he), e1]
        · refine ⟨_, put_new hs (p := j) (by omega) hb (fun h => lt8_ge hl8 he), fun v hv => Ev.step (fun k => ?_) hv⟩
          obtain ⟨q1, q2, q3⟩ := put_lim hl (show j ≤ l.length by omega) p.f1
          simp only [spec_FilterAttrs.l1, Option.bind_some, Int.toNat_natCast]
          rw [if_pos h1, if_pos h2, if_pos i2, if_pos i1, er, ei, hle, if_neg hd, if_neg (fun h => he ((same_iff _ _).1 h)), if_pos (by omega), if_pos q1, if_pos q2, if_pos q3, e1]
          simp
  exact key l.length 0 (by omega) (fun j hj h => absurd h (Nat.not_lt_zero _))
theorem spec_flAttrs (x : XS) (h : Ev (fun k => spec_FilterRight.f k x) true) : Ev (fun k => spec_FilterAttrs.f k x) (unionB [flA x]) := by
  obtain ⟨h20, hop⟩ := filter_ops h
  have key : ∀ (m i : Nat) (acc : List ByteArray), i + m = x.length → SB acc → acc.length ≤ i → ∃ r, Ev (fun k => spec_FilterAttrs.l0 k x acc (i : Int)) r ∧ SB r ∧ ∀ y, y ∈ r ↔ y ∈ acc ∨ y ∈ flA (x.drop i) := by
    intro m
    induction m with
    | zero =>
      intro i acc hi hs ha
      refine ⟨acc, Ev_one fun k => ?_, hs, fun y => ?_⟩
      · simp only [spec_FilterAttrs.l0]
        rw [if_neg (by omega)]
      · rw [List.drop_eq_nil_of_le (by omega)]
        simp [flA]
    | succ m ih =>
      intro i acc hi hs ha
      have hlt : i < x.length := by omega
      have h1 : (i : Int) < (x.length : Int) := by omega
      have h2 : 0 ≤ (i : Int) := by omega
      have er := node_rd x i hlt
      have e0 : wrap64 ((i : Int) + 1) = ((i + 1 : Nat) : Int) := by rw [wsucc (by omega) (by omega)]; omega
      have hin := spec_inner (x[i]'hlt) (hop _ (List.getElem_mem hlt))
      by_cases hp : (x[i]'hlt).f0 > 3
      · rw [decide_eq_false (by omega)] at hin
        obtain ⟨q, ⟨hs2, hm2, hn2⟩, hq⟩ := filter_put x (by omega) i hlt acc hs (by omega)
        obtain ⟨r, hr, hs3, hm3⟩ := ih (i + 1) q (by omega) hs2 (by omega)
        refine ⟨r, Ev.step (fun k => ?_) (hq r hr), hs3, fun y => ?_⟩
        · simp only [spec_FilterAttrs.l0]
          rw [if_pos h1, if_pos h2, er, hin]
          simp only [Option.bind_some, Bool.false_eq_true, if_false]
        · rw [hm3, hm2, List.drop_eq_getElem_cons hlt, flA_cons, if_pos hp, List.mem_cons]
          constructor
          · rintro ((h | h) | h)
            · exact .inr (.inl h)
            · exact .inl h
            · exact .inr (.inr h)
          · rintro (h | h | h)
            · exact .inl (.inr h)
            · exact .inl (.inl h)
            · exact .inr h
      · rw [decide_eq_true hp] at hin
        obtain ⟨r, hr, hs3, hm3⟩ := ih (i + 1) acc (by omega) hs (by omega)
        refine ⟨r, Ev.step (fun k => ?_) hr, hs3, fun y => ?_⟩
        · simp only [spec_FilterAttrs.l0]
          rw [if_pos h1, if_pos h2, er, hin]
          simp only [Option.bind_some, if_true, e0]
        · rw [hm3, List.drop_eq_getElem_cons hlt, flA_cons, if_neg hp]
  obtain ⟨r, hr, hs, hm⟩ := key x.length 0 [] (by omega) List.Pairwise.nil (by simp)
  have e : r = unionB [flA x] := SB_ext hs (unionB_sorted _) (fun y => by rw [hm, unionB_one, List.drop_zero]; simp)
  rw [← e]
  refine Ev.congr (fun k => ?_) (Ev_bind (f := fun k t => spec_FilterAttrs.j0 k x [] (!t)) h (Ev.step (fun k => ?_) hr))
  · unfold spec_FilterAttrs.f
    simp only [Option.bind_some]
    rw [if_neg (by omega)]
  · simp only [spec_FilterAttrs.j0, Bool.not_true, Bool.false_eq_true, if_false]
    rfl
theorem impl_flAttrs (x : XS) (hl : x.length ≤ 1000) : Ev (fun k => impl_filterAttrs.f k x) (unionB [flA x]) := by
  have key : ∀ (m i : Nat) (acc : List ByteArray), i + m = x.length → acc.length ≤ i → Ev (fun k => impl_filterAttrs.l0 k acc x (x.length : Int) (i : Int)) (unionB [acc ++ flA (x.drop i)]) := by
    intro m
    induction m with
    | zero =>
      intro i acc hi ha
      refine Ev_one fun k => ?_
      have hu : impl_union.f [acc] = some (unionB [acc]) := by
        unfold impl_union.f
        rw [if_pos (by simp; omega)]
      simp only [impl_filterAttrs.l0]
      rw [if_neg (by omega), hu, List.drop_eq_nil_of_le (by omega)]
      simp [flA]
    | succ m ih =>
      intro i acc hi ha
      have hlt : i < x.length := by omega
      have h1 : (i : Int) < (x.length : Int) := by omega
      have h2 : 0 ≤ (i : Int) := by omega
      have er := node_rd x i hlt
      have e0 : wrap64 ((i : Int) + 1) = ((i + 1 : Nat) : Int) := by rw [wsucc (by omega) (by omega)]; omega
      rw [List.drop_eq_getElem_cons hlt, flA_cons]
      by_cases hp : (x[i]'hlt).f0 > 3
      · rw [if_pos hp]
        have h := ih (i + 1) (acc ++ [(x[i]'hlt).f1]) (by omega) (by simp; omega)
        rw [List.append_assoc] at h
        refine Ev.step (fun k => ?_) h
        simp only [impl_filterAttrs.l0]
        rw [if_pos h1, if_pos h2, if_pos h1, er, if_pos hp, if_pos (by omega), e0]
      · rw [if_neg hp]
        refine Ev.step (fun k => ?_) (ih (i + 1) acc (by omega) (by omega))
        simp only [impl_filterAttrs.l0]
        rw [if_pos h1, if_pos h2, if_pos h1, er, if_neg hp, e0]
  have := key x.length 0 [] (by omega) (by simp)
  unfold impl_filterAttrs.f
  simpa using this
end Go.Proofs.YtbgikfahcppkfaaGreatDoor.PG
