/-
  The reference's Doubtful comes to the same logins. Plain Lean over the printed functions. No condition.
-/
import Derived.Test.YtbgikfahcppkfaaSOP1
import Derived.Test.YtbgikfahcppkfaaSODoubt
import Derived.Test.YtbgikfahcppkfaaSOPutA
namespace Go.Proofs.Ytbgikfahcppkfaa.PG
set_option linter.unusedVariables false
set_option linter.unusedSimpArgs false
open Go.RowKit Go.Proofs.YtbgikfahcppkfaaW.PrintWords Go.Proofs.YtbgikfahcppkfaaW.PrintLast Go.Proofs.YtbgikfahcppkfaaW.PrintMore Go.Proofs.Ytbgikfahcppkfaa.Gn

theorem rd_want (x : List S77) (i : Nat) (h : i < x.length) : rd_T77 x (i : Int) = x[i]'h := getD_at h
theorem cnt_take (s : ByteArray) (l : List S77) {i : Nat} (h : i < l.length) : cntW s (l.take (i + 1)) = cntW s (l.take i) + (if okW (l[i]'h) = true ∧ (l[i]'h).f1 = s then 1 else 0) := by
  rw [List.take_succ_eq_append_getElem h, cntW_snoc]
/-- The reference's list, once it has looked at the first k accounts beside account i. -/
def SeenTo (l : List S77) (i : Nat) (hi : i < l.length) (k : Nat) (acc : List ByteArray) : Prop :=
  SB acc ∧ acc.length ≤ 20 * i + k ∧ ∀ x, x ∈ acc ↔ 2 ≤ cntW x (l.take i) ∨ (okW (l[i]'hi) = true ∧ x = (l[i]'hi).f1 ∧ 1 ≤ cntW x (l.take k))
theorem spec_inner (l : List S77) (hl : l.length ≤ 20) (i : Nat) (hi : i < l.length) : ∀ (m k : Nat) (acc : List ByteArray), k + m = i → SeenTo l i hi k acc → ∃ q, SeenTo l i hi i q ∧ ∀ v, Ev (fun r => spec_Doubtful.l0 r l q ((i + 1 : Nat) : Int)) v → Ev (fun r => spec_Doubtful.l1 r l acc (i : Int) (k : Int)) v := by
  have i1 : (i : Int) < (l.length : Int) := by omega
  have i2 : 0 ≤ (i : Int) := by omega
  have ei := rd_want l i hi
  have e1 : wrap64 ((i : Int) + 1) = ((i + 1 : Nat) : Int) := by rw [wsucc (by omega) (by omega)]; omega
  intro m
  induction m with
  | zero =>
    intro k acc hk hS
    obtain rfl : k = i := by omega
    refine ⟨acc, hS, fun v hv => Ev.step (fun r => ?_) hv⟩
    simp only [spec_Doubtful.l1]
    rw [if_neg (by omega), e1]
  | succ m ih =>
    intro k acc hk hS
    have hkl : k < l.length := by omega
    have h1 : (k : Int) < (i : Int) := by omega
    have h2 : 0 ≤ (k : Int) := by omega
    have h3 : (k : Int) < (l.length : Int) := by omega
    have ek := rd_want l k hkl
    have e0 : wrap64 ((k : Int) + 1) = ((k + 1 : Nat) : Int) := by rw [wsucc (by omega) (by omega)]; omega
    by_cases hc : okW (l[i]'hi) = true ∧ okW (l[k]'hkl) = true ∧ (l[i]'hi).f1 = (l[k]'hkl).f1
    · obtain ⟨c1, c2, c3⟩ := hc
      obtain ⟨q, hq, hs2, hm2, hn2⟩ := spec_put acc (l[i]'hi).f1 hS.1 (by have := hS.2.1; omega)
      have hS2 : SeenTo l i hi (k + 1) q := by
        refine ⟨hs2, by have := hS.2.1; omega, fun x => ?_⟩
        rw [hm2, hS.2.2, cnt_take x l hkl]
        by_cases hx : x = (l[i]'hi).f1
        · rw [if_pos ⟨c2, by rw [hx, c3]⟩]
          constructor
          · intro _
            exact .inr ⟨c1, hx, by omega⟩
          · intro _
            exact .inl hx
        · constructor
          · rintro (h | h | h)
            · exact absurd h hx
            · exact .inl h
            · exact absurd h.2.1 hx
          · rintro (h | h)
            · exact .inr (.inl h)
            · exact absurd h.2.1 hx
      obtain ⟨q2, hq2, hv2⟩ := ih (k + 1) q (by omega) hS2
      refine ⟨q2, hq2, fun v hv => Ev.step (f := fun r => (spec_l05Put.f r acc (l[i]'hi).f1).bind fun t => spec_Doubtful.l1 r l t (i : Int) ((k + 1 : Nat) : Int)) (fun r => ?_) (Ev_bind hq (hv2 v hv))⟩
      have d1 : (l[i]'hi).f4 = 0 := of_decide_eq_true c1
      have d2 : (l[k]'hkl).f4 = 0 := of_decide_eq_true c2
      simp only [spec_Doubtful.l1]
      rw [if_pos h1, if_pos i2, if_pos i1, ei, if_pos d1, if_pos h2, if_pos h3, ek, if_pos d2, if_pos ((same_iff _ _).2 c3), e0]
    · have hS2 : SeenTo l i hi (k + 1) acc := by
        refine ⟨hS.1, by have := hS.2.1; omega, fun x => ?_⟩
        rw [hS.2.2, cnt_take x l hkl]
        by_cases hx : okW (l[i]'hi) = true ∧ x = (l[i]'hi).f1
        · rw [if_neg (fun h => hc ⟨hx.1, h.1, by rw [h.2]; exact hx.2.symm⟩), Nat.add_zero]
        · constructor
          · rintro (h | h)
            · exact .inl h
            · exact absurd ⟨h.1, h.2.1⟩ hx
          · rintro (h | h)
            · exact .inl h
            · exact absurd ⟨h.1, h.2.1⟩ hx
      obtain ⟨q2, hq2, hv2⟩ := ih (k + 1) acc (by omega) hS2
      refine ⟨q2, hq2, fun v hv => Ev.step (fun r => ?_) (hv2 v hv)⟩
      simp only [spec_Doubtful.l1]
      rw [if_pos h1, if_pos i2, if_pos i1, ei]
      by_cases d1 : (l[i]'hi).f4 = 0
      · rw [if_pos d1, if_pos h2, if_pos h3, ek]
        by_cases d2 : (l[k]'hkl).f4 = 0
        · rw [if_pos d2, if_neg (fun h => hc ⟨decide_eq_true d1, decide_eq_true d2, (same_iff _ _).1 h⟩), e0]
        · rw [if_neg d2, e0]
      · rw [if_neg d1, e0]
theorem spec_doubt (l : List S77) : Ev (fun r => spec_Doubtful.f r l) (doubtAll l) := by
  unfold doubtAll
  by_cases h20 : l.length ≤ 20
  · rw [if_pos h20]
    have key : ∀ (m i : Nat) (acc : List ByteArray), i + m = l.length → SB acc → acc.length ≤ 20 * i → (∀ x, x ∈ acc ↔ 2 ≤ cntW x (l.take i)) → ∃ q, Ev (fun r => spec_Doubtful.l0 r l acc (i : Int)) q ∧ SB q ∧ ∀ x, x ∈ q ↔ 2 ≤ cntW x l := by
      intro m
      induction m with
      | zero =>
        intro i acc hi hs ha hm
        obtain rfl : i = l.length := by omega
        rw [List.take_length] at hm
        exact ⟨acc, Ev_one fun r => by simp only [spec_Doubtful.l0]; rw [if_neg (by omega)], hs, hm⟩
      | succ m ih =>
        intro i acc hi hs ha hm
        have hlt : i < l.length := by omega
        have hS : SeenTo l i hlt 0 acc := ⟨hs, by omega, fun x => by
          rw [hm]
          constructor
          · intro h
            exact .inl h
          · rintro (h | h)
            · exact h
            · exact absurd h.2.2 (by simp [cntW])⟩
        obtain ⟨q, hq, hv⟩ := spec_inner l h20 i hlt i 0 acc (by omega) hS
        obtain ⟨q', h1, h2, h3⟩ := ih (i + 1) q (by omega) hq.1 (by have := hq.2.1; omega) (fun x => by
          rw [hq.2.2, cnt_take x l hlt]
          by_cases hx : okW (l[i]'hlt) = true ∧ (l[i]'hlt).f1 = x
          · rw [if_pos hx]
            constructor
            · rintro (h | h)
              · omega
              · omega
            · intro h
              exact .inr ⟨hx.1, hx.2.symm, by omega⟩
          · rw [if_neg hx]
            constructor
            · rintro (h | h)
              · omega
              · exact absurd ⟨h.1, h.2.1.symm⟩ hx
            · intro h
              exact .inl (by omega))
        refine ⟨q', Ev.step (fun r => ?_) (hv q' h1), h2, h3⟩
        simp only [spec_Doubtful.l0]
        rw [if_pos (by omega)]
        rfl
    obtain ⟨q, h1, h2, h3⟩ := key l.length 0 [] (by omega) List.Pairwise.nil (by simp) (fun x => by simp [cntW])
    have e : q = doubtV l := SB_ext h2 (doubtV_rises l) (fun x => by rw [h3, doubtV_mem])
    rw [← e]
    unfold spec_Doubtful.f
    simp only [Option.bind_some]
    exact Ev.congr (fun r => if_neg (by omega)) h1
  · rw [if_neg h20]
    unfold spec_Doubtful.f
    simp only [Option.bind_some]
    exact Ev.congr (fun r => if_pos (by omega)) (Ev.now _)
end Go.Proofs.Ytbgikfahcppkfaa.PG
