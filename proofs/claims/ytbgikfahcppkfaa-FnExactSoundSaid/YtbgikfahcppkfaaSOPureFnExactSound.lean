/-
  The program's Sound returns what the reference's returns, in memory of its own, for every list of accounts: the plain law over the printed functions. No condition.
-/
import Derived.Test.YtbgikfahcppkfaaSOP3
import Derived.Test.YtbgikfahcppkfaaSOP1
import Derived.Test.YtbgikfahcppkfaaSOSound
import Derived.Test.YtbgikfahcppkfaaSODoubtS
import Derived.Test.YtbgikfahcppkfaaSOMarkWant
import Derived.Test.YtbgikfahcppkfaaSOHWant
namespace Go.Proofs.Ytbgikfahcppkfaa.Pure
set_option linter.unusedVariables false
set_option linter.unusedSimpArgs false
open Go.RowKit Go.Proofs.Ytbgikfahcppkfaa.PG Go.Proofs.Ytbgikfahcppkfaa Go.Proofs.YtbgikfahcppkfaaW.PrintWords Go.Proofs.YtbgikfahcppkfaaW.PrintLast Go.Proofs.Ytbgikfahcppkfaa.Gn

theorem doubtAll_len (l : List S77) : (doubtAll l).length ≤ 20 := by
  unfold doubtAll
  split
  · exact Nat.le_trans (doubtV_len l) (by assumption)
  · exact Nat.zero_le _
theorem spec_sound (l : List S77) : Ev (fun k => spec_Sound.f k l) (soundAll l) := by
  unfold spec_Sound.f soundAll
  refine Ev_bind (Ev.now _) ?_
  by_cases h20 : l.length ≤ 20
  · rw [if_pos h20]
    refine Ev.congr (fun k => if_neg (show ¬ (l.length : Int) > 20 by omega)) ?_
    have hq := doubtAll_len l
    have hd := spec_doubt l
    have hdv : doubtAll l = doubtV l := by unfold doubtAll; rw [if_pos h20]
    rw [hdv] at hq hd
    refine Ev_bind hd ?_
    unfold soundV
    generalize doubtV l = q at hq ⊢
    have key : ∀ (m i : Nat) (acc : List S77), i + m = l.length → acc.length ≤ i → Ev (fun k => spec_Sound.l0 k l acc q (i : Int)) (acc ++ (l.drop i).filter fun x => !unsP q x) := by
      intro m
      induction m with
      | zero =>
        intro i acc hi ha
        rw [List.drop_eq_nil_of_le (by omega)]
        refine Ev_one fun k => ?_
        simp only [spec_Sound.l0]
        rw [if_neg (by omega)]
        simp
      | succ m ih =>
        intro i acc hi ha
        have hlt : i < l.length := by omega
        have h1 : (i : Int) < (l.length : Int) := by omega
        have h2 : 0 ≤ (i : Int) := by omega
        have er := rd_want l i hlt
        have e0 : wrap64 ((i : Int) + 1) = ((i + 1 : Nat) : Int) := by rw [wsucc (by omega) (by omega)]; omega
        rw [List.drop_eq_getElem_cons hlt, List.filter_cons]
        generalize l[i]'hlt = x at er ⊢
        by_cases h4 : x.f4 = 0
        · have hh := spec_has q x.f1 (by omega)
          have hun : unsP q x = decide (x.f1 ∈ q) := by unfold unsP; rw [decide_eq_true h4]; rfl
          rw [hun]
          refine Ev.step (fun k => by simp only [spec_Sound.l0]; rw [if_pos h1, if_pos h2, er, if_pos h4]) (Ev_bind hh ?_)
          cases decide (x.f1 ∈ q) with
          | true =>
            simp only [if_true, Bool.not_true, Bool.false_eq_true, if_false]
            rw [e0]
            exact ih (i + 1) acc (by omega) (by omega)
          | false =>
            simp only [Bool.false_eq_true, if_false, Bool.not_false, if_true]
            refine Ev.congr (fun k => if_pos (show acc.length < 1954687338268 by omega)) ?_
            rw [e0]
            have h := ih (i + 1) (acc ++ [x]) (by omega) (by simp; omega)
            rw [List.append_assoc, List.singleton_append] at h
            exact h
        · have hun : unsP q x = true := by unfold unsP; rw [decide_eq_false h4]; rfl
          rw [hun]
          refine Ev.step (fun k => by simp only [spec_Sound.l0]; rw [if_pos h1, if_pos h2, er, if_neg h4, e0]) ?_
          simpa using ih (i + 1) acc (by omega) (by omega)
    have := key l.length 0 [] (by omega) (Nat.le_refl _)
    simpa using this
  · rw [if_neg h20]
    exact Ev.congr (fun k => if_pos (show (l.length : Int) > 20 by omega)) (Ev.now _)
theorem soundAll_len (l : List S77) : (soundAll l).length ≤ 20 := by
  unfold soundAll soundV
  split
  · exact Nat.le_trans (List.length_filter_le _ _) (by assumption)
  · exact Nat.zero_le _
theorem soundAll_sub (l : List S77) : ∀ x, x ∈ soundAll l → x ∈ l := by
  unfold soundAll soundV
  intro x hx
  split at hx
  · exact (List.mem_filter.1 hx).1
  · cases hx
theorem FnExactSound (x0 : List (PG.S76)) (w0 : Ft.fit38 x0) : ∃ k, laws_FnExactSound.f k x0 = some true := by
  refine Ev.rounds ?_
  obtain ⟨r, hr, _, hs⟩ := sz_WantS x0 w0 1048576 (by omega) (by omega)
  unfold laws_FnExactSound.f
  refine Ev_bind hr ?_
  by_cases hneg : r < 0
  · simp only [if_pos hneg]
    exact Ev.now _
  simp only [if_neg hneg]
  have hsm := hs (by omega)
  have hln := lens_conv_WantS x0 hsm
  have hto := to_WantS x0 w0
  have hlen : (x0.map conv_Want).length ≤ 1048576 := by
    rw [List.length_map]
    exact hsm.1
  have hsz : sizesB (x0.map conv_Want) = true := by
    unfold sizesB
    rw [List.all_eq_true]
    intro y hy
    obtain ⟨x, hx, rfl⟩ := List.mem_map.1 hy
    have h1 := (hsm.2 x hx).2.1
    have h2 : (conv_Want x).f1.size ≤ 9223372036854775807 := by
      show x.f1.size ≤ _
      omega
    simpa using h2
  refine Ev_bind hto ?_
  generalize x0.map conv_Want = y at hto hln hlen hsz ⊢
  have s := spec_sound y
  have i : impl_Sound.f y = some (soundAll y) := by
    unfold impl_Sound.f
    rw [if_pos hsz]
  have hq := soundAll_len y
  have hqs := soundAll_sub y
  generalize soundAll y = q at s i hq hqs
  have hlq : lens_WantS q := ⟨by have := hq; omega, fun x hx => hln.2 x (hqs x hx)⟩
  have heq := eq_WantS q hlq
  have hm := mark_Want y 1 (by omega) (by omega) (by omega)
  have hms := mark_Want q 1 (by omega) (by omega) (by omega)
  have hhs := held_Want q.length 1 (by omega) (by omega) (by omega)
  refine Ev_bind s (Ev_bind hto (Ev_bind (Ev_some fun _ => i) (Ev_bind heq ?_)))
  simp only [if_true]
  refine Ev_bind hto (Ev_bind (eq_WantS y hln) ?_)
  simp only [if_true]
  refine Ev_bind hm ?_
  refine Ev.congr (fun k => if_neg (show ¬ (1 + (5 : Nat) * (y.length : Int)) < 0 by omega)) ?_
  refine Ev_bind heq ?_
  refine Ev.step (fun k => by simp only [laws_FnExactSound.j0, Bool.not_true]; rw [if_neg Bool.false_ne_true]) ?_
  refine Ev_bind hms (Ev_bind hhs ?_)
  refine Ev.congr (fun k => if_neg (show ¬ (1 + (5 : Nat) * (q.length : Int)) < 0 by omega)) (Ev.congr (fun k => if_pos rfl) ?_)
  refine Ev_bind hto (Ev_bind (Ev_some fun _ => i) (Ev_bind heq ?_))
  simp only [if_true]
  refine Ev_bind hhs ?_
  exact Ev.congr (fun k => if_neg (show ¬ (1 + (5 : Nat) * (q.length : Int)) < 0 by omega)) (Ev.congr (fun k => if_pos rfl) (Ev.now _))
end Go.Proofs.Ytbgikfahcppkfaa.Pure
