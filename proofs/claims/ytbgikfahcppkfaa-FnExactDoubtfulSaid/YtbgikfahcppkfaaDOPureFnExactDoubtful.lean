/-
  The program's Doubtful returns what the reference's returns, in memory of its own, for every list of accounts: the plain law over the printed functions. No condition.
-/
import Derived.Test.YtbgikfahcppkfaaDOP2
import Derived.Test.YtbgikfahcppkfaaDOP1
import Derived.Test.YtbgikfahcppkfaaDODoubtS
import Derived.Test.YtbgikfahcppkfaaDOMarkWant
import Derived.Test.YtbgikfahcppkfaaDOMarkString
import Derived.Test.YtbgikfahcppkfaaDOHWant
import Derived.Test.YtbgikfahcppkfaaDOHStringS
namespace Go.Proofs.Ytbgikfahcppkfaa.Pure
set_option linter.unusedVariables false
set_option linter.unusedSimpArgs false
open Go.RowKit Go.Proofs.Ytbgikfahcppkfaa.PG Go.Proofs.Ytbgikfahcppkfaa Go.Proofs.YtbgikfahcppkfaaW.PrintWords Go.Proofs.YtbgikfahcppkfaaW.PrintLast Go.Proofs.Ytbgikfahcppkfaa.Gn

theorem doubtAll_len (l : List S77) : (doubtAll l).length ≤ 20 := by
  unfold doubtAll
  split
  · exact Nat.le_trans (doubtV_len l) (by assumption)
  · exact Nat.zero_le _
theorem FnExactDoubtful (x0 : List (PG.S76)) (w0 : Ft.fit38 x0) : ∃ k, laws_FnExactDoubtful.f k x0 = some true := by
  refine Ev.rounds ?_
  obtain ⟨r, hr, _, hs⟩ := sz_WantS x0 w0 1048576 (by omega) (by omega)
  unfold laws_FnExactDoubtful.f
  refine Ev_bind hr ?_
  by_cases hneg : r < 0
  · simp only [if_pos hneg]
    exact Ev.now _
  simp only [if_neg hneg]
  have hsm := hs (by omega)
  have hln := lens_conv_WantS x0 hsm
  have hto := to_WantS x0 w0
  have hlen : (x0.map conv_Want).length ≤ 1048576 := by
    rw [List.length_map]
    exact hsm.1
  have hsz : sizesB (x0.map conv_Want) = true := by
    unfold sizesB
    rw [List.all_eq_true]
    intro y hy
    obtain ⟨x, hx, rfl⟩ := List.mem_map.1 hy
    have h1 := (hsm.2 x hx).2.1
    have h2 : (conv_Want x).f1.size ≤ 9223372036854775807 := by
      show x.f1.size ≤ _
      omega
    simpa using h2
  refine Ev_bind hto ?_
  generalize x0.map conv_Want = y at hto hln hlen hsz ⊢
  have s := spec_doubt y
  have i : impl_Doubtful.f y = some (doubtAll y) := by
    unfold impl_Doubtful.f
    rw [if_pos hsz]
  have hq := doubtAll_len y
  generalize doubtAll y = q at s i hq
  have heq := eq_StringS q (show q.length ≤ 9223372036854775807 by omega)
  have hm := mark_Want y 1 (by omega) (by omega) (by omega)
  have hms := mark_String q 1 (by omega) (by omega) (by omega)
  have hhs := held_String q.length 1 (by omega) (by omega) (by omega)
  refine Ev_bind s (Ev_bind hto (Ev_bind (Ev_some fun _ => i) (Ev_bind heq ?_)))
  simp only [if_true]
  refine Ev_bind hto (Ev_bind (eq_WantS y hln) ?_)
  simp only [if_true]
  refine Ev_bind hm ?_
  refine Ev.congr (fun k => if_neg (show ¬ (1 + (5 : Nat) * (y.length : Int)) < 0 by omega)) ?_
  refine Ev_bind heq ?_
  refine Ev.step (fun k => by simp only [laws_FnExactDoubtful.j0, Bool.not_true]; rw [if_neg Bool.false_ne_true]) ?_
  refine Ev_bind hms (Ev_bind hhs ?_)
  refine Ev.congr (fun k => if_neg (show ¬ (1 + (1 : Nat) * (q.length : Int)) < 0 by omega)) (Ev.congr (fun k => if_pos rfl) ?_)
  refine Ev_bind hto (Ev_bind (Ev_some fun _ => i) (Ev_bind heq ?_))
  simp only [if_true]
  refine Ev_bind hhs ?_
  exact Ev.congr (fun k => if_neg (show ¬ (1 + (1 : Nat) * (q.length : Int)) < 0 by omega)) (Ev.congr (fun k => if_pos rfl) (Ev.now _))
end Go.Proofs.Ytbgikfahcppkfaa.Pure
