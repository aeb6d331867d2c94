/-
  The program's TablePurge returns what the reference's returns, in memory of its own, for every table and number: the plain law over the printed functions. No condition.
-/
import Derived.Test.YtpocoeghobdfiaaDoorTPP5
import Derived.Test.YtpocoeghobdfiaaDoorTPP2
import Derived.Test.YtpocoeghobdfiaaDoorTPTablePurge
import Derived.Test.YtpocoeghobdfiaaDoorTPMarkRow
import Derived.Test.YtpocoeghobdfiaaDoorTPHTable
import Derived.Test.YtpocoeghobdfiaaDoorTPHRow
namespace Go.Proofs.YtpocoeghobdfiaaDoor.Pure
set_option linter.unusedVariables false
set_option linter.unusedSimpArgs false
open Go.RowKit Go.Proofs.YtpocoeghobdfiaaDoor.PG Go.Proofs.YtpocoeghobdfiaaDoor Go.Proofs.YtpocoeghobdfiaaDoorW.PrintWords Go.Proofs.YtpocoeghobdfiaaDoorW.PrintLast Go.Proofs.YtpocoeghobdfiaaDoor.Gn

theorem purge_loop (usn a b : Int) (l : List S34) (hl : l.length ≤ 1099511627776) : ∀ (m i : Nat) (acc : List S34), i + m = l.length → acc.length ≤ i → Ev (fun k => spec_TablePurge.l0 k usn (i : Int) a b l a b acc) (a, b, acc ++ (l.drop i).filter (fun x => !goneP usn x)) := by
  intro m
  induction m with
  | zero =>
    intro i acc hi ha
    rw [List.drop_eq_nil_of_le (by omega)]
    exact Ev_one fun k => by simp only [spec_TablePurge.l0]; rw [if_neg (by omega)]; simp
  | succ m ih =>
    intro i acc hi ha
    have hlt : i < l.length := by omega
    have h1 : (i : Int) < (l.length : Int) := by omega
    have h2 : 0 ≤ (i : Int) := by omega
    have hac : acc.length < 1759218604441 := by omega
    have ih1 := ih (i + 1) acc (by omega) (by omega)
    have ih2 := ih (i + 1) (acc ++ [l[i]'hlt]) (by omega) (by simp; omega)
    have er : rd_T34 l (i : Int) = l[i]'hlt := by
      unfold rd_T34
      rw [Int.toNat_natCast, getD_at hlt]
    have e0 : wrap64 ((i : Int) + 1) = ((i + 1 : Nat) : Int) := mark_succ hlt hl
    rw [List.drop_eq_getElem_cons hlt, List.filter_cons]
    generalize hx : l[i]'hlt = x at er ih2 ⊢
    have hs : ∀ k, spec_TablePurge.l0 (k + 1) usn (i : Int) a b l a b acc = if goneP usn x = true then spec_TablePurge.l0 k usn ((i + 1 : Nat) : Int) a b l a b acc else spec_TablePurge.l0 k usn ((i + 1 : Nat) : Int) a b l a b (acc ++ [x]) := fun k => by
      simp only [spec_TablePurge.l0, if_pos h1, if_pos h2, er, e0, if_pos hac, goneP]
      obtain ⟨q0, q1, q2, q3, q4, q5, q6⟩ := x
      cases q6
      · simp
      · by_cases hu : q5 > usn
        · simp [hu, Int.not_le.2 hu]
        · simp [hu, Int.not_lt.1 hu]
    refine Ev.step hs ?_
    cases hg : goneP usn x
    · simp only [Bool.false_eq_true, if_false, Bool.not_false, if_true]
      rw [List.append_assoc] at ih2
      exact ih2
    · simp only [if_true, Bool.not_true, Bool.false_eq_true, if_false]
      exact ih1
theorem spec_purge (a b usn : Int) (l : List S34) (hl : l.length ≤ 1099511627776) : Ev (fun k => spec_TablePurge.f k a b l usn) (a, b, if tableB a b l = true then l.filter (fun x => !goneP usn x) else l) := by
  have hc : spec_l12Copy.f a b l = some (a, b, l) := by
    unfold spec_l12Copy.f
    simp only [Option.bind_some, List.length_nil, List.nil_append]
    rw [if_pos (by omega)]
  unfold spec_TablePurge.f
  refine Ev_bind (a := (a, b, l)) (Ev_some fun k => hc) ?_
  refine Ev_bind (spec_table a b l) ?_
  cases tableB a b l
  · exact Ev.now _
  · simp only [if_true]
    have := purge_loop usn a b l hl l.length 0 [] (by omega) (by simp)
    simpa using this
theorem mark_table (a b : Int) (l : List S34) (hl : l.length ≤ 100000000) : Ev (fun k => laws_markTable.f k a b l 1) (1 + 7 * l.length, mkL mk_Row 7 1 l.length) := by
  have h := mark_Row l 1 (by omega) (by omega) (by omega)
  refine Ev.congr (fun k => by unfold laws_markTable.f; rfl) (Ev_bind h (Ev.now _))
theorem held_table (a b : Int) (m : Nat) (hl : m ≤ 100000000) : Ev (fun k => laws_heldTable.f k a b (mkL mk_Row 7 1 m) 1) (1 + 7 * m) := by
  have h := held_Row m 1 (by omega) (by omega) (by omega)
  refine Ev.congr (fun k => by unfold laws_heldTable.f; rfl) (Ev_bind h ?_)
  rw [if_neg (by omega)]
  exact Ev.now _
theorem lens_filter (p : S34 → Bool) (l : List S34) (h : lens_RowS l) : lens_RowS (l.filter p) := ⟨Nat.le_trans (List.length_filter_le _ _) h.1, fun x hx => h.2 x (List.mem_filter.1 hx).1⟩
theorem FnExactTablePurge (x0 : PG.S31) (a1 : Int) (w0 : Ft.fit31 x0) (w1 : (Lit.int .i64 a1).wf = true) : ∃ k, laws_FnExactTablePurge.f k x0.f0 x0.f1 x0.f2 a1 = some true := by
  refine Ev.rounds ?_
  obtain ⟨r0, hr0, hle0, hs0⟩ := sz_Table x0 w0 1048576 (by omega) (by omega)
  unfold laws_FnExactTablePurge.f
  refine Ev_bind hr0 ?_
  by_cases hneg0 : r0 < 0
  · simp only [if_pos hneg0]
    exact Ev.now _
  simp only [if_neg hneg0]
  have hsm := hs0 (by omega)
  have hln := lens_conv_Table x0 hsm
  have hlen : (conv_Table x0).f2.length ≤ 1048576 := by
    have h1 := hsm.2.2.1
    show (x0.f2.map conv_Row).length ≤ _
    rw [List.length_map]
    exact h1
  refine Ev_bind (to_Table x0 w0) ?_
  have hto := to_Table x0 w0
  generalize conv_Table x0 = t at hln hlen hto ⊢
  refine Ev_bind (spec_purge t.f0 t.f1 a1 t.f2 (by omega)) (Ev_bind hto ?_)
  have him : impl_TablePurge.f t.f0 t.f1 t.f2 a1 = some (t.f0, t.f1, if tableB t.f0 t.f1 t.f2 = true then t.f2.filter (fun x => !goneP a1 x) else t.f2) := by
    unfold impl_TablePurge.f
    rw [if_pos (by omega)]
  rw [him]
  simp only [Option.bind_some]
  obtain ⟨q, hq⟩ : ∃ q, (if tableB t.f0 t.f1 t.f2 = true then t.f2.filter (fun x => !goneP a1 x) else t.f2) = q := ⟨_, rfl⟩
  have hql : lens_RowS q := by
    rw [← hq]
    split
    · exact lens_filter _ _ hln.2.2
    · exact hln.2.2
  have hqn : q.length ≤ 1048576 := by
    rw [← hq]
    split
    · exact Nat.le_trans (List.length_filter_le _ _) hlen
    · exact hlen
  rw [hq] at him ⊢
  have heq := eq_Table ⟨t.f0, t.f1, q⟩ ⟨trivial, trivial, hql⟩
  refine Ev_bind heq ?_
  simp only [if_true]
  refine Ev_bind hto (Ev_bind (eq_Table t hln) ?_)
  simp only [if_true]
  refine Ev_bind (mark_table t.f0 t.f1 t.f2 (by omega)) ?_
  refine Ev.congr (fun k => if_neg (show ¬ (1 + 7 * (t.f2.length : Int)) < 0 by omega)) ?_
  refine Ev_bind heq ?_
  refine Ev.step (fun k => by simp only [laws_FnExactTablePurge.j0, Bool.not_true]; rw [if_neg Bool.false_ne_true]) ?_
  refine Ev_bind (mark_table t.f0 t.f1 q (by omega)) ?_
  refine Ev_bind (held_table t.f0 t.f1 q.length (by omega)) ?_
  refine Ev.congr (fun k => if_neg (show ¬ (1 + 7 * (q.length : Int)) < 0 by omega)) (Ev.congr (fun k => if_pos rfl) ?_)
  refine Ev_bind hto (Ev_bind (Ev_some fun _ => him) ?_)
  refine Ev_bind heq ?_
  simp only [if_true]
  refine Ev_bind (held_table t.f0 t.f1 q.length (by omega)) ?_
  exact Ev.congr (fun k => if_neg (show ¬ (1 + 7 * (q.length : Int)) < 0 by omega)) (Ev.congr (fun k => if_pos rfl) (Ev.now _))
end Go.Proofs.YtpocoeghobdfiaaDoor.Pure
