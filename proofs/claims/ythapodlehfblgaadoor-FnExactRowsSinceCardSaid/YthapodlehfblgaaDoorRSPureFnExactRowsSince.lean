/-
  The program's RowsSince returns what the reference's returns, in memory of its own, for every table and number: the plain law over the printed functions. No condition.
-/
import Derived.Test.YthapodlehfblgaaDoorRSP6
import Derived.Test.YthapodlehfblgaaDoorRSP2
import Derived.Test.YthapodlehfblgaaDoorRSSinceV
import Derived.Test.YthapodlehfblgaaDoorRSMarkRow
import Derived.Test.YthapodlehfblgaaDoorRSHTableOut
namespace Go.Proofs.YthapodlehfblgaaDoor.Pure
set_option linter.unusedVariables false
set_option linter.unusedSimpArgs false
open Go.RowKit Go.Proofs.YthapodlehfblgaaDoor.PG Go.Proofs.YthapodlehfblgaaDoor Go.Proofs.YthapodlehfblgaaDoorW.PrintWords Go.Proofs.YthapodlehfblgaaDoorW.PrintLast Go.Proofs.YthapodlehfblgaaDoor.Gn

theorem rd_row (l : List S55) {i : Nat} (h : i < l.length) : rd_T55 l (i : Int) = l[i]'h := by
  unfold rd_T55
  rw [Int.toNat_natCast, getD_at h]
theorem insU_at (x : S55) : ∀ (l : List S55) (j : Nat), j ≤ l.length → (∀ q (hq : q < l.length), q < j → (l[q]'hq).f5 < x.f5) → (∀ h : j < l.length, ¬ (l[j]'h).f5 < x.f5) → l.take j ++ [x] ++ l.drop j = insU x l
  | [], j, hj, _, _ => by
    obtain rfl : j = 0 := Nat.le_zero.1 hj
    rfl
  | y :: r, 0, _, _, hge => by
    have h : ¬ y.f5 < x.f5 := hge (Nat.zero_lt_succ _)
    unfold insU
    rw [if_neg h]
    rfl
  | y :: r, j + 1, hj, hlt, hge => by
    have h : y.f5 < x.f5 := hlt 0 (Nat.zero_lt_succ _) (Nat.zero_lt_succ _)
    unfold insU
    rw [if_pos h, ← insU_at x r j (Nat.le_of_succ_le_succ hj) (fun q hq hqj => hlt (q + 1) (Nat.succ_lt_succ hq) (Nat.succ_lt_succ hqj)) (fun h => hge (Nat.succ_lt_succ h))]
    rfl
theorem ins_lim {l : List S55} {i : Nat} (hl : l.length ≤ 1048576) (hi : i ≤ l.length) (t : S55) : (([] : List S55).length + (l.take i).length < 1759218604441) ∧ ((([] : List S55) ++ l.take i).length < 1759218604441) ∧ ((([] : List S55) ++ l.take i ++ [t]).length + (l.drop i).length < 1759218604441) := by
  simp only [List.length_append, List.length_take, List.length_drop, List.length_singleton, List.length_nil]
  omega
theorem since_ins (a b usn : Int) (l : List S55) (hl : l.length ≤ 1048576) (i : Nat) (hi : i < l.length) (acc : List S55) (ha : acc.length ≤ 1048576) (v : TO2) (hv : Ev (fun k => spec_RowsSince.l0 k usn ((i + 1 : Nat) : Int) a b l 0 0 0 (⟨#[]⟩ : ByteArray) (⟨#[]⟩ : ByteArray) (⟨#[]⟩ : ByteArray) false 0 false (insU (l[i]'hi) acc) 0) v) :
    Ev (fun k => spec_RowsSince.l1 k usn (i : Int) 0 a b l 0 0 0 (⟨#[]⟩ : ByteArray) (⟨#[]⟩ : ByteArray) (⟨#[]⟩ : ByteArray) false 0 false acc 0) v := by
  have i1 : (i : Int) < (l.length : Int) := by omega
  have i2 : 0 ≤ (i : Int) := by omega
  have ei := rd_row l hi
  have e1 : wrap64 ((i : Int) + 1) = ((i + 1 : Nat) : Int) := by rw [wsucc (by omega) (by omega)]; omega
  generalize l[i]'hi = x at ei hv
  have hx : (⟨x.f0, x.f1, x.f2, x.f3, x.f4, x.f5, x.f6⟩ : S55) = x := rfl
  have key : ∀ (m j : Nat), j + m = acc.length → (∀ q (hq : q < acc.length), q < j → (acc[q]'hq).f5 < x.f5) → Ev (fun k => spec_RowsSince.l1 k usn (i : Int) (j : Int) a b l 0 0 0 (⟨#[]⟩ : ByteArray) (⟨#[]⟩ : ByteArray) (⟨#[]⟩ : ByteArray) false 0 false acc 0) v := by
    intro m
    induction m with
    | zero =>
      intro j hj hb
      obtain ⟨q1, q2, q3⟩ := ins_lim ha (show j ≤ acc.length by omega) x
      rw [← insU_at x acc j (by omega) hb (fun h => by omega)] at hv
      refine Ev.step (fun k => ?_) hv
      simp only [spec_RowsSince.l1, Option.bind_some, Int.toNat_natCast]
      rw [if_neg (by omega), if_pos (by omega), if_pos (by omega), if_pos q1, if_pos i2, if_pos i1, if_pos q2, ei, hx, if_pos q3, e1]
      simp
    | succ m ih =>
      intro j hj hb
      have hlt : j < acc.length := by omega
      have h1 : (j : Int) < (acc.length : Int) := by omega
      have h2 : 0 ≤ (j : Int) := by omega
      have er := rd_row acc hlt
      have e0 : wrap64 ((j : Int) + 1) = ((j + 1 : Nat) : Int) := by rw [wsucc (by omega) (by omega)]; omega
      by_cases hc : (acc[j]'hlt).f5 < x.f5
      · refine Ev.step (fun k => ?_) (ih (j + 1) (by omega) (fun q hq hqj => ?_))
        · simp only [spec_RowsSince.l1]
          rw [if_pos h1, if_pos h2, if_pos i2, if_pos i1, er, ei, if_pos hc, e0]
        · rcases Nat.lt_succ_iff_lt_or_eq.1 hqj with h | h
          · exact hb q hq h
          · subst h
            exact hc
      · obtain ⟨q1, q2, q3⟩ := ins_lim ha (show j ≤ acc.length by omega) x
        rw [← insU_at x acc j (by omega) hb (fun h => hc)] at hv
        refine Ev.step (fun k => ?_) hv
        simp only [spec_RowsSince.l1, Option.bind_some, Int.toNat_natCast]
        rw [if_pos h1, if_pos h2, if_pos i2, if_pos i1, er, ei, if_neg hc, if_pos (by omega), if_pos q1, if_pos q2, hx, if_pos q3, e1]
        simp
  exact key acc.length 0 (by omega) (fun q hq h => absurd h (Nat.not_lt_zero _))
theorem since_loop (a b usn : Int) (l : List S55) (hl : l.length ≤ 1048576) : ∀ (m i : Nat) (acc : List S55), i + m = l.length → acc.length ≤ i →
    Ev (fun k => spec_RowsSince.l0 k usn (i : Int) a b l 0 0 0 (⟨#[]⟩ : ByteArray) (⟨#[]⟩ : ByteArray) (⟨#[]⟩ : ByteArray) false 0 false acc 0) (0, 0, [], 0, ⟨#[]⟩, ⟨#[]⟩, ⟨#[]⟩, false, 0, false, ((l.drop i).filter fun x => !oldP usn x).foldl (fun acc x => insU x acc) acc, 0) := by
  intro m
  induction m with
  | zero =>
    intro i acc hi ha
    rw [List.drop_eq_nil_of_le (by omega)]
    exact Ev_one fun k => by simp only [spec_RowsSince.l0]; rw [if_neg (by omega)]; rfl
  | succ m ih =>
    intro i acc hi ha
    have hlt : i < l.length := by omega
    have h1 : (i : Int) < (l.length : Int) := by omega
    have h2 : 0 ≤ (i : Int) := by omega
    have er := rd_row l hlt
    have e0 : wrap64 ((i : Int) + 1) = ((i + 1 : Nat) : Int) := by rw [wsucc (by omega) (by omega)]; omega
    rw [List.drop_eq_getElem_cons hlt, List.filter_cons]
    by_cases hc : (l[i]'hlt).f5 ≤ usn
    · rw [if_neg (by simp [oldP, hc])]
      refine Ev.step (fun k => ?_) (ih (i + 1) acc (by omega) (by omega))
      simp only [spec_RowsSince.l0]
      rw [if_pos h1, if_pos h2, er, if_pos hc, e0]
    · rw [if_pos (by simp [oldP, hc]), List.foldl_cons]
      have h := since_ins a b usn l hl i hlt acc (by omega) _ (ih (i + 1) (insU (l[i]'hlt) acc) (by omega) (by rw [insU_len]; omega))
      refine Ev.step (fun k => ?_) h
      simp only [spec_RowsSince.l0]
      rw [if_pos h1, if_pos h2, er, if_neg hc]
theorem spec_since (a b usn : Int) (l : List S55) (hl : l.length ≤ 1048576) : Ev (fun k => spec_RowsSince.f k a b l usn) (sinceV a b usn l) := by
  unfold spec_RowsSince.f
  refine Ev_bind (spec_table a b l) ?_
  unfold sinceV sinceL sinceC
  cases htb : tableB a b l with
  | false => exact Ev_some fun k => rfl
  | true =>
    simp only [if_true]
    by_cases hu : usn < 0
    · simp only [if_pos hu]
      exact Ev_some fun k => rfl
    · simp only [if_neg hu]
      have h := since_loop a b usn l hl l.length 0 [] (by omega) (by simp)
      rw [List.drop_zero] at h
      exact h
theorem since_len (a b usn : Int) (l : List S55) : (isortU (sinceL a b usn l)).length ≤ l.length := by
  rw [(isortU_perm _).length_eq]
  unfold sinceL
  split
  · split
    · exact Nat.zero_le _
    · exact List.length_filter_le _ _
  · exact Nat.zero_le _
theorem lens_any (l : List S55) (h : l.length ≤ 9223372036854775807) : lens_RowS l := ⟨h, fun _ _ => ⟨trivial, trivial, trivial, trivial, trivial, trivial, trivial⟩⟩
theorem mark_table (a b : Int) (l : List S55) (hl : l.length ≤ 100000000) : Ev (fun k => laws_markTable.f k a b l 1) (1 + 7 * l.length, mkL mk_Row 7 1 l.length) := by
  have h := mark_Row l 1 (by omega) (by omega) (by omega)
  refine Ev.congr (fun k => by unfold laws_markTable.f; rfl) (Ev_bind h (Ev.now _))
theorem held_table (a b : Int) (m : Nat) (hl : m ≤ 100000000) : Ev (fun k => laws_heldTable.f k a b (mkL mk_Row 7 1 m) 1) (1 + 7 * m) := by
  have h := held_Row m 1 (by omega) (by omega) (by omega)
  refine Ev.congr (fun k => by unfold laws_heldTable.f; rfl) (Ev_bind h ?_)
  exact Ev.congr (fun k => if_neg (show ¬ (1 + 7 * (m : Int)) < 0 by omega)) (Ev.now _)
theorem mark_since (m0 : List S55) (c : Int) (hl : m0.length ≤ 100000000) : Ev (fun k => laws_markTableOut.f k 0 0 [] 0 (⟨#[]⟩ : ByteArray) (⟨#[]⟩ : ByteArray) (⟨#[]⟩ : ByteArray) false 0 false m0 c 1) (1 + 7 * m0.length, [], mkL mk_Row 7 1 m0.length) := by
  unfold laws_markTableOut.f
  have h1 := mark_table 0 0 ([] : List S55) (by simp)
  have h2 := mark_Row m0 1 (by omega) (by omega) (by omega)
  refine Ev_bind h1 ?_
  simp only [List.length_nil, Int.natCast_zero, Int.mul_zero, Int.add_zero]
  exact Ev_bind h2 (Ev.now _)
theorem held_since (m : Nat) (c : Int) (hl : m ≤ 100000000) : Ev (fun k => laws_heldTableOut.f k 0 0 [] 0 (⟨#[]⟩ : ByteArray) (⟨#[]⟩ : ByteArray) (⟨#[]⟩ : ByteArray) false 0 false (mkL mk_Row 7 1 m) c 1) (1 + 7 * m) := by
  unfold laws_heldTableOut.f
  have h1 := held_table 0 0 0 (by omega)
  have h2 := held_Row m 1 (by omega) (by omega) (by omega)
  refine Ev_bind h1 ?_
  simp only [Int.natCast_zero, Int.mul_zero, Int.add_zero]
  refine Ev.congr (fun k => if_neg (show ¬ (1 : Int) < 0 by omega)) ?_
  refine Ev_bind h2 ?_
  exact Ev.congr (fun k => if_neg (show ¬ (1 + 7 * (m : Int)) < 0 by omega)) (Ev.now _)
theorem FnExactRowsSince (x0 : PG.S49) (a1 : Int) (w0 : Ft.fit49 x0) (w1 : (Lit.int .i64 a1).wf = true) : ∃ k, laws_FnExactRowsSince.f k x0.f0 x0.f1 x0.f2 a1 = some true := by
  refine Ev.rounds ?_
  obtain ⟨r0, hr0, hle0, hs0⟩ := sz_Table x0 w0 1048576 (by omega) (by omega)
  unfold laws_FnExactRowsSince.f
  refine Ev_bind hr0 ?_
  by_cases hneg0 : r0 < 0
  · simp only [if_pos hneg0]
    exact Ev.now _
  simp only [if_neg hneg0]
  have hsm := hs0 (by omega)
  have hln := lens_conv_Table x0 hsm
  have hlen : (conv_Table x0).f2.length ≤ 1048576 := by
    have h1 := hsm.2.2.1
    show (x0.f2.map conv_Row).length ≤ _
    rw [List.length_map]
    exact h1
  refine Ev_bind (to_Table x0 w0) ?_
  have hto := to_Table x0 w0
  generalize conv_Table x0 = t at hln hlen hto ⊢
  refine Ev_bind (spec_since t.f0 t.f1 a1 t.f2 hlen) (Ev_bind hto ?_)
  have him : impl_RowsSince.f t.f0 t.f1 t.f2 a1 = some (sinceV t.f0 t.f1 a1 t.f2) := by
    unfold impl_RowsSince.f
    rw [if_pos (by omega)]
  refine Ev_bind (Ev_some fun _ => him) ?_
  have hqn := Nat.le_trans (since_len t.f0 t.f1 a1 t.f2) hlen
  unfold sinceV at him ⊢
  generalize isortU (sinceL t.f0 t.f1 a1 t.f2) = q at hqn him ⊢
  generalize sinceC t.f0 t.f1 a1 t.f2 = c at him ⊢
  have heq := eq_TableOut ⟨⟨0, 0, []⟩, ⟨0, ⟨#[]⟩, ⟨#[]⟩, ⟨#[]⟩, false, 0, false⟩, q, c⟩ ⟨⟨trivial, trivial, lens_any [] (by simp)⟩, ⟨trivial, trivial, trivial, trivial, trivial, trivial, trivial⟩, lens_any q (by omega), trivial⟩
  refine Ev_bind heq ?_
  simp only [if_true]
  refine Ev_bind hto (Ev_bind (eq_Table t hln) ?_)
  simp only [if_true]
  refine Ev_bind (mark_table t.f0 t.f1 t.f2 (by omega)) ?_
  refine Ev.congr (fun k => if_neg (show ¬ (1 + 7 * (t.f2.length : Int)) < 0 by omega)) ?_
  refine Ev_bind heq ?_
  refine Ev.step (fun k => by simp only [laws_FnExactRowsSince.j0, Bool.not_true]; rw [if_neg Bool.false_ne_true]) ?_
  refine Ev_bind (mark_since q c (by omega)) ?_
  refine Ev_bind (held_since q.length c (by omega)) ?_
  refine Ev.congr (fun k => if_neg (show ¬ (1 + 7 * (q.length : Int)) < 0 by omega)) (Ev.congr (fun k => if_pos rfl) ?_)
  refine Ev_bind hto (Ev_bind (Ev_some fun _ => him) ?_)
  refine Ev_bind heq ?_
  simp only [if_true]
  refine Ev_bind (held_since q.length c (by omega)) ?_
  exact Ev.congr (fun k => if_neg (show ¬ (1 + 7 * (q.length : Int)) < 0 by omega)) (Ev.congr (fun k => if_pos rfl) (Ev.now _))
end Go.Proofs.YthapodlehfblgaaDoor.Pure
