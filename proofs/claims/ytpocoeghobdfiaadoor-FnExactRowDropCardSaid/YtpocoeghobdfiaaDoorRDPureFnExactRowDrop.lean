/-
  The program's RowDrop returns what the reference's returns, in memory of its own, for every table and id: the plain law over the printed functions. No condition.
-/
import Derived.Test.YtpocoeghobdfiaaDoorRDP5
import Derived.Test.YtpocoeghobdfiaaDoorRDP2
import Derived.Test.YtpocoeghobdfiaaDoorRDRowDropB
import Derived.Test.YtpocoeghobdfiaaDoorRDMarkRow
import Derived.Test.YtpocoeghobdfiaaDoorRDHTableOut
namespace Go.Proofs.YtpocoeghobdfiaaDoor.Pure
set_option linter.unusedVariables false
set_option linter.unusedSimpArgs false
open Go.RowKit Go.Proofs.YtpocoeghobdfiaaDoor.PG Go.Proofs.YtpocoeghobdfiaaDoor Go.Proofs.YtpocoeghobdfiaaDoorW.PrintWords Go.Proofs.YtpocoeghobdfiaaDoorW.PrintLast Go.Proofs.YtpocoeghobdfiaaDoor.Gn

theorem rd_row (l : List S34) {i : Nat} (h : i < l.length) : rd_T34 l (i : Int) = l[i]'h := by
  unfold rd_T34
  rw [Int.toNat_natCast, getD_at h]
def idP (id : Int) (x : S34) : Bool := x.f0 == id && !x.f6
theorem spec_id (a b id : Int) (l : List S34) (hl : l.length ≤ 1099511627776) : Ev (fun k => spec_l12Id.f k a b l id) (idx (idP id) l) := by
  unfold spec_l12Id.f
  have key : ∀ (m i : Nat), i + m = l.length → (∀ j (hj : j < l.length), j < i → idP id (l[j]'hj) = false) → Ev (fun k => spec_l12Id.l0 k id (i : Int) a b l) (idx (idP id) l) := by
    intro m
    induction m with
    | zero =>
      intro i hi hb
      rw [idx_none (fun j hj _ => hb j hj (by omega))]
      exact Ev_one fun k => by simp only [spec_l12Id.l0]; rw [if_neg (by omega)]
    | succ m ih =>
      intro i hi hb
      have hlt : i < l.length := by omega
      have h1 : (i : Int) < (l.length : Int) := by omega
      have h2 : 0 ≤ (i : Int) := by omega
      have ih1 := ih (i + 1) (by omega)
      have er := rd_row l hlt
      have e0 : wrap64 ((i : Int) + 1) = ((i + 1 : Nat) : Int) := mark_succ hlt hl
      have hs : ∀ k, spec_l12Id.l0 (k + 1) id (i : Int) a b l = if idP id (l[i]'hlt) = true then some (i : Int) else spec_l12Id.l0 k id ((i + 1 : Nat) : Int) a b l := fun k => by
        simp only [spec_l12Id.l0, if_pos h1, if_pos h2, er, e0, idP]
        generalize l[i]'hlt = x
        obtain ⟨q0, q1, q2, q3, q4, q5, q6⟩ := x
        by_cases hq : q0 = id
        · cases q6 <;> simp [hq]
        · simp [hq]
      refine Ev.step hs ?_
      cases hp : idP id (l[i]'hlt)
      · simp only [Bool.false_eq_true, if_false]
        refine ih1 (fun j hj hji => ?_)
        rcases Nat.lt_succ_iff_lt_or_eq.1 hji with h | rfl
        · exact hb j hj h
        · exact hp
      · simp only [if_true]
        rw [idx_hit hlt hp hb]
        exact Ev.now _
  exact key l.length 0 (by omega) (fun j hj h => absurd h (Nat.not_lt_zero _))
theorem ids_rise {a b : Int} {l : List S34} (h : tableB a b l = true) : ∀ (d i : Nat) (hj : i + d + 1 < l.length), (l[i]'(by omega)).f0 < (l[i + d + 1]'hj).f0 := by
  unfold tableB at h
  simp only [Bool.and_eq_true, List.all_eq_true, List.mem_range] at h
  have hst : ∀ i (hi : i + 1 < l.length), (l[i]'(by omega)).f0 < (l[i + 1]'hi).f0 := by
    intro i hi
    have h1 := h.2.2.2 (i + 1) hi
    unfold atB at h1
    simp only [Bool.and_eq_true, Bool.or_eq_true, decide_eq_true_eq] at h1
    rcases h1.1.2 with h2 | h2
    · omega
    · rw [show (((i + 1 : Nat) : Int) - 1) = (i : Int) by omega, rd_row l (show i < l.length by omega), rd_row l hi] at h2
      exact h2
  intro d
  induction d with
  | zero => intro i hj; exact hst i hj
  | succ d ih =>
    intro i hj
    have h1 := ih i (by omega)
    have h2 := hst (i + d + 1) (by omega)
    exact Int.lt_trans h1 h2
theorem ids_one {a b : Int} {l : List S34} (h : tableB a b l = true) {i j : Nat} (hi : i < l.length) (hj : j < l.length) (he : (l[i]'hi).f0 = (l[j]'hj).f0) : i = j := by
  rcases Nat.lt_trichotomy i j with h1 | h1 | h1
  · have := ids_rise h (j - i - 1) i (by omega)
    simp only [show i + (j - i - 1) + 1 = j by omega] at this
    omega
  · exact h1
  · have := ids_rise h (i - j - 1) j (by omega)
    simp only [show j + (i - j - 1) + 1 = i by omega] at this
    omega
abbrev TO := Int × Int × List S34 × Int × ByteArray × ByteArray × ByteArray × Bool × Int × Bool × List S34 × Int
def tupO (r : Int × Int × List S34 × S34 × Int) : TO := (r.1, r.2.1, r.2.2.1, r.2.2.2.1.f0, r.2.2.2.1.f1, r.2.2.2.1.f2, r.2.2.2.1.f3, r.2.2.2.1.f4, r.2.2.2.1.f5, r.2.2.2.1.f6, [], r.2.2.2.2)
theorem spec_drop (a b id : Int) (l : List S34) (hl : l.length ≤ 1099511627776) : Ev (fun k => spec_RowDrop.f k a b l id) (tupO (rowDropV a b id l)) := by
  unfold spec_RowDrop.f rowDropV
  refine Ev_bind (spec_table a b l) ?_
  cases htb : tableB a b l with
  | false => exact Ev_some fun k => rfl
  | true =>
    simp only [if_true]
    refine Ev_bind (spec_id a b id l hl) ?_
    have hub : 0 ≤ b ∧ b ≤ 1000000 := by
      have h := htb
      unfold tableB isB at h
      simp only [Bool.and_eq_true, decide_eq_true_eq] at h
      exact ⟨h.2.1.1, h.2.1.2⟩
    rcases idx_cases (fun x : S34 => x.f0 == id) l with ⟨hi, hno⟩ | ⟨i, hi, hii, hp, hb⟩
    · have hq : idx (idP id) l = -1 := idx_none (fun j hj _ => by unfold idP; rw [hno _ (List.getElem_mem hj)]; rfl)
      have hd : dropI id b l = (zeroR, 6, b, l) := by
        unfold dropI
        rw [hi, if_pos (by omega)]
      have hv : outI a (dropI id b l) = (0, 0, [], zeroR, 6) := by
        rw [hd]
        rfl
      rw [hv, hq]
      exact Ev_some fun k => rfl
    · have hid : (l[i]'hi).f0 = id := by simpa using hp
      have h1 : ¬ ((i : Int) < 0) := by omega
      have h2 : 0 ≤ (i : Int) := by omega
      have h3 : (i : Int) < (l.length : Int) := by omega
      cases h6 : (l[i]'hi).f6 with
      | true =>
        have hq : idx (idP id) l = -1 := idx_none (fun j hj _ => by
          unfold idP
          by_cases hj2 : (l[j]'hj).f0 = id
          · have := ids_one htb hi hj (hid.trans hj2.symm)
            subst this
            rw [h6]
            simp
          · simp [hj2])
        have hd : dropI id b l = (zeroR, 6, b, l) := by
          unfold dropI
          rw [hii, rd_row l hi, h6, if_neg h1, if_pos rfl]
        have hv : outI a (dropI id b l) = (0, 0, [], zeroR, 6) := by
          rw [hd]
          rfl
        rw [hv, hq]
        exact Ev_some fun k => rfl
      | false =>
        have hq : idx (idP id) l = (i : Int) := idx_hit hi (by unfold idP; rw [hid, h6]; simp) (fun j hj hji => by unfold idP; rw [hb j hj hji]; rfl)
        have hw : wrap64 (b + 1) = b + 1 := w_id (by omega) (by omega)
        have hc : spec_l12Copy.f a b l = some (a, b, l) := by
          unfold spec_l12Copy.f
          simp only [Option.bind_some, List.length_nil, List.nil_append]
          rw [if_pos (by omega)]
        rw [hq]
        refine Ev.congr (fun k => by rw [if_neg h1, if_pos h2, if_pos h3, rd_row l hi]) ?_
        by_cases hb2 : b = 1000000
        · have hd : dropI id b l = (zeroR, 9, b, l) := by
            unfold dropI
            rw [hii, rd_row l hi, h6, if_neg h1, if_neg (by simp), if_pos hb2]
          have hv : outI a (dropI id b l) = (0, 0, [], zeroR, 9) := by
            rw [hd]
            rfl
          rw [hv]
          refine Ev_some fun k => ?_
          unfold spec_l12Put.f
          rw [if_pos (by omega)]
          rfl
        · have hv : outI a (dropI id b l) = (a, b + 1, l.set i (usnR (goneR (l[i]'hi)) (b + 1)), usnR (goneR (l[i]'hi)) (b + 1), 0) := by
            have hd : dropI id b l = (usnR (goneR (l[i]'hi)) (b + 1), 0, b + 1, l.set i (usnR (goneR (l[i]'hi)) (b + 1))) := by
              unfold dropI
              rw [hii, rd_row l hi, h6, if_neg h1, if_neg (by simp), if_neg hb2, Int.toNat_natCast]
            rw [hd]
            rfl
          rw [hv]
          refine Ev_some fun k => ?_
          have hr : usnR (goneR (l[i]'hi)) (b + 1) = ⟨id, (l[i]'hi).f1, ⟨#[]⟩, ⟨#[]⟩, false, b + 1, true⟩ := by
            unfold usnR goneR
            rw [hid]
          unfold spec_l12Put.f
          rw [if_neg (by omega), hc, hr]
          simp only [Option.bind_some, hw, if_pos h2, if_pos h3, Int.toNat_natCast]
          rfl
theorem lens_set {l : List S34} {n : Nat} (h : l.length ≤ n) (i : Nat) (y : S34) : (l.set i y).length ≤ n := by rw [List.length_set]; exact h
theorem dropI_len (b id : Int) (l : List S34) : (dropI id b l).2.2.2.length = l.length := by
  unfold dropI
  split
  · rfl
  · split
    · rfl
    · split
      · rfl
      · simp only
        rw [List.length_set]
theorem drop_len (a b id : Int) (l : List S34) : (rowDropV a b id l).2.2.1.length ≤ l.length := by
  unfold rowDropV
  split
  · have h := dropI_len b id l
    generalize dropI id b l = r at h ⊢
    unfold outI
    split
    · exact Nat.le_of_eq h
    · exact Nat.zero_le _
  · exact Nat.zero_le _
theorem lens_any (l : List S34) (h : l.length ≤ 9223372036854775807) : lens_RowS l := ⟨h, fun _ _ => ⟨trivial, trivial, trivial, trivial, trivial, trivial, trivial⟩⟩
theorem mark_table (a b : Int) (l : List S34) (hl : l.length ≤ 100000000) : Ev (fun k => laws_markTable.f k a b l 1) (1 + 7 * l.length, mkL mk_Row 7 1 l.length) := by
  have h := mark_Row l 1 (by omega) (by omega) (by omega)
  refine Ev.congr (fun k => by unfold laws_markTable.f; rfl) (Ev_bind h (Ev.now _))
theorem held_table (a b : Int) (m : Nat) (hl : m ≤ 100000000) : Ev (fun k => laws_heldTable.f k a b (mkL mk_Row 7 1 m) 1) (1 + 7 * m) := by
  have h := held_Row m 1 (by omega) (by omega) (by omega)
  refine Ev.congr (fun k => by unfold laws_heldTable.f; rfl) (Ev_bind h ?_)
  exact Ev.congr (fun k => if_neg (show ¬ (1 + 7 * (m : Int)) < 0 by omega)) (Ev.now _)
theorem mark_out (a b : Int) (l : List S34) (x : S34) (c : Int) (hl : l.length ≤ 100000000) : Ev (fun k => laws_markTableOut.f k a b l x.f0 x.f1 x.f2 x.f3 x.f4 x.f5 x.f6 [] c 1) (1 + 7 * l.length, mkL mk_Row 7 1 l.length, []) := by
  unfold laws_markTableOut.f
  refine Ev_bind (mark_table a b l hl) ?_
  refine Ev_bind (mark_Row [] (1 + 7 * l.length) (by simp) (by omega) (by simp; omega)) ?_
  refine Ev_some fun k => ?_
  simp [mkL]
theorem held_out (a b : Int) (m : Nat) (x : S34) (c : Int) (hl : m ≤ 100000000) : Ev (fun k => laws_heldTableOut.f k a b (mkL mk_Row 7 1 m) x.f0 x.f1 x.f2 x.f3 x.f4 x.f5 x.f6 [] c 1) (1 + 7 * m) := by
  unfold laws_heldTableOut.f
  refine Ev_bind (held_table a b m hl) ?_
  refine Ev.congr (fun k => if_neg (show ¬ (1 + 7 * (m : Int)) < 0 by omega)) ?_
  refine Ev_bind (held_Row 0 (1 + 7 * m) (by simp) (by omega) (by simp; omega)) ?_
  refine Ev_some fun k => ?_
  rw [if_neg (by simp; omega)]
  simp
theorem FnExactRowDrop (x0 : PG.S31) (a1 : Int) (w0 : Ft.fit31 x0) (w1 : (Lit.int .i64 a1).wf = true) : ∃ k, laws_FnExactRowDrop.f k x0.f0 x0.f1 x0.f2 a1 = some true := by
  refine Ev.rounds ?_
  obtain ⟨r0, hr0, hle0, hs0⟩ := sz_Table x0 w0 1048576 (by omega) (by omega)
  unfold laws_FnExactRowDrop.f
  refine Ev_bind hr0 ?_
  by_cases hneg0 : r0 < 0
  · simp only [if_pos hneg0]
    exact Ev.now _
  simp only [if_neg hneg0]
  have hsm := hs0 (by omega)
  have hln := lens_conv_Table x0 hsm
  have hlen : (conv_Table x0).f2.length ≤ 1048576 := by
    have h1 := hsm.2.2.1
    show (x0.f2.map conv_Row).length ≤ _
    rw [List.length_map]
    exact h1
  refine Ev_bind (to_Table x0 w0) ?_
  have hto := to_Table x0 w0
  generalize conv_Table x0 = t at hln hlen hto ⊢
  refine Ev_bind (spec_drop t.f0 t.f1 a1 t.f2 (by omega)) (Ev_bind hto ?_)
  have him : impl_RowDrop.f t.f0 t.f1 t.f2 a1 = some (tupO (rowDropV t.f0 t.f1 a1 t.f2)) := by
    unfold impl_RowDrop.f
    rw [if_pos (by omega)]
    rfl
  refine Ev_bind (Ev_some fun _ => him) ?_
  have hql := drop_len t.f0 t.f1 a1 t.f2
  generalize rowDropV t.f0 t.f1 a1 t.f2 = r at hql him ⊢
  obtain ⟨a, b, q, x, c⟩ := r
  have hqn : q.length ≤ 1048576 := Nat.le_trans hql hlen
  have heq := eq_TableOut ⟨⟨a, b, q⟩, x, [], c⟩ ⟨⟨trivial, trivial, lens_any q (by omega)⟩, ⟨trivial, trivial, trivial, trivial, trivial, trivial, trivial⟩, lens_any [] (by simp), trivial⟩
  refine Ev_bind heq ?_
  simp only [if_true]
  refine Ev_bind hto (Ev_bind (eq_Table t hln) ?_)
  simp only [if_true]
  refine Ev_bind (mark_table t.f0 t.f1 t.f2 (by omega)) ?_
  refine Ev.congr (fun k => if_neg (show ¬ (1 + 7 * (t.f2.length : Int)) < 0 by omega)) ?_
  refine Ev_bind heq ?_
  refine Ev.step (fun k => by simp only [laws_FnExactRowDrop.j0, Bool.not_true]; rw [if_neg Bool.false_ne_true]) ?_
  refine Ev_bind (mark_out a b q x c (by omega)) ?_
  refine Ev_bind (held_out a b q.length x c (by omega)) ?_
  refine Ev.congr (fun k => if_neg (show ¬ (1 + 7 * (q.length : Int)) < 0 by omega)) (Ev.congr (fun k => if_pos rfl) ?_)
  refine Ev_bind hto (Ev_bind (Ev_some fun _ => him) ?_)
  refine Ev_bind heq ?_
  simp only [if_true]
  refine Ev_bind (held_out a b q.length x c (by omega)) ?_
  exact Ev.congr (fun k => if_neg (show ¬ (1 + 7 * (q.length : Int)) < 0 by omega)) (Ev.congr (fun k => if_pos rfl) (Ev.now _))
end Go.Proofs.YtpocoeghobdfiaaDoor.Pure
