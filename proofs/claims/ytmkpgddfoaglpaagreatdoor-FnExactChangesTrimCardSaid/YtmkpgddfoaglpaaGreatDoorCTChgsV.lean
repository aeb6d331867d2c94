/-
 ChangesRight of the program and of the reference come to chgsB; the reference's ChangesSince to sinceV. Conditions: the texts' and lengths' bounds.
-/
import Derived.Test.YtmkpgddfoaglpaaGreatDoorCTP6
import Derived.Test.YtmkpgddfoaglpaaGreatDoorCTP3
import Derived.Test.YtmkpgddfoaglpaaGreatDoorCTP1
import Derived.Test.YtmkpgddfoaglpaaGreatDoorCTSq
import Derived.Test.YtmkpgddfoaglpaaGreatDoorCTDnRead
import Derived.Test.YtmkpgddfoaglpaaGreatDoorCTDn
set_option linter.unusedVariables false
set_option linter.unusedSimpArgs false
namespace Go.Proofs.YtmkpgddfoaglpaaGreatDoor.PG
open Go Go.RowKit Go.Proofs.YtmkpgddfoaglpaaGreatDoorW.PrintWords Go.Proofs.YtmkpgddfoaglpaaGreatDoor.Gn Go.Proofs.YtmkpgddfoaglpaaGreatDoor.Sem
def kindB (k : Int) (d : List S151) (l : List S201) : Bool := if k = 2 then (decide (d.length = 0) && decide (l.length = 0)) else (decide (1 ≤ k) && decide (k ≤ 4)) && entryB d l
def chgOne (x : S145) : Bool := dnOk x.f2 && (decide (0 < (dnI x.f2).length) && kindB x.f1 x.f3.f0 x.f3.f1)
def chgAt (next : Int) (l : List S145) (i : Nat) : Bool := chgOne (rd_T145 l (i : Int)) && decide ((rd_T145 l (i : Int)).f0 = next - (l.length : Int) + (i : Int))
def chgsB (next : Int) (l : List S145) : Bool := (decide (1 ≤ next) && decide (next ≤ 1000000)) && (decide (l.length ≤ 40) && (decide ((l.length : Int) < next) && (List.range l.length).all (chgAt next l)))
def okChg (x : S145) : Prop := x.f2.size ≤ 8000000 ∧ okEnt x.f3.f0 x.f3.f1
theorem dnOk_size {t : ByteArray} (h : dnOk t = true) : t.size ≤ 612 := by
 unfold dnOk at h
 simp only [Bool.and_eq_true, decide_eq_true_eq] at h
 rw [← h.2]
 exact txtB_size h.1
theorem impl_kind (k : Int) (d : List S151) (l : List S201) : Ev (fun n => impl_isKind.f n k d l) (kindB k d l) := by
 unfold impl_isKind.f kindB
 by_cases h2 : k = 2
 · rw [if_pos h2]
   refine Ev_some fun n => ?_
   rw [if_pos h2]
   unfold impl_isZeroEntry.f
   by_cases hd : d.length = 0
   · rw [if_pos (by omega), decide_eq_true hd]
     have : ((l.length : Int) == 0) = decide (l.length = 0) := by rw [Bool.eq_iff_iff, beq_iff_eq, decide_eq_true_eq]; omega
     rw [this]
     rfl
   · rw [if_neg (by omega), decide_eq_false hd]
     rfl
 · rw [if_neg h2]
   refine Ev.congr (fun n => if_neg h2) ?_
   have hb : impl_between.f k 1 4 = some (decide (1 ≤ k) && decide (k ≤ 4)) := by
     unfold impl_between.f
     by_cases h : 1 ≤ k
     · by_cases h' : k ≤ 4
       · simp [h, h']
       · simp [h, h']
     · simp [h]
   refine Ev.congr (fun n => by rw [hb, Option.bind_some]) ?_
   cases (decide (1 ≤ k) && decide (k ≤ 4)) with
   | true =>
     refine Ev.congr (fun n => if_pos rfl) ?_
     rw [Bool.true_and]
     exact Ev_bind (impl_entry d l) (Ev.now _)
   | false => exact Ev_some fun n => if_neg (by decide)
theorem impl_change (x : S145) (h : x.f2.size ≤ 8000000) : Ev (fun n => impl_isChange.f n x.f0 x.f1 x.f2 x.f3.f0 x.f3.f1) (chgOne x) := by
 have hd : Ev (fun n => impl_isDnText.f n x.f2) (dnOk x.f2 && decide (0 < (dnI x.f2).length)) := by
   unfold impl_isDnText.f
   refine Ev_bind (impl_read x.f2 h) (Ev_some fun n => ?_)
   show (if (x.f2.size : Int) ≤ 8000 then (if dnOk x.f2 = true then some (decide (((dnI x.f2).length : Int) > 0)) else some false) else some false) = _
   cases hk : dnOk x.f2 with
   | true =>
     have := dnOk_size hk
     rw [if_pos (by omega), if_pos rfl]
     congr 1
     rw [Bool.true_and, Bool.eq_iff_iff, decide_eq_true_eq, decide_eq_true_eq]
     omega
   | false =>
     by_cases hs : (x.f2.size : Int) ≤ 8000
     · rw [if_pos hs, if_neg (by decide)]; rfl
     · rw [if_neg hs]; rfl
 unfold impl_isChange.f chgOne
 refine Ev_bind hd ?_
 cases h1 : dnOk x.f2 <;> cases h2 : decide (0 < (dnI x.f2).length)
 · exact Ev_some fun n => if_neg (by decide)
 · exact Ev_some fun n => if_neg (by decide)
 · exact Ev_some fun n => if_neg (by decide)
 · refine Ev.congr (fun n => if_pos rfl) (Ev_bind (impl_kind _ _ _) (Ev_some fun n => ?_))
   simp
theorem w_num {next : Int} {n : Nat} (h0 : 1 ≤ next) (h1 : next ≤ 1000000) (hn : n ≤ 40) (i : Nat) (hi : i ≤ 40) : wrap64 (wrap64 (next - (n : Int)) + (i : Int)) = next - (n : Int) + (i : Int) ∧ wrap64 (next - wrap64 ((n : Int) - (i : Int))) = next - (n : Int) + (i : Int) := by
 refine ⟨?_, ?_⟩
 · rw [w_id (i := next - (n : Int)) (by omega) (by omega)]
   exact w_id (by omega) (by omega)
 · rw [w_id (i := (n : Int) - (i : Int)) (by omega) (by omega), w_id (by omega) (by omega)]
   omega
theorem range_all_succ (p : Nat → Bool) (i m : Nat) : (List.range' i (m + 1)).all p = (p i && (List.range' (i + 1) m).all p) := by rw [List.range'_succ, List.all_cons]
theorem impl_chgs_l (next : Int) (l : List S145) (h0 : 1 ≤ next) (h1 : next ≤ 1000000) (hl : l.length ≤ 40) (hok : ∀ x, x ∈ l → okChg x) : ∀ (m i : Nat), i + m = l.length →
   Ev (fun k => impl_ChangesRight.l0 k (l.length : Int) l (l.length : Int) (i : Int) next l) ((List.range' i m).all (chgAt next l))
 | 0, i, h => Ev_one fun k => by
   rw [impl_ChangesRight.l0, if_neg (by omega)]
   rfl
 | m + 1, i, h => by
   have hlt : i < l.length := by omega
   have hrd : rd_T145 l (i : Int) = l[i] := getD_at hlt
   have hmem : okChg (rd_T145 l (i : Int)) := by rw [hrd]; exact hok _ (List.getElem_mem hlt)
   have hn := (w_num h0 h1 hl i (by omega)).1
   rw [range_all_succ]
   unfold chgAt
   have p1 : (i : Int) < (l.length : Int) := by omega
   have p2 : (0 : Int) ≤ (i : Int) := by omega
   have ih := impl_chgs_l next l h0 h1 hl hok m (i + 1) (by omega)
   have ew : wrap64 ((i : Int) + 1) = ((i + 1 : Nat) : Int) := wsucc (by omega) (by omega)
   refine Ev.step (fun k => by rw [impl_ChangesRight.l0, if_pos p1, if_pos p2, if_pos p1, hn, ew]) ?_
   generalize rd_T145 l (i : Int) = x at hmem ⊢
   clear hn ew
   by_cases hx : x.f0 = next - (l.length : Int) + (i : Int)
   · refine Ev.congr (fun k => if_pos hx) (Ev_bind (impl_change x hmem.1) ?_)
     rw [decide_eq_true hx, Bool.and_true]
     cases chgOne x with
     | true => exact Ev.congr (fun k => if_pos rfl) ih
     | false => exact Ev_some fun k => if_neg (by decide)
   · rw [decide_eq_false hx, Bool.and_false, Bool.false_and]
     exact Ev_some fun k => if_neg hx
theorem impl_chgs (next : Int) (l : List S145) (hok : ∀ x, x ∈ l → okChg x) : Ev (fun k => impl_ChangesRight.f k next l) (chgsB next l) := by
 unfold impl_ChangesRight.f chgsB
 have hsz : impl_size_Change.f l = some (l.length : Int) := rfl
 have hb : impl_between.f next 1 1000000 = some (decide (1 ≤ next) && decide (next ≤ 1000000)) := by
   unfold impl_between.f
   by_cases h : 1 ≤ next
   · by_cases h' : next ≤ 1000000
     · simp [h, h']
     · simp [h, h']
   · simp [h]
 refine Ev.congr (fun k => by rw [hsz, Option.bind_some, hb, Option.bind_some]) ?_
 have bad : ∀ n, Ev (fun k => impl_ChangesRight.j0 k n true next l) false := fun n => Ev_one fun k => by rw [impl_ChangesRight.j0, if_pos rfl]
 cases hc : (decide (1 ≤ next) && decide (next ≤ 1000000)) with
 | false => exact Ev.congr (fun k => if_neg (by decide)) (bad _)
 | true =>
   simp only [Bool.and_eq_true, decide_eq_true_eq] at hc
   refine Ev.congr (fun k => if_pos rfl) ?_
   rw [Bool.true_and]
   by_cases h40 : (l.length : Int) > 40
   · rw [decide_eq_false (show ¬ l.length ≤ 40 by omega), Bool.false_and]
     exact Ev.congr (fun k => if_pos h40) (bad _)
   · rw [decide_eq_true (show l.length ≤ 40 by omega), Bool.true_and]
     refine Ev.congr (fun k => if_neg h40) ?_
     by_cases hn : (l.length : Int) ≥ next
     · rw [decide_eq_true hn, decide_eq_false (show ¬ (l.length : Int) < next by omega), Bool.false_and]
       exact bad _
     · rw [decide_eq_false hn, decide_eq_true (show (l.length : Int) < next by omega), Bool.true_and, List.range_eq_range']
       refine Ev.step (fun k => by rw [impl_ChangesRight.j0, if_neg (by decide)]) ?_
       exact impl_chgs_l next l hc.1 hc.2 (by omega) hok l.length 0 (by omega)
theorem spec_right (k : Int) (dn : List S151) (hd : dnB dn = true) (d : List S151) (l : List S201) (hok : okEnt d l) : Ev (fun n => spec_l08Right.f n k dn d l) (decide (0 < dn.length) && kindB k d l) := by
 have bad : Ev (fun n => spec_l08Right.j0 n k true d l) false := Ev_one fun n => by rw [spec_l08Right.j0, if_pos rfl]
 have hb : spec_l02Is.f k 1 4 = some (decide (1 ≤ k) && decide (k ≤ 4)) := by
   unfold spec_l02Is.f
   by_cases h : 1 ≤ k
   · by_cases h' : k ≤ 4
     · simp [h, h']
     · simp [h, h']
   · simp [h]
 unfold spec_l08Right.f
 refine Ev.congr (fun n => by rw [hb, Option.bind_some]) ?_
 cases hc : (decide (1 ≤ k) && decide (k ≤ 4)) with
 | false =>
   have h2 : ¬ k = 2 := by rintro rfl; revert hc; decide
   refine Ev.congr (fun n => if_neg (by decide)) ?_
   unfold kindB
   rw [if_neg h2, hc, Bool.false_and, Bool.and_false]
   exact bad
 | true =>
   refine Ev.congr (fun n => if_pos rfl) ?_
   by_cases hz : (dn.length : Int) = 0
   · rw [decide_eq_false (by omega), Bool.false_and]
     exact Ev.congr (fun n => if_pos hz) bad
   · rw [decide_eq_true (by omega), Bool.true_and]
     refine Ev.congr (fun n => if_neg hz) ?_
     have hl6 := dn_le hd
     refine Ev_bind (spec_dn dn (by omega)) ?_
     rw [hd]
     refine Ev.step (fun n => by rw [spec_l08Right.j0, if_neg (by decide)]) ?_
     unfold kindB
     by_cases h2 : k = 2
     · rw [if_pos h2]
       refine Ev.congr (fun n => if_pos h2) (Ev_some fun n => ?_)
       unfold spec_l08None.f
       by_cases hd0 : d.length = 0
       · rw [if_pos (by omega), decide_eq_true hd0, Option.bind_some]
         have : ((l.length : Int) == 0) = decide (l.length = 0) := by rw [Bool.eq_iff_iff, beq_iff_eq, decide_eq_true_eq]; omega
         rw [this]
         rfl
       · rw [if_neg (by omega), decide_eq_false hd0]
         rfl
     · rw [if_neg h2, hc, Bool.true_and]
       refine Ev.congr (fun n => if_neg h2) ?_
       have h1 := hok.1
       have h3 := hok.2.1
       exact Ev_bind (spec_entry d l (by omega) (by omega) (fun x hx => by have := hok.2.2 x hx; omega)) (Ev.now _)
theorem spec_one (x : S145) (h : okChg x) {β : Type} (F : Nat → β → Option Bool) (G : Nat → Option Bool) (R : Bool) (hG : chgOne x = true → Ev G R) (hR : chgOne x = false → R = false) :
   Ev (fun k => (spec_l02Read.f k x.f2).bind fun b => if b.2 = true then ((spec_l08Right.f k x.f1 b.1 x.f3.f0 x.f3.f1).bind fun t => if t = true then G k else some false) else some false) R := by
 refine Ev_bind (spec_read x.f2 h.1) ?_
 show Ev (fun k => if dnOk x.f2 = true then ((spec_l08Right.f k x.f1 (dnS x.f2) x.f3.f0 x.f3.f1).bind fun t => if t = true then G k else some false) else some false) R
 unfold chgOne at hG hR
 cases hk : dnOk x.f2 with
 | false =>
   rw [hk] at hR
   rw [hR rfl]
   exact Ev_some fun k => if_neg (by decide)
 | true =>
   have hd : dnB (dnI x.f2) = true := by
     have := hk
     unfold dnOk at this
     simp only [Bool.and_eq_true] at this
     exact this.1
   rw [hk, Bool.true_and] at hG hR
   refine Ev.congr (fun k => if_pos rfl) ?_
   rw [← (dn_same x.f2).2 hk]
   refine Ev_bind (spec_right x.f1 (dnI x.f2) hd x.f3.f0 x.f3.f1 h.2) ?_
   cases hq : (decide (0 < (dnI x.f2).length) && kindB x.f1 x.f3.f0 x.f3.f1) with
   | true => exact Ev.congr (fun k => if_pos rfl) (hG hq)
   | false =>
     rw [hR hq]
     exact Ev_some fun k => if_neg (by decide)
theorem spec_chgs_l (next : Int) (l : List S145) (h0 : 1 ≤ next) (h1 : next ≤ 1000000) (hl : l.length ≤ 40) (hlt : (l.length : Int) < next) (hok : ∀ x, x ∈ l → okChg x) : ∀ (m i : Nat), i + m = l.length →
   Ev (fun k => spec_ChangesRight.l0 k (i : Int) next l) ((List.range' i m).all (chgAt next l))
 | 0, i, h => Ev_one fun k => by
   rw [spec_ChangesRight.l0, if_neg (by omega)]
   rfl
 | m + 1, i, h => by
   have hlt' : i < l.length := by omega
   have hrd : rd_T145 l (i : Int) = l[i] := getD_at hlt'
   have hmem : okChg (rd_T145 l (i : Int)) := by rw [hrd]; exact hok _ (List.getElem_mem hlt')
   have hn := (w_num h0 h1 hl i (by omega)).2
   rw [range_all_succ]
   unfold chgAt
   have p1 : (i : Int) < (l.length : Int) := by omega
   have p2 : (0 : Int) ≤ (i : Int) := by omega
   have p3 : (1 : Int) ≤ next - (l.length : Int) + (i : Int) := by omega
   have ih := spec_chgs_l next l h0 h1 hl hlt hok m (i + 1) (by omega)
   have ew : wrap64 ((i : Int) + 1) = ((i + 1 : Nat) : Int) := wsucc (by omega) (by omega)
   refine Ev.step (fun k => by rw [spec_ChangesRight.l0, if_pos p1, if_pos p2, hn, ew]) ?_
   generalize rd_T145 l (i : Int) = x at hmem ⊢
   clear hn ew
   refine spec_one x hmem (β := Unit) (fun _ _ => none) _ _ (fun hq => ?_) (fun hq => by rw [hq, Bool.false_and, Bool.false_and])
   rw [hq, Bool.true_and]
   by_cases hx : x.f0 = next - (l.length : Int) + (i : Int)
   · rw [decide_eq_true hx, Bool.true_and]
     exact Ev.congr (fun k => if_neg (by omega)) (Ev.congr (fun k => if_pos hx) ih)
   · rw [decide_eq_false hx, Bool.false_and]
     by_cases hx1 : x.f0 < 1
     · exact Ev_some fun k => if_pos hx1
     · exact Ev_some fun k => by rw [if_neg hx1, if_neg hx]
theorem spec_chgs (next : Int) (l : List S145) (hok : ∀ x, x ∈ l → okChg x) : Ev (fun k => spec_ChangesRight.f k next l) (chgsB next l) := by
 unfold spec_ChangesRight.f chgsB
 have hb : spec_l02Is.f next 1 1000000 = some (decide (1 ≤ next) && decide (next ≤ 1000000)) := by
   unfold spec_l02Is.f
   by_cases h : 1 ≤ next
   · by_cases h' : next ≤ 1000000
     · simp [h, h']
     · simp [h, h']
   · simp [h]
 refine Ev.congr (fun k => by rw [hb, Option.bind_some]) ?_
 have bad : Ev (fun k => spec_ChangesRight.j0 k true next l) false := Ev_one fun k => by rw [spec_ChangesRight.j0, if_pos rfl]
 cases hc : (decide (1 ≤ next) && decide (next ≤ 1000000)) with
 | false => exact Ev.congr (fun k => if_neg (by decide)) bad
 | true =>
   simp only [Bool.and_eq_true, decide_eq_true_eq] at hc
   refine Ev.congr (fun k => if_pos rfl) ?_
   rw [Bool.true_and]
   by_cases h40 : (l.length : Int) > 40
   · rw [decide_eq_false (show ¬ l.length ≤ 40 by omega), Bool.false_and, decide_eq_true h40]
     exact bad
   · rw [decide_eq_true (show l.length ≤ 40 by omega), Bool.true_and, decide_eq_false h40]
     refine Ev.step (fun k => by rw [spec_ChangesRight.j0, if_neg (by decide)]) ?_
     by_cases hn : (l.length : Int) < next
     · rw [decide_eq_true hn, Bool.true_and, List.range_eq_range']
       exact spec_chgs_l next l hc.1 hc.2 (by omega) hn hok l.length 0 (by omega)
     · rw [decide_eq_false hn, Bool.false_and]
       cases l with
       | nil => simp at hn; omega
       | cons x r =>
         have hrd : rd_T145 (x :: r) (0 : Int) = x := rfl
         have hnum := (w_num hc.1 hc.2 (n := (x :: r).length) (by omega) 0 (by omega)).2
         have p1 : (0 : Int) < ((x :: r).length : Int) := by rw [List.length_cons]; omega
         rw [Int.natCast_zero] at hnum
         refine Ev.step (fun k => by rw [spec_ChangesRight.l0, if_pos p1, if_pos (Int.le_refl 0), hnum, hrd]) ?_
         refine spec_one x (hok x (by simp)) (β := Unit) (fun _ _ => none) _ _ (fun hq => ?_) (fun hq => rfl)
         by_cases hx1 : x.f0 < 1
         · exact Ev_some fun k => if_pos hx1
         · clear hnum
           exact Ev_some fun k => by rw [if_neg hx1, if_neg (by omega)]
def sinceV (next : Int) (l : List S145) (n : Int) : Int × List S145 × List S145 × Int :=
 if chgsB next l = true then (if n < 0 ∨ n ≥ next ∨ n < next - (l.length : Int) - 1 then (0, [], [], 8) else (0, [], l.drop ((l.length : Int) - (next - 1 - n)).toNat, 0)) else (0, [], [], 1)
theorem chgs_bounds {next : Int} {l : List S145} (h : chgsB next l = true) : 1 ≤ next ∧ next ≤ 1000000 ∧ l.length ≤ 40 := by
 unfold chgsB at h
 simp only [Bool.and_eq_true, decide_eq_true_eq] at h
 exact ⟨h.1.1, h.1.2, h.2.1⟩
theorem spec_list : ∀ (rs dn : List S145), dn.length + rs.length ≤ 1000000 → (∀ x, x ∈ rs → okChg x) → Ev (fun k => spec_l08List.l0 k (dn ++ rs) (dn.length : Int)) (dn ++ rs)
 | [], dn, hl, hok => Ev_one fun k => by rw [spec_l08List.l0, if_neg (by simp)]
 | a :: r, dn, hl, hok => by
   rw [List.length_cons] at hl
   have hrd : rd_T145 (dn ++ a :: r) (dn.length : Int) = a := by
     unfold rd_T145
     rw [Int.toNat_natCast]
     simp
   have p1 : (dn.length : Int) < ((dn ++ a :: r).length : Int) := by rw [List.length_append, List.length_cons]; omega
   have p2 : (0 : Int) ≤ (dn.length : Int) := by omega
   have e1 : dn ++ a :: r = (dn ++ [a]) ++ r := by simp
   have ih := spec_list r (dn ++ [a]) (by rw [List.length_append, List.length_singleton]; omega) (fun x hx => hok x (by simp [hx]))
   have ew : wrap64 ((dn.length : Int) + 1) = ((dn ++ [a]).length : Int) := by rw [wsucc (by omega) (by omega)]; simp
   refine Ev.step (fun k => by rw [spec_l08List.l0, if_pos p1, if_pos p2, hrd]) ?_
   refine Ev_bind (scopy_ev _ _ (hok a (by simp)).2) ?_
   refine Ev.congr (f := fun k => spec_l08List.l0 k (dn ++ [a] ++ r) ((dn ++ [a]).length : Int)) (fun k => ?_) (by rw [e1]; exact ih)
   rw [ew, ← e1]
   congr 1
   rw [Int.toNat_natCast]
   simp
theorem spec_lst (l : List S145) (hl : l.length ≤ 1000000) (hok : ∀ x, x ∈ l → okChg x) : Ev (fun k => spec_l08List.f k l) l := by
 unfold spec_l08List.f
 refine Ev_bind (Ev.now _) ?_
 refine Ev.congr (fun k => if_pos (by rw [List.length_nil]; omega)) ?_
 have := spec_list l [] (by simpa using hl) hok
 simpa using this
end Go.Proofs.YtmkpgddfoaglpaaGreatDoor.PG
