/-
  The program's TableRight and the reference's TableRight come to the same test tableB. No condition.
-/
import Derived.Test.YthapodlehfblgaaDoorRSP5
import Derived.Test.YthapodlehfblgaaDoorRSP1
import Derived.Test.YthapodlehfblgaaDoorRSNames
import Derived.Test.YthapodlehfblgaaDoorRSNorm
namespace Go.Proofs.YthapodlehfblgaaDoor.PG
set_option linter.unusedSimpArgs false
set_option linter.unusedVariables false
open Go.RowKit Go.Proofs.YthapodlehfblgaaDoorW.PrintWords Go.Proofs.YthapodlehfblgaaDoorW.PrintLast Go.Proofs.YthapodlehfblgaaDoorW.PrintMore Go.Proofs.YthapodlehfblgaaDoor.Gn Go.Proofs.YthapodlehfblgaaDoor.Sem

def optB (s : ByteArray) : Bool := (s.toList == ([] : List UInt8)) || properB s
theorem impl_opt (s : ByteArray) : Ev (fun k => impl_isOptional.f k s) (optB s) := by
  unfold optB impl_isOptional.f
  by_cases h : s.toList = ([] : List UInt8)
  · simp only [if_pos h]
    rw [beq_iff_eq.2 h, Bool.true_or]
    exact Ev.now _
  · simp only [if_neg h]
    rw [beq_eq_false_iff_ne.2 h, Bool.false_or]
    exact Ev_bind (impl_proper s) (Ev.now _)
theorem spec_opt (s : ByteArray) : Ev (fun k => spec_l12Text.f k s) (optB s) := by
  unfold optB spec_l12Text.f
  by_cases h : s.toList = ([] : List UInt8)
  · simp only [if_pos h]
    rw [beq_iff_eq.2 h, Bool.true_or]
    exact Ev.now _
  · simp only [if_neg h]
    rw [beq_eq_false_iff_ne.2 h, Bool.false_or]
    exact Ev_bind (spec_proper s) (Ev.now _)
def isB (a lo hi : Int) : Bool := decide (lo ≤ a) && decide (a ≤ hi)
def goneB (x : S55) : Bool := !x.f6 || (!x.f4 && ((x.f2.toList == ([] : List UInt8)) && (x.f3.toList == ([] : List UInt8))))
theorem Ev_and {g : Nat → Option Bool} {f : Nat → Option Bool} {a b : Bool} (h : Ev g a) (h' : Ev f b) : Ev (fun k => (g k).bind fun t => if t = true then f k else some false) (a && b) := by
  refine Ev_bind h ?_
  cases a
  · exact Ev_some fun k => by simp
  · simpa using h'
theorem gone_ite (x : S55) : (if x.f6 = true then (if x.f4 = true then (some false) else (if x.f2.toList = ([] : List UInt8) then (some (x.f3.toList == ([] : List UInt8))) else (some false))) else (some true)) = some (goneB x) := by
  unfold goneB
  cases x.f6
  · simp
  · cases x.f4
    · by_cases h : x.f2.toList = ([] : List UInt8) <;> simp [h]
    · simp
def rowB (next usn : Int) (x : S55) : Bool := isB x.f0 1 (wrap64 (next - 1)) && (nameB x.f1 && (optB x.f2 && (optB x.f3 && (isB x.f5 1 usn && goneB x))))
theorem impl_row (x : S55) (next usn : Int) : Ev (fun k => impl_isRow.f k x.f0 x.f1 x.f2 x.f3 x.f4 x.f5 x.f6 next usn) (rowB next usn x) := by
  unfold rowB impl_isRow.f
  refine Ev_and (Ev_some fun k => between_eq _ _ _) (Ev_and (Ev_some fun k => impl_name _) (Ev_and (impl_opt _) (Ev_and (impl_opt _) (Ev_and (Ev_some fun k => between_eq _ _ _) (Ev_some fun k => gone_ite x)))))
def row0B (x : S55) : Bool := nameB x.f1 && (optB x.f2 && (optB x.f3 && goneB x))
theorem spec_row (x : S55) : Ev (fun k => spec_l12Row.f k x.f0 x.f1 x.f2 x.f3 x.f4 x.f5 x.f6) (row0B x) := by
  unfold row0B spec_l12Row.f
  refine Ev_and (spec_name _) (Ev_and (spec_opt _) (Ev_and (spec_opt _) (Ev_some fun k => gone_ite x)))

def pairB (q r : S55) : Bool := !(decide (q.f5 = r.f5)) && !(decide (q.f1.toList = r.f1.toList) && (!q.f6 && !r.f6))
def atB (next usn : Int) (l : List S55) (i : Nat) : Bool := (rowB next usn (rd_T55 l i) && (decide (i = 0) || decide ((rd_T55 l ((i : Int) - 1)).f0 < (rd_T55 l i).f0))) && (List.range i).all fun j => pairB (rd_T55 l j) (rd_T55 l i)
def tableB (next usn : Int) (l : List S55) : Bool := isB next 1 1000000 && (isB usn 0 1000000 && (decide (l.length ≤ 20) && (List.range l.length).all (atB next usn l)))

theorem impl_inner (l : List S55) (hl : l.length ≤ 20) (next usn : Int) (i : Nat) (hi : i < l.length) (v : Bool) (hv : Ev (fun k => impl_TableRight.l0 k l (l.length : Int) ((i + 1 : Nat) : Int) next usn l) v) :
    Ev (fun k => impl_TableRight.l1 k l (l.length : Int) (i : Int) (l.take i) ((l.take i).length : Int) 0 next usn l (rd_T55 l i).f0 (rd_T55 l i).f1 (rd_T55 l i).f2 (rd_T55 l i).f3 (rd_T55 l i).f4 (rd_T55 l i).f5 (rd_T55 l i).f6) (((List.range i).all fun j => pairB (rd_T55 l j) (rd_T55 l i)) && v) := by
  have ht : (l.take i).length = i := by rw [List.length_take]; omega
  rw [ht]
  have hrd : ∀ j : Nat, j < i → rd_T55 (l.take i) (j : Int) = rd_T55 l j := fun j hj => by
    unfold rd_T55
    rw [List.getD_eq_getElem?_getD, List.getD_eq_getElem?_getD, List.getElem?_take, if_pos (by simpa using hj)]
  refine all_loop (fun k j => impl_TableRight.l1 k l (l.length : Int) (i : Int) (l.take i) (i : Int) j next usn l (rd_T55 l i).f0 (rd_T55 l i).f1 (rd_T55 l i).f2 (rd_T55 l i).f3 (rd_T55 l i).f4 (rd_T55 l i).f5 (rd_T55 l i).f6) _ i v ?_ ?_
  · refine Ev.step (fun k => ?_) hv
    simp only [impl_TableRight.l1]
    rw [if_neg (by omega), wsucc (by omega) (by omega)]
    rfl
  · intro j hj u hu
    have h0 : ∀ k, impl_TableRight.l1 (k + 1) l (l.length : Int) (i : Int) (l.take i) (i : Int) (j : Int) next usn l (rd_T55 l i).f0 (rd_T55 l i).f1 (rd_T55 l i).f2 (rd_T55 l i).f3 (rd_T55 l i).f4 (rd_T55 l i).f5 (rd_T55 l i).f6 = if pairB (rd_T55 l j) (rd_T55 l i) = true then impl_TableRight.l1 k l (l.length : Int) (i : Int) (l.take i) (i : Int) ((j + 1 : Nat) : Int) next usn l (rd_T55 l i).f0 (rd_T55 l i).f1 (rd_T55 l i).f2 (rd_T55 l i).f3 (rd_T55 l i).f4 (rd_T55 l i).f5 (rd_T55 l i).f6 else some false := by
      intro k
      simp only [impl_TableRight.l1]
      rw [if_pos (by omega), if_pos (by omega), if_pos (by omega), wsucc (by omega) (by omega), hrd j hj]
      have e0 : ((j : Int) + 1) = ((j + 1 : Nat) : Int) := by omega
      rw [e0]
      unfold pairB
      by_cases h1 : (rd_T55 l j).f5 = (rd_T55 l i).f5
      · simp [h1]
      · by_cases h2 : (rd_T55 l j).f1.toList = (rd_T55 l i).f1.toList
        · cases h3 : (rd_T55 l j).f6 <;> cases h4 : (rd_T55 l i).f6 <;> simp [h1, h2]
        · simp [h1, h2]
    cases hp : pairB (rd_T55 l j) (rd_T55 l i)
    · exact Ev_one fun k => by rw [h0, hp]; simp
    · exact Ev.step (fun k => by rw [h0, hp, if_pos rfl]) (by simpa using hu)
theorem impl_table (next usn : Int) (l : List S55) : Ev (fun k => impl_TableRight.f k next usn l) (tableB next usn l) := by
  unfold tableB impl_TableRight.f
  have bad : Ev (fun k => impl_TableRight.j0 k true next usn l) false := Ev_one fun k => by simp [impl_TableRight.j0]
  simp only [between_eq, Option.bind_some]
  unfold isB
  cases h1 : (decide (1 ≤ next) && decide (next ≤ 1000000))
  · simpa using bad
  · cases h2 : (decide (0 ≤ usn) && decide (usn ≤ 1000000))
    · simpa using bad
    · by_cases h3 : l.length ≤ 20
      · rw [decide_eq_true h3, decide_eq_false (show ¬ (l.length : Int) > 20 by omega)]
        simp only [if_true, Bool.true_and]
        refine Ev.step (fun k => by simp only [impl_TableRight.j0]; rw [if_neg (by simp)]) ?_
        have := all_loop (fun k i => impl_TableRight.l0 k l (l.length : Int) i next usn l) (atB next usn l) l.length true ?_ ?_
        · simpa using this
        · exact Ev_one fun k => by simp only [impl_TableRight.l0]; rw [if_neg (by omega)]
        · intro i hi v hv
          refine Ev.step (fun k => by simp only [impl_TableRight.l0]; rw [if_pos (by omega), if_pos (by omega), if_pos (by omega)]) ?_
          refine Ev_bind (impl_row (rd_T55 l i) next usn) ?_
          have hj : ∀ b : Bool, Ev (fun k => impl_TableRight.j2 k (i : Int) l (l.length : Int) (i : Int) b next usn l (rd_T55 l i).f0 (rd_T55 l i).f1 (rd_T55 l i).f2 (rd_T55 l i).f3 (rd_T55 l i).f4 (rd_T55 l i).f5 (rd_T55 l i).f6) (!b && (((List.range i).all fun j => pairB (rd_T55 l j) (rd_T55 l i)) && v)) := by
            intro b
            cases b
            · refine Ev.step (fun k => by simp only [impl_TableRight.j2]; rw [if_neg (by simp), if_pos (by omega), if_pos (by omega), Option.bind_some]) ?_
              exact impl_inner l h3 next usn i hi v hv
            · exact Ev_one fun k => by simp [impl_TableRight.j2]
          unfold atB
          cases hr : rowB next usn (rd_T55 l i)
          · simpa using hj true
          · simp only [if_true, Bool.true_and]
            by_cases h0 : i = 0
            · subst h0
              have := hj false
              simpa using this
            · rw [decide_eq_false h0, Bool.false_or]
              have := hj (decide ((rd_T55 l ((i : Int) - 1)).f0 ≥ (rd_T55 l i).f0))
              rw [show (!(decide ((rd_T55 l ((i : Int) - 1)).f0 ≥ (rd_T55 l i).f0))) = decide ((rd_T55 l ((i : Int) - 1)).f0 < (rd_T55 l i).f0) by rw [← decide_not]; congr 1; simp] at this
              rw [Bool.and_assoc]
              refine Ev.congr (fun k => ?_) this
              rw [if_pos (by omega), w_id (by omega) (by omega), if_pos (by omega), if_pos (by omega)]
      · rw [decide_eq_false h3, decide_eq_true (show (l.length : Int) > 20 by omega)]
        simpa using bad

theorem spec_inner (l : List S55) (hl : l.length ≤ 20) (next usn : Int) (i : Nat) (hi : i < l.length) (v : Bool) (hv : Ev (fun k => spec_TableRight.l0 k ((i + 1 : Nat) : Int) next usn l) v) :
    Ev (fun k => spec_TableRight.l1 k (i : Int) 0 next usn l (rd_T55 l i).f0 (rd_T55 l i).f1 (rd_T55 l i).f2 (rd_T55 l i).f3 (rd_T55 l i).f4 (rd_T55 l i).f5 (rd_T55 l i).f6) (((List.range i).all fun j => pairB (rd_T55 l j) (rd_T55 l i)) && v) := by
  refine all_loop (fun k j => spec_TableRight.l1 k (i : Int) j next usn l (rd_T55 l i).f0 (rd_T55 l i).f1 (rd_T55 l i).f2 (rd_T55 l i).f3 (rd_T55 l i).f4 (rd_T55 l i).f5 (rd_T55 l i).f6) _ i v ?_ ?_
  · refine Ev.step (fun k => ?_) hv
    simp only [spec_TableRight.l1]
    rw [if_neg (by omega), wsucc (by omega) (by omega)]
    rfl
  · intro j hj u hu
    have h0 : ∀ k, spec_TableRight.l1 (k + 1) (i : Int) (j : Int) next usn l (rd_T55 l i).f0 (rd_T55 l i).f1 (rd_T55 l i).f2 (rd_T55 l i).f3 (rd_T55 l i).f4 (rd_T55 l i).f5 (rd_T55 l i).f6 = if pairB (rd_T55 l j) (rd_T55 l i) = true then spec_TableRight.l1 k (i : Int) ((j + 1 : Nat) : Int) next usn l (rd_T55 l i).f0 (rd_T55 l i).f1 (rd_T55 l i).f2 (rd_T55 l i).f3 (rd_T55 l i).f4 (rd_T55 l i).f5 (rd_T55 l i).f6 else some false := by
      intro k
      simp only [spec_TableRight.l1]
      rw [if_pos (by omega), if_pos (by omega), if_pos (by omega), wsucc (by omega) (by omega)]
      have e0 : ((j : Int) + 1) = ((j + 1 : Nat) : Int) := by omega
      rw [e0]
      unfold pairB
      by_cases h1 : (rd_T55 l j).f5 = (rd_T55 l i).f5
      · simp [h1]
      · by_cases h2 : (rd_T55 l j).f1.toList = (rd_T55 l i).f1.toList
        · cases h3 : (rd_T55 l j).f6 <;> cases h4 : (rd_T55 l i).f6 <;> simp [h1, h2]
        · cases h3 : (rd_T55 l j).f6 <;> cases h4 : (rd_T55 l i).f6 <;> simp [h1, h2]
    cases hp : pairB (rd_T55 l j) (rd_T55 l i)
    · exact Ev_one fun k => by rw [h0, hp]; simp
    · exact Ev.step (fun k => by rw [h0, hp, if_pos rfl]) (by simpa using hu)
theorem spec_table (next usn : Int) (l : List S55) : Ev (fun k => spec_TableRight.f k next usn l) (tableB next usn l) := by
  unfold tableB spec_TableRight.f
  have bad : Ev (fun k => spec_TableRight.j0 k true next usn l) false := Ev_one fun k => by simp [spec_TableRight.j0]
  simp only [l02Is_eq, Option.bind_some]
  unfold isB
  cases h1 : (decide (1 ≤ next) && decide (next ≤ 1000000))
  · simpa using bad
  · cases h2 : (decide (0 ≤ usn) && decide (usn ≤ 1000000))
    · simpa using bad
    · by_cases h3 : l.length ≤ 20
      · rw [decide_eq_true h3, decide_eq_false (show ¬ (l.length : Int) > 20 by omega)]
        simp only [if_true, Bool.true_and]
        refine Ev.step (fun k => by simp only [spec_TableRight.j0]; rw [if_neg (by simp)]) ?_
        have := all_loop (fun k i => spec_TableRight.l0 k i next usn l) (atB next usn l) l.length true ?_ ?_
        · simpa using this
        · exact Ev_one fun k => by simp only [spec_TableRight.l0]; rw [if_neg (by omega)]
        · intro i hi v hv
          refine Ev.step (fun k => by simp only [spec_TableRight.l0]; rw [if_pos (by omega), if_pos (by omega)]) ?_
          refine Ev_bind (spec_row (rd_T55 l i)) ?_
          have hj : ∀ b : Bool, Ev (fun k => spec_TableRight.j2 k (i : Int) b next usn l (rd_T55 l i).f0 (rd_T55 l i).f1 (rd_T55 l i).f2 (rd_T55 l i).f3 (rd_T55 l i).f4 (rd_T55 l i).f5 (rd_T55 l i).f6) (!b && (((List.range i).all fun j => pairB (rd_T55 l j) (rd_T55 l i)) && v)) := by
            intro b
            cases b
            · refine Ev.step (fun k => by simp only [spec_TableRight.j2]; rw [if_neg (by simp)]) ?_
              exact spec_inner l h3 next usn i hi v hv
            · exact Ev_one fun k => by simp [spec_TableRight.j2]
          have ea : atB next usn l i = ((row0B (rd_T55 l i) && (isB (rd_T55 l i).f0 1 (wrap64 (next - 1)) && ((decide (i = 0) || decide ((rd_T55 l ((i : Int) - 1)).f0 < (rd_T55 l i).f0)) && isB (rd_T55 l i).f5 1 usn))) && (List.range i).all fun j => pairB (rd_T55 l j) (rd_T55 l i)) := by
            unfold atB rowB row0B
            generalize (decide (i = 0) || decide ((rd_T55 l ((i : Int) - 1)).f0 < (rd_T55 l i).f0)) = z1
            generalize isB (rd_T55 l i).f0 1 (wrap64 (next - 1)) = z2
            generalize isB (rd_T55 l i).f5 1 usn = z3
            generalize nameB _ = z4
            generalize optB (rd_T55 l i).f2 = z5
            generalize optB (rd_T55 l i).f3 = z6
            generalize goneB _ = z7
            cases z1 <;> cases z2 <;> cases z3 <;> cases z4 <;> cases z5 <;> cases z6 <;> cases z7 <;> rfl
          rw [ea]
          cases hr : row0B (rd_T55 l i)
          · simpa using hj true
          · simp only [if_true, Bool.true_and, l02Is_eq, Option.bind_some]
            have ei : isB (rd_T55 l i).f0 1 (wrap64 (next - 1)) = (decide (1 ≤ (rd_T55 l (i : Int)).f0) && decide ((rd_T55 l (i : Int)).f0 ≤ wrap64 (next - 1))) := rfl
            rw [ei]
            cases hb : (decide (1 ≤ (rd_T55 l (i : Int)).f0) && decide ((rd_T55 l (i : Int)).f0 ≤ wrap64 (next - 1)))
            · simpa using hj true
            · simp only [if_true, Bool.true_and]
              have hj5 := hj (!(isB (rd_T55 l i).f5 1 usn))
              rw [Bool.not_not] at hj5
              by_cases h0 : i = 0
              · subst h0
                simpa [isB] using hj5
              · rw [decide_eq_false h0, Bool.false_or]
                by_cases hg : (rd_T55 l ((i : Int) - 1)).f0 ≥ (rd_T55 l i).f0
                · rw [decide_eq_false (show ¬ (rd_T55 l ((i : Int) - 1)).f0 < (rd_T55 l i).f0 by omega), Bool.false_and, Bool.false_and, Bool.false_and]
                  refine Ev.congr (fun k => ?_) (by simpa using hj true)
                  rw [if_pos (by omega), w_id (by omega) (by omega), if_pos (by omega), if_pos (by omega), if_pos hg]
                · rw [decide_eq_true (show (rd_T55 l ((i : Int) - 1)).f0 < (rd_T55 l i).f0 by omega), Bool.true_and, Bool.and_assoc]
                  refine Ev.congr (fun k => ?_) hj5
                  rw [if_pos (by omega), w_id (by omega) (by omega), if_pos (by omega), if_pos (by omega), if_neg hg]
                  rfl
      · rw [decide_eq_false h3, decide_eq_true (show (l.length : Int) > 20 by omega)]
        simpa using bad
end Go.Proofs.YthapodlehfblgaaDoor.PG
