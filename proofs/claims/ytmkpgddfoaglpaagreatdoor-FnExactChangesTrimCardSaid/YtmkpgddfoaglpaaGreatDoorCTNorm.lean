/-
 The program's Norm and the reference's Norm both come to Sem.normB; isProper and l02Value, isOptional and l12Text come to the same. No condition.
-/
import Derived.Test.YtmkpgddfoaglpaaGreatDoorCTP1
import Derived.Test.YtmkpgddfoaglpaaGreatDoorCTNames
set_option linter.unusedVariables false
set_option linter.unusedSimpArgs false
namespace Go.Proofs.YtmkpgddfoaglpaaGreatDoor.PG
open Go.RowKit Go.Proofs.YtmkpgddfoaglpaaGreatDoorW.PrintWords Go.Proofs.YtmkpgddfoaglpaaGreatDoorW.PrintLast Go.Proofs.YtmkpgddfoaglpaaGreatDoor.Gn Go.Proofs.YtmkpgddfoaglpaaGreatDoor.Sem
def normLow (c : Int) : Int := if c ≥ 65 then (if c ≤ 90 then (c + 32) % 256 else c) else c
def normStep (acc : List Int) (c : Int) : List Int :=
 if normLow c = 32 then (if acc.length = 0 then acc else if rd acc ((acc.length : Int) - 1) = 32 then acc else acc ++ [32]) else acc ++ [normLow c]
def normL (s : ByteArray) : Nat → Nat → List Int → List Int
 | _, 0, acc => acc
 | i, r + 1, acc => normL s (i + 1) r (normStep acc (bt s (i : Int)))
def normEnd (acc : List Int) : List Int := if acc.length = 0 then acc else if rd acc ((acc.length : Int) - 1) = 32 then acc.take (acc.length - 1) else acc
def normB (s : ByteArray) : ByteArray := if s.size ≤ 100 ∧ plainB s = true then strOfNums (normEnd (normL s 0 s.size [])) else ⟨#[]⟩
theorem step_len (acc : List Int) (c : Int) : (normStep acc c).length ≤ acc.length + 1 := by
 unfold normStep
 repeat' split
 all_goals simp
theorem step_byte {acc : List Int} (h : ∀ x, x ∈ acc → 0 ≤ x ∧ x ≤ 255) {c : Int} (h0 : 0 ≤ c) (h1 : c ≤ 255) : ∀ x, x ∈ normStep acc c → 0 ≤ x ∧ x ≤ 255 := by
 have hl : 0 ≤ normLow c ∧ normLow c ≤ 255 := by unfold normLow; repeat' split
                                                 all_goals omega
 unfold normStep
 intro x hx
 split at hx
 · split at hx
   · exact h x hx
   · split at hx
     · exact h x hx
     · rcases List.mem_append.1 hx with hx | hx
       · exact h x hx
       · simp at hx; omega
 · rcases List.mem_append.1 hx with hx | hx
   · exact h x hx
   · simp at hx; omega
theorem inner_i {β : Type} (L : List Int → Option β) (acc : List Int) (ha : acc.length ≤ 100) (d : Int) :
   (if d = 32 then (if (acc.length : Int) > 0 then (if 0 ≤ wrap64 ((acc.length : Int) - 1) then (if wrap64 ((acc.length : Int) - 1) < (acc.length : Int) then (if rd acc (wrap64 ((acc.length : Int) - 1)) = 32 then L acc else (if acc.length < 140737488355328 then L (acc ++ [d]) else none)) else none) else none) else L acc) else (if acc.length < 140737488355328 then L (acc ++ [d]) else none))
     = L (if d = 32 then (if acc.length = 0 then acc else if rd acc ((acc.length : Int) - 1) = 32 then acc else acc ++ [32]) else acc ++ [d]) := by
 by_cases hd : d = 32
 · subst hd
   rw [if_pos rfl, if_pos rfl]
   by_cases hz : acc.length = 0
   · rw [if_neg (by omega), if_pos hz]
   · rw [if_pos (by omega), if_neg hz, w_id (by omega) (by omega), if_pos (by omega), if_pos (by omega)]
     by_cases hr : rd acc ((acc.length : Int) - 1) = 32
     · rw [if_pos hr, if_pos hr]
     · rw [if_neg hr, if_neg hr, if_pos (by omega)]
 · rw [if_neg hd, if_neg hd, if_pos (by omega)]
theorem inner_s {β : Type} (L : List Int → Option β) (acc : List Int) (ha : acc.length ≤ 100) (d : Int) :
   (if d = 32 then (if (acc.length : Int) = 0 then L acc else (if 0 ≤ wrap64 ((acc.length : Int) - 1) then (if wrap64 ((acc.length : Int) - 1) < (acc.length : Int) then (if rd acc (wrap64 ((acc.length : Int) - 1)) = 32 then L acc else (if acc.length < 140737488355328 then L (acc ++ [d]) else none)) else none) else none)) else (if acc.length < 140737488355328 then L (acc ++ [d]) else none))
     = L (if d = 32 then (if acc.length = 0 then acc else if rd acc ((acc.length : Int) - 1) = 32 then acc else acc ++ [32]) else acc ++ [d]) := by
 refine Eq.trans ?_ (inner_i L acc ha d)
 by_cases hz : (acc.length : Int) = 0
 · rw [if_pos hz, if_neg (by omega : ¬ (acc.length : Int) > 0)]
 · rw [if_neg hz, if_pos (by omega : (acc.length : Int) > 0)]
theorem impl_step (k : Nat) (s : ByteArray) (acc : List Int) (i : Nat) (hi : i < s.size) (hs : s.size ≤ 100) (ha : acc.length ≤ 100) :
   impl_Norm.l0 (k + 2) s acc (s.size : Int) (i : Int) = impl_Norm.l0 k s (normStep acc (bt s (i : Int))) (s.size : Int) ((i + 1 : Nat) : Int) := by
 simp only [impl_Norm.l0, impl_Norm.j2]
 rw [if_pos (by omega), if_pos (by omega), if_pos (by omega), wsucc (by omega) (by omega)]
 have e0 : ((i : Int) + 1) = ((i + 1 : Nat) : Int) := by omega
 rw [e0]
 unfold normStep normLow
 by_cases h1 : bt s (i : Int) ≥ 65
 · rw [if_pos h1, if_pos h1]
   by_cases h2 : bt s (i : Int) ≤ 90
   · rw [if_pos (decide_eq_true h2), if_pos h2]
     exact inner_i (fun a => impl_Norm.l0 k s a (s.size : Int) ((i + 1 : Nat) : Int)) acc ha _
   · rw [if_neg (by rw [decide_eq_false h2]; simp), if_neg h2]
     exact inner_i (fun a => impl_Norm.l0 k s a (s.size : Int) ((i + 1 : Nat) : Int)) acc ha _
 · rw [if_neg h1, if_neg h1, if_neg (by simp)]
   exact inner_i (fun a => impl_Norm.l0 k s a (s.size : Int) ((i + 1 : Nat) : Int)) acc ha _
theorem spec_step (k : Nat) (s : ByteArray) (acc : List Int) (i : Nat) (hi : i < s.size) (hs : s.size ≤ 100) (ha : acc.length ≤ 100) :
   spec_Norm.l0 (k + 2) s acc (i : Int) = spec_Norm.l0 k s (normStep acc (bt s (i : Int))) ((i + 1 : Nat) : Int) := by
 simp only [spec_Norm.l0, spec_Norm.j2]
 rw [if_pos (by omega), if_pos (by omega), wsucc (by omega) (by omega)]
 have e0 : ((i : Int) + 1) = ((i + 1 : Nat) : Int) := by omega
 rw [e0]
 unfold normStep normLow
 by_cases h1 : bt s (i : Int) ≥ 65
 · rw [if_pos h1, if_pos h1]
   by_cases h2 : bt s (i : Int) ≤ 90
   · rw [if_pos (decide_eq_true h2), if_pos h2]
     exact inner_s (fun a => spec_Norm.l0 k s a ((i + 1 : Nat) : Int)) acc ha _
   · rw [if_neg (by rw [decide_eq_false h2]; simp), if_neg h2]
     exact inner_s (fun a => spec_Norm.l0 k s a ((i + 1 : Nat) : Int)) acc ha _
 · rw [if_neg h1, if_neg h1, if_neg (by simp)]
   exact inner_s (fun a => spec_Norm.l0 k s a ((i + 1 : Nat) : Int)) acc ha _
theorem nums_last (acc : List Int) (hz : acc.length ≠ 0) :
   ((strOfNums acc).extract (acc.length - 1) (strOfNums acc).size).toList = [UInt8.ofNat (rd acc ((acc.length : Int) - 1)).toNat] := by
 rw [ByteArray.toList_eq, ByteArray.data_extract, Array.toList_extract, strOfNums_size, strOfNums_data]
 unfold rd
 have e : ((acc.length : Int) - 1).toNat = acc.length - 1 := by omega
 rw [e, getD_at (by omega : acc.length - 1 < acc.length)]
 have h1 : acc.length - (acc.length - 1) = 1 := by omega
 rw [List.extract_eq_take_drop, h1, List.drop_eq_getElem_cons (by rw [List.length_map]; omega), List.take_succ_cons, List.take_zero, List.getElem_map]
theorem impl_end (acc : List Int) (hb : ∀ x, x ∈ acc → 0 ≤ x ∧ x ≤ 255) (ha : acc.length ≤ 101) : strings_TrimSuffix.f (strOfNums acc) (⟨#[32]⟩ : ByteArray) = some (strOfNums (normEnd acc)) := by
 unfold strings_TrimSuffix.f stringslite_TrimSuffix.f stringslite_HasSuffix.f normEnd
 rw [strOfNums_size]
 have e1 : ((⟨#[32]⟩ : ByteArray).size : Int) = 1 := rfl
 rw [e1]
 by_cases hz : acc.length = 0
 · rw [if_neg (by omega), if_pos hz]
   simp
 · rw [w_id (by omega) (by omega), if_pos (by omega), if_pos (by omega), if_pos (by omega), if_neg hz]
   have e2 : ((acc.length : Int) - 1).toNat = acc.length - 1 := by omega
   have hl := nums_last acc hz
   rw [strOfNums_size] at hl
   rw [e2, hl]
   have hr : 0 ≤ rd acc ((acc.length : Int) - 1) ∧ rd acc ((acc.length : Int) - 1) ≤ 255 := by
     unfold rd
     rw [e2, getD_at (by omega : acc.length - 1 < acc.length)]
     exact hb _ (List.getElem_mem _)
   generalize rd acc ((acc.length : Int) - 1) = q at *
   have e3 : (([UInt8.ofNat q.toNat] : List UInt8) == (⟨#[32]⟩ : ByteArray).toList) = decide (q = 32) := by
     rw [ByteArray.toList_eq]
     show ([UInt8.ofNat q.toNat] == [32]) = decide (q = 32)
     rw [Bool.eq_iff_iff, beq_iff_eq, decide_eq_true_iff, List.cons.injEq]
     constructor
     · rintro ⟨h, _⟩
       have := congrArg UInt8.toNat h
       rw [UInt8.toNat_ofNat', show (32 : UInt8).toNat = 32 from rfl] at this
       omega
     · rintro rfl
       exact ⟨rfl, rfl⟩
   rw [e3]
   simp only [Option.bind_some]
   by_cases hq : q = 32
   · rw [decide_eq_true hq, if_pos rfl, if_pos hq, if_pos (by omega), if_pos (by omega), Option.bind_some]
     congr 1
     have : ∀ a b : ByteArray, a.data.toList = b.data.toList → a = b := fun a b h => by
       obtain ⟨⟨a⟩⟩ := a; obtain ⟨⟨b⟩⟩ := b; simpa using h
     apply this
     rw [ByteArray.data_extract, Array.toList_extract, strOfNums_data, strOfNums_data, List.extract_eq_take_drop, List.drop_zero, List.map_take, Nat.sub_zero]
   · rw [decide_eq_false hq, if_neg (by simp), if_neg hq, Option.bind_some]
theorem spec_end (k : Nat) (s : ByteArray) (acc : List Int) (ha : acc.length ≤ 101) (hs : s.size ≤ 100) : spec_Norm.l0 (k + 1) s acc (s.size : Int) = some (strOfNums (normEnd acc)) := by
 simp only [spec_Norm.l0]
 rw [if_neg (by omega)]
 unfold normEnd
 by_cases hz : acc.length = 0
 · rw [if_neg (by omega), if_pos hz]
 · rw [if_pos (by omega), w_id (by omega) (by omega), if_pos (by omega), if_pos (by omega), if_neg hz]
   have e2 : ((acc.length : Int) - 1).toNat = acc.length - 1 := by omega
   rw [e2]
   by_cases hr : rd acc ((acc.length : Int) - 1) = 32
   · rw [if_pos hr, if_pos hr, if_pos (by omega)]
   · rw [if_neg hr, if_neg hr]
theorem impl_loop (s : ByteArray) (hs : s.size ≤ 100) : ∀ (r i : Nat) (acc : List Int), i + r = s.size → acc.length ≤ i → (∀ x, x ∈ acc → 0 ≤ x ∧ x ≤ 255) → Ev (fun k => impl_Norm.l0 k s acc (s.size : Int) (i : Int)) (strOfNums (normEnd (normL s i r acc)))
 | 0, i, acc, hi, ha, hb => Ev_one fun k => by
   simp only [impl_Norm.l0]
   rw [if_neg (by omega), impl_end acc hb (by omega)]
   rfl
 | r + 1, i, acc, hi, ha, hb => by
   obtain ⟨b0, b1⟩ := bt_bounds s (i : Int)
   obtain ⟨n, hn⟩ := impl_loop s hs r (i + 1) (normStep acc (bt s (i : Int))) (by omega) (Nat.le_trans (step_len _ _) (by omega)) (step_byte hb b0 b1)
   refine Ev_at (n + 2) fun k => ?_
   show impl_Norm.l0 (k + n + 2) s acc (s.size : Int) (i : Int) = _
   rw [impl_step _ s acc i (by omega) hs (by omega)]
   exact hn (k + n) (by omega)
theorem spec_loop (s : ByteArray) (hs : s.size ≤ 100) : ∀ (r i : Nat) (acc : List Int), i + r = s.size → acc.length ≤ i → Ev (fun k => spec_Norm.l0 k s acc (i : Int)) (strOfNums (normEnd (normL s i r acc)))
 | 0, i, acc, hi, ha => Ev_one fun k => by
   obtain rfl : i = s.size := by omega
   exact spec_end k s acc (by omega) hs
 | r + 1, i, acc, hi, ha => by
   obtain ⟨n, hn⟩ := spec_loop s hs r (i + 1) (normStep acc (bt s (i : Int))) (by omega) (Nat.le_trans (step_len _ _) (by omega))
   refine Ev_at (n + 2) fun k => ?_
   show spec_Norm.l0 (k + n + 2) s acc (i : Int) = _
   rw [spec_step _ s acc i (by omega) hs (by omega)]
   exact hn (k + n) (by omega)
theorem impl_norm (s : ByteArray) : Ev (fun k => impl_Norm.f k s) (normB s) := by
 unfold normB
 by_cases h1 : s.size ≤ 100
 · refine Ev.congr (f := fun k => (impl_isPrintable.f k s).bind fun t => impl_Norm.j0 k s (!t)) (fun k => by unfold impl_Norm.f; rw [if_neg (by omega)]) (Ev_bind (impl_plain s (by omega)) ?_)
   cases hp : plainB s
   · rw [if_neg (by simp)]
     exact Ev_one fun k => by simp [impl_Norm.j0]
   · rw [if_pos ⟨h1, rfl⟩]
     exact Ev.step (fun k => by simp [impl_Norm.j0]) (impl_loop s h1 s.size 0 [] (by omega) (by simp) (by simp))
 · refine Ev_one fun k => ?_
   unfold impl_Norm.f
   rw [if_pos (by omega), if_neg (by omega)]
   simp [impl_Norm.j0]
theorem spec_norm (s : ByteArray) : Ev (fun k => spec_Norm.f k s) (normB s) := by
 unfold normB
 by_cases h1 : s.size ≤ 100
 · refine Ev.congr (f := fun k => (spec_l02Plain.f k s).bind fun t => spec_Norm.j0 k s (!t)) (fun k => by unfold spec_Norm.f; rw [if_neg (by omega)]) (Ev_bind (spec_plain s (by omega)) ?_)
   cases hp : plainB s
   · rw [if_neg (by simp)]
     exact Ev_one fun k => by simp [spec_Norm.j0]
   · rw [if_pos ⟨h1, rfl⟩]
     exact Ev.step (fun k => by simp [spec_Norm.j0]) (spec_loop s h1 s.size 0 [] (by omega) (by simp))
 · refine Ev_one fun k => ?_
   unfold spec_Norm.f
   rw [if_pos (by omega), if_neg (by omega)]
   simp [spec_Norm.j0]
def properB (s : ByteArray) : Bool := decide (1 ≤ s.size) && (decide (s.size ≤ 40) && ((normB s).toList != ([] : List UInt8)))
theorem impl_proper (s : ByteArray) : Ev (fun k => impl_isProper.f k s) (properB s) := by
 unfold properB impl_isProper.f
 by_cases h1 : 1 ≤ s.size
 · by_cases h2 : s.size ≤ 40
   · simp only [ge_iff_le]
     rw [decide_eq_true h1, decide_eq_true h2, Bool.true_and, Bool.true_and]
     refine Ev.congr (fun k => by rw [if_pos (by omega), if_pos (by omega)]) (Ev_bind (impl_norm s) (Ev.now _))
   · rw [decide_eq_false h2, Bool.false_and, Bool.and_false]
     exact Ev_some fun k => by rw [if_pos (by omega), if_neg (by omega)]
 · rw [decide_eq_false h1, Bool.false_and]
   exact Ev_some fun k => by rw [if_neg (by omega)]
theorem spec_proper (s : ByteArray) : Ev (fun k => spec_l02Value.f k s) (properB s) := by
 unfold properB spec_l02Value.f
 by_cases h1 : 1 ≤ s.size
 · by_cases h2 : s.size ≤ 40
   · simp only [ge_iff_le]
     rw [decide_eq_true h1, decide_eq_true h2, Bool.true_and, Bool.true_and]
     refine Ev.congr (fun k => by rw [if_pos (by omega), if_pos (by omega)]) (Ev_bind (spec_norm s) (Ev.now _))
   · rw [decide_eq_false h2, Bool.false_and, Bool.and_false]
     exact Ev_some fun k => by rw [if_pos (by omega), if_neg (by omega)]
 · rw [decide_eq_false h1, Bool.false_and]
   exact Ev_some fun k => by rw [if_neg (by omega)]
end Go.Proofs.YtmkpgddfoaglpaaGreatDoor.PG
