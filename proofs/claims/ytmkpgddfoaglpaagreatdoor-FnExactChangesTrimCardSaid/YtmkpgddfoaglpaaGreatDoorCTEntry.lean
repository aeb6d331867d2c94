/-
 The program's EntryRight and the reference's EntryRight come to the same test entryB. Conditions: the lengths' bounds that are stated.
-/
import Derived.Test.YtmkpgddfoaglpaaGreatDoorCTP6
import Derived.Test.YtmkpgddfoaglpaaGreatDoorCTP2
import Derived.Test.YtmkpgddfoaglpaaGreatDoorCTP4
import Derived.Test.YtmkpgddfoaglpaaGreatDoorCTP1
import Derived.Test.YtmkpgddfoaglpaaGreatDoorCTDn
import Derived.Test.YtmkpgddfoaglpaaGreatDoorCTFits
set_option linter.unusedVariables false
set_option linter.unusedSimpArgs false
namespace Go.Proofs.YtmkpgddfoaglpaaGreatDoor.PG
open Go.RowKit Go.Proofs.YtmkpgddfoaglpaaGreatDoorW.PrintWords Go.Proofs.YtmkpgddfoaglpaaGreatDoorW.PrintLast Go.Proofs.YtmkpgddfoaglpaaGreatDoorW.PrintMore Go.Proofs.YtmkpgddfoaglpaaGreatDoor.Gn Go.Proofs.YtmkpgddfoaglpaaGreatDoor.Sem
theorem compare_less : ∀ a b : List UInt8, decide (Lib.compareBytes a b < 0) = Op.bytesLess a b
 | [], [] => rfl
 | [], _ :: _ => rfl
 | _ :: _, [] => rfl
 | a :: x, b :: y => by
   unfold Lib.compareBytes Op.bytesLess
   by_cases h1 : a < b
   · rw [if_pos h1]
     simp [h1]
   · rw [if_neg h1]
     by_cases h2 : b < a
     · rw [if_pos h2]
       have h3 : (a == b) = false := by
         rw [beq_eq_false_iff_ne]
         rintro rfl
         exact h1 h2
       simp [h1, h3]
     · rw [if_neg h2]
       have h3 : a = b := by
         have q1 : ¬ a.toNat < b.toNat := fun h => h1 (UInt8.lt_iff_toNat_lt.2 h)
         have q2 : ¬ b.toNat < a.toNat := fun h => h2 (UInt8.lt_iff_toNat_lt.2 h)
         exact UInt8.toNat_inj.1 (by omega)
       subst h3
       rw [compare_less x y]
       simp [h1]
def lessB (a b : ByteArray) : Bool := Op.bytesLess a.toList b.toList
theorem impl_byNorm_ev (a b : ByteArray) : Ev (fun k => impl_byNorm.f k a b) (Lib.compareBytes (normB a).toList (normB b).toList) := by
 unfold impl_byNorm.f
 refine Ev_bind (impl_norm a) (Ev_bind (impl_norm b) ?_)
 refine Ev_some fun k => ?_
 rw [ByteArray.toList_eq, ByteArray.toList_eq]
 rfl
def stepB {α : Type} (lt : α → α → Bool) (f : Int → α) (i : Nat) : Bool := decide (i = 0) || lt (f ((i : Int) - 1)) (f i)
def valAt (v : List ByteArray) (i : Nat) : Bool := properB (rdOf ByteArray.empty v (i : Int)) && stepB (fun a b => lessB (normB a) (normB b)) (rdOf ByteArray.empty v) i
def valsB (v : List ByteArray) : Bool := (decide (1 ≤ v.length) && decide (v.length ≤ 4)) && (List.range v.length).all (valAt v)
def attrB (x : S201) : Bool := nameB x.f0 && valsB x.f1
def attrAt (l : List S201) (i : Nat) : Bool := attrB (rd_T201 l (i : Int)) && stepB (fun a b => lessB a.f0 b.f0) (rd_T201 l) i
def entryB (d : List S151) (l : List S201) : Bool := decide (1 ≤ d.length) && (dnB d && (decide (l.length ≤ 8) && (List.range l.length).all (attrAt l)))
theorem impl_attr (x : S201) : Ev (fun k => impl_isAttr.f k x.f0 x.f1) (attrB x) := by
 obtain ⟨n, v⟩ := x
 have bad : Ev (fun k => impl_isAttr.j0 k true n v) false := Ev_one fun k => by simp [impl_isAttr.j0]
 unfold attrB valsB impl_isAttr.f
 simp only [impl_name, Option.bind_some, impl_size_string.f, between_eq]
 cases nameB n
 · simpa using bad
 · simp only [if_true, Bool.true_and]
   have e1 : decide (1 ≤ (v.length : Int)) = decide (1 ≤ v.length) := by congr 1; exact propext (by omega)
   have e2 : decide ((v.length : Int) ≤ 4) = decide (v.length ≤ 4) := by congr 1; exact propext (by omega)
   rw [e1, e2]
   by_cases hl : v.length ≤ 4
   · cases h1 : (decide (1 ≤ v.length) && decide (v.length ≤ 4))
     · simpa using bad
     · simp only [Bool.not_true, Bool.true_and]
       refine Ev.step (fun k => by simp only [impl_isAttr.j0]; rw [if_neg (by simp)]) ?_
       have := all_loop (fun k i => impl_isAttr.l0 k v (v.length : Int) i n v) (valAt v) v.length true ?_ ?_
       · simpa using this
       · exact Ev_one fun k => by simp only [impl_isAttr.l0]; rw [if_neg (by omega)]
       · intro i hi u hu
         have e0 : wrap64 ((i : Int) + 1) = ((i + 1 : Nat) : Int) := by rw [wsucc (by omega) (by omega)]; omega
         refine Ev.step (fun k => by simp only [impl_isAttr.l0]; rw [if_pos (by omega), if_pos (by omega), if_pos (by omega), e0]) ?_
         refine Ev_bind (impl_proper _) ?_
         unfold valAt stepB
         cases properB (rdOf ByteArray.empty v (i : Int))
         · exact Ev_some fun k => by simp
         · simp only [if_true, Bool.true_and]
           by_cases h0 : i = 0
           · subst h0
             simpa using hu
           · rw [decide_eq_false h0, Bool.false_or]
             refine Ev.congr (fun k => by rw [if_pos (by omega), w_id (by omega) (by omega), if_pos (by omega), if_pos (by omega)]) ?_
             refine Ev_bind (impl_byNorm_ev _ _) ?_
             have hc := compare_less (normB (rdOf ByteArray.empty v ((i : Int) - 1))).toList (normB (rdOf ByteArray.empty v (i : Int))).toList
             unfold lessB
             rw [← hc]
             by_cases hg : Lib.compareBytes (normB (rdOf ByteArray.empty v ((i : Int) - 1))).toList (normB (rdOf ByteArray.empty v (i : Int))).toList ≥ 0
             · rw [decide_eq_false (by omega), Bool.false_and]
               exact Ev_some fun k => by rw [if_pos hg]
             · rw [decide_eq_true (by omega), Bool.true_and]
               exact Ev.congr (fun k => by rw [if_neg hg]) hu
   · rw [decide_eq_false hl, Bool.and_false, Bool.false_and]
     simpa using bad
theorem spec_values (v : List ByteArray) (hl : v.length ≤ 9223372036854775807) : Ev (fun k => spec_l03Values.f k v) (valsB v) := by
 unfold spec_l03Values.f valsB
 rw [Bool.and_comm]
 refine all_loop (fun k i => spec_l03Values.l0 k v i) (valAt v) v.length _ ?_ ?_
 · refine Ev_one fun k => ?_
   simp only [spec_l03Values.l0]
   rw [if_neg (by omega)]
   have e2 : decide ((v.length : Int) ≤ 4) = decide (v.length ≤ 4) := by congr 1; exact propext (by omega)
   rw [e2]
   by_cases h : 1 ≤ v.length
   · rw [if_pos (by omega), decide_eq_true h, Bool.true_and]
   · rw [if_neg (by omega), decide_eq_false h, Bool.false_and]
 · intro i hi u hu
   have e0 : wrap64 ((i : Int) + 1) = ((i + 1 : Nat) : Int) := by rw [wsucc (by omega) (by omega)]; omega
   refine Ev.step (fun k => by simp only [spec_l03Values.l0]; rw [if_pos (by omega), if_pos (by omega), e0]) ?_
   refine Ev_bind (spec_proper _) ?_
   unfold valAt stepB
   cases properB (rdOf ByteArray.empty v (i : Int))
   · exact Ev_some fun k => by simp
   · simp only [if_true, Bool.true_and]
     by_cases h0 : i = 0
     · subst h0
       simpa using hu
     · rw [decide_eq_false h0, Bool.false_or]
       refine Ev.congr (fun k => by rw [if_pos (by omega), w_id (by omega) (by omega), if_pos (by omega), if_pos (by omega)]) ?_
       refine Ev_bind (spec_norm _) (Ev_bind (spec_norm _) ?_)
       unfold lessB
       cases Op.bytesLess (normB (rdOf ByteArray.empty v ((i : Int) - 1))).toList (normB (rdOf ByteArray.empty v (i : Int))).toList
       · exact Ev_some fun k => by simp
       · simpa using hu
theorem spec_dn (l : List S151) (hl : l.length ≤ 9223372036854775807) : Ev (fun k => spec_DnRight.f k l) (dnB l) := by
 have hall : dnB l = ((List.range l.length).all (fun i => rdnB (rd_T151 l (i : Int))) && decide (l.length ≤ 6)) := by
   unfold dnB
   rw [Bool.and_comm]
   congr 1
   rw [Bool.eq_iff_iff, List.all_eq_true, List.all_eq_true]
   constructor
   · intro h i hi
     have hi' : i < l.length := by simpa using hi
     unfold rd_T151
     rw [Int.toNat_natCast, getD_at hi']
     exact h _ (List.getElem_mem _)
   · intro h x hx
     obtain ⟨i, hi, rfl⟩ := List.mem_iff_getElem.1 hx
     have := h i (by simpa using hi)
     unfold rd_T151 at this
     rw [Int.toNat_natCast, getD_at hi] at this
     exact this
 rw [hall]
 unfold spec_DnRight.f
 refine all_loop (fun k i => spec_DnRight.l0 k l i) _ l.length _ ?_ ?_
 · refine Ev_one fun k => ?_
   simp only [spec_DnRight.l0]
   rw [if_neg (by omega)]
   congr 2
   exact propext (by omega)
 · intro i hi u hu
   have e0 : wrap64 ((i : Int) + 1) = ((i + 1 : Nat) : Int) := by rw [wsucc (by omega) (by omega)]; omega
   refine Ev.step (fun k => by simp only [spec_DnRight.l0]; rw [if_pos (by omega), if_pos (by omega), e0]) ?_
   refine Ev_bind (spec_name _) ?_
   unfold rdnB
   cases nameB (rd_T151 l (i : Int)).f0
   · exact Ev_some fun k => by simp
   · simp only [if_true, Bool.true_and]
     refine Ev_bind (spec_proper _) ?_
     cases properB (rd_T151 l (i : Int)).f1
     · exact Ev_some fun k => by simp
     · simpa using hu
theorem spec_attrs (l : List S201) (hl : l.length ≤ 9223372036854775807) (hv : ∀ x, x ∈ l → x.f1.length ≤ 9223372036854775807) : Ev (fun k => spec_l03Attrs.f k l) (decide (l.length ≤ 8) && (List.range l.length).all (attrAt l)) := by
 unfold spec_l03Attrs.f
 rw [Bool.and_comm]
 refine all_loop (fun k i => spec_l03Attrs.l0 k l i) (attrAt l) l.length _ ?_ ?_
 · refine Ev_one fun k => ?_
   simp only [spec_l03Attrs.l0]
   rw [if_neg (by omega)]
   congr 2
   exact propext (by omega)
 · intro i hi u hu
   have e0 : wrap64 ((i : Int) + 1) = ((i + 1 : Nat) : Int) := by rw [wsucc (by omega) (by omega)]; omega
   have hvi : (rd_T201 l (i : Int)).f1.length ≤ 9223372036854775807 := by
     unfold rd_T201
     rw [Int.toNat_natCast, getD_at hi]
     exact hv _ (List.getElem_mem _)
   have hvals : Ev (fun k => (spec_l03Values.f k (rd_T201 l (i : Int)).f1).bind fun t => if t = true then spec_l03Attrs.l0 k l ((i + 1 : Nat) : Int) else some false) (valsB (rd_T201 l (i : Int)).f1 && u) := by
     refine Ev_bind (spec_values _ hvi) ?_
     cases valsB (rd_T201 l (i : Int)).f1
     · exact Ev_some fun k => by simp
     · simpa using hu
   refine Ev.step (fun k => by simp only [spec_l03Attrs.l0]; rw [if_pos (by omega), if_pos (by omega), e0]) ?_
   refine Ev_bind (spec_name _) ?_
   unfold attrAt attrB stepB
   cases nameB (rd_T201 l (i : Int)).f0
   · exact Ev_some fun k => by simp
   · simp only [if_true, Bool.true_and]
     by_cases h0 : i = 0
     · subst h0
       simpa using hvals
     · rw [decide_eq_false h0, Bool.false_or]
       refine Ev.congr (fun k => by rw [if_pos (by omega), w_id (by omega) (by omega), if_pos (by omega), if_pos (by omega)]) ?_
       unfold lessB
       cases Op.bytesLess (rd_T201 l ((i : Int) - 1)).f0.toList (rd_T201 l (i : Int)).f0.toList
       · rw [Bool.and_false, Bool.false_and]
         exact Ev_some fun k => by simp
       · rw [Bool.and_true]
         simpa using hvals
theorem spec_entry (d : List S151) (l : List S201) (hd : d.length ≤ 9223372036854775807) (hl : l.length ≤ 9223372036854775807) (hv : ∀ x, x ∈ l → x.f1.length ≤ 9223372036854775807) : Ev (fun k => spec_EntryRight.f k d l) (entryB d l) := by
 unfold spec_EntryRight.f entryB
 by_cases h : 1 ≤ d.length
 · rw [decide_eq_true h, Bool.true_and]
   simp only [if_pos (show (d.length : Int) > 0 by omega)]
   refine Ev_bind (spec_dn d hd) ?_
   cases dnB d
   · exact Ev_some fun k => by simp
   · simpa using Ev_bind (spec_attrs l hl hv) (Ev.now _)
 · rw [decide_eq_false h, Bool.false_and]
   simp only [if_neg (show ¬ (d.length : Int) > 0 by omega)]
   exact Ev.now _
theorem impl_entry (d : List S151) (l : List S201) : Ev (fun k => impl_EntryRight.f k d l) (entryB d l) := by
 have bad : Ev (fun k => impl_EntryRight.j0 k true d l) false := Ev_one fun k => by simp [impl_EntryRight.j0]
 unfold impl_EntryRight.f entryB
 by_cases h : 1 ≤ d.length
 · rw [decide_eq_true h, Bool.true_and]
   simp only [if_neg (show ¬ (d.length : Int) = 0 by omega), impl_DnRight.f, Option.bind_some]
   cases dnB d
   · simpa using bad
   · simp only [if_true, Bool.true_and]
     by_cases h8 : l.length ≤ 8
     · rw [decide_eq_true h8, Bool.true_and, decide_eq_false (show ¬ (l.length : Int) > 8 by omega)]
       refine Ev.step (fun k => by simp only [impl_EntryRight.j0]; rw [if_neg (by simp)]) ?_
       have := all_loop (fun k i => impl_EntryRight.l0 k l (l.length : Int) i d l) (attrAt l) l.length true ?_ ?_
       · simpa using this
       · exact Ev_one fun k => by simp only [impl_EntryRight.l0]; rw [if_neg (by omega)]
       · intro i hi u hu
         have e0 : wrap64 ((i : Int) + 1) = ((i + 1 : Nat) : Int) := by rw [wsucc (by omega) (by omega)]; omega
         refine Ev.step (fun k => by simp only [impl_EntryRight.l0]; rw [if_pos (by omega), if_pos (by omega), if_pos (by omega), e0]) ?_
         refine Ev_bind (impl_attr _) ?_
         unfold attrAt stepB
         cases attrB (rd_T201 l (i : Int))
         · exact Ev_some fun k => by simp
         · simp only [if_true, Bool.true_and]
           by_cases h0 : i = 0
           · subst h0
             simpa using hu
           · rw [decide_eq_false h0, Bool.false_or]
             refine Ev.congr (fun k => by rw [if_pos (by omega), w_id (by omega) (by omega), if_pos (by omega), if_pos (by omega)]) ?_
             unfold lessB
             cases Op.bytesLess (rd_T201 l ((i : Int) - 1)).f0.toList (rd_T201 l (i : Int)).f0.toList
             · exact Ev_some fun k => by simp
             · simpa using hu
     · rw [decide_eq_false h8, Bool.false_and, decide_eq_true (show (l.length : Int) > 8 by omega)]
       simpa using bad
 · rw [decide_eq_false h, Bool.false_and]
   simp only [if_pos (show (d.length : Int) = 0 by omega)]
   exact bad
end Go.Proofs.YtmkpgddfoaglpaaGreatDoor.PG
