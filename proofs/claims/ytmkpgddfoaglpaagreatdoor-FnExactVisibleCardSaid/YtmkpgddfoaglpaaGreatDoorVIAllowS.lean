/-
 What the first rule that applies says: the reference's l06Allowed. Conditions: valid rules, a valid DN.
-/
import Derived.Test.YtmkpgddfoaglpaaGreatDoorVIAllow
namespace Go.Proofs.YtmkpgddfoaglpaaGreatDoor.PG
open Go.RowKit Go.Proofs.YtmkpgddfoaglpaaGreatDoorW.PrintWords Go.Proofs.YtmkpgddfoaglpaaGreatDoorW.PrintLast Go.Proofs.YtmkpgddfoaglpaaGreatDoorW.PrintMore Go.Proofs.YtmkpgddfoaglpaaGreatDoor.Gn Go.Proofs.YtmkpgddfoaglpaaGreatDoor.Sem
set_option linter.unusedVariables false
set_option linter.unusedSimpArgs false
theorem spec_allow_l (l : List S108) (hl : ∀ x, x ∈ l → ruleB x = true) (hlen : l.length ≤ 1000000) (who attr : ByteArray) (right : Int) (dn : List S151) (hdn : dnB dn = true) :
   ∀ (m i : Nat), i + m = l.length → Ev (fun k => spec_l06Allowed.l0 k l who dn attr right (i : Int)) (allowR (appB who dn attr right) (l.drop i))
 | 0, i, hi => by
   rw [List.drop_eq_nil_of_le (by omega)]
   exact Ev_one fun k => by simp only [spec_l06Allowed.l0]; rw [if_neg (by omega)]; rfl
 | m + 1, i, hi => by
   have ih := spec_allow_l l hl hlen who attr right dn hdn m (i + 1) (by omega)
   have hlt : i < l.length := by omega
   have hrd : rd_T108 l (i : Int) = l[i] := by
     unfold rd_T108
     rw [Int.toNat_natCast, getD_at hlt]
   have hx := hl l[i] (List.getElem_mem hlt)
   have hu := spec_under hdn (rule_dn hx).1
   have hm := spec_has (l[i]).f2 attr (by have := (rule_dn hx).2; omega)
   have e0 : wrap64 ((i : Int) + 1) = ((i + 1 : Nat) : Int) := by rw [wsucc (by omega) (by omega)]; omega
   rw [List.drop_eq_getElem_cons hlt]
   unfold allowR appB
   -- what stands behind the look at who is meant
   have rest : ∀ (hw : ((l[i]).f0.toList == ([42] : List UInt8) || (l[i]).f0.toList == who.toList) = true), Ev (fun k => (if ((l[i]).f3) = right then ((spec_DnUnder.f k dn ((l[i]).f1)).bind fun t670 => (if t670 = true then (if (((l[i]).f2).length : Int) = 0 then (some ((l[i]).f4)) else ((spec_l04Has.f k ((l[i]).f2) attr).bind fun t671 => (if t671 = true then (some ((l[i]).f4)) else (spec_l06Allowed.l0 k l who dn attr right ((i + 1 : Nat) : Int))))) else (spec_l06Allowed.l0 k l who dn attr right ((i + 1 : Nat) : Int)))) else (spec_l06Allowed.l0 k l who dn attr right ((i + 1 : Nat) : Int))))
       (if (((l[i]).f0.toList == ([42] : List UInt8) || (l[i]).f0.toList == who.toList) && (underB dn (l[i]).f1 && ((l[i]).f3 == right && (decide (((l[i]).f2.length : Int) = 0) || decide (attr ∈ (l[i]).f2))))) = true then (l[i]).f4 else allowR (appB who dn attr right) (l.drop (i + 1))) := by
     intro hw
     rw [hw, Bool.true_and]
     by_cases hr : (l[i]).f3 = right
     · rw [beq_iff_eq.2 hr, Bool.true_and]
       refine Ev.congr (fun k => if_pos hr) (Ev_bind hu ?_)
       cases underB dn (l[i]).f1 with
       | false => exact Ev.congr (fun k => if_neg (by decide)) ih
       | true =>
         refine Ev.congr (fun k => if_pos rfl) ?_
         rw [Bool.true_and]
         by_cases hz : (((l[i]).f2).length : Int) = 0
         · rw [decide_eq_true hz, Bool.true_or, if_pos rfl]
           exact Ev_some fun k => if_pos hz
         · rw [decide_eq_false hz, Bool.false_or]
           refine Ev.congr (fun k => if_neg hz) (Ev_bind hm ?_)
           cases decide (attr ∈ (l[i]).f2) with
           | false => exact Ev.congr (fun k => if_neg (by decide)) ih
           | true => exact Ev_some fun k => if_pos rfl
     · rw [beq_eq_false_iff_ne.2 hr, Bool.false_and, Bool.and_false]
       exact Ev.congr (fun k => if_neg hr) ih
   by_cases hs : (l[i]).f0.toList = ([42] : List UInt8)
   · exact Ev.step (fun k => by simp only [spec_l06Allowed.l0]; rw [if_pos (by omega), if_pos (by omega), hrd, if_pos hs, e0]) (rest (by rw [beq_iff_eq.2 hs, Bool.true_or]))
   · by_cases hw : (l[i]).f0.toList = who.toList
     · exact Ev.step (fun k => by simp only [spec_l06Allowed.l0]; rw [if_pos (by omega), if_pos (by omega), hrd, if_neg hs, if_pos hw, e0]) (rest (by rw [beq_iff_eq.2 hw, Bool.or_true]))
     · rw [beq_eq_false_iff_ne.2 hs, beq_eq_false_iff_ne.2 hw, Bool.false_or, Bool.false_and]
       exact Ev.step (fun k => by simp only [spec_l06Allowed.l0]; rw [if_pos (by omega), if_pos (by omega), hrd, if_neg hs, if_neg hw, e0]) ih
theorem spec_allow (l : List S108) (hl : ∀ x, x ∈ l → ruleB x = true) (hlen : l.length ≤ 1000000) (who attr : ByteArray) (right : Int) (dn : List S151) (hdn : dnB dn = true) :
   Ev (fun k => spec_l06Allowed.f k l who dn attr right) (allowB l who dn attr right) := by
 have := spec_allow_l l hl hlen who attr right dn hdn l.length 0 (by omega)
 unfold spec_l06Allowed.f allowB
 simpa using this
end Go.Proofs.YtmkpgddfoaglpaaGreatDoor.PG
