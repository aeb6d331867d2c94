/-
 The program's isLong over any number of texts: is one of them too long. Condition: as many texts as a slice may have.
-/
import Derived.Test.YtcelpnhajokaaaaGreatDoorVOP2
import Derived.Test.YtcelpnhajokaaaaGreatDoorVOGen
namespace Go.Proofs.YtcelpnhajokaaaaGreatDoor.PG
open Go.RowKit Go.Proofs.YtcelpnhajokaaaaGreatDoorW.PrintWords Go.Proofs.YtcelpnhajokaaaaGreatDoorW.PrintLast Go.Proofs.YtcelpnhajokaaaaGreatDoorW.PrintMore Go.Proofs.YtcelpnhajokaaaaGreatDoor.Gn
set_option linter.unusedVariables false
set_option linter.unusedSimpArgs false
def longQ (s : ByteArray) : Bool := decide ((s.size : Int) > 8000)
theorem long_ev (l : List ByteArray) (hl : l.length ≤ 9223372036854775807) : Ev (fun k => impl_isLong.f k l) (l.any longQ) := by
 unfold impl_isLong.f
 have key : ∀ (d i : Nat), i + d = l.length → Ev (fun k => impl_isLong.l0 k l (l.length : Int) (i : Int)) ((l.drop i).any longQ) := by
   intro d
   induction d with
   | zero =>
     intro i hi
     rw [List.drop_eq_nil_of_le (by omega)]
     exact Ev_one fun k => by simp only [impl_isLong.l0]; rw [if_neg (by omega)]; rfl
   | succ d ih =>
     intro i hi
     have hlt : i < l.length := by omega
     have e0 : wrap64 ((i : Int) + 1) = ((i + 1 : Nat) : Int) := by rw [wsucc (by omega) (by omega)]; omega
     have er : rdOf ByteArray.empty l (i : Int) = l[i]'hlt := by
       unfold rdOf
       rw [Int.toNat_natCast, getD_at hlt]
     rw [List.drop_eq_getElem_cons hlt, List.any_cons]
     refine Ev.step (fun k => by simp only [impl_isLong.l0]; rw [if_pos (by omega), if_pos (by omega), if_pos (by omega), e0, er]) ?_
     unfold longQ
     by_cases h : ((l[i]'hlt).size : Int) > 8000
     · rw [decide_eq_true h, Bool.true_or]
       exact Ev_some fun k => by rw [if_pos h]
     · rw [decide_eq_false h, Bool.false_or]
       exact Ev.congr (fun k => by rw [if_neg h]) (ih (i + 1) (by omega))
 have := key l.length 0 (by omega)
 rwa [List.drop_zero] at this
end Go.Proofs.YtcelpnhajokaaaaGreatDoor.PG
