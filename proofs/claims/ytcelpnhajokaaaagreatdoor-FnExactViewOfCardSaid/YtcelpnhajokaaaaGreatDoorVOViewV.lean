/-
 ViewOf: the program's and the reference's both come to viewOut. Conditions: the lengths' bounds.
-/
import Derived.Test.YtcelpnhajokaaaaGreatDoorVOP8
import Derived.Test.YtcelpnhajokaaaaGreatDoorVOP3
import Derived.Test.YtcelpnhajokaaaaGreatDoorVOView
import Derived.Test.YtcelpnhajokaaaaGreatDoorVOLong
namespace Go.Proofs.YtcelpnhajokaaaaGreatDoor.PG
open Go.RowKit Go.Proofs.YtcelpnhajokaaaaGreatDoorW.PrintWords Go.Proofs.YtcelpnhajokaaaaGreatDoorW.PrintLast Go.Proofs.YtcelpnhajokaaaaGreatDoorW.PrintMore Go.Proofs.YtcelpnhajokaaaaGreatDoor.Gn Go.Proofs.YtcelpnhajokaaaaGreatDoor.Sem
set_option linter.unusedVariables false
set_option linter.unusedSimpArgs false
theorem long1 (s : ByteArray) : Ev (fun k => impl_isLong.f k [s]) (decide ((s.size : Int) > 8000)) := by
 have h := long_ev [s] (by simp)
 have e : [s].any longQ = decide ((s.size : Int) > 8000) := by simp [longQ]
 rw [e] at h
 exact h
def viewOut (l : List S116) (who : ByteArray) (x : List S161) (y : List S165) : List S161 × List S165 × Int :=
 if (who.size : Int) > 8000 ∨ (l.length : Int) > 400 then ([], [], 2)
 else if (aclB l && (entryB x y && nameB who)) = true then (if (viewV l who x y).2.2 = true then ((viewV l who x y).1, (viewV l who x y).2.1, 0) else ([], [], 11)) else ([], [], 1)
theorem entry_dn {x : List S161} {y : List S165} (h : entryB x y = true) : dnB x = true := by
 unfold entryB at h
 simp only [Bool.and_eq_true] at h
 exact h.2.1
theorem viewOk_of {l : List S116} {x : List S161} {y : List S165} (h : aclB l = true) (h2 : entryB x y = true) (hok : okEnt x y) : viewOk l x y = true := by
 unfold viewOk
 simp only [Bool.and_eq_true, decide_eq_true_eq, List.all_eq_true]
 exact ⟨h, entry_dn h2, hok.2.1, hok.2.2⟩
theorem impl_viewOf (l : List S116) (who : ByteArray) (x : List S161) (y : List S165) (hok : okEnt x y) : Ev (fun k => impl_ViewOf.f k l who x y) (viewOut l who x y) := by
 have j1f : Ev (fun k => impl_ViewOf.j1 k l who true x y) ([], [], 1) := Ev_one fun k => by simp only [impl_ViewOf.j1]; rw [if_pos trivial]
 have jT : Ev (fun k => impl_ViewOf.j0 k l who true x y) ([], [], 2) := Ev_one fun k => by simp only [impl_ViewOf.j0]; rw [if_pos trivial]
 unfold impl_ViewOf.f viewOut
 refine Ev_bind (long1 who) ?_
 by_cases h1 : (who.size : Int) > 8000
 · rw [decide_eq_true h1, if_pos (.inl h1)]
   exact Ev.congr (fun k => if_pos rfl) jT
 rw [decide_eq_false h1]
 refine Ev.congr (fun k => if_neg (by decide)) ?_
 refine Ev_bind (a := decide ((l.length : Int) > 400)) (Ev_some fun k => rfl) ?_
 by_cases h2 : (l.length : Int) > 400
 · rw [decide_eq_true h2, if_pos (.inr h2)]
   exact jT
 rw [decide_eq_false h2, if_neg (by omega)]
 refine Ev.step (fun k => by simp only [impl_ViewOf.j0]; rw [if_neg (by decide)]) ?_
 refine Ev_bind (a := aclB l) (Ev_some fun k => rfl) ?_
 cases ha : aclB l with
 | false => exact Ev.congr (fun k => if_neg (by decide)) j1f
 | true =>
   rw [Bool.true_and]
   refine Ev.congr (fun k => if_pos rfl) (Ev_bind (impl_entry x y) ?_)
   cases he : entryB x y with
   | false => exact Ev.congr (fun k => if_neg (by decide)) j1f
   | true =>
     rw [Bool.true_and]
     refine Ev.congr (fun k => if_pos rfl) (Ev_bind (Ev_some fun k => impl_name who) ?_)
     cases nameB who with
     | false => exact j1f
     | true =>
       rw [if_pos rfl]
       refine Ev.step (fun k => by simp only [impl_ViewOf.j1, Bool.not_true]; rw [if_neg (by decide)]) ?_
       have hv : impl_view.f l who x y = some (viewV l who x y) := by
         unfold impl_view.f
         rw [if_pos (viewOk_of ha he hok)]
       refine Ev_bind (Ev_some fun k => hv) ?_
       by_cases hq : (viewV l who x y).2.2 = true
       · rw [if_pos hq, if_pos hq]; exact Ev_some fun k => rfl
       · rw [if_neg hq, if_neg hq]; exact Ev_some fun k => rfl
theorem spec_viewOf (l : List S116) (who : ByteArray) (x : List S161) (y : List S165) (hok : okEnt x y) (hl : l.length ≤ 9223372036854775807) (hv : ∀ r, r ∈ l → r.f1.length ≤ 9223372036854775807 ∧ r.f2.length ≤ 9223372036854775807) : Ev (fun k => spec_ViewOf.f k l who x y) (viewOut l who x y) := by
 have j1f : Ev (fun k => spec_ViewOf.j1 k l who true x y) ([], [], 1) := Ev_one fun k => by simp only [spec_ViewOf.j1]; rw [if_pos trivial]; rfl
 have jT : Ev (fun k => spec_ViewOf.j0 k l who true x y) ([], [], 2) := Ev_one fun k => by simp only [spec_ViewOf.j0]; rw [if_pos trivial]; rfl
 unfold spec_ViewOf.f viewOut
 by_cases h2 : (l.length : Int) > 400
 · rw [if_pos (.inr h2)]
   exact Ev.congr (fun k => if_pos h2) jT
 refine Ev.congr (fun k => if_neg h2) ?_
 by_cases h1 : (who.size : Int) > 8000
 · rw [decide_eq_true h1, if_pos (.inl h1)]
   exact jT
 rw [decide_eq_false h1, if_neg (by omega)]
 refine Ev.step (fun k => by simp only [spec_ViewOf.j0]; rw [if_neg (by decide)]) ?_
 refine Ev_bind (spec_acl l hl hv) ?_
 cases ha : aclB l with
 | false => exact Ev.congr (fun k => if_neg (by decide)) j1f
 | true =>
   rw [Bool.true_and]
   refine Ev.congr (fun k => if_pos rfl) (Ev_bind (spec_name who) ?_)
   cases nameB who with
   | false =>
     rw [Bool.and_false]
     exact Ev.congr (fun k => if_neg (by decide)) j1f
   | true =>
     rw [Bool.and_true]
     refine Ev.congr (fun k => if_pos rfl) (Ev_bind (spec_entry x y (by have := hok.1; omega) (by have := hok.2.1; omega) (fun a ha => by have := hok.2.2 a ha; omega)) ?_)
     cases he : entryB x y with
     | false => exact j1f
     | true =>
       rw [if_pos rfl]
       refine Ev.step (fun k => by simp only [spec_ViewOf.j1, Bool.not_true]; rw [if_neg (by decide)]) ?_
       obtain ⟨q1, q2, q3, q4⟩ := viewOk_ok (viewOk_of ha he hok)
       refine Ev_bind (spec_view l q1 (by omega) who x q3 y q4) ?_
       by_cases hq : (viewV l who x y).2.2 = true
       · rw [if_pos hq, if_pos hq]; exact Ev_some fun k => rfl
       · rw [if_neg hq, if_neg hq]; exact Ev_some fun k => rfl
end Go.Proofs.YtcelpnhajokaaaaGreatDoor.PG
