/-
 The reference's Visible comes to visV. Conditions: the lengths' bounds.
-/
import Derived.Test.YtmkpgddfoaglpaaGreatDoorVIVis
import Derived.Test.YtmkpgddfoaglpaaGreatDoorVIP3
namespace Go.Proofs.YtmkpgddfoaglpaaGreatDoor.PG
set_option linter.unusedVariables false
set_option linter.unusedSimpArgs false
open Go.RowKit Go.Proofs.YtmkpgddfoaglpaaGreatDoorW.PrintWords Go.Proofs.YtmkpgddfoaglpaaGreatDoorW.PrintLast Go.Proofs.YtmkpgddfoaglpaaGreatDoorW.PrintMore Go.Proofs.YtmkpgddfoaglpaaGreatDoor.Gn Go.Proofs.YtmkpgddfoaglpaaGreatDoor.Sem Go.Proofs.YtmkpgddfoaglpaaGreatDoor
theorem spec_entries_l (es : List S44) (hl : es.length ≤ 1000000000) (hok : ∀ e, e ∈ es → okEnt e.f0 e.f1) : ∀ (m i : Nat), i + m = es.length → Ev (fun k => spec_l06Entries.l0 k es (i : Int)) ((es.drop i).all entOk)
 | 0, i, hi => by
   rw [List.drop_eq_nil_of_le (by omega)]
   exact Ev_one fun k => by simp only [spec_l06Entries.l0]; rw [if_neg (by omega)]; rfl
 | m + 1, i, hi => by
   have ih := spec_entries_l es hl hok m (i + 1) (by omega)
   have hlt : i < es.length := by omega
   have hrd : rd_T44 es (i : Int) = es[i] := by
     unfold rd_T44
     rw [Int.toNat_natCast, getD_at hlt]
   have ho := hok es[i] (List.getElem_mem hlt)
   have e0 : wrap64 ((i : Int) + 1) = ((i + 1 : Nat) : Int) := by rw [wsucc (by omega) (by omega)]; omega
   rw [List.drop_eq_getElem_cons hlt, List.all_cons]
   refine Ev.step (fun k => by simp only [spec_l06Entries.l0]; rw [if_pos (by omega), if_pos (by omega), hrd, e0]) ?_
   refine Ev_bind (spec_entry (es[i]).f0 (es[i]).f1 (by have := ho.1; omega) (by have := ho.2.1; omega) (fun a ha => by have := ho.2.2 a ha; omega)) ?_
   show Ev _ (entryB (es[i]).f0 (es[i]).f1 && (es.drop (i + 1)).all entOk)
   cases entryB (es[i]).f0 (es[i]).f1 with
   | false => exact Ev_some fun k => by simp
   | true =>
     rw [Bool.true_and]
     exact Ev.congr (fun k => by simp) ih
theorem spec_entries (es : List S44) (hl : es.length ≤ 1000000000) (hok : ∀ e, e ∈ es → okEnt e.f0 e.f1) : Ev (fun k => spec_l06Entries.f k es) (es.all entOk) := by
 have := spec_entries_l es hl hok es.length 0 (by omega)
 unfold spec_l06Entries.f
 simpa using this
theorem spec_vis_l (l : List S108) (hrl : ∀ x, x ∈ l → ruleB x = true) (hll : l.length ≤ 1000000) (who : ByteArray) (es : List S44) (hl : es.length ≤ 1000000) (hdn : ∀ e, e ∈ es → dnB e.f0 = true) (hok : ∀ e, e ∈ es → okEnt e.f0 e.f1) : ∀ (m i : Nat) (acc : List S44), i + m = es.length → acc.length ≤ i → Ev (fun k => spec_Visible.l0 k l who es acc (i : Int)) (acc ++ visL l who (es.drop i))
 | 0, i, acc, hi, _ => by
   rw [List.drop_eq_nil_of_le (by omega), visL_nil, List.append_nil]
   exact Ev_one fun k => by simp only [spec_Visible.l0]; rw [if_neg (by omega)]
 | m + 1, i, acc, hi, ha => by
   have hlt : i < es.length := by omega
   have hrd : rd_T44 es (i : Int) = es[i] := by
     unfold rd_T44
     rw [Int.toNat_natCast, getD_at hlt]
   have hm := List.getElem_mem hlt
   have e0 : wrap64 ((i : Int) + 1) = ((i + 1 : Nat) : Int) := by rw [wsucc (by omega) (by omega)]; omega
   rw [List.drop_eq_getElem_cons hlt]
   refine Ev.step (fun k => by simp only [spec_Visible.l0]; rw [if_pos (by omega), if_pos (by omega), hrd, e0]) ?_
   refine Ev_bind (spec_view l hrl hll who (es[i]).f0 (hdn _ hm) (es[i]).f1 (hok _ hm)) ?_
   by_cases hq : (viewV l who (es[i]).f0 (es[i]).f1).2.2 = true
   · rw [visL_yes hq]
     refine Ev.congr (fun k => if_pos hq) (Ev.congr (fun k => if_pos (by omega)) ?_)
     have := spec_vis_l l hrl hll who es hl hdn hok m (i + 1) (acc ++ [⟨(viewV l who (es[i]).f0 (es[i]).f1).1, (viewV l who (es[i]).f0 (es[i]).f1).2.1⟩]) (by omega) (by simp only [List.length_append, List.length_cons, List.length_nil]; omega)
     rw [List.append_assoc, List.singleton_append] at this
     exact this
   · rw [visL_no hq]
     exact Ev.congr (fun k => if_neg hq) (spec_vis_l l hrl hll who es hl hdn hok m (i + 1) acc (by omega) (by omega))
theorem acl_ok {l : List S108} (h : aclB l = true) : (∀ r, r ∈ l → ruleB r = true) ∧ l.length ≤ 10 := by
 unfold aclB at h
 simp only [Bool.and_eq_true, decide_eq_true_eq, List.all_eq_true] at h
 exact ⟨h.2, h.1⟩
theorem spec_vis (l : List S108) (who : ByteArray) (es : List S44) (hl : l.length ≤ 9223372036854775807) (hv : ∀ r, r ∈ l → r.f1.length ≤ 9223372036854775807 ∧ r.f2.length ≤ 9223372036854775807) (hok : ∀ e, e ∈ es → okEnt e.f0 e.f1) : Ev (fun k => spec_Visible.f k l who es) (visV l who es) := by
 have jT : Ev (fun k => spec_Visible.j0 k l who es [] true) [] := Ev_one fun k => by simp only [spec_Visible.j0]; rw [if_pos trivial]
 have bad : aclB l = false ∨ nameB who = false → visV l who es = [] := by
   intro h
   unfold visV
   split
   · rfl
   · rw [if_neg]
     rcases h with h | h <;> rw [h] <;> simp
 unfold spec_Visible.f
 refine Ev_bind (a := ([] : List S44)) (Ev_some fun k => rfl) ?_
 by_cases h1 : (l.length : Int) > 400
 · have ha : aclB l = false := by
     by_cases h : aclB l = true
     · have := (acl_ok h).2; omega
     · simpa using h
   rw [bad (.inl ha)]
   exact Ev.congr (fun k => if_pos h1) jT
 refine Ev.congr (fun k => if_neg h1) ?_
 by_cases h2 : (who.size : Int) > 8000
 · have hn : nameB who = false := by
     by_cases h : nameB who = true
     · have := name_size h; omega
     · simpa using h
   rw [bad (.inr hn)]
   exact Ev.congr (fun k => if_pos h2) jT
 refine Ev.congr (fun k => if_neg h2) ?_
 by_cases h3 : (es.length : Int) > 400
 · unfold visV
   rw [if_pos h3]
   exact Ev.congr (fun k => if_pos h3) jT
 refine Ev.congr (fun k => if_neg h3) ?_
 refine Ev_bind (spec_acl l hl hv) ?_
 cases ha : aclB l with
 | false => rw [bad (.inl ha)]; exact Ev.congr (fun k => if_neg (by decide)) jT
 | true =>
   refine Ev.congr (fun k => if_pos rfl) (Ev_bind (spec_name who) ?_)
   cases hn : nameB who with
   | false => rw [bad (.inr hn)]; exact Ev.congr (fun k => if_neg (by decide)) jT
   | true =>
     refine Ev.congr (fun k => if_pos rfl) (Ev_bind (spec_entries es (by omega) hok) ?_)
     unfold visV
     rw [if_neg h3, ha, hn]
     cases hq : es.all entOk with
     | false => exact jT
     | true =>
       rw [if_pos (show (true && (true && true)) = true from rfl)]
       obtain ⟨q1, q2⟩ := acl_ok ha
       refine Ev.step (fun k => by simp only [spec_Visible.j0, Bool.not_true]; rw [if_neg (by decide)]) ?_
       have := spec_vis_l l q1 (by omega) who es (by omega) (fun e he => entry_dn (List.all_eq_true.1 hq e he)) hok es.length 0 [] (by omega) (Nat.le_refl _)
       simpa using this
end Go.Proofs.YtmkpgddfoaglpaaGreatDoor.PG
