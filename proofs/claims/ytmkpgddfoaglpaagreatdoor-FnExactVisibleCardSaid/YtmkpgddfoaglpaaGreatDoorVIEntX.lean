/-
 Entries by value and EntryOut, as the laws use them: contracts without rounds over one kind (mEnt): copies, marks, comparison. Conditions: what the arguments fit; the marks' numbers stay small.
-/
import Derived.Test.YtmkpgddfoaglpaaGreatDoorVIEntC
import Derived.Test.YtmkpgddfoaglpaaGreatDoorVIMarkRdnC
import Derived.Test.YtmkpgddfoaglpaaGreatDoorVIP1
import Derived.Test.YtmkpgddfoaglpaaGreatDoorVISq
import Derived.Test.YtmkpgddfoaglpaaGreatDoorVIP6
import Derived.Test.YtmkpgddfoaglpaaGreatDoorVIP2
import Derived.Test.YtmkpgddfoaglpaaGreatDoorVIMarkString
namespace Go.Proofs.YtmkpgddfoaglpaaGreatDoor.PG
set_option linter.unusedVariables false
set_option linter.unusedSimpArgs false
open Go.RowKit Go.Proofs.YtmkpgddfoaglpaaGreatDoorW.PrintWords Go.Proofs.YtmkpgddfoaglpaaGreatDoorW.PrintLast Go.Proofs.YtmkpgddfoaglpaaGreatDoorW.PrintMore Go.Proofs.YtmkpgddfoaglpaaGreatDoor.Gn Go.Proofs.YtmkpgddfoaglpaaGreatDoor
attribute [local go_sem] max2_int min2_int max_two min_two max_three min_three max_four min_four World.cell?_drew World.frozen?_drew
abbrev EM (V : World) (base : Nat) (ok : Nat → Prop) (y : S44) (A : Option Addr) (n c : Nat) (B : Option Addr) (m b : Nat) : Prop := mEnt.M V base ok y [.slice A n c, .slice B m b]
theorem EM_keep {V V' : World} {base : Nat} {ok : Nat → Prop} {y : S44} {A : Option Addr} {n c : Nat} {B : Option Addr} {m b : Nat} (h : EM V base ok y A n c B m b) (hb : Below V.heap.size V V') : EM V' base ok y A n c B m b := mEnt.M_below h hb
end Go.Proofs.YtmkpgddfoaglpaaGreatDoor.PG
/-
 Rules and access control lists: the program's isRule and AclRight, walked, and the reference's. Conditions: the lengths' bounds.
-/
namespace Go.Proofs.YtmkpgddfoaglpaaGreatDoor.PG
open Go.RowKit Go.Proofs.YtmkpgddfoaglpaaGreatDoorW.PrintWords Go.Proofs.YtmkpgddfoaglpaaGreatDoorW.PrintLast Go.Proofs.YtmkpgddfoaglpaaGreatDoorW.PrintMore Go.Proofs.YtmkpgddfoaglpaaGreatDoor.Gn Go.Proofs.YtmkpgddfoaglpaaGreatDoor.Sem
attribute [local go_sem] max2_int min2_int max_two min_two max_three min_three max_four min_four
set_option linter.unusedVariables false
set_option linter.unusedSimpArgs false
def restB (x : S108) : Bool := dnB x.f1 && (decide (x.f2.length ≤ 8) && (namesB x.f2 && (decide (1 ≤ x.f3) && decide (x.f3 ≤ 4))))
def ruleB (x : S108) : Bool := (x.f0.toList == ([42] : List UInt8) || nameB x.f0) && restB x
theorem impl_rule (x : S108) (h2 : x.f2.length ≤ 9223372036854775807) : Ev (fun k => impl_isRule.f k x.f0 x.f1 x.f2 x.f3 x.f4) (ruleB x) := by
 have rest : Ev (fun k => ((impl_DnRight.f x.f1).bind fun t => (if t = true then (if (x.f2.length : Int) ≤ 8 then ((impl_areNames.f k x.f2).bind fun t => (if t = true then ((impl_isRight.f x.f3).bind fun t => (some t)) else (some false))) else (some false)) else (some false)))) (restB x) := by
   refine Ev_bind (Ev_some fun k => rfl) ?_
   unfold restB
   cases dnB x.f1 with
   | false => exact Ev_some fun k => by simp
   | true =>
     simp only [if_true, Bool.true_and]
     by_cases h8 : (x.f2.length : Int) ≤ 8
     · rw [decide_eq_true (show x.f2.length ≤ 8 by omega), Bool.true_and]
       refine Ev.congr (fun k => if_pos h8) (Ev_bind (impl_names x.f2 h2) ?_)
       cases namesB x.f2 with
       | false => exact Ev_some fun k => by simp
       | true =>
         simp only [if_true, Bool.true_and]
         exact Ev_some fun k => by unfold impl_isRight.f; rw [between_eq]; rfl
     · rw [decide_eq_false (show ¬ x.f2.length ≤ 8 by omega), Bool.false_and]
       exact Ev_some fun k => if_neg h8
 unfold impl_isRule.f ruleB
 by_cases hs : x.f0.toList = ([42] : List UInt8)
 · rw [beq_iff_eq.2 hs, Bool.true_or, Bool.true_and]
   exact Ev.congr (fun k => if_pos hs) rest
 · rw [beq_eq_false_iff_ne.2 hs, Bool.false_or]
   refine Ev.congr (fun k => if_neg hs) (Ev_bind (Ev_some fun k => impl_name x.f0) ?_)
   cases nameB x.f0 with
   | false => exact Ev_some fun k => by simp
   | true =>
     simp only [if_true, Bool.true_and]
     exact rest
theorem spec_rule (x : S108) (h1 : x.f1.length ≤ 9223372036854775807) (h2 : x.f2.length ≤ 9223372036854775807) : Ev (fun k => spec_l06Rule.f k x.f0 x.f1 x.f2 x.f3 x.f4) (ruleB x) := by
 have rest : Ev (fun k => ((spec_DnRight.f k x.f1).bind fun t => (if t = true then (if (x.f2.length : Int) ≤ 8 then ((spec_l04Names.f k x.f2).bind fun t => (if t = true then ((spec_l02Is.f x.f3 1 4).bind fun t => (some t)) else (some false))) else (some false)) else (some false)))) (restB x) := by
   refine Ev_bind (spec_dn x.f1 h1) ?_
   unfold restB
   cases dnB x.f1 with
   | false => exact Ev_some fun k => by simp
   | true =>
     simp only [if_true, Bool.true_and]
     by_cases h8 : (x.f2.length : Int) ≤ 8
     · rw [decide_eq_true (show x.f2.length ≤ 8 by omega), Bool.true_and]
       refine Ev.congr (fun k => if_pos h8) (Ev_bind (spec_names x.f2 h2) ?_)
       cases namesB x.f2 with
       | false => exact Ev_some fun k => by simp
       | true =>
         simp only [if_true, Bool.true_and]
         exact Ev_some fun k => by rw [l02Is_eq]; rfl
     · rw [decide_eq_false (show ¬ x.f2.length ≤ 8 by omega), Bool.false_and]
       exact Ev_some fun k => if_neg h8
 unfold spec_l06Rule.f ruleB
 by_cases hs : x.f0.toList = ([42] : List UInt8)
 · rw [beq_iff_eq.2 hs, Bool.true_or, Bool.true_and]
   exact Ev.congr (fun k => if_pos hs) rest
 · rw [beq_eq_false_iff_ne.2 hs, Bool.false_or]
   refine Ev.congr (fun k => if_neg hs) (Ev_bind (spec_name x.f0) ?_)
   cases nameB x.f0 with
   | false => exact Ev_some fun k => by simp
   | true =>
     simp only [if_true, Bool.true_and]
     exact rest
def aclB (l : List S108) : Bool := decide (l.length ≤ 10) && l.all ruleB
theorem enters_165 : ∀ args w, (callFunc 165 args).run Tryz.prog w = .ok (.enter 165 args) w := enters_of Tryz.func165 (by kernel_rfl) rfl
set_option maxHeartbeats 1000000 in
theorem acl_clo (x : S108) (cs : List Value) (W : World) (hK : Kd.K k108 W x cs) :
   Calls Tryz.prog 165 #[.agg cs.toArray] W fun e w' => e = .returned (.bool (!ruleB x)) ∧ Below W.heap.size W w' := by
 obtain ⟨A1, c1, A2, c2, rfl, l1, g1, l2, g2⟩ := k108_open hK
 obtain ⟨k, hk⟩ := (impl_rule x (Kd.C_max g2)).rounds
 have HK := Aside0.mk hk
 have hb := (Below.refl W.heap.size W).alloc (Nat.le_refl _) (.cells #[.string x.f0, .slice A1 x.f1.length c1, .slice A2 x.f2.length c2, .int .i64 x.f3, .bool x.f4] 108)
 have H0 := Aside0.mk (Kd.C_below g1 hb)
 have H1 := Aside0.mk (Kd.C_below g2 hb)
 have L0 := Aside0.mk l1
 have L1 := Aside0.mk l2
 generalize ruleB x = b at HK ⊢
 clear hk g1 g2 l1 l2 hb hK
 go_enter Tryz.func165, Tryz.ntmps165
 go_wp2_with (go_at_call 166; refine (impl_isRule.calls k x.f0 A1 c1 x.f1 A2 c2 x.f2 x.f3 x.f4 b _ H0.out L0.out H1.out L1.out HK.out).mono ?_; rintro e w' ⟨rfl, hb'⟩)
 go_ret
 exact ⟨rfl, below_then ((Below.refl _ W).alloc (Nat.le_refl _) _) (by simp) hb'⟩
def impl_AclRight.f (l0 : List S108) : Option Bool := some (aclB l0)
set_option maxHeartbeats 2000000 in
set_option maxRecDepth 100000 in
theorem impl_AclRight.calls (A0 : Option Addr) (c0 : Nat) (l0 : List S108) (r : Bool) (w : World) (hr0 : Kd.C k108 w A0 l0.length l0) (hc0 : l0.length ≤ c0) (h : impl_AclRight.f l0 = some r) :
   Calls Tryz.prog 73 #[.slice A0 l0.length c0] w fun e w' => e = .returned (.bool r) ∧ Below w.heap.size w w' := by
 obtain rfl := Option.some.inj h
 clear h
 have hall : (!(l0.any fun x => !ruleB x)) = l0.all ruleB := by rw [List.all_eq_not_any_not]
 have hcon := slices_ContainsFunc_Rule.any_ 165 #[] (fun _ => True) (fun x => !ruleB x) (fun _ _ _ h => h)
   (fun W x cs _ hK => acl_clo x cs W hK) enters_165 A0 c0 l0 w hr0 trivial
 unfold aclB
 rw [← hall]
 generalize (l0.any fun x => !ruleB x) = b at hcon
 clear hall hr0
 by_cases hq : (l0.length : Int) ≤ 10
 · have d1 : decide ((l0.length : Int) ≤ 10) = true := decide_eq_true hq
   have d2 : decide (l0.length ≤ 10) = true := decide_eq_true (by omega)
   rw [d2]
   clear hq
   go_enter Tryz.func73, Tryz.ntmps73
   go_wp2_with (go_at_call 164; refine hcon.mono ?_; rintro e w' ⟨rfl, hb'⟩)
   go_ret
   exact ⟨by rw [Bool.true_and]; rfl, hb'⟩
 · have d1 : decide ((l0.length : Int) ≤ 10) = false := decide_eq_false hq
   have d2 : decide (l0.length ≤ 10) = false := decide_eq_false (by omega)
   rw [d2]
   clear hq
   go_enter Tryz.func73, Tryz.ntmps73
   go_wp2
   go_ret
   exact ⟨by rw [Bool.false_and]; rfl, Below.refl _ _⟩
theorem spec_acl (l : List S108) (hl : l.length ≤ 9223372036854775807) (hv : ∀ x, x ∈ l → x.f1.length ≤ 9223372036854775807 ∧ x.f2.length ≤ 9223372036854775807) : Ev (fun k => spec_AclRight.f k l) (aclB l) := by
 have key : ∀ (rs dn : List S108), dn ++ rs = l → Ev (fun k => spec_AclRight.l0 k l (dn.length : Int)) (rs.all ruleB && decide (l.length ≤ 10)) := by
   intro rs
   induction rs with
   | nil =>
     intro dn hp
     rw [List.append_nil] at hp
     refine Ev_one fun k => ?_
     rw [spec_AclRight.l0, if_neg (by rw [hp]; omega)]
     simp only [List.all_nil, Bool.true_and]
     congr 1
     rw [decide_eq_decide]
     omega
   | cons a r ih =>
     intro dn hp
     have hlen : l.length = dn.length + (r.length + 1) := by rw [← hp]; simp
     have hrd : rd_T108 l (dn.length : Int) = a := by
       rw [← hp]
       unfold rd_T108
       rw [Int.toNat_natCast]
       simp
     have h1 := ih (dn ++ [a]) (by rw [← hp]; simp)
     have ha := hv a (by rw [← hp]; simp)
     refine Ev.step (fun k => by rw [spec_AclRight.l0, if_pos (show (dn.length : Int) < (l.length : Int) by omega), if_pos (show 0 ≤ (dn.length : Int) by omega), hrd]) ?_
     refine Ev_bind (spec_rule a ha.1 ha.2) ?_
     rw [List.all_cons]
     cases ruleB a with
     | false => exact Ev_some fun k => by simp
     | true =>
       simp only [if_true, Bool.true_and]
       rw [show wrap64 ((dn.length : Int) + 1) = ((dn ++ [a]).length : Int) from by rw [wsucc (by omega) (by omega)]; simp]
       exact h1
 have h := key l [] rfl
 unfold aclB
 rw [Bool.and_comm]
 exact h
end Go.Proofs.YtmkpgddfoaglpaaGreatDoor.PG
/-
 A copy of []Entry, all rows apart (laws.toEntryS, walked by hand). Condition: what the argument fits.
-/
namespace Go.Proofs.YtmkpgddfoaglpaaGreatDoor.PG
set_option linter.unusedVariables false
set_option linter.unusedSimpArgs false
open Go.RowKit Go.Proofs.YtmkpgddfoaglpaaGreatDoorW.PrintWords Go.Proofs.YtmkpgddfoaglpaaGreatDoorW.PrintLast Go.Proofs.YtmkpgddfoaglpaaGreatDoorW.PrintMore Go.Proofs.YtmkpgddfoaglpaaGreatDoor.Gn Go.Proofs.YtmkpgddfoaglpaaGreatDoor
attribute [local go_sem] max2_int min2_int max_two min_two max_three min_three max_four min_four World.cell?_drew World.frozen?_drew
set_option maxHeartbeats 4000000 in
set_option maxRecDepth 100000 in
theorem toEnts_c (x : List S39) (w : Ft.fit23 x) (A : Option Addr) (c : Nat) (W : World) (hC : Kd.C k39 W A x.length x) (hc : x.length ≤ c) :
   Calls Tryz.prog 16 #[.slice A x.length c] W (RetEs (x.map conv_Entry) W) := by
 have hlen : x.length * 48 ≤ 140737488351232 := w.1
 have HR0 := Aside0.mk hC
 have HC0 := Aside0.mk hc
 have HW := Aside0.mk w.2
 have HLEN := Aside0.mk hlen
 have hn0 : (0 : Int) ≤ (x.length : Int) := by omega
 have hn1 : (x.length : Int).toNat * 48 ≤ 281474976710656 := by omega
 have hB := Below.refl W.heap.size W
 clear hC hc w hlen
 go_enter Tryz.func16, Tryz.ntmps16
 go_wp2_with (first | ((with_reducible refine gate_dst (N := 7) rfl ?_); refine Kd.S_make mEnt _ 44 rfl (N := 7) rfl 26 _ _ rfl (x.length : Int) rfl rfl Tryz.underlying26 (.agg #[(.slice none 0 0), (.slice none 0 0)]) 48 info44 rfl (by decide) (by omega) z44 (ok := fun _ => True) (okp := fun _ => True) mEnt_nil (fun _ hk => hk) trivial hn0 hn1 hB (Nat.le_refl _) ?_; intro v3 w3 hS hb hg_ hnew_; have HS3 := Aside0.mk hS; have HB3 := Aside0.mk hb; clear hS hb hg_ hnew_))
 go_loopw [4] (fun s4 wr => ∃ (dn rs : List S39), s4 = .int .i64 dn.length ∧ Aside0 (dn ++ rs = x) ∧ Aside0 (Kd.S mEnt 44 wr W.heap.size (fun _ => True) v3 (dn.map conv_Entry ++ List.replicate rs.length z44)) ∧ Aside0 (Below W.heap.size W wr)) (fun s4 _ => x.length - (intOf s4).toNat)
 case atStart => exact ⟨[], x, rfl, ⟨rfl⟩, ⟨by have h := HS3.out; rw [Int.toNat_natCast] at h; exact h⟩, HB3⟩
 case round =>
   obtain ⟨dn, rs, rfl, HX, HSR, HBR⟩ := hrel
   cases rs with
   | nil =>
     have hx := HX.out
     rw [List.append_nil] at hx
     subst hx
     have hlt : ¬ dn.length < dn.length := Nat.lt_irrefl _
     obtain ⟨A3, c3, rfl⟩ := Kd.S_slice HSR.out
     go_wp2
     go_ret
     have h := HSR.out
     simp only [List.length_nil, List.replicate_zero, List.append_nil] at h ⊢
     exact ⟨A3, c3, rfl, h, HBR.out⟩
   | cons a r =>
     have hx := HX.out
     have hlx : x.length = dn.length + (r.length + 1) := by rw [← hx]; simp
     have hlt : dn.length < x.length := by omega
     have hltI : ((dn.length : Nat) : Int) < (x.length : Int) := by omega
     have h0I : (0 : Int) ≤ ((dn.length : Nat) : Int) := Int.natCast_nonneg _
     have hrd : x.getD ((dn.length : Nat) : Int).toNat z39 = a := by rw [← hx]; exact rd_mid dn a r _
     obtain ⟨ad, A1, c1, A2, c2, rfl, hx0, hx1, hl0, hi0, hl1, hi1⟩ := at_T39 (Kd.C_below HR0.out HBR.out) ((dn.length : Nat) : Int) h0I hltI
     rw [show rd_T39 x ((dn.length : Nat) : Int) = a from hrd] at hx0 hx1 hl0 hi0 hl1 hi1
     rw [Int.toNat_natCast] at hx0 hx1
     have hsr : Kd.S mEnt 44 wr W.heap.size (fun _ => True) v3 (dn.map conv_Entry ++ z44 :: List.replicate r.length z44) := HSR.out
     obtain ⟨g, cap, hv, hbg, q1_, q2_⟩ := Kd.S_form hsr (by rw [List.length_append, List.length_cons]; omega)
     have hln : (dn.map conv_Entry ++ z44 :: List.replicate r.length z44).length = x.length := by rw [hlx]; simp
     rw [hln] at hv
     subst hv
     have hfit : Ft.fit39 a := HW.out a (by rw [← hx]; simp)
     have HCALL := Aside0.mk (toEntry_c a hfit A1 c1 A2 c2 wr hi0 hl0 hi1 hl1)
     have HSR2 := Aside0.mk hsr
     have HX2 := Aside0.mk hx
     have HG := Aside0.mk hbg
     have HLX := Aside0.mk hlx
     have HWI := Aside0.mk (show wrap64 ((dn.length : Int) + 1) = (dn.length : Int) + 1 from wsucc (by omega) (by have := HLEN.out; omega))
     clear hx hlx hrd hl0 hi0 hl1 hi1 hsr hbg q1_ q2_ hln hfit
     go_wp2_with (first | (go_at_call 25; refine HCALL.out.mono ?_; rintro e w2 ⟨A4, c4, B4, b4, rfl, hR4, hS4, hb4⟩; obtain ⟨u0, u1, y0, y1, y2, y3, hput⟩ := ent_put HSR2.out hb4 (ent_made (base := W.heap.size) hR4 hS4 HBR.out.size); rw [List.length_map] at y0 y1 y2 y3 hput; have HPUT := Aside0.mk hput; have HB4 := Aside0.mk (below_step HBR.out hb4); clear hR4 hS4 hb4 hput))
     refine ⟨⟨dn ++ [a], r, ?_, ⟨?_⟩, ⟨?_⟩, ⟨?_⟩⟩, ?_⟩
     · try rw [HWI.out]
       simp
     · rw [List.append_assoc]
       exact HX2.out
     · rw [List.map_append, List.append_assoc]
       exact HPUT.out
     · exact belows2 HB4.out HG.out _ _ _ _
     · have := HLX.out
       try rw [HWI.out]
       simp [intOf]
       omega
end Go.Proofs.YtmkpgddfoaglpaaGreatDoor.PG
