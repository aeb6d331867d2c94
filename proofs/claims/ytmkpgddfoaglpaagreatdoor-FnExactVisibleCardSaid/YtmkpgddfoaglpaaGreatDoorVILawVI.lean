/-
 The walk of the law FnExactVisible. No condition but what the arguments fit.
-/
import Derived.Test.YtmkpgddfoaglpaaGreatDoorVIEntsL
import Derived.Test.YtmkpgddfoaglpaaGreatDoorVIVisS
import Derived.Test.YtmkpgddfoaglpaaGreatDoorVIEntX
namespace Go.Proofs.YtmkpgddfoaglpaaGreatDoor.PG
open Go.RowKit Go.Proofs.YtmkpgddfoaglpaaGreatDoorW.PrintWords Go.Proofs.YtmkpgddfoaglpaaGreatDoorW.PrintLast Go.Proofs.YtmkpgddfoaglpaaGreatDoorW.PrintMore Go.Proofs.YtmkpgddfoaglpaaGreatDoor.Gn Go.Proofs.YtmkpgddfoaglpaaGreatDoor
attribute [local go_sem] max2_int min2_int max_two min_two max_three min_three max_four min_four World.cell?_drew World.frozen?_drew
set_option linter.unusedVariables false
set_option linter.unusedSimpArgs false
theorem svis_c (l : List S108) (who : ByteArray) (es : List S44) (hl : lens_RuleS l) (hok : ∀ e, e ∈ es → okEnt e.f0 e.f1) (A0 : Option Addr) (c0 : Nat) (A : Option Addr) (c : Nat) (W : World) (h0 : Kd.C k108 W A0 l.length l) (l0 : l.length ≤ c0) (hC : Kd.C k44 W A es.length es) (hc : es.length ≤ c) :
   Calls Tryz.prog 14 #[.slice A0 l.length c0, .string who, .slice A es.length c] W (RetRd k44 (visV l who es) W) := by
 obtain ⟨k, hk⟩ := ev_at (spec_vis l who es hl.1 (fun r hr => ⟨(hl.2 r hr).2.1.1, (hl.2 r hr).2.2.1⟩) hok)
 refine (spec_Visible.calls k A0 c0 l who A c es _ W h0 l0 hC hc hk).mono ?_
 rintro e w' ⟨v, rfl, hR, hb⟩
 obtain ⟨A', c', rfl, h1, h2⟩ := Kd.R_reads hR
 exact ⟨A', c', rfl, h1, h2, hb⟩
theorem visV_mem {l : List S108} {who : ByteArray} {es : List S44} {o : S44} (h : o ∈ visV l who es) : ∃ e, e ∈ es ∧ VisOf o e := by
 unfold visV at h
 split at h
 · cases h
 · split at h
   · exact visL_mem l who es h
   · cases h
theorem visV_len (l : List S108) (who : ByteArray) (es : List S44) : (visV l who es).length ≤ 400 := by
 unfold visV
 split
 · exact Nat.zero_le _
 · split
   · have := visL_len l who es; omega
   · exact Nat.zero_le _
set_option maxHeartbeats 8000000 in
set_option maxRecDepth 100000 in
theorem walk_Visible (x0 : List S102) (x1 : ByteArray) (x2 : List S39) (w0 : Ft.fit22 x0) (w1 : x1.size ≤ 140737488351232) (w2 : Ft.fit23 x2) (A0 : Option Addr) (c0 : Nat) (A1 : Option Addr) (c1 : Nat) (W : World)
   (hC0 : Kd.C k102 W A0 x0.length x0) (hl0 : x0.length ≤ c0) (hC1 : Kd.C k39 W A1 x2.length x2) (hl1 : x2.length ≤ c1) :
   Calls Tryz.prog 3 #[.slice A0 x0.length c0, .string x1, .slice A1 x2.length c1] W (RetB true W) := by
 have HC0 := Aside0.mk (fun (V : World) (hb : Below W.heap.size W V) => Kd.C_below hC0 hb)
 have HC1 := Aside0.mk (fun (V : World) (hb : Below W.heap.size W V) => Kd.C_below hC1 hb)
 have HL := Aside0.mk (And.intro hl0 hl1)
 clear hl0 hl1
 by_cases hbig : (x1.size : Int) > 1048576
 · clear hC0 hC1
   go_enter Tryz.func3, Tryz.ntmps3
   go_wp2
   go_ret
   exact ⟨rfl, Below.refl _ _⟩
 obtain ⟨r0, hr0, hle0, hs0⟩ := sz_RuleS x0 w0 1048576 (by omega) (by omega)
 have hS0 := szRules_cL x0 1048576 r0 hr0 A0 c0 W hC0 HL.out.1
 clear hr0
 by_cases hneg0 : r0 < 0
 · have hd0 : decide (r0 < 0) = true := decide_eq_true hneg0
   clear hs0 hneg0 hle0 hC0 hC1
   go_enter Tryz.func3, Tryz.ntmps3
   go_wp2_with (go_at_call 12; refine hS0.mono ?_; rintro e w3 ⟨rfl, hb3⟩)
   go_ret
   exact ⟨rfl, hb3⟩
 have hd0 : decide (r0 < 0) = false := decide_eq_false hneg0
 obtain ⟨r1, hr1, hle1, hs1⟩ := sz_EntryS x2 w2 r0 (by omega) (by omega)
 have HS1 := Aside0.mk (fun (V : World) (hb : Below W.heap.size W V) => szEnts_cL x2 r0 r1 hr1 A1 c1 V (HC1.out V hb) HL.out.2)
 clear hr1
 by_cases hneg1 : r1 < 0
 · have hd1 : decide (r1 < 0) = true := decide_eq_true hneg1
   clear hs0 hneg0 hle0 hs1 hle1 hneg1 hC0 hC1
   go_enter Tryz.func3, Tryz.ntmps3
   go_wp2_with (first | (go_at_call 12; refine hS0.mono ?_; rintro e w3 ⟨rfl, hb3⟩; have HB3 := Aside0.mk hb3; clear hb3) | (go_at_call 13; refine (HS1.out _ HB3.out).mono ?_; rintro e w4 ⟨rfl, hb4⟩; have HB4 := Aside0.mk (below_step HB3.out hb4); clear hb4))
   go_ret
   exact ⟨rfl, HB4.out⟩
 have hd1 : decide (r1 < 0) = false := decide_eq_false hneg1
 have hsm0 := hs0 (by omega)
 have hsm1 := hs1 (by omega)
 have hln0 := lens_conv_RuleS x0 hsm0
 have hln := lens_conv_EntryS x2 hsm1
 obtain ⟨hy1, hy2⟩ := ents_smallL x2 hsm1
 have hrs := rules_smallL x0 hsm0
 have HT0 := Aside0.mk (fun (V : World) (hb : Below W.heap.size W V) => toRules_c x0 w0 A0 c0 V (HC0.out V hb) HL.out.1)
 have HT := Aside0.mk (fun (V : World) (hb : Below W.heap.size W V) => toEnts_c x2 w2 A1 c1 V (HC1.out V hb) HL.out.2)
 generalize x0.map conv_Rule = l at HT0 hln0 hrs
 generalize x2.map conv_Entry = y at HT hln hy1 hy2
 have HER := Aside0.mk (fun A B a b U h0 l0 h1 l1 => eqRules_cL l hln0 A B a b U h0 l0 h1 l1)
 have HEY := Aside0.mk (fun A B a b V h0 l0 h1 l1 => eqEnts_cL y hln A B a b V h0 l0 h1 l1)
 have HSP := Aside0.mk (fun A c B d V h0 l0 h1 l1 => svis_c l x1 y hln0 (fun e he => (hy2 e he).1) A c B d V h0 l0 h1 l1)
 have HIM := Aside0.mk (fun A c B d V h0 l0 h1 l1 => visible_c l x1 y (fun e he => (hy2 e he).1) A c B d V h0 l0 h1 l1)
 have hny : nEs y ≤ 2000000000000000000 := by
   have h1 := nEs_leL 1100000000000 y (fun a ha => (hy2 a ha).2.2.2)
   have h2 := Nat.mul_le_mul_right 1100000000000 hy1
   omega
 have hqm : ∀ o, o ∈ visV l x1 y → ∃ e, e ∈ y ∧ VisOf o e := fun o ho => visV_mem ho
 have hql := visV_len l x1 y
 generalize visV l x1 y = q at HSP HIM hqm hql
 have hq1 : ∀ o, o ∈ q → o.f0.length ≤ 1048576 ∧ o.f1.length ≤ 1048576 ∧ n_Ent o ≤ 110000000000000 ∧ lens_Entry o := by
   intro o ho
   obtain ⟨e, he, hv0, hv1, hv2⟩ := hqm o ho
   obtain ⟨k1, k2, k3, k4⟩ := hy2 e he
   have kl := hln.2 e he
   have h0 : o.f0.length ≤ 1048576 := by rcases hv0 with h | h <;> rw [h] <;> first | exact k2 | exact Nat.zero_le _
   have h3 := nAs_leV 100000000 o.f1 (fun a ha => k1.2.2 a (hv2 a ha))
   have h7 := Nat.mul_le_mul_right (100000000 + 1) (show o.f1.length ≤ 1048576 by omega)
   refine ⟨h0, by omega, by unfold n_Ent; omega, ?_, ?_, fun a ha => kl.2.2 a (hv2 a ha)⟩
   · rcases hv0 with h | h <;> rw [h] <;> first | exact kl.1 | exact ⟨Nat.zero_le _, fun _ h => by cases h⟩
   · show o.f1.length ≤ _
     omega
 have hnq : nEs q ≤ 2000000000000000000 := by
   have h1 := nEs_leL 110000000000000 q (fun a ha => (hq1 a ha).2.2.1)
   have h2 := Nat.mul_le_mul_right 110000000000000 hql
   omega
 have HEQ := Aside0.mk (fun A B a b V h0 l0 h1 l1 => eqEnts_cL q ⟨by omega, fun e he => (hq1 e he).2.2.2⟩ A B a b V h0 l0 h1 l1)
 have HMR := Aside0.mk (fun w0 ok A c V hB hS => markRules_c w0 ok A l.length c l 1 V hB hS (by have := hrs.1; omega) (by decide) (by have := hrs.2; omega))
 have hnr := hrs.2
 generalize nRs l = nr at HMR hnr
 have HMY := Aside0.mk (fun w0 ok A c V hB hS => markEnts_c w0 ok A y.length c y (1 + (nr : Int)) V hB hS (by omega) (by omega) (by omega))
 have HMQ := Aside0.mk (fun w0 ok A c V hB hS => markEnts_c w0 ok A q.length c q 1 V hB hS (by omega) (by omega) (by omega))
 have HHQ := Aside0.mk (fun A c V hC hc => heldEnts_cL q q.length rfl 1 (by omega) (by omega) (by omega) A c V hC hc)
 generalize nEs y = ny at HMY hny
 generalize nEs q = nq at HMQ HHQ hnq
 have hp1 : ¬ (1 + (nr : Int) + (ny : Int) < 0) := by omega
 have hp2 : ¬ (1 + (nq : Int) < 0) := by omega
 clear hs0 hneg0 hle0 hs1 hneg1 hle1 hC0 hC1 w0 w1 w2 hsm0 hsm1 hln0 hln hy1 hy2 hrs hqm hql hq1 hny hnq hnr
 go_enter Tryz.func3, Tryz.ntmps3
 go_wp2_with (first | (go_at_call 12; have hc := hS0; (with_reducible refine hc.mono ?_); rintro e V1 ⟨rfl, hb⟩; have HB1 := Aside0.mk hb; clear hb; clear hc) | (go_at_call 13; have hc := HS1.out V1 HB1.out; (with_reducible refine hc.mono ?_); rintro e V2 ⟨rfl, hb⟩; have HB2 := Aside0.mk (below_step HB1.out hb); clear hb; clear hc) | (go_at_call 15; have hc := HT0.out V2 HB2.out; (with_reducible refine hc.mono ?_); rintro e V3 ⟨A3, c3, rfl, hS, hb⟩; have HB3 := Aside0.mk (below_step HB2.out hb); have X3 := Aside0.mk (rule_VL hS); clear hS hb; clear hc) | (go_at_call 16; have hc := HT.out V3 HB3.out; (with_reducible refine hc.mono ?_); rintro e V4 ⟨A4, c4, rfl, hS, hb⟩; have HB4 := Aside0.mk (below_step HB3.out hb); have X4 := Aside0.mk (E_CL hS); have Y4 := Aside0.mk (Kd.C_below X3.out.2 hb); clear hS hb; clear hc) | (go_at_call 14; have hc := HSP.out A3 c3 A4 c4 V4 Y4.out X3.out.1 X4.out.2 X4.out.1; (with_reducible refine hc.mono ?_); rintro e V5 ⟨A5, c5, rfl, hl5, hC5, hb⟩; have HB5 := Aside0.mk (below_step HB4.out hb); have X5 := Aside0.mk (And.intro hl5 hC5); clear hl5 hC5 hb; clear hc) | (go_at_call 15; have hc := HT0.out V5 HB5.out; (with_reducible refine hc.mono ?_); rintro e V6 ⟨A6, c6, rfl, hS, hb⟩; have B6 := Aside0.mk hb; have U6 := Aside0.mk (S_rangeV hS (Nat.le_refl _)); clear hS hb; clear hc) | (go_at_call 16; have hc := HT.out V6 (below_step HB5.out B6.out); (with_reducible refine hc.mono ?_); rintro e V7 ⟨A7, c7, rfl, hS, hb⟩; have B7 := Aside0.mk (below_step B6.out hb); have U7 := Aside0.mk (Kd.S_below U6.out hb); have E7 := Aside0.mk (S_rangeV hS B6.out.size); have HSZ := Aside0.mk (show V6.heap.size ≤ V7.heap.size from hb.size); clear hS hb; clear hc) | (go_at_call 17; have hc := HIM.out A6 c6 A7 c7 V7 (rule_VL U7.out).2 (rule_VL U7.out).1 (E_CL E7.out).2 (E_CL E7.out).1; (with_reducible refine hc.mono ?_); rintro e V8 ⟨A8, c8, rfl, hS, hb⟩; have B8 := Aside0.mk (below_step B7.out hb); have U8 := Aside0.mk (Kd.S_below U7.out hb); have E8 := Aside0.mk (Kd.S_below E7.out hb); have R8 := Aside0.mk (S_rangeV hS B7.out.size); clear hS hb; clear hc) | (go_at_call 18; have hc := HEQ.out A8 A5 c8 c5 V8 (E_CL R8.out).2 (E_CL R8.out).1 (Kd.C_below X5.out.2 B8.out) X5.out.1; (with_reducible refine hc.mono ?_); rintro e V9 ⟨rfl, hb⟩; have B9 := Aside0.mk (below_step B8.out hb); have U9 := Aside0.mk (Kd.S_below U8.out hb); have E9 := Aside0.mk (Kd.S_below E8.out hb); have R9 := Aside0.mk (Kd.S_below R8.out hb); clear hb; clear hc) | (go_at_call 15; have hc := HT0.out V9 (below_step HB5.out B9.out); (with_reducible refine hc.mono ?_); rintro e V10 ⟨A10, c10, rfl, hS, hb⟩; have B10 := Aside0.mk (below_step B9.out hb); have U10 := Aside0.mk (Kd.S_below U9.out hb); have E10 := Aside0.mk (Kd.S_below E9.out hb); have R10 := Aside0.mk (Kd.S_below R9.out hb); have Z10 := Aside0.mk (rule_VL hS); clear hS hb; clear hc) | (go_at_call 19; have hc := HER.out A6 A10 c6 c10 V10 (rule_VL U10.out).2 (rule_VL U10.out).1 Z10.out.2 Z10.out.1; (with_reducible refine hc.mono ?_); rintro e V11 ⟨rfl, hb⟩; have B11 := Aside0.mk (below_step B10.out hb); have U11 := Aside0.mk (Kd.S_below U10.out hb); have E11 := Aside0.mk (Kd.S_below E10.out hb); have R11 := Aside0.mk (Kd.S_below R10.out hb); clear hb; clear hc) | (go_at_call 16; have hc := HT.out V11 (below_step HB5.out B11.out); (with_reducible refine hc.mono ?_); rintro e V12 ⟨A12, c12, rfl, hS, hb⟩; have B12 := Aside0.mk (below_step B11.out hb); have U12 := Aside0.mk (Kd.S_below U11.out hb); have E12 := Aside0.mk (Kd.S_below E11.out hb); have R12 := Aside0.mk (Kd.S_below R11.out hb); have Z12 := Aside0.mk (E_CL hS); clear hS hb; clear hc) | (go_at_call 18; have hc := HEY.out A7 A12 c7 c12 V12 (E_CL E12.out).2 (E_CL E12.out).1 Z12.out.2 Z12.out.1; (with_reducible refine hc.mono ?_); rintro e V13 ⟨rfl, hb⟩; have B13 := Aside0.mk (below_step B12.out hb); have U13 := Aside0.mk (Kd.S_below U12.out hb); have E13 := Aside0.mk (Kd.S_below E12.out hb); have R13 := Aside0.mk (Kd.S_below R12.out hb); clear hb; clear hc) | (go_at_call 20; have hc := HMR.out V5 _ A6 c6 V13 B13.out U13.out; (with_reducible refine hc.mono ?_); rintro e V14 ⟨rfl, hS, hb, hk⟩; have B14 := Aside0.mk hb; have E14 := Aside0.mk (Kd.S_kept E13.out hk (fun k h1 h2 => Nat.lt_irrefl _ (Nat.lt_of_lt_of_le h2.2 h1.1))); have R14 := Aside0.mk (Kd.S_kept R13.out hk (fun k h1 h2 => by have := B6.out.size; have := HSZ.out; omega)); clear hS hb hk; clear hc) | (go_at_call 21; have hc := HMY.out V5 _ A7 c7 V14 B14.out E14.out; (with_reducible refine hc.mono ?_); rintro e V15 ⟨rfl, hS, hb, hk⟩; have B15 := Aside0.mk hb; have R15 := Aside0.mk (Kd.S_kept R14.out hk (fun k h1 h2 => Nat.lt_irrefl _ (Nat.lt_of_lt_of_le h2.2 h1.1))); clear hS hb hk; clear hc) | (go_at_call 18; have hc := HEQ.out A8 A5 c8 c5 V15 (E_CL R15.out).2 (E_CL R15.out).1 (Kd.C_below X5.out.2 B15.out) X5.out.1; (with_reducible refine hc.mono ?_); rintro e V16 ⟨rfl, hb⟩; have B16 := Aside0.mk (below_step B15.out hb); have R16 := Aside0.mk (Kd.S_below R15.out hb); clear hb; clear hc) | (go_at_call 21; have hc := HMQ.out V5 _ A8 c8 V16 B16.out R16.out; (with_reducible refine hc.mono ?_); rintro e V17 ⟨rfl, hS, hb, hk⟩; have B17 := Aside0.mk hb; have R17 := Aside0.mk hS; clear hS hb hk; clear hc) | (go_at_call 22; have hc := HHQ.out A8 c8 V17 (E_CL R17.out).2 (E_CL R17.out).1; (with_reducible refine hc.mono ?_); rintro e V18 ⟨rfl, hb⟩; have B18 := Aside0.mk (below_step B17.out hb); have R18 := Aside0.mk (Kd.S_below R17.out hb); clear hb; clear hc) | (go_at_call 15; have hc := HT0.out V18 (below_step HB5.out B18.out); (with_reducible refine hc.mono ?_); rintro e V19 ⟨A19, c19, rfl, hS, hb⟩; have B19 := Aside0.mk (below_step B18.out hb); have R19 := Aside0.mk (Kd.S_below R18.out hb); have Z19 := Aside0.mk (rule_VL hS); clear hS hb; clear hc) | (go_at_call 16; have hc := HT.out V19 (below_step HB5.out B19.out); (with_reducible refine hc.mono ?_); rintro e V20 ⟨A20, c20, rfl, hS, hb⟩; have B20 := Aside0.mk (below_step B19.out hb); have R20 := Aside0.mk (Kd.S_below R19.out hb); have Z20 := Aside0.mk (E_CL hS); have Y20 := Aside0.mk (Kd.C_below Z19.out.2 hb); clear hS hb; clear hc) | (go_at_call 17; have hc := HIM.out A19 c19 A20 c20 V20 Y20.out Z19.out.1 Z20.out.2 Z20.out.1; (with_reducible refine hc.mono ?_); rintro e V21 ⟨A21, c21, rfl, hS, hb⟩; have B21 := Aside0.mk (below_step B20.out hb); have R21 := Aside0.mk (Kd.S_below R20.out hb); have Z21 := Aside0.mk (E_CL hS); clear hS hb; clear hc) | (go_at_call 18; have hc := HEQ.out A21 A5 c21 c5 V21 Z21.out.2 Z21.out.1 (Kd.C_below X5.out.2 B21.out) X5.out.1; (with_reducible refine hc.mono ?_); rintro e V22 ⟨rfl, hb⟩; have B22 := Aside0.mk (below_step B21.out hb); have R22 := Aside0.mk (Kd.S_below R21.out hb); clear hb; clear hc) | (go_at_call 22; have hc := HHQ.out A8 c8 V22 (E_CL R22.out).2 (E_CL R22.out).1; (with_reducible refine hc.mono ?_); rintro e V23 ⟨rfl, hb⟩; have B23 := Aside0.mk (below_step B22.out hb); clear hb; clear hc))
 go_ret
 exact ⟨rfl, below_step HB5.out B23.out⟩
end Go.Proofs.YtmkpgddfoaglpaaGreatDoor.PG
