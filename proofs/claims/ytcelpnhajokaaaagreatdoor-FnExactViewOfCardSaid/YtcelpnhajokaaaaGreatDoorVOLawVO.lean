/-
 The walk of the law FnExactViewOf. No condition but what the arguments fit.
-/
import Derived.Deep.RegionHeld3
import Derived.Test.YtcelpnhajokaaaaGreatDoorVORgI
import Derived.Test.YtcelpnhajokaaaaGreatDoorVOViewV
import Derived.Test.YtcelpnhajokaaaaGreatDoorVOEntC
import Derived.Test.YtcelpnhajokaaaaGreatDoorVORuleM
import Derived.Test.YtcelpnhajokaaaaGreatDoorVOMarkAttr
import Derived.Test.YtcelpnhajokaaaaGreatDoorVOMarkRdnC
import Derived.Test.YtcelpnhajokaaaaGreatDoorVOP3
import Derived.Test.YtcelpnhajokaaaaGreatDoorVOSq
namespace Go.Proofs.YtcelpnhajokaaaaGreatDoor.PG
open Go.Proofs.YtcelpnhajokaaaaGreatDoor.Sq Go.RowKit Go.Proofs.YtcelpnhajokaaaaGreatDoorW.PrintWords Go.Proofs.YtcelpnhajokaaaaGreatDoorW.PrintLast Go.Proofs.YtcelpnhajokaaaaGreatDoorW.PrintMore Go.Proofs.YtcelpnhajokaaaaGreatDoor.Gn Go.Proofs.YtcelpnhajokaaaaGreatDoor
attribute [local go_sem] max2_int min2_int max_two min_two max_three min_three max_four min_four World.cell?_drew World.frozen?_drew
set_option linter.unusedVariables false
set_option linter.unusedSimpArgs false
theorem szRules_c (x : List S110) (acc r : Int) (hr : Ev (fun k => laws_szRuleS.f k x acc) r) (A : Option Addr) (c : Nat) (W : World) (hC : Kd.C k110 W A x.length x) (hc : x.length ≤ c) :
   Calls Tryz.prog 23 #[.slice A x.length c, .int .i64 acc] W (RetI r W) := by
 obtain ⟨k, hk⟩ := ev_at hr; exact laws_szRuleS.calls k A c x acc r W hC hc hk
theorem eqRules_c (y : List S116) (h : lens_RuleS y) (A B : Option Addr) (a b : Nat) (W : World) (h0 : Kd.C k116 W A y.length y) (l0 : y.length ≤ a) (h1 : Kd.C k116 W B y.length y) (l1 : y.length ≤ b) :
   Calls Tryz.prog 28 #[.slice A y.length a, .slice B y.length b] W (RetB true W) := by
 obtain ⟨k, hk⟩ := ev_at (eq_RuleS y h); exact laws_eqRuleS.calls k A a y B b y true W h0 l0 h1 l1 hk
theorem rule_V {e : Nat} {V : World} {base : Nat} {ok : Nat → Prop} {A : Option Addr} {n c : Nat} {xs : List S116} (h : Kd.S mRule e V base ok (.slice A n c) xs) : n ≤ c ∧ Kd.C k116 V A n xs := ⟨(S_CV h).1, (S_CV h).2⟩
theorem iview_c (l : List S116) (who : ByteArray) (y : S46) (hok : okEnt y.f0 y.f1) (A : Option Addr) (c : Nat) (A1 : Option Addr) (c1 : Nat) (B1 : Option Addr) (b1 : Nat) (W : World) (hC : Kd.C k116 W A l.length l) (hc : l.length ≤ c) (h1 : EC W y A1 c1 B1 b1) :
   Calls Tryz.prog 26 #[.slice A l.length c, .string who, .agg #[.slice A1 y.f0.length c1, .slice B1 y.f1.length b1]] W (RetEO (viewOut l who y.f0 y.f1) W) := by
 obtain ⟨p1, p2, p3, p4⟩ := h1; obtain ⟨k, hk⟩ := ev_at (impl_viewOf l who y.f0 y.f1 hok); generalize viewOut l who y.f0 y.f1 = r at hk ⊢; obtain ⟨r1, r2, r3⟩ := r; refine (impl_ViewOf.calls k A c l who A1 c1 y.f0 B1 b1 y.f1 r1 r2 r3 W hC hc p2 p1 p4 p3 hk).mono ?_; rintro e w' ⟨v0, v1, rfl, hR, hS, hb⟩; obtain ⟨A', c', rfl⟩ := Kd.R_slice hR; obtain ⟨B', b', rfl⟩ := Kd.S_slice hS; exact ⟨A', c', B', b', rfl, EM_of hR hS (Nat.le_refl _), hb⟩
theorem sview_c (l : List S116) (who : ByteArray) (y : S46) (hok : okEnt y.f0 y.f1) (hl : lens_RuleS l) (A : Option Addr) (c : Nat) (A1 : Option Addr) (c1 : Nat) (B1 : Option Addr) (b1 : Nat) (W : World) (hC : Kd.C k116 W A l.length l) (hc : l.length ≤ c) (h1 : EC W y A1 c1 B1 b1) :
   Calls Tryz.prog 24 #[.slice A l.length c, .string who, .agg #[.slice A1 y.f0.length c1, .slice B1 y.f1.length b1]] W (RetEO (viewOut l who y.f0 y.f1) W) := by
 obtain ⟨p1, p2, p3, p4⟩ := h1; obtain ⟨k, hk⟩ := ev_at (spec_viewOf l who y.f0 y.f1 hok hl.1 (fun r hr => ⟨(hl.2 r hr).2.1.1, (hl.2 r hr).2.2.1⟩)); generalize viewOut l who y.f0 y.f1 = r at hk ⊢; obtain ⟨r1, r2, r3⟩ := r; refine (spec_ViewOf.calls k A c l who A1 c1 y.f0 B1 b1 y.f1 r1 r2 r3 W hC hc p2 p1 p4 p3 hk).mono ?_; rintro e w' ⟨v0, v1, rfl, hR, hS, hb⟩; obtain ⟨A', c', rfl⟩ := Kd.R_slice hR; obtain ⟨B', b', rfl⟩ := Kd.S_slice hS; exact ⟨A', c', B', b', rfl, EM_of hR hS (Nat.le_refl _), hb⟩
theorem viewOut_sub (l : List S116) (who : ByteArray) (x : List S161) (y : List S165) : ((viewOut l who x y).1 = x ∨ (viewOut l who x y).1 = []) ∧ ∀ a, a ∈ (viewOut l who x y).2.1 → a ∈ y := by
 unfold viewOut viewV; repeat' split
 all_goals simp_all
theorem viewOut_len (l : List S116) (who : ByteArray) (x : List S161) (y : List S165) : (viewOut l who x y).2.1.length ≤ y.length := by
 unfold viewOut viewV; repeat' split
 all_goals first | exact Nat.zero_le _ | exact List.length_filter_le _ _
theorem nRs_le (m : Nat) : ∀ l : List S116, (∀ a, a ∈ l → n_Rule a ≤ m) → nRs l ≤ l.length * m
 | [], _ => Nat.zero_le _
 | a :: r, h => by
   have h1 := nRs_le m r (fun b hb => h b (List.mem_cons_of_mem _ hb)); have h2 := h a List.mem_cons_self; unfold nRs; rw [List.length_cons, Nat.succ_mul]; omega
theorem rules_small (x : List S110) (h : small_RuleS x) : (x.map conv_Rule).length ≤ 1048576 ∧ nRs (x.map conv_Rule) ≤ 4000000000000 := by
 have h0 : (x.map conv_Rule).length ≤ 1048576 := by rw [List.length_map]; exact h.1
 refine ⟨h0, ?_⟩; have h1 := nRs_le 3200000 (x.map conv_Rule) (fun a ha => by
   obtain ⟨b, hb, rfl⟩ := List.mem_map.1 ha; have h2 := h.2 b hb; have h3 := h2.2.1.1; have h4 := h2.2.2.1.1; have e1 : (conv_Rule b).f1.length = b.f1.length := by simp [conv_Rule]
   have e2 : (conv_Rule b).f2.length = b.f2.length := by simp [conv_Rule]
   unfold n_Rule; omega)
 have h2 := Nat.mul_le_mul_right 3200000 h0; omega
set_option maxHeartbeats 8000000 in
set_option maxRecDepth 100000 in
theorem walk_ViewOf (x0 : List S110) (x1 : ByteArray) (x2 : S37) (w0 : Ft.fit51 x0) (w1 : x1.size ≤ 140737488351232) (w2 : Ft.fit37 x2) (A0 : Option Addr) (c0 : Nat) (A1 : Option Addr) (c1 : Nat) (B1 : Option Addr) (b1 : Nat) (W : World)
   (hC0 : Kd.C k110 W A0 x0.length x0) (hl0 : x0.length ≤ c0) (hC1 : Kd.C k170 W A1 x2.f0.length x2.f0) (hl1 : x2.f0.length ≤ c1) (hD1 : Kd.C k172 W B1 x2.f1.length x2.f1) (hm1 : x2.f1.length ≤ b1) :
   Calls Tryz.prog 5 #[.slice A0 x0.length c0, .string x1, .agg #[.slice A1 x2.f0.length c1, .slice B1 x2.f1.length b1]] W (RetB true W) := by
 obtain ⟨W1, hW1⟩ : ∃ W1, W.alloc (.cells #[.slice A1 x2.f0.length c1, .slice B1 x2.f1.length b1] 37) = W1 := ⟨_, rfl⟩; have hB1 : Below W.heap.size W W1 := by rw [← hW1]; exact below_alloc (Below.refl _ _) _
 have hn : W1.heap[W.heap.size]? = some (.cells #[.slice A1 x2.f0.length c1, .slice B1 x2.f1.length b1] 37 (0, 0)) := by rw [← hW1]; exact heap_alloc_new W _
 have HCE := Aside0.mk (fun (V : World) (hb : Below W1.heap.size W1 V) => (show V.cell? ⟨W.heap.size, 0, none⟩ = some (.slice A1 x2.f0.length c1) ∧ V.cell? ⟨W.heap.size, 1, none⟩ = some (.slice B1 x2.f1.length b1) from ⟨pw_cell_below hb (cell_blk hn rfl), pw_cell_below hb (cell_blk hn rfl)⟩)); have HC0 := Aside0.mk (fun (V : World) (hb : Below W1.heap.size W1 V) => Kd.C_below (Kd.C_below hC0 hB1) hb); have HC1 := Aside0.mk (fun (V : World) (hb : Below W1.heap.size W1 V) => Kd.C_below (Kd.C_below hC1 hB1) hb); have HD1 := Aside0.mk (fun (V : World) (hb : Below W1.heap.size W1 V) => Kd.C_below (Kd.C_below hD1 hB1) hb); have HL := Aside0.mk (And.intro hl0 (And.intro hl1 hm1)); have HB1 := Aside0.mk hB1; have HWS := Aside0.mk (show W.heap.size < W1.heap.size by rw [← hW1]; simp); clear hC0 hl0 hC1 hD1 hl1 hm1 hn hB1; by_cases hbig : (x1.size : Int) > 1048576
 · go_enter Tryz.func5, Tryz.ntmps5
   go_wp2
   go_ret; exact ⟨rfl, HB1.out⟩
 obtain ⟨e0, e1⟩ := HCE.out W1 (Below.refl _ _); obtain ⟨r0, hr0, hle0, hs0⟩ := sz_RuleS x0 w0 1048576 (by omega) (by omega); have hS0 := szRules_c x0 1048576 r0 hr0 A0 c0 W1 (HC0.out W1 (Below.refl _ _)) HL.out.1; clear hr0; by_cases hneg0 : r0 < 0
 · have hd0 : decide (r0 < 0) = true := decide_eq_true hneg0; clear hs0 hneg0 hle0; go_enter Tryz.func5, Tryz.ntmps5; go_wp2_with (go_at_call 23; refine hS0.mono ?_; rintro e w3 ⟨rfl, hb3⟩); go_ret; exact ⟨rfl, below_step HB1.out hb3⟩
 have hd0 : decide (r0 < 0) = false := decide_eq_false hneg0; obtain ⟨r1, hr1, hle1, hs1⟩ := sz_Entry x2 w2 r0 (by omega) (by omega); have HS1 := Aside0.mk (fun (V : World) (hb : Below W1.heap.size W1 V) => szEntry_m x2.f0 x2.f1 r0 r1 hr1 A1 c1 B1 b1 V (HC1.out V hb) HL.out.2.1 (HD1.out V hb) HL.out.2.2); clear hr1; by_cases hneg1 : r1 < 0
 · have hd1 : decide (r1 < 0) = true := decide_eq_true hneg1; clear hs0 hneg0 hle0 hs1 hle1 hneg1; go_enter Tryz.func5, Tryz.ntmps5; go_wp2_with (first | (go_at_call 23; refine hS0.mono ?_; rintro e w3 ⟨rfl, hb3⟩; have HB3 := Aside0.mk hb3; obtain ⟨g0, g1⟩ := HCE.out w3 hb3; clear hb3) | (go_at_call 16; refine (HS1.out _ HB3.out).mono ?_; rintro e w4 ⟨rfl, hb4⟩; have HB4 := Aside0.mk (below_step HB3.out hb4); clear hb4)); go_ret; exact ⟨rfl, below_step HB1.out HB4.out⟩
 have hd1 : decide (r1 < 0) = false := decide_eq_false hneg1; have hsm0 := hs0 (by omega); have hsm1 := hs1 (by omega); have hln0 := lens_conv_RuleS x0 hsm0; have hln1 := lens_conv_Entry x2 hsm1; have hy := ent_smallV x2 hsm1; have hrs := rules_small x0 hsm0; have HT0 := Aside0.mk (fun (V : World) (hb : Below W1.heap.size W1 V) => toRules_c x0 w0 A0 c0 V (HC0.out V hb) HL.out.1); have HT2 := Aside0.mk (fun (V : World) (hb : Below W1.heap.size W1 V) => toEntry_m x2 w2 A1 c1 B1 b1 V (HC1.out V hb) HL.out.2.1 (HD1.out V hb) HL.out.2.2); generalize x0.map conv_Rule = l at HT0 hln0 hrs; generalize conv_Entry x2 = y at HT2 hln1 hy; have hok : okEnt y.f0 y.f1 := ⟨by omega, by omega, fun a ha => by have := hy.2.2 a ha; omega⟩; have HSP := Aside0.mk (fun A c A1 c1 B1 b1 V h0 h1 h2 => sview_c l x1 y hok hln0 A c A1 c1 B1 b1 V h0 h1 h2); have HIM := Aside0.mk (fun A c A1 c1 B1 b1 V h0 h1 h2 => iview_c l x1 y hok A c A1 c1 B1 b1 V h0 h1 h2); have hq1 := viewOut_sub l x1 y.f0 y.f1; have hq2 := viewOut_len l x1 y.f0 y.f1; generalize viewOut l x1 y.f0 y.f1 = r at HSP HIM hq1 hq2; obtain ⟨q0, q1, qc⟩ := r; dsimp only at hq1 hq2; have hq0 : q0.length ≤ 1048576 := by rcases hq1.1 with h | h <;> rw [h] <;> first | exact hy.1 | exact Nat.zero_le _
 have hlq : lens_Entry ⟨q0, q1⟩ := ⟨by rcases hq1.1 with h | h <;> rw [h] <;> first | exact hln1.1 | exact ⟨Nat.zero_le _, fun _ h => by cases h⟩, by have := hy.2.1; show q1.length ≤ _; omega, fun a ha => hln1.2.2 a (hq1.2 a ha)⟩; have hnq : n_Ent ⟨q0, q1⟩ ≤ 1100000000000 := n_Ent_small hq0 (by have := hy.2.1; show q1.length ≤ _; omega) (fun a ha => hy.2.2 a (hq1.2 a ha)); have hny := n_Ent_small hy.1 hy.2.1 hy.2.2; have hql : q1.length ≤ 1048576 := by have := hy.2.1; omega
 have HQ := Aside0.mk (And.intro hq0 (And.intro hql (And.intro hlq hnq))); have HY := Aside0.mk (And.intro hy.1 (And.intro hy.2.1 (And.intro hln1 hny))); have HL0 := Aside0.mk (And.intro hln0 hrs); clear hs0 hs1 hneg0 hneg1 hle0 hle1 hsm0 hsm1 hln0 hln1 hy hrs hok hq0 hq1 hq2 hlq hnq hny hql w0 w1 w2; go_enter Tryz.func5, Tryz.ntmps5; go_wp2_with (first | (go_at_call 23; refine hS0.mono ?_; rintro e V1 ⟨rfl, hb1⟩; have HV1 := Aside0.mk hb1; obtain ⟨g0, g1⟩ := HCE.out V1 hb1; clear hb1) | (go_at_call 16; refine (HS1.out _ HV1.out).mono ?_; rintro e V2 ⟨rfl, hb2⟩; have HV2 := Aside0.mk (below_step HV1.out hb2); obtain ⟨g0, g1⟩ := HCE.out V2 HV2.out; clear hb2)); refine wp_region_any (by kernel_rfl) ?_; change wpAny _ _ _ _ _ _ _ (World.drew _); refine wpAny_inv (Inv := fun li a V => ∃ (k0_ k1_ k2_ k3_ k4_ k5_ k6_ k7_ : Bool) (A3 : Option Addr) (c3 : Nat) (A4 : Option Addr) (c4 : Nat) (B4 : Option Addr) (b4_ : Nat) (A5 : Option Addr) (c5 : Nat) (B5 : Option Addr) (b5_ : Nat) (p : Nat) (ok : Nat → Prop), li = #[k0_, k1_, k2_, k3_, k4_, k5_, k6_, k7_] ∧ a = { tmps := #[.slice A0 x0.length c0, .string x1, .agg #[.slice A1 x2.f0.length c1, .slice B1 x2.f1.length b1], undef, undef, .pointer (some ⟨W.heap.size, 0, none⟩), .bool false, .int .i64 r1, (if k6_ = true then (.pointer (some ⟨p, 0, none⟩) : Value) else undef), undef, undef, undef, undef, undef, undef, undef, .string x1, .int .i64 (x1.size : Int), .bool false, .slice A0 x0.length c0, .int .i64 1048576, .int .i64 r0, .int .i64 r0, .bool false, .agg #[.slice A1 x2.f0.length c1, .slice B1 x2.f1.length b1], .int .i64 r0, .int .i64 r1, .int .i64 r1, .bool false, (if k0_ = true then (.slice A0 x0.length c0 : Value) else undef), (if k1_ = true then (.slice A3 l.length c3 : Value) else undef), (if k2_ = true then (.string x1 : Value) else undef), (if k3_ = true then (.agg #[.slice A1 x2.f0.length c1, .slice B1 x2.f1.length b1] : Value) else undef), (if k4_ = true then (.agg #[.slice A4 y.f0.length c4, .slice B4 y.f1.length b4_] : Value) else undef), (if k5_ = true then (.agg #[.slice A5 q0.length c5, .slice B5 q1.length b5_, .int .i64 qc] : Value) else undef), undef, undef, undef, undef, undef, undef, undef, undef, undef, undef, undef, undef, undef, undef, undef, undef, undef, undef, undef, undef, undef, undef, undef, undef, undef, undef, undef, undef, undef, undef, undef, undef, undef, undef, undef, undef, undef, undef, undef, undef, undef, undef, undef, undef, undef, undef, undef, undef, undef, undef, undef, undef, undef, undef, undef, undef, undef, undef, undef, undef, undef, undef, undef, undef, undef], defers := [] } ∧ (k7_ = true → (k0_ && k1_ && k2_ && k3_ && k4_ && k5_ && k6_) = true) ∧ ((k1_ && !k7_) = true → l.length ≤ c3 ∧ Kd.C k116 V A3 l.length l) ∧ RgI W1 y ⟨q0, q1⟩ qc (k4_ && !k7_) k5_ k6_ k7_ A4 c4 B4 b4_ A5 c5 B5 b5_ p ok V) ?done ?step _ _ _ _ ?cnt ?init
 case cnt => simp
 case init =>
   exact ⟨false, false, false, false, false, false, false, false, none, 0, none, 0, none, 0, none, 0, none, 0, 0, fun _ => False, rfl, rfl, (fun h => by cases h), (fun h => by cases h), ⟨below_drew HV2.out, (fun h => by cases h), (fun h => by cases h), (fun h => by cases h), (fun h => by cases h)⟩⟩
 case step =>
   rintro li a V i ⟨k0_, k1_, k2_, k3_, k4_, k5_, k6_, k7_, A3, c3, A4, c4, B4, b4_, A5, c5, B5, b5_, p, ok, rfl, rfl, hcl, hru, hI⟩ hi; obtain ⟨hun, o, ho, hall⟩ := mem_ready.1 hi; have hi_ : i < 8 := (Array.getElem?_eq_some_iff.1 ho).1; obtain rfl | rfl | rfl | rfl | rfl | rfl | rfl | rfl : i = 0 ∨ i = 1 ∨ i = 2 ∨ i = 3 ∨ i = 4 ∨ i = 5 ∨ i = 6 ∨ i = 7 := by omega
   · obtain rfl := Option.some.inj ho; have m0 : k0_ = false := hun; have m7 : k7_ = false := by
       cases h_ : k7_ with
       | false => rfl
       | true => have := hcl h_; simp [m0] at this
     subst m0 m7 ; clear hall hun hi; refine wpOpV rfl (fun K hK => ?_); go_simp; exact hK _ _ ⟨true, k1_, k2_, k3_, k4_, k5_, k6_, false, A3, c3, A4, c4, B4, b4_, A5, c5, B5, b5_, p, ok, rfl, rfl, (fun h => by cases h), hru, hI⟩
   · obtain rfl := Option.some.inj ho; have m1 : k1_ = false := hun; have m7 : k7_ = false := by
       cases h_ : k7_ with
       | false => rfl
       | true => have := hcl h_; simp [m1] at this
     have n0 : k0_ = true := hall _ (Array.mem_of_getElem? (i := 0) rfl) rfl; subst m1 m7 n0; clear hall hun hi; refine wpOpV rfl (fun K hK => ?_); go_simp; have hc_ := HT0.out V hI.hb; refine hc_.mono ?_; rintro e V' ⟨A3', c3', rfl, hS, hb_⟩; exact hK _ _ ⟨true, true, k2_, k3_, k4_, k5_, k6_, false, A3', c3', A4, c4, B4, b4_, A5, c5, B5, b5_, p, ok, rfl, rfl, (fun h => by cases h), (fun _ => rule_V hS), hI.step hb_⟩
   · obtain rfl := Option.some.inj ho; have m2 : k2_ = false := hun; have m7 : k7_ = false := by
       cases h_ : k7_ with
       | false => rfl
       | true => have := hcl h_; simp [m2] at this
     subst m2 m7 ; clear hall hun hi; refine wpOpV rfl (fun K hK => ?_); go_simp; exact hK _ _ ⟨k0_, k1_, true, k3_, k4_, k5_, k6_, false, A3, c3, A4, c4, B4, b4_, A5, c5, B5, b5_, p, ok, rfl, rfl, (fun h => by cases h), hru, hI⟩
   · obtain rfl := Option.some.inj ho; have m3 : k3_ = false := hun; have m7 : k7_ = false := by
       cases h_ : k7_ with
       | false => rfl
       | true => have := hcl h_; simp [m3] at this
     subst m3 m7 ; clear hall hun hi; obtain ⟨g0, g1⟩ := HCE.out V hI.hb; refine wpOpV rfl (fun K hK => ?_); go_simp; exact hK _ _ ⟨k0_, k1_, k2_, true, k4_, k5_, k6_, false, A3, c3, A4, c4, B4, b4_, A5, c5, B5, b5_, p, ok, rfl, rfl, (fun h => by cases h), hru, hI⟩
   · obtain rfl := Option.some.inj ho; have m4 : k4_ = false := hun; have m7 : k7_ = false := by
       cases h_ : k7_ with
       | false => rfl
       | true => have := hcl h_; simp [m4] at this
     have n3 : k3_ = true := hall _ (Array.mem_of_getElem? (i := 0) rfl) rfl; have n1 : k1_ = true := hall _ (Array.mem_of_getElem? (i := 1) rfl) rfl; subst m4 m7 n3 n1; clear hall hun hi; refine wpOpV rfl (fun K hK => ?_); go_simp; have hc_ := HT2.out V hI.hb; refine hc_.mono ?_; rintro e V' ⟨A4', c4', B4', b4', rfl, hM, hb_⟩; exact hK _ _ ⟨k0_, true, k2_, true, true, k5_, k6_, false, A3, c3, A4', c4', B4', b4', A5, c5, B5, b5_, p, ok, rfl, rfl, (fun h => by cases h), (fun e => ⟨(hru e).1, Kd.C_below (hru e).2 hb_⟩), hI.entry hb_ hM⟩
   · obtain rfl := Option.some.inj ho; have m5 : k5_ = false := hun; have m7 : k7_ = false := by
       cases h_ : k7_ with
       | false => rfl
       | true => have := hcl h_; simp [m5] at this
     have n1 : k1_ = true := hall _ (Array.mem_of_getElem? (i := 0) rfl) rfl; have n2 : k2_ = true := hall _ (Array.mem_of_getElem? (i := 1) rfl) rfl; have n4 : k4_ = true := hall _ (Array.mem_of_getElem? (i := 2) rfl) rfl; subst m5 m7 n1 n2 n4; clear hall hun hi; refine wpOpV rfl (fun K hK => ?_); go_simp; have hc_ := HSP.out A3 c3 A4 c4 B4 b4_ V (hru rfl).2 (hru rfl).1 (hI.he rfl); refine hc_.mono ?_; rintro e V' ⟨A5', c5', B5', b5', rfl, hM, hb_⟩; exact hK _ _ ⟨k0_, true, true, k3_, true, true, k6_, false, A3, c3, A4, c4, B4, b4_, A5', c5', B5', b5', p, (fun k => V.heap.size ≤ k ∧ k < V'.heap.size), rfl, rfl, (fun h => by cases h), (fun e => ⟨(hru e).1, Kd.C_below (hru e).2 hb_⟩), hI.result hb_ hM⟩
   · obtain rfl := Option.some.inj ho; have m6 : k6_ = false := hun; have m7 : k7_ = false := by
       cases h_ : k7_ with
       | false => rfl
       | true => have := hcl h_; simp [m6] at this
     subst m6 m7 ; clear hall hun hi; refine wpOpV rfl (fun K hK => ?_); go_simp; have hb_ := below_alloc (Below.refl _ V) (.cells #[.slice none 0 0, .slice none 0 0, .int .i64 0] 54); exact hK _ _ ⟨k0_, k1_, k2_, k3_, k4_, k5_, true, false, A3, c3, A4, c4, B4, b4_, A5, c5, B5, b5_, V.heap.size, (fun k => ok k ∧ k < V.heap.size), rfl, rfl, (fun h => by cases h), (fun e => ⟨(hru e).1, Kd.C_below (hru e).2 hb_⟩), hI.alloc⟩
   · obtain rfl := Option.some.inj ho; have m7 : k7_ = false := hun; have n6 : k6_ = true := hall _ (Array.mem_of_getElem? (i := 0) rfl) rfl; have n5 : k5_ = true := hall _ (Array.mem_of_getElem? (i := 1) rfl) rfl; have n0 : k0_ = true := hall _ (Array.mem_of_getElem? (i := 3) rfl) rfl; have n1 : k1_ = true := hall _ (Array.mem_of_getElem? (i := 4) rfl) rfl; have n2 : k2_ = true := hall _ (Array.mem_of_getElem? (i := 5) rfl) rfl; have n3 : k3_ = true := hall _ (Array.mem_of_getElem? (i := 6) rfl) rfl; have n4 : k4_ = true := hall _ (Array.mem_of_getElem? (i := 7) rfl) rfl; subst m7  n6 n5 n0 n1 n2 n3 n4; clear hall hun hi; have hk_ := (hI.ha rfl).2; rw [if_neg (by decide)] at hk_; have u0 := blk_cell hk_ 0; have u1 := blk_cell hk_ 1; have u2 := blk_cell hk_ 2; have f0 := blk_frozen hk_ 0; have f1 := blk_frozen hk_ 1; have f2 := blk_frozen hk_ 2; refine wpOpV rfl (fun K hK => ?_); go_simp; exact hK _ _ ⟨true, true, true, true, true, true, true, true, A3, c3, A4, c4, B4, b4_, A5, c5, B5, b5_, p, ok, rfl, rfl, (fun _ => rfl), (fun h => by cases h), hI.store⟩
 case done =>
   rintro li a V ⟨k0_, k1_, k2_, k3_, k4_, k5_, k6_, k7_, A3, c3, A4, c4, B4, b4_, A5, c5, B5, b5_, p, ok, rfl, rfl, hcl, hru, hI⟩ hr; have hno : ∀ j, ¬ j ∈ Region.ready _ _ _ := fun j hj => by rw [hr] at hj; cases hj
   have n0 : k0_ = true := by
     by_cases h : k0_ = true
     · exact h
     · exact (hno 0 (mem_ready.2 ⟨by simpa using h, _, rfl, by simp [*]⟩)).elim
   have n1 : k1_ = true := by
     by_cases h : k1_ = true
     · exact h
     · exact (hno 1 (mem_ready.2 ⟨by simpa using h, _, rfl, by simp [*]⟩)).elim
   have n2 : k2_ = true := by
     by_cases h : k2_ = true
     · exact h
     · exact (hno 2 (mem_ready.2 ⟨by simpa using h, _, rfl, by simp [*]⟩)).elim
   have n3 : k3_ = true := by
     by_cases h : k3_ = true
     · exact h
     · exact (hno 3 (mem_ready.2 ⟨by simpa using h, _, rfl, by simp [*]⟩)).elim
   have n4 : k4_ = true := by
     by_cases h : k4_ = true
     · exact h
     · exact (hno 4 (mem_ready.2 ⟨by simpa using h, _, rfl, by simp [*]⟩)).elim
   have n5 : k5_ = true := by
     by_cases h : k5_ = true
     · exact h
     · exact (hno 5 (mem_ready.2 ⟨by simpa using h, _, rfl, by simp [*]⟩)).elim
   have n6 : k6_ = true := by
     by_cases h : k6_ = true
     · exact h
     · exact (hno 6 (mem_ready.2 ⟨by simpa using h, _, rfl, by simp [*]⟩)).elim
   have n7 : k7_ = true := by
     by_cases h : k7_ = true
     · exact h
     · exact (hno 7 (mem_ready.2 ⟨by simpa using h, _, rfl, by simp [*]⟩)).elim
   subst n0 n1 n2 n3 n4 n5 n6 n7; clear hno hr hcl hru; simp only [if_true]; have HBV := Aside0.mk hI.hb; have hR5 := hI.hr rfl; obtain ⟨hp1, hk8⟩ := hI.ha rfl; rw [if_pos rfl] at hk8; have R5 := Aside0.mk hR5; have HP := Aside0.mk (And.intro hp1 (blk_lt hk8)); have HC8 := Aside0.mk (fun (U : World) (hb : Below V.heap.size V U) => (show U.cell? ⟨p, 0, none⟩ = some (.slice A5 q0.length c5) ∧ U.cell? ⟨p, 1, none⟩ = some (.slice B5 q1.length b5_) ∧ U.cell? ⟨p, 2, none⟩ = some (.int .i64 qc) from ⟨(blk_cell (blk_below hk8 hb) 0).trans rfl, (blk_cell (blk_below hk8 hb) 1).trans rfl, (blk_cell (blk_below hk8 hb) 2).trans rfl⟩)); have HER := Aside0.mk (fun A B a b U h0 l0 h1 l1 => eqRules_c l HL0.out.1 A B a b U h0 l0 h1 l1); clear hI hR5 hp1 hk8 g0 g1; go_wp2_with (first | (go_at_call 25; refine (HT0.out _ HBV.out).mono ?_; rintro e V6 ⟨A6, c6, rfl, hS6, hb6⟩; have B6 := Aside0.mk hb6; have X6 := Aside0.mk (S_rangeV hS6 (Nat.le_refl _)); obtain ⟨g0, g1⟩ := HCE.out V6 (below_step HBV.out hb6); clear hS6 hb6) | (go_at_call 19; refine (HT2.out _ (below_step HBV.out B6.out)).mono ?_; rintro e V7 ⟨A7, c7, B7, b7, rfl, hM7, hb7⟩; have B7' := Aside0.mk hb7; have E7 := Aside0.mk (EM_lower hM7 B6.out.size); clear hM7 hb7) | (go_at_call 26; obtain ⟨U7, hU7⟩ : ∃ U7, V7.alloc (.cells #[.slice A7 y.f0.length c7, .slice B7 y.f1.length b7] 46) = U7 := ⟨_, rfl⟩; rw [hU7]; have hbu : Below V7.heap.size V7 U7 := (by rw [← hU7]; exact below_alloc (Below.refl _ _) _); have hku : U7.heap[V7.heap.size]? = some (.cells #[.slice A7 y.f0.length c7, .slice B7 y.f1.length b7] 46 (0, 0)) := (by rw [← hU7]; exact heap_alloc_new V7 _); have hsu : U7.heap.size = V7.heap.size + 1 := (by rw [← hU7]; simp); have hc := HIM.out A6 c6 A7 c7 B7 b7 U7 (rule_V (Kd.S_below (Kd.S_below X6.out B7'.out) hbu)).2 (rule_V X6.out).1 (EC_of (EM_keep E7.out hbu)); refine hc.mono ?_; rintro e V8 ⟨A8, c8, B8, b8, rfl, hM8, hb8⟩; obtain ⟨U8, hU8⟩ : ∃ U8, V8.alloc (.cells #[.slice A8 q0.length c8, .slice B8 q1.length b8, .int .i64 qc] 54) = U8 := ⟨_, rfl⟩; have hbw : Below V8.heap.size V8 U8 := (by rw [← hU8]; exact below_alloc (Below.refl _ _) _); have hkw : U8.heap[V8.heap.size]? = some (.cells #[.slice A8 q0.length c8, .slice B8 q1.length b8, .int .i64 qc] 54 (0, 0)) := (by rw [← hU8]; exact heap_alloc_new V8 _); have SU := Aside0.mk (And.intro hsu (And.intro hb8.size (by rw [← hU8]; simp : U8.heap.size = V8.heap.size + 1))); have L8 := Aside0.mk (LSt.mk (Vb := V) (p10 := V7.heap.size) (t10 := 46) (z10 := #[.slice A7 y.f0.length c7, .slice B7 y.f1.length b7]) (p11 := V8.heap.size) (t11 := 54) (z11 := #[.slice A8 q0.length c8, .slice B8 q1.length b8, .int .i64 qc]) (ok := okV U7.heap.size V8.heap.size) (y := ⟨q0, q1⟩) (A := A8) (n := q0.length) (c := c8) (B := B8) (m := q1.length) (b := b8) (V := U8) (below_step (below_step (below_step (below_step B6.out B7'.out) hbu) hb8) hbw) (blk_below (blk_below hku hb8) hbw) hkw (EM_keep (EM_lower hM8 (below_step (below_step B6.out B7'.out) hbu).size) hbw)); have X8 := Aside0.mk (Kd.S_below (Kd.S_below (Kd.S_below (Kd.S_below X6.out B7'.out) hbu) hb8) hbw); have E8 := Aside0.mk (EM_keep (EM_keep (EM_keep E7.out hbu) hb8) hbw); obtain ⟨g0, g1, g2⟩ := HC8.out U8 L8.out.hb; have j0 := L8.out.c11 0; have j1 := L8.out.c11 1; have j2 := L8.out.c11 2; clear hbu hku hsu hc hM8 hb8 hU7 hbw hkw) | (go_at_call 27; have hc := eqEntryOut_m ⟨q0, q1⟩ HQ.out.2.2.1 q0.length q1.length qc A8 c8 B8 b8 A5 c5 B5 b5_ U8 L8.out.em (EM_keep R5.out L8.out.hb); refine hc.mono ?_; rintro e V9 ⟨rfl, hb9⟩; have B9 := Aside0.mk hb9; have L9 := Aside0.mk (L8.out.step hb9); have X9 := Aside0.mk (Kd.S_below X8.out hb9); have E9 := Aside0.mk (EM_keep E8.out hb9); clear hb9 hc) | (go_at_call 25; refine (HT0.out V9 (below_step HBV.out L9.out.hb)).mono ?_; rintro e V10 ⟨A10, c10, rfl, hS10, hb10⟩; have L10 := Aside0.mk (L9.out.step hb10); have X10 := Aside0.mk (Kd.S_below X9.out hb10); have E10 := Aside0.mk (EM_keep E9.out hb10); have Z10 := Aside0.mk (rule_V hS10); clear hS10 hb10) | (go_at_call 28; have hc := HER.out A6 A10 c6 c10 V10 (rule_V X10.out).2 (rule_V X10.out).1 Z10.out.2 Z10.out.1; refine hc.mono ?_; rintro e V11 ⟨rfl, hb11⟩; have L11 := Aside0.mk (L10.out.step hb11); have X11 := Aside0.mk (Kd.S_below X10.out hb11); have E11 := Aside0.mk (EM_keep E10.out hb11); clear hb11 hc)); have j0 := L11.out.c10 0; have j1 := L11.out.c10 1; obtain ⟨g0, g1⟩ := HCE.out V11 (below_step HBV.out L11.out.hb); go_region_held3 (fun w' => w'.cell? ⟨W.heap.size, 0, none⟩ = some (.slice A1 x2.f0.length c1) ∧ w'.cell? ⟨W.heap.size, 1, none⟩ = some (.slice B1 x2.f1.length b1) ∧ w'.cell? ⟨V7.heap.size, 0, none⟩ = some (.slice A7 y.f0.length c7) ∧ w'.cell? ⟨V7.heap.size, 1, none⟩ = some (.slice B7 y.f1.length b7)) (go_keep) (first | (go_at_call 19; have hq : Below V11.heap.size V11 V11.drew := below_drew (Below.refl _ _); refine (HT2.out _ (by first | exact below_step HBV.out (L11.out.step hq).hb | exact below_step HBV.out L11.out.hb)).mono ?_; rintro e V12 ⟨A12, c12, B12, b12, rfl, hM12, hb12⟩; have hb12' : Below V11.heap.size V11 V12 := (by first | exact below_step hq hb12 | exact hb12); have L12 := Aside0.mk (L11.out.step hb12'); have X12 := Aside0.mk (Kd.S_below X11.out hb12'); have E12 := Aside0.mk (EM_keep E11.out hb12'); have Z12 := Aside0.mk hM12; obtain ⟨g0, g1⟩ := HCE.out V12 (below_step HBV.out L12.out.hb); have j0 := L12.out.c10 0; have j1 := L12.out.c10 1; clear hM12 hb12 hb12' hq) | (go_at_call 22; have hc := eqEntry_m y HY.out.2.2.1 y.f0.length y.f1.length A7 c7 B7 b7 A12 c12 B12 b12 V12 E12.out Z12.out; refine hc.mono ?_; rintro e V13 ⟨rfl, hb13⟩; have L13 := Aside0.mk (L12.out.step hb13); have X13 := Aside0.mk (Kd.S_below X12.out hb13); have E13 := Aside0.mk (EM_keep E12.out hb13); obtain ⟨g0, g1⟩ := HCE.out V13 (below_step HBV.out L13.out.hb); have j0 := L13.out.c10 0; have j1 := L13.out.c10 1; clear hb13 hc)); have hs6 := B6.out.size; have hs7 := B7'.out.size; have hsU := SU.out; have hMR := markRules_c V (okV V.heap.size V6.heap.size) A6 l.length c6 l 1 V13 L13.out.hb X13.out (by have := HL0.out.2.1; omega) (by decide) (by have := HL0.out.2.2; omega)
   have hnr := HL0.out.2.2; have hne := HY.out.2.2.2; generalize nRs l = nr at hMR hnr; have hME := Aside0.mk (fun (U : World) (hB : Below V.heap.size V U) (hM : EM U V.heap.size (okV V6.heap.size V7.heap.size) y A7 y.f0.length c7 B7 y.f1.length b7) => markEntry_m V (okV V6.heap.size V7.heap.size) y y.f0.length y.f1.length A7 c7 B7 b7 (1 + (nr : Int)) U hB hM HY.out.1 HY.out.2.1 (by omega) (by omega)); generalize n_Ent y = ne at hME hne; have hp1 : ¬ (1 + (nr : Int) + (ne : Int) < 0) := by omega
   have HSZ := Aside0.mk (And.intro hs6 (And.intro hs7 hsU)); clear hnr hne hs6 hs7 hsU; have hMO := Aside0.mk (fun (U : World) (hL : LSt V V7.heap.size 46 #[.slice A7 y.f0.length c7, .slice B7 y.f1.length b7] V8.heap.size 54 #[.slice A8 q0.length c8, .slice B8 q1.length b8, .int .i64 qc] (okV U7.heap.size V8.heap.size) ⟨q0, q1⟩ A8 q0.length c8 B8 q1.length b8 U) => markEntryOut_m V (okV U7.heap.size V8.heap.size) ⟨q0, q1⟩ q0.length q1.length qc A8 c8 B8 b8 1 U hL.hb hL.em (fun k hk => by have := blk_lt hL.k11; omega) HQ.out.1 HQ.out.2.1 (by decide) (by have := HQ.out.2.2.2; omega)); have hHO := Aside0.mk (fun (U : World) (hM : EM U V.heap.size (okV U7.heap.size V8.heap.size) (mk_Ent 1 ⟨q0, q1⟩) A8 q0.length c8 B8 q1.length b8) => heldEntryOut_m ⟨q0, q1⟩ q0.length q1.length qc A8 c8 B8 b8 1 U hM HQ.out.1 HQ.out.2.1 (by decide) (by have := HQ.out.2.2.2; omega)); have hnq := HQ.out.2.2.2; generalize n_Ent (⟨q0, q1⟩ : S46) = nq at hMO hHO hnq; have hp2 : ¬ (1 + (nq : Int) < 0) := by omega
   clear hnq; go_wp2_with (first | (go_at_call 29; refine hMR.mono ?_; rintro e V14 ⟨rfl, hS14, hb14, hk14⟩; have L14 := Aside0.mk (L13.out.kept hb14 hk14 (fun h => by have := HSZ.out; omega) (fun h => by have := HSZ.out; omega) (fun k hk h => by have := HSZ.out; omega)); have E14 := Aside0.mk (EM_kept E13.out hk14 (fun k hk h => by omega)); have j0 := L14.out.c10 0; have j1 := L14.out.c10 1; clear hS14 hb14 hk14) | (go_at_call 30; have hc := hME.out V14 L14.out.hb E14.out; refine hc.mono ?_; rintro e V15 ⟨rfl, hM15, hb15, hk15⟩; have L15 := Aside0.mk (L14.out.kept hb15 hk15 (fun h => by omega) (fun h => by have := HSZ.out; omega) (fun k hk h => by have := HSZ.out; omega)); have j0 := L15.out.c11 0; have j1 := L15.out.c11 1; have j2 := L15.out.c11 2; obtain ⟨h0, h1, h2⟩ := HC8.out V15 hb15; clear hM15 hb15 hk15 hc) | (go_at_call 27; have hc := eqEntryOut_m ⟨q0, q1⟩ HQ.out.2.2.1 q0.length q1.length qc A8 c8 B8 b8 A5 c5 B5 b5_ V15 L15.out.em (EM_keep R5.out L15.out.hb); refine hc.mono ?_; rintro e V16 ⟨rfl, hb16⟩; have L16 := Aside0.mk (L15.out.step hb16); have j0 := L16.out.c11 0; have j1 := L16.out.c11 1; have j2 := L16.out.c11 2; clear hb16 hc) | (go_at_call 31; have hc := hMO.out V16 L16.out; refine hc.mono ?_; rintro e V17 ⟨rfl, hM17, hb17, hk17⟩; have L17 := Aside0.mk (L16.out.turn hb17 hk17 (fun h => by have := HSZ.out; omega) (fun h => by omega) hM17); have j0 := L17.out.c11 0; have j1 := L17.out.c11 1; have j2 := L17.out.c11 2; clear hM17 hb17 hk17 hc) | (go_at_call 32; have hc := hHO.out V17 L17.out.em; refine hc.mono ?_; rintro e V18 ⟨rfl, hb18⟩; have L18 := Aside0.mk (L17.out.step hb18); obtain ⟨g0, g1⟩ := HCE.out V18 (below_step HBV.out L18.out.hb); clear hb18 hc)); have HT0' := Aside0.mk (fun (U : World) (hU : Below V18.heap.size V18 U) => HT0.out U (below_step (below_step HBV.out L18.out.hb) hU)); have HT2' := Aside0.mk (fun (U : World) (hU : Below V18.heap.size V18 U) => HT2.out U (below_step (below_step HBV.out L18.out.hb) hU)); refine wp_region_any (by kernel_rfl) ?_; change wpAny _ _ _ _ _ _ _ (World.drew _); refine wpAny_inv (Inv := fun li a Vz => ∃ (k0_ k1_ k2_ k3_ k4_ k5_ k6_ k7_ : Bool) (A3z : Option Addr) (c3z : Nat) (A4z : Option Addr) (c4z : Nat) (B4z : Option Addr) (b4_z : Nat) (A5z : Option Addr) (c5z : Nat) (B5z : Option Addr) (b5_z : Nat) (pz : Nat) (okz : Nat → Prop), li = #[k0_, k1_, k2_, k3_, k4_, k5_, k6_, k7_] ∧ a = { tmps := #[.slice A0 x0.length c0, .string x1, .agg #[.slice A1 x2.f0.length c1, .slice B1 x2.f1.length b1], undef, undef, .pointer (some ⟨W.heap.size, 0, none⟩), .bool false, .int .i64 r1, .pointer (some ⟨p, 0, none⟩), .slice A6 l.length c6, .pointer (some ⟨V7.heap.size, 0, none⟩), .pointer (some ⟨V8.heap.size, 0, none⟩), .int .i64 (1 + (nr : Int) + (ne : Int)), .int .i64 (1 + (nq : Int)), .int .i64 (1 + (nq : Int)), (if k6_ = true then (.pointer (some ⟨pz, 0, none⟩) : Value) else undef), .string x1, .int .i64 (x1.size : Int), .bool false, .slice A0 x0.length c0, .int .i64 1048576, .int .i64 r0, .int .i64 r0, .bool false, .agg #[.slice A1 x2.f0.length c1, .slice B1 x2.f1.length b1], .int .i64 r0, .int .i64 r1, .int .i64 r1, .bool false, .slice A0 x0.length c0, .slice A3 l.length c3, .string x1, .agg #[.slice A1 x2.f0.length c1, .slice B1 x2.f1.length b1], .agg #[.slice A4 y.f0.length c4, .slice B4 y.f1.length b4_], .agg #[.slice A5 q0.length c5, .slice B5 q1.length b5_, .int .i64 qc], .slice A0 x0.length c0, .slice A6 l.length c6, .agg #[.slice A1 x2.f0.length c1, .slice B1 x2.f1.length b1], .agg #[.slice A7 y.f0.length c7, .slice B7 y.f1.length b7], .slice A6 l.length c6, .string x1, .agg #[.slice A7 y.f0.length c7, .slice B7 y.f1.length b7], .agg #[.slice A8 q0.length c8, .slice B8 q1.length b8, .int .i64 qc], .agg #[.slice A8 q0.length c8, .slice B8 q1.length b8, .int .i64 qc], .agg #[.slice A5 q0.length c5, .slice B5 q1.length b5_, .int .i64 qc], .bool true, .bool false, .slice A6 l.length c6, .slice A0 x0.length c0, .slice A10 l.length c10, .bool true, .bool false, .agg #[.slice A7 y.f0.length c7, .slice B7 y.f1.length b7], .agg #[.slice A1 x2.f0.length c1, .slice B1 x2.f1.length b1], .agg #[.slice A12 y.f0.length c12, .slice B12 y.f1.length b12], .bool true, .bool false, .slice A6 l.length c6, .int .i64 1, .int .i64 (1 + (nr : Int)), .agg #[.slice A7 y.f0.length c7, .slice B7 y.f1.length b7], .int .i64 (1 + (nr : Int)), .int .i64 (1 + (nr : Int) + (ne : Int)), .int .i64 (1 + (nr : Int) + (ne : Int)), .bool (decide (1 + (nr : Int) + (ne : Int) < 0)), .bool (decide (1 + (nr : Int) + (ne : Int) < 0)), .agg #[.slice A8 q0.length c8, .slice B8 q1.length b8, .int .i64 qc], .agg #[.slice A5 q0.length c5, .slice B5 q1.length b5_, .int .i64 qc], .bool true, .bool false, .bool (decide (1 + (nr : Int) + (ne : Int) < 0)), .agg #[.slice A8 q0.length c8, .slice B8 q1.length b8, .int .i64 qc], .int .i64 1, .int .i64 (1 + (nq : Int)), .agg #[.slice A8 q0.length c8, .slice B8 q1.length b8, .int .i64 qc], .int .i64 1, .int .i64 (1 + (nq : Int)), .int .i64 (1 + (nq : Int)), .bool (decide (1 + (nq : Int) < 0)), .int .i64 (1 + (nq : Int)), .int .i64 (1 + (nq : Int)), .bool false, (if k0_ = true then (.slice A0 x0.length c0 : Value) else undef), (if k1_ = true then (.slice A3z l.length c3z : Value) else undef), (if k2_ = true then (.string x1 : Value) else undef), (if k3_ = true then (.agg #[.slice A1 x2.f0.length c1, .slice B1 x2.f1.length b1] : Value) else undef), (if k4_ = true then (.agg #[.slice A4z y.f0.length c4z, .slice B4z y.f1.length b4_z] : Value) else undef), (if k5_ = true then (.agg #[.slice A5z q0.length c5z, .slice B5z q1.length b5_z, .int .i64 qc] : Value) else undef), undef, undef, undef, undef, undef, undef, undef, undef, undef, undef, undef, undef], defers := [] } ∧ (k7_ = true → (k0_ && k1_ && k2_ && k3_ && k4_ && k5_ && k6_) = true) ∧ ((k1_ && !k7_) = true → l.length ≤ c3z ∧ Kd.C k116 Vz A3z l.length l) ∧ RgI V18 y ⟨q0, q1⟩ qc (k4_ && !k7_) k5_ k6_ k7_ A4z c4z B4z b4_z A5z c5z B5z b5_z pz okz Vz) ?done ?step _ _ _ _ ?cnt ?init
   case cnt => simp
   case init =>
     exact ⟨false, false, false, false, false, false, false, false, none, 0, none, 0, none, 0, none, 0, none, 0, 0, fun _ => False, rfl, rfl, (fun h => by cases h), (fun h => by cases h), ⟨below_drew (Below.refl _ _), (fun h => by cases h), (fun h => by cases h), (fun h => by cases h), (fun h => by cases h)⟩⟩
   case step =>
     rintro li a Vz i ⟨k0_, k1_, k2_, k3_, k4_, k5_, k6_, k7_, A3z, c3z, A4z, c4z, B4z, b4_z, A5z, c5z, B5z, b5_z, pz, okz, rfl, rfl, hcl, hru, hI⟩ hi; obtain ⟨hun, o, ho, hall⟩ := mem_ready.1 hi; have hi_ : i < 8 := (Array.getElem?_eq_some_iff.1 ho).1; obtain rfl | rfl | rfl | rfl | rfl | rfl | rfl | rfl : i = 0 ∨ i = 1 ∨ i = 2 ∨ i = 3 ∨ i = 4 ∨ i = 5 ∨ i = 6 ∨ i = 7 := by omega
     · obtain rfl := Option.some.inj ho; have m0 : k0_ = false := hun; have m7 : k7_ = false := by
         cases h_ : k7_ with
         | false => rfl
         | true => have := hcl h_; simp [m0] at this
       subst m0 m7 ; clear hall hun hi; refine wpOpV rfl (fun K hK => ?_); go_simp; exact hK _ _ ⟨true, k1_, k2_, k3_, k4_, k5_, k6_, false, A3z, c3z, A4z, c4z, B4z, b4_z, A5z, c5z, B5z, b5_z, pz, okz, rfl, rfl, (fun h => by cases h), hru, hI⟩
     · obtain rfl := Option.some.inj ho; have m1 : k1_ = false := hun; have m7 : k7_ = false := by
         cases h_ : k7_ with
         | false => rfl
         | true => have := hcl h_; simp [m1] at this
       have n0 : k0_ = true := hall _ (Array.mem_of_getElem? (i := 0) rfl) rfl; subst m1 m7 n0; clear hall hun hi; refine wpOpV rfl (fun K hK => ?_); go_simp; have hc_ := HT0'.out Vz hI.hb; refine hc_.mono ?_; rintro e V' ⟨A3', c3', rfl, hS, hb_⟩; exact hK _ _ ⟨true, true, k2_, k3_, k4_, k5_, k6_, false, A3', c3', A4z, c4z, B4z, b4_z, A5z, c5z, B5z, b5_z, pz, okz, rfl, rfl, (fun h => by cases h), (fun _ => rule_V hS), hI.step hb_⟩
     · obtain rfl := Option.some.inj ho; have m2 : k2_ = false := hun; have m7 : k7_ = false := by
         cases h_ : k7_ with
         | false => rfl
         | true => have := hcl h_; simp [m2] at this
       subst m2 m7 ; clear hall hun hi; refine wpOpV rfl (fun K hK => ?_); go_simp; exact hK _ _ ⟨k0_, k1_, true, k3_, k4_, k5_, k6_, false, A3z, c3z, A4z, c4z, B4z, b4_z, A5z, c5z, B5z, b5_z, pz, okz, rfl, rfl, (fun h => by cases h), hru, hI⟩
     · obtain rfl := Option.some.inj ho; have m3 : k3_ = false := hun; have m7 : k7_ = false := by
         cases h_ : k7_ with
         | false => rfl
         | true => have := hcl h_; simp [m3] at this
       subst m3 m7 ; clear hall hun hi; obtain ⟨g0, g1⟩ := HCE.out Vz (below_step (below_step HBV.out L18.out.hb) hI.hb); refine wpOpV rfl (fun K hK => ?_); go_simp; exact hK _ _ ⟨k0_, k1_, k2_, true, k4_, k5_, k6_, false, A3z, c3z, A4z, c4z, B4z, b4_z, A5z, c5z, B5z, b5_z, pz, okz, rfl, rfl, (fun h => by cases h), hru, hI⟩
     · obtain rfl := Option.some.inj ho; have m4 : k4_ = false := hun; have m7 : k7_ = false := by
         cases h_ : k7_ with
         | false => rfl
         | true => have := hcl h_; simp [m4] at this
       have n3 : k3_ = true := hall _ (Array.mem_of_getElem? (i := 0) rfl) rfl; have n1 : k1_ = true := hall _ (Array.mem_of_getElem? (i := 1) rfl) rfl; subst m4 m7 n3 n1; clear hall hun hi; refine wpOpV rfl (fun K hK => ?_); go_simp; have hc_ := HT2'.out Vz hI.hb; refine hc_.mono ?_; rintro e V' ⟨A4', c4', B4', b4', rfl, hM, hb_⟩; exact hK _ _ ⟨k0_, true, k2_, true, true, k5_, k6_, false, A3z, c3z, A4', c4', B4', b4', A5z, c5z, B5z, b5_z, pz, okz, rfl, rfl, (fun h => by cases h), (fun e => ⟨(hru e).1, Kd.C_below (hru e).2 hb_⟩), hI.entry hb_ hM⟩
     · obtain rfl := Option.some.inj ho; have m5 : k5_ = false := hun; have m7 : k7_ = false := by
         cases h_ : k7_ with
         | false => rfl
         | true => have := hcl h_; simp [m5] at this
       have n1 : k1_ = true := hall _ (Array.mem_of_getElem? (i := 0) rfl) rfl; have n2 : k2_ = true := hall _ (Array.mem_of_getElem? (i := 1) rfl) rfl; have n4 : k4_ = true := hall _ (Array.mem_of_getElem? (i := 2) rfl) rfl; subst m5 m7 n1 n2 n4; clear hall hun hi; refine wpOpV rfl (fun K hK => ?_); go_simp; have hc_ := HIM.out A3z c3z A4z c4z B4z b4_z Vz (hru rfl).2 (hru rfl).1 (hI.he rfl); refine hc_.mono ?_; rintro e V' ⟨A5', c5', B5', b5', rfl, hM, hb_⟩; exact hK _ _ ⟨k0_, true, true, k3_, true, true, k6_, false, A3z, c3z, A4z, c4z, B4z, b4_z, A5', c5', B5', b5', pz, (fun k => Vz.heap.size ≤ k ∧ k < V'.heap.size), rfl, rfl, (fun h => by cases h), (fun e => ⟨(hru e).1, Kd.C_below (hru e).2 hb_⟩), hI.result hb_ hM⟩
     · obtain rfl := Option.some.inj ho; have m6 : k6_ = false := hun; have m7 : k7_ = false := by
         cases h_ : k7_ with
         | false => rfl
         | true => have := hcl h_; simp [m6] at this
       subst m6 m7 ; clear hall hun hi; refine wpOpV rfl (fun K hK => ?_); go_simp; have hb_ := below_alloc (Below.refl _ Vz) (.cells #[.slice none 0 0, .slice none 0 0, .int .i64 0] 54); exact hK _ _ ⟨k0_, k1_, k2_, k3_, k4_, k5_, true, false, A3z, c3z, A4z, c4z, B4z, b4_z, A5z, c5z, B5z, b5_z, Vz.heap.size, (fun k => okz k ∧ k < Vz.heap.size), rfl, rfl, (fun h => by cases h), (fun e => ⟨(hru e).1, Kd.C_below (hru e).2 hb_⟩), hI.alloc⟩
     · obtain rfl := Option.some.inj ho; have m7 : k7_ = false := hun; have n6 : k6_ = true := hall _ (Array.mem_of_getElem? (i := 0) rfl) rfl; have n5 : k5_ = true := hall _ (Array.mem_of_getElem? (i := 1) rfl) rfl; have n0 : k0_ = true := hall _ (Array.mem_of_getElem? (i := 3) rfl) rfl; have n1 : k1_ = true := hall _ (Array.mem_of_getElem? (i := 4) rfl) rfl; have n2 : k2_ = true := hall _ (Array.mem_of_getElem? (i := 5) rfl) rfl; have n3 : k3_ = true := hall _ (Array.mem_of_getElem? (i := 6) rfl) rfl; have n4 : k4_ = true := hall _ (Array.mem_of_getElem? (i := 7) rfl) rfl; subst m7  n6 n5 n0 n1 n2 n3 n4; clear hall hun hi; have hk_ := (hI.ha rfl).2; rw [if_neg (by decide)] at hk_; have u0 := blk_cell hk_ 0; have u1 := blk_cell hk_ 1; have u2 := blk_cell hk_ 2; have f0 := blk_frozen hk_ 0; have f1 := blk_frozen hk_ 1; have f2 := blk_frozen hk_ 2; refine wpOpV rfl (fun K hK => ?_); go_simp; exact hK _ _ ⟨true, true, true, true, true, true, true, true, A3z, c3z, A4z, c4z, B4z, b4_z, A5z, c5z, B5z, b5_z, pz, okz, rfl, rfl, (fun _ => rfl), (fun h => by cases h), hI.store⟩
   case done =>
     rintro li a Vz ⟨k0_, k1_, k2_, k3_, k4_, k5_, k6_, k7_, A3z, c3z, A4z, c4z, B4z, b4_z, A5z, c5z, B5z, b5_z, pz, okz, rfl, rfl, hcl, hru, hI⟩ hr; have hno : ∀ j, ¬ j ∈ Region.ready _ _ _ := fun j hj => by rw [hr] at hj; cases hj
     have n0 : k0_ = true := by
       by_cases h : k0_ = true
       · exact h
       · exact (hno 0 (mem_ready.2 ⟨by simpa using h, _, rfl, by simp [*]⟩)).elim
     have n1 : k1_ = true := by
       by_cases h : k1_ = true
       · exact h
       · exact (hno 1 (mem_ready.2 ⟨by simpa using h, _, rfl, by simp [*]⟩)).elim
     have n2 : k2_ = true := by
       by_cases h : k2_ = true
       · exact h
       · exact (hno 2 (mem_ready.2 ⟨by simpa using h, _, rfl, by simp [*]⟩)).elim
     have n3 : k3_ = true := by
       by_cases h : k3_ = true
       · exact h
       · exact (hno 3 (mem_ready.2 ⟨by simpa using h, _, rfl, by simp [*]⟩)).elim
     have n4 : k4_ = true := by
       by_cases h : k4_ = true
       · exact h
       · exact (hno 4 (mem_ready.2 ⟨by simpa using h, _, rfl, by simp [*]⟩)).elim
     have n5 : k5_ = true := by
       by_cases h : k5_ = true
       · exact h
       · exact (hno 5 (mem_ready.2 ⟨by simpa using h, _, rfl, by simp [*]⟩)).elim
     have n6 : k6_ = true := by
       by_cases h : k6_ = true
       · exact h
       · exact (hno 6 (mem_ready.2 ⟨by simpa using h, _, rfl, by simp [*]⟩)).elim
     have n7 : k7_ = true := by
       by_cases h : k7_ = true
       · exact h
       · exact (hno 7 (mem_ready.2 ⟨by simpa using h, _, rfl, by simp [*]⟩)).elim
     subst n0 n1 n2 n3 n4 n5 n6 n7; clear hno hr hcl hru; simp only [if_true]; have L19 := Aside0.mk (L18.out.step hI.hb); have hkz := (hI.ha rfl).2; rw [if_pos rfl] at hkz; have Rz := Aside0.mk (hI.hr rfl); have j0 : Vz.cell? ⟨pz, 0, none⟩ = some (.slice A5z q0.length c5z) := (blk_cell hkz 0).trans rfl; have j1 : Vz.cell? ⟨pz, 1, none⟩ = some (.slice B5z q1.length b5_z) := (blk_cell hkz 1).trans rfl; have j2 : Vz.cell? ⟨pz, 2, none⟩ = some (.int .i64 qc) := (blk_cell hkz 2).trans rfl; obtain ⟨i0, i1, i2⟩ := HC8.out Vz L19.out.hb; clear hI hkz g0 g1; go_wp2_with (first | (go_at_call 27; have hc := eqEntryOut_m ⟨q0, q1⟩ HQ.out.2.2.1 q0.length q1.length qc A5z c5z B5z b5_z A5 c5 B5 b5_ Vz Rz.out (EM_keep R5.out L19.out.hb); refine hc.mono ?_; rintro e V20 ⟨rfl, hb20⟩; have L20 := Aside0.mk (L19.out.step hb20); have j0 := L20.out.c11 0; have j1 := L20.out.c11 1; have j2 := L20.out.c11 2; clear hb20 hc) | (go_at_call 32; have hc := hHO.out V20 L20.out.em; refine hc.mono ?_; rintro e V21 ⟨rfl, hb21⟩; have L21 := Aside0.mk (L20.out.step hb21); clear hb21 hc)); go_ret; exact ⟨rfl, below_step (below_step HB1.out HBV.out) L21.out.hb⟩
end Go.Proofs.YtcelpnhajokaaaaGreatDoor.PG
