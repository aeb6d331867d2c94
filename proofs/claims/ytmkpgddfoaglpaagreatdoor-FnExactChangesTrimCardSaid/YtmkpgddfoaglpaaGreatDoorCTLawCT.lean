/-
 The walk of the law FnExactChangesTrim. No condition but what the arguments fit.
-/
import Derived.Deep.RegionHeld3
import Derived.Test.YtmkpgddfoaglpaaGreatDoorCTTrimI
set_option maxHeartbeats 8000000
set_option maxRecDepth 100000
set_option linter.unusedVariables false
set_option linter.unusedSimpArgs false
namespace Go.Proofs.YtmkpgddfoaglpaaGreatDoor.PG
open Go.RowKit Go.Proofs.YtmkpgddfoaglpaaGreatDoorW.PrintWords Go.Proofs.YtmkpgddfoaglpaaGreatDoorW.PrintLast Go.Proofs.YtmkpgddfoaglpaaGreatDoorW.PrintMore Go.Proofs.YtmkpgddfoaglpaaGreatDoor.Gn Go.Proofs.YtmkpgddfoaglpaaGreatDoor
attribute [local go_sem] max2_int min2_int max_two min_two max_three min_three max_four min_four World.cell?_drew World.frozen?_drew
theorem chg_VK {e : Nat} {V : World} {base : Nat} {ok : Nat → Prop} {v : Value} {xs : List S145} (h : Kd.S mChg e V base ok v xs) : Kd.V k145 145 V V.heap.size (fun _ => True) v xs := by
 obtain ⟨A, c, h1, h2, h3⟩ := Kd.S_V (base' := V.heap.size) (Kd.S_mono (ok' := fun _ => True) h (fun _ _ => trivial))
 exact ⟨A, c, h1, h2, h3⟩
theorem CM_r {V : World} {base : Nat} {ok : Nat → Prop} {q0 q3 : Int} {q1 q2 : List S145} {A : Option Addr} {c : Nat} {B : Option Addr} {b : Nat} (h : CM V base ok ⟨⟨q0, q1⟩, q2, q3⟩ A q1.length c B q2.length b) : q1.length ≤ c ∧ Kd.C k145 V A q1.length q1 ∧ q2.length ≤ b ∧ Kd.C k145 V B q2.length q2 := by
 obtain ⟨_, _, h1, h2, h3, h4⟩ := CM_C h
 exact ⟨h1, h2, h3, h4⟩
theorem CM_r2 {V : World} {base : Nat} {ok : Nat → Prop} {y : S69} {A : Option Addr} {n c : Nat} {B : Option Addr} {m b : Nat} (h : CM V base ok y A n c B m b) : n ≤ c ∧ Kd.C k145 V A n y.f0.f1 ∧ m ≤ b ∧ Kd.C k145 V B m y.f1 := by
 obtain ⟨_, _, h1, h2, h3, h4⟩ := CM_C h
 exact ⟨h1, h2, h3, h4⟩
theorem RC_keep {V V' : World} {q1 q2 : List S145} {A : Option Addr} {n c : Nat} {B : Option Addr} {m b : Nat} (h : n ≤ c ∧ Kd.C k145 V A n q1 ∧ m ≤ b ∧ Kd.C k145 V B m q2) (hb : Below V.heap.size V V') : n ≤ c ∧ Kd.C k145 V' A n q1 ∧ m ≤ b ∧ Kd.C k145 V' B m q2 := ⟨h.1, Kd.C_below h.2.1 hb, h.2.2.1, Kd.C_below h.2.2.2 hb⟩
theorem trim_fit (y : S67) (n : Int) (h1 : y.f1.length ≤ 1048576) (h2 : ∀ e, e ∈ y.f1 → okChg e ∧ n_Chg e ≤ 1200000000000) (hln : lens_Changes y) (hny : nCs y.f1 ≤ 2000000000000000000) :
   ((coOf (trimV y.f0 y.f1 n)).f0.f1.length ≤ 1048576 ∧ (coOf (trimV y.f0 y.f1 n)).f1.length ≤ 1048576) ∧ n_CO (coOf (trimV y.f0 y.f1 n)) ≤ 2000000000000000000 ∧ lens_ChangesOut (coOf (trimV y.f0 y.f1 n)) := by
 unfold trimV
 split
 · have hm : ∀ e, e ∈ trimL y.f1 n → e ∈ y.f1 := fun e he => (List.mem_filter.1 he).1
   have hl : (trimL y.f1 n).length ≤ 1048576 := Nat.le_trans (List.length_filter_le _ _) h1
   have hl2 : (trimL y.f1 n).length ≤ y.f1.length := List.length_filter_le _ _
   refine ⟨⟨hl, Nat.zero_le _⟩, ?_, ⟨trivial, ⟨by show (trimL y.f1 n).length ≤ _; omega, fun e he => hln.2.2 e (hm e he)⟩⟩, ⟨Nat.zero_le _, fun _ h => by cases h⟩, trivial⟩
   have h3 := nCs_leK 1200000000000 (trimL y.f1 n) (fun a ha => (h2 a (hm a ha)).2)
   have h4 := Nat.mul_le_mul_right 1200000000000 hl
   show nCs (trimL y.f1 n) + nCs [] ≤ _
   have : nCs ([] : List S145) = 0 := rfl
   omega
 · exact ⟨⟨Nat.zero_le _, Nat.zero_le _⟩, Nat.zero_le _, ⟨trivial, ⟨Nat.zero_le _, fun _ h => by cases h⟩⟩, ⟨Nat.zero_le _, fun _ h => by cases h⟩, trivial⟩
theorem walk_FnExactChangesTrim (x : S63) (n : Int) (w : Ft.fit63 x) (w1 : (Lit.int .i64 n).wf = true) (A0 : Option Addr) (c0 : Nat) (W : World) (hC0 : Kd.C k233 W A0 x.f1.length x.f1) (hl0 : x.f1.length ≤ c0) :
   Calls Tryz.prog 7 #[.agg #[.int .i64 x.f0, .slice A0 x.f1.length c0], .int .i64 n] W (RetB true W) := by
 obtain ⟨W1, hW1⟩ : ∃ W1, W.alloc (.cells #[.int .i64 x.f0, .slice A0 x.f1.length c0] 63) = W1 := ⟨_, rfl⟩
 have hB1 : Below W.heap.size W W1 := by rw [← hW1]; exact below_alloc (Below.refl _ _) _
 have hn : W1.heap[W.heap.size]? = some (.cells #[.int .i64 x.f0, .slice A0 x.f1.length c0] 63 (0, 0)) := by rw [← hW1]; exact heap_alloc_new W _
 have HCE := Aside0.mk (fun (V : World) (hb : Below W1.heap.size W1 V) => (show V.cell? ⟨W.heap.size, 0, none⟩ = some (.int .i64 x.f0) ∧ V.cell? ⟨W.heap.size, 1, none⟩ = some (.slice A0 x.f1.length c0) from ⟨pw_cell_below hb (cell_blk hn rfl), pw_cell_below hb (cell_blk hn rfl)⟩))
 have HC1 := Aside0.mk (fun (V : World) (hb : Below W1.heap.size W1 V) => Kd.C_below (Kd.C_below hC0 hB1) hb)
 have HL := Aside0.mk hl0
 have HBW := Aside0.mk hB1
 obtain ⟨e0, e1⟩ := HCE.out W1 (Below.refl _ _)
 obtain ⟨r0, hr0, hle0, hs0⟩ := sz_Changes x w 1048576 (by omega) (by omega)
 have hS0 := szChanges_m x 1048576 r0 hr0 A0 c0 W1 (HC1.out W1 (Below.refl _ _)) HL.out
 clear hr0 hC0 hl0 hn hB1
 by_cases hneg0 : r0 < 0
 · have hd0 : decide (r0 < 0) = true := decide_eq_true hneg0
   clear hs0 hneg0 hle0
   go_enter Tryz.func7, Tryz.ntmps7
   go_wp2_with (go_at_call 37; refine hS0.mono ?_; rintro e w3 ⟨rfl, hb3⟩)
   go_ret
   exact ⟨rfl, below_step HBW.out hb3⟩
 have hd0 : decide (r0 < 0) = false := decide_eq_false hneg0
 have hsm := hs0 (by omega)
 have hln := lens_conv_Changes x hsm
 obtain ⟨hy1, hy2⟩ := chgs_smallK x.f1 hsm.2
 have HT := Aside0.mk (fun (V : World) (hb : Below W1.heap.size W1 V) => toChanges_m x w A0 c0 V (HC1.out V hb) HL.out)
 have e3 : x.f1.map conv_Change = (conv_Changes x).f1 := rfl
 rw [e3] at hy1 hy2
 generalize conv_Changes x = y at HT hln hy1 hy2
 have hok : ∀ e, e ∈ y.f1 → okChg e := fun e he => (hy2 e he).1
 have HSP := Aside0.mk (fun A c V h0 => strim_c y n hok A c V h0)
 have HIM := Aside0.mk (fun A c V h0 h1 => itrim_c y n hok A c V h0 h1)
 have HEY := Aside0.mk (fun A B a b V h0 l0 h1 l1 => eqChanges_m y hln A B a b V h0 l0 h1 l1)
 have hny : nCs y.f1 ≤ 2000000000000000000 := by
   have h1 := nCs_leK 1200000000000 y.f1 (fun a ha => (hy2 a ha).2)
   have h2 := Nat.mul_le_mul_right 1200000000000 hy1
   omega
 obtain ⟨hq1, hq2, hq3⟩ := trim_fit y n hy1 (fun e he => hy2 e he) hln hny
 generalize coOf (trimV y.f0 y.f1 n) = q at HSP HIM hq1 hq2 hq3
 obtain ⟨⟨q0, q1⟩, q2, q3⟩ := q
 obtain ⟨y0, y1⟩ := y
 dsimp only [RetCR, RetCO, RetCh] at HSP HIM HT HEY hy1 hq1 hny
 have HEQ := Aside0.mk (fun A B A' B' a b a' b' V h0 h1 => eqCO_m ⟨⟨q0, q1⟩, q2, q3⟩ hq3 q1.length q2.length rfl rfl A B A' B' a b a' b' V h0 h1)
 have HMY := Aside0.mk (fun w0 ok A c V hB hS => markChanges_m w0 ok y0 A y1.length c y1 1 V hB hS (by omega) (by decide) (by omega))
 have HMQ := Aside0.mk (fun w0 ok A c B b V hB hM hok => markCO_m w0 ok ⟨⟨q0, q1⟩, q2, q3⟩ A q1.length c B q2.length b 1 V hB hM hok (by show q1.length ≤ _; omega) (by show q2.length ≤ _; omega) (by decide) (by omega))
 have HHQ := Aside0.mk (fun A B c b V h => heldCO_m ⟨⟨q0, q1⟩, q2, q3⟩ q1.length q2.length rfl rfl A B c b 1 V h (by show q1.length ≤ _; omega) (by show q2.length ≤ _; omega) (by decide) (by omega))
 dsimp only at HEQ HMQ HHQ
 generalize nCs y1 = ny at HMY hny
 generalize hnq : n_CO ⟨⟨q0, q1⟩, q2, q3⟩ = nq at HMQ HHQ hq2
 have hp1 : ¬ (1 + (ny : Int) < 0) := by omega
 have hp2 : ¬ (1 + (nq : Int) < 0) := by omega
 clear hs0 hneg0 hle0 hsm hln hy1 hy2 hok e3 hny hq1 hq2 hq3 hnq w w1
 go_enter Tryz.func7, Tryz.ntmps7
 go_wp2_with (first | (go_at_call 37; have hc := hS0; (with_reducible refine hc.mono ?_); rintro e V1 ⟨rfl, hb⟩; have HB1 := Aside0.mk hb; obtain ⟨g0, g1⟩ := HCE.out V1 hb; clear hb hc) | (go_at_call 39; have hc := HT.out V1 HB1.out; (with_reducible refine hc.mono ?_); rintro e V2 ⟨A2, c2, rfl, hS, hb⟩; have HB2 := Aside0.mk (below_step HB1.out hb); have X2 := Aside0.mk (chg_VK hS); clear hS hb hc) | (go_at_call 46; have hc := HSP.out A2 c2 V2 X2.out; (with_reducible refine hc.mono ?_); rintro e V3 ⟨A3, c3, B3, b3_, rfl, hX, hb⟩; have HB3 := Aside0.mk (below_step HB2.out hb); have X3 := Aside0.mk hX; obtain ⟨g0, g1⟩ := HCE.out (V3.alloc (.cells #[.int .i64 q0, .slice A3 q1.length c3, .slice B3 q2.length b3_, .int .i64 q3] 69)) (below_step HB3.out (below_alloc (Below.refl _ _) _)); clear hX hb hc) | (go_at_call 39; obtain ⟨V4, hV4⟩ : ∃ V4, V3.alloc (.cells #[.int .i64 q0, .slice A3 q1.length c3, .slice B3 q2.length b3_, .int .i64 q3] 69) = V4 := ⟨_, rfl⟩; rw [hV4]; have hb34 : Below V3.heap.size V3 V4 := (by rw [← hV4]; exact below_alloc (Below.refl _ _) _); have hn4 : V4.heap[V3.heap.size]? = some (.cells #[.int .i64 q0, .slice A3 q1.length c3, .slice B3 q2.length b3_, .int .i64 q3] 69 (0, 0)) := (by rw [← hV4]; exact heap_alloc_new V3 _); have HB4 := Aside0.mk (below_step HB3.out hb34); have X4 := Aside0.mk (RC_keep X3.out hb34); have HC6 := Aside0.mk (fun (V : World) (hb : Below V4.heap.size V4 V) => (show V.cell? ⟨V3.heap.size, 0, none⟩ = some (.int .i64 q0) ∧ V.cell? ⟨V3.heap.size, 1, none⟩ = some (.slice A3 q1.length c3) ∧ V.cell? ⟨V3.heap.size, 2, none⟩ = some (.slice B3 q2.length b3_) ∧ V.cell? ⟨V3.heap.size, 3, none⟩ = some (.int .i64 q3) from ⟨(blk_cell (blk_below hn4 hb) 0).trans rfl, (blk_cell (blk_below hn4 hb) 1).trans rfl, (blk_cell (blk_below hn4 hb) 2).trans rfl, (blk_cell (blk_below hn4 hb) 3).trans rfl⟩)); have hc := HT.out V4 HB4.out; (with_reducible refine hc.mono ?_); rintro e V5 ⟨A5, c5, rfl, hS, hb⟩; have B5 := Aside0.mk hb; have E5 := Aside0.mk hS; clear hS hb hc hb34 hn4 hV4) | (go_at_call 47; obtain ⟨V6, hV6⟩ : ∃ V6, V5.alloc (.cells #[.int .i64 y0, .slice A5 y1.length c5] 67) = V6 := ⟨_, rfl⟩; rw [hV6]; have hb56 : Below V5.heap.size V5 V6 := (by rw [← hV6]; exact below_alloc (Below.refl _ _) _); have hn6 : V6.heap[V5.heap.size]? = some (.cells #[.int .i64 y0, .slice A5 y1.length c5] 67 (0, 0)) := (by rw [← hV6]; exact heap_alloc_new V5 _); have HS6 := Aside0.mk (show V6.heap.size = V5.heap.size + 1 from (by rw [← hV6]; simp)); have E6 := Aside0.mk (Kd.S_below E5.out hb56); have B6 := Aside0.mk (below_step B5.out hb56); have hc := HIM.out A5 c5 V6 (chg_CV E6.out).2 (chg_CV E6.out).1; (with_reducible refine hc.mono ?_); rintro e V7 ⟨A7, c7, B7, b7_, rfl, hM, hb⟩; have B7' := Aside0.mk (below_step B6.out hb); have E7 := Aside0.mk (Kd.S_below E6.out hb); have K7_7 := Aside0.mk (blk_below hn6 hb); have R7 := Aside0.mk (CM_lower hM B6.out.size); obtain ⟨j0, j1, j2, j3⟩ := HC6.out (V7.alloc (.cells #[.int .i64 q0, .slice A7 q1.length c7, .slice B7 q2.length b7_, .int .i64 q3] 69)) (below_step B7'.out (below_alloc (Below.refl _ _) _)); clear hM hb hc hb56 hn6 hV6) | (go_at_call 41; obtain ⟨V8, hV8⟩ : ∃ V8, V7.alloc (.cells #[.int .i64 q0, .slice A7 q1.length c7, .slice B7 q2.length b7_, .int .i64 q3] 69) = V8 := ⟨_, rfl⟩; rw [hV8]; have hb78 : Below V7.heap.size V7 V8 := (by rw [← hV8]; exact below_alloc (Below.refl _ _) _); have K8_8 := Aside0.mk (show V8.heap[V7.heap.size]? = some (.cells #[.int .i64 q0, .slice A7 q1.length c7, .slice B7 q2.length b7_, .int .i64 q3] 69 (0, 0)) from (by rw [← hV8]; exact heap_alloc_new V7 _)); have R8 := Aside0.mk (CM_keep R7.out hb78); have E8 := Aside0.mk (Kd.S_below E7.out hb78); have K7_8 := Aside0.mk (blk_below K7_7.out hb78); have B8 := Aside0.mk (below_step B7'.out hb78); have hc := HEQ.out A7 B7 A3 B3 c7 b7_ c3 b3_ V8 (CM_r R8.out) (RC_keep X4.out B8.out); (with_reducible refine hc.mono ?_); rintro e V9 ⟨rfl, hb⟩; have B9 := Aside0.mk (below_step B8.out hb); have E9 := Aside0.mk (Kd.S_below E8.out hb); have R9 := Aside0.mk (CM_keep R8.out hb); have K7_9 := Aside0.mk (blk_below K7_8.out hb); have K8_9 := Aside0.mk (blk_below K8_8.out hb); obtain ⟨g0, g1⟩ := HCE.out V9 (below_step HB4.out B9.out); have i0 := (show V9.cell? ⟨V5.heap.size, 0, none⟩ = some (.int .i64 y0) from (blk_cell K7_9.out 0).trans rfl); have i1 := (show V9.cell? ⟨V5.heap.size, 1, none⟩ = some (.slice A5 y1.length c5) from (blk_cell K7_9.out 1).trans rfl); clear hb hc hb78 hV8))
 go_region_held3 (fun w' => w'.cell? ⟨W.heap.size, 0, none⟩ = some (.int .i64 x.f0) ∧ w'.cell? ⟨W.heap.size, 1, none⟩ = some (.slice A0 x.f1.length c0) ∧ w'.cell? ⟨V5.heap.size, 0, none⟩ = some (.int .i64 y0) ∧ w'.cell? ⟨V5.heap.size, 1, none⟩ = some (.slice A5 y1.length c5)) (go_keep) (first | (go_at_call 39; refine (HT.out _ (by first | exact (below_step HB4.out B9.out) | exact below_drew (below_step HB4.out B9.out))).mono ?_; rintro e V10 ⟨A10, c10, rfl, hS, hb⟩; have b910 := Aside0.mk (show Below V9.heap.size V9 V10 from below_step (by first | exact Below.refl _ _ | exact below_drew (Below.refl _ _)) hb); have B10 := Aside0.mk (below_step B9.out b910.out); have K7_10 := Aside0.mk (blk_below K7_9.out b910.out); obtain ⟨g0, g1⟩ := HCE.out V10 (below_step HB4.out B10.out); have i0 := (show V10.cell? ⟨V5.heap.size, 0, none⟩ = some (.int .i64 y0) from (blk_cell K7_10.out 0).trans rfl); have i1 := (show V10.cell? ⟨V5.heap.size, 1, none⟩ = some (.slice A5 y1.length c5) from (blk_cell K7_10.out 1).trans rfl); have Z10 := Aside0.mk (chg_CV hS); clear hS hb) | (go_at_call 42; refine (HEY.out A5 A10 c5 c10 V10 (chg_CV (Kd.S_below E9.out b910.out)).2 (chg_CV (Kd.S_below E9.out b910.out)).1 Z10.out.2 Z10.out.1).mono ?_; rintro e V11 ⟨rfl, hb⟩; have b911 := Aside0.mk (below_step b910.out hb); have B11 := Aside0.mk (below_step B9.out b911.out); have K7_11 := Aside0.mk (blk_below K7_9.out b911.out); obtain ⟨g0, g1⟩ := HCE.out V11 (below_step HB4.out B11.out); have i0 := (show V11.cell? ⟨V5.heap.size, 0, none⟩ = some (.int .i64 y0) from (blk_cell K7_11.out 0).trans rfl); have i1 := (show V11.cell? ⟨V5.heap.size, 1, none⟩ = some (.slice A5 y1.length c5) from (blk_cell K7_11.out 1).trans rfl); clear hb))
 have E11 := Aside0.mk (Kd.S_below E9.out b911.out)
 have R11 := Aside0.mk (CM_keep R9.out b911.out)
 have K8_11 := Aside0.mk (blk_below K8_9.out b911.out)
 have H57 := Aside0.mk (show V5.heap.size ≤ V7.heap.size from Nat.le_of_lt (blk_lt K7_7.out))
 go_wp2_with (first | (go_at_call 43; have hc := HMY.out V4 _ A5 c5 V11 B11.out E11.out; (with_reducible refine hc.mono ?_); rintro e V12 ⟨rfl, hS, hb, hk⟩; have B12 := Aside0.mk hb; have R12 := Aside0.mk (CM_kept R11.out hk (fun k h1 h2 => by have := HS6.out; have h3_ := h1.1; have h4_ := h2.2; omega)); have K8_12 := Aside0.mk (blk_kept K8_11.out hk (fun h => by have h3_ := h.2; have := H57.out; omega)); obtain ⟨j0, j1, j2, j3⟩ := HC6.out V12 B12.out; have h0 := (show V12.cell? ⟨V7.heap.size, 0, none⟩ = some (.int .i64 q0) from (blk_cell K8_12.out 0).trans rfl); have h1 := (show V12.cell? ⟨V7.heap.size, 1, none⟩ = some (.slice A7 q1.length c7) from (blk_cell K8_12.out 1).trans rfl); have h2 := (show V12.cell? ⟨V7.heap.size, 2, none⟩ = some (.slice B7 q2.length b7_) from (blk_cell K8_12.out 2).trans rfl); have h3 := (show V12.cell? ⟨V7.heap.size, 3, none⟩ = some (.int .i64 q3) from (blk_cell K8_12.out 3).trans rfl); clear hS hb hk hc) | (go_at_call 41; have hc := HEQ.out A7 B7 A3 B3 c7 b7_ c3 b3_ V12 (CM_r R12.out) (RC_keep X4.out B12.out); (with_reducible refine hc.mono ?_); rintro e V13 ⟨rfl, hb⟩; have B13 := Aside0.mk (below_step B12.out hb); have R13 := Aside0.mk (CM_keep R12.out hb); have K8_13 := Aside0.mk (blk_below K8_12.out hb); have h0 := (show V13.cell? ⟨V7.heap.size, 0, none⟩ = some (.int .i64 q0) from (blk_cell K8_13.out 0).trans rfl); have h1 := (show V13.cell? ⟨V7.heap.size, 1, none⟩ = some (.slice A7 q1.length c7) from (blk_cell K8_13.out 1).trans rfl); have h2 := (show V13.cell? ⟨V7.heap.size, 2, none⟩ = some (.slice B7 q2.length b7_) from (blk_cell K8_13.out 2).trans rfl); have h3 := (show V13.cell? ⟨V7.heap.size, 3, none⟩ = some (.int .i64 q3) from (blk_cell K8_13.out 3).trans rfl); clear hb hc) | (go_at_call 44; have H713 := Aside0.mk (blk_lt K8_13.out); have hc := HMQ.out V4 _ A7 c7 B7 b7_ V13 B13.out R13.out (fun k hk => Nat.lt_trans hk.2 H713.out); (with_reducible refine hc.mono ?_); rintro e V14 ⟨rfl, hM, hb, hk⟩; have B14 := Aside0.mk hb; have R14 := Aside0.mk hM; have K8_14 := Aside0.mk (blk_kept K8_13.out hk (fun h => Nat.lt_irrefl _ h.2)); have h0 := (show V14.cell? ⟨V7.heap.size, 0, none⟩ = some (.int .i64 q0) from (blk_cell K8_14.out 0).trans rfl); have h1 := (show V14.cell? ⟨V7.heap.size, 1, none⟩ = some (.slice A7 q1.length c7) from (blk_cell K8_14.out 1).trans rfl); have h2 := (show V14.cell? ⟨V7.heap.size, 2, none⟩ = some (.slice B7 q2.length b7_) from (blk_cell K8_14.out 2).trans rfl); have h3 := (show V14.cell? ⟨V7.heap.size, 3, none⟩ = some (.int .i64 q3) from (blk_cell K8_14.out 3).trans rfl); clear hM hb hk hc) | (go_at_call 45; have hc := HHQ.out A7 B7 c7 b7_ V14 (CM_r2 R14.out); (with_reducible refine hc.mono ?_); rintro e V15 ⟨rfl, hb⟩; have B15 := Aside0.mk (below_step B14.out hb); have R15 := Aside0.mk (CM_keep R14.out hb); have K8_15 := Aside0.mk (blk_below K8_14.out hb); obtain ⟨g0, g1⟩ := HCE.out V15 (below_step HB4.out B15.out); clear hb hc) | (go_at_call 39; have hc := HT.out V15 (below_step HB4.out B15.out); (with_reducible refine hc.mono ?_); rintro e V16 ⟨A16, c16, rfl, hS, hb⟩; have B16 := Aside0.mk (below_step B15.out hb); have R16 := Aside0.mk (CM_keep R15.out hb); have K8_16 := Aside0.mk (blk_below K8_15.out hb); have Z16 := Aside0.mk (chg_CV hS); clear hS hb hc) | (go_at_call 47; have hc := HIM.out A16 c16 V16 Z16.out.2 Z16.out.1; (with_reducible refine hc.mono ?_); rintro e V17 ⟨A17, c17, B17', b17_, rfl, hM, hb⟩; have Z17 := Aside0.mk (CM_r hM); have B17 := Aside0.mk (below_step B16.out hb); have R17 := Aside0.mk (CM_keep R16.out hb); have K8_17 := Aside0.mk (blk_below K8_16.out hb); obtain ⟨j0, j1, j2, j3⟩ := HC6.out (V17.alloc (.cells #[.int .i64 q0, .slice A17 q1.length c17, .slice B17' q2.length b17_, .int .i64 q3] 69)) (below_step B17.out (below_alloc (Below.refl _ _) _)); clear hM hb hc) | (go_at_call 41; obtain ⟨V18, hV18⟩ : ∃ V18, V17.alloc (.cells #[.int .i64 q0, .slice A17 q1.length c17, .slice B17' q2.length b17_, .int .i64 q3] 69) = V18 := ⟨_, rfl⟩; rw [hV18]; have hb1718 : Below V17.heap.size V17 V18 := (by rw [← hV18]; exact below_alloc (Below.refl _ _) _); have B18 := Aside0.mk (below_step B17.out hb1718); have R18 := Aside0.mk (CM_keep R17.out hb1718); have K8_18 := Aside0.mk (blk_below K8_17.out hb1718); have hc := HEQ.out A17 B17' A3 B3 c17 b17_ c3 b3_ V18 (RC_keep Z17.out hb1718) (RC_keep X4.out B18.out); (with_reducible refine hc.mono ?_); rintro e V19 ⟨rfl, hb⟩; have B19 := Aside0.mk (below_step B18.out hb); have R19 := Aside0.mk (CM_keep R18.out hb); have K8_19 := Aside0.mk (blk_below K8_18.out hb); have h0 := (show V19.cell? ⟨V7.heap.size, 0, none⟩ = some (.int .i64 q0) from (blk_cell K8_19.out 0).trans rfl); have h1 := (show V19.cell? ⟨V7.heap.size, 1, none⟩ = some (.slice A7 q1.length c7) from (blk_cell K8_19.out 1).trans rfl); have h2 := (show V19.cell? ⟨V7.heap.size, 2, none⟩ = some (.slice B7 q2.length b7_) from (blk_cell K8_19.out 2).trans rfl); have h3 := (show V19.cell? ⟨V7.heap.size, 3, none⟩ = some (.int .i64 q3) from (blk_cell K8_19.out 3).trans rfl); clear hb hc hb1718 hV18) | (go_at_call 45; have hc := HHQ.out A7 B7 c7 b7_ V19 (CM_r2 R19.out); (with_reducible refine hc.mono ?_); rintro e V20 ⟨rfl, hb⟩; have B20 := Aside0.mk (below_step B19.out hb); clear hb hc))
 go_ret
 exact ⟨rfl, below_step HBW.out (below_step HB4.out B20.out)⟩
end Go.Proofs.YtmkpgddfoaglpaaGreatDoor.PG
