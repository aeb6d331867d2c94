/-
  The walk of the law FnExactFilterEval. No condition but what the arguments fit.
-/
import Derived.Deep.RegionHeld3
import Derived.Test.YtpocoeghobdfiaaGreatDoorFEP2
import Derived.Test.YtpocoeghobdfiaaGreatDoorFECallsT
namespace Go.Proofs.YtpocoeghobdfiaaGreatDoor.PG
open Go.RowKit Go.Proofs.YtpocoeghobdfiaaGreatDoorW.PrintWords Go.Proofs.YtpocoeghobdfiaaGreatDoorW.PrintLast Go.Proofs.YtpocoeghobdfiaaGreatDoorW.PrintMore Go.Proofs.YtpocoeghobdfiaaGreatDoor.Gn Go.Proofs.YtpocoeghobdfiaaGreatDoor
attribute [local go_sem] max2_int min2_int max_two min_two max_three min_three max_four min_four World.cell?_drew World.frozen?_drew
set_option linter.unusedVariables false
set_option linter.unusedSimpArgs false

set_option maxHeartbeats 8000000 in
set_option maxRecDepth 100000 in
theorem walk_FilterEval (x0 : List S82) (x1 : S26) (x2 : List ByteArray) (w0 : Ft.fit43 x0) (w1 : Ft.fit26 x1) (w2 : Ft.fit44 x2)
    (A0 : Option Addr) (c0 : Nat) (A1 : Option Addr) (c1 : Nat) (B1 : Option Addr) (b1 : Nat) (A2 : Option Addr) (c2 : Nat) (W : World)
    (hC0 : Kd.C k82 W A0 x0.length x0) (hl0 : x0.length ≤ c0) (hC1 : Kd.C k102 W A1 x1.f0.length x1.f0) (hl1 : x1.f0.length ≤ c1) (hD1 : Kd.C k105 W B1 x1.f1.length x1.f1) (hm1 : x1.f1.length ≤ b1) (hC2 : Kd.C Kd.string W A2 x2.length x2) (hl2 : x2.length ≤ c2) :
    Calls Tryz.prog 4 #[.slice A0 x0.length c0, .agg #[.slice A1 x1.f0.length c1, .slice B1 x1.f1.length b1], .slice A2 x2.length c2] W (RetB true W) := by
  obtain ⟨r0, hr0, hle0, hs0⟩ := sz_NodeS x0 w0 1048576 (by omega) (by omega)
  obtain ⟨W1, hW1⟩ : ∃ W1, W.alloc (.cells #[.slice A1 x1.f0.length c1, .slice B1 x1.f1.length b1] 26) = W1 := ⟨_, rfl⟩
  have hB1 : Below W.heap.size W W1 := by rw [← hW1]; exact below_alloc (Below.refl _ _) _
  have hn : W1.heap[W.heap.size]? = some (.cells #[.slice A1 x1.f0.length c1, .slice B1 x1.f1.length b1] 26 (0, 0)) := by rw [← hW1]; exact heap_alloc_new W _
  have HCE := Aside0.mk (fun (V : World) (hb : Below W1.heap.size W1 V) => (show V.cell? ⟨W.heap.size, 0, none⟩ = some (.slice A1 x1.f0.length c1) ∧ V.cell? ⟨W.heap.size, 1, none⟩ = some (.slice B1 x1.f1.length b1) from ⟨pw_cell_below hb (cell_blk hn rfl), pw_cell_below hb (cell_blk hn rfl)⟩))
  have HC0 := Aside0.mk (fun (V : World) (hb : Below W1.heap.size W1 V) => Kd.C_below (Kd.C_below hC0 hB1) hb)
  have HC1 := Aside0.mk (fun (V : World) (hb : Below W1.heap.size W1 V) => Kd.C_below (Kd.C_below hC1 hB1) hb)
  have HD1 := Aside0.mk (fun (V : World) (hb : Below W1.heap.size W1 V) => Kd.C_below (Kd.C_below hD1 hB1) hb)
  have HC2 := Aside0.mk (fun (V : World) (hb : Below W1.heap.size W1 V) => Kd.C_below (Kd.C_below hC2 hB1) hb)
  have HL0 := Aside0.mk hl0
  have HL1 := Aside0.mk hl1
  have HM1 := Aside0.mk hm1
  have HL2 := Aside0.mk hl2
  have HB1 := Aside0.mk hB1
  clear hC0 hC1 hD1 hC2 hl0 hl1 hm1 hl2 hn hB1
  obtain ⟨e0, e1⟩ := HCE.out W1 (Below.refl _ _)
  have hS0 := szNodeS_c x0 1048576 r0 hr0 A0 c0 W1 (HC0.out W1 (Below.refl _ _)) HL0.out
  clear hr0
  by_cases hneg0 : r0 < 0
  · have hd0 : decide (r0 < 0) = true := decide_eq_true hneg0
    clear hs0 hneg0 hle0
    go_enter Tryz.func4, Tryz.ntmps4
    go_wp2_with (go_at_call 15; refine hS0.mono ?_; rintro e w3 ⟨rfl, hb3⟩)
    go_ret
    exact ⟨rfl, below_step HB1.out hb3⟩
  have hd0 : decide (r0 < 0) = false := decide_eq_false hneg0
  obtain ⟨r1, hr1, hle1, hs1⟩ := sz_Entry x1 w1 r0 (by omega) (by omega)
  have HS1 := Aside0.mk (fun (V : World) (hb : Below W1.heap.size W1 V) => szEntry_c x1.f0 x1.f1 r0 r1 hr1 A1 c1 B1 b1 V (HC1.out V hb) HL1.out (HD1.out V hb) HM1.out)
  clear hr1
  by_cases hneg1 : r1 < 0
  · have hd1 : decide (r1 < 0) = true := decide_eq_true hneg1
    clear hs0 hs1 hneg0 hneg1 hle0 hle1
    go_enter Tryz.func4, Tryz.ntmps4
    go_wp2_with (first | (go_at_call 15; refine hS0.mono ?_; rintro e w3 ⟨rfl, hb3⟩; obtain ⟨g0, g1⟩ := HCE.out w3 hb3) | (go_at_call 7; refine (HS1.out w3 hb3).mono ?_; rintro e w4 ⟨rfl, hb4⟩))
    go_ret
    exact ⟨rfl, below_step HB1.out (below_step hb3 hb4)⟩
  have hd1 : decide (r1 < 0) = false := decide_eq_false hneg1
  obtain ⟨r2, hr2, hle2, hs2⟩ := sz_StringS x2 w2 r1 (by omega) (by omega)
  have HS2 := Aside0.mk (fun (V : World) (hb : Below W1.heap.size W1 V) => szStringS_c x2 r1 r2 hr2 A2 c2 V (HC2.out V hb) HL2.out)
  clear hr2
  by_cases hneg2 : r2 < 0
  · have hd2 : decide (r2 < 0) = true := decide_eq_true hneg2
    clear hs0 hs1 hs2 hneg0 hneg1 hneg2 hle0 hle1 hle2
    go_enter Tryz.func4, Tryz.ntmps4
    go_wp2_with (first | (go_at_call 15; refine hS0.mono ?_; rintro e w3 ⟨rfl, hb3⟩; obtain ⟨g0, g1⟩ := HCE.out w3 hb3) | (go_at_call 7; refine (HS1.out w3 hb3).mono ?_; rintro e w4 ⟨rfl, hb4⟩) | (go_at_call 16; refine (HS2.out w4 (below_step hb3 hb4)).mono ?_; rintro e w5 ⟨rfl, hb5⟩))
    go_ret
    exact ⟨rfl, below_step HB1.out (below_step hb3 (below_step hb4 hb5))⟩
  have hd2 : decide (r2 < 0) = false := decide_eq_false hneg2
  have hln0 := lens_conv_NodeS x0 (hs0 (by omega))
  have hln1 := lens_conv_Entry x1 (hs1 (by omega))
  have hln2 := lens_StringS_small x2 (hs2 (by omega))
  have HT0 := Aside0.mk (fun (V : World) (hb : Below W1.heap.size W1 V) => toNodeS_c x0 w0 A0 c0 V (HC0.out V hb) HL0.out)
  have HT1 := Aside0.mk (fun (V : World) (hb : Below W1.heap.size W1 V) => toEntry_c x1 w1 A1 c1 B1 b1 V (HC1.out V hb) HL1.out (HD1.out V hb) HM1.out)
  have HT2 := Aside0.mk (fun (V : World) (hb : Below W1.heap.size W1 V) => toStringS_c x2 w2 A2 c2 V (HC2.out V hb) HL2.out)
  have HE0 := Aside0.mk (eqNodeS_c _ hln0)
  have HE1 := Aside0.mk (eqEntry_c _ hln1)
  have HE2 := Aside0.mk (eqStringS_c _ hln2)
  have hsp := spec_filterEval (x0.map conv_Node) (conv_Entry x1).f0 (conv_Entry x1).f1 x2 hln1.1.1 hln1.2.1 (fun x hx => (hln1.2.2 x hx).2)
  have him := impl_filterEval (x0.map conv_Node) (conv_Entry x1).f0 (conv_Entry x1).f1 x2
  obtain ⟨n, hn⟩ : ∃ n, filterEvalV (x0.map conv_Node) (conv_Entry x1).f0 (conv_Entry x1).f1 x2 = n := ⟨_, rfl⟩
  rw [hn] at hsp him
  generalize hy0 : x0.map conv_Node = y0 at HT0 HE0 hsp him
  generalize hy1 : (conv_Entry x1) = y1 at HT1 HE1 hsp him
  obtain ⟨ks, hks⟩ := hsp.rounds
  obtain ⟨ki, hki⟩ := him.rounds
  have HSP := Aside0.mk (fun A c B b B' b' D d V hA hc hB hb hB' hb' hD hd => spec_FilterEval.calls ks A c y0 B b y1.f0 B' b' y1.f1 D d x2 n V hA hc hB hb hB' hb' hD hd hks)
  have HIM := Aside0.mk (fun A c B b B' b' D d V hA hc hB hb hB' hb' hD hd => impl_FilterEval.calls ki A c y0 B b y1.f0 B' b' y1.f1 D d x2 n V hA hc hB hb hB' hb' hD hd hki)
  clear hs0 hs1 hs2 hneg0 hneg1 hneg2 hle0 hle1 hle2 hln0 hln1 hln2 hn hsp him hks hki hy0 hy1
  go_enter Tryz.func4, Tryz.ntmps4
  go_wp2_with (first | (go_at_call 15; refine hS0.mono ?_; rintro e w3 ⟨rfl, hb3⟩; obtain ⟨g0, g1⟩ := HCE.out w3 hb3) | (go_at_call 7; refine (HS1.out w3 hb3).mono ?_; rintro e w4 ⟨rfl, hb4⟩) | (go_at_call 16; refine (HS2.out w4 (below_step hb3 hb4)).mono ?_; rintro e w5 ⟨rfl, hb5⟩))
  have hB5 := Aside0.mk (below_step hb3 (below_step hb4 hb5))
  obtain ⟨g0, g1⟩ := HCE.out w5 hB5.out
  go_region_held3 (fun w' => w'.cell? ⟨W.heap.size, 0, none⟩ = some (.slice A1 x1.f0.length c1) ∧ w'.cell? ⟨W.heap.size, 1, none⟩ = some (.slice B1 x1.f1.length b1)) (go_keep) (first | (go_at_call 18; refine (HT0.out _ (by first | exact hB5.out | exact below_drew hB5.out)).mono ?_; rintro e w6 ⟨A6, c6, rfl, hl6, hC6, hb6⟩; have hB6 := Aside0.mk (show Below W1.heap.size W1 w6 from below_step (by first | exact hB5.out | exact below_drew hB5.out) hb6); have R6 := Aside0.mk (And.intro hl6 hC6); obtain ⟨g0, g1⟩ := HCE.out w6 hB6.out; clear hl6 hC6) | (go_at_call 10; refine (HT1.out w6 hB6.out).mono ?_; rintro e w7 ⟨A7, c7, B7, b7, rfl, hl7, hC7, hm7, hD7, hb7⟩; have hB7 := Aside0.mk (below_step hB6.out hb7); have R7 := Aside0.mk (And.intro hl7 hC7); have S7 := Aside0.mk (And.intro hm7 hD7); obtain ⟨g0, g1⟩ := HCE.out w7 hB7.out; clear hl7 hC7 hm7 hD7) | (go_at_call 19; refine (HT2.out w7 hB7.out).mono ?_; rintro e w8 ⟨A8, c8, rfl, hl8, hC8, hb8⟩; have hB8 := Aside0.mk (below_step hB7.out hb8); have R8 := Aside0.mk (And.intro hl8 hC8); obtain ⟨g0, g1⟩ := HCE.out w8 hB8.out; clear hl8 hC8) | (go_at_call 17; refine (HSP.out A6 c6 A7 c7 B7 b7 A8 c8 w8 (Kd.C_below R6.out.2 (below_step hb7 hb8)) R6.out.1 (Kd.C_below R7.out.2 hb8) R7.out.1 (Kd.C_below S7.out.2 hb8) S7.out.1 R8.out.2 R8.out.1).mono ?_; rintro e w9 ⟨rfl, hb9⟩; have hB9 := Aside0.mk (below_step hB8.out hb9); obtain ⟨g0, g1⟩ := HCE.out w9 hB9.out))
  obtain ⟨g0, g1⟩ := HCE.out w9 hB9.out
  go_wp2_with (first | (go_at_call 18; (with_reducible refine (HT0.out w9 hB9.out).mono ?_); rintro e w10 ⟨A10, c10, rfl, hl10, hC10, hb10⟩; have hB10 := Aside0.mk (below_step hB9.out hb10); have R10 := Aside0.mk (And.intro hl10 hC10); obtain ⟨g0, g1⟩ := HCE.out w10 hB10.out; clear hl10 hC10) | (go_at_call 10; (with_reducible refine (HT1.out w10 hB10.out).mono ?_); rintro e w11 ⟨A11, c11, B11, b11, rfl, hl11, hC11, hm11, hD11, hb11⟩; have hB11 := Aside0.mk (below_step hB10.out hb11); have R11 := Aside0.mk (And.intro hl11 hC11); have S11 := Aside0.mk (And.intro hm11 hD11); clear hl11 hC11 hm11 hD11) | (go_at_call 19; refine (HT2.out _ (Below.alloc hB11.out hB11.out.size _)).mono ?_; rintro e w12 ⟨A12, c12, rfl, hl12, hC12, hb12⟩; have hba := Aside0.mk (Below.alloc (Below.refl w11.heap.size w11) (Nat.le_refl _) (.cells #[.slice A11 y1.f0.length c11, .slice B11 y1.f1.length b11] 37)); have hb11_12 := Aside0.mk (below_step hba.out hb12); have hB12 := Aside0.mk (below_step hB11.out hb11_12.out); have R12 := Aside0.mk (And.intro hl12 hC12); have K12 := Aside0.mk (blk_below (heap_alloc_new w11 (.cells #[.slice A11 y1.f0.length c11, .slice B11 y1.f1.length b11] 37)) hb12); have y0_ := (show w12.cell? ⟨w11.heap.size, 0, none⟩ = some (.slice A11 y1.f0.length c11) from blk_cell K12.out 0); have y1_ := (show w12.cell? ⟨w11.heap.size, 1, none⟩ = some (.slice B11 y1.f1.length b11) from blk_cell K12.out 1); clear hl12 hC12) | (go_at_call 20; refine (HIM.out A10 c10 A11 c11 B11 b11 A12 c12 w12 (Kd.C_below R10.out.2 (below_step hb11 hb11_12.out)) R10.out.1 (Kd.C_below R11.out.2 hb11_12.out) R11.out.1 (Kd.C_below S11.out.2 hb11_12.out) S11.out.1 R12.out.2 R12.out.1).mono ?_; rintro e w13 ⟨rfl, hb13⟩; have hB13 := Aside0.mk (below_step hB12.out hb13)) | (go_at_call 18; refine (HT0.out w13 hB13.out).mono ?_; rintro e w14 ⟨A14, c14, rfl, hl14, hC14, hb14⟩; have hB14 := Aside0.mk (below_step hB13.out hb14); have R14 := Aside0.mk (And.intro hl14 hC14); clear hl14 hC14) | (go_at_call 21; refine (HE0.out A10 c10 A14 c14 w14 (Kd.C_below R10.out.2 (below_step (below_step hb11 hb11_12.out) (below_step hb13 hb14))) R10.out.1 R14.out.2 R14.out.1).mono ?_; rintro e w15 ⟨rfl, hb15⟩))
  have hB15 := Aside0.mk (below_step hB14.out hb15)
  have hb12_15 := Aside0.mk (below_step hb13 (below_step hb14 hb15))
  obtain ⟨g0, g1⟩ := HCE.out w15 hB15.out
  have K15 := Aside0.mk (blk_below K12.out hb12_15.out)
  have z0_ := (show w15.cell? ⟨w11.heap.size, 0, none⟩ = some (.slice A11 y1.f0.length c11) from blk_cell K15.out 0)
  have z1_ := (show w15.cell? ⟨w11.heap.size, 1, none⟩ = some (.slice B11 y1.f1.length b11) from blk_cell K15.out 1)

  go_region_held3 (fun w' => w'.cell? ⟨W.heap.size, 0, none⟩ = some (.slice A1 x1.f0.length c1) ∧ w'.cell? ⟨W.heap.size, 1, none⟩ = some (.slice B1 x1.f1.length b1) ∧ w'.cell? ⟨w11.heap.size, 0, none⟩ = some (.slice A11 y1.f0.length c11) ∧ w'.cell? ⟨w11.heap.size, 1, none⟩ = some (.slice B11 y1.f1.length b11)) (go_keep) (first | (go_at_call 10; refine (HT1.out _ (by first | exact hB15.out | exact below_drew hB15.out)).mono ?_; rintro e w16 ⟨A16, c16, B16, b16, rfl, hl16, hC16, hm16, hD16, hb16⟩; have hb15_16 := Aside0.mk (show Below w15.heap.size w15 w16 from below_step (by first | exact Below.refl _ _ | exact below_drew (Below.refl _ _)) hb16); have hB16 := Aside0.mk (below_step hB15.out hb15_16.out); have R16 := Aside0.mk (And.intro hl16 hC16); have S16 := Aside0.mk (And.intro hm16 hD16); obtain ⟨g0, g1⟩ := HCE.out w16 hB16.out; have K16 := Aside0.mk (blk_below K15.out hb15_16.out); have u0_ := (show w16.cell? ⟨w11.heap.size, 0, none⟩ = some (.slice A11 y1.f0.length c11) from blk_cell K16.out 0); have u1_ := (show w16.cell? ⟨w11.heap.size, 1, none⟩ = some (.slice B11 y1.f1.length b11) from blk_cell K16.out 1); clear hl16 hC16 hm16 hD16) | (go_at_call 14; refine (HE1.out A11 c11 B11 b11 A16 c16 B16 b16 w16 (Kd.C_below R11.out.2 (below_step hb11_12.out (below_step hb12_15.out hb15_16.out))) R11.out.1 (Kd.C_below S11.out.2 (below_step hb11_12.out (below_step hb12_15.out hb15_16.out))) S11.out.1 R16.out.2 R16.out.1 S16.out.2 S16.out.1).mono ?_; rintro e w17 ⟨rfl, hb17⟩; have hB17 := Aside0.mk (below_step hB16.out hb17); obtain ⟨g0, g1⟩ := HCE.out w17 hB17.out; have K17 := Aside0.mk (blk_below K16.out hb17); have v0_ := (show w17.cell? ⟨w11.heap.size, 0, none⟩ = some (.slice A11 y1.f0.length c11) from blk_cell K17.out 0); have v1_ := (show w17.cell? ⟨w11.heap.size, 1, none⟩ = some (.slice B11 y1.f1.length b11) from blk_cell K17.out 1)))
  go_wp2_with (first | (go_at_call 19; refine (HT2.out w17 hB17.out).mono ?_; rintro e w18 ⟨A18, c18, rfl, hl18, hC18, hb18⟩; have hB18 := Aside0.mk (below_step hB17.out hb18); have R18 := Aside0.mk (And.intro hl18 hC18); clear hl18 hC18) | (go_at_call 22; refine (HE2.out A12 c12 A18 c18 w18 (Kd.C_below R12.out.2 (below_step hb12_15.out (below_step hb15_16.out (below_step hb17 hb18)))) R12.out.1 R18.out.2 R18.out.1).mono ?_; rintro e w19 ⟨rfl, hb19⟩))
  go_ret
  exact ⟨rfl, below_step HB1.out (below_step hB18.out hb19)⟩
end Go.Proofs.YtpocoeghobdfiaaGreatDoor.PG
