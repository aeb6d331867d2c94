/-
  Functions that the law reaches, each as a plain Lean function, with the proof that the call comes to it (written by a program of this session by way of the kit's print program). Conditions: what each contract states.
-/
import Derived.Laws.Cover1
import Derived.Test.YtpocoeghobdfiaaDoorARP1
import Derived.Test.YtpocoeghobdfiaaDoorARSq
-- WRITTEN BY A PROGRAM OF THIS SESSION (wip/gen/gen.py), by way of the kit's print program. Lean checks it.
namespace Go.Proofs.YtpocoeghobdfiaaDoor.PG
open Go.Proofs.YtpocoeghobdfiaaDoor.Sq Go.RowKit Go.Proofs.YtpocoeghobdfiaaDoorW.PrintWords Go.Proofs.YtpocoeghobdfiaaDoorW.PrintLast Go.Proofs.YtpocoeghobdfiaaDoorW.PrintMore
attribute [local go_sem] max2_int min2_int max_two min_two max_three min_three max_four min_four   -- for this text's walks alone
set_option linter.unusedVariables false
set_option linter.unusedSimpArgs false

/-! ### spec_l03Attrs: function 123 -/
def spec_l03Attrs.l0 : Nat → List (S144) → Int → Option (Bool)
  | 0, _, _ => none
  | k + 1, x0, x3 => if x3 < (x0.length : Int) then (if 0 ≤ x3 then ((spec_NameRight.f k ((rd_T144 x0 x3).f0)).bind fun t469 => (if t469 = true then (if x3 > 0 then (if 0 ≤ (wrap64 (x3 - 1)) then (if (wrap64 (x3 - 1)) < (x0.length : Int) then (if ((Op.bytesLess (((rd_T144 x0 (wrap64 (x3 - 1))).f0).toList) (((rd_T144 x0 x3).f0).toList)) = true) then ((spec_l03Values.f k ((rd_T144 x0 x3).f1)).bind fun t473 => (if t473 = true then (spec_l03Attrs.l0 k x0 (wrap64 (x3 + 1))) else (some false))) else (some false)) else (none)) else (none)) else ((spec_l03Values.f k ((rd_T144 x0 x3).f1)).bind fun t475 => (if t475 = true then (spec_l03Attrs.l0 k x0 (wrap64 (x3 + 1))) else (some false)))) else (some false))) else (none)) else (some (decide ((x0.length : Int) ≤ 8)))
def spec_l03Attrs.f (k : Nat) (l0 : List (S144)) : Option (Bool) := spec_l03Attrs.l0 k l0 0
theorem spec_l03Attrs.mono_l : ∀ k, (∀ y0 y1, LeO (spec_l03Attrs.l0 k y0 y1) (spec_l03Attrs.l0 (k + 1) y0 y1))
  | 0 => fun _ _ r h => by simp [spec_l03Attrs.l0] at h
  | k + 1 => by
    have ih0 := spec_l03Attrs.mono_l k
    · intro y0 y1
      unfold spec_l03Attrs.l0
      repeat' first
      | (with_reducible exact ih0 _ _)
      | (with_reducible exact spec_NameRight.mono _ _)
      | (with_reducible exact spec_l03Values.mono _ _)
      | (with_reducible exact LeO.refl _)
      | (with_reducible exact LeO.none _)
      | (with_reducible refine LeO.ite ?_ ?_)
      | (with_reducible refine LeO.bind ?_ (fun _ => ?_))
      | exact ih0 _ _
      | exact spec_NameRight.mono _ _
      | exact spec_l03Values.mono _ _
      | exact LeO.none _
      | refine LeO.ite ?_ ?_
      | refine LeO.bind ?_ (fun _ => ?_)
theorem spec_l03Attrs.mono : ∀ a0 k, LeO (spec_l03Attrs.f k a0) (spec_l03Attrs.f (k + 1) a0) := by
  intro a0 k
  have ih0 := spec_l03Attrs.mono_l k
  unfold spec_l03Attrs.f
  repeat' first
      | (with_reducible exact ih0 _ _)
      | (with_reducible exact spec_NameRight.mono _ _)
      | (with_reducible exact spec_l03Values.mono _ _)
      | (with_reducible exact LeO.refl _)
      | (with_reducible exact LeO.none _)
      | (with_reducible refine LeO.ite ?_ ?_)
      | (with_reducible refine LeO.bind ?_ (fun _ => ?_))
      | exact ih0 _ _
      | exact spec_NameRight.mono _ _
      | exact spec_l03Values.mono _ _
      | exact LeO.none _
      | refine LeO.ite ?_ ?_
      | refine LeO.bind ?_ (fun _ => ?_)
def spec_l03Attrs.T4 : Bool × List (List Nat × List Nat) := (true, [([], []), ([], []), ([0, 1], [0, 1]), ([2], [2]), ([3], [3]), ([4], [4]), ([5], [5]), ([6, 5], [6]), ([7], [7]), ([8, 7], [7, 8]), ([9, 7, 7], [7, 9]), ([10], [10]), ([10], [10]), ([12, 10], [10, 12]), ([11, 13, 10], [10, 11, 13]), ([14, 10], [10, 14]), ([15, 10], [10, 15]), ([10], [10]), ([10], [10]), ([17, 18, 10], [10, 17, 18]), ([19, 10], [10, 19]), ([20, 10], [10, 20]), ([16, 21, 10], [10, 16, 21]), ([10, 22, 7], [7, 10, 22]), ([7, 23], [7, 23]), ([24, 10], [24]), ([25], [25]), ([25], [25]), ([26, 27, 25], [25, 26, 27]), ([28, 25], [25, 28]), ([29, 25], [25, 29]), ([30, 25, 25], [25, 30]), ([31, 25], [25, 31]), ([25, 32], [25, 32])])
def spec_l03Attrs.B4 : List Nat := [0, 0, 3, 7, 15, 31, 63, 127, 255, 511, 1023, 2047, 2047, 6143, 16383, 32767, 65535, 2047, 2047, 395263, 919551, 1968127, 4194303, 8388607, 16777215, 33554431, 67108863, 67108863, 268435455, 536870911, 1073741823, 2147483647, 4294967295, 8589934591]
theorem spec_l03Attrs.tab4 : rtab .any (opsOf Tryd.f123 4) = spec_l03Attrs.T4 := by kernel_rfl
theorem spec_l03Attrs.bits4 : waitsOk spec_l03Attrs.T4.2 spec_l03Attrs.B4 = true := by kernel_rfl
set_option maxHeartbeats 8000000 in
set_option maxRecDepth 100000 in
theorem spec_l03Attrs.calls (k : Nat) (A0 : Option Addr) (c0 : Nat) (l0 : List (S144)) (r : Bool) (w : World) (hr0 : Kd.C k144 w A0 l0.length l0) (hc0 : l0.length ≤ c0) (h : spec_l03Attrs.f k l0 = some r) :
    Calls Tryd.prog 123 #[.slice A0 l0.length c0] w fun e w' => e = .returned (.bool r) ∧ Below w.heap.size w w' := by
  have HR0 := Aside0.mk hr0
  have HC0 := Aside0.mk hc0
  clear hr0 hc0
  have HB := Aside0.mk (Below.refl w.heap.size w)
  have H : (spec_l03Attrs.l0 k l0 0) = some r := h
  clear h
  have H' := Aside0.mk H
  clear H
  go_enter Tryd.func123, Tryd.ntmps123
  go_wp2
  go_loopg [3] k (fun kq v3 w' => ∃ (x3_1 : Int), v3 = .int .i64 x3_1 ∧ Aside0 (spec_l03Attrs.l0 kq l0 x3_1 = some r) ∧ Aside0 (kq ≤ k) ∧ Aside0 (Below w.heap.size w w'))
  case atStart => exact ⟨(0), (by first | rfl | (simp; done) | (simp [*]; done)), H', ⟨Nat.le_refl _⟩, ⟨By⟩⟩
  case round =>
    clear H'
    try clear c1
    obtain ⟨x3_1, rfl, HA, HK1, HB⟩ := hrel
    cases gk with
    | zero => exact absurd HA.out (by simp [spec_l03Attrs.l0])
    | succ k1 =>
      have H := HA.out
      clear HA
      simp only [spec_l03Attrs.l0] at H
      by_cases c2 : x3_1 < (l0.length : Int)
      · rw [if_pos c2] at H
        have c2b0 : decide (x3_1 < (l0.length : Int)) = true := decide_eq_true c2
        clear c2
        by_cases c3 : 0 ≤ x3_1
        · rw [if_pos c3] at H
          have c3b0 : decide (0 ≤ x3_1) = true := decide_eq_true c3
          clear c3
          replace H := Option.bind_eq_some_iff.mp H
          obtain ⟨t469, A40, H⟩ := H
          replace H : (if t469 = true then (if x3_1 > 0 then (if 0 ≤ (wrap64 (x3_1 - 1)) then (if (wrap64 (x3_1 - 1)) < (l0.length : Int) then (if ((Op.bytesLess (((rd_T144 l0 (wrap64 (x3_1 - 1))).f0).toList) (((rd_T144 l0 x3_1).f0).toList)) = true) then ((spec_l03Values.f k1 ((rd_T144 l0 x3_1).f1)).bind fun t473 => (if t473 = true then (spec_l03Attrs.l0 k1 l0 (wrap64 (x3_1 + 1))) else (some false))) else (some false)) else (none)) else (none)) else ((spec_l03Values.f k1 ((rd_T144 l0 x3_1).f1)).bind fun t475 => (if t475 = true then (spec_l03Attrs.l0 k1 l0 (wrap64 (x3_1 + 1))) else (some false)))) else (some false)) = some r := H
          have A4 := Aside0.mk A40
          clear A40
          by_cases c5 : t469 = true
          · subst c5
            have H1 : (if x3_1 > 0 then (if 0 ≤ (wrap64 (x3_1 - 1)) then (if (wrap64 (x3_1 - 1)) < (l0.length : Int) then (if ((Op.bytesLess (((rd_T144 l0 (wrap64 (x3_1 - 1))).f0).toList) (((rd_T144 l0 x3_1).f0).toList)) = true) then ((spec_l03Values.f k1 ((rd_T144 l0 x3_1).f1)).bind fun t473 => (if t473 = true then (spec_l03Attrs.l0 k1 l0 (wrap64 (x3_1 + 1))) else (some false))) else (some false)) else (none)) else (none)) else ((spec_l03Values.f k1 ((rd_T144 l0 x3_1).f1)).bind fun t475 => (if t475 = true then (spec_l03Attrs.l0 k1 l0 (wrap64 (x3_1 + 1))) else (some false)))) = some r := by rw [if_pos rfl] at H; exact H
            clear H
            have H := H1
            clear H1
            by_cases c6 : x3_1 > 0
            · rw [if_pos c6] at H
              have c6b0 : decide (0 < x3_1) = true := decide_eq_true c6
              clear c6
              obtain ⟨ji7, hji7⟩ : ∃ j_ : Int, (wrap64 (x3_1 - 1)) = j_ := ⟨_, rfl⟩
              replace H : (if 0 ≤ (ji7) then (if (ji7) < (l0.length : Int) then (if ((Op.bytesLess (((rd_T144 l0 (ji7)).f0).toList) (((rd_T144 l0 x3_1).f0).toList)) = true) then ((spec_l03Values.f k1 ((rd_T144 l0 x3_1).f1)).bind fun t473 => (if t473 = true then (spec_l03Attrs.l0 k1 l0 (wrap64 (x3_1 + 1))) else (some false))) else (some false)) else (none)) else (none)) = some r := by first | (rw [hji7] at H; exact H) | (simp only [hji7] at H ⊢; exact H)
              (try rw [hji7] at A4)
              have hji7w : (IntKind.i64.wrap (x3_1 - 1)) = ji7 := (i64_w _).trans hji7
              by_cases c8 : 0 ≤ (ji7)
              · rw [if_pos c8] at H
                have c8b0 : decide (0 ≤ (ji7)) = true := decide_eq_true c8
                clear c8
                by_cases c9 : (ji7) < (l0.length : Int)
                · rw [if_pos c9] at H
                  have c9b0 : decide ((ji7) < (l0.length : Int)) = true := decide_eq_true c9
                  clear c9
                  by_cases c10 : ((Op.bytesLess (((rd_T144 l0 (ji7)).f0).toList) (((rd_T144 l0 x3_1).f0).toList)) = true)
                  · rw [if_pos c10] at H
                    have c10b0 : (Op.bytesLess (((rd_T144 l0 (ji7)).f0).toList) (((rd_T144 l0 x3_1).f0).toList)) = true := c10
                    clear c10
                    replace H := Option.bind_eq_some_iff.mp H
                    obtain ⟨t473, A110, H⟩ := H
                    replace H : (if t473 = true then (spec_l03Attrs.l0 k1 l0 (wrap64 (x3_1 + 1))) else (some false)) = some r := H
                    have A11 := Aside0.mk A110
                    clear A110
                    by_cases c12 : t473 = true
                    · subst c12
                      have H1 : (spec_l03Attrs.l0 k1 l0 (wrap64 (x3_1 + 1))) = some r := by rw [if_pos rfl] at H; exact H
                      clear H
                      have H := H1
                      clear H1
                      have H' := Aside0.mk H
                      clear H
                      try go_wp2
                      have n0_ := Aside0.mk (below_drew1 HB.out)
                      clear HB
                      have HB := n0_
                      clear n0_
                      have p468 : 0 ≤ (x3_1 : Int) := of_decide_eq_true Da
                      have q468 : x3_1 < (l0.length : Int) := of_decide_eq_true Da
                      obtain ⟨ad468, A468_1, c468_1, e468, hx468_0, hx468_1, hl468_1, hi468_1⟩ := at_T144 HR0.out x3_1 p468 q468
                      have hw468_1 := hx468_1
                      have hw468_0 := hx468_0
                      cases e468
                      replace hx468_0 := bz HB.out hx468_0
                      replace hx468_1 := bz HB.out hx468_1
                      have HR468_1 := Aside0.mk hi468_1
                      have HC468_1 := Aside0.mk hl468_1
                      clear hi468_1 hl468_1
                      replace p468 := eq_true p468
                      replace q468 := eq_true q468
                      have p470 : 0 ≤ ((ji7) : Int) := of_decide_eq_true Da
                      have q470 : (ji7) < (l0.length : Int) := of_decide_eq_true Da
                      obtain ⟨ad470, A470_1, c470_1, e470, hx470_0, hx470_1, hl470_1, hi470_1⟩ := at_T144 HR0.out (ji7) p470 q470
                      have hw470_1 := hx470_1
                      have hw470_0 := hx470_0
                      obtain rfl : ad468 = ad470 := (by injection e470)
                      replace hx470_0 := bz HB.out hx470_0
                      replace hx470_1 := bz HB.out hx470_1
                      have HR470_1 := Aside0.mk hi470_1
                      have HC470_1 := Aside0.mk hl470_1
                      clear hi470_1 hl470_1
                      replace p470 := eq_true p470
                      replace q470 := eq_true q470
                      have p471 : 0 ≤ (x3_1 : Int) := of_decide_eq_true Da
                      have q471 : x3_1 < (l0.length : Int) := of_decide_eq_true Da
                      obtain ⟨ad471, A471_1, c471_1, e471, hx471_0, hx471_1, hl471_1, hi471_1⟩ := at_T144 HR0.out x3_1 p471 q471
                      have hw471_1 := hx471_1
                      have hw471_0 := hx471_0
                      obtain rfl : ad468 = ad471 := (by injection e471)
                      replace hx471_0 := bz HB.out hx471_0
                      replace hx471_1 := bz HB.out hx471_1
                      have HR471_1 := Aside0.mk hi471_1
                      have HC471_1 := Aside0.mk hl471_1
                      clear hi471_1 hl471_1
                      replace p471 := eq_true p471
                      replace q471 := eq_true q471
                      have ea_ := Option.some.inj (hx468_1.symm.trans hx471_1)
                      injection ea_ with ea_ en_ ec_
                      subst ea_
                      subst ec_
                      clear en_
                      have p472 : 0 ≤ (x3_1 : Int) := of_decide_eq_true Da
                      have q472 : x3_1 < (l0.length : Int) := of_decide_eq_true Da
                      obtain ⟨ad472, A472_1, c472_1, e472, hx472_0, hx472_1, hl472_1, hi472_1⟩ := at_T144 HR0.out x3_1 p472 q472
                      have hw472_1 := hx472_1
                      have hw472_0 := hx472_0
                      obtain rfl : ad468 = ad472 := (by injection e472)
                      replace hx472_0 := bz HB.out hx472_0
                      replace hx472_1 := bz HB.out hx472_1
                      have HR472_1 := Aside0.mk hi472_1
                      have HC472_1 := Aside0.mk hl472_1
                      clear hi472_1 hl472_1
                      replace p472 := eq_true p472
                      replace q472 := eq_true q472
                      have ea_ := Option.some.inj (hx468_1.symm.trans hx472_1)
                      injection ea_ with ea_ en_ ec_
                      subst ea_
                      subst ec_
                      clear en_
                      refine start_ (n := 34) (S := fun w' => w'.cell? (ad468.add ((x3_1).toNat * 2)) = some (.string ((rd_T144 l0 x3_1).f0)) ∧ w'.cell? ⟨(ad468.add ((x3_1).toNat * 2)).block, (ad468.add ((x3_1).toNat * 2)).off + 1, none⟩ = some (.slice A468_1 ((rd_T144 l0 x3_1).f1).length c468_1) ∧ w'.cell? (ad468.add (((ji7)).toNat * 2)) = some (.string ((rd_T144 l0 (ji7)).f0)) ∧ w'.cell? ⟨(ad468.add (((ji7)).toNat * 2)).block, (ad468.add (((ji7)).toNat * 2)).off + 1, none⟩ = some (.slice A470_1 ((rd_T144 l0 (ji7)).f1).length c470_1) ∧ w'.cell? (ad468.add ((x3_1).toNat * 2)) = some (.string ((rd_T144 l0 x3_1).f0)) ∧ w'.cell? ⟨(ad468.add ((x3_1).toNat * 2)).block, (ad468.add ((x3_1).toNat * 2)).off + 1, none⟩ = some (.slice A468_1 ((rd_T144 l0 x3_1).f1).length c468_1) ∧ w'.cell? (ad468.add ((x3_1).toNat * 2)) = some (.string ((rd_T144 l0 x3_1).f0)) ∧ w'.cell? ⟨(ad468.add ((x3_1).toNat * 2)).block, (ad468.add ((x3_1).toNat * 2)).off + 1, none⟩ = some (.slice A468_1 ((rd_T144 l0 x3_1).f1).length c468_1)) (ds := []) (bv 34 0) (by kernel_rfl) rfl rfl ⟨(bz HB.out hw468_0), (bz HB.out hw468_1), (bz HB.out hw470_0), (bz HB.out hw470_1), (bz HB.out hw471_0), (bz HB.out hw471_1), (bz HB.out hw472_0), (bz HB.out hw472_1)⟩ (fun hHeld => ?_); refine with_tabW spec_l03Attrs.tab4 spec_l03Attrs.bits4 (fun HT_ HW_ => ?_)
                      generalize wr.drew = w13 at HB HR468_1 HR470_1 HR471_1 HR472_1 hx468_0 hx468_1 hx470_0 hx470_1 hx471_0 hx471_1 hx472_0 hx472_1 hHeld ⊢
                      refine pu 0 10 (bv 34 1) HT_.out (h := ?_)
                      refine pu 1 11 (bv 34 3) HT_.out (h := ?_)
                      refine pu 2 12 (bv 34 7) HT_.out (h := ?_)
                      refine pu 3 13 (bv 34 15) HT_.out (h := ?_)
                      refine tk 4 14 (bv 34 31) HT_.out HW_.out hHeld (h := ?_)
                      refine one_ (i := 5) (N := some 15) (bv 34 63) rfl rfl (one_of HT_.out (by kernel_rfl)) (by decide) (fun K hK => ?_)
                      refine goes_ Tryd.func143 (by kernel_rfl) rfl #[.string ((rd_T144 l0 x3_1).f0)] (by rfl) rfl rfl Ag ?_
                      with_reducible refine (spec_NameRight.calls k1 ((rd_T144 l0 x3_1).f0) true _ A4.out).mono ?_
                      rintro e w' ⟨rfl, ⟨nd, rfl⟩⟩
                      refine ⟨_, rfl, ?_⟩
                      refine hK.out _ _ ⟨(bz HB.out hw468_0), (bz HB.out hw468_1), (bz HB.out hw470_0), (bz HB.out hw470_1), (bz HB.out hw471_0), (bz HB.out hw471_1), (bz HB.out hw472_0), (bz HB.out hw472_1)⟩ (fun hHeld => ?_)
                      clear hK K
                      refine norm_ (a' := ?_) ?_ ?_
                      rotate_left
                      · show Act.put _ (some 15) _ = _
                        simp only [Act.put, List.setIfInBounds_toArray, List.set_cons_zero, List.set_cons_succ, i64_w, i32_w]
                        rfl
                      refine pu 6 16 (bv 34 127) HT_.out (h := ?_)
                      refine pu 7 17 (bv 34 255) HT_.out (h := ?_)
                      refine pu 8 18 (bv 34 511) HT_.out (h := ?_)
                      refine pu 9 19 (bv 34 1023) HT_.out (h := ?_)
                      refine pu 10 20 (bv 34 2047) HT_.out (h := ?_)
                      refine pu 11 21 (bv 34 4095) HT_.out (h := ?_)
                      refine pu 12 22 (bv 34 8191) HT_.out (h := ?_)
                      refine pu 13 23 (bv 34 16383) HT_.out (h := ?_)
                      refine pu 14 24 (bv 34 32767) HT_.out (h := ?_)
                      refine pu 15 25 (bv 34 65535) HT_.out (h := ?_)
                      refine pu 17 27 (bv 34 196607) HT_.out (h := ?_)
                      refine pu 18 28 (bv 34 458751) HT_.out (h := ?_)
                      refine pu 19 29 (bv 34 983039) HT_.out (h := ?_)
                      refine pu 20 30 (bv 34 2031615) HT_.out (h := ?_)
                      refine tk 16 26 (bv 34 2097151) HT_.out HW_.out hHeld (h := ?_)
                      refine tk 21 31 (bv 34 4194303) HT_.out HW_.out hHeld (h := ?_)
                      refine pu 22 32 (bv 34 8388607) HT_.out (h := ?_)
                      refine pu 23 33 (bv 34 16777215) HT_.out (h := ?_)
                      refine pu 24 34 (bv 34 33554431) HT_.out (h := ?_)
                      refine pu 25 35 (bv 34 67108863) HT_.out (h := ?_)
                      refine pu 26 36 (bv 34 134217727) HT_.out (h := ?_)
                      refine pu 27 37 (bv 34 268435455) HT_.out (h := ?_)
                      refine pu 28 38 (bv 34 536870911) HT_.out (h := ?_)
                      refine pu 29 39 (bv 34 1073741823) HT_.out (h := ?_)
                      refine tk 30 40 (bv 34 2147483647) HT_.out HW_.out hHeld (h := ?_)
                      refine one_ (i := 31) (N := some 41) (bv 34 4294967295) rfl rfl (one_of HT_.out (by kernel_rfl)) (by decide) (fun K hK => ?_)
                      refine goes_ Tryd.func155 (by kernel_rfl) rfl #[.slice A468_1 ((rd_T144 l0 x3_1).f1).length c468_1] (by rfl) rfl rfl Ag ?_
                      with_reducible refine (spec_l03Values.calls k1 _ _ ((rd_T144 l0 x3_1).f1) true _ ?side1 ?side2 A11.out).mono ?_
                      (case side1 => repeat (first | exact (Kd.C_below HR472_1.out By) | (with_reducible refine Kd.C_alloc ?_ _) | (with_reducible refine Kd.C_drewN ?_ _) | (with_reducible refine Kd.C_drew ?_)))
                      (case side2 => exact HC472_1.out)
                      rintro e w14 ⟨rfl, hb⟩
                      refine ⟨_, rfl, ?_⟩
                      have n0_ := Aside0.mk (below_step By hb)
                      clear HB
                      have HB := n0_
                      clear n0_
                      (try clear hb)
                      (try clear hb2)
                      (try clear hk)
                      (try clear hi)
                      refine hK.out _ _ ⟨(bz HB.out hw468_0), (bz HB.out hw468_1), (bz HB.out hw470_0), (bz HB.out hw470_1), (bz HB.out hw471_0), (bz HB.out hw471_1), (bz HB.out hw472_0), (bz HB.out hw472_1)⟩ (fun hHeld => ?_)
                      clear hK K
                      refine norm_ (a' := ?_) ?_ ?_
                      rotate_left
                      · show Act.put _ (some 41) _ = _
                        simp only [Act.put, List.setIfInBounds_toArray, List.set_cons_zero, List.set_cons_succ, i64_w, i32_w]
                        rfl
                      refine pu 32 42 (bv 34 8589934591) HT_.out (h := ?_)
                      refine pu 33 43 (bv 34 17179869183) HT_.out (h := ?_)
                      refine done_ (done_of HT_.out (by kernel_rfl)) ?_
                      try go_wp2
                      go_roundg k1
                      case measure => have := HK1.out; omega
                      case rel => exact ⟨(wrap64 (x3_1 + 1)), (by first | rfl | (simp; done) | (simp [*]; done)), H', ⟨by have := HK1.out; omega⟩, ⟨By⟩⟩
                    · replace c12 := Bool.eq_false_iff.mpr c12
                      subst c12
                      have H1 : (some false) = some r := by rw [if_neg (show ¬ (false = true) by decide)] at H; exact H
                      clear H
                      have H := H1
                      clear H1
                      obtain rfl := Option.some.inj H
                      try go_wp2
                      have n0_ := Aside0.mk (below_drew1 HB.out)
                      clear HB
                      have HB := n0_
                      clear n0_
                      have p468 : 0 ≤ (x3_1 : Int) := of_decide_eq_true Da
                      have q468 : x3_1 < (l0.length : Int) := of_decide_eq_true Da
                      obtain ⟨ad468, A468_1, c468_1, e468, hx468_0, hx468_1, hl468_1, hi468_1⟩ := at_T144 HR0.out x3_1 p468 q468
                      have hw468_1 := hx468_1
                      have hw468_0 := hx468_0
                      cases e468
                      replace hx468_0 := bz HB.out hx468_0
                      replace hx468_1 := bz HB.out hx468_1
                      have HR468_1 := Aside0.mk hi468_1
                      have HC468_1 := Aside0.mk hl468_1
                      clear hi468_1 hl468_1
                      replace p468 := eq_true p468
                      replace q468 := eq_true q468
                      have p470 : 0 ≤ ((ji7) : Int) := of_decide_eq_true Da
                      have q470 : (ji7) < (l0.length : Int) := of_decide_eq_true Da
                      obtain ⟨ad470, A470_1, c470_1, e470, hx470_0, hx470_1, hl470_1, hi470_1⟩ := at_T144 HR0.out (ji7) p470 q470
                      have hw470_1 := hx470_1
                      have hw470_0 := hx470_0
                      obtain rfl : ad468 = ad470 := (by injection e470)
                      replace hx470_0 := bz HB.out hx470_0
                      replace hx470_1 := bz HB.out hx470_1
                      have HR470_1 := Aside0.mk hi470_1
                      have HC470_1 := Aside0.mk hl470_1
                      clear hi470_1 hl470_1
                      replace p470 := eq_true p470
                      replace q470 := eq_true q470
                      have p471 : 0 ≤ (x3_1 : Int) := of_decide_eq_true Da
                      have q471 : x3_1 < (l0.length : Int) := of_decide_eq_true Da
                      obtain ⟨ad471, A471_1, c471_1, e471, hx471_0, hx471_1, hl471_1, hi471_1⟩ := at_T144 HR0.out x3_1 p471 q471
                      have hw471_1 := hx471_1
                      have hw471_0 := hx471_0
                      obtain rfl : ad468 = ad471 := (by injection e471)
                      replace hx471_0 := bz HB.out hx471_0
                      replace hx471_1 := bz HB.out hx471_1
                      have HR471_1 := Aside0.mk hi471_1
                      have HC471_1 := Aside0.mk hl471_1
                      clear hi471_1 hl471_1
                      replace p471 := eq_true p471
                      replace q471 := eq_true q471
                      have ea_ := Option.some.inj (hx468_1.symm.trans hx471_1)
                      injection ea_ with ea_ en_ ec_
                      subst ea_
                      subst ec_
                      clear en_
                      have p472 : 0 ≤ (x3_1 : Int) := of_decide_eq_true Da
                      have q472 : x3_1 < (l0.length : Int) := of_decide_eq_true Da
                      obtain ⟨ad472, A472_1, c472_1, e472, hx472_0, hx472_1, hl472_1, hi472_1⟩ := at_T144 HR0.out x3_1 p472 q472
                      have hw472_1 := hx472_1
                      have hw472_0 := hx472_0
                      obtain rfl : ad468 = ad472 := (by injection e472)
                      replace hx472_0 := bz HB.out hx472_0
                      replace hx472_1 := bz HB.out hx472_1
                      have HR472_1 := Aside0.mk hi472_1
                      have HC472_1 := Aside0.mk hl472_1
                      clear hi472_1 hl472_1
                      replace p472 := eq_true p472
                      replace q472 := eq_true q472
                      have ea_ := Option.some.inj (hx468_1.symm.trans hx472_1)
                      injection ea_ with ea_ en_ ec_
                      subst ea_
                      subst ec_
                      clear en_
                      refine start_ (n := 34) (S := fun w' => w'.cell? (ad468.add ((x3_1).toNat * 2)) = some (.string ((rd_T144 l0 x3_1).f0)) ∧ w'.cell? ⟨(ad468.add ((x3_1).toNat * 2)).block, (ad468.add ((x3_1).toNat * 2)).off + 1, none⟩ = some (.slice A468_1 ((rd_T144 l0 x3_1).f1).length c468_1) ∧ w'.cell? (ad468.add (((ji7)).toNat * 2)) = some (.string ((rd_T144 l0 (ji7)).f0)) ∧ w'.cell? ⟨(ad468.add (((ji7)).toNat * 2)).block, (ad468.add (((ji7)).toNat * 2)).off + 1, none⟩ = some (.slice A470_1 ((rd_T144 l0 (ji7)).f1).length c470_1) ∧ w'.cell? (ad468.add ((x3_1).toNat * 2)) = some (.string ((rd_T144 l0 x3_1).f0)) ∧ w'.cell? ⟨(ad468.add ((x3_1).toNat * 2)).block, (ad468.add ((x3_1).toNat * 2)).off + 1, none⟩ = some (.slice A468_1 ((rd_T144 l0 x3_1).f1).length c468_1) ∧ w'.cell? (ad468.add ((x3_1).toNat * 2)) = some (.string ((rd_T144 l0 x3_1).f0)) ∧ w'.cell? ⟨(ad468.add ((x3_1).toNat * 2)).block, (ad468.add ((x3_1).toNat * 2)).off + 1, none⟩ = some (.slice A468_1 ((rd_T144 l0 x3_1).f1).length c468_1)) (ds := []) (bv 34 0) (by kernel_rfl) rfl rfl ⟨(bz HB.out hw468_0), (bz HB.out hw468_1), (bz HB.out hw470_0), (bz HB.out hw470_1), (bz HB.out hw471_0), (bz HB.out hw471_1), (bz HB.out hw472_0), (bz HB.out hw472_1)⟩ (fun hHeld => ?_); refine with_tabW spec_l03Attrs.tab4 spec_l03Attrs.bits4 (fun HT_ HW_ => ?_)
                      generalize wr.drew = w15 at HB HR468_1 HR470_1 HR471_1 HR472_1 hx468_0 hx468_1 hx470_0 hx470_1 hx471_0 hx471_1 hx472_0 hx472_1 hHeld ⊢
                      refine pu 0 10 (bv 34 1) HT_.out (h := ?_)
                      refine pu 1 11 (bv 34 3) HT_.out (h := ?_)
                      refine pu 2 12 (bv 34 7) HT_.out (h := ?_)
                      refine pu 3 13 (bv 34 15) HT_.out (h := ?_)
                      refine tk 4 14 (bv 34 31) HT_.out HW_.out hHeld (h := ?_)
                      refine one_ (i := 5) (N := some 15) (bv 34 63) rfl rfl (one_of HT_.out (by kernel_rfl)) (by decide) (fun K hK => ?_)
                      refine goes_ Tryd.func143 (by kernel_rfl) rfl #[.string ((rd_T144 l0 x3_1).f0)] (by rfl) rfl rfl Ag ?_
                      with_reducible refine (spec_NameRight.calls k1 ((rd_T144 l0 x3_1).f0) true _ A4.out).mono ?_
                      rintro e w' ⟨rfl, ⟨nd, rfl⟩⟩
                      refine ⟨_, rfl, ?_⟩
                      refine hK.out _ _ ⟨(bz HB.out hw468_0), (bz HB.out hw468_1), (bz HB.out hw470_0), (bz HB.out hw470_1), (bz HB.out hw471_0), (bz HB.out hw471_1), (bz HB.out hw472_0), (bz HB.out hw472_1)⟩ (fun hHeld => ?_)
                      clear hK K
                      refine norm_ (a' := ?_) ?_ ?_
                      rotate_left
                      · show Act.put _ (some 15) _ = _
                        simp only [Act.put, List.setIfInBounds_toArray, List.set_cons_zero, List.set_cons_succ, i64_w, i32_w]
                        rfl
                      refine pu 6 16 (bv 34 127) HT_.out (h := ?_)
                      refine pu 7 17 (bv 34 255) HT_.out (h := ?_)
                      refine pu 8 18 (bv 34 511) HT_.out (h := ?_)
                      refine pu 9 19 (bv 34 1023) HT_.out (h := ?_)
                      refine pu 10 20 (bv 34 2047) HT_.out (h := ?_)
                      refine pu 11 21 (bv 34 4095) HT_.out (h := ?_)
                      refine pu 12 22 (bv 34 8191) HT_.out (h := ?_)
                      refine pu 13 23 (bv 34 16383) HT_.out (h := ?_)
                      refine pu 14 24 (bv 34 32767) HT_.out (h := ?_)
                      refine pu 15 25 (bv 34 65535) HT_.out (h := ?_)
                      refine pu 17 27 (bv 34 196607) HT_.out (h := ?_)
                      refine pu 18 28 (bv 34 458751) HT_.out (h := ?_)
                      refine pu 19 29 (bv 34 983039) HT_.out (h := ?_)
                      refine pu 20 30 (bv 34 2031615) HT_.out (h := ?_)
                      refine tk 16 26 (bv 34 2097151) HT_.out HW_.out hHeld (h := ?_)
                      refine tk 21 31 (bv 34 4194303) HT_.out HW_.out hHeld (h := ?_)
                      refine pu 22 32 (bv 34 8388607) HT_.out (h := ?_)
                      refine pu 23 33 (bv 34 16777215) HT_.out (h := ?_)
                      refine pu 24 34 (bv 34 33554431) HT_.out (h := ?_)
                      refine pu 25 35 (bv 34 67108863) HT_.out (h := ?_)
                      refine pu 26 36 (bv 34 134217727) HT_.out (h := ?_)
                      refine pu 27 37 (bv 34 268435455) HT_.out (h := ?_)
                      refine pu 28 38 (bv 34 536870911) HT_.out (h := ?_)
                      refine pu 29 39 (bv 34 1073741823) HT_.out (h := ?_)
                      refine tk 30 40 (bv 34 2147483647) HT_.out HW_.out hHeld (h := ?_)
                      refine one_ (i := 31) (N := some 41) (bv 34 4294967295) rfl rfl (one_of HT_.out (by kernel_rfl)) (by decide) (fun K hK => ?_)
                      refine goes_ Tryd.func155 (by kernel_rfl) rfl #[.slice A468_1 ((rd_T144 l0 x3_1).f1).length c468_1] (by rfl) rfl rfl Ag ?_
                      with_reducible refine (spec_l03Values.calls k1 _ _ ((rd_T144 l0 x3_1).f1) false _ ?side1 ?side2 A11.out).mono ?_
                      (case side1 => repeat (first | exact (Kd.C_below HR472_1.out By) | (with_reducible refine Kd.C_alloc ?_ _) | (with_reducible refine Kd.C_drewN ?_ _) | (with_reducible refine Kd.C_drew ?_)))
                      (case side2 => exact HC472_1.out)
                      rintro e w16 ⟨rfl, hb⟩
                      refine ⟨_, rfl, ?_⟩
                      have n0_ := Aside0.mk (below_step By hb)
                      clear HB
                      have HB := n0_
                      clear n0_
                      (try clear hb)
                      (try clear hb2)
                      (try clear hk)
                      (try clear hi)
                      refine hK.out _ _ ⟨(bz HB.out hw468_0), (bz HB.out hw468_1), (bz HB.out hw470_0), (bz HB.out hw470_1), (bz HB.out hw471_0), (bz HB.out hw471_1), (bz HB.out hw472_0), (bz HB.out hw472_1)⟩ (fun hHeld => ?_)
                      clear hK K
                      refine norm_ (a' := ?_) ?_ ?_
                      rotate_left
                      · show Act.put _ (some 41) _ = _
                        simp only [Act.put, List.setIfInBounds_toArray, List.set_cons_zero, List.set_cons_succ, i64_w, i32_w]
                        rfl
                      refine pu 32 42 (bv 34 8589934591) HT_.out (h := ?_)
                      refine pu 33 43 (bv 34 17179869183) HT_.out (h := ?_)
                      refine done_ (done_of HT_.out (by kernel_rfl)) ?_
                      try go_wp2
                      go_ret
                      exact ⟨by first | rfl | (simp [errW_none, errW_some] <;> rfl) | (simp only [← hji7]; first | rfl | (simp [errW_none, errW_some] <;> rfl)) | (simp [*, errW_none, errW_some] <;> first | rfl | (rw [Bool.eq_iff_iff]; simp)), By⟩
                  · rw [if_neg c10] at H
                    have c10b0 : (Op.bytesLess (((rd_T144 l0 (ji7)).f0).toList) (((rd_T144 l0 x3_1).f0).toList)) = false := by simpa using c10
                    clear c10
                    obtain rfl := Option.some.inj H
                    try go_wp2
                    have n0_ := Aside0.mk (below_drew1 HB.out)
                    clear HB
                    have HB := n0_
                    clear n0_
                    have p468 : 0 ≤ (x3_1 : Int) := of_decide_eq_true Da
                    have q468 : x3_1 < (l0.length : Int) := of_decide_eq_true Da
                    obtain ⟨ad468, A468_1, c468_1, e468, hx468_0, hx468_1, hl468_1, hi468_1⟩ := at_T144 HR0.out x3_1 p468 q468
                    have hw468_1 := hx468_1
                    have hw468_0 := hx468_0
                    cases e468
                    replace hx468_0 := bz HB.out hx468_0
                    replace hx468_1 := bz HB.out hx468_1
                    have HR468_1 := Aside0.mk hi468_1
                    have HC468_1 := Aside0.mk hl468_1
                    clear hi468_1 hl468_1
                    replace p468 := eq_true p468
                    replace q468 := eq_true q468
                    have p470 : 0 ≤ ((ji7) : Int) := of_decide_eq_true Da
                    have q470 : (ji7) < (l0.length : Int) := of_decide_eq_true Da
                    obtain ⟨ad470, A470_1, c470_1, e470, hx470_0, hx470_1, hl470_1, hi470_1⟩ := at_T144 HR0.out (ji7) p470 q470
                    have hw470_1 := hx470_1
                    have hw470_0 := hx470_0
                    obtain rfl : ad468 = ad470 := (by injection e470)
                    replace hx470_0 := bz HB.out hx470_0
                    replace hx470_1 := bz HB.out hx470_1
                    have HR470_1 := Aside0.mk hi470_1
                    have HC470_1 := Aside0.mk hl470_1
                    clear hi470_1 hl470_1
                    replace p470 := eq_true p470
                    replace q470 := eq_true q470
                    have p471 : 0 ≤ (x3_1 : Int) := of_decide_eq_true Da
                    have q471 : x3_1 < (l0.length : Int) := of_decide_eq_true Da
                    obtain ⟨ad471, A471_1, c471_1, e471, hx471_0, hx471_1, hl471_1, hi471_1⟩ := at_T144 HR0.out x3_1 p471 q471
                    have hw471_1 := hx471_1
                    have hw471_0 := hx471_0
                    obtain rfl : ad468 = ad471 := (by injection e471)
                    replace hx471_0 := bz HB.out hx471_0
                    replace hx471_1 := bz HB.out hx471_1
                    have HR471_1 := Aside0.mk hi471_1
                    have HC471_1 := Aside0.mk hl471_1
                    clear hi471_1 hl471_1
                    replace p471 := eq_true p471
                    replace q471 := eq_true q471
                    have ea_ := Option.some.inj (hx468_1.symm.trans hx471_1)
                    injection ea_ with ea_ en_ ec_
                    subst ea_
                    subst ec_
                    clear en_
                    refine start_ (n := 34) (S := fun w' => w'.cell? (ad468.add ((x3_1).toNat * 2)) = some (.string ((rd_T144 l0 x3_1).f0)) ∧ w'.cell? ⟨(ad468.add ((x3_1).toNat * 2)).block, (ad468.add ((x3_1).toNat * 2)).off + 1, none⟩ = some (.slice A468_1 ((rd_T144 l0 x3_1).f1).length c468_1) ∧ w'.cell? (ad468.add (((ji7)).toNat * 2)) = some (.string ((rd_T144 l0 (ji7)).f0)) ∧ w'.cell? ⟨(ad468.add (((ji7)).toNat * 2)).block, (ad468.add (((ji7)).toNat * 2)).off + 1, none⟩ = some (.slice A470_1 ((rd_T144 l0 (ji7)).f1).length c470_1) ∧ w'.cell? (ad468.add ((x3_1).toNat * 2)) = some (.string ((rd_T144 l0 x3_1).f0)) ∧ w'.cell? ⟨(ad468.add ((x3_1).toNat * 2)).block, (ad468.add ((x3_1).toNat * 2)).off + 1, none⟩ = some (.slice A468_1 ((rd_T144 l0 x3_1).f1).length c468_1)) (ds := []) (bv 34 0) (by kernel_rfl) rfl rfl ⟨(bz HB.out hw468_0), (bz HB.out hw468_1), (bz HB.out hw470_0), (bz HB.out hw470_1), (bz HB.out hw471_0), (bz HB.out hw471_1)⟩ (fun hHeld => ?_); refine with_tabW spec_l03Attrs.tab4 spec_l03Attrs.bits4 (fun HT_ HW_ => ?_)
                    generalize wr.drew = w17 at HB HR468_1 HR470_1 HR471_1 hx468_0 hx468_1 hx470_0 hx470_1 hx471_0 hx471_1 hHeld ⊢
                    refine pu 0 10 (bv 34 1) HT_.out (h := ?_)
                    refine pu 1 11 (bv 34 3) HT_.out (h := ?_)
                    refine pu 2 12 (bv 34 7) HT_.out (h := ?_)
                    refine pu 3 13 (bv 34 15) HT_.out (h := ?_)
                    refine tk 4 14 (bv 34 31) HT_.out HW_.out hHeld (h := ?_)
                    refine one_ (i := 5) (N := some 15) (bv 34 63) rfl rfl (one_of HT_.out (by kernel_rfl)) (by decide) (fun K hK => ?_)
                    refine goes_ Tryd.func143 (by kernel_rfl) rfl #[.string ((rd_T144 l0 x3_1).f0)] (by rfl) rfl rfl Ag ?_
                    with_reducible refine (spec_NameRight.calls k1 ((rd_T144 l0 x3_1).f0) true _ A4.out).mono ?_
                    rintro e w' ⟨rfl, ⟨nd, rfl⟩⟩
                    refine ⟨_, rfl, ?_⟩
                    refine hK.out _ _ ⟨(bz HB.out hw468_0), (bz HB.out hw468_1), (bz HB.out hw470_0), (bz HB.out hw470_1), (bz HB.out hw471_0), (bz HB.out hw471_1)⟩ (fun hHeld => ?_)
                    clear hK K
                    refine norm_ (a' := ?_) ?_ ?_
                    rotate_left
                    · show Act.put _ (some 15) _ = _
                      simp only [Act.put, List.setIfInBounds_toArray, List.set_cons_zero, List.set_cons_succ, i64_w, i32_w]
                      rfl
                    refine pu 6 16 (bv 34 127) HT_.out (h := ?_)
                    refine pu 7 17 (bv 34 255) HT_.out (h := ?_)
                    refine pu 8 18 (bv 34 511) HT_.out (h := ?_)
                    refine pu 9 19 (bv 34 1023) HT_.out (h := ?_)
                    refine pu 10 20 (bv 34 2047) HT_.out (h := ?_)
                    refine pu 11 21 (bv 34 4095) HT_.out (h := ?_)
                    refine pu 12 22 (bv 34 8191) HT_.out (h := ?_)
                    refine pu 13 23 (bv 34 16383) HT_.out (h := ?_)
                    refine pu 14 24 (bv 34 32767) HT_.out (h := ?_)
                    refine pu 15 25 (bv 34 65535) HT_.out (h := ?_)
                    refine pu 17 27 (bv 34 196607) HT_.out (h := ?_)
                    refine pu 18 28 (bv 34 458751) HT_.out (h := ?_)
                    refine pu 19 29 (bv 34 983039) HT_.out (h := ?_)
                    refine pu 20 30 (bv 34 2031615) HT_.out (h := ?_)
                    refine tk 16 26 (bv 34 2097151) HT_.out HW_.out hHeld (h := ?_)
                    refine tk 21 31 (bv 34 4194303) HT_.out HW_.out hHeld (h := ?_)
                    refine pu 22 32 (bv 34 8388607) HT_.out (h := ?_)
                    refine pu 23 33 (bv 34 16777215) HT_.out (h := ?_)
                    refine pu 24 34 (bv 34 33554431) HT_.out (h := ?_)
                    refine pu 25 35 (bv 34 67108863) HT_.out (h := ?_)
                    refine pn 26 36 (bv 34 134217727) HT_.out (h := ?_)
                    refine pn 27 37 (bv 34 268435455) HT_.out (h := ?_)
                    refine pn 28 38 (bv 34 536870911) HT_.out (h := ?_)
                    refine pn 29 39 (bv 34 1073741823) HT_.out (h := ?_)
                    refine pn 30 40 (bv 34 2147483647) HT_.out (h := ?_)
                    refine pn 31 41 (bv 34 4294967295) HT_.out (h := ?_)
                    refine pn 32 42 (bv 34 8589934591) HT_.out (h := ?_)
                    refine pu 33 43 (bv 34 17179869183) HT_.out (h := ?_)
                    refine done_ (done_of HT_.out (by kernel_rfl)) ?_
                    try go_wp2
                    go_ret
                    exact ⟨by first | rfl | (simp [errW_none, errW_some] <;> rfl) | (simp only [← hji7]; first | rfl | (simp [errW_none, errW_some] <;> rfl)) | (simp [*, errW_none, errW_some] <;> first | rfl | (rw [Bool.eq_iff_iff]; simp)), By⟩
                · rw [if_neg c9] at H
                  exact absurd H (by simp)
              · rw [if_neg c8] at H
                exact absurd H (by simp)
            · rw [if_neg c6] at H
              have c6b0 : decide (0 < x3_1) = false := decide_eq_false c6
              clear c6
              replace H := Option.bind_eq_some_iff.mp H
              obtain ⟨t475, A180, H⟩ := H
              replace H : (if t475 = true then (spec_l03Attrs.l0 k1 l0 (wrap64 (x3_1 + 1))) else (some false)) = some r := H
              have A18 := Aside0.mk A180
              clear A180
              by_cases c19 : t475 = true
              · subst c19
                have H1 : (spec_l03Attrs.l0 k1 l0 (wrap64 (x3_1 + 1))) = some r := by rw [if_pos rfl] at H; exact H
                clear H
                have H := H1
                clear H1
                have H' := Aside0.mk H
                clear H
                try go_wp2
                have n0_ := Aside0.mk (below_drew1 HB.out)
                clear HB
                have HB := n0_
                clear n0_
                have p468 : 0 ≤ (x3_1 : Int) := of_decide_eq_true Da
                have q468 : x3_1 < (l0.length : Int) := of_decide_eq_true Da
                obtain ⟨ad468, A468_1, c468_1, e468, hx468_0, hx468_1, hl468_1, hi468_1⟩ := at_T144 HR0.out x3_1 p468 q468
                have hw468_1 := hx468_1
                have hw468_0 := hx468_0
                cases e468
                replace hx468_0 := bz HB.out hx468_0
                replace hx468_1 := bz HB.out hx468_1
                have HR468_1 := Aside0.mk hi468_1
                have HC468_1 := Aside0.mk hl468_1
                clear hi468_1 hl468_1
                replace p468 := eq_true p468
                replace q468 := eq_true q468
                have p474 : 0 ≤ (x3_1 : Int) := of_decide_eq_true Da
                have q474 : x3_1 < (l0.length : Int) := of_decide_eq_true Da
                obtain ⟨ad474, A474_1, c474_1, e474, hx474_0, hx474_1, hl474_1, hi474_1⟩ := at_T144 HR0.out x3_1 p474 q474
                have hw474_1 := hx474_1
                have hw474_0 := hx474_0
                obtain rfl : ad468 = ad474 := (by injection e474)
                replace hx474_0 := bz HB.out hx474_0
                replace hx474_1 := bz HB.out hx474_1
                have HR474_1 := Aside0.mk hi474_1
                have HC474_1 := Aside0.mk hl474_1
                clear hi474_1 hl474_1
                replace p474 := eq_true p474
                replace q474 := eq_true q474
                have ea_ := Option.some.inj (hx468_1.symm.trans hx474_1)
                injection ea_ with ea_ en_ ec_
                subst ea_
                subst ec_
                clear en_
                refine start_ (n := 34) (S := fun w' => w'.cell? (ad468.add ((x3_1).toNat * 2)) = some (.string ((rd_T144 l0 x3_1).f0)) ∧ w'.cell? ⟨(ad468.add ((x3_1).toNat * 2)).block, (ad468.add ((x3_1).toNat * 2)).off + 1, none⟩ = some (.slice A468_1 ((rd_T144 l0 x3_1).f1).length c468_1) ∧ w'.cell? (ad468.add ((x3_1).toNat * 2)) = some (.string ((rd_T144 l0 x3_1).f0)) ∧ w'.cell? ⟨(ad468.add ((x3_1).toNat * 2)).block, (ad468.add ((x3_1).toNat * 2)).off + 1, none⟩ = some (.slice A468_1 ((rd_T144 l0 x3_1).f1).length c468_1)) (ds := []) (bv 34 0) (by kernel_rfl) rfl rfl ⟨(bz HB.out hw468_0), (bz HB.out hw468_1), (bz HB.out hw474_0), (bz HB.out hw474_1)⟩ (fun hHeld => ?_); refine with_tabW spec_l03Attrs.tab4 spec_l03Attrs.bits4 (fun HT_ HW_ => ?_)
                generalize wr.drew = w20 at HB HR468_1 HR474_1 hx468_0 hx468_1 hx474_0 hx474_1 hHeld ⊢
                refine pu 0 10 (bv 34 1) HT_.out (h := ?_)
                refine pu 1 11 (bv 34 3) HT_.out (h := ?_)
                refine pu 2 12 (bv 34 7) HT_.out (h := ?_)
                refine pu 3 13 (bv 34 15) HT_.out (h := ?_)
                refine tk 4 14 (bv 34 31) HT_.out HW_.out hHeld (h := ?_)
                refine one_ (i := 5) (N := some 15) (bv 34 63) rfl rfl (one_of HT_.out (by kernel_rfl)) (by decide) (fun K hK => ?_)
                refine goes_ Tryd.func143 (by kernel_rfl) rfl #[.string ((rd_T144 l0 x3_1).f0)] (by rfl) rfl rfl Ag ?_
                with_reducible refine (spec_NameRight.calls k1 ((rd_T144 l0 x3_1).f0) true _ A4.out).mono ?_
                rintro e w' ⟨rfl, ⟨nd, rfl⟩⟩
                refine ⟨_, rfl, ?_⟩
                refine hK.out _ _ ⟨(bz HB.out hw468_0), (bz HB.out hw468_1), (bz HB.out hw474_0), (bz HB.out hw474_1)⟩ (fun hHeld => ?_)
                clear hK K
                refine norm_ (a' := ?_) ?_ ?_
                rotate_left
                · show Act.put _ (some 15) _ = _
                  simp only [Act.put, List.setIfInBounds_toArray, List.set_cons_zero, List.set_cons_succ, i64_w, i32_w]
                  rfl
                refine pu 6 16 (bv 34 127) HT_.out (h := ?_)
                refine pu 7 17 (bv 34 255) HT_.out (h := ?_)
                refine pu 8 18 (bv 34 511) HT_.out (h := ?_)
                refine pu 9 19 (bv 34 1023) HT_.out (h := ?_)
                refine pu 10 20 (bv 34 2047) HT_.out (h := ?_)
                refine pn 11 21 (bv 34 4095) HT_.out (h := ?_)
                refine pn 12 22 (bv 34 8191) HT_.out (h := ?_)
                refine pn 13 23 (bv 34 16383) HT_.out (h := ?_)
                refine pn 14 24 (bv 34 32767) HT_.out (h := ?_)
                refine pn 15 25 (bv 34 65535) HT_.out (h := ?_)
                refine pn 16 26 (bv 34 131071) HT_.out (h := ?_)
                refine pn 17 27 (bv 34 262143) HT_.out (h := ?_)
                refine pn 18 28 (bv 34 524287) HT_.out (h := ?_)
                refine pn 19 29 (bv 34 1048575) HT_.out (h := ?_)
                refine pn 20 30 (bv 34 2097151) HT_.out (h := ?_)
                refine pn 21 31 (bv 34 4194303) HT_.out (h := ?_)
                refine pn 22 32 (bv 34 8388607) HT_.out (h := ?_)
                refine pu 23 33 (bv 34 16777215) HT_.out (h := ?_)
                refine pu 24 34 (bv 34 33554431) HT_.out (h := ?_)
                refine pu 25 35 (bv 34 67108863) HT_.out (h := ?_)
                refine pu 26 36 (bv 34 134217727) HT_.out (h := ?_)
                refine pu 27 37 (bv 34 268435455) HT_.out (h := ?_)
                refine pu 28 38 (bv 34 536870911) HT_.out (h := ?_)
                refine pu 29 39 (bv 34 1073741823) HT_.out (h := ?_)
                refine tk 30 40 (bv 34 2147483647) HT_.out HW_.out hHeld (h := ?_)
                refine one_ (i := 31) (N := some 41) (bv 34 4294967295) rfl rfl (one_of HT_.out (by kernel_rfl)) (by decide) (fun K hK => ?_)
                refine goes_ Tryd.func155 (by kernel_rfl) rfl #[.slice A468_1 ((rd_T144 l0 x3_1).f1).length c468_1] (by rfl) rfl rfl Ag ?_
                with_reducible refine (spec_l03Values.calls k1 _ _ ((rd_T144 l0 x3_1).f1) true _ ?side1 ?side2 A18.out).mono ?_
                (case side1 => repeat (first | exact (Kd.C_below HR474_1.out By) | (with_reducible refine Kd.C_alloc ?_ _) | (with_reducible refine Kd.C_drewN ?_ _) | (with_reducible refine Kd.C_drew ?_)))
                (case side2 => exact HC474_1.out)
                rintro e w21 ⟨rfl, hb⟩
                refine ⟨_, rfl, ?_⟩
                have n0_ := Aside0.mk (below_step By hb)
                clear HB
                have HB := n0_
                clear n0_
                (try clear hb)
                (try clear hb2)
                (try clear hk)
                (try clear hi)
                refine hK.out _ _ ⟨(bz HB.out hw468_0), (bz HB.out hw468_1), (bz HB.out hw474_0), (bz HB.out hw474_1)⟩ (fun hHeld => ?_)
                clear hK K
                refine norm_ (a' := ?_) ?_ ?_
                rotate_left
                · show Act.put _ (some 41) _ = _
                  simp only [Act.put, List.setIfInBounds_toArray, List.set_cons_zero, List.set_cons_succ, i64_w, i32_w]
                  rfl
                refine pu 32 42 (bv 34 8589934591) HT_.out (h := ?_)
                refine pu 33 43 (bv 34 17179869183) HT_.out (h := ?_)
                refine done_ (done_of HT_.out (by kernel_rfl)) ?_
                try go_wp2
                go_roundg k1
                case measure => have := HK1.out; omega
                case rel => exact ⟨(wrap64 (x3_1 + 1)), (by first | rfl | (simp; done) | (simp [*]; done)), H', ⟨by have := HK1.out; omega⟩, ⟨By⟩⟩
              · replace c19 := Bool.eq_false_iff.mpr c19
                subst c19
                have H1 : (some false) = some r := by rw [if_neg (show ¬ (false = true) by decide)] at H; exact H
                clear H
                have H := H1
                clear H1
                obtain rfl := Option.some.inj H
                try go_wp2
                have n0_ := Aside0.mk (below_drew1 HB.out)
                clear HB
                have HB := n0_
                clear n0_
                have p468 : 0 ≤ (x3_1 : Int) := of_decide_eq_true Da
                have q468 : x3_1 < (l0.length : Int) := of_decide_eq_true Da
                obtain ⟨ad468, A468_1, c468_1, e468, hx468_0, hx468_1, hl468_1, hi468_1⟩ := at_T144 HR0.out x3_1 p468 q468
                have hw468_1 := hx468_1
                have hw468_0 := hx468_0
                cases e468
                replace hx468_0 := bz HB.out hx468_0
                replace hx468_1 := bz HB.out hx468_1
                have HR468_1 := Aside0.mk hi468_1
                have HC468_1 := Aside0.mk hl468_1
                clear hi468_1 hl468_1
                replace p468 := eq_true p468
                replace q468 := eq_true q468
                have p474 : 0 ≤ (x3_1 : Int) := of_decide_eq_true Da
                have q474 : x3_1 < (l0.length : Int) := of_decide_eq_true Da
                obtain ⟨ad474, A474_1, c474_1, e474, hx474_0, hx474_1, hl474_1, hi474_1⟩ := at_T144 HR0.out x3_1 p474 q474
                have hw474_1 := hx474_1
                have hw474_0 := hx474_0
                obtain rfl : ad468 = ad474 := (by injection e474)
                replace hx474_0 := bz HB.out hx474_0
                replace hx474_1 := bz HB.out hx474_1
                have HR474_1 := Aside0.mk hi474_1
                have HC474_1 := Aside0.mk hl474_1
                clear hi474_1 hl474_1
                replace p474 := eq_true p474
                replace q474 := eq_true q474
                have ea_ := Option.some.inj (hx468_1.symm.trans hx474_1)
                injection ea_ with ea_ en_ ec_
                subst ea_
                subst ec_
                clear en_
                refine start_ (n := 34) (S := fun w' => w'.cell? (ad468.add ((x3_1).toNat * 2)) = some (.string ((rd_T144 l0 x3_1).f0)) ∧ w'.cell? ⟨(ad468.add ((x3_1).toNat * 2)).block, (ad468.add ((x3_1).toNat * 2)).off + 1, none⟩ = some (.slice A468_1 ((rd_T144 l0 x3_1).f1).length c468_1) ∧ w'.cell? (ad468.add ((x3_1).toNat * 2)) = some (.string ((rd_T144 l0 x3_1).f0)) ∧ w'.cell? ⟨(ad468.add ((x3_1).toNat * 2)).block, (ad468.add ((x3_1).toNat * 2)).off + 1, none⟩ = some (.slice A468_1 ((rd_T144 l0 x3_1).f1).length c468_1)) (ds := []) (bv 34 0) (by kernel_rfl) rfl rfl ⟨(bz HB.out hw468_0), (bz HB.out hw468_1), (bz HB.out hw474_0), (bz HB.out hw474_1)⟩ (fun hHeld => ?_); refine with_tabW spec_l03Attrs.tab4 spec_l03Attrs.bits4 (fun HT_ HW_ => ?_)
                generalize wr.drew = w22 at HB HR468_1 HR474_1 hx468_0 hx468_1 hx474_0 hx474_1 hHeld ⊢
                refine pu 0 10 (bv 34 1) HT_.out (h := ?_)
                refine pu 1 11 (bv 34 3) HT_.out (h := ?_)
                refine pu 2 12 (bv 34 7) HT_.out (h := ?_)
                refine pu 3 13 (bv 34 15) HT_.out (h := ?_)
                refine tk 4 14 (bv 34 31) HT_.out HW_.out hHeld (h := ?_)
                refine one_ (i := 5) (N := some 15) (bv 34 63) rfl rfl (one_of HT_.out (by kernel_rfl)) (by decide) (fun K hK => ?_)
                refine goes_ Tryd.func143 (by kernel_rfl) rfl #[.string ((rd_T144 l0 x3_1).f0)] (by rfl) rfl rfl Ag ?_
                with_reducible refine (spec_NameRight.calls k1 ((rd_T144 l0 x3_1).f0) true _ A4.out).mono ?_
                rintro e w' ⟨rfl, ⟨nd, rfl⟩⟩
                refine ⟨_, rfl, ?_⟩
                refine hK.out _ _ ⟨(bz HB.out hw468_0), (bz HB.out hw468_1), (bz HB.out hw474_0), (bz HB.out hw474_1)⟩ (fun hHeld => ?_)
                clear hK K
                refine norm_ (a' := ?_) ?_ ?_
                rotate_left
                · show Act.put _ (some 15) _ = _
                  simp only [Act.put, List.setIfInBounds_toArray, List.set_cons_zero, List.set_cons_succ, i64_w, i32_w]
                  rfl
                refine pu 6 16 (bv 34 127) HT_.out (h := ?_)
                refine pu 7 17 (bv 34 255) HT_.out (h := ?_)
                refine pu 8 18 (bv 34 511) HT_.out (h := ?_)
                refine pu 9 19 (bv 34 1023) HT_.out (h := ?_)
                refine pu 10 20 (bv 34 2047) HT_.out (h := ?_)
                refine pn 11 21 (bv 34 4095) HT_.out (h := ?_)
                refine pn 12 22 (bv 34 8191) HT_.out (h := ?_)
                refine pn 13 23 (bv 34 16383) HT_.out (h := ?_)
                refine pn 14 24 (bv 34 32767) HT_.out (h := ?_)
                refine pn 15 25 (bv 34 65535) HT_.out (h := ?_)
                refine pn 16 26 (bv 34 131071) HT_.out (h := ?_)
                refine pn 17 27 (bv 34 262143) HT_.out (h := ?_)
                refine pn 18 28 (bv 34 524287) HT_.out (h := ?_)
                refine pn 19 29 (bv 34 1048575) HT_.out (h := ?_)
                refine pn 20 30 (bv 34 2097151) HT_.out (h := ?_)
                refine pn 21 31 (bv 34 4194303) HT_.out (h := ?_)
                refine pn 22 32 (bv 34 8388607) HT_.out (h := ?_)
                refine pu 23 33 (bv 34 16777215) HT_.out (h := ?_)
                refine pu 24 34 (bv 34 33554431) HT_.out (h := ?_)
                refine pu 25 35 (bv 34 67108863) HT_.out (h := ?_)
                refine pu 26 36 (bv 34 134217727) HT_.out (h := ?_)
                refine pu 27 37 (bv 34 268435455) HT_.out (h := ?_)
                refine pu 28 38 (bv 34 536870911) HT_.out (h := ?_)
                refine pu 29 39 (bv 34 1073741823) HT_.out (h := ?_)
                refine tk 30 40 (bv 34 2147483647) HT_.out HW_.out hHeld (h := ?_)
                refine one_ (i := 31) (N := some 41) (bv 34 4294967295) rfl rfl (one_of HT_.out (by kernel_rfl)) (by decide) (fun K hK => ?_)
                refine goes_ Tryd.func155 (by kernel_rfl) rfl #[.slice A468_1 ((rd_T144 l0 x3_1).f1).length c468_1] (by rfl) rfl rfl Ag ?_
                with_reducible refine (spec_l03Values.calls k1 _ _ ((rd_T144 l0 x3_1).f1) false _ ?side1 ?side2 A18.out).mono ?_
                (case side1 => repeat (first | exact (Kd.C_below HR474_1.out By) | (with_reducible refine Kd.C_alloc ?_ _) | (with_reducible refine Kd.C_drewN ?_ _) | (with_reducible refine Kd.C_drew ?_)))
                (case side2 => exact HC474_1.out)
                rintro e w23 ⟨rfl, hb⟩
                refine ⟨_, rfl, ?_⟩
                have n0_ := Aside0.mk (below_step By hb)
                clear HB
                have HB := n0_
                clear n0_
                (try clear hb)
                (try clear hb2)
                (try clear hk)
                (try clear hi)
                refine hK.out _ _ ⟨(bz HB.out hw468_0), (bz HB.out hw468_1), (bz HB.out hw474_0), (bz HB.out hw474_1)⟩ (fun hHeld => ?_)
                clear hK K
                refine norm_ (a' := ?_) ?_ ?_
                rotate_left
                · show Act.put _ (some 41) _ = _
                  simp only [Act.put, List.setIfInBounds_toArray, List.set_cons_zero, List.set_cons_succ, i64_w, i32_w]
                  rfl
                refine pu 32 42 (bv 34 8589934591) HT_.out (h := ?_)
                refine pu 33 43 (bv 34 17179869183) HT_.out (h := ?_)
                refine done_ (done_of HT_.out (by kernel_rfl)) ?_
                try go_wp2
                go_ret
                exact ⟨Rf, By⟩
          · replace c5 := Bool.eq_false_iff.mpr c5
            subst c5
            have H1 : (some false) = some r := by rw [if_neg (show ¬ (false = true) by decide)] at H; exact H
            clear H
            have H := H1
            clear H1
            obtain rfl := Option.some.inj H
            try go_wp2
            have n0_ := Aside0.mk (below_drew1 HB.out)
            clear HB
            have HB := n0_
            clear n0_
            have p468 : 0 ≤ (x3_1 : Int) := of_decide_eq_true Da
            have q468 : x3_1 < (l0.length : Int) := of_decide_eq_true Da
            obtain ⟨ad468, A468_1, c468_1, e468, hx468_0, hx468_1, hl468_1, hi468_1⟩ := at_T144 HR0.out x3_1 p468 q468
            have hw468_1 := hx468_1
            have hw468_0 := hx468_0
            cases e468
            replace hx468_0 := bz HB.out hx468_0
            replace hx468_1 := bz HB.out hx468_1
            have HR468_1 := Aside0.mk hi468_1
            have HC468_1 := Aside0.mk hl468_1
            clear hi468_1 hl468_1
            replace p468 := eq_true p468
            replace q468 := eq_true q468
            refine start_ (n := 34) (S := fun w' => w'.cell? (ad468.add ((x3_1).toNat * 2)) = some (.string ((rd_T144 l0 x3_1).f0)) ∧ w'.cell? ⟨(ad468.add ((x3_1).toNat * 2)).block, (ad468.add ((x3_1).toNat * 2)).off + 1, none⟩ = some (.slice A468_1 ((rd_T144 l0 x3_1).f1).length c468_1)) (ds := []) (bv 34 0) (by kernel_rfl) rfl rfl ⟨(bz HB.out hw468_0), (bz HB.out hw468_1)⟩ (fun hHeld => ?_); refine with_tabW spec_l03Attrs.tab4 spec_l03Attrs.bits4 (fun HT_ HW_ => ?_)
            generalize wr.drew = w24 at HB HR468_1 hx468_0 hx468_1 hHeld ⊢
            refine pu 0 10 (bv 34 1) HT_.out (h := ?_)
            refine pu 1 11 (bv 34 3) HT_.out (h := ?_)
            refine pu 2 12 (bv 34 7) HT_.out (h := ?_)
            refine pu 3 13 (bv 34 15) HT_.out (h := ?_)
            refine tk 4 14 (bv 34 31) HT_.out HW_.out hHeld (h := ?_)
            refine one_ (i := 5) (N := some 15) (bv 34 63) rfl rfl (one_of HT_.out (by kernel_rfl)) (by decide) (fun K hK => ?_)
            refine goes_ Tryd.func143 (by kernel_rfl) rfl #[.string ((rd_T144 l0 x3_1).f0)] (by rfl) rfl rfl Ag ?_
            with_reducible refine (spec_NameRight.calls k1 ((rd_T144 l0 x3_1).f0) false _ A4.out).mono ?_
            rintro e w' ⟨rfl, ⟨nd, rfl⟩⟩
            refine ⟨_, rfl, ?_⟩
            refine hK.out _ _ ⟨(bz HB.out hw468_0), (bz HB.out hw468_1)⟩ (fun hHeld => ?_)
            clear hK K
            refine norm_ (a' := ?_) ?_ ?_
            rotate_left
            · show Act.put _ (some 15) _ = _
              simp only [Act.put, List.setIfInBounds_toArray, List.set_cons_zero, List.set_cons_succ, i64_w, i32_w]
              rfl
            refine pu 6 16 (bv 34 127) HT_.out (h := ?_)
            refine pu 7 17 (bv 34 255) HT_.out (h := ?_)
            refine pn 8 18 (bv 34 511) HT_.out (h := ?_)
            refine pn 9 19 (bv 34 1023) HT_.out (h := ?_)
            refine pn 10 20 (bv 34 2047) HT_.out (h := ?_)
            refine pn 11 21 (bv 34 4095) HT_.out (h := ?_)
            refine pn 12 22 (bv 34 8191) HT_.out (h := ?_)
            refine pn 13 23 (bv 34 16383) HT_.out (h := ?_)
            refine pn 14 24 (bv 34 32767) HT_.out (h := ?_)
            refine pn 15 25 (bv 34 65535) HT_.out (h := ?_)
            refine pn 16 26 (bv 34 131071) HT_.out (h := ?_)
            refine pn 17 27 (bv 34 262143) HT_.out (h := ?_)
            refine pn 18 28 (bv 34 524287) HT_.out (h := ?_)
            refine pn 19 29 (bv 34 1048575) HT_.out (h := ?_)
            refine pn 20 30 (bv 34 2097151) HT_.out (h := ?_)
            refine pn 21 31 (bv 34 4194303) HT_.out (h := ?_)
            refine pn 22 32 (bv 34 8388607) HT_.out (h := ?_)
            refine pn 23 33 (bv 34 16777215) HT_.out (h := ?_)
            refine pu 24 34 (bv 34 33554431) HT_.out (h := ?_)
            refine pu 25 35 (bv 34 67108863) HT_.out (h := ?_)
            refine pn 26 36 (bv 34 134217727) HT_.out (h := ?_)
            refine pn 27 37 (bv 34 268435455) HT_.out (h := ?_)
            refine pn 28 38 (bv 34 536870911) HT_.out (h := ?_)
            refine pn 29 39 (bv 34 1073741823) HT_.out (h := ?_)
            refine pn 30 40 (bv 34 2147483647) HT_.out (h := ?_)
            refine pn 31 41 (bv 34 4294967295) HT_.out (h := ?_)
            refine pn 32 42 (bv 34 8589934591) HT_.out (h := ?_)
            refine pu 33 43 (bv 34 17179869183) HT_.out (h := ?_)
            refine done_ (done_of HT_.out (by kernel_rfl)) ?_
            try go_wp2
            go_ret
            exact ⟨Rf, By⟩
        · rw [if_neg c3] at H
          exact absurd H (by simp)
      · rw [if_neg c2] at H
        have c2b0 : decide (x3_1 < (l0.length : Int)) = false := decide_eq_false c2
        clear c2
        obtain rfl := Option.some.inj H
        go_wp2
        go_ret
        exact ⟨Rf, By⟩

end Go.Proofs.YtpocoeghobdfiaaDoor.PG

-- WRITTEN BY A PROGRAM OF THIS SESSION (wip/gen/gen.py), by way of the kit's print program. Lean checks it.
namespace Go.Proofs.YtpocoeghobdfiaaDoor.PG
open Go.Proofs.YtpocoeghobdfiaaDoor.Sq Go.RowKit Go.Proofs.YtpocoeghobdfiaaDoorW.PrintWords Go.Proofs.YtpocoeghobdfiaaDoorW.PrintLast Go.Proofs.YtpocoeghobdfiaaDoorW.PrintMore
attribute [local go_sem] max2_int min2_int max_two min_two max_three min_three max_four min_four   -- for this text's walks alone
set_option linter.unusedVariables false
set_option linter.unusedSimpArgs false

/-! ### spec_EntryRight: function 84 -/
def spec_EntryRight.f (k : Nat) (l0_0 : List (S153)) (l0_1 : List (S144)) : Option (Bool) := if (l0_0.length : Int) > 0 then ((spec_DnRight.f k l0_0).bind fun t477 => (if t477 = true then ((spec_l03Attrs.f k l0_1).bind fun t478 => (some t478)) else (some false))) else (some false)
theorem spec_EntryRight.mono : ∀ a0 a1 k, LeO (spec_EntryRight.f k a0 a1) (spec_EntryRight.f (k + 1) a0 a1) := by
  intro a0 a1 k
  unfold spec_EntryRight.f
  repeat' first
      | (with_reducible exact spec_DnRight.mono _ _)
      | (with_reducible exact spec_l03Attrs.mono _ _)
      | (with_reducible exact LeO.refl _)
      | (with_reducible exact LeO.none _)
      | (with_reducible refine LeO.ite ?_ ?_)
      | (with_reducible refine LeO.bind ?_ (fun _ => ?_))
      | exact spec_DnRight.mono _ _
      | exact spec_l03Attrs.mono _ _
      | exact LeO.none _
      | refine LeO.ite ?_ ?_
      | refine LeO.bind ?_ (fun _ => ?_)
set_option maxHeartbeats 8000000 in
set_option maxRecDepth 100000 in
theorem spec_EntryRight.calls (k : Nat) (A0_0 : Option Addr) (c0_0 : Nat) (l0_0 : List (S153)) (A0_1 : Option Addr) (c0_1 : Nat) (l0_1 : List (S144)) (r : Bool) (w : World) (hr0_0 : Kd.C k153 w A0_0 l0_0.length l0_0) (hc0_0 : l0_0.length ≤ c0_0) (hr0_1 : Kd.C k144 w A0_1 l0_1.length l0_1) (hc0_1 : l0_1.length ≤ c0_1) (h : spec_EntryRight.f k l0_0 l0_1 = some r) :
    Calls Tryd.prog 84 #[.agg #[.slice A0_0 l0_0.length c0_0, .slice A0_1 l0_1.length c0_1]] w fun e w' => e = .returned (.bool r) ∧ Below w.heap.size w w' := by
  have hu67 := Tryd.underlying67
  have HR0_0 := Aside0.mk hr0_0
  have HC0_0 := Aside0.mk hc0_0
  clear hr0_0 hc0_0
  have HR0_1 := Aside0.mk hr0_1
  have HC0_1 := Aside0.mk hc0_1
  clear hr0_1 hc0_1
  have HB := Aside0.mk (Below.refl w.heap.size w)
  have H : (if (l0_0.length : Int) > 0 then ((spec_DnRight.f k l0_0).bind fun t477 => (if t477 = true then ((spec_l03Attrs.f k l0_1).bind fun t478 => (some t478)) else (some false))) else (some false)) = some r := h
  clear h
  by_cases c2 : (l0_0.length : Int) > 0
  · rw [if_pos c2] at H
    have c2b0 : decide (0 < (l0_0.length : Int)) = true := decide_eq_true c2
    have c2b1 : decide (0 < l0_0.length) = true := decide_eq_true (by omega)
    clear c2
    replace H := Option.bind_eq_some_iff.mp H
    obtain ⟨t477, A30, H⟩ := H
    replace H : (if t477 = true then ((spec_l03Attrs.f k l0_1).bind fun t478 => (some t478)) else (some false)) = some r := H
    have A3 := Aside0.mk A30
    clear A30
    by_cases c4 : t477 = true
    · subst c4
      have H1 : ((spec_l03Attrs.f k l0_1).bind fun t478 => (some t478)) = some r := by rw [if_pos rfl] at H; exact H
      clear H
      have H := H1
      clear H1
      replace H := Option.bind_eq_some_iff.mp H
      obtain ⟨t478, A50, H⟩ := H
      replace H : (some t478) = some r := H
      have A5 := Aside0.mk A50
      clear A50
      obtain rfl := Option.some.inj H
      go_enter Tryd.func84, Tryd.ntmps84
      go_wp2_with (first | ((with_reducible refine gate_dst (N := 1) rfl ?_); refine box_event ?hg (N := 1) ?hd (cs := #[.slice A0_0 l0_0.length c0_0, .slice A0_1 l0_1.length c0_1]) (t := 67) ?hr ?_; (case hd => rfl); (case hg => rfl); (case hr => first | (go_simp; done) | (go_simp; rfl)); intro gb476 hg w6 hbox hb; have n0_ := Aside0.mk (below_step By hb); have n1_ := Aside0.mk (hbox); have n2_ := Aside0.mk ((by rw [hg]; exact (below_size By) : w.heap.size ≤ gb476)); have n3_ := Aside0.mk ((by rw [hg]; exact (below_size By) : w.heap.size ≤ gb476)); clear HB; have HB := n0_; have BK476 := n1_; have GW476 := n2_; have GE476 := n3_; clear n0_ n1_ n2_ n3_; clear hb hbox hg; have ⟨hcz7_0, hcz7_1⟩ := cq2 BK476.out; have ⟨hfz7_0, hfz7_1⟩ := fq2 BK476.out) | (go_at_call 122; (with_reducible refine (spec_DnRight.calls k _ _ l0_0 true _ ?side1 ?side2 A3.out).mono ?_); (case side1 => repeat (first | exact (Kd.C_below HR0_0.out HB.out) | (with_reducible refine Kd.C_alloc ?_ _) | (with_reducible refine Kd.C_drewN ?_ _) | (with_reducible refine Kd.C_drew ?_))); (case side2 => exact HC0_0.out); rintro e w8 ⟨rfl, hb⟩; have n0_ := Aside0.mk (bb BK476.out hb); have n1_ := Aside0.mk (below_step By hb); clear BK476; clear HB; have BK476 := n0_; have HB := n1_; clear n0_ n1_; (try clear hb); (try clear hb2); (try clear hk); (try clear hi); have ⟨hcz9_0, hcz9_1⟩ := cq2 BK476.out; have ⟨hfz9_0, hfz9_1⟩ := fq2 BK476.out) | (go_at_call 123; (with_reducible refine (spec_l03Attrs.calls k _ _ l0_1 t478 _ ?side1 ?side2 A5.out).mono ?_); (case side1 => repeat (first | exact (Kd.C_below HR0_1.out HB.out) | (with_reducible refine Kd.C_alloc ?_ _) | (with_reducible refine Kd.C_drewN ?_ _) | (with_reducible refine Kd.C_drew ?_))); (case side2 => exact HC0_1.out); rintro e w10 ⟨rfl, hb⟩; have n0_ := Aside0.mk (bb BK476.out hb); have n1_ := Aside0.mk (below_step By hb); clear BK476; clear HB; have BK476 := n0_; have HB := n1_; clear n0_ n1_; (try clear hb); (try clear hb2); (try clear hk); (try clear hi)))
      go_ret
      exact ⟨Rf, By⟩
    · replace c4 := Bool.eq_false_iff.mpr c4
      subst c4
      have H1 : (some false) = some r := by rw [if_neg (show ¬ (false = true) by decide)] at H; exact H
      clear H
      have H := H1
      clear H1
      obtain rfl := Option.some.inj H
      go_enter Tryd.func84, Tryd.ntmps84
      go_wp2_with (first | ((with_reducible refine gate_dst (N := 1) rfl ?_); refine box_event ?hg (N := 1) ?hd (cs := #[.slice A0_0 l0_0.length c0_0, .slice A0_1 l0_1.length c0_1]) (t := 67) ?hr ?_; (case hd => rfl); (case hg => rfl); (case hr => first | (go_simp; done) | (go_simp; rfl)); intro gb476 hg w11 hbox hb; have n0_ := Aside0.mk (below_step By hb); have n1_ := Aside0.mk (hbox); have n2_ := Aside0.mk ((by rw [hg]; exact (below_size By) : w.heap.size ≤ gb476)); have n3_ := Aside0.mk ((by rw [hg]; exact (below_size By) : w.heap.size ≤ gb476)); clear HB; have HB := n0_; have BK476 := n1_; have GW476 := n2_; have GE476 := n3_; clear n0_ n1_ n2_ n3_; clear hb hbox hg; have ⟨hcz12_0, hcz12_1⟩ := cq2 BK476.out; have ⟨hfz12_0, hfz12_1⟩ := fq2 BK476.out) | (go_at_call 122; (with_reducible refine (spec_DnRight.calls k _ _ l0_0 false _ ?side1 ?side2 A3.out).mono ?_); (case side1 => repeat (first | exact (Kd.C_below HR0_0.out HB.out) | (with_reducible refine Kd.C_alloc ?_ _) | (with_reducible refine Kd.C_drewN ?_ _) | (with_reducible refine Kd.C_drew ?_))); (case side2 => exact HC0_0.out); rintro e w13 ⟨rfl, hb⟩; have n0_ := Aside0.mk (bb BK476.out hb); have n1_ := Aside0.mk (below_step By hb); clear BK476; clear HB; have BK476 := n0_; have HB := n1_; clear n0_ n1_; (try clear hb); (try clear hb2); (try clear hk); (try clear hi)))
      go_ret
      exact ⟨Rf, By⟩
  · rw [if_neg c2] at H
    have c2b0 : decide (0 < (l0_0.length : Int)) = false := decide_eq_false c2
    have c2b1 : decide (0 < l0_0.length) = false := decide_eq_false (by omega)
    clear c2
    obtain rfl := Option.some.inj H
    go_enter Tryd.func84, Tryd.ntmps84
    go_wp2_with (first | ((with_reducible refine gate_dst (N := 1) rfl ?_); refine box_event ?hg (N := 1) ?hd (cs := #[.slice A0_0 l0_0.length c0_0, .slice A0_1 l0_1.length c0_1]) (t := 67) ?hr ?_; (case hd => rfl); (case hg => rfl); (case hr => first | (go_simp; done) | (go_simp; rfl)); intro gb476 hg w14 hbox hb; have n0_ := Aside0.mk (below_step By hb); have n1_ := Aside0.mk (hbox); have n2_ := Aside0.mk ((by rw [hg]; exact (below_size By) : w.heap.size ≤ gb476)); have n3_ := Aside0.mk ((by rw [hg]; exact (below_size By) : w.heap.size ≤ gb476)); clear HB; have HB := n0_; have BK476 := n1_; have GW476 := n2_; have GE476 := n3_; clear n0_ n1_ n2_ n3_; clear hb hbox hg; have ⟨hcz15_0, hcz15_1⟩ := cq2 BK476.out; have ⟨hfz15_0, hfz15_1⟩ := fq2 BK476.out))
    go_ret
    exact ⟨Rf, By⟩

end Go.Proofs.YtpocoeghobdfiaaDoor.PG

-- WRITTEN BY A PROGRAM OF THIS SESSION (wip/gen/gen.py), by way of the kit's print program. Lean checks it.
namespace Go.Proofs.YtpocoeghobdfiaaDoor.PG
open Go.Proofs.YtpocoeghobdfiaaDoor.Sq Go.RowKit Go.Proofs.YtpocoeghobdfiaaDoorW.PrintWords Go.Proofs.YtpocoeghobdfiaaDoorW.PrintLast Go.Proofs.YtpocoeghobdfiaaDoorW.PrintMore
attribute [local go_sem] max2_int min2_int max_two min_two max_three min_three max_four min_four   -- for this text's walks alone
set_option linter.unusedVariables false
set_option linter.unusedSimpArgs false

/-! ### spec_l06Entries: function 75 -/
def spec_l06Entries.l0 : Nat → List (S67) → Int → Option (Bool)
  | 0, _, _ => none
  | k + 1, x0, x3 => if x3 < (x0.length : Int) then (if 0 ≤ x3 then ((spec_EntryRight.f k ((rd_T67 x0 x3).f0) ((rd_T67 x0 x3).f1)).bind fun t480 => (if t480 = true then (spec_l06Entries.l0 k x0 (wrap64 (x3 + 1))) else (some false))) else (none)) else (some true)
def spec_l06Entries.f (k : Nat) (l0 : List (S67)) : Option (Bool) := spec_l06Entries.l0 k l0 0
theorem spec_l06Entries.mono_l : ∀ k, (∀ y0 y1, LeO (spec_l06Entries.l0 k y0 y1) (spec_l06Entries.l0 (k + 1) y0 y1))
  | 0 => fun _ _ r h => by simp [spec_l06Entries.l0] at h
  | k + 1 => by
    have ih0 := spec_l06Entries.mono_l k
    · intro y0 y1
      unfold spec_l06Entries.l0
      repeat' first
      | (with_reducible exact ih0 _ _)
      | (with_reducible exact spec_EntryRight.mono _ _ _)
      | (with_reducible exact LeO.refl _)
      | (with_reducible exact LeO.none _)
      | (with_reducible refine LeO.ite ?_ ?_)
      | (with_reducible refine LeO.bind ?_ (fun _ => ?_))
      | exact ih0 _ _
      | exact spec_EntryRight.mono _ _ _
      | exact LeO.none _
      | refine LeO.ite ?_ ?_
      | refine LeO.bind ?_ (fun _ => ?_)
theorem spec_l06Entries.mono : ∀ a0 k, LeO (spec_l06Entries.f k a0) (spec_l06Entries.f (k + 1) a0) := by
  intro a0 k
  have ih0 := spec_l06Entries.mono_l k
  unfold spec_l06Entries.f
  repeat' first
      | (with_reducible exact ih0 _ _)
      | (with_reducible exact spec_EntryRight.mono _ _ _)
      | (with_reducible exact LeO.refl _)
      | (with_reducible exact LeO.none _)
      | (with_reducible refine LeO.ite ?_ ?_)
      | (with_reducible refine LeO.bind ?_ (fun _ => ?_))
      | exact ih0 _ _
      | exact spec_EntryRight.mono _ _ _
      | exact LeO.none _
      | refine LeO.ite ?_ ?_
      | refine LeO.bind ?_ (fun _ => ?_)
set_option maxHeartbeats 8000000 in
set_option maxRecDepth 100000 in
theorem spec_l06Entries.calls (k : Nat) (A0 : Option Addr) (c0 : Nat) (l0 : List (S67)) (r : Bool) (w : World) (hr0 : Kd.C k67 w A0 l0.length l0) (hc0 : l0.length ≤ c0) (h : spec_l06Entries.f k l0 = some r) :
    Calls Tryd.prog 75 #[.slice A0 l0.length c0] w fun e w' => e = .returned (.bool r) ∧ Below w.heap.size w w' := by
  have hu67 := Tryd.underlying67
  have HR0 := Aside0.mk hr0
  have HC0 := Aside0.mk hc0
  clear hr0 hc0
  have HB := Aside0.mk (Below.refl w.heap.size w)
  have H : (spec_l06Entries.l0 k l0 0) = some r := h
  clear h
  have H' := Aside0.mk H
  clear H
  go_enter Tryd.func75, Tryd.ntmps75
  go_wp2
  go_loopg [3] k (fun kq v3 w' => ∃ (x3_1 : Int), v3 = .int .i64 x3_1 ∧ Aside0 (spec_l06Entries.l0 kq l0 x3_1 = some r) ∧ Aside0 (kq ≤ k) ∧ Aside0 (Below w.heap.size w w'))
  case atStart => exact ⟨(0), (by first | rfl | (simp; done) | (simp [*]; done)), H', ⟨Nat.le_refl _⟩, ⟨By⟩⟩
  case round =>
    clear H'
    obtain ⟨x3_1, rfl, HA, HK1, HB⟩ := hrel
    cases gk with
    | zero => exact absurd HA.out (by simp [spec_l06Entries.l0])
    | succ k1 =>
      have H := HA.out
      clear HA
      simp only [spec_l06Entries.l0] at H
      by_cases c2 : x3_1 < (l0.length : Int)
      · rw [if_pos c2] at H
        have c2b0 : decide (x3_1 < (l0.length : Int)) = true := decide_eq_true c2
        clear c2
        by_cases c3 : 0 ≤ x3_1
        · rw [if_pos c3] at H
          have c3b0 : decide (0 ≤ x3_1) = true := decide_eq_true c3
          clear c3
          replace H := Option.bind_eq_some_iff.mp H
          obtain ⟨t480, A40, H⟩ := H
          replace H : (if t480 = true then (spec_l06Entries.l0 k1 l0 (wrap64 (x3_1 + 1))) else (some false)) = some r := H
          have A4 := Aside0.mk A40
          clear A40
          by_cases c5 : t480 = true
          · subst c5
            have H1 : (spec_l06Entries.l0 k1 l0 (wrap64 (x3_1 + 1))) = some r := by rw [if_pos rfl] at H; exact H
            clear H
            have H := H1
            clear H1
            have H' := Aside0.mk H
            clear H
            have p479 : 0 ≤ (x3_1 : Int) := of_decide_eq_true Da
            have q479 : x3_1 < (l0.length : Int) := of_decide_eq_true Da
            obtain ⟨ad479, A479_0, c479_0, A479_1, c479_1, e479, hx479_0, hx479_1, hl479_0, hi479_0, hl479_1, hi479_1⟩ := at_T67 HR0.out x3_1 p479 q479
            cases e479
            replace hx479_0 := bz HB.out hx479_0
            replace hx479_1 := bz HB.out hx479_1
            have HR479_0 := Aside0.mk hi479_0
            have HC479_0 := Aside0.mk hl479_0
            clear hi479_0 hl479_0
            have HR479_1 := Aside0.mk hi479_1
            have HC479_1 := Aside0.mk hl479_1
            clear hi479_1 hl479_1
            replace p479 := eq_true p479
            replace q479 := eq_true q479
            go_wp2_with (first | ((with_reducible refine gate_callee (f := 84) rfl ?_); refine goesL_ (some 14) rfl rfl Tryd.func84 (by kernel_rfl) rfl #[.agg #[.slice A479_0 ((rd_T67 l0 x3_1).f0).length c479_0, .slice A479_1 ((rd_T67 l0 x3_1).f1).length c479_1]] rfl Ag ?_; (with_reducible refine (spec_EntryRight.calls k1 _ _ ((rd_T67 l0 x3_1).f0) _ _ ((rd_T67 l0 x3_1).f1) true _ ?side1 ?side2 ?side3 ?side4 A4.out).mono ?_); (case side1 => repeat (first | exact (Kd.C_below HR479_0.out HB.out) | (with_reducible refine Kd.C_alloc ?_ _) | (with_reducible refine Kd.C_drewN ?_ _) | (with_reducible refine Kd.C_drew ?_))); (case side2 => exact HC479_0.out); (case side3 => repeat (first | exact (Kd.C_below HR479_1.out HB.out) | (with_reducible refine Kd.C_alloc ?_ _) | (with_reducible refine Kd.C_drewN ?_ _) | (with_reducible refine Kd.C_drew ?_))); (case side4 => exact HC479_1.out); rintro e w6 ⟨rfl, hb⟩; refine ⟨_, rfl, ?_⟩; have n0_ := Aside0.mk (below_step By hb); clear HB; have HB := n0_; clear n0_; (try clear hb); (try clear hb2); (try clear hk); (try clear hi)))
            go_roundg k1
            case measure => have := HK1.out; omega
            case rel => exact ⟨(wrap64 (x3_1 + 1)), (by first | rfl | (simp; done) | (simp [*]; done)), H', ⟨by have := HK1.out; omega⟩, ⟨By⟩⟩
          · replace c5 := Bool.eq_false_iff.mpr c5
            subst c5
            have H1 : (some false) = some r := by rw [if_neg (show ¬ (false = true) by decide)] at H; exact H
            clear H
            have H := H1
            clear H1
            obtain rfl := Option.some.inj H
            have p479 : 0 ≤ (x3_1 : Int) := of_decide_eq_true Da
            have q479 : x3_1 < (l0.length : Int) := of_decide_eq_true Da
            obtain ⟨ad479, A479_0, c479_0, A479_1, c479_1, e479, hx479_0, hx479_1, hl479_0, hi479_0, hl479_1, hi479_1⟩ := at_T67 HR0.out x3_1 p479 q479
            cases e479
            replace hx479_0 := bz HB.out hx479_0
            replace hx479_1 := bz HB.out hx479_1
            have HR479_0 := Aside0.mk hi479_0
            have HC479_0 := Aside0.mk hl479_0
            clear hi479_0 hl479_0
            have HR479_1 := Aside0.mk hi479_1
            have HC479_1 := Aside0.mk hl479_1
            clear hi479_1 hl479_1
            replace p479 := eq_true p479
            replace q479 := eq_true q479
            go_wp2_with (first | ((with_reducible refine gate_callee (f := 84) rfl ?_); refine goesL_ (some 14) rfl rfl Tryd.func84 (by kernel_rfl) rfl #[.agg #[.slice A479_0 ((rd_T67 l0 x3_1).f0).length c479_0, .slice A479_1 ((rd_T67 l0 x3_1).f1).length c479_1]] rfl Ag ?_; (with_reducible refine (spec_EntryRight.calls k1 _ _ ((rd_T67 l0 x3_1).f0) _ _ ((rd_T67 l0 x3_1).f1) false _ ?side1 ?side2 ?side3 ?side4 A4.out).mono ?_); (case side1 => repeat (first | exact (Kd.C_below HR479_0.out HB.out) | (with_reducible refine Kd.C_alloc ?_ _) | (with_reducible refine Kd.C_drewN ?_ _) | (with_reducible refine Kd.C_drew ?_))); (case side2 => exact HC479_0.out); (case side3 => repeat (first | exact (Kd.C_below HR479_1.out HB.out) | (with_reducible refine Kd.C_alloc ?_ _) | (with_reducible refine Kd.C_drewN ?_ _) | (with_reducible refine Kd.C_drew ?_))); (case side4 => exact HC479_1.out); rintro e w7 ⟨rfl, hb⟩; refine ⟨_, rfl, ?_⟩; have n0_ := Aside0.mk (below_step By hb); clear HB; have HB := n0_; clear n0_; (try clear hb); (try clear hb2); (try clear hk); (try clear hi)))
            go_ret
            exact ⟨Rf, By⟩
        · rw [if_neg c3] at H
          exact absurd H (by simp)
      · rw [if_neg c2] at H
        have c2b0 : decide (x3_1 < (l0.length : Int)) = false := decide_eq_false c2
        clear c2
        obtain rfl := Option.some.inj H
        go_wp2
        go_ret
        exact ⟨Rf, By⟩

end Go.Proofs.YtpocoeghobdfiaaDoor.PG

-- WRITTEN BY A PROGRAM OF THIS SESSION (wip/gen/gen.py), by way of the kit's print program. Lean checks it.
namespace Go.Proofs.YtpocoeghobdfiaaDoor.PG
open Go.Proofs.YtpocoeghobdfiaaDoor.Sq Go.RowKit Go.Proofs.YtpocoeghobdfiaaDoorW.PrintWords Go.Proofs.YtpocoeghobdfiaaDoorW.PrintLast Go.Proofs.YtpocoeghobdfiaaDoorW.PrintMore
attribute [local go_sem] max2_int min2_int max_two min_two max_three min_three max_four min_four   -- for this text's walks alone
set_option linter.unusedVariables false
set_option linter.unusedSimpArgs false

/-! ### spec_AnswerRight: function 30 -/
def spec_AnswerRight.f (k : Nat) (a0_0 : Int) (a0_1 : Int) (l0_2 : List (S67)) : Option (Bool) := (spec_l02Is.f a0_0 1 1000000).bind fun t482 => (if t482 = true then ((spec_l02Is.f a0_1 0 20).bind fun t483 => (if t483 = true then (if (l0_2.length : Int) ≤ 20 then ((spec_l06Entries.f k l0_2).bind fun t484 => (some t484)) else (some false)) else (some false))) else (some false))
theorem spec_AnswerRight.mono : ∀ a0 a1 a2 k, LeO (spec_AnswerRight.f k a0 a1 a2) (spec_AnswerRight.f (k + 1) a0 a1 a2) := by
  intro a0 a1 a2 k
  unfold spec_AnswerRight.f
  repeat' first
      | (with_reducible exact spec_l06Entries.mono _ _)
      | (with_reducible exact LeO.refl _)
      | (with_reducible exact LeO.none _)
      | (with_reducible refine LeO.ite ?_ ?_)
      | (with_reducible refine LeO.bind ?_ (fun _ => ?_))
      | exact spec_l06Entries.mono _ _
      | exact LeO.none _
      | refine LeO.ite ?_ ?_
      | refine LeO.bind ?_ (fun _ => ?_)
set_option maxHeartbeats 8000000 in
set_option maxRecDepth 100000 in
theorem spec_AnswerRight.calls (k : Nat) (a0_0 : Int) (a0_1 : Int) (A0_2 : Option Addr) (c0_2 : Nat) (l0_2 : List (S67)) (r : Bool) (w : World) (hr0_2 : Kd.C k67 w A0_2 l0_2.length l0_2) (hc0_2 : l0_2.length ≤ c0_2) (h : spec_AnswerRight.f k a0_0 a0_1 l0_2 = some r) :
    Calls Tryd.prog 30 #[.agg #[.int .i64 a0_0, .int .i64 a0_1, .slice A0_2 l0_2.length c0_2]] w fun e w' => e = .returned (.bool r) ∧ Below w.heap.size w w' := by
  have hu54 := Tryd.underlying54
  have HR0_2 := Aside0.mk hr0_2
  have HC0_2 := Aside0.mk hc0_2
  clear hr0_2 hc0_2
  have HB := Aside0.mk (Below.refl w.heap.size w)
  have H : ((spec_l02Is.f a0_0 1 1000000).bind fun t482 => (if t482 = true then ((spec_l02Is.f a0_1 0 20).bind fun t483 => (if t483 = true then (if (l0_2.length : Int) ≤ 20 then ((spec_l06Entries.f k l0_2).bind fun t484 => (some t484)) else (some false)) else (some false))) else (some false))) = some r := h
  clear h
  replace H := Option.bind_eq_some_iff.mp H
  obtain ⟨t482, A20, H⟩ := H
  replace H : (if t482 = true then ((spec_l02Is.f a0_1 0 20).bind fun t483 => (if t483 = true then (if (l0_2.length : Int) ≤ 20 then ((spec_l06Entries.f k l0_2).bind fun t484 => (some t484)) else (some false)) else (some false))) else (some false)) = some r := H
  have A2 := Aside0.mk A20
  clear A20
  by_cases c3 : t482 = true
  · subst c3
    have H1 : ((spec_l02Is.f a0_1 0 20).bind fun t483 => (if t483 = true then (if (l0_2.length : Int) ≤ 20 then ((spec_l06Entries.f k l0_2).bind fun t484 => (some t484)) else (some false)) else (some false))) = some r := by rw [if_pos rfl] at H; exact H
    clear H
    have H := H1
    clear H1
    replace H := Option.bind_eq_some_iff.mp H
    obtain ⟨t483, A40, H⟩ := H
    replace H : (if t483 = true then (if (l0_2.length : Int) ≤ 20 then ((spec_l06Entries.f k l0_2).bind fun t484 => (some t484)) else (some false)) else (some false)) = some r := H
    have A4 := Aside0.mk A40
    clear A40
    by_cases c5 : t483 = true
    · subst c5
      have H1 : (if (l0_2.length : Int) ≤ 20 then ((spec_l06Entries.f k l0_2).bind fun t484 => (some t484)) else (some false)) = some r := by rw [if_pos rfl] at H; exact H
      clear H
      have H := H1
      clear H1
      by_cases c6 : (l0_2.length : Int) ≤ 20
      · rw [if_pos c6] at H
        have c6b0 : decide ((l0_2.length : Int) ≤ 20) = true := decide_eq_true c6
        have c6b1 : decide (l0_2.length ≤ 20) = true := decide_eq_true (by omega)
        clear c6
        replace H := Option.bind_eq_some_iff.mp H
        obtain ⟨t484, A70, H⟩ := H
        replace H : (some t484) = some r := H
        have A7 := Aside0.mk A70
        clear A70
        obtain rfl := Option.some.inj H
        go_enter Tryd.func30, Tryd.ntmps30
        go_wp2_with (first | ((with_reducible refine gate_dst (N := 1) rfl ?_); (try (refine gate_guard (by rfl) ?_; dsimp only)); refine box_event ?hg (N := 1) ?hd (cs := #[.int .i64 a0_0, .int .i64 a0_1, .slice A0_2 l0_2.length c0_2]) (t := 54) ?hr ?_; (case hd => rfl); (case hg => rfl); (case hr => first | (go_simp; done) | (go_simp; rfl)); intro gb481 hg w8 hbox hb; have n0_ := Aside0.mk (below_step By hb); have n1_ := Aside0.mk (hbox); have n2_ := Aside0.mk ((by rw [hg]; exact (below_size By) : w.heap.size ≤ gb481)); have n3_ := Aside0.mk ((by rw [hg]; exact (below_size By) : w.heap.size ≤ gb481)); clear HB; have HB := n0_; have BK481 := n1_; have GW481 := n2_; have GE481 := n3_; clear n0_ n1_ n2_ n3_; clear hb hbox hg; have ⟨hcz9_0, hcz9_1, hcz9_2⟩ := cq3 BK481.out; have ⟨hfz9_0, hfz9_1, hfz9_2⟩ := fq3 BK481.out) | ((with_reducible refine gate_callee (f := 74) rfl ?_); refine goesL_ (some 5) rfl rfl Tryd.func74 (by kernel_rfl) rfl #[.int .i64 a0_0, .int .i64 1, .int .i64 1000000] rfl Ag ?_; (with_reducible refine (spec_l02Is.calls a0_0 1 1000000 true _ A2.out).mono ?_); rintro e w' ⟨rfl, ⟨nd, rfl⟩⟩; refine ⟨_, rfl, ?_⟩) | (go_at_call 74; (with_reducible refine (spec_l02Is.calls a0_1 0 20 true _ A4.out).mono ?_); rintro e w' ⟨rfl, ⟨nd, rfl⟩⟩) | (go_at_call 75; (with_reducible refine (spec_l06Entries.calls k _ _ l0_2 t484 _ ?side1 ?side2 A7.out).mono ?_); (case side1 => repeat (first | exact (Kd.C_below HR0_2.out By) | (with_reducible refine Kd.C_alloc ?_ _) | (with_reducible refine Kd.C_drewN ?_ _) | (with_reducible refine Kd.C_drew ?_))); (case side2 => exact HC0_2.out); rintro e w10 ⟨rfl, hb⟩; have n0_ := Aside0.mk (bb BK481.out hb); have n1_ := Aside0.mk (below_step By hb); clear BK481; clear HB; have BK481 := n0_; have HB := n1_; clear n0_ n1_; (try clear hb); (try clear hb2); (try clear hk); (try clear hi)))
        go_ret
        exact ⟨Rf, By⟩
      · rw [if_neg c6] at H
        have c6b0 : decide ((l0_2.length : Int) ≤ 20) = false := decide_eq_false c6
        have c6b1 : decide (l0_2.length ≤ 20) = false := decide_eq_false (by omega)
        clear c6
        obtain rfl := Option.some.inj H
        go_enter Tryd.func30, Tryd.ntmps30
        go_wp2_with (first | ((with_reducible refine gate_dst (N := 1) rfl ?_); (try (refine gate_guard (by rfl) ?_; dsimp only)); refine box_event ?hg (N := 1) ?hd (cs := #[.int .i64 a0_0, .int .i64 a0_1, .slice A0_2 l0_2.length c0_2]) (t := 54) ?hr ?_; (case hd => rfl); (case hg => rfl); (case hr => first | (go_simp; done) | (go_simp; rfl)); intro gb481 hg w11 hbox hb; have n0_ := Aside0.mk (below_step By hb); have n1_ := Aside0.mk (hbox); have n2_ := Aside0.mk ((by rw [hg]; exact (below_size By) : w.heap.size ≤ gb481)); have n3_ := Aside0.mk ((by rw [hg]; exact (below_size By) : w.heap.size ≤ gb481)); clear HB; have HB := n0_; have BK481 := n1_; have GW481 := n2_; have GE481 := n3_; clear n0_ n1_ n2_ n3_; clear hb hbox hg; have ⟨hcz12_0, hcz12_1, hcz12_2⟩ := cq3 BK481.out; have ⟨hfz12_0, hfz12_1, hfz12_2⟩ := fq3 BK481.out) | ((with_reducible refine gate_callee (f := 74) rfl ?_); refine goesL_ (some 5) rfl rfl Tryd.func74 (by kernel_rfl) rfl #[.int .i64 a0_0, .int .i64 1, .int .i64 1000000] rfl Ag ?_; (with_reducible refine (spec_l02Is.calls a0_0 1 1000000 true _ A2.out).mono ?_); rintro e w' ⟨rfl, ⟨nd, rfl⟩⟩; refine ⟨_, rfl, ?_⟩) | (go_at_call 74; (with_reducible refine (spec_l02Is.calls a0_1 0 20 true _ A4.out).mono ?_); rintro e w' ⟨rfl, ⟨nd, rfl⟩⟩))
        go_ret
        exact ⟨Rf, By⟩
    · replace c5 := Bool.eq_false_iff.mpr c5
      subst c5
      have H1 : (some false) = some r := by rw [if_neg (show ¬ (false = true) by decide)] at H; exact H
      clear H
      have H := H1
      clear H1
      obtain rfl := Option.some.inj H
      go_enter Tryd.func30, Tryd.ntmps30
      go_wp2_with (first | ((with_reducible refine gate_dst (N := 1) rfl ?_); (try (refine gate_guard (by rfl) ?_; dsimp only)); refine box_event ?hg (N := 1) ?hd (cs := #[.int .i64 a0_0, .int .i64 a0_1, .slice A0_2 l0_2.length c0_2]) (t := 54) ?hr ?_; (case hd => rfl); (case hg => rfl); (case hr => first | (go_simp; done) | (go_simp; rfl)); intro gb481 hg w13 hbox hb; have n0_ := Aside0.mk (below_step By hb); have n1_ := Aside0.mk (hbox); have n2_ := Aside0.mk ((by rw [hg]; exact (below_size By) : w.heap.size ≤ gb481)); have n3_ := Aside0.mk ((by rw [hg]; exact (below_size By) : w.heap.size ≤ gb481)); clear HB; have HB := n0_; have BK481 := n1_; have GW481 := n2_; have GE481 := n3_; clear n0_ n1_ n2_ n3_; clear hb hbox hg; have ⟨hcz14_0, hcz14_1, hcz14_2⟩ := cq3 BK481.out; have ⟨hfz14_0, hfz14_1, hfz14_2⟩ := fq3 BK481.out) | ((with_reducible refine gate_callee (f := 74) rfl ?_); refine goesL_ (some 5) rfl rfl Tryd.func74 (by kernel_rfl) rfl #[.int .i64 a0_0, .int .i64 1, .int .i64 1000000] rfl Ag ?_; (with_reducible refine (spec_l02Is.calls a0_0 1 1000000 true _ A2.out).mono ?_); rintro e w' ⟨rfl, ⟨nd, rfl⟩⟩; refine ⟨_, rfl, ?_⟩) | (go_at_call 74; (with_reducible refine (spec_l02Is.calls a0_1 0 20 false _ A4.out).mono ?_); rintro e w' ⟨rfl, ⟨nd, rfl⟩⟩))
      go_ret
      exact ⟨Rf, By⟩
  · replace c3 := Bool.eq_false_iff.mpr c3
    subst c3
    have H1 : (some false) = some r := by rw [if_neg (show ¬ (false = true) by decide)] at H; exact H
    clear H
    have H := H1
    clear H1
    obtain rfl := Option.some.inj H
    go_enter Tryd.func30, Tryd.ntmps30
    go_wp2_with (first | ((with_reducible refine gate_dst (N := 1) rfl ?_); (try (refine gate_guard (by rfl) ?_; dsimp only)); refine box_event ?hg (N := 1) ?hd (cs := #[.int .i64 a0_0, .int .i64 a0_1, .slice A0_2 l0_2.length c0_2]) (t := 54) ?hr ?_; (case hd => rfl); (case hg => rfl); (case hr => first | (go_simp; done) | (go_simp; rfl)); intro gb481 hg w15 hbox hb; have n0_ := Aside0.mk (below_step By hb); have n1_ := Aside0.mk (hbox); have n2_ := Aside0.mk ((by rw [hg]; exact (below_size By) : w.heap.size ≤ gb481)); have n3_ := Aside0.mk ((by rw [hg]; exact (below_size By) : w.heap.size ≤ gb481)); clear HB; have HB := n0_; have BK481 := n1_; have GW481 := n2_; have GE481 := n3_; clear n0_ n1_ n2_ n3_; clear hb hbox hg; have ⟨hcz16_0, hcz16_1, hcz16_2⟩ := cq3 BK481.out; have ⟨hfz16_0, hfz16_1, hfz16_2⟩ := fq3 BK481.out) | ((with_reducible refine gate_callee (f := 74) rfl ?_); refine goesL_ (some 5) rfl rfl Tryd.func74 (by kernel_rfl) rfl #[.int .i64 a0_0, .int .i64 1, .int .i64 1000000] rfl Ag ?_; (with_reducible refine (spec_l02Is.calls a0_0 1 1000000 false _ A2.out).mono ?_); rintro e w' ⟨rfl, ⟨nd, rfl⟩⟩; refine ⟨_, rfl, ?_⟩))
    go_ret
    exact ⟨Rf, By⟩

end Go.Proofs.YtpocoeghobdfiaaDoor.PG

-- WRITTEN BY A PROGRAM OF THIS SESSION (wip/gen/gen.py), by way of the kit's print program. Lean checks it.
namespace Go.Proofs.YtpocoeghobdfiaaDoor.PG
open Go.Proofs.YtpocoeghobdfiaaDoor.Sq Go.RowKit Go.Proofs.YtpocoeghobdfiaaDoorW.PrintWords Go.Proofs.YtpocoeghobdfiaaDoorW.PrintLast Go.Proofs.YtpocoeghobdfiaaDoorW.PrintMore
attribute [local go_sem] max2_int min2_int max_two min_two max_three min_three max_four min_four   -- for this text's walks alone
set_option linter.unusedVariables false
set_option linter.unusedSimpArgs false

/-! ### laws_toRdn: function 126 -/
def laws_toRdn.f (a0_0 : ByteArray) (a0_1 : ByteArray) : Option (ByteArray × ByteArray) := some (a0_0, a0_1)
set_option maxHeartbeats 8000000 in
set_option maxRecDepth 100000 in
theorem laws_toRdn.calls (a0_0 : ByteArray) (a0_1 : ByteArray) (r1 : ByteArray) (r2 : ByteArray) (w : World) (h : laws_toRdn.f a0_0 a0_1 = some (r1, r2)) :
    Calls Tryd.prog 126 #[.agg #[.string a0_0, .string a0_1]] w fun e w' => e = .returned (.agg #[.string r1, .string r2]) ∧ Below w.heap.size w w' := by
  have hu148 := Tryd.underlying148
  have hu153 := Tryd.underlying153
  have HB := Aside0.mk (Below.refl w.heap.size w)
  have H : (some (a0_0, a0_1)) = some (r1, r2) := h
  clear h
  simp only [Option.some.injEq, Prod.mk.injEq] at H
  obtain ⟨rfl, rfl⟩ := H
  go_enter Tryd.func126, Tryd.ntmps126
  go_wp2_with (first | ((with_reducible refine gate_dst (N := 1) rfl ?_); refine box_event ?hg (N := 1) ?hd (cs := #[.string a0_0, .string a0_1]) (t := 148) ?hr ?_; (case hd => rfl); (case hg => rfl); (case hr => first | (go_simp; done) | (go_simp; rfl)); intro gb485 hg w2 hbox hb; have n0_ := Aside0.mk (below_step By hb); have n1_ := Aside0.mk (hbox); have n2_ := Aside0.mk ((by rw [hg]; exact (below_size By) : w.heap.size ≤ gb485)); have n3_ := Aside0.mk ((by rw [hg]; exact (below_size By) : w.heap.size ≤ gb485)); clear HB; have HB := n0_; have BK485 := n1_; have GW485 := n2_; have GE485 := n3_; clear n0_ n1_ n2_ n3_; clear hb hbox hg) | ((with_reducible refine gate_dst (N := 2) rfl ?_); refine box_event ?hg (N := 2) ?hd (cs := #[.string (⟨#[]⟩ : ByteArray), .string (⟨#[]⟩ : ByteArray)]) (t := 153) ?hr ?_; (case hd => rfl); (case hg => rfl); (case hr => first | (go_simp; done) | (go_simp; rfl)); intro gb486 hg w3 hbox hb; have n0_ := Aside0.mk (bb BK485.out hb); have n1_ := Aside0.mk (below_step By hb); have n2_ := Aside0.mk (hbox); have n3_ := Aside0.mk ((by rw [hg]; exact (below_size By) : w.heap.size ≤ gb486)); have n4_ := Aside0.mk ((by rw [hg]; exact (below_size By) : w.heap.size ≤ gb486)); have n5_ := Aside0.mk ((by rw [hg]; exact Nat.ne_of_lt (bl BK485.out) : gb485 ≠ gb486)); have n6_ := Aside0.mk ((by rw [hg]; exact Nat.ne_of_gt (bl BK485.out) : gb486 ≠ gb485)); clear BK485; clear HB; have BK485 := n0_; have HB := n1_; have BK486 := n2_; have GW486 := n3_; have GE486 := n4_; have NB485_486 := n5_; have NB486_485 := n6_; clear n0_ n1_ n2_ n3_ n4_ n5_ n6_; clear hb hbox hg) | ((with_reducible refine gate_dst (N := 3) rfl ?_); refine box_event ?hg (N := 3) ?hd (cs := #[.string (⟨#[]⟩ : ByteArray), .string (⟨#[]⟩ : ByteArray)]) (t := 153) ?hr ?_; (case hd => rfl); (case hg => rfl); (case hr => first | (go_simp; done) | (go_simp; rfl)); intro gb487 hg w4 hbox hb; have n0_ := Aside0.mk (bb BK485.out hb); have n1_ := Aside0.mk (bb BK486.out hb); have n2_ := Aside0.mk (below_step By hb); have n3_ := Aside0.mk (hbox); have n4_ := Aside0.mk ((by rw [hg]; exact (below_size By) : w.heap.size ≤ gb487)); have n5_ := Aside0.mk ((by rw [hg]; exact (below_size By) : w.heap.size ≤ gb487)); have n6_ := Aside0.mk ((by rw [hg]; exact Nat.ne_of_lt (bl BK485.out) : gb485 ≠ gb487)); have n7_ := Aside0.mk ((by rw [hg]; exact Nat.ne_of_gt (bl BK485.out) : gb487 ≠ gb485)); have n8_ := Aside0.mk ((by rw [hg]; exact Nat.ne_of_lt (bl BK486.out) : gb486 ≠ gb487)); have n9_ := Aside0.mk ((by rw [hg]; exact Nat.ne_of_gt (bl BK486.out) : gb487 ≠ gb486)); clear BK485; clear BK486; clear HB; have BK485 := n0_; have BK486 := n1_; have HB := n2_; have BK487 := n3_; have GW487 := n4_; have GE487 := n5_; have NB485_487 := n6_; have NB487_485 := n7_; have NB486_487 := n8_; have NB487_486 := n9_; clear n0_ n1_ n2_ n3_ n4_ n5_ n6_ n7_ n8_ n9_; clear hb hbox hg; have hnb5 := NB485_486.out; have hnc5 := NB486_485.out; have hnb6 := NB485_487.out; have hnc6 := NB487_485.out; have ⟨hcz7_0, hcz7_1⟩ := cq2 BK485.out; have ⟨hfz7_0, hfz7_1⟩ := fq2 BK485.out; have hnb8 := NB487_486.out; have hnc8 := NB486_487.out; have ⟨hcz9_0, hcz9_1⟩ := cq2 BK487.out; have ⟨hfz9_0, hfz9_1⟩ := fq2 BK487.out; have ⟨hcz10_0, hcz10_1⟩ := cq2 BK486.out; have ⟨hfz10_0, hfz10_1⟩ := fq2 BK486.out))
  refine bodyPost_ret (results_cell_row rfl _ _ gb486 153 #[.string a0_0, .string a0_1] (0, 0) _ rfl (by (with_reducible repeat (first | refine blk_drewN ?_ _ | refine blk_drew ?_ | refine blk_alloc ?_ _)); refine blk_put (cs := #[.string a0_0, .string (⟨#[]⟩ : ByteArray)]) ?_ 1 _ rfl; (with_reducible repeat (first | refine blk_drewN ?_ _ | refine blk_drew ?_ | refine blk_alloc ?_ _)); refine blk_put (cs := #[.string (⟨#[]⟩ : ByteArray), .string (⟨#[]⟩ : ByteArray)]) ?_ 0 _ rfl; (with_reducible repeat (first | refine blk_drewN ?_ _ | refine blk_drew ?_ | refine blk_alloc ?_ _)); refine blk_far ?_ NB486_487.out _; (with_reducible repeat (first | refine blk_drewN ?_ _ | refine blk_drew ?_ | refine blk_alloc ?_ _)); refine blk_far ?_ NB486_487.out _; (with_reducible repeat (first | refine blk_drewN ?_ _ | refine blk_drew ?_ | refine blk_alloc ?_ _)); exact BK486.out) Tryd.underlying153 rfl (by kernel_rfl)) rfl ?_
  exact ⟨Rf, By⟩

end Go.Proofs.YtpocoeghobdfiaaDoor.PG

-- WRITTEN BY A PROGRAM OF THIS SESSION (wip/gen/gen.py), by way of the kit's print program. Lean checks it.
namespace Go.Proofs.YtpocoeghobdfiaaDoor.PG
open Go.Proofs.YtpocoeghobdfiaaDoor.Sq Go.RowKit Go.Proofs.YtpocoeghobdfiaaDoorW.PrintWords Go.Proofs.YtpocoeghobdfiaaDoorW.PrintLast Go.Proofs.YtpocoeghobdfiaaDoorW.PrintMore
attribute [local go_sem] max2_int min2_int max_two min_two max_three min_three max_four min_four   -- for this text's walks alone
set_option linter.unusedVariables false
set_option linter.unusedSimpArgs false

/-! ### laws_toRdnS: function 86 -/
def laws_toRdnS.l0 : Nat → List (S148) → List (S153) → Int → Option ((List (S153)))
  | 0, _, _, _ => none
  | k + 1, x0, x3, x4 => if x4 < (x0.length : Int) then (if 0 ≤ x4 then ((laws_toRdn.f ((rd_T148 x0 x4).f0) ((rd_T148 x0 x4).f1)).bind fun bt492 => (if x4 < (x3.length : Int) then (laws_toRdnS.l0 k x0 (x3.set (x4 : Int).toNat (⟨bt492.1, bt492.2⟩ : S153)) (wrap64 (x4 + 1))) else (none))) else (none)) else (some x3)
def laws_toRdnS.f (k : Nat) (l0 : List (S148)) : Option ((List (S153))) := if 0 ≤ (l0.length : Int) then (if ((l0.length : Int) : Int).toNat ≤ 8796093022208 then (laws_toRdnS.l0 k l0 (List.replicate ((l0.length : Int) : Int).toNat z153) 0) else (none)) else (none)
theorem laws_toRdnS.mono_l : ∀ k, (∀ y0 y1 y2, LeO (laws_toRdnS.l0 k y0 y1 y2) (laws_toRdnS.l0 (k + 1) y0 y1 y2))
  | 0 => fun _ _ _ r h => by simp [laws_toRdnS.l0] at h
  | k + 1 => by
    have ih0 := laws_toRdnS.mono_l k
    · intro y0 y1 y2
      unfold laws_toRdnS.l0
      repeat' first
      | (with_reducible exact ih0 _ _ _)
      | (with_reducible exact LeO.refl _)
      | (with_reducible exact LeO.none _)
      | (with_reducible refine LeO.ite ?_ ?_)
      | (with_reducible refine LeO.bind ?_ (fun _ => ?_))
      | exact ih0 _ _ _
      | exact LeO.none _
      | refine LeO.ite ?_ ?_
      | refine LeO.bind ?_ (fun _ => ?_)
theorem laws_toRdnS.mono : ∀ a0 k, LeO (laws_toRdnS.f k a0) (laws_toRdnS.f (k + 1) a0) := by
  intro a0 k
  have ih0 := laws_toRdnS.mono_l k
  unfold laws_toRdnS.f
  repeat' first
      | (with_reducible exact ih0 _ _ _)
      | (with_reducible exact LeO.refl _)
      | (with_reducible exact LeO.none _)
      | (with_reducible refine LeO.ite ?_ ?_)
      | (with_reducible refine LeO.bind ?_ (fun _ => ?_))
      | exact ih0 _ _ _
      | exact LeO.none _
      | refine LeO.ite ?_ ?_
      | refine LeO.bind ?_ (fun _ => ?_)
set_option maxHeartbeats 8000000 in
set_option maxRecDepth 100000 in
theorem laws_toRdnS.calls (k : Nat) (A0 : Option Addr) (c0 : Nat) (l0 : List (S148)) (r : List (S153)) (w : World) (hr0 : Kd.C k148 w A0 l0.length l0) (hc0 : l0.length ≤ c0) (h : laws_toRdnS.f k l0 = some r) :
    Calls Tryd.prog 86 #[.slice A0 l0.length c0] w fun e w' => ∃ v0_ : Value, e = .returned (v0_) ∧ Kd.R k153 153 w' w.heap.size (fun _ => True) v0_ r ∧ Below w.heap.size w w' := by
  have hu148 := Tryd.underlying148
  have hu153 := Tryd.underlying153
  have HR0 := Aside0.mk hr0
  have HC0 := Aside0.mk hc0
  clear hr0 hc0
  have HB := Aside0.mk (Below.refl w.heap.size w)
  have H : (if 0 ≤ (l0.length : Int) then (if ((l0.length : Int) : Int).toNat ≤ 8796093022208 then (laws_toRdnS.l0 k l0 (List.replicate ((l0.length : Int) : Int).toNat z153) 0) else (none)) else (none)) = some r := h
  clear h
  by_cases c2 : 0 ≤ (l0.length : Int)
  · rw [if_pos c2] at H
    have c2b0 := eq_true c2
    have c2b1 : decide (0 ≤ (l0.length : Int)) = true := decide_eq_true c2
    clear c2
    by_cases c3 : ((l0.length : Int) : Int).toNat ≤ 8796093022208
    · rw [if_pos c3] at H
      have c3b0 := eq_true c3
      have c3b1 : decide (((l0.length : Int) : Int).toNat ≤ 8796093022208) = true := decide_eq_true c3
      clear c3
      obtain ⟨y488, hy488⟩ : ∃ y_ : List (S153), y_ = (List.replicate ((l0.length : Int) : Int).toNat z153) := ⟨_, rfl⟩
      replace H : (laws_toRdnS.l0 k l0 y488 0) = some r := by first | (rw [hy488]; with_reducible exact H) | (have H2_ := (Option.bind_some _ _).symm.trans H; rw [hy488]; with_reducible exact H2_) | (have H2_ := (Option.bind_some _ _).symm.trans H; with_reducible exact H2_) | with_reducible exact H | (rw [hy488]; exact H) | exact H
      have Ny488 := Aside0.mk hy488
      clear hy488
      have H' := Aside0.mk H
      clear H
      go_enter Tryd.func86, Tryd.ntmps86
      go_wp2_with (first | ((with_reducible refine gate_dst (N := 7) rfl ?_); refine Kd.R_make k153 _ 153 rfl (N := 7) rfl 64 _ _ rfl (l0.length : Int) rfl rfl Tryd.underlying64 (.agg #[(.string ⟨#[]⟩), (.string ⟨#[]⟩)]) 32 info153 rfl (by decide) (by omega) z153 (ok := fun _ => True) (okp := fun _ => True) (k153_mkM _ _ _ z153 ) (fun _ hk => hk) trivial (of_decide_eq_true Da) (Nat.le_trans (Nat.mul_le_mul_right _ (of_decide_eq_true Da : (l0.length : Int).toNat ≤ 8796093022208)) (by omega)) (Below.refl _ _) (Nat.le_refl _) ?_; intro v489 w4 ho5 hb hg_ hnew_; clear hg_ hnew_; (first | rw [← Ny488.out] at ho5 | (simp only [Int.reduceToNat] at ho5; rw [← Ny488.out] at ho5)); have n0_ := Aside0.mk (Kd.R_lower ho5 (below_size By)); have n1_ := Aside0.mk (below_step By hb); clear HB; have HO490 := n0_; have HB := n1_; clear n0_ n1_; clear hb ho5))
      go_loopg [4] k (fun kq v4 w' => ∃ (x3_1 : List (S153)) (x4_1 : Int), v4 = .int .i64 x4_1 ∧ Aside0 (laws_toRdnS.l0 kq l0 x3_1 x4_1 = some r) ∧ Aside0 (kq ≤ k) ∧ Aside0 (Kd.R k153 153 w' w.heap.size (fun _ => True) v489 x3_1) ∧ Aside0 (Below w.heap.size w w'))
      case atStart => exact ⟨(y488), (0), (by first | rfl | (simp; done) | (simp [*]; done)), H', ⟨Nat.le_refl _⟩, ⟨by (with_reducible repeat (first | apply Kd.R_alloc | apply Kd.R_drewN | apply Kd.R_drew)); exact HO490.out⟩, ⟨By⟩⟩
      case round =>
        clear H'
        try clear c2
        try clear c2b0
        try clear c2b1
        try clear p2
        try clear c3
        try clear c3b0
        try clear c3b1
        obtain ⟨x3_1, x4_1, rfl, HA, HK1, HO_3, HB⟩ := hrel
        cases gk with
        | zero => exact absurd HA.out (by simp [laws_toRdnS.l0])
        | succ k1 =>
          have H := HA.out
          clear HA
          simp only [laws_toRdnS.l0] at H
          by_cases c6 : x4_1 < (l0.length : Int)
          · rw [if_pos c6] at H
            have c6b0 : decide (x4_1 < (l0.length : Int)) = true := decide_eq_true c6
            clear c6
            by_cases c7 : 0 ≤ x4_1
            · rw [if_pos c7] at H
              have c7b0 : decide (0 ≤ x4_1) = true := decide_eq_true c7
              clear c7
              replace H := Option.bind_eq_some_iff.mp H
              obtain ⟨⟨t492, t493⟩, A80, H⟩ := H
              replace H : (if x4_1 < (x3_1.length : Int) then (laws_toRdnS.l0 k1 l0 (x3_1.set (x4_1 : Int).toNat (⟨t492, t493⟩ : S153)) (wrap64 (x4_1 + 1))) else (none)) = some r := H
              have A8 := Aside0.mk A80
              clear A80
              by_cases c9 : x4_1 < (x3_1.length : Int)
              · rw [if_pos c9] at H
                have c9b0 : decide (x4_1 < (x3_1.length : Int)) = true := decide_eq_true c9
                clear c9
                obtain ⟨y494, hy494⟩ : ∃ y_ : List (S153), y_ = (x3_1.set (x4_1 : Int).toNat (⟨t492, t493⟩ : S153)) := ⟨_, rfl⟩
                replace H : (laws_toRdnS.l0 k1 l0 y494 (wrap64 (x4_1 + 1))) = some r := by first | (rw [hy494]; with_reducible exact H) | (have H2_ := (Option.bind_some _ _).symm.trans H; rw [hy494]; with_reducible exact H2_) | (have H2_ := (Option.bind_some _ _).symm.trans H; with_reducible exact H2_) | with_reducible exact H | (rw [hy494]; exact H) | exact H
                have Ny494 := Aside0.mk hy494
                clear hy494
                have H' := Aside0.mk H
                clear H
                have p491 : 0 ≤ (x4_1 : Int) := of_decide_eq_true Da
                have q491 : x4_1 < (l0.length : Int) := of_decide_eq_true Da
                obtain ⟨ad491, e491, hx491_0, hx491_1⟩ := at_T148 HR0.out x4_1 p491 q491
                cases e491
                replace hx491_0 := bz HB.out hx491_0
                replace hx491_1 := bz HB.out hx491_1
                replace p491 := eq_true p491
                replace q491 := eq_true q491
                go_wp2_with (first | ((with_reducible refine gate_callee (f := 126) rfl ?_); refine goesL_ (some 20) rfl rfl Tryd.func126 (by kernel_rfl) rfl #[.agg #[.string ((rd_T148 l0 x4_1).f0), .string ((rd_T148 l0 x4_1).f1)]] rfl Ag ?_; (with_reducible refine (laws_toRdn.calls ((rd_T148 l0 x4_1).f0) ((rd_T148 l0 x4_1).f1) t492 t493 _ A8.out).mono ?_); rintro e w11 ⟨rfl, hb⟩; refine ⟨_, rfl, ?_⟩; have n0_ := Aside0.mk (Kd.R_below (by (with_reducible repeat (first | apply Kd.R_alloc | apply Kd.R_drewN | apply Kd.R_drew)); exact HO_3.out) hb); have n1_ := Aside0.mk (below_step By hb); clear HO_3; clear HB; have HO_3 := n0_; have HB := n1_; clear n0_ n1_; (try clear hb); (try clear hb2); (try clear hk); (try clear hi); have p10 : 0 ≤ (x4_1 : Int) := of_decide_eq_true Da; have q10 : (x4_1 : Int) < ((x3_1.length : Int) : Int) := of_decide_eq_true Da; obtain ⟨go10, co10, eo10, gb10, gl10, cl10, HG10⟩ := Kd.R_form HO_3.out (by omega); (first | cases eo10 | (injection eo10 with ea_ en_ ec_; (first | subst ea_ | (injection ea_ with ea_; subst ea_)); subst ec_; clear en_)); have GB10 := Aside0.mk gb10; have GG10 := Aside0.mk HG10; clear gb10 gl10 HG10; obtain ⟨ce10, hcl10, hM10, hcc10, hfr10⟩ := Kd.R_elem HO_3.out z153 (x4_1 : Int) p10 q10; obtain rfl := k153_openM hM10; have hx10_0 : w11.cell? ⟨go10, (x4_1 : Int).toNat * 2, none⟩ = some (.string ((rd_T153 x3_1 x4_1).f0)) := hcc10 0 _ rfl; have hx10_1 : w11.cell? ⟨go10, (x4_1 : Int).toNat * 2 + 1, none⟩ = some (.string ((rd_T153 x3_1 x4_1).f1)) := hcc10 1 _ rfl; have hf10_0 : w11.frozen? ⟨go10, (x4_1 : Int).toNat * 2, none⟩ = false := hfr10 0; have hf10_1 : w11.frozen? ⟨go10, (x4_1 : Int).toNat * 2 + 1, none⟩ = false := hfr10 1; clear hcl10 hcc10 hfr10 hM10; replace p10 := eq_true p10; replace q10 := eq_true q10; have HX12 := Aside0.mk (show Kd.R k153 153 w11 w.heap.size (fun _ => True) (.slice (some ⟨go10, 0, none⟩) x3_1.length co10) x3_1 from (by (with_reducible repeat (first | apply Kd.R_alloc | apply Kd.R_drewN | apply Kd.R_drew)); exact HO_3.out)); obtain ⟨ce12, hcl12, hM12, hcc12, hfr12⟩ := Kd.R_elem HX12.out z153 (x4_1 : Int) (of_decide_eq_true Da) (by have h_ : (x4_1 : Int) < ((x3_1.length : Int) : Int) := of_decide_eq_true Da; first | exact h_ | (have e_ := (Kd.R_reads' HO_3.out).1; omega) | simpa using h_); obtain rfl := k153_openM hM12; have HP12 := Kd.R_seg HX12.out (x4_1 : Int) (of_decide_eq_true Da) (by have h_ : (x4_1 : Int) < ((x3_1.length : Int) : Int) := of_decide_eq_true Da; first | exact h_ | (have e_ := (Kd.R_reads' HO_3.out).1; omega) | simpa using h_) (seg := [.string t492, .string t493]) (j := 0) hcl12 hcc12 (show 2 ≤ 2 from by decide) (x' := (⟨t492, t493⟩ : S153)) (k153_mkM _ _ _ (⟨t492, t493⟩ : S153) ) (fun _ hk => hk); have hx12_0 := hcc12 0 _ rfl; (try simp only [show (k153).sz = 2 from rfl, Nat.mul_one, Nat.add_zero] at hx12_0); have hf12_0 := hfr12 0; (try simp only [show (k153).sz = 2 from rfl, Nat.mul_one, Nat.add_zero] at hf12_0); have hx12_1 := hcc12 1 _ rfl; (try simp only [show (k153).sz = 2 from rfl, Nat.mul_one, Nat.add_zero] at hx12_1); have hf12_1 := hfr12 1; (try simp only [show (k153).sz = 2 from rfl, Nat.mul_one, Nat.add_zero] at hf12_1); clear hcl12 hcc12 hfr12 hM12) | ((with_reducible refine gate_store (t := 153) (p := 21) rfl ?_); refine store_event (t := 153) (p := 21) (v := ?vo_w13) (w1 := ((w11.setCell ⟨go10, (x4_1 : Int).toNat * 2, none⟩ (.string t492)).setCell ⟨go10, (x4_1 : Int).toNat * 2 + 1, none⟩ (.string t493))) ?hg ?ho ?hn ?hr ?_; (case ho => rfl); (case hg => rfl); (case hn => rfl); (case hr => first | (go_simp; done) | (go_simp; rfl)); intro w13 hw; have hg : w11.grownBy w13 (some go10) := (by rw [hw]; exact HP12.2); have hp_ : Kd.R k153 153 w13 w.heap.size (fun _ => True) (.slice (some ⟨go10, 0, none⟩) x3_1.length co10) y494 := (by rw [hw, Ny494.out]; exact HP12.1); clear HP12; have n0_ := Aside0.mk (hp_); have n1_ := Aside0.mk ((by rw [hw]; exact below_set (below_set (HB.out) GB10.out) GB10.out : Below w.heap.size w w13)); clear HO_3; clear HB; have HO_3 := n0_; have HB := n1_; clear n0_ n1_; clear hg hw hp_))
                go_roundg k1
                case measure => have := HK1.out; omega
                case rel => exact ⟨(y494), (wrap64 (x4_1 + 1)), (by first | rfl | (simp; done) | (simp [*]; done)), H', ⟨by have := HK1.out; omega⟩, ⟨by (with_reducible repeat (first | apply Kd.R_alloc | apply Kd.R_drewN | apply Kd.R_drew)); exact HO_3.out⟩, ⟨By⟩⟩
              · rw [if_neg c9] at H
                exact absurd H (by simp)
            · rw [if_neg c7] at H
              exact absurd H (by simp)
          · rw [if_neg c6] at H
            have c6b0 : decide (x4_1 < (l0.length : Int)) = false := decide_eq_false c6
            clear c6
            obtain rfl := Option.some.inj H
            go_wp2
            go_ret
            exact ⟨_, Rf, by (with_reducible repeat (first | apply Kd.R_alloc | apply Kd.R_drewN | apply Kd.R_drew)); exact HO_3.out, By⟩
    · rw [if_neg c3] at H
      exact absurd H (by simp)
  · rw [if_neg c2] at H
    exact absurd H (by simp)

end Go.Proofs.YtpocoeghobdfiaaDoor.PG

-- WRITTEN BY A PROGRAM OF THIS SESSION (wip/gen/gen.py), by way of the kit's print program. Lean checks it.
namespace Go.Proofs.YtpocoeghobdfiaaDoor.PG
open Go.Proofs.YtpocoeghobdfiaaDoor.Sq Go.RowKit Go.Proofs.YtpocoeghobdfiaaDoorW.PrintWords Go.Proofs.YtpocoeghobdfiaaDoorW.PrintLast Go.Proofs.YtpocoeghobdfiaaDoorW.PrintMore
attribute [local go_sem] max2_int min2_int max_two min_two max_three min_three max_four min_four   -- for this text's walks alone
set_option linter.unusedVariables false
set_option linter.unusedSimpArgs false

/-! ### laws_toStringS: function 156 -/
def laws_toStringS.l0 : Nat → List ByteArray → List ByteArray → Int → Option (List ByteArray)
  | 0, _, _, _ => none
  | k + 1, x0, x3, x4 => if x4 < (x0.length : Int) then (if 0 ≤ x4 then (if x4 < (x3.length : Int) then (laws_toStringS.l0 k x0 (x3.set (x4 : Int).toNat (rdOf ByteArray.empty x0 x4)) (wrap64 (x4 + 1))) else (none)) else (none)) else (some x3)
def laws_toStringS.f (k : Nat) (l0 : List ByteArray) : Option (List ByteArray) := if 0 ≤ (l0.length : Int) then (if ((l0.length : Int) : Int).toNat ≤ 17592186044416 then (laws_toStringS.l0 k l0 (List.replicate ((l0.length : Int) : Int).toNat (⟨#[]⟩ : ByteArray)) 0) else (none)) else (none)
theorem laws_toStringS.mono_l : ∀ k, (∀ y0 y1 y2, LeO (laws_toStringS.l0 k y0 y1 y2) (laws_toStringS.l0 (k + 1) y0 y1 y2))
  | 0 => fun _ _ _ r h => by simp [laws_toStringS.l0] at h
  | k + 1 => by
    have ih0 := laws_toStringS.mono_l k
    · intro y0 y1 y2
      unfold laws_toStringS.l0
      repeat' first
      | (with_reducible exact ih0 _ _ _)
      | (with_reducible exact LeO.refl _)
      | (with_reducible exact LeO.none _)
      | (with_reducible refine LeO.ite ?_ ?_)
      | (with_reducible refine LeO.bind ?_ (fun _ => ?_))
      | exact ih0 _ _ _
      | exact LeO.none _
      | refine LeO.ite ?_ ?_
      | refine LeO.bind ?_ (fun _ => ?_)
theorem laws_toStringS.mono : ∀ a0 k, LeO (laws_toStringS.f k a0) (laws_toStringS.f (k + 1) a0) := by
  intro a0 k
  have ih0 := laws_toStringS.mono_l k
  unfold laws_toStringS.f
  repeat' first
      | (with_reducible exact ih0 _ _ _)
      | (with_reducible exact LeO.refl _)
      | (with_reducible exact LeO.none _)
      | (with_reducible refine LeO.ite ?_ ?_)
      | (with_reducible refine LeO.bind ?_ (fun _ => ?_))
      | exact ih0 _ _ _
      | exact LeO.none _
      | refine LeO.ite ?_ ?_
      | refine LeO.bind ?_ (fun _ => ?_)
set_option maxHeartbeats 8000000 in
set_option maxRecDepth 100000 in
theorem laws_toStringS.calls (k : Nat) (A0 : Option Addr) (c0 : Nat) (l0 : List ByteArray) (r : List ByteArray) (w : World) (hr0 : Kd.C Kd.string w A0 l0.length l0) (hc0 : l0.length ≤ c0) (h : laws_toStringS.f k l0 = some r) :
    Calls Tryd.prog 156 #[.slice A0 l0.length c0] w fun e w' => ∃ v0_ : Value, e = .returned (v0_) ∧ Kd.R Kd.string 9 w' w.heap.size (fun _ => True) v0_ r ∧ Below w.heap.size w w' := by
  have HR0 := Aside0.mk hr0
  have HC0 := Aside0.mk hc0
  clear hr0 hc0
  have HB := Aside0.mk (Below.refl w.heap.size w)
  have H : (if 0 ≤ (l0.length : Int) then (if ((l0.length : Int) : Int).toNat ≤ 17592186044416 then (laws_toStringS.l0 k l0 (List.replicate ((l0.length : Int) : Int).toNat (⟨#[]⟩ : ByteArray)) 0) else (none)) else (none)) = some r := h
  clear h
  by_cases c2 : 0 ≤ (l0.length : Int)
  · rw [if_pos c2] at H
    have c2b0 := eq_true c2
    have c2b1 : decide (0 ≤ (l0.length : Int)) = true := decide_eq_true c2
    clear c2
    by_cases c3 : ((l0.length : Int) : Int).toNat ≤ 17592186044416
    · rw [if_pos c3] at H
      have c3b0 := eq_true c3
      have c3b1 : decide (((l0.length : Int) : Int).toNat ≤ 17592186044416) = true := decide_eq_true c3
      clear c3
      obtain ⟨y495, hy495⟩ : ∃ y_ : List ByteArray, y_ = (List.replicate ((l0.length : Int) : Int).toNat (⟨#[]⟩ : ByteArray)) := ⟨_, rfl⟩
      replace H : (laws_toStringS.l0 k l0 y495 0) = some r := by first | (rw [hy495]; with_reducible exact H) | (have H2_ := (Option.bind_some _ _).symm.trans H; rw [hy495]; with_reducible exact H2_) | (have H2_ := (Option.bind_some _ _).symm.trans H; with_reducible exact H2_) | with_reducible exact H | (rw [hy495]; exact H) | exact H
      have Ny495 := Aside0.mk hy495
      clear hy495
      have H' := Aside0.mk H
      clear H
      go_enter Tryd.func156, Tryd.ntmps156
      go_wp2_with (first | ((with_reducible refine gate_dst (N := 7) rfl ?_); refine Kd.R_make Kd.string _ 9 rfl (N := 7) rfl 76 _ _ rfl (l0.length : Int) rfl rfl Tryd.underlying76 (.string ⟨#[]⟩) 16 info9 rfl (by decide) (by omega) (⟨#[]⟩ : ByteArray) (ok := fun _ => True) (okp := fun _ => True) rfl (fun _ hk => hk) trivial (of_decide_eq_true Da) (Nat.le_trans (Nat.mul_le_mul_right _ (of_decide_eq_true Da : (l0.length : Int).toNat ≤ 17592186044416)) (by omega)) (Below.refl _ _) (Nat.le_refl _) ?_; intro v496 w4 ho5 hb hg_ hnew_; clear hg_ hnew_; (first | rw [← Ny495.out] at ho5 | (simp only [Int.reduceToNat] at ho5; rw [← Ny495.out] at ho5)); have n0_ := Aside0.mk (Kd.R_lower ho5 (below_size By)); have n1_ := Aside0.mk (below_step By hb); clear HB; have HO497 := n0_; have HB := n1_; clear n0_ n1_; clear hb ho5))
      go_loopg [4] k (fun kq v4 w' => ∃ (x3_1 : List ByteArray) (x4_1 : Int), v4 = .int .i64 x4_1 ∧ Aside0 (laws_toStringS.l0 kq l0 x3_1 x4_1 = some r) ∧ Aside0 (kq ≤ k) ∧ Aside0 (Kd.R Kd.string 9 w' w.heap.size (fun _ => True) v496 x3_1) ∧ Aside0 (Below w.heap.size w w'))
      case atStart => exact ⟨(y495), (0), (by first | rfl | (simp; done) | (simp [*]; done)), H', ⟨Nat.le_refl _⟩, ⟨by (with_reducible repeat (first | apply Kd.R_alloc | apply Kd.R_drewN | apply Kd.R_drew)); exact HO497.out⟩, ⟨By⟩⟩
      case round =>
        clear H'
        try clear c1
        try clear c2
        try clear c2b0
        try clear c2b1
        try clear p2
        try clear c3
        try clear c3b0
        try clear c3b1
        obtain ⟨x3_1, x4_1, rfl, HA, HK1, HO_3, HB⟩ := hrel
        cases gk with
        | zero => exact absurd HA.out (by simp [laws_toStringS.l0])
        | succ k1 =>
          have H := HA.out
          clear HA
          simp only [laws_toStringS.l0] at H
          by_cases c6 : x4_1 < (l0.length : Int)
          · rw [if_pos c6] at H
            have c6b0 : decide (x4_1 < (l0.length : Int)) = true := decide_eq_true c6
            clear c6
            by_cases c7 : 0 ≤ x4_1
            · rw [if_pos c7] at H
              have c7b0 : decide (0 ≤ x4_1) = true := decide_eq_true c7
              clear c7
              by_cases c8 : x4_1 < (x3_1.length : Int)
              · rw [if_pos c8] at H
                have c8b0 : decide (x4_1 < (x3_1.length : Int)) = true := decide_eq_true c8
                clear c8
                obtain ⟨y499, hy499⟩ : ∃ y_ : List ByteArray, y_ = (x3_1.set (x4_1 : Int).toNat (rdOf ByteArray.empty l0 x4_1)) := ⟨_, rfl⟩
                replace H : (laws_toStringS.l0 k1 l0 y499 (wrap64 (x4_1 + 1))) = some r := by first | (rw [hy499]; with_reducible exact H) | (have H2_ := (Option.bind_some _ _).symm.trans H; rw [hy499]; with_reducible exact H2_) | (have H2_ := (Option.bind_some _ _).symm.trans H; with_reducible exact H2_) | with_reducible exact H | (rw [hy499]; exact H) | exact H
                have Ny499 := Aside0.mk hy499
                clear hy499
                have H' := Aside0.mk H
                clear H
                have p498 : 0 ≤ (x4_1 : Int) := of_decide_eq_true Da
                have q498 : x4_1 < (l0.length : Int) := of_decide_eq_true Da
                obtain ⟨ad498, e498, hx498_0⟩ := Kd.at_string HR0.out x4_1 p498 q498
                cases e498
                replace hx498_0 := bz HB.out hx498_0
                replace p498 := eq_true p498
                replace q498 := eq_true q498
                have p9 : 0 ≤ (x4_1 : Int) := of_decide_eq_true Da
                have q9 : (x4_1 : Int) < ((x3_1.length : Int) : Int) := of_decide_eq_true Da
                obtain ⟨go9, co9, eo9, gb9, gl9, cl9, HG9⟩ := Kd.R_form HO_3.out (by omega)
                (first | cases eo9 | (injection eo9 with ea_ en_ ec_; (first | subst ea_ | (injection ea_ with ea_; subst ea_)); subst ec_; clear en_))
                have GB9 := Aside0.mk gb9
                have GG9 := Aside0.mk HG9
                clear gb9 gl9 HG9
                obtain ⟨hx9_0, hf9_0⟩ := Kd.R_celln (⟨#[]⟩ : ByteArray) HO_3.out (x4_1 : Int) p9 q9
                replace p9 := eq_true p9
                replace q9 := eq_true q9
                have HP10 := Kd.R_putg HO_3.out (x4_1 : Int) (rdOf ByteArray.empty l0 x4_1)
                go_wp2_with (first | ((with_reducible refine gate_store (t := 9) (p := 20) rfl ?_); refine store_event (t := 9) (p := 20) (v := ?vo_w11) (w1 := (wr.setCell ⟨go9, (x4_1 : Int).toNat, none⟩ (.string (rdOf ByteArray.empty l0 x4_1)))) ?hg ?ho ?hn ?hr ?_; (case ho => rfl); (case hg => rfl); (case hn => rfl); (case hr => first | (go_simp; done) | (go_simp; rfl)); intro w11 hw; have hg : wr.grownBy w11 (some go9) := (by rw [hw]; exact HP10.2); have hp_ : Kd.R Kd.string 9 w11 w.heap.size (fun _ => True) (.slice (some ⟨go9, 0, none⟩) x3_1.length co9) y499 := (by rw [hw, Ny499.out]; exact HP10.1); clear HP10; have n0_ := Aside0.mk (hp_); have n1_ := Aside0.mk ((by rw [hw]; exact below_set (HB.out) GB9.out : Below w.heap.size w w11)); clear HO_3; clear HB; have HO_3 := n0_; have HB := n1_; clear n0_ n1_; clear hg hw hp_))
                go_roundg k1
                case measure => have := HK1.out; omega
                case rel => exact ⟨(y499), (wrap64 (x4_1 + 1)), (by first | rfl | (simp; done) | (simp [*]; done)), H', ⟨by have := HK1.out; omega⟩, ⟨by (with_reducible repeat (first | apply Kd.R_alloc | apply Kd.R_drewN | apply Kd.R_drew)); exact HO_3.out⟩, ⟨By⟩⟩
              · rw [if_neg c8] at H
                exact absurd H (by simp)
            · rw [if_neg c7] at H
              exact absurd H (by simp)
          · rw [if_neg c6] at H
            have c6b0 : decide (x4_1 < (l0.length : Int)) = false := decide_eq_false c6
            clear c6
            obtain rfl := Option.some.inj H
            go_wp2
            go_ret
            exact ⟨_, Rf, by (with_reducible repeat (first | apply Kd.R_alloc | apply Kd.R_drewN | apply Kd.R_drew)); exact HO_3.out, By⟩
    · rw [if_neg c3] at H
      exact absurd H (by simp)
  · rw [if_neg c2] at H
    exact absurd H (by simp)

end Go.Proofs.YtpocoeghobdfiaaDoor.PG

-- WRITTEN BY A PROGRAM OF THIS SESSION (wip/gen/gen.py), by way of the kit's print program. Lean checks it.
namespace Go.Proofs.YtpocoeghobdfiaaDoor.PG
open Go.Proofs.YtpocoeghobdfiaaDoor.Sq Go.RowKit Go.Proofs.YtpocoeghobdfiaaDoorW.PrintWords Go.Proofs.YtpocoeghobdfiaaDoorW.PrintLast Go.Proofs.YtpocoeghobdfiaaDoorW.PrintMore
attribute [local go_sem] max2_int min2_int max_two min_two max_three min_three max_four min_four   -- for this text's walks alone
set_option linter.unusedVariables false
set_option linter.unusedSimpArgs false

/-! ### laws_toAttr: function 127 -/
def laws_toAttr.f (k : Nat) (a0_0 : ByteArray) (l0_1 : List ByteArray) : Option (ByteArray × List ByteArray) := (laws_toStringS.f k l0_1).bind fun t503 => (some (a0_0, t503))
theorem laws_toAttr.mono : ∀ a0 a1 k, LeO (laws_toAttr.f k a0 a1) (laws_toAttr.f (k + 1) a0 a1) := by
  intro a0 a1 k
  unfold laws_toAttr.f
  repeat' first
      | (with_reducible exact laws_toStringS.mono _ _)
      | (with_reducible exact LeO.refl _)
      | (with_reducible exact LeO.none _)
      | (with_reducible refine LeO.ite ?_ ?_)
      | (with_reducible refine LeO.bind ?_ (fun _ => ?_))
      | exact laws_toStringS.mono _ _
      | exact LeO.none _
      | refine LeO.ite ?_ ?_
      | refine LeO.bind ?_ (fun _ => ?_)
set_option maxHeartbeats 8000000 in
set_option maxRecDepth 100000 in
theorem laws_toAttr.calls (k : Nat) (a0_0 : ByteArray) (A0_1 : Option Addr) (c0_1 : Nat) (l0_1 : List ByteArray) (r1 : ByteArray) (r2 : List ByteArray) (w : World) (hr0_1 : Kd.C Kd.string w A0_1 l0_1.length l0_1) (hc0_1 : l0_1.length ≤ c0_1) (h : laws_toAttr.f k a0_0 l0_1 = some (r1, r2)) :
    Calls Tryd.prog 127 #[.agg #[.string a0_0, .slice A0_1 l0_1.length c0_1]] w fun e w' => ∃ v1_ : Value, e = .returned (.agg #[.string r1, v1_]) ∧ Kd.R Kd.string 9 w' w.heap.size (fun _ => True) v1_ r2 ∧ Below w.heap.size w w' := by
  have hu150 := Tryd.underlying150
  have hu144 := Tryd.underlying144
  have HR0_1 := Aside0.mk hr0_1
  have HC0_1 := Aside0.mk hc0_1
  clear hr0_1 hc0_1
  have HB := Aside0.mk (Below.refl w.heap.size w)
  have H : ((laws_toStringS.f k l0_1).bind fun t503 => (some (a0_0, t503))) = some (r1, r2) := h
  clear h
  replace H := Option.bind_eq_some_iff.mp H
  obtain ⟨t503, A20, H⟩ := H
  replace H : (some (a0_0, t503)) = some (r1, r2) := H
  have A2 := Aside0.mk A20
  clear A20
  simp only [Option.some.injEq, Prod.mk.injEq] at H
  obtain ⟨rfl, rfl⟩ := H
  go_enter Tryd.func127, Tryd.ntmps127
  go_wp2_with (first | ((with_reducible refine gate_dst (N := 1) rfl ?_); refine box_event ?hg (N := 1) ?hd (cs := #[.string a0_0, .slice A0_1 l0_1.length c0_1]) (t := 150) ?hr ?_; (case hd => rfl); (case hg => rfl); (case hr => first | (go_simp; done) | (go_simp; rfl)); intro gb500 hg w3 hbox hb; have n0_ := Aside0.mk (below_step By hb); have n1_ := Aside0.mk (hbox); have n2_ := Aside0.mk ((by rw [hg]; exact (below_size By) : w.heap.size ≤ gb500)); have n3_ := Aside0.mk ((by rw [hg]; exact (below_size By) : w.heap.size ≤ gb500)); clear HB; have HB := n0_; have BK500 := n1_; have GW500 := n2_; have GE500 := n3_; clear n0_ n1_ n2_ n3_; clear hb hbox hg) | ((with_reducible refine gate_dst (N := 2) rfl ?_); refine box_event ?hg (N := 2) ?hd (cs := #[.string (⟨#[]⟩ : ByteArray), .slice none 0 0]) (t := 144) ?hr ?_; (case hd => rfl); (case hg => rfl); (case hr => first | (go_simp; done) | (go_simp; rfl)); intro gb501 hg w4 hbox hb; have n0_ := Aside0.mk (bb BK500.out hb); have n1_ := Aside0.mk (below_step By hb); have n2_ := Aside0.mk (hbox); have n3_ := Aside0.mk ((by rw [hg]; exact (below_size By) : w.heap.size ≤ gb501)); have n4_ := Aside0.mk ((by rw [hg]; exact (below_size By) : w.heap.size ≤ gb501)); have n5_ := Aside0.mk ((by rw [hg]; exact Nat.ne_of_lt (bl BK500.out) : gb500 ≠ gb501)); have n6_ := Aside0.mk ((by rw [hg]; exact Nat.ne_of_gt (bl BK500.out) : gb501 ≠ gb500)); clear BK500; clear HB; have BK500 := n0_; have HB := n1_; have BK501 := n2_; have GW501 := n3_; have GE501 := n4_; have NB500_501 := n5_; have NB501_500 := n6_; clear n0_ n1_ n2_ n3_ n4_ n5_ n6_; clear hb hbox hg) | ((with_reducible refine gate_dst (N := 3) rfl ?_); refine box_event ?hg (N := 3) ?hd (cs := #[.string (⟨#[]⟩ : ByteArray), .slice none 0 0]) (t := 144) ?hr ?_; (case hd => rfl); (case hg => rfl); (case hr => first | (go_simp; done) | (go_simp; rfl)); intro gb502 hg w5 hbox hb; have n0_ := Aside0.mk (bb BK500.out hb); have n1_ := Aside0.mk (bb BK501.out hb); have n2_ := Aside0.mk (below_step By hb); have n3_ := Aside0.mk (hbox); have n4_ := Aside0.mk ((by rw [hg]; exact (below_size By) : w.heap.size ≤ gb502)); have n5_ := Aside0.mk ((by rw [hg]; exact (below_size By) : w.heap.size ≤ gb502)); have n6_ := Aside0.mk ((by rw [hg]; exact Nat.ne_of_lt (bl BK500.out) : gb500 ≠ gb502)); have n7_ := Aside0.mk ((by rw [hg]; exact Nat.ne_of_gt (bl BK500.out) : gb502 ≠ gb500)); have n8_ := Aside0.mk ((by rw [hg]; exact Nat.ne_of_lt (bl BK501.out) : gb501 ≠ gb502)); have n9_ := Aside0.mk ((by rw [hg]; exact Nat.ne_of_gt (bl BK501.out) : gb502 ≠ gb501)); clear BK500; clear BK501; clear HB; have BK500 := n0_; have BK501 := n1_; have HB := n2_; have BK502 := n3_; have GW502 := n4_; have GE502 := n5_; have NB500_502 := n6_; have NB502_500 := n7_; have NB501_502 := n8_; have NB502_501 := n9_; clear n0_ n1_ n2_ n3_ n4_ n5_ n6_ n7_ n8_ n9_; clear hb hbox hg; have hnb6 := NB500_501.out; have hnc6 := NB501_500.out; have hnb7 := NB500_502.out; have hnc7 := NB502_500.out; have ⟨hcz8_0, hcz8_1⟩ := cq2 BK500.out; have ⟨hfz8_0, hfz8_1⟩ := fq2 BK500.out; have hnb9 := NB502_501.out; have hnc9 := NB501_502.out; have ⟨hcz10_0, hcz10_1⟩ := cq2 BK502.out; have ⟨hfz10_0, hfz10_1⟩ := fq2 BK502.out) | ((with_reducible refine gate_callee (f := 156) rfl ?_); refine goesL_ (some 9) rfl rfl Tryd.func156 (by kernel_rfl) rfl #[.slice A0_1 l0_1.length c0_1] rfl Ag ?_; (with_reducible refine (laws_toStringS.calls k _ _ l0_1 t503 _ ?side1 ?side2 A2.out).mono ?_); (case side1 => exact Kd.C_below HR0_1.out By); (case side2 => exact HC0_1.out); rintro e w11 ⟨v504, rfl, ho0, hb⟩; refine ⟨_, rfl, ?_⟩; have n0_ := Aside0.mk (Kd.R_lower ho0 (below_size By)); have n1_ := Aside0.mk (bf BK500.out hb); have n2_ := Aside0.mk (bf BK501.out hb); have n3_ := Aside0.mk (blk_below (g := gb502) (o := .cells #[.string a0_0, .slice none 0 0] 144 (0, 0)) (pq1o2 Pk) hb); have n4_ := Aside0.mk (below_step By hb); clear BK500; clear BK501; clear BK502; clear HB; have HO505 := n0_; have BK500 := n1_; have BK501 := n2_; have BK502 := n3_; have HB := n4_; clear n0_ n1_ n2_ n3_ n4_; (try clear hb); (try clear hb2); (try clear hk); (try clear hi); (try clear ho0); obtain ⟨Ao12, co12, eo12⟩ := Kd.R_slice HO505.out; subst eo12; have ⟨hcz13_0, hcz13_1⟩ := cq2 BK502.out; have ⟨hfz13_0, hfz13_1⟩ := fq2 BK502.out; have ⟨hcz14_0, hcz14_1⟩ := cq2 BK501.out; have ⟨hfz14_0, hfz14_1⟩ := fq2 BK501.out))
  refine bodyPost_ret (results_cell_row rfl _ _ gb501 144 #[.string a0_0, .slice Ao12 t503.length co12] (0, 0) _ rfl (by (with_reducible repeat (first | refine blk_drewN ?_ _ | refine blk_drew ?_ | refine blk_alloc ?_ _)); refine blk_put (cs := #[.string a0_0, .slice none 0 0]) ?_ 1 _ rfl; (with_reducible repeat (first | refine blk_drewN ?_ _ | refine blk_drew ?_ | refine blk_alloc ?_ _)); refine blk_put (cs := #[.string (⟨#[]⟩ : ByteArray), .slice none 0 0]) ?_ 0 _ rfl; (with_reducible repeat (first | refine blk_drewN ?_ _ | refine blk_drew ?_ | refine blk_alloc ?_ _)); refine blk_far ?_ NB501_502.out _; (with_reducible repeat (first | refine blk_drewN ?_ _ | refine blk_drew ?_ | refine blk_alloc ?_ _)); exact BK501.out) Tryd.underlying144 rfl (by kernel_rfl)) rfl ?_
  exact ⟨_, Rf, by (with_reducible repeat (first | apply Kd.R_alloc | apply Kd.R_drewN | apply Kd.R_drew)); exact Kd.R_mono (Kd.R_far (p := ⟨gb501, 1, none⟩) (Kd.R_far (p := ⟨gb501, 0, none⟩) (Kd.R_far (p := ⟨gb502, 1, none⟩) (Kd.R_types (Kd.R_types HO505.out BK502.out (by decide)) BK501.out (by decide)) (fun _ hk => hk.1.2) (.slice Ao12 t503.length co12)) (fun _ hk => hk.2) (.string a0_0)) (fun _ hk => hk.2) (.slice Ao12 t503.length co12)) (fun _ hk => trivial), By⟩

end Go.Proofs.YtpocoeghobdfiaaDoor.PG

-- WRITTEN BY A PROGRAM OF THIS SESSION (wip/gen/gen.py), by way of the kit's print program. Lean checks it.
namespace Go.Proofs.YtpocoeghobdfiaaDoor.PG
open Go.Proofs.YtpocoeghobdfiaaDoor.Sq Go.RowKit Go.Proofs.YtpocoeghobdfiaaDoorW.PrintWords Go.Proofs.YtpocoeghobdfiaaDoorW.PrintLast Go.Proofs.YtpocoeghobdfiaaDoorW.PrintMore
attribute [local go_sem] max2_int min2_int max_two min_two max_three min_three max_four min_four   -- for this text's walks alone
set_option linter.unusedVariables false
set_option linter.unusedSimpArgs false

/-! ### laws_toAttrS: function 87 -/
def laws_toAttrS.l0 : Nat → List (S150) → List (S144) → Int → Option ((List (S144)))
  | 0, _, _, _ => none
  | k + 1, x0, x3, x4 => if x4 < (x0.length : Int) then (if 0 ≤ x4 then ((laws_toAttr.f k ((rd_T150 x0 x4).f0) ((rd_T150 x0 x4).f1)).bind fun bt510 => (if x4 < (x3.length : Int) then (laws_toAttrS.l0 k x0 (x3.set (x4 : Int).toNat (⟨bt510.1, bt510.2⟩ : S144)) (wrap64 (x4 + 1))) else (none))) else (none)) else (some x3)
def laws_toAttrS.f (k : Nat) (l0 : List (S150)) : Option ((List (S144))) := if 0 ≤ (l0.length : Int) then (if ((l0.length : Int) : Int).toNat ≤ 7036874417766 then (laws_toAttrS.l0 k l0 (List.replicate ((l0.length : Int) : Int).toNat z144) 0) else (none)) else (none)
theorem laws_toAttrS.mono_l : ∀ k, (∀ y0 y1 y2, LeO (laws_toAttrS.l0 k y0 y1 y2) (laws_toAttrS.l0 (k + 1) y0 y1 y2))
  | 0 => fun _ _ _ r h => by simp [laws_toAttrS.l0] at h
  | k + 1 => by
    have ih0 := laws_toAttrS.mono_l k
    · intro y0 y1 y2
      unfold laws_toAttrS.l0
      repeat' first
      | (with_reducible exact ih0 _ _ _)
      | (with_reducible exact laws_toAttr.mono _ _ _)
      | (with_reducible exact LeO.refl _)
      | (with_reducible exact LeO.none _)
      | (with_reducible refine LeO.ite ?_ ?_)
      | (with_reducible refine LeO.bind ?_ (fun _ => ?_))
      | exact ih0 _ _ _
      | exact laws_toAttr.mono _ _ _
      | exact LeO.none _
      | refine LeO.ite ?_ ?_
      | refine LeO.bind ?_ (fun _ => ?_)
theorem laws_toAttrS.mono : ∀ a0 k, LeO (laws_toAttrS.f k a0) (laws_toAttrS.f (k + 1) a0) := by
  intro a0 k
  have ih0 := laws_toAttrS.mono_l k
  unfold laws_toAttrS.f
  repeat' first
      | (with_reducible exact ih0 _ _ _)
      | (with_reducible exact laws_toAttr.mono _ _ _)
      | (with_reducible exact LeO.refl _)
      | (with_reducible exact LeO.none _)
      | (with_reducible refine LeO.ite ?_ ?_)
      | (with_reducible refine LeO.bind ?_ (fun _ => ?_))
      | exact ih0 _ _ _
      | exact laws_toAttr.mono _ _ _
      | exact LeO.none _
      | refine LeO.ite ?_ ?_
      | refine LeO.bind ?_ (fun _ => ?_)
set_option maxHeartbeats 8000000 in
set_option maxRecDepth 100000 in
theorem laws_toAttrS.calls (k : Nat) (A0 : Option Addr) (c0 : Nat) (l0 : List (S150)) (r : List (S144)) (w : World) (hr0 : Kd.C k150 w A0 l0.length l0) (hc0 : l0.length ≤ c0) (h : laws_toAttrS.f k l0 = some r) :
    Calls Tryd.prog 87 #[.slice A0 l0.length c0] w fun e w' => ∃ v0_ : Value, e = .returned (v0_) ∧ Kd.S k144 144 w' w.heap.size (fun _ => True) v0_ r ∧ Below w.heap.size w w' := by
  have hu150 := Tryd.underlying150
  have hu144 := Tryd.underlying144
  have HR0 := Aside0.mk hr0
  have HC0 := Aside0.mk hc0
  clear hr0 hc0
  have HB := Aside0.mk (Below.refl w.heap.size w)
  have H : (if 0 ≤ (l0.length : Int) then (if ((l0.length : Int) : Int).toNat ≤ 7036874417766 then (laws_toAttrS.l0 k l0 (List.replicate ((l0.length : Int) : Int).toNat z144) 0) else (none)) else (none)) = some r := h
  clear h
  by_cases c2 : 0 ≤ (l0.length : Int)
  · rw [if_pos c2] at H
    have c2b0 := eq_true c2
    have c2b1 : decide (0 ≤ (l0.length : Int)) = true := decide_eq_true c2
    clear c2
    by_cases c3 : ((l0.length : Int) : Int).toNat ≤ 7036874417766
    · rw [if_pos c3] at H
      have c3b0 := eq_true c3
      have c3b1 : decide (((l0.length : Int) : Int).toNat ≤ 7036874417766) = true := decide_eq_true c3
      clear c3
      obtain ⟨y506, hy506⟩ : ∃ y_ : List (S144), y_ = (List.replicate ((l0.length : Int) : Int).toNat z144) := ⟨_, rfl⟩
      replace H : (laws_toAttrS.l0 k l0 y506 0) = some r := by first | (rw [hy506]; with_reducible exact H) | (have H2_ := (Option.bind_some _ _).symm.trans H; rw [hy506]; with_reducible exact H2_) | (have H2_ := (Option.bind_some _ _).symm.trans H; with_reducible exact H2_) | with_reducible exact H | (rw [hy506]; exact H) | exact H
      have Ny506 := Aside0.mk hy506
      clear hy506
      have H' := Aside0.mk H
      clear H
      go_enter Tryd.func87, Tryd.ntmps87
      go_wp2_with (first | ((with_reducible refine gate_dst (N := 7) rfl ?_); refine Kd.S_make k144 _ 144 rfl (N := 7) rfl 65 _ _ rfl (l0.length : Int) rfl rfl Tryd.underlying65 (.agg #[(.string ⟨#[]⟩), (.slice none 0 0)]) 40 info144 rfl (by decide) (by omega) z144 (ok := fun _ => True) (okp := fun _ => True) (k144_mkM _ _ _ z144 (Kd.R_nil _ _ _ _ _)) (fun _ hk => hk) trivial (of_decide_eq_true Da) (Nat.le_trans (Nat.mul_le_mul_right _ (of_decide_eq_true Da : (l0.length : Int).toNat ≤ 7036874417766)) (by omega)) (Below.refl _ _) (Nat.le_refl _) ?_; intro v507 w4 ho5 hb hg_ hnew_; clear hg_ hnew_; (first | rw [← Ny506.out] at ho5 | (simp only [Int.reduceToNat] at ho5; rw [← Ny506.out] at ho5)); have n0_ := Aside0.mk (Kd.S_lower ho5 (below_size By)); have n1_ := Aside0.mk (below_step By hb); clear HB; have HO508 := n0_; have HB := n1_; clear n0_ n1_; clear hb ho5))
      go_loopg [4] k (fun kq v4 w' => ∃ (x3_1 : List (S144)) (x4_1 : Int), v4 = .int .i64 x4_1 ∧ Aside0 (laws_toAttrS.l0 kq l0 x3_1 x4_1 = some r) ∧ Aside0 (kq ≤ k) ∧ Aside0 (Kd.S k144 144 w' w.heap.size (fun _ => True) v507 x3_1) ∧ Aside0 (Below w.heap.size w w'))
      case atStart => exact ⟨(y506), (0), (by first | rfl | (simp; done) | (simp [*]; done)), H', ⟨Nat.le_refl _⟩, ⟨by (with_reducible repeat (first | apply Kd.S_alloc | apply Kd.S_drewN | apply Kd.S_drew)); exact HO508.out⟩, ⟨By⟩⟩
      case round =>
        clear H'
        try clear c2
        try clear c2b0
        try clear c2b1
        try clear p2
        try clear c3
        try clear c3b0
        try clear c3b1
        obtain ⟨x3_1, x4_1, rfl, HA, HK1, HO_3, HB⟩ := hrel
        cases gk with
        | zero => exact absurd HA.out (by simp [laws_toAttrS.l0])
        | succ k1 =>
          have H := HA.out
          clear HA
          simp only [laws_toAttrS.l0] at H
          by_cases c6 : x4_1 < (l0.length : Int)
          · rw [if_pos c6] at H
            have c6b0 : decide (x4_1 < (l0.length : Int)) = true := decide_eq_true c6
            clear c6
            by_cases c7 : 0 ≤ x4_1
            · rw [if_pos c7] at H
              have c7b0 : decide (0 ≤ x4_1) = true := decide_eq_true c7
              clear c7
              replace H := Option.bind_eq_some_iff.mp H
              obtain ⟨⟨t510, t511⟩, A80, H⟩ := H
              replace H : (if x4_1 < (x3_1.length : Int) then (laws_toAttrS.l0 k1 l0 (x3_1.set (x4_1 : Int).toNat (⟨t510, t511⟩ : S144)) (wrap64 (x4_1 + 1))) else (none)) = some r := H
              have A8 := Aside0.mk A80
              clear A80
              by_cases c9 : x4_1 < (x3_1.length : Int)
              · rw [if_pos c9] at H
                have c9b0 : decide (x4_1 < (x3_1.length : Int)) = true := decide_eq_true c9
                clear c9
                obtain ⟨y514, hy514⟩ : ∃ y_ : List (S144), y_ = (x3_1.set (x4_1 : Int).toNat (⟨t510, t511⟩ : S144)) := ⟨_, rfl⟩
                replace H : (laws_toAttrS.l0 k1 l0 y514 (wrap64 (x4_1 + 1))) = some r := by first | (rw [hy514]; with_reducible exact H) | (have H2_ := (Option.bind_some _ _).symm.trans H; rw [hy514]; with_reducible exact H2_) | (have H2_ := (Option.bind_some _ _).symm.trans H; with_reducible exact H2_) | with_reducible exact H | (rw [hy514]; exact H) | exact H
                have Ny514 := Aside0.mk hy514
                clear hy514
                have H' := Aside0.mk H
                clear H
                have p509 : 0 ≤ (x4_1 : Int) := of_decide_eq_true Da
                have q509 : x4_1 < (l0.length : Int) := of_decide_eq_true Da
                obtain ⟨ad509, A509_1, c509_1, e509, hx509_0, hx509_1, hl509_1, hi509_1⟩ := at_T150 HR0.out x4_1 p509 q509
                cases e509
                replace hx509_0 := bz HB.out hx509_0
                replace hx509_1 := bz HB.out hx509_1
                have HR509_1 := Aside0.mk hi509_1
                have HC509_1 := Aside0.mk hl509_1
                clear hi509_1 hl509_1
                replace p509 := eq_true p509
                replace q509 := eq_true q509
                go_wp2_with (first | ((with_reducible refine gate_callee (f := 127) rfl ?_); refine goesL_ (some 20) rfl rfl Tryd.func127 (by kernel_rfl) rfl #[.agg #[.string ((rd_T150 l0 x4_1).f0), .slice A509_1 ((rd_T150 l0 x4_1).f1).length c509_1]] rfl Ag ?_; (with_reducible refine (laws_toAttr.calls k1 ((rd_T150 l0 x4_1).f0) _ _ ((rd_T150 l0 x4_1).f1) t510 t511 _ ?side1 ?side2 A8.out).mono ?_); (case side1 => repeat (first | exact (Kd.C_below HR509_1.out HB.out) | (with_reducible refine Kd.C_alloc ?_ _) | (with_reducible refine Kd.C_drewN ?_ _) | (with_reducible refine Kd.C_drew ?_))); (case side2 => exact HC509_1.out); rintro e w11 ⟨v512, rfl, ho0, hb⟩; refine ⟨_, rfl, ?_⟩; have n0_ := Aside0.mk (Kd.S_elder' (by (with_reducible repeat (first | apply Kd.S_alloc | apply Kd.S_drewN | apply Kd.S_drew)); exact HO_3.out) (Kd.R_base ho0) hb); have n1_ := Aside0.mk (Kd.R_lower ho0 (below_size By)); have n2_ := Aside0.mk (below_step By hb); clear HO_3; clear HB; have HO_3 := n0_; have HO513 := n1_; have HB := n2_; clear n0_ n1_ n2_; (try clear hb); (try clear hb2); (try clear hk); (try clear hi); (try clear ho0); have p10 : 0 ≤ (x4_1 : Int) := of_decide_eq_true Da; have q10 : (x4_1 : Int) < ((x3_1.length : Int) : Int) := of_decide_eq_true Da; obtain ⟨go10, co10, eo10, gb10, gl10, cl10, HG10⟩ := Kd.S_form HO_3.out (by omega); (first | cases eo10 | (injection eo10 with ea_ en_ ec_; (first | subst ea_ | (injection ea_ with ea_; subst ea_)); subst ec_; clear en_)); have GB10 := Aside0.mk gb10; have GG10 := Aside0.mk HG10; clear gb10 gl10 HG10; obtain ⟨_, ce10, hcl10, hM10, hcc10, hfr10, _, _⟩ := Kd.S_elem HO_3.out z144 (x4_1 : Int) p10 q10; obtain ⟨ve10_1, rfl, ge10_1⟩ := k144_openM hM10; have hx10_0 : w11.cell? ⟨go10, (x4_1 : Int).toNat * 2, none⟩ = some (.string ((rd_T144 x3_1 x4_1).f0)) := hcc10 0 _ rfl; have hx10_1 : w11.cell? ⟨go10, (x4_1 : Int).toNat * 2 + 1, none⟩ = some (ve10_1) := hcc10 1 _ rfl; have hf10_0 : w11.frozen? ⟨go10, (x4_1 : Int).toNat * 2, none⟩ = false := hfr10 0; have hf10_1 : w11.frozen? ⟨go10, (x4_1 : Int).toNat * 2 + 1, none⟩ = false := hfr10 1; clear hcl10 hcc10 hfr10 hM10; replace p10 := eq_true p10; replace q10 := eq_true q10; have n_ := Aside0.mk (Kd.S_mono (ok' := (fun k_ => some k_ ≠ (v512 : Value).ownBlock)) HO_3.out (fun k_ hk => hk.2)); clear HO_3; have HO_3 := n_; clear n_; have HX12 := Aside0.mk (show Kd.S k144 144 w11 w.heap.size (fun k_ => ((fun _ => True)) k_ ∧ ¬ ((fun k_ => some k_ = (v512 : Value).ownBlock)) k_) (.slice (some ⟨go10, 0, none⟩) x3_1.length co10) x3_1 from (by (with_reducible repeat (first | apply Kd.S_alloc | apply Kd.S_drewN | apply Kd.S_drew)); exact Kd.S_mono HO_3.out (fun k_ hk => ⟨trivial, fun e_ => hk e_⟩))); obtain ⟨oki12, ce12, hcl12, hM12, hcc12, hfr12, hoki12, hH12⟩ := Kd.S_elem HX12.out z144 (x4_1 : Int) (of_decide_eq_true Da) (by have h_ : (x4_1 : Int) < ((x3_1.length : Int) : Int) := of_decide_eq_true Da; first | exact h_ | (have e_ := (Kd.S_reads' HO_3.out).1; omega) | simpa using h_); obtain ⟨ve12_1, rfl, ge12_1⟩ := k144_openM hM12; have HP12 := Kd.S_seg hH12 (of_decide_eq_true Da) (by have h_ : (x4_1 : Int) < ((x3_1.length : Int) : Int) := of_decide_eq_true Da; first | exact h_ | (have e_ := (Kd.S_reads' HO_3.out).1; omega) | simpa using h_) (seg := [.string t510, v512]) (j := 0) (show 2 ≤ 2 from by decide) (x' := (⟨t510, t511⟩ : S144)) (k144_mkM _ _ _ (⟨t510, t511⟩ : S144) (Kd.R_mono (Kd.R_tight rfl (Kd.R_mono (ok' := fun k_ => ((fun _ => True)) k_ ∧ k_ ≠ go10) (Kd.R_apart' (HO513.out) (Kd.S_typed HO_3.out) (by decide)) (fun k_ hk => ⟨trivial, fun e_ => (hk.2) (by rw [e_]; rfl)⟩))) (fun _ h_ => Or.inr (h_)))) (fun _ hk => hk) (fun k_ hk_ => ((Kd.R_mono (ok' := fun k_ => ((fun _ => True)) k_ ∧ k_ ≠ go10) (Kd.R_apart' (HO513.out) (Kd.S_typed HO_3.out) (by decide)) (fun k_ hk => ⟨trivial, fun e_ => (hk.2) (by rw [e_]; rfl)⟩))).1 k_ hk_.symm); have hx12_0 := hcc12 0 _ rfl; (try simp only [show (k144).sz = 2 from rfl, Nat.mul_one, Nat.add_zero] at hx12_0); have hf12_0 := hfr12 0; (try simp only [show (k144).sz = 2 from rfl, Nat.mul_one, Nat.add_zero] at hf12_0); have hx12_1 := hcc12 1 _ rfl; (try simp only [show (k144).sz = 2 from rfl, Nat.mul_one, Nat.add_zero] at hx12_1); have hf12_1 := hfr12 1; (try simp only [show (k144).sz = 2 from rfl, Nat.mul_one, Nat.add_zero] at hf12_1); clear hcl12 hcc12 hfr12 hM12 hoki12 hH12) | ((with_reducible refine gate_store (t := 144) (p := 21) rfl ?_); refine store_event (t := 144) (p := 21) (v := ?vo_w13) (w1 := ((w11.setCell ⟨go10, (x4_1 : Int).toNat * 2, none⟩ (.string t510)).setCell ⟨go10, (x4_1 : Int).toNat * 2 + 1, none⟩ (v512))) ?hg ?ho ?hn ?hr ?_; (case ho => rfl); (case hg => rfl); (case hn => rfl); (case hr => first | (go_simp; done) | (go_simp; rfl) | (obtain ⟨Za0_, Zc0_, hz0_⟩ := Kd.R_slice HO513.out; rw [hz0_]; first | (go_simp; done) | (go_simp; rfl))); intro w13 hw; have hg : w11.grownBy w13 (some go10) := (by rw [hw]; exact HP12.2); have hp_ : Kd.S k144 144 w13 w.heap.size (fun _ => True) (.slice (some ⟨go10, 0, none⟩) x3_1.length co10) y514 := (by rw [hw, Ny514.out]; exact HP12.1); clear HP12; have n0_ := Aside0.mk (hp_); have n1_ := Aside0.mk ((by rw [hw]; exact below_set (below_set (HB.out) GB10.out) GB10.out : Below w.heap.size w w13)); clear HO_3; clear HB; clear HO513; have HO_3 := n0_; have HB := n1_; clear n0_ n1_; clear hg hw hp_))
                go_roundg k1
                case measure => have := HK1.out; omega
                case rel => exact ⟨(y514), (wrap64 (x4_1 + 1)), (by first | rfl | (simp; done) | (simp [*]; done)), H', ⟨by have := HK1.out; omega⟩, ⟨by (with_reducible repeat (first | apply Kd.S_alloc | apply Kd.S_drewN | apply Kd.S_drew)); exact HO_3.out⟩, ⟨By⟩⟩
              · rw [if_neg c9] at H
                exact absurd H (by simp)
            · rw [if_neg c7] at H
              exact absurd H (by simp)
          · rw [if_neg c6] at H
            have c6b0 : decide (x4_1 < (l0.length : Int)) = false := decide_eq_false c6
            clear c6
            obtain rfl := Option.some.inj H
            go_wp2
            go_ret
            exact ⟨_, Rf, by (with_reducible repeat (first | apply Kd.S_alloc | apply Kd.S_drewN | apply Kd.S_drew)); exact HO_3.out, By⟩
    · rw [if_neg c3] at H
      exact absurd H (by simp)
  · rw [if_neg c2] at H
    exact absurd H (by simp)

end Go.Proofs.YtpocoeghobdfiaaDoor.PG

-- WRITTEN BY A PROGRAM OF THIS SESSION (wip/gen/gen.py), by way of the kit's print program. Lean checks it.
namespace Go.Proofs.YtpocoeghobdfiaaDoor.PG
open Go.Proofs.YtpocoeghobdfiaaDoor.Sq Go.RowKit Go.Proofs.YtpocoeghobdfiaaDoorW.PrintWords Go.Proofs.YtpocoeghobdfiaaDoorW.PrintLast Go.Proofs.YtpocoeghobdfiaaDoorW.PrintMore
attribute [local go_sem] max2_int min2_int max_two min_two max_three min_three max_four min_four   -- for this text's walks alone
set_option linter.unusedVariables false
set_option linter.unusedSimpArgs false

/-! ### laws_toEntry: function 36 -/
def laws_toEntry.f (k : Nat) (l0_0 : List (S148)) (l0_1 : List (S150)) : Option ((List (S153)) × (List (S144))) := (laws_toRdnS.f k l0_0).bind fun t518 => ((laws_toAttrS.f k l0_1).bind fun t521 => (some (t518, t521)))
theorem laws_toEntry.mono : ∀ a0 a1 k, LeO (laws_toEntry.f k a0 a1) (laws_toEntry.f (k + 1) a0 a1) := by
  intro a0 a1 k
  unfold laws_toEntry.f
  repeat' first
      | (with_reducible exact laws_toAttrS.mono _ _)
      | (with_reducible exact laws_toRdnS.mono _ _)
      | (with_reducible exact LeO.refl _)
      | (with_reducible exact LeO.none _)
      | (with_reducible refine LeO.ite ?_ ?_)
      | (with_reducible refine LeO.bind ?_ (fun _ => ?_))
      | exact laws_toAttrS.mono _ _
      | exact laws_toRdnS.mono _ _
      | exact LeO.none _
      | refine LeO.ite ?_ ?_
      | refine LeO.bind ?_ (fun _ => ?_)
set_option maxHeartbeats 8000000 in
set_option maxRecDepth 100000 in
theorem laws_toEntry.calls (k : Nat) (A0_0 : Option Addr) (c0_0 : Nat) (l0_0 : List (S148)) (A0_1 : Option Addr) (c0_1 : Nat) (l0_1 : List (S150)) (r1 : List (S153)) (r2 : List (S144)) (w : World) (hr0_0 : Kd.C k148 w A0_0 l0_0.length l0_0) (hc0_0 : l0_0.length ≤ c0_0) (hr0_1 : Kd.C k150 w A0_1 l0_1.length l0_1) (hc0_1 : l0_1.length ≤ c0_1) (h : laws_toEntry.f k l0_0 l0_1 = some (r1, r2)) :
    Calls Tryd.prog 36 #[.agg #[.slice A0_0 l0_0.length c0_0, .slice A0_1 l0_1.length c0_1]] w fun e w' => ∃ v0_ v1_ : Value, e = .returned (.agg #[v0_, v1_]) ∧ Kd.R k153 153 w' w.heap.size (fun _ => True) v0_ r1 ∧ Kd.S k144 144 w' w.heap.size (fun _ => True) v1_ r2 ∧ Below w.heap.size w w' := by
  have hu61 := Tryd.underlying61
  have hu67 := Tryd.underlying67
  have HR0_0 := Aside0.mk hr0_0
  have HC0_0 := Aside0.mk hc0_0
  clear hr0_0 hc0_0
  have HR0_1 := Aside0.mk hr0_1
  have HC0_1 := Aside0.mk hc0_1
  clear hr0_1 hc0_1
  have HB := Aside0.mk (Below.refl w.heap.size w)
  have H : ((laws_toRdnS.f k l0_0).bind fun t518 => ((laws_toAttrS.f k l0_1).bind fun t521 => (some (t518, t521)))) = some (r1, r2) := h
  clear h
  replace H := Option.bind_eq_some_iff.mp H
  obtain ⟨t518, A20, H⟩ := H
  replace H : ((laws_toAttrS.f k l0_1).bind fun t521 => (some (t518, t521))) = some (r1, r2) := H
  have A2 := Aside0.mk A20
  clear A20
  replace H := Option.bind_eq_some_iff.mp H
  obtain ⟨t521, A30, H⟩ := H
  replace H : (some (t518, t521)) = some (r1, r2) := H
  have A3 := Aside0.mk A30
  clear A30
  simp only [Option.some.injEq, Prod.mk.injEq] at H
  obtain ⟨rfl, rfl⟩ := H
  go_enter Tryd.func36, Tryd.ntmps36
  go_wp2_with (first | ((with_reducible refine gate_dst (N := 1) rfl ?_); refine box_event ?hg (N := 1) ?hd (cs := #[.slice A0_0 l0_0.length c0_0, .slice A0_1 l0_1.length c0_1]) (t := 61) ?hr ?_; (case hd => rfl); (case hg => rfl); (case hr => first | (go_simp; done) | (go_simp; rfl)); intro gb515 hg w4 hbox hb; have n0_ := Aside0.mk (below_step By hb); have n1_ := Aside0.mk (hbox); have n2_ := Aside0.mk ((by rw [hg]; exact (below_size By) : w.heap.size ≤ gb515)); have n3_ := Aside0.mk ((by rw [hg]; exact (below_size By) : w.heap.size ≤ gb515)); clear HB; have HB := n0_; have BK515 := n1_; have GW515 := n2_; have GE515 := n3_; clear n0_ n1_ n2_ n3_; clear hb hbox hg) | ((with_reducible refine gate_dst (N := 2) rfl ?_); refine box_event ?hg (N := 2) ?hd (cs := #[.slice none 0 0, .slice none 0 0]) (t := 67) ?hr ?_; (case hd => rfl); (case hg => rfl); (case hr => first | (go_simp; done) | (go_simp; rfl)); intro gb516 hg w5 hbox hb; have n0_ := Aside0.mk (bb BK515.out hb); have n1_ := Aside0.mk (below_step By hb); have n2_ := Aside0.mk (hbox); have n3_ := Aside0.mk ((by rw [hg]; exact (below_size By) : w.heap.size ≤ gb516)); have n4_ := Aside0.mk ((by rw [hg]; exact (below_size By) : w.heap.size ≤ gb516)); have n5_ := Aside0.mk ((by rw [hg]; exact Nat.ne_of_lt (bl BK515.out) : gb515 ≠ gb516)); have n6_ := Aside0.mk ((by rw [hg]; exact Nat.ne_of_gt (bl BK515.out) : gb516 ≠ gb515)); clear BK515; clear HB; have BK515 := n0_; have HB := n1_; have BK516 := n2_; have GW516 := n3_; have GE516 := n4_; have NB515_516 := n5_; have NB516_515 := n6_; clear n0_ n1_ n2_ n3_ n4_ n5_ n6_; clear hb hbox hg) | ((with_reducible refine gate_dst (N := 3) rfl ?_); refine box_event ?hg (N := 3) ?hd (cs := #[.slice none 0 0, .slice none 0 0]) (t := 67) ?hr ?_; (case hd => rfl); (case hg => rfl); (case hr => first | (go_simp; done) | (go_simp; rfl)); intro gb517 hg w6 hbox hb; have n0_ := Aside0.mk (bb BK515.out hb); have n1_ := Aside0.mk (bb BK516.out hb); have n2_ := Aside0.mk (below_step By hb); have n3_ := Aside0.mk (hbox); have n4_ := Aside0.mk ((by rw [hg]; exact (below_size By) : w.heap.size ≤ gb517)); have n5_ := Aside0.mk ((by rw [hg]; exact (below_size By) : w.heap.size ≤ gb517)); have n6_ := Aside0.mk ((by rw [hg]; exact Nat.ne_of_lt (bl BK515.out) : gb515 ≠ gb517)); have n7_ := Aside0.mk ((by rw [hg]; exact Nat.ne_of_gt (bl BK515.out) : gb517 ≠ gb515)); have n8_ := Aside0.mk ((by rw [hg]; exact Nat.ne_of_lt (bl BK516.out) : gb516 ≠ gb517)); have n9_ := Aside0.mk ((by rw [hg]; exact Nat.ne_of_gt (bl BK516.out) : gb517 ≠ gb516)); clear BK515; clear BK516; clear HB; have BK515 := n0_; have BK516 := n1_; have HB := n2_; have BK517 := n3_; have GW517 := n4_; have GE517 := n5_; have NB515_517 := n6_; have NB517_515 := n7_; have NB516_517 := n8_; have NB517_516 := n9_; clear n0_ n1_ n2_ n3_ n4_ n5_ n6_ n7_ n8_ n9_; clear hb hbox hg; have hnb7 := NB515_516.out; have hnc7 := NB516_515.out; have hnb8 := NB515_517.out; have hnc8 := NB517_515.out; have ⟨hcz9_0, hcz9_1⟩ := cq2 BK515.out; have ⟨hfz9_0, hfz9_1⟩ := fq2 BK515.out) | ((with_reducible refine gate_callee (f := 86) rfl ?_); refine goesL_ (some 6) rfl rfl Tryd.func86 (by kernel_rfl) rfl #[.slice A0_0 l0_0.length c0_0] rfl Ag ?_; (with_reducible refine (laws_toRdnS.calls k _ _ l0_0 t518 _ ?side1 ?side2 A2.out).mono ?_); (case side1 => repeat (first | exact (Kd.C_below HR0_0.out HB.out) | (with_reducible refine Kd.C_alloc ?_ _) | (with_reducible refine Kd.C_drewN ?_ _) | (with_reducible refine Kd.C_drew ?_))); (case side2 => exact HC0_0.out); rintro e w10 ⟨v519, rfl, ho0, hb⟩; refine ⟨_, rfl, ?_⟩; have n0_ := Aside0.mk (Kd.R_lower ho0 (below_size By)); have n1_ := Aside0.mk (bb BK515.out hb); have n2_ := Aside0.mk (bb BK516.out hb); have n3_ := Aside0.mk (bb BK517.out hb); have n4_ := Aside0.mk (below_step By hb); clear BK515; clear BK516; clear BK517; clear HB; have HO520 := n0_; have BK515 := n1_; have BK516 := n2_; have BK517 := n3_; have HB := n4_; clear n0_ n1_ n2_ n3_ n4_; (try clear hb); (try clear hb2); (try clear hk); (try clear hi); (try clear ho0); obtain ⟨Ao11, co11, eo11⟩ := Kd.R_slice HO520.out; subst eo11; have hnb12 := NB517_516.out; have hnc12 := NB516_517.out; have ⟨hcz13_0, hcz13_1⟩ := cq2 BK517.out; have ⟨hfz13_0, hfz13_1⟩ := fq2 BK517.out; have ⟨hcz14_0, hcz14_1⟩ := cq2 BK515.out; have ⟨hfz14_0, hfz14_1⟩ := fq2 BK515.out) | ((with_reducible refine gate_callee (f := 87) rfl ?_); refine goesL_ (some 10) rfl rfl Tryd.func87 (by kernel_rfl) rfl #[.slice A0_1 l0_1.length c0_1] rfl Ag ?_; (with_reducible refine (laws_toAttrS.calls k _ _ l0_1 t521 _ ?side1 ?side2 A3.out).mono ?_); (case side1 => exact Kd.C_below HR0_1.out By); (case side2 => exact HC0_1.out); rintro e w15 ⟨v522, rfl, ho0, hb⟩; refine ⟨_, rfl, ?_⟩; have n0_ := Aside0.mk (Kd.R_below (by (with_reducible repeat (first | apply Kd.R_alloc | apply Kd.R_drewN | apply Kd.R_drew)); exact (Kd.R_mono (Kd.R_far (p := ⟨gb517, 0, none⟩) (Kd.R_types HO520.out BK517.out (by decide)) (fun _ hk => hk.2) (.slice Ao11 t518.length co11)) (fun _ h_ => h_.1))) hb); have n1_ := Aside0.mk (Kd.S_lower ho0 (below_size By)); have n2_ := Aside0.mk (bf BK515.out hb); have n3_ := Aside0.mk (bf BK516.out hb); have n4_ := Aside0.mk (blk_below (g := gb517) (o := .cells #[.slice Ao11 t518.length co11, .slice none 0 0] 67 (0, 0)) (pq1o2 Pk) hb); have n5_ := Aside0.mk (below_step By hb); clear HO520; clear BK515; clear BK516; clear BK517; clear HB; have HO520 := n0_; have HO523 := n1_; have BK515 := n2_; have BK516 := n3_; have BK517 := n4_; have HB := n5_; clear n0_ n1_ n2_ n3_ n4_ n5_; (try clear hb); (try clear hb2); (try clear hk); (try clear hi); (try clear ho0); obtain ⟨Ao16, co16, eo16⟩ := Kd.S_slice HO523.out; subst eo16; have ⟨hcz17_0, hcz17_1⟩ := cq2 BK517.out; have ⟨hfz17_0, hfz17_1⟩ := fq2 BK517.out; have ⟨hcz18_0, hcz18_1⟩ := cq2 BK516.out; have ⟨hfz18_0, hfz18_1⟩ := fq2 BK516.out))
  refine bodyPost_ret (results_cell_row rfl _ _ gb516 67 #[.slice Ao11 t518.length co11, .slice Ao16 t521.length co16] (0, 0) _ rfl (by (with_reducible repeat (first | refine blk_drewN ?_ _ | refine blk_drew ?_ | refine blk_alloc ?_ _)); refine blk_put (cs := #[.slice Ao11 t518.length co11, .slice none 0 0]) ?_ 1 _ rfl; (with_reducible repeat (first | refine blk_drewN ?_ _ | refine blk_drew ?_ | refine blk_alloc ?_ _)); refine blk_put (cs := #[.slice none 0 0, .slice none 0 0]) ?_ 0 _ rfl; (with_reducible repeat (first | refine blk_drewN ?_ _ | refine blk_drew ?_ | refine blk_alloc ?_ _)); refine blk_far ?_ NB516_517.out _; (with_reducible repeat (first | refine blk_drewN ?_ _ | refine blk_drew ?_ | refine blk_alloc ?_ _)); exact BK516.out) Tryd.underlying67 rfl (by kernel_rfl)) rfl ?_
  exact ⟨_, _, Rf, by (with_reducible repeat (first | apply Kd.R_alloc | apply Kd.R_drewN | apply Kd.R_drew)); exact Kd.R_mono (Kd.R_far (p := ⟨gb516, 1, none⟩) (Kd.R_far (p := ⟨gb516, 0, none⟩) (Kd.R_far (p := ⟨gb517, 1, none⟩) (Kd.R_types (Kd.R_types HO520.out BK517.out (by decide)) BK516.out (by decide)) (fun _ hk => hk.1.2) (.slice Ao16 t521.length co16)) (fun _ hk => hk.2) (.slice Ao11 t518.length co11)) (fun _ hk => hk.2) (.slice Ao16 t521.length co16)) (fun _ hk => trivial), by (with_reducible repeat (first | apply Kd.S_alloc | apply Kd.S_drewN | apply Kd.S_drew)); exact Kd.S_mono (Kd.S_far (p := ⟨gb516, 1, none⟩) (Kd.S_far (p := ⟨gb516, 0, none⟩) (Kd.S_far (p := ⟨gb517, 1, none⟩) (Kd.S_types (Kd.S_types HO523.out BK517.out (by decide)) BK516.out (by decide)) (fun _ hk => hk.1.2) (.slice Ao16 t521.length co16)) (fun _ hk => hk.2) (.slice Ao11 t518.length co11)) (fun _ hk => hk.2) (.slice Ao16 t521.length co16)) (fun _ hk => trivial), By⟩

end Go.Proofs.YtpocoeghobdfiaaDoor.PG

-- WRITTEN BY A PROGRAM OF THIS SESSION (wip/gen/gen.py), by way of the kit's print program. Lean checks it.
namespace Go.Proofs.YtpocoeghobdfiaaDoor.PG
open Go.Proofs.YtpocoeghobdfiaaDoor.Sq Go.RowKit Go.Proofs.YtpocoeghobdfiaaDoorW.PrintWords Go.Proofs.YtpocoeghobdfiaaDoorW.PrintLast Go.Proofs.YtpocoeghobdfiaaDoorW.PrintMore
attribute [local go_sem] max2_int min2_int max_two min_two max_three min_three max_four min_four   -- for this text's walks alone
set_option linter.unusedVariables false
set_option linter.unusedSimpArgs false

/-! ### laws_toEntryS: function 76 -/
def laws_toEntryS.l0 : Nat → List (S61) → List (S67) → Int → Option ((List (S67)))
  | 0, _, _, _ => none
  | k + 1, x0, x3, x4 => if x4 < (x0.length : Int) then (if 0 ≤ x4 then ((laws_toEntry.f k ((rd_T61 x0 x4).f0) ((rd_T61 x0 x4).f1)).bind fun bt528 => (if x4 < (x3.length : Int) then (laws_toEntryS.l0 k x0 (x3.set (x4 : Int).toNat (⟨bt528.1, bt528.2⟩ : S67)) (wrap64 (x4 + 1))) else (none))) else (none)) else (some x3)
def laws_toEntryS.f (k : Nat) (l0 : List (S61)) : Option ((List (S67))) := if 0 ≤ (l0.length : Int) then (if ((l0.length : Int) : Int).toNat ≤ 5864062014805 then (laws_toEntryS.l0 k l0 (List.replicate ((l0.length : Int) : Int).toNat z67) 0) else (none)) else (none)
theorem laws_toEntryS.mono_l : ∀ k, (∀ y0 y1 y2, LeO (laws_toEntryS.l0 k y0 y1 y2) (laws_toEntryS.l0 (k + 1) y0 y1 y2))
  | 0 => fun _ _ _ r h => by simp [laws_toEntryS.l0] at h
  | k + 1 => by
    have ih0 := laws_toEntryS.mono_l k
    · intro y0 y1 y2
      unfold laws_toEntryS.l0
      repeat' first
      | (with_reducible exact ih0 _ _ _)
      | (with_reducible exact laws_toEntry.mono _ _ _)
      | (with_reducible exact LeO.refl _)
      | (with_reducible exact LeO.none _)
      | (with_reducible refine LeO.ite ?_ ?_)
      | (with_reducible refine LeO.bind ?_ (fun _ => ?_))
      | exact ih0 _ _ _
      | exact laws_toEntry.mono _ _ _
      | exact LeO.none _
      | refine LeO.ite ?_ ?_
      | refine LeO.bind ?_ (fun _ => ?_)
theorem laws_toEntryS.mono : ∀ a0 k, LeO (laws_toEntryS.f k a0) (laws_toEntryS.f (k + 1) a0) := by
  intro a0 k
  have ih0 := laws_toEntryS.mono_l k
  unfold laws_toEntryS.f
  repeat' first
      | (with_reducible exact ih0 _ _ _)
      | (with_reducible exact laws_toEntry.mono _ _ _)
      | (with_reducible exact LeO.refl _)
      | (with_reducible exact LeO.none _)
      | (with_reducible refine LeO.ite ?_ ?_)
      | (with_reducible refine LeO.bind ?_ (fun _ => ?_))
      | exact ih0 _ _ _
      | exact laws_toEntry.mono _ _ _
      | exact LeO.none _
      | refine LeO.ite ?_ ?_
      | refine LeO.bind ?_ (fun _ => ?_)
set_option maxHeartbeats 8000000 in
set_option maxRecDepth 100000 in
theorem laws_toEntryS.calls (k : Nat) (A0 : Option Addr) (c0 : Nat) (l0 : List (S61)) (r : List (S67)) (w : World) (hr0 : Kd.C k61 w A0 l0.length l0) (hc0 : l0.length ≤ c0) (h : laws_toEntryS.f k l0 = some r) :
    Calls Tryd.prog 76 #[.slice A0 l0.length c0] w fun e w' => ∃ v0_ : Value, e = .returned (v0_) ∧ Kd.R k67 67 w' w.heap.size (fun _ => True) v0_ r ∧ Below w.heap.size w w' := by
  have hu61 := Tryd.underlying61
  have hu67 := Tryd.underlying67
  have HR0 := Aside0.mk hr0
  have HC0 := Aside0.mk hc0
  clear hr0 hc0
  have HB := Aside0.mk (Below.refl w.heap.size w)
  have H : (if 0 ≤ (l0.length : Int) then (if ((l0.length : Int) : Int).toNat ≤ 5864062014805 then (laws_toEntryS.l0 k l0 (List.replicate ((l0.length : Int) : Int).toNat z67) 0) else (none)) else (none)) = some r := h
  clear h
  by_cases c2 : 0 ≤ (l0.length : Int)
  · rw [if_pos c2] at H
    have c2b0 := eq_true c2
    have c2b1 : decide (0 ≤ (l0.length : Int)) = true := decide_eq_true c2
    clear c2
    by_cases c3 : ((l0.length : Int) : Int).toNat ≤ 5864062014805
    · rw [if_pos c3] at H
      have c3b0 := eq_true c3
      have c3b1 : decide (((l0.length : Int) : Int).toNat ≤ 5864062014805) = true := decide_eq_true c3
      clear c3
      obtain ⟨y524, hy524⟩ : ∃ y_ : List (S67), y_ = (List.replicate ((l0.length : Int) : Int).toNat z67) := ⟨_, rfl⟩
      replace H : (laws_toEntryS.l0 k l0 y524 0) = some r := by first | (rw [hy524]; with_reducible exact H) | (have H2_ := (Option.bind_some _ _).symm.trans H; rw [hy524]; with_reducible exact H2_) | (have H2_ := (Option.bind_some _ _).symm.trans H; with_reducible exact H2_) | with_reducible exact H | (rw [hy524]; exact H) | exact H
      have Ny524 := Aside0.mk hy524
      clear hy524
      have H' := Aside0.mk H
      clear H
      go_enter Tryd.func76, Tryd.ntmps76
      go_wp2_with (first | ((with_reducible refine gate_dst (N := 7) rfl ?_); refine Kd.R_make k67 _ 67 rfl (N := 7) rfl 52 _ _ rfl (l0.length : Int) rfl rfl Tryd.underlying52 (.agg #[(.slice none 0 0), (.slice none 0 0)]) 48 info67 rfl (by decide) (by omega) z67 (ok := fun _ => True) (okp := fun _ => True) (k67_mkM _ _ _ z67 (Kd.R_nil _ _ _ _ _) (Kd.R_nil _ _ _ _ _)) (fun _ hk => hk) trivial (of_decide_eq_true Da) (Nat.le_trans (Nat.mul_le_mul_right _ (of_decide_eq_true Da : (l0.length : Int).toNat ≤ 5864062014805)) (by omega)) (Below.refl _ _) (Nat.le_refl _) ?_; intro v525 w4 ho5 hb hg_ hnew_; clear hg_ hnew_; (first | rw [← Ny524.out] at ho5 | (simp only [Int.reduceToNat] at ho5; rw [← Ny524.out] at ho5)); have n0_ := Aside0.mk (Kd.R_lower ho5 (below_size By)); have n1_ := Aside0.mk (below_step By hb); clear HB; have HO526 := n0_; have HB := n1_; clear n0_ n1_; clear hb ho5))
      go_loopg [4] k (fun kq v4 w' => ∃ (x3_1 : List (S67)) (x4_1 : Int), v4 = .int .i64 x4_1 ∧ Aside0 (laws_toEntryS.l0 kq l0 x3_1 x4_1 = some r) ∧ Aside0 (kq ≤ k) ∧ Aside0 (Kd.R k67 67 w' w.heap.size (fun _ => True) v525 x3_1) ∧ Aside0 (Below w.heap.size w w'))
      case atStart => exact ⟨(y524), (0), (by first | rfl | (simp; done) | (simp [*]; done)), H', ⟨Nat.le_refl _⟩, ⟨by (with_reducible repeat (first | apply Kd.R_alloc | apply Kd.R_drewN | apply Kd.R_drew)); exact HO526.out⟩, ⟨By⟩⟩
      case round =>
        clear H'
        try clear c2
        try clear c2b0
        try clear c2b1
        try clear p2
        try clear c3
        try clear c3b0
        try clear c3b1
        obtain ⟨x3_1, x4_1, rfl, HA, HK1, HO_3, HB⟩ := hrel
        cases gk with
        | zero => exact absurd HA.out (by simp [laws_toEntryS.l0])
        | succ k1 =>
          have H := HA.out
          clear HA
          simp only [laws_toEntryS.l0] at H
          by_cases c6 : x4_1 < (l0.length : Int)
          · rw [if_pos c6] at H
            have c6b0 : decide (x4_1 < (l0.length : Int)) = true := decide_eq_true c6
            clear c6
            by_cases c7 : 0 ≤ x4_1
            · rw [if_pos c7] at H
              have c7b0 : decide (0 ≤ x4_1) = true := decide_eq_true c7
              clear c7
              replace H := Option.bind_eq_some_iff.mp H
              obtain ⟨⟨t528, t531⟩, A80, H⟩ := H
              replace H : (if x4_1 < (x3_1.length : Int) then (laws_toEntryS.l0 k1 l0 (x3_1.set (x4_1 : Int).toNat (⟨t528, t531⟩ : S67)) (wrap64 (x4_1 + 1))) else (none)) = some r := H
              have A8 := Aside0.mk A80
              clear A80
              by_cases c9 : x4_1 < (x3_1.length : Int)
              · rw [if_pos c9] at H
                have c9b0 : decide (x4_1 < (x3_1.length : Int)) = true := decide_eq_true c9
                clear c9
                obtain ⟨y534, hy534⟩ : ∃ y_ : List (S67), y_ = (x3_1.set (x4_1 : Int).toNat (⟨t528, t531⟩ : S67)) := ⟨_, rfl⟩
                replace H : (laws_toEntryS.l0 k1 l0 y534 (wrap64 (x4_1 + 1))) = some r := by first | (rw [hy534]; with_reducible exact H) | (have H2_ := (Option.bind_some _ _).symm.trans H; rw [hy534]; with_reducible exact H2_) | (have H2_ := (Option.bind_some _ _).symm.trans H; with_reducible exact H2_) | with_reducible exact H | (rw [hy534]; exact H) | exact H
                have Ny534 := Aside0.mk hy534
                clear hy534
                have H' := Aside0.mk H
                clear H
                have p527 : 0 ≤ (x4_1 : Int) := of_decide_eq_true Da
                have q527 : x4_1 < (l0.length : Int) := of_decide_eq_true Da
                obtain ⟨ad527, A527_0, c527_0, A527_1, c527_1, e527, hx527_0, hx527_1, hl527_0, hi527_0, hl527_1, hi527_1⟩ := at_T61 HR0.out x4_1 p527 q527
                cases e527
                replace hx527_0 := bz HB.out hx527_0
                replace hx527_1 := bz HB.out hx527_1
                have HR527_0 := Aside0.mk hi527_0
                have HC527_0 := Aside0.mk hl527_0
                clear hi527_0 hl527_0
                have HR527_1 := Aside0.mk hi527_1
                have HC527_1 := Aside0.mk hl527_1
                clear hi527_1 hl527_1
                replace p527 := eq_true p527
                replace q527 := eq_true q527
                go_wp2_with (first | ((with_reducible refine gate_callee (f := 36) rfl ?_); refine goesL_ (some 20) rfl rfl Tryd.func36 (by kernel_rfl) rfl #[.agg #[.slice A527_0 ((rd_T61 l0 x4_1).f0).length c527_0, .slice A527_1 ((rd_T61 l0 x4_1).f1).length c527_1]] rfl Ag ?_; (with_reducible refine (laws_toEntry.calls k1 _ _ ((rd_T61 l0 x4_1).f0) _ _ ((rd_T61 l0 x4_1).f1) t528 t531 _ ?side1 ?side2 ?side3 ?side4 A8.out).mono ?_); (case side1 => repeat (first | exact (Kd.C_below HR527_0.out HB.out) | (with_reducible refine Kd.C_alloc ?_ _) | (with_reducible refine Kd.C_drewN ?_ _) | (with_reducible refine Kd.C_drew ?_))); (case side2 => exact HC527_0.out); (case side3 => repeat (first | exact (Kd.C_below HR527_1.out HB.out) | (with_reducible refine Kd.C_alloc ?_ _) | (with_reducible refine Kd.C_drewN ?_ _) | (with_reducible refine Kd.C_drew ?_))); (case side4 => exact HC527_1.out); rintro e w11 ⟨v529, v532, rfl, ho0, ho1, hb⟩; refine ⟨_, rfl, ?_⟩; have n0_ := Aside0.mk (Kd.R_mono (Kd.R_told (Kd.R_told (Kd.R_old (by (with_reducible repeat (first | apply Kd.R_alloc | apply Kd.R_drewN | apply Kd.R_drew)); exact HO_3.out) hb) (Kd.R_base ho0)) (Kd.S_base ho1)) (fun _ h_ => h_.1)); have n1_ := Aside0.mk (Kd.R_lower ho0 (below_size By)); have n2_ := Aside0.mk (Kd.S_lower ho1 (below_size By)); have n3_ := Aside0.mk (below_step By hb); clear HO_3; clear HB; have HO_3 := n0_; have HO530 := n1_; have HO533 := n2_; have HB := n3_; clear n0_ n1_ n2_ n3_; (try clear hb); (try clear hb2); (try clear hk); (try clear hi); (try clear ho0); (try clear ho1); have p10 : 0 ≤ (x4_1 : Int) := of_decide_eq_true Da; have q10 : (x4_1 : Int) < ((x3_1.length : Int) : Int) := of_decide_eq_true Da; obtain ⟨go10, co10, eo10, gb10, gl10, cl10, HG10⟩ := Kd.R_form HO_3.out (by omega); (first | cases eo10 | (injection eo10 with ea_ en_ ec_; (first | subst ea_ | (injection ea_ with ea_; subst ea_)); subst ec_; clear en_)); have GB10 := Aside0.mk gb10; have GG10 := Aside0.mk HG10; clear gb10 gl10 HG10; obtain ⟨ce10, hcl10, hM10, hcc10, hfr10⟩ := Kd.R_elem HO_3.out z67 (x4_1 : Int) p10 q10; obtain ⟨ve10_0, ve10_1, rfl, ge10_0, ge10_1⟩ := k67_openM hM10; have hx10_0 : w11.cell? ⟨go10, (x4_1 : Int).toNat * 2, none⟩ = some (ve10_0) := hcc10 0 _ rfl; have hx10_1 : w11.cell? ⟨go10, (x4_1 : Int).toNat * 2 + 1, none⟩ = some (ve10_1) := hcc10 1 _ rfl; have hf10_0 : w11.frozen? ⟨go10, (x4_1 : Int).toNat * 2, none⟩ = false := hfr10 0; have hf10_1 : w11.frozen? ⟨go10, (x4_1 : Int).toNat * 2 + 1, none⟩ = false := hfr10 1; clear hcl10 hcc10 hfr10 hM10; replace p10 := eq_true p10; replace q10 := eq_true q10; have n_ := Aside0.mk (Kd.R_mono (ok' := (fun k_ => some k_ ≠ (v529 : Value).ownBlock ∧ some k_ ≠ (v532 : Value).ownBlock)) HO_3.out (fun k_ hk => ⟨hk.1.2, hk.2⟩)); clear HO_3; have HO_3 := n_; clear n_; have HX12 := Aside0.mk (show Kd.R k67 67 w11 w.heap.size (fun _ => True) (.slice (some ⟨go10, 0, none⟩) x3_1.length co10) x3_1 from (by (with_reducible repeat (first | apply Kd.R_alloc | apply Kd.R_drewN | apply Kd.R_drew)); exact Kd.R_mono HO_3.out (fun _ hk => trivial))); obtain ⟨ce12, hcl12, hM12, hcc12, hfr12⟩ := Kd.R_elem HX12.out z67 (x4_1 : Int) (of_decide_eq_true Da) (by have h_ : (x4_1 : Int) < ((x3_1.length : Int) : Int) := of_decide_eq_true Da; first | exact h_ | (have e_ := (Kd.R_reads' HO_3.out).1; omega) | simpa using h_); obtain ⟨ve12_0, ve12_1, rfl, ge12_0, ge12_1⟩ := k67_openM hM12; have HP12 := Kd.R_seg HX12.out (x4_1 : Int) (of_decide_eq_true Da) (by have h_ : (x4_1 : Int) < ((x3_1.length : Int) : Int) := of_decide_eq_true Da; first | exact h_ | (have e_ := (Kd.R_reads' HO_3.out).1; omega) | simpa using h_) (seg := [v529, v532]) (j := 0) hcl12 hcc12 (show 2 ≤ 2 from by decide) (x' := (⟨t528, t531⟩ : S67)) (k67_mkM _ _ _ (⟨t528, t531⟩ : S67) (Kd.R_mono (Kd.R_apart' (HO530.out) (Kd.R_typed HO_3.out) (by decide)) (fun k_ hk => ⟨trivial, fun e_ => (hk.2) (by rw [e_]; rfl)⟩)) (Kd.R_mono (Kd.R_apart' ((Kd.S_R HO533.out)) (Kd.R_typed HO_3.out) (by decide)) (fun k_ hk => ⟨trivial, fun e_ => (hk.2) (by rw [e_]; rfl)⟩))) (fun _ hk => hk); have hx12_0 := hcc12 0 _ rfl; (try simp only [show (k67).sz = 2 from rfl, Nat.mul_one, Nat.add_zero] at hx12_0); have hf12_0 := hfr12 0; (try simp only [show (k67).sz = 2 from rfl, Nat.mul_one, Nat.add_zero] at hf12_0); have hx12_1 := hcc12 1 _ rfl; (try simp only [show (k67).sz = 2 from rfl, Nat.mul_one, Nat.add_zero] at hx12_1); have hf12_1 := hfr12 1; (try simp only [show (k67).sz = 2 from rfl, Nat.mul_one, Nat.add_zero] at hf12_1); clear hcl12 hcc12 hfr12 hM12) | ((with_reducible refine gate_store (t := 67) (p := 21) rfl ?_); refine store_event (t := 67) (p := 21) (v := ?vo_w13) (w1 := ((w11.setCell ⟨go10, (x4_1 : Int).toNat * 2, none⟩ (v529)).setCell ⟨go10, (x4_1 : Int).toNat * 2 + 1, none⟩ (v532))) ?hg ?ho ?hn ?hr ?_; (case ho => rfl); (case hg => rfl); (case hn => rfl); (case hr => first | (go_simp; done) | (go_simp; rfl) | (obtain ⟨Za0_, Zc0_, hz0_⟩ := Kd.R_slice HO530.out; obtain ⟨Za1_, Zc1_, hz1_⟩ := Kd.S_slice HO533.out; rw [hz0_, hz1_]; first | (go_simp; done) | (go_simp; rfl))); intro w13 hw; have hg : w11.grownBy w13 (some go10) := (by rw [hw]; exact HP12.2); have hp_ : Kd.R k67 67 w13 w.heap.size (fun _ => True) (.slice (some ⟨go10, 0, none⟩) x3_1.length co10) y534 := (by rw [hw, Ny534.out]; exact HP12.1); clear HP12; have n0_ := Aside0.mk (hp_); have n1_ := Aside0.mk ((by rw [hw]; exact below_set (below_set (HB.out) GB10.out) GB10.out : Below w.heap.size w w13)); clear HO_3; clear HB; clear HO530; clear HO533; have HO_3 := n0_; have HB := n1_; clear n0_ n1_; clear hg hw hp_))
                go_roundg k1
                case measure => have := HK1.out; omega
                case rel => exact ⟨(y534), (wrap64 (x4_1 + 1)), (by first | rfl | (simp; done) | (simp [*]; done)), H', ⟨by have := HK1.out; omega⟩, ⟨by (with_reducible repeat (first | apply Kd.R_alloc | apply Kd.R_drewN | apply Kd.R_drew)); exact HO_3.out⟩, ⟨By⟩⟩
              · rw [if_neg c9] at H
                exact absurd H (by simp)
            · rw [if_neg c7] at H
              exact absurd H (by simp)
          · rw [if_neg c6] at H
            have c6b0 : decide (x4_1 < (l0.length : Int)) = false := decide_eq_false c6
            clear c6
            obtain rfl := Option.some.inj H
            go_wp2
            go_ret
            exact ⟨_, Rf, by (with_reducible repeat (first | apply Kd.R_alloc | apply Kd.R_drewN | apply Kd.R_drew)); exact HO_3.out, By⟩
    · rw [if_neg c3] at H
      exact absurd H (by simp)
  · rw [if_neg c2] at H
    exact absurd H (by simp)

end Go.Proofs.YtpocoeghobdfiaaDoor.PG

-- WRITTEN BY A PROGRAM OF THIS SESSION (wip/gen/gen.py), by way of the kit's print program. Lean checks it.
namespace Go.Proofs.YtpocoeghobdfiaaDoor.PG
open Go.Proofs.YtpocoeghobdfiaaDoor.Sq Go.RowKit Go.Proofs.YtpocoeghobdfiaaDoorW.PrintWords Go.Proofs.YtpocoeghobdfiaaDoorW.PrintLast Go.Proofs.YtpocoeghobdfiaaDoorW.PrintMore
attribute [local go_sem] max2_int min2_int max_two min_two max_three min_three max_four min_four   -- for this text's walks alone
set_option linter.unusedVariables false
set_option linter.unusedSimpArgs false

/-! ### laws_toAnswer: function 31 -/
def laws_toAnswer.f (k : Nat) (a0_0 : Int) (a0_1 : Int) (l0_2 : List (S61)) : Option (Int × Int × (List (S67))) := (laws_toEntryS.f k l0_2).bind fun t538 => (some (a0_0, a0_1, t538))
theorem laws_toAnswer.mono : ∀ a0 a1 a2 k, LeO (laws_toAnswer.f k a0 a1 a2) (laws_toAnswer.f (k + 1) a0 a1 a2) := by
  intro a0 a1 a2 k
  unfold laws_toAnswer.f
  repeat' first
      | (with_reducible exact laws_toEntryS.mono _ _)
      | (with_reducible exact LeO.refl _)
      | (with_reducible exact LeO.none _)
      | (with_reducible refine LeO.ite ?_ ?_)
      | (with_reducible refine LeO.bind ?_ (fun _ => ?_))
      | exact laws_toEntryS.mono _ _
      | exact LeO.none _
      | refine LeO.ite ?_ ?_
      | refine LeO.bind ?_ (fun _ => ?_)
set_option maxHeartbeats 8000000 in
set_option maxRecDepth 100000 in
theorem laws_toAnswer.calls (k : Nat) (a0_0 : Int) (a0_1 : Int) (A0_2 : Option Addr) (c0_2 : Nat) (l0_2 : List (S61)) (r1 : Int) (r2 : Int) (r3 : List (S67)) (w : World) (hr0_2 : Kd.C k61 w A0_2 l0_2.length l0_2) (hc0_2 : l0_2.length ≤ c0_2) (h : laws_toAnswer.f k a0_0 a0_1 l0_2 = some (r1, r2, r3)) :
    Calls Tryd.prog 31 #[.agg #[.int .i64 a0_0, .int .i64 a0_1, .slice A0_2 l0_2.length c0_2]] w fun e w' => ∃ v2_ : Value, e = .returned (.agg #[.int .i64 r1, .int .i64 r2, v2_]) ∧ Kd.R k67 67 w' w.heap.size (fun _ => True) v2_ r3 ∧ Below w.heap.size w w' := by
  have hu49 := Tryd.underlying49
  have hu54 := Tryd.underlying54
  have HR0_2 := Aside0.mk hr0_2
  have HC0_2 := Aside0.mk hc0_2
  clear hr0_2 hc0_2
  have HB := Aside0.mk (Below.refl w.heap.size w)
  have H : ((laws_toEntryS.f k l0_2).bind fun t538 => (some (a0_0, a0_1, t538))) = some (r1, r2, r3) := h
  clear h
  replace H := Option.bind_eq_some_iff.mp H
  obtain ⟨t538, A20, H⟩ := H
  replace H : (some (a0_0, a0_1, t538)) = some (r1, r2, r3) := H
  have A2 := Aside0.mk A20
  clear A20
  simp only [Option.some.injEq, Prod.mk.injEq] at H
  obtain ⟨rfl, rfl, rfl⟩ := H
  go_enter Tryd.func31, Tryd.ntmps31
  go_wp2_with (first | ((with_reducible refine gate_dst (N := 1) rfl ?_); refine box_event ?hg (N := 1) ?hd (cs := #[.int .i64 a0_0, .int .i64 a0_1, .slice A0_2 l0_2.length c0_2]) (t := 49) ?hr ?_; (case hd => rfl); (case hg => rfl); (case hr => first | (go_simp; done) | (go_simp; rfl)); intro gb535 hg w3 hbox hb; have n0_ := Aside0.mk (below_step By hb); have n1_ := Aside0.mk (hbox); have n2_ := Aside0.mk ((by rw [hg]; exact (below_size By) : w.heap.size ≤ gb535)); have n3_ := Aside0.mk ((by rw [hg]; exact (below_size By) : w.heap.size ≤ gb535)); clear HB; have HB := n0_; have BK535 := n1_; have GW535 := n2_; have GE535 := n3_; clear n0_ n1_ n2_ n3_; clear hb hbox hg) | ((with_reducible refine gate_dst (N := 2) rfl ?_); refine box_event ?hg (N := 2) ?hd (cs := #[.int .i64 0, .int .i64 0, .slice none 0 0]) (t := 54) ?hr ?_; (case hd => rfl); (case hg => rfl); (case hr => first | (go_simp; done) | (go_simp; rfl)); intro gb536 hg w4 hbox hb; have n0_ := Aside0.mk (bb BK535.out hb); have n1_ := Aside0.mk (below_step By hb); have n2_ := Aside0.mk (hbox); have n3_ := Aside0.mk ((by rw [hg]; exact (below_size By) : w.heap.size ≤ gb536)); have n4_ := Aside0.mk ((by rw [hg]; exact (below_size By) : w.heap.size ≤ gb536)); have n5_ := Aside0.mk ((by rw [hg]; exact Nat.ne_of_lt (bl BK535.out) : gb535 ≠ gb536)); have n6_ := Aside0.mk ((by rw [hg]; exact Nat.ne_of_gt (bl BK535.out) : gb536 ≠ gb535)); clear BK535; clear HB; have BK535 := n0_; have HB := n1_; have BK536 := n2_; have GW536 := n3_; have GE536 := n4_; have NB535_536 := n5_; have NB536_535 := n6_; clear n0_ n1_ n2_ n3_ n4_ n5_ n6_; clear hb hbox hg) | ((with_reducible refine gate_dst (N := 3) rfl ?_); refine box_event ?hg (N := 3) ?hd (cs := #[.int .i64 0, .int .i64 0, .slice none 0 0]) (t := 54) ?hr ?_; (case hd => rfl); (case hg => rfl); (case hr => first | (go_simp; done) | (go_simp; rfl)); intro gb537 hg w5 hbox hb; have n0_ := Aside0.mk (bb BK535.out hb); have n1_ := Aside0.mk (bb BK536.out hb); have n2_ := Aside0.mk (below_step By hb); have n3_ := Aside0.mk (hbox); have n4_ := Aside0.mk ((by rw [hg]; exact (below_size By) : w.heap.size ≤ gb537)); have n5_ := Aside0.mk ((by rw [hg]; exact (below_size By) : w.heap.size ≤ gb537)); have n6_ := Aside0.mk ((by rw [hg]; exact Nat.ne_of_lt (bl BK535.out) : gb535 ≠ gb537)); have n7_ := Aside0.mk ((by rw [hg]; exact Nat.ne_of_gt (bl BK535.out) : gb537 ≠ gb535)); have n8_ := Aside0.mk ((by rw [hg]; exact Nat.ne_of_lt (bl BK536.out) : gb536 ≠ gb537)); have n9_ := Aside0.mk ((by rw [hg]; exact Nat.ne_of_gt (bl BK536.out) : gb537 ≠ gb536)); clear BK535; clear BK536; clear HB; have BK535 := n0_; have BK536 := n1_; have HB := n2_; have BK537 := n3_; have GW537 := n4_; have GE537 := n5_; have NB535_537 := n6_; have NB537_535 := n7_; have NB536_537 := n8_; have NB537_536 := n9_; clear n0_ n1_ n2_ n3_ n4_ n5_ n6_ n7_ n8_ n9_; clear hb hbox hg; have hnb6 := NB535_536.out; have hnc6 := NB536_535.out; have hnb7 := NB535_537.out; have hnc7 := NB537_535.out; have ⟨hcz8_0, hcz8_1, hcz8_2⟩ := cq3 BK535.out; have ⟨hfz8_0, hfz8_1, hfz8_2⟩ := fq3 BK535.out; have hnb9 := NB537_536.out; have hnc9 := NB536_537.out; have ⟨hcz10_0, hcz10_1, hcz10_2⟩ := cq3 BK537.out; have ⟨hfz10_0, hfz10_1, hfz10_2⟩ := fq3 BK537.out) | ((with_reducible refine gate_callee (f := 76) rfl ?_); refine goesL_ (some 12) rfl rfl Tryd.func76 (by kernel_rfl) rfl #[.slice A0_2 l0_2.length c0_2] rfl Ag ?_; (with_reducible refine (laws_toEntryS.calls k _ _ l0_2 t538 _ ?side1 ?side2 A2.out).mono ?_); (case side1 => exact Kd.C_below HR0_2.out By); (case side2 => exact HC0_2.out); rintro e w11 ⟨v539, rfl, ho0, hb⟩; refine ⟨_, rfl, ?_⟩; have n0_ := Aside0.mk (Kd.R_lower ho0 (below_size By)); have n1_ := Aside0.mk (bf BK535.out hb); have n2_ := Aside0.mk (bf BK536.out hb); have n3_ := Aside0.mk (blk_below (g := gb537) (o := .cells #[.int .i64 a0_0, .int .i64 a0_1, .slice none 0 0] 54 (0, 0)) (pq2o3 Pk) hb); have n4_ := Aside0.mk (below_step By hb); clear BK535; clear BK536; clear BK537; clear HB; have HO540 := n0_; have BK535 := n1_; have BK536 := n2_; have BK537 := n3_; have HB := n4_; clear n0_ n1_ n2_ n3_ n4_; (try clear hb); (try clear hb2); (try clear hk); (try clear hi); (try clear ho0); obtain ⟨Ao12, co12, eo12⟩ := Kd.R_slice HO540.out; subst eo12; have ⟨hcz13_0, hcz13_1, hcz13_2⟩ := cq3 BK537.out; have ⟨hfz13_0, hfz13_1, hfz13_2⟩ := fq3 BK537.out; have ⟨hcz14_0, hcz14_1, hcz14_2⟩ := cq3 BK536.out; have ⟨hfz14_0, hfz14_1, hfz14_2⟩ := fq3 BK536.out))
  refine bodyPost_ret (results_cell_row rfl _ _ gb536 54 #[.int .i64 a0_0, .int .i64 a0_1, .slice Ao12 t538.length co12] (0, 0) _ rfl (by (with_reducible repeat (first | refine blk_drewN ?_ _ | refine blk_drew ?_ | refine blk_alloc ?_ _)); refine blk_put (cs := #[.int .i64 a0_0, .int .i64 a0_1, .slice none 0 0]) ?_ 2 _ rfl; (with_reducible repeat (first | refine blk_drewN ?_ _ | refine blk_drew ?_ | refine blk_alloc ?_ _)); refine blk_put (cs := #[.int .i64 a0_0, .int .i64 0, .slice none 0 0]) ?_ 1 _ rfl; (with_reducible repeat (first | refine blk_drewN ?_ _ | refine blk_drew ?_ | refine blk_alloc ?_ _)); refine blk_put (cs := #[.int .i64 0, .int .i64 0, .slice none 0 0]) ?_ 0 _ rfl; (with_reducible repeat (first | refine blk_drewN ?_ _ | refine blk_drew ?_ | refine blk_alloc ?_ _)); refine blk_far ?_ NB536_537.out _; (with_reducible repeat (first | refine blk_drewN ?_ _ | refine blk_drew ?_ | refine blk_alloc ?_ _)); exact BK536.out) Tryd.underlying54 rfl (by kernel_rfl)) rfl ?_
  exact ⟨_, Rf, by (with_reducible repeat (first | apply Kd.R_alloc | apply Kd.R_drewN | apply Kd.R_drew)); exact Kd.R_mono (Kd.R_far (p := ⟨gb536, 2, none⟩) (Kd.R_far (p := ⟨gb536, 1, none⟩) (Kd.R_far (p := ⟨gb536, 0, none⟩) (Kd.R_far (p := ⟨gb537, 2, none⟩) (Kd.R_types (Kd.R_types HO540.out BK537.out (by decide)) BK536.out (by decide)) (fun _ hk => hk.1.2) (.slice Ao12 t538.length co12)) (fun _ hk => hk.2) (.int .i64 a0_0)) (fun _ hk => hk.2) (.int .i64 a0_1)) (fun _ hk => hk.2) (.slice Ao12 t538.length co12)) (fun _ hk => trivial), By⟩

end Go.Proofs.YtpocoeghobdfiaaDoor.PG

-- WRITTEN BY A PROGRAM OF THIS SESSION (wip/gen/gen.py), by way of the kit's print program. Lean checks it.
namespace Go.Proofs.YtpocoeghobdfiaaDoor.PG
open Go.Proofs.YtpocoeghobdfiaaDoor.Sq Go.RowKit Go.Proofs.YtpocoeghobdfiaaDoorW.PrintWords Go.Proofs.YtpocoeghobdfiaaDoorW.PrintLast Go.Proofs.YtpocoeghobdfiaaDoorW.PrintMore
attribute [local go_sem] max2_int min2_int max_two min_two max_three min_three max_four min_four   -- for this text's walks alone
set_option linter.unusedVariables false
set_option linter.unusedSimpArgs false

/-! ### laws_eqRdn: function 132 -/
def laws_eqRdn.f (a0_0 : ByteArray) (a0_1 : ByteArray) (a1_0 : ByteArray) (a1_1 : ByteArray) : Option (Bool) := if a0_0.toList = a1_0.toList then (if a0_1.toList = a1_1.toList then (some true) else (some false)) else (some false)
set_option maxHeartbeats 8000000 in
set_option maxRecDepth 100000 in
theorem laws_eqRdn.calls (a0_0 : ByteArray) (a0_1 : ByteArray) (a1_0 : ByteArray) (a1_1 : ByteArray) (r : Bool) (w : World) (h : laws_eqRdn.f a0_0 a0_1 a1_0 a1_1 = some r) :
    Calls Tryd.prog 132 #[.agg #[.string a0_0, .string a0_1], .agg #[.string a1_0, .string a1_1]] w fun e w' => e = .returned (.bool r) ∧ Below w.heap.size w w' := by
  have hu153 := Tryd.underlying153
  have HB := Aside0.mk (Below.refl w.heap.size w)
  have H : (if a0_0.toList = a1_0.toList then (if a0_1.toList = a1_1.toList then (some true) else (some false)) else (some false)) = some r := h
  clear h
  by_cases c3 : a0_0.toList = a1_0.toList
  · rw [if_pos c3] at H
    have c3b0 : (a0_0.toList == a1_0.toList) = true := beq_iff_eq.mpr c3
    have c3b1 : (a0_0.toList != a1_0.toList) = false := bne_eq_false_iff_eq.mpr c3
    clear c3
    by_cases c4 : a0_1.toList = a1_1.toList
    · rw [if_pos c4] at H
      have c4b0 : (a0_1.toList == a1_1.toList) = true := beq_iff_eq.mpr c4
      have c4b1 : (a0_1.toList != a1_1.toList) = false := bne_eq_false_iff_eq.mpr c4
      clear c4
      obtain rfl := Option.some.inj H
      go_enter Tryd.func132, Tryd.ntmps132
      go_wp2_with (first | ((with_reducible refine gate_dst (N := 2) rfl ?_); refine box_event ?hg (N := 2) ?hd (cs := #[.string a0_0, .string a0_1]) (t := 153) ?hr ?_; (case hd => rfl); (case hg => rfl); (case hr => first | (go_simp; done) | (go_simp; rfl)); intro gb541 hg w5 hbox hb; have n0_ := Aside0.mk (below_step By hb); have n1_ := Aside0.mk (hbox); have n2_ := Aside0.mk ((by rw [hg]; exact (below_size By) : w.heap.size ≤ gb541)); have n3_ := Aside0.mk ((by rw [hg]; exact (below_size By) : w.heap.size ≤ gb541)); clear HB; have HB := n0_; have BK541 := n1_; have GW541 := n2_; have GE541 := n3_; clear n0_ n1_ n2_ n3_; clear hb hbox hg) | ((with_reducible refine gate_dst (N := 3) rfl ?_); refine box_event ?hg (N := 3) ?hd (cs := #[.string a1_0, .string a1_1]) (t := 153) ?hr ?_; (case hd => rfl); (case hg => rfl); (case hr => first | (go_simp; done) | (go_simp; rfl)); intro gb542 hg w6 hbox hb; have n0_ := Aside0.mk (bb BK541.out hb); have n1_ := Aside0.mk (below_step By hb); have n2_ := Aside0.mk (hbox); have n3_ := Aside0.mk ((by rw [hg]; exact (below_size By) : w.heap.size ≤ gb542)); have n4_ := Aside0.mk ((by rw [hg]; exact (below_size By) : w.heap.size ≤ gb542)); have n5_ := Aside0.mk ((by rw [hg]; exact Nat.ne_of_lt (bl BK541.out) : gb541 ≠ gb542)); have n6_ := Aside0.mk ((by rw [hg]; exact Nat.ne_of_gt (bl BK541.out) : gb542 ≠ gb541)); clear BK541; clear HB; have BK541 := n0_; have HB := n1_; have BK542 := n2_; have GW542 := n3_; have GE542 := n4_; have NB541_542 := n5_; have NB542_541 := n6_; clear n0_ n1_ n2_ n3_ n4_ n5_ n6_; clear hb hbox hg; have hnb7 := NB541_542.out; have hnc7 := NB542_541.out; have ⟨hcz8_0, hcz8_1⟩ := cq2 BK541.out; have ⟨hfz8_0, hfz8_1⟩ := fq2 BK541.out; have ⟨hcz9_0, hcz9_1⟩ := cq2 BK542.out; have ⟨hfz9_0, hfz9_1⟩ := fq2 BK542.out))
      go_ret
      exact ⟨Rf, By⟩
    · rw [if_neg c4] at H
      have c4b0 : (a0_1.toList == a1_1.toList) = false := beq_eq_false_iff_ne.mpr c4
      have c4b1 : (a0_1.toList != a1_1.toList) = true := bne_iff_ne.mpr c4
      obtain rfl := Option.some.inj H
      go_enter Tryd.func132, Tryd.ntmps132
      go_wp2_with (first | ((with_reducible refine gate_dst (N := 2) rfl ?_); refine box_event ?hg (N := 2) ?hd (cs := #[.string a0_0, .string a0_1]) (t := 153) ?hr ?_; (case hd => rfl); (case hg => rfl); (case hr => first | (go_simp; done) | (go_simp; rfl)); intro gb541 hg w10 hbox hb; have n0_ := Aside0.mk (below_step By hb); have n1_ := Aside0.mk (hbox); have n2_ := Aside0.mk ((by rw [hg]; exact (below_size By) : w.heap.size ≤ gb541)); have n3_ := Aside0.mk ((by rw [hg]; exact (below_size By) : w.heap.size ≤ gb541)); clear HB; have HB := n0_; have BK541 := n1_; have GW541 := n2_; have GE541 := n3_; clear n0_ n1_ n2_ n3_; clear hb hbox hg) | ((with_reducible refine gate_dst (N := 3) rfl ?_); refine box_event ?hg (N := 3) ?hd (cs := #[.string a1_0, .string a1_1]) (t := 153) ?hr ?_; (case hd => rfl); (case hg => rfl); (case hr => first | (go_simp; done) | (go_simp; rfl)); intro gb542 hg w11 hbox hb; have n0_ := Aside0.mk (bb BK541.out hb); have n1_ := Aside0.mk (below_step By hb); have n2_ := Aside0.mk (hbox); have n3_ := Aside0.mk ((by rw [hg]; exact (below_size By) : w.heap.size ≤ gb542)); have n4_ := Aside0.mk ((by rw [hg]; exact (below_size By) : w.heap.size ≤ gb542)); have n5_ := Aside0.mk ((by rw [hg]; exact Nat.ne_of_lt (bl BK541.out) : gb541 ≠ gb542)); have n6_ := Aside0.mk ((by rw [hg]; exact Nat.ne_of_gt (bl BK541.out) : gb542 ≠ gb541)); clear BK541; clear HB; have BK541 := n0_; have HB := n1_; have BK542 := n2_; have GW542 := n3_; have GE542 := n4_; have NB541_542 := n5_; have NB542_541 := n6_; clear n0_ n1_ n2_ n3_ n4_ n5_ n6_; clear hb hbox hg; have hnb12 := NB541_542.out; have hnc12 := NB542_541.out; have ⟨hcz13_0, hcz13_1⟩ := cq2 BK541.out; have ⟨hfz13_0, hfz13_1⟩ := fq2 BK541.out; have ⟨hcz14_0, hcz14_1⟩ := cq2 BK542.out; have ⟨hfz14_0, hfz14_1⟩ := fq2 BK542.out))
      go_ret
      exact ⟨Rf, By⟩
  · rw [if_neg c3] at H
    have c3b0 : (a0_0.toList == a1_0.toList) = false := beq_eq_false_iff_ne.mpr c3
    have c3b1 : (a0_0.toList != a1_0.toList) = true := bne_iff_ne.mpr c3
    obtain rfl := Option.some.inj H
    go_enter Tryd.func132, Tryd.ntmps132
    go_wp2_with (first | ((with_reducible refine gate_dst (N := 2) rfl ?_); refine box_event ?hg (N := 2) ?hd (cs := #[.string a0_0, .string a0_1]) (t := 153) ?hr ?_; (case hd => rfl); (case hg => rfl); (case hr => first | (go_simp; done) | (go_simp; rfl)); intro gb541 hg w15 hbox hb; have n0_ := Aside0.mk (below_step By hb); have n1_ := Aside0.mk (hbox); have n2_ := Aside0.mk ((by rw [hg]; exact (below_size By) : w.heap.size ≤ gb541)); have n3_ := Aside0.mk ((by rw [hg]; exact (below_size By) : w.heap.size ≤ gb541)); clear HB; have HB := n0_; have BK541 := n1_; have GW541 := n2_; have GE541 := n3_; clear n0_ n1_ n2_ n3_; clear hb hbox hg) | ((with_reducible refine gate_dst (N := 3) rfl ?_); refine box_event ?hg (N := 3) ?hd (cs := #[.string a1_0, .string a1_1]) (t := 153) ?hr ?_; (case hd => rfl); (case hg => rfl); (case hr => first | (go_simp; done) | (go_simp; rfl)); intro gb542 hg w16 hbox hb; have n0_ := Aside0.mk (bb BK541.out hb); have n1_ := Aside0.mk (below_step By hb); have n2_ := Aside0.mk (hbox); have n3_ := Aside0.mk ((by rw [hg]; exact (below_size By) : w.heap.size ≤ gb542)); have n4_ := Aside0.mk ((by rw [hg]; exact (below_size By) : w.heap.size ≤ gb542)); have n5_ := Aside0.mk ((by rw [hg]; exact Nat.ne_of_lt (bl BK541.out) : gb541 ≠ gb542)); have n6_ := Aside0.mk ((by rw [hg]; exact Nat.ne_of_gt (bl BK541.out) : gb542 ≠ gb541)); clear BK541; clear HB; have BK541 := n0_; have HB := n1_; have BK542 := n2_; have GW542 := n3_; have GE542 := n4_; have NB541_542 := n5_; have NB542_541 := n6_; clear n0_ n1_ n2_ n3_ n4_ n5_ n6_; clear hb hbox hg; have hnb17 := NB541_542.out; have hnc17 := NB542_541.out; have ⟨hcz18_0, hcz18_1⟩ := cq2 BK541.out; have ⟨hfz18_0, hfz18_1⟩ := fq2 BK541.out; have ⟨hcz19_0, hcz19_1⟩ := cq2 BK542.out; have ⟨hfz19_0, hfz19_1⟩ := fq2 BK542.out))
    go_ret
    exact ⟨Rf, By⟩

end Go.Proofs.YtpocoeghobdfiaaDoor.PG

-- WRITTEN BY A PROGRAM OF THIS SESSION (wip/gen/gen.py), by way of the kit's print program. Lean checks it.
namespace Go.Proofs.YtpocoeghobdfiaaDoor.PG
open Go.Proofs.YtpocoeghobdfiaaDoor.Sq Go.RowKit Go.Proofs.YtpocoeghobdfiaaDoorW.PrintWords Go.Proofs.YtpocoeghobdfiaaDoorW.PrintLast Go.Proofs.YtpocoeghobdfiaaDoorW.PrintMore
attribute [local go_sem] max2_int min2_int max_two min_two max_three min_three max_four min_four   -- for this text's walks alone
set_option linter.unusedVariables false
set_option linter.unusedSimpArgs false

/-! ### laws_eqRdnS: function 90 -/
def laws_eqRdnS.l0 : Nat → List (S153) → List (S153) → Int → Option (Bool)
  | 0, _, _, _ => none
  | k + 1, x0, x1, x5 => if x5 < (x0.length : Int) then (if 0 ≤ x5 then (if x5 < (x1.length : Int) then ((laws_eqRdn.f ((rd_T153 x0 x5).f0) ((rd_T153 x0 x5).f1) ((rd_T153 x1 x5).f0) ((rd_T153 x1 x5).f1)).bind fun t545 => (if t545 = true then (laws_eqRdnS.l0 k x0 x1 (wrap64 (x5 + 1))) else (some false))) else (none)) else (none)) else (some true)
def laws_eqRdnS.f (k : Nat) (l0 : List (S153)) (l1 : List (S153)) : Option (Bool) := if (l0.length : Int) = (l1.length : Int) then (laws_eqRdnS.l0 k l0 l1 0) else (some false)
theorem laws_eqRdnS.mono_l : ∀ k, (∀ y0 y1 y2, LeO (laws_eqRdnS.l0 k y0 y1 y2) (laws_eqRdnS.l0 (k + 1) y0 y1 y2))
  | 0 => fun _ _ _ r h => by simp [laws_eqRdnS.l0] at h
  | k + 1 => by
    have ih0 := laws_eqRdnS.mono_l k
    · intro y0 y1 y2
      unfold laws_eqRdnS.l0
      repeat' first
      | (with_reducible exact ih0 _ _ _)
      | (with_reducible exact LeO.refl _)
      | (with_reducible exact LeO.none _)
      | (with_reducible refine LeO.ite ?_ ?_)
      | (with_reducible refine LeO.bind ?_ (fun _ => ?_))
      | exact ih0 _ _ _
      | exact LeO.none _
      | refine LeO.ite ?_ ?_
      | refine LeO.bind ?_ (fun _ => ?_)
theorem laws_eqRdnS.mono : ∀ a0 a1 k, LeO (laws_eqRdnS.f k a0 a1) (laws_eqRdnS.f (k + 1) a0 a1) := by
  intro a0 a1 k
  have ih0 := laws_eqRdnS.mono_l k
  unfold laws_eqRdnS.f
  repeat' first
      | (with_reducible exact ih0 _ _ _)
      | (with_reducible exact LeO.refl _)
      | (with_reducible exact LeO.none _)
      | (with_reducible refine LeO.ite ?_ ?_)
      | (with_reducible refine LeO.bind ?_ (fun _ => ?_))
      | exact ih0 _ _ _
      | exact LeO.none _
      | refine LeO.ite ?_ ?_
      | refine LeO.bind ?_ (fun _ => ?_)
def laws_eqRdnS.T6 : Bool × List (List Nat × List Nat) := (true, [([], []), ([], []), ([0, 1], [0, 1]), ([2], [2]), ([], []), ([], []), ([4, 5], [4, 5]), ([6], [6]), ([3, 7], [3, 7]), ([8], [8])])
def laws_eqRdnS.B6 : List Nat := [0, 0, 3, 7, 0, 0, 48, 112, 255, 511]
theorem laws_eqRdnS.tab6 : rtab .any (opsOf Tryd.f90 6) = laws_eqRdnS.T6 := by kernel_rfl
theorem laws_eqRdnS.bits6 : waitsOk laws_eqRdnS.T6.2 laws_eqRdnS.B6 = true := by kernel_rfl
set_option maxHeartbeats 8000000 in
set_option maxRecDepth 100000 in
theorem laws_eqRdnS.calls (k : Nat) (A0 : Option Addr) (c0 : Nat) (l0 : List (S153)) (A1 : Option Addr) (c1 : Nat) (l1 : List (S153)) (r : Bool) (w : World) (hr0 : Kd.C k153 w A0 l0.length l0) (hc0 : l0.length ≤ c0) (hr1 : Kd.C k153 w A1 l1.length l1) (hc1 : l1.length ≤ c1) (h : laws_eqRdnS.f k l0 l1 = some r) :
    Calls Tryd.prog 90 #[.slice A0 l0.length c0, .slice A1 l1.length c1] w fun e w' => e = .returned (.bool r) ∧ Below w.heap.size w w' := by
  have hu153 := Tryd.underlying153
  have HR0 := Aside0.mk hr0
  have HC0 := Aside0.mk hc0
  clear hr0 hc0
  have HR1 := Aside0.mk hr1
  have HC1 := Aside0.mk hc1
  clear hr1 hc1
  have HB := Aside0.mk (Below.refl w.heap.size w)
  have H : (if (l0.length : Int) = (l1.length : Int) then (laws_eqRdnS.l0 k l0 l1 0) else (some false)) = some r := h
  clear h
  by_cases c3 : (l0.length : Int) = (l1.length : Int)
  · rw [if_pos c3] at H
    have c3b0 : ((l0.length : Int) == (l1.length : Int)) = true := beq_iff_eq.mpr c3
    have c3b1 : ((l0.length : Int) != (l1.length : Int)) = false := bne_eq_false_iff_eq.mpr c3
    have c3b2 : (l0.length == l1.length) = true := by first | simpa using c3 | (simp at c3 ⊢; omega)
    clear c3
    have H' := Aside0.mk H
    clear H
    go_enter Tryd.func90, Tryd.ntmps90
    go_wp2
    go_loopg [5] k (fun kq v5 w' => ∃ (x5_1 : Int), v5 = .int .i64 x5_1 ∧ Aside0 (laws_eqRdnS.l0 kq l0 l1 x5_1 = some r) ∧ Aside0 (kq ≤ k) ∧ Aside0 (Below w.heap.size w w'))
    case atStart => exact ⟨(0), (by first | rfl | (simp; done) | (simp [*]; done)), H', ⟨Nat.le_refl _⟩, ⟨By⟩⟩
    case round =>
      clear H'
      try clear c1
      try clear p2
      try clear c3
      try clear c3b0
      try clear c3b1
      try clear c3b2
      obtain ⟨x5_1, rfl, HA, HK1, HB⟩ := hrel
      cases gk with
      | zero => exact absurd HA.out (by simp [laws_eqRdnS.l0])
      | succ k1 =>
        have H := HA.out
        clear HA
        simp only [laws_eqRdnS.l0] at H
        by_cases c4 : x5_1 < (l0.length : Int)
        · rw [if_pos c4] at H
          have c4b0 : decide (x5_1 < (l0.length : Int)) = true := decide_eq_true c4
          clear c4
          by_cases c5 : 0 ≤ x5_1
          · rw [if_pos c5] at H
            have c5b0 : decide (0 ≤ x5_1) = true := decide_eq_true c5
            clear c5
            by_cases c6 : x5_1 < (l1.length : Int)
            · rw [if_pos c6] at H
              have c6b0 : decide (x5_1 < (l1.length : Int)) = true := decide_eq_true c6
              clear c6
              replace H := Option.bind_eq_some_iff.mp H
              obtain ⟨t545, A70, H⟩ := H
              replace H : (if t545 = true then (laws_eqRdnS.l0 k1 l0 l1 (wrap64 (x5_1 + 1))) else (some false)) = some r := H
              have A7 := Aside0.mk A70
              clear A70
              by_cases c8 : t545 = true
              · subst c8
                have H1 : (laws_eqRdnS.l0 k1 l0 l1 (wrap64 (x5_1 + 1))) = some r := by rw [if_pos rfl] at H; exact H
                clear H
                have H := H1
                clear H1
                have H' := Aside0.mk H
                clear H
                try go_wp2
                have n0_ := Aside0.mk (below_drew1 HB.out)
                clear HB
                have HB := n0_
                clear n0_
                have p543 : 0 ≤ (x5_1 : Int) := of_decide_eq_true Da
                have q543 : x5_1 < (l0.length : Int) := of_decide_eq_true Da
                obtain ⟨ad543, e543, hx543_0, hx543_1⟩ := at_T153 HR0.out x5_1 p543 q543
                have hw543_1 := hx543_1
                have hw543_0 := hx543_0
                cases e543
                replace hx543_0 := bz HB.out hx543_0
                replace hx543_1 := bz HB.out hx543_1
                replace p543 := eq_true p543
                replace q543 := eq_true q543
                have p544 : 0 ≤ (x5_1 : Int) := of_decide_eq_true Da
                have q544 : x5_1 < (l1.length : Int) := of_decide_eq_true Da
                obtain ⟨ad544, e544, hx544_0, hx544_1⟩ := at_T153 HR1.out x5_1 p544 q544
                have hw544_1 := hx544_1
                have hw544_0 := hx544_0
                cases e544
                replace hx544_0 := bz HB.out hx544_0
                replace hx544_1 := bz HB.out hx544_1
                replace p544 := eq_true p544
                replace q544 := eq_true q544
                refine start_ (n := 10) (S := fun w' => w'.cell? (ad543.add ((x5_1).toNat * 2)) = some (.string ((rd_T153 l0 x5_1).f0)) ∧ w'.cell? ⟨(ad543.add ((x5_1).toNat * 2)).block, (ad543.add ((x5_1).toNat * 2)).off + 1, none⟩ = some (.string ((rd_T153 l0 x5_1).f1)) ∧ w'.cell? (ad544.add ((x5_1).toNat * 2)) = some (.string ((rd_T153 l1 x5_1).f0)) ∧ w'.cell? ⟨(ad544.add ((x5_1).toNat * 2)).block, (ad544.add ((x5_1).toNat * 2)).off + 1, none⟩ = some (.string ((rd_T153 l1 x5_1).f1))) (ds := []) (bv 10 0) (by kernel_rfl) rfl rfl ⟨(bz HB.out hw543_0), (bz HB.out hw543_1), (bz HB.out hw544_0), (bz HB.out hw544_1)⟩ (fun hHeld => ?_); refine with_tabW laws_eqRdnS.tab6 laws_eqRdnS.bits6 (fun HT_ HW_ => ?_)
                generalize wr.drew = w9 at HB hx543_0 hx543_1 hx544_0 hx544_1 hHeld ⊢
                refine pu 0 17 (bv 10 1) HT_.out (h := ?_)
                refine pu 1 18 (bv 10 3) HT_.out (h := ?_)
                refine pu 2 19 (bv 10 7) HT_.out (h := ?_)
                refine pu 4 21 (bv 10 23) HT_.out (h := ?_)
                refine pu 5 22 (bv 10 55) HT_.out (h := ?_)
                refine pu 6 23 (bv 10 119) HT_.out (h := ?_)
                refine tk 3 20 (bv 10 127) HT_.out HW_.out hHeld (h := ?_)
                refine tk 7 24 (bv 10 255) HT_.out HW_.out hHeld (h := ?_)
                refine one_ (i := 8) (N := some 25) (bv 10 511) rfl rfl (one_of HT_.out (by kernel_rfl)) (by decide) (fun K hK => ?_)
                refine goes_ Tryd.func132 (by kernel_rfl) rfl #[.agg #[.string ((rd_T153 l0 x5_1).f0), .string ((rd_T153 l0 x5_1).f1)], .agg #[.string ((rd_T153 l1 x5_1).f0), .string ((rd_T153 l1 x5_1).f1)]] (by rfl) rfl rfl Ag ?_
                with_reducible refine (laws_eqRdn.calls ((rd_T153 l0 x5_1).f0) ((rd_T153 l0 x5_1).f1) ((rd_T153 l1 x5_1).f0) ((rd_T153 l1 x5_1).f1) true _ A7.out).mono ?_
                rintro e w10 ⟨rfl, hb⟩
                refine ⟨_, rfl, ?_⟩
                have n0_ := Aside0.mk (below_step By hb)
                clear HB
                have HB := n0_
                clear n0_
                (try clear hb)
                (try clear hb2)
                (try clear hk)
                (try clear hi)
                refine hK.out _ _ ⟨(bz HB.out hw543_0), (bz HB.out hw543_1), (bz HB.out hw544_0), (bz HB.out hw544_1)⟩ (fun hHeld => ?_)
                clear hK K
                refine norm_ (a' := ?_) ?_ ?_
                rotate_left
                · show Act.put _ (some 25) _ = _
                  simp only [Act.put, List.setIfInBounds_toArray, List.set_cons_zero, List.set_cons_succ, i64_w, i32_w]
                  rfl
                refine pu 9 26 (bv 10 1023) HT_.out (h := ?_)
                refine done_ (done_of HT_.out (by kernel_rfl)) ?_
                try go_wp2
                go_roundg k1
                case measure => have := HK1.out; omega
                case rel => exact ⟨(wrap64 (x5_1 + 1)), (by first | rfl | (simp; done) | (simp [*]; done)), H', ⟨by have := HK1.out; omega⟩, ⟨By⟩⟩
              · replace c8 := Bool.eq_false_iff.mpr c8
                subst c8
                have H1 : (some false) = some r := by rw [if_neg (show ¬ (false = true) by decide)] at H; exact H
                clear H
                have H := H1
                clear H1
                obtain rfl := Option.some.inj H
                try go_wp2
                have n0_ := Aside0.mk (below_drew1 HB.out)
                clear HB
                have HB := n0_
                clear n0_
                have p543 : 0 ≤ (x5_1 : Int) := of_decide_eq_true Da
                have q543 : x5_1 < (l0.length : Int) := of_decide_eq_true Da
                obtain ⟨ad543, e543, hx543_0, hx543_1⟩ := at_T153 HR0.out x5_1 p543 q543
                have hw543_1 := hx543_1
                have hw543_0 := hx543_0
                cases e543
                replace hx543_0 := bz HB.out hx543_0
                replace hx543_1 := bz HB.out hx543_1
                replace p543 := eq_true p543
                replace q543 := eq_true q543
                have p544 : 0 ≤ (x5_1 : Int) := of_decide_eq_true Da
                have q544 : x5_1 < (l1.length : Int) := of_decide_eq_true Da
                obtain ⟨ad544, e544, hx544_0, hx544_1⟩ := at_T153 HR1.out x5_1 p544 q544
                have hw544_1 := hx544_1
                have hw544_0 := hx544_0
                cases e544
                replace hx544_0 := bz HB.out hx544_0
                replace hx544_1 := bz HB.out hx544_1
                replace p544 := eq_true p544
                replace q544 := eq_true q544
                refine start_ (n := 10) (S := fun w' => w'.cell? (ad543.add ((x5_1).toNat * 2)) = some (.string ((rd_T153 l0 x5_1).f0)) ∧ w'.cell? ⟨(ad543.add ((x5_1).toNat * 2)).block, (ad543.add ((x5_1).toNat * 2)).off + 1, none⟩ = some (.string ((rd_T153 l0 x5_1).f1)) ∧ w'.cell? (ad544.add ((x5_1).toNat * 2)) = some (.string ((rd_T153 l1 x5_1).f0)) ∧ w'.cell? ⟨(ad544.add ((x5_1).toNat * 2)).block, (ad544.add ((x5_1).toNat * 2)).off + 1, none⟩ = some (.string ((rd_T153 l1 x5_1).f1))) (ds := []) (bv 10 0) (by kernel_rfl) rfl rfl ⟨(bz HB.out hw543_0), (bz HB.out hw543_1), (bz HB.out hw544_0), (bz HB.out hw544_1)⟩ (fun hHeld => ?_); refine with_tabW laws_eqRdnS.tab6 laws_eqRdnS.bits6 (fun HT_ HW_ => ?_)
                generalize wr.drew = w11 at HB hx543_0 hx543_1 hx544_0 hx544_1 hHeld ⊢
                refine pu 0 17 (bv 10 1) HT_.out (h := ?_)
                refine pu 1 18 (bv 10 3) HT_.out (h := ?_)
                refine pu 2 19 (bv 10 7) HT_.out (h := ?_)
                refine pu 4 21 (bv 10 23) HT_.out (h := ?_)
                refine pu 5 22 (bv 10 55) HT_.out (h := ?_)
                refine pu 6 23 (bv 10 119) HT_.out (h := ?_)
                refine tk 3 20 (bv 10 127) HT_.out HW_.out hHeld (h := ?_)
                refine tk 7 24 (bv 10 255) HT_.out HW_.out hHeld (h := ?_)
                refine one_ (i := 8) (N := some 25) (bv 10 511) rfl rfl (one_of HT_.out (by kernel_rfl)) (by decide) (fun K hK => ?_)
                refine goes_ Tryd.func132 (by kernel_rfl) rfl #[.agg #[.string ((rd_T153 l0 x5_1).f0), .string ((rd_T153 l0 x5_1).f1)], .agg #[.string ((rd_T153 l1 x5_1).f0), .string ((rd_T153 l1 x5_1).f1)]] (by rfl) rfl rfl Ag ?_
                with_reducible refine (laws_eqRdn.calls ((rd_T153 l0 x5_1).f0) ((rd_T153 l0 x5_1).f1) ((rd_T153 l1 x5_1).f0) ((rd_T153 l1 x5_1).f1) false _ A7.out).mono ?_
                rintro e w12 ⟨rfl, hb⟩
                refine ⟨_, rfl, ?_⟩
                have n0_ := Aside0.mk (below_step By hb)
                clear HB
                have HB := n0_
                clear n0_
                (try clear hb)
                (try clear hb2)
                (try clear hk)
                (try clear hi)
                refine hK.out _ _ ⟨(bz HB.out hw543_0), (bz HB.out hw543_1), (bz HB.out hw544_0), (bz HB.out hw544_1)⟩ (fun hHeld => ?_)
                clear hK K
                refine norm_ (a' := ?_) ?_ ?_
                rotate_left
                · show Act.put _ (some 25) _ = _
                  simp only [Act.put, List.setIfInBounds_toArray, List.set_cons_zero, List.set_cons_succ, i64_w, i32_w]
                  rfl
                refine pu 9 26 (bv 10 1023) HT_.out (h := ?_)
                refine done_ (done_of HT_.out (by kernel_rfl)) ?_
                try go_wp2
                go_ret
                exact ⟨Rf, By⟩
            · rw [if_neg c6] at H
              exact absurd H (by simp)
          · rw [if_neg c5] at H
            exact absurd H (by simp)
        · rw [if_neg c4] at H
          have c4b0 : decide (x5_1 < (l0.length : Int)) = false := decide_eq_false c4
          clear c4
          obtain rfl := Option.some.inj H
          go_wp2
          go_ret
          exact ⟨Rf, By⟩
  · rw [if_neg c3] at H
    have c3b0 : ((l0.length : Int) == (l1.length : Int)) = false := beq_eq_false_iff_ne.mpr c3
    have c3b1 : ((l0.length : Int) != (l1.length : Int)) = true := bne_iff_ne.mpr c3
    have c3b2 : (l0.length == l1.length) = false := by first | simpa using c3 | (simp at c3 ⊢; omega)
    obtain rfl := Option.some.inj H
    go_enter Tryd.func90, Tryd.ntmps90
    go_wp2
    go_ret
    exact ⟨Rf, By⟩

end Go.Proofs.YtpocoeghobdfiaaDoor.PG

-- WRITTEN BY A PROGRAM OF THIS SESSION (wip/gen/gen.py), by way of the kit's print program. Lean checks it.
namespace Go.Proofs.YtpocoeghobdfiaaDoor.PG
open Go.Proofs.YtpocoeghobdfiaaDoor.Sq Go.RowKit Go.Proofs.YtpocoeghobdfiaaDoorW.PrintWords Go.Proofs.YtpocoeghobdfiaaDoorW.PrintLast Go.Proofs.YtpocoeghobdfiaaDoorW.PrintMore
attribute [local go_sem] max2_int min2_int max_two min_two max_three min_three max_four min_four   -- for this text's walks alone
set_option linter.unusedVariables false
set_option linter.unusedSimpArgs false

/-! ### laws_eqStringS: function 46 -/
def laws_eqStringS.l0 : Nat → List ByteArray → List ByteArray → Int → Option (Bool)
  | 0, _, _, _ => none
  | k + 1, x0, x1, x5 => if x5 < (x0.length : Int) then (if 0 ≤ x5 then (if x5 < (x1.length : Int) then (if (rdOf ByteArray.empty x0 x5).toList = (rdOf ByteArray.empty x1 x5).toList then (laws_eqStringS.l0 k x0 x1 (wrap64 (x5 + 1))) else (some false)) else (none)) else (none)) else (some true)
def laws_eqStringS.f (k : Nat) (l0 : List ByteArray) (l1 : List ByteArray) : Option (Bool) := if (l0.length : Int) = (l1.length : Int) then (laws_eqStringS.l0 k l0 l1 0) else (some false)
theorem laws_eqStringS.mono_l : ∀ k, (∀ y0 y1 y2, LeO (laws_eqStringS.l0 k y0 y1 y2) (laws_eqStringS.l0 (k + 1) y0 y1 y2))
  | 0 => fun _ _ _ r h => by simp [laws_eqStringS.l0] at h
  | k + 1 => by
    have ih0 := laws_eqStringS.mono_l k
    · intro y0 y1 y2
      unfold laws_eqStringS.l0
      repeat' first
      | (with_reducible exact ih0 _ _ _)
      | (with_reducible exact LeO.refl _)
      | (with_reducible exact LeO.none _)
      | (with_reducible refine LeO.ite ?_ ?_)
      | (with_reducible refine LeO.bind ?_ (fun _ => ?_))
      | exact ih0 _ _ _
      | exact LeO.none _
      | refine LeO.ite ?_ ?_
      | refine LeO.bind ?_ (fun _ => ?_)
theorem laws_eqStringS.mono : ∀ a0 a1 k, LeO (laws_eqStringS.f k a0 a1) (laws_eqStringS.f (k + 1) a0 a1) := by
  intro a0 a1 k
  have ih0 := laws_eqStringS.mono_l k
  unfold laws_eqStringS.f
  repeat' first
      | (with_reducible exact ih0 _ _ _)
      | (with_reducible exact LeO.refl _)
      | (with_reducible exact LeO.none _)
      | (with_reducible refine LeO.ite ?_ ?_)
      | (with_reducible refine LeO.bind ?_ (fun _ => ?_))
      | exact ih0 _ _ _
      | exact LeO.none _
      | refine LeO.ite ?_ ?_
      | refine LeO.bind ?_ (fun _ => ?_)
set_option maxHeartbeats 8000000 in
set_option maxRecDepth 100000 in
theorem laws_eqStringS.calls (k : Nat) (A0 : Option Addr) (c0 : Nat) (l0 : List ByteArray) (A1 : Option Addr) (c1 : Nat) (l1 : List ByteArray) (r : Bool) (w : World) (hr0 : Kd.C Kd.string w A0 l0.length l0) (hc0 : l0.length ≤ c0) (hr1 : Kd.C Kd.string w A1 l1.length l1) (hc1 : l1.length ≤ c1) (h : laws_eqStringS.f k l0 l1 = some r) :
    Calls Tryd.prog 46 #[.slice A0 l0.length c0, .slice A1 l1.length c1] w fun e w' => e = .returned (.bool r) ∧ Drawn0 w w' := by
  have HR0 := Aside0.mk hr0
  have HC0 := Aside0.mk hc0
  clear hr0 hc0
  have HR1 := Aside0.mk hr1
  have HC1 := Aside0.mk hc1
  clear hr1 hc1
  have H : (if (l0.length : Int) = (l1.length : Int) then (laws_eqStringS.l0 k l0 l1 0) else (some false)) = some r := h
  clear h
  by_cases c3 : (l0.length : Int) = (l1.length : Int)
  · rw [if_pos c3] at H
    have c3b0 : ((l0.length : Int) == (l1.length : Int)) = true := beq_iff_eq.mpr c3
    have c3b1 : ((l0.length : Int) != (l1.length : Int)) = false := bne_eq_false_iff_eq.mpr c3
    have c3b2 : (l0.length == l1.length) = true := by first | simpa using c3 | (simp at c3 ⊢; omega)
    clear c3
    have H' := Aside0.mk H
    clear H
    go_enter Tryd.func46, Tryd.ntmps46
    go_wp2
    repeat (go_quiet (fail); try go_wp2)
    go_loopg [5] k (fun kq v5 w' => ∃ (x5_1 : Int), v5 = .int .i64 x5_1 ∧ Aside0 (laws_eqStringS.l0 kq l0 l1 x5_1 = some r) ∧ Aside0 (kq ≤ k) ∧ Drawn0 w w')
    case atStart => exact ⟨(0), (by first | rfl | (simp; done) | (simp [*]; done)), H', ⟨Nat.le_refl _⟩, by repeat (first | exact Drawn0.refl _ | apply Drawn0.step)⟩
    case round =>
      clear H'
      try clear c1
      try clear p2
      try clear c3
      try clear c3b0
      try clear c3b1
      try clear c3b2
      obtain ⟨x5_1, rfl, HA, HK1, ⟨m1, rfl⟩⟩ := hrel
      cases gk with
      | zero => exact absurd HA.out (by simp [laws_eqStringS.l0])
      | succ k1 =>
        have H := HA.out
        clear HA
        simp only [laws_eqStringS.l0] at H
        by_cases c4 : x5_1 < (l0.length : Int)
        · rw [if_pos c4] at H
          have c4b0 : decide (x5_1 < (l0.length : Int)) = true := decide_eq_true c4
          clear c4
          by_cases c5 : 0 ≤ x5_1
          · rw [if_pos c5] at H
            have c5b0 : decide (0 ≤ x5_1) = true := decide_eq_true c5
            clear c5
            by_cases c6 : x5_1 < (l1.length : Int)
            · rw [if_pos c6] at H
              have c6b0 : decide (x5_1 < (l1.length : Int)) = true := decide_eq_true c6
              clear c6
              by_cases c7 : (rdOf ByteArray.empty l0 x5_1).toList = (rdOf ByteArray.empty l1 x5_1).toList
              · rw [if_pos c7] at H
                have c7b0 : ((rdOf ByteArray.empty l0 x5_1).toList == (rdOf ByteArray.empty l1 x5_1).toList) = true := beq_iff_eq.mpr c7
                have c7b1 : ((rdOf ByteArray.empty l0 x5_1).toList != (rdOf ByteArray.empty l1 x5_1).toList) = false := bne_eq_false_iff_eq.mpr c7
                clear c7
                have H' := Aside0.mk H
                clear H
                have p546 : 0 ≤ (x5_1 : Int) := of_decide_eq_true Da
                have q546 : x5_1 < (l0.length : Int) := of_decide_eq_true Da
                obtain ⟨ad546, e546, hx546_0⟩ := Kd.at_string HR0.out x5_1 p546 q546
                cases e546
                replace p546 := eq_true p546
                replace q546 := eq_true q546
                have p547 : 0 ≤ (x5_1 : Int) := of_decide_eq_true Da
                have q547 : x5_1 < (l1.length : Int) := of_decide_eq_true Da
                obtain ⟨ad547, e547, hx547_0⟩ := Kd.at_string HR1.out x5_1 p547 q547
                cases e547
                replace p547 := eq_true p547
                replace q547 := eq_true q547
                go_wp2
                repeat (go_quiet (fail); try go_wp2)
                go_roundg k1
                case measure => have := HK1.out; omega
                case rel => exact ⟨(wrap64 (x5_1 + 1)), (by first | rfl | (simp; done) | (simp [*]; done)), H', ⟨by have := HK1.out; omega⟩, by repeat (first | exact Drawn0.refl _ | apply Drawn0.step)⟩
              · rw [if_neg c7] at H
                have c7b0 : ((rdOf ByteArray.empty l0 x5_1).toList == (rdOf ByteArray.empty l1 x5_1).toList) = false := beq_eq_false_iff_ne.mpr c7
                have c7b1 : ((rdOf ByteArray.empty l0 x5_1).toList != (rdOf ByteArray.empty l1 x5_1).toList) = true := bne_iff_ne.mpr c7
                obtain rfl := Option.some.inj H
                have p546 : 0 ≤ (x5_1 : Int) := of_decide_eq_true Da
                have q546 : x5_1 < (l0.length : Int) := of_decide_eq_true Da
                obtain ⟨ad546, e546, hx546_0⟩ := Kd.at_string HR0.out x5_1 p546 q546
                cases e546
                replace p546 := eq_true p546
                replace q546 := eq_true q546
                have p547 : 0 ≤ (x5_1 : Int) := of_decide_eq_true Da
                have q547 : x5_1 < (l1.length : Int) := of_decide_eq_true Da
                obtain ⟨ad547, e547, hx547_0⟩ := Kd.at_string HR1.out x5_1 p547 q547
                cases e547
                replace p547 := eq_true p547
                replace q547 := eq_true q547
                go_wp2
                repeat (go_quiet (fail); try go_wp2)
                go_ret
                exact ⟨by first | rfl | (simp; done) | (simp [*]; done), by repeat (first | exact Drawn0.refl _ | apply Drawn0.step)⟩
            · rw [if_neg c6] at H
              exact absurd H (by simp)
          · rw [if_neg c5] at H
            exact absurd H (by simp)
        · rw [if_neg c4] at H
          have c4b0 : decide (x5_1 < (l0.length : Int)) = false := decide_eq_false c4
          clear c4
          obtain rfl := Option.some.inj H
          go_wp2
          repeat (go_quiet (fail); try go_wp2)
          go_ret
          exact ⟨by first | rfl | (simp; done) | (simp [*]; done), by repeat (first | exact Drawn0.refl _ | apply Drawn0.step)⟩
  · rw [if_neg c3] at H
    have c3b0 : ((l0.length : Int) == (l1.length : Int)) = false := beq_eq_false_iff_ne.mpr c3
    have c3b1 : ((l0.length : Int) != (l1.length : Int)) = true := bne_iff_ne.mpr c3
    have c3b2 : (l0.length == l1.length) = false := by first | simpa using c3 | (simp at c3 ⊢; omega)
    obtain rfl := Option.some.inj H
    go_enter Tryd.func46, Tryd.ntmps46
    go_wp2
    repeat (go_quiet (fail); try go_wp2)
    go_ret
    exact ⟨by first | rfl | (simp; done) | (simp [*]; done), by repeat (first | exact Drawn0.refl _ | apply Drawn0.step)⟩

end Go.Proofs.YtpocoeghobdfiaaDoor.PG

-- WRITTEN BY A PROGRAM OF THIS SESSION (wip/gen/gen.py), by way of the kit's print program. Lean checks it.
namespace Go.Proofs.YtpocoeghobdfiaaDoor.PG
open Go.Proofs.YtpocoeghobdfiaaDoor.Sq Go.RowKit Go.Proofs.YtpocoeghobdfiaaDoorW.PrintWords Go.Proofs.YtpocoeghobdfiaaDoorW.PrintLast Go.Proofs.YtpocoeghobdfiaaDoorW.PrintMore
attribute [local go_sem] max2_int min2_int max_two min_two max_three min_three max_four min_four   -- for this text's walks alone
set_option linter.unusedVariables false
set_option linter.unusedSimpArgs false

/-! ### laws_eqAttr: function 133 -/
def laws_eqAttr.f (k : Nat) (a0_0 : ByteArray) (l0_1 : List ByteArray) (a1_0 : ByteArray) (l1_1 : List ByteArray) : Option (Bool) := if a0_0.toList = a1_0.toList then ((laws_eqStringS.f k l0_1 l1_1).bind fun t550 => (if t550 = true then (some true) else (some false))) else (some false)
theorem laws_eqAttr.mono : ∀ a0 a1 a2 a3 k, LeO (laws_eqAttr.f k a0 a1 a2 a3) (laws_eqAttr.f (k + 1) a0 a1 a2 a3) := by
  intro a0 a1 a2 a3 k
  unfold laws_eqAttr.f
  repeat' first
      | (with_reducible exact laws_eqStringS.mono _ _ _)
      | (with_reducible exact LeO.refl _)
      | (with_reducible exact LeO.none _)
      | (with_reducible refine LeO.ite ?_ ?_)
      | (with_reducible refine LeO.bind ?_ (fun _ => ?_))
      | exact laws_eqStringS.mono _ _ _
      | exact LeO.none _
      | refine LeO.ite ?_ ?_
      | refine LeO.bind ?_ (fun _ => ?_)
set_option maxHeartbeats 8000000 in
set_option maxRecDepth 100000 in
theorem laws_eqAttr.calls (k : Nat) (a0_0 : ByteArray) (A0_1 : Option Addr) (c0_1 : Nat) (l0_1 : List ByteArray) (a1_0 : ByteArray) (A1_1 : Option Addr) (c1_1 : Nat) (l1_1 : List ByteArray) (r : Bool) (w : World) (hr0_1 : Kd.C Kd.string w A0_1 l0_1.length l0_1) (hc0_1 : l0_1.length ≤ c0_1) (hr1_1 : Kd.C Kd.string w A1_1 l1_1.length l1_1) (hc1_1 : l1_1.length ≤ c1_1) (h : laws_eqAttr.f k a0_0 l0_1 a1_0 l1_1 = some r) :
    Calls Tryd.prog 133 #[.agg #[.string a0_0, .slice A0_1 l0_1.length c0_1], .agg #[.string a1_0, .slice A1_1 l1_1.length c1_1]] w fun e w' => e = .returned (.bool r) ∧ Below w.heap.size w w' := by
  have hu144 := Tryd.underlying144
  have HR0_1 := Aside0.mk hr0_1
  have HC0_1 := Aside0.mk hc0_1
  clear hr0_1 hc0_1
  have HR1_1 := Aside0.mk hr1_1
  have HC1_1 := Aside0.mk hc1_1
  clear hr1_1 hc1_1
  have HB := Aside0.mk (Below.refl w.heap.size w)
  have H : (if a0_0.toList = a1_0.toList then ((laws_eqStringS.f k l0_1 l1_1).bind fun t550 => (if t550 = true then (some true) else (some false))) else (some false)) = some r := h
  clear h
  by_cases c3 : a0_0.toList = a1_0.toList
  · rw [if_pos c3] at H
    have c3b0 : (a0_0.toList == a1_0.toList) = true := beq_iff_eq.mpr c3
    have c3b1 : (a0_0.toList != a1_0.toList) = false := bne_eq_false_iff_eq.mpr c3
    clear c3
    replace H := Option.bind_eq_some_iff.mp H
    obtain ⟨t550, A40, H⟩ := H
    replace H : (if t550 = true then (some true) else (some false)) = some r := H
    have A4 := Aside0.mk A40
    clear A40
    by_cases c5 : t550 = true
    · subst c5
      have H1 : (some true) = some r := by rw [if_pos rfl] at H; exact H
      clear H
      have H := H1
      clear H1
      obtain rfl := Option.some.inj H
      go_enter Tryd.func133, Tryd.ntmps133
      go_wp2_with (first | ((with_reducible refine gate_dst (N := 2) rfl ?_); refine box_event ?hg (N := 2) ?hd (cs := #[.string a0_0, .slice A0_1 l0_1.length c0_1]) (t := 144) ?hr ?_; (case hd => rfl); (case hg => rfl); (case hr => first | (go_simp; done) | (go_simp; rfl)); intro gb548 hg w6 hbox hb; have n0_ := Aside0.mk (below_step By hb); have n1_ := Aside0.mk (hbox); have n2_ := Aside0.mk ((by rw [hg]; exact (below_size By) : w.heap.size ≤ gb548)); have n3_ := Aside0.mk ((by rw [hg]; exact (below_size By) : w.heap.size ≤ gb548)); clear HB; have HB := n0_; have BK548 := n1_; have GW548 := n2_; have GE548 := n3_; clear n0_ n1_ n2_ n3_; clear hb hbox hg) | ((with_reducible refine gate_dst (N := 3) rfl ?_); refine box_event ?hg (N := 3) ?hd (cs := #[.string a1_0, .slice A1_1 l1_1.length c1_1]) (t := 144) ?hr ?_; (case hd => rfl); (case hg => rfl); (case hr => first | (go_simp; done) | (go_simp; rfl)); intro gb549 hg w7 hbox hb; have n0_ := Aside0.mk (bb BK548.out hb); have n1_ := Aside0.mk (below_step By hb); have n2_ := Aside0.mk (hbox); have n3_ := Aside0.mk ((by rw [hg]; exact (below_size By) : w.heap.size ≤ gb549)); have n4_ := Aside0.mk ((by rw [hg]; exact (below_size By) : w.heap.size ≤ gb549)); have n5_ := Aside0.mk ((by rw [hg]; exact Nat.ne_of_lt (bl BK548.out) : gb548 ≠ gb549)); have n6_ := Aside0.mk ((by rw [hg]; exact Nat.ne_of_gt (bl BK548.out) : gb549 ≠ gb548)); clear BK548; clear HB; have BK548 := n0_; have HB := n1_; have BK549 := n2_; have GW549 := n3_; have GE549 := n4_; have NB548_549 := n5_; have NB549_548 := n6_; clear n0_ n1_ n2_ n3_ n4_ n5_ n6_; clear hb hbox hg; have hnb8 := NB548_549.out; have hnc8 := NB549_548.out; have ⟨hcz9_0, hcz9_1⟩ := cq2 BK548.out; have ⟨hfz9_0, hfz9_1⟩ := fq2 BK548.out; have ⟨hcz10_0, hcz10_1⟩ := cq2 BK549.out; have ⟨hfz10_0, hfz10_1⟩ := fq2 BK549.out) | ((with_reducible refine gate_callee (f := 46) rfl ?_); refine goesL_ (some 14) rfl rfl Tryd.func46 (by kernel_rfl) rfl #[.slice A0_1 l0_1.length c0_1, .slice A1_1 l1_1.length c1_1] rfl Ag ?_; (with_reducible refine (laws_eqStringS.calls k _ _ l0_1 _ _ l1_1 true _ ?side1 ?side2 ?side3 ?side4 A4.out).mono ?_); (case side1 => repeat (first | exact (Kd.C_below HR0_1.out HB.out) | (with_reducible refine Kd.C_alloc ?_ _) | (with_reducible refine Kd.C_drewN ?_ _) | (with_reducible refine Kd.C_drew ?_))); (case side2 => exact HC0_1.out); (case side3 => repeat (first | exact (Kd.C_below HR1_1.out HB.out) | (with_reducible refine Kd.C_alloc ?_ _) | (with_reducible refine Kd.C_drewN ?_ _) | (with_reducible refine Kd.C_drew ?_))); (case side4 => exact HC1_1.out); rintro e w' ⟨rfl, ⟨nd, rfl⟩⟩; refine ⟨_, rfl, ?_⟩))
      go_ret
      exact ⟨Rf, By⟩
    · replace c5 := Bool.eq_false_iff.mpr c5
      subst c5
      have H1 : (some false) = some r := by rw [if_neg (show ¬ (false = true) by decide)] at H; exact H
      clear H
      have H := H1
      clear H1
      obtain rfl := Option.some.inj H
      go_enter Tryd.func133, Tryd.ntmps133
      go_wp2_with (first | ((with_reducible refine gate_dst (N := 2) rfl ?_); refine box_event ?hg (N := 2) ?hd (cs := #[.string a0_0, .slice A0_1 l0_1.length c0_1]) (t := 144) ?hr ?_; (case hd => rfl); (case hg => rfl); (case hr => first | (go_simp; done) | (go_simp; rfl)); intro gb548 hg w11 hbox hb; have n0_ := Aside0.mk (below_step By hb); have n1_ := Aside0.mk (hbox); have n2_ := Aside0.mk ((by rw [hg]; exact (below_size By) : w.heap.size ≤ gb548)); have n3_ := Aside0.mk ((by rw [hg]; exact (below_size By) : w.heap.size ≤ gb548)); clear HB; have HB := n0_; have BK548 := n1_; have GW548 := n2_; have GE548 := n3_; clear n0_ n1_ n2_ n3_; clear hb hbox hg) | ((with_reducible refine gate_dst (N := 3) rfl ?_); refine box_event ?hg (N := 3) ?hd (cs := #[.string a1_0, .slice A1_1 l1_1.length c1_1]) (t := 144) ?hr ?_; (case hd => rfl); (case hg => rfl); (case hr => first | (go_simp; done) | (go_simp; rfl)); intro gb549 hg w12 hbox hb; have n0_ := Aside0.mk (bb BK548.out hb); have n1_ := Aside0.mk (below_step By hb); have n2_ := Aside0.mk (hbox); have n3_ := Aside0.mk ((by rw [hg]; exact (below_size By) : w.heap.size ≤ gb549)); have n4_ := Aside0.mk ((by rw [hg]; exact (below_size By) : w.heap.size ≤ gb549)); have n5_ := Aside0.mk ((by rw [hg]; exact Nat.ne_of_lt (bl BK548.out) : gb548 ≠ gb549)); have n6_ := Aside0.mk ((by rw [hg]; exact Nat.ne_of_gt (bl BK548.out) : gb549 ≠ gb548)); clear BK548; clear HB; have BK548 := n0_; have HB := n1_; have BK549 := n2_; have GW549 := n3_; have GE549 := n4_; have NB548_549 := n5_; have NB549_548 := n6_; clear n0_ n1_ n2_ n3_ n4_ n5_ n6_; clear hb hbox hg; have hnb13 := NB548_549.out; have hnc13 := NB549_548.out; have ⟨hcz14_0, hcz14_1⟩ := cq2 BK548.out; have ⟨hfz14_0, hfz14_1⟩ := fq2 BK548.out; have ⟨hcz15_0, hcz15_1⟩ := cq2 BK549.out; have ⟨hfz15_0, hfz15_1⟩ := fq2 BK549.out) | ((with_reducible refine gate_callee (f := 46) rfl ?_); refine goesL_ (some 14) rfl rfl Tryd.func46 (by kernel_rfl) rfl #[.slice A0_1 l0_1.length c0_1, .slice A1_1 l1_1.length c1_1] rfl Ag ?_; (with_reducible refine (laws_eqStringS.calls k _ _ l0_1 _ _ l1_1 false _ ?side1 ?side2 ?side3 ?side4 A4.out).mono ?_); (case side1 => repeat (first | exact (Kd.C_below HR0_1.out HB.out) | (with_reducible refine Kd.C_alloc ?_ _) | (with_reducible refine Kd.C_drewN ?_ _) | (with_reducible refine Kd.C_drew ?_))); (case side2 => exact HC0_1.out); (case side3 => repeat (first | exact (Kd.C_below HR1_1.out HB.out) | (with_reducible refine Kd.C_alloc ?_ _) | (with_reducible refine Kd.C_drewN ?_ _) | (with_reducible refine Kd.C_drew ?_))); (case side4 => exact HC1_1.out); rintro e w' ⟨rfl, ⟨nd, rfl⟩⟩; refine ⟨_, rfl, ?_⟩))
      go_ret
      exact ⟨Rf, By⟩
  · rw [if_neg c3] at H
    have c3b0 : (a0_0.toList == a1_0.toList) = false := beq_eq_false_iff_ne.mpr c3
    have c3b1 : (a0_0.toList != a1_0.toList) = true := bne_iff_ne.mpr c3
    obtain rfl := Option.some.inj H
    go_enter Tryd.func133, Tryd.ntmps133
    go_wp2_with (first | ((with_reducible refine gate_dst (N := 2) rfl ?_); refine box_event ?hg (N := 2) ?hd (cs := #[.string a0_0, .slice A0_1 l0_1.length c0_1]) (t := 144) ?hr ?_; (case hd => rfl); (case hg => rfl); (case hr => first | (go_simp; done) | (go_simp; rfl)); intro gb548 hg w16 hbox hb; have n0_ := Aside0.mk (below_step By hb); have n1_ := Aside0.mk (hbox); have n2_ := Aside0.mk ((by rw [hg]; exact (below_size By) : w.heap.size ≤ gb548)); have n3_ := Aside0.mk ((by rw [hg]; exact (below_size By) : w.heap.size ≤ gb548)); clear HB; have HB := n0_; have BK548 := n1_; have GW548 := n2_; have GE548 := n3_; clear n0_ n1_ n2_ n3_; clear hb hbox hg) | ((with_reducible refine gate_dst (N := 3) rfl ?_); refine box_event ?hg (N := 3) ?hd (cs := #[.string a1_0, .slice A1_1 l1_1.length c1_1]) (t := 144) ?hr ?_; (case hd => rfl); (case hg => rfl); (case hr => first | (go_simp; done) | (go_simp; rfl)); intro gb549 hg w17 hbox hb; have n0_ := Aside0.mk (bb BK548.out hb); have n1_ := Aside0.mk (below_step By hb); have n2_ := Aside0.mk (hbox); have n3_ := Aside0.mk ((by rw [hg]; exact (below_size By) : w.heap.size ≤ gb549)); have n4_ := Aside0.mk ((by rw [hg]; exact (below_size By) : w.heap.size ≤ gb549)); have n5_ := Aside0.mk ((by rw [hg]; exact Nat.ne_of_lt (bl BK548.out) : gb548 ≠ gb549)); have n6_ := Aside0.mk ((by rw [hg]; exact Nat.ne_of_gt (bl BK548.out) : gb549 ≠ gb548)); clear BK548; clear HB; have BK548 := n0_; have HB := n1_; have BK549 := n2_; have GW549 := n3_; have GE549 := n4_; have NB548_549 := n5_; have NB549_548 := n6_; clear n0_ n1_ n2_ n3_ n4_ n5_ n6_; clear hb hbox hg; have hnb18 := NB548_549.out; have hnc18 := NB549_548.out; have ⟨hcz19_0, hcz19_1⟩ := cq2 BK548.out; have ⟨hfz19_0, hfz19_1⟩ := fq2 BK548.out; have ⟨hcz20_0, hcz20_1⟩ := cq2 BK549.out; have ⟨hfz20_0, hfz20_1⟩ := fq2 BK549.out))
    go_ret
    exact ⟨Rf, By⟩

end Go.Proofs.YtpocoeghobdfiaaDoor.PG

-- WRITTEN BY A PROGRAM OF THIS SESSION (wip/gen/gen.py), by way of the kit's print program. Lean checks it.
namespace Go.Proofs.YtpocoeghobdfiaaDoor.PG
open Go.Proofs.YtpocoeghobdfiaaDoor.Sq Go.RowKit Go.Proofs.YtpocoeghobdfiaaDoorW.PrintWords Go.Proofs.YtpocoeghobdfiaaDoorW.PrintLast Go.Proofs.YtpocoeghobdfiaaDoorW.PrintMore
attribute [local go_sem] max2_int min2_int max_two min_two max_three min_three max_four min_four   -- for this text's walks alone
set_option linter.unusedVariables false
set_option linter.unusedSimpArgs false

/-! ### laws_eqAttrS: function 91 -/
def laws_eqAttrS.l0 : Nat → List (S144) → List (S144) → Int → Option (Bool)
  | 0, _, _, _ => none
  | k + 1, x0, x1, x5 => if x5 < (x0.length : Int) then (if 0 ≤ x5 then (if x5 < (x1.length : Int) then ((laws_eqAttr.f k ((rd_T144 x0 x5).f0) ((rd_T144 x0 x5).f1) ((rd_T144 x1 x5).f0) ((rd_T144 x1 x5).f1)).bind fun t553 => (if t553 = true then (laws_eqAttrS.l0 k x0 x1 (wrap64 (x5 + 1))) else (some false))) else (none)) else (none)) else (some true)
def laws_eqAttrS.f (k : Nat) (l0 : List (S144)) (l1 : List (S144)) : Option (Bool) := if (l0.length : Int) = (l1.length : Int) then (laws_eqAttrS.l0 k l0 l1 0) else (some false)
theorem laws_eqAttrS.mono_l : ∀ k, (∀ y0 y1 y2, LeO (laws_eqAttrS.l0 k y0 y1 y2) (laws_eqAttrS.l0 (k + 1) y0 y1 y2))
  | 0 => fun _ _ _ r h => by simp [laws_eqAttrS.l0] at h
  | k + 1 => by
    have ih0 := laws_eqAttrS.mono_l k
    · intro y0 y1 y2
      unfold laws_eqAttrS.l0
      repeat' first
      | (with_reducible exact ih0 _ _ _)
      | (with_reducible exact laws_eqAttr.mono _ _ _ _ _)
      | (with_reducible exact LeO.refl _)
      | (with_reducible exact LeO.none _)
      | (with_reducible refine LeO.ite ?_ ?_)
      | (with_reducible refine LeO.bind ?_ (fun _ => ?_))
      | exact ih0 _ _ _
      | exact laws_eqAttr.mono _ _ _ _ _
      | exact LeO.none _
      | refine LeO.ite ?_ ?_
      | refine LeO.bind ?_ (fun _ => ?_)
theorem laws_eqAttrS.mono : ∀ a0 a1 k, LeO (laws_eqAttrS.f k a0 a1) (laws_eqAttrS.f (k + 1) a0 a1) := by
  intro a0 a1 k
  have ih0 := laws_eqAttrS.mono_l k
  unfold laws_eqAttrS.f
  repeat' first
      | (with_reducible exact ih0 _ _ _)
      | (with_reducible exact laws_eqAttr.mono _ _ _ _ _)
      | (with_reducible exact LeO.refl _)
      | (with_reducible exact LeO.none _)
      | (with_reducible refine LeO.ite ?_ ?_)
      | (with_reducible refine LeO.bind ?_ (fun _ => ?_))
      | exact ih0 _ _ _
      | exact laws_eqAttr.mono _ _ _ _ _
      | exact LeO.none _
      | refine LeO.ite ?_ ?_
      | refine LeO.bind ?_ (fun _ => ?_)
def laws_eqAttrS.T6 : Bool × List (List Nat × List Nat) := (true, [([], []), ([], []), ([0, 1], [0, 1]), ([2], [2]), ([], []), ([], []), ([4, 5], [4, 5]), ([6], [6]), ([3, 7], [3, 7]), ([8], [8])])
def laws_eqAttrS.B6 : List Nat := [0, 0, 3, 7, 0, 0, 48, 112, 255, 511]
theorem laws_eqAttrS.tab6 : rtab .any (opsOf Tryd.f91 6) = laws_eqAttrS.T6 := by kernel_rfl
theorem laws_eqAttrS.bits6 : waitsOk laws_eqAttrS.T6.2 laws_eqAttrS.B6 = true := by kernel_rfl
set_option maxHeartbeats 8000000 in
set_option maxRecDepth 100000 in
theorem laws_eqAttrS.calls (k : Nat) (A0 : Option Addr) (c0 : Nat) (l0 : List (S144)) (A1 : Option Addr) (c1 : Nat) (l1 : List (S144)) (r : Bool) (w : World) (hr0 : Kd.C k144 w A0 l0.length l0) (hc0 : l0.length ≤ c0) (hr1 : Kd.C k144 w A1 l1.length l1) (hc1 : l1.length ≤ c1) (h : laws_eqAttrS.f k l0 l1 = some r) :
    Calls Tryd.prog 91 #[.slice A0 l0.length c0, .slice A1 l1.length c1] w fun e w' => e = .returned (.bool r) ∧ Below w.heap.size w w' := by
  have hu144 := Tryd.underlying144
  have HR0 := Aside0.mk hr0
  have HC0 := Aside0.mk hc0
  clear hr0 hc0
  have HR1 := Aside0.mk hr1
  have HC1 := Aside0.mk hc1
  clear hr1 hc1
  have HB := Aside0.mk (Below.refl w.heap.size w)
  have H : (if (l0.length : Int) = (l1.length : Int) then (laws_eqAttrS.l0 k l0 l1 0) else (some false)) = some r := h
  clear h
  by_cases c3 : (l0.length : Int) = (l1.length : Int)
  · rw [if_pos c3] at H
    have c3b0 : ((l0.length : Int) == (l1.length : Int)) = true := beq_iff_eq.mpr c3
    have c3b1 : ((l0.length : Int) != (l1.length : Int)) = false := bne_eq_false_iff_eq.mpr c3
    have c3b2 : (l0.length == l1.length) = true := by first | simpa using c3 | (simp at c3 ⊢; omega)
    clear c3
    have H' := Aside0.mk H
    clear H
    go_enter Tryd.func91, Tryd.ntmps91
    go_wp2
    go_loopg [5] k (fun kq v5 w' => ∃ (x5_1 : Int), v5 = .int .i64 x5_1 ∧ Aside0 (laws_eqAttrS.l0 kq l0 l1 x5_1 = some r) ∧ Aside0 (kq ≤ k) ∧ Aside0 (Below w.heap.size w w'))
    case atStart => exact ⟨(0), (by first | rfl | (simp; done) | (simp [*]; done)), H', ⟨Nat.le_refl _⟩, ⟨By⟩⟩
    case round =>
      clear H'
      try clear c1
      try clear p2
      try clear c3
      try clear c3b0
      try clear c3b1
      try clear c3b2
      obtain ⟨x5_1, rfl, HA, HK1, HB⟩ := hrel
      cases gk with
      | zero => exact absurd HA.out (by simp [laws_eqAttrS.l0])
      | succ k1 =>
        have H := HA.out
        clear HA
        simp only [laws_eqAttrS.l0] at H
        by_cases c4 : x5_1 < (l0.length : Int)
        · rw [if_pos c4] at H
          have c4b0 : decide (x5_1 < (l0.length : Int)) = true := decide_eq_true c4
          clear c4
          by_cases c5 : 0 ≤ x5_1
          · rw [if_pos c5] at H
            have c5b0 : decide (0 ≤ x5_1) = true := decide_eq_true c5
            clear c5
            by_cases c6 : x5_1 < (l1.length : Int)
            · rw [if_pos c6] at H
              have c6b0 : decide (x5_1 < (l1.length : Int)) = true := decide_eq_true c6
              clear c6
              replace H := Option.bind_eq_some_iff.mp H
              obtain ⟨t553, A70, H⟩ := H
              replace H : (if t553 = true then (laws_eqAttrS.l0 k1 l0 l1 (wrap64 (x5_1 + 1))) else (some false)) = some r := H
              have A7 := Aside0.mk A70
              clear A70
              by_cases c8 : t553 = true
              · subst c8
                have H1 : (laws_eqAttrS.l0 k1 l0 l1 (wrap64 (x5_1 + 1))) = some r := by rw [if_pos rfl] at H; exact H
                clear H
                have H := H1
                clear H1
                have H' := Aside0.mk H
                clear H
                try go_wp2
                have n0_ := Aside0.mk (below_drew1 HB.out)
                clear HB
                have HB := n0_
                clear n0_
                have p551 : 0 ≤ (x5_1 : Int) := of_decide_eq_true Da
                have q551 : x5_1 < (l0.length : Int) := of_decide_eq_true Da
                obtain ⟨ad551, A551_1, c551_1, e551, hx551_0, hx551_1, hl551_1, hi551_1⟩ := at_T144 HR0.out x5_1 p551 q551
                have hw551_1 := hx551_1
                have hw551_0 := hx551_0
                cases e551
                replace hx551_0 := bz HB.out hx551_0
                replace hx551_1 := bz HB.out hx551_1
                have HR551_1 := Aside0.mk hi551_1
                have HC551_1 := Aside0.mk hl551_1
                clear hi551_1 hl551_1
                replace p551 := eq_true p551
                replace q551 := eq_true q551
                have p552 : 0 ≤ (x5_1 : Int) := of_decide_eq_true Da
                have q552 : x5_1 < (l1.length : Int) := of_decide_eq_true Da
                obtain ⟨ad552, A552_1, c552_1, e552, hx552_0, hx552_1, hl552_1, hi552_1⟩ := at_T144 HR1.out x5_1 p552 q552
                have hw552_1 := hx552_1
                have hw552_0 := hx552_0
                cases e552
                replace hx552_0 := bz HB.out hx552_0
                replace hx552_1 := bz HB.out hx552_1
                have HR552_1 := Aside0.mk hi552_1
                have HC552_1 := Aside0.mk hl552_1
                clear hi552_1 hl552_1
                replace p552 := eq_true p552
                replace q552 := eq_true q552
                refine start_ (n := 10) (S := fun w' => w'.cell? (ad551.add ((x5_1).toNat * 2)) = some (.string ((rd_T144 l0 x5_1).f0)) ∧ w'.cell? ⟨(ad551.add ((x5_1).toNat * 2)).block, (ad551.add ((x5_1).toNat * 2)).off + 1, none⟩ = some (.slice A551_1 ((rd_T144 l0 x5_1).f1).length c551_1) ∧ w'.cell? (ad552.add ((x5_1).toNat * 2)) = some (.string ((rd_T144 l1 x5_1).f0)) ∧ w'.cell? ⟨(ad552.add ((x5_1).toNat * 2)).block, (ad552.add ((x5_1).toNat * 2)).off + 1, none⟩ = some (.slice A552_1 ((rd_T144 l1 x5_1).f1).length c552_1)) (ds := []) (bv 10 0) (by kernel_rfl) rfl rfl ⟨(bz HB.out hw551_0), (bz HB.out hw551_1), (bz HB.out hw552_0), (bz HB.out hw552_1)⟩ (fun hHeld => ?_); refine with_tabW laws_eqAttrS.tab6 laws_eqAttrS.bits6 (fun HT_ HW_ => ?_)
                generalize wr.drew = w9 at HB HR551_1 HR552_1 hx551_0 hx551_1 hx552_0 hx552_1 hHeld ⊢
                refine pu 0 17 (bv 10 1) HT_.out (h := ?_)
                refine pu 1 18 (bv 10 3) HT_.out (h := ?_)
                refine pu 2 19 (bv 10 7) HT_.out (h := ?_)
                refine pu 4 21 (bv 10 23) HT_.out (h := ?_)
                refine pu 5 22 (bv 10 55) HT_.out (h := ?_)
                refine pu 6 23 (bv 10 119) HT_.out (h := ?_)
                refine tk 3 20 (bv 10 127) HT_.out HW_.out hHeld (h := ?_)
                refine tk 7 24 (bv 10 255) HT_.out HW_.out hHeld (h := ?_)
                refine one_ (i := 8) (N := some 25) (bv 10 511) rfl rfl (one_of HT_.out (by kernel_rfl)) (by decide) (fun K hK => ?_)
                refine goes_ Tryd.func133 (by kernel_rfl) rfl #[.agg #[.string ((rd_T144 l0 x5_1).f0), .slice A551_1 ((rd_T144 l0 x5_1).f1).length c551_1], .agg #[.string ((rd_T144 l1 x5_1).f0), .slice A552_1 ((rd_T144 l1 x5_1).f1).length c552_1]] (by rfl) rfl rfl Ag ?_
                with_reducible refine (laws_eqAttr.calls k1 ((rd_T144 l0 x5_1).f0) _ _ ((rd_T144 l0 x5_1).f1) ((rd_T144 l1 x5_1).f0) _ _ ((rd_T144 l1 x5_1).f1) true _ ?side1 ?side2 ?side3 ?side4 A7.out).mono ?_
                (case side1 => repeat (first | exact (Kd.C_below HR551_1.out HB.out) | (with_reducible refine Kd.C_alloc ?_ _) | (with_reducible refine Kd.C_drewN ?_ _) | (with_reducible refine Kd.C_drew ?_)))
                (case side2 => exact HC551_1.out)
                (case side3 => repeat (first | exact (Kd.C_below HR552_1.out HB.out) | (with_reducible refine Kd.C_alloc ?_ _) | (with_reducible refine Kd.C_drewN ?_ _) | (with_reducible refine Kd.C_drew ?_)))
                (case side4 => exact HC552_1.out)
                rintro e w10 ⟨rfl, hb⟩
                refine ⟨_, rfl, ?_⟩
                have n0_ := Aside0.mk (below_step By hb)
                clear HB
                have HB := n0_
                clear n0_
                (try clear hb)
                (try clear hb2)
                (try clear hk)
                (try clear hi)
                refine hK.out _ _ ⟨(bz HB.out hw551_0), (bz HB.out hw551_1), (bz HB.out hw552_0), (bz HB.out hw552_1)⟩ (fun hHeld => ?_)
                clear hK K
                refine norm_ (a' := ?_) ?_ ?_
                rotate_left
                · show Act.put _ (some 25) _ = _
                  simp only [Act.put, List.setIfInBounds_toArray, List.set_cons_zero, List.set_cons_succ, i64_w, i32_w]
                  rfl
                refine pu 9 26 (bv 10 1023) HT_.out (h := ?_)
                refine done_ (done_of HT_.out (by kernel_rfl)) ?_
                try go_wp2
                go_roundg k1
                case measure => have := HK1.out; omega
                case rel => exact ⟨(wrap64 (x5_1 + 1)), (by first | rfl | (simp; done) | (simp [*]; done)), H', ⟨by have := HK1.out; omega⟩, ⟨By⟩⟩
              · replace c8 := Bool.eq_false_iff.mpr c8
                subst c8
                have H1 : (some false) = some r := by rw [if_neg (show ¬ (false = true) by decide)] at H; exact H
                clear H
                have H := H1
                clear H1
                obtain rfl := Option.some.inj H
                try go_wp2
                have n0_ := Aside0.mk (below_drew1 HB.out)
                clear HB
                have HB := n0_
                clear n0_
                have p551 : 0 ≤ (x5_1 : Int) := of_decide_eq_true Da
                have q551 : x5_1 < (l0.length : Int) := of_decide_eq_true Da
                obtain ⟨ad551, A551_1, c551_1, e551, hx551_0, hx551_1, hl551_1, hi551_1⟩ := at_T144 HR0.out x5_1 p551 q551
                have hw551_1 := hx551_1
                have hw551_0 := hx551_0
                cases e551
                replace hx551_0 := bz HB.out hx551_0
                replace hx551_1 := bz HB.out hx551_1
                have HR551_1 := Aside0.mk hi551_1
                have HC551_1 := Aside0.mk hl551_1
                clear hi551_1 hl551_1
                replace p551 := eq_true p551
                replace q551 := eq_true q551
                have p552 : 0 ≤ (x5_1 : Int) := of_decide_eq_true Da
                have q552 : x5_1 < (l1.length : Int) := of_decide_eq_true Da
                obtain ⟨ad552, A552_1, c552_1, e552, hx552_0, hx552_1, hl552_1, hi552_1⟩ := at_T144 HR1.out x5_1 p552 q552
                have hw552_1 := hx552_1
                have hw552_0 := hx552_0
                cases e552
                replace hx552_0 := bz HB.out hx552_0
                replace hx552_1 := bz HB.out hx552_1
                have HR552_1 := Aside0.mk hi552_1
                have HC552_1 := Aside0.mk hl552_1
                clear hi552_1 hl552_1
                replace p552 := eq_true p552
                replace q552 := eq_true q552
                refine start_ (n := 10) (S := fun w' => w'.cell? (ad551.add ((x5_1).toNat * 2)) = some (.string ((rd_T144 l0 x5_1).f0)) ∧ w'.cell? ⟨(ad551.add ((x5_1).toNat * 2)).block, (ad551.add ((x5_1).toNat * 2)).off + 1, none⟩ = some (.slice A551_1 ((rd_T144 l0 x5_1).f1).length c551_1) ∧ w'.cell? (ad552.add ((x5_1).toNat * 2)) = some (.string ((rd_T144 l1 x5_1).f0)) ∧ w'.cell? ⟨(ad552.add ((x5_1).toNat * 2)).block, (ad552.add ((x5_1).toNat * 2)).off + 1, none⟩ = some (.slice A552_1 ((rd_T144 l1 x5_1).f1).length c552_1)) (ds := []) (bv 10 0) (by kernel_rfl) rfl rfl ⟨(bz HB.out hw551_0), (bz HB.out hw551_1), (bz HB.out hw552_0), (bz HB.out hw552_1)⟩ (fun hHeld => ?_); refine with_tabW laws_eqAttrS.tab6 laws_eqAttrS.bits6 (fun HT_ HW_ => ?_)
                generalize wr.drew = w11 at HB HR551_1 HR552_1 hx551_0 hx551_1 hx552_0 hx552_1 hHeld ⊢
                refine pu 0 17 (bv 10 1) HT_.out (h := ?_)
                refine pu 1 18 (bv 10 3) HT_.out (h := ?_)
                refine pu 2 19 (bv 10 7) HT_.out (h := ?_)
                refine pu 4 21 (bv 10 23) HT_.out (h := ?_)
                refine pu 5 22 (bv 10 55) HT_.out (h := ?_)
                refine pu 6 23 (bv 10 119) HT_.out (h := ?_)
                refine tk 3 20 (bv 10 127) HT_.out HW_.out hHeld (h := ?_)
                refine tk 7 24 (bv 10 255) HT_.out HW_.out hHeld (h := ?_)
                refine one_ (i := 8) (N := some 25) (bv 10 511) rfl rfl (one_of HT_.out (by kernel_rfl)) (by decide) (fun K hK => ?_)
                refine goes_ Tryd.func133 (by kernel_rfl) rfl #[.agg #[.string ((rd_T144 l0 x5_1).f0), .slice A551_1 ((rd_T144 l0 x5_1).f1).length c551_1], .agg #[.string ((rd_T144 l1 x5_1).f0), .slice A552_1 ((rd_T144 l1 x5_1).f1).length c552_1]] (by rfl) rfl rfl Ag ?_
                with_reducible refine (laws_eqAttr.calls k1 ((rd_T144 l0 x5_1).f0) _ _ ((rd_T144 l0 x5_1).f1) ((rd_T144 l1 x5_1).f0) _ _ ((rd_T144 l1 x5_1).f1) false _ ?side1 ?side2 ?side3 ?side4 A7.out).mono ?_
                (case side1 => repeat (first | exact (Kd.C_below HR551_1.out HB.out) | (with_reducible refine Kd.C_alloc ?_ _) | (with_reducible refine Kd.C_drewN ?_ _) | (with_reducible refine Kd.C_drew ?_)))
                (case side2 => exact HC551_1.out)
                (case side3 => repeat (first | exact (Kd.C_below HR552_1.out HB.out) | (with_reducible refine Kd.C_alloc ?_ _) | (with_reducible refine Kd.C_drewN ?_ _) | (with_reducible refine Kd.C_drew ?_)))
                (case side4 => exact HC552_1.out)
                rintro e w12 ⟨rfl, hb⟩
                refine ⟨_, rfl, ?_⟩
                have n0_ := Aside0.mk (below_step By hb)
                clear HB
                have HB := n0_
                clear n0_
                (try clear hb)
                (try clear hb2)
                (try clear hk)
                (try clear hi)
                refine hK.out _ _ ⟨(bz HB.out hw551_0), (bz HB.out hw551_1), (bz HB.out hw552_0), (bz HB.out hw552_1)⟩ (fun hHeld => ?_)
                clear hK K
                refine norm_ (a' := ?_) ?_ ?_
                rotate_left
                · show Act.put _ (some 25) _ = _
                  simp only [Act.put, List.setIfInBounds_toArray, List.set_cons_zero, List.set_cons_succ, i64_w, i32_w]
                  rfl
                refine pu 9 26 (bv 10 1023) HT_.out (h := ?_)
                refine done_ (done_of HT_.out (by kernel_rfl)) ?_
                try go_wp2
                go_ret
                exact ⟨Rf, By⟩
            · rw [if_neg c6] at H
              exact absurd H (by simp)
          · rw [if_neg c5] at H
            exact absurd H (by simp)
        · rw [if_neg c4] at H
          have c4b0 : decide (x5_1 < (l0.length : Int)) = false := decide_eq_false c4
          clear c4
          obtain rfl := Option.some.inj H
          go_wp2
          go_ret
          exact ⟨Rf, By⟩
  · rw [if_neg c3] at H
    have c3b0 : ((l0.length : Int) == (l1.length : Int)) = false := beq_eq_false_iff_ne.mpr c3
    have c3b1 : ((l0.length : Int) != (l1.length : Int)) = true := bne_iff_ne.mpr c3
    have c3b2 : (l0.length == l1.length) = false := by first | simpa using c3 | (simp at c3 ⊢; omega)
    obtain rfl := Option.some.inj H
    go_enter Tryd.func91, Tryd.ntmps91
    go_wp2
    go_ret
    exact ⟨Rf, By⟩

end Go.Proofs.YtpocoeghobdfiaaDoor.PG

-- WRITTEN BY A PROGRAM OF THIS SESSION (wip/gen/gen.py), by way of the kit's print program. Lean checks it.
namespace Go.Proofs.YtpocoeghobdfiaaDoor.PG
open Go.Proofs.YtpocoeghobdfiaaDoor.Sq Go.RowKit Go.Proofs.YtpocoeghobdfiaaDoorW.PrintWords Go.Proofs.YtpocoeghobdfiaaDoorW.PrintLast Go.Proofs.YtpocoeghobdfiaaDoorW.PrintMore
attribute [local go_sem] max2_int min2_int max_two min_two max_three min_three max_four min_four   -- for this text's walks alone
set_option linter.unusedVariables false
set_option linter.unusedSimpArgs false

/-! ### laws_eqEntry: function 38 -/
def laws_eqEntry.f (k : Nat) (l0_0 : List (S153)) (l0_1 : List (S144)) (l1_0 : List (S153)) (l1_1 : List (S144)) : Option (Bool) := (laws_eqRdnS.f k l0_0 l1_0).bind fun t556 => (if t556 = true then ((laws_eqAttrS.f k l0_1 l1_1).bind fun t557 => (if t557 = true then (some true) else (some false))) else (some false))
theorem laws_eqEntry.mono : ∀ a0 a1 a2 a3 k, LeO (laws_eqEntry.f k a0 a1 a2 a3) (laws_eqEntry.f (k + 1) a0 a1 a2 a3) := by
  intro a0 a1 a2 a3 k
  unfold laws_eqEntry.f
  repeat' first
      | (with_reducible exact laws_eqAttrS.mono _ _ _)
      | (with_reducible exact laws_eqRdnS.mono _ _ _)
      | (with_reducible exact LeO.refl _)
      | (with_reducible exact LeO.none _)
      | (with_reducible refine LeO.ite ?_ ?_)
      | (with_reducible refine LeO.bind ?_ (fun _ => ?_))
      | exact laws_eqAttrS.mono _ _ _
      | exact laws_eqRdnS.mono _ _ _
      | exact LeO.none _
      | refine LeO.ite ?_ ?_
      | refine LeO.bind ?_ (fun _ => ?_)
set_option maxHeartbeats 8000000 in
set_option maxRecDepth 100000 in
theorem laws_eqEntry.calls (k : Nat) (A0_0 : Option Addr) (c0_0 : Nat) (l0_0 : List (S153)) (A0_1 : Option Addr) (c0_1 : Nat) (l0_1 : List (S144)) (A1_0 : Option Addr) (c1_0 : Nat) (l1_0 : List (S153)) (A1_1 : Option Addr) (c1_1 : Nat) (l1_1 : List (S144)) (r : Bool) (w : World) (hr0_0 : Kd.C k153 w A0_0 l0_0.length l0_0) (hc0_0 : l0_0.length ≤ c0_0) (hr0_1 : Kd.C k144 w A0_1 l0_1.length l0_1) (hc0_1 : l0_1.length ≤ c0_1) (hr1_0 : Kd.C k153 w A1_0 l1_0.length l1_0) (hc1_0 : l1_0.length ≤ c1_0) (hr1_1 : Kd.C k144 w A1_1 l1_1.length l1_1) (hc1_1 : l1_1.length ≤ c1_1) (h : laws_eqEntry.f k l0_0 l0_1 l1_0 l1_1 = some r) :
    Calls Tryd.prog 38 #[.agg #[.slice A0_0 l0_0.length c0_0, .slice A0_1 l0_1.length c0_1], .agg #[.slice A1_0 l1_0.length c1_0, .slice A1_1 l1_1.length c1_1]] w fun e w' => e = .returned (.bool r) ∧ Below w.heap.size w w' := by
  have hu67 := Tryd.underlying67
  have HR0_0 := Aside0.mk hr0_0
  have HC0_0 := Aside0.mk hc0_0
  clear hr0_0 hc0_0
  have HR0_1 := Aside0.mk hr0_1
  have HC0_1 := Aside0.mk hc0_1
  clear hr0_1 hc0_1
  have HR1_0 := Aside0.mk hr1_0
  have HC1_0 := Aside0.mk hc1_0
  clear hr1_0 hc1_0
  have HR1_1 := Aside0.mk hr1_1
  have HC1_1 := Aside0.mk hc1_1
  clear hr1_1 hc1_1
  have HB := Aside0.mk (Below.refl w.heap.size w)
  have H : ((laws_eqRdnS.f k l0_0 l1_0).bind fun t556 => (if t556 = true then ((laws_eqAttrS.f k l0_1 l1_1).bind fun t557 => (if t557 = true then (some true) else (some false))) else (some false))) = some r := h
  clear h
  replace H := Option.bind_eq_some_iff.mp H
  obtain ⟨t556, A30, H⟩ := H
  replace H : (if t556 = true then ((laws_eqAttrS.f k l0_1 l1_1).bind fun t557 => (if t557 = true then (some true) else (some false))) else (some false)) = some r := H
  have A3 := Aside0.mk A30
  clear A30
  by_cases c4 : t556 = true
  · subst c4
    have H1 : ((laws_eqAttrS.f k l0_1 l1_1).bind fun t557 => (if t557 = true then (some true) else (some false))) = some r := by rw [if_pos rfl] at H; exact H
    clear H
    have H := H1
    clear H1
    replace H := Option.bind_eq_some_iff.mp H
    obtain ⟨t557, A50, H⟩ := H
    replace H : (if t557 = true then (some true) else (some false)) = some r := H
    have A5 := Aside0.mk A50
    clear A50
    by_cases c6 : t557 = true
    · subst c6
      have H1 : (some true) = some r := by rw [if_pos rfl] at H; exact H
      clear H
      have H := H1
      clear H1
      obtain rfl := Option.some.inj H
      go_enter Tryd.func38, Tryd.ntmps38
      go_wp2_with (first | ((with_reducible refine gate_dst (N := 2) rfl ?_); refine box_event ?hg (N := 2) ?hd (cs := #[.slice A0_0 l0_0.length c0_0, .slice A0_1 l0_1.length c0_1]) (t := 67) ?hr ?_; (case hd => rfl); (case hg => rfl); (case hr => first | (go_simp; done) | (go_simp; rfl)); intro gb554 hg w7 hbox hb; have n0_ := Aside0.mk (below_step By hb); have n1_ := Aside0.mk (hbox); have n2_ := Aside0.mk ((by rw [hg]; exact (below_size By) : w.heap.size ≤ gb554)); have n3_ := Aside0.mk ((by rw [hg]; exact (below_size By) : w.heap.size ≤ gb554)); clear HB; have HB := n0_; have BK554 := n1_; have GW554 := n2_; have GE554 := n3_; clear n0_ n1_ n2_ n3_; clear hb hbox hg) | ((with_reducible refine gate_dst (N := 3) rfl ?_); refine box_event ?hg (N := 3) ?hd (cs := #[.slice A1_0 l1_0.length c1_0, .slice A1_1 l1_1.length c1_1]) (t := 67) ?hr ?_; (case hd => rfl); (case hg => rfl); (case hr => first | (go_simp; done) | (go_simp; rfl)); intro gb555 hg w8 hbox hb; have n0_ := Aside0.mk (bb BK554.out hb); have n1_ := Aside0.mk (below_step By hb); have n2_ := Aside0.mk (hbox); have n3_ := Aside0.mk ((by rw [hg]; exact (below_size By) : w.heap.size ≤ gb555)); have n4_ := Aside0.mk ((by rw [hg]; exact (below_size By) : w.heap.size ≤ gb555)); have n5_ := Aside0.mk ((by rw [hg]; exact Nat.ne_of_lt (bl BK554.out) : gb554 ≠ gb555)); have n6_ := Aside0.mk ((by rw [hg]; exact Nat.ne_of_gt (bl BK554.out) : gb555 ≠ gb554)); clear BK554; clear HB; have BK554 := n0_; have HB := n1_; have BK555 := n2_; have GW555 := n3_; have GE555 := n4_; have NB554_555 := n5_; have NB555_554 := n6_; clear n0_ n1_ n2_ n3_ n4_ n5_ n6_; clear hb hbox hg; have hnb9 := NB554_555.out; have hnc9 := NB555_554.out; have ⟨hcz10_0, hcz10_1⟩ := cq2 BK554.out; have ⟨hfz10_0, hfz10_1⟩ := fq2 BK554.out; have ⟨hcz11_0, hcz11_1⟩ := cq2 BK555.out; have ⟨hfz11_0, hfz11_1⟩ := fq2 BK555.out) | ((with_reducible refine gate_callee (f := 90) rfl ?_); refine goesL_ (some 9) rfl rfl Tryd.func90 (by kernel_rfl) rfl #[.slice A0_0 l0_0.length c0_0, .slice A1_0 l1_0.length c1_0] rfl Ag ?_; (with_reducible refine (laws_eqRdnS.calls k _ _ l0_0 _ _ l1_0 true _ ?side1 ?side2 ?side3 ?side4 A3.out).mono ?_); (case side1 => repeat (first | exact (Kd.C_below HR0_0.out HB.out) | (with_reducible refine Kd.C_alloc ?_ _) | (with_reducible refine Kd.C_drewN ?_ _) | (with_reducible refine Kd.C_drew ?_))); (case side2 => exact HC0_0.out); (case side3 => repeat (first | exact (Kd.C_below HR1_0.out HB.out) | (with_reducible refine Kd.C_alloc ?_ _) | (with_reducible refine Kd.C_drewN ?_ _) | (with_reducible refine Kd.C_drew ?_))); (case side4 => exact HC1_0.out); rintro e w12 ⟨rfl, hb⟩; refine ⟨_, rfl, ?_⟩; have n0_ := Aside0.mk (bb BK554.out hb); have n1_ := Aside0.mk (bb BK555.out hb); have n2_ := Aside0.mk (below_step By hb); clear BK554; clear BK555; clear HB; have BK554 := n0_; have BK555 := n1_; have HB := n2_; clear n0_ n1_ n2_; (try clear hb); (try clear hb2); (try clear hk); (try clear hi); have ⟨hcz13_0, hcz13_1⟩ := cq2 BK554.out; have ⟨hfz13_0, hfz13_1⟩ := fq2 BK554.out; have ⟨hcz14_0, hcz14_1⟩ := cq2 BK555.out; have ⟨hfz14_0, hfz14_1⟩ := fq2 BK555.out) | ((with_reducible refine gate_callee (f := 91) rfl ?_); refine goesL_ (some 15) rfl rfl Tryd.func91 (by kernel_rfl) rfl #[.slice A0_1 l0_1.length c0_1, .slice A1_1 l1_1.length c1_1] rfl Ag ?_; (with_reducible refine (laws_eqAttrS.calls k _ _ l0_1 _ _ l1_1 true _ ?side1 ?side2 ?side3 ?side4 A5.out).mono ?_); (case side1 => repeat (first | exact (Kd.C_below HR0_1.out HB.out) | (with_reducible refine Kd.C_alloc ?_ _) | (with_reducible refine Kd.C_drewN ?_ _) | (with_reducible refine Kd.C_drew ?_))); (case side2 => exact HC0_1.out); (case side3 => repeat (first | exact (Kd.C_below HR1_1.out HB.out) | (with_reducible refine Kd.C_alloc ?_ _) | (with_reducible refine Kd.C_drewN ?_ _) | (with_reducible refine Kd.C_drew ?_))); (case side4 => exact HC1_1.out); rintro e w15 ⟨rfl, hb⟩; refine ⟨_, rfl, ?_⟩; have n0_ := Aside0.mk (bb BK554.out hb); have n1_ := Aside0.mk (bb BK555.out hb); have n2_ := Aside0.mk (below_step By hb); clear BK554; clear BK555; clear HB; have BK554 := n0_; have BK555 := n1_; have HB := n2_; clear n0_ n1_ n2_; (try clear hb); (try clear hb2); (try clear hk); (try clear hi)))
      go_ret
      exact ⟨Rf, By⟩
    · replace c6 := Bool.eq_false_iff.mpr c6
      subst c6
      have H1 : (some false) = some r := by rw [if_neg (show ¬ (false = true) by decide)] at H; exact H
      clear H
      have H := H1
      clear H1
      obtain rfl := Option.some.inj H
      go_enter Tryd.func38, Tryd.ntmps38
      go_wp2_with (first | ((with_reducible refine gate_dst (N := 2) rfl ?_); refine box_event ?hg (N := 2) ?hd (cs := #[.slice A0_0 l0_0.length c0_0, .slice A0_1 l0_1.length c0_1]) (t := 67) ?hr ?_; (case hd => rfl); (case hg => rfl); (case hr => first | (go_simp; done) | (go_simp; rfl)); intro gb554 hg w16 hbox hb; have n0_ := Aside0.mk (below_step By hb); have n1_ := Aside0.mk (hbox); have n2_ := Aside0.mk ((by rw [hg]; exact (below_size By) : w.heap.size ≤ gb554)); have n3_ := Aside0.mk ((by rw [hg]; exact (below_size By) : w.heap.size ≤ gb554)); clear HB; have HB := n0_; have BK554 := n1_; have GW554 := n2_; have GE554 := n3_; clear n0_ n1_ n2_ n3_; clear hb hbox hg) | ((with_reducible refine gate_dst (N := 3) rfl ?_); refine box_event ?hg (N := 3) ?hd (cs := #[.slice A1_0 l1_0.length c1_0, .slice A1_1 l1_1.length c1_1]) (t := 67) ?hr ?_; (case hd => rfl); (case hg => rfl); (case hr => first | (go_simp; done) | (go_simp; rfl)); intro gb555 hg w17 hbox hb; have n0_ := Aside0.mk (bb BK554.out hb); have n1_ := Aside0.mk (below_step By hb); have n2_ := Aside0.mk (hbox); have n3_ := Aside0.mk ((by rw [hg]; exact (below_size By) : w.heap.size ≤ gb555)); have n4_ := Aside0.mk ((by rw [hg]; exact (below_size By) : w.heap.size ≤ gb555)); have n5_ := Aside0.mk ((by rw [hg]; exact Nat.ne_of_lt (bl BK554.out) : gb554 ≠ gb555)); have n6_ := Aside0.mk ((by rw [hg]; exact Nat.ne_of_gt (bl BK554.out) : gb555 ≠ gb554)); clear BK554; clear HB; have BK554 := n0_; have HB := n1_; have BK555 := n2_; have GW555 := n3_; have GE555 := n4_; have NB554_555 := n5_; have NB555_554 := n6_; clear n0_ n1_ n2_ n3_ n4_ n5_ n6_; clear hb hbox hg; have hnb18 := NB554_555.out; have hnc18 := NB555_554.out; have ⟨hcz19_0, hcz19_1⟩ := cq2 BK554.out; have ⟨hfz19_0, hfz19_1⟩ := fq2 BK554.out; have ⟨hcz20_0, hcz20_1⟩ := cq2 BK555.out; have ⟨hfz20_0, hfz20_1⟩ := fq2 BK555.out) | ((with_reducible refine gate_callee (f := 90) rfl ?_); refine goesL_ (some 9) rfl rfl Tryd.func90 (by kernel_rfl) rfl #[.slice A0_0 l0_0.length c0_0, .slice A1_0 l1_0.length c1_0] rfl Ag ?_; (with_reducible refine (laws_eqRdnS.calls k _ _ l0_0 _ _ l1_0 true _ ?side1 ?side2 ?side3 ?side4 A3.out).mono ?_); (case side1 => repeat (first | exact (Kd.C_below HR0_0.out HB.out) | (with_reducible refine Kd.C_alloc ?_ _) | (with_reducible refine Kd.C_drewN ?_ _) | (with_reducible refine Kd.C_drew ?_))); (case side2 => exact HC0_0.out); (case side3 => repeat (first | exact (Kd.C_below HR1_0.out HB.out) | (with_reducible refine Kd.C_alloc ?_ _) | (with_reducible refine Kd.C_drewN ?_ _) | (with_reducible refine Kd.C_drew ?_))); (case side4 => exact HC1_0.out); rintro e w21 ⟨rfl, hb⟩; refine ⟨_, rfl, ?_⟩; have n0_ := Aside0.mk (bb BK554.out hb); have n1_ := Aside0.mk (bb BK555.out hb); have n2_ := Aside0.mk (below_step By hb); clear BK554; clear BK555; clear HB; have BK554 := n0_; have BK555 := n1_; have HB := n2_; clear n0_ n1_ n2_; (try clear hb); (try clear hb2); (try clear hk); (try clear hi); have ⟨hcz22_0, hcz22_1⟩ := cq2 BK554.out; have ⟨hfz22_0, hfz22_1⟩ := fq2 BK554.out; have ⟨hcz23_0, hcz23_1⟩ := cq2 BK555.out; have ⟨hfz23_0, hfz23_1⟩ := fq2 BK555.out) | ((with_reducible refine gate_callee (f := 91) rfl ?_); refine goesL_ (some 15) rfl rfl Tryd.func91 (by kernel_rfl) rfl #[.slice A0_1 l0_1.length c0_1, .slice A1_1 l1_1.length c1_1] rfl Ag ?_; (with_reducible refine (laws_eqAttrS.calls k _ _ l0_1 _ _ l1_1 false _ ?side1 ?side2 ?side3 ?side4 A5.out).mono ?_); (case side1 => repeat (first | exact (Kd.C_below HR0_1.out HB.out) | (with_reducible refine Kd.C_alloc ?_ _) | (with_reducible refine Kd.C_drewN ?_ _) | (with_reducible refine Kd.C_drew ?_))); (case side2 => exact HC0_1.out); (case side3 => repeat (first | exact (Kd.C_below HR1_1.out HB.out) | (with_reducible refine Kd.C_alloc ?_ _) | (with_reducible refine Kd.C_drewN ?_ _) | (with_reducible refine Kd.C_drew ?_))); (case side4 => exact HC1_1.out); rintro e w24 ⟨rfl, hb⟩; refine ⟨_, rfl, ?_⟩; have n0_ := Aside0.mk (bb BK554.out hb); have n1_ := Aside0.mk (bb BK555.out hb); have n2_ := Aside0.mk (below_step By hb); clear BK554; clear BK555; clear HB; have BK554 := n0_; have BK555 := n1_; have HB := n2_; clear n0_ n1_ n2_; (try clear hb); (try clear hb2); (try clear hk); (try clear hi)))
      go_ret
      exact ⟨Rf, By⟩
  · replace c4 := Bool.eq_false_iff.mpr c4
    subst c4
    have H1 : (some false) = some r := by rw [if_neg (show ¬ (false = true) by decide)] at H; exact H
    clear H
    have H := H1
    clear H1
    obtain rfl := Option.some.inj H
    go_enter Tryd.func38, Tryd.ntmps38
    go_wp2_with (first | ((with_reducible refine gate_dst (N := 2) rfl ?_); refine box_event ?hg (N := 2) ?hd (cs := #[.slice A0_0 l0_0.length c0_0, .slice A0_1 l0_1.length c0_1]) (t := 67) ?hr ?_; (case hd => rfl); (case hg => rfl); (case hr => first | (go_simp; done) | (go_simp; rfl)); intro gb554 hg w25 hbox hb; have n0_ := Aside0.mk (below_step By hb); have n1_ := Aside0.mk (hbox); have n2_ := Aside0.mk ((by rw [hg]; exact (below_size By) : w.heap.size ≤ gb554)); have n3_ := Aside0.mk ((by rw [hg]; exact (below_size By) : w.heap.size ≤ gb554)); clear HB; have HB := n0_; have BK554 := n1_; have GW554 := n2_; have GE554 := n3_; clear n0_ n1_ n2_ n3_; clear hb hbox hg) | ((with_reducible refine gate_dst (N := 3) rfl ?_); refine box_event ?hg (N := 3) ?hd (cs := #[.slice A1_0 l1_0.length c1_0, .slice A1_1 l1_1.length c1_1]) (t := 67) ?hr ?_; (case hd => rfl); (case hg => rfl); (case hr => first | (go_simp; done) | (go_simp; rfl)); intro gb555 hg w26 hbox hb; have n0_ := Aside0.mk (bb BK554.out hb); have n1_ := Aside0.mk (below_step By hb); have n2_ := Aside0.mk (hbox); have n3_ := Aside0.mk ((by rw [hg]; exact (below_size By) : w.heap.size ≤ gb555)); have n4_ := Aside0.mk ((by rw [hg]; exact (below_size By) : w.heap.size ≤ gb555)); have n5_ := Aside0.mk ((by rw [hg]; exact Nat.ne_of_lt (bl BK554.out) : gb554 ≠ gb555)); have n6_ := Aside0.mk ((by rw [hg]; exact Nat.ne_of_gt (bl BK554.out) : gb555 ≠ gb554)); clear BK554; clear HB; have BK554 := n0_; have HB := n1_; have BK555 := n2_; have GW555 := n3_; have GE555 := n4_; have NB554_555 := n5_; have NB555_554 := n6_; clear n0_ n1_ n2_ n3_ n4_ n5_ n6_; clear hb hbox hg; have hnb27 := NB554_555.out; have hnc27 := NB555_554.out; have ⟨hcz28_0, hcz28_1⟩ := cq2 BK554.out; have ⟨hfz28_0, hfz28_1⟩ := fq2 BK554.out; have ⟨hcz29_0, hcz29_1⟩ := cq2 BK555.out; have ⟨hfz29_0, hfz29_1⟩ := fq2 BK555.out) | ((with_reducible refine gate_callee (f := 90) rfl ?_); refine goesL_ (some 9) rfl rfl Tryd.func90 (by kernel_rfl) rfl #[.slice A0_0 l0_0.length c0_0, .slice A1_0 l1_0.length c1_0] rfl Ag ?_; (with_reducible refine (laws_eqRdnS.calls k _ _ l0_0 _ _ l1_0 false _ ?side1 ?side2 ?side3 ?side4 A3.out).mono ?_); (case side1 => repeat (first | exact (Kd.C_below HR0_0.out HB.out) | (with_reducible refine Kd.C_alloc ?_ _) | (with_reducible refine Kd.C_drewN ?_ _) | (with_reducible refine Kd.C_drew ?_))); (case side2 => exact HC0_0.out); (case side3 => repeat (first | exact (Kd.C_below HR1_0.out HB.out) | (with_reducible refine Kd.C_alloc ?_ _) | (with_reducible refine Kd.C_drewN ?_ _) | (with_reducible refine Kd.C_drew ?_))); (case side4 => exact HC1_0.out); rintro e w30 ⟨rfl, hb⟩; refine ⟨_, rfl, ?_⟩; have n0_ := Aside0.mk (bb BK554.out hb); have n1_ := Aside0.mk (bb BK555.out hb); have n2_ := Aside0.mk (below_step By hb); clear BK554; clear BK555; clear HB; have BK554 := n0_; have BK555 := n1_; have HB := n2_; clear n0_ n1_ n2_; (try clear hb); (try clear hb2); (try clear hk); (try clear hi)))
    go_ret
    exact ⟨Rf, By⟩

end Go.Proofs.YtpocoeghobdfiaaDoor.PG
