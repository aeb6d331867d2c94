/-
  Functions that the law reaches, each as a plain Lean function, with the proof that the call comes to it (written by a program of this session by way of the kit's print program). Conditions: what each contract states.
-/
import Derived.Test.YtpocoeghobdfiaaDoorRLP1
import Derived.Test.YtpocoeghobdfiaaDoorRLP2
import Derived.Test.YtpocoeghobdfiaaDoorRLSq
-- WRITTEN BY A PROGRAM OF THIS SESSION (wip/gen/gen.py), by way of the kit's print program. Lean checks it.
namespace Go.Proofs.YtpocoeghobdfiaaDoor.PG
open Go.Proofs.YtpocoeghobdfiaaDoor.Sq Go.RowKit Go.Proofs.YtpocoeghobdfiaaDoorW.PrintWords Go.Proofs.YtpocoeghobdfiaaDoorW.PrintLast Go.Proofs.YtpocoeghobdfiaaDoorW.PrintMore
attribute [local go_sem] max2_int min2_int max_two min_two max_three min_three max_four min_four   -- for this text's walks alone
set_option linter.unusedVariables false
set_option linter.unusedSimpArgs false

/-! ### impl_Norm: function 89 -/
mutual
def impl_Norm.j0 : Nat → ByteArray → Bool → Option (ByteArray)
  | 0, _, _ => none
  | k + 1, x0, x13 => if x13 = true then (some (⟨#[]⟩ : ByteArray)) else (impl_Norm.l0 k x0 (([] : List Int)) (x0.size : Int) 0)
def impl_Norm.l0 : Nat → ByteArray → List Int → Int → Int → Option (ByteArray)
  | 0, _, _, _, _ => none
  | k + 1, x0, x3, x16, x17 => if x17 < x16 then (if 0 ≤ x17 then (if x17 < (x0.size : Int) then (if (bt x0 x17) ≥ 65 then (impl_Norm.j2 k x0 x3 (bt x0 x17) x16 x17 (decide ((bt x0 x17) ≤ 90))) else (impl_Norm.j2 k x0 x3 (bt x0 x17) x16 x17 false)) else (none)) else (none)) else ((strings_TrimSuffix.f (strOfNums x3) (⟨#[32]⟩ : ByteArray)).bind fun t357 => (some t357))
def impl_Norm.j2 : Nat → ByteArray → List Int → Int → Int → Int → Bool → Option (ByteArray)
  | 0, _, _, _, _, _, _ => none
  | k + 1, x0, x3, x5, x16, x17, x28 => if x28 = true then (if ((x5 + 32) % 256) = 32 then (if (x3.length : Int) > 0 then (if 0 ≤ (wrap64 ((x3.length : Int) - 1)) then (if (wrap64 ((x3.length : Int) - 1)) < (x3.length : Int) then (if (rd x3 (wrap64 ((x3.length : Int) - 1))) = 32 then (impl_Norm.l0 k x0 x3 x16 (wrap64 (x17 + 1))) else (if x3.length < 140737488355328 then (impl_Norm.l0 k x0 (x3 ++ [(x5 + 32) % 256]) x16 (wrap64 (x17 + 1))) else (none))) else (none)) else (none)) else (impl_Norm.l0 k x0 x3 x16 (wrap64 (x17 + 1)))) else (if x3.length < 140737488355328 then (impl_Norm.l0 k x0 (x3 ++ [(x5 + 32) % 256]) x16 (wrap64 (x17 + 1))) else (none))) else (if x5 = 32 then (if (x3.length : Int) > 0 then (if 0 ≤ (wrap64 ((x3.length : Int) - 1)) then (if (wrap64 ((x3.length : Int) - 1)) < (x3.length : Int) then (if (rd x3 (wrap64 ((x3.length : Int) - 1))) = 32 then (impl_Norm.l0 k x0 x3 x16 (wrap64 (x17 + 1))) else (if x3.length < 140737488355328 then (impl_Norm.l0 k x0 (x3 ++ [x5]) x16 (wrap64 (x17 + 1))) else (none))) else (none)) else (none)) else (impl_Norm.l0 k x0 x3 x16 (wrap64 (x17 + 1)))) else (if x3.length < 140737488355328 then (impl_Norm.l0 k x0 (x3 ++ [x5]) x16 (wrap64 (x17 + 1))) else (none)))
end
def impl_Norm.f (k : Nat) (a0 : ByteArray) : Option (ByteArray) := if (a0.size : Int) > 100 then (impl_Norm.j0 k a0 true) else ((impl_isPrintable.f k a0).bind fun t353 => (impl_Norm.j0 k a0 (!t353)))
theorem impl_Norm.mono_l : ∀ k, (∀ y0 y1, LeO (impl_Norm.j0 k y0 y1) (impl_Norm.j0 (k + 1) y0 y1)) ∧ (∀ y0 y1 y2 y3, LeO (impl_Norm.l0 k y0 y1 y2 y3) (impl_Norm.l0 (k + 1) y0 y1 y2 y3)) ∧ (∀ y0 y1 y2 y3 y4 y5, LeO (impl_Norm.j2 k y0 y1 y2 y3 y4 y5) (impl_Norm.j2 (k + 1) y0 y1 y2 y3 y4 y5))
  | 0 => ⟨fun _ _ r h => by simp [impl_Norm.j0] at h, fun _ _ _ _ r h => by simp [impl_Norm.l0] at h, fun _ _ _ _ _ _ r h => by simp [impl_Norm.j2] at h⟩
  | k + 1 => by
    obtain ⟨ih0, ih1, ih2⟩ := impl_Norm.mono_l k
    refine ⟨?_, ?_, ?_⟩
    · intro y0 y1
      unfold impl_Norm.j0
      repeat' first
      | (with_reducible exact ih0 _ _)
      | (with_reducible exact ih1 _ _ _ _)
      | (with_reducible exact ih2 _ _ _ _ _ _)
      | (with_reducible exact impl_isPrintable.mono _ _)
      | (with_reducible exact LeO.refl _)
      | (with_reducible exact LeO.none _)
      | (with_reducible refine LeO.ite ?_ ?_)
      | (with_reducible refine LeO.bind ?_ (fun _ => ?_))
      | exact ih0 _ _
      | exact ih1 _ _ _ _
      | exact ih2 _ _ _ _ _ _
      | exact impl_isPrintable.mono _ _
      | exact LeO.none _
      | refine LeO.ite ?_ ?_
      | refine LeO.bind ?_ (fun _ => ?_)
    · intro y0 y1 y2 y3
      unfold impl_Norm.l0
      repeat' first
      | (with_reducible exact ih0 _ _)
      | (with_reducible exact ih1 _ _ _ _)
      | (with_reducible exact ih2 _ _ _ _ _ _)
      | (with_reducible exact impl_isPrintable.mono _ _)
      | (with_reducible exact LeO.refl _)
      | (with_reducible exact LeO.none _)
      | (with_reducible refine LeO.ite ?_ ?_)
      | (with_reducible refine LeO.bind ?_ (fun _ => ?_))
      | exact ih0 _ _
      | exact ih1 _ _ _ _
      | exact ih2 _ _ _ _ _ _
      | exact impl_isPrintable.mono _ _
      | exact LeO.none _
      | refine LeO.ite ?_ ?_
      | refine LeO.bind ?_ (fun _ => ?_)
    · intro y0 y1 y2 y3 y4 y5
      unfold impl_Norm.j2
      repeat' first
      | (with_reducible exact ih0 _ _)
      | (with_reducible exact ih1 _ _ _ _)
      | (with_reducible exact ih2 _ _ _ _ _ _)
      | (with_reducible exact impl_isPrintable.mono _ _)
      | (with_reducible exact LeO.refl _)
      | (with_reducible exact LeO.none _)
      | (with_reducible refine LeO.ite ?_ ?_)
      | (with_reducible refine LeO.bind ?_ (fun _ => ?_))
      | exact ih0 _ _
      | exact ih1 _ _ _ _
      | exact ih2 _ _ _ _ _ _
      | exact impl_isPrintable.mono _ _
      | exact LeO.none _
      | refine LeO.ite ?_ ?_
      | refine LeO.bind ?_ (fun _ => ?_)
theorem impl_Norm.mono : ∀ a0 k, LeO (impl_Norm.f k a0) (impl_Norm.f (k + 1) a0) := by
  intro a0 k
  obtain ⟨ih0, ih1, ih2⟩ := impl_Norm.mono_l k
  unfold impl_Norm.f
  repeat' first
      | (with_reducible exact ih0 _ _)
      | (with_reducible exact ih1 _ _ _ _)
      | (with_reducible exact ih2 _ _ _ _ _ _)
      | (with_reducible exact impl_isPrintable.mono _ _)
      | (with_reducible exact LeO.refl _)
      | (with_reducible exact LeO.none _)
      | (with_reducible refine LeO.ite ?_ ?_)
      | (with_reducible refine LeO.bind ?_ (fun _ => ?_))
      | exact ih0 _ _
      | exact ih1 _ _ _ _
      | exact ih2 _ _ _ _ _ _
      | exact impl_isPrintable.mono _ _
      | exact LeO.none _
      | refine LeO.ite ?_ ?_
      | refine LeO.bind ?_ (fun _ => ?_)
set_option maxHeartbeats 8000000 in
set_option maxRecDepth 100000 in
theorem impl_Norm.calls (k : Nat) (a0 : ByteArray) (r : ByteArray) (w : World) (h : impl_Norm.f k a0 = some r) :
    Calls Tryd.prog 89 #[.string a0] w fun e w' => e = .returned (.string r) ∧ Below w.heap.size w w' := by
  have HB := Aside0.mk (Below.refl w.heap.size w)
  have H : (if (a0.size : Int) > 100 then (impl_Norm.j0 k a0 true) else ((impl_isPrintable.f k a0).bind fun t353 => (impl_Norm.j0 k a0 (!t353)))) = some r := h
  clear h
  have HC2 := Aside0.mk H
  clear H
  go_enter Tryd.func89, Tryd.ntmps89
  go_upto_region 1 with (fail)
  go_cut [13] (fun v13 wc => ∃ (kq : Nat) (x13_1 : Bool), v13 = .bool x13_1 ∧ Aside0 (impl_Norm.j0 kq a0 x13_1 = some r) ∧ Aside0 (kq ≤ k) ∧ Aside0 (Below w.heap.size w wc))
  case first =>
    have H := HC2.out
    clear HC2
    by_cases c3 : (a0.size : Int) > 100
    · rw [if_pos c3] at H
      have c3b0 : decide (100 < (a0.size : Int)) = true := decide_eq_true c3
      have c3b1 : decide (100 < a0.size) = true := decide_eq_true (by omega)
      clear c3
      (first | rw [c3b0] | (simp only [i64_w, i32_w]; rw [c3b0]) | skip)
      have H' := Aside0.mk H
      clear H
      go_wp2
      go_meet
      case rel => exact ⟨_, (true), (by first | rfl | (simp; done) | (simp [*]; done)), H', ⟨by first | omega | exact Nat.le_refl _⟩, ⟨By⟩⟩
    · rw [if_neg c3] at H
      have c3b0 : decide (100 < (a0.size : Int)) = false := decide_eq_false c3
      have c3b1 : decide (100 < a0.size) = false := decide_eq_false (by omega)
      clear c3
      (first | rw [c3b0] | (simp only [i64_w, i32_w]; rw [c3b0]) | skip)
      replace H := Option.bind_eq_some_iff.mp H
      obtain ⟨t353, A40, H⟩ := H
      replace H : (impl_Norm.j0 k a0 (!t353)) = some r := H
      have A4 := Aside0.mk A40
      clear A40
      have H' := Aside0.mk H
      clear H
      go_wp2_with (first | (go_at_call 130; (with_reducible refine (impl_isPrintable.calls k a0 t353 _ A4.out).mono ?_); rintro e w' ⟨rfl, ⟨nd, rfl⟩⟩))
      go_meet
      case rel => exact ⟨_, (!t353), (by first | rfl | (simp; done) | (simp [*]; done)), H', ⟨by first | omega | exact Nat.le_refl _⟩, ⟨By⟩⟩
  case rest =>
    clear HC2
    try clear p2
    try clear c3
    try clear c3b0
    try clear c3b1
    obtain ⟨kq, x13_1, rfl, HA, HJ1, HB⟩ := hcut
    cases kq with
    | zero => exact absurd HA.out (by simp [impl_Norm.j0])
    | succ kj1 =>
      have H := HA.out
      clear HA
      simp only [impl_Norm.j0] at H
      by_cases c5 : x13_1 = true
      · subst c5
        have H1 : (some (⟨#[]⟩ : ByteArray)) = some r := by rw [if_pos rfl] at H; exact H
        clear H
        have H := H1
        clear H1
        obtain rfl := Option.some.inj H
        go_wp2
        go_ret
        exact ⟨Rf, By⟩
      · replace c5 := Bool.eq_false_iff.mpr c5
        subst c5
        have H1 : (impl_Norm.l0 kj1 a0 (([] : List Int)) (a0.size : Int) 0) = some r := by rw [if_neg (show ¬ (false = true) by decide)] at H; exact H
        clear H
        have H := H1
        clear H1
        obtain ⟨y354, hy354⟩ : ∃ y_ : List Int, y_ = (([] : List Int)) := ⟨_, rfl⟩
        replace H : (impl_Norm.l0 kj1 a0 y354 (a0.size : Int) 0) = some r := by first | (rw [hy354]; with_reducible exact H) | (have H2_ := (Option.bind_some _ _).symm.trans H; rw [hy354]; with_reducible exact H2_) | (have H2_ := (Option.bind_some _ _).symm.trans H; with_reducible exact H2_) | with_reducible exact H | (rw [hy354]; exact H) | exact H
        have Ny354 := Aside0.mk hy354
        clear hy354
        have H' := Aside0.mk H
        clear H
        go_wp2_with (first | ((with_reducible refine gate_dst (N := 14) rfl ?_); (try (refine gate_guard (by rfl) ?_; dsimp only)); refine Kd.R_lit (Kd.int .u8) _ 5 ?hg (N := 14) ?hd (xs := ([] : List Int)) (inner := []) (ok := fun _ => True) (okp := fun _ => True) ?hr ?hp (fun _ hk => hk) trivial (Below.refl _ _) (Nat.le_refl _) (by simp) ?_; (case hd => rfl); (case hg => rfl); (case hr => first | (go_simp; done) | (go_simp; rfl)); (case hp => exact (Reps.none _ _)); intro v355 w6 ho7 hb hg_ hnew_; clear hg_ hnew_; (first | rw [← Ny354.out] at ho7 | (simp only [Int.reduceToNat] at ho7; rw [← Ny354.out] at ho7)); have n0_ := Aside0.mk (Kd.R_lower ho7 (below_size By)); have n1_ := Aside0.mk (below_step By hb); clear HB; have HO356 := n0_; have HB := n1_; clear n0_ n1_; clear hb ho7))
        go_loopg [3, 17] kj1 (fun kq v3 v17 w' => ∃ (x3_2 : List Int) (x17_2 : Int), v17 = .int .i64 x17_2 ∧ Aside0 (impl_Norm.l0 kq a0 x3_2 (a0.size : Int) x17_2 = some r) ∧ Aside0 (kq ≤ kj1) ∧ Aside0 (Kd.R (Kd.int .u8) 5 w' w.heap.size (fun _ => True) v3 x3_2) ∧ Aside0 (Below w.heap.size w w'))
        case atStart => exact ⟨(y354), (0), (by first | rfl | (simp; done) | (simp [*]; done)), H', ⟨Nat.le_refl _⟩, ⟨by (with_reducible repeat (first | apply Kd.R_alloc | apply Kd.R_drewN | apply Kd.R_drew)); exact HO356.out⟩, ⟨By⟩⟩
        case round =>
          clear H'
          try clear p2
          try clear c3
          try clear c3b0
          try clear c3b1
          try clear c5
          try clear p2
          obtain ⟨x3_2, x17_2, rfl, HA, HK2, HO_3, HB⟩ := hrel
          cases gk with
          | zero => exact absurd HA.out (by simp [impl_Norm.l0])
          | succ k2 =>
            have H := HA.out
            clear HA
            simp only [impl_Norm.l0] at H
            by_cases c8 : x17_2 < (a0.size : Int)
            · rw [if_pos c8] at H
              have c8b0 : decide (x17_2 < (a0.size : Int)) = true := decide_eq_true c8
              clear c8
              by_cases c9 : 0 ≤ x17_2
              · rw [if_pos c9] at H
                have c9b0 : decide (0 ≤ x17_2) = true := decide_eq_true c9
                clear c9
                by_cases c10 : x17_2 < (a0.size : Int)
                · rw [if_pos c10] at H
                  have c10b0 : decide (x17_2 < (a0.size : Int)) = true := decide_eq_true c10
                  clear c10
                  have HC12 := Aside0.mk H
                  clear H
                  have p11 : 0 ≤ (x17_2 : Int) := of_decide_eq_true Da
                  have q11 : x17_2 < (a0.size : Int) := of_decide_eq_true Da
                  have hx11 := bt_at a0 x17_2
                  replace p11 := eq_true p11
                  replace q11 := eq_true q11
                  go_upto_region 8 with (fail)
                  go_cut [28] (fun v28 wc => ∃ (kq : Nat) (x28_11 : Bool), v28 = .bool x28_11 ∧ Aside0 (impl_Norm.j2 kq a0 x3_2 (bt a0 x17_2) (a0.size : Int) x17_2 x28_11 = some r) ∧ Aside0 (kq ≤ k2) ∧ Aside0 (Kd.R (Kd.int .u8) 5 wc w.heap.size (fun _ => True) u3 x3_2) ∧ Aside0 (Below w.heap.size w wc))
                  case first =>
                    have H := HC12.out
                    clear HC12
                    by_cases c13 : (bt a0 x17_2) ≥ 65
                    · rw [if_pos c13] at H
                      have c13b0 : decide (65 ≤ (bt a0 x17_2)) = true := decide_eq_true c13
                      clear c13
                      (first | rw [c13b0] | (simp only [i64_w, i32_w]; rw [c13b0]) | skip)
                      have H' := Aside0.mk H
                      clear H
                      go_wp2
                      go_meet
                      case rel => exact ⟨_, (decide ((bt a0 x17_2) ≤ 90)), (by first | rfl | (simp; done) | (simp [*]; done)), H', ⟨by have := HJ1.out; have := HK2.out; first | omega | exact Nat.le_refl _⟩, ⟨by (with_reducible repeat (first | apply Kd.R_alloc | apply Kd.R_drewN | apply Kd.R_drew)); exact HO_3.out⟩, ⟨By⟩⟩
                    · rw [if_neg c13] at H
                      have c13b0 : decide (65 ≤ (bt a0 x17_2)) = false := decide_eq_false c13
                      clear c13
                      (first | rw [c13b0] | (simp only [i64_w, i32_w]; rw [c13b0]) | skip)
                      have H' := Aside0.mk H
                      clear H
                      go_wp2
                      go_meet
                      case rel => exact ⟨_, (false), (by first | rfl | (simp; done) | (simp [*]; done)), H', ⟨by have := HJ1.out; have := HK2.out; first | omega | exact Nat.le_refl _⟩, ⟨by (with_reducible repeat (first | apply Kd.R_alloc | apply Kd.R_drewN | apply Kd.R_drew)); exact HO_3.out⟩, ⟨By⟩⟩
                  case rest =>
                    clear HC12
                    try clear c1
                    try clear p1
                    try clear q1
                    try clear hx1
                    try clear p2
                    try clear c3
                    try clear c3b0
                    try clear c3b1
                    try clear c5
                    try clear c8
                    try clear c8b0
                    try clear c9
                    try clear c9b0
                    try clear c10
                    try clear c10b0
                    try clear p11
                    try clear q11
                    try clear hx11
                    try clear c13
                    try clear c13b0
                    try clear p11
                    try clear p2
                    try clear q11
                    obtain ⟨kq, x28_11, rfl, HA, HJ11, HO_3, HB⟩ := hcut
                    cases kq with
                    | zero => exact absurd HA.out (by simp [impl_Norm.j2])
                    | succ kj11 =>
                      have H := HA.out
                      clear HA
                      simp only [impl_Norm.j2] at H
                      by_cases c14 : x28_11 = true
                      · subst c14
                        have H1 : (if (((bt a0 x17_2) + 32) % 256) = 32 then (if (x3_2.length : Int) > 0 then (if 0 ≤ (wrap64 ((x3_2.length : Int) - 1)) then (if (wrap64 ((x3_2.length : Int) - 1)) < (x3_2.length : Int) then (if (rd x3_2 (wrap64 ((x3_2.length : Int) - 1))) = 32 then (impl_Norm.l0 kj11 a0 x3_2 (a0.size : Int) (wrap64 (x17_2 + 1))) else (if x3_2.length < 140737488355328 then (impl_Norm.l0 kj11 a0 (x3_2 ++ [((bt a0 x17_2) + 32) % 256]) (a0.size : Int) (wrap64 (x17_2 + 1))) else (none))) else (none)) else (none)) else (impl_Norm.l0 kj11 a0 x3_2 (a0.size : Int) (wrap64 (x17_2 + 1)))) else (if x3_2.length < 140737488355328 then (impl_Norm.l0 kj11 a0 (x3_2 ++ [((bt a0 x17_2) + 32) % 256]) (a0.size : Int) (wrap64 (x17_2 + 1))) else (none))) = some r := by rw [if_pos rfl] at H; exact H
                        clear H
                        have H := H1
                        clear H1
                        by_cases c15 : (((bt a0 x17_2) + 32) % 256) = 32
                        · rw [if_pos c15] at H
                          have c15b0 : ((((bt a0 x17_2) + 32) % 256) == 32) = true := beq_iff_eq.mpr c15
                          have c15b1 : ((((bt a0 x17_2) + 32) % 256) != 32) = false := bne_eq_false_iff_eq.mpr c15
                          clear c15
                          by_cases c16 : (x3_2.length : Int) > 0
                          · rw [if_pos c16] at H
                            have c16b0 : decide (0 < (x3_2.length : Int)) = true := decide_eq_true c16
                            have c16b1 : decide (0 < x3_2.length) = true := decide_eq_true (by omega)
                            clear c16
                            obtain ⟨ji17, hji17⟩ : ∃ j_ : Int, (wrap64 ((x3_2.length : Int) - 1)) = j_ := ⟨_, rfl⟩
                            replace H : (if 0 ≤ (ji17) then (if (ji17) < (x3_2.length : Int) then (if (rd x3_2 (ji17)) = 32 then (impl_Norm.l0 kj11 a0 x3_2 (a0.size : Int) (wrap64 (x17_2 + 1))) else (if x3_2.length < 140737488355328 then (impl_Norm.l0 kj11 a0 (x3_2 ++ [((bt a0 x17_2) + 32) % 256]) (a0.size : Int) (wrap64 (x17_2 + 1))) else (none))) else (none)) else (none)) = some r := by first | (rw [hji17] at H; exact H) | (simp only [hji17] at H ⊢; exact H)
                            have hji17w : (IntKind.i64.wrap ((x3_2.length : Int) - 1)) = ji17 := (i64_w _).trans hji17
                            by_cases c18 : 0 ≤ (ji17)
                            · rw [if_pos c18] at H
                              have c18b0 : decide (0 ≤ (ji17)) = true := decide_eq_true c18
                              clear c18
                              by_cases c19 : (ji17) < (x3_2.length : Int)
                              · rw [if_pos c19] at H
                                have c19b0 : decide ((ji17) < (x3_2.length : Int)) = true := decide_eq_true c19
                                clear c19
                                by_cases c20 : (rd x3_2 (ji17)) = 32
                                · rw [if_pos c20] at H
                                  have c20b0 : ((rd x3_2 (ji17)) == 32) = true := beq_iff_eq.mpr c20
                                  have c20b1 : ((rd x3_2 (ji17)) != 32) = false := bne_eq_false_iff_eq.mpr c20
                                  clear c20
                                  have H' := Aside0.mk H
                                  clear H
                                  obtain ⟨Ao21, co21, eo21⟩ := Kd.R_slice HO_3.out
                                  subst eo21
                                  have p358 : 0 ≤ ((ji17) : Int) := of_decide_eq_true Da
                                  have q358 : (ji17) < (x3_2.length : Int) := of_decide_eq_true Da
                                  obtain ⟨ad358, e358, hx358_0⟩ := Kd.at_int (Kd.R_reads' HO_3.out).2.2 (ji17) p358 q358
                                  cases e358
                                  replace p358 := eq_true p358
                                  replace q358 := eq_true q358
                                  go_wp2
                                  go_roundg kj11
                                  case measure => have := HJ1.out; have := HK2.out; have := HJ11.out; omega
                                  case rel => exact ⟨(x3_2), (wrap64 (x17_2 + 1)), (by first | rfl | (simp; done) | (simp [*]; done)), H', ⟨by have := HJ1.out; have := HK2.out; have := HJ11.out; omega⟩, ⟨by (with_reducible repeat (first | apply Kd.R_alloc | apply Kd.R_drewN | apply Kd.R_drew)); exact HO_3.out⟩, ⟨By⟩⟩
                                · rw [if_neg c20] at H
                                  have c20b0 : ((rd x3_2 (ji17)) == 32) = false := beq_eq_false_iff_ne.mpr c20
                                  have c20b1 : ((rd x3_2 (ji17)) != 32) = true := bne_iff_ne.mpr c20
                                  by_cases c22 : x3_2.length < 140737488355328
                                  · rw [if_pos c22] at H
                                    have LMc22 := Aside0.mk c22
                                    clear c22
                                    obtain ⟨y359, hy359⟩ : ∃ y_ : List Int, y_ = (x3_2 ++ [((bt a0 x17_2) + 32) % 256]) := ⟨_, rfl⟩
                                    replace H : (impl_Norm.l0 kj11 a0 y359 (a0.size : Int) (wrap64 (x17_2 + 1))) = some r := by first | (rw [hy359]; with_reducible exact H) | (have H2_ := (Option.bind_some _ _).symm.trans H; rw [hy359]; with_reducible exact H2_) | (have H2_ := (Option.bind_some _ _).symm.trans H; with_reducible exact H2_) | with_reducible exact H | (rw [hy359]; exact H) | exact H
                                    have Ny359 := Aside0.mk hy359
                                    clear hy359
                                    have H' := Aside0.mk H
                                    clear H
                                    obtain ⟨Ao23, co23, eo23⟩ := Kd.R_slice HO_3.out
                                    subst eo23
                                    have p358 : 0 ≤ ((ji17) : Int) := of_decide_eq_true Da
                                    have q358 : (ji17) < (x3_2.length : Int) := of_decide_eq_true Da
                                    obtain ⟨ad358, e358, hx358_0⟩ := Kd.at_int (Kd.R_reads' HO_3.out).2.2 (ji17) p358 q358
                                    cases e358
                                    replace p358 := eq_true p358
                                    replace q358 := eq_true q358
                                    go_wp2_with (first | ((with_reducible refine gate_builtin (b := .append) (xs := #[.tmp 47, .tmp 49]) rfl ?_); (try (refine gate_guard (by rfl) ?_; dsimp only)); at_builtin; refine Kd.R_append (Kd.int .u8) (w0 := w) w.heap.size rfl (.tmp 47) (.tmp 49) 159 5 (.int .u8 0) 1 rfl Tryd.underlying159 info5 rfl (by decide) (by omega) (.slice (some ad358) x3_2.length co23) x3_2 (((bt a0 x17_2) + 32) % 256) [.int .u8 (((bt a0 x17_2) + 32) % 256)] (fun _ => True) (fun _ => False) rfl rfl ?aP (fun _ hk => hk.elim) ?aF ?aO ?aB ?aS ?aL ?_; (case aP => exact rfl); (case aB => exact By); (case aF => exact (fun _ _ => trivial)); (case aO => exact (by (with_reducible repeat (first | apply Kd.R_alloc | apply Kd.R_drewN | apply Kd.R_drew)); exact HO_3.out)); (case aS => exact (below_size By)); (case aL => have := LMc22.out; omega); intro v360 w24 ho hb hg hat; rw [← Ny359.out] at ho; have n0_ := Aside0.mk (hb); have n1_ := Aside0.mk (ho); clear HB; clear HO_3; have HB := n0_; have HO361 := n1_; clear n0_ n1_; clear ho hb hg hat))
                                    go_roundg kj11
                                    case measure => have := HJ1.out; have := HK2.out; have := HJ11.out; omega
                                    case rel => exact ⟨(y359), (wrap64 (x17_2 + 1)), (by first | rfl | (simp; done) | (simp [*]; done)), H', ⟨by have := HJ1.out; have := HK2.out; have := HJ11.out; omega⟩, ⟨by (with_reducible repeat (first | apply Kd.R_alloc | apply Kd.R_drewN | apply Kd.R_drew)); exact HO361.out⟩, ⟨By⟩⟩
                                  · rw [if_neg c22] at H
                                    exact absurd H (by simp)
                              · rw [if_neg c19] at H
                                exact absurd H (by simp)
                            · rw [if_neg c18] at H
                              exact absurd H (by simp)
                          · rw [if_neg c16] at H
                            have c16b0 : decide (0 < (x3_2.length : Int)) = false := decide_eq_false c16
                            have c16b1 : decide (0 < x3_2.length) = false := decide_eq_false (by omega)
                            clear c16
                            have H' := Aside0.mk H
                            clear H
                            obtain ⟨Ao25, co25, eo25⟩ := Kd.R_slice HO_3.out
                            subst eo25
                            go_wp2
                            go_roundg kj11
                            case measure => have := HJ1.out; have := HK2.out; have := HJ11.out; omega
                            case rel => exact ⟨(x3_2), (wrap64 (x17_2 + 1)), (by first | rfl | (simp; done) | (simp [*]; done)), H', ⟨by have := HJ1.out; have := HK2.out; have := HJ11.out; omega⟩, ⟨by (with_reducible repeat (first | apply Kd.R_alloc | apply Kd.R_drewN | apply Kd.R_drew)); exact HO_3.out⟩, ⟨By⟩⟩
                        · rw [if_neg c15] at H
                          have c15b0 : ((((bt a0 x17_2) + 32) % 256) == 32) = false := beq_eq_false_iff_ne.mpr c15
                          have c15b1 : ((((bt a0 x17_2) + 32) % 256) != 32) = true := bne_iff_ne.mpr c15
                          by_cases c26 : x3_2.length < 140737488355328
                          · rw [if_pos c26] at H
                            have LMc26 := Aside0.mk c26
                            clear c26
                            obtain ⟨y362, hy362⟩ : ∃ y_ : List Int, y_ = (x3_2 ++ [((bt a0 x17_2) + 32) % 256]) := ⟨_, rfl⟩
                            replace H : (impl_Norm.l0 kj11 a0 y362 (a0.size : Int) (wrap64 (x17_2 + 1))) = some r := by first | (rw [hy362]; with_reducible exact H) | (have H2_ := (Option.bind_some _ _).symm.trans H; rw [hy362]; with_reducible exact H2_) | (have H2_ := (Option.bind_some _ _).symm.trans H; with_reducible exact H2_) | with_reducible exact H | (rw [hy362]; exact H) | exact H
                            have Ny362 := Aside0.mk hy362
                            clear hy362
                            have H' := Aside0.mk H
                            clear H
                            go_wp2_with (first | ((with_reducible refine gate_builtin (b := .append) (xs := #[.tmp 47, .tmp 49]) rfl ?_); (try (refine gate_guard (by rfl) ?_; dsimp only)); at_builtin; refine Kd.R_append (Kd.int .u8) (w0 := w) w.heap.size rfl (.tmp 47) (.tmp 49) 159 5 (.int .u8 0) 1 rfl Tryd.underlying159 info5 rfl (by decide) (by omega) u3 x3_2 (((bt a0 x17_2) + 32) % 256) [.int .u8 (((bt a0 x17_2) + 32) % 256)] (fun _ => True) (fun _ => False) rfl rfl ?aP (fun _ hk => hk.elim) ?aF ?aO ?aB ?aS ?aL ?_; (case aP => exact rfl); (case aB => exact By); (case aF => exact (fun _ _ => trivial)); (case aO => exact (by (with_reducible repeat (first | apply Kd.R_alloc | apply Kd.R_drewN | apply Kd.R_drew)); exact HO_3.out)); (case aS => exact (below_size By)); (case aL => have := LMc26.out; omega); intro v363 w27 ho hb hg hat; rw [← Ny362.out] at ho; have n0_ := Aside0.mk (hb); have n1_ := Aside0.mk (ho); clear HB; clear HO_3; have HB := n0_; have HO364 := n1_; clear n0_ n1_; clear ho hb hg hat))
                            go_roundg kj11
                            case measure => have := HJ1.out; have := HK2.out; have := HJ11.out; omega
                            case rel => exact ⟨(y362), (wrap64 (x17_2 + 1)), (by first | rfl | (simp; done) | (simp [*]; done)), H', ⟨by have := HJ1.out; have := HK2.out; have := HJ11.out; omega⟩, ⟨by (with_reducible repeat (first | apply Kd.R_alloc | apply Kd.R_drewN | apply Kd.R_drew)); exact HO364.out⟩, ⟨By⟩⟩
                          · rw [if_neg c26] at H
                            exact absurd H (by simp)
                      · replace c14 := Bool.eq_false_iff.mpr c14
                        subst c14
                        have H1 : (if (bt a0 x17_2) = 32 then (if (x3_2.length : Int) > 0 then (if 0 ≤ (wrap64 ((x3_2.length : Int) - 1)) then (if (wrap64 ((x3_2.length : Int) - 1)) < (x3_2.length : Int) then (if (rd x3_2 (wrap64 ((x3_2.length : Int) - 1))) = 32 then (impl_Norm.l0 kj11 a0 x3_2 (a0.size : Int) (wrap64 (x17_2 + 1))) else (if x3_2.length < 140737488355328 then (impl_Norm.l0 kj11 a0 (x3_2 ++ [(bt a0 x17_2)]) (a0.size : Int) (wrap64 (x17_2 + 1))) else (none))) else (none)) else (none)) else (impl_Norm.l0 kj11 a0 x3_2 (a0.size : Int) (wrap64 (x17_2 + 1)))) else (if x3_2.length < 140737488355328 then (impl_Norm.l0 kj11 a0 (x3_2 ++ [(bt a0 x17_2)]) (a0.size : Int) (wrap64 (x17_2 + 1))) else (none))) = some r := by rw [if_neg (show ¬ (false = true) by decide)] at H; exact H
                        clear H
                        have H := H1
                        clear H1
                        by_cases c28 : (bt a0 x17_2) = 32
                        · rw [if_pos c28] at H
                          have c28b0 : ((bt a0 x17_2) == 32) = true := beq_iff_eq.mpr c28
                          have c28b1 : ((bt a0 x17_2) != 32) = false := bne_eq_false_iff_eq.mpr c28
                          clear c28
                          by_cases c29 : (x3_2.length : Int) > 0
                          · rw [if_pos c29] at H
                            have c29b0 : decide (0 < (x3_2.length : Int)) = true := decide_eq_true c29
                            have c29b1 : decide (0 < x3_2.length) = true := decide_eq_true (by omega)
                            clear c29
                            obtain ⟨ji30, hji30⟩ : ∃ j_ : Int, (wrap64 ((x3_2.length : Int) - 1)) = j_ := ⟨_, rfl⟩
                            replace H : (if 0 ≤ (ji30) then (if (ji30) < (x3_2.length : Int) then (if (rd x3_2 (ji30)) = 32 then (impl_Norm.l0 kj11 a0 x3_2 (a0.size : Int) (wrap64 (x17_2 + 1))) else (if x3_2.length < 140737488355328 then (impl_Norm.l0 kj11 a0 (x3_2 ++ [(bt a0 x17_2)]) (a0.size : Int) (wrap64 (x17_2 + 1))) else (none))) else (none)) else (none)) = some r := by first | (rw [hji30] at H; exact H) | (simp only [hji30] at H ⊢; exact H)
                            have hji30w : (IntKind.i64.wrap ((x3_2.length : Int) - 1)) = ji30 := (i64_w _).trans hji30
                            by_cases c31 : 0 ≤ (ji30)
                            · rw [if_pos c31] at H
                              have c31b0 : decide (0 ≤ (ji30)) = true := decide_eq_true c31
                              clear c31
                              by_cases c32 : (ji30) < (x3_2.length : Int)
                              · rw [if_pos c32] at H
                                have c32b0 : decide ((ji30) < (x3_2.length : Int)) = true := decide_eq_true c32
                                clear c32
                                by_cases c33 : (rd x3_2 (ji30)) = 32
                                · rw [if_pos c33] at H
                                  have c33b0 : ((rd x3_2 (ji30)) == 32) = true := beq_iff_eq.mpr c33
                                  have c33b1 : ((rd x3_2 (ji30)) != 32) = false := bne_eq_false_iff_eq.mpr c33
                                  clear c33
                                  have H' := Aside0.mk H
                                  clear H
                                  obtain ⟨Ao34, co34, eo34⟩ := Kd.R_slice HO_3.out
                                  subst eo34
                                  have p365 : 0 ≤ ((ji30) : Int) := of_decide_eq_true Da
                                  have q365 : (ji30) < (x3_2.length : Int) := of_decide_eq_true Da
                                  obtain ⟨ad365, e365, hx365_0⟩ := Kd.at_int (Kd.R_reads' HO_3.out).2.2 (ji30) p365 q365
                                  cases e365
                                  replace p365 := eq_true p365
                                  replace q365 := eq_true q365
                                  go_wp2
                                  go_roundg kj11
                                  case measure => have := HJ1.out; have := HK2.out; have := HJ11.out; omega
                                  case rel => exact ⟨(x3_2), (wrap64 (x17_2 + 1)), (by first | rfl | (simp; done) | (simp [*]; done)), H', ⟨by have := HJ1.out; have := HK2.out; have := HJ11.out; omega⟩, ⟨by (with_reducible repeat (first | apply Kd.R_alloc | apply Kd.R_drewN | apply Kd.R_drew)); exact HO_3.out⟩, ⟨By⟩⟩
                                · rw [if_neg c33] at H
                                  have c33b0 : ((rd x3_2 (ji30)) == 32) = false := beq_eq_false_iff_ne.mpr c33
                                  have c33b1 : ((rd x3_2 (ji30)) != 32) = true := bne_iff_ne.mpr c33
                                  by_cases c35 : x3_2.length < 140737488355328
                                  · rw [if_pos c35] at H
                                    have LMc35 := Aside0.mk c35
                                    clear c35
                                    obtain ⟨y366, hy366⟩ : ∃ y_ : List Int, y_ = (x3_2 ++ [(bt a0 x17_2)]) := ⟨_, rfl⟩
                                    replace H : (impl_Norm.l0 kj11 a0 y366 (a0.size : Int) (wrap64 (x17_2 + 1))) = some r := by first | (rw [hy366]; with_reducible exact H) | (have H2_ := (Option.bind_some _ _).symm.trans H; rw [hy366]; with_reducible exact H2_) | (have H2_ := (Option.bind_some _ _).symm.trans H; with_reducible exact H2_) | with_reducible exact H | (rw [hy366]; exact H) | exact H
                                    have Ny366 := Aside0.mk hy366
                                    clear hy366
                                    have H' := Aside0.mk H
                                    clear H
                                    obtain ⟨Ao36, co36, eo36⟩ := Kd.R_slice HO_3.out
                                    subst eo36
                                    have p365 : 0 ≤ ((ji30) : Int) := of_decide_eq_true Da
                                    have q365 : (ji30) < (x3_2.length : Int) := of_decide_eq_true Da
                                    obtain ⟨ad365, e365, hx365_0⟩ := Kd.at_int (Kd.R_reads' HO_3.out).2.2 (ji30) p365 q365
                                    cases e365
                                    replace p365 := eq_true p365
                                    replace q365 := eq_true q365
                                    go_wp2_with (first | ((with_reducible refine gate_builtin (b := .append) (xs := #[.tmp 47, .tmp 49]) rfl ?_); (try (refine gate_guard (by rfl) ?_; dsimp only)); at_builtin; refine Kd.R_append (Kd.int .u8) (w0 := w) w.heap.size rfl (.tmp 47) (.tmp 49) 159 5 (.int .u8 0) 1 rfl Tryd.underlying159 info5 rfl (by decide) (by omega) (.slice (some ad365) x3_2.length co36) x3_2 (bt a0 x17_2) [.int .u8 (bt a0 x17_2)] (fun _ => True) (fun _ => False) rfl rfl ?aP (fun _ hk => hk.elim) ?aF ?aO ?aB ?aS ?aL ?_; (case aP => exact rfl); (case aB => exact By); (case aF => exact (fun _ _ => trivial)); (case aO => exact (by (with_reducible repeat (first | apply Kd.R_alloc | apply Kd.R_drewN | apply Kd.R_drew)); exact HO_3.out)); (case aS => exact (below_size By)); (case aL => have := LMc35.out; omega); intro v367 w37 ho hb hg hat; rw [← Ny366.out] at ho; have n0_ := Aside0.mk (hb); have n1_ := Aside0.mk (ho); clear HB; clear HO_3; have HB := n0_; have HO368 := n1_; clear n0_ n1_; clear ho hb hg hat))
                                    go_roundg kj11
                                    case measure => have := HJ1.out; have := HK2.out; have := HJ11.out; omega
                                    case rel => exact ⟨(y366), (wrap64 (x17_2 + 1)), (by first | rfl | (simp; done) | (simp [*]; done)), H', ⟨by have := HJ1.out; have := HK2.out; have := HJ11.out; omega⟩, ⟨by (with_reducible repeat (first | apply Kd.R_alloc | apply Kd.R_drewN | apply Kd.R_drew)); exact HO368.out⟩, ⟨By⟩⟩
                                  · rw [if_neg c35] at H
                                    exact absurd H (by simp)
                              · rw [if_neg c32] at H
                                exact absurd H (by simp)
                            · rw [if_neg c31] at H
                              exact absurd H (by simp)
                          · rw [if_neg c29] at H
                            have c29b0 : decide (0 < (x3_2.length : Int)) = false := decide_eq_false c29
                            have c29b1 : decide (0 < x3_2.length) = false := decide_eq_false (by omega)
                            clear c29
                            have H' := Aside0.mk H
                            clear H
                            obtain ⟨Ao38, co38, eo38⟩ := Kd.R_slice HO_3.out
                            subst eo38
                            go_wp2
                            go_roundg kj11
                            case measure => have := HJ1.out; have := HK2.out; have := HJ11.out; omega
                            case rel => exact ⟨(x3_2), (wrap64 (x17_2 + 1)), (by first | rfl | (simp; done) | (simp [*]; done)), H', ⟨by have := HJ1.out; have := HK2.out; have := HJ11.out; omega⟩, ⟨by (with_reducible repeat (first | apply Kd.R_alloc | apply Kd.R_drewN | apply Kd.R_drew)); exact HO_3.out⟩, ⟨By⟩⟩
                        · rw [if_neg c28] at H
                          have c28b0 : ((bt a0 x17_2) == 32) = false := beq_eq_false_iff_ne.mpr c28
                          have c28b1 : ((bt a0 x17_2) != 32) = true := bne_iff_ne.mpr c28
                          by_cases c39 : x3_2.length < 140737488355328
                          · rw [if_pos c39] at H
                            have LMc39 := Aside0.mk c39
                            clear c39
                            obtain ⟨y369, hy369⟩ : ∃ y_ : List Int, y_ = (x3_2 ++ [(bt a0 x17_2)]) := ⟨_, rfl⟩
                            replace H : (impl_Norm.l0 kj11 a0 y369 (a0.size : Int) (wrap64 (x17_2 + 1))) = some r := by first | (rw [hy369]; with_reducible exact H) | (have H2_ := (Option.bind_some _ _).symm.trans H; rw [hy369]; with_reducible exact H2_) | (have H2_ := (Option.bind_some _ _).symm.trans H; with_reducible exact H2_) | with_reducible exact H | (rw [hy369]; exact H) | exact H
                            have Ny369 := Aside0.mk hy369
                            clear hy369
                            have H' := Aside0.mk H
                            clear H
                            go_wp2_with (first | ((with_reducible refine gate_builtin (b := .append) (xs := #[.tmp 47, .tmp 49]) rfl ?_); (try (refine gate_guard (by rfl) ?_; dsimp only)); at_builtin; refine Kd.R_append (Kd.int .u8) (w0 := w) w.heap.size rfl (.tmp 47) (.tmp 49) 159 5 (.int .u8 0) 1 rfl Tryd.underlying159 info5 rfl (by decide) (by omega) u3 x3_2 (bt a0 x17_2) [.int .u8 (bt a0 x17_2)] (fun _ => True) (fun _ => False) rfl rfl ?aP (fun _ hk => hk.elim) ?aF ?aO ?aB ?aS ?aL ?_; (case aP => exact rfl); (case aB => exact By); (case aF => exact (fun _ _ => trivial)); (case aO => exact (by (with_reducible repeat (first | apply Kd.R_alloc | apply Kd.R_drewN | apply Kd.R_drew)); exact HO_3.out)); (case aS => exact (below_size By)); (case aL => have := LMc39.out; omega); intro v370 w40 ho hb hg hat; rw [← Ny369.out] at ho; have n0_ := Aside0.mk (hb); have n1_ := Aside0.mk (ho); clear HB; clear HO_3; have HB := n0_; have HO371 := n1_; clear n0_ n1_; clear ho hb hg hat))
                            go_roundg kj11
                            case measure => have := HJ1.out; have := HK2.out; have := HJ11.out; omega
                            case rel => exact ⟨(y369), (wrap64 (x17_2 + 1)), (by first | rfl | (simp; done) | (simp [*]; done)), H', ⟨by have := HJ1.out; have := HK2.out; have := HJ11.out; omega⟩, ⟨by (with_reducible repeat (first | apply Kd.R_alloc | apply Kd.R_drewN | apply Kd.R_drew)); exact HO371.out⟩, ⟨By⟩⟩
                          · rw [if_neg c39] at H
                            exact absurd H (by simp)
                · rw [if_neg c10] at H
                  exact absurd H (by simp)
              · rw [if_neg c9] at H
                exact absurd H (by simp)
            · rw [if_neg c8] at H
              have c8b0 : decide (x17_2 < (a0.size : Int)) = false := decide_eq_false c8
              clear c8
              replace H := Option.bind_eq_some_iff.mp H
              obtain ⟨t357, A410, H⟩ := H
              replace H : (some t357) = some r := H
              have A41 := Aside0.mk A410
              clear A410
              obtain rfl := Option.some.inj H
              have hcv42 := own_string (P := Tryd.prog) Tryd.underlying159 Tryd.underlying5 Tryd.underlying9 (Kd.own_of_R HO_3.out)
              go_wp2_with (first | ((with_reducible refine gate_callee (f := 131) rfl ?_); refine goesL_ (some 54) rfl rfl Tryd.func131 (by kernel_rfl) rfl #[.string (strOfNums x3_2), .string (⟨#[32]⟩ : ByteArray)] rfl Ag ?_; (with_reducible refine (strings_TrimSuffix.calls (strOfNums x3_2) (⟨#[32]⟩ : ByteArray) t357 _ A41.out).mono ?_); rintro e w' ⟨rfl, ⟨nd, rfl⟩⟩; refine ⟨_, rfl, ?_⟩))
              go_ret
              exact ⟨Rf, By⟩

end Go.Proofs.YtpocoeghobdfiaaDoor.PG

-- WRITTEN BY A PROGRAM OF THIS SESSION (wip/gen/gen.py), by way of the kit's print program. Lean checks it.
namespace Go.Proofs.YtpocoeghobdfiaaDoor.PG
open Go.Proofs.YtpocoeghobdfiaaDoor.Sq Go.RowKit Go.Proofs.YtpocoeghobdfiaaDoorW.PrintWords Go.Proofs.YtpocoeghobdfiaaDoorW.PrintLast Go.Proofs.YtpocoeghobdfiaaDoorW.PrintMore
attribute [local go_sem] max2_int min2_int max_two min_two max_three min_three max_four min_four   -- for this text's walks alone
set_option linter.unusedVariables false
set_option linter.unusedSimpArgs false

/-! ### impl_isProper: function 151 -/
def impl_isProper.f (k : Nat) (a0 : ByteArray) : Option (Bool) := if (a0.size : Int) ≥ 1 then (if (a0.size : Int) ≤ 40 then ((impl_Norm.f k a0).bind fun t372 => (some (t372.toList != ([] : List UInt8)))) else (some false)) else (some false)
theorem impl_isProper.mono : ∀ a0 k, LeO (impl_isProper.f k a0) (impl_isProper.f (k + 1) a0) := by
  intro a0 k
  unfold impl_isProper.f
  repeat' first
      | (with_reducible exact impl_Norm.mono _ _)
      | (with_reducible exact LeO.refl _)
      | (with_reducible exact LeO.none _)
      | (with_reducible refine LeO.ite ?_ ?_)
      | (with_reducible refine LeO.bind ?_ (fun _ => ?_))
      | exact impl_Norm.mono _ _
      | exact LeO.none _
      | refine LeO.ite ?_ ?_
      | refine LeO.bind ?_ (fun _ => ?_)
set_option maxHeartbeats 8000000 in
set_option maxRecDepth 100000 in
theorem impl_isProper.calls (k : Nat) (a0 : ByteArray) (r : Bool) (w : World) (h : impl_isProper.f k a0 = some r) :
    Calls Tryd.prog 151 #[.string a0] w fun e w' => e = .returned (.bool r) ∧ Below w.heap.size w w' := by
  have HB := Aside0.mk (Below.refl w.heap.size w)
  have H : (if (a0.size : Int) ≥ 1 then (if (a0.size : Int) ≤ 40 then ((impl_Norm.f k a0).bind fun t372 => (some (t372.toList != ([] : List UInt8)))) else (some false)) else (some false)) = some r := h
  clear h
  by_cases c2 : (a0.size : Int) ≥ 1
  · rw [if_pos c2] at H
    have c2b0 : decide (1 ≤ (a0.size : Int)) = true := decide_eq_true c2
    have c2b1 : decide (1 ≤ a0.size) = true := decide_eq_true (by omega)
    clear c2
    by_cases c3 : (a0.size : Int) ≤ 40
    · rw [if_pos c3] at H
      have c3b0 : decide ((a0.size : Int) ≤ 40) = true := decide_eq_true c3
      have c3b1 : decide (a0.size ≤ 40) = true := decide_eq_true (by omega)
      clear c3
      replace H := Option.bind_eq_some_iff.mp H
      obtain ⟨t372, A40, H⟩ := H
      replace H : (some (t372.toList != ([] : List UInt8))) = some r := H
      have A4 := Aside0.mk A40
      clear A40
      obtain rfl := Option.some.inj H
      go_enter Tryd.func151, Tryd.ntmps151
      go_wp2_with (first | (go_at_call 89; (with_reducible refine (impl_Norm.calls k a0 t372 _ A4.out).mono ?_); rintro e w5 ⟨rfl, hb⟩; have n0_ := Aside0.mk (below_step By hb); clear HB; have HB := n0_; clear n0_; (try clear hb); (try clear hb2); (try clear hk); (try clear hi)))
      go_ret
      exact ⟨Rf, By⟩
    · rw [if_neg c3] at H
      have c3b0 : decide ((a0.size : Int) ≤ 40) = false := decide_eq_false c3
      have c3b1 : decide (a0.size ≤ 40) = false := decide_eq_false (by omega)
      clear c3
      obtain rfl := Option.some.inj H
      go_enter Tryd.func151, Tryd.ntmps151
      go_wp2
      go_ret
      exact ⟨Rf, By⟩
  · rw [if_neg c2] at H
    have c2b0 : decide (1 ≤ (a0.size : Int)) = false := decide_eq_false c2
    have c2b1 : decide (1 ≤ a0.size) = false := decide_eq_false (by omega)
    clear c2
    obtain rfl := Option.some.inj H
    go_enter Tryd.func151, Tryd.ntmps151
    go_wp2
    go_ret
    exact ⟨Rf, By⟩

end Go.Proofs.YtpocoeghobdfiaaDoor.PG

-- WRITTEN BY A PROGRAM OF THIS SESSION (wip/gen/gen.py), by way of the kit's print program. Lean checks it.
namespace Go.Proofs.YtpocoeghobdfiaaDoor.PG
open Go.Proofs.YtpocoeghobdfiaaDoor.Sq Go.RowKit Go.Proofs.YtpocoeghobdfiaaDoorW.PrintWords Go.Proofs.YtpocoeghobdfiaaDoorW.PrintLast Go.Proofs.YtpocoeghobdfiaaDoorW.PrintMore
attribute [local go_sem] max2_int min2_int max_two min_two max_three min_three max_four min_four   -- for this text's walks alone
set_option linter.unusedVariables false
set_option linter.unusedSimpArgs false

/-! ### impl_isOptional: function 146 -/
def impl_isOptional.f (k : Nat) (a0 : ByteArray) : Option (Bool) := if a0.toList = ([] : List UInt8) then (some true) else ((impl_isProper.f k a0).bind fun t373 => (some t373))
theorem impl_isOptional.mono : ∀ a0 k, LeO (impl_isOptional.f k a0) (impl_isOptional.f (k + 1) a0) := by
  intro a0 k
  unfold impl_isOptional.f
  repeat' first
      | (with_reducible exact impl_isProper.mono _ _)
      | (with_reducible exact LeO.refl _)
      | (with_reducible exact LeO.none _)
      | (with_reducible refine LeO.ite ?_ ?_)
      | (with_reducible refine LeO.bind ?_ (fun _ => ?_))
      | exact impl_isProper.mono _ _
      | exact LeO.none _
      | refine LeO.ite ?_ ?_
      | refine LeO.bind ?_ (fun _ => ?_)
set_option maxHeartbeats 8000000 in
set_option maxRecDepth 100000 in
theorem impl_isOptional.calls (k : Nat) (a0 : ByteArray) (r : Bool) (w : World) (h : impl_isOptional.f k a0 = some r) :
    Calls Tryd.prog 146 #[.string a0] w fun e w' => e = .returned (.bool r) ∧ Below w.heap.size w w' := by
  have HB := Aside0.mk (Below.refl w.heap.size w)
  have H : (if a0.toList = ([] : List UInt8) then (some true) else ((impl_isProper.f k a0).bind fun t373 => (some t373))) = some r := h
  clear h
  by_cases c2 : a0.toList = ([] : List UInt8)
  · rw [if_pos c2] at H
    have c2b0 : (a0.toList == ([] : List UInt8)) = true := beq_iff_eq.mpr c2
    have c2b1 : (a0.toList != ([] : List UInt8)) = false := bne_eq_false_iff_eq.mpr c2
    clear c2
    obtain rfl := Option.some.inj H
    go_enter Tryd.func146, Tryd.ntmps146
    go_wp2
    go_ret
    exact ⟨Rf, By⟩
  · rw [if_neg c2] at H
    have c2b0 : (a0.toList == ([] : List UInt8)) = false := beq_eq_false_iff_ne.mpr c2
    have c2b1 : (a0.toList != ([] : List UInt8)) = true := bne_iff_ne.mpr c2
    replace H := Option.bind_eq_some_iff.mp H
    obtain ⟨t373, A30, H⟩ := H
    replace H : (some t373) = some r := H
    have A3 := Aside0.mk A30
    clear A30
    obtain rfl := Option.some.inj H
    go_enter Tryd.func146, Tryd.ntmps146
    go_wp2_with (first | (go_at_call 151; (with_reducible refine (impl_isProper.calls k a0 t373 _ A3.out).mono ?_); rintro e w4 ⟨rfl, hb⟩; have n0_ := Aside0.mk (below_step By hb); clear HB; have HB := n0_; clear n0_; (try clear hb); (try clear hb2); (try clear hk); (try clear hi)))
    go_ret
    exact ⟨Rf, By⟩

end Go.Proofs.YtpocoeghobdfiaaDoor.PG

-- WRITTEN BY A PROGRAM OF THIS SESSION (wip/gen/gen.py), by way of the kit's print program. Lean checks it.
namespace Go.Proofs.YtpocoeghobdfiaaDoor.PG
open Go.Proofs.YtpocoeghobdfiaaDoor.Sq Go.RowKit Go.Proofs.YtpocoeghobdfiaaDoorW.PrintWords Go.Proofs.YtpocoeghobdfiaaDoorW.PrintLast Go.Proofs.YtpocoeghobdfiaaDoorW.PrintMore
attribute [local go_sem] max2_int min2_int max_two min_two max_three min_three max_four min_four   -- for this text's walks alone
set_option linter.unusedVariables false
set_option linter.unusedSimpArgs false

/-- A state of type 38 at block g of W; what its slices lead to came in by w0. -/
def IsS38 (w0 W : World) (g : Nat) (f0 : Int) (f1 : Int) (f2 : List (S34)) : Prop := ∃ A2 c2, W.heap[g]? = some (.cells #[.int .i64 f0, .int .i64 f1, .slice A2 f2.length c2] 38 (0, 0)) ∧ w0.heap.size ≤ g ∧ Kd.C k34 w0 A2 f2.length f2
theorem IsS38.grown {w0 W : World} {g : Nat} {f0 : Int} {f1 : Int} {f2 : List (S34)} {W1 : World} {row : Option Nat} (h : IsS38 w0 W g f0 f1 f2) (hw : W.grownBy W1 row) (hne : some g ≠ row) : IsS38 w0 W1 g f0 f1 f2 := by
  obtain ⟨A2, c2, hb, hg, hr2⟩ := h
  exact ⟨A2, c2, blk_grown hb hw hne, hg, hr2⟩
theorem IsS38.own_neN {w0 W : World} {g : Nat} {f0 : Int} {f1 : Int} {f2 : List (S34)} {α : Type} {d : Kd α} {e : Nat} {base : Nat} {ok : Nat → Prop} {v : Value} {xs : List α} (h : IsS38 w0 W g f0 f1 f2) (ho : Kd.N d e W base ok v xs) (ht : e ≠ 38) : some g ≠ v.ownBlock := by
  obtain ⟨A2, c2, hb, hg, hr2⟩ := h
  exact Kd.N_ne ho hb ht
theorem IsS38.fresh {w0 W : World} {g : Nat} {f0 : Int} {f1 : Int} {f2 : List (S34)} (h : IsS38 w0 W g f0 f1 f2) : ∀ k, W.heap.size ≤ k → k ≠ g := by
  obtain ⟨A2, c2, hb, hg, hr2⟩ := h
  exact Kd.freshB hb
theorem IsS38.kept {w0 W : World} {g : Nat} {f0 : Int} {f1 : Int} {f2 : List (S34)} {W1 : World} {S : Nat → Prop} (h : IsS38 w0 W g f0 f1 f2) (hk : Kept W W1 S) (hne : ¬ S g) : IsS38 w0 W1 g f0 f1 f2 := by
  obtain ⟨A2, c2, hb, hg, hr2⟩ := h
  exact ⟨A2, c2, blk_kept hb hk hne, hg, hr2⟩
theorem IsS38.below {w0 W : World} {g : Nat} {f0 : Int} {f1 : Int} {f2 : List (S34)} {W1 : World} (h : IsS38 w0 W g f0 f1 f2) (hw : Below W.heap.size W W1) : IsS38 w0 W1 g f0 f1 f2 := h.grown (grown_of_below hw none) (by simp)
theorem IsS38.alloc {w0 W : World} {g : Nat} {f0 : Int} {f1 : Int} {f2 : List (S34)} (h : IsS38 w0 W g f0 f1 f2) (o : Obj) : IsS38 w0 (W.alloc o) g f0 f1 f2 := h.below (below_alloc (Below.refl _ _) o)
theorem IsS38.drewN {w0 W : World} {g : Nat} {f0 : Int} {f1 : Int} {f2 : List (S34)} (h : IsS38 w0 W g f0 f1 f2) (m : Nat) : IsS38 w0 (W.drewN m) g f0 f1 f2 := h
theorem IsS38.drew {w0 W : World} {g : Nat} {f0 : Int} {f1 : Int} {f2 : List (S34)} (h : IsS38 w0 W g f0 f1 f2) : IsS38 w0 W.drew g f0 f1 f2 := h
theorem IsS38.at_ {w0 W : World} {g : Nat} {f0 : Int} {f1 : Int} {f2 : List (S34)} {w' : World} {m : Nat} (hq : W.drewN m = w') (h : IsS38 w0 W g f0 f1 f2) : IsS38 w0 w' g f0 f1 f2 := by subst hq; exact IsS38.drewN h m
theorem IsS38.apart {w0 W : World} {g : Nat} {f0 : Int} {f1 : Int} {f2 : List (S34)} {α : Type} {d : Kd α} {e : Nat} {base : Nat} {ok : Nat → Prop} {v : Value} {xs : List α} (h : IsS38 w0 W g f0 f1 f2) (ho : d.R e W base ok v xs) (ht : ∀ q, q ∈ e :: d.E → q ≠ 38) : d.R e W base (fun k => ok k ∧ k ≠ g) v xs := by
  obtain ⟨A2, c2, hb, hg, hr2⟩ := h
  exact Kd.R_types ho hb ht
theorem IsS38.own_ne {w0 W : World} {g : Nat} {f0 : Int} {f1 : Int} {f2 : List (S34)} {α : Type} {d : Kd α} {e : Nat} {base : Nat} {ok : Nat → Prop} {v : Value} {xs : List α} (h : IsS38 w0 W g f0 f1 f2) (ho : d.R e W base ok v xs) (ht : e ≠ 38) : some g ≠ v.ownBlock := by
  obtain ⟨A2, c2, hb, hg, hr2⟩ := h
  exact Kd.R_ne ho hb ht
theorem IsS38.apartQ {w0 W : World} {g : Nat} {f0 : Int} {f1 : Int} {f2 : List (S34)} {α : Type} {d : Kd α} {e : Nat} {base : Nat} {ok : Nat → Prop} {v : Value} {xs : List α} (h : IsS38 w0 W g f0 f1 f2) (ho : d.Q e W base ok v xs) (ht : ∀ q, q ∈ e :: d.E → q ≠ 38) : d.Q e W base (fun k => ok k ∧ k ≠ g) v xs := by
  obtain ⟨A2, c2, hb, hg, hr2⟩ := h
  exact Kd.Q_types ho hb ht
theorem IsS38.own_neQ {w0 W : World} {g : Nat} {f0 : Int} {f1 : Int} {f2 : List (S34)} {α : Type} {d : Kd α} {e : Nat} {base : Nat} {ok : Nat → Prop} {v : Value} {xs : List α} (h : IsS38 w0 W g f0 f1 f2) (ho : d.Q e W base ok v xs) (ht : e ≠ 38) : some g ≠ v.ownBlock := by
  obtain ⟨A2, c2, hb, hg, hr2⟩ := h
  exact Kd.Q_ne ho hb ht
theorem IsS38.apartS {w0 W : World} {g : Nat} {f0 : Int} {f1 : Int} {f2 : List (S34)} {α : Type} {d : Kd α} {e : Nat} {base : Nat} {ok : Nat → Prop} {v : Value} {xs : List α} (h : IsS38 w0 W g f0 f1 f2) (ho : d.S e W base ok v xs) (ht : ∀ q, q ∈ e :: d.E → q ≠ 38) : d.S e W base (fun k => ok k ∧ k ≠ g) v xs := by
  obtain ⟨A2, c2, hb, hg, hr2⟩ := h
  exact Kd.S_types ho hb ht
theorem IsS38.own_neS {w0 W : World} {g : Nat} {f0 : Int} {f1 : Int} {f2 : List (S34)} {α : Type} {d : Kd α} {e : Nat} {base : Nat} {ok : Nat → Prop} {v : Value} {xs : List α} (h : IsS38 w0 W g f0 f1 f2) (ho : d.S e W base ok v xs) (ht : e ≠ 38) : some g ≠ v.ownBlock := by
  obtain ⟨A2, c2, hb, hg, hr2⟩ := h
  exact Kd.S_ne ho hb ht
theorem IsS38.lt {w0 W : World} {g : Nat} {f0 : Int} {f1 : Int} {f2 : List (S34)} (h : IsS38 w0 W g f0 f1 f2) : g < W.heap.size := by
  obtain ⟨A2, c2, hb, hg, hr2⟩ := h
  exact blk_lt hb
theorem IsS38.ge {w0 W : World} {g : Nat} {f0 : Int} {f1 : Int} {f2 : List (S34)} (h : IsS38 w0 W g f0 f1 f2) : w0.heap.size ≤ g := by
  obtain ⟨A2, c2, hb, hg, hr2⟩ := h
  exact hg
theorem IsS38.ne_blk {w0 W : World} {g : Nat} {f0 : Int} {f1 : Int} {f2 : List (S34)} {a : Nat} {cs : Array Value} {t : TypeId} {fr : Nat × Nat} (h : IsS38 w0 W g f0 f1 f2) (hb2 : W.heap[a]? = some (.cells cs t fr)) (ht : t ≠ 38) : g ≠ a := by
  obtain ⟨A2, c2, hb, hg, hr2⟩ := h
  rintro rfl
  rw [hb] at hb2
  injection hb2 with hb2
  injection hb2 with _ ht2
  exact ht ht2.symm
theorem IsS38.far {w0 W : World} {g : Nat} {f0 : Int} {f1 : Int} {f2 : List (S34)} {p : Addr} (h : IsS38 w0 W g f0 f1 f2) (hne : g ≠ p.block) (u : Value) : IsS38 w0 (W.setCell p u) g f0 f1 f2 := by
  obtain ⟨A2, c2, hb, hg, hr2⟩ := h
  exact ⟨A2, c2, blk_far hb hne u, hg, hr2⟩
theorem cellS38_0 {W : World} {g : Nat} {A2 : Option Addr} {c2 : Nat} {f0 : Int} {f1 : Int} {f2 : List (S34)} (h : W.heap[g]? = some (.cells #[.int .i64 f0, .int .i64 f1, .slice A2 f2.length c2] 38 (0, 0))) : W.cell? ⟨g, 0, none⟩ = some (.int .i64 f0) := (blk_cell h 0).trans rfl
theorem IsS38.set_0 {w0 W : World} {g : Nat} {f0 : Int} {f1 : Int} {f2 : List (S34)} (h : IsS38 w0 W g f0 f1 f2) (x : Int) : IsS38 w0 (W.setCell ⟨g, 0, none⟩ (.int .i64 x)) g x f1 f2 := by
  obtain ⟨A2, c2, hb, hg, hr2⟩ := h
  exact ⟨A2, c2, by simpa using blk_set hb 0 (.int .i64 x), hg, hr2⟩
theorem cellS38_1 {W : World} {g : Nat} {A2 : Option Addr} {c2 : Nat} {f0 : Int} {f1 : Int} {f2 : List (S34)} (h : W.heap[g]? = some (.cells #[.int .i64 f0, .int .i64 f1, .slice A2 f2.length c2] 38 (0, 0))) : W.cell? ⟨g, 1, none⟩ = some (.int .i64 f1) := (blk_cell h 1).trans rfl
theorem IsS38.set_1 {w0 W : World} {g : Nat} {f0 : Int} {f1 : Int} {f2 : List (S34)} (h : IsS38 w0 W g f0 f1 f2) (x : Int) : IsS38 w0 (W.setCell ⟨g, 1, none⟩ (.int .i64 x)) g f0 x f2 := by
  obtain ⟨A2, c2, hb, hg, hr2⟩ := h
  exact ⟨A2, c2, by simpa using blk_set hb 1 (.int .i64 x), hg, hr2⟩
theorem cellS38_2 {W : World} {g : Nat} {A2 : Option Addr} {c2 : Nat} {f0 : Int} {f1 : Int} {f2 : List (S34)} (h : W.heap[g]? = some (.cells #[.int .i64 f0, .int .i64 f1, .slice A2 f2.length c2] 38 (0, 0))) : W.cell? ⟨g, 2, none⟩ = some (.slice A2 f2.length c2) := (blk_cell h 2).trans rfl
theorem IsS38.new (w0 W : World) (A2 : Option Addr) (c2 : Nat) (f0 : Int) (f1 : Int) (f2 : List (S34)) (hB : Below w0.heap.size w0 W) (hr2 : Kd.C k34 w0 A2 f2.length f2) : IsS38 w0 (W.alloc (.cells #[.int .i64 f0, .int .i64 f1, .slice A2 f2.length c2] 38)) W.heap.size f0 f1 f2 := ⟨A2, c2, by simpa using heap_alloc_new W _, hB.size, hr2⟩

/-! ### impl_Table_at: function 61 -/
def impl_Table_at.f (s0_0 : Int) (s0_1 : Int) (s0_2 : List (S34)) (a1 : Int) : Option (Int × ByteArray × ByteArray × ByteArray × Bool × Int × Bool × Int × Int) := if a1 < 0 then (some (0, (⟨#[]⟩ : ByteArray), (⟨#[]⟩ : ByteArray), (⟨#[]⟩ : ByteArray), false, 0, false, s0_0, s0_1)) else (if 0 ≤ a1 then (if a1 < (s0_2.length : Int) then (some ((rd_T34 s0_2 a1).f0, (rd_T34 s0_2 a1).f1, (rd_T34 s0_2 a1).f2, (rd_T34 s0_2 a1).f3, (rd_T34 s0_2 a1).f4, (rd_T34 s0_2 a1).f5, (rd_T34 s0_2 a1).f6, s0_0, s0_1)) else (none)) else (none))
set_option maxHeartbeats 8000000 in
set_option maxRecDepth 100000 in
theorem impl_Table_at.calls (g : Nat) (s0_0 : Int) (s0_1 : Int) (s0_2 : List (S34)) (a1 : Int) (r1 : Int) (r2 : ByteArray) (r3 : ByteArray) (r4 : ByteArray) (r5 : Bool) (r6 : Int) (r7 : Bool) (r8 : Int) (r9 : Int) (w0 w : World) (hI : IsS38 w0 w g s0_0 s0_1 s0_2) (hB : Below w0.heap.size w0 w) (h : impl_Table_at.f s0_0 s0_1 s0_2 a1 = some (r1, r2, r3, r4, r5, r6, r7, r8, r9)) :
    Calls Tryd.prog 61 #[.pointer (some ⟨g, 0, none⟩), .int .i64 a1] w fun e w' => e = .returned (.agg #[.int .i64 r1, .string r2, .string r3, .string r4, .bool r5, .int .i64 r6, .bool r7]) ∧ IsS38 w0 w' g r8 r9 s0_2 ∧ Below w0.heap.size w0 w' ∧ KeepBut w w' g none := by
  have hu34 := Tryd.underlying34
  have HI0 := Aside0.mk hI
  have HK := Aside0.mk (KeepBut.refl w g none)
  have HL := Aside0.mk hB.size
  clear hI
  have HW0 := Aside0.mk hB.size
  have HB := Aside0.mk hB
  clear hB
  have H : (if a1 < 0 then (some (0, (⟨#[]⟩ : ByteArray), (⟨#[]⟩ : ByteArray), (⟨#[]⟩ : ByteArray), false, 0, false, s0_0, s0_1)) else (if 0 ≤ a1 then (if a1 < (s0_2.length : Int) then (some ((rd_T34 s0_2 a1).f0, (rd_T34 s0_2 a1).f1, (rd_T34 s0_2 a1).f2, (rd_T34 s0_2 a1).f3, (rd_T34 s0_2 a1).f4, (rd_T34 s0_2 a1).f5, (rd_T34 s0_2 a1).f6, s0_0, s0_1)) else (none)) else (none))) = some (r1, r2, r3, r4, r5, r6, r7, r8, r9) := h
  clear h
  by_cases c3 : a1 < 0
  · rw [if_pos c3] at H
    have c3b0 : decide (a1 < 0) = true := decide_eq_true c3
    clear c3
    simp only [Option.some.injEq, Prod.mk.injEq] at H
    obtain ⟨rfl, rfl, rfl, rfl, rfl, rfl, rfl, rfl, rfl⟩ := H
    go_enter Tryd.func61, Tryd.ntmps61
    go_wp2_with (first | ((with_reducible refine gate_dst (N := 4) rfl ?_); refine box_event ?hg (N := 4) ?hd (cs := #[.int .i64 0, .string (⟨#[]⟩ : ByteArray), .string (⟨#[]⟩ : ByteArray), .string (⟨#[]⟩ : ByteArray), .bool false, .int .i64 0, .bool false]) (t := 34) ?hr ?_; (case hd => rfl); (case hg => rfl); (case hr => first | (go_simp; done) | (go_simp; rfl)); intro gb872 hg w4 hbox hb; have n0_ := Aside0.mk (IsS38.below (by repeat (first | (with_reducible first | exact HI0.out | apply IsS38.alloc | apply IsS38.drewN | apply IsS38.drew | apply IsS38.set_0 | apply IsS38.set_1) | exact HI0.out)) hb); have n1_ := Aside0.mk (KeepBut.trans (by repeat (first | (with_reducible first | exact HK.out | apply KeepBut.set_ | apply keep_drewN | apply keep_drew | apply keep_alloc) | exact HK.out)) (KeepBut.of_below hb g none) (.inl rfl)); have n2_ := Aside0.mk (below_step (by repeat (first | (with_reducible first | exact HB.out | apply below_alloc | apply pw_below_drewN | apply below_drew1 | refine below_set ?_ (IsS38.ge HI0.out)) | exact HB.out)) hb); have n3_ := Aside0.mk (hbox); have n4_ := Aside0.mk ((by rw [hg]; exact (keep_size (w := w) (g := g) (row := none) (by repeat (first | (with_reducible first | exact HK.out | apply KeepBut.set_ | apply keep_drewN | apply keep_drew | apply keep_alloc) | exact HK.out))) : w.heap.size ≤ gb872)); have n5_ := Aside0.mk ((Nat.le_trans HW0.out (by rw [hg]; exact (keep_size (w := w) (g := g) (row := none) (by repeat (first | (with_reducible first | exact HK.out | apply KeepBut.set_ | apply keep_drewN | apply keep_drew | apply keep_alloc) | exact HK.out))) : w.heap.size ≤ gb872) : w0.heap.size ≤ gb872)); have n6_ := Aside0.mk ((by rw [hg]; exact Nat.ne_of_lt (IsS38.lt (show IsS38 w0 _ g s0_0 s0_1 s0_2 from by repeat (first | (with_reducible first | exact HI0.out | apply IsS38.alloc | apply IsS38.drewN | apply IsS38.drew | apply IsS38.set_0 | apply IsS38.set_1) | exact HI0.out))) : g ≠ gb872)); have n7_ := Aside0.mk ((by rw [hg]; exact Nat.ne_of_gt (IsS38.lt (show IsS38 w0 _ g s0_0 s0_1 s0_2 from by repeat (first | (with_reducible first | exact HI0.out | apply IsS38.alloc | apply IsS38.drewN | apply IsS38.drew | apply IsS38.set_0 | apply IsS38.set_1) | exact HI0.out))) : gb872 ≠ g)); clear HI0; clear HK; clear HB; have HI0 := n0_; have HK := n1_; have HB := n2_; have BK872 := n3_; have GW872 := n4_; have GE872 := n5_; have NB0_872 := n6_; have NB872_0 := n7_; clear n0_ n1_ n2_ n3_ n4_ n5_ n6_ n7_; clear hb hbox hg; have hnb5 := NB872_0.out; have hnc5 := NB0_872.out; have ⟨hcz6_0, hcz6_1, hcz6_2, hcz6_3, hcz6_4, hcz6_5, hcz6_6⟩ := cq7 BK872.out; have ⟨hfz6_0, hfz6_1, hfz6_2, hfz6_3, hfz6_4, hfz6_5, hfz6_6⟩ := fq7 BK872.out))
    refine bodyPost_ret (results_cell_row rfl _ _ gb872 34 #[.int .i64 0, .string (⟨#[]⟩ : ByteArray), .string (⟨#[]⟩ : ByteArray), .string (⟨#[]⟩ : ByteArray), .bool false, .int .i64 0, .bool false] (0, 0) _ rfl (pq7 Pk) Tryd.underlying34 rfl (by kernel_rfl)) rfl ?_
    exact ⟨Rf, by repeat (first | (with_reducible first | exact HI0.out | apply IsS38.alloc | apply IsS38.drewN | apply IsS38.drew | apply IsS38.set_0 | apply IsS38.set_1 | refine IsS38.far ?_ NB0_872.out _) | exact HI0.out), by repeat (first | (with_reducible first | exact HB.out | apply below_alloc | apply pw_below_drewN | apply below_drew1 | refine below_set ?_ (IsS38.ge HI0.out) | refine below_set ?_ GE872.out) | exact HB.out), by repeat (first | (with_reducible first | exact HK.out | apply KeepBut.set_ | apply keep_drewN | apply keep_drew | apply keep_alloc | refine keep_far ?_ GW872.out _) | exact HK.out)⟩
  · rw [if_neg c3] at H
    have c3b0 : decide (a1 < 0) = false := decide_eq_false c3
    clear c3
    by_cases c7 : 0 ≤ a1
    · rw [if_pos c7] at H
      have c7b0 : decide (0 ≤ a1) = true := decide_eq_true c7
      clear c7
      by_cases c8 : a1 < (s0_2.length : Int)
      · rw [if_pos c8] at H
        have c8b0 : decide (a1 < (s0_2.length : Int)) = true := decide_eq_true c8
        clear c8
        simp only [Option.some.injEq, Prod.mk.injEq] at H
        obtain ⟨rfl, rfl, rfl, rfl, rfl, rfl, rfl, rfl, rfl⟩ := H
        go_enter Tryd.func61, Tryd.ntmps61
        go_wp2_with (first | ((with_reducible refine gate_dst (N := 4) rfl ?_); refine box_event ?hg (N := 4) ?hd (cs := #[.int .i64 0, .string (⟨#[]⟩ : ByteArray), .string (⟨#[]⟩ : ByteArray), .string (⟨#[]⟩ : ByteArray), .bool false, .int .i64 0, .bool false]) (t := 34) ?hr ?_; (case hd => rfl); (case hg => rfl); (case hr => first | (go_simp; done) | (go_simp; rfl)); intro gb872 hg w9 hbox hb; have n0_ := Aside0.mk (IsS38.below (by repeat (first | (with_reducible first | exact HI0.out | apply IsS38.alloc | apply IsS38.drewN | apply IsS38.drew | apply IsS38.set_0 | apply IsS38.set_1) | exact HI0.out)) hb); have n1_ := Aside0.mk (KeepBut.trans (by repeat (first | (with_reducible first | exact HK.out | apply KeepBut.set_ | apply keep_drewN | apply keep_drew | apply keep_alloc) | exact HK.out)) (KeepBut.of_below hb g none) (.inl rfl)); have n2_ := Aside0.mk (below_step (by repeat (first | (with_reducible first | exact HB.out | apply below_alloc | apply pw_below_drewN | apply below_drew1 | refine below_set ?_ (IsS38.ge HI0.out)) | exact HB.out)) hb); have n3_ := Aside0.mk (hbox); have n4_ := Aside0.mk ((by rw [hg]; exact (keep_size (w := w) (g := g) (row := none) (by repeat (first | (with_reducible first | exact HK.out | apply KeepBut.set_ | apply keep_drewN | apply keep_drew | apply keep_alloc) | exact HK.out))) : w.heap.size ≤ gb872)); have n5_ := Aside0.mk ((Nat.le_trans HW0.out (by rw [hg]; exact (keep_size (w := w) (g := g) (row := none) (by repeat (first | (with_reducible first | exact HK.out | apply KeepBut.set_ | apply keep_drewN | apply keep_drew | apply keep_alloc) | exact HK.out))) : w.heap.size ≤ gb872) : w0.heap.size ≤ gb872)); have n6_ := Aside0.mk ((by rw [hg]; exact Nat.ne_of_lt (IsS38.lt (show IsS38 w0 _ g s0_0 s0_1 s0_2 from by repeat (first | (with_reducible first | exact HI0.out | apply IsS38.alloc | apply IsS38.drewN | apply IsS38.drew | apply IsS38.set_0 | apply IsS38.set_1) | exact HI0.out))) : g ≠ gb872)); have n7_ := Aside0.mk ((by rw [hg]; exact Nat.ne_of_gt (IsS38.lt (show IsS38 w0 _ g s0_0 s0_1 s0_2 from by repeat (first | (with_reducible first | exact HI0.out | apply IsS38.alloc | apply IsS38.drewN | apply IsS38.drew | apply IsS38.set_0 | apply IsS38.set_1) | exact HI0.out))) : gb872 ≠ g)); clear HI0; clear HK; clear HB; have HI0 := n0_; have HK := n1_; have HB := n2_; have BK872 := n3_; have GW872 := n4_; have GE872 := n5_; have NB0_872 := n6_; have NB872_0 := n7_; clear n0_ n1_ n2_ n3_ n4_ n5_ n6_ n7_; clear hb hbox hg; obtain ⟨ASz10_2, cSz10_2, HGz10, hgz10, HSz10_2⟩ := HI0.out; have hcz10_0 := cellS38_0 HGz10; have hcz10_1 := cellS38_1 HGz10; have hcz10_2 := cellS38_2 HGz10; have hfz10_0 := blk_frozen HGz10 0; have hfz10_1 := blk_frozen HGz10 1; clear HGz10 hgz10; have p873 : 0 ≤ (a1 : Int) := of_decide_eq_true Da; have q873 : a1 < (s0_2.length : Int) := of_decide_eq_true Da; obtain ⟨ad873, e873, hx873_0, hx873_1, hx873_2, hx873_3, hx873_4, hx873_5, hx873_6⟩ := at_T34 HSz10_2 a1 p873 q873; cases e873; replace hx873_0 := pw_cell_below HB.out hx873_0; replace hx873_1 := pw_cell_below HB.out hx873_1; replace hx873_2 := pw_cell_below HB.out hx873_2; replace hx873_3 := pw_cell_below HB.out hx873_3; replace hx873_4 := pw_cell_below HB.out hx873_4; replace hx873_5 := pw_cell_below HB.out hx873_5; replace hx873_6 := pw_cell_below HB.out hx873_6; replace p873 := eq_true p873; replace q873 := eq_true q873; have hnb11 := NB872_0.out; have hnc11 := NB0_872.out; have ⟨hcz12_0, hcz12_1, hcz12_2, hcz12_3, hcz12_4, hcz12_5, hcz12_6⟩ := cq7 BK872.out; have ⟨hfz12_0, hfz12_1, hfz12_2, hfz12_3, hfz12_4, hfz12_5, hfz12_6⟩ := fq7 BK872.out))
        refine bodyPost_ret (results_cell_row rfl _ _ gb872 34 #[.int .i64 ((rd_T34 s0_2 a1).f0), .string ((rd_T34 s0_2 a1).f1), .string ((rd_T34 s0_2 a1).f2), .string ((rd_T34 s0_2 a1).f3), .bool ((rd_T34 s0_2 a1).f4), .int .i64 ((rd_T34 s0_2 a1).f5), .bool ((rd_T34 s0_2 a1).f6)] (0, 0) _ rfl (pq7 Pk) Tryd.underlying34 rfl (by kernel_rfl)) rfl ?_
        exact ⟨Rf, by repeat (first | (with_reducible first | exact HI0.out | apply IsS38.alloc | apply IsS38.drewN | apply IsS38.drew | apply IsS38.set_0 | apply IsS38.set_1 | refine IsS38.far ?_ NB0_872.out _) | exact HI0.out), by repeat (first | (with_reducible first | exact HB.out | apply below_alloc | apply pw_below_drewN | apply below_drew1 | refine below_set ?_ (IsS38.ge HI0.out) | refine below_set ?_ GE872.out) | exact HB.out), by repeat (first | (with_reducible first | exact HK.out | apply KeepBut.set_ | apply keep_drewN | apply keep_drew | apply keep_alloc | refine keep_far ?_ GW872.out _) | exact HK.out)⟩
      · rw [if_neg c8] at H
        exact absurd H (by simp)
    · rw [if_neg c7] at H
      exact absurd H (by simp)

end Go.Proofs.YtpocoeghobdfiaaDoor.PG

-- WRITTEN BY A PROGRAM OF THIS SESSION (wip/gen/gen.py), by way of the kit's print program. Lean checks it.
namespace Go.Proofs.YtpocoeghobdfiaaDoor.PG
open Go.Proofs.YtpocoeghobdfiaaDoor.Sq Go.RowKit Go.Proofs.YtpocoeghobdfiaaDoorW.PrintWords Go.Proofs.YtpocoeghobdfiaaDoorW.PrintLast Go.Proofs.YtpocoeghobdfiaaDoorW.PrintMore
attribute [local go_sem] max2_int min2_int max_two min_two max_three min_three max_four min_four   -- for this text's walks alone
set_option linter.unusedVariables false
set_option linter.unusedSimpArgs false

/-! ### impl_isLong: function 65 -/
def impl_isLong.l0 : Nat → List ByteArray → Int → Int → Option (Bool)
  | 0, _, _, _ => none
  | k + 1, x5, x6, x7 => if x7 < x6 then (if 0 ≤ x7 then (if x7 < (x5.length : Int) then (if ((rdOf ByteArray.empty x5 x7).size : Int) > 8000 then (some true) else (impl_isLong.l0 k x5 x6 (wrap64 (x7 + 1)))) else (none)) else (none)) else (some false)
def impl_isLong.f (k : Nat) (l0 : List ByteArray) : Option (Bool) := impl_isLong.l0 k l0 (l0.length : Int) 0
theorem impl_isLong.mono_l : ∀ k, (∀ y0 y1 y2, LeO (impl_isLong.l0 k y0 y1 y2) (impl_isLong.l0 (k + 1) y0 y1 y2))
  | 0 => fun _ _ _ r h => by simp [impl_isLong.l0] at h
  | k + 1 => by
    have ih0 := impl_isLong.mono_l k
    · intro y0 y1 y2
      unfold impl_isLong.l0
      repeat' first
      | (with_reducible exact ih0 _ _ _)
      | (with_reducible exact LeO.refl _)
      | (with_reducible exact LeO.none _)
      | (with_reducible refine LeO.ite ?_ ?_)
      | (with_reducible refine LeO.bind ?_ (fun _ => ?_))
      | exact ih0 _ _ _
      | exact LeO.none _
      | refine LeO.ite ?_ ?_
      | refine LeO.bind ?_ (fun _ => ?_)
theorem impl_isLong.mono : ∀ a0 k, LeO (impl_isLong.f k a0) (impl_isLong.f (k + 1) a0) := by
  intro a0 k
  have ih0 := impl_isLong.mono_l k
  unfold impl_isLong.f
  repeat' first
      | (with_reducible exact ih0 _ _ _)
      | (with_reducible exact LeO.refl _)
      | (with_reducible exact LeO.none _)
      | (with_reducible refine LeO.ite ?_ ?_)
      | (with_reducible refine LeO.bind ?_ (fun _ => ?_))
      | exact ih0 _ _ _
      | exact LeO.none _
      | refine LeO.ite ?_ ?_
      | refine LeO.bind ?_ (fun _ => ?_)
set_option maxHeartbeats 8000000 in
set_option maxRecDepth 100000 in
theorem impl_isLong.calls (k : Nat) (A0 : Option Addr) (c0 : Nat) (l0 : List ByteArray) (r : Bool) (w : World) (hr0 : Kd.C Kd.string w A0 l0.length l0) (hc0 : l0.length ≤ c0) (h : impl_isLong.f k l0 = some r) :
    Calls Tryd.prog 65 #[.slice A0 l0.length c0] w fun e w' => e = .returned (.bool r) ∧ Drawn0 w w' := by
  have HR0 := Aside0.mk hr0
  have HC0 := Aside0.mk hc0
  clear hr0 hc0
  have H : (impl_isLong.l0 k l0 (l0.length : Int) 0) = some r := h
  clear h
  have H' := Aside0.mk H
  clear H
  go_enter Tryd.func65, Tryd.ntmps65
  go_wp2
  go_loopg [7] k (fun kq v7 w' => ∃ (x7_1 : Int), v7 = .int .i64 x7_1 ∧ Aside0 (impl_isLong.l0 kq l0 (l0.length : Int) x7_1 = some r) ∧ Aside0 (kq ≤ k) ∧ Drawn0 w w')
  case atStart => exact ⟨(0), (by first | rfl | (simp; done) | (simp [*]; done)), H', ⟨Nat.le_refl _⟩, by repeat (first | exact Drawn0.refl _ | apply Drawn0.step)⟩
  case round =>
    clear H'
    obtain ⟨x7_1, rfl, HA, HK1, ⟨m1, rfl⟩⟩ := hrel
    cases gk with
    | zero => exact absurd HA.out (by simp [impl_isLong.l0])
    | succ k1 =>
      have H := HA.out
      clear HA
      simp only [impl_isLong.l0] at H
      by_cases c2 : x7_1 < (l0.length : Int)
      · rw [if_pos c2] at H
        have c2b0 : decide (x7_1 < (l0.length : Int)) = true := decide_eq_true c2
        clear c2
        by_cases c3 : 0 ≤ x7_1
        · rw [if_pos c3] at H
          have c3b0 : decide (0 ≤ x7_1) = true := decide_eq_true c3
          clear c3
          by_cases c4 : x7_1 < (l0.length : Int)
          · rw [if_pos c4] at H
            have c4b0 : decide (x7_1 < (l0.length : Int)) = true := decide_eq_true c4
            clear c4
            by_cases c5 : ((rdOf ByteArray.empty l0 x7_1).size : Int) > 8000
            · rw [if_pos c5] at H
              have c5b0 : decide (8000 < ((rdOf ByteArray.empty l0 x7_1).size : Int)) = true := decide_eq_true c5
              have c5b1 : decide (8000 < (rdOf ByteArray.empty l0 x7_1).size) = true := decide_eq_true (by omega)
              clear c5
              obtain rfl := Option.some.inj H
              have p597 : 0 ≤ (x7_1 : Int) := of_decide_eq_true Da
              have q597 : x7_1 < (l0.length : Int) := of_decide_eq_true Da
              obtain ⟨ad597, e597, hx597_0⟩ := Kd.at_string HR0.out x7_1 p597 q597
              cases e597
              replace p597 := eq_true p597
              replace q597 := eq_true q597
              go_wp2
              go_ret
              exact ⟨by first | rfl | (simp; done) | (simp [*]; done), by repeat (first | exact Drawn0.refl _ | apply Drawn0.step)⟩
            · rw [if_neg c5] at H
              have c5b0 : decide (8000 < ((rdOf ByteArray.empty l0 x7_1).size : Int)) = false := decide_eq_false c5
              have c5b1 : decide (8000 < (rdOf ByteArray.empty l0 x7_1).size) = false := decide_eq_false (by omega)
              clear c5
              have H' := Aside0.mk H
              clear H
              have p597 : 0 ≤ (x7_1 : Int) := of_decide_eq_true Da
              have q597 : x7_1 < (l0.length : Int) := of_decide_eq_true Da
              obtain ⟨ad597, e597, hx597_0⟩ := Kd.at_string HR0.out x7_1 p597 q597
              cases e597
              replace p597 := eq_true p597
              replace q597 := eq_true q597
              go_wp2
              go_roundg k1
              case measure => have := HK1.out; omega
              case rel => exact ⟨(wrap64 (x7_1 + 1)), (by first | rfl | (simp; done) | (simp [*]; done)), H', ⟨by have := HK1.out; omega⟩, by repeat (first | exact Drawn0.refl _ | apply Drawn0.step)⟩
          · rw [if_neg c4] at H
            exact absurd H (by simp)
        · rw [if_neg c3] at H
          exact absurd H (by simp)
      · rw [if_neg c2] at H
        have c2b0 : decide (x7_1 < (l0.length : Int)) = false := decide_eq_false c2
        clear c2
        obtain rfl := Option.some.inj H
        go_wp2
        go_ret
        exact ⟨by first | rfl | (simp; done) | (simp [*]; done), by repeat (first | exact Drawn0.refl _ | apply Drawn0.step)⟩

end Go.Proofs.YtpocoeghobdfiaaDoor.PG

-- WRITTEN BY A PROGRAM OF THIS SESSION (wip/gen/gen.py), by way of the kit's print program. Lean checks it.
namespace Go.Proofs.YtpocoeghobdfiaaDoor.PG
open Go.Proofs.YtpocoeghobdfiaaDoor.Sq Go.RowKit Go.Proofs.YtpocoeghobdfiaaDoorW.PrintWords Go.Proofs.YtpocoeghobdfiaaDoorW.PrintLast Go.Proofs.YtpocoeghobdfiaaDoorW.PrintMore
attribute [local go_sem] max2_int min2_int max_two min_two max_three min_three max_four min_four   -- for this text's walks alone
set_option linter.unusedVariables false
set_option linter.unusedSimpArgs false

/-! ### spec_RowById: function 18 -/
def spec_RowById.l0 : Nat → Int → Int → Int → Int → List (S34) → Option (Int × ByteArray × ByteArray × ByteArray × Bool × Int × Bool)
  | 0, _, _, _, _, _ => none
  | k + 1, x1, x5, x211000, x211001, x211002 => if x5 < (x211002.length : Int) then (if 0 ≤ x5 then (if ((rd_T34 x211002 x5).f0) = x1 then ((spec_TableRight.f k x211000 x211001 x211002).bind fun t213 => (if t213 = true then (some ((rd_T34 x211002 x5).f0, (rd_T34 x211002 x5).f1, (rd_T34 x211002 x5).f2, (rd_T34 x211002 x5).f3, (rd_T34 x211002 x5).f4, (rd_T34 x211002 x5).f5, (rd_T34 x211002 x5).f6)) else (spec_RowById.l0 k x1 (wrap64 (x5 + 1)) x211000 x211001 x211002))) else (spec_RowById.l0 k x1 (wrap64 (x5 + 1)) x211000 x211001 x211002)) else (none)) else (some (0, (⟨#[]⟩ : ByteArray), (⟨#[]⟩ : ByteArray), (⟨#[]⟩ : ByteArray), false, 0, false))
def spec_RowById.f (k : Nat) (a0_0 : Int) (a0_1 : Int) (l0_2 : List (S34)) (a1 : Int) : Option (Int × ByteArray × ByteArray × ByteArray × Bool × Int × Bool) := spec_RowById.l0 k a1 0 a0_0 a0_1 l0_2
theorem spec_RowById.mono_l : ∀ k, (∀ y0 y1 y2 y3 y4, LeO (spec_RowById.l0 k y0 y1 y2 y3 y4) (spec_RowById.l0 (k + 1) y0 y1 y2 y3 y4))
  | 0 => fun _ _ _ _ _ r h => by simp [spec_RowById.l0] at h
  | k + 1 => by
    have ih0 := spec_RowById.mono_l k
    · intro y0 y1 y2 y3 y4
      unfold spec_RowById.l0
      repeat' first
      | (with_reducible exact ih0 _ _ _ _ _)
      | (with_reducible exact spec_TableRight.mono _ _ _ _)
      | (with_reducible exact LeO.refl _)
      | (with_reducible exact LeO.none _)
      | (with_reducible refine LeO.ite ?_ ?_)
      | (with_reducible refine LeO.bind ?_ (fun _ => ?_))
      | exact ih0 _ _ _ _ _
      | exact spec_TableRight.mono _ _ _ _
      | exact LeO.none _
      | refine LeO.ite ?_ ?_
      | refine LeO.bind ?_ (fun _ => ?_)
theorem spec_RowById.mono : ∀ a0 a1 a2 a3 k, LeO (spec_RowById.f k a0 a1 a2 a3) (spec_RowById.f (k + 1) a0 a1 a2 a3) := by
  intro a0 a1 a2 a3 k
  have ih0 := spec_RowById.mono_l k
  unfold spec_RowById.f
  repeat' first
      | (with_reducible exact ih0 _ _ _ _ _)
      | (with_reducible exact spec_TableRight.mono _ _ _ _)
      | (with_reducible exact LeO.refl _)
      | (with_reducible exact LeO.none _)
      | (with_reducible refine LeO.ite ?_ ?_)
      | (with_reducible refine LeO.bind ?_ (fun _ => ?_))
      | exact ih0 _ _ _ _ _
      | exact spec_TableRight.mono _ _ _ _
      | exact LeO.none _
      | refine LeO.ite ?_ ?_
      | refine LeO.bind ?_ (fun _ => ?_)
set_option maxHeartbeats 8000000 in
set_option maxRecDepth 100000 in
theorem spec_RowById.calls (k : Nat) (a0_0 : Int) (a0_1 : Int) (A0_2 : Option Addr) (c0_2 : Nat) (l0_2 : List (S34)) (a1 : Int) (r1 : Int) (r2 : ByteArray) (r3 : ByteArray) (r4 : ByteArray) (r5 : Bool) (r6 : Int) (r7 : Bool) (w : World) (hr0_2 : Kd.C k34 w A0_2 l0_2.length l0_2) (hc0_2 : l0_2.length ≤ c0_2) (h : spec_RowById.f k a0_0 a0_1 l0_2 a1 = some (r1, r2, r3, r4, r5, r6, r7)) :
    Calls Tryd.prog 18 #[.agg #[.int .i64 a0_0, .int .i64 a0_1, .slice A0_2 l0_2.length c0_2], .int .i64 a1] w fun e w' => e = .returned (.agg #[.int .i64 r1, .string r2, .string r3, .string r4, .bool r5, .int .i64 r6, .bool r7]) ∧ Below w.heap.size w w' := by
  have hu38 := Tryd.underlying38
  have hu34 := Tryd.underlying34
  have HR0_2 := Aside0.mk hr0_2
  have HC0_2 := Aside0.mk hc0_2
  clear hr0_2 hc0_2
  have HB := Aside0.mk (Below.refl w.heap.size w)
  have H : (spec_RowById.l0 k a1 0 a0_0 a0_1 l0_2) = some (r1, r2, r3, r4, r5, r6, r7) := h
  clear h
  have H' := Aside0.mk H
  clear H
  go_enter Tryd.func18, Tryd.ntmps18
  go_wp2_with (first | ((with_reducible refine gate_dst (N := 2) rfl ?_); refine box_event ?hg (N := 2) ?hd (cs := #[.int .i64 a0_0, .int .i64 a0_1, .slice A0_2 l0_2.length c0_2]) (t := 38) ?hr ?_; (case hd => rfl); (case hg => rfl); (case hr => first | (go_simp; done) | (go_simp; rfl)); intro gb210 hg w3 hbox hb; have n0_ := Aside0.mk (below_step By hb); have n1_ := Aside0.mk (hbox); have n2_ := Aside0.mk ((by rw [hg]; exact (below_size By) : w.heap.size ≤ gb210)); have n3_ := Aside0.mk ((by rw [hg]; exact (below_size By) : w.heap.size ≤ gb210)); clear HB; have HB := n0_; have BK210 := n1_; have GW210 := n2_; have GE210 := n3_; clear n0_ n1_ n2_ n3_; clear hb hbox hg) | ((with_reducible refine gate_dst (N := 4) rfl ?_); refine box_event ?hg (N := 4) ?hd (cs := #[.int .i64 0, .string (⟨#[]⟩ : ByteArray), .string (⟨#[]⟩ : ByteArray), .string (⟨#[]⟩ : ByteArray), .bool false, .int .i64 0, .bool false]) (t := 34) ?hr ?_; (case hd => rfl); (case hg => rfl); (case hr => first | (go_simp; done) | (go_simp; rfl)); intro gb211 hg w4 hbox hb; have n0_ := Aside0.mk (bb BK210.out hb); have n1_ := Aside0.mk (below_step By hb); have n2_ := Aside0.mk (hbox); have n3_ := Aside0.mk ((by rw [hg]; exact (below_size By) : w.heap.size ≤ gb211)); have n4_ := Aside0.mk ((by rw [hg]; exact (below_size By) : w.heap.size ≤ gb211)); have n5_ := Aside0.mk ((by rw [hg]; exact Nat.ne_of_lt (bl BK210.out) : gb210 ≠ gb211)); have n6_ := Aside0.mk ((by rw [hg]; exact Nat.ne_of_gt (bl BK210.out) : gb211 ≠ gb210)); clear BK210; clear HB; have BK210 := n0_; have HB := n1_; have BK211 := n2_; have GW211 := n3_; have GE211 := n4_; have NB210_211 := n5_; have NB211_210 := n6_; clear n0_ n1_ n2_ n3_ n4_ n5_ n6_; clear hb hbox hg))
  go_loopg [5] k (fun kq v5 w' => ∃ (x5_1 : Int) (x212000_1 : Int) (x212001_1 : ByteArray) (x212002_1 : ByteArray) (x212003_1 : ByteArray) (x212004_1 : Bool) (x212005_1 : Int) (x212006_1 : Bool), v5 = .int .i64 x5_1 ∧ Aside0 (spec_RowById.l0 kq a1 x5_1 a0_0 a0_1 l0_2 = some (r1, r2, r3, r4, r5, r6, r7)) ∧ Aside0 (kq ≤ k) ∧ Aside0 (w'.heap[gb210]? = some (.cells #[.int .i64 a0_0, .int .i64 a0_1, (.slice A0_2 l0_2.length c0_2)] 38 (0, 0))) ∧ Aside0 (w'.heap[gb211]? = some (.cells #[.int .i64 x212000_1, .string x212001_1, .string x212002_1, .string x212003_1, .bool x212004_1, .int .i64 x212005_1, .bool x212006_1] 34 (0, 0))) ∧ Aside0 (Below w.heap.size w w'))
  case atStart => exact ⟨(0), (0), ((⟨#[]⟩ : ByteArray)), ((⟨#[]⟩ : ByteArray)), ((⟨#[]⟩ : ByteArray)), (false), (0), (false), (by first | rfl | (simp; done) | (simp [*]; done)), H', ⟨Nat.le_refl _⟩, ⟨by (with_reducible repeat (first | refine blk_drewN ?_ _ | refine blk_drew ?_ | refine blk_alloc ?_ _)); exact BK210.out⟩, ⟨by (with_reducible repeat (first | refine blk_drewN ?_ _ | refine blk_drew ?_ | refine blk_alloc ?_ _)); exact BK211.out⟩, ⟨By⟩⟩
  case round =>
    clear H'
    try clear c1
    try clear p2
    obtain ⟨x5_1, x212000_1, x212001_1, x212002_1, x212003_1, x212004_1, x212005_1, x212006_1, rfl, HA, HK1, BK210, BK211, HB⟩ := hrel
    cases gk with
    | zero => exact absurd HA.out (by simp [spec_RowById.l0])
    | succ k1 =>
      have H := HA.out
      clear HA
      simp only [spec_RowById.l0] at H
      by_cases c5 : x5_1 < (l0_2.length : Int)
      · rw [if_pos c5] at H
        have c5b0 : decide (x5_1 < (l0_2.length : Int)) = true := decide_eq_true c5
        clear c5
        by_cases c6 : 0 ≤ x5_1
        · rw [if_pos c6] at H
          have c6b0 : decide (0 ≤ x5_1) = true := decide_eq_true c6
          clear c6
          by_cases c7 : ((rd_T34 l0_2 x5_1).f0) = a1
          · rw [if_pos c7] at H
            have c7b0 : (((rd_T34 l0_2 x5_1).f0) == a1) = true := beq_iff_eq.mpr c7
            have c7b1 : (((rd_T34 l0_2 x5_1).f0) != a1) = false := bne_eq_false_iff_eq.mpr c7
            clear c7
            replace H := Option.bind_eq_some_iff.mp H
            obtain ⟨t213, A80, H⟩ := H
            replace H : (if t213 = true then (some ((rd_T34 l0_2 x5_1).f0, (rd_T34 l0_2 x5_1).f1, (rd_T34 l0_2 x5_1).f2, (rd_T34 l0_2 x5_1).f3, (rd_T34 l0_2 x5_1).f4, (rd_T34 l0_2 x5_1).f5, (rd_T34 l0_2 x5_1).f6)) else (spec_RowById.l0 k1 a1 (wrap64 (x5_1 + 1)) a0_0 a0_1 l0_2)) = some (r1, r2, r3, r4, r5, r6, r7) := H
            have A8 := Aside0.mk A80
            clear A80
            by_cases c9 : t213 = true
            · subst c9
              have H1 : (some ((rd_T34 l0_2 x5_1).f0, (rd_T34 l0_2 x5_1).f1, (rd_T34 l0_2 x5_1).f2, (rd_T34 l0_2 x5_1).f3, (rd_T34 l0_2 x5_1).f4, (rd_T34 l0_2 x5_1).f5, (rd_T34 l0_2 x5_1).f6)) = some (r1, r2, r3, r4, r5, r6, r7) := by rw [if_pos rfl] at H; exact H
              clear H
              have H := H1
              clear H1
              simp only [Option.some.injEq, Prod.mk.injEq] at H
              obtain ⟨rfl, rfl, rfl, rfl, rfl, rfl, rfl⟩ := H
              have hnb10 := NB210_211.out
              have hnc10 := NB211_210.out
              have hcz11_0 : wr.cell? ⟨gb210, 0, none⟩ = some (.int .i64 a0_0) := bc BK210.out 0
              have hcz11_1 : wr.cell? ⟨gb210, 1, none⟩ = some (.int .i64 a0_1) := bc BK210.out 1
              have hcz11_2 : wr.cell? ⟨gb210, 2, none⟩ = some (.slice A0_2 l0_2.length c0_2) := bc BK210.out 2
              have hfz11_0 := blk_frozen BK210.out 0
              have hfz11_1 := blk_frozen BK210.out 1
              have hfz11_2 := blk_frozen BK210.out 2
              have p212 : 0 ≤ (x5_1 : Int) := of_decide_eq_true Da
              have q212 : x5_1 < (l0_2.length : Int) := of_decide_eq_true Da
              obtain ⟨ad212, e212, hx212_0, hx212_1, hx212_2, hx212_3, hx212_4, hx212_5, hx212_6⟩ := at_T34 HR0_2.out x5_1 p212 q212
              cases e212
              replace hx212_0 := bz HB.out hx212_0
              replace hx212_1 := bz HB.out hx212_1
              replace hx212_2 := bz HB.out hx212_2
              replace hx212_3 := bz HB.out hx212_3
              replace hx212_4 := bz HB.out hx212_4
              replace hx212_5 := bz HB.out hx212_5
              replace hx212_6 := bz HB.out hx212_6
              replace p212 := eq_true p212
              replace q212 := eq_true q212
              go_wp2_with (first | (go_at_call 58; (with_reducible refine (spec_TableRight.calls k1 a0_0 a0_1 _ _ l0_2 true _ ?side1 ?side2 A8.out).mono ?_); (case side1 => repeat (first | exact (Kd.C_below HR0_2.out HB.out) | (with_reducible refine Kd.C_alloc ?_ _) | (with_reducible refine Kd.C_drewN ?_ _) | (with_reducible refine Kd.C_drew ?_))); (case side2 => exact HC0_2.out); rintro e w12 ⟨rfl, hb⟩; have n0_ := Aside0.mk (bb BK210.out hb); have n1_ := Aside0.mk (bb BK211.out hb); have n2_ := Aside0.mk (below_step By hb); clear BK210; clear BK211; clear HB; have BK210 := n0_; have BK211 := n1_; have HB := n2_; clear n0_ n1_ n2_; (try clear hb); (try clear hb2); (try clear hk); (try clear hi); have ⟨hcz13_0, hcz13_1, hcz13_2⟩ := cq3 BK210.out; have ⟨hfz13_0, hfz13_1, hfz13_2⟩ := fq3 BK210.out; have p214 : 0 ≤ (x5_1 : Int) := of_decide_eq_true Da; have q214 : x5_1 < (l0_2.length : Int) := of_decide_eq_true Da; obtain ⟨ad214, e214, hx214_0, hx214_1, hx214_2, hx214_3, hx214_4, hx214_5, hx214_6⟩ := at_T34 HR0_2.out x5_1 p214 q214; obtain rfl : ad212 = ad214 := (by injection e214); replace hx214_0 := bz HB.out hx214_0; replace hx214_1 := bz HB.out hx214_1; replace hx214_2 := bz HB.out hx214_2; replace hx214_3 := bz HB.out hx214_3; replace hx214_4 := bz HB.out hx214_4; replace hx214_5 := bz HB.out hx214_5; replace hx214_6 := bz HB.out hx214_6; replace p214 := eq_true p214; replace q214 := eq_true q214; have ⟨hcz14_0, hcz14_1, hcz14_2, hcz14_3, hcz14_4, hcz14_5, hcz14_6⟩ := cq7 BK211.out; have ⟨hfz14_0, hfz14_1, hfz14_2, hfz14_3, hfz14_4, hfz14_5, hfz14_6⟩ := fq7 BK211.out))
              refine bodyPost_ret (results_cell_row rfl _ _ gb211 34 #[.int .i64 ((rd_T34 l0_2 x5_1).f0), .string ((rd_T34 l0_2 x5_1).f1), .string ((rd_T34 l0_2 x5_1).f2), .string ((rd_T34 l0_2 x5_1).f3), .bool ((rd_T34 l0_2 x5_1).f4), .int .i64 ((rd_T34 l0_2 x5_1).f5), .bool ((rd_T34 l0_2 x5_1).f6)] (0, 0) _ rfl (pq7 Pk) Tryd.underlying34 rfl (by kernel_rfl)) rfl ?_
              exact ⟨Rf, By⟩
            · replace c9 := Bool.eq_false_iff.mpr c9
              subst c9
              have H1 : (spec_RowById.l0 k1 a1 (wrap64 (x5_1 + 1)) a0_0 a0_1 l0_2) = some (r1, r2, r3, r4, r5, r6, r7) := by rw [if_neg (show ¬ (false = true) by decide)] at H; exact H
              clear H
              have H := H1
              clear H1
              have H' := Aside0.mk H
              clear H
              have hnb15 := NB210_211.out
              have hnc15 := NB211_210.out
              have hcz16_0 : wr.cell? ⟨gb210, 0, none⟩ = some (.int .i64 a0_0) := bc BK210.out 0
              have hcz16_1 : wr.cell? ⟨gb210, 1, none⟩ = some (.int .i64 a0_1) := bc BK210.out 1
              have hcz16_2 : wr.cell? ⟨gb210, 2, none⟩ = some (.slice A0_2 l0_2.length c0_2) := bc BK210.out 2
              have hfz16_0 := blk_frozen BK210.out 0
              have hfz16_1 := blk_frozen BK210.out 1
              have hfz16_2 := blk_frozen BK210.out 2
              have p212 : 0 ≤ (x5_1 : Int) := of_decide_eq_true Da
              have q212 : x5_1 < (l0_2.length : Int) := of_decide_eq_true Da
              obtain ⟨ad212, e212, hx212_0, hx212_1, hx212_2, hx212_3, hx212_4, hx212_5, hx212_6⟩ := at_T34 HR0_2.out x5_1 p212 q212
              cases e212
              replace hx212_0 := bz HB.out hx212_0
              replace hx212_1 := bz HB.out hx212_1
              replace hx212_2 := bz HB.out hx212_2
              replace hx212_3 := bz HB.out hx212_3
              replace hx212_4 := bz HB.out hx212_4
              replace hx212_5 := bz HB.out hx212_5
              replace hx212_6 := bz HB.out hx212_6
              replace p212 := eq_true p212
              replace q212 := eq_true q212
              go_wp2_with (first | (go_at_call 58; (with_reducible refine (spec_TableRight.calls k1 a0_0 a0_1 _ _ l0_2 false _ ?side1 ?side2 A8.out).mono ?_); (case side1 => repeat (first | exact (Kd.C_below HR0_2.out HB.out) | (with_reducible refine Kd.C_alloc ?_ _) | (with_reducible refine Kd.C_drewN ?_ _) | (with_reducible refine Kd.C_drew ?_))); (case side2 => exact HC0_2.out); rintro e w17 ⟨rfl, hb⟩; have n0_ := Aside0.mk (bb BK210.out hb); have n1_ := Aside0.mk (bb BK211.out hb); have n2_ := Aside0.mk (below_step By hb); clear BK210; clear BK211; clear HB; have BK210 := n0_; have BK211 := n1_; have HB := n2_; clear n0_ n1_ n2_; (try clear hb); (try clear hb2); (try clear hk); (try clear hi)))
              go_roundg k1
              case measure => have := HK1.out; omega
              case rel => exact ⟨(wrap64 (x5_1 + 1)), (x212000_1), (x212001_1), (x212002_1), (x212003_1), (x212004_1), (x212005_1), (x212006_1), (by first | rfl | (simp; done) | (simp [*]; done)), H', ⟨by have := HK1.out; omega⟩, ⟨by (with_reducible repeat (first | refine blk_drewN ?_ _ | refine blk_drew ?_ | refine blk_alloc ?_ _)); exact BK210.out⟩, ⟨by (with_reducible repeat (first | refine blk_drewN ?_ _ | refine blk_drew ?_ | refine blk_alloc ?_ _)); exact BK211.out⟩, ⟨By⟩⟩
          · rw [if_neg c7] at H
            have c7b0 : (((rd_T34 l0_2 x5_1).f0) == a1) = false := beq_eq_false_iff_ne.mpr c7
            have c7b1 : (((rd_T34 l0_2 x5_1).f0) != a1) = true := bne_iff_ne.mpr c7
            have H' := Aside0.mk H
            clear H
            have hnb18 := NB210_211.out
            have hnc18 := NB211_210.out
            have hcz19_0 : wr.cell? ⟨gb210, 0, none⟩ = some (.int .i64 a0_0) := bc BK210.out 0
            have hcz19_1 : wr.cell? ⟨gb210, 1, none⟩ = some (.int .i64 a0_1) := bc BK210.out 1
            have hcz19_2 : wr.cell? ⟨gb210, 2, none⟩ = some (.slice A0_2 l0_2.length c0_2) := bc BK210.out 2
            have hfz19_0 := blk_frozen BK210.out 0
            have hfz19_1 := blk_frozen BK210.out 1
            have hfz19_2 := blk_frozen BK210.out 2
            have p212 : 0 ≤ (x5_1 : Int) := of_decide_eq_true Da
            have q212 : x5_1 < (l0_2.length : Int) := of_decide_eq_true Da
            obtain ⟨ad212, e212, hx212_0, hx212_1, hx212_2, hx212_3, hx212_4, hx212_5, hx212_6⟩ := at_T34 HR0_2.out x5_1 p212 q212
            cases e212
            replace hx212_0 := bz HB.out hx212_0
            replace hx212_1 := bz HB.out hx212_1
            replace hx212_2 := bz HB.out hx212_2
            replace hx212_3 := bz HB.out hx212_3
            replace hx212_4 := bz HB.out hx212_4
            replace hx212_5 := bz HB.out hx212_5
            replace hx212_6 := bz HB.out hx212_6
            replace p212 := eq_true p212
            replace q212 := eq_true q212
            go_wp2
            go_roundg k1
            case measure => have := HK1.out; omega
            case rel => exact ⟨(wrap64 (x5_1 + 1)), (x212000_1), (x212001_1), (x212002_1), (x212003_1), (x212004_1), (x212005_1), (x212006_1), (by first | rfl | (simp; done) | (simp [*]; done)), H', ⟨by have := HK1.out; omega⟩, ⟨by (with_reducible repeat (first | refine blk_drewN ?_ _ | refine blk_drew ?_ | refine blk_alloc ?_ _)); exact BK210.out⟩, ⟨by (with_reducible repeat (first | refine blk_drewN ?_ _ | refine blk_drew ?_ | refine blk_alloc ?_ _)); exact BK211.out⟩, ⟨By⟩⟩
        · rw [if_neg c6] at H
          exact absurd H (by simp)
      · rw [if_neg c5] at H
        have c5b0 : decide (x5_1 < (l0_2.length : Int)) = false := decide_eq_false c5
        clear c5
        simp only [Option.some.injEq, Prod.mk.injEq] at H
        obtain ⟨rfl, rfl, rfl, rfl, rfl, rfl, rfl⟩ := H
        have hnb20 := NB210_211.out
        have hnc20 := NB211_210.out
        have hcz21_0 : wr.cell? ⟨gb210, 0, none⟩ = some (.int .i64 a0_0) := bc BK210.out 0
        have hcz21_1 : wr.cell? ⟨gb210, 1, none⟩ = some (.int .i64 a0_1) := bc BK210.out 1
        have hcz21_2 : wr.cell? ⟨gb210, 2, none⟩ = some (.slice A0_2 l0_2.length c0_2) := bc BK210.out 2
        have hfz21_0 := blk_frozen BK210.out 0
        have hfz21_1 := blk_frozen BK210.out 1
        have hfz21_2 := blk_frozen BK210.out 2
        have hcz22_0 : wr.cell? ⟨gb211, 0, none⟩ = some (.int .i64 x212000_1) := bc BK211.out 0
        have hcz22_1 : wr.cell? ⟨gb211, 1, none⟩ = some (.string x212001_1) := bc BK211.out 1
        have hcz22_2 : wr.cell? ⟨gb211, 2, none⟩ = some (.string x212002_1) := bc BK211.out 2
        have hcz22_3 : wr.cell? ⟨gb211, 3, none⟩ = some (.string x212003_1) := bc BK211.out 3
        have hcz22_4 : wr.cell? ⟨gb211, 4, none⟩ = some (.bool x212004_1) := bc BK211.out 4
        have hcz22_5 : wr.cell? ⟨gb211, 5, none⟩ = some (.int .i64 x212005_1) := bc BK211.out 5
        have hcz22_6 : wr.cell? ⟨gb211, 6, none⟩ = some (.bool x212006_1) := bc BK211.out 6
        have hfz22_0 := blk_frozen BK211.out 0
        have hfz22_1 := blk_frozen BK211.out 1
        have hfz22_2 := blk_frozen BK211.out 2
        have hfz22_3 := blk_frozen BK211.out 3
        have hfz22_4 := blk_frozen BK211.out 4
        have hfz22_5 := blk_frozen BK211.out 5
        have hfz22_6 := blk_frozen BK211.out 6
        go_wp2
        refine bodyPost_ret (results_cell_row rfl _ _ gb211 34 #[.int .i64 0, .string (⟨#[]⟩ : ByteArray), .string (⟨#[]⟩ : ByteArray), .string (⟨#[]⟩ : ByteArray), .bool false, .int .i64 0, .bool false] (0, 0) _ rfl (pq7 Pk) Tryd.underlying34 rfl (by kernel_rfl)) rfl ?_
        exact ⟨Rf, By⟩

end Go.Proofs.YtpocoeghobdfiaaDoor.PG
