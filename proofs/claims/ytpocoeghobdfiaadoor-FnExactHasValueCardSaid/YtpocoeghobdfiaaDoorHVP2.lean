/-
  Functions that the law reaches, each as a plain Lean function, with the proof that the call comes to it (written by a program of this session by way of the kit's print program). Conditions: what each contract states.
-/
import Derived.Laws.Cover1
import Derived.Test.YtpocoeghobdfiaaDoorHVP1
import Derived.Test.YtpocoeghobdfiaaDoorHVSq
-- WRITTEN BY A PROGRAM OF THIS SESSION (wip/gen/gen.py), by way of the kit's print program. Lean checks it.
namespace Go.Proofs.YtpocoeghobdfiaaDoor.PG
open Go.Proofs.YtpocoeghobdfiaaDoor.Sq Go.RowKit Go.Proofs.YtpocoeghobdfiaaDoorW.PrintWords Go.Proofs.YtpocoeghobdfiaaDoorW.PrintLast Go.Proofs.YtpocoeghobdfiaaDoorW.PrintMore
attribute [local go_sem] max2_int min2_int max_two min_two max_three min_three max_four min_four   -- for this text's walks alone
set_option linter.unusedVariables false
set_option linter.unusedSimpArgs false

/-! ### spec_l02Plain: function 142 -/
def spec_l02Plain.l0 : Nat → ByteArray → Int → Option (Bool)
  | 0, _, _ => none
  | k + 1, x0, x3 => if x3 < (x0.size : Int) then (if 0 ≤ x3 then (if (bt x0 x3) < 32 then (some false) else (if (bt x0 x3) > 126 then (some false) else (spec_l02Plain.l0 k x0 (wrap64 (x3 + 1))))) else (none)) else (some true)
def spec_l02Plain.f (k : Nat) (a0 : ByteArray) : Option (Bool) := spec_l02Plain.l0 k a0 0
theorem spec_l02Plain.mono_l : ∀ k, (∀ y0 y1, LeO (spec_l02Plain.l0 k y0 y1) (spec_l02Plain.l0 (k + 1) y0 y1))
  | 0 => fun _ _ r h => by simp [spec_l02Plain.l0] at h
  | k + 1 => by
    have ih0 := spec_l02Plain.mono_l k
    · intro y0 y1
      unfold spec_l02Plain.l0
      repeat' first
      | (with_reducible exact ih0 _ _)
      | (with_reducible exact LeO.refl _)
      | (with_reducible exact LeO.none _)
      | (with_reducible refine LeO.ite ?_ ?_)
      | (with_reducible refine LeO.bind ?_ (fun _ => ?_))
      | exact ih0 _ _
      | exact LeO.none _
      | refine LeO.ite ?_ ?_
      | refine LeO.bind ?_ (fun _ => ?_)
theorem spec_l02Plain.mono : ∀ a0 k, LeO (spec_l02Plain.f k a0) (spec_l02Plain.f (k + 1) a0) := by
  intro a0 k
  have ih0 := spec_l02Plain.mono_l k
  unfold spec_l02Plain.f
  repeat' first
      | (with_reducible exact ih0 _ _)
      | (with_reducible exact LeO.refl _)
      | (with_reducible exact LeO.none _)
      | (with_reducible refine LeO.ite ?_ ?_)
      | (with_reducible refine LeO.bind ?_ (fun _ => ?_))
      | exact ih0 _ _
      | exact LeO.none _
      | refine LeO.ite ?_ ?_
      | refine LeO.bind ?_ (fun _ => ?_)
set_option maxHeartbeats 8000000 in
set_option maxRecDepth 100000 in
theorem spec_l02Plain.calls (k : Nat) (a0 : ByteArray) (r : Bool) (w : World) (h : spec_l02Plain.f k a0 = some r) :
    Calls Tryd.prog 142 #[.string a0] w fun e w' => e = .returned (.bool r) ∧ Drawn0 w w' := by
  have H : (spec_l02Plain.l0 k a0 0) = some r := h
  clear h
  have H' := Aside0.mk H
  clear H
  go_enter Tryd.func142, Tryd.ntmps142
  go_wp2
  go_loopg [3] k (fun kq v3 w' => ∃ (x3_1 : Int), v3 = .int .i64 x3_1 ∧ Aside0 (spec_l02Plain.l0 kq a0 x3_1 = some r) ∧ Aside0 (kq ≤ k) ∧ Drawn0 w w')
  case atStart => exact ⟨(0), (by first | rfl | (simp; done) | (simp [*]; done)), H', ⟨Nat.le_refl _⟩, by repeat (first | exact Drawn0.refl _ | apply Drawn0.step)⟩
  case round =>
    clear H'
    try clear c1
    obtain ⟨x3_1, rfl, HA, HK1, ⟨m1, rfl⟩⟩ := hrel
    cases gk with
    | zero => exact absurd HA.out (by simp [spec_l02Plain.l0])
    | succ k1 =>
      have H := HA.out
      clear HA
      simp only [spec_l02Plain.l0] at H
      by_cases c2 : x3_1 < (a0.size : Int)
      · rw [if_pos c2] at H
        have c2b0 : decide (x3_1 < (a0.size : Int)) = true := decide_eq_true c2
        clear c2
        by_cases c3 : 0 ≤ x3_1
        · rw [if_pos c3] at H
          have c3b0 : decide (0 ≤ x3_1) = true := decide_eq_true c3
          clear c3
          by_cases c5 : (bt a0 x3_1) < 32
          · rw [if_pos c5] at H
            have c5b0 : decide ((bt a0 x3_1) < 32) = true := decide_eq_true c5
            clear c5
            obtain rfl := Option.some.inj H
            have p4 : 0 ≤ (x3_1 : Int) := of_decide_eq_true Da
            have q4 : x3_1 < (a0.size : Int) := of_decide_eq_true Da
            have hx4 := bt_at a0 x3_1
            replace p4 := eq_true p4
            replace q4 := eq_true q4
            go_wp2
            go_ret
            exact ⟨by first | rfl | (simp; done) | (simp [*]; done), by repeat (first | exact Drawn0.refl _ | apply Drawn0.step)⟩
          · rw [if_neg c5] at H
            have c5b0 : decide ((bt a0 x3_1) < 32) = false := decide_eq_false c5
            clear c5
            by_cases c7 : (bt a0 x3_1) > 126
            · rw [if_pos c7] at H
              have c7b0 : decide (126 < (bt a0 x3_1)) = true := decide_eq_true c7
              clear c7
              obtain rfl := Option.some.inj H
              have p4 : 0 ≤ (x3_1 : Int) := of_decide_eq_true Da
              have q4 : x3_1 < (a0.size : Int) := of_decide_eq_true Da
              have hx4 := bt_at a0 x3_1
              replace p4 := eq_true p4
              replace q4 := eq_true q4
              have p6 : 0 ≤ (x3_1 : Int) := of_decide_eq_true Da
              have q6 : x3_1 < (a0.size : Int) := of_decide_eq_true Da
              have hx6 := bt_at a0 x3_1
              replace p6 := eq_true p6
              replace q6 := eq_true q6
              go_wp2
              go_ret
              exact ⟨by first | rfl | (simp; done) | (simp [*]; done), by repeat (first | exact Drawn0.refl _ | apply Drawn0.step)⟩
            · rw [if_neg c7] at H
              have c7b0 : decide (126 < (bt a0 x3_1)) = false := decide_eq_false c7
              clear c7
              have H' := Aside0.mk H
              clear H
              have p4 : 0 ≤ (x3_1 : Int) := of_decide_eq_true Da
              have q4 : x3_1 < (a0.size : Int) := of_decide_eq_true Da
              have hx4 := bt_at a0 x3_1
              replace p4 := eq_true p4
              replace q4 := eq_true q4
              have p6 : 0 ≤ (x3_1 : Int) := of_decide_eq_true Da
              have q6 : x3_1 < (a0.size : Int) := of_decide_eq_true Da
              have hx6 := bt_at a0 x3_1
              replace p6 := eq_true p6
              replace q6 := eq_true q6
              go_wp2
              go_roundg k1
              case measure => have := HK1.out; omega
              case rel => exact ⟨(wrap64 (x3_1 + 1)), (by first | rfl | (simp; done) | (simp [*]; done)), H', ⟨by have := HK1.out; omega⟩, by repeat (first | exact Drawn0.refl _ | apply Drawn0.step)⟩
        · rw [if_neg c3] at H
          exact absurd H (by simp)
      · rw [if_neg c2] at H
        have c2b0 : decide (x3_1 < (a0.size : Int)) = false := decide_eq_false c2
        clear c2
        obtain rfl := Option.some.inj H
        go_wp2
        go_ret
        exact ⟨by first | rfl | (simp; done) | (simp [*]; done), by repeat (first | exact Drawn0.refl _ | apply Drawn0.step)⟩

end Go.Proofs.YtpocoeghobdfiaaDoor.PG

-- WRITTEN BY A PROGRAM OF THIS SESSION (wip/gen/gen.py), by way of the kit's print program. Lean checks it.
namespace Go.Proofs.YtpocoeghobdfiaaDoor.PG
open Go.Proofs.YtpocoeghobdfiaaDoor.Sq Go.RowKit Go.Proofs.YtpocoeghobdfiaaDoorW.PrintWords Go.Proofs.YtpocoeghobdfiaaDoorW.PrintLast Go.Proofs.YtpocoeghobdfiaaDoorW.PrintMore
attribute [local go_sem] max2_int min2_int max_two min_two max_three min_three max_four min_four   -- for this text's walks alone
set_option linter.unusedVariables false
set_option linter.unusedSimpArgs false

/-! ### spec_Norm: function 124 -/
mutual
def spec_Norm.j0 : Nat → ByteArray → Bool → Option (ByteArray)
  | 0, _, _ => none
  | k + 1, x0, x13 => if x13 = true then (some (⟨#[]⟩ : ByteArray)) else (spec_Norm.l0 k x0 (([] : List Int)) 0)
def spec_Norm.l0 : Nat → ByteArray → List Int → Int → Option (ByteArray)
  | 0, _, _, _ => none
  | k + 1, x0, x3, x4 => if x4 < (x0.size : Int) then (if 0 ≤ x4 then (if (bt x0 x4) ≥ 65 then (spec_Norm.j2 k x0 x3 x4 (bt x0 x4) (decide ((bt x0 x4) ≤ 90))) else (spec_Norm.j2 k x0 x3 x4 (bt x0 x4) false)) else (none)) else (if (x3.length : Int) > 0 then (if 0 ≤ (wrap64 ((x3.length : Int) - 1)) then (if (wrap64 ((x3.length : Int) - 1)) < (x3.length : Int) then (if (rd x3 (wrap64 ((x3.length : Int) - 1))) = 32 then (if (wrap64 ((x3.length : Int) - 1)) ≤ (x3.length : Int) then (some (strOfNums (x3.take ((wrap64 ((x3.length : Int) - 1)) : Int).toNat))) else (none)) else (some (strOfNums x3))) else (none)) else (none)) else (some (strOfNums x3)))
def spec_Norm.j2 : Nat → ByteArray → List Int → Int → Int → Bool → Option (ByteArray)
  | 0, _, _, _, _, _ => none
  | k + 1, x0, x3, x4, x5, x29 => if x29 = true then (if ((x5 + 32) % 256) = 32 then (if (x3.length : Int) = 0 then (spec_Norm.l0 k x0 x3 (wrap64 (x4 + 1))) else (if 0 ≤ (wrap64 ((x3.length : Int) - 1)) then (if (wrap64 ((x3.length : Int) - 1)) < (x3.length : Int) then (if (rd x3 (wrap64 ((x3.length : Int) - 1))) = 32 then (spec_Norm.l0 k x0 x3 (wrap64 (x4 + 1))) else (if x3.length < 140737488355328 then (spec_Norm.l0 k x0 (x3 ++ [(x5 + 32) % 256]) (wrap64 (x4 + 1))) else (none))) else (none)) else (none))) else (if x3.length < 140737488355328 then (spec_Norm.l0 k x0 (x3 ++ [(x5 + 32) % 256]) (wrap64 (x4 + 1))) else (none))) else (if x5 = 32 then (if (x3.length : Int) = 0 then (spec_Norm.l0 k x0 x3 (wrap64 (x4 + 1))) else (if 0 ≤ (wrap64 ((x3.length : Int) - 1)) then (if (wrap64 ((x3.length : Int) - 1)) < (x3.length : Int) then (if (rd x3 (wrap64 ((x3.length : Int) - 1))) = 32 then (spec_Norm.l0 k x0 x3 (wrap64 (x4 + 1))) else (if x3.length < 140737488355328 then (spec_Norm.l0 k x0 (x3 ++ [x5]) (wrap64 (x4 + 1))) else (none))) else (none)) else (none))) else (if x3.length < 140737488355328 then (spec_Norm.l0 k x0 (x3 ++ [x5]) (wrap64 (x4 + 1))) else (none)))
end
def spec_Norm.f (k : Nat) (a0 : ByteArray) : Option (ByteArray) := if (a0.size : Int) > 100 then (spec_Norm.j0 k a0 true) else ((spec_l02Plain.f k a0).bind fun t169 => (spec_Norm.j0 k a0 (!t169)))
theorem spec_Norm.mono_l : ∀ k, (∀ y0 y1, LeO (spec_Norm.j0 k y0 y1) (spec_Norm.j0 (k + 1) y0 y1)) ∧ (∀ y0 y1 y2, LeO (spec_Norm.l0 k y0 y1 y2) (spec_Norm.l0 (k + 1) y0 y1 y2)) ∧ (∀ y0 y1 y2 y3 y4, LeO (spec_Norm.j2 k y0 y1 y2 y3 y4) (spec_Norm.j2 (k + 1) y0 y1 y2 y3 y4))
  | 0 => ⟨fun _ _ r h => by simp [spec_Norm.j0] at h, fun _ _ _ r h => by simp [spec_Norm.l0] at h, fun _ _ _ _ _ r h => by simp [spec_Norm.j2] at h⟩
  | k + 1 => by
    obtain ⟨ih0, ih1, ih2⟩ := spec_Norm.mono_l k
    refine ⟨?_, ?_, ?_⟩
    · intro y0 y1
      unfold spec_Norm.j0
      repeat' first
      | (with_reducible exact ih0 _ _)
      | (with_reducible exact ih1 _ _ _)
      | (with_reducible exact ih2 _ _ _ _ _)
      | (with_reducible exact spec_l02Plain.mono _ _)
      | (with_reducible exact LeO.refl _)
      | (with_reducible exact LeO.none _)
      | (with_reducible refine LeO.ite ?_ ?_)
      | (with_reducible refine LeO.bind ?_ (fun _ => ?_))
      | exact ih0 _ _
      | exact ih1 _ _ _
      | exact ih2 _ _ _ _ _
      | exact spec_l02Plain.mono _ _
      | exact LeO.none _
      | refine LeO.ite ?_ ?_
      | refine LeO.bind ?_ (fun _ => ?_)
    · intro y0 y1 y2
      unfold spec_Norm.l0
      repeat' first
      | (with_reducible exact ih0 _ _)
      | (with_reducible exact ih1 _ _ _)
      | (with_reducible exact ih2 _ _ _ _ _)
      | (with_reducible exact spec_l02Plain.mono _ _)
      | (with_reducible exact LeO.refl _)
      | (with_reducible exact LeO.none _)
      | (with_reducible refine LeO.ite ?_ ?_)
      | (with_reducible refine LeO.bind ?_ (fun _ => ?_))
      | exact ih0 _ _
      | exact ih1 _ _ _
      | exact ih2 _ _ _ _ _
      | exact spec_l02Plain.mono _ _
      | exact LeO.none _
      | refine LeO.ite ?_ ?_
      | refine LeO.bind ?_ (fun _ => ?_)
    · intro y0 y1 y2 y3 y4
      unfold spec_Norm.j2
      repeat' first
      | (with_reducible exact ih0 _ _)
      | (with_reducible exact ih1 _ _ _)
      | (with_reducible exact ih2 _ _ _ _ _)
      | (with_reducible exact spec_l02Plain.mono _ _)
      | (with_reducible exact LeO.refl _)
      | (with_reducible exact LeO.none _)
      | (with_reducible refine LeO.ite ?_ ?_)
      | (with_reducible refine LeO.bind ?_ (fun _ => ?_))
      | exact ih0 _ _
      | exact ih1 _ _ _
      | exact ih2 _ _ _ _ _
      | exact spec_l02Plain.mono _ _
      | exact LeO.none _
      | refine LeO.ite ?_ ?_
      | refine LeO.bind ?_ (fun _ => ?_)
theorem spec_Norm.mono : ∀ a0 k, LeO (spec_Norm.f k a0) (spec_Norm.f (k + 1) a0) := by
  intro a0 k
  obtain ⟨ih0, ih1, ih2⟩ := spec_Norm.mono_l k
  unfold spec_Norm.f
  repeat' first
      | (with_reducible exact ih0 _ _)
      | (with_reducible exact ih1 _ _ _)
      | (with_reducible exact ih2 _ _ _ _ _)
      | (with_reducible exact spec_l02Plain.mono _ _)
      | (with_reducible exact LeO.refl _)
      | (with_reducible exact LeO.none _)
      | (with_reducible refine LeO.ite ?_ ?_)
      | (with_reducible refine LeO.bind ?_ (fun _ => ?_))
      | exact ih0 _ _
      | exact ih1 _ _ _
      | exact ih2 _ _ _ _ _
      | exact spec_l02Plain.mono _ _
      | exact LeO.none _
      | refine LeO.ite ?_ ?_
      | refine LeO.bind ?_ (fun _ => ?_)
set_option maxHeartbeats 8000000 in
set_option maxRecDepth 100000 in
theorem spec_Norm.calls (k : Nat) (a0 : ByteArray) (r : ByteArray) (w : World) (h : spec_Norm.f k a0 = some r) :
    Calls Tryd.prog 124 #[.string a0] w fun e w' => e = .returned (.string r) ∧ Below w.heap.size w w' := by
  have HB := Aside0.mk (Below.refl w.heap.size w)
  have H : (if (a0.size : Int) > 100 then (spec_Norm.j0 k a0 true) else ((spec_l02Plain.f k a0).bind fun t169 => (spec_Norm.j0 k a0 (!t169)))) = some r := h
  clear h
  have HC2 := Aside0.mk H
  clear H
  go_enter Tryd.func124, Tryd.ntmps124
  go_upto_region 1 with (fail)
  go_cut [13] (fun v13 wc => ∃ (kq : Nat) (x13_1 : Bool), v13 = .bool x13_1 ∧ Aside0 (spec_Norm.j0 kq a0 x13_1 = some r) ∧ Aside0 (kq ≤ k) ∧ Aside0 (Below w.heap.size w wc))
  case first =>
    have H := HC2.out
    clear HC2
    by_cases c3 : (a0.size : Int) > 100
    · rw [if_pos c3] at H
      have c3b0 : decide (100 < (a0.size : Int)) = true := decide_eq_true c3
      have c3b1 : decide (100 < a0.size) = true := decide_eq_true (by omega)
      clear c3
      (first | rw [c3b0] | (simp only [i64_w, i32_w]; rw [c3b0]) | skip)
      have H' := Aside0.mk H
      clear H
      go_wp2
      go_meet
      case rel => exact ⟨_, (true), (by first | rfl | (simp; done) | (simp [*]; done)), H', ⟨by first | omega | exact Nat.le_refl _⟩, ⟨By⟩⟩
    · rw [if_neg c3] at H
      have c3b0 : decide (100 < (a0.size : Int)) = false := decide_eq_false c3
      have c3b1 : decide (100 < a0.size) = false := decide_eq_false (by omega)
      clear c3
      (first | rw [c3b0] | (simp only [i64_w, i32_w]; rw [c3b0]) | skip)
      replace H := Option.bind_eq_some_iff.mp H
      obtain ⟨t169, A40, H⟩ := H
      replace H : (spec_Norm.j0 k a0 (!t169)) = some r := H
      have A4 := Aside0.mk A40
      clear A40
      have H' := Aside0.mk H
      clear H
      go_wp2_with (first | (go_at_call 142; (with_reducible refine (spec_l02Plain.calls k a0 t169 _ A4.out).mono ?_); rintro e w' ⟨rfl, ⟨nd, rfl⟩⟩))
      go_meet
      case rel => exact ⟨_, (!t169), (by first | rfl | (simp; done) | (simp [*]; done)), H', ⟨by first | omega | exact Nat.le_refl _⟩, ⟨By⟩⟩
  case rest =>
    clear HC2
    try clear c1
    try clear p2
    try clear c3
    try clear c3b0
    try clear c3b1
    obtain ⟨kq, x13_1, rfl, HA, HJ1, HB⟩ := hcut
    cases kq with
    | zero => exact absurd HA.out (by simp [spec_Norm.j0])
    | succ kj1 =>
      have H := HA.out
      clear HA
      simp only [spec_Norm.j0] at H
      by_cases c5 : x13_1 = true
      · subst c5
        have H1 : (some (⟨#[]⟩ : ByteArray)) = some r := by rw [if_pos rfl] at H; exact H
        clear H
        have H := H1
        clear H1
        obtain rfl := Option.some.inj H
        go_wp2
        go_ret
        exact ⟨Rf, By⟩
      · replace c5 := Bool.eq_false_iff.mpr c5
        subst c5
        have H1 : (spec_Norm.l0 kj1 a0 (([] : List Int)) 0) = some r := by rw [if_neg (show ¬ (false = true) by decide)] at H; exact H
        clear H
        have H := H1
        clear H1
        obtain ⟨y170, hy170⟩ : ∃ y_ : List Int, y_ = (([] : List Int)) := ⟨_, rfl⟩
        replace H : (spec_Norm.l0 kj1 a0 y170 0) = some r := by first | (rw [hy170]; with_reducible exact H) | (have H2_ := (Option.bind_some _ _).symm.trans H; rw [hy170]; with_reducible exact H2_) | (have H2_ := (Option.bind_some _ _).symm.trans H; with_reducible exact H2_) | with_reducible exact H | (rw [hy170]; exact H) | exact H
        have Ny170 := Aside0.mk hy170
        clear hy170
        have H' := Aside0.mk H
        clear H
        go_wp2_with (first | ((with_reducible refine gate_dst (N := 14) rfl ?_); (try (refine gate_guard (by rfl) ?_; dsimp only)); refine Kd.R_lit (Kd.int .u8) _ 5 ?hg (N := 14) ?hd (xs := ([] : List Int)) (inner := []) (ok := fun _ => True) (okp := fun _ => True) ?hr ?hp (fun _ hk => hk) trivial (Below.refl _ _) (Nat.le_refl _) (by simp) ?_; (case hd => rfl); (case hg => rfl); (case hr => first | (go_simp; done) | (go_simp; rfl)); (case hp => exact (Reps.none _ _)); intro v171 w6 ho7 hb hg_ hnew_; clear hg_ hnew_; (first | rw [← Ny170.out] at ho7 | (simp only [Int.reduceToNat] at ho7; rw [← Ny170.out] at ho7)); have n0_ := Aside0.mk (Kd.R_lower ho7 (below_size By)); have n1_ := Aside0.mk (below_step By hb); clear HB; have HO172 := n0_; have HB := n1_; clear n0_ n1_; clear hb ho7))
        go_loopg [3, 4] kj1 (fun kq v3 v4 w' => ∃ (x3_2 : List Int) (x4_2 : Int), v4 = .int .i64 x4_2 ∧ Aside0 (spec_Norm.l0 kq a0 x3_2 x4_2 = some r) ∧ Aside0 (kq ≤ kj1) ∧ Aside0 (Kd.R (Kd.int .u8) 5 w' w.heap.size (fun _ => True) v3 x3_2) ∧ Aside0 (Below w.heap.size w w'))
        case atStart => exact ⟨(y170), (0), (by first | rfl | (simp; done) | (simp [*]; done)), H', ⟨Nat.le_refl _⟩, ⟨by (with_reducible repeat (first | apply Kd.R_alloc | apply Kd.R_drewN | apply Kd.R_drew)); exact HO172.out⟩, ⟨By⟩⟩
        case round =>
          clear H'
          try clear c1
          try clear p2
          try clear c3
          try clear c3b0
          try clear c3b1
          try clear c5
          try clear p2
          obtain ⟨x3_2, x4_2, rfl, HA, HK2, HO_3, HB⟩ := hrel
          cases gk with
          | zero => exact absurd HA.out (by simp [spec_Norm.l0])
          | succ k2 =>
            have H := HA.out
            clear HA
            simp only [spec_Norm.l0] at H
            by_cases c8 : x4_2 < (a0.size : Int)
            · rw [if_pos c8] at H
              have c8b0 : decide (x4_2 < (a0.size : Int)) = true := decide_eq_true c8
              clear c8
              by_cases c9 : 0 ≤ x4_2
              · rw [if_pos c9] at H
                have c9b0 : decide (0 ≤ x4_2) = true := decide_eq_true c9
                clear c9
                have HC11 := Aside0.mk H
                clear H
                have p10 : 0 ≤ (x4_2 : Int) := of_decide_eq_true Da
                have q10 : x4_2 < (a0.size : Int) := of_decide_eq_true Da
                have hx10 := bt_at a0 x4_2
                replace p10 := eq_true p10
                replace q10 := eq_true q10
                go_upto_region 8 with (fail)
                go_cut [29] (fun v29 wc => ∃ (kq : Nat) (x29_10 : Bool), v29 = .bool x29_10 ∧ Aside0 (spec_Norm.j2 kq a0 x3_2 x4_2 (bt a0 x4_2) x29_10 = some r) ∧ Aside0 (kq ≤ k2) ∧ Aside0 (Kd.R (Kd.int .u8) 5 wc w.heap.size (fun _ => True) u3 x3_2) ∧ Aside0 (Below w.heap.size w wc))
                case first =>
                  have H := HC11.out
                  clear HC11
                  by_cases c12 : (bt a0 x4_2) ≥ 65
                  · rw [if_pos c12] at H
                    have c12b0 : decide (65 ≤ (bt a0 x4_2)) = true := decide_eq_true c12
                    clear c12
                    (first | rw [c12b0] | (simp only [i64_w, i32_w]; rw [c12b0]) | skip)
                    have H' := Aside0.mk H
                    clear H
                    go_wp2
                    go_meet
                    case rel => exact ⟨_, (decide ((bt a0 x4_2) ≤ 90)), (by first | rfl | (simp; done) | (simp [*]; done)), H', ⟨by have := HJ1.out; have := HK2.out; first | omega | exact Nat.le_refl _⟩, ⟨by (with_reducible repeat (first | apply Kd.R_alloc | apply Kd.R_drewN | apply Kd.R_drew)); exact HO_3.out⟩, ⟨By⟩⟩
                  · rw [if_neg c12] at H
                    have c12b0 : decide (65 ≤ (bt a0 x4_2)) = false := decide_eq_false c12
                    clear c12
                    (first | rw [c12b0] | (simp only [i64_w, i32_w]; rw [c12b0]) | skip)
                    have H' := Aside0.mk H
                    clear H
                    go_wp2
                    go_meet
                    case rel => exact ⟨_, (false), (by first | rfl | (simp; done) | (simp [*]; done)), H', ⟨by have := HJ1.out; have := HK2.out; first | omega | exact Nat.le_refl _⟩, ⟨by (with_reducible repeat (first | apply Kd.R_alloc | apply Kd.R_drewN | apply Kd.R_drew)); exact HO_3.out⟩, ⟨By⟩⟩
                case rest =>
                  clear HC11
                  try clear c1
                  try clear p1
                  try clear q1
                  try clear hx1
                  try clear p2
                  try clear c3
                  try clear c3b0
                  try clear c3b1
                  try clear c5
                  try clear c8
                  try clear c8b0
                  try clear c9
                  try clear c9b0
                  try clear p10
                  try clear q10
                  try clear hx10
                  try clear c12
                  try clear c12b0
                  try clear p10
                  try clear p2
                  try clear q10
                  obtain ⟨kq, x29_10, rfl, HA, HJ10, HO_3, HB⟩ := hcut
                  cases kq with
                  | zero => exact absurd HA.out (by simp [spec_Norm.j2])
                  | succ kj10 =>
                    have H := HA.out
                    clear HA
                    simp only [spec_Norm.j2] at H
                    by_cases c13 : x29_10 = true
                    · subst c13
                      have H1 : (if (((bt a0 x4_2) + 32) % 256) = 32 then (if (x3_2.length : Int) = 0 then (spec_Norm.l0 kj10 a0 x3_2 (wrap64 (x4_2 + 1))) else (if 0 ≤ (wrap64 ((x3_2.length : Int) - 1)) then (if (wrap64 ((x3_2.length : Int) - 1)) < (x3_2.length : Int) then (if (rd x3_2 (wrap64 ((x3_2.length : Int) - 1))) = 32 then (spec_Norm.l0 kj10 a0 x3_2 (wrap64 (x4_2 + 1))) else (if x3_2.length < 140737488355328 then (spec_Norm.l0 kj10 a0 (x3_2 ++ [((bt a0 x4_2) + 32) % 256]) (wrap64 (x4_2 + 1))) else (none))) else (none)) else (none))) else (if x3_2.length < 140737488355328 then (spec_Norm.l0 kj10 a0 (x3_2 ++ [((bt a0 x4_2) + 32) % 256]) (wrap64 (x4_2 + 1))) else (none))) = some r := by rw [if_pos rfl] at H; exact H
                      clear H
                      have H := H1
                      clear H1
                      by_cases c14 : (((bt a0 x4_2) + 32) % 256) = 32
                      · rw [if_pos c14] at H
                        have c14b0 : ((((bt a0 x4_2) + 32) % 256) == 32) = true := beq_iff_eq.mpr c14
                        have c14b1 : ((((bt a0 x4_2) + 32) % 256) != 32) = false := bne_eq_false_iff_eq.mpr c14
                        clear c14
                        by_cases c15 : (x3_2.length : Int) = 0
                        · rw [if_pos c15] at H
                          have c15b0 : ((x3_2.length : Int) == 0) = true := beq_iff_eq.mpr c15
                          have c15b1 : ((x3_2.length : Int) != 0) = false := bne_eq_false_iff_eq.mpr c15
                          clear c15
                          have H' := Aside0.mk H
                          clear H
                          obtain ⟨Ao16, co16, eo16⟩ := Kd.R_slice HO_3.out
                          subst eo16
                          go_wp2
                          go_roundg kj10
                          case measure => have := HJ1.out; have := HK2.out; have := HJ10.out; omega
                          case rel => exact ⟨(x3_2), (wrap64 (x4_2 + 1)), (by first | rfl | (simp; done) | (simp [*]; done)), H', ⟨by have := HJ1.out; have := HK2.out; have := HJ10.out; omega⟩, ⟨by (with_reducible repeat (first | apply Kd.R_alloc | apply Kd.R_drewN | apply Kd.R_drew)); exact HO_3.out⟩, ⟨By⟩⟩
                        · rw [if_neg c15] at H
                          have c15b0 : ((x3_2.length : Int) == 0) = false := beq_eq_false_iff_ne.mpr c15
                          have c15b1 : ((x3_2.length : Int) != 0) = true := bne_iff_ne.mpr c15
                          have c15b2 : ¬ (x3_2 = []) := fun h_ => c15 (by rw [h_]; rfl)
                          obtain ⟨ji17, hji17⟩ : ∃ j_ : Int, (wrap64 ((x3_2.length : Int) - 1)) = j_ := ⟨_, rfl⟩
                          replace H : (if 0 ≤ (ji17) then (if (ji17) < (x3_2.length : Int) then (if (rd x3_2 (ji17)) = 32 then (spec_Norm.l0 kj10 a0 x3_2 (wrap64 (x4_2 + 1))) else (if x3_2.length < 140737488355328 then (spec_Norm.l0 kj10 a0 (x3_2 ++ [((bt a0 x4_2) + 32) % 256]) (wrap64 (x4_2 + 1))) else (none))) else (none)) else (none)) = some r := by first | (rw [hji17] at H; exact H) | (simp only [hji17] at H ⊢; exact H)
                          have hji17w : (IntKind.i64.wrap ((x3_2.length : Int) - 1)) = ji17 := (i64_w _).trans hji17
                          by_cases c18 : 0 ≤ (ji17)
                          · rw [if_pos c18] at H
                            have c18b0 : decide (0 ≤ (ji17)) = true := decide_eq_true c18
                            clear c18
                            by_cases c19 : (ji17) < (x3_2.length : Int)
                            · rw [if_pos c19] at H
                              have c19b0 : decide ((ji17) < (x3_2.length : Int)) = true := decide_eq_true c19
                              clear c19
                              by_cases c20 : (rd x3_2 (ji17)) = 32
                              · rw [if_pos c20] at H
                                have c20b0 : ((rd x3_2 (ji17)) == 32) = true := beq_iff_eq.mpr c20
                                have c20b1 : ((rd x3_2 (ji17)) != 32) = false := bne_eq_false_iff_eq.mpr c20
                                clear c20
                                have H' := Aside0.mk H
                                clear H
                                obtain ⟨Ao21, co21, eo21⟩ := Kd.R_slice HO_3.out
                                subst eo21
                                have p177 : 0 ≤ ((ji17) : Int) := of_decide_eq_true Da
                                have q177 : (ji17) < (x3_2.length : Int) := of_decide_eq_true Da
                                obtain ⟨ad177, e177, hx177_0⟩ := Kd.at_int (Kd.R_reads' HO_3.out).2.2 (ji17) p177 q177
                                cases e177
                                replace p177 := eq_true p177
                                replace q177 := eq_true q177
                                go_wp2
                                go_roundg kj10
                                case measure => have := HJ1.out; have := HK2.out; have := HJ10.out; omega
                                case rel => exact ⟨(x3_2), (wrap64 (x4_2 + 1)), (by first | rfl | (simp; done) | (simp [*]; done)), H', ⟨by have := HJ1.out; have := HK2.out; have := HJ10.out; omega⟩, ⟨by (with_reducible repeat (first | apply Kd.R_alloc | apply Kd.R_drewN | apply Kd.R_drew)); exact HO_3.out⟩, ⟨By⟩⟩
                              · rw [if_neg c20] at H
                                have c20b0 : ((rd x3_2 (ji17)) == 32) = false := beq_eq_false_iff_ne.mpr c20
                                have c20b1 : ((rd x3_2 (ji17)) != 32) = true := bne_iff_ne.mpr c20
                                by_cases c22 : x3_2.length < 140737488355328
                                · rw [if_pos c22] at H
                                  have LMc22 := Aside0.mk c22
                                  clear c22
                                  obtain ⟨y178, hy178⟩ : ∃ y_ : List Int, y_ = (x3_2 ++ [((bt a0 x4_2) + 32) % 256]) := ⟨_, rfl⟩
                                  replace H : (spec_Norm.l0 kj10 a0 y178 (wrap64 (x4_2 + 1))) = some r := by first | (rw [hy178]; with_reducible exact H) | (have H2_ := (Option.bind_some _ _).symm.trans H; rw [hy178]; with_reducible exact H2_) | (have H2_ := (Option.bind_some _ _).symm.trans H; with_reducible exact H2_) | with_reducible exact H | (rw [hy178]; exact H) | exact H
                                  have Ny178 := Aside0.mk hy178
                                  clear hy178
                                  have H' := Aside0.mk H
                                  clear H
                                  obtain ⟨Ao23, co23, eo23⟩ := Kd.R_slice HO_3.out
                                  subst eo23
                                  have p177 : 0 ≤ ((ji17) : Int) := of_decide_eq_true Da
                                  have q177 : (ji17) < (x3_2.length : Int) := of_decide_eq_true Da
                                  obtain ⟨ad177, e177, hx177_0⟩ := Kd.at_int (Kd.R_reads' HO_3.out).2.2 (ji17) p177 q177
                                  cases e177
                                  replace p177 := eq_true p177
                                  replace q177 := eq_true q177
                                  go_wp2_with (first | ((with_reducible refine gate_builtin (b := .append) (xs := #[.tmp 48, .tmp 50]) rfl ?_); (try (refine gate_guard (by rfl) ?_; dsimp only)); at_builtin; refine Kd.R_append (Kd.int .u8) (w0 := w) w.heap.size rfl (.tmp 48) (.tmp 50) 159 5 (.int .u8 0) 1 rfl Tryd.underlying159 info5 rfl (by decide) (by omega) (.slice (some ad177) x3_2.length co23) x3_2 (((bt a0 x4_2) + 32) % 256) [.int .u8 (((bt a0 x4_2) + 32) % 256)] (fun _ => True) (fun _ => False) rfl rfl ?aP (fun _ hk => hk.elim) ?aF ?aO ?aB ?aS ?aL ?_; (case aP => exact rfl); (case aB => exact By); (case aF => exact (fun _ _ => trivial)); (case aO => exact (by (with_reducible repeat (first | apply Kd.R_alloc | apply Kd.R_drewN | apply Kd.R_drew)); exact HO_3.out)); (case aS => exact (below_size By)); (case aL => have := LMc22.out; omega); intro v179 w24 ho hb hg hat; rw [← Ny178.out] at ho; have n0_ := Aside0.mk (hb); have n1_ := Aside0.mk (ho); clear HB; clear HO_3; have HB := n0_; have HO180 := n1_; clear n0_ n1_; clear ho hb hg hat))
                                  go_roundg kj10
                                  case measure => have := HJ1.out; have := HK2.out; have := HJ10.out; omega
                                  case rel => exact ⟨(y178), (wrap64 (x4_2 + 1)), (by first | rfl | (simp; done) | (simp [*]; done)), H', ⟨by have := HJ1.out; have := HK2.out; have := HJ10.out; omega⟩, ⟨by (with_reducible repeat (first | apply Kd.R_alloc | apply Kd.R_drewN | apply Kd.R_drew)); exact HO180.out⟩, ⟨By⟩⟩
                                · rw [if_neg c22] at H
                                  exact absurd H (by simp)
                            · rw [if_neg c19] at H
                              exact absurd H (by simp)
                          · rw [if_neg c18] at H
                            exact absurd H (by simp)
                      · rw [if_neg c14] at H
                        have c14b0 : ((((bt a0 x4_2) + 32) % 256) == 32) = false := beq_eq_false_iff_ne.mpr c14
                        have c14b1 : ((((bt a0 x4_2) + 32) % 256) != 32) = true := bne_iff_ne.mpr c14
                        by_cases c25 : x3_2.length < 140737488355328
                        · rw [if_pos c25] at H
                          have LMc25 := Aside0.mk c25
                          clear c25
                          obtain ⟨y181, hy181⟩ : ∃ y_ : List Int, y_ = (x3_2 ++ [((bt a0 x4_2) + 32) % 256]) := ⟨_, rfl⟩
                          replace H : (spec_Norm.l0 kj10 a0 y181 (wrap64 (x4_2 + 1))) = some r := by first | (rw [hy181]; with_reducible exact H) | (have H2_ := (Option.bind_some _ _).symm.trans H; rw [hy181]; with_reducible exact H2_) | (have H2_ := (Option.bind_some _ _).symm.trans H; with_reducible exact H2_) | with_reducible exact H | (rw [hy181]; exact H) | exact H
                          have Ny181 := Aside0.mk hy181
                          clear hy181
                          have H' := Aside0.mk H
                          clear H
                          go_wp2_with (first | ((with_reducible refine gate_builtin (b := .append) (xs := #[.tmp 48, .tmp 50]) rfl ?_); (try (refine gate_guard (by rfl) ?_; dsimp only)); at_builtin; refine Kd.R_append (Kd.int .u8) (w0 := w) w.heap.size rfl (.tmp 48) (.tmp 50) 159 5 (.int .u8 0) 1 rfl Tryd.underlying159 info5 rfl (by decide) (by omega) u3 x3_2 (((bt a0 x4_2) + 32) % 256) [.int .u8 (((bt a0 x4_2) + 32) % 256)] (fun _ => True) (fun _ => False) rfl rfl ?aP (fun _ hk => hk.elim) ?aF ?aO ?aB ?aS ?aL ?_; (case aP => exact rfl); (case aB => exact By); (case aF => exact (fun _ _ => trivial)); (case aO => exact (by (with_reducible repeat (first | apply Kd.R_alloc | apply Kd.R_drewN | apply Kd.R_drew)); exact HO_3.out)); (case aS => exact (below_size By)); (case aL => have := LMc25.out; omega); intro v182 w26 ho hb hg hat; rw [← Ny181.out] at ho; have n0_ := Aside0.mk (hb); have n1_ := Aside0.mk (ho); clear HB; clear HO_3; have HB := n0_; have HO183 := n1_; clear n0_ n1_; clear ho hb hg hat))
                          go_roundg kj10
                          case measure => have := HJ1.out; have := HK2.out; have := HJ10.out; omega
                          case rel => exact ⟨(y181), (wrap64 (x4_2 + 1)), (by first | rfl | (simp; done) | (simp [*]; done)), H', ⟨by have := HJ1.out; have := HK2.out; have := HJ10.out; omega⟩, ⟨by (with_reducible repeat (first | apply Kd.R_alloc | apply Kd.R_drewN | apply Kd.R_drew)); exact HO183.out⟩, ⟨By⟩⟩
                        · rw [if_neg c25] at H
                          exact absurd H (by simp)
                    · replace c13 := Bool.eq_false_iff.mpr c13
                      subst c13
                      have H1 : (if (bt a0 x4_2) = 32 then (if (x3_2.length : Int) = 0 then (spec_Norm.l0 kj10 a0 x3_2 (wrap64 (x4_2 + 1))) else (if 0 ≤ (wrap64 ((x3_2.length : Int) - 1)) then (if (wrap64 ((x3_2.length : Int) - 1)) < (x3_2.length : Int) then (if (rd x3_2 (wrap64 ((x3_2.length : Int) - 1))) = 32 then (spec_Norm.l0 kj10 a0 x3_2 (wrap64 (x4_2 + 1))) else (if x3_2.length < 140737488355328 then (spec_Norm.l0 kj10 a0 (x3_2 ++ [(bt a0 x4_2)]) (wrap64 (x4_2 + 1))) else (none))) else (none)) else (none))) else (if x3_2.length < 140737488355328 then (spec_Norm.l0 kj10 a0 (x3_2 ++ [(bt a0 x4_2)]) (wrap64 (x4_2 + 1))) else (none))) = some r := by rw [if_neg (show ¬ (false = true) by decide)] at H; exact H
                      clear H
                      have H := H1
                      clear H1
                      by_cases c27 : (bt a0 x4_2) = 32
                      · rw [if_pos c27] at H
                        have c27b0 : ((bt a0 x4_2) == 32) = true := beq_iff_eq.mpr c27
                        have c27b1 : ((bt a0 x4_2) != 32) = false := bne_eq_false_iff_eq.mpr c27
                        clear c27
                        by_cases c28 : (x3_2.length : Int) = 0
                        · rw [if_pos c28] at H
                          have c28b0 : ((x3_2.length : Int) == 0) = true := beq_iff_eq.mpr c28
                          have c28b1 : ((x3_2.length : Int) != 0) = false := bne_eq_false_iff_eq.mpr c28
                          clear c28
                          have H' := Aside0.mk H
                          clear H
                          obtain ⟨Ao29, co29, eo29⟩ := Kd.R_slice HO_3.out
                          subst eo29
                          go_wp2
                          go_roundg kj10
                          case measure => have := HJ1.out; have := HK2.out; have := HJ10.out; omega
                          case rel => exact ⟨(x3_2), (wrap64 (x4_2 + 1)), (by first | rfl | (simp; done) | (simp [*]; done)), H', ⟨by have := HJ1.out; have := HK2.out; have := HJ10.out; omega⟩, ⟨by (with_reducible repeat (first | apply Kd.R_alloc | apply Kd.R_drewN | apply Kd.R_drew)); exact HO_3.out⟩, ⟨By⟩⟩
                        · rw [if_neg c28] at H
                          have c28b0 : ((x3_2.length : Int) == 0) = false := beq_eq_false_iff_ne.mpr c28
                          have c28b1 : ((x3_2.length : Int) != 0) = true := bne_iff_ne.mpr c28
                          have c28b2 : ¬ (x3_2 = []) := fun h_ => c28 (by rw [h_]; rfl)
                          obtain ⟨ji30, hji30⟩ : ∃ j_ : Int, (wrap64 ((x3_2.length : Int) - 1)) = j_ := ⟨_, rfl⟩
                          replace H : (if 0 ≤ (ji30) then (if (ji30) < (x3_2.length : Int) then (if (rd x3_2 (ji30)) = 32 then (spec_Norm.l0 kj10 a0 x3_2 (wrap64 (x4_2 + 1))) else (if x3_2.length < 140737488355328 then (spec_Norm.l0 kj10 a0 (x3_2 ++ [(bt a0 x4_2)]) (wrap64 (x4_2 + 1))) else (none))) else (none)) else (none)) = some r := by first | (rw [hji30] at H; exact H) | (simp only [hji30] at H ⊢; exact H)
                          have hji30w : (IntKind.i64.wrap ((x3_2.length : Int) - 1)) = ji30 := (i64_w _).trans hji30
                          by_cases c31 : 0 ≤ (ji30)
                          · rw [if_pos c31] at H
                            have c31b0 : decide (0 ≤ (ji30)) = true := decide_eq_true c31
                            clear c31
                            by_cases c32 : (ji30) < (x3_2.length : Int)
                            · rw [if_pos c32] at H
                              have c32b0 : decide ((ji30) < (x3_2.length : Int)) = true := decide_eq_true c32
                              clear c32
                              by_cases c33 : (rd x3_2 (ji30)) = 32
                              · rw [if_pos c33] at H
                                have c33b0 : ((rd x3_2 (ji30)) == 32) = true := beq_iff_eq.mpr c33
                                have c33b1 : ((rd x3_2 (ji30)) != 32) = false := bne_eq_false_iff_eq.mpr c33
                                clear c33
                                have H' := Aside0.mk H
                                clear H
                                obtain ⟨Ao34, co34, eo34⟩ := Kd.R_slice HO_3.out
                                subst eo34
                                have p184 : 0 ≤ ((ji30) : Int) := of_decide_eq_true Da
                                have q184 : (ji30) < (x3_2.length : Int) := of_decide_eq_true Da
                                obtain ⟨ad184, e184, hx184_0⟩ := Kd.at_int (Kd.R_reads' HO_3.out).2.2 (ji30) p184 q184
                                cases e184
                                replace p184 := eq_true p184
                                replace q184 := eq_true q184
                                go_wp2
                                go_roundg kj10
                                case measure => have := HJ1.out; have := HK2.out; have := HJ10.out; omega
                                case rel => exact ⟨(x3_2), (wrap64 (x4_2 + 1)), (by first | rfl | (simp; done) | (simp [*]; done)), H', ⟨by have := HJ1.out; have := HK2.out; have := HJ10.out; omega⟩, ⟨by (with_reducible repeat (first | apply Kd.R_alloc | apply Kd.R_drewN | apply Kd.R_drew)); exact HO_3.out⟩, ⟨By⟩⟩
                              · rw [if_neg c33] at H
                                have c33b0 : ((rd x3_2 (ji30)) == 32) = false := beq_eq_false_iff_ne.mpr c33
                                have c33b1 : ((rd x3_2 (ji30)) != 32) = true := bne_iff_ne.mpr c33
                                by_cases c35 : x3_2.length < 140737488355328
                                · rw [if_pos c35] at H
                                  have LMc35 := Aside0.mk c35
                                  clear c35
                                  obtain ⟨y185, hy185⟩ : ∃ y_ : List Int, y_ = (x3_2 ++ [(bt a0 x4_2)]) := ⟨_, rfl⟩
                                  replace H : (spec_Norm.l0 kj10 a0 y185 (wrap64 (x4_2 + 1))) = some r := by first | (rw [hy185]; with_reducible exact H) | (have H2_ := (Option.bind_some _ _).symm.trans H; rw [hy185]; with_reducible exact H2_) | (have H2_ := (Option.bind_some _ _).symm.trans H; with_reducible exact H2_) | with_reducible exact H | (rw [hy185]; exact H) | exact H
                                  have Ny185 := Aside0.mk hy185
                                  clear hy185
                                  have H' := Aside0.mk H
                                  clear H
                                  obtain ⟨Ao36, co36, eo36⟩ := Kd.R_slice HO_3.out
                                  subst eo36
                                  have p184 : 0 ≤ ((ji30) : Int) := of_decide_eq_true Da
                                  have q184 : (ji30) < (x3_2.length : Int) := of_decide_eq_true Da
                                  obtain ⟨ad184, e184, hx184_0⟩ := Kd.at_int (Kd.R_reads' HO_3.out).2.2 (ji30) p184 q184
                                  cases e184
                                  replace p184 := eq_true p184
                                  replace q184 := eq_true q184
                                  go_wp2_with (first | ((with_reducible refine gate_builtin (b := .append) (xs := #[.tmp 48, .tmp 50]) rfl ?_); (try (refine gate_guard (by rfl) ?_; dsimp only)); at_builtin; refine Kd.R_append (Kd.int .u8) (w0 := w) w.heap.size rfl (.tmp 48) (.tmp 50) 159 5 (.int .u8 0) 1 rfl Tryd.underlying159 info5 rfl (by decide) (by omega) (.slice (some ad184) x3_2.length co36) x3_2 (bt a0 x4_2) [.int .u8 (bt a0 x4_2)] (fun _ => True) (fun _ => False) rfl rfl ?aP (fun _ hk => hk.elim) ?aF ?aO ?aB ?aS ?aL ?_; (case aP => exact rfl); (case aB => exact By); (case aF => exact (fun _ _ => trivial)); (case aO => exact (by (with_reducible repeat (first | apply Kd.R_alloc | apply Kd.R_drewN | apply Kd.R_drew)); exact HO_3.out)); (case aS => exact (below_size By)); (case aL => have := LMc35.out; omega); intro v186 w37 ho hb hg hat; rw [← Ny185.out] at ho; have n0_ := Aside0.mk (hb); have n1_ := Aside0.mk (ho); clear HB; clear HO_3; have HB := n0_; have HO187 := n1_; clear n0_ n1_; clear ho hb hg hat))
                                  go_roundg kj10
                                  case measure => have := HJ1.out; have := HK2.out; have := HJ10.out; omega
                                  case rel => exact ⟨(y185), (wrap64 (x4_2 + 1)), (by first | rfl | (simp; done) | (simp [*]; done)), H', ⟨by have := HJ1.out; have := HK2.out; have := HJ10.out; omega⟩, ⟨by (with_reducible repeat (first | apply Kd.R_alloc | apply Kd.R_drewN | apply Kd.R_drew)); exact HO187.out⟩, ⟨By⟩⟩
                                · rw [if_neg c35] at H
                                  exact absurd H (by simp)
                            · rw [if_neg c32] at H
                              exact absurd H (by simp)
                          · rw [if_neg c31] at H
                            exact absurd H (by simp)
                      · rw [if_neg c27] at H
                        have c27b0 : ((bt a0 x4_2) == 32) = false := beq_eq_false_iff_ne.mpr c27
                        have c27b1 : ((bt a0 x4_2) != 32) = true := bne_iff_ne.mpr c27
                        by_cases c38 : x3_2.length < 140737488355328
                        · rw [if_pos c38] at H
                          have LMc38 := Aside0.mk c38
                          clear c38
                          obtain ⟨y188, hy188⟩ : ∃ y_ : List Int, y_ = (x3_2 ++ [(bt a0 x4_2)]) := ⟨_, rfl⟩
                          replace H : (spec_Norm.l0 kj10 a0 y188 (wrap64 (x4_2 + 1))) = some r := by first | (rw [hy188]; with_reducible exact H) | (have H2_ := (Option.bind_some _ _).symm.trans H; rw [hy188]; with_reducible exact H2_) | (have H2_ := (Option.bind_some _ _).symm.trans H; with_reducible exact H2_) | with_reducible exact H | (rw [hy188]; exact H) | exact H
                          have Ny188 := Aside0.mk hy188
                          clear hy188
                          have H' := Aside0.mk H
                          clear H
                          go_wp2_with (first | ((with_reducible refine gate_builtin (b := .append) (xs := #[.tmp 48, .tmp 50]) rfl ?_); (try (refine gate_guard (by rfl) ?_; dsimp only)); at_builtin; refine Kd.R_append (Kd.int .u8) (w0 := w) w.heap.size rfl (.tmp 48) (.tmp 50) 159 5 (.int .u8 0) 1 rfl Tryd.underlying159 info5 rfl (by decide) (by omega) u3 x3_2 (bt a0 x4_2) [.int .u8 (bt a0 x4_2)] (fun _ => True) (fun _ => False) rfl rfl ?aP (fun _ hk => hk.elim) ?aF ?aO ?aB ?aS ?aL ?_; (case aP => exact rfl); (case aB => exact By); (case aF => exact (fun _ _ => trivial)); (case aO => exact (by (with_reducible repeat (first | apply Kd.R_alloc | apply Kd.R_drewN | apply Kd.R_drew)); exact HO_3.out)); (case aS => exact (below_size By)); (case aL => have := LMc38.out; omega); intro v189 w39 ho hb hg hat; rw [← Ny188.out] at ho; have n0_ := Aside0.mk (hb); have n1_ := Aside0.mk (ho); clear HB; clear HO_3; have HB := n0_; have HO190 := n1_; clear n0_ n1_; clear ho hb hg hat))
                          go_roundg kj10
                          case measure => have := HJ1.out; have := HK2.out; have := HJ10.out; omega
                          case rel => exact ⟨(y188), (wrap64 (x4_2 + 1)), (by first | rfl | (simp; done) | (simp [*]; done)), H', ⟨by have := HJ1.out; have := HK2.out; have := HJ10.out; omega⟩, ⟨by (with_reducible repeat (first | apply Kd.R_alloc | apply Kd.R_drewN | apply Kd.R_drew)); exact HO190.out⟩, ⟨By⟩⟩
                        · rw [if_neg c38] at H
                          exact absurd H (by simp)
              · rw [if_neg c9] at H
                exact absurd H (by simp)
            · rw [if_neg c8] at H
              have c8b0 : decide (x4_2 < (a0.size : Int)) = false := decide_eq_false c8
              clear c8
              by_cases c40 : (x3_2.length : Int) > 0
              · rw [if_pos c40] at H
                have c40b0 : decide (0 < (x3_2.length : Int)) = true := decide_eq_true c40
                have c40b1 : decide (0 < x3_2.length) = true := decide_eq_true (by omega)
                clear c40
                obtain ⟨ji41, hji41⟩ : ∃ j_ : Int, (wrap64 ((x3_2.length : Int) - 1)) = j_ := ⟨_, rfl⟩
                replace H : (if 0 ≤ (ji41) then (if (ji41) < (x3_2.length : Int) then (if (rd x3_2 (ji41)) = 32 then (if (ji41) ≤ (x3_2.length : Int) then (some (strOfNums (x3_2.take ((ji41) : Int).toNat))) else (none)) else (some (strOfNums x3_2))) else (none)) else (none)) = some r := by first | (rw [hji41] at H; exact H) | (simp only [hji41] at H ⊢; exact H)
                have hji41w : (IntKind.i64.wrap ((x3_2.length : Int) - 1)) = ji41 := (i64_w _).trans hji41
                by_cases c42 : 0 ≤ (ji41)
                · rw [if_pos c42] at H
                  have c42b0 : decide (0 ≤ (ji41)) = true := decide_eq_true c42
                  clear c42
                  by_cases c43 : (ji41) < (x3_2.length : Int)
                  · rw [if_pos c43] at H
                    have c43b0 : decide ((ji41) < (x3_2.length : Int)) = true := decide_eq_true c43
                    clear c43
                    by_cases c44 : (rd x3_2 (ji41)) = 32
                    · rw [if_pos c44] at H
                      have c44b0 : ((rd x3_2 (ji41)) == 32) = true := beq_iff_eq.mpr c44
                      have c44b1 : ((rd x3_2 (ji41)) != 32) = false := bne_eq_false_iff_eq.mpr c44
                      clear c44
                      by_cases c45 : (ji41) ≤ (x3_2.length : Int)
                      · rw [if_pos c45] at H
                        have c45b0 := eq_true c45
                        have c45b1 : decide ((ji41) ≤ (x3_2.length : Int)) = true := decide_eq_true c45
                        clear c45
                        obtain ⟨y174, hy174⟩ : ∃ y_ : List Int, y_ = (x3_2.take ((ji41) : Int).toNat) := ⟨_, rfl⟩
                        replace H : (some (strOfNums y174)) = some r := by first | (rw [hy174]; with_reducible exact H) | (have H2_ := (Option.bind_some _ _).symm.trans H; rw [hy174]; with_reducible exact H2_) | (have H2_ := (Option.bind_some _ _).symm.trans H; with_reducible exact H2_) | with_reducible exact H | (rw [hy174]; exact H) | exact H
                        have Ny174 := Aside0.mk hy174
                        clear hy174
                        obtain rfl := Option.some.inj H
                        obtain ⟨Ao46, co46, eo46⟩ := Kd.R_slice HO_3.out
                        subst eo46
                        have p173 : 0 ≤ ((ji41) : Int) := of_decide_eq_true Da
                        have q173 : (ji41) < (x3_2.length : Int) := of_decide_eq_true Da
                        obtain ⟨ad173, e173, hx173_0⟩ := Kd.at_int (Kd.R_reads' HO_3.out).2.2 (ji41) p173 q173
                        cases e173
                        replace p173 := eq_true p173
                        replace q173 := eq_true q173
                        have q47 : ((ji41) : Int) ≤ ((x3_2.length : Int) : Int) := of_decide_eq_true Da
                        obtain ⟨i047, hi047, _, hsz47, _⟩ := info_parts info5
                        have hcut47 := cut_to (P := Tryd.prog) 159 5 .i64 Tryd.underlying159 hi047 (some ad173) x3_2.length co46 (ji41) (of_decide_eq_true Da) q47 (Kd.R_reads' HO_3.out).2.1
                        have hr47 := Kd.R_take (m := ((ji41) : Int).toNat) HO_3.out (by omega)
                        have hy47 : y174.length = ((ji41) : Int).toNat := (by rw [Ny174.out, List.length_take]; omega)
                        rw [← Ny174.out] at hr47
                        rw [← hy47] at hr47 hcut47
                        clear hy47 hi047 hsz47 HO_3
                        have HO176 := Aside0.mk hr47
                        clear hr47
                        replace q47 := eq_true q47
                        have hcv48 := own_string (P := Tryd.prog) Tryd.underlying159 Tryd.underlying5 Tryd.underlying9 (Kd.own_of_R HO176.out)
                        go_wp2
                        go_ret
                        exact ⟨by first | rfl | (simp [errW_none, errW_some] <;> rfl) | (simp only [← hji41]; first | rfl | (simp [errW_none, errW_some] <;> rfl)) | (simp [*, errW_none, errW_some] <;> first | rfl | (rw [Bool.eq_iff_iff]; simp)), By⟩
                      · rw [if_neg c45] at H
                        exact absurd H (by simp)
                    · rw [if_neg c44] at H
                      have c44b0 : ((rd x3_2 (ji41)) == 32) = false := beq_eq_false_iff_ne.mpr c44
                      have c44b1 : ((rd x3_2 (ji41)) != 32) = true := bne_iff_ne.mpr c44
                      obtain rfl := Option.some.inj H
                      obtain ⟨Ao49, co49, eo49⟩ := Kd.R_slice HO_3.out
                      subst eo49
                      have p173 : 0 ≤ ((ji41) : Int) := of_decide_eq_true Da
                      have q173 : (ji41) < (x3_2.length : Int) := of_decide_eq_true Da
                      obtain ⟨ad173, e173, hx173_0⟩ := Kd.at_int (Kd.R_reads' HO_3.out).2.2 (ji41) p173 q173
                      cases e173
                      replace p173 := eq_true p173
                      replace q173 := eq_true q173
                      have hcv50 := own_string (P := Tryd.prog) Tryd.underlying159 Tryd.underlying5 Tryd.underlying9 (Kd.own_of_R HO_3.out)
                      go_wp2
                      go_ret
                      exact ⟨by first | rfl | (simp [errW_none, errW_some] <;> rfl) | (simp only [← hji41]; first | rfl | (simp [errW_none, errW_some] <;> rfl)) | (simp [*, errW_none, errW_some] <;> first | rfl | (rw [Bool.eq_iff_iff]; simp)), By⟩
                  · rw [if_neg c43] at H
                    exact absurd H (by simp)
                · rw [if_neg c42] at H
                  exact absurd H (by simp)
              · rw [if_neg c40] at H
                have c40b0 : decide (0 < (x3_2.length : Int)) = false := decide_eq_false c40
                have c40b1 : decide (0 < x3_2.length) = false := decide_eq_false (by omega)
                clear c40
                obtain rfl := Option.some.inj H
                obtain ⟨Ao51, co51, eo51⟩ := Kd.R_slice HO_3.out
                subst eo51
                have hcv52 := own_string (P := Tryd.prog) Tryd.underlying159 Tryd.underlying5 Tryd.underlying9 (Kd.own_of_R HO_3.out)
                go_wp2
                go_ret
                exact ⟨Rf, By⟩

end Go.Proofs.YtpocoeghobdfiaaDoor.PG

-- WRITTEN BY A PROGRAM OF THIS SESSION (wip/gen/gen.py), by way of the kit's print program. Lean checks it.
namespace Go.Proofs.YtpocoeghobdfiaaDoor.PG
open Go.Proofs.YtpocoeghobdfiaaDoor.Sq Go.RowKit Go.Proofs.YtpocoeghobdfiaaDoorW.PrintWords Go.Proofs.YtpocoeghobdfiaaDoorW.PrintLast Go.Proofs.YtpocoeghobdfiaaDoorW.PrintMore
attribute [local go_sem] max2_int min2_int max_two min_two max_three min_three max_four min_four   -- for this text's walks alone
set_option linter.unusedVariables false
set_option linter.unusedSimpArgs false

/-! ### spec_l02Value: function 154 -/
def spec_l02Value.f (k : Nat) (a0 : ByteArray) : Option (Bool) := if (a0.size : Int) ≥ 1 then (if (a0.size : Int) ≤ 40 then ((spec_Norm.f k a0).bind fun t191 => (some (t191.toList != ([] : List UInt8)))) else (some false)) else (some false)
theorem spec_l02Value.mono : ∀ a0 k, LeO (spec_l02Value.f k a0) (spec_l02Value.f (k + 1) a0) := by
  intro a0 k
  unfold spec_l02Value.f
  repeat' first
      | (with_reducible exact spec_Norm.mono _ _)
      | (with_reducible exact LeO.refl _)
      | (with_reducible exact LeO.none _)
      | (with_reducible refine LeO.ite ?_ ?_)
      | (with_reducible refine LeO.bind ?_ (fun _ => ?_))
      | exact spec_Norm.mono _ _
      | exact LeO.none _
      | refine LeO.ite ?_ ?_
      | refine LeO.bind ?_ (fun _ => ?_)
set_option maxHeartbeats 8000000 in
set_option maxRecDepth 100000 in
theorem spec_l02Value.calls (k : Nat) (a0 : ByteArray) (r : Bool) (w : World) (h : spec_l02Value.f k a0 = some r) :
    Calls Tryd.prog 154 #[.string a0] w fun e w' => e = .returned (.bool r) ∧ Below w.heap.size w w' := by
  have HB := Aside0.mk (Below.refl w.heap.size w)
  have H : (if (a0.size : Int) ≥ 1 then (if (a0.size : Int) ≤ 40 then ((spec_Norm.f k a0).bind fun t191 => (some (t191.toList != ([] : List UInt8)))) else (some false)) else (some false)) = some r := h
  clear h
  by_cases c2 : (a0.size : Int) ≥ 1
  · rw [if_pos c2] at H
    have c2b0 : decide (1 ≤ (a0.size : Int)) = true := decide_eq_true c2
    have c2b1 : decide (1 ≤ a0.size) = true := decide_eq_true (by omega)
    clear c2
    by_cases c3 : (a0.size : Int) ≤ 40
    · rw [if_pos c3] at H
      have c3b0 : decide ((a0.size : Int) ≤ 40) = true := decide_eq_true c3
      have c3b1 : decide (a0.size ≤ 40) = true := decide_eq_true (by omega)
      clear c3
      replace H := Option.bind_eq_some_iff.mp H
      obtain ⟨t191, A40, H⟩ := H
      replace H : (some (t191.toList != ([] : List UInt8))) = some r := H
      have A4 := Aside0.mk A40
      clear A40
      obtain rfl := Option.some.inj H
      go_enter Tryd.func154, Tryd.ntmps154
      go_wp2_with (first | (go_at_call 124; (with_reducible refine (spec_Norm.calls k a0 t191 _ A4.out).mono ?_); rintro e w5 ⟨rfl, hb⟩; have n0_ := Aside0.mk (below_step By hb); clear HB; have HB := n0_; clear n0_; (try clear hb); (try clear hb2); (try clear hk); (try clear hi)))
      go_ret
      exact ⟨Rf, By⟩
    · rw [if_neg c3] at H
      have c3b0 : decide ((a0.size : Int) ≤ 40) = false := decide_eq_false c3
      have c3b1 : decide (a0.size ≤ 40) = false := decide_eq_false (by omega)
      clear c3
      obtain rfl := Option.some.inj H
      go_enter Tryd.func154, Tryd.ntmps154
      go_wp2
      go_ret
      exact ⟨Rf, By⟩
  · rw [if_neg c2] at H
    have c2b0 : decide (1 ≤ (a0.size : Int)) = false := decide_eq_false c2
    have c2b1 : decide (1 ≤ a0.size) = false := decide_eq_false (by omega)
    clear c2
    obtain rfl := Option.some.inj H
    go_enter Tryd.func154, Tryd.ntmps154
    go_wp2
    go_ret
    exact ⟨Rf, By⟩

end Go.Proofs.YtpocoeghobdfiaaDoor.PG

-- WRITTEN BY A PROGRAM OF THIS SESSION (wip/gen/gen.py), by way of the kit's print program. Lean checks it.
namespace Go.Proofs.YtpocoeghobdfiaaDoor.PG
open Go.Proofs.YtpocoeghobdfiaaDoor.Sq Go.RowKit Go.Proofs.YtpocoeghobdfiaaDoorW.PrintWords Go.Proofs.YtpocoeghobdfiaaDoorW.PrintLast Go.Proofs.YtpocoeghobdfiaaDoorW.PrintMore
attribute [local go_sem] max2_int min2_int max_two min_two max_three min_three max_four min_four   -- for this text's walks alone
set_option linter.unusedVariables false
set_option linter.unusedSimpArgs false

/-! ### spec_DnRight: function 122 -/
def spec_DnRight.l0 : Nat → List (S153) → Int → Option (Bool)
  | 0, _, _ => none
  | k + 1, x0, x3 => if x3 < (x0.length : Int) then (if 0 ≤ x3 then ((spec_NameRight.f k ((rd_T153 x0 x3).f0)).bind fun t340 => (if t340 = true then ((spec_l02Value.f k ((rd_T153 x0 x3).f1)).bind fun t342 => (if t342 = true then (spec_DnRight.l0 k x0 (wrap64 (x3 + 1))) else (some false))) else (some false))) else (none)) else (some (decide ((x0.length : Int) ≤ 6)))
def spec_DnRight.f (k : Nat) (l0 : List (S153)) : Option (Bool) := spec_DnRight.l0 k l0 0
theorem spec_DnRight.mono_l : ∀ k, (∀ y0 y1, LeO (spec_DnRight.l0 k y0 y1) (spec_DnRight.l0 (k + 1) y0 y1))
  | 0 => fun _ _ r h => by simp [spec_DnRight.l0] at h
  | k + 1 => by
    have ih0 := spec_DnRight.mono_l k
    · intro y0 y1
      unfold spec_DnRight.l0
      repeat' first
      | (with_reducible exact ih0 _ _)
      | (with_reducible exact spec_NameRight.mono _ _)
      | (with_reducible exact spec_l02Value.mono _ _)
      | (with_reducible exact LeO.refl _)
      | (with_reducible exact LeO.none _)
      | (with_reducible refine LeO.ite ?_ ?_)
      | (with_reducible refine LeO.bind ?_ (fun _ => ?_))
      | exact ih0 _ _
      | exact spec_NameRight.mono _ _
      | exact spec_l02Value.mono _ _
      | exact LeO.none _
      | refine LeO.ite ?_ ?_
      | refine LeO.bind ?_ (fun _ => ?_)
theorem spec_DnRight.mono : ∀ a0 k, LeO (spec_DnRight.f k a0) (spec_DnRight.f (k + 1) a0) := by
  intro a0 k
  have ih0 := spec_DnRight.mono_l k
  unfold spec_DnRight.f
  repeat' first
      | (with_reducible exact ih0 _ _)
      | (with_reducible exact spec_NameRight.mono _ _)
      | (with_reducible exact spec_l02Value.mono _ _)
      | (with_reducible exact LeO.refl _)
      | (with_reducible exact LeO.none _)
      | (with_reducible refine LeO.ite ?_ ?_)
      | (with_reducible refine LeO.bind ?_ (fun _ => ?_))
      | exact ih0 _ _
      | exact spec_NameRight.mono _ _
      | exact spec_l02Value.mono _ _
      | exact LeO.none _
      | refine LeO.ite ?_ ?_
      | refine LeO.bind ?_ (fun _ => ?_)
set_option maxHeartbeats 8000000 in
set_option maxRecDepth 100000 in
theorem spec_DnRight.calls (k : Nat) (A0 : Option Addr) (c0 : Nat) (l0 : List (S153)) (r : Bool) (w : World) (hr0 : Kd.C k153 w A0 l0.length l0) (hc0 : l0.length ≤ c0) (h : spec_DnRight.f k l0 = some r) :
    Calls Tryd.prog 122 #[.slice A0 l0.length c0] w fun e w' => e = .returned (.bool r) ∧ Below w.heap.size w w' := by
  have HR0 := Aside0.mk hr0
  have HC0 := Aside0.mk hc0
  clear hr0 hc0
  have HB := Aside0.mk (Below.refl w.heap.size w)
  have H : (spec_DnRight.l0 k l0 0) = some r := h
  clear h
  have H' := Aside0.mk H
  clear H
  go_enter Tryd.func122, Tryd.ntmps122
  go_wp2
  go_loopg [3] k (fun kq v3 w' => ∃ (x3_1 : Int), v3 = .int .i64 x3_1 ∧ Aside0 (spec_DnRight.l0 kq l0 x3_1 = some r) ∧ Aside0 (kq ≤ k) ∧ Aside0 (Below w.heap.size w w'))
  case atStart => exact ⟨(0), (by first | rfl | (simp; done) | (simp [*]; done)), H', ⟨Nat.le_refl _⟩, ⟨By⟩⟩
  case round =>
    clear H'
    try clear c1
    obtain ⟨x3_1, rfl, HA, HK1, HB⟩ := hrel
    cases gk with
    | zero => exact absurd HA.out (by simp [spec_DnRight.l0])
    | succ k1 =>
      have H := HA.out
      clear HA
      simp only [spec_DnRight.l0] at H
      by_cases c2 : x3_1 < (l0.length : Int)
      · rw [if_pos c2] at H
        have c2b0 : decide (x3_1 < (l0.length : Int)) = true := decide_eq_true c2
        clear c2
        by_cases c3 : 0 ≤ x3_1
        · rw [if_pos c3] at H
          have c3b0 : decide (0 ≤ x3_1) = true := decide_eq_true c3
          clear c3
          replace H := Option.bind_eq_some_iff.mp H
          obtain ⟨t340, A40, H⟩ := H
          replace H : (if t340 = true then ((spec_l02Value.f k1 ((rd_T153 l0 x3_1).f1)).bind fun t342 => (if t342 = true then (spec_DnRight.l0 k1 l0 (wrap64 (x3_1 + 1))) else (some false))) else (some false)) = some r := H
          have A4 := Aside0.mk A40
          clear A40
          by_cases c5 : t340 = true
          · subst c5
            have H1 : ((spec_l02Value.f k1 ((rd_T153 l0 x3_1).f1)).bind fun t342 => (if t342 = true then (spec_DnRight.l0 k1 l0 (wrap64 (x3_1 + 1))) else (some false))) = some r := by rw [if_pos rfl] at H; exact H
            clear H
            have H := H1
            clear H1
            replace H := Option.bind_eq_some_iff.mp H
            obtain ⟨t342, A60, H⟩ := H
            replace H : (if t342 = true then (spec_DnRight.l0 k1 l0 (wrap64 (x3_1 + 1))) else (some false)) = some r := H
            have A6 := Aside0.mk A60
            clear A60
            by_cases c7 : t342 = true
            · subst c7
              have H1 : (spec_DnRight.l0 k1 l0 (wrap64 (x3_1 + 1))) = some r := by rw [if_pos rfl] at H; exact H
              clear H
              have H := H1
              clear H1
              have H' := Aside0.mk H
              clear H
              have p339 : 0 ≤ (x3_1 : Int) := of_decide_eq_true Da
              have q339 : x3_1 < (l0.length : Int) := of_decide_eq_true Da
              obtain ⟨ad339, e339, hx339_0, hx339_1⟩ := at_T153 HR0.out x3_1 p339 q339
              cases e339
              replace hx339_0 := bz HB.out hx339_0
              replace hx339_1 := bz HB.out hx339_1
              replace p339 := eq_true p339
              replace q339 := eq_true q339
              go_wp2_with (first | ((with_reducible refine gate_callee (f := 143) rfl ?_); refine goesL_ (some 15) rfl rfl Tryd.func143 (by kernel_rfl) rfl #[.string ((rd_T153 l0 x3_1).f0)] rfl Ag ?_; (with_reducible refine (spec_NameRight.calls k1 ((rd_T153 l0 x3_1).f0) true _ A4.out).mono ?_); rintro e w' ⟨rfl, ⟨nd, rfl⟩⟩; refine ⟨_, rfl, ?_⟩; have p341 : 0 ≤ (x3_1 : Int) := of_decide_eq_true Da; have q341 : x3_1 < (l0.length : Int) := of_decide_eq_true Da; obtain ⟨ad341, e341, hx341_0, hx341_1⟩ := at_T153 HR0.out x3_1 p341 q341; obtain rfl : ad339 = ad341 := (by injection e341); replace hx341_0 := bz HB.out hx341_0; replace hx341_1 := bz HB.out hx341_1; replace p341 := eq_true p341; replace q341 := eq_true q341) | (go_at_call 154; (with_reducible refine (spec_l02Value.calls k1 ((rd_T153 l0 x3_1).f1) true _ A6.out).mono ?_); rintro e w8 ⟨rfl, hb⟩; have n0_ := Aside0.mk (below_step By hb); clear HB; have HB := n0_; clear n0_; (try clear hb); (try clear hb2); (try clear hk); (try clear hi)))
              go_roundg k1
              case measure => have := HK1.out; omega
              case rel => exact ⟨(wrap64 (x3_1 + 1)), (by first | rfl | (simp; done) | (simp [*]; done)), H', ⟨by have := HK1.out; omega⟩, ⟨By⟩⟩
            · replace c7 := Bool.eq_false_iff.mpr c7
              subst c7
              have H1 : (some false) = some r := by rw [if_neg (show ¬ (false = true) by decide)] at H; exact H
              clear H
              have H := H1
              clear H1
              obtain rfl := Option.some.inj H
              have p339 : 0 ≤ (x3_1 : Int) := of_decide_eq_true Da
              have q339 : x3_1 < (l0.length : Int) := of_decide_eq_true Da
              obtain ⟨ad339, e339, hx339_0, hx339_1⟩ := at_T153 HR0.out x3_1 p339 q339
              cases e339
              replace hx339_0 := bz HB.out hx339_0
              replace hx339_1 := bz HB.out hx339_1
              replace p339 := eq_true p339
              replace q339 := eq_true q339
              go_wp2_with (first | ((with_reducible refine gate_callee (f := 143) rfl ?_); refine goesL_ (some 15) rfl rfl Tryd.func143 (by kernel_rfl) rfl #[.string ((rd_T153 l0 x3_1).f0)] rfl Ag ?_; (with_reducible refine (spec_NameRight.calls k1 ((rd_T153 l0 x3_1).f0) true _ A4.out).mono ?_); rintro e w' ⟨rfl, ⟨nd, rfl⟩⟩; refine ⟨_, rfl, ?_⟩; have p341 : 0 ≤ (x3_1 : Int) := of_decide_eq_true Da; have q341 : x3_1 < (l0.length : Int) := of_decide_eq_true Da; obtain ⟨ad341, e341, hx341_0, hx341_1⟩ := at_T153 HR0.out x3_1 p341 q341; obtain rfl : ad339 = ad341 := (by injection e341); replace hx341_0 := bz HB.out hx341_0; replace hx341_1 := bz HB.out hx341_1; replace p341 := eq_true p341; replace q341 := eq_true q341) | (go_at_call 154; (with_reducible refine (spec_l02Value.calls k1 ((rd_T153 l0 x3_1).f1) false _ A6.out).mono ?_); rintro e w9 ⟨rfl, hb⟩; have n0_ := Aside0.mk (below_step By hb); clear HB; have HB := n0_; clear n0_; (try clear hb); (try clear hb2); (try clear hk); (try clear hi)))
              go_ret
              exact ⟨Rf, By⟩
          · replace c5 := Bool.eq_false_iff.mpr c5
            subst c5
            have H1 : (some false) = some r := by rw [if_neg (show ¬ (false = true) by decide)] at H; exact H
            clear H
            have H := H1
            clear H1
            obtain rfl := Option.some.inj H
            have p339 : 0 ≤ (x3_1 : Int) := of_decide_eq_true Da
            have q339 : x3_1 < (l0.length : Int) := of_decide_eq_true Da
            obtain ⟨ad339, e339, hx339_0, hx339_1⟩ := at_T153 HR0.out x3_1 p339 q339
            cases e339
            replace hx339_0 := bz HB.out hx339_0
            replace hx339_1 := bz HB.out hx339_1
            replace p339 := eq_true p339
            replace q339 := eq_true q339
            go_wp2_with (first | ((with_reducible refine gate_callee (f := 143) rfl ?_); refine goesL_ (some 15) rfl rfl Tryd.func143 (by kernel_rfl) rfl #[.string ((rd_T153 l0 x3_1).f0)] rfl Ag ?_; (with_reducible refine (spec_NameRight.calls k1 ((rd_T153 l0 x3_1).f0) false _ A4.out).mono ?_); rintro e w' ⟨rfl, ⟨nd, rfl⟩⟩; refine ⟨_, rfl, ?_⟩))
            go_ret
            exact ⟨Rf, By⟩
        · rw [if_neg c3] at H
          exact absurd H (by simp)
      · rw [if_neg c2] at H
        have c2b0 : decide (x3_1 < (l0.length : Int)) = false := decide_eq_false c2
        clear c2
        obtain rfl := Option.some.inj H
        go_wp2
        go_ret
        exact ⟨Rf, By⟩

end Go.Proofs.YtpocoeghobdfiaaDoor.PG

-- WRITTEN BY A PROGRAM OF THIS SESSION (wip/gen/gen.py), by way of the kit's print program. Lean checks it.
namespace Go.Proofs.YtpocoeghobdfiaaDoor.PG
open Go.Proofs.YtpocoeghobdfiaaDoor.Sq Go.RowKit Go.Proofs.YtpocoeghobdfiaaDoorW.PrintWords Go.Proofs.YtpocoeghobdfiaaDoorW.PrintLast Go.Proofs.YtpocoeghobdfiaaDoorW.PrintMore
attribute [local go_sem] max2_int min2_int max_two min_two max_three min_three max_four min_four   -- for this text's walks alone
set_option linter.unusedVariables false
set_option linter.unusedSimpArgs false

/-! ### spec_l03Values: function 155 -/
def spec_l03Values.l0 : Nat → List ByteArray → Int → Option (Bool)
  | 0, _, _ => none
  | k + 1, x0, x3 => if x3 < (x0.length : Int) then (if 0 ≤ x3 then ((spec_l02Value.f k (rdOf ByteArray.empty x0 x3)).bind fun t344 => (if t344 = true then (if x3 > 0 then (if 0 ≤ (wrap64 (x3 - 1)) then (if (wrap64 (x3 - 1)) < (x0.length : Int) then ((spec_Norm.f k (rdOf ByteArray.empty x0 (wrap64 (x3 - 1)))).bind fun t346 => ((spec_Norm.f k (rdOf ByteArray.empty x0 x3)).bind fun t348 => (if ((Op.bytesLess t346.toList t348.toList) = true) then (spec_l03Values.l0 k x0 (wrap64 (x3 + 1))) else (some false)))) else (none)) else (none)) else (spec_l03Values.l0 k x0 (wrap64 (x3 + 1)))) else (some false))) else (none)) else (if (x0.length : Int) ≥ 1 then (some (decide ((x0.length : Int) ≤ 4))) else (some false))
def spec_l03Values.f (k : Nat) (l0 : List ByteArray) : Option (Bool) := spec_l03Values.l0 k l0 0
theorem spec_l03Values.mono_l : ∀ k, (∀ y0 y1, LeO (spec_l03Values.l0 k y0 y1) (spec_l03Values.l0 (k + 1) y0 y1))
  | 0 => fun _ _ r h => by simp [spec_l03Values.l0] at h
  | k + 1 => by
    have ih0 := spec_l03Values.mono_l k
    · intro y0 y1
      unfold spec_l03Values.l0
      repeat' first
      | (with_reducible exact ih0 _ _)
      | (with_reducible exact spec_Norm.mono _ _)
      | (with_reducible exact spec_l02Value.mono _ _)
      | (with_reducible exact LeO.refl _)
      | (with_reducible exact LeO.none _)
      | (with_reducible refine LeO.ite ?_ ?_)
      | (with_reducible refine LeO.bind ?_ (fun _ => ?_))
      | exact ih0 _ _
      | exact spec_Norm.mono _ _
      | exact spec_l02Value.mono _ _
      | exact LeO.none _
      | refine LeO.ite ?_ ?_
      | refine LeO.bind ?_ (fun _ => ?_)
theorem spec_l03Values.mono : ∀ a0 k, LeO (spec_l03Values.f k a0) (spec_l03Values.f (k + 1) a0) := by
  intro a0 k
  have ih0 := spec_l03Values.mono_l k
  unfold spec_l03Values.f
  repeat' first
      | (with_reducible exact ih0 _ _)
      | (with_reducible exact spec_Norm.mono _ _)
      | (with_reducible exact spec_l02Value.mono _ _)
      | (with_reducible exact LeO.refl _)
      | (with_reducible exact LeO.none _)
      | (with_reducible refine LeO.ite ?_ ?_)
      | (with_reducible refine LeO.bind ?_ (fun _ => ?_))
      | exact ih0 _ _
      | exact spec_Norm.mono _ _
      | exact spec_l02Value.mono _ _
      | exact LeO.none _
      | refine LeO.ite ?_ ?_
      | refine LeO.bind ?_ (fun _ => ?_)
def spec_l03Values.T4 : Bool × List (List Nat × List Nat) := (true, [([], []), ([], []), ([0, 1], [0, 1]), ([2], [2]), ([3], [3]), ([4], [4]), ([5, 4], [5]), ([6], [6]), ([7, 6], [6, 7]), ([8, 6, 6], [6, 8]), ([9], [9]), ([9], [9]), ([11, 9], [9, 11]), ([10, 12, 9], [9, 10, 12]), ([13, 9], [9, 13]), ([14, 9, 9], [9, 14]), ([9], [9]), ([9], [9]), ([16, 17, 9], [9, 16, 17]), ([18, 9], [9, 18]), ([19, 15, 9], [9, 19]), ([15, 20, 9], [9, 15, 20]), ([9, 21, 6], [6, 9, 21]), ([6, 22], [6, 22])])
def spec_l03Values.B4 : List Nat := [0, 0, 3, 7, 15, 31, 63, 127, 255, 511, 1023, 1023, 3071, 8191, 16383, 32767, 1023, 1023, 197631, 459775, 1048575, 2097151, 4194303, 8388607]
theorem spec_l03Values.tab4 : rtab .any (opsOf Tryd.f155 4) = spec_l03Values.T4 := by kernel_rfl
theorem spec_l03Values.bits4 : waitsOk spec_l03Values.T4.2 spec_l03Values.B4 = true := by kernel_rfl
set_option maxHeartbeats 8000000 in
set_option maxRecDepth 100000 in
theorem spec_l03Values.calls (k : Nat) (A0 : Option Addr) (c0 : Nat) (l0 : List ByteArray) (r : Bool) (w : World) (hr0 : Kd.C Kd.string w A0 l0.length l0) (hc0 : l0.length ≤ c0) (h : spec_l03Values.f k l0 = some r) :
    Calls Tryd.prog 155 #[.slice A0 l0.length c0] w fun e w' => e = .returned (.bool r) ∧ Below w.heap.size w w' := by
  have HR0 := Aside0.mk hr0
  have HC0 := Aside0.mk hc0
  clear hr0 hc0
  have HB := Aside0.mk (Below.refl w.heap.size w)
  have H : (spec_l03Values.l0 k l0 0) = some r := h
  clear h
  have H' := Aside0.mk H
  clear H
  go_enter Tryd.func155, Tryd.ntmps155
  go_wp2
  go_loopg [3] k (fun kq v3 w' => ∃ (x3_1 : Int), v3 = .int .i64 x3_1 ∧ Aside0 (spec_l03Values.l0 kq l0 x3_1 = some r) ∧ Aside0 (kq ≤ k) ∧ Aside0 (Below w.heap.size w w'))
  case atStart => exact ⟨(0), (by first | rfl | (simp; done) | (simp [*]; done)), H', ⟨Nat.le_refl _⟩, ⟨By⟩⟩
  case round =>
    clear H'
    try clear c1
    obtain ⟨x3_1, rfl, HA, HK1, HB⟩ := hrel
    cases gk with
    | zero => exact absurd HA.out (by simp [spec_l03Values.l0])
    | succ k1 =>
      have H := HA.out
      clear HA
      simp only [spec_l03Values.l0] at H
      by_cases c2 : x3_1 < (l0.length : Int)
      · rw [if_pos c2] at H
        have c2b0 : decide (x3_1 < (l0.length : Int)) = true := decide_eq_true c2
        clear c2
        by_cases c3 : 0 ≤ x3_1
        · rw [if_pos c3] at H
          have c3b0 : decide (0 ≤ x3_1) = true := decide_eq_true c3
          clear c3
          replace H := Option.bind_eq_some_iff.mp H
          obtain ⟨t344, A40, H⟩ := H
          replace H : (if t344 = true then (if x3_1 > 0 then (if 0 ≤ (wrap64 (x3_1 - 1)) then (if (wrap64 (x3_1 - 1)) < (l0.length : Int) then ((spec_Norm.f k1 (rdOf ByteArray.empty l0 (wrap64 (x3_1 - 1)))).bind fun t346 => ((spec_Norm.f k1 (rdOf ByteArray.empty l0 x3_1)).bind fun t348 => (if ((Op.bytesLess t346.toList t348.toList) = true) then (spec_l03Values.l0 k1 l0 (wrap64 (x3_1 + 1))) else (some false)))) else (none)) else (none)) else (spec_l03Values.l0 k1 l0 (wrap64 (x3_1 + 1)))) else (some false)) = some r := H
          have A4 := Aside0.mk A40
          clear A40
          by_cases c5 : t344 = true
          · subst c5
            have H1 : (if x3_1 > 0 then (if 0 ≤ (wrap64 (x3_1 - 1)) then (if (wrap64 (x3_1 - 1)) < (l0.length : Int) then ((spec_Norm.f k1 (rdOf ByteArray.empty l0 (wrap64 (x3_1 - 1)))).bind fun t346 => ((spec_Norm.f k1 (rdOf ByteArray.empty l0 x3_1)).bind fun t348 => (if ((Op.bytesLess t346.toList t348.toList) = true) then (spec_l03Values.l0 k1 l0 (wrap64 (x3_1 + 1))) else (some false)))) else (none)) else (none)) else (spec_l03Values.l0 k1 l0 (wrap64 (x3_1 + 1)))) = some r := by rw [if_pos rfl] at H; exact H
            clear H
            have H := H1
            clear H1
            by_cases c6 : x3_1 > 0
            · rw [if_pos c6] at H
              have c6b0 : decide (0 < x3_1) = true := decide_eq_true c6
              clear c6
              obtain ⟨ji7, hji7⟩ : ∃ j_ : Int, (wrap64 (x3_1 - 1)) = j_ := ⟨_, rfl⟩
              replace H : (if 0 ≤ (ji7) then (if (ji7) < (l0.length : Int) then ((spec_Norm.f k1 (rdOf ByteArray.empty l0 (ji7))).bind fun t346 => ((spec_Norm.f k1 (rdOf ByteArray.empty l0 x3_1)).bind fun t348 => (if ((Op.bytesLess t346.toList t348.toList) = true) then (spec_l03Values.l0 k1 l0 (wrap64 (x3_1 + 1))) else (some false)))) else (none)) else (none)) = some r := by first | (rw [hji7] at H; exact H) | (simp only [hji7] at H ⊢; exact H)
              (try rw [hji7] at A4)
              have hji7w : (IntKind.i64.wrap (x3_1 - 1)) = ji7 := (i64_w _).trans hji7
              by_cases c8 : 0 ≤ (ji7)
              · rw [if_pos c8] at H
                have c8b0 : decide (0 ≤ (ji7)) = true := decide_eq_true c8
                clear c8
                by_cases c9 : (ji7) < (l0.length : Int)
                · rw [if_pos c9] at H
                  have c9b0 : decide ((ji7) < (l0.length : Int)) = true := decide_eq_true c9
                  clear c9
                  replace H := Option.bind_eq_some_iff.mp H
                  obtain ⟨t346, A100, H⟩ := H
                  replace H : ((spec_Norm.f k1 (rdOf ByteArray.empty l0 x3_1)).bind fun t348 => (if ((Op.bytesLess t346.toList t348.toList) = true) then (spec_l03Values.l0 k1 l0 (wrap64 (x3_1 + 1))) else (some false))) = some r := H
                  have A10 := Aside0.mk A100
                  clear A100
                  replace H := Option.bind_eq_some_iff.mp H
                  obtain ⟨t348, A110, H⟩ := H
                  replace H : (if ((Op.bytesLess t346.toList t348.toList) = true) then (spec_l03Values.l0 k1 l0 (wrap64 (x3_1 + 1))) else (some false)) = some r := H
                  have A11 := Aside0.mk A110
                  clear A110
                  by_cases c12 : ((Op.bytesLess t346.toList t348.toList) = true)
                  · rw [if_pos c12] at H
                    have c12b0 : (Op.bytesLess t346.toList t348.toList) = true := c12
                    clear c12
                    have H' := Aside0.mk H
                    clear H
                    try go_wp2
                    have n0_ := Aside0.mk (below_drew1 HB.out)
                    clear HB
                    have HB := n0_
                    clear n0_
                    have p343 : 0 ≤ (x3_1 : Int) := of_decide_eq_true Da
                    have q343 : x3_1 < (l0.length : Int) := of_decide_eq_true Da
                    obtain ⟨ad343, e343, hx343_0⟩ := Kd.at_string HR0.out x3_1 p343 q343
                    have hw343_0 := hx343_0
                    cases e343
                    replace hx343_0 := bz HB.out hx343_0
                    replace p343 := eq_true p343
                    replace q343 := eq_true q343
                    have p345 : 0 ≤ ((ji7) : Int) := of_decide_eq_true Da
                    have q345 : (ji7) < (l0.length : Int) := of_decide_eq_true Da
                    obtain ⟨ad345, e345, hx345_0⟩ := Kd.at_string HR0.out (ji7) p345 q345
                    have hw345_0 := hx345_0
                    obtain rfl : ad343 = ad345 := (by injection e345)
                    replace hx345_0 := bz HB.out hx345_0
                    replace p345 := eq_true p345
                    replace q345 := eq_true q345
                    have p347 : 0 ≤ (x3_1 : Int) := of_decide_eq_true Da
                    have q347 : x3_1 < (l0.length : Int) := of_decide_eq_true Da
                    obtain ⟨ad347, e347, hx347_0⟩ := Kd.at_string HR0.out x3_1 p347 q347
                    have hw347_0 := hx347_0
                    obtain rfl : ad343 = ad347 := (by injection e347)
                    replace hx347_0 := bz HB.out hx347_0
                    replace p347 := eq_true p347
                    replace q347 := eq_true q347
                    refine start_ (n := 24) (S := fun w' => w'.cell? (ad343.add (x3_1).toNat) = some (.string (rdOf ByteArray.empty l0 x3_1)) ∧ w'.cell? (ad343.add ((ji7)).toNat) = some (.string (rdOf ByteArray.empty l0 (ji7))) ∧ w'.cell? (ad343.add (x3_1).toNat) = some (.string (rdOf ByteArray.empty l0 x3_1))) (ds := []) (bv 24 0) (by kernel_rfl) rfl rfl ⟨(bz HB.out hw343_0), (bz HB.out hw345_0), (bz HB.out hw347_0)⟩ (fun hHeld => ?_); refine with_tabW spec_l03Values.tab4 spec_l03Values.bits4 (fun HT_ HW_ => ?_)
                    generalize wr.drew = w13 at HB hx343_0 hx345_0 hx347_0 hHeld ⊢
                    refine pu 0 10 (bv 24 1) HT_.out (h := ?_)
                    refine pu 1 11 (bv 24 3) HT_.out (h := ?_)
                    refine pu 2 12 (bv 24 7) HT_.out (h := ?_)
                    refine tk 3 13 (bv 24 15) HT_.out HW_.out hHeld (h := ?_)
                    refine one_ (i := 4) (N := some 14) (bv 24 31) rfl rfl (one_of HT_.out (by kernel_rfl)) (by decide) (fun K hK => ?_)
                    refine goes_ Tryd.func154 (by kernel_rfl) rfl #[.string (rdOf ByteArray.empty l0 x3_1)] (by rfl) rfl rfl Ag ?_
                    with_reducible refine (spec_l02Value.calls k1 (rdOf ByteArray.empty l0 x3_1) true _ A4.out).mono ?_
                    rintro e w14 ⟨rfl, hb⟩
                    refine ⟨_, rfl, ?_⟩
                    have n0_ := Aside0.mk (below_step By hb)
                    clear HB
                    have HB := n0_
                    clear n0_
                    (try clear hb)
                    (try clear hb2)
                    (try clear hk)
                    (try clear hi)
                    refine hK.out _ _ ⟨(bz HB.out hw343_0), (bz HB.out hw345_0), (bz HB.out hw347_0)⟩ (fun hHeld => ?_)
                    clear hK K
                    refine norm_ (a' := ?_) ?_ ?_
                    rotate_left
                    · show Act.put _ (some 14) _ = _
                      simp only [Act.put, List.setIfInBounds_toArray, List.set_cons_zero, List.set_cons_succ, i64_w, i32_w]
                      rfl
                    refine pu 5 15 (bv 24 63) HT_.out (h := ?_)
                    refine pu 6 16 (bv 24 127) HT_.out (h := ?_)
                    refine pu 7 17 (bv 24 255) HT_.out (h := ?_)
                    refine pu 8 18 (bv 24 511) HT_.out (h := ?_)
                    refine pu 9 19 (bv 24 1023) HT_.out (h := ?_)
                    refine pu 10 20 (bv 24 2047) HT_.out (h := ?_)
                    refine pu 11 21 (bv 24 4095) HT_.out (h := ?_)
                    refine pu 12 22 (bv 24 8191) HT_.out (h := ?_)
                    refine pu 13 23 (bv 24 16383) HT_.out (h := ?_)
                    refine pu 16 26 (bv 24 81919) HT_.out (h := ?_)
                    refine pu 17 27 (bv 24 212991) HT_.out (h := ?_)
                    refine pu 18 28 (bv 24 475135) HT_.out (h := ?_)
                    refine tk 14 24 (bv 24 491519) HT_.out HW_.out hHeld (h := ?_)
                    refine tk 19 29 (bv 24 1015807) HT_.out HW_.out hHeld (h := ?_)
                    refine one_ (i := 15) (N := some 25) (bv 24 1048575) rfl rfl (one_of HT_.out (by kernel_rfl)) (by decide) (fun K hK => ?_)
                    refine goes_ Tryd.func124 (by kernel_rfl) rfl #[.string (rdOf ByteArray.empty l0 (ji7))] (by rfl) rfl rfl (by (try simp only [List.map_toArray, List.map_cons, List.map_nil]); first | done | (simp only [hji7]; rfl) | rfl | (simp only [List.length_drop, List.length_take]; rfl)) ?_
                    with_reducible refine (spec_Norm.calls k1 (rdOf ByteArray.empty l0 (ji7)) t346 _ A10.out).mono ?_
                    rintro e w15 ⟨rfl, hb⟩
                    refine ⟨_, rfl, ?_⟩
                    have n0_ := Aside0.mk (below_step By hb)
                    clear HB
                    have HB := n0_
                    clear n0_
                    (try clear hb)
                    (try clear hb2)
                    (try clear hk)
                    (try clear hi)
                    refine hK.out _ _ ⟨(bz HB.out hw343_0), (bz HB.out hw345_0), (bz HB.out hw347_0)⟩ (fun hHeld => ?_)
                    clear hK K
                    refine norm_ (a' := ?_) ?_ ?_
                    rotate_left
                    · show Act.put _ (some 25) _ = _
                      simp only [Act.put, List.setIfInBounds_toArray, List.set_cons_zero, List.set_cons_succ, i64_w, i32_w]
                      rfl
                    refine one_ (i := 20) (N := some 30) (bv 24 2097151) rfl rfl (one_of HT_.out (by kernel_rfl)) (by decide) (fun K hK => ?_)
                    refine goes_ Tryd.func124 (by kernel_rfl) rfl #[.string (rdOf ByteArray.empty l0 x3_1)] (by rfl) rfl rfl Ag ?_
                    with_reducible refine (spec_Norm.calls k1 (rdOf ByteArray.empty l0 x3_1) t348 _ A11.out).mono ?_
                    rintro e w16 ⟨rfl, hb⟩
                    refine ⟨_, rfl, ?_⟩
                    have n0_ := Aside0.mk (below_step By hb)
                    clear HB
                    have HB := n0_
                    clear n0_
                    (try clear hb)
                    (try clear hb2)
                    (try clear hk)
                    (try clear hi)
                    refine hK.out _ _ ⟨(bz HB.out hw343_0), (bz HB.out hw345_0), (bz HB.out hw347_0)⟩ (fun hHeld => ?_)
                    clear hK K
                    refine norm_ (a' := ?_) ?_ ?_
                    rotate_left
                    · show Act.put _ (some 30) _ = _
                      simp only [Act.put, List.setIfInBounds_toArray, List.set_cons_zero, List.set_cons_succ, i64_w, i32_w]
                      rfl
                    refine pu 21 31 (bv 24 4194303) HT_.out (h := ?_)
                    refine pu 22 32 (bv 24 8388607) HT_.out (h := ?_)
                    refine pu 23 33 (bv 24 16777215) HT_.out (h := ?_)
                    refine done_ (done_of HT_.out (by kernel_rfl)) ?_
                    try go_wp2
                    go_roundg k1
                    case measure => have := HK1.out; omega
                    case rel => exact ⟨(wrap64 (x3_1 + 1)), (by first | rfl | (simp; done) | (simp [*]; done)), H', ⟨by have := HK1.out; omega⟩, ⟨By⟩⟩
                  · rw [if_neg c12] at H
                    have c12b0 : (Op.bytesLess t346.toList t348.toList) = false := by simpa using c12
                    clear c12
                    obtain rfl := Option.some.inj H
                    try go_wp2
                    have n0_ := Aside0.mk (below_drew1 HB.out)
                    clear HB
                    have HB := n0_
                    clear n0_
                    have p343 : 0 ≤ (x3_1 : Int) := of_decide_eq_true Da
                    have q343 : x3_1 < (l0.length : Int) := of_decide_eq_true Da
                    obtain ⟨ad343, e343, hx343_0⟩ := Kd.at_string HR0.out x3_1 p343 q343
                    have hw343_0 := hx343_0
                    cases e343
                    replace hx343_0 := bz HB.out hx343_0
                    replace p343 := eq_true p343
                    replace q343 := eq_true q343
                    have p345 : 0 ≤ ((ji7) : Int) := of_decide_eq_true Da
                    have q345 : (ji7) < (l0.length : Int) := of_decide_eq_true Da
                    obtain ⟨ad345, e345, hx345_0⟩ := Kd.at_string HR0.out (ji7) p345 q345
                    have hw345_0 := hx345_0
                    obtain rfl : ad343 = ad345 := (by injection e345)
                    replace hx345_0 := bz HB.out hx345_0
                    replace p345 := eq_true p345
                    replace q345 := eq_true q345
                    have p347 : 0 ≤ (x3_1 : Int) := of_decide_eq_true Da
                    have q347 : x3_1 < (l0.length : Int) := of_decide_eq_true Da
                    obtain ⟨ad347, e347, hx347_0⟩ := Kd.at_string HR0.out x3_1 p347 q347
                    have hw347_0 := hx347_0
                    obtain rfl : ad343 = ad347 := (by injection e347)
                    replace hx347_0 := bz HB.out hx347_0
                    replace p347 := eq_true p347
                    replace q347 := eq_true q347
                    refine start_ (n := 24) (S := fun w' => w'.cell? (ad343.add (x3_1).toNat) = some (.string (rdOf ByteArray.empty l0 x3_1)) ∧ w'.cell? (ad343.add ((ji7)).toNat) = some (.string (rdOf ByteArray.empty l0 (ji7))) ∧ w'.cell? (ad343.add (x3_1).toNat) = some (.string (rdOf ByteArray.empty l0 x3_1))) (ds := []) (bv 24 0) (by kernel_rfl) rfl rfl ⟨(bz HB.out hw343_0), (bz HB.out hw345_0), (bz HB.out hw347_0)⟩ (fun hHeld => ?_); refine with_tabW spec_l03Values.tab4 spec_l03Values.bits4 (fun HT_ HW_ => ?_)
                    generalize wr.drew = w17 at HB hx343_0 hx345_0 hx347_0 hHeld ⊢
                    refine pu 0 10 (bv 24 1) HT_.out (h := ?_)
                    refine pu 1 11 (bv 24 3) HT_.out (h := ?_)
                    refine pu 2 12 (bv 24 7) HT_.out (h := ?_)
                    refine tk 3 13 (bv 24 15) HT_.out HW_.out hHeld (h := ?_)
                    refine one_ (i := 4) (N := some 14) (bv 24 31) rfl rfl (one_of HT_.out (by kernel_rfl)) (by decide) (fun K hK => ?_)
                    refine goes_ Tryd.func154 (by kernel_rfl) rfl #[.string (rdOf ByteArray.empty l0 x3_1)] (by rfl) rfl rfl Ag ?_
                    with_reducible refine (spec_l02Value.calls k1 (rdOf ByteArray.empty l0 x3_1) true _ A4.out).mono ?_
                    rintro e w18 ⟨rfl, hb⟩
                    refine ⟨_, rfl, ?_⟩
                    have n0_ := Aside0.mk (below_step By hb)
                    clear HB
                    have HB := n0_
                    clear n0_
                    (try clear hb)
                    (try clear hb2)
                    (try clear hk)
                    (try clear hi)
                    refine hK.out _ _ ⟨(bz HB.out hw343_0), (bz HB.out hw345_0), (bz HB.out hw347_0)⟩ (fun hHeld => ?_)
                    clear hK K
                    refine norm_ (a' := ?_) ?_ ?_
                    rotate_left
                    · show Act.put _ (some 14) _ = _
                      simp only [Act.put, List.setIfInBounds_toArray, List.set_cons_zero, List.set_cons_succ, i64_w, i32_w]
                      rfl
                    refine pu 5 15 (bv 24 63) HT_.out (h := ?_)
                    refine pu 6 16 (bv 24 127) HT_.out (h := ?_)
                    refine pu 7 17 (bv 24 255) HT_.out (h := ?_)
                    refine pu 8 18 (bv 24 511) HT_.out (h := ?_)
                    refine pu 9 19 (bv 24 1023) HT_.out (h := ?_)
                    refine pu 10 20 (bv 24 2047) HT_.out (h := ?_)
                    refine pu 11 21 (bv 24 4095) HT_.out (h := ?_)
                    refine pu 12 22 (bv 24 8191) HT_.out (h := ?_)
                    refine pu 13 23 (bv 24 16383) HT_.out (h := ?_)
                    refine pu 16 26 (bv 24 81919) HT_.out (h := ?_)
                    refine pu 17 27 (bv 24 212991) HT_.out (h := ?_)
                    refine pu 18 28 (bv 24 475135) HT_.out (h := ?_)
                    refine tk 14 24 (bv 24 491519) HT_.out HW_.out hHeld (h := ?_)
                    refine tk 19 29 (bv 24 1015807) HT_.out HW_.out hHeld (h := ?_)
                    refine one_ (i := 15) (N := some 25) (bv 24 1048575) rfl rfl (one_of HT_.out (by kernel_rfl)) (by decide) (fun K hK => ?_)
                    refine goes_ Tryd.func124 (by kernel_rfl) rfl #[.string (rdOf ByteArray.empty l0 (ji7))] (by rfl) rfl rfl (by (try simp only [List.map_toArray, List.map_cons, List.map_nil]); first | done | (simp only [hji7]; rfl) | rfl | (simp only [List.length_drop, List.length_take]; rfl)) ?_
                    with_reducible refine (spec_Norm.calls k1 (rdOf ByteArray.empty l0 (ji7)) t346 _ A10.out).mono ?_
                    rintro e w19 ⟨rfl, hb⟩
                    refine ⟨_, rfl, ?_⟩
                    have n0_ := Aside0.mk (below_step By hb)
                    clear HB
                    have HB := n0_
                    clear n0_
                    (try clear hb)
                    (try clear hb2)
                    (try clear hk)
                    (try clear hi)
                    refine hK.out _ _ ⟨(bz HB.out hw343_0), (bz HB.out hw345_0), (bz HB.out hw347_0)⟩ (fun hHeld => ?_)
                    clear hK K
                    refine norm_ (a' := ?_) ?_ ?_
                    rotate_left
                    · show Act.put _ (some 25) _ = _
                      simp only [Act.put, List.setIfInBounds_toArray, List.set_cons_zero, List.set_cons_succ, i64_w, i32_w]
                      rfl
                    refine one_ (i := 20) (N := some 30) (bv 24 2097151) rfl rfl (one_of HT_.out (by kernel_rfl)) (by decide) (fun K hK => ?_)
                    refine goes_ Tryd.func124 (by kernel_rfl) rfl #[.string (rdOf ByteArray.empty l0 x3_1)] (by rfl) rfl rfl Ag ?_
                    with_reducible refine (spec_Norm.calls k1 (rdOf ByteArray.empty l0 x3_1) t348 _ A11.out).mono ?_
                    rintro e w20 ⟨rfl, hb⟩
                    refine ⟨_, rfl, ?_⟩
                    have n0_ := Aside0.mk (below_step By hb)
                    clear HB
                    have HB := n0_
                    clear n0_
                    (try clear hb)
                    (try clear hb2)
                    (try clear hk)
                    (try clear hi)
                    refine hK.out _ _ ⟨(bz HB.out hw343_0), (bz HB.out hw345_0), (bz HB.out hw347_0)⟩ (fun hHeld => ?_)
                    clear hK K
                    refine norm_ (a' := ?_) ?_ ?_
                    rotate_left
                    · show Act.put _ (some 30) _ = _
                      simp only [Act.put, List.setIfInBounds_toArray, List.set_cons_zero, List.set_cons_succ, i64_w, i32_w]
                      rfl
                    refine pu 21 31 (bv 24 4194303) HT_.out (h := ?_)
                    refine pu 22 32 (bv 24 8388607) HT_.out (h := ?_)
                    refine pu 23 33 (bv 24 16777215) HT_.out (h := ?_)
                    refine done_ (done_of HT_.out (by kernel_rfl)) ?_
                    try go_wp2
                    go_ret
                    exact ⟨by first | rfl | (simp [errW_none, errW_some] <;> rfl) | (simp only [← hji7]; first | rfl | (simp [errW_none, errW_some] <;> rfl)) | (simp [*, errW_none, errW_some] <;> first | rfl | (rw [Bool.eq_iff_iff]; simp)), By⟩
                · rw [if_neg c9] at H
                  exact absurd H (by simp)
              · rw [if_neg c8] at H
                exact absurd H (by simp)
            · rw [if_neg c6] at H
              have c6b0 : decide (0 < x3_1) = false := decide_eq_false c6
              clear c6
              have H' := Aside0.mk H
              clear H
              try go_wp2
              have n0_ := Aside0.mk (below_drew1 HB.out)
              clear HB
              have HB := n0_
              clear n0_
              have p343 : 0 ≤ (x3_1 : Int) := of_decide_eq_true Da
              have q343 : x3_1 < (l0.length : Int) := of_decide_eq_true Da
              obtain ⟨ad343, e343, hx343_0⟩ := Kd.at_string HR0.out x3_1 p343 q343
              have hw343_0 := hx343_0
              cases e343
              replace hx343_0 := bz HB.out hx343_0
              replace p343 := eq_true p343
              replace q343 := eq_true q343
              refine start_ (n := 24) (S := fun w' => w'.cell? (ad343.add (x3_1).toNat) = some (.string (rdOf ByteArray.empty l0 x3_1))) (ds := []) (bv 24 0) (by kernel_rfl) rfl rfl ((bz HB.out hw343_0)) (fun hHeld => ?_); refine with_tabW spec_l03Values.tab4 spec_l03Values.bits4 (fun HT_ HW_ => ?_)
              generalize wr.drew = w21 at HB hx343_0 hHeld ⊢
              refine pu 0 10 (bv 24 1) HT_.out (h := ?_)
              refine pu 1 11 (bv 24 3) HT_.out (h := ?_)
              refine pu 2 12 (bv 24 7) HT_.out (h := ?_)
              refine take_ (i := 3) (N := some 13) (v := ?_) (a' := ?_) (bv 24 15) rfl rfl (take_ofW HT_.out HW_.out (by kernel_rfl)) (fun _ _ _ h => h) (Or.inl ⟨by rfl, ?_⟩) hHeld ?_ ?_
              rotate_left
              · intro w' s0
                go_simp
                with_reducible rfl
              rotate_left
              · simp only [Act.put, List.setIfInBounds_toArray, List.set_cons_zero, List.set_cons_succ, i64_w, i32_w]
                rfl
              refine one_ (i := 4) (N := some 14) (bv 24 31) rfl rfl (one_of HT_.out (by kernel_rfl)) (by decide) (fun K hK => ?_)
              refine goes_ Tryd.func154 (by kernel_rfl) rfl #[.string (rdOf ByteArray.empty l0 x3_1)] (by rfl) rfl rfl Ag ?_
              with_reducible refine (spec_l02Value.calls k1 (rdOf ByteArray.empty l0 x3_1) true _ A4.out).mono ?_
              rintro e w22 ⟨rfl, hb⟩
              refine ⟨_, rfl, ?_⟩
              have n0_ := Aside0.mk (below_step By hb)
              clear HB
              have HB := n0_
              clear n0_
              (try clear hb)
              (try clear hb2)
              (try clear hk)
              (try clear hi)
              refine hK.out _ _ ((bz HB.out hw343_0)) (fun hHeld => ?_)
              clear hK K
              refine norm_ (a' := ?_) ?_ ?_
              rotate_left
              · show Act.put _ (some 14) _ = _
                simp only [Act.put, List.setIfInBounds_toArray, List.set_cons_zero, List.set_cons_succ, i64_w, i32_w]
                rfl
              refine pu 5 15 (bv 24 63) HT_.out (h := ?_)
              refine pu 6 16 (bv 24 127) HT_.out (h := ?_)
              refine pu 7 17 (bv 24 255) HT_.out (h := ?_)
              refine pu 8 18 (bv 24 511) HT_.out (h := ?_)
              refine pu 9 19 (bv 24 1023) HT_.out (h := ?_)
              refine pn 10 20 (bv 24 2047) HT_.out (h := ?_)
              refine pn 11 21 (bv 24 4095) HT_.out (h := ?_)
              refine pn 12 22 (bv 24 8191) HT_.out (h := ?_)
              refine pn 13 23 (bv 24 16383) HT_.out (h := ?_)
              refine pn 14 24 (bv 24 32767) HT_.out (h := ?_)
              refine pn 15 25 (bv 24 65535) HT_.out (h := ?_)
              refine pn 16 26 (bv 24 131071) HT_.out (h := ?_)
              refine pn 17 27 (bv 24 262143) HT_.out (h := ?_)
              refine pn 18 28 (bv 24 524287) HT_.out (h := ?_)
              refine pn 19 29 (bv 24 1048575) HT_.out (h := ?_)
              refine pn 20 30 (bv 24 2097151) HT_.out (h := ?_)
              refine pn 21 31 (bv 24 4194303) HT_.out (h := ?_)
              refine pu 22 32 (bv 24 8388607) HT_.out (h := ?_)
              refine pu 23 33 (bv 24 16777215) HT_.out (h := ?_)
              refine done_ (done_of HT_.out (by kernel_rfl)) ?_
              try go_wp2
              go_roundg k1
              case measure => have := HK1.out; omega
              case rel => exact ⟨(wrap64 (x3_1 + 1)), (by first | rfl | (simp; done) | (simp [*]; done)), H', ⟨by have := HK1.out; omega⟩, ⟨By⟩⟩
          · replace c5 := Bool.eq_false_iff.mpr c5
            subst c5
            have H1 : (some false) = some r := by rw [if_neg (show ¬ (false = true) by decide)] at H; exact H
            clear H
            have H := H1
            clear H1
            obtain rfl := Option.some.inj H
            try go_wp2
            have n0_ := Aside0.mk (below_drew1 HB.out)
            clear HB
            have HB := n0_
            clear n0_
            have p343 : 0 ≤ (x3_1 : Int) := of_decide_eq_true Da
            have q343 : x3_1 < (l0.length : Int) := of_decide_eq_true Da
            obtain ⟨ad343, e343, hx343_0⟩ := Kd.at_string HR0.out x3_1 p343 q343
            have hw343_0 := hx343_0
            cases e343
            replace hx343_0 := bz HB.out hx343_0
            replace p343 := eq_true p343
            replace q343 := eq_true q343
            refine start_ (n := 24) (S := fun w' => w'.cell? (ad343.add (x3_1).toNat) = some (.string (rdOf ByteArray.empty l0 x3_1))) (ds := []) (bv 24 0) (by kernel_rfl) rfl rfl ((bz HB.out hw343_0)) (fun hHeld => ?_); refine with_tabW spec_l03Values.tab4 spec_l03Values.bits4 (fun HT_ HW_ => ?_)
            generalize wr.drew = w23 at HB hx343_0 hHeld ⊢
            refine pu 0 10 (bv 24 1) HT_.out (h := ?_)
            refine pu 1 11 (bv 24 3) HT_.out (h := ?_)
            refine pu 2 12 (bv 24 7) HT_.out (h := ?_)
            refine take_ (i := 3) (N := some 13) (v := ?_) (a' := ?_) (bv 24 15) rfl rfl (take_ofW HT_.out HW_.out (by kernel_rfl)) (fun _ _ _ h => h) (Or.inl ⟨by rfl, ?_⟩) hHeld ?_ ?_
            rotate_left
            · intro w' s0
              go_simp
              with_reducible rfl
            rotate_left
            · simp only [Act.put, List.setIfInBounds_toArray, List.set_cons_zero, List.set_cons_succ, i64_w, i32_w]
              rfl
            refine one_ (i := 4) (N := some 14) (bv 24 31) rfl rfl (one_of HT_.out (by kernel_rfl)) (by decide) (fun K hK => ?_)
            refine goes_ Tryd.func154 (by kernel_rfl) rfl #[.string (rdOf ByteArray.empty l0 x3_1)] (by rfl) rfl rfl Ag ?_
            with_reducible refine (spec_l02Value.calls k1 (rdOf ByteArray.empty l0 x3_1) false _ A4.out).mono ?_
            rintro e w24 ⟨rfl, hb⟩
            refine ⟨_, rfl, ?_⟩
            have n0_ := Aside0.mk (below_step By hb)
            clear HB
            have HB := n0_
            clear n0_
            (try clear hb)
            (try clear hb2)
            (try clear hk)
            (try clear hi)
            refine hK.out _ _ ((bz HB.out hw343_0)) (fun hHeld => ?_)
            clear hK K
            refine norm_ (a' := ?_) ?_ ?_
            rotate_left
            · show Act.put _ (some 14) _ = _
              simp only [Act.put, List.setIfInBounds_toArray, List.set_cons_zero, List.set_cons_succ, i64_w, i32_w]
              rfl
            refine pu 5 15 (bv 24 63) HT_.out (h := ?_)
            refine pu 6 16 (bv 24 127) HT_.out (h := ?_)
            refine pn 7 17 (bv 24 255) HT_.out (h := ?_)
            refine pn 8 18 (bv 24 511) HT_.out (h := ?_)
            refine pn 9 19 (bv 24 1023) HT_.out (h := ?_)
            refine pn 10 20 (bv 24 2047) HT_.out (h := ?_)
            refine pn 11 21 (bv 24 4095) HT_.out (h := ?_)
            refine pn 12 22 (bv 24 8191) HT_.out (h := ?_)
            refine pn 13 23 (bv 24 16383) HT_.out (h := ?_)
            refine pn 14 24 (bv 24 32767) HT_.out (h := ?_)
            refine pn 15 25 (bv 24 65535) HT_.out (h := ?_)
            refine pn 16 26 (bv 24 131071) HT_.out (h := ?_)
            refine pn 17 27 (bv 24 262143) HT_.out (h := ?_)
            refine pn 18 28 (bv 24 524287) HT_.out (h := ?_)
            refine pn 19 29 (bv 24 1048575) HT_.out (h := ?_)
            refine pn 20 30 (bv 24 2097151) HT_.out (h := ?_)
            refine pn 21 31 (bv 24 4194303) HT_.out (h := ?_)
            refine pn 22 32 (bv 24 8388607) HT_.out (h := ?_)
            refine pu 23 33 (bv 24 16777215) HT_.out (h := ?_)
            refine done_ (done_of HT_.out (by kernel_rfl)) ?_
            try go_wp2
            go_ret
            exact ⟨Rf, By⟩
        · rw [if_neg c3] at H
          exact absurd H (by simp)
      · rw [if_neg c2] at H
        have c2b0 : decide (x3_1 < (l0.length : Int)) = false := decide_eq_false c2
        clear c2
        by_cases c25 : (l0.length : Int) ≥ 1
        · rw [if_pos c25] at H
          have c25b0 : decide (1 ≤ (l0.length : Int)) = true := decide_eq_true c25
          have c25b1 : decide (1 ≤ l0.length) = true := decide_eq_true (by omega)
          clear c25
          obtain rfl := Option.some.inj H
          go_wp2
          go_ret
          exact ⟨Rf, By⟩
        · rw [if_neg c25] at H
          have c25b0 : decide (1 ≤ (l0.length : Int)) = false := decide_eq_false c25
          have c25b1 : decide (1 ≤ l0.length) = false := decide_eq_false (by omega)
          clear c25
          obtain rfl := Option.some.inj H
          go_wp2
          go_ret
          exact ⟨Rf, By⟩

end Go.Proofs.YtpocoeghobdfiaaDoor.PG

-- WRITTEN BY A PROGRAM OF THIS SESSION (wip/gen/gen.py), by way of the kit's print program. Lean checks it.
namespace Go.Proofs.YtpocoeghobdfiaaDoor.PG
open Go.Proofs.YtpocoeghobdfiaaDoor.Sq Go.RowKit Go.Proofs.YtpocoeghobdfiaaDoorW.PrintWords Go.Proofs.YtpocoeghobdfiaaDoorW.PrintLast Go.Proofs.YtpocoeghobdfiaaDoorW.PrintMore
attribute [local go_sem] max2_int min2_int max_two min_two max_three min_three max_four min_four   -- for this text's walks alone
set_option linter.unusedVariables false
set_option linter.unusedSimpArgs false

/-! ### spec_l03Attrs: function 123 -/
def spec_l03Attrs.l0 : Nat → List (S144) → Int → Option (Bool)
  | 0, _, _ => none
  | k + 1, x0, x3 => if x3 < (x0.length : Int) then (if 0 ≤ x3 then ((spec_NameRight.f k ((rd_T144 x0 x3).f0)).bind fun t350 => (if t350 = true then (if x3 > 0 then (if 0 ≤ (wrap64 (x3 - 1)) then (if (wrap64 (x3 - 1)) < (x0.length : Int) then (if ((Op.bytesLess (((rd_T144 x0 (wrap64 (x3 - 1))).f0).toList) (((rd_T144 x0 x3).f0).toList)) = true) then ((spec_l03Values.f k ((rd_T144 x0 x3).f1)).bind fun t354 => (if t354 = true then (spec_l03Attrs.l0 k x0 (wrap64 (x3 + 1))) else (some false))) else (some false)) else (none)) else (none)) else ((spec_l03Values.f k ((rd_T144 x0 x3).f1)).bind fun t356 => (if t356 = true then (spec_l03Attrs.l0 k x0 (wrap64 (x3 + 1))) else (some false)))) else (some false))) else (none)) else (some (decide ((x0.length : Int) ≤ 8)))
def spec_l03Attrs.f (k : Nat) (l0 : List (S144)) : Option (Bool) := spec_l03Attrs.l0 k l0 0
theorem spec_l03Attrs.mono_l : ∀ k, (∀ y0 y1, LeO (spec_l03Attrs.l0 k y0 y1) (spec_l03Attrs.l0 (k + 1) y0 y1))
  | 0 => fun _ _ r h => by simp [spec_l03Attrs.l0] at h
  | k + 1 => by
    have ih0 := spec_l03Attrs.mono_l k
    · intro y0 y1
      unfold spec_l03Attrs.l0
      repeat' first
      | (with_reducible exact ih0 _ _)
      | (with_reducible exact spec_NameRight.mono _ _)
      | (with_reducible exact spec_l03Values.mono _ _)
      | (with_reducible exact LeO.refl _)
      | (with_reducible exact LeO.none _)
      | (with_reducible refine LeO.ite ?_ ?_)
      | (with_reducible refine LeO.bind ?_ (fun _ => ?_))
      | exact ih0 _ _
      | exact spec_NameRight.mono _ _
      | exact spec_l03Values.mono _ _
      | exact LeO.none _
      | refine LeO.ite ?_ ?_
      | refine LeO.bind ?_ (fun _ => ?_)
theorem spec_l03Attrs.mono : ∀ a0 k, LeO (spec_l03Attrs.f k a0) (spec_l03Attrs.f (k + 1) a0) := by
  intro a0 k
  have ih0 := spec_l03Attrs.mono_l k
  unfold spec_l03Attrs.f
  repeat' first
      | (with_reducible exact ih0 _ _)
      | (with_reducible exact spec_NameRight.mono _ _)
      | (with_reducible exact spec_l03Values.mono _ _)
      | (with_reducible exact LeO.refl _)
      | (with_reducible exact LeO.none _)
      | (with_reducible refine LeO.ite ?_ ?_)
      | (with_reducible refine LeO.bind ?_ (fun _ => ?_))
      | exact ih0 _ _
      | exact spec_NameRight.mono _ _
      | exact spec_l03Values.mono _ _
      | exact LeO.none _
      | refine LeO.ite ?_ ?_
      | refine LeO.bind ?_ (fun _ => ?_)
def spec_l03Attrs.T4 : Bool × List (List Nat × List Nat) := (true, [([], []), ([], []), ([0, 1], [0, 1]), ([2], [2]), ([3], [3]), ([4], [4]), ([5], [5]), ([6, 5], [6]), ([7], [7]), ([8, 7], [7, 8]), ([9, 7, 7], [7, 9]), ([10], [10]), ([10], [10]), ([12, 10], [10, 12]), ([11, 13, 10], [10, 11, 13]), ([14, 10], [10, 14]), ([15, 10], [10, 15]), ([10], [10]), ([10], [10]), ([17, 18, 10], [10, 17, 18]), ([19, 10], [10, 19]), ([20, 10], [10, 20]), ([16, 21, 10], [10, 16, 21]), ([10, 22, 7], [7, 10, 22]), ([7, 23], [7, 23]), ([24, 10], [24]), ([25], [25]), ([25], [25]), ([26, 27, 25], [25, 26, 27]), ([28, 25], [25, 28]), ([29, 25], [25, 29]), ([30, 25, 25], [25, 30]), ([31, 25], [25, 31]), ([25, 32], [25, 32])])
def spec_l03Attrs.B4 : List Nat := [0, 0, 3, 7, 15, 31, 63, 127, 255, 511, 1023, 2047, 2047, 6143, 16383, 32767, 65535, 2047, 2047, 395263, 919551, 1968127, 4194303, 8388607, 16777215, 33554431, 67108863, 67108863, 268435455, 536870911, 1073741823, 2147483647, 4294967295, 8589934591]
theorem spec_l03Attrs.tab4 : rtab .any (opsOf Tryd.f123 4) = spec_l03Attrs.T4 := by kernel_rfl
theorem spec_l03Attrs.bits4 : waitsOk spec_l03Attrs.T4.2 spec_l03Attrs.B4 = true := by kernel_rfl
set_option maxHeartbeats 8000000 in
set_option maxRecDepth 100000 in
theorem spec_l03Attrs.calls (k : Nat) (A0 : Option Addr) (c0 : Nat) (l0 : List (S144)) (r : Bool) (w : World) (hr0 : Kd.C k144 w A0 l0.length l0) (hc0 : l0.length ≤ c0) (h : spec_l03Attrs.f k l0 = some r) :
    Calls Tryd.prog 123 #[.slice A0 l0.length c0] w fun e w' => e = .returned (.bool r) ∧ Below w.heap.size w w' := by
  have HR0 := Aside0.mk hr0
  have HC0 := Aside0.mk hc0
  clear hr0 hc0
  have HB := Aside0.mk (Below.refl w.heap.size w)
  have H : (spec_l03Attrs.l0 k l0 0) = some r := h
  clear h
  have H' := Aside0.mk H
  clear H
  go_enter Tryd.func123, Tryd.ntmps123
  go_wp2
  go_loopg [3] k (fun kq v3 w' => ∃ (x3_1 : Int), v3 = .int .i64 x3_1 ∧ Aside0 (spec_l03Attrs.l0 kq l0 x3_1 = some r) ∧ Aside0 (kq ≤ k) ∧ Aside0 (Below w.heap.size w w'))
  case atStart => exact ⟨(0), (by first | rfl | (simp; done) | (simp [*]; done)), H', ⟨Nat.le_refl _⟩, ⟨By⟩⟩
  case round =>
    clear H'
    try clear c1
    obtain ⟨x3_1, rfl, HA, HK1, HB⟩ := hrel
    cases gk with
    | zero => exact absurd HA.out (by simp [spec_l03Attrs.l0])
    | succ k1 =>
      have H := HA.out
      clear HA
      simp only [spec_l03Attrs.l0] at H
      by_cases c2 : x3_1 < (l0.length : Int)
      · rw [if_pos c2] at H
        have c2b0 : decide (x3_1 < (l0.length : Int)) = true := decide_eq_true c2
        clear c2
        by_cases c3 : 0 ≤ x3_1
        · rw [if_pos c3] at H
          have c3b0 : decide (0 ≤ x3_1) = true := decide_eq_true c3
          clear c3
          replace H := Option.bind_eq_some_iff.mp H
          obtain ⟨t350, A40, H⟩ := H
          replace H : (if t350 = true then (if x3_1 > 0 then (if 0 ≤ (wrap64 (x3_1 - 1)) then (if (wrap64 (x3_1 - 1)) < (l0.length : Int) then (if ((Op.bytesLess (((rd_T144 l0 (wrap64 (x3_1 - 1))).f0).toList) (((rd_T144 l0 x3_1).f0).toList)) = true) then ((spec_l03Values.f k1 ((rd_T144 l0 x3_1).f1)).bind fun t354 => (if t354 = true then (spec_l03Attrs.l0 k1 l0 (wrap64 (x3_1 + 1))) else (some false))) else (some false)) else (none)) else (none)) else ((spec_l03Values.f k1 ((rd_T144 l0 x3_1).f1)).bind fun t356 => (if t356 = true then (spec_l03Attrs.l0 k1 l0 (wrap64 (x3_1 + 1))) else (some false)))) else (some false)) = some r := H
          have A4 := Aside0.mk A40
          clear A40
          by_cases c5 : t350 = true
          · subst c5
            have H1 : (if x3_1 > 0 then (if 0 ≤ (wrap64 (x3_1 - 1)) then (if (wrap64 (x3_1 - 1)) < (l0.length : Int) then (if ((Op.bytesLess (((rd_T144 l0 (wrap64 (x3_1 - 1))).f0).toList) (((rd_T144 l0 x3_1).f0).toList)) = true) then ((spec_l03Values.f k1 ((rd_T144 l0 x3_1).f1)).bind fun t354 => (if t354 = true then (spec_l03Attrs.l0 k1 l0 (wrap64 (x3_1 + 1))) else (some false))) else (some false)) else (none)) else (none)) else ((spec_l03Values.f k1 ((rd_T144 l0 x3_1).f1)).bind fun t356 => (if t356 = true then (spec_l03Attrs.l0 k1 l0 (wrap64 (x3_1 + 1))) else (some false)))) = some r := by rw [if_pos rfl] at H; exact H
            clear H
            have H := H1
            clear H1
            by_cases c6 : x3_1 > 0
            · rw [if_pos c6] at H
              have c6b0 : decide (0 < x3_1) = true := decide_eq_true c6
              clear c6
              obtain ⟨ji7, hji7⟩ : ∃ j_ : Int, (wrap64 (x3_1 - 1)) = j_ := ⟨_, rfl⟩
              replace H : (if 0 ≤ (ji7) then (if (ji7) < (l0.length : Int) then (if ((Op.bytesLess (((rd_T144 l0 (ji7)).f0).toList) (((rd_T144 l0 x3_1).f0).toList)) = true) then ((spec_l03Values.f k1 ((rd_T144 l0 x3_1).f1)).bind fun t354 => (if t354 = true then (spec_l03Attrs.l0 k1 l0 (wrap64 (x3_1 + 1))) else (some false))) else (some false)) else (none)) else (none)) = some r := by first | (rw [hji7] at H; exact H) | (simp only [hji7] at H ⊢; exact H)
              (try rw [hji7] at A4)
              have hji7w : (IntKind.i64.wrap (x3_1 - 1)) = ji7 := (i64_w _).trans hji7
              by_cases c8 : 0 ≤ (ji7)
              · rw [if_pos c8] at H
                have c8b0 : decide (0 ≤ (ji7)) = true := decide_eq_true c8
                clear c8
                by_cases c9 : (ji7) < (l0.length : Int)
                · rw [if_pos c9] at H
                  have c9b0 : decide ((ji7) < (l0.length : Int)) = true := decide_eq_true c9
                  clear c9
                  by_cases c10 : ((Op.bytesLess (((rd_T144 l0 (ji7)).f0).toList) (((rd_T144 l0 x3_1).f0).toList)) = true)
                  · rw [if_pos c10] at H
                    have c10b0 : (Op.bytesLess (((rd_T144 l0 (ji7)).f0).toList) (((rd_T144 l0 x3_1).f0).toList)) = true := c10
                    clear c10
                    replace H := Option.bind_eq_some_iff.mp H
                    obtain ⟨t354, A110, H⟩ := H
                    replace H : (if t354 = true then (spec_l03Attrs.l0 k1 l0 (wrap64 (x3_1 + 1))) else (some false)) = some r := H
                    have A11 := Aside0.mk A110
                    clear A110
                    by_cases c12 : t354 = true
                    · subst c12
                      have H1 : (spec_l03Attrs.l0 k1 l0 (wrap64 (x3_1 + 1))) = some r := by rw [if_pos rfl] at H; exact H
                      clear H
                      have H := H1
                      clear H1
                      have H' := Aside0.mk H
                      clear H
                      try go_wp2
                      have n0_ := Aside0.mk (below_drew1 HB.out)
                      clear HB
                      have HB := n0_
                      clear n0_
                      have p349 : 0 ≤ (x3_1 : Int) := of_decide_eq_true Da
                      have q349 : x3_1 < (l0.length : Int) := of_decide_eq_true Da
                      obtain ⟨ad349, A349_1, c349_1, e349, hx349_0, hx349_1, hl349_1, hi349_1⟩ := at_T144 HR0.out x3_1 p349 q349
                      have hw349_1 := hx349_1
                      have hw349_0 := hx349_0
                      cases e349
                      replace hx349_0 := bz HB.out hx349_0
                      replace hx349_1 := bz HB.out hx349_1
                      have HR349_1 := Aside0.mk hi349_1
                      have HC349_1 := Aside0.mk hl349_1
                      clear hi349_1 hl349_1
                      replace p349 := eq_true p349
                      replace q349 := eq_true q349
                      have p351 : 0 ≤ ((ji7) : Int) := of_decide_eq_true Da
                      have q351 : (ji7) < (l0.length : Int) := of_decide_eq_true Da
                      obtain ⟨ad351, A351_1, c351_1, e351, hx351_0, hx351_1, hl351_1, hi351_1⟩ := at_T144 HR0.out (ji7) p351 q351
                      have hw351_1 := hx351_1
                      have hw351_0 := hx351_0
                      obtain rfl : ad349 = ad351 := (by injection e351)
                      replace hx351_0 := bz HB.out hx351_0
                      replace hx351_1 := bz HB.out hx351_1
                      have HR351_1 := Aside0.mk hi351_1
                      have HC351_1 := Aside0.mk hl351_1
                      clear hi351_1 hl351_1
                      replace p351 := eq_true p351
                      replace q351 := eq_true q351
                      have p352 : 0 ≤ (x3_1 : Int) := of_decide_eq_true Da
                      have q352 : x3_1 < (l0.length : Int) := of_decide_eq_true Da
                      obtain ⟨ad352, A352_1, c352_1, e352, hx352_0, hx352_1, hl352_1, hi352_1⟩ := at_T144 HR0.out x3_1 p352 q352
                      have hw352_1 := hx352_1
                      have hw352_0 := hx352_0
                      obtain rfl : ad349 = ad352 := (by injection e352)
                      replace hx352_0 := bz HB.out hx352_0
                      replace hx352_1 := bz HB.out hx352_1
                      have HR352_1 := Aside0.mk hi352_1
                      have HC352_1 := Aside0.mk hl352_1
                      clear hi352_1 hl352_1
                      replace p352 := eq_true p352
                      replace q352 := eq_true q352
                      have ea_ := Option.some.inj (hx349_1.symm.trans hx352_1)
                      injection ea_ with ea_ en_ ec_
                      subst ea_
                      subst ec_
                      clear en_
                      have p353 : 0 ≤ (x3_1 : Int) := of_decide_eq_true Da
                      have q353 : x3_1 < (l0.length : Int) := of_decide_eq_true Da
                      obtain ⟨ad353, A353_1, c353_1, e353, hx353_0, hx353_1, hl353_1, hi353_1⟩ := at_T144 HR0.out x3_1 p353 q353
                      have hw353_1 := hx353_1
                      have hw353_0 := hx353_0
                      obtain rfl : ad349 = ad353 := (by injection e353)
                      replace hx353_0 := bz HB.out hx353_0
                      replace hx353_1 := bz HB.out hx353_1
                      have HR353_1 := Aside0.mk hi353_1
                      have HC353_1 := Aside0.mk hl353_1
                      clear hi353_1 hl353_1
                      replace p353 := eq_true p353
                      replace q353 := eq_true q353
                      have ea_ := Option.some.inj (hx349_1.symm.trans hx353_1)
                      injection ea_ with ea_ en_ ec_
                      subst ea_
                      subst ec_
                      clear en_
                      refine start_ (n := 34) (S := fun w' => w'.cell? (ad349.add ((x3_1).toNat * 2)) = some (.string ((rd_T144 l0 x3_1).f0)) ∧ w'.cell? ⟨(ad349.add ((x3_1).toNat * 2)).block, (ad349.add ((x3_1).toNat * 2)).off + 1, none⟩ = some (.slice A349_1 ((rd_T144 l0 x3_1).f1).length c349_1) ∧ w'.cell? (ad349.add (((ji7)).toNat * 2)) = some (.string ((rd_T144 l0 (ji7)).f0)) ∧ w'.cell? ⟨(ad349.add (((ji7)).toNat * 2)).block, (ad349.add (((ji7)).toNat * 2)).off + 1, none⟩ = some (.slice A351_1 ((rd_T144 l0 (ji7)).f1).length c351_1) ∧ w'.cell? (ad349.add ((x3_1).toNat * 2)) = some (.string ((rd_T144 l0 x3_1).f0)) ∧ w'.cell? ⟨(ad349.add ((x3_1).toNat * 2)).block, (ad349.add ((x3_1).toNat * 2)).off + 1, none⟩ = some (.slice A349_1 ((rd_T144 l0 x3_1).f1).length c349_1) ∧ w'.cell? (ad349.add ((x3_1).toNat * 2)) = some (.string ((rd_T144 l0 x3_1).f0)) ∧ w'.cell? ⟨(ad349.add ((x3_1).toNat * 2)).block, (ad349.add ((x3_1).toNat * 2)).off + 1, none⟩ = some (.slice A349_1 ((rd_T144 l0 x3_1).f1).length c349_1)) (ds := []) (bv 34 0) (by kernel_rfl) rfl rfl ⟨(bz HB.out hw349_0), (bz HB.out hw349_1), (bz HB.out hw351_0), (bz HB.out hw351_1), (bz HB.out hw352_0), (bz HB.out hw352_1), (bz HB.out hw353_0), (bz HB.out hw353_1)⟩ (fun hHeld => ?_); refine with_tabW spec_l03Attrs.tab4 spec_l03Attrs.bits4 (fun HT_ HW_ => ?_)
                      generalize wr.drew = w13 at HB HR349_1 HR351_1 HR352_1 HR353_1 hx349_0 hx349_1 hx351_0 hx351_1 hx352_0 hx352_1 hx353_0 hx353_1 hHeld ⊢
                      refine pu 0 10 (bv 34 1) HT_.out (h := ?_)
                      refine pu 1 11 (bv 34 3) HT_.out (h := ?_)
                      refine pu 2 12 (bv 34 7) HT_.out (h := ?_)
                      refine pu 3 13 (bv 34 15) HT_.out (h := ?_)
                      refine tk 4 14 (bv 34 31) HT_.out HW_.out hHeld (h := ?_)
                      refine one_ (i := 5) (N := some 15) (bv 34 63) rfl rfl (one_of HT_.out (by kernel_rfl)) (by decide) (fun K hK => ?_)
                      refine goes_ Tryd.func143 (by kernel_rfl) rfl #[.string ((rd_T144 l0 x3_1).f0)] (by rfl) rfl rfl Ag ?_
                      with_reducible refine (spec_NameRight.calls k1 ((rd_T144 l0 x3_1).f0) true _ A4.out).mono ?_
                      rintro e w' ⟨rfl, ⟨nd, rfl⟩⟩
                      refine ⟨_, rfl, ?_⟩
                      refine hK.out _ _ ⟨(bz HB.out hw349_0), (bz HB.out hw349_1), (bz HB.out hw351_0), (bz HB.out hw351_1), (bz HB.out hw352_0), (bz HB.out hw352_1), (bz HB.out hw353_0), (bz HB.out hw353_1)⟩ (fun hHeld => ?_)
                      clear hK K
                      refine norm_ (a' := ?_) ?_ ?_
                      rotate_left
                      · show Act.put _ (some 15) _ = _
                        simp only [Act.put, List.setIfInBounds_toArray, List.set_cons_zero, List.set_cons_succ, i64_w, i32_w]
                        rfl
                      refine pu 6 16 (bv 34 127) HT_.out (h := ?_)
                      refine pu 7 17 (bv 34 255) HT_.out (h := ?_)
                      refine pu 8 18 (bv 34 511) HT_.out (h := ?_)
                      refine pu 9 19 (bv 34 1023) HT_.out (h := ?_)
                      refine pu 10 20 (bv 34 2047) HT_.out (h := ?_)
                      refine pu 11 21 (bv 34 4095) HT_.out (h := ?_)
                      refine pu 12 22 (bv 34 8191) HT_.out (h := ?_)
                      refine pu 13 23 (bv 34 16383) HT_.out (h := ?_)
                      refine pu 14 24 (bv 34 32767) HT_.out (h := ?_)
                      refine pu 15 25 (bv 34 65535) HT_.out (h := ?_)
                      refine pu 17 27 (bv 34 196607) HT_.out (h := ?_)
                      refine pu 18 28 (bv 34 458751) HT_.out (h := ?_)
                      refine pu 19 29 (bv 34 983039) HT_.out (h := ?_)
                      refine pu 20 30 (bv 34 2031615) HT_.out (h := ?_)
                      refine tk 16 26 (bv 34 2097151) HT_.out HW_.out hHeld (h := ?_)
                      refine tk 21 31 (bv 34 4194303) HT_.out HW_.out hHeld (h := ?_)
                      refine pu 22 32 (bv 34 8388607) HT_.out (h := ?_)
                      refine pu 23 33 (bv 34 16777215) HT_.out (h := ?_)
                      refine pu 24 34 (bv 34 33554431) HT_.out (h := ?_)
                      refine pu 25 35 (bv 34 67108863) HT_.out (h := ?_)
                      refine pu 26 36 (bv 34 134217727) HT_.out (h := ?_)
                      refine pu 27 37 (bv 34 268435455) HT_.out (h := ?_)
                      refine pu 28 38 (bv 34 536870911) HT_.out (h := ?_)
                      refine pu 29 39 (bv 34 1073741823) HT_.out (h := ?_)
                      refine tk 30 40 (bv 34 2147483647) HT_.out HW_.out hHeld (h := ?_)
                      refine one_ (i := 31) (N := some 41) (bv 34 4294967295) rfl rfl (one_of HT_.out (by kernel_rfl)) (by decide) (fun K hK => ?_)
                      refine goes_ Tryd.func155 (by kernel_rfl) rfl #[.slice A349_1 ((rd_T144 l0 x3_1).f1).length c349_1] (by rfl) rfl rfl Ag ?_
                      with_reducible refine (spec_l03Values.calls k1 _ _ ((rd_T144 l0 x3_1).f1) true _ ?side1 ?side2 A11.out).mono ?_
                      (case side1 => repeat (first | exact (Kd.C_below HR353_1.out By) | (with_reducible refine Kd.C_alloc ?_ _) | (with_reducible refine Kd.C_drewN ?_ _) | (with_reducible refine Kd.C_drew ?_)))
                      (case side2 => exact HC353_1.out)
                      rintro e w14 ⟨rfl, hb⟩
                      refine ⟨_, rfl, ?_⟩
                      have n0_ := Aside0.mk (below_step By hb)
                      clear HB
                      have HB := n0_
                      clear n0_
                      (try clear hb)
                      (try clear hb2)
                      (try clear hk)
                      (try clear hi)
                      refine hK.out _ _ ⟨(bz HB.out hw349_0), (bz HB.out hw349_1), (bz HB.out hw351_0), (bz HB.out hw351_1), (bz HB.out hw352_0), (bz HB.out hw352_1), (bz HB.out hw353_0), (bz HB.out hw353_1)⟩ (fun hHeld => ?_)
                      clear hK K
                      refine norm_ (a' := ?_) ?_ ?_
                      rotate_left
                      · show Act.put _ (some 41) _ = _
                        simp only [Act.put, List.setIfInBounds_toArray, List.set_cons_zero, List.set_cons_succ, i64_w, i32_w]
                        rfl
                      refine pu 32 42 (bv 34 8589934591) HT_.out (h := ?_)
                      refine pu 33 43 (bv 34 17179869183) HT_.out (h := ?_)
                      refine done_ (done_of HT_.out (by kernel_rfl)) ?_
                      try go_wp2
                      go_roundg k1
                      case measure => have := HK1.out; omega
                      case rel => exact ⟨(wrap64 (x3_1 + 1)), (by first | rfl | (simp; done) | (simp [*]; done)), H', ⟨by have := HK1.out; omega⟩, ⟨By⟩⟩
                    · replace c12 := Bool.eq_false_iff.mpr c12
                      subst c12
                      have H1 : (some false) = some r := by rw [if_neg (show ¬ (false = true) by decide)] at H; exact H
                      clear H
                      have H := H1
                      clear H1
                      obtain rfl := Option.some.inj H
                      try go_wp2
                      have n0_ := Aside0.mk (below_drew1 HB.out)
                      clear HB
                      have HB := n0_
                      clear n0_
                      have p349 : 0 ≤ (x3_1 : Int) := of_decide_eq_true Da
                      have q349 : x3_1 < (l0.length : Int) := of_decide_eq_true Da
                      obtain ⟨ad349, A349_1, c349_1, e349, hx349_0, hx349_1, hl349_1, hi349_1⟩ := at_T144 HR0.out x3_1 p349 q349
                      have hw349_1 := hx349_1
                      have hw349_0 := hx349_0
                      cases e349
                      replace hx349_0 := bz HB.out hx349_0
                      replace hx349_1 := bz HB.out hx349_1
                      have HR349_1 := Aside0.mk hi349_1
                      have HC349_1 := Aside0.mk hl349_1
                      clear hi349_1 hl349_1
                      replace p349 := eq_true p349
                      replace q349 := eq_true q349
                      have p351 : 0 ≤ ((ji7) : Int) := of_decide_eq_true Da
                      have q351 : (ji7) < (l0.length : Int) := of_decide_eq_true Da
                      obtain ⟨ad351, A351_1, c351_1, e351, hx351_0, hx351_1, hl351_1, hi351_1⟩ := at_T144 HR0.out (ji7) p351 q351
                      have hw351_1 := hx351_1
                      have hw351_0 := hx351_0
                      obtain rfl : ad349 = ad351 := (by injection e351)
                      replace hx351_0 := bz HB.out hx351_0
                      replace hx351_1 := bz HB.out hx351_1
                      have HR351_1 := Aside0.mk hi351_1
                      have HC351_1 := Aside0.mk hl351_1
                      clear hi351_1 hl351_1
                      replace p351 := eq_true p351
                      replace q351 := eq_true q351
                      have p352 : 0 ≤ (x3_1 : Int) := of_decide_eq_true Da
                      have q352 : x3_1 < (l0.length : Int) := of_decide_eq_true Da
                      obtain ⟨ad352, A352_1, c352_1, e352, hx352_0, hx352_1, hl352_1, hi352_1⟩ := at_T144 HR0.out x3_1 p352 q352
                      have hw352_1 := hx352_1
                      have hw352_0 := hx352_0
                      obtain rfl : ad349 = ad352 := (by injection e352)
                      replace hx352_0 := bz HB.out hx352_0
                      replace hx352_1 := bz HB.out hx352_1
                      have HR352_1 := Aside0.mk hi352_1
                      have HC352_1 := Aside0.mk hl352_1
                      clear hi352_1 hl352_1
                      replace p352 := eq_true p352
                      replace q352 := eq_true q352
                      have ea_ := Option.some.inj (hx349_1.symm.trans hx352_1)
                      injection ea_ with ea_ en_ ec_
                      subst ea_
                      subst ec_
                      clear en_
                      have p353 : 0 ≤ (x3_1 : Int) := of_decide_eq_true Da
                      have q353 : x3_1 < (l0.length : Int) := of_decide_eq_true Da
                      obtain ⟨ad353, A353_1, c353_1, e353, hx353_0, hx353_1, hl353_1, hi353_1⟩ := at_T144 HR0.out x3_1 p353 q353
                      have hw353_1 := hx353_1
                      have hw353_0 := hx353_0
                      obtain rfl : ad349 = ad353 := (by injection e353)
                      replace hx353_0 := bz HB.out hx353_0
                      replace hx353_1 := bz HB.out hx353_1
                      have HR353_1 := Aside0.mk hi353_1
                      have HC353_1 := Aside0.mk hl353_1
                      clear hi353_1 hl353_1
                      replace p353 := eq_true p353
                      replace q353 := eq_true q353
                      have ea_ := Option.some.inj (hx349_1.symm.trans hx353_1)
                      injection ea_ with ea_ en_ ec_
                      subst ea_
                      subst ec_
                      clear en_
                      refine start_ (n := 34) (S := fun w' => w'.cell? (ad349.add ((x3_1).toNat * 2)) = some (.string ((rd_T144 l0 x3_1).f0)) ∧ w'.cell? ⟨(ad349.add ((x3_1).toNat * 2)).block, (ad349.add ((x3_1).toNat * 2)).off + 1, none⟩ = some (.slice A349_1 ((rd_T144 l0 x3_1).f1).length c349_1) ∧ w'.cell? (ad349.add (((ji7)).toNat * 2)) = some (.string ((rd_T144 l0 (ji7)).f0)) ∧ w'.cell? ⟨(ad349.add (((ji7)).toNat * 2)).block, (ad349.add (((ji7)).toNat * 2)).off + 1, none⟩ = some (.slice A351_1 ((rd_T144 l0 (ji7)).f1).length c351_1) ∧ w'.cell? (ad349.add ((x3_1).toNat * 2)) = some (.string ((rd_T144 l0 x3_1).f0)) ∧ w'.cell? ⟨(ad349.add ((x3_1).toNat * 2)).block, (ad349.add ((x3_1).toNat * 2)).off + 1, none⟩ = some (.slice A349_1 ((rd_T144 l0 x3_1).f1).length c349_1) ∧ w'.cell? (ad349.add ((x3_1).toNat * 2)) = some (.string ((rd_T144 l0 x3_1).f0)) ∧ w'.cell? ⟨(ad349.add ((x3_1).toNat * 2)).block, (ad349.add ((x3_1).toNat * 2)).off + 1, none⟩ = some (.slice A349_1 ((rd_T144 l0 x3_1).f1).length c349_1)) (ds := []) (bv 34 0) (by kernel_rfl) rfl rfl ⟨(bz HB.out hw349_0), (bz HB.out hw349_1), (bz HB.out hw351_0), (bz HB.out hw351_1), (bz HB.out hw352_0), (bz HB.out hw352_1), (bz HB.out hw353_0), (bz HB.out hw353_1)⟩ (fun hHeld => ?_); refine with_tabW spec_l03Attrs.tab4 spec_l03Attrs.bits4 (fun HT_ HW_ => ?_)
                      generalize wr.drew = w15 at HB HR349_1 HR351_1 HR352_1 HR353_1 hx349_0 hx349_1 hx351_0 hx351_1 hx352_0 hx352_1 hx353_0 hx353_1 hHeld ⊢
                      refine pu 0 10 (bv 34 1) HT_.out (h := ?_)
                      refine pu 1 11 (bv 34 3) HT_.out (h := ?_)
                      refine pu 2 12 (bv 34 7) HT_.out (h := ?_)
                      refine pu 3 13 (bv 34 15) HT_.out (h := ?_)
                      refine tk 4 14 (bv 34 31) HT_.out HW_.out hHeld (h := ?_)
                      refine one_ (i := 5) (N := some 15) (bv 34 63) rfl rfl (one_of HT_.out (by kernel_rfl)) (by decide) (fun K hK => ?_)
                      refine goes_ Tryd.func143 (by kernel_rfl) rfl #[.string ((rd_T144 l0 x3_1).f0)] (by rfl) rfl rfl Ag ?_
                      with_reducible refine (spec_NameRight.calls k1 ((rd_T144 l0 x3_1).f0) true _ A4.out).mono ?_
                      rintro e w' ⟨rfl, ⟨nd, rfl⟩⟩
                      refine ⟨_, rfl, ?_⟩
                      refine hK.out _ _ ⟨(bz HB.out hw349_0), (bz HB.out hw349_1), (bz HB.out hw351_0), (bz HB.out hw351_1), (bz HB.out hw352_0), (bz HB.out hw352_1), (bz HB.out hw353_0), (bz HB.out hw353_1)⟩ (fun hHeld => ?_)
                      clear hK K
                      refine norm_ (a' := ?_) ?_ ?_
                      rotate_left
                      · show Act.put _ (some 15) _ = _
                        simp only [Act.put, List.setIfInBounds_toArray, List.set_cons_zero, List.set_cons_succ, i64_w, i32_w]
                        rfl
                      refine pu 6 16 (bv 34 127) HT_.out (h := ?_)
                      refine pu 7 17 (bv 34 255) HT_.out (h := ?_)
                      refine pu 8 18 (bv 34 511) HT_.out (h := ?_)
                      refine pu 9 19 (bv 34 1023) HT_.out (h := ?_)
                      refine pu 10 20 (bv 34 2047) HT_.out (h := ?_)
                      refine pu 11 21 (bv 34 4095) HT_.out (h := ?_)
                      refine pu 12 22 (bv 34 8191) HT_.out (h := ?_)
                      refine pu 13 23 (bv 34 16383) HT_.out (h := ?_)
                      refine pu 14 24 (bv 34 32767) HT_.out (h := ?_)
                      refine pu 15 25 (bv 34 65535) HT_.out (h := ?_)
                      refine pu 17 27 (bv 34 196607) HT_.out (h := ?_)
                      refine pu 18 28 (bv 34 458751) HT_.out (h := ?_)
                      refine pu 19 29 (bv 34 983039) HT_.out (h := ?_)
                      refine pu 20 30 (bv 34 2031615) HT_.out (h := ?_)
                      refine tk 16 26 (bv 34 2097151) HT_.out HW_.out hHeld (h := ?_)
                      refine tk 21 31 (bv 34 4194303) HT_.out HW_.out hHeld (h := ?_)
                      refine pu 22 32 (bv 34 8388607) HT_.out (h := ?_)
                      refine pu 23 33 (bv 34 16777215) HT_.out (h := ?_)
                      refine pu 24 34 (bv 34 33554431) HT_.out (h := ?_)
                      refine pu 25 35 (bv 34 67108863) HT_.out (h := ?_)
                      refine pu 26 36 (bv 34 134217727) HT_.out (h := ?_)
                      refine pu 27 37 (bv 34 268435455) HT_.out (h := ?_)
                      refine pu 28 38 (bv 34 536870911) HT_.out (h := ?_)
                      refine pu 29 39 (bv 34 1073741823) HT_.out (h := ?_)
                      refine tk 30 40 (bv 34 2147483647) HT_.out HW_.out hHeld (h := ?_)
                      refine one_ (i := 31) (N := some 41) (bv 34 4294967295) rfl rfl (one_of HT_.out (by kernel_rfl)) (by decide) (fun K hK => ?_)
                      refine goes_ Tryd.func155 (by kernel_rfl) rfl #[.slice A349_1 ((rd_T144 l0 x3_1).f1).length c349_1] (by rfl) rfl rfl Ag ?_
                      with_reducible refine (spec_l03Values.calls k1 _ _ ((rd_T144 l0 x3_1).f1) false _ ?side1 ?side2 A11.out).mono ?_
                      (case side1 => repeat (first | exact (Kd.C_below HR353_1.out By) | (with_reducible refine Kd.C_alloc ?_ _) | (with_reducible refine Kd.C_drewN ?_ _) | (with_reducible refine Kd.C_drew ?_)))
                      (case side2 => exact HC353_1.out)
                      rintro e w16 ⟨rfl, hb⟩
                      refine ⟨_, rfl, ?_⟩
                      have n0_ := Aside0.mk (below_step By hb)
                      clear HB
                      have HB := n0_
                      clear n0_
                      (try clear hb)
                      (try clear hb2)
                      (try clear hk)
                      (try clear hi)
                      refine hK.out _ _ ⟨(bz HB.out hw349_0), (bz HB.out hw349_1), (bz HB.out hw351_0), (bz HB.out hw351_1), (bz HB.out hw352_0), (bz HB.out hw352_1), (bz HB.out hw353_0), (bz HB.out hw353_1)⟩ (fun hHeld => ?_)
                      clear hK K
                      refine norm_ (a' := ?_) ?_ ?_
                      rotate_left
                      · show Act.put _ (some 41) _ = _
                        simp only [Act.put, List.setIfInBounds_toArray, List.set_cons_zero, List.set_cons_succ, i64_w, i32_w]
                        rfl
                      refine pu 32 42 (bv 34 8589934591) HT_.out (h := ?_)
                      refine pu 33 43 (bv 34 17179869183) HT_.out (h := ?_)
                      refine done_ (done_of HT_.out (by kernel_rfl)) ?_
                      try go_wp2
                      go_ret
                      exact ⟨by first | rfl | (simp [errW_none, errW_some] <;> rfl) | (simp only [← hji7]; first | rfl | (simp [errW_none, errW_some] <;> rfl)) | (simp [*, errW_none, errW_some] <;> first | rfl | (rw [Bool.eq_iff_iff]; simp)), By⟩
                  · rw [if_neg c10] at H
                    have c10b0 : (Op.bytesLess (((rd_T144 l0 (ji7)).f0).toList) (((rd_T144 l0 x3_1).f0).toList)) = false := by simpa using c10
                    clear c10
                    obtain rfl := Option.some.inj H
                    try go_wp2
                    have n0_ := Aside0.mk (below_drew1 HB.out)
                    clear HB
                    have HB := n0_
                    clear n0_
                    have p349 : 0 ≤ (x3_1 : Int) := of_decide_eq_true Da
                    have q349 : x3_1 < (l0.length : Int) := of_decide_eq_true Da
                    obtain ⟨ad349, A349_1, c349_1, e349, hx349_0, hx349_1, hl349_1, hi349_1⟩ := at_T144 HR0.out x3_1 p349 q349
                    have hw349_1 := hx349_1
                    have hw349_0 := hx349_0
                    cases e349
                    replace hx349_0 := bz HB.out hx349_0
                    replace hx349_1 := bz HB.out hx349_1
                    have HR349_1 := Aside0.mk hi349_1
                    have HC349_1 := Aside0.mk hl349_1
                    clear hi349_1 hl349_1
                    replace p349 := eq_true p349
                    replace q349 := eq_true q349
                    have p351 : 0 ≤ ((ji7) : Int) := of_decide_eq_true Da
                    have q351 : (ji7) < (l0.length : Int) := of_decide_eq_true Da
                    obtain ⟨ad351, A351_1, c351_1, e351, hx351_0, hx351_1, hl351_1, hi351_1⟩ := at_T144 HR0.out (ji7) p351 q351
                    have hw351_1 := hx351_1
                    have hw351_0 := hx351_0
                    obtain rfl : ad349 = ad351 := (by injection e351)
                    replace hx351_0 := bz HB.out hx351_0
                    replace hx351_1 := bz HB.out hx351_1
                    have HR351_1 := Aside0.mk hi351_1
                    have HC351_1 := Aside0.mk hl351_1
                    clear hi351_1 hl351_1
                    replace p351 := eq_true p351
                    replace q351 := eq_true q351
                    have p352 : 0 ≤ (x3_1 : Int) := of_decide_eq_true Da
                    have q352 : x3_1 < (l0.length : Int) := of_decide_eq_true Da
                    obtain ⟨ad352, A352_1, c352_1, e352, hx352_0, hx352_1, hl352_1, hi352_1⟩ := at_T144 HR0.out x3_1 p352 q352
                    have hw352_1 := hx352_1
                    have hw352_0 := hx352_0
                    obtain rfl : ad349 = ad352 := (by injection e352)
                    replace hx352_0 := bz HB.out hx352_0
                    replace hx352_1 := bz HB.out hx352_1
                    have HR352_1 := Aside0.mk hi352_1
                    have HC352_1 := Aside0.mk hl352_1
                    clear hi352_1 hl352_1
                    replace p352 := eq_true p352
                    replace q352 := eq_true q352
                    have ea_ := Option.some.inj (hx349_1.symm.trans hx352_1)
                    injection ea_ with ea_ en_ ec_
                    subst ea_
                    subst ec_
                    clear en_
                    refine start_ (n := 34) (S := fun w' => w'.cell? (ad349.add ((x3_1).toNat * 2)) = some (.string ((rd_T144 l0 x3_1).f0)) ∧ w'.cell? ⟨(ad349.add ((x3_1).toNat * 2)).block, (ad349.add ((x3_1).toNat * 2)).off + 1, none⟩ = some (.slice A349_1 ((rd_T144 l0 x3_1).f1).length c349_1) ∧ w'.cell? (ad349.add (((ji7)).toNat * 2)) = some (.string ((rd_T144 l0 (ji7)).f0)) ∧ w'.cell? ⟨(ad349.add (((ji7)).toNat * 2)).block, (ad349.add (((ji7)).toNat * 2)).off + 1, none⟩ = some (.slice A351_1 ((rd_T144 l0 (ji7)).f1).length c351_1) ∧ w'.cell? (ad349.add ((x3_1).toNat * 2)) = some (.string ((rd_T144 l0 x3_1).f0)) ∧ w'.cell? ⟨(ad349.add ((x3_1).toNat * 2)).block, (ad349.add ((x3_1).toNat * 2)).off + 1, none⟩ = some (.slice A349_1 ((rd_T144 l0 x3_1).f1).length c349_1)) (ds := []) (bv 34 0) (by kernel_rfl) rfl rfl ⟨(bz HB.out hw349_0), (bz HB.out hw349_1), (bz HB.out hw351_0), (bz HB.out hw351_1), (bz HB.out hw352_0), (bz HB.out hw352_1)⟩ (fun hHeld => ?_); refine with_tabW spec_l03Attrs.tab4 spec_l03Attrs.bits4 (fun HT_ HW_ => ?_)
                    generalize wr.drew = w17 at HB HR349_1 HR351_1 HR352_1 hx349_0 hx349_1 hx351_0 hx351_1 hx352_0 hx352_1 hHeld ⊢
                    refine pu 0 10 (bv 34 1) HT_.out (h := ?_)
                    refine pu 1 11 (bv 34 3) HT_.out (h := ?_)
                    refine pu 2 12 (bv 34 7) HT_.out (h := ?_)
                    refine pu 3 13 (bv 34 15) HT_.out (h := ?_)
                    refine tk 4 14 (bv 34 31) HT_.out HW_.out hHeld (h := ?_)
                    refine one_ (i := 5) (N := some 15) (bv 34 63) rfl rfl (one_of HT_.out (by kernel_rfl)) (by decide) (fun K hK => ?_)
                    refine goes_ Tryd.func143 (by kernel_rfl) rfl #[.string ((rd_T144 l0 x3_1).f0)] (by rfl) rfl rfl Ag ?_
                    with_reducible refine (spec_NameRight.calls k1 ((rd_T144 l0 x3_1).f0) true _ A4.out).mono ?_
                    rintro e w' ⟨rfl, ⟨nd, rfl⟩⟩
                    refine ⟨_, rfl, ?_⟩
                    refine hK.out _ _ ⟨(bz HB.out hw349_0), (bz HB.out hw349_1), (bz HB.out hw351_0), (bz HB.out hw351_1), (bz HB.out hw352_0), (bz HB.out hw352_1)⟩ (fun hHeld => ?_)
                    clear hK K
                    refine norm_ (a' := ?_) ?_ ?_
                    rotate_left
                    · show Act.put _ (some 15) _ = _
                      simp only [Act.put, List.setIfInBounds_toArray, List.set_cons_zero, List.set_cons_succ, i64_w, i32_w]
                      rfl
                    refine pu 6 16 (bv 34 127) HT_.out (h := ?_)
                    refine pu 7 17 (bv 34 255) HT_.out (h := ?_)
                    refine pu 8 18 (bv 34 511) HT_.out (h := ?_)
                    refine pu 9 19 (bv 34 1023) HT_.out (h := ?_)
                    refine pu 10 20 (bv 34 2047) HT_.out (h := ?_)
                    refine pu 11 21 (bv 34 4095) HT_.out (h := ?_)
                    refine pu 12 22 (bv 34 8191) HT_.out (h := ?_)
                    refine pu 13 23 (bv 34 16383) HT_.out (h := ?_)
                    refine pu 14 24 (bv 34 32767) HT_.out (h := ?_)
                    refine pu 15 25 (bv 34 65535) HT_.out (h := ?_)
                    refine pu 17 27 (bv 34 196607) HT_.out (h := ?_)
                    refine pu 18 28 (bv 34 458751) HT_.out (h := ?_)
                    refine pu 19 29 (bv 34 983039) HT_.out (h := ?_)
                    refine pu 20 30 (bv 34 2031615) HT_.out (h := ?_)
                    refine tk 16 26 (bv 34 2097151) HT_.out HW_.out hHeld (h := ?_)
                    refine tk 21 31 (bv 34 4194303) HT_.out HW_.out hHeld (h := ?_)
                    refine pu 22 32 (bv 34 8388607) HT_.out (h := ?_)
                    refine pu 23 33 (bv 34 16777215) HT_.out (h := ?_)
                    refine pu 24 34 (bv 34 33554431) HT_.out (h := ?_)
                    refine pu 25 35 (bv 34 67108863) HT_.out (h := ?_)
                    refine pn 26 36 (bv 34 134217727) HT_.out (h := ?_)
                    refine pn 27 37 (bv 34 268435455) HT_.out (h := ?_)
                    refine pn 28 38 (bv 34 536870911) HT_.out (h := ?_)
                    refine pn 29 39 (bv 34 1073741823) HT_.out (h := ?_)
                    refine pn 30 40 (bv 34 2147483647) HT_.out (h := ?_)
                    refine pn 31 41 (bv 34 4294967295) HT_.out (h := ?_)
                    refine pn 32 42 (bv 34 8589934591) HT_.out (h := ?_)
                    refine pu 33 43 (bv 34 17179869183) HT_.out (h := ?_)
                    refine done_ (done_of HT_.out (by kernel_rfl)) ?_
                    try go_wp2
                    go_ret
                    exact ⟨by first | rfl | (simp [errW_none, errW_some] <;> rfl) | (simp only [← hji7]; first | rfl | (simp [errW_none, errW_some] <;> rfl)) | (simp [*, errW_none, errW_some] <;> first | rfl | (rw [Bool.eq_iff_iff]; simp)), By⟩
                · rw [if_neg c9] at H
                  exact absurd H (by simp)
              · rw [if_neg c8] at H
                exact absurd H (by simp)
            · rw [if_neg c6] at H
              have c6b0 : decide (0 < x3_1) = false := decide_eq_false c6
              clear c6
              replace H := Option.bind_eq_some_iff.mp H
              obtain ⟨t356, A180, H⟩ := H
              replace H : (if t356 = true then (spec_l03Attrs.l0 k1 l0 (wrap64 (x3_1 + 1))) else (some false)) = some r := H
              have A18 := Aside0.mk A180
              clear A180
              by_cases c19 : t356 = true
              · subst c19
                have H1 : (spec_l03Attrs.l0 k1 l0 (wrap64 (x3_1 + 1))) = some r := by rw [if_pos rfl] at H; exact H
                clear H
                have H := H1
                clear H1
                have H' := Aside0.mk H
                clear H
                try go_wp2
                have n0_ := Aside0.mk (below_drew1 HB.out)
                clear HB
                have HB := n0_
                clear n0_
                have p349 : 0 ≤ (x3_1 : Int) := of_decide_eq_true Da
                have q349 : x3_1 < (l0.length : Int) := of_decide_eq_true Da
                obtain ⟨ad349, A349_1, c349_1, e349, hx349_0, hx349_1, hl349_1, hi349_1⟩ := at_T144 HR0.out x3_1 p349 q349
                have hw349_1 := hx349_1
                have hw349_0 := hx349_0
                cases e349
                replace hx349_0 := bz HB.out hx349_0
                replace hx349_1 := bz HB.out hx349_1
                have HR349_1 := Aside0.mk hi349_1
                have HC349_1 := Aside0.mk hl349_1
                clear hi349_1 hl349_1
                replace p349 := eq_true p349
                replace q349 := eq_true q349
                have p355 : 0 ≤ (x3_1 : Int) := of_decide_eq_true Da
                have q355 : x3_1 < (l0.length : Int) := of_decide_eq_true Da
                obtain ⟨ad355, A355_1, c355_1, e355, hx355_0, hx355_1, hl355_1, hi355_1⟩ := at_T144 HR0.out x3_1 p355 q355
                have hw355_1 := hx355_1
                have hw355_0 := hx355_0
                obtain rfl : ad349 = ad355 := (by injection e355)
                replace hx355_0 := bz HB.out hx355_0
                replace hx355_1 := bz HB.out hx355_1
                have HR355_1 := Aside0.mk hi355_1
                have HC355_1 := Aside0.mk hl355_1
                clear hi355_1 hl355_1
                replace p355 := eq_true p355
                replace q355 := eq_true q355
                have ea_ := Option.some.inj (hx349_1.symm.trans hx355_1)
                injection ea_ with ea_ en_ ec_
                subst ea_
                subst ec_
                clear en_
                refine start_ (n := 34) (S := fun w' => w'.cell? (ad349.add ((x3_1).toNat * 2)) = some (.string ((rd_T144 l0 x3_1).f0)) ∧ w'.cell? ⟨(ad349.add ((x3_1).toNat * 2)).block, (ad349.add ((x3_1).toNat * 2)).off + 1, none⟩ = some (.slice A349_1 ((rd_T144 l0 x3_1).f1).length c349_1) ∧ w'.cell? (ad349.add ((x3_1).toNat * 2)) = some (.string ((rd_T144 l0 x3_1).f0)) ∧ w'.cell? ⟨(ad349.add ((x3_1).toNat * 2)).block, (ad349.add ((x3_1).toNat * 2)).off + 1, none⟩ = some (.slice A349_1 ((rd_T144 l0 x3_1).f1).length c349_1)) (ds := []) (bv 34 0) (by kernel_rfl) rfl rfl ⟨(bz HB.out hw349_0), (bz HB.out hw349_1), (bz HB.out hw355_0), (bz HB.out hw355_1)⟩ (fun hHeld => ?_); refine with_tabW spec_l03Attrs.tab4 spec_l03Attrs.bits4 (fun HT_ HW_ => ?_)
                generalize wr.drew = w20 at HB HR349_1 HR355_1 hx349_0 hx349_1 hx355_0 hx355_1 hHeld ⊢
                refine pu 0 10 (bv 34 1) HT_.out (h := ?_)
                refine pu 1 11 (bv 34 3) HT_.out (h := ?_)
                refine pu 2 12 (bv 34 7) HT_.out (h := ?_)
                refine pu 3 13 (bv 34 15) HT_.out (h := ?_)
                refine tk 4 14 (bv 34 31) HT_.out HW_.out hHeld (h := ?_)
                refine one_ (i := 5) (N := some 15) (bv 34 63) rfl rfl (one_of HT_.out (by kernel_rfl)) (by decide) (fun K hK => ?_)
                refine goes_ Tryd.func143 (by kernel_rfl) rfl #[.string ((rd_T144 l0 x3_1).f0)] (by rfl) rfl rfl Ag ?_
                with_reducible refine (spec_NameRight.calls k1 ((rd_T144 l0 x3_1).f0) true _ A4.out).mono ?_
                rintro e w' ⟨rfl, ⟨nd, rfl⟩⟩
                refine ⟨_, rfl, ?_⟩
                refine hK.out _ _ ⟨(bz HB.out hw349_0), (bz HB.out hw349_1), (bz HB.out hw355_0), (bz HB.out hw355_1)⟩ (fun hHeld => ?_)
                clear hK K
                refine norm_ (a' := ?_) ?_ ?_
                rotate_left
                · show Act.put _ (some 15) _ = _
                  simp only [Act.put, List.setIfInBounds_toArray, List.set_cons_zero, List.set_cons_succ, i64_w, i32_w]
                  rfl
                refine pu 6 16 (bv 34 127) HT_.out (h := ?_)
                refine pu 7 17 (bv 34 255) HT_.out (h := ?_)
                refine pu 8 18 (bv 34 511) HT_.out (h := ?_)
                refine pu 9 19 (bv 34 1023) HT_.out (h := ?_)
                refine pu 10 20 (bv 34 2047) HT_.out (h := ?_)
                refine pn 11 21 (bv 34 4095) HT_.out (h := ?_)
                refine pn 12 22 (bv 34 8191) HT_.out (h := ?_)
                refine pn 13 23 (bv 34 16383) HT_.out (h := ?_)
                refine pn 14 24 (bv 34 32767) HT_.out (h := ?_)
                refine pn 15 25 (bv 34 65535) HT_.out (h := ?_)
                refine pn 16 26 (bv 34 131071) HT_.out (h := ?_)
                refine pn 17 27 (bv 34 262143) HT_.out (h := ?_)
                refine pn 18 28 (bv 34 524287) HT_.out (h := ?_)
                refine pn 19 29 (bv 34 1048575) HT_.out (h := ?_)
                refine pn 20 30 (bv 34 2097151) HT_.out (h := ?_)
                refine pn 21 31 (bv 34 4194303) HT_.out (h := ?_)
                refine pn 22 32 (bv 34 8388607) HT_.out (h := ?_)
                refine pu 23 33 (bv 34 16777215) HT_.out (h := ?_)
                refine pu 24 34 (bv 34 33554431) HT_.out (h := ?_)
                refine pu 25 35 (bv 34 67108863) HT_.out (h := ?_)
                refine pu 26 36 (bv 34 134217727) HT_.out (h := ?_)
                refine pu 27 37 (bv 34 268435455) HT_.out (h := ?_)
                refine pu 28 38 (bv 34 536870911) HT_.out (h := ?_)
                refine pu 29 39 (bv 34 1073741823) HT_.out (h := ?_)
                refine tk 30 40 (bv 34 2147483647) HT_.out HW_.out hHeld (h := ?_)
                refine one_ (i := 31) (N := some 41) (bv 34 4294967295) rfl rfl (one_of HT_.out (by kernel_rfl)) (by decide) (fun K hK => ?_)
                refine goes_ Tryd.func155 (by kernel_rfl) rfl #[.slice A349_1 ((rd_T144 l0 x3_1).f1).length c349_1] (by rfl) rfl rfl Ag ?_
                with_reducible refine (spec_l03Values.calls k1 _ _ ((rd_T144 l0 x3_1).f1) true _ ?side1 ?side2 A18.out).mono ?_
                (case side1 => repeat (first | exact (Kd.C_below HR355_1.out By) | (with_reducible refine Kd.C_alloc ?_ _) | (with_reducible refine Kd.C_drewN ?_ _) | (with_reducible refine Kd.C_drew ?_)))
                (case side2 => exact HC355_1.out)
                rintro e w21 ⟨rfl, hb⟩
                refine ⟨_, rfl, ?_⟩
                have n0_ := Aside0.mk (below_step By hb)
                clear HB
                have HB := n0_
                clear n0_
                (try clear hb)
                (try clear hb2)
                (try clear hk)
                (try clear hi)
                refine hK.out _ _ ⟨(bz HB.out hw349_0), (bz HB.out hw349_1), (bz HB.out hw355_0), (bz HB.out hw355_1)⟩ (fun hHeld => ?_)
                clear hK K
                refine norm_ (a' := ?_) ?_ ?_
                rotate_left
                · show Act.put _ (some 41) _ = _
                  simp only [Act.put, List.setIfInBounds_toArray, List.set_cons_zero, List.set_cons_succ, i64_w, i32_w]
                  rfl
                refine pu 32 42 (bv 34 8589934591) HT_.out (h := ?_)
                refine pu 33 43 (bv 34 17179869183) HT_.out (h := ?_)
                refine done_ (done_of HT_.out (by kernel_rfl)) ?_
                try go_wp2
                go_roundg k1
                case measure => have := HK1.out; omega
                case rel => exact ⟨(wrap64 (x3_1 + 1)), (by first | rfl | (simp; done) | (simp [*]; done)), H', ⟨by have := HK1.out; omega⟩, ⟨By⟩⟩
              · replace c19 := Bool.eq_false_iff.mpr c19
                subst c19
                have H1 : (some false) = some r := by rw [if_neg (show ¬ (false = true) by decide)] at H; exact H
                clear H
                have H := H1
                clear H1
                obtain rfl := Option.some.inj H
                try go_wp2
                have n0_ := Aside0.mk (below_drew1 HB.out)
                clear HB
                have HB := n0_
                clear n0_
                have p349 : 0 ≤ (x3_1 : Int) := of_decide_eq_true Da
                have q349 : x3_1 < (l0.length : Int) := of_decide_eq_true Da
                obtain ⟨ad349, A349_1, c349_1, e349, hx349_0, hx349_1, hl349_1, hi349_1⟩ := at_T144 HR0.out x3_1 p349 q349
                have hw349_1 := hx349_1
                have hw349_0 := hx349_0
                cases e349
                replace hx349_0 := bz HB.out hx349_0
                replace hx349_1 := bz HB.out hx349_1
                have HR349_1 := Aside0.mk hi349_1
                have HC349_1 := Aside0.mk hl349_1
                clear hi349_1 hl349_1
                replace p349 := eq_true p349
                replace q349 := eq_true q349
                have p355 : 0 ≤ (x3_1 : Int) := of_decide_eq_true Da
                have q355 : x3_1 < (l0.length : Int) := of_decide_eq_true Da
                obtain ⟨ad355, A355_1, c355_1, e355, hx355_0, hx355_1, hl355_1, hi355_1⟩ := at_T144 HR0.out x3_1 p355 q355
                have hw355_1 := hx355_1
                have hw355_0 := hx355_0
                obtain rfl : ad349 = ad355 := (by injection e355)
                replace hx355_0 := bz HB.out hx355_0
                replace hx355_1 := bz HB.out hx355_1
                have HR355_1 := Aside0.mk hi355_1
                have HC355_1 := Aside0.mk hl355_1
                clear hi355_1 hl355_1
                replace p355 := eq_true p355
                replace q355 := eq_true q355
                have ea_ := Option.some.inj (hx349_1.symm.trans hx355_1)
                injection ea_ with ea_ en_ ec_
                subst ea_
                subst ec_
                clear en_
                refine start_ (n := 34) (S := fun w' => w'.cell? (ad349.add ((x3_1).toNat * 2)) = some (.string ((rd_T144 l0 x3_1).f0)) ∧ w'.cell? ⟨(ad349.add ((x3_1).toNat * 2)).block, (ad349.add ((x3_1).toNat * 2)).off + 1, none⟩ = some (.slice A349_1 ((rd_T144 l0 x3_1).f1).length c349_1) ∧ w'.cell? (ad349.add ((x3_1).toNat * 2)) = some (.string ((rd_T144 l0 x3_1).f0)) ∧ w'.cell? ⟨(ad349.add ((x3_1).toNat * 2)).block, (ad349.add ((x3_1).toNat * 2)).off + 1, none⟩ = some (.slice A349_1 ((rd_T144 l0 x3_1).f1).length c349_1)) (ds := []) (bv 34 0) (by kernel_rfl) rfl rfl ⟨(bz HB.out hw349_0), (bz HB.out hw349_1), (bz HB.out hw355_0), (bz HB.out hw355_1)⟩ (fun hHeld => ?_); refine with_tabW spec_l03Attrs.tab4 spec_l03Attrs.bits4 (fun HT_ HW_ => ?_)
                generalize wr.drew = w22 at HB HR349_1 HR355_1 hx349_0 hx349_1 hx355_0 hx355_1 hHeld ⊢
                refine pu 0 10 (bv 34 1) HT_.out (h := ?_)
                refine pu 1 11 (bv 34 3) HT_.out (h := ?_)
                refine pu 2 12 (bv 34 7) HT_.out (h := ?_)
                refine pu 3 13 (bv 34 15) HT_.out (h := ?_)
                refine tk 4 14 (bv 34 31) HT_.out HW_.out hHeld (h := ?_)
                refine one_ (i := 5) (N := some 15) (bv 34 63) rfl rfl (one_of HT_.out (by kernel_rfl)) (by decide) (fun K hK => ?_)
                refine goes_ Tryd.func143 (by kernel_rfl) rfl #[.string ((rd_T144 l0 x3_1).f0)] (by rfl) rfl rfl Ag ?_
                with_reducible refine (spec_NameRight.calls k1 ((rd_T144 l0 x3_1).f0) true _ A4.out).mono ?_
                rintro e w' ⟨rfl, ⟨nd, rfl⟩⟩
                refine ⟨_, rfl, ?_⟩
                refine hK.out _ _ ⟨(bz HB.out hw349_0), (bz HB.out hw349_1), (bz HB.out hw355_0), (bz HB.out hw355_1)⟩ (fun hHeld => ?_)
                clear hK K
                refine norm_ (a' := ?_) ?_ ?_
                rotate_left
                · show Act.put _ (some 15) _ = _
                  simp only [Act.put, List.setIfInBounds_toArray, List.set_cons_zero, List.set_cons_succ, i64_w, i32_w]
                  rfl
                refine pu 6 16 (bv 34 127) HT_.out (h := ?_)
                refine pu 7 17 (bv 34 255) HT_.out (h := ?_)
                refine pu 8 18 (bv 34 511) HT_.out (h := ?_)
                refine pu 9 19 (bv 34 1023) HT_.out (h := ?_)
                refine pu 10 20 (bv 34 2047) HT_.out (h := ?_)
                refine pn 11 21 (bv 34 4095) HT_.out (h := ?_)
                refine pn 12 22 (bv 34 8191) HT_.out (h := ?_)
                refine pn 13 23 (bv 34 16383) HT_.out (h := ?_)
                refine pn 14 24 (bv 34 32767) HT_.out (h := ?_)
                refine pn 15 25 (bv 34 65535) HT_.out (h := ?_)
                refine pn 16 26 (bv 34 131071) HT_.out (h := ?_)
                refine pn 17 27 (bv 34 262143) HT_.out (h := ?_)
                refine pn 18 28 (bv 34 524287) HT_.out (h := ?_)
                refine pn 19 29 (bv 34 1048575) HT_.out (h := ?_)
                refine pn 20 30 (bv 34 2097151) HT_.out (h := ?_)
                refine pn 21 31 (bv 34 4194303) HT_.out (h := ?_)
                refine pn 22 32 (bv 34 8388607) HT_.out (h := ?_)
                refine pu 23 33 (bv 34 16777215) HT_.out (h := ?_)
                refine pu 24 34 (bv 34 33554431) HT_.out (h := ?_)
                refine pu 25 35 (bv 34 67108863) HT_.out (h := ?_)
                refine pu 26 36 (bv 34 134217727) HT_.out (h := ?_)
                refine pu 27 37 (bv 34 268435455) HT_.out (h := ?_)
                refine pu 28 38 (bv 34 536870911) HT_.out (h := ?_)
                refine pu 29 39 (bv 34 1073741823) HT_.out (h := ?_)
                refine tk 30 40 (bv 34 2147483647) HT_.out HW_.out hHeld (h := ?_)
                refine one_ (i := 31) (N := some 41) (bv 34 4294967295) rfl rfl (one_of HT_.out (by kernel_rfl)) (by decide) (fun K hK => ?_)
                refine goes_ Tryd.func155 (by kernel_rfl) rfl #[.slice A349_1 ((rd_T144 l0 x3_1).f1).length c349_1] (by rfl) rfl rfl Ag ?_
                with_reducible refine (spec_l03Values.calls k1 _ _ ((rd_T144 l0 x3_1).f1) false _ ?side1 ?side2 A18.out).mono ?_
                (case side1 => repeat (first | exact (Kd.C_below HR355_1.out By) | (with_reducible refine Kd.C_alloc ?_ _) | (with_reducible refine Kd.C_drewN ?_ _) | (with_reducible refine Kd.C_drew ?_)))
                (case side2 => exact HC355_1.out)
                rintro e w23 ⟨rfl, hb⟩
                refine ⟨_, rfl, ?_⟩
                have n0_ := Aside0.mk (below_step By hb)
                clear HB
                have HB := n0_
                clear n0_
                (try clear hb)
                (try clear hb2)
                (try clear hk)
                (try clear hi)
                refine hK.out _ _ ⟨(bz HB.out hw349_0), (bz HB.out hw349_1), (bz HB.out hw355_0), (bz HB.out hw355_1)⟩ (fun hHeld => ?_)
                clear hK K
                refine norm_ (a' := ?_) ?_ ?_
                rotate_left
                · show Act.put _ (some 41) _ = _
                  simp only [Act.put, List.setIfInBounds_toArray, List.set_cons_zero, List.set_cons_succ, i64_w, i32_w]
                  rfl
                refine pu 32 42 (bv 34 8589934591) HT_.out (h := ?_)
                refine pu 33 43 (bv 34 17179869183) HT_.out (h := ?_)
                refine done_ (done_of HT_.out (by kernel_rfl)) ?_
                try go_wp2
                go_ret
                exact ⟨Rf, By⟩
          · replace c5 := Bool.eq_false_iff.mpr c5
            subst c5
            have H1 : (some false) = some r := by rw [if_neg (show ¬ (false = true) by decide)] at H; exact H
            clear H
            have H := H1
            clear H1
            obtain rfl := Option.some.inj H
            try go_wp2
            have n0_ := Aside0.mk (below_drew1 HB.out)
            clear HB
            have HB := n0_
            clear n0_
            have p349 : 0 ≤ (x3_1 : Int) := of_decide_eq_true Da
            have q349 : x3_1 < (l0.length : Int) := of_decide_eq_true Da
            obtain ⟨ad349, A349_1, c349_1, e349, hx349_0, hx349_1, hl349_1, hi349_1⟩ := at_T144 HR0.out x3_1 p349 q349
            have hw349_1 := hx349_1
            have hw349_0 := hx349_0
            cases e349
            replace hx349_0 := bz HB.out hx349_0
            replace hx349_1 := bz HB.out hx349_1
            have HR349_1 := Aside0.mk hi349_1
            have HC349_1 := Aside0.mk hl349_1
            clear hi349_1 hl349_1
            replace p349 := eq_true p349
            replace q349 := eq_true q349
            refine start_ (n := 34) (S := fun w' => w'.cell? (ad349.add ((x3_1).toNat * 2)) = some (.string ((rd_T144 l0 x3_1).f0)) ∧ w'.cell? ⟨(ad349.add ((x3_1).toNat * 2)).block, (ad349.add ((x3_1).toNat * 2)).off + 1, none⟩ = some (.slice A349_1 ((rd_T144 l0 x3_1).f1).length c349_1)) (ds := []) (bv 34 0) (by kernel_rfl) rfl rfl ⟨(bz HB.out hw349_0), (bz HB.out hw349_1)⟩ (fun hHeld => ?_); refine with_tabW spec_l03Attrs.tab4 spec_l03Attrs.bits4 (fun HT_ HW_ => ?_)
            generalize wr.drew = w24 at HB HR349_1 hx349_0 hx349_1 hHeld ⊢
            refine pu 0 10 (bv 34 1) HT_.out (h := ?_)
            refine pu 1 11 (bv 34 3) HT_.out (h := ?_)
            refine pu 2 12 (bv 34 7) HT_.out (h := ?_)
            refine pu 3 13 (bv 34 15) HT_.out (h := ?_)
            refine tk 4 14 (bv 34 31) HT_.out HW_.out hHeld (h := ?_)
            refine one_ (i := 5) (N := some 15) (bv 34 63) rfl rfl (one_of HT_.out (by kernel_rfl)) (by decide) (fun K hK => ?_)
            refine goes_ Tryd.func143 (by kernel_rfl) rfl #[.string ((rd_T144 l0 x3_1).f0)] (by rfl) rfl rfl Ag ?_
            with_reducible refine (spec_NameRight.calls k1 ((rd_T144 l0 x3_1).f0) false _ A4.out).mono ?_
            rintro e w' ⟨rfl, ⟨nd, rfl⟩⟩
            refine ⟨_, rfl, ?_⟩
            refine hK.out _ _ ⟨(bz HB.out hw349_0), (bz HB.out hw349_1)⟩ (fun hHeld => ?_)
            clear hK K
            refine norm_ (a' := ?_) ?_ ?_
            rotate_left
            · show Act.put _ (some 15) _ = _
              simp only [Act.put, List.setIfInBounds_toArray, List.set_cons_zero, List.set_cons_succ, i64_w, i32_w]
              rfl
            refine pu 6 16 (bv 34 127) HT_.out (h := ?_)
            refine pu 7 17 (bv 34 255) HT_.out (h := ?_)
            refine pn 8 18 (bv 34 511) HT_.out (h := ?_)
            refine pn 9 19 (bv 34 1023) HT_.out (h := ?_)
            refine pn 10 20 (bv 34 2047) HT_.out (h := ?_)
            refine pn 11 21 (bv 34 4095) HT_.out (h := ?_)
            refine pn 12 22 (bv 34 8191) HT_.out (h := ?_)
            refine pn 13 23 (bv 34 16383) HT_.out (h := ?_)
            refine pn 14 24 (bv 34 32767) HT_.out (h := ?_)
            refine pn 15 25 (bv 34 65535) HT_.out (h := ?_)
            refine pn 16 26 (bv 34 131071) HT_.out (h := ?_)
            refine pn 17 27 (bv 34 262143) HT_.out (h := ?_)
            refine pn 18 28 (bv 34 524287) HT_.out (h := ?_)
            refine pn 19 29 (bv 34 1048575) HT_.out (h := ?_)
            refine pn 20 30 (bv 34 2097151) HT_.out (h := ?_)
            refine pn 21 31 (bv 34 4194303) HT_.out (h := ?_)
            refine pn 22 32 (bv 34 8388607) HT_.out (h := ?_)
            refine pn 23 33 (bv 34 16777215) HT_.out (h := ?_)
            refine pu 24 34 (bv 34 33554431) HT_.out (h := ?_)
            refine pu 25 35 (bv 34 67108863) HT_.out (h := ?_)
            refine pn 26 36 (bv 34 134217727) HT_.out (h := ?_)
            refine pn 27 37 (bv 34 268435455) HT_.out (h := ?_)
            refine pn 28 38 (bv 34 536870911) HT_.out (h := ?_)
            refine pn 29 39 (bv 34 1073741823) HT_.out (h := ?_)
            refine pn 30 40 (bv 34 2147483647) HT_.out (h := ?_)
            refine pn 31 41 (bv 34 4294967295) HT_.out (h := ?_)
            refine pn 32 42 (bv 34 8589934591) HT_.out (h := ?_)
            refine pu 33 43 (bv 34 17179869183) HT_.out (h := ?_)
            refine done_ (done_of HT_.out (by kernel_rfl)) ?_
            try go_wp2
            go_ret
            exact ⟨Rf, By⟩
        · rw [if_neg c3] at H
          exact absurd H (by simp)
      · rw [if_neg c2] at H
        have c2b0 : decide (x3_1 < (l0.length : Int)) = false := decide_eq_false c2
        clear c2
        obtain rfl := Option.some.inj H
        go_wp2
        go_ret
        exact ⟨Rf, By⟩

end Go.Proofs.YtpocoeghobdfiaaDoor.PG

-- WRITTEN BY A PROGRAM OF THIS SESSION (wip/gen/gen.py), by way of the kit's print program. Lean checks it.
namespace Go.Proofs.YtpocoeghobdfiaaDoor.PG
open Go.Proofs.YtpocoeghobdfiaaDoor.Sq Go.RowKit Go.Proofs.YtpocoeghobdfiaaDoorW.PrintWords Go.Proofs.YtpocoeghobdfiaaDoorW.PrintLast Go.Proofs.YtpocoeghobdfiaaDoorW.PrintMore
attribute [local go_sem] max2_int min2_int max_two min_two max_three min_three max_four min_four   -- for this text's walks alone
set_option linter.unusedVariables false
set_option linter.unusedSimpArgs false

/-! ### spec_EntryRight: function 84 -/
def spec_EntryRight.f (k : Nat) (l0_0 : List (S153)) (l0_1 : List (S144)) : Option (Bool) := if (l0_0.length : Int) > 0 then ((spec_DnRight.f k l0_0).bind fun t358 => (if t358 = true then ((spec_l03Attrs.f k l0_1).bind fun t359 => (some t359)) else (some false))) else (some false)
theorem spec_EntryRight.mono : ∀ a0 a1 k, LeO (spec_EntryRight.f k a0 a1) (spec_EntryRight.f (k + 1) a0 a1) := by
  intro a0 a1 k
  unfold spec_EntryRight.f
  repeat' first
      | (with_reducible exact spec_DnRight.mono _ _)
      | (with_reducible exact spec_l03Attrs.mono _ _)
      | (with_reducible exact LeO.refl _)
      | (with_reducible exact LeO.none _)
      | (with_reducible refine LeO.ite ?_ ?_)
      | (with_reducible refine LeO.bind ?_ (fun _ => ?_))
      | exact spec_DnRight.mono _ _
      | exact spec_l03Attrs.mono _ _
      | exact LeO.none _
      | refine LeO.ite ?_ ?_
      | refine LeO.bind ?_ (fun _ => ?_)
set_option maxHeartbeats 8000000 in
set_option maxRecDepth 100000 in
theorem spec_EntryRight.calls (k : Nat) (A0_0 : Option Addr) (c0_0 : Nat) (l0_0 : List (S153)) (A0_1 : Option Addr) (c0_1 : Nat) (l0_1 : List (S144)) (r : Bool) (w : World) (hr0_0 : Kd.C k153 w A0_0 l0_0.length l0_0) (hc0_0 : l0_0.length ≤ c0_0) (hr0_1 : Kd.C k144 w A0_1 l0_1.length l0_1) (hc0_1 : l0_1.length ≤ c0_1) (h : spec_EntryRight.f k l0_0 l0_1 = some r) :
    Calls Tryd.prog 84 #[.agg #[.slice A0_0 l0_0.length c0_0, .slice A0_1 l0_1.length c0_1]] w fun e w' => e = .returned (.bool r) ∧ Below w.heap.size w w' := by
  have hu67 := Tryd.underlying67
  have HR0_0 := Aside0.mk hr0_0
  have HC0_0 := Aside0.mk hc0_0
  clear hr0_0 hc0_0
  have HR0_1 := Aside0.mk hr0_1
  have HC0_1 := Aside0.mk hc0_1
  clear hr0_1 hc0_1
  have HB := Aside0.mk (Below.refl w.heap.size w)
  have H : (if (l0_0.length : Int) > 0 then ((spec_DnRight.f k l0_0).bind fun t358 => (if t358 = true then ((spec_l03Attrs.f k l0_1).bind fun t359 => (some t359)) else (some false))) else (some false)) = some r := h
  clear h
  by_cases c2 : (l0_0.length : Int) > 0
  · rw [if_pos c2] at H
    have c2b0 : decide (0 < (l0_0.length : Int)) = true := decide_eq_true c2
    have c2b1 : decide (0 < l0_0.length) = true := decide_eq_true (by omega)
    clear c2
    replace H := Option.bind_eq_some_iff.mp H
    obtain ⟨t358, A30, H⟩ := H
    replace H : (if t358 = true then ((spec_l03Attrs.f k l0_1).bind fun t359 => (some t359)) else (some false)) = some r := H
    have A3 := Aside0.mk A30
    clear A30
    by_cases c4 : t358 = true
    · subst c4
      have H1 : ((spec_l03Attrs.f k l0_1).bind fun t359 => (some t359)) = some r := by rw [if_pos rfl] at H; exact H
      clear H
      have H := H1
      clear H1
      replace H := Option.bind_eq_some_iff.mp H
      obtain ⟨t359, A50, H⟩ := H
      replace H : (some t359) = some r := H
      have A5 := Aside0.mk A50
      clear A50
      obtain rfl := Option.some.inj H
      go_enter Tryd.func84, Tryd.ntmps84
      go_wp2_with (first | ((with_reducible refine gate_dst (N := 1) rfl ?_); refine box_event ?hg (N := 1) ?hd (cs := #[.slice A0_0 l0_0.length c0_0, .slice A0_1 l0_1.length c0_1]) (t := 67) ?hr ?_; (case hd => rfl); (case hg => rfl); (case hr => first | (go_simp; done) | (go_simp; rfl)); intro gb357 hg w6 hbox hb; have n0_ := Aside0.mk (below_step By hb); have n1_ := Aside0.mk (hbox); have n2_ := Aside0.mk ((by rw [hg]; exact (below_size By) : w.heap.size ≤ gb357)); have n3_ := Aside0.mk ((by rw [hg]; exact (below_size By) : w.heap.size ≤ gb357)); clear HB; have HB := n0_; have BK357 := n1_; have GW357 := n2_; have GE357 := n3_; clear n0_ n1_ n2_ n3_; clear hb hbox hg; have ⟨hcz7_0, hcz7_1⟩ := cq2 BK357.out; have ⟨hfz7_0, hfz7_1⟩ := fq2 BK357.out) | (go_at_call 122; (with_reducible refine (spec_DnRight.calls k _ _ l0_0 true _ ?side1 ?side2 A3.out).mono ?_); (case side1 => repeat (first | exact (Kd.C_below HR0_0.out HB.out) | (with_reducible refine Kd.C_alloc ?_ _) | (with_reducible refine Kd.C_drewN ?_ _) | (with_reducible refine Kd.C_drew ?_))); (case side2 => exact HC0_0.out); rintro e w8 ⟨rfl, hb⟩; have n0_ := Aside0.mk (bb BK357.out hb); have n1_ := Aside0.mk (below_step By hb); clear BK357; clear HB; have BK357 := n0_; have HB := n1_; clear n0_ n1_; (try clear hb); (try clear hb2); (try clear hk); (try clear hi); have ⟨hcz9_0, hcz9_1⟩ := cq2 BK357.out; have ⟨hfz9_0, hfz9_1⟩ := fq2 BK357.out) | (go_at_call 123; (with_reducible refine (spec_l03Attrs.calls k _ _ l0_1 t359 _ ?side1 ?side2 A5.out).mono ?_); (case side1 => repeat (first | exact (Kd.C_below HR0_1.out HB.out) | (with_reducible refine Kd.C_alloc ?_ _) | (with_reducible refine Kd.C_drewN ?_ _) | (with_reducible refine Kd.C_drew ?_))); (case side2 => exact HC0_1.out); rintro e w10 ⟨rfl, hb⟩; have n0_ := Aside0.mk (bb BK357.out hb); have n1_ := Aside0.mk (below_step By hb); clear BK357; clear HB; have BK357 := n0_; have HB := n1_; clear n0_ n1_; (try clear hb); (try clear hb2); (try clear hk); (try clear hi)))
      go_ret
      exact ⟨Rf, By⟩
    · replace c4 := Bool.eq_false_iff.mpr c4
      subst c4
      have H1 : (some false) = some r := by rw [if_neg (show ¬ (false = true) by decide)] at H; exact H
      clear H
      have H := H1
      clear H1
      obtain rfl := Option.some.inj H
      go_enter Tryd.func84, Tryd.ntmps84
      go_wp2_with (first | ((with_reducible refine gate_dst (N := 1) rfl ?_); refine box_event ?hg (N := 1) ?hd (cs := #[.slice A0_0 l0_0.length c0_0, .slice A0_1 l0_1.length c0_1]) (t := 67) ?hr ?_; (case hd => rfl); (case hg => rfl); (case hr => first | (go_simp; done) | (go_simp; rfl)); intro gb357 hg w11 hbox hb; have n0_ := Aside0.mk (below_step By hb); have n1_ := Aside0.mk (hbox); have n2_ := Aside0.mk ((by rw [hg]; exact (below_size By) : w.heap.size ≤ gb357)); have n3_ := Aside0.mk ((by rw [hg]; exact (below_size By) : w.heap.size ≤ gb357)); clear HB; have HB := n0_; have BK357 := n1_; have GW357 := n2_; have GE357 := n3_; clear n0_ n1_ n2_ n3_; clear hb hbox hg; have ⟨hcz12_0, hcz12_1⟩ := cq2 BK357.out; have ⟨hfz12_0, hfz12_1⟩ := fq2 BK357.out) | (go_at_call 122; (with_reducible refine (spec_DnRight.calls k _ _ l0_0 false _ ?side1 ?side2 A3.out).mono ?_); (case side1 => repeat (first | exact (Kd.C_below HR0_0.out HB.out) | (with_reducible refine Kd.C_alloc ?_ _) | (with_reducible refine Kd.C_drewN ?_ _) | (with_reducible refine Kd.C_drew ?_))); (case side2 => exact HC0_0.out); rintro e w13 ⟨rfl, hb⟩; have n0_ := Aside0.mk (bb BK357.out hb); have n1_ := Aside0.mk (below_step By hb); clear BK357; clear HB; have BK357 := n0_; have HB := n1_; clear n0_ n1_; (try clear hb); (try clear hb2); (try clear hk); (try clear hi)))
      go_ret
      exact ⟨Rf, By⟩
  · rw [if_neg c2] at H
    have c2b0 : decide (0 < (l0_0.length : Int)) = false := decide_eq_false c2
    have c2b1 : decide (0 < l0_0.length) = false := decide_eq_false (by omega)
    clear c2
    obtain rfl := Option.some.inj H
    go_enter Tryd.func84, Tryd.ntmps84
    go_wp2_with (first | ((with_reducible refine gate_dst (N := 1) rfl ?_); refine box_event ?hg (N := 1) ?hd (cs := #[.slice A0_0 l0_0.length c0_0, .slice A0_1 l0_1.length c0_1]) (t := 67) ?hr ?_; (case hd => rfl); (case hg => rfl); (case hr => first | (go_simp; done) | (go_simp; rfl)); intro gb357 hg w14 hbox hb; have n0_ := Aside0.mk (below_step By hb); have n1_ := Aside0.mk (hbox); have n2_ := Aside0.mk ((by rw [hg]; exact (below_size By) : w.heap.size ≤ gb357)); have n3_ := Aside0.mk ((by rw [hg]; exact (below_size By) : w.heap.size ≤ gb357)); clear HB; have HB := n0_; have BK357 := n1_; have GW357 := n2_; have GE357 := n3_; clear n0_ n1_ n2_ n3_; clear hb hbox hg; have ⟨hcz15_0, hcz15_1⟩ := cq2 BK357.out; have ⟨hfz15_0, hfz15_1⟩ := fq2 BK357.out))
    go_ret
    exact ⟨Rf, By⟩

end Go.Proofs.YtpocoeghobdfiaaDoor.PG

-- WRITTEN BY A PROGRAM OF THIS SESSION (wip/gen/gen.py), by way of the kit's print program. Lean checks it.
namespace Go.Proofs.YtpocoeghobdfiaaDoor.PG
open Go.Proofs.YtpocoeghobdfiaaDoor.Sq Go.RowKit Go.Proofs.YtpocoeghobdfiaaDoorW.PrintWords Go.Proofs.YtpocoeghobdfiaaDoorW.PrintLast Go.Proofs.YtpocoeghobdfiaaDoorW.PrintMore
attribute [local go_sem] max2_int min2_int max_two min_two max_three min_three max_four min_four   -- for this text's walks alone
set_option linter.unusedVariables false
set_option linter.unusedSimpArgs false

/-! ### spec_l03At: function 136 -/
def spec_l03At.l0 : Nat → ByteArray → Int → List (S153) → List (S144) → Option (Int)
  | 0, _, _, _, _ => none
  | k + 1, x1, x5, x467000, x467001 => if x5 < (x467001.length : Int) then (if 0 ≤ x5 then (if ((rd_T144 x467001 x5).f0).toList = x1.toList then (some x5) else (spec_l03At.l0 k x1 (wrap64 (x5 + 1)) x467000 x467001)) else (none)) else (some (-1))
def spec_l03At.f (k : Nat) (l0_0 : List (S153)) (l0_1 : List (S144)) (a1 : ByteArray) : Option (Int) := spec_l03At.l0 k a1 0 l0_0 l0_1
theorem spec_l03At.mono_l : ∀ k, (∀ y0 y1 y2 y3, LeO (spec_l03At.l0 k y0 y1 y2 y3) (spec_l03At.l0 (k + 1) y0 y1 y2 y3))
  | 0 => fun _ _ _ _ r h => by simp [spec_l03At.l0] at h
  | k + 1 => by
    have ih0 := spec_l03At.mono_l k
    · intro y0 y1 y2 y3
      unfold spec_l03At.l0
      repeat' first
      | (with_reducible exact ih0 _ _ _ _)
      | (with_reducible exact LeO.refl _)
      | (with_reducible exact LeO.none _)
      | (with_reducible refine LeO.ite ?_ ?_)
      | (with_reducible refine LeO.bind ?_ (fun _ => ?_))
      | exact ih0 _ _ _ _
      | exact LeO.none _
      | refine LeO.ite ?_ ?_
      | refine LeO.bind ?_ (fun _ => ?_)
theorem spec_l03At.mono : ∀ a0 a1 a2 k, LeO (spec_l03At.f k a0 a1 a2) (spec_l03At.f (k + 1) a0 a1 a2) := by
  intro a0 a1 a2 k
  have ih0 := spec_l03At.mono_l k
  unfold spec_l03At.f
  repeat' first
      | (with_reducible exact ih0 _ _ _ _)
      | (with_reducible exact LeO.refl _)
      | (with_reducible exact LeO.none _)
      | (with_reducible refine LeO.ite ?_ ?_)
      | (with_reducible refine LeO.bind ?_ (fun _ => ?_))
      | exact ih0 _ _ _ _
      | exact LeO.none _
      | refine LeO.ite ?_ ?_
      | refine LeO.bind ?_ (fun _ => ?_)
set_option maxHeartbeats 8000000 in
set_option maxRecDepth 100000 in
theorem spec_l03At.calls (k : Nat) (A0_0 : Option Addr) (c0_0 : Nat) (l0_0 : List (S153)) (A0_1 : Option Addr) (c0_1 : Nat) (l0_1 : List (S144)) (a1 : ByteArray) (r : Int) (w : World) (hr0_0 : Kd.C k153 w A0_0 l0_0.length l0_0) (hc0_0 : l0_0.length ≤ c0_0) (hr0_1 : Kd.C k144 w A0_1 l0_1.length l0_1) (hc0_1 : l0_1.length ≤ c0_1) (h : spec_l03At.f k l0_0 l0_1 a1 = some r) :
    Calls Tryd.prog 136 #[.agg #[.slice A0_0 l0_0.length c0_0, .slice A0_1 l0_1.length c0_1], .string a1] w fun e w' => e = .returned (.int .i64 r) ∧ Below w.heap.size w w' := by
  have hu67 := Tryd.underlying67
  have HR0_0 := Aside0.mk hr0_0
  have HC0_0 := Aside0.mk hc0_0
  clear hr0_0 hc0_0
  have HR0_1 := Aside0.mk hr0_1
  have HC0_1 := Aside0.mk hc0_1
  clear hr0_1 hc0_1
  have HB := Aside0.mk (Below.refl w.heap.size w)
  have H : (spec_l03At.l0 k a1 0 l0_0 l0_1) = some r := h
  clear h
  have H' := Aside0.mk H
  clear H
  go_enter Tryd.func136, Tryd.ntmps136
  go_wp2_with (first | ((with_reducible refine gate_dst (N := 2) rfl ?_); refine box_event ?hg (N := 2) ?hd (cs := #[.slice A0_0 l0_0.length c0_0, .slice A0_1 l0_1.length c0_1]) (t := 67) ?hr ?_; (case hd => rfl); (case hg => rfl); (case hr => first | (go_simp; done) | (go_simp; rfl)); intro gb466 hg w3 hbox hb; have n0_ := Aside0.mk (below_step By hb); have n1_ := Aside0.mk (hbox); have n2_ := Aside0.mk ((by rw [hg]; exact (below_size By) : w.heap.size ≤ gb466)); have n3_ := Aside0.mk ((by rw [hg]; exact (below_size By) : w.heap.size ≤ gb466)); clear HB; have HB := n0_; have BK466 := n1_; have GW466 := n2_; have GE466 := n3_; clear n0_ n1_ n2_ n3_; clear hb hbox hg))
  go_loopg [5] k (fun kq v5 w' => ∃ (x5_1 : Int), v5 = .int .i64 x5_1 ∧ Aside0 (spec_l03At.l0 kq a1 x5_1 l0_0 l0_1 = some r) ∧ Aside0 (kq ≤ k) ∧ Aside0 (w'.heap[gb466]? = some (.cells #[(.slice A0_0 l0_0.length c0_0), (.slice A0_1 l0_1.length c0_1)] 67 (0, 0))) ∧ Aside0 (Below w.heap.size w w'))
  case atStart => exact ⟨(0), (by first | rfl | (simp; done) | (simp [*]; done)), H', ⟨Nat.le_refl _⟩, ⟨by (with_reducible repeat (first | refine blk_drewN ?_ _ | refine blk_drew ?_ | refine blk_alloc ?_ _)); exact BK466.out⟩, ⟨By⟩⟩
  case round =>
    clear H'
    try clear c1
    try clear p2
    obtain ⟨x5_1, rfl, HA, HK1, BK466, HB⟩ := hrel
    cases gk with
    | zero => exact absurd HA.out (by simp [spec_l03At.l0])
    | succ k1 =>
      have H := HA.out
      clear HA
      simp only [spec_l03At.l0] at H
      by_cases c4 : x5_1 < (l0_1.length : Int)
      · rw [if_pos c4] at H
        have c4b0 : decide (x5_1 < (l0_1.length : Int)) = true := decide_eq_true c4
        clear c4
        by_cases c5 : 0 ≤ x5_1
        · rw [if_pos c5] at H
          have c5b0 : decide (0 ≤ x5_1) = true := decide_eq_true c5
          clear c5
          by_cases c6 : ((rd_T144 l0_1 x5_1).f0).toList = a1.toList
          · rw [if_pos c6] at H
            have c6b0 : (((rd_T144 l0_1 x5_1).f0).toList == a1.toList) = true := beq_iff_eq.mpr c6
            have c6b1 : (((rd_T144 l0_1 x5_1).f0).toList != a1.toList) = false := bne_eq_false_iff_eq.mpr c6
            clear c6
            obtain rfl := Option.some.inj H
            have hcz7_0 : wr.cell? ⟨gb466, 0, none⟩ = some (.slice A0_0 l0_0.length c0_0) := bc BK466.out 0
            have hcz7_1 : wr.cell? ⟨gb466, 1, none⟩ = some (.slice A0_1 l0_1.length c0_1) := bc BK466.out 1
            have hfz7_0 := blk_frozen BK466.out 0
            have hfz7_1 := blk_frozen BK466.out 1
            have p467 : 0 ≤ (x5_1 : Int) := of_decide_eq_true Da
            have q467 : x5_1 < (l0_1.length : Int) := of_decide_eq_true Da
            obtain ⟨ad467, A467_1, c467_1, e467, hx467_0, hx467_1, hl467_1, hi467_1⟩ := at_T144 HR0_1.out x5_1 p467 q467
            cases e467
            replace hx467_0 := bz HB.out hx467_0
            replace hx467_1 := bz HB.out hx467_1
            have HR467_1 := Aside0.mk hi467_1
            have HC467_1 := Aside0.mk hl467_1
            clear hi467_1 hl467_1
            replace p467 := eq_true p467
            replace q467 := eq_true q467
            go_wp2
            go_ret
            exact ⟨Rf, By⟩
          · rw [if_neg c6] at H
            have c6b0 : (((rd_T144 l0_1 x5_1).f0).toList == a1.toList) = false := beq_eq_false_iff_ne.mpr c6
            have c6b1 : (((rd_T144 l0_1 x5_1).f0).toList != a1.toList) = true := bne_iff_ne.mpr c6
            have H' := Aside0.mk H
            clear H
            have hcz8_0 : wr.cell? ⟨gb466, 0, none⟩ = some (.slice A0_0 l0_0.length c0_0) := bc BK466.out 0
            have hcz8_1 : wr.cell? ⟨gb466, 1, none⟩ = some (.slice A0_1 l0_1.length c0_1) := bc BK466.out 1
            have hfz8_0 := blk_frozen BK466.out 0
            have hfz8_1 := blk_frozen BK466.out 1
            have p467 : 0 ≤ (x5_1 : Int) := of_decide_eq_true Da
            have q467 : x5_1 < (l0_1.length : Int) := of_decide_eq_true Da
            obtain ⟨ad467, A467_1, c467_1, e467, hx467_0, hx467_1, hl467_1, hi467_1⟩ := at_T144 HR0_1.out x5_1 p467 q467
            cases e467
            replace hx467_0 := bz HB.out hx467_0
            replace hx467_1 := bz HB.out hx467_1
            have HR467_1 := Aside0.mk hi467_1
            have HC467_1 := Aside0.mk hl467_1
            clear hi467_1 hl467_1
            replace p467 := eq_true p467
            replace q467 := eq_true q467
            go_wp2
            go_roundg k1
            case measure => have := HK1.out; omega
            case rel => exact ⟨(wrap64 (x5_1 + 1)), (by first | rfl | (simp; done) | (simp [*]; done)), H', ⟨by have := HK1.out; omega⟩, ⟨by (with_reducible repeat (first | refine blk_drewN ?_ _ | refine blk_drew ?_ | refine blk_alloc ?_ _)); exact BK466.out⟩, ⟨By⟩⟩
        · rw [if_neg c5] at H
          exact absurd H (by simp)
      · rw [if_neg c4] at H
        have c4b0 : decide (x5_1 < (l0_1.length : Int)) = false := decide_eq_false c4
        clear c4
        obtain rfl := Option.some.inj H
        have hcz9_0 : wr.cell? ⟨gb466, 0, none⟩ = some (.slice A0_0 l0_0.length c0_0) := bc BK466.out 0
        have hcz9_1 : wr.cell? ⟨gb466, 1, none⟩ = some (.slice A0_1 l0_1.length c0_1) := bc BK466.out 1
        have hfz9_0 := blk_frozen BK466.out 0
        have hfz9_1 := blk_frozen BK466.out 1
        go_wp2
        go_ret
        exact ⟨Rf, By⟩

end Go.Proofs.YtpocoeghobdfiaaDoor.PG

-- WRITTEN BY A PROGRAM OF THIS SESSION (wip/gen/gen.py), by way of the kit's print program. Lean checks it.
namespace Go.Proofs.YtpocoeghobdfiaaDoor.PG
open Go.Proofs.YtpocoeghobdfiaaDoor.Sq Go.RowKit Go.Proofs.YtpocoeghobdfiaaDoorW.PrintWords Go.Proofs.YtpocoeghobdfiaaDoorW.PrintLast Go.Proofs.YtpocoeghobdfiaaDoorW.PrintMore
attribute [local go_sem] max2_int min2_int max_two min_two max_three min_three max_four min_four   -- for this text's walks alone
set_option linter.unusedVariables false
set_option linter.unusedSimpArgs false

/-! ### spec_l03Of: function 98 -/
def spec_l03Of.f (k : Nat) (l0_0 : List (S153)) (l0_1 : List (S144)) (a1 : ByteArray) : Option (List ByteArray) := (spec_l03At.f k l0_0 l0_1 a1).bind fun t469 => (if t469 < 0 then (some ([] : List ByteArray)) else (if 0 ≤ t469 then (if t469 < (l0_1.length : Int) then (some ((rd_T144 l0_1 t469).f1)) else (none)) else (none)))
theorem spec_l03Of.mono : ∀ a0 a1 a2 k, LeO (spec_l03Of.f k a0 a1 a2) (spec_l03Of.f (k + 1) a0 a1 a2) := by
  intro a0 a1 a2 k
  unfold spec_l03Of.f
  repeat' first
      | (with_reducible exact spec_l03At.mono _ _ _ _)
      | (with_reducible exact LeO.refl _)
      | (with_reducible exact LeO.none _)
      | (with_reducible refine LeO.ite ?_ ?_)
      | (with_reducible refine LeO.bind ?_ (fun _ => ?_))
      | exact spec_l03At.mono _ _ _ _
      | exact LeO.none _
      | refine LeO.ite ?_ ?_
      | refine LeO.bind ?_ (fun _ => ?_)
set_option maxHeartbeats 8000000 in
set_option maxRecDepth 100000 in
theorem spec_l03Of.calls (k : Nat) (A0_0 : Option Addr) (c0_0 : Nat) (l0_0 : List (S153)) (P0_1_ : Nat → Prop) (A0_1 : Option Addr) (c0_1 : Nat) (l0_1 : List (S144)) (a1 : ByteArray) (r : List ByteArray) (w : World) (hr0_0 : Kd.C k153 w A0_0 l0_0.length l0_0) (hc0_0 : l0_0.length ≤ c0_0) (hs0_1 : Kd.V k144 144 w w.heap.size (fun k_ => P0_1_ k_) (.slice A0_1 l0_1.length c0_1) l0_1) (h : spec_l03Of.f k l0_0 l0_1 a1 = some r) :
    Calls Tryd.prog 98 #[.agg #[.slice A0_0 l0_0.length c0_0, .slice A0_1 l0_1.length c0_1], .string a1] w fun e w' => ∃ v0_ : Value, e = .returned (v0_) ∧ Kd.V Kd.string 9 w' w.heap.size (fun k_ => (P0_1_ k_ ∨ w.heap.size ≤ k_)) v0_ r ∧ Below w.heap.size w w' := by
  have hu67 := Tryd.underlying67
  have HR0_0 := Aside0.mk hr0_0
  have HC0_0 := Aside0.mk hc0_0
  clear hr0_0 hc0_0
  have HO0_1 := Aside0.mk (show Kd.V k144 144 w w.heap.size (fun k_ => (P0_1_ k_ ∨ w.heap.size ≤ k_)) (.slice A0_1 l0_1.length c0_1) l0_1 from Kd.V_mono hs0_1 (fun k_ hk => .inl hk))
  have HB := Aside0.mk (Below.refl w.heap.size w)
  have H : ((spec_l03At.f k l0_0 l0_1 a1).bind fun t469 => (if t469 < 0 then (some ([] : List ByteArray)) else (if 0 ≤ t469 then (if t469 < (l0_1.length : Int) then (some ((rd_T144 l0_1 t469).f1)) else (none)) else (none)))) = some r := h
  clear h
  replace H := Option.bind_eq_some_iff.mp H
  obtain ⟨t469, A30, H⟩ := H
  replace H : (if t469 < 0 then (some ([] : List ByteArray)) else (if 0 ≤ t469 then (if t469 < (l0_1.length : Int) then (some ((rd_T144 l0_1 t469).f1)) else (none)) else (none))) = some r := H
  have A3 := Aside0.mk A30
  clear A30
  by_cases c4 : t469 < 0
  · rw [if_pos c4] at H
    have c4b0 : decide (t469 < 0) = true := decide_eq_true c4
    clear c4
    obtain rfl := Option.some.inj H
    go_enter Tryd.func98, Tryd.ntmps98
    go_wp2_with (first | ((with_reducible refine gate_dst (N := 2) rfl ?_); refine box_event ?hg (N := 2) ?hd (cs := #[.slice A0_0 l0_0.length c0_0, .slice A0_1 l0_1.length c0_1]) (t := 67) ?hr ?_; (case hd => rfl); (case hg => rfl); (case hr => first | (go_simp; done) | (go_simp; rfl)); intro gb468 hg w5 hbox hb; have n0_ := Aside0.mk (Kd.V_below (Kd.V_elderB (by (with_reducible repeat (first | apply Kd.V_alloc | apply Kd.V_drewN | apply Kd.V_drew)); exact HO0_1.out) gb468 (Nat.le_of_eq hg.symm)) hb); have n1_ := Aside0.mk (below_step By hb); have n2_ := Aside0.mk (hbox); have n3_ := Aside0.mk ((by rw [hg]; exact (below_size By) : w.heap.size ≤ gb468)); have n4_ := Aside0.mk ((by rw [hg]; exact (below_size By) : w.heap.size ≤ gb468)); clear HO0_1; clear HB; have HO0_1 := n0_; have HB := n1_; have BK468 := n2_; have GW468 := n3_; have GE468 := n4_; clear n0_ n1_ n2_ n3_ n4_; clear hb hbox hg; have ⟨hcz6_0, hcz6_1⟩ := cq2 BK468.out; have ⟨hfz6_0, hfz6_1⟩ := fq2 BK468.out) | ((with_reducible refine gate_callee (f := 136) rfl ?_); refine goesL_ (some 8) rfl rfl Tryd.func136 (by kernel_rfl) rfl #[.agg #[.slice A0_0 l0_0.length c0_0, .slice A0_1 l0_1.length c0_1], .string a1] rfl Ag ?_; (with_reducible refine (spec_l03At.calls k _ _ l0_0 _ _ l0_1 a1 t469 _ ?side1 ?side2 ?side3 ?side4 A3.out).mono ?_); (case side1 => repeat (first | exact (Kd.C_below HR0_0.out HB.out) | (with_reducible refine Kd.C_alloc ?_ _) | (with_reducible refine Kd.C_drewN ?_ _) | (with_reducible refine Kd.C_drew ?_))); (case side2 => exact HC0_0.out); (case side3 => repeat (first | exact (Kd.V_reads' HO0_1.out).2.2 | (with_reducible refine Kd.C_alloc ?_ _) | (with_reducible refine Kd.C_drewN ?_ _) | (with_reducible refine Kd.C_drew ?_))); (case side4 => exact (Kd.V_reads' HO0_1.out).2.1); rintro e w7 ⟨rfl, hb⟩; refine ⟨_, rfl, ?_⟩; have n0_ := Aside0.mk (Kd.V_below (by (with_reducible repeat (first | apply Kd.V_alloc | apply Kd.V_drewN | apply Kd.V_drew)); exact HO0_1.out) hb); have n1_ := Aside0.mk (bb BK468.out hb); have n2_ := Aside0.mk (below_step By hb); clear HO0_1; clear BK468; clear HB; have HO0_1 := n0_; have BK468 := n1_; have HB := n2_; clear n0_ n1_ n2_; (try clear hb); (try clear hb2); (try clear hk); (try clear hi)))
    go_ret
    exact ⟨_, Rf, Kd.V_mono ((Kd.V_nil _ _ _ w.heap.size (fun k_ => w.heap.size ≤ k_))) (fun k_ hk => by first | exact ⟨(.inr (hk.1)), hk.2⟩ | exact (.inr (hk))), By⟩
  · rw [if_neg c4] at H
    have c4b0 : decide (t469 < 0) = false := decide_eq_false c4
    clear c4
    by_cases c8 : 0 ≤ t469
    · rw [if_pos c8] at H
      have c8b0 : decide (0 ≤ t469) = true := decide_eq_true c8
      clear c8
      by_cases c9 : t469 < (l0_1.length : Int)
      · rw [if_pos c9] at H
        have c9b0 : decide (t469 < (l0_1.length : Int)) = true := decide_eq_true c9
        clear c9
        obtain rfl := Option.some.inj H
        go_enter Tryd.func98, Tryd.ntmps98
        go_wp2_with (first | ((with_reducible refine gate_dst (N := 2) rfl ?_); refine box_event ?hg (N := 2) ?hd (cs := #[.slice A0_0 l0_0.length c0_0, .slice A0_1 l0_1.length c0_1]) (t := 67) ?hr ?_; (case hd => rfl); (case hg => rfl); (case hr => first | (go_simp; done) | (go_simp; rfl)); intro gb468 hg w10 hbox hb; have n0_ := Aside0.mk (Kd.V_below (Kd.V_elderB (by (with_reducible repeat (first | apply Kd.V_alloc | apply Kd.V_drewN | apply Kd.V_drew)); exact HO0_1.out) gb468 (Nat.le_of_eq hg.symm)) hb); have n1_ := Aside0.mk (below_step By hb); have n2_ := Aside0.mk (hbox); have n3_ := Aside0.mk ((by rw [hg]; exact (below_size By) : w.heap.size ≤ gb468)); have n4_ := Aside0.mk ((by rw [hg]; exact (below_size By) : w.heap.size ≤ gb468)); clear HO0_1; clear HB; have HO0_1 := n0_; have HB := n1_; have BK468 := n2_; have GW468 := n3_; have GE468 := n4_; clear n0_ n1_ n2_ n3_ n4_; clear hb hbox hg; have ⟨hcz11_0, hcz11_1⟩ := cq2 BK468.out; have ⟨hfz11_0, hfz11_1⟩ := fq2 BK468.out) | ((with_reducible refine gate_callee (f := 136) rfl ?_); refine goesL_ (some 8) rfl rfl Tryd.func136 (by kernel_rfl) rfl #[.agg #[.slice A0_0 l0_0.length c0_0, .slice A0_1 l0_1.length c0_1], .string a1] rfl Ag ?_; (with_reducible refine (spec_l03At.calls k _ _ l0_0 _ _ l0_1 a1 t469 _ ?side1 ?side2 ?side3 ?side4 A3.out).mono ?_); (case side1 => repeat (first | exact (Kd.C_below HR0_0.out HB.out) | (with_reducible refine Kd.C_alloc ?_ _) | (with_reducible refine Kd.C_drewN ?_ _) | (with_reducible refine Kd.C_drew ?_))); (case side2 => exact HC0_0.out); (case side3 => repeat (first | exact (Kd.V_reads' HO0_1.out).2.2 | (with_reducible refine Kd.C_alloc ?_ _) | (with_reducible refine Kd.C_drewN ?_ _) | (with_reducible refine Kd.C_drew ?_))); (case side4 => exact (Kd.V_reads' HO0_1.out).2.1); rintro e w12 ⟨rfl, hb⟩; refine ⟨_, rfl, ?_⟩; have n0_ := Aside0.mk (Kd.V_below (by (with_reducible repeat (first | apply Kd.V_alloc | apply Kd.V_drewN | apply Kd.V_drew)); exact HO0_1.out) hb); have n1_ := Aside0.mk (bb BK468.out hb); have n2_ := Aside0.mk (below_step By hb); clear HO0_1; clear BK468; clear HB; have HO0_1 := n0_; have BK468 := n1_; have HB := n2_; clear n0_ n1_ n2_; (try clear hb); (try clear hb2); (try clear hk); (try clear hi); have ⟨hcz13_0, hcz13_1⟩ := cq2 BK468.out; have ⟨hfz13_0, hfz13_1⟩ := fq2 BK468.out; have p470 : 0 ≤ (t469 : Int) := of_decide_eq_true Da; have q470 : t469 < (l0_1.length : Int) := of_decide_eq_true Da; obtain ⟨ad470, A470_1, c470_1, e470, hx470_0, hx470_1, hl470_1, hi470_1⟩ := at_T144 (Kd.V_reads' HO0_1.out).2.2 t469 p470 q470; cases e470; obtain ⟨ce470, hce470, hMe470, hcc470⟩ := Kd.V_get HO0_1.out z144 t469 p470 (by first | exact q470 | exact of_decide_eq_true Da | (have e_ := (Kd.V_reads' HO0_1.out).1; omega)); obtain ⟨ua470_1, uc470_1, rfl, ul470_1, ge470_1⟩ := k144_openF hMe470; have hv470_1 := hcc470 1 _ rfl; rw [add_field _ _ 1 (by omega)] at hv470_1; replace hv470_1 := Option.some.inj (hv470_1.symm.trans hx470_1); injection hv470_1 with hva_ hvn_ hvc_; rw [hva_] at ge470_1; rw [hvc_] at ul470_1; have HL470_1 := Aside0.mk (show Kd.V Kd.string 9 _ w.heap.size _ _ ((rd_T144 l0_1 t469).f1) from Kd.V_mk ul470_1 ge470_1); clear hva_ hvn_ hvc_ ge470_1 ul470_1; clear hcc470 hce470; have HR470_1 := Aside0.mk hi470_1; have HC470_1 := Aside0.mk hl470_1; clear hi470_1 hl470_1; replace p470 := eq_true p470; replace q470 := eq_true q470))
        go_ret
        exact ⟨_, Rf, by (with_reducible repeat (first | apply Kd.V_alloc | apply Kd.V_drewN | apply Kd.V_drew)); exact Kd.V_mono HL470_1.out (fun _ hk => hk.1), By⟩
      · rw [if_neg c9] at H
        exact absurd H (by simp)
    · rw [if_neg c8] at H
      exact absurd H (by simp)

end Go.Proofs.YtpocoeghobdfiaaDoor.PG

-- WRITTEN BY A PROGRAM OF THIS SESSION (wip/gen/gen.py), by way of the kit's print program. Lean checks it.
namespace Go.Proofs.YtpocoeghobdfiaaDoor.PG
open Go.Proofs.YtpocoeghobdfiaaDoor.Sq Go.RowKit Go.Proofs.YtpocoeghobdfiaaDoorW.PrintWords Go.Proofs.YtpocoeghobdfiaaDoorW.PrintLast Go.Proofs.YtpocoeghobdfiaaDoorW.PrintMore
attribute [local go_sem] max2_int min2_int max_two min_two max_three min_three max_four min_four   -- for this text's walks alone
set_option linter.unusedVariables false
set_option linter.unusedSimpArgs false

/-! ### spec_l03In: function 125 -/
def spec_l03In.l0 : Nat → List ByteArray → ByteArray → Int → Option (Int)
  | 0, _, _, _ => none
  | k + 1, x0, x1, x5 => if x5 < (x0.length : Int) then (if 0 ≤ x5 then ((spec_Norm.f k (rdOf ByteArray.empty x0 x5)).bind fun t472 => (if t472.toList = x1.toList then (some x5) else (spec_l03In.l0 k x0 x1 (wrap64 (x5 + 1))))) else (none)) else (some (-1))
def spec_l03In.f (k : Nat) (l0 : List ByteArray) (a1 : ByteArray) : Option (Int) := spec_l03In.l0 k l0 a1 0
theorem spec_l03In.mono_l : ∀ k, (∀ y0 y1 y2, LeO (spec_l03In.l0 k y0 y1 y2) (spec_l03In.l0 (k + 1) y0 y1 y2))
  | 0 => fun _ _ _ r h => by simp [spec_l03In.l0] at h
  | k + 1 => by
    have ih0 := spec_l03In.mono_l k
    · intro y0 y1 y2
      unfold spec_l03In.l0
      repeat' first
      | (with_reducible exact ih0 _ _ _)
      | (with_reducible exact spec_Norm.mono _ _)
      | (with_reducible exact LeO.refl _)
      | (with_reducible exact LeO.none _)
      | (with_reducible refine LeO.ite ?_ ?_)
      | (with_reducible refine LeO.bind ?_ (fun _ => ?_))
      | exact ih0 _ _ _
      | exact spec_Norm.mono _ _
      | exact LeO.none _
      | refine LeO.ite ?_ ?_
      | refine LeO.bind ?_ (fun _ => ?_)
theorem spec_l03In.mono : ∀ a0 a1 k, LeO (spec_l03In.f k a0 a1) (spec_l03In.f (k + 1) a0 a1) := by
  intro a0 a1 k
  have ih0 := spec_l03In.mono_l k
  unfold spec_l03In.f
  repeat' first
      | (with_reducible exact ih0 _ _ _)
      | (with_reducible exact spec_Norm.mono _ _)
      | (with_reducible exact LeO.refl _)
      | (with_reducible exact LeO.none _)
      | (with_reducible refine LeO.ite ?_ ?_)
      | (with_reducible refine LeO.bind ?_ (fun _ => ?_))
      | exact ih0 _ _ _
      | exact spec_Norm.mono _ _
      | exact LeO.none _
      | refine LeO.ite ?_ ?_
      | refine LeO.bind ?_ (fun _ => ?_)
set_option maxHeartbeats 8000000 in
set_option maxRecDepth 100000 in
theorem spec_l03In.calls (k : Nat) (A0 : Option Addr) (c0 : Nat) (l0 : List ByteArray) (a1 : ByteArray) (r : Int) (w : World) (hr0 : Kd.C Kd.string w A0 l0.length l0) (hc0 : l0.length ≤ c0) (h : spec_l03In.f k l0 a1 = some r) :
    Calls Tryd.prog 125 #[.slice A0 l0.length c0, .string a1] w fun e w' => e = .returned (.int .i64 r) ∧ Below w.heap.size w w' := by
  have HR0 := Aside0.mk hr0
  have HC0 := Aside0.mk hc0
  clear hr0 hc0
  have HB := Aside0.mk (Below.refl w.heap.size w)
  have H : (spec_l03In.l0 k l0 a1 0) = some r := h
  clear h
  have H' := Aside0.mk H
  clear H
  go_enter Tryd.func125, Tryd.ntmps125
  go_wp2
  go_loopg [5] k (fun kq v5 w' => ∃ (x5_1 : Int), v5 = .int .i64 x5_1 ∧ Aside0 (spec_l03In.l0 kq l0 a1 x5_1 = some r) ∧ Aside0 (kq ≤ k) ∧ Aside0 (Below w.heap.size w w'))
  case atStart => exact ⟨(0), (by first | rfl | (simp; done) | (simp [*]; done)), H', ⟨Nat.le_refl _⟩, ⟨By⟩⟩
  case round =>
    clear H'
    try clear c1
    try clear p2
    obtain ⟨x5_1, rfl, HA, HK1, HB⟩ := hrel
    cases gk with
    | zero => exact absurd HA.out (by simp [spec_l03In.l0])
    | succ k1 =>
      have H := HA.out
      clear HA
      simp only [spec_l03In.l0] at H
      by_cases c3 : x5_1 < (l0.length : Int)
      · rw [if_pos c3] at H
        have c3b0 : decide (x5_1 < (l0.length : Int)) = true := decide_eq_true c3
        clear c3
        by_cases c4 : 0 ≤ x5_1
        · rw [if_pos c4] at H
          have c4b0 : decide (0 ≤ x5_1) = true := decide_eq_true c4
          clear c4
          replace H := Option.bind_eq_some_iff.mp H
          obtain ⟨t472, A50, H⟩ := H
          replace H : (if t472.toList = a1.toList then (some x5_1) else (spec_l03In.l0 k1 l0 a1 (wrap64 (x5_1 + 1)))) = some r := H
          have A5 := Aside0.mk A50
          clear A50
          by_cases c6 : t472.toList = a1.toList
          · rw [if_pos c6] at H
            have c6b0 : (t472.toList == a1.toList) = true := beq_iff_eq.mpr c6
            have c6b1 : (t472.toList != a1.toList) = false := bne_eq_false_iff_eq.mpr c6
            clear c6
            obtain rfl := Option.some.inj H
            have p471 : 0 ≤ (x5_1 : Int) := of_decide_eq_true Da
            have q471 : x5_1 < (l0.length : Int) := of_decide_eq_true Da
            obtain ⟨ad471, e471, hx471_0⟩ := Kd.at_string HR0.out x5_1 p471 q471
            cases e471
            replace hx471_0 := bz HB.out hx471_0
            replace p471 := eq_true p471
            replace q471 := eq_true q471
            go_wp2_with (first | ((with_reducible refine gate_callee (f := 124) rfl ?_); refine goesL_ (some 16) rfl rfl Tryd.func124 (by kernel_rfl) rfl #[.string (rdOf ByteArray.empty l0 x5_1)] rfl Ag ?_; (with_reducible refine (spec_Norm.calls k1 (rdOf ByteArray.empty l0 x5_1) t472 _ A5.out).mono ?_); rintro e w7 ⟨rfl, hb⟩; refine ⟨_, rfl, ?_⟩; have n0_ := Aside0.mk (below_step By hb); clear HB; have HB := n0_; clear n0_; (try clear hb); (try clear hb2); (try clear hk); (try clear hi)))
            go_ret
            exact ⟨Rf, By⟩
          · rw [if_neg c6] at H
            have c6b0 : (t472.toList == a1.toList) = false := beq_eq_false_iff_ne.mpr c6
            have c6b1 : (t472.toList != a1.toList) = true := bne_iff_ne.mpr c6
            have H' := Aside0.mk H
            clear H
            have p471 : 0 ≤ (x5_1 : Int) := of_decide_eq_true Da
            have q471 : x5_1 < (l0.length : Int) := of_decide_eq_true Da
            obtain ⟨ad471, e471, hx471_0⟩ := Kd.at_string HR0.out x5_1 p471 q471
            cases e471
            replace hx471_0 := bz HB.out hx471_0
            replace p471 := eq_true p471
            replace q471 := eq_true q471
            go_wp2_with (first | ((with_reducible refine gate_callee (f := 124) rfl ?_); refine goesL_ (some 16) rfl rfl Tryd.func124 (by kernel_rfl) rfl #[.string (rdOf ByteArray.empty l0 x5_1)] rfl Ag ?_; (with_reducible refine (spec_Norm.calls k1 (rdOf ByteArray.empty l0 x5_1) t472 _ A5.out).mono ?_); rintro e w8 ⟨rfl, hb⟩; refine ⟨_, rfl, ?_⟩; have n0_ := Aside0.mk (below_step By hb); clear HB; have HB := n0_; clear n0_; (try clear hb); (try clear hb2); (try clear hk); (try clear hi)))
            go_roundg k1
            case measure => have := HK1.out; omega
            case rel => exact ⟨(wrap64 (x5_1 + 1)), (by first | rfl | (simp; done) | (simp [*]; done)), H', ⟨by have := HK1.out; omega⟩, ⟨By⟩⟩
        · rw [if_neg c4] at H
          exact absurd H (by simp)
      · rw [if_neg c3] at H
        have c3b0 : decide (x5_1 < (l0.length : Int)) = false := decide_eq_false c3
        clear c3
        obtain rfl := Option.some.inj H
        go_wp2
        go_ret
        exact ⟨Rf, By⟩

end Go.Proofs.YtpocoeghobdfiaaDoor.PG

-- WRITTEN BY A PROGRAM OF THIS SESSION (wip/gen/gen.py), by way of the kit's print program. Lean checks it.
namespace Go.Proofs.YtpocoeghobdfiaaDoor.PG
open Go.Proofs.YtpocoeghobdfiaaDoor.Sq Go.RowKit Go.Proofs.YtpocoeghobdfiaaDoorW.PrintWords Go.Proofs.YtpocoeghobdfiaaDoorW.PrintLast Go.Proofs.YtpocoeghobdfiaaDoorW.PrintMore
attribute [local go_sem] max2_int min2_int max_two min_two max_three min_three max_four min_four   -- for this text's walks alone
set_option linter.unusedVariables false
set_option linter.unusedSimpArgs false

/-! ### spec_l03Has: function 85 -/
def spec_l03Has.f (k : Nat) (l0_0 : List (S153)) (l0_1 : List (S144)) (a1 : ByteArray) (a2 : ByteArray) : Option (Bool) := (spec_Norm.f k a2).bind fun t474 => (if t474.toList = ([] : List UInt8) then (some false) else ((spec_l03Of.f k l0_0 l0_1 a1).bind fun t475 => ((spec_l03In.f k t475 t474).bind fun t478 => (some (decide (t478 ≥ 0))))))
theorem spec_l03Has.mono : ∀ a0 a1 a2 a3 k, LeO (spec_l03Has.f k a0 a1 a2 a3) (spec_l03Has.f (k + 1) a0 a1 a2 a3) := by
  intro a0 a1 a2 a3 k
  unfold spec_l03Has.f
  repeat' first
      | (with_reducible exact spec_Norm.mono _ _)
      | (with_reducible exact spec_l03In.mono _ _ _)
      | (with_reducible exact spec_l03Of.mono _ _ _ _)
      | (with_reducible exact LeO.refl _)
      | (with_reducible exact LeO.none _)
      | (with_reducible refine LeO.ite ?_ ?_)
      | (with_reducible refine LeO.bind ?_ (fun _ => ?_))
      | exact spec_Norm.mono _ _
      | exact spec_l03In.mono _ _ _
      | exact spec_l03Of.mono _ _ _ _
      | exact LeO.none _
      | refine LeO.ite ?_ ?_
      | refine LeO.bind ?_ (fun _ => ?_)
set_option maxHeartbeats 8000000 in
set_option maxRecDepth 100000 in
theorem spec_l03Has.calls (k : Nat) (A0_0 : Option Addr) (c0_0 : Nat) (l0_0 : List (S153)) (A0_1 : Option Addr) (c0_1 : Nat) (l0_1 : List (S144)) (a1 : ByteArray) (a2 : ByteArray) (r : Bool) (w : World) (hr0_0 : Kd.C k153 w A0_0 l0_0.length l0_0) (hc0_0 : l0_0.length ≤ c0_0) (hr0_1 : Kd.C k144 w A0_1 l0_1.length l0_1) (hc0_1 : l0_1.length ≤ c0_1) (h : spec_l03Has.f k l0_0 l0_1 a1 a2 = some r) :
    Calls Tryd.prog 85 #[.agg #[.slice A0_0 l0_0.length c0_0, .slice A0_1 l0_1.length c0_1], .string a1, .string a2] w fun e w' => e = .returned (.bool r) ∧ Below w.heap.size w w' := by
  have hu67 := Tryd.underlying67
  have HR0_0 := Aside0.mk hr0_0
  have HC0_0 := Aside0.mk hc0_0
  clear hr0_0 hc0_0
  have HR0_1 := Aside0.mk hr0_1
  have HC0_1 := Aside0.mk hc0_1
  clear hr0_1 hc0_1
  have HB := Aside0.mk (Below.refl w.heap.size w)
  have H : ((spec_Norm.f k a2).bind fun t474 => (if t474.toList = ([] : List UInt8) then (some false) else ((spec_l03Of.f k l0_0 l0_1 a1).bind fun t475 => ((spec_l03In.f k t475 t474).bind fun t478 => (some (decide (t478 ≥ 0))))))) = some r := h
  clear h
  replace H := Option.bind_eq_some_iff.mp H
  obtain ⟨t474, A40, H⟩ := H
  replace H : (if t474.toList = ([] : List UInt8) then (some false) else ((spec_l03Of.f k l0_0 l0_1 a1).bind fun t475 => ((spec_l03In.f k t475 t474).bind fun t478 => (some (decide (t478 ≥ 0)))))) = some r := H
  have A4 := Aside0.mk A40
  clear A40
  by_cases c5 : t474.toList = ([] : List UInt8)
  · rw [if_pos c5] at H
    have c5b0 : (t474.toList == ([] : List UInt8)) = true := beq_iff_eq.mpr c5
    have c5b1 : (t474.toList != ([] : List UInt8)) = false := bne_eq_false_iff_eq.mpr c5
    clear c5
    obtain rfl := Option.some.inj H
    go_enter Tryd.func85, Tryd.ntmps85
    go_wp2_with (first | ((with_reducible refine gate_dst (N := 3) rfl ?_); refine box_event ?hg (N := 3) ?hd (cs := #[.slice A0_0 l0_0.length c0_0, .slice A0_1 l0_1.length c0_1]) (t := 67) ?hr ?_; (case hd => rfl); (case hg => rfl); (case hr => first | (go_simp; done) | (go_simp; rfl)); intro gb473 hg w6 hbox hb; have n0_ := Aside0.mk (below_step By hb); have n1_ := Aside0.mk (hbox); have n2_ := Aside0.mk ((by rw [hg]; exact (below_size By) : w.heap.size ≤ gb473)); have n3_ := Aside0.mk ((by rw [hg]; exact (below_size By) : w.heap.size ≤ gb473)); clear HB; have HB := n0_; have BK473 := n1_; have GW473 := n2_; have GE473 := n3_; clear n0_ n1_ n2_ n3_; clear hb hbox hg) | ((with_reducible refine gate_callee (f := 124) rfl ?_); refine goesL_ (some 9) rfl rfl Tryd.func124 (by kernel_rfl) rfl #[.string a2] rfl Ag ?_; (with_reducible refine (spec_Norm.calls k a2 t474 _ A4.out).mono ?_); rintro e w7 ⟨rfl, hb⟩; refine ⟨_, rfl, ?_⟩; have n0_ := Aside0.mk (bb BK473.out hb); have n1_ := Aside0.mk (below_step By hb); clear BK473; clear HB; have BK473 := n0_; have HB := n1_; clear n0_ n1_; (try clear hb); (try clear hb2); (try clear hk); (try clear hi)))
    go_ret
    exact ⟨Rf, By⟩
  · rw [if_neg c5] at H
    have c5b0 : (t474.toList == ([] : List UInt8)) = false := beq_eq_false_iff_ne.mpr c5
    have c5b1 : (t474.toList != ([] : List UInt8)) = true := bne_iff_ne.mpr c5
    replace H := Option.bind_eq_some_iff.mp H
    obtain ⟨t475, A80, H⟩ := H
    replace H : ((spec_l03In.f k t475 t474).bind fun t478 => (some (decide (t478 ≥ 0)))) = some r := H
    have A8 := Aside0.mk A80
    clear A80
    replace H := Option.bind_eq_some_iff.mp H
    obtain ⟨t478, A90, H⟩ := H
    replace H : (some (decide (t478 ≥ 0))) = some r := H
    have A9 := Aside0.mk A90
    clear A90
    obtain rfl := Option.some.inj H
    go_enter Tryd.func85, Tryd.ntmps85
    go_wp2_with (first | ((with_reducible refine gate_dst (N := 3) rfl ?_); refine box_event ?hg (N := 3) ?hd (cs := #[.slice A0_0 l0_0.length c0_0, .slice A0_1 l0_1.length c0_1]) (t := 67) ?hr ?_; (case hd => rfl); (case hg => rfl); (case hr => first | (go_simp; done) | (go_simp; rfl)); intro gb473 hg w10 hbox hb; have n0_ := Aside0.mk (below_step By hb); have n1_ := Aside0.mk (hbox); have n2_ := Aside0.mk ((by rw [hg]; exact (below_size By) : w.heap.size ≤ gb473)); have n3_ := Aside0.mk ((by rw [hg]; exact (below_size By) : w.heap.size ≤ gb473)); clear HB; have HB := n0_; have BK473 := n1_; have GW473 := n2_; have GE473 := n3_; clear n0_ n1_ n2_ n3_; clear hb hbox hg) | ((with_reducible refine gate_callee (f := 124) rfl ?_); refine goesL_ (some 9) rfl rfl Tryd.func124 (by kernel_rfl) rfl #[.string a2] rfl Ag ?_; (with_reducible refine (spec_Norm.calls k a2 t474 _ A4.out).mono ?_); rintro e w11 ⟨rfl, hb⟩; refine ⟨_, rfl, ?_⟩; have n0_ := Aside0.mk (bb BK473.out hb); have n1_ := Aside0.mk (below_step By hb); clear BK473; clear HB; have BK473 := n0_; have HB := n1_; clear n0_ n1_; (try clear hb); (try clear hb2); (try clear hk); (try clear hi); have ⟨hcz12_0, hcz12_1⟩ := cq2 BK473.out; have ⟨hfz12_0, hfz12_1⟩ := fq2 BK473.out) | (go_at_call 98; (with_reducible refine (spec_l03Of.calls k _ _ l0_0 (fun k_ => k_ < w.heap.size) _ _ l0_1 a1 t475 _ ?side1 ?side2 ?side3 A8.out).mono ?_); (case side1 => repeat (first | exact (Kd.C_below HR0_0.out HB.out) | (with_reducible refine Kd.C_alloc ?_ _) | (with_reducible refine Kd.C_drewN ?_ _) | (with_reducible refine Kd.C_drew ?_))); (case side2 => exact HC0_0.out); (case side3 => exact Kd.V_mk HC0_1.out (Kd.F_below (Kd.C_F k144_heap HR0_1.out) By)); rintro e w13 ⟨v476, rfl, ho0, hb⟩; have n0_ := Aside0.mk (Kd.V_lower (Kd.V_mono (ok' := fun k_ => k_ ≠ gb473) ho0 (fun k_ hk_ => Or.elim hk_ (fun hs_ => fun e_ => Nat.not_le.2 hs_ (by rw [e_]; exact GW473.out)) (fun hn_ => (Kd.freshB (g := gb473) (o := .cells #[.slice A0_0 l0_0.length c0_0, .slice A0_1 l0_1.length c0_1] 67 (0, 0)) Pk k_ hn_)))) (below_size By)); have n1_ := Aside0.mk (bb BK473.out hb); have n2_ := Aside0.mk (below_step By hb); clear BK473; clear HB; have HO477 := n0_; have BK473 := n1_; have HB := n2_; clear n0_ n1_ n2_; (try clear hb); (try clear hb2); (try clear hk); (try clear hi); (try clear ho0); obtain ⟨Ao14, co14, eo14⟩ := Kd.V_slice HO477.out; subst eo14) | (go_at_call 125; (with_reducible refine (spec_l03In.calls k _ _ t475 t474 t478 _ ?side1 ?side2 A9.out).mono ?_); (case side1 => repeat (first | exact (Kd.V_reads' HO477.out).2.2 | (with_reducible refine Kd.C_alloc ?_ _) | (with_reducible refine Kd.C_drewN ?_ _) | (with_reducible refine Kd.C_drew ?_))); (case side2 => exact (Kd.V_reads' HO477.out).2.1); rintro e w15 ⟨rfl, hb⟩; have n0_ := Aside0.mk (Kd.V_below (by (with_reducible repeat (first | apply Kd.V_alloc | apply Kd.V_drewN | apply Kd.V_drew)); exact HO477.out) hb); have n1_ := Aside0.mk (bb BK473.out hb); have n2_ := Aside0.mk (below_step By hb); clear HO477; clear BK473; clear HB; have HO477 := n0_; have BK473 := n1_; have HB := n2_; clear n0_ n1_ n2_; (try clear hb); (try clear hb2); (try clear hk); (try clear hi)))
    go_ret
    exact ⟨Rf, By⟩

end Go.Proofs.YtpocoeghobdfiaaDoor.PG

-- WRITTEN BY A PROGRAM OF THIS SESSION (wip/gen/gen.py), by way of the kit's print program. Lean checks it.
namespace Go.Proofs.YtpocoeghobdfiaaDoor.PG
open Go.Proofs.YtpocoeghobdfiaaDoor.Sq Go.RowKit Go.Proofs.YtpocoeghobdfiaaDoorW.PrintWords Go.Proofs.YtpocoeghobdfiaaDoorW.PrintLast Go.Proofs.YtpocoeghobdfiaaDoorW.PrintMore
attribute [local go_sem] max2_int min2_int max_two min_two max_three min_three max_four min_four   -- for this text's walks alone
set_option linter.unusedVariables false
set_option linter.unusedSimpArgs false

/-! ### spec_HasValue: function 35 -/
def spec_HasValue.f (k : Nat) (l0_0 : List (S153)) (l0_1 : List (S144)) (a1 : ByteArray) (a2 : ByteArray) : Option (Bool) := if (a1.size : Int) ≤ 8000 then (if (a2.size : Int) ≤ 8000 then ((spec_EntryRight.f k l0_0 l0_1).bind fun t480 => (if t480 = true then ((spec_l03Has.f k l0_0 l0_1 a1 a2).bind fun t481 => (some t481)) else (some false))) else (some false)) else (some false)
theorem spec_HasValue.mono : ∀ a0 a1 a2 a3 k, LeO (spec_HasValue.f k a0 a1 a2 a3) (spec_HasValue.f (k + 1) a0 a1 a2 a3) := by
  intro a0 a1 a2 a3 k
  unfold spec_HasValue.f
  repeat' first
      | (with_reducible exact spec_EntryRight.mono _ _ _)
      | (with_reducible exact spec_l03Has.mono _ _ _ _ _)
      | (with_reducible exact LeO.refl _)
      | (with_reducible exact LeO.none _)
      | (with_reducible refine LeO.ite ?_ ?_)
      | (with_reducible refine LeO.bind ?_ (fun _ => ?_))
      | exact spec_EntryRight.mono _ _ _
      | exact spec_l03Has.mono _ _ _ _ _
      | exact LeO.none _
      | refine LeO.ite ?_ ?_
      | refine LeO.bind ?_ (fun _ => ?_)
set_option maxHeartbeats 8000000 in
set_option maxRecDepth 100000 in
theorem spec_HasValue.calls (k : Nat) (A0_0 : Option Addr) (c0_0 : Nat) (l0_0 : List (S153)) (A0_1 : Option Addr) (c0_1 : Nat) (l0_1 : List (S144)) (a1 : ByteArray) (a2 : ByteArray) (r : Bool) (w : World) (hr0_0 : Kd.C k153 w A0_0 l0_0.length l0_0) (hc0_0 : l0_0.length ≤ c0_0) (hr0_1 : Kd.C k144 w A0_1 l0_1.length l0_1) (hc0_1 : l0_1.length ≤ c0_1) (h : spec_HasValue.f k l0_0 l0_1 a1 a2 = some r) :
    Calls Tryd.prog 35 #[.agg #[.slice A0_0 l0_0.length c0_0, .slice A0_1 l0_1.length c0_1], .string a1, .string a2] w fun e w' => e = .returned (.bool r) ∧ Below w.heap.size w w' := by
  have hu67 := Tryd.underlying67
  have HR0_0 := Aside0.mk hr0_0
  have HC0_0 := Aside0.mk hc0_0
  clear hr0_0 hc0_0
  have HR0_1 := Aside0.mk hr0_1
  have HC0_1 := Aside0.mk hc0_1
  clear hr0_1 hc0_1
  have HB := Aside0.mk (Below.refl w.heap.size w)
  have H : (if (a1.size : Int) ≤ 8000 then (if (a2.size : Int) ≤ 8000 then ((spec_EntryRight.f k l0_0 l0_1).bind fun t480 => (if t480 = true then ((spec_l03Has.f k l0_0 l0_1 a1 a2).bind fun t481 => (some t481)) else (some false))) else (some false)) else (some false)) = some r := h
  clear h
  by_cases c4 : (a1.size : Int) ≤ 8000
  · rw [if_pos c4] at H
    have c4b0 : decide ((a1.size : Int) ≤ 8000) = true := decide_eq_true c4
    have c4b1 : decide (a1.size ≤ 8000) = true := decide_eq_true (by omega)
    clear c4
    by_cases c5 : (a2.size : Int) ≤ 8000
    · rw [if_pos c5] at H
      have c5b0 : decide ((a2.size : Int) ≤ 8000) = true := decide_eq_true c5
      have c5b1 : decide (a2.size ≤ 8000) = true := decide_eq_true (by omega)
      clear c5
      replace H := Option.bind_eq_some_iff.mp H
      obtain ⟨t480, A60, H⟩ := H
      replace H : (if t480 = true then ((spec_l03Has.f k l0_0 l0_1 a1 a2).bind fun t481 => (some t481)) else (some false)) = some r := H
      have A6 := Aside0.mk A60
      clear A60
      by_cases c7 : t480 = true
      · subst c7
        have H1 : ((spec_l03Has.f k l0_0 l0_1 a1 a2).bind fun t481 => (some t481)) = some r := by rw [if_pos rfl] at H; exact H
        clear H
        have H := H1
        clear H1
        replace H := Option.bind_eq_some_iff.mp H
        obtain ⟨t481, A80, H⟩ := H
        replace H : (some t481) = some r := H
        have A8 := Aside0.mk A80
        clear A80
        obtain rfl := Option.some.inj H
        go_enter Tryd.func35, Tryd.ntmps35
        go_wp2_with (first | ((with_reducible refine gate_dst (N := 3) rfl ?_); (try (refine gate_guard (by rfl) ?_; dsimp only)); refine box_event ?hg (N := 3) ?hd (cs := #[.slice A0_0 l0_0.length c0_0, .slice A0_1 l0_1.length c0_1]) (t := 67) ?hr ?_; (case hd => rfl); (case hg => rfl); (case hr => first | (go_simp; done) | (go_simp; rfl)); intro gb479 hg w9 hbox hb; have n0_ := Aside0.mk (below_step By hb); have n1_ := Aside0.mk (hbox); have n2_ := Aside0.mk ((by rw [hg]; exact (below_size By) : w.heap.size ≤ gb479)); have n3_ := Aside0.mk ((by rw [hg]; exact (below_size By) : w.heap.size ≤ gb479)); clear HB; have HB := n0_; have BK479 := n1_; have GW479 := n2_; have GE479 := n3_; clear n0_ n1_ n2_ n3_; clear hb hbox hg; have ⟨hcz10_0, hcz10_1⟩ := cq2 BK479.out; have ⟨hfz10_0, hfz10_1⟩ := fq2 BK479.out) | (go_at_call 84; (with_reducible refine (spec_EntryRight.calls k _ _ l0_0 _ _ l0_1 true _ ?side1 ?side2 ?side3 ?side4 A6.out).mono ?_); (case side1 => repeat (first | exact (Kd.C_below HR0_0.out HB.out) | (with_reducible refine Kd.C_alloc ?_ _) | (with_reducible refine Kd.C_drewN ?_ _) | (with_reducible refine Kd.C_drew ?_))); (case side2 => exact HC0_0.out); (case side3 => repeat (first | exact (Kd.C_below HR0_1.out HB.out) | (with_reducible refine Kd.C_alloc ?_ _) | (with_reducible refine Kd.C_drewN ?_ _) | (with_reducible refine Kd.C_drew ?_))); (case side4 => exact HC0_1.out); rintro e w11 ⟨rfl, hb⟩; have n0_ := Aside0.mk (bb BK479.out hb); have n1_ := Aside0.mk (below_step By hb); clear BK479; clear HB; have BK479 := n0_; have HB := n1_; clear n0_ n1_; (try clear hb); (try clear hb2); (try clear hk); (try clear hi); have ⟨hcz12_0, hcz12_1⟩ := cq2 BK479.out; have ⟨hfz12_0, hfz12_1⟩ := fq2 BK479.out) | (go_at_call 85; (with_reducible refine (spec_l03Has.calls k _ _ l0_0 _ _ l0_1 a1 a2 t481 _ ?side1 ?side2 ?side3 ?side4 A8.out).mono ?_); (case side1 => repeat (first | exact (Kd.C_below HR0_0.out HB.out) | (with_reducible refine Kd.C_alloc ?_ _) | (with_reducible refine Kd.C_drewN ?_ _) | (with_reducible refine Kd.C_drew ?_))); (case side2 => exact HC0_0.out); (case side3 => repeat (first | exact (Kd.C_below HR0_1.out HB.out) | (with_reducible refine Kd.C_alloc ?_ _) | (with_reducible refine Kd.C_drewN ?_ _) | (with_reducible refine Kd.C_drew ?_))); (case side4 => exact HC0_1.out); rintro e w13 ⟨rfl, hb⟩; have n0_ := Aside0.mk (bb BK479.out hb); have n1_ := Aside0.mk (below_step By hb); clear BK479; clear HB; have BK479 := n0_; have HB := n1_; clear n0_ n1_; (try clear hb); (try clear hb2); (try clear hk); (try clear hi)))
        go_ret
        exact ⟨Rf, By⟩
      · replace c7 := Bool.eq_false_iff.mpr c7
        subst c7
        have H1 : (some false) = some r := by rw [if_neg (show ¬ (false = true) by decide)] at H; exact H
        clear H
        have H := H1
        clear H1
        obtain rfl := Option.some.inj H
        go_enter Tryd.func35, Tryd.ntmps35
        go_wp2_with (first | ((with_reducible refine gate_dst (N := 3) rfl ?_); (try (refine gate_guard (by rfl) ?_; dsimp only)); refine box_event ?hg (N := 3) ?hd (cs := #[.slice A0_0 l0_0.length c0_0, .slice A0_1 l0_1.length c0_1]) (t := 67) ?hr ?_; (case hd => rfl); (case hg => rfl); (case hr => first | (go_simp; done) | (go_simp; rfl)); intro gb479 hg w14 hbox hb; have n0_ := Aside0.mk (below_step By hb); have n1_ := Aside0.mk (hbox); have n2_ := Aside0.mk ((by rw [hg]; exact (below_size By) : w.heap.size ≤ gb479)); have n3_ := Aside0.mk ((by rw [hg]; exact (below_size By) : w.heap.size ≤ gb479)); clear HB; have HB := n0_; have BK479 := n1_; have GW479 := n2_; have GE479 := n3_; clear n0_ n1_ n2_ n3_; clear hb hbox hg; have ⟨hcz15_0, hcz15_1⟩ := cq2 BK479.out; have ⟨hfz15_0, hfz15_1⟩ := fq2 BK479.out) | (go_at_call 84; (with_reducible refine (spec_EntryRight.calls k _ _ l0_0 _ _ l0_1 false _ ?side1 ?side2 ?side3 ?side4 A6.out).mono ?_); (case side1 => repeat (first | exact (Kd.C_below HR0_0.out HB.out) | (with_reducible refine Kd.C_alloc ?_ _) | (with_reducible refine Kd.C_drewN ?_ _) | (with_reducible refine Kd.C_drew ?_))); (case side2 => exact HC0_0.out); (case side3 => repeat (first | exact (Kd.C_below HR0_1.out HB.out) | (with_reducible refine Kd.C_alloc ?_ _) | (with_reducible refine Kd.C_drewN ?_ _) | (with_reducible refine Kd.C_drew ?_))); (case side4 => exact HC0_1.out); rintro e w16 ⟨rfl, hb⟩; have n0_ := Aside0.mk (bb BK479.out hb); have n1_ := Aside0.mk (below_step By hb); clear BK479; clear HB; have BK479 := n0_; have HB := n1_; clear n0_ n1_; (try clear hb); (try clear hb2); (try clear hk); (try clear hi)))
        go_ret
        exact ⟨Rf, By⟩
    · rw [if_neg c5] at H
      have c5b0 : decide ((a2.size : Int) ≤ 8000) = false := decide_eq_false c5
      have c5b1 : decide (a2.size ≤ 8000) = false := decide_eq_false (by omega)
      clear c5
      obtain rfl := Option.some.inj H
      go_enter Tryd.func35, Tryd.ntmps35
      go_wp2_with (first | ((with_reducible refine gate_dst (N := 3) rfl ?_); (try (refine gate_guard (by rfl) ?_; dsimp only)); refine box_event ?hg (N := 3) ?hd (cs := #[.slice A0_0 l0_0.length c0_0, .slice A0_1 l0_1.length c0_1]) (t := 67) ?hr ?_; (case hd => rfl); (case hg => rfl); (case hr => first | (go_simp; done) | (go_simp; rfl)); intro gb479 hg w17 hbox hb; have n0_ := Aside0.mk (below_step By hb); have n1_ := Aside0.mk (hbox); have n2_ := Aside0.mk ((by rw [hg]; exact (below_size By) : w.heap.size ≤ gb479)); have n3_ := Aside0.mk ((by rw [hg]; exact (below_size By) : w.heap.size ≤ gb479)); clear HB; have HB := n0_; have BK479 := n1_; have GW479 := n2_; have GE479 := n3_; clear n0_ n1_ n2_ n3_; clear hb hbox hg))
      go_ret
      exact ⟨Rf, By⟩
  · rw [if_neg c4] at H
    have c4b0 : decide ((a1.size : Int) ≤ 8000) = false := decide_eq_false c4
    have c4b1 : decide (a1.size ≤ 8000) = false := decide_eq_false (by omega)
    clear c4
    obtain rfl := Option.some.inj H
    go_enter Tryd.func35, Tryd.ntmps35
    go_wp2_with (first | ((with_reducible refine gate_dst (N := 3) rfl ?_); (try (refine gate_guard (by rfl) ?_; dsimp only)); refine box_event ?hg (N := 3) ?hd (cs := #[.slice A0_0 l0_0.length c0_0, .slice A0_1 l0_1.length c0_1]) (t := 67) ?hr ?_; (case hd => rfl); (case hg => rfl); (case hr => first | (go_simp; done) | (go_simp; rfl)); intro gb479 hg w18 hbox hb; have n0_ := Aside0.mk (below_step By hb); have n1_ := Aside0.mk (hbox); have n2_ := Aside0.mk ((by rw [hg]; exact (below_size By) : w.heap.size ≤ gb479)); have n3_ := Aside0.mk ((by rw [hg]; exact (below_size By) : w.heap.size ≤ gb479)); clear HB; have HB := n0_; have BK479 := n1_; have GW479 := n2_; have GE479 := n3_; clear n0_ n1_ n2_ n3_; clear hb hbox hg))
    go_ret
    exact ⟨Rf, By⟩

end Go.Proofs.YtpocoeghobdfiaaDoor.PG

-- WRITTEN BY A PROGRAM OF THIS SESSION (wip/gen/gen.py), by way of the kit's print program. Lean checks it.
namespace Go.Proofs.YtpocoeghobdfiaaDoor.PG
open Go.Proofs.YtpocoeghobdfiaaDoor.Sq Go.RowKit Go.Proofs.YtpocoeghobdfiaaDoorW.PrintWords Go.Proofs.YtpocoeghobdfiaaDoorW.PrintLast Go.Proofs.YtpocoeghobdfiaaDoorW.PrintMore
attribute [local go_sem] max2_int min2_int max_two min_two max_three min_three max_four min_four   -- for this text's walks alone
set_option linter.unusedVariables false
set_option linter.unusedSimpArgs false

/-! ### impl_isPrintable: function 130 -/
def impl_isPrintable.l0 : Nat → ByteArray → Int → Int → Option (Bool)
  | 0, _, _, _ => none
  | k + 1, x0, x5, x6 => if x6 < x5 then (if 0 ≤ x6 then (if x6 < (x0.size : Int) then (if (bt x0 x6) < 32 then (some false) else (if (bt x0 x6) > 126 then (some false) else (impl_isPrintable.l0 k x0 x5 (wrap64 (x6 + 1))))) else (none)) else (none)) else (some true)
def impl_isPrintable.f (k : Nat) (a0 : ByteArray) : Option (Bool) := impl_isPrintable.l0 k a0 (a0.size : Int) 0
theorem impl_isPrintable.mono_l : ∀ k, (∀ y0 y1 y2, LeO (impl_isPrintable.l0 k y0 y1 y2) (impl_isPrintable.l0 (k + 1) y0 y1 y2))
  | 0 => fun _ _ _ r h => by simp [impl_isPrintable.l0] at h
  | k + 1 => by
    have ih0 := impl_isPrintable.mono_l k
    · intro y0 y1 y2
      unfold impl_isPrintable.l0
      repeat' first
      | (with_reducible exact ih0 _ _ _)
      | (with_reducible exact LeO.refl _)
      | (with_reducible exact LeO.none _)
      | (with_reducible refine LeO.ite ?_ ?_)
      | (with_reducible refine LeO.bind ?_ (fun _ => ?_))
      | exact ih0 _ _ _
      | exact LeO.none _
      | refine LeO.ite ?_ ?_
      | refine LeO.bind ?_ (fun _ => ?_)
theorem impl_isPrintable.mono : ∀ a0 k, LeO (impl_isPrintable.f k a0) (impl_isPrintable.f (k + 1) a0) := by
  intro a0 k
  have ih0 := impl_isPrintable.mono_l k
  unfold impl_isPrintable.f
  repeat' first
      | (with_reducible exact ih0 _ _ _)
      | (with_reducible exact LeO.refl _)
      | (with_reducible exact LeO.none _)
      | (with_reducible refine LeO.ite ?_ ?_)
      | (with_reducible refine LeO.bind ?_ (fun _ => ?_))
      | exact ih0 _ _ _
      | exact LeO.none _
      | refine LeO.ite ?_ ?_
      | refine LeO.bind ?_ (fun _ => ?_)
set_option maxHeartbeats 8000000 in
set_option maxRecDepth 100000 in
theorem impl_isPrintable.calls (k : Nat) (a0 : ByteArray) (r : Bool) (w : World) (h : impl_isPrintable.f k a0 = some r) :
    Calls Tryd.prog 130 #[.string a0] w fun e w' => e = .returned (.bool r) ∧ Drawn0 w w' := by
  have H : (impl_isPrintable.l0 k a0 (a0.size : Int) 0) = some r := h
  clear h
  have H' := Aside0.mk H
  clear H
  go_enter Tryd.func130, Tryd.ntmps130
  go_wp2
  go_loopg [6] k (fun kq v6 w' => ∃ (x6_1 : Int), v6 = .int .i64 x6_1 ∧ Aside0 (impl_isPrintable.l0 kq a0 (a0.size : Int) x6_1 = some r) ∧ Aside0 (kq ≤ k) ∧ Drawn0 w w')
  case atStart => exact ⟨(0), (by first | rfl | (simp; done) | (simp [*]; done)), H', ⟨Nat.le_refl _⟩, by repeat (first | exact Drawn0.refl _ | apply Drawn0.step)⟩
  case round =>
    clear H'
    try clear c1
    obtain ⟨x6_1, rfl, HA, HK1, ⟨m1, rfl⟩⟩ := hrel
    cases gk with
    | zero => exact absurd HA.out (by simp [impl_isPrintable.l0])
    | succ k1 =>
      have H := HA.out
      clear HA
      simp only [impl_isPrintable.l0] at H
      by_cases c2 : x6_1 < (a0.size : Int)
      · rw [if_pos c2] at H
        have c2b0 : decide (x6_1 < (a0.size : Int)) = true := decide_eq_true c2
        clear c2
        by_cases c3 : 0 ≤ x6_1
        · rw [if_pos c3] at H
          have c3b0 : decide (0 ≤ x6_1) = true := decide_eq_true c3
          clear c3
          by_cases c4 : x6_1 < (a0.size : Int)
          · rw [if_pos c4] at H
            have c4b0 : decide (x6_1 < (a0.size : Int)) = true := decide_eq_true c4
            clear c4
            by_cases c6 : (bt a0 x6_1) < 32
            · rw [if_pos c6] at H
              have c6b0 : decide ((bt a0 x6_1) < 32) = true := decide_eq_true c6
              clear c6
              obtain rfl := Option.some.inj H
              have p5 : 0 ≤ (x6_1 : Int) := of_decide_eq_true Da
              have q5 : x6_1 < (a0.size : Int) := of_decide_eq_true Da
              have hx5 := bt_at a0 x6_1
              replace p5 := eq_true p5
              replace q5 := eq_true q5
              go_wp2
              go_ret
              exact ⟨by first | rfl | (simp; done) | (simp [*]; done), by repeat (first | exact Drawn0.refl _ | apply Drawn0.step)⟩
            · rw [if_neg c6] at H
              have c6b0 : decide ((bt a0 x6_1) < 32) = false := decide_eq_false c6
              clear c6
              by_cases c8 : (bt a0 x6_1) > 126
              · rw [if_pos c8] at H
                have c8b0 : decide (126 < (bt a0 x6_1)) = true := decide_eq_true c8
                clear c8
                obtain rfl := Option.some.inj H
                have p5 : 0 ≤ (x6_1 : Int) := of_decide_eq_true Da
                have q5 : x6_1 < (a0.size : Int) := of_decide_eq_true Da
                have hx5 := bt_at a0 x6_1
                replace p5 := eq_true p5
                replace q5 := eq_true q5
                have p7 : 0 ≤ (x6_1 : Int) := of_decide_eq_true Da
                have q7 : x6_1 < (a0.size : Int) := of_decide_eq_true Da
                have hx7 := bt_at a0 x6_1
                replace p7 := eq_true p7
                replace q7 := eq_true q7
                go_wp2
                go_ret
                exact ⟨by first | rfl | (simp; done) | (simp [*]; done), by repeat (first | exact Drawn0.refl _ | apply Drawn0.step)⟩
              · rw [if_neg c8] at H
                have c8b0 : decide (126 < (bt a0 x6_1)) = false := decide_eq_false c8
                clear c8
                have H' := Aside0.mk H
                clear H
                have p5 : 0 ≤ (x6_1 : Int) := of_decide_eq_true Da
                have q5 : x6_1 < (a0.size : Int) := of_decide_eq_true Da
                have hx5 := bt_at a0 x6_1
                replace p5 := eq_true p5
                replace q5 := eq_true q5
                have p7 : 0 ≤ (x6_1 : Int) := of_decide_eq_true Da
                have q7 : x6_1 < (a0.size : Int) := of_decide_eq_true Da
                have hx7 := bt_at a0 x6_1
                replace p7 := eq_true p7
                replace q7 := eq_true q7
                go_wp2
                go_roundg k1
                case measure => have := HK1.out; omega
                case rel => exact ⟨(wrap64 (x6_1 + 1)), (by first | rfl | (simp; done) | (simp [*]; done)), H', ⟨by have := HK1.out; omega⟩, by repeat (first | exact Drawn0.refl _ | apply Drawn0.step)⟩
          · rw [if_neg c4] at H
            exact absurd H (by simp)
        · rw [if_neg c3] at H
          exact absurd H (by simp)
      · rw [if_neg c2] at H
        have c2b0 : decide (x6_1 < (a0.size : Int)) = false := decide_eq_false c2
        clear c2
        obtain rfl := Option.some.inj H
        go_wp2
        go_ret
        exact ⟨by first | rfl | (simp; done) | (simp [*]; done), by repeat (first | exact Drawn0.refl _ | apply Drawn0.step)⟩

end Go.Proofs.YtpocoeghobdfiaaDoor.PG

-- WRITTEN BY A PROGRAM OF THIS SESSION (wip/gen/gen.py), by way of the kit's print program. Lean checks it.
namespace Go.Proofs.YtpocoeghobdfiaaDoor.PG
open Go.Proofs.YtpocoeghobdfiaaDoor.Sq Go.RowKit Go.Proofs.YtpocoeghobdfiaaDoorW.PrintWords Go.Proofs.YtpocoeghobdfiaaDoorW.PrintLast Go.Proofs.YtpocoeghobdfiaaDoorW.PrintMore
attribute [local go_sem] max2_int min2_int max_two min_two max_three min_three max_four min_four   -- for this text's walks alone
set_option linter.unusedVariables false
set_option linter.unusedSimpArgs false

/-! ### stringslite_HasSuffix: function 169 -/
def stringslite_HasSuffix.f (a0 : ByteArray) (a1 : ByteArray) : Option (Bool) := if (a0.size : Int) ≥ (a1.size : Int) then (if 0 ≤ (wrap64 ((a0.size : Int) - (a1.size : Int))) then (if (wrap64 ((a0.size : Int) - (a1.size : Int))) ≤ (a0.size : Int) then (some ((a0.extract ((wrap64 ((a0.size : Int) - (a1.size : Int))) : Int).toNat a0.size).toList == a1.toList)) else (none)) else (none)) else (some false)
set_option maxHeartbeats 8000000 in
set_option maxRecDepth 100000 in
theorem stringslite_HasSuffix.calls (a0 : ByteArray) (a1 : ByteArray) (r : Bool) (w : World) (h : stringslite_HasSuffix.f a0 a1 = some r) :
    Calls Tryd.prog 169 #[.string a0, .string a1] w fun e w' => e = .returned (.bool r) ∧ Drawn0 w w' := by
  have H : (if (a0.size : Int) ≥ (a1.size : Int) then (if 0 ≤ (wrap64 ((a0.size : Int) - (a1.size : Int))) then (if (wrap64 ((a0.size : Int) - (a1.size : Int))) ≤ (a0.size : Int) then (some ((a0.extract ((wrap64 ((a0.size : Int) - (a1.size : Int))) : Int).toNat a0.size).toList == a1.toList)) else (none)) else (none)) else (some false)) = some r := h
  clear h
  by_cases c3 : (a0.size : Int) ≥ (a1.size : Int)
  · rw [if_pos c3] at H
    have c3b0 : decide ((a1.size : Int) ≤ (a0.size : Int)) = true := decide_eq_true c3
    have c3b1 : decide (a1.size ≤ a0.size) = true := decide_eq_true (Int.ofNat_le.mp c3)
    clear c3
    obtain ⟨ji4, hji4⟩ : ∃ j_ : Int, (wrap64 ((a0.size : Int) - (a1.size : Int))) = j_ := ⟨_, rfl⟩
    replace H : (if 0 ≤ (ji4) then (if (ji4) ≤ (a0.size : Int) then (some ((a0.extract ((ji4) : Int).toNat a0.size).toList == a1.toList)) else (none)) else (none)) = some r := by first | (rw [hji4] at H; exact H) | (simp only [hji4] at H ⊢; exact H)
    have hji4w : (IntKind.i64.wrap ((a0.size : Int) - (a1.size : Int))) = ji4 := (i64_w _).trans hji4
    by_cases c5 : 0 ≤ (ji4)
    · rw [if_pos c5] at H
      have c5b0 := eq_true c5
      have c5b1 : decide (0 ≤ (ji4)) = true := decide_eq_true c5
      clear c5
      by_cases c6 : (ji4) ≤ (a0.size : Int)
      · rw [if_pos c6] at H
        have c6b0 := eq_true c6
        have c6b1 : decide ((ji4) ≤ (a0.size : Int)) = true := decide_eq_true c6
        clear c6
        obtain rfl := Option.some.inj H
        go_enter Tryd.func169, Tryd.ntmps169
        go_wp2
        go_ret
        exact ⟨by first | rfl | (simp; done) | (simp only [← hji4] <;> (first | rfl | simp)) | (simp [*]; done), by repeat (first | exact Drawn0.refl _ | apply Drawn0.step)⟩
      · rw [if_neg c6] at H
        exact absurd H (by simp)
    · rw [if_neg c5] at H
      exact absurd H (by simp)
  · rw [if_neg c3] at H
    have c3b0 : decide ((a1.size : Int) ≤ (a0.size : Int)) = false := decide_eq_false c3
    have c3b1 : decide (a1.size ≤ a0.size) = false := decide_eq_false (fun h => c3 (Int.ofNat_le.mpr h))
    clear c3
    obtain rfl := Option.some.inj H
    go_enter Tryd.func169, Tryd.ntmps169
    go_wp2
    go_ret
    exact ⟨by first | rfl | (simp; done) | (simp [*]; done), by repeat (first | exact Drawn0.refl _ | apply Drawn0.step)⟩

end Go.Proofs.YtpocoeghobdfiaaDoor.PG

-- WRITTEN BY A PROGRAM OF THIS SESSION (wip/gen/gen.py), by way of the kit's print program. Lean checks it.
namespace Go.Proofs.YtpocoeghobdfiaaDoor.PG
open Go.Proofs.YtpocoeghobdfiaaDoor.Sq Go.RowKit Go.Proofs.YtpocoeghobdfiaaDoorW.PrintWords Go.Proofs.YtpocoeghobdfiaaDoorW.PrintLast Go.Proofs.YtpocoeghobdfiaaDoorW.PrintMore
attribute [local go_sem] max2_int min2_int max_two min_two max_three min_three max_four min_four   -- for this text's walks alone
set_option linter.unusedVariables false
set_option linter.unusedSimpArgs false

/-! ### stringslite_TrimSuffix: function 158 -/
def stringslite_TrimSuffix.f (a0 : ByteArray) (a1 : ByteArray) : Option (ByteArray) := (stringslite_HasSuffix.f a0 a1).bind fun t510 => (if t510 = true then (if 0 ≤ (wrap64 ((a0.size : Int) - (a1.size : Int))) then (if (wrap64 ((a0.size : Int) - (a1.size : Int))) ≤ (a0.size : Int) then (some (a0.extract 0 ((wrap64 ((a0.size : Int) - (a1.size : Int))) : Int).toNat)) else (none)) else (none)) else (some a0))
set_option maxHeartbeats 8000000 in
set_option maxRecDepth 100000 in
theorem stringslite_TrimSuffix.calls (a0 : ByteArray) (a1 : ByteArray) (r : ByteArray) (w : World) (h : stringslite_TrimSuffix.f a0 a1 = some r) :
    Calls Tryd.prog 158 #[.string a0, .string a1] w fun e w' => e = .returned (.string r) ∧ Drawn0 w w' := by
  have H : ((stringslite_HasSuffix.f a0 a1).bind fun t510 => (if t510 = true then (if 0 ≤ (wrap64 ((a0.size : Int) - (a1.size : Int))) then (if (wrap64 ((a0.size : Int) - (a1.size : Int))) ≤ (a0.size : Int) then (some (a0.extract 0 ((wrap64 ((a0.size : Int) - (a1.size : Int))) : Int).toNat)) else (none)) else (none)) else (some a0))) = some r := h
  clear h
  replace H := Option.bind_eq_some_iff.mp H
  obtain ⟨t510, A30, H⟩ := H
  replace H : (if t510 = true then (if 0 ≤ (wrap64 ((a0.size : Int) - (a1.size : Int))) then (if (wrap64 ((a0.size : Int) - (a1.size : Int))) ≤ (a0.size : Int) then (some (a0.extract 0 ((wrap64 ((a0.size : Int) - (a1.size : Int))) : Int).toNat)) else (none)) else (none)) else (some a0)) = some r := H
  have A3 := Aside0.mk A30
  clear A30
  by_cases c4 : t510 = true
  · subst c4
    have H1 : (if 0 ≤ (wrap64 ((a0.size : Int) - (a1.size : Int))) then (if (wrap64 ((a0.size : Int) - (a1.size : Int))) ≤ (a0.size : Int) then (some (a0.extract 0 ((wrap64 ((a0.size : Int) - (a1.size : Int))) : Int).toNat)) else (none)) else (none)) = some r := by rw [if_pos rfl] at H; exact H
    clear H
    have H := H1
    clear H1
    obtain ⟨ji5, hji5⟩ : ∃ j_ : Int, (wrap64 ((a0.size : Int) - (a1.size : Int))) = j_ := ⟨_, rfl⟩
    replace H : (if 0 ≤ (ji5) then (if (ji5) ≤ (a0.size : Int) then (some (a0.extract 0 ((ji5) : Int).toNat)) else (none)) else (none)) = some r := by first | (rw [hji5] at H; exact H) | (simp only [hji5] at H ⊢; exact H)
    (try rw [hji5] at A3)
    have hji5w : (IntKind.i64.wrap ((a0.size : Int) - (a1.size : Int))) = ji5 := (i64_w _).trans hji5
    by_cases c6 : 0 ≤ (ji5)
    · rw [if_pos c6] at H
      have c6b0 := eq_true c6
      have c6b1 : decide (0 ≤ (ji5)) = true := decide_eq_true c6
      clear c6
      by_cases c7 : (ji5) ≤ (a0.size : Int)
      · rw [if_pos c7] at H
        have c7b0 := eq_true c7
        have c7b1 : decide ((ji5) ≤ (a0.size : Int)) = true := decide_eq_true c7
        clear c7
        obtain rfl := Option.some.inj H
        go_enter Tryd.func158, Tryd.ntmps158
        go_wp2_with (first | ((with_reducible refine gate_callee (f := 169) rfl ?_); refine goesL_ (some 7) rfl rfl Tryd.func169 (by kernel_rfl) rfl #[.string a0, .string a1] rfl Ag ?_; (with_reducible refine (stringslite_HasSuffix.calls a0 a1 true _ A3.out).mono ?_); rintro e w' ⟨rfl, ⟨nd, rfl⟩⟩; refine ⟨_, rfl, ?_⟩))
        go_ret
        exact ⟨by first | rfl | (simp; done) | (simp only [← hji5] <;> (first | rfl | simp)) | (simp [*]; done), by repeat (first | exact Drawn0.refl _ | apply Drawn0.step)⟩
      · rw [if_neg c7] at H
        exact absurd H (by simp)
    · rw [if_neg c6] at H
      exact absurd H (by simp)
  · replace c4 := Bool.eq_false_iff.mpr c4
    subst c4
    have H1 : (some a0) = some r := by rw [if_neg (show ¬ (false = true) by decide)] at H; exact H
    clear H
    have H := H1
    clear H1
    obtain rfl := Option.some.inj H
    go_enter Tryd.func158, Tryd.ntmps158
    go_wp2_with (first | ((with_reducible refine gate_callee (f := 169) rfl ?_); refine goesL_ (some 7) rfl rfl Tryd.func169 (by kernel_rfl) rfl #[.string a0, .string a1] rfl Ag ?_; (with_reducible refine (stringslite_HasSuffix.calls a0 a1 false _ A3.out).mono ?_); rintro e w' ⟨rfl, ⟨nd, rfl⟩⟩; refine ⟨_, rfl, ?_⟩))
    go_ret
    exact ⟨by first | rfl | (simp; done) | (simp [*]; done), by repeat (first | exact Drawn0.refl _ | apply Drawn0.step)⟩

end Go.Proofs.YtpocoeghobdfiaaDoor.PG

-- WRITTEN BY A PROGRAM OF THIS SESSION (wip/gen/gen.py), by way of the kit's print program. Lean checks it.
namespace Go.Proofs.YtpocoeghobdfiaaDoor.PG
open Go.Proofs.YtpocoeghobdfiaaDoor.Sq Go.RowKit Go.Proofs.YtpocoeghobdfiaaDoorW.PrintWords Go.Proofs.YtpocoeghobdfiaaDoorW.PrintLast Go.Proofs.YtpocoeghobdfiaaDoorW.PrintMore
attribute [local go_sem] max2_int min2_int max_two min_two max_three min_three max_four min_four   -- for this text's walks alone
set_option linter.unusedVariables false
set_option linter.unusedSimpArgs false

/-! ### strings_TrimSuffix: function 131 -/
def strings_TrimSuffix.f (a0 : ByteArray) (a1 : ByteArray) : Option (ByteArray) := (stringslite_TrimSuffix.f a0 a1).bind fun t511 => (some t511)
set_option maxHeartbeats 8000000 in
set_option maxRecDepth 100000 in
theorem strings_TrimSuffix.calls (a0 : ByteArray) (a1 : ByteArray) (r : ByteArray) (w : World) (h : strings_TrimSuffix.f a0 a1 = some r) :
    Calls Tryd.prog 131 #[.string a0, .string a1] w fun e w' => e = .returned (.string r) ∧ Drawn0 w w' := by
  have H : ((stringslite_TrimSuffix.f a0 a1).bind fun t511 => (some t511)) = some r := h
  clear h
  replace H := Option.bind_eq_some_iff.mp H
  obtain ⟨t511, A30, H⟩ := H
  replace H : (some t511) = some r := H
  have A3 := Aside0.mk A30
  clear A30
  obtain rfl := Option.some.inj H
  go_enter Tryd.func131, Tryd.ntmps131
  go_wp2_with (first | ((with_reducible refine gate_callee (f := 158) rfl ?_); refine goesL_ (some 7) rfl rfl Tryd.func158 (by kernel_rfl) rfl #[.string a0, .string a1] rfl Ag ?_; (with_reducible refine (stringslite_TrimSuffix.calls a0 a1 t511 _ A3.out).mono ?_); rintro e w' ⟨rfl, ⟨nd, rfl⟩⟩; refine ⟨_, rfl, ?_⟩))
  go_ret
  exact ⟨by first | rfl | (simp; done) | (simp [*]; done), by repeat (first | exact Drawn0.refl _ | apply Drawn0.step)⟩

end Go.Proofs.YtpocoeghobdfiaaDoor.PG
