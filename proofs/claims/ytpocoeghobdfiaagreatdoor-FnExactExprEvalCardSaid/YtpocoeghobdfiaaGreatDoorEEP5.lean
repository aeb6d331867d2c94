/-
  Functions that the law reaches, each as a plain Lean function, with the proof that the call comes to it (written by a program of this session by way of the kit's print program). Conditions: what each contract states.
-/
import Derived.Laws.Cover1
import Derived.Test.YtpocoeghobdfiaaGreatDoorEEP1
import Derived.Test.YtpocoeghobdfiaaGreatDoorEEP4
import Derived.Test.YtpocoeghobdfiaaGreatDoorEEDn
import Derived.Test.YtpocoeghobdfiaaGreatDoorEESq
namespace Go.Proofs.YtpocoeghobdfiaaGreatDoor.PG
open Go.Proofs.YtpocoeghobdfiaaGreatDoor.Sq Go.RowKit Go.Proofs.YtpocoeghobdfiaaGreatDoorW.PrintWords Go.Proofs.YtpocoeghobdfiaaGreatDoorW.PrintLast Go.Proofs.YtpocoeghobdfiaaGreatDoorW.PrintMore
attribute [local go_sem] max2_int min2_int max_two min_two max_three min_three max_four min_four   -- for this text's walks alone
set_option linter.unusedVariables false
set_option linter.unusedSimpArgs false

/-! ### impl_EntryRight: function 39 -/
mutual
def impl_EntryRight.j0 : Nat → Bool → List (S113) → List (S115) → Option (Bool)
  | 0, _, _, _ => none
  | k + 1, x20, x282000, x282001 => if x20 = true then (some false) else (impl_EntryRight.l0 k x282001 (x282001.length : Int) 0 x282000 x282001)
def impl_EntryRight.l0 : Nat → List (S115) → Int → Int → List (S113) → List (S115) → Option (Bool)
  | 0, _, _, _, _, _ => none
  | k + 1, x22, x23, x24, x282000, x282001 => if x24 < x23 then (if 0 ≤ x24 then (if x24 < (x22.length : Int) then ((impl_isAttr.f k ((rd_T115 x22 x24).f0) ((rd_T115 x22 x24).f1)).bind fun t285 => (if t285 = true then (if x24 > 0 then (if 0 ≤ (wrap64 (x24 - 1)) then (if (wrap64 (x24 - 1)) < (x282001.length : Int) then (if ((Op.bytesLess (((rd_T115 x282001 (wrap64 (x24 - 1))).f0).toList) (((rd_T115 x22 x24).f0).toList)) = true) then (impl_EntryRight.l0 k x22 x23 (wrap64 (x24 + 1)) x282000 x282001) else (some false)) else (none)) else (none)) else (impl_EntryRight.l0 k x22 x23 (wrap64 (x24 + 1)) x282000 x282001)) else (some false))) else (none)) else (none)) else (some true)
end
def impl_EntryRight.f (k : Nat) (l0_0 : List (S113)) (l0_1 : List (S115)) : Option (Bool) := if (l0_0.length : Int) = 0 then (impl_EntryRight.j0 k true l0_0 l0_1) else ((impl_DnRight.f l0_0).bind fun t282 => (if t282 = true then (impl_EntryRight.j0 k (decide ((l0_1.length : Int) > 8)) l0_0 l0_1) else (impl_EntryRight.j0 k true l0_0 l0_1)))
theorem impl_EntryRight.mono_l : ∀ k, (∀ y0 y1 y2, LeO (impl_EntryRight.j0 k y0 y1 y2) (impl_EntryRight.j0 (k + 1) y0 y1 y2)) ∧ (∀ y0 y1 y2 y3 y4, LeO (impl_EntryRight.l0 k y0 y1 y2 y3 y4) (impl_EntryRight.l0 (k + 1) y0 y1 y2 y3 y4))
  | 0 => ⟨fun _ _ _ r h => by simp [impl_EntryRight.j0] at h, fun _ _ _ _ _ r h => by simp [impl_EntryRight.l0] at h⟩
  | k + 1 => by
    obtain ⟨ih0, ih1⟩ := impl_EntryRight.mono_l k
    refine ⟨?_, ?_⟩
    · intro y0 y1 y2
      unfold impl_EntryRight.j0
      repeat' first
      | (with_reducible exact ih0 _ _ _)
      | (with_reducible exact ih1 _ _ _ _ _)
      | (with_reducible exact impl_isAttr.mono _ _ _)
      | (with_reducible exact LeO.refl _)
      | (with_reducible exact LeO.none _)
      | (with_reducible refine LeO.ite ?_ ?_)
      | (with_reducible refine LeO.bind ?_ (fun _ => ?_))
      | exact ih0 _ _ _
      | exact ih1 _ _ _ _ _
      | exact impl_isAttr.mono _ _ _
      | exact LeO.none _
      | refine LeO.ite ?_ ?_
      | refine LeO.bind ?_ (fun _ => ?_)
    · intro y0 y1 y2 y3 y4
      unfold impl_EntryRight.l0
      repeat' first
      | (with_reducible exact ih0 _ _ _)
      | (with_reducible exact ih1 _ _ _ _ _)
      | (with_reducible exact impl_isAttr.mono _ _ _)
      | (with_reducible exact LeO.refl _)
      | (with_reducible exact LeO.none _)
      | (with_reducible refine LeO.ite ?_ ?_)
      | (with_reducible refine LeO.bind ?_ (fun _ => ?_))
      | exact ih0 _ _ _
      | exact ih1 _ _ _ _ _
      | exact impl_isAttr.mono _ _ _
      | exact LeO.none _
      | refine LeO.ite ?_ ?_
      | refine LeO.bind ?_ (fun _ => ?_)
theorem impl_EntryRight.mono : ∀ a0 a1 k, LeO (impl_EntryRight.f k a0 a1) (impl_EntryRight.f (k + 1) a0 a1) := by
  intro a0 a1 k
  obtain ⟨ih0, ih1⟩ := impl_EntryRight.mono_l k
  unfold impl_EntryRight.f
  repeat' first
      | (with_reducible exact ih0 _ _ _)
      | (with_reducible exact ih1 _ _ _ _ _)
      | (with_reducible exact impl_isAttr.mono _ _ _)
      | (with_reducible exact LeO.refl _)
      | (with_reducible exact LeO.none _)
      | (with_reducible refine LeO.ite ?_ ?_)
      | (with_reducible refine LeO.bind ?_ (fun _ => ?_))
      | exact ih0 _ _ _
      | exact ih1 _ _ _ _ _
      | exact impl_isAttr.mono _ _ _
      | exact LeO.none _
      | refine LeO.ite ?_ ?_
      | refine LeO.bind ?_ (fun _ => ?_)
def impl_EntryRight.T6 : Bool × List (List Nat × List Nat) := (true, [([], []), ([0], [0]), ([1], [1]), ([2, 1], [2]), ([3], [3]), ([4, 3], [3, 4]), ([5, 3, 3], [3, 5]), ([6], [6]), ([7, 6], [6, 7]), ([6], [6]), ([9, 6], [6, 9]), ([8, 10, 6], [6, 8, 10]), ([11, 6], [6, 11]), ([12, 6], [6, 12]), ([6], [6]), ([14, 6], [6, 14]), ([13, 15, 6], [6, 13, 15]), ([6, 16, 3], [3, 6, 16]), ([3, 17], [3, 17])])
def impl_EntryRight.B6 : List Nat := [0, 1, 3, 7, 15, 31, 63, 127, 255, 127, 639, 2047, 4095, 8191, 127, 16511, 65535, 131071, 262143]
theorem impl_EntryRight.tab6 : rtab .any (opsOf Tryz.f39 6) = impl_EntryRight.T6 := by kernel_rfl
theorem impl_EntryRight.bits6 : waitsOk impl_EntryRight.T6.2 impl_EntryRight.B6 = true := by kernel_rfl
set_option maxHeartbeats 8000000 in
set_option maxRecDepth 100000 in
theorem impl_EntryRight.calls (k : Nat) (A0_0 : Option Addr) (c0_0 : Nat) (l0_0 : List (S113)) (A0_1 : Option Addr) (c0_1 : Nat) (l0_1 : List (S115)) (r : Bool) (w : World) (hr0_0 : Kd.C k113 w A0_0 l0_0.length l0_0) (hc0_0 : l0_0.length ≤ c0_0) (hr0_1 : Kd.C k115 w A0_1 l0_1.length l0_1) (hc0_1 : l0_1.length ≤ c0_1) (h : impl_EntryRight.f k l0_0 l0_1 = some r) :
    Calls Tryz.prog 39 #[.agg #[.slice A0_0 l0_0.length c0_0, .slice A0_1 l0_1.length c0_1]] w fun e w' => e = .returned (.bool r) ∧ Below w.heap.size w w' := by
  have hu37 := Tryz.underlying37
  have hu115 := Tryz.underlying115
  have HR0_0 := Aside0.mk hr0_0
  have HC0_0 := Aside0.mk hc0_0
  clear hr0_0 hc0_0
  have HR0_1 := Aside0.mk hr0_1
  have HC0_1 := Aside0.mk hc0_1
  clear hr0_1 hc0_1
  have HB := Aside0.mk (Below.refl w.heap.size w)
  have H : (if (l0_0.length : Int) = 0 then (impl_EntryRight.j0 k true l0_0 l0_1) else ((impl_DnRight.f l0_0).bind fun t282 => (if t282 = true then (impl_EntryRight.j0 k (decide ((l0_1.length : Int) > 8)) l0_0 l0_1) else (impl_EntryRight.j0 k true l0_0 l0_1)))) = some r := h
  clear h
  have HC2 := Aside0.mk H
  clear H
  go_enter Tryz.func39, Tryz.ntmps39
  go_upto_region 1 with (first | ((with_reducible refine gate_dst (N := 1) rfl ?_); (try (refine gate_guard (by rfl) ?_; dsimp only)); refine box_event ?hg (N := 1) ?hd (cs := #[.slice A0_0 l0_0.length c0_0, .slice A0_1 l0_1.length c0_1]) (t := 37) ?hr ?_; (case hd => rfl); (case hg => rfl); (case hr => first | (go_simp; done) | (go_simp; rfl)); intro gb281 hg w3 hbox hb; have n0_ := Aside0.mk (below_step By hb); have n1_ := Aside0.mk (hbox); have n2_ := Aside0.mk ((by rw [hg]; exact (below_size By) : w.heap.size ≤ gb281)); have n3_ := Aside0.mk ((by rw [hg]; exact (below_size By) : w.heap.size ≤ gb281)); clear HB; have HB := n0_; have BK281 := n1_; have GW281 := n2_; have GE281 := n3_; clear n0_ n1_ n2_ n3_; clear hb hbox hg))
  (try simp only [Act.put, List.setIfInBounds_toArray, List.set_cons_zero, List.set_cons_succ])
  go_cut [20] (fun v20 wc => ∃ (kq : Nat) (x20_1 : Bool), v20 = .bool x20_1 ∧ Aside0 (impl_EntryRight.j0 kq x20_1 l0_0 l0_1 = some r) ∧ Aside0 (kq ≤ k) ∧ Aside0 (wc.heap[gb281]? = some (.cells #[(.slice A0_0 l0_0.length c0_0), (.slice A0_1 l0_1.length c0_1)] 37 (0, 0))) ∧ Aside0 (Below w.heap.size w wc))
  case first =>
    have H := HC2.out
    clear HC2
    by_cases c4 : (l0_0.length : Int) = 0
    · rw [if_pos c4] at H
      have c4b0 : ((l0_0.length : Int) == 0) = true := beq_iff_eq.mpr c4
      have c4b1 : ((l0_0.length : Int) != 0) = false := bne_eq_false_iff_eq.mpr c4
      clear c4
      (first | rw [c4b0] | (simp only [i64_w, i32_w]; rw [c4b0]) | skip)
      have H' := Aside0.mk H
      clear H
      have hcz5_0 : w3.cell? ⟨gb281, 0, none⟩ = some (.slice A0_0 l0_0.length c0_0) := bc BK281.out 0
      have hcz5_1 : w3.cell? ⟨gb281, 1, none⟩ = some (.slice A0_1 l0_1.length c0_1) := bc BK281.out 1
      have hfz5_0 := blk_frozen BK281.out 0
      have hfz5_1 := blk_frozen BK281.out 1
      go_wp2
      go_meet
      case rel => exact ⟨_, (true), (by first | rfl | (simp; done) | (simp [*]; done)), H', ⟨by first | omega | exact Nat.le_refl _⟩, ⟨by (with_reducible repeat (first | refine blk_drewN ?_ _ | refine blk_drew ?_ | refine blk_alloc ?_ _)); exact BK281.out⟩, ⟨By⟩⟩
    · rw [if_neg c4] at H
      have c4b0 : ((l0_0.length : Int) == 0) = false := beq_eq_false_iff_ne.mpr c4
      have c4b1 : ((l0_0.length : Int) != 0) = true := bne_iff_ne.mpr c4
      have c4b2 : ¬ (l0_0 = []) := fun h_ => c4 (by rw [h_]; rfl)
      (first | rw [c4b0] | (simp only [i64_w, i32_w]; rw [c4b0]) | skip)
      replace H := Option.bind_eq_some_iff.mp H
      obtain ⟨t282, A60, H⟩ := H
      replace H : (if t282 = true then (impl_EntryRight.j0 k (decide ((l0_1.length : Int) > 8)) l0_0 l0_1) else (impl_EntryRight.j0 k true l0_0 l0_1)) = some r := H
      have A6 := Aside0.mk A60
      clear A60
      by_cases c7 : t282 = true
      · subst c7
        have H1 : (impl_EntryRight.j0 k (decide ((l0_1.length : Int) > 8)) l0_0 l0_1) = some r := by rw [if_pos rfl] at H; exact H
        clear H
        have H := H1
        clear H1
        have H' := Aside0.mk H
        clear H
        have hcz8_0 : w3.cell? ⟨gb281, 0, none⟩ = some (.slice A0_0 l0_0.length c0_0) := bc BK281.out 0
        have hcz8_1 : w3.cell? ⟨gb281, 1, none⟩ = some (.slice A0_1 l0_1.length c0_1) := bc BK281.out 1
        have hfz8_0 := blk_frozen BK281.out 0
        have hfz8_1 := blk_frozen BK281.out 1
        go_wp2_with (first | (go_at_call 72; (with_reducible refine (impl_DnRight.calls _ _ l0_0 true _ ?side1 ?side2 A6.out).mono ?_); (case side1 => exact rC (Kd.C_below HR0_0.out HB.out)); (case side2 => exact HC0_0.out); rintro e w9 ⟨rfl, hb⟩; have n0_ := Aside0.mk (bb BK281.out hb); have n1_ := Aside0.mk (below_step By hb); clear BK281; clear HB; have BK281 := n0_; have HB := n1_; clear n0_ n1_; (try clear hb); (try clear hb2); (try clear hk); (try clear hi); have ⟨hcz10_0, hcz10_1⟩ := cq2 BK281.out; have ⟨hfz10_0, hfz10_1⟩ := fq2 BK281.out))
        go_meet
        case rel => exact ⟨_, (decide ((l0_1.length : Int) > 8)), (by first | rfl | (simp; done) | (simp [*]; done)), H', ⟨by first | omega | exact Nat.le_refl _⟩, ⟨by (with_reducible repeat (first | refine blk_drewN ?_ _ | refine blk_drew ?_ | refine blk_alloc ?_ _)); exact BK281.out⟩, ⟨By⟩⟩
      · replace c7 := Bool.eq_false_iff.mpr c7
        subst c7
        have H1 : (impl_EntryRight.j0 k true l0_0 l0_1) = some r := by rw [if_neg (show ¬ (false = true) by decide)] at H; exact H
        clear H
        have H := H1
        clear H1
        have H' := Aside0.mk H
        clear H
        have hcz11_0 : w3.cell? ⟨gb281, 0, none⟩ = some (.slice A0_0 l0_0.length c0_0) := bc BK281.out 0
        have hcz11_1 : w3.cell? ⟨gb281, 1, none⟩ = some (.slice A0_1 l0_1.length c0_1) := bc BK281.out 1
        have hfz11_0 := blk_frozen BK281.out 0
        have hfz11_1 := blk_frozen BK281.out 1
        go_wp2_with (first | (go_at_call 72; (with_reducible refine (impl_DnRight.calls _ _ l0_0 false _ ?side1 ?side2 A6.out).mono ?_); (case side1 => exact rC (Kd.C_below HR0_0.out HB.out)); (case side2 => exact HC0_0.out); rintro e w12 ⟨rfl, hb⟩; have n0_ := Aside0.mk (bb BK281.out hb); have n1_ := Aside0.mk (below_step By hb); clear BK281; clear HB; have BK281 := n0_; have HB := n1_; clear n0_ n1_; (try clear hb); (try clear hb2); (try clear hk); (try clear hi)))
        go_meet
        case rel => exact ⟨_, (true), (by first | rfl | (simp; done) | (simp [*]; done)), H', ⟨by first | omega | exact Nat.le_refl _⟩, ⟨by (with_reducible repeat (first | refine blk_drewN ?_ _ | refine blk_drew ?_ | refine blk_alloc ?_ _)); exact BK281.out⟩, ⟨By⟩⟩
  case rest =>
    clear HC2
    try clear p2
    try clear c3
    try clear c4
    try clear c4b0
    try clear c4b1
    try clear c4b2
    try clear c7
    try clear hcz10_0
    try clear hcz10_1
    try clear hcz11_0
    try clear hcz11_1
    try clear hcz5_0
    try clear hcz5_1
    try clear hcz8_0
    try clear hcz8_1
    try clear hfz10_0
    try clear hfz10_1
    try clear hfz11_0
    try clear hfz11_1
    try clear hfz5_0
    try clear hfz5_1
    try clear hfz8_0
    try clear hfz8_1
    obtain ⟨kq, x20_1, rfl, HA, HJ1, BK281, HB⟩ := hcut
    cases kq with
    | zero => exact absurd HA.out (by simp [impl_EntryRight.j0])
    | succ kj1 =>
      have H := HA.out
      clear HA
      simp only [impl_EntryRight.j0] at H
      by_cases c13 : x20_1 = true
      · subst c13
        have H1 : (some false) = some r := by rw [if_pos rfl] at H; exact H
        clear H
        have H := H1
        clear H1
        obtain rfl := Option.some.inj H
        go_wp2
        go_ret
        exact ⟨Rf, By⟩
      · replace c13 := Bool.eq_false_iff.mpr c13
        subst c13
        have H1 : (impl_EntryRight.l0 kj1 l0_1 (l0_1.length : Int) 0 l0_0 l0_1) = some r := by rw [if_neg (show ¬ (false = true) by decide)] at H; exact H
        clear H
        have H := H1
        clear H1
        have H' := Aside0.mk H
        clear H
        have hcz14_0 : wc.cell? ⟨gb281, 0, none⟩ = some (.slice A0_0 l0_0.length c0_0) := bc BK281.out 0
        have hcz14_1 : wc.cell? ⟨gb281, 1, none⟩ = some (.slice A0_1 l0_1.length c0_1) := bc BK281.out 1
        have hfz14_0 := blk_frozen BK281.out 0
        have hfz14_1 := blk_frozen BK281.out 1
        go_wp2
        go_loopg [24] kj1 (fun kq v24 w' => ∃ (x24_2 : Int), v24 = .int .i64 x24_2 ∧ Aside0 (impl_EntryRight.l0 kq l0_1 (l0_1.length : Int) x24_2 l0_0 l0_1 = some r) ∧ Aside0 (kq ≤ kj1) ∧ Aside0 (w'.heap[gb281]? = some (.cells #[(.slice A0_0 l0_0.length c0_0), (.slice A0_1 l0_1.length c0_1)] 37 (0, 0))) ∧ Aside0 (Below w.heap.size w w'))
        case atStart => exact ⟨(0), (by first | rfl | (simp; done) | (simp [*]; done)), H', ⟨Nat.le_refl _⟩, ⟨by (with_reducible repeat (first | refine blk_drewN ?_ _ | refine blk_drew ?_ | refine blk_alloc ?_ _)); exact BK281.out⟩, ⟨By⟩⟩
        case round =>
          clear H'
          try clear c1
          try clear p2
          try clear c3
          try clear c4
          try clear c4b0
          try clear c4b1
          try clear c4b2
          try clear c7
          try clear c13
          try clear hcz10_0
          try clear hcz10_1
          try clear hcz11_0
          try clear hcz11_1
          try clear hcz14_0
          try clear hcz14_1
          try clear hcz5_0
          try clear hcz5_1
          try clear hcz8_0
          try clear hcz8_1
          try clear hfz10_0
          try clear hfz10_1
          try clear hfz11_0
          try clear hfz11_1
          try clear hfz14_0
          try clear hfz14_1
          try clear hfz5_0
          try clear hfz5_1
          try clear hfz8_0
          try clear hfz8_1
          try clear p2
          obtain ⟨x24_2, rfl, HA, HK2, BK281, HB⟩ := hrel
          cases gk with
          | zero => exact absurd HA.out (by simp [impl_EntryRight.l0])
          | succ k2 =>
            have H := HA.out
            clear HA
            simp only [impl_EntryRight.l0] at H
            by_cases c15 : x24_2 < (l0_1.length : Int)
            · rw [if_pos c15] at H
              have c15b0 : decide (x24_2 < (l0_1.length : Int)) = true := decide_eq_true c15
              clear c15
              by_cases c16 : 0 ≤ x24_2
              · rw [if_pos c16] at H
                have c16b0 : decide (0 ≤ x24_2) = true := decide_eq_true c16
                clear c16
                by_cases c17 : x24_2 < (l0_1.length : Int)
                · rw [if_pos c17] at H
                  have c17b0 : decide (x24_2 < (l0_1.length : Int)) = true := decide_eq_true c17
                  clear c17
                  replace H := Option.bind_eq_some_iff.mp H
                  obtain ⟨t285, A180, H⟩ := H
                  replace H : (if t285 = true then (if x24_2 > 0 then (if 0 ≤ (wrap64 (x24_2 - 1)) then (if (wrap64 (x24_2 - 1)) < (l0_1.length : Int) then (if ((Op.bytesLess (((rd_T115 l0_1 (wrap64 (x24_2 - 1))).f0).toList) (((rd_T115 l0_1 x24_2).f0).toList)) = true) then (impl_EntryRight.l0 k2 l0_1 (l0_1.length : Int) (wrap64 (x24_2 + 1)) l0_0 l0_1) else (some false)) else (none)) else (none)) else (impl_EntryRight.l0 k2 l0_1 (l0_1.length : Int) (wrap64 (x24_2 + 1)) l0_0 l0_1)) else (some false)) = some r := H
                  have A18 := Aside0.mk A180
                  clear A180
                  by_cases c19 : t285 = true
                  · subst c19
                    have H1 : (if x24_2 > 0 then (if 0 ≤ (wrap64 (x24_2 - 1)) then (if (wrap64 (x24_2 - 1)) < (l0_1.length : Int) then (if ((Op.bytesLess (((rd_T115 l0_1 (wrap64 (x24_2 - 1))).f0).toList) (((rd_T115 l0_1 x24_2).f0).toList)) = true) then (impl_EntryRight.l0 k2 l0_1 (l0_1.length : Int) (wrap64 (x24_2 + 1)) l0_0 l0_1) else (some false)) else (none)) else (none)) else (impl_EntryRight.l0 k2 l0_1 (l0_1.length : Int) (wrap64 (x24_2 + 1)) l0_0 l0_1)) = some r := by rw [if_pos rfl] at H; exact H
                    clear H
                    have H := H1
                    clear H1
                    by_cases c20 : x24_2 > 0
                    · rw [if_pos c20] at H
                      have c20b0 : decide (0 < x24_2) = true := decide_eq_true c20
                      clear c20
                      obtain ⟨ji21, hji21⟩ : ∃ j_ : Int, (wrap64 (x24_2 - 1)) = j_ := ⟨_, rfl⟩
                      replace H : (if 0 ≤ (ji21) then (if (ji21) < (l0_1.length : Int) then (if ((Op.bytesLess (((rd_T115 l0_1 (ji21)).f0).toList) (((rd_T115 l0_1 x24_2).f0).toList)) = true) then (impl_EntryRight.l0 k2 l0_1 (l0_1.length : Int) (wrap64 (x24_2 + 1)) l0_0 l0_1) else (some false)) else (none)) else (none)) = some r := by first | (rw [hji21] at H; exact H) | (simp only [hji21] at H ⊢; exact H)
                      (try rw [hji21] at A18)
                      have hji21w : (IntKind.i64.wrap (x24_2 - 1)) = ji21 := (i64_w _).trans hji21
                      by_cases c22 : 0 ≤ (ji21)
                      · rw [if_pos c22] at H
                        have c22b0 : decide (0 ≤ (ji21)) = true := decide_eq_true c22
                        clear c22
                        by_cases c23 : (ji21) < (l0_1.length : Int)
                        · rw [if_pos c23] at H
                          have c23b0 : decide ((ji21) < (l0_1.length : Int)) = true := decide_eq_true c23
                          clear c23
                          by_cases c24 : ((Op.bytesLess (((rd_T115 l0_1 (ji21)).f0).toList) (((rd_T115 l0_1 x24_2).f0).toList)) = true)
                          · rw [if_pos c24] at H
                            have c24b0 : (Op.bytesLess (((rd_T115 l0_1 (ji21)).f0).toList) (((rd_T115 l0_1 x24_2).f0).toList)) = true := c24
                            clear c24
                            have H' := Aside0.mk H
                            clear H
                            have p283 : 0 ≤ (x24_2 : Int) := of_decide_eq_true Da
                            have q283 : x24_2 < (l0_1.length : Int) := of_decide_eq_true Da
                            obtain ⟨ad283, A283_1, c283_1, e283, hx283_0, hx283_1, hl283_1, hi283_1⟩ := at_T115 HR0_1.out x24_2 p283 q283
                            cases e283
                            replace hx283_0 := bz HB.out hx283_0
                            replace hx283_1 := bz HB.out hx283_1
                            have HR283_1 := Aside0.mk hi283_1
                            have HC283_1 := Aside0.mk hl283_1
                            clear hi283_1 hl283_1
                            replace p283 := eq_true p283
                            replace q283 := eq_true q283
                            try go_wp2_with (first | ((with_reducible refine gate_dst (N := 4) rfl ?_); (try (refine gate_guard (by rfl) ?_; dsimp only)); refine box_event ?hg (N := 4) ?hd (cs := #[.string (⟨#[]⟩ : ByteArray), .slice none 0 0]) (t := 115) ?hr ?_; (case hd => rfl); (case hg => rfl); (case hr => first | (go_simp; done) | (go_simp; rfl)); intro gb284 hg w25 hbox hb; have n0_ := Aside0.mk (bb BK281.out hb); have n1_ := Aside0.mk (below_step By hb); have n2_ := Aside0.mk (hbox); have n3_ := Aside0.mk ((by rw [hg]; exact (below_size By) : w.heap.size ≤ gb284)); have n4_ := Aside0.mk ((by rw [hg]; exact (below_size By) : w.heap.size ≤ gb284)); have n5_ := Aside0.mk ((by rw [hg]; exact Nat.ne_of_lt (bl BK281.out) : gb281 ≠ gb284)); have n6_ := Aside0.mk ((by rw [hg]; exact Nat.ne_of_gt (bl BK281.out) : gb284 ≠ gb281)); clear BK281; clear HB; have BK281 := n0_; have HB := n1_; have BK284 := n2_; have GW284 := n3_; have GE284 := n4_; have NB281_284 := n5_; have NB284_281 := n6_; clear n0_ n1_ n2_ n3_ n4_ n5_ n6_; clear hb hbox hg; have hnb26 := NB284_281.out; have hnc26 := NB281_284.out; have ⟨hcz27_0, hcz27_1⟩ := cq2 BK284.out; have ⟨hfz27_0, hfz27_1⟩ := fq2 BK284.out))
                            have n0_ : Aside0 (((w25.setCell ⟨gb284, 0, none⟩ (.string ((rd_T115 l0_1 x24_2).f0))).setCell ⟨gb284, 1, none⟩ (.slice A283_1 ((rd_T115 l0_1 x24_2).f1).length c283_1)).heap[gb281]? = some (.cells #[.slice A0_0 l0_0.length c0_0, .slice (some ad283) l0_1.length c0_1] 37 (0, 0))) := ⟨Fr⟩
                            have n1_ : Aside0 (((w25.setCell ⟨gb284, 0, none⟩ (.string ((rd_T115 l0_1 x24_2).f0))).setCell ⟨gb284, 1, none⟩ (.slice A283_1 ((rd_T115 l0_1 x24_2).f1).length c283_1)).heap[gb284]? = some (.cells #[.string ((rd_T115 l0_1 x24_2).f0), .slice A283_1 ((rd_T115 l0_1 x24_2).f1).length c283_1] 115 (0, 0))) := ⟨(pq2 Pk)⟩
                            have n2_ : Aside0 (Below w.heap.size w ((w25.setCell ⟨gb284, 0, none⟩ (.string ((rd_T115 l0_1 x24_2).f0))).setCell ⟨gb284, 1, none⟩ (.slice A283_1 ((rd_T115 l0_1 x24_2).f1).length c283_1))) := ⟨By⟩
                            (try clear BK281)
                            (try clear BK284)
                            (try clear HB)
                            generalize ((w25.setCell ⟨gb284, 0, none⟩ (.string ((rd_T115 l0_1 x24_2).f0))).setCell ⟨gb284, 1, none⟩ (.slice A283_1 ((rd_T115 l0_1 x24_2).f1).length c283_1)) = w28 at n0_ n1_ n2_ ⊢
                            have BK281 := n0_
                            have BK284 := n1_
                            have HB := n2_
                            clear n0_ n1_ n2_
                            have n0_ := Aside0.mk (blk_drew BK281.out)
                            have n1_ := Aside0.mk (blk_drew BK284.out)
                            have n2_ := Aside0.mk (below_drew1 HB.out)
                            clear BK281
                            clear BK284
                            clear HB
                            have BK281 := n0_
                            have BK284 := n1_
                            have HB := n2_
                            clear n0_ n1_ n2_
                            have p286 : 0 ≤ ((ji21) : Int) := of_decide_eq_true Da
                            have q286 : (ji21) < (l0_1.length : Int) := of_decide_eq_true Da
                            obtain ⟨ad286, A286_1, c286_1, e286, hx286_0, hx286_1, hl286_1, hi286_1⟩ := at_T115 HR0_1.out (ji21) p286 q286
                            have hw286_1 := hx286_1
                            have hw286_0 := hx286_0
                            obtain rfl : ad283 = ad286 := (by injection e286)
                            replace hx286_0 := bz HB.out hx286_0
                            replace hx286_1 := bz HB.out hx286_1
                            have HR286_1 := Aside0.mk hi286_1
                            have HC286_1 := Aside0.mk hl286_1
                            clear hi286_1 hl286_1
                            replace p286 := eq_true p286
                            replace q286 := eq_true q286
                            refine start_ (n := 19) (S := fun w' => w'.cell? ⟨gb284, 0, none⟩ = some (.string ((rd_T115 l0_1 x24_2).f0)) ∧ w'.cell? ⟨gb284, 1, none⟩ = some (.slice A283_1 ((rd_T115 l0_1 x24_2).f1).length c283_1) ∧ w'.cell? ⟨gb281, 0, none⟩ = some (.slice A0_0 l0_0.length c0_0) ∧ w'.cell? ⟨gb281, 1, none⟩ = some (.slice (some ad283) l0_1.length c0_1) ∧ w'.cell? (ad283.add (((ji21)).toNat * 2)) = some (.string ((rd_T115 l0_1 (ji21)).f0)) ∧ w'.cell? ⟨(ad283.add (((ji21)).toNat * 2)).block, (ad283.add (((ji21)).toNat * 2)).off + 1, none⟩ = some (.slice A286_1 ((rd_T115 l0_1 (ji21)).f1).length c286_1)) (ds := []) (bv 19 0) (by kernel_rfl) rfl rfl ⟨bc BK284.out 0, bc BK284.out 1, bc BK281.out 0, bc BK281.out 1, (bz HB.out hw286_0), (bz HB.out hw286_1)⟩ (fun hHeld => ?_); refine with_tabW impl_EntryRight.tab6 impl_EntryRight.bits6 (fun HT_ HW_ => ?_)
                            generalize w28.drew = w29 at BK281 BK284 HB HR286_1 hx286_0 hx286_1 hHeld ⊢
                            refine tk 0 29 (bv 19 1) HT_.out HW_.out hHeld (h := ?_)
                            refine one_ (i := 1) (N := some 30) (bv 19 3) rfl rfl (one_of HT_.out (by kernel_rfl)) (by decide) (fun K hK => ?_)
                            refine goes_ Tryz.func73 (by kernel_rfl) rfl #[.agg #[.string ((rd_T115 l0_1 x24_2).f0), .slice A283_1 ((rd_T115 l0_1 x24_2).f1).length c283_1]] (by rfl) rfl rfl Ag ?_
                            with_reducible refine (impl_isAttr.calls k2 ((rd_T115 l0_1 x24_2).f0) _ _ ((rd_T115 l0_1 x24_2).f1) true _ ?side1 ?side2 A18.out).mono ?_
                            (case side1 => exact rC (Kd.C_below HR283_1.out HB.out))
                            (case side2 => exact HC283_1.out)
                            rintro e w30 ⟨rfl, hb⟩
                            refine ⟨_, rfl, ?_⟩
                            have n0_ := Aside0.mk (bb BK281.out hb)
                            have n1_ := Aside0.mk (bb BK284.out hb)
                            have n2_ := Aside0.mk (below_step By hb)
                            clear BK281
                            clear BK284
                            clear HB
                            have BK281 := n0_
                            have BK284 := n1_
                            have HB := n2_
                            clear n0_ n1_ n2_
                            (try clear hb)
                            (try clear hb2)
                            (try clear hk)
                            (try clear hi)
                            refine hK.out _ _ ⟨bc BK284.out 0, bc BK284.out 1, bc BK281.out 0, bc BK281.out 1, (bz HB.out hw286_0), (bz HB.out hw286_1)⟩ (fun hHeld => ?_)
                            clear hK K
                            refine norm_ (a' := ?_) ?_ ?_
                            rotate_left
                            · show Act.put _ (some 30) _ = _
                              simp only [Act.put, List.setIfInBounds_toArray, List.set_cons_zero, List.set_cons_succ, i64_w, i32_w]
                              rfl
                            refine pu 2 31 (bv 19 7) HT_.out (h := ?_)
                            refine pu 3 32 (bv 19 15) HT_.out (h := ?_)
                            refine pu 4 33 (bv 19 31) HT_.out (h := ?_)
                            refine pu 5 34 (bv 19 63) HT_.out (h := ?_)
                            refine pu 6 35 (bv 19 127) HT_.out (h := ?_)
                            refine pu 7 36 (bv 19 255) HT_.out (h := ?_)
                            refine pu 9 38 (bv 19 767) HT_.out (h := ?_)
                            refine pu 10 39 (bv 19 1791) HT_.out (h := ?_)
                            refine pu 14 43 (bv 19 18175) HT_.out (h := ?_)
                            refine tk 8 37 (bv 19 18431) HT_.out HW_.out hHeld (h := ?_)
                            refine pu 11 40 (bv 19 20479) HT_.out (h := ?_)
                            refine pu 12 41 (bv 19 24575) HT_.out (h := ?_)
                            refine tk 13 42 (bv 19 32767) HT_.out HW_.out hHeld (h := ?_)
                            refine tk 15 44 (bv 19 65535) HT_.out HW_.out hHeld (h := ?_)
                            refine pu 16 45 (bv 19 131071) HT_.out (h := ?_)
                            refine pu 17 46 (bv 19 262143) HT_.out (h := ?_)
                            refine pu 18 47 (bv 19 524287) HT_.out (h := ?_)
                            refine done_ (done_of HT_.out (by kernel_rfl)) ?_
                            try go_wp2
                            go_roundg k2
                            case measure => have := HJ1.out; have := HK2.out; omega
                            case rel => exact ⟨(wrap64 (x24_2 + 1)), (by first | rfl | (simp; done) | (simp [*]; done)), H', ⟨by have := HJ1.out; have := HK2.out; omega⟩, ⟨by (with_reducible repeat (first | refine blk_drewN ?_ _ | refine blk_drew ?_ | refine blk_alloc ?_ _)); exact BK281.out⟩, ⟨By⟩⟩
                          · rw [if_neg c24] at H
                            have c24b0 : (Op.bytesLess (((rd_T115 l0_1 (ji21)).f0).toList) (((rd_T115 l0_1 x24_2).f0).toList)) = false := by simpa using c24
                            clear c24
                            obtain rfl := Option.some.inj H
                            have p283 : 0 ≤ (x24_2 : Int) := of_decide_eq_true Da
                            have q283 : x24_2 < (l0_1.length : Int) := of_decide_eq_true Da
                            obtain ⟨ad283, A283_1, c283_1, e283, hx283_0, hx283_1, hl283_1, hi283_1⟩ := at_T115 HR0_1.out x24_2 p283 q283
                            cases e283
                            replace hx283_0 := bz HB.out hx283_0
                            replace hx283_1 := bz HB.out hx283_1
                            have HR283_1 := Aside0.mk hi283_1
                            have HC283_1 := Aside0.mk hl283_1
                            clear hi283_1 hl283_1
                            replace p283 := eq_true p283
                            replace q283 := eq_true q283
                            try go_wp2_with (first | ((with_reducible refine gate_dst (N := 4) rfl ?_); (try (refine gate_guard (by rfl) ?_; dsimp only)); refine box_event ?hg (N := 4) ?hd (cs := #[.string (⟨#[]⟩ : ByteArray), .slice none 0 0]) (t := 115) ?hr ?_; (case hd => rfl); (case hg => rfl); (case hr => first | (go_simp; done) | (go_simp; rfl)); intro gb284 hg w31 hbox hb; have n0_ := Aside0.mk (bb BK281.out hb); have n1_ := Aside0.mk (below_step By hb); have n2_ := Aside0.mk (hbox); have n3_ := Aside0.mk ((by rw [hg]; exact (below_size By) : w.heap.size ≤ gb284)); have n4_ := Aside0.mk ((by rw [hg]; exact (below_size By) : w.heap.size ≤ gb284)); have n5_ := Aside0.mk ((by rw [hg]; exact Nat.ne_of_lt (bl BK281.out) : gb281 ≠ gb284)); have n6_ := Aside0.mk ((by rw [hg]; exact Nat.ne_of_gt (bl BK281.out) : gb284 ≠ gb281)); clear BK281; clear HB; have BK281 := n0_; have HB := n1_; have BK284 := n2_; have GW284 := n3_; have GE284 := n4_; have NB281_284 := n5_; have NB284_281 := n6_; clear n0_ n1_ n2_ n3_ n4_ n5_ n6_; clear hb hbox hg; have hnb32 := NB284_281.out; have hnc32 := NB281_284.out; have ⟨hcz33_0, hcz33_1⟩ := cq2 BK284.out; have ⟨hfz33_0, hfz33_1⟩ := fq2 BK284.out))
                            have n0_ : Aside0 (((w31.setCell ⟨gb284, 0, none⟩ (.string ((rd_T115 l0_1 x24_2).f0))).setCell ⟨gb284, 1, none⟩ (.slice A283_1 ((rd_T115 l0_1 x24_2).f1).length c283_1)).heap[gb281]? = some (.cells #[.slice A0_0 l0_0.length c0_0, .slice (some ad283) l0_1.length c0_1] 37 (0, 0))) := ⟨Fr⟩
                            have n1_ : Aside0 (((w31.setCell ⟨gb284, 0, none⟩ (.string ((rd_T115 l0_1 x24_2).f0))).setCell ⟨gb284, 1, none⟩ (.slice A283_1 ((rd_T115 l0_1 x24_2).f1).length c283_1)).heap[gb284]? = some (.cells #[.string ((rd_T115 l0_1 x24_2).f0), .slice A283_1 ((rd_T115 l0_1 x24_2).f1).length c283_1] 115 (0, 0))) := ⟨(pq2 Pk)⟩
                            have n2_ : Aside0 (Below w.heap.size w ((w31.setCell ⟨gb284, 0, none⟩ (.string ((rd_T115 l0_1 x24_2).f0))).setCell ⟨gb284, 1, none⟩ (.slice A283_1 ((rd_T115 l0_1 x24_2).f1).length c283_1))) := ⟨By⟩
                            (try clear BK281)
                            (try clear BK284)
                            (try clear HB)
                            generalize ((w31.setCell ⟨gb284, 0, none⟩ (.string ((rd_T115 l0_1 x24_2).f0))).setCell ⟨gb284, 1, none⟩ (.slice A283_1 ((rd_T115 l0_1 x24_2).f1).length c283_1)) = w34 at n0_ n1_ n2_ ⊢
                            have BK281 := n0_
                            have BK284 := n1_
                            have HB := n2_
                            clear n0_ n1_ n2_
                            have n0_ := Aside0.mk (blk_drew BK281.out)
                            have n1_ := Aside0.mk (blk_drew BK284.out)
                            have n2_ := Aside0.mk (below_drew1 HB.out)
                            clear BK281
                            clear BK284
                            clear HB
                            have BK281 := n0_
                            have BK284 := n1_
                            have HB := n2_
                            clear n0_ n1_ n2_
                            have p286 : 0 ≤ ((ji21) : Int) := of_decide_eq_true Da
                            have q286 : (ji21) < (l0_1.length : Int) := of_decide_eq_true Da
                            obtain ⟨ad286, A286_1, c286_1, e286, hx286_0, hx286_1, hl286_1, hi286_1⟩ := at_T115 HR0_1.out (ji21) p286 q286
                            have hw286_1 := hx286_1
                            have hw286_0 := hx286_0
                            obtain rfl : ad283 = ad286 := (by injection e286)
                            replace hx286_0 := bz HB.out hx286_0
                            replace hx286_1 := bz HB.out hx286_1
                            have HR286_1 := Aside0.mk hi286_1
                            have HC286_1 := Aside0.mk hl286_1
                            clear hi286_1 hl286_1
                            replace p286 := eq_true p286
                            replace q286 := eq_true q286
                            refine start_ (n := 19) (S := fun w' => w'.cell? ⟨gb284, 0, none⟩ = some (.string ((rd_T115 l0_1 x24_2).f0)) ∧ w'.cell? ⟨gb284, 1, none⟩ = some (.slice A283_1 ((rd_T115 l0_1 x24_2).f1).length c283_1) ∧ w'.cell? ⟨gb281, 0, none⟩ = some (.slice A0_0 l0_0.length c0_0) ∧ w'.cell? ⟨gb281, 1, none⟩ = some (.slice (some ad283) l0_1.length c0_1) ∧ w'.cell? (ad283.add (((ji21)).toNat * 2)) = some (.string ((rd_T115 l0_1 (ji21)).f0)) ∧ w'.cell? ⟨(ad283.add (((ji21)).toNat * 2)).block, (ad283.add (((ji21)).toNat * 2)).off + 1, none⟩ = some (.slice A286_1 ((rd_T115 l0_1 (ji21)).f1).length c286_1)) (ds := []) (bv 19 0) (by kernel_rfl) rfl rfl ⟨bc BK284.out 0, bc BK284.out 1, bc BK281.out 0, bc BK281.out 1, (bz HB.out hw286_0), (bz HB.out hw286_1)⟩ (fun hHeld => ?_); refine with_tabW impl_EntryRight.tab6 impl_EntryRight.bits6 (fun HT_ HW_ => ?_)
                            generalize w34.drew = w35 at BK281 BK284 HB HR286_1 hx286_0 hx286_1 hHeld ⊢
                            refine tk 0 29 (bv 19 1) HT_.out HW_.out hHeld (h := ?_)
                            refine one_ (i := 1) (N := some 30) (bv 19 3) rfl rfl (one_of HT_.out (by kernel_rfl)) (by decide) (fun K hK => ?_)
                            refine goes_ Tryz.func73 (by kernel_rfl) rfl #[.agg #[.string ((rd_T115 l0_1 x24_2).f0), .slice A283_1 ((rd_T115 l0_1 x24_2).f1).length c283_1]] (by rfl) rfl rfl Ag ?_
                            with_reducible refine (impl_isAttr.calls k2 ((rd_T115 l0_1 x24_2).f0) _ _ ((rd_T115 l0_1 x24_2).f1) true _ ?side1 ?side2 A18.out).mono ?_
                            (case side1 => exact rC (Kd.C_below HR283_1.out HB.out))
                            (case side2 => exact HC283_1.out)
                            rintro e w36 ⟨rfl, hb⟩
                            refine ⟨_, rfl, ?_⟩
                            have n0_ := Aside0.mk (bb BK281.out hb)
                            have n1_ := Aside0.mk (bb BK284.out hb)
                            have n2_ := Aside0.mk (below_step By hb)
                            clear BK281
                            clear BK284
                            clear HB
                            have BK281 := n0_
                            have BK284 := n1_
                            have HB := n2_
                            clear n0_ n1_ n2_
                            (try clear hb)
                            (try clear hb2)
                            (try clear hk)
                            (try clear hi)
                            refine hK.out _ _ ⟨bc BK284.out 0, bc BK284.out 1, bc BK281.out 0, bc BK281.out 1, (bz HB.out hw286_0), (bz HB.out hw286_1)⟩ (fun hHeld => ?_)
                            clear hK K
                            refine norm_ (a' := ?_) ?_ ?_
                            rotate_left
                            · show Act.put _ (some 30) _ = _
                              simp only [Act.put, List.setIfInBounds_toArray, List.set_cons_zero, List.set_cons_succ, i64_w, i32_w]
                              rfl
                            refine pu 2 31 (bv 19 7) HT_.out (h := ?_)
                            refine pu 3 32 (bv 19 15) HT_.out (h := ?_)
                            refine pu 4 33 (bv 19 31) HT_.out (h := ?_)
                            refine pu 5 34 (bv 19 63) HT_.out (h := ?_)
                            refine pu 6 35 (bv 19 127) HT_.out (h := ?_)
                            refine pu 7 36 (bv 19 255) HT_.out (h := ?_)
                            refine pu 9 38 (bv 19 767) HT_.out (h := ?_)
                            refine pu 10 39 (bv 19 1791) HT_.out (h := ?_)
                            refine pu 14 43 (bv 19 18175) HT_.out (h := ?_)
                            refine tk 8 37 (bv 19 18431) HT_.out HW_.out hHeld (h := ?_)
                            refine pu 11 40 (bv 19 20479) HT_.out (h := ?_)
                            refine pu 12 41 (bv 19 24575) HT_.out (h := ?_)
                            refine tk 13 42 (bv 19 32767) HT_.out HW_.out hHeld (h := ?_)
                            refine tk 15 44 (bv 19 65535) HT_.out HW_.out hHeld (h := ?_)
                            refine pu 16 45 (bv 19 131071) HT_.out (h := ?_)
                            refine pu 17 46 (bv 19 262143) HT_.out (h := ?_)
                            refine pu 18 47 (bv 19 524287) HT_.out (h := ?_)
                            refine done_ (done_of HT_.out (by kernel_rfl)) ?_
                            try go_wp2
                            go_ret
                            exact ⟨by first | rfl | (simp [errW_none, errW_some] <;> rfl) | (simp only [← hji21]; first | rfl | (simp [errW_none, errW_some] <;> rfl)) | (simp [*, errW_none, errW_some] <;> first | rfl | (rw [Bool.eq_iff_iff]; simp)), By⟩
                        · rw [if_neg c23] at H
                          exact absurd H (by simp)
                      · rw [if_neg c22] at H
                        exact absurd H (by simp)
                    · rw [if_neg c20] at H
                      have c20b0 : decide (0 < x24_2) = false := decide_eq_false c20
                      clear c20
                      have H' := Aside0.mk H
                      clear H
                      have p283 : 0 ≤ (x24_2 : Int) := of_decide_eq_true Da
                      have q283 : x24_2 < (l0_1.length : Int) := of_decide_eq_true Da
                      obtain ⟨ad283, A283_1, c283_1, e283, hx283_0, hx283_1, hl283_1, hi283_1⟩ := at_T115 HR0_1.out x24_2 p283 q283
                      cases e283
                      replace hx283_0 := bz HB.out hx283_0
                      replace hx283_1 := bz HB.out hx283_1
                      have HR283_1 := Aside0.mk hi283_1
                      have HC283_1 := Aside0.mk hl283_1
                      clear hi283_1 hl283_1
                      replace p283 := eq_true p283
                      replace q283 := eq_true q283
                      try go_wp2_with (first | ((with_reducible refine gate_dst (N := 4) rfl ?_); (try (refine gate_guard (by rfl) ?_; dsimp only)); refine box_event ?hg (N := 4) ?hd (cs := #[.string (⟨#[]⟩ : ByteArray), .slice none 0 0]) (t := 115) ?hr ?_; (case hd => rfl); (case hg => rfl); (case hr => first | (go_simp; done) | (go_simp; rfl)); intro gb284 hg w37 hbox hb; have n0_ := Aside0.mk (bb BK281.out hb); have n1_ := Aside0.mk (below_step By hb); have n2_ := Aside0.mk (hbox); have n3_ := Aside0.mk ((by rw [hg]; exact (below_size By) : w.heap.size ≤ gb284)); have n4_ := Aside0.mk ((by rw [hg]; exact (below_size By) : w.heap.size ≤ gb284)); have n5_ := Aside0.mk ((by rw [hg]; exact Nat.ne_of_lt (bl BK281.out) : gb281 ≠ gb284)); have n6_ := Aside0.mk ((by rw [hg]; exact Nat.ne_of_gt (bl BK281.out) : gb284 ≠ gb281)); clear BK281; clear HB; have BK281 := n0_; have HB := n1_; have BK284 := n2_; have GW284 := n3_; have GE284 := n4_; have NB281_284 := n5_; have NB284_281 := n6_; clear n0_ n1_ n2_ n3_ n4_ n5_ n6_; clear hb hbox hg; have hnb38 := NB284_281.out; have hnc38 := NB281_284.out; have ⟨hcz39_0, hcz39_1⟩ := cq2 BK284.out; have ⟨hfz39_0, hfz39_1⟩ := fq2 BK284.out))
                      have n0_ : Aside0 (((w37.setCell ⟨gb284, 0, none⟩ (.string ((rd_T115 l0_1 x24_2).f0))).setCell ⟨gb284, 1, none⟩ (.slice A283_1 ((rd_T115 l0_1 x24_2).f1).length c283_1)).heap[gb281]? = some (.cells #[.slice A0_0 l0_0.length c0_0, .slice (some ad283) l0_1.length c0_1] 37 (0, 0))) := ⟨Fr⟩
                      have n1_ : Aside0 (((w37.setCell ⟨gb284, 0, none⟩ (.string ((rd_T115 l0_1 x24_2).f0))).setCell ⟨gb284, 1, none⟩ (.slice A283_1 ((rd_T115 l0_1 x24_2).f1).length c283_1)).heap[gb284]? = some (.cells #[.string ((rd_T115 l0_1 x24_2).f0), .slice A283_1 ((rd_T115 l0_1 x24_2).f1).length c283_1] 115 (0, 0))) := ⟨(pq2 Pk)⟩
                      have n2_ : Aside0 (Below w.heap.size w ((w37.setCell ⟨gb284, 0, none⟩ (.string ((rd_T115 l0_1 x24_2).f0))).setCell ⟨gb284, 1, none⟩ (.slice A283_1 ((rd_T115 l0_1 x24_2).f1).length c283_1))) := ⟨By⟩
                      (try clear BK281)
                      (try clear BK284)
                      (try clear HB)
                      generalize ((w37.setCell ⟨gb284, 0, none⟩ (.string ((rd_T115 l0_1 x24_2).f0))).setCell ⟨gb284, 1, none⟩ (.slice A283_1 ((rd_T115 l0_1 x24_2).f1).length c283_1)) = w40 at n0_ n1_ n2_ ⊢
                      have BK281 := n0_
                      have BK284 := n1_
                      have HB := n2_
                      clear n0_ n1_ n2_
                      have n0_ := Aside0.mk (blk_drew BK281.out)
                      have n1_ := Aside0.mk (blk_drew BK284.out)
                      have n2_ := Aside0.mk (below_drew1 HB.out)
                      clear BK281
                      clear BK284
                      clear HB
                      have BK281 := n0_
                      have BK284 := n1_
                      have HB := n2_
                      clear n0_ n1_ n2_
                      refine start_ (n := 19) (S := fun w' => w'.cell? ⟨gb284, 0, none⟩ = some (.string ((rd_T115 l0_1 x24_2).f0)) ∧ w'.cell? ⟨gb284, 1, none⟩ = some (.slice A283_1 ((rd_T115 l0_1 x24_2).f1).length c283_1)) (ds := []) (bv 19 0) (by kernel_rfl) rfl rfl ⟨bc BK284.out 0, bc BK284.out 1⟩ (fun hHeld => ?_); refine with_tabW impl_EntryRight.tab6 impl_EntryRight.bits6 (fun HT_ HW_ => ?_)
                      generalize w40.drew = w41 at BK281 BK284 HB hHeld ⊢
                      refine tk 0 29 (bv 19 1) HT_.out HW_.out hHeld (h := ?_)
                      refine one_ (i := 1) (N := some 30) (bv 19 3) rfl rfl (one_of HT_.out (by kernel_rfl)) (by decide) (fun K hK => ?_)
                      refine goes_ Tryz.func73 (by kernel_rfl) rfl #[.agg #[.string ((rd_T115 l0_1 x24_2).f0), .slice A283_1 ((rd_T115 l0_1 x24_2).f1).length c283_1]] (by rfl) rfl rfl Ag ?_
                      with_reducible refine (impl_isAttr.calls k2 ((rd_T115 l0_1 x24_2).f0) _ _ ((rd_T115 l0_1 x24_2).f1) true _ ?side1 ?side2 A18.out).mono ?_
                      (case side1 => exact rC (Kd.C_below HR283_1.out HB.out))
                      (case side2 => exact HC283_1.out)
                      rintro e w42 ⟨rfl, hb⟩
                      refine ⟨_, rfl, ?_⟩
                      have n0_ := Aside0.mk (bb BK281.out hb)
                      have n1_ := Aside0.mk (bb BK284.out hb)
                      have n2_ := Aside0.mk (below_step By hb)
                      clear BK281
                      clear BK284
                      clear HB
                      have BK281 := n0_
                      have BK284 := n1_
                      have HB := n2_
                      clear n0_ n1_ n2_
                      (try clear hb)
                      (try clear hb2)
                      (try clear hk)
                      (try clear hi)
                      refine hK.out _ _ ⟨bc BK284.out 0, bc BK284.out 1⟩ (fun hHeld => ?_)
                      clear hK K
                      refine norm_ (a' := ?_) ?_ ?_
                      rotate_left
                      · show Act.put _ (some 30) _ = _
                        simp only [Act.put, List.setIfInBounds_toArray, List.set_cons_zero, List.set_cons_succ, i64_w, i32_w]
                        rfl
                      refine pu 2 31 (bv 19 7) HT_.out (h := ?_)
                      refine pu 3 32 (bv 19 15) HT_.out (h := ?_)
                      refine pu 4 33 (bv 19 31) HT_.out (h := ?_)
                      refine pu 5 34 (bv 19 63) HT_.out (h := ?_)
                      refine pu 6 35 (bv 19 127) HT_.out (h := ?_)
                      refine pn 7 36 (bv 19 255) HT_.out (h := ?_)
                      refine pn 8 37 (bv 19 511) HT_.out (h := ?_)
                      refine pn 9 38 (bv 19 1023) HT_.out (h := ?_)
                      refine pn 10 39 (bv 19 2047) HT_.out (h := ?_)
                      refine pn 11 40 (bv 19 4095) HT_.out (h := ?_)
                      refine pn 12 41 (bv 19 8191) HT_.out (h := ?_)
                      refine pn 13 42 (bv 19 16383) HT_.out (h := ?_)
                      refine pn 14 43 (bv 19 32767) HT_.out (h := ?_)
                      refine pn 15 44 (bv 19 65535) HT_.out (h := ?_)
                      refine pn 16 45 (bv 19 131071) HT_.out (h := ?_)
                      refine pu 17 46 (bv 19 262143) HT_.out (h := ?_)
                      refine pu 18 47 (bv 19 524287) HT_.out (h := ?_)
                      refine done_ (done_of HT_.out (by kernel_rfl)) ?_
                      try go_wp2
                      go_roundg k2
                      case measure => have := HJ1.out; have := HK2.out; omega
                      case rel => exact ⟨(wrap64 (x24_2 + 1)), (by first | rfl | (simp; done) | (simp [*]; done)), H', ⟨by have := HJ1.out; have := HK2.out; omega⟩, ⟨by (with_reducible repeat (first | refine blk_drewN ?_ _ | refine blk_drew ?_ | refine blk_alloc ?_ _)); exact BK281.out⟩, ⟨By⟩⟩
                  · replace c19 := Bool.eq_false_iff.mpr c19
                    subst c19
                    have H1 : (some false) = some r := by rw [if_neg (show ¬ (false = true) by decide)] at H; exact H
                    clear H
                    have H := H1
                    clear H1
                    obtain rfl := Option.some.inj H
                    have p283 : 0 ≤ (x24_2 : Int) := of_decide_eq_true Da
                    have q283 : x24_2 < (l0_1.length : Int) := of_decide_eq_true Da
                    obtain ⟨ad283, A283_1, c283_1, e283, hx283_0, hx283_1, hl283_1, hi283_1⟩ := at_T115 HR0_1.out x24_2 p283 q283
                    cases e283
                    replace hx283_0 := bz HB.out hx283_0
                    replace hx283_1 := bz HB.out hx283_1
                    have HR283_1 := Aside0.mk hi283_1
                    have HC283_1 := Aside0.mk hl283_1
                    clear hi283_1 hl283_1
                    replace p283 := eq_true p283
                    replace q283 := eq_true q283
                    try go_wp2_with (first | ((with_reducible refine gate_dst (N := 4) rfl ?_); (try (refine gate_guard (by rfl) ?_; dsimp only)); refine box_event ?hg (N := 4) ?hd (cs := #[.string (⟨#[]⟩ : ByteArray), .slice none 0 0]) (t := 115) ?hr ?_; (case hd => rfl); (case hg => rfl); (case hr => first | (go_simp; done) | (go_simp; rfl)); intro gb284 hg w43 hbox hb; have n0_ := Aside0.mk (bb BK281.out hb); have n1_ := Aside0.mk (below_step By hb); have n2_ := Aside0.mk (hbox); have n3_ := Aside0.mk ((by rw [hg]; exact (below_size By) : w.heap.size ≤ gb284)); have n4_ := Aside0.mk ((by rw [hg]; exact (below_size By) : w.heap.size ≤ gb284)); have n5_ := Aside0.mk ((by rw [hg]; exact Nat.ne_of_lt (bl BK281.out) : gb281 ≠ gb284)); have n6_ := Aside0.mk ((by rw [hg]; exact Nat.ne_of_gt (bl BK281.out) : gb284 ≠ gb281)); clear BK281; clear HB; have BK281 := n0_; have HB := n1_; have BK284 := n2_; have GW284 := n3_; have GE284 := n4_; have NB281_284 := n5_; have NB284_281 := n6_; clear n0_ n1_ n2_ n3_ n4_ n5_ n6_; clear hb hbox hg; have hnb44 := NB284_281.out; have hnc44 := NB281_284.out; have ⟨hcz45_0, hcz45_1⟩ := cq2 BK284.out; have ⟨hfz45_0, hfz45_1⟩ := fq2 BK284.out))
                    have n0_ : Aside0 (((w43.setCell ⟨gb284, 0, none⟩ (.string ((rd_T115 l0_1 x24_2).f0))).setCell ⟨gb284, 1, none⟩ (.slice A283_1 ((rd_T115 l0_1 x24_2).f1).length c283_1)).heap[gb281]? = some (.cells #[.slice A0_0 l0_0.length c0_0, .slice (some ad283) l0_1.length c0_1] 37 (0, 0))) := ⟨Fr⟩
                    have n1_ : Aside0 (((w43.setCell ⟨gb284, 0, none⟩ (.string ((rd_T115 l0_1 x24_2).f0))).setCell ⟨gb284, 1, none⟩ (.slice A283_1 ((rd_T115 l0_1 x24_2).f1).length c283_1)).heap[gb284]? = some (.cells #[.string ((rd_T115 l0_1 x24_2).f0), .slice A283_1 ((rd_T115 l0_1 x24_2).f1).length c283_1] 115 (0, 0))) := ⟨(pq2 Pk)⟩
                    have n2_ : Aside0 (Below w.heap.size w ((w43.setCell ⟨gb284, 0, none⟩ (.string ((rd_T115 l0_1 x24_2).f0))).setCell ⟨gb284, 1, none⟩ (.slice A283_1 ((rd_T115 l0_1 x24_2).f1).length c283_1))) := ⟨By⟩
                    (try clear BK281)
                    (try clear BK284)
                    (try clear HB)
                    generalize ((w43.setCell ⟨gb284, 0, none⟩ (.string ((rd_T115 l0_1 x24_2).f0))).setCell ⟨gb284, 1, none⟩ (.slice A283_1 ((rd_T115 l0_1 x24_2).f1).length c283_1)) = w46 at n0_ n1_ n2_ ⊢
                    have BK281 := n0_
                    have BK284 := n1_
                    have HB := n2_
                    clear n0_ n1_ n2_
                    have n0_ := Aside0.mk (blk_drew BK281.out)
                    have n1_ := Aside0.mk (blk_drew BK284.out)
                    have n2_ := Aside0.mk (below_drew1 HB.out)
                    clear BK281
                    clear BK284
                    clear HB
                    have BK281 := n0_
                    have BK284 := n1_
                    have HB := n2_
                    clear n0_ n1_ n2_
                    refine start_ (n := 19) (S := fun w' => w'.cell? ⟨gb284, 0, none⟩ = some (.string ((rd_T115 l0_1 x24_2).f0)) ∧ w'.cell? ⟨gb284, 1, none⟩ = some (.slice A283_1 ((rd_T115 l0_1 x24_2).f1).length c283_1)) (ds := []) (bv 19 0) (by kernel_rfl) rfl rfl ⟨bc BK284.out 0, bc BK284.out 1⟩ (fun hHeld => ?_); refine with_tabW impl_EntryRight.tab6 impl_EntryRight.bits6 (fun HT_ HW_ => ?_)
                    generalize w46.drew = w47 at BK281 BK284 HB hHeld ⊢
                    refine tk 0 29 (bv 19 1) HT_.out HW_.out hHeld (h := ?_)
                    refine one_ (i := 1) (N := some 30) (bv 19 3) rfl rfl (one_of HT_.out (by kernel_rfl)) (by decide) (fun K hK => ?_)
                    refine goes_ Tryz.func73 (by kernel_rfl) rfl #[.agg #[.string ((rd_T115 l0_1 x24_2).f0), .slice A283_1 ((rd_T115 l0_1 x24_2).f1).length c283_1]] (by rfl) rfl rfl Ag ?_
                    with_reducible refine (impl_isAttr.calls k2 ((rd_T115 l0_1 x24_2).f0) _ _ ((rd_T115 l0_1 x24_2).f1) false _ ?side1 ?side2 A18.out).mono ?_
                    (case side1 => exact rC (Kd.C_below HR283_1.out HB.out))
                    (case side2 => exact HC283_1.out)
                    rintro e w48 ⟨rfl, hb⟩
                    refine ⟨_, rfl, ?_⟩
                    have n0_ := Aside0.mk (bb BK281.out hb)
                    have n1_ := Aside0.mk (bb BK284.out hb)
                    have n2_ := Aside0.mk (below_step By hb)
                    clear BK281
                    clear BK284
                    clear HB
                    have BK281 := n0_
                    have BK284 := n1_
                    have HB := n2_
                    clear n0_ n1_ n2_
                    (try clear hb)
                    (try clear hb2)
                    (try clear hk)
                    (try clear hi)
                    refine hK.out _ _ ⟨bc BK284.out 0, bc BK284.out 1⟩ (fun hHeld => ?_)
                    clear hK K
                    refine norm_ (a' := ?_) ?_ ?_
                    rotate_left
                    · show Act.put _ (some 30) _ = _
                      simp only [Act.put, List.setIfInBounds_toArray, List.set_cons_zero, List.set_cons_succ, i64_w, i32_w]
                      rfl
                    refine pu 2 31 (bv 19 7) HT_.out (h := ?_)
                    refine pu 3 32 (bv 19 15) HT_.out (h := ?_)
                    refine pn 4 33 (bv 19 31) HT_.out (h := ?_)
                    refine pn 5 34 (bv 19 63) HT_.out (h := ?_)
                    refine pn 6 35 (bv 19 127) HT_.out (h := ?_)
                    refine pn 7 36 (bv 19 255) HT_.out (h := ?_)
                    refine pn 8 37 (bv 19 511) HT_.out (h := ?_)
                    refine pn 9 38 (bv 19 1023) HT_.out (h := ?_)
                    refine pn 10 39 (bv 19 2047) HT_.out (h := ?_)
                    refine pn 11 40 (bv 19 4095) HT_.out (h := ?_)
                    refine pn 12 41 (bv 19 8191) HT_.out (h := ?_)
                    refine pn 13 42 (bv 19 16383) HT_.out (h := ?_)
                    refine pn 14 43 (bv 19 32767) HT_.out (h := ?_)
                    refine pn 15 44 (bv 19 65535) HT_.out (h := ?_)
                    refine pn 16 45 (bv 19 131071) HT_.out (h := ?_)
                    refine pn 17 46 (bv 19 262143) HT_.out (h := ?_)
                    refine pu 18 47 (bv 19 524287) HT_.out (h := ?_)
                    refine done_ (done_of HT_.out (by kernel_rfl)) ?_
                    try go_wp2
                    go_ret
                    exact ⟨Rf, By⟩
                · rw [if_neg c17] at H
                  exact absurd H (by simp)
              · rw [if_neg c16] at H
                exact absurd H (by simp)
            · rw [if_neg c15] at H
              have c15b0 : decide (x24_2 < (l0_1.length : Int)) = false := decide_eq_false c15
              clear c15
              obtain rfl := Option.some.inj H
              go_wp2
              go_ret
              exact ⟨Rf, By⟩

end Go.Proofs.YtpocoeghobdfiaaGreatDoor.PG
