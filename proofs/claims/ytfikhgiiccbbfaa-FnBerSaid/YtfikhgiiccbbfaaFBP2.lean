/-
  Functions that the law reaches, each as a plain Lean function, with the proof that the call comes to it (written by a program of this session by way of the kit's print program). Conditions: what each contract states.
-/
import Derived.Test.YtfikhgiiccbbfaaFBP1
import Derived.Test.YtfikhgiiccbbfaaFBSq
namespace Go.Proofs.Ytfikhgiiccbbfaa.PG
open Go.Proofs.Ytfikhgiiccbbfaa.Sq Go.RowKit Go.Proofs.YtfikhgiiccbbfaaW.PrintWords Go.Proofs.YtfikhgiiccbbfaaW.PrintLast Go.Proofs.YtfikhgiiccbbfaaW.PrintMore
attribute [local go_sem] max2_int min2_int max_two min_two max_three min_three max_four min_four   -- for this text's walks alone
set_option linter.unusedVariables false
set_option linter.unusedSimpArgs false

/-! ### spec_l09Get: function 52 -/
mutual
def spec_l09Get.j2 : Nat → ByteArray → Int → Int → Int → Int → Int → ByteArray → Int → Int → Int → ByteArray → Int → Int → Option (Int × ByteArray × Int × Int)
  | 0, _, _, _, _, _, _, _, _, _, _, _, _, _ => none
  | k + 1, x0, x7, x8, x9, x10, x307000, x307001, x307002, x307003, x308000, x308001, x308002, x308003 => if x9 > 4000 then (some (x308000, x308001, x308002, x308003)) else (if (wrap64 (x10 + x9)) > x7 then (some (x307000, x307001, x307002, x307003)) else (if 0 ≤ x10 then (if x10 ≤ (wrap64 (x10 + x9)) then (if (wrap64 (x10 + x9)) ≤ (x0.size : Int) then (some (x8, x0.extract (x10 : Int).toNat ((wrap64 (x10 + x9)) : Int).toNat, wrap64 (x10 + x9), 0)) else (none)) else (none)) else (none)))
def spec_l09Get.j0 : Nat → ByteArray → Int → Int → Int → Int → Bool → Int → ByteArray → Int → Int → Int → ByteArray → Int → Int → Option (Int × ByteArray × Int × Int)
  | 0, _, _, _, _, _, _, _, _, _, _, _, _, _, _ => none
  | k + 1, x0, x7, x8, x10, x11, x50, x307000, x307001, x307002, x307003, x308000, x308001, x308002, x308003 => if x50 = true then (some (x308000, x308001, x308002, x308003)) else (if (wrap64 (x10 + x11)) > x7 then (some (x307000, x307001, x307002, x307003)) else (spec_l09Get.l0 k x0 x7 x8 0 x10 x11 0 x307000 x307001 x307002 x307003 x308000 x308001 x308002 x308003))
def spec_l09Get.l0 : Nat → ByteArray → Int → Int → Int → Int → Int → Int → Int → ByteArray → Int → Int → Int → ByteArray → Int → Int → Option (Int × ByteArray × Int × Int)
  | 0, _, _, _, _, _, _, _, _, _, _, _, _, _, _, _ => none
  | k + 1, x0, x7, x8, x9, x10, x11, x12, x307000, x307001, x307002, x307003, x308000, x308001, x308002, x308003 => if x12 < x11 then (if 0 ≤ (wrap64 (x10 + x12)) then (if (wrap64 (x10 + x12)) < (x0.size : Int) then (spec_l09Get.l0 k x0 x7 x8 (wrap64 ((wrap64 (256 * x9)) + (wrap64 (bt x0 (wrap64 (x10 + x12)))))) x10 x11 (wrap64 (x12 + 1)) x307000 x307001 x307002 x307003 x308000 x308001 x308002 x308003) else (none)) else (none)) else (if x11 = 1 then (if x9 < 128 then (some (x308000, x308001, x308002, x308003)) else (if x11 = 2 then (if x9 < 256 then (some (x308000, x308001, x308002, x308003)) else (spec_l09Get.j2 k x0 x7 x8 x9 (wrap64 (x10 + x11)) x307000 x307001 x307002 x307003 x308000 x308001 x308002 x308003)) else (spec_l09Get.j2 k x0 x7 x8 x9 (wrap64 (x10 + x11)) x307000 x307001 x307002 x307003 x308000 x308001 x308002 x308003))) else (if x11 = 2 then (if x9 < 256 then (some (x308000, x308001, x308002, x308003)) else (spec_l09Get.j2 k x0 x7 x8 x9 (wrap64 (x10 + x11)) x307000 x307001 x307002 x307003 x308000 x308001 x308002 x308003)) else (spec_l09Get.j2 k x0 x7 x8 x9 (wrap64 (x10 + x11)) x307000 x307001 x307002 x307003 x308000 x308001 x308002 x308003)))
end
def spec_l09Get.f (k : Nat) (a0 : ByteArray) (a1 : Int) : Option (Int × ByteArray × Int × Int) := if a1 ≥ (a0.size : Int) then (some (0, (⟨#[]⟩ : ByteArray), 0, 4)) else (if 0 ≤ a1 then (if a1 < (a0.size : Int) then ((spec_l09Tag.f (wrap64 (bt a0 a1))).bind fun t308 => (if t308 = true then (if (wrap64 (a1 + 1)) ≥ (a0.size : Int) then (some (0, (⟨#[]⟩ : ByteArray), 0, 4)) else (if 0 ≤ (wrap64 (a1 + 1)) then (if (wrap64 (a1 + 1)) < (a0.size : Int) then (if (wrap64 (bt a0 (wrap64 (a1 + 1)))) ≥ 128 then (if (wrap64 ((wrap64 (bt a0 (wrap64 (a1 + 1)))) - 128)) = 1 then (spec_l09Get.j0 k a0 (a0.size : Int) (wrap64 (bt a0 a1)) (wrap64 (a1 + 2)) (wrap64 ((wrap64 (bt a0 (wrap64 (a1 + 1)))) - 128)) false 0 (⟨#[]⟩ : ByteArray) 0 4 0 (⟨#[]⟩ : ByteArray) 0 3) else (spec_l09Get.j0 k a0 (a0.size : Int) (wrap64 (bt a0 a1)) (wrap64 (a1 + 2)) (wrap64 ((wrap64 (bt a0 (wrap64 (a1 + 1)))) - 128)) ((wrap64 ((wrap64 (bt a0 (wrap64 (a1 + 1)))) - 128)) != 2) 0 (⟨#[]⟩ : ByteArray) 0 4 0 (⟨#[]⟩ : ByteArray) 0 3)) else (spec_l09Get.j2 k a0 (a0.size : Int) (wrap64 (bt a0 a1)) (wrap64 (bt a0 (wrap64 (a1 + 1)))) (wrap64 (a1 + 2)) 0 (⟨#[]⟩ : ByteArray) 0 4 0 (⟨#[]⟩ : ByteArray) 0 3)) else (none)) else (none))) else (some (0, (⟨#[]⟩ : ByteArray), 0, 3)))) else (none)) else (none))
theorem spec_l09Get.mono_l : ∀ k, (∀ y0 y1 y2 y3 y4 y5 y6 y7 y8 y9 y10 y11 y12, LeO (spec_l09Get.j2 k y0 y1 y2 y3 y4 y5 y6 y7 y8 y9 y10 y11 y12) (spec_l09Get.j2 (k + 1) y0 y1 y2 y3 y4 y5 y6 y7 y8 y9 y10 y11 y12)) ∧ (∀ y0 y1 y2 y3 y4 y5 y6 y7 y8 y9 y10 y11 y12 y13, LeO (spec_l09Get.j0 k y0 y1 y2 y3 y4 y5 y6 y7 y8 y9 y10 y11 y12 y13) (spec_l09Get.j0 (k + 1) y0 y1 y2 y3 y4 y5 y6 y7 y8 y9 y10 y11 y12 y13)) ∧ (∀ y0 y1 y2 y3 y4 y5 y6 y7 y8 y9 y10 y11 y12 y13 y14, LeO (spec_l09Get.l0 k y0 y1 y2 y3 y4 y5 y6 y7 y8 y9 y10 y11 y12 y13 y14) (spec_l09Get.l0 (k + 1) y0 y1 y2 y3 y4 y5 y6 y7 y8 y9 y10 y11 y12 y13 y14))
  | 0 => ⟨fun _ _ _ _ _ _ _ _ _ _ _ _ _ r h => by simp [spec_l09Get.j2] at h, fun _ _ _ _ _ _ _ _ _ _ _ _ _ _ r h => by simp [spec_l09Get.j0] at h, fun _ _ _ _ _ _ _ _ _ _ _ _ _ _ _ r h => by simp [spec_l09Get.l0] at h⟩
  | k + 1 => by
    obtain ⟨ih0, ih1, ih2⟩ := spec_l09Get.mono_l k; refine ⟨?_, ?_, ?_⟩
    · intro y0 y1 y2 y3 y4 y5 y6 y7 y8 y9 y10 y11 y12; unfold spec_l09Get.j2; repeat' first
      | (with_reducible exact ih0 _ _ _ _ _ _ _ _ _ _ _ _ _)
      | (with_reducible exact ih1 _ _ _ _ _ _ _ _ _ _ _ _ _ _)
      | (with_reducible exact ih2 _ _ _ _ _ _ _ _ _ _ _ _ _ _ _)
      | (with_reducible exact LeO.refl _)
      | (with_reducible exact LeO.none _)
      | (with_reducible refine LeO.ite ?_ ?_)
      | (with_reducible refine LeO.bind ?_ (fun _ => ?_))
    · intro y0 y1 y2 y3 y4 y5 y6 y7 y8 y9 y10 y11 y12 y13; unfold spec_l09Get.j0; repeat' first
      | (with_reducible exact ih0 _ _ _ _ _ _ _ _ _ _ _ _ _)
      | (with_reducible exact ih1 _ _ _ _ _ _ _ _ _ _ _ _ _ _)
      | (with_reducible exact ih2 _ _ _ _ _ _ _ _ _ _ _ _ _ _ _)
      | (with_reducible exact LeO.refl _)
      | (with_reducible exact LeO.none _)
      | (with_reducible refine LeO.ite ?_ ?_)
      | (with_reducible refine LeO.bind ?_ (fun _ => ?_))
    · intro y0 y1 y2 y3 y4 y5 y6 y7 y8 y9 y10 y11 y12 y13 y14; unfold spec_l09Get.l0; repeat' first
      | (with_reducible exact ih0 _ _ _ _ _ _ _ _ _ _ _ _ _)
      | (with_reducible exact ih1 _ _ _ _ _ _ _ _ _ _ _ _ _ _)
      | (with_reducible exact ih2 _ _ _ _ _ _ _ _ _ _ _ _ _ _ _)
      | (with_reducible exact LeO.refl _)
      | (with_reducible exact LeO.none _)
      | (with_reducible refine LeO.ite ?_ ?_)
      | (with_reducible refine LeO.bind ?_ (fun _ => ?_))
theorem spec_l09Get.mono : ∀ a0 a1 k, LeO (spec_l09Get.f k a0 a1) (spec_l09Get.f (k + 1) a0 a1) := by
  intro a0 a1 k; obtain ⟨ih0, ih1, ih2⟩ := spec_l09Get.mono_l k; unfold spec_l09Get.f; repeat' first
      | (with_reducible exact ih0 _ _ _ _ _ _ _ _ _ _ _ _ _)
      | (with_reducible exact ih1 _ _ _ _ _ _ _ _ _ _ _ _ _ _)
      | (with_reducible exact ih2 _ _ _ _ _ _ _ _ _ _ _ _ _ _ _)
      | (with_reducible exact LeO.refl _)
      | (with_reducible exact LeO.none _)
      | (with_reducible refine LeO.ite ?_ ?_)
      | (with_reducible refine LeO.bind ?_ (fun _ => ?_))
set_option maxHeartbeats 8000000 in
set_option maxRecDepth 100000 in
theorem spec_l09Get.calls (k : Nat) (a0 : ByteArray) (a1 : Int) (r1 : Int) (r2 : ByteArray) (r3 : Int) (r4 : Int) (w : World) (h : spec_l09Get.f k a0 a1 = some (r1, r2, r3, r4)) :
    Calls Try.prog 52 #[.string a0, .int .i64 a1] w fun e w' => e = .returned (.agg #[.int .i64 r1, .string r2, .int .i64 r3, .int .i64 r4]) ∧ Below w.heap.size w w' := by
  have hu29 := Try.underlying29; have hu27 := Try.underlying27; have HB := Aside0.mk (Below.refl w.heap.size w); have H : (if a1 ≥ (a0.size : Int) then (some (0, (⟨#[]⟩ : ByteArray), 0, 4)) else (if 0 ≤ a1 then (if a1 < (a0.size : Int) then ((spec_l09Tag.f (wrap64 (bt a0 a1))).bind fun t308 => (if t308 = true then (if (wrap64 (a1 + 1)) ≥ (a0.size : Int) then (some (0, (⟨#[]⟩ : ByteArray), 0, 4)) else (if 0 ≤ (wrap64 (a1 + 1)) then (if (wrap64 (a1 + 1)) < (a0.size : Int) then (if (wrap64 (bt a0 (wrap64 (a1 + 1)))) ≥ 128 then (if (wrap64 ((wrap64 (bt a0 (wrap64 (a1 + 1)))) - 128)) = 1 then (spec_l09Get.j0 k a0 (a0.size : Int) (wrap64 (bt a0 a1)) (wrap64 (a1 + 2)) (wrap64 ((wrap64 (bt a0 (wrap64 (a1 + 1)))) - 128)) false 0 (⟨#[]⟩ : ByteArray) 0 4 0 (⟨#[]⟩ : ByteArray) 0 3) else (spec_l09Get.j0 k a0 (a0.size : Int) (wrap64 (bt a0 a1)) (wrap64 (a1 + 2)) (wrap64 ((wrap64 (bt a0 (wrap64 (a1 + 1)))) - 128)) ((wrap64 ((wrap64 (bt a0 (wrap64 (a1 + 1)))) - 128)) != 2) 0 (⟨#[]⟩ : ByteArray) 0 4 0 (⟨#[]⟩ : ByteArray) 0 3)) else (spec_l09Get.j2 k a0 (a0.size : Int) (wrap64 (bt a0 a1)) (wrap64 (bt a0 (wrap64 (a1 + 1)))) (wrap64 (a1 + 2)) 0 (⟨#[]⟩ : ByteArray) 0 4 0 (⟨#[]⟩ : ByteArray) 0 3)) else (none)) else (none))) else (some (0, (⟨#[]⟩ : ByteArray), 0, 3)))) else (none)) else (none))) = some (r1, r2, r3, r4) := h; clear h; by_cases c3 : a1 ≥ (a0.size : Int)
  · rw [if_pos c3] at H; have c3b0 : decide ((a0.size : Int) ≤ a1) = true := decide_eq_true c3; clear c3; simp only [Option.some.injEq, Prod.mk.injEq] at H; obtain ⟨rfl, rfl, rfl, rfl⟩ := H; go_enter Try.func52, Try.ntmps52; go_wp2_with (first | ((with_reducible refine gate_dst (N := 4) rfl ?_); refine box_event ?hg (N := 4) ?hd (cs := #[.int .i64 0, .string (⟨#[]⟩ : ByteArray), .int .i64 0, .int .i64 0]) (t := 29) ?hr ?_; (case hd => rfl); (case hg => rfl); (case hr => first | (go_simp; done) | (go_simp; rfl)); intro gb305 hg w4 hbox hb; have n_ := aa (below_step By hb) <| aa (hbox) <| aa ((by rw [hg]; exact (below_size By) : w.heap.size ≤ gb305)) <| Aside0.mk ((by rw [hg]; exact (below_size By) : w.heap.size ≤ gb305)); clear HB; obtain ⟨HB, BK305, GW305, GE305⟩ := n_; clear hb hbox hg) | ((with_reducible refine gate_dst (N := 5) rfl ?_); refine box_event ?hg (N := 5) ?hd (cs := #[.int .i64 0, .string (⟨#[]⟩ : ByteArray), .int .i64 0, .int .i64 0]) (t := 29) ?hr ?_; (case hd => rfl); (case hg => rfl); (case hr => first | (go_simp; done) | (go_simp; rfl)); intro gb306 hg w5 hbox hb; have n_ := aa (bb BK305.out hb) <| aa (below_step By hb) <| aa (hbox) <| aa ((by rw [hg]; exact (below_size By) : w.heap.size ≤ gb306)) <| aa ((by rw [hg]; exact (below_size By) : w.heap.size ≤ gb306)) <| aa ((by rw [hg]; exact Nat.ne_of_lt (bl BK305.out) : gb305 ≠ gb306)) <| Aside0.mk ((by rw [hg]; exact Nat.ne_of_gt (bl BK305.out) : gb306 ≠ gb305)); clear BK305 HB; obtain ⟨BK305, HB, BK306, GW306, GE306, NB305_306, NB306_305⟩ := n_; clear hb hbox hg; have hnb6 := NB306_305.out; have hnc6 := NB305_306.out; have ⟨hcz7_0, hcz7_1, hcz7_2, hcz7_3⟩ := cq4 BK306.out; have ⟨hfz7_0, hfz7_1, hfz7_2, hfz7_3⟩ := fq4 BK306.out) | ((with_reducible refine gate_dst (N := 6) rfl ?_); refine box_event ?hg (N := 6) ?hd (cs := #[.int .i64 0, .string (⟨#[]⟩ : ByteArray), .int .i64 0, .int .i64 0]) (t := 29) ?hr ?_; (case hd => rfl); (case hg => rfl); (case hr => first | (go_simp; done) | (go_simp; rfl)); intro gb307 hg w8 hbox hb; have n_ := aa (bf BK305.out hb) <| aa (blk_below (g := gb306) (o := .cells #[.int .i64 0, .string (⟨#[]⟩ : ByteArray), .int .i64 0, .int .i64 4] 29 (0, 0)) (pq4 Pk) hb) <| aa (below_step By hb) <| aa (hbox) <| aa ((by rw [hg]; exact (below_size By) : w.heap.size ≤ gb307)) <| aa ((by rw [hg]; exact (below_size By) : w.heap.size ≤ gb307)) <| aa ((by rw [hg]; exact Nat.ne_of_lt (bm BK305.out) : gb305 ≠ gb307)) <| aa ((by rw [hg]; exact Nat.ne_of_gt (bm BK305.out) : gb307 ≠ gb305)) <| aa ((by rw [hg]; exact Nat.ne_of_lt (blk_lt (g := gb306) (o := .cells #[.int .i64 0, .string (⟨#[]⟩ : ByteArray), .int .i64 0, .int .i64 4] 29 (0, 0)) (pq4 Pk)) : gb306 ≠ gb307)) <| Aside0.mk ((by rw [hg]; exact Nat.ne_of_gt (blk_lt (g := gb306) (o := .cells #[.int .i64 0, .string (⟨#[]⟩ : ByteArray), .int .i64 0, .int .i64 4] 29 (0, 0)) (pq4 Pk)) : gb307 ≠ gb306)); clear BK305 BK306 HB; obtain ⟨BK305, BK306, HB, BK307, GW307, GE307, NB305_307, NB307_305, NB306_307, NB307_306⟩ := n_; clear hb hbox hg; have hnb9 := NB307_305.out; have hnc9 := NB305_307.out; have hnb10 := NB307_306.out; have hnc10 := NB306_307.out; have ⟨hcz11_0, hcz11_1, hcz11_2, hcz11_3⟩ := cq4 BK307.out; have ⟨hfz11_0, hfz11_1, hfz11_2, hfz11_3⟩ := fq4 BK307.out; have ⟨hcz12_0, hcz12_1, hcz12_2, hcz12_3⟩ := cq4 BK306.out; have ⟨hfz12_0, hfz12_1, hfz12_2, hfz12_3⟩ := fq4 BK306.out; have ⟨hcz13_0, hcz13_1, hcz13_2, hcz13_3⟩ := cq4 BK305.out; have ⟨hfz13_0, hfz13_1, hfz13_2, hfz13_3⟩ := fq4 BK305.out)); refine bodyPost_ret (results_cell_row rfl _ _ gb305 29 #[.int .i64 0, .string (⟨#[]⟩ : ByteArray), .int .i64 0, .int .i64 4] (0, 0) _ rfl (by (with_reducible repeat (first | refine blk_drewN ?_ _ | refine blk_drew ?_ | refine blk_alloc ?_ _)); refine blk_put (cs := #[.int .i64 0, .string (⟨#[]⟩ : ByteArray), .int .i64 0, .int .i64 0]) ?_ 3 _ rfl; (with_reducible repeat (first | refine blk_drewN ?_ _ | refine blk_drew ?_ | refine blk_alloc ?_ _)); refine blk_put (cs := #[.int .i64 0, .string (⟨#[]⟩ : ByteArray), .int .i64 0, .int .i64 0]) ?_ 2 _ rfl; (with_reducible repeat (first | refine blk_drewN ?_ _ | refine blk_drew ?_ | refine blk_alloc ?_ _)); refine blk_put (cs := #[.int .i64 0, .string (⟨#[]⟩ : ByteArray), .int .i64 0, .int .i64 0]) ?_ 1 _ rfl; (with_reducible repeat (first | refine blk_drewN ?_ _ | refine blk_drew ?_ | refine blk_alloc ?_ _)); refine blk_put (cs := #[.int .i64 0, .string (⟨#[]⟩ : ByteArray), .int .i64 0, .int .i64 0]) ?_ 0 _ rfl; (with_reducible repeat (first | refine blk_drewN ?_ _ | refine blk_drew ?_ | refine blk_alloc ?_ _)); refine blk_far ?_ NB305_307.out _; (with_reducible repeat (first | refine blk_drewN ?_ _ | refine blk_drew ?_ | refine blk_alloc ?_ _)); refine blk_far ?_ NB305_307.out _; (with_reducible repeat (first | refine blk_drewN ?_ _ | refine blk_drew ?_ | refine blk_alloc ?_ _)); refine blk_far ?_ NB305_307.out _; (with_reducible repeat (first | refine blk_drewN ?_ _ | refine blk_drew ?_ | refine blk_alloc ?_ _)); refine blk_far ?_ NB305_307.out _; (with_reducible repeat (first | refine blk_drewN ?_ _ | refine blk_drew ?_ | refine blk_alloc ?_ _)); exact BK305.out) Try.underlying29 rfl (by kernel_rfl)) rfl ?_; exact ⟨Rf, By⟩
  · rw [if_neg c3] at H; have c3b0 : decide ((a0.size : Int) ≤ a1) = false := decide_eq_false c3; clear c3; by_cases c14 : 0 ≤ a1
    · rw [if_pos c14] at H; have c14b0 : decide (0 ≤ a1) = true := decide_eq_true c14; clear c14; by_cases c15 : a1 < (a0.size : Int)
      · rw [if_pos c15] at H; have c15b0 : decide (a1 < (a0.size : Int)) = true := decide_eq_true c15; clear c15; replace H := Option.bind_eq_some_iff.mp H; obtain ⟨t308, A170, H⟩ := H; replace H : (if t308 = true then (if (wrap64 (a1 + 1)) ≥ (a0.size : Int) then (some (0, (⟨#[]⟩ : ByteArray), 0, 4)) else (if 0 ≤ (wrap64 (a1 + 1)) then (if (wrap64 (a1 + 1)) < (a0.size : Int) then (if (wrap64 (bt a0 (wrap64 (a1 + 1)))) ≥ 128 then (if (wrap64 ((wrap64 (bt a0 (wrap64 (a1 + 1)))) - 128)) = 1 then (spec_l09Get.j0 k a0 (a0.size : Int) (wrap64 (bt a0 a1)) (wrap64 (a1 + 2)) (wrap64 ((wrap64 (bt a0 (wrap64 (a1 + 1)))) - 128)) false 0 (⟨#[]⟩ : ByteArray) 0 4 0 (⟨#[]⟩ : ByteArray) 0 3) else (spec_l09Get.j0 k a0 (a0.size : Int) (wrap64 (bt a0 a1)) (wrap64 (a1 + 2)) (wrap64 ((wrap64 (bt a0 (wrap64 (a1 + 1)))) - 128)) ((wrap64 ((wrap64 (bt a0 (wrap64 (a1 + 1)))) - 128)) != 2) 0 (⟨#[]⟩ : ByteArray) 0 4 0 (⟨#[]⟩ : ByteArray) 0 3)) else (spec_l09Get.j2 k a0 (a0.size : Int) (wrap64 (bt a0 a1)) (wrap64 (bt a0 (wrap64 (a1 + 1)))) (wrap64 (a1 + 2)) 0 (⟨#[]⟩ : ByteArray) 0 4 0 (⟨#[]⟩ : ByteArray) 0 3)) else (none)) else (none))) else (some (0, (⟨#[]⟩ : ByteArray), 0, 3))) = some (r1, r2, r3, r4) := H; have A17 := Aside0.mk A170; clear A170; by_cases c18 : t308 = true
        · subst c18; have H1 : (if (wrap64 (a1 + 1)) ≥ (a0.size : Int) then (some (0, (⟨#[]⟩ : ByteArray), 0, 4)) else (if 0 ≤ (wrap64 (a1 + 1)) then (if (wrap64 (a1 + 1)) < (a0.size : Int) then (if (wrap64 (bt a0 (wrap64 (a1 + 1)))) ≥ 128 then (if (wrap64 ((wrap64 (bt a0 (wrap64 (a1 + 1)))) - 128)) = 1 then (spec_l09Get.j0 k a0 (a0.size : Int) (wrap64 (bt a0 a1)) (wrap64 (a1 + 2)) (wrap64 ((wrap64 (bt a0 (wrap64 (a1 + 1)))) - 128)) false 0 (⟨#[]⟩ : ByteArray) 0 4 0 (⟨#[]⟩ : ByteArray) 0 3) else (spec_l09Get.j0 k a0 (a0.size : Int) (wrap64 (bt a0 a1)) (wrap64 (a1 + 2)) (wrap64 ((wrap64 (bt a0 (wrap64 (a1 + 1)))) - 128)) ((wrap64 ((wrap64 (bt a0 (wrap64 (a1 + 1)))) - 128)) != 2) 0 (⟨#[]⟩ : ByteArray) 0 4 0 (⟨#[]⟩ : ByteArray) 0 3)) else (spec_l09Get.j2 k a0 (a0.size : Int) (wrap64 (bt a0 a1)) (wrap64 (bt a0 (wrap64 (a1 + 1)))) (wrap64 (a1 + 2)) 0 (⟨#[]⟩ : ByteArray) 0 4 0 (⟨#[]⟩ : ByteArray) 0 3)) else (none)) else (none))) = some (r1, r2, r3, r4) := by rw [if_pos rfl] at H; exact H
          clear H; have H := H1; clear H1; by_cases c19 : (wrap64 (a1 + 1)) ≥ (a0.size : Int)
          · rw [if_pos c19] at H; have c19b0 : decide ((a0.size : Int) ≤ (wrap64 (a1 + 1))) = true := decide_eq_true c19; clear c19; simp only [Option.some.injEq, Prod.mk.injEq] at H; obtain ⟨rfl, rfl, rfl, rfl⟩ := H; go_enter Try.func52, Try.ntmps52; go_wp2_with (first | ((with_reducible refine gate_dst (N := 4) rfl ?_); refine box_event ?hg (N := 4) ?hd (cs := #[.int .i64 0, .string (⟨#[]⟩ : ByteArray), .int .i64 0, .int .i64 0]) (t := 29) ?hr ?_; (case hd => rfl); (case hg => rfl); (case hr => first | (go_simp; done) | (go_simp; rfl)); intro gb305 hg w20 hbox hb; have n_ := aa (below_step By hb) <| aa (hbox) <| aa ((by rw [hg]; exact (below_size By) : w.heap.size ≤ gb305)) <| Aside0.mk ((by rw [hg]; exact (below_size By) : w.heap.size ≤ gb305)); clear HB; obtain ⟨HB, BK305, GW305, GE305⟩ := n_; clear hb hbox hg) | ((with_reducible refine gate_dst (N := 5) rfl ?_); refine box_event ?hg (N := 5) ?hd (cs := #[.int .i64 0, .string (⟨#[]⟩ : ByteArray), .int .i64 0, .int .i64 0]) (t := 29) ?hr ?_; (case hd => rfl); (case hg => rfl); (case hr => first | (go_simp; done) | (go_simp; rfl)); intro gb306 hg w21 hbox hb; have n_ := aa (bb BK305.out hb) <| aa (below_step By hb) <| aa (hbox) <| aa ((by rw [hg]; exact (below_size By) : w.heap.size ≤ gb306)) <| aa ((by rw [hg]; exact (below_size By) : w.heap.size ≤ gb306)) <| aa ((by rw [hg]; exact Nat.ne_of_lt (bl BK305.out) : gb305 ≠ gb306)) <| Aside0.mk ((by rw [hg]; exact Nat.ne_of_gt (bl BK305.out) : gb306 ≠ gb305)); clear BK305 HB; obtain ⟨BK305, HB, BK306, GW306, GE306, NB305_306, NB306_305⟩ := n_; clear hb hbox hg; have hnb22 := NB306_305.out; have hnc22 := NB305_306.out; have ⟨hcz23_0, hcz23_1, hcz23_2, hcz23_3⟩ := cq4 BK306.out; have ⟨hfz23_0, hfz23_1, hfz23_2, hfz23_3⟩ := fq4 BK306.out) | ((with_reducible refine gate_dst (N := 6) rfl ?_); refine box_event ?hg (N := 6) ?hd (cs := #[.int .i64 0, .string (⟨#[]⟩ : ByteArray), .int .i64 0, .int .i64 0]) (t := 29) ?hr ?_; (case hd => rfl); (case hg => rfl); (case hr => first | (go_simp; done) | (go_simp; rfl)); intro gb307 hg w24 hbox hb; have n_ := aa (bf BK305.out hb) <| aa (blk_below (g := gb306) (o := .cells #[.int .i64 0, .string (⟨#[]⟩ : ByteArray), .int .i64 0, .int .i64 4] 29 (0, 0)) (pq4 Pk) hb) <| aa (below_step By hb) <| aa (hbox) <| aa ((by rw [hg]; exact (below_size By) : w.heap.size ≤ gb307)) <| aa ((by rw [hg]; exact (below_size By) : w.heap.size ≤ gb307)) <| aa ((by rw [hg]; exact Nat.ne_of_lt (bm BK305.out) : gb305 ≠ gb307)) <| aa ((by rw [hg]; exact Nat.ne_of_gt (bm BK305.out) : gb307 ≠ gb305)) <| aa ((by rw [hg]; exact Nat.ne_of_lt (blk_lt (g := gb306) (o := .cells #[.int .i64 0, .string (⟨#[]⟩ : ByteArray), .int .i64 0, .int .i64 4] 29 (0, 0)) (pq4 Pk)) : gb306 ≠ gb307)) <| Aside0.mk ((by rw [hg]; exact Nat.ne_of_gt (blk_lt (g := gb306) (o := .cells #[.int .i64 0, .string (⟨#[]⟩ : ByteArray), .int .i64 0, .int .i64 4] 29 (0, 0)) (pq4 Pk)) : gb307 ≠ gb306)); clear BK305 BK306 HB; obtain ⟨BK305, BK306, HB, BK307, GW307, GE307, NB305_307, NB307_305, NB306_307, NB307_306⟩ := n_; clear hb hbox hg; have hnb25 := NB307_305.out; have hnc25 := NB305_307.out; have hnb26 := NB307_306.out; have hnc26 := NB306_307.out; have ⟨hcz27_0, hcz27_1, hcz27_2, hcz27_3⟩ := cq4 BK307.out; have ⟨hfz27_0, hfz27_1, hfz27_2, hfz27_3⟩ := fq4 BK307.out; have p16 : 0 ≤ (a1 : Int) := of_decide_eq_true Da; have q16 : a1 < (a0.size : Int) := of_decide_eq_true Da; have hx16 := bt_at a0 a1; replace p16 := eq_true p16; replace q16 := eq_true q16) | ((with_reducible refine gate_callee (f := 42) rfl ?_); refine goesL_ (some 26) rfl rfl Try.func42 (by kernel_rfl) rfl #[.int .i64 (wrap64 (bt a0 a1))] rfl Ag ?_; (with_reducible refine (spec_l09Tag.calls (wrap64 (bt a0 a1)) true _ A17.out).mono ?_); rintro e w' ⟨rfl, ⟨nd, rfl⟩⟩; refine ⟨_, rfl, ?_⟩; have ⟨hcz28_0, hcz28_1, hcz28_2, hcz28_3⟩ := cq4 BK306.out; have ⟨hfz28_0, hfz28_1, hfz28_2, hfz28_3⟩ := fq4 BK306.out; have ⟨hcz29_0, hcz29_1, hcz29_2, hcz29_3⟩ := cq4 BK305.out; have ⟨hfz29_0, hfz29_1, hfz29_2, hfz29_3⟩ := fq4 BK305.out)); refine bodyPost_ret (results_cell_row rfl _ _ gb305 29 #[.int .i64 0, .string (⟨#[]⟩ : ByteArray), .int .i64 0, .int .i64 4] (0, 0) _ rfl (by (with_reducible repeat (first | refine blk_drewN ?_ _ | refine blk_drew ?_ | refine blk_alloc ?_ _)); refine blk_put (cs := #[.int .i64 0, .string (⟨#[]⟩ : ByteArray), .int .i64 0, .int .i64 0]) ?_ 3 _ rfl; (with_reducible repeat (first | refine blk_drewN ?_ _ | refine blk_drew ?_ | refine blk_alloc ?_ _)); refine blk_put (cs := #[.int .i64 0, .string (⟨#[]⟩ : ByteArray), .int .i64 0, .int .i64 0]) ?_ 2 _ rfl; (with_reducible repeat (first | refine blk_drewN ?_ _ | refine blk_drew ?_ | refine blk_alloc ?_ _)); refine blk_put (cs := #[.int .i64 0, .string (⟨#[]⟩ : ByteArray), .int .i64 0, .int .i64 0]) ?_ 1 _ rfl; (with_reducible repeat (first | refine blk_drewN ?_ _ | refine blk_drew ?_ | refine blk_alloc ?_ _)); refine blk_put (cs := #[.int .i64 0, .string (⟨#[]⟩ : ByteArray), .int .i64 0, .int .i64 0]) ?_ 0 _ rfl; (with_reducible repeat (first | refine blk_drewN ?_ _ | refine blk_drew ?_ | refine blk_alloc ?_ _)); refine blk_far ?_ NB305_307.out _; (with_reducible repeat (first | refine blk_drewN ?_ _ | refine blk_drew ?_ | refine blk_alloc ?_ _)); refine blk_far ?_ NB305_307.out _; (with_reducible repeat (first | refine blk_drewN ?_ _ | refine blk_drew ?_ | refine blk_alloc ?_ _)); refine blk_far ?_ NB305_307.out _; (with_reducible repeat (first | refine blk_drewN ?_ _ | refine blk_drew ?_ | refine blk_alloc ?_ _)); refine blk_far ?_ NB305_307.out _; (with_reducible repeat (first | refine blk_drewN ?_ _ | refine blk_drew ?_ | refine blk_alloc ?_ _)); exact BK305.out) Try.underlying29 rfl (by kernel_rfl)) rfl ?_; exact ⟨Rf, By⟩
          · rw [if_neg c19] at H; have c19b0 : decide ((a0.size : Int) ≤ (wrap64 (a1 + 1))) = false := decide_eq_false c19; clear c19; obtain ⟨ji30, hji30⟩ : ∃ j_ : Int, (wrap64 (a1 + 1)) = j_ := ⟨_, rfl⟩; replace H : (if 0 ≤ (ji30) then (if (ji30) < (a0.size : Int) then (if (wrap64 (bt a0 (ji30))) ≥ 128 then (if (wrap64 ((wrap64 (bt a0 (ji30))) - 128)) = 1 then (spec_l09Get.j0 k a0 (a0.size : Int) (wrap64 (bt a0 a1)) (wrap64 (a1 + 2)) (wrap64 ((wrap64 (bt a0 (ji30))) - 128)) false 0 (⟨#[]⟩ : ByteArray) 0 4 0 (⟨#[]⟩ : ByteArray) 0 3) else (spec_l09Get.j0 k a0 (a0.size : Int) (wrap64 (bt a0 a1)) (wrap64 (a1 + 2)) (wrap64 ((wrap64 (bt a0 (ji30))) - 128)) ((wrap64 ((wrap64 (bt a0 (ji30))) - 128)) != 2) 0 (⟨#[]⟩ : ByteArray) 0 4 0 (⟨#[]⟩ : ByteArray) 0 3)) else (spec_l09Get.j2 k a0 (a0.size : Int) (wrap64 (bt a0 a1)) (wrap64 (bt a0 (ji30))) (wrap64 (a1 + 2)) 0 (⟨#[]⟩ : ByteArray) 0 4 0 (⟨#[]⟩ : ByteArray) 0 3)) else (none)) else (none)) = some (r1, r2, r3, r4) := by first | (rw [hji30] at H; exact H) | (simp only [hji30] at H ⊢; exact H)
            (try rw [hji30] at c19b0); (try rw [hji30] at A17); have hji30w : (IntKind.i64.wrap (a1 + 1)) = ji30 := (i64_w _).trans hji30; by_cases c31 : 0 ≤ (ji30)
            · rw [if_pos c31] at H; have c31b0 : decide (0 ≤ (ji30)) = true := decide_eq_true c31; clear c31; by_cases c32 : (ji30) < (a0.size : Int)
              · rw [if_pos c32] at H; have c32b0 : decide ((ji30) < (a0.size : Int)) = true := decide_eq_true c32; clear c32; have HC34 := Aside0.mk H; clear H; go_enter Try.func52, Try.ntmps52; go_upto_if 42 with (first | ((with_reducible refine gate_dst (N := 4) rfl ?_); refine box_event ?hg (N := 4) ?hd (cs := #[.int .i64 0, .string (⟨#[]⟩ : ByteArray), .int .i64 0, .int .i64 0]) (t := 29) ?hr ?_; (case hd => rfl); (case hg => rfl); (case hr => first | (go_simp; done) | (go_simp; rfl)); intro gb305 hg w35 hbox hb; have n_ := aa (below_step By hb) <| aa (hbox) <| aa ((by rw [hg]; exact (below_size By) : w.heap.size ≤ gb305)) <| Aside0.mk ((by rw [hg]; exact (below_size By) : w.heap.size ≤ gb305)); clear HB; obtain ⟨HB, BK305, GW305, GE305⟩ := n_; clear hb hbox hg) | ((with_reducible refine gate_dst (N := 5) rfl ?_); refine box_event ?hg (N := 5) ?hd (cs := #[.int .i64 0, .string (⟨#[]⟩ : ByteArray), .int .i64 0, .int .i64 0]) (t := 29) ?hr ?_; (case hd => rfl); (case hg => rfl); (case hr => first | (go_simp; done) | (go_simp; rfl)); intro gb306 hg w36 hbox hb; have n_ := aa (bb BK305.out hb) <| aa (below_step By hb) <| aa (hbox) <| aa ((by rw [hg]; exact (below_size By) : w.heap.size ≤ gb306)) <| aa ((by rw [hg]; exact (below_size By) : w.heap.size ≤ gb306)) <| aa ((by rw [hg]; exact Nat.ne_of_lt (bl BK305.out) : gb305 ≠ gb306)) <| Aside0.mk ((by rw [hg]; exact Nat.ne_of_gt (bl BK305.out) : gb306 ≠ gb305)); clear BK305 HB; obtain ⟨BK305, HB, BK306, GW306, GE306, NB305_306, NB306_305⟩ := n_; clear hb hbox hg; have hnb37 := NB306_305.out; have hnc37 := NB305_306.out; have ⟨hcz38_0, hcz38_1, hcz38_2, hcz38_3⟩ := cq4 BK306.out; have ⟨hfz38_0, hfz38_1, hfz38_2, hfz38_3⟩ := fq4 BK306.out) | ((with_reducible refine gate_dst (N := 6) rfl ?_); refine box_event ?hg (N := 6) ?hd (cs := #[.int .i64 0, .string (⟨#[]⟩ : ByteArray), .int .i64 0, .int .i64 0]) (t := 29) ?hr ?_; (case hd => rfl); (case hg => rfl); (case hr => first | (go_simp; done) | (go_simp; rfl)); intro gb307 hg w39 hbox hb; have n_ := aa (bf BK305.out hb) <| aa (blk_below (g := gb306) (o := .cells #[.int .i64 0, .string (⟨#[]⟩ : ByteArray), .int .i64 0, .int .i64 4] 29 (0, 0)) (pq4 Pk) hb) <| aa (below_step By hb) <| aa (hbox) <| aa ((by rw [hg]; exact (below_size By) : w.heap.size ≤ gb307)) <| aa ((by rw [hg]; exact (below_size By) : w.heap.size ≤ gb307)) <| aa ((by rw [hg]; exact Nat.ne_of_lt (bm BK305.out) : gb305 ≠ gb307)) <| aa ((by rw [hg]; exact Nat.ne_of_gt (bm BK305.out) : gb307 ≠ gb305)) <| aa ((by rw [hg]; exact Nat.ne_of_lt (blk_lt (g := gb306) (o := .cells #[.int .i64 0, .string (⟨#[]⟩ : ByteArray), .int .i64 0, .int .i64 4] 29 (0, 0)) (pq4 Pk)) : gb306 ≠ gb307)) <| Aside0.mk ((by rw [hg]; exact Nat.ne_of_gt (blk_lt (g := gb306) (o := .cells #[.int .i64 0, .string (⟨#[]⟩ : ByteArray), .int .i64 0, .int .i64 4] 29 (0, 0)) (pq4 Pk)) : gb307 ≠ gb306)); clear BK305 BK306 HB; obtain ⟨BK305, BK306, HB, BK307, GW307, GE307, NB305_307, NB307_305, NB306_307, NB307_306⟩ := n_; clear hb hbox hg; have hnb40 := NB307_305.out; have hnc40 := NB305_307.out; have hnb41 := NB307_306.out; have hnc41 := NB306_307.out; have ⟨hcz42_0, hcz42_1, hcz42_2, hcz42_3⟩ := cq4 BK307.out; have ⟨hfz42_0, hfz42_1, hfz42_2, hfz42_3⟩ := fq4 BK307.out; have p16 : 0 ≤ (a1 : Int) := of_decide_eq_true Da; have q16 : a1 < (a0.size : Int) := of_decide_eq_true Da; have hx16 := bt_at a0 a1; replace p16 := eq_true p16; replace q16 := eq_true q16) | ((with_reducible refine gate_callee (f := 42) rfl ?_); refine goesL_ (some 26) rfl rfl Try.func42 (by kernel_rfl) rfl #[.int .i64 (wrap64 (bt a0 a1))] rfl Ag ?_; (with_reducible refine (spec_l09Tag.calls (wrap64 (bt a0 a1)) true _ A17.out).mono ?_); rintro e w' ⟨rfl, ⟨nd, rfl⟩⟩; refine ⟨_, rfl, ?_⟩; have p33 : 0 ≤ ((ji30) : Int) := of_decide_eq_true Da; have q33 : (ji30) < (a0.size : Int) := of_decide_eq_true Da; have hx33 := bt_at a0 (ji30); replace p33 := eq_true p33; replace q33 := eq_true q33)); (try simp only [Act.put, List.setIfInBounds_toArray, List.set_cons_zero, List.set_cons_succ]); go_cut [9, 10] (fun v9 v10 wc => ∃ (kq : Nat) (x9_33 : Int) (x10_33 : Int) (x306000_33 : Int) (x306001_33 : ByteArray) (x306002_33 : Int) (x306003_33 : Int), v9 = .int .i64 x9_33 ∧ v10 = .int .i64 x10_33 ∧ Aside0 (spec_l09Get.j2 kq a0 (a0.size : Int) (wrap64 (bt a0 a1)) x9_33 x10_33 0 (⟨#[]⟩ : ByteArray) 0 4 0 (⟨#[]⟩ : ByteArray) 0 3 = some (r1, r2, r3, r4)) ∧ Aside0 (kq ≤ k) ∧ Aside0 (wc.heap[gb305]? = some (.cells #[.int .i64 x306000_33, .string x306001_33, .int .i64 x306002_33, .int .i64 x306003_33] 29 (0, 0))) ∧ Aside0 (wc.heap[gb306]? = some (.cells #[.int .i64 0, .string (⟨#[]⟩ : ByteArray), .int .i64 0, .int .i64 4] 29 (0, 0))) ∧ Aside0 (wc.heap[gb307]? = some (.cells #[.int .i64 0, .string (⟨#[]⟩ : ByteArray), .int .i64 0, .int .i64 3] 29 (0, 0))) ∧ Aside0 (Below w.heap.size w wc))
                case first =>
                  have H := HC34.out; clear HC34; by_cases c43 : (wrap64 (bt a0 (ji30))) ≥ 128
                  · rw [if_pos c43] at H; have c43b0 : decide (128 ≤ (wrap64 (bt a0 (ji30)))) = true := decide_eq_true c43; clear c43; (first | rw [c43b0] | (simp only [i64_w, i32_w]; rw [c43b0]) | skip); have HC44 := Aside0.mk H; clear H; go_upto_region 15 with (fail); go_cut [50] (fun v50 wc => ∃ (kq : Nat) (x50_43 : Bool), v50 = .bool x50_43 ∧ Aside0 (spec_l09Get.j0 kq a0 (a0.size : Int) (wrap64 (bt a0 a1)) (wrap64 (a1 + 2)) (wrap64 ((wrap64 (bt a0 (ji30))) - 128)) x50_43 0 (⟨#[]⟩ : ByteArray) 0 4 0 (⟨#[]⟩ : ByteArray) 0 3 = some (r1, r2, r3, r4)) ∧ Aside0 (kq ≤ k) ∧ Aside0 (wc.heap[gb305]? = some (.cells #[.int .i64 0, .string (⟨#[]⟩ : ByteArray), .int .i64 0, .int .i64 0] 29 (0, 0))) ∧ Aside0 (wc.heap[gb306]? = some (.cells #[.int .i64 0, .string (⟨#[]⟩ : ByteArray), .int .i64 0, .int .i64 4] 29 (0, 0))) ∧ Aside0 (wc.heap[gb307]? = some (.cells #[.int .i64 0, .string (⟨#[]⟩ : ByteArray), .int .i64 0, .int .i64 3] 29 (0, 0))) ∧ Aside0 (Below w.heap.size w wc))
                    case first =>
                      have H := HC44.out; clear HC44; by_cases c45 : (wrap64 ((wrap64 (bt a0 (ji30))) - 128)) = 1
                      · rw [if_pos c45] at H; have c45b0 : ((wrap64 ((wrap64 (bt a0 (ji30))) - 128)) == 1) = true := beq_iff_eq.mpr c45; have c45b1 : ((wrap64 ((wrap64 (bt a0 (ji30))) - 128)) != 1) = false := bne_eq_false_iff_eq.mpr c45; clear c45; (first | rw [c45b0] | (simp only [i64_w, i32_w]; rw [c45b0]) | skip); have H' := Aside0.mk H; clear H; go_wp2; go_meet
                        case rel => exact ⟨_, (false), (by first | rfl | (simp; done) | (simp [*]; done)), H', ⟨by first | omega | exact Nat.le_refl _⟩, ⟨Fr⟩, ⟨Fr⟩, ⟨(pq4 Pk)⟩, ⟨By⟩⟩
                      · rw [if_neg c45] at H; have c45b0 : ((wrap64 ((wrap64 (bt a0 (ji30))) - 128)) == 1) = false := beq_eq_false_iff_ne.mpr c45; have c45b1 : ((wrap64 ((wrap64 (bt a0 (ji30))) - 128)) != 1) = true := bne_iff_ne.mpr c45; (first | rw [c45b0] | (simp only [i64_w, i32_w]; rw [c45b0]) | skip); have H' := Aside0.mk H; clear H; go_wp2; go_meet
                        case rel => exact ⟨_, (((wrap64 ((wrap64 (bt a0 (ji30))) - 128)) != 2)), (by first | rfl | (simp; done) | (simp only [← hji30] <;> (first | rfl | simp)) | (simp [*]; done)), H', ⟨by first | omega | exact Nat.le_refl _⟩, ⟨Fr⟩, ⟨Fr⟩, ⟨(pq4 Pk)⟩, ⟨By⟩⟩
                    case rest =>
                      clear HC44; try clear c1
                      try clear p1
                      try clear q1
                      try clear hx1
                      try clear c2
                      try clear p2
                      try clear c3
                      try clear c3b0
                      try clear p3
                      try clear q3
                      try clear hx3
                      try clear c4
                      try clear c5
                      try clear c6
                      try clear p6
                      try clear c9
                      try clear c10
                      try clear c14
                      try clear c14b0
                      try clear c15
                      try clear c15b0
                      try clear p16
                      try clear q16
                      try clear hx16
                      try clear c18
                      try clear c19
                      try clear c19b0
                      try clear c22
                      try clear c25
                      try clear c26
                      try clear c31
                      try clear c31b0
                      try clear c32
                      try clear c32b0
                      try clear p33
                      try clear q33
                      try clear hx33
                      try clear c37
                      try clear c40
                      try clear c41
                      try clear c42
                      try clear c43
                      try clear c43b0
                      try clear c45
                      try clear c45b0
                      try clear c45b1
                      try clear hcz11_0
                      try clear hcz11_1
                      try clear hcz11_2
                      try clear hcz11_3
                      try clear hcz12_0
                      try clear hcz12_1
                      try clear hcz12_2
                      try clear hcz12_3
                      try clear hcz13_0
                      try clear hcz13_1
                      try clear hcz13_2
                      try clear hcz13_3
                      try clear hcz23_0
                      try clear hcz23_1
                      try clear hcz23_2
                      try clear hcz23_3
                      try clear hcz27_0
                      try clear hcz27_1
                      try clear hcz27_2
                      try clear hcz27_3
                      try clear hcz28_0
                      try clear hcz28_1
                      try clear hcz28_2
                      try clear hcz28_3
                      try clear hcz29_0
                      try clear hcz29_1
                      try clear hcz29_2
                      try clear hcz29_3
                      try clear hcz38_0
                      try clear hcz38_1
                      try clear hcz38_2
                      try clear hcz38_3
                      try clear hcz42_0
                      try clear hcz42_1
                      try clear hcz42_2
                      try clear hcz42_3
                      try clear hcz7_0
                      try clear hcz7_1
                      try clear hcz7_2
                      try clear hcz7_3
                      try clear hfz11_0
                      try clear hfz11_1
                      try clear hfz11_2
                      try clear hfz11_3
                      try clear hfz12_0
                      try clear hfz12_1
                      try clear hfz12_2
                      try clear hfz12_3
                      try clear hfz13_0
                      try clear hfz13_1
                      try clear hfz13_2
                      try clear hfz13_3
                      try clear hfz23_0
                      try clear hfz23_1
                      try clear hfz23_2
                      try clear hfz23_3
                      try clear hfz27_0
                      try clear hfz27_1
                      try clear hfz27_2
                      try clear hfz27_3
                      try clear hfz28_0
                      try clear hfz28_1
                      try clear hfz28_2
                      try clear hfz28_3
                      try clear hfz29_0
                      try clear hfz29_1
                      try clear hfz29_2
                      try clear hfz29_3
                      try clear hfz38_0
                      try clear hfz38_1
                      try clear hfz38_2
                      try clear hfz38_3
                      try clear hfz42_0
                      try clear hfz42_1
                      try clear hfz42_2
                      try clear hfz42_3
                      try clear hfz7_0
                      try clear hfz7_1
                      try clear hfz7_2
                      try clear hfz7_3
                      try clear p16
                      try clear p33
                      try clear q16
                      try clear q33
                      obtain ⟨kq, x50_43, rfl, HA, HJ43, BK305, BK306, BK307, HB⟩ := hcut; cases kq with
                      | zero => exact absurd HA.out (by simp [spec_l09Get.j0])
                      | succ kj43 =>
                        have H := HA.out; clear HA; simp only [spec_l09Get.j0] at H; by_cases c46 : x50_43 = true
                        · subst c46; have H1 : (some (0, (⟨#[]⟩ : ByteArray), 0, 3)) = some (r1, r2, r3, r4) := by rw [if_pos rfl] at H; exact H
                          clear H; have H := H1; clear H1; simp only [Option.some.injEq, Prod.mk.injEq] at H; obtain ⟨rfl, rfl, rfl, rfl⟩ := H; have hnb47 := NB307_305.out; have hnc47 := NB305_307.out; have hnb48 := NB307_306.out; have hnc48 := NB306_307.out; have hcz49_0 : wc.cell? ⟨gb307, 0, none⟩ = some (.int .i64 0) := bc BK307.out 0; have hcz49_1 : wc.cell? ⟨gb307, 1, none⟩ = some (.string (⟨#[]⟩ : ByteArray)) := bc BK307.out 1; have hcz49_2 : wc.cell? ⟨gb307, 2, none⟩ = some (.int .i64 0) := bc BK307.out 2; have hcz49_3 : wc.cell? ⟨gb307, 3, none⟩ = some (.int .i64 3) := bc BK307.out 3; have hfz49_0 := blk_frozen BK307.out 0; have hfz49_1 := blk_frozen BK307.out 1; have hfz49_2 := blk_frozen BK307.out 2; have hfz49_3 := blk_frozen BK307.out 3; have hnb50 := NB305_306.out; have hnc50 := NB306_305.out; have hcz51_0 : wc.cell? ⟨gb305, 0, none⟩ = some (.int .i64 0) := bc BK305.out 0; have hcz51_1 : wc.cell? ⟨gb305, 1, none⟩ = some (.string (⟨#[]⟩ : ByteArray)) := bc BK305.out 1; have hcz51_2 : wc.cell? ⟨gb305, 2, none⟩ = some (.int .i64 0) := bc BK305.out 2; have hcz51_3 : wc.cell? ⟨gb305, 3, none⟩ = some (.int .i64 0) := bc BK305.out 3; have hfz51_0 := blk_frozen BK305.out 0; have hfz51_1 := blk_frozen BK305.out 1; have hfz51_2 := blk_frozen BK305.out 2; have hfz51_3 := blk_frozen BK305.out 3; go_wp2; refine bodyPost_ret (results_cell_row rfl _ _ gb305 29 #[.int .i64 0, .string (⟨#[]⟩ : ByteArray), .int .i64 0, .int .i64 3] (0, 0) _ rfl (pq4 Pk) Try.underlying29 rfl (by kernel_rfl)) rfl ?_; exact ⟨by first | rfl | (simp [errW_none, errW_some] <;> rfl) | (simp only [← hji30]; first | rfl | (simp [errW_none, errW_some] <;> rfl)) | (simp [*, errW_none, errW_some] <;> first | rfl | (rw [Bool.eq_iff_iff]; simp)), By⟩
                        · replace c46 := Bool.eq_false_iff.mpr c46; subst c46; have H1 : (if (wrap64 ((wrap64 (a1 + 2)) + (wrap64 ((wrap64 (bt a0 (ji30))) - 128)))) > (a0.size : Int) then (some (0, (⟨#[]⟩ : ByteArray), 0, 4)) else (spec_l09Get.l0 kj43 a0 (a0.size : Int) (wrap64 (bt a0 a1)) 0 (wrap64 (a1 + 2)) (wrap64 ((wrap64 (bt a0 (ji30))) - 128)) 0 0 (⟨#[]⟩ : ByteArray) 0 4 0 (⟨#[]⟩ : ByteArray) 0 3)) = some (r1, r2, r3, r4) := by rw [if_neg (show ¬ (false = true) by decide)] at H; exact H
                          clear H; have H := H1; clear H1; by_cases c52 : (wrap64 ((wrap64 (a1 + 2)) + (wrap64 ((wrap64 (bt a0 (ji30))) - 128)))) > (a0.size : Int)
                          · rw [if_pos c52] at H; have c52b0 : decide ((a0.size : Int) < (wrap64 ((wrap64 (a1 + 2)) + (wrap64 ((wrap64 (bt a0 (ji30))) - 128))))) = true := decide_eq_true c52; clear c52; simp only [Option.some.injEq, Prod.mk.injEq] at H; obtain ⟨rfl, rfl, rfl, rfl⟩ := H; have hnb53 := NB306_305.out; have hnc53 := NB305_306.out; have hnb54 := NB306_307.out; have hnc54 := NB307_306.out; have hcz55_0 : wc.cell? ⟨gb306, 0, none⟩ = some (.int .i64 0) := bc BK306.out 0; have hcz55_1 : wc.cell? ⟨gb306, 1, none⟩ = some (.string (⟨#[]⟩ : ByteArray)) := bc BK306.out 1; have hcz55_2 : wc.cell? ⟨gb306, 2, none⟩ = some (.int .i64 0) := bc BK306.out 2; have hcz55_3 : wc.cell? ⟨gb306, 3, none⟩ = some (.int .i64 4) := bc BK306.out 3; have hfz55_0 := blk_frozen BK306.out 0; have hfz55_1 := blk_frozen BK306.out 1; have hfz55_2 := blk_frozen BK306.out 2; have hfz55_3 := blk_frozen BK306.out 3; have hnb56 := NB305_307.out; have hnc56 := NB307_305.out; have hcz57_0 : wc.cell? ⟨gb305, 0, none⟩ = some (.int .i64 0) := bc BK305.out 0; have hcz57_1 : wc.cell? ⟨gb305, 1, none⟩ = some (.string (⟨#[]⟩ : ByteArray)) := bc BK305.out 1; have hcz57_2 : wc.cell? ⟨gb305, 2, none⟩ = some (.int .i64 0) := bc BK305.out 2; have hcz57_3 : wc.cell? ⟨gb305, 3, none⟩ = some (.int .i64 0) := bc BK305.out 3; have hfz57_0 := blk_frozen BK305.out 0; have hfz57_1 := blk_frozen BK305.out 1; have hfz57_2 := blk_frozen BK305.out 2; have hfz57_3 := blk_frozen BK305.out 3; go_wp2; refine bodyPost_ret (results_cell_row rfl _ _ gb305 29 #[.int .i64 0, .string (⟨#[]⟩ : ByteArray), .int .i64 0, .int .i64 4] (0, 0) _ rfl (pq4 Pk) Try.underlying29 rfl (by kernel_rfl)) rfl ?_; exact ⟨by first | rfl | (simp [errW_none, errW_some] <;> rfl) | (simp only [← hji30]; first | rfl | (simp [errW_none, errW_some] <;> rfl)) | (simp [*, errW_none, errW_some] <;> first | rfl | (rw [Bool.eq_iff_iff]; simp)), By⟩
                          · rw [if_neg c52] at H; have c52b0 : decide ((a0.size : Int) < (wrap64 ((wrap64 (a1 + 2)) + (wrap64 ((wrap64 (bt a0 (ji30))) - 128))))) = false := decide_eq_false c52; clear c52; have H' := Aside0.mk H; clear H; go_wp2; go_loopg [9, 12] kj43 (fun kq v9 v12 w' => ∃ (x9_2 : Int) (x12_2 : Int), v9 = .int .i64 x9_2 ∧ v12 = .int .i64 x12_2 ∧ Aside0 (spec_l09Get.l0 kq a0 (a0.size : Int) (wrap64 (bt a0 a1)) x9_2 (wrap64 (a1 + 2)) (wrap64 ((wrap64 (bt a0 (ji30))) - 128)) x12_2 0 (⟨#[]⟩ : ByteArray) 0 4 0 (⟨#[]⟩ : ByteArray) 0 3 = some (r1, r2, r3, r4)) ∧ Aside0 (kq ≤ kj43) ∧ Aside0 (w'.heap[gb305]? = some (.cells #[.int .i64 0, .string (⟨#[]⟩ : ByteArray), .int .i64 0, .int .i64 0] 29 (0, 0))) ∧ Aside0 (w'.heap[gb306]? = some (.cells #[.int .i64 0, .string (⟨#[]⟩ : ByteArray), .int .i64 0, .int .i64 4] 29 (0, 0))) ∧ Aside0 (w'.heap[gb307]? = some (.cells #[.int .i64 0, .string (⟨#[]⟩ : ByteArray), .int .i64 0, .int .i64 3] 29 (0, 0))) ∧ Aside0 (Below w.heap.size w w'))
                            case atStart => exact ⟨(0), (0), (by first | rfl | (simp; done) | (simp [*]; done)), (by first | rfl | (simp; done) | (simp [*]; done)), H', ⟨Nat.le_refl _⟩, ⟨by (with_reducible repeat (first | refine blk_drewN ?_ _ | refine blk_drew ?_ | refine blk_alloc ?_ _)); exact BK305.out⟩, ⟨by (with_reducible repeat (first | refine blk_drewN ?_ _ | refine blk_drew ?_ | refine blk_alloc ?_ _)); exact BK306.out⟩, ⟨by (with_reducible repeat (first | refine blk_drewN ?_ _ | refine blk_drew ?_ | refine blk_alloc ?_ _)); exact BK307.out⟩, ⟨By⟩⟩
                            case round =>
                              clear H'; try clear c1
                              try clear p1
                              try clear q1
                              try clear hx1
                              try clear c2
                              try clear p2
                              try clear c3
                              try clear c3b0
                              try clear p3
                              try clear q3
                              try clear hx3
                              try clear c4
                              try clear c5
                              try clear c6
                              try clear p6
                              try clear c9
                              try clear c10
                              try clear c14
                              try clear c14b0
                              try clear c15
                              try clear c15b0
                              try clear p16
                              try clear q16
                              try clear hx16
                              try clear c18
                              try clear c19
                              try clear c19b0
                              try clear c22
                              try clear c25
                              try clear c26
                              try clear c31
                              try clear c31b0
                              try clear c32
                              try clear c32b0
                              try clear p33
                              try clear q33
                              try clear hx33
                              try clear c37
                              try clear c40
                              try clear c41
                              try clear c42
                              try clear c43
                              try clear c43b0
                              try clear c45
                              try clear c45b0
                              try clear c45b1
                              try clear c46
                              try clear c47
                              try clear c48
                              try clear c50
                              try clear c52
                              try clear c52b0
                              try clear c53
                              try clear c54
                              try clear c56
                              try clear hcz11_0
                              try clear hcz11_1
                              try clear hcz11_2
                              try clear hcz11_3
                              try clear hcz12_0
                              try clear hcz12_1
                              try clear hcz12_2
                              try clear hcz12_3
                              try clear hcz13_0
                              try clear hcz13_1
                              try clear hcz13_2
                              try clear hcz13_3
                              try clear hcz23_0
                              try clear hcz23_1
                              try clear hcz23_2
                              try clear hcz23_3
                              try clear hcz27_0
                              try clear hcz27_1
                              try clear hcz27_2
                              try clear hcz27_3
                              try clear hcz28_0
                              try clear hcz28_1
                              try clear hcz28_2
                              try clear hcz28_3
                              try clear hcz29_0
                              try clear hcz29_1
                              try clear hcz29_2
                              try clear hcz29_3
                              try clear hcz38_0
                              try clear hcz38_1
                              try clear hcz38_2
                              try clear hcz38_3
                              try clear hcz42_0
                              try clear hcz42_1
                              try clear hcz42_2
                              try clear hcz42_3
                              try clear hcz49_0
                              try clear hcz49_1
                              try clear hcz49_2
                              try clear hcz49_3
                              try clear hcz51_0
                              try clear hcz51_1
                              try clear hcz51_2
                              try clear hcz51_3
                              try clear hcz55_0
                              try clear hcz55_1
                              try clear hcz55_2
                              try clear hcz55_3
                              try clear hcz57_0
                              try clear hcz57_1
                              try clear hcz57_2
                              try clear hcz57_3
                              try clear hcz7_0
                              try clear hcz7_1
                              try clear hcz7_2
                              try clear hcz7_3
                              try clear hfz11_0
                              try clear hfz11_1
                              try clear hfz11_2
                              try clear hfz11_3
                              try clear hfz12_0
                              try clear hfz12_1
                              try clear hfz12_2
                              try clear hfz12_3
                              try clear hfz13_0
                              try clear hfz13_1
                              try clear hfz13_2
                              try clear hfz13_3
                              try clear hfz23_0
                              try clear hfz23_1
                              try clear hfz23_2
                              try clear hfz23_3
                              try clear hfz27_0
                              try clear hfz27_1
                              try clear hfz27_2
                              try clear hfz27_3
                              try clear hfz28_0
                              try clear hfz28_1
                              try clear hfz28_2
                              try clear hfz28_3
                              try clear hfz29_0
                              try clear hfz29_1
                              try clear hfz29_2
                              try clear hfz29_3
                              try clear hfz38_0
                              try clear hfz38_1
                              try clear hfz38_2
                              try clear hfz38_3
                              try clear hfz42_0
                              try clear hfz42_1
                              try clear hfz42_2
                              try clear hfz42_3
                              try clear hfz49_0
                              try clear hfz49_1
                              try clear hfz49_2
                              try clear hfz49_3
                              try clear hfz51_0
                              try clear hfz51_1
                              try clear hfz51_2
                              try clear hfz51_3
                              try clear hfz55_0
                              try clear hfz55_1
                              try clear hfz55_2
                              try clear hfz55_3
                              try clear hfz57_0
                              try clear hfz57_1
                              try clear hfz57_2
                              try clear hfz57_3
                              try clear hfz7_0
                              try clear hfz7_1
                              try clear hfz7_2
                              try clear hfz7_3
                              try clear p1
                              try clear p16
                              try clear p2
                              try clear p3
                              try clear p33
                              try clear p6
                              try clear q1
                              try clear q16
                              try clear q3
                              try clear q33
                              obtain ⟨x9_2, x12_2, rfl, rfl, HA, HK2, BK305, BK306, BK307, HB⟩ := hrel; cases gk with
                              | zero => exact absurd HA.out (by simp [spec_l09Get.l0])
                              | succ k2 =>
                                have H := HA.out; clear HA; simp only [spec_l09Get.l0] at H; by_cases c58 : x12_2 < (wrap64 ((wrap64 (bt a0 (ji30))) - 128))
                                · rw [if_pos c58] at H; have c58b0 : decide (x12_2 < (wrap64 ((wrap64 (bt a0 (ji30))) - 128))) = true := decide_eq_true c58; clear c58; obtain ⟨ji59, hji59⟩ : ∃ j_ : Int, (wrap64 ((wrap64 (a1 + 2)) + x12_2)) = j_ := ⟨_, rfl⟩; replace H : (if 0 ≤ (ji59) then (if (ji59) < (a0.size : Int) then (spec_l09Get.l0 k2 a0 (a0.size : Int) (wrap64 (bt a0 a1)) (wrap64 ((wrap64 (256 * x9_2)) + (wrap64 (bt a0 (ji59))))) (wrap64 (a1 + 2)) (wrap64 ((wrap64 (bt a0 (ji30))) - 128)) (wrap64 (x12_2 + 1)) 0 (⟨#[]⟩ : ByteArray) 0 4 0 (⟨#[]⟩ : ByteArray) 0 3) else (none)) else (none)) = some (r1, r2, r3, r4) := by first | (rw [hji59] at H; exact H) | (simp only [hji59] at H ⊢; exact H)
                                  have hji59w : (IntKind.i64.wrap ((wrap64 (a1 + 2)) + x12_2)) = ji59 := (i64_w _).trans hji59; by_cases c60 : 0 ≤ (ji59)
                                  · rw [if_pos c60] at H; have c60b0 : decide (0 ≤ (ji59)) = true := decide_eq_true c60; clear c60; by_cases c61 : (ji59) < (a0.size : Int)
                                    · rw [if_pos c61] at H; have c61b0 : decide ((ji59) < (a0.size : Int)) = true := decide_eq_true c61; clear c61; have H' := Aside0.mk H; clear H; have p62 : 0 ≤ ((ji59) : Int) := of_decide_eq_true Da; have q62 : (ji59) < (a0.size : Int) := of_decide_eq_true Da; have hx62 := bt_at a0 (ji59); replace p62 := eq_true p62; replace q62 := eq_true q62; go_wp2; go_roundg k2
                                      case measure => have := HJ43.out; have := HK2.out; omega
                                      case rel => exact ⟨(wrap64 ((wrap64 (256 * x9_2)) + (wrap64 (bt a0 (ji59))))), (wrap64 (x12_2 + 1)), (by first | rfl | (simp; done) | (simp only [← hji59] <;> (first | rfl | simp)) | (simp [*]; done)), (by first | rfl | (simp; done) | (simp [*]; done)), H', ⟨by have := HJ43.out; have := HK2.out; omega⟩, ⟨by (with_reducible repeat (first | refine blk_drewN ?_ _ | refine blk_drew ?_ | refine blk_alloc ?_ _)); exact BK305.out⟩, ⟨by (with_reducible repeat (first | refine blk_drewN ?_ _ | refine blk_drew ?_ | refine blk_alloc ?_ _)); exact BK306.out⟩, ⟨by (with_reducible repeat (first | refine blk_drewN ?_ _ | refine blk_drew ?_ | refine blk_alloc ?_ _)); exact BK307.out⟩, ⟨By⟩⟩
                                    · rw [if_neg c61] at H; exact absurd H (by simp)
                                  · rw [if_neg c60] at H; exact absurd H (by simp)
                                · rw [if_neg c58] at H; have c58b0 : decide (x12_2 < (wrap64 ((wrap64 (bt a0 (ji30))) - 128))) = false := decide_eq_false c58; clear c58; by_cases c63 : (wrap64 ((wrap64 (bt a0 (ji30))) - 128)) = 1
                                  · rw [if_pos c63] at H; have c63b0 : ((wrap64 ((wrap64 (bt a0 (ji30))) - 128)) == 1) = true := beq_iff_eq.mpr c63; have c63b1 : ((wrap64 ((wrap64 (bt a0 (ji30))) - 128)) != 1) = false := bne_eq_false_iff_eq.mpr c63; clear c63; by_cases c64 : x9_2 < 128
                                    · rw [if_pos c64] at H; have c64b0 : decide (x9_2 < 128) = true := decide_eq_true c64; clear c64; simp only [Option.some.injEq, Prod.mk.injEq] at H; obtain ⟨rfl, rfl, rfl, rfl⟩ := H; have hnb65 := NB307_305.out; have hnc65 := NB305_307.out; have hnb66 := NB307_306.out; have hnc66 := NB306_307.out; have hcz67_0 : wr.cell? ⟨gb307, 0, none⟩ = some (.int .i64 0) := bc BK307.out 0; have hcz67_1 : wr.cell? ⟨gb307, 1, none⟩ = some (.string (⟨#[]⟩ : ByteArray)) := bc BK307.out 1; have hcz67_2 : wr.cell? ⟨gb307, 2, none⟩ = some (.int .i64 0) := bc BK307.out 2; have hcz67_3 : wr.cell? ⟨gb307, 3, none⟩ = some (.int .i64 3) := bc BK307.out 3; have hfz67_0 := blk_frozen BK307.out 0; have hfz67_1 := blk_frozen BK307.out 1; have hfz67_2 := blk_frozen BK307.out 2; have hfz67_3 := blk_frozen BK307.out 3; have hnb68 := NB305_306.out; have hnc68 := NB306_305.out; have hcz69_0 : wr.cell? ⟨gb305, 0, none⟩ = some (.int .i64 0) := bc BK305.out 0; have hcz69_1 : wr.cell? ⟨gb305, 1, none⟩ = some (.string (⟨#[]⟩ : ByteArray)) := bc BK305.out 1; have hcz69_2 : wr.cell? ⟨gb305, 2, none⟩ = some (.int .i64 0) := bc BK305.out 2; have hcz69_3 : wr.cell? ⟨gb305, 3, none⟩ = some (.int .i64 0) := bc BK305.out 3; have hfz69_0 := blk_frozen BK305.out 0; have hfz69_1 := blk_frozen BK305.out 1; have hfz69_2 := blk_frozen BK305.out 2; have hfz69_3 := blk_frozen BK305.out 3; go_wp2; refine bodyPost_ret (results_cell_row rfl _ _ gb305 29 #[.int .i64 0, .string (⟨#[]⟩ : ByteArray), .int .i64 0, .int .i64 3] (0, 0) _ rfl (pq4 Pk) Try.underlying29 rfl (by kernel_rfl)) rfl ?_; exact ⟨by first | rfl | (simp [errW_none, errW_some] <;> rfl) | (simp only [← hji30]; first | rfl | (simp [errW_none, errW_some] <;> rfl)) | (simp [*, errW_none, errW_some] <;> first | rfl | (rw [Bool.eq_iff_iff]; simp)), By⟩
                                    · rw [if_neg c64] at H; have c64b0 : decide (x9_2 < 128) = false := decide_eq_false c64; clear c64; by_cases c70 : (wrap64 ((wrap64 (bt a0 (ji30))) - 128)) = 2
                                      · rw [if_pos c70] at H; have c70b0 : ((wrap64 ((wrap64 (bt a0 (ji30))) - 128)) == 2) = true := beq_iff_eq.mpr c70; have c70b1 : ((wrap64 ((wrap64 (bt a0 (ji30))) - 128)) != 2) = false := bne_eq_false_iff_eq.mpr c70; clear c70; by_cases c71 : x9_2 < 256
                                        · rw [if_pos c71] at H; have c71b0 : decide (x9_2 < 256) = true := decide_eq_true c71; clear c71; simp only [Option.some.injEq, Prod.mk.injEq] at H; obtain ⟨rfl, rfl, rfl, rfl⟩ := H; have hnb72 := NB307_305.out; have hnc72 := NB305_307.out; have hnb73 := NB307_306.out; have hnc73 := NB306_307.out; have hcz74_0 : wr.cell? ⟨gb307, 0, none⟩ = some (.int .i64 0) := bc BK307.out 0; have hcz74_1 : wr.cell? ⟨gb307, 1, none⟩ = some (.string (⟨#[]⟩ : ByteArray)) := bc BK307.out 1; have hcz74_2 : wr.cell? ⟨gb307, 2, none⟩ = some (.int .i64 0) := bc BK307.out 2; have hcz74_3 : wr.cell? ⟨gb307, 3, none⟩ = some (.int .i64 3) := bc BK307.out 3; have hfz74_0 := blk_frozen BK307.out 0; have hfz74_1 := blk_frozen BK307.out 1; have hfz74_2 := blk_frozen BK307.out 2; have hfz74_3 := blk_frozen BK307.out 3; have hnb75 := NB305_306.out; have hnc75 := NB306_305.out; have hcz76_0 : wr.cell? ⟨gb305, 0, none⟩ = some (.int .i64 0) := bc BK305.out 0; have hcz76_1 : wr.cell? ⟨gb305, 1, none⟩ = some (.string (⟨#[]⟩ : ByteArray)) := bc BK305.out 1; have hcz76_2 : wr.cell? ⟨gb305, 2, none⟩ = some (.int .i64 0) := bc BK305.out 2; have hcz76_3 : wr.cell? ⟨gb305, 3, none⟩ = some (.int .i64 0) := bc BK305.out 3; have hfz76_0 := blk_frozen BK305.out 0; have hfz76_1 := blk_frozen BK305.out 1; have hfz76_2 := blk_frozen BK305.out 2; have hfz76_3 := blk_frozen BK305.out 3; go_wp2; refine bodyPost_ret (results_cell_row rfl _ _ gb305 29 #[.int .i64 0, .string (⟨#[]⟩ : ByteArray), .int .i64 0, .int .i64 3] (0, 0) _ rfl (pq4 Pk) Try.underlying29 rfl (by kernel_rfl)) rfl ?_; exact ⟨by first | rfl | (simp [errW_none, errW_some] <;> rfl) | (simp only [← hji30]; first | rfl | (simp [errW_none, errW_some] <;> rfl)) | (simp [*, errW_none, errW_some] <;> first | rfl | (rw [Bool.eq_iff_iff]; simp)), By⟩
                                        · rw [if_neg c71] at H; have c71b0 : decide (x9_2 < 256) = false := decide_eq_false c71; clear c71; have H' := Aside0.mk H; clear H; go_wp2; go_meet
                                          case rel => exact ⟨_, (x9_2), (wrap64 ((wrap64 (a1 + 2)) + (wrap64 ((wrap64 (bt a0 (ji30))) - 128)))), (0), ((⟨#[]⟩ : ByteArray)), (0), (0), (by first | rfl | (simp; done) | (simp [*]; done)), (by first | rfl | (simp; done) | (simp only [← hji30] <;> (first | rfl | simp)) | (simp [*]; done)), H', ⟨by have := HJ43.out; have := HK2.out; first | omega | exact Nat.le_refl _⟩, ⟨by (with_reducible repeat (first | refine blk_drewN ?_ _ | refine blk_drew ?_ | refine blk_alloc ?_ _)); exact BK305.out⟩, ⟨by (with_reducible repeat (first | refine blk_drewN ?_ _ | refine blk_drew ?_ | refine blk_alloc ?_ _)); exact BK306.out⟩, ⟨by (with_reducible repeat (first | refine blk_drewN ?_ _ | refine blk_drew ?_ | refine blk_alloc ?_ _)); exact BK307.out⟩, ⟨By⟩⟩
                                      · rw [if_neg c70] at H; have c70b0 : ((wrap64 ((wrap64 (bt a0 (ji30))) - 128)) == 2) = false := beq_eq_false_iff_ne.mpr c70; have c70b1 : ((wrap64 ((wrap64 (bt a0 (ji30))) - 128)) != 2) = true := bne_iff_ne.mpr c70; have H' := Aside0.mk H; clear H; go_wp2; go_meet
                                        case rel => exact ⟨_, (x9_2), (wrap64 ((wrap64 (a1 + 2)) + (wrap64 ((wrap64 (bt a0 (ji30))) - 128)))), (0), ((⟨#[]⟩ : ByteArray)), (0), (0), (by first | rfl | (simp; done) | (simp [*]; done)), (by first | rfl | (simp; done) | (simp only [← hji30] <;> (first | rfl | simp)) | (simp [*]; done)), H', ⟨by have := HJ43.out; have := HK2.out; first | omega | exact Nat.le_refl _⟩, ⟨by (with_reducible repeat (first | refine blk_drewN ?_ _ | refine blk_drew ?_ | refine blk_alloc ?_ _)); exact BK305.out⟩, ⟨by (with_reducible repeat (first | refine blk_drewN ?_ _ | refine blk_drew ?_ | refine blk_alloc ?_ _)); exact BK306.out⟩, ⟨by (with_reducible repeat (first | refine blk_drewN ?_ _ | refine blk_drew ?_ | refine blk_alloc ?_ _)); exact BK307.out⟩, ⟨By⟩⟩
                                  · rw [if_neg c63] at H; have c63b0 : ((wrap64 ((wrap64 (bt a0 (ji30))) - 128)) == 1) = false := beq_eq_false_iff_ne.mpr c63; have c63b1 : ((wrap64 ((wrap64 (bt a0 (ji30))) - 128)) != 1) = true := bne_iff_ne.mpr c63; by_cases c77 : (wrap64 ((wrap64 (bt a0 (ji30))) - 128)) = 2
                                    · rw [if_pos c77] at H; have c77b0 : ((wrap64 ((wrap64 (bt a0 (ji30))) - 128)) == 2) = true := beq_iff_eq.mpr c77; have c77b1 : ((wrap64 ((wrap64 (bt a0 (ji30))) - 128)) != 2) = false := bne_eq_false_iff_eq.mpr c77; clear c77; by_cases c78 : x9_2 < 256
                                      · rw [if_pos c78] at H; have c78b0 : decide (x9_2 < 256) = true := decide_eq_true c78; clear c78; simp only [Option.some.injEq, Prod.mk.injEq] at H; obtain ⟨rfl, rfl, rfl, rfl⟩ := H; have hnb79 := NB307_305.out; have hnc79 := NB305_307.out; have hnb80 := NB307_306.out; have hnc80 := NB306_307.out; have hcz81_0 : wr.cell? ⟨gb307, 0, none⟩ = some (.int .i64 0) := bc BK307.out 0; have hcz81_1 : wr.cell? ⟨gb307, 1, none⟩ = some (.string (⟨#[]⟩ : ByteArray)) := bc BK307.out 1; have hcz81_2 : wr.cell? ⟨gb307, 2, none⟩ = some (.int .i64 0) := bc BK307.out 2; have hcz81_3 : wr.cell? ⟨gb307, 3, none⟩ = some (.int .i64 3) := bc BK307.out 3; have hfz81_0 := blk_frozen BK307.out 0; have hfz81_1 := blk_frozen BK307.out 1; have hfz81_2 := blk_frozen BK307.out 2; have hfz81_3 := blk_frozen BK307.out 3; have hnb82 := NB305_306.out; have hnc82 := NB306_305.out; have hcz83_0 : wr.cell? ⟨gb305, 0, none⟩ = some (.int .i64 0) := bc BK305.out 0; have hcz83_1 : wr.cell? ⟨gb305, 1, none⟩ = some (.string (⟨#[]⟩ : ByteArray)) := bc BK305.out 1; have hcz83_2 : wr.cell? ⟨gb305, 2, none⟩ = some (.int .i64 0) := bc BK305.out 2; have hcz83_3 : wr.cell? ⟨gb305, 3, none⟩ = some (.int .i64 0) := bc BK305.out 3; have hfz83_0 := blk_frozen BK305.out 0; have hfz83_1 := blk_frozen BK305.out 1; have hfz83_2 := blk_frozen BK305.out 2; have hfz83_3 := blk_frozen BK305.out 3; go_wp2; refine bodyPost_ret (results_cell_row rfl _ _ gb305 29 #[.int .i64 0, .string (⟨#[]⟩ : ByteArray), .int .i64 0, .int .i64 3] (0, 0) _ rfl (pq4 Pk) Try.underlying29 rfl (by kernel_rfl)) rfl ?_; exact ⟨by first | rfl | (simp [errW_none, errW_some] <;> rfl) | (simp only [← hji30]; first | rfl | (simp [errW_none, errW_some] <;> rfl)) | (simp [*, errW_none, errW_some] <;> first | rfl | (rw [Bool.eq_iff_iff]; simp)), By⟩
                                      · rw [if_neg c78] at H; have c78b0 : decide (x9_2 < 256) = false := decide_eq_false c78; clear c78; have H' := Aside0.mk H; clear H; go_wp2; go_meet
                                        case rel => exact ⟨_, (x9_2), (wrap64 ((wrap64 (a1 + 2)) + (wrap64 ((wrap64 (bt a0 (ji30))) - 128)))), (0), ((⟨#[]⟩ : ByteArray)), (0), (0), (by first | rfl | (simp; done) | (simp [*]; done)), (by first | rfl | (simp; done) | (simp only [← hji30] <;> (first | rfl | simp)) | (simp [*]; done)), H', ⟨by have := HJ43.out; have := HK2.out; first | omega | exact Nat.le_refl _⟩, ⟨by (with_reducible repeat (first | refine blk_drewN ?_ _ | refine blk_drew ?_ | refine blk_alloc ?_ _)); exact BK305.out⟩, ⟨by (with_reducible repeat (first | refine blk_drewN ?_ _ | refine blk_drew ?_ | refine blk_alloc ?_ _)); exact BK306.out⟩, ⟨by (with_reducible repeat (first | refine blk_drewN ?_ _ | refine blk_drew ?_ | refine blk_alloc ?_ _)); exact BK307.out⟩, ⟨By⟩⟩
                                    · rw [if_neg c77] at H; have c77b0 : ((wrap64 ((wrap64 (bt a0 (ji30))) - 128)) == 2) = false := beq_eq_false_iff_ne.mpr c77; have c77b1 : ((wrap64 ((wrap64 (bt a0 (ji30))) - 128)) != 2) = true := bne_iff_ne.mpr c77; have H' := Aside0.mk H; clear H; go_wp2; go_meet
                                      case rel => exact ⟨_, (x9_2), (wrap64 ((wrap64 (a1 + 2)) + (wrap64 ((wrap64 (bt a0 (ji30))) - 128)))), (0), ((⟨#[]⟩ : ByteArray)), (0), (0), (by first | rfl | (simp; done) | (simp [*]; done)), (by first | rfl | (simp; done) | (simp only [← hji30] <;> (first | rfl | simp)) | (simp [*]; done)), H', ⟨by have := HJ43.out; have := HK2.out; first | omega | exact Nat.le_refl _⟩, ⟨by (with_reducible repeat (first | refine blk_drewN ?_ _ | refine blk_drew ?_ | refine blk_alloc ?_ _)); exact BK305.out⟩, ⟨by (with_reducible repeat (first | refine blk_drewN ?_ _ | refine blk_drew ?_ | refine blk_alloc ?_ _)); exact BK306.out⟩, ⟨by (with_reducible repeat (first | refine blk_drewN ?_ _ | refine blk_drew ?_ | refine blk_alloc ?_ _)); exact BK307.out⟩, ⟨By⟩⟩
                  · rw [if_neg c43] at H; have c43b0 : decide (128 ≤ (wrap64 (bt a0 (ji30)))) = false := decide_eq_false c43; clear c43; (first | rw [c43b0] | (simp only [i64_w, i32_w]; rw [c43b0]) | skip); have H' := Aside0.mk H; clear H; go_wp2; go_meet
                    case rel => exact ⟨_, (wrap64 (bt a0 (ji30))), (wrap64 (a1 + 2)), (0), ((⟨#[]⟩ : ByteArray)), (0), (0), (by first | rfl | (simp; done) | (simp only [← hji30] <;> (first | rfl | simp)) | (simp [*]; done)), (by first | rfl | (simp; done) | (simp [*]; done)), H', ⟨by first | omega | exact Nat.le_refl _⟩, ⟨Fr⟩, ⟨Fr⟩, ⟨(pq4 Pk)⟩, ⟨By⟩⟩
                case rest =>
                  clear HC34; try clear c1
                  try clear p1
                  try clear q1
                  try clear hx1
                  try clear c2
                  try clear p2
                  try clear c3
                  try clear c3b0
                  try clear p3
                  try clear q3
                  try clear hx3
                  try clear c4
                  try clear c5
                  try clear c6
                  try clear p6
                  try clear q6
                  try clear hx6
                  try clear c7
                  try clear c8
                  try clear c9
                  try clear c10
                  try clear c14
                  try clear c14b0
                  try clear c15
                  try clear c15b0
                  try clear p16
                  try clear q16
                  try clear hx16
                  try clear c18
                  try clear c19
                  try clear c19b0
                  try clear c22
                  try clear c25
                  try clear c26
                  try clear c31
                  try clear c31b0
                  try clear c32
                  try clear c32b0
                  try clear p33
                  try clear q33
                  try clear hx33
                  try clear c37
                  try clear c40
                  try clear c41
                  try clear c42
                  try clear c43
                  try clear c43b0
                  try clear c45
                  try clear c45b0
                  try clear c45b1
                  try clear c46
                  try clear c47
                  try clear c48
                  try clear c50
                  try clear c52
                  try clear c52b0
                  try clear c53
                  try clear c54
                  try clear c56
                  try clear c58
                  try clear c58b0
                  try clear c60
                  try clear c60b0
                  try clear c61
                  try clear c61b0
                  try clear p62
                  try clear q62
                  try clear hx62
                  try clear c63
                  try clear c63b0
                  try clear c63b1
                  try clear c64
                  try clear c64b0
                  try clear p64
                  try clear c65
                  try clear c66
                  try clear c68
                  try clear c70
                  try clear c70b0
                  try clear c70b1
                  try clear c71
                  try clear c71b0
                  try clear c72
                  try clear c73
                  try clear c75
                  try clear c77
                  try clear c77b0
                  try clear c77b1
                  try clear c78
                  try clear c78b0
                  try clear c79
                  try clear c80
                  try clear c82
                  try clear hcz11_0
                  try clear hcz11_1
                  try clear hcz11_2
                  try clear hcz11_3
                  try clear hcz12_0
                  try clear hcz12_1
                  try clear hcz12_2
                  try clear hcz12_3
                  try clear hcz13_0
                  try clear hcz13_1
                  try clear hcz13_2
                  try clear hcz13_3
                  try clear hcz23_0
                  try clear hcz23_1
                  try clear hcz23_2
                  try clear hcz23_3
                  try clear hcz27_0
                  try clear hcz27_1
                  try clear hcz27_2
                  try clear hcz27_3
                  try clear hcz28_0
                  try clear hcz28_1
                  try clear hcz28_2
                  try clear hcz28_3
                  try clear hcz29_0
                  try clear hcz29_1
                  try clear hcz29_2
                  try clear hcz29_3
                  try clear hcz38_0
                  try clear hcz38_1
                  try clear hcz38_2
                  try clear hcz38_3
                  try clear hcz42_0
                  try clear hcz42_1
                  try clear hcz42_2
                  try clear hcz42_3
                  try clear hcz49_0
                  try clear hcz49_1
                  try clear hcz49_2
                  try clear hcz49_3
                  try clear hcz51_0
                  try clear hcz51_1
                  try clear hcz51_2
                  try clear hcz51_3
                  try clear hcz55_0
                  try clear hcz55_1
                  try clear hcz55_2
                  try clear hcz55_3
                  try clear hcz57_0
                  try clear hcz57_1
                  try clear hcz57_2
                  try clear hcz57_3
                  try clear hcz67_0
                  try clear hcz67_1
                  try clear hcz67_2
                  try clear hcz67_3
                  try clear hcz69_0
                  try clear hcz69_1
                  try clear hcz69_2
                  try clear hcz69_3
                  try clear hcz74_0
                  try clear hcz74_1
                  try clear hcz74_2
                  try clear hcz74_3
                  try clear hcz76_0
                  try clear hcz76_1
                  try clear hcz76_2
                  try clear hcz76_3
                  try clear hcz7_0
                  try clear hcz7_1
                  try clear hcz7_2
                  try clear hcz7_3
                  try clear hcz81_0
                  try clear hcz81_1
                  try clear hcz81_2
                  try clear hcz81_3
                  try clear hcz83_0
                  try clear hcz83_1
                  try clear hcz83_2
                  try clear hcz83_3
                  try clear hfz11_0
                  try clear hfz11_1
                  try clear hfz11_2
                  try clear hfz11_3
                  try clear hfz12_0
                  try clear hfz12_1
                  try clear hfz12_2
                  try clear hfz12_3
                  try clear hfz13_0
                  try clear hfz13_1
                  try clear hfz13_2
                  try clear hfz13_3
                  try clear hfz23_0
                  try clear hfz23_1
                  try clear hfz23_2
                  try clear hfz23_3
                  try clear hfz27_0
                  try clear hfz27_1
                  try clear hfz27_2
                  try clear hfz27_3
                  try clear hfz28_0
                  try clear hfz28_1
                  try clear hfz28_2
                  try clear hfz28_3
                  try clear hfz29_0
                  try clear hfz29_1
                  try clear hfz29_2
                  try clear hfz29_3
                  try clear hfz38_0
                  try clear hfz38_1
                  try clear hfz38_2
                  try clear hfz38_3
                  try clear hfz42_0
                  try clear hfz42_1
                  try clear hfz42_2
                  try clear hfz42_3
                  try clear hfz49_0
                  try clear hfz49_1
                  try clear hfz49_2
                  try clear hfz49_3
                  try clear hfz51_0
                  try clear hfz51_1
                  try clear hfz51_2
                  try clear hfz51_3
                  try clear hfz55_0
                  try clear hfz55_1
                  try clear hfz55_2
                  try clear hfz55_3
                  try clear hfz57_0
                  try clear hfz57_1
                  try clear hfz57_2
                  try clear hfz57_3
                  try clear hfz67_0
                  try clear hfz67_1
                  try clear hfz67_2
                  try clear hfz67_3
                  try clear hfz69_0
                  try clear hfz69_1
                  try clear hfz69_2
                  try clear hfz69_3
                  try clear hfz74_0
                  try clear hfz74_1
                  try clear hfz74_2
                  try clear hfz74_3
                  try clear hfz76_0
                  try clear hfz76_1
                  try clear hfz76_2
                  try clear hfz76_3
                  try clear hfz7_0
                  try clear hfz7_1
                  try clear hfz7_2
                  try clear hfz7_3
                  try clear hfz81_0
                  try clear hfz81_1
                  try clear hfz81_2
                  try clear hfz81_3
                  try clear hfz83_0
                  try clear hfz83_1
                  try clear hfz83_2
                  try clear hfz83_3
                  try clear p1
                  try clear p16
                  try clear p2
                  try clear p3
                  try clear p33
                  try clear p6
                  try clear p62
                  try clear q1
                  try clear q16
                  try clear q3
                  try clear q33
                  try clear q62
                  obtain ⟨kq, x9_33, x10_33, x306000_33, x306001_33, x306002_33, x306003_33, rfl, rfl, HA, HJ33, BK305, BK306, BK307, HB⟩ := hcut; cases kq with
                  | zero => exact absurd HA.out (by simp [spec_l09Get.j2])
                  | succ kj33 =>
                    have H := HA.out; clear HA; simp only [spec_l09Get.j2] at H; by_cases c84 : x9_33 > 4000
                    · rw [if_pos c84] at H; have c84b0 : decide (4000 < x9_33) = true := decide_eq_true c84; clear c84; simp only [Option.some.injEq, Prod.mk.injEq] at H; obtain ⟨rfl, rfl, rfl, rfl⟩ := H; have hnb85 := NB307_305.out; have hnc85 := NB305_307.out; have hnb86 := NB307_306.out; have hnc86 := NB306_307.out; have hcz87_0 : wc.cell? ⟨gb307, 0, none⟩ = some (.int .i64 0) := bc BK307.out 0; have hcz87_1 : wc.cell? ⟨gb307, 1, none⟩ = some (.string (⟨#[]⟩ : ByteArray)) := bc BK307.out 1; have hcz87_2 : wc.cell? ⟨gb307, 2, none⟩ = some (.int .i64 0) := bc BK307.out 2; have hcz87_3 : wc.cell? ⟨gb307, 3, none⟩ = some (.int .i64 3) := bc BK307.out 3; have hfz87_0 := blk_frozen BK307.out 0; have hfz87_1 := blk_frozen BK307.out 1; have hfz87_2 := blk_frozen BK307.out 2; have hfz87_3 := blk_frozen BK307.out 3; have hnb88 := NB305_306.out; have hnc88 := NB306_305.out; have hcz89_0 : wc.cell? ⟨gb305, 0, none⟩ = some (.int .i64 x306000_33) := bc BK305.out 0; have hcz89_1 : wc.cell? ⟨gb305, 1, none⟩ = some (.string x306001_33) := bc BK305.out 1; have hcz89_2 : wc.cell? ⟨gb305, 2, none⟩ = some (.int .i64 x306002_33) := bc BK305.out 2; have hcz89_3 : wc.cell? ⟨gb305, 3, none⟩ = some (.int .i64 x306003_33) := bc BK305.out 3; have hfz89_0 := blk_frozen BK305.out 0; have hfz89_1 := blk_frozen BK305.out 1; have hfz89_2 := blk_frozen BK305.out 2; have hfz89_3 := blk_frozen BK305.out 3; go_wp2; refine bodyPost_ret (results_cell_row rfl _ _ gb305 29 #[.int .i64 0, .string (⟨#[]⟩ : ByteArray), .int .i64 0, .int .i64 3] (0, 0) _ rfl (pq4 Pk) Try.underlying29 rfl (by kernel_rfl)) rfl ?_; exact ⟨by first | rfl | (simp [errW_none, errW_some] <;> rfl) | (simp only [← hji30]; first | rfl | (simp [errW_none, errW_some] <;> rfl)) | (simp [*, errW_none, errW_some] <;> first | rfl | (rw [Bool.eq_iff_iff]; simp)), By⟩
                    · rw [if_neg c84] at H; have c84b0 : decide (4000 < x9_33) = false := decide_eq_false c84; clear c84; by_cases c90 : (wrap64 (x10_33 + x9_33)) > (a0.size : Int)
                      · rw [if_pos c90] at H; have c90b0 : decide ((a0.size : Int) < (wrap64 (x10_33 + x9_33))) = true := decide_eq_true c90; clear c90; simp only [Option.some.injEq, Prod.mk.injEq] at H; obtain ⟨rfl, rfl, rfl, rfl⟩ := H; have hnb91 := NB306_305.out; have hnc91 := NB305_306.out; have hnb92 := NB306_307.out; have hnc92 := NB307_306.out; have hcz93_0 : wc.cell? ⟨gb306, 0, none⟩ = some (.int .i64 0) := bc BK306.out 0; have hcz93_1 : wc.cell? ⟨gb306, 1, none⟩ = some (.string (⟨#[]⟩ : ByteArray)) := bc BK306.out 1; have hcz93_2 : wc.cell? ⟨gb306, 2, none⟩ = some (.int .i64 0) := bc BK306.out 2; have hcz93_3 : wc.cell? ⟨gb306, 3, none⟩ = some (.int .i64 4) := bc BK306.out 3; have hfz93_0 := blk_frozen BK306.out 0; have hfz93_1 := blk_frozen BK306.out 1; have hfz93_2 := blk_frozen BK306.out 2; have hfz93_3 := blk_frozen BK306.out 3; have hnb94 := NB305_307.out; have hnc94 := NB307_305.out; have hcz95_0 : wc.cell? ⟨gb305, 0, none⟩ = some (.int .i64 x306000_33) := bc BK305.out 0; have hcz95_1 : wc.cell? ⟨gb305, 1, none⟩ = some (.string x306001_33) := bc BK305.out 1; have hcz95_2 : wc.cell? ⟨gb305, 2, none⟩ = some (.int .i64 x306002_33) := bc BK305.out 2; have hcz95_3 : wc.cell? ⟨gb305, 3, none⟩ = some (.int .i64 x306003_33) := bc BK305.out 3; have hfz95_0 := blk_frozen BK305.out 0; have hfz95_1 := blk_frozen BK305.out 1; have hfz95_2 := blk_frozen BK305.out 2; have hfz95_3 := blk_frozen BK305.out 3; go_wp2; refine bodyPost_ret (results_cell_row rfl _ _ gb305 29 #[.int .i64 0, .string (⟨#[]⟩ : ByteArray), .int .i64 0, .int .i64 4] (0, 0) _ rfl (pq4 Pk) Try.underlying29 rfl (by kernel_rfl)) rfl ?_; exact ⟨by first | rfl | (simp [errW_none, errW_some] <;> rfl) | (simp only [← hji30]; first | rfl | (simp [errW_none, errW_some] <;> rfl)) | (simp [*, errW_none, errW_some] <;> first | rfl | (rw [Bool.eq_iff_iff]; simp)), By⟩
                      · rw [if_neg c90] at H; have c90b0 : decide ((a0.size : Int) < (wrap64 (x10_33 + x9_33))) = false := decide_eq_false c90; clear c90; by_cases c96 : 0 ≤ x10_33
                        · rw [if_pos c96] at H; have c96b0 := eq_true c96; have c96b1 : decide (0 ≤ x10_33) = true := decide_eq_true c96; clear c96; by_cases c97 : x10_33 ≤ (wrap64 (x10_33 + x9_33))
                          · rw [if_pos c97] at H; have c97b0 := eq_true c97; have c97b1 : decide (x10_33 ≤ (wrap64 (x10_33 + x9_33))) = true := decide_eq_true c97; by_cases c98 : (wrap64 (x10_33 + x9_33)) ≤ (a0.size : Int)
                            · rw [if_pos c98] at H; have c98b0 := eq_true c98; have c98b1 : decide ((wrap64 (x10_33 + x9_33)) ≤ (a0.size : Int)) = true := decide_eq_true c98; simp only [Option.some.injEq, Prod.mk.injEq] at H; obtain ⟨rfl, rfl, rfl, rfl⟩ := H; have hnb99 := NB305_306.out; have hnc99 := NB306_305.out; have hnb100 := NB305_307.out; have hnc100 := NB307_305.out; have hcz101_0 : wc.cell? ⟨gb305, 0, none⟩ = some (.int .i64 x306000_33) := bc BK305.out 0; have hcz101_1 : wc.cell? ⟨gb305, 1, none⟩ = some (.string x306001_33) := bc BK305.out 1; have hcz101_2 : wc.cell? ⟨gb305, 2, none⟩ = some (.int .i64 x306002_33) := bc BK305.out 2; have hcz101_3 : wc.cell? ⟨gb305, 3, none⟩ = some (.int .i64 x306003_33) := bc BK305.out 3; have hfz101_0 := blk_frozen BK305.out 0; have hfz101_1 := blk_frozen BK305.out 1; have hfz101_2 := blk_frozen BK305.out 2; have hfz101_3 := blk_frozen BK305.out 3; go_wp2; refine bodyPost_ret (results_cell_row rfl _ _ gb305 29 #[.int .i64 (wrap64 (bt a0 a1)), .string (a0.extract (x10_33 : Int).toNat ((wrap64 (x10_33 + x9_33)) : Int).toNat), .int .i64 (wrap64 (x10_33 + x9_33)), .int .i64 0] (0, 0) _ rfl (pq4 Pk) Try.underlying29 rfl (by kernel_rfl)) rfl ?_; exact ⟨by first | rfl | (simp [errW_none, errW_some] <;> rfl) | (simp only [← hji30]; first | rfl | (simp [errW_none, errW_some] <;> rfl)) | (simp [*, errW_none, errW_some] <;> first | rfl | (rw [Bool.eq_iff_iff]; simp)), By⟩
                            · rw [if_neg c98] at H; exact absurd H (by simp)
                          · rw [if_neg c97] at H; exact absurd H (by simp)
                        · rw [if_neg c96] at H; exact absurd H (by simp)
              · rw [if_neg c32] at H; exact absurd H (by simp)
            · rw [if_neg c31] at H; exact absurd H (by simp)
        · replace c18 := Bool.eq_false_iff.mpr c18; subst c18; have H1 : (some (0, (⟨#[]⟩ : ByteArray), 0, 3)) = some (r1, r2, r3, r4) := by rw [if_neg (show ¬ (false = true) by decide)] at H; exact H
          clear H; have H := H1; clear H1; simp only [Option.some.injEq, Prod.mk.injEq] at H; obtain ⟨rfl, rfl, rfl, rfl⟩ := H; go_enter Try.func52, Try.ntmps52; go_wp2_with (first | ((with_reducible refine gate_dst (N := 4) rfl ?_); refine box_event ?hg (N := 4) ?hd (cs := #[.int .i64 0, .string (⟨#[]⟩ : ByteArray), .int .i64 0, .int .i64 0]) (t := 29) ?hr ?_; (case hd => rfl); (case hg => rfl); (case hr => first | (go_simp; done) | (go_simp; rfl)); intro gb305 hg w102 hbox hb; have n_ := aa (below_step By hb) <| aa (hbox) <| aa ((by rw [hg]; exact (below_size By) : w.heap.size ≤ gb305)) <| Aside0.mk ((by rw [hg]; exact (below_size By) : w.heap.size ≤ gb305)); clear HB; obtain ⟨HB, BK305, GW305, GE305⟩ := n_; clear hb hbox hg) | ((with_reducible refine gate_dst (N := 5) rfl ?_); refine box_event ?hg (N := 5) ?hd (cs := #[.int .i64 0, .string (⟨#[]⟩ : ByteArray), .int .i64 0, .int .i64 0]) (t := 29) ?hr ?_; (case hd => rfl); (case hg => rfl); (case hr => first | (go_simp; done) | (go_simp; rfl)); intro gb306 hg w103 hbox hb; have n_ := aa (bb BK305.out hb) <| aa (below_step By hb) <| aa (hbox) <| aa ((by rw [hg]; exact (below_size By) : w.heap.size ≤ gb306)) <| aa ((by rw [hg]; exact (below_size By) : w.heap.size ≤ gb306)) <| aa ((by rw [hg]; exact Nat.ne_of_lt (bl BK305.out) : gb305 ≠ gb306)) <| Aside0.mk ((by rw [hg]; exact Nat.ne_of_gt (bl BK305.out) : gb306 ≠ gb305)); clear BK305 HB; obtain ⟨BK305, HB, BK306, GW306, GE306, NB305_306, NB306_305⟩ := n_; clear hb hbox hg; have hnb104 := NB306_305.out; have hnc104 := NB305_306.out; have ⟨hcz105_0, hcz105_1, hcz105_2, hcz105_3⟩ := cq4 BK306.out; have ⟨hfz105_0, hfz105_1, hfz105_2, hfz105_3⟩ := fq4 BK306.out) | ((with_reducible refine gate_dst (N := 6) rfl ?_); refine box_event ?hg (N := 6) ?hd (cs := #[.int .i64 0, .string (⟨#[]⟩ : ByteArray), .int .i64 0, .int .i64 0]) (t := 29) ?hr ?_; (case hd => rfl); (case hg => rfl); (case hr => first | (go_simp; done) | (go_simp; rfl)); intro gb307 hg w106 hbox hb; have n_ := aa (bf BK305.out hb) <| aa (blk_below (g := gb306) (o := .cells #[.int .i64 0, .string (⟨#[]⟩ : ByteArray), .int .i64 0, .int .i64 4] 29 (0, 0)) (pq4 Pk) hb) <| aa (below_step By hb) <| aa (hbox) <| aa ((by rw [hg]; exact (below_size By) : w.heap.size ≤ gb307)) <| aa ((by rw [hg]; exact (below_size By) : w.heap.size ≤ gb307)) <| aa ((by rw [hg]; exact Nat.ne_of_lt (bm BK305.out) : gb305 ≠ gb307)) <| aa ((by rw [hg]; exact Nat.ne_of_gt (bm BK305.out) : gb307 ≠ gb305)) <| aa ((by rw [hg]; exact Nat.ne_of_lt (blk_lt (g := gb306) (o := .cells #[.int .i64 0, .string (⟨#[]⟩ : ByteArray), .int .i64 0, .int .i64 4] 29 (0, 0)) (pq4 Pk)) : gb306 ≠ gb307)) <| Aside0.mk ((by rw [hg]; exact Nat.ne_of_gt (blk_lt (g := gb306) (o := .cells #[.int .i64 0, .string (⟨#[]⟩ : ByteArray), .int .i64 0, .int .i64 4] 29 (0, 0)) (pq4 Pk)) : gb307 ≠ gb306)); clear BK305 BK306 HB; obtain ⟨BK305, BK306, HB, BK307, GW307, GE307, NB305_307, NB307_305, NB306_307, NB307_306⟩ := n_; clear hb hbox hg; have hnb107 := NB307_305.out; have hnc107 := NB305_307.out; have hnb108 := NB307_306.out; have hnc108 := NB306_307.out; have ⟨hcz109_0, hcz109_1, hcz109_2, hcz109_3⟩ := cq4 BK307.out; have ⟨hfz109_0, hfz109_1, hfz109_2, hfz109_3⟩ := fq4 BK307.out; have p16 : 0 ≤ (a1 : Int) := of_decide_eq_true Da; have q16 : a1 < (a0.size : Int) := of_decide_eq_true Da; have hx16 := bt_at a0 a1; replace p16 := eq_true p16; replace q16 := eq_true q16) | ((with_reducible refine gate_callee (f := 42) rfl ?_); refine goesL_ (some 26) rfl rfl Try.func42 (by kernel_rfl) rfl #[.int .i64 (wrap64 (bt a0 a1))] rfl Ag ?_; (with_reducible refine (spec_l09Tag.calls (wrap64 (bt a0 a1)) false _ A17.out).mono ?_); rintro e w' ⟨rfl, ⟨nd, rfl⟩⟩; refine ⟨_, rfl, ?_⟩; have ⟨hcz110_0, hcz110_1, hcz110_2, hcz110_3⟩ := cq4 BK305.out; have ⟨hfz110_0, hfz110_1, hfz110_2, hfz110_3⟩ := fq4 BK305.out)); refine bodyPost_ret (results_cell_row rfl _ _ gb305 29 #[.int .i64 0, .string (⟨#[]⟩ : ByteArray), .int .i64 0, .int .i64 3] (0, 0) _ rfl (by (with_reducible repeat (first | refine blk_drewN ?_ _ | refine blk_drew ?_ | refine blk_alloc ?_ _)); refine blk_put (cs := #[.int .i64 0, .string (⟨#[]⟩ : ByteArray), .int .i64 0, .int .i64 0]) ?_ 3 _ rfl; (with_reducible repeat (first | refine blk_drewN ?_ _ | refine blk_drew ?_ | refine blk_alloc ?_ _)); refine blk_put (cs := #[.int .i64 0, .string (⟨#[]⟩ : ByteArray), .int .i64 0, .int .i64 0]) ?_ 2 _ rfl; (with_reducible repeat (first | refine blk_drewN ?_ _ | refine blk_drew ?_ | refine blk_alloc ?_ _)); refine blk_put (cs := #[.int .i64 0, .string (⟨#[]⟩ : ByteArray), .int .i64 0, .int .i64 0]) ?_ 1 _ rfl; (with_reducible repeat (first | refine blk_drewN ?_ _ | refine blk_drew ?_ | refine blk_alloc ?_ _)); refine blk_put (cs := #[.int .i64 0, .string (⟨#[]⟩ : ByteArray), .int .i64 0, .int .i64 0]) ?_ 0 _ rfl; (with_reducible repeat (first | refine blk_drewN ?_ _ | refine blk_drew ?_ | refine blk_alloc ?_ _)); refine blk_far ?_ NB305_307.out _; (with_reducible repeat (first | refine blk_drewN ?_ _ | refine blk_drew ?_ | refine blk_alloc ?_ _)); refine blk_far ?_ NB305_307.out _; (with_reducible repeat (first | refine blk_drewN ?_ _ | refine blk_drew ?_ | refine blk_alloc ?_ _)); refine blk_far ?_ NB305_307.out _; (with_reducible repeat (first | refine blk_drewN ?_ _ | refine blk_drew ?_ | refine blk_alloc ?_ _)); refine blk_far ?_ NB305_307.out _; (with_reducible repeat (first | refine blk_drewN ?_ _ | refine blk_drew ?_ | refine blk_alloc ?_ _)); exact BK305.out) Try.underlying29 rfl (by kernel_rfl)) rfl ?_; exact ⟨Rf, By⟩
      · rw [if_neg c15] at H; exact absurd H (by simp)
    · rw [if_neg c14] at H; exact absurd H (by simp)

set_option linter.unusedVariables false
set_option linter.unusedSimpArgs false

/-! ### spec_BerGet: function 14 -/
def spec_BerGet.f (k : Nat) (a0 : ByteArray) (a1 : Int) : Option (Int × ByteArray × Int × Int) := if (a0.size : Int) > 8000 then (some (0, (⟨#[]⟩ : ByteArray), 0, 2)) else (if a1 < 0 then (some (0, (⟨#[]⟩ : ByteArray), 0, 1)) else ((spec_l09Get.f k a0 a1).bind fun bt310 => (some (bt310.1, bt310.2.1, bt310.2.2.1, bt310.2.2.2))))
theorem spec_BerGet.mono : ∀ a0 a1 k, LeO (spec_BerGet.f k a0 a1) (spec_BerGet.f (k + 1) a0 a1) := by
  intro a0 a1 k; unfold spec_BerGet.f; repeat' first
      | (with_reducible exact spec_l09Get.mono _ _ _)
      | (with_reducible exact LeO.refl _)
      | (with_reducible exact LeO.none _)
      | (with_reducible refine LeO.ite ?_ ?_)
      | (with_reducible refine LeO.bind ?_ (fun _ => ?_))
set_option maxHeartbeats 8000000 in
set_option maxRecDepth 100000 in
theorem spec_BerGet.calls (k : Nat) (a0 : ByteArray) (a1 : Int) (r1 : Int) (r2 : ByteArray) (r3 : Int) (r4 : Int) (w : World) (h : spec_BerGet.f k a0 a1 = some (r1, r2, r3, r4)) :
    Calls Try.prog 14 #[.string a0, .int .i64 a1] w fun e w' => e = .returned (.agg #[.int .i64 r1, .string r2, .int .i64 r3, .int .i64 r4]) ∧ Below w.heap.size w w' := by
  have hu29 := Try.underlying29; have HB := Aside0.mk (Below.refl w.heap.size w); have H : (if (a0.size : Int) > 8000 then (some (0, (⟨#[]⟩ : ByteArray), 0, 2)) else (if a1 < 0 then (some (0, (⟨#[]⟩ : ByteArray), 0, 1)) else ((spec_l09Get.f k a0 a1).bind fun bt310 => (some (bt310.1, bt310.2.1, bt310.2.2.1, bt310.2.2.2))))) = some (r1, r2, r3, r4) := h; clear h; by_cases c3 : (a0.size : Int) > 8000
  · rw [if_pos c3] at H; have c3b0 : decide (8000 < (a0.size : Int)) = true := decide_eq_true c3; have c3b1 : decide (8000 < a0.size) = true := decide_eq_true (by omega); clear c3; simp only [Option.some.injEq, Prod.mk.injEq] at H; obtain ⟨rfl, rfl, rfl, rfl⟩ := H; go_enter Try.func14, Try.ntmps14; go_wp2_with (first | ((with_reducible refine gate_dst (N := 4) rfl ?_); refine box_event ?hg (N := 4) ?hd (cs := #[.int .i64 0, .string (⟨#[]⟩ : ByteArray), .int .i64 0, .int .i64 0]) (t := 29) ?hr ?_; (case hd => rfl); (case hg => rfl); (case hr => first | (go_simp; done) | (go_simp; rfl)); intro gb309 hg w4 hbox hb; have n_ := aa (below_step By hb) <| aa (hbox) <| aa ((by rw [hg]; exact (below_size By) : w.heap.size ≤ gb309)) <| Aside0.mk ((by rw [hg]; exact (below_size By) : w.heap.size ≤ gb309)); clear HB; obtain ⟨HB, BK309, GW309, GE309⟩ := n_; clear hb hbox hg; have ⟨hcz5_0, hcz5_1, hcz5_2, hcz5_3⟩ := cq4 BK309.out; have ⟨hfz5_0, hfz5_1, hfz5_2, hfz5_3⟩ := fq4 BK309.out)); refine bodyPost_ret (results_cell_row rfl _ _ gb309 29 #[.int .i64 0, .string (⟨#[]⟩ : ByteArray), .int .i64 0, .int .i64 2] (0, 0) _ rfl (pq4 Pk) Try.underlying29 rfl (by kernel_rfl)) rfl ?_; exact ⟨Rf, By⟩
  · rw [if_neg c3] at H; have c3b0 : decide (8000 < (a0.size : Int)) = false := decide_eq_false c3; have c3b1 : decide (8000 < a0.size) = false := decide_eq_false (by omega); clear c3; by_cases c6 : a1 < 0
    · rw [if_pos c6] at H; have c6b0 : decide (a1 < 0) = true := decide_eq_true c6; clear c6; simp only [Option.some.injEq, Prod.mk.injEq] at H; obtain ⟨rfl, rfl, rfl, rfl⟩ := H; go_enter Try.func14, Try.ntmps14; go_wp2_with (first | ((with_reducible refine gate_dst (N := 4) rfl ?_); refine box_event ?hg (N := 4) ?hd (cs := #[.int .i64 0, .string (⟨#[]⟩ : ByteArray), .int .i64 0, .int .i64 0]) (t := 29) ?hr ?_; (case hd => rfl); (case hg => rfl); (case hr => first | (go_simp; done) | (go_simp; rfl)); intro gb309 hg w7 hbox hb; have n_ := aa (below_step By hb) <| aa (hbox) <| aa ((by rw [hg]; exact (below_size By) : w.heap.size ≤ gb309)) <| Aside0.mk ((by rw [hg]; exact (below_size By) : w.heap.size ≤ gb309)); clear HB; obtain ⟨HB, BK309, GW309, GE309⟩ := n_; clear hb hbox hg; have ⟨hcz8_0, hcz8_1, hcz8_2, hcz8_3⟩ := cq4 BK309.out; have ⟨hfz8_0, hfz8_1, hfz8_2, hfz8_3⟩ := fq4 BK309.out)); refine bodyPost_ret (results_cell_row rfl _ _ gb309 29 #[.int .i64 0, .string (⟨#[]⟩ : ByteArray), .int .i64 0, .int .i64 1] (0, 0) _ rfl (pq4 Pk) Try.underlying29 rfl (by kernel_rfl)) rfl ?_; exact ⟨Rf, By⟩
    · rw [if_neg c6] at H; have c6b0 : decide (a1 < 0) = false := decide_eq_false c6; clear c6; replace H := Option.bind_eq_some_iff.mp H; obtain ⟨⟨t310, t311, t312, t313⟩, A90, H⟩ := H; replace H : (some (t310, t311, t312, t313)) = some (r1, r2, r3, r4) := H; have A9 := Aside0.mk A90; clear A90; simp only [Option.some.injEq, Prod.mk.injEq] at H; obtain ⟨rfl, rfl, rfl, rfl⟩ := H; go_enter Try.func14, Try.ntmps14; go_wp2_with (first | ((with_reducible refine gate_dst (N := 4) rfl ?_); refine box_event ?hg (N := 4) ?hd (cs := #[.int .i64 0, .string (⟨#[]⟩ : ByteArray), .int .i64 0, .int .i64 0]) (t := 29) ?hr ?_; (case hd => rfl); (case hg => rfl); (case hr => first | (go_simp; done) | (go_simp; rfl)); intro gb309 hg w10 hbox hb; have n_ := aa (below_step By hb) <| aa (hbox) <| aa ((by rw [hg]; exact (below_size By) : w.heap.size ≤ gb309)) <| Aside0.mk ((by rw [hg]; exact (below_size By) : w.heap.size ≤ gb309)); clear HB; obtain ⟨HB, BK309, GW309, GE309⟩ := n_; clear hb hbox hg) | ((with_reducible refine gate_callee (f := 52) rfl ?_); refine goesL_ (some 14) rfl rfl Try.func52 (by kernel_rfl) rfl #[.string a0, .int .i64 a1] rfl Ag ?_; (with_reducible refine (spec_l09Get.calls k a0 a1 t310 t311 t312 t313 _ A9.out).mono ?_); rintro e w11 ⟨rfl, hb⟩; refine ⟨_, rfl, ?_⟩; have n_ := aa (bb BK309.out hb) <| Aside0.mk (below_step By hb); clear BK309 HB; obtain ⟨BK309, HB⟩ := n_; (try clear hb); (try clear hb2); (try clear hk); (try clear hi); have ⟨hcz12_0, hcz12_1, hcz12_2, hcz12_3⟩ := cq4 BK309.out; have ⟨hfz12_0, hfz12_1, hfz12_2, hfz12_3⟩ := fq4 BK309.out)); refine bodyPost_ret (results_cell_row rfl _ _ gb309 29 #[.int .i64 t310, .string t311, .int .i64 t312, .int .i64 t313] (0, 0) _ rfl (pq4 Pk) Try.underlying29 rfl (by kernel_rfl)) rfl ?_; exact ⟨Rf, By⟩

set_option linter.unusedVariables false
set_option linter.unusedSimpArgs false

/-! ### spec_l09All: function 53 -/
def spec_l09All.l0 : Nat → ByteArray → Int → List (S27) → Int → Option ((List (S27)) × Int)
  | 0, _, _, _, _ => none
  | k + 1, x0, x4, x358000, x358001 => if x4 < (x0.size : Int) then ((spec_l09Get.f k x0 x4).bind fun bt358 => (if bt358.2.2.2 = 0 then (if (x358000.length : Int) ≥ 60 then (some (([] : List (S27)), 9)) else (if x358000.length < 5864062014805 then (spec_l09All.l0 k x0 bt358.2.2.1 (x358000 ++ [(⟨bt358.1, bt358.2.1⟩ : S27)]) x358001) else (none))) else (some (([] : List (S27)), bt358.2.2.2)))) else (some (x358000, x358001))
def spec_l09All.f (k : Nat) (a0 : ByteArray) : Option ((List (S27)) × Int) := spec_l09All.l0 k a0 0 ([] : List (S27)) 0
theorem spec_l09All.mono_l : ∀ k, (∀ y0 y1 y2 y3, LeO (spec_l09All.l0 k y0 y1 y2 y3) (spec_l09All.l0 (k + 1) y0 y1 y2 y3))
  | 0 => fun _ _ _ _ r h => by simp [spec_l09All.l0] at h
  | k + 1 => by
    have ih0 := spec_l09All.mono_l k
    · intro y0 y1 y2 y3; unfold spec_l09All.l0; repeat' first
      | (with_reducible exact ih0 _ _ _ _)
      | (with_reducible exact spec_l09Get.mono _ _ _)
      | (with_reducible exact LeO.refl _)
      | (with_reducible exact LeO.none _)
      | (with_reducible refine LeO.ite ?_ ?_)
      | (with_reducible refine LeO.bind ?_ (fun _ => ?_))
theorem spec_l09All.mono : ∀ a0 k, LeO (spec_l09All.f k a0) (spec_l09All.f (k + 1) a0) := by
  intro a0 k; have ih0 := spec_l09All.mono_l k; unfold spec_l09All.f; repeat' first
      | (with_reducible exact ih0 _ _ _ _)
      | (with_reducible exact spec_l09Get.mono _ _ _)
      | (with_reducible exact LeO.refl _)
      | (with_reducible exact LeO.none _)
      | (with_reducible refine LeO.ite ?_ ?_)
      | (with_reducible refine LeO.bind ?_ (fun _ => ?_))
set_option maxHeartbeats 8000000 in
set_option maxRecDepth 100000 in
theorem spec_l09All.calls (k : Nat) (a0 : ByteArray) (r1 : List (S27)) (r2 : Int) (w : World) (h : spec_l09All.f k a0 = some (r1, r2)) :
    Calls Try.prog 53 #[.string a0] w fun e w' => ∃ v0_ : Value, e = .returned (.agg #[v0_, .int .i64 r2]) ∧ Kd.R k27 27 w' w.heap.size (fun _ => True) v0_ r1 ∧ Below w.heap.size w w' := by
  have hu35 := Try.underlying35; have hu29 := Try.underlying29; have hu27 := Try.underlying27; have HB := Aside0.mk (Below.refl w.heap.size w); have H : (spec_l09All.l0 k a0 0 ([] : List (S27)) 0) = some (r1, r2) := h; clear h; have H' := Aside0.mk H; clear H; go_enter Try.func53, Try.ntmps53; go_wp2_with (first | ((with_reducible refine gate_dst (N := 2) rfl ?_); refine box_event ?hg (N := 2) ?hd (cs := #[.slice none 0 0, .int .i64 0]) (t := 35) ?hr ?_; (case hd => rfl); (case hg => rfl); (case hr => first | (go_simp; done) | (go_simp; rfl)); intro gb356 hg w2 hbox hb; have n_ := aa (below_step By hb) <| aa (hbox) <| aa ((by rw [hg]; exact (below_size By) : w.heap.size ≤ gb356)) <| Aside0.mk ((by rw [hg]; exact (below_size By) : w.heap.size ≤ gb356)); clear HB; obtain ⟨HB, BK356, GW356, GE356⟩ := n_; clear hb hbox hg) | ((with_reducible refine gate_dst (N := 3) rfl ?_); refine box_event ?hg (N := 3) ?hd (cs := #[.slice none 0 0, .int .i64 0]) (t := 35) ?hr ?_; (case hd => rfl); (case hg => rfl); (case hr => first | (go_simp; done) | (go_simp; rfl)); intro gb357 hg w3 hbox hb; have n_ := aa (bb BK356.out hb) <| aa (below_step By hb) <| aa (hbox) <| aa ((by rw [hg]; exact (below_size By) : w.heap.size ≤ gb357)) <| aa ((by rw [hg]; exact (below_size By) : w.heap.size ≤ gb357)) <| aa ((by rw [hg]; exact Nat.ne_of_lt (bl BK356.out) : gb356 ≠ gb357)) <| Aside0.mk ((by rw [hg]; exact Nat.ne_of_gt (bl BK356.out) : gb357 ≠ gb356)); clear BK356 HB; obtain ⟨BK356, HB, BK357, GW357, GE357, NB356_357, NB357_356⟩ := n_; clear hb hbox hg; have hnb4 := NB357_356.out; have hnc4 := NB356_357.out; have ⟨hcz5_0, hcz5_1⟩ := cq2 BK357.out; have ⟨hfz5_0, hfz5_1⟩ := fq2 BK357.out)); go_loopg [4] k (fun kq v4 w' => ∃ (x4_1 : Int) (x357001_1 : Int) (x358000_1 : List (S27)) (u358000 : Value), v4 = .int .i64 x4_1 ∧ Aside0 (spec_l09All.l0 kq a0 x4_1 x358000_1 0 = some (r1, r2)) ∧ Aside0 (kq ≤ k) ∧ Aside0 (Kd.R k27 27 w' w.heap.size (fun _ => True) u358000 x358000_1) ∧ Aside0 (w'.heap[gb356]? = some (.cells #[(.slice none 0 0), .int .i64 x357001_1] 35 (0, 0))) ∧ Aside0 (w'.heap[gb357]? = some (.cells #[u358000, .int .i64 0] 35 (0, 0))) ∧ Aside0 (Below w.heap.size w w'))
  case atStart => exact ⟨(0), (0), (([] : List (S27))), (.slice none 0 0), (by first | rfl | (simp; done) | (simp [*]; done)), H', ⟨Nat.le_refl _⟩, ⟨by first | exact Kd.R_nil _ _ _ _ _ | exact Kd.N_nil _ _ _ _ _ | exact Kd.V_nil _ _ _ _ _ | exact Kd.Q_nil _ _ _ _ _ | exact Kd.S_nil _ _ _ _ _⟩, ⟨Fr⟩, ⟨(pq2 Pk)⟩, ⟨By⟩⟩
  case round =>
    clear H'; try clear p2
    try clear c4
    try clear c5
    try clear hcz5_0
    try clear hcz5_1
    try clear hfz5_0
    try clear hfz5_1
    obtain ⟨x4_1, x357001_1, x358000_1, u358000, rfl, HA, HK1, HO_358000, BK356, BK357, HB⟩ := hrel; cases gk with
    | zero => exact absurd HA.out (by simp [spec_l09All.l0])
    | succ k1 =>
      have H := HA.out; clear HA; simp only [spec_l09All.l0] at H; by_cases c6 : x4_1 < (a0.size : Int)
      · rw [if_pos c6] at H; have c6b0 : decide (x4_1 < (a0.size : Int)) = true := decide_eq_true c6; clear c6; replace H := Option.bind_eq_some_iff.mp H; obtain ⟨⟨t358, t359, t360, t361⟩, A70, H⟩ := H; replace H : (if t361 = 0 then (if (x358000_1.length : Int) ≥ 60 then (some (([] : List (S27)), 9)) else (if x358000_1.length < 5864062014805 then (spec_l09All.l0 k1 a0 t360 (x358000_1 ++ [(⟨t358, t359⟩ : S27)]) 0) else (none))) else (some (([] : List (S27)), t361))) = some (r1, r2) := H; have A7 := Aside0.mk A70; clear A70; by_cases c8 : t361 = 0
        · rw [if_pos c8] at H; have c8b0 : (t361 == 0) = true := beq_iff_eq.mpr c8; have c8b1 : (t361 != 0) = false := bne_eq_false_iff_eq.mpr c8; clear c8; by_cases c9 : (x358000_1.length : Int) ≥ 60
          · rw [if_pos c9] at H; have c9b0 : decide (60 ≤ (x358000_1.length : Int)) = true := decide_eq_true c9; have c9b1 : decide (60 ≤ x358000_1.length) = true := decide_eq_true (by omega); clear c9; simp only [Option.some.injEq, Prod.mk.injEq] at H; obtain ⟨rfl, rfl⟩ := H; go_wp2_with (first | ((with_reducible refine gate_callee (f := 52) rfl ?_); refine goesL_ (some 13) rfl rfl Try.func52 (by kernel_rfl) rfl #[.string a0, .int .i64 x4_1] rfl Ag ?_; (with_reducible refine (spec_l09Get.calls k1 a0 x4_1 t358 t359 t360 t361 _ A7.out).mono ?_); rintro e w10 ⟨rfl, hb⟩; refine ⟨_, rfl, ?_⟩; have n_ := aa (Kd.R_below (rR HO_358000.out) hb) <| aa (bb BK356.out hb) <| aa (bb BK357.out hb) <| Aside0.mk (below_step By hb); clear HO_358000 BK356 BK357 HB; obtain ⟨HO_358000, BK356, BK357, HB⟩ := n_; (try clear hb); (try clear hb2); (try clear hk); (try clear hi)) | ((with_reducible refine gate_dst (N := 5) rfl ?_); refine box_event ?hg (N := 5) ?hd (cs := #[.int .i64 0, .string (⟨#[]⟩ : ByteArray), .int .i64 0, .int .i64 0]) (t := 29) ?hr ?_; (case hd => rfl); (case hg => rfl); (case hr => first | (go_simp; done) | (go_simp; rfl)); intro gb362 hg w11 hbox hb; have n_ := aa (Kd.R_below (rR HO_358000.out) hb) <| aa (bb BK356.out hb) <| aa (bb BK357.out hb) <| aa (below_step By hb) <| aa (hbox) <| aa ((by rw [hg]; exact (below_size By) : w.heap.size ≤ gb362)) <| aa ((by rw [hg]; exact (below_size By) : w.heap.size ≤ gb362)) <| aa ((by rw [hg]; exact Nat.ne_of_lt (bl BK356.out) : gb356 ≠ gb362)) <| aa ((by rw [hg]; exact Nat.ne_of_gt (bl BK356.out) : gb362 ≠ gb356)) <| aa ((by rw [hg]; exact Nat.ne_of_lt (bl BK357.out) : gb357 ≠ gb362)) <| Aside0.mk ((by rw [hg]; exact Nat.ne_of_gt (bl BK357.out) : gb362 ≠ gb357)); clear HO_358000 BK356 BK357 HB; obtain ⟨HO_358000, BK356, BK357, HB, BK362, GW362, GE362, NB356_362, NB362_356, NB357_362, NB362_357⟩ := n_; clear hb hbox hg; have hnb12 := NB362_356.out; have hnc12 := NB356_362.out; have hnb13 := NB362_357.out; have hnc13 := NB357_362.out; have ⟨hcz14_0, hcz14_1, hcz14_2, hcz14_3⟩ := cq4 BK362.out; have ⟨hfz14_0, hfz14_1, hfz14_2, hfz14_3⟩ := fq4 BK362.out; have hnb15 := NB357_356.out; have hnc15 := NB356_357.out; have ⟨hcz16_0, hcz16_1⟩ := cq2 BK357.out; have ⟨hfz16_0, hfz16_1⟩ := fq2 BK357.out; obtain ⟨Ao17, co17, eo17⟩ := Kd.R_slice HO_358000.out; subst eo17; have ⟨hcz18_0, hcz18_1⟩ := cq2 BK356.out; have ⟨hfz18_0, hfz18_1⟩ := fq2 BK356.out)); refine bodyPost_ret (results_cell_row rfl _ _ gb356 35 #[.slice none 0 0, .int .i64 9] (0, 0) _ rfl (by (with_reducible repeat (first | refine blk_drewN ?_ _ | refine blk_drew ?_ | refine blk_alloc ?_ _)); refine blk_put (cs := #[.slice none 0 0, .int .i64 x357001_1]) ?_ 1 _ rfl; (with_reducible repeat (first | refine blk_drewN ?_ _ | refine blk_drew ?_ | refine blk_alloc ?_ _)); refine blk_put (cs := #[.slice none 0 0, .int .i64 x357001_1]) ?_ 0 _ rfl; (with_reducible repeat (first | refine blk_drewN ?_ _ | refine blk_drew ?_ | refine blk_alloc ?_ _)); refine blk_far ?_ NB356_362.out _; (with_reducible repeat (first | refine blk_drewN ?_ _ | refine blk_drew ?_ | refine blk_alloc ?_ _)); refine blk_far ?_ NB356_362.out _; (with_reducible repeat (first | refine blk_drewN ?_ _ | refine blk_drew ?_ | refine blk_alloc ?_ _)); refine blk_far ?_ NB356_362.out _; (with_reducible repeat (first | refine blk_drewN ?_ _ | refine blk_drew ?_ | refine blk_alloc ?_ _)); refine blk_far ?_ NB356_362.out _; (with_reducible repeat (first | refine blk_drewN ?_ _ | refine blk_drew ?_ | refine blk_alloc ?_ _)); exact BK356.out) Try.underlying35 rfl (by kernel_rfl)) rfl ?_; exact ⟨_, Rf, by first | exact Kd.R_nil _ _ _ _ _ | exact Kd.N_nil _ _ _ _ _ | exact Kd.V_nil _ _ _ _ _ | exact Kd.Q_nil _ _ _ _ _ | exact Kd.S_nil _ _ _ _ _, By⟩
          · rw [if_neg c9] at H; have c9b0 : decide (60 ≤ (x358000_1.length : Int)) = false := decide_eq_false c9; have c9b1 : decide (60 ≤ x358000_1.length) = false := decide_eq_false (by omega); clear c9; by_cases c19 : x358000_1.length < 5864062014805
            · rw [if_pos c19] at H; have LMc19 := Aside0.mk c19; clear c19; obtain ⟨y363, hy363⟩ : ∃ y_ : List (S27), y_ = (x358000_1 ++ [(⟨t358, t359⟩ : S27)]) := ⟨_, rfl⟩; replace H : (spec_l09All.l0 k1 a0 t360 y363 0) = some (r1, r2) := by first | (rw [hy363]; with_reducible exact H) | (have H2_ := (Option.bind_some _ _).symm.trans H; rw [hy363]; with_reducible exact H2_) | (have H2_ := (Option.bind_some _ _).symm.trans H; with_reducible exact H2_) | with_reducible exact H | (rw [hy363]; exact H) | exact H
              have Ny363 := Aside0.mk hy363; clear hy363; have H' := Aside0.mk H; clear H; go_wp2_with (first | ((with_reducible refine gate_callee (f := 52) rfl ?_); refine goesL_ (some 13) rfl rfl Try.func52 (by kernel_rfl) rfl #[.string a0, .int .i64 x4_1] rfl Ag ?_; (with_reducible refine (spec_l09Get.calls k1 a0 x4_1 t358 t359 t360 t361 _ A7.out).mono ?_); rintro e w20 ⟨rfl, hb⟩; refine ⟨_, rfl, ?_⟩; have n_ := aa (Kd.R_below (rR HO_358000.out) hb) <| aa (bb BK356.out hb) <| aa (bb BK357.out hb) <| Aside0.mk (below_step By hb); clear HO_358000 BK356 BK357 HB; obtain ⟨HO_358000, BK356, BK357, HB⟩ := n_; (try clear hb); (try clear hb2); (try clear hk); (try clear hi)) | ((with_reducible refine gate_dst (N := 5) rfl ?_); refine box_event ?hg (N := 5) ?hd (cs := #[.int .i64 0, .string (⟨#[]⟩ : ByteArray), .int .i64 0, .int .i64 0]) (t := 29) ?hr ?_; (case hd => rfl); (case hg => rfl); (case hr => first | (go_simp; done) | (go_simp; rfl)); intro gb362 hg w21 hbox hb; have n_ := aa (Kd.R_below (rR HO_358000.out) hb) <| aa (bb BK356.out hb) <| aa (bb BK357.out hb) <| aa (below_step By hb) <| aa (hbox) <| aa ((by rw [hg]; exact (below_size By) : w.heap.size ≤ gb362)) <| aa ((by rw [hg]; exact (below_size By) : w.heap.size ≤ gb362)) <| aa ((by rw [hg]; exact Nat.ne_of_lt (bl BK356.out) : gb356 ≠ gb362)) <| aa ((by rw [hg]; exact Nat.ne_of_gt (bl BK356.out) : gb362 ≠ gb356)) <| aa ((by rw [hg]; exact Nat.ne_of_lt (bl BK357.out) : gb357 ≠ gb362)) <| Aside0.mk ((by rw [hg]; exact Nat.ne_of_gt (bl BK357.out) : gb362 ≠ gb357)); clear HO_358000 BK356 BK357 HB; obtain ⟨HO_358000, BK356, BK357, HB, BK362, GW362, GE362, NB356_362, NB362_356, NB357_362, NB362_357⟩ := n_; clear hb hbox hg; have hnb22 := NB362_356.out; have hnc22 := NB356_362.out; have hnb23 := NB362_357.out; have hnc23 := NB357_362.out; have ⟨hcz24_0, hcz24_1, hcz24_2, hcz24_3⟩ := cq4 BK362.out; have ⟨hfz24_0, hfz24_1, hfz24_2, hfz24_3⟩ := fq4 BK362.out; have hnb25 := NB357_356.out; have hnc25 := NB356_357.out; have ⟨hcz26_0, hcz26_1⟩ := cq2 BK357.out; have ⟨hfz26_0, hfz26_1⟩ := fq2 BK357.out; obtain ⟨Ao27, co27, eo27⟩ := Kd.R_slice HO_358000.out; subst eo27) | ((with_reducible refine gate_builtin (b := .append) (xs := #[.tmp 26, .tmp 29]) rfl ?_); at_builtin; refine Kd.R_append k27 (w0 := w) w.heap.size rfl (.tmp 26) (.tmp 29) 33 27 (.agg #[(.int .i64 0), (.string ⟨#[]⟩)]) 24 rfl Try.underlying33 info27 rfl (by decide) (by omega) (.slice Ao27 x358000_1.length co27) x358000_1 (⟨t358, t359⟩ : S27) [.int .i64 t358, .string t359] (fun _ => True) (fun _ => False) rfl (by first | (go_simp; done) | (go_simp; rfl)) ?aP (fun _ hk => hk.elim) ?aF ?aO ?aB ?aS ?aL ?_; (case aP => exact k27_mkM _ _ _ (⟨t358, t359⟩ : S27)); (case aB => exact By); (case aF => exact (fun _ _ => trivial)); (case aO => exact (by (with_reducible repeat (first | apply Kd.R_alloc | apply Kd.R_drewN | apply Kd.R_drew)); exact Kd.R_mono (Kd.R_far (p := ⟨gb362, 3, none⟩) (Kd.R_far (p := ⟨gb362, 2, none⟩) (Kd.R_far (p := ⟨gb362, 1, none⟩) (Kd.R_far (p := ⟨gb362, 0, none⟩) (Kd.R_types HO_358000.out BK362.out (by decide)) (fun _ hk => hk.2) (.int .i64 t358)) (fun _ hk => hk.2) (.string t359)) (fun _ hk => hk.2) (.int .i64 t360)) (fun _ hk => hk.2) (.int .i64 t361)) (fun _ hk => trivial))); (case aS => exact (below_size By)); (case aL => have := LMc19.out; omega); intro v364 w28 ho hb hg hat; rw [← Ny363.out] at ho; have n0_ := Aside0.mk (blk_grown (g := gb356) (o := .cells #[.slice none 0 0, .int .i64 x357001_1] 35 (0, 0)) Fr hg (Kd.R_ne HO_358000.out BK356.out (by decide))); have n1_ := Aside0.mk (blk_grown (g := gb357) (o := .cells #[.slice Ao27 x358000_1.length co27, .int .i64 0] 35 (0, 0)) Fr hg (Kd.R_ne HO_358000.out BK357.out (by decide))); have n2_ := Aside0.mk (blk_grown (g := gb362) (o := .cells #[.int .i64 t358, .string t359, .int .i64 t360, .int .i64 t361] 29 (0, 0)) (pq4 Pk) hg (Kd.R_ne HO_358000.out BK362.out (by decide))); have n3_ := Aside0.mk (hb); have n4_ := Aside0.mk (ho); clear BK356; clear BK357; clear BK362; clear HB; clear HO_358000; have BK356 := n0_; have BK357 := n1_; have BK362 := n2_; have HB := n3_; have HO365 := n4_; clear n0_ n1_ n2_ n3_ n4_; clear ho hb hg hat; obtain ⟨Ao29, co29, eo29⟩ := Kd.R_slice HO365.out; subst eo29; have ⟨hcz30_0, hcz30_1⟩ := cq2 BK357.out; have ⟨hfz30_0, hfz30_1⟩ := fq2 BK357.out; have ⟨hcz31_0, hcz31_1, hcz31_2, hcz31_3⟩ := cq4 BK362.out; have ⟨hfz31_0, hfz31_1, hfz31_2, hfz31_3⟩ := fq4 BK362.out)); go_roundg k1
              case measure => have := HK1.out; omega
              case rel => exact ⟨(t360), (x357001_1), (y363), (.slice Ao29 y363.length co29), (by first | rfl | (simp; done) | (simp [*]; done)), H', ⟨by have := HK1.out; omega⟩, ⟨by (with_reducible repeat (first | apply Kd.R_alloc | apply Kd.R_drewN | apply Kd.R_drew)); exact Kd.R_mono (Kd.R_far (p := ⟨gb357, 0, none⟩) (Kd.R_types HO365.out BK357.out (by decide)) (fun _ hk => hk.2) (.slice Ao29 y363.length co29)) (fun _ hk => trivial)⟩, ⟨Fr⟩, ⟨(pq1o2 Pk)⟩, ⟨By⟩⟩
            · rw [if_neg c19] at H; exact absurd H (by simp)
        · rw [if_neg c8] at H; have c8b0 : (t361 == 0) = false := beq_eq_false_iff_ne.mpr c8; have c8b1 : (t361 != 0) = true := bne_iff_ne.mpr c8; simp only [Option.some.injEq, Prod.mk.injEq] at H; obtain ⟨rfl, rfl⟩ := H; go_wp2_with (first | ((with_reducible refine gate_callee (f := 52) rfl ?_); refine goesL_ (some 13) rfl rfl Try.func52 (by kernel_rfl) rfl #[.string a0, .int .i64 x4_1] rfl Ag ?_; (with_reducible refine (spec_l09Get.calls k1 a0 x4_1 t358 t359 t360 t361 _ A7.out).mono ?_); rintro e w32 ⟨rfl, hb⟩; refine ⟨_, rfl, ?_⟩; have n_ := aa (Kd.R_below (rR HO_358000.out) hb) <| aa (bb BK356.out hb) <| aa (bb BK357.out hb) <| Aside0.mk (below_step By hb); clear HO_358000 BK356 BK357 HB; obtain ⟨HO_358000, BK356, BK357, HB⟩ := n_; (try clear hb); (try clear hb2); (try clear hk); (try clear hi)) | ((with_reducible refine gate_dst (N := 5) rfl ?_); refine box_event ?hg (N := 5) ?hd (cs := #[.int .i64 0, .string (⟨#[]⟩ : ByteArray), .int .i64 0, .int .i64 0]) (t := 29) ?hr ?_; (case hd => rfl); (case hg => rfl); (case hr => first | (go_simp; done) | (go_simp; rfl)); intro gb362 hg w33 hbox hb; have n_ := aa (Kd.R_below (rR HO_358000.out) hb) <| aa (bb BK356.out hb) <| aa (bb BK357.out hb) <| aa (below_step By hb) <| aa (hbox) <| aa ((by rw [hg]; exact (below_size By) : w.heap.size ≤ gb362)) <| aa ((by rw [hg]; exact (below_size By) : w.heap.size ≤ gb362)) <| aa ((by rw [hg]; exact Nat.ne_of_lt (bl BK356.out) : gb356 ≠ gb362)) <| aa ((by rw [hg]; exact Nat.ne_of_gt (bl BK356.out) : gb362 ≠ gb356)) <| aa ((by rw [hg]; exact Nat.ne_of_lt (bl BK357.out) : gb357 ≠ gb362)) <| Aside0.mk ((by rw [hg]; exact Nat.ne_of_gt (bl BK357.out) : gb362 ≠ gb357)); clear HO_358000 BK356 BK357 HB; obtain ⟨HO_358000, BK356, BK357, HB, BK362, GW362, GE362, NB356_362, NB362_356, NB357_362, NB362_357⟩ := n_; clear hb hbox hg; have hnb34 := NB362_356.out; have hnc34 := NB356_362.out; have hnb35 := NB362_357.out; have hnc35 := NB357_362.out; have ⟨hcz36_0, hcz36_1, hcz36_2, hcz36_3⟩ := cq4 BK362.out; have ⟨hfz36_0, hfz36_1, hfz36_2, hfz36_3⟩ := fq4 BK362.out; have hnb37 := NB356_357.out; have hnc37 := NB357_356.out; have ⟨hcz38_0, hcz38_1⟩ := cq2 BK356.out; have ⟨hfz38_0, hfz38_1⟩ := fq2 BK356.out)); refine bodyPost_ret (results_cell_row rfl _ _ gb356 35 #[.slice none 0 0, .int .i64 t361] (0, 0) _ rfl (by (with_reducible repeat (first | refine blk_drewN ?_ _ | refine blk_drew ?_ | refine blk_alloc ?_ _)); refine blk_put (cs := #[.slice none 0 0, .int .i64 x357001_1]) ?_ 1 _ rfl; (with_reducible repeat (first | refine blk_drewN ?_ _ | refine blk_drew ?_ | refine blk_alloc ?_ _)); refine blk_put (cs := #[.slice none 0 0, .int .i64 x357001_1]) ?_ 0 _ rfl; (with_reducible repeat (first | refine blk_drewN ?_ _ | refine blk_drew ?_ | refine blk_alloc ?_ _)); refine blk_far ?_ NB356_362.out _; (with_reducible repeat (first | refine blk_drewN ?_ _ | refine blk_drew ?_ | refine blk_alloc ?_ _)); refine blk_far ?_ NB356_362.out _; (with_reducible repeat (first | refine blk_drewN ?_ _ | refine blk_drew ?_ | refine blk_alloc ?_ _)); refine blk_far ?_ NB356_362.out _; (with_reducible repeat (first | refine blk_drewN ?_ _ | refine blk_drew ?_ | refine blk_alloc ?_ _)); refine blk_far ?_ NB356_362.out _; (with_reducible repeat (first | refine blk_drewN ?_ _ | refine blk_drew ?_ | refine blk_alloc ?_ _)); exact BK356.out) Try.underlying35 rfl (by kernel_rfl)) rfl ?_; exact ⟨_, Rf, by first | exact Kd.R_nil _ _ _ _ _ | exact Kd.N_nil _ _ _ _ _ | exact Kd.V_nil _ _ _ _ _ | exact Kd.Q_nil _ _ _ _ _ | exact Kd.S_nil _ _ _ _ _, By⟩
      · rw [if_neg c6] at H; have c6b0 : decide (x4_1 < (a0.size : Int)) = false := decide_eq_false c6; clear c6; simp only [Option.some.injEq, Prod.mk.injEq] at H; obtain ⟨rfl, rfl⟩ := H; have hnb39 := NB357_356.out; have hnc39 := NB356_357.out; have hcz40_0 : wr.cell? ⟨gb357, 0, none⟩ = some (u358000) := bc BK357.out 0; have hcz40_1 : wr.cell? ⟨gb357, 1, none⟩ = some (.int .i64 0) := bc BK357.out 1; have hfz40_0 := blk_frozen BK357.out 0; have hfz40_1 := blk_frozen BK357.out 1; obtain ⟨Ao41, co41, eo41⟩ := Kd.R_slice HO_358000.out; subst eo41; have hcz42_0 : wr.cell? ⟨gb356, 0, none⟩ = some (.slice none 0 0) := bc BK356.out 0; have hcz42_1 : wr.cell? ⟨gb356, 1, none⟩ = some (.int .i64 x357001_1) := bc BK356.out 1; have hfz42_0 := blk_frozen BK356.out 0; have hfz42_1 := blk_frozen BK356.out 1; go_wp2; refine bodyPost_ret (results_cell_row rfl _ _ gb356 35 #[.slice Ao41 x358000_1.length co41, .int .i64 0] (0, 0) _ rfl (pq2 Pk) Try.underlying35 rfl (by kernel_rfl)) rfl ?_; exact ⟨_, Rf, by (with_reducible repeat (first | apply Kd.R_alloc | apply Kd.R_drewN | apply Kd.R_drew)); exact Kd.R_mono (Kd.R_far (p := ⟨gb356, 1, none⟩) (Kd.R_far (p := ⟨gb356, 0, none⟩) (Kd.R_types HO_358000.out BK356.out (by decide)) (fun _ hk => hk.2) (.slice Ao41 x358000_1.length co41)) (fun _ hk => hk.2) (.int .i64 0)) (fun _ hk => trivial), By⟩

set_option linter.unusedVariables false
set_option linter.unusedSimpArgs false

/-! ### spec_BerAll: function 16 -/
def spec_BerAll.f (k : Nat) (a0 : ByteArray) : Option ((List (S27)) × Int) := if (a0.size : Int) > 8000 then (some (([] : List (S27)), 2)) else ((spec_l09All.f k a0).bind fun bt367 => (some (bt367.1, bt367.2)))
theorem spec_BerAll.mono : ∀ a0 k, LeO (spec_BerAll.f k a0) (spec_BerAll.f (k + 1) a0) := by
  intro a0 k; unfold spec_BerAll.f; repeat' first
      | (with_reducible exact spec_l09All.mono _ _)
      | (with_reducible exact LeO.refl _)
      | (with_reducible exact LeO.none _)
      | (with_reducible refine LeO.ite ?_ ?_)
      | (with_reducible refine LeO.bind ?_ (fun _ => ?_))
set_option maxHeartbeats 8000000 in
set_option maxRecDepth 100000 in
theorem spec_BerAll.calls (k : Nat) (a0 : ByteArray) (r1 : List (S27)) (r2 : Int) (w : World) (h : spec_BerAll.f k a0 = some (r1, r2)) :
    Calls Try.prog 16 #[.string a0] w fun e w' => ∃ v0_ : Value, e = .returned (.agg #[v0_, .int .i64 r2]) ∧ Kd.R k27 27 w' w.heap.size (fun _ => True) v0_ r1 ∧ Below w.heap.size w w' := by
  have hu35 := Try.underlying35; have HB := Aside0.mk (Below.refl w.heap.size w); have H : (if (a0.size : Int) > 8000 then (some (([] : List (S27)), 2)) else ((spec_l09All.f k a0).bind fun bt367 => (some (bt367.1, bt367.2)))) = some (r1, r2) := h; clear h; by_cases c2 : (a0.size : Int) > 8000
  · rw [if_pos c2] at H; have c2b0 : decide (8000 < (a0.size : Int)) = true := decide_eq_true c2; have c2b1 : decide (8000 < a0.size) = true := decide_eq_true (by omega); clear c2; simp only [Option.some.injEq, Prod.mk.injEq] at H; obtain ⟨rfl, rfl⟩ := H; go_enter Try.func16, Try.ntmps16; go_wp2_with (first | ((with_reducible refine gate_dst (N := 2) rfl ?_); refine box_event ?hg (N := 2) ?hd (cs := #[.slice none 0 0, .int .i64 0]) (t := 35) ?hr ?_; (case hd => rfl); (case hg => rfl); (case hr => first | (go_simp; done) | (go_simp; rfl)); intro gb366 hg w3 hbox hb; have n_ := aa (below_step By hb) <| aa (hbox) <| aa ((by rw [hg]; exact (below_size By) : w.heap.size ≤ gb366)) <| Aside0.mk ((by rw [hg]; exact (below_size By) : w.heap.size ≤ gb366)); clear HB; obtain ⟨HB, BK366, GW366, GE366⟩ := n_; clear hb hbox hg; have ⟨hcz4_0, hcz4_1⟩ := cq2 BK366.out; have ⟨hfz4_0, hfz4_1⟩ := fq2 BK366.out)); refine bodyPost_ret (results_cell_row rfl _ _ gb366 35 #[.slice none 0 0, .int .i64 2] (0, 0) _ rfl (pq2 Pk) Try.underlying35 rfl (by kernel_rfl)) rfl ?_; exact ⟨_, Rf, by first | exact Kd.R_nil _ _ _ _ _ | exact Kd.N_nil _ _ _ _ _ | exact Kd.V_nil _ _ _ _ _ | exact Kd.Q_nil _ _ _ _ _ | exact Kd.S_nil _ _ _ _ _, By⟩
  · rw [if_neg c2] at H; have c2b0 : decide (8000 < (a0.size : Int)) = false := decide_eq_false c2; have c2b1 : decide (8000 < a0.size) = false := decide_eq_false (by omega); clear c2; replace H := Option.bind_eq_some_iff.mp H; obtain ⟨⟨t367, t370⟩, A50, H⟩ := H; replace H : (some (t367, t370)) = some (r1, r2) := H; have A5 := Aside0.mk A50; clear A50; simp only [Option.some.injEq, Prod.mk.injEq] at H; obtain ⟨rfl, rfl⟩ := H; go_enter Try.func16, Try.ntmps16; go_wp2_with (first | ((with_reducible refine gate_dst (N := 2) rfl ?_); refine box_event ?hg (N := 2) ?hd (cs := #[.slice none 0 0, .int .i64 0]) (t := 35) ?hr ?_; (case hd => rfl); (case hg => rfl); (case hr => first | (go_simp; done) | (go_simp; rfl)); intro gb366 hg w6 hbox hb; have n_ := aa (below_step By hb) <| aa (hbox) <| aa ((by rw [hg]; exact (below_size By) : w.heap.size ≤ gb366)) <| Aside0.mk ((by rw [hg]; exact (below_size By) : w.heap.size ≤ gb366)); clear HB; obtain ⟨HB, BK366, GW366, GE366⟩ := n_; clear hb hbox hg) | ((with_reducible refine gate_callee (f := 53) rfl ?_); refine goesL_ (some 8) rfl rfl Try.func53 (by kernel_rfl) rfl #[.string a0] rfl Ag ?_; (with_reducible refine (spec_l09All.calls k a0 t367 t370 _ A5.out).mono ?_); rintro e w7 ⟨v368, rfl, ho0, hb⟩; refine ⟨_, rfl, ?_⟩; have n_ := aa (Kd.R_lower ho0 (below_size By)) <| aa (bb BK366.out hb) <| Aside0.mk (below_step By hb); clear BK366 HB; obtain ⟨HO369, BK366, HB⟩ := n_; (try clear hb); (try clear hb2); (try clear hk); (try clear hi); (try clear ho0); obtain ⟨Ao8, co8, eo8⟩ := Kd.R_slice HO369.out; subst eo8; have ⟨hcz9_0, hcz9_1⟩ := cq2 BK366.out; have ⟨hfz9_0, hfz9_1⟩ := fq2 BK366.out)); refine bodyPost_ret (results_cell_row rfl _ _ gb366 35 #[.slice Ao8 t367.length co8, .int .i64 t370] (0, 0) _ rfl (pq2 Pk) Try.underlying35 rfl (by kernel_rfl)) rfl ?_; exact ⟨_, Rf, by (with_reducible repeat (first | apply Kd.R_alloc | apply Kd.R_drewN | apply Kd.R_drew)); exact Kd.R_mono (Kd.R_far (p := ⟨gb366, 1, none⟩) (Kd.R_far (p := ⟨gb366, 0, none⟩) (Kd.R_types HO369.out BK366.out (by decide)) (fun _ hk => hk.2) (.slice Ao8 t367.length co8)) (fun _ hk => hk.2) (.int .i64 t370)) (fun _ hk => trivial), By⟩

set_option linter.unusedVariables false
set_option linter.unusedSimpArgs false

/-! ### impl_intBody: function 55 -/
def impl_intBody.l0 : Nat → Int → List Int → Option (ByteArray)
  | 0, _, _ => none
  | k + 1, x0, x3 => if 0 < (x3.length : Int) then (if (wrap64 (IntKind.i8.wrap (rd x3 0))) = x0 then (some (strOfNums x3)) else ((some (([(x0 / 256) % 256] : List Int) : List Int)).bind fun y420 => (if y420.length + x3.length < 140737488355328 then (impl_intBody.l0 k (x0 / 256) (y420 ++ x3)) else (none)))) else (none)
def impl_intBody.f (k : Nat) (a0 : Int) : Option (ByteArray) := impl_intBody.l0 k a0 (([(a0) % 256] : List Int))
theorem impl_intBody.mono_l : ∀ k, (∀ y0 y1, LeO (impl_intBody.l0 k y0 y1) (impl_intBody.l0 (k + 1) y0 y1))
  | 0 => fun _ _ r h => by simp [impl_intBody.l0] at h
  | k + 1 => by
    have ih0 := impl_intBody.mono_l k
    · intro y0 y1; unfold impl_intBody.l0; repeat' first
      | (with_reducible exact ih0 _ _)
      | (with_reducible exact LeO.refl _)
      | (with_reducible exact LeO.none _)
      | (with_reducible refine LeO.ite ?_ ?_)
      | (with_reducible refine LeO.bind ?_ (fun _ => ?_))
theorem impl_intBody.mono : ∀ a0 k, LeO (impl_intBody.f k a0) (impl_intBody.f (k + 1) a0) := by
  intro a0 k; have ih0 := impl_intBody.mono_l k; unfold impl_intBody.f; repeat' first
      | (with_reducible exact ih0 _ _)
      | (with_reducible exact LeO.refl _)
      | (with_reducible exact LeO.none _)
      | (with_reducible refine LeO.ite ?_ ?_)
      | (with_reducible refine LeO.bind ?_ (fun _ => ?_))
set_option maxHeartbeats 8000000 in
set_option maxRecDepth 100000 in
theorem impl_intBody.calls (k : Nat) (a0 : Int) (r : ByteArray) (w : World) (h : impl_intBody.f k a0 = some r) :
    Calls Try.prog 55 #[.int .i64 a0] w fun e w' => e = .returned (.string r) ∧ Below w.heap.size w w' := by
  have HB := Aside0.mk (Below.refl w.heap.size w); have H : (impl_intBody.l0 k a0 (([(a0) % 256] : List Int))) = some r := h; clear h; obtain ⟨y416, hy416⟩ : ∃ y_ : List Int, y_ = (([(a0) % 256] : List Int)) := ⟨_, rfl⟩; replace H : (impl_intBody.l0 k a0 y416) = some r := by first | (rw [hy416]; with_reducible exact H) | (have H2_ := (Option.bind_some _ _).symm.trans H; rw [hy416]; with_reducible exact H2_) | (have H2_ := (Option.bind_some _ _).symm.trans H; with_reducible exact H2_) | with_reducible exact H | (rw [hy416]; exact H) | exact H
  have Ny416 := Aside0.mk hy416; clear hy416; have H' := Aside0.mk H; clear H; go_enter Try.func55, Try.ntmps55; go_wp2_with (first | ((with_reducible refine gate_dst (N := 6) rfl ?_); refine Kd.R_lit (Kd.int .u8) _ 5 ?hg (N := 6) ?hd (xs := ([(a0) % 256] : List Int)) (inner := [.int .u8 ((a0) % 256)]) (ok := fun _ => True) (okp := fun _ => True) ?hr ?hp (fun _ hk => hk) trivial (Below.refl _ _) (Nat.le_refl _) (by simp) ?_; (case hd => rfl); (case hg => rfl); (case hr => first | (go_simp; done) | (go_simp; rfl)); (case hp => exact (Reps.one (show Kd.M (Kd.int .u8) _ _ _ ((a0) % 256) [.int .u8 ((a0) % 256)] from rfl) (Reps.none _ _))); intro v417 w2 ho3 hb hg_ hnew_; clear hg_ hnew_; (first | rw [← Ny416.out] at ho3 | (simp only [Int.reduceToNat] at ho3; rw [← Ny416.out] at ho3)); have n_ := aa (Kd.R_lower ho3 (below_size By)) <| Aside0.mk (below_step By hb); clear HB; obtain ⟨HO418, HB⟩ := n_; clear hb ho3)); go_loopg [0, 3] k (fun kq v0 v3 w' => ∃ (x0_1 : Int) (x3_1 : List Int), v0 = .int .i64 x0_1 ∧ Aside0 (impl_intBody.l0 kq x0_1 x3_1 = some r) ∧ Aside0 (kq ≤ k) ∧ Aside0 (Kd.R (Kd.int .u8) 5 w' w.heap.size (fun _ => True) v3 x3_1) ∧ Aside0 (Below w.heap.size w w'))
  case atStart => exact ⟨(a0), (y416), (by first | rfl | (simp; done) | (simp [*]; done)), H', ⟨Nat.le_refl _⟩, ⟨by (with_reducible repeat (first | apply Kd.R_alloc | apply Kd.R_drewN | apply Kd.R_drew)); exact HO418.out⟩, ⟨By⟩⟩
  case round =>
    clear H'; try clear p2
    obtain ⟨x0_1, x3_1, rfl, HA, HK1, HO_3, HB⟩ := hrel; cases gk with
    | zero => exact absurd HA.out (by simp [impl_intBody.l0])
    | succ k1 =>
      have H := HA.out; clear HA; simp only [impl_intBody.l0] at H; by_cases c4 : 0 < (x3_1.length : Int)
      · rw [if_pos c4] at H; have c4b0 : decide (0 < (x3_1.length : Int)) = true := decide_eq_true c4; have c4b1 : decide (0 < x3_1.length) = true := decide_eq_true (by omega); clear c4; by_cases c5 : (wrap64 (IntKind.i8.wrap (rd x3_1 0))) = x0_1
        · rw [if_pos c5] at H; have c5b0 : ((wrap64 (IntKind.i8.wrap (rd x3_1 0))) == x0_1) = true := beq_iff_eq.mpr c5; have c5b1 : ((wrap64 (IntKind.i8.wrap (rd x3_1 0))) != x0_1) = false := bne_eq_false_iff_eq.mpr c5; clear c5; obtain rfl := Option.some.inj H; obtain ⟨Ao6, co6, eo6⟩ := Kd.R_slice HO_3.out; subst eo6; have p419 : 0 ≤ (0 : Int) := (by omega); have q419 : 0 < (x3_1.length : Int) := of_decide_eq_true Da; obtain ⟨ad419, e419, hx419_0⟩ := Kd.at_int (Kd.R_reads' HO_3.out).2.2 0 p419 q419; cases e419
          have qi419 : (0 < x3_1.length) = True := eq_true (by omega); (try rw [show ((0 : Int)).toNat = 0 from rfl] at hx419_0); (try rw [Addr.add_zero'] at hx419_0); replace p419 := eq_true p419; replace q419 := eq_true q419; have hcv7 := own_string (P := Try.prog) Try.underlying22 Try.underlying5 Try.underlying9 (Kd.own_of_R HO_3.out); go_wp2; go_ret; exact ⟨Rf, By⟩
        · rw [if_neg c5] at H; have c5b0 : ((wrap64 (IntKind.i8.wrap (rd x3_1 0))) == x0_1) = false := beq_eq_false_iff_ne.mpr c5; have c5b1 : ((wrap64 (IntKind.i8.wrap (rd x3_1 0))) != x0_1) = true := bne_iff_ne.mpr c5; obtain ⟨y420, hy420⟩ : ∃ y_ : List Int, y_ = (([(x0_1 / 256) % 256] : List Int)) := ⟨_, rfl⟩; replace H : (if y420.length + x3_1.length < 140737488355328 then (impl_intBody.l0 k1 (x0_1 / 256) (y420 ++ x3_1)) else (none)) = some r := by first | (rw [hy420]; with_reducible exact H) | (have H2_ := (Option.bind_some _ _).symm.trans H; rw [hy420]; with_reducible exact H2_) | (have H2_ := (Option.bind_some _ _).symm.trans H; with_reducible exact H2_) | with_reducible exact H | (rw [hy420]; exact H) | exact H
          have Ny420 := Aside0.mk hy420; clear hy420; by_cases c8 : y420.length + x3_1.length < 140737488355328
          · rw [if_pos c8] at H; have LMc8 := Aside0.mk c8; clear c8; obtain ⟨y423, hy423⟩ : ∃ y_ : List Int, y_ = (y420 ++ x3_1) := ⟨_, rfl⟩; replace H : (impl_intBody.l0 k1 (x0_1 / 256) y423) = some r := by first | (rw [hy423]; with_reducible exact H) | (have H2_ := (Option.bind_some _ _).symm.trans H; rw [hy423]; with_reducible exact H2_) | (have H2_ := (Option.bind_some _ _).symm.trans H; with_reducible exact H2_) | with_reducible exact H | (rw [hy423]; exact H) | exact H
            have Ny423 := Aside0.mk hy423; clear hy423; have H' := Aside0.mk H; clear H; obtain ⟨Ao9, co9, eo9⟩ := Kd.R_slice HO_3.out; subst eo9; have p419 : 0 ≤ (0 : Int) := (by omega); have q419 : 0 < (x3_1.length : Int) := of_decide_eq_true Da; obtain ⟨ad419, e419, hx419_0⟩ := Kd.at_int (Kd.R_reads' HO_3.out).2.2 0 p419 q419; cases e419
            have qi419 : (0 < x3_1.length) = True := eq_true (by omega); (try rw [show ((0 : Int)).toNat = 0 from rfl] at hx419_0); (try rw [Addr.add_zero'] at hx419_0); replace p419 := eq_true p419; replace q419 := eq_true q419; go_wp2_with (first | ((with_reducible refine gate_dst (N := 18) rfl ?_); refine Kd.R_lit (Kd.int .u8) _ 5 ?hg (N := 18) ?hd (xs := ([(x0_1 / 256) % 256] : List Int)) (inner := [.int .u8 ((x0_1 / 256) % 256)]) (ok := fun _ => True) (okp := fun _ => True) ?hr ?hp (fun _ hk => hk) trivial (Below.refl _ _) (Nat.le_refl _) (by simp) ?_; (case hd => rfl); (case hg => rfl); (case hr => first | (go_simp; done) | (go_simp; rfl)); (case hp => exact (Reps.one (show Kd.M (Kd.int .u8) _ _ _ ((x0_1 / 256) % 256) [.int .u8 ((x0_1 / 256) % 256)] from rfl) (Reps.none _ _))); intro v421 w10 ho11 hb hg_ hnew_; clear hg_ hnew_; (first | rw [← Ny420.out] at ho11 | (simp only [Int.reduceToNat] at ho11; rw [← Ny420.out] at ho11)); have n_ := aa (Kd.R_elder' (rR HO_3.out) (Kd.R_base ho11) hb) <| aa (Kd.R_lower (Kd.R_new' ho11 (Kd.R_lt (rR HO_3.out))) (below_size By)) <| Aside0.mk (below_step By hb); clear HO_3 HB; obtain ⟨HO_3, HO422, HB⟩ := n_; clear hb ho11) | ((with_reducible refine gate_builtin (b := .append) (xs := #[.tmp 18, .tmp 19]) rfl ?_); at_builtin; refine Kd.R_append_rows (Kd.int .u8) (w0 := w) w.heap.size rfl (.tmp 18) (.tmp 19) 22 5 (.int .u8 0) 1 rfl Try.underlying22 info5 rfl (by decide) (by omega) v421 y420 x3_1 _ _ _ (fun k_ => some k_ ≠ (.slice (some ad419) x3_1.length co9 : Value).ownBlock) (fun _ => False) rfl rfl ?aO ?aR (fun _ _ h => h) (fun _ h => h.elim) ?aF ?aB ?aS ?aL ?_; (case aR => exact rC (Kd.R_reads' HO_3.out).2.2); (case aB => exact By); (case aF => exact (fun k_ hk => Kd.fresh' (Kd.R_lt (rR HO_3.out)) k_ hk)); (case aO => exact (by (with_reducible repeat (first | apply Kd.R_alloc | apply Kd.R_drewN | apply Kd.R_drew)); exact Kd.R_mono HO422.out (fun _ hk => hk.2))); (case aS => exact (below_size By)); (case aL => have := LMc8.out; omega); intro v424 w12 ho hb hg hat; rw [← Ny423.out] at ho; have n0_ := Aside0.mk (Kd.R_after (ok := (fun _ => True)) (rR HO_3.out) hg hat); have n1_ := Aside0.mk (hb); have n2_ := Aside0.mk (ho); clear HO_3; clear HB; clear HO422; have HO_3 := n0_; have HB := n1_; have HO425 := n2_; clear n0_ n1_ n2_; clear ho hb hg hat)); go_roundg k1
            case measure => have := HK1.out; omega
            case rel => exact ⟨(x0_1 / 256), (y423), (by first | rfl | (simp; done) | (simp [*]; done)), H', ⟨by have := HK1.out; omega⟩, ⟨by (with_reducible repeat (first | apply Kd.R_alloc | apply Kd.R_drewN | apply Kd.R_drew)); exact Kd.R_mono HO425.out (fun _ hk => trivial)⟩, ⟨By⟩⟩
          · rw [if_neg c8] at H; exact absurd H (by simp)
      · rw [if_neg c4] at H; exact absurd H (by simp)

set_option linter.unusedVariables false
set_option linter.unusedSimpArgs false

/-! ### impl_BerInt: function 18 -/
def impl_BerInt.f (k : Nat) (a0 : Int) (a1 : Int) : Option (ByteArray) := (impl_intBody.f k a1).bind fun t426 => ((impl_BerPut.f a0 t426).bind fun t427 => (some t427))
theorem impl_BerInt.mono : ∀ a0 a1 k, LeO (impl_BerInt.f k a0 a1) (impl_BerInt.f (k + 1) a0 a1) := by
  intro a0 a1 k; unfold impl_BerInt.f; repeat' first
      | (with_reducible exact impl_intBody.mono _ _)
      | (with_reducible exact LeO.refl _)
      | (with_reducible exact LeO.none _)
      | (with_reducible refine LeO.ite ?_ ?_)
      | (with_reducible refine LeO.bind ?_ (fun _ => ?_))
set_option maxHeartbeats 8000000 in
set_option maxRecDepth 100000 in
theorem impl_BerInt.calls (k : Nat) (a0 : Int) (a1 : Int) (r : ByteArray) (w : World) (h : impl_BerInt.f k a0 a1 = some r) :
    Calls Try.prog 18 #[.int .i64 a0, .int .i64 a1] w fun e w' => e = .returned (.string r) ∧ Below w.heap.size w w' := by
  have HB := Aside0.mk (Below.refl w.heap.size w); have H : ((impl_intBody.f k a1).bind fun t426 => ((impl_BerPut.f a0 t426).bind fun t427 => (some t427))) = some r := h; clear h; replace H := Option.bind_eq_some_iff.mp H; obtain ⟨t426, A30, H⟩ := H; (try dsimp only at H); have A3 := Aside0.mk A30; clear A30; replace H := Option.bind_eq_some_iff.mp H; obtain ⟨t427, A40, H⟩ := H; (try dsimp only at H); have A4 := Aside0.mk A40; clear A40; obtain rfl := Option.some.inj H; go_enter Try.func18, Try.ntmps18; go_wp2_with (first | ((with_reducible refine gate_callee (f := 55) rfl ?_); refine goesL_ (some 7) rfl rfl Try.func55 (by kernel_rfl) rfl #[.int .i64 a1] rfl Ag ?_; (with_reducible refine (impl_intBody.calls k a1 t426 _ A3.out).mono ?_); rintro e w5 ⟨rfl, hb⟩; refine ⟨_, rfl, ?_⟩; have n0_ := Aside0.mk (below_step By hb); clear HB; have HB := n0_; clear n0_; (try clear hb); (try clear hb2); (try clear hk); (try clear hi)) | ((with_reducible refine gate_callee (f := 7) rfl ?_); refine goesL_ (some 8) rfl rfl Try.func7 (by kernel_rfl) rfl #[.int .i64 a0, .string t426] rfl Ag ?_; (with_reducible refine (impl_BerPut.calls a0 t426 t427 _ A4.out).mono ?_); rintro e w6 ⟨rfl, hb⟩; refine ⟨_, rfl, ?_⟩; have n0_ := Aside0.mk (below_step By hb); clear HB; have HB := n0_; clear n0_; (try clear hb); (try clear hb2); (try clear hk); (try clear hi))); go_ret; exact ⟨Rf, By⟩

set_option linter.unusedVariables false
set_option linter.unusedSimpArgs false

/-! ### spec_l09Bytes: function 56 -/
def spec_l09Bytes.l0 : Nat → List Int → Int → Option (ByteArray)
  | 0, _, _ => none
  | k + 1, x3, x4 => if x4 = 0 then (if 0 < (x3.length : Int) then (if (rd x3 0) < 128 then (some (strOfNums x3)) else (if x4 = (-1) then (if ((rd x3 0) ≥ 128) then (some (strOfNums x3)) else ((some (([(x4) % 256] : List Int) : List Int)).bind fun y433 => (if y433.length + x3.length < 140737488355328 then (spec_l09Bytes.l0 k (y433 ++ x3) (x4 / 256)) else (none)))) else ((some (([(x4) % 256] : List Int) : List Int)).bind fun y439 => (if y439.length + x3.length < 140737488355328 then (spec_l09Bytes.l0 k (y439 ++ x3) (x4 / 256)) else (none))))) else (none)) else (if x4 = (-1) then (if 0 < (x3.length : Int) then (if ((rd x3 0) ≥ 128) then (some (strOfNums x3)) else ((some (([(x4) % 256] : List Int) : List Int)).bind fun y446 => (if y446.length + x3.length < 140737488355328 then (spec_l09Bytes.l0 k (y446 ++ x3) (x4 / 256)) else (none)))) else (none)) else ((some (([(x4) % 256] : List Int) : List Int)).bind fun y452 => (if y452.length + x3.length < 140737488355328 then (spec_l09Bytes.l0 k (y452 ++ x3) (x4 / 256)) else (none))))
def spec_l09Bytes.f (k : Nat) (a0 : Int) : Option (ByteArray) := spec_l09Bytes.l0 k (([(a0) % 256] : List Int)) (a0 / 256)
theorem spec_l09Bytes.mono_l : ∀ k, (∀ y0 y1, LeO (spec_l09Bytes.l0 k y0 y1) (spec_l09Bytes.l0 (k + 1) y0 y1))
  | 0 => fun _ _ r h => by simp [spec_l09Bytes.l0] at h
  | k + 1 => by
    have ih0 := spec_l09Bytes.mono_l k
    · intro y0 y1; unfold spec_l09Bytes.l0; repeat' first
      | (with_reducible exact ih0 _ _)
      | (with_reducible exact LeO.refl _)
      | (with_reducible exact LeO.none _)
      | (with_reducible refine LeO.ite ?_ ?_)
      | (with_reducible refine LeO.bind ?_ (fun _ => ?_))
theorem spec_l09Bytes.mono : ∀ a0 k, LeO (spec_l09Bytes.f k a0) (spec_l09Bytes.f (k + 1) a0) := by
  intro a0 k; have ih0 := spec_l09Bytes.mono_l k; unfold spec_l09Bytes.f; repeat' first
      | (with_reducible exact ih0 _ _)
      | (with_reducible exact LeO.refl _)
      | (with_reducible exact LeO.none _)
      | (with_reducible refine LeO.ite ?_ ?_)
      | (with_reducible refine LeO.bind ?_ (fun _ => ?_))
set_option maxHeartbeats 8000000 in
set_option maxRecDepth 100000 in
theorem spec_l09Bytes.calls (k : Nat) (a0 : Int) (r : ByteArray) (w : World) (h : spec_l09Bytes.f k a0 = some r) :
    Calls Try.prog 56 #[.int .i64 a0] w fun e w' => e = .returned (.string r) ∧ Below w.heap.size w w' := by
  have HB := Aside0.mk (Below.refl w.heap.size w); have H : (spec_l09Bytes.l0 k (([(a0) % 256] : List Int)) (a0 / 256)) = some r := h; clear h; obtain ⟨y428, hy428⟩ : ∃ y_ : List Int, y_ = (([(a0) % 256] : List Int)) := ⟨_, rfl⟩; replace H : (spec_l09Bytes.l0 k y428 (a0 / 256)) = some r := by first | (rw [hy428]; with_reducible exact H) | (have H2_ := (Option.bind_some _ _).symm.trans H; rw [hy428]; with_reducible exact H2_) | (have H2_ := (Option.bind_some _ _).symm.trans H; with_reducible exact H2_) | with_reducible exact H | (rw [hy428]; exact H) | exact H
  have Ny428 := Aside0.mk hy428; clear hy428; have H' := Aside0.mk H; clear H; go_enter Try.func56, Try.ntmps56; go_wp2_with (first | ((with_reducible refine gate_dst (N := 7) rfl ?_); refine Kd.R_lit (Kd.int .u8) _ 5 ?hg (N := 7) ?hd (xs := ([(a0) % 256] : List Int)) (inner := [.int .u8 ((a0) % 256)]) (ok := fun _ => True) (okp := fun _ => True) ?hr ?hp (fun _ hk => hk) trivial (Below.refl _ _) (Nat.le_refl _) (by simp) ?_; (case hd => rfl); (case hg => rfl); (case hr => first | (go_simp; done) | (go_simp; rfl)); (case hp => exact (Reps.one (show Kd.M (Kd.int .u8) _ _ _ ((a0) % 256) [.int .u8 ((a0) % 256)] from rfl) (Reps.none _ _))); intro v429 w2 ho3 hb hg_ hnew_; clear hg_ hnew_; (first | rw [← Ny428.out] at ho3 | (simp only [Int.reduceToNat] at ho3; rw [← Ny428.out] at ho3)); have n_ := aa (Kd.R_lower ho3 (below_size By)) <| Aside0.mk (below_step By hb); clear HB; obtain ⟨HO430, HB⟩ := n_; clear hb ho3)); go_loopg [3, 4] k (fun kq v3 v4 w' => ∃ (x3_1 : List Int) (x4_1 : Int), v4 = .int .i64 x4_1 ∧ Aside0 (spec_l09Bytes.l0 kq x3_1 x4_1 = some r) ∧ Aside0 (kq ≤ k) ∧ Aside0 (Kd.R (Kd.int .u8) 5 w' w.heap.size (fun _ => True) v3 x3_1) ∧ Aside0 (Below w.heap.size w w'))
  case atStart => exact ⟨(y428), (a0 / 256), (by first | rfl | (simp; done) | (simp [*]; done)), H', ⟨Nat.le_refl _⟩, ⟨by (with_reducible repeat (first | apply Kd.R_alloc | apply Kd.R_drewN | apply Kd.R_drew)); exact HO430.out⟩, ⟨By⟩⟩
  case round =>
    clear H'; try clear p2
    obtain ⟨x3_1, x4_1, rfl, HA, HK1, HO_3, HB⟩ := hrel; cases gk with
    | zero => exact absurd HA.out (by simp [spec_l09Bytes.l0])
    | succ k1 =>
      have H := HA.out; clear HA; simp only [spec_l09Bytes.l0] at H; by_cases c4 : x4_1 = 0
      · rw [if_pos c4] at H; have c4b0 : (x4_1 == 0) = true := beq_iff_eq.mpr c4; have c4b1 : (x4_1 != 0) = false := bne_eq_false_iff_eq.mpr c4; clear c4; by_cases c5 : 0 < (x3_1.length : Int)
        · rw [if_pos c5] at H; have c5b0 : decide (0 < (x3_1.length : Int)) = true := decide_eq_true c5; have c5b1 : decide (0 < x3_1.length) = true := decide_eq_true (by omega); clear c5; by_cases c6 : (rd x3_1 0) < 128
          · rw [if_pos c6] at H; have c6b0 : decide ((rd x3_1 0) < 128) = true := decide_eq_true c6; clear c6; obtain rfl := Option.some.inj H; obtain ⟨Ao7, co7, eo7⟩ := Kd.R_slice HO_3.out; subst eo7; have p431 : 0 ≤ (0 : Int) := (by omega); have q431 : 0 < (x3_1.length : Int) := of_decide_eq_true Da; obtain ⟨ad431, e431, hx431_0⟩ := Kd.at_int (Kd.R_reads' HO_3.out).2.2 0 p431 q431; cases e431
            have qi431 : (0 < x3_1.length) = True := eq_true (by omega); (try rw [show ((0 : Int)).toNat = 0 from rfl] at hx431_0); (try rw [Addr.add_zero'] at hx431_0); replace p431 := eq_true p431; replace q431 := eq_true q431; have hcv8 := own_string (P := Try.prog) Try.underlying22 Try.underlying5 Try.underlying9 (Kd.own_of_R HO_3.out); go_wp2; go_ret; exact ⟨Rf, By⟩
          · rw [if_neg c6] at H; have c6b0 : decide ((rd x3_1 0) < 128) = false := decide_eq_false c6; clear c6; by_cases c9 : x4_1 = (-1)
            · rw [if_pos c9] at H; have c9b0 : (x4_1 == (-1)) = true := beq_iff_eq.mpr c9; have c9b1 : (x4_1 != (-1)) = false := bne_eq_false_iff_eq.mpr c9; clear c9; by_cases c10 : ((rd x3_1 0) ≥ 128)
              · rw [if_pos c10] at H; have c10b0 : decide (128 ≤ (rd x3_1 0)) = true := decide_eq_true c10; clear c10; obtain rfl := Option.some.inj H; obtain ⟨Ao11, co11, eo11⟩ := Kd.R_slice HO_3.out; subst eo11; have p431 : 0 ≤ (0 : Int) := (by omega); have q431 : 0 < (x3_1.length : Int) := of_decide_eq_true Da; obtain ⟨ad431, e431, hx431_0⟩ := Kd.at_int (Kd.R_reads' HO_3.out).2.2 0 p431 q431; cases e431
                have qi431 : (0 < x3_1.length) = True := eq_true (by omega); (try rw [show ((0 : Int)).toNat = 0 from rfl] at hx431_0); (try rw [Addr.add_zero'] at hx431_0); replace p431 := eq_true p431; replace q431 := eq_true q431; have p432 : 0 ≤ (0 : Int) := (by omega); have q432 : 0 < (x3_1.length : Int) := of_decide_eq_true Da; obtain ⟨ad432, e432, hx432_0⟩ := Kd.at_int (Kd.R_reads' HO_3.out).2.2 0 p432 q432; obtain rfl : ad431 = ad432 := (by injection e432); have qi432 : (0 < x3_1.length) = True := eq_true (by omega); (try rw [show ((0 : Int)).toNat = 0 from rfl] at hx432_0); (try rw [Addr.add_zero'] at hx432_0); replace p432 := eq_true p432; replace q432 := eq_true q432; have hcv12 := own_string (P := Try.prog) Try.underlying22 Try.underlying5 Try.underlying9 (Kd.own_of_R HO_3.out); go_wp2; go_ret; exact ⟨Rf, By⟩
              · rw [if_neg c10] at H; have c10b0 : decide (128 ≤ (rd x3_1 0)) = false := decide_eq_false c10; clear c10; obtain ⟨y433, hy433⟩ : ∃ y_ : List Int, y_ = (([(x4_1) % 256] : List Int)) := ⟨_, rfl⟩; replace H : (if y433.length + x3_1.length < 140737488355328 then (spec_l09Bytes.l0 k1 (y433 ++ x3_1) (x4_1 / 256)) else (none)) = some r := by first | (rw [hy433]; with_reducible exact H) | (have H2_ := (Option.bind_some _ _).symm.trans H; rw [hy433]; with_reducible exact H2_) | (have H2_ := (Option.bind_some _ _).symm.trans H; with_reducible exact H2_) | with_reducible exact H | (rw [hy433]; exact H) | exact H
                have Ny433 := Aside0.mk hy433; clear hy433; by_cases c13 : y433.length + x3_1.length < 140737488355328
                · rw [if_pos c13] at H; have LMc13 := Aside0.mk c13; clear c13; obtain ⟨y436, hy436⟩ : ∃ y_ : List Int, y_ = (y433 ++ x3_1) := ⟨_, rfl⟩; replace H : (spec_l09Bytes.l0 k1 y436 (x4_1 / 256)) = some r := by first | (rw [hy436]; with_reducible exact H) | (have H2_ := (Option.bind_some _ _).symm.trans H; rw [hy436]; with_reducible exact H2_) | (have H2_ := (Option.bind_some _ _).symm.trans H; with_reducible exact H2_) | with_reducible exact H | (rw [hy436]; exact H) | exact H
                  have Ny436 := Aside0.mk hy436; clear hy436; have H' := Aside0.mk H; clear H; obtain ⟨Ao14, co14, eo14⟩ := Kd.R_slice HO_3.out; subst eo14; have p431 : 0 ≤ (0 : Int) := (by omega); have q431 : 0 < (x3_1.length : Int) := of_decide_eq_true Da; obtain ⟨ad431, e431, hx431_0⟩ := Kd.at_int (Kd.R_reads' HO_3.out).2.2 0 p431 q431; cases e431
                  have qi431 : (0 < x3_1.length) = True := eq_true (by omega); (try rw [show ((0 : Int)).toNat = 0 from rfl] at hx431_0); (try rw [Addr.add_zero'] at hx431_0); replace p431 := eq_true p431; replace q431 := eq_true q431; have p432 : 0 ≤ (0 : Int) := (by omega); have q432 : 0 < (x3_1.length : Int) := of_decide_eq_true Da; obtain ⟨ad432, e432, hx432_0⟩ := Kd.at_int (Kd.R_reads' HO_3.out).2.2 0 p432 q432; obtain rfl : ad431 = ad432 := (by injection e432); have qi432 : (0 < x3_1.length) = True := eq_true (by omega); (try rw [show ((0 : Int)).toNat = 0 from rfl] at hx432_0); (try rw [Addr.add_zero'] at hx432_0); replace p432 := eq_true p432; replace q432 := eq_true q432; go_wp2_with (first | ((with_reducible refine gate_dst (N := 31) rfl ?_); refine Kd.R_lit (Kd.int .u8) _ 5 ?hg (N := 31) ?hd (xs := ([(x4_1) % 256] : List Int)) (inner := [.int .u8 ((x4_1) % 256)]) (ok := fun _ => True) (okp := fun _ => True) ?hr ?hp (fun _ hk => hk) trivial (Below.refl _ _) (Nat.le_refl _) (by simp) ?_; (case hd => rfl); (case hg => rfl); (case hr => first | (go_simp; done) | (go_simp; rfl)); (case hp => exact (Reps.one (show Kd.M (Kd.int .u8) _ _ _ ((x4_1) % 256) [.int .u8 ((x4_1) % 256)] from rfl) (Reps.none _ _))); intro v434 w15 ho16 hb hg_ hnew_; clear hg_ hnew_; (first | rw [← Ny433.out] at ho16 | (simp only [Int.reduceToNat] at ho16; rw [← Ny433.out] at ho16)); have n_ := aa (Kd.R_elder' (rR HO_3.out) (Kd.R_base ho16) hb) <| aa (Kd.R_lower (Kd.R_new' ho16 (Kd.R_lt (rR HO_3.out))) (below_size By)) <| Aside0.mk (below_step By hb); clear HO_3 HB; obtain ⟨HO_3, HO435, HB⟩ := n_; clear hb ho16) | ((with_reducible refine gate_builtin (b := .append) (xs := #[.tmp 31, .tmp 32]) rfl ?_); at_builtin; refine Kd.R_append_rows (Kd.int .u8) (w0 := w) w.heap.size rfl (.tmp 31) (.tmp 32) 22 5 (.int .u8 0) 1 rfl Try.underlying22 info5 rfl (by decide) (by omega) v434 y433 x3_1 _ _ _ (fun k_ => some k_ ≠ (.slice (some ad431) x3_1.length co14 : Value).ownBlock) (fun _ => False) rfl rfl ?aO ?aR (fun _ _ h => h) (fun _ h => h.elim) ?aF ?aB ?aS ?aL ?_; (case aR => exact rC (Kd.R_reads' HO_3.out).2.2); (case aB => exact By); (case aF => exact (fun k_ hk => Kd.fresh' (Kd.R_lt (rR HO_3.out)) k_ hk)); (case aO => exact (by (with_reducible repeat (first | apply Kd.R_alloc | apply Kd.R_drewN | apply Kd.R_drew)); exact Kd.R_mono HO435.out (fun _ hk => hk.2))); (case aS => exact (below_size By)); (case aL => have := LMc13.out; omega); intro v437 w17 ho hb hg hat; rw [← Ny436.out] at ho; have n0_ := Aside0.mk (Kd.R_after (ok := (fun _ => True)) (rR HO_3.out) hg hat); have n1_ := Aside0.mk (hb); have n2_ := Aside0.mk (ho); clear HO_3; clear HB; clear HO435; have HO_3 := n0_; have HB := n1_; have HO438 := n2_; clear n0_ n1_ n2_; clear ho hb hg hat)); go_roundg k1
                  case measure => have := HK1.out; omega
                  case rel => exact ⟨(y436), (x4_1 / 256), (by first | rfl | (simp; done) | (simp [*]; done)), H', ⟨by have := HK1.out; omega⟩, ⟨by (with_reducible repeat (first | apply Kd.R_alloc | apply Kd.R_drewN | apply Kd.R_drew)); exact Kd.R_mono HO438.out (fun _ hk => trivial)⟩, ⟨By⟩⟩
                · rw [if_neg c13] at H; exact absurd H (by simp)
            · rw [if_neg c9] at H; have c9b0 : (x4_1 == (-1)) = false := beq_eq_false_iff_ne.mpr c9; have c9b1 : (x4_1 != (-1)) = true := bne_iff_ne.mpr c9; obtain ⟨y439, hy439⟩ : ∃ y_ : List Int, y_ = (([(x4_1) % 256] : List Int)) := ⟨_, rfl⟩; replace H : (if y439.length + x3_1.length < 140737488355328 then (spec_l09Bytes.l0 k1 (y439 ++ x3_1) (x4_1 / 256)) else (none)) = some r := by first | (rw [hy439]; with_reducible exact H) | (have H2_ := (Option.bind_some _ _).symm.trans H; rw [hy439]; with_reducible exact H2_) | (have H2_ := (Option.bind_some _ _).symm.trans H; with_reducible exact H2_) | with_reducible exact H | (rw [hy439]; exact H) | exact H
              have Ny439 := Aside0.mk hy439; clear hy439; by_cases c18 : y439.length + x3_1.length < 140737488355328
              · rw [if_pos c18] at H; have LMc18 := Aside0.mk c18; clear c18; obtain ⟨y442, hy442⟩ : ∃ y_ : List Int, y_ = (y439 ++ x3_1) := ⟨_, rfl⟩; replace H : (spec_l09Bytes.l0 k1 y442 (x4_1 / 256)) = some r := by first | (rw [hy442]; with_reducible exact H) | (have H2_ := (Option.bind_some _ _).symm.trans H; rw [hy442]; with_reducible exact H2_) | (have H2_ := (Option.bind_some _ _).symm.trans H; with_reducible exact H2_) | with_reducible exact H | (rw [hy442]; exact H) | exact H
                have Ny442 := Aside0.mk hy442; clear hy442; have H' := Aside0.mk H; clear H; obtain ⟨Ao19, co19, eo19⟩ := Kd.R_slice HO_3.out; subst eo19; have p431 : 0 ≤ (0 : Int) := (by omega); have q431 : 0 < (x3_1.length : Int) := of_decide_eq_true Da; obtain ⟨ad431, e431, hx431_0⟩ := Kd.at_int (Kd.R_reads' HO_3.out).2.2 0 p431 q431; cases e431
                have qi431 : (0 < x3_1.length) = True := eq_true (by omega); (try rw [show ((0 : Int)).toNat = 0 from rfl] at hx431_0); (try rw [Addr.add_zero'] at hx431_0); replace p431 := eq_true p431; replace q431 := eq_true q431; go_wp2_with (first | ((with_reducible refine gate_dst (N := 31) rfl ?_); refine Kd.R_lit (Kd.int .u8) _ 5 ?hg (N := 31) ?hd (xs := ([(x4_1) % 256] : List Int)) (inner := [.int .u8 ((x4_1) % 256)]) (ok := fun _ => True) (okp := fun _ => True) ?hr ?hp (fun _ hk => hk) trivial (Below.refl _ _) (Nat.le_refl _) (by simp) ?_; (case hd => rfl); (case hg => rfl); (case hr => first | (go_simp; done) | (go_simp; rfl)); (case hp => exact (Reps.one (show Kd.M (Kd.int .u8) _ _ _ ((x4_1) % 256) [.int .u8 ((x4_1) % 256)] from rfl) (Reps.none _ _))); intro v440 w20 ho21 hb hg_ hnew_; clear hg_ hnew_; (first | rw [← Ny439.out] at ho21 | (simp only [Int.reduceToNat] at ho21; rw [← Ny439.out] at ho21)); have n_ := aa (Kd.R_elder' (rR HO_3.out) (Kd.R_base ho21) hb) <| aa (Kd.R_lower (Kd.R_new' ho21 (Kd.R_lt (rR HO_3.out))) (below_size By)) <| Aside0.mk (below_step By hb); clear HO_3 HB; obtain ⟨HO_3, HO441, HB⟩ := n_; clear hb ho21) | ((with_reducible refine gate_builtin (b := .append) (xs := #[.tmp 31, .tmp 32]) rfl ?_); at_builtin; refine Kd.R_append_rows (Kd.int .u8) (w0 := w) w.heap.size rfl (.tmp 31) (.tmp 32) 22 5 (.int .u8 0) 1 rfl Try.underlying22 info5 rfl (by decide) (by omega) v440 y439 x3_1 _ _ _ (fun k_ => some k_ ≠ (.slice (some ad431) x3_1.length co19 : Value).ownBlock) (fun _ => False) rfl rfl ?aO ?aR (fun _ _ h => h) (fun _ h => h.elim) ?aF ?aB ?aS ?aL ?_; (case aR => exact rC (Kd.R_reads' HO_3.out).2.2); (case aB => exact By); (case aF => exact (fun k_ hk => Kd.fresh' (Kd.R_lt (rR HO_3.out)) k_ hk)); (case aO => exact (by (with_reducible repeat (first | apply Kd.R_alloc | apply Kd.R_drewN | apply Kd.R_drew)); exact Kd.R_mono HO441.out (fun _ hk => hk.2))); (case aS => exact (below_size By)); (case aL => have := LMc18.out; omega); intro v443 w22 ho hb hg hat; rw [← Ny442.out] at ho; have n0_ := Aside0.mk (Kd.R_after (ok := (fun _ => True)) (rR HO_3.out) hg hat); have n1_ := Aside0.mk (hb); have n2_ := Aside0.mk (ho); clear HO_3; clear HB; clear HO441; have HO_3 := n0_; have HB := n1_; have HO444 := n2_; clear n0_ n1_ n2_; clear ho hb hg hat)); go_roundg k1
                case measure => have := HK1.out; omega
                case rel => exact ⟨(y442), (x4_1 / 256), (by first | rfl | (simp; done) | (simp [*]; done)), H', ⟨by have := HK1.out; omega⟩, ⟨by (with_reducible repeat (first | apply Kd.R_alloc | apply Kd.R_drewN | apply Kd.R_drew)); exact Kd.R_mono HO444.out (fun _ hk => trivial)⟩, ⟨By⟩⟩
              · rw [if_neg c18] at H; exact absurd H (by simp)
        · rw [if_neg c5] at H; exact absurd H (by simp)
      · rw [if_neg c4] at H; have c4b0 : (x4_1 == 0) = false := beq_eq_false_iff_ne.mpr c4; have c4b1 : (x4_1 != 0) = true := bne_iff_ne.mpr c4; by_cases c23 : x4_1 = (-1)
        · rw [if_pos c23] at H; have c23b0 : (x4_1 == (-1)) = true := beq_iff_eq.mpr c23; have c23b1 : (x4_1 != (-1)) = false := bne_eq_false_iff_eq.mpr c23; clear c23; by_cases c24 : 0 < (x3_1.length : Int)
          · rw [if_pos c24] at H; have c24b0 : decide (0 < (x3_1.length : Int)) = true := decide_eq_true c24; have c24b1 : decide (0 < x3_1.length) = true := decide_eq_true (by omega); clear c24; by_cases c25 : ((rd x3_1 0) ≥ 128)
            · rw [if_pos c25] at H; have c25b0 : decide (128 ≤ (rd x3_1 0)) = true := decide_eq_true c25; clear c25; obtain rfl := Option.some.inj H; obtain ⟨Ao26, co26, eo26⟩ := Kd.R_slice HO_3.out; subst eo26; have p445 : 0 ≤ (0 : Int) := (by omega); have q445 : 0 < (x3_1.length : Int) := of_decide_eq_true Da; obtain ⟨ad445, e445, hx445_0⟩ := Kd.at_int (Kd.R_reads' HO_3.out).2.2 0 p445 q445; cases e445
              have qi445 : (0 < x3_1.length) = True := eq_true (by omega); (try rw [show ((0 : Int)).toNat = 0 from rfl] at hx445_0); (try rw [Addr.add_zero'] at hx445_0); replace p445 := eq_true p445; replace q445 := eq_true q445; have hcv27 := own_string (P := Try.prog) Try.underlying22 Try.underlying5 Try.underlying9 (Kd.own_of_R HO_3.out); go_wp2; go_ret; exact ⟨Rf, By⟩
            · rw [if_neg c25] at H; have c25b0 : decide (128 ≤ (rd x3_1 0)) = false := decide_eq_false c25; clear c25; obtain ⟨y446, hy446⟩ : ∃ y_ : List Int, y_ = (([(x4_1) % 256] : List Int)) := ⟨_, rfl⟩; replace H : (if y446.length + x3_1.length < 140737488355328 then (spec_l09Bytes.l0 k1 (y446 ++ x3_1) (x4_1 / 256)) else (none)) = some r := by first | (rw [hy446]; with_reducible exact H) | (have H2_ := (Option.bind_some _ _).symm.trans H; rw [hy446]; with_reducible exact H2_) | (have H2_ := (Option.bind_some _ _).symm.trans H; with_reducible exact H2_) | with_reducible exact H | (rw [hy446]; exact H) | exact H
              have Ny446 := Aside0.mk hy446; clear hy446; by_cases c28 : y446.length + x3_1.length < 140737488355328
              · rw [if_pos c28] at H; have LMc28 := Aside0.mk c28; clear c28; obtain ⟨y449, hy449⟩ : ∃ y_ : List Int, y_ = (y446 ++ x3_1) := ⟨_, rfl⟩; replace H : (spec_l09Bytes.l0 k1 y449 (x4_1 / 256)) = some r := by first | (rw [hy449]; with_reducible exact H) | (have H2_ := (Option.bind_some _ _).symm.trans H; rw [hy449]; with_reducible exact H2_) | (have H2_ := (Option.bind_some _ _).symm.trans H; with_reducible exact H2_) | with_reducible exact H | (rw [hy449]; exact H) | exact H
                have Ny449 := Aside0.mk hy449; clear hy449; have H' := Aside0.mk H; clear H; obtain ⟨Ao29, co29, eo29⟩ := Kd.R_slice HO_3.out; subst eo29; have p445 : 0 ≤ (0 : Int) := (by omega); have q445 : 0 < (x3_1.length : Int) := of_decide_eq_true Da; obtain ⟨ad445, e445, hx445_0⟩ := Kd.at_int (Kd.R_reads' HO_3.out).2.2 0 p445 q445; cases e445
                have qi445 : (0 < x3_1.length) = True := eq_true (by omega); (try rw [show ((0 : Int)).toNat = 0 from rfl] at hx445_0); (try rw [Addr.add_zero'] at hx445_0); replace p445 := eq_true p445; replace q445 := eq_true q445; go_wp2_with (first | ((with_reducible refine gate_dst (N := 31) rfl ?_); refine Kd.R_lit (Kd.int .u8) _ 5 ?hg (N := 31) ?hd (xs := ([(x4_1) % 256] : List Int)) (inner := [.int .u8 ((x4_1) % 256)]) (ok := fun _ => True) (okp := fun _ => True) ?hr ?hp (fun _ hk => hk) trivial (Below.refl _ _) (Nat.le_refl _) (by simp) ?_; (case hd => rfl); (case hg => rfl); (case hr => first | (go_simp; done) | (go_simp; rfl)); (case hp => exact (Reps.one (show Kd.M (Kd.int .u8) _ _ _ ((x4_1) % 256) [.int .u8 ((x4_1) % 256)] from rfl) (Reps.none _ _))); intro v447 w30 ho31 hb hg_ hnew_; clear hg_ hnew_; (first | rw [← Ny446.out] at ho31 | (simp only [Int.reduceToNat] at ho31; rw [← Ny446.out] at ho31)); have n_ := aa (Kd.R_elder' (rR HO_3.out) (Kd.R_base ho31) hb) <| aa (Kd.R_lower (Kd.R_new' ho31 (Kd.R_lt (rR HO_3.out))) (below_size By)) <| Aside0.mk (below_step By hb); clear HO_3 HB; obtain ⟨HO_3, HO448, HB⟩ := n_; clear hb ho31) | ((with_reducible refine gate_builtin (b := .append) (xs := #[.tmp 31, .tmp 32]) rfl ?_); at_builtin; refine Kd.R_append_rows (Kd.int .u8) (w0 := w) w.heap.size rfl (.tmp 31) (.tmp 32) 22 5 (.int .u8 0) 1 rfl Try.underlying22 info5 rfl (by decide) (by omega) v447 y446 x3_1 _ _ _ (fun k_ => some k_ ≠ (.slice (some ad445) x3_1.length co29 : Value).ownBlock) (fun _ => False) rfl rfl ?aO ?aR (fun _ _ h => h) (fun _ h => h.elim) ?aF ?aB ?aS ?aL ?_; (case aR => exact rC (Kd.R_reads' HO_3.out).2.2); (case aB => exact By); (case aF => exact (fun k_ hk => Kd.fresh' (Kd.R_lt (rR HO_3.out)) k_ hk)); (case aO => exact (by (with_reducible repeat (first | apply Kd.R_alloc | apply Kd.R_drewN | apply Kd.R_drew)); exact Kd.R_mono HO448.out (fun _ hk => hk.2))); (case aS => exact (below_size By)); (case aL => have := LMc28.out; omega); intro v450 w32 ho hb hg hat; rw [← Ny449.out] at ho; have n0_ := Aside0.mk (Kd.R_after (ok := (fun _ => True)) (rR HO_3.out) hg hat); have n1_ := Aside0.mk (hb); have n2_ := Aside0.mk (ho); clear HO_3; clear HB; clear HO448; have HO_3 := n0_; have HB := n1_; have HO451 := n2_; clear n0_ n1_ n2_; clear ho hb hg hat)); go_roundg k1
                case measure => have := HK1.out; omega
                case rel => exact ⟨(y449), (x4_1 / 256), (by first | rfl | (simp; done) | (simp [*]; done)), H', ⟨by have := HK1.out; omega⟩, ⟨by (with_reducible repeat (first | apply Kd.R_alloc | apply Kd.R_drewN | apply Kd.R_drew)); exact Kd.R_mono HO451.out (fun _ hk => trivial)⟩, ⟨By⟩⟩
              · rw [if_neg c28] at H; exact absurd H (by simp)
          · rw [if_neg c24] at H; exact absurd H (by simp)
        · rw [if_neg c23] at H; have c23b0 : (x4_1 == (-1)) = false := beq_eq_false_iff_ne.mpr c23; have c23b1 : (x4_1 != (-1)) = true := bne_iff_ne.mpr c23; obtain ⟨y452, hy452⟩ : ∃ y_ : List Int, y_ = (([(x4_1) % 256] : List Int)) := ⟨_, rfl⟩; replace H : (if y452.length + x3_1.length < 140737488355328 then (spec_l09Bytes.l0 k1 (y452 ++ x3_1) (x4_1 / 256)) else (none)) = some r := by first | (rw [hy452]; with_reducible exact H) | (have H2_ := (Option.bind_some _ _).symm.trans H; rw [hy452]; with_reducible exact H2_) | (have H2_ := (Option.bind_some _ _).symm.trans H; with_reducible exact H2_) | with_reducible exact H | (rw [hy452]; exact H) | exact H
          have Ny452 := Aside0.mk hy452; clear hy452; by_cases c33 : y452.length + x3_1.length < 140737488355328
          · rw [if_pos c33] at H; have LMc33 := Aside0.mk c33; clear c33; obtain ⟨y455, hy455⟩ : ∃ y_ : List Int, y_ = (y452 ++ x3_1) := ⟨_, rfl⟩; replace H : (spec_l09Bytes.l0 k1 y455 (x4_1 / 256)) = some r := by first | (rw [hy455]; with_reducible exact H) | (have H2_ := (Option.bind_some _ _).symm.trans H; rw [hy455]; with_reducible exact H2_) | (have H2_ := (Option.bind_some _ _).symm.trans H; with_reducible exact H2_) | with_reducible exact H | (rw [hy455]; exact H) | exact H
            have Ny455 := Aside0.mk hy455; clear hy455; have H' := Aside0.mk H; clear H; go_wp2_with (first | ((with_reducible refine gate_dst (N := 31) rfl ?_); refine Kd.R_lit (Kd.int .u8) _ 5 ?hg (N := 31) ?hd (xs := ([(x4_1) % 256] : List Int)) (inner := [.int .u8 ((x4_1) % 256)]) (ok := fun _ => True) (okp := fun _ => True) ?hr ?hp (fun _ hk => hk) trivial (Below.refl _ _) (Nat.le_refl _) (by simp) ?_; (case hd => rfl); (case hg => rfl); (case hr => first | (go_simp; done) | (go_simp; rfl)); (case hp => exact (Reps.one (show Kd.M (Kd.int .u8) _ _ _ ((x4_1) % 256) [.int .u8 ((x4_1) % 256)] from rfl) (Reps.none _ _))); intro v453 w34 ho35 hb hg_ hnew_; clear hg_ hnew_; (first | rw [← Ny452.out] at ho35 | (simp only [Int.reduceToNat] at ho35; rw [← Ny452.out] at ho35)); have n_ := aa (Kd.R_elder' (rR HO_3.out) (Kd.R_base ho35) hb) <| aa (Kd.R_lower (Kd.R_new' ho35 (Kd.R_lt (rR HO_3.out))) (below_size By)) <| Aside0.mk (below_step By hb); clear HO_3 HB; obtain ⟨HO_3, HO454, HB⟩ := n_; clear hb ho35; obtain ⟨Ao37, co37, eo37⟩ := Kd.R_slice HO_3.out; subst eo37) | ((with_reducible refine gate_builtin (b := .append) (xs := #[.tmp 31, .tmp 32]) rfl ?_); at_builtin; refine Kd.R_append_rows (Kd.int .u8) (w0 := w) w.heap.size rfl (.tmp 31) (.tmp 32) 22 5 (.int .u8 0) 1 rfl Try.underlying22 info5 rfl (by decide) (by omega) v453 y452 x3_1 _ _ _ (fun k_ => some k_ ≠ (.slice Ao37 x3_1.length co37 : Value).ownBlock) (fun _ => False) rfl rfl ?aO ?aR (fun _ _ h => h) (fun _ h => h.elim) ?aF ?aB ?aS ?aL ?_; (case aR => exact rC (Kd.R_reads' HO_3.out).2.2); (case aB => exact By); (case aF => exact (fun k_ hk => Kd.fresh' (Kd.R_lt (rR HO_3.out)) k_ hk)); (case aO => exact (by (with_reducible repeat (first | apply Kd.R_alloc | apply Kd.R_drewN | apply Kd.R_drew)); exact Kd.R_mono HO454.out (fun _ hk => hk.2))); (case aS => exact (below_size By)); (case aL => have := LMc33.out; omega); intro v456 w36 ho hb hg hat; rw [← Ny455.out] at ho; have n0_ := Aside0.mk (Kd.R_after (ok := (fun _ => True)) (rR HO_3.out) hg hat); have n1_ := Aside0.mk (hb); have n2_ := Aside0.mk (ho); clear HO_3; clear HB; clear HO454; have HO_3 := n0_; have HB := n1_; have HO457 := n2_; clear n0_ n1_ n2_; clear ho hb hg hat)); go_roundg k1
            case measure => have := HK1.out; omega
            case rel => exact ⟨(y455), (x4_1 / 256), (by first | rfl | (simp; done) | (simp [*]; done)), H', ⟨by have := HK1.out; omega⟩, ⟨by (with_reducible repeat (first | apply Kd.R_alloc | apply Kd.R_drewN | apply Kd.R_drew)); exact Kd.R_mono HO457.out (fun _ hk => trivial)⟩, ⟨By⟩⟩
          · rw [if_neg c33] at H; exact absurd H (by simp)

set_option linter.unusedVariables false
set_option linter.unusedSimpArgs false

/-! ### spec_BerInt: function 20 -/
def spec_BerInt.f (k : Nat) (a0 : Int) (a1 : Int) : Option (ByteArray) := (spec_l09Tag.f a0).bind fun t458 => (if t458 = true then ((spec_l09Bytes.f k a1).bind fun t459 => ((spec_l09Put.f a0 t459).bind fun t460 => (some t460))) else (some (⟨#[]⟩ : ByteArray)))
theorem spec_BerInt.mono : ∀ a0 a1 k, LeO (spec_BerInt.f k a0 a1) (spec_BerInt.f (k + 1) a0 a1) := by
  intro a0 a1 k; unfold spec_BerInt.f; repeat' first
      | (with_reducible exact spec_l09Bytes.mono _ _)
      | (with_reducible exact LeO.refl _)
      | (with_reducible exact LeO.none _)
      | (with_reducible refine LeO.ite ?_ ?_)
      | (with_reducible refine LeO.bind ?_ (fun _ => ?_))
set_option maxHeartbeats 8000000 in
set_option maxRecDepth 100000 in
theorem spec_BerInt.calls (k : Nat) (a0 : Int) (a1 : Int) (r : ByteArray) (w : World) (h : spec_BerInt.f k a0 a1 = some r) :
    Calls Try.prog 20 #[.int .i64 a0, .int .i64 a1] w fun e w' => e = .returned (.string r) ∧ Below w.heap.size w w' := by
  have HB := Aside0.mk (Below.refl w.heap.size w); have H : ((spec_l09Tag.f a0).bind fun t458 => (if t458 = true then ((spec_l09Bytes.f k a1).bind fun t459 => ((spec_l09Put.f a0 t459).bind fun t460 => (some t460))) else (some (⟨#[]⟩ : ByteArray)))) = some r := h; clear h; replace H := Option.bind_eq_some_iff.mp H; obtain ⟨t458, A30, H⟩ := H; (try dsimp only at H); have A3 := Aside0.mk A30; clear A30; by_cases c4 : t458 = true
  · subst c4; rw [if_pos rfl] at H; replace H := Option.bind_eq_some_iff.mp H; obtain ⟨t459, A50, H⟩ := H; (try dsimp only at H); have A5 := Aside0.mk A50; clear A50; replace H := Option.bind_eq_some_iff.mp H; obtain ⟨t460, A60, H⟩ := H; (try dsimp only at H); have A6 := Aside0.mk A60; clear A60; obtain rfl := Option.some.inj H; go_enter Try.func20, Try.ntmps20; go_wp2_with (first | ((with_reducible refine gate_callee (f := 42) rfl ?_); refine goesL_ (some 6) rfl rfl Try.func42 (by kernel_rfl) rfl #[.int .i64 a0] rfl Ag ?_; (with_reducible refine (spec_l09Tag.calls a0 true _ A3.out).mono ?_); rintro e w' ⟨rfl, ⟨nd, rfl⟩⟩; refine ⟨_, rfl, ?_⟩) | ((with_reducible refine gate_callee (f := 56) rfl ?_); refine goesL_ (some 10) rfl rfl Try.func56 (by kernel_rfl) rfl #[.int .i64 a1] rfl Ag ?_; (with_reducible refine (spec_l09Bytes.calls k a1 t459 _ A5.out).mono ?_); rintro e w7 ⟨rfl, hb⟩; refine ⟨_, rfl, ?_⟩; have n0_ := Aside0.mk (below_step By hb); clear HB; have HB := n0_; clear n0_; (try clear hb); (try clear hb2); (try clear hk); (try clear hi)) | ((with_reducible refine gate_callee (f := 43) rfl ?_); refine goesL_ (some 11) rfl rfl Try.func43 (by kernel_rfl) rfl #[.int .i64 a0, .string t459] rfl Ag ?_; (with_reducible refine (spec_l09Put.calls a0 t459 t460 _ A6.out).mono ?_); rintro e w8 ⟨rfl, hb⟩; refine ⟨_, rfl, ?_⟩; have n0_ := Aside0.mk (below_step By hb); clear HB; have HB := n0_; clear n0_; (try clear hb); (try clear hb2); (try clear hk); (try clear hi))); go_ret; exact ⟨Rf, By⟩
  · replace c4 := Bool.eq_false_iff.mpr c4; subst c4; rw [if_neg (show ¬ (false = true) by decide)] at H; obtain rfl := Option.some.inj H; go_enter Try.func20, Try.ntmps20; go_wp2_with (first | ((with_reducible refine gate_callee (f := 42) rfl ?_); refine goesL_ (some 6) rfl rfl Try.func42 (by kernel_rfl) rfl #[.int .i64 a0] rfl Ag ?_; (with_reducible refine (spec_l09Tag.calls a0 false _ A3.out).mono ?_); rintro e w' ⟨rfl, ⟨nd, rfl⟩⟩; refine ⟨_, rfl, ?_⟩)); go_ret; exact ⟨Rf, By⟩

set_option linter.unusedVariables false
set_option linter.unusedSimpArgs false

/-! ### impl_readInt: function 57 -/
mutual
def impl_readInt.j0 : Nat → ByteArray → Bool → Option (Int × Bool)
  | 0, _, _ => none
  | k + 1, x0, x13 => if x13 = true then (some (0, false)) else (if 0 < (x0.size : Int) then (impl_readInt.l0 k x0 (wrap64 (IntKind.i8.wrap (bt x0 0))) 1) else (none))
def impl_readInt.l0 : Nat → ByteArray → Int → Int → Option (Int × Bool)
  | 0, _, _, _ => none
  | k + 1, x0, x4, x5 => if x5 < (x0.size : Int) then (if 0 ≤ x5 then (impl_readInt.l0 k x0 (Go.bits .or .i64 (wrap64 (x4 * 256)) (wrap64 (bt x0 x5))) (wrap64 (x5 + 1))) else (none)) else ((impl_intBody.f k x4).bind fun t486 => (some (x4, (t486.toList == x0.toList))))
end
def impl_readInt.f (k : Nat) (a0 : ByteArray) : Option (Int × Bool) := if (a0.size : Int) < 1 then (impl_readInt.j0 k a0 true) else (impl_readInt.j0 k a0 (decide ((a0.size : Int) > 8)))
theorem impl_readInt.mono_l : ∀ k, (∀ y0 y1, LeO (impl_readInt.j0 k y0 y1) (impl_readInt.j0 (k + 1) y0 y1)) ∧ (∀ y0 y1 y2, LeO (impl_readInt.l0 k y0 y1 y2) (impl_readInt.l0 (k + 1) y0 y1 y2))
  | 0 => ⟨fun _ _ r h => by simp [impl_readInt.j0] at h, fun _ _ _ r h => by simp [impl_readInt.l0] at h⟩
  | k + 1 => by
    obtain ⟨ih0, ih1⟩ := impl_readInt.mono_l k; refine ⟨?_, ?_⟩
    · intro y0 y1; unfold impl_readInt.j0; repeat' first
      | (with_reducible exact ih0 _ _)
      | (with_reducible exact ih1 _ _ _)
      | (with_reducible exact impl_intBody.mono _ _)
      | (with_reducible exact LeO.refl _)
      | (with_reducible exact LeO.none _)
      | (with_reducible refine LeO.ite ?_ ?_)
      | (with_reducible refine LeO.bind ?_ (fun _ => ?_))
    · intro y0 y1 y2; unfold impl_readInt.l0; repeat' first
      | (with_reducible exact ih0 _ _)
      | (with_reducible exact ih1 _ _ _)
      | (with_reducible exact impl_intBody.mono _ _)
      | (with_reducible exact LeO.refl _)
      | (with_reducible exact LeO.none _)
      | (with_reducible refine LeO.ite ?_ ?_)
      | (with_reducible refine LeO.bind ?_ (fun _ => ?_))
theorem impl_readInt.mono : ∀ a0 k, LeO (impl_readInt.f k a0) (impl_readInt.f (k + 1) a0) := by
  intro a0 k; obtain ⟨ih0, ih1⟩ := impl_readInt.mono_l k; unfold impl_readInt.f; repeat' first
      | (with_reducible exact ih0 _ _)
      | (with_reducible exact ih1 _ _ _)
      | (with_reducible exact impl_intBody.mono _ _)
      | (with_reducible exact LeO.refl _)
      | (with_reducible exact LeO.none _)
      | (with_reducible refine LeO.ite ?_ ?_)
      | (with_reducible refine LeO.bind ?_ (fun _ => ?_))
set_option maxHeartbeats 8000000 in
set_option maxRecDepth 100000 in
theorem impl_readInt.calls (k : Nat) (a0 : ByteArray) (r1 : Int) (r2 : Bool) (w : World) (h : impl_readInt.f k a0 = some (r1, r2)) :
    Calls Try.prog 57 #[.string a0] w fun e w' => e = .returned (.tuple #[.int .i64 r1, .bool r2]) ∧ Below w.heap.size w w' := by
  have HB := Aside0.mk (Below.refl w.heap.size w); have H : (if (a0.size : Int) < 1 then (impl_readInt.j0 k a0 true) else (impl_readInt.j0 k a0 (decide ((a0.size : Int) > 8)))) = some (r1, r2) := h; clear h; have HC2 := Aside0.mk H; clear H; go_enter Try.func57, Try.ntmps57; go_upto_region 1 with (fail); go_cut [13] (fun v13 wc => ∃ (kq : Nat) (x13_1 : Bool), v13 = .bool x13_1 ∧ Aside0 (impl_readInt.j0 kq a0 x13_1 = some (r1, r2)) ∧ Aside0 (kq ≤ k) ∧ Aside0 (Below w.heap.size w wc))
  case first =>
    have H := HC2.out; clear HC2; by_cases c3 : (a0.size : Int) < 1
    · rw [if_pos c3] at H; have c3b0 : decide ((a0.size : Int) < 1) = true := decide_eq_true c3; have c3b1 : decide (a0.size < 1) = true := decide_eq_true (by omega); clear c3; (first | rw [c3b0] | (simp only [i64_w, i32_w]; rw [c3b0]) | skip); have H' := Aside0.mk H; clear H; go_wp2; go_meet
      case rel => exact ⟨_, (true), (by first | rfl | (simp; done) | (simp [*]; done)), H', ⟨by first | omega | exact Nat.le_refl _⟩, ⟨By⟩⟩
    · rw [if_neg c3] at H; have c3b0 : decide ((a0.size : Int) < 1) = false := decide_eq_false c3; have c3b1 : decide (a0.size < 1) = false := decide_eq_false (by omega); clear c3; (first | rw [c3b0] | (simp only [i64_w, i32_w]; rw [c3b0]) | skip); have H' := Aside0.mk H; clear H; go_wp2; go_meet
      case rel => exact ⟨_, (decide ((a0.size : Int) > 8)), (by first | rfl | (simp; done) | (simp [*]; done)), H', ⟨by first | omega | exact Nat.le_refl _⟩, ⟨By⟩⟩
  case rest =>
    clear HC2; try clear p2
    try clear c3
    try clear c3b0
    try clear c3b1
    obtain ⟨kq, x13_1, rfl, HA, HJ1, HB⟩ := hcut; cases kq with
    | zero => exact absurd HA.out (by simp [impl_readInt.j0])
    | succ kj1 =>
      have H := HA.out; clear HA; simp only [impl_readInt.j0] at H; by_cases c4 : x13_1 = true
      · subst c4; have H1 : (some (0, false)) = some (r1, r2) := by rw [if_pos rfl] at H; exact H
        clear H; have H := H1; clear H1; simp only [Option.some.injEq, Prod.mk.injEq] at H; obtain ⟨rfl, rfl⟩ := H; go_wp2; go_ret2; exact ⟨Rf, By⟩
      · replace c4 := Bool.eq_false_iff.mpr c4; subst c4; have H1 : (if 0 < (a0.size : Int) then (impl_readInt.l0 kj1 a0 (wrap64 (IntKind.i8.wrap (bt a0 0))) 1) else (none)) = some (r1, r2) := by rw [if_neg (show ¬ (false = true) by decide)] at H; exact H
        clear H; have H := H1; clear H1; by_cases c5 : 0 < (a0.size : Int)
        · rw [if_pos c5] at H; have c5b0 : decide (0 < (a0.size : Int)) = true := decide_eq_true c5; have c5b1 : decide (0 < a0.size) = true := decide_eq_true (by omega); clear c5; have H' := Aside0.mk H; clear H; have p6 : 0 ≤ (0 : Int) := (by omega); have q6 : 0 < a0.size := (by have : (0 : Int) < (a0.size : Int) := of_decide_eq_true Da; omega); have hx6 : ∀ h : 0 < a0.size, ((a0[0]'h).toNat : Int) = bt a0 0 := bt_at a0 0; clear p6; have qi6 : (0 < (a0.size : Int)) = True := eq_true (of_decide_eq_true Da); replace q6 := eq_true q6; go_wp2; go_loopg [4, 5] kj1 (fun kq v4 v5 w' => ∃ (x4_2 : Int) (x5_2 : Int), v4 = .int .i64 x4_2 ∧ v5 = .int .i64 x5_2 ∧ Aside0 (impl_readInt.l0 kq a0 x4_2 x5_2 = some (r1, r2)) ∧ Aside0 (kq ≤ kj1) ∧ Aside0 (Below w.heap.size w w'))
          case atStart => exact ⟨(wrap64 (IntKind.i8.wrap (bt a0 0))), (1), (by first | rfl | (simp; done) | (simp [*]; done)), (by first | rfl | (simp; done) | (simp [*]; done)), H', ⟨Nat.le_refl _⟩, ⟨By⟩⟩
          case round =>
            clear H'; try clear p2
            try clear c3
            try clear c3b0
            try clear c3b1
            try clear c4
            try clear c5
            try clear c5b0
            try clear c5b1
            try clear p6
            try clear q6
            try clear hx6
            try clear qi6
            try clear p2
            try clear p6
            try clear q6
            obtain ⟨x4_2, x5_2, rfl, rfl, HA, HK2, HB⟩ := hrel; cases gk with
            | zero => exact absurd HA.out (by simp [impl_readInt.l0])
            | succ k2 =>
              have H := HA.out; clear HA; simp only [impl_readInt.l0] at H; by_cases c7 : x5_2 < (a0.size : Int)
              · rw [if_pos c7] at H; have c7b0 : decide (x5_2 < (a0.size : Int)) = true := decide_eq_true c7; clear c7; by_cases c8 : 0 ≤ x5_2
                · rw [if_pos c8] at H; have c8b0 : decide (0 ≤ x5_2) = true := decide_eq_true c8; clear c8; have H' := Aside0.mk H; clear H; have p9 : 0 ≤ (x5_2 : Int) := of_decide_eq_true Da; have q9 : x5_2 < (a0.size : Int) := of_decide_eq_true Da; have hx9 := bt_at a0 x5_2; replace p9 := eq_true p9; replace q9 := eq_true q9; go_wp2; go_roundg k2
                  case measure => have := HJ1.out; have := HK2.out; omega
                  case rel => exact ⟨(Go.bits .or .i64 (wrap64 (x4_2 * 256)) (wrap64 (bt a0 x5_2))), (wrap64 (x5_2 + 1)), (by first | rfl | (simp; done) | (simp [*]; done)), (by first | rfl | (simp; done) | (simp [*]; done)), H', ⟨by have := HJ1.out; have := HK2.out; omega⟩, ⟨By⟩⟩
                · rw [if_neg c8] at H; exact absurd H (by simp)
              · rw [if_neg c7] at H; have c7b0 : decide (x5_2 < (a0.size : Int)) = false := decide_eq_false c7; clear c7; replace H := Option.bind_eq_some_iff.mp H; obtain ⟨t486, A100, H⟩ := H; replace H : (some (x4_2, (t486.toList == a0.toList))) = some (r1, r2) := H; have A10 := Aside0.mk A100; clear A100; simp only [Option.some.injEq, Prod.mk.injEq] at H; obtain ⟨rfl, rfl⟩ := H; go_wp2_with (first | ((with_reducible refine gate_callee (f := 55) rfl ?_); refine goesL_ (some 33) rfl rfl Try.func55 (by kernel_rfl) rfl #[.int .i64 x4_2] rfl Ag ?_; (with_reducible refine (impl_intBody.calls k2 x4_2 t486 _ A10.out).mono ?_); rintro e w11 ⟨rfl, hb⟩; refine ⟨_, rfl, ?_⟩; have n0_ := Aside0.mk (below_step By hb); clear HB; have HB := n0_; clear n0_; (try clear hb); (try clear hb2); (try clear hk); (try clear hi))); go_ret2; exact ⟨Rf, By⟩
        · rw [if_neg c5] at H; exact absurd H (by simp)

set_option linter.unusedVariables false
set_option linter.unusedSimpArgs false

/-! ### impl_BerIntRead: function 21 -/
def impl_BerIntRead.f (k : Nat) (a0 : ByteArray) : Option (Int × Int × Int) := (impl_isLong.f k (([a0] : List ByteArray))).bind fun t491 => (if t491 = true then (some (0, 0, 2)) else ((impl_readInt.f k a0).bind fun bt492 => (if bt492.2 = true then (some (bt492.1, 0, 0)) else (some (0, 0, 3)))))
theorem impl_BerIntRead.mono : ∀ a0 k, LeO (impl_BerIntRead.f k a0) (impl_BerIntRead.f (k + 1) a0) := by
  intro a0 k; unfold impl_BerIntRead.f; repeat' first
      | (with_reducible exact impl_isLong.mono _ _)
      | (with_reducible exact impl_readInt.mono _ _)
      | (with_reducible exact LeO.refl _)
      | (with_reducible exact LeO.none _)
      | (with_reducible refine LeO.ite ?_ ?_)
      | (with_reducible refine LeO.bind ?_ (fun _ => ?_))
set_option maxHeartbeats 8000000 in
set_option maxRecDepth 100000 in
theorem impl_BerIntRead.calls (k : Nat) (a0 : ByteArray) (r1 : Int) (r2 : Int) (r3 : Int) (w : World) (h : impl_BerIntRead.f k a0 = some (r1, r2, r3)) :
    Calls Try.prog 21 #[.string a0] w fun e w' => e = .returned (.agg #[.int .i64 r1, .int .i64 r2, .int .i64 r3]) ∧ Below w.heap.size w w' := by
  have hu44 := Try.underlying44; have HB := Aside0.mk (Below.refl w.heap.size w); have H : ((impl_isLong.f k (([a0] : List ByteArray))).bind fun t491 => (if t491 = true then (some (0, 0, 2)) else ((impl_readInt.f k a0).bind fun bt492 => (if bt492.2 = true then (some (bt492.1, 0, 0)) else (some (0, 0, 3)))))) = some (r1, r2, r3) := h; clear h; obtain ⟨y488, hy488⟩ : ∃ y_ : List ByteArray, y_ = (([a0] : List ByteArray)) := ⟨_, rfl⟩; replace H : ((impl_isLong.f k y488).bind fun t491 => (if t491 = true then (some (0, 0, 2)) else ((impl_readInt.f k a0).bind fun bt492 => (if bt492.2 = true then (some (bt492.1, 0, 0)) else (some (0, 0, 3)))))) = some (r1, r2, r3) := by first | (rw [hy488]; with_reducible exact H) | (have H2_ := (Option.bind_some _ _).symm.trans H; rw [hy488]; with_reducible exact H2_) | (have H2_ := (Option.bind_some _ _).symm.trans H; with_reducible exact H2_) | with_reducible exact H | (rw [hy488]; exact H) | exact H
  have Ny488 := Aside0.mk hy488; clear hy488; replace H := Option.bind_eq_some_iff.mp H; obtain ⟨t491, A20, H⟩ := H; replace H : (if t491 = true then (some (0, 0, 2)) else ((impl_readInt.f k a0).bind fun bt492 => (if bt492.2 = true then (some (bt492.1, 0, 0)) else (some (0, 0, 3))))) = some (r1, r2, r3) := H; have A2 := Aside0.mk A20; clear A20; by_cases c3 : t491 = true
  · subst c3; have H1 : (some (0, 0, 2)) = some (r1, r2, r3) := by rw [if_pos rfl] at H; exact H
    clear H; have H := H1; clear H1; simp only [Option.some.injEq, Prod.mk.injEq] at H; obtain ⟨rfl, rfl, rfl⟩ := H; go_enter Try.func21, Try.ntmps21; go_wp2_with (first | ((with_reducible refine gate_dst (N := 2) rfl ?_); refine box_event ?hg (N := 2) ?hd (cs := #[.int .i64 0, .int .i64 0, .int .i64 0]) (t := 44) ?hr ?_; (case hd => rfl); (case hg => rfl); (case hr => first | (go_simp; done) | (go_simp; rfl)); intro gb487 hg w4 hbox hb; have n_ := aa (below_step By hb) <| aa (hbox) <| aa ((by rw [hg]; exact (below_size By) : w.heap.size ≤ gb487)) <| Aside0.mk ((by rw [hg]; exact (below_size By) : w.heap.size ≤ gb487)); clear HB; obtain ⟨HB, BK487, GW487, GE487⟩ := n_; clear hb hbox hg) | ((with_reducible refine gate_dst (N := 6) rfl ?_); refine Kd.R_lit Kd.string _ 9 ?hg (N := 6) ?hd (xs := ([a0] : List ByteArray)) (inner := [.string a0]) (ok := fun _ => True) (okp := fun _ => True) ?hr ?hp (fun _ hk => hk) trivial (Below.refl _ _) (Nat.le_refl _) (by simp) ?_; (case hd => rfl); (case hg => rfl); (case hr => first | (go_simp; done) | (go_simp; rfl)); (case hp => exact (Reps.one (show Kd.M Kd.string _ _ _ a0 [.string a0] from rfl) (Reps.none _ _))); intro v489 w5 ho6 hb hg_ hnew_; clear hg_ hnew_; (first | rw [← Ny488.out] at ho6 | (simp only [Int.reduceToNat] at ho6; rw [← Ny488.out] at ho6)); have n_ := aa (Kd.R_lower ho6 (below_size By)) <| aa (bb BK487.out hb) <| Aside0.mk (below_step By hb); clear BK487 HB; obtain ⟨HO490, BK487, HB⟩ := n_; clear hb ho6; obtain ⟨Ao7, co7, eo7⟩ := Kd.R_slice HO490.out; subst eo7) | ((with_reducible refine gate_callee (f := 44) rfl ?_); refine goesL_ (some 7) rfl rfl Try.func44 (by kernel_rfl) rfl #[.slice Ao7 y488.length co7] rfl Ag ?_; (with_reducible refine (impl_isLong.calls k _ _ y488 true _ ?side1 ?side2 A2.out).mono ?_); (case side1 => exact rC (Kd.R_reads' HO490.out).2.2); (case side2 => exact (Kd.R_reads' HO490.out).2.1); rintro e w' ⟨rfl, ⟨nd, rfl⟩⟩; refine ⟨_, rfl, ?_⟩; (try (rw [drewN_self w5]; generalize hq_ : World.drewN w5 _ = w5; have n0_ : Aside0 (Kd.R Kd.string 9 w5 w.heap.size (fun _ => True) (.slice Ao7 y488.length co7) y488) := ⟨by rw [← hq_]; exact (rR HO490.out)⟩; have n1_ : Aside0 (w5.heap[gb487]? = some (.cells #[.int .i64 0, .int .i64 0, .int .i64 0] 44 (0, 0))) := ⟨by rw [← hq_]; exact Pk⟩; have n2_ : Aside0 (Below w.heap.size w w5) := ⟨by rw [← hq_]; exact By⟩; clear HO490 BK487 HB hq_; have HO490 := n0_; have BK487 := n1_; have HB := n2_; clear n0_ n1_ n2_)); have ⟨hcz8_0, hcz8_1, hcz8_2⟩ := cq3 BK487.out; have ⟨hfz8_0, hfz8_1, hfz8_2⟩ := fq3 BK487.out)); refine bodyPost_ret (results_cell_row rfl _ _ gb487 44 #[.int .i64 0, .int .i64 0, .int .i64 2] (0, 0) _ rfl (pq3 Pk) Try.underlying44 rfl (by kernel_rfl)) rfl ?_; exact ⟨Rf, By⟩
  · replace c3 := Bool.eq_false_iff.mpr c3; subst c3; have H1 : ((impl_readInt.f k a0).bind fun bt492 => (if bt492.2 = true then (some (bt492.1, 0, 0)) else (some (0, 0, 3)))) = some (r1, r2, r3) := by rw [if_neg (show ¬ (false = true) by decide)] at H; exact H
    clear H; have H := H1; clear H1; replace H := Option.bind_eq_some_iff.mp H; obtain ⟨⟨t492, t493⟩, A90, H⟩ := H; replace H : (if t493 = true then (some (t492, 0, 0)) else (some (0, 0, 3))) = some (r1, r2, r3) := H; have A9 := Aside0.mk A90; clear A90; by_cases c10 : t493 = true
    · subst c10; have H1 : (some (t492, 0, 0)) = some (r1, r2, r3) := by rw [if_pos rfl] at H; exact H
      clear H; have H := H1; clear H1; simp only [Option.some.injEq, Prod.mk.injEq] at H; obtain ⟨rfl, rfl, rfl⟩ := H; go_enter Try.func21, Try.ntmps21; go_wp2_with (first | ((with_reducible refine gate_dst (N := 2) rfl ?_); refine box_event ?hg (N := 2) ?hd (cs := #[.int .i64 0, .int .i64 0, .int .i64 0]) (t := 44) ?hr ?_; (case hd => rfl); (case hg => rfl); (case hr => first | (go_simp; done) | (go_simp; rfl)); intro gb487 hg w11 hbox hb; have n_ := aa (below_step By hb) <| aa (hbox) <| aa ((by rw [hg]; exact (below_size By) : w.heap.size ≤ gb487)) <| Aside0.mk ((by rw [hg]; exact (below_size By) : w.heap.size ≤ gb487)); clear HB; obtain ⟨HB, BK487, GW487, GE487⟩ := n_; clear hb hbox hg) | ((with_reducible refine gate_dst (N := 6) rfl ?_); refine Kd.R_lit Kd.string _ 9 ?hg (N := 6) ?hd (xs := ([a0] : List ByteArray)) (inner := [.string a0]) (ok := fun _ => True) (okp := fun _ => True) ?hr ?hp (fun _ hk => hk) trivial (Below.refl _ _) (Nat.le_refl _) (by simp) ?_; (case hd => rfl); (case hg => rfl); (case hr => first | (go_simp; done) | (go_simp; rfl)); (case hp => exact (Reps.one (show Kd.M Kd.string _ _ _ a0 [.string a0] from rfl) (Reps.none _ _))); intro v489 w12 ho13 hb hg_ hnew_; clear hg_ hnew_; (first | rw [← Ny488.out] at ho13 | (simp only [Int.reduceToNat] at ho13; rw [← Ny488.out] at ho13)); have n_ := aa (Kd.R_lower ho13 (below_size By)) <| aa (bb BK487.out hb) <| Aside0.mk (below_step By hb); clear BK487 HB; obtain ⟨HO490, BK487, HB⟩ := n_; clear hb ho13; obtain ⟨Ao14, co14, eo14⟩ := Kd.R_slice HO490.out; subst eo14) | ((with_reducible refine gate_callee (f := 44) rfl ?_); refine goesL_ (some 7) rfl rfl Try.func44 (by kernel_rfl) rfl #[.slice Ao14 y488.length co14] rfl Ag ?_; (with_reducible refine (impl_isLong.calls k _ _ y488 false _ ?side1 ?side2 A2.out).mono ?_); (case side1 => exact rC (Kd.R_reads' HO490.out).2.2); (case side2 => exact (Kd.R_reads' HO490.out).2.1); rintro e w' ⟨rfl, ⟨nd, rfl⟩⟩; refine ⟨_, rfl, ?_⟩; (try (rw [drewN_self w12]; generalize hq_ : World.drewN w12 _ = w12; have n0_ : Aside0 (Kd.R Kd.string 9 w12 w.heap.size (fun _ => True) (.slice Ao14 y488.length co14) y488) := ⟨by rw [← hq_]; exact (rR HO490.out)⟩; have n1_ : Aside0 (w12.heap[gb487]? = some (.cells #[.int .i64 0, .int .i64 0, .int .i64 0] 44 (0, 0))) := ⟨by rw [← hq_]; exact Pk⟩; have n2_ : Aside0 (Below w.heap.size w w12) := ⟨by rw [← hq_]; exact By⟩; clear HO490 BK487 HB hq_; have HO490 := n0_; have BK487 := n1_; have HB := n2_; clear n0_ n1_ n2_))) | ((with_reducible refine gate_callee (f := 57) rfl ?_); refine goesL_ (some 11) rfl rfl Try.func57 (by kernel_rfl) rfl #[.string a0] rfl Ag ?_; (with_reducible refine (impl_readInt.calls k a0 t492 true _ A9.out).mono ?_); rintro e w15 ⟨rfl, hb⟩; refine ⟨_, rfl, ?_⟩; have n_ := aa (Kd.R_below (rR HO490.out) hb) <| aa (bb BK487.out hb) <| Aside0.mk (below_step By hb); clear HO490 BK487 HB; obtain ⟨HO490, BK487, HB⟩ := n_; (try clear hb); (try clear hb2); (try clear hk); (try clear hi); have ⟨hcz16_0, hcz16_1, hcz16_2⟩ := cq3 BK487.out; have ⟨hfz16_0, hfz16_1, hfz16_2⟩ := fq3 BK487.out)); refine bodyPost_ret (results_cell_row rfl _ _ gb487 44 #[.int .i64 t492, .int .i64 0, .int .i64 0] (0, 0) _ rfl (pq3 Pk) Try.underlying44 rfl (by kernel_rfl)) rfl ?_; exact ⟨Rf, By⟩
    · replace c10 := Bool.eq_false_iff.mpr c10; subst c10; have H1 : (some (0, 0, 3)) = some (r1, r2, r3) := by rw [if_neg (show ¬ (false = true) by decide)] at H; exact H
      clear H; have H := H1; clear H1; simp only [Option.some.injEq, Prod.mk.injEq] at H; obtain ⟨rfl, rfl, rfl⟩ := H; go_enter Try.func21, Try.ntmps21; go_wp2_with (first | ((with_reducible refine gate_dst (N := 2) rfl ?_); refine box_event ?hg (N := 2) ?hd (cs := #[.int .i64 0, .int .i64 0, .int .i64 0]) (t := 44) ?hr ?_; (case hd => rfl); (case hg => rfl); (case hr => first | (go_simp; done) | (go_simp; rfl)); intro gb487 hg w17 hbox hb; have n_ := aa (below_step By hb) <| aa (hbox) <| aa ((by rw [hg]; exact (below_size By) : w.heap.size ≤ gb487)) <| Aside0.mk ((by rw [hg]; exact (below_size By) : w.heap.size ≤ gb487)); clear HB; obtain ⟨HB, BK487, GW487, GE487⟩ := n_; clear hb hbox hg) | ((with_reducible refine gate_dst (N := 6) rfl ?_); refine Kd.R_lit Kd.string _ 9 ?hg (N := 6) ?hd (xs := ([a0] : List ByteArray)) (inner := [.string a0]) (ok := fun _ => True) (okp := fun _ => True) ?hr ?hp (fun _ hk => hk) trivial (Below.refl _ _) (Nat.le_refl _) (by simp) ?_; (case hd => rfl); (case hg => rfl); (case hr => first | (go_simp; done) | (go_simp; rfl)); (case hp => exact (Reps.one (show Kd.M Kd.string _ _ _ a0 [.string a0] from rfl) (Reps.none _ _))); intro v489 w18 ho19 hb hg_ hnew_; clear hg_ hnew_; (first | rw [← Ny488.out] at ho19 | (simp only [Int.reduceToNat] at ho19; rw [← Ny488.out] at ho19)); have n_ := aa (Kd.R_lower ho19 (below_size By)) <| aa (bb BK487.out hb) <| Aside0.mk (below_step By hb); clear BK487 HB; obtain ⟨HO490, BK487, HB⟩ := n_; clear hb ho19; obtain ⟨Ao20, co20, eo20⟩ := Kd.R_slice HO490.out; subst eo20) | ((with_reducible refine gate_callee (f := 44) rfl ?_); refine goesL_ (some 7) rfl rfl Try.func44 (by kernel_rfl) rfl #[.slice Ao20 y488.length co20] rfl Ag ?_; (with_reducible refine (impl_isLong.calls k _ _ y488 false _ ?side1 ?side2 A2.out).mono ?_); (case side1 => exact rC (Kd.R_reads' HO490.out).2.2); (case side2 => exact (Kd.R_reads' HO490.out).2.1); rintro e w' ⟨rfl, ⟨nd, rfl⟩⟩; refine ⟨_, rfl, ?_⟩; (try (rw [drewN_self w18]; generalize hq_ : World.drewN w18 _ = w18; have n0_ : Aside0 (Kd.R Kd.string 9 w18 w.heap.size (fun _ => True) (.slice Ao20 y488.length co20) y488) := ⟨by rw [← hq_]; exact (rR HO490.out)⟩; have n1_ : Aside0 (w18.heap[gb487]? = some (.cells #[.int .i64 0, .int .i64 0, .int .i64 0] 44 (0, 0))) := ⟨by rw [← hq_]; exact Pk⟩; have n2_ : Aside0 (Below w.heap.size w w18) := ⟨by rw [← hq_]; exact By⟩; clear HO490 BK487 HB hq_; have HO490 := n0_; have BK487 := n1_; have HB := n2_; clear n0_ n1_ n2_))) | ((with_reducible refine gate_callee (f := 57) rfl ?_); refine goesL_ (some 11) rfl rfl Try.func57 (by kernel_rfl) rfl #[.string a0] rfl Ag ?_; (with_reducible refine (impl_readInt.calls k a0 t492 false _ A9.out).mono ?_); rintro e w21 ⟨rfl, hb⟩; refine ⟨_, rfl, ?_⟩; have n_ := aa (Kd.R_below (rR HO490.out) hb) <| aa (bb BK487.out hb) <| Aside0.mk (below_step By hb); clear HO490 BK487 HB; obtain ⟨HO490, BK487, HB⟩ := n_; (try clear hb); (try clear hb2); (try clear hk); (try clear hi); have ⟨hcz22_0, hcz22_1, hcz22_2⟩ := cq3 BK487.out; have ⟨hfz22_0, hfz22_1, hfz22_2⟩ := fq3 BK487.out)); refine bodyPost_ret (results_cell_row rfl _ _ gb487 44 #[.int .i64 0, .int .i64 0, .int .i64 3] (0, 0) _ rfl (pq3 Pk) Try.underlying44 rfl (by kernel_rfl)) rfl ?_; exact ⟨Rf, By⟩

set_option linter.unusedVariables false
set_option linter.unusedSimpArgs false

/-! ### spec_l09Int: function 58 -/
mutual
def spec_l09Int.j0 : Nat → ByteArray → Bool → Option (Int × Bool)
  | 0, _, _ => none
  | k + 1, x0, x13 => if x13 = true then (some (0, false)) else (if 0 < (x0.size : Int) then (if (bt x0 0) ≥ 128 then (spec_l09Int.j1 k x0 (-1)) else (spec_l09Int.j1 k x0 0)) else (none))
def spec_l09Int.j1 : Nat → ByteArray → Int → Option (Int × Bool)
  | 0, _, _ => none
  | k + 1, x0, x4 => spec_l09Int.l0 k x0 x4 0
def spec_l09Int.l0 : Nat → ByteArray → Int → Int → Option (Int × Bool)
  | 0, _, _, _ => none
  | k + 1, x0, x4, x5 => if x5 < (x0.size : Int) then (if 0 ≤ x5 then (spec_l09Int.l0 k x0 (Go.bits .or .i64 (wrap64 (x4 * 256)) (wrap64 (bt x0 x5))) (wrap64 (x5 + 1))) else (none)) else ((spec_l09Bytes.f k x4).bind fun t494 => (some (x4, (t494.toList == x0.toList))))
end
def spec_l09Int.f (k : Nat) (a0 : ByteArray) : Option (Int × Bool) := if (a0.size : Int) < 1 then (spec_l09Int.j0 k a0 true) else (spec_l09Int.j0 k a0 (decide ((a0.size : Int) > 8)))
theorem spec_l09Int.mono_l : ∀ k, (∀ y0 y1, LeO (spec_l09Int.j0 k y0 y1) (spec_l09Int.j0 (k + 1) y0 y1)) ∧ (∀ y0 y1, LeO (spec_l09Int.j1 k y0 y1) (spec_l09Int.j1 (k + 1) y0 y1)) ∧ (∀ y0 y1 y2, LeO (spec_l09Int.l0 k y0 y1 y2) (spec_l09Int.l0 (k + 1) y0 y1 y2))
  | 0 => ⟨fun _ _ r h => by simp [spec_l09Int.j0] at h, fun _ _ r h => by simp [spec_l09Int.j1] at h, fun _ _ _ r h => by simp [spec_l09Int.l0] at h⟩
  | k + 1 => by
    obtain ⟨ih0, ih1, ih2⟩ := spec_l09Int.mono_l k; refine ⟨?_, ?_, ?_⟩
    · intro y0 y1; unfold spec_l09Int.j0; repeat' first
      | (with_reducible exact ih0 _ _)
      | (with_reducible exact ih1 _ _)
      | (with_reducible exact ih2 _ _ _)
      | (with_reducible exact spec_l09Bytes.mono _ _)
      | (with_reducible exact LeO.refl _)
      | (with_reducible exact LeO.none _)
      | (with_reducible refine LeO.ite ?_ ?_)
      | (with_reducible refine LeO.bind ?_ (fun _ => ?_))
    · intro y0 y1; unfold spec_l09Int.j1; repeat' first
      | (with_reducible exact ih0 _ _)
      | (with_reducible exact ih1 _ _)
      | (with_reducible exact ih2 _ _ _)
      | (with_reducible exact spec_l09Bytes.mono _ _)
      | (with_reducible exact LeO.refl _)
      | (with_reducible exact LeO.none _)
      | (with_reducible refine LeO.ite ?_ ?_)
      | (with_reducible refine LeO.bind ?_ (fun _ => ?_))
    · intro y0 y1 y2; unfold spec_l09Int.l0; repeat' first
      | (with_reducible exact ih0 _ _)
      | (with_reducible exact ih1 _ _)
      | (with_reducible exact ih2 _ _ _)
      | (with_reducible exact spec_l09Bytes.mono _ _)
      | (with_reducible exact LeO.refl _)
      | (with_reducible exact LeO.none _)
      | (with_reducible refine LeO.ite ?_ ?_)
      | (with_reducible refine LeO.bind ?_ (fun _ => ?_))
theorem spec_l09Int.mono : ∀ a0 k, LeO (spec_l09Int.f k a0) (spec_l09Int.f (k + 1) a0) := by
  intro a0 k; obtain ⟨ih0, ih1, ih2⟩ := spec_l09Int.mono_l k; unfold spec_l09Int.f; repeat' first
      | (with_reducible exact ih0 _ _)
      | (with_reducible exact ih1 _ _)
      | (with_reducible exact ih2 _ _ _)
      | (with_reducible exact spec_l09Bytes.mono _ _)
      | (with_reducible exact LeO.refl _)
      | (with_reducible exact LeO.none _)
      | (with_reducible refine LeO.ite ?_ ?_)
      | (with_reducible refine LeO.bind ?_ (fun _ => ?_))
set_option maxHeartbeats 8000000 in
set_option maxRecDepth 100000 in
theorem spec_l09Int.calls (k : Nat) (a0 : ByteArray) (r1 : Int) (r2 : Bool) (w : World) (h : spec_l09Int.f k a0 = some (r1, r2)) :
    Calls Try.prog 58 #[.string a0] w fun e w' => e = .returned (.tuple #[.int .i64 r1, .bool r2]) ∧ Below w.heap.size w w' := by
  have HB := Aside0.mk (Below.refl w.heap.size w); have H : (if (a0.size : Int) < 1 then (spec_l09Int.j0 k a0 true) else (spec_l09Int.j0 k a0 (decide ((a0.size : Int) > 8)))) = some (r1, r2) := h; clear h; have HC2 := Aside0.mk H; clear H; go_enter Try.func58, Try.ntmps58; go_upto_region 1 with (fail); go_cut [13] (fun v13 wc => ∃ (kq : Nat) (x13_1 : Bool), v13 = .bool x13_1 ∧ Aside0 (spec_l09Int.j0 kq a0 x13_1 = some (r1, r2)) ∧ Aside0 (kq ≤ k) ∧ Aside0 (Below w.heap.size w wc))
  case first =>
    have H := HC2.out; clear HC2; by_cases c3 : (a0.size : Int) < 1
    · rw [if_pos c3] at H; have c3b0 : decide ((a0.size : Int) < 1) = true := decide_eq_true c3; have c3b1 : decide (a0.size < 1) = true := decide_eq_true (by omega); clear c3; (first | rw [c3b0] | (simp only [i64_w, i32_w]; rw [c3b0]) | skip); have H' := Aside0.mk H; clear H; go_wp2; go_meet
      case rel => exact ⟨_, (true), (by first | rfl | (simp; done) | (simp [*]; done)), H', ⟨by first | omega | exact Nat.le_refl _⟩, ⟨By⟩⟩
    · rw [if_neg c3] at H; have c3b0 : decide ((a0.size : Int) < 1) = false := decide_eq_false c3; have c3b1 : decide (a0.size < 1) = false := decide_eq_false (by omega); clear c3; (first | rw [c3b0] | (simp only [i64_w, i32_w]; rw [c3b0]) | skip); have H' := Aside0.mk H; clear H; go_wp2; go_meet
      case rel => exact ⟨_, (decide ((a0.size : Int) > 8)), (by first | rfl | (simp; done) | (simp [*]; done)), H', ⟨by first | omega | exact Nat.le_refl _⟩, ⟨By⟩⟩
  case rest =>
    clear HC2; try clear p2
    try clear c3
    try clear c3b0
    try clear c3b1
    obtain ⟨kq, x13_1, rfl, HA, HJ1, HB⟩ := hcut; cases kq with
    | zero => exact absurd HA.out (by simp [spec_l09Int.j0])
    | succ kj1 =>
      have H := HA.out; clear HA; simp only [spec_l09Int.j0] at H; by_cases c4 : x13_1 = true
      · subst c4; have H1 : (some (0, false)) = some (r1, r2) := by rw [if_pos rfl] at H; exact H
        clear H; have H := H1; clear H1; simp only [Option.some.injEq, Prod.mk.injEq] at H; obtain ⟨rfl, rfl⟩ := H; go_wp2; go_ret2; exact ⟨Rf, By⟩
      · replace c4 := Bool.eq_false_iff.mpr c4; subst c4; have H1 : (if 0 < (a0.size : Int) then (if (bt a0 0) ≥ 128 then (spec_l09Int.j1 kj1 a0 (-1)) else (spec_l09Int.j1 kj1 a0 0)) else (none)) = some (r1, r2) := by rw [if_neg (show ¬ (false = true) by decide)] at H; exact H
        clear H; have H := H1; clear H1; by_cases c5 : 0 < (a0.size : Int)
        · rw [if_pos c5] at H; have c5b0 : decide (0 < (a0.size : Int)) = true := decide_eq_true c5; have c5b1 : decide (0 < a0.size) = true := decide_eq_true (by omega); clear c5; have HC7 := Aside0.mk H; clear H; have p6 : 0 ≤ (0 : Int) := (by omega); have q6 : 0 < a0.size := (by have : (0 : Int) < (a0.size : Int) := of_decide_eq_true Da; omega); have hx6 : ∀ h : 0 < a0.size, ((a0[0]'h).toNat : Int) = bt a0 0 := bt_at a0 0; clear p6; have qi6 : (0 < (a0.size : Int)) = True := eq_true (of_decide_eq_true Da); replace q6 := eq_true q6; go_upto_if 16 with (fail); go_cut [4] (fun v4 wc => ∃ (kq : Nat) (x4_6 : Int), v4 = .int .i64 x4_6 ∧ Aside0 (spec_l09Int.j1 kq a0 x4_6 = some (r1, r2)) ∧ Aside0 (kq ≤ kj1) ∧ Aside0 (Below w.heap.size w wc))
          case first =>
            have H := HC7.out; clear HC7; by_cases c8 : (bt a0 0) ≥ 128
            · rw [if_pos c8] at H; have c8b0 : decide (128 ≤ (bt a0 0)) = true := decide_eq_true c8; clear c8; (first | rw [c8b0] | (simp only [i64_w, i32_w]; rw [c8b0]) | skip); have H' := Aside0.mk H; clear H; go_wp2; go_meet
              case rel => exact ⟨_, ((-1)), (by first | rfl | (simp; done) | (simp [*]; done)), H', ⟨by have := HJ1.out; first | omega | exact Nat.le_refl _⟩, ⟨By⟩⟩
            · rw [if_neg c8] at H; have c8b0 : decide (128 ≤ (bt a0 0)) = false := decide_eq_false c8; clear c8; (first | rw [c8b0] | (simp only [i64_w, i32_w]; rw [c8b0]) | skip); have H' := Aside0.mk H; clear H; go_wp2; go_meet
              case rel => exact ⟨_, (0), (by first | rfl | (simp; done) | (simp [*]; done)), H', ⟨by have := HJ1.out; first | omega | exact Nat.le_refl _⟩, ⟨By⟩⟩
          case rest =>
            clear HC7; try clear p2
            try clear c3
            try clear c3b0
            try clear c3b1
            try clear c4
            try clear c5
            try clear c5b0
            try clear c5b1
            try clear p6
            try clear q6
            try clear hx6
            try clear qi6
            try clear c8
            try clear c8b0
            try clear p2
            try clear p6
            try clear q6
            obtain ⟨kq, x4_6, rfl, HA, HJ6, HB⟩ := hcut; cases kq with
            | zero => exact absurd HA.out (by simp [spec_l09Int.j1])
            | succ kj6 =>
              have H := HA.out; clear HA; simp only [spec_l09Int.j1] at H; have H' := Aside0.mk H; clear H; go_wp2; go_loopg [4, 5] kj6 (fun kq v4 v5 w' => ∃ (x4_3 : Int) (x5_3 : Int), v4 = .int .i64 x4_3 ∧ v5 = .int .i64 x5_3 ∧ Aside0 (spec_l09Int.l0 kq a0 x4_3 x5_3 = some (r1, r2)) ∧ Aside0 (kq ≤ kj6) ∧ Aside0 (Below w.heap.size w w'))
              case atStart => exact ⟨(x4_6), (0), (by first | rfl | (simp; done) | (simp [*]; done)), (by first | rfl | (simp; done) | (simp [*]; done)), H', ⟨Nat.le_refl _⟩, ⟨By⟩⟩
              case round =>
                clear H'; try clear p2
                try clear c3
                try clear c3b0
                try clear c3b1
                try clear c4
                try clear c5
                try clear c5b0
                try clear c5b1
                try clear p6
                try clear q6
                try clear hx6
                try clear qi6
                try clear c8
                try clear c8b0
                try clear p2
                try clear p6
                try clear q6
                obtain ⟨x4_3, x5_3, rfl, rfl, HA, HK3, HB⟩ := hrel; cases gk with
                | zero => exact absurd HA.out (by simp [spec_l09Int.l0])
                | succ k3 =>
                  have H := HA.out; clear HA; simp only [spec_l09Int.l0] at H; by_cases c9 : x5_3 < (a0.size : Int)
                  · rw [if_pos c9] at H; have c9b0 : decide (x5_3 < (a0.size : Int)) = true := decide_eq_true c9; clear c9; by_cases c10 : 0 ≤ x5_3
                    · rw [if_pos c10] at H; have c10b0 : decide (0 ≤ x5_3) = true := decide_eq_true c10; clear c10; have H' := Aside0.mk H; clear H; have p11 : 0 ≤ (x5_3 : Int) := of_decide_eq_true Da; have q11 : x5_3 < (a0.size : Int) := of_decide_eq_true Da; have hx11 := bt_at a0 x5_3; replace p11 := eq_true p11; replace q11 := eq_true q11; go_wp2; go_roundg k3
                      case measure => have := HJ1.out; have := HJ6.out; have := HK3.out; omega
                      case rel => exact ⟨(Go.bits .or .i64 (wrap64 (x4_3 * 256)) (wrap64 (bt a0 x5_3))), (wrap64 (x5_3 + 1)), (by first | rfl | (simp; done) | (simp [*]; done)), (by first | rfl | (simp; done) | (simp [*]; done)), H', ⟨by have := HJ1.out; have := HJ6.out; have := HK3.out; omega⟩, ⟨By⟩⟩
                    · rw [if_neg c10] at H; exact absurd H (by simp)
                  · rw [if_neg c9] at H; have c9b0 : decide (x5_3 < (a0.size : Int)) = false := decide_eq_false c9; clear c9; replace H := Option.bind_eq_some_iff.mp H; obtain ⟨t494, A120, H⟩ := H; replace H : (some (x4_3, (t494.toList == a0.toList))) = some (r1, r2) := H; have A12 := Aside0.mk A120; clear A120; simp only [Option.some.injEq, Prod.mk.injEq] at H; obtain ⟨rfl, rfl⟩ := H; go_wp2_with (first | ((with_reducible refine gate_callee (f := 56) rfl ?_); refine goesL_ (some 32) rfl rfl Try.func56 (by kernel_rfl) rfl #[.int .i64 x4_3] rfl Ag ?_; (with_reducible refine (spec_l09Bytes.calls k3 x4_3 t494 _ A12.out).mono ?_); rintro e w13 ⟨rfl, hb⟩; refine ⟨_, rfl, ?_⟩; have n0_ := Aside0.mk (below_step By hb); clear HB; have HB := n0_; clear n0_; (try clear hb); (try clear hb2); (try clear hk); (try clear hi))); go_ret2; exact ⟨Rf, By⟩
        · rw [if_neg c5] at H; exact absurd H (by simp)

set_option linter.unusedVariables false
set_option linter.unusedSimpArgs false

/-! ### spec_BerIntRead: function 22 -/
def spec_BerIntRead.f (k : Nat) (a0 : ByteArray) : Option (Int × Int × Int) := if (a0.size : Int) > 8000 then (some (0, 0, 2)) else ((spec_l09Int.f k a0).bind fun bt496 => (if bt496.2 = true then (some (bt496.1, 0, 0)) else (some (0, 0, 3))))
theorem spec_BerIntRead.mono : ∀ a0 k, LeO (spec_BerIntRead.f k a0) (spec_BerIntRead.f (k + 1) a0) := by
  intro a0 k; unfold spec_BerIntRead.f; repeat' first
      | (with_reducible exact spec_l09Int.mono _ _)
      | (with_reducible exact LeO.refl _)
      | (with_reducible exact LeO.none _)
      | (with_reducible refine LeO.ite ?_ ?_)
      | (with_reducible refine LeO.bind ?_ (fun _ => ?_))
set_option maxHeartbeats 8000000 in
set_option maxRecDepth 100000 in
theorem spec_BerIntRead.calls (k : Nat) (a0 : ByteArray) (r1 : Int) (r2 : Int) (r3 : Int) (w : World) (h : spec_BerIntRead.f k a0 = some (r1, r2, r3)) :
    Calls Try.prog 22 #[.string a0] w fun e w' => e = .returned (.agg #[.int .i64 r1, .int .i64 r2, .int .i64 r3]) ∧ Below w.heap.size w w' := by
  have hu44 := Try.underlying44; have HB := Aside0.mk (Below.refl w.heap.size w); have H : (if (a0.size : Int) > 8000 then (some (0, 0, 2)) else ((spec_l09Int.f k a0).bind fun bt496 => (if bt496.2 = true then (some (bt496.1, 0, 0)) else (some (0, 0, 3))))) = some (r1, r2, r3) := h; clear h; by_cases c2 : (a0.size : Int) > 8000
  · rw [if_pos c2] at H; have c2b0 : decide (8000 < (a0.size : Int)) = true := decide_eq_true c2; have c2b1 : decide (8000 < a0.size) = true := decide_eq_true (by omega); clear c2; simp only [Option.some.injEq, Prod.mk.injEq] at H; obtain ⟨rfl, rfl, rfl⟩ := H; go_enter Try.func22, Try.ntmps22; go_wp2_with (first | ((with_reducible refine gate_dst (N := 2) rfl ?_); refine box_event ?hg (N := 2) ?hd (cs := #[.int .i64 0, .int .i64 0, .int .i64 0]) (t := 44) ?hr ?_; (case hd => rfl); (case hg => rfl); (case hr => first | (go_simp; done) | (go_simp; rfl)); intro gb495 hg w3 hbox hb; have n_ := aa (below_step By hb) <| aa (hbox) <| aa ((by rw [hg]; exact (below_size By) : w.heap.size ≤ gb495)) <| Aside0.mk ((by rw [hg]; exact (below_size By) : w.heap.size ≤ gb495)); clear HB; obtain ⟨HB, BK495, GW495, GE495⟩ := n_; clear hb hbox hg; have ⟨hcz4_0, hcz4_1, hcz4_2⟩ := cq3 BK495.out; have ⟨hfz4_0, hfz4_1, hfz4_2⟩ := fq3 BK495.out)); refine bodyPost_ret (results_cell_row rfl _ _ gb495 44 #[.int .i64 0, .int .i64 0, .int .i64 2] (0, 0) _ rfl (pq3 Pk) Try.underlying44 rfl (by kernel_rfl)) rfl ?_; exact ⟨Rf, By⟩
  · rw [if_neg c2] at H; have c2b0 : decide (8000 < (a0.size : Int)) = false := decide_eq_false c2; have c2b1 : decide (8000 < a0.size) = false := decide_eq_false (by omega); clear c2; replace H := Option.bind_eq_some_iff.mp H; obtain ⟨⟨t496, t497⟩, A50, H⟩ := H; replace H : (if t497 = true then (some (t496, 0, 0)) else (some (0, 0, 3))) = some (r1, r2, r3) := H; have A5 := Aside0.mk A50; clear A50; by_cases c6 : t497 = true
    · subst c6; have H1 : (some (t496, 0, 0)) = some (r1, r2, r3) := by rw [if_pos rfl] at H; exact H
      clear H; have H := H1; clear H1; simp only [Option.some.injEq, Prod.mk.injEq] at H; obtain ⟨rfl, rfl, rfl⟩ := H; go_enter Try.func22, Try.ntmps22; go_wp2_with (first | ((with_reducible refine gate_dst (N := 2) rfl ?_); refine box_event ?hg (N := 2) ?hd (cs := #[.int .i64 0, .int .i64 0, .int .i64 0]) (t := 44) ?hr ?_; (case hd => rfl); (case hg => rfl); (case hr => first | (go_simp; done) | (go_simp; rfl)); intro gb495 hg w7 hbox hb; have n_ := aa (below_step By hb) <| aa (hbox) <| aa ((by rw [hg]; exact (below_size By) : w.heap.size ≤ gb495)) <| Aside0.mk ((by rw [hg]; exact (below_size By) : w.heap.size ≤ gb495)); clear HB; obtain ⟨HB, BK495, GW495, GE495⟩ := n_; clear hb hbox hg) | ((with_reducible refine gate_callee (f := 58) rfl ?_); refine goesL_ (some 11) rfl rfl Try.func58 (by kernel_rfl) rfl #[.string a0] rfl Ag ?_; (with_reducible refine (spec_l09Int.calls k a0 t496 true _ A5.out).mono ?_); rintro e w8 ⟨rfl, hb⟩; refine ⟨_, rfl, ?_⟩; have n_ := aa (bb BK495.out hb) <| Aside0.mk (below_step By hb); clear BK495 HB; obtain ⟨BK495, HB⟩ := n_; (try clear hb); (try clear hb2); (try clear hk); (try clear hi); have ⟨hcz9_0, hcz9_1, hcz9_2⟩ := cq3 BK495.out; have ⟨hfz9_0, hfz9_1, hfz9_2⟩ := fq3 BK495.out)); refine bodyPost_ret (results_cell_row rfl _ _ gb495 44 #[.int .i64 t496, .int .i64 0, .int .i64 0] (0, 0) _ rfl (pq3 Pk) Try.underlying44 rfl (by kernel_rfl)) rfl ?_; exact ⟨Rf, By⟩
    · replace c6 := Bool.eq_false_iff.mpr c6; subst c6; have H1 : (some (0, 0, 3)) = some (r1, r2, r3) := by rw [if_neg (show ¬ (false = true) by decide)] at H; exact H
      clear H; have H := H1; clear H1; simp only [Option.some.injEq, Prod.mk.injEq] at H; obtain ⟨rfl, rfl, rfl⟩ := H; go_enter Try.func22, Try.ntmps22; go_wp2_with (first | ((with_reducible refine gate_dst (N := 2) rfl ?_); refine box_event ?hg (N := 2) ?hd (cs := #[.int .i64 0, .int .i64 0, .int .i64 0]) (t := 44) ?hr ?_; (case hd => rfl); (case hg => rfl); (case hr => first | (go_simp; done) | (go_simp; rfl)); intro gb495 hg w10 hbox hb; have n_ := aa (below_step By hb) <| aa (hbox) <| aa ((by rw [hg]; exact (below_size By) : w.heap.size ≤ gb495)) <| Aside0.mk ((by rw [hg]; exact (below_size By) : w.heap.size ≤ gb495)); clear HB; obtain ⟨HB, BK495, GW495, GE495⟩ := n_; clear hb hbox hg) | ((with_reducible refine gate_callee (f := 58) rfl ?_); refine goesL_ (some 11) rfl rfl Try.func58 (by kernel_rfl) rfl #[.string a0] rfl Ag ?_; (with_reducible refine (spec_l09Int.calls k a0 t496 false _ A5.out).mono ?_); rintro e w11 ⟨rfl, hb⟩; refine ⟨_, rfl, ?_⟩; have n_ := aa (bb BK495.out hb) <| Aside0.mk (below_step By hb); clear BK495 HB; obtain ⟨BK495, HB⟩ := n_; (try clear hb); (try clear hb2); (try clear hk); (try clear hi); have ⟨hcz12_0, hcz12_1, hcz12_2⟩ := cq3 BK495.out; have ⟨hfz12_0, hfz12_1, hfz12_2⟩ := fq3 BK495.out)); refine bodyPost_ret (results_cell_row rfl _ _ gb495 44 #[.int .i64 0, .int .i64 0, .int .i64 3] (0, 0) _ rfl (pq3 Pk) Try.underlying44 rfl (by kernel_rfl)) rfl ?_; exact ⟨Rf, By⟩

end Go.Proofs.Ytfikhgiiccbbfaa.PG
