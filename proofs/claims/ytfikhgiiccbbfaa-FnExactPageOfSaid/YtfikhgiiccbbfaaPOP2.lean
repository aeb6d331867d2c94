/-
  Functions that the law reaches, each as a plain Lean function, with the proof that the call comes to it (written by a program of this session by way of the kit's print program). Conditions: what each contract states.
-/
import Derived.Test.YtfikhgiiccbbfaaPOP1
import Derived.Test.YtfikhgiiccbbfaaPOSq
namespace Go.Proofs.Ytfikhgiiccbbfaa.PH
open Go.Proofs.Ytfikhgiiccbbfaa.Sq Go.RowKit Go.Proofs.YtfikhgiiccbbfaaW.PrintWords Go.Proofs.YtfikhgiiccbbfaaW.PrintLast Go.Proofs.YtfikhgiiccbbfaaW.PrintMore
attribute [local go_sem] max2_int min2_int max_two min_two max_three min_three max_four min_four   -- for this text's walks alone
set_option linter.unusedVariables false
set_option linter.unusedSimpArgs false

/-! ### laws_toEntry: function 62 -/
def laws_toEntry.f (k : Nat) (l0_0 : List (S124)) (l0_1 : List (S126)) : Option ((List (S119)) × (List (S112))) := (laws_toRdnS.f k l0_0).bind fun t181 => ((laws_toAttrS.f k l0_1).bind fun t184 => (some (t181, t184)))
theorem laws_toEntry.mono : ∀ a0 a1 k, LeO (laws_toEntry.f k a0 a1) (laws_toEntry.f (k + 1) a0 a1) := by
  intro a0 a1 k; unfold laws_toEntry.f; repeat' first
      | (with_reducible exact laws_toAttrS.mono _ _)
      | (with_reducible exact laws_toRdnS.mono _ _)
      | (with_reducible exact LeO.refl _)
      | (with_reducible exact LeO.none _)
      | (with_reducible refine LeO.ite ?_ ?_)
      | (with_reducible refine LeO.bind ?_ (fun _ => ?_))
set_option maxHeartbeats 8000000 in
set_option maxRecDepth 100000 in
theorem laws_toEntry.calls (k : Nat) (A0_0 : Option Addr) (c0_0 : Nat) (l0_0 : List (S124)) (A0_1 : Option Addr) (c0_1 : Nat) (l0_1 : List (S126)) (r1 : List (S119)) (r2 : List (S112)) (w : World) (hr0_0 : Kd.C k124 w A0_0 l0_0.length l0_0) (hc0_0 : l0_0.length ≤ c0_0) (hr0_1 : Kd.C k126 w A0_1 l0_1.length l0_1) (hc0_1 : l0_1.length ≤ c0_1) (h : laws_toEntry.f k l0_0 l0_1 = some (r1, r2)) :
    Calls Try.prog 62 #[.agg #[.slice A0_0 l0_0.length c0_0, .slice A0_1 l0_1.length c0_1]] w fun e w' => ∃ v0_ v1_ : Value, e = .returned (.agg #[v0_, v1_]) ∧ Kd.R k119 119 w' w.heap.size (fun _ => True) v0_ r1 ∧ Kd.S k112 112 w' w.heap.size (fun _ => True) v1_ r2 ∧ Below w.heap.size w w' := by
  have hu84 := Try.underlying84; have hu89 := Try.underlying89; have HR0_0 := Aside0.mk hr0_0; have HC0_0 := Aside0.mk hc0_0; clear hr0_0 hc0_0; have HR0_1 := Aside0.mk hr0_1; have HC0_1 := Aside0.mk hc0_1; clear hr0_1 hc0_1; have HB := Aside0.mk (Below.refl w.heap.size w); have H : ((laws_toRdnS.f k l0_0).bind fun t181 => ((laws_toAttrS.f k l0_1).bind fun t184 => (some (t181, t184)))) = some (r1, r2) := h; clear h; replace H := Option.bind_eq_some_iff.mp H; obtain ⟨t181, A20, H⟩ := H; replace H : ((laws_toAttrS.f k l0_1).bind fun t184 => (some (t181, t184))) = some (r1, r2) := H; have A2 := Aside0.mk A20; clear A20; replace H := Option.bind_eq_some_iff.mp H; obtain ⟨t184, A30, H⟩ := H; replace H : (some (t181, t184)) = some (r1, r2) := H; have A3 := Aside0.mk A30; clear A30; simp only [Option.some.injEq, Prod.mk.injEq] at H; obtain ⟨rfl, rfl⟩ := H; go_enter Try.func62, Try.ntmps62; go_wp2_with (first | ((with_reducible refine gate_dst (N := 1) rfl ?_); refine box_event ?hg (N := 1) ?hd (cs := #[.slice A0_0 l0_0.length c0_0, .slice A0_1 l0_1.length c0_1]) (t := 84) ?hr ?_; (case hd => rfl); (case hg => rfl); (case hr => first | (go_simp; done) | (go_simp; rfl)); intro gb178 hg w4 hbox hb; have n_ := aa (below_step By hb) <| aa (hbox) <| aa ((by rw [hg]; exact (below_size By) : w.heap.size ≤ gb178)) <| Aside0.mk ((by rw [hg]; exact (below_size By) : w.heap.size ≤ gb178)); clear HB; obtain ⟨HB, BK178, GW178, GE178⟩ := n_; clear hb hbox hg) | ((with_reducible refine gate_dst (N := 2) rfl ?_); refine box_event ?hg (N := 2) ?hd (cs := #[.slice none 0 0, .slice none 0 0]) (t := 89) ?hr ?_; (case hd => rfl); (case hg => rfl); (case hr => first | (go_simp; done) | (go_simp; rfl)); intro gb179 hg w5 hbox hb; have n_ := aa (bb BK178.out hb) <| aa (below_step By hb) <| aa (hbox) <| aa ((by rw [hg]; exact (below_size By) : w.heap.size ≤ gb179)) <| aa ((by rw [hg]; exact (below_size By) : w.heap.size ≤ gb179)) <| aa ((by rw [hg]; exact Nat.ne_of_lt (bl BK178.out) : gb178 ≠ gb179)) <| Aside0.mk ((by rw [hg]; exact Nat.ne_of_gt (bl BK178.out) : gb179 ≠ gb178)); clear BK178 HB; obtain ⟨BK178, HB, BK179, GW179, GE179, NB178_179, NB179_178⟩ := n_; clear hb hbox hg) | ((with_reducible refine gate_dst (N := 3) rfl ?_); refine box_event ?hg (N := 3) ?hd (cs := #[.slice none 0 0, .slice none 0 0]) (t := 89) ?hr ?_; (case hd => rfl); (case hg => rfl); (case hr => first | (go_simp; done) | (go_simp; rfl)); intro gb180 hg w6 hbox hb; have n_ := aa (bb BK178.out hb) <| aa (bb BK179.out hb) <| aa (below_step By hb) <| aa (hbox) <| aa ((by rw [hg]; exact (below_size By) : w.heap.size ≤ gb180)) <| aa ((by rw [hg]; exact (below_size By) : w.heap.size ≤ gb180)) <| aa ((by rw [hg]; exact Nat.ne_of_lt (bl BK178.out) : gb178 ≠ gb180)) <| aa ((by rw [hg]; exact Nat.ne_of_gt (bl BK178.out) : gb180 ≠ gb178)) <| aa ((by rw [hg]; exact Nat.ne_of_lt (bl BK179.out) : gb179 ≠ gb180)) <| Aside0.mk ((by rw [hg]; exact Nat.ne_of_gt (bl BK179.out) : gb180 ≠ gb179)); clear BK178 BK179 HB; obtain ⟨BK178, BK179, HB, BK180, GW180, GE180, NB178_180, NB180_178, NB179_180, NB180_179⟩ := n_; clear hb hbox hg; have hnb7 := NB178_179.out; have hnc7 := NB179_178.out; have hnb8 := NB178_180.out; have hnc8 := NB180_178.out; have ⟨hcz9_0, hcz9_1⟩ := cq2 BK178.out; have ⟨hfz9_0, hfz9_1⟩ := fq2 BK178.out) | ((with_reducible refine gate_callee (f := 80) rfl ?_); refine goesL_ (some 6) rfl rfl Try.func80 (by kernel_rfl) rfl #[.slice A0_0 l0_0.length c0_0] rfl Ag ?_; (with_reducible refine (laws_toRdnS.calls k _ _ l0_0 t181 _ ?side1 ?side2 A2.out).mono ?_); (case side1 => exact rC (Kd.C_below HR0_0.out HB.out)); (case side2 => exact HC0_0.out); rintro e w10 ⟨v182, rfl, ho0, hb⟩; refine ⟨_, rfl, ?_⟩; have n_ := aa (Kd.R_lower ho0 (below_size By)) <| aa (bb BK178.out hb) <| aa (bb BK179.out hb) <| aa (bb BK180.out hb) <| Aside0.mk (below_step By hb); clear BK178 BK179 BK180 HB; obtain ⟨HO183, BK178, BK179, BK180, HB⟩ := n_; (try clear hb); (try clear hb2); (try clear hk); (try clear hi); (try clear ho0); obtain ⟨Ao11, co11, eo11⟩ := Kd.R_slice HO183.out; subst eo11; have hnb12 := NB180_179.out; have hnc12 := NB179_180.out; have ⟨hcz13_0, hcz13_1⟩ := cq2 BK180.out; have ⟨hfz13_0, hfz13_1⟩ := fq2 BK180.out; have ⟨hcz14_0, hcz14_1⟩ := cq2 BK178.out; have ⟨hfz14_0, hfz14_1⟩ := fq2 BK178.out) | ((with_reducible refine gate_callee (f := 81) rfl ?_); refine goesL_ (some 10) rfl rfl Try.func81 (by kernel_rfl) rfl #[.slice A0_1 l0_1.length c0_1] rfl Ag ?_; (with_reducible refine (laws_toAttrS.calls k _ _ l0_1 t184 _ ?side1 ?side2 A3.out).mono ?_); (case side1 => exact Kd.C_below HR0_1.out By); (case side2 => exact HC0_1.out); rintro e w15 ⟨v185, rfl, ho0, hb⟩; refine ⟨_, rfl, ?_⟩; have n_ := aa (Kd.R_below (by (with_reducible repeat (first | apply Kd.R_alloc | apply Kd.R_drewN | apply Kd.R_drew)); exact (Kd.R_mono (Kd.R_far (p := ⟨gb180, 0, none⟩) (Kd.R_types HO183.out BK180.out (by decide)) (fun _ hk => hk.2) (.slice Ao11 t181.length co11)) (fun _ h_ => h_.1))) hb) <| aa (Kd.S_lower ho0 (below_size By)) <| aa (bf BK178.out hb) <| aa (bf BK179.out hb) <| aa (blk_below (g := gb180) (o := .cells #[.slice Ao11 t181.length co11, .slice none 0 0] 89 (0, 0)) (pq1o2 Pk) hb) <| Aside0.mk (below_step By hb); clear HO183 BK178 BK179 BK180 HB; obtain ⟨HO183, HO186, BK178, BK179, BK180, HB⟩ := n_; (try clear hb); (try clear hb2); (try clear hk); (try clear hi); (try clear ho0); obtain ⟨Ao16, co16, eo16⟩ := Kd.S_slice HO186.out; subst eo16; have ⟨hcz17_0, hcz17_1⟩ := cq2 BK180.out; have ⟨hfz17_0, hfz17_1⟩ := fq2 BK180.out; have ⟨hcz18_0, hcz18_1⟩ := cq2 BK179.out; have ⟨hfz18_0, hfz18_1⟩ := fq2 BK179.out)); refine bodyPost_ret (results_cell_row rfl _ _ gb179 89 #[.slice Ao11 t181.length co11, .slice Ao16 t184.length co16] (0, 0) _ rfl (by (with_reducible repeat (first | refine blk_drewN ?_ _ | refine blk_drew ?_ | refine blk_alloc ?_ _)); refine blk_put (cs := #[.slice Ao11 t181.length co11, .slice none 0 0]) ?_ 1 _ rfl; (with_reducible repeat (first | refine blk_drewN ?_ _ | refine blk_drew ?_ | refine blk_alloc ?_ _)); refine blk_put (cs := #[.slice none 0 0, .slice none 0 0]) ?_ 0 _ rfl; (with_reducible repeat (first | refine blk_drewN ?_ _ | refine blk_drew ?_ | refine blk_alloc ?_ _)); refine blk_far ?_ NB179_180.out _; (with_reducible repeat (first | refine blk_drewN ?_ _ | refine blk_drew ?_ | refine blk_alloc ?_ _)); exact BK179.out) Try.underlying89 rfl (by kernel_rfl)) rfl ?_
  exact ⟨_, _, Rf, by (with_reducible repeat (first | apply Kd.R_alloc | apply Kd.R_drewN | apply Kd.R_drew)); exact Kd.R_mono (Kd.R_far (p := ⟨gb179, 1, none⟩) (Kd.R_far (p := ⟨gb179, 0, none⟩) (Kd.R_far (p := ⟨gb180, 1, none⟩) (Kd.R_types (Kd.R_types HO183.out BK180.out (by decide)) BK179.out (by decide)) (fun _ hk => hk.1.2) (.slice Ao16 t184.length co16)) (fun _ hk => hk.2) (.slice Ao11 t181.length co11)) (fun _ hk => hk.2) (.slice Ao16 t184.length co16)) (fun _ hk => trivial), by (with_reducible repeat (first | apply Kd.S_alloc | apply Kd.S_drewN | apply Kd.S_drew)); exact Kd.S_mono (Kd.S_far (p := ⟨gb179, 1, none⟩) (Kd.S_far (p := ⟨gb179, 0, none⟩) (Kd.S_far (p := ⟨gb180, 1, none⟩) (Kd.S_types (Kd.S_types HO186.out BK180.out (by decide)) BK179.out (by decide)) (fun _ hk => hk.1.2) (.slice Ao16 t184.length co16)) (fun _ hk => hk.2) (.slice Ao11 t181.length co11)) (fun _ hk => hk.2) (.slice Ao16 t184.length co16)) (fun _ hk => trivial), By⟩

set_option linter.unusedVariables false
set_option linter.unusedSimpArgs false

/-! ### laws_markText: function 75 -/
def laws_markText.l0 : Nat → Int → ByteArray → Option (ByteArray)
  | 0, _, _ => none
  | k + 1, x0, x3 => if x0 > 0 then ((some (([(wrap64 (48 + (Int.tmod x0 10))) % 256] : List Int) : List Int)).bind fun y254 => (if (strOfNums y254).size + x3.size ≤ 9223372036854775807 then (laws_markText.l0 k (wrap64 (Int.tdiv x0 10)) ((strOfNums y254) ++ x3)) else (none))) else (if 1 + x3.size ≤ 9223372036854775807 then (some ((⟨#[109]⟩ : ByteArray) ++ x3)) else (none))
def laws_markText.f (k : Nat) (a0 : Int) : Option (ByteArray) := if a0 ≤ 0 then (some (⟨#[109, 48]⟩ : ByteArray)) else (laws_markText.l0 k a0 (⟨#[]⟩ : ByteArray))
theorem laws_markText.mono_l : ∀ k, (∀ y0 y1, LeO (laws_markText.l0 k y0 y1) (laws_markText.l0 (k + 1) y0 y1))
  | 0 => fun _ _ r h => by simp [laws_markText.l0] at h
  | k + 1 => by
    have ih0 := laws_markText.mono_l k
    · intro y0 y1; unfold laws_markText.l0; repeat' first
      | (with_reducible exact ih0 _ _)
      | (with_reducible exact LeO.refl _)
      | (with_reducible exact LeO.none _)
      | (with_reducible refine LeO.ite ?_ ?_)
      | (with_reducible refine LeO.bind ?_ (fun _ => ?_))
theorem laws_markText.mono : ∀ a0 k, LeO (laws_markText.f k a0) (laws_markText.f (k + 1) a0) := by
  intro a0 k; have ih0 := laws_markText.mono_l k; unfold laws_markText.f; repeat' first
      | (with_reducible exact ih0 _ _)
      | (with_reducible exact LeO.refl _)
      | (with_reducible exact LeO.none _)
      | (with_reducible refine LeO.ite ?_ ?_)
      | (with_reducible refine LeO.bind ?_ (fun _ => ?_))
set_option maxHeartbeats 8000000 in
set_option maxRecDepth 100000 in
theorem laws_markText.calls (k : Nat) (a0 : Int) (r : ByteArray) (w : World) (h : laws_markText.f k a0 = some r) :
    Calls Try.prog 75 #[.int .i64 a0] w fun e w' => e = .returned (.string r) ∧ Below w.heap.size w w' := by
  have HB := Aside0.mk (Below.refl w.heap.size w); have H : (if a0 ≤ 0 then (some (⟨#[109, 48]⟩ : ByteArray)) else (laws_markText.l0 k a0 (⟨#[]⟩ : ByteArray))) = some r := h; clear h; by_cases c2 : a0 ≤ 0
  · rw [if_pos c2] at H; have c2b0 : decide (a0 ≤ 0) = true := decide_eq_true c2; clear c2; obtain rfl := Option.some.inj H; go_enter Try.func75, Try.ntmps75; go_wp2; go_ret; exact ⟨Rf, By⟩
  · rw [if_neg c2] at H; have c2b0 : decide (a0 ≤ 0) = false := decide_eq_false c2; clear c2; have H' := Aside0.mk H; clear H; go_enter Try.func75, Try.ntmps75; go_wp2; go_loopg [0, 3] k (fun kq v0 v3 w' => ∃ (x0_1 : Int) (x3_1 : ByteArray), v0 = .int .i64 x0_1 ∧ v3 = .string x3_1 ∧ Aside0 (laws_markText.l0 kq x0_1 x3_1 = some r) ∧ Aside0 (kq ≤ k) ∧ Aside0 (Below w.heap.size w w'))
    case atStart => exact ⟨(a0), ((⟨#[]⟩ : ByteArray)), (by first | rfl | (simp; done) | (simp [*]; done)), (by first | rfl | (simp; done) | (simp [*]; done)), H', ⟨Nat.le_refl _⟩, ⟨By⟩⟩
    case round =>
      clear H'; try clear c2
      try clear c2b0
      try clear p2
      obtain ⟨x0_1, x3_1, rfl, rfl, HA, HK1, HB⟩ := hrel; cases gk with
      | zero => exact absurd HA.out (by simp [laws_markText.l0])
      | succ k1 =>
        have H := HA.out; clear HA; simp only [laws_markText.l0] at H; by_cases c3 : x0_1 > 0
        · rw [if_pos c3] at H; have c3b0 : decide (0 < x0_1) = true := decide_eq_true c3; clear c3; obtain ⟨y254, hy254⟩ : ∃ y_ : List Int, y_ = (([(wrap64 (48 + (Int.tmod x0_1 10))) % 256] : List Int)) := ⟨_, rfl⟩; replace H : (if (strOfNums y254).size + x3_1.size ≤ 9223372036854775807 then (laws_markText.l0 k1 (wrap64 (Int.tdiv x0_1 10)) ((strOfNums y254) ++ x3_1)) else (none)) = some r := by first | (rw [hy254]; with_reducible exact H) | (have H2_ := (Option.bind_some _ _).symm.trans H; rw [hy254]; with_reducible exact H2_) | (have H2_ := (Option.bind_some _ _).symm.trans H; with_reducible exact H2_) | with_reducible exact H | (rw [hy254]; exact H) | exact H
          have Ny254 := Aside0.mk hy254; clear hy254; by_cases c4 : (strOfNums y254).size + x3_1.size ≤ 9223372036854775807
          · rw [if_pos c4] at H; have c4b0 := eq_true c4; have c4b1 : decide ((strOfNums y254).size + x3_1.size ≤ 9223372036854775807) = true := decide_eq_true c4; try have c4b2 : (9223372036854775807 < (strOfNums y254).size + x3_1.size) = False := eq_false (Nat.not_lt.2 c4)
            have H' := Aside0.mk H; clear H; go_wp2_with (first | ((with_reducible refine gate_dst (N := 12) rfl ?_); refine Kd.R_lit (Kd.int .u8) _ 5 ?hg (N := 12) ?hd (xs := ([(wrap64 (48 + (Int.tmod x0_1 10))) % 256] : List Int)) (inner := [.int .u8 ((wrap64 (48 + (Int.tmod x0_1 10))) % 256)]) (ok := fun _ => True) (okp := fun _ => True) ?hr ?hp (fun _ hk => hk) trivial (Below.refl _ _) (Nat.le_refl _) (by simp) ?_; (case hd => rfl); (case hg => rfl); (case hr => first | (go_simp; done) | (go_simp; rfl)); (case hp => exact (Reps.one (show Kd.M (Kd.int .u8) _ _ _ ((wrap64 (48 + (Int.tmod x0_1 10))) % 256) [.int .u8 ((wrap64 (48 + (Int.tmod x0_1 10))) % 256)] from rfl) (Reps.none _ _))); intro v255 w5 ho6 hb hg_ hnew_; clear hg_ hnew_; (first | rw [← Ny254.out] at ho6 | (simp only [Int.reduceToNat] at ho6; rw [← Ny254.out] at ho6)); have n_ := aa (Kd.R_lower ho6 (below_size By)) <| Aside0.mk (below_step By hb); clear HB; obtain ⟨HO256, HB⟩ := n_; clear hb ho6; have hcv7 := own_string (P := Try.prog) Try.underlying22 Try.underlying5 Try.underlying9 (Kd.own_of_R HO256.out))); go_roundg k1
            case measure => have := HK1.out; omega
            case rel => exact ⟨(wrap64 (Int.tdiv x0_1 10)), ((strOfNums y254) ++ x3_1), (by first | rfl | (simp; done) | (simp [*]; done)), (by first | rfl | (simp; done) | (simp [*]; done)), H', ⟨by have := HK1.out; omega⟩, ⟨By⟩⟩
          · rw [if_neg c4] at H; exact absurd H (by simp)
        · rw [if_neg c3] at H; have c3b0 : decide (0 < x0_1) = false := decide_eq_false c3; clear c3; by_cases c8 : 1 + x3_1.size ≤ 9223372036854775807
          · rw [if_pos c8] at H; have c8b0 := eq_true c8; have c8b1 : decide (1 + x3_1.size ≤ 9223372036854775807) = true := decide_eq_true c8; try have c8b2 : (9223372036854775807 < 1 + x3_1.size) = False := eq_false (Nat.not_lt.2 c8)
            obtain rfl := Option.some.inj H; go_wp2; go_ret; exact ⟨Rf, By⟩
          · rw [if_neg c8] at H; exact absurd H (by simp)

set_option linter.unusedVariables false
set_option linter.unusedSimpArgs false

/-! ### laws_heldRdnS: function 68 -/
def laws_heldRdnS.l0 : Nat → List (S119) → Int → Int → Option (Int)
  | 0, _, _, _ => none
  | k + 1, x0, x1, x5 => if x5 < (x0.length : Int) then (if 0 ≤ x5 then ((laws_markText.f k x1).bind fun t266 => (if ((rd_T119 x0 x5).f0).toList = t266.toList then ((laws_markText.f k (wrap64 (x1 + 1))).bind fun t268 => (if ((rd_T119 x0 x5).f1).toList = t268.toList then (laws_heldRdnS.l0 k x0 (wrap64 ((wrap64 (x1 + 1)) + 1)) (wrap64 (x5 + 1))) else (some (-1)))) else (some (-1)))) else (none)) else (some x1)
def laws_heldRdnS.f (k : Nat) (l0 : List (S119)) (a1 : Int) : Option (Int) := laws_heldRdnS.l0 k l0 a1 0
theorem laws_heldRdnS.mono_l : ∀ k, (∀ y0 y1 y2, LeO (laws_heldRdnS.l0 k y0 y1 y2) (laws_heldRdnS.l0 (k + 1) y0 y1 y2))
  | 0 => fun _ _ _ r h => by simp [laws_heldRdnS.l0] at h
  | k + 1 => by
    have ih0 := laws_heldRdnS.mono_l k
    · intro y0 y1 y2; unfold laws_heldRdnS.l0; repeat' first
      | (with_reducible exact ih0 _ _ _)
      | (with_reducible exact laws_markText.mono _ _)
      | (with_reducible exact LeO.refl _)
      | (with_reducible exact LeO.none _)
      | (with_reducible refine LeO.ite ?_ ?_)
      | (with_reducible refine LeO.bind ?_ (fun _ => ?_))
theorem laws_heldRdnS.mono : ∀ a0 a1 k, LeO (laws_heldRdnS.f k a0 a1) (laws_heldRdnS.f (k + 1) a0 a1) := by
  intro a0 a1 k; have ih0 := laws_heldRdnS.mono_l k; unfold laws_heldRdnS.f; repeat' first
      | (with_reducible exact ih0 _ _ _)
      | (with_reducible exact laws_markText.mono _ _)
      | (with_reducible exact LeO.refl _)
      | (with_reducible exact LeO.none _)
      | (with_reducible refine LeO.ite ?_ ?_)
      | (with_reducible refine LeO.bind ?_ (fun _ => ?_))
def laws_heldRdnS.T4 : Bool × List (List Nat × List Nat) := (true, [([], []), ([], []), ([0, 1], [0, 1]), ([2], [2]), ([3], [3]), ([], []), ([5], [5]), ([4, 6], [4, 6])])
def laws_heldRdnS.B4 : List Nat := [0, 0, 3, 7, 15, 0, 32, 127]
theorem laws_heldRdnS.tab4 : rtab .any (opsOf Try.f68 4) = laws_heldRdnS.T4 := by kernel_rfl
theorem laws_heldRdnS.bits4 : waitsOk laws_heldRdnS.T4.2 laws_heldRdnS.B4 = true := by kernel_rfl
def laws_heldRdnS.T7 : Bool × List (List Nat × List Nat) := (true, [([], []), ([], []), ([0, 1], [0, 1]), ([2], [2]), ([3], [3]), ([], []), ([5], [5]), ([4, 6], [4, 6])])
def laws_heldRdnS.B7 : List Nat := [0, 0, 3, 7, 15, 0, 32, 127]
theorem laws_heldRdnS.tab7 : rtab .any (opsOf Try.f68 7) = laws_heldRdnS.T7 := by kernel_rfl
theorem laws_heldRdnS.bits7 : waitsOk laws_heldRdnS.T7.2 laws_heldRdnS.B7 = true := by kernel_rfl
set_option maxHeartbeats 8000000 in
set_option maxRecDepth 100000 in
theorem laws_heldRdnS.calls (k : Nat) (A0 : Option Addr) (c0 : Nat) (l0 : List (S119)) (a1 : Int) (r : Int) (w : World) (hr0 : Kd.C k119 w A0 l0.length l0) (hc0 : l0.length ≤ c0) (h : laws_heldRdnS.f k l0 a1 = some r) :
    Calls Try.prog 68 #[.slice A0 l0.length c0, .int .i64 a1] w fun e w' => e = .returned (.int .i64 r) ∧ Below w.heap.size w w' := by
  have HR0 := Aside0.mk hr0; have HC0 := Aside0.mk hc0; clear hr0 hc0; have HB := Aside0.mk (Below.refl w.heap.size w); have H : (laws_heldRdnS.l0 k l0 a1 0) = some r := h; clear h; have H' := Aside0.mk H; clear H; go_enter Try.func68, Try.ntmps68; go_wp2; go_loopg [1, 5] k (fun kq v1 v5 w' => ∃ (x1_1 : Int) (x5_1 : Int), v1 = .int .i64 x1_1 ∧ v5 = .int .i64 x5_1 ∧ Aside0 (laws_heldRdnS.l0 kq l0 x1_1 x5_1 = some r) ∧ Aside0 (kq ≤ k) ∧ Aside0 (Below w.heap.size w w'))
  case atStart => exact ⟨(a1), (0), (by first | rfl | (simp; done) | (simp [*]; done)), (by first | rfl | (simp; done) | (simp [*]; done)), H', ⟨Nat.le_refl _⟩, ⟨By⟩⟩
  case round =>
    clear H'; try clear p2
    obtain ⟨x1_1, x5_1, rfl, rfl, HA, HK1, HB⟩ := hrel; cases gk with
    | zero => exact absurd HA.out (by simp [laws_heldRdnS.l0])
    | succ k1 =>
      have H := HA.out; clear HA; simp only [laws_heldRdnS.l0] at H; by_cases c3 : x5_1 < (l0.length : Int)
      · rw [if_pos c3] at H; have c3b0 : decide (x5_1 < (l0.length : Int)) = true := decide_eq_true c3; clear c3; by_cases c4 : 0 ≤ x5_1
        · rw [if_pos c4] at H; have c4b0 : decide (0 ≤ x5_1) = true := decide_eq_true c4; clear c4; replace H := Option.bind_eq_some_iff.mp H; obtain ⟨t266, A50, H⟩ := H; (try dsimp only at H); have A5 := Aside0.mk A50; clear A50; by_cases c6 : ((rd_T119 l0 x5_1).f0).toList = t266.toList
          · rw [if_pos c6] at H; have c6b0 : (((rd_T119 l0 x5_1).f0).toList == t266.toList) = true := beq_iff_eq.mpr c6; have c6b1 : (((rd_T119 l0 x5_1).f0).toList != t266.toList) = false := bne_eq_false_iff_eq.mpr c6; clear c6; replace H := Option.bind_eq_some_iff.mp H; obtain ⟨t268, A70, H⟩ := H; (try dsimp only at H); have A7 := Aside0.mk A70; clear A70; by_cases c8 : ((rd_T119 l0 x5_1).f1).toList = t268.toList
            · rw [if_pos c8] at H; have c8b0 : (((rd_T119 l0 x5_1).f1).toList == t268.toList) = true := beq_iff_eq.mpr c8; have c8b1 : (((rd_T119 l0 x5_1).f1).toList != t268.toList) = false := bne_eq_false_iff_eq.mpr c8; clear c8; have H' := Aside0.mk H; clear H; try go_wp2
              have n0_ := Aside0.mk (below_drew1 HB.out); clear HB; have HB := n0_; clear n0_; have p265 : 0 ≤ (x5_1 : Int) := of_decide_eq_true Da; have q265 : x5_1 < (l0.length : Int) := of_decide_eq_true Da; obtain ⟨ad265, e265, hx265_0, hx265_1⟩ := at_T119 HR0.out x5_1 p265 q265; have hw265_1 := hx265_1; have hw265_0 := hx265_0; cases e265
              replace hx265_0 := bz HB.out hx265_0; replace hx265_1 := bz HB.out hx265_1; replace p265 := eq_true p265; replace q265 := eq_true q265; refine start_ (n := 8) (S := fun w' => w'.cell? (ad265.add ((x5_1).toNat * 2)) = some (.string ((rd_T119 l0 x5_1).f0)) ∧ w'.cell? ⟨(ad265.add ((x5_1).toNat * 2)).block, (ad265.add ((x5_1).toNat * 2)).off + 1, none⟩ = some (.string ((rd_T119 l0 x5_1).f1))) (ds := []) (bv 8 0) (by kernel_rfl) rfl rfl ⟨((HB.out.cell (World.block_lt_of_cell? _ _ hw265_0)).trans hw265_0), ((HB.out.cell (World.block_lt_of_cell? _ _ hw265_1)).trans hw265_1)⟩ (fun hHeld => ?_); refine with_tabW laws_heldRdnS.tab4 laws_heldRdnS.bits4 (fun HT_ HW_ => ?_); generalize wr.drew = w9 at HB hx265_0 hx265_1 hHeld ⊢; refine pu 0 12 (bv 8 1) HT_.out (h := ?_); refine pu 1 13 (bv 8 3) HT_.out (h := ?_); refine pu 2 14 (bv 8 7) HT_.out (h := ?_); refine pu 3 15 (bv 8 15) HT_.out (h := ?_); refine pu 5 17 (bv 8 47) HT_.out (h := ?_); refine tk 4 16 (bv 8 63) HT_.out HW_.out hHeld (h := ?_); refine one_ (i := 6) (N := some 18) (bv 8 127) rfl rfl (one_of HT_.out (by kernel_rfl)) (by decide) (fun K hK => ?_); refine goes_ Try.func75 (by kernel_rfl) rfl #[.int .i64 x1_1] (by rfl) rfl rfl Ag ?_; with_reducible refine (laws_markText.calls k1 x1_1 t266 _ A5.out).mono ?_
              rintro e w10 ⟨rfl, hb⟩; refine ⟨_, rfl, ?_⟩; have n0_ := Aside0.mk (below_step By hb); clear HB; have HB := n0_; clear n0_; (try clear hb); (try clear hb2); (try clear hk); (try clear hi); refine hK.out _ _ ⟨((HB.out.cell (World.block_lt_of_cell? _ _ hw265_0)).trans hw265_0), ((HB.out.cell (World.block_lt_of_cell? _ _ hw265_1)).trans hw265_1)⟩ (fun hHeld => ?_); clear hK K; refine norm_ (a' := ?_) ?_ ?_; rotate_left
              · show Act.put _ (some 18) _ = _; simp only [Act.put, List.setIfInBounds_toArray, List.set_cons_zero, List.set_cons_succ, i64_w, i32_w]; rfl
              refine pu 7 19 (bv 8 255) HT_.out (h := ?_); refine done_ (done_of HT_.out (by kernel_rfl)) ?_; try go_wp2
              have n0_ := Aside0.mk (below_drew1 HB.out); clear HB; have HB := n0_; clear n0_; have p267 : 0 ≤ (x5_1 : Int) := of_decide_eq_true Da; have q267 : x5_1 < (l0.length : Int) := of_decide_eq_true Da; obtain ⟨ad267, e267, hx267_0, hx267_1⟩ := at_T119 HR0.out x5_1 p267 q267; have hw267_1 := hx267_1; have hw267_0 := hx267_0; obtain rfl : ad265 = ad267 := (by injection e267); (try (have h_ := hx267_0.symm.trans hw265_0; injection h_ with h_; injection h_ with h1_ _ h2_; subst h1_ h2_))   -- fixheld
              (try (have h_ := hx267_1.symm.trans hw265_1; injection h_ with h_; injection h_ with h1_ _ h2_; subst h1_ h2_))   -- fixheld
              replace hx267_0 := bz HB.out hx267_0; replace hx267_1 := bz HB.out hx267_1; replace p267 := eq_true p267; replace q267 := eq_true q267; refine start_ (n := 8) (S := fun w' => w'.cell? (ad265.add ((x5_1).toNat * 2)) = some (.string ((rd_T119 l0 x5_1).f0)) ∧ w'.cell? ⟨(ad265.add ((x5_1).toNat * 2)).block, (ad265.add ((x5_1).toNat * 2)).off + 1, none⟩ = some (.string ((rd_T119 l0 x5_1).f1))) (ds := []) (bv 8 0) (by kernel_rfl) rfl rfl ⟨((HB.out.cell (World.block_lt_of_cell? _ _ hw267_0)).trans hw267_0), ((HB.out.cell (World.block_lt_of_cell? _ _ hw267_1)).trans hw267_1)⟩ (fun hHeld => ?_); refine with_tabW laws_heldRdnS.tab7 laws_heldRdnS.bits7 (fun HT_ HW_ => ?_); generalize w10.drew = w11 at HB hx267_0 hx267_1 hHeld ⊢; refine pu 0 22 (bv 8 1) HT_.out (h := ?_); refine pu 1 23 (bv 8 3) HT_.out (h := ?_); refine pu 2 24 (bv 8 7) HT_.out (h := ?_); refine pu 3 25 (bv 8 15) HT_.out (h := ?_); refine pu 5 27 (bv 8 47) HT_.out (h := ?_); refine tk 4 26 (bv 8 63) HT_.out HW_.out hHeld (h := ?_); refine one_ (i := 6) (N := some 28) (bv 8 127) rfl rfl (one_of HT_.out (by kernel_rfl)) (by decide) (fun K hK => ?_); refine goes_ Try.func75 (by kernel_rfl) rfl #[.int .i64 (wrap64 (x1_1 + 1))] (by rfl) rfl rfl Ag ?_; with_reducible refine (laws_markText.calls k1 (wrap64 (x1_1 + 1)) t268 _ A7.out).mono ?_
              rintro e w12 ⟨rfl, hb⟩; refine ⟨_, rfl, ?_⟩; have n0_ := Aside0.mk (below_step By hb); clear HB; have HB := n0_; clear n0_; (try clear hb); (try clear hb2); (try clear hk); (try clear hi); refine hK.out _ _ ⟨((HB.out.cell (World.block_lt_of_cell? _ _ hw267_0)).trans hw267_0), ((HB.out.cell (World.block_lt_of_cell? _ _ hw267_1)).trans hw267_1)⟩ (fun hHeld => ?_); clear hK K; refine norm_ (a' := ?_) ?_ ?_; rotate_left
              · show Act.put _ (some 28) _ = _; simp only [Act.put, List.setIfInBounds_toArray, List.set_cons_zero, List.set_cons_succ, i64_w, i32_w]; rfl
              refine pu 7 29 (bv 8 255) HT_.out (h := ?_); refine done_ (done_of HT_.out (by kernel_rfl)) ?_; try go_wp2
              go_roundg k1
              case measure => have := HK1.out; omega
              case rel => exact ⟨(wrap64 ((wrap64 (x1_1 + 1)) + 1)), (wrap64 (x5_1 + 1)), (by first | rfl | (simp; done) | (simp [*]; done)), (by first | rfl | (simp; done) | (simp [*]; done)), H', ⟨by have := HK1.out; omega⟩, ⟨By⟩⟩
            · rw [if_neg c8] at H; have c8b0 : (((rd_T119 l0 x5_1).f1).toList == t268.toList) = false := beq_eq_false_iff_ne.mpr c8; have c8b1 : (((rd_T119 l0 x5_1).f1).toList != t268.toList) = true := bne_iff_ne.mpr c8; obtain rfl := Option.some.inj H; try go_wp2
              have n0_ := Aside0.mk (below_drew1 HB.out); clear HB; have HB := n0_; clear n0_; have p265 : 0 ≤ (x5_1 : Int) := of_decide_eq_true Da; have q265 : x5_1 < (l0.length : Int) := of_decide_eq_true Da; obtain ⟨ad265, e265, hx265_0, hx265_1⟩ := at_T119 HR0.out x5_1 p265 q265; have hw265_1 := hx265_1; have hw265_0 := hx265_0; cases e265
              replace hx265_0 := bz HB.out hx265_0; replace hx265_1 := bz HB.out hx265_1; replace p265 := eq_true p265; replace q265 := eq_true q265; refine start_ (n := 8) (S := fun w' => w'.cell? (ad265.add ((x5_1).toNat * 2)) = some (.string ((rd_T119 l0 x5_1).f0)) ∧ w'.cell? ⟨(ad265.add ((x5_1).toNat * 2)).block, (ad265.add ((x5_1).toNat * 2)).off + 1, none⟩ = some (.string ((rd_T119 l0 x5_1).f1))) (ds := []) (bv 8 0) (by kernel_rfl) rfl rfl ⟨((HB.out.cell (World.block_lt_of_cell? _ _ hw265_0)).trans hw265_0), ((HB.out.cell (World.block_lt_of_cell? _ _ hw265_1)).trans hw265_1)⟩ (fun hHeld => ?_); refine with_tabW laws_heldRdnS.tab4 laws_heldRdnS.bits4 (fun HT_ HW_ => ?_); generalize wr.drew = w13 at HB hx265_0 hx265_1 hHeld ⊢; refine pu 0 12 (bv 8 1) HT_.out (h := ?_); refine pu 1 13 (bv 8 3) HT_.out (h := ?_); refine pu 2 14 (bv 8 7) HT_.out (h := ?_); refine pu 3 15 (bv 8 15) HT_.out (h := ?_); refine pu 5 17 (bv 8 47) HT_.out (h := ?_); refine tk 4 16 (bv 8 63) HT_.out HW_.out hHeld (h := ?_); refine one_ (i := 6) (N := some 18) (bv 8 127) rfl rfl (one_of HT_.out (by kernel_rfl)) (by decide) (fun K hK => ?_); refine goes_ Try.func75 (by kernel_rfl) rfl #[.int .i64 x1_1] (by rfl) rfl rfl Ag ?_; with_reducible refine (laws_markText.calls k1 x1_1 t266 _ A5.out).mono ?_
              rintro e w14 ⟨rfl, hb⟩; refine ⟨_, rfl, ?_⟩; have n0_ := Aside0.mk (below_step By hb); clear HB; have HB := n0_; clear n0_; (try clear hb); (try clear hb2); (try clear hk); (try clear hi); refine hK.out _ _ ⟨((HB.out.cell (World.block_lt_of_cell? _ _ hw265_0)).trans hw265_0), ((HB.out.cell (World.block_lt_of_cell? _ _ hw265_1)).trans hw265_1)⟩ (fun hHeld => ?_); clear hK K; refine norm_ (a' := ?_) ?_ ?_; rotate_left
              · show Act.put _ (some 18) _ = _; simp only [Act.put, List.setIfInBounds_toArray, List.set_cons_zero, List.set_cons_succ, i64_w, i32_w]; rfl
              refine pu 7 19 (bv 8 255) HT_.out (h := ?_); refine done_ (done_of HT_.out (by kernel_rfl)) ?_; try go_wp2
              have n0_ := Aside0.mk (below_drew1 HB.out); clear HB; have HB := n0_; clear n0_; have p267 : 0 ≤ (x5_1 : Int) := of_decide_eq_true Da; have q267 : x5_1 < (l0.length : Int) := of_decide_eq_true Da; obtain ⟨ad267, e267, hx267_0, hx267_1⟩ := at_T119 HR0.out x5_1 p267 q267; have hw267_1 := hx267_1; have hw267_0 := hx267_0; obtain rfl : ad265 = ad267 := (by injection e267); (try (have h_ := hx267_0.symm.trans hw265_0; injection h_ with h_; injection h_ with h1_ _ h2_; subst h1_ h2_))   -- fixheld
              (try (have h_ := hx267_1.symm.trans hw265_1; injection h_ with h_; injection h_ with h1_ _ h2_; subst h1_ h2_))   -- fixheld
              replace hx267_0 := bz HB.out hx267_0; replace hx267_1 := bz HB.out hx267_1; replace p267 := eq_true p267; replace q267 := eq_true q267; refine start_ (n := 8) (S := fun w' => w'.cell? (ad265.add ((x5_1).toNat * 2)) = some (.string ((rd_T119 l0 x5_1).f0)) ∧ w'.cell? ⟨(ad265.add ((x5_1).toNat * 2)).block, (ad265.add ((x5_1).toNat * 2)).off + 1, none⟩ = some (.string ((rd_T119 l0 x5_1).f1))) (ds := []) (bv 8 0) (by kernel_rfl) rfl rfl ⟨((HB.out.cell (World.block_lt_of_cell? _ _ hw267_0)).trans hw267_0), ((HB.out.cell (World.block_lt_of_cell? _ _ hw267_1)).trans hw267_1)⟩ (fun hHeld => ?_); refine with_tabW laws_heldRdnS.tab7 laws_heldRdnS.bits7 (fun HT_ HW_ => ?_); generalize w14.drew = w15 at HB hx267_0 hx267_1 hHeld ⊢; refine pu 0 22 (bv 8 1) HT_.out (h := ?_); refine pu 1 23 (bv 8 3) HT_.out (h := ?_); refine pu 2 24 (bv 8 7) HT_.out (h := ?_); refine pu 3 25 (bv 8 15) HT_.out (h := ?_); refine pu 5 27 (bv 8 47) HT_.out (h := ?_); refine tk 4 26 (bv 8 63) HT_.out HW_.out hHeld (h := ?_); refine one_ (i := 6) (N := some 28) (bv 8 127) rfl rfl (one_of HT_.out (by kernel_rfl)) (by decide) (fun K hK => ?_); refine goes_ Try.func75 (by kernel_rfl) rfl #[.int .i64 (wrap64 (x1_1 + 1))] (by rfl) rfl rfl Ag ?_; with_reducible refine (laws_markText.calls k1 (wrap64 (x1_1 + 1)) t268 _ A7.out).mono ?_
              rintro e w16 ⟨rfl, hb⟩; refine ⟨_, rfl, ?_⟩; have n0_ := Aside0.mk (below_step By hb); clear HB; have HB := n0_; clear n0_; (try clear hb); (try clear hb2); (try clear hk); (try clear hi); refine hK.out _ _ ⟨((HB.out.cell (World.block_lt_of_cell? _ _ hw267_0)).trans hw267_0), ((HB.out.cell (World.block_lt_of_cell? _ _ hw267_1)).trans hw267_1)⟩ (fun hHeld => ?_); clear hK K; refine norm_ (a' := ?_) ?_ ?_; rotate_left
              · show Act.put _ (some 28) _ = _; simp only [Act.put, List.setIfInBounds_toArray, List.set_cons_zero, List.set_cons_succ, i64_w, i32_w]; rfl
              refine pu 7 29 (bv 8 255) HT_.out (h := ?_); refine done_ (done_of HT_.out (by kernel_rfl)) ?_; try go_wp2
              go_ret; exact ⟨Rf, By⟩
          · rw [if_neg c6] at H; have c6b0 : (((rd_T119 l0 x5_1).f0).toList == t266.toList) = false := beq_eq_false_iff_ne.mpr c6; have c6b1 : (((rd_T119 l0 x5_1).f0).toList != t266.toList) = true := bne_iff_ne.mpr c6; obtain rfl := Option.some.inj H; try go_wp2
            have n0_ := Aside0.mk (below_drew1 HB.out); clear HB; have HB := n0_; clear n0_; have p265 : 0 ≤ (x5_1 : Int) := of_decide_eq_true Da; have q265 : x5_1 < (l0.length : Int) := of_decide_eq_true Da; obtain ⟨ad265, e265, hx265_0, hx265_1⟩ := at_T119 HR0.out x5_1 p265 q265; have hw265_1 := hx265_1; have hw265_0 := hx265_0; cases e265
            replace hx265_0 := bz HB.out hx265_0; replace hx265_1 := bz HB.out hx265_1; replace p265 := eq_true p265; replace q265 := eq_true q265; refine start_ (n := 8) (S := fun w' => w'.cell? (ad265.add ((x5_1).toNat * 2)) = some (.string ((rd_T119 l0 x5_1).f0)) ∧ w'.cell? ⟨(ad265.add ((x5_1).toNat * 2)).block, (ad265.add ((x5_1).toNat * 2)).off + 1, none⟩ = some (.string ((rd_T119 l0 x5_1).f1))) (ds := []) (bv 8 0) (by kernel_rfl) rfl rfl ⟨((HB.out.cell (World.block_lt_of_cell? _ _ hw265_0)).trans hw265_0), ((HB.out.cell (World.block_lt_of_cell? _ _ hw265_1)).trans hw265_1)⟩ (fun hHeld => ?_); refine with_tabW laws_heldRdnS.tab4 laws_heldRdnS.bits4 (fun HT_ HW_ => ?_); generalize wr.drew = w17 at HB hx265_0 hx265_1 hHeld ⊢; refine pu 0 12 (bv 8 1) HT_.out (h := ?_); refine pu 1 13 (bv 8 3) HT_.out (h := ?_); refine pu 2 14 (bv 8 7) HT_.out (h := ?_); refine pu 3 15 (bv 8 15) HT_.out (h := ?_); refine pu 5 17 (bv 8 47) HT_.out (h := ?_); refine tk 4 16 (bv 8 63) HT_.out HW_.out hHeld (h := ?_); refine one_ (i := 6) (N := some 18) (bv 8 127) rfl rfl (one_of HT_.out (by kernel_rfl)) (by decide) (fun K hK => ?_); refine goes_ Try.func75 (by kernel_rfl) rfl #[.int .i64 x1_1] (by rfl) rfl rfl Ag ?_; with_reducible refine (laws_markText.calls k1 x1_1 t266 _ A5.out).mono ?_
            rintro e w18 ⟨rfl, hb⟩; refine ⟨_, rfl, ?_⟩; have n0_ := Aside0.mk (below_step By hb); clear HB; have HB := n0_; clear n0_; (try clear hb); (try clear hb2); (try clear hk); (try clear hi); refine hK.out _ _ ⟨((HB.out.cell (World.block_lt_of_cell? _ _ hw265_0)).trans hw265_0), ((HB.out.cell (World.block_lt_of_cell? _ _ hw265_1)).trans hw265_1)⟩ (fun hHeld => ?_); clear hK K; refine norm_ (a' := ?_) ?_ ?_; rotate_left
            · show Act.put _ (some 18) _ = _; simp only [Act.put, List.setIfInBounds_toArray, List.set_cons_zero, List.set_cons_succ, i64_w, i32_w]; rfl
            refine pu 7 19 (bv 8 255) HT_.out (h := ?_); refine done_ (done_of HT_.out (by kernel_rfl)) ?_; try go_wp2
            go_ret; exact ⟨Rf, By⟩
        · rw [if_neg c4] at H; exact absurd H (by simp)
      · rw [if_neg c3] at H; have c3b0 : decide (x5_1 < (l0.length : Int)) = false := decide_eq_false c3; clear c3; obtain rfl := Option.some.inj H; go_wp2; go_ret; exact ⟨Rf, By⟩

set_option linter.unusedVariables false
set_option linter.unusedSimpArgs false

/-! ### laws_heldStringS: function 86 -/
def laws_heldStringS.l0 : Nat → List ByteArray → Int → Int → Option (Int)
  | 0, _, _, _ => none
  | k + 1, x0, x1, x5 => if x5 < (x0.length : Int) then (if 0 ≤ x5 then ((laws_markText.f k x1).bind fun t270 => (if (rdOf ByteArray.empty x0 x5).toList = t270.toList then (laws_heldStringS.l0 k x0 (wrap64 (x1 + 1)) (wrap64 (x5 + 1))) else (some (-1)))) else (none)) else (some x1)
def laws_heldStringS.f (k : Nat) (l0 : List ByteArray) (a1 : Int) : Option (Int) := laws_heldStringS.l0 k l0 a1 0
theorem laws_heldStringS.mono_l : ∀ k, (∀ y0 y1 y2, LeO (laws_heldStringS.l0 k y0 y1 y2) (laws_heldStringS.l0 (k + 1) y0 y1 y2))
  | 0 => fun _ _ _ r h => by simp [laws_heldStringS.l0] at h
  | k + 1 => by
    have ih0 := laws_heldStringS.mono_l k
    · intro y0 y1 y2; unfold laws_heldStringS.l0; repeat' first
      | (with_reducible exact ih0 _ _ _)
      | (with_reducible exact laws_markText.mono _ _)
      | (with_reducible exact LeO.refl _)
      | (with_reducible exact LeO.none _)
      | (with_reducible refine LeO.ite ?_ ?_)
      | (with_reducible refine LeO.bind ?_ (fun _ => ?_))
theorem laws_heldStringS.mono : ∀ a0 a1 k, LeO (laws_heldStringS.f k a0 a1) (laws_heldStringS.f (k + 1) a0 a1) := by
  intro a0 a1 k; have ih0 := laws_heldStringS.mono_l k; unfold laws_heldStringS.f; repeat' first
      | (with_reducible exact ih0 _ _ _)
      | (with_reducible exact laws_markText.mono _ _)
      | (with_reducible exact LeO.refl _)
      | (with_reducible exact LeO.none _)
      | (with_reducible refine LeO.ite ?_ ?_)
      | (with_reducible refine LeO.bind ?_ (fun _ => ?_))
set_option maxHeartbeats 8000000 in
set_option maxRecDepth 100000 in
theorem laws_heldStringS.calls (k : Nat) (A0 : Option Addr) (c0 : Nat) (l0 : List ByteArray) (a1 : Int) (r : Int) (w : World) (hr0 : Kd.C Kd.string w A0 l0.length l0) (hc0 : l0.length ≤ c0) (h : laws_heldStringS.f k l0 a1 = some r) :
    Calls Try.prog 86 #[.slice A0 l0.length c0, .int .i64 a1] w fun e w' => e = .returned (.int .i64 r) ∧ Below w.heap.size w w' := by
  have HR0 := Aside0.mk hr0; have HC0 := Aside0.mk hc0; clear hr0 hc0; have HB := Aside0.mk (Below.refl w.heap.size w); have H : (laws_heldStringS.l0 k l0 a1 0) = some r := h; clear h; have H' := Aside0.mk H; clear H; go_enter Try.func86, Try.ntmps86; go_wp2; go_loopg [1, 5] k (fun kq v1 v5 w' => ∃ (x1_1 : Int) (x5_1 : Int), v1 = .int .i64 x1_1 ∧ v5 = .int .i64 x5_1 ∧ Aside0 (laws_heldStringS.l0 kq l0 x1_1 x5_1 = some r) ∧ Aside0 (kq ≤ k) ∧ Aside0 (Below w.heap.size w w'))
  case atStart => exact ⟨(a1), (0), (by first | rfl | (simp; done) | (simp [*]; done)), (by first | rfl | (simp; done) | (simp [*]; done)), H', ⟨Nat.le_refl _⟩, ⟨By⟩⟩
  case round =>
    clear H'; try clear p2
    obtain ⟨x1_1, x5_1, rfl, rfl, HA, HK1, HB⟩ := hrel; cases gk with
    | zero => exact absurd HA.out (by simp [laws_heldStringS.l0])
    | succ k1 =>
      have H := HA.out; clear HA; simp only [laws_heldStringS.l0] at H; by_cases c3 : x5_1 < (l0.length : Int)
      · rw [if_pos c3] at H; have c3b0 : decide (x5_1 < (l0.length : Int)) = true := decide_eq_true c3; clear c3; by_cases c4 : 0 ≤ x5_1
        · rw [if_pos c4] at H; have c4b0 : decide (0 ≤ x5_1) = true := decide_eq_true c4; clear c4; replace H := Option.bind_eq_some_iff.mp H; obtain ⟨t270, A50, H⟩ := H; (try dsimp only at H); have A5 := Aside0.mk A50; clear A50; by_cases c6 : (rdOf ByteArray.empty l0 x5_1).toList = t270.toList
          · rw [if_pos c6] at H; have c6b0 : ((rdOf ByteArray.empty l0 x5_1).toList == t270.toList) = true := beq_iff_eq.mpr c6; have c6b1 : ((rdOf ByteArray.empty l0 x5_1).toList != t270.toList) = false := bne_eq_false_iff_eq.mpr c6; clear c6; have H' := Aside0.mk H; clear H; try go_wp2
            have n0_ := Aside0.mk (below_drew1 HB.out); clear HB; have HB := n0_; clear n0_; have p269 : 0 ≤ (x5_1 : Int) := of_decide_eq_true Da; have q269 : x5_1 < (l0.length : Int) := of_decide_eq_true Da; obtain ⟨ad269, e269, hx269_0⟩ := Kd.at_string HR0.out x5_1 p269 q269; have hw269_0 := hx269_0; cases e269
            replace hx269_0 := bz HB.out hx269_0; replace p269 := eq_true p269; replace q269 := eq_true q269; refine start_ (n := 7) (S := fun w' => w'.cell? (ad269.add (x5_1).toNat) = some (.string (rdOf ByteArray.empty l0 x5_1))) (ds := []) (bv 7 0) (by kernel_rfl) rfl rfl (((HB.out.cell (World.block_lt_of_cell? _ _ hw269_0)).trans hw269_0)) (fun hHeld => ?_); generalize wr.drew = w7 at HB hx269_0 hHeld ⊢; refine pure_ (i := 0) (N := some 12) (v := ?_) (a' := ?_) (bv 7 1) rfl rfl (by kernel_rfl) (fun _ _ _ h => h) (Or.inl ⟨by rfl, ?_⟩) ?_ ?_; rotate_left
            · intro w'; go_simp; with_reducible rfl
            rotate_left
            · simp only [Act.put, List.setIfInBounds_toArray, List.set_cons_zero, List.set_cons_succ, i64_w, i32_w]; rfl
            refine pure_ (i := 1) (N := some 13) (v := ?_) (a' := ?_) (bv 7 3) rfl rfl (by kernel_rfl) (fun _ _ _ h => h) (Or.inl ⟨by rfl, ?_⟩) ?_ ?_; rotate_left
            · intro w'; go_simp; with_reducible rfl
            rotate_left
            · simp only [Act.put, List.setIfInBounds_toArray, List.set_cons_zero, List.set_cons_succ, i64_w, i32_w]; rfl
            refine pure_ (i := 2) (N := some 14) (v := ?_) (a' := ?_) (bv 7 7) rfl rfl (by kernel_rfl) (fun _ _ _ h => h) (Or.inl ⟨by rfl, ?_⟩) ?_ ?_; rotate_left
            · intro w'; go_simp; with_reducible rfl
            rotate_left
            · simp only [Act.put, List.setIfInBounds_toArray, List.set_cons_zero, List.set_cons_succ, i64_w, i32_w]; rfl
            refine pure_ (i := 4) (N := some 16) (v := ?_) (a' := ?_) (bv 7 23) rfl rfl (by kernel_rfl) (fun _ _ _ h => h) (Or.inl ⟨by rfl, ?_⟩) ?_ ?_; rotate_left
            · intro w'; go_simp; with_reducible rfl
            rotate_left
            · simp only [Act.put, List.setIfInBounds_toArray, List.set_cons_zero, List.set_cons_succ, i64_w, i32_w]; rfl
            refine take_ (i := 3) (N := some 15) (v := ?_) (a' := ?_) (bv 7 31) rfl rfl (by kernel_rfl) (fun _ _ _ h => h) (Or.inl ⟨by rfl, ?_⟩) hHeld ?_ ?_; rotate_left
            · intro w' s0; go_simp; with_reducible rfl
            rotate_left
            · simp only [Act.put, List.setIfInBounds_toArray, List.set_cons_zero, List.set_cons_succ, i64_w, i32_w]; rfl
            refine one_ (i := 5) (N := some 17) (bv 7 63) rfl rfl (by kernel_rfl) (by decide) (fun K hK => ?_); refine goes_ Try.func75 (by kernel_rfl) rfl #[.int .i64 x1_1] (by rfl) rfl rfl Ag ?_; with_reducible refine (laws_markText.calls k1 x1_1 t270 _ A5.out).mono ?_
            rintro e w8 ⟨rfl, hb⟩; refine ⟨_, rfl, ?_⟩; have n0_ := Aside0.mk (below_step By hb); clear HB; have HB := n0_; clear n0_; (try clear hb); (try clear hb2); (try clear hk); (try clear hi); refine hK.out _ _ (((HB.out.cell (World.block_lt_of_cell? _ _ hw269_0)).trans hw269_0)) (fun hHeld => ?_); clear hK K; refine norm_ (a' := ?_) ?_ ?_; rotate_left
            · show Act.put _ (some 17) _ = _; simp only [Act.put, List.setIfInBounds_toArray, List.set_cons_zero, List.set_cons_succ, i64_w, i32_w]; rfl
            refine pure_ (i := 6) (N := some 18) (v := ?_) (a' := ?_) (bv 7 127) rfl rfl (by kernel_rfl) (fun _ _ _ h => h) (Or.inl ⟨by rfl, ?_⟩) ?_ ?_; rotate_left
            · intro w'; go_simp; with_reducible rfl
            rotate_left
            · simp only [Act.put, List.setIfInBounds_toArray, List.set_cons_zero, List.set_cons_succ, i64_w, i32_w]; rfl
            refine done_ (by kernel_rfl) ?_; try go_wp2
            go_roundg k1
            case measure => have := HK1.out; omega
            case rel => exact ⟨(wrap64 (x1_1 + 1)), (wrap64 (x5_1 + 1)), (by first | rfl | (simp; done) | (simp [*]; done)), (by first | rfl | (simp; done) | (simp [*]; done)), H', ⟨by have := HK1.out; omega⟩, ⟨By⟩⟩
          · rw [if_neg c6] at H; have c6b0 : ((rdOf ByteArray.empty l0 x5_1).toList == t270.toList) = false := beq_eq_false_iff_ne.mpr c6; have c6b1 : ((rdOf ByteArray.empty l0 x5_1).toList != t270.toList) = true := bne_iff_ne.mpr c6; obtain rfl := Option.some.inj H; try go_wp2
            have n0_ := Aside0.mk (below_drew1 HB.out); clear HB; have HB := n0_; clear n0_; have p269 : 0 ≤ (x5_1 : Int) := of_decide_eq_true Da; have q269 : x5_1 < (l0.length : Int) := of_decide_eq_true Da; obtain ⟨ad269, e269, hx269_0⟩ := Kd.at_string HR0.out x5_1 p269 q269; have hw269_0 := hx269_0; cases e269
            replace hx269_0 := bz HB.out hx269_0; replace p269 := eq_true p269; replace q269 := eq_true q269; refine start_ (n := 7) (S := fun w' => w'.cell? (ad269.add (x5_1).toNat) = some (.string (rdOf ByteArray.empty l0 x5_1))) (ds := []) (bv 7 0) (by kernel_rfl) rfl rfl (((HB.out.cell (World.block_lt_of_cell? _ _ hw269_0)).trans hw269_0)) (fun hHeld => ?_); generalize wr.drew = w9 at HB hx269_0 hHeld ⊢; refine pure_ (i := 0) (N := some 12) (v := ?_) (a' := ?_) (bv 7 1) rfl rfl (by kernel_rfl) (fun _ _ _ h => h) (Or.inl ⟨by rfl, ?_⟩) ?_ ?_; rotate_left
            · intro w'; go_simp; with_reducible rfl
            rotate_left
            · simp only [Act.put, List.setIfInBounds_toArray, List.set_cons_zero, List.set_cons_succ, i64_w, i32_w]; rfl
            refine pure_ (i := 1) (N := some 13) (v := ?_) (a' := ?_) (bv 7 3) rfl rfl (by kernel_rfl) (fun _ _ _ h => h) (Or.inl ⟨by rfl, ?_⟩) ?_ ?_; rotate_left
            · intro w'; go_simp; with_reducible rfl
            rotate_left
            · simp only [Act.put, List.setIfInBounds_toArray, List.set_cons_zero, List.set_cons_succ, i64_w, i32_w]; rfl
            refine pure_ (i := 2) (N := some 14) (v := ?_) (a' := ?_) (bv 7 7) rfl rfl (by kernel_rfl) (fun _ _ _ h => h) (Or.inl ⟨by rfl, ?_⟩) ?_ ?_; rotate_left
            · intro w'; go_simp; with_reducible rfl
            rotate_left
            · simp only [Act.put, List.setIfInBounds_toArray, List.set_cons_zero, List.set_cons_succ, i64_w, i32_w]; rfl
            refine pure_ (i := 4) (N := some 16) (v := ?_) (a' := ?_) (bv 7 23) rfl rfl (by kernel_rfl) (fun _ _ _ h => h) (Or.inl ⟨by rfl, ?_⟩) ?_ ?_; rotate_left
            · intro w'; go_simp; with_reducible rfl
            rotate_left
            · simp only [Act.put, List.setIfInBounds_toArray, List.set_cons_zero, List.set_cons_succ, i64_w, i32_w]; rfl
            refine take_ (i := 3) (N := some 15) (v := ?_) (a' := ?_) (bv 7 31) rfl rfl (by kernel_rfl) (fun _ _ _ h => h) (Or.inl ⟨by rfl, ?_⟩) hHeld ?_ ?_; rotate_left
            · intro w' s0; go_simp; with_reducible rfl
            rotate_left
            · simp only [Act.put, List.setIfInBounds_toArray, List.set_cons_zero, List.set_cons_succ, i64_w, i32_w]; rfl
            refine one_ (i := 5) (N := some 17) (bv 7 63) rfl rfl (by kernel_rfl) (by decide) (fun K hK => ?_); refine goes_ Try.func75 (by kernel_rfl) rfl #[.int .i64 x1_1] (by rfl) rfl rfl Ag ?_; with_reducible refine (laws_markText.calls k1 x1_1 t270 _ A5.out).mono ?_
            rintro e w10 ⟨rfl, hb⟩; refine ⟨_, rfl, ?_⟩; have n0_ := Aside0.mk (below_step By hb); clear HB; have HB := n0_; clear n0_; (try clear hb); (try clear hb2); (try clear hk); (try clear hi); refine hK.out _ _ (((HB.out.cell (World.block_lt_of_cell? _ _ hw269_0)).trans hw269_0)) (fun hHeld => ?_); clear hK K; refine norm_ (a' := ?_) ?_ ?_; rotate_left
            · show Act.put _ (some 17) _ = _; simp only [Act.put, List.setIfInBounds_toArray, List.set_cons_zero, List.set_cons_succ, i64_w, i32_w]; rfl
            refine pure_ (i := 6) (N := some 18) (v := ?_) (a' := ?_) (bv 7 127) rfl rfl (by kernel_rfl) (fun _ _ _ h => h) (Or.inl ⟨by rfl, ?_⟩) ?_ ?_; rotate_left
            · intro w'; go_simp; with_reducible rfl
            rotate_left
            · simp only [Act.put, List.setIfInBounds_toArray, List.set_cons_zero, List.set_cons_succ, i64_w, i32_w]; rfl
            refine done_ (by kernel_rfl) ?_; try go_wp2
            go_ret; exact ⟨Rf, By⟩
        · rw [if_neg c4] at H; exact absurd H (by simp)
      · rw [if_neg c3] at H; have c3b0 : decide (x5_1 < (l0.length : Int)) = false := decide_eq_false c3; clear c3; obtain rfl := Option.some.inj H; go_wp2; go_ret; exact ⟨Rf, By⟩

set_option linter.unusedVariables false
set_option linter.unusedSimpArgs false

/-! ### laws_heldAttrS: function 69 -/
def laws_heldAttrS.l0 : Nat → List (S112) → Int → Int → Option (Int)
  | 0, _, _, _ => none
  | k + 1, x0, x1, x5 => if x5 < (x0.length : Int) then (if 0 ≤ x5 then ((laws_markText.f k x1).bind fun t272 => (if ((rd_T112 x0 x5).f0).toList = t272.toList then ((laws_heldStringS.f k ((rd_T112 x0 x5).f1) (wrap64 (x1 + 1))).bind fun t274 => (if t274 < 0 then (some (-1)) else (laws_heldAttrS.l0 k x0 t274 (wrap64 (x5 + 1))))) else (some (-1)))) else (none)) else (some x1)
def laws_heldAttrS.f (k : Nat) (l0 : List (S112)) (a1 : Int) : Option (Int) := laws_heldAttrS.l0 k l0 a1 0
theorem laws_heldAttrS.mono_l : ∀ k, (∀ y0 y1 y2, LeO (laws_heldAttrS.l0 k y0 y1 y2) (laws_heldAttrS.l0 (k + 1) y0 y1 y2))
  | 0 => fun _ _ _ r h => by simp [laws_heldAttrS.l0] at h
  | k + 1 => by
    have ih0 := laws_heldAttrS.mono_l k
    · intro y0 y1 y2; unfold laws_heldAttrS.l0; repeat' first
      | (with_reducible exact ih0 _ _ _)
      | (with_reducible exact laws_heldStringS.mono _ _ _)
      | (with_reducible exact laws_markText.mono _ _)
      | (with_reducible exact LeO.refl _)
      | (with_reducible exact LeO.none _)
      | (with_reducible refine LeO.ite ?_ ?_)
      | (with_reducible refine LeO.bind ?_ (fun _ => ?_))
theorem laws_heldAttrS.mono : ∀ a0 a1 k, LeO (laws_heldAttrS.f k a0 a1) (laws_heldAttrS.f (k + 1) a0 a1) := by
  intro a0 a1 k; have ih0 := laws_heldAttrS.mono_l k; unfold laws_heldAttrS.f; repeat' first
      | (with_reducible exact ih0 _ _ _)
      | (with_reducible exact laws_heldStringS.mono _ _ _)
      | (with_reducible exact laws_markText.mono _ _)
      | (with_reducible exact LeO.refl _)
      | (with_reducible exact LeO.none _)
      | (with_reducible refine LeO.ite ?_ ?_)
      | (with_reducible refine LeO.bind ?_ (fun _ => ?_))
def laws_heldAttrS.T4 : Bool × List (List Nat × List Nat) := (true, [([], []), ([], []), ([0, 1], [0, 1]), ([2], [2]), ([3], [3]), ([], []), ([5], [5]), ([4, 6], [4, 6])])
def laws_heldAttrS.B4 : List Nat := [0, 0, 3, 7, 15, 0, 32, 127]
theorem laws_heldAttrS.tab4 : rtab .any (opsOf Try.f69 4) = laws_heldAttrS.T4 := by kernel_rfl
theorem laws_heldAttrS.bits4 : waitsOk laws_heldAttrS.T4.2 laws_heldAttrS.B4 = true := by kernel_rfl
set_option maxHeartbeats 8000000 in
set_option maxRecDepth 100000 in
theorem laws_heldAttrS.calls (k : Nat) (A0 : Option Addr) (c0 : Nat) (l0 : List (S112)) (a1 : Int) (r : Int) (w : World) (hr0 : Kd.C k112 w A0 l0.length l0) (hc0 : l0.length ≤ c0) (h : laws_heldAttrS.f k l0 a1 = some r) :
    Calls Try.prog 69 #[.slice A0 l0.length c0, .int .i64 a1] w fun e w' => e = .returned (.int .i64 r) ∧ Below w.heap.size w w' := by
  have HR0 := Aside0.mk hr0; have HC0 := Aside0.mk hc0; clear hr0 hc0; have HB := Aside0.mk (Below.refl w.heap.size w); have H : (laws_heldAttrS.l0 k l0 a1 0) = some r := h; clear h; have H' := Aside0.mk H; clear H; go_enter Try.func69, Try.ntmps69; go_wp2; go_loopg [1, 5] k (fun kq v1 v5 w' => ∃ (x1_1 : Int) (x5_1 : Int), v1 = .int .i64 x1_1 ∧ v5 = .int .i64 x5_1 ∧ Aside0 (laws_heldAttrS.l0 kq l0 x1_1 x5_1 = some r) ∧ Aside0 (kq ≤ k) ∧ Aside0 (Below w.heap.size w w'))
  case atStart => exact ⟨(a1), (0), (by first | rfl | (simp; done) | (simp [*]; done)), (by first | rfl | (simp; done) | (simp [*]; done)), H', ⟨Nat.le_refl _⟩, ⟨By⟩⟩
  case round =>
    clear H'; try clear p2
    obtain ⟨x1_1, x5_1, rfl, rfl, HA, HK1, HB⟩ := hrel; cases gk with
    | zero => exact absurd HA.out (by simp [laws_heldAttrS.l0])
    | succ k1 =>
      have H := HA.out; clear HA; simp only [laws_heldAttrS.l0] at H; by_cases c3 : x5_1 < (l0.length : Int)
      · rw [if_pos c3] at H; have c3b0 : decide (x5_1 < (l0.length : Int)) = true := decide_eq_true c3; clear c3; by_cases c4 : 0 ≤ x5_1
        · rw [if_pos c4] at H; have c4b0 : decide (0 ≤ x5_1) = true := decide_eq_true c4; clear c4; replace H := Option.bind_eq_some_iff.mp H; obtain ⟨t272, A50, H⟩ := H; (try dsimp only at H); have A5 := Aside0.mk A50; clear A50; by_cases c6 : ((rd_T112 l0 x5_1).f0).toList = t272.toList
          · rw [if_pos c6] at H; have c6b0 : (((rd_T112 l0 x5_1).f0).toList == t272.toList) = true := beq_iff_eq.mpr c6; have c6b1 : (((rd_T112 l0 x5_1).f0).toList != t272.toList) = false := bne_eq_false_iff_eq.mpr c6; clear c6; replace H := Option.bind_eq_some_iff.mp H; obtain ⟨t274, A70, H⟩ := H; (try dsimp only at H); have A7 := Aside0.mk A70; clear A70; by_cases c8 : t274 < 0
            · rw [if_pos c8] at H; have c8b0 : decide (t274 < 0) = true := decide_eq_true c8; clear c8; obtain rfl := Option.some.inj H; try go_wp2
              have n0_ := Aside0.mk (below_drew1 HB.out); clear HB; have HB := n0_; clear n0_; have p271 : 0 ≤ (x5_1 : Int) := of_decide_eq_true Da; have q271 : x5_1 < (l0.length : Int) := of_decide_eq_true Da; obtain ⟨ad271, A271_1, c271_1, e271, hx271_0, hx271_1, hl271_1, hi271_1⟩ := at_T112 HR0.out x5_1 p271 q271; have hw271_1 := hx271_1; have hw271_0 := hx271_0; cases e271
              replace hx271_0 := bz HB.out hx271_0; replace hx271_1 := bz HB.out hx271_1; have HR271_1 := Aside0.mk hi271_1; have HC271_1 := Aside0.mk hl271_1; clear hi271_1 hl271_1; replace p271 := eq_true p271; replace q271 := eq_true q271; refine start_ (n := 8) (S := fun w' => w'.cell? (ad271.add ((x5_1).toNat * 2)) = some (.string ((rd_T112 l0 x5_1).f0)) ∧ w'.cell? ⟨(ad271.add ((x5_1).toNat * 2)).block, (ad271.add ((x5_1).toNat * 2)).off + 1, none⟩ = some (.slice A271_1 ((rd_T112 l0 x5_1).f1).length c271_1)) (ds := []) (bv 8 0) (by kernel_rfl) rfl rfl ⟨((HB.out.cell (World.block_lt_of_cell? _ _ hw271_0)).trans hw271_0), ((HB.out.cell (World.block_lt_of_cell? _ _ hw271_1)).trans hw271_1)⟩ (fun hHeld => ?_); refine with_tabW laws_heldAttrS.tab4 laws_heldAttrS.bits4 (fun HT_ HW_ => ?_); generalize wr.drew = w9 at HB HR271_1 hx271_0 hx271_1 hHeld ⊢; refine pu 0 12 (bv 8 1) HT_.out (h := ?_); refine pu 1 13 (bv 8 3) HT_.out (h := ?_); refine pu 2 14 (bv 8 7) HT_.out (h := ?_); refine pu 3 15 (bv 8 15) HT_.out (h := ?_); refine pu 5 17 (bv 8 47) HT_.out (h := ?_); refine tk 4 16 (bv 8 63) HT_.out HW_.out hHeld (h := ?_); refine one_ (i := 6) (N := some 18) (bv 8 127) rfl rfl (one_of HT_.out (by kernel_rfl)) (by decide) (fun K hK => ?_); refine goes_ Try.func75 (by kernel_rfl) rfl #[.int .i64 x1_1] (by rfl) rfl rfl Ag ?_; with_reducible refine (laws_markText.calls k1 x1_1 t272 _ A5.out).mono ?_
              rintro e w10 ⟨rfl, hb⟩; refine ⟨_, rfl, ?_⟩; have n0_ := Aside0.mk (below_step By hb); clear HB; have HB := n0_; clear n0_; (try clear hb); (try clear hb2); (try clear hk); (try clear hi); refine hK.out _ _ ⟨((HB.out.cell (World.block_lt_of_cell? _ _ hw271_0)).trans hw271_0), ((HB.out.cell (World.block_lt_of_cell? _ _ hw271_1)).trans hw271_1)⟩ (fun hHeld => ?_); clear hK K; refine norm_ (a' := ?_) ?_ ?_; rotate_left
              · show Act.put _ (some 18) _ = _; simp only [Act.put, List.setIfInBounds_toArray, List.set_cons_zero, List.set_cons_succ, i64_w, i32_w]; rfl
              refine pu 7 19 (bv 8 255) HT_.out (h := ?_); refine done_ (done_of HT_.out (by kernel_rfl)) ?_; have p273 : 0 ≤ (x5_1 : Int) := of_decide_eq_true Da; have q273 : x5_1 < (l0.length : Int) := of_decide_eq_true Da; obtain ⟨ad273, A273_1, c273_1, e273, hx273_0, hx273_1, hl273_1, hi273_1⟩ := at_T112 HR0.out x5_1 p273 q273; obtain rfl : ad271 = ad273 := (by injection e273); (try (have h_ := hx273_0.symm.trans hw271_0; injection h_ with h_; injection h_ with h1_ _ h2_; subst h1_ h2_))   -- fixheld
              (try (have h_ := hx273_1.symm.trans hw271_1; injection h_ with h_; injection h_ with h1_ _ h2_; subst h1_ h2_))   -- fixheld
              replace hx273_0 := bz HB.out hx273_0; replace hx273_1 := bz HB.out hx273_1; have HR273_1 := Aside0.mk hi273_1; have HC273_1 := Aside0.mk hl273_1; clear hi273_1 hl273_1; replace p273 := eq_true p273; replace q273 := eq_true q273; try go_wp2_with (first | ((with_reducible refine gate_callee (f := 86) rfl ?_); refine goesL_ (some 28) rfl rfl Try.func86 (by kernel_rfl) rfl #[.slice A273_1 ((rd_T112 l0 x5_1).f1).length c273_1, .int .i64 (wrap64 (x1_1 + 1))] rfl Ag ?_; (with_reducible refine (laws_heldStringS.calls k1 _ _ ((rd_T112 l0 x5_1).f1) (wrap64 (x1_1 + 1)) t274 _ ?side1 ?side2 A7.out).mono ?_); (case side1 => exact rC (Kd.C_below HR273_1.out HB.out)); (case side2 => exact HC273_1.out); rintro e w11 ⟨rfl, hb⟩; refine ⟨_, rfl, ?_⟩; have n0_ := Aside0.mk (below_step By hb); clear HB; have HB := n0_; clear n0_; (try clear hb); (try clear hb2); (try clear hk); (try clear hi)))
              go_ret; exact ⟨Rf, By⟩
            · rw [if_neg c8] at H; have c8b0 : decide (t274 < 0) = false := decide_eq_false c8; clear c8; have H' := Aside0.mk H; clear H; try go_wp2
              have n0_ := Aside0.mk (below_drew1 HB.out); clear HB; have HB := n0_; clear n0_; have p271 : 0 ≤ (x5_1 : Int) := of_decide_eq_true Da; have q271 : x5_1 < (l0.length : Int) := of_decide_eq_true Da; obtain ⟨ad271, A271_1, c271_1, e271, hx271_0, hx271_1, hl271_1, hi271_1⟩ := at_T112 HR0.out x5_1 p271 q271; have hw271_1 := hx271_1; have hw271_0 := hx271_0; cases e271
              replace hx271_0 := bz HB.out hx271_0; replace hx271_1 := bz HB.out hx271_1; have HR271_1 := Aside0.mk hi271_1; have HC271_1 := Aside0.mk hl271_1; clear hi271_1 hl271_1; replace p271 := eq_true p271; replace q271 := eq_true q271; refine start_ (n := 8) (S := fun w' => w'.cell? (ad271.add ((x5_1).toNat * 2)) = some (.string ((rd_T112 l0 x5_1).f0)) ∧ w'.cell? ⟨(ad271.add ((x5_1).toNat * 2)).block, (ad271.add ((x5_1).toNat * 2)).off + 1, none⟩ = some (.slice A271_1 ((rd_T112 l0 x5_1).f1).length c271_1)) (ds := []) (bv 8 0) (by kernel_rfl) rfl rfl ⟨((HB.out.cell (World.block_lt_of_cell? _ _ hw271_0)).trans hw271_0), ((HB.out.cell (World.block_lt_of_cell? _ _ hw271_1)).trans hw271_1)⟩ (fun hHeld => ?_); refine with_tabW laws_heldAttrS.tab4 laws_heldAttrS.bits4 (fun HT_ HW_ => ?_); generalize wr.drew = w12 at HB HR271_1 hx271_0 hx271_1 hHeld ⊢; refine pu 0 12 (bv 8 1) HT_.out (h := ?_); refine pu 1 13 (bv 8 3) HT_.out (h := ?_); refine pu 2 14 (bv 8 7) HT_.out (h := ?_); refine pu 3 15 (bv 8 15) HT_.out (h := ?_); refine pu 5 17 (bv 8 47) HT_.out (h := ?_); refine tk 4 16 (bv 8 63) HT_.out HW_.out hHeld (h := ?_); refine one_ (i := 6) (N := some 18) (bv 8 127) rfl rfl (one_of HT_.out (by kernel_rfl)) (by decide) (fun K hK => ?_); refine goes_ Try.func75 (by kernel_rfl) rfl #[.int .i64 x1_1] (by rfl) rfl rfl Ag ?_; with_reducible refine (laws_markText.calls k1 x1_1 t272 _ A5.out).mono ?_
              rintro e w13 ⟨rfl, hb⟩; refine ⟨_, rfl, ?_⟩; have n0_ := Aside0.mk (below_step By hb); clear HB; have HB := n0_; clear n0_; (try clear hb); (try clear hb2); (try clear hk); (try clear hi); refine hK.out _ _ ⟨((HB.out.cell (World.block_lt_of_cell? _ _ hw271_0)).trans hw271_0), ((HB.out.cell (World.block_lt_of_cell? _ _ hw271_1)).trans hw271_1)⟩ (fun hHeld => ?_); clear hK K; refine norm_ (a' := ?_) ?_ ?_; rotate_left
              · show Act.put _ (some 18) _ = _; simp only [Act.put, List.setIfInBounds_toArray, List.set_cons_zero, List.set_cons_succ, i64_w, i32_w]; rfl
              refine pu 7 19 (bv 8 255) HT_.out (h := ?_); refine done_ (done_of HT_.out (by kernel_rfl)) ?_; have p273 : 0 ≤ (x5_1 : Int) := of_decide_eq_true Da; have q273 : x5_1 < (l0.length : Int) := of_decide_eq_true Da; obtain ⟨ad273, A273_1, c273_1, e273, hx273_0, hx273_1, hl273_1, hi273_1⟩ := at_T112 HR0.out x5_1 p273 q273; obtain rfl : ad271 = ad273 := (by injection e273); (try (have h_ := hx273_0.symm.trans hw271_0; injection h_ with h_; injection h_ with h1_ _ h2_; subst h1_ h2_))   -- fixheld
              (try (have h_ := hx273_1.symm.trans hw271_1; injection h_ with h_; injection h_ with h1_ _ h2_; subst h1_ h2_))   -- fixheld
              replace hx273_0 := bz HB.out hx273_0; replace hx273_1 := bz HB.out hx273_1; have HR273_1 := Aside0.mk hi273_1; have HC273_1 := Aside0.mk hl273_1; clear hi273_1 hl273_1; replace p273 := eq_true p273; replace q273 := eq_true q273; try go_wp2_with (first | ((with_reducible refine gate_callee (f := 86) rfl ?_); refine goesL_ (some 28) rfl rfl Try.func86 (by kernel_rfl) rfl #[.slice A273_1 ((rd_T112 l0 x5_1).f1).length c273_1, .int .i64 (wrap64 (x1_1 + 1))] rfl Ag ?_; (with_reducible refine (laws_heldStringS.calls k1 _ _ ((rd_T112 l0 x5_1).f1) (wrap64 (x1_1 + 1)) t274 _ ?side1 ?side2 A7.out).mono ?_); (case side1 => exact rC (Kd.C_below HR273_1.out HB.out)); (case side2 => exact HC273_1.out); rintro e w14 ⟨rfl, hb⟩; refine ⟨_, rfl, ?_⟩; have n0_ := Aside0.mk (below_step By hb); clear HB; have HB := n0_; clear n0_; (try clear hb); (try clear hb2); (try clear hk); (try clear hi)))
              go_roundg k1
              case measure => have := HK1.out; omega
              case rel => exact ⟨(t274), (wrap64 (x5_1 + 1)), (by first | rfl | (simp; done) | (simp [*]; done)), (by first | rfl | (simp; done) | (simp [*]; done)), H', ⟨by have := HK1.out; omega⟩, ⟨By⟩⟩
          · rw [if_neg c6] at H; have c6b0 : (((rd_T112 l0 x5_1).f0).toList == t272.toList) = false := beq_eq_false_iff_ne.mpr c6; have c6b1 : (((rd_T112 l0 x5_1).f0).toList != t272.toList) = true := bne_iff_ne.mpr c6; obtain rfl := Option.some.inj H; try go_wp2
            have n0_ := Aside0.mk (below_drew1 HB.out); clear HB; have HB := n0_; clear n0_; have p271 : 0 ≤ (x5_1 : Int) := of_decide_eq_true Da; have q271 : x5_1 < (l0.length : Int) := of_decide_eq_true Da; obtain ⟨ad271, A271_1, c271_1, e271, hx271_0, hx271_1, hl271_1, hi271_1⟩ := at_T112 HR0.out x5_1 p271 q271; have hw271_1 := hx271_1; have hw271_0 := hx271_0; cases e271
            replace hx271_0 := bz HB.out hx271_0; replace hx271_1 := bz HB.out hx271_1; have HR271_1 := Aside0.mk hi271_1; have HC271_1 := Aside0.mk hl271_1; clear hi271_1 hl271_1; replace p271 := eq_true p271; replace q271 := eq_true q271; refine start_ (n := 8) (S := fun w' => w'.cell? (ad271.add ((x5_1).toNat * 2)) = some (.string ((rd_T112 l0 x5_1).f0)) ∧ w'.cell? ⟨(ad271.add ((x5_1).toNat * 2)).block, (ad271.add ((x5_1).toNat * 2)).off + 1, none⟩ = some (.slice A271_1 ((rd_T112 l0 x5_1).f1).length c271_1)) (ds := []) (bv 8 0) (by kernel_rfl) rfl rfl ⟨((HB.out.cell (World.block_lt_of_cell? _ _ hw271_0)).trans hw271_0), ((HB.out.cell (World.block_lt_of_cell? _ _ hw271_1)).trans hw271_1)⟩ (fun hHeld => ?_); refine with_tabW laws_heldAttrS.tab4 laws_heldAttrS.bits4 (fun HT_ HW_ => ?_); generalize wr.drew = w15 at HB HR271_1 hx271_0 hx271_1 hHeld ⊢; refine pu 0 12 (bv 8 1) HT_.out (h := ?_); refine pu 1 13 (bv 8 3) HT_.out (h := ?_); refine pu 2 14 (bv 8 7) HT_.out (h := ?_); refine pu 3 15 (bv 8 15) HT_.out (h := ?_); refine pu 5 17 (bv 8 47) HT_.out (h := ?_); refine tk 4 16 (bv 8 63) HT_.out HW_.out hHeld (h := ?_); refine one_ (i := 6) (N := some 18) (bv 8 127) rfl rfl (one_of HT_.out (by kernel_rfl)) (by decide) (fun K hK => ?_); refine goes_ Try.func75 (by kernel_rfl) rfl #[.int .i64 x1_1] (by rfl) rfl rfl Ag ?_; with_reducible refine (laws_markText.calls k1 x1_1 t272 _ A5.out).mono ?_
            rintro e w16 ⟨rfl, hb⟩; refine ⟨_, rfl, ?_⟩; have n0_ := Aside0.mk (below_step By hb); clear HB; have HB := n0_; clear n0_; (try clear hb); (try clear hb2); (try clear hk); (try clear hi); refine hK.out _ _ ⟨((HB.out.cell (World.block_lt_of_cell? _ _ hw271_0)).trans hw271_0), ((HB.out.cell (World.block_lt_of_cell? _ _ hw271_1)).trans hw271_1)⟩ (fun hHeld => ?_); clear hK K; refine norm_ (a' := ?_) ?_ ?_; rotate_left
            · show Act.put _ (some 18) _ = _; simp only [Act.put, List.setIfInBounds_toArray, List.set_cons_zero, List.set_cons_succ, i64_w, i32_w]; rfl
            refine pu 7 19 (bv 8 255) HT_.out (h := ?_); refine done_ (done_of HT_.out (by kernel_rfl)) ?_; try go_wp2
            go_ret; exact ⟨Rf, By⟩
        · rw [if_neg c4] at H; exact absurd H (by simp)
      · rw [if_neg c3] at H; have c3b0 : decide (x5_1 < (l0.length : Int)) = false := decide_eq_false c3; clear c3; obtain rfl := Option.some.inj H; go_wp2; go_ret; exact ⟨Rf, By⟩

set_option linter.unusedVariables false
set_option linter.unusedSimpArgs false

/-! ### laws_heldEntryS: function 29 -/
def laws_heldEntryS.l0 : Nat → List (S89) → Int → Int → Option (Int)
  | 0, _, _, _ => none
  | k + 1, x0, x1, x5 => if x5 < (x0.length : Int) then (if 0 ≤ x5 then ((laws_heldRdnS.f k ((rd_T89 x0 x5).f0) x1).bind fun t276 => (if t276 < 0 then (some (-1)) else ((laws_heldAttrS.f k ((rd_T89 x0 x5).f1) t276).bind fun t278 => (if t278 < 0 then (some (-1)) else (laws_heldEntryS.l0 k x0 t278 (wrap64 (x5 + 1))))))) else (none)) else (some x1)
def laws_heldEntryS.f (k : Nat) (l0 : List (S89)) (a1 : Int) : Option (Int) := laws_heldEntryS.l0 k l0 a1 0
theorem laws_heldEntryS.mono_l : ∀ k, (∀ y0 y1 y2, LeO (laws_heldEntryS.l0 k y0 y1 y2) (laws_heldEntryS.l0 (k + 1) y0 y1 y2))
  | 0 => fun _ _ _ r h => by simp [laws_heldEntryS.l0] at h
  | k + 1 => by
    have ih0 := laws_heldEntryS.mono_l k
    · intro y0 y1 y2; unfold laws_heldEntryS.l0; repeat' first
      | (with_reducible exact ih0 _ _ _)
      | (with_reducible exact laws_heldAttrS.mono _ _ _)
      | (with_reducible exact laws_heldRdnS.mono _ _ _)
      | (with_reducible exact LeO.refl _)
      | (with_reducible exact LeO.none _)
      | (with_reducible refine LeO.ite ?_ ?_)
      | (with_reducible refine LeO.bind ?_ (fun _ => ?_))
theorem laws_heldEntryS.mono : ∀ a0 a1 k, LeO (laws_heldEntryS.f k a0 a1) (laws_heldEntryS.f (k + 1) a0 a1) := by
  intro a0 a1 k; have ih0 := laws_heldEntryS.mono_l k; unfold laws_heldEntryS.f; repeat' first
      | (with_reducible exact ih0 _ _ _)
      | (with_reducible exact laws_heldAttrS.mono _ _ _)
      | (with_reducible exact laws_heldRdnS.mono _ _ _)
      | (with_reducible exact LeO.refl _)
      | (with_reducible exact LeO.none _)
      | (with_reducible refine LeO.ite ?_ ?_)
      | (with_reducible refine LeO.bind ?_ (fun _ => ?_))
set_option maxHeartbeats 8000000 in
set_option maxRecDepth 100000 in
theorem laws_heldEntryS.calls (k : Nat) (A0 : Option Addr) (c0 : Nat) (l0 : List (S89)) (a1 : Int) (r : Int) (w : World) (hr0 : Kd.C k89 w A0 l0.length l0) (hc0 : l0.length ≤ c0) (h : laws_heldEntryS.f k l0 a1 = some r) :
    Calls Try.prog 29 #[.slice A0 l0.length c0, .int .i64 a1] w fun e w' => e = .returned (.int .i64 r) ∧ Below w.heap.size w w' := by
  have HR0 := Aside0.mk hr0; have HC0 := Aside0.mk hc0; clear hr0 hc0; have HB := Aside0.mk (Below.refl w.heap.size w); have H : (laws_heldEntryS.l0 k l0 a1 0) = some r := h; clear h; have H' := Aside0.mk H; clear H; go_enter Try.func29, Try.ntmps29; go_wp2; go_loopg [1, 5] k (fun kq v1 v5 w' => ∃ (x1_1 : Int) (x5_1 : Int), v1 = .int .i64 x1_1 ∧ v5 = .int .i64 x5_1 ∧ Aside0 (laws_heldEntryS.l0 kq l0 x1_1 x5_1 = some r) ∧ Aside0 (kq ≤ k) ∧ Aside0 (Below w.heap.size w w'))
  case atStart => exact ⟨(a1), (0), (by first | rfl | (simp; done) | (simp [*]; done)), (by first | rfl | (simp; done) | (simp [*]; done)), H', ⟨Nat.le_refl _⟩, ⟨By⟩⟩
  case round =>
    clear H'; try clear c2
    try clear p2
    obtain ⟨x1_1, x5_1, rfl, rfl, HA, HK1, HB⟩ := hrel; cases gk with
    | zero => exact absurd HA.out (by simp [laws_heldEntryS.l0])
    | succ k1 =>
      have H := HA.out; clear HA; simp only [laws_heldEntryS.l0] at H; by_cases c3 : x5_1 < (l0.length : Int)
      · rw [if_pos c3] at H; have c3b0 : decide (x5_1 < (l0.length : Int)) = true := decide_eq_true c3; clear c3; by_cases c4 : 0 ≤ x5_1
        · rw [if_pos c4] at H; have c4b0 : decide (0 ≤ x5_1) = true := decide_eq_true c4; clear c4; replace H := Option.bind_eq_some_iff.mp H; obtain ⟨t276, A50, H⟩ := H; (try dsimp only at H); have A5 := Aside0.mk A50; clear A50; by_cases c6 : t276 < 0
          · rw [if_pos c6] at H; have c6b0 : decide (t276 < 0) = true := decide_eq_true c6; clear c6; obtain rfl := Option.some.inj H; have p275 : 0 ≤ (x5_1 : Int) := of_decide_eq_true Da; have q275 : x5_1 < (l0.length : Int) := of_decide_eq_true Da; obtain ⟨ad275, A275_0, c275_0, A275_1, c275_1, e275, hx275_0, hx275_1, hl275_0, hi275_0, hl275_1, hi275_1⟩ := at_T89 HR0.out x5_1 p275 q275; cases e275
            replace hx275_0 := bz HB.out hx275_0; replace hx275_1 := bz HB.out hx275_1; have HR275_0 := Aside0.mk hi275_0; have HC275_0 := Aside0.mk hl275_0; clear hi275_0 hl275_0; have HR275_1 := Aside0.mk hi275_1; have HC275_1 := Aside0.mk hl275_1; clear hi275_1 hl275_1; replace p275 := eq_true p275; replace q275 := eq_true q275; go_wp2_with (first | ((with_reducible refine gate_callee (f := 68) rfl ?_); refine goesL_ (some 18) rfl rfl Try.func68 (by kernel_rfl) rfl #[.slice A275_0 ((rd_T89 l0 x5_1).f0).length c275_0, .int .i64 x1_1] rfl Ag ?_; (with_reducible refine (laws_heldRdnS.calls k1 _ _ ((rd_T89 l0 x5_1).f0) x1_1 t276 _ ?side1 ?side2 A5.out).mono ?_); (case side1 => exact rC (Kd.C_below HR275_0.out HB.out)); (case side2 => exact HC275_0.out); rintro e w7 ⟨rfl, hb⟩; refine ⟨_, rfl, ?_⟩; have n0_ := Aside0.mk (below_step By hb); clear HB; have HB := n0_; clear n0_; (try clear hb); (try clear hb2); (try clear hk); (try clear hi))); go_ret; exact ⟨Rf, By⟩
          · rw [if_neg c6] at H; have c6b0 : decide (t276 < 0) = false := decide_eq_false c6; clear c6; replace H := Option.bind_eq_some_iff.mp H; obtain ⟨t278, A80, H⟩ := H; (try dsimp only at H); have A8 := Aside0.mk A80; clear A80; by_cases c9 : t278 < 0
            · rw [if_pos c9] at H; have c9b0 : decide (t278 < 0) = true := decide_eq_true c9; clear c9; obtain rfl := Option.some.inj H; have p275 : 0 ≤ (x5_1 : Int) := of_decide_eq_true Da; have q275 : x5_1 < (l0.length : Int) := of_decide_eq_true Da; obtain ⟨ad275, A275_0, c275_0, A275_1, c275_1, e275, hx275_0, hx275_1, hl275_0, hi275_0, hl275_1, hi275_1⟩ := at_T89 HR0.out x5_1 p275 q275; cases e275
              replace hx275_0 := bz HB.out hx275_0; replace hx275_1 := bz HB.out hx275_1; have HR275_0 := Aside0.mk hi275_0; have HC275_0 := Aside0.mk hl275_0; clear hi275_0 hl275_0; have HR275_1 := Aside0.mk hi275_1; have HC275_1 := Aside0.mk hl275_1; clear hi275_1 hl275_1; replace p275 := eq_true p275; replace q275 := eq_true q275; go_wp2_with (first | ((with_reducible refine gate_callee (f := 68) rfl ?_); refine goesL_ (some 18) rfl rfl Try.func68 (by kernel_rfl) rfl #[.slice A275_0 ((rd_T89 l0 x5_1).f0).length c275_0, .int .i64 x1_1] rfl Ag ?_; (with_reducible refine (laws_heldRdnS.calls k1 _ _ ((rd_T89 l0 x5_1).f0) x1_1 t276 _ ?side1 ?side2 A5.out).mono ?_); (case side1 => exact rC (Kd.C_below HR275_0.out HB.out)); (case side2 => exact HC275_0.out); rintro e w10 ⟨rfl, hb⟩; refine ⟨_, rfl, ?_⟩; have n0_ := Aside0.mk (below_step By hb); clear HB; have HB := n0_; clear n0_; (try clear hb); (try clear hb2); (try clear hk); (try clear hi); have p277 : 0 ≤ (x5_1 : Int) := of_decide_eq_true Da; have q277 : x5_1 < (l0.length : Int) := of_decide_eq_true Da; obtain ⟨ad277, A277_0, c277_0, A277_1, c277_1, e277, hx277_0, hx277_1, hl277_0, hi277_0, hl277_1, hi277_1⟩ := at_T89 HR0.out x5_1 p277 q277; obtain rfl : ad275 = ad277 := (by injection e277); replace hx277_0 := bz HB.out hx277_0; replace hx277_1 := bz HB.out hx277_1; have HR277_0 := Aside0.mk hi277_0; have HC277_0 := Aside0.mk hl277_0; clear hi277_0 hl277_0; have HR277_1 := Aside0.mk hi277_1; have HC277_1 := Aside0.mk hl277_1; clear hi277_1 hl277_1; replace p277 := eq_true p277; replace q277 := eq_true q277) | ((with_reducible refine gate_callee (f := 69) rfl ?_); refine goesL_ (some 27) rfl rfl Try.func69 (by kernel_rfl) rfl #[.slice A277_1 ((rd_T89 l0 x5_1).f1).length c277_1, .int .i64 t276] rfl Ag ?_; (with_reducible refine (laws_heldAttrS.calls k1 _ _ ((rd_T89 l0 x5_1).f1) t276 t278 _ ?side1 ?side2 A8.out).mono ?_); (case side1 => exact rC (Kd.C_below HR277_1.out HB.out)); (case side2 => exact HC277_1.out); rintro e w11 ⟨rfl, hb⟩; refine ⟨_, rfl, ?_⟩; have n0_ := Aside0.mk (below_step By hb); clear HB; have HB := n0_; clear n0_; (try clear hb); (try clear hb2); (try clear hk); (try clear hi))); go_ret; exact ⟨Rf, By⟩
            · rw [if_neg c9] at H; have c9b0 : decide (t278 < 0) = false := decide_eq_false c9; clear c9; have H' := Aside0.mk H; clear H; have p275 : 0 ≤ (x5_1 : Int) := of_decide_eq_true Da; have q275 : x5_1 < (l0.length : Int) := of_decide_eq_true Da; obtain ⟨ad275, A275_0, c275_0, A275_1, c275_1, e275, hx275_0, hx275_1, hl275_0, hi275_0, hl275_1, hi275_1⟩ := at_T89 HR0.out x5_1 p275 q275; cases e275
              replace hx275_0 := bz HB.out hx275_0; replace hx275_1 := bz HB.out hx275_1; have HR275_0 := Aside0.mk hi275_0; have HC275_0 := Aside0.mk hl275_0; clear hi275_0 hl275_0; have HR275_1 := Aside0.mk hi275_1; have HC275_1 := Aside0.mk hl275_1; clear hi275_1 hl275_1; replace p275 := eq_true p275; replace q275 := eq_true q275; go_wp2_with (first | ((with_reducible refine gate_callee (f := 68) rfl ?_); refine goesL_ (some 18) rfl rfl Try.func68 (by kernel_rfl) rfl #[.slice A275_0 ((rd_T89 l0 x5_1).f0).length c275_0, .int .i64 x1_1] rfl Ag ?_; (with_reducible refine (laws_heldRdnS.calls k1 _ _ ((rd_T89 l0 x5_1).f0) x1_1 t276 _ ?side1 ?side2 A5.out).mono ?_); (case side1 => exact rC (Kd.C_below HR275_0.out HB.out)); (case side2 => exact HC275_0.out); rintro e w12 ⟨rfl, hb⟩; refine ⟨_, rfl, ?_⟩; have n0_ := Aside0.mk (below_step By hb); clear HB; have HB := n0_; clear n0_; (try clear hb); (try clear hb2); (try clear hk); (try clear hi); have p277 : 0 ≤ (x5_1 : Int) := of_decide_eq_true Da; have q277 : x5_1 < (l0.length : Int) := of_decide_eq_true Da; obtain ⟨ad277, A277_0, c277_0, A277_1, c277_1, e277, hx277_0, hx277_1, hl277_0, hi277_0, hl277_1, hi277_1⟩ := at_T89 HR0.out x5_1 p277 q277; obtain rfl : ad275 = ad277 := (by injection e277); replace hx277_0 := bz HB.out hx277_0; replace hx277_1 := bz HB.out hx277_1; have HR277_0 := Aside0.mk hi277_0; have HC277_0 := Aside0.mk hl277_0; clear hi277_0 hl277_0; have HR277_1 := Aside0.mk hi277_1; have HC277_1 := Aside0.mk hl277_1; clear hi277_1 hl277_1; replace p277 := eq_true p277; replace q277 := eq_true q277) | ((with_reducible refine gate_callee (f := 69) rfl ?_); refine goesL_ (some 27) rfl rfl Try.func69 (by kernel_rfl) rfl #[.slice A277_1 ((rd_T89 l0 x5_1).f1).length c277_1, .int .i64 t276] rfl Ag ?_; (with_reducible refine (laws_heldAttrS.calls k1 _ _ ((rd_T89 l0 x5_1).f1) t276 t278 _ ?side1 ?side2 A8.out).mono ?_); (case side1 => exact rC (Kd.C_below HR277_1.out HB.out)); (case side2 => exact HC277_1.out); rintro e w13 ⟨rfl, hb⟩; refine ⟨_, rfl, ?_⟩; have n0_ := Aside0.mk (below_step By hb); clear HB; have HB := n0_; clear n0_; (try clear hb); (try clear hb2); (try clear hk); (try clear hi))); go_roundg k1
              case measure => have := HK1.out; omega
              case rel => exact ⟨(t278), (wrap64 (x5_1 + 1)), (by first | rfl | (simp; done) | (simp [*]; done)), (by first | rfl | (simp; done) | (simp [*]; done)), H', ⟨by have := HK1.out; omega⟩, ⟨By⟩⟩
        · rw [if_neg c4] at H; exact absurd H (by simp)
      · rw [if_neg c3] at H; have c3b0 : decide (x5_1 < (l0.length : Int)) = false := decide_eq_false c3; clear c3; obtain rfl := Option.some.inj H; go_wp2; go_ret; exact ⟨Rf, By⟩

set_option linter.unusedVariables false
set_option linter.unusedSimpArgs false

/-! ### laws_markRdnS: function 66 -/
def laws_markRdnS.l0 : Nat → List (S119) → Int → Int → Option (Int × (List (S119)))
  | 0, _, _, _ => none
  | k + 1, x0, x1, x5 => if x5 < (x0.length : Int) then ((laws_markText.f k x1).bind fun t257 => (if 0 ≤ x5 then ((some (x0.set (x5 : Int).toNat (⟨t257, (rd_T119 x0 x5).f1⟩ : S119) : List (S119))).bind fun y258 => ((laws_markText.f k (wrap64 (x1 + 1))).bind fun t259 => (laws_markRdnS.l0 k (y258.set (x5 : Int).toNat (⟨(rd_T119 y258 x5).f0, t259⟩ : S119)) (wrap64 ((wrap64 (x1 + 1)) + 1)) (wrap64 (x5 + 1))))) else (none))) else (some (x1, x0))
def laws_markRdnS.f (k : Nat) (l0 : List (S119)) (a1 : Int) : Option (Int × (List (S119))) := laws_markRdnS.l0 k l0 a1 0
theorem laws_markRdnS.mono_l : ∀ k, (∀ y0 y1 y2, LeO (laws_markRdnS.l0 k y0 y1 y2) (laws_markRdnS.l0 (k + 1) y0 y1 y2))
  | 0 => fun _ _ _ r h => by simp [laws_markRdnS.l0] at h
  | k + 1 => by
    have ih0 := laws_markRdnS.mono_l k
    · intro y0 y1 y2; unfold laws_markRdnS.l0; repeat' first
      | (with_reducible exact ih0 _ _ _)
      | (with_reducible exact laws_markText.mono _ _)
      | (with_reducible exact LeO.refl _)
      | (with_reducible exact LeO.none _)
      | (with_reducible refine LeO.ite ?_ ?_)
      | (with_reducible refine LeO.bind ?_ (fun _ => ?_))
theorem laws_markRdnS.mono : ∀ a0 a1 k, LeO (laws_markRdnS.f k a0 a1) (laws_markRdnS.f (k + 1) a0 a1) := by
  intro a0 a1 k; have ih0 := laws_markRdnS.mono_l k; unfold laws_markRdnS.f; repeat' first
      | (with_reducible exact ih0 _ _ _)
      | (with_reducible exact laws_markText.mono _ _)
      | (with_reducible exact LeO.refl _)
      | (with_reducible exact LeO.none _)
      | (with_reducible refine LeO.ite ?_ ?_)
      | (with_reducible refine LeO.bind ?_ (fun _ => ?_))
set_option maxHeartbeats 8000000 in
set_option maxRecDepth 100000 in
theorem laws_markRdnS.calls (k : Nat) (P0_ : Nat → Prop) (u9000_ : Value) (l0 : List (S119)) (a1 : Int) (r1 : Int) (r2 : List (S119)) (w0 w : World) (hB : Below w0.heap.size w0 w) (ho0 : Kd.R k119 119 w w0.heap.size P0_ u9000_ l0) (h : laws_markRdnS.f k l0 a1 = some (r1, r2)) :
    Calls Try.prog 66 #[u9000_, .int .i64 a1] w fun e w' => e = .returned (.int .i64 r1) ∧ Kd.R k119 119 w' w0.heap.size (fun k_ => (P0_ k_ ∨ w.heap.size ≤ k_)) u9000_ r2 ∧ Below w0.heap.size w0 w' ∧ Kept w w' (fun k_ => P0_ k_) := by
  have HO0 := Aside0.mk (show Kd.R k119 119 w w0.heap.size (fun k_ => (P0_ k_ ∨ w.heap.size ≤ k_)) u9000_ l0 from Kd.R_mono ho0 (fun k_ hk => (.inl hk))); have HK := Aside0.mk (Kept.refl w (fun k_ => P0_ k_)); have HW0 := Aside0.mk hB.size; have HB := Aside0.mk hB; clear hB; have H : (laws_markRdnS.l0 k l0 a1 0) = some (r1, r2) := h; clear h; have H' := Aside0.mk H; clear H; go_enter Try.func66, Try.ntmps66; go_wp2; go_loopg [1, 5] k (fun kq v1 v5 w' => ∃ (x0_1 : List (S119)) (x1_1 : Int) (x5_1 : Int), v1 = .int .i64 x1_1 ∧ v5 = .int .i64 x5_1 ∧ Aside0 (laws_markRdnS.l0 kq x0_1 x1_1 x5_1 = some (r1, r2)) ∧ Aside0 (kq ≤ k) ∧ Aside0 (Kd.R k119 119 w' w0.heap.size (fun k_ => (P0_ k_ ∨ w.heap.size ≤ k_)) u9000_ x0_1) ∧ Aside0 (Kept w w' (fun k_ => P0_ k_)) ∧ Aside0 (Below w0.heap.size w0 w'))
  case atStart => exact ⟨(l0), (a1), (0), (by first | rfl | (simp; done) | (simp [*]; done)), (by first | rfl | (simp; done) | (simp [*]; done)), H', ⟨Nat.le_refl _⟩, ⟨by (with_reducible repeat (first | apply Kd.R_alloc | apply Kd.R_drewN | apply Kd.R_drew)); exact HO0.out⟩, ⟨by repeat (first | (with_reducible first | exact HK.out | apply Kept.alloc | apply Kept.drewN | apply Kept.drew) | exact HK.out)⟩, ⟨By⟩⟩
  case round =>
    clear H'; try clear p2
    obtain ⟨x0_1, x1_1, x5_1, rfl, rfl, HA, HK1, HO_0, HK, HB⟩ := hrel; cases gk with
    | zero => exact absurd HA.out (by simp [laws_markRdnS.l0])
    | succ k1 =>
      have H := HA.out; clear HA; simp only [laws_markRdnS.l0] at H; by_cases c3 : x5_1 < (x0_1.length : Int)
      · rw [if_pos c3] at H; have c3b0 : decide (x5_1 < (x0_1.length : Int)) = true := decide_eq_true c3; clear c3; replace H := Option.bind_eq_some_iff.mp H; obtain ⟨t257, A40, H⟩ := H; replace H : (if 0 ≤ x5_1 then ((some (x0_1.set (x5_1 : Int).toNat (⟨t257, (rd_T119 x0_1 x5_1).f1⟩ : S119) : List (S119))).bind fun y258 => ((laws_markText.f k1 (wrap64 (x1_1 + 1))).bind fun t259 => (laws_markRdnS.l0 k1 (y258.set (x5_1 : Int).toNat (⟨(rd_T119 y258 x5_1).f0, t259⟩ : S119)) (wrap64 ((wrap64 (x1_1 + 1)) + 1)) (wrap64 (x5_1 + 1))))) else (none)) = some (r1, r2) := H; have A4 := Aside0.mk A40; clear A40; by_cases c5 : 0 ≤ x5_1
        · rw [if_pos c5] at H; have c5b0 : decide (0 ≤ x5_1) = true := decide_eq_true c5; clear c5; obtain ⟨y258, hy258⟩ : ∃ y_ : List (S119), y_ = (x0_1.set (x5_1 : Int).toNat (⟨t257, (rd_T119 x0_1 x5_1).f1⟩ : S119)) := ⟨_, rfl⟩; replace H : ((laws_markText.f k1 (wrap64 (x1_1 + 1))).bind fun t259 => (laws_markRdnS.l0 k1 (y258.set (x5_1 : Int).toNat (⟨(rd_T119 y258 x5_1).f0, t259⟩ : S119)) (wrap64 ((wrap64 (x1_1 + 1)) + 1)) (wrap64 (x5_1 + 1)))) = some (r1, r2) := by first | (rw [hy258]; with_reducible exact H) | (have H2_ := (Option.bind_some _ _).symm.trans H; rw [hy258]; with_reducible exact H2_) | (have H2_ := (Option.bind_some _ _).symm.trans H; with_reducible exact H2_) | with_reducible exact H | (rw [hy258]; exact H) | exact H
          have Ny258 := Aside0.mk hy258; clear hy258; replace H := Option.bind_eq_some_iff.mp H; obtain ⟨t259, A70, H⟩ := H; replace H : (laws_markRdnS.l0 k1 (y258.set (x5_1 : Int).toNat (⟨(rd_T119 y258 x5_1).f0, t259⟩ : S119)) (wrap64 ((wrap64 (x1_1 + 1)) + 1)) (wrap64 (x5_1 + 1))) = some (r1, r2) := H; have A7 := Aside0.mk A70; clear A70; obtain ⟨y260, hy260⟩ : ∃ y_ : List (S119), y_ = (y258.set (x5_1 : Int).toNat (⟨(rd_T119 y258 x5_1).f0, t259⟩ : S119)) := ⟨_, rfl⟩; replace H : (laws_markRdnS.l0 k1 y260 (wrap64 ((wrap64 (x1_1 + 1)) + 1)) (wrap64 (x5_1 + 1))) = some (r1, r2) := by first | (rw [hy260]; with_reducible exact H) | (have H2_ := (Option.bind_some _ _).symm.trans H; rw [hy260]; with_reducible exact H2_) | (have H2_ := (Option.bind_some _ _).symm.trans H; with_reducible exact H2_) | with_reducible exact H | (rw [hy260]; exact H) | exact H
          have Ny260 := Aside0.mk hy260; clear hy260; have H' := Aside0.mk H; clear H; obtain ⟨Ao9, co9, eo9⟩ := Kd.R_slice HO_0.out; subst eo9; go_wp2_with (first | ((with_reducible refine gate_callee (f := 75) rfl ?_); refine goesL_ (some 15) rfl rfl Try.func75 (by kernel_rfl) rfl #[.int .i64 x1_1] rfl Ag ?_; (with_reducible refine (laws_markText.calls k1 x1_1 t257 _ A4.out).mono ?_); rintro e w10 ⟨rfl, hb⟩; refine ⟨_, rfl, ?_⟩; have n_ := aa (Kd.R_below (rR HO_0.out) hb) <| aa (Kept.below (S := (fun k_ => P0_ k_)) (by repeat (first | (with_reducible first | exact HK.out | apply Kept.alloc | apply Kept.drewN | apply Kept.drew) | exact HK.out)) hb) <| Aside0.mk (below_step By hb); clear HO_0 HK HB; obtain ⟨HO_0, HK, HB⟩ := n_; (try clear hb); (try clear hb2); (try clear hk); (try clear hi); have p6 : 0 ≤ (x5_1 : Int) := of_decide_eq_true Da; have q6 : (x5_1 : Int) < ((x0_1.length : Int) : Int) := of_decide_eq_true Da; obtain ⟨go6, co6, eo6, gb6, gl6, cl6, HG6⟩ := Kd.R_form HO_0.out (by omega); (first | cases eo6 | (injection eo6 with ea_ en_ ec_; (first | subst ea_ | (injection ea_ with ea_; subst ea_)); subst ec_; clear en_)); have GB6 := Aside0.mk gb6; have GG6 := Aside0.mk HG6; clear gb6 gl6 HG6; have HMgo6 := Aside0.mk (show (P0_ go6 ∨ w.heap.size ≤ go6) from (HO_0.out.1 _ rfl)); obtain ⟨ce6, hcl6, hM6, hcc6, hfr6⟩ := Kd.R_elem HO_0.out z119 (x5_1 : Int) p6 q6; obtain rfl := k119_openM hM6; have hx6_0 : w10.cell? ⟨go6, (x5_1 : Int).toNat * 2, none⟩ = some (.string ((rd_T119 x0_1 x5_1).f0)) := hcc6 0 _ rfl; have hx6_1 : w10.cell? ⟨go6, (x5_1 : Int).toNat * 2 + 1, none⟩ = some (.string ((rd_T119 x0_1 x5_1).f1)) := hcc6 1 _ rfl; have hf6_0 : w10.frozen? ⟨go6, (x5_1 : Int).toNat * 2, none⟩ = false := hfr6 0; have hf6_1 : w10.frozen? ⟨go6, (x5_1 : Int).toNat * 2 + 1, none⟩ = false := hfr6 1; clear hcl6 hcc6 hfr6 hM6; replace p6 := eq_true p6; replace q6 := eq_true q6; have HX11 := Aside0.mk (show Kd.R k119 119 w10 w0.heap.size (fun k_ => (P0_ k_ ∨ w.heap.size ≤ k_)) (.slice (some ⟨go6, 0, none⟩) x0_1.length co9) x0_1 from (rR HO_0.out)); obtain ⟨ce11, hcl11, hM11, hcc11, hfr11⟩ := Kd.R_elem HX11.out z119 (x5_1 : Int) (of_decide_eq_true Da) (by have h_ : (x5_1 : Int) < ((x0_1.length : Int) : Int) := of_decide_eq_true Da; first | exact h_ | (have e_ := (Kd.R_reads' HO_0.out).1; omega) | simpa using h_); obtain rfl := k119_openM hM11; have HP11 := Kd.R_seg HX11.out (x5_1 : Int) (of_decide_eq_true Da) (by have h_ : (x5_1 : Int) < ((x0_1.length : Int) : Int) := of_decide_eq_true Da; first | exact h_ | (have e_ := (Kd.R_reads' HO_0.out).1; omega) | simpa using h_) (seg := [.string t257]) (j := 0) hcl11 hcc11 (show 1 ≤ 2 from by decide) (x' := (⟨t257, (rd_T119 x0_1 x5_1).f1⟩ : S119)) (k119_mkM _ _ _ (⟨t257, (rd_T119 x0_1 x5_1).f1⟩ : S119) ) (fun _ hk => hk); have hx11_0 := hcc11 0 _ rfl; (try simp only [show (k119).sz = 2 from rfl, Nat.mul_one, Nat.add_zero] at hx11_0); have hf11_0 := hfr11 0; (try simp only [show (k119).sz = 2 from rfl, Nat.mul_one, Nat.add_zero] at hf11_0); clear hcl11 hcc11 hfr11 hM11) | ((with_reducible refine gate_store (t := 9) (p := 17) rfl ?_); refine store_event (t := 9) (p := 17) (v := ?vo_w12) (w1 := (w10.setCell ⟨go6, (x5_1 : Int).toNat * 2, none⟩ (.string t257))) ?hg ?ho ?hn ?hr ?_; (case ho => rfl); (case hg => rfl); (case hn => rfl); (case hr => first | (go_simp; done) | (go_simp; rfl)); intro w12 hw; have hg : w10.grownBy w12 (some go6) := (by rw [hw]; exact HP11.2); have hp_ : Kd.R k119 119 w12 w0.heap.size (fun k_ => (P0_ k_ ∨ w.heap.size ≤ k_)) (.slice (some ⟨go6, 0, none⟩) x0_1.length co9) y258 := (by rw [hw, Ny258.out]; exact HP11.1); clear HP11; have n_ := aa (hp_) <| aa ((by rw [hw]; exact below_set (HB.out) GB6.out : Below w0.heap.size w0 w12)) <| Aside0.mk (Kept.of_grown (S := (fun k_ => P0_ k_)) hg (by repeat (first | (with_reducible first | exact HK.out | apply Kept.alloc | apply Kept.drewN | apply Kept.drew) | exact HK.out)) (fun k_ e_ => (HO_0.out.1 k_ e_))); clear HO_0 HB HK; obtain ⟨HO_0, HB, HK⟩ := n_; clear hg hw hp_) | ((with_reducible refine gate_callee (f := 75) rfl ?_); refine goesL_ (some 23) rfl rfl Try.func75 (by kernel_rfl) rfl #[.int .i64 (wrap64 (x1_1 + 1))] rfl Ag ?_; (with_reducible refine (laws_markText.calls k1 (wrap64 (x1_1 + 1)) t259 _ A7.out).mono ?_); rintro e w13 ⟨rfl, hb⟩; refine ⟨_, rfl, ?_⟩; have n_ := aa (Kd.R_below (rR HO_0.out) hb) <| aa (Kept.below (S := (fun k_ => P0_ k_)) (by repeat (first | (with_reducible first | exact HK.out | apply Kept.alloc | apply Kept.drewN | apply Kept.drew) | exact HK.out)) hb) <| Aside0.mk (below_step By hb); clear HO_0 HK HB; obtain ⟨HO_0, HK, HB⟩ := n_; (try clear hb); (try clear hb2); (try clear hk); (try clear hi); have p8 : 0 ≤ (x5_1 : Int) := of_decide_eq_true Da; have q8 : (x5_1 : Int) < ((x0_1.length : Int) : Int) := of_decide_eq_true Da; obtain ⟨ce8, hcl8, hM8, hcc8, hfr8⟩ := Kd.R_elem HO_0.out z119 (x5_1 : Int) p8 q8; obtain rfl := k119_openM hM8; have hx8_0 : w13.cell? ⟨go6, (x5_1 : Int).toNat * 2, none⟩ = some (.string ((rd_T119 y258 x5_1).f0)) := hcc8 0 _ rfl; have hx8_1 : w13.cell? ⟨go6, (x5_1 : Int).toNat * 2 + 1, none⟩ = some (.string ((rd_T119 y258 x5_1).f1)) := hcc8 1 _ rfl; have hf8_0 : w13.frozen? ⟨go6, (x5_1 : Int).toNat * 2, none⟩ = false := hfr8 0; have hf8_1 : w13.frozen? ⟨go6, (x5_1 : Int).toNat * 2 + 1, none⟩ = false := hfr8 1; clear hcl8 hcc8 hfr8 hM8; replace p8 := eq_true p8; replace q8 := eq_true q8; have HX14 := Aside0.mk (show Kd.R k119 119 w13 w0.heap.size (fun k_ => (P0_ k_ ∨ w.heap.size ≤ k_)) (.slice (some ⟨go6, 0, none⟩) x0_1.length co9) y258 from (rR HO_0.out)); obtain ⟨ce14, hcl14, hM14, hcc14, hfr14⟩ := Kd.R_elem HX14.out z119 (x5_1 : Int) (of_decide_eq_true Da) (by have h_ : (x5_1 : Int) < ((x0_1.length : Int) : Int) := of_decide_eq_true Da; first | exact h_ | (have e_ := (Kd.R_reads' HO_0.out).1; omega) | simpa using h_); obtain rfl := k119_openM hM14; have HP14 := Kd.R_seg HX14.out (x5_1 : Int) (of_decide_eq_true Da) (by have h_ : (x5_1 : Int) < ((x0_1.length : Int) : Int) := of_decide_eq_true Da; first | exact h_ | (have e_ := (Kd.R_reads' HO_0.out).1; omega) | simpa using h_) (seg := [.string t259]) (j := 1) hcl14 hcc14 (show 2 ≤ 2 from by decide) (x' := (⟨(rd_T119 y258 x5_1).f0, t259⟩ : S119)) (k119_mkM _ _ _ (⟨(rd_T119 y258 x5_1).f0, t259⟩ : S119) ) (fun _ hk => hk); have hx14_1 := hcc14 1 _ rfl; (try simp only [show (k119).sz = 2 from rfl, Nat.mul_one, Nat.add_zero] at hx14_1); have hf14_1 := hfr14 1; (try simp only [show (k119).sz = 2 from rfl, Nat.mul_one, Nat.add_zero] at hf14_1); clear hcl14 hcc14 hfr14 hM14) | ((with_reducible refine gate_store (t := 9) (p := 25) rfl ?_); refine store_event (t := 9) (p := 25) (v := ?vo_w15) (w1 := (w13.setCell ⟨go6, (x5_1 : Int).toNat * 2 + 1, none⟩ (.string t259))) ?hg ?ho ?hn ?hr ?_; (case ho => rfl); (case hg => rfl); (case hn => rfl); (case hr => first | (go_simp; done) | (go_simp; rfl)); intro w15 hw; have hg : w13.grownBy w15 (some go6) := (by rw [hw]; exact HP14.2); have hp_ : Kd.R k119 119 w15 w0.heap.size (fun k_ => (P0_ k_ ∨ w.heap.size ≤ k_)) (.slice (some ⟨go6, 0, none⟩) x0_1.length co9) y260 := (by rw [hw, Ny260.out]; exact HP14.1); clear HP14; have n_ := aa (hp_) <| aa ((by rw [hw]; exact below_set (HB.out) GB6.out : Below w0.heap.size w0 w15)) <| Aside0.mk (Kept.of_grown (S := (fun k_ => P0_ k_)) hg (by repeat (first | (with_reducible first | exact HK.out | apply Kept.alloc | apply Kept.drewN | apply Kept.drew) | exact HK.out)) (fun k_ e_ => (HO_0.out.1 k_ e_))); clear HO_0 HB HK; obtain ⟨HO_0, HB, HK⟩ := n_; clear hg hw hp_))
          go_roundg k1
          case measure => have := HK1.out; omega
          case rel => exact ⟨(y260), (wrap64 ((wrap64 (x1_1 + 1)) + 1)), (wrap64 (x5_1 + 1)), (by first | rfl | (simp; done) | (simp [*]; done)), (by first | rfl | (simp; done) | (simp [*]; done)), H', ⟨by have := HK1.out; omega⟩, ⟨by (with_reducible repeat (first | apply Kd.R_alloc | apply Kd.R_drewN | apply Kd.R_drew)); exact HO_0.out⟩, ⟨by repeat (first | (with_reducible first | exact HK.out | apply Kept.alloc | apply Kept.drewN | apply Kept.drew) | exact HK.out)⟩, ⟨By⟩⟩
        · rw [if_neg c5] at H; exact absurd H (by simp)
      · rw [if_neg c3] at H; have c3b0 : decide (x5_1 < (x0_1.length : Int)) = false := decide_eq_false c3; clear c3; simp only [Option.some.injEq, Prod.mk.injEq] at H; obtain ⟨rfl, rfl⟩ := H; obtain ⟨Ao16, co16, eo16⟩ := Kd.R_slice HO_0.out; subst eo16; go_wp2; go_ret; exact ⟨Rf, by (with_reducible repeat (first | apply Kd.R_alloc | apply Kd.R_drewN | apply Kd.R_drew)); exact HO_0.out, By, by repeat (first | (with_reducible first | exact HK.out | apply Kept.alloc | apply Kept.drewN | apply Kept.drew) | exact HK.out)⟩

set_option linter.unusedVariables false
set_option linter.unusedSimpArgs false

/-! ### laws_markStringS: function 85 -/
def laws_markStringS.l0 : Nat → List ByteArray → Int → Int → Option (Int × List ByteArray)
  | 0, _, _, _ => none
  | k + 1, x0, x1, x5 => if x5 < (x0.length : Int) then ((laws_markText.f k x1).bind fun t261 => (if 0 ≤ x5 then (laws_markStringS.l0 k (x0.set (x5 : Int).toNat t261) (wrap64 (x1 + 1)) (wrap64 (x5 + 1))) else (none))) else (some (x1, x0))
def laws_markStringS.f (k : Nat) (l0 : List ByteArray) (a1 : Int) : Option (Int × List ByteArray) := laws_markStringS.l0 k l0 a1 0
theorem laws_markStringS.mono_l : ∀ k, (∀ y0 y1 y2, LeO (laws_markStringS.l0 k y0 y1 y2) (laws_markStringS.l0 (k + 1) y0 y1 y2))
  | 0 => fun _ _ _ r h => by simp [laws_markStringS.l0] at h
  | k + 1 => by
    have ih0 := laws_markStringS.mono_l k
    · intro y0 y1 y2; unfold laws_markStringS.l0; repeat' first
      | (with_reducible exact ih0 _ _ _)
      | (with_reducible exact laws_markText.mono _ _)
      | (with_reducible exact LeO.refl _)
      | (with_reducible exact LeO.none _)
      | (with_reducible refine LeO.ite ?_ ?_)
      | (with_reducible refine LeO.bind ?_ (fun _ => ?_))
theorem laws_markStringS.mono : ∀ a0 a1 k, LeO (laws_markStringS.f k a0 a1) (laws_markStringS.f (k + 1) a0 a1) := by
  intro a0 a1 k; have ih0 := laws_markStringS.mono_l k; unfold laws_markStringS.f; repeat' first
      | (with_reducible exact ih0 _ _ _)
      | (with_reducible exact laws_markText.mono _ _)
      | (with_reducible exact LeO.refl _)
      | (with_reducible exact LeO.none _)
      | (with_reducible refine LeO.ite ?_ ?_)
      | (with_reducible refine LeO.bind ?_ (fun _ => ?_))
set_option maxHeartbeats 8000000 in
set_option maxRecDepth 100000 in
theorem laws_markStringS.calls (k : Nat) (P0_ : Nat → Prop) (u9000_ : Value) (l0 : List ByteArray) (a1 : Int) (r1 : Int) (r2 : List ByteArray) (w0 w : World) (hB : Below w0.heap.size w0 w) (ho0 : Kd.R Kd.string 9 w w0.heap.size P0_ u9000_ l0) (h : laws_markStringS.f k l0 a1 = some (r1, r2)) :
    Calls Try.prog 85 #[u9000_, .int .i64 a1] w fun e w' => e = .returned (.int .i64 r1) ∧ Kd.R Kd.string 9 w' w0.heap.size (fun k_ => (P0_ k_ ∨ w.heap.size ≤ k_)) u9000_ r2 ∧ Below w0.heap.size w0 w' ∧ Kept w w' (fun k_ => P0_ k_) := by
  have HO0 := Aside0.mk (show Kd.R Kd.string 9 w w0.heap.size (fun k_ => (P0_ k_ ∨ w.heap.size ≤ k_)) u9000_ l0 from Kd.R_mono ho0 (fun k_ hk => (.inl hk))); have HK := Aside0.mk (Kept.refl w (fun k_ => P0_ k_)); have HW0 := Aside0.mk hB.size; have HB := Aside0.mk hB; clear hB; have H : (laws_markStringS.l0 k l0 a1 0) = some (r1, r2) := h; clear h; have H' := Aside0.mk H; clear H; go_enter Try.func85, Try.ntmps85; go_wp2; go_loopg [1, 5] k (fun kq v1 v5 w' => ∃ (x0_1 : List ByteArray) (x1_1 : Int) (x5_1 : Int), v1 = .int .i64 x1_1 ∧ v5 = .int .i64 x5_1 ∧ Aside0 (laws_markStringS.l0 kq x0_1 x1_1 x5_1 = some (r1, r2)) ∧ Aside0 (kq ≤ k) ∧ Aside0 (Kd.R Kd.string 9 w' w0.heap.size (fun k_ => (P0_ k_ ∨ w.heap.size ≤ k_)) u9000_ x0_1) ∧ Aside0 (Kept w w' (fun k_ => P0_ k_)) ∧ Aside0 (Below w0.heap.size w0 w'))
  case atStart => exact ⟨(l0), (a1), (0), (by first | rfl | (simp; done) | (simp [*]; done)), (by first | rfl | (simp; done) | (simp [*]; done)), H', ⟨Nat.le_refl _⟩, ⟨by (with_reducible repeat (first | apply Kd.R_alloc | apply Kd.R_drewN | apply Kd.R_drew)); exact HO0.out⟩, ⟨by repeat (first | (with_reducible first | exact HK.out | apply Kept.alloc | apply Kept.drewN | apply Kept.drew) | exact HK.out)⟩, ⟨By⟩⟩
  case round =>
    clear H'; try clear p2
    obtain ⟨x0_1, x1_1, x5_1, rfl, rfl, HA, HK1, HO_0, HK, HB⟩ := hrel; cases gk with
    | zero => exact absurd HA.out (by simp [laws_markStringS.l0])
    | succ k1 =>
      have H := HA.out; clear HA; simp only [laws_markStringS.l0] at H; by_cases c3 : x5_1 < (x0_1.length : Int)
      · rw [if_pos c3] at H; have c3b0 : decide (x5_1 < (x0_1.length : Int)) = true := decide_eq_true c3; clear c3; replace H := Option.bind_eq_some_iff.mp H; obtain ⟨t261, A40, H⟩ := H; replace H : (if 0 ≤ x5_1 then (laws_markStringS.l0 k1 (x0_1.set (x5_1 : Int).toNat t261) (wrap64 (x1_1 + 1)) (wrap64 (x5_1 + 1))) else (none)) = some (r1, r2) := H; have A4 := Aside0.mk A40; clear A40; by_cases c5 : 0 ≤ x5_1
        · rw [if_pos c5] at H; have c5b0 : decide (0 ≤ x5_1) = true := decide_eq_true c5; clear c5; obtain ⟨y262, hy262⟩ : ∃ y_ : List ByteArray, y_ = (x0_1.set (x5_1 : Int).toNat t261) := ⟨_, rfl⟩; replace H : (laws_markStringS.l0 k1 y262 (wrap64 (x1_1 + 1)) (wrap64 (x5_1 + 1))) = some (r1, r2) := by first | (rw [hy262]; with_reducible exact H) | (have H2_ := (Option.bind_some _ _).symm.trans H; rw [hy262]; with_reducible exact H2_) | (have H2_ := (Option.bind_some _ _).symm.trans H; with_reducible exact H2_) | with_reducible exact H | (rw [hy262]; exact H) | exact H
          have Ny262 := Aside0.mk hy262; clear hy262; have H' := Aside0.mk H; clear H; obtain ⟨Ao7, co7, eo7⟩ := Kd.R_slice HO_0.out; subst eo7; go_wp2_with (first | ((with_reducible refine gate_callee (f := 75) rfl ?_); refine goesL_ (some 15) rfl rfl Try.func75 (by kernel_rfl) rfl #[.int .i64 x1_1] rfl Ag ?_; (with_reducible refine (laws_markText.calls k1 x1_1 t261 _ A4.out).mono ?_); rintro e w8 ⟨rfl, hb⟩; refine ⟨_, rfl, ?_⟩; have n_ := aa (Kd.R_below (rR HO_0.out) hb) <| aa (Kept.below (S := (fun k_ => P0_ k_)) (by repeat (first | (with_reducible first | exact HK.out | apply Kept.alloc | apply Kept.drewN | apply Kept.drew) | exact HK.out)) hb) <| Aside0.mk (below_step By hb); clear HO_0 HK HB; obtain ⟨HO_0, HK, HB⟩ := n_; (try clear hb); (try clear hb2); (try clear hk); (try clear hi); have p6 : 0 ≤ (x5_1 : Int) := of_decide_eq_true Da; have q6 : (x5_1 : Int) < ((x0_1.length : Int) : Int) := of_decide_eq_true Da; obtain ⟨go6, co6, eo6, gb6, gl6, cl6, HG6⟩ := Kd.R_form HO_0.out (by omega); (first | cases eo6 | (injection eo6 with ea_ en_ ec_; (first | subst ea_ | (injection ea_ with ea_; subst ea_)); subst ec_; clear en_)); have GB6 := Aside0.mk gb6; have GG6 := Aside0.mk HG6; clear gb6 gl6 HG6; have HMgo6 := Aside0.mk (show (P0_ go6 ∨ w.heap.size ≤ go6) from (HO_0.out.1 _ rfl)); obtain ⟨hx6_0, hf6_0⟩ := Kd.R_celln (⟨#[]⟩ : ByteArray) HO_0.out (x5_1 : Int) p6 q6; replace p6 := eq_true p6; replace q6 := eq_true q6; obtain ⟨hy9_, hz9_⟩ := Kd.R_celln (⟨#[]⟩ : ByteArray) HO_0.out (x5_1 : Int) (of_decide_eq_true Da) (of_decide_eq_true Da); have HP9 := Kd.R_putg HO_0.out (x5_1 : Int) t261) | ((with_reducible refine gate_store (t := 9) (p := 16) rfl ?_); refine store_event (t := 9) (p := 16) (v := ?vo_w10) (w1 := (w8.setCell ⟨go6, (x5_1 : Int).toNat, none⟩ (.string t261))) ?hg ?ho ?hn ?hr ?_; (case ho => rfl); (case hg => rfl); (case hn => rfl); (case hr => first | (go_simp; done) | (go_simp; rfl)); intro w10 hw; have hg : w8.grownBy w10 (some go6) := (by rw [hw]; exact HP9.2); have hp_ : Kd.R Kd.string 9 w10 w0.heap.size (fun k_ => (P0_ k_ ∨ w.heap.size ≤ k_)) (.slice (some ⟨go6, 0, none⟩) x0_1.length co7) y262 := (by rw [hw, Ny262.out]; exact HP9.1); clear HP9; have n_ := aa (hp_) <| aa ((by rw [hw]; exact below_set (HB.out) GB6.out : Below w0.heap.size w0 w10)) <| Aside0.mk (Kept.of_grown (S := (fun k_ => P0_ k_)) hg (by repeat (first | (with_reducible first | exact HK.out | apply Kept.alloc | apply Kept.drewN | apply Kept.drew) | exact HK.out)) (fun k_ e_ => (HO_0.out.1 k_ e_))); clear HO_0 HB HK; obtain ⟨HO_0, HB, HK⟩ := n_; clear hg hw hp_)); go_roundg k1
          case measure => have := HK1.out; omega
          case rel => exact ⟨(y262), (wrap64 (x1_1 + 1)), (wrap64 (x5_1 + 1)), (by first | rfl | (simp; done) | (simp [*]; done)), (by first | rfl | (simp; done) | (simp [*]; done)), H', ⟨by have := HK1.out; omega⟩, ⟨by (with_reducible repeat (first | apply Kd.R_alloc | apply Kd.R_drewN | apply Kd.R_drew)); exact HO_0.out⟩, ⟨by repeat (first | (with_reducible first | exact HK.out | apply Kept.alloc | apply Kept.drewN | apply Kept.drew) | exact HK.out)⟩, ⟨By⟩⟩
        · rw [if_neg c5] at H; exact absurd H (by simp)
      · rw [if_neg c3] at H; have c3b0 : decide (x5_1 < (x0_1.length : Int)) = false := decide_eq_false c3; clear c3; simp only [Option.some.injEq, Prod.mk.injEq] at H; obtain ⟨rfl, rfl⟩ := H; obtain ⟨Ao11, co11, eo11⟩ := Kd.R_slice HO_0.out; subst eo11; go_wp2; go_ret; exact ⟨Rf, by (with_reducible repeat (first | apply Kd.R_alloc | apply Kd.R_drewN | apply Kd.R_drew)); exact HO_0.out, By, by repeat (first | (with_reducible first | exact HK.out | apply Kept.alloc | apply Kept.drewN | apply Kept.drew) | exact HK.out)⟩

set_option linter.unusedVariables false
set_option linter.unusedSimpArgs false

/-! ### laws_toEntryS: function 25 -/
def laws_toEntryS.l0 : Nat → List (S84) → List (S89) → Int → Option ((List (S89)))
  | 0, _, _, _ => none
  | k + 1, x0, x3, x4 => if x4 < (x0.length : Int) then (if 0 ≤ x4 then ((laws_toEntry.f k ((rd_T84 x0 x4).f0) ((rd_T84 x0 x4).f1)).bind fun bt191 => (if x4 < (x3.length : Int) then (laws_toEntryS.l0 k x0 (x3.set (x4 : Int).toNat (⟨bt191.1, bt191.2⟩ : S89)) (wrap64 (x4 + 1))) else (none))) else (none)) else (some x3)
def laws_toEntryS.f (k : Nat) (l0 : List (S84)) : Option ((List (S89))) := if 0 ≤ (l0.length : Int) then (if ((l0.length : Int) : Int).toNat ≤ 5864062014805 then (laws_toEntryS.l0 k l0 (List.replicate ((l0.length : Int) : Int).toNat z89) 0) else (none)) else (none)
theorem laws_toEntryS.mono_l : ∀ k, (∀ y0 y1 y2, LeO (laws_toEntryS.l0 k y0 y1 y2) (laws_toEntryS.l0 (k + 1) y0 y1 y2))
  | 0 => fun _ _ _ r h => by simp [laws_toEntryS.l0] at h
  | k + 1 => by
    have ih0 := laws_toEntryS.mono_l k
    · intro y0 y1 y2; unfold laws_toEntryS.l0; repeat' first
      | (with_reducible exact ih0 _ _ _)
      | (with_reducible exact laws_toEntry.mono _ _ _)
      | (with_reducible exact LeO.refl _)
      | (with_reducible exact LeO.none _)
      | (with_reducible refine LeO.ite ?_ ?_)
      | (with_reducible refine LeO.bind ?_ (fun _ => ?_))
theorem laws_toEntryS.mono : ∀ a0 k, LeO (laws_toEntryS.f k a0) (laws_toEntryS.f (k + 1) a0) := by
  intro a0 k; have ih0 := laws_toEntryS.mono_l k; unfold laws_toEntryS.f; repeat' first
      | (with_reducible exact ih0 _ _ _)
      | (with_reducible exact laws_toEntry.mono _ _ _)
      | (with_reducible exact LeO.refl _)
      | (with_reducible exact LeO.none _)
      | (with_reducible refine LeO.ite ?_ ?_)
      | (with_reducible refine LeO.bind ?_ (fun _ => ?_))
set_option maxHeartbeats 8000000 in
set_option maxRecDepth 100000 in
theorem laws_toEntryS.calls (k : Nat) (A0 : Option Addr) (c0 : Nat) (l0 : List (S84)) (r : List (S89)) (w : World) (hr0 : Kd.C k84 w A0 l0.length l0) (hc0 : l0.length ≤ c0) (h : laws_toEntryS.f k l0 = some r) :
    Calls Try.prog 25 #[.slice A0 l0.length c0] w fun e w' => ∃ v0_ : Value, e = .returned (v0_) ∧ Kd.R k89 89 w' w.heap.size (fun _ => True) v0_ r ∧ Below w.heap.size w w' := by
  have hu84 := Try.underlying84; have hu89 := Try.underlying89; have HR0 := Aside0.mk hr0; have HC0 := Aside0.mk hc0; clear hr0 hc0; have HB := Aside0.mk (Below.refl w.heap.size w); have H : (if 0 ≤ (l0.length : Int) then (if ((l0.length : Int) : Int).toNat ≤ 5864062014805 then (laws_toEntryS.l0 k l0 (List.replicate ((l0.length : Int) : Int).toNat z89) 0) else (none)) else (none)) = some r := h; clear h; by_cases c2 : 0 ≤ (l0.length : Int)
  · rw [if_pos c2] at H; have c2b0 := eq_true c2; have c2b1 : decide (0 ≤ (l0.length : Int)) = true := decide_eq_true c2; clear c2; by_cases c3 : ((l0.length : Int) : Int).toNat ≤ 5864062014805
    · rw [if_pos c3] at H; have c3b0 := eq_true c3; have c3b1 : decide (((l0.length : Int) : Int).toNat ≤ 5864062014805) = true := decide_eq_true c3; clear c3; obtain ⟨y187, hy187⟩ : ∃ y_ : List (S89), y_ = (List.replicate ((l0.length : Int) : Int).toNat z89) := ⟨_, rfl⟩; replace H : (laws_toEntryS.l0 k l0 y187 0) = some r := by first | (rw [hy187]; with_reducible exact H) | (have H2_ := (Option.bind_some _ _).symm.trans H; rw [hy187]; with_reducible exact H2_) | (have H2_ := (Option.bind_some _ _).symm.trans H; with_reducible exact H2_) | with_reducible exact H | (rw [hy187]; exact H) | exact H
      have Ny187 := Aside0.mk hy187; clear hy187; have H' := Aside0.mk H; clear H; go_enter Try.func25, Try.ntmps25; go_wp2_with (first | ((with_reducible refine gate_dst (N := 7) rfl ?_); refine Kd.R_make k89 _ 89 rfl (N := 7) rfl 49 _ _ rfl (l0.length : Int) rfl rfl Try.underlying49 (.agg #[(.slice none 0 0), (.slice none 0 0)]) 48 info89 rfl (by decide) (by omega) z89 (ok := fun _ => True) (okp := fun _ => True) (k89_mkM _ _ _ z89 (Kd.R_nil _ _ _ _ _) (Kd.R_nil _ _ _ _ _)) (fun _ hk => hk) trivial (of_decide_eq_true Da) (Nat.le_trans (Nat.mul_le_mul_right _ (of_decide_eq_true Da : (l0.length : Int).toNat ≤ 5864062014805)) (by omega)) (Below.refl _ _) (Nat.le_refl _) ?_; intro v188 w4 ho5 hb hg_ hnew_; clear hg_ hnew_; (first | rw [← Ny187.out] at ho5 | (simp only [Int.reduceToNat] at ho5; rw [← Ny187.out] at ho5)); have n_ := aa (Kd.R_lower ho5 (below_size By)) <| Aside0.mk (below_step By hb); clear HB; obtain ⟨HO189, HB⟩ := n_; clear hb ho5)); go_loopg [4] k (fun kq v4 w' => ∃ (x3_1 : List (S89)) (x4_1 : Int), v4 = .int .i64 x4_1 ∧ Aside0 (laws_toEntryS.l0 kq l0 x3_1 x4_1 = some r) ∧ Aside0 (kq ≤ k) ∧ Aside0 (Kd.R k89 89 w' w.heap.size (fun _ => True) v188 x3_1) ∧ Aside0 (Below w.heap.size w w'))
      case atStart => exact ⟨(y187), (0), (by first | rfl | (simp; done) | (simp [*]; done)), H', ⟨Nat.le_refl _⟩, ⟨by (with_reducible repeat (first | apply Kd.R_alloc | apply Kd.R_drewN | apply Kd.R_drew)); exact HO189.out⟩, ⟨By⟩⟩
      case round =>
        clear H'; try clear c2
        try clear c2b0
        try clear c2b1
        try clear p2
        try clear c3
        try clear c3b0
        try clear c3b1
        obtain ⟨x3_1, x4_1, rfl, HA, HK1, HO_3, HB⟩ := hrel; cases gk with
        | zero => exact absurd HA.out (by simp [laws_toEntryS.l0])
        | succ k1 =>
          have H := HA.out; clear HA; simp only [laws_toEntryS.l0] at H; by_cases c6 : x4_1 < (l0.length : Int)
          · rw [if_pos c6] at H; have c6b0 : decide (x4_1 < (l0.length : Int)) = true := decide_eq_true c6; clear c6; by_cases c7 : 0 ≤ x4_1
            · rw [if_pos c7] at H; have c7b0 : decide (0 ≤ x4_1) = true := decide_eq_true c7; clear c7; replace H := Option.bind_eq_some_iff.mp H; obtain ⟨⟨t191, t194⟩, A80, H⟩ := H; (try dsimp only at H); have A8 := Aside0.mk A80; clear A80; by_cases c9 : x4_1 < (x3_1.length : Int)
              · rw [if_pos c9] at H; have c9b0 : decide (x4_1 < (x3_1.length : Int)) = true := decide_eq_true c9; clear c9; obtain ⟨y197, hy197⟩ : ∃ y_ : List (S89), y_ = (x3_1.set (x4_1 : Int).toNat (⟨t191, t194⟩ : S89)) := ⟨_, rfl⟩; replace H : (laws_toEntryS.l0 k1 l0 y197 (wrap64 (x4_1 + 1))) = some r := by first | (rw [hy197]; with_reducible exact H) | (have H2_ := (Option.bind_some _ _).symm.trans H; rw [hy197]; with_reducible exact H2_) | (have H2_ := (Option.bind_some _ _).symm.trans H; with_reducible exact H2_) | with_reducible exact H | (rw [hy197]; exact H) | exact H
                have Ny197 := Aside0.mk hy197; clear hy197; have H' := Aside0.mk H; clear H; have p190 : 0 ≤ (x4_1 : Int) := of_decide_eq_true Da; have q190 : x4_1 < (l0.length : Int) := of_decide_eq_true Da; obtain ⟨ad190, A190_0, c190_0, A190_1, c190_1, e190, hx190_0, hx190_1, hl190_0, hi190_0, hl190_1, hi190_1⟩ := at_T84 HR0.out x4_1 p190 q190; cases e190
                replace hx190_0 := bz HB.out hx190_0; replace hx190_1 := bz HB.out hx190_1; have HR190_0 := Aside0.mk hi190_0; have HC190_0 := Aside0.mk hl190_0; clear hi190_0 hl190_0; have HR190_1 := Aside0.mk hi190_1; have HC190_1 := Aside0.mk hl190_1; clear hi190_1 hl190_1; replace p190 := eq_true p190; replace q190 := eq_true q190; go_wp2_with (first | ((with_reducible refine gate_callee (f := 62) rfl ?_); refine goesL_ (some 20) rfl rfl Try.func62 (by kernel_rfl) rfl #[.agg #[.slice A190_0 ((rd_T84 l0 x4_1).f0).length c190_0, .slice A190_1 ((rd_T84 l0 x4_1).f1).length c190_1]] rfl Ag ?_; (with_reducible refine (laws_toEntry.calls k1 _ _ ((rd_T84 l0 x4_1).f0) _ _ ((rd_T84 l0 x4_1).f1) t191 t194 _ ?side1 ?side2 ?side3 ?side4 A8.out).mono ?_); (case side1 => exact rC (Kd.C_below HR190_0.out HB.out)); (case side2 => exact HC190_0.out); (case side3 => exact rC (Kd.C_below HR190_1.out HB.out)); (case side4 => exact HC190_1.out); rintro e w11 ⟨v192, v195, rfl, ho0, ho1, hb⟩; refine ⟨_, rfl, ?_⟩; have n_ := aa (Kd.R_mono (Kd.R_told (Kd.R_told (Kd.R_old (rR HO_3.out) hb) (Kd.R_base ho0)) (Kd.S_base ho1)) (fun _ h_ => h_.1)) <| aa (Kd.R_lower ho0 (below_size By)) <| aa (Kd.S_lower ho1 (below_size By)) <| Aside0.mk (below_step By hb); clear HO_3 HB; obtain ⟨HO_3, HO193, HO196, HB⟩ := n_; (try clear hb); (try clear hb2); (try clear hk); (try clear hi); (try clear ho0); (try clear ho1); have p10 : 0 ≤ (x4_1 : Int) := of_decide_eq_true Da; have q10 : (x4_1 : Int) < ((x3_1.length : Int) : Int) := of_decide_eq_true Da; obtain ⟨go10, co10, eo10, gb10, gl10, cl10, HG10⟩ := Kd.R_form HO_3.out (by omega); (first | cases eo10 | (injection eo10 with ea_ en_ ec_; (first | subst ea_ | (injection ea_ with ea_; subst ea_)); subst ec_; clear en_)); have GB10 := Aside0.mk gb10; have GG10 := Aside0.mk HG10; clear gb10 gl10 HG10; obtain ⟨ce10, hcl10, hM10, hcc10, hfr10⟩ := Kd.R_elem HO_3.out z89 (x4_1 : Int) p10 q10; obtain ⟨ve10_0, ve10_1, rfl, ge10_0, ge10_1⟩ := k89_openM hM10; have hx10_0 : w11.cell? ⟨go10, (x4_1 : Int).toNat * 2, none⟩ = some (ve10_0) := hcc10 0 _ rfl; have hx10_1 : w11.cell? ⟨go10, (x4_1 : Int).toNat * 2 + 1, none⟩ = some (ve10_1) := hcc10 1 _ rfl; have hf10_0 : w11.frozen? ⟨go10, (x4_1 : Int).toNat * 2, none⟩ = false := hfr10 0; have hf10_1 : w11.frozen? ⟨go10, (x4_1 : Int).toNat * 2 + 1, none⟩ = false := hfr10 1; clear hcl10 hcc10 hfr10 hM10; replace p10 := eq_true p10; replace q10 := eq_true q10; have n_ := Aside0.mk (Kd.R_mono (ok' := (fun k_ => some k_ ≠ (v192 : Value).ownBlock ∧ some k_ ≠ (v195 : Value).ownBlock)) HO_3.out (fun k_ hk => ⟨hk.1.2, hk.2⟩)); clear HO_3; have HO_3 := n_; clear n_; have HX12 := Aside0.mk (show Kd.R k89 89 w11 w.heap.size (fun _ => True) (.slice (some ⟨go10, 0, none⟩) x3_1.length co10) x3_1 from (by (with_reducible repeat (first | apply Kd.R_alloc | apply Kd.R_drewN | apply Kd.R_drew)); exact Kd.R_mono HO_3.out (fun _ hk => trivial))); obtain ⟨ce12, hcl12, hM12, hcc12, hfr12⟩ := Kd.R_elem HX12.out z89 (x4_1 : Int) (of_decide_eq_true Da) (by have h_ : (x4_1 : Int) < ((x3_1.length : Int) : Int) := of_decide_eq_true Da; first | exact h_ | (have e_ := (Kd.R_reads' HO_3.out).1; omega) | simpa using h_); obtain ⟨ve12_0, ve12_1, rfl, ge12_0, ge12_1⟩ := k89_openM hM12; have HP12 := Kd.R_seg HX12.out (x4_1 : Int) (of_decide_eq_true Da) (by have h_ : (x4_1 : Int) < ((x3_1.length : Int) : Int) := of_decide_eq_true Da; first | exact h_ | (have e_ := (Kd.R_reads' HO_3.out).1; omega) | simpa using h_) (seg := [v192, v195]) (j := 0) hcl12 hcc12 (show 2 ≤ 2 from by decide) (x' := (⟨t191, t194⟩ : S89)) (k89_mkM _ _ _ (⟨t191, t194⟩ : S89) (Kd.R_mono (Kd.R_apart' (HO193.out) (Kd.R_typed HO_3.out) (by decide)) (fun k_ hk => ⟨trivial, fun e_ => (hk.2) (by rw [e_]; rfl)⟩)) (Kd.R_mono (Kd.R_apart' ((Kd.S_R HO196.out)) (Kd.R_typed HO_3.out) (by decide)) (fun k_ hk => ⟨trivial, fun e_ => (hk.2) (by rw [e_]; rfl)⟩))) (fun _ hk => hk); have hx12_0 := hcc12 0 _ rfl; (try simp only [show (k89).sz = 2 from rfl, Nat.mul_one, Nat.add_zero] at hx12_0); have hf12_0 := hfr12 0; (try simp only [show (k89).sz = 2 from rfl, Nat.mul_one, Nat.add_zero] at hf12_0); have hx12_1 := hcc12 1 _ rfl; (try simp only [show (k89).sz = 2 from rfl, Nat.mul_one, Nat.add_zero] at hx12_1); have hf12_1 := hfr12 1; (try simp only [show (k89).sz = 2 from rfl, Nat.mul_one, Nat.add_zero] at hf12_1); clear hcl12 hcc12 hfr12 hM12) | ((with_reducible refine gate_store (t := 89) (p := 21) rfl ?_); refine store_event (t := 89) (p := 21) (v := ?vo_w13) (w1 := ((w11.setCell ⟨go10, (x4_1 : Int).toNat * 2, none⟩ (v192)).setCell ⟨go10, (x4_1 : Int).toNat * 2 + 1, none⟩ (v195))) ?hg ?ho ?hn ?hr ?_; (case ho => rfl); (case hg => rfl); (case hn => rfl); (case hr => first | (go_simp; done) | (go_simp; rfl) | (obtain ⟨Za0_, Zc0_, hz0_⟩ := Kd.R_slice HO193.out; obtain ⟨Za1_, Zc1_, hz1_⟩ := Kd.S_slice HO196.out; rw [hz0_, hz1_]; first | (go_simp; done) | (go_simp; rfl))); intro w13 hw; have hg : w11.grownBy w13 (some go10) := (by rw [hw]; exact HP12.2); have hp_ : Kd.R k89 89 w13 w.heap.size (fun _ => True) (.slice (some ⟨go10, 0, none⟩) x3_1.length co10) y197 := (by rw [hw, Ny197.out]; exact HP12.1); clear HP12; have n0_ := Aside0.mk (hp_); have n1_ := Aside0.mk ((by rw [hw]; exact below_set (below_set (HB.out) GB10.out) GB10.out : Below w.heap.size w w13)); clear HO_3; clear HB; clear HO193; clear HO196; have HO_3 := n0_; have HB := n1_; clear n0_ n1_; clear hg hw hp_)); go_roundg k1
                case measure => have := HK1.out; omega
                case rel => exact ⟨(y197), (wrap64 (x4_1 + 1)), (by first | rfl | (simp; done) | (simp [*]; done)), H', ⟨by have := HK1.out; omega⟩, ⟨by (with_reducible repeat (first | apply Kd.R_alloc | apply Kd.R_drewN | apply Kd.R_drew)); exact HO_3.out⟩, ⟨By⟩⟩
              · rw [if_neg c9] at H; exact absurd H (by simp)
            · rw [if_neg c7] at H; exact absurd H (by simp)
          · rw [if_neg c6] at H; have c6b0 : decide (x4_1 < (l0.length : Int)) = false := decide_eq_false c6; clear c6; obtain rfl := Option.some.inj H; go_wp2; go_ret; exact ⟨_, Rf, by (with_reducible repeat (first | apply Kd.R_alloc | apply Kd.R_drewN | apply Kd.R_drew)); exact HO_3.out, By⟩
    · rw [if_neg c3] at H; exact absurd H (by simp)
  · rw [if_neg c2] at H; exact absurd H (by simp)

end Go.Proofs.Ytfikhgiiccbbfaa.PH
