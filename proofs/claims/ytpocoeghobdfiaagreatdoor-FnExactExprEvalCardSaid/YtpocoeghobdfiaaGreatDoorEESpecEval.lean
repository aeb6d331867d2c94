/-
  The reference's ExprEval, walked: it comes to exprEvalV. Condition: the lengths' bounds.
-/
import Derived.Test.YtpocoeghobdfiaaGreatDoorEESpecRun
namespace Go.Proofs.YtpocoeghobdfiaaGreatDoor.PG
open Go.RowKit Go.Proofs.YtpocoeghobdfiaaGreatDoorW.PrintWords Go.Proofs.YtpocoeghobdfiaaGreatDoorW.PrintLast Go.Proofs.YtpocoeghobdfiaaGreatDoorW.PrintMore Go.Proofs.YtpocoeghobdfiaaGreatDoor.Gn Go.Proofs.YtpocoeghobdfiaaGreatDoor.Sem
attribute [local go_sem] max2_int min2_int max_two min_two max_three min_three max_four min_four World.cell?_drew World.frozen?_drew
set_option linter.unusedVariables false
set_option linter.unusedSimpArgs false

theorem one_calls (x : List S70) (l : List S115) (d : List S113) (W0 : World) (g : Nat) (A : Option Addr) (c : Nat) (A0 : Option Addr) (c0 : Nat) (A1 : Option Addr) (c1 : Nat) (hg : W0.heap.size ≤ g) (hx : Kd.C k70 W0 A x.length x) (hc : x.length ≤ c)
    (hd0 : d.length ≤ c0) (hl0 : l.length ≤ c1) (hD : Kd.C k113 W0 A0 d.length d) (hL : Kd.C k115 W0 A1 l.length l) (hup : UpNames l) {y : List S70} {t : ByteArray} {r : List S70} {f : Bool} (h : Tx l y t r f) :
    y.length ≤ 500 → RunC x W0 g A c A0 d.length c0 A1 l.length c1 y t r f := by
  induction h with
  | text p r h1 h2 =>
    intro hy
    obtain ⟨op, txt, num⟩ := p
    simp only at h1 h2
    subst h1
    exact one_text x l d W0 g A c A0 c0 A1 c1 hg hx hc txt num r h2
  | attr p r h1 h2 =>
    intro hy
    obtain ⟨op, txt, num⟩ := p
    simp only at h1 h2
    subst h1
    rw [vals_at hup] at h2 ⊢
    exact one_attr x l d W0 g A c A0 c0 A1 c1 hg hx hc txt num r hd0 hl0 hD hL h2
  | lower p r r1 a f h1 h2 ih =>
    intro hy
    have hz := h2.size
    obtain ⟨op, txt, num⟩ := p
    simp only at h1
    subst h1
    simp only [List.length_cons] at hy
    exact one_lower x l d W0 g A c A0 c0 A1 c1 hg hx hc txt num r r1 a f (by omega) (ih (by omega))
  | upper p r r1 a f h1 h2 ih =>
    intro hy
    have hz := h2.size
    obtain ⟨op, txt, num⟩ := p
    simp only at h1
    subst h1
    simp only [List.length_cons] at hy
    exact one_upper x l d W0 g A c A0 c0 A1 c1 hg hx hc txt num r r1 a f (by omega) (ih (by omega))
  | join p r r1 r2 a b f g' h1 h2 h3 ih ih2 =>
    intro hy
    have hz := h2.size
    have hz2 := h3.size
    obtain ⟨op, txt, num⟩ := p
    simp only at h1
    subst h1
    simp only [List.length_cons] at hy
    exact one_join x l d W0 g A c A0 c0 A1 c1 hg hx hc txt num r r1 r2 a b f g' (by omega) (by omega) (ih (by omega)) (ih2 (by omega))
  | first p r r1 r2 a b f g' h1 h2 h3 ih ih2 =>
    intro hy
    have hz := h2.size
    have hz2 := h3.size
    obtain ⟨op, txt, num⟩ := p
    simp only at h1
    subst h1
    simp only [List.length_cons] at hy
    exact one_first x l d W0 g A c A0 c0 A1 c1 hg hx hc txt num r r1 r2 a b f g' (by omega) (by omega) (ih (by omega)) (ih2 (by omega))
  | left p r r1 a f h1 hn0 hn40 h2 ih =>
    intro hy
    have hz := h2.size
    obtain ⟨op, txt, num⟩ := p
    simp only at h1 hn0 hn40
    subst h1
    simp only [List.length_cons] at hy
    exact one_left x l d W0 g A c A0 c0 A1 c1 hg hx hc txt num r r1 a f (by omega) (ih (by omega)) hn0 hn40
set_option maxHeartbeats 4000000 in
set_option maxRecDepth 100000 in
theorem specEval_calls (x : List S70) (l : List S115) (d : List S113) (A : Option Addr) (c : Nat) (A0 : Option Addr) (c0 : Nat) (A1 : Option Addr) (c1 : Nat) (W : World) (hx : Kd.C k70 W A x.length x) (hc : x.length ≤ c)
    (hd0 : d.length ≤ c0) (hl0 : l.length ≤ c1) (hD : Kd.C k113 W A0 d.length d) (hL : Kd.C k115 W A1 l.length l) (hup : UpNames l) (hxl : x.length ≤ 500) {t : ByteArray} {f : Bool} (h : Tx l x t [] f) :
    Calls Tryz.prog 33 #[.slice A x.length c, .agg #[.slice A0 d.length c0, .slice A1 l.length c1]] W fun e w' => e = .returned (.tuple #[.string t, .bool f]) ∧ Below W.heap.size W w' := by
  obtain ⟨w1, hw1⟩ : ∃ w1, W.alloc (.cells #[.slice A0 d.length c0, .slice A1 l.length c1] 37) = w1 := ⟨_, rfl⟩
  have hb1 : Below W.heap.size W w1 := by rw [← hw1]; exact below_alloc (Below.refl _ _) _
  have hn1 : w1.heap[W.heap.size]? = some (.cells #[.slice A0 d.length c0, .slice A1 l.length c1] 37 (0, 0)) := by rw [← hw1]; exact heap_alloc_new W _
  have z0 := blk_cell hn1 0
  have z1 := blk_cell hn1 1
  obtain ⟨w2, hw2⟩ : ∃ w2, w1.alloc (.cells #[.slice A x.length c, .slice A0 d.length c0, .slice A1 l.length c1, .int .i64 0, .bool false] 111) = w2 := ⟨_, rfl⟩
  have hb2 : Below w1.heap.size w1 w2 := by rw [← hw2]; exact below_alloc (Below.refl _ _) _
  have hn2 : RunAt w2 w1.heap.size A x.length c A0 d.length c0 A1 l.length c1 ((0 : Nat) : Int) false := by rw [← hw2]; exact heap_alloc_new w1 _
  have hcall := one_calls x l d w1 w1.heap.size A c A0 c0 A1 c1 (Nat.le_refl _) (Kd.C_below hx hb1) hc hd0 hl0 (Kd.C_below hD hb1) (Kd.C_below hL hb1) hup h hxl w2 0 false hb2 (Nat.zero_le _) rfl hn2
  have HB1 := Aside0.mk hb1
  clear hx hc hd0 hl0 hD hL hup hxl h hb1 hn1 hb2 hn2
  cases f
  all_goals
    go_enter Tryz.func33, Tryz.ntmps33
    go_wp2_with (go_at_call 68; (with_reducible refine hcall.mono ?_); rintro e w3 ⟨rfl, hb3, hk3, at3, hle3, hd3, hR3⟩; have HR3 := Aside0.mk hR3; have HB3 := Aside0.mk hb3; have q4 := blk_cell HR3.out 4; clear hR3 hb3 hk3 hle3 hd3)
    go_quiet (fail)
    go_wp2
    go_ret2
    exact ⟨rfl, pw_below_drewN (below_step HB1.out HB3.out) _⟩
theorem spec_right_c (A : Option Addr) (c : Nat) (x : List S70) (W : World) (hr : Kd.C k70 W A x.length x) (hc : x.length ≤ c) : Calls Tryz.prog 31 #[.slice A x.length c] W fun e w' => e = .returned (.bool (exprB x)) ∧ Below W.heap.size W w' := by
  obtain ⟨k, hk⟩ := (exprB_spec x).1.rounds
  exact spec_ExprRight.calls k A c x _ W hr hc hk
theorem spec_entry_c (A0 : Option Addr) (c0 : Nat) (d : List S113) (A1 : Option Addr) (c1 : Nat) (l : List S115) (hd : d.length ≤ 9223372036854775807) (hl : l.length ≤ 9223372036854775807) (hv : ∀ x, x ∈ l → x.f1.length ≤ 9223372036854775807) (W : World) (h0 : Kd.C k113 W A0 d.length d) (l0 : d.length ≤ c0) (h1 : Kd.C k115 W A1 l.length l) (l1 : l.length ≤ c1) :
    Calls Tryz.prog 32 #[.agg #[.slice A0 d.length c0, .slice A1 l.length c1]] W fun e w' => e = .returned (.bool (entryB d l)) ∧ Below W.heap.size W w' := by
  obtain ⟨k, hk⟩ := (spec_entry d l hd hl hv).rounds
  exact spec_EntryRight.calls k A0 c0 d A1 c1 l _ W h0 l0 h1 l1 hk
set_option maxHeartbeats 4000000 in
set_option maxRecDepth 100000 in
theorem spec_exprEval_c (A : Option Addr) (c : Nat) (x : List S70) (A0 : Option Addr) (c0 : Nat) (d : List S113) (A1 : Option Addr) (c1 : Nat) (l : List S115) (hv : ∀ x, x ∈ l → x.f1.length ≤ 9223372036854775807) (W : World)
    (hr : Kd.C k70 W A x.length x) (hc : x.length ≤ c) (hr0 : Kd.C k113 W A0 d.length d) (hc0 : d.length ≤ c0) (hr1 : Kd.C k115 W A1 l.length l) (hc1 : l.length ≤ c1) :
    Calls Tryz.prog 8 #[.slice A x.length c, .agg #[.slice A0 d.length c0, .slice A1 l.length c1]] W (RetT (exprEvalV x d l) W) := by
  obtain ⟨w1, hw1⟩ : ∃ w1, W.alloc (.cells #[.slice A0 d.length c0, .slice A1 l.length c1] 37) = w1 := ⟨_, rfl⟩
  have hb0 : Below W.heap.size W w1 := by rw [← hw1]; exact below_alloc (Below.refl _ _) _
  have hn1 : w1.heap[W.heap.size]? = some (.cells #[.slice A0 d.length c0, .slice A1 l.length c1] 37 (0, 0)) := by rw [← hw1]; exact heap_alloc_new W _
  obtain ⟨w2, hw2⟩ : ∃ w2, w1.alloc (.cells #[.string ⟨#[]⟩, .int .i64 0, .int .i64 0] 30) = w2 := ⟨_, rfl⟩
  have hb12 : Below w1.heap.size w1 w2 := by rw [← hw2]; exact below_alloc (Below.refl _ _) _
  have hn2 : w2.heap[w1.heap.size]? = some (.cells #[.string ⟨#[]⟩, .int .i64 0, .int .i64 0] 30 (0, 0)) := by rw [← hw2]; exact heap_alloc_new w1 _
  have HX := spec_right_c A c x w2 (Kd.C_below (Kd.C_below hr hb0) hb12) hc
  have HY := Aside0.mk (fun (V : World) (hb : Below w1.heap.size w1 V) => spec_entry_c A0 c0 d A1 c1 l (Kd.C_max hr0) (Kd.C_max hr1) hv V (Kd.C_below (Kd.C_below hr0 hb0) hb) hc0 (Kd.C_below (Kd.C_below hr1 hb0) hb) hc1)
  have HV := Aside0.mk (fun (V : World) (hb : Below w1.heap.size w1 V) => (show V.cell? ⟨W.heap.size, 0, none⟩ = some (.slice A0 d.length c0) ∧ V.cell? ⟨W.heap.size, 1, none⟩ = some (.slice A1 l.length c1) from ⟨pw_cell_below hb (cell_blk hn1 rfl), pw_cell_below hb (cell_blk hn1 rfl)⟩))
  have HT := Aside0.mk (fun (h : (exprB x && entryB d l) = true) (V : World) (hb : Below w1.heap.size w1 V) => specEval_calls x l d A c A0 c0 A1 c1 V (Kd.C_below (Kd.C_below hr hb0) hb) hc hc0 hc1 (Kd.C_below (Kd.C_below hr0 hb0) hb) (Kd.C_below (Kd.C_below hr1 hb0) hb) (up_of_entry (d := d) (by rw [Bool.and_eq_true] at h; exact h.2)) (by rw [Bool.and_eq_true] at h; have := (exprB_wf h.1).1; omega) (txV_spec h))
  have HN2 := Aside0.mk hn2
  have HB12 := Aside0.mk hb12
  have HB0 := Aside0.mk hb0
  clear hr hc hr0 hc0 hr1 hc1 hb0 hb12 hn2 hn1 hv
  unfold exprEvalV
  generalize txV x d l = p at HT ⊢
  obtain ⟨t, f⟩ := p
  simp only at HT ⊢
  generalize exprB x = b1 at HX HT ⊢
  generalize entryB d l = b2 at HY HT ⊢
  have HBV2 : Aside0 (Below w1.heap.size w1 w2) := HB12
  have v0 := (HV.out w2 HB12.out).1
  have v1 := (HV.out w2 HB12.out).2
  have z0 := blk_cell HN2.out 0
  have z1 := blk_cell HN2.out 1
  have z2 := blk_cell HN2.out 2
  have y0 := blk_frozen HN2.out 0
  have y1 := blk_frozen HN2.out 1
  have y2 := blk_frozen HN2.out 2
  by_cases h1 : (x.length : Int) > 400
  · rw [if_pos h1]
    clear HT HX
    go_enter Tryz.func8, Tryz.ntmps8
    go_wp2
    refine bodyPost_ret (results_cell_row rfl _ _ w1.heap.size 30 #[.string ⟨#[]⟩, .int .i64 0, .int .i64 2] (0, 0) _ rfl (out_row HN2.out) Tryz.underlying30 rfl (by kernel_rfl)) rfl ?_
    exact ⟨rfl, out_below (below_step HB0.out HBV2.out) HB0.out.size⟩
  rw [if_neg h1]
  cases b1
  · clear HT
    go_enter Tryz.func8, Tryz.ntmps8
    go_wp2_with (first | (go_at_call 31; refine HX.mono ?_; rintro e w3 ⟨rfl, hb3⟩; have HN3 := Aside0.mk (blk_below HN2.out hb3); have HBV3 := Aside0.mk (below_step HBV2.out hb3); obtain ⟨e0, e1⟩ := HV.out w3 HBV3.out; have z0 := blk_cell HN3.out 0; have y0 := blk_frozen HN3.out 0; have z1 := blk_cell HN3.out 1; have y1 := blk_frozen HN3.out 1; have z2 := blk_cell HN3.out 2; have y2 := blk_frozen HN3.out 2))
    refine bodyPost_ret (results_cell_row rfl _ _ w1.heap.size 30 #[.string ⟨#[]⟩, .int .i64 0, .int .i64 1] (0, 0) _ rfl (out_row HN3.out) Tryz.underlying30 rfl (by kernel_rfl)) rfl ?_
    exact ⟨rfl, out_below (below_step HB0.out HBV3.out) HB0.out.size⟩
  cases b2
  · clear HT
    go_enter Tryz.func8, Tryz.ntmps8
    go_wp2_with (first | (go_at_call 31; refine HX.mono ?_; rintro e w3 ⟨rfl, hb3⟩; have HN3 := Aside0.mk (blk_below HN2.out hb3); have HBV3 := Aside0.mk (below_step HBV2.out hb3); obtain ⟨e0, e1⟩ := HV.out w3 HBV3.out; have z0 := blk_cell HN3.out 0; have y0 := blk_frozen HN3.out 0; have z1 := blk_cell HN3.out 1; have y1 := blk_frozen HN3.out 1; have z2 := blk_cell HN3.out 2; have y2 := blk_frozen HN3.out 2) | (go_at_call 32; refine (HY.out w3 HBV3.out).mono ?_; rintro e w4 ⟨rfl, hb4⟩; have HN4 := Aside0.mk (blk_below HN3.out hb4); have HBV4 := Aside0.mk (below_step HBV3.out hb4); obtain ⟨e0, e1⟩ := HV.out w4 HBV4.out; have z0 := blk_cell HN4.out 0; have y0 := blk_frozen HN4.out 0; have z1 := blk_cell HN4.out 1; have y1 := blk_frozen HN4.out 1; have z2 := blk_cell HN4.out 2; have y2 := blk_frozen HN4.out 2))
    refine bodyPost_ret (results_cell_row rfl _ _ w1.heap.size 30 #[.string ⟨#[]⟩, .int .i64 0, .int .i64 1] (0, 0) _ rfl (out_row HN4.out) Tryz.underlying30 rfl (by kernel_rfl)) rfl ?_
    exact ⟨rfl, out_below (below_step HB0.out HBV4.out) HB0.out.size⟩
  have HT2 := Aside0.mk (HT.out rfl)
  clear HT
  cases f
  · go_enter Tryz.func8, Tryz.ntmps8
    go_wp2_with (first | (go_at_call 31; refine HX.mono ?_; rintro e w3 ⟨rfl, hb3⟩; have HN3 := Aside0.mk (blk_below HN2.out hb3); have HBV3 := Aside0.mk (below_step HBV2.out hb3); obtain ⟨e0, e1⟩ := HV.out w3 HBV3.out; have z0 := blk_cell HN3.out 0; have y0 := blk_frozen HN3.out 0; have z1 := blk_cell HN3.out 1; have y1 := blk_frozen HN3.out 1; have z2 := blk_cell HN3.out 2; have y2 := blk_frozen HN3.out 2) | (go_at_call 32; refine (HY.out w3 HBV3.out).mono ?_; rintro e w4 ⟨rfl, hb4⟩; have HN4 := Aside0.mk (blk_below HN3.out hb4); have HBV4 := Aside0.mk (below_step HBV3.out hb4); obtain ⟨e0, e1⟩ := HV.out w4 HBV4.out; have z0 := blk_cell HN4.out 0; have y0 := blk_frozen HN4.out 0; have z1 := blk_cell HN4.out 1; have y1 := blk_frozen HN4.out 1; have z2 := blk_cell HN4.out 2; have y2 := blk_frozen HN4.out 2) | (go_at_call 33; refine (HT2.out w4 HBV4.out).mono ?_; rintro e w5 ⟨rfl, hb5⟩; have HN5 := Aside0.mk (blk_below HN4.out hb5); have HBV5 := Aside0.mk (below_step HBV4.out hb5); obtain ⟨e0, e1⟩ := HV.out w5 HBV5.out; have z0 := blk_cell HN5.out 0; have y0 := blk_frozen HN5.out 0; have z1 := blk_cell HN5.out 1; have y1 := blk_frozen HN5.out 1; have z2 := blk_cell HN5.out 2; have y2 := blk_frozen HN5.out 2))
    refine bodyPost_ret (results_cell_row rfl _ _ w1.heap.size 30 #[.string ⟨#[]⟩, .int .i64 0, .int .i64 8] (0, 0) _ rfl (out_row HN5.out) Tryz.underlying30 rfl (by kernel_rfl)) rfl ?_
    exact ⟨rfl, out_below (below_step HB0.out HBV5.out) HB0.out.size⟩
  · go_enter Tryz.func8, Tryz.ntmps8
    go_wp2_with (first | (go_at_call 31; refine HX.mono ?_; rintro e w3 ⟨rfl, hb3⟩; have HN3 := Aside0.mk (blk_below HN2.out hb3); have HBV3 := Aside0.mk (below_step HBV2.out hb3); obtain ⟨e0, e1⟩ := HV.out w3 HBV3.out; have z0 := blk_cell HN3.out 0; have y0 := blk_frozen HN3.out 0; have z1 := blk_cell HN3.out 1; have y1 := blk_frozen HN3.out 1; have z2 := blk_cell HN3.out 2; have y2 := blk_frozen HN3.out 2) | (go_at_call 32; refine (HY.out w3 HBV3.out).mono ?_; rintro e w4 ⟨rfl, hb4⟩; have HN4 := Aside0.mk (blk_below HN3.out hb4); have HBV4 := Aside0.mk (below_step HBV3.out hb4); obtain ⟨e0, e1⟩ := HV.out w4 HBV4.out; have z0 := blk_cell HN4.out 0; have y0 := blk_frozen HN4.out 0; have z1 := blk_cell HN4.out 1; have y1 := blk_frozen HN4.out 1; have z2 := blk_cell HN4.out 2; have y2 := blk_frozen HN4.out 2) | (go_at_call 33; refine (HT2.out w4 HBV4.out).mono ?_; rintro e w5 ⟨rfl, hb5⟩; have HN5 := Aside0.mk (blk_below HN4.out hb5); have HBV5 := Aside0.mk (below_step HBV4.out hb5); obtain ⟨e0, e1⟩ := HV.out w5 HBV5.out; have z0 := blk_cell HN5.out 0; have y0 := blk_frozen HN5.out 0; have z1 := blk_cell HN5.out 1; have y1 := blk_frozen HN5.out 1; have z2 := blk_cell HN5.out 2; have y2 := blk_frozen HN5.out 2))
    refine bodyPost_ret (results_cell_row rfl _ _ w1.heap.size 30 #[.string t, .int .i64 0, .int .i64 0] (0, 0) _ rfl (out_row HN5.out) Tryz.underlying30 rfl (by kernel_rfl)) rfl ?_
    exact ⟨rfl, out_below (below_step HB0.out HBV5.out) HB0.out.size⟩
theorem vals_len {W : World} {A : Option Addr} {l : List S115} (h : Kd.C k115 W A l.length l) : ∀ x, x ∈ l → x.f1.length ≤ 9223372036854775807 := by
  intro x hx
  obtain ⟨i, hi, rfl⟩ := List.getElem_of_mem hx
  obtain ⟨ad, B1, b1, _, _, _, _, h5⟩ := attr_at h hi
  rw [attr_rd l i hi] at h5
  exact Kd.C_max h5
noncomputable def spec_ExprEval.f (l0 : List S70) (l1_0 : List S113) (l1_1 : List S115) : Option (ByteArray × Int × Int) := some ((exprEvalV l0 l1_0 l1_1).1, 0, (exprEvalV l0 l1_0 l1_1).2)
theorem spec_ExprEval.calls (A0 : Option Addr) (c0 : Nat) (l0 : List S70) (A1_0 : Option Addr) (c1_0 : Nat) (l1_0 : List S113) (A1_1 : Option Addr) (c1_1 : Nat) (l1_1 : List S115) (r1 : ByteArray) (r2 r3 : Int) (w : World)
    (hr0 : Kd.C k70 w A0 l0.length l0) (hc0 : l0.length ≤ c0) (hr1_0 : Kd.C k113 w A1_0 l1_0.length l1_0) (hc1_0 : l1_0.length ≤ c1_0) (hr1_1 : Kd.C k115 w A1_1 l1_1.length l1_1) (hc1_1 : l1_1.length ≤ c1_1) (h : spec_ExprEval.f l0 l1_0 l1_1 = some (r1, r2, r3)) :
    Calls Tryz.prog 8 #[.slice A0 l0.length c0, .agg #[.slice A1_0 l1_0.length c1_0, .slice A1_1 l1_1.length c1_1]] w fun e w' => e = .returned (.agg #[.string r1, .int .i64 r2, .int .i64 r3]) ∧ Below w.heap.size w w' := by
  unfold spec_ExprEval.f at h
  simp only [Option.some.injEq, Prod.mk.injEq] at h
  obtain ⟨rfl, rfl, rfl⟩ := h
  exact spec_exprEval_c A0 c0 l0 A1_0 c1_0 l1_0 A1_1 c1_1 l1_1 (vals_len hr1_1) w hr0 hc0 hr1_0 hc1_0 hr1_1 hc1_1
end Go.Proofs.YtpocoeghobdfiaaGreatDoor.PG
