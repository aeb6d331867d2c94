/-
 The program's and the reference's ChangesTrim as contracts: both answer trimV. Conditions: the texts' and lengths' bounds.
-/
import Derived.Test.YtmkpgddfoaglpaaGreatDoorCTTrimP
import Derived.Test.YtmkpgddfoaglpaaGreatDoorCTChgS
import Derived.Test.YtmkpgddfoaglpaaGreatDoorCTP3
set_option maxHeartbeats 8000000
set_option maxRecDepth 100000
set_option linter.unusedVariables false
set_option linter.unusedSimpArgs false
namespace Go.Proofs.YtmkpgddfoaglpaaGreatDoor.PG
open Go.RowKit Go.Proofs.YtmkpgddfoaglpaaGreatDoorW.PrintWords Go.Proofs.YtmkpgddfoaglpaaGreatDoorW.PrintLast Go.Proofs.YtmkpgddfoaglpaaGreatDoorW.PrintMore Go.Proofs.YtmkpgddfoaglpaaGreatDoor.Gn Go.Proofs.YtmkpgddfoaglpaaGreatDoor
attribute [local go_sem] max2_int min2_int max_two min_two max_three min_three max_four min_four World.cell?_drew World.frozen?_drew
def trimV (next : Int) (l : List S145) (n : Int) : Int × List S145 × List S145 × Int := if chgsB next l = true then (next, trimL l n, [], 0) else (0, [], [], 1)
theorem chgs_num {next : Int} {l : List S145} (h : chgsB next l = true) (i : Nat) (hi : i < l.length) : (l[i]'hi).f0 = next - (l.length : Int) + (i : Int) := by
 unfold chgsB at h
 simp only [Bool.and_eq_true, decide_eq_true_eq, List.all_eq_true] at h
 have h1 := h.2.2.2 i (by simpa using hi)
 unfold chgAt at h1
 simp only [Bool.and_eq_true, decide_eq_true_eq] at h1
 rw [show rd_T145 l (i : Int) = l[i]'hi from getD_at hi] at h1
 exact h1.2
theorem trim_drop {next : Int} {l : List S145} (h : chgsB next l = true) (n : Int) (k : Nat) (hk : k ≤ l.length) (h1 : ∀ j (hj : j < l.length), j < k → (l[j]'hj).f0 < n) (h2 : ∀ hk : k < l.length, ¬ (l[k]'hk).f0 < n) : l.drop k = trimL l n := by
 unfold trimL
 conv => rhs; rw [← List.take_append_drop k l, List.filter_append]
 have e1 : (l.take k).filter (fun x => !decide (x.f0 < n)) = [] := by
   rw [List.filter_eq_nil_iff]
   intro x hx
   obtain ⟨j, hj, rfl⟩ := List.getElem_of_mem hx
   rw [List.length_take] at hj
   rw [List.getElem_take, decide_eq_true (h1 j (by omega) (by omega))]
   decide
 have e2 : (l.drop k).filter (fun x => !decide (x.f0 < n)) = l.drop k := by
   rw [List.filter_eq_self]
   intro x hx
   obtain ⟨j, hj, rfl⟩ := List.getElem_of_mem hx
   rw [List.length_drop] at hj
   have h3 := h2 (by omega)
   rw [chgs_num h k (by omega)] at h3
   rw [List.getElem_drop, chgs_num h (k + j) (by omega), decide_eq_false (by omega)]
   rfl
 rw [e1, e2, List.nil_append]
theorem itrim_c (y : S67) (n : Int) (hok : ∀ x, x ∈ y.f1 → okChg x) (A : Option Addr) (c : Nat) (W : World) (hC : Kd.C k145 W A y.f1.length y.f1) (hc : y.f1.length ≤ c) :
   Calls Tryz.prog 47 #[.agg #[.int .i64 y.f0, .slice A y.f1.length c], .int .i64 n] W (RetCO (coOf (trimV y.f0 y.f1 n)) W) := by
 obtain ⟨next, l⟩ := y
 dsimp only at hok hC hc ⊢
 obtain ⟨W1, hW1⟩ : ∃ W1, (W.alloc (.cells #[.int .i64 next, .slice A l.length c] 67)).alloc (.cells #[.int .i64 0, .slice none 0 0, .slice none 0 0, .int .i64 0] 69) = W1 := ⟨_, rfl⟩
 have hB1 : Below W.heap.size W W1 := by rw [← hW1]; exact below_alloc (below_alloc (Below.refl _ _) _) _
 have hs1 : W1.heap.size = W.heap.size + 2 := by rw [← hW1]; simp
 have y0 : W1.heap[W.heap.size]? = some (.cells #[.int .i64 next, .slice A l.length c] 67 (0, 0)) := by rw [← hW1]; exact blk_alloc (blk_new _ _) _
 have y1 : W1.heap[W.heap.size + 1]? = some (.cells #[.int .i64 0, .slice none 0 0, .slice none 0 0, .int .i64 0] 69 (0, 0)) := by rw [← hW1]; have := blk_new (W.alloc (.cells #[.int .i64 next, .slice A l.length c] 67)) (.cells #[.int .i64 0, .slice none 0 0, .slice none 0 0, .int .i64 0] 69); rw [World.size_alloc] at this; exact this
 have c00 : W1.cell? ⟨W.heap.size, 0, none⟩ = some (.int .i64 next) := (blk_cell y0 0).trans rfl
 have c01 : W1.cell? ⟨W.heap.size, 1, none⟩ = some (.slice A l.length c) := (blk_cell y0 1).trans rfl
 have HCR := Aside0.mk (chgsR_c ⟨next, l⟩ hok A c W1 (Kd.C_below hC hB1) hc)
 have HB := Aside0.mk hB1
 have HS := Aside0.mk hs1
 have Y0 := Aside0.mk y0
 have Y1 := Aside0.mk y1
 unfold trimV
 dsimp only at HCR
 cases hr : chgsB next l with
 | false =>
   rw [hr] at HCR
   rw [if_neg (by decide)]
   clear hok hC hc y0 y1 hB1 hs1 hr
   go_enter Tryz.func47, Tryz.ntmps47
   go_wp2_with (go_at_call 111; refine HCR.out.mono ?_; rintro e w2 ⟨rfl, hb2⟩; have z1 := blk_below Y1.out hb2; have d0 : w2.cell? ⟨W.heap.size + 1, 0, none⟩ = some (.int .i64 0) := (blk_cell z1 0).trans rfl; have d1 : w2.cell? ⟨W.heap.size + 1, 1, none⟩ = some (.slice none 0 0) := (blk_cell z1 1).trans rfl; have d2 : w2.cell? ⟨W.heap.size + 1, 2, none⟩ = some (.slice none 0 0) := (blk_cell z1 2).trans rfl; have d3 : w2.cell? ⟨W.heap.size + 1, 3, none⟩ = some (.int .i64 0) := (blk_cell z1 3).trans rfl; have f0 := blk_frozen z1 0; have f1 := blk_frozen z1 1; have f2 := blk_frozen z1 2; have f3 := blk_frozen z1 3; have HB2 := Aside0.mk (below_step HB.out hb2); have Z1 := Aside0.mk z1; clear hb2 z1)
   have g0 := blk_put (blk_put (blk_put (blk_put Z1.out 0 (.int .i64 0) rfl) 1 (.slice none 0 0) rfl) 2 (.slice none 0 0) rfl) 3 (.int .i64 1) rfl
   refine bodyPost_ret (results_cell_row rfl _ _ (W.heap.size + 1) 69 #[.int .i64 0, .slice none 0 0, .slice none 0 0, .int .i64 1] (0, 0) _ rfl g0 Tryz.underlying69 rfl (by kernel_rfl)) rfl ?_
   refine ⟨none, 0, none, 0, rfl, ⟨fun _ => False, fun _ => False, fun _ h => h.elim, fun _ h => h.elim, fun _ h => h.elim, Kd.S_nil _ _ _ _ _, Kd.S_nil _ _ _ _ _⟩, ?_⟩
   exact (((HB2.out.setCell (by show W.heap.size ≤ W.heap.size + 1; omega) _).setCell (by show W.heap.size ≤ W.heap.size + 1; omega) _).setCell (by show W.heap.size ≤ W.heap.size + 1; omega) _).setCell (by show W.heap.size ≤ W.heap.size + 1; omega) _
 | true =>
   obtain ⟨b0, b1, b2⟩ := chgs_bounds hr
   rw [hr] at HCR
   rw [if_pos rfl]
   have HTR := Aside0.mk (fun (V : World) (hb : Below W1.heap.size W1 V) => trimmed_c ⟨next, l⟩ n (by show l.length ≤ _; omega) hok A c V (Kd.C_below (Kd.C_below hC hB1) hb) hc)
   have HCE := Aside0.mk (fun (V : World) (hb : Below W1.heap.size W1 V) => (show V.cell? ⟨W.heap.size, 0, none⟩ = some (.int .i64 next) ∧ V.cell? ⟨W.heap.size, 1, none⟩ = some (.slice A l.length c) from ⟨(blk_cell (blk_below y0 hb) 0).trans rfl, (blk_cell (blk_below y0 hb) 1).trans rfl⟩))
   dsimp only at HTR
   generalize trimL l n = q at HTR ⊢
   clear hok hC hc y0 y1 hB1 hs1 hr b0 b1 b2
   go_enter Tryz.func47, Tryz.ntmps47
   go_wp2_with (first | (go_at_call 111; refine HCR.out.mono ?_; rintro e w2 ⟨rfl, hb2⟩; have HB2 := Aside0.mk hb2; obtain ⟨g0, g1⟩ := HCE.out w2 hb2; clear hb2) | (go_at_call 119; have hc := HTR.out w2 HB2.out; refine hc.mono ?_; rintro e w4 ⟨A4, c4, rfl, hS4, hb4⟩; have z1 := blk_below Y1.out (below_step HB2.out hb4); have d0 : w4.cell? ⟨W.heap.size + 1, 0, none⟩ = some (.int .i64 0) := (blk_cell z1 0).trans rfl; have d1 : w4.cell? ⟨W.heap.size + 1, 1, none⟩ = some (.slice none 0 0) := (blk_cell z1 1).trans rfl; have d2 : w4.cell? ⟨W.heap.size + 1, 2, none⟩ = some (.slice none 0 0) := (blk_cell z1 2).trans rfl; have d3 : w4.cell? ⟨W.heap.size + 1, 3, none⟩ = some (.int .i64 0) := (blk_cell z1 3).trans rfl; have f0 := blk_frozen z1 0; have f1 := blk_frozen z1 1; have f2 := blk_frozen z1 2; have f3 := blk_frozen z1 3; have HS4 := Aside0.mk hS4; have HB4 := Aside0.mk hb4; have Z1 := Aside0.mk z1; clear hb4 hS4 hc z1))
   have g0 := blk_put (blk_put (blk_put (blk_put Z1.out 0 (.int .i64 next) rfl) 1 (.slice A4 q.length c4) rfl) 2 (.slice none 0 0) rfl) 3 (.int .i64 0) rfl
   refine bodyPost_ret (results_cell_row rfl _ _ (W.heap.size + 1) 69 #[.int .i64 next, .slice A4 q.length c4, .slice none 0 0, .int .i64 0] (0, 0) _ rfl g0 Tryz.underlying69 rfl (by kernel_rfl)) rfl ?_
   have h1 := HS.out
   have h2 := HB2.out.size
   have h3 := HB4.out.size
   obtain ⟨w5, hw5⟩ : ∃ w5, (((w4.setCell ⟨W.heap.size + 1, 0, none⟩ (.int .i64 next)).setCell ⟨W.heap.size + 1, 1, none⟩ (.slice A4 q.length c4)).setCell ⟨W.heap.size + 1, 2, none⟩ (.slice none 0 0)).setCell ⟨W.heap.size + 1, 3, none⟩ (.int .i64 0) = w5 := ⟨_, rfl⟩
   have k5 : Kept w4 w5 (fun k => k = W.heap.size + 1) := by
     rw [← hw5]
     exact ⟨by simp [World.setCell], fun i _ hn => (Below.heap_setCell _ ⟨W.heap.size + 1, 3, none⟩ _ i hn).trans ((Below.heap_setCell _ ⟨W.heap.size + 1, 2, none⟩ _ i hn).trans ((Below.heap_setCell _ ⟨W.heap.size + 1, 1, none⟩ _ i hn).trans (Below.heap_setCell _ ⟨W.heap.size + 1, 0, none⟩ _ i hn)))⟩
   have s5 : w5.heap.size = w4.heap.size := by rw [← hw5]; simp [World.setCell]
   have hb5 : Below W.heap.size W w5 := by
     rw [← hw5]
     exact ((((below_step HB.out (below_step HB2.out HB4.out)).setCell (by show W.heap.size ≤ W.heap.size + 1; omega) _).setCell (by show W.heap.size ≤ W.heap.size + 1; omega) _).setCell (by show W.heap.size ≤ W.heap.size + 1; omega) _).setCell (by show W.heap.size ≤ W.heap.size + 1; omega) _
   rw [hw5]
   refine ⟨A4, c4, none, 0, rfl, CM_one (Kd.S_mono (Kd.S_kept (Kd.S_lower HS4.out (by omega)) k5 ?_) ?_), hb5⟩
   · intro k hk h; have := hk.1; omega
   · intro k hk
     have h4 := hk.1
     have h5 := hk.2
     exact ⟨by omega, by omega⟩
def RetV (p : Nat) (next : Int) (l : List S145) (W : World) (e : Ending) (w' : World) : Prop := ∃ A c, e = .returned (.agg #[.int .i64 next, .slice A l.length c]) ∧ Kd.V k145 145 w' W.heap.size (fun k => k < w'.heap.size ∧ k ≠ p) (.slice A l.length c) l ∧ Below W.heap.size W w'
theorem scopyC_c (p : Nat) (y : S67) (hl : y.f1.length ≤ 1000000) (hok : ∀ x, x ∈ y.f1 → okChg x) (A : Option Addr) (c : Nat) (W : World) (hp : p < W.heap.size) (hS : Kd.V k145 145 W W.heap.size (fun k => k ≠ p) (.slice A y.f1.length c) y.f1) :
   Calls Tryz.prog 118 #[.agg #[.int .i64 y.f0, .slice A y.f1.length c]] W (RetV p y.f0 y.f1 W) := by
 obtain ⟨k, hk⟩ := ev_at (show Ev (fun k => spec_l08Copy.f k y.f0 y.f1) (y.f0, y.f1) from Ev_bind (spec_lst y.f1 hl hok) (Ev.now _))
 refine (spec_l08Copy.calls k y.f0 _ A c y.f1 _ _ W hS hk).mono ?_
 rintro e w' ⟨v, rfl, hR, hb⟩
 obtain ⟨A', c', rfl⟩ := Kd.N_slice hR
 exact ⟨A', c', rfl, Kd.V_mono (Kd.V_bound (Kd.N_V hR)) (fun k hk => ⟨hk.2, hk.1.elim id (fun h => Nat.ne_of_gt (Nat.lt_of_lt_of_le hp h))⟩), hb⟩
def lenOf (p : Nat) (w : World) : Nat := match w.heap[p]? with | some (Obj.cells cs _ _) => (match cs[1]? with | some (Value.slice _ m _) => m | _ => 0) | _ => 0
theorem lenOf_at {p : Nat} {w : World} {v : Value} {A : Option Addr} {m c : Nat} {t : TypeId} (h : w.heap[p]? = some (.cells #[v, .slice A m c] t (0, 0))) : lenOf p w = m := by
 unfold lenOf
 rw [h]
 rfl
theorem strim_c (y : S67) (n : Int) (hok : ∀ x, x ∈ y.f1 → okChg x) (A : Option Addr) (c : Nat) (W : World) (hS : Kd.V k145 145 W W.heap.size (fun _ => True) (.slice A y.f1.length c) y.f1) :
   Calls Tryz.prog 46 #[.agg #[.int .i64 y.f0, .slice A y.f1.length c], .int .i64 n] W (RetCR (coOf (trimV y.f0 y.f1 n)) W) := by
 obtain ⟨next, l⟩ := y
 dsimp only at hok hS ⊢
 obtain ⟨q1_, hc, hC⟩ := Kd.V_reads' hS
 obtain ⟨W1, hW1⟩ : ∃ W1, (W.alloc (.cells #[.int .i64 next, .slice A l.length c] 67)).alloc (.cells #[.int .i64 0, .slice none 0 0, .slice none 0 0, .int .i64 0] 69) = W1 := ⟨_, rfl⟩
 have hB1 : Below W.heap.size W W1 := by rw [← hW1]; exact below_alloc (below_alloc (Below.refl _ _) _) _
 have hs1 : W1.heap.size = W.heap.size + 2 := by rw [← hW1]; simp
 have y0 : W1.heap[W.heap.size]? = some (.cells #[.int .i64 next, .slice A l.length c] 67 (0, 0)) := by rw [← hW1]; exact blk_alloc (blk_new _ _) _
 have y1 : W1.heap[W.heap.size + 1]? = some (.cells #[.int .i64 0, .slice none 0 0, .slice none 0 0, .int .i64 0] 69 (0, 0)) := by rw [← hW1]; have := blk_new (W.alloc (.cells #[.int .i64 next, .slice A l.length c] 67)) (.cells #[.int .i64 0, .slice none 0 0, .slice none 0 0, .int .i64 0] 69); rw [World.size_alloc] at this; exact this
 have c00 : W1.cell? ⟨W.heap.size, 0, none⟩ = some (.int .i64 next) := (blk_cell y0 0).trans rfl
 have c01 : W1.cell? ⟨W.heap.size, 1, none⟩ = some (.slice A l.length c) := (blk_cell y0 1).trans rfl
 have HCR := Aside0.mk (schgsR_c ⟨next, l⟩ hok A c W1 (Kd.C_below hC hB1) hc)
 have HB := Aside0.mk hB1
 have HS := Aside0.mk hs1
 have Y1 := Aside0.mk y1
 have HILL := Aside0.mk (fun (V : World) => sill_c 1 V)
 have HCE := Aside0.mk (fun (V : World) (hb : Below W1.heap.size W1 V) => (show V.cell? ⟨W.heap.size, 0, none⟩ = some (.int .i64 next) ∧ V.cell? ⟨W.heap.size, 1, none⟩ = some (.slice A l.length c) from ⟨(blk_cell (blk_below y0 hb) 0).trans rfl, (blk_cell (blk_below y0 hb) 1).trans rfl⟩))
 unfold trimV
 dsimp only at HCR
 cases hr : chgsB next l with
 | false =>
   rw [hr] at HCR
   rw [if_neg (by decide)]
   clear hok hC hc hS y0 y1 hB1 hs1 hr q1_
   go_enter Tryz.func46, Tryz.ntmps46
   go_wp2_with (first | (go_at_call 107; refine HCR.out.mono ?_; rintro e w2 ⟨rfl, hb2⟩; have HB2 := Aside0.mk hb2; clear hb2) | (go_at_call 108; refine (HILL.out w2).mono ?_; rintro e w3 ⟨A3, c3, B3, b3, rfl, hb3⟩; have HB3 := Aside0.mk (below_step HB2.out hb3); have z1 := blk_below Y1.out HB3.out; have d0 : w3.cell? ⟨W.heap.size + 1, 0, none⟩ = some (.int .i64 0) := (blk_cell z1 0).trans rfl; have d1 : w3.cell? ⟨W.heap.size + 1, 1, none⟩ = some (.slice none 0 0) := (blk_cell z1 1).trans rfl; have d2 : w3.cell? ⟨W.heap.size + 1, 2, none⟩ = some (.slice none 0 0) := (blk_cell z1 2).trans rfl; have d3 : w3.cell? ⟨W.heap.size + 1, 3, none⟩ = some (.int .i64 0) := (blk_cell z1 3).trans rfl; have f0 := blk_frozen z1 0; have f1 := blk_frozen z1 1; have f2 := blk_frozen z1 2; have f3 := blk_frozen z1 3; have Z1 := Aside0.mk z1; clear hb3 z1))
   have g0 := blk_put (blk_put (blk_put (blk_put Z1.out 0 (.int .i64 0) rfl) 1 (.slice A3 0 c3) rfl) 2 (.slice B3 0 b3) rfl) 3 (.int .i64 1) rfl
   refine bodyPost_ret (results_cell_row rfl _ _ (W.heap.size + 1) 69 #[.int .i64 0, .slice A3 0 c3, .slice B3 0 b3, .int .i64 1] (0, 0) _ rfl g0 Tryz.underlying69 rfl (by kernel_rfl)) rfl ?_
   refine ⟨A3, c3, B3, b3, rfl, ⟨Nat.zero_le _, C_nil0 _ _, Nat.zero_le _, C_nil0 _ _⟩, ?_⟩
   exact ((((below_step HB.out HB3.out).setCell (by show W.heap.size ≤ W.heap.size + 1; omega) _).setCell (by show W.heap.size ≤ W.heap.size + 1; omega) _).setCell (by show W.heap.size ≤ W.heap.size + 1; omega) _).setCell (by show W.heap.size ≤ W.heap.size + 1; omega) _
 | true =>
   obtain ⟨b0, b1, b2⟩ := chgs_bounds hr
   rw [hr] at HCR
   rw [if_pos rfl]
   have HCP := Aside0.mk (fun (V : World) (hb : Below W1.heap.size W1 V) => scopyC_c (W.heap.size + 1) ⟨next, l⟩ (by show l.length ≤ _; omega) hok A c V (Nat.lt_of_lt_of_le (by rw [hs1]; exact Nat.lt_succ_self _) hb.size) (Kd.V_mono (Kd.V_below (Kd.V_below (Kd.V_bound hS) hB1) hb) (fun k hk => Nat.ne_of_lt (Nat.lt_succ_of_lt hk.2))))
   have HTD := Aside0.mk (fun k hk h1 h2 => trim_drop hr n k hk h1 h2)
   have HL40 := Aside0.mk b2
   dsimp only at HCP
   generalize trimL l n = q at HTD ⊢
   clear hok hC hc hS y0 y1 hB1 hs1 hr b0 b1 b2 q1_
   go_enter Tryz.func46, Tryz.ntmps46
   go_wp2_with (first | (go_at_call 107; refine HCR.out.mono ?_; rintro e w2 ⟨rfl, hb2⟩; have HB2 := Aside0.mk hb2; obtain ⟨g0, g1⟩ := HCE.out w2 hb2; clear hb2) | (go_at_call 118; have hc := HCP.out w2 HB2.out; refine hc.mono ?_; rintro e w3 ⟨A3, c3, rfl, hV3, hb3⟩; have HV3 := Aside0.mk hV3; have HB3 := Aside0.mk (below_step HB2.out hb3); clear hb3 hV3 hc))
   obtain ⟨w4, hw4⟩ : ∃ w4, w3.alloc (.cells #[.int .i64 next, .slice A3 l.length c3] 67) = w4 := ⟨_, rfl⟩
   rw [hw4]
   have HP4 := Aside0.mk (show w4.heap[w3.heap.size]? = some (.cells #[.int .i64 next, .slice A3 (l.drop 0).length c3] 67 (0, 0)) by rw [← hw4]; exact blk_new _ _)
   have HB4 := Aside0.mk (show Below w3.heap.size w3 w4 by rw [← hw4]; exact below_alloc (Below.refl _ _) _)
   have HV4 := Aside0.mk (show Kd.V k145 145 w4 0 (fun k => k < w3.heap.size ∧ k ≠ W.heap.size + 1) (.slice A3 (l.drop 0).length c3) (l.drop 0) from Kd.V_below HV3.out HB4.out)
   clear hw4 g0 g1 c00 c01 hW1
   go_loopw [12] (fun s12 wr => ∃ (k : Nat) (A9 : Option Addr) (c9 : Nat), Aside0 (k ≤ l.length) ∧ Aside0 (wr.heap[w3.heap.size]? = some (.cells #[.int .i64 next, .slice A9 (l.drop k).length c9] 67 (0, 0))) ∧ Aside0 (Kd.V k145 145 wr 0 (fun k => k < w3.heap.size ∧ k ≠ W.heap.size + 1) (.slice A9 (l.drop k).length c9) (l.drop k)) ∧ Aside0 (∀ j (hj : j < l.length), j < k → (l[j]'hj).f0 < n) ∧ Aside0 (Below w3.heap.size w3 wr)) (fun _ wr => lenOf w3.heap.size wr)
   case atStart => exact ⟨0, A3, c3, ⟨Nat.zero_le _⟩, HP4, HV4, ⟨fun j _ h => absurd h (Nat.not_lt_zero _)⟩, HB4⟩
   case round =>
     obtain ⟨k, A9, c9, HK, HP, HV, HN, HBR⟩ := hrel
     have p0 : wr.cell? ⟨w3.heap.size, 0, none⟩ = some (.int .i64 next) := (blk_cell HP.out 0).trans rfl
     have p1 : wr.cell? ⟨w3.heap.size, 1, none⟩ = some (.slice A9 (l.drop k).length c9) := (blk_cell HP.out 1).trans rfl
     have pf := blk_frozen HP.out 1
     have z1 := blk_below (blk_below Y1.out HB3.out) HBR.out
     have d0 : wr.cell? ⟨W.heap.size + 1, 0, none⟩ = some (.int .i64 0) := (blk_cell z1 0).trans rfl
     have d1 : wr.cell? ⟨W.heap.size + 1, 1, none⟩ = some (.slice none 0 0) := (blk_cell z1 1).trans rfl
     have d2 : wr.cell? ⟨W.heap.size + 1, 2, none⟩ = some (.slice none 0 0) := (blk_cell z1 2).trans rfl
     have d3 : wr.cell? ⟨W.heap.size + 1, 3, none⟩ = some (.int .i64 0) := (blk_cell z1 3).trans rfl
     have f0 := blk_frozen z1 0
     have f1 := blk_frozen z1 1
     have f2 := blk_frozen z1 2
     have f3 := blk_frozen z1 3
     have Z1 := Aside0.mk z1
     clear z1
     cases hd : l.drop k with
     | nil =>
       have hkl : l.length ≤ k := by have := congrArg List.length hd; rw [List.length_drop] at this; simp at this; omega
       have hq : l.drop k = q := HTD.out k HK.out (fun j hj hlt => HN.out j hj hlt) (fun h => absurd hkl (by omega))
       have HVQ := HV
       rw [hd] at hq p1 HVQ
       subst hq
       replace p1 : wr.cell? ⟨w3.heap.size, 1, none⟩ = some (.slice A9 0 c9) := p1
       clear hd hkl
       go_wp2
       refine bodyPost_ret (results_cell_row rfl _ _ (W.heap.size + 1) 69 #[.int .i64 next, .slice A9 0 c9, .slice none 0 0, .int .i64 0] (0, 0) _ rfl (put4 Z1.out) Tryz.underlying69 rfl (by kernel_rfl)) rfl ?_
       exact ⟨A9, c9, none, 0, rfl, ⟨(Kd.V_at HVQ.out).2.1, (Kd.V_reads' (Kd.V_kept HVQ.out kept4 (fun k hk h => hk.2 h))).2.2, Nat.zero_le _, C_nil0 _ _⟩, below4 (below_step HB.out (below_step HB3.out HBR.out))⟩
     | cons a r =>
       have hkl : k < l.length := by have := congrArg List.length hd; rw [List.length_drop] at this; simp at this; omega
       have ha : l[k]'hkl = a := by have h := List.drop_eq_getElem_cons hkl; rw [hd] at h; exact (List.cons.inj h).1.symm
       have hr : l.drop (k + 1) = r := by have h := List.drop_eq_getElem_cons hkl; rw [hd] at h; exact (List.cons.inj h).2.symm
       have HVQ := HV
       rw [hd] at HVQ p1
       replace p1 : wr.cell? ⟨w3.heap.size, 1, none⟩ = some (.slice A9 (r.length + 1) c9) := p1
       obtain ⟨ad, A0, c0, A1, c1, rfl, hx0, hx1, hx2, hx3, hx4, hl0, hi0, hl1, hi1⟩ := at_chg (dn := []) (Kd.V_reads' HVQ.out).2.2 (by simp)
       have hx : wr.cell? ad = some (.int .i64 a.f0) := hx0
       clear hx0 hx1 hx2 hx3 hx4 hl0 hi0 hl1 hi1
       have g0 : decide ((0 : Int) < ((r.length + 1 : Nat) : Int)) = true := decide_eq_true (by omega)
       by_cases ca : a.f0 < n
       · have da : decide (a.f0 < n) = true := decide_eq_true ca
         go_wp2
         have hroom : (r.length + 1) ≤ c9 := (Kd.V_at HVQ.out).2.1
         have hF := Kd.F_cut (m := 1) (c := c9) (Kd.V_at HVQ.out).2.2 (by simp) hroom
         replace hF : Kd.F k145 wr (fun k => k < w3.heap.size ∧ k ≠ W.heap.size + 1) (if c9 = 1 then some ad else some ⟨ad.block, ad.off + 5, none⟩) r.length r := hF
         generalize (if c9 = 1 then some ad else some ⟨ad.block, ad.off + 5, none⟩ : Option Addr) = X at hF ⊢
         have hp := blk_put HP.out 1 (.slice X r.length (c9 - 1)) rfl
         have kp : Kept wr (wr.setCell ⟨w3.heap.size, 1, none⟩ (.slice X r.length (c9 - 1))) (fun k => k = w3.heap.size) := ⟨by simp [World.setCell], fun i _ hn => Below.heap_setCell wr ⟨w3.heap.size, 1, none⟩ _ i hn⟩
         have hm := lenOf_at HP.out
         rw [hd] at hm
         refine ⟨⟨k + 1, X, c9 - 1, ⟨hkl⟩, ⟨?_⟩, ⟨?_⟩, ⟨?_⟩, ⟨HBR.out.setCell (Nat.le_refl _) _⟩⟩, ?_⟩
         · rw [hr]; exact hp
         · rw [hr]; exact Kd.V_kept (Kd.V_mk (by omega) hF) kp (fun k hk => Nat.ne_of_lt hk.1)
         · intro j hj hjk
           by_cases hjj : j = k
           · subst hjj; rw [ha]; exact ca
           · exact HN.out j hj (by omega)
         · rw [hm, lenOf_at hp]; exact Nat.lt_succ_self _
       · have da : decide (a.f0 < n) = false := decide_eq_false ca
         have hq : l.drop k = q := HTD.out k HK.out (fun j hj hlt => HN.out j hj hlt) (fun h => by rw [ha]; omega)
         rw [hd] at hq
         subst hq
         go_wp2
         refine bodyPost_ret (results_cell_row rfl _ _ (W.heap.size + 1) 69 #[.int .i64 next, .slice (some ad) (r.length + 1) c9, .slice none 0 0, .int .i64 0] (0, 0) _ rfl (put4 Z1.out) Tryz.underlying69 rfl (by kernel_rfl)) rfl ?_
         exact ⟨some ad, c9, none, 0, rfl, ⟨(Kd.V_at HVQ.out).2.1, (Kd.V_reads' (Kd.V_kept HVQ.out kept4 (fun k hk h => hk.2 h))).2.2, Nat.zero_le _, C_nil0 _ _⟩, below4 (below_step HB.out (below_step HB3.out HBR.out))⟩
end Go.Proofs.YtmkpgddfoaglpaaGreatDoor.PG
