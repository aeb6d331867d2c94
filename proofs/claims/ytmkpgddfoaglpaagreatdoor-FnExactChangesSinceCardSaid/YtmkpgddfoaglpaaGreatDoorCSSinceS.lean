/-
 The reference's ChangesSince, walked: it answers sinceV. Conditions: the texts' and lengths' bounds.
-/
import Derived.Test.YtmkpgddfoaglpaaGreatDoorCSSinceP
import Derived.Test.YtmkpgddfoaglpaaGreatDoorCSP3
set_option linter.unusedVariables false
set_option linter.unusedSimpArgs false
namespace Go.Proofs.YtmkpgddfoaglpaaGreatDoor.PG
open Go.RowKit Go.Proofs.YtmkpgddfoaglpaaGreatDoorW.PrintWords Go.Proofs.YtmkpgddfoaglpaaGreatDoorW.PrintLast Go.Proofs.YtmkpgddfoaglpaaGreatDoorW.PrintMore Go.Proofs.YtmkpgddfoaglpaaGreatDoor.Gn Go.Proofs.YtmkpgddfoaglpaaGreatDoor
attribute [local go_sem] max2_int min2_int max_two min_two max_three min_three max_four min_four World.cell?_drew World.frozen?_drew
def coOf (r : Int × List S145 × List S145 × Int) : S69 := ⟨⟨r.1, r.2.1⟩, r.2.2.1, r.2.2.2⟩
theorem put4 {V : World} {p : Nat} {t : TypeId} {z0 z1 z2 z3 a0 a1 a2 a3 : Value} (h : V.heap[p]? = some (.cells #[z0, z1, z2, z3] t (0, 0))) : ((((V.setCell ⟨p, 0, none⟩ a0).setCell ⟨p, 1, none⟩ a1).setCell ⟨p, 2, none⟩ a2).setCell ⟨p, 3, none⟩ a3).heap[p]? = some (.cells #[a0, a1, a2, a3] t (0, 0)) := blk_put (blk_put (blk_put (blk_put h 0 a0 rfl) 1 a1 rfl) 2 a2 rfl) 3 a3 rfl
theorem below4 {W V : World} {a0 a1 a2 a3 : Value} (h : Below W.heap.size W V) : Below W.heap.size W ((((V.setCell ⟨W.heap.size + 1, 0, none⟩ a0).setCell ⟨W.heap.size + 1, 1, none⟩ a1).setCell ⟨W.heap.size + 1, 2, none⟩ a2).setCell ⟨W.heap.size + 1, 3, none⟩ a3) := (((h.setCell (Nat.le_succ _) _).setCell (Nat.le_succ _) _).setCell (Nat.le_succ _) _).setCell (Nat.le_succ _) _
theorem kept4 {V : World} {p : Nat} {a0 a1 a2 a3 : Value} : Kept V ((((V.setCell ⟨p, 0, none⟩ a0).setCell ⟨p, 1, none⟩ a1).setCell ⟨p, 2, none⟩ a2).setCell ⟨p, 3, none⟩ a3) (fun k => k = p) := ⟨by simp [World.setCell], fun i _ hn => (Below.heap_setCell _ ⟨p, 3, none⟩ _ i hn).trans ((Below.heap_setCell _ ⟨p, 2, none⟩ _ i hn).trans ((Below.heap_setCell _ ⟨p, 1, none⟩ _ i hn).trans (Below.heap_setCell _ ⟨p, 0, none⟩ _ i hn)))⟩
theorem slist_c (l : List S145) (hl : l.length ≤ 1000000) (hok : ∀ x, x ∈ l → okChg x) (p : Nat) (A : Option Addr) (c : Nat) (W : World) (hp : p < W.heap.size) (hS : Kd.V k145 145 W W.heap.size (fun k => k ≠ p) (.slice A l.length c) l) :
   Calls Tryz.prog 109 #[.slice A l.length c] W fun e w' => ∃ B b, e = .returned (.slice B l.length b) ∧ l.length ≤ b ∧ Kd.V k145 145 w' W.heap.size (fun k => k ≠ p) (.slice B l.length b) l ∧ Below W.heap.size W w' := by
 obtain ⟨k, hk⟩ := ev_at (spec_lst l hl hok)
 refine (spec_l08List.calls k _ A c l l W hS hk).mono ?_
 rintro e w' ⟨v, rfl, hN, hb⟩
 obtain ⟨B, b, rfl⟩ := Kd.N_slice hN
 have hV : Kd.V k145 145 w' W.heap.size (fun k => k ≠ p) (.slice B l.length b) l := Kd.V_mono (Kd.N_V hN (base' := W.heap.size)) (fun k hk => hk.elim id (fun h => Nat.ne_of_gt (Nat.lt_of_lt_of_le hp h)))
 exact ⟨B, b, rfl, (Kd.V_at hV).2.1, hV, hb⟩
set_option maxHeartbeats 4000000 in
set_option maxRecDepth 100000 in
theorem ssince_c (y : S67) (n : Int) (hok : ∀ x, x ∈ y.f1 → okChg x) (A : Option Addr) (c : Nat) (W : World) (hS : Kd.V k145 145 W W.heap.size (fun _ => True) (.slice A y.f1.length c) y.f1) :
   Calls Tryz.prog 38 #[.agg #[.int .i64 y.f0, .slice A y.f1.length c], .int .i64 n] W (RetCR (coOf (sinceV y.f0 y.f1 n)) W) := by
 obtain ⟨next, l⟩ := y
 dsimp only at hok hS ⊢
 obtain ⟨_, hc, hC⟩ := Kd.V_reads' hS
 obtain ⟨W1, hW1⟩ : ∃ W1, (W.alloc (.cells #[.int .i64 next, .slice A l.length c] 67)).alloc (.cells #[.int .i64 0, .slice none 0 0, .slice none 0 0, .int .i64 0] 69) = W1 := ⟨_, rfl⟩
 have hB1 : Below W.heap.size W W1 := by rw [← hW1]; exact below_alloc (below_alloc (Below.refl _ _) _) _
 have hs1 : W1.heap.size = W.heap.size + 2 := by rw [← hW1]; simp
 have y0 : W1.heap[W.heap.size]? = some (.cells #[.int .i64 next, .slice A l.length c] 67 (0, 0)) := by rw [← hW1]; exact blk_alloc (blk_new _ _) _
 have y1 : W1.heap[W.heap.size + 1]? = some (.cells #[.int .i64 0, .slice none 0 0, .slice none 0 0, .int .i64 0] 69 (0, 0)) := by rw [← hW1]; have := blk_new (W.alloc (.cells #[.int .i64 next, .slice A l.length c] 67)) (.cells #[.int .i64 0, .slice none 0 0, .slice none 0 0, .int .i64 0] 69); rw [World.size_alloc] at this; exact this
 have c00 : W1.cell? ⟨W.heap.size, 0, none⟩ = some (.int .i64 next) := (blk_cell y0 0).trans rfl
 have c01 : W1.cell? ⟨W.heap.size, 1, none⟩ = some (.slice A l.length c) := (blk_cell y0 1).trans rfl
 have HCR := Aside0.mk (schgsR_c ⟨next, l⟩ hok A c W1 (Kd.C_below hC hB1) hc)
 have HB := Aside0.mk hB1
 have HS := Aside0.mk hs1
 have Y0 := Aside0.mk y0
 have Y1 := Aside0.mk y1
 unfold sinceV
 dsimp only at HCR
 cases hr : chgsB next l with
 | false =>
   rw [hr] at HCR
   rw [if_neg (by decide)]
   clear hok hS hC hc y0 y1 hB1 hs1 hr
   go_enter Tryz.func38, Tryz.ntmps38
   go_wp2_with (first | (go_at_call 107; refine HCR.out.mono ?_; rintro e w2 ⟨rfl, hb2⟩; have z0 := blk_below Y0.out hb2; have a0 : w2.cell? ⟨W.heap.size, 0, none⟩ = some (.int .i64 next) := (blk_cell z0 0).trans rfl; have a1 : w2.cell? ⟨W.heap.size, 1, none⟩ = some (.slice A l.length c) := (blk_cell z0 1).trans rfl; have HB2 := Aside0.mk hb2; clear hb2 z0) | (go_at_call 108; refine (sill_c _ w2).mono ?_; rintro e w3 ⟨A3, c3, B3, b3, rfl, hb3⟩; have z1 := blk_below (blk_below Y1.out HB2.out) hb3; have d0 : w3.cell? ⟨W.heap.size + 1, 0, none⟩ = some (.int .i64 0) := (blk_cell z1 0).trans rfl; have d1 : w3.cell? ⟨W.heap.size + 1, 1, none⟩ = some (.slice none 0 0) := (blk_cell z1 1).trans rfl; have d2 : w3.cell? ⟨W.heap.size + 1, 2, none⟩ = some (.slice none 0 0) := (blk_cell z1 2).trans rfl; have d3 : w3.cell? ⟨W.heap.size + 1, 3, none⟩ = some (.int .i64 0) := (blk_cell z1 3).trans rfl; have f0 := blk_frozen z1 0; have f1 := blk_frozen z1 1; have f2 := blk_frozen z1 2; have f3 := blk_frozen z1 3; have HB3 := Aside0.mk hb3; have Z1 := Aside0.mk z1; clear hb3 z1))
   refine bodyPost_ret (results_cell_row rfl _ _ (W.heap.size + 1) 69 #[.int .i64 0, .slice A3 0 c3, .slice B3 0 b3, .int .i64 1] (0, 0) _ rfl (put4 Z1.out) Tryz.underlying69 rfl (by kernel_rfl)) rfl ?_
   exact ⟨A3, c3, B3, b3, rfl, ⟨Nat.zero_le _, C_nil0 _ _, Nat.zero_le _, C_nil0 _ _⟩, below4 (below_step HB.out (below_step HB2.out HB3.out))⟩
 | true =>
   obtain ⟨b0, b1, b2⟩ := chgs_bounds hr
   rw [hr] at HCR
   rw [if_pos rfl]
   have w1 : wrap64 (next - (l.length : Int)) = next - (l.length : Int) := w_id (by omega) (by omega)
   have w2 : wrap64 (next - (l.length : Int) - 1) = next - (l.length : Int) - 1 := w_id (by omega) (by omega)
   by_cases c1 : n < 0
   · rw [if_pos (.inl c1)]
     have e1 : decide (n < 0) = true := decide_eq_true c1
     clear hok hS hC hc y0 y1 hB1 hs1 hr b0 b1 b2 c1
     go_enter Tryz.func38, Tryz.ntmps38
     go_wp2_with (first | (go_at_call 107; refine HCR.out.mono ?_; rintro e w2 ⟨rfl, hb2⟩; have z0 := blk_below Y0.out hb2; have a0 : w2.cell? ⟨W.heap.size, 0, none⟩ = some (.int .i64 next) := (blk_cell z0 0).trans rfl; have a1 : w2.cell? ⟨W.heap.size, 1, none⟩ = some (.slice A l.length c) := (blk_cell z0 1).trans rfl; have HB2 := Aside0.mk hb2; clear hb2 z0) | (go_at_call 108; refine (sill_c _ w2).mono ?_; rintro e w3 ⟨A3, c3, B3, b3, rfl, hb3⟩; have z1 := blk_below (blk_below Y1.out HB2.out) hb3; have d0 : w3.cell? ⟨W.heap.size + 1, 0, none⟩ = some (.int .i64 0) := (blk_cell z1 0).trans rfl; have d1 : w3.cell? ⟨W.heap.size + 1, 1, none⟩ = some (.slice none 0 0) := (blk_cell z1 1).trans rfl; have d2 : w3.cell? ⟨W.heap.size + 1, 2, none⟩ = some (.slice none 0 0) := (blk_cell z1 2).trans rfl; have d3 : w3.cell? ⟨W.heap.size + 1, 3, none⟩ = some (.int .i64 0) := (blk_cell z1 3).trans rfl; have f0 := blk_frozen z1 0; have f1 := blk_frozen z1 1; have f2 := blk_frozen z1 2; have f3 := blk_frozen z1 3; have HB3 := Aside0.mk hb3; have Z1 := Aside0.mk z1; clear hb3 z1))
     refine bodyPost_ret (results_cell_row rfl _ _ (W.heap.size + 1) 69 #[.int .i64 0, .slice A3 0 c3, .slice B3 0 b3, .int .i64 8] (0, 0) _ rfl (put4 Z1.out) Tryz.underlying69 rfl (by kernel_rfl)) rfl ?_
     exact ⟨A3, c3, B3, b3, rfl, ⟨Nat.zero_le _, C_nil0 _ _, Nat.zero_le _, C_nil0 _ _⟩, below4 (below_step HB.out (below_step HB2.out HB3.out))⟩
   have e1 : decide (n < 0) = false := decide_eq_false c1
   by_cases c2 : n ≥ next
   · rw [if_pos (.inr (.inl c2))]
     have e2 : decide (next ≤ n) = true := decide_eq_true c2
     clear hok hS hC hc y0 y1 hB1 hs1 hr b0 b1 b2 c2
     go_enter Tryz.func38, Tryz.ntmps38
     go_wp2_with (first | (go_at_call 107; refine HCR.out.mono ?_; rintro e w2 ⟨rfl, hb2⟩; have z0 := blk_below Y0.out hb2; have a0 : w2.cell? ⟨W.heap.size, 0, none⟩ = some (.int .i64 next) := (blk_cell z0 0).trans rfl; have a1 : w2.cell? ⟨W.heap.size, 1, none⟩ = some (.slice A l.length c) := (blk_cell z0 1).trans rfl; have HB2 := Aside0.mk hb2; clear hb2 z0) | (go_at_call 108; refine (sill_c _ w2).mono ?_; rintro e w3 ⟨A3, c3, B3, b3, rfl, hb3⟩; have z1 := blk_below (blk_below Y1.out HB2.out) hb3; have d0 : w3.cell? ⟨W.heap.size + 1, 0, none⟩ = some (.int .i64 0) := (blk_cell z1 0).trans rfl; have d1 : w3.cell? ⟨W.heap.size + 1, 1, none⟩ = some (.slice none 0 0) := (blk_cell z1 1).trans rfl; have d2 : w3.cell? ⟨W.heap.size + 1, 2, none⟩ = some (.slice none 0 0) := (blk_cell z1 2).trans rfl; have d3 : w3.cell? ⟨W.heap.size + 1, 3, none⟩ = some (.int .i64 0) := (blk_cell z1 3).trans rfl; have f0 := blk_frozen z1 0; have f1 := blk_frozen z1 1; have f2 := blk_frozen z1 2; have f3 := blk_frozen z1 3; have HB3 := Aside0.mk hb3; have Z1 := Aside0.mk z1; clear hb3 z1))
     refine bodyPost_ret (results_cell_row rfl _ _ (W.heap.size + 1) 69 #[.int .i64 0, .slice A3 0 c3, .slice B3 0 b3, .int .i64 8] (0, 0) _ rfl (put4 Z1.out) Tryz.underlying69 rfl (by kernel_rfl)) rfl ?_
     exact ⟨A3, c3, B3, b3, rfl, ⟨Nat.zero_le _, C_nil0 _ _, Nat.zero_le _, C_nil0 _ _⟩, below4 (below_step HB.out (below_step HB2.out HB3.out))⟩
   have e2 : decide (next ≤ n) = false := decide_eq_false c2
   by_cases c3 : n < next - (l.length : Int) - 1
   · rw [if_pos (.inr (.inr c3))]
     have e3 : decide (n < next - (l.length : Int) - 1) = true := decide_eq_true c3
     clear hok hS hC hc y0 y1 hB1 hs1 hr b0 b1 b2 c3
     go_enter Tryz.func38, Tryz.ntmps38
     go_wp2_with (first | (go_at_call 107; refine HCR.out.mono ?_; rintro e w2 ⟨rfl, hb2⟩; have z0 := blk_below Y0.out hb2; have a0 : w2.cell? ⟨W.heap.size, 0, none⟩ = some (.int .i64 next) := (blk_cell z0 0).trans rfl; have a1 : w2.cell? ⟨W.heap.size, 1, none⟩ = some (.slice A l.length c) := (blk_cell z0 1).trans rfl; have HB2 := Aside0.mk hb2; clear hb2 z0) | (go_at_call 108; refine (sill_c _ w2).mono ?_; rintro e w3 ⟨A3, c3, B3, b3, rfl, hb3⟩; have z1 := blk_below (blk_below Y1.out HB2.out) hb3; have d0 : w3.cell? ⟨W.heap.size + 1, 0, none⟩ = some (.int .i64 0) := (blk_cell z1 0).trans rfl; have d1 : w3.cell? ⟨W.heap.size + 1, 1, none⟩ = some (.slice none 0 0) := (blk_cell z1 1).trans rfl; have d2 : w3.cell? ⟨W.heap.size + 1, 2, none⟩ = some (.slice none 0 0) := (blk_cell z1 2).trans rfl; have d3 : w3.cell? ⟨W.heap.size + 1, 3, none⟩ = some (.int .i64 0) := (blk_cell z1 3).trans rfl; have f0 := blk_frozen z1 0; have f1 := blk_frozen z1 1; have f2 := blk_frozen z1 2; have f3 := blk_frozen z1 3; have HB3 := Aside0.mk hb3; have Z1 := Aside0.mk z1; clear hb3 z1))
     refine bodyPost_ret (results_cell_row rfl _ _ (W.heap.size + 1) 69 #[.int .i64 0, .slice A3 0 c3, .slice B3 0 b3, .int .i64 8] (0, 0) _ rfl (put4 Z1.out) Tryz.underlying69 rfl (by kernel_rfl)) rfl ?_
     exact ⟨A3, c3, B3, b3, rfl, ⟨Nat.zero_le _, C_nil0 _ _, Nat.zero_le _, C_nil0 _ _⟩, below4 (below_step HB.out (below_step HB2.out HB3.out))⟩
   have e3 : decide (n < next - (l.length : Int) - 1) = false := decide_eq_false c3
   rw [if_neg (by clear w1 w2; omega)]
   obtain ⟨m, hm⟩ : ∃ m : Nat, (l.length : Int) - (next - 1 - n) = (m : Int) := ⟨((l.length : Int) - (next - 1 - n)).toNat, by clear w1 w2; omega⟩
   have hml : m ≤ l.length := by clear w1 w2; omega
   have w3 : wrap64 (next - 1) = next - 1 := w_id (by clear w1 w2; omega) (by clear w1 w2; omega)
   have w4 : wrap64 (next - 1 - n) = next - 1 - n := w_id (by clear w1 w2 w3; omega) (by clear w1 w2 w3; omega)
   have w5 : wrap64 ((l.length : Int) - (next - 1 - n)) = (m : Int) := by rw [hm]; exact w_id (by clear w1 w2 w3 w4; omega) (by clear w1 w2 w3 w4; omega)
   obtain ⟨i0, hi0_, _, hsz, _⟩ := info_parts info145
   have hcut := cut_from (P := Tryz.prog) 65 145 .i64 Tryz.underlying65 hi0_ 5 hsz A l.length c (m : Int) (by clear w1 w2 w3 w4 w5; omega) (by clear w1 w2 w3 w4 w5; omega)
   rw [hm, Int.toNat_natCast]
   rw [Int.toNat_natCast] at hcut
   have hq : l.length - m = (l.drop m).length := by rw [List.length_drop]
   rw [hq] at hcut
   have hF := Kd.F_cut (m := m) (c := c) (Kd.V_at hS).2.2 hml hc
   replace hF : Kd.F k145 W (fun _ => True) (if c = m then A else A.map (·.add (m * 5))) (l.drop m).length (l.drop m) := hF
   generalize (if c = m then A else A.map (·.add (m * 5))) = A9 at hcut hF
   have hc9 : (l.drop m).length ≤ c - m := by rw [List.length_drop]; clear w1 w2 w3 w4 w5; omega
   have hql : (l.drop m).length ≤ 1000000 := by rw [List.length_drop]; clear w1 w2 w3 w4 w5; omega
   have hqo : ∀ x, x ∈ l.drop m → okChg x := fun x hx => hok x (List.mem_of_mem_drop hx)
   generalize c - m = c9 at hcut hc9
   have x1 : (0 ≤ (m : Int)) = True := eq_true (by clear w1 w2 w3 w4 w5; omega)
   have x2 : ((m : Int) ≤ (l.length : Int)) = True := eq_true (by clear w1 w2 w3 w4 w5; omega)
   generalize l.drop m = q at hcut hF hc9 hql hqo hq ⊢
   have hV : Kd.V k145 145 W W.heap.size (fun _ => True) (.slice A9 q.length c9) q := Kd.V_mk hc9 hF
   have HL := Aside0.mk (fun (V : World) (hb : Below W1.heap.size W1 V) => slist_c q hql hqo (W.heap.size + 1) A9 c9 V (Nat.lt_of_lt_of_le (by rw [hs1]; exact Nat.lt_succ_self _) hb.size) (Kd.V_mono (Kd.V_below (Kd.V_below (Kd.V_bound hV) hB1) hb) (fun k hk => Nat.ne_of_lt (Nat.lt_succ_of_lt hk.2))))
   clear hok hS hC hc y0 y1 hB1 hs1 hr b0 b1 b2 c1 c2 c3 hm hml hi0_ hsz hq hF hc9 hql hqo hV
   go_enter Tryz.func38, Tryz.ntmps38
   go_wp2_with (first | (go_at_call 107; refine HCR.out.mono ?_; rintro e w2 ⟨rfl, hb2⟩; have z0 := blk_below Y0.out hb2; have a0 : w2.cell? ⟨W.heap.size, 0, none⟩ = some (.int .i64 next) := (blk_cell z0 0).trans rfl; have a1 : w2.cell? ⟨W.heap.size, 1, none⟩ = some (.slice A l.length c) := (blk_cell z0 1).trans rfl; have HB2 := Aside0.mk hb2; clear hb2 z0) | (go_at_call 109; refine (HL.out w2 HB2.out).mono ?_; rintro e w3 ⟨B3, b3, rfl, hl3, hC3, hb3⟩; have z1 := blk_below (blk_below Y1.out HB2.out) hb3; have d0 : w3.cell? ⟨W.heap.size + 1, 0, none⟩ = some (.int .i64 0) := (blk_cell z1 0).trans rfl; have d1 : w3.cell? ⟨W.heap.size + 1, 1, none⟩ = some (.slice none 0 0) := (blk_cell z1 1).trans rfl; have d2 : w3.cell? ⟨W.heap.size + 1, 2, none⟩ = some (.slice none 0 0) := (blk_cell z1 2).trans rfl; have d3 : w3.cell? ⟨W.heap.size + 1, 3, none⟩ = some (.int .i64 0) := (blk_cell z1 3).trans rfl; have f0 := blk_frozen z1 0; have f1 := blk_frozen z1 1; have f2 := blk_frozen z1 2; have f3 := blk_frozen z1 3; have HB3 := Aside0.mk hb3; have Z1 := Aside0.mk z1; have X3 := Aside0.mk (And.intro hl3 hC3); clear hl3 hC3 hb3 z1))
   refine bodyPost_ret (results_cell_row rfl _ _ (W.heap.size + 1) 69 #[.int .i64 0, .slice none 0 0, .slice B3 q.length b3, .int .i64 0] (0, 0) _ rfl (put4 Z1.out) Tryz.underlying69 rfl (by kernel_rfl)) rfl ?_
   exact ⟨none, 0, B3, b3, rfl, ⟨Nat.zero_le _, C_nil0 _ _, X3.out.1, (Kd.V_reads' (Kd.V_kept X3.out.2 kept4 (fun k hk => hk))).2.2⟩, below4 (below_step HB.out (below_step HB2.out HB3.out))⟩
end Go.Proofs.YtmkpgddfoaglpaaGreatDoor.PG
