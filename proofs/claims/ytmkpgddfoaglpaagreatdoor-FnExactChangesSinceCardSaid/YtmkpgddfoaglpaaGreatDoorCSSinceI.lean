/-
 The program's and the reference's ChangesSince as contracts: both answer sinceV. Conditions: the texts' and lengths' bounds.
-/
import Derived.Test.YtmkpgddfoaglpaaGreatDoorCSSinceP
import Derived.Test.YtmkpgddfoaglpaaGreatDoorCSSinceS
set_option linter.unusedVariables false
set_option linter.unusedSimpArgs false
namespace Go.Proofs.YtmkpgddfoaglpaaGreatDoor.PG
open Go.RowKit Go.Proofs.YtmkpgddfoaglpaaGreatDoorW.PrintWords Go.Proofs.YtmkpgddfoaglpaaGreatDoorW.PrintLast Go.Proofs.YtmkpgddfoaglpaaGreatDoorW.PrintMore Go.Proofs.YtmkpgddfoaglpaaGreatDoor.Gn Go.Proofs.YtmkpgddfoaglpaaGreatDoor
attribute [local go_sem] max2_int min2_int max_two min_two max_three min_three max_four min_four World.cell?_drew World.frozen?_drew
theorem chgsR_c (y : S67) (hok : ∀ x, x ∈ y.f1 → okChg x) (A : Option Addr) (c : Nat) (W : World) (hC : Kd.C k145 W A y.f1.length y.f1) (hc : y.f1.length ≤ c) :
   Calls Tryz.prog 111 #[.agg #[.int .i64 y.f0, .slice A y.f1.length c]] W (RetB (chgsB y.f0 y.f1) W) := by
 obtain ⟨k, hk⟩ := ev_at (impl_chgs y.f0 y.f1 hok)
 exact impl_ChangesRight.calls k y.f0 A c y.f1 _ W hC hc hk
set_option maxHeartbeats 4000000 in
set_option maxRecDepth 100000 in
theorem isince_c (y : S67) (n : Int) (hok : ∀ x, x ∈ y.f1 → okChg x) (A : Option Addr) (c : Nat) (W : World) (hC : Kd.C k145 W A y.f1.length y.f1) (hc : y.f1.length ≤ c) :
   Calls Tryz.prog 40 #[.agg #[.int .i64 y.f0, .slice A y.f1.length c], .int .i64 n] W (RetCO (coOf (sinceV y.f0 y.f1 n)) W) := by
 obtain ⟨next, l⟩ := y
 dsimp only at hok hC hc ⊢
 obtain ⟨W1, hW1⟩ : ∃ W1, (W.alloc (.cells #[.int .i64 next, .slice A l.length c] 67)).alloc (.cells #[.int .i64 0, .slice none 0 0, .slice none 0 0, .int .i64 0] 69) = W1 := ⟨_, rfl⟩
 have hB1 : Below W.heap.size W W1 := by rw [← hW1]; exact below_alloc (below_alloc (Below.refl _ _) _) _
 have hs1 : W1.heap.size = W.heap.size + 2 := by rw [← hW1]; simp
 have y0 : W1.heap[W.heap.size]? = some (.cells #[.int .i64 next, .slice A l.length c] 67 (0, 0)) := by rw [← hW1]; exact blk_alloc (blk_new _ _) _
 have y1 : W1.heap[W.heap.size + 1]? = some (.cells #[.int .i64 0, .slice none 0 0, .slice none 0 0, .int .i64 0] 69 (0, 0)) := by rw [← hW1]; have := blk_new (W.alloc (.cells #[.int .i64 next, .slice A l.length c] 67)) (.cells #[.int .i64 0, .slice none 0 0, .slice none 0 0, .int .i64 0] 69); rw [World.size_alloc] at this; exact this
 have c00 : W1.cell? ⟨W.heap.size, 0, none⟩ = some (.int .i64 next) := (blk_cell y0 0).trans rfl
 have c01 : W1.cell? ⟨W.heap.size, 1, none⟩ = some (.slice A l.length c) := (blk_cell y0 1).trans rfl
 have HCR := Aside0.mk (chgsR_c ⟨next, l⟩ hok A c W1 (Kd.C_below hC hB1) hc)
 have HB := Aside0.mk hB1
 have HS := Aside0.mk hs1
 have Y0 := Aside0.mk y0
 have Y1 := Aside0.mk y1
 unfold sinceV
 dsimp only at HCR
 cases hr : chgsB next l with
 | false =>
   rw [hr] at HCR
   rw [if_neg (by decide)]
   clear hok hC hc y0 y1 hB1 hs1 hr
   go_enter Tryz.func40, Tryz.ntmps40
   go_wp2_with (go_at_call 111; refine HCR.out.mono ?_; rintro e w2 ⟨rfl, hb2⟩; have z1 := blk_below Y1.out hb2; have d0 : w2.cell? ⟨W.heap.size + 1, 0, none⟩ = some (.int .i64 0) := (blk_cell z1 0).trans rfl; have d1 : w2.cell? ⟨W.heap.size + 1, 1, none⟩ = some (.slice none 0 0) := (blk_cell z1 1).trans rfl; have d2 : w2.cell? ⟨W.heap.size + 1, 2, none⟩ = some (.slice none 0 0) := (blk_cell z1 2).trans rfl; have d3 : w2.cell? ⟨W.heap.size + 1, 3, none⟩ = some (.int .i64 0) := (blk_cell z1 3).trans rfl; have f0 := blk_frozen z1 0; have f1 := blk_frozen z1 1; have f2 := blk_frozen z1 2; have f3 := blk_frozen z1 3; have HB2 := Aside0.mk (below_step HB.out hb2); have Z1 := Aside0.mk z1; clear hb2 z1)
   have g0 := blk_put (blk_put (blk_put (blk_put Z1.out 0 (.int .i64 0) rfl) 1 (.slice none 0 0) rfl) 2 (.slice none 0 0) rfl) 3 (.int .i64 1) rfl
   refine bodyPost_ret (results_cell_row rfl _ _ (W.heap.size + 1) 69 #[.int .i64 0, .slice none 0 0, .slice none 0 0, .int .i64 1] (0, 0) _ rfl g0 Tryz.underlying69 rfl (by kernel_rfl)) rfl ?_
   refine ⟨none, 0, none, 0, rfl, ⟨fun _ => False, fun _ => False, fun _ h => h.elim, fun _ h => h.elim, fun _ h => h.elim, Kd.S_nil _ _ _ _ _, Kd.S_nil _ _ _ _ _⟩, ?_⟩
   exact (((HB2.out.setCell (by show W.heap.size ≤ W.heap.size + 1; omega) _).setCell (by show W.heap.size ≤ W.heap.size + 1; omega) _).setCell (by show W.heap.size ≤ W.heap.size + 1; omega) _).setCell (by show W.heap.size ≤ W.heap.size + 1; omega) _
 | true =>
   obtain ⟨b0, b1, b2⟩ := chgs_bounds hr
   rw [hr] at HCR
   rw [if_pos rfl]
   have HSI := Aside0.mk (fun (V : World) (hb : Below W1.heap.size W1 V) => since_c W.heap.size next l n b0 b1 b2 A c V (blk_below y0 hb) (Kd.C_below (Kd.C_below hC hB1) hb) hc)
   have hql : (sinceQ next l n).1.length ≤ 1000000 ∧ ∀ e, e ∈ (sinceQ next l n).1 → okEnt e.f3.f0 e.f3.f1 := by
     unfold sinceQ
     split
     · exact ⟨Nat.zero_le _, fun e he => by cases he⟩
     · exact ⟨by rw [List.length_drop]; omega, fun e he => (hok e (List.mem_of_mem_drop he)).2⟩
   have hqv : (if n < 0 ∨ n ≥ next ∨ n < next - (l.length : Int) - 1 then ((0 : Int), ([] : List S145), ([] : List S145), (8 : Int)) else (0, [], l.drop ((l.length : Int) - (next - 1 - n)).toNat, 0)) = (0, [], (sinceQ next l n).1, (sinceQ next l n).2) := by
     unfold sinceQ
     split <;> rfl
   rw [hqv]
   generalize sinceQ next l n = q at HSI hql ⊢
   obtain ⟨q1, q2⟩ := q
   dsimp only at hql
   have HCP := Aside0.mk (fun (V : World) (A : Option Addr) (c : Nat) (h : Kd.C k145 V A q1.length q1) (h2 : q1.length ≤ c) => copyChgs_c q1 hql.1 hql.2 A c V h h2)
   clear hok hC hc y0 y1 hB1 hs1 hr b0 b1 b2 hql hqv
   go_enter Tryz.func40, Tryz.ntmps40
   go_wp2_with (first | (go_at_call 111; refine HCR.out.mono ?_; rintro e w2 ⟨rfl, hb2⟩; have HB2 := Aside0.mk hb2; clear hb2) | (go_at_call 112; have hc := HSI.out w2 HB2.out; refine hc.mono ?_; rintro e w3 ⟨A3, c3, rfl, hl3, hC3, hb3⟩; have X3 := Aside0.mk (And.intro hl3 hC3); have HB3 := Aside0.mk (below_step HB2.out hb3); have z1 := blk_below Y1.out HB3.out; have e1 : w3.cell? ⟨W.heap.size + 1, 1, none⟩ = some (.slice none 0 0) := (blk_cell z1 1).trans rfl; have e2 : w3.cell? ⟨W.heap.size + 1, 2, none⟩ = some (.slice none 0 0) := (blk_cell z1 2).trans rfl; clear hl3 hC3 hb3 hc z1) | (go_at_call 113; have hc := HCP.out w3 A3 c3 X3.out.2 X3.out.1; refine hc.mono ?_; rintro e w4 ⟨A4, c4, rfl, hS4, hb4⟩; have z1 := blk_below Y1.out (below_step HB3.out hb4); have d0 : w4.cell? ⟨W.heap.size + 1, 0, none⟩ = some (.int .i64 0) := (blk_cell z1 0).trans rfl; have d1 : w4.cell? ⟨W.heap.size + 1, 1, none⟩ = some (.slice none 0 0) := (blk_cell z1 1).trans rfl; have d2 : w4.cell? ⟨W.heap.size + 1, 2, none⟩ = some (.slice none 0 0) := (blk_cell z1 2).trans rfl; have d3 : w4.cell? ⟨W.heap.size + 1, 3, none⟩ = some (.int .i64 0) := (blk_cell z1 3).trans rfl; have f0 := blk_frozen z1 0; have f1 := blk_frozen z1 1; have f2 := blk_frozen z1 2; have f3 := blk_frozen z1 3; have HS4 := Aside0.mk hS4; have HB4 := Aside0.mk hb4; have Z1 := Aside0.mk z1; clear hb4 hS4 hc z1))
   have g0 := blk_put (blk_put (blk_put (blk_put Z1.out 0 (.int .i64 0) rfl) 1 (.slice none 0 0) rfl) 2 (.slice A4 q1.length c4) rfl) 3 (.int .i64 q2) rfl
   refine bodyPost_ret (results_cell_row rfl _ _ (W.heap.size + 1) 69 #[.int .i64 0, .slice none 0 0, .slice A4 q1.length c4, .int .i64 q2] (0, 0) _ rfl g0 Tryz.underlying69 rfl (by kernel_rfl)) rfl ?_
   have h1 := HS.out
   have h2 := HB3.out.size
   have h3 := HB4.out.size
   obtain ⟨w5, hw5⟩ : ∃ w5, (((w4.setCell ⟨W.heap.size + 1, 0, none⟩ (.int .i64 0)).setCell ⟨W.heap.size + 1, 1, none⟩ (.slice none 0 0)).setCell ⟨W.heap.size + 1, 2, none⟩ (.slice A4 q1.length c4)).setCell ⟨W.heap.size + 1, 3, none⟩ (.int .i64 q2) = w5 := ⟨_, rfl⟩
   have k5 : Kept w4 w5 (fun k => k = W.heap.size + 1) := by
     rw [← hw5]
     exact ⟨by simp [World.setCell], fun i _ hn => (Below.heap_setCell _ ⟨W.heap.size + 1, 3, none⟩ _ i hn).trans ((Below.heap_setCell _ ⟨W.heap.size + 1, 2, none⟩ _ i hn).trans ((Below.heap_setCell _ ⟨W.heap.size + 1, 1, none⟩ _ i hn).trans (Below.heap_setCell _ ⟨W.heap.size + 1, 0, none⟩ _ i hn)))⟩
   have s5 : w5.heap.size = w4.heap.size := by rw [← hw5]; simp [World.setCell]
   have hb5 : Below W.heap.size W w5 := by
     rw [← hw5]
     exact ((((below_step HB.out (below_step HB3.out HB4.out)).setCell (by show W.heap.size ≤ W.heap.size + 1; omega) _).setCell (by show W.heap.size ≤ W.heap.size + 1; omega) _).setCell (by show W.heap.size ≤ W.heap.size + 1; omega) _).setCell (by show W.heap.size ≤ W.heap.size + 1; omega) _
   rw [hw5]
   refine ⟨none, 0, A4, c4, rfl, CM_two (Kd.S_mono (Kd.S_kept (S_rangeV HS4.out (B := W.heap.size) (by omega)) k5 ?_) ?_), hb5⟩
   · intro k hk h; have := hk.1; omega
   · intro k hk
     have h4 := hk.1
     have h5 := hk.2
     exact ⟨by omega, by omega⟩
end Go.Proofs.YtmkpgddfoaglpaaGreatDoor.PG
