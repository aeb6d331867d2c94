/-
  The program's RowDrop, walked. Condition: the rows' size.
-/
import Derived.StillTailTactics
import Derived.Test.YtpocoeghobdfiaaDoorRDP4
import Derived.Test.YtpocoeghobdfiaaDoorRDRowDrop
namespace Go.Proofs.YtpocoeghobdfiaaDoor.PG
open Go.RowKit Go.Proofs.YtpocoeghobdfiaaDoorW.PrintWords Go.Proofs.YtpocoeghobdfiaaDoorW.PrintLast Go.Proofs.YtpocoeghobdfiaaDoorW.PrintMore Go.Proofs.YtpocoeghobdfiaaDoor.Gn Go.Proofs.YtpocoeghobdfiaaDoor.Sem
attribute [local go_sem] max2_int min2_int max_two min_two max_three min_three max_four min_four World.cell?_drew World.frozen?_drew
set_option linter.unusedVariables false
set_option linter.unusedSimpArgs false

/-- What RowDrop answers. -/
def rowDropV (a b id : Int) (l : List S34) : Int × Int × List S34 × S34 × Int := if tableB a b l = true then outI a (dropI id b l) else (0, 0, [], zeroR, 1)
set_option maxHeartbeats 8000000 in
set_option maxRecDepth 100000 in
theorem rowDrop_calls (a b id : Int) (A : Option Addr) (c : Nat) (l : List S34) (W : World) (hr : Kd.C k34 W A l.length l) (hc : l.length ≤ c) (hl : l.length * 80 ≤ 140737488355328) :
    Calls Tryd.prog 40 #[.agg #[.int .i64 a, .int .i64 b, .slice A l.length c], .int .i64 id] W (RetOut (rowDropV a b id l) W) := by
  obtain ⟨W1, hW1⟩ : ∃ W1, W.alloc (.cells #[.int .i64 a, .int .i64 b, .slice A l.length c] 38) = W1 := ⟨_, rfl⟩
  have hb1' : Below W.heap.size W W1 := by rw [← hW1]; exact below_alloc (Below.refl _ _) _
  have hn1 : W1.heap[W.heap.size]? = some (.cells #[.int .i64 a, .int .i64 b, .slice A l.length c] 38 (0, 0)) := by rw [← hW1]; exact heap_alloc_new W _
  obtain ⟨W2, hW2⟩ : ∃ W2, W1.alloc (.cells #[.int .i64 id] 2) = W2 := ⟨_, rfl⟩
  have hb2' : Below W1.heap.size W1 W2 := by rw [← hW2]; exact below_alloc (Below.refl _ _) _
  have hn2 : W2.heap[W1.heap.size]? = some (.cells #[.int .i64 id] 2 (0, 0)) := by rw [← hW2]; exact heap_alloc_new W1 _
  obtain ⟨W3, hW3⟩ : ∃ W3, W2.alloc (.cells #[.int .i64 0, .int .i64 0, .slice none 0 0, .int .i64 0, .string ⟨#[]⟩, .string ⟨#[]⟩, .string ⟨#[]⟩, .bool false, .int .i64 0, .bool false, .slice none 0 0, .int .i64 0] 72) = W3 := ⟨_, rfl⟩
  have hb3' : Below W2.heap.size W2 W3 := by rw [← hW3]; exact below_alloc (Below.refl _ _) _
  have hn3 : W3.heap[W2.heap.size]? = some (.cells #[.int .i64 0, .int .i64 0, .slice none 0 0, .int .i64 0, .string ⟨#[]⟩, .string ⟨#[]⟩, .string ⟨#[]⟩, .bool false, .int .i64 0, .bool false, .slice none 0 0, .int .i64 0] 72 (0, 0)) := by rw [← hW3]; exact heap_alloc_new W2 _
  have hs3 : W3.heap.size = W2.heap.size + 1 := by rw [← hW3]; simp
  have hn13 := blk_below (blk_below hn1 hb2') hb3'
  have q0 := blk_cell hn13 0
  have q1 := blk_cell hn13 1
  have q2 := blk_cell hn13 2
  have hbW := below_step hb1' (below_step hb2' hb3')
  have HS := Aside0.mk (show W.heap.size ≤ W2.heap.size ∧ W3.heap.size = W2.heap.size + 1 from ⟨Nat.le_trans hb1'.size hb2'.size, hs3⟩)
  obtain ⟨kt, hkt⟩ := (impl_table a b l).rounds
  have hTR := impl_TableRight.calls kt a b A c l _ W3 (Kd.C_below hr hbW) hc hkt
  have HN13 := Aside0.mk hn13
  have HN3 := Aside0.mk hn3
  have HE := Aside0.mk (cell_of_blk (blk_below hn2 hb3') rfl : W3.cell? ⟨W1.heap.size, 0, none⟩ = some (.int .i64 id))
  have HBW := Aside0.mk hbW
  have HCH := Aside0.mk (fun (h : tableB a b l = true) (V : World) (hb : Below W3.heap.size W3 V) => changed_calls W1.heap.size a b id (by unfold tableB isB at h; simp only [Bool.and_eq_true, decide_eq_true_eq] at h; exact h.2.1.1) (by unfold tableB isB at h; simp only [Bool.and_eq_true, decide_eq_true_eq] at h; exact h.2.1.2) A c l V (Kd.C_below (Kd.C_below hr hbW) hb) hc hl (pw_cell_below hb (cell_of_blk (blk_below hn2 hb3') rfl)))
  clear hr hc hl hb1' hn1 hb2' hn2 hb3' hn3 hs3 hn13 hbW hkt
  unfold rowDropV
  generalize tableB a b l = tb at hTR HCH ⊢
  cases tb with
  | false =>
    rw [if_neg (by simp)]
    clear HCH
    go_enter Tryd.func40, Tryd.ntmps40
    go_wp2_with (go_at_call 60; refine hTR.mono ?_; rintro e w4 ⟨rfl, hb4⟩; have HB4 := Aside0.mk hb4; have HN4 := Aside0.mk (blk_below HN3.out hb4); have z0 := blk_cell HN4.out 0; have y0 := blk_frozen HN4.out 0; have z1 := blk_cell HN4.out 1; have y1 := blk_frozen HN4.out 1; have z2 := blk_cell HN4.out 2; have y2 := blk_frozen HN4.out 2; have z3 := blk_cell HN4.out 3; have y3 := blk_frozen HN4.out 3; have z4 := blk_cell HN4.out 4; have y4 := blk_frozen HN4.out 4; have z5 := blk_cell HN4.out 5; have y5 := blk_frozen HN4.out 5; have z6 := blk_cell HN4.out 6; have y6 := blk_frozen HN4.out 6; have z7 := blk_cell HN4.out 7; have y7 := blk_frozen HN4.out 7; have z8 := blk_cell HN4.out 8; have y8 := blk_frozen HN4.out 8; have z9 := blk_cell HN4.out 9; have y9 := blk_frozen HN4.out 9; have z10 := blk_cell HN4.out 10; have y10 := blk_frozen HN4.out 10; have z11 := blk_cell HN4.out 11; have y11 := blk_frozen HN4.out 11; clear hb4)
    refine bodyPost_ret (results_cell_row rfl _ (fillO w4 W2.heap.size 0 0 (.slice none 0 0) zeroR (.slice none 0 0) 1) W2.heap.size 72 (outV 0 0 (.slice none 0 0) zeroR (.slice none 0 0) 1) (0, 0) _ rfl (fillO_row 0 0 (.slice none 0 0) zeroR (.slice none 0 0) 1 HN4.out) Tryd.underlying72 rfl (by kernel_rfl)) rfl ?_
    exact ⟨none, 0, rfl, Kd.R_nil _ _ _ _ _, (below_step HBW.out HB4.out).trans (fillO_below w4 W2.heap.size 0 0 (.slice none 0 0) zeroR (.slice none 0 0) 1 _ HS.out.1)⟩
  | true =>
    rw [if_pos rfl]
    have HC2 := Aside0.mk (HCH.out rfl)
    clear HCH
    generalize outI a (dropI id b l) = r at HC2 ⊢
    obtain ⟨a', b', ys, y, cd⟩ := r
    have HC3 := Aside0.mk (fun (V : World) (hb : Below W3.heap.size W3 V) => (show Calls Tryd.prog 95 #[.agg #[.int .i64 a, .int .i64 b, .slice A l.length c], .func (.func 96) #[] #[.pointer (some ⟨W1.heap.size, 0, none⟩)]] V (fun e w' => ∃ A c, e = .returned (.agg #[.int .i64 a', .int .i64 b', .slice A ys.length c, .int .i64 y.f0, .string y.f1, .string y.f2, .string y.f3, .bool y.f4, .int .i64 y.f5, .bool y.f6, .slice none 0 0, .int .i64 cd]) ∧ Kd.R k34 34 w' V.heap.size (fun _ => True) (.slice A ys.length c) ys ∧ Below V.heap.size V w') from HC2.out V hb))
    clear HC2
    go_enter Tryd.func40, Tryd.ntmps40
    go_wp2_with (first | (go_at_call 60; refine hTR.mono ?_; rintro e w4 ⟨rfl, hb4⟩; have HB4 := Aside0.mk hb4; have HN4 := Aside0.mk (blk_below HN3.out hb4); have HN14 := Aside0.mk (blk_below HN13.out hb4); have q0 := blk_cell HN14.out 0; have q1 := blk_cell HN14.out 1; have q2 := blk_cell HN14.out 2; clear hb4) | (go_at_call 95; refine (HC3.out w4 HB4.out).mono ?_; rintro e w5 ⟨A5, c5, rfl, hR5, hb5⟩; have HR5 := Aside0.mk hR5; have HB5 := Aside0.mk hb5; have HN5 := Aside0.mk (blk_below HN4.out hb5); have z0 := blk_cell HN5.out 0; have y0 := blk_frozen HN5.out 0; have z1 := blk_cell HN5.out 1; have y1 := blk_frozen HN5.out 1; have z2 := blk_cell HN5.out 2; have y2 := blk_frozen HN5.out 2; have z3 := blk_cell HN5.out 3; have y3 := blk_frozen HN5.out 3; have z4 := blk_cell HN5.out 4; have y4 := blk_frozen HN5.out 4; have z5 := blk_cell HN5.out 5; have y5 := blk_frozen HN5.out 5; have z6 := blk_cell HN5.out 6; have y6 := blk_frozen HN5.out 6; have z7 := blk_cell HN5.out 7; have y7 := blk_frozen HN5.out 7; have z8 := blk_cell HN5.out 8; have y8 := blk_frozen HN5.out 8; have z9 := blk_cell HN5.out 9; have y9 := blk_frozen HN5.out 9; have z10 := blk_cell HN5.out 10; have y10 := blk_frozen HN5.out 10; have z11 := blk_cell HN5.out 11; have y11 := blk_frozen HN5.out 11; clear hR5 hb5))
    refine bodyPost_ret (results_cell_row rfl _ (fillO w5 W2.heap.size a' b' (.slice A5 ys.length c5) y (.slice none 0 0) cd) W2.heap.size 72 (outV a' b' (.slice A5 ys.length c5) y (.slice none 0 0) cd) (0, 0) _ rfl (fillO_row a' b' (.slice A5 ys.length c5) y (.slice none 0 0) cd HN5.out) Tryd.underlying72 rfl (by kernel_rfl)) rfl ?_
    have hw4 : W2.heap.size < w4.heap.size := by have h1_ := HS.out.2; have h2_ := HB4.out.size; omega
    exact ⟨A5, c5, rfl, Kd.R_lower (R_low HR5.out (fun k hk => fillO_far w5 W2.heap.size a' b' (.slice A5 ys.length c5) y (.slice none 0 0) cd k (by omega))) (by have h1_ := HS.out.1; omega), (below_step HBW.out (below_step HB4.out HB5.out)).trans (fillO_below w5 W2.heap.size a' b' (.slice A5 ys.length c5) y (.slice none 0 0) cd _ HS.out.1)⟩
def impl_RowDrop.f (a0_0 a0_1 : Int) (l0_2 : List S34) (a1 : Int) : Option (Int × Int × List S34 × Int × ByteArray × ByteArray × ByteArray × Bool × Int × Bool × List S34 × Int) :=
  if l0_2.length * 80 ≤ 140737488355328 then some ((rowDropV a0_0 a0_1 a1 l0_2).1, (rowDropV a0_0 a0_1 a1 l0_2).2.1, (rowDropV a0_0 a0_1 a1 l0_2).2.2.1, (rowDropV a0_0 a0_1 a1 l0_2).2.2.2.1.f0, (rowDropV a0_0 a0_1 a1 l0_2).2.2.2.1.f1, (rowDropV a0_0 a0_1 a1 l0_2).2.2.2.1.f2, (rowDropV a0_0 a0_1 a1 l0_2).2.2.2.1.f3, (rowDropV a0_0 a0_1 a1 l0_2).2.2.2.1.f4, (rowDropV a0_0 a0_1 a1 l0_2).2.2.2.1.f5, (rowDropV a0_0 a0_1 a1 l0_2).2.2.2.1.f6, [], (rowDropV a0_0 a0_1 a1 l0_2).2.2.2.2) else none
theorem impl_RowDrop.calls (a0_0 a0_1 : Int) (A0_2 : Option Addr) (c0_2 : Nat) (l0_2 : List S34) (a1 : Int) (r1 r2 : Int) (r3 : List S34) (r4 : Int) (r5 r6 r7 : ByteArray) (r8 : Bool) (r9 : Int) (r10 : Bool) (r11 : List S34) (r12 : Int) (w : World) (hr0_2 : Kd.C k34 w A0_2 l0_2.length l0_2) (hc0_2 : l0_2.length ≤ c0_2) (h : impl_RowDrop.f a0_0 a0_1 l0_2 a1 = some (r1, r2, r3, r4, r5, r6, r7, r8, r9, r10, r11, r12)) :
    Calls Tryd.prog 40 #[.agg #[.int .i64 a0_0, .int .i64 a0_1, .slice A0_2 l0_2.length c0_2], .int .i64 a1] w fun e w' => ∃ v2_ v10_ : Value, e = .returned (.agg #[.int .i64 r1, .int .i64 r2, v2_, .int .i64 r4, .string r5, .string r6, .string r7, .bool r8, .int .i64 r9, .bool r10, v10_, .int .i64 r12]) ∧ Kd.R k34 34 w' w.heap.size (fun k_ => some k_ ≠ (v10_ : Value).ownBlock) v2_ r3 ∧ Kd.R k34 34 w' w.heap.size (fun k_ => some k_ ≠ (v2_ : Value).ownBlock) v10_ r11 ∧ Below w.heap.size w w' := by
  unfold impl_RowDrop.f at h
  by_cases hl : l0_2.length * 80 ≤ 140737488355328
  · rw [if_pos hl] at h
    have hc := rowDrop_calls a0_0 a0_1 a1 A0_2 c0_2 l0_2 w hr0_2 hc0_2 hl
    generalize rowDropV a0_0 a0_1 a1 l0_2 = r at h hc
    simp only [Option.some.injEq, Prod.mk.injEq] at h
    obtain ⟨rfl, rfl, rfl, rfl, rfl, rfl, rfl, rfl, rfl, rfl, rfl, rfl⟩ := h
    refine hc.mono ?_
    rintro e w' ⟨A, c, rfl, hR, hb⟩
    exact ⟨_, _, rfl, Kd.R_mono hR (fun k _ => by simp [Value.ownBlock]), Kd.R_nil _ _ _ _ _, hb⟩
  · rw [if_neg hl] at h
    cases h
end Go.Proofs.YtpocoeghobdfiaaDoor.PG
