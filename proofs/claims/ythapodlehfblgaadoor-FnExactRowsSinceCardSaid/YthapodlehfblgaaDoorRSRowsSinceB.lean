/-
  The program's RowsSince, walked. Condition: the rows' size.
-/
import Derived.StillTailTactics
import Derived.Test.YthapodlehfblgaaDoorRSP5
import Derived.Test.YthapodlehfblgaaDoorRSRowsSince
import Derived.Test.YthapodlehfblgaaDoorRSFillO
namespace Go.Proofs.YthapodlehfblgaaDoor.PG
open Go.RowKit Go.Proofs.YthapodlehfblgaaDoorW.PrintWords Go.Proofs.YthapodlehfblgaaDoorW.PrintLast Go.Proofs.YthapodlehfblgaaDoorW.PrintMore Go.Proofs.YthapodlehfblgaaDoor.Gn Go.Proofs.YthapodlehfblgaaDoor.Sem
attribute [local go_sem] max2_int min2_int max_two min_two max_three min_three max_four min_four World.cell?_drew World.frozen?_drew
set_option linter.unusedVariables false
set_option linter.unusedSimpArgs false
/-- What RowsSince answers. -/
def RetSince (cd : Int) (l : List S55) (w : World) (e : Ending) (w' : World) : Prop :=
  ∃ A c l', e = .returned (.agg #[.int .i64 0, .int .i64 0, .slice none 0 0, .int .i64 0, .string ⟨#[]⟩, .string ⟨#[]⟩, .string ⟨#[]⟩, .bool false, .int .i64 0, .bool false, .slice A l'.length c, .int .i64 cd]) ∧ l'.Perm l ∧ l'.Pairwise (fun x y => x.f5 ≤ y.f5) ∧ Kd.R k55 55 w' w.heap.size (fun _ => True) (.slice A l'.length c) l' ∧ Below w.heap.size w w'
def sinceL (a b usn : Int) (l : List S55) : List S55 := if tableB a b l = true then (if usn < 0 then [] else l.filter fun x => !oldP usn x) else []
def sinceC (a b usn : Int) (l : List S55) : Int := if tableB a b l = true then (if usn < 0 then 8 else 0) else 1
set_option maxHeartbeats 8000000 in
set_option maxRecDepth 100000 in
theorem rowsSince_walk (a b usn : Int) (A : Option Addr) (c : Nat) (l : List S55) (W : World) (hr : Kd.C k55 W A l.length l) (hc : l.length ≤ c) (hl : l.length * 80 ≤ 140737488355328) :
    Calls Tryd.prog 24 #[.agg #[.int .i64 a, .int .i64 b, .slice A l.length c], .int .i64 usn] W (RetSince (sinceC a b usn l) (sinceL a b usn l) W) := by
  obtain ⟨W1, hW1⟩ : ∃ W1, W.alloc (.cells #[.int .i64 a, .int .i64 b, .slice A l.length c] 53) = W1 := ⟨_, rfl⟩
  have hb1' : Below W.heap.size W W1 := by rw [← hW1]; exact below_alloc (Below.refl _ _) _
  have hn1 : W1.heap[W.heap.size]? = some (.cells #[.int .i64 a, .int .i64 b, .slice A l.length c] 53 (0, 0)) := by rw [← hW1]; exact heap_alloc_new W _
  obtain ⟨W3, hW3⟩ : ∃ W3, W1.alloc (.cells #[.int .i64 0, .int .i64 0, .slice none 0 0, .int .i64 0, .string ⟨#[]⟩, .string ⟨#[]⟩, .string ⟨#[]⟩, .bool false, .int .i64 0, .bool false, .slice none 0 0, .int .i64 0] 57) = W3 := ⟨_, rfl⟩
  have hb3' : Below W1.heap.size W1 W3 := by rw [← hW3]; exact below_alloc (Below.refl _ _) _
  have hn3 : W3.heap[W1.heap.size]? = some (.cells #[.int .i64 0, .int .i64 0, .slice none 0 0, .int .i64 0, .string ⟨#[]⟩, .string ⟨#[]⟩, .string ⟨#[]⟩, .bool false, .int .i64 0, .bool false, .slice none 0 0, .int .i64 0] 57 (0, 0)) := by rw [← hW3]; exact heap_alloc_new W1 _
  have hs3 : W3.heap.size = W1.heap.size + 1 := by rw [← hW3]; simp
  have hn13 := blk_below hn1 hb3'
  have q0 := blk_cell hn13 0
  have q1 := blk_cell hn13 1
  have q2 := blk_cell hn13 2
  have hbW := below_step hb1' hb3'
  have HS := Aside0.mk (show W.heap.size ≤ W1.heap.size ∧ W3.heap.size = W1.heap.size + 1 from ⟨hb1'.size, hs3⟩)
  obtain ⟨kt, hkt⟩ := (impl_table a b l).rounds
  have hTR := impl_TableRight.calls kt a b A c l _ W3 (Kd.C_below hr hbW) hc hkt
  have HN13 := Aside0.mk hn13
  have HN3 := Aside0.mk hn3
  have HBW := Aside0.mk hbW
  have HCH := Aside0.mk (fun (V : World) (hb : Below W3.heap.size W3 V) => rowsSince_calls W.heap.size usn A c l V (Kd.C_below (Kd.C_below hr hbW) hb) hc hl ((blk_cell (blk_below hn13 hb) 2).trans rfl))
  clear hr hc hl hb1' hn1 hb3' hn3 hs3 hn13 hbW hkt
  unfold sinceC sinceL
  generalize tableB a b l = tb at hTR ⊢
  cases tb with
  | false =>
    rw [if_neg (by simp), if_neg (by simp)]
    clear HCH
    go_enter Tryd.func24, Tryd.ntmps24
    go_wp2_with (go_at_call 56; refine hTR.mono ?_; rintro e w4 ⟨rfl, hb4⟩; have HB4 := Aside0.mk hb4; have HN4 := Aside0.mk (blk_below HN3.out hb4); have z0 := blk_cell HN4.out 0; have y0 := blk_frozen HN4.out 0; have z1 := blk_cell HN4.out 1; have y1 := blk_frozen HN4.out 1; have z2 := blk_cell HN4.out 2; have y2 := blk_frozen HN4.out 2; have z3 := blk_cell HN4.out 3; have y3 := blk_frozen HN4.out 3; have z4 := blk_cell HN4.out 4; have y4 := blk_frozen HN4.out 4; have z5 := blk_cell HN4.out 5; have y5 := blk_frozen HN4.out 5; have z6 := blk_cell HN4.out 6; have y6 := blk_frozen HN4.out 6; have z7 := blk_cell HN4.out 7; have y7 := blk_frozen HN4.out 7; have z8 := blk_cell HN4.out 8; have y8 := blk_frozen HN4.out 8; have z9 := blk_cell HN4.out 9; have y9 := blk_frozen HN4.out 9; have z10 := blk_cell HN4.out 10; have y10 := blk_frozen HN4.out 10; have z11 := blk_cell HN4.out 11; have y11 := blk_frozen HN4.out 11; clear hb4)
    refine bodyPost_ret (results_cell_row rfl _ (fillO w4 W1.heap.size 0 0 (.slice none 0 0) zeroR (.slice none 0 0) 1) W1.heap.size 57 (outV 0 0 (.slice none 0 0) zeroR (.slice none 0 0) 1) (0, 0) _ rfl (fillO_row 0 0 (.slice none 0 0) zeroR (.slice none 0 0) 1 HN4.out) Tryd.underlying57 rfl (by kernel_rfl)) rfl ?_
    exact ⟨none, 0, [], rfl, List.Perm.refl _, List.Pairwise.nil, Kd.R_nil _ _ _ _ _, (below_step HBW.out HB4.out).trans (fillO_below w4 W1.heap.size 0 0 (.slice none 0 0) zeroR (.slice none 0 0) 1 _ HS.out.1)⟩
  | true =>
    rw [if_pos rfl, if_pos rfl]
    by_cases hu : usn < 0
    · rw [if_pos hu, if_pos hu]
      clear HCH
      go_enter Tryd.func24, Tryd.ntmps24
      go_wp2_with (go_at_call 56; refine hTR.mono ?_; rintro e w4 ⟨rfl, hb4⟩; have HB4 := Aside0.mk hb4; have HN4 := Aside0.mk (blk_below HN3.out hb4); have z0 := blk_cell HN4.out 0; have y0 := blk_frozen HN4.out 0; have z1 := blk_cell HN4.out 1; have y1 := blk_frozen HN4.out 1; have z2 := blk_cell HN4.out 2; have y2 := blk_frozen HN4.out 2; have z3 := blk_cell HN4.out 3; have y3 := blk_frozen HN4.out 3; have z4 := blk_cell HN4.out 4; have y4 := blk_frozen HN4.out 4; have z5 := blk_cell HN4.out 5; have y5 := blk_frozen HN4.out 5; have z6 := blk_cell HN4.out 6; have y6 := blk_frozen HN4.out 6; have z7 := blk_cell HN4.out 7; have y7 := blk_frozen HN4.out 7; have z8 := blk_cell HN4.out 8; have y8 := blk_frozen HN4.out 8; have z9 := blk_cell HN4.out 9; have y9 := blk_frozen HN4.out 9; have z10 := blk_cell HN4.out 10; have y10 := blk_frozen HN4.out 10; have z11 := blk_cell HN4.out 11; have y11 := blk_frozen HN4.out 11; clear hb4)
      refine bodyPost_ret (results_cell_row rfl _ (fillO w4 W1.heap.size 0 0 (.slice none 0 0) zeroR (.slice none 0 0) 8) W1.heap.size 57 (outV 0 0 (.slice none 0 0) zeroR (.slice none 0 0) 8) (0, 0) _ rfl (fillO_row 0 0 (.slice none 0 0) zeroR (.slice none 0 0) 8 HN4.out) Tryd.underlying57 rfl (by kernel_rfl)) rfl ?_
      exact ⟨none, 0, [], rfl, List.Perm.refl _, List.Pairwise.nil, Kd.R_nil _ _ _ _ _, (below_step HBW.out HB4.out).trans (fillO_below w4 W1.heap.size 0 0 (.slice none 0 0) zeroR (.slice none 0 0) 8 _ HS.out.1)⟩
    · rw [if_neg hu, if_neg hu]
      go_enter Tryd.func24, Tryd.ntmps24
      go_wp2_with (first | (go_at_call 56; refine hTR.mono ?_; rintro e w4 ⟨rfl, hb4⟩; have HB4 := Aside0.mk hb4; have HN4 := Aside0.mk (blk_below HN3.out hb4); have HN14 := Aside0.mk (blk_below HN13.out hb4); have q0 := blk_cell HN14.out 0; have q1 := blk_cell HN14.out 1; have q2 := blk_cell HN14.out 2; clear hb4) | (go_at_call 57; have hc5 := HCH.out w4 HB4.out; refine hc5.mono ?_; rintro e w5 ⟨A5, c5, l5, rfl, hp5, hs5, hR5, hb5⟩; have HP5 := Aside0.mk hp5; have HS5 := Aside0.mk hs5; have HR5 := Aside0.mk hR5; have HB5 := Aside0.mk hb5; have HN5 := Aside0.mk (blk_below HN4.out hb5); have z0 := blk_cell HN5.out 0; have y0 := blk_frozen HN5.out 0; have z1 := blk_cell HN5.out 1; have y1 := blk_frozen HN5.out 1; have z2 := blk_cell HN5.out 2; have y2 := blk_frozen HN5.out 2; have z3 := blk_cell HN5.out 3; have y3 := blk_frozen HN5.out 3; have z4 := blk_cell HN5.out 4; have y4 := blk_frozen HN5.out 4; have z5 := blk_cell HN5.out 5; have y5 := blk_frozen HN5.out 5; have z6 := blk_cell HN5.out 6; have y6 := blk_frozen HN5.out 6; have z7 := blk_cell HN5.out 7; have y7 := blk_frozen HN5.out 7; have z8 := blk_cell HN5.out 8; have y8 := blk_frozen HN5.out 8; have z9 := blk_cell HN5.out 9; have y9 := blk_frozen HN5.out 9; have z10 := blk_cell HN5.out 10; have y10 := blk_frozen HN5.out 10; have z11 := blk_cell HN5.out 11; have y11 := blk_frozen HN5.out 11; clear hp5 hs5 hR5 hb5))
      refine bodyPost_ret (results_cell_row rfl _ (fillO w5 W1.heap.size 0 0 (.slice none 0 0) zeroR (.slice A5 l5.length c5) 0) W1.heap.size 57 (outV 0 0 (.slice none 0 0) zeroR (.slice A5 l5.length c5) 0) (0, 0) _ rfl (fillO_row 0 0 (.slice none 0 0) zeroR (.slice A5 l5.length c5) 0 HN5.out) Tryd.underlying57 rfl (by kernel_rfl)) rfl ?_
      have hw4 : W1.heap.size < w4.heap.size := by have h1_ := HS.out.2; have h2_ := HB4.out.size; omega
      exact ⟨A5, c5, l5, rfl, HP5.out, HS5.out, Kd.R_lower (R_low HR5.out (fun k hk => fillO_far w5 W1.heap.size 0 0 (.slice none 0 0) zeroR (.slice A5 l5.length c5) 0 k (by omega))) (by have h1_ := HS.out.1; omega), (below_step HBW.out (below_step HB4.out HB5.out)).trans (fillO_below w5 W1.heap.size 0 0 (.slice none 0 0) zeroR (.slice A5 l5.length c5) 0 _ HS.out.1)⟩
end Go.Proofs.YthapodlehfblgaaDoor.PG
