/-
  The program's TablePurge, walked: the rows that are not gone, or whose number is greater. Condition: the rows' size.
-/
import Derived.BigQuiet
import Derived.Test.YtpocoeghobdfiaaDoorRDP4
import Derived.Test.YtpocoeghobdfiaaDoorRDDelRow
import Derived.Test.YtpocoeghobdfiaaDoorRDCloneRow
import Derived.Test.YtpocoeghobdfiaaDoorRDTable
namespace Go.Proofs.YtpocoeghobdfiaaDoor.PG
open Go.RowKit Go.Proofs.YtpocoeghobdfiaaDoorW.PrintWords Go.Proofs.YtpocoeghobdfiaaDoorW.PrintLast Go.Proofs.YtpocoeghobdfiaaDoorW.PrintMore Go.Proofs.YtpocoeghobdfiaaDoor.Gn Go.Proofs.YtpocoeghobdfiaaDoor.Sem
attribute [local go_sem] max2_int min2_int max_two min_two max_three min_three max_four min_four World.cell?_drew World.frozen?_drew
set_option linter.unusedVariables false
set_option linter.unusedSimpArgs false

def ZRow : Value := .agg #[.int .i64 0, .string (⟨#[]⟩ : ByteArray), .string (⟨#[]⟩ : ByteArray), .string (⟨#[]⟩ : ByteArray), .bool false, .int .i64 0, .bool false]
set_option maxHeartbeats 4000000 in
theorem copied_calls (a b : Int) (A : Option Addr) (c : Nat) (l : List S34) (w : World) (hr : Kd.C k34 w A l.length l) (hc : l.length ≤ c) (hl : l.length * 80 ≤ 140737488355328) :
    Calls Tryd.prog 68 #[.agg #[.int .i64 a, .int .i64 b, .slice A l.length c]] w fun e w' => ∃ v, e = .returned (.agg #[.int .i64 a, .int .i64 b, v]) ∧ Kd.R k34 34 w' w.heap.size (fun _ => True) v l ∧ Below w.heap.size w w' := by
  obtain ⟨w1, hw1⟩ : ∃ w1, w.alloc (.cells #[.int .i64 a, .int .i64 b, .slice A l.length c] 38) = w1 := ⟨_, rfl⟩
  have hb1 : Below w.heap.size w w1 := by rw [← hw1]; exact below_alloc (Below.refl _ _) _
  have hn1 : w1.heap[w.heap.size]? = some (.cells #[.int .i64 a, .int .i64 b, .slice A l.length c] 38 (0, 0)) := by rw [← hw1]; exact heap_alloc_new w _
  obtain ⟨w2, hw2⟩ : ∃ w2, w1.alloc (.cells #[.int .i64 0, .int .i64 0, .slice none 0 0] 38) = w2 := ⟨_, rfl⟩
  have hb2 : Below w1.heap.size w1 w2 := by rw [← hw2]; exact below_alloc (Below.refl _ _) _
  have hn2 : w2.heap[w1.heap.size]? = some (.cells #[.int .i64 0, .int .i64 0, .slice none 0 0] 38 (0, 0)) := by rw [← hw2]; exact heap_alloc_new w1 _
  have hn12 := blk_below hn1 hb2
  have hne : w.heap.size ≠ w1.heap.size := by rw [← hw1]; simp
  have q2 := blk_cell hn12 2
  have hcl := clone_Row A c l w2 (Kd.C_below (Kd.C_below hr hb1) hb2) hc hl
  have HN2 := Aside0.mk hn2
  have HN1 := Aside0.mk hn12
  have HB := Aside0.mk (below_step hb1 hb2)
  have HBS := Aside0.mk (And.intro hb1.size hb2.size)
  clear hr hc hl hb1 hn1 hb2 hn2 hn12
  go_enter Tryd.func68, Tryd.ntmps68
  go_wp2_with (go_at_call 116; refine hcl.mono ?_; rintro e w3 ⟨v, rfl, hR, hb3⟩; have HR3 := Aside0.mk hR; have HB3 := Aside0.mk (below_step HB.out hb3); have HK1 := Aside0.mk (blk_below HN1.out hb3); have HK2 := Aside0.mk (blk_below HN2.out hb3); have p0 := blk_cell HK1.out 0; have p1 := blk_cell HK1.out 1; have p2 := blk_cell HK1.out 2; have y2 := blk_frozen HK1.out 2; have r0 := blk_cell HK2.out 0; have r1 := blk_cell HK2.out 1; have r2 := blk_cell HK2.out 2; have x0 := blk_frozen HK2.out 0; have x1 := blk_frozen HK2.out 1; have x2 := blk_frozen HK2.out 2; obtain ⟨A3, c3, rfl⟩ := Kd.R_slice hR; clear hR hb3)
  have hR9 := fun (k : Nat) (hk : w2.heap.size ≤ k) => (show (((((w3.setCell ⟨w.heap.size, 2, none⟩ (.slice A3 l.length c3)).setCell ⟨w1.heap.size, 0, none⟩ (.int .i64 a)).setCell ⟨w1.heap.size, 1, none⟩ (.int .i64 b)).setCell ⟨w1.heap.size, 2, none⟩ (.slice A3 l.length c3)).heap[k]? = w3.heap[k]?) by rw [Below.heap_setCell _ _ _ _ (by have := blk_lt HN2.out; simp only; omega), Below.heap_setCell _ _ _ _ (by have := blk_lt HN2.out; simp only; omega), Below.heap_setCell _ _ _ _ (by have := blk_lt HN2.out; simp only; omega), Below.heap_setCell _ _ _ _ (by have := blk_lt HN1.out; simp only; omega)])
  refine bodyPost_ret (results_cell_row rfl _ _ w1.heap.size 38 #[.int .i64 a, .int .i64 b, .slice A3 l.length c3] (0, 0) _ rfl (blk_put (cs := #[.int .i64 a, .int .i64 b, .slice none 0 0]) (blk_put (cs := #[.int .i64 a, .int .i64 0, .slice none 0 0]) (blk_put (cs := #[.int .i64 0, .int .i64 0, .slice none 0 0]) (blk_far HK2.out hne.symm _) 0 _ rfl) 1 _ rfl) 2 _ rfl) Tryd.underlying38 rfl (by kernel_rfl)) rfl ?_
  exact ⟨_, rfl, Kd.R_lower (R_low HR3.out hR9) (Nat.le_trans HBS.out.1 HBS.out.2), below_set (below_set (below_set (below_set HB3.out (Nat.le_refl _)) HBS.out.1) HBS.out.1) HBS.out.1⟩
theorem enters_70 : ∀ args w, (callFunc 70 args).run Tryd.prog w = .ok (.enter 70 args) w := enters_of Tryd.func70 (by kernel_rfl) rfl
def goneP (usn : Int) (x : S34) : Bool := x.f6 && decide (x.f5 ≤ usn)
set_option maxHeartbeats 1000000 in
theorem purge_clo (b : Nat) (usn : Int) (x : S34) (W : World) (hE : W.cell? ⟨b, 0, none⟩ = some (.int .i64 usn)) :
    Calls Tryd.prog 70 #[.agg #[.int .i64 x.f0, .string x.f1, .string x.f2, .string x.f3, .bool x.f4, .int .i64 x.f5, .bool x.f6], .pointer (some ⟨b, 0, none⟩)] W fun e w' => e = .returned (.bool (goneP usn x)) ∧ Below W.heap.size W w' := by
  have hB : b < W.heap.size := World.block_lt_of_cell? W _ hE
  have hne : b ≠ W.heap.size := by omega
  obtain ⟨q0, q1, q2, q3, q4, q5, q6⟩ := x
  unfold goneP
  cases q6
  all_goals
    go_enter Tryd.func70, Tryd.ntmps70
    go_wp2
    go_ret
    exact ⟨rfl, below_alloc (Below.refl _ W) _⟩
theorem table_row {w : World} {g : Nat} {a b : Int} {v : Value} (h : w.heap[g]? = some (.cells #[.int .i64 0, .int .i64 0, .slice none 0 0] 38 (0, 0))) : (((w.setCell ⟨g, 0, none⟩ (.int .i64 a)).setCell ⟨g, 1, none⟩ (.int .i64 b)).setCell ⟨g, 2, none⟩ v).heap[g]? = some (.cells #[.int .i64 a, .int .i64 b, v] 38 (0, 0)) :=
  blk_put (cs := #[.int .i64 a, .int .i64 b, .slice none 0 0]) (blk_put (cs := #[.int .i64 a, .int .i64 0, .slice none 0 0]) (blk_put (cs := #[.int .i64 0, .int .i64 0, .slice none 0 0]) h 0 _ rfl) 1 _ rfl) 2 _ rfl
theorem table_far {w : World} {g k : Nat} {u v x : Value} (h : k ≠ g) : (((w.setCell ⟨g, 0, none⟩ u).setCell ⟨g, 1, none⟩ v).setCell ⟨g, 2, none⟩ x).heap[k]? = w.heap[k]? := by
  rw [Below.heap_setCell _ _ _ _ h, Below.heap_setCell _ _ _ _ h, Below.heap_setCell _ _ _ _ h]
theorem table_below {W w : World} {g : Nat} {u v x : Value} (h : Below W.heap.size W w) (hg : W.heap.size ≤ g) : Below W.heap.size W (((w.setCell ⟨g, 0, none⟩ u).setCell ⟨g, 1, none⟩ v).setCell ⟨g, 2, none⟩ x) := below_set (below_set (below_set h hg) hg) hg
theorem row_ne {α : Type} {d : Kd α} {e base n c : Nat} {ok : Nat → Prop} {W : World} {A : Option Addr} {xs : List α} (h : d.R e W base ok (.slice A n c) xs) : (Value.slice A n c).ownBlock ≠ some W.heap.size := by
  intro he
  have := (Kd.R_bound h).1 _ he
  omega
theorem ne_27 {w w1 w2 w3 w4 : World} (h : w1.heap.size = w.heap.size + 1 ∧ w2.heap.size = w.heap.size + 2 ∧ w3.heap.size = w.heap.size + 3) (hb : Below w3.heap.size w3 w4) : w2.heap.size ≠ w4.heap.size := by
  have := hb.size
  omega
set_option maxHeartbeats 8000000 in
set_option maxRecDepth 100000 in
theorem purge_calls (a b usn : Int) (A : Option Addr) (c : Nat) (l : List S34) (w : World) (hr : Kd.C k34 w A l.length l) (hc : l.length ≤ c) (hl : l.length * 80 ≤ 140737488355328) :
    Calls Tryd.prog 26 #[.agg #[.int .i64 a, .int .i64 b, .slice A l.length c], .int .i64 usn] w fun e w' => ∃ v, e = .returned (.agg #[.int .i64 a, .int .i64 b, v]) ∧ Kd.R k34 34 w' w.heap.size (fun _ => True) v (if tableB a b l = true then l.filter (fun x => !goneP usn x) else l) ∧ Below w.heap.size w w' := by
  obtain ⟨w1, hw1⟩ : ∃ w1, w.alloc (.cells #[.int .i64 a, .int .i64 b, .slice A l.length c] 38) = w1 := ⟨_, rfl⟩
  have hb1 : Below w.heap.size w w1 := by rw [← hw1]; exact below_alloc (Below.refl _ _) _
  have hn1 : w1.heap[w.heap.size]? = some (.cells #[.int .i64 a, .int .i64 b, .slice A l.length c] 38 (0, 0)) := by rw [← hw1]; exact heap_alloc_new w _
  obtain ⟨w2, hw2⟩ : ∃ w2, w1.alloc (.cells #[.int .i64 usn] 2) = w2 := ⟨_, rfl⟩
  have hb2 : Below w1.heap.size w1 w2 := by rw [← hw2]; exact below_alloc (Below.refl _ _) _
  have hn2 : w2.heap[w1.heap.size]? = some (.cells #[.int .i64 usn] 2 (0, 0)) := by rw [← hw2]; exact heap_alloc_new w1 _
  obtain ⟨w3, hw3⟩ : ∃ w3, w2.alloc (.cells #[.int .i64 0, .int .i64 0, .slice none 0 0] 38) = w3 := ⟨_, rfl⟩
  have hb3 : Below w2.heap.size w2 w3 := by rw [← hw3]; exact below_alloc (Below.refl _ _) _
  have hn3 : w3.heap[w2.heap.size]? = some (.cells #[.int .i64 0, .int .i64 0, .slice none 0 0] 38 (0, 0)) := by rw [← hw3]; exact heap_alloc_new w2 _
  have HN1 := Aside0.mk (blk_below (blk_below hn1 hb2) hb3)
  have HN2 := Aside0.mk (blk_below hn2 hb3)
  have HN3 := Aside0.mk hn3
  have HB := Aside0.mk (below_step hb1 (below_step hb2 hb3))
  have hs1 : w1.heap.size = w.heap.size + 1 := by rw [← hw1]; simp
  have hs2 : w2.heap.size = w1.heap.size + 1 := by rw [← hw2]; simp
  have hs3 : w3.heap.size = w2.heap.size + 1 := by rw [← hw3]; simp
  have HSZ := Aside0.mk (show w1.heap.size = w.heap.size + 1 ∧ w2.heap.size = w.heap.size + 2 ∧ w3.heap.size = w.heap.size + 3 by omega)
  have hbel3 := below_step hb2 hb3
  have q0 := blk_cell HN1.out 0
  have q1 := blk_cell HN1.out 1
  have q2 := blk_cell HN1.out 2
  have hcp := copied_calls a b A c l w3 (Kd.C_below hr HB.out) hc hl
  obtain ⟨kt, hkt⟩ := (impl_table a b l).rounds
  have HTR := Aside0.mk (fun (V : World) (hb : Below w3.heap.size w3 V) => impl_TableRight.calls kt a b A c l _ V (Kd.C_below (Kd.C_below hr HB.out) hb) hc hkt)
  clear hr hc hl hb1 hn1 hb2 hn2 hb3 hn3 hs1 hs2 hs3 hbel3 hkt
  generalize tableB a b l = tb at HTR ⊢
  cases tb with
  | false =>
    rw [if_neg (by simp)]
    go_enter Tryd.func26, Tryd.ntmps26
    go_wp2_with (first | (go_at_call 68; refine hcp.mono ?_; rintro e w4 ⟨v, rfl, hR, hb4⟩; have HR4 := Aside0.mk hR; have HB4 := Aside0.mk hb4; obtain ⟨A4, c4, rfl⟩ := Kd.R_slice hR; obtain ⟨w5, hw5⟩ : ∃ w5, w4.alloc (.cells #[.int .i64 a, .int .i64 b, .slice A4 l.length c4] 38) = w5 := ⟨_, rfl⟩; have hb5 : Below w4.heap.size w4 w5 := (by rw [← hw5]; exact below_alloc (Below.refl _ _) _); have HN5 := Aside0.mk (show w5.heap[w4.heap.size]? = some (.cells #[.int .i64 a, .int .i64 b, .slice A4 l.length c4] 38 (0, 0)) from (by rw [← hw5]; exact heap_alloc_new w4 _)); have HB5 := Aside0.mk (below_step hb4 hb5); have HB45 := Aside0.mk hb5; have q0 := pw_cell_below HB5.out q0; have q1 := pw_cell_below HB5.out q1; have q2 := pw_cell_below HB5.out q2; clear hR hb4 hb5) | (go_at_call 60; refine (HTR.out w5 HB5.out).mono ?_; rintro e w6 ⟨rfl, hb6⟩; have HB6 := Aside0.mk hb6; have HN6 := Aside0.mk (blk_below HN5.out hb6); have HN36 := Aside0.mk (blk_below HN3.out (below_step HB5.out hb6)); have o0 := blk_cell HN6.out 0; have o1 := blk_cell HN6.out 1; have o2 := blk_cell HN6.out 2; have v0 := blk_cell HN36.out 0; have v1 := blk_cell HN36.out 1; have v2 := blk_cell HN36.out 2; have x0 := blk_frozen HN36.out 0; have x1 := blk_frozen HN36.out 1; have x2 := blk_frozen HN36.out 2; have y2 := blk_frozen HN6.out 2; clear hb6))
    refine bodyPost_ret (results_cell_row rfl _ _ w2.heap.size 38 #[.int .i64 a, .int .i64 b, .slice A4 l.length c4] (0, 0) _ rfl (table_row (HN36.out)) Tryd.underlying38 rfl (by kernel_rfl)) rfl ?_
    exact ⟨_, rfl, Kd.R_lower (R_low (Kd.R_below HR4.out (below_step HB45.out HB6.out)) (fun k hk => table_far (by have h_ := HSZ.out; omega))) (by have h_ := HSZ.out; omega), table_below (below_step HB.out (below_step HB5.out HB6.out)) (by have h_ := HSZ.out; omega)⟩
  | true =>
    rw [if_pos rfl]
    have HDEL := Aside0.mk (fun (A : Option Addr) (c : Nat) (V : World) (hR : Kd.R k34 34 V w3.heap.size (fun _ => True) (.slice A l.length c) l) (hb : Below w3.heap.size w3 V) =>
      delf_Row k34 rfl z34 70 #[.pointer (some ⟨w1.heap.size, 0, none⟩)] (goneP usn) w3.heap.size w3 (fun _ => True) (fun W x cs hb hK => by
        obtain rfl := k34_open hK
        exact purge_clo w1.heap.size usn x W (pw_cell_below hb (blk_cell HN2.out 0))) enters_70 A c l V hR hb hb.size)
    go_enter Tryd.func26, Tryd.ntmps26
    go_wp2_with (first | (go_at_call 68; refine hcp.mono ?_; rintro e w4 ⟨v, rfl, hR, hb4⟩; have HR4 := Aside0.mk hR; have HB4 := Aside0.mk hb4; obtain ⟨A4, c4, rfl⟩ := Kd.R_slice hR; obtain ⟨w5, hw5⟩ : ∃ w5, w4.alloc (.cells #[.int .i64 a, .int .i64 b, .slice A4 l.length c4] 38) = w5 := ⟨_, rfl⟩; have hb5 : Below w4.heap.size w4 w5 := (by rw [← hw5]; exact below_alloc (Below.refl _ _) _); have HN5 := Aside0.mk (show w5.heap[w4.heap.size]? = some (.cells #[.int .i64 a, .int .i64 b, .slice A4 l.length c4] 38 (0, 0)) from (by rw [← hw5]; exact heap_alloc_new w4 _)); have HB5 := Aside0.mk (below_step hb4 hb5); have HB45 := Aside0.mk hb5; have q0 := pw_cell_below HB5.out q0; have q1 := pw_cell_below HB5.out q1; have q2 := pw_cell_below HB5.out q2; clear hR hb4 hb5) | (go_at_call 60; refine (HTR.out w5 HB5.out).mono ?_; rintro e w6 ⟨rfl, hb6⟩; have HB6 := Aside0.mk hb6; have HN6 := Aside0.mk (blk_below HN5.out hb6); have HN36 := Aside0.mk (blk_below HN3.out (below_step HB5.out hb6)); have o0 := blk_cell HN6.out 0; have o1 := blk_cell HN6.out 1; have o2 := blk_cell HN6.out 2; have v0 := blk_cell HN36.out 0; have v1 := blk_cell HN36.out 1; have v2 := blk_cell HN36.out 2; have x0 := blk_frozen HN36.out 0; have x1 := blk_frozen HN36.out 1; have x2 := blk_frozen HN36.out 2; have y2 := blk_frozen HN6.out 2; clear hb6) | (go_at_call 69; refine (HDEL.out A4 c4 w6 (Kd.R_below HR4.out (below_step HB45.out HB6.out)) (below_step HB5.out HB6.out)).mono ?_; rintro e w7 ⟨c7, rfl, hR7, hb7, hk7⟩; have HR7 := Aside0.mk hR7; have HB7 := Aside0.mk hb7; have HNR := Aside0.mk (row_ne HR4.out); have HN7 := Aside0.mk ((hk7.2 _ (blk_lt HN6.out) (fun ⟨ad, h1, h2⟩ => HNR.out (by rw [h1, ← h2]; rfl))).trans HN6.out); have HN37 := Aside0.mk ((hb7.block _ (blk_lt HN3.out)).trans HN3.out); have o0 := blk_cell HN7.out 0; have o1 := blk_cell HN7.out 1; have o2 := blk_cell HN7.out 2; have v0 := blk_cell HN37.out 0; have v1 := blk_cell HN37.out 1; have v2 := blk_cell HN37.out 2; have x0 := blk_frozen HN37.out 0; have x1 := blk_frozen HN37.out 1; have x2 := blk_frozen HN37.out 2; have y2 := blk_frozen HN7.out 2; have nn := ne_27 HSZ.out HB4.out; have nn2 := nn.symm; clear hR7 hb7 hk7))
    have hR8 := Kd.R_far (p := ⟨w4.heap.size, 2, none⟩) (Kd.R_far1 HR7.out rfl (g := w4.heap.size) (fun he => HNR.out (by rw [he]; cases A4 <;> rfl))) (fun k hk => hk.2) (.slice A4 (l.filter fun x => !goneP usn x).length c7)
    refine bodyPost_ret (results_cell_row rfl _ _ w2.heap.size 38 #[.int .i64 a, .int .i64 b, .slice A4 (l.filter fun x => !goneP usn x).length c7] (0, 0) _ rfl (table_row (blk_far HN37.out nn _)) Tryd.underlying38 rfl (by kernel_rfl)) rfl ?_
    exact ⟨_, rfl, Kd.R_lower (R_low (Kd.R_mono hR8 (fun _ _ => trivial)) (fun k hk => table_far (by have h_ := HSZ.out; omega))) (by have h_ := HSZ.out; omega), table_below (below_set (below_step HB.out HB7.out) (Nat.le_trans HB.out.size HB4.out.size)) (by have h_ := HSZ.out; omega)⟩
def impl_TablePurge.f (a0_0 a0_1 : Int) (l0_2 : List S34) (a1 : Int) : Option (Int × Int × List S34) :=
  if l0_2.length * 80 ≤ 140737488355328 then some (a0_0, a0_1, if tableB a0_0 a0_1 l0_2 = true then l0_2.filter (fun x => !goneP a1 x) else l0_2) else none
theorem impl_TablePurge.calls (a0_0 a0_1 : Int) (A0_2 : Option Addr) (c0_2 : Nat) (l0_2 : List S34) (a1 : Int) (r1 r2 : Int) (r3 : List S34) (w : World) (hr0_2 : Kd.C k34 w A0_2 l0_2.length l0_2) (hc0_2 : l0_2.length ≤ c0_2) (h : impl_TablePurge.f a0_0 a0_1 l0_2 a1 = some (r1, r2, r3)) :
    Calls Tryd.prog 26 #[.agg #[.int .i64 a0_0, .int .i64 a0_1, .slice A0_2 l0_2.length c0_2], .int .i64 a1] w fun e w' => ∃ v2_ : Value, e = .returned (.agg #[.int .i64 r1, .int .i64 r2, v2_]) ∧ Kd.R k34 34 w' w.heap.size (fun _ => True) v2_ r3 ∧ Below w.heap.size w w' := by
  unfold impl_TablePurge.f at h
  by_cases hl : l0_2.length * 80 ≤ 140737488355328
  · rw [if_pos hl] at h
    simp only [Option.some.injEq, Prod.mk.injEq] at h
    obtain ⟨rfl, rfl, rfl⟩ := h
    exact purge_calls a0_0 a0_1 a1 A0_2 c0_2 l0_2 w hr0_2 hc0_2 hl
  · rw [if_neg hl] at h
    cases h
end Go.Proofs.YtpocoeghobdfiaaDoor.PG
