/-
 The laws' helpers on Changes and ChangesOut, as contracts without rounds: copies, sizes, comparison, marks. Conditions: what the arguments fit; the marks' numbers stay small.
-/
import Derived.Test.YtmkpgddfoaglpaaGreatDoorCTP1
import Derived.Test.YtmkpgddfoaglpaaGreatDoorCTP2
import Derived.Test.YtmkpgddfoaglpaaGreatDoorCTToChgs
import Derived.Test.YtmkpgddfoaglpaaGreatDoorCTChgsV
import Derived.Test.YtmkpgddfoaglpaaGreatDoorCTEntC
set_option maxHeartbeats 8000000
set_option maxRecDepth 100000
set_option linter.unusedVariables false
set_option linter.unusedSimpArgs false
namespace Go.Proofs.YtmkpgddfoaglpaaGreatDoor.PG
open Go.RowKit Go.Proofs.YtmkpgddfoaglpaaGreatDoorW.PrintWords Go.Proofs.YtmkpgddfoaglpaaGreatDoorW.PrintLast Go.Proofs.YtmkpgddfoaglpaaGreatDoorW.PrintMore Go.Proofs.YtmkpgddfoaglpaaGreatDoor.Gn Go.Proofs.YtmkpgddfoaglpaaGreatDoor
attribute [local go_sem] max2_int min2_int max_two min_two max_three min_three max_four min_four World.cell?_drew World.frozen?_drew
def CM (V : World) (base : Nat) (ok : Nat → Prop) (y : S69) (A : Option Addr) (n c : Nat) (B : Option Addr) (m b : Nat) : Prop :=
 ∃ o1 o2 : Nat → Prop, (∀ k, o1 k → ok k) ∧ (∀ k, o2 k → ok k) ∧ (∀ k, o1 k → ¬ o2 k) ∧ Kd.S mChg 145 V base o1 (.slice A n c) y.f0.f1 ∧ Kd.S mChg 145 V base o2 (.slice B m b) y.f1
theorem CM_C {V : World} {base : Nat} {ok : Nat → Prop} {y : S69} {A : Option Addr} {n c : Nat} {B : Option Addr} {m b : Nat} (h : CM V base ok y A n c B m b) : n = y.f0.f1.length ∧ m = y.f1.length ∧ n ≤ c ∧ Kd.C k145 V A n y.f0.f1 ∧ m ≤ b ∧ Kd.C k145 V B m y.f1 := by
 obtain ⟨o1, o2, _, _, _, g0, g1⟩ := h
 obtain ⟨h0, h1, h2⟩ := Kd.S_reads' g0
 obtain ⟨h3, h4, h5⟩ := Kd.S_reads' g1
 exact ⟨h0, h3, h1, by rw [h0]; exact h2, h4, by rw [h3]; exact h5⟩
theorem CM_keep {V V' : World} {base : Nat} {ok : Nat → Prop} {y : S69} {A : Option Addr} {n c : Nat} {B : Option Addr} {m b : Nat} (h : CM V base ok y A n c B m b) (hb : Below V.heap.size V V') : CM V' base ok y A n c B m b := by
 obtain ⟨o1, o2, p1, p2, p3, g0, g1⟩ := h
 exact ⟨o1, o2, p1, p2, p3, Kd.S_below g0 hb, Kd.S_below g1 hb⟩
theorem CM_kept {V V' : World} {S : Nat → Prop} {base : Nat} {ok : Nat → Prop} {y : S69} {A : Option Addr} {n c : Nat} {B : Option Addr} {m b : Nat} (h : CM V base ok y A n c B m b) (hk : Kept V V' S) (hne : ∀ k, ok k → ¬ S k) : CM V' base ok y A n c B m b := by
 obtain ⟨o1, o2, p1, p2, p3, g0, g1⟩ := h
 exact ⟨o1, o2, p1, p2, p3, Kd.S_kept g0 hk (fun k hk => hne k (p1 k hk)), Kd.S_kept g1 hk (fun k hk => hne k (p2 k hk))⟩
theorem CM_lower {V : World} {base base' : Nat} {ok : Nat → Prop} {y : S69} {A : Option Addr} {n c : Nat} {B : Option Addr} {m b : Nat} (h : CM V base ok y A n c B m b) (hle : base' ≤ base) : CM V base' ok y A n c B m b := by
 obtain ⟨o1, o2, p1, p2, p3, g0, g1⟩ := h
 exact ⟨o1, o2, p1, p2, p3, Kd.S_lower g0 hle, Kd.S_lower g1 hle⟩
theorem CM_one {V : World} {base : Nat} {ok : Nat → Prop} {n : Int} {l : List S145} {z : Int} {A : Option Addr} {m c : Nat} (h : Kd.S mChg 145 V base ok (.slice A m c) l) : CM V base ok ⟨⟨n, l⟩, [], z⟩ A m c none 0 0 :=
 ⟨ok, fun _ => False, fun _ h => h, fun _ h => h.elim, fun _ _ h => h, h, Kd.S_nil _ _ _ _ _⟩
def RetCO (y : S69) (W : World) (e : Ending) (w' : World) : Prop := ∃ A c B b, e = .returned (.agg #[.int .i64 y.f0.f0, .slice A y.f0.f1.length c, .slice B y.f1.length b, .int .i64 y.f2]) ∧ CM w' W.heap.size (okV W.heap.size w'.heap.size) y A y.f0.f1.length c B y.f1.length b ∧ Below W.heap.size W w'
def RetCR (y : S69) (W : World) (e : Ending) (w' : World) : Prop := ∃ A c B b, e = .returned (.agg #[.int .i64 y.f0.f0, .slice A y.f0.f1.length c, .slice B y.f1.length b, .int .i64 y.f2]) ∧ (y.f0.f1.length ≤ c ∧ Kd.C k145 w' A y.f0.f1.length y.f0.f1 ∧ y.f1.length ≤ b ∧ Kd.C k145 w' B y.f1.length y.f1) ∧ Below W.heap.size W w'
def RetCh (y : S67) (W : World) (e : Ending) (w' : World) : Prop := ∃ A c, e = .returned (.agg #[.int .i64 y.f0, .slice A y.f1.length c]) ∧ Kd.S mChg 145 w' W.heap.size (okV W.heap.size w'.heap.size) (.slice A y.f1.length c) y.f1 ∧ Below W.heap.size W w'
theorem chg_CV {e : Nat} {V : World} {base : Nat} {ok : Nat → Prop} {A : Option Addr} {n c : Nat} {xs : List S145} (h : Kd.S mChg e V base ok (.slice A n c) xs) : n ≤ c ∧ Kd.C k145 V A n xs := ⟨(S_CV h).1, (S_CV h).2⟩
theorem toChanges_m (x : S63) (w : Ft.fit63 x) (A : Option Addr) (c : Nat) (W : World) (hC : Kd.C k233 W A x.f1.length x.f1) (hc : x.f1.length ≤ c) :
   Calls Tryz.prog 39 #[.agg #[.int .i64 x.f0, .slice A x.f1.length c]] W (RetCh (conv_Changes x) W) := by
 obtain ⟨W1, hW1⟩ : ∃ W1, ((W.alloc (.cells #[.int .i64 x.f0, .slice A x.f1.length c] 63)).alloc (.cells #[.int .i64 0, .slice none 0 0] 67)).alloc (.cells #[.int .i64 0, .slice none 0 0] 67) = W1 := ⟨_, rfl⟩
 have hB1 : Below W.heap.size W W1 := by rw [← hW1]; exact below_alloc (below_alloc (below_alloc (Below.refl _ _) _) _) _
 have hs1 : W1.heap.size = W.heap.size + 3 := by rw [← hW1]; simp
 have y0 : W1.heap[W.heap.size]? = some (.cells #[.int .i64 x.f0, .slice A x.f1.length c] 63 (0, 0)) := by rw [← hW1]; exact blk_alloc (blk_alloc (blk_new _ _) _) _
 have y1 : W1.heap[W.heap.size + 1]? = some (.cells #[.int .i64 0, .slice none 0 0] 67 (0, 0)) := by rw [← hW1]; have := blk_new (W.alloc (.cells #[.int .i64 x.f0, .slice A x.f1.length c] 63)) (.cells #[.int .i64 0, .slice none 0 0] 67); rw [World.size_alloc] at this; exact blk_alloc this _
 have y2 : W1.heap[W.heap.size + 2]? = some (.cells #[.int .i64 0, .slice none 0 0] 67 (0, 0)) := by rw [← hW1]; have := blk_new ((W.alloc (.cells #[.int .i64 x.f0, .slice A x.f1.length c] 63)).alloc (.cells #[.int .i64 0, .slice none 0 0] 67)) (.cells #[.int .i64 0, .slice none 0 0] 67); rw [World.size_alloc, World.size_alloc] at this; exact this
 obtain ⟨W2, hW2⟩ : ∃ W2, W1.setCell ⟨W.heap.size + 2, 0, none⟩ (.int .i64 x.f0) = W2 := ⟨_, rfl⟩
 have hB2 : Below W.heap.size W W2 := by rw [← hW2]; exact hB1.setCell (by show W.heap.size ≤ W.heap.size + 2; omega) _
 have hk2 : Kept W1 W2 (fun k => k = W.heap.size + 2) := by rw [← hW2]; exact ⟨by simp [World.setCell], fun i _ hn => Below.heap_setCell W1 ⟨W.heap.size + 2, 0, none⟩ _ i hn⟩
 have hs2 : W2.heap.size = W.heap.size + 3 := by rw [← hW2, ← hs1]; simp [World.setCell]
 have z0 : W2.heap[W.heap.size]? = some (.cells #[.int .i64 x.f0, .slice A x.f1.length c] 63 (0, 0)) := blk_kept y0 hk2 (by omega)
 have z1 : W2.heap[W.heap.size + 1]? = some (.cells #[.int .i64 0, .slice none 0 0] 67 (0, 0)) := blk_kept y1 hk2 (by omega)
 have z2 : W2.heap[W.heap.size + 2]? = some (.cells #[.int .i64 x.f0, .slice none 0 0] 67 (0, 0)) := by rw [← hW2]; exact blk_put y2 0 (.int .i64 x.f0) rfl
 have c00 : W1.cell? ⟨W.heap.size, 0, none⟩ = some (.int .i64 x.f0) := (blk_cell y0 0).trans rfl
 have c20 : W1.cell? ⟨W.heap.size + 2, 0, none⟩ = some (.int .i64 0) := (blk_cell y2 0).trans rfl
 have f20 := blk_frozen y2 0
 have c01 : W2.cell? ⟨W.heap.size, 1, none⟩ = some (.slice A x.f1.length c) := (blk_cell z0 1).trans rfl
 have hcon := toChgs_c x.f1 w.2 A c W2 (Kd.C_below hC hB2) hc
 have e1 : (conv_Changes x).f1 = x.f1.map conv_Change := rfl
 have e0 : (conv_Changes x).f0 = x.f0 := rfl
 unfold RetCh
 rw [e1, e0]
 generalize x.f1.map conv_Change = l at hcon ⊢
 have Z1 := Aside0.mk z1
 have Z2 := Aside0.mk z2
 have HB2 := Aside0.mk hB2
 have HS2 := Aside0.mk hs2
 clear hB1 hs1 y0 y1 y2 hB2 hk2 hs2 z0 z1 z2 hC hc w
 go_enter Tryz.func39, Tryz.ntmps39
 go_wp2_with (go_at_call 110; refine hcon.mono ?_; rintro e W3 ⟨A3, c3, rfl, hS3, hb3⟩; have z1 := blk_below Z1.out hb3; have z2 := blk_below Z2.out hb3; have d20 : W3.cell? ⟨W.heap.size + 2, 0, none⟩ = some (.int .i64 x.f0) := (blk_cell z2 0).trans rfl; have d21 : W3.cell? ⟨W.heap.size + 2, 1, none⟩ = some (.slice none 0 0) := (blk_cell z2 1).trans rfl; have g21 := blk_frozen z2 1; have d10 : W3.cell? ⟨W.heap.size + 1, 0, none⟩ = some (.int .i64 0) := (blk_cell z1 0).trans rfl; have d11 : W3.cell? ⟨W.heap.size + 1, 1, none⟩ = some (.slice none 0 0) := (blk_cell z1 1).trans rfl; have g10 := blk_frozen z1 0; have g11 := blk_frozen z1 1; have HS3 := Aside0.mk hS3; have HB3 := Aside0.mk hb3; have Y1 := Aside0.mk z1; clear hS3 hb3 z1 z2)
 have hsz := HS2.out
 have hle := HB3.out.size
 have k1 : Kept W3 (W3.setCell ⟨W.heap.size + 2, 1, none⟩ (.slice A3 l.length c3)) (fun k => k = W.heap.size + 2) := ⟨by simp [World.setCell], fun i _ hn => Below.heap_setCell W3 ⟨W.heap.size + 2, 1, none⟩ _ i hn⟩
 obtain ⟨W4, hW4⟩ : ∃ W4, W3.setCell ⟨W.heap.size + 2, 1, none⟩ (.slice A3 l.length c3) = W4 := ⟨_, rfl⟩
 rw [hW4] at k1
 have k2 : Kept W4 ((W4.setCell ⟨W.heap.size + 1, 0, none⟩ (.int .i64 x.f0)).setCell ⟨W.heap.size + 1, 1, none⟩ (.slice A3 l.length c3)) (fun k => k = W.heap.size + 1) := ⟨by simp [World.setCell], fun i _ hn => (Below.heap_setCell _ ⟨W.heap.size + 1, 1, none⟩ _ i hn).trans (Below.heap_setCell _ ⟨W.heap.size + 1, 0, none⟩ _ i hn)⟩
 have g0 := blk_put (blk_put (blk_kept Y1.out k1 (by omega)) 0 (.int .i64 x.f0) rfl) 1 (.slice A3 l.length c3) rfl
 rw [hW4]
 refine bodyPost_ret (results_cell_row rfl _ _ (W.heap.size + 1) 67 #[.int .i64 x.f0, .slice A3 l.length c3] (0, 0) _ rfl g0 Tryz.underlying67 rfl (by kernel_rfl)) rfl ?_
 have s4 : W4.heap.size = W3.heap.size := by rw [← hW4]; simp [World.setCell]
 refine ⟨A3, c3, rfl, Kd.S_mono (Kd.S_kept (Kd.S_kept (S_rangeV HS3.out (B := W.heap.size) (by omega)) k1 ?_) k2 ?_) ?_, ?_⟩
 · intro k hk h; have := hk.1; omega
 · intro k hk h; have := hk.1; omega
 · intro k hk
   refine ⟨by have := hk.1; omega, ?_⟩
   have := hk.2
   simpa [World.setCell, s4] using this
 · refine Below.setCell (Below.setCell ?_ (by show W.heap.size ≤ W.heap.size + 1; omega) _) (by show W.heap.size ≤ W.heap.size + 1; omega) _
   rw [← hW4]
   exact (below_step HB2.out HB3.out).setCell (by show W.heap.size ≤ W.heap.size + 2; omega) _
theorem szChanges_m (x : S63) (acc r : Int) (hr : Ev (fun k => laws_szChanges.f k x.f0 x.f1 acc) r) (A : Option Addr) (c : Nat) (W : World) (hC : Kd.C k233 W A x.f1.length x.f1) (hc : x.f1.length ≤ c) :
   Calls Tryz.prog 37 #[.agg #[.int .i64 x.f0, .slice A x.f1.length c], .int .i64 acc] W (RetI r W) := by
 obtain ⟨k, hk⟩ := ev_at hr
 exact laws_szChanges.calls k x.f0 A c x.f1 acc r W hC hc hk
theorem eqCS_m (l : List S145) (h : lens_ChangeS l) (n : Nat) (hn : n = l.length) (A B : Option Addr) (a b : Nat) (W : World) (h0 : Kd.C k145 W A n l) (l0 : n ≤ a) (h1 : Kd.C k145 W B n l) (l1 : n ≤ b) :
   Calls Tryz.prog 114 #[.slice A n a, .slice B n b] W (RetB true W) := by
 subst hn
 obtain ⟨k, hk⟩ := ev_at (eq_ChangeS l h)
 exact laws_eqChangeS.calls k A a l B b l true W h0 l0 h1 l1 hk
theorem eqChs_m (z : Int) (l : List S145) (h : lens_ChangeS l) (n : Nat) (hn : n = l.length) (A B : Option Addr) (a b : Nat) (W : World) (h0 : Kd.C k145 W A n l) (l0 : n ≤ a) (h1 : Kd.C k145 W B n l) (l1 : n ≤ b) :
   Calls Tryz.prog 42 #[.agg #[.int .i64 z, .slice A n a], .agg #[.int .i64 z, .slice B n b]] W (RetB true W) := by
 obtain ⟨W1, hW1⟩ : ∃ W1, (W.alloc (.cells #[.int .i64 z, .slice A n a] 67)).alloc (.cells #[.int .i64 z, .slice B n b] 67) = W1 := ⟨_, rfl⟩
 have hB1 : Below W.heap.size W W1 := by rw [← hW1]; exact below_alloc (below_alloc (Below.refl _ _) _) _
 have y0 : W1.heap[W.heap.size]? = some (.cells #[.int .i64 z, .slice A n a] 67 (0, 0)) := by rw [← hW1]; exact blk_alloc (blk_new _ _) _
 have y1 : W1.heap[W.heap.size + 1]? = some (.cells #[.int .i64 z, .slice B n b] 67 (0, 0)) := by rw [← hW1]; have := blk_new (W.alloc (.cells #[.int .i64 z, .slice A n a] 67)) (.cells #[.int .i64 z, .slice B n b] 67); rw [World.size_alloc] at this; exact this
 have p0 : W1.cell? ⟨W.heap.size, 0, none⟩ = some (.int .i64 z) := (blk_cell y0 0).trans rfl; have p1 : W1.cell? ⟨W.heap.size, 1, none⟩ = some (.slice A n a) := (blk_cell y0 1).trans rfl
 have q0 : W1.cell? ⟨W.heap.size + 1, 0, none⟩ = some (.int .i64 z) := (blk_cell y1 0).trans rfl; have q1 : W1.cell? ⟨W.heap.size + 1, 1, none⟩ = some (.slice B n b) := (blk_cell y1 1).trans rfl
 have HC := Aside0.mk (eqCS_m l h n hn A B a b W1 (Kd.C_below h0 hB1) l0 (Kd.C_below h1 hB1) l1)
 have HB := Aside0.mk hB1
 clear h hn h0 l0 h1 l1 hB1 y0 y1
 go_enter Tryz.func42, Tryz.ntmps42
 go_wp2_with (go_at_call 114; refine HC.out.mono ?_; rintro e W2 ⟨rfl, hb2⟩; have HB2 := Aside0.mk hb2; clear hb2)
 go_ret
 exact ⟨rfl, below_step HB.out HB2.out⟩
theorem eqChanges_m (y : S67) (h : lens_Changes y) (A B : Option Addr) (a b : Nat) (W : World) (h0 : Kd.C k145 W A y.f1.length y.f1) (l0 : y.f1.length ≤ a) (h1 : Kd.C k145 W B y.f1.length y.f1) (l1 : y.f1.length ≤ b) :
   Calls Tryz.prog 42 #[.agg #[.int .i64 y.f0, .slice A y.f1.length a], .agg #[.int .i64 y.f0, .slice B y.f1.length b]] W (RetB true W) := eqChs_m y.f0 y.f1 h.2 _ rfl A B a b W h0 l0 h1 l1
theorem eqCO_m (y : S69) (h : lens_ChangesOut y) (n m : Nat) (hn : n = y.f0.f1.length) (hm : m = y.f1.length) (A B A' B' : Option Addr) (a b a' b' : Nat) (W : World) (h0 : n ≤ a ∧ Kd.C k145 W A n y.f0.f1 ∧ m ≤ b ∧ Kd.C k145 W B m y.f1) (h1 : n ≤ a' ∧ Kd.C k145 W A' n y.f0.f1 ∧ m ≤ b' ∧ Kd.C k145 W B' m y.f1) :
   Calls Tryz.prog 41 #[.agg #[.int .i64 y.f0.f0, .slice A n a, .slice B m b, .int .i64 y.f2], .agg #[.int .i64 y.f0.f0, .slice A' n a', .slice B' m b', .int .i64 y.f2]] W (RetB true W) := by
 obtain ⟨z, hz⟩ : ∃ z, y.f0.f0 = z := ⟨_, rfl⟩
 obtain ⟨u, hu⟩ : ∃ u, y.f2 = u := ⟨_, rfl⟩
 rw [hz, hu]
 obtain ⟨W1, hW1⟩ : ∃ W1, (W.alloc (.cells #[.int .i64 z, .slice A n a, .slice B m b, .int .i64 u] 69)).alloc (.cells #[.int .i64 z, .slice A' n a', .slice B' m b', .int .i64 u] 69) = W1 := ⟨_, rfl⟩
 have hB1 : Below W.heap.size W W1 := by rw [← hW1]; exact below_alloc (below_alloc (Below.refl _ _) _) _
 have y0 : W1.heap[W.heap.size]? = some (.cells #[.int .i64 z, .slice A n a, .slice B m b, .int .i64 u] 69 (0, 0)) := by rw [← hW1]; exact blk_alloc (blk_new _ _) _
 have y1 : W1.heap[W.heap.size + 1]? = some (.cells #[.int .i64 z, .slice A' n a', .slice B' m b', .int .i64 u] 69 (0, 0)) := by rw [← hW1]; have := blk_new (W.alloc (.cells #[.int .i64 z, .slice A n a, .slice B m b, .int .i64 u] 69)) (.cells #[.int .i64 z, .slice A' n a', .slice B' m b', .int .i64 u] 69); rw [World.size_alloc] at this; exact this
 have p0 : W1.cell? ⟨W.heap.size, 0, none⟩ = some (.int .i64 z) := (blk_cell y0 0).trans rfl; have p1 : W1.cell? ⟨W.heap.size, 1, none⟩ = some (.slice A n a) := (blk_cell y0 1).trans rfl; have p2 : W1.cell? ⟨W.heap.size, 2, none⟩ = some (.slice B m b) := (blk_cell y0 2).trans rfl; have p3 : W1.cell? ⟨W.heap.size, 3, none⟩ = some (.int .i64 u) := (blk_cell y0 3).trans rfl
 have q0 : W1.cell? ⟨W.heap.size + 1, 0, none⟩ = some (.int .i64 z) := (blk_cell y1 0).trans rfl; have q1 : W1.cell? ⟨W.heap.size + 1, 1, none⟩ = some (.slice A' n a') := (blk_cell y1 1).trans rfl; have q2 : W1.cell? ⟨W.heap.size + 1, 2, none⟩ = some (.slice B' m b') := (blk_cell y1 2).trans rfl; have q3 : W1.cell? ⟨W.heap.size + 1, 3, none⟩ = some (.int .i64 u) := (blk_cell y1 3).trans rfl
 have HC := Aside0.mk (eqChs_m z y.f0.f1 h.1.2 n hn A A' a a' W1 (Kd.C_below h0.2.1 hB1) h0.1 (Kd.C_below h1.2.1 hB1) h1.1)
 have HD := Aside0.mk (fun (V : World) (hb : Below W1.heap.size W1 V) => eqCS_m y.f1 h.2.1 m hm B B' b b' V (Kd.C_below (Kd.C_below h0.2.2.2 hB1) hb) h0.2.2.1 (Kd.C_below (Kd.C_below h1.2.2.2 hB1) hb) h1.2.2.1)
 have HB := Aside0.mk hB1
 have Y0 := Aside0.mk y0
 have Y1 := Aside0.mk y1
 clear h hn hm h0 h1 hB1 y0 y1 hz hu
 go_enter Tryz.func41, Tryz.ntmps41
 go_wp2_with (first | (go_at_call 42; refine HC.out.mono ?_; rintro e W2 ⟨rfl, hb2⟩; have z0 := blk_below Y0.out hb2; have z1 := blk_below Y1.out hb2; have d0 : W2.cell? ⟨W.heap.size, 0, none⟩ = some (.int .i64 z) := (blk_cell z0 0).trans rfl; have d1 : W2.cell? ⟨W.heap.size, 1, none⟩ = some (.slice A n a) := (blk_cell z0 1).trans rfl; have d2 : W2.cell? ⟨W.heap.size, 2, none⟩ = some (.slice B m b) := (blk_cell z0 2).trans rfl; have d3 : W2.cell? ⟨W.heap.size, 3, none⟩ = some (.int .i64 u) := (blk_cell z0 3).trans rfl; have e0 : W2.cell? ⟨W.heap.size + 1, 0, none⟩ = some (.int .i64 z) := (blk_cell z1 0).trans rfl; have e1 : W2.cell? ⟨W.heap.size + 1, 1, none⟩ = some (.slice A' n a') := (blk_cell z1 1).trans rfl; have e2 : W2.cell? ⟨W.heap.size + 1, 2, none⟩ = some (.slice B' m b') := (blk_cell z1 2).trans rfl; have e3 : W2.cell? ⟨W.heap.size + 1, 3, none⟩ = some (.int .i64 u) := (blk_cell z1 3).trans rfl; have HB2 := Aside0.mk hb2; clear hb2 z0 z1) | (go_at_call 114; refine (HD.out W2 HB2.out).mono ?_; rintro e W3 ⟨rfl, hb3⟩; have z0 := blk_below (blk_below Y0.out HB2.out) hb3; have z1 := blk_below (blk_below Y1.out HB2.out) hb3; have g0 : W3.cell? ⟨W.heap.size, 0, none⟩ = some (.int .i64 z) := (blk_cell z0 0).trans rfl; have g1 : W3.cell? ⟨W.heap.size, 1, none⟩ = some (.slice A n a) := (blk_cell z0 1).trans rfl; have g2 : W3.cell? ⟨W.heap.size, 2, none⟩ = some (.slice B m b) := (blk_cell z0 2).trans rfl; have g3 : W3.cell? ⟨W.heap.size, 3, none⟩ = some (.int .i64 u) := (blk_cell z0 3).trans rfl; have i0 : W3.cell? ⟨W.heap.size + 1, 0, none⟩ = some (.int .i64 z) := (blk_cell z1 0).trans rfl; have i1 : W3.cell? ⟨W.heap.size + 1, 1, none⟩ = some (.slice A' n a') := (blk_cell z1 1).trans rfl; have i2 : W3.cell? ⟨W.heap.size + 1, 2, none⟩ = some (.slice B' m b') := (blk_cell z1 2).trans rfl; have i3 : W3.cell? ⟨W.heap.size + 1, 3, none⟩ = some (.int .i64 u) := (blk_cell z1 3).trans rfl; have HB3 := Aside0.mk hb3; clear hb3 z0 z1))
 go_ret
 exact ⟨rfl, below_step HB.out (below_step HB2.out HB3.out)⟩
def n_CO (y : S69) : Nat := nCs y.f0.f1 + nCs y.f1
noncomputable def mk_CO (x : Int) (y : S69) : S69 := ⟨⟨y.f0.f0, mkCs x y.f0.f1⟩, mkCs (x + nCs y.f0.f1) y.f1, y.f2⟩
def RetMarkCh (w0 : World) (ok : Nat → Prop) (A : Option Addr) (n c : Nat) (l : List S145) (x : Int) (w : World) (en : Ending) (w' : World) : Prop :=
 en = .returned (.int .i64 x) ∧ Kd.S mChg 145 w' w0.heap.size ok (.slice A n c) l ∧ Below w0.heap.size w0 w' ∧ Kept w w' ok
theorem markChanges_m (w0 : World) (ok : Nat → Prop) (z : Int) (A : Option Addr) (n c : Nat) (l : List S145) (x : Int) (w : World) (hB : Below w0.heap.size w0 w) (hS : Kd.S mChg 145 w w0.heap.size ok (.slice A n c) l) (hl : l.length ≤ 4000000000000000000) (h0 : 0 ≤ x) (hx : x + nCs l ≤ 4000000000000000000) :
   Calls Tryz.prog 43 #[.agg #[.int .i64 z, .slice A n c], .int .i64 x] w (RetMarkCh w0 ok A n c (mkCs x l) (x + nCs l) w) := by
 obtain ⟨w1, hw1⟩ : ∃ w1, w.alloc (.cells #[.int .i64 z, .slice A n c] 67) = w1 := ⟨_, rfl⟩
 have hb1 : Below w.heap.size w w1 := by rw [← hw1]; exact below_alloc (Below.refl _ _) _
 have hn1 : w1.heap[w.heap.size]? = some (.cells #[.int .i64 z, .slice A n c] 67 (0, 0)) := by rw [← hw1]; exact heap_alloc_new w _
 have q1 : w1.cell? ⟨w.heap.size, 1, none⟩ = some (.slice A n c) := (blk_cell hn1 1).trans rfl
 have hc := markChgs_c w0 ok A n c l x w1 (below_step hB hb1) (Kd.S_below hS hb1) hl h0 hx
 have HB1 := Aside0.mk hb1
 clear hb1 hn1 hB hS hl h0 hx
 generalize x + (nCs l : Int) = x2 at hc ⊢
 generalize mkCs x l = l2 at hc ⊢
 go_enter Tryz.func43, Tryz.ntmps43
 go_wp2_with (go_at_call 115; refine hc.mono ?_; rintro e w2 ⟨rfl, hM2, hb2, hk2⟩; have HM2 := Aside0.mk hM2; have HB2 := Aside0.mk hb2; have HK2 := Aside0.mk hk2; clear hM2 hb2 hk2)
 go_ret
 exact ⟨rfl, HM2.out, HB2.out, (Kept.of_below HB1.out _).then_ HK2.out (fun k hk => .inl hk)⟩
def RetMarkCO (w0 : World) (ok : Nat → Prop) (A : Option Addr) (n c : Nat) (B : Option Addr) (m b : Nat) (y : S69) (x : Int) (w : World) (en : Ending) (w' : World) : Prop :=
 en = .returned (.int .i64 x) ∧ CM w' w0.heap.size ok y A n c B m b ∧ Below w0.heap.size w0 w' ∧ Kept w w' ok
theorem markCO_m (w0 : World) (ok : Nat → Prop) (y : S69) (A : Option Addr) (n c : Nat) (B : Option Addr) (m b : Nat) (x : Int) (w : World) (hB : Below w0.heap.size w0 w) (hM : CM w w0.heap.size ok y A n c B m b) (hok : ∀ k, ok k → k < w.heap.size) (hl : y.f0.f1.length ≤ 1000000000) (hl2 : y.f1.length ≤ 1000000000) (h0 : 0 ≤ x) (hx : x + n_CO y ≤ 4000000000000000000) :
   Calls Tryz.prog 44 #[.agg #[.int .i64 y.f0.f0, .slice A n c, .slice B m b, .int .i64 y.f2], .int .i64 x] w (RetMarkCO w0 ok A n c B m b (mk_CO x y) (x + n_CO y) w) := by
 obtain ⟨o1, o2, p1, p2, p3, g0, g1⟩ := hM
 obtain ⟨w1, hw1⟩ : ∃ w1, w.alloc (.cells #[.int .i64 y.f0.f0, .slice A n c, .slice B m b, .int .i64 y.f2] 69) = w1 := ⟨_, rfl⟩
 have hb1 : Below w.heap.size w w1 := by rw [← hw1]; exact below_alloc (Below.refl _ _) _
 have hn1 : w1.heap[w.heap.size]? = some (.cells #[.int .i64 y.f0.f0, .slice A n c, .slice B m b, .int .i64 y.f2] 69 (0, 0)) := by rw [← hw1]; exact heap_alloc_new w _
 have q0 : w1.cell? ⟨w.heap.size, 0, none⟩ = some (.int .i64 y.f0.f0) := (blk_cell hn1 0).trans rfl
 have q1 : w1.cell? ⟨w.heap.size, 1, none⟩ = some (.slice A n c) := (blk_cell hn1 1).trans rfl
 unfold n_CO at hx
 have hc := markChanges_m w0 o1 y.f0.f0 A n c y.f0.f1 x w1 (below_step hB hb1) (Kd.S_below g0 hb1) (by omega) h0 (by omega)
 have HC2 := Aside0.mk (fun (w2 : World) (hb2 : Below w0.heap.size w0 w2) (hk2 : Kept w1 w2 o1) => markChgs_c w0 o2 B m b y.f1 (x + nCs y.f0.f1) w2 hb2 (Kd.S_kept (Kd.S_below g1 hb1) hk2 (fun k hk h => p3 k h hk)) (by omega) (by omega) (by omega))
 have HN := Aside0.mk (fun (w2 : World) (hk2 : Kept w1 w2 o1) => blk_kept hn1 hk2 (fun h => by have := hok _ (p1 _ h); omega))
 have HB1 := Aside0.mk hb1
 have HP := Aside0.mk (And.intro p1 (And.intro p2 p3))
 have e2 : x + (n_CO y : Int) = x + (nCs y.f0.f1 : Int) + (nCs y.f1 : Int) := by unfold n_CO; omega
 unfold RetMarkCO mk_CO
 rw [e2]
 generalize x + (nCs y.f0.f1 : Int) = x2 at hc HC2 ⊢
 generalize x2 + (nCs y.f1 : Int) = x3 at HC2 ⊢
 generalize mkCs x y.f0.f1 = l1 at hc ⊢
 generalize mkCs x2 y.f1 = l2 at HC2 ⊢
 clear hb1 hn1 hB g0 g1 p1 p2 p3 hok hl hl2 h0 hx e2
 go_enter Tryz.func44, Tryz.ntmps44
 go_wp2_with (first | (go_at_call 43; (with_reducible refine hc.mono ?_); rintro e w2 ⟨rfl, hM2, hb2, hk2⟩; have HM2 := Aside0.mk hM2; have HB2 := Aside0.mk hb2; have HK2 := Aside0.mk hk2; have r2 : w2.cell? ⟨w.heap.size, 2, none⟩ = some (.slice B m b) := (blk_cell (HN.out w2 hk2) 2).trans rfl; clear hM2 hb2 hk2) | (go_at_call 115; have hc2 := HC2.out w2 HB2.out HK2.out; (with_reducible refine hc2.mono ?_); rintro e w3 ⟨rfl, hM3, hb3, hk3⟩; have HM3 := Aside0.mk hM3; have HB3 := Aside0.mk hb3; have HK3 := Aside0.mk hk3; clear hM3 hb3 hk3 hc2))
 go_ret
 obtain ⟨p1, p2, p3⟩ := HP.out
 refine ⟨rfl, ⟨o1, o2, p1, p2, p3, Kd.S_kept HM2.out HK3.out (fun k hk h => p3 k hk h), HM3.out⟩, HB3.out, ?_⟩
 exact (Kept.of_below HB1.out _).then_ ((HK2.out.mono (fun k hk => p1 k hk)).then_ (HK3.out.mono (fun k hk => p2 k hk)) (fun k hk => .inl hk)) (fun k hk => .inl hk)
theorem heldCO_m (y : S69) (n m : Nat) (hn : n = y.f0.f1.length) (hm : m = y.f1.length) (A B : Option Addr) (c b : Nat) (x : Int) (W : World) (h : n ≤ c ∧ Kd.C k145 W A n (mk_CO x y).f0.f1 ∧ m ≤ b ∧ Kd.C k145 W B m (mk_CO x y).f1) (hl : y.f0.f1.length ≤ 1000000000) (hl2 : y.f1.length ≤ 1000000000) (h0 : 0 ≤ x) (hx : x + n_CO y ≤ 4000000000000000000) :
   Calls Tryz.prog 45 #[.agg #[.int .i64 y.f0.f0, .slice A n c, .slice B m b, .int .i64 y.f2], .int .i64 x] W (RetI (x + n_CO y) W) := by
 unfold n_CO at hx
 have s0 := held_Chgs y.f0.f1 [] x (by simp; omega) h0 (by omega)
 have s1 := held_Chgs y.f1 [] (x + nCs y.f0.f1) (by simp; omega) (by omega) (by omega)
 have e2 : x + (nCs y.f0.f1 : Int) + (nCs y.f1 : Int) = x + (n_CO y : Int) := by unfold n_CO; omega
 rw [e2] at s1
 have hneg : ¬ x + (nCs y.f0.f1 : Int) < 0 := by omega
 have hneg2 : ¬ x + (n_CO y : Int) < 0 := by omega
 obtain ⟨k, hk⟩ := ev_at (show Ev (fun k => laws_heldChangesOut.f k y.f0.f0 (mkCs x y.f0.f1) (mkCs (x + nCs y.f0.f1) y.f1) y.f2 x) (x + n_CO y) from by
   unfold laws_heldChangesOut.f
   refine Ev_bind (a := x + (nCs y.f0.f1 : Int)) ?_ ?_
   · unfold laws_heldChanges.f
     exact Ev_bind (show Ev (fun k => laws_heldChangeS.f k (mkCs x y.f0.f1) x) _ from s0) (Ev_some fun k => if_neg hneg)
   · refine Ev.congr (fun k => if_neg hneg) (Ev_bind (show Ev (fun k => laws_heldChangeS.f k (mkCs (x + nCs y.f0.f1) y.f1) (x + nCs y.f0.f1)) _ from s1) (Ev_some fun k => if_neg hneg2)))
 subst hn hm
 have l1 := mkCs_len y.f0.f1 x
 have l2 := mkCs_len y.f1 (x + nCs y.f0.f1)
 have hh := laws_heldChangesOut.calls k y.f0.f0 A c (mkCs x y.f0.f1) B b (mkCs (x + nCs y.f0.f1) y.f1) y.f2 x _ W (by rw [l1]; exact h.2.1) (by rw [l1]; exact h.1) (by rw [l2]; exact h.2.2.2) (by rw [l2]; exact h.2.2.1) hk
 rw [l1, l2] at hh
 exact hh
theorem nCs_leK (m : Nat) : ∀ l : List S145, (∀ a, a ∈ l → n_Chg a ≤ m) → nCs l ≤ l.length * m
 | [], _ => Nat.zero_le _
 | a :: r, h => by
   have h1 := nCs_leK m r (fun b hb => h b (List.mem_cons_of_mem _ hb))
   have h2 := h a List.mem_cons_self
   unfold nCs
   rw [List.length_cons, Nat.succ_mul]
   omega
theorem chgs_smallK (x : List S233) (h : small_ChangeS x) : (x.map conv_Change).length ≤ 1048576 ∧ ∀ e, e ∈ x.map conv_Change → okChg e ∧ n_Chg e ≤ 1200000000000 := by
 refine ⟨by rw [List.length_map]; exact h.1, fun e he => ?_⟩
 obtain ⟨y, hy, rfl⟩ := List.mem_map.1 he
 obtain ⟨hsz, h12⟩ := (h.2 y hy).2.2
 obtain ⟨q1, q2, q3⟩ := ent_smallV y.f3 h12
 have e3 : (conv_Change y).f3 = conv_Entry y.f3 := rfl
 have h3 := nAs_leV 1048576 (conv_Entry y.f3).f1 q3
 have h7 := Nat.mul_le_mul_right (1048576 + 1) q2
 refine ⟨⟨by show y.f2.size ≤ _; omega, by rw [e3]; omega, by rw [e3]; omega, fun a ha => by rw [e3] at ha; have := q3 a ha; omega⟩, ?_⟩
 unfold n_Chg n_Ent
 rw [e3]
 omega
end Go.Proofs.YtmkpgddfoaglpaaGreatDoor.PG
