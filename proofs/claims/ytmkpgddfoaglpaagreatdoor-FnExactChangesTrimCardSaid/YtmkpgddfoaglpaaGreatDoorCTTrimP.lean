/-
 The program's copy of a change log, and the log without its lesser numbers, walked: all rows apart. Conditions: the lengths' bounds.
-/
import Derived.Test.YtmkpgddfoaglpaaGreatDoorCTSinceI
import Derived.Test.YtmkpgddfoaglpaaGreatDoorCTDelChange
import Derived.Test.YtmkpgddfoaglpaaGreatDoorCTRowOps
set_option maxHeartbeats 8000000
set_option maxRecDepth 100000
set_option linter.unusedVariables false
set_option linter.unusedSimpArgs false
namespace Go.Proofs.YtmkpgddfoaglpaaGreatDoor.PG
open Go.RowKit Go.Proofs.YtmkpgddfoaglpaaGreatDoorW.PrintWords Go.Proofs.YtmkpgddfoaglpaaGreatDoorW.PrintLast Go.Proofs.YtmkpgddfoaglpaaGreatDoorW.PrintMore Go.Proofs.YtmkpgddfoaglpaaGreatDoor.Gn Go.Proofs.YtmkpgddfoaglpaaGreatDoor
attribute [local go_sem] max2_int min2_int max_two min_two max_three min_three max_four min_four World.cell?_drew World.frozen?_drew
theorem keepK (W : World) (g o : Nat) (v : Value) : Kept W (W.setCell ⟨g, o, none⟩ v) (fun k => k = g) := ⟨by simp [World.setCell], fun i _ hn => Below.heap_setCell W ⟨g, o, none⟩ v i hn⟩
theorem copiedC_c (y : S67) (hl : y.f1.length ≤ 1000000) (hok : ∀ x, x ∈ y.f1 → okChg x) (A : Option Addr) (c : Nat) (W : World) (hC : Kd.C k145 W A y.f1.length y.f1) (hc : y.f1.length ≤ c) :
   Calls Tryz.prog 128 #[.agg #[.int .i64 y.f0, .slice A y.f1.length c]] W (RetCh y W) := by
 obtain ⟨next, l⟩ := y
 dsimp only at hl hok hC hc ⊢
 obtain ⟨W1, hW1⟩ : ∃ W1, (W.alloc (.cells #[.int .i64 next, .slice A l.length c] 67)).alloc (.cells #[.int .i64 0, .slice none 0 0] 67) = W1 := ⟨_, rfl⟩
 have hB1 : Below W.heap.size W W1 := by rw [← hW1]; exact below_alloc (below_alloc (Below.refl _ _) _) _
 have hs1 : W1.heap.size = W.heap.size + 2 := by rw [← hW1]; simp
 have y0 : W1.heap[W.heap.size]? = some (.cells #[.int .i64 next, .slice A l.length c] 67 (0, 0)) := by rw [← hW1]; exact blk_alloc (blk_new _ _) _
 have y1 : W1.heap[W.heap.size + 1]? = some (.cells #[.int .i64 0, .slice none 0 0] 67 (0, 0)) := by rw [← hW1]; have := blk_new (W.alloc (.cells #[.int .i64 next, .slice A l.length c] 67)) (.cells #[.int .i64 0, .slice none 0 0] 67); rw [World.size_alloc] at this; exact this
 have HCP := Aside0.mk (copyChgs_c l hl (fun e he => (hok e he).2) A c W1.drew (Kd.C_below (Kd.C_below hC hB1) (below_drew (Below.refl _ _))) hc)
 have HB := Aside0.mk hB1
 have HS := Aside0.mk hs1
 have BK0 := Aside0.mk (blk_drew y0)
 have BK1 := Aside0.mk (blk_drew y1)
 clear hl hok hC hc y0 y1 hB1 hs1
 go_enter Tryz.func128, Tryz.ntmps128
 go_wp2
 refine start_ (n := 7) (S := fun w' => w'.cell? ⟨W.heap.size, 0, none⟩ = some (.int .i64 next) ∧ w'.cell? ⟨W.heap.size, 1, none⟩ = some (.slice A l.length c)) (ds := []) #[false, false, false, false, false, false, false] (by kernel_rfl) rfl rfl ⟨(blk_cell BK0.out 0).trans rfl, (blk_cell BK0.out 1).trans rfl⟩ (fun hHeld => ?_)
 obtain ⟨w5, hw5⟩ : ∃ w5, W1.drew = w5 := ⟨_, rfl⟩
 have HB5 := Aside0.mk (show Below W.heap.size W w5 from by rw [← hw5]; exact below_drew1 HB.out)
 have HS5 := Aside0.mk (show w5.heap.size = W.heap.size + 2 from by rw [← hw5]; exact HS.out)
 rw [hw5] at BK0 BK1 HCP hHeld ⊢
 clear hw5
 refine pure_ (i := 0) (N := some 3) (v := ?_) (a' := ?_) #[true, false, false, false, false, false, false] rfl rfl (by kernel_rfl) (fun _ _ _ h => h) (Or.inl ⟨by rfl, ?_⟩) ?_ ?_
 rotate_left
 · intro w'
   go_simp
   with_reducible rfl
 rotate_left
 · simp only [Act.put, List.setIfInBounds_toArray, List.set_cons_zero, List.set_cons_succ, i64_w, i32_w]
   rfl
 refine pure_ (i := 2) (N := some 5) (v := ?_) (a' := ?_) #[true, false, true, false, false, false, false] rfl rfl (by kernel_rfl) (fun _ _ _ h => h) (Or.inl ⟨by rfl, ?_⟩) ?_ ?_
 rotate_left
 · intro w'
   go_simp
   with_reducible rfl
 rotate_left
 · simp only [Act.put, List.setIfInBounds_toArray, List.set_cons_zero, List.set_cons_succ, i64_w, i32_w]
   rfl
 refine take_ (i := 1) (N := some 4) (v := ?_) (a' := ?_) #[true, true, true, false, false, false, false] rfl rfl (by kernel_rfl) (fun _ _ _ h => h) (Or.inl ⟨by rfl, ?_⟩) hHeld ?_ ?_
 rotate_left
 · rintro w' ⟨s0, s1⟩
   go_simp
   with_reducible rfl
 rotate_left
 · simp only [Act.put, List.setIfInBounds_toArray, List.set_cons_zero, List.set_cons_succ, i64_w, i32_w]
   rfl
 refine take_ (i := 3) (N := some 6) (v := ?_) (a' := ?_) #[true, true, true, true, false, false, false] rfl rfl (by kernel_rfl) (fun _ _ _ h => h) (Or.inl ⟨by rfl, ?_⟩) hHeld ?_ ?_
 rotate_left
 · rintro w' ⟨s0, s1⟩
   go_simp
   with_reducible rfl
 rotate_left
 · simp only [Act.put, List.setIfInBounds_toArray, List.set_cons_zero, List.set_cons_succ, i64_w, i32_w]
   rfl
 refine one_ (i := 4) (N := some 7) #[true, true, true, true, true, false, false] rfl rfl (by kernel_rfl) (by decide) (fun K hK => ?_)
 refine goes_ Tryz.func113 (by kernel_rfl) rfl #[.slice A l.length c] (by rfl) rfl rfl (by (try simp only [List.map_toArray, List.map_cons, List.map_nil]); first | done | rfl) ?_
 refine HCP.out.mono ?_
 rintro e w6 ⟨A7, c7, rfl, ho0, hb⟩
 refine ⟨_, rfl, ?_⟩
 have BK0' := Aside0.mk (blk_below BK0.out hb)
 have BK1' := Aside0.mk (blk_below BK1.out hb)
 have HB6 := Aside0.mk (below_step HB5.out hb)
 have HO := Aside0.mk ho0
 have HSB := Aside0.mk hb.size
 clear ho0 hb HCP BK0 BK1
 refine hK.out _ _ ⟨(blk_cell BK0'.out 0).trans rfl, (blk_cell BK0'.out 1).trans rfl⟩ (fun hHeld => ?_)
 clear hK K
 refine norm_ (a' := ?_) ?_ ?_
 rotate_left
 · show Act.put _ (some 7) _ = _
   simp only [Act.put, List.setIfInBounds_toArray, List.set_cons_zero, List.set_cons_succ, i64_w, i32_w]
   rfl
 refine pure_ (i := 5) (N := some 8) (v := ?_) (a' := ?_) #[true, true, true, true, true, true, false] rfl rfl (by kernel_rfl) (fun _ _ _ h => h) (Or.inl ⟨by rfl, ?_⟩) ?_ ?_
 rotate_left
 · intro w'
   go_simp
   with_reducible rfl
 rotate_left
 · simp only [Act.put, List.setIfInBounds_toArray, List.set_cons_zero, List.set_cons_succ, i64_w, i32_w]
   rfl
 refine one_ (i := 6) (N := none) #[true, true, true, true, true, true, true] rfl rfl (by kernel_rfl) (by decide) (fun K hK => ?_)
 have hs8 : w6.cell? ⟨W.heap.size + 1, 0, none⟩ = some (.int .i64 0) := (blk_cell BK1'.out 0).trans rfl
 have hfs8 := blk_frozen BK1'.out 0
 have hs9 : w6.cell? ⟨W.heap.size + 1, 1, none⟩ = some (.slice none 0 0) := (blk_cell BK1'.out 1).trans rfl
 have hfs9 := blk_frozen BK1'.out 1
 have hne : W.heap.size ≠ W.heap.size + 1 := by omega
 refine skip_ (w1 := ?_) (by rfl) rfl ?_ ?_
 rotate_left
 · go_simp
   rfl
 refine hK.out _ _ ⟨((cell_far (p := ⟨W.heap.size + 1, _, none⟩) hne _).trans (((cell_far (p := ⟨W.heap.size + 1, _, none⟩) hne _).trans (hHeld.1)))), ((cell_far (p := ⟨W.heap.size + 1, _, none⟩) hne _).trans (((cell_far (p := ⟨W.heap.size + 1, _, none⟩) hne _).trans (hHeld.2))))⟩ (fun hHeld => ?_)
 clear hK K
 refine done_ (by kernel_rfl) ?_
 try go_wp2
 have g0 := blk_put (blk_put BK1'.out 0 (.int .i64 next) rfl) 1 (.slice A7 l.length c7) rfl
 refine bodyPost_ret (results_cell_row rfl _ _ (W.heap.size + 1) 67 #[.int .i64 next, .slice A7 l.length c7] (0, 0) _ rfl g0 Tryz.underlying67 rfl (by kernel_rfl)) rfl ?_
 have h1 := HS5.out
 have h2 := HSB.out
 have k5 : Kept w6 ((w6.setCell ⟨W.heap.size + 1, 0, none⟩ (.int .i64 next)).setCell ⟨W.heap.size + 1, 1, none⟩ (.slice A7 l.length c7)) (fun k => k = W.heap.size + 1) := ⟨by simp [World.setCell], fun i _ hn => (Below.heap_setCell _ ⟨W.heap.size + 1, 1, none⟩ _ i hn).trans (Below.heap_setCell _ ⟨W.heap.size + 1, 0, none⟩ _ i hn)⟩
 refine ⟨A7, c7, rfl, Kd.S_mono (Kd.S_kept (S_rangeV HO.out (B := W.heap.size) (by omega)) k5 ?_) ?_, (HB6.out.setCell (by show W.heap.size ≤ W.heap.size + 1; omega) _).setCell (by show W.heap.size ≤ W.heap.size + 1; omega) _⟩
 · intro k hk h; have := hk.1; omega
 · intro k hk
   refine ⟨by have := hk.1; omega, ?_⟩
   have := hk.2
   simpa [World.setCell] using this
theorem enters_212 : ∀ args w, (callFunc 212 args).run Tryz.prog w = .ok (.enter 212 args) w := enters_of Tryz.func212 (by kernel_rfl) rfl
theorem trim_clo (b : Nat) (n : Int) (x : S145) (cs : List Value) (W : World) (hE : W.cell? ⟨b, 0, none⟩ = some (.int .i64 n)) (hK : Kd.K k145 W x cs) :
   Calls Tryz.prog 212 #[.agg cs.toArray, .pointer (some ⟨b, 0, none⟩)] W fun e w' => e = .returned (.bool (decide (x.f0 < n))) ∧ Below W.heap.size W w' := by
 obtain ⟨A1, c1, A2, c2, rfl, _⟩ := k145_open hK
 obtain ⟨W1, hW1⟩ : ∃ W1, W.alloc (.cells #[.int .i64 x.f0, .int .i64 x.f1, .string x.f2, .slice A1 x.f3.f0.length c1, .slice A2 x.f3.f1.length c2] 145) = W1 := ⟨_, rfl⟩
 have hB1 : Below W.heap.size W W1 := by rw [← hW1]; exact below_alloc (Below.refl _ _) _
 have y0 : W1.cell? ⟨W.heap.size, 0, none⟩ = some (.int .i64 x.f0) := by rw [← hW1]; exact cell_blk (heap_alloc_new W _) rfl
 have q0 := pw_cell_below hB1 hE
 have HB := Aside0.mk hB1
 clear hB1 hE hK
 go_enter Tryz.func212, Tryz.ntmps212
 go_wp2
 go_ret
 exact ⟨rfl, HB.out⟩
theorem delS_Chg (g : Nat) (lb : Array Value) (p : S145 → Bool) (base : Nat) (w0 : World) (ok : Nat → Prop)
   (hcall : ∀ (W : World) (x : S145) (cs : List Value), Below base w0 W → Kd.K k145 W x cs → Calls Tryz.prog g (#[.agg cs.toArray] ++ lb) W fun e w' => e = .returned (.bool (p x)) ∧ Below W.heap.size W w')
   (eg : ∀ args w, (callFunc g args).run Tryz.prog w = .ok (.enter g args) w)
   (A : Option Addr) (c : Nat) (l : List S145) (w : World) (hS : Kd.S mChg 145 w base ok (.slice A l.length c) l) (hb0 : Below base w0 w) (hbs : base ≤ w.heap.size) :
   Calls Tryz.prog 211 #[.slice A l.length c, .func (.func g) #[] lb] w fun e w' => ∃ c', e = .returned (.slice A (l.filter fun x => !p x).length c') ∧ Kd.S mChg 145 w' base ok (.slice A (l.filter fun x => !p x).length c') (l.filter fun x => !p x) ∧ Below base w0 w' ∧ Kept w w' (fun k => ∃ ad, A = some ad ∧ ad.block = k) := by
 obtain ⟨f, h⟩ := hS
 have h2 := delf_Change (Kd.tag f mChg) rfl (z145, 0) g lb (fun q => p q.1) base w0 ok (fun W q cs hb hK => hcall W q.1 cs hb hK) eg A c l.zipIdx w (by rw [List.length_zipIdx]; exact h) hb0 hbs
 rw [List.length_zipIdx] at h2
 obtain ⟨e1, e2⟩ := zip_filter (fun x => !p x) l
 refine h2.mono ?_
 rintro e w' ⟨c', rfl, hR, hb, hk⟩
 have hlen : (l.zipIdx.filter fun q => !p q.1).length = (l.filter fun x => !p x).length := by rw [← e1, List.length_map]
 have hs := S_relabel hR e2
 rw [e1, hlen] at hs
 exact ⟨c', by rw [hlen], hs, hb, hk⟩
def trimL (l : List S145) (n : Int) : List S145 := l.filter fun x => !decide (x.f0 < n)
theorem trimmed_c (y : S67) (n : Int) (hl : y.f1.length ≤ 1000000) (hok : ∀ x, x ∈ y.f1 → okChg x) (A : Option Addr) (c : Nat) (W : World) (hC : Kd.C k145 W A y.f1.length y.f1) (hc : y.f1.length ≤ c) :
   Calls Tryz.prog 119 #[.agg #[.int .i64 y.f0, .slice A y.f1.length c], .int .i64 n] W (RetCh ⟨y.f0, trimL y.f1 n⟩ W) := by
 obtain ⟨next, l⟩ := y
 have hcp := fun V A c h h2 => copiedC_c ⟨next, l⟩ hl hok A c V h h2
 dsimp only at hl hok hC hc hcp ⊢
 obtain ⟨W1, hW1⟩ : ∃ W1, ((W.alloc (.cells #[.int .i64 next, .slice A l.length c] 67)).alloc (.cells #[.int .i64 n] 2)).alloc (.cells #[.int .i64 0, .slice none 0 0] 67) = W1 := ⟨_, rfl⟩
 have hB1 : Below W.heap.size W W1 := by rw [← hW1]; exact below_alloc (below_alloc (below_alloc (Below.refl _ _) _) _) _
 have hs1 : W1.heap.size = W.heap.size + 3 := by rw [← hW1]; simp
 have y0 : W1.heap[W.heap.size]? = some (.cells #[.int .i64 next, .slice A l.length c] 67 (0, 0)) := by rw [← hW1]; exact blk_alloc (blk_alloc (blk_new _ _) _) _
 have y1 : W1.heap[W.heap.size + 1]? = some (.cells #[.int .i64 n] 2 (0, 0)) := by rw [← hW1]; have := blk_new (W.alloc (.cells #[.int .i64 next, .slice A l.length c] 67)) (.cells #[.int .i64 n] 2); rw [World.size_alloc] at this; exact blk_alloc this _
 have y2 : W1.heap[W.heap.size + 2]? = some (.cells #[.int .i64 0, .slice none 0 0] 67 (0, 0)) := by rw [← hW1]; have := blk_new ((W.alloc (.cells #[.int .i64 next, .slice A l.length c] 67)).alloc (.cells #[.int .i64 n] 2)) (.cells #[.int .i64 0, .slice none 0 0] 67); rw [World.size_alloc, World.size_alloc] at this; exact this
 have c00 : W1.cell? ⟨W.heap.size, 0, none⟩ = some (.int .i64 next) := (blk_cell y0 0).trans rfl
 have c01 : W1.cell? ⟨W.heap.size, 1, none⟩ = some (.slice A l.length c) := (blk_cell y0 1).trans rfl
 have c10 : W1.cell? ⟨W.heap.size + 1, 0, none⟩ = some (.int .i64 n) := (blk_cell y1 0).trans rfl
 have HCP := Aside0.mk (hcp W1 A c (Kd.C_below hC hB1) hc)
 have HDEL := Aside0.mk (fun (V : World) (a : S145) (cs : List Value) (hb : Below W1.heap.size W1 V) (hK : Kd.K k145 V a cs) => trim_clo (W.heap.size + 1) n a cs V (pw_cell_below hb c10) hK)
 have HB := Aside0.mk hB1
 have HS := Aside0.mk hs1
 have Y2 := Aside0.mk y2
 clear hl hok hC hc y0 y1 y2 hB1 hs1 hcp c10
 go_enter Tryz.func119, Tryz.ntmps119
 go_wp2_with (first | (go_at_call 128; have hc := HCP.out; refine hc.mono ?_; rintro e w3 ⟨A', c', rfl, hS3, hb3⟩; have HS3 := Aside0.mk hS3; have HB3 := Aside0.mk hb3; clear hS3 hb3 hc) | (go_at_call 211; obtain ⟨w4, hw4⟩ : ∃ w4, w3.alloc (.cells #[.int .i64 next, .slice A' l.length c'] 67) = w4 := ⟨_, rfl⟩; rw [hw4]; have hb34 : Below w3.heap.size w3 w4 := (by rw [← hw4]; exact below_alloc (Below.refl _ _) _); have hq4 : w4.heap[w3.heap.size]? = some (.cells #[.int .i64 next, .slice A' l.length c'] 67 (0, 0)) := (by rw [← hw4]; exact heap_alloc_new w3 _); have hS4 := Kd.S_below HS3.out hb34; have hb4 := below_step HB3.out hb34; have hc := delS_Chg 212 #[.pointer (some ⟨W.heap.size + 1, 0, none⟩)] (fun x => decide (x.f0 < n)) W1.heap.size W1 _ (fun V a cs hb hK => HDEL.out V a cs hb hK) enters_212 A' c' l w4 hS4 hb4 hb4.size; refine hc.mono ?_; rintro e w5 ⟨c5, rfl, hS5, hb5, hk5⟩; have hbk : ∀ k, (∃ ad, A' = some ad ∧ ad.block = k) → k < w3.heap.size := (fun k hk => by obtain ⟨ad, rfl, rfl⟩ := hk; have hlt_ := Kd.S_lt HS3.out ad.block rfl; exact hlt_); have hq5 := blk_kept hq4 hk5 (fun h => Nat.lt_irrefl _ (hbk _ h)); have hr5 := blk_below Y2.out hb5; have q0 : w5.cell? ⟨w3.heap.size, 0, none⟩ = some (.int .i64 next) := (blk_cell hq5 0).trans rfl; have q1 : w5.cell? ⟨w3.heap.size, 1, none⟩ = some (.slice A' l.length c') := (blk_cell hq5 1).trans rfl; have qf := blk_frozen hq5 1; have r0 : w5.cell? ⟨W.heap.size + 2, 0, none⟩ = some (.int .i64 0) := (blk_cell hr5 0).trans rfl; have r1 : w5.cell? ⟨W.heap.size + 2, 1, none⟩ = some (.slice none 0 0) := (blk_cell hr5 1).trans rfl; have rf0 := blk_frozen hr5 0; have rf1 := blk_frozen hr5 1; have hqr : W.heap.size + 2 ≠ w3.heap.size := (by have h1 := HS.out; have h2 := HB3.out.size; omega); have hrq := hqr.symm; have HS5 := Aside0.mk hS5; have HB5 := Aside0.mk hb5; have HR5 := Aside0.mk hr5; have HSZ5 := Aside0.mk (show w3.heap.size ≤ w5.heap.size from Nat.le_trans hb34.size hk5.1); clear hb34 hq4 hS4 hb4 hc hS5 hb5 hk5 hbk hq5 hr5 hw4))
 have h1 := HS.out
 have h2 := HB3.out.size
 have hS := HS5.out
 change Kd.S mChg 145 w5 W1.heap.size (okV W1.heap.size w3.heap.size) (.slice A' (trimL l n).length c5) (trimL l n) at hS
 have k1 := keepK w5 w3.heap.size 1 (.slice A' (trimL l n).length c5)
 have k2 := keepK (w5.setCell ⟨w3.heap.size, 1, none⟩ (.slice A' (trimL l n).length c5)) (W.heap.size + 2) 0 (.int .i64 next)
 have k3 := keepK ((w5.setCell ⟨w3.heap.size, 1, none⟩ (.slice A' (trimL l n).length c5)).setCell ⟨W.heap.size + 2, 0, none⟩ (.int .i64 next)) (W.heap.size + 2) 1 (.slice A' (trimL l n).length c5)
 have g0 := blk_put (blk_put (blk_kept HR5.out k1 hqr) 0 (.int .i64 next) rfl) 1 (.slice A' (trimL l n).length c5) rfl
 refine bodyPost_ret (results_cell_row rfl _ _ (W.heap.size + 2) 67 #[.int .i64 next, .slice A' (trimL l n).length c5] (0, 0) _ rfl g0 Tryz.underlying67 rfl (by kernel_rfl)) rfl ?_
 have h5 := HB5.out.size
 refine ⟨A', c5, rfl, Kd.S_mono (Kd.S_lower (Kd.S_kept (Kd.S_kept (Kd.S_kept hS k1 ?_) k2 ?_) k3 ?_) (by omega)) ?_, (((below_step HB.out HB5.out).setCell (show W.heap.size ≤ w3.heap.size by omega) _).setCell (show W.heap.size ≤ W.heap.size + 2 by omega) _).setCell (show W.heap.size ≤ W.heap.size + 2 by omega) _⟩
 · intro k hk h; have := hk.2; omega
 · intro k hk h; have := hk.1; omega
 · intro k hk h; have := hk.1; omega
 · intro k hk
   have h6 := hk.1
   have h7 := hk.2
   refine ⟨by omega, ?_⟩
   simp only [World.setCell, Array.size_modify]
   exact Nat.lt_of_lt_of_le h7 HSZ5.out
end Go.Proofs.YtmkpgddfoaglpaaGreatDoor.PG
