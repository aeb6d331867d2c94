/-
 The program's view of an entry, walked: the entry again, with the attributes that may be read. Conditions: valid rules, a valid DN, the lengths' bounds.
-/
import Derived.Test.YtmkpgddfoaglpaaGreatDoorVIAllowS
import Derived.Test.YtmkpgddfoaglpaaGreatDoorVIDelAttr
import Derived.Test.YtmkpgddfoaglpaaGreatDoorVIFits
import Derived.Test.YtmkpgddfoaglpaaGreatDoorVIMarkRdnC
import Derived.Test.YtmkpgddfoaglpaaGreatDoorVIP5
import Derived.Test.YtmkpgddfoaglpaaGreatDoorVIP3
namespace Go.Proofs.YtmkpgddfoaglpaaGreatDoor.PG
open Go.RowKit Go.Proofs.YtmkpgddfoaglpaaGreatDoorW.PrintWords Go.Proofs.YtmkpgddfoaglpaaGreatDoorW.PrintLast Go.Proofs.YtmkpgddfoaglpaaGreatDoorW.PrintMore Go.Proofs.YtmkpgddfoaglpaaGreatDoor.Gn Go.Proofs.YtmkpgddfoaglpaaGreatDoor.Sem
attribute [local go_sem] max2_int min2_int max_two min_two max_three min_three max_four min_four
set_option linter.unusedVariables false
set_option linter.unusedSimpArgs false
theorem copied_v (x : List S151) (y : List S201) (h : okEnt x y) (A : Option Addr) (c : Nat) (B : Option Addr) (b : Nat) (W : World) (hC : Kd.C k151 W A x.length x) (hc : x.length ≤ c) (hD : Kd.C k201 W B y.length y) (hd : y.length ≤ b) :
   Calls Tryz.prog 172 #[.agg #[.slice A x.length c, .slice B y.length b]] W (RetEnt x y W) := by
 obtain ⟨k, hk⟩ := ev_at (copied_ev x y h)
 refine (impl_Entry_copied.calls k A c x B b y _ _ W hC hc hD hd hk).mono ?_
 rintro e w' ⟨v, u, rfl, hR, hS, hb⟩
 obtain ⟨A', c', rfl⟩ := Kd.R_slice hR
 obtain ⟨B', b', rfl⟩ := Kd.S_slice hS
 exact ⟨A', c', B', b', rfl, hR, hS, hb⟩
theorem delS_Attr (g : Nat) (lb : Array Value) (p : S201 → Bool) (base : Nat) (w0 : World) (ok : Nat → Prop)
   (hcall : ∀ (W : World) (x : S201) (cs : List Value), Below base w0 W → Kd.K k201 W x cs → Calls Tryz.prog g (#[.agg cs.toArray] ++ lb) W fun e w' => e = .returned (.bool (p x)) ∧ Below W.heap.size W w')
   (eg : ∀ args w, (callFunc g args).run Tryz.prog w = .ok (.enter g args) w)
   (A : Option Addr) (c : Nat) (l : List S201) (w : World) (hS : Kd.S k201 201 w base ok (.slice A l.length c) l) (hb0 : Below base w0 w) (hbs : base ≤ w.heap.size) :
   Calls Tryz.prog 173 #[.slice A l.length c, .func (.func g) #[] lb] w fun e w' => ∃ c', e = .returned (.slice A (l.filter fun x => !p x).length c') ∧ Kd.S k201 201 w' base ok (.slice A (l.filter fun x => !p x).length c') (l.filter fun x => !p x) ∧ Below base w0 w' ∧ Kept w w' (fun k => ∃ ad, A = some ad ∧ ad.block = k) := by
 obtain ⟨f, h⟩ := hS
 have h2 := delf_Attr (Kd.tag f k201) rfl (z201, 0) g lb (fun q => p q.1) base w0 ok (fun W q cs hb hK => hcall W q.1 cs hb hK) eg A c l.zipIdx w (by rw [List.length_zipIdx]; exact h) hb0 hbs
 rw [List.length_zipIdx] at h2
 obtain ⟨e1, e2⟩ := zip_filter (fun x => !p x) l
 refine h2.mono ?_
 rintro e w' ⟨c', rfl, hR, hb, hk⟩
 have hlen : (l.zipIdx.filter fun q => !p q.1).length = (l.filter fun x => !p x).length := by rw [← e1, List.length_map]
 have hs := S_relabel hR e2
 rw [e1, hlen] at hs
 exact ⟨c', by rw [hlen], hs, hb, hk⟩
theorem enters_174 : ∀ args w, (callFunc 174 args).run Tryz.prog w = .ok (.enter 174 args) w := enters_of Tryz.func174 (by kernel_rfl) rfl
set_option maxHeartbeats 4000000 in
set_option maxRecDepth 100000 in
theorem view_clo (b0 b1 b2 : Nat) (l : List S108) (hl : ∀ x, x ∈ l → ruleB x = true) (who : ByteArray) (dn : List S151) (hdn : dnB dn = true) (A0 : Option Addr) (c0 : Nat) (hc0 : l.length ≤ c0) (A : Option Addr) (c : Nat) (hc : dn.length ≤ c) (x : S201) (cs : List Value) (W : World) (hK : Kd.K k201 W x cs)
   (h0 : W.cell? ⟨b0, 0, none⟩ = some (.slice A0 l.length c0)) (h1 : W.cell? ⟨b1, 0, none⟩ = some (.string who)) (h2 : W.cell? ⟨b2, 0, none⟩ = some (.slice A dn.length c)) (hr : Kd.C k108 W A0 l.length l) (hD : Kd.C k151 W A dn.length dn) :
   Calls Tryz.prog 174 #[.agg cs.toArray, .pointer (some ⟨b0, 0, none⟩), .pointer (some ⟨b1, 0, none⟩), .pointer (some ⟨b2, 0, none⟩)] W fun e w' => e = .returned (.bool (!allowB l who dn x.f0 1)) ∧ Below W.heap.size W w' := by
 obtain ⟨A1, c1, rfl, l1, g1⟩ := k201_open hK
 have HU := Aside0.mk (fun (V : World) (hb : Below W.heap.size W V) => allowed_c l hl who x.f0 1 dn hdn A0 c0 A c V (Kd.C_below hr hb) hc0 (Kd.C_below hD hb) hc)
 generalize allowB l who dn x.f0 1 = u at HU ⊢
 clear hK hr hD hdn hl hc hc0 l1 g1
 obtain ⟨W1, hW1⟩ : ∃ W1, W.alloc (.cells #[.string x.f0, .slice A1 x.f1.length c1] 201) = W1 := ⟨_, rfl⟩
 have hB1 : Below W.heap.size W W1 := by rw [← hW1]; exact below_alloc (Below.refl _ _) _
 have y0 : W1.cell? ⟨W.heap.size, 0, none⟩ = some (.string x.f0) := by rw [← hW1]; simp
 have q0 := pw_cell_below hB1 h0
 have q1 := pw_cell_below hB1 h1
 have q2 := pw_cell_below hB1 h2
 have HB := Aside0.mk hB1
 clear hB1 h0 h1 h2
 go_enter Tryz.func174, Tryz.ntmps174
 go_wp2_with (go_at_call 171; go_loud (have hc := HU.out _ HB.out; refine hc.mono ?_; rintro e w2 ⟨rfl, hb2⟩; have HB2 := Aside0.mk (below_step HB.out hb2); clear hb2))
 go_ret
 exact ⟨rfl, HB2.out⟩
def viewV (l : List S108) (who : ByteArray) (x : List S151) (y : List S201) : List S151 × List S201 × Bool :=
 if allowB l who x ⟨#[]⟩ 1 = true then (x, y.filter (fun a => allowB l who x a.f0 1), true) else ([], [], false)
def RetView (r : List S151 × List S201 × Bool) (W : World) (e : Ending) (w' : World) : Prop :=
 ∃ v0_ v1_ : Value, e = .returned (.tuple #[.agg #[v0_, v1_], .bool r.2.2]) ∧ Kd.R k151 151 w' W.heap.size (fun _ => True) v0_ r.1 ∧ Kd.S k201 201 w' W.heap.size (fun _ => True) v1_ r.2.1 ∧ Below W.heap.size W w'
theorem keepc (W : World) (g o : Nat) (v : Value) : Kept W (W.setCell ⟨g, o, none⟩ v) (fun k => k = g) := ⟨by simp [World.setCell], fun i _ hn => Below.heap_setCell W ⟨g, o, none⟩ v i hn⟩
theorem view_mid {w2 w3 : World} {x : List S151} {y : List S201} {A' B' : Option Addr} {c' b' base : Nat} (hR3 : Kd.R k151 151 w3 w2.heap.size (fun _ => True) (.slice A' x.length c') x) (hS3 : Kd.S k201 201 w3 w2.heap.size (fun _ => True) (.slice B' y.length b') y) (hle : base ≤ w2.heap.size) (o : Obj) :
   Kd.R k151 151 (w3.alloc o) base (fun k => (w2.heap.size ≤ k ∧ k < w3.heap.size) ∧ some k = (Value.slice A' x.length c').ownBlock) (.slice A' x.length c') x ∧
   Kd.S k201 201 (w3.alloc o) base (fun k => (w2.heap.size ≤ k ∧ k < w3.heap.size) ∧ some k ≠ (Value.slice A' x.length c').ownBlock) (.slice B' y.length b') y ∧
   ∀ k, (∃ ad, B' = some ad ∧ ad.block = k) → (w2.heap.size ≤ k ∧ k < w3.heap.size) ∧ some k ≠ (Value.slice A' x.length c').ownBlock := by
 have R1 := Kd.R_mono (Kd.R_bound hR3) (ok' := fun k => w2.heap.size ≤ k ∧ k < w3.heap.size) (fun k hk => ⟨hk.2.1, hk.2.2.1⟩)
 have S1 := Kd.S_mono (Kd.S_bound hS3) (ok' := fun k => w2.heap.size ≤ k ∧ k < w3.heap.size) (fun k hk => ⟨hk.2.1, hk.2.2.1⟩)
 have S2 := Kd.S_apart' S1 (Kd.R_typed hR3) (by decide)
 have R2 := Kd.R_mono (Kd.R_tight2 rfl R1) (ok' := fun k => (w2.heap.size ≤ k ∧ k < w3.heap.size) ∧ some k = (Value.slice A' x.length c').ownBlock) (fun k hk => ⟨hk.2, hk.1⟩)
 have hb := below_alloc (Below.refl w3.heap.size w3) o
 refine ⟨Kd.R_lower (Kd.R_below R2 hb) hle, Kd.S_lower (Kd.S_below S2 hb) hle, ?_⟩
 rintro k ⟨ad, rfl, rfl⟩
 obtain ⟨f, h⟩ := S2
 exact h.1 ad.block rfl
set_option maxHeartbeats 8000000 in
set_option maxRecDepth 100000 in
theorem view_c (l : List S108) (hl : ∀ x, x ∈ l → ruleB x = true) (who : ByteArray) (x : List S151) (hdn : dnB x = true) (y : List S201) (hok : okEnt x y) (A0 : Option Addr) (c0 : Nat) (A : Option Addr) (c : Nat) (B : Option Addr) (b : Nat) (W : World)
   (hr : Kd.C k108 W A0 l.length l) (hc0 : l.length ≤ c0) (hC : Kd.C k151 W A x.length x) (hc : x.length ≤ c) (hD : Kd.C k201 W B y.length y) (hd : y.length ≤ b) :
   Calls Tryz.prog 78 #[.slice A0 l.length c0, .string who, .agg #[.slice A x.length c, .slice B y.length b]] W (RetView (viewV l who x y) W) := by
 have hfl : (y.filter fun a => !(!allowB l who x a.f0 1)) = y.filter fun a => allowB l who x a.f0 1 := by simp
 obtain ⟨W1, hW1⟩ : ∃ W1, (((W.alloc (.cells #[.slice A0 l.length c0] 28)).alloc (.cells #[.string who] 9)).alloc (.cells #[.slice A x.length c, .slice B y.length b] 44)).alloc (.cells #[.slice none 0 0, .slice none 0 0] 44) = W1 := ⟨_, rfl⟩
 have hB1 : Below W.heap.size W W1 := by rw [← hW1]; exact below_alloc (below_alloc (below_alloc (below_alloc (Below.refl _ _) _) _) _) _
 have hs1 : W1.heap.size = W.heap.size + 4 := by rw [← hW1]; simp
 have y0 : W1.heap[W.heap.size]? = some (.cells #[.slice A0 l.length c0] 28 (0, 0)) := by rw [← hW1]; exact blk_alloc (blk_alloc (blk_alloc (blk_new _ _) _) _) _
 have y1 : W1.heap[W.heap.size + 1]? = some (.cells #[.string who] 9 (0, 0)) := by rw [← hW1]; have := blk_new (W.alloc (.cells #[.slice A0 l.length c0] 28)) (.cells #[.string who] 9); rw [World.size_alloc] at this; exact blk_alloc (blk_alloc this _) _
 have y2 : W1.heap[W.heap.size + 2]? = some (.cells #[.slice A x.length c, .slice B y.length b] 44 (0, 0)) := by rw [← hW1]; have := blk_new ((W.alloc (.cells #[.slice A0 l.length c0] 28)).alloc (.cells #[.string who] 9)) (.cells #[.slice A x.length c, .slice B y.length b] 44); rw [World.size_alloc, World.size_alloc] at this; exact blk_alloc this _
 have y3 : W1.heap[W.heap.size + 3]? = some (.cells #[.slice none 0 0, .slice none 0 0] 44 (0, 0)) := by rw [← hW1]; have := blk_new (((W.alloc (.cells #[.slice A0 l.length c0] 28)).alloc (.cells #[.string who] 9)).alloc (.cells #[.slice A x.length c, .slice B y.length b] 44)) (.cells #[.slice none 0 0, .slice none 0 0] 44); rw [World.size_alloc, World.size_alloc, World.size_alloc] at this; exact this
 have c00 : W1.cell? ⟨W.heap.size, 0, none⟩ = some (.slice A0 l.length c0) := (blk_cell y0 0).trans rfl
 have c10 : W1.cell? ⟨W.heap.size + 1, 0, none⟩ = some (.string who) := (blk_cell y1 0).trans rfl
 have c20 : W1.cell? ⟨W.heap.size + 2, 0, none⟩ = some (.slice A x.length c) := (blk_cell y2 0).trans rfl
 have HDELc := Aside0.mk (fun (V : World) (a : S201) (cs : List Value) (hb : Below W1.heap.size W1 V) (hK : Kd.K k201 V a cs) => view_clo W.heap.size (W.heap.size + 1) (W.heap.size + 2) l hl who x hdn A0 c0 hc0 A c hc a cs V hK (pw_cell_below hb c00) (pw_cell_below hb c10) (pw_cell_below hb c20) (Kd.C_below (Kd.C_below hr hB1) hb) (Kd.C_below (Kd.C_below hC hB1) hb))
 have HAL := Aside0.mk (allowed_c l hl who ⟨#[]⟩ 1 x hdn A0 c0 A c W1 (Kd.C_below hr hB1) hc0 (Kd.C_below hC hB1) hc)
 have HCP := Aside0.mk (fun (V : World) (hb : Below W1.heap.size W1 V) => copied_v x y hok A c B b V (Kd.C_below (Kd.C_below hC hB1) hb) hc (Kd.C_below (Kd.C_below hD hB1) hb) hd)
 have HB := Aside0.mk hB1
 have Y2 := Aside0.mk y2
 have Y3 := Aside0.mk y3
 have HS := Aside0.mk hs1
 unfold viewV
 generalize allowB l who x ⟨#[]⟩ 1 = u at HAL ⊢
 clear hr hC hD hdn hl hc hc0 hd hok y0 y1 y2 y3 hB1 hs1
 cases u with
 | false =>
   rw [if_neg (by decide)]
   have c30 : W1.cell? ⟨W.heap.size + 3, 0, none⟩ = some (.slice none 0 0) := (blk_cell Y3.out 0).trans rfl
   go_enter Tryz.func78, Tryz.ntmps78
   go_wp2_with (go_at_call 171; go_loud (have hc := HAL.out; refine hc.mono ?_; rintro e w2 ⟨rfl, hb2⟩; have z0 : w2.cell? ⟨W.heap.size + 3, 0, none⟩ = some (.slice none 0 0) := (blk_cell (blk_below Y3.out hb2) 0).trans rfl; have z1 : w2.cell? ⟨W.heap.size + 3, 1, none⟩ = some (.slice none 0 0) := (blk_cell (blk_below Y3.out hb2) 1).trans rfl; have f0 := blk_frozen (blk_below Y3.out hb2) 0; have f1 := blk_frozen (blk_below Y3.out hb2) 1; have HB2 := Aside0.mk hb2; clear hb2))
   have g0 := blk_put (blk_put (blk_below Y3.out HB2.out) 0 (.slice none 0 0) rfl) 1 (.slice none 0 0) rfl
   refine bodyPost_ret (results_ct rfl _ _ (W.heap.size + 3) 44 #[.slice none 0 0, .slice none 0 0] (0, 0) _ rfl g0 Tryz.underlying44 rfl (by kernel_rfl)) rfl ?_
   exact ⟨_, _, rfl, Kd.R_nil _ _ _ _ _, Kd.S_nil _ _ _ _ _, ((below_step HB.out HB2.out).setCell (by show W.heap.size ≤ W.heap.size + 3; omega) _).setCell (by show W.heap.size ≤ W.heap.size + 3; omega) _⟩
 | true =>
   rw [if_pos rfl]
   have c21 : W1.cell? ⟨W.heap.size + 2, 1, none⟩ = some (.slice B y.length b) := (blk_cell Y2.out 1).trans rfl
   go_enter Tryz.func78, Tryz.ntmps78
   go_wp2_with (first | (go_at_call 171; go_loud (have hc := HAL.out; refine hc.mono ?_; rintro e w2 ⟨rfl, hb2⟩; have z0 : w2.cell? ⟨W.heap.size + 2, 0, none⟩ = some (.slice A x.length c) := (blk_cell (blk_below Y2.out hb2) 0).trans rfl; have z1 : w2.cell? ⟨W.heap.size + 2, 1, none⟩ = some (.slice B y.length b) := (blk_cell (blk_below Y2.out hb2) 1).trans rfl; have HB2 := Aside0.mk hb2; clear hb2)) | (go_at_call 172; go_loud (have hc := HCP.out _ HB2.out; refine hc.mono ?_; rintro e w3 ⟨A', c', B', b', rfl, hR3, hS3, hb3⟩; have HR3 := Aside0.mk hR3; have HS3 := Aside0.mk hS3; have HB3 := Aside0.mk hb3; have HLE := Aside0.mk (hb3.size); clear hR3 hS3 hb3)) | (go_at_call 173; go_loud (obtain ⟨hR4, hS4, hB4⟩ := view_mid HR3.out HS3.out HB2.out.size (.cells #[.slice A' x.length c', .slice B' y.length b'] 44); have hb4 : Below W1.heap.size W1 (w3.alloc (.cells #[.slice A' x.length c', .slice B' y.length b'] 44)) := below_alloc (below_step HB2.out HB3.out) _; have hq4 := blk_new w3 (.cells #[.slice A' x.length c', .slice B' y.length b'] 44); have hc := delS_Attr 174 #[.pointer (some ⟨W.heap.size, 0, none⟩), .pointer (some ⟨W.heap.size + 1, 0, none⟩), .pointer (some ⟨W.heap.size + 2, 0, none⟩)] (fun a => !allowB l who x a.f0 1) W1.heap.size W1 _ (fun V a cs hb hK => HDELc.out V a cs hb hK) enters_174 B' b' y _ hS4 hb4 hb4.size; refine hc.mono ?_; rintro e w5 ⟨c5, rfl, hS5, hb5, hk5⟩; have hk6 := hk5.mono hB4; have hq5 := blk_kept hq4 hk6 (fun h => by have := h.1.2; omega); have hr5 := blk_below Y3.out hb5; have q0 : w5.cell? ⟨w3.heap.size, 0, none⟩ = some (.slice A' x.length c') := (blk_cell hq5 0).trans rfl; have q1 : w5.cell? ⟨w3.heap.size, 1, none⟩ = some (.slice B' y.length b') := (blk_cell hq5 1).trans rfl; have qf := blk_frozen hq5 1; have r0 : w5.cell? ⟨W.heap.size + 3, 0, none⟩ = some (.slice none 0 0) := (blk_cell hr5 0).trans rfl; have r1 : w5.cell? ⟨W.heap.size + 3, 1, none⟩ = some (.slice none 0 0) := (blk_cell hr5 1).trans rfl; have rf0 := blk_frozen hr5 0; have rf1 := blk_frozen hr5 1; have hqr : W.heap.size + 3 ≠ w3.heap.size := by { have h1 := HS.out; have h2 := HB2.out.size; have h3 := HB3.out.size; omega }; have hrq := hqr.symm; have HR5 := Aside0.mk (Kd.R_kept hR4 hk6 (fun k hk h => h.2 hk.2)); have HS5 := Aside0.mk hS5; have HB5 := Aside0.mk hb5; have HQ5 := Aside0.mk hq5; have HR3' := Aside0.mk hr5; clear hR4 hS4 hB4 hb4 hq4 hc hS5 hb5 hk5 hk6 hq5 hr5)))
   have h1 := HS.out
   have h2 := HB2.out.size
   have h3 := HB3.out.size
   have hS := HS5.out
   rw [hfl] at hS
   have k1 := keepc w5 w3.heap.size 1 (.slice B' (y.filter fun (a : S201) => allowB l who x a.f0 1).length c5)
   have k2 := keepc (w5.setCell ⟨w3.heap.size, 1, none⟩ (.slice B' (y.filter fun (a : S201) => allowB l who x a.f0 1).length c5)) (W.heap.size + 3) 0 (.slice A' x.length c')
   have k3 := keepc ((w5.setCell ⟨w3.heap.size, 1, none⟩ (.slice B' (y.filter fun (a : S201) => allowB l who x a.f0 1).length c5)).setCell ⟨W.heap.size + 3, 0, none⟩ (.slice A' x.length c')) (W.heap.size + 3) 1 (.slice B' (y.filter fun (a : S201) => allowB l who x a.f0 1).length c5)
   have g0 := blk_put (blk_put (blk_kept HR3'.out k1 hqr) 0 (.slice A' x.length c') rfl) 1 (.slice B' (y.filter fun (a : S201) => allowB l who x a.f0 1).length c5) rfl
   refine bodyPost_ret (results_ct rfl _ _ (W.heap.size + 3) 44 #[.slice A' x.length c', .slice B' (y.filter fun (a : S201) => allowB l who x a.f0 1).length c5] (0, 0) _ rfl g0 Tryz.underlying44 rfl (by kernel_rfl)) rfl ?_
   refine ⟨_, _, rfl, Kd.R_lower (Kd.R_mono (Kd.R_kept (Kd.R_kept (Kd.R_kept HR5.out k1 ?_) k2 ?_) k3 ?_) (fun _ _ => trivial)) (by omega), Kd.S_lower (Kd.S_mono (Kd.S_kept (Kd.S_kept (Kd.S_kept hS k1 ?_) k2 ?_) k3 ?_) (fun _ _ => trivial)) (by omega), (((below_step HB.out HB5.out).setCell (show W.heap.size ≤ w3.heap.size by omega) _).setCell (show W.heap.size ≤ W.heap.size + 3 by omega) _).setCell (show W.heap.size ≤ W.heap.size + 3 by omega) _⟩
   all_goals (intro k hk h; have := hk.1; omega)
theorem spec_view_l (l : List S108) (hl : ∀ x, x ∈ l → ruleB x = true) (hlen : l.length ≤ 1000000) (who : ByteArray) (x : List S151) (hdn : dnB x = true) (d' : List S151) : ∀ (rs dn acc : List S201), dn.length + rs.length ≤ 100000000 → acc.length ≤ dn.length → (∀ a, a ∈ rs → a.f1.length ≤ 100000000) →
   Ev (fun k => spec_l06View.l0 k l who (dn.length : Int) x (dn ++ rs) d' acc) (d', acc ++ rs.filter (fun a => allowB l who x a.f0 1), true)
 | [], dn, acc, _, _, _ => Ev_one fun k => by simp only [spec_l06View.l0]; rw [if_neg (by simp)]; simp
 | a :: r, dn, acc, hle, hacc, hv => by
   simp only [List.length_cons] at hle
   have hrd : rd_T201 (dn ++ a :: r) (dn.length : Int) = a := rd_midA dn a r
   have ih := spec_view_l l hl hlen who x hdn d' r (dn ++ [a])
   have e0 : wrap64 ((dn.length : Int) + 1) = (((dn ++ [a]).length : Nat) : Int) := by rw [wsucc (by omega) (by omega)]; simp
   rw [show dn ++ a :: r = (dn ++ [a]) ++ r by simp] at hrd ⊢
   have hlt : (dn.length : Int) < (((dn ++ [a]) ++ r).length : Int) := by simp only [List.length_append, List.length_cons, List.length_nil]; omega
   refine Ev.step (fun k => by simp only [spec_l06View.l0]; rw [if_pos hlt, if_pos (by omega), hrd, e0]) ?_
   refine Ev_bind (spec_allow l hl hlen who a.f0 1 x hdn) ?_
   have hlen2 : (dn ++ [a]).length + r.length ≤ 100000000 := by simp only [List.length_append, List.length_cons, List.length_nil]; omega
   cases hq : allowB l who x a.f0 1 with
   | false =>
     refine Ev.congr (fun k => if_neg (by decide)) ?_
     rw [List.filter_cons_of_neg (by rw [hq]; decide)]
     exact ih acc hlen2 (by simp only [List.length_append, List.length_cons, List.length_nil]; omega) (fun b hb => hv b (List.mem_cons_of_mem _ hb))
   | true =>
     have h1 := hv a (List.mem_cons_self ..)
     rw [List.filter_cons_of_pos (by rw [hq])]
     refine Ev.congr (fun k => if_pos rfl) (Ev_bind (a := ([] : List ByteArray)) (Ev_some fun k => rfl) ?_)
     refine Ev.congr (fun k => if_pos (by rw [List.length_nil]; omega)) (Ev.congr (fun k => if_pos (by omega)) ?_)
     have := ih (acc ++ [a]) hlen2 (by simp only [List.length_append, List.length_cons, List.length_nil]; omega) (fun b hb => hv b (List.mem_cons_of_mem _ hb))
     rw [show acc ++ a :: r.filter (fun b => allowB l who x b.f0 1) = (acc ++ [a]) ++ r.filter (fun b => allowB l who x b.f0 1) by simp]
     exact this
theorem spec_view (l : List S108) (hl : ∀ x, x ∈ l → ruleB x = true) (hlen : l.length ≤ 1000000) (who : ByteArray) (x : List S151) (hdn : dnB x = true) (y : List S201) (hok : okEnt x y) :
   Ev (fun k => spec_l06View.f k l who x y) (viewV l who x y) := by
 unfold spec_l06View.f viewV
 refine Ev_bind (spec_allow l hl hlen who ⟨#[]⟩ 1 x hdn) ?_
 cases allowB l who x ⟨#[]⟩ 1 with
 | false => exact Ev_some fun k => rfl
 | true =>
   refine Ev.congr (fun k => if_pos rfl) (Ev_bind (a := ([] : List S151)) (Ev_some fun k => rfl) ?_)
   refine Ev.congr (fun k => if_pos (by have := hok.1; rw [List.length_nil]; omega)) ?_
   have := spec_view_l l hl hlen who x hdn x y [] [] (by have := hok.2.1; simpa using this) (Nat.le_refl _) hok.2.2
   simpa using this
def viewOk (l : List S108) (x : List S151) (y : List S201) : Bool := aclB l && (dnB x && (decide (y.length ≤ 100000000) && y.all fun a => decide (a.f1.length ≤ 100000000)))
theorem viewOk_ok {l : List S108} {x : List S151} {y : List S201} (h : viewOk l x y = true) : (∀ r, r ∈ l → ruleB r = true) ∧ l.length ≤ 10 ∧ dnB x = true ∧ okEnt x y := by
 unfold viewOk aclB at h
 simp only [Bool.and_eq_true, decide_eq_true_eq, List.all_eq_true] at h
 exact ⟨h.1.2, h.1.1, h.2.1, by have := dn_len h.2.1; omega, h.2.2.1, h.2.2.2⟩
def impl_view.f (l0 : List S108) (a1 : ByteArray) (l2_0 : List S151) (l2_1 : List S201) : Option (List S151 × List S201 × Bool) := if viewOk l0 l2_0 l2_1 = true then some (viewV l0 a1 l2_0 l2_1) else none
theorem impl_view.calls (A0 : Option Addr) (c0 : Nat) (l0 : List S108) (a1 : ByteArray) (A2_0 : Option Addr) (c2_0 : Nat) (l2_0 : List S151) (A2_1 : Option Addr) (c2_1 : Nat) (l2_1 : List S201) (r1 : List S151) (r2 : List S201) (r3 : Bool) (w : World) (hr0 : Kd.C k108 w A0 l0.length l0) (hc0 : l0.length ≤ c0) (hr2_0 : Kd.C k151 w A2_0 l2_0.length l2_0) (hc2_0 : l2_0.length ≤ c2_0) (hr2_1 : Kd.C k201 w A2_1 l2_1.length l2_1) (hc2_1 : l2_1.length ≤ c2_1) (h : impl_view.f l0 a1 l2_0 l2_1 = some (r1, r2, r3)) :
   Calls Tryz.prog 78 #[.slice A0 l0.length c0, .string a1, .agg #[.slice A2_0 l2_0.length c2_0, .slice A2_1 l2_1.length c2_1]] w fun e w' => ∃ v0_ v1_ : Value, e = .returned (.tuple #[.agg #[v0_, v1_], .bool r3]) ∧ Kd.R k151 151 w' w.heap.size (fun _ => True) v0_ r1 ∧ Kd.S k201 201 w' w.heap.size (fun _ => True) v1_ r2 ∧ Below w.heap.size w w' := by
 unfold impl_view.f at h
 split at h
 · rename_i hk
   obtain ⟨h1, _, h3, h4⟩ := viewOk_ok hk
   have e := Option.some.inj h
   have := view_c l0 h1 a1 l2_0 h3 l2_1 h4 A0 c0 A2_0 c2_0 A2_1 c2_1 w hr0 hc0 hr2_0 hc2_0 hr2_1 hc2_1
   rw [e] at this
   exact this
 · cases h
end Go.Proofs.YtmkpgddfoaglpaaGreatDoor.PG
