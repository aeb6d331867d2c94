/-
 slices.IndexFunc and slices.DeleteFunc on []Change, for whatever test (hcall) and whatever kind of 5 cells. Conditions: what is asked of the function value.
-/
import Derived.Shelf.Abstract
import Derived.Outline
import Derived.Test.YtmkpgddfoaglpaaGreatDoorCTRowOps
set_option maxHeartbeats 8000000
set_option maxRecDepth 100000
set_option linter.unusedVariables false
set_option linter.unusedSimpArgs false
namespace Go.Proofs.YtmkpgddfoaglpaaGreatDoor.PG
open Go.RowKit Go.Proofs.YtmkpgddfoaglpaaGreatDoorW.PrintWords Go.Proofs.YtmkpgddfoaglpaaGreatDoorW.PrintLast Go.Proofs.YtmkpgddfoaglpaaGreatDoorW.PrintMore Go.Proofs.YtmkpgddfoaglpaaGreatDoor.Gn
attribute [local go_sem] max2_int min2_int max_two min_two max_three min_three max_four min_four run_store_v
theorem idxf_Change {α : Type} (d : Kd α) (hsz : d.sz = 5) (z : α) (g : Nat) (lb : Array Value) (p : α → Bool) (base : Nat) (w0 : World)
   (hcall : ∀ (W : World) (x : α) (cs : List Value), Below base w0 W → d.K W x cs → Calls Tryz.prog g (#[.agg cs.toArray] ++ lb) W fun e w' => e = .returned (.bool (p x)) ∧ Below W.heap.size W w')
   (eg : ∀ args w, (callFunc g args).run Tryz.prog w = .ok (.enter g args) w)
   (A : Option Addr) (c : Nat) (l : List α) (w : World) (hr : d.C w A l.length l) (hb0 : Below base w0 w) (hbs : base ≤ w.heap.size) :
   Calls Tryz.prog 280 #[.slice A l.length c, .func (.func g) #[] lb] w fun e w' => e = .returned (.int .i64 (idx p l)) ∧ Below w.heap.size w w' := by
 have hmx := Kd.C_max hr
 have HR := Aside0.mk hr
 have HB0 := Aside0.mk hb0
 have HBS := Aside0.mk hbs
 have HSZ := Aside0.mk hsz
 have HCALL := Aside0.mk hcall
 clear hr hb0 hbs hsz hcall
 go_enter Tryz.func280, Tryz.ntmps280
 go_wp2
 go_loopw [8] (fun i wr => ∃ k : Nat, k ≤ l.length ∧ i = .int .i64 k ∧ Aside0 (∀ j (hj : j < l.length), j < k → p (l[j]'hj) = false) ∧ Aside0 (Below w.heap.size w wr)) (fun i _ => l.length - (intOf i).toNat)
 case atStart => exact ⟨0, Nat.zero_le _, rfl, ⟨fun j hj h => absurd h (Nat.not_lt_zero _)⟩, ⟨Below.refl _ _⟩⟩
 case round =>
   obtain ⟨k, hk, rfl, HP, HB⟩ := hrel
   by_cases hlt : k < l.length
   · obtain ⟨ad, cs, hA, hcl, hK, hcc⟩ := Kd.C_get (Kd.C_below HR.out HB.out) z (k : Int) (by omega) (by omega)
     rw [Int.toNat_natCast, getD_at hlt] at hK
     rw [HSZ.out] at hcl hcc
     obtain ⟨x, hx⟩ : ∃ x, l[k]'hlt = x := ⟨_, rfl⟩
     have HX := Aside0.mk hx
     rw [hx] at hK
     have hcall := HCALL.out wr x cs (HB0.out.trans (HB.out.mono HBS.out)) hK
     obtain ⟨c0_, c1_, c2_, c3_, c4_, rfl⟩ : ∃ c0_ c1_ c2_ c3_ c4_, cs = [c0_, c1_, c2_, c3_, c4_] := by match cs, hcl with | [c0_, c1_, c2_, c3_, c4_], _ => exact ⟨_, _, _, _, _, rfl⟩
     subst hA
     have hc0 : ∀ j u, ([c0_, c1_, c2_, c3_, c4_] : List Value)[j]? = some u → wr.cell? (ad.add (k * 5 + j)) = some u := by
       intro j u hu
       have := hcc j u hu
       rwa [Int.toNat_natCast] at this
     have f0 : wr.cell? (ad.add (k * 5)) = some c0_ := hc0 0 _ rfl
     have f1 : wr.cell? ⟨(ad.add (k * 5)).block, (ad.add (k * 5)).off + 1, none⟩ = some c1_ := by rw [← add_field _ _ 1 (by omega)]; exact hc0 1 _ rfl
     have f2 : wr.cell? ⟨(ad.add (k * 5)).block, (ad.add (k * 5)).off + 2, none⟩ = some c2_ := by rw [← add_field _ _ 2 (by omega)]; exact hc0 2 _ rfl
     have f3 : wr.cell? ⟨(ad.add (k * 5)).block, (ad.add (k * 5)).off + 3, none⟩ = some c3_ := by rw [← add_field _ _ 3 (by omega)]; exact hc0 3 _ rfl
     have f4 : wr.cell? ⟨(ad.add (k * 5)).block, (ad.add (k * 5)).off + 4, none⟩ = some c4_ := by rw [← add_field _ _ 4 (by omega)]; exact hc0 4 _ rfl
     clear hc0 hcc hcl hK hx
     cases hq : p x with
     | true =>
       rw [hq] at hcall
       have HQ := Aside0.mk hq
       clear hq
       go_wp2_with (go_at_fn g; refine hcall.mono ?_; rintro e w' ⟨rfl, hb'⟩)
       go_ret
       exact ⟨by rw [idx_hit hlt (by rw [HX.out]; exact HQ.out) HP.out]; rfl, below_then HB.out HB.out.size hb'⟩
     | false =>
       rw [hq] at hcall
       have HQ := Aside0.mk hq
       clear hq
       go_wp2_with (go_at_fn g; refine hcall.mono ?_; rintro e w' ⟨rfl, hb'⟩)
       go_roundw
       case rel => exact ⟨k + 1, by omega, by go_num, ⟨fun j hj hjk => by
         rcases Nat.lt_succ_iff_lt_or_eq.1 hjk with h | rfl
         · exact HP.out j hj h
         · rw [HX.out]; exact HQ.out⟩, ⟨below_then HB.out HB.out.size hb'⟩⟩
       case measure => simp [intOf]; omega
   · obtain rfl : k = l.length := by omega
     go_wp2
     go_ret
     exact ⟨by rw [idx_none HP.out]; rfl, HB.out⟩
def RetDel_Change {α : Type} (d : Kd α) (base : Nat) (ok : Nat → Prop) (A : Option Addr) (w0 w : World) (l : List α) (e : Ending) (w' : World) : Prop :=
 ∃ c, e = .returned (.slice A l.length c) ∧ d.R 145 w' base ok (.slice A l.length c) l ∧ Below base w0 w' ∧ Kept w w' (fun k => ∃ ad, A = some ad ∧ ad.block = k)
theorem delf_Change {α : Type} (d : Kd α) (hsz : d.sz = 5) (z : α) (g : Nat) (lb : Array Value) (p : α → Bool) (base : Nat) (w0 : World) (ok : Nat → Prop)
   (hcall : ∀ (W : World) (x : α) (cs : List Value), Below base w0 W → d.K W x cs → Calls Tryz.prog g (#[.agg cs.toArray] ++ lb) W fun e w' => e = .returned (.bool (p x)) ∧ Below W.heap.size W w')
   (eg : ∀ args w, (callFunc g args).run Tryz.prog w = .ok (.enter g args) w)
   (A : Option Addr) (c : Nat) (l : List α) (w : World) (hR : d.R 145 w base ok (.slice A l.length c) l) (hb0 : Below base w0 w) (hbs : base ≤ w.heap.size) :
   Calls Tryz.prog 211 #[.slice A l.length c, .func (.func g) #[] lb] w (RetDel_Change d base ok A w0 w (l.filter fun x => !p x)) := by
 obtain ⟨_, hlc, hC⟩ := Kd.R_reads' hR
 have hmx := Kd.C_max hC
 have hidx := idxf_Change d hsz z g lb p base w0 hcall eg A c l w hC hb0 hbs
 rcases idx_cases p l with ⟨hi, hno⟩ | ⟨k, hk, hi, hpk, hbef⟩
 · rw [hi] at hidx
   have hfl : (l.filter fun x => !p x) = l := by rw [List.filter_eq_self]; intro x hx; simp [hno x hx]
   rw [hfl]
   have HR := Aside0.mk hR
   have HB0 := Aside0.mk hb0
   have HBS := Aside0.mk hbs
   clear hR hb0 hbs hsz hcall hfl hno hi hC
   go_enter Tryz.func211, Tryz.ntmps211
   go_wp2_with (go_at_call 280; refine hidx.mono ?_; rintro e w1 ⟨rfl, hb1⟩)
   go_ret
   exact ⟨c, rfl, Kd.R_below HR.out hb1, HB0.out.trans (hb1.mono HBS.out), Kept.of_below hb1 _⟩
 · obtain ⟨ad, hA⟩ : ∃ ad, A = some ad := by
     obtain ⟨ad, _, h1, _⟩ := Kd.C_get hC z (k : Int) (by omega) (by omega)
     exact ⟨ad, h1⟩
   subst hA
   obtain ⟨g0, rfl⟩ := Kd.R_head hR
   have hbg : base ≤ g0 := Kd.R_base hR g0 rfl
   rw [hi] at hidx
   have hk1 : ((k : Int) == -1) = false := by rw [beq_eq_false_iff_ne]; omega
   have HB0 := Aside0.mk hb0
   have HBS := Aside0.mk hbs
   have HSZ := Aside0.mk hsz
   have HCALL := Aside0.mk hcall
   have HBG := Aside0.mk hbg
   have HP0 := Aside0.mk (And.intro hpk hbef)
   obtain ⟨n, hn⟩ : ∃ n, l.length = n := ⟨_, rfl⟩
   rw [hn] at hidx hlc hmx hk hR ⊢
   have HR := Aside0.mk hR
   have HN := Aside0.mk hn
   clear hR hb0 hbs hsz hcall hbg hi hC hpk hbef hn
   go_enter Tryz.func211, Tryz.ntmps211
   go_wp2_with (go_at_call 280; refine hidx.mono ?_; rintro e w1 ⟨rfl, hb1⟩)
   have HB1 := Aside0.mk hb1
   clear hb1
   go_loopw [5, 6] (fun s5 s6 wr => ∃ (a b : Nat) (xs : List α), a < b ∧ b ≤ n ∧ s5 = .int .i64 a ∧ s6 = .int .i64 b ∧ Aside0 (DelInv p l xs a b n) ∧ Aside0 (d.R 145 wr base ok (.slice (some ⟨g0, 0, none⟩) n c) xs) ∧ Aside0 (Below base w0 wr) ∧ Aside0 (Kept w wr (fun k => k = g0)) ∧ Aside0 (base ≤ wr.heap.size)) (fun _ s6 _ => n - (intOf s6).toNat)
   case atStart => exact ⟨k, k + 1, l, by omega, by omega, rfl, by go_num, ⟨by have h_ := DelInv.start (p := p) (l := l) (k := k) (by rw [HN.out]; exact hk) HP0.out.1 HP0.out.2; rwa [HN.out] at h_⟩, ⟨Kd.R_below HR.out HB1.out⟩, ⟨HB0.out.trans (HB1.out.mono HBS.out)⟩, ⟨Kept.of_below HB1.out _⟩, ⟨Nat.le_trans HBS.out HB1.out.size⟩⟩
   case round =>
     obtain ⟨a, b, xs, hab, hbn, rfl, rfl, HX, HRr, HBr, HKr, HSr⟩ := hrel
     by_cases hlt : b < n
     · obtain ⟨cs, hcl, hM, hcc, hfz⟩ := Kd.R_elem HRr.out z (b : Int) (by omega) (by omega)
       rw [Int.toNat_natCast] at hM hcc
       rw [HSZ.out] at hcl hcc
       have hK := d.K_of_M hM
       obtain ⟨x, hx⟩ : ∃ x, xs.getD b z = x := ⟨_, rfl⟩
       rw [hx] at hM hK
       have HXX := Aside0.mk hx
       obtain ⟨wb, hwb⟩ : ∃ wb, wr.alloc (.cells cs.toArray 145) = wb := ⟨_, rfl⟩
       have hbb : Below wr.heap.size wr wb := by rw [← hwb]; exact below_alloc (Below.refl _ _) _
       have hcall := HCALL.out wb x cs (HBr.out.trans (hbb.mono HSr.out)) (d.K_below hbb hK)
       obtain ⟨c0_, c1_, c2_, c3_, c4_, rfl⟩ : ∃ c0_ c1_ c2_ c3_ c4_, cs = [c0_, c1_, c2_, c3_, c4_] := by match cs, hcl with | [c0_, c1_, c2_, c3_, c4_], _ => exact ⟨_, _, _, _, _, rfl⟩
       have hnb : wb.heap[wr.heap.size]? = some (.cells #[c0_, c1_, c2_, c3_, c4_] 145 (0, 0)) := by rw [← hwb]; exact heap_alloc_new wr _
       have HNB := Aside0.mk hnb
       have HBB := Aside0.mk hbb
       have hwb' : wr.alloc (.cells #[c0_, c1_, c2_, c3_, c4_] 145) = wb := hwb
       have HM := Aside0.mk hM
       have hc0 : ∀ j u, ([c0_, c1_, c2_, c3_, c4_] : List Value)[j]? = some u → wr.cell? ⟨g0, b * 5 + j, none⟩ = some u := hcc
       have f0 : wr.cell? ⟨g0, b * 5, none⟩ = some c0_ := hc0 0 _ rfl
       have f1 : wr.cell? ⟨g0, b * 5 + 1, none⟩ = some c1_ := hc0 1 _ rfl
       have f2 : wr.cell? ⟨g0, b * 5 + 2, none⟩ = some c2_ := hc0 2 _ rfl
       have f3 : wr.cell? ⟨g0, b * 5 + 3, none⟩ = some c3_ := hc0 3 _ rfl
       have f4 : wr.cell? ⟨g0, b * 5 + 4, none⟩ = some c4_ := hc0 4 _ rfl
       have o0 := d.K_one hK c0_ (by simp)
       have o1 := d.K_one hK c1_ (by simp)
       have o2 := d.K_one hK c2_ (by simp)
       have o3 := d.K_one hK c3_ (by simp)
       have o4 := d.K_one hK c4_ (by simp)
       have b0 := blk_cell hnb 0
       have b1 := blk_cell hnb 1
       have b2 := blk_cell hnb 2
       have b3 := blk_cell hnb 3
       have b4 := blk_cell hnb 4
       clear hc0 hcc hcl hK hM hx hfz hwb hbb hnb
       cases hq : p x with
       | true =>
         rw [hq] at hcall
         have HQ := Aside0.mk hq
         clear hq
         go_wp2_with (go_at_fn g; refine hcall.mono ?_; rintro e w4 ⟨rfl, hb4⟩)
         go_roundw
         case rel => exact ⟨a, b + 1, xs, by omega, by omega, rfl, by go_num, ⟨HX.out.skip HN.out hlt z (by rw [HXX.out]; exact HQ.out)⟩, ⟨Kd.R_below HRr.out (below_step HBB.out hb4)⟩, ⟨HBr.out.trans ((below_step HBB.out hb4).mono HSr.out)⟩, ⟨HKr.out.below (below_step HBB.out hb4)⟩, ⟨Nat.le_trans HSr.out (below_step HBB.out hb4).size⟩⟩
         case measure => simp [intOf]; omega
       | false =>
         rw [hq] at hcall
         have HQ := Aside0.mk hq
         clear hq
         go_wp2_with (go_at_fn g; refine hcall.mono ?_; rintro e w4 ⟨rfl, hb4⟩; have HB4 := Aside0.mk (below_step HBB.out hb4); have HR4 := Aside0.mk (Kd.R_below HRr.out HB4.out); have HN4 := Aside0.mk (blk_below HNB.out hb4); obtain ⟨ct, hct1, hct2, hct3, hct4⟩ := Kd.R_elem HR4.out z (a : Int) (by omega) (by omega); rw [HSZ.out, Int.toNat_natCast] at hct3 hct4; rw [HSZ.out] at hct1; obtain ⟨e0_, e1_, e2_, e3_, e4_, rfl⟩ : ∃ e0_ e1_ e2_ e3_ e4_, ct = [e0_, e1_, e2_, e3_, e4_] := (by match ct, hct1 with | [e0_, e1_, e2_, e3_, e4_], _ => exact ⟨_, _, _, _, _, rfl⟩); have HCT := Aside0.mk hct3; have t0 : w4.cell? ⟨g0, a * 5, none⟩ = some e0_ := HCT.out 0 _ rfl; have y0 : w4.frozen? ⟨g0, a * 5, none⟩ = false := hct4 0; have t1 : w4.cell? ⟨g0, a * 5 + 1, none⟩ = some e1_ := HCT.out 1 _ rfl; have y1 : w4.frozen? ⟨g0, a * 5 + 1, none⟩ = false := hct4 1; have t2 : w4.cell? ⟨g0, a * 5 + 2, none⟩ = some e2_ := HCT.out 2 _ rfl; have y2 : w4.frozen? ⟨g0, a * 5 + 2, none⟩ = false := hct4 2; have t3 : w4.cell? ⟨g0, a * 5 + 3, none⟩ = some e3_ := HCT.out 3 _ rfl; have y3 : w4.frozen? ⟨g0, a * 5 + 3, none⟩ = false := hct4 3; have t4 : w4.cell? ⟨g0, a * 5 + 4, none⟩ = some e4_ := HCT.out 4 _ rfl; have y4 : w4.frozen? ⟨g0, a * 5 + 4, none⟩ = false := hct4 4; have b0 := blk_cell HN4.out 0; have b1 := blk_cell HN4.out 1; have b2 := blk_cell HN4.out 2; have b3 := blk_cell HN4.out 3; have b4 := blk_cell HN4.out 4; clear hct1 hct2 hct3 hct4 hb4)
         go_roundw
         case rel =>
           have hM4 : d.M w4 base (fun k => ok k ∧ k ≠ g0) x [c0_, c1_, c2_, c3_, c4_] := Kd.M_below HM.out HB4.out
           have hcc4 : ∀ j u, ([e0_, e1_, e2_, e3_, e4_] : List Value)[j]? = some u → w4.cell? ⟨g0, ((a : Int)).toNat * d.sz + j, none⟩ = some u := by rw [HSZ.out, Int.toNat_natCast]; exact HCT.out
           have hseg := (Kd.R_seg (d := d) HR4.out (a : Int) (by omega) (by omega) (c := [e0_, e1_, e2_, e3_, e4_]) (seg := [c0_, c1_, c2_, c3_, c4_]) (j := 0) (x' := x) (okp := fun k => ok k ∧ k ≠ g0) (by rw [HSZ.out]; rfl) hcc4 (by rw [HSZ.out]; exact Nat.le_refl _) hM4 (fun _ h => h)).1
           rw [HSZ.out, Int.toNat_natCast] at hseg
           have hpn : p (xs.getD b z) = false := by rw [HXX.out]; exact HQ.out
           have hinv := HX.out.put HN.out hlt hab z hpn
           rw [HXX.out] at hinv
           have hb5 : Below base w4 (w4.setCells g0 (a * 5) [c0_, c1_, c2_, c3_, c4_]) := setCells_below w4 g0 _ _ HBG.out
           exact ⟨a + 1, b + 1, xs.set a x, by omega, by omega, by go_num, by go_num, ⟨hinv⟩, ⟨hseg⟩, ⟨(HBr.out.trans (HB4.out.mono HSr.out)).trans hb5⟩, ⟨(HKr.out.below HB4.out).then_ (setCells_kept w4 g0 (a * 5) [c0_, c1_, c2_, c3_, c4_]) (fun k hk => .inl hk)⟩, ⟨Nat.le_trans HSr.out (Nat.le_trans HB4.out.size hb5.size)⟩⟩
         case measure => simp [intOf]; omega
     · obtain rfl : b = n := by omega
       have hac : (a : Int) ≤ (b : Int) := by omega
       have hac1 : (a : Int) < (b : Int) := by omega
       have hc2 : (b : Int) ≤ (c : Int) := by omega
       have hc3 : ¬ a = c := by omega
       have hvs : (Builtin.zeroCells ((.agg #[(.int .i64 0), (.int .i64 0), (.string ⟨#[]⟩), (.slice none 0 0), (.slice none 0 0)]) : Value).cells (b - a)).toList.length = (b - a) * 5 := zero_len _ _
       obtain ⟨vs, hvse⟩ : ∃ vs, (Builtin.zeroCells ((.agg #[(.int .i64 0), (.int .i64 0), (.string ⟨#[]⟩), (.slice none 0 0), (.slice none 0 0)]) : Value).cells (b - a)).toList = vs := ⟨_, rfl⟩
       have hclr := run_clear (P := Tryz.prog) wr 65 145 0 ((.agg #[(.int .i64 0), (.int .i64 0), (.string ⟨#[]⟩), (.slice none 0 0), (.slice none 0 0)])) Tryz.underlying65 (fun w => by kernel_rfl) (by simp [Value.cells, Value.oneCell']) g0 (a * 5) (b - a) (c - a) (by omega) (fun j hj => by have h_ := (R_cells HRr.out (a * 5 + j) (by rw [HSZ.out]; have h2_ : j < (b - a) * 5 := hj; omega)).1; exact h_) (fun j hj => by have h_ := (R_cells HRr.out (a * 5 + j) (by rw [HSZ.out]; have h2_ : j < (b - a) * 5 := hj; omega)).2; exact h_)
       rw [hvse] at hvs hclr
       have hwipe := R_wipe HRr.out a (by omega) vs (by rw [hvs, HSZ.out]; omega)
       rw [HSZ.out] at hwipe
       have hb9 : Below base wr (wr.setCells g0 (a * 5) vs) := setCells_below wr g0 _ _ HBG.out
       have hk9 := setCells_kept wr g0 (a * 5) vs
       have hfin := HX.out.end_ HN.out
       rw [hfin] at hwipe
       have hfl : (l.filter fun x => !p x).length = a := by rw [← hfin, List.length_take, HX.out.1]; omega
       obtain ⟨w9, hw9⟩ : ∃ w9, wr.setCells g0 (a * 5) vs = w9 := ⟨_, rfl⟩
       rw [hw9] at hclr hwipe hb9 hk9
       have HW9 := Aside0.mk hwipe
       have HB9 := Aside0.mk (HBr.out.trans hb9)
       have HK9 := Aside0.mk (HKr.out.then_ hk9 (fun k hk => .inl hk))
       have HFL := Aside0.mk hfl
       clear hvs hvse hwipe hb9 hk9 hfin hfl hw9
       go_wp2
       go_ret
       exact ⟨c, by rw [HFL.out]; rfl, by rw [HFL.out]; exact HW9.out, HB9.out, HK9.out.mono (fun k hk => ⟨_, rfl, hk.symm⟩)⟩
end Go.Proofs.YtmkpgddfoaglpaaGreatDoor.PG
