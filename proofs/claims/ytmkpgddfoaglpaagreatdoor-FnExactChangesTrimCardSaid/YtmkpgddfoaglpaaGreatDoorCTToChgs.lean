/-
 A copy of []Change, all rows apart (laws.toChangeS, walked by hand). Condition: what the argument fits.
-/
import Derived.Test.YtmkpgddfoaglpaaGreatDoorCTP1
import Derived.Test.YtmkpgddfoaglpaaGreatDoorCTP2
import Derived.Test.YtmkpgddfoaglpaaGreatDoorCTSq
import Derived.Test.YtmkpgddfoaglpaaGreatDoorCTChgM
import Derived.Test.YtmkpgddfoaglpaaGreatDoorCTEntC
import Derived.Test.YtmkpgddfoaglpaaGreatDoorCTEntM
import Derived.Test.YtmkpgddfoaglpaaGreatDoorCTGen
import Derived.Test.YtmkpgddfoaglpaaGreatDoorCTFits
import Derived.Test.YtmkpgddfoaglpaaGreatDoorCTDn
import Derived.Test.YtmkpgddfoaglpaaGreatDoorCTRowOps
set_option maxHeartbeats 8000000
set_option maxRecDepth 100000
set_option linter.unusedVariables false
set_option linter.unusedSimpArgs false
namespace Go.Proofs.YtmkpgddfoaglpaaGreatDoor.PG
open Go.RowKit Go.Proofs.YtmkpgddfoaglpaaGreatDoorW.PrintWords Go.Proofs.YtmkpgddfoaglpaaGreatDoorW.PrintLast Go.Proofs.YtmkpgddfoaglpaaGreatDoorW.PrintMore Go.Proofs.YtmkpgddfoaglpaaGreatDoor.Gn Go.Proofs.YtmkpgddfoaglpaaGreatDoor
attribute [local go_sem] max2_int min2_int max_two min_two max_three min_three max_four min_four World.cell?_drew World.frozen?_drew
def RetChg (x : S145) (W : World) (e : Ending) (w' : World) : Prop := ∃ A c B b, e = .returned (.agg #[.int .i64 x.f0, .int .i64 x.f1, .string x.f2, .slice A x.f3.f0.length c, .slice B x.f3.f1.length b]) ∧ Kd.R k151 151 w' W.heap.size (fun _ => True) (.slice A x.f3.f0.length c) x.f3.f0 ∧ Kd.S k201 201 w' W.heap.size (fun _ => True) (.slice B x.f3.f1.length b) x.f3.f1 ∧ Below W.heap.size W w'
def RetCs (l : List S145) (W : World) (e : Ending) (w' : World) : Prop := ∃ A c, e = .returned (.slice A l.length c) ∧ Kd.S mChg 145 w' W.heap.size (fun _ => True) (.slice A l.length c) l ∧ Below W.heap.size W w'
theorem toChg_c (x : S233) (w : Ft.fit233 x) (A : Option Addr) (c : Nat) (B : Option Addr) (b : Nat) (W : World) (hC : Kd.C k149 W A x.f3.f0.length x.f3.f0) (hc : x.f3.f0.length ≤ c) (hD : Kd.C k212 W B x.f3.f1.length x.f3.f1) (hd : x.f3.f1.length ≤ b) :
   Calls Tryz.prog 206 #[.agg #[.int .i64 x.f0, .int .i64 x.f1, .string x.f2, .slice A x.f3.f0.length c, .slice B x.f3.f1.length b]] W (RetChg (conv_Change x) W) := by
 obtain ⟨k, hk⟩ := ev_at (to_Change x w)
 refine (laws_toChange.calls k x.f0 x.f1 x.f2 A c x.f3.f0 B b x.f3.f1 _ _ _ _ _ W hC hc hD hd hk).mono ?_
 rintro e w' ⟨v, u, rfl, hR, hS, hb⟩
 obtain ⟨A', c', rfl⟩ := Kd.R_slice hR
 obtain ⟨B', b', rfl⟩ := Kd.S_slice hS
 exact ⟨A', c', B', b', rfl, hR, hS, hb⟩
theorem chg_made {wr w2 : World} {base : Nat} {x : S145} {v0 v1 : Value} (hR : Kd.R k151 151 w2 wr.heap.size (fun _ => True) v0 x.f3.f0) (hS : Kd.S k201 201 w2 wr.heap.size (fun _ => True) v1 x.f3.f1) (hle : base ≤ wr.heap.size) : mChg.M w2 base (fun k => wr.heap.size ≤ k ∧ k < w2.heap.size) x [.int .i64 x.f0, .int .i64 x.f1, .string x.f2, v0, v1] :=
 mChg_of (Kd.R_lower (Kd.R_mono (Kd.R_bound hR) (fun k hk => ⟨hk.2.1, hk.2.2.1⟩)) hle) (Kd.S_lower (Kd.S_mono (Kd.S_bound hS) (fun k hk => ⟨hk.2.1, hk.2.2.1⟩)) hle)
theorem chg_put {wr w2 : World} {base g n c : Nat} {dn r : List S145} {z a : S145} {v0 v1 : Value} (h : Kd.S mChg 145 wr base (fun _ => True) (.slice (some ⟨g, 0, none⟩) n c) (dn ++ z :: r)) (hb : Below wr.heap.size wr w2) (hM : mChg.M w2 base (fun k => wr.heap.size ≤ k ∧ k < w2.heap.size) a [.int .i64 a.f0, .int .i64 a.f1, .string a.f2, v0, v1]) :
   ∃ u0 u1 u2 u3 u4, w2.cell? ⟨g, dn.length * 5, none⟩ = some u0 ∧ w2.cell? ⟨g, dn.length * 5 + 1, none⟩ = some u1 ∧ w2.cell? ⟨g, dn.length * 5 + 2, none⟩ = some u2 ∧ w2.cell? ⟨g, dn.length * 5 + 3, none⟩ = some u3 ∧ w2.cell? ⟨g, dn.length * 5 + 4, none⟩ = some u4 ∧ (∀ j, w2.frozen? ⟨g, dn.length * 5 + j, none⟩ = false) ∧
     Kd.S mChg 145 (((((w2.setCell ⟨g, dn.length * 5, none⟩ (.int .i64 a.f0)).setCell ⟨g, dn.length * 5 + 1, none⟩ (.int .i64 a.f1)).setCell ⟨g, dn.length * 5 + 2, none⟩ (.string a.f2)).setCell ⟨g, dn.length * 5 + 3, none⟩ v0).setCell ⟨g, dn.length * 5 + 4, none⟩ v1) base (fun _ => True) (.slice (some ⟨g, 0, none⟩) n c) (dn ++ a :: r) := by
 have hn := (Kd.S_reads' h).1
 have hlt : ((dn.length : Nat) : Int) < n := by rw [hn, List.length_append, List.length_cons]; omega
 have h0 : (0 : Int) ≤ (dn.length : Nat) := Int.natCast_nonneg _
 have hg : g < wr.heap.size := Kd.S_lt h g (by simp [Value.ownBlock])
 have h2 : Kd.S mChg 145 w2 base (fun k => (fun _ => True) k ∧ ¬ (wr.heap.size ≤ k ∧ k < w2.heap.size)) (.slice (some ⟨g, 0, none⟩) n c) (dn ++ z :: r) := Kd.S_mono (Kd.S_old h hb) (fun k hk => ⟨trivial, fun h => by have := hk.2; omega⟩)
 obtain ⟨oki, cs, hcl, hM0, hcc, hfr, hoki, hH⟩ := Kd.S_elem h2 z145 (dn.length : Nat) h0 hlt
 rw [Int.toNat_natCast] at hcc hfr
 obtain ⟨u0, u1, _, _, rfl, _⟩ := mChg_openM hM0
 refine ⟨_, _, _, u0, u1, hcc 0 _ rfl, hcc 1 _ rfl, hcc 2 _ rfl, hcc 3 _ rfl, hcc 4 _ rfl, hfr, ?_⟩
 have hs := (Kd.S_seg (okg := fun k => wr.heap.size ≤ k ∧ k < w2.heap.size) (okp := fun k => wr.heap.size ≤ k ∧ k < w2.heap.size) hH h0 hlt (seg := [.int .i64 a.f0, .int .i64 a.f1, .string a.f2, v0, v1]) (j := 0) (show 0 + 5 ≤ 5 by omega) (x' := a) hM (fun _ hk => Or.inr hk) (fun k hk => ⟨trivial, by omega⟩)).1
 rw [Int.toNat_natCast, set_mid] at hs
 exact hs
theorem belows5 {B : Nat} {W W1 : World} {g : Nat} (h : Below B W W1) (hg : B ≤ g) (o0 o1 o2 o3 o4 : Nat) (v0 v1 v2 v3 v4 : Value) : Below B W (((((W1.setCell ⟨g, o0, none⟩ v0).setCell ⟨g, o1, none⟩ v1).setCell ⟨g, o2, none⟩ v2).setCell ⟨g, o3, none⟩ v3).setCell ⟨g, o4, none⟩ v4) := belowsM (belowsM (belowsM (belowsM (belowsM h hg o0 v0) hg o1 v1) hg o2 v2) hg o3 v3) hg o4 v4
theorem toChgs_c (x : List S233) (w : Ft.fit61 x) (A : Option Addr) (c : Nat) (W : World) (hC : Kd.C k233 W A x.length x) (hc : x.length ≤ c) :
   Calls Tryz.prog 110 #[.slice A x.length c] W (RetCs (x.map conv_Change) W) := by
 have hlen : x.length * 80 ≤ 140737488351232 := w.1
 have HR0 := Aside0.mk hC
 have HC0 := Aside0.mk hc
 have HW := Aside0.mk w.2
 have HLEN := Aside0.mk hlen
 have hn0 : (0 : Int) ≤ (x.length : Int) := by omega
 have hn1 : (x.length : Int).toNat * 80 ≤ 281474976710656 := by omega
 have hB := Below.refl W.heap.size W
 clear hC hc w hlen
 go_enter Tryz.func110, Tryz.ntmps110
 go_wp2_with (first | ((with_reducible refine gate_dst (N := 7) rfl ?_); refine Kd.S_make mChg _ 145 rfl (N := 7) rfl 65 _ _ rfl (x.length : Int) rfl rfl Tryz.underlying65 (.agg #[(.int .i64 0), (.int .i64 0), (.string ⟨#[]⟩), (.slice none 0 0), (.slice none 0 0)]) 80 info145 rfl (by decide) (by omega) z145 (ok := fun _ => True) (okp := fun _ => True) mChg_nil (fun _ hk => hk) trivial hn0 hn1 hB (Nat.le_refl _) ?_; intro v3 w3 hS hb hg_ hnew_; have HS3 := Aside0.mk hS; have HB3 := Aside0.mk hb; clear hS hb hg_ hnew_))
 go_loopw [4] (fun s4 wr => ∃ (dn rs : List S233), s4 = .int .i64 dn.length ∧ Aside0 (dn ++ rs = x) ∧ Aside0 (Kd.S mChg 145 wr W.heap.size (fun _ => True) v3 (dn.map conv_Change ++ List.replicate rs.length z145)) ∧ Aside0 (Below W.heap.size W wr)) (fun s4 _ => x.length - (intOf s4).toNat)
 case atStart => exact ⟨[], x, rfl, ⟨rfl⟩, ⟨by have h := HS3.out; rw [Int.toNat_natCast] at h; exact h⟩, HB3⟩
 case round =>
   obtain ⟨dn, rs, rfl, HX, HSR, HBR⟩ := hrel
   cases rs with
   | nil =>
     have hx := HX.out
     rw [List.append_nil] at hx
     subst hx
     have hlt : ¬ dn.length < dn.length := Nat.lt_irrefl _
     obtain ⟨A3, c3, rfl⟩ := Kd.S_slice HSR.out
     go_wp2
     go_ret
     have h := HSR.out
     simp only [List.length_nil, List.replicate_zero, List.append_nil] at h ⊢
     exact ⟨A3, c3, rfl, h, HBR.out⟩
   | cons a r =>
     have hx := HX.out
     have hlx : x.length = dn.length + (r.length + 1) := by rw [← hx]; simp
     have hlt : dn.length < x.length := by omega
     have hltI : ((dn.length : Nat) : Int) < (x.length : Int) := by omega
     have h0I : (0 : Int) ≤ ((dn.length : Nat) : Int) := Int.natCast_nonneg _
     have hrd : x.getD ((dn.length : Nat) : Int).toNat z233 = a := by rw [← hx]; exact rd_mid dn a r _
     obtain ⟨ad, A1, c1, A2, c2, rfl, hx0, hx1, hx2, hx3, hx4, hl0, hi0, hl1, hi1⟩ := at_T233 (Kd.C_below HR0.out HBR.out) ((dn.length : Nat) : Int) h0I hltI
     rw [show rd_T233 x ((dn.length : Nat) : Int) = a from hrd] at hx0 hx1 hx2 hx3 hx4 hl0 hi0 hl1 hi1
     rw [Int.toNat_natCast] at hx0 hx1 hx2 hx3 hx4
     have hsr : Kd.S mChg 145 wr W.heap.size (fun _ => True) v3 (dn.map conv_Change ++ z145 :: List.replicate r.length z145) := HSR.out
     obtain ⟨g, cap, hv, hbg, q1_, q2_⟩ := Kd.S_form hsr (by rw [List.length_append, List.length_cons]; omega)
     have hln : (dn.map conv_Change ++ z145 :: List.replicate r.length z145).length = x.length := by rw [hlx]; simp
     rw [hln] at hv
     subst hv
     have hfit : Ft.fit233 a := HW.out a (by rw [← hx]; simp)
     have HCALL := Aside0.mk (toChg_c a hfit A1 c1 A2 c2 wr hi0 hl0 hi1 hl1)
     have HSR2 := Aside0.mk hsr
     have HX2 := Aside0.mk hx
     have HG := Aside0.mk hbg
     have HLX := Aside0.mk hlx
     have HWI := Aside0.mk (show wrap64 ((dn.length : Int) + 1) = (dn.length : Int) + 1 from wsucc (by omega) (by have := HLEN.out; omega))
     clear hx hlx hrd hl0 hi0 hl1 hi1 hsr hbg q1_ q2_ hln hfit
     go_wp2_with (first | (go_at_call 206; refine HCALL.out.mono ?_; rintro e w2 ⟨A4, c4, B4, b4, rfl, hR4, hS4, hb4⟩; obtain ⟨u0, u1, u2, u3, u4, y0, y1, y2, y3, y4, yf, hput⟩ := chg_put HSR2.out hb4 (chg_made (base := W.heap.size) hR4 hS4 HBR.out.size); rw [List.length_map] at y0 y1 y2 y3 y4 yf hput; have yf0 := yf 0; have yf1 := yf 1; have yf2 := yf 2; have yf3 := yf 3; have yf4 := yf 4; rw [Nat.add_zero] at yf0; have HPUT := Aside0.mk hput; have HB4 := Aside0.mk (below_step HBR.out hb4); clear hR4 hS4 hb4 hput yf))
     refine ⟨⟨dn ++ [a], r, ?_, ⟨?_⟩, ⟨?_⟩, ⟨?_⟩⟩, ?_⟩
     · try rw [HWI.out]
       simp
     · rw [List.append_assoc]
       exact HX2.out
     · rw [List.map_append, List.append_assoc]
       exact HPUT.out
     · exact belows5 HB4.out HG.out _ _ _ _ _ _ _ _ _ _
     · have := HLX.out
       try rw [HWI.out]
       simp [intOf]
       omega
end Go.Proofs.YtmkpgddfoaglpaaGreatDoor.PG
/-
 The laws' helpers at ChangesOut: sizes, copies, equality, as plain functions. No condition but those stated.
-/
namespace Go.Proofs.YtmkpgddfoaglpaaGreatDoor.PG
open Go.RowKit Go.Proofs.YtmkpgddfoaglpaaGreatDoorW.PrintWords Go.Proofs.YtmkpgddfoaglpaaGreatDoorW.PrintLast Go.Proofs.YtmkpgddfoaglpaaGreatDoorW.PrintMore Go.Proofs.YtmkpgddfoaglpaaGreatDoor.Gn Go.Proofs.YtmkpgddfoaglpaaGreatDoor
def lens_ChangesOut (y : S69) : Prop := lens_Changes y.f0 ∧ lens_ChangeS y.f1 ∧ True
end Go.Proofs.YtmkpgddfoaglpaaGreatDoor.PG
/-
 An entry's copy as a contract without rounds; an empty row; an element of a row of entries. Conditions: the lengths' bounds.
-/
namespace Go.Proofs.YtmkpgddfoaglpaaGreatDoor.PG
open Go.RowKit Go.Proofs.YtmkpgddfoaglpaaGreatDoorW.PrintWords Go.Proofs.YtmkpgddfoaglpaaGreatDoorW.PrintLast Go.Proofs.YtmkpgddfoaglpaaGreatDoorW.PrintMore Go.Proofs.YtmkpgddfoaglpaaGreatDoor.Gn Go.Proofs.YtmkpgddfoaglpaaGreatDoor
attribute [local go_sem] max2_int min2_int max_two min_two max_three min_three max_four min_four World.cell?_drew World.frozen?_drew
theorem copied_c (x : List S151) (y : List S201) (h : okEnt x y) (A : Option Addr) (c : Nat) (B : Option Addr) (b : Nat) (W : World) (hC : Kd.C k151 W A x.length x) (hc : x.length ≤ c) (hD : Kd.C k201 W B y.length y) (hd : y.length ≤ b) :
   Calls Tryz.prog 172 #[.agg #[.slice A x.length c, .slice B y.length b]] W (RetEnt x y W) := by
 obtain ⟨k, hk⟩ := ev_at (copied_ev x y h)
 refine (impl_Entry_copied.calls k A c x B b y _ _ W hC hc hD hd hk).mono ?_
 rintro e w' ⟨v, u, rfl, hR, hS, hb⟩
 obtain ⟨A', c', rfl⟩ := Kd.R_slice hR
 obtain ⟨B', b', rfl⟩ := Kd.S_slice hS
 exact ⟨A', c', B', b', rfl, hR, hS, hb⟩
theorem S_empty {α : Type} (d : Kd α) (e : Nat) (W : World) : Kd.S d e (W.alloc (.cells #[] e)) W.heap.size (fun _ => True) (.slice (some ⟨W.heap.size, 0, none⟩) 0 0) ([] : List α) := ⟨fun _ => 0, R_empty (Kd.tag (fun _ => 0) d) e W⟩
end Go.Proofs.YtmkpgddfoaglpaaGreatDoor.PG
