/-
 The laws' helpers on Entry, as contracts without rounds: a copy (laws.toEntry) and what it leaves. Condition: what the argument fits.
-/
import Derived.Test.YtmkpgddfoaglpaaGreatDoorVIP1
import Derived.Test.YtmkpgddfoaglpaaGreatDoorVIEntM
import Derived.Test.YtmkpgddfoaglpaaGreatDoorVIMarkRdnC
import Derived.Test.YtmkpgddfoaglpaaGreatDoorVIP2
import Derived.Test.YtmkpgddfoaglpaaGreatDoorVISq
import Derived.Test.YtmkpgddfoaglpaaGreatDoorVIRuleM
import Derived.Test.YtmkpgddfoaglpaaGreatDoorVIMarkAttr
import Derived.Test.YtmkpgddfoaglpaaGreatDoorVIP4
import Derived.Test.YtmkpgddfoaglpaaGreatDoorVIEntry
namespace Go.Proofs.YtmkpgddfoaglpaaGreatDoor.PG
set_option linter.unusedVariables false
set_option linter.unusedSimpArgs false
open Go.RowKit Go.Proofs.YtmkpgddfoaglpaaGreatDoorW.PrintWords Go.Proofs.YtmkpgddfoaglpaaGreatDoorW.PrintLast Go.Proofs.YtmkpgddfoaglpaaGreatDoorW.PrintMore Go.Proofs.YtmkpgddfoaglpaaGreatDoor.Gn Go.Proofs.YtmkpgddfoaglpaaGreatDoor
attribute [local go_sem] max2_int min2_int max_two min_two max_three min_three max_four min_four World.cell?_drew World.frozen?_drew
theorem ev_at {α : Type} {f : Nat → Option α} {r : α} (h : Ev f r) : ∃ k, f k = some r := h.rounds
def RetI (n : Int) (W : World) (e : Ending) (w' : World) : Prop := e = .returned (.int .i64 n) ∧ Below W.heap.size W w'
def RetB (b : Bool) (W : World) (e : Ending) (w' : World) : Prop := e = .returned (.bool b) ∧ Below W.heap.size W w'
def RetEnt (x : List S151) (y : List S201) (W : World) (e : Ending) (w' : World) : Prop := ∃ A c B b, e = .returned (.agg #[.slice A x.length c, .slice B y.length b]) ∧ Kd.R k151 151 w' W.heap.size (fun _ => True) (.slice A x.length c) x ∧ Kd.S k201 201 w' W.heap.size (fun _ => True) (.slice B y.length b) y ∧ Below W.heap.size W w'
def RetEs (l : List S44) (W : World) (e : Ending) (w' : World) : Prop := ∃ A c, e = .returned (.slice A l.length c) ∧ Kd.S mEnt 44 w' W.heap.size (fun _ => True) (.slice A l.length c) l ∧ Below W.heap.size W w'
theorem toEntry_c (x : S39) (w : Ft.fit39 x) (A : Option Addr) (c : Nat) (B : Option Addr) (b : Nat) (W : World) (hC : Kd.C k149 W A x.f0.length x.f0) (hc : x.f0.length ≤ c) (hD : Kd.C k212 W B x.f1.length x.f1) (hd : x.f1.length ≤ b) :
   Calls Tryz.prog 25 #[.agg #[.slice A x.f0.length c, .slice B x.f1.length b]] W (RetEnt (conv_Entry x).f0 (conv_Entry x).f1 W) := by
 obtain ⟨k, hk⟩ := ev_at (to_Entry x w)
 refine (laws_toEntry.calls k A c x.f0 B b x.f1 _ _ W hC hc hD hd hk).mono ?_
 rintro e w' ⟨v, u, rfl, hR, hS, hb⟩
 obtain ⟨A', c', rfl⟩ := Kd.R_slice hR
 obtain ⟨B', b', rfl⟩ := Kd.S_slice hS
 exact ⟨A', c', B', b', rfl, hR, hS, hb⟩
theorem ent_made {wr w2 : World} {base : Nat} {d : List S151} {l : List S201} {v0 v1 : Value} (hR : Kd.R k151 151 w2 wr.heap.size (fun _ => True) v0 d) (hS : Kd.S k201 201 w2 wr.heap.size (fun _ => True) v1 l) (hle : base ≤ wr.heap.size) : mEnt.M w2 base (fun k => wr.heap.size ≤ k ∧ k < w2.heap.size) ⟨d, l⟩ [v0, v1] :=
 mEnt_of (Kd.R_lower (Kd.R_mono (Kd.R_bound hR) (fun k hk => ⟨hk.2.1, hk.2.2.1⟩)) hle) (Kd.S_lower (Kd.S_mono (Kd.S_bound hS) (fun k hk => ⟨hk.2.1, hk.2.2.1⟩)) hle)
theorem ent_put {wr w2 : World} {base g n c : Nat} {dn r : List S44} {z a : S44} {v0 v1 : Value} (h : Kd.S mEnt 44 wr base (fun _ => True) (.slice (some ⟨g, 0, none⟩) n c) (dn ++ z :: r)) (hb : Below wr.heap.size wr w2) (hM : mEnt.M w2 base (fun k => wr.heap.size ≤ k ∧ k < w2.heap.size) a [v0, v1]) :
   ∃ u0 u1, w2.cell? ⟨g, dn.length * 2, none⟩ = some u0 ∧ w2.cell? ⟨g, dn.length * 2 + 1, none⟩ = some u1 ∧ w2.frozen? ⟨g, dn.length * 2, none⟩ = false ∧ w2.frozen? ⟨g, dn.length * 2 + 1, none⟩ = false ∧
     Kd.S mEnt 44 ((w2.setCell ⟨g, dn.length * 2, none⟩ v0).setCell ⟨g, dn.length * 2 + 1, none⟩ v1) base (fun _ => True) (.slice (some ⟨g, 0, none⟩) n c) (dn ++ a :: r) := by
 have hn := (Kd.S_reads' h).1
 have hlt : ((dn.length : Nat) : Int) < n := by rw [hn, List.length_append, List.length_cons]; omega
 have h0 : (0 : Int) ≤ (dn.length : Nat) := Int.natCast_nonneg _
 have hg : g < wr.heap.size := Kd.S_lt h g (by simp [Value.ownBlock])
 have h2 : Kd.S mEnt 44 w2 base (fun k => (fun _ => True) k ∧ ¬ (wr.heap.size ≤ k ∧ k < w2.heap.size)) (.slice (some ⟨g, 0, none⟩) n c) (dn ++ z :: r) := Kd.S_mono (Kd.S_old h hb) (fun k hk => ⟨trivial, fun h => by have := hk.2; omega⟩)
 obtain ⟨oki, cs, hcl, hM0, hcc, hfr, hoki, hH⟩ := Kd.S_elem h2 z44 (dn.length : Nat) h0 hlt
 rw [Int.toNat_natCast] at hcc hfr
 obtain ⟨u0, u1, _, _, rfl, _⟩ := mEnt_openM hM0
 refine ⟨u0, u1, hcc 0 _ rfl, hcc 1 _ rfl, hfr 0, hfr 1, ?_⟩
 have hs := (Kd.S_seg (okg := fun k => wr.heap.size ≤ k ∧ k < w2.heap.size) (okp := fun k => wr.heap.size ≤ k ∧ k < w2.heap.size) hH h0 hlt (seg := [v0, v1]) (j := 0) (show 0 + 2 ≤ 2 by omega) (x' := a) hM (fun _ hk => Or.inr hk) (fun k hk => ⟨trivial, by omega⟩)).1
 rw [Int.toNat_natCast, set_mid] at hs
 exact hs
theorem belows2 {B : Nat} {W W1 : World} {g : Nat} (h : Below B W W1) (hg : B ≤ g) (o o' : Nat) (v v' : Value) : Below B W ((W1.setCell ⟨g, o, none⟩ v).setCell ⟨g, o', none⟩ v') := belowsM (belowsM h hg o v) hg o' v'
end Go.Proofs.YtmkpgddfoaglpaaGreatDoor.PG
/-
 A copy of []Rule, all rows apart (laws.toRuleS, walked by hand). Condition: what the argument fits.
-/
namespace Go.Proofs.YtmkpgddfoaglpaaGreatDoor.PG
set_option linter.unusedVariables false
set_option linter.unusedSimpArgs false
open Go.RowKit Go.Proofs.YtmkpgddfoaglpaaGreatDoorW.PrintWords Go.Proofs.YtmkpgddfoaglpaaGreatDoorW.PrintLast Go.Proofs.YtmkpgddfoaglpaaGreatDoorW.PrintMore Go.Proofs.YtmkpgddfoaglpaaGreatDoor.Gn Go.Proofs.YtmkpgddfoaglpaaGreatDoor
attribute [local go_sem] max2_int min2_int max_two min_two max_three min_three max_four min_four World.cell?_drew World.frozen?_drew
theorem ev_atR {α : Type} {f : Nat → Option α} {r : α} (h : Ev f r) : ∃ k, f k = some r := h.rounds
theorem rd_midR {α : Type} (dn : List α) (a : α) (r : List α) (z : α) : (dn ++ a :: r).getD ((dn.length : Nat) : Int).toNat z = a := by rw [Int.toNat_natCast, get_mid]
def RetRule (x : S108) (W : World) (e : Ending) (w' : World) : Prop := ∃ A c B b, e = .returned (.agg #[.string x.f0, .slice A x.f1.length c, .slice B x.f2.length b, .int .i64 x.f3, .bool x.f4]) ∧ Kd.R k151 151 w' W.heap.size (fun _ => True) (.slice A x.f1.length c) x.f1 ∧ Kd.R Kd.string 9 w' W.heap.size (fun _ => True) (.slice B x.f2.length b) x.f2 ∧ Below W.heap.size W w'
def RetRs (l : List S108) (W : World) (e : Ending) (w' : World) : Prop := ∃ A c, e = .returned (.slice A l.length c) ∧ Kd.S mRule 108 w' W.heap.size (fun _ => True) (.slice A l.length c) l ∧ Below W.heap.size W w'
theorem toRule_c (x : S102) (w : Ft.fit102 x) (A : Option Addr) (c : Nat) (B : Option Addr) (b : Nat) (W : World) (hC : Kd.C k149 W A x.f1.length x.f1) (hc : x.f1.length ≤ c) (hD : Kd.C Kd.string W B x.f2.length x.f2) (hd : x.f2.length ≤ b) :
   Calls Tryz.prog 71 #[.agg #[.string x.f0, .slice A x.f1.length c, .slice B x.f2.length b, .int .i64 x.f3, .bool x.f4]] W (RetRule (conv_Rule x) W) := by
 obtain ⟨k, hk⟩ := ev_atR (to_Rule x w)
 refine (laws_toRule.calls k x.f0 A c x.f1 B b x.f2 x.f3 x.f4 _ _ _ _ _ W hC hc hD hd hk).mono ?_
 rintro e w' ⟨v, u, rfl, hR, hS, hb⟩
 obtain ⟨A', c', rfl⟩ := Kd.R_slice hR
 obtain ⟨B', b', rfl⟩ := Kd.R_slice hS
 exact ⟨A', c', B', b', rfl, hR, hS, hb⟩
theorem rule_made {wr w2 : World} {base : Nat} {x : S108} {v0 v1 : Value} (hR : Kd.R k151 151 w2 wr.heap.size (fun _ => True) v0 x.f1) (hS : Kd.R Kd.string 9 w2 wr.heap.size (fun _ => True) v1 x.f2) (hle : base ≤ wr.heap.size) : mRule.M w2 base (fun k => wr.heap.size ≤ k ∧ k < w2.heap.size) x [.string x.f0, v0, v1, .int .i64 x.f3, .bool x.f4] :=
 mRule_of (Kd.R_lower (Kd.R_mono (Kd.R_bound hR) (fun k hk => ⟨hk.2.1, hk.2.2.1⟩)) hle) (Kd.R_lower (Kd.R_mono (Kd.R_bound hS) (fun k hk => ⟨hk.2.1, hk.2.2.1⟩)) hle)
theorem rule_put {wr w2 : World} {base g n c : Nat} {dn r : List S108} {z a : S108} {v0 v1 : Value} (h : Kd.S mRule 108 wr base (fun _ => True) (.slice (some ⟨g, 0, none⟩) n c) (dn ++ z :: r)) (hb : Below wr.heap.size wr w2) (hM : mRule.M w2 base (fun k => wr.heap.size ≤ k ∧ k < w2.heap.size) a [.string a.f0, v0, v1, .int .i64 a.f3, .bool a.f4]) :
   ∃ u0 u1 u2 u3 u4, w2.cell? ⟨g, dn.length * 5, none⟩ = some u0 ∧ w2.cell? ⟨g, dn.length * 5 + 1, none⟩ = some u1 ∧ w2.cell? ⟨g, dn.length * 5 + 2, none⟩ = some u2 ∧ w2.cell? ⟨g, dn.length * 5 + 3, none⟩ = some u3 ∧ w2.cell? ⟨g, dn.length * 5 + 4, none⟩ = some u4 ∧ (∀ j, w2.frozen? ⟨g, dn.length * 5 + j, none⟩ = false) ∧
     Kd.S mRule 108 (((((w2.setCell ⟨g, dn.length * 5, none⟩ (.string a.f0)).setCell ⟨g, dn.length * 5 + 1, none⟩ v0).setCell ⟨g, dn.length * 5 + 2, none⟩ v1).setCell ⟨g, dn.length * 5 + 3, none⟩ (.int .i64 a.f3)).setCell ⟨g, dn.length * 5 + 4, none⟩ (.bool a.f4)) base (fun _ => True) (.slice (some ⟨g, 0, none⟩) n c) (dn ++ a :: r) := by
 have hn := (Kd.S_reads' h).1
 have hlt : ((dn.length : Nat) : Int) < n := by rw [hn, List.length_append, List.length_cons]; omega
 have h0 : (0 : Int) ≤ (dn.length : Nat) := Int.natCast_nonneg _
 have hg : g < wr.heap.size := Kd.S_lt h g (by simp [Value.ownBlock])
 have h2 : Kd.S mRule 108 w2 base (fun k => (fun _ => True) k ∧ ¬ (wr.heap.size ≤ k ∧ k < w2.heap.size)) (.slice (some ⟨g, 0, none⟩) n c) (dn ++ z :: r) := Kd.S_mono (Kd.S_old h hb) (fun k hk => ⟨trivial, fun h => by have := hk.2; omega⟩)
 obtain ⟨oki, cs, hcl, hM0, hcc, hfr, hoki, hH⟩ := Kd.S_elem h2 z108 (dn.length : Nat) h0 hlt
 rw [Int.toNat_natCast] at hcc hfr
 obtain ⟨u0, u1, _, _, rfl, _⟩ := mRule_openM hM0
 refine ⟨_, u0, u1, _, _, hcc 0 _ rfl, hcc 1 _ rfl, hcc 2 _ rfl, hcc 3 _ rfl, hcc 4 _ rfl, hfr, ?_⟩
 have hs := (Kd.S_seg (okg := fun k => wr.heap.size ≤ k ∧ k < w2.heap.size) (okp := fun k => wr.heap.size ≤ k ∧ k < w2.heap.size) hH h0 hlt (seg := [.string a.f0, v0, v1, .int .i64 a.f3, .bool a.f4]) (j := 0) (show 0 + 5 ≤ 5 by omega) (x' := a) hM (fun _ hk => Or.inr hk) (fun k hk => ⟨trivial, by omega⟩)).1
 rw [Int.toNat_natCast, set_mid] at hs
 exact hs
theorem belows5 {B : Nat} {W W1 : World} {g : Nat} (h : Below B W W1) (hg : B ≤ g) (o0 o1 o2 o3 o4 : Nat) (v0 v1 v2 v3 v4 : Value) : Below B W (((((W1.setCell ⟨g, o0, none⟩ v0).setCell ⟨g, o1, none⟩ v1).setCell ⟨g, o2, none⟩ v2).setCell ⟨g, o3, none⟩ v3).setCell ⟨g, o4, none⟩ v4) := belowsM (belowsM (belowsM (belowsM (belowsM h hg o0 v0) hg o1 v1) hg o2 v2) hg o3 v3) hg o4 v4
set_option maxHeartbeats 4000000 in
set_option maxRecDepth 100000 in
theorem toRules_c (x : List S102) (w : Ft.fit22 x) (A : Option Addr) (c : Nat) (W : World) (hC : Kd.C k102 W A x.length x) (hc : x.length ≤ c) :
   Calls Tryz.prog 15 #[.slice A x.length c] W (RetRs (x.map conv_Rule) W) := by
 have hlen : x.length * 80 ≤ 140737488351232 := w.1
 have HR0 := Aside0.mk hC
 have HC0 := Aside0.mk hc
 have HW := Aside0.mk w.2
 have HLEN := Aside0.mk hlen
 have hn0 : (0 : Int) ≤ (x.length : Int) := by omega
 have hn1 : (x.length : Int).toNat * 80 ≤ 281474976710656 := by omega
 have hB := Below.refl W.heap.size W
 clear hC hc w hlen
 go_enter Tryz.func15, Tryz.ntmps15
 go_wp2_with (first | ((with_reducible refine gate_dst (N := 7) rfl ?_); refine Kd.S_make mRule _ 108 rfl (N := 7) rfl 28 _ _ rfl (x.length : Int) rfl rfl Tryz.underlying28 (.agg #[(.string ⟨#[]⟩), (.slice none 0 0), (.slice none 0 0), (.int .i64 0), (.bool false)]) 80 info108 rfl (by decide) (by omega) z108 (ok := fun _ => True) (okp := fun _ => True) mRule_nil (fun _ hk => hk) trivial hn0 hn1 hB (Nat.le_refl _) ?_; intro v3 w3 hS hb hg_ hnew_; have HS3 := Aside0.mk hS; have HB3 := Aside0.mk hb; clear hS hb hg_ hnew_))
 go_loopw [4] (fun s4 wr => ∃ (dn rs : List S102), s4 = .int .i64 dn.length ∧ Aside0 (dn ++ rs = x) ∧ Aside0 (Kd.S mRule 108 wr W.heap.size (fun _ => True) v3 (dn.map conv_Rule ++ List.replicate rs.length z108)) ∧ Aside0 (Below W.heap.size W wr)) (fun s4 _ => x.length - (intOf s4).toNat)
 case atStart => exact ⟨[], x, rfl, ⟨rfl⟩, ⟨by have h := HS3.out; rw [Int.toNat_natCast] at h; exact h⟩, HB3⟩
 case round =>
   obtain ⟨dn, rs, rfl, HX, HSR, HBR⟩ := hrel
   cases rs with
   | nil =>
     have hx := HX.out
     rw [List.append_nil] at hx
     subst hx
     have hlt : ¬ dn.length < dn.length := Nat.lt_irrefl _
     obtain ⟨A3, c3, rfl⟩ := Kd.S_slice HSR.out
     go_wp2
     go_ret
     have h := HSR.out
     simp only [List.length_nil, List.replicate_zero, List.append_nil] at h ⊢
     exact ⟨A3, c3, rfl, h, HBR.out⟩
   | cons a r =>
     have hx := HX.out
     have hlx : x.length = dn.length + (r.length + 1) := by rw [← hx]; simp
     have hlt : dn.length < x.length := by omega
     have hltI : ((dn.length : Nat) : Int) < (x.length : Int) := by omega
     have h0I : (0 : Int) ≤ ((dn.length : Nat) : Int) := Int.natCast_nonneg _
     have hrd : x.getD ((dn.length : Nat) : Int).toNat z102 = a := by rw [← hx]; exact rd_midR dn a r _
     obtain ⟨ad, A1, c1, A2, c2, rfl, hx0, hx1, hx2, hx3, hx4, hl0, hi0, hl1, hi1⟩ := at_T102 (Kd.C_below HR0.out HBR.out) ((dn.length : Nat) : Int) h0I hltI
     rw [show rd_T102 x ((dn.length : Nat) : Int) = a from hrd] at hx0 hx1 hx2 hx3 hx4 hl0 hi0 hl1 hi1
     rw [Int.toNat_natCast] at hx0 hx1 hx2 hx3 hx4
     have hsr : Kd.S mRule 108 wr W.heap.size (fun _ => True) v3 (dn.map conv_Rule ++ z108 :: List.replicate r.length z108) := HSR.out
     obtain ⟨g, cap, hv, hbg, q1_, q2_⟩ := Kd.S_form hsr (by rw [List.length_append, List.length_cons]; omega)
     have hln : (dn.map conv_Rule ++ z108 :: List.replicate r.length z108).length = x.length := by rw [hlx]; simp
     rw [hln] at hv
     subst hv
     have hfit : Ft.fit102 a := HW.out a (by rw [← hx]; simp)
     have HCALL := Aside0.mk (toRule_c a hfit A1 c1 A2 c2 wr hi0 hl0 hi1 hl1)
     have HSR2 := Aside0.mk hsr
     have HX2 := Aside0.mk hx
     have HG := Aside0.mk hbg
     have HLX := Aside0.mk hlx
     have HWI := Aside0.mk (show wrap64 ((dn.length : Int) + 1) = (dn.length : Int) + 1 from wsucc (by omega) (by have := HLEN.out; omega))
     clear hx hlx hrd hl0 hi0 hl1 hi1 hsr hbg q1_ q2_ hln hfit
     go_wp2_with (first | (go_at_call 71; refine HCALL.out.mono ?_; rintro e w2 ⟨A4, c4, B4, b4, rfl, hR4, hS4, hb4⟩; obtain ⟨u0, u1, u2, u3, u4, y0, y1, y2, y3, y4, yf, hput⟩ := rule_put HSR2.out hb4 (rule_made (base := W.heap.size) hR4 hS4 HBR.out.size); rw [List.length_map] at y0 y1 y2 y3 y4 yf hput; have yf0 := yf 0; have yf1 := yf 1; have yf2 := yf 2; have yf3 := yf 3; have yf4 := yf 4; rw [Nat.add_zero] at yf0; have HPUT := Aside0.mk hput; have HB4 := Aside0.mk (below_step HBR.out hb4); clear hR4 hS4 hb4 hput yf))
     refine ⟨⟨dn ++ [a], r, ?_, ⟨?_⟩, ⟨?_⟩, ⟨?_⟩⟩, ?_⟩
     · try rw [HWI.out]
       simp
     · rw [List.append_assoc]
       exact HX2.out
     · rw [List.map_append, List.append_assoc]
       exact HPUT.out
     · exact belows5 HB4.out HG.out _ _ _ _ _ _ _ _ _ _
     · have := HLX.out
       try rw [HWI.out]
       simp [intOf]
       omega
end Go.Proofs.YtmkpgddfoaglpaaGreatDoor.PG
/-
 Texts that rise, all of them names: the program's areNames and the reference's l04Names. Condition: the length's bound.
-/
namespace Go.Proofs.YtmkpgddfoaglpaaGreatDoor.PG
open Go.RowKit Go.Proofs.YtmkpgddfoaglpaaGreatDoorW.PrintWords Go.Proofs.YtmkpgddfoaglpaaGreatDoorW.PrintLast Go.Proofs.YtmkpgddfoaglpaaGreatDoorW.PrintMore Go.Proofs.YtmkpgddfoaglpaaGreatDoor.Gn Go.Proofs.YtmkpgddfoaglpaaGreatDoor.Sem
set_option linter.unusedVariables false
set_option linter.unusedSimpArgs false
def namesAt (l : List ByteArray) (i : Nat) : Bool := nameB (rdOf ByteArray.empty l (i : Int)) && stepB lessB (rdOf ByteArray.empty l) i
def namesB (l : List ByteArray) : Bool := (List.range l.length).all (namesAt l)
theorem impl_names (l : List ByteArray) (hl : l.length ≤ 9223372036854775807) : Ev (fun k => impl_areNames.f k l) (namesB l) := by
 unfold impl_areNames.f
 have := all_loop (fun k i => impl_areNames.l0 k l l (l.length : Int) i) (namesAt l) l.length true ?_ ?_
 · simpa [namesB] using this
 · exact Ev_one fun k => by simp only [impl_areNames.l0]; rw [if_neg (by omega)]
 · intro i hi u hu
   have e0 : wrap64 ((i : Int) + 1) = ((i + 1 : Nat) : Int) := by rw [wsucc (by omega) (by omega)]; omega
   refine Ev.step (fun k => by simp only [impl_areNames.l0]; rw [if_pos (by omega), if_pos (by omega), if_pos (by omega), e0]) ?_
   rw [impl_name]
   unfold namesAt stepB
   simp only [Option.bind_some]
   cases nameB (rdOf ByteArray.empty l (i : Int))
   · exact Ev_some fun k => by simp
   · simp only [if_true, Bool.true_and]
     by_cases h0 : i = 0
     · subst h0
       simpa using hu
     · rw [decide_eq_false h0, Bool.false_or]
       refine Ev.congr (fun k => by rw [if_pos (by omega), w_id (by omega) (by omega), if_pos (by omega), if_pos (by omega)]) ?_
       unfold lessB
       cases Op.bytesLess (rdOf ByteArray.empty l ((i : Int) - 1)).toList (rdOf ByteArray.empty l (i : Int)).toList
       · exact Ev_some fun k => by simp
       · simpa using hu
theorem spec_names (l : List ByteArray) (hl : l.length ≤ 9223372036854775807) : Ev (fun k => spec_l04Names.f k l) (namesB l) := by
 unfold spec_l04Names.f
 have := all_loop (fun k i => spec_l04Names.l0 k l i) (namesAt l) l.length true ?_ ?_
 · simpa [namesB] using this
 · exact Ev_one fun k => by simp only [spec_l04Names.l0]; rw [if_neg (by omega)]
 · intro i hi u hu
   have e0 : wrap64 ((i : Int) + 1) = ((i + 1 : Nat) : Int) := by rw [wsucc (by omega) (by omega)]; omega
   refine Ev.step (fun k => by simp only [spec_l04Names.l0]; rw [if_pos (by omega), if_pos (by omega), e0]) ?_
   refine Ev_bind (spec_name _) ?_
   unfold namesAt stepB
   cases nameB (rdOf ByteArray.empty l (i : Int))
   · exact Ev_some fun k => by simp
   · simp only [if_true, Bool.true_and]
     by_cases h0 : i = 0
     · subst h0
       simpa using hu
     · rw [decide_eq_false h0, Bool.false_or]
       refine Ev.congr (fun k => by rw [if_pos (by omega), w_id (by omega) (by omega), if_pos (by omega), if_pos (by omega)]) ?_
       unfold lessB
       cases Op.bytesLess (rdOf ByteArray.empty l ((i : Int) - 1)).toList (rdOf ByteArray.empty l (i : Int)).toList
       · exact Ev_some fun k => by simp
       · simpa using hu
end Go.Proofs.YtmkpgddfoaglpaaGreatDoor.PG
