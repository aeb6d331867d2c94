/-
 Rows of Change whose rows all lie apart: the kind, marks of []Change (laws.markChangeS, walked by hand) and that they are found again (laws.heldChangeS). Conditions: the marks' numbers stay small.
-/
import Derived.Test.YtmkpgddfoaglpaaGreatDoorCTP2
import Derived.Test.YtmkpgddfoaglpaaGreatDoorCTEntM
set_option maxHeartbeats 8000000
set_option maxRecDepth 100000
set_option linter.unusedVariables false
set_option linter.unusedSimpArgs false
namespace Go.Proofs.YtmkpgddfoaglpaaGreatDoor.PG
open Go.RowKit Go.Proofs.YtmkpgddfoaglpaaGreatDoorW.PrintWords Go.Proofs.YtmkpgddfoaglpaaGreatDoorW.PrintLast Go.Proofs.YtmkpgddfoaglpaaGreatDoorW.PrintMore Go.Proofs.YtmkpgddfoaglpaaGreatDoor.Gn
attribute [local go_sem] max2_int min2_int max_two min_two max_three min_three max_four min_four World.cell?_drew World.frozen?_drew
def mChg : Kd S145 := Kd.iso (kap (Kd.int .i64) (kap (Kd.int .i64) (kap Kd.string mEnt))) (fun x : S145 => (x.f0, x.f1, x.f2, x.f3))
theorem mChg_openM {w : World} {base : Nat} {ok : Nat → Prop} {x : S145} {cs : List Value} (h : mChg.M w base ok x cs) : ∃ (v0 v1 : Value) (o0 o1 : Nat → Prop), cs = [.int .i64 x.f0, .int .i64 x.f1, .string x.f2, v0, v1] ∧ (∀ k, o0 k → ok k) ∧ (∀ k, o1 k → ok k) ∧ (∀ k, o0 k → ¬ o1 k) ∧ Kd.R k151 151 w base o0 v0 x.f3.f0 ∧ Kd.S k201 201 w base o1 v1 x.f3.f1 := by
 obtain ⟨_, _, rfl, p0, p1, a0, a1, a2, rfl, _, _, rfl, p2, p3, a3, a4, a5, rfl, _, _, rfl, p4, p5, a6, a7, a8, rfl, he⟩ := h
 obtain ⟨v0, v1, o0, o1, rfl, h0, h1, h2, g0, g1⟩ := mEnt_openM he
 exact ⟨v0, v1, o0, o1, rfl, fun k hk => a1 k (a4 k (a7 k (h0 k hk))), fun k hk => a1 k (a4 k (a7 k (h1 k hk))), h2, g0, g1⟩
theorem mChg_mkM {w : World} {base : Nat} {ok o0 o1 : Nat → Prop} {x : S145} {v0 v1 : Value} (h0 : ∀ k, o0 k → ok k) (h1 : ∀ k, o1 k → ok k) (h2 : ∀ k, o0 k → ¬ o1 k) (g0 : Kd.R k151 151 w base o0 v0 x.f3.f0) (g1 : Kd.S k201 201 w base o1 v1 x.f3.f1) : mChg.M w base ok x [.int .i64 x.f0, .int .i64 x.f1, .string x.f2, v0, v1] :=
 ⟨[.int .i64 x.f0], _, rfl, fun _ => False, ok, fun _ h => h.elim, fun _ h => h, fun _ h => h.elim, rfl, [.int .i64 x.f1], _, rfl, fun _ => False, ok, fun _ h => h.elim, fun _ h => h, fun _ h => h.elim, rfl, [.string x.f2], _, rfl, fun _ => False, ok, fun _ h => h.elim, fun _ h => h, fun _ h => h.elim, rfl, mEnt_mkM (x := x.f3) h0 h1 h2 g0 g1⟩
theorem mChg_of {w : World} {base : Nat} {ok : Nat → Prop} {x : S145} {v0 v1 : Value} (g0 : Kd.R k151 151 w base ok v0 x.f3.f0) (g1 : Kd.S k201 201 w base ok v1 x.f3.f1) : mChg.M w base ok x [.int .i64 x.f0, .int .i64 x.f1, .string x.f2, v0, v1] :=
 mChg_mkM (o0 := fun k => some k = v0.ownBlock ∧ ok k) (o1 := fun k => ok k ∧ some k ≠ v0.ownBlock) (fun _ h => h.2) (fun _ h => h.1) (fun _ h h2 => h2.2 h.1) (Kd.R_tight2 rfl g0) (Kd.S_apart' g1 (Kd.R_typed g0) (by decide))
theorem mChg_nil {w : World} {base : Nat} : mChg.M w base (fun _ => False) z145 [.int .i64 0, .int .i64 0, .string ⟨#[]⟩, .slice none 0 0, .slice none 0 0] := mChg_mkM (x := z145) (o0 := fun _ => False) (o1 := fun _ => False) (fun _ h => h) (fun _ h => h) (fun _ h => h.elim) (Kd.R_nil _ _ _ _ _) (Kd.S_nil _ _ _ _ _)
def n_Chg (e : S145) : Nat := 3 + n_Ent e.f3
noncomputable def mk_Chg (x : Int) (e : S145) : S145 := ⟨x, x + 1, markT (x + 2), mk_Ent (x + 3) e.f3⟩
noncomputable def mkCs : Int → List S145 → List S145
 | _, [] => []
 | x, a :: r => mk_Chg x a :: mkCs (x + n_Chg a) r
def nCs : List S145 → Nat
 | [] => 0
 | a :: r => n_Chg a + nCs r
theorem mkCs_len : ∀ (l : List S145) (x : Int), (mkCs x l).length = l.length
 | [], _ => rfl
 | a :: r, x => by simp [mkCs, mkCs_len r]
theorem chg_lend {W : World} {base g n c : Nat} {ok : Nat → Prop} {dn r : List S145} {a : S145} (h : Kd.S mChg 145 W base ok (.slice (some ⟨g, 0, none⟩) n c) (dn ++ a :: r)) :
   ∃ (o0 o1 : Nat → Prop) (A0 : Option Addr) (c0 : Nat) (A1 : Option Addr) (c1 : Nat), W.cell? ⟨g, dn.length * 5, none⟩ = some (.int .i64 a.f0) ∧ W.cell? ⟨g, dn.length * 5 + 1, none⟩ = some (.int .i64 a.f1) ∧ W.cell? ⟨g, dn.length * 5 + 2, none⟩ = some (.string a.f2) ∧ W.cell? ⟨g, dn.length * 5 + 3, none⟩ = some (.slice A0 a.f3.f0.length c0) ∧ W.cell? ⟨g, dn.length * 5 + 4, none⟩ = some (.slice A1 a.f3.f1.length c1) ∧
     (∀ j, W.frozen? ⟨g, dn.length * 5 + j, none⟩ = false) ∧ Kd.R k151 151 W base o0 (.slice A0 a.f3.f0.length c0) a.f3.f0 ∧ Kd.S k201 201 W base o1 (.slice A1 a.f3.f1.length c1) a.f3.f1 ∧ (∀ k, o0 k → ok k ∧ k ≠ g) ∧ (∀ k, o1 k → ok k ∧ k ≠ g) ∧ (∀ k, o0 k → ¬ o1 k) ∧ ok g ∧
     (∀ x y, Kd.S mChg 145 ((W.setCell ⟨g, dn.length * 5, none⟩ (.int .i64 x)).setCell ⟨g, dn.length * 5 + 1, none⟩ (.int .i64 y)) base ok (.slice (some ⟨g, 0, none⟩) n c) (dn ++ ⟨x, y, a.f2, a.f3⟩ :: r)) ∧
     (∀ nm, Kd.S mChg 145 (W.setCell ⟨g, dn.length * 5 + 2, none⟩ (.string nm)) base ok (.slice (some ⟨g, 0, none⟩) n c) (dn ++ ⟨a.f0, a.f1, nm, a.f3⟩ :: r)) ∧
     (∀ W' d' l', Kept W W' (fun k => o0 k ∨ o1 k) → Kd.R k151 151 W' base o0 (.slice A0 a.f3.f0.length c0) d' → Kd.S k201 201 W' base o1 (.slice A1 a.f3.f1.length c1) l' → Kd.S mChg 145 W' base ok (.slice (some ⟨g, 0, none⟩) n c) (dn ++ ⟨a.f0, a.f1, a.f2, ⟨d', l'⟩⟩ :: r)) := by
 have hn := (Kd.S_reads' h).1
 have hlt : ((dn.length : Nat) : Int) < n := by rw [hn, List.length_append, List.length_cons]; omega
 have h0 : (0 : Int) ≤ (dn.length : Nat) := Int.natCast_nonneg _
 obtain ⟨oki, cs, hcl, hM, hcc, hoki, hH⟩ := Kd.S_lend h z145 (dn.length : Nat) h0 hlt
 obtain ⟨_, hfr⟩ := Kd.H_at hH h0 hlt
 rw [Int.toNat_natCast] at hM hcc hfr
 rw [get_mid] at hM
 obtain ⟨v0, v1, o0, o1, rfl, s0, s1, s2, g0, g1⟩ := mChg_openM hM
 obtain ⟨A0, c0, rfl⟩ := Kd.R_slice g0
 obtain ⟨A1, c1, rfl⟩ := Kd.S_slice g1
 refine ⟨o0, o1, A0, c0, A1, c1, hcc 0 _ rfl, hcc 1 _ rfl, hcc 2 _ rfl, hcc 3 _ rfl, hcc 4 _ rfl, hfr, g0, g1, fun k hk => hoki k (s0 k hk), fun k hk => hoki k (s1 k hk), s2, (Kd.S_R h).1 g (by simp [Value.ownBlock]), fun x y => ?_, fun nm => ?_, fun W' d' l' hk hR hS => ?_⟩
 · have hs := (Kd.S_seg0 (okp := oki) hH h0 hlt (seg := [.int .i64 x, .int .i64 y]) (j := 0) (show 0 + 2 ≤ 5 by omega) (x' := ⟨x, y, a.f2, a.f3⟩) (mChg_mkM (x := ⟨x, y, a.f2, a.f3⟩) s0 s1 s2 g0 g1) (fun _ hk => hk)).1
   rw [Int.toNat_natCast, set_mid] at hs
   exact hs
 · have hs := (Kd.S_seg0 (okp := oki) hH h0 hlt (seg := [.string nm]) (j := 2) (show 2 + 1 ≤ 5 by omega) (x' := ⟨a.f0, a.f1, nm, a.f3⟩) (mChg_mkM (x := ⟨a.f0, a.f1, nm, a.f3⟩) s0 s1 s2 g0 g1) (fun _ hk => hk)).1
   rw [Int.toNat_natCast, set_mid] at hs
   exact hs
 · have hs := Kd.H_back (okp := oki) (Kd.H_kept hH hk (fun k _ hn h => hn (h.elim (s0 k) (s1 k)))) (x' := ⟨a.f0, a.f1, a.f2, ⟨d', l'⟩⟩) (mChg_mkM (x := ⟨a.f0, a.f1, a.f2, ⟨d', l'⟩⟩) s0 s1 s2 hR hS) (fun _ hk => hk)
   rw [Int.toNat_natCast, set_mid] at hs
   exact hs
theorem same_slice {W : World} {p : Addr} {A A' : Option Addr} {n n' c c' : Nat} (h : W.cell? p = some (.slice A n c)) (h' : W.cell? p = some (.slice A' n' c')) : A = A' ∧ c = c' := by
 rw [h] at h'
 injection h' with h'
 injection h' with h1 _ h2
 exact ⟨h1, h2⟩
theorem markChgs_c (w0 : World) (ok : Nat → Prop) (A : Option Addr) (n c : Nat) (l : List S145) (x : Int) (w : World) (hB : Below w0.heap.size w0 w) (hS : Kd.S mChg 145 w w0.heap.size ok (.slice A n c) l) (hl : l.length ≤ 4000000000000000000) (h0 : 0 ≤ x) (hx : x + nCs l ≤ 4000000000000000000) :
   Calls Tryz.prog 115 #[.slice A n c, .int .i64 x] w (RetMarkS mChg 145 w0 ok (.slice A n c) (mkCs x l) (x + nCs l) w) := by
 obtain ⟨hn, hnc, q0_⟩ := Kd.S_reads' hS
 subst hn
 clear q0_
 have HB := Aside0.mk hB
 have HS := Aside0.mk hS
 have HL := Aside0.mk hl
 have H0 := Aside0.mk h0
 have HX := Aside0.mk hx
 clear hB hS hl h0 hx
 go_enter Tryz.func115, Tryz.ntmps115
 go_wp2
 go_loopw [1, 5] (fun s1 s5 wr => ∃ (y : Int) (dn rs : List S145), s1 = .int .i64 y ∧ s5 = .int .i64 dn.length ∧ Aside0 (dn.length + rs.length = l.length) ∧ Aside0 (mkCs x l = dn ++ mkCs y rs) ∧ Aside0 (y + nCs rs = x + nCs l ∧ 0 ≤ y) ∧ Aside0 (Kd.S mChg 145 wr w0.heap.size ok (.slice A l.length c) (dn ++ rs)) ∧ Aside0 (Below w0.heap.size w0 wr) ∧ Aside0 (Kept w wr ok)) (fun s1 s5 _ => l.length - (intOf s5).toNat)
 case atStart => exact ⟨x, [], l, rfl, rfl, ⟨by simp⟩, ⟨rfl⟩, ⟨rfl, H0.out⟩, HS, HB, ⟨Kept.refl _ _⟩⟩
 case round =>
   obtain ⟨y, dn, rs, rfl, rfl, HLN, HMK, HY, HSR, HBR, HKR⟩ := hrel
   cases rs with
   | nil =>
     have hlt : ¬ dn.length < l.length := by have := HLN.out; simp at this; omega
     go_wp2
     go_ret
     have e1 := HY.out.1
     have e2 := HMK.out
     simp only [nCs, mkCs, List.append_nil] at e1 e2
     refine ⟨by rw [← e1]; simp, by rw [e2]; have := HSR.out; rwa [List.append_nil] at this, HBR.out, HKR.out⟩
   | cons a r =>
     have hlt : dn.length < l.length := by have := HLN.out; simp at this; omega
     obtain ⟨g, cap, hv, hbg, q1_, q2_⟩ := Kd.S_form HSR.out (by rw [List.length_append, List.length_cons]; omega)
     injection hv with hA q3_ hc
     subst hA hc
     obtain ⟨o0, o1, A0, c0, A1, c1, f0, f1, f2, f3, f4, hfr, g0, g1, s0, s1, s2, hokg, hset, q4_, q5_⟩ := chg_lend HSR.out
     have z0 := hfr 0
     have z1 := hfr 1
     have z2 := hfr 2
     simp only [Nat.add_zero] at z0
     have hy : 0 ≤ y ∧ y + 3 + 2 * a.f3.f0.length ≤ 4000000000000000000 ∧ y + 3 + 2 * a.f3.f0.length + nAs a.f3.f1 ≤ 4000000000000000000 ∧ a.f3.f0.length ≤ 4000000000000000000 ∧ a.f3.f1.length ≤ 4000000000000000000 := by
       have h1 := HY.out.1
       have h2 := HX.out
       have h3 := HY.out.2
       have h4 := nAs_len a.f3.f1
       simp only [nCs, n_Chg, n_Ent] at h1
       omega
     have hw1 : wrap64 (y + 1) = y + 1 := w_id (by omega) (by omega)
     have hw2 : wrap64 (y + 1 + 1) = y + 2 := by rw [show y + 1 + 1 = y + 2 by omega]; exact w_id (by omega) (by omega)
     have hw3 : wrap64 (y + 2 + 1) = y + 3 := by rw [show y + 2 + 1 = y + 3 by omega]; exact w_id (by omega) (by omega)
     have HWI := Aside0.mk (show wrap64 ((dn.length : Int) + 1) = (dn.length : Int) + 1 from wsucc (by omega) (by have := HL.out; omega))
     have HYB := Aside0.mk hy
     have HG := Aside0.mk (show w0.heap.size ≤ g ∧ ok g from ⟨hbg, hokg⟩)
     have HT := Aside0.mk (fun W => markText_c (y + 2) (by omega) W)
     have HSET := Aside0.mk (hset y (y + 1))
     have HLT := Aside0.mk hlt
     have hlt2 : dn.length < l.length := hlt
     clear hbg hokg hlt q1_ q2_ q3_ hy g0 g1 s0 s1 s2 hset q4_ q5_ hfr
     go_wp2_with (first | (go_at_call 80; obtain ⟨w2, hw_⟩ : ∃ w2, (wr.setCell ⟨g, dn.length * 5, none⟩ (.int .i64 y)).setCell ⟨g, dn.length * 5 + 1, none⟩ (.int .i64 (y + 1)) = w2 := ⟨_, rfl⟩; have hs2 := HSET.out; rw [hw_] at hs2 ⊢; have hB2 : Below w0.heap.size w0 w2 := (by rw [← hw_]; exact belowsM (belowsM HBR.out HG.out.1 _ _) HG.out.1 _ _); have hK2 : Kept w w2 ok := (by rw [← hw_]; exact (HKR.out.setCell (p := ⟨g, dn.length * 5, none⟩) (.inl HG.out.2) _).setCell (p := ⟨g, dn.length * 5 + 1, none⟩) (.inl HG.out.2) _); refine (HT.out w2).mono ?_; rintro e w3 ⟨rfl, hb3⟩; have hs3 := Kd.S_below hs2 hb3; have HB3 := Aside0.mk (below_step hB2 hb3); have HK3 := Aside0.mk (hK2.below hb3); obtain ⟨p0, p1, A5, c5, A6, c6, k0, k1, k2, k3, k4, hfr3, q6_, q7_, q8_, q9_, q10_, q11_, q12_, hset3, q13_⟩ := chg_lend hs3; have HSET3 := Aside0.mk (hset3 (markT (y + 2))); have zz2 := hfr3 2; clear hw_ hs2 hB2 hK2 hb3 hs3 k0 k1 q6_ q7_ q8_ q9_ q10_ q11_ q12_ hset3 q13_ hfr3) | (go_at_call 53; obtain ⟨w4, hw_⟩ : ∃ w4, w3.setCell ⟨g, dn.length * 5 + 2, none⟩ (.string (markT (y + 2))) = w4 := ⟨_, rfl⟩; have hs4 := HSET3.out; rw [hw_] at hs4 ⊢; have hB4 : Below w0.heap.size w0 w4 := (by rw [← hw_]; exact belowsM HB3.out HG.out.1 _ _); have hK4 : Kept w w4 ok := (by rw [← hw_]; exact HK3.out.setCell (p := ⟨g, dn.length * 5 + 2, none⟩) (.inl HG.out.2) _); obtain ⟨o0, o1, A7, c7, A8, c8, q14_, q15_, q16_, m3, m4, q17_, g0, g1, s0, s1, s2, q18_, q19_, q20_, hback⟩ := chg_lend hs4; have e3 : w4.cell? ⟨g, dn.length * 5 + 3, none⟩ = some (.slice A5 a.f3.f0.length c5) := (by rw [← hw_, World.cell?_setCell_other _ _ _ _ (by simp)]; exact k3); have e4 : w4.cell? ⟨g, dn.length * 5 + 4, none⟩ = some (.slice A6 a.f3.f1.length c6) := (by rw [← hw_, World.cell?_setCell_other _ _ _ _ (by simp)]; exact k4); obtain ⟨rfl, rfl⟩ := same_slice e3 m3; obtain ⟨rfl, rfl⟩ := same_slice e4 m4; have HS0 := Aside0.mk (And.intro s0 (And.intro s1 s2)); have HBK := Aside0.mk hback; have HG1 := Aside0.mk g1; have HF4 := Aside0.mk (fun (w5 : World) (hk : Kept w4 w5 o0) => (show w5.cell? ⟨g, dn.length * 5 + 4, none⟩ = some (.slice A6 a.f3.f1.length c6) from Go.Proofs.YtmkpgddfoaglpaaGreatDoorW.PrintWords.cell_kept m4 hk (fun h => (s0 g h).2 rfl))); have HK4 := Aside0.mk hK4; have HW4 := Aside0.mk hw_; refine (markRdns_c w0 o0 (.slice A5 a.f3.f0.length c5) a.f3.f0 (y + 3) w4 hB4 g0 HYB.out.2.2.2.1 (by have := HYB.out.1; omega) (by have := HYB.out.2.1; omega)).mono ?_; rintro e w5 ⟨rfl, hR5, hb5, hk5⟩; have HR5 := Aside0.mk hR5; have HB5 := Aside0.mk hb5; have HK5 := Aside0.mk hk5; have f5 := HF4.out w5 hk5; clear hw_ hs4 hB4 hK4 q14_ q15_ q16_ m3 m4 q17_ g0 g1 s0 s1 s2 q18_ q19_ q20_ hback e3 e4 hR5 hb5 hk5) | (go_at_call 82; refine (markAttrs_c w0 o1 A6 a.f3.f1.length c6 a.f3.f1 (y + 3 + 2 * a.f3.f0.length) w5 HB5.out (Kd.S_kept HG1.out HK5.out (fun k hk h => HS0.out.2.2 k h hk)) HYB.out.2.2.2.2 (by have := HYB.out.1; omega) HYB.out.2.2.1).mono ?_; rintro e w6 ⟨rfl, hS6, hb6, hk6⟩; have HS6 := Aside0.mk hS6; have HB6 := Aside0.mk hb6; have HK6 := Aside0.mk hk6; clear hS6 hb6 hk6))
     have hkk := Kept.then_ (HK5.out.mono (S' := fun k => o0 k ∨ o1 k) (fun k hk => Or.inl hk)) (HK6.out.mono (S' := fun k => o0 k ∨ o1 k) (fun k hk => Or.inr hk)) (fun k hk => .inl hk)
     refine ⟨⟨y + n_Chg a, dn ++ [mk_Chg y a], r, ?_, ?_, ⟨?_⟩, ⟨?_⟩, ⟨?_, ?_⟩, ⟨?_⟩, HB6, ⟨?_⟩⟩, ?_⟩
     · show Value.int _ _ = Value.int _ _
       congr 1
       simp only [n_Chg, n_Ent]
       omega
     · rw [HWI.out]
       simp
     · have := HLN.out
       simp only [List.length_append, List.length_cons, List.length_nil] at this ⊢
       omega
     · rw [HMK.out, List.append_assoc]
       rfl
     · have := HY.out.1
       simp only [nCs] at this
       omega
     · have := HY.out.2
       omega
     · rw [List.append_assoc]
       exact HBK.out w6 _ _ hkk (Kd.R_kept HR5.out HK6.out (fun k hk h => HS0.out.2.2 k hk h)) HS6.out
     · exact HK4.out.then_ hkk (fun k hk => .inl (hk.elim (fun h => (HS0.out.1 k h).1) (fun h => (HS0.out.2.1 k h).1)))
     · have := HLT.out
       rw [HWI.out]
       simp [intOf]
       omega
theorem held_Chgs : ∀ (rs dn : List S145) (x : Int), dn.length + rs.length ≤ 4000000000000000000 → 0 ≤ x → x + nCs rs ≤ 4000000000000000000 → Ev (fun k => laws_heldChangeS.l0 k (dn ++ mkCs x rs) x (dn.length : Int)) (x + nCs rs)
 | [], dn, x, hl, h0, hx => Ev_one fun k => by
   rw [laws_heldChangeS.l0, if_neg (by simp [mkCs])]
   simp [nCs]
 | a :: r, dn, x, hl, h0, hx => by
   have hlen := mkCs_len (a :: r) x
   have h1 : (dn.length : Int) < ((dn ++ mkCs x (a :: r)).length : Int) := by rw [List.length_append, hlen, List.length_cons]; omega
   simp only [nCs, n_Chg, n_Ent, List.length_cons] at hx hl ⊢
   have hal := nAs_len a.f3.f1
   have hrd : rd_T145 (dn ++ mkCs x (a :: r)) (dn.length : Int) = mk_Chg x a := rd_mid dn (mk_Chg x a) _ _
   have hs0 := held_Rdn a.f3.f0.length (x + 3) (by omega) (by omega) (by omega)
   have hs1 := held_Attrs a.f3.f1 [] (x + 3 + 2 * a.f3.f0.length) (by simp; omega) (by omega) (by omega)
   have ih := held_Chgs r (dn ++ [mk_Chg x a]) (x + n_Chg a) (by simp; omega) (by omega) (by simp only [n_Chg, n_Ent]; omega)
   have e3 : dn ++ mkCs x (a :: r) = (dn ++ [mk_Chg x a]) ++ mkCs (x + n_Chg a) r := by rw [List.append_assoc]; rfl
   have e4 : (x + 3 + 2 * a.f3.f0.length + nAs a.f3.f1 : Int) = x + n_Chg a := by simp only [n_Chg, n_Ent]; omega
   have hneg : ¬ (x + n_Chg a : Int) < 0 := by omega
   have hneg0 : ¬ (x + 3 + 2 * a.f3.f0.length : Int) < 0 := by omega
   have e5 : (x + n_Chg a + nCs r : Int) = x + ((3 + (2 * a.f3.f0.length + nAs a.f3.f1) + nCs r : Nat) : Int) := by simp only [n_Chg, n_Ent]; omega
   rw [e5] at ih
   have w1 : wrap64 (x + 1) = x + 1 := w_id (by omega) (by omega)
   have w2 : wrap64 (x + 1 + 1) = x + 2 := by rw [show x + 1 + 1 = x + 2 by omega]; exact w_id (by omega) (by omega)
   have w3 : wrap64 (x + 2 + 1) = x + 3 := by rw [show x + 2 + 1 = x + 3 by omega]; exact w_id (by omega) (by omega)
   have hmt := markT_ev (x := x + 2) (by omega)
   have hi0 : (0 : Int) ≤ (dn.length : Int) := by omega
   have hwi : wrap64 ((dn.length : Int) + 1) = ((dn ++ [mk_Chg x a]).length : Int) := by rw [wsucc (by omega) (by omega)]; simp
   refine Ev.step (fun k => by rw [laws_heldChangeS.l0, if_pos h1, if_pos hi0, hrd, w1, w2, w3]) ?_
   refine Ev.congr (fun k => if_pos rfl) ?_
   refine Ev.congr (fun k => if_pos rfl) ?_
   refine Ev_bind hmt ?_
   refine Ev.congr (fun k => if_pos rfl) ?_
   refine Ev_bind hs0 ?_
   refine Ev.congr (fun k => if_neg hneg0) ?_
   refine Ev_bind (show Ev (fun k => laws_heldAttrS.f k (mkAs (x + 3 + 2 * a.f3.f0.length) a.f3.f1) (x + 3 + 2 * a.f3.f0.length)) _ from hs1) ?_
   rw [e4]
   refine Ev.congr (fun k => if_neg hneg) ?_
   rw [hwi, e3]
   exact ih
end Go.Proofs.YtmkpgddfoaglpaaGreatDoor.PG
