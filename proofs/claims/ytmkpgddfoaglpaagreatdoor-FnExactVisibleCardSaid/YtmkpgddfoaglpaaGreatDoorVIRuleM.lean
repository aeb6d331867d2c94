/-
 Rows of Rule whose rows all lie apart: the kind, and marks of []Rule (laws.markRuleS, walked by hand). Conditions: the marks' numbers stay small.
-/
import Derived.Test.YtmkpgddfoaglpaaGreatDoorVIP2
import Derived.Test.YtmkpgddfoaglpaaGreatDoorVIQVisiblea
import Derived.Test.YtmkpgddfoaglpaaGreatDoorVIMarkRdnC
namespace Go.Proofs.YtmkpgddfoaglpaaGreatDoor.PG
set_option linter.unusedVariables false
set_option linter.unusedSimpArgs false
open Go.RowKit Go.Proofs.YtmkpgddfoaglpaaGreatDoorW.PrintWords Go.Proofs.YtmkpgddfoaglpaaGreatDoorW.PrintLast Go.Proofs.YtmkpgddfoaglpaaGreatDoorW.PrintMore Go.Proofs.YtmkpgddfoaglpaaGreatDoor.Gn
attribute [local go_sem] max2_int min2_int max_two min_two max_three min_three max_four min_four World.cell?_drew World.frozen?_drew
def mRule : Kd S108 := Kd.iso (kap Kd.string (kap (Kd.slice 151 k151) (kap (Kd.slice 9 Kd.string) (kap (Kd.int .i64) Kd.bool)))) (fun x : S108 => (x.f0, x.f1, x.f2, x.f3, x.f4))
theorem mRule_openM {w : World} {base : Nat} {ok : Nat → Prop} {x : S108} {cs : List Value} (h : mRule.M w base ok x cs) : ∃ (v0 v1 : Value) (o0 o1 : Nat → Prop), cs = [.string x.f0, v0, v1, .int .i64 x.f3, .bool x.f4] ∧ (∀ k, o0 k → ok k) ∧ (∀ k, o1 k → ok k) ∧ (∀ k, o0 k → ¬ o1 k) ∧ Kd.R k151 151 w base o0 v0 x.f1 ∧ Kd.R Kd.string 9 w base o1 v1 x.f2 := by
 obtain ⟨_, _, rfl, p0, p1, a0, a1, a2, rfl, _, _, rfl, p2, p3, a3, a4, a5, ⟨v0, rfl, g0⟩, _, _, rfl, p4, p5, a6, a7, a8, ⟨v1, rfl, g1⟩, _, _, rfl, p6, p7, _, _, _, rfl, rfl⟩ := h
 exact ⟨v0, v1, p2, p4, rfl, fun k hk => a1 k (a3 k hk), fun k hk => a1 k (a4 k (a6 k hk)), fun k hk h2 => a5 k hk (a6 k h2), g0, g1⟩
theorem mRule_mkM {w : World} {base : Nat} {ok o0 o1 : Nat → Prop} {x : S108} {v0 v1 : Value} (h0 : ∀ k, o0 k → ok k) (h1 : ∀ k, o1 k → ok k) (h2 : ∀ k, o0 k → ¬ o1 k) (g0 : Kd.R k151 151 w base o0 v0 x.f1) (g1 : Kd.R Kd.string 9 w base o1 v1 x.f2) : mRule.M w base ok x [.string x.f0, v0, v1, .int .i64 x.f3, .bool x.f4] :=
 ⟨[.string x.f0], _, rfl, fun _ => False, ok, fun _ h => h.elim, fun _ h => h, fun _ h => h.elim, rfl, [v0], _, rfl, o0, o1, h0, h1, h2, ⟨v0, rfl, g0⟩, [v1], _, rfl, o1, fun _ => False, fun _ h => h, fun _ h => h.elim, fun _ _ h => h, ⟨v1, rfl, g1⟩, [.int .i64 x.f3], [.bool x.f4], rfl, fun _ => False, fun _ => False, fun _ h => h.elim, fun _ h => h.elim, fun _ h => h.elim, rfl, rfl⟩
theorem mRule_of {w : World} {base : Nat} {ok : Nat → Prop} {x : S108} {v0 v1 : Value} (g0 : Kd.R k151 151 w base ok v0 x.f1) (g1 : Kd.R Kd.string 9 w base ok v1 x.f2) : mRule.M w base ok x [.string x.f0, v0, v1, .int .i64 x.f3, .bool x.f4] :=
 mRule_mkM (o0 := fun k => some k = v0.ownBlock ∧ ok k) (o1 := fun k => ok k ∧ some k ≠ v0.ownBlock) (fun _ h => h.2) (fun _ h => h.1) (fun _ h h2 => h2.2 h.1) (Kd.R_tight2 rfl g0) (Kd.R_apart' g1 (Kd.R_typed g0) (by decide))
theorem mRule_nil {w : World} {base : Nat} : mRule.M w base (fun _ => False) z108 [.string ⟨#[]⟩, .slice none 0 0, .slice none 0 0, .int .i64 0, .bool false] := mRule_mkM (x := z108) (o0 := fun _ => False) (o1 := fun _ => False) (fun _ h => h) (fun _ h => h) (fun _ h => h.elim) (Kd.R_nil _ _ _ _ _) (Kd.R_nil _ _ _ _ _)
def n_Rule (e : S108) : Nat := 3 + 2 * e.f1.length + e.f2.length
noncomputable def mk_Rule (x : Int) (e : S108) : S108 := ⟨markT x, mkL mk_Rdn 2 (x + 1) e.f1.length, mkL markT 1 (x + 1 + 2 * e.f1.length) e.f2.length, x + 1 + 2 * e.f1.length + e.f2.length, Int.tmod (x + 1 + 2 * e.f1.length + e.f2.length + 1) 3 == 0⟩
noncomputable def mkRs : Int → List S108 → List S108
 | _, [] => []
 | x, a :: r => mk_Rule x a :: mkRs (x + n_Rule a) r
def nRs : List S108 → Nat
 | [] => 0
 | a :: r => n_Rule a + nRs r
theorem rule_lend {W : World} {base g n c : Nat} {ok : Nat → Prop} {dn r : List S108} {a : S108} (h : Kd.S mRule 108 W base ok (.slice (some ⟨g, 0, none⟩) n c) (dn ++ a :: r)) :
   ∃ (o0 o1 : Nat → Prop) (A0 : Option Addr) (c0 : Nat) (A1 : Option Addr) (c1 : Nat), W.cell? ⟨g, dn.length * 5, none⟩ = some (.string a.f0) ∧ W.cell? ⟨g, dn.length * 5 + 1, none⟩ = some (.slice A0 a.f1.length c0) ∧ W.cell? ⟨g, dn.length * 5 + 2, none⟩ = some (.slice A1 a.f2.length c1) ∧ W.cell? ⟨g, dn.length * 5 + 3, none⟩ = some (.int .i64 a.f3) ∧ W.cell? ⟨g, dn.length * 5 + 4, none⟩ = some (.bool a.f4) ∧
     (∀ j, W.frozen? ⟨g, dn.length * 5 + j, none⟩ = false) ∧ Kd.R k151 151 W base o0 (.slice A0 a.f1.length c0) a.f1 ∧ Kd.R Kd.string 9 W base o1 (.slice A1 a.f2.length c1) a.f2 ∧ (∀ k, o0 k → ok k ∧ k ≠ g) ∧ (∀ k, o1 k → ok k ∧ k ≠ g) ∧ (∀ k, o0 k → ¬ o1 k) ∧ ok g ∧
     (∀ nm, Kd.S mRule 108 (W.setCell ⟨g, dn.length * 5, none⟩ (.string nm)) base ok (.slice (some ⟨g, 0, none⟩) n c) (dn ++ ⟨nm, a.f1, a.f2, a.f3, a.f4⟩ :: r)) ∧
     (∀ x b, Kd.S mRule 108 ((W.setCell ⟨g, dn.length * 5 + 3, none⟩ (.int .i64 x)).setCell ⟨g, dn.length * 5 + 4, none⟩ (.bool b)) base ok (.slice (some ⟨g, 0, none⟩) n c) (dn ++ ⟨a.f0, a.f1, a.f2, x, b⟩ :: r)) ∧
     (∀ W' d' s', Kept W W' (fun k => o0 k ∨ o1 k) → Kd.R k151 151 W' base o0 (.slice A0 a.f1.length c0) d' → Kd.R Kd.string 9 W' base o1 (.slice A1 a.f2.length c1) s' → Kd.S mRule 108 W' base ok (.slice (some ⟨g, 0, none⟩) n c) (dn ++ ⟨a.f0, d', s', a.f3, a.f4⟩ :: r)) := by
 have hn := (Kd.S_reads' h).1
 have hlt : ((dn.length : Nat) : Int) < n := by rw [hn, List.length_append, List.length_cons]; omega
 have h0 : (0 : Int) ≤ (dn.length : Nat) := Int.natCast_nonneg _
 obtain ⟨oki, cs, hcl, hM, hcc, hoki, hH⟩ := Kd.S_lend h z108 (dn.length : Nat) h0 hlt
 obtain ⟨_, hfr⟩ := Kd.H_at hH h0 hlt
 rw [Int.toNat_natCast] at hM hcc hfr
 rw [get_mid] at hM
 obtain ⟨v0, v1, o0, o1, rfl, s0, s1, s2, g0, g1⟩ := mRule_openM hM
 obtain ⟨A0, c0, rfl⟩ := Kd.R_slice g0
 obtain ⟨A1, c1, rfl⟩ := Kd.R_slice g1
 refine ⟨o0, o1, A0, c0, A1, c1, hcc 0 _ rfl, hcc 1 _ rfl, hcc 2 _ rfl, hcc 3 _ rfl, hcc 4 _ rfl, hfr, g0, g1, fun k hk => hoki k (s0 k hk), fun k hk => hoki k (s1 k hk), s2, (Kd.S_R h).1 g (by simp [Value.ownBlock]), fun nm => ?_, fun x b => ?_, fun W' d' s' hk hR hS => ?_⟩
 · have hs := (Kd.S_seg0 (okp := oki) hH h0 hlt (seg := [.string nm]) (j := 0) (show 0 + 1 ≤ 5 by omega) (x' := ⟨nm, a.f1, a.f2, a.f3, a.f4⟩) (mRule_mkM (x := ⟨nm, a.f1, a.f2, a.f3, a.f4⟩) s0 s1 s2 g0 g1) (fun _ hk => hk)).1
   rw [Int.toNat_natCast, set_mid] at hs
   exact hs
 · have hs := (Kd.S_seg0 (okp := oki) hH h0 hlt (seg := [.int .i64 x, .bool b]) (j := 3) (show 3 + 2 ≤ 5 by omega) (x' := ⟨a.f0, a.f1, a.f2, x, b⟩) (mRule_mkM (x := ⟨a.f0, a.f1, a.f2, x, b⟩) s0 s1 s2 g0 g1) (fun _ hk => hk)).1
   rw [Int.toNat_natCast, set_mid] at hs
   exact hs
 · have hs := Kd.H_back (okp := oki) (Kd.H_kept hH hk (fun k _ hn h => hn (h.elim (s0 k) (s1 k)))) (x' := ⟨a.f0, d', s', a.f3, a.f4⟩) (mRule_mkM (x := ⟨a.f0, d', s', a.f3, a.f4⟩) s0 s1 s2 hR hS) (fun _ hk => hk)
   rw [Int.toNat_natCast, set_mid] at hs
   exact hs
theorem same_slice {W : World} {p : Addr} {A A' : Option Addr} {n n' c c' : Nat} (h : W.cell? p = some (.slice A n c)) (h' : W.cell? p = some (.slice A' n' c')) : A = A' ∧ c = c' := by
 rw [h] at h'
 injection h' with h'
 injection h' with h1 _ h2
 exact ⟨h1, h2⟩
set_option maxHeartbeats 8000000 in
set_option maxRecDepth 100000 in
theorem markRules_c (w0 : World) (ok : Nat → Prop) (A : Option Addr) (n c : Nat) (l : List S108) (x : Int) (w : World) (hB : Below w0.heap.size w0 w) (hS : Kd.S mRule 108 w w0.heap.size ok (.slice A n c) l) (hl : l.length ≤ 4000000000000000000) (h0 : 0 ≤ x) (hx : x + nRs l ≤ 4000000000000000000) :
   Calls Tryz.prog 20 #[.slice A n c, .int .i64 x] w (RetMarkS mRule 108 w0 ok (.slice A n c) (mkRs x l) (x + nRs l) w) := by
 obtain ⟨hn, hnc, q0_⟩ := Kd.S_reads' hS
 subst hn
 clear q0_
 have HB := Aside0.mk hB
 have HS := Aside0.mk hS
 have HL := Aside0.mk hl
 have H0 := Aside0.mk h0
 have HX := Aside0.mk hx
 clear hB hS hl h0 hx
 go_enter Tryz.func20, Tryz.ntmps20
 go_wp2
 go_loopw [1, 5] (fun s1 s5 wr => ∃ (y : Int) (dn rs : List S108), s1 = .int .i64 y ∧ s5 = .int .i64 dn.length ∧ Aside0 (dn.length + rs.length = l.length) ∧ Aside0 (mkRs x l = dn ++ mkRs y rs) ∧ Aside0 (y + nRs rs = x + nRs l ∧ 0 ≤ y) ∧ Aside0 (Kd.S mRule 108 wr w0.heap.size ok (.slice A l.length c) (dn ++ rs)) ∧ Aside0 (Below w0.heap.size w0 wr) ∧ Aside0 (Kept w wr ok)) (fun s1 s5 _ => l.length - (intOf s5).toNat)
 case atStart => exact ⟨x, [], l, rfl, rfl, ⟨by simp⟩, ⟨rfl⟩, ⟨rfl, H0.out⟩, HS, HB, ⟨Kept.refl _ _⟩⟩
 case round =>
   obtain ⟨y, dn, rs, rfl, rfl, HLN, HMK, HY, HSR, HBR, HKR⟩ := hrel
   cases rs with
   | nil =>
     have hlt : ¬ dn.length < l.length := by have := HLN.out; simp at this; omega
     go_wp2
     go_ret
     have e1 := HY.out.1
     have e2 := HMK.out
     simp only [nRs, mkRs, List.append_nil] at e1 e2
     refine ⟨by rw [← e1]; simp, by rw [e2]; have := HSR.out; rwa [List.append_nil] at this, HBR.out, HKR.out⟩
   | cons a r =>
     have hlt : dn.length < l.length := by have := HLN.out; simp at this; omega
     obtain ⟨g, cap, hv, hbg, q1_, q2_⟩ := Kd.S_form HSR.out (by rw [List.length_append, List.length_cons]; omega)
     injection hv with hA q3_ hc
     subst hA hc
     obtain ⟨o0, o1, A0, c0, A1, c1, f0, f1, f2, f3, f4, hfr, g0, g1, s0, s1, s2, hokg, hset, q4_, q5_⟩ := rule_lend HSR.out
     have hy : 0 ≤ y ∧ y + 1 + 2 * a.f1.length ≤ 4000000000000000000 ∧ y + 1 + 2 * a.f1.length + a.f2.length + 2 ≤ 4000000000000000000 ∧ a.f1.length ≤ 4000000000000000000 ∧ a.f2.length ≤ 4000000000000000000 := by
       have h1 := HY.out.1
       have h2 := HX.out
       have h3 := HY.out.2
       simp only [nRs, n_Rule] at h1
       omega
     have hw1 : wrap64 (y + 1) = y + 1 := w_id (by omega) (by omega)
     have hw2 : wrap64 (y + 1 + 2 * (a.f1.length : Int) + (a.f2.length : Int) + 1) = y + 1 + 2 * (a.f1.length : Int) + (a.f2.length : Int) + 1 := w_id (by omega) (by omega)
     have hw3 : wrap64 (y + 1 + 2 * (a.f1.length : Int) + (a.f2.length : Int) + 1 + 1) = y + 1 + 2 * (a.f1.length : Int) + (a.f2.length : Int) + 1 + 1 := w_id (by omega) (by omega)
     have HWI := Aside0.mk (show wrap64 ((dn.length : Int) + 1) = (dn.length : Int) + 1 from wsucc (by omega) (by have := HL.out; omega))
     have HYB := Aside0.mk hy
     have HG := Aside0.mk (show w0.heap.size ≤ g ∧ ok g from ⟨hbg, hokg⟩)
     have HT := Aside0.mk (fun W => markText_c y (by omega) W)
     have HLT := Aside0.mk hlt
     have hlt2 : dn.length < l.length := hlt
     clear hbg hokg hlt q1_ q2_ q3_ hy g0 g1 s0 s1 s2 hset q4_ q5_ hfr f0 f1 f2 f3 f4
     go_wp2_with (first | (go_at_call 80; refine (HT.out wr).mono ?_; rintro e w2 ⟨rfl, hb2⟩; have hs2 := Kd.S_below HSR.out hb2; have HB2 := Aside0.mk (below_step HBR.out hb2); have HK2 := Aside0.mk (HKR.out.below hb2); obtain ⟨p0, p1, A2, c2, A3, c3, k0, k1, k2, k3, k4, hfr2, q6_, q7_, q8_, q9_, q10_, q11_, hset2, q12_, q13_⟩ := rule_lend hs2; have HSET2 := Aside0.mk (hset2 (markT y)); have zz0 := hfr2 0; rw [Nat.add_zero] at zz0; clear hb2 hs2 k3 k4 q6_ q7_ q8_ q9_ q10_ q11_ q12_ hset2 q13_ hfr2) | (go_at_call 53; obtain ⟨w4, hw_⟩ : ∃ w4, w2.setCell ⟨g, dn.length * 5, none⟩ (.string (markT y)) = w4 := ⟨_, rfl⟩; have hs4 := HSET2.out; rw [hw_] at hs4 ⊢; have hB4 : Below w0.heap.size w0 w4 := (by rw [← hw_]; exact belowsM HB2.out HG.out.1 _ _); have hK4 : Kept w w4 ok := (by rw [← hw_]; exact HK2.out.setCell (p := ⟨g, dn.length * 5, none⟩) (.inl HG.out.2) _); obtain ⟨o0, o1, A4, c4, A5, c5, q14_, m1, m2, q15_, q16_, q17_, g0, g1, s0, s1, s2, q18_, q19_, q20_, hback⟩ := rule_lend hs4; have e1 : w4.cell? ⟨g, dn.length * 5 + 1, none⟩ = some (.slice A2 a.f1.length c2) := (by rw [← hw_, World.cell?_setCell_other _ _ _ _ (by simp)]; exact k1); obtain ⟨rfl, rfl⟩ := same_slice e1 m1; have HS0 := Aside0.mk (And.intro s0 (And.intro s1 s2)); have HBK := Aside0.mk hback; have HG1 := Aside0.mk g1; have HF4 := Aside0.mk (fun (w5 : World) (hk : Kept w4 w5 o0) => (show w5.cell? ⟨g, dn.length * 5 + 2, none⟩ = some (.slice A5 a.f2.length c5) from Go.Proofs.YtmkpgddfoaglpaaGreatDoorW.PrintWords.cell_kept m2 hk (fun h => (s0 g h).2 rfl))); have HK4 := Aside0.mk hK4; refine (markRdns_c w0 o0 (.slice A2 a.f1.length c2) a.f1 (y + 1) w4 hB4 g0 HYB.out.2.2.2.1 (by have := HYB.out.1; omega) HYB.out.2.1).mono ?_; rintro e w5 ⟨rfl, hR5, hb5, hk5⟩; have HR5 := Aside0.mk hR5; have HB5 := Aside0.mk hb5; have HK5 := Aside0.mk hk5; have f5 := HF4.out w5 hk5; clear hw_ hs4 hB4 hK4 q14_ m1 m2 q15_ q16_ q17_ g0 g1 s0 s1 s2 q18_ q19_ q20_ hback e1 hR5 hb5 hk5) | (go_at_call 81; refine (markStrs_c w0 o1 (.slice A5 a.f2.length c5) a.f2 (y + 1 + 2 * a.f1.length) w5 HB5.out (Kd.R_kept HG1.out HK5.out (fun k hk h => HS0.out.2.2 k h hk)) HYB.out.2.2.2.2 (by have := HYB.out.1; omega) (by have := HYB.out.2.2.1; omega)).mono ?_; rintro e w6 ⟨rfl, hR6, hb6, hk6⟩; have hkk := Kept.then_ (HK5.out.mono (S' := fun k => o0 k ∨ o1 k) (fun k hk => Or.inl hk)) (hk6.mono (S' := fun k => o0 k ∨ o1 k) (fun k hk => Or.inr hk)) (fun k hk => .inl hk); have hs6 := HBK.out w6 _ _ hkk (Kd.R_kept HR5.out hk6 (fun k hk h => HS0.out.2.2 k hk h)) hR6; have HK6 := Aside0.mk (HK4.out.then_ hkk (fun k hk => .inl (hk.elim (fun h => (HS0.out.1 k h).1) (fun h => (HS0.out.2.1 k h).1)))); have HB6 := Aside0.mk hb6; obtain ⟨r0, r1, A7, c7, A8, c8, q21_, q22_, q23_, n3, n4, hfr6, q24_, q25_, q26_, q27_, q28_, q29_, q30_, hset6, q31_⟩ := rule_lend hs6; have HSET6 := Aside0.mk hset6; have zz3 := hfr6 3; have zz4 := hfr6 4; clear hR6 hb6 hk6 hkk hs6 hfr6 q21_ q22_ q23_ q24_ q25_ q26_ q27_ q28_ q29_ q30_ hset6 q31_))
     refine ⟨⟨y + n_Rule a, dn ++ [mk_Rule y a], r, ?_, ?_, ⟨?_⟩, ⟨?_⟩, ⟨?_, ?_⟩, ⟨?_⟩, ⟨?_⟩, ⟨?_⟩⟩, ?_⟩
     · show Value.int _ _ = Value.int _ _
       congr 1
       simp only [n_Rule]
       omega
     · rw [HWI.out]
       simp
     · have := HLN.out
       simp only [List.length_append, List.length_cons, List.length_nil] at this ⊢
       omega
     · rw [HMK.out, List.append_assoc]
       rfl
     · have := HY.out.1
       simp only [nRs] at this
       omega
     · have := HY.out.2
       omega
     · rw [List.append_assoc]
       exact HSET6.out _ _
     · exact belowsM (belowsM HB6.out HG.out.1 _ _) HG.out.1 _ _
     · exact (HK6.out.setCell (p := ⟨g, dn.length * 5 + 3, none⟩) (.inl HG.out.2) _).setCell (p := ⟨g, dn.length * 5 + 4, none⟩) (.inl HG.out.2) _
     · have := HLT.out
       rw [HWI.out]
       simp [intOf]
       omega
end Go.Proofs.YtmkpgddfoaglpaaGreatDoor.PG
