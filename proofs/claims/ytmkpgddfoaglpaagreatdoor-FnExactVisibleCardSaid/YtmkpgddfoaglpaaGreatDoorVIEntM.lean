/-
 Rows of Entry whose rows all lie apart: the kind, marks of []Entry (laws.markEntryS, walked by hand) and that they are found again (laws.heldEntryS). Conditions: the marks' numbers stay small.
-/
import Derived.Test.YtmkpgddfoaglpaaGreatDoorVIP1
import Derived.Test.YtmkpgddfoaglpaaGreatDoorVIQVisiblea
import Derived.Test.YtmkpgddfoaglpaaGreatDoorVIMarkRdnC
namespace Go.Proofs.YtmkpgddfoaglpaaGreatDoor.PG
set_option linter.unusedVariables false
set_option linter.unusedSimpArgs false
open Go.RowKit Go.Proofs.YtmkpgddfoaglpaaGreatDoorW.PrintWords Go.Proofs.YtmkpgddfoaglpaaGreatDoorW.PrintLast Go.Proofs.YtmkpgddfoaglpaaGreatDoorW.PrintMore Go.Proofs.YtmkpgddfoaglpaaGreatDoor.Gn
attribute [local go_sem] max2_int min2_int max_two min_two max_three min_three max_four min_four World.cell?_drew World.frozen?_drew
def mEnt : Kd S44 := Kd.iso (kap (Kd.slice 151 k151) (ksl 201 k201)) (fun x : S44 => (x.f0, x.f1))
theorem mEnt_openM {w : World} {base : Nat} {ok : Nat → Prop} {x : S44} {cs : List Value} (h : mEnt.M w base ok x cs) : ∃ (v0 v1 : Value) (o0 o1 : Nat → Prop), cs = [v0, v1] ∧ (∀ k, o0 k → ok k) ∧ (∀ k, o1 k → ok k) ∧ (∀ k, o0 k → ¬ o1 k) ∧ Kd.R k151 151 w base o0 v0 x.f0 ∧ Kd.S k201 201 w base o1 v1 x.f1 := by
 obtain ⟨_, _, rfl, o0, o1, h0, h1, h2, ⟨v0, rfl, g0⟩, ⟨v1, rfl, g1⟩⟩ := h
 exact ⟨v0, v1, o0, o1, rfl, h0, h1, h2, g0, g1⟩
theorem mEnt_mkM {w : World} {base : Nat} {ok o0 o1 : Nat → Prop} {x : S44} {v0 v1 : Value} (h0 : ∀ k, o0 k → ok k) (h1 : ∀ k, o1 k → ok k) (h2 : ∀ k, o0 k → ¬ o1 k) (g0 : Kd.R k151 151 w base o0 v0 x.f0) (g1 : Kd.S k201 201 w base o1 v1 x.f1) : mEnt.M w base ok x [v0, v1] :=
 ⟨_, _, rfl, o0, o1, h0, h1, h2, ⟨v0, rfl, g0⟩, ⟨v1, rfl, g1⟩⟩
theorem mEnt_of {w : World} {base : Nat} {ok : Nat → Prop} {d : List S151} {l : List S201} {v0 v1 : Value} (g0 : Kd.R k151 151 w base ok v0 d) (g1 : Kd.S k201 201 w base ok v1 l) : mEnt.M w base ok ⟨d, l⟩ [v0, v1] :=
 mEnt_mkM (o0 := fun k => some k = v0.ownBlock ∧ ok k) (o1 := fun k => ok k ∧ some k ≠ v0.ownBlock) (fun _ h => h.2) (fun _ h => h.1) (fun _ h h2 => h2.2 h.1) (Kd.R_tight2 rfl g0) (Kd.S_apart' g1 (Kd.R_typed g0) (by decide))
theorem mEnt_nil {w : World} {base : Nat} : mEnt.M w base (fun _ => False) z44 [.slice none 0 0, .slice none 0 0] := mEnt_mkM (o0 := fun _ => False) (o1 := fun _ => False) (fun _ h => h) (fun _ h => h) (fun _ h => h.elim) (Kd.R_nil _ _ _ _ _) (Kd.S_nil _ _ _ _ _)
def n_Ent (e : S44) : Nat := 2 * e.f0.length + nAs e.f1
noncomputable def mk_Ent (x : Int) (e : S44) : S44 := ⟨mkL mk_Rdn 2 x e.f0.length, mkAs (x + 2 * e.f0.length) e.f1⟩
noncomputable def mkEs : Int → List S44 → List S44
 | _, [] => []
 | x, a :: r => mk_Ent x a :: mkEs (x + n_Ent a) r
def nEs : List S44 → Nat
 | [] => 0
 | a :: r => n_Ent a + nEs r
theorem nAs_len : ∀ l : List S201, l.length ≤ nAs l
 | [] => Nat.le_refl _
 | a :: r => by
   have := nAs_len r
   simp only [nAs, n_Attr, List.length_cons]
   omega
theorem mkAs_len : ∀ (l : List S201) (x : Int), (mkAs x l).length = l.length
 | [], _ => rfl
 | a :: r, x => by simp [mkAs, mkAs_len r]
theorem mkEs_len : ∀ (l : List S44) (x : Int), (mkEs x l).length = l.length
 | [], _ => rfl
 | a :: r, x => by simp [mkEs, mkEs_len r]
theorem ent_lend {W : World} {base g n c : Nat} {ok : Nat → Prop} {dn r : List S44} {a : S44} (h : Kd.S mEnt 44 W base ok (.slice (some ⟨g, 0, none⟩) n c) (dn ++ a :: r)) :
   ∃ (o0 o1 : Nat → Prop) (A0 : Option Addr) (c0 : Nat) (A1 : Option Addr) (c1 : Nat), W.cell? ⟨g, dn.length * 2, none⟩ = some (.slice A0 a.f0.length c0) ∧ W.cell? ⟨g, dn.length * 2 + 1, none⟩ = some (.slice A1 a.f1.length c1) ∧ Kd.R k151 151 W base o0 (.slice A0 a.f0.length c0) a.f0 ∧ Kd.S k201 201 W base o1 (.slice A1 a.f1.length c1) a.f1 ∧ (∀ k, o0 k → ok k ∧ k ≠ g) ∧ (∀ k, o1 k → ok k ∧ k ≠ g) ∧ (∀ k, o0 k → ¬ o1 k) ∧ ok g ∧
     (∀ W' d' l', Kept W W' (fun k => o0 k ∨ o1 k) → Kd.R k151 151 W' base o0 (.slice A0 a.f0.length c0) d' → Kd.S k201 201 W' base o1 (.slice A1 a.f1.length c1) l' → Kd.S mEnt 44 W' base ok (.slice (some ⟨g, 0, none⟩) n c) (dn ++ ⟨d', l'⟩ :: r)) := by
 have hn := (Kd.S_reads' h).1
 have hlt : ((dn.length : Nat) : Int) < n := by rw [hn, List.length_append, List.length_cons]; omega
 have h0 : (0 : Int) ≤ (dn.length : Nat) := Int.natCast_nonneg _
 obtain ⟨oki, cs, hcl, hM, hcc, hoki, hH⟩ := Kd.S_lend h z44 (dn.length : Nat) h0 hlt
 rw [Int.toNat_natCast] at hM hcc
 rw [get_mid] at hM
 obtain ⟨v0, v1, o0, o1, rfl, s0, s1, s2, g0, g1⟩ := mEnt_openM hM
 obtain ⟨A0, c0, rfl⟩ := Kd.R_slice g0
 obtain ⟨A1, c1, rfl⟩ := Kd.S_slice g1
 refine ⟨o0, o1, A0, c0, A1, c1, hcc 0 _ rfl, hcc 1 _ rfl, g0, g1, fun k hk => hoki k (s0 k hk), fun k hk => hoki k (s1 k hk), s2, (Kd.S_R h).1 g (by simp [Value.ownBlock]), fun W' d' l' hk hR hS => ?_⟩
 have hs := Kd.H_back (okp := oki) (Kd.H_kept hH hk (fun k _ hn h => hn (h.elim (s0 k) (s1 k)))) (x' := ⟨d', l'⟩) (mEnt_mkM s0 s1 s2 hR hS) (fun _ hk => hk)
 rw [Int.toNat_natCast, set_mid] at hs
 exact hs
set_option maxHeartbeats 4000000 in
set_option maxRecDepth 100000 in
theorem markEnts_c (w0 : World) (ok : Nat → Prop) (A : Option Addr) (n c : Nat) (l : List S44) (x : Int) (w : World) (hB : Below w0.heap.size w0 w) (hS : Kd.S mEnt 44 w w0.heap.size ok (.slice A n c) l) (hl : l.length ≤ 4000000000000000000) (h0 : 0 ≤ x) (hx : x + nEs l ≤ 4000000000000000000) :
   Calls Tryz.prog 21 #[.slice A n c, .int .i64 x] w (RetMarkS mEnt 44 w0 ok (.slice A n c) (mkEs x l) (x + nEs l) w) := by
 obtain ⟨hn, hnc, q0_⟩ := Kd.S_reads' hS
 subst hn
 clear q0_
 have HB := Aside0.mk hB
 have HS := Aside0.mk hS
 have HL := Aside0.mk hl
 have H0 := Aside0.mk h0
 have HX := Aside0.mk hx
 clear hB hS hl h0 hx
 go_enter Tryz.func21, Tryz.ntmps21
 go_wp2
 go_loopw [1, 5] (fun s1 s5 wr => ∃ (y : Int) (dn rs : List S44), s1 = .int .i64 y ∧ s5 = .int .i64 dn.length ∧ Aside0 (dn.length + rs.length = l.length) ∧ Aside0 (mkEs x l = dn ++ mkEs y rs) ∧ Aside0 (y + nEs rs = x + nEs l ∧ 0 ≤ y) ∧ Aside0 (Kd.S mEnt 44 wr w0.heap.size ok (.slice A l.length c) (dn ++ rs)) ∧ Aside0 (Below w0.heap.size w0 wr) ∧ Aside0 (Kept w wr ok)) (fun s1 s5 _ => l.length - (intOf s5).toNat)
 case atStart => exact ⟨x, [], l, rfl, rfl, ⟨by simp⟩, ⟨rfl⟩, ⟨rfl, H0.out⟩, HS, HB, ⟨Kept.refl _ _⟩⟩
 case round =>
   obtain ⟨y, dn, rs, rfl, rfl, HLN, HMK, HY, HSR, HBR, HKR⟩ := hrel
   cases rs with
   | nil =>
     have hlt : ¬ dn.length < l.length := by have := HLN.out; simp at this; omega
     go_wp2
     go_ret
     have e1 := HY.out.1
     have e2 := HMK.out
     simp only [nEs, mkEs, List.append_nil] at e1 e2
     refine ⟨by rw [← e1]; simp, by rw [e2]; have := HSR.out; rwa [List.append_nil] at this, HBR.out, HKR.out⟩
   | cons a r =>
     have hlt : dn.length < l.length := by have := HLN.out; simp at this; omega
     obtain ⟨g, cap, hv, hbg, q1_, q2_⟩ := Kd.S_form HSR.out (by rw [List.length_append, List.length_cons]; omega)
     injection hv with hA q3_ hc
     subst hA hc
     obtain ⟨o0, o1, A0, c0, A1, c1, f0, f1, g0, g1, s0, s1, s2, hokg, hback⟩ := ent_lend HSR.out
     have hy : 0 ≤ y ∧ y + 2 * a.f0.length ≤ 4000000000000000000 ∧ y + 2 * a.f0.length + nAs a.f1 ≤ 4000000000000000000 ∧ a.f0.length ≤ 4000000000000000000 ∧ a.f1.length ≤ 4000000000000000000 := by
       have h1 := HY.out.1
       have h2 := HX.out
       have h3 := HY.out.2
       have h4 := nAs_len a.f1
       simp only [nEs, n_Ent] at h1
       omega
     have HWI := Aside0.mk (show wrap64 ((dn.length : Int) + 1) = (dn.length : Int) + 1 from wsucc (by omega) (by have := HL.out; omega))
     have HC0 := Aside0.mk (markRdns_c w0 o0 (.slice A0 a.f0.length c0) a.f0 y wr HBR.out g0 hy.2.2.2.1 hy.1 hy.2.1)
     have HC1 := Aside0.mk (fun (w2 : World) (hb2 : Below w0.heap.size w0 w2) (hk2 : Kept wr w2 o0) => markAttrs_c w0 o1 A1 a.f1.length c1 a.f1 (y + 2 * a.f0.length) w2 hb2 (Kd.S_kept g1 hk2 (fun k hk h => s2 k h hk)) hy.2.2.2.2 (by omega) hy.2.2.1)
     have HF1 := Aside0.mk (fun (w2 : World) (hk2 : Kept wr w2 o0) => (show w2.cell? ⟨g, dn.length * 2 + 1, none⟩ = some (.slice A1 a.f1.length c1) from Go.Proofs.YtmkpgddfoaglpaaGreatDoorW.PrintWords.cell_kept f1 hk2 (fun h => (s0 g h).2 rfl)))
     have HBK := Aside0.mk hback
     have HS0 := Aside0.mk (And.intro s0 (And.intro s1 s2))
     have HLT := Aside0.mk hlt
     have hlt2 : dn.length < l.length := hlt
     clear hbg hokg hlt q1_ q2_ q3_ hy f1 g0 g1 s0 s1 s2 hback
     go_wp2_with (first | (go_at_call 53; refine HC0.out.mono ?_; rintro e w2 ⟨rfl, hR2, hb2, hk2⟩; have HR2 := Aside0.mk hR2; have HB2 := Aside0.mk hb2; have HK2 := Aside0.mk hk2; have f2 := HF1.out w2 hk2; clear hR2 hb2 hk2) | (go_at_call 82; refine (HC1.out w2 HB2.out HK2.out).mono ?_; rintro e w3 ⟨rfl, hS3, hb3, hk3⟩; have HS3 := Aside0.mk hS3; have HB3 := Aside0.mk hb3; have HK3 := Aside0.mk hk3; clear hS3 hb3 hk3))
     have hkk := Kept.then_ (HK2.out.mono (S' := fun k => o0 k ∨ o1 k) (fun k hk => Or.inl hk)) (HK3.out.mono (S' := fun k => o0 k ∨ o1 k) (fun k hk => Or.inr hk)) (fun k hk => .inl hk)
     refine ⟨⟨y + n_Ent a, dn ++ [mk_Ent y a], r, ?_, ?_, ⟨?_⟩, ⟨?_⟩, ⟨?_, ?_⟩, ⟨?_⟩, HB3, ⟨?_⟩⟩, ?_⟩
     · show Value.int _ _ = Value.int _ _
       congr 1
       simp only [n_Ent]
       omega
     · rw [HWI.out]
       simp
     · have := HLN.out
       simp only [List.length_append, List.length_cons, List.length_nil] at this ⊢
       omega
     · rw [HMK.out, List.append_assoc]
       rfl
     · have := HY.out.1
       simp only [nEs] at this
       omega
     · have := HY.out.2
       omega
     · rw [List.append_assoc]
       exact HBK.out w3 _ _ hkk (Kd.R_kept HR2.out HK3.out (fun k hk h => HS0.out.2.2 k hk h)) HS3.out
     · exact HKR.out.then_ hkk (fun k hk => .inl (hk.elim (fun h => (HS0.out.1 k h).1) (fun h => (HS0.out.2.1 k h).1)))
     · have := HLT.out
       rw [HWI.out]
       simp [intOf]
       omega
theorem rd_mid {α : Type} (dn : List α) (a : α) (r : List α) (z : α) : (dn ++ a :: r).getD ((dn.length : Nat) : Int).toNat z = a := by rw [Int.toNat_natCast, get_mid]
theorem held_Attrs : ∀ (rs dn : List S201) (x : Int), dn.length + rs.length ≤ 4000000000000000000 → 0 ≤ x → x + nAs rs ≤ 4000000000000000000 → Ev (fun k => laws_heldAttrS.l0 k (dn ++ mkAs x rs) x (dn.length : Int)) (x + nAs rs)
 | [], dn, x, hl, h0, hx => Ev_one fun k => by
   rw [laws_heldAttrS.l0, if_neg (by simp [mkAs])]
   simp [nAs]
 | a :: r, dn, x, hl, h0, hx => by
   have hlen := mkAs_len (a :: r) x
   have h1 : (dn.length : Int) < ((dn ++ mkAs x (a :: r)).length : Int) := by rw [List.length_append, hlen, List.length_cons]; omega
   simp only [nAs, n_Attr, List.length_cons] at hx hl ⊢
   have hrd : rd_T201 (dn ++ mkAs x (a :: r)) (dn.length : Int) = mk_Attr x a := rd_mid dn (mk_Attr x a) _ _
   have hs := held_String a.f1.length (x + 1) (by omega) (by omega) (by omega)
   have ih := held_Attrs r (dn ++ [mk_Attr x a]) (x + n_Attr a) (by simp; omega) (by omega) (by simp only [n_Attr]; omega)
   have e3 : dn ++ mkAs x (a :: r) = (dn ++ [mk_Attr x a]) ++ mkAs (x + n_Attr a) r := by rw [List.append_assoc]; rfl
   have e4 : (x + 1 + ((1 : Nat) : Int) * (a.f1.length : Int)) = x + n_Attr a := by simp only [n_Attr]; omega
   have hneg : ¬ (x + n_Attr a : Int) < 0 := by omega
   have e5 : (x + n_Attr a + nAs r : Int) = x + ((1 + a.f1.length + nAs r : Nat) : Int) := by simp only [n_Attr]; omega
   rw [e5] at ih
   refine Ev.step (fun k => by rw [laws_heldAttrS.l0, if_pos h1, if_pos (by omega), hrd]) ?_
   refine Ev_bind (markT_ev (by omega)) ?_
   refine Ev.congr (fun k => if_pos rfl) ?_
   rw [show wrap64 (x + 1) = x + 1 from w_id (by omega) (by omega), show wrap64 ((dn.length : Int) + 1) = ((dn ++ [mk_Attr x a]).length : Int) from by rw [wsucc (by omega) (by omega)]; simp]
   refine Ev_bind hs ?_
   rw [e4]
   refine Ev.congr (fun k => if_neg hneg) ?_
   rw [e3]
   exact ih
theorem held_Ents : ∀ (rs dn : List S44) (x : Int), dn.length + rs.length ≤ 4000000000000000000 → 0 ≤ x → x + nEs rs ≤ 4000000000000000000 → Ev (fun k => laws_heldEntryS.l0 k (dn ++ mkEs x rs) x (dn.length : Int)) (x + nEs rs)
 | [], dn, x, hl, h0, hx => Ev_one fun k => by
   rw [laws_heldEntryS.l0, if_neg (by simp [mkEs])]
   simp [nEs]
 | a :: r, dn, x, hl, h0, hx => by
   have hlen := mkEs_len (a :: r) x
   have h1 : (dn.length : Int) < ((dn ++ mkEs x (a :: r)).length : Int) := by rw [List.length_append, hlen, List.length_cons]; omega
   simp only [nEs, n_Ent, List.length_cons] at hx hl ⊢
   have hal := nAs_len a.f1
   have hrd : rd_T44 (dn ++ mkEs x (a :: r)) (dn.length : Int) = mk_Ent x a := rd_mid dn (mk_Ent x a) _ _
   have hs0 := held_Rdn a.f0.length x (by omega) h0 (by omega)
   have hs1 := held_Attrs a.f1 [] (x + 2 * a.f0.length) (by simp; omega) (by omega) (by omega)
   have ih := held_Ents r (dn ++ [mk_Ent x a]) (x + n_Ent a) (by simp; omega) (by omega) (by simp only [n_Ent]; omega)
   have e3 : dn ++ mkEs x (a :: r) = (dn ++ [mk_Ent x a]) ++ mkEs (x + n_Ent a) r := by rw [List.append_assoc]; rfl
   have e4 : (x + 2 * a.f0.length + nAs a.f1 : Int) = x + n_Ent a := by simp only [n_Ent]; omega
   have hneg : ¬ (x + n_Ent a : Int) < 0 := by omega
   have hneg0 : ¬ (x + 2 * a.f0.length : Int) < 0 := by omega
   have e5 : (x + n_Ent a + nEs r : Int) = x + ((2 * a.f0.length + nAs a.f1 + nEs r : Nat) : Int) := by simp only [n_Ent]; omega
   rw [e5] at ih
   refine Ev.step (fun k => by rw [laws_heldEntryS.l0, if_pos h1, if_pos (by omega), hrd]) ?_
   refine Ev_bind hs0 ?_
   refine Ev.congr (fun k => if_neg hneg0) ?_
   refine Ev_bind (show Ev (fun k => laws_heldAttrS.f k (mkAs (x + 2 * a.f0.length) a.f1) (x + 2 * a.f0.length)) _ from hs1) ?_
   rw [e4]
   refine Ev.congr (fun k => if_neg hneg) ?_
   rw [show wrap64 ((dn.length : Int) + 1) = ((dn ++ [mk_Ent x a]).length : Int) from by rw [wsucc (by omega) (by omega)]; simp, e3]
   exact ih
end Go.Proofs.YtmkpgddfoaglpaaGreatDoor.PG
