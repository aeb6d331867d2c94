/-
 Marks of []Attr, whose elements lead to rows of their own: what laws.markAttrS writes, walked by hand. Conditions: the row's elements lie apart; the marks' numbers stay small.
-/
import Derived.Test.YtmkpgddfoaglpaaGreatDoorCTP1
import Derived.Test.YtmkpgddfoaglpaaGreatDoorCTP2
import Derived.Test.YtmkpgddfoaglpaaGreatDoorCTNames
import Derived.Test.YtmkpgddfoaglpaaGreatDoorCTGen
import Derived.Test.YtmkpgddfoaglpaaGreatDoorCTFits
set_option maxHeartbeats 8000000
set_option maxRecDepth 100000
set_option linter.unusedVariables false
set_option linter.unusedSimpArgs false
namespace Go.Proofs.YtmkpgddfoaglpaaGreatDoor.PG
open Go.RowKit Go.Proofs.YtmkpgddfoaglpaaGreatDoorW.PrintWords Go.Proofs.YtmkpgddfoaglpaaGreatDoorW.PrintLast Go.Proofs.YtmkpgddfoaglpaaGreatDoorW.PrintMore Go.Proofs.YtmkpgddfoaglpaaGreatDoor.Gn
attribute [local go_sem] max2_int min2_int max_two min_two max_three min_three max_four min_four World.cell?_drew World.frozen?_drew
noncomputable def mk_Attr (x : Int) (a : S201) : S201 := ⟨markT x, mkL markT 1 (x + 1) a.f1.length⟩
def n_Attr (a : S201) : Nat := 1 + a.f1.length
noncomputable def mkAs : Int → List S201 → List S201
 | _, [] => []
 | x, a :: r => mk_Attr x a :: mkAs (x + n_Attr a) r
def nAs : List S201 → Nat
 | [] => 0
 | a :: r => n_Attr a + nAs r
theorem markText_c (x : Int) (h : x ≤ 4000000000000000000) (w : World) : Calls Tryz.prog 80 #[.int .i64 x] w fun e w' => e = .returned (.string (markT x)) ∧ Below w.heap.size w w' := by
 obtain ⟨k, hk⟩ := (markT_ev h).rounds
 exact laws_markText.calls k x _ w hk
def RetMark {α : Type} (d : Kd α) (e : Nat) (w0 : World) (ok : Nat → Prop) (v : Value) (l : List α) (x : Int) (w : World) (en : Ending) (w' : World) : Prop :=
 en = .returned (.int .i64 x) ∧ d.R e w' w0.heap.size ok v l ∧ Below w0.heap.size w0 w' ∧ Kept w w' ok
theorem markStrs_c (w0 : World) (ok : Nat → Prop) (u : Value) (l : List ByteArray) (x : Int) (w : World) (hB : Below w0.heap.size w0 w) (hR : Kd.R Kd.string 9 w w0.heap.size ok u l) (hl : l.length ≤ 4000000000000000000) (h0 : 0 ≤ x) (hx : x + l.length ≤ 4000000000000000000) :
   Calls Tryz.prog 81 #[u, .int .i64 x] w (RetMark Kd.string 9 w0 ok u (mkL markT 1 x l.length) (x + l.length) w) := by
 obtain ⟨k, hk⟩ := (mark_String l x hl h0 (by omega)).rounds
 refine (laws_markStringS.calls k ok u l x _ _ w0 w hB hR hk).mono ?_
 rintro e w' ⟨rfl, hR', hb, hk'⟩
 exact ⟨by simp, Kd.R_mono (Kd.R_tight rfl hR') (fun k hk => hR.1 k hk.symm), hb, hk'⟩
def RetMarkS {α : Type} (d : Kd α) (e : Nat) (w0 : World) (ok : Nat → Prop) (v : Value) (l : List α) (x : Int) (w : World) (en : Ending) (w' : World) : Prop :=
 en = .returned (.int .i64 x) ∧ Kd.S d e w' w0.heap.size ok v l ∧ Below w0.heap.size w0 w' ∧ Kept w w' ok
theorem set_mid {α : Type} (dn : List α) (a b : α) (r : List α) : (dn ++ a :: r).set dn.length b = dn ++ b :: r := by simp
theorem get_mid {α : Type} (dn : List α) (a : α) (r : List α) (z : α) : (dn ++ a :: r).getD dn.length z = a := by simp
theorem attr_lend {W : World} {base g n c : Nat} {ok : Nat → Prop} {dn r : List S201} {a : S201} (h : Kd.S k201 201 W base ok (.slice (some ⟨g, 0, none⟩) n c) (dn ++ a :: r)) :
   ∃ (oki : Nat → Prop) (A1 : Option Addr) (c1 : Nat), W.cell? ⟨g, dn.length * 2, none⟩ = some (.string a.f0) ∧ W.frozen? ⟨g, dn.length * 2, none⟩ = false ∧ W.cell? ⟨g, dn.length * 2 + 1, none⟩ = some (.slice A1 a.f1.length c1) ∧ Kd.string.R 9 W base oki (.slice A1 a.f1.length c1) a.f1 ∧ (∀ k, oki k → ok k) ∧ ok g ∧
     (∀ nm, Kd.S k201 201 (W.setCell ⟨g, dn.length * 2, none⟩ (.string nm)) base ok (.slice (some ⟨g, 0, none⟩) n c) (dn ++ ⟨nm, a.f1⟩ :: r)) ∧
     (∀ W' vs, Kept W W' oki → Kd.string.R 9 W' base oki (.slice A1 a.f1.length c1) vs → Kd.S k201 201 W' base ok (.slice (some ⟨g, 0, none⟩) n c) (dn ++ ⟨a.f0, vs⟩ :: r)) := by
 have hn := (Kd.S_reads' h).1
 have hlt : ((dn.length : Nat) : Int) < n := by rw [hn, List.length_append, List.length_cons]; omega
 have h0 : (0 : Int) ≤ (dn.length : Nat) := Int.natCast_nonneg _
 obtain ⟨oki, cs, hcl, hM, hcc, hoki, hH⟩ := Kd.S_lend h z201 (dn.length : Nat) h0 hlt
 obtain ⟨_, hfr⟩ := Kd.H_at hH h0 hlt
 rw [Int.toNat_natCast] at hM hcc hfr
 rw [get_mid] at hM
 have hM' := hM
 obtain ⟨u, rfl, hu⟩ := k201_openM hM
 obtain ⟨A1, c1, rfl⟩ := Kd.R_slice hu
 refine ⟨oki, A1, c1, hcc 0 _ rfl, hfr 0, hcc 1 _ rfl, hu, fun k hk => (hoki k hk).1, (Kd.S_R h).1 g (by simp [Value.ownBlock]), fun nm => ?_, fun W' vs hk hR => ?_⟩
 · have hs := (Kd.S_seg0 (okp := oki) hH h0 hlt (seg := [.string nm]) (j := 0) (show 0 + 1 ≤ 2 by omega) (x' := ⟨nm, a.f1⟩) (k201_mkM _ _ _ ⟨nm, a.f1⟩ hu) (fun _ hk => hk)).1
   rw [Int.toNat_natCast, set_mid] at hs
   exact hs
 · have hs := Kd.H_back (okp := oki) (Kd.H_kept hH hk (fun _ _ hn => hn)) (x' := ⟨a.f0, vs⟩) (k201_mkM _ _ _ ⟨a.f0, vs⟩ hR) (fun _ hk => hk)
   rw [Int.toNat_natCast, set_mid] at hs
   exact hs
theorem belowsM {B : Nat} {W W1 : World} {g : Nat} (h : Below B W W1) (hg : B ≤ g) (o : Nat) (v : Value) : Below B W (W1.setCell ⟨g, o, none⟩ v) := h.setCell (p := ⟨g, o, none⟩) hg v
theorem attr_same {W W3 : World} {g i n n' c2 c3 : Nat} {A2 A3 : Option Addr} {v : Value} (h2 : W.cell? ⟨g, i + 1, none⟩ = some (.slice A2 n c2)) (hw : W.setCell ⟨g, i, none⟩ v = W3) (h3 : W3.cell? ⟨g, i + 1, none⟩ = some (.slice A3 n' c3)) : A2 = A3 ∧ c2 = c3 := by
 have h6 : (W.setCell ⟨g, i, none⟩ v).cell? ⟨g, i + 1, none⟩ = W.cell? ⟨g, i + 1, none⟩ := World.cell?_setCell_other W ⟨g, i, none⟩ ⟨g, i + 1, none⟩ v (by simp)
 rw [← hw, h6, h2] at h3
 injection h3 with h3
 injection h3 with h4 _ h5
 exact ⟨h4, h5⟩
theorem markAttrs_c (w0 : World) (ok : Nat → Prop) (A : Option Addr) (n c : Nat) (l : List S201) (x : Int) (w : World) (hB : Below w0.heap.size w0 w) (hS : Kd.S k201 201 w w0.heap.size ok (.slice A n c) l) (hl : l.length ≤ 4000000000000000000) (h0 : 0 ≤ x) (hx : x + nAs l ≤ 4000000000000000000) :
   Calls Tryz.prog 82 #[.slice A n c, .int .i64 x] w (RetMarkS k201 201 w0 ok (.slice A n c) (mkAs x l) (x + nAs l) w) := by
 obtain ⟨hn, hnc, q0_⟩ := Kd.S_reads' hS
 subst hn
 clear q0_
 have HB := Aside0.mk hB
 have HS := Aside0.mk hS
 have HL := Aside0.mk hl
 have H0 := Aside0.mk h0
 have HX := Aside0.mk hx
 clear hB hS hl h0 hx
 go_enter Tryz.func82, Tryz.ntmps82
 go_wp2
 go_loopw [1, 5] (fun s1 s5 wr => ∃ (y : Int) (dn rs : List S201), s1 = .int .i64 y ∧ s5 = .int .i64 dn.length ∧ Aside0 (dn.length + rs.length = l.length) ∧ Aside0 (mkAs x l = dn ++ mkAs y rs) ∧ Aside0 (y + nAs rs = x + nAs l ∧ 0 ≤ y) ∧ Aside0 (Kd.S k201 201 wr w0.heap.size ok (.slice A l.length c) (dn ++ rs)) ∧ Aside0 (Below w0.heap.size w0 wr) ∧ Aside0 (Kept w wr ok)) (fun s1 s5 _ => l.length - (intOf s5).toNat)
 case atStart => exact ⟨x, [], l, rfl, rfl, ⟨by simp⟩, ⟨rfl⟩, ⟨rfl, H0.out⟩, HS, HB, ⟨Kept.refl _ _⟩⟩
 case round =>
   obtain ⟨y, dn, rs, rfl, rfl, HLN, HMK, HY, HSR, HBR, HKR⟩ := hrel
   cases rs with
   | nil =>
     have hlt : ¬ dn.length < l.length := by have := HLN.out; simp at this; omega
     go_wp2
     go_ret
     have e1 := HY.out.1
     have e2 := HMK.out
     simp only [nAs, mkAs, List.append_nil] at e1 e2
     refine ⟨by rw [← e1]; simp, by rw [e2]; have := HSR.out; rwa [List.append_nil] at this, HBR.out, HKR.out⟩
   | cons a r =>
     have hlt : dn.length < l.length := by have := HLN.out; simp at this; omega
     obtain ⟨g, cap, hv, hbg, q1_, q2_⟩ := Kd.S_form HSR.out (by rw [List.length_append, List.length_cons]; omega)
     injection hv with hA q3_ hc
     subst hA hc
     have hokg : ok g := (Kd.S_R HSR.out).1 g (by simp [Value.ownBlock])
     have hy : y ≤ 4000000000000000000 ∧ 0 ≤ y ∧ y + 1 + a.f1.length ≤ 4000000000000000000 ∧ a.f1.length ≤ 4000000000000000000 := by
       have h1 := HY.out.1
       have h2 := HX.out
       have h3 := HY.out.2
       simp only [nAs, n_Attr] at h1
       omega
     have hw : wrap64 (y + 1) = y + 1 := w_id (by omega) (by omega)
     have HWI := Aside0.mk (show wrap64 ((dn.length : Int) + 1) = (dn.length : Int) + 1 from wsucc (by omega) (by have := HL.out; omega))
     have HYB := Aside0.mk hy
     have HG := Aside0.mk (show w0.heap.size ≤ g ∧ ok g from ⟨hbg, hokg⟩)
     have HC := Aside0.mk (fun W => markText_c y hy.1 W)
     have HLT := Aside0.mk hlt
     have hlt2 : dn.length < l.length := hlt
     clear hbg hokg hlt q1_ q2_ q3_ hy
     go_wp2_with (first | (go_at_call 80; refine (HC.out _).mono ?_; rintro e w2 ⟨rfl, hb2⟩; have HB2 := Aside0.mk hb2; obtain ⟨oki, A2, c2, f2, z2, g2, q4_, q5_, q6_, hset, q7_⟩ := attr_lend (Kd.S_below HSR.out hb2); have HSET := Aside0.mk hset; have HG2 := Aside0.mk g2; clear hb2 hset q4_ q5_ q6_ q7_) | (go_at_call 81; obtain ⟨w3, hw3⟩ : ∃ w3, w2.setCell ⟨g, dn.length * 2, none⟩ (.string (markT y)) = w3 := ⟨_, rfl⟩; have hs3 := HSET.out (markT y); rw [hw3] at hs3 ⊢; obtain ⟨oki3, A3, c3, q8_, q9_, g3, hR3, hsub3, q10_, q11_, hback3⟩ := attr_lend hs3; have he := attr_same HG2.out hw3 g3; obtain ⟨rfl, rfl⟩ := he; have hb3 : Below w0.heap.size w0 w3 := (by rw [← hw3]; exact belowsM (below_step HBR.out HB2.out) HG.out.1 _ _); refine (markStrs_c w0 oki3 _ a.f1 (y + 1) w3 hb3 hR3 HYB.out.2.2.2 (by have := HYB.out.2.1; omega) HYB.out.2.2.1).mono ?_; rintro e w4 ⟨rfl, hR4, hb4, hk4⟩; have HS4 := Aside0.mk (hback3 w4 _ hk4 hR4); have HB4 := Aside0.mk hb4; have HW3 := Aside0.mk hw3; have HK4 := Aside0.mk (hk4.mono hsub3); clear hs3 q8_ q9_ g3 hR3 hsub3 q10_ q11_ hback3 hb3 hR4 hb4 hk4 hw3))
     refine ⟨⟨y + n_Attr a, dn ++ [mk_Attr y a], r, ?_, ?_, ⟨?_⟩, ⟨?_⟩, ⟨?_, ?_⟩, ⟨?_⟩, HB4, ⟨?_⟩⟩, ?_⟩
     · show Value.int _ _ = Value.int _ _
       congr 1
       simp only [n_Attr]
       omega
     · rw [HWI.out]
       simp
     · have := HLN.out
       simp only [List.length_append, List.length_cons, List.length_nil] at this ⊢
       omega
     · rw [HMK.out, List.append_assoc]
       rfl
     · have := HY.out.1
       simp only [nAs] at this
       omega
     · have := HY.out.2
       omega
     · rw [List.append_assoc]
       exact HS4.out
     · have h1 := (HKR.out.below HB2.out).setCell (p := ⟨g, dn.length * 2, none⟩) (.inl HG.out.2) (.string (markT y))
       rw [HW3.out] at h1
       exact h1.then_ HK4.out (fun k hk => .inl hk)
     · have := HLT.out
       rw [HWI.out]
       simp [intOf]
       omega
end Go.Proofs.YtmkpgddfoaglpaaGreatDoor.PG
/-
 The laws' helpers at Attr: sizes, copies, equality, as plain functions. No condition but those stated.
-/
namespace Go.Proofs.YtmkpgddfoaglpaaGreatDoor.PG
open Go.RowKit Go.Proofs.YtmkpgddfoaglpaaGreatDoorW.PrintWords Go.Proofs.YtmkpgddfoaglpaaGreatDoorW.PrintLast Go.Proofs.YtmkpgddfoaglpaaGreatDoorW.PrintMore Go.Proofs.YtmkpgddfoaglpaaGreatDoor.Gn Go.Proofs.YtmkpgddfoaglpaaGreatDoor
def conv_Attr (x : S212) : S201 := ⟨x.f0, x.f1⟩
def small_Attr (x : S212) : Prop := x.f0.size ≤ 1048576 ∧ small_StringS x.f1
theorem sz_Attr (x : S212) (hf : Ft.fit212 x) : ∀ acc : Int, 0 ≤ acc → acc ≤ 1048576 → ∃ r, Ev (fun k => laws_szAttr.f k x.f0 x.f1 acc) r ∧ r ≤ acc ∧ (0 ≤ r → small_Attr x) := by
 intro acc a0 a1
 obtain ⟨h0, h1⟩ := hf
 unfold laws_szAttr.f
 have h0' : x.f0.size ≤ 140737488351232 := h0
 have e0 : wrap64 (acc - (x.f0.size : Int)) = acc - (x.f0.size : Int) := w_id (by omega) (by omega)
 generalize wrap64 (acc - (x.f0.size : Int)) = b0 at e0 ⊢
 refine sz_str (b := b0) (by omega) (by omega) (fun h => by simp only [if_pos h]; exact Ev.now _) (fun p0 => ?_)
 simp only [if_neg (show ¬ b0 < 0 by omega)]
 obtain ⟨b1, hr1, hle1, hs1⟩ := sz_StringS x.f1 h1 b0 (by omega) (by omega)
 refine sz_bind (by omega) hr1 hle1 (fun h => by simp only [if_pos h]; exact Ev.now _) (fun p1 => ?_)
 simp only [if_neg (show ¬ b1 < 0 by omega)]
 exact ⟨_, Ev.now _, Int.le_refl _, fun _ => ⟨by omega, hs1 p1⟩⟩
theorem to_Attr (x : S212) (hf : Ft.fit212 x) : Ev (fun k => laws_toAttr.f k x.f0 x.f1) ((conv_Attr x).f0, (conv_Attr x).f1) := by
 obtain ⟨h0, h1⟩ := hf
 unfold laws_toAttr.f
 refine Ev_bind (to_StringS x.f1 h1) ?_
 exact Ev.now _
def lens_Attr (y : S201) : Prop := True ∧ lens_StringS y.f1
theorem eq_Attr (y : S201) (hf : lens_Attr y) : Ev (fun k => laws_eqAttr.f k y.f0 y.f1 y.f0 y.f1) true := by
 obtain ⟨h0, h1⟩ := hf
 unfold laws_eqAttr.f
 (try simp only [if_true, eq_self_iff_true, bne_self_eq_false, Bool.false_eq_true, if_false, reduceIte, reduceCtorEq])
 refine Ev_bind (eq_StringS y.f1 h1) ?_
 (try simp only [if_true, eq_self_iff_true, bne_self_eq_false, Bool.false_eq_true, if_false, reduceIte, reduceCtorEq])
 exact Ev.now _
theorem lens_conv_Attr (x : S212) (h : small_Attr x) : lens_Attr (conv_Attr x) := by
 obtain ⟨h0, h1⟩ := h
 exact ⟨trivial, lens_StringS_small _ h1⟩
def small_AttrS (l : List S212) : Prop := l.length ≤ 1048576 ∧ ∀ x, x ∈ l → small_Attr x
theorem sz_AttrS (l : List S212) (hf : Ft.fit37 l) : ∀ acc : Int, 0 ≤ acc → acc ≤ 1048576 → ∃ r, Ev (fun k => laws_szAttrS.f k l acc) r ∧ r ≤ acc ∧ (0 ≤ r → small_AttrS l) := by
 have hl : l.length * 40 ≤ 140737488351232 := hf.1
 exact sz_slice (fun _ _ _ => rfl) l (by omega) (sz_loop (rdx := rd_T212) (z := z212) (fun _ _ => rfl) (e := fun k x acc => laws_szAttr.f k x.f0 x.f1 acc) (l := laws_szAttrS.l0) (small := small_Attr) (fun _ _ _ _ => rfl) l (by omega) (fun x hx => sz_Attr x (hf.2 x hx)))
theorem to_AttrS (l : List S212) (hf : Ft.fit37 l) : Ev (fun k => laws_toAttrS.f k l) (l.map conv_Attr) := by
 have hl : l.length * 40 ≤ 140737488351232 := hf.1
 unfold laws_toAttrS.f
 simp only [if_pos (show 0 ≤ (l.length : Int) by omega), if_pos (show (l.length : Int).toNat ≤ 7036874417766 by omega)]
 exact to_loop (rdx := rd_T212) (z := z212) (fun _ _ => rfl) (c := fun k x => laws_toAttr.f k x.f0 x.f1) (mk := fun b => (⟨b.1, b.2⟩ : S201)) (l := laws_toAttrS.l0) (fun _ _ _ _ => rfl) l (by omega) conv_Attr (fun x hx => ⟨_, to_Attr x (hf.2 x hx), rfl⟩) _ (by simp)
def lens_AttrS (l : List S201) : Prop := l.length ≤ 9223372036854775807 ∧ ∀ y, y ∈ l → lens_Attr y
theorem eq_AttrS (l : List S201) (hf : lens_AttrS l) : Ev (fun k => laws_eqAttrS.f k l l) true := by
 unfold laws_eqAttrS.f
 simp only [if_true, eq_self_iff_true]
 exact eq_loop (rdx := rd_T201) (z := z201) (fun _ _ => rfl) (e := fun k a b => laws_eqAttr.f k a.f0 a.f1 b.f0 b.f1) (l := laws_eqAttrS.l0) (fun _ _ _ _ => rfl) l hf.1 (fun x hx => eq_Attr x (hf.2 x hx))
theorem lens_conv_AttrS (l : List S212) (h : small_AttrS l) : lens_AttrS (l.map conv_Attr) := by
 refine ⟨by rw [List.length_map]; have := h.1; omega, fun y hy => ?_⟩
 obtain ⟨x, hx, rfl⟩ := List.mem_map.1 hy
 exact lens_conv_Attr x (h.2 x hx)
end Go.Proofs.YtmkpgddfoaglpaaGreatDoor.PG
/-
 The printed readings and writings of a DN's text come to the plain ones (DnPure): the reference's cut and parts. Condition: the text's bound.
-/
namespace Go.Proofs.YtmkpgddfoaglpaaGreatDoor.PG
open Go Go.RowKit Go.Proofs.YtmkpgddfoaglpaaGreatDoorW.PrintWords Go.Proofs.YtmkpgddfoaglpaaGreatDoor.Gn DnPure
theorem cut_tie (t : ByteArray) (ht : t.size ≤ 8000000) : ∀ (l : List UInt8) (i : Nat) (b : List UInt8) (out : List (List UInt8)), (bl t).drop i = l → i ≤ t.size → b.length + out.length ≤ i →
   Ev (fun k => spec_l02Cut.l0 k t (out.map ofL) (ints b) (i : Int)) ((cutS l b out).map ofL)
 | [], i, b, out, h, hi, hs => Ev_one fun k => by
   have := at_nil h
   rw [spec_l02Cut.l0, if_neg (by omega), if_pos (by rw [List.length_map]; omega), nums_ints]
   simp [cutS]
 | [c], i, b, out, h, hi, hs => by
   obtain ⟨h1, h2, h3⟩ := at_cons h
   have h4 := at_nil h3
   have ew : wrap64 ((i : Int) + 1) = ((i + 1 : Nat) : Int) := by rw [wsucc (by omega) (by omega)]; simp
   have hd : decide (wrap64 ((i : Int) + 1) < (t.size : Int)) = false := by rw [ew]; exact decide_eq_false (by omega)
   have step : Ev (fun k => spec_l02Cut.j1 k t (out.map ofL) (ints b) (i : Int) false) ((cutS [c] b out).map ofL) := by
     by_cases h44 : c = 44
     · have hb : bt t (i : Int) = 44 := by rw [h2, h44]; rfl
       refine Ev.step (fun k => by rw [spec_l02Cut.j1, if_neg (by decide), if_pos (by omega), if_pos (by omega), if_pos hb, if_pos (by rw [List.length_map]; omega), nums_ints, ew, show (out.map ofL ++ [ofL b]) = (out ++ [b]).map ofL by simp, show ([] : List Int) = ints [] from rfl]) ?_
       have := cut_tie t ht [] (i + 1) [] (out ++ [b]) h3 (by omega) (by simp; omega)
       simpa [cutS, h44] using this
     · have hb : ¬ bt t (i : Int) = 44 := by rw [h2]; exact fun e => h44 ((byte_iff c 44).1 e)
       refine Ev.step (fun k => by rw [spec_l02Cut.j1, if_neg (by decide), if_pos (by omega), if_pos (by omega), if_neg hb, if_pos (by rw [ints_len]; omega), h2, ew, show ints b ++ [(c.toNat : Int)] = ints (b ++ [c]) by simp [ints]]) ?_
       have := cut_tie t ht [] (i + 1) (b ++ [c]) out h3 (by omega) (by simp; omega)
       simpa [cutS, h44] using this
   by_cases h92 : bt t (i : Int) = 92
   · exact Ev.step (fun k => by rw [spec_l02Cut.l0, if_pos (by omega), if_pos (by omega), if_pos h92, hd]) step
   · exact Ev.step (fun k => by rw [spec_l02Cut.l0, if_pos (by omega), if_pos (by omega), if_neg h92]) step
 | c :: d :: r, i, b, out, h, hi, hs => by
   obtain ⟨h1, h2, h3⟩ := at_cons h
   obtain ⟨g1, g2, g3⟩ := at_cons h3
   have ew : wrap64 ((i : Int) + 1) = ((i + 1 : Nat) : Int) := by rw [wsucc (by omega) (by omega)]; simp
   have ew2 : wrap64 (((i + 1 : Nat) : Int) + 1) = ((i + 1 + 1 : Nat) : Int) := by rw [wsucc (by omega) (by omega)]; simp
   have hd : decide (wrap64 ((i : Int) + 1) < (t.size : Int)) = true := by rw [ew]; exact decide_eq_true (by omega)
   by_cases h92 : c = 92
   · have hb : bt t (i : Int) = 92 := by rw [h2, h92]; rfl
     refine Ev.step (fun k => by rw [spec_l02Cut.l0, if_pos (by omega), if_pos (by omega), if_pos hb, hd]) ?_
     refine Ev.step (fun k => by rw [spec_l02Cut.j1, if_pos rfl, if_pos (by omega), if_pos (by omega), ew, if_pos (by omega), if_pos (by omega), h2, g2, ew2]) ?_
     refine Ev_bind (Ev.now _) ?_
     refine Ev.congr (fun k => by rw [if_pos (by rw [ints_len]; simp; omega), show ints b ++ [(c.toNat : Int), (d.toNat : Int)] = ints (b ++ [c, d]) by simp [ints]]) ?_
     have := cut_tie t ht r (i + 1 + 1) (b ++ [c, d]) out g3 (by omega) (by simp; omega)
     rw [cutS, if_pos h92]
     exact this
   · have hb : ¬ bt t (i : Int) = 92 := by rw [h2]; exact fun e => h92 ((byte_iff c 92).1 e)
     refine Ev.step (fun k => by rw [spec_l02Cut.l0, if_pos (by omega), if_pos (by omega), if_neg hb]) ?_
     by_cases h44 : c = 44
     · have hb : bt t (i : Int) = 44 := by rw [h2, h44]; rfl
       refine Ev.step (fun k => by rw [spec_l02Cut.j1, if_neg (by decide), if_pos (by omega), if_pos (by omega), if_pos hb, if_pos (by rw [List.length_map]; omega), nums_ints, ew, show (out.map ofL ++ [ofL b]) = (out ++ [b]).map ofL by simp, show ([] : List Int) = ints [] from rfl]) ?_
       have := cut_tie t ht (d :: r) (i + 1) [] (out ++ [b]) h3 (by omega) (by simp; omega)
       rw [cutS, if_neg h92, if_pos h44]
       exact this
     · have hb : ¬ bt t (i : Int) = 44 := by rw [h2]; exact fun e => h44 ((byte_iff c 44).1 e)
       refine Ev.step (fun k => by rw [spec_l02Cut.j1, if_neg (by decide), if_pos (by omega), if_pos (by omega), if_neg hb, if_pos (by rw [ints_len]; omega), h2, ew, show ints b ++ [(c.toNat : Int)] = ints (b ++ [c]) by simp [ints]]) ?_
       have := cut_tie t ht (d :: r) (i + 1) (b ++ [c]) out h3 (by omega) (by simp; omega)
       rw [cutS, if_neg h92, if_neg h44]
       exact this
theorem spec_cut (t : ByteArray) (ht : t.size ≤ 8000000) : Ev (fun k => spec_l02Cut.f k t) ((cutS (bl t) [] []).map ofL) := cut_tie t ht (bl t) 0 [] [] rfl (Nat.zero_le _) (Nat.le_refl _)
theorem rdn_val (t : ByteArray) (ht : t.size ≤ 8000000) (m : Nat) (hm : m ≤ t.size) : ∀ (l : List UInt8) (i : Nat) (b : List UInt8), (bl t).drop i = l → b.length ≤ i → i ≤ t.size →
   Ev (fun k => spec_l02Rdn.l1 k t (m : Int) (ints b) (i : Int)) (ofL ((bl t).take m), ofL (b ++ unesc l))
 | [], i, b, h, hb, hi => Ev_one fun k => by
   have := at_nil h
   rw [spec_l02Rdn.l1, if_neg (by omega), if_pos (by omega), if_pos (by omega), nums_ints, Int.toNat_natCast]
   have e : t.extract 0 m = ofL ((bl t).take m) := by
     apply bl_inj
     rw [bl_extract, bl_ofL, List.drop_zero]
   rw [e]
   simp [unesc]
 | [c], i, b, h, hb, hi => by
   obtain ⟨h1, h2, h3⟩ := at_cons h
   have h4 := at_nil h3
   have ew : wrap64 ((i : Int) + 1) = ((i + 1 : Nat) : Int) := by rw [wsucc (by omega) (by omega)]; simp
   have rest := rdn_val t ht m hm [] (i + 1) (b ++ [c]) h3 (by simp; omega) (by omega)
   have e : b ++ [c] ++ unesc [] = b ++ unesc [c] := by simp [unesc]
   rw [e] at rest
   by_cases h92 : bt t (i : Int) = 92
   · exact Ev.step (fun k => by rw [spec_l02Rdn.l1, if_pos (by omega), if_pos (by omega), if_pos h92, ew, if_neg (by omega), if_pos (by rw [ints_len]; omega), h2, show ints b ++ [(c.toNat : Int)] = ints (b ++ [c]) by simp [ints]]) rest
   · exact Ev.step (fun k => by rw [spec_l02Rdn.l1, if_pos (by omega), if_pos (by omega), if_neg h92, ew, if_pos (by rw [ints_len]; omega), h2, show ints b ++ [(c.toNat : Int)] = ints (b ++ [c]) by simp [ints]]) rest
 | c :: d :: r, i, b, h, hb, hi => by
   obtain ⟨h1, h2, h3⟩ := at_cons h
   obtain ⟨g1, g2, g3⟩ := at_cons h3
   have ew : wrap64 ((i : Int) + 1) = ((i + 1 : Nat) : Int) := by rw [wsucc (by omega) (by omega)]; simp
   have ew2 : wrap64 (((i + 1 : Nat) : Int) + 1) = ((i + 1 + 1 : Nat) : Int) := by rw [wsucc (by omega) (by omega)]; simp
   by_cases h92 : c = 92
   · have hbt : bt t (i : Int) = 92 := by rw [h2, h92]; rfl
     have rest := rdn_val t ht m hm r (i + 1 + 1) (b ++ [d]) g3 (by simp; omega) (by omega)
     have e : b ++ [d] ++ unesc r = b ++ unesc (c :: d :: r) := by simp [unesc, h92]
     rw [e] at rest
     exact Ev.step (fun k => by rw [spec_l02Rdn.l1, if_pos (by omega), if_pos (by omega), if_pos hbt, ew, if_pos (by omega), if_pos (by omega), if_pos (by rw [ints_len]; omega), g2, ew2, show ints b ++ [(d.toNat : Int)] = ints (b ++ [d]) by simp [ints]]) rest
   · have hbt : ¬ bt t (i : Int) = 92 := by rw [h2]; exact fun e => h92 ((byte_iff c 92).1 e)
     have rest := rdn_val t ht m hm (d :: r) (i + 1) (b ++ [c]) h3 (by simp; omega) (by omega)
     have e : b ++ [c] ++ unesc (d :: r) = b ++ unesc (c :: d :: r) := by simp [unesc, h92]
     rw [e] at rest
     exact Ev.step (fun k => by rw [spec_l02Rdn.l1, if_pos (by omega), if_pos (by omega), if_neg hbt, ew, if_pos (by rw [ints_len]; omega), h2, show ints b ++ [(c.toNat : Int)] = ints (b ++ [c]) by simp [ints]]) rest
theorem rdn_name (t : ByteArray) (ht : t.size ≤ 8000000) : ∀ (l : List UInt8) (i : Nat), (bl t).drop i = l → i ≤ t.size → (61 : UInt8) ∉ (bl t).take i →
   Ev (fun k => spec_l02Rdn.l0 k t (i : Int)) (ofL (rdnS (bl t)).1, ofL (rdnS (bl t)).2)
 | [], i, h, hi, hp => by
   have h4 := at_nil h
   have hi2 : i = t.size := by omega
   have hall : (61 : UInt8) ∉ bl t := by rwa [List.take_of_length_le (by rw [bl_len]; omega)] at hp
   have e : rdnS (bl t) = ([], []) := by unfold rdnS; rw [if_neg hall]
   rw [e]
   refine Ev.step (fun k => by rw [spec_l02Rdn.l0, if_neg (by omega)]) (Ev_one fun k => ?_)
   rw [spec_l02Rdn.j1, if_pos (by omega)]
   rfl
 | c :: r, i, h, hi, hp => by
   obtain ⟨h1, h2, h3⟩ := at_cons h
   have ew : wrap64 ((i : Int) + 1) = ((i + 1 : Nat) : Int) := by rw [wsucc (by omega) (by omega)]; simp
   by_cases h61 : c = 61
   · have hbt : bt t (i : Int) = 61 := by rw [h2, h61]; rfl
     refine Ev.step (fun k => by rw [spec_l02Rdn.l0, if_pos (by omega), if_pos (by omega), if_pos hbt]) ?_
     refine Ev.step (fun k => by rw [spec_l02Rdn.j1, if_neg (by omega), ew, show ([] : List Int) = ints [] from rfl]) ?_
     have hv := rdn_val t ht i hi r (i + 1) [] h3 (Nat.zero_le _) (by omega)
     have e1 : bl t = (bl t).take i ++ 61 :: r := by rw [← h61, ← h, List.take_append_drop]
     have e2 : rdnS (bl t) = ((bl t).take i, unesc r) := by
       have hn : ∀ x ∈ (bl t).take i, decide (x ≠ 61) = true := fun x hx => decide_eq_true (by rintro rfl; exact hp hx)
       unfold rdnS
       rw [if_pos (by rw [e1]; simp)]
       refine Prod.ext ?_ ?_
       · show (bl t).takeWhile _ = (bl t).take i
         conv => lhs; rw [e1]
         rw [List.takeWhile_append_of_pos hn]
         simp
       · show unesc (((bl t).dropWhile _).drop 1) = unesc r
         conv => lhs; rw [e1]
         rw [List.dropWhile_append_of_pos hn]
         simp
     rw [e2]
     exact hv
   · have hbt : ¬ bt t (i : Int) = 61 := by rw [h2]; exact fun e => h61 ((byte_iff c 61).1 e)
     refine Ev.step (fun k => by rw [spec_l02Rdn.l0, if_pos (by omega), if_pos (by omega), if_neg hbt, ew]) ?_
     refine rdn_name t ht r (i + 1) h3 (by omega) ?_
     rw [take_snoc h, List.mem_append]
     rintro (hx | hx)
     · exact hp hx
     · exact h61 (List.mem_singleton.1 hx).symm
theorem spec_rdn (t : ByteArray) (ht : t.size ≤ 8000000) : Ev (fun k => spec_l02Rdn.f k t) (ofL (rdnS (bl t)).1, ofL (rdnS (bl t)).2) := rdn_name t ht (bl t) 0 rfl (Nat.zero_le _) (by simp)
end Go.Proofs.YtmkpgddfoaglpaaGreatDoor.PG
/-
 slices.Clone on []Rdn and on []string, in the form that the printed texts ask for. Condition: the row's size.
-/
namespace Go.Proofs.YtmkpgddfoaglpaaGreatDoor.PG
open Go.RowKit Go.Proofs.YtmkpgddfoaglpaaGreatDoorW.PrintWords Go.Proofs.YtmkpgddfoaglpaaGreatDoorW.PrintLast Go.Proofs.YtmkpgddfoaglpaaGreatDoorW.PrintMore Go.Proofs.YtmkpgddfoaglpaaGreatDoor.Gn
def slices_Clone_Rdn.f (l0 : List S151) : Option (List S151) := if l0.length ≤ 1000000000 then some l0 else none
theorem slices_Clone_Rdn.calls (A0 : Option Addr) (c0 : Nat) (l0 : List S151) (r : List S151) (w : World) (hr0 : Kd.C k151 w A0 l0.length l0) (hc0 : l0.length ≤ c0) (h : slices_Clone_Rdn.f l0 = some r) :
   Calls Tryz.prog 259 #[.slice A0 l0.length c0] w fun e w' => ∃ v0_ : Value, e = .returned (v0_) ∧ Kd.R k151 151 w' w.heap.size (fun _ => True) v0_ r ∧ Below w.heap.size w w' := by
 unfold slices_Clone_Rdn.f at h
 split at h
 · obtain rfl := Option.some.inj h
   exact clone_Rdn A0 c0 l0 w hr0 hc0 (by omega)
 · cases h
def slices_Clone_string.f (l0 : List ByteArray) : Option (List ByteArray) := if l0.length ≤ 1000000000 then some l0 else none
theorem slices_Clone_string.calls (A0 : Option Addr) (c0 : Nat) (l0 : List ByteArray) (r : List ByteArray) (w : World) (hr0 : Kd.C Kd.string w A0 l0.length l0) (hc0 : l0.length ≤ c0) (h : slices_Clone_string.f l0 = some r) :
   Calls Tryz.prog 190 #[.slice A0 l0.length c0] w fun e w' => ∃ v0_ : Value, e = .returned (v0_) ∧ Kd.R Kd.string 9 w' w.heap.size (fun _ => True) v0_ r ∧ Below w.heap.size w w' := by
 unfold slices_Clone_string.f at h
 split at h
 · obtain rfl := Option.some.inj h
   exact clone_string A0 c0 l0 w hr0 hc0 (by omega)
 · cases h
end Go.Proofs.YtmkpgddfoaglpaaGreatDoor.PG
