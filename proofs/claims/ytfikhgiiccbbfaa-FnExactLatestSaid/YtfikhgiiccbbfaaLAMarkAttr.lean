/-
  Marks of []Attr, whose elements lead to rows of their own: what laws.markAttrS writes, walked by hand. Conditions: the row's elements lie apart; the marks' numbers stay small.
-/
import Derived.Test.YtfikhgiiccbbfaaLAP2
import Derived.Test.YtfikhgiiccbbfaaLAMarkString
namespace Go.Proofs.Ytfikhgiiccbbfaa.PH
set_option linter.unusedVariables false
set_option linter.unusedSimpArgs false
open Go.RowKit Go.Proofs.YtfikhgiiccbbfaaW.PrintWords Go.Proofs.YtfikhgiiccbbfaaW.PrintLast Go.Proofs.YtfikhgiiccbbfaaW.PrintMore Go.Proofs.Ytfikhgiiccbbfaa.Gn
attribute [local go_sem] max2_int min2_int max_two min_two max_three min_three max_four min_four World.cell?_drew World.frozen?_drew

noncomputable def mk_Attr (x : Int) (a : S112) : S112 := ⟨markT x, mkL markT 1 (x + 1) a.f1.length⟩
def n_Attr (a : S112) : Nat := 1 + a.f1.length
noncomputable def mkAs : Int → List S112 → List S112
  | _, [] => []
  | x, a :: r => mk_Attr x a :: mkAs (x + n_Attr a) r
def nAs : List S112 → Nat
  | [] => 0
  | a :: r => n_Attr a + nAs r
theorem markText_c (x : Int) (h : x ≤ 4000000000000000000) (w : World) : Calls Try.prog 75 #[.int .i64 x] w fun e w' => e = .returned (.string (markT x)) ∧ Below w.heap.size w w' := by
  obtain ⟨k, hk⟩ := (markT_ev h).rounds
  exact laws_markText.calls k x _ w hk
/-- What marking a row does to the worlds: the row's value, the number behind it, and what stays. -/
def RetMark {α : Type} (d : Kd α) (e : Nat) (w0 : World) (ok : Nat → Prop) (v : Value) (l : List α) (x : Int) (w : World) (en : Ending) (w' : World) : Prop :=
  en = .returned (.int .i64 x) ∧ d.R e w' w0.heap.size ok v l ∧ Below w0.heap.size w0 w' ∧ Kept w w' ok
theorem markStrs_c (w0 : World) (ok : Nat → Prop) (u : Value) (l : List ByteArray) (x : Int) (w : World) (hB : Below w0.heap.size w0 w) (hR : Kd.R Kd.string 9 w w0.heap.size ok u l) (hl : l.length ≤ 4000000000000000000) (h0 : 0 ≤ x) (hx : x + l.length ≤ 4000000000000000000) :
    Calls Try.prog 85 #[u, .int .i64 x] w (RetMark Kd.string 9 w0 ok u (mkL markT 1 x l.length) (x + l.length) w) := by
  obtain ⟨k, hk⟩ := (mark_String l x hl h0 (by omega)).rounds
  refine (laws_markStringS.calls k ok u l x _ _ w0 w hB hR hk).mono ?_
  rintro e w' ⟨rfl, hR', hb, hk'⟩
  exact ⟨by simp, Kd.R_mono (Kd.R_tight rfl hR') (fun k hk => hR.1 k hk.symm), hb, hk'⟩
def RetMarkS {α : Type} (d : Kd α) (e : Nat) (w0 : World) (ok : Nat → Prop) (v : Value) (l : List α) (x : Int) (w : World) (en : Ending) (w' : World) : Prop :=
  en = .returned (.int .i64 x) ∧ Kd.S d e w' w0.heap.size ok v l ∧ Below w0.heap.size w0 w' ∧ Kept w w' ok
theorem set_mid {α : Type} (dn : List α) (a b : α) (r : List α) : (dn ++ a :: r).set dn.length b = dn ++ b :: r := by simp
theorem get_mid {α : Type} (dn : List α) (a : α) (r : List α) (z : α) : (dn ++ a :: r).getD dn.length z = a := by simp
/-- One element of such a row: its name's cell, its values' row, and what stores into them leave. -/
theorem attr_lend {W : World} {base g n c : Nat} {ok : Nat → Prop} {dn r : List S112} {a : S112} (h : Kd.S k112 112 W base ok (.slice (some ⟨g, 0, none⟩) n c) (dn ++ a :: r)) :
    ∃ (oki : Nat → Prop) (A1 : Option Addr) (c1 : Nat), W.cell? ⟨g, dn.length * 2, none⟩ = some (.string a.f0) ∧ W.frozen? ⟨g, dn.length * 2, none⟩ = false ∧ W.cell? ⟨g, dn.length * 2 + 1, none⟩ = some (.slice A1 a.f1.length c1) ∧ Kd.string.R 9 W base oki (.slice A1 a.f1.length c1) a.f1 ∧ (∀ k, oki k → ok k) ∧ ok g ∧
      (∀ nm, Kd.S k112 112 (W.setCell ⟨g, dn.length * 2, none⟩ (.string nm)) base ok (.slice (some ⟨g, 0, none⟩) n c) (dn ++ ⟨nm, a.f1⟩ :: r)) ∧
      (∀ W' vs, Kept W W' oki → Kd.string.R 9 W' base oki (.slice A1 a.f1.length c1) vs → Kd.S k112 112 W' base ok (.slice (some ⟨g, 0, none⟩) n c) (dn ++ ⟨a.f0, vs⟩ :: r)) := by
  have hn := (Kd.S_reads' h).1
  have hlt : ((dn.length : Nat) : Int) < n := by rw [hn, List.length_append, List.length_cons]; omega
  have h0 : (0 : Int) ≤ (dn.length : Nat) := Int.natCast_nonneg _
  obtain ⟨oki, cs, hcl, hM, hcc, hoki, hH⟩ := Kd.S_lend h z112 (dn.length : Nat) h0 hlt
  obtain ⟨_, hfr⟩ := Kd.H_at hH h0 hlt
  rw [Int.toNat_natCast] at hM hcc hfr
  rw [get_mid] at hM
  have hM' := hM
  obtain ⟨u, rfl, hu⟩ := k112_openM hM
  obtain ⟨A1, c1, rfl⟩ := Kd.R_slice hu
  refine ⟨oki, A1, c1, hcc 0 _ rfl, hfr 0, hcc 1 _ rfl, hu, fun k hk => (hoki k hk).1, (Kd.S_R h).1 g (by simp [Value.ownBlock]), fun nm => ?_, fun W' vs hk hR => ?_⟩
  · have hs := (Kd.S_seg0 (okp := oki) hH h0 hlt (seg := [.string nm]) (j := 0) (show 0 + 1 ≤ 2 by omega) (x' := ⟨nm, a.f1⟩) (k112_mkM _ _ _ ⟨nm, a.f1⟩ hu) (fun _ hk => hk)).1
    rw [Int.toNat_natCast, set_mid] at hs
    exact hs
  · have hs := Kd.H_back (okp := oki) (Kd.H_kept hH hk (fun _ _ hn => hn)) (x' := ⟨a.f0, vs⟩) (k112_mkM _ _ _ ⟨a.f0, vs⟩ hR) (fun _ hk => hk)
    rw [Int.toNat_natCast, set_mid] at hs
    exact hs
theorem belowsM {B : Nat} {W W1 : World} {g : Nat} (h : Below B W W1) (hg : B ≤ g) (o : Nat) (v : Value) : Below B W (W1.setCell ⟨g, o, none⟩ v) := h.setCell (p := ⟨g, o, none⟩) hg v
theorem attr_same {W W3 : World} {g i n n' c2 c3 : Nat} {A2 A3 : Option Addr} {v : Value} (h2 : W.cell? ⟨g, i + 1, none⟩ = some (.slice A2 n c2)) (hw : W.setCell ⟨g, i, none⟩ v = W3) (h3 : W3.cell? ⟨g, i + 1, none⟩ = some (.slice A3 n' c3)) : A2 = A3 ∧ c2 = c3 := by
  have h6 : (W.setCell ⟨g, i, none⟩ v).cell? ⟨g, i + 1, none⟩ = W.cell? ⟨g, i + 1, none⟩ := World.cell?_setCell_other W ⟨g, i, none⟩ ⟨g, i + 1, none⟩ v (by simp)
  rw [← hw, h6, h2] at h3
  injection h3 with h3
  injection h3 with h4 _ h5
  exact ⟨h4, h5⟩
set_option maxHeartbeats 4000000 in
set_option maxRecDepth 100000 in
theorem markAttrs_c (w0 : World) (ok : Nat → Prop) (A : Option Addr) (n c : Nat) (l : List S112) (x : Int) (w : World) (hB : Below w0.heap.size w0 w) (hS : Kd.S k112 112 w w0.heap.size ok (.slice A n c) l) (hl : l.length ≤ 4000000000000000000) (h0 : 0 ≤ x) (hx : x + nAs l ≤ 4000000000000000000) :
    Calls Try.prog 67 #[.slice A n c, .int .i64 x] w (RetMarkS k112 112 w0 ok (.slice A n c) (mkAs x l) (x + nAs l) w) := by
  obtain ⟨hn, hnc, q0_⟩ := Kd.S_reads' hS
  subst hn
  clear q0_
  have HB := Aside0.mk hB
  have HS := Aside0.mk hS
  have HL := Aside0.mk hl
  have H0 := Aside0.mk h0
  have HX := Aside0.mk hx
  clear hB hS hl h0 hx
  go_enter Try.func67, Try.ntmps67
  go_wp2
  go_loopw [1, 5] (fun s1 s5 wr => ∃ (y : Int) (dn rs : List S112), s1 = .int .i64 y ∧ s5 = .int .i64 dn.length ∧ Aside0 (dn.length + rs.length = l.length) ∧ Aside0 (mkAs x l = dn ++ mkAs y rs) ∧ Aside0 (y + nAs rs = x + nAs l ∧ 0 ≤ y) ∧ Aside0 (Kd.S k112 112 wr w0.heap.size ok (.slice A l.length c) (dn ++ rs)) ∧ Aside0 (Below w0.heap.size w0 wr) ∧ Aside0 (Kept w wr ok)) (fun s1 s5 _ => l.length - (intOf s5).toNat)
  case atStart => exact ⟨x, [], l, rfl, rfl, ⟨by simp⟩, ⟨rfl⟩, ⟨rfl, H0.out⟩, HS, HB, ⟨Kept.refl _ _⟩⟩
  case round =>
    obtain ⟨y, dn, rs, rfl, rfl, HLN, HMK, HY, HSR, HBR, HKR⟩ := hrel
    cases rs with
    | nil =>
      have hlt : ¬ dn.length < l.length := by have := HLN.out; simp at this; omega
      go_wp2
      go_ret
      have e1 := HY.out.1
      have e2 := HMK.out
      simp only [nAs, mkAs, List.append_nil] at e1 e2
      refine ⟨by rw [← e1]; simp, by rw [e2]; have := HSR.out; rwa [List.append_nil] at this, HBR.out, HKR.out⟩
    | cons a r =>
      have hlt : dn.length < l.length := by have := HLN.out; simp at this; omega
      obtain ⟨g, cap, hv, hbg, q1_, q2_⟩ := Kd.S_form HSR.out (by rw [List.length_append, List.length_cons]; omega)
      injection hv with hA q3_ hc
      subst hA hc
      have hokg : ok g := (Kd.S_R HSR.out).1 g (by simp [Value.ownBlock])
      have hy : y ≤ 4000000000000000000 ∧ 0 ≤ y ∧ y + 1 + a.f1.length ≤ 4000000000000000000 ∧ a.f1.length ≤ 4000000000000000000 := by
        have h1 := HY.out.1
        have h2 := HX.out
        have h3 := HY.out.2
        simp only [nAs, n_Attr] at h1
        omega
      have hw : wrap64 (y + 1) = y + 1 := w_id (by omega) (by omega)
      have HWI := Aside0.mk (show wrap64 ((dn.length : Int) + 1) = (dn.length : Int) + 1 from wsucc (by omega) (by have := HL.out; omega))
      have HYB := Aside0.mk hy
      have HG := Aside0.mk (show w0.heap.size ≤ g ∧ ok g from ⟨hbg, hokg⟩)
      have HC := Aside0.mk (fun W => markText_c y hy.1 W)
      have HLT := Aside0.mk hlt
      have hlt2 : dn.length < l.length := hlt
      clear hbg hokg hlt q1_ q2_ q3_ hy
      go_wp2_with (first | (go_at_call 75; refine (HC.out _).mono ?_; rintro e w2 ⟨rfl, hb2⟩; have HB2 := Aside0.mk hb2; obtain ⟨oki, A2, c2, f2, z2, g2, q4_, q5_, q6_, hset, q7_⟩ := attr_lend (Kd.S_below HSR.out hb2); have HSET := Aside0.mk hset; have HG2 := Aside0.mk g2; clear hb2 hset q4_ q5_ q6_ q7_) | (go_at_call 85; obtain ⟨w3, hw3⟩ : ∃ w3, w2.setCell ⟨g, dn.length * 2, none⟩ (.string (markT y)) = w3 := ⟨_, rfl⟩; have hs3 := HSET.out (markT y); rw [hw3] at hs3 ⊢; obtain ⟨oki3, A3, c3, q8_, q9_, g3, hR3, hsub3, q10_, q11_, hback3⟩ := attr_lend hs3; have he := attr_same HG2.out hw3 g3; obtain ⟨rfl, rfl⟩ := he; have hb3 : Below w0.heap.size w0 w3 := (by rw [← hw3]; exact belowsM (below_step HBR.out HB2.out) HG.out.1 _ _); refine (markStrs_c w0 oki3 _ a.f1 (y + 1) w3 hb3 hR3 HYB.out.2.2.2 (by have := HYB.out.2.1; omega) HYB.out.2.2.1).mono ?_; rintro e w4 ⟨rfl, hR4, hb4, hk4⟩; have HS4 := Aside0.mk (hback3 w4 _ hk4 hR4); have HB4 := Aside0.mk hb4; have HW3 := Aside0.mk hw3; have HK4 := Aside0.mk (hk4.mono hsub3); clear hs3 q8_ q9_ g3 hR3 hsub3 q10_ q11_ hback3 hb3 hR4 hb4 hk4 hw3))
      refine ⟨⟨y + n_Attr a, dn ++ [mk_Attr y a], r, ?_, ?_, ⟨?_⟩, ⟨?_⟩, ⟨?_, ?_⟩, ⟨?_⟩, HB4, ⟨?_⟩⟩, ?_⟩
      · show Value.int _ _ = Value.int _ _
        congr 1
        simp only [n_Attr]
        omega
      · rw [HWI.out]
        simp
      · have := HLN.out
        simp only [List.length_append, List.length_cons, List.length_nil] at this ⊢
        omega
      · rw [HMK.out, List.append_assoc]
        rfl
      · have := HY.out.1
        simp only [nAs] at this
        omega
      · have := HY.out.2
        omega
      · rw [List.append_assoc]
        exact HS4.out
      · have h1 := (HKR.out.below HB2.out).setCell (p := ⟨g, dn.length * 2, none⟩) (.inl HG.out.2) (.string (markT y))
        rw [HW3.out] at h1
        exact h1.then_ HK4.out (fun k hk => .inl hk)
      · have := HLT.out
        rw [HWI.out]
        simp [intOf]
        omega
end Go.Proofs.Ytfikhgiiccbbfaa.PH
