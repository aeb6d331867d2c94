/-
  The reference's runner (l13Runner), walked: every tree of a valid expression comes to what Tx says.
-/
import Derived.Deep.RegionHeld3
import Derived.Test.YtpocoeghobdfiaaGreatDoorEEP3
import Derived.Test.YtpocoeghobdfiaaGreatDoorEEP2
import Derived.Test.YtpocoeghobdfiaaGreatDoorEEExprEval
import Derived.Test.YtpocoeghobdfiaaGreatDoorEESq
namespace Go.Proofs.YtpocoeghobdfiaaGreatDoor.PG
open Go.Proofs.YtpocoeghobdfiaaGreatDoor.Sq Go.RowKit Go.Proofs.YtpocoeghobdfiaaGreatDoorW.PrintWords Go.Proofs.YtpocoeghobdfiaaGreatDoorW.PrintLast Go.Proofs.YtpocoeghobdfiaaGreatDoorW.PrintMore Go.Proofs.YtpocoeghobdfiaaGreatDoor.Gn Go.Proofs.YtpocoeghobdfiaaGreatDoor.Sem
attribute [local go_sem] max2_int min2_int max_two min_two max_three min_three max_four min_four World.cell?_drew World.frozen?_drew
set_option linter.unusedVariables false
set_option linter.unusedSimpArgs false

/-- The runner's state in block g: the whole expression x, the entry, the place, and whether something was too long. -/
def RunAt (W : World) (g : Nat) (A : Option Addr) (n c : Nat) (A0 : Option Addr) (n0 c0 : Nat) (A1 : Option Addr) (n1 c1 : Nat) (at_ : Int) (bad : Bool) : Prop :=
  W.heap[g]? = some (.cells #[.slice A n c, .slice A0 n0 c0, .slice A1 n1 c1, .int .i64 at_, .bool bad] 111 (0, 0))
/-- What a call leaves: a text; the place behind r; all else as it lay. -/
def RunP (x : List S70) (W0 : World) (g : Nat) (A : Option Addr) (c : Nat) (A0 : Option Addr) (n0 c0 : Nat) (A1 : Option Addr) (n1 c1 : Nat) (W : World) (t : ByteArray) (r : List S70) (bad : Bool) (e : Ending) (w' : World) : Prop :=
  e = .returned (.string t) ∧ Below W0.heap.size W0 w' ∧ KeepBut W w' g none ∧ ∃ at_ : Nat, at_ ≤ x.length ∧ x.drop at_ = r ∧ RunAt w' g A x.length c A0 n0 c0 A1 n1 c1 at_ bad
/-- The contract of one call, for every later world. -/
def RunC (x : List S70) (W0 : World) (g : Nat) (A : Option Addr) (c : Nat) (A0 : Option Addr) (n0 c0 : Nat) (A1 : Option Addr) (n1 c1 : Nat) (y : List S70) (t : ByteArray) (r : List S70) (f : Bool) : Prop :=
  ∀ (W : World) (at_ : Nat) (bad : Bool), Below W0.heap.size W0 W → at_ ≤ x.length → x.drop at_ = y → RunAt W g A x.length c A0 n0 c0 A1 n1 c1 at_ bad →
    Calls Tryz.prog 68 #[.pointer (some ⟨g, 0, none⟩)] W (RunP x W0 g A c A0 n0 c0 A1 n1 c1 W t r (bad || !f))
theorem part_in {W : World} {A : Option Addr} {x r : List S70} {n : S70} {i : Nat} (hr : Kd.C k70 W A x.length x) (hd : x.drop i = n :: r) : i < x.length ∧ ∃ ad, A = some ad ∧ W.cell? (ad.add (i * 3)) = some (.int .i64 n.f0) ∧ W.cell? ⟨(ad.add (i * 3)).block, (ad.add (i * 3)).off + 1, none⟩ = some (.string n.f1) ∧ W.cell? ⟨(ad.add (i * 3)).block, (ad.add (i * 3)).off + 2, none⟩ = some (.int .i64 n.f2) := by
  have hlt : i < x.length := by
    rcases Nat.lt_or_ge i x.length with h | h
    · exact h
    · rw [List.drop_eq_nil_of_le h] at hd; cases hd
  have hn : x[i]'hlt = n := by
    rw [List.drop_eq_getElem_cons hlt] at hd
    injection hd
  have h := at_T70 hr (i : Int) (by omega) (by omega)
  rw [rd_at x i hlt, hn, Int.toNat_natCast] at h
  exact ⟨hlt, h⟩
theorem drop_next {x r : List S70} {n : S70} {i : Nat} (hd : x.drop i = n :: r) : x.drop (i + 1) = r := by
  have : (x.drop i).drop 1 = r := by rw [hd]; rfl
  rwa [List.drop_drop] at this
theorem run_put {W : World} {g : Nat} {A : Option Addr} {n c : Nat} {A0 : Option Addr} {n0 c0 : Nat} {A1 : Option Addr} {n1 c1 : Nat} {a a' : Int} {b : Bool} (h : RunAt W g A n c A0 n0 c0 A1 n1 c1 a b) : RunAt (W.setCell ⟨g, 3, none⟩ (.int .i64 a')) g A n c A0 n0 c0 A1 n1 c1 a' b := blk_put h 3 _ rfl
theorem run_bad {W : World} {g : Nat} {A : Option Addr} {n c : Nat} {A0 : Option Addr} {n0 c0 : Nat} {A1 : Option Addr} {n1 c1 : Nat} {a : Int} {b b' : Bool} (h : RunAt W g A n c A0 n0 c0 A1 n1 c1 a b) : RunAt (W.setCell ⟨g, 4, none⟩ (.bool b')) g A n c A0 n0 c0 A1 n1 c1 a b' := blk_put h 4 _ rfl
theorem okS_not (t : ByteArray) : decide ((t.size : Int) > 40) = !okS t := by
  unfold okS
  rw [Bool.eq_iff_iff]
  simp
theorem heap_attr : Kd.Heap k115 := Kd.heap_iso _ (Kd.heap_pair Kd.heap_string (Kd.heap_slice _ Kd.heap_string))
theorem run_end {W : World} {g : Nat} {A : Option Addr} {n c : Nat} {A0 : Option Addr} {n0 c0 : Nat} {A1 : Option Addr} {n1 c1 : Nat} {a : Int} {b b' b2 : Bool} (h : RunAt W g A n c A0 n0 c0 A1 n1 c1 a b) (hv : b2 = b') : RunAt (W.setCell ⟨g, 4, none⟩ (.bool b2)) g A n c A0 n0 c0 A1 n1 c1 a b' := hv ▸ run_bad h
theorem ret_str {t t' : ByteArray} (h : t' = t) : Ending.returned (.string t') = .returned (.string t) := by rw [h]
theorem mix1 (b f o : Bool) : (b || !(f && o)) = ((b || !f) || !o) := by cases b <;> cases f <;> cases o <;> rfl
theorem mix2 (b f f2 o : Bool) : (b || !((f && f2) && o)) = (((b || !f) || !f2) || !o) := by cases b <;> cases f <;> cases f2 <;> cases o <;> rfl
theorem min_calls (a b m : Int) (h : (if a < b then a else b) = m) (W : World) : Calls Tryz.prog 105 #[.int .i64 a, .int .i64 b] W fun e w' => e = .returned (.int .i64 m) ∧ Below W.heap.size W w' := by
  refine (spec_l01Min.calls a b m W (by rw [← h]; unfold spec_l01Min.f; split <;> rfl)).mono ?_
  rintro e w' ⟨rfl, h⟩
  exact ⟨rfl, by first | exact h | exact h.below | (subst h; exact Below.refl _ _) | (obtain ⟨n, rfl⟩ := h; exact pw_below_drewN (Below.refl _ _) n)⟩
theorem of_calls (A0 : Option Addr) (c0 : Nat) (d : List S113) (A1 : Option Addr) (c1 : Nat) (l : List S115) (name : ByteArray) (W0 : World) (hl : l.length ≤ 9223372036854775807) (hr0 : Kd.C k113 W0 A0 d.length d) (hc0 : d.length ≤ c0) (hr1 : Kd.C k115 W0 A1 l.length l) (hc1 : l.length ≤ c1) (W : World) (hb : Below W0.heap.size W0 W) :
    Calls Tryz.prog 103 #[.agg #[.slice A0 d.length c0, .slice A1 l.length c1], .string name] W fun e w' => ∃ A c, e = .returned (.slice A (valsL name l).length c) ∧ (valsL name l).length ≤ c ∧ Kd.C Kd.string w' A (valsL name l).length (valsL name l) ∧ Below W.heap.size W w' := by
  obtain ⟨k, hk⟩ := (spec_of name d l hl).rounds
  refine (spec_l03Of.calls k A0 c0 d (fun k => k < W.heap.size) A1 c1 l name _ W (Kd.C_below hr0 hb) hc0 (Kd.V_mk hc1 (Kd.C_F heap_attr (Kd.C_below hr1 hb))) hk).mono ?_
  rintro e w' ⟨v, rfl, hV, hb'⟩
  obtain ⟨A', c', rfl⟩ := Kd.V_slice hV
  obtain ⟨_, h2, h3⟩ := Kd.V_reads' hV
  exact ⟨A', c', rfl, h2, h3, hb'⟩
set_option maxHeartbeats 4000000 in
set_option maxRecDepth 100000 in
theorem one_text (x : List S70) (l : List S115) (d : List S113) (W0 : World) (g : Nat) (A : Option Addr) (c : Nat) (A0 : Option Addr) (c0 : Nat) (A1 : Option Addr) (c1 : Nat) (hg : W0.heap.size ≤ g) (hx : Kd.C k70 W0 A x.length x) (hc : x.length ≤ c) (txt : ByteArray) (num : Int) (r : List S70) (hl : txt.size ≤ 100) :
    RunC x W0 g A c A0 d.length c0 A1 l.length c1 (⟨1, txt, num⟩ :: r) txt r (okS txt) := by
  intro W at_ bad hb hat hdr hR
  obtain ⟨hlt, ad, rfl, f0, f1, f2⟩ := part_in hx hdr
  have hdr1 := drop_next hdr
  have f0 := pw_cell_below hb f0
  have f1 := pw_cell_below hb f1
  have f2 := pw_cell_below hb f2
  have hmx := Kd.C_max hx
  simp only at f0 f1 f2
  have gs := blk_lt hR
  have gn : g ≠ W.heap.size := Nat.ne_of_lt gs
  have gn' : W.heap.size ≠ g := fun e => gn e.symm
  have r0 := blk_cell hR 0
  have r3 := blk_cell hR 3
  have ha := World.new_ne W _ f0
  have ha1 := World.new_ne W _ f1
  have ha2 := World.new_ne W _ f2
  have hi0 : (0 : Int) ≤ (at_ : Int) := by omega
  have hi1 : (at_ : Int) < (x.length : Int) := by omega
  obtain ⟨W1, hW1⟩ : ∃ W1, (W.alloc (.cells #[.int .i64 1, .string txt, .int .i64 num] 70)).drew = W1 := ⟨_, rfl⟩
  have hB1 : Below W.heap.size W W1 := by rw [← hW1]; exact below_drew (below_alloc (Below.refl _ _) _)
  have hN1 : W1.heap[W.heap.size]? = some (.cells #[.int .i64 1, .string txt, .int .i64 num] 70 (0, 0)) := by rw [← hW1]; exact heap_alloc_new W _
  have hR1 : RunAt W1 g (some ad) x.length c A0 d.length c0 A1 l.length c1 at_ bad := blk_below hR hB1
  have q3 := blk_cell hR1 3
  have q0 := blk_cell hR1 0
  have qf0 := pw_cell_below hB1 f0
  have qf1 := pw_cell_below hB1 f1
  have qf2 := pw_cell_below hB1 f2
  have qz := blk_frozen hR1 3
  obtain ⟨W2, hW2⟩ : ∃ W2, W1.setCell ⟨g, 3, none⟩ (.int .i64 ((at_ : Int) + 1)) = W2 := ⟨_, rfl⟩
  have hR2 : RunAt W2 g (some ad) x.length c A0 d.length c0 A1 l.length c1 ((at_ + 1 : Nat) : Int) bad := by rw [← hW2]; exact run_put hR1
  have hN2 : W2.heap[W.heap.size]? = some (.cells #[.int .i64 1, .string txt, .int .i64 num] 70 (0, 0)) := by rw [← hW2]; exact blk_far hN1 gn' _
  have hK2 : KeepBut W W2 g none := by rw [← hW2]; exact (KeepBut.of_below hB1 g none).set_ 3 _
  have hB2 : Below W0.heap.size W0 W2 := by rw [← hW2]; exact below_set (below_step hb hB1) hg
  have k0 := blk_cell hN2 0
  have k1 := blk_cell hN2 1
  have k2 := blk_cell hN2 2
  have v1 := blk_cell hR2 1
  have v2 := blk_cell hR2 2
  have v4 := blk_cell hR2 4
  have vz := blk_frozen hR2 4
  have HR2 := Aside0.mk hR2
  have HN2 := Aside0.mk hN2
  have HK2 := Aside0.mk hK2
  have HB2 := Aside0.mk hB2
  have HD1 := Aside0.mk hdr1
  have HAT := Aside0.mk hlt
  have HG := Aside0.mk hg
  have GN := Aside0.mk gn
  clear hR hb hat hdr hR1 hB1 hN1 hR2 hN2 hK2 hB2 hdr1 hx hc hg gs
  cases bad
  all_goals
    go_enter Tryz.func68, Tryz.ntmps68
    go_wp2
    go_region_held3 (fun w' => w'.cell? ⟨g, 0, none⟩ = some (.slice (some ad) x.length c) ∧ w'.cell? ⟨g, 3, none⟩ = some (.int .i64 at_) ∧ w'.cell? (ad.add (at_ * 3)) = some (.int .i64 1) ∧ w'.cell? ⟨(ad.add (at_ * 3)).block, (ad.add (at_ * 3)).off + 1, none⟩ = some (.string txt) ∧ w'.cell? ⟨(ad.add (at_ * 3)).block, (ad.add (at_ * 3)).off + 2, none⟩ = some (.int .i64 num)) (go_keep) (fail)
    go_wp2
    go_ret
    exact ⟨rfl, below_set HB2.out HG.out, HK2.out.set_ 4 _, _, HAT.out, HD1.out, run_end HR2.out (by first | rfl | (rw [show decide (40 < (txt.size : Int)) = !okS txt from okS_not txt]; rfl))⟩
set_option maxHeartbeats 4000000 in
set_option maxRecDepth 100000 in
theorem one_attr (x : List S70) (l : List S115) (d : List S113) (W0 : World) (g : Nat) (A : Option Addr) (c : Nat) (A0 : Option Addr) (c0 : Nat) (A1 : Option Addr) (c1 : Nat) (hg : W0.heap.size ≤ g) (hx : Kd.C k70 W0 A x.length x) (hc : x.length ≤ c) (txt : ByteArray) (num : Int) (r : List S70) (hd0 : d.length ≤ c0) (hl0 : l.length ≤ c1) (hD : Kd.C k113 W0 A0 d.length d) (hL : Kd.C k115 W0 A1 l.length l) (hs : (headS (valsL txt l)).size ≤ 100) :
    RunC x W0 g A c A0 d.length c0 A1 l.length c1 (⟨2, txt, num⟩ :: r) (headS (valsL txt l)) r (okS (headS (valsL txt l))) := by
  intro W at_ bad hb hat hdr hR
  obtain ⟨hlt, ad, rfl, f0, f1, f2⟩ := part_in hx hdr
  have hdr1 := drop_next hdr
  have f0 := pw_cell_below hb f0
  have f1 := pw_cell_below hb f1
  have f2 := pw_cell_below hb f2
  have hmx := Kd.C_max hx
  simp only at f0 f1 f2
  have gs := blk_lt hR
  have gn : g ≠ W.heap.size := Nat.ne_of_lt gs
  have gn' : W.heap.size ≠ g := fun e => gn e.symm
  have r0 := blk_cell hR 0
  have r3 := blk_cell hR 3
  have ha := World.new_ne W _ f0
  have ha1 := World.new_ne W _ f1
  have ha2 := World.new_ne W _ f2
  have hi0 : (0 : Int) ≤ (at_ : Int) := by omega
  have hi1 : (at_ : Int) < (x.length : Int) := by omega
  obtain ⟨W1, hW1⟩ : ∃ W1, (W.alloc (.cells #[.int .i64 2, .string txt, .int .i64 num] 70)).drew = W1 := ⟨_, rfl⟩
  have hB1 : Below W.heap.size W W1 := by rw [← hW1]; exact below_drew (below_alloc (Below.refl _ _) _)
  have hN1 : W1.heap[W.heap.size]? = some (.cells #[.int .i64 2, .string txt, .int .i64 num] 70 (0, 0)) := by rw [← hW1]; exact heap_alloc_new W _
  have hR1 : RunAt W1 g (some ad) x.length c A0 d.length c0 A1 l.length c1 at_ bad := blk_below hR hB1
  have q3 := blk_cell hR1 3
  have q0 := blk_cell hR1 0
  have qf0 := pw_cell_below hB1 f0
  have qf1 := pw_cell_below hB1 f1
  have qf2 := pw_cell_below hB1 f2
  have qz := blk_frozen hR1 3
  obtain ⟨W2, hW2⟩ : ∃ W2, W1.setCell ⟨g, 3, none⟩ (.int .i64 ((at_ : Int) + 1)) = W2 := ⟨_, rfl⟩
  have hR2 : RunAt W2 g (some ad) x.length c A0 d.length c0 A1 l.length c1 ((at_ + 1 : Nat) : Int) bad := by rw [← hW2]; exact run_put hR1
  have hN2 : W2.heap[W.heap.size]? = some (.cells #[.int .i64 2, .string txt, .int .i64 num] 70 (0, 0)) := by rw [← hW2]; exact blk_far hN1 gn' _
  have hK2 : KeepBut W W2 g none := by rw [← hW2]; exact (KeepBut.of_below hB1 g none).set_ 3 _
  have hB2 : Below W0.heap.size W0 W2 := by rw [← hW2]; exact below_set (below_step hb hB1) hg
  have k0 := blk_cell hN2 0
  have k1 := blk_cell hN2 1
  have k2 := blk_cell hN2 2
  have v1 := blk_cell hR2 1
  have v2 := blk_cell hR2 2
  have v4 := blk_cell hR2 4
  have vz := blk_frozen hR2 4
  have HR2 := Aside0.mk hR2
  have HN2 := Aside0.mk hN2
  have HK2 := Aside0.mk hK2
  have HB2 := Aside0.mk hB2
  have HD1 := Aside0.mk hdr1
  have HAT := Aside0.mk hlt
  have HG := Aside0.mk hg
  have GN := Aside0.mk gn
  have HOF := Aside0.mk (of_calls A0 c0 d A1 c1 l txt W0 (Kd.C_max hL) hD hd0 hL hl0)
  clear hR hb hat hdr hR1 hB1 hN1 hR2 hN2 hK2 hB2 hdr1 hx hc hg gs
  obtain ⟨vals, hvals⟩ : ∃ vals, valsL txt l = vals := ⟨_, rfl⟩
  rw [hvals] at hs HOF ⊢
  clear hvals
  cases vals with
  | nil =>
    cases bad
    all_goals
      go_enter Tryz.func68, Tryz.ntmps68
      go_wp2
      go_region_held3 (fun w' => w'.cell? ⟨g, 0, none⟩ = some (.slice (some ad) x.length c) ∧ w'.cell? ⟨g, 3, none⟩ = some (.int .i64 at_) ∧ w'.cell? (ad.add (at_ * 3)) = some (.int .i64 2) ∧ w'.cell? ⟨(ad.add (at_ * 3)).block, (ad.add (at_ * 3)).off + 1, none⟩ = some (.string txt) ∧ w'.cell? ⟨(ad.add (at_ * 3)).block, (ad.add (at_ * 3)).off + 2, none⟩ = some (.int .i64 num)) (go_keep) (fail)
      go_wp2
      go_region_held3 (fun w' => w'.cell? ⟨g, 1, none⟩ = some (.slice A0 d.length c0) ∧ w'.cell? ⟨g, 2, none⟩ = some (.slice A1 l.length c1) ∧ w'.cell? ⟨W.heap.size, 1, none⟩ = some (.string txt)) (go_keep) ((go_at_call 103; refine (HOF.out _ (by first | exact HB2.out | exact below_drew HB2.out)).mono ?_; rintro e w3 ⟨A3, c3, rfl, hl3, hk3, hb3⟩; have hb3' := Aside0.mk (show Below W2.heap.size W2 w3 from below_step (by first | exact Below.refl _ _ | exact below_drew (Below.refl _ _)) hb3); have HR3 := Aside0.mk (show RunAt w3 _ _ _ _ _ _ _ _ _ _ _ _ from blk_below HR2.out hb3'.out); have HN3 := Aside0.mk (blk_below HN2.out hb3'.out); have HB3 := Aside0.mk (below_step HB2.out hb3'.out); have HK3 := Aside0.mk (HK2.out.trans (KeepBut.of_below hb3'.out g none) (.inl rfl)); have HS3 := Aside0.mk hk3; have u1 := blk_cell HR3.out 1; have u2 := blk_cell HR3.out 2; have u4 := blk_cell HR3.out 4; have uz := blk_frozen HR3.out 4; have j1 := blk_cell HN3.out 1; clear hk3 hb3 hl3))
      go_wp2
      go_ret
      exact ⟨rfl, below_set HB3.out HG.out, HK3.out.set_ 4 _, _, HAT.out, HD1.out, run_end HR3.out (by first | rfl | (rw [show decide (40 < ((headS []).size : Int)) = !okS (headS []) from okS_not _]; rfl))⟩
  | cons v vs =>
    obtain ⟨vals, hvals⟩ : ∃ vals, v :: vs = vals := ⟨_, rfl⟩
    have hlv : (0 : Int) < (vals.length : Int) := by rw [← hvals]; simp only [List.length_cons]; omega
    have hsat := fun (W' : World) (A' : Option Addr) (h : Kd.C Kd.string W' A' vals.length vals) => (show ∃ ad, A' = some ad ∧ W'.cell? ad = some (.string (headS vals)) by subst hvals; exact str_at h)
    have HSAT := Aside0.mk hsat
    rw [hvals] at HOF hs ⊢
    obtain ⟨hd, hhd⟩ : ∃ hd, headS vals = hd := ⟨_, rfl⟩
    rw [hhd] at HSAT hs ⊢
    have hbig : (hd.size : Int) ≤ 100000 := by omega
    clear hvals hhd hsat
    cases bad
    all_goals
      go_enter Tryz.func68, Tryz.ntmps68
      go_wp2
      go_region_held3 (fun w' => w'.cell? ⟨g, 0, none⟩ = some (.slice (some ad) x.length c) ∧ w'.cell? ⟨g, 3, none⟩ = some (.int .i64 at_) ∧ w'.cell? (ad.add (at_ * 3)) = some (.int .i64 2) ∧ w'.cell? ⟨(ad.add (at_ * 3)).block, (ad.add (at_ * 3)).off + 1, none⟩ = some (.string txt) ∧ w'.cell? ⟨(ad.add (at_ * 3)).block, (ad.add (at_ * 3)).off + 2, none⟩ = some (.int .i64 num)) (go_keep) (fail)
      go_wp2
      go_region_held3 (fun w' => w'.cell? ⟨g, 1, none⟩ = some (.slice A0 d.length c0) ∧ w'.cell? ⟨g, 2, none⟩ = some (.slice A1 l.length c1) ∧ w'.cell? ⟨W.heap.size, 1, none⟩ = some (.string txt)) (go_keep) ((go_at_call 103; refine (HOF.out _ (by first | exact HB2.out | exact below_drew HB2.out)).mono ?_; rintro e w3 ⟨A3, c3, rfl, hl3, hk3, hb3⟩; have hb3' := Aside0.mk (show Below W2.heap.size W2 w3 from below_step (by first | exact Below.refl _ _ | exact below_drew (Below.refl _ _)) hb3); have HR3 := Aside0.mk (show RunAt w3 _ _ _ _ _ _ _ _ _ _ _ _ from blk_below HR2.out hb3'.out); have HN3 := Aside0.mk (blk_below HN2.out hb3'.out); have HB3 := Aside0.mk (below_step HB2.out hb3'.out); have HK3 := Aside0.mk (HK2.out.trans (KeepBut.of_below hb3'.out g none) (.inl rfl)); have HS3 := Aside0.mk hk3; have u1 := blk_cell HR3.out 1; have u2 := blk_cell HR3.out 2; have u4 := blk_cell HR3.out 4; have uz := blk_frozen HR3.out 4; have j1 := blk_cell HN3.out 1; obtain ⟨a9, hA9, g9⟩ := HSAT.out w3 A3 HS3.out; subst hA9; clear hk3 hb3 hl3))
      go_wp2
      go_ret
      exact ⟨rfl, below_set HB3.out HG.out, HK3.out.set_ 4 _, _, HAT.out, HD1.out, run_end HR3.out (by first | rfl | (rw [show decide (40 < (hd.size : Int)) = !okS hd from okS_not _]; rfl))⟩
set_option maxHeartbeats 4000000 in
set_option maxRecDepth 100000 in
theorem one_lower (x : List S70) (l : List S115) (d : List S113) (W0 : World) (g : Nat) (A : Option Addr) (c : Nat) (A0 : Option Addr) (c0 : Nat) (A1 : Option Addr) (c1 : Nat) (hg : W0.heap.size ≤ g) (hx : Kd.C k70 W0 A x.length x) (hc : x.length ≤ c) (txt : ByteArray) (num : Int) (r : List S70) (r1 : List S70) (a : ByteArray) (f : Bool) (ha : a.size ≤ 100000) (ih : RunC x W0 g A c A0 d.length c0 A1 l.length c1 r a r1 f) :
    RunC x W0 g A c A0 d.length c0 A1 l.length c1 (⟨3, txt, num⟩ :: r) (caseS false a) r1 (f && okS (caseS false a)) := by
  intro W at_ bad hb hat hdr hR
  obtain ⟨hlt, ad, rfl, f0, f1, f2⟩ := part_in hx hdr
  have hdr1 := drop_next hdr
  have f0 := pw_cell_below hb f0
  have f1 := pw_cell_below hb f1
  have f2 := pw_cell_below hb f2
  have hmx := Kd.C_max hx
  simp only at f0 f1 f2
  have gs := blk_lt hR
  have gn : g ≠ W.heap.size := Nat.ne_of_lt gs
  have gn' : W.heap.size ≠ g := fun e => gn e.symm
  have r0 := blk_cell hR 0
  have r3 := blk_cell hR 3
  have ha := World.new_ne W _ f0
  have ha1 := World.new_ne W _ f1
  have ha2 := World.new_ne W _ f2
  have hi0 : (0 : Int) ≤ (at_ : Int) := by omega
  have hi1 : (at_ : Int) < (x.length : Int) := by omega
  obtain ⟨W1, hW1⟩ : ∃ W1, (W.alloc (.cells #[.int .i64 3, .string txt, .int .i64 num] 70)).drew = W1 := ⟨_, rfl⟩
  have hB1 : Below W.heap.size W W1 := by rw [← hW1]; exact below_drew (below_alloc (Below.refl _ _) _)
  have hN1 : W1.heap[W.heap.size]? = some (.cells #[.int .i64 3, .string txt, .int .i64 num] 70 (0, 0)) := by rw [← hW1]; exact heap_alloc_new W _
  have hR1 : RunAt W1 g (some ad) x.length c A0 d.length c0 A1 l.length c1 at_ bad := blk_below hR hB1
  have q3 := blk_cell hR1 3
  have q0 := blk_cell hR1 0
  have qf0 := pw_cell_below hB1 f0
  have qf1 := pw_cell_below hB1 f1
  have qf2 := pw_cell_below hB1 f2
  have qz := blk_frozen hR1 3
  obtain ⟨W2, hW2⟩ : ∃ W2, W1.setCell ⟨g, 3, none⟩ (.int .i64 ((at_ : Int) + 1)) = W2 := ⟨_, rfl⟩
  have hR2 : RunAt W2 g (some ad) x.length c A0 d.length c0 A1 l.length c1 ((at_ + 1 : Nat) : Int) bad := by rw [← hW2]; exact run_put hR1
  have hN2 : W2.heap[W.heap.size]? = some (.cells #[.int .i64 3, .string txt, .int .i64 num] 70 (0, 0)) := by rw [← hW2]; exact blk_far hN1 gn' _
  have hK2 : KeepBut W W2 g none := by rw [← hW2]; exact (KeepBut.of_below hB1 g none).set_ 3 _
  have hB2 : Below W0.heap.size W0 W2 := by rw [← hW2]; exact below_set (below_step hb hB1) hg
  have k0 := blk_cell hN2 0
  have k1 := blk_cell hN2 1
  have k2 := blk_cell hN2 2
  have v1 := blk_cell hR2 1
  have v2 := blk_cell hR2 2
  have v4 := blk_cell hR2 4
  have vz := blk_frozen hR2 4
  have HR2 := Aside0.mk hR2
  have HN2 := Aside0.mk hN2
  have HK2 := Aside0.mk hK2
  have HB2 := Aside0.mk hB2
  have HD1 := Aside0.mk hdr1
  have HAT := Aside0.mk hlt
  have HG := Aside0.mk hg
  have GN := Aside0.mk gn
  clear hR hb hat hdr hR1 hB1 hN1 hR2 hN2 hK2 hB2 hdr1 hx hc hg gs
  have hcall := ih W2 (at_ + 1) bad HB2.out HAT.out HD1.out HR2.out
  rw [mix1]
  obtain ⟨b3, hb3⟩ : ∃ b3, (bad || !f) = b3 := ⟨_, rfl⟩
  rw [hb3] at hcall ⊢
  clear hb3 ih
  have hcs := fun (V : World) => caseS_calls false a (by omega) V
  obtain ⟨q, hq⟩ : ∃ q, caseS false a = q := ⟨_, rfl⟩
  have hqs : (q.size : Int) ≤ 100000 := by rw [← hq, caseS_size]; omega
  rw [hq] at hcs ⊢
  have HCS := Aside0.mk hcs
  clear hcs hq
  cases b3
  all_goals
    go_enter Tryz.func68, Tryz.ntmps68
    go_wp2
    go_region_held3 (fun w' => w'.cell? ⟨g, 0, none⟩ = some (.slice (some ad) x.length c) ∧ w'.cell? ⟨g, 3, none⟩ = some (.int .i64 at_) ∧ w'.cell? (ad.add (at_ * 3)) = some (.int .i64 3) ∧ w'.cell? ⟨(ad.add (at_ * 3)).block, (ad.add (at_ * 3)).off + 1, none⟩ = some (.string txt) ∧ w'.cell? ⟨(ad.add (at_ * 3)).block, (ad.add (at_ * 3)).off + 2, none⟩ = some (.int .i64 num)) (go_keep) (fail)
    go_wp2_with (first | (go_at_call 68; (with_reducible refine hcall.mono ?_); rintro e w3 ⟨rfl, hb3, hk3, at3, hle3, hd3, hR3⟩; have HR3 := Aside0.mk hR3; have HN3 := Aside0.mk (hk3.blk HN2.out GN.out.symm (by simp)); have HB3 := Aside0.mk hb3; have HK3 := Aside0.mk (HK2.out.trans hk3 (.inl rfl)); have HL3 := Aside0.mk hle3; have HD3 := Aside0.mk hd3; have v1 := blk_cell HR3.out 1; have v2 := blk_cell HR3.out 2; have v4 := blk_cell HR3.out 4; have vz := blk_frozen HR3.out 4; have k0 := blk_cell HN3.out 0; have k1 := blk_cell HN3.out 1; have k2 := blk_cell HN3.out 2; clear hR3 hb3 hk3 hle3 hd3) | (go_at_call 104; refine (HCS.out _).mono ?_; rintro e w4 ⟨rfl, hb4⟩; have HR4 := Aside0.mk (show RunAt w4 _ _ _ _ _ _ _ _ _ _ _ _ from blk_below HR3.out hb4); have HB4 := Aside0.mk (below_step HB3.out hb4); have HK4 := Aside0.mk (HK3.out.trans (KeepBut.of_below hb4 g none) (.inl rfl)); have v4 := blk_cell HR4.out 4; have vz := blk_frozen HR4.out 4))
    go_ret
    exact ⟨rfl, below_set HB4.out HG.out, HK4.out.set_ 4 _, _, HL3.out, HD3.out, run_end HR4.out (by first | rfl | (rw [show decide (40 < ((q).size : Int)) = !okS (q) from okS_not (q)]; rfl))⟩
set_option maxHeartbeats 4000000 in
set_option maxRecDepth 100000 in
theorem one_upper (x : List S70) (l : List S115) (d : List S113) (W0 : World) (g : Nat) (A : Option Addr) (c : Nat) (A0 : Option Addr) (c0 : Nat) (A1 : Option Addr) (c1 : Nat) (hg : W0.heap.size ≤ g) (hx : Kd.C k70 W0 A x.length x) (hc : x.length ≤ c) (txt : ByteArray) (num : Int) (r : List S70) (r1 : List S70) (a : ByteArray) (f : Bool) (ha : a.size ≤ 100000) (ih : RunC x W0 g A c A0 d.length c0 A1 l.length c1 r a r1 f) :
    RunC x W0 g A c A0 d.length c0 A1 l.length c1 (⟨4, txt, num⟩ :: r) (caseS true a) r1 (f && okS (caseS true a)) := by
  intro W at_ bad hb hat hdr hR
  obtain ⟨hlt, ad, rfl, f0, f1, f2⟩ := part_in hx hdr
  have hdr1 := drop_next hdr
  have f0 := pw_cell_below hb f0
  have f1 := pw_cell_below hb f1
  have f2 := pw_cell_below hb f2
  have hmx := Kd.C_max hx
  simp only at f0 f1 f2
  have gs := blk_lt hR
  have gn : g ≠ W.heap.size := Nat.ne_of_lt gs
  have gn' : W.heap.size ≠ g := fun e => gn e.symm
  have r0 := blk_cell hR 0
  have r3 := blk_cell hR 3
  have ha := World.new_ne W _ f0
  have ha1 := World.new_ne W _ f1
  have ha2 := World.new_ne W _ f2
  have hi0 : (0 : Int) ≤ (at_ : Int) := by omega
  have hi1 : (at_ : Int) < (x.length : Int) := by omega
  obtain ⟨W1, hW1⟩ : ∃ W1, (W.alloc (.cells #[.int .i64 4, .string txt, .int .i64 num] 70)).drew = W1 := ⟨_, rfl⟩
  have hB1 : Below W.heap.size W W1 := by rw [← hW1]; exact below_drew (below_alloc (Below.refl _ _) _)
  have hN1 : W1.heap[W.heap.size]? = some (.cells #[.int .i64 4, .string txt, .int .i64 num] 70 (0, 0)) := by rw [← hW1]; exact heap_alloc_new W _
  have hR1 : RunAt W1 g (some ad) x.length c A0 d.length c0 A1 l.length c1 at_ bad := blk_below hR hB1
  have q3 := blk_cell hR1 3
  have q0 := blk_cell hR1 0
  have qf0 := pw_cell_below hB1 f0
  have qf1 := pw_cell_below hB1 f1
  have qf2 := pw_cell_below hB1 f2
  have qz := blk_frozen hR1 3
  obtain ⟨W2, hW2⟩ : ∃ W2, W1.setCell ⟨g, 3, none⟩ (.int .i64 ((at_ : Int) + 1)) = W2 := ⟨_, rfl⟩
  have hR2 : RunAt W2 g (some ad) x.length c A0 d.length c0 A1 l.length c1 ((at_ + 1 : Nat) : Int) bad := by rw [← hW2]; exact run_put hR1
  have hN2 : W2.heap[W.heap.size]? = some (.cells #[.int .i64 4, .string txt, .int .i64 num] 70 (0, 0)) := by rw [← hW2]; exact blk_far hN1 gn' _
  have hK2 : KeepBut W W2 g none := by rw [← hW2]; exact (KeepBut.of_below hB1 g none).set_ 3 _
  have hB2 : Below W0.heap.size W0 W2 := by rw [← hW2]; exact below_set (below_step hb hB1) hg
  have k0 := blk_cell hN2 0
  have k1 := blk_cell hN2 1
  have k2 := blk_cell hN2 2
  have v1 := blk_cell hR2 1
  have v2 := blk_cell hR2 2
  have v4 := blk_cell hR2 4
  have vz := blk_frozen hR2 4
  have HR2 := Aside0.mk hR2
  have HN2 := Aside0.mk hN2
  have HK2 := Aside0.mk hK2
  have HB2 := Aside0.mk hB2
  have HD1 := Aside0.mk hdr1
  have HAT := Aside0.mk hlt
  have HG := Aside0.mk hg
  have GN := Aside0.mk gn
  clear hR hb hat hdr hR1 hB1 hN1 hR2 hN2 hK2 hB2 hdr1 hx hc hg gs
  have hcall := ih W2 (at_ + 1) bad HB2.out HAT.out HD1.out HR2.out
  rw [mix1]
  obtain ⟨b3, hb3⟩ : ∃ b3, (bad || !f) = b3 := ⟨_, rfl⟩
  rw [hb3] at hcall ⊢
  clear hb3 ih
  have hcs := fun (V : World) => caseS_calls true a (by omega) V
  obtain ⟨q, hq⟩ : ∃ q, caseS true a = q := ⟨_, rfl⟩
  have hqs : (q.size : Int) ≤ 100000 := by rw [← hq, caseS_size]; omega
  rw [hq] at hcs ⊢
  have HCS := Aside0.mk hcs
  clear hcs hq
  cases b3
  all_goals
    go_enter Tryz.func68, Tryz.ntmps68
    go_wp2
    go_region_held3 (fun w' => w'.cell? ⟨g, 0, none⟩ = some (.slice (some ad) x.length c) ∧ w'.cell? ⟨g, 3, none⟩ = some (.int .i64 at_) ∧ w'.cell? (ad.add (at_ * 3)) = some (.int .i64 4) ∧ w'.cell? ⟨(ad.add (at_ * 3)).block, (ad.add (at_ * 3)).off + 1, none⟩ = some (.string txt) ∧ w'.cell? ⟨(ad.add (at_ * 3)).block, (ad.add (at_ * 3)).off + 2, none⟩ = some (.int .i64 num)) (go_keep) (fail)
    go_wp2_with (first | (go_at_call 68; (with_reducible refine hcall.mono ?_); rintro e w3 ⟨rfl, hb3, hk3, at3, hle3, hd3, hR3⟩; have HR3 := Aside0.mk hR3; have HN3 := Aside0.mk (hk3.blk HN2.out GN.out.symm (by simp)); have HB3 := Aside0.mk hb3; have HK3 := Aside0.mk (HK2.out.trans hk3 (.inl rfl)); have HL3 := Aside0.mk hle3; have HD3 := Aside0.mk hd3; have v1 := blk_cell HR3.out 1; have v2 := blk_cell HR3.out 2; have v4 := blk_cell HR3.out 4; have vz := blk_frozen HR3.out 4; have k0 := blk_cell HN3.out 0; have k1 := blk_cell HN3.out 1; have k2 := blk_cell HN3.out 2; clear hR3 hb3 hk3 hle3 hd3) | (go_at_call 104; refine (HCS.out _).mono ?_; rintro e w4 ⟨rfl, hb4⟩; have HR4 := Aside0.mk (show RunAt w4 _ _ _ _ _ _ _ _ _ _ _ _ from blk_below HR3.out hb4); have HB4 := Aside0.mk (below_step HB3.out hb4); have HK4 := Aside0.mk (HK3.out.trans (KeepBut.of_below hb4 g none) (.inl rfl)); have v4 := blk_cell HR4.out 4; have vz := blk_frozen HR4.out 4))
    go_ret
    exact ⟨rfl, below_set HB4.out HG.out, HK4.out.set_ 4 _, _, HL3.out, HD3.out, run_end HR4.out (by first | rfl | (rw [show decide (40 < ((q).size : Int)) = !okS (q) from okS_not (q)]; rfl))⟩
set_option maxHeartbeats 4000000 in
set_option maxRecDepth 100000 in
theorem one_join (x : List S70) (l : List S115) (d : List S113) (W0 : World) (g : Nat) (A : Option Addr) (c : Nat) (A0 : Option Addr) (c0 : Nat) (A1 : Option Addr) (c1 : Nat) (hg : W0.heap.size ≤ g) (hx : Kd.C k70 W0 A x.length x) (hc : x.length ≤ c) (txt : ByteArray) (num : Int) (r : List S70) (r1 r2 : List S70) (a b : ByteArray) (f fb : Bool) (ha : a.size ≤ 100000) (hbz : b.size ≤ 100000) (ih : RunC x W0 g A c A0 d.length c0 A1 l.length c1 r a r1 f) (ih2 : RunC x W0 g A c A0 d.length c0 A1 l.length c1 r1 b r2 fb) :
    RunC x W0 g A c A0 d.length c0 A1 l.length c1 (⟨5, txt, num⟩ :: r) (a ++ b) r2 ((f && fb) && okS (a ++ b)) := by
  intro W at_ bad hb hat hdr hR
  obtain ⟨hlt, ad, rfl, f0, f1, f2⟩ := part_in hx hdr
  have hdr1 := drop_next hdr
  have f0 := pw_cell_below hb f0
  have f1 := pw_cell_below hb f1
  have f2 := pw_cell_below hb f2
  have hmx := Kd.C_max hx
  simp only at f0 f1 f2
  have gs := blk_lt hR
  have gn : g ≠ W.heap.size := Nat.ne_of_lt gs
  have gn' : W.heap.size ≠ g := fun e => gn e.symm
  have r0 := blk_cell hR 0
  have r3 := blk_cell hR 3
  have ha := World.new_ne W _ f0
  have ha1 := World.new_ne W _ f1
  have ha2 := World.new_ne W _ f2
  have hi0 : (0 : Int) ≤ (at_ : Int) := by omega
  have hi1 : (at_ : Int) < (x.length : Int) := by omega
  obtain ⟨W1, hW1⟩ : ∃ W1, (W.alloc (.cells #[.int .i64 5, .string txt, .int .i64 num] 70)).drew = W1 := ⟨_, rfl⟩
  have hB1 : Below W.heap.size W W1 := by rw [← hW1]; exact below_drew (below_alloc (Below.refl _ _) _)
  have hN1 : W1.heap[W.heap.size]? = some (.cells #[.int .i64 5, .string txt, .int .i64 num] 70 (0, 0)) := by rw [← hW1]; exact heap_alloc_new W _
  have hR1 : RunAt W1 g (some ad) x.length c A0 d.length c0 A1 l.length c1 at_ bad := blk_below hR hB1
  have q3 := blk_cell hR1 3
  have q0 := blk_cell hR1 0
  have qf0 := pw_cell_below hB1 f0
  have qf1 := pw_cell_below hB1 f1
  have qf2 := pw_cell_below hB1 f2
  have qz := blk_frozen hR1 3
  obtain ⟨W2, hW2⟩ : ∃ W2, W1.setCell ⟨g, 3, none⟩ (.int .i64 ((at_ : Int) + 1)) = W2 := ⟨_, rfl⟩
  have hR2 : RunAt W2 g (some ad) x.length c A0 d.length c0 A1 l.length c1 ((at_ + 1 : Nat) : Int) bad := by rw [← hW2]; exact run_put hR1
  have hN2 : W2.heap[W.heap.size]? = some (.cells #[.int .i64 5, .string txt, .int .i64 num] 70 (0, 0)) := by rw [← hW2]; exact blk_far hN1 gn' _
  have hK2 : KeepBut W W2 g none := by rw [← hW2]; exact (KeepBut.of_below hB1 g none).set_ 3 _
  have hB2 : Below W0.heap.size W0 W2 := by rw [← hW2]; exact below_set (below_step hb hB1) hg
  have k0 := blk_cell hN2 0
  have k1 := blk_cell hN2 1
  have k2 := blk_cell hN2 2
  have v1 := blk_cell hR2 1
  have v2 := blk_cell hR2 2
  have v4 := blk_cell hR2 4
  have vz := blk_frozen hR2 4
  have HR2 := Aside0.mk hR2
  have HN2 := Aside0.mk hN2
  have HK2 := Aside0.mk hK2
  have HB2 := Aside0.mk hB2
  have HD1 := Aside0.mk hdr1
  have HAT := Aside0.mk hlt
  have HG := Aside0.mk hg
  have GN := Aside0.mk gn
  clear hR hb hat hdr hR1 hB1 hN1 hR2 hN2 hK2 hB2 hdr1 hx hc hg gs
  have hcall := ih W2 (at_ + 1) bad HB2.out HAT.out HD1.out HR2.out
  rw [mix2]
  obtain ⟨b3, hb3⟩ : ∃ b3, (bad || !f) = b3 := ⟨_, rfl⟩
  rw [hb3] at hcall ⊢
  obtain ⟨b4, hb4⟩ : ∃ b4, (b3 || !fb) = b4 := ⟨_, rfl⟩
  rw [hb4]
  have HX4 := Aside0.mk hb4
  have H2 := Aside0.mk ih2
  clear hb3 hb4 ih ih2
  have hcc : ¬ ((9223372036854775807 : Int) < (a.size : Int) + (b.size : Int)) := by omega
  have hcc2 : (a.size : Int) + (b.size : Int) ≤ 9223372036854775807 := by omega
  cases b4
  all_goals
    go_enter Tryz.func68, Tryz.ntmps68
    go_wp2
    go_region_held3 (fun w' => w'.cell? ⟨g, 0, none⟩ = some (.slice (some ad) x.length c) ∧ w'.cell? ⟨g, 3, none⟩ = some (.int .i64 at_) ∧ w'.cell? (ad.add (at_ * 3)) = some (.int .i64 5) ∧ w'.cell? ⟨(ad.add (at_ * 3)).block, (ad.add (at_ * 3)).off + 1, none⟩ = some (.string txt) ∧ w'.cell? ⟨(ad.add (at_ * 3)).block, (ad.add (at_ * 3)).off + 2, none⟩ = some (.int .i64 num)) (go_keep) (fail)
    go_wp2_with (first | (go_at_call 68; (with_reducible refine hcall.mono ?_); rintro e w3 ⟨rfl, hb3, hk3, at3, hle3, hd3, hR3⟩; have HR3 := Aside0.mk hR3; have HN3 := Aside0.mk (hk3.blk HN2.out GN.out.symm (by simp)); have HB3 := Aside0.mk hb3; have HK3 := Aside0.mk (HK2.out.trans hk3 (.inl rfl)); have HL3 := Aside0.mk hle3; have HD3 := Aside0.mk hd3; have v1 := blk_cell HR3.out 1; have v2 := blk_cell HR3.out 2; have v4 := blk_cell HR3.out 4; have vz := blk_frozen HR3.out 4; have k0 := blk_cell HN3.out 0; have k1 := blk_cell HN3.out 1; have k2 := blk_cell HN3.out 2; clear hR3 hb3 hk3 hle3 hd3) | (go_at_call 68; have hc2 := H2.out w3 at3 b3 HB3.out HL3.out HD3.out HR3.out; (with_reducible refine hc2.mono ?_); clear hc2; rintro e w4 ⟨rfl, hb4, hk4, at4, hle4, hd4, hR4⟩; rw [HX4.out] at hR4; have HR4 := Aside0.mk hR4; have HN4 := Aside0.mk (hk4.blk HN3.out GN.out.symm (by simp)); have HB4 := Aside0.mk hb4; have HK4 := Aside0.mk (HK3.out.trans hk4 (.inl rfl)); have HL4 := Aside0.mk hle4; have HD4 := Aside0.mk hd4; have v1 := blk_cell HR4.out 1; have v2 := blk_cell HR4.out 2; have v4 := blk_cell HR4.out 4; have vz := blk_frozen HR4.out 4; have k0 := blk_cell HN4.out 0; have k1 := blk_cell HN4.out 1; have k2 := blk_cell HN4.out 2; clear hR4 hb4 hk4 hle4 hd4))
    go_ret
    exact ⟨rfl, below_set HB4.out HG.out, HK4.out.set_ 4 _, _, HL4.out, HD4.out, run_end HR4.out (by first | rfl | (rw [show decide (40 < (a.size : Int) + (b.size : Int)) = !okS (a ++ b) by have h_ := okS_not (a ++ b); rw [ByteArray.size_append, Int.natCast_add] at h_; exact h_]; rfl))⟩
set_option maxHeartbeats 4000000 in
set_option maxRecDepth 100000 in
theorem one_first (x : List S70) (l : List S115) (d : List S113) (W0 : World) (g : Nat) (A : Option Addr) (c : Nat) (A0 : Option Addr) (c0 : Nat) (A1 : Option Addr) (c1 : Nat) (hg : W0.heap.size ≤ g) (hx : Kd.C k70 W0 A x.length x) (hc : x.length ≤ c) (txt : ByteArray) (num : Int) (r : List S70) (r1 r2 : List S70) (a b : ByteArray) (f fb : Bool) (ha : a.size ≤ 100000) (hbz : b.size ≤ 100000) (ih : RunC x W0 g A c A0 d.length c0 A1 l.length c1 r a r1 f) (ih2 : RunC x W0 g A c A0 d.length c0 A1 l.length c1 r1 b r2 fb) :
    RunC x W0 g A c A0 d.length c0 A1 l.length c1 (⟨6, txt, num⟩ :: r) (firstS a b) r2 ((f && fb) && okS (firstS a b)) := by
  intro W at_ bad hb hat hdr hR
  obtain ⟨hlt, ad, rfl, f0, f1, f2⟩ := part_in hx hdr
  have hdr1 := drop_next hdr
  have f0 := pw_cell_below hb f0
  have f1 := pw_cell_below hb f1
  have f2 := pw_cell_below hb f2
  have hmx := Kd.C_max hx
  simp only at f0 f1 f2
  have gs := blk_lt hR
  have gn : g ≠ W.heap.size := Nat.ne_of_lt gs
  have gn' : W.heap.size ≠ g := fun e => gn e.symm
  have r0 := blk_cell hR 0
  have r3 := blk_cell hR 3
  have ha := World.new_ne W _ f0
  have ha1 := World.new_ne W _ f1
  have ha2 := World.new_ne W _ f2
  have hi0 : (0 : Int) ≤ (at_ : Int) := by omega
  have hi1 : (at_ : Int) < (x.length : Int) := by omega
  obtain ⟨W1, hW1⟩ : ∃ W1, (W.alloc (.cells #[.int .i64 6, .string txt, .int .i64 num] 70)).drew = W1 := ⟨_, rfl⟩
  have hB1 : Below W.heap.size W W1 := by rw [← hW1]; exact below_drew (below_alloc (Below.refl _ _) _)
  have hN1 : W1.heap[W.heap.size]? = some (.cells #[.int .i64 6, .string txt, .int .i64 num] 70 (0, 0)) := by rw [← hW1]; exact heap_alloc_new W _
  have hR1 : RunAt W1 g (some ad) x.length c A0 d.length c0 A1 l.length c1 at_ bad := blk_below hR hB1
  have q3 := blk_cell hR1 3
  have q0 := blk_cell hR1 0
  have qf0 := pw_cell_below hB1 f0
  have qf1 := pw_cell_below hB1 f1
  have qf2 := pw_cell_below hB1 f2
  have qz := blk_frozen hR1 3
  obtain ⟨W2, hW2⟩ : ∃ W2, W1.setCell ⟨g, 3, none⟩ (.int .i64 ((at_ : Int) + 1)) = W2 := ⟨_, rfl⟩
  have hR2 : RunAt W2 g (some ad) x.length c A0 d.length c0 A1 l.length c1 ((at_ + 1 : Nat) : Int) bad := by rw [← hW2]; exact run_put hR1
  have hN2 : W2.heap[W.heap.size]? = some (.cells #[.int .i64 6, .string txt, .int .i64 num] 70 (0, 0)) := by rw [← hW2]; exact blk_far hN1 gn' _
  have hK2 : KeepBut W W2 g none := by rw [← hW2]; exact (KeepBut.of_below hB1 g none).set_ 3 _
  have hB2 : Below W0.heap.size W0 W2 := by rw [← hW2]; exact below_set (below_step hb hB1) hg
  have k0 := blk_cell hN2 0
  have k1 := blk_cell hN2 1
  have k2 := blk_cell hN2 2
  have v1 := blk_cell hR2 1
  have v2 := blk_cell hR2 2
  have v4 := blk_cell hR2 4
  have vz := blk_frozen hR2 4
  have HR2 := Aside0.mk hR2
  have HN2 := Aside0.mk hN2
  have HK2 := Aside0.mk hK2
  have HB2 := Aside0.mk hB2
  have HD1 := Aside0.mk hdr1
  have HAT := Aside0.mk hlt
  have HG := Aside0.mk hg
  have GN := Aside0.mk gn
  clear hR hb hat hdr hR1 hB1 hN1 hR2 hN2 hK2 hB2 hdr1 hx hc hg gs
  have hcall := ih W2 (at_ + 1) bad HB2.out HAT.out HD1.out HR2.out
  rw [mix2]
  obtain ⟨b3, hb3⟩ : ∃ b3, (bad || !f) = b3 := ⟨_, rfl⟩
  rw [hb3] at hcall ⊢
  obtain ⟨b4, hb4⟩ : ∃ b4, (b3 || !fb) = b4 := ⟨_, rfl⟩
  rw [hb4]
  have HX4 := Aside0.mk hb4
  have H2 := Aside0.mk ih2
  clear hb3 hb4 ih ih2
  by_cases he : a.toList = []
  · rw [show firstS a b = b from if_pos he]
    cases b4
    all_goals
      go_enter Tryz.func68, Tryz.ntmps68
      go_wp2
      go_region_held3 (fun w' => w'.cell? ⟨g, 0, none⟩ = some (.slice (some ad) x.length c) ∧ w'.cell? ⟨g, 3, none⟩ = some (.int .i64 at_) ∧ w'.cell? (ad.add (at_ * 3)) = some (.int .i64 6) ∧ w'.cell? ⟨(ad.add (at_ * 3)).block, (ad.add (at_ * 3)).off + 1, none⟩ = some (.string txt) ∧ w'.cell? ⟨(ad.add (at_ * 3)).block, (ad.add (at_ * 3)).off + 2, none⟩ = some (.int .i64 num)) (go_keep) (fail)
      go_wp2_with (first | (go_at_call 68; (with_reducible refine hcall.mono ?_); rintro e w3 ⟨rfl, hb3, hk3, at3, hle3, hd3, hR3⟩; have HR3 := Aside0.mk hR3; have HN3 := Aside0.mk (hk3.blk HN2.out GN.out.symm (by simp)); have HB3 := Aside0.mk hb3; have HK3 := Aside0.mk (HK2.out.trans hk3 (.inl rfl)); have HL3 := Aside0.mk hle3; have HD3 := Aside0.mk hd3; have v1 := blk_cell HR3.out 1; have v2 := blk_cell HR3.out 2; have v4 := blk_cell HR3.out 4; have vz := blk_frozen HR3.out 4; have k0 := blk_cell HN3.out 0; have k1 := blk_cell HN3.out 1; have k2 := blk_cell HN3.out 2; clear hR3 hb3 hk3 hle3 hd3) | (go_at_call 68; have hc2 := H2.out w3 at3 b3 HB3.out HL3.out HD3.out HR3.out; (with_reducible refine hc2.mono ?_); clear hc2; rintro e w4 ⟨rfl, hb4, hk4, at4, hle4, hd4, hR4⟩; rw [HX4.out] at hR4; have HR4 := Aside0.mk hR4; have HN4 := Aside0.mk (hk4.blk HN3.out GN.out.symm (by simp)); have HB4 := Aside0.mk hb4; have HK4 := Aside0.mk (HK3.out.trans hk4 (.inl rfl)); have HL4 := Aside0.mk hle4; have HD4 := Aside0.mk hd4; have v1 := blk_cell HR4.out 1; have v2 := blk_cell HR4.out 2; have v4 := blk_cell HR4.out 4; have vz := blk_frozen HR4.out 4; have k0 := blk_cell HN4.out 0; have k1 := blk_cell HN4.out 1; have k2 := blk_cell HN4.out 2; clear hR4 hb4 hk4 hle4 hd4))
      go_ret
      exact ⟨rfl, below_set HB4.out HG.out, HK4.out.set_ 4 _, _, HL4.out, HD4.out, run_end HR4.out (by first | rfl | (rw [show decide (40 < ((b).size : Int)) = !okS (b) from okS_not (b)]; rfl))⟩
  · rw [show firstS a b = a from if_neg he]
    have d1 : (a.toList == ([] : List UInt8)) = false := by simpa using he
    cases b4
    all_goals
      go_enter Tryz.func68, Tryz.ntmps68
      go_wp2
      go_region_held3 (fun w' => w'.cell? ⟨g, 0, none⟩ = some (.slice (some ad) x.length c) ∧ w'.cell? ⟨g, 3, none⟩ = some (.int .i64 at_) ∧ w'.cell? (ad.add (at_ * 3)) = some (.int .i64 6) ∧ w'.cell? ⟨(ad.add (at_ * 3)).block, (ad.add (at_ * 3)).off + 1, none⟩ = some (.string txt) ∧ w'.cell? ⟨(ad.add (at_ * 3)).block, (ad.add (at_ * 3)).off + 2, none⟩ = some (.int .i64 num)) (go_keep) (fail)
      go_wp2_with (first | (go_at_call 68; (with_reducible refine hcall.mono ?_); rintro e w3 ⟨rfl, hb3, hk3, at3, hle3, hd3, hR3⟩; have HR3 := Aside0.mk hR3; have HN3 := Aside0.mk (hk3.blk HN2.out GN.out.symm (by simp)); have HB3 := Aside0.mk hb3; have HK3 := Aside0.mk (HK2.out.trans hk3 (.inl rfl)); have HL3 := Aside0.mk hle3; have HD3 := Aside0.mk hd3; have v1 := blk_cell HR3.out 1; have v2 := blk_cell HR3.out 2; have v4 := blk_cell HR3.out 4; have vz := blk_frozen HR3.out 4; have k0 := blk_cell HN3.out 0; have k1 := blk_cell HN3.out 1; have k2 := blk_cell HN3.out 2; clear hR3 hb3 hk3 hle3 hd3) | (go_at_call 68; have hc2 := H2.out w3 at3 b3 HB3.out HL3.out HD3.out HR3.out; (with_reducible refine hc2.mono ?_); clear hc2; rintro e w4 ⟨rfl, hb4, hk4, at4, hle4, hd4, hR4⟩; rw [HX4.out] at hR4; have HR4 := Aside0.mk hR4; have HN4 := Aside0.mk (hk4.blk HN3.out GN.out.symm (by simp)); have HB4 := Aside0.mk hb4; have HK4 := Aside0.mk (HK3.out.trans hk4 (.inl rfl)); have HL4 := Aside0.mk hle4; have HD4 := Aside0.mk hd4; have v1 := blk_cell HR4.out 1; have v2 := blk_cell HR4.out 2; have v4 := blk_cell HR4.out 4; have vz := blk_frozen HR4.out 4; have k0 := blk_cell HN4.out 0; have k1 := blk_cell HN4.out 1; have k2 := blk_cell HN4.out 2; clear hR4 hb4 hk4 hle4 hd4))
      go_ret
      exact ⟨rfl, below_set HB4.out HG.out, HK4.out.set_ 4 _, _, HL4.out, HD4.out, run_end HR4.out (by first | rfl | (rw [show decide (40 < ((a).size : Int)) = !okS (a) from okS_not (a)]; rfl))⟩
set_option maxHeartbeats 4000000 in
set_option maxRecDepth 100000 in
theorem one_left (x : List S70) (l : List S115) (d : List S113) (W0 : World) (g : Nat) (A : Option Addr) (c : Nat) (A0 : Option Addr) (c0 : Nat) (A1 : Option Addr) (c1 : Nat) (hg : W0.heap.size ≤ g) (hx : Kd.C k70 W0 A x.length x) (hc : x.length ≤ c) (txt : ByteArray) (num : Int) (r : List S70) (r1 : List S70) (a : ByteArray) (f : Bool) (ha : a.size ≤ 100000) (ih : RunC x W0 g A c A0 d.length c0 A1 l.length c1 r a r1 f) (hn0 : 0 ≤ num) (hn40 : num ≤ 40) :
    RunC x W0 g A c A0 d.length c0 A1 l.length c1 (⟨7, txt, num⟩ :: r) (leftS a num) r1 (f && okS (leftS a num)) := by
  intro W at_ bad hb hat hdr hR
  obtain ⟨hlt, ad, rfl, f0, f1, f2⟩ := part_in hx hdr
  have hdr1 := drop_next hdr
  have f0 := pw_cell_below hb f0
  have f1 := pw_cell_below hb f1
  have f2 := pw_cell_below hb f2
  have hmx := Kd.C_max hx
  simp only at f0 f1 f2
  have gs := blk_lt hR
  have gn : g ≠ W.heap.size := Nat.ne_of_lt gs
  have gn' : W.heap.size ≠ g := fun e => gn e.symm
  have r0 := blk_cell hR 0
  have r3 := blk_cell hR 3
  have ha := World.new_ne W _ f0
  have ha1 := World.new_ne W _ f1
  have ha2 := World.new_ne W _ f2
  have hi0 : (0 : Int) ≤ (at_ : Int) := by omega
  have hi1 : (at_ : Int) < (x.length : Int) := by omega
  obtain ⟨W1, hW1⟩ : ∃ W1, (W.alloc (.cells #[.int .i64 7, .string txt, .int .i64 num] 70)).drew = W1 := ⟨_, rfl⟩
  have hB1 : Below W.heap.size W W1 := by rw [← hW1]; exact below_drew (below_alloc (Below.refl _ _) _)
  have hN1 : W1.heap[W.heap.size]? = some (.cells #[.int .i64 7, .string txt, .int .i64 num] 70 (0, 0)) := by rw [← hW1]; exact heap_alloc_new W _
  have hR1 : RunAt W1 g (some ad) x.length c A0 d.length c0 A1 l.length c1 at_ bad := blk_below hR hB1
  have q3 := blk_cell hR1 3
  have q0 := blk_cell hR1 0
  have qf0 := pw_cell_below hB1 f0
  have qf1 := pw_cell_below hB1 f1
  have qf2 := pw_cell_below hB1 f2
  have qz := blk_frozen hR1 3
  obtain ⟨W2, hW2⟩ : ∃ W2, W1.setCell ⟨g, 3, none⟩ (.int .i64 ((at_ : Int) + 1)) = W2 := ⟨_, rfl⟩
  have hR2 : RunAt W2 g (some ad) x.length c A0 d.length c0 A1 l.length c1 ((at_ + 1 : Nat) : Int) bad := by rw [← hW2]; exact run_put hR1
  have hN2 : W2.heap[W.heap.size]? = some (.cells #[.int .i64 7, .string txt, .int .i64 num] 70 (0, 0)) := by rw [← hW2]; exact blk_far hN1 gn' _
  have hK2 : KeepBut W W2 g none := by rw [← hW2]; exact (KeepBut.of_below hB1 g none).set_ 3 _
  have hB2 : Below W0.heap.size W0 W2 := by rw [← hW2]; exact below_set (below_step hb hB1) hg
  have k0 := blk_cell hN2 0
  have k1 := blk_cell hN2 1
  have k2 := blk_cell hN2 2
  have v1 := blk_cell hR2 1
  have v2 := blk_cell hR2 2
  have v4 := blk_cell hR2 4
  have vz := blk_frozen hR2 4
  have HR2 := Aside0.mk hR2
  have HN2 := Aside0.mk hN2
  have HK2 := Aside0.mk hK2
  have HB2 := Aside0.mk hB2
  have HD1 := Aside0.mk hdr1
  have HAT := Aside0.mk hlt
  have HG := Aside0.mk hg
  have GN := Aside0.mk gn
  clear hR hb hat hdr hR1 hB1 hN1 hR2 hN2 hK2 hB2 hdr1 hx hc hg gs
  have hcall := ih W2 (at_ + 1) bad HB2.out HAT.out HD1.out HR2.out
  rw [mix1]
  obtain ⟨b3, hb3⟩ : ∃ b3, (bad || !f) = b3 := ⟨_, rfl⟩
  rw [hb3] at hcall ⊢
  clear hb3 ih
  have hmn := fun (V : World) => min_calls num (a.size : Int) (min a.size num.toNat : Nat) (by split <;> omega) V
  have HMN := Aside0.mk hmn
  obtain ⟨m, hm⟩ : ∃ m : Nat, min a.size num.toNat = m := ⟨_, rfl⟩
  have hm1 : (m : Int) ≤ (a.size : Int) := by omega
  have hm2 : (0 : Int) ≤ (m : Int) := by omega
  rw [hm] at HMN
  have HLS : Aside0 (leftS a num = a.extract 0 m) := ⟨by rw [← hm]; rfl⟩
  have HSZ : Aside0 ((leftS a num).size = min m a.size) := ⟨by rw [HLS.out, ByteArray.size_extract]; omega⟩
  clear hmn hm
  cases b3
  all_goals
    go_enter Tryz.func68, Tryz.ntmps68
    go_wp2
    go_region_held3 (fun w' => w'.cell? ⟨g, 0, none⟩ = some (.slice (some ad) x.length c) ∧ w'.cell? ⟨g, 3, none⟩ = some (.int .i64 at_) ∧ w'.cell? (ad.add (at_ * 3)) = some (.int .i64 7) ∧ w'.cell? ⟨(ad.add (at_ * 3)).block, (ad.add (at_ * 3)).off + 1, none⟩ = some (.string txt) ∧ w'.cell? ⟨(ad.add (at_ * 3)).block, (ad.add (at_ * 3)).off + 2, none⟩ = some (.int .i64 num)) (go_keep) (fail)
    go_wp2_with (first | (go_at_call 68; (with_reducible refine hcall.mono ?_); rintro e w3 ⟨rfl, hb3, hk3, at3, hle3, hd3, hR3⟩; have HR3 := Aside0.mk hR3; have HN3 := Aside0.mk (hk3.blk HN2.out GN.out.symm (by simp)); have HB3 := Aside0.mk hb3; have HK3 := Aside0.mk (HK2.out.trans hk3 (.inl rfl)); have HL3 := Aside0.mk hle3; have HD3 := Aside0.mk hd3; have v1 := blk_cell HR3.out 1; have v2 := blk_cell HR3.out 2; have v4 := blk_cell HR3.out 4; have vz := blk_frozen HR3.out 4; have k0 := blk_cell HN3.out 0; have k1 := blk_cell HN3.out 1; have k2 := blk_cell HN3.out 2; clear hR3 hb3 hk3 hle3 hd3) | (go_at_call 105; refine (HMN.out _).mono ?_; rintro e w4 ⟨rfl, hb4⟩; have HR4 := Aside0.mk (show RunAt w4 _ _ _ _ _ _ _ _ _ _ _ _ from blk_below HR3.out hb4); have HB4 := Aside0.mk (below_step HB3.out hb4); have HK4 := Aside0.mk (HK3.out.trans (KeepBut.of_below hb4 g none) (.inl rfl)); have v4 := blk_cell HR4.out 4; have vz := blk_frozen HR4.out 4))
    go_ret
    exact ⟨ret_str HLS.out.symm, below_set HB4.out HG.out, HK4.out.set_ 4 _, _, HL3.out, HD3.out, run_end HR4.out (by first | rfl | (rw [show decide (40 < ((min m a.size : Nat) : Int)) = !okS (leftS a num) by rw [← HSZ.out]; exact okS_not _]; rfl))⟩
end Go.Proofs.YtpocoeghobdfiaaGreatDoor.PG
