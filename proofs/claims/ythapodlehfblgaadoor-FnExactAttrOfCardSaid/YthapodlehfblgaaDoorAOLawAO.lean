/-
  The walk of the law FnExactAttrOf. No condition but what the arguments fit.
-/
import Derived.Deep.RegionHeld3
import Derived.Test.YthapodlehfblgaaDoorAOP1
import Derived.Test.YthapodlehfblgaaDoorAOP2
import Derived.Test.YthapodlehfblgaaDoorAOAttrOf
import Derived.Test.YthapodlehfblgaaDoorAOMarkEntry
import Derived.Test.YthapodlehfblgaaDoorAOHEntry
import Derived.Test.YthapodlehfblgaaDoorAOHStringS
namespace Go.Proofs.YthapodlehfblgaaDoor.PA
open Go.RowKit Go.Proofs.YthapodlehfblgaaDoorW.PrintWords Go.Proofs.YthapodlehfblgaaDoorW.PrintLast Go.Proofs.YthapodlehfblgaaDoorW.PrintMore Go.Proofs.YthapodlehfblgaaDoor.Gn Go.Proofs.YthapodlehfblgaaDoor
attribute [local go_sem] max2_int min2_int max_two min_two max_three min_three max_four min_four World.cell?_drew World.frozen?_drew
set_option linter.unusedVariables false
set_option linter.unusedSimpArgs false

theorem dr_below {w w' : World} (h : Drawn0 w w') : Below w.heap.size w w' := by
  obtain ⟨n, rfl⟩ := h
  exact pw_below_drewN (Below.refl _ _) n
def RetI (n : Int) (W : World) (e : Ending) (w' : World) : Prop := e = .returned (.int .i64 n) ∧ Below W.heap.size W w'
def RetB (b : Bool) (W : World) (e : Ending) (w' : World) : Prop := e = .returned (.bool b) ∧ Below W.heap.size W w'
def RetEnt (x : List S103) (y : List S102) (W : World) (e : Ending) (w' : World) : Prop := ∃ A c B b, e = .returned (.agg #[.slice A x.length c, .slice B y.length b]) ∧ Kd.R k103 103 w' W.heap.size (fun _ => True) (.slice A x.length c) x ∧ Kd.S k102 102 w' W.heap.size (fun _ => True) (.slice B y.length b) y ∧ Below W.heap.size W w'
theorem ev_at {α : Type} {f : Nat → Option α} {r : α} (h : Ev f r) : ∃ k, f k = some r := h.rounds
theorem szEntry_c (x : List S95) (y : List S98) (acc r : Int) (hr : Ev (fun k => laws_szEntry.f k x y acc) r) (A : Option Addr) (c : Nat) (B : Option Addr) (b : Nat) (W : World) (hC : Kd.C k95 W A x.length x) (hc : x.length ≤ c) (hD : Kd.C k98 W B y.length y) (hd : y.length ≤ b) :
    Calls Tryd.prog 6 #[.agg #[.slice A x.length c, .slice B y.length b], .int .i64 acc] W (RetI r W) := by
  obtain ⟨k, hk⟩ := ev_at hr
  exact laws_szEntry.calls k A c x B b y acc r W hC hc hD hd hk
theorem toEntry_c (x : S25) (w : Ft.fit25 x) (A : Option Addr) (c : Nat) (B : Option Addr) (b : Nat) (W : World) (hC : Kd.C k95 W A x.f0.length x.f0) (hc : x.f0.length ≤ c) (hD : Kd.C k98 W B x.f1.length x.f1) (hd : x.f1.length ≤ b) :
    Calls Tryd.prog 8 #[.agg #[.slice A x.f0.length c, .slice B x.f1.length b]] W (RetEnt (conv_Entry x).f0 (conv_Entry x).f1 W) := by
  obtain ⟨k, hk⟩ := ev_at (to_Entry x w)
  refine (laws_toEntry.calls k A c x.f0 B b x.f1 _ _ W hC hc hD hd hk).mono ?_
  rintro e w' ⟨v, u, rfl, hR, hS, hb⟩
  obtain ⟨A', c', rfl⟩ := Kd.R_slice hR
  obtain ⟨B', b', rfl⟩ := Kd.S_slice hS
  exact ⟨A', c', B', b', rfl, hR, hS, hb⟩
theorem eqStringS_c (x : List ByteArray) (h : lens_StringS x) (A : Option Addr) (c : Nat) (B : Option Addr) (b : Nat) (W : World) (hC : Kd.C Kd.string W A x.length x) (hc : x.length ≤ c) (hD : Kd.C Kd.string W B x.length x) (hd : x.length ≤ b) : Calls Tryd.prog 10 #[.slice A x.length c, .slice B x.length b] W (RetB true W) := by
  obtain ⟨k, hk⟩ := ev_at (eq_StringS x h)
  exact (laws_eqStringS.calls k A c x B b x true W hC hc hD hd hk).mono fun e w' h => ⟨h.1, dr_below h.2⟩
theorem eqEntry_c (x : S32) (h : lens_Entry x) (A : Option Addr) (c : Nat) (B : Option Addr) (b : Nat) (A' : Option Addr) (c' : Nat) (B' : Option Addr) (b' : Nat) (W : World) (hC : Kd.C k103 W A x.f0.length x.f0) (hc : x.f0.length ≤ c) (hD : Kd.C k102 W B x.f1.length x.f1) (hd : x.f1.length ≤ b) (hC' : Kd.C k103 W A' x.f0.length x.f0) (hc' : x.f0.length ≤ c') (hD' : Kd.C k102 W B' x.f1.length x.f1) (hd' : x.f1.length ≤ b') :
    Calls Tryd.prog 11 #[.agg #[.slice A x.f0.length c, .slice B x.f1.length b], .agg #[.slice A' x.f0.length c', .slice B' x.f1.length b']] W (RetB true W) := by
  obtain ⟨k, hk⟩ := ev_at (eq_Entry x h)
  exact laws_eqEntry.calls k A c x.f0 B b x.f1 A' c' x.f0 B' b' x.f1 true W hC hc hD hd hC' hc' hD' hd' hk
theorem specAttrOf_c (d : List S103) (l : List S102) (name : ByteArray) (q : List ByteArray) (hq : Ev (fun k => spec_AttrOf.f k d l name) q) (A : Option Addr) (c : Nat) (B : Option Addr) (b : Nat) (W : World) (hC : Kd.C k103 W A d.length d) (hc : d.length ≤ c) (hD : Kd.C k102 W B l.length l) (hd : l.length ≤ b) :
    Calls Tryd.prog 7 #[.agg #[.slice A d.length c, .slice B l.length b], .string name] W (RetOwn q W) := by
  obtain ⟨k, hk⟩ := ev_at hq
  refine (spec_AttrOf.calls k A c d B b l name q W hC hc hD hd hk).mono ?_
  rintro e w' ⟨v, rfl, hR, hb⟩
  obtain ⟨A', c', rfl⟩ := Kd.R_slice hR
  exact ⟨A', c', rfl, hR, hb⟩
theorem heldStrs_c (m : Nat) (x : Int) (hl : m ≤ 1000000000000000) (h0 : 0 ≤ x) (hx : x + m ≤ 1000000000000000) (A : Option Addr) (c : Nat) (W : World) (hC : Kd.C Kd.string W A m (mkL markT 1 x m)) (hc : m ≤ c) :
    Calls Tryd.prog 14 #[.slice A m c, .int .i64 x] W (RetI (x + m) W) := by
  obtain ⟨k, hk⟩ := ev_at (held_String m x hl h0 (by omega))
  have hlen : (mkL markT 1 x m).length = m := mkL_length _ _ _ _
  have h := laws_heldStringS.calls k A c (mkL markT 1 x m) x _ W (by rw [hlen]; exact hC) (by rw [hlen]; exact hc) hk
  rw [hlen] at h
  refine h.mono ?_
  rintro e w' ⟨rfl, hb⟩
  exact ⟨by simp, hb⟩
theorem nAs_le (m : Nat) : ∀ l : List S102, (∀ a, a ∈ l → a.f1.length ≤ m) → nAs l ≤ l.length * (m + 1)
  | [], _ => Nat.zero_le _
  | a :: r, h => by
    have h1 := nAs_le m r (fun b hb => h b (List.mem_cons_of_mem _ hb))
    have h2 := h a List.mem_cons_self
    unfold nAs n_Attr
    rw [List.length_cons, Nat.succ_mul]
    omega
theorem ent_small (x : S25) (h : small_Entry x) : (conv_Entry x).f0.length ≤ 1048576 ∧ (conv_Entry x).f1.length ≤ 1048576 ∧ nAs (conv_Entry x).f1 ≤ 10000000000000 := by
  obtain ⟨h1, h2⟩ := h
  have e1 : (conv_Entry x).f0.length = x.f0.length := by simp [conv_Entry]
  have e2 : (conv_Entry x).f1.length = x.f1.length := by simp [conv_Entry]
  have h3 := nAs_le 1048576 (conv_Entry x).f1 (fun a ha => by
    have ha2 : a ∈ x.f1.map conv_Attr := ha
    obtain ⟨b, hb, rfl⟩ := List.mem_map.1 ha2
    have h4 := (h2.2 b hb).2.1
    simpa [conv_Attr] using h4)
  have h5 := h1.1
  have h6 := h2.1
  refine ⟨by omega, by omega, Nat.le_trans h3 ?_⟩
  have := Nat.mul_le_mul_right (1048576 + 1) (show (conv_Entry x).f1.length ≤ 1048576 by omega)
  omega
theorem attrOfV_le (d : List S103) (l : List S102) (name : ByteArray) : (attrOfV d l name).length ≤ 4 := by
  unfold attrOfV
  split
  · exact Nat.zero_le _
  · split
    · rename_i h
      exact vals_le4 h name
    · exact Nat.zero_le _
/-- A row of the law's own whose blocks lie between two numbers. -/
abbrev okR (lo hi : Nat) : Nat → Prop := fun k => lo ≤ k ∧ k < hi
theorem R_range {α : Type} {d : Kd α} {e : Nat} {V V' W1 : World} {v : Value} {xs : List α} (h : d.R e V' V.heap.size (fun _ => True) v xs) (hle : W1.heap.size ≤ V.heap.size) : d.R e V' W1.heap.size (okR V.heap.size V'.heap.size) v xs := Kd.R_lower (Kd.R_mono (Kd.R_bound h) (fun k hk => ⟨hk.2.1, hk.2.2.1⟩)) hle
theorem S_range {α : Type} {d : Kd α} {e : Nat} {V V' W1 : World} {v : Value} {xs : List α} (h : Kd.S d e V' V.heap.size (fun _ => True) v xs) (hle : W1.heap.size ≤ V.heap.size) : Kd.S d e V' W1.heap.size (okR V.heap.size V'.heap.size) v xs := Kd.S_lower (Kd.S_mono (Kd.S_bound h) (fun k hk => ⟨hk.2.1, hk.2.2.1⟩)) hle
theorem R_C {α : Type} {d : Kd α} {e : Nat} {V : World} {base : Nat} {ok : Nat → Prop} {A : Option Addr} {c : Nat} {xs : List α} (h : d.R e V base ok (.slice A xs.length c) xs) : xs.length ≤ c ∧ d.C V A xs.length xs := by
  obtain ⟨_, h1, h2⟩ := Kd.R_reads' h
  exact ⟨h1, h2⟩
theorem S_C {α : Type} {d : Kd α} {e : Nat} {V : World} {base : Nat} {ok : Nat → Prop} {A : Option Addr} {c : Nat} {xs : List α} (h : Kd.S d e V base ok (.slice A xs.length c) xs) : xs.length ≤ c ∧ d.C V A xs.length xs := by
  obtain ⟨_, h1, h2⟩ := Kd.S_reads' h
  exact ⟨h1, h2⟩
set_option maxHeartbeats 8000000 in
set_option maxRecDepth 100000 in
theorem walk_AttrOf (x0 : S25) (x1 : ByteArray) (w0 : Ft.fit25 x0) (w1 : x1.size ≤ 140737488351232) (A1 : Option Addr) (c1 : Nat) (B1 : Option Addr) (b1 : Nat) (W : World)
    (hC1 : Kd.C k95 W A1 x0.f0.length x0.f0) (hl1 : x0.f0.length ≤ c1) (hD1 : Kd.C k98 W B1 x0.f1.length x0.f1) (hm1 : x0.f1.length ≤ b1) :
    Calls Tryd.prog 3 #[.agg #[.slice A1 x0.f0.length c1, .slice B1 x0.f1.length b1], .string x1] W (RetB true W) := by
  obtain ⟨W1, hW1⟩ : ∃ W1, W.alloc (.cells #[.slice A1 x0.f0.length c1, .slice B1 x0.f1.length b1] 25) = W1 := ⟨_, rfl⟩
  have hB1 : Below W.heap.size W W1 := by rw [← hW1]; exact below_alloc (Below.refl _ _) _
  have hn : W1.heap[W.heap.size]? = some (.cells #[.slice A1 x0.f0.length c1, .slice B1 x0.f1.length b1] 25 (0, 0)) := by rw [← hW1]; exact heap_alloc_new W _
  have HCE := Aside0.mk (fun (V : World) (hb : Below W1.heap.size W1 V) => (show V.cell? ⟨W.heap.size, 0, none⟩ = some (.slice A1 x0.f0.length c1) ∧ V.cell? ⟨W.heap.size, 1, none⟩ = some (.slice B1 x0.f1.length b1) from ⟨pw_cell_below hb (cell_blk hn rfl), pw_cell_below hb (cell_blk hn rfl)⟩))
  have HC1 := Aside0.mk (fun (V : World) (hb : Below W1.heap.size W1 V) => Kd.C_below (Kd.C_below hC1 hB1) hb)
  have HD1 := Aside0.mk (fun (V : World) (hb : Below W1.heap.size W1 V) => Kd.C_below (Kd.C_below hD1 hB1) hb)
  have HL1 := Aside0.mk hl1
  have HM1 := Aside0.mk hm1
  have HB1 := Aside0.mk hB1
  clear hC1 hD1 hl1 hm1 hn hB1
  by_cases hbig : (x1.size : Int) > 1048576
  · go_enter Tryd.func3, Tryd.ntmps3
    go_wp2
    go_ret
    exact ⟨rfl, HB1.out⟩
  obtain ⟨e0, e1⟩ := HCE.out W1 (Below.refl _ _)
  obtain ⟨r0, hr0, hle0, hs0⟩ := sz_Entry x0 w0 1048576 (by omega) (by omega)
  have hS0 := szEntry_c x0.f0 x0.f1 1048576 r0 hr0 A1 c1 B1 b1 W1 (HC1.out W1 (Below.refl _ _)) HL1.out (HD1.out W1 (Below.refl _ _)) HM1.out
  clear hr0
  by_cases hneg0 : r0 < 0
  · have hd0 : decide (r0 < 0) = true := decide_eq_true hneg0
    clear hs0 hneg0 hle0
    go_enter Tryd.func3, Tryd.ntmps3
    go_wp2_with (go_at_call 6; refine hS0.mono ?_; rintro e w3 ⟨rfl, hb3⟩)
    go_ret
    exact ⟨rfl, below_step HB1.out hb3⟩
  have hd0 : decide (r0 < 0) = false := decide_eq_false hneg0
  have hsm := hs0 (by omega)
  have hln := lens_conv_Entry x0 hsm
  have HT := Aside0.mk (fun (V : World) (hb : Below W1.heap.size W1 V) => toEntry_c x0 w0 A1 c1 B1 b1 V (HC1.out V hb) HL1.out (HD1.out V hb) HM1.out)
  have HEQ := Aside0.mk (eqEntry_c _ hln)
  have hsp := spec_attrOf (conv_Entry x0).f0 (conv_Entry x0).f1 x1 hln.1.1 hln.2.1 (fun x hx => (hln.2.2 x hx).2)
  have hnum := ent_small x0 hsm
  generalize (conv_Entry x0) = y at HT HEQ hsp hnum
  have HSP := Aside0.mk (specAttrOf_c y.f0 y.f1 x1 (attrOfV y.f0 y.f1 x1) hsp)
  have HIM := Aside0.mk (fun A c B b V h0 l0 h1 l1 => attrOf_calls A c y.f0 B b y.f1 x1 V h0 l0 h1 l1)
  have hq4 := attrOfV_le y.f0 y.f1 x1
  generalize attrOfV y.f0 y.f1 x1 = q at HSP HIM hq4
  have HES := Aside0.mk (eqStringS_c q (show q.length ≤ 9223372036854775807 by omega))
  have HNUM := Aside0.mk hnum
  have HQ4 := Aside0.mk hq4
  clear hs0 hneg0 hle0 hsm hln hsp hnum hq4
  go_enter Tryd.func3, Tryd.ntmps3
  go_wp2_with (first | (go_at_call 6; refine hS0.mono ?_; rintro e V1 ⟨rfl, hb3⟩; have hB := Aside0.mk hb3; obtain ⟨g0, g1⟩ := HCE.out V1 hb3; clear hb3) | (go_at_call 7; obtain ⟨hl2, hC2⟩ := R_C X2.out.1; obtain ⟨hm2, hD2⟩ := S_C X2.out.2; refine (HSP.out _ _ _ _ V2 hC2 hl2 hD2 hm2).mono ?_; rintro e V3 ⟨A3, c3, rfl, hR3, hb3⟩; have hB3 := Aside0.mk (below_step hB2.out hb3); have X3 := Aside0.mk (R_range hR3 hB2.out.size); obtain ⟨g0, g1⟩ := HCE.out V3 hB3.out; clear hl2 hC2 hm2 hD2 hR3 hb3) | (go_at_call 8; (with_reducible refine (HT.out V1 hB.out).mono ?_); rintro e V2 ⟨A2, c2, B2, b2, rfl, hR2, hS2, hb2⟩; have hB2 := Aside0.mk (below_step hB.out hb2); have X2 := Aside0.mk (And.intro hR2 hS2); clear hR2 hS2 hb2) | (go_at_call 8; (with_reducible refine (HT.out V3 hB3.out).mono ?_); rintro e V4 ⟨A4, c4, B4, b4, rfl, hR4, hS4, hb4⟩; have hB4 := Aside0.mk (below_step hB3.out hb4); have hb34 := Aside0.mk hb4; have X4 := Aside0.mk (And.intro (R_range hR4 hB3.out.size) (S_range hS4 hB3.out.size)); clear hR4 hS4 hb4) | (go_at_call 9; obtain ⟨V5, hV5⟩ : ∃ V5, V4.alloc (.cells #[.slice A4 y.f0.length c4, .slice B4 y.f1.length b4] 32) = V5 := ⟨_, rfl⟩; rw [hV5]; have hb45 : Below V4.heap.size V4 V5 := (by rw [← hV5]; exact below_alloc (Below.refl _ _) _); have hn5 : V5.heap[V4.heap.size]? = some (.cells #[.slice A4 y.f0.length c4, .slice B4 y.f1.length b4] 32 (0, 0)) := (by rw [← hV5]; exact heap_alloc_new V4 _); have hs5 : V5.heap.size = V4.heap.size + 1 := (by rw [← hV5]; simp); have X5 := Aside0.mk (And.intro (Kd.R_below X4.out.1 hb45) (Kd.S_below X4.out.2 hb45)); obtain ⟨hl5, hC5⟩ := R_C X5.out.1; obtain ⟨hm5, hD5⟩ := S_C X5.out.2; refine (HIM.out _ _ _ _ V5 hC5 hl5 hD5 hm5).mono ?_; rintro e V6 ⟨A6, c6, rfl, hR6, hb6⟩; have hB5 := below_step hB4.out hb45; have hB6 := Aside0.mk (below_step hB5 hb6); have K6 := Aside0.mk (blk_below hn5 hb6); have X6 := Aside0.mk (And.intro (Kd.R_below X5.out.1 hb6) (Kd.S_below X5.out.2 hb6)); have G6 := Aside0.mk (R_range hR6 hB5.size); have Y6 := Aside0.mk (Kd.R_below X3.out (below_step hb34.out (below_step hb45 hb6))); have HS5 := Aside0.mk hs5; obtain ⟨g0, g1⟩ := HCE.out V6 hB6.out; clear hb45 hn5 hs5 hl5 hC5 hm5 hD5 hR6 hb6 hB5 hV5) | (go_at_call 10; obtain ⟨hl6, hC6⟩ := R_C G6.out; obtain ⟨hm6, hD6⟩ := R_C Y6.out; refine (HES.out A6 c6 A3 c3 V6 hC6 hl6 hD6 hm6).mono ?_; rintro e V7 ⟨rfl, hb7⟩; have hB7 := Aside0.mk (below_step hB6.out hb7); have hb67 := Aside0.mk hb7; obtain ⟨g0, g1⟩ := HCE.out V7 hB7.out; clear hl6 hC6 hm6 hD6 hb7))
  have K7 := Aside0.mk (blk_below K6.out hb67.out)
  have X7 := Aside0.mk (And.intro (Kd.R_below X6.out.1 hb67.out) (Kd.S_below X6.out.2 hb67.out))
  have z0_ := (show V7.cell? ⟨V4.heap.size, 0, none⟩ = some (.slice A4 y.f0.length c4) from blk_cell K7.out 0)
  have z1_ := (show V7.cell? ⟨V4.heap.size, 1, none⟩ = some (.slice B4 y.f1.length b4) from blk_cell K7.out 1)
  go_region_held3 (fun w' => w'.cell? ⟨W.heap.size, 0, none⟩ = some (.slice A1 x0.f0.length c1) ∧ w'.cell? ⟨W.heap.size, 1, none⟩ = some (.slice B1 x0.f1.length b1) ∧ w'.cell? ⟨V4.heap.size, 0, none⟩ = some (.slice A4 y.f0.length c4) ∧ w'.cell? ⟨V4.heap.size, 1, none⟩ = some (.slice B4 y.f1.length b4)) (go_keep) (first | (go_at_call 8; refine (HT.out _ (by first | exact hB7.out | exact below_drew hB7.out)).mono ?_; rintro e V8 ⟨A8, c8, B8, b8, rfl, hR8, hS8, hb8⟩; have hb78 := Aside0.mk (show Below V7.heap.size V7 V8 from below_step (by first | exact Below.refl _ _ | exact below_drew (Below.refl _ _)) hb8); have hB8 := Aside0.mk (below_step hB7.out hb78.out); have X8 := Aside0.mk (And.intro hR8 hS8); obtain ⟨g0, g1⟩ := HCE.out V8 hB8.out; have K8 := Aside0.mk (blk_below K7.out hb78.out); have u0_ := (show V8.cell? ⟨V4.heap.size, 0, none⟩ = some (.slice A4 y.f0.length c4) from blk_cell K8.out 0); have u1_ := (show V8.cell? ⟨V4.heap.size, 1, none⟩ = some (.slice B4 y.f1.length b4) from blk_cell K8.out 1); clear hR8 hS8) | (go_at_call 11; obtain ⟨hl8, hC8⟩ := R_C X8.out.1; obtain ⟨hm8, hD8⟩ := S_C X8.out.2; obtain ⟨hl7, hC7⟩ := R_C (Kd.R_below X7.out.1 hb78.out); obtain ⟨hm7, hD7⟩ := S_C (Kd.S_below X7.out.2 hb78.out); refine (HEQ.out A4 c4 B4 b4 A8 c8 B8 b8 V8 hC7 hl7 hD7 hm7 hC8 hl8 hD8 hm8).mono ?_; rintro e V9 ⟨rfl, hb9⟩; have hb79 := Aside0.mk (below_step hb78.out hb9); have hB9 := Aside0.mk (below_step hB7.out hb79.out); obtain ⟨g0, g1⟩ := HCE.out V9 hB9.out; have K9 := Aside0.mk (blk_below K7.out hb79.out); have v0_ := (show V9.cell? ⟨V4.heap.size, 0, none⟩ = some (.slice A4 y.f0.length c4) from blk_cell K9.out 0); have v1_ := (show V9.cell? ⟨V4.heap.size, 1, none⟩ = some (.slice B4 y.f1.length b4) from blk_cell K9.out 1); clear hl8 hC8 hm8 hD8 hl7 hC7 hm7 hD7 hb9))
  have X9 := Aside0.mk (And.intro (Kd.R_below X7.out.1 hb79.out) (Kd.S_below X7.out.2 hb79.out))
  have b69 := Aside0.mk (below_step hb67.out hb79.out)
  have G9 := Aside0.mk (Kd.R_below G6.out b69.out)
  have Y9 := Aside0.mk (Kd.R_below Y6.out b69.out)
  have hME := markEntry_c W1 (fun k => some k = (Value.slice A4 y.f0.length c4).ownBlock ∧ okR V3.heap.size V4.heap.size k) (fun k => okR V3.heap.size V4.heap.size k ∧ some k ≠ (Value.slice A4 y.f0.length c4).ownBlock) (fun k h1 h2 => h2.2 h1.1) A4 c4 B4 b4 y.f0 y.f1 1 V9 hB9.out (Kd.R_tight2 rfl X9.out.1) (Kd.S_apart' X9.out.2 (Kd.R_typed X9.out.1) (by decide)) HNUM.out.1 HNUM.out.2.1 (by omega) (by have := HNUM.out; unfold nEnt; omega)
  have hp1 : ¬ (1 + (nEnt y.f0 y.f1 : Int) < 0) := by omega
  have hp2 : ¬ (1 + (q.length : Int) < 0) := by omega
  have HQL := Aside0.mk (show (mkL markT 1 1 q.length).length = q.length from mkL_length _ _ _ _)
  generalize nEnt y.f0 y.f1 = ne at hME hp1
  go_wp2_with (first | (go_at_call 12; refine hME.mono ?_; rintro e V10 ⟨rfl, hR10, hS10, hB10', hk10⟩; have hB10 := Aside0.mk hB10'; have G10 := Aside0.mk (Kd.R_kept G9.out hk10 (fun k hk hs => by have h1_ := HS5.out; rcases hs with hs | hs <;> (have h2_ := hs; simp only [okR] at h2_ hk; omega))); have Y10 := Aside0.mk (Kd.R_kept Y9.out hk10 (fun k hk hs => by rcases hs with hs | hs <;> (have h2_ := hs; simp only [okR] at h2_ hk; omega))); obtain ⟨g0, g1⟩ := HCE.out V10 hB10'; clear hR10 hS10 hB10' hk10) | (go_at_call 10; obtain ⟨hl10, hC10⟩ := R_C G10.out; obtain ⟨hm10, hD10⟩ := R_C Y10.out; (with_reducible refine (HES.out A6 c6 A3 c3 V10 hC10 hl10 hD10 hm10).mono ?_); rintro e V11 ⟨rfl, hb11⟩; have hB11 := Aside0.mk (below_step hB10.out hb11); have G11 := Aside0.mk (Kd.R_below G10.out hb11); have Y11 := Aside0.mk (Kd.R_below Y10.out hb11); obtain ⟨g0, g1⟩ := HCE.out V11 hB11.out; clear hl10 hC10 hm10 hD10 hb11))
  go_wp2_with (first | (go_at_call 13; have hMS := markStrs_c W1 (fun k => some k = (Value.slice A6 q.length c6).ownBlock ∧ okR V5.heap.size V6.heap.size k) (.slice A6 q.length c6) q 1 V11 hB11.out (Kd.R_tight2 rfl G11.out) (by have := HQ4.out; omega) (by decide) (by have := HQ4.out; omega); refine hMS.mono ?_; rintro e V12 ⟨rfl, hR12, hB12', hk12⟩; have hB12 := Aside0.mk hB12'; have M12 := Aside0.mk hR12; have Y12 := Aside0.mk (Kd.R_kept Y11.out hk12 (fun k hk hs => by have h1_ := HS5.out; have h2_ := hb34.out.size; have h3_ := hs.2; simp only [okR] at h3_ hk; omega)); obtain ⟨g0, g1⟩ := HCE.out V12 hB12'; clear hR12 hB12' hk12 hMS) | (go_at_call 14; have hl12 := (Kd.R_reads' M12.out).2.1; have hC12 := (Kd.R_reads' M12.out).2.2; rw [HQL.out] at hC12; (with_reducible refine (heldStrs_c q.length 1 (by have := HQ4.out; omega) (by decide) (by have := HQ4.out; omega) A6 c6 V12 hC12 hl12).mono ?_); rintro e V13 ⟨rfl, hb13⟩; have hB13 := Aside0.mk (below_step hB12.out hb13); have hb1213 := Aside0.mk hb13; obtain ⟨g0, g1⟩ := HCE.out V13 hB13.out; clear hl12 hC12 hb13) | (go_at_call 8; (with_reducible refine (HT.out V13 hB13.out).mono ?_); rintro e V14 ⟨A14, c14, B14, b14, rfl, hR14, hS14, hb14⟩; have hB14 := Aside0.mk (below_step hB13.out hb14); have hb1214 := Aside0.mk (below_step hb1213.out hb14); have X14 := Aside0.mk (And.intro hR14 hS14); clear hR14 hS14 hb14) | (go_at_call 9; obtain ⟨hl14, hC14⟩ := R_C X14.out.1; obtain ⟨hm14, hD14⟩ := S_C X14.out.2; refine (HIM.out _ _ _ _ V14 hC14 hl14 hD14 hm14).mono ?_; rintro e V15 ⟨A15, c15, rfl, hR15, hb15⟩; have hB15 := Aside0.mk (below_step hB14.out hb15); have hb1215 := Aside0.mk (below_step hb1214.out hb15); have G15 := Aside0.mk hR15; have Y15 := Aside0.mk (Kd.R_below Y12.out hb1215.out); clear hl14 hC14 hm14 hD14 hR15 hb15) | (go_at_call 10; obtain ⟨hl15, hC15⟩ := R_C G15.out; obtain ⟨hm15, hD15⟩ := R_C Y15.out; refine (HES.out A15 c15 A3 c3 V15 hC15 hl15 hD15 hm15).mono ?_; rintro e V16 ⟨rfl, hb16⟩; have hB16 := Aside0.mk (below_step hB15.out hb16); have M16 := Aside0.mk (Kd.R_below M12.out (below_step hb1215.out hb16)); clear hl15 hC15 hm15 hD15 hb16) | (go_at_call 14; have hl16 := (Kd.R_reads' M16.out).2.1; have hC16 := (Kd.R_reads' M16.out).2.2; rw [HQL.out] at hC16; refine (heldStrs_c q.length 1 (by have := HQ4.out; omega) (by decide) (by have := HQ4.out; omega) A6 c6 V16 hC16 hl16).mono ?_; rintro e V17 ⟨rfl, hb17⟩; have hB17 := Aside0.mk (below_step hB16.out hb17); clear hl16 hC16 hb17))
  go_ret
  exact ⟨rfl, below_step HB1.out hB17.out⟩
end Go.Proofs.YthapodlehfblgaaDoor.PA
