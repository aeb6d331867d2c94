/-
  The walk of the law FnExactPageOf. No condition but what the arguments fit.
-/
import Derived.Test.YtfikhgiiccbbfaaPOP1
import Derived.Test.YtfikhgiiccbbfaaPOPage
import Derived.Test.YtfikhgiiccbbfaaPOToEnts
namespace Go.Proofs.Ytfikhgiiccbbfaa.PH
open Go.RowKit Go.Proofs.YtfikhgiiccbbfaaW.PrintWords Go.Proofs.YtfikhgiiccbbfaaW.PrintLast Go.Proofs.YtfikhgiiccbbfaaW.PrintMore Go.Proofs.Ytfikhgiiccbbfaa.Gn Go.Proofs.Ytfikhgiiccbbfaa
attribute [local go_sem] max2_int min2_int max_two min_two max_three min_three max_four min_four World.cell?_drew World.frozen?_drew
set_option linter.unusedVariables false
set_option linter.unusedSimpArgs false

/-- A row that the reference made: only read. -/
def RetRd {α : Type} (d : Kd α) (l : List α) (W : World) (e : Ending) (w' : World) : Prop := ∃ A c, e = .returned (.slice A l.length c) ∧ l.length ≤ c ∧ d.C w' A l.length l ∧ Below W.heap.size W w'
theorem szEnts_c (x : List S84) (acc r : Int) (hr : Ev (fun k => laws_szEntryS.f k x acc) r) (A : Option Addr) (c : Nat) (W : World) (hC : Kd.C k84 W A x.length x) (hc : x.length ≤ c) :
    Calls Try.prog 23 #[.slice A x.length c, .int .i64 acc] W (RetI r W) := by
  obtain ⟨k, hk⟩ := ev_at hr
  exact laws_szEntryS.calls k A c x acc r W hC hc hk
theorem eqEnts_c (y : List S89) (h : lens_EntryS y) (A B : Option Addr) (a b : Nat) (W : World) (h0 : Kd.C k89 W A y.length y) (l0 : y.length ≤ a) (h1 : Kd.C k89 W B y.length y) (l1 : y.length ≤ b) :
    Calls Try.prog 27 #[.slice A y.length a, .slice B y.length b] W (RetB true W) := by
  obtain ⟨k, hk⟩ := ev_at (eq_EntryS y h)
  exact laws_eqEntryS.calls k A a y B b y true W h0 l0 h1 l1 hk
theorem heldEnts_c (l : List S89) (n : Nat) (hn : n = l.length) (x : Int) (hl : l.length ≤ 4000000000000000000) (h0 : 0 ≤ x) (hx : x + nEs l ≤ 4000000000000000000) (A : Option Addr) (c : Nat) (W : World) (hC : Kd.C k89 W A n (mkEs x l)) (hc : n ≤ c) :
    Calls Try.prog 29 #[.slice A n c, .int .i64 x] W (RetI (x + nEs l) W) := by
  obtain ⟨k, hk⟩ := ev_at (show Ev (fun k => laws_heldEntryS.f k (mkEs x l) x) (x + nEs l) from held_Ents l [] x (by simpa using hl) h0 hx)
  have hlen := mkEs_len l x
  subst hn
  have h := laws_heldEntryS.calls k A c (mkEs x l) x _ W (by rw [hlen]; exact hC) (by rw [hlen]; exact hc) hk
  rw [hlen] at h
  exact h
theorem spage_c (l : List S89) (a b : Int) (hok : ∀ e, e ∈ l → okEnt e.f0 e.f1) (A : Option Addr) (c : Nat) (W : World) (hC : Kd.C k89 W A l.length l) (hc : l.length ≤ c) :
    Calls Try.prog 24 #[.slice A l.length c, .int .i64 a, .int .i64 b] W (RetRd k89 (pageV l a b) W) := by
  obtain ⟨k, hk⟩ := ev_at (spec_page l a b hok)
  refine (spec_PageOf.calls k A c l a b _ W hC hc hk).mono ?_
  rintro e w' ⟨v, rfl, hR, hb⟩
  obtain ⟨A', c', rfl, h1, h2⟩ := Kd.R_reads hR
  exact ⟨A', c', rfl, h1, h2, hb⟩
theorem pageV_mem {l : List S89} {a b : Int} {e : S89} (h : e ∈ pageV l a b) : e ∈ l := by
  unfold pageV at h
  split at h
  · exact List.mem_of_mem_drop (List.mem_of_mem_take h)
  · cases h
theorem pageV_len (l : List S89) (a b : Int) : (pageV l a b).length ≤ 20 := by
  unfold pageV
  split
  · rw [List.length_take, List.length_drop]
    omega
  · exact Nat.zero_le _
theorem nAs_le (m : Nat) : ∀ l : List S112, (∀ a, a ∈ l → a.f1.length ≤ m) → nAs l ≤ l.length * (m + 1)
  | [], _ => Nat.zero_le _
  | a :: r, h => by
    have h1 := nAs_le m r (fun b hb => h b (List.mem_cons_of_mem _ hb))
    have h2 := h a List.mem_cons_self
    unfold nAs n_Attr
    rw [List.length_cons, Nat.succ_mul]
    omega
theorem nEs_le (m : Nat) : ∀ l : List S89, (∀ a, a ∈ l → n_Ent a ≤ m) → nEs l ≤ l.length * m
  | [], _ => Nat.zero_le _
  | a :: r, h => by
    have h1 := nEs_le m r (fun b hb => h b (List.mem_cons_of_mem _ hb))
    have h2 := h a List.mem_cons_self
    unfold nEs
    rw [List.length_cons, Nat.succ_mul]
    omega
/-- What a right size says of the converted entries. -/
theorem ents_small (x : List S84) (h : small_EntryS x) : (x.map conv_Entry).length ≤ 1048576 ∧ ∀ e, e ∈ x.map conv_Entry → okEnt e.f0 e.f1 ∧ e.f0.length ≤ 1048576 ∧ e.f1.length ≤ 1048576 ∧ n_Ent e ≤ 1100000000000 := by
  refine ⟨by rw [List.length_map]; exact h.1, fun e he => ?_⟩
  obtain ⟨y, hy, rfl⟩ := List.mem_map.1 he
  obtain ⟨h1, h2⟩ := h.2 y hy
  have e1 : (conv_Entry y).f0.length = y.f0.length := by simp [conv_Entry]
  have e2 : (conv_Entry y).f1.length = y.f1.length := by simp [conv_Entry]
  have hv : ∀ a, a ∈ (conv_Entry y).f1 → a.f1.length ≤ 1048576 := fun a ha => by
    have ha2 : a ∈ y.f1.map conv_Attr := ha
    obtain ⟨b, hb, rfl⟩ := List.mem_map.1 ha2
    have h4 := (h2.2 b hb).2.1
    simpa [conv_Attr] using h4
  have h3 := nAs_le 1048576 (conv_Entry y).f1 hv
  have h5 := h1.1
  have h6 := h2.1
  have h7 := Nat.mul_le_mul_right (1048576 + 1) (show (conv_Entry y).f1.length ≤ 1048576 by omega)
  refine ⟨⟨by omega, by omega, fun a ha => by have := hv a ha; omega⟩, by omega, by omega, ?_⟩
  unfold n_Ent
  omega
/-- Blocks between two numbers. -/
abbrev okR (lo hi : Nat) : Nat → Prop := fun k => lo ≤ k ∧ k < hi
theorem S_range {α : Type} {d : Kd α} {e : Nat} {V V' : World} {B : Nat} {v : Value} {xs : List α} (h : Kd.S d e V' V.heap.size (fun _ => True) v xs) (hle : B ≤ V.heap.size) : Kd.S d e V' B (okR V.heap.size V'.heap.size) v xs := Kd.S_lower (Kd.S_mono (Kd.S_bound h) (fun k hk => ⟨hk.2.1, hk.2.2.1⟩)) hle
theorem S_C {α : Type} {d : Kd α} {e : Nat} {V : World} {base : Nat} {ok : Nat → Prop} {A : Option Addr} {n c : Nat} {xs : List α} (h : Kd.S d e V base ok (.slice A n c) xs) : n ≤ c ∧ d.C V A n xs := by
  obtain ⟨h0, h1, h2⟩ := Kd.S_reads' h
  exact ⟨h1, by rw [h0]; exact h2⟩
theorem E_C {e : Nat} {V : World} {base : Nat} {ok : Nat → Prop} {A : Option Addr} {n c : Nat} {xs : List S89} (h : Kd.S mEnt e V base ok (.slice A n c) xs) : n ≤ c ∧ Kd.C k89 V A n xs := ⟨(S_C h).1, (S_C h).2⟩
set_option maxHeartbeats 8000000 in
set_option maxRecDepth 100000 in
theorem walk_PageOf (x0 : List S84) (a1 a2 : Int) (w0 : Ft.fit47 x0) (w1 : (Lit.int .i64 a1).wf = true) (w2 : (Lit.int .i64 a2).wf = true) (A1 : Option Addr) (c1 : Nat) (W : World)
    (hC1 : Kd.C k84 W A1 x0.length x0) (hl1 : x0.length ≤ c1) :
    Calls Try.prog 4 #[.slice A1 x0.length c1, .int .i64 a1, .int .i64 a2] W (RetB true W) := by
  clear w1 w2
  have HC1 := Aside0.mk (fun (V : World) (hb : Below W.heap.size W V) => Kd.C_below hC1 hb)
  obtain ⟨r0, hr0, hle0, hs0⟩ := sz_EntryS x0 w0 1048576 (by omega) (by omega)
  have hS0 := szEnts_c x0 1048576 r0 hr0 A1 c1 W hC1 hl1
  clear hr0
  by_cases hneg0 : r0 < 0
  · have hd0 : decide (r0 < 0) = true := decide_eq_true hneg0
    clear hs0 hneg0 hle0 HC1 hC1 hl1 w0
    go_enter Try.func4, Try.ntmps4
    go_wp2_with (go_at_call 23; refine hS0.mono ?_; rintro e w3 ⟨rfl, hb3⟩)
    go_ret
    exact ⟨rfl, hb3⟩
  have hd0 : decide (r0 < 0) = false := decide_eq_false hneg0
  have hsm := hs0 (by omega)
  have hln := lens_conv_EntryS x0 hsm
  obtain ⟨hy1, hy2⟩ := ents_small x0 hsm
  have HT := Aside0.mk (fun (V : World) (hb : Below W.heap.size W V) => toEnts_c x0 w0 A1 c1 V (HC1.out V hb) hl1)
  generalize x0.map conv_Entry = y at HT hln hy1 hy2
  have HEY := Aside0.mk (fun A B a b V h0 l0 h1 l1 => eqEnts_c y hln A B a b V h0 l0 h1 l1)
  have HSP := Aside0.mk (fun A c V h0 l0 => spage_c y a1 a2 (fun e he => (hy2 e he).1) A c V h0 l0)
  have HIM := Aside0.mk (fun A c V h0 l0 => page_c y a1 a2 (fun e he => (hy2 e he).1) A c V h0 l0)
  have hny : nEs y ≤ 2000000000000000000 := by
    have h1 := nEs_le 1100000000000 y (fun a ha => (hy2 a ha).2.2.2)
    have h2 := Nat.mul_le_mul_right 1100000000000 hy1
    omega
  have hqm : ∀ e, e ∈ pageV y a1 a2 → e ∈ y := fun e he => pageV_mem he
  have hql := pageV_len y a1 a2
  generalize pageV y a1 a2 = q at HSP HIM hqm hql
  have hnq : nEs q ≤ 2000000000000000000 := by
    have h1 := nEs_le 1100000000000 q (fun a ha => (hy2 a (hqm a ha)).2.2.2)
    have h2 := Nat.mul_le_mul_right 1100000000000 hql
    omega
  have HEQ := Aside0.mk (fun A B a b V h0 l0 h1 l1 => eqEnts_c q ⟨by omega, fun e he => hln.2 e (hqm e he)⟩ A B a b V h0 l0 h1 l1)
  have HMY := Aside0.mk (fun w0 ok A c V hB hS => markEnts_c w0 ok A y.length c y 1 V hB hS (by omega) (by omega) (by omega))
  have HMQ := Aside0.mk (fun w0 ok A c V hB hS => markEnts_c w0 ok A q.length c q 1 V hB hS (by omega) (by omega) (by omega))
  have HHQ := Aside0.mk (fun A c V hC hc => heldEnts_c q q.length rfl 1 (by omega) (by omega) (by omega) A c V hC hc)
  generalize nEs y = ny at HMY hny
  generalize nEs q = nq at HMQ HHQ hnq
  have hp1 : ¬ (1 + (ny : Int) < 0) := by omega
  have hp2 : ¬ (1 + (nq : Int) < 0) := by omega
  clear hs0 hneg0 hle0 HC1 hC1 hl1 w0 hsm hln hy1 hy2 hqm hql hny hnq
  go_enter Try.func4, Try.ntmps4
  go_wp2_with (first | (go_at_call 23; refine hS0.mono ?_; rintro e V1 ⟨rfl, hb1⟩; have HB1 := Aside0.mk hb1; clear hb1) | (go_at_call 25; (with_reducible refine (HT.out V1 HB1.out).mono ?_); rintro e V2 ⟨A2, c2, rfl, hS2, hb2⟩; have HB2 := Aside0.mk (below_step HB1.out hb2); have X2 := Aside0.mk (E_C hS2); clear hS2 hb2) | (go_at_call 24; refine (HSP.out A2 c2 V2 X2.out.2 X2.out.1).mono ?_; rintro e V3 ⟨A3, c3, rfl, hl3, hC3, hb3⟩; have HB3 := Aside0.mk (below_step HB2.out hb3); have X3 := Aside0.mk (And.intro hl3 hC3); clear hl3 hC3 hb3) | (go_at_call 25; (with_reducible refine (HT.out V3 HB3.out).mono ?_); rintro e V4 ⟨A4, c4, rfl, hS4, hb4⟩; have HB4 := Aside0.mk (below_step HB3.out hb4); have B4 := Aside0.mk hb4; have X4 := Aside0.mk (S_range hS4 (Nat.le_refl _)); clear hS4 hb4) | (go_at_call 26; (with_reducible refine (HIM.out A4 c4 V4 (E_C X4.out).2 (E_C X4.out).1).mono ?_); rintro e V5 ⟨A5, c5, rfl, hS5, hb5⟩; have B5 := Aside0.mk (below_step B4.out hb5); have X5 := Aside0.mk (S_range hS5 B4.out.size); have Y5 := Aside0.mk (Kd.S_below X4.out hb5); clear hS5 hb5) | (go_at_call 27; (with_reducible refine (HEQ.out A5 A3 c5 c3 V5 (E_C X5.out).2 (E_C X5.out).1 (Kd.C_below X3.out.2 B5.out) X3.out.1).mono ?_); rintro e V6 ⟨rfl, hb6⟩; have B6 := Aside0.mk (below_step B5.out hb6); have X6 := Aside0.mk (Kd.S_below X5.out hb6); have Y6 := Aside0.mk (Kd.S_below Y5.out hb6); clear hb6) | (go_at_call 25; (with_reducible refine (HT.out V6 (below_step HB3.out B6.out)).mono ?_); rintro e V7 ⟨A7, c7, rfl, hS7, hb7⟩; have B7 := Aside0.mk (below_step B6.out hb7); have X7 := Aside0.mk (Kd.S_below X6.out hb7); have Y7 := Aside0.mk (Kd.S_below Y6.out hb7); have Z7 := Aside0.mk (E_C hS7); clear hS7 hb7) | (go_at_call 27; (with_reducible refine (HEY.out A4 A7 c4 c7 V7 (E_C Y7.out).2 (E_C Y7.out).1 Z7.out.2 Z7.out.1).mono ?_); rintro e V8 ⟨rfl, hb8⟩; have B8 := Aside0.mk (below_step B7.out hb8); have X8 := Aside0.mk (Kd.S_below X7.out hb8); have Y8 := Aside0.mk (Kd.S_below Y7.out hb8); clear hb8) | (go_at_call 28; (with_reducible refine (HMY.out V3 _ A4 c4 V8 B8.out Y8.out).mono ?_); rintro e V9 ⟨rfl, hS9, hb9, hk9⟩; have B9 := Aside0.mk hb9; have X9 := Aside0.mk (Kd.S_kept X8.out hk9 (fun k h1 h2 => Nat.lt_irrefl _ (Nat.lt_of_lt_of_le h2.2 h1.1))); clear hS9 hb9 hk9) | (go_at_call 27; (with_reducible refine (HEQ.out A5 A3 c5 c3 V9 (E_C X9.out).2 (E_C X9.out).1 (Kd.C_below X3.out.2 B9.out) X3.out.1).mono ?_); rintro e V10 ⟨rfl, hb10⟩; have B10 := Aside0.mk (below_step B9.out hb10); have X10 := Aside0.mk (Kd.S_below X9.out hb10); clear hb10) | (go_at_call 28; (with_reducible refine (HMQ.out V3 _ A5 c5 V10 B10.out X10.out).mono ?_); rintro e V11 ⟨rfl, hS11, hb11, hk11⟩; have B11 := Aside0.mk hb11; have X11 := Aside0.mk hS11; clear hS11 hb11 hk11) | (go_at_call 29; (with_reducible refine (HHQ.out A5 c5 V11 (E_C X11.out).2 (E_C X11.out).1).mono ?_); rintro e V12 ⟨rfl, hb12⟩; have B12 := Aside0.mk (below_step B11.out hb12); have X12 := Aside0.mk (Kd.S_below X11.out hb12); clear hb12) | (go_at_call 25; (with_reducible refine (HT.out V12 (below_step HB3.out B12.out)).mono ?_); rintro e V13 ⟨A13, c13, rfl, hS13, hb13⟩; have B13 := Aside0.mk (below_step B12.out hb13); have X13 := Aside0.mk (Kd.S_below X12.out hb13); have Z13 := Aside0.mk (E_C hS13); clear hS13 hb13) | (go_at_call 26; (with_reducible refine (HIM.out A13 c13 V13 Z13.out.2 Z13.out.1).mono ?_); rintro e V14 ⟨A14, c14, rfl, hS14, hb14⟩; have B14 := Aside0.mk (below_step B13.out hb14); have X14 := Aside0.mk (Kd.S_below X13.out hb14); have Z14 := Aside0.mk (E_C hS14); clear hS14 hb14) | (go_at_call 27; (with_reducible refine (HEQ.out A14 A3 c14 c3 V14 Z14.out.2 Z14.out.1 (Kd.C_below X3.out.2 B14.out) X3.out.1).mono ?_); rintro e V15 ⟨rfl, hb15⟩; have B15 := Aside0.mk (below_step B14.out hb15); have X15 := Aside0.mk (Kd.S_below X14.out hb15); clear hb15) | (go_at_call 29; (with_reducible refine (HHQ.out A5 c5 V15 (E_C X15.out).2 (E_C X15.out).1).mono ?_); rintro e V16 ⟨rfl, hb16⟩; have B16 := Aside0.mk (below_step B15.out hb16); clear hb16))
  go_ret
  exact ⟨rfl, below_step HB3.out B16.out⟩
end Go.Proofs.Ytfikhgiiccbbfaa.PH
