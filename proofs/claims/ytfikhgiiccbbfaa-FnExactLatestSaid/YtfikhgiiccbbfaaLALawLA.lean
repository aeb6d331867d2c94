/-
  The walk of the law FnExactLatest. No condition but what the arguments fit.
-/
import Derived.Test.YtfikhgiiccbbfaaLAP1
import Derived.Test.YtfikhgiiccbbfaaLAP2
import Derived.Test.YtfikhgiiccbbfaaLALatest
namespace Go.Proofs.Ytfikhgiiccbbfaa.PH
open Go.RowKit Go.Proofs.YtfikhgiiccbbfaaW.PrintWords Go.Proofs.YtfikhgiiccbbfaaW.PrintLast Go.Proofs.YtfikhgiiccbbfaaW.PrintMore Go.Proofs.Ytfikhgiiccbbfaa.Gn Go.Proofs.Ytfikhgiiccbbfaa
attribute [local go_sem] max2_int min2_int max_two min_two max_three min_three max_four min_four World.cell?_drew World.frozen?_drew
set_option linter.unusedVariables false
set_option linter.unusedSimpArgs false

/-- A row that the reference made: only read. -/
def RetRd {α : Type} (d : Kd α) (l : List α) (W : World) (e : Ending) (w' : World) : Prop := ∃ A c, e = .returned (.slice A l.length c) ∧ l.length ≤ c ∧ d.C w' A l.length l ∧ Below W.heap.size W w'
theorem rd_mid2 (dn : List S100) (a : S100) (r : List S100) : rd_T100 (dn ++ a :: r) (dn.length : Int) = a := by
  unfold rd_T100
  rw [Int.toNat_natCast]
  simp
theorem l08_one (a : S100) (h : okEnt a.f3.f0 a.f3.f1) : Ev (fun k => spec_l08List.f k [a]) [a] := by
  unfold spec_l08List.f
  refine Ev_bind (Ev.now _) ?_
  refine Ev.congr (fun k => if_pos (show (0 : Nat) + 1 < 1759218604441 by omega)) ?_
  have e1 : rd_T100 ([] ++ [a]) 0 = a := rfl
  refine Ev.step (fun k => by rw [spec_l08List.l0, if_pos (show (0 : Int) < (([] ++ [a] : List S100).length : Int) by simp), if_pos (show (0 : Int) ≤ 0 by decide), e1]) ?_
  refine Ev_bind (scopy_ev _ _ h) ?_
  refine Ev_one fun k => ?_
  rw [spec_l08List.l0, if_neg (by rw [w_id (by omega) (by omega)]; simp)]
  rfl
theorem slat_in (l : List S100) (hl : l.length ≤ 40) (dn r0 : List S100) (a : S100) (hla : dn ++ a :: r0 = l) (ha : okEnt a.f3.f0 a.f3.f1) (acc R : List S100) (hacc : acc.length ≤ 40) : ∀ (suf pre : List S100) (last : Bool), pre ++ suf = l →
    Ev (fun k => spec_Latest.l0 k l (if (last && !(suf.any (dnSame a))) = true then acc ++ [a] else acc) ((dn.length : Int) + 1)) R → Ev (fun k => spec_Latest.l1 k l acc (dn.length : Int) last (pre.length : Int)) R := by
  have hlen : l.length = dn.length + (r0.length + 1) := by rw [← hla]; simp
  have hra : rd_T100 l (dn.length : Int) = a := by rw [← hla]; exact rd_mid2 dn a r0
  have hw : wrap64 ((dn.length : Int) + 1) = (dn.length : Int) + 1 := w_id (by omega) (by omega)
  intro suf
  induction suf with
  | nil =>
    intro pre last hp hR
    rw [List.append_nil] at hp
    have hn : ¬ (pre.length : Int) < (l.length : Int) := by rw [hp]; omega
    cases last with
    | true =>
      simp only [List.any_nil, Bool.not_false, Bool.and_true, if_true] at hR
      have hsl : (l.take ((dn.length : Int) + 1).toNat).drop (dn.length : Int).toNat = [a] := by
        rw [← hla, show ((dn.length : Int) + 1).toNat = dn.length + 1 by omega, Int.toNat_natCast, List.drop_take, List.drop_left, Nat.add_sub_cancel_left]
        rfl
      refine Ev.step (fun k => by rw [spec_Latest.l1, if_neg hn, if_pos rfl, if_pos (show 0 ≤ (dn.length : Int) by omega), hw, if_pos (show (dn.length : Int) ≤ (dn.length : Int) + 1 by omega), if_pos (show (dn.length : Int) + 1 ≤ (l.length : Int) by omega), hsl]) ?_
      refine Ev_bind (l08_one a ha) ?_
      exact Ev.congr (fun k => if_pos (show acc.length + [a].length < 1759218604441 by simp; omega)) hR
    | false =>
      simp only [Bool.false_and, Bool.false_eq_true, if_false] at hR
      exact Ev.step (fun k => by rw [spec_Latest.l1, if_neg hn, if_neg Bool.false_ne_true, hw]) hR
  | cons y s ih =>
    intro pre last hp hR
    have hpl : l.length = pre.length + (s.length + 1) := by rw [← hp]; simp
    have hlt : (pre.length : Int) < (l.length : Int) := by omega
    have hry : rd_T100 l (pre.length : Int) = y := by rw [← hp]; exact rd_mid2 pre y s
    have hw2 : wrap64 ((pre.length : Int) + 1) = ((pre ++ [y]).length : Int) := by rw [w_id (by omega) (by omega)]; simp
    have hp2 : (pre ++ [y]) ++ s = l := by rw [← hp]; simp
    cases last with
    | true =>
      have h2 := ih (pre ++ [y]) (y.f2.toList != a.f2.toList) hp2 (by
        have e : ((y.f2.toList != a.f2.toList) && !(s.any (dnSame a))) = (true && !((y :: s).any (dnSame a))) := by
          rw [List.any_cons, Bool.true_and, Bool.not_or]
          rfl
        rw [e]
        exact hR)
      exact Ev.step (fun k => by rw [spec_Latest.l1, if_pos hlt, if_pos rfl, if_pos (show 0 ≤ (pre.length : Int) by omega), if_pos (show 0 ≤ (dn.length : Int) by omega), if_pos (show (dn.length : Int) < (l.length : Int) by omega), hry, hra, hw2]) h2
    | false =>
      have h2 := ih (pre ++ [y]) false hp2 (by
        simp only [Bool.false_and, Bool.false_eq_true, if_false] at hR ⊢
        exact hR)
      exact Ev.step (fun k => by rw [spec_Latest.l1, if_pos hlt, if_neg Bool.false_ne_true, hw2]) h2
theorem slat_out (l : List S100) (hl : l.length ≤ 40) (hok : ∀ e, e ∈ l → okEnt e.f3.f0 e.f3.f1) : ∀ (rs dn acc : List S100), dn ++ rs = l → acc.length ≤ dn.length → Ev (fun k => spec_Latest.l0 k l acc (dn.length : Int)) (acc ++ lastV rs)
  | [], dn, acc, hp, hacc => Ev_one fun k => by
    rw [List.append_nil] at hp
    rw [spec_Latest.l0, if_neg (by rw [hp]; omega), lastV_nil, List.append_nil]
  | a :: r, dn, acc, hp, hacc => by
    have hlen : l.length = dn.length + (r.length + 1) := by rw [← hp]; simp
    have hw : wrap64 ((dn.length : Int) + 1) = ((dn ++ [a]).length : Int) := by rw [w_id (by omega) (by omega)]; simp
    have hp2 : (dn ++ [a]) ++ r = l := by rw [← hp]; simp
    have h1 := fun acc' (h : acc'.length ≤ (dn ++ [a]).length) => slat_out l hl hok r (dn ++ [a]) acc' hp2 h
    have e1 : ((dn ++ [a]).length : Int) = (dn.length : Int) + 1 := by simp
    have h2 := slat_in l hl dn r a hp (hok a (by rw [← hp]; simp)) acc (acc ++ lastV (a :: r)) (by omega) r (dn ++ [a]) true hp2 (by
      rw [lastV_cons]
      cases hb : r.any (dnSame a) with
      | true =>
        have h3 := h1 acc (by simp; omega)
        rw [e1] at h3
        simp only [Bool.not_true, Bool.and_false, Bool.false_eq_true, if_false, if_true]
        exact h3
      | false =>
        have h3 := h1 (acc ++ [a]) (by simp; omega)
        rw [e1, List.append_assoc] at h3
        simp only [Bool.not_false, Bool.and_true, Bool.false_eq_true, if_false, if_true]
        exact h3)
    exact Ev.step (fun k => by rw [spec_Latest.l0, if_pos (show (dn.length : Int) < (l.length : Int) by omega), hw]) h2
theorem spec_latest (l : List S100) (hok : ∀ e, e ∈ l → okEnt e.f3.f0 e.f3.f1) : Ev (fun k => spec_Latest.f k l) (latestV l) := by
  unfold spec_Latest.f latestV
  refine Ev_bind (Ev.now _) ?_
  by_cases h : (l.length : Int) > 40
  · rw [if_neg (by omega)]
    exact Ev_some fun k => if_pos h
  · rw [if_pos (by omega)]
    exact Ev.congr (fun k => if_neg h) (slat_out l (by omega) hok l [] [] rfl (Nat.le_refl _))
theorem szEnts_c (x : List S98) (acc r : Int) (hr : Ev (fun k => laws_szChangeS.f k x acc) r) (A : Option Addr) (c : Nat) (W : World) (hC : Kd.C k98 W A x.length x) (hc : x.length ≤ c) :
    Calls Try.prog 30 #[.slice A x.length c, .int .i64 acc] W (RetI r W) := by
  obtain ⟨k, hk⟩ := ev_at hr
  exact laws_szChangeS.calls k A c x acc r W hC hc hk
theorem eqEnts_c (y : List S100) (h : lens_ChangeS y) (A B : Option Addr) (a b : Nat) (W : World) (h0 : Kd.C k100 W A y.length y) (l0 : y.length ≤ a) (h1 : Kd.C k100 W B y.length y) (l1 : y.length ≤ b) :
    Calls Try.prog 34 #[.slice A y.length a, .slice B y.length b] W (RetB true W) := by
  obtain ⟨k, hk⟩ := ev_at (eq_ChangeS y h)
  exact laws_eqChangeS.calls k A a y B b y true W h0 l0 h1 l1 hk
theorem heldEnts_c (l : List S100) (n : Nat) (hn : n = l.length) (x : Int) (hl : l.length ≤ 4000000000000000000) (h0 : 0 ≤ x) (hx : x + nCs l ≤ 4000000000000000000) (A : Option Addr) (c : Nat) (W : World) (hC : Kd.C k100 W A n (mkCs x l)) (hc : n ≤ c) :
    Calls Try.prog 36 #[.slice A n c, .int .i64 x] W (RetI (x + nCs l) W) := by
  obtain ⟨k, hk⟩ := ev_at (show Ev (fun k => laws_heldChangeS.f k (mkCs x l) x) (x + nCs l) from held_Chgs l [] x (by simpa using hl) h0 hx)
  have hlen := mkCs_len l x
  subst hn
  have h := laws_heldChangeS.calls k A c (mkCs x l) x _ W (by rw [hlen]; exact hC) (by rw [hlen]; exact hc) hk
  rw [hlen] at h
  exact h
theorem slatest_c (l : List S100) (hok : ∀ e, e ∈ l → okEnt e.f3.f0 e.f3.f1) (A : Option Addr) (c : Nat) (W : World) (hS : Kd.V k100 100 W W.heap.size (fun _ => True) (.slice A l.length c) l) :
    Calls Try.prog 31 #[.slice A l.length c] W (RetRd k100 (latestV l) W) := by
  obtain ⟨k, hk⟩ := ev_at (spec_latest l hok)
  refine (spec_Latest.calls k (fun _ => True) A c l _ W hS hk).mono ?_
  rintro e w' ⟨v, rfl, hR, hb⟩
  obtain ⟨A', c', rfl, h1, h2⟩ := Kd.N_reads hR
  exact ⟨A', c', rfl, h1, h2, hb⟩
theorem latestV_mem {l : List S100} {e : S100} (h : e ∈ latestV l) : e ∈ l := by
  unfold latestV at h
  split at h
  · exact lastV_mem l h
  · cases h
theorem latestV_len (l : List S100) : (latestV l).length ≤ 40 := by
  unfold latestV
  split
  · have := lastV_len l
    omega
  · exact Nat.zero_le _
theorem nAs_le (m : Nat) : ∀ l : List S112, (∀ a, a ∈ l → a.f1.length ≤ m) → nAs l ≤ l.length * (m + 1)
  | [], _ => Nat.zero_le _
  | a :: r, h => by
    have h1 := nAs_le m r (fun b hb => h b (List.mem_cons_of_mem _ hb))
    have h2 := h a List.mem_cons_self
    unfold nAs n_Attr
    rw [List.length_cons, Nat.succ_mul]
    omega
theorem nCs_le (m : Nat) : ∀ l : List S100, (∀ a, a ∈ l → n_Chg a ≤ m) → nCs l ≤ l.length * m
  | [], _ => Nat.zero_le _
  | a :: r, h => by
    have h1 := nCs_le m r (fun b hb => h b (List.mem_cons_of_mem _ hb))
    have h2 := h a List.mem_cons_self
    unfold nCs
    rw [List.length_cons, Nat.succ_mul]
    omega
/-- What a right size says of the converted changes. -/
theorem chgs_small (x : List S98) (h : small_ChangeS x) : (x.map conv_Change).length ≤ 1048576 ∧ ∀ e, e ∈ x.map conv_Change → okEnt e.f3.f0 e.f3.f1 ∧ n_Chg e ≤ 1200000000000 := by
  refine ⟨by rw [List.length_map]; exact h.1, fun e he => ?_⟩
  obtain ⟨y, hy, rfl⟩ := List.mem_map.1 he
  obtain ⟨h1, h2⟩ := (h.2 y hy).2.2.2
  have e1 : (conv_Change y).f3.f0.length = y.f3.f0.length := by simp [conv_Change, conv_Entry]
  have e2 : (conv_Change y).f3.f1.length = y.f3.f1.length := by simp [conv_Change, conv_Entry]
  have hv : ∀ a, a ∈ (conv_Change y).f3.f1 → a.f1.length ≤ 1048576 := fun a ha => by
    have ha2 : a ∈ y.f3.f1.map conv_Attr := ha
    obtain ⟨b, hb, rfl⟩ := List.mem_map.1 ha2
    have h4 := (h2.2 b hb).2.1
    simpa [conv_Attr] using h4
  have h3 := nAs_le 1048576 (conv_Change y).f3.f1 hv
  have h5 := h1.1
  have h6 := h2.1
  have h7 := Nat.mul_le_mul_right (1048576 + 1) (show (conv_Change y).f3.f1.length ≤ 1048576 by omega)
  refine ⟨⟨by omega, by omega, fun a ha => by have := hv a ha; omega⟩, ?_⟩
  unfold n_Chg n_Ent
  omega
/-- Blocks between two numbers. -/
abbrev okR (lo hi : Nat) : Nat → Prop := fun k => lo ≤ k ∧ k < hi
theorem S_range {α : Type} {d : Kd α} {e : Nat} {V V' : World} {B : Nat} {v : Value} {xs : List α} (h : Kd.S d e V' V.heap.size (fun _ => True) v xs) (hle : B ≤ V.heap.size) : Kd.S d e V' B (okR V.heap.size V'.heap.size) v xs := Kd.S_lower (Kd.S_mono (Kd.S_bound h) (fun k hk => ⟨hk.2.1, hk.2.2.1⟩)) hle
theorem S_C {α : Type} {d : Kd α} {e : Nat} {V : World} {base : Nat} {ok : Nat → Prop} {A : Option Addr} {n c : Nat} {xs : List α} (h : Kd.S d e V base ok (.slice A n c) xs) : n ≤ c ∧ d.C V A n xs := by
  obtain ⟨h0, h1, h2⟩ := Kd.S_reads' h
  exact ⟨h1, by rw [h0]; exact h2⟩
theorem E_C {e : Nat} {V : World} {base : Nat} {ok : Nat → Prop} {A : Option Addr} {n c : Nat} {xs : List S100} (h : Kd.S mChg e V base ok (.slice A n c) xs) : n ≤ c ∧ Kd.C k100 V A n xs := ⟨(S_C h).1, (S_C h).2⟩
theorem chg_V {e : Nat} {V : World} {base : Nat} {ok : Nat → Prop} {v : Value} {xs : List S100} (h : Kd.S mChg e V base ok v xs) : Kd.V k100 100 V V.heap.size (fun _ => True) v xs := by
  obtain ⟨A, c, h1, h2, h3⟩ := Kd.S_V (base' := V.heap.size) (Kd.S_mono (ok' := fun _ => True) h (fun _ _ => trivial))
  exact ⟨A, c, h1, h2, h3⟩
set_option maxHeartbeats 8000000 in
set_option maxRecDepth 100000 in
theorem walk_Latest (x0 : List S98) (w0 : Ft.fit55 x0) (A1 : Option Addr) (c1 : Nat) (W : World)
    (hC1 : Kd.C k98 W A1 x0.length x0) (hl1 : x0.length ≤ c1) :
    Calls Try.prog 5 #[.slice A1 x0.length c1] W (RetB true W) := by
  have HC1 := Aside0.mk (fun (V : World) (hb : Below W.heap.size W V) => Kd.C_below hC1 hb)
  obtain ⟨r0, hr0, hle0, hs0⟩ := sz_ChangeS x0 w0 1048576 (by omega) (by omega)
  have hS0 := szEnts_c x0 1048576 r0 hr0 A1 c1 W hC1 hl1
  clear hr0
  by_cases hneg0 : r0 < 0
  · have hd0 : decide (r0 < 0) = true := decide_eq_true hneg0
    clear hs0 hneg0 hle0 HC1 hC1 hl1 w0
    go_enter Try.func5, Try.ntmps5
    go_wp2_with (go_at_call 30; refine hS0.mono ?_; rintro e w3 ⟨rfl, hb3⟩)
    go_ret
    exact ⟨rfl, hb3⟩
  have hd0 : decide (r0 < 0) = false := decide_eq_false hneg0
  have hsm := hs0 (by omega)
  have hln := lens_conv_ChangeS x0 hsm
  obtain ⟨hy1, hy2⟩ := chgs_small x0 hsm
  have HT := Aside0.mk (fun (V : World) (hb : Below W.heap.size W V) => toChgs_c x0 w0 A1 c1 V (HC1.out V hb) hl1)
  generalize x0.map conv_Change = y at HT hln hy1 hy2
  have HEY := Aside0.mk (fun A B a b V h0 l0 h1 l1 => eqEnts_c y hln A B a b V h0 l0 h1 l1)
  have HSP := Aside0.mk (fun A c V h0 => slatest_c y (fun e he => (hy2 e he).1) A c V h0)
  have HIM := Aside0.mk (fun A c V h0 l0 => latestP_c y (fun e he => (hy2 e he).1) A c V h0 l0)
  have hny : nCs y ≤ 2000000000000000000 := by
    have h1 := nCs_le 1200000000000 y (fun a ha => (hy2 a ha).2)
    have h2 := Nat.mul_le_mul_right 1200000000000 hy1
    omega
  have hqm : ∀ e, e ∈ latestV y → e ∈ y := fun e he => latestV_mem he
  have hql := latestV_len y
  generalize latestV y = q at HSP HIM hqm hql
  have hnq : nCs q ≤ 2000000000000000000 := by
    have h1 := nCs_le 1200000000000 q (fun a ha => (hy2 a (hqm a ha)).2)
    have h2 := Nat.mul_le_mul_right 1200000000000 hql
    omega
  have HEQ := Aside0.mk (fun A B a b V h0 l0 h1 l1 => eqEnts_c q ⟨by omega, fun e he => hln.2 e (hqm e he)⟩ A B a b V h0 l0 h1 l1)
  have HMY := Aside0.mk (fun w0 ok A c V hB hS => markChgs_c w0 ok A y.length c y 1 V hB hS (by omega) (by omega) (by omega))
  have HMQ := Aside0.mk (fun w0 ok A c V hB hS => markChgs_c w0 ok A q.length c q 1 V hB hS (by omega) (by omega) (by omega))
  have HHQ := Aside0.mk (fun A c V hC hc => heldEnts_c q q.length rfl 1 (by omega) (by omega) (by omega) A c V hC hc)
  generalize nCs y = ny at HMY hny
  generalize nCs q = nq at HMQ HHQ hnq
  have hp1 : ¬ (1 + (ny : Int) < 0) := by omega
  have hp2 : ¬ (1 + (nq : Int) < 0) := by omega
  clear hs0 hneg0 hle0 HC1 hC1 hl1 w0 hsm hln hy1 hy2 hqm hql hny hnq
  go_enter Try.func5, Try.ntmps5
  go_wp2_with (first | (go_at_call 30; refine hS0.mono ?_; rintro e V1 ⟨rfl, hb1⟩; have HB1 := Aside0.mk hb1; clear hb1) | (go_at_call 32; (with_reducible refine (HT.out V1 HB1.out).mono ?_); rintro e V2 ⟨A2, c2, rfl, hS2, hb2⟩; have HB2 := Aside0.mk (below_step HB1.out hb2); have X2 := Aside0.mk (chg_V hS2); clear hS2 hb2) | (go_at_call 31; refine (HSP.out A2 c2 V2 X2.out).mono ?_; rintro e V3 ⟨A3, c3, rfl, hl3, hC3, hb3⟩; have HB3 := Aside0.mk (below_step HB2.out hb3); have X3 := Aside0.mk (And.intro hl3 hC3); clear hl3 hC3 hb3) | (go_at_call 32; (with_reducible refine (HT.out V3 HB3.out).mono ?_); rintro e V4 ⟨A4, c4, rfl, hS4, hb4⟩; have HB4 := Aside0.mk (below_step HB3.out hb4); have B4 := Aside0.mk hb4; have X4 := Aside0.mk (S_range hS4 (Nat.le_refl _)); clear hS4 hb4) | (go_at_call 33; (with_reducible refine (HIM.out A4 c4 V4 (E_C X4.out).2 (E_C X4.out).1).mono ?_); rintro e V5 ⟨A5, c5, rfl, hS5, hb5⟩; have B5 := Aside0.mk (below_step B4.out hb5); have X5 := Aside0.mk (S_range hS5 B4.out.size); have Y5 := Aside0.mk (Kd.S_below X4.out hb5); clear hS5 hb5) | (go_at_call 34; (with_reducible refine (HEQ.out A5 A3 c5 c3 V5 (E_C X5.out).2 (E_C X5.out).1 (Kd.C_below X3.out.2 B5.out) X3.out.1).mono ?_); rintro e V6 ⟨rfl, hb6⟩; have B6 := Aside0.mk (below_step B5.out hb6); have X6 := Aside0.mk (Kd.S_below X5.out hb6); have Y6 := Aside0.mk (Kd.S_below Y5.out hb6); clear hb6) | (go_at_call 32; (with_reducible refine (HT.out V6 (below_step HB3.out B6.out)).mono ?_); rintro e V7 ⟨A7, c7, rfl, hS7, hb7⟩; have B7 := Aside0.mk (below_step B6.out hb7); have X7 := Aside0.mk (Kd.S_below X6.out hb7); have Y7 := Aside0.mk (Kd.S_below Y6.out hb7); have Z7 := Aside0.mk (E_C hS7); clear hS7 hb7) | (go_at_call 34; (with_reducible refine (HEY.out A4 A7 c4 c7 V7 (E_C Y7.out).2 (E_C Y7.out).1 Z7.out.2 Z7.out.1).mono ?_); rintro e V8 ⟨rfl, hb8⟩; have B8 := Aside0.mk (below_step B7.out hb8); have X8 := Aside0.mk (Kd.S_below X7.out hb8); have Y8 := Aside0.mk (Kd.S_below Y7.out hb8); clear hb8) | (go_at_call 35; (with_reducible refine (HMY.out V3 _ A4 c4 V8 B8.out Y8.out).mono ?_); rintro e V9 ⟨rfl, hS9, hb9, hk9⟩; have B9 := Aside0.mk hb9; have X9 := Aside0.mk (Kd.S_kept X8.out hk9 (fun k h1 h2 => Nat.lt_irrefl _ (Nat.lt_of_lt_of_le h2.2 h1.1))); clear hS9 hb9 hk9) | (go_at_call 34; (with_reducible refine (HEQ.out A5 A3 c5 c3 V9 (E_C X9.out).2 (E_C X9.out).1 (Kd.C_below X3.out.2 B9.out) X3.out.1).mono ?_); rintro e V10 ⟨rfl, hb10⟩; have B10 := Aside0.mk (below_step B9.out hb10); have X10 := Aside0.mk (Kd.S_below X9.out hb10); clear hb10) | (go_at_call 35; (with_reducible refine (HMQ.out V3 _ A5 c5 V10 B10.out X10.out).mono ?_); rintro e V11 ⟨rfl, hS11, hb11, hk11⟩; have B11 := Aside0.mk hb11; have X11 := Aside0.mk hS11; clear hS11 hb11 hk11) | (go_at_call 36; (with_reducible refine (HHQ.out A5 c5 V11 (E_C X11.out).2 (E_C X11.out).1).mono ?_); rintro e V12 ⟨rfl, hb12⟩; have B12 := Aside0.mk (below_step B11.out hb12); have X12 := Aside0.mk (Kd.S_below X11.out hb12); clear hb12) | (go_at_call 32; (with_reducible refine (HT.out V12 (below_step HB3.out B12.out)).mono ?_); rintro e V13 ⟨A13, c13, rfl, hS13, hb13⟩; have B13 := Aside0.mk (below_step B12.out hb13); have X13 := Aside0.mk (Kd.S_below X12.out hb13); have Z13 := Aside0.mk (E_C hS13); clear hS13 hb13) | (go_at_call 33; (with_reducible refine (HIM.out A13 c13 V13 Z13.out.2 Z13.out.1).mono ?_); rintro e V14 ⟨A14, c14, rfl, hS14, hb14⟩; have B14 := Aside0.mk (below_step B13.out hb14); have X14 := Aside0.mk (Kd.S_below X13.out hb14); have Z14 := Aside0.mk (E_C hS14); clear hS14 hb14) | (go_at_call 34; (with_reducible refine (HEQ.out A14 A3 c14 c3 V14 Z14.out.2 Z14.out.1 (Kd.C_below X3.out.2 B14.out) X3.out.1).mono ?_); rintro e V15 ⟨rfl, hb15⟩; have B15 := Aside0.mk (below_step B14.out hb15); have X15 := Aside0.mk (Kd.S_below X14.out hb15); clear hb15) | (go_at_call 36; (with_reducible refine (HHQ.out A5 c5 V15 (E_C X15.out).2 (E_C X15.out).1).mono ?_); rintro e V16 ⟨rfl, hb16⟩; have B16 := Aside0.mk (below_step B15.out hb16); clear hb16))
  go_ret
  exact ⟨rfl, below_step HB3.out B16.out⟩
end Go.Proofs.Ytfikhgiiccbbfaa.PH
