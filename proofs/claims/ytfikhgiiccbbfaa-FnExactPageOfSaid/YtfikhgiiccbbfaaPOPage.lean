/-
  PageOf: the program's, walked, and the reference's: both come to pageV. Conditions: the lengths' bounds.
-/
import Derived.Test.YtfikhgiiccbbfaaPOP1
import Derived.Test.YtfikhgiiccbbfaaPOCopyEnts
namespace Go.Proofs.Ytfikhgiiccbbfaa.PH
set_option linter.unusedVariables false
set_option linter.unusedSimpArgs false
open Go.RowKit Go.Proofs.YtfikhgiiccbbfaaW.PrintWords Go.Proofs.YtfikhgiiccbbfaaW.PrintLast Go.Proofs.YtfikhgiiccbbfaaW.PrintMore Go.Proofs.Ytfikhgiiccbbfaa.Gn Go.Proofs.Ytfikhgiiccbbfaa
attribute [local go_sem] max2_int min2_int max_two min_two max_three min_three max_four min_four World.cell?_drew World.frozen?_drew

def pageV (l : List S89) (a b : Int) : List S89 := if l.length ≤ 20 ∧ 0 ≤ a ∧ a ≤ l.length ∧ 1 ≤ b ∧ b ≤ 20 then (l.drop a.toNat).take b.toNat else []
theorem mid_page (l : List S89) (a b : Int) (h0 : 0 ≤ a) (h1 : a ≤ l.length) (hb : 1 ≤ b) : (l.take (if a + b < (l.length : Int) then a + b else (l.length : Int)).toNat).drop a.toNat = (l.drop a.toNat).take b.toNat := by
  rw [List.drop_take]
  by_cases h : a + b < (l.length : Int)
  · rw [if_pos h, show (a + b).toNat - a.toNat = b.toNat by omega]
  · rw [if_neg h, List.take_of_length_le (by rw [List.length_drop]; omega), List.take_of_length_le (by rw [List.length_drop]; omega)]
theorem spage_l (l : List S89) (a b : Int) (hl : l.length ≤ 20) (ha : 0 ≤ a) (hb : b ≤ 20) (hok : ∀ e, e ∈ l → okEnt e.f0 e.f1) : ∀ (m : Nat) (i : Int) (acc : List S89), a ≤ i → i - a + m = b → acc.length + m ≤ 40 → Ev (fun k => spec_PageOf.l0 k l a b acc i) (acc ++ (l.drop i.toNat).take m) := by
  intro m
  induction m with
  | zero =>
    intro i acc h1 h2 h3
    refine Ev_one fun k => ?_
    rw [spec_PageOf.l0]
    by_cases h : i < (l.length : Int)
    · rw [if_pos h, show wrap64 (i - a) = i - a from w_id (by omega) (by omega), if_neg (by omega)]
      simp
    · rw [if_neg h]
      simp
  | succ m ih =>
    intro i acc h1 h2 h3
    by_cases h : i < (l.length : Int)
    · obtain ⟨n, rfl⟩ := Int.eq_ofNat_of_zero_le (show 0 ≤ i by omega)
      have hn : n < l.length := by omega
      have e := scopy_ev _ _ (hok _ (List.getElem_mem hn))
      have hrd : rd_T89 l (n : Int) = l[n]'hn := by
        unfold rd_T89
        rw [Int.toNat_natCast]
        exact getD_at hn
      have ih2 := ih ((n : Int) + 1) (acc ++ [l[n]'hn]) (by omega) (by omega) (by simp; omega)
      have e2 : (acc ++ [l[n]'hn]) ++ (l.drop ((n : Int) + 1).toNat).take m = acc ++ (l.drop ((n : Int)).toNat).take (m + 1) := by
        rw [show ((n : Int) + 1).toNat = n + 1 by omega, Int.toNat_natCast, List.drop_eq_getElem_cons hn, List.take_succ_cons, List.append_assoc]
        rfl
      rw [e2] at ih2
      refine Ev.step (fun k => by rw [spec_PageOf.l0, if_pos h, show wrap64 ((n : Int) - a) = (n : Int) - a from w_id (by omega) (by omega), if_pos (by omega), if_pos (by omega), hrd]) ?_
      refine Ev_bind e ?_
      refine Ev.congr (fun k => if_pos (by omega)) ?_
      rw [show wrap64 ((n : Int) + 1) = (n : Int) + 1 from w_id (by omega) (by omega)]
      exact ih2
    · refine Ev_one fun k => ?_
      rw [spec_PageOf.l0, if_neg h, List.drop_eq_nil_of_le (by omega)]
      simp
theorem spec_page (l : List S89) (a b : Int) (hok : ∀ e, e ∈ l → okEnt e.f0 e.f1) : Ev (fun k => spec_PageOf.f k l a b) (pageV l a b) := by
  unfold spec_PageOf.f pageV
  refine Ev_bind (Ev.now _) ?_
  have stop : Ev (fun k => spec_PageOf.j0 k l a b [] true) [] := Ev_one fun k => by rw [spec_PageOf.j0, if_pos rfl]
  by_cases h1 : (l.length : Int) > 20
  · rw [if_neg (by omega)]
    exact Ev.congr (fun k => if_pos h1) stop
  · by_cases h2 : a < 0
    · rw [if_neg (by omega)]
      exact Ev.congr (fun k => by rw [if_neg h1, if_pos h2]) stop
    · refine Ev.congr (fun k => by rw [if_neg h1, if_neg h2]) (Ev_bind (Ev_some fun k => sis_v b 1 20) ?_)
      by_cases h3 : 1 ≤ b ∧ b ≤ 20
      · have hd : (!(decide (1 ≤ b) && decide (b ≤ 20))) = false := by rw [decide_eq_true h3.1, decide_eq_true h3.2]; rfl
        rw [hd]
        refine Ev.step (fun k => by rw [spec_PageOf.j0, if_neg Bool.false_ne_true]) ?_
        by_cases h4 : a ≤ (l.length : Int)
        · have h := spage_l l a b (by omega) (by omega) h3.2 hok b.toNat a [] (by omega) (by omega) (by simp; omega)
          rw [if_pos ⟨by omega, by omega, h4, h3.1, h3.2⟩]
          exact h
        · rw [if_neg (by omega)]
          exact Ev_one fun k => by rw [spec_PageOf.l0, if_neg (by omega)]
      · have hd : (!(decide (1 ≤ b) && decide (b ≤ 20))) = true := by
          rw [Bool.not_eq_true', Bool.and_eq_false_iff]
          by_cases h4 : 1 ≤ b
          · exact Or.inr (decide_eq_false (fun h5 => h3 ⟨h4, h5⟩))
          · exact Or.inl (decide_eq_false h4)
        rw [hd, if_neg (fun h => h3 ⟨h.2.2.2.1, h.2.2.2.2⟩)]
        exact stop
theorem btw_c (a b c : Int) (q : Bool) (h : (decide (b ≤ a) && decide (a ≤ c)) = q) (W : World) : Calls Try.prog 63 #[.int .i64 a, .int .i64 b, .int .i64 c] W (RetB q W) :=
  (impl_between.calls a b c q W (by rw [between_v, h])).mono fun e w' h => ⟨h.1, by obtain ⟨_, n, rfl⟩ := h; exact pw_below_drewN (Below.refl _ _) n⟩
set_option maxHeartbeats 4000000 in
set_option maxRecDepth 100000 in
theorem page_c (l : List S89) (a b : Int) (hok : ∀ e, e ∈ l → okEnt e.f0 e.f1) (A : Option Addr) (c : Nat) (W : World) (hC : Kd.C k89 W A l.length l) (hc : l.length ≤ c) :
    Calls Try.prog 26 #[.slice A l.length c, .int .i64 a, .int .i64 b] W (RetEs (pageV l a b) W) := by
  have hnil : RetEs [] W (.returned (.slice none 0 0)) W := ⟨none, 0, rfl, Kd.S_nil _ _ _ _ _, Below.refl _ _⟩
  by_cases c1 : (l.length : Int) > 20
  · have d0 : decide (20 < (l.length : Int)) = true := decide_eq_true c1
    have d1 : decide (20 < l.length) = true := decide_eq_true (by omega)
    have hp : pageV l a b = [] := by unfold pageV; rw [if_neg (by omega)]
    rw [hp]
    have HN := Aside0.mk hnil
    clear c1 hC hc hok hp hnil
    go_enter Try.func26, Try.ntmps26
    go_wp2
    go_ret
    exact HN.out
  have d0 : decide (20 < (l.length : Int)) = false := decide_eq_false c1
  have d1 : decide (20 < l.length) = false := decide_eq_false (by omega)
  by_cases c2 : a < 0
  · have d2 : decide (a < 0) = true := decide_eq_true c2
    have hp : pageV l a b = [] := by unfold pageV; rw [if_neg (by omega)]
    rw [hp]
    have HN := Aside0.mk hnil
    clear c1 c2 hC hc hok hp hnil
    go_enter Try.func26, Try.ntmps26
    go_wp2
    go_ret
    exact HN.out
  have d2 : decide (a < 0) = false := decide_eq_false c2
  by_cases c3 : a > (l.length : Int)
  · have d3 : decide ((l.length : Int) < a) = true := decide_eq_true c3
    have hp : pageV l a b = [] := by unfold pageV; rw [if_neg (by omega)]
    rw [hp]
    have HN := Aside0.mk hnil
    clear c1 c2 c3 hC hc hok hp hnil
    go_enter Try.func26, Try.ntmps26
    go_wp2
    go_ret
    exact HN.out
  have d3 : decide ((l.length : Int) < a) = false := decide_eq_false c3
  by_cases c4 : 1 ≤ b ∧ b ≤ 20
  · have hbt := btw_c b 1 20 true (by rw [decide_eq_true c4.1, decide_eq_true c4.2]; rfl) W
    have hp : pageV l a b = (l.drop a.toNat).take b.toNat := by unfold pageV; rw [if_pos ⟨by omega, by omega, by omega, c4.1, c4.2⟩]
    rw [hp, ← mid_page l a b (by omega) (by omega) c4.1]
    obtain ⟨hi, hhi⟩ : ∃ hi, (if a + b < (l.length : Int) then a + b else (l.length : Int)) = hi := ⟨_, rfl⟩
    rw [hhi]
    have hhi1 : a ≤ hi ∧ hi ≤ (l.length : Int) := by rw [← hhi]; split <;> omega
    have hw : wrap64 (a + b) = a + b := w_id (by omega) (by omega)
    obtain ⟨q, hq⟩ : ∃ q, (l.take hi.toNat).drop a.toNat = q := ⟨_, rfl⟩
    have hql : q.length = hi.toNat - a.toNat := by rw [← hq, List.length_drop, List.length_take]; omega
    have hqok : ∀ e, e ∈ q → okEnt e.f0 e.f1 := fun e he => hok e (by rw [← hq] at he; exact List.mem_of_mem_take (List.mem_of_mem_drop he))
    obtain ⟨i0, hi0, _, hsz, _⟩ := info_parts info89
    have hcut := cut_mid (P := Try.prog) 49 89 .i64 .i64 Try.underlying49 hi0 2 hsz A l.length c a hi (by omega) hhi1.1 hhi1.2 hc
    have hmid := Kd.C_mid (lo := a.toNat) (hi := hi.toNat) (c := c) hC (by omega) (by omega) hc
    rw [hq] at hmid ⊢
    replace hmid : Kd.C k89 W (if c = a.toNat then A else A.map (·.add (a.toNat * 2))) q.length q := hmid
    rw [← hql] at hcut
    generalize (if c = a.toNat then A else A.map (·.add (a.toNat * 2))) = A1 at hmid hcut
    generalize hc1 : c - a.toNat = cc at hcut
    have HCP := Aside0.mk (fun V (hb : Below W.heap.size W V) => copyEnts_c q (by omega) hqok A1 cc V (Kd.C_below hmid hb) (by omega))
    have x1 : (0 ≤ a) = True := eq_true (by omega)
    have x2 : (a ≤ hi) = True := eq_true hhi1.1
    have x3 : (hi ≤ (l.length : Int)) = True := eq_true hhi1.2
    clear c1 c2 c3 c4 hC hc hok hp hnil hhi1 hq hql hqok hi0 hsz hmid hc1
    go_enter Try.func26, Try.ntmps26
    go_wp2_with (first | (go_at_call 63; refine hbt.mono ?_; rintro e w2 ⟨rfl, hb2⟩) | (go_at_call 64; refine (HCP.out w2 hb2).mono ?_; rintro e w3 ⟨A3, c3, rfl, hS3, hb3⟩; have HS3 := Aside0.mk hS3; clear hS3))
    go_ret
    exact ⟨A3, c3, rfl, Kd.S_lower HS3.out hb2.size, below_step hb2 hb3⟩
  · have hd : (decide (1 ≤ b) && decide (b ≤ 20)) = false := by
      rw [Bool.and_eq_false_iff]
      by_cases h4 : 1 ≤ b
      · exact Or.inr (decide_eq_false (fun h5 => c4 ⟨h4, h5⟩))
      · exact Or.inl (decide_eq_false h4)
    have hbt := btw_c b 1 20 false hd W
    have hp : pageV l a b = [] := by unfold pageV; rw [if_neg (fun h => c4 ⟨h.2.2.2.1, h.2.2.2.2⟩)]
    rw [hp]
    clear c1 c2 c3 c4 hC hc hok hp hd hnil
    go_enter Try.func26, Try.ntmps26
    go_wp2_with (first | (go_at_call 63; refine hbt.mono ?_; rintro e w2 ⟨rfl, hb2⟩))
    go_ret
    exact ⟨none, 0, rfl, Kd.S_nil _ _ _ _ _, hb2⟩
end Go.Proofs.Ytfikhgiiccbbfaa.PH
