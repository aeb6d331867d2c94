/-
  The program's exprEval, walked: every tree of a valid expression comes to what Tx says.
-/
import Derived.Deep.RegionHeld3
import Derived.Deep.QuietTactic
import Derived.BigQuiet
import Derived.OwnWalk
import Derived.Test.YtpocoeghobdfiaaGreatDoorEEP2
import Derived.Test.YtpocoeghobdfiaaGreatDoorEETree
namespace Go.Proofs.YtpocoeghobdfiaaGreatDoor.PG
open Go.RowKit Go.Proofs.YtpocoeghobdfiaaGreatDoorW.PrintWords Go.Proofs.YtpocoeghobdfiaaGreatDoorW.PrintLast Go.Proofs.YtpocoeghobdfiaaGreatDoorW.PrintMore Go.Proofs.YtpocoeghobdfiaaGreatDoor.Gn Go.Proofs.YtpocoeghobdfiaaGreatDoor.Sem
attribute [local go_sem] max2_int min2_int max_two min_two max_three min_three max_four min_four World.cell?_drew World.frozen?_drew
set_option linter.unusedVariables false
set_option linter.unusedSimpArgs false

/-- A text, what is behind the expression (read in W0), and whether all was short. -/
def RetX (W0 W : World) (t : ByteArray) (r : List S70) (f : Bool) (e : Ending) (w' : World) : Prop := ∃ A c, e = .returned (.tuple #[.string t, .slice A r.length c, .bool f]) ∧ r.length ≤ c ∧ Kd.C k70 W0 A r.length r ∧ Below W.heap.size W w'
def OpsAt (op n : Int) : Prop := ∀ W : World, Calls Tryz.prog 107 #[.int .i64 op] W fun e w' => e = .returned (.int .i64 n) ∧ Below W.heap.size W w'
theorem ops_at (op : Int) : OpsAt op (arOp op) := fun W => by
  obtain ⟨k, hk⟩ := impl_ops op
  exact (impl_operands.calls k _ _ W (hk k (Nat.le_refl _))).mono fun e w' h => ⟨h.1, by obtain ⟨n, h2⟩ := h.2; rw [h2]; first | exact pw_below_drewN (Below.refl _ _) n | skip⟩
theorem part_at {W : World} {A : Option Addr} {n : S70} {r : List S70} (hr : Kd.C k70 W A (n :: r).length (n :: r)) : ∃ ad, A = some ad ∧ W.cell? ad = some (.int .i64 n.f0) ∧ W.cell? ⟨ad.block, ad.off + 1, none⟩ = some (.string n.f1) ∧ W.cell? ⟨ad.block, ad.off + 2, none⟩ = some (.int .i64 n.f2) := by
  have := at_T70 hr 0 (by omega) (by simp)
  simp only [show rd_T70 (n :: r) 0 = n from rfl, show (0 : Int).toNat * 3 = 0 from rfl, show ∀ ad : Addr, ad.add 0 = ad from fun ad => rfl] at this
  exact this
/-- What is known of the operands: each one's contract, in order. -/
def Chain (W0 : World) (g : Nat) : List ByteArray → List S70 → List S70 → Bool → Prop
  | [], r, s, f => s = r ∧ f = true
  | a :: xs, r, s, f => ∃ r1 f1 f2, (∀ (A : Option Addr) (c : Nat) (W : World), Kd.C k70 W0 A r.length r → r.length ≤ c → Below W0.heap.size W0 W → Calls Tryz.prog 74 #[.slice A r.length c, .pointer (some ⟨g, 0, none⟩)] W (RetX W0 W a r1 f1)) ∧ Chain W0 g xs r1 s f2 ∧ f = (f1 && f2)
def ListAt (W : World) (b : Nat) (xs : List ByteArray) : Prop := W.heap[b]? = some (.cells #[.string (xs.getD 0 ⟨#[]⟩), .string (xs.getD 1 ⟨#[]⟩)] 9 (0, 0))
def FinT (L : List S115) (op : Int) (txt : ByteArray) (num : Int) (xs : List ByteArray) (t : ByteArray) : Prop :=
  (op = 1 ∧ xs = [] ∧ t = txt) ∨ (op = 2 ∧ xs = [] ∧ t = headS (valsOf txt L)) ∨ (op = 3 ∧ ∃ a, xs = [a] ∧ a.size ≤ 100000 ∧ t = caseS false a) ∨ (op = 4 ∧ ∃ a, xs = [a] ∧ a.size ≤ 100000 ∧ t = caseS true a) ∨
  (op = 5 ∧ ∃ a b, xs = [a, b] ∧ t = a ++ b) ∨ (op = 6 ∧ ∃ a b, xs = [a, b] ∧ t = firstS a b) ∨ (op = 7 ∧ ∃ a, xs = [a] ∧ a.size ≤ 100000 ∧ 0 ≤ num ∧ num ≤ 40 ∧ t = leftS a num)
theorem ListAt.cell {W : World} {b : Nat} {xs : List ByteArray} (h : ListAt W b xs) (i : Nat) (hi : i < 2) : W.cell? ⟨b, i, none⟩ = some (.string (xs.getD i ⟨#[]⟩)) ∧ W.frozen? ⟨b, i, none⟩ = false := by
  unfold ListAt at h
  match i, hi with
  | 0, _ => exact ⟨by simp [World.cell?, h], by simp [World.frozen?, h]⟩
  | 1, _ => exact ⟨by simp [World.cell?, h], by simp [World.frozen?, h]⟩
theorem ListAt.put {W : World} {b : Nat} {xs : List ByteArray} (h : ListAt W b xs) (i : Nat) (hi : xs.length = i) (hl : i < 2) (a : ByteArray) : ListAt (W.setCell ⟨b, i, none⟩ (.string a)) b (xs ++ [a]) := by
  unfold ListAt at h ⊢
  match xs, hi, hl with
  | [], hi, _ => subst hi; simp [World.setCell, Array.getElem?_modify, h]
  | [x], hi, _ => subst hi; simp [World.setCell, Array.getElem?_modify, h]
theorem leftS_all {a : ByteArray} {n : Int} (h : (a.size : Int) ≤ n) : leftS a n = a := by
  unfold leftS
  rw [Nat.min_eq_left (by omega)]
  simp
theorem ret3_eq {t t' : ByteArray} {v : Value} {b b' : Bool} (h : t' = t) (h2 : b' = b) : Ending.returned (.tuple #[.string t', v, .bool b']) = .returned (.tuple #[.string t, v, .bool b]) := by rw [h, h2]
theorem str_at {W : World} {A : Option Addr} {v : ByteArray} {vs : List ByteArray} (h : Kd.C Kd.string W A (v :: vs).length (v :: vs)) : ∃ ad, A = some ad ∧ W.cell? ad = some (.string (headS (v :: vs))) := by
  obtain ⟨a9, cs9, hA9, hcl9, hK9, hcc9⟩ := Kd.C_get h ⟨#[]⟩ 0 (by omega) (by simp only [List.length_cons]; omega)
  refine ⟨a9, hA9, ?_⟩
  have hK : cs9 = [.string ((v :: vs).getD (0 : Int).toNat ⟨#[]⟩)] := hK9
  exact hcc9 0 _ (by rw [hK]; rfl)
set_option maxHeartbeats 4000000 in
set_option maxRecDepth 100000 in
theorem exprEval_all (L : List S115) (W0 : World) (g : Nat) (A0 : Option Addr) (n0 c0 : Nat) (A1 : Option Addr) (c1 : Nat) (he : EntAt W0 g A0 n0 c0 A1 c1 L) (hs : Rises L) (op : Int) (txt : ByteArray) (num : Int) (r s : List S70) (xs : List ByteArray) (f : Bool) (t : ByteArray) (hch : Chain W0 g xs r s f) (hop : arOp op = xs.length) (hn2 : xs.length ≤ 2) (hfin : FinT L op txt num xs t) (ht : t.size ≤ 100000)
    (A : Option Addr) (c : Nat) (W : World) (hr : Kd.C k70 W0 A ((⟨op, txt, num⟩ : S70) :: r).length (⟨op, txt, num⟩ :: r)) (hc : ((⟨op, txt, num⟩ : S70) :: r).length ≤ c) (hb : Below W0.heap.size W0 W) :
    Calls Tryz.prog 74 #[.slice A ((⟨op, txt, num⟩ : S70) :: r).length c, .pointer (some ⟨g, 0, none⟩)] W (RetX W0 W t s (f && okS t)) := by
  have ho := ops_at op
  rw [hop] at ho
  have HO := Aside0.mk ho
  clear ho
  obtain ⟨n, hn⟩ : ∃ n, xs.length = n := ⟨_, rfl⟩
  rw [hn] at HO hn2
  obtain ⟨ad, rfl, f0, f1, f2⟩ := part_at hr
  have f0 := pw_cell_below hb f0
  have f1 := pw_cell_below hb f1
  have f2 := pw_cell_below hb f2
  have hdrop := Kd.C_drop (m := 1) hr (by simp) hc
  have hmx := Kd.C_max hr
  have hlen : ((⟨op, txt, num⟩ : S70) :: r).length = r.length + 1 := rfl
  rw [hlen] at hc hmx ⊢
  simp only at f0 f1 f2
  change Kd.C k70 W0 (if c = 1 then some ad else some (ad.add 3)) r.length r at hdrop
  have hle : (1 : Int) ≤ (r.length : Int) + 1 := by omega
  have HCC := Aside0.mk hc
  have ha := World.new_ne W ad f0
  have ha1 := World.new_ne W _ f1
  have ha2 := World.new_ne W _ f2
  have HB := Aside0.mk hb
  have key : (c = 1 ∧ r.length ≤ 0 ∧ Kd.C k70 W0 (some ad) r.length r) ∨ (c ≠ 1 ∧ r.length ≤ c - 1 ∧ Kd.C k70 W0 (some (ad.add 3)) r.length r) := by
    by_cases hc1 : c = 1
    · rw [if_pos hc1] at hdrop
      exact .inl ⟨hc1, by omega, hdrop⟩
    · rw [if_neg hc1] at hdrop
      exact .inr ⟨hc1, by omega, hdrop⟩
  have HE := Aside0.mk he
  have HS := Aside0.mk hs
  have HCH := Aside0.mk hch
  have HF := Aside0.mk hfin
  have HN := Aside0.mk hn
  clear hr hb hdrop hlen hc he hs hch hfin hop hn
  obtain ⟨W1, hW1⟩ : ∃ W1, (W.alloc (.cells #[.int .i64 op, .string txt, .int .i64 num] 70)).drew = W1 := ⟨_, rfl⟩
  have hB1 : Below W.heap.size W W1 := by rw [← hW1]; exact below_drew (below_alloc (Below.refl _ _) _)
  have hN1 : W1.heap[W.heap.size]? = some (.cells #[.int .i64 op, .string txt, .int .i64 num] 70 (0, 0)) := by rw [← hW1]; exact heap_alloc_new W _
  have k0 := cell_blk (j := 0) hN1 rfl
  have k1 := cell_blk (j := 1) hN1 rfl
  have k2 := cell_blk (j := 2) hN1 rfl
  have q0 := pw_cell_below hB1 f0
  have q1 := pw_cell_below hB1 f1
  have q2 := pw_cell_below hB1 f2
  obtain ⟨W2, hW2⟩ : ∃ W2, W1.alloc (.cells #[.string ⟨#[]⟩, .string ⟨#[]⟩] 9) = W2 := ⟨_, rfl⟩
  have hB12 : Below W1.heap.size W1 W2 := by rw [← hW2]; exact below_alloc (Below.refl _ _) _
  have hN2 : W2.heap[W1.heap.size]? = some (.cells #[.string ⟨#[]⟩, .string ⟨#[]⟩] 9 (0, 0)) := by rw [← hW2]; exact heap_alloc_new W1 _
  have m0 := pw_cell_below hB12 k0
  have m1 := pw_cell_below hB12 k1
  have m2 := pw_cell_below hB12 k2
  have u0 := cell_blk (j := 0) hN2 rfl
  have u1 := cell_blk (j := 1) hN2 rfl
  have HB2 : Aside0 (Below W.heap.size W W2) := ⟨below_step hB1 hB12⟩
  have HB1 := Aside0.mk hB1
  have HN2 := Aside0.mk hN2
  clear hN1 hB1 hN2 hB12
  rcases key with ⟨rfl, hkey⟩ | ⟨hc1, hkey⟩
  all_goals
    have HK := Aside0.mk hkey
    clear hkey HCC
    go_enter Tryz.func74, Tryz.ntmps74
    go_wp2
    go_region_held3 (fun w' => w'.cell? ad = some (.int .i64 op) ∧ w'.cell? ⟨ad.block, ad.off + 1, none⟩ = some (.string txt) ∧ w'.cell? ⟨ad.block, ad.off + 2, none⟩ = some (.int .i64 num)) (go_keep) (fail)
    go_wp2_with (go_at_call 107; refine (HO.out _).mono ?_; rintro e w2 ⟨rfl, hb2⟩)
    have hB12 : Below W1.heap.size W1 w2 := by rw [← hW2] at hb2; exact below_step (below_alloc (Below.refl _ _) _) hb2
    have hL2 : ListAt w2 W1.heap.size [] := by unfold ListAt; rw [blk_below HN2.out hb2]; rfl
    have HX := Aside0.mk hL2
    have HX2 := Aside0.mk hB12
    clear u0 u1 m0 m1 m2 q0 q1 q2 hL2 hB12
    go_loopw [8, 9, 24] (fun s8 s9 s24 wr => ∃ (xs1 xs2 : List ByteArray) (ri : List S70) (fi fr : Bool) (A : Option Addr) (c : Nat), s24 = .int .i64 xs1.length ∧ s8 = .slice A ri.length c ∧ s9 = .bool fi ∧ Aside0 (xs = xs1 ++ xs2) ∧ Aside0 (ri.length ≤ c ∧ Kd.C k70 W0 A ri.length ri) ∧ Aside0 (Chain W0 g xs2 ri s fr) ∧ Aside0 ((fi && fr) = f) ∧ Aside0 (Below W1.heap.size W1 wr) ∧ Aside0 (ListAt wr W1.heap.size xs1)) (fun s8 s9 s24 _ => n - (intOf s24).toNat)
    case atStart => exact ⟨[], xs, r, true, f, _, _, rfl, rfl, rfl, ⟨rfl⟩, HK, HCH, ⟨by simp⟩, HX2, HX⟩
    case round =>
      obtain ⟨xs1, xs2, ri, fi, fr, A9, c9, rfl, rfl, rfl, HAS, HR, HC2, HFF, HBB, HLL⟩ := hrel
      obtain ⟨i, hi⟩ : ∃ i, xs1.length = i := ⟨_, rfl⟩
      have HI := Aside0.mk hi
      rw [hi]
      clear hi
      cases xs2 with
      | cons a xs2 =>
        have hin : i < n ∧ i < 2 := by
          have h1 := HN.out
          rw [HAS.out, List.length_append, List.length_cons, HI.out] at h1
          omega
        obtain ⟨hin, hi2⟩ := hin
        obtain ⟨r1, f1, f2, hcon, hc3, hff⟩ := HC2.out
        have HB0 : Aside0 (Below W0.heap.size W0 wr) := ⟨below_step HB.out (below_step HB1.out HBB.out)⟩
        have hcall := Aside0.mk (hcon A9 c9 wr HR.out.2 HR.out.1 HB0.out)
        have HC3 := Aside0.mk hc3
        have HFE := Aside0.mk hff
        clear hc3 hff hcon
        obtain ⟨z, hz⟩ : ∃ z, xs1.getD i ⟨#[]⟩ = z := ⟨_, rfl⟩
        have HZ := Aside0.mk hz
        clear hz
        have HFB : Aside0 (fr = (f1 && f2) → (((fi && f1) && f2) = f)) := ⟨fun h => by rw [← HFF.out, h, Bool.and_assoc]⟩
        cases fi <;> cases f1
        all_goals
          go_wp2_with (go_at_call 74; refine hcall.out.mono ?_; rintro e w3 ⟨A3, c3, rfl, h3, hk3, hb3⟩; have HL3 : Aside0 (ListAt w3 W1.heap.size xs1) := ⟨blk_below HLL.out hb3⟩; obtain ⟨j0, j1⟩ := HL3.out.cell i hi2; rw [HZ.out] at j0; have HK3 : Aside0 (r1.length ≤ c3 ∧ Kd.C k70 W0 A3 r1.length r1) := ⟨h3, hk3⟩)
          refine ⟨⟨xs1 ++ [a], xs2, r1, _, f2, A3, c3, by rw [List.length_append, HI.out]; rfl, rfl, rfl, ⟨by rw [HAS.out]; simp⟩, HK3, HC3, ⟨HFB.out HFE.out⟩, ⟨below_set (below_step HBB.out hb3) (Nat.le_refl _)⟩, ⟨HL3.out.put i HI.out hi2 a⟩⟩, ?_⟩
          simp [intOf]; omega
      | nil =>
        obtain rfl : i = n := by
          have h1 := HN.out
          rw [HAS.out, List.length_append, HI.out] at h1
          simpa using h1
        obtain ⟨rfl, hfr⟩ := HC2.out
        obtain rfl : fi = f := by have := HFF.out; rw [hfr] at this; simpa using this
        have HXS : Aside0 (xs1 = xs) := ⟨by rw [HAS.out]; simp⟩
        have m0 := pw_cell_below HBB.out k0
        have m1 := pw_cell_below HBB.out k1
        have m2 := pw_cell_below HBB.out k2
        obtain ⟨l0, _⟩ := HLL.out.cell 0 (by omega)
        obtain ⟨l1, _⟩ := HLL.out.cell 1 (by omega)
        rw [HXS.out] at l0 l1
        have HBW : Aside0 (Below W.heap.size W wr) := ⟨below_step HB1.out HBB.out⟩
        have HCASE := fun (u : Bool) (a : ByteArray) (ha : a.size ≤ 100000) (w : World) => turned_calls u (if u then 97 else 65) (if u then 65 else 97) (by cases u <;> simp) a (by omega) w
        have HCS := Aside0.mk HCASE
        have HVA := Aside0.mk (fun (W' : World) (hb : Below W0.heap.size W0 W') => values_calls g A0 n0 c0 A1 c1 L txt W0 W' HE.out hb HS.out)
        have HBR : Aside0 (Below W0.heap.size W0 wr) := ⟨below_step HB.out HBW.out⟩
        have hbig : (t.size : Int) ≤ 100000 := by omega
        clear HCASE hfr
        rcases HF.out with ⟨rfl, rfl, rfl⟩ | hrest
        · cases fi
          all_goals
            go_wp2
            go_ret3
            exact ⟨A9, c9, rfl, HR.out.1, HR.out.2, HBW.out⟩
        rcases hrest with ⟨rfl, rfl, rfl⟩ | hrest
        · cases hv : valsOf txt L with
          | nil =>
            rw [hv] at HVA
            rw [hv] at hbig
            simp only [headS] at hbig
            cases fi
            all_goals
              go_wp2_with (go_at_call 115; refine (HVA.out _ HBR.out).mono ?_; rintro e w4 ⟨A4, c4, rfl, h4, hk4, hb4⟩)
              go_ret3
              exact ⟨A9, c9, by rw [hv]; rfl, HR.out.1, HR.out.2, below_step HBW.out hb4⟩
          | cons v vs =>
            obtain ⟨vals, hvals⟩ : ∃ vals, v :: vs = vals := ⟨_, rfl⟩
            have hlv : (0 : Int) < (vals.length : Int) := by rw [← hvals]; simp only [List.length_cons]; omega
            have HHD : Aside0 (headS (valsOf txt L) = headS vals) := ⟨by rw [hv, hvals]⟩
            have hsat := fun (W' : World) (A' : Option Addr) (h : Kd.C Kd.string W' A' vals.length vals) => (show ∃ ad, A' = some ad ∧ W'.cell? ad = some (.string (headS vals)) by subst hvals; exact str_at h)
            have HSAT := Aside0.mk hsat
            rw [hv, hvals] at HVA
            rw [HHD.out] at hbig
            obtain ⟨hd, hhd⟩ : ∃ hd, headS vals = hd := ⟨_, rfl⟩
            rw [hhd] at hbig HSAT HHD
            clear hv hvals hhd hsat
            cases fi
            all_goals
              go_wp2_with (go_at_call 115; refine (HVA.out _ HBR.out).mono ?_; rintro e w4 ⟨A4, c4, rfl, h4, hk4, hb4⟩; have HB4 := Aside0.mk hb4; obtain ⟨a9, hA9, g9⟩ := HSAT.out w4 A4 (Kd.C_below hk4 (below_step HBR.out hb4)); subst hA9; clear hk4)
              go_ret3
              exact ⟨A9, c9, by rw [HHD.out]; rfl, HR.out.1, HR.out.2, below_step HBW.out HB4.out⟩
        rcases hrest with ⟨rfl, a, rfl, ha, hq⟩ | hrest
        · simp only [List.getD_cons_zero] at l0
          have HQ := Aside0.mk (fun w => turned_calls false 65 97 (by simp) a (by omega) w)
          rw [← hq] at HQ
          clear hq
          cases fi
          all_goals
            go_wp2_with (go_at_call 116; refine (HQ.out _).mono ?_; rintro e w4 ⟨rfl, hb4⟩)
            go_ret3
            exact ⟨A9, c9, rfl, HR.out.1, HR.out.2, below_step HBW.out hb4⟩
        rcases hrest with ⟨rfl, a, rfl, ha, hq⟩ | hrest
        · simp only [List.getD_cons_zero] at l0
          have HQ := Aside0.mk (fun w => turned_calls true 97 65 (by simp) a (by omega) w)
          rw [← hq] at HQ
          clear hq
          cases fi
          all_goals
            go_wp2_with (go_at_call 116; refine (HQ.out _).mono ?_; rintro e w4 ⟨rfl, hb4⟩)
            go_ret3
            exact ⟨A9, c9, rfl, HR.out.1, HR.out.2, below_step HBW.out hb4⟩
        rcases hrest with ⟨rfl, a, b, rfl, hq⟩ | hrest
        · simp only [List.getD_cons_zero, List.getD_cons_succ] at l0 l1
          have HJ := Aside0.mk hq
          have HOK : Aside0 (okS t = decide ((a.size : Int) + (b.size : Int) ≤ 40)) := ⟨by unfold okS; rw [hq, ByteArray.size_append, Int.natCast_add]⟩
          have hab : t.size = a.size + b.size := by rw [hq, ByteArray.size_append]
          have hcc : ¬ ((9223372036854775807 : Int) < (a.size : Int) + (b.size : Int)) := by omega
          have hcc2 : (a.size : Int) + (b.size : Int) ≤ 9223372036854775807 := by omega
          clear hq hab
          cases fi
          all_goals
            go_wp2
            go_quiet (fail)
            go_wp2
            go_ret3
            exact ⟨A9, c9, ret3_eq HJ.out.symm (by first | rfl | (rw [Bool.true_and, HOK.out])), HR.out.1, HR.out.2, pw_below_drewN HBW.out _⟩
        rcases hrest with ⟨rfl, a, b, rfl, rfl⟩ | hrest
        · simp only [List.getD_cons_zero, List.getD_cons_succ] at l0 l1
          by_cases he : a.toList = []
          · rw [firstS, if_pos he] at hbig
            cases fi
            all_goals
              go_wp2
              go_ret3
              exact ⟨A9, c9, by rw [firstS, if_pos he]; rfl, HR.out.1, HR.out.2, HBW.out⟩
          · have d1 : (a.toList == ([] : List UInt8)) = false := by simpa using he
            rw [firstS, if_neg he] at hbig
            cases fi
            all_goals
              go_wp2
              go_ret3
              exact ⟨A9, c9, by rw [firstS, if_neg he]; rfl, HR.out.1, HR.out.2, HBW.out⟩
        · obtain ⟨rfl, a, rfl, ha, hn0, hn40, rfl⟩ := hrest
          simp only [List.getD_cons_zero] at l0
          have hn1 : (0 : Int) ≤ (a.size : Int) := by omega
          by_cases hmn : (a.size : Int) ≤ num
          · have hmn3 : decide (num < (a.size : Int)) = false := decide_eq_false (by omega)
            cases fi
            all_goals
              go_wp2
              go_quiet (fail)
              go_wp2
              go_ret3
              exact ⟨A9, c9, by rw [leftS_all hmn]; rfl, HR.out.1, HR.out.2, pw_below_drewN HBW.out _⟩
          · have hmn2 : num ≤ (a.size : Int) := by omega
            have hmn3 : decide (num < (a.size : Int)) = true := decide_eq_true (by omega)
            have hls : leftS a num = a.extract 0 num.toNat := by unfold leftS; congr 1; omega
            have HJ := Aside0.mk hls
            have HOK : Aside0 (okS (leftS a num) = decide (max num 0 ≤ 40)) := ⟨by unfold okS; rw [hls, decide_eq_true (by simp only [ByteArray.size_extract]; omega), decide_eq_true (by omega)]⟩
            clear hls hbig
            cases fi
            all_goals
              go_wp2
              go_quiet (fail)
              go_wp2
              go_ret3
              exact ⟨A9, c9, ret3_eq HJ.out.symm (by first | rfl | (rw [Bool.true_and, HOK.out])), HR.out.1, HR.out.2, pw_below_drewN HBW.out _⟩
end Go.Proofs.YtpocoeghobdfiaaGreatDoor.PG
