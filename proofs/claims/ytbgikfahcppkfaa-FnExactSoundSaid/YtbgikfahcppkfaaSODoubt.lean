/-
  The program's Doubtful, walked: a map counts the logins, a row holds those that come twice. Conditions: the logins' sizes.
-/
import Derived.Maps.OwnOps
import Derived.Maps.Views
import Derived.Test.YtbgikfahcppkfaaSODoubtV
namespace Go.Proofs.Ytbgikfahcppkfaa.PG
set_option linter.unusedVariables false
set_option linter.unusedSimpArgs false
open Go.RowKit Go.Proofs.YtbgikfahcppkfaaW.PrintWords Go.Proofs.YtbgikfahcppkfaaW.PrintLast Go.Proofs.YtbgikfahcppkfaaW.PrintMore Go.Proofs.Ytbgikfahcppkfaa.Gn Go.Maps Go.WideMaps
attribute [local go_sem] max2_int min2_int max_two min_two max_three min_three max_four min_four World.cell?_drew World.frozen?_drew

theorem infoS : (Try.prog.info? 9).map (fun i => (i.zero, i.size, i.bytes)) = some (some (.string ⟨#[]⟩), 1, 16) := by kernel_rfl
theorem lt_maxLen {n : Nat} (h : n ≤ 1000000) : n < maxLen := by
  unfold maxLen
  omega
theorem le_maxLen {n : Nat} (h : n ≤ 9223372036854775807) : n ≤ maxLen := by
  unfold maxLen
  omega
theorem keyLaw : Keyed Try.prog 9 := string_keyed Try.underlying9
theorem zeroI (w : World) : (zeroValue 3).run Try.prog w = .ok (.int .i64 0) w := by kernel_rfl
/-- A map that has, at each login, how many there are. -/
def Counts (D : DataW Unit) (p : List S77) : Prop := IsMap D ∧ ∀ s : ByteArray, D.atKey (.string s.data.toList) (.lit (.int .i64 0)) = .lit (.int .i64 (cntW s p))
theorem Counts.nil : Counts (.map []) [] := ⟨⟨[], rfl⟩, fun s => rfl⟩
theorem Counts.skip {D : DataW Unit} {p : List S77} {w : S77} (h : Counts D p) (hw : okW w = false) : Counts D (p ++ [w]) := ⟨h.1, fun s => by rw [h.2, cntW_snoc, if_neg (fun h2 => by rw [hw] at h2; cases h2.1)]; rfl⟩
theorem Counts.tick {D : DataW Unit} {p : List S77} {w : S77} (h : Counts D p) (hw : okW w = true) (n : Int) (hn : n = (cntW w.f1 p : Int) + 1) : Counts (D.put (.string w.f1.data.toList) (.lit (.int .i64 n))) (p ++ [w]) := by
  refine ⟨h.1.put _ _, fun s => ?_⟩
  rw [cntW_snoc]
  by_cases hs : w.f1 = s
  · subst hs
    rw [atKey_put_same h.1 (by trivial), if_pos ⟨hw, rfl⟩, hn]
    rfl
  · rw [atKey_put_other (fun he => hs (ba_ext (by injection he with he; exact he.symm))), h.2, if_neg (fun h2 => hs h2.2)]
    rfl
set_option maxHeartbeats 4000000 in
set_option maxRecDepth 100000 in
theorem doubt_calls (A : Option Addr) (c : Nat) (l : List S77) (w : World) (hr : Kd.C k77 w A l.length l) (hc : l.length ≤ c) (h20 : l.length ≤ 20) (hsz : ∀ x, x ∈ l → x.f1.size ≤ 9223372036854775807) :
    Calls Try.prog 24 #[.slice A l.length c] w fun e w' => ∃ v, e = .returned v ∧ Kd.R Kd.string 9 w' w.heap.size (fun _ => True) v (doubtV l) ∧ Below w.heap.size w w' := by
  have HR := Aside0.mk hr
  have HC := Aside0.mk hc
  have H20 := Aside0.mk h20
  have HSZ := Aside0.mk hsz
  have hlen : ¬ ((l.length : Int) > 20) := by omega
  clear hr hc hsz h20
  have hmm := @run_makeMap Try.prog
  go_enter Try.func24, Try.ntmps24
  go_wp2
  go_loopw [4, 6, 14] (fun s4 s6 s14 wr => ∃ (k : Nat) (D : DataW Unit) (A4 : Option Addr) (n4 c4 : Nat) (out : List ByteArray), k ≤ l.length ∧ s4 = .slice A4 n4 c4 ∧ s14 = .int .i64 k ∧ Aside0 (wr.ownsMap Try.prog 9 (plainElem Try.prog 3) w.heap.size k D) ∧ Aside0 (Counts D (l.take k)) ∧ Aside0 (Kd.R Kd.string 9 wr w.heap.size (fun j => w.heap.size < j) (.slice A4 n4 c4) out) ∧ Aside0 (outW [] l = out ++ outW (l.take k) (l.drop k) ∧ out.length ≤ k) ∧ Aside0 (Below w.heap.size w wr ∧ w.heap.size < wr.heap.size)) (fun s4 s6 s14 _ => l.length - (intOf s14).toNat)
  case atStart =>
    refine ⟨0, .map [], some ⟨w.heap.size + 1, 0, none⟩, 0, 0, [], Nat.zero_le _, rfl, rfl, ⟨(World.ownsMap_made w _ _ _).alloc _⟩, ⟨Counts.nil⟩, ⟨?_⟩, ⟨rfl, Nat.le_refl _⟩, ⟨below_alloc (below_alloc (Below.refl _ _) _) _, by simp; omega⟩⟩
    have h1 := R_empty Kd.string 9 (w.alloc (.map #[] 0))
    have hs : (w.alloc (.map #[] 0)).heap.size = w.heap.size + 1 := by simp
    have h2 := Kd.R_lower (Kd.R_mono (ok' := fun j => w.heap.size < j) (Kd.R_bound h1) (fun k hk => by have := hk.2.1; rw [hs] at this; omega)) (show w.heap.size ≤ _ by rw [hs]; omega)
    rw [hs] at h2
    exact h2
  case round =>
    obtain ⟨k, D, A4, n4, c4, out, hk, rfl, rfl, HM, HCN, HRO, HOUT, HB⟩ := hrel
    by_cases hlt : k < l.length
    · obtain ⟨ad, cs, hA, hcl, hK, hcc⟩ := Kd.C_get (Kd.C_below HR.out HB.out.1) z77 (k : Int) (by omega) (by omega)
      rw [Int.toNat_natCast, getD_at hlt] at hK
      rw [Int.toNat_natCast] at hcc
      have hsx := HSZ.out _ (List.getElem_mem hlt)
      have HDR := Aside0.mk (List.drop_eq_getElem_cons hlt)
      have HTK := Aside0.mk (List.take_succ_eq_append_getElem hlt)
      have HLT := Aside0.mk hlt
      have hlt2 : k < l.length := hlt
      generalize l[k]'hlt = x at hK hsx HDR HTK
      obtain rfl := k77_open hK
      subst hA
      have f0 : wr.cell? (ad.add (k * 5)) = some (.string x.f0) := hcc 0 _ rfl
      have f1 : wr.cell? ⟨(ad.add (k * 5)).block, (ad.add (k * 5)).off + 1, none⟩ = some (.string x.f1) := by rw [← add_field _ _ 1 (by omega)]; exact hcc 1 _ rfl
      have f2 : wr.cell? ⟨(ad.add (k * 5)).block, (ad.add (k * 5)).off + 2, none⟩ = some (.string x.f2) := by rw [← add_field _ _ 2 (by omega)]; exact hcc 2 _ rfl
      have f3 : wr.cell? ⟨(ad.add (k * 5)).block, (ad.add (k * 5)).off + 3, none⟩ = some (.string x.f3) := by rw [← add_field _ _ 3 (by omega)]; exact hcc 3 _ rfl
      have f4 : wr.cell? ⟨(ad.add (k * 5)).block, (ad.add (k * 5)).off + 4, none⟩ = some (.int .i64 x.f4) := by rw [← add_field _ _ 4 (by omega)]; exact hcc 4 _ rfl
      clear hcc hcl hK hlt
      by_cases h0 : x.f4 = 0
      · obtain ⟨p0, p1, p2, p3, p4⟩ := x
        obtain rfl : p4 = 0 := h0
        dsimp only at f0 f1 f2 f3 f4 hsx
        have hok : okW ⟨p0, p1, p2, p3, 0⟩ = true := rfl
        have hcl := cntW_le p1 (l.take k)
        rw [List.length_take] at hcl
        have hkey : keyOf Try.prog 9 (.string p1) = some (.string p1.data.toList) := keyOf_string_mk Try.underlying9 (le_maxLen hsx)
        obtain ⟨m, hm⟩ : ∃ m, cntW p1 (l.take k) = m := ⟨_, rfl⟩
        rw [hm] at hcl
        have hm20 : m ≤ 20 := by have := H20.out; omega
        have hwr : wrap64 ((m : Int) + 1) = m + 1 := w_id (by omega) (by omega)
        have hat0 := HCN.out.2 p1
        rw [hm] at hat0
        have HAT0 := Aside0.mk hat0
        have HTICK := Aside0.mk (HCN.out.tick hok ((m : Int) + 1) (by rw [hm]))
        have HOK := Aside0.mk hok
        have HMM := Aside0.mk hm
        have HKEY := Aside0.mk hkey
        have HWF := Aside0.mk (show (Lit.int .i64 ((m : Int) + 1)).wf = true by rw [← hwr]; exact wrap64_wf _)
        have HMX := Aside0.mk (lt_maxLen (show k ≤ 1000000 by have := H20.out; omega))
        have hn1 : (wr.alloc (.cells #[.string p0, .string p1, .string p2, .string p3, .int .i64 0] 77)).heap[wr.heap.size]? = some (.cells #[.string p0, .string p1, .string p2, .string p3, .int .i64 0] 77 (0, 0)) := heap_alloc_new wr _
        have HN1 := Aside0.mk hn1
        have hat2 := HTICK.out.2 p1
        rw [cntW_snoc, hm, if_pos ⟨hok, rfl⟩] at hat2
        have HAT2 := Aside0.mk hat2
        clear hok hcl hm hat0 hkey hn1 hat2 hmm hsx
        go_wp2_with (first | (at_lookup; refine wpList_lookup_own_int _ rfl _ _ 80 rfl 9 3 .i64 keyLaw Try.underlying80 Try.underlying3 (zeroI _) w.heap.size k _ rfl (HM.out.alloc _) _ _ rfl HKEY.out ?_; intro c5 hat hwc; obtain rfl : c5 = (m : Int) := (by rw [HAT0.out] at hat; injection hat with hat; injection hat with _ hat; exact hat.symm); clear hat hwc) | (at_mapUpdate; refine wpList_mapUpdate_own _ rfl _ _ _ 80 rfl 9 3 keyLaw Try.underlying80 _ w.heap.size k _ rfl (HM.out.alloc _) HMX.out _ _ _ rfl rfl HKEY.out _ [] (plainElem_int Try.underlying3 HWF.out) ?_; intro w1 hown1 hgrow1; have HOWN1 := Aside0.mk hown1; have K1 := Aside0.mk ((hgrow1.block _ (blk_lt HN1.out) (fun he => by have := HB.out.2; injection he with he; omega)).trans HN1.out); have q1 := blk_cell K1.out 1; have R1 := Aside0.mk (Kd.R_grown (Kd.R_below HRO.out (below_alloc (Below.refl _ _) _)) hgrow1 (fun j hj he => by injection he with he; omega)); have B1 := Aside0.mk ((below_alloc HB.out.1 _).grown hgrow1 (by have := HB.out.2; simp; omega) (fun j hj => by injection hj with hj; omega)); have Z1 := Aside0.mk (show w.heap.size < w1.heap.size by have h1_ := hgrow1.size; have h2_ := HB.out.2; simp at h1_; omega); clear hown1 hgrow1) | (at_lookup; refine wpList_lookup_own_int _ rfl _ _ 80 rfl 9 3 .i64 keyLaw Try.underlying80 Try.underlying3 (zeroI _) w.heap.size (k + 1) _ rfl HOWN1.out _ _ rfl HKEY.out ?_; intro c6 hat hwc; obtain rfl : c6 = (m : Int) + 1 := (by rw [HAT2.out] at hat; injection hat with hat; injection hat with _ hat; rw [← hat]; rfl); clear hat hwc) | ((with_reducible refine gate_builtin (b := .append) (xs := #[.tmp 31, .tmp 34]) rfl ?_); at_builtin; refine Kd.R_append Kd.string (w0 := w) w.heap.size rfl (.tmp 31) (.tmp 34) 40 9 (.string ⟨#[]⟩) 16 rfl Try.underlying40 infoS rfl (by decide) (by decide) _ out p1 [.string p1] (fun j => w.heap.size < j) (fun _ => False) rfl rfl ?aP (fun _ hk => hk.elim) ?aF ?aO ?aB ?aS ?aL ?_; (case aP => exact rfl); (case aF => exact fun j hj => Nat.lt_of_lt_of_le Z1.out hj); (case aO => exact R1.out); (case aB => exact B1.out); (case aS => exact Nat.le_of_lt Z1.out); (case aL => have h1_ := HOUT.out.2; have h2_ := H20.out; omega); intro v6 w6 hv6 hb6 hg6 hx6; obtain ⟨A7, c7, rfl⟩ := Kd.R_slice hv6; have HR7 := Aside0.mk hv6; have HB7 := Aside0.mk hb6; have HG6 := Aside0.mk hg6; clear hv6 hb6 hg6 hx6))
        · have hm1 : m = 1 := by
            have h2_ : (m : Int) + 1 = 2 := by simpa using ‹((m : Int) + 1 == 2) = true›
            omega
          have hif : (if okW (⟨p0, p1, p2, p3, 0⟩ : S77) = true ∧ cntW p1 (l.take k) = 1 then [p1] else []) = [p1] := if_pos ⟨HOK.out, by rw [HMM.out, hm1]⟩
          have hne : some w.heap.size ≠ (Value.slice A4 n4 c4).ownBlock := fun he => Nat.lt_irrefl _ (R1.out.1 _ he.symm)
          refine ⟨⟨k + 1, _, A7, out.length + 1, c7, out ++ [p1], by have := HLT.out; omega, rfl, by go_num, ⟨HOWN1.out.kept HG6.out hne⟩, ⟨by rw [HTK.out]; exact HTICK.out⟩, ⟨by have h3 := HR7.out; rw [List.length_append] at h3; exact h3⟩, ⟨by rw [HOUT.out.1, HDR.out, HTK.out]; simp only [outW]; rw [hif, List.append_assoc], by have := HOUT.out.2; simp; omega⟩, ⟨HB7.out, by have h1_ := HG6.out.size; have h2_ := Z1.out; omega⟩⟩, by simp [intOf]; have := HLT.out; omega⟩
        · have hm1 : ¬ m = 1 := by
            have h2_ : ¬ (m : Int) + 1 = 2 := by first | simpa using ‹((m : Int) + 1 == 2) = false› | simpa using ‹¬ ((m : Int) + 1 == 2) = true›
            omega
          have hif : (if okW (⟨p0, p1, p2, p3, 0⟩ : S77) = true ∧ cntW p1 (l.take k) = 1 then [p1] else []) = [] := if_neg (fun h => hm1 (by rw [← HMM.out]; exact h.2))
          refine ⟨⟨k + 1, _, A4, n4, c4, out, by have := HLT.out; omega, rfl, by go_num, ⟨HOWN1.out⟩, ⟨by rw [HTK.out]; exact HTICK.out⟩, R1, ⟨by rw [HOUT.out.1, HDR.out, HTK.out]; simp only [outW]; rw [hif, List.nil_append], by have := HOUT.out.2; omega⟩, ⟨B1.out, Z1.out⟩⟩, by simp [intOf]; have := HLT.out; omega⟩
      · have hok : okW x = false := decide_eq_false h0
        have HOK := Aside0.mk hok
        clear hok
        go_wp2
        refine ⟨⟨k + 1, D, A4, n4, c4, out, by have := HLT.out; omega, rfl, by go_num, ⟨(HM.out.alloc _).mono (Nat.le_succ _)⟩, ⟨by rw [HTK.out]; exact HCN.out.skip HOK.out⟩, ⟨Kd.R_below HRO.out (below_alloc (Below.refl _ _) _)⟩, ⟨by rw [HOUT.out.1, HDR.out, HTK.out]; simp only [outW]; rw [if_neg (fun h => by rw [HOK.out] at h; cases h.1)]; rfl, by have := HOUT.out.2; omega⟩, ⟨below_alloc HB.out.1 _, by have := HB.out.2; simp; omega⟩⟩, by simp [intOf]; have := HLT.out; omega⟩
    · obtain rfl : k = l.length := by omega
      have hout := HOUT.out.1
      rw [List.drop_eq_nil_of_le (Nat.le_refl _)] at hout
      simp only [outW, List.append_nil] at hout
      subst hout
      obtain ⟨hn4, hl4, _⟩ := Kd.R_reads' HRO.out
      have hs := sort_strs A4 c4 (outW [] l) wr w.heap.size _ (by rw [← hn4]; exact HRO.out) (by have := HOUT.out.2; have := H20.out; omega)
      rw [← hn4] at hs
      have HN4 := Aside0.mk hn4
      clear hn4 hl4 hmm
      go_wp2_with (go_at_call 53; refine hs.mono ?_; rintro e w2 ⟨rfl, hR2, hb2, hk2⟩; have HR2 := Aside0.mk hR2; have HB2 := Aside0.mk hb2; clear hR2 hb2 hk2)
      go_ret
      refine ⟨_, rfl, ?_, HB.out.1.trans HB2.out⟩
      have h3 := HR2.out
      rw [sortB_length, ← HN4.out] at h3
      exact Kd.R_mono h3 (fun _ _ => trivial)
set_option maxHeartbeats 1000000 in
set_option maxRecDepth 100000 in
theorem doubt_long (A : Option Addr) (c : Nat) (l : List S77) (w : World) (h20 : ¬ l.length ≤ 20) :
    Calls Try.prog 24 #[.slice A l.length c] w fun e w' => ∃ v, e = .returned v ∧ Kd.R Kd.string 9 w' w.heap.size (fun _ => True) v [] ∧ Below w.heap.size w w' := by
  have hlen : (l.length : Int) > 20 := by omega
  clear h20
  go_enter Try.func24, Try.ntmps24
  go_wp2
  go_ret
  exact ⟨_, rfl, Kd.R_nil _ _ _ _ _, Below.refl _ _⟩
def doubtAll (l : List S77) : List ByteArray := if l.length ≤ 20 then doubtV l else []
def sizesB (l : List S77) : Bool := l.all fun x => decide (x.f1.size ≤ 9223372036854775807)
/-- The program's Doubtful, where the walk speaks. -/
def impl_Doubtful.f (l0 : List S77) : Option (List ByteArray) := if sizesB l0 = true then some (doubtAll l0) else none
theorem impl_Doubtful.calls (A0 : Option Addr) (c0 : Nat) (l0 : List S77) (r : List ByteArray) (w : World) (hr0 : Kd.C k77 w A0 l0.length l0) (hc0 : l0.length ≤ c0) (h : impl_Doubtful.f l0 = some r) :
    Calls Try.prog 24 #[.slice A0 l0.length c0] w fun e w' => ∃ v0_ : Value, e = .returned (v0_) ∧ Kd.R Kd.string 9 w' w.heap.size (fun _ => True) v0_ r ∧ Below w.heap.size w w' := by
  unfold impl_Doubtful.f at h
  by_cases hs : sizesB l0 = true
  · rw [if_pos hs] at h
    obtain rfl := Option.some.inj h
    unfold doubtAll
    by_cases h20 : l0.length ≤ 20
    · rw [if_pos h20]
      exact doubt_calls A0 c0 l0 w hr0 hc0 h20 (fun x hx => by simpa using List.all_eq_true.1 hs x hx)
    · rw [if_neg h20]
      exact doubt_long A0 c0 l0 w h20
  · rw [if_neg hs] at h
    cases h
end Go.Proofs.Ytbgikfahcppkfaa.PG
