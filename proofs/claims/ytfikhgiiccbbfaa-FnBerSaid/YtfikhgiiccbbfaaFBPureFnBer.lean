/-
  The law FnBer, its plain part: a drawn thing is got back, two are got as a row, a number comes back. No condition but what the arguments fit.
-/
import Derived.Test.YtfikhgiiccbbfaaFBP4
import Derived.Test.YtfikhgiiccbbfaaFBFits
import Derived.Test.YtfikhgiiccbbfaaFBDrawZ
import Derived.Test.YtfikhgiiccbbfaaFBBerT
import Derived.Test.YtfikhgiiccbbfaaFBBerC
namespace Go.Proofs.Ytfikhgiiccbbfaa.Pure
set_option linter.unusedVariables false
set_option linter.unusedSimpArgs false
open Go.RowKit Go.Proofs.Ytfikhgiiccbbfaa.PG Go.Proofs.Ytfikhgiiccbbfaa Go.Proofs.YtfikhgiiccbbfaaW.PrintWords Go.Proofs.YtfikhgiiccbbfaaW.PrintLast Go.Proofs.Ytfikhgiiccbbfaa.Gn

theorem toList_emp {t : ByteArray} : t.toList = ([] : List UInt8) ↔ t.size = 0 := by
  rw [ByteArray.toList_eq]
  obtain ⟨⟨l⟩⟩ := t
  cases l <;> simp [ByteArray.size]
theorem put_two (tag : Int) (body : ByteArray) : (putV tag body).toList = ([] : List UInt8) ∨ (putV tag body = putT tag body ∧ tagOk tag = true ∧ body.size ≤ 4000 ∧ ¬ (putV tag body).toList = ([] : List UInt8)) := by
  have hn : (⟨#[]⟩ : ByteArray).toList = ([] : List UInt8) := toList_emp.2 rfl
  by_cases h1 : tagOk tag = true
  · by_cases h2 : (body.size : Int) > 4000
    · left
      unfold putV
      rw [if_pos h1, if_pos h2]
      exact hn
    · right
      have e : putV tag body = putT tag body := by unfold putV; rw [if_pos h1, if_neg h2]
      refine ⟨e, h1, by omega, fun h => ?_⟩
      rw [e] at h
      have h3 := toList_emp.1 h
      have := hdr_len2 tag body.size
      rw [put_size] at h3
      omega
  · left
    unfold putV
    rw [if_neg h1]
    exact hn
theorem lwAt_ok (l : List Int) (hl : ∀ x, x ∈ l → 0 ≤ x ∧ x < 256) : ∃ q : Int, 0 ≤ q ∧ q < 256 ∧ laws_lwAt.f l 0 256 = some q := by
  unfold laws_lwAt.f
  rw [if_neg (by omega)]
  by_cases h : (l.length : Int) = 0
  · exact ⟨0, by omega, by omega, by rw [if_pos h]⟩
  · have h0 : Int.tmod 0 (l.length : Int) = 0 := Int.zero_tmod _
    rw [if_neg h, h0, if_pos (by omega), if_pos (by omega), if_neg (by omega)]
    have hm : rd l 0 ∈ l := by
      cases l with
      | nil => simp at h
      | cons a r => simp [rd]
    have hb := hl _ hm
    have e : wrap64 (rd l 0) = rd l 0 := w_id (by omega) (by omega)
    rw [e, Int.tmod_eq_emod_of_nonneg hb.1]
    exact ⟨rd l 0 % 256, by omega, by omega, rfl⟩
theorem getA_back {u : ByteArray} {a x p : Int} {b : ByteArray} (h : getA u a = (x, b, p, 0)) : 0 ≤ a ∧ a ≤ p ∧ p ≤ (u.size : Int) ∧ u.extract a.toNat p.toNat = putV x b := by
  unfold getA at h
  split at h
  · simp at h
  split at h
  · simp at h
  rename_i h1 h2
  have ha : 0 ≤ a := by omega
  have hok := get_ok ha (by rw [h])
  rw [h] at hok
  exact ⟨ha, by have := hok.1; simp only at this; omega, hok.2, get_put ha h⟩
theorem getA_in {s : ByteArray} {a : Int} (hs : s.size ≤ 8000) (ha : 0 ≤ a) : getA s a = getV s a := by
  unfold getA
  rw [if_neg (by omega), if_neg (by omega)]
theorem tlvs_same (l : List S27) (hl : l.length ≤ 9223372036854775807) : Ev (fun k => laws_lwTlvs.f k l l) true := by
  unfold laws_lwTlvs.f
  simp only [if_true, eq_self_iff_true]
  exact eq_loop (rdx := rd_T27) (z := z27) (fun _ _ => rfl) (e := fun k a b => if (!(a.f0 == b.f0) || (!(a.f1.toList == b.f1.toList))) = true then some false else some true) (l := laws_lwTlvs.l0) (fun k xs ys i => by
    simp only [laws_lwTlvs.l0]
    generalize (!((rd_T27 xs i).f0 == (rd_T27 ys i).f0) || !((rd_T27 xs i).f1.toList == (rd_T27 ys i).f1.toList)) = q
    cases q <;> simp) l hl (fun x hx => by simp; exact Ev.now _)
theorem same3 (a b c : Int) : (a == a && (b == b && (c == c))) = true := by simp
theorem j3_ok (x0 x1 : List Int) (h0 : x0.length ≤ 1000000000) (h1 : x1.length ≤ 1000000000) : Ev (fun k => laws_FnBer.j3 k x0 x1 false) true := by
  obtain ⟨mark, n, eI, n0, n1⟩ := drawInt_ok x0 h0
  obtain ⟨p, eR⟩ := drawIntRead_ok x1 h1
  obtain ⟨q, q1, q2, q3, q4, q5, q6⟩ := berInt_same mark n n0 n1
  obtain ⟨r, r1, r2⟩ := berIntRead_same p
  obtain ⟨B, b1, b2, b3, b4⟩ := berInt_read n n0 n1
  have hB := Ev_eq q1 b1
  rw [hB] at q3 q4
  refine Ev.step (fun k => by rw [laws_FnBer.j3]) (Ev.congr (fun k => if_neg Bool.false_ne_true) ?_)
  refine Ev_bind eI (Ev_bind q3 (Ev_bind eR (Ev_bind q4 ?_)))
  refine Ev.congr (fun k => if_pos rfl) ?_
  have fin : Ev (fun k => ((impl_BerIntRead.f k p).bind fun bt555 => ((spec_BerIntRead.f k p).bind fun bt558 => (some (bt555.1 == bt558.1 && (bt555.2.1 == bt558.2.1 && (bt555.2.2 == bt558.2.2))))))) true :=
    Ev_bind r1 (Ev_bind r2 (Ev_some fun k => by rw [same3]))
  rcases put_two mark B with he | ⟨he, ht, hb4, hne⟩
  · exact Ev.congr (fun k => if_pos he) fin
  · have hs := hdr_len2 mark B.size
    have hs3 : ((putV mark B).size : Int) ≥ 3 := by rw [he, put_size]; omega
    refine Ev.congr (fun k => by rw [if_neg hne, if_pos hs3, if_pos (show 2 ≤ ((putV mark B).size : Int) by omega)]) ?_
    have hx : (putV mark B).extract 2 (putV mark B).size = B := by rw [he]; exact put_body mark B b4
    rw [hx]
    refine Ev_bind b2 ?_
    exact Ev.congr (fun k => if_pos (by show (n == n && ((0 : Int) == 0 && ((0 : Int) == 0))) = true; rw [same3])) fin
theorem j2_ok (x0 x1 : List Int) (h0 : x0.length ≤ 1000000000) (h1 : x1.length ≤ 1000000000) : Ev (fun k => laws_FnBer.j2 k x0 x1 false) true := by
  obtain ⟨v, eA, hv⟩ := drawAll_ok x1 h1
  obtain ⟨r, r1, r2, r3⟩ := berAll_same v
  refine Ev.step (fun k => by rw [laws_FnBer.j2]) (Ev.congr (fun k => if_neg Bool.false_ne_true) ?_)
  refine Ev_bind eA (Ev_bind r1 (Ev_bind r2 ?_))
  refine Ev.congr (fun k => if_pos rfl) ?_
  exact Ev_bind r1 (Ev_bind r2 (Ev_bind (tlvs_same r.1 (by omega)) (j3_ok x0 x1 h0 h1)))
theorem same4 (a b c : Int) (s : ByteArray) : ((!(a == a) || (!(s.toList == s.toList))) || (!(b == b) || (!(c == c)))) = false := by simp
theorem j1_ok (x0 x1 : List Int) (h0 : x0.length ≤ 1000000000) (h1 : x1.length ≤ 1000000000) : Ev (fun k => laws_FnBer.j1 k x0 x1) true := by
  obtain ⟨u, at_, eG, hu⟩ := drawGet_ok x1 h1
  have e1 := impl_getA u at_
  have e2 := spec_getA u at_
  obtain ⟨⟨g1, gb, g2, g3⟩, hg⟩ : ∃ g, getA u at_ = g := ⟨_, rfl⟩
  rw [hg] at e1 e2
  refine Ev.step (fun k => by rw [laws_FnBer.j1]) (Ev_bind eG (Ev_bind e1 (Ev_bind e2 ?_)))
  refine Ev.congr (fun k => if_neg (by show ¬ ((!(g1 == g1) || (!(gb.toList == gb.toList))) || (!(g2 == g2) || (!(g3 == g3)))) = true; rw [same4]; exact Bool.false_ne_true)) ?_
  by_cases hc : g3 = 0
  · subst hc
    obtain ⟨a0, a1, a2, a3⟩ := getA_back hg
    refine Ev.congr (fun k => by rw [if_pos rfl, if_pos (show 0 ≤ at_ from a0), if_pos (show at_ ≤ g2 from a1), if_pos (show g2 ≤ (u.size : Int) from a2)]) ?_
    refine Ev_bind (Ev_some fun k => impl_put g1 gb) ?_
    refine Ev.congr (fun k => ?_) (j2_ok x0 x1 h0 h1)
    show laws_FnBer.j2 k x0 x1 ((u.extract at_.toNat g2.toNat).toList != (putV g1 gb).toList) = _
    rw [a3]
    simp
  · exact Ev.congr (fun k => if_neg hc) (j2_ok x0 x1 h0 h1)
theorem j0_ok (x0 x1 : List Int) (h0 : x0.length ≤ 1000000000) (h1 : x1.length ≤ 1000000000) (hb : ∀ x, x ∈ x1 → 0 ≤ x ∧ x < 256) : Ev (fun k => laws_FnBer.j0 k x0 x1 false) true := by
  obtain ⟨tag, body, eP, _, _, hbody⟩ := drawPut_ok x0 h0
  have j1 := j1_ok x0 x1 h0 h1
  refine Ev.step (fun k => by rw [laws_FnBer.j0]) (Ev.congr (fun k => if_neg Bool.false_ne_true) ?_)
  refine Ev_bind eP (Ev_bind (Ev_some fun k => impl_put tag body) (Ev_bind (Ev_some fun k => spec_put1 tag body) ?_))
  refine Ev.congr (fun k => if_pos rfl) ?_
  rcases put_two tag body with he | ⟨he, htag, hb4, hne⟩
  · exact Ev.congr (fun k => if_pos he) j1
  · refine Ev.congr (fun k => if_neg hne) ?_
    rw [he]
    have hsz := put_size tag body
    have hl4 := hdr_len tag body.size
    have hl2 := hdr_len2 tag body.size
    have hs0 : (putT tag body).size ≤ 4004 := by omega
    have hs2 : 2 ≤ (putT tag body).size := by omega
    have g1 : Ev (fun k => impl_BerGet.f k (putT tag body ++ (⟨#[48]⟩ : ByteArray)) 0) (tag, body, ((putT tag body).size : Int), 0) := by
      have h := impl_getA (putT tag body ++ (⟨#[48]⟩ : ByteArray)) 0
      rw [getA_in (by rw [ByteArray.size_append]; show (putT tag body).size + 1 ≤ 8000; omega) (by omega), put_get tag body _ htag hb4] at h
      exact h
    obtain ⟨q, q0, q1, eq_⟩ := lwAt_ok x1 hb
    obtain ⟨r, hr⟩ : ∃ r, Int.tmod q ((putT tag body).size : Int) = r := ⟨_, rfl⟩
    have hr0 : 0 ≤ r ∧ r < ((putT tag body).size : Int) := by
      rw [← hr, Int.tmod_eq_emod_of_nonneg q0]
      exact ⟨Int.emod_nonneg _ (by omega), Int.emod_lt_of_pos _ (by omega)⟩
    have g2 : Ev (fun k => impl_BerGet.f k ((putT tag body).extract 0 r.toNat) 0) (0, ⟨#[]⟩, 0, 4) := by
      have h := impl_getA ((putT tag body).extract 0 r.toNat) 0
      rw [getA_in (by rw [ByteArray.size_extract]; omega) (by omega), put_cut tag body htag hb4 r.toNat (by omega)] at h
      exact h
    have all2 := fun h => berAll_twice tag body htag hb4 h
    generalize putT tag body = t at *
    refine Ev.congr (fun k => if_pos (by omega)) (Ev_bind g1 (Ev_bind (Ev_some fun k => eq_) ?_))
    refine Ev.congr (fun k => by rw [if_neg (show ¬ (t.size : Int) = 0 by omega), if_neg (show ¬ ((!(tag == tag) || (!(body.toList == body.toList))) || (!((t.size : Int) == (t.size : Int)) || (!((0 : Int) == 0)))) = true by rw [same4]; exact Bool.false_ne_true), hr, if_pos hr0.1, if_pos (show r ≤ (t.size : Int) by omega)]) ?_
    refine Ev_bind g2 (Ev.congr (fun k => if_pos rfl) ?_)
    by_cases h4 : (t.size : Int) ≤ 4000
    · refine Ev.congr (fun k => by rw [if_pos h4, if_pos (by omega)]) ?_
      refine Ev_bind (all2 (by omega)) (Ev_bind (tlvs_same [⟨tag, body⟩, ⟨tag, body⟩] (by show 2 ≤ 9223372036854775807; omega)) ?_)
      exact Ev.congr (fun k => if_pos rfl) j1
    · exact Ev.congr (fun k => if_neg h4) j1
theorem u8_in {x : Int} (h : Ft.fit5 x) : 0 ≤ x ∧ x < 256 := by
  have h2 : (Lit.int .u8 x).wf = true := h
  simp only [Lit.wf, Bool.and_eq_true, decide_eq_true_eq] at h2
  have e1 : IntKind.u8.min = 0 := by decide
  have e2 : IntKind.u8.max = 255 := by decide
  rw [e1, e2] at h2
  omega
theorem FnBer (x0 : List Int) (x1 : List Int) (w0 : Ft.fit22 x0) (w1 : Ft.fit22 x1) : ∃ k, PG.laws_FnBer.f k x0 x1 = some true := by
  refine Ev.rounds (g := fun k => laws_FnBer.f k x0 x1) ?_
  unfold laws_FnBer.f
  have big : Ev (fun k => laws_FnBer.j0 k x0 x1 true) true := Ev_one fun k => by rw [laws_FnBer.j0, if_pos rfl]
  by_cases h0 : (x0.length : Int) > 1048576
  · exact Ev.congr (fun k => if_pos h0) big
  · refine Ev.congr (fun k => if_neg h0) ?_
    by_cases h1 : (x1.length : Int) > 1048576
    · rw [decide_eq_true h1]
      exact big
    · rw [decide_eq_false h1]
      exact j0_ok x0 x1 (by omega) (by omega) (fun x hx => u8_in (w1.2 x hx))
end Go.Proofs.Ytfikhgiiccbbfaa.Pure
