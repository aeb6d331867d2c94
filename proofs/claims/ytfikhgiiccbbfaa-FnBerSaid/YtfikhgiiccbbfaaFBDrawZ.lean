/-
  The other draws of chapter 10 are total: a text spoilt, any number, things and numbers. Plain Lean over the printed functions.
-/
import Derived.Test.YtfikhgiiccbbfaaFBP3
import Derived.Test.YtfikhgiiccbbfaaFBP4
import Derived.Test.YtfikhgiiccbbfaaFBDrawY
namespace Go.Proofs.Ytfikhgiiccbbfaa.PG
set_option linter.unusedVariables false
set_option linter.unusedSimpArgs false
open Go.RowKit Go.Proofs.YtfikhgiiccbbfaaW.PrintWords Go.Proofs.YtfikhgiiccbbfaaW.PrintLast Go.Proofs.YtfikhgiiccbbfaaW.PrintMore Go.Proofs.Ytfikhgiiccbbfaa.Gn

theorem all_fin (l : List Int) (s : Int) (hl : l.length ≤ 1000000000) (t : ByteArray) (a x : Int) (ht : t.size ≤ 50000) (ha : 0 ≤ a) (ha2 : a ≤ l.length) : ∃ o, Ev (fun k => spec_DrawBerAll.j2 k t l a x s) o ∧ o.size ≤ 100000 := by
  obtain ⟨q, a1, x1, e1, p1, p2⟩ := one_ok l a x s 4 hl ha ha2 (by omega)
  cases q with
  | true =>
    obtain ⟨o, a2, x2, e2, ho, _⟩ := spoil_ok l a1 x1 s t hl p1 p2 (by omega)
    exact ⟨o, Ev.step (fun k => by rw [spec_DrawBerAll.j2]) (Ev_bind (Ev_some fun k => e1) (Ev.congr (fun k => if_pos rfl) (Ev_bind e2 (Ev.now _)))), by omega⟩
  | false => exact ⟨t, Ev.step (fun k => by rw [spec_DrawBerAll.j2]) (Ev_bind (Ev_some fun k => e1) (Ev.congr (fun k => if_neg Bool.false_ne_true) (Ev.now _))), by omega⟩
theorem c_pred {c : Int} {m : Nat} (h : c > 0) (h2 : c ≤ (m + 1 : Nat)) (h3 : m ≤ 1000) : wrap64 (c - 1) = c - 1 ∧ c - 1 ≤ (m : Nat) ∧ -10 ≤ c - 1 := ⟨w_id (by omega) (by omega), by omega, by omega⟩
theorem two_more (t : ByteArray) : (t ++ (⟨#[5, 0]⟩ : ByteArray)).size = t.size + 2 := by rw [ByteArray.size_append]; rfl
theorem all_mid (l : List Int) (s : Int) (hl : l.length ≤ 1000000000) : ∀ (m : Nat) (t : ByteArray) (c : Int) (a x : Int), m ≤ 1000 → c ≤ m → t.size + 2 * m ≤ 50000 → -10 ≤ c → 0 ≤ a → a ≤ l.length → ∃ o, Ev (fun k => spec_DrawBerAll.l1 k t c l a x s) o ∧ o.size ≤ 100000 := by
  intro m
  induction m with
  | zero =>
    intro t c a x hm hc ht hc2 ha ha2
    obtain ⟨o, e, h⟩ := all_fin l s hl t a x (by omega) ha ha2
    exact ⟨o, Ev.step (fun k => by rw [spec_DrawBerAll.l1, if_neg (by omega)]) e, h⟩
  | succ m ih =>
    intro t c a x hm hc ht hc2 ha ha2
    by_cases h : c > 0
    · obtain ⟨w1, w2, w3⟩ := c_pred h hc (by omega)
      have h2 := two_more t
      have h3 : (t ++ (⟨#[5, 0]⟩ : ByteArray)).size + 2 * m ≤ 50000 := by clear w1; omega
      have h4 : t.size + 2 ≤ 9223372036854775807 := by clear w1; omega
      have h5 : m ≤ 1000 := by clear w1; omega
      obtain ⟨o, e, h6⟩ := ih (t ++ (⟨#[5, 0]⟩ : ByteArray)) (c - 1) a x h5 w2 h3 w3 ha ha2
      exact ⟨o, Ev.step (fun k => by rw [spec_DrawBerAll.l1, if_pos h, if_pos h4, w1]) e, h6⟩
    · obtain ⟨o, e, h3⟩ := all_fin l s hl t a x (by omega) ha ha2
      exact ⟨o, Ev.step (fun k => by rw [spec_DrawBerAll.l1, if_neg h]) e, h3⟩
theorem all_last (l : List Int) (s : Int) (hl : l.length ≤ 1000000000) (t : ByteArray) (c : Int) (a x : Int) (hc : ¬ c > 0) (ht : t.size ≤ 30000) (ha : 0 ≤ a) (ha2 : a ≤ l.length) : ∃ o, Ev (fun k => spec_DrawBerAll.l0 k t c l a x s) o ∧ o.size ≤ 100000 := by
  obtain ⟨q, a1, x1, e1, p1, p2⟩ := one_ok l a x s 15 hl ha ha2 (by omega)
  cases q with
  | true =>
    obtain ⟨r, a2, x2, e2, r0, r1, p3, p4⟩ := n_ok l a1 x1 s 4 hl p1 p2 (by omega)
    have hr := r1 (by omega)
    obtain ⟨o, e, h⟩ := all_mid l s hl 62 t (58 + r) a2 x2 (by omega) (by omega) (by omega) (by omega) p3 p4
    have hw : wrap64 (58 + r) = 58 + r := w_id (by omega) (by omega)
    exact ⟨o, Ev.step (fun k => by rw [spec_DrawBerAll.l0, if_neg hc]) (Ev_bind (Ev_some fun k => e1) (Ev.congr (fun k => if_pos rfl) (Ev_bind (Ev_some fun k => e2) (Ev.congr (fun k => by rw [hw]) e)))), h⟩
  | false =>
    obtain ⟨o, e, h⟩ := all_fin l s hl t a1 x1 (by omega) p1 p2
    exact ⟨o, Ev.step (fun k => by rw [spec_DrawBerAll.l0, if_neg hc]) (Ev_bind (Ev_some fun k => e1) (Ev.congr (fun k => if_neg Bool.false_ne_true) e)), h⟩
theorem all_fst (l : List Int) (s : Int) (hl : l.length ≤ 1000000000) : ∀ (m : Nat) (t : ByteArray) (c : Int) (a x : Int), m ≤ 1000 → c ≤ m → t.size + 4004 * m ≤ 30000 → -10 ≤ c → 0 ≤ a → a ≤ l.length → ∃ o, Ev (fun k => spec_DrawBerAll.l0 k t c l a x s) o ∧ o.size ≤ 100000 := by
  intro m
  induction m with
  | zero =>
    intro t c a x hm hc ht hc2 ha ha2
    exact all_last l s hl t c a x (by omega) (by omega) ha ha2
  | succ m ih =>
    intro t c a x hm hc ht hc2 ha ha2
    by_cases h : c > 0
    · obtain ⟨r, a1, x1, e1, r0, r1, p1, p2⟩ := n_ok l a x s 3 hl ha ha2 (by omega)
      have hr := r1 (by omega)
      obtain ⟨r', a2, x2, e2, q0, q1, p3, p4⟩ := n_ok l a1 x1 s 4 hl p1 p2 (by omega)
      have hq := q1 (by omega)
      obtain ⟨tl, a3, x3, e3, s3, p5, p6⟩ := bytes_ok l r' (by omega) s hl r'.toNat 0 [] a2 x2 (by omega) (by omega) (by simp) p3 p4 (by omega)
      have hi : r < (([2, 4, 48] : List Int).length : Int) := hr
      generalize hL : ([2, 4, 48] : List Int) = L at hi
      have e4 := spec_put1 (rd L r) tl
      have s4 := putV_small (rd L r) tl
      generalize hV : putV (rd L r) tl = V at e4 s4
      have h2 : (t ++ V).size + 4004 * m ≤ 30000 := by rw [ByteArray.size_append]; omega
      have h4 : t.size + V.size ≤ 9223372036854775807 := by omega
      have h5 : m ≤ 1000 := by omega
      obtain ⟨w1, w2, w3⟩ := c_pred h hc h5
      obtain ⟨o, e, h3⟩ := ih (t ++ V) (c - 1) a3 x3 h5 w2 h2 w3 p5 p6
      refine ⟨o, Ev.step (fun k => by rw [spec_DrawBerAll.l0, if_pos h, hL]) ?_, h3⟩
      refine Ev_bind (Ev.now _) (Ev_bind (Ev_some fun k => e1) ?_)
      refine Ev.congr (fun k => by rw [if_pos r0, if_pos hi]) ?_
      refine Ev_bind (Ev_some fun k => e2) (Ev_bind (show Ev (fun k => spec_l01Src_bytes.f k l a2 x2 s r') _ from e3) (Ev_bind (Ev_some fun k => e4) ?_))
      exact Ev.congr (fun k => by rw [if_pos h4, w1]) e
    · exact all_last l s hl t c a x h (by omega) ha ha2
theorem drawAll_ok (l : List Int) (hl : l.length ≤ 1000000000) : ∃ o, Ev (fun k => spec_DrawBerAll.f k l) o ∧ o.size ≤ 100000 := by
  obtain ⟨x, s, e0⟩ := source_ok l hl
  obtain ⟨r, a1, x1, e1, r0, r1, p1, p2⟩ := n_ok l 0 x s 4 hl (by omega) (by omega) (by omega)
  have hr := r1 (by omega)
  obtain ⟨o, e, h⟩ := all_fst l s hl 4 ⟨#[]⟩ r a1 x1 (by omega) (by omega) (by show (0 : Nat) + 4004 * 4 ≤ 30000; omega) (by omega) p1 p2
  refine ⟨o, ?_, h⟩
  unfold spec_DrawBerAll.f
  exact Ev_bind e0 (Ev_bind (Ev_some fun k => e1) e)
theorem drawIntRead_ok (l : List Int) (hl : l.length ≤ 1000000000) : ∃ o, Ev (fun k => spec_DrawBerIntRead.f k l) o := by
  obtain ⟨x, s, e0⟩ := source_ok l hl
  obtain ⟨n, a1, x1, e1, n0, n1, p1, p2⟩ := num_ok l 0 x s hl (by omega) (by omega)
  obtain ⟨B, hB, _, hs, hs8⟩ := berInt_read n n0 n1
  obtain ⟨q, hq1, _, _, hq2, _⟩ := berInt_same 2 n n0 n1
  have hqB := Ev_eq hq1 hB
  rw [hqB, show putV 2 B = putT 2 B from by unfold putV; rw [if_pos (by decide), if_neg (by omega)]] at hq2
  have hsz : 2 ≤ ((putT 2 B).size : Int) := by have := hdr_len2 2 B.size; rw [put_size]; omega
  have hsz2 : ((putT 2 B).extract 2 (putT 2 B).size).size ≤ 20 := by rw [put_body 2 B hs8]; omega
  obtain ⟨c, a2, x2, e2, _, _, p3, p4⟩ := n_ok l a1 x1 s 4 hl p1 p2 (by omega)
  unfold spec_DrawBerIntRead.f
  have pre : ∀ {o : ByteArray}, Ev (fun k => (if c = 0 then ((spec_l01Src_spoil.f k l a2 x2 s ((putT 2 B).extract 2 (putT 2 B).size)).bind fun bt475 => (some bt475.1)) else (if c = 1 then ((spec_l01Src_pick.f l a2 x2 s (([(⟨#[]⟩ : ByteArray), (⟨#[0, 1]⟩ : ByteArray), (⟨#[255, 255]⟩ : ByteArray), (⟨#[0, 128]⟩ : ByteArray), (⟨#[255, 127]⟩ : ByteArray), (⟨#[0, 0, 0, 0, 0, 0, 0, 0, 1]⟩ : ByteArray)] : List ByteArray))).bind fun bt482 => (some bt482.1)) else (some ((putT 2 B).extract 2 (putT 2 B).size))) : Option ByteArray)) o → ∃ o, Ev (fun k => spec_DrawBerIntRead.f k l) o := by
    intro o ho
    refine ⟨o, ?_⟩
    unfold spec_DrawBerIntRead.f
    refine Ev_bind e0 (Ev_bind (Ev_some fun k => e1) (Ev_bind hq2 ?_))
    refine Ev.congr (fun k => if_pos hsz) ?_
    exact Ev_bind (Ev_some fun k => e2) ho
  unfold spec_DrawBerIntRead.f at pre
  by_cases hc0 : c = 0
  · obtain ⟨o, a7, x7, e8, _⟩ := spoil_ok l a2 x2 s ((putT 2 B).extract 2 (putT 2 B).size) hl p3 p4 (by omega)
    exact pre (Ev.congr (fun k => if_pos hc0) (Ev_bind e8 (Ev.now _)))
  by_cases hc1 : c = 1
  · obtain ⟨o, a7, x7, e8, _⟩ := pick_ok l a2 x2 s ([(⟨#[]⟩ : ByteArray), (⟨#[0, 1]⟩ : ByteArray), (⟨#[255, 255]⟩ : ByteArray), (⟨#[0, 128]⟩ : ByteArray), (⟨#[255, 127]⟩ : ByteArray), (⟨#[0, 0, 0, 0, 0, 0, 0, 0, 1]⟩ : ByteArray)] : List ByteArray) (by decide) (by decide) hl p3 p4
    exact pre (o := o) (Ev_some fun k => by rw [if_neg hc0, if_pos hc1, e8]; rfl)
  · exact pre (Ev_some fun k => by rw [if_neg hc0, if_neg hc1])
end Go.Proofs.Ytfikhgiiccbbfaa.PG
