/-
  The other draws of chapter 10 are total: a text spoilt, any number, things and numbers. Plain Lean over the printed functions.
-/
import Derived.Test.YtfikhgiiccbbfaaFBP3
import Derived.Test.YtfikhgiiccbbfaaFBP4
import Derived.Test.YtfikhgiiccbbfaaFBDrawE
import Derived.Test.YtfikhgiiccbbfaaFBBerV
namespace Go.Proofs.Ytfikhgiiccbbfaa.PG
set_option linter.unusedVariables false
set_option linter.unusedSimpArgs false
open Go.RowKit Go.Proofs.YtfikhgiiccbbfaaW.PrintWords Go.Proofs.YtfikhgiiccbbfaaW.PrintLast Go.Proofs.YtfikhgiiccbbfaaW.PrintMore Go.Proofs.Ytfikhgiiccbbfaa.Gn

theorem spoil_j (b : List Int) (t c : ByteArray) (r : Int) (q : Bool) (a x s : Int) (hb : b.length ≤ 1000000000) (ha : 0 ≤ a) (ha2 : a ≤ b.length) (ht : t.size ≤ 1000000000) (hc : c.size ≤ 1) (h0 : 0 ≤ r) (h1 : r ≤ t.size) (h2 : q = false → r < t.size) :
    ∃ o a' x', Ev (fun k => spec_l01Src_spoil.j0 k t r c q b a x s) (o, a', x', s) ∧ o.size ≤ t.size + 1 ∧ 0 ≤ a' ∧ a' ≤ b.length := by
  have s1 : (t.extract 0 r.toNat).size = r.toNat := by rw [ByteArray.size_extract]; omega
  have s2 : (t.extract r.toNat t.size).size = t.size - r.toNat := by rw [ByteArray.size_extract]; omega
  cases q with
  | true =>
    refine ⟨_, a, x, Ev_one fun k => by rw [spec_l01Src_spoil.j0, if_pos rfl, if_pos h0, if_pos h1, if_pos (by omega), if_pos (by rw [ByteArray.size_append]; omega)], ?_, ha, ha2⟩
    rw [ByteArray.size_append, ByteArray.size_append]
    omega
  | false =>
    have h3 := h2 rfl
    obtain ⟨q2, a1, x1, e1, p1, p2⟩ := one_ok b a x s 2 hb ha ha2 (by omega)
    have s3 : (t.extract (r + 1).toNat t.size).size = t.size - (r + 1).toNat := by rw [ByteArray.size_extract]; omega
    cases q2 with
    | true =>
      refine ⟨_, a1, x1, Ev_one fun k => by rw [spec_l01Src_spoil.j0, if_neg Bool.false_ne_true, e1]; simp only [Option.bind_some, if_true]; rw [if_pos h0, if_pos h1, show wrap64 (r + 1) = r + 1 from w_id (by omega) (by omega), if_pos (by omega), if_pos (by omega), if_pos (by omega)], ?_, p1, p2⟩
      rw [ByteArray.size_append]
      omega
    | false =>
      refine ⟨_, a1, x1, Ev_one fun k => by rw [spec_l01Src_spoil.j0, if_neg Bool.false_ne_true, e1]; simp only [Option.bind_some, if_false, Bool.false_eq_true]; rw [if_pos h0, if_pos h1, if_pos (by omega), show wrap64 (r + 1) = r + 1 from w_id (by omega) (by omega), if_pos (by omega), if_pos (by omega), if_pos (by rw [ByteArray.size_append]; omega)], ?_, p1, p2⟩
      rw [ByteArray.size_append, ByteArray.size_append]
      omega
theorem spoil_ok (b : List Int) (a x s : Int) (t : ByteArray) (hb : b.length ≤ 1000000000) (ha : 0 ≤ a) (ha2 : a ≤ b.length) (ht : t.size ≤ 1000000000) :
    ∃ o a' x', Ev (fun k => spec_l01Src_spoil.f k b a x s t) (o, a', x', s) ∧ o.size ≤ t.size + 1 ∧ 0 ≤ a' ∧ a' ≤ b.length := by
  obtain ⟨r, a1, x1, e1, r0, r1, p1, p2⟩ := n_ok b a x s ((t.size : Int) + 1) hb ha ha2 (by omega)
  have hr := r1 (by omega)
  obtain ⟨r', a2, x2, e2, q0, q1, p3, p4⟩ := n_ok b a1 x1 s 17 hb p1 p2 (by omega)
  have hq := q1 (by omega)
  have hc : ∀ v : Int, (strOfNums [v]).size ≤ 1 := fun v => Nat.le_refl _
  by_cases he : r = (t.size : Int)
  · obtain ⟨o, a3, x3, e3, ho, p5⟩ := spoil_j b t (strOfNums [bt (⟨#[32, 10, 48, 97, 45, 110, 44, 58, 93, 255, 40, 120, 126, 49, 128, 225, 59]⟩ : ByteArray) r']) r true a2 x2 s hb p3 p4 ht (hc _) r0 (by omega) (fun h => absurd h (by decide))
    refine ⟨o, a3, x3, ?_, ho, p5⟩
    unfold spec_l01Src_spoil.f
    rw [show wrap64 ((t.size : Int) + 1) = (t.size : Int) + 1 from w_id (by omega) (by omega)]
    refine Ev_bind (Ev_some fun k => e1) (Ev_bind (Ev_some fun k => e2) ?_)
    refine Ev.congr (fun k => by rw [if_pos q0, if_pos (show r' < 17 from hq)]) ?_
    refine Ev_bind (Ev.now _) ?_
    exact Ev.congr (fun k => if_pos he) e3
  · obtain ⟨q3, a3, x3, e3, p5, p6⟩ := one_ok b a2 x2 s 3 hb p3 p4 (by omega)
    obtain ⟨o, a4, x4, e4, ho, p7⟩ := spoil_j b t (strOfNums [bt (⟨#[32, 10, 48, 97, 45, 110, 44, 58, 93, 255, 40, 120, 126, 49, 128, 225, 59]⟩ : ByteArray) r']) r q3 a3 x3 s hb p5 p6 ht (hc _) r0 (by omega) (fun h => by omega)
    refine ⟨o, a4, x4, ?_, ho, p7⟩
    unfold spec_l01Src_spoil.f
    rw [show wrap64 ((t.size : Int) + 1) = (t.size : Int) + 1 from w_id (by omega) (by omega)]
    refine Ev_bind (Ev_some fun k => e1) (Ev_bind (Ev_some fun k => e2) ?_)
    refine Ev.congr (fun k => by rw [if_pos q0, if_pos (show r' < 17 from hq)]) ?_
    refine Ev_bind (Ev.now _) ?_
    refine Ev.congr (fun k => if_neg he) ?_
    exact Ev_bind (Ev_some fun k => e3) e4
theorem any_ok (b : List Int) (a x s : Int) (hb : b.length ≤ 1000000000) (ha : 0 ≤ a) (ha2 : a ≤ b.length) :
    ∃ r a' x', spec_l01Src_l01Any.f b a x s = some (r, a', x', s) ∧ -9223372036854775808 ≤ r ∧ r ≤ 9223372036854775807 ∧ 0 ≤ a' ∧ a' ≤ b.length := by
  obtain ⟨q, a1, x1, e1, p1, p2⟩ := one_ok b a x s 4 hb ha ha2 (by omega)
  unfold spec_l01Src_l01Any.f
  rw [e1]
  simp only [Option.bind_some]
  cases q with
  | true =>
    obtain ⟨r, a2, x2, e2, h1, h2, p3, p4⟩ := edge_ok b a1 x1 s hb p1 p2
    rw [if_pos rfl, e2]
    exact ⟨r, a2, x2, rfl, h1, h2, p3, p4⟩
  | false =>
    obtain ⟨r, a2, x2, e2, r0, r1, p3, p4⟩ := n_ok b a1 x1 s 1099511627776 hb p1 p2 (by omega)
    have hr := r1 (by omega)
    rw [if_neg Bool.false_ne_true, e2]
    have h1 : -9223372036854775808 ≤ r - 1048576 ∧ r - 1048576 ≤ 9223372036854775807 := by omega
    have hw : wrap64 (r - 1048576) = r - 1048576 := w_id h1.1 h1.2
    exact ⟨_, a2, x2, rfl, by rw [hw]; exact h1.1, by rw [hw]; exact h1.2, p3, p4⟩
theorem num_ok (b : List Int) (a x s : Int) (hb : b.length ≤ 1000000000) (ha : 0 ≤ a) (ha2 : a ≤ b.length) :
    ∃ r a' x', spec_l01Src_l09Num.f b a x s = some (r, a', x', s) ∧ -9223372036854775808 ≤ r ∧ r ≤ 9223372036854775807 ∧ 0 ≤ a' ∧ a' ≤ b.length := by
  obtain ⟨q, a1, x1, e1, p1, p2⟩ := one_ok b a x s 2 hb ha ha2 (by omega)
  unfold spec_l01Src_l09Num.f
  rw [e1]
  simp only [Option.bind_some]
  cases q with
  | true =>
    obtain ⟨r, a2, x2, e2, r0, r1, p3, p4⟩ := n_ok b a1 x1 s 15 hb p1 p2 (by omega)
    have hr := r1 (by omega)
    rw [if_pos rfl, e2]
    simp only [Option.bind_some]
    have hbd : ∀ y, y ∈ ([0, 1, (-1), 127, 128, (-128), (-129), 255, 256, 32767, 32768, (-32768), (-32769), 9223372036854775807, (-9223372036854775808)] : List Int) → (-9223372036854775808 : Int) ≤ y ∧ y ≤ 9223372036854775807 := by decide
    have h := rd_bounds hbd r0 (show r < (([0, 1, (-1), 127, 128, (-128), (-129), 255, 256, 32767, 32768, (-32768), (-32769), 9223372036854775807, (-9223372036854775808)] : List Int).length : Int) from hr)
    rw [if_pos r0, if_pos (show r < (([0, 1, (-1), 127, 128, (-128), (-129), 255, 256, 32767, 32768, (-32768), (-32769), 9223372036854775807, (-9223372036854775808)] : List Int).length : Int) from hr)]
    exact ⟨_, a2, x2, rfl, h.1, h.2, p3, p4⟩
  | false =>
    obtain ⟨r, a2, x2, e2, h1, h2, p3, p4⟩ := any_ok b a1 x1 s hb p1 p2
    rw [if_neg Bool.false_ne_true, e2]
    exact ⟨r, a2, x2, rfl, h1, h2, p3, p4⟩
theorem drawPut_ok (l : List Int) (hl : l.length ≤ 1000000000) : ∃ t o, Ev (fun k => spec_DrawBerPut.f k l) (t, o) ∧ -1 ≤ t ∧ t ≤ 256 ∧ o.size ≤ 1000000 := by
  obtain ⟨x, s, e0⟩ := source_ok l hl
  obtain ⟨r, a1, x1, e1, r0, r1, p1, p2⟩ := n_ok l 0 x s 14 hl (by omega) (by omega) (by omega)
  have hr := r1 (by omega)
  obtain ⟨o, a2, x2, e2, ho, _⟩ := some_ok l a1 x1 s hl p1 p2
  have hbd : ∀ y, y ∈ ([2, 3, 4, 6, 12, 48, 49, 160, 163, 31, 255, (-1), 256, 0] : List Int) → (-1 : Int) ≤ y ∧ y ≤ 256 := by decide
  have hi : r < (([2, 3, 4, 6, 12, 48, 49, 160, 163, 31, 255, (-1), 256, 0] : List Int).length : Int) := hr
  have h := rd_bounds hbd r0 hi
  refine ⟨rd [2, 3, 4, 6, 12, 48, 49, 160, 163, 31, 255, (-1), 256, 0] r, o, ?_, h.1, h.2, ho⟩
  unfold spec_DrawBerPut.f
  refine Ev_bind e0 (Ev_bind (Ev.now _) (Ev_bind (Ev_some fun k => e1) ?_))
  refine Ev.congr (fun k => by rw [if_pos r0, if_pos hi]) ?_
  exact Ev_bind e2 (Ev.now _)
theorem drawInt_ok (l : List Int) (hl : l.length ≤ 1000000000) : ∃ t n, Ev (fun k => spec_DrawBerInt.f k l) (t, n) ∧ -9223372036854775808 ≤ n ∧ n ≤ 9223372036854775807 := by
  obtain ⟨x, s, e0⟩ := source_ok l hl
  obtain ⟨r, a1, x1, e1, r0, r1, p1, p2⟩ := n_ok l 0 x s 6 hl (by omega) (by omega) (by omega)
  have hr := r1 (by omega)
  obtain ⟨o, a2, x2, e2, h1, h2, _⟩ := num_ok l a1 x1 s hl p1 p2
  have hi : r < (([2, 10, 31, (-1), 256, 0] : List Int).length : Int) := hr
  refine ⟨rd [2, 10, 31, (-1), 256, 0] r, o, ?_, h1, h2⟩
  unfold spec_DrawBerInt.f
  refine Ev_bind e0 (Ev_bind (Ev.now _) (Ev_bind (Ev_some fun k => e1) ?_))
  refine Ev.congr (fun k => by rw [if_pos r0, if_pos hi]) ?_
  exact Ev_bind (Ev_some fun k => e2) (Ev.now _)
theorem putV_small (a : Int) (b : ByteArray) : (putV a b).size ≤ 4004 := by
  unfold putV
  split
  · split
    · exact Nat.zero_le _
    · rw [put_size]
      have := hdr_len a b.size
      omega
  · exact Nat.zero_le _
set_option maxHeartbeats 4000000 in
theorem drawGet_ok (l : List Int) (hl : l.length ≤ 1000000000) : ∃ o n, Ev (fun k => spec_DrawBerGet.f k l) (o, n) ∧ o.size ≤ 4000000 := by
  obtain ⟨x, s, e0⟩ := source_ok l hl
  obtain ⟨r, a1, x1, e1, r0, r1, p1, p2⟩ := n_ok l 0 x s 2 hl (by omega) (by omega) (by omega)
  have hr := r1 (by omega)
  obtain ⟨hd, a2, x2, e2, s2, p3, p4⟩ := bytes_ok l r (by omega) s hl r.toNat 0 [] a1 x1 (by omega) (by omega) (by simp) p1 p2 (by omega)
  obtain ⟨bo, a3, x3, e3, s3, p5, p6⟩ := some_ok l a2 x2 s hl p3 p4
  have e4 := spec_put1 48 bo
  have s4 := putV_small 48 bo
  generalize putV 48 bo = pt at e4 s4
  obtain ⟨r', a4, x4, e5, q0, q1, p7, p8⟩ := n_ok l a3 x3 s 2 hl p5 p6 (by omega)
  have hq := q1 (by omega)
  obtain ⟨tl, a5, x5, e6, s6, p9, p10⟩ := bytes_ok l r' (by omega) s hl r'.toNat 0 [] a4 x4 (by omega) (by omega) (by simp) p7 p8 (by omega)
  obtain ⟨c, a6, x6, e7, _, _, p11, p12⟩ := n_ok l a5 x5 s 5 hl p9 p10 (by omega)
  have hsz : ((hd ++ pt) ++ tl).size ≤ 2004004 := by rw [ByteArray.size_append, ByteArray.size_append]; omega
  have hs1 : hd.size + pt.size ≤ 9223372036854775807 := by omega
  have hs2 : (hd ++ pt).size + tl.size ≤ 9223372036854775807 := by rw [ByteArray.size_append]; omega
  have fin : ∀ (t : ByteArray) (a x : Int), t.size ≤ 4000000 → 0 ≤ a → a ≤ l.length → ∃ o n, Ev (fun k => spec_DrawBerGet.j0 k hd t l a x s) (o, n) ∧ o.size ≤ 4000000 := by
    intro t a x ht ha ha2
    obtain ⟨q, a1, x1, e1, p1, p2⟩ := one_ok l a x s 12 hl ha ha2 (by omega)
    cases q with
    | true =>
      obtain ⟨r, a2, x2, e2, _⟩ := edge_ok l a1 x1 s hl p1 p2
      exact ⟨t, r, Ev_one fun k => by rw [spec_DrawBerGet.j0, e1]; simp only [Option.bind_some, if_true]; rw [e2]; rfl, ht⟩
    | false => exact ⟨t, hd.size, Ev_one fun k => by rw [spec_DrawBerGet.j0, e1]; simp only [Option.bind_some, if_false, Bool.false_eq_true], ht⟩
  unfold spec_DrawBerGet.f
  have wrap : ∀ {o : ByteArray} {n : Int} {g : Nat → Option (ByteArray × Int)}, Ev g (o, n) → o.size ≤ 4000000 → (∀ k, g k = (fun k => (if c = 0 then ((spec_l01Src_spoil.f k l a6 x6 s ((hd ++ pt) ++ tl)).bind fun bt282 => (spec_DrawBerGet.j0 k hd bt282.1 l bt282.2.1 bt282.2.2.1 bt282.2.2.2)) else (if c = 1 then ((spec_l01Src_n.f l a6 x6 s (wrap64 ((((hd ++ pt) ++ tl).size : Int) + 1))).bind fun bt286 => (if 0 ≤ bt286.1 then (if bt286.1 ≤ (((hd ++ pt) ++ tl).size : Int) then (spec_DrawBerGet.j0 k hd (((hd ++ pt) ++ tl).extract 0 (bt286.1 : Int).toNat) l bt286.2.1 bt286.2.2.1 bt286.2.2.2) else (none)) else (none))) else (if c = 2 then ((spec_l01Src_pick.f l a6 x6 s (([(⟨#[48, 129, 5, 97, 98, 99, 100, 101]⟩ : ByteArray), (⟨#[48, 130, 0, 144]⟩ : ByteArray), (⟨#[48, 128]⟩ : ByteArray), (⟨#[48, 131, 0, 0, 1]⟩ : ByteArray), (⟨#[31, 1, 97]⟩ : ByteArray), (⟨#[48]⟩ : ByteArray), (⟨#[48, 130, 15, 161]⟩ : ByteArray)] : List ByteArray))).bind fun bt293 => (if hd.size + bt293.1.size ≤ 9223372036854775807 then (spec_DrawBerGet.j0 k hd (hd ++ bt293.1) l bt293.2.1 bt293.2.2.1 bt293.2.2.2) else (none))) else (spec_DrawBerGet.j0 k hd ((hd ++ pt) ++ tl) l a6 x6 s))) : Option (ByteArray × Int))) k) →
      ∃ o n, Ev (fun k => spec_DrawBerGet.f k l) (o, n) ∧ o.size ≤ 4000000 := by
    intro o n g hg ho hk
    refine ⟨o, n, ?_, ho⟩
    unfold spec_DrawBerGet.f
    refine Ev_bind e0 (Ev_bind (Ev_some fun k => e1) (Ev_bind (show Ev (fun k => spec_l01Src_bytes.f k l a1 x1 s r) _ from e2) (Ev_bind e3 (Ev_bind (Ev_some fun k => e4) ?_))))
    refine Ev.congr (fun k => if_pos hs1) ?_
    refine Ev_bind (Ev_some fun k => e5) (Ev_bind (show Ev (fun k => spec_l01Src_bytes.f k l a4 x4 s r') _ from e6) ?_)
    refine Ev.congr (fun k => if_pos hs2) ?_
    refine Ev_bind (Ev_some fun k => e7) ?_
    exact Ev.congr (fun k => (hk k).symm) hg
  unfold spec_DrawBerGet.f at wrap
  by_cases hc0 : c = 0
  · obtain ⟨o, a7, x7, e8, ho, p13, p14⟩ := spoil_ok l a6 x6 s ((hd ++ pt) ++ tl) hl p11 p12 (by omega)
    obtain ⟨o2, n2, e9, ho2⟩ := fin o a7 x7 (by omega) p13 p14
    exact wrap (g := fun k => (spec_l01Src_spoil.f k l a6 x6 s ((hd ++ pt) ++ tl)).bind fun bt282 => (spec_DrawBerGet.j0 k hd bt282.1 l bt282.2.1 bt282.2.2.1 bt282.2.2.2)) (Ev_bind e8 e9) ho2 (fun k => (if_pos hc0).symm)
  by_cases hc1 : c = 1
  · obtain ⟨m, a7, x7, e8, m0, m1, p13, p14⟩ := n_ok l a6 x6 s ((((hd ++ pt) ++ tl).size : Int) + 1) hl p11 p12 (by omega)
    have hm := m1 (by omega)
    have hm2 : m ≤ (((hd ++ pt) ++ tl).size : Int) := by omega
    obtain ⟨o2, n2, e9, ho2⟩ := fin (((hd ++ pt) ++ tl).extract 0 m.toNat) a7 x7 (by rw [ByteArray.size_extract]; omega) p13 p14
    have hw : wrap64 ((((hd ++ pt) ++ tl).size : Int) + 1) = (((hd ++ pt) ++ tl).size : Int) + 1 := w_id (by omega) (by omega)
    exact wrap e9 ho2 (fun k => by
      show _ = ite _ _ _
      rw [if_neg hc0, if_pos hc1, hw, e8]
      simp only [Option.bind_some]
      rw [if_pos m0, if_pos hm2])
  by_cases hc2 : c = 2
  · obtain ⟨o, a7, x7, e8, ho, p13, p14⟩ := pick_ok l a6 x6 s ([(⟨#[48, 129, 5, 97, 98, 99, 100, 101]⟩ : ByteArray), (⟨#[48, 130, 0, 144]⟩ : ByteArray), (⟨#[48, 128]⟩ : ByteArray), (⟨#[48, 131, 0, 0, 1]⟩ : ByteArray), (⟨#[31, 1, 97]⟩ : ByteArray), (⟨#[48]⟩ : ByteArray), (⟨#[48, 130, 15, 161]⟩ : ByteArray)] : List ByteArray) (by decide) (by decide) hl p11 p12
    have ho9 : o.size ≤ 9 := by
      have : ∀ y, y ∈ ([(⟨#[48, 129, 5, 97, 98, 99, 100, 101]⟩ : ByteArray), (⟨#[48, 130, 0, 144]⟩ : ByteArray), (⟨#[48, 128]⟩ : ByteArray), (⟨#[48, 131, 0, 0, 1]⟩ : ByteArray), (⟨#[31, 1, 97]⟩ : ByteArray), (⟨#[48]⟩ : ByteArray), (⟨#[48, 130, 15, 161]⟩ : ByteArray)] : List ByteArray) → y.size ≤ 9 := by
        intro y hy
        simp only [List.mem_cons, List.not_mem_nil, or_false] at hy
        rcases hy with rfl | rfl | rfl | rfl | rfl | rfl | rfl <;> decide
      exact this o ho
    obtain ⟨o2, n2, e9, ho2⟩ := fin (hd ++ o) a7 x7 (by rw [ByteArray.size_append]; omega) p13 p14
    exact wrap e9 ho2 (fun k => by
      show _ = ite _ _ _
      rw [if_neg hc0, if_neg hc1, if_pos hc2, e8]
      simp only [Option.bind_some]
      rw [if_pos (by omega)])
  · obtain ⟨o2, n2, e9, ho2⟩ := fin ((hd ++ pt) ++ tl) a6 x6 (by omega) p11 p12
    exact wrap e9 ho2 (fun k => by
      show _ = ite _ _ _
      rw [if_neg hc0, if_neg hc1, if_neg hc2])
end Go.Proofs.Ytfikhgiiccbbfaa.PG
