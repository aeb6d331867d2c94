/-
 The two readings of a DN's text, the program's and the reference's: what they give, that both take the same texts, and that what both take reads the same. Condition: the text's bound.
-/
import Derived.Test.YtmkpgddfoaglpaaGreatDoorCTP3
import Derived.Test.YtmkpgddfoaglpaaGreatDoorCTP6
import Derived.Test.YtmkpgddfoaglpaaGreatDoorCTMarkAttr
import Derived.Test.YtmkpgddfoaglpaaGreatDoorCTDnText
import Derived.Test.YtmkpgddfoaglpaaGreatDoorCTEntry
set_option linter.unusedVariables false
set_option linter.unusedSimpArgs false
namespace Go.Proofs.YtmkpgddfoaglpaaGreatDoor.PG
open Go Go.RowKit Go.Proofs.YtmkpgddfoaglpaaGreatDoorW.PrintWords Go.Proofs.YtmkpgddfoaglpaaGreatDoor.Gn Go.Proofs.YtmkpgddfoaglpaaGreatDoor.Sem DnPure
def dnI (t : ByteArray) : List S151 := (readI (bl t)).map ofP
def dnS (t : ByteArray) : List S151 := (readS (bl t)).map ofP
def dnOk (t : ByteArray) : Bool := dnB (dnI t) && decide (txtB (dnI t) = t)
theorem map_to_of (l : List (List UInt8 × List UInt8)) : (l.map ofP).map toP = l := by
 rw [List.map_map, show (toP ∘ ofP) = id from funext to_of, List.map_id]
theorem name_chars {s : ByteArray} (h : nameB s = true) : NameL (bl s) := by
 intro c hc
 unfold nameB at h
 simp only [Bool.and_eq_true, decide_eq_true_eq, List.all_eq_true] at h
 have hc2 : c ∈ s.data := by rw [← Array.mem_toList_iff]; exact hc
 obtain ⟨j, hj, rfl⟩ := Array.mem_iff_getElem.1 hc2
 have h1 := h.2.2.2 j (by simpa using hj)
 rw [bt_byte s j hj] at h1
 have e : (s[j]'hj : UInt8) = s.data[j] := rfl
 rw [e] at h1
 generalize s.data[j] = c at h1
 refine ⟨?_, ?_, ?_⟩ <;> rintro rfl <;> revert h1 <;> decide
theorem dn_names (d : List (List UInt8 × List UInt8)) (h : dnB (d.map ofP) = true) : ∀ y ∈ d, NameL y.1 := by
 intro y hy
 unfold dnB at h
 simp only [Bool.and_eq_true, decide_eq_true_eq, List.all_eq_true] at h
 have := h.2 (ofP y) (List.mem_map_of_mem hy)
 unfold rdnB at this
 simp only [Bool.and_eq_true] at this
 have h2 := name_chars this.1
 rwa [show bl (ofP y).f0 = y.1 from bl_ofL _] at h2
theorem txtB_of (d : List (List UInt8 × List UInt8)) : txtB (d.map ofP) = ofL (txt escB d) := by unfold txtB; rw [map_to_of]
theorem txt_eq (d : List (List UInt8 × List UInt8)) (t : ByteArray) : decide (txtB (d.map ofP) = t) = decide (txt escB d = bl t) := by
 rw [txtB_of]
 congr 1
 rw [eq_iff_iff]
 constructor
 · intro h; rw [← h, bl_ofL]
 · intro h; rw [h, ofL_bl]
theorem dn_same (t : ByteArray) : dnOk t = (dnB (dnS t) && decide (txtB (dnS t) = t)) ∧ (dnOk t = true → dnI t = dnS t) := by
 have h := read_same escB_ok (fun d => dnB (d.map ofP)) dn_names (bl t)
 unfold dnOk dnI dnS
 rw [txt_eq, txt_eq]
 exact ⟨h.1, fun e => by rw [h.2 e]⟩
theorem dn_nil {t : ByteArray} (h : bl t = []) : dnI t = [] ∧ dnS t = [] ∧ dnOk t = true := by
 have e1 : dnI t = [] := by unfold dnI; rw [h]; rfl
 have e2 : dnS t = [] := by unfold dnS; rw [h]; rfl
 refine ⟨e1, e2, ?_⟩
 unfold dnOk
 rw [e1]
 have e3 : txtB [] = t := by
   apply bl_inj
   rw [h]
   rfl
 rw [e3]
 simp [dnB]
theorem rd_list (xs dn : List ByteArray) (a : ByteArray) (r : List ByteArray) (h : dn ++ a :: r = xs) : rdOf ByteArray.empty xs (dn.length : Int) = a := by
 unfold rdOf
 rw [Int.toNat_natCast, ← h]
 simp
theorem spec_dnText (d : List S151) (hl : d.length ≤ 9223372036854775807) : Ev (fun k => spec_DnText.f k d) (if dnB d = true then txtB d else ⟨#[]⟩) := by
 unfold spec_DnText.f
 by_cases h4 : (d.length : Int) > 400
 · have : dnB d = false := by
     unfold dnB
     rw [decide_eq_false (by omega)]
     rfl
   rw [this]
   exact Ev_some fun k => by rw [if_pos h4]; rfl
 · refine Ev.congr (fun k => if_neg h4) (Ev_bind (spec_dn d hl) ?_)
   cases hd : dnB d with
   | true => exact Ev.congr (fun k => if_pos rfl) (Ev_bind (spec_text d hd) (Ev.now _))
   | false => exact Ev_some fun k => by rw [if_neg (by decide)]; rfl
theorem read_loop (t : ByteArray) (ht : t.size ≤ 8000000) (hne : bl t ≠ []) (xs : List ByteArray) (hxs : xs.length ≤ 8000001) : ∀ (r dn : List ByteArray) (acc : List S151), dn ++ r = xs → acc.length = dn.length → (∀ x, x ∈ r → x.size ≤ 8000000) →
   Ev (fun k => spec_l02Read.l0 k t acc xs (dn.length : Int)) (acc ++ r.map (fun x => ofP (rdnS (bl x))), dnB (acc ++ r.map (fun x => ofP (rdnS (bl x)))) && decide (txtB (acc ++ r.map (fun x => ofP (rdnS (bl x)))) = t))
 | [], dn, acc, h, hacc, hsz => by
   rw [List.append_nil] at h
   refine Ev.step (fun k => by rw [spec_l02Read.l0, if_neg (by rw [h]; omega)]) ?_
   refine Ev_bind (spec_dnText acc (by rw [hacc, h]; omega)) ?_
   rw [List.map_nil, List.append_nil]
   refine Ev_some fun k => ?_
   congr 1
   refine Prod.ext rfl ?_
   cases hd : dnB acc with
   | true =>
     rw [if_pos rfl, Bool.true_and, Bool.eq_iff_iff, beq_iff_eq, decide_eq_true_eq, bl_toList, bl_toList]
     exact ⟨bl_inj, fun e => by rw [e]⟩
   | false =>
     rw [if_neg (by decide), Bool.false_and, beq_eq_false_iff_ne, bl_toList t]
     exact fun e => hne (e.symm.trans (ByteArray.toList_eq _))
 | a :: r, dn, acc, h, hacc, hsz => by
   have hlen : xs.length = dn.length + (r.length + 1) := by rw [← h]; simp
   have ew : wrap64 ((dn.length : Int) + 1) = ((dn ++ [a]).length : Int) := by rw [w_id (by omega) (by omega)]; simp
   refine Ev.step (fun k => by rw [spec_l02Read.l0, if_pos (by omega), if_pos (by omega), rd_list xs dn a r h, ew]) ?_
   refine Ev_bind (spec_rdn a (hsz a (by simp))) ?_
   refine Ev.congr (fun k => if_pos (by omega)) ?_
   have := read_loop t ht hne xs hxs r (dn ++ [a]) (acc ++ [ofP (rdnS (bl a))]) (by rw [← h]; simp) (by simp [hacc]) (fun x hx => hsz x (by simp [hx]))
   rw [List.append_assoc] at this
   exact this
theorem cut_sizes : ∀ (l b : List UInt8) (out : List (List UInt8)) (m : Nat), b.length + l.length ≤ m → (∀ x, x ∈ out → x.length ≤ m) → (cutS l b out).length ≤ out.length + l.length + 1 ∧ ∀ x, x ∈ cutS l b out → x.length ≤ m
 | [], b, out, m, h, ho => by
   refine ⟨by simp [cutS], fun x hx => ?_⟩
   simp only [cutS, List.mem_append, List.mem_singleton] at hx
   rcases hx with hx | rfl
   · exact ho x hx
   · simpa using h
 | [c], b, out, m, h, ho => by
   simp only [List.length_cons, List.length_nil] at h
   unfold cutS
   split
   · refine ⟨by simp, fun x hx => ?_⟩
     simp only [List.mem_append, List.mem_singleton] at hx
     rcases hx with (hx | rfl) | rfl
     · exact ho x hx
     · omega
     · simp
   · refine ⟨by simp, fun x hx => ?_⟩
     simp only [List.mem_append, List.mem_singleton] at hx
     rcases hx with hx | rfl
     · exact ho x hx
     · simp; omega
 | c :: d :: r, b, out, m, h, ho => by
   simp only [List.length_cons] at h ⊢
   unfold cutS
   split
   · have := cut_sizes r (b ++ [c, d]) out m (by simp; omega) ho
     exact ⟨by omega, this.2⟩
   · split
     · have := cut_sizes (d :: r) [] (out ++ [b]) m (by simp; omega) (by
         intro x hx
         simp only [List.mem_append, List.mem_singleton] at hx
         rcases hx with hx | rfl
         · exact ho x hx
         · omega)
       simp only [List.length_append, List.length_cons, List.length_nil] at this
       exact ⟨by omega, this.2⟩
     · have := cut_sizes (d :: r) (b ++ [c]) out m (by simp; omega) ho
       simp only [List.length_cons] at this
       exact ⟨by omega, this.2⟩
theorem spec_read (t : ByteArray) (ht : t.size ≤ 8000000) : Ev (fun k => spec_l02Read.f k t) (dnS t, dnOk t) := by
 unfold spec_l02Read.f
 refine Ev_bind (Ev.now _) ?_
 by_cases hn : bl t = []
 · obtain ⟨_, e2, e3⟩ := dn_nil hn
   rw [e2, e3]
   exact Ev_some fun k => by rw [if_pos (by rw [bl_toList]; exact hn)]
 · refine Ev.congr (fun k => if_neg (by rw [bl_toList]; exact hn)) (Ev_bind (spec_cut t ht) ?_)
   have hs := cut_sizes (bl t) [] [] t.size (by rw [bl_len]; simp) (fun x hx => by cases hx)
   rw [bl_len] at hs
   have := read_loop t ht hn ((cutS (bl t) [] []).map ofL) (by rw [List.length_map]; have := hs.1; simp at this; omega) ((cutS (bl t) [] []).map ofL) [] [] (by simp) rfl (by
     intro x hx
     obtain ⟨y, hy, rfl⟩ := List.mem_map.1 hx
     rw [ofL_size]
     have := hs.2 y hy
     omega)
   have e1 : ((cutS (bl t) [] []).map ofL).map (fun x => ofP (rdnS (bl x))) = dnS t := by
     unfold dnS readS
     rw [if_neg hn, List.map_map, List.map_map]
     refine List.map_congr_left fun x _ => ?_
     simp [bl_ofL]
   rw [List.nil_append, e1, ← (dn_same t).1] at this
   exact this
section
variable (t : ByteArray) (ht : t.size ≤ 8000000) (i : Nat) (c : UInt8) (r : List UInt8) (h : (bl t).drop i = c :: r) (acc : List (List UInt8 × List UInt8)) (a v : List UInt8) (hs : acc.length + a.length + v.length ≤ i) (R : List S151 × Bool)
include ht h hs
theorem ri_comma (h44 : c = 44) (rest : Ev (fun k => impl_readDn.l0 k t ((acc ++ [(a, v)]).map ofP) false ((i + 1 : Nat) : Int) (ofL []) (ofL [])) R) : Ev (fun k => impl_readDn.l0 k t (acc.map ofP) true (i : Int) (ofL a) (ofL v)) R := by
 obtain ⟨h1, h2, h3⟩ := at_cons h
 have ew : wrap64 ((i : Int) + 1) = ((i + 1 : Nat) : Int) := by rw [wsucc (by omega) (by omega)]; simp
 have hb : bt t (i : Int) = 44 := by rw [h2, h44]; rfl
 have e1 : acc.map ofP ++ [(⟨ofL a, ofL v⟩ : S151)] = (acc ++ [(a, v)]).map ofP := by simp [ofP]
 refine Ev.step (fun k => by rw [impl_readDn.l0, if_pos (by omega), if_pos (by omega), if_pos rfl]) ?_
 refine Ev.step (fun k => by rw [impl_readDn.j1, if_neg (by decide), if_pos rfl, if_pos hb, if_pos (by rw [List.length_map]; omega), ew, e1]) ?_
 exact rest
theorem ri_byte (h44 : ¬ c = 44) (hq : ¬ (c = 92 ∧ i + 1 < t.size)) (rest : Ev (fun k => impl_readDn.l0 k t (acc.map ofP) true ((i + 1 : Nat) : Int) (ofL a) (ofL (v ++ [c]))) R) : Ev (fun k => impl_readDn.l0 k t (acc.map ofP) true (i : Int) (ofL a) (ofL v)) R := by
 obtain ⟨h1, h2, h3⟩ := at_cons h
 have ew : wrap64 ((i : Int) + 1) = ((i + 1 : Nat) : Int) := by rw [wsucc (by omega) (by omega)]; simp
 have ex : t.extract (i : Int).toNat ((i + 1 : Nat) : Int).toNat = ofL [c] := by rw [Int.toNat_natCast, Int.toNat_natCast]; exact ext_one' h
 have hb : ¬ bt t (i : Int) = 44 := by rw [h2]; exact fun e => h44 ((byte_iff c 44).1 e)
 have hsz : (ofL v).size + (ofL [c]).size ≤ 9223372036854775807 := by rw [ofL_size, ofL_size, List.length_singleton]; omega
 refine Ev.step (fun k => by rw [impl_readDn.l0, if_pos (by omega), if_pos (by omega), if_pos rfl]) ?_
 by_cases h92 : bt t (i : Int) = 92
 · have h5 : c = 92 := (byte_iff c 92).1 (by rw [← h2, h92]; rfl)
   have h6 : ¬ i + 1 < t.size := fun h => hq ⟨h5, h⟩
   exact Ev.step (fun k => by rw [impl_readDn.j1, if_neg (by decide), if_pos rfl, if_neg hb, if_pos h92, ew, if_neg (by omega), if_pos (by omega), if_pos (by omega), if_pos (by omega), ex, if_pos hsz, ofL_app]) rest
 · exact Ev.step (fun k => by rw [impl_readDn.j1, if_neg (by decide), if_pos rfl, if_neg hb, if_neg h92, ew, if_pos (by omega), if_pos (by omega), if_pos (by omega), ex, if_pos hsz, ofL_app]) rest
theorem ri_esc (d : UInt8) (r' : List UInt8) (hr : r = d :: r') (h92 : c = 92) (rest : Ev (fun k => impl_readDn.l0 k t (acc.map ofP) true ((i + 1 + 1 : Nat) : Int) (ofL a) (ofL (v ++ [d]))) R) : Ev (fun k => impl_readDn.l0 k t (acc.map ofP) true (i : Int) (ofL a) (ofL v)) R := by
 subst hr
 obtain ⟨h1, h2, h3⟩ := at_cons h
 obtain ⟨g1, g2, g3⟩ := at_cons h3
 have ex2 : t.extract ((i + 1 : Nat) : Int).toNat ((i + 1 + 1 : Nat) : Int).toNat = ofL [d] := by rw [Int.toNat_natCast, Int.toNat_natCast]; exact ext_one' h3
 have hb : ¬ bt t (i : Int) = 44 := by rw [h2, h92]; decide
 have hb2 : bt t (i : Int) = 92 := by rw [h2, h92]; rfl
 have hsz : (ofL v).size + (ofL [d]).size ≤ 9223372036854775807 := by rw [ofL_size, ofL_size, List.length_singleton]; omega
 have p1 : (i : Int) < (t.size : Int) := by omega
 have p2 : (0 : Int) ≤ (i : Int) := by omega
 have p3 : ((i + 1 : Nat) : Int) < (t.size : Int) := by omega
 have p4 : (0 : Int) ≤ ((i + 1 : Nat) : Int) := by omega
 have p5 : ((i + 1 : Nat) : Int) ≤ ((i + 1 + 1 : Nat) : Int) := by omega
 have p6 : ((i + 1 + 1 : Nat) : Int) ≤ (t.size : Int) := by omega
 have ew : wrap64 ((i : Int) + 1) = ((i + 1 : Nat) : Int) := by rw [wsucc (by omega) (by omega)]; simp
 have ew2 : wrap64 (((i + 1 : Nat) : Int) + 1) = ((i + 1 + 1 : Nat) : Int) := wsucc (by omega) (by clear ew; omega)
 refine Ev.step (fun k => by rw [impl_readDn.l0, if_pos p1, if_pos p2, if_pos rfl]) ?_
 exact Ev.step (fun k => by rw [impl_readDn.j1, if_neg (by decide), if_pos rfl, if_neg hb, if_pos hb2, ew, if_pos p3, ew2, if_pos p4, if_pos p5, if_pos p6, ex2, if_pos hsz, ofL_app]) rest
theorem ri_eq (h61 : c = 61) (rest : Ev (fun k => impl_readDn.l0 k t (acc.map ofP) true ((i + 1 : Nat) : Int) (ofL a) (ofL v)) R) : Ev (fun k => impl_readDn.l0 k t (acc.map ofP) false (i : Int) (ofL a) (ofL v)) R := by
 have hs_ := hs
 obtain ⟨h1, h2, h3⟩ := at_cons h
 have ew : wrap64 ((i : Int) + 1) = ((i + 1 : Nat) : Int) := by rw [wsucc (by omega) (by omega)]; simp
 have hb : (bt t (i : Int) == 61) = true := by rw [h2, h61]; rfl
 refine Ev.step (fun k => by rw [impl_readDn.l0, if_pos (by omega), if_pos (by omega), if_neg (by decide)]) ?_
 exact Ev.step (fun k => by rw [hb, impl_readDn.j1, if_pos rfl, ew]) rest
theorem ri_name (h61 : ¬ c = 61) (rest : Ev (fun k => impl_readDn.l0 k t (acc.map ofP) false ((i + 1 : Nat) : Int) (ofL (a ++ [c])) (ofL v)) R) : Ev (fun k => impl_readDn.l0 k t (acc.map ofP) false (i : Int) (ofL a) (ofL v)) R := by
 obtain ⟨h1, h2, h3⟩ := at_cons h
 have ew : wrap64 ((i : Int) + 1) = ((i + 1 : Nat) : Int) := by rw [wsucc (by omega) (by omega)]; simp
 have hb : (bt t (i : Int) == 61) = false := by rw [h2, beq_eq_false_iff_ne]; exact fun e => h61 ((byte_iff c 61).1 e)
 have e1 : strOfNums [(c.toNat : Int)] = ofL [c] := nums_ints [c]
 have hsz : (ofL a).size + (ofL [c]).size ≤ 9223372036854775807 := by rw [ofL_size, ofL_size, List.length_singleton]; omega
 refine Ev.step (fun k => by rw [impl_readDn.l0, if_pos (by omega), if_pos (by omega), if_neg (by decide)]) ?_
 refine Ev.step (fun k => by rw [hb, impl_readDn.j1, if_neg (by decide), if_neg (by decide), h2, ew]) ?_
 refine Ev_bind (Ev.now _) ?_
 exact Ev.congr (fun k => by rw [e1, if_pos hsz, ofL_app]) rest
end
theorem ri_end (t : ByteArray) (i : Nat) (hi : t.size ≤ i) (acc : List (List UInt8 × List UInt8)) (q : Bool) (a v : List UInt8) (hs : acc.length ≤ 8000000) :
   Ev (fun k => impl_readDn.l0 k t (acc.map ofP) q (i : Int) (ofL a) (ofL v)) ((acc ++ [(a, v)]).map ofP, dnB ((acc ++ [(a, v)]).map ofP) && decide (txtB ((acc ++ [(a, v)]).map ofP) = t)) := by
 have e1 : acc.map ofP ++ [(⟨ofL a, ofL v⟩ : S151)] = (acc ++ [(a, v)]).map ofP := by simp [ofP]
 refine Ev.step (fun k => by rw [impl_readDn.l0, if_neg (by omega), if_pos (by rw [List.length_map]; omega), e1]) ?_
 refine Ev_bind (Ev.now _) ?_
 refine Ev.congr (fun k => by rw [impl_DnRight.f, Option.bind_some]) ?_
 generalize (acc ++ [(a, v)]).map ofP = d
 cases hd : dnB d with
 | true =>
   refine Ev.congr (fun k => if_pos rfl) (Ev_bind (impl_text d hd) (Ev_some fun k => ?_))
   congr 1
   refine Prod.ext rfl ?_
   rw [Bool.true_and, Bool.eq_iff_iff, beq_iff_eq, decide_eq_true_eq, bl_toList, bl_toList]
   exact ⟨bl_inj, fun e => by rw [e]⟩
 | false => exact Ev_some fun k => by rw [if_neg (by decide)]; rfl
def riR (t : ByteArray) (d : List (List UInt8 × List UInt8)) : List S151 × Bool := (d.map ofP, dnB (d.map ofP) && decide (txtB (d.map ofP) = t))
theorem implread_n (t : ByteArray) (ht : t.size ≤ 8000000) : ∀ (n : Nat) (l : List UInt8) (i : Nat) (acc : List (List UInt8 × List UInt8)) (q : Bool) (a v : List UInt8), l.length ≤ n → (bl t).drop i = l → i ≤ t.size → acc.length + a.length + v.length ≤ i →
   Ev (fun k => impl_readDn.l0 k t (acc.map ofP) q (i : Int) (ofL a) (ofL v)) (riR t (rdI l q a v acc)) := by
 intro n
 induction n with
 | zero =>
   intro l i acc q a v hl h hi hs
   obtain rfl : l = [] := List.eq_nil_of_length_eq_zero (by omega)
   have e0 : rdI [] q a v acc = acc ++ [(a, v)] := by unfold rdI; rfl
   rw [e0]
   exact ri_end t i (at_nil h) acc q a v (by omega)
 | succ n ih =>
   intro l i acc q a v hl h hi hs
   cases l with
   | nil =>
     have e0 : rdI [] q a v acc = acc ++ [(a, v)] := by unfold rdI; rfl
     rw [e0]
     exact ri_end t i (at_nil h) acc q a v (by omega)
   | cons c r =>
     rw [List.length_cons] at hl
     obtain ⟨h1, h2, h3⟩ := at_cons h
     cases q with
     | false =>
       by_cases h61 : c = 61
       · have e0 : rdI (c :: r) false a v acc = rdI r true a v acc := by rw [rdI, if_pos h61]
         rw [e0]
         exact ri_eq t ht i c r h acc a v hs _ h61 (ih r (i + 1) acc true a v (by omega) h3 (by omega) (by omega))
       · have e0 : rdI (c :: r) false a v acc = rdI r false (a ++ [c]) v acc := by rw [rdI, if_neg h61]
         rw [e0]
         exact ri_name t ht i c r h acc a v hs _ h61 (ih r (i + 1) acc false (a ++ [c]) v (by omega) h3 (by omega) (by rw [List.length_append, List.length_singleton]; omega))
     | true =>
       cases r with
       | nil =>
         have h4 := at_nil h3
         by_cases h44 : c = 44
         · have e0 : rdI [c] true a v acc = rdI [] false [] [] (acc ++ [(a, v)]) := by unfold rdI; rw [if_pos h44]
           rw [e0]
           exact ri_comma t ht i c [] h acc a v hs _ h44 (ih [] (i + 1) (acc ++ [(a, v)]) false [] [] (Nat.zero_le _) h3 (by omega) (by simp; omega))
         · have e0 : rdI [c] true a v acc = rdI [] true a (v ++ [c]) acc := by unfold rdI; rw [if_neg h44]
           rw [e0]
           exact ri_byte t ht i c [] h acc a v hs _ h44 (fun e => by omega) (ih [] (i + 1) acc true a (v ++ [c]) (Nat.zero_le _) h3 (by omega) (by rw [List.length_append, List.length_singleton]; omega))
       | cons d r =>
         rw [List.length_cons] at hl
         obtain ⟨g1, g2, g3⟩ := at_cons h3
         by_cases h44 : c = 44
         · have e0 : rdI (c :: d :: r) true a v acc = rdI (d :: r) false [] [] (acc ++ [(a, v)]) := (rdI.eq_4 a v acc c d r).trans (if_pos h44)
           rw [e0]
           exact ri_comma t ht i c (d :: r) h acc a v hs _ h44 (ih (d :: r) (i + 1) (acc ++ [(a, v)]) false [] [] (by rw [List.length_cons]; omega) h3 (by omega) (by simp; omega))
         · by_cases h92 : c = 92
           · have e0 : rdI (c :: d :: r) true a v acc = rdI r true a (v ++ [d]) acc := (rdI.eq_4 a v acc c d r).trans ((if_neg h44).trans (if_pos h92))
             rw [e0]
             exact ri_esc t ht i c (d :: r) h acc a v hs _ d r rfl h92 (ih r (i + 1 + 1) acc true a (v ++ [d]) (by omega) g3 (by omega) (by rw [List.length_append, List.length_singleton]; omega))
           · have e0 : rdI (c :: d :: r) true a v acc = rdI (d :: r) true a (v ++ [c]) acc := (rdI.eq_4 a v acc c d r).trans ((if_neg h44).trans (if_neg h92))
             rw [e0]
             exact ri_byte t ht i c (d :: r) h acc a v hs _ h44 (fun e => h92 e.1) (ih (d :: r) (i + 1) acc true a (v ++ [c]) (by rw [List.length_cons]; omega) h3 (by omega) (by rw [List.length_append, List.length_singleton]; omega))
theorem impl_read (t : ByteArray) (ht : t.size ≤ 8000000) : Ev (fun k => impl_readDn.f k t) (dnI t, dnOk t) := by
 unfold impl_readDn.f
 refine Ev_bind (Ev.now _) ?_
 by_cases hn : bl t = []
 · obtain ⟨e1, _, e3⟩ := dn_nil hn
   rw [e1, e3]
   exact Ev_some fun k => by rw [if_pos (by rw [bl_toList]; exact hn)]
 · refine Ev.congr (fun k => if_neg (by rw [bl_toList]; exact hn)) ?_
   have := implread_n t ht (bl t).length (bl t) 0 [] false [] [] (Nat.le_refl _) rfl (Nat.zero_le _) (Nat.le_refl _)
   have e1 : (rdI (bl t) false [] [] []).map ofP = dnI t := by unfold dnI readI; rw [if_neg hn]
   unfold riR at this
   rw [e1] at this
   exact this
end Go.Proofs.YtmkpgddfoaglpaaGreatDoor.PG
