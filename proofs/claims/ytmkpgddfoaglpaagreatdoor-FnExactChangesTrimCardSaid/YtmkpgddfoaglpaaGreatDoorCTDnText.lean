/-
 The printed writings of a DN's text, the program's and the reference's, come to the plain one (DnPure.txt). Condition: a right DN.
-/
import Derived.Test.YtmkpgddfoaglpaaGreatDoorCTP3
import Derived.Test.YtmkpgddfoaglpaaGreatDoorCTP4
import Derived.Test.YtmkpgddfoaglpaaGreatDoorCTFits
import Derived.Test.YtmkpgddfoaglpaaGreatDoorCTNames
import Derived.Test.YtmkpgddfoaglpaaGreatDoorCTDn
set_option linter.unusedVariables false
set_option linter.unusedSimpArgs false
namespace Go.Proofs.YtmkpgddfoaglpaaGreatDoor.PG
open Go Go.RowKit Go.Proofs.YtmkpgddfoaglpaaGreatDoorW.PrintWords Go.Proofs.YtmkpgddfoaglpaaGreatDoor.Gn Go.Proofs.YtmkpgddfoaglpaaGreatDoor.Sem DnPure
def oddSet : List UInt8 := [44, 43, 34, 92, 60, 62, 59, 61]
def oddC (c : UInt8) (i n : Nat) : Bool := oddSet.contains c || ((c == 35 && i == 0) || (c == 32 && (i == 0 || i + 1 == n)))
def oddB (v : List UInt8) (i : Nat) : Bool := oddC (v.getD i 0) i v.length
theorem at_lt (s : ByteArray) (i : Nat) (h : i < s.size) : bt s (i : Int) = (((bl s).getD i 0).toNat : Int) := by
 have h1 : i < (bl s).length := by rw [bl_len]; exact h
 obtain ⟨c, r, hd⟩ : ∃ c r, (bl s).drop i = c :: r := ⟨_, _, List.drop_eq_getElem_cons h1⟩
 rw [(at_cons hd).2.1]
 have : (bl s)[i]? = some c := by
   have := congrArg (fun q => q[0]?) hd
   simpa [List.getElem?_drop] using this
 rw [List.getD_eq_getElem?_getD, this]
 rfl
theorem odd_j0 (t : ByteArray) (ht : t.size ≤ 8000000) (i : Nat) (hi : i < t.size) (c : UInt8) (b : Bool) : Ev (fun k => spec_l02Odd.j0 k t (i : Int) (c.toNat : Int) b) (b || ((c == 35 && i == 0) || (c == 32 && (i == 0 || i + 1 == t.size)))) := by
 have ew : wrap64 ((t.size : Int) - 1) = ((t.size - 1 : Nat) : Int) := by rw [w_id (by omega) (by omega)]; omega
 cases b with
 | true => exact Ev_one fun k => by rw [spec_l02Odd.j0, if_pos rfl]; rfl
 | false =>
   refine Ev_one fun k => ?_
   rw [spec_l02Odd.j0, if_neg (by decide)]
   by_cases h35 : c = 35
   · subst h35
     rw [if_pos (show (((35 : UInt8).toNat : Int)) = 35 from rfl)]
     have e : ((i : Int) == 0) = (i == 0) := by rw [Bool.eq_iff_iff, beq_iff_eq, beq_iff_eq]; omega
     rw [e]
     simp
   · have h35' : ¬ ((c.toNat : Int) = 35) := fun e => h35 ((byte_iff c 35).1 e)
     have h35b : (c == 35) = false := beq_eq_false_iff_ne.2 h35
     rw [if_neg h35', h35b]
     by_cases h32 : c = 32
     · subst h32
       rw [if_pos (show (((32 : UInt8).toNat : Int)) = 32 from rfl), ew]
       by_cases h0 : i = 0
       · rw [if_pos (by omega)]
         simp [h0]
       · rw [if_neg (by omega)]
         have e : ((i : Int) == ((t.size - 1 : Nat) : Int)) = (i + 1 == t.size) := by rw [Bool.eq_iff_iff, beq_iff_eq, beq_iff_eq]; omega
         have e0 : (i == 0) = false := beq_eq_false_iff_ne.2 h0
         rw [e, e0]
         simp
     · have h32' : ¬ ((c.toNat : Int) = 32) := fun e => h32 ((byte_iff c 32).1 e)
       have h32b : (c == 32) = false := beq_eq_false_iff_ne.2 h32
       rw [if_neg h32', h32b]
       rfl
theorem odd_tie (t : ByteArray) (ht : t.size ≤ 8000000) (i : Nat) (hi : i < t.size) : Ev (fun k => spec_l02Odd.f k t (i : Int)) (oddB (bl t) i) := by
 unfold oddB oddC
 rw [bl_len]
 have hb := at_lt t i hi
 generalize (bl t).getD i 0 = c at hb
 refine Ev.congr (fun k => by rw [spec_l02Odd.f, if_pos (by omega), if_pos (by omega), hb]) ?_
 have key : ∀ (d : UInt8) (hd : d ∈ oddSet), (c = d) → Ev (fun k => spec_l02Odd.j0 k t (i : Int) (c.toNat : Int) ((c.toNat : Int) == (d.toNat : Int))) (oddSet.contains c || ((c == 35 && i == 0) || (c == 32 && (i == 0 || i + 1 == t.size)))) := by
   intro d hd e
   subst e
   have h := odd_j0 t ht i hi c ((c.toNat : Int) == (c.toNat : Int))
   have e2 : oddSet.contains c = true := List.contains_iff_mem.2 hd
   rw [e2]
   simpa using h
 have nk : ∀ (d : UInt8), ¬ c = d → ¬ ((c.toNat : Int) = (d.toNat : Int)) := fun d h e => h ((byte_iff c d).1 e)
 by_cases h1 : c = 44
 · exact Ev.congr (fun k => if_pos (by rw [h1]; rfl)) (key 44 (by decide) h1)
 refine Ev.congr (fun k => if_neg (nk 44 h1)) ?_
 by_cases h2 : c = 43
 · exact Ev.congr (fun k => if_pos (by rw [h2]; rfl)) (key 43 (by decide) h2)
 refine Ev.congr (fun k => if_neg (nk 43 h2)) ?_
 by_cases h3 : c = 34
 · exact Ev.congr (fun k => if_pos (by rw [h3]; rfl)) (key 34 (by decide) h3)
 refine Ev.congr (fun k => if_neg (nk 34 h3)) ?_
 by_cases h4 : c = 92
 · exact Ev.congr (fun k => if_pos (by rw [h4]; rfl)) (key 92 (by decide) h4)
 refine Ev.congr (fun k => if_neg (nk 92 h4)) ?_
 by_cases h5 : c = 60
 · exact Ev.congr (fun k => if_pos (by rw [h5]; rfl)) (key 60 (by decide) h5)
 refine Ev.congr (fun k => if_neg (nk 60 h5)) ?_
 by_cases h6 : c = 62
 · exact Ev.congr (fun k => if_pos (by rw [h6]; rfl)) (key 62 (by decide) h6)
 refine Ev.congr (fun k => if_neg (nk 62 h6)) ?_
 by_cases h7 : c = 59
 · exact Ev.congr (fun k => if_pos (by rw [h7]; rfl)) (key 59 (by decide) h7)
 refine Ev.congr (fun k => if_neg (nk 59 h7)) ?_
 by_cases h8 : c = 61
 · exact key 61 (by decide) h8
 have e1 : ((c.toNat : Int) == 61) = false := by rw [beq_eq_false_iff_ne]; exact nk 61 h8
 have e2 : oddSet.contains c = false := by
   rw [Bool.eq_false_iff]
   intro h
   have := List.contains_iff_mem.1 h
   simp [oddSet, h1, h2, h3, h4, h5, h6, h7, h8] at this
 have h := odd_j0 t ht i hi c false
 rw [e2]
 exact Ev.congr (fun k => by rw [e1]) h
theorem ixb (l : List UInt8) (c : UInt8) : decide (Lib.indexByte l c ≥ 0) = l.contains c := by
 induction l with
 | nil => rfl
 | cons b l ih =>
   unfold Lib.indexByte
   rw [List.contains_cons]
   have hge := Lib.indexByte_ge l c
   by_cases h : (b == c) = true
   · rw [if_pos h]
     have : (c == b) = true := by rw [beq_iff_eq] at h ⊢; exact h.symm
     rw [this]; rfl
   · rw [if_neg h]
     have : (c == b) = false := by rw [beq_eq_false_iff_ne]; intro e; exact h (by rw [e]; simp)
     rw [this, Bool.false_or, ← ih]
     by_cases h2 : (Lib.indexByte l c == -1) = true
     · rw [if_pos h2]
       rw [beq_iff_eq] at h2
       rw [h2]
     · rw [if_neg h2]
       have h3 : ¬ Lib.indexByte l c = -1 := fun e => h2 (by rw [e]; rfl)
       rw [Bool.eq_iff_iff, decide_eq_true_eq, decide_eq_true_eq]
       omega
theorem marked_tie (t : ByteArray) (ht : t.size ≤ 8000000) (i : Nat) (hi : i < t.size) : impl_isMarked.f t (i : Int) = some (oddB (bl t) i) := by
 have ew : wrap64 ((t.size : Int) - 1) = ((t.size - 1 : Nat) : Int) := by rw [w_id (by omega) (by omega)]; omega
 unfold oddB oddC impl_isMarked.f
 rw [bl_len, if_pos (by omega), if_pos (by omega), at_lt t i hi]
 generalize (bl t).getD i 0 = c
 have hx := ixb oddSet c
 have e0 : ((c.toNat : Int).toNat.toUInt8) = c := by simp
 unfold strings_IndexByte.f
 rw [Option.bind_some, e0, ew]
 show (if Lib.indexByte oddSet c ≥ 0 then _ else _) = _
 have e : ((i : Int) == ((t.size - 1 : Nat) : Int)) = (i + 1 == t.size) := by rw [Bool.eq_iff_iff, beq_iff_eq, beq_iff_eq]; omega
 rw [e]
 cases hc : oddSet.contains c with
 | true =>
   rw [hc] at hx
   rw [if_pos (of_decide_eq_true hx)]
   rfl
 | false =>
   rw [hc] at hx
   rw [if_neg (of_decide_eq_false hx), Bool.false_or]
   have two : (if ((c.toNat : Int)) = 32 then (if (i : Int) = 0 then some true else some (i + 1 == t.size)) else some false) = some (c == 32 && (i == 0 || i + 1 == t.size)) := by
     by_cases h : c = 32
     · subst h
       rw [if_pos (show (((32 : UInt8).toNat : Int)) = 32 from rfl)]
       by_cases h0 : i = 0
       · rw [if_pos (by omega)]; simp [h0]
       · have e0 : (i == 0) = false := beq_eq_false_iff_ne.2 h0
         rw [if_neg (by omega), e0]; simp
     · have h' : ¬ ((c.toNat : Int) = 32) := fun e => h ((byte_iff c 32).1 e)
       have hb : (c == 32) = false := beq_eq_false_iff_ne.2 h
       rw [if_neg h', hb]; rfl
   by_cases h : c = 35
   · subst h
     rw [if_pos (show (((35 : UInt8).toNat : Int)) = 35 from rfl)]
     by_cases h0 : i = 0
     · rw [if_pos (by omega)]; simp [h0]
     · have e0 : (i == 0) = false := beq_eq_false_iff_ne.2 h0
       rw [if_neg (by omega), if_neg (by decide), e0]; simp
   · have h' : ¬ ((c.toNat : Int) = 35) := fun e => h ((byte_iff c 35).1 e)
     have hb : (c == 35) = false := beq_eq_false_iff_ne.2 h
     rw [if_neg h', two, hb]
     simp
theorem oddB_ok : ∀ v i, i < List.length v → v.getD i 0 = 44 ∨ v.getD i 0 = 92 → oddB v i = true := by
 intro v i _ h
 unfold oddB oddC
 rcases h with h | h <;> rw [h] <;> rfl
def escB : List UInt8 → List UInt8 := escL oddB
theorem escB_ok : ∀ v, Esc (escB v) v := escL_of oddB oddB_ok
theorem esc_len (v : List UInt8) : (escB v).length ≤ 2 * v.length := by
 have : ∀ (l : List Nat), (l.flatMap (escAt oddB v)).length ≤ 2 * l.length := by
   intro l
   induction l with
   | nil => simp
   | cons a l ih =>
     rw [List.flatMap_cons, List.length_append, List.length_cons]
     have : (escAt oddB v a).length ≤ 2 := by unfold escAt; split <;> simp
     omega
 have := this (List.range v.length)
 rwa [List.length_range] at this
theorem escape_tie (t : ByteArray) (ht : t.size ≤ 8000000) : ∀ (n i : Nat) (x : List UInt8), i + n = t.size → x.length ≤ 2 * i → Ev (fun k => spec_l02Escape.l0 k t (ints x) (i : Int)) (ofL (x ++ (List.range' i n).flatMap (escAt oddB (bl t))))
 | 0, i, x, h, hx => Ev_one fun k => by
   rw [spec_l02Escape.l0, if_neg (by omega), nums_ints]
   simp
 | n + 1, i, x, h, hx => by
   have hi : i < t.size := by omega
   have ew : wrap64 ((i : Int) + 1) = ((i + 1 : Nat) : Int) := by rw [wsucc (by omega) (by omega)]; simp
   have hb := at_lt t i hi
   refine Ev.step (fun k => by rw [spec_l02Escape.l0, if_pos (by omega)]) ?_
   refine Ev_bind (odd_tie t ht i hi) ?_
   rw [List.range'_succ, List.flatMap_cons]
   unfold escAt
   cases hq : oddB (bl t) i with
   | true =>
     refine Ev.congr (fun k => if_pos rfl) (Ev.congr (fun k => if_pos (by rw [ints_len]; omega)) ?_)
     refine Ev_bind (Ev.now _) ?_
     refine Ev.congr (fun k => by rw [if_pos (by omega), if_pos (by simp [ints_len]; omega), hb, ew, show ints x ++ [92] ++ [(((bl t).getD i 0).toNat : Int)] = ints (x ++ [92, (bl t).getD i 0]) by simp [ints]]) ?_
     have := escape_tie t ht n (i + 1) (x ++ [92, (bl t).getD i 0]) (by omega) (by simp; omega)
     rw [if_pos rfl, ← List.append_assoc]
     exact this
   | false =>
     refine Ev.congr (fun k => if_neg (by decide)) ?_
     refine Ev.congr (fun k => by rw [if_pos (by omega), if_pos (by rw [ints_len]; omega), hb, ew, show ints x ++ [(((bl t).getD i 0).toNat : Int)] = ints (x ++ [(bl t).getD i 0]) by simp [ints]]) ?_
     have := escape_tie t ht n (i + 1) (x ++ [(bl t).getD i 0]) (by omega) (by simp; omega)
     rw [if_neg (by decide), ← List.append_assoc]
     exact this
theorem spec_escape (t : ByteArray) (ht : t.size ≤ 8000000) : Ev (fun k => spec_l02Escape.f k t) (ofL (escB (bl t))) := by
 have := escape_tie t ht t.size 0 [] (by omega) (Nat.zero_le _)
 have e : escB (bl t) = [] ++ (List.range' 0 t.size).flatMap (escAt oddB (bl t)) := by
   unfold escB escL
   rw [bl_len, List.range_eq_range']
   rfl
 rw [e]
 exact this
def toP (x : S151) : List UInt8 × List UInt8 := (bl x.f0, bl x.f1)
def ofP (x : List UInt8 × List UInt8) : S151 := ⟨ofL x.1, ofL x.2⟩
theorem to_of (x : List UInt8 × List UInt8) : toP (ofP x) = x := by
 obtain ⟨a, b⟩ := x
 simp [ofP, toP, bl_ofL]
def txtB (d : List S151) : ByteArray := ofL (txt escB (d.map toP))
theorem name_le {s : ByteArray} (h : nameB s = true) : s.size ≤ 20 := by
 unfold nameB at h
 simp only [Bool.and_eq_true, decide_eq_true_eq] at h
 exact h.2.1
theorem proper_le {s : ByteArray} (h : properB s = true) : s.size ≤ 40 := by
 unfold properB at h
 simp only [Bool.and_eq_true, decide_eq_true_eq] at h
 exact h.2.1
theorem dn_part {d : List S151} (h : dnB d = true) {x : S151} (hx : x ∈ d) : x.f0.size ≤ 20 ∧ x.f1.size ≤ 40 := by
 unfold dnB at h
 simp only [Bool.and_eq_true, decide_eq_true_eq, List.all_eq_true] at h
 have := h.2 x hx
 unfold rdnB at this
 simp only [Bool.and_eq_true] at this
 exact ⟨name_le this.1, proper_le this.2⟩
theorem dn_le {d : List S151} (h : dnB d = true) : d.length ≤ 6 := by
 unfold dnB at h
 simp only [Bool.and_eq_true, decide_eq_true_eq] at h
 exact h.1
theorem one_len (x : S151) (h : x.f0.size ≤ 20 ∧ x.f1.size ≤ 40) : (DnPure.one escB (toP x)).length ≤ 101 := by
 unfold DnPure.one toP
 have := esc_len (bl x.f1)
 rw [bl_len] at this
 simp only [List.length_append, List.length_cons, bl_len]
 omega
def restT (d : List S151) : List UInt8 := (d.map toP).flatMap fun y => 44 :: DnPure.one escB y
theorem restT_cons (x : S151) (d : List S151) : restT (x :: d) = 44 :: (DnPure.one escB (toP x) ++ restT d) := by simp [restT]
theorem txt_cons (x : S151) (d : List S151) : txt escB ((x :: d).map toP) = DnPure.one escB (toP x) ++ restT d := by simp [txt, restT]
theorem rd_mid3 (dn : List S151) (a : S151) (r : List S151) : rd_T151 (dn ++ a :: r) (dn.length : Int) = a := by
 unfold rd_T151
 rw [Int.toNat_natCast]
 simp
theorem ofL_cat (a : ByteArray) (l : List UInt8) : a ++ ofL l = ofL (bl a ++ l) := by rw [← ofL_app, ofL_bl]
theorem lit_cat (x : ByteArray) (c : UInt8) : x ++ (⟨#[c]⟩ : ByteArray) = ofL (bl x ++ [c]) := by
 rw [← ofL_cat]
 rfl
theorem text_tie (D : List S151) (hD : dnB D = true) : ∀ (r dn : List S151) (x : List UInt8), dn ++ r = D → x.length ≤ 102 * dn.length → dn ≠ [] → Ev (fun k => spec_l02Text.l0 k D (ofL x) (dn.length : Int)) (ofL (x ++ restT r))
 | [], dn, x, h, hx, hn => Ev_one fun k => by
   rw [List.append_nil] at h
   rw [spec_l02Text.l0, if_neg (by rw [h]; omega)]
   simp [restT]
 | a :: r, dn, x, h, hx, hn => by
   have hlen : D.length = dn.length + (r.length + 1) := by rw [← h]; simp
   have h6 := dn_le hD
   have hra : rd_T151 D (dn.length : Int) = a := by rw [← h]; exact rd_mid3 dn a r
   have hpa := dn_part hD (x := a) (by rw [← h]; simp)
   have ew : wrap64 ((dn.length : Int) + 1) = ((dn ++ [a]).length : Int) := by rw [w_id (by omega) (by omega)]; simp
   have hpos : 0 < dn.length := List.length_pos_iff.2 hn
   have s0 : (ofL x).size = x.length := ofL_size x
   have hel := esc_len (bl a.f1)
   rw [bl_len] at hel
   have e1 : ofL x ++ (⟨#[44]⟩ : ByteArray) = ofL (x ++ [44]) := by rw [lit_cat, bl_ofL]
   have e2 : ofL (x ++ [44]) ++ a.f0 = ofL (x ++ [44] ++ bl a.f0) := by conv => lhs; rw [← ofL_bl a.f0]; rw [ofL_app]
   have e3 : ofL (x ++ [44] ++ bl a.f0) ++ (⟨#[61]⟩ : ByteArray) = ofL (x ++ [44] ++ bl a.f0 ++ [61]) := by rw [lit_cat, bl_ofL]
   refine Ev.step (fun k => by rw [spec_l02Text.l0, if_pos (by omega), if_pos (by omega), if_pos (by rw [s0]; omega), if_pos (by omega), hra, e1, if_pos (by rw [ofL_size]; simp; omega), e2, if_pos (by rw [ofL_size]; simp [bl_len]; omega), e3, ew]) ?_
   refine Ev_bind (spec_escape a.f1 (by omega)) ?_
   refine Ev.congr (fun k => by rw [if_pos (by rw [ofL_size, ofL_size]; simp [bl_len]; omega), ofL_app]) ?_
   have := text_tie D hD r (dn ++ [a]) (x ++ [44] ++ bl a.f0 ++ [61] ++ escB (bl a.f1)) (by rw [← h]; simp) (by simp [bl_len]; omega) (by simp)
   have e4 : x ++ [44] ++ bl a.f0 ++ [61] ++ escB (bl a.f1) ++ restT r = x ++ restT (a :: r) := by rw [restT_cons]; simp [DnPure.one, toP]
   rw [e4] at this
   exact this
theorem spec_text (D : List S151) (hD : dnB D = true) : Ev (fun k => spec_l02Text.f k D) (txtB D) := by
 cases D with
 | nil => exact Ev_one fun k => by unfold spec_l02Text.f; rw [spec_l02Text.l0, if_neg (by simp)]; rfl
 | cons a r =>
   have h6 := dn_le hD
   have hpa := dn_part hD (x := a) (by simp)
   have hra : rd_T151 (a :: r) (0 : Int) = a := rd_mid3 [] a r
   have hel := esc_len (bl a.f1)
   rw [bl_len] at hel
   have ew : wrap64 ((0 : Int) + 1) = (([a] : List S151).length : Int) := by rw [w_id (by omega) (by omega)]; simp
   have e2 : (⟨#[]⟩ : ByteArray) ++ a.f0 = ofL (bl a.f0) := by rw [ofL_bl]; apply bl_inj; rw [bl_app]; rfl
   have e3 : ofL (bl a.f0) ++ (⟨#[61]⟩ : ByteArray) = ofL (bl a.f0 ++ [61]) := by rw [lit_cat, bl_ofL]
   have z0 : (⟨#[]⟩ : ByteArray).size = 0 := rfl
   unfold spec_l02Text.f
   refine Ev.step (fun k => by rw [spec_l02Text.l0, if_pos (by rw [List.length_cons]; omega), if_neg (by omega), if_pos (by omega), hra, if_pos (by rw [z0]; omega), e2, if_pos (by rw [ofL_size, bl_len]; omega), e3, ew]) ?_
   refine Ev_bind (spec_escape a.f1 (by omega)) ?_
   refine Ev.congr (fun k => by rw [if_pos (by rw [ofL_size, ofL_size]; simp [bl_len]; omega), ofL_app]) ?_
   have := text_tie (a :: r) hD r [a] (bl a.f0 ++ [61] ++ escB (bl a.f1)) rfl (by simp [bl_len]; omega) (by simp)
   have e4 : bl a.f0 ++ [61] ++ escB (bl a.f1) ++ restT r = txt escB ((a :: r).map toP) := by rw [txt_cons]; simp [DnPure.one, toP]
   rw [e4] at this
   exact this
theorem iv_tie (D : List S151) (m : Nat) (name t : ByteArray) (ht : t.size ≤ 40) (R : ByteArray) : ∀ (n i : Nat) (x : List UInt8), i + n = t.size → x.length ≤ 1000 + 2 * i → 
   Ev (fun k => impl_dnText.l0 k (ints (x ++ (List.range' i n).flatMap (escAt oddB (bl t)))) D (D.length : Int) (wrap64 ((m : Int) + 1))) R →
   Ev (fun k => impl_dnText.l1 k (ints x) D (D.length : Int) (m : Int) (t.size : Int) (i : Int) name t) R
 | 0, i, x, h, hx, hR => by
   refine Ev.step (fun k => by rw [impl_dnText.l1, if_neg (by omega)]) ?_
   simpa using hR
 | n + 1, i, x, h, hx, hR => by
   have hi : i < t.size := by omega
   have ew : wrap64 ((i : Int) + 1) = ((i + 1 : Nat) : Int) := by rw [wsucc (by omega) (by omega)]; simp
   have hb := at_lt t i hi
   rw [List.range'_succ, List.flatMap_cons] at hR
   refine Ev.step (fun k => by rw [impl_dnText.l1, if_pos (by omega), marked_tie t (by omega) i hi, Option.bind_some]) ?_
   unfold escAt at hR
   cases hq : oddB (bl t) i with
   | true =>
     rw [hq, if_pos rfl, ← List.append_assoc] at hR
     refine Ev.congr (fun k => if_pos rfl) (Ev.congr (fun k => if_pos (by rw [ints_len]; omega)) ?_)
     refine Ev_bind (Ev.now _) ?_
     refine Ev.congr (fun k => by rw [if_pos (by omega), if_pos (by omega), if_pos (by simp [ints_len]; omega), hb, ew, show ints x ++ [92] ++ [(((bl t).getD i 0).toNat : Int)] = ints (x ++ [92, (bl t).getD i 0]) by simp [ints]]) ?_
     exact iv_tie D m name t ht R n (i + 1) (x ++ [92, (bl t).getD i 0]) (by omega) (by simp; omega) hR
   | false =>
     rw [hq, if_neg (by decide), ← List.append_assoc] at hR
     refine Ev.congr (fun k => if_neg (by decide)) ?_
     refine Ev.congr (fun k => by rw [if_pos (by omega), if_pos (by omega), if_pos (by rw [ints_len]; omega), hb, ew, show ints x ++ [(((bl t).getD i 0).toNat : Int)] = ints (x ++ [(bl t).getD i 0]) by simp [ints]]) ?_
     exact iv_tie D m name t ht R n (i + 1) (x ++ [(bl t).getD i 0]) (by omega) (by simp; omega) hR
theorem ip_tie (D : List S151) (m : Nat) (a : S151) (h : a.f0.size ≤ 20 ∧ a.f1.size ≤ 40) (R : ByteArray) (x : List UInt8) (hx : x.length ≤ 700)
   (hR : Ev (fun k => impl_dnText.l0 k (ints (x ++ DnPure.one escB (toP a))) D (D.length : Int) (wrap64 ((m : Int) + 1))) R) : Ev (fun k => impl_dnText.j1 k (ints x) D (D.length : Int) (m : Int) a.f0 a.f1) R := by
 have e0 : bytesOf a.f0 = ints (bl a.f0) := rfl
 refine Ev.step (fun k => by rw [impl_dnText.j1, if_pos (by rw [ints_len]; omega), e0, ← ints_app]) ?_
 refine Ev_bind (Ev.now _) ?_
 refine Ev.congr (fun k => by rw [if_pos (by rw [ints_len, List.length_append, bl_len]; omega), show ints (x ++ bl a.f0) ++ [61] = ints (x ++ bl a.f0 ++ [61]) by simp [ints]]) ?_
 refine iv_tie D m a.f0 a.f1 h.2 R a.f1.size 0 (x ++ bl a.f0 ++ [61]) (by omega) (by simp [bl_len]; omega) ?_
 have e1 : (List.range' 0 a.f1.size).flatMap (escAt oddB (bl a.f1)) = escB (bl a.f1) := by
   unfold escB escL
   rw [bl_len, List.range_eq_range']
 rw [e1]
 have e2 : x ++ bl a.f0 ++ [61] ++ escB (bl a.f1) = x ++ DnPure.one escB (toP a) := by simp [DnPure.one, toP]
 rw [e2]
 exact hR
theorem it_tie (D : List S151) (hD : dnB D = true) : ∀ (r dn : List S151) (x : List UInt8), dn ++ r = D → x.length ≤ 102 * dn.length → dn ≠ [] → Ev (fun k => impl_dnText.l0 k (ints x) D (D.length : Int) (dn.length : Int)) (ofL (x ++ restT r))
 | [], dn, x, h, hx, hn => Ev_one fun k => by
   rw [List.append_nil] at h
   rw [impl_dnText.l0, if_neg (by rw [h]; omega), nums_ints]
   simp [restT]
 | a :: r, dn, x, h, hx, hn => by
   have hlen : D.length = dn.length + (r.length + 1) := by rw [← h]; simp
   have h6 := dn_le hD
   have hra : rd_T151 D (dn.length : Int) = a := by rw [← h]; exact rd_mid3 dn a r
   have hpa := dn_part hD (x := a) (by rw [← h]; simp)
   have ew : wrap64 ((dn.length : Int) + 1) = ((dn ++ [a]).length : Int) := by rw [w_id (by omega) (by omega)]; simp
   have hpos : 0 < dn.length := List.length_pos_iff.2 hn
   refine Ev.step (fun k => by rw [impl_dnText.l0, if_pos (by omega), if_pos (by omega), if_pos (by omega), if_pos (by omega), if_pos (by rw [ints_len]; omega), hra, show ints x ++ [44] = ints (x ++ [44]) by simp [ints]]) ?_
   refine ip_tie D dn.length a hpa _ (x ++ [44]) (by simp; omega) ?_
   rw [ew]
   have hol := one_len a hpa
   have := it_tie D hD r (dn ++ [a]) (x ++ [44] ++ DnPure.one escB (toP a)) (by rw [← h]; simp) (by simp only [List.length_append, List.length_cons, List.length_nil]; omega) (by simp)
   have e4 : x ++ [44] ++ DnPure.one escB (toP a) ++ restT r = x ++ restT (a :: r) := by rw [restT_cons]; simp
   rw [e4] at this
   exact this
theorem impl_text (D : List S151) (hD : dnB D = true) : Ev (fun k => impl_dnText.f k D) (txtB D) := by
 cases D with
 | nil => exact Ev_one fun k => by unfold impl_dnText.f; rw [impl_dnText.l0, if_neg (by simp)]; rfl
 | cons a r =>
   have h6 := dn_le hD
   have hpa := dn_part hD (x := a) (by simp)
   have hra : rd_T151 (a :: r) (0 : Int) = a := rd_mid3 [] a r
   have ew : wrap64 (((0 : Nat) : Int) + 1) = (([a] : List S151).length : Int) := by rw [w_id (by omega) (by omega)]; simp
   unfold impl_dnText.f
   refine Ev.step (fun k => by rw [impl_dnText.l0, if_pos (by rw [List.length_cons]; omega), if_pos (by omega), if_pos (by rw [List.length_cons]; omega), if_neg (by omega), hra, show ([] : List Int) = ints [] from rfl]) ?_
   refine ip_tie (a :: r) 0 a hpa _ [] (by simp) ?_
   rw [ew, List.nil_append]
   have hol := one_len a hpa
   have := it_tie (a :: r) hD r [a] (DnPure.one escB (toP a)) rfl (by simp; omega) (by simp)
   rw [← txt_cons] at this
   exact this
theorem txt_len {D : List S151} (hD : dnB D = true) : (txt escB (D.map toP)).length ≤ 612 := by
 have h6 := dn_le hD
 have hr : ∀ (r : List S151), (∀ x, x ∈ r → x ∈ D) → (restT r).length ≤ 102 * r.length := by
   intro r
   induction r with
   | nil => intro _; simp [restT]
   | cons a r ih =>
     intro h
     have h1 := one_len a (dn_part hD (h a (by simp)))
     have h2 := ih (fun x hx => h x (by simp [hx]))
     rw [restT_cons, List.length_cons, List.length_append, List.length_cons]
     omega
 cases D with
 | nil => simp [txt]
 | cons a r =>
   have h1 := one_len a (dn_part hD (by simp))
   have h2 := hr r (fun x hx => by simp [hx])
   rw [txt_cons, List.length_append]
   rw [List.length_cons] at h6
   omega
theorem txtB_size {D : List S151} (hD : dnB D = true) : (txtB D).size ≤ 612 := by
 unfold txtB
 rw [ofL_size]
 exact txt_len hD
end Go.Proofs.YtmkpgddfoaglpaaGreatDoor.PG
