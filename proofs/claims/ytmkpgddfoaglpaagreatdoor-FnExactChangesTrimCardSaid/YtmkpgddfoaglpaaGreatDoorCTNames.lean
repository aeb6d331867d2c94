/-
 The program's NameRight and the reference's NameRight both say whether a string is a name (Sem.nameB). No condition.
-/
import Derived.Shelf.Abstract
import Derived.Test.YtmkpgddfoaglpaaGreatDoorCTP4
import Derived.Test.YtmkpgddfoaglpaaGreatDoorCTP1
import Derived.Test.YtmkpgddfoaglpaaGreatDoorCTFits
import Derived.Test.YtmkpgddfoaglpaaGreatDoorCTGen
import Derived.Test.YtmkpgddfoaglpaaGreatDoorCTP2
import Derived.Test.YtmkpgddfoaglpaaGreatDoorCTRowOps
set_option maxHeartbeats 8000000
set_option maxRecDepth 100000
set_option linter.unusedVariables false
set_option linter.unusedSimpArgs false
namespace Go.Proofs.YtmkpgddfoaglpaaGreatDoor.PG
open Go.RowKit Go.Proofs.YtmkpgddfoaglpaaGreatDoorW.PrintWords Go.Proofs.YtmkpgddfoaglpaaGreatDoorW.PrintLast Go.Proofs.YtmkpgddfoaglpaaGreatDoor.Gn Go.Proofs.YtmkpgddfoaglpaaGreatDoor.Sem
theorem impl_name (s : ByteArray) : impl_NameRight.f s = some (nameB s) := by
 unfold impl_NameRight.f nameB
 by_cases h1 : (s.size : Int) ≥ 1
 · rw [if_pos h1, decide_eq_true (show 1 ≤ s.size by omega), Bool.true_and]
   by_cases h2 : (s.size : Int) ≤ 20
   · rw [if_pos h2, if_pos (by omega), decide_eq_true (show s.size ≤ 20 by omega), Bool.true_and]
     unfold isLo
     by_cases h3 : bt s 0 ≥ 97
     · rw [if_pos h3, decide_eq_true (show 97 ≤ bt s 0 by omega), Bool.true_and]
       by_cases h4 : bt s 0 ≤ 122
       · rw [if_pos h4, decide_eq_true h4, Bool.true_and]
         have hk : trimOk s (⟨#[97, 98, 99, 100, 101, 102, 103, 104, 105, 106, 107, 108, 109, 110, 111, 112, 113, 114, 115, 116, 117, 118, 119, 120, 121, 122, 48, 49, 50, 51, 52, 53, 54, 55, 56, 57, 95]⟩ : ByteArray) = true := by
           unfold trimOk
           rw [decide_eq_true (show s.size ≤ 9223372036854775807 by omega), Bool.true_and]
           decide
         unfold strings_Trim.f
         rw [if_pos hk, Option.bind_some, ByteArray.toList_eq]
         congr 1
         refine (trimS_nil s.data.toList nmSet).trans ?_
         exact all_bytes s (nmSet.contains ·) isNm nm_set
       · rw [if_neg h4, decide_eq_false h4, Bool.false_and]
     · rw [if_neg h3, decide_eq_false (show ¬ 97 ≤ bt s 0 by omega), Bool.false_and, Bool.false_and]
   · rw [if_neg h2, decide_eq_false (show ¬ s.size ≤ 20 by omega), Bool.false_and]
 · rw [if_neg h1, decide_eq_false (show ¬ 1 ≤ s.size by omega), Bool.false_and]
theorem spec_name_loop (s : ByteArray) (hs : s.size ≤ 20) : Ev (fun k => spec_NameRight.l0 k s 0) ((List.range s.size).all fun j => isLo (bt s (j : Int)) || (decide (j ≠ 0) && (isDi (bt s (j : Int)) || decide (bt s (j : Int) = 95)))) := by
 refine bytes_loop s (fun j c => isLo c || (decide (j ≠ 0) && (isDi c || decide (c = 95)))) (fun k i => spec_NameRight.l0 k s i) (fun k i hi => ?_) (fun k => ?_)
 · simp only [spec_NameRight.l0]
   rw [if_pos (by omega), if_pos (by omega), wsucc (by omega) (by omega)]
   have e0 : ((i : Int) + 1) = ((i + 1 : Nat) : Int) := by omega
   rw [e0]
   unfold isLo isDi
   generalize bt s (i : Int) = c
   by_cases h1 : 97 ≤ c <;> by_cases h2 : c ≤ 122 <;> by_cases h3 : i = 0 <;> by_cases h4 : 48 ≤ c <;> by_cases h5 : c ≤ 57 <;> by_cases h6 : c = 95 <;> simp [h1, h2, h3, h4, h5, h6] <;> omega
 · simp only [spec_NameRight.l0]
   rw [if_neg (by omega)]
theorem spec_name (s : ByteArray) : Ev (fun k => spec_NameRight.f k s) (nameB s) := by
 unfold nameB
 by_cases h1 : (s.size : Int) < 1
 · rw [decide_eq_false (show ¬ 1 ≤ s.size by omega), Bool.false_and]
   refine Ev_one (fun k => ?_)
   unfold spec_NameRight.f
   rw [if_pos h1]
   simp [spec_NameRight.j0]
 · rw [decide_eq_true (show 1 ≤ s.size by omega), Bool.true_and]
   by_cases h2 : s.size ≤ 20
   · rw [decide_eq_true h2, Bool.true_and]
     have e : (isLo (bt s 0) && (List.range s.size).all fun j => isNm (bt s (j : Int))) = (List.range s.size).all fun j => isLo (bt s (j : Int)) || (decide (j ≠ 0) && (isDi (bt s (j : Int)) || decide (bt s (j : Int) = 95))) := by
       rw [Bool.eq_iff_iff, Bool.and_eq_true, List.all_eq_true, List.all_eq_true]
       constructor
       · rintro ⟨h3, h4⟩ j hj
         have := h4 j hj
         by_cases hj0 : j = 0
         · subst hj0
           simp [h3]
         · simpa [isNm, hj0] using this
       · intro h3
         have h0 := h3 0 (by simp; omega)
         refine ⟨by simpa using h0, fun j hj => ?_⟩
         have := h3 j hj
         simp only [isNm, Bool.or_eq_true, Bool.and_eq_true] at this ⊢
         rcases this with h | ⟨_, h⟩
         · exact .inl h
         · exact .inr h
     rw [e]
     refine Ev.step (f := fun k => spec_NameRight.l0 k s 0) (fun k => ?_) (spec_name_loop s h2)
     unfold spec_NameRight.f
     rw [if_neg h1, decide_eq_false (by omega)]
     simp [spec_NameRight.j0]
   · rw [decide_eq_false h2, Bool.false_and]
     refine Ev_one (fun k => ?_)
     unfold spec_NameRight.f
     rw [if_neg h1, decide_eq_true (by omega)]
     simp [spec_NameRight.j0]
end Go.Proofs.YtmkpgddfoaglpaaGreatDoor.PG
/-
 The looks for printable bytes and for a number's bounds, of the program and of the reference, come to the same plain tests; loops that look at every place. No condition but the bounds on lengths that are stated.
-/
namespace Go.Proofs.YtmkpgddfoaglpaaGreatDoor.PG
open Go.RowKit Go.Proofs.YtmkpgddfoaglpaaGreatDoorW.PrintWords Go.Proofs.YtmkpgddfoaglpaaGreatDoorW.PrintLast Go.Proofs.YtmkpgddfoaglpaaGreatDoorW.PrintMore Go.Proofs.YtmkpgddfoaglpaaGreatDoor.Gn Go.Proofs.YtmkpgddfoaglpaaGreatDoor.Sem
theorem impl_plain (s : ByteArray) (hs : s.size ≤ 9223372036854775807) : Ev (fun k => impl_isPrintable.f k s) (plainB s) := by
 unfold impl_isPrintable.f plainB
 refine bytes_loop s (fun _ c => decide (32 ≤ c) && decide (c ≤ 126)) (fun k i => impl_isPrintable.l0 k s (s.size : Int) i) (fun k i hi => ?_) (fun k => ?_)
 · simp only [impl_isPrintable.l0]
   rw [if_pos (by omega), if_pos (by omega), if_pos (by omega), wsucc (by omega) (by omega)]
   have e0 : ((i : Int) + 1) = ((i + 1 : Nat) : Int) := by omega
   rw [e0]
   by_cases h1 : bt s (i : Int) < 32
   · rw [if_pos h1, decide_eq_false (by omega), Bool.false_and, if_neg Bool.false_ne_true]
   · rw [if_neg h1, decide_eq_true (by omega), Bool.true_and]
     by_cases h2 : bt s (i : Int) > 126
     · rw [if_pos h2, decide_eq_false (by omega), if_neg Bool.false_ne_true]
     · rw [if_neg h2, decide_eq_true (by omega), if_pos rfl]
 · simp only [impl_isPrintable.l0]
   rw [if_neg (by omega)]
theorem spec_plain (s : ByteArray) (hs : s.size ≤ 9223372036854775807) : Ev (fun k => spec_l02Plain.f k s) (plainB s) := by
 unfold spec_l02Plain.f plainB
 refine bytes_loop s (fun _ c => decide (32 ≤ c) && decide (c ≤ 126)) (fun k i => spec_l02Plain.l0 k s i) (fun k i hi => ?_) (fun k => ?_)
 · simp only [spec_l02Plain.l0]
   rw [if_pos (by omega), if_pos (by omega), wsucc (by omega) (by omega)]
   have e0 : ((i : Int) + 1) = ((i + 1 : Nat) : Int) := by omega
   rw [e0]
   by_cases h1 : bt s (i : Int) < 32
   · rw [if_pos h1, decide_eq_false (by omega), Bool.false_and, if_neg Bool.false_ne_true]
   · rw [if_neg h1, decide_eq_true (by omega), Bool.true_and]
     by_cases h2 : bt s (i : Int) > 126
     · rw [if_pos h2, decide_eq_false (by omega), if_neg Bool.false_ne_true]
     · rw [if_neg h2, decide_eq_true (by omega), if_pos rfl]
 · simp only [spec_l02Plain.l0]
   rw [if_neg (by omega)]
theorem between_eq (n a b : Int) : impl_between.f n a b = some (decide (a ≤ n) && decide (n ≤ b)) := by
 unfold impl_between.f
 by_cases h : n ≥ a
 · rw [if_pos h, decide_eq_true (show a ≤ n by omega), Bool.true_and]
 · rw [if_neg h, decide_eq_false (show ¬ a ≤ n by omega), Bool.false_and]
theorem all_loop (g : Nat → Int → Option Bool) (p : Nat → Bool) (n : Nat) (e : Bool) (hend : Ev (fun k => g k (n : Int)) e)
   (hstep : ∀ i, i < n → ∀ v, Ev (fun k => g k ((i + 1 : Nat) : Int)) v → Ev (fun k => g k (i : Int)) (p i && v)) : Ev (fun k => g k 0) ((List.range n).all p && e) := by
 have key : ∀ r i, i + r = n → Ev (fun k => g k (i : Int)) ((List.range' i r).all p && e) := by
   intro r
   induction r with
   | zero => intro i hi; obtain rfl : i = n := by omega
             simpa using hend
   | succ r ih =>
     intro i hi
     rw [List.range'_succ, List.all_cons, Bool.and_assoc]
     exact hstep i (by omega) _ (ih (i + 1) (by omega))
 rw [List.range_eq_range']
 exact key n 0 (by omega)
end Go.Proofs.YtmkpgddfoaglpaaGreatDoor.PG
/-
 slices_ContainsFunc_Rdn: what it comes to for whatever function value tells a test. Conditions: what is asked of the function value (hcall).
-/
namespace Go.Proofs.YtmkpgddfoaglpaaGreatDoor.PG
open Go.RowKit Go.Proofs.YtmkpgddfoaglpaaGreatDoorW.PrintWords Go.Proofs.YtmkpgddfoaglpaaGreatDoorW.PrintLast Go.Proofs.YtmkpgddfoaglpaaGreatDoorW.PrintMore Go.Proofs.YtmkpgddfoaglpaaGreatDoor.Gn
attribute [local go_sem] max2_int min2_int max_two min_two max_three min_three max_four min_four
theorem slices_ContainsFunc_Rdn.any_in (l : List (S151)) (g : Nat) (lb : Array Value) (E : World → Prop) (p : S151 → Bool) (hE : ∀ W W', Below W.heap.size W W' → E W → E W')
   (hcall : ∀ (W : World) (x : S151) (cs : List Value), x ∈ l → E W → Kd.K k151 W x cs → Calls Tryz.prog g (#[.agg cs.toArray] ++ lb) W fun e w' => e = .returned (.bool (p x)) ∧ Below W.heap.size W w')
   (eg : ∀ args w, (callFunc g args).run Tryz.prog w = .ok (.enter g args) w)
   (A : Option Addr) (c : Nat) (w : World) (hr : Kd.C k151 w A l.length l) (he : E w) :
   Calls Tryz.prog 252 #[.slice A l.length c, .func (.func g) #[] lb] w fun e w' => e = .returned (.bool (l.any p)) ∧ Below w.heap.size w w' := by
 have hcon := slices_IndexFunc_Rdn.any_in l g lb E p hE hcall eg A c w hr he
 have HI := Aside0.mk (idx_any p l)
 generalize idx p l = r at hcon HI
 generalize l.any p = b at HI ⊢
 clear hr he hE hcall
 go_enter Tryz.func252, Tryz.ntmps252
 go_wp2_with (go_at_call 299; refine hcon.mono ?_; rintro e w' ⟨rfl, hb'⟩)
 go_ret
 exact ⟨by rw [← HI.out]; rfl, hb'⟩
theorem slices_ContainsFunc_Rdn.any_ (g : Nat) (lb : Array Value) (E : World → Prop) (p : S151 → Bool) (hE : ∀ W W', Below W.heap.size W W' → E W → E W')
   (hcall : ∀ (W : World) (x : S151) (cs : List Value), E W → Kd.K k151 W x cs → Calls Tryz.prog g (#[.agg cs.toArray] ++ lb) W fun e w' => e = .returned (.bool (p x)) ∧ Below W.heap.size W w')
   (eg : ∀ args w, (callFunc g args).run Tryz.prog w = .ok (.enter g args) w)
   (A : Option Addr) (c : Nat) (l : List (S151)) (w : World) (hr : Kd.C k151 w A l.length l) (he : E w) :
   Calls Tryz.prog 252 #[.slice A l.length c, .func (.func g) #[] lb] w fun e w' => e = .returned (.bool (l.any p)) ∧ Below w.heap.size w w' :=
 slices_ContainsFunc_Rdn.any_in l g lb E p hE (fun W x cs _ h k => hcall W x cs h k) eg A c w hr he
end Go.Proofs.YtmkpgddfoaglpaaGreatDoor.PG
/-
 Marks of []string: what laws.markStringS writes is what laws.heldStringS finds. Plain Lean over the printed functions.
-/
namespace Go.Proofs.YtmkpgddfoaglpaaGreatDoor.PG
open Go.RowKit Go.Proofs.YtmkpgddfoaglpaaGreatDoorW.PrintWords Go.Proofs.YtmkpgddfoaglpaaGreatDoorW.PrintLast Go.Proofs.YtmkpgddfoaglpaaGreatDoorW.PrintMore Go.Proofs.YtmkpgddfoaglpaaGreatDoor.Gn
theorem mark_String_step (xs : List ByteArray) (x : Int) (i : Nat) (r : Int × List ByteArray) (hi : i < xs.length) (hl : xs.length ≤ 4000000000000000000) (h0 : 0 ≤ x) (hB : x + 1 ≤ 4000000000000000000) (h : Ev (fun k => laws_markStringS.l0 k (xs.set i (markT x)) (x + 1) ((i + 1 : Nat) : Int)) r) : Ev (fun k => laws_markStringS.l0 k xs x (i : Int)) r := by
 have hi1 : (i : Int) < (xs.length : Int) := by omega
 have hi2 : 0 ≤ (i : Int) := by omega
 have b0 : x ≤ 4000000000000000000 := by omega
 have e1 : wrap64 (x + 1) = x + 1 := mark_wrap h0 hB rfl (by decide)
 have e0 : wrap64 ((i : Int) + 1) = ((i + 1 : Nat) : Int) := mark_succ hi hl
 have hstep : ∀ k, laws_markStringS.l0 (k + 1) xs x (i : Int) = ((laws_markText.f k x).bind fun t0 => laws_markStringS.l0 k (xs.set i t0) (x + 1) ((i + 1 : Nat) : Int)) := fun k => by
   simp only [laws_markStringS.l0, if_pos hi1, if_pos hi2, e1, e0, Option.bind_some, Int.toNat_natCast]
 refine Ev.step hstep ?_
 refine Ev_bind (markT_ev b0) ?_
 exact h
theorem mark_String (xs : List ByteArray) (x : Int) (hl : xs.length ≤ 4000000000000000000) (h0 : 0 ≤ x) (hB : x + (1 : Nat) * xs.length ≤ 4000000000000000000) : Ev (fun k => laws_markStringS.f k xs x) (x + (1 : Nat) * xs.length, mkL markT 1 x xs.length) := by
 have h := mark_loop 1 markT (fun k xs x i => laws_markStringS.l0 k xs x i) 4000000000000000000 (fun k xs x i hi => by simp only [laws_markStringS.l0]; rw [if_neg (by omega)]) (fun xs x i r hi hl h0 hB h => mark_String_step xs x i r hi hl h0 hB h) xs.length 0 xs x (by omega) hl h0 hB
 exact Ev.congr (fun k => by unfold laws_markStringS.f; rfl) h
theorem held_String_step (xs : List ByteArray) (x : Int) (i : Nat) (r : Int) (hi : i < xs.length) (hl : xs.length ≤ 4000000000000000000) (h0 : 0 ≤ x) (hB : x + 1 ≤ 4000000000000000000) (hx : xs[i]'hi = markT x) (h : Ev (fun k => laws_heldStringS.l0 k xs (x + 1) ((i + 1 : Nat) : Int)) r) : Ev (fun k => laws_heldStringS.l0 k xs x (i : Int)) r := by
 have hi1 : (i : Int) < (xs.length : Int) := by omega
 have hi2 : 0 ≤ (i : Int) := by omega
 have b0 : x ≤ 4000000000000000000 := by omega
 have e1 : wrap64 (x + 1) = x + 1 := mark_wrap h0 hB rfl (by decide)
 have e0 : wrap64 ((i : Int) + 1) = ((i + 1 : Nat) : Int) := mark_succ hi hl
 have hrd : rdOf ByteArray.empty xs (i : Int) = markT x := by
   unfold rdOf
   rw [Int.toNat_natCast, getD_at hi, hx]
 have hstep : ∀ k, laws_heldStringS.l0 (k + 1) xs x (i : Int) = ((laws_markText.f k x).bind fun t0 => if (markT x).toList = t0.toList then laws_heldStringS.l0 k xs (x + 1) ((i + 1 : Nat) : Int) else some (-1)) := fun k => by
   simp only [laws_heldStringS.l0, if_pos hi1, if_pos hi2, e1, e0, hrd, bne_self_eq_false, Bool.false_eq_true, if_false, if_true, eq_self_iff_true]
 refine Ev.step hstep ?_
 refine Ev_bind (markT_ev b0) ?_
 refine Ev.congr (fun k => by rw [if_pos rfl]) ?_
 exact h
theorem held_String (m : Nat) (x : Int) (hl : m ≤ 4000000000000000000) (h0 : 0 ≤ x) (hB : x + (1 : Nat) * m ≤ 4000000000000000000) : Ev (fun k => laws_heldStringS.f k (mkL markT 1 x m) x) (x + (1 : Nat) * m) := by
 have h := held_loop 1 markT (fun k xs x i => laws_heldStringS.l0 k xs x i) 4000000000000000000 (fun k xs x i hi => by simp only [laws_heldStringS.l0]; rw [if_neg (by omega)]) (fun xs x i r hi hl h0 hB hx h => held_String_step xs x i r hi hl h0 hB hx h) m 0 (mkL markT 1 x m) x (by rw [mkL_length]; omega) (by rw [mkL_length]; exact hl) h0 hB rfl
 exact Ev.congr (fun k => by unfold laws_heldStringS.f; rfl) h
end Go.Proofs.YtmkpgddfoaglpaaGreatDoor.PG
/-
 Marks of []Rdn: what laws.markRdnS writes is what laws.heldRdnS finds. Plain Lean over the printed functions.
-/
namespace Go.Proofs.YtmkpgddfoaglpaaGreatDoor.PG
open Go.RowKit Go.Proofs.YtmkpgddfoaglpaaGreatDoorW.PrintWords Go.Proofs.YtmkpgddfoaglpaaGreatDoorW.PrintLast Go.Proofs.YtmkpgddfoaglpaaGreatDoorW.PrintMore Go.Proofs.YtmkpgddfoaglpaaGreatDoor.Gn
noncomputable def mk_Rdn (x : Int) : S151 := ⟨markT (x), markT (x + 1)⟩
theorem mark_Rdn_step (xs : List S151) (x : Int) (i : Nat) (r : Int × List S151) (hi : i < xs.length) (hl : xs.length ≤ 4000000000000000000) (h0 : 0 ≤ x) (hB : x + 2 ≤ 4000000000000000000) (h : Ev (fun k => laws_markRdnS.l0 k (xs.set i (mk_Rdn x)) (x + 2) ((i + 1 : Nat) : Int)) r) : Ev (fun k => laws_markRdnS.l0 k xs x (i : Int)) r := by
 have hi1 : (i : Int) < (xs.length : Int) := by omega
 have hi2 : 0 ≤ (i : Int) := by omega
 have b0 : x ≤ 4000000000000000000 := by omega
 have b1 : x + 1 ≤ 4000000000000000000 := by omega
 have e1 : wrap64 (x + 1) = x + 1 := mark_wrap h0 hB (rfl) (by decide)
 have e2 : wrap64 (x + 1 + 1) = x + 2 := mark_wrap h0 hB (by rw [Int.add_assoc]; rfl) (by decide)
 have e0 : wrap64 ((i : Int) + 1) = ((i + 1 : Nat) : Int) := mark_succ hi hl
 have hrd : ∀ v : S151, rd_T151 (xs.set i v) (i : Int) = v := fun v => by
   unfold rd_T151
   rw [Int.toNat_natCast, getD_at (by rw [List.length_set]; exact hi), List.getElem_set_self]
 have hstep : ∀ k, laws_markRdnS.l0 (k + 1) xs x (i : Int) = ((laws_markText.f k (x)).bind fun t0 => ((laws_markText.f k (x + 1)).bind fun t1 => laws_markRdnS.l0 k (xs.set i ⟨t0, t1⟩) (x + 2) ((i + 1 : Nat) : Int))) := fun k => by
   simp only [laws_markRdnS.l0, if_pos hi1, if_pos hi2, e1, e2, e0, Option.bind_some, hrd, List.set_set, Int.toNat_natCast]
 refine Ev.step hstep ?_
 refine Ev_bind (markT_ev b0) ?_
 refine Ev_bind (markT_ev b1) ?_
 exact h
theorem mark_Rdn (xs : List S151) (x : Int) (hl : xs.length ≤ 4000000000000000000) (h0 : 0 ≤ x) (hB : x + 2 * xs.length ≤ 4000000000000000000) : Ev (fun k => laws_markRdnS.f k xs x) (x + 2 * xs.length, mkL mk_Rdn 2 x xs.length) := by
 have h := mark_loop 2 mk_Rdn (fun k xs x i => laws_markRdnS.l0 k xs x i) 4000000000000000000 (fun k xs x i hi => by simp only [laws_markRdnS.l0]; rw [if_neg (by omega)]) (fun xs x i r hi hl h0 hB h => mark_Rdn_step xs x i r hi hl h0 hB h) xs.length 0 xs x (by omega) hl h0 hB
 exact Ev.congr (fun k => by unfold laws_markRdnS.f; rfl) h
theorem held_Rdn_step (xs : List S151) (x : Int) (i : Nat) (r : Int) (hi : i < xs.length) (hl : xs.length ≤ 4000000000000000000) (h0 : 0 ≤ x) (hB : x + 2 ≤ 4000000000000000000) (hx : xs[i]'hi = mk_Rdn x) (h : Ev (fun k => laws_heldRdnS.l0 k xs (x + 2) ((i + 1 : Nat) : Int)) r) : Ev (fun k => laws_heldRdnS.l0 k xs x (i : Int)) r := by
 have hi1 : (i : Int) < (xs.length : Int) := by omega
 have hi2 : 0 ≤ (i : Int) := by omega
 have b0 : x ≤ 4000000000000000000 := by omega
 have b1 : x + 1 ≤ 4000000000000000000 := by omega
 have e1 : wrap64 (x + 1) = x + 1 := mark_wrap h0 hB (rfl) (by decide)
 have e2 : wrap64 (x + 1 + 1) = x + 2 := mark_wrap h0 hB (by rw [Int.add_assoc]; rfl) (by decide)
 have e0 : wrap64 ((i : Int) + 1) = ((i + 1 : Nat) : Int) := mark_succ hi hl
 have hrd : rd_T151 xs (i : Int) = ⟨markT (x), markT (x + 1)⟩ := by
   unfold rd_T151
   rw [Int.toNat_natCast, getD_at hi, hx]
   rfl
 have hstep : ∀ k, laws_heldRdnS.l0 (k + 1) xs x (i : Int) = ((laws_markText.f k (x)).bind fun t0 => if (markT (x)).toList = t0.toList then ((laws_markText.f k (x + 1)).bind fun t1 => if (markT (x + 1)).toList = t1.toList then laws_heldRdnS.l0 k xs (x + 2) ((i + 1 : Nat) : Int) else some (-1)) else some (-1)) := fun k => by
   simp only [laws_heldRdnS.l0, if_pos hi1, if_pos hi2, e1, e2, e0, hrd, bne_self_eq_false, Bool.false_eq_true, if_false, if_true, eq_self_iff_true]
 refine Ev.step hstep ?_
 refine Ev_bind (markT_ev b0) ?_
 refine Ev.congr (fun k => by rw [if_pos rfl]) ?_
 refine Ev_bind (markT_ev b1) ?_
 refine Ev.congr (fun k => by rw [if_pos rfl]) ?_
 exact h
theorem held_Rdn (m : Nat) (x : Int) (hl : m ≤ 4000000000000000000) (h0 : 0 ≤ x) (hB : x + 2 * m ≤ 4000000000000000000) : Ev (fun k => laws_heldRdnS.f k (mkL mk_Rdn 2 x m) x) (x + 2 * m) := by
 have h := held_loop 2 mk_Rdn (fun k xs x i => laws_heldRdnS.l0 k xs x i) 4000000000000000000 (fun k xs x i hi => by simp only [laws_heldRdnS.l0]; rw [if_neg (by omega)]) (fun xs x i r hi hl h0 hB hx h => held_Rdn_step xs x i r hi hl h0 hB hx h) m 0 (mkL mk_Rdn 2 x m) x (by rw [mkL_length]; omega) (by rw [mkL_length]; exact hl) h0 hB rfl
 exact Ev.congr (fun k => by unfold laws_heldRdnS.f; rfl) h
end Go.Proofs.YtmkpgddfoaglpaaGreatDoor.PG
/-
 The laws' helpers at Rdn: sizes, copies, equality, as plain functions. No condition but those stated.
-/
namespace Go.Proofs.YtmkpgddfoaglpaaGreatDoor.PG
open Go.RowKit Go.Proofs.YtmkpgddfoaglpaaGreatDoorW.PrintWords Go.Proofs.YtmkpgddfoaglpaaGreatDoorW.PrintLast Go.Proofs.YtmkpgddfoaglpaaGreatDoorW.PrintMore Go.Proofs.YtmkpgddfoaglpaaGreatDoor.Gn Go.Proofs.YtmkpgddfoaglpaaGreatDoor
def conv_Rdn (x : S149) : S151 := ⟨x.f0, x.f1⟩
def small_Rdn (x : S149) : Prop := x.f0.size ≤ 1048576 ∧ x.f1.size ≤ 1048576
theorem sz_Rdn (x : S149) (hf : Ft.fit149 x) : ∀ acc : Int, 0 ≤ acc → acc ≤ 1048576 → ∃ r, Ev (fun k => laws_szRdn.f x.f0 x.f1 acc) r ∧ r ≤ acc ∧ (0 ≤ r → small_Rdn x) := by
 intro acc a0 a1
 obtain ⟨h0, h1⟩ := hf
 unfold laws_szRdn.f
 have h0' : x.f0.size ≤ 140737488351232 := h0
 have e0 : wrap64 (acc - (x.f0.size : Int)) = acc - (x.f0.size : Int) := w_id (by omega) (by omega)
 generalize wrap64 (acc - (x.f0.size : Int)) = b0 at e0 ⊢
 refine sz_str (b := b0) (by omega) (by omega) (fun h => by simp only [if_pos h]; exact Ev.now _) (fun p0 => ?_)
 simp only [if_neg (show ¬ b0 < 0 by omega)]
 have h1' : x.f1.size ≤ 140737488351232 := h1
 have e1 : wrap64 (b0 - (x.f1.size : Int)) = b0 - (x.f1.size : Int) := w_id (by omega) (by omega)
 generalize wrap64 (b0 - (x.f1.size : Int)) = b1 at e1 ⊢
 refine sz_str (b := b1) (by omega) (by omega) (fun h => by simp only [if_pos h]; exact Ev.now _) (fun p1 => ?_)
 simp only [if_neg (show ¬ b1 < 0 by omega)]
 exact ⟨_, Ev.now _, Int.le_refl _, fun _ => ⟨by omega, by omega⟩⟩
theorem to_Rdn (x : S149) (hf : Ft.fit149 x) : Ev (fun k => laws_toRdn.f x.f0 x.f1) ((conv_Rdn x).f0, (conv_Rdn x).f1) := by
 obtain ⟨h0, h1⟩ := hf
 unfold laws_toRdn.f
 exact Ev.now _
def lens_Rdn (y : S151) : Prop := True ∧ True
theorem eq_Rdn (y : S151) (hf : lens_Rdn y) : Ev (fun k => laws_eqRdn.f y.f0 y.f1 y.f0 y.f1) true := by
 obtain ⟨h0, h1⟩ := hf
 unfold laws_eqRdn.f
 (try simp only [if_true, eq_self_iff_true, bne_self_eq_false, Bool.false_eq_true, if_false, reduceIte, reduceCtorEq])
 exact Ev.now _
theorem lens_conv_Rdn (x : S149) (h : small_Rdn x) : lens_Rdn (conv_Rdn x) := by
 obtain ⟨h0, h1⟩ := h
 exact ⟨trivial, trivial⟩
def small_RdnS (l : List S149) : Prop := l.length ≤ 1048576 ∧ ∀ x, x ∈ l → small_Rdn x
theorem sz_RdnS (l : List S149) (hf : Ft.fit36 l) : ∀ acc : Int, 0 ≤ acc → acc ≤ 1048576 → ∃ r, Ev (fun k => laws_szRdnS.f k l acc) r ∧ r ≤ acc ∧ (0 ≤ r → small_RdnS l) := by
 have hl : l.length * 32 ≤ 140737488351232 := hf.1
 exact sz_slice (fun _ _ _ => rfl) l (by omega) (sz_loop (rdx := rd_T149) (z := z149) (fun _ _ => rfl) (e := fun k x acc => laws_szRdn.f x.f0 x.f1 acc) (l := laws_szRdnS.l0) (small := small_Rdn) (fun _ _ _ _ => rfl) l (by omega) (fun x hx => sz_Rdn x (hf.2 x hx)))
theorem to_RdnS (l : List S149) (hf : Ft.fit36 l) : Ev (fun k => laws_toRdnS.f k l) (l.map conv_Rdn) := by
 have hl : l.length * 32 ≤ 140737488351232 := hf.1
 unfold laws_toRdnS.f
 simp only [if_pos (show 0 ≤ (l.length : Int) by omega), if_pos (show (l.length : Int).toNat ≤ 8796093022208 by omega)]
 exact to_loop (rdx := rd_T149) (z := z149) (fun _ _ => rfl) (c := fun k x => laws_toRdn.f x.f0 x.f1) (mk := fun b => (⟨b.1, b.2⟩ : S151)) (l := laws_toRdnS.l0) (fun _ _ _ _ => rfl) l (by omega) conv_Rdn (fun x hx => ⟨_, to_Rdn x (hf.2 x hx), rfl⟩) _ (by simp)
def lens_RdnS (l : List S151) : Prop := l.length ≤ 9223372036854775807 ∧ ∀ y, y ∈ l → lens_Rdn y
theorem eq_RdnS (l : List S151) (hf : lens_RdnS l) : Ev (fun k => laws_eqRdnS.f k l l) true := by
 unfold laws_eqRdnS.f
 simp only [if_true, eq_self_iff_true]
 exact eq_loop (rdx := rd_T151) (z := z151) (fun _ _ => rfl) (e := fun k a b => laws_eqRdn.f a.f0 a.f1 b.f0 b.f1) (l := laws_eqRdnS.l0) (fun _ _ _ _ => rfl) l hf.1 (fun x hx => eq_Rdn x (hf.2 x hx))
theorem lens_conv_RdnS (l : List S149) (h : small_RdnS l) : lens_RdnS (l.map conv_Rdn) := by
 refine ⟨by rw [List.length_map]; have := h.1; omega, fun y hy => ?_⟩
 obtain ⟨x, hx, rfl⟩ := List.mem_map.1 hy
 exact lens_conv_Rdn x (h.2 x hx)
end Go.Proofs.YtmkpgddfoaglpaaGreatDoor.PG
/-
 The laws' helpers at StringS: sizes, copies, equality, as plain functions. No condition but those stated.
-/
namespace Go.Proofs.YtmkpgddfoaglpaaGreatDoor.PG
open Go.RowKit Go.Proofs.YtmkpgddfoaglpaaGreatDoorW.PrintWords Go.Proofs.YtmkpgddfoaglpaaGreatDoorW.PrintLast Go.Proofs.YtmkpgddfoaglpaaGreatDoorW.PrintMore Go.Proofs.YtmkpgddfoaglpaaGreatDoor.Gn Go.Proofs.YtmkpgddfoaglpaaGreatDoor
def small_StringS (l : List ByteArray) : Prop := l.length ≤ 1048576 ∧ ∀ x, x ∈ l → x.size ≤ 1048576
theorem sz_StringS (l : List ByteArray) (hf : Ft.fit100 l) : ∀ acc : Int, 0 ≤ acc → acc ≤ 1048576 → ∃ r, Ev (fun k => laws_szStringS.f k l acc) r ∧ r ≤ acc ∧ (0 ≤ r → small_StringS l) := by
 have hl : l.length * 16 ≤ 140737488351232 := hf.1
 refine sz_slice (fun _ _ _ => rfl) l (by omega) (sz_loop (rdx := rdOf ByteArray.empty) (z := ByteArray.empty) (fun _ _ => rfl) (e := fun _ x acc => some (wrap64 (acc - (x.size : Int)))) (l := laws_szStringS.l0) (small := fun x => x.size ≤ 1048576) (fun _ _ _ _ => rfl) l (by omega) (fun x hx acc a0 a1 => ?_))
 have hx' : x.size ≤ 140737488351232 := hf.2 x hx
 rw [w_id (by omega) (by omega)]
 exact ⟨_, Ev.now _, by omega, fun h => by omega⟩
theorem to_StringS (l : List ByteArray) (hf : Ft.fit100 l) : Ev (fun k => laws_toStringS.f k l) l := by
 have hl : l.length * 16 ≤ 140737488351232 := hf.1
 unfold laws_toStringS.f
 simp only [if_pos (show 0 ≤ (l.length : Int) by omega), if_pos (show (l.length : Int).toNat ≤ 17592186044416 by omega)]
 have := to_loop (rdx := rdOf ByteArray.empty) (z := ByteArray.empty) (fun _ _ => rfl) (c := fun _ x => some x) (mk := fun b => b) (l := laws_toStringS.l0) (fun _ _ _ _ => rfl) l (by omega) (fun x => x) (fun x hx => ⟨_, Ev.now _, rfl⟩) (List.replicate (l.length : Int).toNat (⟨#[]⟩ : ByteArray)) (by simp)
 rw [List.map_id'] at this
 exact this
def lens_StringS (l : List ByteArray) : Prop := l.length ≤ 9223372036854775807
theorem eq_StringS (l : List ByteArray) (hf : lens_StringS l) : Ev (fun k => laws_eqStringS.f k l l) true := by
 unfold laws_eqStringS.f
 simp only [if_true, eq_self_iff_true]
 exact eq_strs (l := laws_eqStringS.l0) (fun _ _ _ _ => rfl) l hf
theorem lens_StringS_small (l : List ByteArray) (h : small_StringS l) : lens_StringS l := by
 have := h.1
 unfold lens_StringS
 omega
end Go.Proofs.YtmkpgddfoaglpaaGreatDoor.PG
/-
 A text is that of a right DN by one reading just where it is by the other, and then both read the same. Plain lists; no condition but that right names have no odd bytes.
-/
namespace Go.Proofs.YtmkpgddfoaglpaaGreatDoor.PG.DnPure
def readI (t : L) : List (L × L) := if t = [] then [] else rdI t false [] [] []
def readS (t : L) : List (L × L) := if t = [] then [] else (cutS t [] []).map rdnS
theorem read_txt {esc : L → L} (he : ∀ v, Esc (esc v) v) (d : List (L × L)) (h : ∀ y ∈ d, NameL y.1) : readI (txt esc d) = d ∧ readS (txt esc d) = d := by
 unfold readI readS
 cases d with
 | nil => simp [txt]
 | cons x l =>
   have hne : txt esc (x :: l) ≠ [] := by simp [txt, one]
   rw [if_neg hne, if_neg hne]
   have e1 : txt esc (x :: l) = one esc x ++ l.flatMap fun y => 44 :: one esc y := rfl
   refine ⟨?_, ?_⟩
   · rw [e1, rdI_txt he l x [] h, List.nil_append]
   · rw [e1, cutS_txt he l x [] h, List.nil_append, List.map_map]
     have : ∀ y ∈ x :: l, (rdnS ∘ one esc) y = y := fun y hy => rdnS_one he y (h y hy)
     rw [List.map_congr_left this]
     simp
theorem read_same {esc : L → L} (he : ∀ v, Esc (esc v) v) (right : List (L × L) → Bool) (hr : ∀ d, right d = true → ∀ y ∈ d, NameL y.1) (t : L) :
   (right (readI t) && decide (txt esc (readI t) = t)) = (right (readS t) && decide (txt esc (readS t) = t)) ∧ ((right (readI t) && decide (txt esc (readI t) = t)) = true → readI t = readS t) := by
 have h1 : (right (readI t) && decide (txt esc (readI t) = t)) = true → readI t = readS t := by
   intro h
   simp only [Bool.and_eq_true, decide_eq_true_eq] at h
   have := (read_txt he (readI t) (hr _ h.1)).2
   rw [h.2] at this
   exact this.symm
 have h2 : (right (readS t) && decide (txt esc (readS t) = t)) = true → readI t = readS t := by
   intro h
   simp only [Bool.and_eq_true, decide_eq_true_eq] at h
   have := (read_txt he (readS t) (hr _ h.1)).1
   rw [h.2] at this
   exact this
 refine ⟨?_, h1⟩
 cases ha : (right (readI t) && decide (txt esc (readI t) = t)) with
 | true => rw [h1 ha] at ha; exact ha.symm
 | false =>
   cases hb : (right (readS t) && decide (txt esc (readS t) = t)) with
   | true => rw [h2 hb] at ha; rw [ha] at hb; exact hb
   | false => rfl
end Go.Proofs.YtmkpgddfoaglpaaGreatDoor.PG.DnPure
/-
 slices.Clone on []Rdn: a row of the call's own with the same elements. Condition: the row's size.
-/
namespace Go.Proofs.YtmkpgddfoaglpaaGreatDoor.PG
open Go.RowKit Go.Proofs.YtmkpgddfoaglpaaGreatDoorW.PrintWords Go.Proofs.YtmkpgddfoaglpaaGreatDoorW.PrintLast Go.Proofs.YtmkpgddfoaglpaaGreatDoorW.PrintMore Go.Proofs.YtmkpgddfoaglpaaGreatDoor.Gn
attribute [local go_sem] max2_int min2_int max_two min_two max_three min_three max_four min_four
theorem clone_Rdn (A : Option Addr) (c : Nat) (l : List S151) (w : World) (hr : Kd.C k151 w A l.length l) (hc : l.length ≤ c) (hb : l.length * 32 ≤ 140737488355328) :
   Calls Tryz.prog 259 #[.slice A l.length c] w fun e w' => ∃ v, e = .returned v ∧ Kd.R k151 151 w' w.heap.size (fun _ => True) v l ∧ Below w.heap.size w w' := by
 have HR := Aside0.mk hr
 have HBY := Aside0.mk hb
 cases A with
 | none =>
   have hn0 : l.length = 0 := by
     rcases Nat.eq_zero_or_pos l.length with h | h
     · exact h
     · obtain ⟨ad, _, h1, _⟩ := Kd.C_get hr z151 0 (by omega) (by omega)
       cases h1
   obtain rfl : l = [] := List.eq_nil_of_length_eq_zero hn0
   have hq : ∀ (n c : Nat) (w : World), Sem.run Tryz.prog (binOp .eql 41 (.slice none n c) (.slice none 0 0)) w = .ok (.bool true) w := fun n c w => by kernel_rfl
   clear hr hb hn0 HR HBY
   go_enter Tryz.func259, Tryz.ntmps259
   go_wp2
   go_ret
   exact ⟨_, rfl, Kd.R_nil _ _ _ _ _, Below.refl _ _⟩
 | some ad =>
   have hq : ∀ (n c : Nat) (w : World), Sem.run Tryz.prog (binOp .eql 41 (.slice (some ad) n c) (.slice none 0 0)) w = .ok (.bool false) w := fun n c w => by kernel_rfl
   clear hr hb
   go_enter Tryz.func259, Tryz.ntmps259
   go_wp2_with (((with_reducible refine gate_builtin (b := .append) (xs := #[.tmp 5, .tmp 6]) rfl ?_); at_builtin; refine Kd.R_append_rows k151 (w0 := w) w.heap.size rfl (.tmp 5) (.tmp 6) 41 151 (.agg #[(.string ⟨#[]⟩), (.string ⟨#[]⟩)]) 32 rfl Tryz.underlying41 info151 rfl (by decide) (by omega) _ [] l _ _ _ (fun _ => True) (fun _ => False) rfl rfl ?aO ?aR (fun _ _ h => h) (fun _ h => h.elim) ?aF ?aB ?aS ?aL ?_); (case aO => exact R_empty _ _ _); (case aR => exact Kd.C_below HR.out (below_alloc (Below.refl _ _) _)); (case aF => exact fun _ _ => trivial); (case aB => exact below_alloc (Below.refl _ _) _); (case aS => simp); (case aL => have := HBY.out; simpa using this); intro v1 w1 hv hb1 hg1 hx)
   go_ret
   exact ⟨_, rfl, hv, hb1⟩
end Go.Proofs.YtmkpgddfoaglpaaGreatDoor.PG
/-
 slices.Clone on []string: a row of the call's own with the same elements. Condition: the row's size.
-/
namespace Go.Proofs.YtmkpgddfoaglpaaGreatDoor.PG
open Go.RowKit Go.Proofs.YtmkpgddfoaglpaaGreatDoorW.PrintWords Go.Proofs.YtmkpgddfoaglpaaGreatDoorW.PrintLast Go.Proofs.YtmkpgddfoaglpaaGreatDoorW.PrintMore Go.Proofs.YtmkpgddfoaglpaaGreatDoor.Gn
attribute [local go_sem] max2_int min2_int max_two min_two max_three min_three max_four min_four
theorem clone_string (A : Option Addr) (c : Nat) (l : List ByteArray) (w : World) (hr : Kd.C Kd.string w A l.length l) (hc : l.length ≤ c) (hb : l.length * 16 ≤ 140737488355328) :
   Calls Tryz.prog 190 #[.slice A l.length c] w fun e w' => ∃ v, e = .returned v ∧ Kd.R Kd.string 9 w' w.heap.size (fun _ => True) v l ∧ Below w.heap.size w w' := by
 have HR := Aside0.mk hr
 have HBY := Aside0.mk hb
 cases A with
 | none =>
   have hn0 : l.length = 0 := by
     rcases Nat.eq_zero_or_pos l.length with h | h
     · exact h
     · obtain ⟨ad, _, h1, _⟩ := Kd.C_get hr ByteArray.empty 0 (by omega) (by omega)
       cases h1
   obtain rfl : l = [] := List.eq_nil_of_length_eq_zero hn0
   have hq : ∀ (n c : Nat) (w : World), Sem.run Tryz.prog (binOp .eql 100 (.slice none n c) (.slice none 0 0)) w = .ok (.bool true) w := fun n c w => by kernel_rfl
   clear hr hb hn0 HR HBY
   go_enter Tryz.func190, Tryz.ntmps190
   go_wp2
   go_ret
   exact ⟨_, rfl, Kd.R_nil _ _ _ _ _, Below.refl _ _⟩
 | some ad =>
   have hq : ∀ (n c : Nat) (w : World), Sem.run Tryz.prog (binOp .eql 100 (.slice (some ad) n c) (.slice none 0 0)) w = .ok (.bool false) w := fun n c w => by kernel_rfl
   clear hr hb
   go_enter Tryz.func190, Tryz.ntmps190
   go_wp2_with (((with_reducible refine gate_builtin (b := .append) (xs := #[.tmp 5, .tmp 6]) rfl ?_); at_builtin; refine Kd.R_append_rows Kd.string (w0 := w) w.heap.size rfl (.tmp 5) (.tmp 6) 100 9 ((.string ⟨#[]⟩)) 16 rfl Tryz.underlying100 info9 rfl (by decide) (by omega) _ [] l _ _ _ (fun _ => True) (fun _ => False) rfl rfl ?aO ?aR (fun _ _ h => h) (fun _ h => h.elim) ?aF ?aB ?aS ?aL ?_); (case aO => exact R_empty _ _ _); (case aR => exact Kd.C_below HR.out (below_alloc (Below.refl _ _) _)); (case aF => exact fun _ _ => trivial); (case aB => exact below_alloc (Below.refl _ _) _); (case aS => simp); (case aL => have := HBY.out; simpa using this); intro v1 w1 hv hb1 hg1 hx)
   go_ret
   exact ⟨_, rfl, hv, hb1⟩
end Go.Proofs.YtmkpgddfoaglpaaGreatDoor.PG
