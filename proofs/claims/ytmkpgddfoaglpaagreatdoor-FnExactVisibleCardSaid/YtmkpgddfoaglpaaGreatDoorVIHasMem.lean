/-
 Whether a word is in a list of words: the reference's look and slices.Contains. Plain Lean over the printed functions.
-/
import Derived.Shelf.Abstract
import Derived.Test.YtmkpgddfoaglpaaGreatDoorVIP3
import Derived.Test.YtmkpgddfoaglpaaGreatDoorVIFits
import Derived.Test.YtmkpgddfoaglpaaGreatDoorVIP1
import Derived.Test.YtmkpgddfoaglpaaGreatDoorVIGen
import Derived.Test.YtmkpgddfoaglpaaGreatDoorVICloslicesIndexFuncEntry
namespace Go.Proofs.YtmkpgddfoaglpaaGreatDoor.PG
set_option linter.unusedVariables false
set_option linter.unusedSimpArgs false
open Go.RowKit Go.Proofs.YtmkpgddfoaglpaaGreatDoorW.PrintWords Go.Proofs.YtmkpgddfoaglpaaGreatDoorW.PrintLast Go.Proofs.YtmkpgddfoaglpaaGreatDoorW.PrintMore Go.Proofs.YtmkpgddfoaglpaaGreatDoor.Gn
theorem rd_strM (l : List ByteArray) {i : Nat} (h : i < l.length) : rdOf ByteArray.empty l (i : Int) = l[i]'h := by
 unfold rdOf
 rw [Int.toNat_natCast, getD_at h]
theorem spec_has (l : List ByteArray) (x : ByteArray) (hl : l.length ≤ 1000000) : Ev (fun k => spec_l04Has.f k l x) (decide (x ∈ l)) := by
 have key : ∀ (m i : Nat), i + m = l.length → Ev (fun k => spec_l04Has.l0 k l x (i : Int)) (decide (x ∈ l.drop i)) := by
   intro m
   induction m with
   | zero =>
     intro i hi
     rw [List.drop_eq_nil_of_le (by omega)]
     exact Ev_one fun k => by simp only [spec_l04Has.l0]; rw [if_neg (by omega)]; simp
   | succ m ih =>
     intro i hi
     have hlt : i < l.length := by omega
     have h1 : (i : Int) < (l.length : Int) := by omega
     have h2 : 0 ≤ (i : Int) := by omega
     have er := rd_strM l hlt
     have e0 : wrap64 ((i : Int) + 1) = ((i + 1 : Nat) : Int) := by rw [wsucc (by omega) (by omega)]; omega
     rw [List.drop_eq_getElem_cons hlt]
     rcases Decidable.em ((l[i]'hlt) = x) with he | he
     · refine Ev_one fun k => ?_
       simp only [spec_l04Has.l0]
       rw [if_pos h1, if_pos h2, er, if_pos ((same_iff _ _).2 he)]
       simp [he]
     · have h := ih (i + 1) (by omega)
       refine Ev.step (fun k => ?_) (show Ev _ _ by rw [show decide (x ∈ (l[i]'hlt) :: l.drop (i + 1)) = decide (x ∈ l.drop (i + 1)) from decide_eq_decide.2 ⟨fun h => (List.mem_cons.1 h).resolve_left (fun e => he e.symm), fun h => List.mem_cons_of_mem _ h⟩]; exact h)
       simp only [spec_l04Has.l0]
       rw [if_pos h1, if_pos h2, er, if_neg (fun h => he ((same_iff _ _).1 h)), e0]
 have := key l.length 0 (by omega)
 unfold spec_l04Has.f
 simpa using this
theorem impl_has (l : List ByteArray) (x : ByteArray) (hl : l.length ≤ 1000000) : Ev (fun k => slices_Contains_string.f k l x) (decide (x ∈ l)) := by
 have key : ∀ (m i : Nat), i + m = l.length → ∃ r : Int, Ev (fun k => slices_Index_string.l0 k l x (l.length : Int) (i : Int)) r ∧ decide (r ≥ 0) = decide (x ∈ l.drop i) := by
   intro m
   induction m with
   | zero =>
     intro i hi
     refine ⟨-1, Ev_one fun k => ?_, ?_⟩
     · simp only [slices_Index_string.l0]
       rw [if_neg (by omega)]
     · rw [List.drop_eq_nil_of_le (by omega)]
       simp
   | succ m ih =>
     intro i hi
     have hlt : i < l.length := by omega
     have h1 : (i : Int) < (l.length : Int) := by omega
     have h2 : 0 ≤ (i : Int) := by omega
     have er := rd_strM l hlt
     have e0 : wrap64 ((i : Int) + 1) = ((i + 1 : Nat) : Int) := by rw [wsucc (by omega) (by omega)]; omega
     rw [List.drop_eq_getElem_cons hlt]
     rcases Decidable.em (x = (l[i]'hlt)) with he | he
     · refine ⟨i, Ev_one fun k => ?_, ?_⟩
       · simp only [slices_Index_string.l0]
         rw [if_pos h1, if_pos h2, if_pos h1, er, if_pos ((same_iff _ _).2 he)]
       · rw [decide_eq_true (show (i : Int) ≥ 0 by omega), decide_eq_true (show x ∈ (l[i]'hlt) :: l.drop (i + 1) from he ▸ List.mem_cons_self)]
     · obtain ⟨r, hr, hd⟩ := ih (i + 1) (by omega)
       refine ⟨r, Ev.step (fun k => ?_) hr, ?_⟩
       · simp only [slices_Index_string.l0]
         rw [if_pos h1, if_pos h2, if_pos h1, er, if_neg (fun h => he ((same_iff _ _).1 h)), e0]
       · rw [hd]
         exact decide_eq_decide.2 ⟨fun h => List.mem_cons_of_mem _ h, fun h => (List.mem_cons.1 h).resolve_left he⟩
 obtain ⟨r, hr, hd⟩ := key l.length 0 (by omega)
 rw [List.drop_zero] at hd
 rw [← hd]
 unfold slices_Contains_string.f
 refine Ev_bind (a := r) ?_ (Ev.now _)
 unfold slices_Index_string.f
 exact hr
end Go.Proofs.YtmkpgddfoaglpaaGreatDoor.PG
/-
 slices_ContainsFunc_Entry: what it comes to for whatever function value tells a test. Conditions: what is asked of the function value (hcall).
-/
namespace Go.Proofs.YtmkpgddfoaglpaaGreatDoor.PG
open Go.RowKit Go.Proofs.YtmkpgddfoaglpaaGreatDoorW.PrintWords Go.Proofs.YtmkpgddfoaglpaaGreatDoorW.PrintLast Go.Proofs.YtmkpgddfoaglpaaGreatDoorW.PrintMore Go.Proofs.YtmkpgddfoaglpaaGreatDoor.Gn
attribute [local go_sem] max2_int min2_int max_two min_two max_three min_three max_four min_four
set_option linter.unusedVariables false
set_option linter.unusedSimpArgs false
set_option maxHeartbeats 4000000 in
set_option maxRecDepth 100000 in
theorem slices_ContainsFunc_Entry.any_in (l : List (S44)) (g : Nat) (lb : Array Value) (E : World → Prop) (p : S44 → Bool) (hE : ∀ W W', Below W.heap.size W W' → E W → E W')
   (hcall : ∀ (W : World) (x : S44) (cs : List Value), x ∈ l → E W → Kd.K k44 W x cs → Calls Tryz.prog g (#[.agg cs.toArray] ++ lb) W fun e w' => e = .returned (.bool (p x)) ∧ Below W.heap.size W w')
   (eg : ∀ args w, (callFunc g args).run Tryz.prog w = .ok (.enter g args) w)
   (A : Option Addr) (c : Nat) (w : World) (hr : Kd.C k44 w A l.length l) (he : E w) :
   Calls Tryz.prog 75 #[.slice A l.length c, .func (.func g) #[] lb] w fun e w' => e = .returned (.bool (l.any p)) ∧ Below w.heap.size w w' := by
 have hcon := slices_IndexFunc_Entry.any_in l g lb E p hE hcall eg A c w hr he
 have HI := Aside0.mk (idx_any p l)
 generalize idx p l = r at hcon HI
 generalize l.any p = b at HI ⊢
 clear hr he hE hcall
 go_enter Tryz.func75, Tryz.ntmps75
 go_wp2_with (go_at_call 168; refine hcon.mono ?_; rintro e w' ⟨rfl, hb'⟩)
 go_ret
 exact ⟨by rw [← HI.out]; rfl, hb'⟩
theorem slices_ContainsFunc_Entry.any_ (g : Nat) (lb : Array Value) (E : World → Prop) (p : S44 → Bool) (hE : ∀ W W', Below W.heap.size W W' → E W → E W')
   (hcall : ∀ (W : World) (x : S44) (cs : List Value), E W → Kd.K k44 W x cs → Calls Tryz.prog g (#[.agg cs.toArray] ++ lb) W fun e w' => e = .returned (.bool (p x)) ∧ Below W.heap.size W w')
   (eg : ∀ args w, (callFunc g args).run Tryz.prog w = .ok (.enter g args) w)
   (A : Option Addr) (c : Nat) (l : List (S44)) (w : World) (hr : Kd.C k44 w A l.length l) (he : E w) :
   Calls Tryz.prog 75 #[.slice A l.length c, .func (.func g) #[] lb] w fun e w' => e = .returned (.bool (l.any p)) ∧ Below w.heap.size w w' :=
 slices_ContainsFunc_Entry.any_in l g lb E p hE (fun W x cs _ h k => hcall W x cs h k) eg A c w hr he
end Go.Proofs.YtmkpgddfoaglpaaGreatDoor.PG
