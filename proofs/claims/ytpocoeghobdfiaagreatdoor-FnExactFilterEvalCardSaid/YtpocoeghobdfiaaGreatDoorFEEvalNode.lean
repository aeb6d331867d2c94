/-
  The program's evalNode: what a node without operands says of an entry. Condition: the entry's names rise.
-/
import Derived.Test.YtpocoeghobdfiaaGreatDoorFEP3
import Derived.Test.YtpocoeghobdfiaaGreatDoorFESorted
namespace Go.Proofs.YtpocoeghobdfiaaGreatDoor.PG
open Go.RowKit Go.Proofs.YtpocoeghobdfiaaGreatDoorW.PrintWords Go.Proofs.YtpocoeghobdfiaaGreatDoorW.PrintLast Go.Proofs.YtpocoeghobdfiaaGreatDoorW.PrintMore Go.Proofs.YtpocoeghobdfiaaGreatDoor.Gn Go.Proofs.YtpocoeghobdfiaaGreatDoor.Sem
attribute [local go_sem] max2_int min2_int max_two min_two max_three min_three max_four min_four
set_option linter.unusedVariables false
set_option linter.unusedSimpArgs false

def prefB (a b : ByteArray) : Bool := decide (b.size ≤ a.size) && ((a.extract 0 b.size).toList == b.toList)
theorem pref_f (a b : ByteArray) : strings_HasPrefix.f a b = some (prefB a b) := by
  unfold strings_HasPrefix.f stringslite_HasPrefix.f prefB
  by_cases h : b.size ≤ a.size
  · rw [if_pos (by omega), if_pos (by omega), if_pos (by omega), decide_eq_true h, Bool.true_and, Int.toNat_natCast]
    rfl
  · rw [if_neg (by omega), decide_eq_false h]
    rfl
theorem pref_calls (a b : ByteArray) (W : World) : Calls Tryz.prog 124 #[.string a, .string b] W fun e w' => e = .returned (.bool (prefB a b)) ∧ Below W.heap.size W w' := by
  refine (strings_HasPrefix.calls a b _ W (pref_f a b)).mono ?_
  rintro e w' ⟨rfl, h⟩
  exact ⟨rfl, by first | exact h | exact h.below | (subst h; exact Below.refl _ _) | (obtain ⟨n, rfl⟩ := h; exact pw_below_drewN (Below.refl _ _) n)⟩
def nodeB (op : Int) (norm nv : ByteArray) : Bool := if op = 4 then nv.toList == norm.toList else if op = 6 then prefB nv norm else if op = 7 then !(Op.bytesLess nv.toList norm.toList) else if op = 8 then (Op.bytesLess nv.toList norm.toList || nv.toList == norm.toList) else true
theorem enters_123 : ∀ args w, (callFunc 123 args).run Tryz.prog w = .ok (.enter 123 args) w := enters_of Tryz.func123 (by kernel_rfl) rfl
set_option maxHeartbeats 2000000 in
theorem node_clo (b1 b2 : Nat) (op : Int) (norm v : ByteArray) (W : World) (h1 : W.cell? ⟨b1, 0, none⟩ = some (.int .i64 op)) (h2 : W.cell? ⟨b2, 0, none⟩ = some (.string norm)) :
    Calls Tryz.prog 123 #[.string v, .pointer (some ⟨b1, 0, none⟩), .pointer (some ⟨b2, 0, none⟩)] W fun e w' => e = .returned (.bool (nodeB op norm (normB v))) ∧ Below W.heap.size W w' := by
  have hcon := norm_calls v W
  generalize normB v = nv at hcon ⊢
  unfold nodeB
  by_cases o4 : op = 4
  · subst o4
    rw [if_pos rfl]
    go_enter Tryz.func123, Tryz.ntmps123
    go_wp2_with (go_at_call 98; refine hcon.mono ?_; rintro e w' ⟨rfl, hb'⟩; have f1 := pw_cell_below hb' h1; have f2 := pw_cell_below hb' h2)
    go_ret
    exact ⟨rfl, hb'⟩
  rw [if_neg o4]
  by_cases o6 : op = 6
  · subst o6
    rw [if_pos rfl]
    clear o4
    go_enter Tryz.func123, Tryz.ntmps123
    go_wp2_with (first | (go_at_call 98; refine hcon.mono ?_; rintro e w' ⟨rfl, hb'⟩; have f1 := pw_cell_below hb' h1; have f2 := pw_cell_below hb' h2) | (go_at_call 124; refine (pref_calls _ _ _).mono ?_; rintro e w2 ⟨rfl, hb2⟩))
    go_ret
    exact ⟨rfl, below_step hb' hb2⟩
  rw [if_neg o6]
  by_cases o7 : op = 7
  · subst o7
    rw [if_pos rfl]
    clear o4 o6
    go_enter Tryz.func123, Tryz.ntmps123
    go_wp2_with (go_at_call 98; refine hcon.mono ?_; rintro e w' ⟨rfl, hb'⟩; have f1 := pw_cell_below hb' h1; have f2 := pw_cell_below hb' h2)
    go_ret
    exact ⟨rfl, hb'⟩
  rw [if_neg o7]
  by_cases o8 : op = 8
  · subst o8
    rw [if_pos rfl]
    clear o4 o6 o7
    go_enter Tryz.func123, Tryz.ntmps123
    go_wp2_with (go_at_call 98; refine hcon.mono ?_; rintro e w' ⟨rfl, hb'⟩; have f1 := pw_cell_below hb' h1; have f2 := pw_cell_below hb' h2)
    go_ret
    exact ⟨rfl, hb'⟩
  · rw [if_neg o8]
    have d4 : (op == 4) = false := by simpa using o4
    have d6 : (op == 6) = false := by simpa using o6
    have d7 : (op == 7) = false := by simpa using o7
    have d8 : (op == 8) = false := by simpa using o8
    clear o4 o6 o7 o8
    go_enter Tryz.func123, Tryz.ntmps123
    go_wp2_with (go_at_call 98; refine hcon.mono ?_; rintro e w' ⟨rfl, hb'⟩; have f1 := pw_cell_below hb' h1; have f2 := pw_cell_below hb' h2)
    go_ret
    exact ⟨rfl, hb'⟩

theorem contains_ev (l : List ByteArray) (x : ByteArray) (hl : l.length ≤ 9223372036854775807) : Ev (fun k => slices_Contains_string.f k l x) (l.any fun y => y.toList == x.toList) := by
  unfold slices_Contains_string.f slices_Index_string.f
  rw [← idx_any]
  refine Ev_bind (a := idx (fun y : ByteArray => y.toList == x.toList) l) ?_ (Ev.now _)
  have key : ∀ (m i : Nat), i + m = l.length → (∀ j (hj : j < l.length), j < i → ((l[j]'hj).toList == x.toList) = false) → Ev (fun k => slices_Index_string.l0 k l x (l.length : Int) (i : Int)) (idx (fun y : ByteArray => y.toList == x.toList) l) := by
    intro m
    induction m with
    | zero =>
      intro i hi hb
      rw [idx_none (fun j hj _ => hb j hj (by omega))]
      exact Ev_one fun k => by simp only [slices_Index_string.l0]; rw [if_neg (by omega)]
    | succ m ih =>
      intro i hi hb
      have hlt : i < l.length := by omega
      have e0 : wrap64 ((i : Int) + 1) = ((i + 1 : Nat) : Int) := by rw [wsucc (by omega) (by omega)]; omega
      have er : rdOf ByteArray.empty l (i : Int) = l[i]'hlt := by
        unfold rdOf
        rw [Int.toNat_natCast, getD_at hlt]
      refine Ev.step (fun k => by simp only [slices_Index_string.l0]; rw [if_pos (by omega), if_pos (by omega), if_pos (by omega), e0, er]) ?_
      by_cases h : x.toList = (l[i]'hlt).toList
      · rw [idx_hit (p := fun y : ByteArray => y.toList == x.toList) hlt (by simp [h]) hb]
        exact Ev_some fun k => by rw [if_pos h]
      · refine Ev.congr (fun k => by rw [if_neg h]) (ih (i + 1) (by omega) (fun j hj hji => ?_))
        rcases Nat.lt_succ_iff_lt_or_eq.1 hji with h1 | rfl
        · exact hb j hj h1
        · simpa using fun e => h e.symm
  exact key l.length 0 (by omega) (fun j hj h => absurd h (Nat.not_lt_zero _))
def hasName (l : List ByteArray) (x : ByteArray) : Bool := l.any fun y => y.toList == x.toList
theorem contains_calls (A : Option Addr) (c : Nat) (l : List ByteArray) (x : ByteArray) (W : World) (hr : Kd.C Kd.string W A l.length l) (hc : l.length ≤ c) :
    Calls Tryz.prog 96 #[.slice A l.length c, .string x] W fun e w' => e = .returned (.bool (hasName l x)) ∧ Below W.heap.size W w' := by
  obtain ⟨k, hk⟩ := (contains_ev l x (Kd.C_max hr)).rounds
  refine (slices_Contains_string.calls k A c l x _ W hr hc hk).mono ?_
  rintro e w' ⟨rfl, h⟩
  exact ⟨rfl, by first | exact h | exact h.below | (subst h; exact Below.refl _ _) | (obtain ⟨n, rfl⟩ := h; exact pw_below_drewN (Below.refl _ _) n)⟩
def truthI (b : Bool) : Int := if b then 1 else 0
theorem truth_calls (b : Bool) (W : World) : Calls Tryz.prog 121 #[.bool b] W fun e w' => e = .returned (.int .i64 (truthI b)) ∧ Below W.heap.size W w' := by
  refine (impl_truth.calls b (truthI b) W (by unfold impl_truth.f truthI; cases b <;> rfl)).mono ?_
  rintro e w' ⟨rfl, h⟩
  exact ⟨rfl, by first | exact h | exact h.below | (subst h; exact Below.refl _ _) | (obtain ⟨n, rfl⟩ := h; exact pw_below_drewN (Below.refl _ _) n)⟩
/-- What a node without operands says. -/
def nodeV (known : List ByteArray) (l : List S115) (x : S87) : Int := if hasName known x.f1 then truthI ((valsOf x.f1 l).any (fun v => nodeB x.f0 (normB x.f2) (normB v))) else 2
end Go.Proofs.YtpocoeghobdfiaaGreatDoor.PG
