/-
  The program's AttrOf, walked, and the reference's: both come to attrOfV. Condition: the lengths' bounds that are stated.
-/
import Derived.Test.YthapodlehfblgaaDoorAOP4
import Derived.Test.YthapodlehfblgaaDoorAOP2
import Derived.Test.YthapodlehfblgaaDoorAOSortedV
import Derived.Test.YthapodlehfblgaaDoorAOLong
import Derived.Test.YthapodlehfblgaaDoorAOClonestring
namespace Go.Proofs.YthapodlehfblgaaDoor.PA
open Go.RowKit Go.Proofs.YthapodlehfblgaaDoorW.PrintWords Go.Proofs.YthapodlehfblgaaDoorW.PrintLast Go.Proofs.YthapodlehfblgaaDoorW.PrintMore Go.Proofs.YthapodlehfblgaaDoor.Gn
attribute [local go_sem] max2_int min2_int max_two min_two max_three min_three max_four min_four World.cell?_drew World.frozen?_drew
set_option linter.unusedVariables false
set_option linter.unusedSimpArgs false
def attrOfV (d : List S103) (l : List S102) (name : ByteArray) : List ByteArray := if longQ name = true then [] else if entryB d l = true then valsOf name l else []
theorem entry_calls2 (A0 : Option Addr) (c0 : Nat) (d : List S103) (A1 : Option Addr) (c1 : Nat) (l : List S102) (W : World) (h0 : Kd.C k103 W A0 d.length d) (l0 : d.length ≤ c0) (h1 : Kd.C k102 W A1 l.length l) (l1 : l.length ≤ c1) :
    Calls Tryd.prog 37 #[.agg #[.slice A0 d.length c0, .slice A1 l.length c1]] W fun e w' => e = .returned (.bool (entryB d l)) ∧ Below W.heap.size W w' := by
  obtain ⟨k, hk⟩ := (impl_entry d l).rounds
  exact impl_EntryRight.calls k A0 c0 d A1 c1 l _ W h0 l0 h1 l1 hk
theorem entry_vals {d : List S103} {l : List S102} (h : entryB d l = true) (x : S102) (hx : x ∈ l) : x.f1.length ≤ 4 := by
  unfold entryB at h
  simp only [Bool.and_eq_true, List.all_eq_true, List.mem_range] at h
  obtain ⟨i, hi, rfl⟩ := List.mem_iff_getElem.1 hx
  have h1 := h.2.2.2 i hi
  unfold attrAt attrB valsB at h1
  rw [attr_rd l i hi] at h1
  simp only [Bool.and_eq_true, decide_eq_true_eq] at h1
  exact h1.1.2.1.2
theorem vals_le4 {d : List S103} {l : List S102} (h : entryB d l = true) (name : ByteArray) : (valsOf name l).length ≤ 4 := by
  rw [vals_at (up_of_entry h)]
  exact valsL_mem name l (fun v => v.length ≤ 4) (by simp) (entry_vals h)
/-- A row of strings of the call's own. -/
def RetOwn (l : List ByteArray) (w : World) (e : Ending) (w' : World) : Prop := ∃ A c, e = .returned (.slice A l.length c) ∧ Kd.R Kd.string 9 w' w.heap.size (fun _ => True) (.slice A l.length c) l ∧ Below w.heap.size w w'
set_option maxHeartbeats 4000000 in
set_option maxRecDepth 100000 in
theorem attrOf_calls (A0 : Option Addr) (c0 : Nat) (d : List S103) (A1 : Option Addr) (c1 : Nat) (l : List S102) (name : ByteArray) (w : World) (h0 : Kd.C k103 w A0 d.length d) (l0 : d.length ≤ c0) (h1 : Kd.C k102 w A1 l.length l) (l1 : l.length ≤ c1) :
    Calls Tryd.prog 9 #[.agg #[.slice A0 d.length c0, .slice A1 l.length c1], .string name] w (RetOwn (attrOfV d l name) w) := by
  obtain ⟨cells, hcells⟩ : ∃ cells, cells = #[Value.slice A0 d.length c0, Value.slice A1 l.length c1] := ⟨_, rfl⟩
  have hb0 : Below w.heap.size w (w.alloc (.cells cells 32)) := below_alloc (Below.refl _ _) _
  have hE : EntAt (w.alloc (.cells cells 32)) w.heap.size A0 d.length c0 A1 c1 l := by
    subst hcells
    exact ⟨cell_blk (heap_alloc_new w _) rfl, cell_blk (heap_alloc_new w _) rfl, l1, Kd.C_below h1 hb0⟩
  have HE := Aside0.mk (fun (W : World) (hb : Below (w.alloc (.cells cells 32)).heap.size (w.alloc (.cells cells 32)) W) => hE.below hb)
  have HR := Aside0.mk h0
  have HB0 := Aside0.mk hb0
  have HC0 := Aside0.mk l0
  have HC1 := Aside0.mk l1
  unfold attrOfV
  generalize hw1 : w.alloc (.cells cells 32) = w1 at HE HB0
  have hlong := long1_calls name w1
  generalize longQ name = b1 at hlong ⊢
  have HENT := Aside0.mk (fun (W : World) (hb : Below w1.heap.size w1 W) => entry_calls2 A0 c0 d A1 c1 l W (Kd.C_below (Kd.C_below HR.out HB0.out) hb) HC0.out (HE.out W hb).row HC1.out)
  have HVALS := Aside0.mk (fun (hent : entryB d l = true) (W : World) (hb : Below w1.heap.size w1 W) => values_calls w.heap.size A0 d.length c0 A1 c1 l name w1 W (HE.out w1 (Below.refl _ _)) hb (rises_of (up_of_entry hent)))
  have HV := Aside0.mk (fun (W : World) (hb : Below w1.heap.size w1 W) => (And.intro (HE.out W hb).e0 (HE.out W hb).e1))
  have HLE := Aside0.mk (fun (hent : entryB d l = true) => vals_le4 hent name)
  generalize valsOf name l = vs at HVALS HLE ⊢
  generalize entryB d l = b2 at HVALS HENT HLE ⊢
  clear h0 h1 hE hb0 HE
  subst hcells
  cases b1 with
  | true =>
    go_enter Tryd.func9, Tryd.ntmps9
    go_wp2_with (go_at_call 36; refine hlong.mono ?_; rintro e w2 ⟨rfl, hb2⟩)
    go_ret
    exact ⟨none, 0, rfl, Kd.R_nil _ _ _ _ _, below_step HB0.out hb2⟩
  | false =>
    cases b2 with
    | false =>
      go_enter Tryd.func9, Tryd.ntmps9
      go_wp2_with (first | (go_at_call 36; refine hlong.mono ?_; rintro e w2 ⟨rfl, hb2⟩; obtain ⟨f0, f1⟩ := HV.out w2 hb2) | (go_at_call 37; refine (HENT.out w2 hb2).mono ?_; rintro e w3 ⟨rfl, hb3⟩))
      go_ret
      exact ⟨none, 0, rfl, Kd.R_nil _ _ _ _ _, below_step HB0.out (below_step hb2 hb3)⟩
    | true =>
      go_enter Tryd.func9, Tryd.ntmps9
      go_wp2_with (first | (go_at_call 36; refine hlong.mono ?_; rintro e w2 ⟨rfl, hb2⟩; obtain ⟨f0, f1⟩ := HV.out w2 hb2) | (go_at_call 37; refine (HENT.out w2 hb2).mono ?_; rintro e w3 ⟨rfl, hb3⟩) | (go_at_call 39; refine (HVALS.out trivial w3 (below_step hb2 hb3)).mono ?_; rintro e w4 ⟨A4, c4, rfl, hl4, hC4, hb4⟩; have HC4 := Aside0.mk (And.intro hl4 hC4); clear hl4 hC4) | (go_at_call 38; refine (clone_string A4 c4 vs w4 (Kd.C_below HC4.out.2 (below_step hb2 (below_step hb3 hb4))) HC4.out.1 (by have := HLE.out trivial; omega)).mono ?_; rintro e w5 ⟨v5, rfl, hR5, hb5⟩; obtain ⟨A5, c5, rfl⟩ := Kd.R_slice hR5; have HR5 := Aside0.mk hR5; clear hR5))
      go_ret
      exact ⟨A5, c5, rfl, Kd.R_lower HR5.out (Nat.le_trans HB0.out.size (Nat.le_trans hb2.size (Nat.le_trans hb3.size hb4.size))), below_step HB0.out (below_step hb2 (below_step hb3 (below_step hb4 hb5)))⟩
theorem spec_attrOf (d : List S103) (l : List S102) (name : ByteArray) (hd : d.length ≤ 9223372036854775807) (hl : l.length ≤ 9223372036854775807) (hv : ∀ x, x ∈ l → x.f1.length ≤ 9223372036854775807) : Ev (fun k => spec_AttrOf.f k d l name) (attrOfV d l name) := by
  have hent := spec_entry d l hd hl hv
  have hof := spec_of name d l hl
  unfold spec_AttrOf.f attrOfV
  by_cases hlong : (name.size : Int) > 8000
  · have h1 : longQ name = true := decide_eq_true hlong
    rw [if_pos h1]
    exact Ev_some fun k => by rw [if_pos hlong]
  · have h1 : longQ name = false := decide_eq_false hlong
    rw [h1, if_neg (by simp)]
    refine Ev.congr (fun k => if_neg hlong) (Ev_bind hent ?_)
    cases hb : entryB d l with
    | false =>
      simp only [Bool.false_eq_true, if_false]
      exact Ev.now _
    | true =>
      simp only [if_true, Option.bind_some]
      refine Ev_bind hof ?_
      have h4 := vals_le4 hb name
      rw [vals_at (up_of_entry hb)] at h4 ⊢
      rw [if_pos (by simp; omega)]
      exact Ev.now _
end Go.Proofs.YthapodlehfblgaaDoor.PA
