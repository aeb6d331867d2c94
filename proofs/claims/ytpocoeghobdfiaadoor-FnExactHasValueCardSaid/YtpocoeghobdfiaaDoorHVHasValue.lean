/-
  The walk of the program's HasValue, and the reference's: both come to hasValueB. Conditions: the lengths' bounds that are stated.
-/
import Derived.Test.YtpocoeghobdfiaaDoorHVP3
import Derived.Test.YtpocoeghobdfiaaDoorHVP5
import Derived.Test.YtpocoeghobdfiaaDoorHVP2
import Derived.Test.YtpocoeghobdfiaaDoorHVSorted
import Derived.Test.YtpocoeghobdfiaaDoorHVLong
namespace Go.Proofs.YtpocoeghobdfiaaDoor.PG
open Go.RowKit Go.Proofs.YtpocoeghobdfiaaDoorW.PrintWords Go.Proofs.YtpocoeghobdfiaaDoorW.PrintLast Go.Proofs.YtpocoeghobdfiaaDoorW.PrintMore Go.Proofs.YtpocoeghobdfiaaDoor.Gn Go.Proofs.YtpocoeghobdfiaaDoor.Sem
attribute [local go_sem] max2_int min2_int max_two min_two max_three min_three max_four min_four
set_option linter.unusedVariables false
set_option linter.unusedSimpArgs false

def hasValueB (d : List S153) (l : List S144) (name value : ByteArray) : Bool := (!(longQ name || longQ value)) && (entryB d l && hasL name (normB value) l)
def impl_HasValue.f (l0_0 : List S153) (l0_1 : List S144) (a1 a2 : ByteArray) : Option Bool := some (hasValueB l0_0 l0_1 a1 a2)
theorem entry_calls (A0 : Option Addr) (c0 : Nat) (d : List S153) (A1 : Option Addr) (c1 : Nat) (l : List S144) (W : World) (h0 : Kd.C k153 W A0 d.length d) (l0 : d.length ≤ c0) (h1 : Kd.C k144 W A1 l.length l) (l1 : l.length ≤ c1) :
    Calls Tryd.prog 80 #[.agg #[.slice A0 d.length c0, .slice A1 l.length c1]] W fun e w' => e = .returned (.bool (entryB d l)) ∧ Below W.heap.size W w' := by
  obtain ⟨k, hk⟩ := (impl_entry d l).rounds
  exact impl_EntryRight.calls k A0 c0 d A1 c1 l _ W h0 l0 h1 l1 hk
set_option maxHeartbeats 4000000 in
set_option maxRecDepth 100000 in
theorem impl_HasValue.calls (A0_0 : Option Addr) (c0_0 : Nat) (l0_0 : List S153) (A0_1 : Option Addr) (c0_1 : Nat) (l0_1 : List S144) (a1 a2 : ByteArray) (r : Bool) (w : World)
    (hr0_0 : Kd.C k153 w A0_0 l0_0.length l0_0) (hc0_0 : l0_0.length ≤ c0_0) (hr0_1 : Kd.C k144 w A0_1 l0_1.length l0_1) (hc0_1 : l0_1.length ≤ c0_1) (h : impl_HasValue.f l0_0 l0_1 a1 a2 = some r) :
    Calls Tryd.prog 37 #[.agg #[.slice A0_0 l0_0.length c0_0, .slice A0_1 l0_1.length c0_1], .string a1, .string a2] w fun e w' => e = .returned (.bool r) ∧ Below w.heap.size w w' := by
  obtain rfl := Option.some.inj h
  clear h
  obtain ⟨cells, hcells⟩ : ∃ cells, cells = #[Value.slice A0_0 l0_0.length c0_0, Value.slice A0_1 l0_1.length c0_1] := ⟨_, rfl⟩
  have hb0 : Below w.heap.size w (w.alloc (.cells cells 67)) := below_alloc (Below.refl _ _) _
  have hE : EntAt (w.alloc (.cells cells 67)) w.heap.size A0_0 l0_0.length c0_0 A0_1 c0_1 l0_1 := by
    subst hcells
    exact ⟨cell_blk (heap_alloc_new w _) rfl, cell_blk (heap_alloc_new w _) rfl, hc0_1, Kd.C_below hr0_1 hb0⟩
  have HE := Aside0.mk (fun (W : World) (hb : Below (w.alloc (.cells cells 67)).heap.size (w.alloc (.cells cells 67)) W) => hE.below hb)
  have HR := Aside0.mk hr0_0
  have HB0 := Aside0.mk hb0
  have HC0 := Aside0.mk hc0_0
  have HC1 := Aside0.mk hc0_1
  unfold hasValueB
  generalize hw1 : w.alloc (.cells cells 67) = w1 at HE HB0
  have hlong := long2_calls a1 a2 w1
  generalize (longQ a1 || longQ a2) = b1 at hlong ⊢
  have HENT := Aside0.mk (fun (W : World) (hb : Below w1.heap.size w1 W) => entry_calls A0_0 c0_0 l0_0 A0_1 c0_1 l0_1 W (Kd.C_below (Kd.C_below HR.out HB0.out) hb) HC0.out (HE.out W hb).row HC1.out)
  have HNORM := Aside0.mk (fun (W : World) => norm_calls a2 W)
  have HHAS := Aside0.mk (fun (hent : entryB l0_0 l0_1 = true) (W : World) (hb : Below w1.heap.size w1 W) => by
    have := has_calls w.heap.size A0_0 l0_0.length c0_0 A0_1 c0_1 l0_1 a1 (normB a2) W (HE.out W hb) (rises_of (up_of_entry hent))
    rw [has_at (up_of_entry hent)] at this
    exact this)
  have HV := Aside0.mk (fun (W : World) (hb : Below w1.heap.size w1 W) => (And.intro (HE.out W hb).e0 (HE.out W hb).e1))
  generalize hasL a1 (normB a2) l0_1 = b3 at HHAS ⊢
  generalize entryB l0_0 l0_1 = b2 at HHAS HENT ⊢
  generalize normB a2 = nv at HHAS HNORM
  clear hr0_0 hr0_1 hE hb0 HE
  subst hcells
  cases b1 with
  | true =>
    go_enter Tryd.func37, Tryd.ntmps37
    go_wp2_with (go_at_call 65; refine hlong.mono ?_; rintro e w2 ⟨rfl, hb2⟩)
    go_ret
    exact ⟨rfl, below_step HB0.out hb2⟩
  | false =>
    cases b2 with
    | false =>
      go_enter Tryd.func37, Tryd.ntmps37
      go_wp2_with (first | (go_at_call 65; refine hlong.mono ?_; rintro e w2 ⟨rfl, hb2⟩; obtain ⟨f0, f1⟩ := HV.out w2 hb2) | (go_at_call 80; refine (HENT.out w2 hb2).mono ?_; rintro e w3 ⟨rfl, hb3⟩))
      go_ret
      exact ⟨rfl, below_step HB0.out (below_step hb2 hb3)⟩
    | true =>
      go_enter Tryd.func37, Tryd.ntmps37
      go_wp2_with (first | (go_at_call 65; refine hlong.mono ?_; rintro e w2 ⟨rfl, hb2⟩; obtain ⟨f0, f1⟩ := HV.out w2 hb2) | (go_at_call 80; refine (HENT.out w2 hb2).mono ?_; rintro e w3 ⟨rfl, hb3⟩) | (go_at_call 89; refine (HNORM.out w3).mono ?_; rintro e w4 ⟨rfl, hb4⟩) | (go_at_call 88; refine (HHAS.out trivial w4 (below_step hb2 (below_step hb3 hb4))).mono ?_; rintro e w5 ⟨rfl, hb5⟩))
      go_ret
      exact ⟨by simp, below_step HB0.out (below_step hb2 (below_step hb3 (below_step hb4 hb5)))⟩

theorem spec_hasValue (d : List S153) (l : List S144) (name value : ByteArray) (hd : d.length ≤ 9223372036854775807) (hl : l.length ≤ 9223372036854775807) (hv : ∀ x, x ∈ l → x.f1.length ≤ 9223372036854775807) :
    Ev (fun k => spec_HasValue.f k d l name value) (hasValueB d l name value) := by
  unfold spec_HasValue.f hasValueB longQ
  by_cases h1 : (name.size : Int) ≤ 8000
  · rw [decide_eq_false (show ¬ (name.size : Int) > 8000 by omega), Bool.false_or]
    simp only [if_pos h1]
    by_cases h2 : (value.size : Int) ≤ 8000
    · rw [decide_eq_false (show ¬ (value.size : Int) > 8000 by omega), Bool.not_false, Bool.true_and]
      simp only [if_pos h2]
      refine Ev_bind (spec_entry d l hd hl hv) ?_
      cases entryB d l
      · exact Ev_some fun k => by simp
      · simp only [if_true, Bool.true_and]
        exact Ev_bind (spec_has name value d l hl hv) (Ev.now _)
    · rw [decide_eq_true (show (value.size : Int) > 8000 by omega)]
      simp only [if_neg h2]
      exact Ev.now _
  · rw [decide_eq_true (show (name.size : Int) > 8000 by omega)]
    simp only [if_neg h1]
    exact Ev.now _
end Go.Proofs.YtpocoeghobdfiaaDoor.PG
