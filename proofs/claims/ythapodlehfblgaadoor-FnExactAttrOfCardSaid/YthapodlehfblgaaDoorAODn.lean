/-
  The program's isRdn and DnRight, and the reference's DnRight, come to the tests rdnB and dnB; the walk of the program's DnRight. No condition.
-/
import Derived.Test.YthapodlehfblgaaDoorAOP3
import Derived.Test.YthapodlehfblgaaDoorAOP2
import Derived.Test.YthapodlehfblgaaDoorAONames
import Derived.Test.YthapodlehfblgaaDoorAONorm
import Derived.Test.YthapodlehfblgaaDoorAOCloslicesContainsFuncRdn
namespace Go.Proofs.YthapodlehfblgaaDoor.PA
open Go.RowKit Go.Proofs.YthapodlehfblgaaDoorW.PrintWords Go.Proofs.YthapodlehfblgaaDoorW.PrintLast Go.Proofs.YthapodlehfblgaaDoorW.PrintMore Go.Proofs.YthapodlehfblgaaDoor.Gn Go.Proofs.YthapodlehfblgaaDoor.Sem
attribute [local go_sem] max2_int min2_int max_two min_two max_three min_three max_four min_four
set_option linter.unusedVariables false
set_option linter.unusedSimpArgs false

def rdnB (x : S103) : Bool := nameB x.f0 && properB x.f1
def dnB (l : List S103) : Bool := decide (l.length ≤ 6) && l.all rdnB
theorem impl_rdn (x : S103) : Ev (fun k => impl_isRdn.f k x.f0 x.f1) (rdnB x) := by
  unfold impl_isRdn.f rdnB
  rw [impl_name]
  simp only [Option.bind_some]
  cases nameB x.f0
  · exact Ev_some fun k => by simp
  · simpa using Ev_bind (impl_proper x.f1) (Ev.now _)

theorem enters_97 : ∀ args w, (callFunc 97 args).run Tryd.prog w = .ok (.enter 97 args) w := enters_of Tryd.func97 (by kernel_rfl) rfl
set_option maxHeartbeats 1000000 in
theorem dn_clo (x : S103) (W : World) : Calls Tryd.prog 97 #[.agg #[.string x.f0, .string x.f1]] W fun e w' => e = .returned (.bool (!rdnB x)) ∧ Below W.heap.size W w' := by
  obtain ⟨k, hk⟩ := (impl_rdn x).rounds
  have HK := Aside0.mk hk
  generalize rdnB x = b at HK
  clear hk
  go_enter Tryd.func97, Tryd.ntmps97
  go_wp2_with (go_at_call 98; refine (impl_isRdn.calls k x.f0 x.f1 b _ HK.out).mono ?_; rintro e w' ⟨rfl, hb'⟩)
  go_ret
  exact ⟨rfl, below_then ((Below.refl _ W).alloc (Nat.le_refl _) _) (by simp) hb'⟩

def impl_DnRight.f (l0 : List S103) : Option Bool := some (dnB l0)
set_option maxHeartbeats 1000000 in
theorem impl_DnRight.calls (A0 : Option Addr) (c0 : Nat) (l0 : List S103) (r : Bool) (w : World) (hr0 : Kd.C k103 w A0 l0.length l0) (hc0 : l0.length ≤ c0) (h : impl_DnRight.f l0 = some r) :
    Calls Tryd.prog 70 #[.slice A0 l0.length c0] w fun e w' => e = .returned (.bool r) ∧ Below w.heap.size w w' := by
  obtain rfl := Option.some.inj h
  have hcon := slices_ContainsFunc_Rdn.any_ 97 #[] (fun _ => True) (fun x => !rdnB x) (fun _ _ _ h => h) (fun W x cs _ hK => by obtain rfl := k103_open hK; exact dn_clo x W) enters_97 A0 c0 l0 w hr0 trivial
  have hall : (!(l0.any fun x => !rdnB x)) = l0.all rdnB := by
    rw [List.all_eq_not_any_not]
  unfold dnB
  rw [← hall]
  generalize (l0.any fun x => !rdnB x) = b at hcon
  clear hr0 hall h
  by_cases hl : (l0.length : Int) ≤ 6
  · rw [decide_eq_true (show l0.length ≤ 6 by omega), Bool.true_and]
    have hd : decide ((l0.length : Int) ≤ 6) = true := decide_eq_true hl
    have hd2 : decide (l0.length ≤ 6) = true := decide_eq_true (by omega)
    clear hl
    go_enter Tryd.func70, Tryd.ntmps70
    go_wp2_with (go_at_call 96; refine hcon.mono ?_; rintro e w' ⟨rfl, hb'⟩)
    go_ret
    exact ⟨by cases b <;> rfl, hb'⟩
  · rw [decide_eq_false (show ¬ l0.length ≤ 6 by omega), Bool.false_and]
    have hd : decide ((l0.length : Int) ≤ 6) = false := decide_eq_false hl
    have hd2 : decide (l0.length ≤ 6) = false := decide_eq_false (by omega)
    clear hl
    go_enter Tryd.func70, Tryd.ntmps70
    go_wp2_with (go_at_call 96; refine hcon.mono ?_; rintro e w' ⟨rfl, hb'⟩)
    go_ret
    exact ⟨rfl, Below.refl _ _⟩
end Go.Proofs.YthapodlehfblgaaDoor.PA
