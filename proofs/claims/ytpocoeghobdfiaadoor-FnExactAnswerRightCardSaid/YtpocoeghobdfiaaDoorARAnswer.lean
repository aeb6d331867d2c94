/-
  The walk of the program's AnswerRight, which comes to the test answerB, and the reference's AnswerRight, which comes to the same. Conditions: the lengths' bounds that are stated.
-/
import Derived.Test.YtpocoeghobdfiaaDoorARP5
import Derived.Test.YtpocoeghobdfiaaDoorARP2
import Derived.Test.YtpocoeghobdfiaaDoorARP3
import Derived.Test.YtpocoeghobdfiaaDoorAREntry
import Derived.Test.YtpocoeghobdfiaaDoorARCloslicesContainsFuncEntry
namespace Go.Proofs.YtpocoeghobdfiaaDoor.PG
open Go.RowKit Go.Proofs.YtpocoeghobdfiaaDoorW.PrintWords Go.Proofs.YtpocoeghobdfiaaDoorW.PrintLast Go.Proofs.YtpocoeghobdfiaaDoorW.PrintMore Go.Proofs.YtpocoeghobdfiaaDoor.Gn Go.Proofs.YtpocoeghobdfiaaDoor.Sem
attribute [local go_sem] max2_int min2_int max_two min_two max_three min_three max_four min_four
set_option linter.unusedVariables false
set_option linter.unusedSimpArgs false

def entB (x : S67) : Bool := entryB x.f0 x.f1
def answerB (a b : Int) (l : List S67) : Bool := (decide (1 ≤ a) && decide (a ≤ 1000000)) && ((decide (0 ≤ b) && decide (b ≤ 20)) && (decide (l.length ≤ 20) && l.all entB))

theorem enters_79 : ∀ args w, (callFunc 79 args).run Tryd.prog w = .ok (.enter 79 args) w := enters_of Tryd.func79 (by kernel_rfl) rfl
set_option maxHeartbeats 1000000 in
theorem answer_clo (x : S67) (W : World) (A0 A1 : Option Addr) (c0 c1 : Nat) (h0 : Kd.C k153 W A0 x.f0.length x.f0) (l0 : x.f0.length ≤ c0) (h1 : Kd.C k144 W A1 x.f1.length x.f1) (l1 : x.f1.length ≤ c1) :
    Calls Tryd.prog 79 #[.agg #[.slice A0 x.f0.length c0, .slice A1 x.f1.length c1]] W fun e w' => e = .returned (.bool (!entB x)) ∧ Below W.heap.size W w' := by
  obtain ⟨k, hk⟩ := (impl_entry x.f0 x.f1).rounds
  have HK := Aside0.mk hk
  have hb := (Below.refl W.heap.size W).alloc (Nat.le_refl _) (.cells #[.slice A0 x.f0.length c0, .slice A1 x.f1.length c1] 67)
  have H0 := Aside0.mk (Kd.C_below h0 hb)
  have H1 := Aside0.mk (Kd.C_below h1 hb)
  have L0 := Aside0.mk l0
  have L1 := Aside0.mk l1
  show Calls Tryd.prog 79 _ W fun e w' => e = .returned (.bool (!entryB x.f0 x.f1)) ∧ Below W.heap.size W w'
  generalize entryB x.f0 x.f1 = b at HK
  clear hk h0 h1 l0 l1 hb
  go_enter Tryd.func79, Tryd.ntmps79
  go_wp2_with (go_at_call 80; refine (impl_EntryRight.calls k A0 c0 x.f0 A1 c1 x.f1 b _ H0.out L0.out H1.out L1.out HK.out).mono ?_; rintro e w' ⟨rfl, hb'⟩)
  go_ret
  exact ⟨rfl, below_then ((Below.refl _ W).alloc (Nat.le_refl _) _) (by simp) hb'⟩

def impl_AnswerRight.f (a0_0 a0_1 : Int) (l0_2 : List S67) : Option Bool := some (answerB a0_0 a0_1 l0_2)
set_option maxHeartbeats 2000000 in
set_option maxRecDepth 100000 in
theorem impl_AnswerRight.calls (a0_0 a0_1 : Int) (A0_2 : Option Addr) (c0_2 : Nat) (l0_2 : List S67) (r : Bool) (w : World) (hr0_2 : Kd.C k67 w A0_2 l0_2.length l0_2) (hc0_2 : l0_2.length ≤ c0_2) (h : impl_AnswerRight.f a0_0 a0_1 l0_2 = some r) :
    Calls Tryd.prog 32 #[.agg #[.int .i64 a0_0, .int .i64 a0_1, .slice A0_2 l0_2.length c0_2]] w fun e w' => e = .returned (.bool r) ∧ Below w.heap.size w w' := by
  obtain rfl := Option.some.inj h
  clear h
  have HR := Aside0.mk hr0_2
  have hall : (!(l0_2.any fun x => !entB x)) = l0_2.all entB := by rw [List.all_eq_not_any_not]
  have HCON := Aside0.mk (fun (W : World) (hb : Below w.heap.size w W) => slices_ContainsFunc_Entry.any_ 79 #[] (fun _ => True) (fun x => !entB x) (fun _ _ _ h => h)
    (fun W x cs _ hK => by obtain ⟨A0, c0, A1, c1, rfl, h2, h3, h4, h5⟩ := k67_open hK; exact answer_clo x W A0 A1 c0 c1 (by assumption) (by assumption) (by assumption) (by assumption)) enters_79 A0_2 c0_2 l0_2 W (Kd.C_below HR.out hb) trivial)
  unfold answerB
  rw [← hall]
  clear hall hr0_2
  have hlen : decide (l0_2.length ≤ 20) = decide ((l0_2.length : Int) ≤ 20) := by congr 1; exact propext (by omega)
  have hb1 := between_eq a0_0 1 1000000
  have hb2 := between_eq a0_1 0 20
  rw [hlen]
  generalize (decide (1 ≤ a0_0) && decide (a0_0 ≤ 1000000)) = p1 at hb1 ⊢
  generalize (decide (0 ≤ a0_1) && decide (a0_1 ≤ 20)) = p2 at hb2 ⊢
  have HB1 := Aside0.mk hb1
  have HB2 := Aside0.mk hb2
  generalize hq : decide ((l0_2.length : Int) ≤ 20) = p3
  have hd2 : decide (l0_2.length ≤ 20) = p3 := hlen.trans hq
  clear hb1 hb2 hlen
  generalize (l0_2.any fun x => !entB x) = b at HCON
  cases p1 <;> cases p2 <;> cases p3
  all_goals
    go_enter Tryd.func32, Tryd.ntmps32
    go_wp2_with (first
      | (go_at_call 77; (with_reducible refine (impl_between.calls a0_0 1 1000000 _ _ HB1.out).mono ?_); rintro e w' ⟨rfl, ⟨nd, rfl⟩⟩)
      | (go_at_call 77; (with_reducible refine (impl_between.calls a0_1 0 20 _ _ HB2.out).mono ?_); rintro e w' ⟨rfl, ⟨nd2, rfl⟩⟩)
      | (go_at_call 78; refine (HCON.out _ ?hb).mono ?_; (case hb => (with_reducible repeat (first | exact Below.refl _ _ | apply pw_below_drewN | apply below_alloc))); rintro e w' ⟨rfl, hb'⟩))
    go_ret
    first
      | exact ⟨by cases b <;> rfl, below_step (by repeat (first | exact Below.refl _ _ | apply pw_below_drewN | apply below_alloc)) hb'⟩
      | exact ⟨rfl, by repeat (first | exact Below.refl _ _ | apply pw_below_drewN | apply below_alloc)⟩

theorem spec_answer (a b : Int) (l : List S67) (hl : l.length ≤ 9223372036854775807) (hv : ∀ e, e ∈ l → e.f0.length ≤ 9223372036854775807 ∧ e.f1.length ≤ 9223372036854775807 ∧ ∀ x, x ∈ e.f1 → x.f1.length ≤ 9223372036854775807) : Ev (fun k => spec_AnswerRight.f k a b l) (answerB a b l) := by
  unfold spec_AnswerRight.f answerB
  simp only [l02Is_eq, Option.bind_some]
  cases (decide (1 ≤ a) && decide (a ≤ 1000000))
  · exact Ev_some fun k => by simp
  · cases (decide (0 ≤ b) && decide (b ≤ 20))
    · exact Ev_some fun k => by simp
    · simp only [if_true, Bool.true_and]
      by_cases h : l.length ≤ 20
      · rw [decide_eq_true h, Bool.true_and]
        simp only [if_pos (show (l.length : Int) ≤ 20 by omega)]
        refine Ev_bind (a := l.all entB) ?_ (Ev.now _)
        have hall : l.all entB = ((List.range l.length).all (fun i => entB (rd_T67 l (i : Int))) && true) := by
          rw [Bool.and_true, Bool.eq_iff_iff, List.all_eq_true, List.all_eq_true]
          constructor
          · intro h i hi
            have hi' : i < l.length := by simpa using hi
            unfold rd_T67
            rw [Int.toNat_natCast, getD_at hi']
            exact h _ (List.getElem_mem _)
          · intro h x hx
            obtain ⟨i, hi, rfl⟩ := List.mem_iff_getElem.1 hx
            have := h i (by simpa using hi)
            unfold rd_T67 at this
            rw [Int.toNat_natCast, getD_at hi] at this
            exact this
        rw [hall]
        unfold spec_l06Entries.f
        refine all_loop (fun k i => spec_l06Entries.l0 k l i) _ l.length true ?_ ?_
        · exact Ev_one fun k => by simp only [spec_l06Entries.l0]; rw [if_neg (by omega)]
        · intro i hi u hu
          have e0 : wrap64 ((i : Int) + 1) = ((i + 1 : Nat) : Int) := by rw [wsucc (by omega) (by omega)]; omega
          have hm : rd_T67 l (i : Int) ∈ l := by
            unfold rd_T67
            rw [Int.toNat_natCast, getD_at hi]
            exact List.getElem_mem _
          refine Ev.step (fun k => by simp only [spec_l06Entries.l0]; rw [if_pos (by omega), if_pos (by omega), e0]) ?_
          refine Ev_bind (spec_entry _ _ (hv _ hm).1 (hv _ hm).2.1 (hv _ hm).2.2) ?_
          unfold entB
          cases entryB (rd_T67 l (i : Int)).f0 (rd_T67 l (i : Int)).f1
          · exact Ev_some fun k => by simp
          · simpa using hu
      · rw [decide_eq_false h, Bool.false_and]
        simp only [if_neg (show ¬ (l.length : Int) ≤ 20 by omega)]
        exact Ev.now _
end Go.Proofs.YtpocoeghobdfiaaDoor.PG
