/-
  The laws' helpers at Answer: sizes, copies, equality, as plain functions. No condition but those stated.
-/
import Derived.Test.YtpocoeghobdfiaaDoorARP1
import Derived.Test.YtpocoeghobdfiaaDoorARP2
import Derived.Test.YtpocoeghobdfiaaDoorARP3
import Derived.Test.YtpocoeghobdfiaaDoorARGen
import Derived.Test.YtpocoeghobdfiaaDoorARFits
import Derived.Test.YtpocoeghobdfiaaDoorARHEntry
namespace Go.Proofs.YtpocoeghobdfiaaDoor.PG
set_option linter.unusedSimpArgs false
set_option linter.unusedVariables false
open Go.RowKit Go.Proofs.YtpocoeghobdfiaaDoorW.PrintWords Go.Proofs.YtpocoeghobdfiaaDoorW.PrintLast Go.Proofs.YtpocoeghobdfiaaDoorW.PrintMore Go.Proofs.YtpocoeghobdfiaaDoor.Gn Go.Proofs.YtpocoeghobdfiaaDoor

def conv_Answer (x : S49) : S54 := ⟨x.f0, x.f1, x.f2.map conv_Entry⟩
def small_Answer (x : S49) : Prop := True ∧ True ∧ small_EntryS x.f2
theorem sz_Answer (x : S49) (hf : Ft.fit49 x) : ∀ acc : Int, 0 ≤ acc → acc ≤ 1048576 → ∃ r, Ev (fun k => laws_szAnswer.f k x.f0 x.f1 x.f2 acc) r ∧ r ≤ acc ∧ (0 ≤ r → small_Answer x) := by
  intro acc a0 a1
  obtain ⟨h0, h1, h2⟩ := hf
  unfold laws_szAnswer.f
  obtain ⟨b2, hr2, hle2, hs2⟩ := sz_EntryS x.f2 h2 acc (by omega) (by omega)
  refine sz_bind (by omega) hr2 hle2 (fun h => by simp only [if_pos h]; exact Ev.now _) (fun p2 => ?_)
  simp only [if_neg (show ¬ b2 < 0 by omega)]
  exact ⟨_, Ev.now _, Int.le_refl _, fun _ => ⟨trivial, trivial, hs2 p2⟩⟩
theorem to_Answer (x : S49) (hf : Ft.fit49 x) : Ev (fun k => laws_toAnswer.f k x.f0 x.f1 x.f2) ((conv_Answer x).f0, (conv_Answer x).f1, (conv_Answer x).f2) := by
  obtain ⟨h0, h1, h2⟩ := hf
  unfold laws_toAnswer.f
  refine Ev_bind (to_EntryS x.f2 h2) ?_
  exact Ev.now _
def lens_Answer (y : S54) : Prop := True ∧ True ∧ lens_EntryS y.f2
theorem eq_Answer (y : S54) (hf : lens_Answer y) : Ev (fun k => laws_eqAnswer.f k y.f0 y.f1 y.f2 y.f0 y.f1 y.f2) true := by
  obtain ⟨h0, h1, h2⟩ := hf
  unfold laws_eqAnswer.f
  (try simp only [if_true, eq_self_iff_true, bne_self_eq_false, Bool.false_eq_true, if_false, reduceIte, reduceCtorEq])
  refine Ev_bind (eq_EntryS y.f2 h2) ?_
  (try simp only [if_true, eq_self_iff_true, bne_self_eq_false, Bool.false_eq_true, if_false, reduceIte, reduceCtorEq])
  exact Ev.now _
theorem lens_conv_Answer (x : S49) (h : small_Answer x) : lens_Answer (conv_Answer x) := by
  obtain ⟨h0, h1, h2⟩ := h
  exact ⟨trivial, trivial, lens_conv_EntryS _ h2⟩
end Go.Proofs.YtpocoeghobdfiaaDoor.PG
