/-
  The laws' helpers at Flow: sizes, copies, equality, as plain functions. No condition but those stated.
-/
import Derived.Test.YtbgikfahcppkfaaGreatDoorFRP1
import Derived.Test.YtbgikfahcppkfaaGreatDoorFRP3
import Derived.Test.YtbgikfahcppkfaaGreatDoorFRGen
import Derived.Test.YtbgikfahcppkfaaGreatDoorFRFits
import Derived.Test.YtbgikfahcppkfaaGreatDoorFRHRdn
import Derived.Test.YtbgikfahcppkfaaGreatDoorFRHNode
import Derived.Test.YtbgikfahcppkfaaGreatDoorFRHPart
namespace Go.Proofs.YtbgikfahcppkfaaGreatDoor.PG
set_option linter.unusedSimpArgs false
set_option linter.unusedVariables false
open Go.RowKit Go.Proofs.YtbgikfahcppkfaaGreatDoorW.PrintWords Go.Proofs.YtbgikfahcppkfaaGreatDoorW.PrintLast Go.Proofs.YtbgikfahcppkfaaGreatDoorW.PrintMore Go.Proofs.YtbgikfahcppkfaaGreatDoor.Gn Go.Proofs.YtbgikfahcppkfaaGreatDoor

def conv_Flow (x : S59) : S65 := ⟨x.f0.map conv_Rdn, x.f1.map conv_Node, x.f2.map conv_Part, x.f3.map conv_Part, x.f4.map conv_Part, x.f5⟩
def small_Flow (x : S59) : Prop := small_RdnS x.f0 ∧ small_NodeS x.f1 ∧ small_PartS x.f2 ∧ small_PartS x.f3 ∧ small_PartS x.f4 ∧ True
theorem sz_Flow (x : S59) (hf : Ft.fit59 x) : ∀ acc : Int, 0 ≤ acc → acc ≤ 1048576 → ∃ r, Ev (fun k => laws_szFlow.f k x.f0 x.f1 x.f2 x.f3 x.f4 x.f5 acc) r ∧ r ≤ acc ∧ (0 ≤ r → small_Flow x) := by
  intro acc a0 a1
  obtain ⟨h0, h1, h2, h3, h4, h5⟩ := hf
  unfold laws_szFlow.f
  obtain ⟨b0, hr0, hle0, hs0⟩ := sz_RdnS x.f0 h0 acc (by omega) (by omega)
  refine sz_bind (by omega) hr0 hle0 (fun h => by simp only [if_pos h]; exact Ev.now _) (fun p0 => ?_)
  simp only [if_neg (show ¬ b0 < 0 by omega)]
  obtain ⟨b1, hr1, hle1, hs1⟩ := sz_NodeS x.f1 h1 b0 (by omega) (by omega)
  refine sz_bind (by omega) hr1 hle1 (fun h => by simp only [if_pos h]; exact Ev.now _) (fun p1 => ?_)
  simp only [if_neg (show ¬ b1 < 0 by omega)]
  obtain ⟨b2, hr2, hle2, hs2⟩ := sz_PartS x.f2 h2 b1 (by omega) (by omega)
  refine sz_bind (by omega) hr2 hle2 (fun h => by simp only [if_pos h]; exact Ev.now _) (fun p2 => ?_)
  simp only [if_neg (show ¬ b2 < 0 by omega)]
  obtain ⟨b3, hr3, hle3, hs3⟩ := sz_PartS x.f3 h3 b2 (by omega) (by omega)
  refine sz_bind (by omega) hr3 hle3 (fun h => by simp only [if_pos h]; exact Ev.now _) (fun p3 => ?_)
  simp only [if_neg (show ¬ b3 < 0 by omega)]
  obtain ⟨b4, hr4, hle4, hs4⟩ := sz_PartS x.f4 h4 b3 (by omega) (by omega)
  refine sz_bind (by omega) hr4 hle4 (fun h => by simp only [if_pos h]; exact Ev.now _) (fun p4 => ?_)
  simp only [if_neg (show ¬ b4 < 0 by omega)]
  exact ⟨_, Ev.now _, Int.le_refl _, fun _ => ⟨hs0 p0, hs1 p1, hs2 p2, hs3 p3, hs4 p4, trivial⟩⟩
theorem to_Flow (x : S59) (hf : Ft.fit59 x) : Ev (fun k => laws_toFlow.f k x.f0 x.f1 x.f2 x.f3 x.f4 x.f5) ((conv_Flow x).f0, (conv_Flow x).f1, (conv_Flow x).f2, (conv_Flow x).f3, (conv_Flow x).f4, (conv_Flow x).f5) := by
  obtain ⟨h0, h1, h2, h3, h4, h5⟩ := hf
  unfold laws_toFlow.f
  refine Ev_bind (to_RdnS x.f0 h0) ?_
  refine Ev_bind (to_NodeS x.f1 h1) ?_
  refine Ev_bind (to_PartS x.f2 h2) ?_
  refine Ev_bind (to_PartS x.f3 h3) ?_
  refine Ev_bind (to_PartS x.f4 h4) ?_
  exact Ev.now _
def lens_Flow (y : S65) : Prop := lens_RdnS y.f0 ∧ lens_NodeS y.f1 ∧ lens_PartS y.f2 ∧ lens_PartS y.f3 ∧ lens_PartS y.f4 ∧ True
theorem eq_Flow (y : S65) (hf : lens_Flow y) : Ev (fun k => laws_eqFlow.f k y.f0 y.f1 y.f2 y.f3 y.f4 y.f5 y.f0 y.f1 y.f2 y.f3 y.f4 y.f5) true := by
  obtain ⟨h0, h1, h2, h3, h4, h5⟩ := hf
  unfold laws_eqFlow.f
  (try simp only [if_true, eq_self_iff_true, bne_self_eq_false, Bool.false_eq_true, if_false, reduceIte, reduceCtorEq])
  refine Ev_bind (eq_RdnS y.f0 h0) ?_
  (try simp only [if_true, eq_self_iff_true, bne_self_eq_false, Bool.false_eq_true, if_false, reduceIte, reduceCtorEq])
  refine Ev_bind (eq_NodeS y.f1 h1) ?_
  (try simp only [if_true, eq_self_iff_true, bne_self_eq_false, Bool.false_eq_true, if_false, reduceIte, reduceCtorEq])
  refine Ev_bind (eq_PartS y.f2 h2) ?_
  (try simp only [if_true, eq_self_iff_true, bne_self_eq_false, Bool.false_eq_true, if_false, reduceIte, reduceCtorEq])
  refine Ev_bind (eq_PartS y.f3 h3) ?_
  (try simp only [if_true, eq_self_iff_true, bne_self_eq_false, Bool.false_eq_true, if_false, reduceIte, reduceCtorEq])
  refine Ev_bind (eq_PartS y.f4 h4) ?_
  (try simp only [if_true, eq_self_iff_true, bne_self_eq_false, Bool.false_eq_true, if_false, reduceIte, reduceCtorEq])
  exact Ev.now _
theorem lens_conv_Flow (x : S59) (h : small_Flow x) : lens_Flow (conv_Flow x) := by
  obtain ⟨h0, h1, h2, h3, h4, h5⟩ := h
  exact ⟨lens_conv_RdnS _ h0, lens_conv_NodeS _ h1, lens_conv_PartS _ h2, lens_conv_PartS _ h3, lens_conv_PartS _ h4, trivial⟩
end Go.Proofs.YtbgikfahcppkfaaGreatDoor.PG
