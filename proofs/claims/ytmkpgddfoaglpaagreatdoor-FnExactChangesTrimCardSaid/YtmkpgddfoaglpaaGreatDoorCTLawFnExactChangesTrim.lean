/-
 The row and its tied card of the law FnExactChangesTrim, for every argument; the listed tables of Go's library read as their text lays them (tied by the card).
-/
import Derived.Test.YtmkpgddfoaglpaaGreatDoorRows
import Derived.Test.YtmkpgddfoaglpaaGreatDoorCards
import Derived.Test.YtmkpgddfoaglpaaGreatDoorTie
import Derived.WalkKit
import Derived.ProofKit
import Derived.OpenShut
import Derived.ShutString
import Derived.ChangeOld
import Derived.Below
import Derived.SizedLaws
import Derived.Deep.DeepHandedRow
import Derived.JoinedCond
import Derived.Lib.LaidTab
import Derived.Lib.SmallJoins
import Derived.SevenTiedAt
import Derived.Test.YtmkpgddfoaglpaaGreatDoorCTQChangesTrima
import Derived.Test.YtmkpgddfoaglpaaGreatDoorCTFits
import Derived.Test.YtmkpgddfoaglpaaGreatDoorCTLawCT
set_option maxHeartbeats 8000000
set_option maxRecDepth 100000
set_option linter.unusedVariables false
set_option linter.unusedSimpArgs false
namespace Go.Proofs.YtmkpgddfoaglpaaGreatDoor.fnExactChangesTrim
open Go.ChangeShapes Go.WideShapes Go.ChangeAt Go.RowKit Go.Proofs.YtmkpgddfoaglpaaGreatDoorW.PrintWords
open Go.ChangeMaps (open_string shut_string)
theorem own : ownKnob Tryz.prog.godebug = none := by kernel_rfl
theorem laidOut : laidOutB Tryz.prog = true := by kernel_rfl
theorem contract (H : Type) (enc : TypeId × Value → H) (W : World) (base : Nat) (args : Array Value) (ds gs : List (DataW H)) (before : List MemPlace)
   (hval : ∀ (j : Nat) t v, Tryz.f7.params[j]? = some t → args[j]? = some v → Value.okWide Tryz.prog W .any base t v)
   (hW : DataW.Whole enc Tryz.prog Tryz.f7.params.toList Rows.fnExactChangesTrimSpec.vars false W args.toList ds gs before)
   (hsz : (DataW.weightsEach Tryz.prog (Tryz.f7.params.toList ++ (OpenSpec.ofChange Rows.fnExactChangesTrimSpec).bare.plain.varTypes Tryz.prog) (ds ++ gs)).all (· ≤ reachBytes) = true) :
   Calls Tryz.prog 7 args W fun e W' => ∃ v, e = .returned v ∧ Rows.fnExactChangesTrimSpec.post enc Tryz.prog Tryz.f7 false true false false W args v W' := by
 have hW' := hW
 obtain ⟨p, q, hA0, hV, rfl, hfz, hnd⟩ := hW
 have hA : DataW.TrodAll enc Tryz.prog W 0 (fun _ => true) true Tryz.f7.params.toList args.toList ds p := hA0
 rw [Tryz.params7] at hA hval hsz
 obtain ⟨v0, vs0, d0, ds0, p0, q0, hargs, rfl, rfl, h0, r0⟩ := trodAll_cons hA
 obtain ⟨v1, vs1, d1, ds1, p1, q1, rfl, rfl, rfl, h1, r1⟩ := trodAll_cons r0
 obtain ⟨rfl, rfl, rfl⟩ := trodAll_nil r1
 obtain rfl : args = #[v0, v1] := by cases args; simp_all
 obtain ⟨rfl, rfl⟩ := trodVars_none hV
 have k0 := h0
 have lt0 : ∀ x ∈ p0, x.block < W.heap.size := by obtain ⟨m, hm⟩ := k0; exact DataW.trod_lt m _ _ _ hm
 obtain ⟨x0, hx0, w0⟩ := Opn.arg Ft.op63 h0 hsz (j := 0) rfl rfl
 obtain ⟨cs0, rfl, hy0⟩ := Opn.arg_agg (let ⟨cs, h1, h2⟩ := okWide_struct Tryz.underlying63 (hval 0 63 v0 rfl rfl); ⟨cs, _, h1, h2⟩) hx0
 obtain ⟨A0_1, c0_1, hcs0, hl0_1, hC0_1⟩ := PG.k63_open hy0
 obtain rfl : cs0 = #[.int .i64 x0.f0, .slice A0_1 x0.f1.length c0_1] := by cases cs0; simpa using hcs0
 obtain ⟨a1, rfl, rfl, rfl, w1⟩ := open_int Tryz.underlying2 (hval 1 2 v1 rfl rfl) h1
 clear hA0 hsz
 refine (PG.walk_FnExactChangesTrim x0 a1 w0 w1 A0_1 c0_1 W hC0_1 hl0_1).mono fun e W' ⟨he, bel0⟩ => ?_
 have bel : Below W.heap.size W W' := bel0
 subst he
 exact ⟨_, rfl, _, _, _, [], _, [], hW', trodAll_mk1 (shut_bool Tryz.underlying4 _), (trodAll_cons_mk (Below.trod laidOut (by kernel_rfl) (of_decide_eq_true (by kernel_rfl)) k0 bel lt0) (trodAll_cons_mk (shut_int Tryz.underlying2 w1) trodAll_mk0)), rfl, bel.frame _, fun h => by cases h⟩
mutual
def flat : DataW Unit → List Value
 | .lit (.int k n) => [.int k n]
 | .lit (.bool b) => [.bool b]
 | .agg l => flatAll l
 | _ => []
def flatAll : List (DataW Unit) → List Value
 | [] => []
 | d :: r => flat d ++ flatAll r
end
def lay (cs : List Value) : Obj → Obj
 | .cells _ t frozen => .cells cs.toArray t frozen
 | o => o
noncomputable def laidWorld (os : Os) : World :=
 { World.holding Tryz.prog os ⟨#[], #[], []⟩ with heap := (Array.modify (Array.modify ((World.holding Tryz.prog os ⟨#[], #[], []⟩).heap) 1 (lay (flat Rows.laid_unicode_utf8_acceptRanges))) 0 (lay (flat Rows.laid_unicode_utf8_first))) }
theorem laid_met (os : Os) : laidMet Tryz.prog Rows.fnExactChangesTrimRow.laid ((laidWorld os).forCall (fun _ _ => 0) ⟨#[], #[(.agg #[(.int .i64 0), (.slice none 0 0)]), (.int .i64 0)], []⟩).memory :=
 laidMet_of_run' 8 (by kernel_rfl) (by kernel_rfl)
theorem reads (os : Os) {H : Type} (enc : TypeId × Value → H) : ∃ places, DataW.whole enc Tryz.prog ((laidWorld os).forCall (fun _ _ => 0) ⟨#[], #[(.agg #[(.int .i64 0), (.slice none 0 0)]), (.int .i64 0)], []⟩).memory Tryz.f7.params.toList Rows.fnExactChangesTrimSpec.vars false (#[(.agg #[(.int .i64 0), (.slice none 0 0)]), (.int .i64 0)] : Array Value).toList 8 = some ([.agg [.lit (.int .i64 0), .nil], .lit (.int .i64 0)], [], places) :=
 ⟨[], by kernel_rfl⟩
theorem lifted (os : Os) (started : os.Started) (H : Type) (enc : TypeId × Value → H) (F : Stop.Interp) :
   ReturnsInHanded {} Tryz.checked os 7 .any ((OpenSpec.ofChange Rows.fnExactChangesTrimSpec).preRow enc Tryz.prog Tryz.f7 Rows.fnExactChangesTrimRow.domain false Rows.fnExactChangesTrimRow.laid) (((OpenSpec.ofChange Rows.fnExactChangesTrimSpec).at F).post enc Tryz.prog Tryz.f7 false true false false) := by
 obtain ⟨places, hx⟩ := reads os enc
 refine returnsInHanded_of_row (C := Tryz.checked) (s := OpenSpec.ofChange Rows.fnExactChangesTrimSpec) own started (by kernel_rfl) Tryz.func7
   (witness_row_at (enc := enc) (C := Tryz.checked) false (laidWorld os) #[(.agg #[(.int .i64 0), (.slice none 0 0)]), (.int .i64 0)] rfl (by kernel_rfl) (by kernel_rfl) (by kernel_rfl)
     (OpenSpec.preRow_of_cond 8 hx (by kernel_rfl) (fun k hk => by cases hk) (by kernel_rfl) (laid_met os))) ?_
 intro W base args ds gs before hval hW _ _ hsz _ _ _
 exact contract H enc W base args ds gs before hval hW hsz
theorem band_ {a b : Bool} (h : a = true) (k : b = true) : (a && b) = true := by rw [h, k]; rfl
theorem closed_ : joinedFacts Tryz.pinned.checked.prog 7 Tryz.f7 (OpenSpec.ofChange Rows.fnExactChangesTrimSpec).bare Rows.fnExactChangesTrimRow = true := by
 unfold joinedFacts
 exact band_ (band_ (band_ (band_ (band_ (band_ (band_ (band_ (band_ (band_ (band_ (band_ (band_ (band_ (band_ (band_ (band_ (band_ (band_ (band_ (band_ (band_ (band_ (band_ (band_ (band_ (band_ (band_ (band_ (band_ (band_ (q0_) q1_) q2_) q3_) q4_) q5_) q6_) q7_) q8_) q9_) q10_) q11_) q12_) q13_) q14_) q15_) q16_) q17_) q18_) q19_) q20_) q21_) q22_) q23_) q24_) q25_) q26_) q27_) q28_) q29_) q30_) q31_
theorem said : Rows.FnExactChangesTrimSaid :=
 OpenClaim.holds_of_cond 7 Tryz.f7 rfl rfl rfl rfl rfl rfl rfl ⟨rfl, rfl, rfl, rfl, rfl⟩ rfl rfl rfl rfl rfl (by kernel_rfl) Tryz.func7 closed_
   (of_decide_eq_true (by kernel_rfl)) (by unfold Func.isWrapper; first | (rw [if_pos (by decide +kernel)]; kernel_rfl) | (rw [if_neg (by decide +kernel)]; exact ⟨rfl, rfl⟩))
   (fun os started H enc _ F => by rw [OpenClaim.pre_eq_preRow]; exact lifted os started H enc F)
theorem plain (f : FuncId) (fn : Func) (hf : Tryz.pinned.checked.prog.funcNamed "loop.example/g00402/laws.FnExactChangesTrim" = some f) (hfn : Tryz.pinned.checked.prog.funcs[f]? = some fn) :
   false = Tryz.pinned.checked.prog.looks [] ∧ ∀ (j : Nat) t, fn.params[j]? = some t → Tryz.pinned.checked.prog.wantsStandIn t = false := by
 obtain rfl : f = 7 := Option.some.inj ((show Tryz.prog.funcNamed "loop.example/g00402/laws.FnExactChangesTrim" = some 7 by kernel_rfl).symm.trans hf) |>.symm
 obtain rfl : fn = Tryz.f7 := (Option.some.inj (Tryz.func7.symm.trans hfn)).symm
 refine ⟨by kernel_rfl, fun j t ht => ?_⟩
 rw [Tryz.params7] at ht
 rcases j with _ | _ | j
 · obtain rfl : t = 63 := by simpa using ht.symm
   exact (show Tryz.prog.wantsStandIn 63 = false by kernel_rfl)
 · obtain rfl : t = 2 := by simpa using ht.symm
   exact (show Tryz.prog.wantsStandIn 2 = false by kernel_rfl)
 · simp at ht
theorem card : Rows.FnExactChangesTrimCardSaid :=
 Claim7.holds_tied_plain_at .later [] _ _ _ _ said (fun _ h => by cases h) (by kernel_rfl) (fun _ h => by cases h) fnExactChangesTrim_row_tie rfl ⟨rfl, rfl⟩ (by kernel_rfl) rfl plain (by kernel_rfl)
#print axioms card
end Go.Proofs.YtmkpgddfoaglpaaGreatDoor.fnExactChangesTrim
namespace Go.Proofs.YtmkpgddfoaglpaaGreatDoor
theorem fnExactChangesTrim_holds : Rows.FnExactChangesTrimCardSaid := fnExactChangesTrim.card
end Go.Proofs.YtmkpgddfoaglpaaGreatDoor
