/-
  slices_ContainsFunc_Rdn: what it comes to for whatever function value tells a test. Conditions: what is asked of the function value (hcall).
-/
import Derived.Shelf.Abstract
import Derived.Test.YtpocoeghobdfiaaGreatDoorEEP1
import Derived.Test.YtpocoeghobdfiaaGreatDoorEEGen
import Derived.Test.YtpocoeghobdfiaaGreatDoorEECloslicesIndexFuncRdn
namespace Go.Proofs.YtpocoeghobdfiaaGreatDoor.PG
open Go.RowKit Go.Proofs.YtpocoeghobdfiaaGreatDoorW.PrintWords Go.Proofs.YtpocoeghobdfiaaGreatDoorW.PrintLast Go.Proofs.YtpocoeghobdfiaaGreatDoorW.PrintMore Go.Proofs.YtpocoeghobdfiaaGreatDoor.Gn
attribute [local go_sem] max2_int min2_int max_two min_two max_three min_three max_four min_four
set_option linter.unusedVariables false
set_option linter.unusedSimpArgs false

/-! ### slices_ContainsFunc_Rdn: function 108: does an element meet the test -/
set_option maxHeartbeats 4000000 in
set_option maxRecDepth 100000 in
theorem slices_ContainsFunc_Rdn.any_ (g : Nat) (lb : Array Value) (E : World → Prop) (p : S113 → Bool) (hE : ∀ W W', Below W.heap.size W W' → E W → E W')
    (hcall : ∀ (W : World) (x : S113) (cs : List Value), E W → Kd.K k113 W x cs → Calls Tryz.prog g (#[.agg cs.toArray] ++ lb) W fun e w' => e = .returned (.bool (p x)) ∧ Below W.heap.size W w')
    (eg : ∀ args w, (callFunc g args).run Tryz.prog w = .ok (.enter g args) w)
    (A : Option Addr) (c : Nat) (l : List (S113)) (w : World) (hr : Kd.C k113 w A l.length l) (he : E w) :
    Calls Tryz.prog 108 #[.slice A l.length c, .func (.func g) #[] lb] w fun e w' => e = .returned (.bool (l.any p)) ∧ Below w.heap.size w w' := by
  have hcon := slices_IndexFunc_Rdn.any_ g lb E p hE hcall eg A c l w hr he
  have HI := Aside0.mk (idx_any p l)
  generalize idx p l = r at hcon HI
  generalize l.any p = b at HI ⊢
  clear hr he hE hcall
  go_enter Tryz.func108, Tryz.ntmps108
  go_wp2_with (go_at_call 141; refine hcon.mono ?_; rintro e w' ⟨rfl, hb'⟩)
  go_ret
  exact ⟨by rw [← HI.out]; rfl, hb'⟩

end Go.Proofs.YtpocoeghobdfiaaGreatDoor.PG
