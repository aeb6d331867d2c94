/-
  slices_ContainsFunc_Rdn: what it comes to for whatever function value tells a test. Conditions: what is asked of the function value (hcall).
-/
import Derived.Shelf.Abstract
import Derived.Test.YtbgikfahcppkfaaGreatDoorFRP1
import Derived.Test.YtbgikfahcppkfaaGreatDoorFRGen
import Derived.Test.YtbgikfahcppkfaaGreatDoorFRCloslicesIndexFuncRdn
namespace Go.Proofs.YtbgikfahcppkfaaGreatDoor.PG
open Go.RowKit Go.Proofs.YtbgikfahcppkfaaGreatDoorW.PrintWords Go.Proofs.YtbgikfahcppkfaaGreatDoorW.PrintLast Go.Proofs.YtbgikfahcppkfaaGreatDoorW.PrintMore Go.Proofs.YtbgikfahcppkfaaGreatDoor.Gn
attribute [local go_sem] max2_int min2_int max_two min_two max_three min_three max_four min_four
set_option linter.unusedVariables false
set_option linter.unusedSimpArgs false

/-! ### slices_ContainsFunc_Rdn: function 134: does an element meet the test -/
set_option maxHeartbeats 4000000 in
set_option maxRecDepth 100000 in
theorem slices_ContainsFunc_Rdn.any_ (g : Nat) (lb : Array Value) (E : World → Prop) (p : S126 → Bool) (hE : ∀ W W', Below W.heap.size W W' → E W → E W')
    (hcall : ∀ (W : World) (x : S126) (cs : List Value), E W → Kd.K k126 W x cs → Calls Tryz.prog g (#[.agg cs.toArray] ++ lb) W fun e w' => e = .returned (.bool (p x)) ∧ Below W.heap.size W w')
    (eg : ∀ args w, (callFunc g args).run Tryz.prog w = .ok (.enter g args) w)
    (A : Option Addr) (c : Nat) (l : List (S126)) (w : World) (hr : Kd.C k126 w A l.length l) (he : E w) :
    Calls Tryz.prog 134 #[.slice A l.length c, .func (.func g) #[] lb] w fun e w' => e = .returned (.bool (l.any p)) ∧ Below w.heap.size w w' := by
  have hcon := slices_IndexFunc_Rdn.any_ g lb E p hE hcall eg A c l w hr he
  have HI := Aside0.mk (idx_any p l)
  generalize idx p l = r at hcon HI
  generalize l.any p = b at HI ⊢
  clear hr he hE hcall
  go_enter Tryz.func134, Tryz.ntmps134
  go_wp2_with (go_at_call 180; refine hcon.mono ?_; rintro e w' ⟨rfl, hb'⟩)
  go_ret
  exact ⟨by rw [← HI.out]; rfl, hb'⟩

end Go.Proofs.YtbgikfahcppkfaaGreatDoor.PG
