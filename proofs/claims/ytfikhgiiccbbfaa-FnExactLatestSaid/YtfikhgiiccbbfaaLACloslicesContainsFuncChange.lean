/-
  slices_ContainsFunc_Change: what it comes to for whatever function value tells a test. Conditions: what is asked of the function value (hcall).
-/
import Derived.Shelf.Abstract
import Derived.Test.YtfikhgiiccbbfaaLAP1
import Derived.Test.YtfikhgiiccbbfaaLAGen
import Derived.Test.YtfikhgiiccbbfaaLACloslicesIndexFuncChange
namespace Go.Proofs.Ytfikhgiiccbbfaa.PH
open Go.RowKit Go.Proofs.YtfikhgiiccbbfaaW.PrintWords Go.Proofs.YtfikhgiiccbbfaaW.PrintLast Go.Proofs.YtfikhgiiccbbfaaW.PrintMore Go.Proofs.Ytfikhgiiccbbfaa.Gn
attribute [local go_sem] max2_int min2_int max_two min_two max_three min_three max_four min_four
set_option linter.unusedVariables false
set_option linter.unusedSimpArgs false

/-! ### slices_ContainsFunc_Change: function 87: does an element meet the test -/
set_option maxHeartbeats 4000000 in
set_option maxRecDepth 100000 in
theorem slices_ContainsFunc_Change.any_ (g : Nat) (lb : Array Value) (E : World → Prop) (p : S100 → Bool) (hE : ∀ W W', Below W.heap.size W W' → E W → E W')
    (hcall : ∀ (W : World) (x : S100) (cs : List Value), E W → Kd.K k100 W x cs → Calls Try.prog g (#[.agg cs.toArray] ++ lb) W fun e w' => e = .returned (.bool (p x)) ∧ Below W.heap.size W w')
    (eg : ∀ args w, (callFunc g args).run Try.prog w = .ok (.enter g args) w)
    (A : Option Addr) (c : Nat) (l : List (S100)) (w : World) (hr : Kd.C k100 w A l.length l) (he : E w) :
    Calls Try.prog 87 #[.slice A l.length c, .func (.func g) #[] lb] w fun e w' => e = .returned (.bool (l.any p)) ∧ Below w.heap.size w w' := by
  have hcon := slices_IndexFunc_Change.any_ g lb E p hE hcall eg A c l w hr he
  have HI := Aside0.mk (idx_any p l)
  generalize idx p l = r at hcon HI
  generalize l.any p = b at HI ⊢
  clear hr he hE hcall
  go_enter Try.func87, Try.ntmps87
  go_wp2_with (go_at_call 98; refine hcon.mono ?_; rintro e w' ⟨rfl, hb'⟩)
  go_ret
  exact ⟨by rw [← HI.out]; rfl, hb'⟩

end Go.Proofs.Ytfikhgiiccbbfaa.PH
