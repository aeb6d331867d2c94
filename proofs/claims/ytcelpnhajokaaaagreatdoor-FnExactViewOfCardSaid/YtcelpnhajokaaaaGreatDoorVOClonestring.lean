/-
 slices.Clone on []string: a row of the call's own with the same elements. Condition: the row's size.
-/
import Derived.Test.YtcelpnhajokaaaaGreatDoorVOFits
namespace Go.Proofs.YtcelpnhajokaaaaGreatDoor.PG
open Go.RowKit Go.Proofs.YtcelpnhajokaaaaGreatDoorW.PrintWords Go.Proofs.YtcelpnhajokaaaaGreatDoorW.PrintLast Go.Proofs.YtcelpnhajokaaaaGreatDoorW.PrintMore Go.Proofs.YtcelpnhajokaaaaGreatDoor.Gn
attribute [local go_sem] max2_int min2_int max_two min_two max_three min_three max_four min_four
set_option linter.unusedVariables false
set_option linter.unusedSimpArgs false
set_option maxHeartbeats 1000000 in
set_option maxRecDepth 100000 in
theorem clone_string (A : Option Addr) (c : Nat) (l : List ByteArray) (w : World) (hr : Kd.C Kd.string w A l.length l) (hc : l.length ≤ c) (hb : l.length * 16 ≤ 140737488355328) :
   Calls Tryz.prog 178 #[.slice A l.length c] w fun e w' => ∃ v, e = .returned v ∧ Kd.R Kd.string 9 w' w.heap.size (fun _ => True) v l ∧ Below w.heap.size w w' := by
 have HR := Aside0.mk hr
 have HBY := Aside0.mk hb
 cases A with
 | none =>
   have hn0 : l.length = 0 := by
     rcases Nat.eq_zero_or_pos l.length with h | h
     · exact h
     · obtain ⟨ad, _, h1, _⟩ := Kd.C_get hr ByteArray.empty 0 (by omega) (by omega)
       cases h1
   obtain rfl : l = [] := List.eq_nil_of_length_eq_zero hn0
   have hq : ∀ (n c : Nat) (w : World), Sem.run Tryz.prog (binOp .eql 90 (.slice none n c) (.slice none 0 0)) w = .ok (.bool true) w := fun n c w => by kernel_rfl
   clear hr hb hn0 HR HBY
   go_enter Tryz.func178, Tryz.ntmps178
   go_wp2
   go_ret
   exact ⟨_, rfl, Kd.R_nil _ _ _ _ _, Below.refl _ _⟩
 | some ad =>
   have hq : ∀ (n c : Nat) (w : World), Sem.run Tryz.prog (binOp .eql 90 (.slice (some ad) n c) (.slice none 0 0)) w = .ok (.bool false) w := fun n c w => by kernel_rfl
   clear hr hb
   go_enter Tryz.func178, Tryz.ntmps178
   go_wp2_with (((with_reducible refine gate_builtin (b := .append) (xs := #[.tmp 5, .tmp 6]) rfl ?_); at_builtin; refine Kd.R_append_rows Kd.string (w0 := w) w.heap.size rfl (.tmp 5) (.tmp 6) 90 9 ((.string ⟨#[]⟩)) 16 rfl Tryz.underlying90 info9 rfl (by decide) (by omega) _ [] l _ _ _ (fun _ => True) (fun _ => False) rfl rfl ?aO ?aR (fun _ _ h => h) (fun _ h => h.elim) ?aF ?aB ?aS ?aL ?_); (case aO => exact R_empty _ _ _); (case aR => exact Kd.C_below HR.out (below_alloc (Below.refl _ _) _)); (case aF => exact fun _ _ => trivial); (case aB => exact below_alloc (Below.refl _ _) _); (case aS => simp); (case aL => have := HBY.out; simpa using this); intro v1 w1 hv hb1 hg1 hx)
   go_ret
   exact ⟨_, rfl, hv, hb1⟩
end Go.Proofs.YtcelpnhajokaaaaGreatDoor.PG
