/-
  The method has of the program's entry, and HasValue: what they come to. No condition but that the names rise.
-/
import Derived.Deep.RegionWith
import Derived.Test.YtpocoeghobdfiaaGreatDoorEEP2
import Derived.Test.YtpocoeghobdfiaaGreatDoorEEFind
import Derived.Test.YtpocoeghobdfiaaGreatDoorEEEntry
import Derived.Test.YtpocoeghobdfiaaGreatDoorEECloslicesContainsFuncstring
namespace Go.Proofs.YtpocoeghobdfiaaGreatDoor.PG
open Go.RowKit Go.Proofs.YtpocoeghobdfiaaGreatDoorW.PrintWords Go.Proofs.YtpocoeghobdfiaaGreatDoorW.PrintLast Go.Proofs.YtpocoeghobdfiaaGreatDoorW.PrintMore Go.Proofs.YtpocoeghobdfiaaGreatDoor.Gn Go.Proofs.YtpocoeghobdfiaaGreatDoor.Sem
attribute [local go_sem] max2_int min2_int max_two min_two max_three min_three max_four min_four
set_option linter.unusedVariables false
set_option linter.unusedSimpArgs false

theorem enters_136 : ∀ args w, (callFunc 136 args).run Tryz.prog w = .ok (.enter 136 args) w := enters_of Tryz.func136 (by kernel_rfl) rfl
theorem norm_calls (s : ByteArray) (W : World) : Calls Tryz.prog 98 #[.string s] W fun e w' => e = .returned (.string (normB s)) ∧ Below W.heap.size W w' := by
  obtain ⟨k, hk⟩ := (impl_norm s).rounds
  exact impl_Norm.calls k s _ W hk
set_option maxHeartbeats 1000000 in
theorem has_clo (b : Nat) (norm v : ByteArray) (W : World) (hE : W.cell? ⟨b, 0, none⟩ = some (.string norm)) :
    Calls Tryz.prog 136 #[.string v, .pointer (some ⟨b, 0, none⟩)] W fun e w' => e = .returned (.bool ((normB v).toList == norm.toList)) ∧ Below W.heap.size W w' := by
  have hcon := fun W => norm_calls v W
  generalize normB v = nv at hcon
  go_enter Tryz.func136, Tryz.ntmps136
  go_wp2
  go_region_with (go_at_call 98; refine (hcon _).mono ?_; rintro e w' ⟨rfl, hb'⟩; have f2 := pw_cell_below hb' hE)
  all_goals go_wp2
  all_goals go_ret
  all_goals exact ⟨rfl, by first | exact hb' | exact below_step (below_drew (Below.refl _ _)) hb' | exact below_step (pw_below_drewN (Below.refl _ _) _) hb' | exact below_drew hb'⟩

def anyB (norm : ByteArray) (l : List ByteArray) : Bool := l.any fun v => (normB v).toList == norm.toList
/-- Does a name have a value of a norm? -/
def hasB (name norm : ByteArray) (l : List S115) : Bool := (norm.toList != ([] : List UInt8)) && anyB norm (valsOf name l)
set_option maxHeartbeats 1000000 in
theorem has_calls (g : Nat) (A0 : Option Addr) (n0 c0 : Nat) (A1 : Option Addr) (c1 : Nat) (l : List S115) (name norm : ByteArray) (W : World) (he : EntAt W g A0 n0 c0 A1 c1 l) (hs : Rises l) :
    Calls Tryz.prog 97 #[.pointer (some ⟨g, 0, none⟩), .string name, .string norm] W fun e w' => e = .returned (.bool (hasB name norm l)) ∧ Below W.heap.size W w' := by
  have hbox := (below_alloc (Below.refl W.heap.size W) (.cells #[.string norm] 9))
  have hv := values_calls g A0 n0 c0 A1 c1 l name (W.alloc (.cells #[.string norm] 9)) (W.alloc (.cells #[.string norm] 9)) (he.below hbox) (Below.refl _ _) hs
  have hcell : (W.alloc (.cells #[.string norm] 9)).cell? ⟨W.heap.size, 0, none⟩ = some (.string norm) := cell_blk (heap_alloc_new W _) rfl
  have hcon := fun (W1 : World) (A : Option Addr) (c : Nat) (hb : Below (W.alloc (.cells #[.string norm] 9)).heap.size (W.alloc (.cells #[.string norm] 9)) W1) (hr : Kd.C Kd.string W1 A (valsOf name l).length (valsOf name l)) =>
    slices_ContainsFunc_string.any_ 136 #[.pointer (some ⟨W.heap.size, 0, none⟩)] (fun W' => W'.cell? ⟨W.heap.size, 0, none⟩ = some (.string norm)) (fun v => (normB v).toList == norm.toList)
      (fun W W' hb hE => pw_cell_below hb hE) (fun W' x cs hE hK => by obtain rfl := (show cs = [.string x] from hK); exact has_clo _ norm x W' hE) enters_136 A c (valsOf name l) W1 hr (pw_cell_below hb hcell)
  change ∀ (W1 : World) (A : Option Addr) (c : Nat) (hb : Below (W.alloc (.cells #[.string norm] 9)).heap.size (W.alloc (.cells #[.string norm] 9)) W1) (hr : Kd.C Kd.string W1 A (valsOf name l).length (valsOf name l)), Calls _ _ _ _ fun e w' => e = .returned (.bool (anyB norm (valsOf name l))) ∧ Below W1.heap.size W1 w' at hcon
  have HCON := Aside0.mk hcon
  have HBOX := Aside0.mk hbox
  unfold hasB
  generalize (valsOf name l) = vs at hv HCON ⊢
  generalize anyB norm vs = r at HCON ⊢
  clear he hs hcon hcell hbox
  cases hn : (norm.toList != ([] : List UInt8)) with
  | true =>
    have hn2 : norm.toList.isEmpty = false := by
      cases h : norm.toList with
      | nil => rw [h] at hn; cases hn
      | cons a b => rfl
    have hn3 : ¬ norm.toList = [] := by simpa using hn
    go_enter Tryz.func97, Tryz.ntmps97
    go_wp2_with (first | (go_at_call 115; refine hv.mono ?_; rintro e w1 ⟨A, c, rfl, hl1, hC1, hb1⟩; have HC1 := Aside0.mk (Kd.C_below hC1 hb1); clear hC1) | (go_at_call 122; refine (HCON.out _ _ _ hb1 HC1.out).mono ?_; rintro e w2 ⟨rfl, hb2⟩))
    go_ret
    exact ⟨by rw [Bool.true_and]; rfl, below_step (below_step HBOX.out hb1) hb2⟩
  | false =>
    have hn2 : norm.toList.isEmpty = true := by
      cases h : norm.toList with
      | nil => rfl
      | cons a b => rw [h] at hn; cases hn
    have hn3 : norm.toList = [] := by simpa using hn
    go_enter Tryz.func97, Tryz.ntmps97
    go_wp2
    go_ret
    exact ⟨rfl, HBOX.out⟩
end Go.Proofs.YtpocoeghobdfiaaGreatDoor.PG
