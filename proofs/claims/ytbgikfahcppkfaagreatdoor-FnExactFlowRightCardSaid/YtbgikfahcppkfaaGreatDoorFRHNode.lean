/-
  The laws' helpers at Node: sizes, copies, equality, as plain functions. No condition but those stated.
-/
import Derived.Test.YtbgikfahcppkfaaGreatDoorFRP1
import Derived.Test.YtbgikfahcppkfaaGreatDoorFRP2
import Derived.Test.YtbgikfahcppkfaaGreatDoorFRP3
import Derived.Test.YtbgikfahcppkfaaGreatDoorFRGen
import Derived.Test.YtbgikfahcppkfaaGreatDoorFRFits
namespace Go.Proofs.YtbgikfahcppkfaaGreatDoor.PG
set_option linter.unusedSimpArgs false
set_option linter.unusedVariables false
open Go.RowKit Go.Proofs.YtbgikfahcppkfaaGreatDoorW.PrintWords Go.Proofs.YtbgikfahcppkfaaGreatDoorW.PrintLast Go.Proofs.YtbgikfahcppkfaaGreatDoorW.PrintMore Go.Proofs.YtbgikfahcppkfaaGreatDoor.Gn Go.Proofs.YtbgikfahcppkfaaGreatDoor

def conv_Node (x : S148) : S155 := ⟨x.f0, x.f1, x.f2, x.f3⟩
def small_Node (x : S148) : Prop := True ∧ x.f1.size ≤ 1048576 ∧ x.f2.size ≤ 1048576 ∧ True
theorem sz_Node (x : S148) (hf : Ft.fit148 x) : ∀ acc : Int, 0 ≤ acc → acc ≤ 1048576 → ∃ r, Ev (fun k => laws_szNode.f x.f0 x.f1 x.f2 x.f3 acc) r ∧ r ≤ acc ∧ (0 ≤ r → small_Node x) := by
  intro acc a0 a1
  obtain ⟨h0, h1, h2, h3⟩ := hf
  unfold laws_szNode.f
  have h1' : x.f1.size ≤ 140737488351232 := h1
  have e1 : wrap64 (acc - (x.f1.size : Int)) = acc - (x.f1.size : Int) := w_id (by omega) (by omega)
  generalize wrap64 (acc - (x.f1.size : Int)) = b1 at e1 ⊢
  refine sz_str (b := b1) (by omega) (by omega) (fun h => by simp only [if_pos h]; exact Ev.now _) (fun p1 => ?_)
  simp only [if_neg (show ¬ b1 < 0 by omega)]
  have h2' : x.f2.size ≤ 140737488351232 := h2
  have e2 : wrap64 (b1 - (x.f2.size : Int)) = b1 - (x.f2.size : Int) := w_id (by omega) (by omega)
  generalize wrap64 (b1 - (x.f2.size : Int)) = b2 at e2 ⊢
  refine sz_str (b := b2) (by omega) (by omega) (fun h => by simp only [if_pos h]; exact Ev.now _) (fun p2 => ?_)
  simp only [if_neg (show ¬ b2 < 0 by omega)]
  exact ⟨_, Ev.now _, Int.le_refl _, fun _ => ⟨trivial, by omega, by omega, trivial⟩⟩
theorem to_Node (x : S148) (hf : Ft.fit148 x) : Ev (fun k => laws_toNode.f x.f0 x.f1 x.f2 x.f3) ((conv_Node x).f0, (conv_Node x).f1, (conv_Node x).f2, (conv_Node x).f3) := by
  obtain ⟨h0, h1, h2, h3⟩ := hf
  unfold laws_toNode.f
  exact Ev.now _
def lens_Node (y : S155) : Prop := True ∧ True ∧ True ∧ True
theorem eq_Node (y : S155) (hf : lens_Node y) : Ev (fun k => laws_eqNode.f y.f0 y.f1 y.f2 y.f3 y.f0 y.f1 y.f2 y.f3) true := by
  obtain ⟨h0, h1, h2, h3⟩ := hf
  unfold laws_eqNode.f
  (try simp only [if_true, eq_self_iff_true, bne_self_eq_false, Bool.false_eq_true, if_false, reduceIte, reduceCtorEq])
  exact Ev.now _
theorem lens_conv_Node (x : S148) (h : small_Node x) : lens_Node (conv_Node x) := by
  obtain ⟨h0, h1, h2, h3⟩ := h
  exact ⟨trivial, trivial, trivial, trivial⟩
def small_NodeS (l : List S148) : Prop := l.length ≤ 1048576 ∧ ∀ x, x ∈ l → small_Node x
theorem sz_NodeS (l : List S148) (hf : Ft.fit56 l) : ∀ acc : Int, 0 ≤ acc → acc ≤ 1048576 → ∃ r, Ev (fun k => laws_szNodeS.f k l acc) r ∧ r ≤ acc ∧ (0 ≤ r → small_NodeS l) := by
  have hl : l.length * 48 ≤ 140737488351232 := hf.1
  exact sz_slice (fun _ _ _ => rfl) l (by omega) (sz_loop (rdx := rd_T148) (z := z148) (fun _ _ => rfl) (e := fun k x acc => laws_szNode.f x.f0 x.f1 x.f2 x.f3 acc) (l := laws_szNodeS.l0) (small := small_Node) (fun _ _ _ _ => rfl) l (by omega) (fun x hx => sz_Node x (hf.2 x hx)))
theorem to_NodeS (l : List S148) (hf : Ft.fit56 l) : Ev (fun k => laws_toNodeS.f k l) (l.map conv_Node) := by
  have hl : l.length * 48 ≤ 140737488351232 := hf.1
  unfold laws_toNodeS.f
  simp only [if_pos (show 0 ≤ (l.length : Int) by omega), if_pos (show (l.length : Int).toNat ≤ 5864062014805 by omega)]
  exact to_loop (rdx := rd_T148) (z := z148) (fun _ _ => rfl) (c := fun k x => laws_toNode.f x.f0 x.f1 x.f2 x.f3) (mk := fun b => (⟨b.1, b.2.1, b.2.2.1, b.2.2.2⟩ : S155)) (l := laws_toNodeS.l0) (fun _ _ _ _ => rfl) l (by omega) conv_Node (fun x hx => ⟨_, to_Node x (hf.2 x hx), rfl⟩) _ (by simp)
def lens_NodeS (l : List S155) : Prop := l.length ≤ 9223372036854775807 ∧ ∀ y, y ∈ l → lens_Node y
theorem eq_NodeS (l : List S155) (hf : lens_NodeS l) : Ev (fun k => laws_eqNodeS.f k l l) true := by
  unfold laws_eqNodeS.f
  simp only [if_true, eq_self_iff_true]
  exact eq_loop (rdx := rd_T155) (z := z155) (fun _ _ => rfl) (e := fun k a b => laws_eqNode.f a.f0 a.f1 a.f2 a.f3 b.f0 b.f1 b.f2 b.f3) (l := laws_eqNodeS.l0) (fun _ _ _ _ => rfl) l hf.1 (fun x hx => eq_Node x (hf.2 x hx))
theorem lens_conv_NodeS (l : List S148) (h : small_NodeS l) : lens_NodeS (l.map conv_Node) := by
  refine ⟨by rw [List.length_map]; have := h.1; omega, fun y hy => ?_⟩
  obtain ⟨x, hx, rfl⟩ := List.mem_map.1 hy
  exact lens_conv_Node x (h.2 x hx)
end Go.Proofs.YtbgikfahcppkfaaGreatDoor.PG
