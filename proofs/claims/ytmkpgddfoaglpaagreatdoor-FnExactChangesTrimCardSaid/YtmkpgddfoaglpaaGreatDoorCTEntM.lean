/-
 Rows of Entry whose rows all lie apart: the kind, marks of []Entry (laws.markEntryS, walked by hand) and that they are found again (laws.heldEntryS). Conditions: the marks' numbers stay small.
-/
import Derived.Test.YtmkpgddfoaglpaaGreatDoorCTP1
import Derived.Test.YtmkpgddfoaglpaaGreatDoorCTP2
import Derived.Test.YtmkpgddfoaglpaaGreatDoorCTSq
import Derived.Test.YtmkpgddfoaglpaaGreatDoorCTQChangesTrima
import Derived.Test.YtmkpgddfoaglpaaGreatDoorCTDn
import Derived.Test.YtmkpgddfoaglpaaGreatDoorCTGen
import Derived.Test.YtmkpgddfoaglpaaGreatDoorCTFits
set_option linter.unusedVariables false
set_option linter.unusedSimpArgs false
namespace Go.Proofs.YtmkpgddfoaglpaaGreatDoor.PG
open Go.RowKit Go.Proofs.YtmkpgddfoaglpaaGreatDoorW.PrintWords Go.Proofs.YtmkpgddfoaglpaaGreatDoorW.PrintLast Go.Proofs.YtmkpgddfoaglpaaGreatDoorW.PrintMore Go.Proofs.YtmkpgddfoaglpaaGreatDoor.Gn
attribute [local go_sem] max2_int min2_int max_two min_two max_three min_three max_four min_four World.cell?_drew World.frozen?_drew
def mEnt : Kd S44 := Kd.iso (kap (Kd.slice 151 k151) (ksl 201 k201)) (fun x : S44 => (x.f0, x.f1))
theorem mEnt_openM {w : World} {base : Nat} {ok : Nat → Prop} {x : S44} {cs : List Value} (h : mEnt.M w base ok x cs) : ∃ (v0 v1 : Value) (o0 o1 : Nat → Prop), cs = [v0, v1] ∧ (∀ k, o0 k → ok k) ∧ (∀ k, o1 k → ok k) ∧ (∀ k, o0 k → ¬ o1 k) ∧ Kd.R k151 151 w base o0 v0 x.f0 ∧ Kd.S k201 201 w base o1 v1 x.f1 := by
 obtain ⟨_, _, rfl, o0, o1, h0, h1, h2, ⟨v0, rfl, g0⟩, ⟨v1, rfl, g1⟩⟩ := h
 exact ⟨v0, v1, o0, o1, rfl, h0, h1, h2, g0, g1⟩
theorem mEnt_mkM {w : World} {base : Nat} {ok o0 o1 : Nat → Prop} {x : S44} {v0 v1 : Value} (h0 : ∀ k, o0 k → ok k) (h1 : ∀ k, o1 k → ok k) (h2 : ∀ k, o0 k → ¬ o1 k) (g0 : Kd.R k151 151 w base o0 v0 x.f0) (g1 : Kd.S k201 201 w base o1 v1 x.f1) : mEnt.M w base ok x [v0, v1] :=
 ⟨_, _, rfl, o0, o1, h0, h1, h2, ⟨v0, rfl, g0⟩, ⟨v1, rfl, g1⟩⟩
def n_Ent (e : S44) : Nat := 2 * e.f0.length + nAs e.f1
noncomputable def mk_Ent (x : Int) (e : S44) : S44 := ⟨mkL mk_Rdn 2 x e.f0.length, mkAs (x + 2 * e.f0.length) e.f1⟩
noncomputable def mkEs : Int → List S44 → List S44
 | _, [] => []
 | x, a :: r => mk_Ent x a :: mkEs (x + n_Ent a) r
def nEs : List S44 → Nat
 | [] => 0
 | a :: r => n_Ent a + nEs r
theorem nAs_len : ∀ l : List S201, l.length ≤ nAs l
 | [] => Nat.le_refl _
 | a :: r => by
   have := nAs_len r
   simp only [nAs, n_Attr, List.length_cons]
   omega
theorem mkAs_len : ∀ (l : List S201) (x : Int), (mkAs x l).length = l.length
 | [], _ => rfl
 | a :: r, x => by simp [mkAs, mkAs_len r]
theorem mkEs_len : ∀ (l : List S44) (x : Int), (mkEs x l).length = l.length
 | [], _ => rfl
 | a :: r, x => by simp [mkEs, mkEs_len r]
theorem rd_mid {α : Type} (dn : List α) (a : α) (r : List α) (z : α) : (dn ++ a :: r).getD ((dn.length : Nat) : Int).toNat z = a := by rw [Int.toNat_natCast, get_mid]
theorem held_Attrs : ∀ (rs dn : List S201) (x : Int), dn.length + rs.length ≤ 4000000000000000000 → 0 ≤ x → x + nAs rs ≤ 4000000000000000000 → Ev (fun k => laws_heldAttrS.l0 k (dn ++ mkAs x rs) x (dn.length : Int)) (x + nAs rs)
 | [], dn, x, hl, h0, hx => Ev_one fun k => by
   rw [laws_heldAttrS.l0, if_neg (by simp [mkAs])]
   simp [nAs]
 | a :: r, dn, x, hl, h0, hx => by
   have hlen := mkAs_len (a :: r) x
   have h1 : (dn.length : Int) < ((dn ++ mkAs x (a :: r)).length : Int) := by rw [List.length_append, hlen, List.length_cons]; omega
   simp only [nAs, n_Attr, List.length_cons] at hx hl ⊢
   have hrd : rd_T201 (dn ++ mkAs x (a :: r)) (dn.length : Int) = mk_Attr x a := rd_mid dn (mk_Attr x a) _ _
   have hs := held_String a.f1.length (x + 1) (by omega) (by omega) (by omega)
   have ih := held_Attrs r (dn ++ [mk_Attr x a]) (x + n_Attr a) (by simp; omega) (by omega) (by simp only [n_Attr]; omega)
   have e3 : dn ++ mkAs x (a :: r) = (dn ++ [mk_Attr x a]) ++ mkAs (x + n_Attr a) r := by rw [List.append_assoc]; rfl
   have e4 : (x + 1 + ((1 : Nat) : Int) * (a.f1.length : Int)) = x + n_Attr a := by simp only [n_Attr]; omega
   have hneg : ¬ (x + n_Attr a : Int) < 0 := by omega
   have e5 : (x + n_Attr a + nAs r : Int) = x + ((1 + a.f1.length + nAs r : Nat) : Int) := by simp only [n_Attr]; omega
   rw [e5] at ih
   refine Ev.step (fun k => by rw [laws_heldAttrS.l0, if_pos h1, if_pos (by omega), hrd]) ?_
   refine Ev_bind (markT_ev (by omega)) ?_
   refine Ev.congr (fun k => if_pos rfl) ?_
   rw [show wrap64 (x + 1) = x + 1 from w_id (by omega) (by omega), show wrap64 ((dn.length : Int) + 1) = ((dn ++ [mk_Attr x a]).length : Int) from by rw [wsucc (by omega) (by omega)]; simp]
   refine Ev_bind hs ?_
   rw [e4]
   refine Ev.congr (fun k => if_neg hneg) ?_
   rw [e3]
   exact ih
end Go.Proofs.YtmkpgddfoaglpaaGreatDoor.PG
/-
 The laws' helpers at Change: sizes, copies, equality, as plain functions. No condition but those stated.
-/
namespace Go.Proofs.YtmkpgddfoaglpaaGreatDoor.PG
open Go.RowKit Go.Proofs.YtmkpgddfoaglpaaGreatDoorW.PrintWords Go.Proofs.YtmkpgddfoaglpaaGreatDoorW.PrintLast Go.Proofs.YtmkpgddfoaglpaaGreatDoorW.PrintMore Go.Proofs.YtmkpgddfoaglpaaGreatDoor.Gn Go.Proofs.YtmkpgddfoaglpaaGreatDoor
def conv_Change (x : S233) : S145 := ⟨x.f0, x.f1, x.f2, conv_Entry x.f3⟩
def small_Change (x : S233) : Prop := True ∧ True ∧ x.f2.size ≤ 1048576 ∧ small_Entry x.f3
theorem sz_Change (x : S233) (hf : Ft.fit233 x) : ∀ acc : Int, 0 ≤ acc → acc ≤ 1048576 → ∃ r, Ev (fun k => laws_szChange.f k x.f0 x.f1 x.f2 x.f3.f0 x.f3.f1 acc) r ∧ r ≤ acc ∧ (0 ≤ r → small_Change x) := by
 intro acc a0 a1
 obtain ⟨h0, h1, h2, h3⟩ := hf
 unfold laws_szChange.f
 have h2' : x.f2.size ≤ 140737488351232 := h2
 have e2 : wrap64 (acc - (x.f2.size : Int)) = acc - (x.f2.size : Int) := w_id (by omega) (by omega)
 generalize wrap64 (acc - (x.f2.size : Int)) = b2 at e2 ⊢
 refine sz_str (b := b2) (by omega) (by omega) (fun h => by simp only [if_pos h]; exact Ev.now _) (fun p2 => ?_)
 simp only [if_neg (show ¬ b2 < 0 by omega)]
 obtain ⟨b3, hr3, hle3, hs3⟩ := sz_Entry x.f3 h3 b2 (by omega) (by omega)
 refine sz_bind (by omega) hr3 hle3 (fun h => by simp only [if_pos h]; exact Ev.now _) (fun p3 => ?_)
 simp only [if_neg (show ¬ b3 < 0 by omega)]
 exact ⟨_, Ev.now _, Int.le_refl _, fun _ => ⟨trivial, trivial, by omega, hs3 p3⟩⟩
theorem to_Change (x : S233) (hf : Ft.fit233 x) : Ev (fun k => laws_toChange.f k x.f0 x.f1 x.f2 x.f3.f0 x.f3.f1) ((conv_Change x).f0, (conv_Change x).f1, (conv_Change x).f2, (conv_Change x).f3.f0, (conv_Change x).f3.f1) := by
 obtain ⟨h0, h1, h2, h3⟩ := hf
 unfold laws_toChange.f
 refine Ev_bind (to_Entry x.f3 h3) ?_
 exact Ev.now _
def lens_Change (y : S145) : Prop := True ∧ True ∧ True ∧ lens_Entry y.f3
theorem eq_Change (y : S145) (hf : lens_Change y) : Ev (fun k => laws_eqChange.f k y.f0 y.f1 y.f2 y.f3.f0 y.f3.f1 y.f0 y.f1 y.f2 y.f3.f0 y.f3.f1) true := by
 obtain ⟨h0, h1, h2, h3⟩ := hf
 unfold laws_eqChange.f
 (try simp only [if_true, eq_self_iff_true, bne_self_eq_false, Bool.false_eq_true, if_false, reduceIte, reduceCtorEq])
 refine Ev_bind (eq_Entry y.f3 h3) ?_
 (try simp only [if_true, eq_self_iff_true, bne_self_eq_false, Bool.false_eq_true, if_false, reduceIte, reduceCtorEq])
 exact Ev.now _
theorem lens_conv_Change (x : S233) (h : small_Change x) : lens_Change (conv_Change x) := by
 obtain ⟨h0, h1, h2, h3⟩ := h
 exact ⟨trivial, trivial, trivial, lens_conv_Entry _ h3⟩
def small_ChangeS (l : List S233) : Prop := l.length ≤ 1048576 ∧ ∀ x, x ∈ l → small_Change x
theorem sz_ChangeS (l : List S233) (hf : Ft.fit61 l) : ∀ acc : Int, 0 ≤ acc → acc ≤ 1048576 → ∃ r, Ev (fun k => laws_szChangeS.f k l acc) r ∧ r ≤ acc ∧ (0 ≤ r → small_ChangeS l) := by
 have hl : l.length * 80 ≤ 140737488351232 := hf.1
 exact sz_slice (fun _ _ _ => rfl) l (by omega) (sz_loop (rdx := rd_T233) (z := z233) (fun _ _ => rfl) (e := fun k x acc => laws_szChange.f k x.f0 x.f1 x.f2 x.f3.f0 x.f3.f1 acc) (l := laws_szChangeS.l0) (small := small_Change) (fun _ _ _ _ => rfl) l (by omega) (fun x hx => sz_Change x (hf.2 x hx)))
def lens_ChangeS (l : List S145) : Prop := l.length ≤ 9223372036854775807 ∧ ∀ y, y ∈ l → lens_Change y
theorem eq_ChangeS (l : List S145) (hf : lens_ChangeS l) : Ev (fun k => laws_eqChangeS.f k l l) true := by
 unfold laws_eqChangeS.f
 simp only [if_true, eq_self_iff_true]
 exact eq_loop (rdx := rd_T145) (z := z145) (fun _ _ => rfl) (e := fun k a b => laws_eqChange.f k a.f0 a.f1 a.f2 a.f3.f0 a.f3.f1 b.f0 b.f1 b.f2 b.f3.f0 b.f3.f1) (l := laws_eqChangeS.l0) (fun _ _ _ _ => rfl) l hf.1 (fun x hx => eq_Change x (hf.2 x hx))
theorem lens_conv_ChangeS (l : List S233) (h : small_ChangeS l) : lens_ChangeS (l.map conv_Change) := by
 refine ⟨by rw [List.length_map]; have := h.1; omega, fun y hy => ?_⟩
 obtain ⟨x, hx, rfl⟩ := List.mem_map.1 hy
 exact lens_conv_Change x (h.2 x hx)
end Go.Proofs.YtmkpgddfoaglpaaGreatDoor.PG
