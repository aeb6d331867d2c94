/-
 Marks of []Rdn as a contract: what laws.markRdnS writes. Conditions: the row is the call's own; the marks' numbers stay small.
-/
import Derived.RangeFuncNested
import Derived.RangeFuncBound
import Derived.RangeFuncBox
import Derived.RangeFuncCalls
import Derived.RangeFuncLeaves
import Derived.Shelf.Abstract
import Derived.Shelf.RegionOpen
import Derived.WalkKit
import Derived.OwnWalkIn
import Derived.TacticsInMore
import Derived.LoopNIn
import Derived.LoopIn
import Derived.Test.YtmkpgddfoaglpaaGreatDoorVIP1
import Derived.Test.YtmkpgddfoaglpaaGreatDoorVIMarkAttr
import Derived.Test.YtmkpgddfoaglpaaGreatDoorVIMarkString
import Derived.Test.YtmkpgddfoaglpaaGreatDoorVISq
import Derived.Test.YtmkpgddfoaglpaaGreatDoorVIGen
import Derived.Test.YtmkpgddfoaglpaaGreatDoorVIFits
import Derived.Test.YtmkpgddfoaglpaaGreatDoorVIP5
import Derived.Test.YtmkpgddfoaglpaaGreatDoorVIP4
import Derived.Test.YtmkpgddfoaglpaaGreatDoorVIP2
import Derived.Test.YtmkpgddfoaglpaaGreatDoorVINorm
namespace Go.Proofs.YtmkpgddfoaglpaaGreatDoor.PG
set_option linter.unusedVariables false
set_option linter.unusedSimpArgs false
open Go.RowKit Go.Proofs.YtmkpgddfoaglpaaGreatDoorW.PrintWords Go.Proofs.YtmkpgddfoaglpaaGreatDoorW.PrintLast Go.Proofs.YtmkpgddfoaglpaaGreatDoorW.PrintMore Go.Proofs.YtmkpgddfoaglpaaGreatDoor.Gn
theorem markRdns_c (w0 : World) (ok : Nat → Prop) (u : Value) (l : List S151) (x : Int) (w : World) (hB : Below w0.heap.size w0 w) (hR : Kd.R k151 151 w w0.heap.size ok u l) (hl : l.length ≤ 4000000000000000000) (h0 : 0 ≤ x) (hx : x + 2 * l.length ≤ 4000000000000000000) :
   Calls Tryz.prog 53 #[u, .int .i64 x] w (RetMark k151 151 w0 ok u (mkL mk_Rdn 2 x l.length) (x + 2 * l.length) w) := by
 obtain ⟨k, hk⟩ := (mark_Rdn l x hl h0 (by omega)).rounds
 refine (laws_markRdnS.calls k ok u l x _ _ w0 w hB hR hk).mono ?_
 rintro e w' ⟨rfl, hR', hb, hk'⟩
 exact ⟨rfl, Kd.R_mono (Kd.R_tight rfl hR') (fun k hk => hR.1 k hk.symm), hb, hk'⟩
def nEnt (d : List S151) (l : List S201) : Nat := 2 * d.length + nAs l
end Go.Proofs.YtmkpgddfoaglpaaGreatDoor.PG
/-
 The laws' helpers at Entry: sizes, copies, equality, as plain functions. No condition but those stated.
-/
namespace Go.Proofs.YtmkpgddfoaglpaaGreatDoor.PG
set_option linter.unusedSimpArgs false
set_option linter.unusedVariables false
open Go.RowKit Go.Proofs.YtmkpgddfoaglpaaGreatDoorW.PrintWords Go.Proofs.YtmkpgddfoaglpaaGreatDoorW.PrintLast Go.Proofs.YtmkpgddfoaglpaaGreatDoorW.PrintMore Go.Proofs.YtmkpgddfoaglpaaGreatDoor.Gn Go.Proofs.YtmkpgddfoaglpaaGreatDoor
def conv_Entry (x : S39) : S44 := ⟨x.f0.map conv_Rdn, x.f1.map conv_Attr⟩
def small_Entry (x : S39) : Prop := small_RdnS x.f0 ∧ small_AttrS x.f1
theorem sz_Entry (x : S39) (hf : Ft.fit39 x) : ∀ acc : Int, 0 ≤ acc → acc ≤ 1048576 → ∃ r, Ev (fun k => laws_szEntry.f k x.f0 x.f1 acc) r ∧ r ≤ acc ∧ (0 ≤ r → small_Entry x) := by
 intro acc a0 a1
 obtain ⟨h0, h1⟩ := hf
 unfold laws_szEntry.f
 obtain ⟨b0, hr0, hle0, hs0⟩ := sz_RdnS x.f0 h0 acc (by omega) (by omega)
 refine sz_bind (by omega) hr0 hle0 (fun h => by simp only [if_pos h]; exact Ev.now _) (fun p0 => ?_)
 simp only [if_neg (show ¬ b0 < 0 by omega)]
 obtain ⟨b1, hr1, hle1, hs1⟩ := sz_AttrS x.f1 h1 b0 (by omega) (by omega)
 refine sz_bind (by omega) hr1 hle1 (fun h => by simp only [if_pos h]; exact Ev.now _) (fun p1 => ?_)
 simp only [if_neg (show ¬ b1 < 0 by omega)]
 exact ⟨_, Ev.now _, Int.le_refl _, fun _ => ⟨hs0 p0, hs1 p1⟩⟩
theorem to_Entry (x : S39) (hf : Ft.fit39 x) : Ev (fun k => laws_toEntry.f k x.f0 x.f1) ((conv_Entry x).f0, (conv_Entry x).f1) := by
 obtain ⟨h0, h1⟩ := hf
 unfold laws_toEntry.f
 refine Ev_bind (to_RdnS x.f0 h0) ?_
 refine Ev_bind (to_AttrS x.f1 h1) ?_
 exact Ev.now _
def lens_Entry (y : S44) : Prop := lens_RdnS y.f0 ∧ lens_AttrS y.f1
theorem eq_Entry (y : S44) (hf : lens_Entry y) : Ev (fun k => laws_eqEntry.f k y.f0 y.f1 y.f0 y.f1) true := by
 obtain ⟨h0, h1⟩ := hf
 unfold laws_eqEntry.f
 (try simp only [if_true, eq_self_iff_true, bne_self_eq_false, Bool.false_eq_true, if_false, reduceIte, reduceCtorEq])
 refine Ev_bind (eq_RdnS y.f0 h0) ?_
 (try simp only [if_true, eq_self_iff_true, bne_self_eq_false, Bool.false_eq_true, if_false, reduceIte, reduceCtorEq])
 refine Ev_bind (eq_AttrS y.f1 h1) ?_
 (try simp only [if_true, eq_self_iff_true, bne_self_eq_false, Bool.false_eq_true, if_false, reduceIte, reduceCtorEq])
 exact Ev.now _
theorem lens_conv_Entry (x : S39) (h : small_Entry x) : lens_Entry (conv_Entry x) := by
 obtain ⟨h0, h1⟩ := h
 exact ⟨lens_conv_RdnS _ h0, lens_conv_AttrS _ h1⟩
def small_EntryS (l : List S39) : Prop := l.length ≤ 1048576 ∧ ∀ x, x ∈ l → small_Entry x
theorem sz_EntryS (l : List S39) (hf : Ft.fit23 l) : ∀ acc : Int, 0 ≤ acc → acc ≤ 1048576 → ∃ r, Ev (fun k => laws_szEntryS.f k l acc) r ∧ r ≤ acc ∧ (0 ≤ r → small_EntryS l) := by
 have hl : l.length * 48 ≤ 140737488351232 := hf.1
 exact sz_slice (fun _ _ _ => rfl) l (by omega) (sz_loop (rdx := rd_T39) (z := z39) (fun _ _ => rfl) (e := fun k x acc => laws_szEntry.f k x.f0 x.f1 acc) (l := laws_szEntryS.l0) (small := small_Entry) (fun _ _ _ _ => rfl) l (by omega) (fun x hx => sz_Entry x (hf.2 x hx)))
def lens_EntryS (l : List S44) : Prop := l.length ≤ 9223372036854775807 ∧ ∀ y, y ∈ l → lens_Entry y
theorem eq_EntryS (l : List S44) (hf : lens_EntryS l) : Ev (fun k => laws_eqEntryS.f k l l) true := by
 unfold laws_eqEntryS.f
 simp only [if_true, eq_self_iff_true]
 exact eq_loop (rdx := rd_T44) (z := z44) (fun _ _ => rfl) (e := fun k a b => laws_eqEntry.f k a.f0 a.f1 b.f0 b.f1) (l := laws_eqEntryS.l0) (fun _ _ _ _ => rfl) l hf.1 (fun x hx => eq_Entry x (hf.2 x hx))
theorem lens_conv_EntryS (l : List S39) (h : small_EntryS l) : lens_EntryS (l.map conv_Entry) := by
 refine ⟨by rw [List.length_map]; have := h.1; omega, fun y hy => ?_⟩
 obtain ⟨x, hx, rfl⟩ := List.mem_map.1 hy
 exact lens_conv_Entry x (h.2 x hx)
end Go.Proofs.YtmkpgddfoaglpaaGreatDoor.PG
/-
 Copies of an Entry, said plainly: the program's and the reference's are the entry itself. Conditions: the lengths' bounds.
-/
namespace Go.Proofs.YtmkpgddfoaglpaaGreatDoor.PG
set_option linter.unusedVariables false
set_option linter.unusedSimpArgs false
open Go.RowKit Go.Proofs.YtmkpgddfoaglpaaGreatDoorW.PrintWords Go.Proofs.YtmkpgddfoaglpaaGreatDoorW.PrintLast Go.Proofs.YtmkpgddfoaglpaaGreatDoorW.PrintMore Go.Proofs.YtmkpgddfoaglpaaGreatDoor.Gn
def okEnt (d : List S151) (l : List S201) : Prop := d.length ≤ 100000000 ∧ l.length ≤ 100000000 ∧ ∀ a, a ∈ l → a.f1.length ≤ 100000000
theorem rd_midA (dn : List S201) (a : S201) (r : List S201) : rd_T201 (dn ++ a :: r) (dn.length : Int) = a := by
 unfold rd_T201
 rw [Int.toNat_natCast]
 simp
theorem copied_l (d : List S151) : ∀ (rs dn : List S201), dn.length + rs.length ≤ 100000000 → (∀ a, a ∈ rs → a.f1.length ≤ 100000000) → Ev (fun k => impl_Entry_copied.l0 k (dn ++ rs) ((dn ++ rs).length : Int) (dn.length : Int) d dn) (d, dn ++ rs)
 | [], dn, hl, hv => Ev_one fun k => by
   rw [impl_Entry_copied.l0, if_neg (by simp), List.append_nil]
 | a :: r, dn, hl, hv => by
   have h1 : (dn.length : Int) < ((dn ++ a :: r).length : Int) := by simp; omega
   have ih := copied_l d r (dn ++ [a]) (by simp at hl ⊢; omega) (fun x hx => hv x (List.mem_cons_of_mem _ hx))
   have e1 : (dn ++ [a]) ++ r = dn ++ a :: r := by simp
   rw [e1] at ih
   have ha := hv a List.mem_cons_self
   simp only [List.length_cons] at hl
   refine Ev.step (fun k => by rw [impl_Entry_copied.l0, if_pos h1, if_pos (by omega), if_pos h1, rd_midA]) ?_
   refine Ev_bind (Ev_some fun k => (if_pos (show a.f1.length ≤ 1000000000 by omega))) ?_
   refine Ev.congr (fun k => if_pos (show dn.length < 3518437208883 by omega)) ?_
   rw [show wrap64 ((dn.length : Int) + 1) = ((dn ++ [a]).length : Int) from by rw [wsucc (by omega) (by omega)]; simp]
   exact ih
theorem copied_ev (d : List S151) (l : List S201) (h : okEnt d l) : Ev (fun k => impl_Entry_copied.f k d l) (d, l) := by
 have h1 := h.1
 unfold impl_Entry_copied.f
 refine Ev_bind (Ev_some fun k => if_pos (show d.length ≤ 1000000000 by omega)) ?_
 exact copied_l d l [] (by have := h.2.1; simpa using this) h.2.2
end Go.Proofs.YtmkpgddfoaglpaaGreatDoor.PG
/-
 The program's isRdn and DnRight, and the reference's DnRight, come to the tests rdnB and dnB; the walk of the program's DnRight. No condition.
-/
namespace Go.Proofs.YtmkpgddfoaglpaaGreatDoor.PG
open Go.RowKit Go.Proofs.YtmkpgddfoaglpaaGreatDoorW.PrintWords Go.Proofs.YtmkpgddfoaglpaaGreatDoorW.PrintLast Go.Proofs.YtmkpgddfoaglpaaGreatDoorW.PrintMore Go.Proofs.YtmkpgddfoaglpaaGreatDoor.Gn Go.Proofs.YtmkpgddfoaglpaaGreatDoor.Sem
attribute [local go_sem] max2_int min2_int max_two min_two max_three min_three max_four min_four
set_option linter.unusedVariables false
set_option linter.unusedSimpArgs false
def rdnB (x : S151) : Bool := nameB x.f0 && properB x.f1
def dnB (l : List S151) : Bool := decide (l.length ≤ 6) && l.all rdnB
theorem impl_rdn (x : S151) : Ev (fun k => impl_isRdn.f k x.f0 x.f1) (rdnB x) := by
 unfold impl_isRdn.f rdnB
 rw [impl_name]
 simp only [Option.bind_some]
 cases nameB x.f0
 · exact Ev_some fun k => by simp
 · simpa using Ev_bind (impl_proper x.f1) (Ev.now _)
theorem enters_253 : ∀ args w, (callFunc 253 args).run Tryz.prog w = .ok (.enter 253 args) w := enters_of Tryz.func253 (by kernel_rfl) rfl
set_option maxHeartbeats 1000000 in
theorem dn_clo (x : S151) (W : World) : Calls Tryz.prog 253 #[.agg #[.string x.f0, .string x.f1]] W fun e w' => e = .returned (.bool (!rdnB x)) ∧ Below W.heap.size W w' := by
 obtain ⟨k, hk⟩ := (impl_rdn x).rounds
 have HK := Aside0.mk hk
 generalize rdnB x = b at HK
 clear hk
 go_enter Tryz.func253, Tryz.ntmps253
 go_wp2_with (go_at_call 254; refine (impl_isRdn.calls k x.f0 x.f1 b _ HK.out).mono ?_; rintro e w' ⟨rfl, hb'⟩)
 go_ret
 exact ⟨rfl, below_then ((Below.refl _ W).alloc (Nat.le_refl _) _) (by simp) hb'⟩
def impl_DnRight.f (l0 : List S151) : Option Bool := some (dnB l0)
set_option maxHeartbeats 1000000 in
theorem impl_DnRight.calls (A0 : Option Addr) (c0 : Nat) (l0 : List S151) (r : Bool) (w : World) (hr0 : Kd.C k151 w A0 l0.length l0) (hc0 : l0.length ≤ c0) (h : impl_DnRight.f l0 = some r) :
   Calls Tryz.prog 169 #[.slice A0 l0.length c0] w fun e w' => e = .returned (.bool r) ∧ Below w.heap.size w w' := by
 obtain rfl := Option.some.inj h
 have hcon := slices_ContainsFunc_Rdn.any_ 253 #[] (fun _ => True) (fun x => !rdnB x) (fun _ _ _ h => h) (fun W x cs _ hK => by obtain rfl := k151_open hK; exact dn_clo x W) enters_253 A0 c0 l0 w hr0 trivial
 have hall : (!(l0.any fun x => !rdnB x)) = l0.all rdnB := by
   rw [List.all_eq_not_any_not]
 unfold dnB
 rw [← hall]
 generalize (l0.any fun x => !rdnB x) = b at hcon
 clear hr0 hall h
 by_cases hl : (l0.length : Int) ≤ 6
 · rw [decide_eq_true (show l0.length ≤ 6 by omega), Bool.true_and]
   have hd : decide ((l0.length : Int) ≤ 6) = true := decide_eq_true hl
   have hd2 : decide (l0.length ≤ 6) = true := decide_eq_true (by omega)
   clear hl
   go_enter Tryz.func169, Tryz.ntmps169
   go_wp2_with (go_at_call 252; refine hcon.mono ?_; rintro e w' ⟨rfl, hb'⟩)
   go_ret
   exact ⟨by cases b <;> rfl, hb'⟩
 · rw [decide_eq_false (show ¬ l0.length ≤ 6 by omega), Bool.false_and]
   have hd : decide ((l0.length : Int) ≤ 6) = false := decide_eq_false hl
   have hd2 : decide (l0.length ≤ 6) = false := decide_eq_false (by omega)
   clear hl
   go_enter Tryz.func169, Tryz.ntmps169
   go_wp2_with (go_at_call 252; refine hcon.mono ?_; rintro e w' ⟨rfl, hb'⟩)
   go_ret
   exact ⟨rfl, Below.refl _ _⟩
end Go.Proofs.YtmkpgddfoaglpaaGreatDoor.PG
/-
 slices.Backward over a row of Rdns: what the iterator does with a loop's body. Conditions: the row lies in the world where Backward is called.
-/
namespace Go.Proofs.YtmkpgddfoaglpaaGreatDoor.PG
open Go.RowKit Go.Shelf Go.Proofs.YtmkpgddfoaglpaaGreatDoorW.PrintWords Go.Proofs.YtmkpgddfoaglpaaGreatDoorW.PrintLast Go.Proofs.YtmkpgddfoaglpaaGreatDoorW.PrintMore Go.Proofs.YtmkpgddfoaglpaaGreatDoor.Gn Go.Proofs.YtmkpgddfoaglpaaGreatDoor.Sem
attribute [local go_sem] Oper.semAt_some
set_option linter.unusedVariables false
set_option linter.unusedSimpArgs false
def upto {α : Type} (f : Nat → α) (k : Nat) : List α := (List.range k).map f
theorem upto_succ {α : Type} (f : Nat → α) (k : Nat) : upto f (k + 1) = upto f k ++ [f k] := by simp [upto, List.range_succ]
theorem upto_length {α : Type} (f : Nat → α) (k : Nat) : (upto f k).length = k := by simp [upto]
def okR (x : S151) : Prop := x.f0.size ≤ 1000 ∧ (normB x.f1).size ≤ 1000
abbrev RdnB := { x : S151 // okR x }
def backAt (rs : List RdnB) (z : RdnB) (j : Nat) : Nat × RdnB := (rs.length - 1 - j, rs.getD (rs.length - 1 - j) z)
def backEnc (x : Nat × RdnB) : Array Value := #[.int .i64 (x.1 : Int), .agg #[.string x.2.1.f0, .string x.2.1.f1]]
theorem getD_val (rs : List RdnB) (z : RdnB) (j : Nat) (h : j < rs.length) : (rs.map Subtype.val).getD j z151 = (rs.getD j z).1 := by
 rw [getD_at (by rw [List.length_map]; exact h), getD_at h, List.getElem_map]
def BackK (n₀ Bs : Nat) (W W' : World) : Prop := Below n₀ W W' ∧ ∀ t v, Boxed W Bs t v → Boxed W' Bs t v
theorem BackK.t {n₀ Bs : Nat} {A B C : World} (h : BackK n₀ Bs A B) (k : BackK n₀ Bs B C) : BackK n₀ Bs A C := ⟨h.1.trans k.1, fun t v x => k.2 t v (h.2 t v x)⟩
theorem BackK.b {n₀ Bs : Nat} {w : World} (hn : n₀ ≤ w.heap.size) (W : World) (l : Nat) (o o' : Obj) (hl : w.heap.size ≤ l) (h : W.heap[l]? = some o) (hc : o.isCells = false) (hw : o.isWalk = false) : BackK n₀ Bs W (W.putObj l o') :=
 ⟨belowK_b hn W l o o' hl h hc hw, fun t v x => x.kept (grownBy_putObj' W l o') (fun e => by cases e; rw [show W.heap[Bs]? = _ from x] at h; cases h; cases hc)⟩
set_option maxRecDepth 100000 in
set_option maxHeartbeats 4000000 in
theorem back1_in (F : Fence) (n : Nat) (hF : F.fn 345) (hro : F.round = none) (hn : 1 ≤ n) (l Bs t : Nat) (A : Option Addr) (c : Nat) (rs : List RdnB) (zr : RdnB) (w0 : World) (hr : Kd.C k151 w0 A rs.length (rs.map Subtype.val)) (J Jx : List (Nat × RdnB) → World → Prop)
   (hY : ∀ pre x W, J pre W → pre.length < rs.length → YieldAt F (n - 1) Tryz.prog l (backEnc x) W fun e W' =>
     (e = .returned (.bool true) ∧ J (pre ++ [x]) W' ∧ BackK w0.heap.size Bs W W') ∨ (e = .returned (.bool false) ∧ Jx (pre ++ [x]) W'))
   (W : World) (hW : Below w0.heap.size w0 W) (hBs : Boxed W Bs t (.slice A rs.length c)) (h0 : J [] W) :
   CallsIn F n Tryz.prog 345 #[.func (.yield l) #[] #[], .pointer (some ⟨Bs, 0, none⟩)] W fun e W' => (∃ v, e = .returned v) ∧
     ((∃ ys, ys = upto (backAt rs zr) rs.length ∧ J ys W') ∨ (∃ pre, (∃ k, k ≤ rs.length ∧ pre = upto (backAt rs zr) k) ∧ Jx pre W')) := by
 have hmx := Kd.C_max hr
 refine callsIn_of_wp Tryz.func345 rfl hF ?_ hro
 simp only [Tryz.ntmps345, List.size_toArray, List.length_cons, List.length_nil, Nat.reduceAdd, Nat.reduceSub, Array.replicate_succ, Array.replicate_zero, List.push_toArray, List.append_toArray, List.nil_append, List.cons_append]
 have hcell := hBs.cell
 have hw1 : wrap64 ((rs.length : Int) - 1) = (rs.length : Int) - 1 := w_id (by omega) (by omega)
 gi_wp2
 gi_loopw [3] (fun i wr => ∃ k : Nat, k ≤ rs.length ∧ i = .int .i64 ((rs.length : Int) - 1 - k) ∧ J (upto (backAt rs zr) k) wr ∧ Below w0.heap.size w0 wr ∧ Boxed wr Bs t (.slice A rs.length c))
   (fun i _ => (intOf i + 1).toNat)
 case atStart => exact ⟨0, Nat.zero_le _, by simp [hw1], h0, hW, hBs⟩
 case round =>
   obtain ⟨k, hk, rfl, hJs, hnx, hbx⟩ := hrel
   have hcell := hbx.cell
   by_cases hlt : k < rs.length
   · obtain ⟨ad, cs, hA, hcl, hK, hcc⟩ := Kd.C_get (Kd.C_below hr hnx) z151 ((rs.length : Int) - 1 - k) (by omega) (by omega)
     rw [show ((rs.length : Int) - 1 - k).toNat = rs.length - 1 - k from by omega] at hK hcc
     rw [getD_val rs zr _ (by omega)] at hK
     obtain ⟨⟨x, px⟩, hx⟩ : ∃ x, rs.getD (rs.length - 1 - k) zr = x := ⟨_, rfl⟩
     rw [hx] at hK
     obtain rfl := k151_open hK
     subst hA
     have e0 : ((rs.length : Int) - 1 - k).toNat = rs.length - 1 - k := by omega
     have f0 : wr.cell? (ad.add ((rs.length - 1 - k) * 2)) = some (.string x.f0) := hcc 0 _ rfl
     have f1 : wr.cell? ⟨(ad.add ((rs.length - 1 - k) * 2)).block, (ad.add ((rs.length - 1 - k) * 2)).off + 1, none⟩ = some (.string x.f1) := by rw [← add_field _ _ 1 (by omega)]; exact hcc 1 _ rfl
     obtain ⟨fn, tmps, assign, body, hy, hR⟩ := hY _ (backAt rs zr k) wr hJs (by rw [upto_length]; exact hlt)
     have hz : ((rs.length - 1 - k : Nat) : Int) = (rs.length : Int) - 1 - k := by omega
     unfold backAt backEnc at hy
     simp only [hx, hz] at hy
     have d0 : decide (0 ≤ (rs.length : Int) - 1 - k) = true := decide_eq_true (by omega)
     have g0 : 0 ≤ (rs.length : Int) - 1 - k := by omega
     have g1 : (rs.length : Int) - 1 - k < rs.length := by omega
     clear hcc hcl hK
     gi_wp2
     refine hR.mono ?_
     rintro e W3 (⟨rfl, hJ3, hk3⟩ | ⟨rfl, hJx3⟩)
     · have hw2 : wrap64 ((rs.length : Int) - 1 - k - 1) = (rs.length : Int) - 1 - k - 1 := w_id (by omega) (by omega)
       gi_wp2
       go_roundw
       case rel => exact ⟨k + 1, by omega, by congr 1; omega, by rw [upto_succ]; exact hJ3, hnx.trans hk3.1, hk3.2 _ _ hbx⟩
       case measure => simp only [intOf]; omega
     · gi_wp2
       refine bodyPost_ret (results_none rfl _ _ _) rfl ?_
       exact ⟨⟨_, rfl⟩, .inr ⟨_, ⟨k + 1, by omega, (upto_succ _ _).symm⟩, hJx3⟩⟩
   · obtain rfl : k = rs.length := by omega
     have d0 : decide (0 ≤ (rs.length : Int) - 1 - (rs.length : Int)) = false := decide_eq_false (by omega)
     gi_wp2
     go_end0
     exact ⟨⟨_, rfl⟩, .inl ⟨_, rfl, hJs⟩⟩
set_option maxHeartbeats 1000000 in
theorem back_in (F : Fence) (n : Nat) (hF : F.fn 332) (hro : F.round = none) (a : Option Addr) (len cap : Nat) (w : World) :
   CallsIn F n Tryz.prog 332 #[.slice a len cap] w fun e w' => e = .returned (.func (.func 345) #[] #[.pointer (some ⟨w.heap.size, 0, none⟩)]) ∧ w' = w.alloc (.cells #[.slice a len cap] 41) := by
 refine callsIn_of_wp Tryz.func332 rfl hF ?_ hro
 simp only [Tryz.ntmps332, List.size_toArray, List.length_cons, List.length_nil, Nat.reduceAdd, Nat.reduceSub, Array.replicate_succ, Array.replicate_zero, List.push_toArray, List.append_toArray, List.nil_append, List.cons_append]
 gi_wp2
 go_ret
 exact ⟨rfl, rfl⟩
theorem back_stops (F : Fence) (n : Nat) (hF : F.fn 345) (hro : F.round = none) (hn : 1 ≤ n) (Bs : Nat) (A : Option Addr) (c : Nat) (rs : List RdnB) (zr : RdnB) (w0 : World) (hr : Kd.C k151 w0 A rs.length (rs.map Subtype.val)) (w : World) (hB : Below w0.heap.size w0 w) (hBs : Boxed w Bs 41 (.slice A rs.length c)) :
   SeqStopsK F n Tryz.prog 345 #[.pointer (some ⟨Bs, 0, none⟩)] backEnc (BackK w0.heap.size Bs) (fun ys => ys = upto (backAt rs zr) rs.length)
     (fun pre => ∃ k, k ≤ rs.length ∧ pre = upto (backAt rs zr) k) rs.length w := fun l J Jx W hW _ _ hY h0 =>
 back1_in F n hF hro hn l Bs 41 A c rs zr w0 hr J Jx hY W (hB.trans (hW.mono hB.size)) ((hW.block Bs hBs.lt).trans hBs) h0
end Go.Proofs.YtmkpgddfoaglpaaGreatDoor.PG
