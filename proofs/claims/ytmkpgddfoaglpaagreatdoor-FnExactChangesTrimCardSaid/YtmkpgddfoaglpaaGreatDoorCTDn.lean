/-
 The program's isRdn and DnRight, and the reference's DnRight, come to the tests rdnB and dnB; the walk of the program's DnRight. No condition.
-/
import Derived.Test.YtmkpgddfoaglpaaGreatDoorCTP4
import Derived.Test.YtmkpgddfoaglpaaGreatDoorCTP1
import Derived.Test.YtmkpgddfoaglpaaGreatDoorCTNames
import Derived.Test.YtmkpgddfoaglpaaGreatDoorCTNorm
import Derived.Test.YtmkpgddfoaglpaaGreatDoorCTP2
import Derived.Test.YtmkpgddfoaglpaaGreatDoorCTMarkAttr
import Derived.Test.YtmkpgddfoaglpaaGreatDoorCTSq
import Derived.Test.YtmkpgddfoaglpaaGreatDoorCTGen
import Derived.Test.YtmkpgddfoaglpaaGreatDoorCTFits
import Derived.Test.YtmkpgddfoaglpaaGreatDoorCTP5
import Derived.Test.YtmkpgddfoaglpaaGreatDoorCTP3
set_option maxHeartbeats 8000000
set_option maxRecDepth 100000
set_option linter.unusedVariables false
set_option linter.unusedSimpArgs false
namespace Go.Proofs.YtmkpgddfoaglpaaGreatDoor.PG
open Go.RowKit Go.Proofs.YtmkpgddfoaglpaaGreatDoorW.PrintWords Go.Proofs.YtmkpgddfoaglpaaGreatDoorW.PrintLast Go.Proofs.YtmkpgddfoaglpaaGreatDoorW.PrintMore Go.Proofs.YtmkpgddfoaglpaaGreatDoor.Gn Go.Proofs.YtmkpgddfoaglpaaGreatDoor.Sem
attribute [local go_sem] max2_int min2_int max_two min_two max_three min_three max_four min_four
def rdnB (x : S151) : Bool := nameB x.f0 && properB x.f1
def dnB (l : List S151) : Bool := decide (l.length ≤ 6) && l.all rdnB
theorem impl_rdn (x : S151) : Ev (fun k => impl_isRdn.f k x.f0 x.f1) (rdnB x) := by
 unfold impl_isRdn.f rdnB
 rw [impl_name]
 simp only [Option.bind_some]
 cases nameB x.f0
 · exact Ev_some fun k => by simp
 · simpa using Ev_bind (impl_proper x.f1) (Ev.now _)
theorem enters_253 : ∀ args w, (callFunc 253 args).run Tryz.prog w = .ok (.enter 253 args) w := enters_of Tryz.func253 (by kernel_rfl) rfl
theorem dn_clo (x : S151) (W : World) : Calls Tryz.prog 253 #[.agg #[.string x.f0, .string x.f1]] W fun e w' => e = .returned (.bool (!rdnB x)) ∧ Below W.heap.size W w' := by
 obtain ⟨k, hk⟩ := (impl_rdn x).rounds
 have HK := Aside0.mk hk
 generalize rdnB x = b at HK
 clear hk
 go_enter Tryz.func253, Tryz.ntmps253
 go_wp2_with (go_at_call 254; refine (impl_isRdn.calls k x.f0 x.f1 b _ HK.out).mono ?_; rintro e w' ⟨rfl, hb'⟩)
 go_ret
 exact ⟨rfl, below_then ((Below.refl _ W).alloc (Nat.le_refl _) _) (by simp) hb'⟩
def impl_DnRight.f (l0 : List S151) : Option Bool := some (dnB l0)
theorem impl_DnRight.calls (A0 : Option Addr) (c0 : Nat) (l0 : List S151) (r : Bool) (w : World) (hr0 : Kd.C k151 w A0 l0.length l0) (hc0 : l0.length ≤ c0) (h : impl_DnRight.f l0 = some r) :
   Calls Tryz.prog 169 #[.slice A0 l0.length c0] w fun e w' => e = .returned (.bool r) ∧ Below w.heap.size w w' := by
 obtain rfl := Option.some.inj h
 have hcon := slices_ContainsFunc_Rdn.any_ 253 #[] (fun _ => True) (fun x => !rdnB x) (fun _ _ _ h => h) (fun W x cs _ hK => by obtain rfl := k151_open hK; exact dn_clo x W) enters_253 A0 c0 l0 w hr0 trivial
 have hall : (!(l0.any fun x => !rdnB x)) = l0.all rdnB := by
   rw [List.all_eq_not_any_not]
 unfold dnB
 rw [← hall]
 generalize (l0.any fun x => !rdnB x) = b at hcon
 clear hr0 hall h
 by_cases hl : (l0.length : Int) ≤ 6
 · rw [decide_eq_true (show l0.length ≤ 6 by omega), Bool.true_and]
   have hd : decide ((l0.length : Int) ≤ 6) = true := decide_eq_true hl
   have hd2 : decide (l0.length ≤ 6) = true := decide_eq_true (by omega)
   clear hl
   go_enter Tryz.func169, Tryz.ntmps169
   go_wp2_with (go_at_call 252; refine hcon.mono ?_; rintro e w' ⟨rfl, hb'⟩)
   go_ret
   exact ⟨by cases b <;> rfl, hb'⟩
 · rw [decide_eq_false (show ¬ l0.length ≤ 6 by omega), Bool.false_and]
   have hd : decide ((l0.length : Int) ≤ 6) = false := decide_eq_false hl
   have hd2 : decide (l0.length ≤ 6) = false := decide_eq_false (by omega)
   clear hl
   go_enter Tryz.func169, Tryz.ntmps169
   go_wp2_with (go_at_call 252; refine hcon.mono ?_; rintro e w' ⟨rfl, hb'⟩)
   go_ret
   exact ⟨rfl, Below.refl _ _⟩
end Go.Proofs.YtmkpgddfoaglpaaGreatDoor.PG
/-
 Marks of []Rdn as a contract: what laws.markRdnS writes. Conditions: the row is the call's own; the marks' numbers stay small.
-/
namespace Go.Proofs.YtmkpgddfoaglpaaGreatDoor.PG
open Go.RowKit Go.Proofs.YtmkpgddfoaglpaaGreatDoorW.PrintWords Go.Proofs.YtmkpgddfoaglpaaGreatDoorW.PrintLast Go.Proofs.YtmkpgddfoaglpaaGreatDoorW.PrintMore Go.Proofs.YtmkpgddfoaglpaaGreatDoor.Gn
theorem markRdns_c (w0 : World) (ok : Nat → Prop) (u : Value) (l : List S151) (x : Int) (w : World) (hB : Below w0.heap.size w0 w) (hR : Kd.R k151 151 w w0.heap.size ok u l) (hl : l.length ≤ 4000000000000000000) (h0 : 0 ≤ x) (hx : x + 2 * l.length ≤ 4000000000000000000) :
   Calls Tryz.prog 53 #[u, .int .i64 x] w (RetMark k151 151 w0 ok u (mkL mk_Rdn 2 x l.length) (x + 2 * l.length) w) := by
 obtain ⟨k, hk⟩ := (mark_Rdn l x hl h0 (by omega)).rounds
 refine (laws_markRdnS.calls k ok u l x _ _ w0 w hB hR hk).mono ?_
 rintro e w' ⟨rfl, hR', hb, hk'⟩
 exact ⟨rfl, Kd.R_mono (Kd.R_tight rfl hR') (fun k hk => hR.1 k hk.symm), hb, hk'⟩
end Go.Proofs.YtmkpgddfoaglpaaGreatDoor.PG
/-
 The laws' helpers at Entry: sizes, copies, equality, as plain functions. No condition but those stated.
-/
namespace Go.Proofs.YtmkpgddfoaglpaaGreatDoor.PG
open Go.RowKit Go.Proofs.YtmkpgddfoaglpaaGreatDoorW.PrintWords Go.Proofs.YtmkpgddfoaglpaaGreatDoorW.PrintLast Go.Proofs.YtmkpgddfoaglpaaGreatDoorW.PrintMore Go.Proofs.YtmkpgddfoaglpaaGreatDoor.Gn Go.Proofs.YtmkpgddfoaglpaaGreatDoor
def conv_Entry (x : S39) : S44 := ⟨x.f0.map conv_Rdn, x.f1.map conv_Attr⟩
def small_Entry (x : S39) : Prop := small_RdnS x.f0 ∧ small_AttrS x.f1
theorem sz_Entry (x : S39) (hf : Ft.fit39 x) : ∀ acc : Int, 0 ≤ acc → acc ≤ 1048576 → ∃ r, Ev (fun k => laws_szEntry.f k x.f0 x.f1 acc) r ∧ r ≤ acc ∧ (0 ≤ r → small_Entry x) := by
 intro acc a0 a1
 obtain ⟨h0, h1⟩ := hf
 unfold laws_szEntry.f
 obtain ⟨b0, hr0, hle0, hs0⟩ := sz_RdnS x.f0 h0 acc (by omega) (by omega)
 refine sz_bind (by omega) hr0 hle0 (fun h => by simp only [if_pos h]; exact Ev.now _) (fun p0 => ?_)
 simp only [if_neg (show ¬ b0 < 0 by omega)]
 obtain ⟨b1, hr1, hle1, hs1⟩ := sz_AttrS x.f1 h1 b0 (by omega) (by omega)
 refine sz_bind (by omega) hr1 hle1 (fun h => by simp only [if_pos h]; exact Ev.now _) (fun p1 => ?_)
 simp only [if_neg (show ¬ b1 < 0 by omega)]
 exact ⟨_, Ev.now _, Int.le_refl _, fun _ => ⟨hs0 p0, hs1 p1⟩⟩
theorem to_Entry (x : S39) (hf : Ft.fit39 x) : Ev (fun k => laws_toEntry.f k x.f0 x.f1) ((conv_Entry x).f0, (conv_Entry x).f1) := by
 obtain ⟨h0, h1⟩ := hf
 unfold laws_toEntry.f
 refine Ev_bind (to_RdnS x.f0 h0) ?_
 refine Ev_bind (to_AttrS x.f1 h1) ?_
 exact Ev.now _
def lens_Entry (y : S44) : Prop := lens_RdnS y.f0 ∧ lens_AttrS y.f1
theorem eq_Entry (y : S44) (hf : lens_Entry y) : Ev (fun k => laws_eqEntry.f k y.f0 y.f1 y.f0 y.f1) true := by
 obtain ⟨h0, h1⟩ := hf
 unfold laws_eqEntry.f
 (try simp only [if_true, eq_self_iff_true, bne_self_eq_false, Bool.false_eq_true, if_false, reduceIte, reduceCtorEq])
 refine Ev_bind (eq_RdnS y.f0 h0) ?_
 (try simp only [if_true, eq_self_iff_true, bne_self_eq_false, Bool.false_eq_true, if_false, reduceIte, reduceCtorEq])
 refine Ev_bind (eq_AttrS y.f1 h1) ?_
 (try simp only [if_true, eq_self_iff_true, bne_self_eq_false, Bool.false_eq_true, if_false, reduceIte, reduceCtorEq])
 exact Ev.now _
theorem lens_conv_Entry (x : S39) (h : small_Entry x) : lens_Entry (conv_Entry x) := by
 obtain ⟨h0, h1⟩ := h
 exact ⟨lens_conv_RdnS _ h0, lens_conv_AttrS _ h1⟩
end Go.Proofs.YtmkpgddfoaglpaaGreatDoor.PG
/-
 Copies of an Entry, said plainly: the program's and the reference's are the entry itself. Conditions: the lengths' bounds.
-/
namespace Go.Proofs.YtmkpgddfoaglpaaGreatDoor.PG
open Go.RowKit Go.Proofs.YtmkpgddfoaglpaaGreatDoorW.PrintWords Go.Proofs.YtmkpgddfoaglpaaGreatDoorW.PrintLast Go.Proofs.YtmkpgddfoaglpaaGreatDoorW.PrintMore Go.Proofs.YtmkpgddfoaglpaaGreatDoor.Gn
def okEnt (d : List S151) (l : List S201) : Prop := d.length ≤ 100000000 ∧ l.length ≤ 100000000 ∧ ∀ a, a ∈ l → a.f1.length ≤ 100000000
theorem rd_midA (dn : List S201) (a : S201) (r : List S201) : rd_T201 (dn ++ a :: r) (dn.length : Int) = a := by
 unfold rd_T201
 rw [Int.toNat_natCast]
 simp
theorem copied_l (d : List S151) : ∀ (rs dn : List S201), dn.length + rs.length ≤ 100000000 → (∀ a, a ∈ rs → a.f1.length ≤ 100000000) → Ev (fun k => impl_Entry_copied.l0 k (dn ++ rs) ((dn ++ rs).length : Int) (dn.length : Int) d dn) (d, dn ++ rs)
 | [], dn, hl, hv => Ev_one fun k => by
   rw [impl_Entry_copied.l0, if_neg (by simp), List.append_nil]
 | a :: r, dn, hl, hv => by
   have h1 : (dn.length : Int) < ((dn ++ a :: r).length : Int) := by simp; omega
   have ih := copied_l d r (dn ++ [a]) (by simp at hl ⊢; omega) (fun x hx => hv x (List.mem_cons_of_mem _ hx))
   have e1 : (dn ++ [a]) ++ r = dn ++ a :: r := by simp
   rw [e1] at ih
   have ha := hv a List.mem_cons_self
   simp only [List.length_cons] at hl
   refine Ev.step (fun k => by rw [impl_Entry_copied.l0, if_pos h1, if_pos (by omega), if_pos h1, rd_midA]) ?_
   refine Ev_bind (Ev_some fun k => (if_pos (show a.f1.length ≤ 1000000000 by omega))) ?_
   refine Ev.congr (fun k => if_pos (show dn.length < 3518437208883 by omega)) ?_
   rw [show wrap64 ((dn.length : Int) + 1) = ((dn ++ [a]).length : Int) from by rw [wsucc (by omega) (by omega)]; simp]
   exact ih
theorem copied_ev (d : List S151) (l : List S201) (h : okEnt d l) : Ev (fun k => impl_Entry_copied.f k d l) (d, l) := by
 have h1 := h.1
 unfold impl_Entry_copied.f
 refine Ev_bind (Ev_some fun k => if_pos (show d.length ≤ 1000000000 by omega)) ?_
 exact copied_l d l [] (by have := h.2.1; simpa using this) h.2.2
theorem scopy_l (d d' : List S151) : ∀ (rs dn : List S201), dn.length + rs.length ≤ 100000000 → (∀ a, a ∈ rs → a.f1.length ≤ 100000000) → Ev (fun k => spec_l03Copy.l0 k (dn.length : Int) d (dn ++ rs) d' dn) (d', dn ++ rs)
 | [], dn, hl, hv => Ev_one fun k => by
   rw [spec_l03Copy.l0, if_neg (by simp), List.append_nil]
 | a :: r, dn, hl, hv => by
   have h1 : (dn.length : Int) < ((dn ++ a :: r).length : Int) := by simp; omega
   have ih := scopy_l d d' r (dn ++ [a]) (by simp at hl ⊢; omega) (fun x hx => hv x (List.mem_cons_of_mem _ hx))
   have e1 : (dn ++ [a]) ++ r = dn ++ a :: r := by simp
   rw [e1] at ih
   have ha := hv a List.mem_cons_self
   simp only [List.length_cons] at hl
   refine Ev.step (fun k => by rw [spec_l03Copy.l0, if_pos h1, if_pos (by omega), rd_midA]) ?_
   refine Ev_bind (Ev.now _) ?_
   refine Ev.congr (fun k => by rw [if_pos (show ([] : List ByteArray).length + a.f1.length < 8796093022208 by simp; omega), if_pos (show dn.length < 3518437208883 by omega), List.nil_append]) ?_
   rw [show wrap64 ((dn.length : Int) + 1) = ((dn ++ [a]).length : Int) from by rw [wsucc (by omega) (by omega)]; simp]
   exact ih
theorem scopy_ev (d : List S151) (l : List S201) (h : okEnt d l) : Ev (fun k => spec_l03Copy.f k d l) (d, l) := by
 have h1 := h.1
 unfold spec_l03Copy.f
 refine Ev_bind (Ev.now _) ?_
 refine Ev.congr (fun k => by rw [if_pos (show ([] : List S151).length + d.length < 4398046511104 by simp; omega), List.nil_append]) ?_
 exact scopy_l d d l [] (by have := h.2.1; simpa using this) h.2.2
end Go.Proofs.YtmkpgddfoaglpaaGreatDoor.PG
