/-
 Rows of entries, as the laws use them: sizes, comparison, marks found again, as contracts without rounds. Conditions: what the arguments fit.
-/
import Derived.Test.YtmkpgddfoaglpaaGreatDoorVILawSt
import Derived.Test.YtmkpgddfoaglpaaGreatDoorVIP1
import Derived.Test.YtmkpgddfoaglpaaGreatDoorVIMarkRdnC
import Derived.Test.YtmkpgddfoaglpaaGreatDoorVIEntC
import Derived.Test.YtmkpgddfoaglpaaGreatDoorVIRuleM
import Derived.Test.YtmkpgddfoaglpaaGreatDoorVIMarkAttr
import Derived.Test.YtmkpgddfoaglpaaGreatDoorVIP2
namespace Go.Proofs.YtmkpgddfoaglpaaGreatDoor.PG
open Go.RowKit Go.Proofs.YtmkpgddfoaglpaaGreatDoorW.PrintWords Go.Proofs.YtmkpgddfoaglpaaGreatDoorW.PrintLast Go.Proofs.YtmkpgddfoaglpaaGreatDoorW.PrintMore Go.Proofs.YtmkpgddfoaglpaaGreatDoor.Gn Go.Proofs.YtmkpgddfoaglpaaGreatDoor
set_option linter.unusedVariables false
set_option linter.unusedSimpArgs false
def RetRd {α : Type} (d : Kd α) (l : List α) (W : World) (e : Ending) (w' : World) : Prop := ∃ A c, e = .returned (.slice A l.length c) ∧ l.length ≤ c ∧ d.C w' A l.length l ∧ Below W.heap.size W w'
theorem szEnts_cL (x : List S39) (acc r : Int) (hr : Ev (fun k => laws_szEntryS.f k x acc) r) (A : Option Addr) (c : Nat) (W : World) (hC : Kd.C k39 W A x.length x) (hc : x.length ≤ c) :
   Calls Tryz.prog 13 #[.slice A x.length c, .int .i64 acc] W (RetI r W) := by
 obtain ⟨k, hk⟩ := ev_at hr
 exact laws_szEntryS.calls k A c x acc r W hC hc hk
theorem eqEnts_cL (y : List S44) (h : lens_EntryS y) (A B : Option Addr) (a b : Nat) (W : World) (h0 : Kd.C k44 W A y.length y) (l0 : y.length ≤ a) (h1 : Kd.C k44 W B y.length y) (l1 : y.length ≤ b) :
   Calls Tryz.prog 18 #[.slice A y.length a, .slice B y.length b] W (RetB true W) := by
 obtain ⟨k, hk⟩ := ev_at (eq_EntryS y h)
 exact laws_eqEntryS.calls k A a y B b y true W h0 l0 h1 l1 hk
theorem heldEnts_cL (l : List S44) (n : Nat) (hn : n = l.length) (x : Int) (hl : l.length ≤ 4000000000000000000) (h0 : 0 ≤ x) (hx : x + nEs l ≤ 4000000000000000000) (A : Option Addr) (c : Nat) (W : World) (hC : Kd.C k44 W A n (mkEs x l)) (hc : n ≤ c) :
   Calls Tryz.prog 22 #[.slice A n c, .int .i64 x] W (RetI (x + nEs l) W) := by
 obtain ⟨k, hk⟩ := ev_at (show Ev (fun k => laws_heldEntryS.f k (mkEs x l) x) (x + nEs l) from held_Ents l [] x (by simpa using hl) h0 hx)
 have hlen := mkEs_len l x
 subst hn
 have h := laws_heldEntryS.calls k A c (mkEs x l) x _ W (by rw [hlen]; exact hC) (by rw [hlen]; exact hc) hk
 rw [hlen] at h
 exact h
theorem nEs_leL (m : Nat) : ∀ l : List S44, (∀ a, a ∈ l → n_Ent a ≤ m) → nEs l ≤ l.length * m
 | [], _ => Nat.zero_le _
 | a :: r, h => by
   have h1 := nEs_leL m r (fun b hb => h b (List.mem_cons_of_mem _ hb))
   have h2 := h a List.mem_cons_self
   unfold nEs
   rw [List.length_cons, Nat.succ_mul]
   omega
theorem ents_smallL (x : List S39) (h : small_EntryS x) : (x.map conv_Entry).length ≤ 1048576 ∧ ∀ e, e ∈ x.map conv_Entry → okEnt e.f0 e.f1 ∧ e.f0.length ≤ 1048576 ∧ e.f1.length ≤ 1048576 ∧ n_Ent e ≤ 1100000000000 := by
 refine ⟨by rw [List.length_map]; exact h.1, fun e he => ?_⟩
 obtain ⟨y, hy, rfl⟩ := List.mem_map.1 he
 obtain ⟨h1, h2⟩ := h.2 y hy
 have e1 : (conv_Entry y).f0.length = y.f0.length := by simp [conv_Entry]
 have e2 : (conv_Entry y).f1.length = y.f1.length := by simp [conv_Entry]
 have hv : ∀ a, a ∈ (conv_Entry y).f1 → a.f1.length ≤ 1048576 := fun a ha => by
   have ha2 : a ∈ y.f1.map conv_Attr := ha
   obtain ⟨b, hb, rfl⟩ := List.mem_map.1 ha2
   have h4 := (h2.2 b hb).2.1
   simpa [conv_Attr] using h4
 have h3 := nAs_leV 1048576 (conv_Entry y).f1 hv
 have h5 := h1.1
 have h6 := h2.1
 have h7 := Nat.mul_le_mul_right (1048576 + 1) (show (conv_Entry y).f1.length ≤ 1048576 by omega)
 refine ⟨⟨by omega, by omega, fun a ha => by have := hv a ha; omega⟩, by omega, by omega, ?_⟩
 unfold n_Ent
 omega
theorem E_CL {e : Nat} {V : World} {base : Nat} {ok : Nat → Prop} {A : Option Addr} {n c : Nat} {xs : List S44} (h : Kd.S mEnt e V base ok (.slice A n c) xs) : n ≤ c ∧ Kd.C k44 V A n xs := ⟨(S_CV h).1, (S_CV h).2⟩
end Go.Proofs.YtmkpgddfoaglpaaGreatDoor.PG
/-
 Rows of rules, as the laws use them: sizes, comparison, as contracts without rounds. Conditions: what the arguments fit.
-/
namespace Go.Proofs.YtmkpgddfoaglpaaGreatDoor.PG
open Go.RowKit Go.Proofs.YtmkpgddfoaglpaaGreatDoorW.PrintWords Go.Proofs.YtmkpgddfoaglpaaGreatDoorW.PrintLast Go.Proofs.YtmkpgddfoaglpaaGreatDoorW.PrintMore Go.Proofs.YtmkpgddfoaglpaaGreatDoor.Gn Go.Proofs.YtmkpgddfoaglpaaGreatDoor
set_option linter.unusedVariables false
set_option linter.unusedSimpArgs false
theorem szRules_cL (x : List S102) (acc r : Int) (hr : Ev (fun k => laws_szRuleS.f k x acc) r) (A : Option Addr) (c : Nat) (W : World) (hC : Kd.C k102 W A x.length x) (hc : x.length ≤ c) :
   Calls Tryz.prog 12 #[.slice A x.length c, .int .i64 acc] W (RetI r W) := by
 obtain ⟨k, hk⟩ := ev_at hr
 exact laws_szRuleS.calls k A c x acc r W hC hc hk
theorem eqRules_cL (y : List S108) (h : lens_RuleS y) (A B : Option Addr) (a b : Nat) (W : World) (h0 : Kd.C k108 W A y.length y) (l0 : y.length ≤ a) (h1 : Kd.C k108 W B y.length y) (l1 : y.length ≤ b) :
   Calls Tryz.prog 19 #[.slice A y.length a, .slice B y.length b] W (RetB true W) := by
 obtain ⟨k, hk⟩ := ev_at (eq_RuleS y h)
 exact laws_eqRuleS.calls k A a y B b y true W h0 l0 h1 l1 hk
theorem rule_VL {e : Nat} {V : World} {base : Nat} {ok : Nat → Prop} {A : Option Addr} {n c : Nat} {xs : List S108} (h : Kd.S mRule e V base ok (.slice A n c) xs) : n ≤ c ∧ Kd.C k108 V A n xs := ⟨(S_CV h).1, (S_CV h).2⟩
theorem nRs_leL (m : Nat) : ∀ l : List S108, (∀ a, a ∈ l → n_Rule a ≤ m) → nRs l ≤ l.length * m
 | [], _ => Nat.zero_le _
 | a :: r, h => by
   have h1 := nRs_leL m r (fun b hb => h b (List.mem_cons_of_mem _ hb))
   have h2 := h a List.mem_cons_self
   unfold nRs
   rw [List.length_cons, Nat.succ_mul]
   omega
theorem rules_smallL (x : List S102) (h : small_RuleS x) : (x.map conv_Rule).length ≤ 1048576 ∧ nRs (x.map conv_Rule) ≤ 4000000000000 := by
 have h0 : (x.map conv_Rule).length ≤ 1048576 := by rw [List.length_map]; exact h.1
 refine ⟨h0, ?_⟩
 have h1 := nRs_leL 3200000 (x.map conv_Rule) (fun a ha => by
   obtain ⟨b, hb, rfl⟩ := List.mem_map.1 ha
   have h2 := h.2 b hb
   have h3 := h2.2.1.1
   have h4 := h2.2.2.1.1
   have e1 : (conv_Rule b).f1.length = b.f1.length := by simp [conv_Rule]
   have e2 : (conv_Rule b).f2.length = b.f2.length := by simp [conv_Rule]
   unfold n_Rule
   omega)
 have h2 := Nat.mul_le_mul_right 3200000 h0
 omega
end Go.Proofs.YtmkpgddfoaglpaaGreatDoor.PG
