/-
  Marks of an Entry: what laws.markEntry writes, walked by hand. Conditions: the rows are the call's own, apart; the marks' numbers stay small.
-/
import Derived.Test.YthapodlehfblgaaDoorAOP2
import Derived.Test.YthapodlehfblgaaDoorAOMarkAttr
import Derived.Test.YthapodlehfblgaaDoorAOMarkRdn
namespace Go.Proofs.YthapodlehfblgaaDoor.PA
set_option linter.unusedVariables false
set_option linter.unusedSimpArgs false
open Go.RowKit Go.Proofs.YthapodlehfblgaaDoorW.PrintWords Go.Proofs.YthapodlehfblgaaDoorW.PrintLast Go.Proofs.YthapodlehfblgaaDoorW.PrintMore Go.Proofs.YthapodlehfblgaaDoor.Gn
attribute [local go_sem] max2_int min2_int max_two min_two max_three min_three max_four min_four World.cell?_drew World.frozen?_drew

theorem markRdns_c (w0 : World) (ok : Nat → Prop) (u : Value) (l : List S103) (x : Int) (w : World) (hB : Below w0.heap.size w0 w) (hR : Kd.R k103 103 w w0.heap.size ok u l) (hl : l.length ≤ 1000000000000000) (h0 : 0 ≤ x) (hx : x + 2 * l.length ≤ 1000000000000000) :
    Calls Tryd.prog 42 #[u, .int .i64 x] w (RetMark k103 103 w0 ok u (mkL mk_Rdn 2 x l.length) (x + 2 * l.length) w) := by
  obtain ⟨k, hk⟩ := (mark_Rdn l x hl h0 (by omega)).rounds
  refine (laws_markRdnS.calls k ok u l x _ _ w0 w hB hR hk).mono ?_
  rintro e w' ⟨rfl, hR', hb, hk'⟩
  exact ⟨rfl, Kd.R_mono (Kd.R_tight rfl hR') (fun k hk => hR.1 k hk.symm), hb, hk'⟩
def nEnt (d : List S103) (l : List S102) : Nat := 2 * d.length + nAs l
/-- What marking an entry leaves. -/
def RetMarkE (w0 : World) (ok1 ok2 : Nat → Prop) (v1 v2 : Value) (d : List S103) (l : List S102) (x : Int) (w : World) (en : Ending) (w' : World) : Prop :=
  en = .returned (.int .i64 x) ∧ Kd.R k103 103 w' w0.heap.size ok1 v1 d ∧ Kd.S k102 102 w' w0.heap.size ok2 v2 l ∧ Below w0.heap.size w0 w' ∧ Kept w w' (fun k => ok1 k ∨ ok2 k)
set_option maxHeartbeats 4000000 in
set_option maxRecDepth 100000 in
theorem markEntry_c (w0 : World) (ok1 ok2 : Nat → Prop) (hap : ∀ k, ok1 k → ¬ ok2 k) (A1 : Option Addr) (c1 : Nat) (A2 : Option Addr) (c2 : Nat) (d : List S103) (l : List S102) (x : Int) (w : World) (hB : Below w0.heap.size w0 w)
    (hR : Kd.R k103 103 w w0.heap.size ok1 (.slice A1 d.length c1) d) (hS : Kd.S k102 102 w w0.heap.size ok2 (.slice A2 l.length c2) l) (hd : d.length ≤ 1048576) (hl : l.length ≤ 1048576) (h0 : 0 ≤ x) (hx : x + nEnt d l ≤ 1000000000000000) :
    Calls Tryd.prog 12 #[.agg #[.slice A1 d.length c1, .slice A2 l.length c2], .int .i64 x] w (RetMarkE w0 ok1 ok2 (.slice A1 d.length c1) (.slice A2 l.length c2) (mkL mk_Rdn 2 x d.length) (mkAs (x + 2 * d.length) l) (x + nEnt d l) w) := by
  unfold nEnt at hx ⊢
  obtain ⟨w1, hw1⟩ : ∃ w1, w.alloc (.cells #[.slice A1 d.length c1, .slice A2 l.length c2] 32) = w1 := ⟨_, rfl⟩
  have hb1 : Below w.heap.size w w1 := by rw [← hw1]; exact below_alloc (Below.refl _ _) _
  have hn1 : w1.heap[w.heap.size]? = some (.cells #[.slice A1 d.length c1, .slice A2 l.length c2] 32 (0, 0)) := by rw [← hw1]; exact heap_alloc_new w _
  have q0 := blk_cell hn1 0
  have q1 := blk_cell hn1 1
  have hR1 := Kd.R_below (Kd.R_mono (ok' := fun k => ok1 k ∧ k < w.heap.size) (Kd.R_bound hR) (fun k hk => ⟨hk.1, hk.2.2.1⟩)) hb1
  have hS1 := Kd.S_below (Kd.S_mono (ok' := fun k => ok2 k ∧ k < w.heap.size) (Kd.S_bound hS) (fun k hk => ⟨hk.1, hk.2.2.1⟩)) hb1
  have hB1 := below_step hB hb1
  have hc1 := markRdns_c w0 (fun k => ok1 k ∧ k < w.heap.size) (.slice A1 d.length c1) d x w1 hB1 hR1 (by omega) h0 (by omega)
  have HQ := Aside0.mk (fun (w2 : World) (hb2 : Below w0.heap.size w0 w2) (hk2 : Kept w1 w2 (fun k => ok1 k ∧ k < w.heap.size)) => markAttrs_c w0 (fun k => ok2 k ∧ k < w.heap.size) A2 l.length c2 l (x + 2 * d.length) w2 hb2 (Kd.S_kept hS1 hk2 (fun k hk h => hap k h.1 hk.1)) (by omega) (by omega) (by omega))
  have HN1 := Aside0.mk hn1
  have HB1 := Aside0.mk hb1
  have HE := Aside0.mk (show (x + 2 * (d.length : Int)) + nAs l = x + (2 * d.length + nAs l : Nat) by omega)
  have HA := Aside0.mk hap
  clear hR hS hR1 hS1 hB hB1 hb1 hn1 hd hl h0 hx hap
  go_enter Tryd.func12, Tryd.ntmps12
  go_wp2_with (first | (go_at_call 42; refine hc1.mono ?_; rintro e w2 ⟨rfl, hR2, hb2, hk2⟩; have q1 := cell_kept (blk_cell HN1.out 1) hk2 (fun h => Nat.lt_irrefl _ h.2); have HR2 := Aside0.mk hR2; have HB2 := Aside0.mk hb2; have HK2 := Aside0.mk hk2; clear hR2 hb2 hk2) | (go_at_call 43; refine (HQ.out w2 HB2.out HK2.out).mono ?_; rintro e w3 ⟨rfl, hS3, hb3, hk3⟩; have HS3 := Aside0.mk hS3; have HB3 := Aside0.mk hb3; have HK3 := Aside0.mk hk3; clear hS3 hb3 hk3))
  go_ret
  refine ⟨by rw [HE.out]; rfl, Kd.R_mono (Kd.R_kept HR2.out HK3.out (fun k hk h => HA.out k hk.1 h.1)) (fun k hk => hk.1), Kd.S_mono HS3.out (fun k hk => hk.1), HB3.out, ?_⟩
  exact ((Kept.of_below HB1.out _).then_ (HK2.out.mono (fun k hk => Or.inl hk.1)) (fun k hk => .inl hk)).then_ (HK3.out.mono (fun k hk => Or.inr hk.1)) (fun k hk => .inl hk)
end Go.Proofs.YthapodlehfblgaaDoor.PA
