/-
 Rows of Entry whose rows all lie apart: the kind, marks of []Entry (laws.markEntryS, walked by hand) and that they are found again (laws.heldEntryS). Conditions: the marks' numbers stay small.
-/
import Derived.Test.YtcelpnhajokaaaaGreatDoorVOP1
import Derived.Test.YtcelpnhajokaaaaGreatDoorVOSq
import Derived.Test.YtcelpnhajokaaaaGreatDoorVOOpen
import Derived.Test.YtcelpnhajokaaaaGreatDoorVOMarkRdnC
namespace Go.Proofs.YtcelpnhajokaaaaGreatDoor.PG
set_option linter.unusedVariables false
set_option linter.unusedSimpArgs false
open Go.RowKit Go.Proofs.YtcelpnhajokaaaaGreatDoorW.PrintWords Go.Proofs.YtcelpnhajokaaaaGreatDoorW.PrintLast Go.Proofs.YtcelpnhajokaaaaGreatDoorW.PrintMore Go.Proofs.YtcelpnhajokaaaaGreatDoor.Gn
attribute [local go_sem] max2_int min2_int max_two min_two max_three min_three max_four min_four World.cell?_drew World.frozen?_drew
def mEnt : Kd S46 := Kd.iso (kap (Kd.slice 161 k161) (ksl 165 k165)) (fun x : S46 => (x.f0, x.f1))
theorem mEnt_openM {w : World} {base : Nat} {ok : Nat → Prop} {x : S46} {cs : List Value} (h : mEnt.M w base ok x cs) : ∃ (v0 v1 : Value) (o0 o1 : Nat → Prop), cs = [v0, v1] ∧ (∀ k, o0 k → ok k) ∧ (∀ k, o1 k → ok k) ∧ (∀ k, o0 k → ¬ o1 k) ∧ Kd.R k161 161 w base o0 v0 x.f0 ∧ Kd.S k165 165 w base o1 v1 x.f1 := by
 obtain ⟨_, _, rfl, o0, o1, h0, h1, h2, ⟨v0, rfl, g0⟩, ⟨v1, rfl, g1⟩⟩ := h
 exact ⟨v0, v1, o0, o1, rfl, h0, h1, h2, g0, g1⟩
theorem mEnt_mkM {w : World} {base : Nat} {ok o0 o1 : Nat → Prop} {x : S46} {v0 v1 : Value} (h0 : ∀ k, o0 k → ok k) (h1 : ∀ k, o1 k → ok k) (h2 : ∀ k, o0 k → ¬ o1 k) (g0 : Kd.R k161 161 w base o0 v0 x.f0) (g1 : Kd.S k165 165 w base o1 v1 x.f1) : mEnt.M w base ok x [v0, v1] :=
 ⟨_, _, rfl, o0, o1, h0, h1, h2, ⟨v0, rfl, g0⟩, ⟨v1, rfl, g1⟩⟩
theorem mEnt_of {w : World} {base : Nat} {ok : Nat → Prop} {d : List S161} {l : List S165} {v0 v1 : Value} (g0 : Kd.R k161 161 w base ok v0 d) (g1 : Kd.S k165 165 w base ok v1 l) : mEnt.M w base ok ⟨d, l⟩ [v0, v1] :=
 mEnt_mkM (o0 := fun k => some k = v0.ownBlock ∧ ok k) (o1 := fun k => ok k ∧ some k ≠ v0.ownBlock) (fun _ h => h.2) (fun _ h => h.1) (fun _ h h2 => h2.2 h.1) (Kd.R_tight2 rfl g0) (Kd.S_apart' g1 (Kd.R_typed g0) (by decide))
def n_Ent (e : S46) : Nat := 2 * e.f0.length + nAs e.f1
noncomputable def mk_Ent (x : Int) (e : S46) : S46 := ⟨mkL mk_Rdn 2 x e.f0.length, mkAs (x + 2 * e.f0.length) e.f1⟩
noncomputable def mkEs : Int → List S46 → List S46
 | _, [] => []
 | x, a :: r => mk_Ent x a :: mkEs (x + n_Ent a) r
def nEs : List S46 → Nat
 | [] => 0
 | a :: r => n_Ent a + nEs r
theorem nAs_len : ∀ l : List S165, l.length ≤ nAs l
 | [] => Nat.le_refl _
 | a :: r => by
   have := nAs_len r
   simp only [nAs, n_Attr, List.length_cons]
   omega
theorem mkAs_len : ∀ (l : List S165) (x : Int), (mkAs x l).length = l.length
 | [], _ => rfl
 | a :: r, x => by simp [mkAs, mkAs_len r]
theorem mkEs_len : ∀ (l : List S46) (x : Int), (mkEs x l).length = l.length
 | [], _ => rfl
 | a :: r, x => by simp [mkEs, mkEs_len r]
theorem rd_mid {α : Type} (dn : List α) (a : α) (r : List α) (z : α) : (dn ++ a :: r).getD ((dn.length : Nat) : Int).toNat z = a := by rw [Int.toNat_natCast, get_mid]
theorem held_Attrs : ∀ (rs dn : List S165) (x : Int), dn.length + rs.length ≤ 4000000000000000000 → 0 ≤ x → x + nAs rs ≤ 4000000000000000000 → Ev (fun k => laws_heldAttrS.l0 k (dn ++ mkAs x rs) x (dn.length : Int)) (x + nAs rs)
 | [], dn, x, hl, h0, hx => Ev_one fun k => by
   rw [laws_heldAttrS.l0, if_neg (by simp [mkAs])]
   simp [nAs]
 | a :: r, dn, x, hl, h0, hx => by
   have hlen := mkAs_len (a :: r) x
   have h1 : (dn.length : Int) < ((dn ++ mkAs x (a :: r)).length : Int) := by rw [List.length_append, hlen, List.length_cons]; omega
   simp only [nAs, n_Attr, List.length_cons] at hx hl ⊢
   have hrd : rd_T165 (dn ++ mkAs x (a :: r)) (dn.length : Int) = mk_Attr x a := rd_mid dn (mk_Attr x a) _ _
   have hs := held_String a.f1.length (x + 1) (by omega) (by omega) (by omega)
   have ih := held_Attrs r (dn ++ [mk_Attr x a]) (x + n_Attr a) (by simp; omega) (by omega) (by simp only [n_Attr]; omega)
   have e3 : dn ++ mkAs x (a :: r) = (dn ++ [mk_Attr x a]) ++ mkAs (x + n_Attr a) r := by rw [List.append_assoc]; rfl
   have e4 : (x + 1 + ((1 : Nat) : Int) * (a.f1.length : Int)) = x + n_Attr a := by simp only [n_Attr]; omega
   have hneg : ¬ (x + n_Attr a : Int) < 0 := by omega
   have e5 : (x + n_Attr a + nAs r : Int) = x + ((1 + a.f1.length + nAs r : Nat) : Int) := by simp only [n_Attr]; omega
   rw [e5] at ih
   refine Ev.step (fun k => by rw [laws_heldAttrS.l0, if_pos h1, if_pos (by omega), hrd]) ?_
   refine Ev_bind (markT_ev (by omega)) ?_
   refine Ev.congr (fun k => if_pos rfl) ?_
   rw [show wrap64 (x + 1) = x + 1 from w_id (by omega) (by omega), show wrap64 ((dn.length : Int) + 1) = ((dn ++ [mk_Attr x a]).length : Int) from by rw [wsucc (by omega) (by omega)]; simp]
   refine Ev_bind hs ?_
   rw [e4]
   refine Ev.congr (fun k => if_neg hneg) ?_
   rw [e3]
   exact ih
end Go.Proofs.YtcelpnhajokaaaaGreatDoor.PG
/-
 Marks of an Entry: what laws.markEntry writes, walked by hand. Conditions: the rows are the call's own, apart; the marks' numbers stay small.
-/
namespace Go.Proofs.YtcelpnhajokaaaaGreatDoor.PG
set_option linter.unusedVariables false
set_option linter.unusedSimpArgs false
open Go.RowKit Go.Proofs.YtcelpnhajokaaaaGreatDoorW.PrintWords Go.Proofs.YtcelpnhajokaaaaGreatDoorW.PrintLast Go.Proofs.YtcelpnhajokaaaaGreatDoorW.PrintMore Go.Proofs.YtcelpnhajokaaaaGreatDoor.Gn
attribute [local go_sem] max2_int min2_int max_two min_two max_three min_three max_four min_four World.cell?_drew World.frozen?_drew
def RetMarkE (w0 : World) (ok1 ok2 : Nat → Prop) (v1 v2 : Value) (d : List S161) (l : List S165) (x : Int) (w : World) (en : Ending) (w' : World) : Prop :=
 en = .returned (.int .i64 x) ∧ Kd.R k161 161 w' w0.heap.size ok1 v1 d ∧ Kd.S k165 165 w' w0.heap.size ok2 v2 l ∧ Below w0.heap.size w0 w' ∧ Kept w w' (fun k => ok1 k ∨ ok2 k)
set_option maxHeartbeats 4000000 in
set_option maxRecDepth 100000 in
theorem markEntry_c (w0 : World) (ok1 ok2 : Nat → Prop) (hap : ∀ k, ok1 k → ¬ ok2 k) (A1 : Option Addr) (c1 : Nat) (A2 : Option Addr) (c2 : Nat) (d : List S161) (l : List S165) (x : Int) (w : World) (hB : Below w0.heap.size w0 w)
   (hR : Kd.R k161 161 w w0.heap.size ok1 (.slice A1 d.length c1) d) (hS : Kd.S k165 165 w w0.heap.size ok2 (.slice A2 l.length c2) l) (hd : d.length ≤ 1048576) (hl : l.length ≤ 1048576) (h0 : 0 ≤ x) (hx : x + nEnt d l ≤ 4000000000000000000) :
   Calls Tryz.prog 30 #[.agg #[.slice A1 d.length c1, .slice A2 l.length c2], .int .i64 x] w (RetMarkE w0 ok1 ok2 (.slice A1 d.length c1) (.slice A2 l.length c2) (mkL mk_Rdn 2 x d.length) (mkAs (x + 2 * d.length) l) (x + nEnt d l) w) := by
 unfold nEnt at hx ⊢
 obtain ⟨w1, hw1⟩ : ∃ w1, w.alloc (.cells #[.slice A1 d.length c1, .slice A2 l.length c2] 46) = w1 := ⟨_, rfl⟩
 have hb1 : Below w.heap.size w w1 := by rw [← hw1]; exact below_alloc (Below.refl _ _) _
 have hn1 : w1.heap[w.heap.size]? = some (.cells #[.slice A1 d.length c1, .slice A2 l.length c2] 46 (0, 0)) := by rw [← hw1]; exact heap_alloc_new w _
 have q0 := blk_cell hn1 0
 have q1 := blk_cell hn1 1
 have hR1 := Kd.R_below (Kd.R_mono (ok' := fun k => ok1 k ∧ k < w.heap.size) (Kd.R_bound hR) (fun k hk => ⟨hk.1, hk.2.2.1⟩)) hb1
 have hS1 := Kd.S_below (Kd.S_mono (ok' := fun k => ok2 k ∧ k < w.heap.size) (Kd.S_bound hS) (fun k hk => ⟨hk.1, hk.2.2.1⟩)) hb1
 have hB1 := below_step hB hb1
 have hc1 := markRdns_c w0 (fun k => ok1 k ∧ k < w.heap.size) (.slice A1 d.length c1) d x w1 hB1 hR1 (by omega) h0 (by omega)
 have HQ := Aside0.mk (fun (w2 : World) (hb2 : Below w0.heap.size w0 w2) (hk2 : Kept w1 w2 (fun k => ok1 k ∧ k < w.heap.size)) => markAttrs_c w0 (fun k => ok2 k ∧ k < w.heap.size) A2 l.length c2 l (x + 2 * d.length) w2 hb2 (Kd.S_kept hS1 hk2 (fun k hk h => hap k h.1 hk.1)) (by omega) (by omega) (by omega))
 have HN1 := Aside0.mk hn1
 have HB1 := Aside0.mk hb1
 have HE := Aside0.mk (show (x + 2 * (d.length : Int)) + nAs l = x + (2 * d.length + nAs l : Nat) by omega)
 have HA := Aside0.mk hap
 clear hR hS hR1 hS1 hB hB1 hb1 hn1 hd hl h0 hx hap
 go_enter Tryz.func30, Tryz.ntmps30
 go_wp2_with (first | (go_at_call 88; refine hc1.mono ?_; rintro e w2 ⟨rfl, hR2, hb2, hk2⟩; have q1 := Go.Proofs.YtcelpnhajokaaaaGreatDoorW.PrintWords.cell_kept (blk_cell HN1.out 1) hk2 (fun h => Nat.lt_irrefl _ h.2); have HR2 := Aside0.mk hR2; have HB2 := Aside0.mk hb2; have HK2 := Aside0.mk hk2; clear hR2 hb2 hk2) | (go_at_call 90; refine (HQ.out w2 HB2.out HK2.out).mono ?_; rintro e w3 ⟨rfl, hS3, hb3, hk3⟩; have HS3 := Aside0.mk hS3; have HB3 := Aside0.mk hb3; have HK3 := Aside0.mk hk3; clear hS3 hb3 hk3))
 go_ret
 refine ⟨by rw [HE.out]; rfl, Kd.R_mono (Kd.R_kept HR2.out HK3.out (fun k hk h => HA.out k hk.1 h.1)) (fun k hk => hk.1), Kd.S_mono HS3.out (fun k hk => hk.1), HB3.out, ?_⟩
 exact ((Kept.of_below HB1.out _).then_ (HK2.out.mono (fun k hk => Or.inl hk.1)) (fun k hk => .inl hk)).then_ (HK3.out.mono (fun k hk => Or.inr hk.1)) (fun k hk => .inl hk)
end Go.Proofs.YtcelpnhajokaaaaGreatDoor.PG
