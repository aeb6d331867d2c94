/-
 What holds at each point of a drawn region that copies an entry, calls a function on it and boxes its answer (an EntryOut). No condition.
-/
import Derived.Test.YtcelpnhajokaaaaGreatDoorVOFits
import Derived.Test.YtcelpnhajokaaaaGreatDoorVOLawSt
namespace Go.Proofs.YtcelpnhajokaaaaGreatDoor.PG
open Go.RowKit Go.Proofs.YtcelpnhajokaaaaGreatDoorW.PrintWords Go.Proofs.YtcelpnhajokaaaaGreatDoorW.PrintLast Go.Proofs.YtcelpnhajokaaaaGreatDoorW.PrintMore Go.Proofs.YtcelpnhajokaaaaGreatDoor.Gn Go.Proofs.YtcelpnhajokaaaaGreatDoor
set_option linter.unusedVariables false
set_option linter.unusedSimpArgs false
def EC (V : World) (y : S46) (A : Option Addr) (c : Nat) (B : Option Addr) (b : Nat) : Prop := y.f0.length ≤ c ∧ Kd.C k161 V A y.f0.length y.f0 ∧ y.f1.length ≤ b ∧ Kd.C k165 V B y.f1.length y.f1
theorem EC.step {V V' : World} {y : S46} {A : Option Addr} {c : Nat} {B : Option Addr} {b : Nat} (h : EC V y A c B b) (hb : Below V.heap.size V V') : EC V' y A c B b := ⟨h.1, Kd.C_below h.2.1 hb, h.2.2.1, Kd.C_below h.2.2.2 hb⟩
theorem EC_of {V : World} {base : Nat} {ok : Nat → Prop} {y : S46} {A : Option Addr} {c : Nat} {B : Option Addr} {b : Nat} (h : EM V base ok y A y.f0.length c B y.f1.length b) : EC V y A c B b := by
 obtain ⟨_, _, p1, p2, p3, p4⟩ := EM_C h
 exact ⟨p1, p2, p3, p4⟩
def boxZ (q : S46) (z : Int) (A : Option Addr) (c : Nat) (B : Option Addr) (b : Nat) : Array Value := #[.slice A q.f0.length c, .slice B q.f1.length b, .int .i64 z]
structure RgI (W1 : World) (y q : S46) (z : Int) (bE bR bA bS : Bool) (A4 : Option Addr) (c4 : Nat) (B4 : Option Addr) (b4 : Nat) (A5 : Option Addr) (c5 : Nat) (B5 : Option Addr) (b5 : Nat) (p : Nat) (ok : Nat → Prop) (V : World) : Prop where
 hb : Below W1.heap.size W1 V
 he : bE = true → EC V y A4 c4 B4 b4
 hr : bR = true → EM V W1.heap.size ok q A5 q.f0.length c5 B5 q.f1.length b5
 ha : bA = true → W1.heap.size ≤ p ∧ V.heap[p]? = some (.cells (if bS = true then boxZ q z A5 c5 B5 b5 else #[.slice none 0 0, .slice none 0 0, .int .i64 0]) 54 (0, 0))
 hd : bR = true → bA = true → ¬ ok p
section
variable {W1 : World} {y q : S46} {z : Int} {bE bR bA bS : Bool} {A4 : Option Addr} {c4 : Nat} {B4 : Option Addr} {b4 : Nat} {A5 : Option Addr} {c5 : Nat} {B5 : Option Addr} {b5 : Nat} {p : Nat} {ok : Nat → Prop} {V V' : World}
theorem RgI.step (h : RgI W1 y q z bE bR bA bS A4 c4 B4 b4 A5 c5 B5 b5 p ok V) (hb : Below V.heap.size V V') : RgI W1 y q z bE bR bA bS A4 c4 B4 b4 A5 c5 B5 b5 p ok V' :=
 ⟨below_step h.hb hb, fun e => (h.he e).step hb, fun e => EM_keep (h.hr e) hb, fun e => ⟨(h.ha e).1, blk_below (h.ha e).2 hb⟩, h.hd⟩
theorem RgI.entry {A : Option Addr} {c : Nat} {B : Option Addr} {b : Nat} (h : RgI W1 y q z false bR bA bS A4 c4 B4 b4 A5 c5 B5 b5 p ok V) (hb : Below V.heap.size V V') (hM : EM V' V.heap.size (fun k => V.heap.size ≤ k ∧ k < V'.heap.size) y A y.f0.length c B y.f1.length b) : RgI W1 y q z true bR bA bS A c B b A5 c5 B5 b5 p ok V' := by
 have g := h.step hb
 exact ⟨g.hb, fun _ => EC_of hM, g.hr, g.ha, g.hd⟩
theorem RgI.result {A : Option Addr} {c : Nat} {B : Option Addr} {b : Nat} (h : RgI W1 y q z bE false bA false A4 c4 B4 b4 A5 c5 B5 b5 p ok V) (hb : Below V.heap.size V V') (hM : EM V' V.heap.size (fun k => V.heap.size ≤ k ∧ k < V'.heap.size) q A q.f0.length c B q.f1.length b) : RgI W1 y q z bE true bA false A4 c4 B4 b4 A c B b p (fun k => V.heap.size ≤ k ∧ k < V'.heap.size) V' := by
 have g := h.step hb
 refine ⟨g.hb, g.he, fun _ => EM_lower hM h.hb.size, fun e => ?_, fun _ e hk => ?_⟩
 · have := g.ha e
   simpa using this
 · have := blk_lt (h.ha e).2
   omega
theorem RgI.alloc (h : RgI W1 y q z bE bR false false A4 c4 B4 b4 A5 c5 B5 b5 p ok V) : RgI W1 y q z bE bR true false A4 c4 B4 b4 A5 c5 B5 b5 V.heap.size (fun k => ok k ∧ k < V.heap.size) (V.alloc (.cells #[.slice none 0 0, .slice none 0 0, .int .i64 0] 54)) := by
 have g := h.step (below_alloc (Below.refl _ V) (.cells #[.slice none 0 0, .slice none 0 0, .int .i64 0] 54))
 refine ⟨g.hb, g.he, fun e => EM_keep (mEnt.M_mono (fun k hk => ⟨hk.1, hk.2.2.1⟩) (mEnt.M_bound (h.hr e))) (below_alloc (Below.refl _ V) _), fun _ => ⟨h.hb.size, ?_⟩, fun _ _ hk => Nat.lt_irrefl _ hk.2⟩
 exact heap_alloc_new V _
theorem RgI.store (h : RgI W1 y q z bE true true false A4 c4 B4 b4 A5 c5 B5 b5 p ok V) : RgI W1 y q z false true true true A4 c4 B4 b4 A5 c5 B5 b5 p ok (((V.setCell ⟨p, 0, none⟩ (.slice A5 q.f0.length c5)).setCell ⟨p, 1, none⟩ (.slice B5 q.f1.length b5)).setCell ⟨p, 2, none⟩ (.int .i64 z)) := by
 obtain ⟨h1, h2⟩ := h.ha rfl
 rw [if_neg (by decide)] at h2
 have k1 : Kept V (((V.setCell ⟨p, 0, none⟩ (.slice A5 q.f0.length c5)).setCell ⟨p, 1, none⟩ (.slice B5 q.f1.length b5)).setCell ⟨p, 2, none⟩ (.int .i64 z)) (fun k => k = p) := ⟨by simp [World.setCell], fun i _ hn => (Below.heap_setCell _ ⟨p, 2, none⟩ _ i hn).trans ((Below.heap_setCell _ ⟨p, 1, none⟩ _ i hn).trans (Below.heap_setCell _ ⟨p, 0, none⟩ _ i hn))⟩
 refine ⟨((h.hb.setCell h1 _).setCell h1 _).setCell h1 _, fun e => (by cases e), fun _ => EM_kept (h.hr rfl) k1 (fun k hk e => h.hd rfl rfl (e ▸ hk)), fun _ => ⟨h1, ?_⟩, fun _ _ => h.hd rfl rfl⟩
 rw [if_pos rfl]
 exact blk_put (blk_put (blk_put h2 0 _ rfl) 1 _ rfl) 2 _ rfl
end
end Go.Proofs.YtcelpnhajokaaaaGreatDoor.PG
