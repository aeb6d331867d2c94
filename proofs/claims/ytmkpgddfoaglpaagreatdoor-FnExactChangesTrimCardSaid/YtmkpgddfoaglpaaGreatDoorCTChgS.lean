/-
 The reference's helpers on change logs as contracts: is the log right, the answer with a fault. Conditions: the texts' and lengths' bounds.
-/
import Derived.Test.YtmkpgddfoaglpaaGreatDoorCTChgO
import Derived.Test.YtmkpgddfoaglpaaGreatDoorCTP3
set_option linter.unusedVariables false
set_option linter.unusedSimpArgs false
namespace Go.Proofs.YtmkpgddfoaglpaaGreatDoor.PG
open Go.RowKit Go.Proofs.YtmkpgddfoaglpaaGreatDoorW.PrintWords Go.Proofs.YtmkpgddfoaglpaaGreatDoorW.PrintLast Go.Proofs.YtmkpgddfoaglpaaGreatDoorW.PrintMore Go.Proofs.YtmkpgddfoaglpaaGreatDoor.Gn Go.Proofs.YtmkpgddfoaglpaaGreatDoor
theorem schgsR_c (y : S67) (hok : ∀ x, x ∈ y.f1 → okChg x) (A : Option Addr) (c : Nat) (W : World) (hC : Kd.C k145 W A y.f1.length y.f1) (hc : y.f1.length ≤ c) :
   Calls Tryz.prog 107 #[.agg #[.int .i64 y.f0, .slice A y.f1.length c]] W (RetB (chgsB y.f0 y.f1) W) := by
 obtain ⟨k, hk⟩ := ev_at (spec_chgs y.f0 y.f1 hok)
 exact spec_ChangesRight.calls k y.f0 A c y.f1 _ W hC hc hk
theorem sill_c (z : Int) (W : World) : Calls Tryz.prog 108 #[.int .i64 z] W fun e w' => ∃ A c B b, e = .returned (.agg #[.int .i64 0, .slice A 0 c, .slice B 0 b, .int .i64 z]) ∧ Below W.heap.size W w' := by
 refine (spec_l08Ill.calls z 0 [] [] z W rfl).mono ?_
 rintro e w' ⟨v, u, rfl, hR, hS, hb⟩
 obtain ⟨A', c', rfl⟩ := Kd.R_slice hR
 obtain ⟨B', b', rfl⟩ := Kd.R_slice hS
 exact ⟨A', c', B', b', rfl, hb⟩
theorem C_nil0 (W : World) (A : Option Addr) : Kd.C k145 W A 0 [] := ⟨rfl, by decide, fun h => absurd h (Nat.lt_irrefl 0)⟩
def coOf (r : Int × List S145 × List S145 × Int) : S69 := ⟨⟨r.1, r.2.1⟩, r.2.2.1, r.2.2.2⟩
theorem put4 {V : World} {p : Nat} {t : TypeId} {z0 z1 z2 z3 a0 a1 a2 a3 : Value} (h : V.heap[p]? = some (.cells #[z0, z1, z2, z3] t (0, 0))) : ((((V.setCell ⟨p, 0, none⟩ a0).setCell ⟨p, 1, none⟩ a1).setCell ⟨p, 2, none⟩ a2).setCell ⟨p, 3, none⟩ a3).heap[p]? = some (.cells #[a0, a1, a2, a3] t (0, 0)) := blk_put (blk_put (blk_put (blk_put h 0 a0 rfl) 1 a1 rfl) 2 a2 rfl) 3 a3 rfl
theorem below4 {W V : World} {a0 a1 a2 a3 : Value} (h : Below W.heap.size W V) : Below W.heap.size W ((((V.setCell ⟨W.heap.size + 1, 0, none⟩ a0).setCell ⟨W.heap.size + 1, 1, none⟩ a1).setCell ⟨W.heap.size + 1, 2, none⟩ a2).setCell ⟨W.heap.size + 1, 3, none⟩ a3) := (((h.setCell (Nat.le_succ _) _).setCell (Nat.le_succ _) _).setCell (Nat.le_succ _) _).setCell (Nat.le_succ _) _
theorem kept4 {V : World} {p : Nat} {a0 a1 a2 a3 : Value} : Kept V ((((V.setCell ⟨p, 0, none⟩ a0).setCell ⟨p, 1, none⟩ a1).setCell ⟨p, 2, none⟩ a2).setCell ⟨p, 3, none⟩ a3) (fun k => k = p) := ⟨by simp [World.setCell], fun i _ hn => (Below.heap_setCell _ ⟨p, 3, none⟩ _ i hn).trans ((Below.heap_setCell _ ⟨p, 2, none⟩ _ i hn).trans ((Below.heap_setCell _ ⟨p, 1, none⟩ _ i hn).trans (Below.heap_setCell _ ⟨p, 0, none⟩ _ i hn)))⟩
end Go.Proofs.YtmkpgddfoaglpaaGreatDoor.PG
