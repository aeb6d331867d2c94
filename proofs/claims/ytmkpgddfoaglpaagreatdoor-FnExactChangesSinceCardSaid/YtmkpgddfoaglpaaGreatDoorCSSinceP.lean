/-
 The program's ChangesSince, walked: it answers sinceV. Conditions: the texts' and lengths' bounds.
-/
import Derived.Deep.RegionHeld3
import Derived.Test.YtmkpgddfoaglpaaGreatDoorCSP6
import Derived.Test.YtmkpgddfoaglpaaGreatDoorCSP1
import Derived.Test.YtmkpgddfoaglpaaGreatDoorCSChgO
import Derived.Test.YtmkpgddfoaglpaaGreatDoorCSCopyChgs
import Derived.Test.YtmkpgddfoaglpaaGreatDoorCSP3
set_option linter.unusedVariables false
set_option linter.unusedSimpArgs false
namespace Go.Proofs.YtmkpgddfoaglpaaGreatDoor.PG
open Go.RowKit Go.Proofs.YtmkpgddfoaglpaaGreatDoorW.PrintWords Go.Proofs.YtmkpgddfoaglpaaGreatDoorW.PrintLast Go.Proofs.YtmkpgddfoaglpaaGreatDoorW.PrintMore Go.Proofs.YtmkpgddfoaglpaaGreatDoor.Gn Go.Proofs.YtmkpgddfoaglpaaGreatDoor
attribute [local go_sem] max2_int min2_int max_two min_two max_three min_three max_four min_four World.cell?_drew World.frozen?_drew
theorem size_c (A : Option Addr) (c : Nat) (l : List S145) (W : World) (hC : Kd.C k145 W A l.length l) (hc : l.length ≤ c) :
   Calls Tryz.prog 207 #[.slice A l.length c] W (RetI (l.length : Int) W) := by
 refine (impl_size_Change.calls A c l _ W hC hc rfl).mono ?_
 rintro e w' ⟨rfl, hd⟩
 exact ⟨rfl, dr_below hd⟩
def sinceQ (next : Int) (l : List S145) (n : Int) : List S145 × Int := if n < 0 ∨ n ≥ next ∨ n < next - (l.length : Int) - 1 then ([], 8) else (l.drop ((l.length : Int) - (next - 1 - n)).toNat, 0)
def RetSince (q : List S145 × Int) (W : World) (e : Ending) (w' : World) : Prop := ∃ A c, e = .returned (.tuple #[.slice A q.1.length c, .int .i64 q.2]) ∧ q.1.length ≤ c ∧ Kd.C k145 w' A q.1.length q.1 ∧ Below W.heap.size W w'
set_option maxHeartbeats 4000000 in
set_option maxRecDepth 100000 in
theorem since_c (p : Nat) (next : Int) (l : List S145) (n : Int) (h0 : 1 ≤ next) (h1 : next ≤ 1000000) (hl : l.length ≤ 40) (A : Option Addr) (c : Nat) (W : World) (hN : W.heap[p]? = some (.cells #[.int .i64 next, .slice A l.length c] 67 (0, 0))) (hC : Kd.C k145 W A l.length l) (hc : l.length ≤ c) :
   Calls Tryz.prog 112 #[.pointer (some ⟨p, 0, none⟩), .int .i64 n] W (RetSince (sinceQ next l n) W) := by
 have HSZ := Aside0.mk (fun (V : World) (hb : Below W.heap.size W V) => size_c A c l V (Kd.C_below hC hb) hc)
 have HCE := Aside0.mk (fun (V : World) (hb : Below W.heap.size W V) => (show V.cell? ⟨p, 0, none⟩ = some (.int .i64 next) ∧ V.cell? ⟨p, 1, none⟩ = some (.slice A l.length c) from ⟨(blk_cell (blk_below hN hb) 0).trans rfl, (blk_cell (blk_below hN hb) 1).trans rfl⟩))
 have HCC := Aside0.mk (And.intro hC hc)
 obtain ⟨g0, g1⟩ := HCE.out W (Below.refl _ _)
 have hB := Below.refl W.heap.size W
 have w1 : wrap64 (next - 1) = next - 1 := w_id (by omega) (by omega)
 have w2 : wrap64 (next - 1 - (l.length : Int)) = next - (l.length : Int) - 1 := by rw [show next - 1 - (l.length : Int) = next - (l.length : Int) - 1 by omega]; exact w_id (by omega) (by omega)
 unfold sinceQ
 by_cases c1 : n < 0
 · rw [if_pos (.inl c1)]
   have d1 : decide (n < 0) = true := decide_eq_true c1
   clear hN hC hc h0 h1 hl c1
   go_enter Tryz.func112, Tryz.ntmps112
   go_wp2
   go_region_held3 (fun w' => w'.cell? ⟨p, 0, none⟩ = some (.int .i64 next) ∧ w'.cell? ⟨p, 1, none⟩ = some (.slice A l.length c)) (go_keep) ((go_at_call 207; refine (HSZ.out _ (by first | exact hB | exact below_drew hB)).mono ?_; rintro e V2 ⟨rfl, hb2⟩; have hB2 := Aside0.mk (show Below W.heap.size W V2 from below_step (by first | exact hB | exact below_drew hB) hb2); obtain ⟨g0, g1⟩ := HCE.out V2 hB2.out))
   go_wp2
   go_ret2
   exact ⟨none, 0, rfl, Nat.le_refl _, Kd.C_nil _ _, hB2.out⟩
 have d1 : decide (n < 0) = false := decide_eq_false c1
 by_cases c2 : n ≥ next
 · rw [if_pos (.inr (.inl c2))]
   have d2 : decide (next ≤ n) = true := decide_eq_true c2
   clear hN hC hc h0 h1 hl c1 c2
   go_enter Tryz.func112, Tryz.ntmps112
   go_wp2
   go_region_held3 (fun w' => w'.cell? ⟨p, 0, none⟩ = some (.int .i64 next) ∧ w'.cell? ⟨p, 1, none⟩ = some (.slice A l.length c)) (go_keep) ((go_at_call 207; refine (HSZ.out _ (by first | exact hB | exact below_drew hB)).mono ?_; rintro e V2 ⟨rfl, hb2⟩; have hB2 := Aside0.mk (show Below W.heap.size W V2 from below_step (by first | exact hB | exact below_drew hB) hb2); obtain ⟨g0, g1⟩ := HCE.out V2 hB2.out))
   go_wp2
   go_ret2
   exact ⟨none, 0, rfl, Nat.le_refl _, Kd.C_nil _ _, hB2.out⟩
 have d2 : decide (next ≤ n) = false := decide_eq_false c2
 by_cases c3 : n < next - (l.length : Int) - 1
 · rw [if_pos (.inr (.inr c3))]
   have d3 : decide (n < next - (l.length : Int) - 1) = true := decide_eq_true c3
   clear hN hC hc h0 h1 hl c1 c2 c3
   go_enter Tryz.func112, Tryz.ntmps112
   go_wp2
   go_region_held3 (fun w' => w'.cell? ⟨p, 0, none⟩ = some (.int .i64 next) ∧ w'.cell? ⟨p, 1, none⟩ = some (.slice A l.length c)) (go_keep) ((go_at_call 207; refine (HSZ.out _ (by first | exact hB | exact below_drew hB)).mono ?_; rintro e V2 ⟨rfl, hb2⟩; have hB2 := Aside0.mk (show Below W.heap.size W V2 from below_step (by first | exact hB | exact below_drew hB) hb2); obtain ⟨g0, g1⟩ := HCE.out V2 hB2.out))
   go_wp2
   go_ret2
   exact ⟨none, 0, rfl, Nat.le_refl _, Kd.C_nil _ _, hB2.out⟩
 have d3 : decide (n < next - (l.length : Int) - 1) = false := decide_eq_false c3
 rw [if_neg (by clear w1 w2; omega)]
 obtain ⟨m, hm⟩ : ∃ m : Nat, (l.length : Int) - (next - 1 - n) = (m : Int) := ⟨((l.length : Int) - (next - 1 - n)).toNat, by clear w1 w2; omega⟩
 have hml : m ≤ l.length := by clear w1 w2; omega
 have w3 : wrap64 (n - (next - (l.length : Int) - 1)) = (m : Int) := by rw [show n - (next - (l.length : Int) - 1) = (m : Int) by clear w1 w2; omega]; exact w_id (by clear w1 w2; omega) (by clear w1 w2; omega)
 obtain ⟨i0, hi0_, _, hsz, _⟩ := info_parts info145
 have hcut := cut_from (P := Tryz.prog) 65 145 .i64 Tryz.underlying65 hi0_ 5 hsz A l.length c (m : Int) (by clear w1 w2 w3; omega) (by clear w1 w2 w3; omega)
 have hdr := Kd.C_drop (m := m) (c := c) hC hml hc
 rw [hm, Int.toNat_natCast]
 rw [Int.toNat_natCast] at hcut
 have hq : l.length - m = (l.drop m).length := by rw [List.length_drop]
 rw [hq] at hcut
 replace hdr : Kd.C k145 W (if c = m then A else A.map (·.add (m * 5))) (l.drop m).length (l.drop m) := hdr
 generalize (if c = m then A else A.map (·.add (m * 5))) = A9 at hcut hdr
 have hc9 : (l.drop m).length ≤ c - m := by rw [List.length_drop]; clear w1 w2 w3; omega
 generalize c - m = c9 at hcut hc9
 generalize l.drop m = q at hcut hdr hc9 ⊢
 have x1 : (0 ≤ (m : Int)) = True := eq_true (by clear w1 w2 w3; omega)
 have x2 : ((m : Int) ≤ (l.length : Int)) = True := eq_true (by clear w1 w2 w3; omega)
 have HDR := Aside0.mk (And.intro hc9 hdr)
 clear hN hC hc h0 h1 hl c1 c2 c3 hm hml hi0_ hsz hq hdr hc9
 go_enter Tryz.func112, Tryz.ntmps112
 go_wp2
 go_region_held3 (fun w' => w'.cell? ⟨p, 0, none⟩ = some (.int .i64 next) ∧ w'.cell? ⟨p, 1, none⟩ = some (.slice A l.length c)) (go_keep) ((go_at_call 207; refine (HSZ.out _ (by first | exact hB | exact below_drew hB)).mono ?_; rintro e V2 ⟨rfl, hb2⟩; have hB2 := Aside0.mk (show Below W.heap.size W V2 from below_step (by first | exact hB | exact below_drew hB) hb2); obtain ⟨g0, g1⟩ := HCE.out V2 hB2.out))
 go_wp2
 go_ret2
 exact ⟨A9, c9, rfl, HDR.out.1, Kd.C_below HDR.out.2 hB2.out, hB2.out⟩
end Go.Proofs.YtmkpgddfoaglpaaGreatDoor.PG
/-
 The reference's helpers on change logs as contracts: is the log right, the answer with a fault. Conditions: the texts' and lengths' bounds.
-/
namespace Go.Proofs.YtmkpgddfoaglpaaGreatDoor.PG
open Go.RowKit Go.Proofs.YtmkpgddfoaglpaaGreatDoorW.PrintWords Go.Proofs.YtmkpgddfoaglpaaGreatDoorW.PrintLast Go.Proofs.YtmkpgddfoaglpaaGreatDoorW.PrintMore Go.Proofs.YtmkpgddfoaglpaaGreatDoor.Gn Go.Proofs.YtmkpgddfoaglpaaGreatDoor
theorem schgsR_c (y : S67) (hok : ∀ x, x ∈ y.f1 → okChg x) (A : Option Addr) (c : Nat) (W : World) (hC : Kd.C k145 W A y.f1.length y.f1) (hc : y.f1.length ≤ c) :
   Calls Tryz.prog 107 #[.agg #[.int .i64 y.f0, .slice A y.f1.length c]] W (RetB (chgsB y.f0 y.f1) W) := by
 obtain ⟨k, hk⟩ := ev_at (spec_chgs y.f0 y.f1 hok)
 exact spec_ChangesRight.calls k y.f0 A c y.f1 _ W hC hc hk
theorem sill_c (z : Int) (W : World) : Calls Tryz.prog 108 #[.int .i64 z] W fun e w' => ∃ A c B b, e = .returned (.agg #[.int .i64 0, .slice A 0 c, .slice B 0 b, .int .i64 z]) ∧ Below W.heap.size W w' := by
 refine (spec_l08Ill.calls z 0 [] [] z W rfl).mono ?_
 rintro e w' ⟨v, u, rfl, hR, hS, hb⟩
 obtain ⟨A', c', rfl⟩ := Kd.R_slice hR
 obtain ⟨B', b', rfl⟩ := Kd.R_slice hS
 exact ⟨A', c', B', b', rfl, hb⟩
theorem C_nil0 (W : World) (A : Option Addr) : Kd.C k145 W A 0 [] := ⟨rfl, by decide, fun h => absurd h (Nat.lt_irrefl 0)⟩
end Go.Proofs.YtmkpgddfoaglpaaGreatDoor.PG
