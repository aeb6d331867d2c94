/-
  A number drawn from a source's state, walked by hand. Condition: the place is within the bytes.
-/
import Derived.BigRegion
import Derived.Deep.RegionHeld3
import Derived.Test.YtfikhgiiccbbfaaFBP1
namespace Go.Proofs.Ytfikhgiiccbbfaa.PG
set_option linter.unusedVariables false
set_option linter.unusedSimpArgs false
open Go.RowKit Go.Proofs.YtfikhgiiccbbfaaW.PrintWords Go.Proofs.YtfikhgiiccbbfaaW.PrintLast Go.Proofs.YtfikhgiiccbbfaaW.PrintMore
theorem set_set (w : World) (a : Addr) (v u : Value) : (w.setCell a v).setCell a u = w.setCell a u := by
  obtain ⟨blk, off, sp⟩ := a
  unfold World.setCell
  congr 1
  apply Array.ext
  · simp
  · intro i h1 h2
    simp only [Array.getElem_modify]
    split
    · cases hx : w.heap[i]'(by simpa using h2) with
      | cells c e f => simp only []; split <;> simp
      | _ => rfl
    · rfl
attribute [local go_sem] set_set max2_int min2_int max_two min_two max_three min_three max_four min_four World.cell?_drew World.frozen?_drew

/-- One turn of a source's mix. -/
def turnN (m : Int) : Int :=
  Go.bits .xor .u64 (Go.bits .xor .u64 (Go.bits .xor .u64 m (IntKind.u64.wrap (m * 8192))) (Go.bits .xor .u64 m (IntKind.u64.wrap (m * 8192)) / 128)) (IntKind.u64.wrap (Go.bits .xor .u64 (Go.bits .xor .u64 m (IntKind.u64.wrap (m * 8192))) (Go.bits .xor .u64 m (IntKind.u64.wrap (m * 8192)) / 128) * 131072))
def spec_l01Src_n.f (s0_0 : List Int) (s0_1 s0_2 s0_3 a1 : Int) : Option (Int × Int × Int × Int) :=
  if a1 ≤ 1 then some (0, s0_1, s0_2, s0_3)
  else if IntKind.u64.wrap a1 = 0 then none
  else if s0_1 < (s0_0.length : Int) then
    (if 0 ≤ s0_1 then some (wrap64 ((IntKind.u64.wrap (IntKind.u64.wrap (rd s0_0 s0_1) + turnN s0_2 / 1048576)).tmod (IntKind.u64.wrap a1)), wrap64 (s0_1 + 1), turnN s0_2, s0_3) else none)
  else some (wrap64 ((IntKind.u64.wrap (turnN s0_2 / 1048576)).tmod (IntKind.u64.wrap a1)), s0_1, turnN s0_2, s0_3)
set_option maxHeartbeats 4000000 in
set_option maxRecDepth 100000 in
theorem spec_l01Src_n.calls (g : Nat) (s0_0 : List Int) (s0_1 : Int) (s0_2 : Int) (s0_3 : Int) (a1 : Int) (r1 : Int) (r2 : Int) (r3 : Int) (r4 : Int) (w0 w : World) (hI : IsS105 w0 w g s0_0 s0_1 s0_2 s0_3) (hB : Below w0.heap.size w0 w) (h : spec_l01Src_n.f s0_0 s0_1 s0_2 s0_3 a1 = some (r1, r2, r3, r4)) :
    Calls Try.prog 38 #[.pointer (some ⟨g, 0, none⟩), .int .i64 a1] w fun e w' => e = .returned (.int .i64 r1) ∧ IsS105 w0 w' g s0_0 r2 r3 r4 ∧ Below w0.heap.size w0 w' ∧ KeepBut w w' g none := by
  have HI := Aside0.mk hI
  have HB := Aside0.mk hB
  obtain ⟨A0, c0, hb, hg, hr0⟩ := hI
  have q0 : w.cell? ⟨g, 0, none⟩ = some (.slice A0 s0_0.length c0) := (blk_cell hb 0).trans rfl
  have q1 : w.cell? ⟨g, 1, none⟩ = some (.int .i64 s0_1) := (blk_cell hb 1).trans rfl
  have q2 : w.cell? ⟨g, 2, none⟩ = some (.int .u64 s0_2) := (blk_cell hb 2).trans rfl
  have q3 : w.cell? ⟨g, 3, none⟩ = some (.int .i64 s0_3) := (blk_cell hb 3).trans rfl
  have y0 := blk_frozen hb 0
  have y1 := blk_frozen hb 1
  have y2 := blk_frozen hb 2
  have y3 := blk_frozen hb 3
  have HR0 := Aside0.mk hr0
  have HG := Aside0.mk hg
  clear hb hr0 hB hg
  unfold spec_l01Src_n.f at h
  by_cases h1 : a1 ≤ 1
  · rw [if_pos h1] at h
    injection h with h
    injection h with e1 h
    injection h with e2 h
    injection h with e3 e4
    subst e1 e2 e3 e4
    go_enter Try.func38, Try.ntmps38
    go_wp2
    go_ret
    exact ⟨rfl, HI.out, HB.out, KeepBut.refl w g none⟩
  rw [if_neg h1] at h
  by_cases hz : IntKind.u64.wrap a1 = 0
  · rw [if_pos hz] at h
    cases h
  rw [if_neg hz] at h
  by_cases hlt : s0_1 < (s0_0.length : Int)
  · rw [if_pos hlt] at h
    by_cases hp : 0 ≤ s0_1
    · rw [if_pos hp] at h
      have H := Aside0.mk h
      clear h
      obtain ⟨ad, ead, hx⟩ := Kd.at_int HR0.out s0_1 hp hlt
      subst ead
      have hx1 := HB.out.cell (World.block_lt_of_cell? _ _ hx)
      rw [hx] at hx1
      have hne : ad.block ≠ g := by
        have h1_ := World.block_lt_of_cell? _ _ hx
        have h2_ := HG.out
        have h3_ : (ad.add s0_1.toNat).block = ad.block := by unfold Addr.add; split <;> rfl
        rw [h3_] at h1_
        omega
      clear hx
      go_enter Try.func38, Try.ntmps38
      go_wp2
      go_region
      go_wp2
      go_region
      go_wp2
      go_region
      go_wp2
      go_region
      go_wp2
      go_region
      go_wp2
      have h := H.out
      clear H
      injection h with h
      injection h with e1 h
      injection h with e2 h
      injection h with e3 e4
      subst e1 e2 e3 e4
      unfold turnN
      go_ret
      refine ⟨rfl, IsS105.drew (IsS105.drew (IsS105.drew (IsS105.drew (IsS105.drew (IsS105.set_2 (IsS105.set_1 HI.out _) _))))), ?_, ?_⟩
      · exact below_drew1 (below_drew1 (below_drew1 (below_drew1 (below_drew1 (below_set (below_set HB.out HG.out) HG.out)))))
      · exact keep_drew (keep_drew (keep_drew (keep_drew (keep_drew (KeepBut.set_ (KeepBut.set_ (KeepBut.refl w g none) 1 _) 2 _)))))
    · rw [if_neg hp] at h
      cases h
  · rw [if_neg hlt] at h
    injection h with h
    injection h with e1 h
    injection h with e2 h
    injection h with e3 e4
    subst e1 e2 e3 e4
    unfold turnN
    go_enter Try.func38, Try.ntmps38
    go_wp2
    go_region
    go_wp2
    go_region
    go_wp2
    go_region
    go_wp2
    go_region
    go_wp2
    go_ret
    refine ⟨rfl, IsS105.drew (IsS105.drew (IsS105.drew (IsS105.drew (IsS105.set_2 HI.out _)))), ?_, ?_⟩
    · exact below_drew1 (below_drew1 (below_drew1 (below_drew1 (below_set HB.out HG.out))))
    · exact keep_drew (keep_drew (keep_drew (keep_drew (KeepBut.set_ (KeepBut.refl w g none) 2 _))))
end Go.Proofs.Ytfikhgiiccbbfaa.PG
