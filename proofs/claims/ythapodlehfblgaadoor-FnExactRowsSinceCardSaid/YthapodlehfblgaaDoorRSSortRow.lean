/-
  slices.SortFunc on []Row by the number: what the row holds behind it: a sorted permutation. Condition: fewer elements than 2^62.
-/
import Derived.Shelf.SlSortCmp.WholeK
import Derived.Shelf.SlSortCmp.NoneTotal
import Derived.Test.YthapodlehfblgaaDoorRSSortOps
import Derived.Test.YthapodlehfblgaaDoorRSLaySortRow
namespace Go.Proofs.YthapodlehfblgaaDoor.PG
set_option linter.unusedVariables false
set_option linter.unusedSimpArgs false
open Go.RowKit Go.Proofs.YthapodlehfblgaaDoorW.PrintWords Go.Proofs.YthapodlehfblgaaDoorW.PrintLast Go.Proofs.YthapodlehfblgaaDoorW.PrintMore Go.Proofs.YthapodlehfblgaaDoor.Gn Go.Sort
attribute [local go_sem] max2_int min2_int max_two min_two max_three min_three max_four min_four
def cmpI (a b : Int) : Int := if a < b then -1 else if a > b then 1 else 0
set_option maxHeartbeats 1000000 in
theorem isNaN_walk (a : Int) (w : World) : Calls Tryd.prog 118 #[.int .i64 a] w fun e w' => e = .returned (.bool false) ∧ w' = w := by
  go_enter Tryd.func118, Tryd.ntmps118
  go_wp2
  go_ret
  exact ⟨by simp, rfl⟩
set_option maxHeartbeats 1000000 in
theorem cmpInt_walk (a b : Int) (w : World) : Calls Tryd.prog 90 #[.int .i64 a, .int .i64 b] w fun e w' => e = .returned (.int .i64 (cmpI a b)) ∧ w' = w := by
  unfold cmpI
  by_cases h1 : a < b
  · rw [if_pos h1]
    go_enter Tryd.func90, Tryd.ntmps90
    go_wp2_with (go_at_call 118; refine (isNaN_walk _ _).mono ?_; rintro e w' ⟨rfl, rfl⟩)
    go_ret
    exact ⟨rfl, rfl⟩
  · rw [if_neg h1]
    by_cases h2 : a > b
    · rw [if_pos h2]
      go_enter Tryd.func90, Tryd.ntmps90
      go_wp2_with (go_at_call 118; refine (isNaN_walk _ _).mono ?_; rintro e w' ⟨rfl, rfl⟩)
      go_ret
      exact ⟨rfl, rfl⟩
    · rw [if_neg h2]
      go_enter Tryd.func90, Tryd.ntmps90
      go_wp2_with (go_at_call 118; refine (isNaN_walk _ _).mono ?_; rintro e w' ⟨rfl, rfl⟩)
      go_ret
      exact ⟨rfl, rfl⟩
def encRow (x : S55) : List Value := [.int .i64 x.f0, .string x.f1, .string x.f2, .string x.f3, .bool x.f4, .int .i64 x.f5, .bool x.f6]
theorem grow_two (W : World) (a b : Obj) : (W.alloc a).alloc b = grow (W.drewN 0) #[a, b] := by
  unfold grow World.alloc World.drewN
  simp only [World.mk.injEq, and_true, true_and]
  rw [← Array.toList_inj]
  simp
set_option maxHeartbeats 1000000 in
theorem rs2_walk (x y : S55) (W : World) : Calls Tryd.prog 89 (#[.agg (encRow x).toArray, .agg (encRow y).toArray] ++ #[]) W fun e w' => e = .returned (.int .i64 (cmpI x.f5 y.f5)) ∧ ∃ q os', w' = grow (W.drewN q) os' := by
  obtain ⟨p0, p1, p2, p3, p4, p5, p6⟩ := x
  obtain ⟨q0, q1, q2, q3, q4, q5, q6⟩ := y
  show Calls Tryd.prog _ #[.agg #[.int .i64 p0, .string p1, .string p2, .string p3, .bool p4, .int .i64 p5, .bool p6], .agg #[.int .i64 q0, .string q1, .string q2, .string q3, .bool q4, .int .i64 q5, .bool q6]] W _
  go_enter Tryd.func89, Tryd.ntmps89
  go_wp2_with (go_at_call 90; refine (cmpInt_walk _ _ _).mono ?_; rintro e w' ⟨rfl, rfl⟩)
  go_ret
  exact ⟨rfl, 0, _, grow_two W _ _⟩
theorem flat_row : Flat k55 encRow := ⟨fun _ => rfl, fun x v hv => by
  unfold encRow at hv
  simp only [List.mem_cons, List.not_mem_nil, or_false] at hv
  rcases hv with rfl | rfl | rfl | rfl | rfl | rfl | rfl <;> rfl, fun W base ok x => k55_mkM W base ok x, fun h => k55_openM h⟩
instance : Inhabited S55 := ⟨z55⟩
def usnC (x y : S55) : Int := cmpI x.f5 y.f5
theorem usn_lt (x y : S55) : ltOf usnC x y = decide (x.f5 < y.f5) := by
  unfold ltOf usnC cmpI
  by_cases h : x.f5 < y.f5
  · simp [h]
  · by_cases h2 : x.f5 > y.f5
    · simp [h, h2]
    · simp [h, h2]
theorem usn_swo : SWO (ltOf usnC) := by
  refine ⟨fun x => ?_, fun x y z h1 h2 => ?_, fun x y z h1 h2 => ?_⟩
  · rw [usn_lt]; simp
  · rw [usn_lt, decide_eq_true_eq] at *; omega
  · rw [usn_lt, decide_eq_false_iff_not] at *; omega
theorem enters_89 : ∀ args w, (callFunc 89 args).run Tryd.prog w = .ok (.enter 89 args) w := enters_of Tryd.func89 (by kernel_rfl) rfl
def RetSort (base : Nat) (ok : Nat → Prop) (A : Option Addr) (c : Nat) (l : List S55) (w : World) (e : Ending) (w' : World) : Prop :=
  e = .returned (.tuple #[]) ∧ ∃ l', l'.Perm l ∧ l'.Pairwise (fun x y => x.f5 ≤ y.f5) ∧ Kd.R k55 55 w' base ok (.slice A l.length c) l' ∧ Below base w w' ∧ Kept w w' (fun k => ∃ ad, A = some ad ∧ ad.block = k)
theorem sort_rows (A : Option Addr) (c : Nat) (l : List S55) (w : World) (base : Nat) (ok : Nat → Prop) (hR : Kd.R k55 55 w base ok (.slice A l.length c) l) (hn : l.length < 4611686018427387904) :
    Calls Tryd.prog 88 #[.slice A l.length c, .func (.func 89) #[] #[]] w (RetSort base ok A c l w) := by
  have hR0 := hR
  obtain ⟨_, hlc, hC⟩ := Kd.R_reads' hR
  obtain ⟨hok, inner, ⟨ho1, ho2⟩, hr⟩ := hR
  rcases ho2 with ⟨hv, hx⟩ | ⟨g, cap', cur, hv, hb, hh, hnc', hcm, hcs, ht⟩
  · injection hv with hA h2 h3
    subst hA
    rw [h2] at hR0 ⊢
    obtain rfl : l = [] := List.eq_nil_of_length_eq_zero h2
    refine (AnyF.slices_SortFunc_none Tryd.sortRow none c _ w).mono ?_
    rintro e w' ⟨rfl, rfl⟩
    exact ⟨rfl, [], List.Perm.refl _, List.Pairwise.nil, hR0, Below.refl _ _, Kept.refl _ _⟩
  · injection hv with hA h2 h3
    subst hA
    subst h3
    have hsz : l.toArray.size = l.length := by simp
    have hcmp : CmpLays Tryd.prog 89 #[] encRow 7 usnC g 0 l.toArray.size w := fun m os dk _ x y => rs2_walk x y _
    have hH : HoldsK encRow 7 w g 0 l.toArray := holds_row flat_row (show 0 < k55.sz by decide) hR0
    have hc := AnyQ.slices_SortFunc Tryd.sortRow 7 Tryd.isAgg55 Tryd.sizeOf55 encRow (fun _ => rfl) flat_row.one usnC usn_swo 89 #[] g 0 c l.toArray w enters_89 hcmp hH (blk_lt hh) (by rw [hsz]; exact hn)
    rw [hsz] at hc
    refine hc.mono ?_
    rintro e w' ⟨rfl, d', n, os, hp, hs, rfl⟩
    obtain ⟨hd, _, hpm⟩ := hp
    rw [hsz] at hd
    obtain ⟨hR1, hb1, hk1⟩ := sorted_row flat_row (show 0 < k55.sz by decide) hR0 d' hd n os
    refine ⟨rfl, d'.toList, ?_, ?_, hR1, hb1, hk1.mono fun k hk => ⟨_, rfl, hk.symm⟩⟩
    · have e1 : (d'.extract 0 l.length).toList = d'.toList := by rw [← hd]; simp
      have e2 : (l.toArray.extract 0 l.length).toList = l := by simp
      rw [e1, e2] at hpm
      exact hpm
    · rw [List.pairwise_iff_getElem]
      intro i j hi hj hij
      simp only [Array.length_toList] at hi hj
      have := hs i j (Nat.zero_le _) hij (by omega)
      rw [usn_lt, decide_eq_false_iff_not, getElem!_pos d' i hi, getElem!_pos d' j hj] at this
      simp only [Array.getElem_toList]
      omega
end Go.Proofs.YthapodlehfblgaaDoor.PG
