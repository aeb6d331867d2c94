/-
  The program's RowsSince as a plain function: the later rows, put in order one by one. Condition: the rows' size.
-/
import Derived.Test.YthapodlehfblgaaDoorRSP5
import Derived.Test.YthapodlehfblgaaDoorRSRowsSinceB
namespace Go.Proofs.YthapodlehfblgaaDoor.PG
set_option linter.unusedVariables false
set_option linter.unusedSimpArgs false
open Go.RowKit Go.Proofs.YthapodlehfblgaaDoorW.PrintWords Go.Proofs.YthapodlehfblgaaDoorW.PrintLast Go.Proofs.YthapodlehfblgaaDoorW.PrintMore Go.Proofs.YthapodlehfblgaaDoor.Gn Go.Proofs.YthapodlehfblgaaDoor.Sem

/-- A row put among others, ahead of the first whose number isn't smaller. -/
def insU (x : S55) : List S55 → List S55
  | [] => [x]
  | y :: r => if y.f5 < x.f5 then y :: insU x r else x :: y :: r
def isortU (l : List S55) : List S55 := l.foldl (fun acc x => insU x acc) []
theorem insU_perm (x : S55) : ∀ l, (insU x l).Perm (x :: l)
  | [] => List.Perm.refl _
  | y :: r => by
    unfold insU
    split
    · exact ((insU_perm x r).cons y).trans (List.Perm.swap x y r)
    · exact List.Perm.refl _
theorem insU_mem (x y : S55) (l : List S55) : y ∈ insU x l ↔ y = x ∨ y ∈ l := by rw [(insU_perm x l).mem_iff, List.mem_cons]
theorem insU_len (x : S55) (l : List S55) : (insU x l).length = l.length + 1 := by rw [(insU_perm x l).length_eq]; rfl
theorem insU_sorted (x : S55) : ∀ l : List S55, l.Pairwise (fun a b => a.f5 ≤ b.f5) → (insU x l).Pairwise (fun a b => a.f5 ≤ b.f5)
  | [], _ => List.pairwise_singleton _ _
  | y :: r, h => by
    rw [List.pairwise_cons] at h
    unfold insU
    split
    · rename_i hlt
      rw [List.pairwise_cons]
      refine ⟨fun z hz => ?_, insU_sorted x r h.2⟩
      rcases (insU_mem x z r).1 hz with rfl | hz
      · omega
      · exact h.1 z hz
    · rename_i hlt
      rw [List.pairwise_cons, List.pairwise_cons]
      refine ⟨fun z hz => ?_, h⟩
      rcases List.mem_cons.1 hz with rfl | hz
      · omega
      · have := h.1 z hz
        omega
theorem isortU_facts : ∀ (l acc : List S55), acc.Pairwise (fun a b => a.f5 ≤ b.f5) → (l.foldl (fun acc x => insU x acc) acc).Perm (acc ++ l) ∧ (l.foldl (fun acc x => insU x acc) acc).Pairwise (fun a b => a.f5 ≤ b.f5)
  | [], acc, h => by simpa using h
  | x :: l, acc, h => by
    obtain ⟨h1, h2⟩ := isortU_facts l (insU x acc) (insU_sorted x acc h)
    exact ⟨h1.trans (((insU_perm x acc).append_right l).trans List.perm_middle.symm), h2⟩
theorem isortU_perm (l : List S55) : (isortU l).Perm l := by
  unfold isortU
  simpa using (isortU_facts l [] List.Pairwise.nil).1
theorem isortU_sorted (l : List S55) : (isortU l).Pairwise (fun a b => a.f5 ≤ b.f5) := (isortU_facts l [] List.Pairwise.nil).2
def Usns (l : List S55) : Prop := l.Pairwise (fun a b => a.f5 ≠ b.f5)
theorem usn_uniq : ∀ {l1 l2 : List S55}, l1.Perm l2 → Usns l1 → l1.Pairwise (fun a b => a.f5 ≤ b.f5) → l2.Pairwise (fun a b => a.f5 ≤ b.f5) → l1 = l2
  | [], l2, hp, _, _, _ => (List.nil_perm.1 hp).symm
  | a :: s, [], hp, _, _, _ => absurd hp.length_eq (by simp)
  | a :: s, b :: t, hp, hu, h1, h2 => by
    have hu2 : Usns (b :: t) := (hp.pairwise_iff (fun h => Ne.symm h)).1 hu
    have hu' := hu
    unfold Usns at hu hu2
    rw [List.pairwise_cons] at hu h1 h2 hu2
    have hab : a = b := by
      rcases List.mem_cons.1 (hp.mem_iff.1 (List.mem_cons_self (a := a) (l := s))) with h3 | h3
      · exact h3
      rcases List.mem_cons.1 (hp.mem_iff.2 (List.mem_cons_self (a := b) (l := t))) with h4 | h4
      · exact h4.symm
      have e1 := h1.1 b h4
      have e2 := h2.1 a h3
      exact absurd (show a.f5 = b.f5 by omega) (hu.1 b h4)
    subst hab
    rw [usn_uniq (List.Perm.cons_inv hp) hu.2 h1.2 h2.2]
theorem table_usns {a b : Int} {l : List S55} (h : tableB a b l = true) : Usns l := by
  unfold tableB at h
  simp only [Bool.and_eq_true, List.all_eq_true, List.mem_range] at h
  unfold Usns
  rw [List.pairwise_iff_getElem]
  intro i j hi hj hij
  have h1 := h.2.2.2 j hj
  unfold atB at h1
  simp only [Bool.and_eq_true, List.all_eq_true, List.mem_range] at h1
  have h2 := h1.2 i hij
  unfold pairB at h2
  have e1 : rd_T55 l (i : Int) = l[i]'hi := by
    unfold rd_T55
    rw [Int.toNat_natCast, getD_at hi]
  have e2 : rd_T55 l (j : Int) = l[j]'hj := by
    unfold rd_T55
    rw [Int.toNat_natCast, getD_at hj]
  rw [e1, e2] at h2
  intro he
  simp [he] at h2
theorem since_usns (a b usn : Int) (l : List S55) : Usns (sinceL a b usn l) := by
  unfold sinceL
  split
  · rename_i h
    split
    · exact List.Pairwise.nil
    · exact (table_usns h).sublist List.filter_sublist
  · exact List.Pairwise.nil
abbrev TO2 := Int × Int × List S55 × Int × ByteArray × ByteArray × ByteArray × Bool × Int × Bool × List S55 × Int
def sinceV (a b usn : Int) (l : List S55) : TO2 := (0, 0, [], 0, ⟨#[]⟩, ⟨#[]⟩, ⟨#[]⟩, false, 0, false, isortU (sinceL a b usn l), sinceC a b usn l)
/-- The program's RowsSince, where the walk speaks. -/
def impl_RowsSince.f (a0_0 a0_1 : Int) (l0_2 : List S55) (a1 : Int) : Option TO2 := if l0_2.length * 80 ≤ 140737488355328 then some (sinceV a0_0 a0_1 a1 l0_2) else none
theorem impl_RowsSince.calls (a0_0 a0_1 : Int) (A0_2 : Option Addr) (c0_2 : Nat) (l0_2 : List S55) (a1 : Int) (r1 r2 : Int) (r3 : List S55) (r4 : Int) (r5 r6 r7 : ByteArray) (r8 : Bool) (r9 : Int) (r10 : Bool) (r11 : List S55) (r12 : Int) (w : World) (hr0_2 : Kd.C k55 w A0_2 l0_2.length l0_2) (hc0_2 : l0_2.length ≤ c0_2) (h : impl_RowsSince.f a0_0 a0_1 l0_2 a1 = some (r1, r2, r3, r4, r5, r6, r7, r8, r9, r10, r11, r12)) :
    Calls Tryd.prog 24 #[.agg #[.int .i64 a0_0, .int .i64 a0_1, .slice A0_2 l0_2.length c0_2], .int .i64 a1] w fun e w' => ∃ v2_ v10_ : Value, e = .returned (.agg #[.int .i64 r1, .int .i64 r2, v2_, .int .i64 r4, .string r5, .string r6, .string r7, .bool r8, .int .i64 r9, .bool r10, v10_, .int .i64 r12]) ∧ Kd.R k55 55 w' w.heap.size (fun k_ => some k_ ≠ (v10_ : Value).ownBlock) v2_ r3 ∧ Kd.R k55 55 w' w.heap.size (fun k_ => some k_ ≠ (v2_ : Value).ownBlock) v10_ r11 ∧ Below w.heap.size w w' := by
  unfold impl_RowsSince.f at h
  by_cases hl : l0_2.length * 80 ≤ 140737488355328
  · rw [if_pos hl] at h
    have hc := rowsSince_walk a0_0 a0_1 a1 A0_2 c0_2 l0_2 w hr0_2 hc0_2 hl
    have hu := since_usns a0_0 a0_1 a1 l0_2
    unfold sinceV at h
    generalize sinceL a0_0 a0_1 a1 l0_2 = s at h hc hu
    generalize sinceC a0_0 a0_1 a1 l0_2 = cd at h hc
    simp only [Option.some.injEq, Prod.mk.injEq] at h
    obtain ⟨rfl, rfl, rfl, rfl, rfl, rfl, rfl, rfl, rfl, rfl, rfl, rfl⟩ := h
    refine hc.mono ?_
    rintro e w' ⟨A, c, l', rfl, hp, hs, hR, hb⟩
    have he : l' = isortU s := usn_uniq (hp.trans (isortU_perm s).symm) ((hp.pairwise_iff (fun h => Ne.symm h)).2 hu) hs (isortU_sorted s)
    subst he
    exact ⟨_, _, rfl, Kd.R_nil _ _ _ _ _, Kd.R_mono hR (fun k _ => by simp [Value.ownBlock]), hb⟩
  · rw [if_neg hl] at h
    cases h
end Go.Proofs.YthapodlehfblgaaDoor.PG
