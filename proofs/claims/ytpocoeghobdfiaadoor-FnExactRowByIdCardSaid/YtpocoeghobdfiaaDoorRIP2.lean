/-
  Functions that the law reaches, each as a plain Lean function, with the proof that the call comes to it (written by a program of this session by way of the kit's print program). Conditions: what each contract states.
-/
import Derived.Test.YtpocoeghobdfiaaDoorRIP1
import Derived.Test.YtpocoeghobdfiaaDoorRISq
-- WRITTEN BY A PROGRAM OF THIS SESSION (wip/gen/gen.py), by way of the kit's print program. Lean checks it.
namespace Go.Proofs.YtpocoeghobdfiaaDoor.PG
open Go.Proofs.YtpocoeghobdfiaaDoor.Sq Go.RowKit Go.Proofs.YtpocoeghobdfiaaDoorW.PrintWords Go.Proofs.YtpocoeghobdfiaaDoorW.PrintLast Go.Proofs.YtpocoeghobdfiaaDoorW.PrintMore
attribute [local go_sem] max2_int min2_int max_two min_two max_three min_three max_four min_four   -- for this text's walks alone
set_option linter.unusedVariables false
set_option linter.unusedSimpArgs false

/-! ### spec_TableRight: function 58 -/
mutual
def spec_TableRight.j0 : Nat → Bool → Int → Int → List (S34) → Option (Bool)
  | 0, _, _, _, _ => none
  | k + 1, x21, x198000, x198001, x198002 => if x21 = true then (some false) else (spec_TableRight.l0 k 0 x198000 x198001 x198002)
def spec_TableRight.l0 : Nat → Int → Int → Int → List (S34) → Option (Bool)
  | 0, _, _, _, _ => none
  | k + 1, x3, x198000, x198001, x198002 => if x3 < (x198002.length : Int) then (if 0 ≤ x3 then ((spec_l12Row.f k ((rd_T34 x198002 x3).f0) ((rd_T34 x198002 x3).f1) ((rd_T34 x198002 x3).f2) ((rd_T34 x198002 x3).f3) ((rd_T34 x198002 x3).f4) ((rd_T34 x198002 x3).f5) ((rd_T34 x198002 x3).f6)).bind fun t202 => (if t202 = true then ((spec_l02Is.f ((rd_T34 x198002 x3).f0) 1 (wrap64 (x198000 - 1))).bind fun t203 => (if t203 = true then (if x3 > 0 then (if 0 ≤ (wrap64 (x3 - 1)) then (if (wrap64 (x3 - 1)) < (x198002.length : Int) then (if ((rd_T34 x198002 (wrap64 (x3 - 1))).f0) ≥ ((rd_T34 x198002 x3).f0) then (spec_TableRight.j2 k x3 true x198000 x198001 x198002 ((rd_T34 x198002 x3).f0) ((rd_T34 x198002 x3).f1) ((rd_T34 x198002 x3).f2) ((rd_T34 x198002 x3).f3) ((rd_T34 x198002 x3).f4) ((rd_T34 x198002 x3).f5) ((rd_T34 x198002 x3).f6)) else ((spec_l02Is.f ((rd_T34 x198002 x3).f5) 1 x198001).bind fun t205 => (spec_TableRight.j2 k x3 (!t205) x198000 x198001 x198002 ((rd_T34 x198002 x3).f0) ((rd_T34 x198002 x3).f1) ((rd_T34 x198002 x3).f2) ((rd_T34 x198002 x3).f3) ((rd_T34 x198002 x3).f4) ((rd_T34 x198002 x3).f5) ((rd_T34 x198002 x3).f6)))) else (none)) else (none)) else ((spec_l02Is.f ((rd_T34 x198002 x3).f5) 1 x198001).bind fun t206 => (spec_TableRight.j2 k x3 (!t206) x198000 x198001 x198002 ((rd_T34 x198002 x3).f0) ((rd_T34 x198002 x3).f1) ((rd_T34 x198002 x3).f2) ((rd_T34 x198002 x3).f3) ((rd_T34 x198002 x3).f4) ((rd_T34 x198002 x3).f5) ((rd_T34 x198002 x3).f6)))) else (spec_TableRight.j2 k x3 true x198000 x198001 x198002 ((rd_T34 x198002 x3).f0) ((rd_T34 x198002 x3).f1) ((rd_T34 x198002 x3).f2) ((rd_T34 x198002 x3).f3) ((rd_T34 x198002 x3).f4) ((rd_T34 x198002 x3).f5) ((rd_T34 x198002 x3).f6)))) else (spec_TableRight.j2 k x3 true x198000 x198001 x198002 ((rd_T34 x198002 x3).f0) ((rd_T34 x198002 x3).f1) ((rd_T34 x198002 x3).f2) ((rd_T34 x198002 x3).f3) ((rd_T34 x198002 x3).f4) ((rd_T34 x198002 x3).f5) ((rd_T34 x198002 x3).f6)))) else (none)) else (some true)
def spec_TableRight.j2 : Nat → Int → Bool → Int → Int → List (S34) → Int → ByteArray → ByteArray → ByteArray → Bool → Int → Bool → Option (Bool)
  | 0, _, _, _, _, _, _, _, _, _, _, _, _ => none
  | k + 1, x3, x69, x198000, x198001, x198002, x202000, x202001, x202002, x202003, x202004, x202005, x202006 => if x69 = true then (some false) else (spec_TableRight.l1 k x3 0 x198000 x198001 x198002 x202000 x202001 x202002 x202003 x202004 x202005 x202006)
def spec_TableRight.l1 : Nat → Int → Int → Int → Int → List (S34) → Int → ByteArray → ByteArray → ByteArray → Bool → Int → Bool → Option (Bool)
  | 0, _, _, _, _, _, _, _, _, _, _, _, _ => none
  | k + 1, x3, x5, x198000, x198001, x198002, x202000, x202001, x202002, x202003, x202004, x202005, x202006 => if x5 < x3 then (if 0 ≤ x5 then (if x5 < (x198002.length : Int) then (if ((rd_T34 x198002 x5).f5) = x202005 then (some false) else (if ((rd_T34 x198002 x5).f6 = true) then (spec_TableRight.l1 k x3 (wrap64 (x5 + 1)) x198000 x198001 x198002 x202000 x202001 x202002 x202003 x202004 x202005 x202006) else (if x202006 = true then (spec_TableRight.l1 k x3 (wrap64 (x5 + 1)) x198000 x198001 x198002 x202000 x202001 x202002 x202003 x202004 x202005 x202006) else (if ((rd_T34 x198002 x5).f1).toList = x202001.toList then (some false) else (spec_TableRight.l1 k x3 (wrap64 (x5 + 1)) x198000 x198001 x198002 x202000 x202001 x202002 x202003 x202004 x202005 x202006))))) else (none)) else (none)) else (spec_TableRight.l0 k (wrap64 (x3 + 1)) x198000 x198001 x198002)
end
def spec_TableRight.f (k : Nat) (a0_0 : Int) (a0_1 : Int) (l0_2 : List (S34)) : Option (Bool) := (spec_l02Is.f a0_0 1 1000000).bind fun t198 => (if t198 = true then ((spec_l02Is.f a0_1 0 1000000).bind fun t199 => (if t199 = true then (spec_TableRight.j0 k (decide ((l0_2.length : Int) > 20)) a0_0 a0_1 l0_2) else (spec_TableRight.j0 k true a0_0 a0_1 l0_2))) else (spec_TableRight.j0 k true a0_0 a0_1 l0_2))
theorem spec_TableRight.mono_l : ∀ k, (∀ y0 y1 y2 y3, LeO (spec_TableRight.j0 k y0 y1 y2 y3) (spec_TableRight.j0 (k + 1) y0 y1 y2 y3)) ∧ (∀ y0 y1 y2 y3, LeO (spec_TableRight.l0 k y0 y1 y2 y3) (spec_TableRight.l0 (k + 1) y0 y1 y2 y3)) ∧ (∀ y0 y1 y2 y3 y4 y5 y6 y7 y8 y9 y10 y11, LeO (spec_TableRight.j2 k y0 y1 y2 y3 y4 y5 y6 y7 y8 y9 y10 y11) (spec_TableRight.j2 (k + 1) y0 y1 y2 y3 y4 y5 y6 y7 y8 y9 y10 y11)) ∧ (∀ y0 y1 y2 y3 y4 y5 y6 y7 y8 y9 y10 y11, LeO (spec_TableRight.l1 k y0 y1 y2 y3 y4 y5 y6 y7 y8 y9 y10 y11) (spec_TableRight.l1 (k + 1) y0 y1 y2 y3 y4 y5 y6 y7 y8 y9 y10 y11))
  | 0 => ⟨fun _ _ _ _ r h => by simp [spec_TableRight.j0] at h, fun _ _ _ _ r h => by simp [spec_TableRight.l0] at h, fun _ _ _ _ _ _ _ _ _ _ _ _ r h => by simp [spec_TableRight.j2] at h, fun _ _ _ _ _ _ _ _ _ _ _ _ r h => by simp [spec_TableRight.l1] at h⟩
  | k + 1 => by
    obtain ⟨ih0, ih1, ih2, ih3⟩ := spec_TableRight.mono_l k
    refine ⟨?_, ?_, ?_, ?_⟩
    · intro y0 y1 y2 y3
      unfold spec_TableRight.j0
      repeat' first
      | (with_reducible exact ih0 _ _ _ _)
      | (with_reducible exact ih1 _ _ _ _)
      | (with_reducible exact ih2 _ _ _ _ _ _ _ _ _ _ _ _)
      | (with_reducible exact ih3 _ _ _ _ _ _ _ _ _ _ _ _)
      | (with_reducible exact spec_l12Row.mono _ _ _ _ _ _ _ _)
      | (with_reducible exact LeO.refl _)
      | (with_reducible exact LeO.none _)
      | (with_reducible refine LeO.ite ?_ ?_)
      | (with_reducible refine LeO.bind ?_ (fun _ => ?_))
      | exact ih0 _ _ _ _
      | exact ih1 _ _ _ _
      | exact ih2 _ _ _ _ _ _ _ _ _ _ _ _
      | exact ih3 _ _ _ _ _ _ _ _ _ _ _ _
      | exact spec_l12Row.mono _ _ _ _ _ _ _ _
      | exact LeO.none _
      | refine LeO.ite ?_ ?_
      | refine LeO.bind ?_ (fun _ => ?_)
    · intro y0 y1 y2 y3
      unfold spec_TableRight.l0
      repeat' first
      | (with_reducible exact ih0 _ _ _ _)
      | (with_reducible exact ih1 _ _ _ _)
      | (with_reducible exact ih2 _ _ _ _ _ _ _ _ _ _ _ _)
      | (with_reducible exact ih3 _ _ _ _ _ _ _ _ _ _ _ _)
      | (with_reducible exact spec_l12Row.mono _ _ _ _ _ _ _ _)
      | (with_reducible exact LeO.refl _)
      | (with_reducible exact LeO.none _)
      | (with_reducible refine LeO.ite ?_ ?_)
      | (with_reducible refine LeO.bind ?_ (fun _ => ?_))
      | exact ih0 _ _ _ _
      | exact ih1 _ _ _ _
      | exact ih2 _ _ _ _ _ _ _ _ _ _ _ _
      | exact ih3 _ _ _ _ _ _ _ _ _ _ _ _
      | exact spec_l12Row.mono _ _ _ _ _ _ _ _
      | exact LeO.none _
      | refine LeO.ite ?_ ?_
      | refine LeO.bind ?_ (fun _ => ?_)
    · intro y0 y1 y2 y3 y4 y5 y6 y7 y8 y9 y10 y11
      unfold spec_TableRight.j2
      repeat' first
      | (with_reducible exact ih0 _ _ _ _)
      | (with_reducible exact ih1 _ _ _ _)
      | (with_reducible exact ih2 _ _ _ _ _ _ _ _ _ _ _ _)
      | (with_reducible exact ih3 _ _ _ _ _ _ _ _ _ _ _ _)
      | (with_reducible exact spec_l12Row.mono _ _ _ _ _ _ _ _)
      | (with_reducible exact LeO.refl _)
      | (with_reducible exact LeO.none _)
      | (with_reducible refine LeO.ite ?_ ?_)
      | (with_reducible refine LeO.bind ?_ (fun _ => ?_))
      | exact ih0 _ _ _ _
      | exact ih1 _ _ _ _
      | exact ih2 _ _ _ _ _ _ _ _ _ _ _ _
      | exact ih3 _ _ _ _ _ _ _ _ _ _ _ _
      | exact spec_l12Row.mono _ _ _ _ _ _ _ _
      | exact LeO.none _
      | refine LeO.ite ?_ ?_
      | refine LeO.bind ?_ (fun _ => ?_)
    · intro y0 y1 y2 y3 y4 y5 y6 y7 y8 y9 y10 y11
      unfold spec_TableRight.l1
      repeat' first
      | (with_reducible exact ih0 _ _ _ _)
      | (with_reducible exact ih1 _ _ _ _)
      | (with_reducible exact ih2 _ _ _ _ _ _ _ _ _ _ _ _)
      | (with_reducible exact ih3 _ _ _ _ _ _ _ _ _ _ _ _)
      | (with_reducible exact spec_l12Row.mono _ _ _ _ _ _ _ _)
      | (with_reducible exact LeO.refl _)
      | (with_reducible exact LeO.none _)
      | (with_reducible refine LeO.ite ?_ ?_)
      | (with_reducible refine LeO.bind ?_ (fun _ => ?_))
      | exact ih0 _ _ _ _
      | exact ih1 _ _ _ _
      | exact ih2 _ _ _ _ _ _ _ _ _ _ _ _
      | exact ih3 _ _ _ _ _ _ _ _ _ _ _ _
      | exact spec_l12Row.mono _ _ _ _ _ _ _ _
      | exact LeO.none _
      | refine LeO.ite ?_ ?_
      | refine LeO.bind ?_ (fun _ => ?_)
theorem spec_TableRight.mono : ∀ a0 a1 a2 k, LeO (spec_TableRight.f k a0 a1 a2) (spec_TableRight.f (k + 1) a0 a1 a2) := by
  intro a0 a1 a2 k
  obtain ⟨ih0, ih1, ih2, ih3⟩ := spec_TableRight.mono_l k
  unfold spec_TableRight.f
  repeat' first
      | (with_reducible exact ih0 _ _ _ _)
      | (with_reducible exact ih1 _ _ _ _)
      | (with_reducible exact ih2 _ _ _ _ _ _ _ _ _ _ _ _)
      | (with_reducible exact ih3 _ _ _ _ _ _ _ _ _ _ _ _)
      | (with_reducible exact spec_l12Row.mono _ _ _ _ _ _ _ _)
      | (with_reducible exact LeO.refl _)
      | (with_reducible exact LeO.none _)
      | (with_reducible refine LeO.ite ?_ ?_)
      | (with_reducible refine LeO.bind ?_ (fun _ => ?_))
      | exact ih0 _ _ _ _
      | exact ih1 _ _ _ _
      | exact ih2 _ _ _ _ _ _ _ _ _ _ _ _
      | exact ih3 _ _ _ _ _ _ _ _ _ _ _ _
      | exact spec_l12Row.mono _ _ _ _ _ _ _ _
      | exact LeO.none _
      | refine LeO.ite ?_ ?_
      | refine LeO.bind ?_ (fun _ => ?_)
def spec_TableRight.T7 : Bool × List (List Nat × List Nat) := (true, [([], []), ([0], [0]), ([1], [1]), ([2, 1], [2]), ([3], [3]), ([4, 3], [3, 4]), ([3], [3]), ([6, 3], [3, 6]), ([7, 3], [3, 7]), ([5, 8, 3, 3], [3, 5, 8]), ([9, 3], [3, 9]), ([3, 10], [3, 10]), ([11, 9], [11]), ([12], [12]), ([13, 12], [12, 13]), ([14, 12, 12], [12, 14]), ([15], [15]), ([16, 15], [15, 16]), ([15], [15]), ([18, 15], [15, 18]), ([17, 19, 15], [15, 17, 19]), ([20, 15], [15, 20]), ([21, 15], [15, 21]), ([15], [15]), ([23, 15], [15, 23]), ([22, 24, 15], [15, 22, 24]), ([15, 25, 12], [12, 15, 25]), ([12, 26], [12, 26]), ([27, 15], [27]), ([28], [28]), ([29, 28], [28, 29]), ([28], [28]), ([31, 28], [28, 31]), ([30, 32, 28, 28], [28, 30, 32]), ([33, 28], [28, 33]), ([28, 34], [28, 34])])
def spec_TableRight.B7 : List Nat := [0, 1, 3, 7, 15, 31, 15, 79, 207, 511, 1023, 2047, 4095, 8191, 16383, 32767, 65535, 131071, 65535, 327679, 1048575, 2097151, 4194303, 65535, 8454143, 33554431, 67108863, 134217727, 268435455, 536870911, 1073741823, 536870911, 2684354559, 8589934591, 17179869183, 34359738367]
theorem spec_TableRight.tab7 : rtab .any (opsOf Tryd.f58 7) = spec_TableRight.T7 := by kernel_rfl
theorem spec_TableRight.bits7 : waitsOk spec_TableRight.T7.2 spec_TableRight.B7 = true := by kernel_rfl
def spec_TableRight.T12 : Bool × List (List Nat × List Nat) := (true, [([], []), ([0], [0]), ([], []), ([1, 2], [1, 2]), ([3], [3]), ([4], [4]), ([], []), ([6], [6]), ([5, 7], [5, 7]), ([8], [8]), ([9], [9]), ([10, 9], [9, 10]), ([9], [9]), ([11, 12, 9], [9, 11, 12]), ([13, 9], [9, 13]), ([14, 9], [9, 14]), ([15, 9], [9, 15]), ([16, 9, 9], [9, 16]), ([17], [17]), ([18, 17], [17, 18]), ([19, 17], [17, 19]), ([17, 20, 9], [9, 17, 20]), ([21, 17, 9], [9, 21]), ([22], [22]), ([23, 22], [22, 23]), ([22], [22]), ([24, 25, 22], [22, 24, 25]), ([26, 22], [22, 26]), ([27, 22], [22, 27]), ([22], [22]), ([29, 22], [22, 29]), ([28, 30, 22], [22, 28, 30]), ([22, 31, 9], [9, 22, 31]), ([9, 32], [9, 32])])
def spec_TableRight.B12 : List Nat := [0, 1, 0, 7, 15, 31, 0, 64, 255, 511, 1023, 2047, 1023, 8191, 16383, 32767, 65535, 131071, 262143, 524287, 1048575, 2097151, 4194303, 8388607, 16777215, 8388607, 67108863, 134217727, 268435455, 8388607, 545259519, 2147483647, 4294967295, 8589934591]
theorem spec_TableRight.tab12 : rtab .any (opsOf Tryd.f58 12) = spec_TableRight.T12 := by kernel_rfl
theorem spec_TableRight.bits12 : waitsOk spec_TableRight.T12.2 spec_TableRight.B12 = true := by kernel_rfl
set_option maxHeartbeats 8000000 in
set_option maxRecDepth 100000 in
theorem spec_TableRight.calls (k : Nat) (a0_0 : Int) (a0_1 : Int) (A0_2 : Option Addr) (c0_2 : Nat) (l0_2 : List (S34)) (r : Bool) (w : World) (hr0_2 : Kd.C k34 w A0_2 l0_2.length l0_2) (hc0_2 : l0_2.length ≤ c0_2) (h : spec_TableRight.f k a0_0 a0_1 l0_2 = some r) :
    Calls Tryd.prog 58 #[.agg #[.int .i64 a0_0, .int .i64 a0_1, .slice A0_2 l0_2.length c0_2]] w fun e w' => e = .returned (.bool r) ∧ Below w.heap.size w w' := by
  have hu38 := Tryd.underlying38
  have hu34 := Tryd.underlying34
  have HR0_2 := Aside0.mk hr0_2
  have HC0_2 := Aside0.mk hc0_2
  clear hr0_2 hc0_2
  have HB := Aside0.mk (Below.refl w.heap.size w)
  have H : ((spec_l02Is.f a0_0 1 1000000).bind fun t198 => (if t198 = true then ((spec_l02Is.f a0_1 0 1000000).bind fun t199 => (if t199 = true then (spec_TableRight.j0 k (decide ((l0_2.length : Int) > 20)) a0_0 a0_1 l0_2) else (spec_TableRight.j0 k true a0_0 a0_1 l0_2))) else (spec_TableRight.j0 k true a0_0 a0_1 l0_2))) = some r := h
  clear h
  have HC2 := Aside0.mk H
  clear H
  go_enter Tryd.func58, Tryd.ntmps58
  go_upto_region 1 with (first | ((with_reducible refine gate_dst (N := 1) rfl ?_); (try (refine gate_guard (by rfl) ?_; dsimp only)); refine box_event ?hg (N := 1) ?hd (cs := #[.int .i64 a0_0, .int .i64 a0_1, .slice A0_2 l0_2.length c0_2]) (t := 38) ?hr ?_; (case hd => rfl); (case hg => rfl); (case hr => first | (go_simp; done) | (go_simp; rfl)); intro gb197 hg w3 hbox hb; have n0_ := Aside0.mk (below_step By hb); have n1_ := Aside0.mk (hbox); have n2_ := Aside0.mk ((by rw [hg]; exact (below_size By) : w.heap.size ≤ gb197)); have n3_ := Aside0.mk ((by rw [hg]; exact (below_size By) : w.heap.size ≤ gb197)); clear HB; have HB := n0_; have BK197 := n1_; have GW197 := n2_; have GE197 := n3_; clear n0_ n1_ n2_ n3_; clear hb hbox hg))
  (try simp only [Act.put, List.setIfInBounds_toArray, List.set_cons_zero, List.set_cons_succ])
  go_cut [21] (fun v21 wc => ∃ (kq : Nat) (x21_1 : Bool), v21 = .bool x21_1 ∧ Aside0 (spec_TableRight.j0 kq x21_1 a0_0 a0_1 l0_2 = some r) ∧ Aside0 (kq ≤ k) ∧ Aside0 (wc.heap[gb197]? = some (.cells #[.int .i64 a0_0, .int .i64 a0_1, (.slice A0_2 l0_2.length c0_2)] 38 (0, 0))) ∧ Aside0 (Below w.heap.size w wc))
  case first =>
    have H := HC2.out
    clear HC2
    replace H := Option.bind_eq_some_iff.mp H
    obtain ⟨t198, A40, H⟩ := H
    replace H : (if t198 = true then ((spec_l02Is.f a0_1 0 1000000).bind fun t199 => (if t199 = true then (spec_TableRight.j0 k (decide ((l0_2.length : Int) > 20)) a0_0 a0_1 l0_2) else (spec_TableRight.j0 k true a0_0 a0_1 l0_2))) else (spec_TableRight.j0 k true a0_0 a0_1 l0_2)) = some r := H
    have A4 := Aside0.mk A40
    clear A40
    by_cases c5 : t198 = true
    · subst c5
      have H1 : ((spec_l02Is.f a0_1 0 1000000).bind fun t199 => (if t199 = true then (spec_TableRight.j0 k (decide ((l0_2.length : Int) > 20)) a0_0 a0_1 l0_2) else (spec_TableRight.j0 k true a0_0 a0_1 l0_2))) = some r := by rw [if_pos rfl] at H; exact H
      clear H
      have H := H1
      clear H1
      replace H := Option.bind_eq_some_iff.mp H
      obtain ⟨t199, A60, H⟩ := H
      replace H : (if t199 = true then (spec_TableRight.j0 k (decide ((l0_2.length : Int) > 20)) a0_0 a0_1 l0_2) else (spec_TableRight.j0 k true a0_0 a0_1 l0_2)) = some r := H
      have A6 := Aside0.mk A60
      clear A60
      by_cases c7 : t199 = true
      · subst c7
        have H1 : (spec_TableRight.j0 k (decide ((l0_2.length : Int) > 20)) a0_0 a0_1 l0_2) = some r := by rw [if_pos rfl] at H; exact H
        clear H
        have H := H1
        clear H1
        have H' := Aside0.mk H
        clear H
        have hcz8_0 : w3.cell? ⟨gb197, 0, none⟩ = some (.int .i64 a0_0) := bc BK197.out 0
        have hcz8_1 : w3.cell? ⟨gb197, 1, none⟩ = some (.int .i64 a0_1) := bc BK197.out 1
        have hcz8_2 : w3.cell? ⟨gb197, 2, none⟩ = some (.slice A0_2 l0_2.length c0_2) := bc BK197.out 2
        have hfz8_0 := blk_frozen BK197.out 0
        have hfz8_1 := blk_frozen BK197.out 1
        have hfz8_2 := blk_frozen BK197.out 2
        go_wp2_with (first | ((with_reducible refine gate_callee (f := 74) rfl ?_); refine goesL_ (some 8) rfl rfl Tryd.func74 (by kernel_rfl) rfl #[.int .i64 a0_0, .int .i64 1, .int .i64 1000000] rfl Ag ?_; (with_reducible refine (spec_l02Is.calls a0_0 1 1000000 true _ A4.out).mono ?_); rintro e w' ⟨rfl, ⟨nd, rfl⟩⟩; refine ⟨_, rfl, ?_⟩) | (go_at_call 74; (with_reducible refine (spec_l02Is.calls a0_1 0 1000000 true _ A6.out).mono ?_); rintro e w' ⟨rfl, ⟨nd, rfl⟩⟩))
        go_meet
        case rel => exact ⟨_, (decide ((l0_2.length : Int) > 20)), (by first | rfl | (simp; done) | (simp [*]; done)), H', ⟨by first | omega | exact Nat.le_refl _⟩, ⟨by (with_reducible repeat (first | refine blk_drewN ?_ _ | refine blk_drew ?_ | refine blk_alloc ?_ _)); exact BK197.out⟩, ⟨By⟩⟩
      · replace c7 := Bool.eq_false_iff.mpr c7
        subst c7
        have H1 : (spec_TableRight.j0 k true a0_0 a0_1 l0_2) = some r := by rw [if_neg (show ¬ (false = true) by decide)] at H; exact H
        clear H
        have H := H1
        clear H1
        have H' := Aside0.mk H
        clear H
        have hcz9_0 : w3.cell? ⟨gb197, 0, none⟩ = some (.int .i64 a0_0) := bc BK197.out 0
        have hcz9_1 : w3.cell? ⟨gb197, 1, none⟩ = some (.int .i64 a0_1) := bc BK197.out 1
        have hcz9_2 : w3.cell? ⟨gb197, 2, none⟩ = some (.slice A0_2 l0_2.length c0_2) := bc BK197.out 2
        have hfz9_0 := blk_frozen BK197.out 0
        have hfz9_1 := blk_frozen BK197.out 1
        have hfz9_2 := blk_frozen BK197.out 2
        go_wp2_with (first | ((with_reducible refine gate_callee (f := 74) rfl ?_); refine goesL_ (some 8) rfl rfl Tryd.func74 (by kernel_rfl) rfl #[.int .i64 a0_0, .int .i64 1, .int .i64 1000000] rfl Ag ?_; (with_reducible refine (spec_l02Is.calls a0_0 1 1000000 true _ A4.out).mono ?_); rintro e w' ⟨rfl, ⟨nd, rfl⟩⟩; refine ⟨_, rfl, ?_⟩) | (go_at_call 74; (with_reducible refine (spec_l02Is.calls a0_1 0 1000000 false _ A6.out).mono ?_); rintro e w' ⟨rfl, ⟨nd, rfl⟩⟩))
        go_meet
        case rel => exact ⟨_, (true), (by first | rfl | (simp; done) | (simp [*]; done)), H', ⟨by first | omega | exact Nat.le_refl _⟩, ⟨by (with_reducible repeat (first | refine blk_drewN ?_ _ | refine blk_drew ?_ | refine blk_alloc ?_ _)); exact BK197.out⟩, ⟨By⟩⟩
    · replace c5 := Bool.eq_false_iff.mpr c5
      subst c5
      have H1 : (spec_TableRight.j0 k true a0_0 a0_1 l0_2) = some r := by rw [if_neg (show ¬ (false = true) by decide)] at H; exact H
      clear H
      have H := H1
      clear H1
      have H' := Aside0.mk H
      clear H
      have hcz10_0 : w3.cell? ⟨gb197, 0, none⟩ = some (.int .i64 a0_0) := bc BK197.out 0
      have hcz10_1 : w3.cell? ⟨gb197, 1, none⟩ = some (.int .i64 a0_1) := bc BK197.out 1
      have hcz10_2 : w3.cell? ⟨gb197, 2, none⟩ = some (.slice A0_2 l0_2.length c0_2) := bc BK197.out 2
      have hfz10_0 := blk_frozen BK197.out 0
      have hfz10_1 := blk_frozen BK197.out 1
      have hfz10_2 := blk_frozen BK197.out 2
      go_wp2_with (first | ((with_reducible refine gate_callee (f := 74) rfl ?_); refine goesL_ (some 8) rfl rfl Tryd.func74 (by kernel_rfl) rfl #[.int .i64 a0_0, .int .i64 1, .int .i64 1000000] rfl Ag ?_; (with_reducible refine (spec_l02Is.calls a0_0 1 1000000 false _ A4.out).mono ?_); rintro e w' ⟨rfl, ⟨nd, rfl⟩⟩; refine ⟨_, rfl, ?_⟩))
      go_meet
      case rel => exact ⟨_, (true), (by first | rfl | (simp; done) | (simp [*]; done)), H', ⟨by first | omega | exact Nat.le_refl _⟩, ⟨by (with_reducible repeat (first | refine blk_drewN ?_ _ | refine blk_drew ?_ | refine blk_alloc ?_ _)); exact BK197.out⟩, ⟨By⟩⟩
  case rest =>
    clear HC2
    try clear p2
    try clear c5
    try clear c7
    try clear hcz10_0
    try clear hcz10_1
    try clear hcz10_2
    try clear hcz8_0
    try clear hcz8_1
    try clear hcz8_2
    try clear hcz9_0
    try clear hcz9_1
    try clear hcz9_2
    try clear hfz10_0
    try clear hfz10_1
    try clear hfz10_2
    try clear hfz8_0
    try clear hfz8_1
    try clear hfz8_2
    try clear hfz9_0
    try clear hfz9_1
    try clear hfz9_2
    obtain ⟨kq, x21_1, rfl, HA, HJ1, BK197, HB⟩ := hcut
    cases kq with
    | zero => exact absurd HA.out (by simp [spec_TableRight.j0])
    | succ kj1 =>
      have H := HA.out
      clear HA
      simp only [spec_TableRight.j0] at H
      by_cases c11 : x21_1 = true
      · subst c11
        have H1 : (some false) = some r := by rw [if_pos rfl] at H; exact H
        clear H
        have H := H1
        clear H1
        obtain rfl := Option.some.inj H
        go_wp2
        go_ret
        exact ⟨Rf, By⟩
      · replace c11 := Bool.eq_false_iff.mpr c11
        subst c11
        have H1 : (spec_TableRight.l0 kj1 0 a0_0 a0_1 l0_2) = some r := by rw [if_neg (show ¬ (false = true) by decide)] at H; exact H
        clear H
        have H := H1
        clear H1
        have H' := Aside0.mk H
        clear H
        go_wp2
        go_loopg [3] kj1 (fun kq v3 w' => ∃ (x3_2 : Int), v3 = .int .i64 x3_2 ∧ Aside0 (spec_TableRight.l0 kq x3_2 a0_0 a0_1 l0_2 = some r) ∧ Aside0 (kq ≤ kj1) ∧ Aside0 (w'.heap[gb197]? = some (.cells #[.int .i64 a0_0, .int .i64 a0_1, (.slice A0_2 l0_2.length c0_2)] 38 (0, 0))) ∧ Aside0 (Below w.heap.size w w'))
        case atStart => exact ⟨(0), (by first | rfl | (simp; done) | (simp [*]; done)), H', ⟨Nat.le_refl _⟩, ⟨by (with_reducible repeat (first | refine blk_drewN ?_ _ | refine blk_drew ?_ | refine blk_alloc ?_ _)); exact BK197.out⟩, ⟨By⟩⟩
        case round =>
          clear H'
          try clear c1
          try clear p2
          try clear c5
          try clear c7
          try clear c11
          try clear hcz10_0
          try clear hcz10_1
          try clear hcz10_2
          try clear hcz8_0
          try clear hcz8_1
          try clear hcz8_2
          try clear hcz9_0
          try clear hcz9_1
          try clear hcz9_2
          try clear hfz10_0
          try clear hfz10_1
          try clear hfz10_2
          try clear hfz8_0
          try clear hfz8_1
          try clear hfz8_2
          try clear hfz9_0
          try clear hfz9_1
          try clear hfz9_2
          try clear p2
          obtain ⟨x3_2, rfl, HA, HK2, BK197, HB⟩ := hrel
          cases gk with
          | zero => exact absurd HA.out (by simp [spec_TableRight.l0])
          | succ k2 =>
            have H := HA.out
            clear HA
            simp only [spec_TableRight.l0] at H
            by_cases c12 : x3_2 < (l0_2.length : Int)
            · rw [if_pos c12] at H
              have c12b0 : decide (x3_2 < (l0_2.length : Int)) = true := decide_eq_true c12
              clear c12
              by_cases c13 : 0 ≤ x3_2
              · rw [if_pos c13] at H
                have c13b0 : decide (0 ≤ x3_2) = true := decide_eq_true c13
                clear c13
                have HC14 := Aside0.mk H
                clear H
                have hcz15_0 : wr.cell? ⟨gb197, 0, none⟩ = some (.int .i64 a0_0) := bc BK197.out 0
                have hcz15_1 : wr.cell? ⟨gb197, 1, none⟩ = some (.int .i64 a0_1) := bc BK197.out 1
                have hcz15_2 : wr.cell? ⟨gb197, 2, none⟩ = some (.slice A0_2 l0_2.length c0_2) := bc BK197.out 2
                have hfz15_0 := blk_frozen BK197.out 0
                have hfz15_1 := blk_frozen BK197.out 1
                have hfz15_2 := blk_frozen BK197.out 2
                have p200 : 0 ≤ (x3_2 : Int) := of_decide_eq_true Da
                have q200 : x3_2 < (l0_2.length : Int) := of_decide_eq_true Da
                obtain ⟨ad200, e200, hx200_0, hx200_1, hx200_2, hx200_3, hx200_4, hx200_5, hx200_6⟩ := at_T34 HR0_2.out x3_2 p200 q200
                cases e200
                replace hx200_0 := bz HB.out hx200_0
                replace hx200_1 := bz HB.out hx200_1
                replace hx200_2 := bz HB.out hx200_2
                replace hx200_3 := bz HB.out hx200_3
                replace hx200_4 := bz HB.out hx200_4
                replace hx200_5 := bz HB.out hx200_5
                replace hx200_6 := bz HB.out hx200_6
                replace p200 := eq_true p200
                replace q200 := eq_true q200
                go_upto_region 7 with (first | ((with_reducible refine gate_dst (N := 4) rfl ?_); (try (refine gate_guard (by rfl) ?_; dsimp only)); refine box_event ?hg (N := 4) ?hd (cs := #[.int .i64 0, .string (⟨#[]⟩ : ByteArray), .string (⟨#[]⟩ : ByteArray), .string (⟨#[]⟩ : ByteArray), .bool false, .int .i64 0, .bool false]) (t := 34) ?hr ?_; (case hd => rfl); (case hg => rfl); (case hr => first | (go_simp; done) | (go_simp; rfl)); intro gb201 hg w16 hbox hb; have n0_ := Aside0.mk (bb BK197.out hb); have n1_ := Aside0.mk (below_step By hb); have n2_ := Aside0.mk (hbox); have n3_ := Aside0.mk ((by rw [hg]; exact (below_size By) : w.heap.size ≤ gb201)); have n4_ := Aside0.mk ((by rw [hg]; exact (below_size By) : w.heap.size ≤ gb201)); have n5_ := Aside0.mk ((by rw [hg]; exact Nat.ne_of_lt (bl BK197.out) : gb197 ≠ gb201)); have n6_ := Aside0.mk ((by rw [hg]; exact Nat.ne_of_gt (bl BK197.out) : gb201 ≠ gb197)); clear BK197; clear HB; have BK197 := n0_; have HB := n1_; have BK201 := n2_; have GW201 := n3_; have GE201 := n4_; have NB197_201 := n5_; have NB201_197 := n6_; clear n0_ n1_ n2_ n3_ n4_ n5_ n6_; clear hb hbox hg; have hnb17 := NB201_197.out; have hnc17 := NB197_201.out; have ⟨hcz18_0, hcz18_1, hcz18_2, hcz18_3, hcz18_4, hcz18_5, hcz18_6⟩ := cq7 BK201.out; have ⟨hfz18_0, hfz18_1, hfz18_2, hfz18_3, hfz18_4, hfz18_5, hfz18_6⟩ := fq7 BK201.out))
                (try simp only [Act.put, List.setIfInBounds_toArray, List.set_cons_zero, List.set_cons_succ])
                go_cut [69] (fun v69 wc => ∃ (kq : Nat) (x69_13 : Bool), v69 = .bool x69_13 ∧ Aside0 (spec_TableRight.j2 kq x3_2 x69_13 a0_0 a0_1 l0_2 ((rd_T34 l0_2 x3_2).f0) ((rd_T34 l0_2 x3_2).f1) ((rd_T34 l0_2 x3_2).f2) ((rd_T34 l0_2 x3_2).f3) ((rd_T34 l0_2 x3_2).f4) ((rd_T34 l0_2 x3_2).f5) ((rd_T34 l0_2 x3_2).f6) = some r) ∧ Aside0 (kq ≤ k2) ∧ Aside0 (wc.heap[gb197]? = some (.cells #[.int .i64 a0_0, .int .i64 a0_1, (.slice (some ad200) l0_2.length c0_2)] 38 (0, 0))) ∧ Aside0 (wc.heap[gb201]? = some (.cells #[.int .i64 ((rd_T34 l0_2 x3_2).f0), .string ((rd_T34 l0_2 x3_2).f1), .string ((rd_T34 l0_2 x3_2).f2), .string ((rd_T34 l0_2 x3_2).f3), .bool ((rd_T34 l0_2 x3_2).f4), .int .i64 ((rd_T34 l0_2 x3_2).f5), .bool ((rd_T34 l0_2 x3_2).f6)] 34 (0, 0))) ∧ Aside0 (Below w.heap.size w wc))
                case first =>
                  have H := HC14.out
                  clear HC14
                  replace H := Option.bind_eq_some_iff.mp H
                  obtain ⟨t202, A190, H⟩ := H
                  replace H : (if t202 = true then ((spec_l02Is.f ((rd_T34 l0_2 x3_2).f0) 1 (wrap64 (a0_0 - 1))).bind fun t203 => (if t203 = true then (if x3_2 > 0 then (if 0 ≤ (wrap64 (x3_2 - 1)) then (if (wrap64 (x3_2 - 1)) < (l0_2.length : Int) then (if ((rd_T34 l0_2 (wrap64 (x3_2 - 1))).f0) ≥ ((rd_T34 l0_2 x3_2).f0) then (spec_TableRight.j2 k2 x3_2 true a0_0 a0_1 l0_2 ((rd_T34 l0_2 x3_2).f0) ((rd_T34 l0_2 x3_2).f1) ((rd_T34 l0_2 x3_2).f2) ((rd_T34 l0_2 x3_2).f3) ((rd_T34 l0_2 x3_2).f4) ((rd_T34 l0_2 x3_2).f5) ((rd_T34 l0_2 x3_2).f6)) else ((spec_l02Is.f ((rd_T34 l0_2 x3_2).f5) 1 a0_1).bind fun t205 => (spec_TableRight.j2 k2 x3_2 (!t205) a0_0 a0_1 l0_2 ((rd_T34 l0_2 x3_2).f0) ((rd_T34 l0_2 x3_2).f1) ((rd_T34 l0_2 x3_2).f2) ((rd_T34 l0_2 x3_2).f3) ((rd_T34 l0_2 x3_2).f4) ((rd_T34 l0_2 x3_2).f5) ((rd_T34 l0_2 x3_2).f6)))) else (none)) else (none)) else ((spec_l02Is.f ((rd_T34 l0_2 x3_2).f5) 1 a0_1).bind fun t206 => (spec_TableRight.j2 k2 x3_2 (!t206) a0_0 a0_1 l0_2 ((rd_T34 l0_2 x3_2).f0) ((rd_T34 l0_2 x3_2).f1) ((rd_T34 l0_2 x3_2).f2) ((rd_T34 l0_2 x3_2).f3) ((rd_T34 l0_2 x3_2).f4) ((rd_T34 l0_2 x3_2).f5) ((rd_T34 l0_2 x3_2).f6)))) else (spec_TableRight.j2 k2 x3_2 true a0_0 a0_1 l0_2 ((rd_T34 l0_2 x3_2).f0) ((rd_T34 l0_2 x3_2).f1) ((rd_T34 l0_2 x3_2).f2) ((rd_T34 l0_2 x3_2).f3) ((rd_T34 l0_2 x3_2).f4) ((rd_T34 l0_2 x3_2).f5) ((rd_T34 l0_2 x3_2).f6)))) else (spec_TableRight.j2 k2 x3_2 true a0_0 a0_1 l0_2 ((rd_T34 l0_2 x3_2).f0) ((rd_T34 l0_2 x3_2).f1) ((rd_T34 l0_2 x3_2).f2) ((rd_T34 l0_2 x3_2).f3) ((rd_T34 l0_2 x3_2).f4) ((rd_T34 l0_2 x3_2).f5) ((rd_T34 l0_2 x3_2).f6))) = some r := H
                  have A19 := Aside0.mk A190
                  clear A190
                  by_cases c20 : t202 = true
                  · subst c20
                    have H1 : ((spec_l02Is.f ((rd_T34 l0_2 x3_2).f0) 1 (wrap64 (a0_0 - 1))).bind fun t203 => (if t203 = true then (if x3_2 > 0 then (if 0 ≤ (wrap64 (x3_2 - 1)) then (if (wrap64 (x3_2 - 1)) < (l0_2.length : Int) then (if ((rd_T34 l0_2 (wrap64 (x3_2 - 1))).f0) ≥ ((rd_T34 l0_2 x3_2).f0) then (spec_TableRight.j2 k2 x3_2 true a0_0 a0_1 l0_2 ((rd_T34 l0_2 x3_2).f0) ((rd_T34 l0_2 x3_2).f1) ((rd_T34 l0_2 x3_2).f2) ((rd_T34 l0_2 x3_2).f3) ((rd_T34 l0_2 x3_2).f4) ((rd_T34 l0_2 x3_2).f5) ((rd_T34 l0_2 x3_2).f6)) else ((spec_l02Is.f ((rd_T34 l0_2 x3_2).f5) 1 a0_1).bind fun t205 => (spec_TableRight.j2 k2 x3_2 (!t205) a0_0 a0_1 l0_2 ((rd_T34 l0_2 x3_2).f0) ((rd_T34 l0_2 x3_2).f1) ((rd_T34 l0_2 x3_2).f2) ((rd_T34 l0_2 x3_2).f3) ((rd_T34 l0_2 x3_2).f4) ((rd_T34 l0_2 x3_2).f5) ((rd_T34 l0_2 x3_2).f6)))) else (none)) else (none)) else ((spec_l02Is.f ((rd_T34 l0_2 x3_2).f5) 1 a0_1).bind fun t206 => (spec_TableRight.j2 k2 x3_2 (!t206) a0_0 a0_1 l0_2 ((rd_T34 l0_2 x3_2).f0) ((rd_T34 l0_2 x3_2).f1) ((rd_T34 l0_2 x3_2).f2) ((rd_T34 l0_2 x3_2).f3) ((rd_T34 l0_2 x3_2).f4) ((rd_T34 l0_2 x3_2).f5) ((rd_T34 l0_2 x3_2).f6)))) else (spec_TableRight.j2 k2 x3_2 true a0_0 a0_1 l0_2 ((rd_T34 l0_2 x3_2).f0) ((rd_T34 l0_2 x3_2).f1) ((rd_T34 l0_2 x3_2).f2) ((rd_T34 l0_2 x3_2).f3) ((rd_T34 l0_2 x3_2).f4) ((rd_T34 l0_2 x3_2).f5) ((rd_T34 l0_2 x3_2).f6)))) = some r := by rw [if_pos rfl] at H; exact H
                    clear H
                    have H := H1
                    clear H1
                    replace H := Option.bind_eq_some_iff.mp H
                    obtain ⟨t203, A210, H⟩ := H
                    replace H : (if t203 = true then (if x3_2 > 0 then (if 0 ≤ (wrap64 (x3_2 - 1)) then (if (wrap64 (x3_2 - 1)) < (l0_2.length : Int) then (if ((rd_T34 l0_2 (wrap64 (x3_2 - 1))).f0) ≥ ((rd_T34 l0_2 x3_2).f0) then (spec_TableRight.j2 k2 x3_2 true a0_0 a0_1 l0_2 ((rd_T34 l0_2 x3_2).f0) ((rd_T34 l0_2 x3_2).f1) ((rd_T34 l0_2 x3_2).f2) ((rd_T34 l0_2 x3_2).f3) ((rd_T34 l0_2 x3_2).f4) ((rd_T34 l0_2 x3_2).f5) ((rd_T34 l0_2 x3_2).f6)) else ((spec_l02Is.f ((rd_T34 l0_2 x3_2).f5) 1 a0_1).bind fun t205 => (spec_TableRight.j2 k2 x3_2 (!t205) a0_0 a0_1 l0_2 ((rd_T34 l0_2 x3_2).f0) ((rd_T34 l0_2 x3_2).f1) ((rd_T34 l0_2 x3_2).f2) ((rd_T34 l0_2 x3_2).f3) ((rd_T34 l0_2 x3_2).f4) ((rd_T34 l0_2 x3_2).f5) ((rd_T34 l0_2 x3_2).f6)))) else (none)) else (none)) else ((spec_l02Is.f ((rd_T34 l0_2 x3_2).f5) 1 a0_1).bind fun t206 => (spec_TableRight.j2 k2 x3_2 (!t206) a0_0 a0_1 l0_2 ((rd_T34 l0_2 x3_2).f0) ((rd_T34 l0_2 x3_2).f1) ((rd_T34 l0_2 x3_2).f2) ((rd_T34 l0_2 x3_2).f3) ((rd_T34 l0_2 x3_2).f4) ((rd_T34 l0_2 x3_2).f5) ((rd_T34 l0_2 x3_2).f6)))) else (spec_TableRight.j2 k2 x3_2 true a0_0 a0_1 l0_2 ((rd_T34 l0_2 x3_2).f0) ((rd_T34 l0_2 x3_2).f1) ((rd_T34 l0_2 x3_2).f2) ((rd_T34 l0_2 x3_2).f3) ((rd_T34 l0_2 x3_2).f4) ((rd_T34 l0_2 x3_2).f5) ((rd_T34 l0_2 x3_2).f6))) = some r := H
                    have A21 := Aside0.mk A210
                    clear A210
                    by_cases c22 : t203 = true
                    · subst c22
                      have H1 : (if x3_2 > 0 then (if 0 ≤ (wrap64 (x3_2 - 1)) then (if (wrap64 (x3_2 - 1)) < (l0_2.length : Int) then (if ((rd_T34 l0_2 (wrap64 (x3_2 - 1))).f0) ≥ ((rd_T34 l0_2 x3_2).f0) then (spec_TableRight.j2 k2 x3_2 true a0_0 a0_1 l0_2 ((rd_T34 l0_2 x3_2).f0) ((rd_T34 l0_2 x3_2).f1) ((rd_T34 l0_2 x3_2).f2) ((rd_T34 l0_2 x3_2).f3) ((rd_T34 l0_2 x3_2).f4) ((rd_T34 l0_2 x3_2).f5) ((rd_T34 l0_2 x3_2).f6)) else ((spec_l02Is.f ((rd_T34 l0_2 x3_2).f5) 1 a0_1).bind fun t205 => (spec_TableRight.j2 k2 x3_2 (!t205) a0_0 a0_1 l0_2 ((rd_T34 l0_2 x3_2).f0) ((rd_T34 l0_2 x3_2).f1) ((rd_T34 l0_2 x3_2).f2) ((rd_T34 l0_2 x3_2).f3) ((rd_T34 l0_2 x3_2).f4) ((rd_T34 l0_2 x3_2).f5) ((rd_T34 l0_2 x3_2).f6)))) else (none)) else (none)) else ((spec_l02Is.f ((rd_T34 l0_2 x3_2).f5) 1 a0_1).bind fun t206 => (spec_TableRight.j2 k2 x3_2 (!t206) a0_0 a0_1 l0_2 ((rd_T34 l0_2 x3_2).f0) ((rd_T34 l0_2 x3_2).f1) ((rd_T34 l0_2 x3_2).f2) ((rd_T34 l0_2 x3_2).f3) ((rd_T34 l0_2 x3_2).f4) ((rd_T34 l0_2 x3_2).f5) ((rd_T34 l0_2 x3_2).f6)))) = some r := by rw [if_pos rfl] at H; exact H
                      clear H
                      have H := H1
                      clear H1
                      by_cases c23 : x3_2 > 0
                      · rw [if_pos c23] at H
                        have c23b0 : decide (0 < x3_2) = true := decide_eq_true c23
                        clear c23
                        (first | rw [c23b0] | (simp only [i64_w, i32_w]; rw [c23b0]) | skip)
                        obtain ⟨ji24, hji24⟩ : ∃ j_ : Int, (wrap64 (x3_2 - 1)) = j_ := ⟨_, rfl⟩
                        replace H : (if 0 ≤ (ji24) then (if (ji24) < (l0_2.length : Int) then (if ((rd_T34 l0_2 (ji24)).f0) ≥ ((rd_T34 l0_2 x3_2).f0) then (spec_TableRight.j2 k2 x3_2 true a0_0 a0_1 l0_2 ((rd_T34 l0_2 x3_2).f0) ((rd_T34 l0_2 x3_2).f1) ((rd_T34 l0_2 x3_2).f2) ((rd_T34 l0_2 x3_2).f3) ((rd_T34 l0_2 x3_2).f4) ((rd_T34 l0_2 x3_2).f5) ((rd_T34 l0_2 x3_2).f6)) else ((spec_l02Is.f ((rd_T34 l0_2 x3_2).f5) 1 a0_1).bind fun t205 => (spec_TableRight.j2 k2 x3_2 (!t205) a0_0 a0_1 l0_2 ((rd_T34 l0_2 x3_2).f0) ((rd_T34 l0_2 x3_2).f1) ((rd_T34 l0_2 x3_2).f2) ((rd_T34 l0_2 x3_2).f3) ((rd_T34 l0_2 x3_2).f4) ((rd_T34 l0_2 x3_2).f5) ((rd_T34 l0_2 x3_2).f6)))) else (none)) else (none)) = some r := by first | (rw [hji24] at H; exact H) | (simp only [hji24] at H ⊢; exact H)
                        (try rw [hji24] at A19)
                        (try rw [hji24] at A21)
                        have hji24w : (IntKind.i64.wrap (x3_2 - 1)) = ji24 := (i64_w _).trans hji24
                        by_cases c25 : 0 ≤ (ji24)
                        · rw [if_pos c25] at H
                          have c25b0 : decide (0 ≤ (ji24)) = true := decide_eq_true c25
                          clear c25
                          by_cases c26 : (ji24) < (l0_2.length : Int)
                          · rw [if_pos c26] at H
                            have c26b0 : decide ((ji24) < (l0_2.length : Int)) = true := decide_eq_true c26
                            clear c26
                            by_cases c27 : ((rd_T34 l0_2 (ji24)).f0) ≥ ((rd_T34 l0_2 x3_2).f0)
                            · rw [if_pos c27] at H
                              have c27b0 : decide (((rd_T34 l0_2 x3_2).f0) ≤ ((rd_T34 l0_2 (ji24)).f0)) = true := decide_eq_true c27
                              clear c27
                              have H' := Aside0.mk H
                              clear H
                              try go_wp2
                              have n0_ : Aside0 ((((((((w16.setCell ⟨gb201, 0, none⟩ (.int .i64 ((rd_T34 l0_2 x3_2).f0))).setCell ⟨gb201, 1, none⟩ (.string ((rd_T34 l0_2 x3_2).f1))).setCell ⟨gb201, 2, none⟩ (.string ((rd_T34 l0_2 x3_2).f2))).setCell ⟨gb201, 3, none⟩ (.string ((rd_T34 l0_2 x3_2).f3))).setCell ⟨gb201, 4, none⟩ (.bool ((rd_T34 l0_2 x3_2).f4))).setCell ⟨gb201, 5, none⟩ (.int .i64 ((rd_T34 l0_2 x3_2).f5))).setCell ⟨gb201, 6, none⟩ (.bool ((rd_T34 l0_2 x3_2).f6))).heap[gb197]? = some (.cells #[.int .i64 a0_0, .int .i64 a0_1, .slice (some ad200) l0_2.length c0_2] 38 (0, 0))) := ⟨Fr⟩
                              have n1_ : Aside0 ((((((((w16.setCell ⟨gb201, 0, none⟩ (.int .i64 ((rd_T34 l0_2 x3_2).f0))).setCell ⟨gb201, 1, none⟩ (.string ((rd_T34 l0_2 x3_2).f1))).setCell ⟨gb201, 2, none⟩ (.string ((rd_T34 l0_2 x3_2).f2))).setCell ⟨gb201, 3, none⟩ (.string ((rd_T34 l0_2 x3_2).f3))).setCell ⟨gb201, 4, none⟩ (.bool ((rd_T34 l0_2 x3_2).f4))).setCell ⟨gb201, 5, none⟩ (.int .i64 ((rd_T34 l0_2 x3_2).f5))).setCell ⟨gb201, 6, none⟩ (.bool ((rd_T34 l0_2 x3_2).f6))).heap[gb201]? = some (.cells #[.int .i64 ((rd_T34 l0_2 x3_2).f0), .string ((rd_T34 l0_2 x3_2).f1), .string ((rd_T34 l0_2 x3_2).f2), .string ((rd_T34 l0_2 x3_2).f3), .bool ((rd_T34 l0_2 x3_2).f4), .int .i64 ((rd_T34 l0_2 x3_2).f5), .bool ((rd_T34 l0_2 x3_2).f6)] 34 (0, 0))) := ⟨(pq7 Pk)⟩
                              have n2_ : Aside0 (Below w.heap.size w (((((((w16.setCell ⟨gb201, 0, none⟩ (.int .i64 ((rd_T34 l0_2 x3_2).f0))).setCell ⟨gb201, 1, none⟩ (.string ((rd_T34 l0_2 x3_2).f1))).setCell ⟨gb201, 2, none⟩ (.string ((rd_T34 l0_2 x3_2).f2))).setCell ⟨gb201, 3, none⟩ (.string ((rd_T34 l0_2 x3_2).f3))).setCell ⟨gb201, 4, none⟩ (.bool ((rd_T34 l0_2 x3_2).f4))).setCell ⟨gb201, 5, none⟩ (.int .i64 ((rd_T34 l0_2 x3_2).f5))).setCell ⟨gb201, 6, none⟩ (.bool ((rd_T34 l0_2 x3_2).f6)))) := ⟨By⟩
                              (try clear BK197)
                              (try clear BK201)
                              (try clear HB)
                              generalize (((((((w16.setCell ⟨gb201, 0, none⟩ (.int .i64 ((rd_T34 l0_2 x3_2).f0))).setCell ⟨gb201, 1, none⟩ (.string ((rd_T34 l0_2 x3_2).f1))).setCell ⟨gb201, 2, none⟩ (.string ((rd_T34 l0_2 x3_2).f2))).setCell ⟨gb201, 3, none⟩ (.string ((rd_T34 l0_2 x3_2).f3))).setCell ⟨gb201, 4, none⟩ (.bool ((rd_T34 l0_2 x3_2).f4))).setCell ⟨gb201, 5, none⟩ (.int .i64 ((rd_T34 l0_2 x3_2).f5))).setCell ⟨gb201, 6, none⟩ (.bool ((rd_T34 l0_2 x3_2).f6))) = w28 at n0_ n1_ n2_ ⊢
                              have BK197 := n0_
                              have BK201 := n1_
                              have HB := n2_
                              clear n0_ n1_ n2_
                              have n0_ := Aside0.mk (blk_drew BK197.out)
                              have n1_ := Aside0.mk (blk_drew BK201.out)
                              have n2_ := Aside0.mk (below_drew1 HB.out)
                              clear BK197
                              clear BK201
                              clear HB
                              have BK197 := n0_
                              have BK201 := n1_
                              have HB := n2_
                              clear n0_ n1_ n2_
                              have p204 : 0 ≤ ((ji24) : Int) := of_decide_eq_true Da
                              have q204 : (ji24) < (l0_2.length : Int) := of_decide_eq_true Da
                              obtain ⟨ad204, e204, hx204_0, hx204_1, hx204_2, hx204_3, hx204_4, hx204_5, hx204_6⟩ := at_T34 HR0_2.out (ji24) p204 q204
                              have hw204_6 := hx204_6
                              have hw204_5 := hx204_5
                              have hw204_4 := hx204_4
                              have hw204_3 := hx204_3
                              have hw204_2 := hx204_2
                              have hw204_1 := hx204_1
                              have hw204_0 := hx204_0
                              obtain rfl : ad200 = ad204 := (by injection e204)
                              replace hx204_0 := bz HB.out hx204_0
                              replace hx204_1 := bz HB.out hx204_1
                              replace hx204_2 := bz HB.out hx204_2
                              replace hx204_3 := bz HB.out hx204_3
                              replace hx204_4 := bz HB.out hx204_4
                              replace hx204_5 := bz HB.out hx204_5
                              replace hx204_6 := bz HB.out hx204_6
                              replace p204 := eq_true p204
                              replace q204 := eq_true q204
                              refine start_ (n := 36) (S := fun w' => w'.cell? ⟨gb201, 0, none⟩ = some (.int .i64 ((rd_T34 l0_2 x3_2).f0)) ∧ w'.cell? ⟨gb201, 1, none⟩ = some (.string ((rd_T34 l0_2 x3_2).f1)) ∧ w'.cell? ⟨gb201, 2, none⟩ = some (.string ((rd_T34 l0_2 x3_2).f2)) ∧ w'.cell? ⟨gb201, 3, none⟩ = some (.string ((rd_T34 l0_2 x3_2).f3)) ∧ w'.cell? ⟨gb201, 4, none⟩ = some (.bool ((rd_T34 l0_2 x3_2).f4)) ∧ w'.cell? ⟨gb201, 5, none⟩ = some (.int .i64 ((rd_T34 l0_2 x3_2).f5)) ∧ w'.cell? ⟨gb201, 6, none⟩ = some (.bool ((rd_T34 l0_2 x3_2).f6)) ∧ w'.cell? ⟨gb197, 0, none⟩ = some (.int .i64 a0_0) ∧ w'.cell? ⟨gb197, 1, none⟩ = some (.int .i64 a0_1) ∧ w'.cell? ⟨gb197, 2, none⟩ = some (.slice (some ad200) l0_2.length c0_2) ∧ w'.cell? (ad200.add (((ji24)).toNat * 7)) = some (.int .i64 ((rd_T34 l0_2 (ji24)).f0)) ∧ w'.cell? ⟨(ad200.add (((ji24)).toNat * 7)).block, (ad200.add (((ji24)).toNat * 7)).off + 1, none⟩ = some (.string ((rd_T34 l0_2 (ji24)).f1)) ∧ w'.cell? ⟨(ad200.add (((ji24)).toNat * 7)).block, (ad200.add (((ji24)).toNat * 7)).off + 2, none⟩ = some (.string ((rd_T34 l0_2 (ji24)).f2)) ∧ w'.cell? ⟨(ad200.add (((ji24)).toNat * 7)).block, (ad200.add (((ji24)).toNat * 7)).off + 3, none⟩ = some (.string ((rd_T34 l0_2 (ji24)).f3)) ∧ w'.cell? ⟨(ad200.add (((ji24)).toNat * 7)).block, (ad200.add (((ji24)).toNat * 7)).off + 4, none⟩ = some (.bool ((rd_T34 l0_2 (ji24)).f4)) ∧ w'.cell? ⟨(ad200.add (((ji24)).toNat * 7)).block, (ad200.add (((ji24)).toNat * 7)).off + 5, none⟩ = some (.int .i64 ((rd_T34 l0_2 (ji24)).f5)) ∧ w'.cell? ⟨(ad200.add (((ji24)).toNat * 7)).block, (ad200.add (((ji24)).toNat * 7)).off + 6, none⟩ = some (.bool ((rd_T34 l0_2 (ji24)).f6))) (ds := []) (bv 36 0) (by kernel_rfl) rfl rfl ⟨bc BK201.out 0, bc BK201.out 1, bc BK201.out 2, bc BK201.out 3, bc BK201.out 4, bc BK201.out 5, bc BK201.out 6, bc BK197.out 0, bc BK197.out 1, bc BK197.out 2, (bz HB.out hw204_0), (bz HB.out hw204_1), (bz HB.out hw204_2), (bz HB.out hw204_3), (bz HB.out hw204_4), (bz HB.out hw204_5), (bz HB.out hw204_6)⟩ (fun hHeld => ?_); refine with_tabW spec_TableRight.tab7 spec_TableRight.bits7 (fun HT_ HW_ => ?_)
                              generalize w28.drew = w29 at BK197 BK201 HB hx204_0 hx204_1 hx204_2 hx204_3 hx204_4 hx204_5 hx204_6 hHeld ⊢
                              refine tk 0 34 (bv 36 1) HT_.out HW_.out hHeld (h := ?_)
                              refine one_ (i := 1) (N := some 35) (bv 36 3) rfl rfl (one_of HT_.out (by kernel_rfl)) (by decide) (fun K hK => ?_)
                              refine goes_ Tryd.func110 (by kernel_rfl) rfl #[.agg #[.int .i64 ((rd_T34 l0_2 x3_2).f0), .string ((rd_T34 l0_2 x3_2).f1), .string ((rd_T34 l0_2 x3_2).f2), .string ((rd_T34 l0_2 x3_2).f3), .bool ((rd_T34 l0_2 x3_2).f4), .int .i64 ((rd_T34 l0_2 x3_2).f5), .bool ((rd_T34 l0_2 x3_2).f6)]] (by rfl) rfl rfl Ag ?_
                              with_reducible refine (spec_l12Row.calls k2 ((rd_T34 l0_2 x3_2).f0) ((rd_T34 l0_2 x3_2).f1) ((rd_T34 l0_2 x3_2).f2) ((rd_T34 l0_2 x3_2).f3) ((rd_T34 l0_2 x3_2).f4) ((rd_T34 l0_2 x3_2).f5) ((rd_T34 l0_2 x3_2).f6) true _ A19.out).mono ?_
                              rintro e w30 ⟨rfl, hb⟩
                              refine ⟨_, rfl, ?_⟩
                              have n0_ := Aside0.mk (bb BK197.out hb)
                              have n1_ := Aside0.mk (bb BK201.out hb)
                              have n2_ := Aside0.mk (below_step By hb)
                              clear BK197
                              clear BK201
                              clear HB
                              have BK197 := n0_
                              have BK201 := n1_
                              have HB := n2_
                              clear n0_ n1_ n2_
                              (try clear hb)
                              (try clear hb2)
                              (try clear hk)
                              (try clear hi)
                              refine hK.out _ _ ⟨bc BK201.out 0, bc BK201.out 1, bc BK201.out 2, bc BK201.out 3, bc BK201.out 4, bc BK201.out 5, bc BK201.out 6, bc BK197.out 0, bc BK197.out 1, bc BK197.out 2, (bz HB.out hw204_0), (bz HB.out hw204_1), (bz HB.out hw204_2), (bz HB.out hw204_3), (bz HB.out hw204_4), (bz HB.out hw204_5), (bz HB.out hw204_6)⟩ (fun hHeld => ?_)
                              clear hK K
                              refine norm_ (a' := ?_) ?_ ?_
                              rotate_left
                              · show Act.put _ (some 35) _ = _
                                simp only [Act.put, List.setIfInBounds_toArray, List.set_cons_zero, List.set_cons_succ, i64_w, i32_w]
                                rfl
                              refine pu 2 36 (bv 36 7) HT_.out (h := ?_)
                              refine pu 3 37 (bv 36 15) HT_.out (h := ?_)
                              refine pu 4 38 (bv 36 31) HT_.out (h := ?_)
                              refine pu 6 40 (bv 36 95) HT_.out (h := ?_)
                              refine tk 5 39 (bv 36 127) HT_.out HW_.out hHeld (h := ?_)
                              refine tk 7 41 (bv 36 255) HT_.out HW_.out hHeld (h := ?_)
                              refine pu 8 42 (bv 36 511) HT_.out (h := ?_)
                              refine one_ (i := 9) (N := some 43) (bv 36 1023) rfl rfl (one_of HT_.out (by kernel_rfl)) (by decide) (fun K hK => ?_)
                              refine goes_ Tryd.func74 (by kernel_rfl) rfl #[.int .i64 ((rd_T34 l0_2 x3_2).f0), .int .i64 1, .int .i64 (wrap64 (a0_0 - 1))] (by rfl) rfl rfl Ag ?_
                              with_reducible refine (spec_l02Is.calls ((rd_T34 l0_2 x3_2).f0) 1 (wrap64 (a0_0 - 1)) true _ A21.out).mono ?_
                              rintro e w' ⟨rfl, ⟨nd, rfl⟩⟩
                              refine ⟨_, rfl, ?_⟩
                              refine hK.out _ _ ⟨bc BK201.out 0, bc BK201.out 1, bc BK201.out 2, bc BK201.out 3, bc BK201.out 4, bc BK201.out 5, bc BK201.out 6, bc BK197.out 0, bc BK197.out 1, bc BK197.out 2, (bz HB.out hw204_0), (bz HB.out hw204_1), (bz HB.out hw204_2), (bz HB.out hw204_3), (bz HB.out hw204_4), (bz HB.out hw204_5), (bz HB.out hw204_6)⟩ (fun hHeld => ?_)
                              clear hK K
                              refine norm_ (a' := ?_) ?_ ?_
                              rotate_left
                              · show Act.put _ (some 43) _ = _
                                simp only [Act.put, List.setIfInBounds_toArray, List.set_cons_zero, List.set_cons_succ, i64_w, i32_w]
                                rfl
                              refine pu 10 44 (bv 36 2047) HT_.out (h := ?_)
                              refine pu 11 45 (bv 36 4095) HT_.out (h := ?_)
                              refine pu 12 46 (bv 36 8191) HT_.out (h := ?_)
                              refine pu 13 47 (bv 36 16383) HT_.out (h := ?_)
                              refine pu 14 48 (bv 36 32767) HT_.out (h := ?_)
                              refine pu 15 49 (bv 36 65535) HT_.out (h := ?_)
                              refine pu 16 50 (bv 36 131071) HT_.out (h := ?_)
                              refine pu 18 52 (bv 36 393215) HT_.out (h := ?_)
                              refine pu 19 53 (bv 36 917503) HT_.out (h := ?_)
                              refine pu 23 57 (bv 36 9306111) HT_.out (h := ?_)
                              refine tk 17 51 (bv 36 9437183) HT_.out HW_.out hHeld (h := ?_)
                              refine pu 20 54 (bv 36 10485759) HT_.out (h := ?_)
                              refine pu 21 55 (bv 36 12582911) HT_.out (h := ?_)
                              refine tk 22 56 (bv 36 16777215) HT_.out HW_.out hHeld (h := ?_)
                              refine tk 24 58 (bv 36 33554431) HT_.out HW_.out hHeld (h := ?_)
                              refine pu 25 59 (bv 36 67108863) HT_.out (h := ?_)
                              refine pu 26 60 (bv 36 134217727) HT_.out (h := ?_)
                              refine pu 27 61 (bv 36 268435455) HT_.out (h := ?_)
                              refine pu 28 62 (bv 36 536870911) HT_.out (h := ?_)
                              refine pn 29 63 (bv 36 1073741823) HT_.out (h := ?_)
                              refine pn 30 64 (bv 36 2147483647) HT_.out (h := ?_)
                              refine pn 31 65 (bv 36 4294967295) HT_.out (h := ?_)
                              refine pn 32 66 (bv 36 8589934591) HT_.out (h := ?_)
                              refine pn 33 67 (bv 36 17179869183) HT_.out (h := ?_)
                              refine pn 34 68 (bv 36 34359738367) HT_.out (h := ?_)
                              refine pu 35 69 (bv 36 68719476735) HT_.out (h := ?_)
                              refine done_ (done_of HT_.out (by kernel_rfl)) ?_
                              try go_wp2
                              go_meet
                              case rel => exact ⟨_, (true), (by first | rfl | (simp; done) | (simp [*]; done)), H', ⟨by have := HJ1.out; have := HK2.out; first | omega | exact Nat.le_refl _⟩, ⟨by (with_reducible repeat (first | refine blk_drewN ?_ _ | refine blk_drew ?_ | refine blk_alloc ?_ _)); exact BK197.out⟩, ⟨by (with_reducible repeat (first | refine blk_drewN ?_ _ | refine blk_drew ?_ | refine blk_alloc ?_ _)); exact BK201.out⟩, ⟨By⟩⟩
                            · rw [if_neg c27] at H
                              have c27b0 : decide (((rd_T34 l0_2 x3_2).f0) ≤ ((rd_T34 l0_2 (ji24)).f0)) = false := decide_eq_false c27
                              clear c27
                              replace H := Option.bind_eq_some_iff.mp H
                              obtain ⟨t205, A310, H⟩ := H
                              replace H : (spec_TableRight.j2 k2 x3_2 (!t205) a0_0 a0_1 l0_2 ((rd_T34 l0_2 x3_2).f0) ((rd_T34 l0_2 x3_2).f1) ((rd_T34 l0_2 x3_2).f2) ((rd_T34 l0_2 x3_2).f3) ((rd_T34 l0_2 x3_2).f4) ((rd_T34 l0_2 x3_2).f5) ((rd_T34 l0_2 x3_2).f6)) = some r := H
                              have A31 := Aside0.mk A310
                              clear A310
                              have H' := Aside0.mk H
                              clear H
                              try go_wp2
                              have n0_ : Aside0 ((((((((w16.setCell ⟨gb201, 0, none⟩ (.int .i64 ((rd_T34 l0_2 x3_2).f0))).setCell ⟨gb201, 1, none⟩ (.string ((rd_T34 l0_2 x3_2).f1))).setCell ⟨gb201, 2, none⟩ (.string ((rd_T34 l0_2 x3_2).f2))).setCell ⟨gb201, 3, none⟩ (.string ((rd_T34 l0_2 x3_2).f3))).setCell ⟨gb201, 4, none⟩ (.bool ((rd_T34 l0_2 x3_2).f4))).setCell ⟨gb201, 5, none⟩ (.int .i64 ((rd_T34 l0_2 x3_2).f5))).setCell ⟨gb201, 6, none⟩ (.bool ((rd_T34 l0_2 x3_2).f6))).heap[gb197]? = some (.cells #[.int .i64 a0_0, .int .i64 a0_1, .slice (some ad200) l0_2.length c0_2] 38 (0, 0))) := ⟨Fr⟩
                              have n1_ : Aside0 ((((((((w16.setCell ⟨gb201, 0, none⟩ (.int .i64 ((rd_T34 l0_2 x3_2).f0))).setCell ⟨gb201, 1, none⟩ (.string ((rd_T34 l0_2 x3_2).f1))).setCell ⟨gb201, 2, none⟩ (.string ((rd_T34 l0_2 x3_2).f2))).setCell ⟨gb201, 3, none⟩ (.string ((rd_T34 l0_2 x3_2).f3))).setCell ⟨gb201, 4, none⟩ (.bool ((rd_T34 l0_2 x3_2).f4))).setCell ⟨gb201, 5, none⟩ (.int .i64 ((rd_T34 l0_2 x3_2).f5))).setCell ⟨gb201, 6, none⟩ (.bool ((rd_T34 l0_2 x3_2).f6))).heap[gb201]? = some (.cells #[.int .i64 ((rd_T34 l0_2 x3_2).f0), .string ((rd_T34 l0_2 x3_2).f1), .string ((rd_T34 l0_2 x3_2).f2), .string ((rd_T34 l0_2 x3_2).f3), .bool ((rd_T34 l0_2 x3_2).f4), .int .i64 ((rd_T34 l0_2 x3_2).f5), .bool ((rd_T34 l0_2 x3_2).f6)] 34 (0, 0))) := ⟨(pq7 Pk)⟩
                              have n2_ : Aside0 (Below w.heap.size w (((((((w16.setCell ⟨gb201, 0, none⟩ (.int .i64 ((rd_T34 l0_2 x3_2).f0))).setCell ⟨gb201, 1, none⟩ (.string ((rd_T34 l0_2 x3_2).f1))).setCell ⟨gb201, 2, none⟩ (.string ((rd_T34 l0_2 x3_2).f2))).setCell ⟨gb201, 3, none⟩ (.string ((rd_T34 l0_2 x3_2).f3))).setCell ⟨gb201, 4, none⟩ (.bool ((rd_T34 l0_2 x3_2).f4))).setCell ⟨gb201, 5, none⟩ (.int .i64 ((rd_T34 l0_2 x3_2).f5))).setCell ⟨gb201, 6, none⟩ (.bool ((rd_T34 l0_2 x3_2).f6)))) := ⟨By⟩
                              (try clear BK197)
                              (try clear BK201)
                              (try clear HB)
                              generalize (((((((w16.setCell ⟨gb201, 0, none⟩ (.int .i64 ((rd_T34 l0_2 x3_2).f0))).setCell ⟨gb201, 1, none⟩ (.string ((rd_T34 l0_2 x3_2).f1))).setCell ⟨gb201, 2, none⟩ (.string ((rd_T34 l0_2 x3_2).f2))).setCell ⟨gb201, 3, none⟩ (.string ((rd_T34 l0_2 x3_2).f3))).setCell ⟨gb201, 4, none⟩ (.bool ((rd_T34 l0_2 x3_2).f4))).setCell ⟨gb201, 5, none⟩ (.int .i64 ((rd_T34 l0_2 x3_2).f5))).setCell ⟨gb201, 6, none⟩ (.bool ((rd_T34 l0_2 x3_2).f6))) = w32 at n0_ n1_ n2_ ⊢
                              have BK197 := n0_
                              have BK201 := n1_
                              have HB := n2_
                              clear n0_ n1_ n2_
                              have n0_ := Aside0.mk (blk_drew BK197.out)
                              have n1_ := Aside0.mk (blk_drew BK201.out)
                              have n2_ := Aside0.mk (below_drew1 HB.out)
                              clear BK197
                              clear BK201
                              clear HB
                              have BK197 := n0_
                              have BK201 := n1_
                              have HB := n2_
                              clear n0_ n1_ n2_
                              have p204 : 0 ≤ ((ji24) : Int) := of_decide_eq_true Da
                              have q204 : (ji24) < (l0_2.length : Int) := of_decide_eq_true Da
                              obtain ⟨ad204, e204, hx204_0, hx204_1, hx204_2, hx204_3, hx204_4, hx204_5, hx204_6⟩ := at_T34 HR0_2.out (ji24) p204 q204
                              have hw204_6 := hx204_6
                              have hw204_5 := hx204_5
                              have hw204_4 := hx204_4
                              have hw204_3 := hx204_3
                              have hw204_2 := hx204_2
                              have hw204_1 := hx204_1
                              have hw204_0 := hx204_0
                              obtain rfl : ad200 = ad204 := (by injection e204)
                              replace hx204_0 := bz HB.out hx204_0
                              replace hx204_1 := bz HB.out hx204_1
                              replace hx204_2 := bz HB.out hx204_2
                              replace hx204_3 := bz HB.out hx204_3
                              replace hx204_4 := bz HB.out hx204_4
                              replace hx204_5 := bz HB.out hx204_5
                              replace hx204_6 := bz HB.out hx204_6
                              replace p204 := eq_true p204
                              replace q204 := eq_true q204
                              refine start_ (n := 36) (S := fun w' => w'.cell? ⟨gb201, 0, none⟩ = some (.int .i64 ((rd_T34 l0_2 x3_2).f0)) ∧ w'.cell? ⟨gb201, 1, none⟩ = some (.string ((rd_T34 l0_2 x3_2).f1)) ∧ w'.cell? ⟨gb201, 2, none⟩ = some (.string ((rd_T34 l0_2 x3_2).f2)) ∧ w'.cell? ⟨gb201, 3, none⟩ = some (.string ((rd_T34 l0_2 x3_2).f3)) ∧ w'.cell? ⟨gb201, 4, none⟩ = some (.bool ((rd_T34 l0_2 x3_2).f4)) ∧ w'.cell? ⟨gb201, 5, none⟩ = some (.int .i64 ((rd_T34 l0_2 x3_2).f5)) ∧ w'.cell? ⟨gb201, 6, none⟩ = some (.bool ((rd_T34 l0_2 x3_2).f6)) ∧ w'.cell? ⟨gb197, 0, none⟩ = some (.int .i64 a0_0) ∧ w'.cell? ⟨gb197, 1, none⟩ = some (.int .i64 a0_1) ∧ w'.cell? ⟨gb197, 2, none⟩ = some (.slice (some ad200) l0_2.length c0_2) ∧ w'.cell? (ad200.add (((ji24)).toNat * 7)) = some (.int .i64 ((rd_T34 l0_2 (ji24)).f0)) ∧ w'.cell? ⟨(ad200.add (((ji24)).toNat * 7)).block, (ad200.add (((ji24)).toNat * 7)).off + 1, none⟩ = some (.string ((rd_T34 l0_2 (ji24)).f1)) ∧ w'.cell? ⟨(ad200.add (((ji24)).toNat * 7)).block, (ad200.add (((ji24)).toNat * 7)).off + 2, none⟩ = some (.string ((rd_T34 l0_2 (ji24)).f2)) ∧ w'.cell? ⟨(ad200.add (((ji24)).toNat * 7)).block, (ad200.add (((ji24)).toNat * 7)).off + 3, none⟩ = some (.string ((rd_T34 l0_2 (ji24)).f3)) ∧ w'.cell? ⟨(ad200.add (((ji24)).toNat * 7)).block, (ad200.add (((ji24)).toNat * 7)).off + 4, none⟩ = some (.bool ((rd_T34 l0_2 (ji24)).f4)) ∧ w'.cell? ⟨(ad200.add (((ji24)).toNat * 7)).block, (ad200.add (((ji24)).toNat * 7)).off + 5, none⟩ = some (.int .i64 ((rd_T34 l0_2 (ji24)).f5)) ∧ w'.cell? ⟨(ad200.add (((ji24)).toNat * 7)).block, (ad200.add (((ji24)).toNat * 7)).off + 6, none⟩ = some (.bool ((rd_T34 l0_2 (ji24)).f6))) (ds := []) (bv 36 0) (by kernel_rfl) rfl rfl ⟨bc BK201.out 0, bc BK201.out 1, bc BK201.out 2, bc BK201.out 3, bc BK201.out 4, bc BK201.out 5, bc BK201.out 6, bc BK197.out 0, bc BK197.out 1, bc BK197.out 2, (bz HB.out hw204_0), (bz HB.out hw204_1), (bz HB.out hw204_2), (bz HB.out hw204_3), (bz HB.out hw204_4), (bz HB.out hw204_5), (bz HB.out hw204_6)⟩ (fun hHeld => ?_); refine with_tabW spec_TableRight.tab7 spec_TableRight.bits7 (fun HT_ HW_ => ?_)
                              generalize w32.drew = w33 at BK197 BK201 HB hx204_0 hx204_1 hx204_2 hx204_3 hx204_4 hx204_5 hx204_6 hHeld ⊢
                              refine tk 0 34 (bv 36 1) HT_.out HW_.out hHeld (h := ?_)
                              refine one_ (i := 1) (N := some 35) (bv 36 3) rfl rfl (one_of HT_.out (by kernel_rfl)) (by decide) (fun K hK => ?_)
                              refine goes_ Tryd.func110 (by kernel_rfl) rfl #[.agg #[.int .i64 ((rd_T34 l0_2 x3_2).f0), .string ((rd_T34 l0_2 x3_2).f1), .string ((rd_T34 l0_2 x3_2).f2), .string ((rd_T34 l0_2 x3_2).f3), .bool ((rd_T34 l0_2 x3_2).f4), .int .i64 ((rd_T34 l0_2 x3_2).f5), .bool ((rd_T34 l0_2 x3_2).f6)]] (by rfl) rfl rfl Ag ?_
                              with_reducible refine (spec_l12Row.calls k2 ((rd_T34 l0_2 x3_2).f0) ((rd_T34 l0_2 x3_2).f1) ((rd_T34 l0_2 x3_2).f2) ((rd_T34 l0_2 x3_2).f3) ((rd_T34 l0_2 x3_2).f4) ((rd_T34 l0_2 x3_2).f5) ((rd_T34 l0_2 x3_2).f6) true _ A19.out).mono ?_
                              rintro e w34 ⟨rfl, hb⟩
                              refine ⟨_, rfl, ?_⟩
                              have n0_ := Aside0.mk (bb BK197.out hb)
                              have n1_ := Aside0.mk (bb BK201.out hb)
                              have n2_ := Aside0.mk (below_step By hb)
                              clear BK197
                              clear BK201
                              clear HB
                              have BK197 := n0_
                              have BK201 := n1_
                              have HB := n2_
                              clear n0_ n1_ n2_
                              (try clear hb)
                              (try clear hb2)
                              (try clear hk)
                              (try clear hi)
                              refine hK.out _ _ ⟨bc BK201.out 0, bc BK201.out 1, bc BK201.out 2, bc BK201.out 3, bc BK201.out 4, bc BK201.out 5, bc BK201.out 6, bc BK197.out 0, bc BK197.out 1, bc BK197.out 2, (bz HB.out hw204_0), (bz HB.out hw204_1), (bz HB.out hw204_2), (bz HB.out hw204_3), (bz HB.out hw204_4), (bz HB.out hw204_5), (bz HB.out hw204_6)⟩ (fun hHeld => ?_)
                              clear hK K
                              refine norm_ (a' := ?_) ?_ ?_
                              rotate_left
                              · show Act.put _ (some 35) _ = _
                                simp only [Act.put, List.setIfInBounds_toArray, List.set_cons_zero, List.set_cons_succ, i64_w, i32_w]
                                rfl
                              refine pu 2 36 (bv 36 7) HT_.out (h := ?_)
                              refine pu 3 37 (bv 36 15) HT_.out (h := ?_)
                              refine pu 4 38 (bv 36 31) HT_.out (h := ?_)
                              refine pu 6 40 (bv 36 95) HT_.out (h := ?_)
                              refine tk 5 39 (bv 36 127) HT_.out HW_.out hHeld (h := ?_)
                              refine tk 7 41 (bv 36 255) HT_.out HW_.out hHeld (h := ?_)
                              refine pu 8 42 (bv 36 511) HT_.out (h := ?_)
                              refine one_ (i := 9) (N := some 43) (bv 36 1023) rfl rfl (one_of HT_.out (by kernel_rfl)) (by decide) (fun K hK => ?_)
                              refine goes_ Tryd.func74 (by kernel_rfl) rfl #[.int .i64 ((rd_T34 l0_2 x3_2).f0), .int .i64 1, .int .i64 (wrap64 (a0_0 - 1))] (by rfl) rfl rfl Ag ?_
                              with_reducible refine (spec_l02Is.calls ((rd_T34 l0_2 x3_2).f0) 1 (wrap64 (a0_0 - 1)) true _ A21.out).mono ?_
                              rintro e w' ⟨rfl, ⟨nd, rfl⟩⟩
                              refine ⟨_, rfl, ?_⟩
                              refine hK.out _ _ ⟨bc BK201.out 0, bc BK201.out 1, bc BK201.out 2, bc BK201.out 3, bc BK201.out 4, bc BK201.out 5, bc BK201.out 6, bc BK197.out 0, bc BK197.out 1, bc BK197.out 2, (bz HB.out hw204_0), (bz HB.out hw204_1), (bz HB.out hw204_2), (bz HB.out hw204_3), (bz HB.out hw204_4), (bz HB.out hw204_5), (bz HB.out hw204_6)⟩ (fun hHeld => ?_)
                              clear hK K
                              refine norm_ (a' := ?_) ?_ ?_
                              rotate_left
                              · show Act.put _ (some 43) _ = _
                                simp only [Act.put, List.setIfInBounds_toArray, List.set_cons_zero, List.set_cons_succ, i64_w, i32_w]
                                rfl
                              refine pu 10 44 (bv 36 2047) HT_.out (h := ?_)
                              refine pu 11 45 (bv 36 4095) HT_.out (h := ?_)
                              refine pu 12 46 (bv 36 8191) HT_.out (h := ?_)
                              refine pu 13 47 (bv 36 16383) HT_.out (h := ?_)
                              refine pu 14 48 (bv 36 32767) HT_.out (h := ?_)
                              refine pu 15 49 (bv 36 65535) HT_.out (h := ?_)
                              refine pu 16 50 (bv 36 131071) HT_.out (h := ?_)
                              refine pu 18 52 (bv 36 393215) HT_.out (h := ?_)
                              refine pu 19 53 (bv 36 917503) HT_.out (h := ?_)
                              refine pu 23 57 (bv 36 9306111) HT_.out (h := ?_)
                              refine tk 17 51 (bv 36 9437183) HT_.out HW_.out hHeld (h := ?_)
                              refine pu 20 54 (bv 36 10485759) HT_.out (h := ?_)
                              refine pu 21 55 (bv 36 12582911) HT_.out (h := ?_)
                              refine tk 22 56 (bv 36 16777215) HT_.out HW_.out hHeld (h := ?_)
                              refine tk 24 58 (bv 36 33554431) HT_.out HW_.out hHeld (h := ?_)
                              refine pu 25 59 (bv 36 67108863) HT_.out (h := ?_)
                              refine pu 26 60 (bv 36 134217727) HT_.out (h := ?_)
                              refine pu 27 61 (bv 36 268435455) HT_.out (h := ?_)
                              refine pu 28 62 (bv 36 536870911) HT_.out (h := ?_)
                              refine pu 29 63 (bv 36 1073741823) HT_.out (h := ?_)
                              refine pu 31 65 (bv 36 3221225471) HT_.out (h := ?_)
                              refine tk 30 64 (bv 36 4294967295) HT_.out HW_.out hHeld (h := ?_)
                              refine tk 32 66 (bv 36 8589934591) HT_.out HW_.out hHeld (h := ?_)
                              refine one_ (i := 33) (N := some 67) (bv 36 17179869183) rfl rfl (one_of HT_.out (by kernel_rfl)) (by decide) (fun K hK => ?_)
                              refine goes_ Tryd.func74 (by kernel_rfl) rfl #[.int .i64 ((rd_T34 l0_2 x3_2).f5), .int .i64 1, .int .i64 a0_1] (by rfl) rfl rfl Ag ?_
                              with_reducible refine (spec_l02Is.calls ((rd_T34 l0_2 x3_2).f5) 1 a0_1 t205 _ A31.out).mono ?_
                              rintro e w' ⟨rfl, ⟨nd, rfl⟩⟩
                              refine ⟨_, rfl, ?_⟩
                              refine hK.out _ _ ⟨bc BK201.out 0, bc BK201.out 1, bc BK201.out 2, bc BK201.out 3, bc BK201.out 4, bc BK201.out 5, bc BK201.out 6, bc BK197.out 0, bc BK197.out 1, bc BK197.out 2, (bz HB.out hw204_0), (bz HB.out hw204_1), (bz HB.out hw204_2), (bz HB.out hw204_3), (bz HB.out hw204_4), (bz HB.out hw204_5), (bz HB.out hw204_6)⟩ (fun hHeld => ?_)
                              clear hK K
                              refine norm_ (a' := ?_) ?_ ?_
                              rotate_left
                              · show Act.put _ (some 67) _ = _
                                simp only [Act.put, List.setIfInBounds_toArray, List.set_cons_zero, List.set_cons_succ, i64_w, i32_w]
                                rfl
                              refine pu 34 68 (bv 36 34359738367) HT_.out (h := ?_)
                              refine pu 35 69 (bv 36 68719476735) HT_.out (h := ?_)
                              refine done_ (done_of HT_.out (by kernel_rfl)) ?_
                              try go_wp2
                              go_meet
                              case rel => exact ⟨_, (!t205), (by first | rfl | (simp; done) | (simp [*]; done)), H', ⟨by have := HJ1.out; have := HK2.out; first | omega | exact Nat.le_refl _⟩, ⟨by (with_reducible repeat (first | refine blk_drewN ?_ _ | refine blk_drew ?_ | refine blk_alloc ?_ _)); exact BK197.out⟩, ⟨by (with_reducible repeat (first | refine blk_drewN ?_ _ | refine blk_drew ?_ | refine blk_alloc ?_ _)); exact BK201.out⟩, ⟨By⟩⟩
                          · rw [if_neg c26] at H
                            exact absurd H (by simp)
                        · rw [if_neg c25] at H
                          exact absurd H (by simp)
                      · rw [if_neg c23] at H
                        have c23b0 : decide (0 < x3_2) = false := decide_eq_false c23
                        clear c23
                        (first | rw [c23b0] | (simp only [i64_w, i32_w]; rw [c23b0]) | skip)
                        replace H := Option.bind_eq_some_iff.mp H
                        obtain ⟨t206, A350, H⟩ := H
                        replace H : (spec_TableRight.j2 k2 x3_2 (!t206) a0_0 a0_1 l0_2 ((rd_T34 l0_2 x3_2).f0) ((rd_T34 l0_2 x3_2).f1) ((rd_T34 l0_2 x3_2).f2) ((rd_T34 l0_2 x3_2).f3) ((rd_T34 l0_2 x3_2).f4) ((rd_T34 l0_2 x3_2).f5) ((rd_T34 l0_2 x3_2).f6)) = some r := H
                        have A35 := Aside0.mk A350
                        clear A350
                        have H' := Aside0.mk H
                        clear H
                        try go_wp2
                        have n0_ : Aside0 ((((((((w16.setCell ⟨gb201, 0, none⟩ (.int .i64 ((rd_T34 l0_2 x3_2).f0))).setCell ⟨gb201, 1, none⟩ (.string ((rd_T34 l0_2 x3_2).f1))).setCell ⟨gb201, 2, none⟩ (.string ((rd_T34 l0_2 x3_2).f2))).setCell ⟨gb201, 3, none⟩ (.string ((rd_T34 l0_2 x3_2).f3))).setCell ⟨gb201, 4, none⟩ (.bool ((rd_T34 l0_2 x3_2).f4))).setCell ⟨gb201, 5, none⟩ (.int .i64 ((rd_T34 l0_2 x3_2).f5))).setCell ⟨gb201, 6, none⟩ (.bool ((rd_T34 l0_2 x3_2).f6))).heap[gb197]? = some (.cells #[.int .i64 a0_0, .int .i64 a0_1, .slice (some ad200) l0_2.length c0_2] 38 (0, 0))) := ⟨Fr⟩
                        have n1_ : Aside0 ((((((((w16.setCell ⟨gb201, 0, none⟩ (.int .i64 ((rd_T34 l0_2 x3_2).f0))).setCell ⟨gb201, 1, none⟩ (.string ((rd_T34 l0_2 x3_2).f1))).setCell ⟨gb201, 2, none⟩ (.string ((rd_T34 l0_2 x3_2).f2))).setCell ⟨gb201, 3, none⟩ (.string ((rd_T34 l0_2 x3_2).f3))).setCell ⟨gb201, 4, none⟩ (.bool ((rd_T34 l0_2 x3_2).f4))).setCell ⟨gb201, 5, none⟩ (.int .i64 ((rd_T34 l0_2 x3_2).f5))).setCell ⟨gb201, 6, none⟩ (.bool ((rd_T34 l0_2 x3_2).f6))).heap[gb201]? = some (.cells #[.int .i64 ((rd_T34 l0_2 x3_2).f0), .string ((rd_T34 l0_2 x3_2).f1), .string ((rd_T34 l0_2 x3_2).f2), .string ((rd_T34 l0_2 x3_2).f3), .bool ((rd_T34 l0_2 x3_2).f4), .int .i64 ((rd_T34 l0_2 x3_2).f5), .bool ((rd_T34 l0_2 x3_2).f6)] 34 (0, 0))) := ⟨(pq7 Pk)⟩
                        have n2_ : Aside0 (Below w.heap.size w (((((((w16.setCell ⟨gb201, 0, none⟩ (.int .i64 ((rd_T34 l0_2 x3_2).f0))).setCell ⟨gb201, 1, none⟩ (.string ((rd_T34 l0_2 x3_2).f1))).setCell ⟨gb201, 2, none⟩ (.string ((rd_T34 l0_2 x3_2).f2))).setCell ⟨gb201, 3, none⟩ (.string ((rd_T34 l0_2 x3_2).f3))).setCell ⟨gb201, 4, none⟩ (.bool ((rd_T34 l0_2 x3_2).f4))).setCell ⟨gb201, 5, none⟩ (.int .i64 ((rd_T34 l0_2 x3_2).f5))).setCell ⟨gb201, 6, none⟩ (.bool ((rd_T34 l0_2 x3_2).f6)))) := ⟨By⟩
                        (try clear BK197)
                        (try clear BK201)
                        (try clear HB)
                        generalize (((((((w16.setCell ⟨gb201, 0, none⟩ (.int .i64 ((rd_T34 l0_2 x3_2).f0))).setCell ⟨gb201, 1, none⟩ (.string ((rd_T34 l0_2 x3_2).f1))).setCell ⟨gb201, 2, none⟩ (.string ((rd_T34 l0_2 x3_2).f2))).setCell ⟨gb201, 3, none⟩ (.string ((rd_T34 l0_2 x3_2).f3))).setCell ⟨gb201, 4, none⟩ (.bool ((rd_T34 l0_2 x3_2).f4))).setCell ⟨gb201, 5, none⟩ (.int .i64 ((rd_T34 l0_2 x3_2).f5))).setCell ⟨gb201, 6, none⟩ (.bool ((rd_T34 l0_2 x3_2).f6))) = w36 at n0_ n1_ n2_ ⊢
                        have BK197 := n0_
                        have BK201 := n1_
                        have HB := n2_
                        clear n0_ n1_ n2_
                        have n0_ := Aside0.mk (blk_drew BK197.out)
                        have n1_ := Aside0.mk (blk_drew BK201.out)
                        have n2_ := Aside0.mk (below_drew1 HB.out)
                        clear BK197
                        clear BK201
                        clear HB
                        have BK197 := n0_
                        have BK201 := n1_
                        have HB := n2_
                        clear n0_ n1_ n2_
                        refine start_ (n := 36) (S := fun w' => w'.cell? ⟨gb201, 0, none⟩ = some (.int .i64 ((rd_T34 l0_2 x3_2).f0)) ∧ w'.cell? ⟨gb201, 1, none⟩ = some (.string ((rd_T34 l0_2 x3_2).f1)) ∧ w'.cell? ⟨gb201, 2, none⟩ = some (.string ((rd_T34 l0_2 x3_2).f2)) ∧ w'.cell? ⟨gb201, 3, none⟩ = some (.string ((rd_T34 l0_2 x3_2).f3)) ∧ w'.cell? ⟨gb201, 4, none⟩ = some (.bool ((rd_T34 l0_2 x3_2).f4)) ∧ w'.cell? ⟨gb201, 5, none⟩ = some (.int .i64 ((rd_T34 l0_2 x3_2).f5)) ∧ w'.cell? ⟨gb201, 6, none⟩ = some (.bool ((rd_T34 l0_2 x3_2).f6)) ∧ w'.cell? ⟨gb197, 0, none⟩ = some (.int .i64 a0_0) ∧ w'.cell? ⟨gb197, 1, none⟩ = some (.int .i64 a0_1) ∧ w'.cell? ⟨gb197, 2, none⟩ = some (.slice (some ad200) l0_2.length c0_2)) (ds := []) (bv 36 0) (by kernel_rfl) rfl rfl ⟨bc BK201.out 0, bc BK201.out 1, bc BK201.out 2, bc BK201.out 3, bc BK201.out 4, bc BK201.out 5, bc BK201.out 6, bc BK197.out 0, bc BK197.out 1, bc BK197.out 2⟩ (fun hHeld => ?_); refine with_tabW spec_TableRight.tab7 spec_TableRight.bits7 (fun HT_ HW_ => ?_)
                        generalize w36.drew = w37 at BK197 BK201 HB hHeld ⊢
                        refine tk 0 34 (bv 36 1) HT_.out HW_.out hHeld (h := ?_)
                        refine one_ (i := 1) (N := some 35) (bv 36 3) rfl rfl (one_of HT_.out (by kernel_rfl)) (by decide) (fun K hK => ?_)
                        refine goes_ Tryd.func110 (by kernel_rfl) rfl #[.agg #[.int .i64 ((rd_T34 l0_2 x3_2).f0), .string ((rd_T34 l0_2 x3_2).f1), .string ((rd_T34 l0_2 x3_2).f2), .string ((rd_T34 l0_2 x3_2).f3), .bool ((rd_T34 l0_2 x3_2).f4), .int .i64 ((rd_T34 l0_2 x3_2).f5), .bool ((rd_T34 l0_2 x3_2).f6)]] (by rfl) rfl rfl Ag ?_
                        with_reducible refine (spec_l12Row.calls k2 ((rd_T34 l0_2 x3_2).f0) ((rd_T34 l0_2 x3_2).f1) ((rd_T34 l0_2 x3_2).f2) ((rd_T34 l0_2 x3_2).f3) ((rd_T34 l0_2 x3_2).f4) ((rd_T34 l0_2 x3_2).f5) ((rd_T34 l0_2 x3_2).f6) true _ A19.out).mono ?_
                        rintro e w38 ⟨rfl, hb⟩
                        refine ⟨_, rfl, ?_⟩
                        have n0_ := Aside0.mk (bb BK197.out hb)
                        have n1_ := Aside0.mk (bb BK201.out hb)
                        have n2_ := Aside0.mk (below_step By hb)
                        clear BK197
                        clear BK201
                        clear HB
                        have BK197 := n0_
                        have BK201 := n1_
                        have HB := n2_
                        clear n0_ n1_ n2_
                        (try clear hb)
                        (try clear hb2)
                        (try clear hk)
                        (try clear hi)
                        refine hK.out _ _ ⟨bc BK201.out 0, bc BK201.out 1, bc BK201.out 2, bc BK201.out 3, bc BK201.out 4, bc BK201.out 5, bc BK201.out 6, bc BK197.out 0, bc BK197.out 1, bc BK197.out 2⟩ (fun hHeld => ?_)
                        clear hK K
                        refine norm_ (a' := ?_) ?_ ?_
                        rotate_left
                        · show Act.put _ (some 35) _ = _
                          simp only [Act.put, List.setIfInBounds_toArray, List.set_cons_zero, List.set_cons_succ, i64_w, i32_w]
                          rfl
                        refine pu 2 36 (bv 36 7) HT_.out (h := ?_)
                        refine pu 3 37 (bv 36 15) HT_.out (h := ?_)
                        refine pu 4 38 (bv 36 31) HT_.out (h := ?_)
                        refine pu 6 40 (bv 36 95) HT_.out (h := ?_)
                        refine tk 5 39 (bv 36 127) HT_.out HW_.out hHeld (h := ?_)
                        refine tk 7 41 (bv 36 255) HT_.out HW_.out hHeld (h := ?_)
                        refine pu 8 42 (bv 36 511) HT_.out (h := ?_)
                        refine one_ (i := 9) (N := some 43) (bv 36 1023) rfl rfl (one_of HT_.out (by kernel_rfl)) (by decide) (fun K hK => ?_)
                        refine goes_ Tryd.func74 (by kernel_rfl) rfl #[.int .i64 ((rd_T34 l0_2 x3_2).f0), .int .i64 1, .int .i64 (wrap64 (a0_0 - 1))] (by rfl) rfl rfl Ag ?_
                        with_reducible refine (spec_l02Is.calls ((rd_T34 l0_2 x3_2).f0) 1 (wrap64 (a0_0 - 1)) true _ A21.out).mono ?_
                        rintro e w' ⟨rfl, ⟨nd, rfl⟩⟩
                        refine ⟨_, rfl, ?_⟩
                        refine hK.out _ _ ⟨bc BK201.out 0, bc BK201.out 1, bc BK201.out 2, bc BK201.out 3, bc BK201.out 4, bc BK201.out 5, bc BK201.out 6, bc BK197.out 0, bc BK197.out 1, bc BK197.out 2⟩ (fun hHeld => ?_)
                        clear hK K
                        refine norm_ (a' := ?_) ?_ ?_
                        rotate_left
                        · show Act.put _ (some 43) _ = _
                          simp only [Act.put, List.setIfInBounds_toArray, List.set_cons_zero, List.set_cons_succ, i64_w, i32_w]
                          rfl
                        refine pu 10 44 (bv 36 2047) HT_.out (h := ?_)
                        refine pu 11 45 (bv 36 4095) HT_.out (h := ?_)
                        refine pu 12 46 (bv 36 8191) HT_.out (h := ?_)
                        refine pu 13 47 (bv 36 16383) HT_.out (h := ?_)
                        refine pu 14 48 (bv 36 32767) HT_.out (h := ?_)
                        refine pu 15 49 (bv 36 65535) HT_.out (h := ?_)
                        refine pn 16 50 (bv 36 131071) HT_.out (h := ?_)
                        refine pn 17 51 (bv 36 262143) HT_.out (h := ?_)
                        refine pn 18 52 (bv 36 524287) HT_.out (h := ?_)
                        refine pn 19 53 (bv 36 1048575) HT_.out (h := ?_)
                        refine pn 20 54 (bv 36 2097151) HT_.out (h := ?_)
                        refine pn 21 55 (bv 36 4194303) HT_.out (h := ?_)
                        refine pn 22 56 (bv 36 8388607) HT_.out (h := ?_)
                        refine pn 23 57 (bv 36 16777215) HT_.out (h := ?_)
                        refine pn 24 58 (bv 36 33554431) HT_.out (h := ?_)
                        refine pn 25 59 (bv 36 67108863) HT_.out (h := ?_)
                        refine pu 26 60 (bv 36 134217727) HT_.out (h := ?_)
                        refine pu 27 61 (bv 36 268435455) HT_.out (h := ?_)
                        refine pu 28 62 (bv 36 536870911) HT_.out (h := ?_)
                        refine pu 29 63 (bv 36 1073741823) HT_.out (h := ?_)
                        refine pu 31 65 (bv 36 3221225471) HT_.out (h := ?_)
                        refine tk 30 64 (bv 36 4294967295) HT_.out HW_.out hHeld (h := ?_)
                        refine tk 32 66 (bv 36 8589934591) HT_.out HW_.out hHeld (h := ?_)
                        refine one_ (i := 33) (N := some 67) (bv 36 17179869183) rfl rfl (one_of HT_.out (by kernel_rfl)) (by decide) (fun K hK => ?_)
                        refine goes_ Tryd.func74 (by kernel_rfl) rfl #[.int .i64 ((rd_T34 l0_2 x3_2).f5), .int .i64 1, .int .i64 a0_1] (by rfl) rfl rfl Ag ?_
                        with_reducible refine (spec_l02Is.calls ((rd_T34 l0_2 x3_2).f5) 1 a0_1 t206 _ A35.out).mono ?_
                        rintro e w' ⟨rfl, ⟨nd, rfl⟩⟩
                        refine ⟨_, rfl, ?_⟩
                        refine hK.out _ _ ⟨bc BK201.out 0, bc BK201.out 1, bc BK201.out 2, bc BK201.out 3, bc BK201.out 4, bc BK201.out 5, bc BK201.out 6, bc BK197.out 0, bc BK197.out 1, bc BK197.out 2⟩ (fun hHeld => ?_)
                        clear hK K
                        refine norm_ (a' := ?_) ?_ ?_
                        rotate_left
                        · show Act.put _ (some 67) _ = _
                          simp only [Act.put, List.setIfInBounds_toArray, List.set_cons_zero, List.set_cons_succ, i64_w, i32_w]
                          rfl
                        refine pu 34 68 (bv 36 34359738367) HT_.out (h := ?_)
                        refine pu 35 69 (bv 36 68719476735) HT_.out (h := ?_)
                        refine done_ (done_of HT_.out (by kernel_rfl)) ?_
                        try go_wp2
                        go_meet
                        case rel => exact ⟨_, (!t206), (by first | rfl | (simp; done) | (simp [*]; done)), H', ⟨by have := HJ1.out; have := HK2.out; first | omega | exact Nat.le_refl _⟩, ⟨by (with_reducible repeat (first | refine blk_drewN ?_ _ | refine blk_drew ?_ | refine blk_alloc ?_ _)); exact BK197.out⟩, ⟨by (with_reducible repeat (first | refine blk_drewN ?_ _ | refine blk_drew ?_ | refine blk_alloc ?_ _)); exact BK201.out⟩, ⟨By⟩⟩
                    · replace c22 := Bool.eq_false_iff.mpr c22
                      subst c22
                      have H1 : (spec_TableRight.j2 k2 x3_2 true a0_0 a0_1 l0_2 ((rd_T34 l0_2 x3_2).f0) ((rd_T34 l0_2 x3_2).f1) ((rd_T34 l0_2 x3_2).f2) ((rd_T34 l0_2 x3_2).f3) ((rd_T34 l0_2 x3_2).f4) ((rd_T34 l0_2 x3_2).f5) ((rd_T34 l0_2 x3_2).f6)) = some r := by rw [if_neg (show ¬ (false = true) by decide)] at H; exact H
                      clear H
                      have H := H1
                      clear H1
                      have H' := Aside0.mk H
                      clear H
                      try go_wp2
                      have n0_ : Aside0 ((((((((w16.setCell ⟨gb201, 0, none⟩ (.int .i64 ((rd_T34 l0_2 x3_2).f0))).setCell ⟨gb201, 1, none⟩ (.string ((rd_T34 l0_2 x3_2).f1))).setCell ⟨gb201, 2, none⟩ (.string ((rd_T34 l0_2 x3_2).f2))).setCell ⟨gb201, 3, none⟩ (.string ((rd_T34 l0_2 x3_2).f3))).setCell ⟨gb201, 4, none⟩ (.bool ((rd_T34 l0_2 x3_2).f4))).setCell ⟨gb201, 5, none⟩ (.int .i64 ((rd_T34 l0_2 x3_2).f5))).setCell ⟨gb201, 6, none⟩ (.bool ((rd_T34 l0_2 x3_2).f6))).heap[gb197]? = some (.cells #[.int .i64 a0_0, .int .i64 a0_1, .slice (some ad200) l0_2.length c0_2] 38 (0, 0))) := ⟨Fr⟩
                      have n1_ : Aside0 ((((((((w16.setCell ⟨gb201, 0, none⟩ (.int .i64 ((rd_T34 l0_2 x3_2).f0))).setCell ⟨gb201, 1, none⟩ (.string ((rd_T34 l0_2 x3_2).f1))).setCell ⟨gb201, 2, none⟩ (.string ((rd_T34 l0_2 x3_2).f2))).setCell ⟨gb201, 3, none⟩ (.string ((rd_T34 l0_2 x3_2).f3))).setCell ⟨gb201, 4, none⟩ (.bool ((rd_T34 l0_2 x3_2).f4))).setCell ⟨gb201, 5, none⟩ (.int .i64 ((rd_T34 l0_2 x3_2).f5))).setCell ⟨gb201, 6, none⟩ (.bool ((rd_T34 l0_2 x3_2).f6))).heap[gb201]? = some (.cells #[.int .i64 ((rd_T34 l0_2 x3_2).f0), .string ((rd_T34 l0_2 x3_2).f1), .string ((rd_T34 l0_2 x3_2).f2), .string ((rd_T34 l0_2 x3_2).f3), .bool ((rd_T34 l0_2 x3_2).f4), .int .i64 ((rd_T34 l0_2 x3_2).f5), .bool ((rd_T34 l0_2 x3_2).f6)] 34 (0, 0))) := ⟨(pq7 Pk)⟩
                      have n2_ : Aside0 (Below w.heap.size w (((((((w16.setCell ⟨gb201, 0, none⟩ (.int .i64 ((rd_T34 l0_2 x3_2).f0))).setCell ⟨gb201, 1, none⟩ (.string ((rd_T34 l0_2 x3_2).f1))).setCell ⟨gb201, 2, none⟩ (.string ((rd_T34 l0_2 x3_2).f2))).setCell ⟨gb201, 3, none⟩ (.string ((rd_T34 l0_2 x3_2).f3))).setCell ⟨gb201, 4, none⟩ (.bool ((rd_T34 l0_2 x3_2).f4))).setCell ⟨gb201, 5, none⟩ (.int .i64 ((rd_T34 l0_2 x3_2).f5))).setCell ⟨gb201, 6, none⟩ (.bool ((rd_T34 l0_2 x3_2).f6)))) := ⟨By⟩
                      (try clear BK197)
                      (try clear BK201)
                      (try clear HB)
                      generalize (((((((w16.setCell ⟨gb201, 0, none⟩ (.int .i64 ((rd_T34 l0_2 x3_2).f0))).setCell ⟨gb201, 1, none⟩ (.string ((rd_T34 l0_2 x3_2).f1))).setCell ⟨gb201, 2, none⟩ (.string ((rd_T34 l0_2 x3_2).f2))).setCell ⟨gb201, 3, none⟩ (.string ((rd_T34 l0_2 x3_2).f3))).setCell ⟨gb201, 4, none⟩ (.bool ((rd_T34 l0_2 x3_2).f4))).setCell ⟨gb201, 5, none⟩ (.int .i64 ((rd_T34 l0_2 x3_2).f5))).setCell ⟨gb201, 6, none⟩ (.bool ((rd_T34 l0_2 x3_2).f6))) = w39 at n0_ n1_ n2_ ⊢
                      have BK197 := n0_
                      have BK201 := n1_
                      have HB := n2_
                      clear n0_ n1_ n2_
                      have n0_ := Aside0.mk (blk_drew BK197.out)
                      have n1_ := Aside0.mk (blk_drew BK201.out)
                      have n2_ := Aside0.mk (below_drew1 HB.out)
                      clear BK197
                      clear BK201
                      clear HB
                      have BK197 := n0_
                      have BK201 := n1_
                      have HB := n2_
                      clear n0_ n1_ n2_
                      refine start_ (n := 36) (S := fun w' => w'.cell? ⟨gb201, 0, none⟩ = some (.int .i64 ((rd_T34 l0_2 x3_2).f0)) ∧ w'.cell? ⟨gb201, 1, none⟩ = some (.string ((rd_T34 l0_2 x3_2).f1)) ∧ w'.cell? ⟨gb201, 2, none⟩ = some (.string ((rd_T34 l0_2 x3_2).f2)) ∧ w'.cell? ⟨gb201, 3, none⟩ = some (.string ((rd_T34 l0_2 x3_2).f3)) ∧ w'.cell? ⟨gb201, 4, none⟩ = some (.bool ((rd_T34 l0_2 x3_2).f4)) ∧ w'.cell? ⟨gb201, 5, none⟩ = some (.int .i64 ((rd_T34 l0_2 x3_2).f5)) ∧ w'.cell? ⟨gb201, 6, none⟩ = some (.bool ((rd_T34 l0_2 x3_2).f6)) ∧ w'.cell? ⟨gb197, 0, none⟩ = some (.int .i64 a0_0) ∧ w'.cell? ⟨gb197, 1, none⟩ = some (.int .i64 a0_1) ∧ w'.cell? ⟨gb197, 2, none⟩ = some (.slice (some ad200) l0_2.length c0_2)) (ds := []) (bv 36 0) (by kernel_rfl) rfl rfl ⟨bc BK201.out 0, bc BK201.out 1, bc BK201.out 2, bc BK201.out 3, bc BK201.out 4, bc BK201.out 5, bc BK201.out 6, bc BK197.out 0, bc BK197.out 1, bc BK197.out 2⟩ (fun hHeld => ?_); refine with_tabW spec_TableRight.tab7 spec_TableRight.bits7 (fun HT_ HW_ => ?_)
                      generalize w39.drew = w40 at BK197 BK201 HB hHeld ⊢
                      refine tk 0 34 (bv 36 1) HT_.out HW_.out hHeld (h := ?_)
                      refine one_ (i := 1) (N := some 35) (bv 36 3) rfl rfl (one_of HT_.out (by kernel_rfl)) (by decide) (fun K hK => ?_)
                      refine goes_ Tryd.func110 (by kernel_rfl) rfl #[.agg #[.int .i64 ((rd_T34 l0_2 x3_2).f0), .string ((rd_T34 l0_2 x3_2).f1), .string ((rd_T34 l0_2 x3_2).f2), .string ((rd_T34 l0_2 x3_2).f3), .bool ((rd_T34 l0_2 x3_2).f4), .int .i64 ((rd_T34 l0_2 x3_2).f5), .bool ((rd_T34 l0_2 x3_2).f6)]] (by rfl) rfl rfl Ag ?_
                      with_reducible refine (spec_l12Row.calls k2 ((rd_T34 l0_2 x3_2).f0) ((rd_T34 l0_2 x3_2).f1) ((rd_T34 l0_2 x3_2).f2) ((rd_T34 l0_2 x3_2).f3) ((rd_T34 l0_2 x3_2).f4) ((rd_T34 l0_2 x3_2).f5) ((rd_T34 l0_2 x3_2).f6) true _ A19.out).mono ?_
                      rintro e w41 ⟨rfl, hb⟩
                      refine ⟨_, rfl, ?_⟩
                      have n0_ := Aside0.mk (bb BK197.out hb)
                      have n1_ := Aside0.mk (bb BK201.out hb)
                      have n2_ := Aside0.mk (below_step By hb)
                      clear BK197
                      clear BK201
                      clear HB
                      have BK197 := n0_
                      have BK201 := n1_
                      have HB := n2_
                      clear n0_ n1_ n2_
                      (try clear hb)
                      (try clear hb2)
                      (try clear hk)
                      (try clear hi)
                      refine hK.out _ _ ⟨bc BK201.out 0, bc BK201.out 1, bc BK201.out 2, bc BK201.out 3, bc BK201.out 4, bc BK201.out 5, bc BK201.out 6, bc BK197.out 0, bc BK197.out 1, bc BK197.out 2⟩ (fun hHeld => ?_)
                      clear hK K
                      refine norm_ (a' := ?_) ?_ ?_
                      rotate_left
                      · show Act.put _ (some 35) _ = _
                        simp only [Act.put, List.setIfInBounds_toArray, List.set_cons_zero, List.set_cons_succ, i64_w, i32_w]
                        rfl
                      refine pu 2 36 (bv 36 7) HT_.out (h := ?_)
                      refine pu 3 37 (bv 36 15) HT_.out (h := ?_)
                      refine pu 4 38 (bv 36 31) HT_.out (h := ?_)
                      refine pu 6 40 (bv 36 95) HT_.out (h := ?_)
                      refine tk 5 39 (bv 36 127) HT_.out HW_.out hHeld (h := ?_)
                      refine tk 7 41 (bv 36 255) HT_.out HW_.out hHeld (h := ?_)
                      refine pu 8 42 (bv 36 511) HT_.out (h := ?_)
                      refine one_ (i := 9) (N := some 43) (bv 36 1023) rfl rfl (one_of HT_.out (by kernel_rfl)) (by decide) (fun K hK => ?_)
                      refine goes_ Tryd.func74 (by kernel_rfl) rfl #[.int .i64 ((rd_T34 l0_2 x3_2).f0), .int .i64 1, .int .i64 (wrap64 (a0_0 - 1))] (by rfl) rfl rfl Ag ?_
                      with_reducible refine (spec_l02Is.calls ((rd_T34 l0_2 x3_2).f0) 1 (wrap64 (a0_0 - 1)) false _ A21.out).mono ?_
                      rintro e w' ⟨rfl, ⟨nd, rfl⟩⟩
                      refine ⟨_, rfl, ?_⟩
                      refine hK.out _ _ ⟨bc BK201.out 0, bc BK201.out 1, bc BK201.out 2, bc BK201.out 3, bc BK201.out 4, bc BK201.out 5, bc BK201.out 6, bc BK197.out 0, bc BK197.out 1, bc BK197.out 2⟩ (fun hHeld => ?_)
                      clear hK K
                      refine norm_ (a' := ?_) ?_ ?_
                      rotate_left
                      · show Act.put _ (some 43) _ = _
                        simp only [Act.put, List.setIfInBounds_toArray, List.set_cons_zero, List.set_cons_succ, i64_w, i32_w]
                        rfl
                      refine pu 10 44 (bv 36 2047) HT_.out (h := ?_)
                      refine pu 11 45 (bv 36 4095) HT_.out (h := ?_)
                      refine pu 12 46 (bv 36 8191) HT_.out (h := ?_)
                      refine pn 13 47 (bv 36 16383) HT_.out (h := ?_)
                      refine pn 14 48 (bv 36 32767) HT_.out (h := ?_)
                      refine pn 15 49 (bv 36 65535) HT_.out (h := ?_)
                      refine pn 16 50 (bv 36 131071) HT_.out (h := ?_)
                      refine pn 17 51 (bv 36 262143) HT_.out (h := ?_)
                      refine pn 18 52 (bv 36 524287) HT_.out (h := ?_)
                      refine pn 19 53 (bv 36 1048575) HT_.out (h := ?_)
                      refine pn 20 54 (bv 36 2097151) HT_.out (h := ?_)
                      refine pn 21 55 (bv 36 4194303) HT_.out (h := ?_)
                      refine pn 22 56 (bv 36 8388607) HT_.out (h := ?_)
                      refine pn 23 57 (bv 36 16777215) HT_.out (h := ?_)
                      refine pn 24 58 (bv 36 33554431) HT_.out (h := ?_)
                      refine pn 25 59 (bv 36 67108863) HT_.out (h := ?_)
                      refine pn 26 60 (bv 36 134217727) HT_.out (h := ?_)
                      refine pu 27 61 (bv 36 268435455) HT_.out (h := ?_)
                      refine pu 28 62 (bv 36 536870911) HT_.out (h := ?_)
                      refine pn 29 63 (bv 36 1073741823) HT_.out (h := ?_)
                      refine pn 30 64 (bv 36 2147483647) HT_.out (h := ?_)
                      refine pn 31 65 (bv 36 4294967295) HT_.out (h := ?_)
                      refine pn 32 66 (bv 36 8589934591) HT_.out (h := ?_)
                      refine pn 33 67 (bv 36 17179869183) HT_.out (h := ?_)
                      refine pn 34 68 (bv 36 34359738367) HT_.out (h := ?_)
                      refine pu 35 69 (bv 36 68719476735) HT_.out (h := ?_)
                      refine done_ (done_of HT_.out (by kernel_rfl)) ?_
                      try go_wp2
                      go_meet
                      case rel => exact ⟨_, (true), (by first | rfl | (simp; done) | (simp [*]; done)), H', ⟨by have := HJ1.out; have := HK2.out; first | omega | exact Nat.le_refl _⟩, ⟨by (with_reducible repeat (first | refine blk_drewN ?_ _ | refine blk_drew ?_ | refine blk_alloc ?_ _)); exact BK197.out⟩, ⟨by (with_reducible repeat (first | refine blk_drewN ?_ _ | refine blk_drew ?_ | refine blk_alloc ?_ _)); exact BK201.out⟩, ⟨By⟩⟩
                  · replace c20 := Bool.eq_false_iff.mpr c20
                    subst c20
                    have H1 : (spec_TableRight.j2 k2 x3_2 true a0_0 a0_1 l0_2 ((rd_T34 l0_2 x3_2).f0) ((rd_T34 l0_2 x3_2).f1) ((rd_T34 l0_2 x3_2).f2) ((rd_T34 l0_2 x3_2).f3) ((rd_T34 l0_2 x3_2).f4) ((rd_T34 l0_2 x3_2).f5) ((rd_T34 l0_2 x3_2).f6)) = some r := by rw [if_neg (show ¬ (false = true) by decide)] at H; exact H
                    clear H
                    have H := H1
                    clear H1
                    have H' := Aside0.mk H
                    clear H
                    try go_wp2
                    have n0_ : Aside0 ((((((((w16.setCell ⟨gb201, 0, none⟩ (.int .i64 ((rd_T34 l0_2 x3_2).f0))).setCell ⟨gb201, 1, none⟩ (.string ((rd_T34 l0_2 x3_2).f1))).setCell ⟨gb201, 2, none⟩ (.string ((rd_T34 l0_2 x3_2).f2))).setCell ⟨gb201, 3, none⟩ (.string ((rd_T34 l0_2 x3_2).f3))).setCell ⟨gb201, 4, none⟩ (.bool ((rd_T34 l0_2 x3_2).f4))).setCell ⟨gb201, 5, none⟩ (.int .i64 ((rd_T34 l0_2 x3_2).f5))).setCell ⟨gb201, 6, none⟩ (.bool ((rd_T34 l0_2 x3_2).f6))).heap[gb197]? = some (.cells #[.int .i64 a0_0, .int .i64 a0_1, .slice (some ad200) l0_2.length c0_2] 38 (0, 0))) := ⟨Fr⟩
                    have n1_ : Aside0 ((((((((w16.setCell ⟨gb201, 0, none⟩ (.int .i64 ((rd_T34 l0_2 x3_2).f0))).setCell ⟨gb201, 1, none⟩ (.string ((rd_T34 l0_2 x3_2).f1))).setCell ⟨gb201, 2, none⟩ (.string ((rd_T34 l0_2 x3_2).f2))).setCell ⟨gb201, 3, none⟩ (.string ((rd_T34 l0_2 x3_2).f3))).setCell ⟨gb201, 4, none⟩ (.bool ((rd_T34 l0_2 x3_2).f4))).setCell ⟨gb201, 5, none⟩ (.int .i64 ((rd_T34 l0_2 x3_2).f5))).setCell ⟨gb201, 6, none⟩ (.bool ((rd_T34 l0_2 x3_2).f6))).heap[gb201]? = some (.cells #[.int .i64 ((rd_T34 l0_2 x3_2).f0), .string ((rd_T34 l0_2 x3_2).f1), .string ((rd_T34 l0_2 x3_2).f2), .string ((rd_T34 l0_2 x3_2).f3), .bool ((rd_T34 l0_2 x3_2).f4), .int .i64 ((rd_T34 l0_2 x3_2).f5), .bool ((rd_T34 l0_2 x3_2).f6)] 34 (0, 0))) := ⟨(pq7 Pk)⟩
                    have n2_ : Aside0 (Below w.heap.size w (((((((w16.setCell ⟨gb201, 0, none⟩ (.int .i64 ((rd_T34 l0_2 x3_2).f0))).setCell ⟨gb201, 1, none⟩ (.string ((rd_T34 l0_2 x3_2).f1))).setCell ⟨gb201, 2, none⟩ (.string ((rd_T34 l0_2 x3_2).f2))).setCell ⟨gb201, 3, none⟩ (.string ((rd_T34 l0_2 x3_2).f3))).setCell ⟨gb201, 4, none⟩ (.bool ((rd_T34 l0_2 x3_2).f4))).setCell ⟨gb201, 5, none⟩ (.int .i64 ((rd_T34 l0_2 x3_2).f5))).setCell ⟨gb201, 6, none⟩ (.bool ((rd_T34 l0_2 x3_2).f6)))) := ⟨By⟩
                    (try clear BK197)
                    (try clear BK201)
                    (try clear HB)
                    generalize (((((((w16.setCell ⟨gb201, 0, none⟩ (.int .i64 ((rd_T34 l0_2 x3_2).f0))).setCell ⟨gb201, 1, none⟩ (.string ((rd_T34 l0_2 x3_2).f1))).setCell ⟨gb201, 2, none⟩ (.string ((rd_T34 l0_2 x3_2).f2))).setCell ⟨gb201, 3, none⟩ (.string ((rd_T34 l0_2 x3_2).f3))).setCell ⟨gb201, 4, none⟩ (.bool ((rd_T34 l0_2 x3_2).f4))).setCell ⟨gb201, 5, none⟩ (.int .i64 ((rd_T34 l0_2 x3_2).f5))).setCell ⟨gb201, 6, none⟩ (.bool ((rd_T34 l0_2 x3_2).f6))) = w42 at n0_ n1_ n2_ ⊢
                    have BK197 := n0_
                    have BK201 := n1_
                    have HB := n2_
                    clear n0_ n1_ n2_
                    have n0_ := Aside0.mk (blk_drew BK197.out)
                    have n1_ := Aside0.mk (blk_drew BK201.out)
                    have n2_ := Aside0.mk (below_drew1 HB.out)
                    clear BK197
                    clear BK201
                    clear HB
                    have BK197 := n0_
                    have BK201 := n1_
                    have HB := n2_
                    clear n0_ n1_ n2_
                    refine start_ (n := 36) (S := fun w' => w'.cell? ⟨gb201, 0, none⟩ = some (.int .i64 ((rd_T34 l0_2 x3_2).f0)) ∧ w'.cell? ⟨gb201, 1, none⟩ = some (.string ((rd_T34 l0_2 x3_2).f1)) ∧ w'.cell? ⟨gb201, 2, none⟩ = some (.string ((rd_T34 l0_2 x3_2).f2)) ∧ w'.cell? ⟨gb201, 3, none⟩ = some (.string ((rd_T34 l0_2 x3_2).f3)) ∧ w'.cell? ⟨gb201, 4, none⟩ = some (.bool ((rd_T34 l0_2 x3_2).f4)) ∧ w'.cell? ⟨gb201, 5, none⟩ = some (.int .i64 ((rd_T34 l0_2 x3_2).f5)) ∧ w'.cell? ⟨gb201, 6, none⟩ = some (.bool ((rd_T34 l0_2 x3_2).f6))) (ds := []) (bv 36 0) (by kernel_rfl) rfl rfl ⟨bc BK201.out 0, bc BK201.out 1, bc BK201.out 2, bc BK201.out 3, bc BK201.out 4, bc BK201.out 5, bc BK201.out 6⟩ (fun hHeld => ?_); refine with_tabW spec_TableRight.tab7 spec_TableRight.bits7 (fun HT_ HW_ => ?_)
                    generalize w42.drew = w43 at BK197 BK201 HB hHeld ⊢
                    refine tk 0 34 (bv 36 1) HT_.out HW_.out hHeld (h := ?_)
                    refine one_ (i := 1) (N := some 35) (bv 36 3) rfl rfl (one_of HT_.out (by kernel_rfl)) (by decide) (fun K hK => ?_)
                    refine goes_ Tryd.func110 (by kernel_rfl) rfl #[.agg #[.int .i64 ((rd_T34 l0_2 x3_2).f0), .string ((rd_T34 l0_2 x3_2).f1), .string ((rd_T34 l0_2 x3_2).f2), .string ((rd_T34 l0_2 x3_2).f3), .bool ((rd_T34 l0_2 x3_2).f4), .int .i64 ((rd_T34 l0_2 x3_2).f5), .bool ((rd_T34 l0_2 x3_2).f6)]] (by rfl) rfl rfl Ag ?_
                    with_reducible refine (spec_l12Row.calls k2 ((rd_T34 l0_2 x3_2).f0) ((rd_T34 l0_2 x3_2).f1) ((rd_T34 l0_2 x3_2).f2) ((rd_T34 l0_2 x3_2).f3) ((rd_T34 l0_2 x3_2).f4) ((rd_T34 l0_2 x3_2).f5) ((rd_T34 l0_2 x3_2).f6) false _ A19.out).mono ?_
                    rintro e w44 ⟨rfl, hb⟩
                    refine ⟨_, rfl, ?_⟩
                    have n0_ := Aside0.mk (bb BK197.out hb)
                    have n1_ := Aside0.mk (bb BK201.out hb)
                    have n2_ := Aside0.mk (below_step By hb)
                    clear BK197
                    clear BK201
                    clear HB
                    have BK197 := n0_
                    have BK201 := n1_
                    have HB := n2_
                    clear n0_ n1_ n2_
                    (try clear hb)
                    (try clear hb2)
                    (try clear hk)
                    (try clear hi)
                    refine hK.out _ _ ⟨bc BK201.out 0, bc BK201.out 1, bc BK201.out 2, bc BK201.out 3, bc BK201.out 4, bc BK201.out 5, bc BK201.out 6⟩ (fun hHeld => ?_)
                    clear hK K
                    refine norm_ (a' := ?_) ?_ ?_
                    rotate_left
                    · show Act.put _ (some 35) _ = _
                      simp only [Act.put, List.setIfInBounds_toArray, List.set_cons_zero, List.set_cons_succ, i64_w, i32_w]
                      rfl
                    refine pu 2 36 (bv 36 7) HT_.out (h := ?_)
                    refine pu 3 37 (bv 36 15) HT_.out (h := ?_)
                    refine pn 4 38 (bv 36 31) HT_.out (h := ?_)
                    refine pn 5 39 (bv 36 63) HT_.out (h := ?_)
                    refine pn 6 40 (bv 36 127) HT_.out (h := ?_)
                    refine pn 7 41 (bv 36 255) HT_.out (h := ?_)
                    refine pn 8 42 (bv 36 511) HT_.out (h := ?_)
                    refine pn 9 43 (bv 36 1023) HT_.out (h := ?_)
                    refine pn 10 44 (bv 36 2047) HT_.out (h := ?_)
                    refine pu 11 45 (bv 36 4095) HT_.out (h := ?_)
                    refine pu 12 46 (bv 36 8191) HT_.out (h := ?_)
                    refine pn 13 47 (bv 36 16383) HT_.out (h := ?_)
                    refine pn 14 48 (bv 36 32767) HT_.out (h := ?_)
                    refine pn 15 49 (bv 36 65535) HT_.out (h := ?_)
                    refine pn 16 50 (bv 36 131071) HT_.out (h := ?_)
                    refine pn 17 51 (bv 36 262143) HT_.out (h := ?_)
                    refine pn 18 52 (bv 36 524287) HT_.out (h := ?_)
                    refine pn 19 53 (bv 36 1048575) HT_.out (h := ?_)
                    refine pn 20 54 (bv 36 2097151) HT_.out (h := ?_)
                    refine pn 21 55 (bv 36 4194303) HT_.out (h := ?_)
                    refine pn 22 56 (bv 36 8388607) HT_.out (h := ?_)
                    refine pn 23 57 (bv 36 16777215) HT_.out (h := ?_)
                    refine pn 24 58 (bv 36 33554431) HT_.out (h := ?_)
                    refine pn 25 59 (bv 36 67108863) HT_.out (h := ?_)
                    refine pn 26 60 (bv 36 134217727) HT_.out (h := ?_)
                    refine pu 27 61 (bv 36 268435455) HT_.out (h := ?_)
                    refine pu 28 62 (bv 36 536870911) HT_.out (h := ?_)
                    refine pn 29 63 (bv 36 1073741823) HT_.out (h := ?_)
                    refine pn 30 64 (bv 36 2147483647) HT_.out (h := ?_)
                    refine pn 31 65 (bv 36 4294967295) HT_.out (h := ?_)
                    refine pn 32 66 (bv 36 8589934591) HT_.out (h := ?_)
                    refine pn 33 67 (bv 36 17179869183) HT_.out (h := ?_)
                    refine pn 34 68 (bv 36 34359738367) HT_.out (h := ?_)
                    refine pu 35 69 (bv 36 68719476735) HT_.out (h := ?_)
                    refine done_ (done_of HT_.out (by kernel_rfl)) ?_
                    try go_wp2
                    go_meet
                    case rel => exact ⟨_, (true), (by first | rfl | (simp; done) | (simp [*]; done)), H', ⟨by have := HJ1.out; have := HK2.out; first | omega | exact Nat.le_refl _⟩, ⟨by (with_reducible repeat (first | refine blk_drewN ?_ _ | refine blk_drew ?_ | refine blk_alloc ?_ _)); exact BK197.out⟩, ⟨by (with_reducible repeat (first | refine blk_drewN ?_ _ | refine blk_drew ?_ | refine blk_alloc ?_ _)); exact BK201.out⟩, ⟨By⟩⟩
                case rest =>
                  clear HC14
                  try clear c1
                  try clear c2
                  try clear p2
                  try clear p6
                  try clear c7
                  try clear c11
                  try clear c20
                  try clear c22
                  obtain ⟨kq, x69_13, rfl, HA, HJ13, BK197, BK201, HB⟩ := hcut
                  cases kq with
                  | zero => exact absurd HA.out (by simp [spec_TableRight.j2])
                  | succ kj13 =>
                    have H := HA.out
                    clear HA
                    simp only [spec_TableRight.j2] at H
                    by_cases c45 : x69_13 = true
                    · subst c45
                      have H1 : (some false) = some r := by rw [if_pos rfl] at H; exact H
                      clear H
                      have H := H1
                      clear H1
                      obtain rfl := Option.some.inj H
                      go_wp2
                      go_ret
                      exact ⟨Rf, By⟩
                    · replace c45 := Bool.eq_false_iff.mpr c45
                      subst c45
                      have H1 : (spec_TableRight.l1 kj13 x3_2 0 a0_0 a0_1 l0_2 ((rd_T34 l0_2 x3_2).f0) ((rd_T34 l0_2 x3_2).f1) ((rd_T34 l0_2 x3_2).f2) ((rd_T34 l0_2 x3_2).f3) ((rd_T34 l0_2 x3_2).f4) ((rd_T34 l0_2 x3_2).f5) ((rd_T34 l0_2 x3_2).f6)) = some r := by rw [if_neg (show ¬ (false = true) by decide)] at H; exact H
                      clear H
                      have H := H1
                      clear H1
                      have H' := Aside0.mk H
                      clear H
                      go_wp2
                      go_loopg [5] kj13 (fun kq v5 w' => ∃ (x5_4 : Int), v5 = .int .i64 x5_4 ∧ Aside0 (spec_TableRight.l1 kq x3_2 x5_4 a0_0 a0_1 l0_2 ((rd_T34 l0_2 x3_2).f0) ((rd_T34 l0_2 x3_2).f1) ((rd_T34 l0_2 x3_2).f2) ((rd_T34 l0_2 x3_2).f3) ((rd_T34 l0_2 x3_2).f4) ((rd_T34 l0_2 x3_2).f5) ((rd_T34 l0_2 x3_2).f6) = some r) ∧ Aside0 (kq ≤ kj13) ∧ Aside0 (w'.heap[gb197]? = some (.cells #[.int .i64 a0_0, .int .i64 a0_1, (.slice (some ad200) l0_2.length c0_2)] 38 (0, 0))) ∧ Aside0 (w'.heap[gb201]? = some (.cells #[.int .i64 ((rd_T34 l0_2 x3_2).f0), .string ((rd_T34 l0_2 x3_2).f1), .string ((rd_T34 l0_2 x3_2).f2), .string ((rd_T34 l0_2 x3_2).f3), .bool ((rd_T34 l0_2 x3_2).f4), .int .i64 ((rd_T34 l0_2 x3_2).f5), .bool ((rd_T34 l0_2 x3_2).f6)] 34 (0, 0))) ∧ Aside0 (Below w.heap.size w w'))
                      case atStart => exact ⟨(0), (by first | rfl | (simp; done) | (simp [*]; done)), H', ⟨Nat.le_refl _⟩, ⟨by (with_reducible repeat (first | refine blk_drewN ?_ _ | refine blk_drew ?_ | refine blk_alloc ?_ _)); exact BK197.out⟩, ⟨by (with_reducible repeat (first | refine blk_drewN ?_ _ | refine blk_drew ?_ | refine blk_alloc ?_ _)); exact BK201.out⟩, ⟨By⟩⟩
                      case round =>
                        clear H'
                        try clear c1
                        try clear c2
                        try clear p2
                        try clear c4
                        try clear p6
                        try clear c7
                        try clear c11
                        try clear c20
                        try clear c22
                        try clear c45
                        try clear p2
                        try clear p6
                        obtain ⟨x5_4, rfl, HA, HK4, BK197, BK201, HB⟩ := hrel
                        cases gk with
                        | zero => exact absurd HA.out (by simp [spec_TableRight.l1])
                        | succ k4 =>
                          have H := HA.out
                          clear HA
                          simp only [spec_TableRight.l1] at H
                          by_cases c46 : x5_4 < x3_2
                          · rw [if_pos c46] at H
                            have c46b0 : decide (x5_4 < x3_2) = true := decide_eq_true c46
                            clear c46
                            by_cases c47 : 0 ≤ x5_4
                            · rw [if_pos c47] at H
                              have c47b0 : decide (0 ≤ x5_4) = true := decide_eq_true c47
                              clear c47
                              by_cases c48 : x5_4 < (l0_2.length : Int)
                              · rw [if_pos c48] at H
                                have c48b0 : decide (x5_4 < (l0_2.length : Int)) = true := decide_eq_true c48
                                clear c48
                                by_cases c49 : ((rd_T34 l0_2 x5_4).f5) = ((rd_T34 l0_2 x3_2).f5)
                                · rw [if_pos c49] at H
                                  have c49b0 : (((rd_T34 l0_2 x5_4).f5) == ((rd_T34 l0_2 x3_2).f5)) = true := beq_iff_eq.mpr c49
                                  have c49b1 : (((rd_T34 l0_2 x5_4).f5) != ((rd_T34 l0_2 x3_2).f5)) = false := bne_eq_false_iff_eq.mpr c49
                                  clear c49
                                  obtain rfl := Option.some.inj H
                                  try go_wp2
                                  have n0_ := Aside0.mk (blk_drew BK197.out)
                                  have n1_ := Aside0.mk (blk_drew BK201.out)
                                  have n2_ := Aside0.mk (below_drew1 HB.out)
                                  clear BK197
                                  clear BK201
                                  clear HB
                                  have BK197 := n0_
                                  have BK201 := n1_
                                  have HB := n2_
                                  clear n0_ n1_ n2_
                                  have p207 : 0 ≤ (x5_4 : Int) := of_decide_eq_true Da
                                  have q207 : x5_4 < (l0_2.length : Int) := of_decide_eq_true Da
                                  obtain ⟨ad207, e207, hx207_0, hx207_1, hx207_2, hx207_3, hx207_4, hx207_5, hx207_6⟩ := at_T34 HR0_2.out x5_4 p207 q207
                                  have hw207_6 := hx207_6
                                  have hw207_5 := hx207_5
                                  have hw207_4 := hx207_4
                                  have hw207_3 := hx207_3
                                  have hw207_2 := hx207_2
                                  have hw207_1 := hx207_1
                                  have hw207_0 := hx207_0
                                  obtain rfl : ad200 = ad207 := (by injection e207)
                                  replace hx207_0 := bz HB.out hx207_0
                                  replace hx207_1 := bz HB.out hx207_1
                                  replace hx207_2 := bz HB.out hx207_2
                                  replace hx207_3 := bz HB.out hx207_3
                                  replace hx207_4 := bz HB.out hx207_4
                                  replace hx207_5 := bz HB.out hx207_5
                                  replace hx207_6 := bz HB.out hx207_6
                                  replace p207 := eq_true p207
                                  replace q207 := eq_true q207
                                  refine start_ (n := 34) (S := fun w' => w'.cell? ⟨gb197, 0, none⟩ = some (.int .i64 a0_0) ∧ w'.cell? ⟨gb197, 1, none⟩ = some (.int .i64 a0_1) ∧ w'.cell? ⟨gb197, 2, none⟩ = some (.slice (some ad200) l0_2.length c0_2) ∧ w'.cell? ⟨gb201, 0, none⟩ = some (.int .i64 ((rd_T34 l0_2 x3_2).f0)) ∧ w'.cell? ⟨gb201, 1, none⟩ = some (.string ((rd_T34 l0_2 x3_2).f1)) ∧ w'.cell? ⟨gb201, 2, none⟩ = some (.string ((rd_T34 l0_2 x3_2).f2)) ∧ w'.cell? ⟨gb201, 3, none⟩ = some (.string ((rd_T34 l0_2 x3_2).f3)) ∧ w'.cell? ⟨gb201, 4, none⟩ = some (.bool ((rd_T34 l0_2 x3_2).f4)) ∧ w'.cell? ⟨gb201, 5, none⟩ = some (.int .i64 ((rd_T34 l0_2 x3_2).f5)) ∧ w'.cell? ⟨gb201, 6, none⟩ = some (.bool ((rd_T34 l0_2 x3_2).f6)) ∧ w'.cell? (ad200.add ((x5_4).toNat * 7)) = some (.int .i64 ((rd_T34 l0_2 x5_4).f0)) ∧ w'.cell? ⟨(ad200.add ((x5_4).toNat * 7)).block, (ad200.add ((x5_4).toNat * 7)).off + 1, none⟩ = some (.string ((rd_T34 l0_2 x5_4).f1)) ∧ w'.cell? ⟨(ad200.add ((x5_4).toNat * 7)).block, (ad200.add ((x5_4).toNat * 7)).off + 2, none⟩ = some (.string ((rd_T34 l0_2 x5_4).f2)) ∧ w'.cell? ⟨(ad200.add ((x5_4).toNat * 7)).block, (ad200.add ((x5_4).toNat * 7)).off + 3, none⟩ = some (.string ((rd_T34 l0_2 x5_4).f3)) ∧ w'.cell? ⟨(ad200.add ((x5_4).toNat * 7)).block, (ad200.add ((x5_4).toNat * 7)).off + 4, none⟩ = some (.bool ((rd_T34 l0_2 x5_4).f4)) ∧ w'.cell? ⟨(ad200.add ((x5_4).toNat * 7)).block, (ad200.add ((x5_4).toNat * 7)).off + 5, none⟩ = some (.int .i64 ((rd_T34 l0_2 x5_4).f5)) ∧ w'.cell? ⟨(ad200.add ((x5_4).toNat * 7)).block, (ad200.add ((x5_4).toNat * 7)).off + 6, none⟩ = some (.bool ((rd_T34 l0_2 x5_4).f6))) (ds := []) (bv 34 0) (by kernel_rfl) rfl rfl ⟨bc BK197.out 0, bc BK197.out 1, bc BK197.out 2, bc BK201.out 0, bc BK201.out 1, bc BK201.out 2, bc BK201.out 3, bc BK201.out 4, bc BK201.out 5, bc BK201.out 6, (bz HB.out hw207_0), (bz HB.out hw207_1), (bz HB.out hw207_2), (bz HB.out hw207_3), (bz HB.out hw207_4), (bz HB.out hw207_5), (bz HB.out hw207_6)⟩ (fun hHeld => ?_); refine with_tabW spec_TableRight.tab12 spec_TableRight.bits12 (fun HT_ HW_ => ?_)
                                  generalize wr.drew = w50 at BK197 BK201 HB hx207_0 hx207_1 hx207_2 hx207_3 hx207_4 hx207_5 hx207_6 hHeld ⊢
                                  refine pu 0 75 (bv 34 1) HT_.out (h := ?_)
                                  refine pu 2 77 (bv 34 5) HT_.out (h := ?_)
                                  refine pu 6 81 (bv 34 69) HT_.out (h := ?_)
                                  refine tk 1 76 (bv 34 71) HT_.out HW_.out hHeld (h := ?_)
                                  refine pu 3 78 (bv 34 79) HT_.out (h := ?_)
                                  refine pu 4 79 (bv 34 95) HT_.out (h := ?_)
                                  refine tk 5 80 (bv 34 127) HT_.out HW_.out hHeld (h := ?_)
                                  refine tk 7 82 (bv 34 255) HT_.out HW_.out hHeld (h := ?_)
                                  refine pu 8 83 (bv 34 511) HT_.out (h := ?_)
                                  refine pu 9 84 (bv 34 1023) HT_.out (h := ?_)
                                  refine pn 10 85 (bv 34 2047) HT_.out (h := ?_)
                                  refine pn 11 86 (bv 34 4095) HT_.out (h := ?_)
                                  refine pn 12 87 (bv 34 8191) HT_.out (h := ?_)
                                  refine pn 13 88 (bv 34 16383) HT_.out (h := ?_)
                                  refine pn 14 89 (bv 34 32767) HT_.out (h := ?_)
                                  refine pn 15 90 (bv 34 65535) HT_.out (h := ?_)
                                  refine pn 16 91 (bv 34 131071) HT_.out (h := ?_)
                                  refine pn 17 92 (bv 34 262143) HT_.out (h := ?_)
                                  refine pn 18 93 (bv 34 524287) HT_.out (h := ?_)
                                  refine pn 19 94 (bv 34 1048575) HT_.out (h := ?_)
                                  refine pn 20 95 (bv 34 2097151) HT_.out (h := ?_)
                                  refine pn 21 96 (bv 34 4194303) HT_.out (h := ?_)
                                  refine pn 22 97 (bv 34 8388607) HT_.out (h := ?_)
                                  refine pn 23 98 (bv 34 16777215) HT_.out (h := ?_)
                                  refine pn 24 99 (bv 34 33554431) HT_.out (h := ?_)
                                  refine pn 25 100 (bv 34 67108863) HT_.out (h := ?_)
                                  refine pn 26 101 (bv 34 134217727) HT_.out (h := ?_)
                                  refine pn 27 102 (bv 34 268435455) HT_.out (h := ?_)
                                  refine pn 28 103 (bv 34 536870911) HT_.out (h := ?_)
                                  refine pn 29 104 (bv 34 1073741823) HT_.out (h := ?_)
                                  refine pn 30 105 (bv 34 2147483647) HT_.out (h := ?_)
                                  refine pn 31 106 (bv 34 4294967295) HT_.out (h := ?_)
                                  refine pn 32 107 (bv 34 8589934591) HT_.out (h := ?_)
                                  refine pu 33 108 (bv 34 17179869183) HT_.out (h := ?_)
                                  refine done_ (done_of HT_.out (by kernel_rfl)) ?_
                                  try go_wp2
                                  go_ret
                                  exact ⟨Rf, By⟩
                                · rw [if_neg c49] at H
                                  have c49b0 : (((rd_T34 l0_2 x5_4).f5) == ((rd_T34 l0_2 x3_2).f5)) = false := beq_eq_false_iff_ne.mpr c49
                                  have c49b1 : (((rd_T34 l0_2 x5_4).f5) != ((rd_T34 l0_2 x3_2).f5)) = true := bne_iff_ne.mpr c49
                                  obtain ⟨bq51, hbq51⟩ : ∃ b_ : Bool, b_ = ((rd_T34 l0_2 x5_4).f6) := ⟨_, rfl⟩
                                  replace H : (if (bq51 = true) then (spec_TableRight.l1 k4 x3_2 (wrap64 (x5_4 + 1)) a0_0 a0_1 l0_2 ((rd_T34 l0_2 x3_2).f0) ((rd_T34 l0_2 x3_2).f1) ((rd_T34 l0_2 x3_2).f2) ((rd_T34 l0_2 x3_2).f3) ((rd_T34 l0_2 x3_2).f4) ((rd_T34 l0_2 x3_2).f5) ((rd_T34 l0_2 x3_2).f6)) else (if ((rd_T34 l0_2 x3_2).f6) = true then (spec_TableRight.l1 k4 x3_2 (wrap64 (x5_4 + 1)) a0_0 a0_1 l0_2 ((rd_T34 l0_2 x3_2).f0) ((rd_T34 l0_2 x3_2).f1) ((rd_T34 l0_2 x3_2).f2) ((rd_T34 l0_2 x3_2).f3) ((rd_T34 l0_2 x3_2).f4) ((rd_T34 l0_2 x3_2).f5) ((rd_T34 l0_2 x3_2).f6)) else (if ((rd_T34 l0_2 x5_4).f1).toList = ((rd_T34 l0_2 x3_2).f1).toList then (some false) else (spec_TableRight.l1 k4 x3_2 (wrap64 (x5_4 + 1)) a0_0 a0_1 l0_2 ((rd_T34 l0_2 x3_2).f0) ((rd_T34 l0_2 x3_2).f1) ((rd_T34 l0_2 x3_2).f2) ((rd_T34 l0_2 x3_2).f3) ((rd_T34 l0_2 x3_2).f4) ((rd_T34 l0_2 x3_2).f5) ((rd_T34 l0_2 x3_2).f6))))) = some r := by rw [← hbq51] at H; exact H
                                  have Nbq51 := Aside0.mk hbq51
                                  clear hbq51
                                  by_cases c52 : (bq51 = true)
                                  · subst c52
                                    have H1 : (spec_TableRight.l1 k4 x3_2 (wrap64 (x5_4 + 1)) a0_0 a0_1 l0_2 ((rd_T34 l0_2 x3_2).f0) ((rd_T34 l0_2 x3_2).f1) ((rd_T34 l0_2 x3_2).f2) ((rd_T34 l0_2 x3_2).f3) ((rd_T34 l0_2 x3_2).f4) ((rd_T34 l0_2 x3_2).f5) ((rd_T34 l0_2 x3_2).f6)) = some r := by rw [if_pos rfl] at H; exact H
                                    clear H
                                    have H := H1
                                    clear H1
                                    have H' := Aside0.mk H
                                    clear H
                                    try go_wp2
                                    have n0_ := Aside0.mk (blk_drew BK197.out)
                                    have n1_ := Aside0.mk (blk_drew BK201.out)
                                    have n2_ := Aside0.mk (below_drew1 HB.out)
                                    clear BK197
                                    clear BK201
                                    clear HB
                                    have BK197 := n0_
                                    have BK201 := n1_
                                    have HB := n2_
                                    clear n0_ n1_ n2_
                                    have p207 : 0 ≤ (x5_4 : Int) := of_decide_eq_true Da
                                    have q207 : x5_4 < (l0_2.length : Int) := of_decide_eq_true Da
                                    obtain ⟨ad207, e207, hx207_0, hx207_1, hx207_2, hx207_3, hx207_4, hx207_5, hx207_6⟩ := at_T34 HR0_2.out x5_4 p207 q207
                                    have hw207_6 := hx207_6
                                    have hw207_5 := hx207_5
                                    have hw207_4 := hx207_4
                                    have hw207_3 := hx207_3
                                    have hw207_2 := hx207_2
                                    have hw207_1 := hx207_1
                                    have hw207_0 := hx207_0
                                    (try rw [← Nbq51.out] at hx207_4); (try rw [← Nbq51.out] at hw207_4)
                                    (try rw [← Nbq51.out] at hx207_6); (try rw [← Nbq51.out] at hw207_6)
                                    obtain rfl : ad200 = ad207 := (by injection e207)
                                    replace hx207_0 := bz HB.out hx207_0
                                    replace hx207_1 := bz HB.out hx207_1
                                    replace hx207_2 := bz HB.out hx207_2
                                    replace hx207_3 := bz HB.out hx207_3
                                    replace hx207_4 := bz HB.out hx207_4
                                    replace hx207_5 := bz HB.out hx207_5
                                    replace hx207_6 := bz HB.out hx207_6
                                    replace p207 := eq_true p207
                                    replace q207 := eq_true q207
                                    have p208 : 0 ≤ (x5_4 : Int) := of_decide_eq_true Da
                                    have q208 : x5_4 < (l0_2.length : Int) := of_decide_eq_true Da
                                    obtain ⟨ad208, e208, hx208_0, hx208_1, hx208_2, hx208_3, hx208_4, hx208_5, hx208_6⟩ := at_T34 HR0_2.out x5_4 p208 q208
                                    have hw208_6 := hx208_6
                                    have hw208_5 := hx208_5
                                    have hw208_4 := hx208_4
                                    have hw208_3 := hx208_3
                                    have hw208_2 := hx208_2
                                    have hw208_1 := hx208_1
                                    have hw208_0 := hx208_0
                                    (try rw [← Nbq51.out] at hx208_4); (try rw [← Nbq51.out] at hw208_4)
                                    (try rw [← Nbq51.out] at hx208_6); (try rw [← Nbq51.out] at hw208_6)
                                    obtain rfl : ad200 = ad208 := (by injection e208)
                                    replace hx208_0 := bz HB.out hx208_0
                                    replace hx208_1 := bz HB.out hx208_1
                                    replace hx208_2 := bz HB.out hx208_2
                                    replace hx208_3 := bz HB.out hx208_3
                                    replace hx208_4 := bz HB.out hx208_4
                                    replace hx208_5 := bz HB.out hx208_5
                                    replace hx208_6 := bz HB.out hx208_6
                                    replace p208 := eq_true p208
                                    replace q208 := eq_true q208
                                    refine start_ (n := 34) (S := fun w' => w'.cell? ⟨gb197, 0, none⟩ = some (.int .i64 a0_0) ∧ w'.cell? ⟨gb197, 1, none⟩ = some (.int .i64 a0_1) ∧ w'.cell? ⟨gb197, 2, none⟩ = some (.slice (some ad200) l0_2.length c0_2) ∧ w'.cell? ⟨gb201, 0, none⟩ = some (.int .i64 ((rd_T34 l0_2 x3_2).f0)) ∧ w'.cell? ⟨gb201, 1, none⟩ = some (.string ((rd_T34 l0_2 x3_2).f1)) ∧ w'.cell? ⟨gb201, 2, none⟩ = some (.string ((rd_T34 l0_2 x3_2).f2)) ∧ w'.cell? ⟨gb201, 3, none⟩ = some (.string ((rd_T34 l0_2 x3_2).f3)) ∧ w'.cell? ⟨gb201, 4, none⟩ = some (.bool ((rd_T34 l0_2 x3_2).f4)) ∧ w'.cell? ⟨gb201, 5, none⟩ = some (.int .i64 ((rd_T34 l0_2 x3_2).f5)) ∧ w'.cell? ⟨gb201, 6, none⟩ = some (.bool ((rd_T34 l0_2 x3_2).f6)) ∧ w'.cell? (ad200.add ((x5_4).toNat * 7)) = some (.int .i64 ((rd_T34 l0_2 x5_4).f0)) ∧ w'.cell? ⟨(ad200.add ((x5_4).toNat * 7)).block, (ad200.add ((x5_4).toNat * 7)).off + 1, none⟩ = some (.string ((rd_T34 l0_2 x5_4).f1)) ∧ w'.cell? ⟨(ad200.add ((x5_4).toNat * 7)).block, (ad200.add ((x5_4).toNat * 7)).off + 2, none⟩ = some (.string ((rd_T34 l0_2 x5_4).f2)) ∧ w'.cell? ⟨(ad200.add ((x5_4).toNat * 7)).block, (ad200.add ((x5_4).toNat * 7)).off + 3, none⟩ = some (.string ((rd_T34 l0_2 x5_4).f3)) ∧ w'.cell? ⟨(ad200.add ((x5_4).toNat * 7)).block, (ad200.add ((x5_4).toNat * 7)).off + 4, none⟩ = some (.bool ((rd_T34 l0_2 x5_4).f4)) ∧ w'.cell? ⟨(ad200.add ((x5_4).toNat * 7)).block, (ad200.add ((x5_4).toNat * 7)).off + 5, none⟩ = some (.int .i64 ((rd_T34 l0_2 x5_4).f5)) ∧ w'.cell? ⟨(ad200.add ((x5_4).toNat * 7)).block, (ad200.add ((x5_4).toNat * 7)).off + 6, none⟩ = some (.bool true) ∧ w'.cell? (ad200.add ((x5_4).toNat * 7)) = some (.int .i64 ((rd_T34 l0_2 x5_4).f0)) ∧ w'.cell? ⟨(ad200.add ((x5_4).toNat * 7)).block, (ad200.add ((x5_4).toNat * 7)).off + 1, none⟩ = some (.string ((rd_T34 l0_2 x5_4).f1)) ∧ w'.cell? ⟨(ad200.add ((x5_4).toNat * 7)).block, (ad200.add ((x5_4).toNat * 7)).off + 2, none⟩ = some (.string ((rd_T34 l0_2 x5_4).f2)) ∧ w'.cell? ⟨(ad200.add ((x5_4).toNat * 7)).block, (ad200.add ((x5_4).toNat * 7)).off + 3, none⟩ = some (.string ((rd_T34 l0_2 x5_4).f3)) ∧ w'.cell? ⟨(ad200.add ((x5_4).toNat * 7)).block, (ad200.add ((x5_4).toNat * 7)).off + 4, none⟩ = some (.bool ((rd_T34 l0_2 x5_4).f4)) ∧ w'.cell? ⟨(ad200.add ((x5_4).toNat * 7)).block, (ad200.add ((x5_4).toNat * 7)).off + 5, none⟩ = some (.int .i64 ((rd_T34 l0_2 x5_4).f5)) ∧ w'.cell? ⟨(ad200.add ((x5_4).toNat * 7)).block, (ad200.add ((x5_4).toNat * 7)).off + 6, none⟩ = some (.bool true)) (ds := []) (bv 34 0) (by kernel_rfl) rfl rfl ⟨bc BK197.out 0, bc BK197.out 1, bc BK197.out 2, bc BK201.out 0, bc BK201.out 1, bc BK201.out 2, bc BK201.out 3, bc BK201.out 4, bc BK201.out 5, bc BK201.out 6, (bz HB.out hw207_0), (bz HB.out hw207_1), (bz HB.out hw207_2), (bz HB.out hw207_3), (bz HB.out hw207_4), (bz HB.out hw207_5), (bz HB.out hw207_6), (bz HB.out hw208_0), (bz HB.out hw208_1), (bz HB.out hw208_2), (bz HB.out hw208_3), (bz HB.out hw208_4), (bz HB.out hw208_5), (bz HB.out hw208_6)⟩ (fun hHeld => ?_); refine with_tabW spec_TableRight.tab12 spec_TableRight.bits12 (fun HT_ HW_ => ?_)
                                    generalize wr.drew = w53 at BK197 BK201 HB hx207_0 hx207_1 hx207_2 hx207_3 hx207_4 hx207_5 hx207_6 hx208_0 hx208_1 hx208_2 hx208_3 hx208_4 hx208_5 hx208_6 hHeld ⊢
                                    refine pu 0 75 (bv 34 1) HT_.out (h := ?_)
                                    refine pu 2 77 (bv 34 5) HT_.out (h := ?_)
                                    refine pu 6 81 (bv 34 69) HT_.out (h := ?_)
                                    refine tk 1 76 (bv 34 71) HT_.out HW_.out hHeld (h := ?_)
                                    refine pu 3 78 (bv 34 79) HT_.out (h := ?_)
                                    refine pu 4 79 (bv 34 95) HT_.out (h := ?_)
                                    refine tk 5 80 (bv 34 127) HT_.out HW_.out hHeld (h := ?_)
                                    refine tk 7 82 (bv 34 255) HT_.out HW_.out hHeld (h := ?_)
                                    refine pu 8 83 (bv 34 511) HT_.out (h := ?_)
                                    refine pu 9 84 (bv 34 1023) HT_.out (h := ?_)
                                    refine pu 10 85 (bv 34 2047) HT_.out (h := ?_)
                                    refine pu 12 87 (bv 34 6143) HT_.out (h := ?_)
                                    refine tk 11 86 (bv 34 8191) HT_.out HW_.out hHeld (h := ?_)
                                    refine pu 13 88 (bv 34 16383) HT_.out (h := ?_)
                                    refine pu 14 89 (bv 34 32767) HT_.out (h := ?_)
                                    refine tk 15 90 (bv 34 65535) HT_.out HW_.out hHeld (h := ?_)
                                    refine pu 16 91 (bv 34 131071) HT_.out (h := ?_)
                                    refine pu 17 92 (bv 34 262143) HT_.out (h := ?_)
                                    refine pn 18 93 (bv 34 524287) HT_.out (h := ?_)
                                    refine pn 19 94 (bv 34 1048575) HT_.out (h := ?_)
                                    refine pn 20 95 (bv 34 2097151) HT_.out (h := ?_)
                                    refine pu 21 96 (bv 34 4194303) HT_.out (h := ?_)
                                    refine pu 22 97 (bv 34 8388607) HT_.out (h := ?_)
                                    refine pn 23 98 (bv 34 16777215) HT_.out (h := ?_)
                                    refine pn 24 99 (bv 34 33554431) HT_.out (h := ?_)
                                    refine pn 25 100 (bv 34 67108863) HT_.out (h := ?_)
                                    refine pn 26 101 (bv 34 134217727) HT_.out (h := ?_)
                                    refine pn 27 102 (bv 34 268435455) HT_.out (h := ?_)
                                    refine pn 28 103 (bv 34 536870911) HT_.out (h := ?_)
                                    refine pn 29 104 (bv 34 1073741823) HT_.out (h := ?_)
                                    refine pn 30 105 (bv 34 2147483647) HT_.out (h := ?_)
                                    refine pn 31 106 (bv 34 4294967295) HT_.out (h := ?_)
                                    refine pu 32 107 (bv 34 8589934591) HT_.out (h := ?_)
                                    refine pu 33 108 (bv 34 17179869183) HT_.out (h := ?_)
                                    refine done_ (done_of HT_.out (by kernel_rfl)) ?_
                                    try go_wp2
                                    go_roundg k4
                                    case measure => have := HJ1.out; have := HK2.out; have := HJ13.out; have := HK4.out; omega
                                    case rel => exact ⟨(wrap64 (x5_4 + 1)), (by first | rfl | (simp; done) | (simp [*]; done)), H', ⟨by have := HJ1.out; have := HK2.out; have := HJ13.out; have := HK4.out; omega⟩, ⟨by (with_reducible repeat (first | refine blk_drewN ?_ _ | refine blk_drew ?_ | refine blk_alloc ?_ _)); exact BK197.out⟩, ⟨by (with_reducible repeat (first | refine blk_drewN ?_ _ | refine blk_drew ?_ | refine blk_alloc ?_ _)); exact BK201.out⟩, ⟨By⟩⟩
                                  · replace c52 := Bool.eq_false_iff.mpr c52
                                    subst c52
                                    have H1 : (if ((rd_T34 l0_2 x3_2).f6) = true then (spec_TableRight.l1 k4 x3_2 (wrap64 (x5_4 + 1)) a0_0 a0_1 l0_2 ((rd_T34 l0_2 x3_2).f0) ((rd_T34 l0_2 x3_2).f1) ((rd_T34 l0_2 x3_2).f2) ((rd_T34 l0_2 x3_2).f3) ((rd_T34 l0_2 x3_2).f4) ((rd_T34 l0_2 x3_2).f5) ((rd_T34 l0_2 x3_2).f6)) else (if ((rd_T34 l0_2 x5_4).f1).toList = ((rd_T34 l0_2 x3_2).f1).toList then (some false) else (spec_TableRight.l1 k4 x3_2 (wrap64 (x5_4 + 1)) a0_0 a0_1 l0_2 ((rd_T34 l0_2 x3_2).f0) ((rd_T34 l0_2 x3_2).f1) ((rd_T34 l0_2 x3_2).f2) ((rd_T34 l0_2 x3_2).f3) ((rd_T34 l0_2 x3_2).f4) ((rd_T34 l0_2 x3_2).f5) ((rd_T34 l0_2 x3_2).f6)))) = some r := by rw [if_neg (show ¬ (false = true) by decide)] at H; exact H
                                    clear H
                                    have H := H1
                                    clear H1
                                    by_cases c54 : ((rd_T34 l0_2 x3_2).f6) = true
                                    · rw [if_pos c54] at H
                                      have c54b0 : ((rd_T34 l0_2 x3_2).f6) = true := c54
                                      clear c54
                                      have H' := Aside0.mk H
                                      clear H
                                      try go_wp2
                                      have n0_ := Aside0.mk (blk_drew BK197.out)
                                      have n1_ := Aside0.mk (blk_drew BK201.out)
                                      have n2_ := Aside0.mk (below_drew1 HB.out)
                                      clear BK197
                                      clear BK201
                                      clear HB
                                      have BK197 := n0_
                                      have BK201 := n1_
                                      have HB := n2_
                                      clear n0_ n1_ n2_
                                      have p207 : 0 ≤ (x5_4 : Int) := of_decide_eq_true Da
                                      have q207 : x5_4 < (l0_2.length : Int) := of_decide_eq_true Da
                                      obtain ⟨ad207, e207, hx207_0, hx207_1, hx207_2, hx207_3, hx207_4, hx207_5, hx207_6⟩ := at_T34 HR0_2.out x5_4 p207 q207
                                      have hw207_6 := hx207_6
                                      have hw207_5 := hx207_5
                                      have hw207_4 := hx207_4
                                      have hw207_3 := hx207_3
                                      have hw207_2 := hx207_2
                                      have hw207_1 := hx207_1
                                      have hw207_0 := hx207_0
                                      (try rw [← Nbq51.out] at hx207_4); (try rw [← Nbq51.out] at hw207_4)
                                      (try rw [← Nbq51.out] at hx207_6); (try rw [← Nbq51.out] at hw207_6)
                                      obtain rfl : ad200 = ad207 := (by injection e207)
                                      replace hx207_0 := bz HB.out hx207_0
                                      replace hx207_1 := bz HB.out hx207_1
                                      replace hx207_2 := bz HB.out hx207_2
                                      replace hx207_3 := bz HB.out hx207_3
                                      replace hx207_4 := bz HB.out hx207_4
                                      replace hx207_5 := bz HB.out hx207_5
                                      replace hx207_6 := bz HB.out hx207_6
                                      replace p207 := eq_true p207
                                      replace q207 := eq_true q207
                                      have p208 : 0 ≤ (x5_4 : Int) := of_decide_eq_true Da
                                      have q208 : x5_4 < (l0_2.length : Int) := of_decide_eq_true Da
                                      obtain ⟨ad208, e208, hx208_0, hx208_1, hx208_2, hx208_3, hx208_4, hx208_5, hx208_6⟩ := at_T34 HR0_2.out x5_4 p208 q208
                                      have hw208_6 := hx208_6
                                      have hw208_5 := hx208_5
                                      have hw208_4 := hx208_4
                                      have hw208_3 := hx208_3
                                      have hw208_2 := hx208_2
                                      have hw208_1 := hx208_1
                                      have hw208_0 := hx208_0
                                      (try rw [← Nbq51.out] at hx208_4); (try rw [← Nbq51.out] at hw208_4)
                                      (try rw [← Nbq51.out] at hx208_6); (try rw [← Nbq51.out] at hw208_6)
                                      obtain rfl : ad200 = ad208 := (by injection e208)
                                      replace hx208_0 := bz HB.out hx208_0
                                      replace hx208_1 := bz HB.out hx208_1
                                      replace hx208_2 := bz HB.out hx208_2
                                      replace hx208_3 := bz HB.out hx208_3
                                      replace hx208_4 := bz HB.out hx208_4
                                      replace hx208_5 := bz HB.out hx208_5
                                      replace hx208_6 := bz HB.out hx208_6
                                      replace p208 := eq_true p208
                                      replace q208 := eq_true q208
                                      refine start_ (n := 34) (S := fun w' => w'.cell? ⟨gb197, 0, none⟩ = some (.int .i64 a0_0) ∧ w'.cell? ⟨gb197, 1, none⟩ = some (.int .i64 a0_1) ∧ w'.cell? ⟨gb197, 2, none⟩ = some (.slice (some ad200) l0_2.length c0_2) ∧ w'.cell? ⟨gb201, 0, none⟩ = some (.int .i64 ((rd_T34 l0_2 x3_2).f0)) ∧ w'.cell? ⟨gb201, 1, none⟩ = some (.string ((rd_T34 l0_2 x3_2).f1)) ∧ w'.cell? ⟨gb201, 2, none⟩ = some (.string ((rd_T34 l0_2 x3_2).f2)) ∧ w'.cell? ⟨gb201, 3, none⟩ = some (.string ((rd_T34 l0_2 x3_2).f3)) ∧ w'.cell? ⟨gb201, 4, none⟩ = some (.bool ((rd_T34 l0_2 x3_2).f4)) ∧ w'.cell? ⟨gb201, 5, none⟩ = some (.int .i64 ((rd_T34 l0_2 x3_2).f5)) ∧ w'.cell? ⟨gb201, 6, none⟩ = some (.bool ((rd_T34 l0_2 x3_2).f6)) ∧ w'.cell? (ad200.add ((x5_4).toNat * 7)) = some (.int .i64 ((rd_T34 l0_2 x5_4).f0)) ∧ w'.cell? ⟨(ad200.add ((x5_4).toNat * 7)).block, (ad200.add ((x5_4).toNat * 7)).off + 1, none⟩ = some (.string ((rd_T34 l0_2 x5_4).f1)) ∧ w'.cell? ⟨(ad200.add ((x5_4).toNat * 7)).block, (ad200.add ((x5_4).toNat * 7)).off + 2, none⟩ = some (.string ((rd_T34 l0_2 x5_4).f2)) ∧ w'.cell? ⟨(ad200.add ((x5_4).toNat * 7)).block, (ad200.add ((x5_4).toNat * 7)).off + 3, none⟩ = some (.string ((rd_T34 l0_2 x5_4).f3)) ∧ w'.cell? ⟨(ad200.add ((x5_4).toNat * 7)).block, (ad200.add ((x5_4).toNat * 7)).off + 4, none⟩ = some (.bool ((rd_T34 l0_2 x5_4).f4)) ∧ w'.cell? ⟨(ad200.add ((x5_4).toNat * 7)).block, (ad200.add ((x5_4).toNat * 7)).off + 5, none⟩ = some (.int .i64 ((rd_T34 l0_2 x5_4).f5)) ∧ w'.cell? ⟨(ad200.add ((x5_4).toNat * 7)).block, (ad200.add ((x5_4).toNat * 7)).off + 6, none⟩ = some (.bool false) ∧ w'.cell? (ad200.add ((x5_4).toNat * 7)) = some (.int .i64 ((rd_T34 l0_2 x5_4).f0)) ∧ w'.cell? ⟨(ad200.add ((x5_4).toNat * 7)).block, (ad200.add ((x5_4).toNat * 7)).off + 1, none⟩ = some (.string ((rd_T34 l0_2 x5_4).f1)) ∧ w'.cell? ⟨(ad200.add ((x5_4).toNat * 7)).block, (ad200.add ((x5_4).toNat * 7)).off + 2, none⟩ = some (.string ((rd_T34 l0_2 x5_4).f2)) ∧ w'.cell? ⟨(ad200.add ((x5_4).toNat * 7)).block, (ad200.add ((x5_4).toNat * 7)).off + 3, none⟩ = some (.string ((rd_T34 l0_2 x5_4).f3)) ∧ w'.cell? ⟨(ad200.add ((x5_4).toNat * 7)).block, (ad200.add ((x5_4).toNat * 7)).off + 4, none⟩ = some (.bool ((rd_T34 l0_2 x5_4).f4)) ∧ w'.cell? ⟨(ad200.add ((x5_4).toNat * 7)).block, (ad200.add ((x5_4).toNat * 7)).off + 5, none⟩ = some (.int .i64 ((rd_T34 l0_2 x5_4).f5)) ∧ w'.cell? ⟨(ad200.add ((x5_4).toNat * 7)).block, (ad200.add ((x5_4).toNat * 7)).off + 6, none⟩ = some (.bool false)) (ds := []) (bv 34 0) (by kernel_rfl) rfl rfl ⟨bc BK197.out 0, bc BK197.out 1, bc BK197.out 2, bc BK201.out 0, bc BK201.out 1, bc BK201.out 2, bc BK201.out 3, bc BK201.out 4, bc BK201.out 5, bc BK201.out 6, (bz HB.out hw207_0), (bz HB.out hw207_1), (bz HB.out hw207_2), (bz HB.out hw207_3), (bz HB.out hw207_4), (bz HB.out hw207_5), (bz HB.out hw207_6), (bz HB.out hw208_0), (bz HB.out hw208_1), (bz HB.out hw208_2), (bz HB.out hw208_3), (bz HB.out hw208_4), (bz HB.out hw208_5), (bz HB.out hw208_6)⟩ (fun hHeld => ?_); refine with_tabW spec_TableRight.tab12 spec_TableRight.bits12 (fun HT_ HW_ => ?_)
                                      generalize wr.drew = w55 at BK197 BK201 HB hx207_0 hx207_1 hx207_2 hx207_3 hx207_4 hx207_5 hx207_6 hx208_0 hx208_1 hx208_2 hx208_3 hx208_4 hx208_5 hx208_6 hHeld ⊢
                                      refine pu 0 75 (bv 34 1) HT_.out (h := ?_)
                                      refine pu 2 77 (bv 34 5) HT_.out (h := ?_)
                                      refine pu 6 81 (bv 34 69) HT_.out (h := ?_)
                                      refine tk 1 76 (bv 34 71) HT_.out HW_.out hHeld (h := ?_)
                                      refine pu 3 78 (bv 34 79) HT_.out (h := ?_)
                                      refine pu 4 79 (bv 34 95) HT_.out (h := ?_)
                                      refine tk 5 80 (bv 34 127) HT_.out HW_.out hHeld (h := ?_)
                                      refine tk 7 82 (bv 34 255) HT_.out HW_.out hHeld (h := ?_)
                                      refine pu 8 83 (bv 34 511) HT_.out (h := ?_)
                                      refine pu 9 84 (bv 34 1023) HT_.out (h := ?_)
                                      refine pu 10 85 (bv 34 2047) HT_.out (h := ?_)
                                      refine pu 12 87 (bv 34 6143) HT_.out (h := ?_)
                                      refine tk 11 86 (bv 34 8191) HT_.out HW_.out hHeld (h := ?_)
                                      refine pu 13 88 (bv 34 16383) HT_.out (h := ?_)
                                      refine pu 14 89 (bv 34 32767) HT_.out (h := ?_)
                                      refine tk 15 90 (bv 34 65535) HT_.out HW_.out hHeld (h := ?_)
                                      refine pu 16 91 (bv 34 131071) HT_.out (h := ?_)
                                      refine pu 17 92 (bv 34 262143) HT_.out (h := ?_)
                                      refine pu 18 93 (bv 34 524287) HT_.out (h := ?_)
                                      refine tk 19 94 (bv 34 1048575) HT_.out HW_.out hHeld (h := ?_)
                                      refine pu 20 95 (bv 34 2097151) HT_.out (h := ?_)
                                      refine pu 21 96 (bv 34 4194303) HT_.out (h := ?_)
                                      refine pu 22 97 (bv 34 8388607) HT_.out (h := ?_)
                                      refine pn 23 98 (bv 34 16777215) HT_.out (h := ?_)
                                      refine pn 24 99 (bv 34 33554431) HT_.out (h := ?_)
                                      refine pn 25 100 (bv 34 67108863) HT_.out (h := ?_)
                                      refine pn 26 101 (bv 34 134217727) HT_.out (h := ?_)
                                      refine pn 27 102 (bv 34 268435455) HT_.out (h := ?_)
                                      refine pn 28 103 (bv 34 536870911) HT_.out (h := ?_)
                                      refine pn 29 104 (bv 34 1073741823) HT_.out (h := ?_)
                                      refine pn 30 105 (bv 34 2147483647) HT_.out (h := ?_)
                                      refine pn 31 106 (bv 34 4294967295) HT_.out (h := ?_)
                                      refine pu 32 107 (bv 34 8589934591) HT_.out (h := ?_)
                                      refine pu 33 108 (bv 34 17179869183) HT_.out (h := ?_)
                                      refine done_ (done_of HT_.out (by kernel_rfl)) ?_
                                      try go_wp2
                                      go_roundg k4
                                      case measure => have := HJ1.out; have := HK2.out; have := HJ13.out; have := HK4.out; omega
                                      case rel => exact ⟨(wrap64 (x5_4 + 1)), (by first | rfl | (simp; done) | (simp [*]; done)), H', ⟨by have := HJ1.out; have := HK2.out; have := HJ13.out; have := HK4.out; omega⟩, ⟨by (with_reducible repeat (first | refine blk_drewN ?_ _ | refine blk_drew ?_ | refine blk_alloc ?_ _)); exact BK197.out⟩, ⟨by (with_reducible repeat (first | refine blk_drewN ?_ _ | refine blk_drew ?_ | refine blk_alloc ?_ _)); exact BK201.out⟩, ⟨By⟩⟩
                                    · rw [if_neg c54] at H
                                      have c54b0 : ((rd_T34 l0_2 x3_2).f6) = false := by simpa using c54
                                      clear c54
                                      by_cases c56 : ((rd_T34 l0_2 x5_4).f1).toList = ((rd_T34 l0_2 x3_2).f1).toList
                                      · rw [if_pos c56] at H
                                        have c56b0 : (((rd_T34 l0_2 x5_4).f1).toList == ((rd_T34 l0_2 x3_2).f1).toList) = true := beq_iff_eq.mpr c56
                                        have c56b1 : (((rd_T34 l0_2 x5_4).f1).toList != ((rd_T34 l0_2 x3_2).f1).toList) = false := bne_eq_false_iff_eq.mpr c56
                                        clear c56
                                        obtain rfl := Option.some.inj H
                                        try go_wp2
                                        have n0_ := Aside0.mk (blk_drew BK197.out)
                                        have n1_ := Aside0.mk (blk_drew BK201.out)
                                        have n2_ := Aside0.mk (below_drew1 HB.out)
                                        clear BK197
                                        clear BK201
                                        clear HB
                                        have BK197 := n0_
                                        have BK201 := n1_
                                        have HB := n2_
                                        clear n0_ n1_ n2_
                                        have p207 : 0 ≤ (x5_4 : Int) := of_decide_eq_true Da
                                        have q207 : x5_4 < (l0_2.length : Int) := of_decide_eq_true Da
                                        obtain ⟨ad207, e207, hx207_0, hx207_1, hx207_2, hx207_3, hx207_4, hx207_5, hx207_6⟩ := at_T34 HR0_2.out x5_4 p207 q207
                                        have hw207_6 := hx207_6
                                        have hw207_5 := hx207_5
                                        have hw207_4 := hx207_4
                                        have hw207_3 := hx207_3
                                        have hw207_2 := hx207_2
                                        have hw207_1 := hx207_1
                                        have hw207_0 := hx207_0
                                        (try rw [← Nbq51.out] at hx207_4); (try rw [← Nbq51.out] at hw207_4)
                                        (try rw [← Nbq51.out] at hx207_6); (try rw [← Nbq51.out] at hw207_6)
                                        obtain rfl : ad200 = ad207 := (by injection e207)
                                        replace hx207_0 := bz HB.out hx207_0
                                        replace hx207_1 := bz HB.out hx207_1
                                        replace hx207_2 := bz HB.out hx207_2
                                        replace hx207_3 := bz HB.out hx207_3
                                        replace hx207_4 := bz HB.out hx207_4
                                        replace hx207_5 := bz HB.out hx207_5
                                        replace hx207_6 := bz HB.out hx207_6
                                        replace p207 := eq_true p207
                                        replace q207 := eq_true q207
                                        have p208 : 0 ≤ (x5_4 : Int) := of_decide_eq_true Da
                                        have q208 : x5_4 < (l0_2.length : Int) := of_decide_eq_true Da
                                        obtain ⟨ad208, e208, hx208_0, hx208_1, hx208_2, hx208_3, hx208_4, hx208_5, hx208_6⟩ := at_T34 HR0_2.out x5_4 p208 q208
                                        have hw208_6 := hx208_6
                                        have hw208_5 := hx208_5
                                        have hw208_4 := hx208_4
                                        have hw208_3 := hx208_3
                                        have hw208_2 := hx208_2
                                        have hw208_1 := hx208_1
                                        have hw208_0 := hx208_0
                                        (try rw [← Nbq51.out] at hx208_4); (try rw [← Nbq51.out] at hw208_4)
                                        (try rw [← Nbq51.out] at hx208_6); (try rw [← Nbq51.out] at hw208_6)
                                        obtain rfl : ad200 = ad208 := (by injection e208)
                                        replace hx208_0 := bz HB.out hx208_0
                                        replace hx208_1 := bz HB.out hx208_1
                                        replace hx208_2 := bz HB.out hx208_2
                                        replace hx208_3 := bz HB.out hx208_3
                                        replace hx208_4 := bz HB.out hx208_4
                                        replace hx208_5 := bz HB.out hx208_5
                                        replace hx208_6 := bz HB.out hx208_6
                                        replace p208 := eq_true p208
                                        replace q208 := eq_true q208
                                        have p209 : 0 ≤ (x5_4 : Int) := of_decide_eq_true Da
                                        have q209 : x5_4 < (l0_2.length : Int) := of_decide_eq_true Da
                                        obtain ⟨ad209, e209, hx209_0, hx209_1, hx209_2, hx209_3, hx209_4, hx209_5, hx209_6⟩ := at_T34 HR0_2.out x5_4 p209 q209
                                        have hw209_6 := hx209_6
                                        have hw209_5 := hx209_5
                                        have hw209_4 := hx209_4
                                        have hw209_3 := hx209_3
                                        have hw209_2 := hx209_2
                                        have hw209_1 := hx209_1
                                        have hw209_0 := hx209_0
                                        (try rw [← Nbq51.out] at hx209_4); (try rw [← Nbq51.out] at hw209_4)
                                        (try rw [← Nbq51.out] at hx209_6); (try rw [← Nbq51.out] at hw209_6)
                                        obtain rfl : ad200 = ad209 := (by injection e209)
                                        replace hx209_0 := bz HB.out hx209_0
                                        replace hx209_1 := bz HB.out hx209_1
                                        replace hx209_2 := bz HB.out hx209_2
                                        replace hx209_3 := bz HB.out hx209_3
                                        replace hx209_4 := bz HB.out hx209_4
                                        replace hx209_5 := bz HB.out hx209_5
                                        replace hx209_6 := bz HB.out hx209_6
                                        replace p209 := eq_true p209
                                        replace q209 := eq_true q209
                                        refine start_ (n := 34) (S := fun w' => w'.cell? ⟨gb197, 0, none⟩ = some (.int .i64 a0_0) ∧ w'.cell? ⟨gb197, 1, none⟩ = some (.int .i64 a0_1) ∧ w'.cell? ⟨gb197, 2, none⟩ = some (.slice (some ad200) l0_2.length c0_2) ∧ w'.cell? ⟨gb201, 0, none⟩ = some (.int .i64 ((rd_T34 l0_2 x3_2).f0)) ∧ w'.cell? ⟨gb201, 1, none⟩ = some (.string ((rd_T34 l0_2 x3_2).f1)) ∧ w'.cell? ⟨gb201, 2, none⟩ = some (.string ((rd_T34 l0_2 x3_2).f2)) ∧ w'.cell? ⟨gb201, 3, none⟩ = some (.string ((rd_T34 l0_2 x3_2).f3)) ∧ w'.cell? ⟨gb201, 4, none⟩ = some (.bool ((rd_T34 l0_2 x3_2).f4)) ∧ w'.cell? ⟨gb201, 5, none⟩ = some (.int .i64 ((rd_T34 l0_2 x3_2).f5)) ∧ w'.cell? ⟨gb201, 6, none⟩ = some (.bool ((rd_T34 l0_2 x3_2).f6)) ∧ w'.cell? (ad200.add ((x5_4).toNat * 7)) = some (.int .i64 ((rd_T34 l0_2 x5_4).f0)) ∧ w'.cell? ⟨(ad200.add ((x5_4).toNat * 7)).block, (ad200.add ((x5_4).toNat * 7)).off + 1, none⟩ = some (.string ((rd_T34 l0_2 x5_4).f1)) ∧ w'.cell? ⟨(ad200.add ((x5_4).toNat * 7)).block, (ad200.add ((x5_4).toNat * 7)).off + 2, none⟩ = some (.string ((rd_T34 l0_2 x5_4).f2)) ∧ w'.cell? ⟨(ad200.add ((x5_4).toNat * 7)).block, (ad200.add ((x5_4).toNat * 7)).off + 3, none⟩ = some (.string ((rd_T34 l0_2 x5_4).f3)) ∧ w'.cell? ⟨(ad200.add ((x5_4).toNat * 7)).block, (ad200.add ((x5_4).toNat * 7)).off + 4, none⟩ = some (.bool ((rd_T34 l0_2 x5_4).f4)) ∧ w'.cell? ⟨(ad200.add ((x5_4).toNat * 7)).block, (ad200.add ((x5_4).toNat * 7)).off + 5, none⟩ = some (.int .i64 ((rd_T34 l0_2 x5_4).f5)) ∧ w'.cell? ⟨(ad200.add ((x5_4).toNat * 7)).block, (ad200.add ((x5_4).toNat * 7)).off + 6, none⟩ = some (.bool false) ∧ w'.cell? (ad200.add ((x5_4).toNat * 7)) = some (.int .i64 ((rd_T34 l0_2 x5_4).f0)) ∧ w'.cell? ⟨(ad200.add ((x5_4).toNat * 7)).block, (ad200.add ((x5_4).toNat * 7)).off + 1, none⟩ = some (.string ((rd_T34 l0_2 x5_4).f1)) ∧ w'.cell? ⟨(ad200.add ((x5_4).toNat * 7)).block, (ad200.add ((x5_4).toNat * 7)).off + 2, none⟩ = some (.string ((rd_T34 l0_2 x5_4).f2)) ∧ w'.cell? ⟨(ad200.add ((x5_4).toNat * 7)).block, (ad200.add ((x5_4).toNat * 7)).off + 3, none⟩ = some (.string ((rd_T34 l0_2 x5_4).f3)) ∧ w'.cell? ⟨(ad200.add ((x5_4).toNat * 7)).block, (ad200.add ((x5_4).toNat * 7)).off + 4, none⟩ = some (.bool ((rd_T34 l0_2 x5_4).f4)) ∧ w'.cell? ⟨(ad200.add ((x5_4).toNat * 7)).block, (ad200.add ((x5_4).toNat * 7)).off + 5, none⟩ = some (.int .i64 ((rd_T34 l0_2 x5_4).f5)) ∧ w'.cell? ⟨(ad200.add ((x5_4).toNat * 7)).block, (ad200.add ((x5_4).toNat * 7)).off + 6, none⟩ = some (.bool false) ∧ w'.cell? (ad200.add ((x5_4).toNat * 7)) = some (.int .i64 ((rd_T34 l0_2 x5_4).f0)) ∧ w'.cell? ⟨(ad200.add ((x5_4).toNat * 7)).block, (ad200.add ((x5_4).toNat * 7)).off + 1, none⟩ = some (.string ((rd_T34 l0_2 x5_4).f1)) ∧ w'.cell? ⟨(ad200.add ((x5_4).toNat * 7)).block, (ad200.add ((x5_4).toNat * 7)).off + 2, none⟩ = some (.string ((rd_T34 l0_2 x5_4).f2)) ∧ w'.cell? ⟨(ad200.add ((x5_4).toNat * 7)).block, (ad200.add ((x5_4).toNat * 7)).off + 3, none⟩ = some (.string ((rd_T34 l0_2 x5_4).f3)) ∧ w'.cell? ⟨(ad200.add ((x5_4).toNat * 7)).block, (ad200.add ((x5_4).toNat * 7)).off + 4, none⟩ = some (.bool ((rd_T34 l0_2 x5_4).f4)) ∧ w'.cell? ⟨(ad200.add ((x5_4).toNat * 7)).block, (ad200.add ((x5_4).toNat * 7)).off + 5, none⟩ = some (.int .i64 ((rd_T34 l0_2 x5_4).f5)) ∧ w'.cell? ⟨(ad200.add ((x5_4).toNat * 7)).block, (ad200.add ((x5_4).toNat * 7)).off + 6, none⟩ = some (.bool (false))) (ds := []) (bv 34 0) (by kernel_rfl) rfl rfl ⟨bc BK197.out 0, bc BK197.out 1, bc BK197.out 2, bc BK201.out 0, bc BK201.out 1, bc BK201.out 2, bc BK201.out 3, bc BK201.out 4, bc BK201.out 5, bc BK201.out 6, (bz HB.out hw207_0), (bz HB.out hw207_1), (bz HB.out hw207_2), (bz HB.out hw207_3), (bz HB.out hw207_4), (bz HB.out hw207_5), (bz HB.out hw207_6), (bz HB.out hw208_0), (bz HB.out hw208_1), (bz HB.out hw208_2), (bz HB.out hw208_3), (bz HB.out hw208_4), (bz HB.out hw208_5), (bz HB.out hw208_6), (bz HB.out hw209_0), (bz HB.out hw209_1), (bz HB.out hw209_2), (bz HB.out hw209_3), (bz HB.out hw209_4), (bz HB.out hw209_5), (bz HB.out hw209_6)⟩ (fun hHeld => ?_); refine with_tabW spec_TableRight.tab12 spec_TableRight.bits12 (fun HT_ HW_ => ?_)
                                        generalize wr.drew = w57 at BK197 BK201 HB hx207_0 hx207_1 hx207_2 hx207_3 hx207_4 hx207_5 hx207_6 hx208_0 hx208_1 hx208_2 hx208_3 hx208_4 hx208_5 hx208_6 hx209_0 hx209_1 hx209_2 hx209_3 hx209_4 hx209_5 hx209_6 hHeld ⊢
                                        refine pu 0 75 (bv 34 1) HT_.out (h := ?_)
                                        refine pu 2 77 (bv 34 5) HT_.out (h := ?_)
                                        refine pu 6 81 (bv 34 69) HT_.out (h := ?_)
                                        refine tk 1 76 (bv 34 71) HT_.out HW_.out hHeld (h := ?_)
                                        refine pu 3 78 (bv 34 79) HT_.out (h := ?_)
                                        refine pu 4 79 (bv 34 95) HT_.out (h := ?_)
                                        refine tk 5 80 (bv 34 127) HT_.out HW_.out hHeld (h := ?_)
                                        refine tk 7 82 (bv 34 255) HT_.out HW_.out hHeld (h := ?_)
                                        refine pu 8 83 (bv 34 511) HT_.out (h := ?_)
                                        refine pu 9 84 (bv 34 1023) HT_.out (h := ?_)
                                        refine pu 10 85 (bv 34 2047) HT_.out (h := ?_)
                                        refine pu 12 87 (bv 34 6143) HT_.out (h := ?_)
                                        refine tk 11 86 (bv 34 8191) HT_.out HW_.out hHeld (h := ?_)
                                        refine pu 13 88 (bv 34 16383) HT_.out (h := ?_)
                                        refine pu 14 89 (bv 34 32767) HT_.out (h := ?_)
                                        refine tk 15 90 (bv 34 65535) HT_.out HW_.out hHeld (h := ?_)
                                        refine pu 16 91 (bv 34 131071) HT_.out (h := ?_)
                                        refine pu 17 92 (bv 34 262143) HT_.out (h := ?_)
                                        refine pu 18 93 (bv 34 524287) HT_.out (h := ?_)
                                        refine tk 19 94 (bv 34 1048575) HT_.out HW_.out hHeld (h := ?_)
                                        refine pu 20 95 (bv 34 2097151) HT_.out (h := ?_)
                                        refine pu 21 96 (bv 34 4194303) HT_.out (h := ?_)
                                        refine pu 22 97 (bv 34 8388607) HT_.out (h := ?_)
                                        refine pu 23 98 (bv 34 16777215) HT_.out (h := ?_)
                                        refine pu 25 100 (bv 34 50331647) HT_.out (h := ?_)
                                        refine pu 29 104 (bv 34 587202559) HT_.out (h := ?_)
                                        refine tk 24 99 (bv 34 603979775) HT_.out HW_.out hHeld (h := ?_)
                                        refine pu 26 101 (bv 34 671088639) HT_.out (h := ?_)
                                        refine pu 27 102 (bv 34 805306367) HT_.out (h := ?_)
                                        refine tk 28 103 (bv 34 1073741823) HT_.out HW_.out hHeld (h := ?_)
                                        refine tk 30 105 (bv 34 2147483647) HT_.out HW_.out hHeld (h := ?_)
                                        refine pu 31 106 (bv 34 4294967295) HT_.out (h := ?_)
                                        refine pu 32 107 (bv 34 8589934591) HT_.out (h := ?_)
                                        refine pu 33 108 (bv 34 17179869183) HT_.out (h := ?_)
                                        refine done_ (done_of HT_.out (by kernel_rfl)) ?_
                                        try go_wp2
                                        go_ret
                                        exact ⟨Rf, By⟩
                                      · rw [if_neg c56] at H
                                        have c56b0 : (((rd_T34 l0_2 x5_4).f1).toList == ((rd_T34 l0_2 x3_2).f1).toList) = false := beq_eq_false_iff_ne.mpr c56
                                        have c56b1 : (((rd_T34 l0_2 x5_4).f1).toList != ((rd_T34 l0_2 x3_2).f1).toList) = true := bne_iff_ne.mpr c56
                                        have H' := Aside0.mk H
                                        clear H
                                        try go_wp2
                                        have n0_ := Aside0.mk (blk_drew BK197.out)
                                        have n1_ := Aside0.mk (blk_drew BK201.out)
                                        have n2_ := Aside0.mk (below_drew1 HB.out)
                                        clear BK197
                                        clear BK201
                                        clear HB
                                        have BK197 := n0_
                                        have BK201 := n1_
                                        have HB := n2_
                                        clear n0_ n1_ n2_
                                        have p207 : 0 ≤ (x5_4 : Int) := of_decide_eq_true Da
                                        have q207 : x5_4 < (l0_2.length : Int) := of_decide_eq_true Da
                                        obtain ⟨ad207, e207, hx207_0, hx207_1, hx207_2, hx207_3, hx207_4, hx207_5, hx207_6⟩ := at_T34 HR0_2.out x5_4 p207 q207
                                        have hw207_6 := hx207_6
                                        have hw207_5 := hx207_5
                                        have hw207_4 := hx207_4
                                        have hw207_3 := hx207_3
                                        have hw207_2 := hx207_2
                                        have hw207_1 := hx207_1
                                        have hw207_0 := hx207_0
                                        (try rw [← Nbq51.out] at hx207_4); (try rw [← Nbq51.out] at hw207_4)
                                        (try rw [← Nbq51.out] at hx207_6); (try rw [← Nbq51.out] at hw207_6)
                                        obtain rfl : ad200 = ad207 := (by injection e207)
                                        replace hx207_0 := bz HB.out hx207_0
                                        replace hx207_1 := bz HB.out hx207_1
                                        replace hx207_2 := bz HB.out hx207_2
                                        replace hx207_3 := bz HB.out hx207_3
                                        replace hx207_4 := bz HB.out hx207_4
                                        replace hx207_5 := bz HB.out hx207_5
                                        replace hx207_6 := bz HB.out hx207_6
                                        replace p207 := eq_true p207
                                        replace q207 := eq_true q207
                                        have p208 : 0 ≤ (x5_4 : Int) := of_decide_eq_true Da
                                        have q208 : x5_4 < (l0_2.length : Int) := of_decide_eq_true Da
                                        obtain ⟨ad208, e208, hx208_0, hx208_1, hx208_2, hx208_3, hx208_4, hx208_5, hx208_6⟩ := at_T34 HR0_2.out x5_4 p208 q208
                                        have hw208_6 := hx208_6
                                        have hw208_5 := hx208_5
                                        have hw208_4 := hx208_4
                                        have hw208_3 := hx208_3
                                        have hw208_2 := hx208_2
                                        have hw208_1 := hx208_1
                                        have hw208_0 := hx208_0
                                        (try rw [← Nbq51.out] at hx208_4); (try rw [← Nbq51.out] at hw208_4)
                                        (try rw [← Nbq51.out] at hx208_6); (try rw [← Nbq51.out] at hw208_6)
                                        obtain rfl : ad200 = ad208 := (by injection e208)
                                        replace hx208_0 := bz HB.out hx208_0
                                        replace hx208_1 := bz HB.out hx208_1
                                        replace hx208_2 := bz HB.out hx208_2
                                        replace hx208_3 := bz HB.out hx208_3
                                        replace hx208_4 := bz HB.out hx208_4
                                        replace hx208_5 := bz HB.out hx208_5
                                        replace hx208_6 := bz HB.out hx208_6
                                        replace p208 := eq_true p208
                                        replace q208 := eq_true q208
                                        have p209 : 0 ≤ (x5_4 : Int) := of_decide_eq_true Da
                                        have q209 : x5_4 < (l0_2.length : Int) := of_decide_eq_true Da
                                        obtain ⟨ad209, e209, hx209_0, hx209_1, hx209_2, hx209_3, hx209_4, hx209_5, hx209_6⟩ := at_T34 HR0_2.out x5_4 p209 q209
                                        have hw209_6 := hx209_6
                                        have hw209_5 := hx209_5
                                        have hw209_4 := hx209_4
                                        have hw209_3 := hx209_3
                                        have hw209_2 := hx209_2
                                        have hw209_1 := hx209_1
                                        have hw209_0 := hx209_0
                                        (try rw [← Nbq51.out] at hx209_4); (try rw [← Nbq51.out] at hw209_4)
                                        (try rw [← Nbq51.out] at hx209_6); (try rw [← Nbq51.out] at hw209_6)
                                        obtain rfl : ad200 = ad209 := (by injection e209)
                                        replace hx209_0 := bz HB.out hx209_0
                                        replace hx209_1 := bz HB.out hx209_1
                                        replace hx209_2 := bz HB.out hx209_2
                                        replace hx209_3 := bz HB.out hx209_3
                                        replace hx209_4 := bz HB.out hx209_4
                                        replace hx209_5 := bz HB.out hx209_5
                                        replace hx209_6 := bz HB.out hx209_6
                                        replace p209 := eq_true p209
                                        replace q209 := eq_true q209
                                        refine start_ (n := 34) (S := fun w' => w'.cell? ⟨gb197, 0, none⟩ = some (.int .i64 a0_0) ∧ w'.cell? ⟨gb197, 1, none⟩ = some (.int .i64 a0_1) ∧ w'.cell? ⟨gb197, 2, none⟩ = some (.slice (some ad200) l0_2.length c0_2) ∧ w'.cell? ⟨gb201, 0, none⟩ = some (.int .i64 ((rd_T34 l0_2 x3_2).f0)) ∧ w'.cell? ⟨gb201, 1, none⟩ = some (.string ((rd_T34 l0_2 x3_2).f1)) ∧ w'.cell? ⟨gb201, 2, none⟩ = some (.string ((rd_T34 l0_2 x3_2).f2)) ∧ w'.cell? ⟨gb201, 3, none⟩ = some (.string ((rd_T34 l0_2 x3_2).f3)) ∧ w'.cell? ⟨gb201, 4, none⟩ = some (.bool ((rd_T34 l0_2 x3_2).f4)) ∧ w'.cell? ⟨gb201, 5, none⟩ = some (.int .i64 ((rd_T34 l0_2 x3_2).f5)) ∧ w'.cell? ⟨gb201, 6, none⟩ = some (.bool ((rd_T34 l0_2 x3_2).f6)) ∧ w'.cell? (ad200.add ((x5_4).toNat * 7)) = some (.int .i64 ((rd_T34 l0_2 x5_4).f0)) ∧ w'.cell? ⟨(ad200.add ((x5_4).toNat * 7)).block, (ad200.add ((x5_4).toNat * 7)).off + 1, none⟩ = some (.string ((rd_T34 l0_2 x5_4).f1)) ∧ w'.cell? ⟨(ad200.add ((x5_4).toNat * 7)).block, (ad200.add ((x5_4).toNat * 7)).off + 2, none⟩ = some (.string ((rd_T34 l0_2 x5_4).f2)) ∧ w'.cell? ⟨(ad200.add ((x5_4).toNat * 7)).block, (ad200.add ((x5_4).toNat * 7)).off + 3, none⟩ = some (.string ((rd_T34 l0_2 x5_4).f3)) ∧ w'.cell? ⟨(ad200.add ((x5_4).toNat * 7)).block, (ad200.add ((x5_4).toNat * 7)).off + 4, none⟩ = some (.bool ((rd_T34 l0_2 x5_4).f4)) ∧ w'.cell? ⟨(ad200.add ((x5_4).toNat * 7)).block, (ad200.add ((x5_4).toNat * 7)).off + 5, none⟩ = some (.int .i64 ((rd_T34 l0_2 x5_4).f5)) ∧ w'.cell? ⟨(ad200.add ((x5_4).toNat * 7)).block, (ad200.add ((x5_4).toNat * 7)).off + 6, none⟩ = some (.bool false) ∧ w'.cell? (ad200.add ((x5_4).toNat * 7)) = some (.int .i64 ((rd_T34 l0_2 x5_4).f0)) ∧ w'.cell? ⟨(ad200.add ((x5_4).toNat * 7)).block, (ad200.add ((x5_4).toNat * 7)).off + 1, none⟩ = some (.string ((rd_T34 l0_2 x5_4).f1)) ∧ w'.cell? ⟨(ad200.add ((x5_4).toNat * 7)).block, (ad200.add ((x5_4).toNat * 7)).off + 2, none⟩ = some (.string ((rd_T34 l0_2 x5_4).f2)) ∧ w'.cell? ⟨(ad200.add ((x5_4).toNat * 7)).block, (ad200.add ((x5_4).toNat * 7)).off + 3, none⟩ = some (.string ((rd_T34 l0_2 x5_4).f3)) ∧ w'.cell? ⟨(ad200.add ((x5_4).toNat * 7)).block, (ad200.add ((x5_4).toNat * 7)).off + 4, none⟩ = some (.bool ((rd_T34 l0_2 x5_4).f4)) ∧ w'.cell? ⟨(ad200.add ((x5_4).toNat * 7)).block, (ad200.add ((x5_4).toNat * 7)).off + 5, none⟩ = some (.int .i64 ((rd_T34 l0_2 x5_4).f5)) ∧ w'.cell? ⟨(ad200.add ((x5_4).toNat * 7)).block, (ad200.add ((x5_4).toNat * 7)).off + 6, none⟩ = some (.bool false) ∧ w'.cell? (ad200.add ((x5_4).toNat * 7)) = some (.int .i64 ((rd_T34 l0_2 x5_4).f0)) ∧ w'.cell? ⟨(ad200.add ((x5_4).toNat * 7)).block, (ad200.add ((x5_4).toNat * 7)).off + 1, none⟩ = some (.string ((rd_T34 l0_2 x5_4).f1)) ∧ w'.cell? ⟨(ad200.add ((x5_4).toNat * 7)).block, (ad200.add ((x5_4).toNat * 7)).off + 2, none⟩ = some (.string ((rd_T34 l0_2 x5_4).f2)) ∧ w'.cell? ⟨(ad200.add ((x5_4).toNat * 7)).block, (ad200.add ((x5_4).toNat * 7)).off + 3, none⟩ = some (.string ((rd_T34 l0_2 x5_4).f3)) ∧ w'.cell? ⟨(ad200.add ((x5_4).toNat * 7)).block, (ad200.add ((x5_4).toNat * 7)).off + 4, none⟩ = some (.bool ((rd_T34 l0_2 x5_4).f4)) ∧ w'.cell? ⟨(ad200.add ((x5_4).toNat * 7)).block, (ad200.add ((x5_4).toNat * 7)).off + 5, none⟩ = some (.int .i64 ((rd_T34 l0_2 x5_4).f5)) ∧ w'.cell? ⟨(ad200.add ((x5_4).toNat * 7)).block, (ad200.add ((x5_4).toNat * 7)).off + 6, none⟩ = some (.bool (false))) (ds := []) (bv 34 0) (by kernel_rfl) rfl rfl ⟨bc BK197.out 0, bc BK197.out 1, bc BK197.out 2, bc BK201.out 0, bc BK201.out 1, bc BK201.out 2, bc BK201.out 3, bc BK201.out 4, bc BK201.out 5, bc BK201.out 6, (bz HB.out hw207_0), (bz HB.out hw207_1), (bz HB.out hw207_2), (bz HB.out hw207_3), (bz HB.out hw207_4), (bz HB.out hw207_5), (bz HB.out hw207_6), (bz HB.out hw208_0), (bz HB.out hw208_1), (bz HB.out hw208_2), (bz HB.out hw208_3), (bz HB.out hw208_4), (bz HB.out hw208_5), (bz HB.out hw208_6), (bz HB.out hw209_0), (bz HB.out hw209_1), (bz HB.out hw209_2), (bz HB.out hw209_3), (bz HB.out hw209_4), (bz HB.out hw209_5), (bz HB.out hw209_6)⟩ (fun hHeld => ?_); refine with_tabW spec_TableRight.tab12 spec_TableRight.bits12 (fun HT_ HW_ => ?_)
                                        generalize wr.drew = w58 at BK197 BK201 HB hx207_0 hx207_1 hx207_2 hx207_3 hx207_4 hx207_5 hx207_6 hx208_0 hx208_1 hx208_2 hx208_3 hx208_4 hx208_5 hx208_6 hx209_0 hx209_1 hx209_2 hx209_3 hx209_4 hx209_5 hx209_6 hHeld ⊢
                                        refine pu 0 75 (bv 34 1) HT_.out (h := ?_)
                                        refine pu 2 77 (bv 34 5) HT_.out (h := ?_)
                                        refine pu 6 81 (bv 34 69) HT_.out (h := ?_)
                                        refine tk 1 76 (bv 34 71) HT_.out HW_.out hHeld (h := ?_)
                                        refine pu 3 78 (bv 34 79) HT_.out (h := ?_)
                                        refine pu 4 79 (bv 34 95) HT_.out (h := ?_)
                                        refine tk 5 80 (bv 34 127) HT_.out HW_.out hHeld (h := ?_)
                                        refine tk 7 82 (bv 34 255) HT_.out HW_.out hHeld (h := ?_)
                                        refine pu 8 83 (bv 34 511) HT_.out (h := ?_)
                                        refine pu 9 84 (bv 34 1023) HT_.out (h := ?_)
                                        refine pu 10 85 (bv 34 2047) HT_.out (h := ?_)
                                        refine pu 12 87 (bv 34 6143) HT_.out (h := ?_)
                                        refine tk 11 86 (bv 34 8191) HT_.out HW_.out hHeld (h := ?_)
                                        refine pu 13 88 (bv 34 16383) HT_.out (h := ?_)
                                        refine pu 14 89 (bv 34 32767) HT_.out (h := ?_)
                                        refine tk 15 90 (bv 34 65535) HT_.out HW_.out hHeld (h := ?_)
                                        refine pu 16 91 (bv 34 131071) HT_.out (h := ?_)
                                        refine pu 17 92 (bv 34 262143) HT_.out (h := ?_)
                                        refine pu 18 93 (bv 34 524287) HT_.out (h := ?_)
                                        refine tk 19 94 (bv 34 1048575) HT_.out HW_.out hHeld (h := ?_)
                                        refine pu 20 95 (bv 34 2097151) HT_.out (h := ?_)
                                        refine pu 21 96 (bv 34 4194303) HT_.out (h := ?_)
                                        refine pu 22 97 (bv 34 8388607) HT_.out (h := ?_)
                                        refine pu 23 98 (bv 34 16777215) HT_.out (h := ?_)
                                        refine pu 25 100 (bv 34 50331647) HT_.out (h := ?_)
                                        refine pu 29 104 (bv 34 587202559) HT_.out (h := ?_)
                                        refine tk 24 99 (bv 34 603979775) HT_.out HW_.out hHeld (h := ?_)
                                        refine pu 26 101 (bv 34 671088639) HT_.out (h := ?_)
                                        refine pu 27 102 (bv 34 805306367) HT_.out (h := ?_)
                                        refine tk 28 103 (bv 34 1073741823) HT_.out HW_.out hHeld (h := ?_)
                                        refine tk 30 105 (bv 34 2147483647) HT_.out HW_.out hHeld (h := ?_)
                                        refine pu 31 106 (bv 34 4294967295) HT_.out (h := ?_)
                                        refine pu 32 107 (bv 34 8589934591) HT_.out (h := ?_)
                                        refine pu 33 108 (bv 34 17179869183) HT_.out (h := ?_)
                                        refine done_ (done_of HT_.out (by kernel_rfl)) ?_
                                        try go_wp2
                                        go_roundg k4
                                        case measure => have := HJ1.out; have := HK2.out; have := HJ13.out; have := HK4.out; omega
                                        case rel => exact ⟨(wrap64 (x5_4 + 1)), (by first | rfl | (simp; done) | (simp [*]; done)), H', ⟨by have := HJ1.out; have := HK2.out; have := HJ13.out; have := HK4.out; omega⟩, ⟨by (with_reducible repeat (first | refine blk_drewN ?_ _ | refine blk_drew ?_ | refine blk_alloc ?_ _)); exact BK197.out⟩, ⟨by (with_reducible repeat (first | refine blk_drewN ?_ _ | refine blk_drew ?_ | refine blk_alloc ?_ _)); exact BK201.out⟩, ⟨By⟩⟩
                              · rw [if_neg c48] at H
                                exact absurd H (by simp)
                            · rw [if_neg c47] at H
                              exact absurd H (by simp)
                          · rw [if_neg c46] at H
                            have c46b0 : decide (x5_4 < x3_2) = false := decide_eq_false c46
                            clear c46
                            have H' := Aside0.mk H
                            clear H
                            go_wp2
                            go_roundg k4
                            case measure => have := HJ1.out; have := HK2.out; have := HJ13.out; have := HK4.out; omega
                            case rel => exact ⟨(wrap64 (x3_2 + 1)), (by first | rfl | (simp; done) | (simp [*]; done)), H', ⟨by have := HJ1.out; have := HK2.out; have := HJ13.out; have := HK4.out; omega⟩, ⟨by (with_reducible repeat (first | refine blk_drewN ?_ _ | refine blk_drew ?_ | refine blk_alloc ?_ _)); exact BK197.out⟩, ⟨By⟩⟩
              · rw [if_neg c13] at H
                exact absurd H (by simp)
            · rw [if_neg c12] at H
              have c12b0 : decide (x3_2 < (l0_2.length : Int)) = false := decide_eq_false c12
              clear c12
              obtain rfl := Option.some.inj H
              have hcz59_0 : wr.cell? ⟨gb197, 0, none⟩ = some (.int .i64 a0_0) := bc BK197.out 0
              have hcz59_1 : wr.cell? ⟨gb197, 1, none⟩ = some (.int .i64 a0_1) := bc BK197.out 1
              have hcz59_2 : wr.cell? ⟨gb197, 2, none⟩ = some (.slice A0_2 l0_2.length c0_2) := bc BK197.out 2
              have hfz59_0 := blk_frozen BK197.out 0
              have hfz59_1 := blk_frozen BK197.out 1
              have hfz59_2 := blk_frozen BK197.out 2
              go_wp2
              go_ret
              exact ⟨Rf, By⟩

end Go.Proofs.YtpocoeghobdfiaaDoor.PG

-- WRITTEN BY A PROGRAM OF THIS SESSION (wip/gen/gen.py), by way of the kit's print program. Lean checks it.
namespace Go.Proofs.YtpocoeghobdfiaaDoor.PG
open Go.Proofs.YtpocoeghobdfiaaDoor.Sq Go.RowKit Go.Proofs.YtpocoeghobdfiaaDoorW.PrintWords Go.Proofs.YtpocoeghobdfiaaDoorW.PrintLast Go.Proofs.YtpocoeghobdfiaaDoorW.PrintMore
attribute [local go_sem] max2_int min2_int max_two min_two max_three min_three max_four min_four   -- for this text's walks alone
set_option linter.unusedVariables false
set_option linter.unusedSimpArgs false

/-! ### spec_RowById: function 18 -/
def spec_RowById.l0 : Nat → Int → Int → Int → Int → List (S34) → Option (Int × ByteArray × ByteArray × ByteArray × Bool × Int × Bool)
  | 0, _, _, _, _, _ => none
  | k + 1, x1, x5, x211000, x211001, x211002 => if x5 < (x211002.length : Int) then (if 0 ≤ x5 then (if ((rd_T34 x211002 x5).f0) = x1 then ((spec_TableRight.f k x211000 x211001 x211002).bind fun t213 => (if t213 = true then (some ((rd_T34 x211002 x5).f0, (rd_T34 x211002 x5).f1, (rd_T34 x211002 x5).f2, (rd_T34 x211002 x5).f3, (rd_T34 x211002 x5).f4, (rd_T34 x211002 x5).f5, (rd_T34 x211002 x5).f6)) else (spec_RowById.l0 k x1 (wrap64 (x5 + 1)) x211000 x211001 x211002))) else (spec_RowById.l0 k x1 (wrap64 (x5 + 1)) x211000 x211001 x211002)) else (none)) else (some (0, (⟨#[]⟩ : ByteArray), (⟨#[]⟩ : ByteArray), (⟨#[]⟩ : ByteArray), false, 0, false))
def spec_RowById.f (k : Nat) (a0_0 : Int) (a0_1 : Int) (l0_2 : List (S34)) (a1 : Int) : Option (Int × ByteArray × ByteArray × ByteArray × Bool × Int × Bool) := spec_RowById.l0 k a1 0 a0_0 a0_1 l0_2
theorem spec_RowById.mono_l : ∀ k, (∀ y0 y1 y2 y3 y4, LeO (spec_RowById.l0 k y0 y1 y2 y3 y4) (spec_RowById.l0 (k + 1) y0 y1 y2 y3 y4))
  | 0 => fun _ _ _ _ _ r h => by simp [spec_RowById.l0] at h
  | k + 1 => by
    have ih0 := spec_RowById.mono_l k
    · intro y0 y1 y2 y3 y4
      unfold spec_RowById.l0
      repeat' first
      | (with_reducible exact ih0 _ _ _ _ _)
      | (with_reducible exact spec_TableRight.mono _ _ _ _)
      | (with_reducible exact LeO.refl _)
      | (with_reducible exact LeO.none _)
      | (with_reducible refine LeO.ite ?_ ?_)
      | (with_reducible refine LeO.bind ?_ (fun _ => ?_))
      | exact ih0 _ _ _ _ _
      | exact spec_TableRight.mono _ _ _ _
      | exact LeO.none _
      | refine LeO.ite ?_ ?_
      | refine LeO.bind ?_ (fun _ => ?_)
theorem spec_RowById.mono : ∀ a0 a1 a2 a3 k, LeO (spec_RowById.f k a0 a1 a2 a3) (spec_RowById.f (k + 1) a0 a1 a2 a3) := by
  intro a0 a1 a2 a3 k
  have ih0 := spec_RowById.mono_l k
  unfold spec_RowById.f
  repeat' first
      | (with_reducible exact ih0 _ _ _ _ _)
      | (with_reducible exact spec_TableRight.mono _ _ _ _)
      | (with_reducible exact LeO.refl _)
      | (with_reducible exact LeO.none _)
      | (with_reducible refine LeO.ite ?_ ?_)
      | (with_reducible refine LeO.bind ?_ (fun _ => ?_))
      | exact ih0 _ _ _ _ _
      | exact spec_TableRight.mono _ _ _ _
      | exact LeO.none _
      | refine LeO.ite ?_ ?_
      | refine LeO.bind ?_ (fun _ => ?_)
set_option maxHeartbeats 8000000 in
set_option maxRecDepth 100000 in
theorem spec_RowById.calls (k : Nat) (a0_0 : Int) (a0_1 : Int) (A0_2 : Option Addr) (c0_2 : Nat) (l0_2 : List (S34)) (a1 : Int) (r1 : Int) (r2 : ByteArray) (r3 : ByteArray) (r4 : ByteArray) (r5 : Bool) (r6 : Int) (r7 : Bool) (w : World) (hr0_2 : Kd.C k34 w A0_2 l0_2.length l0_2) (hc0_2 : l0_2.length ≤ c0_2) (h : spec_RowById.f k a0_0 a0_1 l0_2 a1 = some (r1, r2, r3, r4, r5, r6, r7)) :
    Calls Tryd.prog 18 #[.agg #[.int .i64 a0_0, .int .i64 a0_1, .slice A0_2 l0_2.length c0_2], .int .i64 a1] w fun e w' => e = .returned (.agg #[.int .i64 r1, .string r2, .string r3, .string r4, .bool r5, .int .i64 r6, .bool r7]) ∧ Below w.heap.size w w' := by
  have hu38 := Tryd.underlying38
  have hu34 := Tryd.underlying34
  have HR0_2 := Aside0.mk hr0_2
  have HC0_2 := Aside0.mk hc0_2
  clear hr0_2 hc0_2
  have HB := Aside0.mk (Below.refl w.heap.size w)
  have H : (spec_RowById.l0 k a1 0 a0_0 a0_1 l0_2) = some (r1, r2, r3, r4, r5, r6, r7) := h
  clear h
  have H' := Aside0.mk H
  clear H
  go_enter Tryd.func18, Tryd.ntmps18
  go_wp2_with (first | ((with_reducible refine gate_dst (N := 2) rfl ?_); refine box_event ?hg (N := 2) ?hd (cs := #[.int .i64 a0_0, .int .i64 a0_1, .slice A0_2 l0_2.length c0_2]) (t := 38) ?hr ?_; (case hd => rfl); (case hg => rfl); (case hr => first | (go_simp; done) | (go_simp; rfl)); intro gb210 hg w3 hbox hb; have n0_ := Aside0.mk (below_step By hb); have n1_ := Aside0.mk (hbox); have n2_ := Aside0.mk ((by rw [hg]; exact (below_size By) : w.heap.size ≤ gb210)); have n3_ := Aside0.mk ((by rw [hg]; exact (below_size By) : w.heap.size ≤ gb210)); clear HB; have HB := n0_; have BK210 := n1_; have GW210 := n2_; have GE210 := n3_; clear n0_ n1_ n2_ n3_; clear hb hbox hg) | ((with_reducible refine gate_dst (N := 4) rfl ?_); refine box_event ?hg (N := 4) ?hd (cs := #[.int .i64 0, .string (⟨#[]⟩ : ByteArray), .string (⟨#[]⟩ : ByteArray), .string (⟨#[]⟩ : ByteArray), .bool false, .int .i64 0, .bool false]) (t := 34) ?hr ?_; (case hd => rfl); (case hg => rfl); (case hr => first | (go_simp; done) | (go_simp; rfl)); intro gb211 hg w4 hbox hb; have n0_ := Aside0.mk (bb BK210.out hb); have n1_ := Aside0.mk (below_step By hb); have n2_ := Aside0.mk (hbox); have n3_ := Aside0.mk ((by rw [hg]; exact (below_size By) : w.heap.size ≤ gb211)); have n4_ := Aside0.mk ((by rw [hg]; exact (below_size By) : w.heap.size ≤ gb211)); have n5_ := Aside0.mk ((by rw [hg]; exact Nat.ne_of_lt (bl BK210.out) : gb210 ≠ gb211)); have n6_ := Aside0.mk ((by rw [hg]; exact Nat.ne_of_gt (bl BK210.out) : gb211 ≠ gb210)); clear BK210; clear HB; have BK210 := n0_; have HB := n1_; have BK211 := n2_; have GW211 := n3_; have GE211 := n4_; have NB210_211 := n5_; have NB211_210 := n6_; clear n0_ n1_ n2_ n3_ n4_ n5_ n6_; clear hb hbox hg))
  go_loopg [5] k (fun kq v5 w' => ∃ (x5_1 : Int) (x212000_1 : Int) (x212001_1 : ByteArray) (x212002_1 : ByteArray) (x212003_1 : ByteArray) (x212004_1 : Bool) (x212005_1 : Int) (x212006_1 : Bool), v5 = .int .i64 x5_1 ∧ Aside0 (spec_RowById.l0 kq a1 x5_1 a0_0 a0_1 l0_2 = some (r1, r2, r3, r4, r5, r6, r7)) ∧ Aside0 (kq ≤ k) ∧ Aside0 (w'.heap[gb210]? = some (.cells #[.int .i64 a0_0, .int .i64 a0_1, (.slice A0_2 l0_2.length c0_2)] 38 (0, 0))) ∧ Aside0 (w'.heap[gb211]? = some (.cells #[.int .i64 x212000_1, .string x212001_1, .string x212002_1, .string x212003_1, .bool x212004_1, .int .i64 x212005_1, .bool x212006_1] 34 (0, 0))) ∧ Aside0 (Below w.heap.size w w'))
  case atStart => exact ⟨(0), (0), ((⟨#[]⟩ : ByteArray)), ((⟨#[]⟩ : ByteArray)), ((⟨#[]⟩ : ByteArray)), (false), (0), (false), (by first | rfl | (simp; done) | (simp [*]; done)), H', ⟨Nat.le_refl _⟩, ⟨by (with_reducible repeat (first | refine blk_drewN ?_ _ | refine blk_drew ?_ | refine blk_alloc ?_ _)); exact BK210.out⟩, ⟨by (with_reducible repeat (first | refine blk_drewN ?_ _ | refine blk_drew ?_ | refine blk_alloc ?_ _)); exact BK211.out⟩, ⟨By⟩⟩
  case round =>
    clear H'
    try clear c1
    try clear p2
    obtain ⟨x5_1, x212000_1, x212001_1, x212002_1, x212003_1, x212004_1, x212005_1, x212006_1, rfl, HA, HK1, BK210, BK211, HB⟩ := hrel
    cases gk with
    | zero => exact absurd HA.out (by simp [spec_RowById.l0])
    | succ k1 =>
      have H := HA.out
      clear HA
      simp only [spec_RowById.l0] at H
      by_cases c5 : x5_1 < (l0_2.length : Int)
      · rw [if_pos c5] at H
        have c5b0 : decide (x5_1 < (l0_2.length : Int)) = true := decide_eq_true c5
        clear c5
        by_cases c6 : 0 ≤ x5_1
        · rw [if_pos c6] at H
          have c6b0 : decide (0 ≤ x5_1) = true := decide_eq_true c6
          clear c6
          by_cases c7 : ((rd_T34 l0_2 x5_1).f0) = a1
          · rw [if_pos c7] at H
            have c7b0 : (((rd_T34 l0_2 x5_1).f0) == a1) = true := beq_iff_eq.mpr c7
            have c7b1 : (((rd_T34 l0_2 x5_1).f0) != a1) = false := bne_eq_false_iff_eq.mpr c7
            clear c7
            replace H := Option.bind_eq_some_iff.mp H
            obtain ⟨t213, A80, H⟩ := H
            replace H : (if t213 = true then (some ((rd_T34 l0_2 x5_1).f0, (rd_T34 l0_2 x5_1).f1, (rd_T34 l0_2 x5_1).f2, (rd_T34 l0_2 x5_1).f3, (rd_T34 l0_2 x5_1).f4, (rd_T34 l0_2 x5_1).f5, (rd_T34 l0_2 x5_1).f6)) else (spec_RowById.l0 k1 a1 (wrap64 (x5_1 + 1)) a0_0 a0_1 l0_2)) = some (r1, r2, r3, r4, r5, r6, r7) := H
            have A8 := Aside0.mk A80
            clear A80
            by_cases c9 : t213 = true
            · subst c9
              have H1 : (some ((rd_T34 l0_2 x5_1).f0, (rd_T34 l0_2 x5_1).f1, (rd_T34 l0_2 x5_1).f2, (rd_T34 l0_2 x5_1).f3, (rd_T34 l0_2 x5_1).f4, (rd_T34 l0_2 x5_1).f5, (rd_T34 l0_2 x5_1).f6)) = some (r1, r2, r3, r4, r5, r6, r7) := by rw [if_pos rfl] at H; exact H
              clear H
              have H := H1
              clear H1
              simp only [Option.some.injEq, Prod.mk.injEq] at H
              obtain ⟨rfl, rfl, rfl, rfl, rfl, rfl, rfl⟩ := H
              have hnb10 := NB210_211.out
              have hnc10 := NB211_210.out
              have hcz11_0 : wr.cell? ⟨gb210, 0, none⟩ = some (.int .i64 a0_0) := bc BK210.out 0
              have hcz11_1 : wr.cell? ⟨gb210, 1, none⟩ = some (.int .i64 a0_1) := bc BK210.out 1
              have hcz11_2 : wr.cell? ⟨gb210, 2, none⟩ = some (.slice A0_2 l0_2.length c0_2) := bc BK210.out 2
              have hfz11_0 := blk_frozen BK210.out 0
              have hfz11_1 := blk_frozen BK210.out 1
              have hfz11_2 := blk_frozen BK210.out 2
              have p212 : 0 ≤ (x5_1 : Int) := of_decide_eq_true Da
              have q212 : x5_1 < (l0_2.length : Int) := of_decide_eq_true Da
              obtain ⟨ad212, e212, hx212_0, hx212_1, hx212_2, hx212_3, hx212_4, hx212_5, hx212_6⟩ := at_T34 HR0_2.out x5_1 p212 q212
              cases e212
              replace hx212_0 := bz HB.out hx212_0
              replace hx212_1 := bz HB.out hx212_1
              replace hx212_2 := bz HB.out hx212_2
              replace hx212_3 := bz HB.out hx212_3
              replace hx212_4 := bz HB.out hx212_4
              replace hx212_5 := bz HB.out hx212_5
              replace hx212_6 := bz HB.out hx212_6
              replace p212 := eq_true p212
              replace q212 := eq_true q212
              go_wp2_with (first | (go_at_call 58; (with_reducible refine (spec_TableRight.calls k1 a0_0 a0_1 _ _ l0_2 true _ ?side1 ?side2 A8.out).mono ?_); (case side1 => repeat (first | exact (Kd.C_below HR0_2.out HB.out) | (with_reducible refine Kd.C_alloc ?_ _) | (with_reducible refine Kd.C_drewN ?_ _) | (with_reducible refine Kd.C_drew ?_))); (case side2 => exact HC0_2.out); rintro e w12 ⟨rfl, hb⟩; have n0_ := Aside0.mk (bb BK210.out hb); have n1_ := Aside0.mk (bb BK211.out hb); have n2_ := Aside0.mk (below_step By hb); clear BK210; clear BK211; clear HB; have BK210 := n0_; have BK211 := n1_; have HB := n2_; clear n0_ n1_ n2_; (try clear hb); (try clear hb2); (try clear hk); (try clear hi); have ⟨hcz13_0, hcz13_1, hcz13_2⟩ := cq3 BK210.out; have ⟨hfz13_0, hfz13_1, hfz13_2⟩ := fq3 BK210.out; have p214 : 0 ≤ (x5_1 : Int) := of_decide_eq_true Da; have q214 : x5_1 < (l0_2.length : Int) := of_decide_eq_true Da; obtain ⟨ad214, e214, hx214_0, hx214_1, hx214_2, hx214_3, hx214_4, hx214_5, hx214_6⟩ := at_T34 HR0_2.out x5_1 p214 q214; obtain rfl : ad212 = ad214 := (by injection e214); replace hx214_0 := bz HB.out hx214_0; replace hx214_1 := bz HB.out hx214_1; replace hx214_2 := bz HB.out hx214_2; replace hx214_3 := bz HB.out hx214_3; replace hx214_4 := bz HB.out hx214_4; replace hx214_5 := bz HB.out hx214_5; replace hx214_6 := bz HB.out hx214_6; replace p214 := eq_true p214; replace q214 := eq_true q214; have ⟨hcz14_0, hcz14_1, hcz14_2, hcz14_3, hcz14_4, hcz14_5, hcz14_6⟩ := cq7 BK211.out; have ⟨hfz14_0, hfz14_1, hfz14_2, hfz14_3, hfz14_4, hfz14_5, hfz14_6⟩ := fq7 BK211.out))
              refine bodyPost_ret (results_cell_row rfl _ _ gb211 34 #[.int .i64 ((rd_T34 l0_2 x5_1).f0), .string ((rd_T34 l0_2 x5_1).f1), .string ((rd_T34 l0_2 x5_1).f2), .string ((rd_T34 l0_2 x5_1).f3), .bool ((rd_T34 l0_2 x5_1).f4), .int .i64 ((rd_T34 l0_2 x5_1).f5), .bool ((rd_T34 l0_2 x5_1).f6)] (0, 0) _ rfl (pq7 Pk) Tryd.underlying34 rfl (by kernel_rfl)) rfl ?_
              exact ⟨Rf, By⟩
            · replace c9 := Bool.eq_false_iff.mpr c9
              subst c9
              have H1 : (spec_RowById.l0 k1 a1 (wrap64 (x5_1 + 1)) a0_0 a0_1 l0_2) = some (r1, r2, r3, r4, r5, r6, r7) := by rw [if_neg (show ¬ (false = true) by decide)] at H; exact H
              clear H
              have H := H1
              clear H1
              have H' := Aside0.mk H
              clear H
              have hnb15 := NB210_211.out
              have hnc15 := NB211_210.out
              have hcz16_0 : wr.cell? ⟨gb210, 0, none⟩ = some (.int .i64 a0_0) := bc BK210.out 0
              have hcz16_1 : wr.cell? ⟨gb210, 1, none⟩ = some (.int .i64 a0_1) := bc BK210.out 1
              have hcz16_2 : wr.cell? ⟨gb210, 2, none⟩ = some (.slice A0_2 l0_2.length c0_2) := bc BK210.out 2
              have hfz16_0 := blk_frozen BK210.out 0
              have hfz16_1 := blk_frozen BK210.out 1
              have hfz16_2 := blk_frozen BK210.out 2
              have p212 : 0 ≤ (x5_1 : Int) := of_decide_eq_true Da
              have q212 : x5_1 < (l0_2.length : Int) := of_decide_eq_true Da
              obtain ⟨ad212, e212, hx212_0, hx212_1, hx212_2, hx212_3, hx212_4, hx212_5, hx212_6⟩ := at_T34 HR0_2.out x5_1 p212 q212
              cases e212
              replace hx212_0 := bz HB.out hx212_0
              replace hx212_1 := bz HB.out hx212_1
              replace hx212_2 := bz HB.out hx212_2
              replace hx212_3 := bz HB.out hx212_3
              replace hx212_4 := bz HB.out hx212_4
              replace hx212_5 := bz HB.out hx212_5
              replace hx212_6 := bz HB.out hx212_6
              replace p212 := eq_true p212
              replace q212 := eq_true q212
              go_wp2_with (first | (go_at_call 58; (with_reducible refine (spec_TableRight.calls k1 a0_0 a0_1 _ _ l0_2 false _ ?side1 ?side2 A8.out).mono ?_); (case side1 => repeat (first | exact (Kd.C_below HR0_2.out HB.out) | (with_reducible refine Kd.C_alloc ?_ _) | (with_reducible refine Kd.C_drewN ?_ _) | (with_reducible refine Kd.C_drew ?_))); (case side2 => exact HC0_2.out); rintro e w17 ⟨rfl, hb⟩; have n0_ := Aside0.mk (bb BK210.out hb); have n1_ := Aside0.mk (bb BK211.out hb); have n2_ := Aside0.mk (below_step By hb); clear BK210; clear BK211; clear HB; have BK210 := n0_; have BK211 := n1_; have HB := n2_; clear n0_ n1_ n2_; (try clear hb); (try clear hb2); (try clear hk); (try clear hi)))
              go_roundg k1
              case measure => have := HK1.out; omega
              case rel => exact ⟨(wrap64 (x5_1 + 1)), (x212000_1), (x212001_1), (x212002_1), (x212003_1), (x212004_1), (x212005_1), (x212006_1), (by first | rfl | (simp; done) | (simp [*]; done)), H', ⟨by have := HK1.out; omega⟩, ⟨by (with_reducible repeat (first | refine blk_drewN ?_ _ | refine blk_drew ?_ | refine blk_alloc ?_ _)); exact BK210.out⟩, ⟨by (with_reducible repeat (first | refine blk_drewN ?_ _ | refine blk_drew ?_ | refine blk_alloc ?_ _)); exact BK211.out⟩, ⟨By⟩⟩
          · rw [if_neg c7] at H
            have c7b0 : (((rd_T34 l0_2 x5_1).f0) == a1) = false := beq_eq_false_iff_ne.mpr c7
            have c7b1 : (((rd_T34 l0_2 x5_1).f0) != a1) = true := bne_iff_ne.mpr c7
            have H' := Aside0.mk H
            clear H
            have hnb18 := NB210_211.out
            have hnc18 := NB211_210.out
            have hcz19_0 : wr.cell? ⟨gb210, 0, none⟩ = some (.int .i64 a0_0) := bc BK210.out 0
            have hcz19_1 : wr.cell? ⟨gb210, 1, none⟩ = some (.int .i64 a0_1) := bc BK210.out 1
            have hcz19_2 : wr.cell? ⟨gb210, 2, none⟩ = some (.slice A0_2 l0_2.length c0_2) := bc BK210.out 2
            have hfz19_0 := blk_frozen BK210.out 0
            have hfz19_1 := blk_frozen BK210.out 1
            have hfz19_2 := blk_frozen BK210.out 2
            have p212 : 0 ≤ (x5_1 : Int) := of_decide_eq_true Da
            have q212 : x5_1 < (l0_2.length : Int) := of_decide_eq_true Da
            obtain ⟨ad212, e212, hx212_0, hx212_1, hx212_2, hx212_3, hx212_4, hx212_5, hx212_6⟩ := at_T34 HR0_2.out x5_1 p212 q212
            cases e212
            replace hx212_0 := bz HB.out hx212_0
            replace hx212_1 := bz HB.out hx212_1
            replace hx212_2 := bz HB.out hx212_2
            replace hx212_3 := bz HB.out hx212_3
            replace hx212_4 := bz HB.out hx212_4
            replace hx212_5 := bz HB.out hx212_5
            replace hx212_6 := bz HB.out hx212_6
            replace p212 := eq_true p212
            replace q212 := eq_true q212
            go_wp2
            go_roundg k1
            case measure => have := HK1.out; omega
            case rel => exact ⟨(wrap64 (x5_1 + 1)), (x212000_1), (x212001_1), (x212002_1), (x212003_1), (x212004_1), (x212005_1), (x212006_1), (by first | rfl | (simp; done) | (simp [*]; done)), H', ⟨by have := HK1.out; omega⟩, ⟨by (with_reducible repeat (first | refine blk_drewN ?_ _ | refine blk_drew ?_ | refine blk_alloc ?_ _)); exact BK210.out⟩, ⟨by (with_reducible repeat (first | refine blk_drewN ?_ _ | refine blk_drew ?_ | refine blk_alloc ?_ _)); exact BK211.out⟩, ⟨By⟩⟩
        · rw [if_neg c6] at H
          exact absurd H (by simp)
      · rw [if_neg c5] at H
        have c5b0 : decide (x5_1 < (l0_2.length : Int)) = false := decide_eq_false c5
        clear c5
        simp only [Option.some.injEq, Prod.mk.injEq] at H
        obtain ⟨rfl, rfl, rfl, rfl, rfl, rfl, rfl⟩ := H
        have hnb20 := NB210_211.out
        have hnc20 := NB211_210.out
        have hcz21_0 : wr.cell? ⟨gb210, 0, none⟩ = some (.int .i64 a0_0) := bc BK210.out 0
        have hcz21_1 : wr.cell? ⟨gb210, 1, none⟩ = some (.int .i64 a0_1) := bc BK210.out 1
        have hcz21_2 : wr.cell? ⟨gb210, 2, none⟩ = some (.slice A0_2 l0_2.length c0_2) := bc BK210.out 2
        have hfz21_0 := blk_frozen BK210.out 0
        have hfz21_1 := blk_frozen BK210.out 1
        have hfz21_2 := blk_frozen BK210.out 2
        have hcz22_0 : wr.cell? ⟨gb211, 0, none⟩ = some (.int .i64 x212000_1) := bc BK211.out 0
        have hcz22_1 : wr.cell? ⟨gb211, 1, none⟩ = some (.string x212001_1) := bc BK211.out 1
        have hcz22_2 : wr.cell? ⟨gb211, 2, none⟩ = some (.string x212002_1) := bc BK211.out 2
        have hcz22_3 : wr.cell? ⟨gb211, 3, none⟩ = some (.string x212003_1) := bc BK211.out 3
        have hcz22_4 : wr.cell? ⟨gb211, 4, none⟩ = some (.bool x212004_1) := bc BK211.out 4
        have hcz22_5 : wr.cell? ⟨gb211, 5, none⟩ = some (.int .i64 x212005_1) := bc BK211.out 5
        have hcz22_6 : wr.cell? ⟨gb211, 6, none⟩ = some (.bool x212006_1) := bc BK211.out 6
        have hfz22_0 := blk_frozen BK211.out 0
        have hfz22_1 := blk_frozen BK211.out 1
        have hfz22_2 := blk_frozen BK211.out 2
        have hfz22_3 := blk_frozen BK211.out 3
        have hfz22_4 := blk_frozen BK211.out 4
        have hfz22_5 := blk_frozen BK211.out 5
        have hfz22_6 := blk_frozen BK211.out 6
        go_wp2
        refine bodyPost_ret (results_cell_row rfl _ _ gb211 34 #[.int .i64 0, .string (⟨#[]⟩ : ByteArray), .string (⟨#[]⟩ : ByteArray), .string (⟨#[]⟩ : ByteArray), .bool false, .int .i64 0, .bool false] (0, 0) _ rfl (pq7 Pk) Tryd.underlying34 rfl (by kernel_rfl)) rfl ?_
        exact ⟨Rf, By⟩

end Go.Proofs.YtpocoeghobdfiaaDoor.PG

-- WRITTEN BY A PROGRAM OF THIS SESSION (wip/gen/gen.py), by way of the kit's print program. Lean checks it.
namespace Go.Proofs.YtpocoeghobdfiaaDoor.PG
open Go.Proofs.YtpocoeghobdfiaaDoor.Sq Go.RowKit Go.Proofs.YtpocoeghobdfiaaDoorW.PrintWords Go.Proofs.YtpocoeghobdfiaaDoorW.PrintLast Go.Proofs.YtpocoeghobdfiaaDoorW.PrintMore
attribute [local go_sem] max2_int min2_int max_two min_two max_three min_three max_four min_four   -- for this text's walks alone
set_option linter.unusedVariables false
set_option linter.unusedSimpArgs false

/-! ### laws_toRow: function 111 -/
def laws_toRow.f (a0_0 : Int) (a0_1 : ByteArray) (a0_2 : ByteArray) (a0_3 : ByteArray) (a0_4 : Bool) (a0_5 : Int) (a0_6 : Bool) : Option (Int × ByteArray × ByteArray × ByteArray × Bool × Int × Bool) := some (a0_0, a0_1, a0_2, a0_3, a0_4, a0_5, a0_6)
set_option maxHeartbeats 8000000 in
set_option maxRecDepth 100000 in
theorem laws_toRow.calls (a0_0 : Int) (a0_1 : ByteArray) (a0_2 : ByteArray) (a0_3 : ByteArray) (a0_4 : Bool) (a0_5 : Int) (a0_6 : Bool) (r1 : Int) (r2 : ByteArray) (r3 : ByteArray) (r4 : ByteArray) (r5 : Bool) (r6 : Int) (r7 : Bool) (w : World) (h : laws_toRow.f a0_0 a0_1 a0_2 a0_3 a0_4 a0_5 a0_6 = some (r1, r2, r3, r4, r5, r6, r7)) :
    Calls Tryd.prog 111 #[.agg #[.int .i64 a0_0, .string a0_1, .string a0_2, .string a0_3, .bool a0_4, .int .i64 a0_5, .bool a0_6]] w fun e w' => e = .returned (.agg #[.int .i64 r1, .string r2, .string r3, .string r4, .bool r5, .int .i64 r6, .bool r7]) ∧ Below w.heap.size w w' := by
  have hu136 := Tryd.underlying136
  have hu34 := Tryd.underlying34
  have HB := Aside0.mk (Below.refl w.heap.size w)
  have H : (some (a0_0, a0_1, a0_2, a0_3, a0_4, a0_5, a0_6)) = some (r1, r2, r3, r4, r5, r6, r7) := h
  clear h
  simp only [Option.some.injEq, Prod.mk.injEq] at H
  obtain ⟨rfl, rfl, rfl, rfl, rfl, rfl, rfl⟩ := H
  go_enter Tryd.func111, Tryd.ntmps111
  go_wp2_with (first | ((with_reducible refine gate_dst (N := 1) rfl ?_); refine box_event ?hg (N := 1) ?hd (cs := #[.int .i64 a0_0, .string a0_1, .string a0_2, .string a0_3, .bool a0_4, .int .i64 a0_5, .bool a0_6]) (t := 136) ?hr ?_; (case hd => rfl); (case hg => rfl); (case hr => first | (go_simp; done) | (go_simp; rfl)); intro gb215 hg w2 hbox hb; have n0_ := Aside0.mk (below_step By hb); have n1_ := Aside0.mk (hbox); have n2_ := Aside0.mk ((by rw [hg]; exact (below_size By) : w.heap.size ≤ gb215)); have n3_ := Aside0.mk ((by rw [hg]; exact (below_size By) : w.heap.size ≤ gb215)); clear HB; have HB := n0_; have BK215 := n1_; have GW215 := n2_; have GE215 := n3_; clear n0_ n1_ n2_ n3_; clear hb hbox hg) | ((with_reducible refine gate_dst (N := 2) rfl ?_); refine box_event ?hg (N := 2) ?hd (cs := #[.int .i64 0, .string (⟨#[]⟩ : ByteArray), .string (⟨#[]⟩ : ByteArray), .string (⟨#[]⟩ : ByteArray), .bool false, .int .i64 0, .bool false]) (t := 34) ?hr ?_; (case hd => rfl); (case hg => rfl); (case hr => first | (go_simp; done) | (go_simp; rfl)); intro gb216 hg w3 hbox hb; have n0_ := Aside0.mk (bb BK215.out hb); have n1_ := Aside0.mk (below_step By hb); have n2_ := Aside0.mk (hbox); have n3_ := Aside0.mk ((by rw [hg]; exact (below_size By) : w.heap.size ≤ gb216)); have n4_ := Aside0.mk ((by rw [hg]; exact (below_size By) : w.heap.size ≤ gb216)); have n5_ := Aside0.mk ((by rw [hg]; exact Nat.ne_of_lt (bl BK215.out) : gb215 ≠ gb216)); have n6_ := Aside0.mk ((by rw [hg]; exact Nat.ne_of_gt (bl BK215.out) : gb216 ≠ gb215)); clear BK215; clear HB; have BK215 := n0_; have HB := n1_; have BK216 := n2_; have GW216 := n3_; have GE216 := n4_; have NB215_216 := n5_; have NB216_215 := n6_; clear n0_ n1_ n2_ n3_ n4_ n5_ n6_; clear hb hbox hg) | ((with_reducible refine gate_dst (N := 3) rfl ?_); refine box_event ?hg (N := 3) ?hd (cs := #[.int .i64 0, .string (⟨#[]⟩ : ByteArray), .string (⟨#[]⟩ : ByteArray), .string (⟨#[]⟩ : ByteArray), .bool false, .int .i64 0, .bool false]) (t := 34) ?hr ?_; (case hd => rfl); (case hg => rfl); (case hr => first | (go_simp; done) | (go_simp; rfl)); intro gb217 hg w4 hbox hb; have n0_ := Aside0.mk (bb BK215.out hb); have n1_ := Aside0.mk (bb BK216.out hb); have n2_ := Aside0.mk (below_step By hb); have n3_ := Aside0.mk (hbox); have n4_ := Aside0.mk ((by rw [hg]; exact (below_size By) : w.heap.size ≤ gb217)); have n5_ := Aside0.mk ((by rw [hg]; exact (below_size By) : w.heap.size ≤ gb217)); have n6_ := Aside0.mk ((by rw [hg]; exact Nat.ne_of_lt (bl BK215.out) : gb215 ≠ gb217)); have n7_ := Aside0.mk ((by rw [hg]; exact Nat.ne_of_gt (bl BK215.out) : gb217 ≠ gb215)); have n8_ := Aside0.mk ((by rw [hg]; exact Nat.ne_of_lt (bl BK216.out) : gb216 ≠ gb217)); have n9_ := Aside0.mk ((by rw [hg]; exact Nat.ne_of_gt (bl BK216.out) : gb217 ≠ gb216)); clear BK215; clear BK216; clear HB; have BK215 := n0_; have BK216 := n1_; have HB := n2_; have BK217 := n3_; have GW217 := n4_; have GE217 := n5_; have NB215_217 := n6_; have NB217_215 := n7_; have NB216_217 := n8_; have NB217_216 := n9_; clear n0_ n1_ n2_ n3_ n4_ n5_ n6_ n7_ n8_ n9_; clear hb hbox hg; have hnb5 := NB215_216.out; have hnc5 := NB216_215.out; have hnb6 := NB215_217.out; have hnc6 := NB217_215.out; have ⟨hcz7_0, hcz7_1, hcz7_2, hcz7_3, hcz7_4, hcz7_5, hcz7_6⟩ := cq7 BK215.out; have ⟨hfz7_0, hfz7_1, hfz7_2, hfz7_3, hfz7_4, hfz7_5, hfz7_6⟩ := fq7 BK215.out; have hnb8 := NB217_216.out; have hnc8 := NB216_217.out; have ⟨hcz9_0, hcz9_1, hcz9_2, hcz9_3, hcz9_4, hcz9_5, hcz9_6⟩ := cq7 BK217.out; have ⟨hfz9_0, hfz9_1, hfz9_2, hfz9_3, hfz9_4, hfz9_5, hfz9_6⟩ := fq7 BK217.out; have ⟨hcz10_0, hcz10_1, hcz10_2, hcz10_3, hcz10_4, hcz10_5, hcz10_6⟩ := cq7 BK216.out; have ⟨hfz10_0, hfz10_1, hfz10_2, hfz10_3, hfz10_4, hfz10_5, hfz10_6⟩ := fq7 BK216.out))
  refine bodyPost_ret (results_cell_row rfl _ _ gb216 34 #[.int .i64 a0_0, .string a0_1, .string a0_2, .string a0_3, .bool a0_4, .int .i64 a0_5, .bool a0_6] (0, 0) _ rfl (by (with_reducible repeat (first | refine blk_drewN ?_ _ | refine blk_drew ?_ | refine blk_alloc ?_ _)); refine blk_put (cs := #[.int .i64 a0_0, .string a0_1, .string a0_2, .string a0_3, .bool a0_4, .int .i64 a0_5, .bool false]) ?_ 6 _ rfl; (with_reducible repeat (first | refine blk_drewN ?_ _ | refine blk_drew ?_ | refine blk_alloc ?_ _)); refine blk_put (cs := #[.int .i64 a0_0, .string a0_1, .string a0_2, .string a0_3, .bool a0_4, .int .i64 0, .bool false]) ?_ 5 _ rfl; (with_reducible repeat (first | refine blk_drewN ?_ _ | refine blk_drew ?_ | refine blk_alloc ?_ _)); refine blk_put (cs := #[.int .i64 a0_0, .string a0_1, .string a0_2, .string a0_3, .bool false, .int .i64 0, .bool false]) ?_ 4 _ rfl; (with_reducible repeat (first | refine blk_drewN ?_ _ | refine blk_drew ?_ | refine blk_alloc ?_ _)); refine blk_put (cs := #[.int .i64 a0_0, .string a0_1, .string a0_2, .string (⟨#[]⟩ : ByteArray), .bool false, .int .i64 0, .bool false]) ?_ 3 _ rfl; (with_reducible repeat (first | refine blk_drewN ?_ _ | refine blk_drew ?_ | refine blk_alloc ?_ _)); refine blk_put (cs := #[.int .i64 a0_0, .string a0_1, .string (⟨#[]⟩ : ByteArray), .string (⟨#[]⟩ : ByteArray), .bool false, .int .i64 0, .bool false]) ?_ 2 _ rfl; (with_reducible repeat (first | refine blk_drewN ?_ _ | refine blk_drew ?_ | refine blk_alloc ?_ _)); refine blk_put (cs := #[.int .i64 a0_0, .string (⟨#[]⟩ : ByteArray), .string (⟨#[]⟩ : ByteArray), .string (⟨#[]⟩ : ByteArray), .bool false, .int .i64 0, .bool false]) ?_ 1 _ rfl; (with_reducible repeat (first | refine blk_drewN ?_ _ | refine blk_drew ?_ | refine blk_alloc ?_ _)); refine blk_put (cs := #[.int .i64 0, .string (⟨#[]⟩ : ByteArray), .string (⟨#[]⟩ : ByteArray), .string (⟨#[]⟩ : ByteArray), .bool false, .int .i64 0, .bool false]) ?_ 0 _ rfl; (with_reducible repeat (first | refine blk_drewN ?_ _ | refine blk_drew ?_ | refine blk_alloc ?_ _)); refine blk_far ?_ NB216_217.out _; (with_reducible repeat (first | refine blk_drewN ?_ _ | refine blk_drew ?_ | refine blk_alloc ?_ _)); refine blk_far ?_ NB216_217.out _; (with_reducible repeat (first | refine blk_drewN ?_ _ | refine blk_drew ?_ | refine blk_alloc ?_ _)); refine blk_far ?_ NB216_217.out _; (with_reducible repeat (first | refine blk_drewN ?_ _ | refine blk_drew ?_ | refine blk_alloc ?_ _)); refine blk_far ?_ NB216_217.out _; (with_reducible repeat (first | refine blk_drewN ?_ _ | refine blk_drew ?_ | refine blk_alloc ?_ _)); refine blk_far ?_ NB216_217.out _; (with_reducible repeat (first | refine blk_drewN ?_ _ | refine blk_drew ?_ | refine blk_alloc ?_ _)); refine blk_far ?_ NB216_217.out _; (with_reducible repeat (first | refine blk_drewN ?_ _ | refine blk_drew ?_ | refine blk_alloc ?_ _)); refine blk_far ?_ NB216_217.out _; (with_reducible repeat (first | refine blk_drewN ?_ _ | refine blk_drew ?_ | refine blk_alloc ?_ _)); exact BK216.out) Tryd.underlying34 rfl (by kernel_rfl)) rfl ?_
  exact ⟨Rf, By⟩

end Go.Proofs.YtpocoeghobdfiaaDoor.PG

-- WRITTEN BY A PROGRAM OF THIS SESSION (wip/gen/gen.py), by way of the kit's print program. Lean checks it.
namespace Go.Proofs.YtpocoeghobdfiaaDoor.PG
open Go.Proofs.YtpocoeghobdfiaaDoor.Sq Go.RowKit Go.Proofs.YtpocoeghobdfiaaDoorW.PrintWords Go.Proofs.YtpocoeghobdfiaaDoorW.PrintLast Go.Proofs.YtpocoeghobdfiaaDoorW.PrintMore
attribute [local go_sem] max2_int min2_int max_two min_two max_three min_three max_four min_four   -- for this text's walks alone
set_option linter.unusedVariables false
set_option linter.unusedSimpArgs false

/-! ### laws_toRowS: function 59 -/
def laws_toRowS.l0 : Nat → List (S136) → List (S34) → Int → Option ((List (S34)))
  | 0, _, _, _ => none
  | k + 1, x0, x3, x4 => if x4 < (x0.length : Int) then (if 0 ≤ x4 then ((laws_toRow.f ((rd_T136 x0 x4).f0) ((rd_T136 x0 x4).f1) ((rd_T136 x0 x4).f2) ((rd_T136 x0 x4).f3) ((rd_T136 x0 x4).f4) ((rd_T136 x0 x4).f5) ((rd_T136 x0 x4).f6)).bind fun bt222 => (if x4 < (x3.length : Int) then (laws_toRowS.l0 k x0 (x3.set (x4 : Int).toNat (⟨bt222.1, bt222.2.1, bt222.2.2.1, bt222.2.2.2.1, bt222.2.2.2.2.1, bt222.2.2.2.2.2.1, bt222.2.2.2.2.2.2⟩ : S34)) (wrap64 (x4 + 1))) else (none))) else (none)) else (some x3)
def laws_toRowS.f (k : Nat) (l0 : List (S136)) : Option ((List (S34))) := if 0 ≤ (l0.length : Int) then (if ((l0.length : Int) : Int).toNat ≤ 3518437208883 then (laws_toRowS.l0 k l0 (List.replicate ((l0.length : Int) : Int).toNat z34) 0) else (none)) else (none)
theorem laws_toRowS.mono_l : ∀ k, (∀ y0 y1 y2, LeO (laws_toRowS.l0 k y0 y1 y2) (laws_toRowS.l0 (k + 1) y0 y1 y2))
  | 0 => fun _ _ _ r h => by simp [laws_toRowS.l0] at h
  | k + 1 => by
    have ih0 := laws_toRowS.mono_l k
    · intro y0 y1 y2
      unfold laws_toRowS.l0
      repeat' first
      | (with_reducible exact ih0 _ _ _)
      | (with_reducible exact LeO.refl _)
      | (with_reducible exact LeO.none _)
      | (with_reducible refine LeO.ite ?_ ?_)
      | (with_reducible refine LeO.bind ?_ (fun _ => ?_))
      | exact ih0 _ _ _
      | exact LeO.none _
      | refine LeO.ite ?_ ?_
      | refine LeO.bind ?_ (fun _ => ?_)
theorem laws_toRowS.mono : ∀ a0 k, LeO (laws_toRowS.f k a0) (laws_toRowS.f (k + 1) a0) := by
  intro a0 k
  have ih0 := laws_toRowS.mono_l k
  unfold laws_toRowS.f
  repeat' first
      | (with_reducible exact ih0 _ _ _)
      | (with_reducible exact LeO.refl _)
      | (with_reducible exact LeO.none _)
      | (with_reducible refine LeO.ite ?_ ?_)
      | (with_reducible refine LeO.bind ?_ (fun _ => ?_))
      | exact ih0 _ _ _
      | exact LeO.none _
      | refine LeO.ite ?_ ?_
      | refine LeO.bind ?_ (fun _ => ?_)
set_option maxHeartbeats 8000000 in
set_option maxRecDepth 100000 in
theorem laws_toRowS.calls (k : Nat) (A0 : Option Addr) (c0 : Nat) (l0 : List (S136)) (r : List (S34)) (w : World) (hr0 : Kd.C k136 w A0 l0.length l0) (hc0 : l0.length ≤ c0) (h : laws_toRowS.f k l0 = some r) :
    Calls Tryd.prog 59 #[.slice A0 l0.length c0] w fun e w' => ∃ v0_ : Value, e = .returned (v0_) ∧ Kd.R k34 34 w' w.heap.size (fun _ => True) v0_ r ∧ Below w.heap.size w w' := by
  have hu136 := Tryd.underlying136
  have hu34 := Tryd.underlying34
  have HR0 := Aside0.mk hr0
  have HC0 := Aside0.mk hc0
  clear hr0 hc0
  have HB := Aside0.mk (Below.refl w.heap.size w)
  have H : (if 0 ≤ (l0.length : Int) then (if ((l0.length : Int) : Int).toNat ≤ 3518437208883 then (laws_toRowS.l0 k l0 (List.replicate ((l0.length : Int) : Int).toNat z34) 0) else (none)) else (none)) = some r := h
  clear h
  by_cases c2 : 0 ≤ (l0.length : Int)
  · rw [if_pos c2] at H
    have c2b0 := eq_true c2
    have c2b1 : decide (0 ≤ (l0.length : Int)) = true := decide_eq_true c2
    clear c2
    by_cases c3 : ((l0.length : Int) : Int).toNat ≤ 3518437208883
    · rw [if_pos c3] at H
      have c3b0 := eq_true c3
      have c3b1 : decide (((l0.length : Int) : Int).toNat ≤ 3518437208883) = true := decide_eq_true c3
      clear c3
      obtain ⟨y218, hy218⟩ : ∃ y_ : List (S34), y_ = (List.replicate ((l0.length : Int) : Int).toNat z34) := ⟨_, rfl⟩
      replace H : (laws_toRowS.l0 k l0 y218 0) = some r := by first | (rw [hy218]; with_reducible exact H) | (have H2_ := (Option.bind_some _ _).symm.trans H; rw [hy218]; with_reducible exact H2_) | (have H2_ := (Option.bind_some _ _).symm.trans H; with_reducible exact H2_) | with_reducible exact H | (rw [hy218]; exact H) | exact H
      have Ny218 := Aside0.mk hy218
      clear hy218
      have H' := Aside0.mk H
      clear H
      go_enter Tryd.func59, Tryd.ntmps59
      go_wp2_with (first | ((with_reducible refine gate_dst (N := 7) rfl ?_); refine Kd.R_make k34 _ 34 rfl (N := 7) rfl 36 _ _ rfl (l0.length : Int) rfl rfl Tryd.underlying36 (.agg #[(.int .i64 0), (.string ⟨#[]⟩), (.string ⟨#[]⟩), (.string ⟨#[]⟩), (.bool false), (.int .i64 0), (.bool false)]) 80 info34 rfl (by decide) (by omega) z34 (ok := fun _ => True) (okp := fun _ => True) (k34_mkM _ _ _ z34 ) (fun _ hk => hk) trivial (of_decide_eq_true Da) (Nat.le_trans (Nat.mul_le_mul_right _ (of_decide_eq_true Da : (l0.length : Int).toNat ≤ 3518437208883)) (by omega)) (Below.refl _ _) (Nat.le_refl _) ?_; intro v219 w4 ho5 hb hg_ hnew_; clear hg_ hnew_; (first | rw [← Ny218.out] at ho5 | (simp only [Int.reduceToNat] at ho5; rw [← Ny218.out] at ho5)); have n0_ := Aside0.mk (Kd.R_lower ho5 (below_size By)); have n1_ := Aside0.mk (below_step By hb); clear HB; have HO220 := n0_; have HB := n1_; clear n0_ n1_; clear hb ho5))
      go_loopg [4] k (fun kq v4 w' => ∃ (x3_1 : List (S34)) (x4_1 : Int), v4 = .int .i64 x4_1 ∧ Aside0 (laws_toRowS.l0 kq l0 x3_1 x4_1 = some r) ∧ Aside0 (kq ≤ k) ∧ Aside0 (Kd.R k34 34 w' w.heap.size (fun _ => True) v219 x3_1) ∧ Aside0 (Below w.heap.size w w'))
      case atStart => exact ⟨(y218), (0), (by first | rfl | (simp; done) | (simp [*]; done)), H', ⟨Nat.le_refl _⟩, ⟨by (with_reducible repeat (first | apply Kd.R_alloc | apply Kd.R_drewN | apply Kd.R_drew)); exact HO220.out⟩, ⟨By⟩⟩
      case round =>
        clear H'
        try clear c2
        try clear c2b0
        try clear c2b1
        try clear p2
        try clear c3
        try clear c3b0
        try clear c3b1
        try clear c5
        obtain ⟨x3_1, x4_1, rfl, HA, HK1, HO_3, HB⟩ := hrel
        cases gk with
        | zero => exact absurd HA.out (by simp [laws_toRowS.l0])
        | succ k1 =>
          have H := HA.out
          clear HA
          simp only [laws_toRowS.l0] at H
          by_cases c6 : x4_1 < (l0.length : Int)
          · rw [if_pos c6] at H
            have c6b0 : decide (x4_1 < (l0.length : Int)) = true := decide_eq_true c6
            clear c6
            by_cases c7 : 0 ≤ x4_1
            · rw [if_pos c7] at H
              have c7b0 : decide (0 ≤ x4_1) = true := decide_eq_true c7
              clear c7
              replace H := Option.bind_eq_some_iff.mp H
              obtain ⟨⟨t222, t223, t224, t225, t226, t227, t228⟩, A80, H⟩ := H
              replace H : (if x4_1 < (x3_1.length : Int) then (laws_toRowS.l0 k1 l0 (x3_1.set (x4_1 : Int).toNat (⟨t222, t223, t224, t225, t226, t227, t228⟩ : S34)) (wrap64 (x4_1 + 1))) else (none)) = some r := H
              have A8 := Aside0.mk A80
              clear A80
              by_cases c9 : x4_1 < (x3_1.length : Int)
              · rw [if_pos c9] at H
                have c9b0 : decide (x4_1 < (x3_1.length : Int)) = true := decide_eq_true c9
                clear c9
                obtain ⟨y229, hy229⟩ : ∃ y_ : List (S34), y_ = (x3_1.set (x4_1 : Int).toNat (⟨t222, t223, t224, t225, t226, t227, t228⟩ : S34)) := ⟨_, rfl⟩
                replace H : (laws_toRowS.l0 k1 l0 y229 (wrap64 (x4_1 + 1))) = some r := by first | (rw [hy229]; with_reducible exact H) | (have H2_ := (Option.bind_some _ _).symm.trans H; rw [hy229]; with_reducible exact H2_) | (have H2_ := (Option.bind_some _ _).symm.trans H; with_reducible exact H2_) | with_reducible exact H | (rw [hy229]; exact H) | exact H
                have Ny229 := Aside0.mk hy229
                clear hy229
                have H' := Aside0.mk H
                clear H
                have p221 : 0 ≤ (x4_1 : Int) := of_decide_eq_true Da
                have q221 : x4_1 < (l0.length : Int) := of_decide_eq_true Da
                obtain ⟨ad221, e221, hx221_0, hx221_1, hx221_2, hx221_3, hx221_4, hx221_5, hx221_6⟩ := at_T136 HR0.out x4_1 p221 q221
                cases e221
                replace hx221_0 := bz HB.out hx221_0
                replace hx221_1 := bz HB.out hx221_1
                replace hx221_2 := bz HB.out hx221_2
                replace hx221_3 := bz HB.out hx221_3
                replace hx221_4 := bz HB.out hx221_4
                replace hx221_5 := bz HB.out hx221_5
                replace hx221_6 := bz HB.out hx221_6
                replace p221 := eq_true p221
                replace q221 := eq_true q221
                go_wp2_with (first | ((with_reducible refine gate_callee (f := 111) rfl ?_); refine goesL_ (some 20) rfl rfl Tryd.func111 (by kernel_rfl) rfl #[.agg #[.int .i64 ((rd_T136 l0 x4_1).f0), .string ((rd_T136 l0 x4_1).f1), .string ((rd_T136 l0 x4_1).f2), .string ((rd_T136 l0 x4_1).f3), .bool ((rd_T136 l0 x4_1).f4), .int .i64 ((rd_T136 l0 x4_1).f5), .bool ((rd_T136 l0 x4_1).f6)]] rfl Ag ?_; (with_reducible refine (laws_toRow.calls ((rd_T136 l0 x4_1).f0) ((rd_T136 l0 x4_1).f1) ((rd_T136 l0 x4_1).f2) ((rd_T136 l0 x4_1).f3) ((rd_T136 l0 x4_1).f4) ((rd_T136 l0 x4_1).f5) ((rd_T136 l0 x4_1).f6) t222 t223 t224 t225 t226 t227 t228 _ A8.out).mono ?_); rintro e w11 ⟨rfl, hb⟩; refine ⟨_, rfl, ?_⟩; have n0_ := Aside0.mk (Kd.R_below (by (with_reducible repeat (first | apply Kd.R_alloc | apply Kd.R_drewN | apply Kd.R_drew)); exact HO_3.out) hb); have n1_ := Aside0.mk (below_step By hb); clear HO_3; clear HB; have HO_3 := n0_; have HB := n1_; clear n0_ n1_; (try clear hb); (try clear hb2); (try clear hk); (try clear hi); have p10 : 0 ≤ (x4_1 : Int) := of_decide_eq_true Da; have q10 : (x4_1 : Int) < ((x3_1.length : Int) : Int) := of_decide_eq_true Da; obtain ⟨go10, co10, eo10, gb10, gl10, cl10, HG10⟩ := Kd.R_form HO_3.out (by omega); (first | cases eo10 | (injection eo10 with ea_ en_ ec_; (first | subst ea_ | (injection ea_ with ea_; subst ea_)); subst ec_; clear en_)); have GB10 := Aside0.mk gb10; have GG10 := Aside0.mk HG10; clear gb10 gl10 HG10; obtain ⟨ce10, hcl10, hM10, hcc10, hfr10⟩ := Kd.R_elem HO_3.out z34 (x4_1 : Int) p10 q10; obtain rfl := k34_openM hM10; have hx10_0 : w11.cell? ⟨go10, (x4_1 : Int).toNat * 7, none⟩ = some (.int .i64 ((rd_T34 x3_1 x4_1).f0)) := hcc10 0 _ rfl; have hx10_1 : w11.cell? ⟨go10, (x4_1 : Int).toNat * 7 + 1, none⟩ = some (.string ((rd_T34 x3_1 x4_1).f1)) := hcc10 1 _ rfl; have hx10_2 : w11.cell? ⟨go10, (x4_1 : Int).toNat * 7 + 2, none⟩ = some (.string ((rd_T34 x3_1 x4_1).f2)) := hcc10 2 _ rfl; have hx10_3 : w11.cell? ⟨go10, (x4_1 : Int).toNat * 7 + 3, none⟩ = some (.string ((rd_T34 x3_1 x4_1).f3)) := hcc10 3 _ rfl; have hx10_4 : w11.cell? ⟨go10, (x4_1 : Int).toNat * 7 + 4, none⟩ = some (.bool ((rd_T34 x3_1 x4_1).f4)) := hcc10 4 _ rfl; have hx10_5 : w11.cell? ⟨go10, (x4_1 : Int).toNat * 7 + 5, none⟩ = some (.int .i64 ((rd_T34 x3_1 x4_1).f5)) := hcc10 5 _ rfl; have hx10_6 : w11.cell? ⟨go10, (x4_1 : Int).toNat * 7 + 6, none⟩ = some (.bool ((rd_T34 x3_1 x4_1).f6)) := hcc10 6 _ rfl; have hf10_0 : w11.frozen? ⟨go10, (x4_1 : Int).toNat * 7, none⟩ = false := hfr10 0; have hf10_1 : w11.frozen? ⟨go10, (x4_1 : Int).toNat * 7 + 1, none⟩ = false := hfr10 1; have hf10_2 : w11.frozen? ⟨go10, (x4_1 : Int).toNat * 7 + 2, none⟩ = false := hfr10 2; have hf10_3 : w11.frozen? ⟨go10, (x4_1 : Int).toNat * 7 + 3, none⟩ = false := hfr10 3; have hf10_4 : w11.frozen? ⟨go10, (x4_1 : Int).toNat * 7 + 4, none⟩ = false := hfr10 4; have hf10_5 : w11.frozen? ⟨go10, (x4_1 : Int).toNat * 7 + 5, none⟩ = false := hfr10 5; have hf10_6 : w11.frozen? ⟨go10, (x4_1 : Int).toNat * 7 + 6, none⟩ = false := hfr10 6; clear hcl10 hcc10 hfr10 hM10; replace p10 := eq_true p10; replace q10 := eq_true q10; have HX12 := Aside0.mk (show Kd.R k34 34 w11 w.heap.size (fun _ => True) (.slice (some ⟨go10, 0, none⟩) x3_1.length co10) x3_1 from (by (with_reducible repeat (first | apply Kd.R_alloc | apply Kd.R_drewN | apply Kd.R_drew)); exact HO_3.out)); obtain ⟨ce12, hcl12, hM12, hcc12, hfr12⟩ := Kd.R_elem HX12.out z34 (x4_1 : Int) (of_decide_eq_true Da) (by have h_ : (x4_1 : Int) < ((x3_1.length : Int) : Int) := of_decide_eq_true Da; first | exact h_ | (have e_ := (Kd.R_reads' HO_3.out).1; omega) | simpa using h_); obtain rfl := k34_openM hM12; have HP12 := Kd.R_seg HX12.out (x4_1 : Int) (of_decide_eq_true Da) (by have h_ : (x4_1 : Int) < ((x3_1.length : Int) : Int) := of_decide_eq_true Da; first | exact h_ | (have e_ := (Kd.R_reads' HO_3.out).1; omega) | simpa using h_) (seg := [.int .i64 t222, .string t223, .string t224, .string t225, .bool t226, .int .i64 t227, .bool t228]) (j := 0) hcl12 hcc12 (show 7 ≤ 7 from by decide) (x' := (⟨t222, t223, t224, t225, t226, t227, t228⟩ : S34)) (k34_mkM _ _ _ (⟨t222, t223, t224, t225, t226, t227, t228⟩ : S34) ) (fun _ hk => hk); have hx12_0 := hcc12 0 _ rfl; (try simp only [show (k34).sz = 7 from rfl, Nat.mul_one, Nat.add_zero] at hx12_0); have hf12_0 := hfr12 0; (try simp only [show (k34).sz = 7 from rfl, Nat.mul_one, Nat.add_zero] at hf12_0); have hx12_1 := hcc12 1 _ rfl; (try simp only [show (k34).sz = 7 from rfl, Nat.mul_one, Nat.add_zero] at hx12_1); have hf12_1 := hfr12 1; (try simp only [show (k34).sz = 7 from rfl, Nat.mul_one, Nat.add_zero] at hf12_1); have hx12_2 := hcc12 2 _ rfl; (try simp only [show (k34).sz = 7 from rfl, Nat.mul_one, Nat.add_zero] at hx12_2); have hf12_2 := hfr12 2; (try simp only [show (k34).sz = 7 from rfl, Nat.mul_one, Nat.add_zero] at hf12_2); have hx12_3 := hcc12 3 _ rfl; (try simp only [show (k34).sz = 7 from rfl, Nat.mul_one, Nat.add_zero] at hx12_3); have hf12_3 := hfr12 3; (try simp only [show (k34).sz = 7 from rfl, Nat.mul_one, Nat.add_zero] at hf12_3); have hx12_4 := hcc12 4 _ rfl; (try simp only [show (k34).sz = 7 from rfl, Nat.mul_one, Nat.add_zero] at hx12_4); have hf12_4 := hfr12 4; (try simp only [show (k34).sz = 7 from rfl, Nat.mul_one, Nat.add_zero] at hf12_4); have hx12_5 := hcc12 5 _ rfl; (try simp only [show (k34).sz = 7 from rfl, Nat.mul_one, Nat.add_zero] at hx12_5); have hf12_5 := hfr12 5; (try simp only [show (k34).sz = 7 from rfl, Nat.mul_one, Nat.add_zero] at hf12_5); have hx12_6 := hcc12 6 _ rfl; (try simp only [show (k34).sz = 7 from rfl, Nat.mul_one, Nat.add_zero] at hx12_6); have hf12_6 := hfr12 6; (try simp only [show (k34).sz = 7 from rfl, Nat.mul_one, Nat.add_zero] at hf12_6); clear hcl12 hcc12 hfr12 hM12) | ((with_reducible refine gate_store (t := 34) (p := 21) rfl ?_); refine store_event (t := 34) (p := 21) (v := ?vo_w13) (w1 := (((((((w11.setCell ⟨go10, (x4_1 : Int).toNat * 7, none⟩ (.int .i64 t222)).setCell ⟨go10, (x4_1 : Int).toNat * 7 + 1, none⟩ (.string t223)).setCell ⟨go10, (x4_1 : Int).toNat * 7 + 2, none⟩ (.string t224)).setCell ⟨go10, (x4_1 : Int).toNat * 7 + 3, none⟩ (.string t225)).setCell ⟨go10, (x4_1 : Int).toNat * 7 + 4, none⟩ (.bool t226)).setCell ⟨go10, (x4_1 : Int).toNat * 7 + 5, none⟩ (.int .i64 t227)).setCell ⟨go10, (x4_1 : Int).toNat * 7 + 6, none⟩ (.bool t228))) ?hg ?ho ?hn ?hr ?_; (case ho => rfl); (case hg => rfl); (case hn => rfl); (case hr => first | (go_simp; done) | (go_simp; rfl)); intro w13 hw; have hg : w11.grownBy w13 (some go10) := (by rw [hw]; exact HP12.2); have hp_ : Kd.R k34 34 w13 w.heap.size (fun _ => True) (.slice (some ⟨go10, 0, none⟩) x3_1.length co10) y229 := (by rw [hw, Ny229.out]; exact HP12.1); clear HP12; have n0_ := Aside0.mk (hp_); have n1_ := Aside0.mk ((by rw [hw]; exact below_set (below_set (below_set (below_set (below_set (below_set (below_set (HB.out) GB10.out) GB10.out) GB10.out) GB10.out) GB10.out) GB10.out) GB10.out : Below w.heap.size w w13)); clear HO_3; clear HB; have HO_3 := n0_; have HB := n1_; clear n0_ n1_; clear hg hw hp_))
                go_roundg k1
                case measure => have := HK1.out; omega
                case rel => exact ⟨(y229), (wrap64 (x4_1 + 1)), (by first | rfl | (simp; done) | (simp [*]; done)), H', ⟨by have := HK1.out; omega⟩, ⟨by (with_reducible repeat (first | apply Kd.R_alloc | apply Kd.R_drewN | apply Kd.R_drew)); exact HO_3.out⟩, ⟨By⟩⟩
              · rw [if_neg c9] at H
                exact absurd H (by simp)
            · rw [if_neg c7] at H
              exact absurd H (by simp)
          · rw [if_neg c6] at H
            have c6b0 : decide (x4_1 < (l0.length : Int)) = false := decide_eq_false c6
            clear c6
            obtain rfl := Option.some.inj H
            go_wp2
            go_ret
            exact ⟨_, Rf, by (with_reducible repeat (first | apply Kd.R_alloc | apply Kd.R_drewN | apply Kd.R_drew)); exact HO_3.out, By⟩
    · rw [if_neg c3] at H
      exact absurd H (by simp)
  · rw [if_neg c2] at H
    exact absurd H (by simp)

end Go.Proofs.YtpocoeghobdfiaaDoor.PG

-- WRITTEN BY A PROGRAM OF THIS SESSION (wip/gen/gen.py), by way of the kit's print program. Lean checks it.
namespace Go.Proofs.YtpocoeghobdfiaaDoor.PG
open Go.Proofs.YtpocoeghobdfiaaDoor.Sq Go.RowKit Go.Proofs.YtpocoeghobdfiaaDoorW.PrintWords Go.Proofs.YtpocoeghobdfiaaDoorW.PrintLast Go.Proofs.YtpocoeghobdfiaaDoorW.PrintMore
attribute [local go_sem] max2_int min2_int max_two min_two max_three min_three max_four min_four   -- for this text's walks alone
set_option linter.unusedVariables false
set_option linter.unusedSimpArgs false

/-! ### laws_toTable: function 19 -/
def laws_toTable.f (k : Nat) (a0_0 : Int) (a0_1 : Int) (l0_2 : List (S136)) : Option (Int × Int × (List (S34))) := (laws_toRowS.f k l0_2).bind fun t233 => (some (a0_0, a0_1, t233))
theorem laws_toTable.mono : ∀ a0 a1 a2 k, LeO (laws_toTable.f k a0 a1 a2) (laws_toTable.f (k + 1) a0 a1 a2) := by
  intro a0 a1 a2 k
  unfold laws_toTable.f
  repeat' first
      | (with_reducible exact laws_toRowS.mono _ _)
      | (with_reducible exact LeO.refl _)
      | (with_reducible exact LeO.none _)
      | (with_reducible refine LeO.ite ?_ ?_)
      | (with_reducible refine LeO.bind ?_ (fun _ => ?_))
      | exact laws_toRowS.mono _ _
      | exact LeO.none _
      | refine LeO.ite ?_ ?_
      | refine LeO.bind ?_ (fun _ => ?_)
set_option maxHeartbeats 8000000 in
set_option maxRecDepth 100000 in
theorem laws_toTable.calls (k : Nat) (a0_0 : Int) (a0_1 : Int) (A0_2 : Option Addr) (c0_2 : Nat) (l0_2 : List (S136)) (r1 : Int) (r2 : Int) (r3 : List (S34)) (w : World) (hr0_2 : Kd.C k136 w A0_2 l0_2.length l0_2) (hc0_2 : l0_2.length ≤ c0_2) (h : laws_toTable.f k a0_0 a0_1 l0_2 = some (r1, r2, r3)) :
    Calls Tryd.prog 19 #[.agg #[.int .i64 a0_0, .int .i64 a0_1, .slice A0_2 l0_2.length c0_2]] w fun e w' => ∃ v2_ : Value, e = .returned (.agg #[.int .i64 r1, .int .i64 r2, v2_]) ∧ Kd.R k34 34 w' w.heap.size (fun _ => True) v2_ r3 ∧ Below w.heap.size w w' := by
  have hu31 := Tryd.underlying31
  have hu38 := Tryd.underlying38
  have HR0_2 := Aside0.mk hr0_2
  have HC0_2 := Aside0.mk hc0_2
  clear hr0_2 hc0_2
  have HB := Aside0.mk (Below.refl w.heap.size w)
  have H : ((laws_toRowS.f k l0_2).bind fun t233 => (some (a0_0, a0_1, t233))) = some (r1, r2, r3) := h
  clear h
  replace H := Option.bind_eq_some_iff.mp H
  obtain ⟨t233, A20, H⟩ := H
  replace H : (some (a0_0, a0_1, t233)) = some (r1, r2, r3) := H
  have A2 := Aside0.mk A20
  clear A20
  simp only [Option.some.injEq, Prod.mk.injEq] at H
  obtain ⟨rfl, rfl, rfl⟩ := H
  go_enter Tryd.func19, Tryd.ntmps19
  go_wp2_with (first | ((with_reducible refine gate_dst (N := 1) rfl ?_); refine box_event ?hg (N := 1) ?hd (cs := #[.int .i64 a0_0, .int .i64 a0_1, .slice A0_2 l0_2.length c0_2]) (t := 31) ?hr ?_; (case hd => rfl); (case hg => rfl); (case hr => first | (go_simp; done) | (go_simp; rfl)); intro gb230 hg w3 hbox hb; have n0_ := Aside0.mk (below_step By hb); have n1_ := Aside0.mk (hbox); have n2_ := Aside0.mk ((by rw [hg]; exact (below_size By) : w.heap.size ≤ gb230)); have n3_ := Aside0.mk ((by rw [hg]; exact (below_size By) : w.heap.size ≤ gb230)); clear HB; have HB := n0_; have BK230 := n1_; have GW230 := n2_; have GE230 := n3_; clear n0_ n1_ n2_ n3_; clear hb hbox hg) | ((with_reducible refine gate_dst (N := 2) rfl ?_); refine box_event ?hg (N := 2) ?hd (cs := #[.int .i64 0, .int .i64 0, .slice none 0 0]) (t := 38) ?hr ?_; (case hd => rfl); (case hg => rfl); (case hr => first | (go_simp; done) | (go_simp; rfl)); intro gb231 hg w4 hbox hb; have n0_ := Aside0.mk (bb BK230.out hb); have n1_ := Aside0.mk (below_step By hb); have n2_ := Aside0.mk (hbox); have n3_ := Aside0.mk ((by rw [hg]; exact (below_size By) : w.heap.size ≤ gb231)); have n4_ := Aside0.mk ((by rw [hg]; exact (below_size By) : w.heap.size ≤ gb231)); have n5_ := Aside0.mk ((by rw [hg]; exact Nat.ne_of_lt (bl BK230.out) : gb230 ≠ gb231)); have n6_ := Aside0.mk ((by rw [hg]; exact Nat.ne_of_gt (bl BK230.out) : gb231 ≠ gb230)); clear BK230; clear HB; have BK230 := n0_; have HB := n1_; have BK231 := n2_; have GW231 := n3_; have GE231 := n4_; have NB230_231 := n5_; have NB231_230 := n6_; clear n0_ n1_ n2_ n3_ n4_ n5_ n6_; clear hb hbox hg) | ((with_reducible refine gate_dst (N := 3) rfl ?_); refine box_event ?hg (N := 3) ?hd (cs := #[.int .i64 0, .int .i64 0, .slice none 0 0]) (t := 38) ?hr ?_; (case hd => rfl); (case hg => rfl); (case hr => first | (go_simp; done) | (go_simp; rfl)); intro gb232 hg w5 hbox hb; have n0_ := Aside0.mk (bb BK230.out hb); have n1_ := Aside0.mk (bb BK231.out hb); have n2_ := Aside0.mk (below_step By hb); have n3_ := Aside0.mk (hbox); have n4_ := Aside0.mk ((by rw [hg]; exact (below_size By) : w.heap.size ≤ gb232)); have n5_ := Aside0.mk ((by rw [hg]; exact (below_size By) : w.heap.size ≤ gb232)); have n6_ := Aside0.mk ((by rw [hg]; exact Nat.ne_of_lt (bl BK230.out) : gb230 ≠ gb232)); have n7_ := Aside0.mk ((by rw [hg]; exact Nat.ne_of_gt (bl BK230.out) : gb232 ≠ gb230)); have n8_ := Aside0.mk ((by rw [hg]; exact Nat.ne_of_lt (bl BK231.out) : gb231 ≠ gb232)); have n9_ := Aside0.mk ((by rw [hg]; exact Nat.ne_of_gt (bl BK231.out) : gb232 ≠ gb231)); clear BK230; clear BK231; clear HB; have BK230 := n0_; have BK231 := n1_; have HB := n2_; have BK232 := n3_; have GW232 := n4_; have GE232 := n5_; have NB230_232 := n6_; have NB232_230 := n7_; have NB231_232 := n8_; have NB232_231 := n9_; clear n0_ n1_ n2_ n3_ n4_ n5_ n6_ n7_ n8_ n9_; clear hb hbox hg; have hnb6 := NB230_231.out; have hnc6 := NB231_230.out; have hnb7 := NB230_232.out; have hnc7 := NB232_230.out; have ⟨hcz8_0, hcz8_1, hcz8_2⟩ := cq3 BK230.out; have ⟨hfz8_0, hfz8_1, hfz8_2⟩ := fq3 BK230.out; have hnb9 := NB232_231.out; have hnc9 := NB231_232.out; have ⟨hcz10_0, hcz10_1, hcz10_2⟩ := cq3 BK232.out; have ⟨hfz10_0, hfz10_1, hfz10_2⟩ := fq3 BK232.out) | ((with_reducible refine gate_callee (f := 59) rfl ?_); refine goesL_ (some 12) rfl rfl Tryd.func59 (by kernel_rfl) rfl #[.slice A0_2 l0_2.length c0_2] rfl Ag ?_; (with_reducible refine (laws_toRowS.calls k _ _ l0_2 t233 _ ?side1 ?side2 A2.out).mono ?_); (case side1 => exact Kd.C_below HR0_2.out By); (case side2 => exact HC0_2.out); rintro e w11 ⟨v234, rfl, ho0, hb⟩; refine ⟨_, rfl, ?_⟩; have n0_ := Aside0.mk (Kd.R_lower ho0 (below_size By)); have n1_ := Aside0.mk (bf BK230.out hb); have n2_ := Aside0.mk (bf BK231.out hb); have n3_ := Aside0.mk (blk_below (g := gb232) (o := .cells #[.int .i64 a0_0, .int .i64 a0_1, .slice none 0 0] 38 (0, 0)) (pq2o3 Pk) hb); have n4_ := Aside0.mk (below_step By hb); clear BK230; clear BK231; clear BK232; clear HB; have HO235 := n0_; have BK230 := n1_; have BK231 := n2_; have BK232 := n3_; have HB := n4_; clear n0_ n1_ n2_ n3_ n4_; (try clear hb); (try clear hb2); (try clear hk); (try clear hi); (try clear ho0); obtain ⟨Ao12, co12, eo12⟩ := Kd.R_slice HO235.out; subst eo12; have ⟨hcz13_0, hcz13_1, hcz13_2⟩ := cq3 BK232.out; have ⟨hfz13_0, hfz13_1, hfz13_2⟩ := fq3 BK232.out; have ⟨hcz14_0, hcz14_1, hcz14_2⟩ := cq3 BK231.out; have ⟨hfz14_0, hfz14_1, hfz14_2⟩ := fq3 BK231.out))
  refine bodyPost_ret (results_cell_row rfl _ _ gb231 38 #[.int .i64 a0_0, .int .i64 a0_1, .slice Ao12 t233.length co12] (0, 0) _ rfl (by (with_reducible repeat (first | refine blk_drewN ?_ _ | refine blk_drew ?_ | refine blk_alloc ?_ _)); refine blk_put (cs := #[.int .i64 a0_0, .int .i64 a0_1, .slice none 0 0]) ?_ 2 _ rfl; (with_reducible repeat (first | refine blk_drewN ?_ _ | refine blk_drew ?_ | refine blk_alloc ?_ _)); refine blk_put (cs := #[.int .i64 a0_0, .int .i64 0, .slice none 0 0]) ?_ 1 _ rfl; (with_reducible repeat (first | refine blk_drewN ?_ _ | refine blk_drew ?_ | refine blk_alloc ?_ _)); refine blk_put (cs := #[.int .i64 0, .int .i64 0, .slice none 0 0]) ?_ 0 _ rfl; (with_reducible repeat (first | refine blk_drewN ?_ _ | refine blk_drew ?_ | refine blk_alloc ?_ _)); refine blk_far ?_ NB231_232.out _; (with_reducible repeat (first | refine blk_drewN ?_ _ | refine blk_drew ?_ | refine blk_alloc ?_ _)); exact BK231.out) Tryd.underlying38 rfl (by kernel_rfl)) rfl ?_
  exact ⟨_, Rf, by (with_reducible repeat (first | apply Kd.R_alloc | apply Kd.R_drewN | apply Kd.R_drew)); exact Kd.R_mono (Kd.R_far (p := ⟨gb231, 2, none⟩) (Kd.R_far (p := ⟨gb231, 1, none⟩) (Kd.R_far (p := ⟨gb231, 0, none⟩) (Kd.R_far (p := ⟨gb232, 2, none⟩) (Kd.R_types (Kd.R_types HO235.out BK232.out (by decide)) BK231.out (by decide)) (fun _ hk => hk.1.2) (.slice Ao12 t233.length co12)) (fun _ hk => hk.2) (.int .i64 a0_0)) (fun _ hk => hk.2) (.int .i64 a0_1)) (fun _ hk => hk.2) (.slice Ao12 t233.length co12)) (fun _ hk => trivial), By⟩

end Go.Proofs.YtpocoeghobdfiaaDoor.PG

-- WRITTEN BY A PROGRAM OF THIS SESSION (wip/gen/gen.py), by way of the kit's print program. Lean checks it.
namespace Go.Proofs.YtpocoeghobdfiaaDoor.PG
open Go.Proofs.YtpocoeghobdfiaaDoor.Sq Go.RowKit Go.Proofs.YtpocoeghobdfiaaDoorW.PrintWords Go.Proofs.YtpocoeghobdfiaaDoorW.PrintLast Go.Proofs.YtpocoeghobdfiaaDoorW.PrintMore
attribute [local go_sem] max2_int min2_int max_two min_two max_three min_three max_four min_four   -- for this text's walks alone
set_option linter.unusedVariables false
set_option linter.unusedSimpArgs false

/-! ### laws_eqRow: function 21 -/
def laws_eqRow.f (a0_0 : Int) (a0_1 : ByteArray) (a0_2 : ByteArray) (a0_3 : ByteArray) (a0_4 : Bool) (a0_5 : Int) (a0_6 : Bool) (a1_0 : Int) (a1_1 : ByteArray) (a1_2 : ByteArray) (a1_3 : ByteArray) (a1_4 : Bool) (a1_5 : Int) (a1_6 : Bool) : Option (Bool) := if a0_0 = a1_0 then (if a0_1.toList = a1_1.toList then (if a0_2.toList = a1_2.toList then (if a0_3.toList = a1_3.toList then (if (a0_4 != a1_4) = true then (some false) else (if a0_5 = a1_5 then (if (a0_6 != a1_6) = true then (some false) else (some true)) else (some false))) else (some false)) else (some false)) else (some false)) else (some false)
set_option maxHeartbeats 8000000 in
set_option maxRecDepth 100000 in
theorem laws_eqRow.calls (a0_0 : Int) (a0_1 : ByteArray) (a0_2 : ByteArray) (a0_3 : ByteArray) (a0_4 : Bool) (a0_5 : Int) (a0_6 : Bool) (a1_0 : Int) (a1_1 : ByteArray) (a1_2 : ByteArray) (a1_3 : ByteArray) (a1_4 : Bool) (a1_5 : Int) (a1_6 : Bool) (r : Bool) (w : World) (h : laws_eqRow.f a0_0 a0_1 a0_2 a0_3 a0_4 a0_5 a0_6 a1_0 a1_1 a1_2 a1_3 a1_4 a1_5 a1_6 = some r) :
    Calls Tryd.prog 21 #[.agg #[.int .i64 a0_0, .string a0_1, .string a0_2, .string a0_3, .bool a0_4, .int .i64 a0_5, .bool a0_6], .agg #[.int .i64 a1_0, .string a1_1, .string a1_2, .string a1_3, .bool a1_4, .int .i64 a1_5, .bool a1_6]] w fun e w' => e = .returned (.bool r) ∧ Below w.heap.size w w' := by
  have hu34 := Tryd.underlying34
  have HB := Aside0.mk (Below.refl w.heap.size w)
  have H : (if a0_0 = a1_0 then (if a0_1.toList = a1_1.toList then (if a0_2.toList = a1_2.toList then (if a0_3.toList = a1_3.toList then (if (a0_4 != a1_4) = true then (some false) else (if a0_5 = a1_5 then (if (a0_6 != a1_6) = true then (some false) else (some true)) else (some false))) else (some false)) else (some false)) else (some false)) else (some false)) = some r := h
  clear h
  by_cases c3 : a0_0 = a1_0
  · rw [if_pos c3] at H
    have c3b0 : (a0_0 == a1_0) = true := beq_iff_eq.mpr c3
    have c3b1 : (a0_0 != a1_0) = false := bne_eq_false_iff_eq.mpr c3
    clear c3
    by_cases c4 : a0_1.toList = a1_1.toList
    · rw [if_pos c4] at H
      have c4b0 : (a0_1.toList == a1_1.toList) = true := beq_iff_eq.mpr c4
      have c4b1 : (a0_1.toList != a1_1.toList) = false := bne_eq_false_iff_eq.mpr c4
      clear c4
      by_cases c5 : a0_2.toList = a1_2.toList
      · rw [if_pos c5] at H
        have c5b0 : (a0_2.toList == a1_2.toList) = true := beq_iff_eq.mpr c5
        have c5b1 : (a0_2.toList != a1_2.toList) = false := bne_eq_false_iff_eq.mpr c5
        clear c5
        by_cases c6 : a0_3.toList = a1_3.toList
        · rw [if_pos c6] at H
          have c6b0 : (a0_3.toList == a1_3.toList) = true := beq_iff_eq.mpr c6
          have c6b1 : (a0_3.toList != a1_3.toList) = false := bne_eq_false_iff_eq.mpr c6
          clear c6
          by_cases c7 : (a0_4 != a1_4) = true
          · rw [if_pos c7] at H
            have c7b0 : (a0_4 != a1_4) = true := c7
            (try (have c7b1 : decide (a0_4 = a1_4) = false := by simpa using c7))
            (try (have c7b2 : (a0_4 == a1_4) = false := by simpa using c7))
            (try (have c7b3 : ¬ (a0_4 = a1_4) := by simpa using c7))
            clear c7
            obtain rfl := Option.some.inj H
            go_enter Tryd.func21, Tryd.ntmps21
            go_wp2_with (first | ((with_reducible refine gate_dst (N := 2) rfl ?_); refine box_event ?hg (N := 2) ?hd (cs := #[.int .i64 a0_0, .string a0_1, .string a0_2, .string a0_3, .bool a0_4, .int .i64 a0_5, .bool a0_6]) (t := 34) ?hr ?_; (case hd => rfl); (case hg => rfl); (case hr => first | (go_simp; done) | (go_simp; rfl)); intro gb236 hg w8 hbox hb; have n0_ := Aside0.mk (below_step By hb); have n1_ := Aside0.mk (hbox); have n2_ := Aside0.mk ((by rw [hg]; exact (below_size By) : w.heap.size ≤ gb236)); have n3_ := Aside0.mk ((by rw [hg]; exact (below_size By) : w.heap.size ≤ gb236)); clear HB; have HB := n0_; have BK236 := n1_; have GW236 := n2_; have GE236 := n3_; clear n0_ n1_ n2_ n3_; clear hb hbox hg) | ((with_reducible refine gate_dst (N := 3) rfl ?_); refine box_event ?hg (N := 3) ?hd (cs := #[.int .i64 a1_0, .string a1_1, .string a1_2, .string a1_3, .bool a1_4, .int .i64 a1_5, .bool a1_6]) (t := 34) ?hr ?_; (case hd => rfl); (case hg => rfl); (case hr => first | (go_simp; done) | (go_simp; rfl)); intro gb237 hg w9 hbox hb; have n0_ := Aside0.mk (bb BK236.out hb); have n1_ := Aside0.mk (below_step By hb); have n2_ := Aside0.mk (hbox); have n3_ := Aside0.mk ((by rw [hg]; exact (below_size By) : w.heap.size ≤ gb237)); have n4_ := Aside0.mk ((by rw [hg]; exact (below_size By) : w.heap.size ≤ gb237)); have n5_ := Aside0.mk ((by rw [hg]; exact Nat.ne_of_lt (bl BK236.out) : gb236 ≠ gb237)); have n6_ := Aside0.mk ((by rw [hg]; exact Nat.ne_of_gt (bl BK236.out) : gb237 ≠ gb236)); clear BK236; clear HB; have BK236 := n0_; have HB := n1_; have BK237 := n2_; have GW237 := n3_; have GE237 := n4_; have NB236_237 := n5_; have NB237_236 := n6_; clear n0_ n1_ n2_ n3_ n4_ n5_ n6_; clear hb hbox hg; have hnb10 := NB236_237.out; have hnc10 := NB237_236.out; have ⟨hcz11_0, hcz11_1, hcz11_2, hcz11_3, hcz11_4, hcz11_5, hcz11_6⟩ := cq7 BK236.out; have ⟨hfz11_0, hfz11_1, hfz11_2, hfz11_3, hfz11_4, hfz11_5, hfz11_6⟩ := fq7 BK236.out; have ⟨hcz12_0, hcz12_1, hcz12_2, hcz12_3, hcz12_4, hcz12_5, hcz12_6⟩ := cq7 BK237.out; have ⟨hfz12_0, hfz12_1, hfz12_2, hfz12_3, hfz12_4, hfz12_5, hfz12_6⟩ := fq7 BK237.out))
            go_ret
            exact ⟨Rf, By⟩
          · rw [if_neg c7] at H
            have c7b0 : (a0_4 != a1_4) = false := by simpa using c7
            (try (have c7b1 : decide (a0_4 = a1_4) = true := by simpa using c7))
            (try (have c7b2 : (a0_4 == a1_4) = true := by simpa using c7))
            clear c7
            by_cases c13 : a0_5 = a1_5
            · rw [if_pos c13] at H
              have c13b0 : (a0_5 == a1_5) = true := beq_iff_eq.mpr c13
              have c13b1 : (a0_5 != a1_5) = false := bne_eq_false_iff_eq.mpr c13
              clear c13
              by_cases c14 : (a0_6 != a1_6) = true
              · rw [if_pos c14] at H
                have c14b0 : (a0_6 != a1_6) = true := c14
                (try (have c14b1 : decide (a0_6 = a1_6) = false := by simpa using c14))
                (try (have c14b2 : (a0_6 == a1_6) = false := by simpa using c14))
                (try (have c14b3 : ¬ (a0_6 = a1_6) := by simpa using c14))
                clear c14
                obtain rfl := Option.some.inj H
                go_enter Tryd.func21, Tryd.ntmps21
                go_wp2_with (first | ((with_reducible refine gate_dst (N := 2) rfl ?_); refine box_event ?hg (N := 2) ?hd (cs := #[.int .i64 a0_0, .string a0_1, .string a0_2, .string a0_3, .bool a0_4, .int .i64 a0_5, .bool a0_6]) (t := 34) ?hr ?_; (case hd => rfl); (case hg => rfl); (case hr => first | (go_simp; done) | (go_simp; rfl)); intro gb236 hg w15 hbox hb; have n0_ := Aside0.mk (below_step By hb); have n1_ := Aside0.mk (hbox); have n2_ := Aside0.mk ((by rw [hg]; exact (below_size By) : w.heap.size ≤ gb236)); have n3_ := Aside0.mk ((by rw [hg]; exact (below_size By) : w.heap.size ≤ gb236)); clear HB; have HB := n0_; have BK236 := n1_; have GW236 := n2_; have GE236 := n3_; clear n0_ n1_ n2_ n3_; clear hb hbox hg) | ((with_reducible refine gate_dst (N := 3) rfl ?_); refine box_event ?hg (N := 3) ?hd (cs := #[.int .i64 a1_0, .string a1_1, .string a1_2, .string a1_3, .bool a1_4, .int .i64 a1_5, .bool a1_6]) (t := 34) ?hr ?_; (case hd => rfl); (case hg => rfl); (case hr => first | (go_simp; done) | (go_simp; rfl)); intro gb237 hg w16 hbox hb; have n0_ := Aside0.mk (bb BK236.out hb); have n1_ := Aside0.mk (below_step By hb); have n2_ := Aside0.mk (hbox); have n3_ := Aside0.mk ((by rw [hg]; exact (below_size By) : w.heap.size ≤ gb237)); have n4_ := Aside0.mk ((by rw [hg]; exact (below_size By) : w.heap.size ≤ gb237)); have n5_ := Aside0.mk ((by rw [hg]; exact Nat.ne_of_lt (bl BK236.out) : gb236 ≠ gb237)); have n6_ := Aside0.mk ((by rw [hg]; exact Nat.ne_of_gt (bl BK236.out) : gb237 ≠ gb236)); clear BK236; clear HB; have BK236 := n0_; have HB := n1_; have BK237 := n2_; have GW237 := n3_; have GE237 := n4_; have NB236_237 := n5_; have NB237_236 := n6_; clear n0_ n1_ n2_ n3_ n4_ n5_ n6_; clear hb hbox hg; have hnb17 := NB236_237.out; have hnc17 := NB237_236.out; have ⟨hcz18_0, hcz18_1, hcz18_2, hcz18_3, hcz18_4, hcz18_5, hcz18_6⟩ := cq7 BK236.out; have ⟨hfz18_0, hfz18_1, hfz18_2, hfz18_3, hfz18_4, hfz18_5, hfz18_6⟩ := fq7 BK236.out; have ⟨hcz19_0, hcz19_1, hcz19_2, hcz19_3, hcz19_4, hcz19_5, hcz19_6⟩ := cq7 BK237.out; have ⟨hfz19_0, hfz19_1, hfz19_2, hfz19_3, hfz19_4, hfz19_5, hfz19_6⟩ := fq7 BK237.out))
                go_ret
                exact ⟨Rf, By⟩
              · rw [if_neg c14] at H
                have c14b0 : (a0_6 != a1_6) = false := by simpa using c14
                (try (have c14b1 : decide (a0_6 = a1_6) = true := by simpa using c14))
                (try (have c14b2 : (a0_6 == a1_6) = true := by simpa using c14))
                clear c14
                obtain rfl := Option.some.inj H
                go_enter Tryd.func21, Tryd.ntmps21
                go_wp2_with (first | ((with_reducible refine gate_dst (N := 2) rfl ?_); refine box_event ?hg (N := 2) ?hd (cs := #[.int .i64 a0_0, .string a0_1, .string a0_2, .string a0_3, .bool a0_4, .int .i64 a0_5, .bool a0_6]) (t := 34) ?hr ?_; (case hd => rfl); (case hg => rfl); (case hr => first | (go_simp; done) | (go_simp; rfl)); intro gb236 hg w20 hbox hb; have n0_ := Aside0.mk (below_step By hb); have n1_ := Aside0.mk (hbox); have n2_ := Aside0.mk ((by rw [hg]; exact (below_size By) : w.heap.size ≤ gb236)); have n3_ := Aside0.mk ((by rw [hg]; exact (below_size By) : w.heap.size ≤ gb236)); clear HB; have HB := n0_; have BK236 := n1_; have GW236 := n2_; have GE236 := n3_; clear n0_ n1_ n2_ n3_; clear hb hbox hg) | ((with_reducible refine gate_dst (N := 3) rfl ?_); refine box_event ?hg (N := 3) ?hd (cs := #[.int .i64 a1_0, .string a1_1, .string a1_2, .string a1_3, .bool a1_4, .int .i64 a1_5, .bool a1_6]) (t := 34) ?hr ?_; (case hd => rfl); (case hg => rfl); (case hr => first | (go_simp; done) | (go_simp; rfl)); intro gb237 hg w21 hbox hb; have n0_ := Aside0.mk (bb BK236.out hb); have n1_ := Aside0.mk (below_step By hb); have n2_ := Aside0.mk (hbox); have n3_ := Aside0.mk ((by rw [hg]; exact (below_size By) : w.heap.size ≤ gb237)); have n4_ := Aside0.mk ((by rw [hg]; exact (below_size By) : w.heap.size ≤ gb237)); have n5_ := Aside0.mk ((by rw [hg]; exact Nat.ne_of_lt (bl BK236.out) : gb236 ≠ gb237)); have n6_ := Aside0.mk ((by rw [hg]; exact Nat.ne_of_gt (bl BK236.out) : gb237 ≠ gb236)); clear BK236; clear HB; have BK236 := n0_; have HB := n1_; have BK237 := n2_; have GW237 := n3_; have GE237 := n4_; have NB236_237 := n5_; have NB237_236 := n6_; clear n0_ n1_ n2_ n3_ n4_ n5_ n6_; clear hb hbox hg; have hnb22 := NB236_237.out; have hnc22 := NB237_236.out; have ⟨hcz23_0, hcz23_1, hcz23_2, hcz23_3, hcz23_4, hcz23_5, hcz23_6⟩ := cq7 BK236.out; have ⟨hfz23_0, hfz23_1, hfz23_2, hfz23_3, hfz23_4, hfz23_5, hfz23_6⟩ := fq7 BK236.out; have ⟨hcz24_0, hcz24_1, hcz24_2, hcz24_3, hcz24_4, hcz24_5, hcz24_6⟩ := cq7 BK237.out; have ⟨hfz24_0, hfz24_1, hfz24_2, hfz24_3, hfz24_4, hfz24_5, hfz24_6⟩ := fq7 BK237.out))
                go_ret
                exact ⟨Rf, By⟩
            · rw [if_neg c13] at H
              have c13b0 : (a0_5 == a1_5) = false := beq_eq_false_iff_ne.mpr c13
              have c13b1 : (a0_5 != a1_5) = true := bne_iff_ne.mpr c13
              obtain rfl := Option.some.inj H
              go_enter Tryd.func21, Tryd.ntmps21
              go_wp2_with (first | ((with_reducible refine gate_dst (N := 2) rfl ?_); refine box_event ?hg (N := 2) ?hd (cs := #[.int .i64 a0_0, .string a0_1, .string a0_2, .string a0_3, .bool a0_4, .int .i64 a0_5, .bool a0_6]) (t := 34) ?hr ?_; (case hd => rfl); (case hg => rfl); (case hr => first | (go_simp; done) | (go_simp; rfl)); intro gb236 hg w25 hbox hb; have n0_ := Aside0.mk (below_step By hb); have n1_ := Aside0.mk (hbox); have n2_ := Aside0.mk ((by rw [hg]; exact (below_size By) : w.heap.size ≤ gb236)); have n3_ := Aside0.mk ((by rw [hg]; exact (below_size By) : w.heap.size ≤ gb236)); clear HB; have HB := n0_; have BK236 := n1_; have GW236 := n2_; have GE236 := n3_; clear n0_ n1_ n2_ n3_; clear hb hbox hg) | ((with_reducible refine gate_dst (N := 3) rfl ?_); refine box_event ?hg (N := 3) ?hd (cs := #[.int .i64 a1_0, .string a1_1, .string a1_2, .string a1_3, .bool a1_4, .int .i64 a1_5, .bool a1_6]) (t := 34) ?hr ?_; (case hd => rfl); (case hg => rfl); (case hr => first | (go_simp; done) | (go_simp; rfl)); intro gb237 hg w26 hbox hb; have n0_ := Aside0.mk (bb BK236.out hb); have n1_ := Aside0.mk (below_step By hb); have n2_ := Aside0.mk (hbox); have n3_ := Aside0.mk ((by rw [hg]; exact (below_size By) : w.heap.size ≤ gb237)); have n4_ := Aside0.mk ((by rw [hg]; exact (below_size By) : w.heap.size ≤ gb237)); have n5_ := Aside0.mk ((by rw [hg]; exact Nat.ne_of_lt (bl BK236.out) : gb236 ≠ gb237)); have n6_ := Aside0.mk ((by rw [hg]; exact Nat.ne_of_gt (bl BK236.out) : gb237 ≠ gb236)); clear BK236; clear HB; have BK236 := n0_; have HB := n1_; have BK237 := n2_; have GW237 := n3_; have GE237 := n4_; have NB236_237 := n5_; have NB237_236 := n6_; clear n0_ n1_ n2_ n3_ n4_ n5_ n6_; clear hb hbox hg; have hnb27 := NB236_237.out; have hnc27 := NB237_236.out; have ⟨hcz28_0, hcz28_1, hcz28_2, hcz28_3, hcz28_4, hcz28_5, hcz28_6⟩ := cq7 BK236.out; have ⟨hfz28_0, hfz28_1, hfz28_2, hfz28_3, hfz28_4, hfz28_5, hfz28_6⟩ := fq7 BK236.out; have ⟨hcz29_0, hcz29_1, hcz29_2, hcz29_3, hcz29_4, hcz29_5, hcz29_6⟩ := cq7 BK237.out; have ⟨hfz29_0, hfz29_1, hfz29_2, hfz29_3, hfz29_4, hfz29_5, hfz29_6⟩ := fq7 BK237.out))
              go_ret
              exact ⟨Rf, By⟩
        · rw [if_neg c6] at H
          have c6b0 : (a0_3.toList == a1_3.toList) = false := beq_eq_false_iff_ne.mpr c6
          have c6b1 : (a0_3.toList != a1_3.toList) = true := bne_iff_ne.mpr c6
          obtain rfl := Option.some.inj H
          go_enter Tryd.func21, Tryd.ntmps21
          go_wp2_with (first | ((with_reducible refine gate_dst (N := 2) rfl ?_); refine box_event ?hg (N := 2) ?hd (cs := #[.int .i64 a0_0, .string a0_1, .string a0_2, .string a0_3, .bool a0_4, .int .i64 a0_5, .bool a0_6]) (t := 34) ?hr ?_; (case hd => rfl); (case hg => rfl); (case hr => first | (go_simp; done) | (go_simp; rfl)); intro gb236 hg w30 hbox hb; have n0_ := Aside0.mk (below_step By hb); have n1_ := Aside0.mk (hbox); have n2_ := Aside0.mk ((by rw [hg]; exact (below_size By) : w.heap.size ≤ gb236)); have n3_ := Aside0.mk ((by rw [hg]; exact (below_size By) : w.heap.size ≤ gb236)); clear HB; have HB := n0_; have BK236 := n1_; have GW236 := n2_; have GE236 := n3_; clear n0_ n1_ n2_ n3_; clear hb hbox hg) | ((with_reducible refine gate_dst (N := 3) rfl ?_); refine box_event ?hg (N := 3) ?hd (cs := #[.int .i64 a1_0, .string a1_1, .string a1_2, .string a1_3, .bool a1_4, .int .i64 a1_5, .bool a1_6]) (t := 34) ?hr ?_; (case hd => rfl); (case hg => rfl); (case hr => first | (go_simp; done) | (go_simp; rfl)); intro gb237 hg w31 hbox hb; have n0_ := Aside0.mk (bb BK236.out hb); have n1_ := Aside0.mk (below_step By hb); have n2_ := Aside0.mk (hbox); have n3_ := Aside0.mk ((by rw [hg]; exact (below_size By) : w.heap.size ≤ gb237)); have n4_ := Aside0.mk ((by rw [hg]; exact (below_size By) : w.heap.size ≤ gb237)); have n5_ := Aside0.mk ((by rw [hg]; exact Nat.ne_of_lt (bl BK236.out) : gb236 ≠ gb237)); have n6_ := Aside0.mk ((by rw [hg]; exact Nat.ne_of_gt (bl BK236.out) : gb237 ≠ gb236)); clear BK236; clear HB; have BK236 := n0_; have HB := n1_; have BK237 := n2_; have GW237 := n3_; have GE237 := n4_; have NB236_237 := n5_; have NB237_236 := n6_; clear n0_ n1_ n2_ n3_ n4_ n5_ n6_; clear hb hbox hg; have hnb32 := NB236_237.out; have hnc32 := NB237_236.out; have ⟨hcz33_0, hcz33_1, hcz33_2, hcz33_3, hcz33_4, hcz33_5, hcz33_6⟩ := cq7 BK236.out; have ⟨hfz33_0, hfz33_1, hfz33_2, hfz33_3, hfz33_4, hfz33_5, hfz33_6⟩ := fq7 BK236.out; have ⟨hcz34_0, hcz34_1, hcz34_2, hcz34_3, hcz34_4, hcz34_5, hcz34_6⟩ := cq7 BK237.out; have ⟨hfz34_0, hfz34_1, hfz34_2, hfz34_3, hfz34_4, hfz34_5, hfz34_6⟩ := fq7 BK237.out))
          go_ret
          exact ⟨Rf, By⟩
      · rw [if_neg c5] at H
        have c5b0 : (a0_2.toList == a1_2.toList) = false := beq_eq_false_iff_ne.mpr c5
        have c5b1 : (a0_2.toList != a1_2.toList) = true := bne_iff_ne.mpr c5
        obtain rfl := Option.some.inj H
        go_enter Tryd.func21, Tryd.ntmps21
        go_wp2_with (first | ((with_reducible refine gate_dst (N := 2) rfl ?_); refine box_event ?hg (N := 2) ?hd (cs := #[.int .i64 a0_0, .string a0_1, .string a0_2, .string a0_3, .bool a0_4, .int .i64 a0_5, .bool a0_6]) (t := 34) ?hr ?_; (case hd => rfl); (case hg => rfl); (case hr => first | (go_simp; done) | (go_simp; rfl)); intro gb236 hg w35 hbox hb; have n0_ := Aside0.mk (below_step By hb); have n1_ := Aside0.mk (hbox); have n2_ := Aside0.mk ((by rw [hg]; exact (below_size By) : w.heap.size ≤ gb236)); have n3_ := Aside0.mk ((by rw [hg]; exact (below_size By) : w.heap.size ≤ gb236)); clear HB; have HB := n0_; have BK236 := n1_; have GW236 := n2_; have GE236 := n3_; clear n0_ n1_ n2_ n3_; clear hb hbox hg) | ((with_reducible refine gate_dst (N := 3) rfl ?_); refine box_event ?hg (N := 3) ?hd (cs := #[.int .i64 a1_0, .string a1_1, .string a1_2, .string a1_3, .bool a1_4, .int .i64 a1_5, .bool a1_6]) (t := 34) ?hr ?_; (case hd => rfl); (case hg => rfl); (case hr => first | (go_simp; done) | (go_simp; rfl)); intro gb237 hg w36 hbox hb; have n0_ := Aside0.mk (bb BK236.out hb); have n1_ := Aside0.mk (below_step By hb); have n2_ := Aside0.mk (hbox); have n3_ := Aside0.mk ((by rw [hg]; exact (below_size By) : w.heap.size ≤ gb237)); have n4_ := Aside0.mk ((by rw [hg]; exact (below_size By) : w.heap.size ≤ gb237)); have n5_ := Aside0.mk ((by rw [hg]; exact Nat.ne_of_lt (bl BK236.out) : gb236 ≠ gb237)); have n6_ := Aside0.mk ((by rw [hg]; exact Nat.ne_of_gt (bl BK236.out) : gb237 ≠ gb236)); clear BK236; clear HB; have BK236 := n0_; have HB := n1_; have BK237 := n2_; have GW237 := n3_; have GE237 := n4_; have NB236_237 := n5_; have NB237_236 := n6_; clear n0_ n1_ n2_ n3_ n4_ n5_ n6_; clear hb hbox hg; have hnb37 := NB236_237.out; have hnc37 := NB237_236.out; have ⟨hcz38_0, hcz38_1, hcz38_2, hcz38_3, hcz38_4, hcz38_5, hcz38_6⟩ := cq7 BK236.out; have ⟨hfz38_0, hfz38_1, hfz38_2, hfz38_3, hfz38_4, hfz38_5, hfz38_6⟩ := fq7 BK236.out; have ⟨hcz39_0, hcz39_1, hcz39_2, hcz39_3, hcz39_4, hcz39_5, hcz39_6⟩ := cq7 BK237.out; have ⟨hfz39_0, hfz39_1, hfz39_2, hfz39_3, hfz39_4, hfz39_5, hfz39_6⟩ := fq7 BK237.out))
        go_ret
        exact ⟨Rf, By⟩
    · rw [if_neg c4] at H
      have c4b0 : (a0_1.toList == a1_1.toList) = false := beq_eq_false_iff_ne.mpr c4
      have c4b1 : (a0_1.toList != a1_1.toList) = true := bne_iff_ne.mpr c4
      obtain rfl := Option.some.inj H
      go_enter Tryd.func21, Tryd.ntmps21
      go_wp2_with (first | ((with_reducible refine gate_dst (N := 2) rfl ?_); refine box_event ?hg (N := 2) ?hd (cs := #[.int .i64 a0_0, .string a0_1, .string a0_2, .string a0_3, .bool a0_4, .int .i64 a0_5, .bool a0_6]) (t := 34) ?hr ?_; (case hd => rfl); (case hg => rfl); (case hr => first | (go_simp; done) | (go_simp; rfl)); intro gb236 hg w40 hbox hb; have n0_ := Aside0.mk (below_step By hb); have n1_ := Aside0.mk (hbox); have n2_ := Aside0.mk ((by rw [hg]; exact (below_size By) : w.heap.size ≤ gb236)); have n3_ := Aside0.mk ((by rw [hg]; exact (below_size By) : w.heap.size ≤ gb236)); clear HB; have HB := n0_; have BK236 := n1_; have GW236 := n2_; have GE236 := n3_; clear n0_ n1_ n2_ n3_; clear hb hbox hg) | ((with_reducible refine gate_dst (N := 3) rfl ?_); refine box_event ?hg (N := 3) ?hd (cs := #[.int .i64 a1_0, .string a1_1, .string a1_2, .string a1_3, .bool a1_4, .int .i64 a1_5, .bool a1_6]) (t := 34) ?hr ?_; (case hd => rfl); (case hg => rfl); (case hr => first | (go_simp; done) | (go_simp; rfl)); intro gb237 hg w41 hbox hb; have n0_ := Aside0.mk (bb BK236.out hb); have n1_ := Aside0.mk (below_step By hb); have n2_ := Aside0.mk (hbox); have n3_ := Aside0.mk ((by rw [hg]; exact (below_size By) : w.heap.size ≤ gb237)); have n4_ := Aside0.mk ((by rw [hg]; exact (below_size By) : w.heap.size ≤ gb237)); have n5_ := Aside0.mk ((by rw [hg]; exact Nat.ne_of_lt (bl BK236.out) : gb236 ≠ gb237)); have n6_ := Aside0.mk ((by rw [hg]; exact Nat.ne_of_gt (bl BK236.out) : gb237 ≠ gb236)); clear BK236; clear HB; have BK236 := n0_; have HB := n1_; have BK237 := n2_; have GW237 := n3_; have GE237 := n4_; have NB236_237 := n5_; have NB237_236 := n6_; clear n0_ n1_ n2_ n3_ n4_ n5_ n6_; clear hb hbox hg; have hnb42 := NB236_237.out; have hnc42 := NB237_236.out; have ⟨hcz43_0, hcz43_1, hcz43_2, hcz43_3, hcz43_4, hcz43_5, hcz43_6⟩ := cq7 BK236.out; have ⟨hfz43_0, hfz43_1, hfz43_2, hfz43_3, hfz43_4, hfz43_5, hfz43_6⟩ := fq7 BK236.out; have ⟨hcz44_0, hcz44_1, hcz44_2, hcz44_3, hcz44_4, hcz44_5, hcz44_6⟩ := cq7 BK237.out; have ⟨hfz44_0, hfz44_1, hfz44_2, hfz44_3, hfz44_4, hfz44_5, hfz44_6⟩ := fq7 BK237.out))
      go_ret
      exact ⟨Rf, By⟩
  · rw [if_neg c3] at H
    have c3b0 : (a0_0 == a1_0) = false := beq_eq_false_iff_ne.mpr c3
    have c3b1 : (a0_0 != a1_0) = true := bne_iff_ne.mpr c3
    obtain rfl := Option.some.inj H
    go_enter Tryd.func21, Tryd.ntmps21
    go_wp2_with (first | ((with_reducible refine gate_dst (N := 2) rfl ?_); refine box_event ?hg (N := 2) ?hd (cs := #[.int .i64 a0_0, .string a0_1, .string a0_2, .string a0_3, .bool a0_4, .int .i64 a0_5, .bool a0_6]) (t := 34) ?hr ?_; (case hd => rfl); (case hg => rfl); (case hr => first | (go_simp; done) | (go_simp; rfl)); intro gb236 hg w45 hbox hb; have n0_ := Aside0.mk (below_step By hb); have n1_ := Aside0.mk (hbox); have n2_ := Aside0.mk ((by rw [hg]; exact (below_size By) : w.heap.size ≤ gb236)); have n3_ := Aside0.mk ((by rw [hg]; exact (below_size By) : w.heap.size ≤ gb236)); clear HB; have HB := n0_; have BK236 := n1_; have GW236 := n2_; have GE236 := n3_; clear n0_ n1_ n2_ n3_; clear hb hbox hg) | ((with_reducible refine gate_dst (N := 3) rfl ?_); refine box_event ?hg (N := 3) ?hd (cs := #[.int .i64 a1_0, .string a1_1, .string a1_2, .string a1_3, .bool a1_4, .int .i64 a1_5, .bool a1_6]) (t := 34) ?hr ?_; (case hd => rfl); (case hg => rfl); (case hr => first | (go_simp; done) | (go_simp; rfl)); intro gb237 hg w46 hbox hb; have n0_ := Aside0.mk (bb BK236.out hb); have n1_ := Aside0.mk (below_step By hb); have n2_ := Aside0.mk (hbox); have n3_ := Aside0.mk ((by rw [hg]; exact (below_size By) : w.heap.size ≤ gb237)); have n4_ := Aside0.mk ((by rw [hg]; exact (below_size By) : w.heap.size ≤ gb237)); have n5_ := Aside0.mk ((by rw [hg]; exact Nat.ne_of_lt (bl BK236.out) : gb236 ≠ gb237)); have n6_ := Aside0.mk ((by rw [hg]; exact Nat.ne_of_gt (bl BK236.out) : gb237 ≠ gb236)); clear BK236; clear HB; have BK236 := n0_; have HB := n1_; have BK237 := n2_; have GW237 := n3_; have GE237 := n4_; have NB236_237 := n5_; have NB237_236 := n6_; clear n0_ n1_ n2_ n3_ n4_ n5_ n6_; clear hb hbox hg; have hnb47 := NB236_237.out; have hnc47 := NB237_236.out; have ⟨hcz48_0, hcz48_1, hcz48_2, hcz48_3, hcz48_4, hcz48_5, hcz48_6⟩ := cq7 BK236.out; have ⟨hfz48_0, hfz48_1, hfz48_2, hfz48_3, hfz48_4, hfz48_5, hfz48_6⟩ := fq7 BK236.out; have ⟨hcz49_0, hcz49_1, hcz49_2, hcz49_3, hcz49_4, hcz49_5, hcz49_6⟩ := cq7 BK237.out; have ⟨hfz49_0, hfz49_1, hfz49_2, hfz49_3, hfz49_4, hfz49_5, hfz49_6⟩ := fq7 BK237.out))
    go_ret
    exact ⟨Rf, By⟩

end Go.Proofs.YtpocoeghobdfiaaDoor.PG
