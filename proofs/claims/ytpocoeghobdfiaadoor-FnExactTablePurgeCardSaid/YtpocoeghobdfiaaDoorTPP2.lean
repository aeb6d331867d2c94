/-
  Functions that the law reaches, each as a plain Lean function, with the proof that the call comes to it (written by a program of this session by way of the kit's print program). Conditions: what each contract states.
-/
import Derived.Test.YtpocoeghobdfiaaDoorTPP1
import Derived.Test.YtpocoeghobdfiaaDoorTPSq
namespace Go.Proofs.YtpocoeghobdfiaaDoor.PG
open Go.Proofs.YtpocoeghobdfiaaDoor.Sq Go.RowKit Go.Proofs.YtpocoeghobdfiaaDoorW.PrintWords Go.Proofs.YtpocoeghobdfiaaDoorW.PrintLast Go.Proofs.YtpocoeghobdfiaaDoorW.PrintMore
attribute [local go_sem] max2_int min2_int max_two min_two max_three min_three max_four min_four   -- for this text's walks alone
set_option linter.unusedVariables false
set_option linter.unusedSimpArgs false

/-! ### spec_TableRight: function 58 -/
mutual
def spec_TableRight.j0 : Nat → Bool → Int → Int → List (S34) → Option (Bool)
  | 0, _, _, _, _ => none
  | k + 1, x21, x164000, x164001, x164002 => if x21 = true then (some false) else (spec_TableRight.l0 k 0 x164000 x164001 x164002)
def spec_TableRight.l0 : Nat → Int → Int → Int → List (S34) → Option (Bool)
  | 0, _, _, _, _ => none
  | k + 1, x3, x164000, x164001, x164002 => if x3 < (x164002.length : Int) then (if 0 ≤ x3 then ((spec_l12Row.f k ((rd_T34 x164002 x3).f0) ((rd_T34 x164002 x3).f1) ((rd_T34 x164002 x3).f2) ((rd_T34 x164002 x3).f3) ((rd_T34 x164002 x3).f4) ((rd_T34 x164002 x3).f5) ((rd_T34 x164002 x3).f6)).bind fun t168 => (if t168 = true then ((spec_l02Is.f ((rd_T34 x164002 x3).f0) 1 (wrap64 (x164000 - 1))).bind fun t169 => (if t169 = true then (if x3 > 0 then (if 0 ≤ (wrap64 (x3 - 1)) then (if (wrap64 (x3 - 1)) < (x164002.length : Int) then (if ((rd_T34 x164002 (wrap64 (x3 - 1))).f0) ≥ ((rd_T34 x164002 x3).f0) then (spec_TableRight.j2 k x3 true x164000 x164001 x164002 ((rd_T34 x164002 x3).f0) ((rd_T34 x164002 x3).f1) ((rd_T34 x164002 x3).f2) ((rd_T34 x164002 x3).f3) ((rd_T34 x164002 x3).f4) ((rd_T34 x164002 x3).f5) ((rd_T34 x164002 x3).f6)) else ((spec_l02Is.f ((rd_T34 x164002 x3).f5) 1 x164001).bind fun t171 => (spec_TableRight.j2 k x3 (!t171) x164000 x164001 x164002 ((rd_T34 x164002 x3).f0) ((rd_T34 x164002 x3).f1) ((rd_T34 x164002 x3).f2) ((rd_T34 x164002 x3).f3) ((rd_T34 x164002 x3).f4) ((rd_T34 x164002 x3).f5) ((rd_T34 x164002 x3).f6)))) else (none)) else (none)) else ((spec_l02Is.f ((rd_T34 x164002 x3).f5) 1 x164001).bind fun t172 => (spec_TableRight.j2 k x3 (!t172) x164000 x164001 x164002 ((rd_T34 x164002 x3).f0) ((rd_T34 x164002 x3).f1) ((rd_T34 x164002 x3).f2) ((rd_T34 x164002 x3).f3) ((rd_T34 x164002 x3).f4) ((rd_T34 x164002 x3).f5) ((rd_T34 x164002 x3).f6)))) else (spec_TableRight.j2 k x3 true x164000 x164001 x164002 ((rd_T34 x164002 x3).f0) ((rd_T34 x164002 x3).f1) ((rd_T34 x164002 x3).f2) ((rd_T34 x164002 x3).f3) ((rd_T34 x164002 x3).f4) ((rd_T34 x164002 x3).f5) ((rd_T34 x164002 x3).f6)))) else (spec_TableRight.j2 k x3 true x164000 x164001 x164002 ((rd_T34 x164002 x3).f0) ((rd_T34 x164002 x3).f1) ((rd_T34 x164002 x3).f2) ((rd_T34 x164002 x3).f3) ((rd_T34 x164002 x3).f4) ((rd_T34 x164002 x3).f5) ((rd_T34 x164002 x3).f6)))) else (none)) else (some true)
def spec_TableRight.j2 : Nat → Int → Bool → Int → Int → List (S34) → Int → ByteArray → ByteArray → ByteArray → Bool → Int → Bool → Option (Bool)
  | 0, _, _, _, _, _, _, _, _, _, _, _, _ => none
  | k + 1, x3, x69, x164000, x164001, x164002, x168000, x168001, x168002, x168003, x168004, x168005, x168006 => if x69 = true then (some false) else (spec_TableRight.l1 k x3 0 x164000 x164001 x164002 x168000 x168001 x168002 x168003 x168004 x168005 x168006)
def spec_TableRight.l1 : Nat → Int → Int → Int → Int → List (S34) → Int → ByteArray → ByteArray → ByteArray → Bool → Int → Bool → Option (Bool)
  | 0, _, _, _, _, _, _, _, _, _, _, _, _ => none
  | k + 1, x3, x5, x164000, x164001, x164002, x168000, x168001, x168002, x168003, x168004, x168005, x168006 => if x5 < x3 then (if 0 ≤ x5 then (if x5 < (x164002.length : Int) then (if ((rd_T34 x164002 x5).f5) = x168005 then (some false) else (if ((rd_T34 x164002 x5).f6 = true) then (spec_TableRight.l1 k x3 (wrap64 (x5 + 1)) x164000 x164001 x164002 x168000 x168001 x168002 x168003 x168004 x168005 x168006) else (if x168006 = true then (spec_TableRight.l1 k x3 (wrap64 (x5 + 1)) x164000 x164001 x164002 x168000 x168001 x168002 x168003 x168004 x168005 x168006) else (if ((rd_T34 x164002 x5).f1).toList = x168001.toList then (some false) else (spec_TableRight.l1 k x3 (wrap64 (x5 + 1)) x164000 x164001 x164002 x168000 x168001 x168002 x168003 x168004 x168005 x168006))))) else (none)) else (none)) else (spec_TableRight.l0 k (wrap64 (x3 + 1)) x164000 x164001 x164002)
end
def spec_TableRight.f (k : Nat) (a0_0 : Int) (a0_1 : Int) (l0_2 : List (S34)) : Option (Bool) := (spec_l02Is.f a0_0 1 1000000).bind fun t164 => (if t164 = true then ((spec_l02Is.f a0_1 0 1000000).bind fun t165 => (if t165 = true then (spec_TableRight.j0 k (decide ((l0_2.length : Int) > 20)) a0_0 a0_1 l0_2) else (spec_TableRight.j0 k true a0_0 a0_1 l0_2))) else (spec_TableRight.j0 k true a0_0 a0_1 l0_2))
theorem spec_TableRight.mono_l : ∀ k, (∀ y0 y1 y2 y3, LeO (spec_TableRight.j0 k y0 y1 y2 y3) (spec_TableRight.j0 (k + 1) y0 y1 y2 y3)) ∧ (∀ y0 y1 y2 y3, LeO (spec_TableRight.l0 k y0 y1 y2 y3) (spec_TableRight.l0 (k + 1) y0 y1 y2 y3)) ∧ (∀ y0 y1 y2 y3 y4 y5 y6 y7 y8 y9 y10 y11, LeO (spec_TableRight.j2 k y0 y1 y2 y3 y4 y5 y6 y7 y8 y9 y10 y11) (spec_TableRight.j2 (k + 1) y0 y1 y2 y3 y4 y5 y6 y7 y8 y9 y10 y11)) ∧ (∀ y0 y1 y2 y3 y4 y5 y6 y7 y8 y9 y10 y11, LeO (spec_TableRight.l1 k y0 y1 y2 y3 y4 y5 y6 y7 y8 y9 y10 y11) (spec_TableRight.l1 (k + 1) y0 y1 y2 y3 y4 y5 y6 y7 y8 y9 y10 y11))
  | 0 => ⟨fun _ _ _ _ r h => by simp [spec_TableRight.j0] at h, fun _ _ _ _ r h => by simp [spec_TableRight.l0] at h, fun _ _ _ _ _ _ _ _ _ _ _ _ r h => by simp [spec_TableRight.j2] at h, fun _ _ _ _ _ _ _ _ _ _ _ _ r h => by simp [spec_TableRight.l1] at h⟩
  | k + 1 => by
    obtain ⟨ih0, ih1, ih2, ih3⟩ := spec_TableRight.mono_l k
    refine ⟨?_, ?_, ?_, ?_⟩
    · intro y0 y1 y2 y3
      unfold spec_TableRight.j0
      repeat' first
      | (with_reducible exact ih0 _ _ _ _)
      | (with_reducible exact ih1 _ _ _ _)
      | (with_reducible exact ih2 _ _ _ _ _ _ _ _ _ _ _ _)
      | (with_reducible exact ih3 _ _ _ _ _ _ _ _ _ _ _ _)
      | (with_reducible exact spec_l12Row.mono _ _ _ _ _ _ _ _)
      | (with_reducible exact LeO.refl _)
      | (with_reducible exact LeO.none _)
      | (with_reducible refine LeO.ite ?_ ?_)
      | (with_reducible refine LeO.bind ?_ (fun _ => ?_))
      | exact ih0 _ _ _ _
      | exact ih1 _ _ _ _
      | exact ih2 _ _ _ _ _ _ _ _ _ _ _ _
      | exact ih3 _ _ _ _ _ _ _ _ _ _ _ _
      | exact spec_l12Row.mono _ _ _ _ _ _ _ _
      | exact LeO.none _
      | refine LeO.ite ?_ ?_
      | refine LeO.bind ?_ (fun _ => ?_)
    · intro y0 y1 y2 y3
      unfold spec_TableRight.l0
      repeat' first
      | (with_reducible exact ih0 _ _ _ _)
      | (with_reducible exact ih1 _ _ _ _)
      | (with_reducible exact ih2 _ _ _ _ _ _ _ _ _ _ _ _)
      | (with_reducible exact ih3 _ _ _ _ _ _ _ _ _ _ _ _)
      | (with_reducible exact spec_l12Row.mono _ _ _ _ _ _ _ _)
      | (with_reducible exact LeO.refl _)
      | (with_reducible exact LeO.none _)
      | (with_reducible refine LeO.ite ?_ ?_)
      | (with_reducible refine LeO.bind ?_ (fun _ => ?_))
      | exact ih0 _ _ _ _
      | exact ih1 _ _ _ _
      | exact ih2 _ _ _ _ _ _ _ _ _ _ _ _
      | exact ih3 _ _ _ _ _ _ _ _ _ _ _ _
      | exact spec_l12Row.mono _ _ _ _ _ _ _ _
      | exact LeO.none _
      | refine LeO.ite ?_ ?_
      | refine LeO.bind ?_ (fun _ => ?_)
    · intro y0 y1 y2 y3 y4 y5 y6 y7 y8 y9 y10 y11
      unfold spec_TableRight.j2
      repeat' first
      | (with_reducible exact ih0 _ _ _ _)
      | (with_reducible exact ih1 _ _ _ _)
      | (with_reducible exact ih2 _ _ _ _ _ _ _ _ _ _ _ _)
      | (with_reducible exact ih3 _ _ _ _ _ _ _ _ _ _ _ _)
      | (with_reducible exact spec_l12Row.mono _ _ _ _ _ _ _ _)
      | (with_reducible exact LeO.refl _)
      | (with_reducible exact LeO.none _)
      | (with_reducible refine LeO.ite ?_ ?_)
      | (with_reducible refine LeO.bind ?_ (fun _ => ?_))
      | exact ih0 _ _ _ _
      | exact ih1 _ _ _ _
      | exact ih2 _ _ _ _ _ _ _ _ _ _ _ _
      | exact ih3 _ _ _ _ _ _ _ _ _ _ _ _
      | exact spec_l12Row.mono _ _ _ _ _ _ _ _
      | exact LeO.none _
      | refine LeO.ite ?_ ?_
      | refine LeO.bind ?_ (fun _ => ?_)
    · intro y0 y1 y2 y3 y4 y5 y6 y7 y8 y9 y10 y11
      unfold spec_TableRight.l1
      repeat' first
      | (with_reducible exact ih0 _ _ _ _)
      | (with_reducible exact ih1 _ _ _ _)
      | (with_reducible exact ih2 _ _ _ _ _ _ _ _ _ _ _ _)
      | (with_reducible exact ih3 _ _ _ _ _ _ _ _ _ _ _ _)
      | (with_reducible exact spec_l12Row.mono _ _ _ _ _ _ _ _)
      | (with_reducible exact LeO.refl _)
      | (with_reducible exact LeO.none _)
      | (with_reducible refine LeO.ite ?_ ?_)
      | (with_reducible refine LeO.bind ?_ (fun _ => ?_))
      | exact ih0 _ _ _ _
      | exact ih1 _ _ _ _
      | exact ih2 _ _ _ _ _ _ _ _ _ _ _ _
      | exact ih3 _ _ _ _ _ _ _ _ _ _ _ _
      | exact spec_l12Row.mono _ _ _ _ _ _ _ _
      | exact LeO.none _
      | refine LeO.ite ?_ ?_
      | refine LeO.bind ?_ (fun _ => ?_)
theorem spec_TableRight.mono : ∀ a0 a1 a2 k, LeO (spec_TableRight.f k a0 a1 a2) (spec_TableRight.f (k + 1) a0 a1 a2) := by
  intro a0 a1 a2 k
  obtain ⟨ih0, ih1, ih2, ih3⟩ := spec_TableRight.mono_l k
  unfold spec_TableRight.f
  repeat' first
      | (with_reducible exact ih0 _ _ _ _)
      | (with_reducible exact ih1 _ _ _ _)
      | (with_reducible exact ih2 _ _ _ _ _ _ _ _ _ _ _ _)
      | (with_reducible exact ih3 _ _ _ _ _ _ _ _ _ _ _ _)
      | (with_reducible exact spec_l12Row.mono _ _ _ _ _ _ _ _)
      | (with_reducible exact LeO.refl _)
      | (with_reducible exact LeO.none _)
      | (with_reducible refine LeO.ite ?_ ?_)
      | (with_reducible refine LeO.bind ?_ (fun _ => ?_))
      | exact ih0 _ _ _ _
      | exact ih1 _ _ _ _
      | exact ih2 _ _ _ _ _ _ _ _ _ _ _ _
      | exact ih3 _ _ _ _ _ _ _ _ _ _ _ _
      | exact spec_l12Row.mono _ _ _ _ _ _ _ _
      | exact LeO.none _
      | refine LeO.ite ?_ ?_
      | refine LeO.bind ?_ (fun _ => ?_)
def spec_TableRight.T7 : Bool × List (List Nat × List Nat) := (true, [([], []), ([0], [0]), ([1], [1]), ([2, 1], [2]), ([3], [3]), ([4, 3], [3, 4]), ([3], [3]), ([6, 3], [3, 6]), ([7, 3], [3, 7]), ([5, 8, 3, 3], [3, 5, 8]), ([9, 3], [3, 9]), ([3, 10], [3, 10]), ([11, 9], [11]), ([12], [12]), ([13, 12], [12, 13]), ([14, 12, 12], [12, 14]), ([15], [15]), ([16, 15], [15, 16]), ([15], [15]), ([18, 15], [15, 18]), ([17, 19, 15], [15, 17, 19]), ([20, 15], [15, 20]), ([21, 15], [15, 21]), ([15], [15]), ([23, 15], [15, 23]), ([22, 24, 15], [15, 22, 24]), ([15, 25, 12], [12, 15, 25]), ([12, 26], [12, 26]), ([27, 15], [27]), ([28], [28]), ([29, 28], [28, 29]), ([28], [28]), ([31, 28], [28, 31]), ([30, 32, 28, 28], [28, 30, 32]), ([33, 28], [28, 33]), ([28, 34], [28, 34])])
def spec_TableRight.B7 : List Nat := [0, 1, 3, 7, 15, 31, 15, 79, 207, 511, 1023, 2047, 4095, 8191, 16383, 32767, 65535, 131071, 65535, 327679, 1048575, 2097151, 4194303, 65535, 8454143, 33554431, 67108863, 134217727, 268435455, 536870911, 1073741823, 536870911, 2684354559, 8589934591, 17179869183, 34359738367]
theorem spec_TableRight.tab7 : rtab .any (opsOf Tryd.f58 7) = spec_TableRight.T7 := by kernel_rfl
theorem spec_TableRight.bits7 : waitsOk spec_TableRight.T7.2 spec_TableRight.B7 = true := by kernel_rfl
def spec_TableRight.T12 : Bool × List (List Nat × List Nat) := (true, [([], []), ([0], [0]), ([], []), ([1, 2], [1, 2]), ([3], [3]), ([4], [4]), ([], []), ([6], [6]), ([5, 7], [5, 7]), ([8], [8]), ([9], [9]), ([10, 9], [9, 10]), ([9], [9]), ([11, 12, 9], [9, 11, 12]), ([13, 9], [9, 13]), ([14, 9], [9, 14]), ([15, 9], [9, 15]), ([16, 9, 9], [9, 16]), ([17], [17]), ([18, 17], [17, 18]), ([19, 17], [17, 19]), ([17, 20, 9], [9, 17, 20]), ([21, 17, 9], [9, 21]), ([22], [22]), ([23, 22], [22, 23]), ([22], [22]), ([24, 25, 22], [22, 24, 25]), ([26, 22], [22, 26]), ([27, 22], [22, 27]), ([22], [22]), ([29, 22], [22, 29]), ([28, 30, 22], [22, 28, 30]), ([22, 31, 9], [9, 22, 31]), ([9, 32], [9, 32])])
def spec_TableRight.B12 : List Nat := [0, 1, 0, 7, 15, 31, 0, 64, 255, 511, 1023, 2047, 1023, 8191, 16383, 32767, 65535, 131071, 262143, 524287, 1048575, 2097151, 4194303, 8388607, 16777215, 8388607, 67108863, 134217727, 268435455, 8388607, 545259519, 2147483647, 4294967295, 8589934591]
theorem spec_TableRight.tab12 : rtab .any (opsOf Tryd.f58 12) = spec_TableRight.T12 := by kernel_rfl
theorem spec_TableRight.bits12 : waitsOk spec_TableRight.T12.2 spec_TableRight.B12 = true := by kernel_rfl
set_option maxHeartbeats 8000000 in
set_option maxRecDepth 100000 in
theorem spec_TableRight.calls (k : Nat) (a0_0 : Int) (a0_1 : Int) (A0_2 : Option Addr) (c0_2 : Nat) (l0_2 : List (S34)) (r : Bool) (w : World) (hr0_2 : Kd.C k34 w A0_2 l0_2.length l0_2) (hc0_2 : l0_2.length ≤ c0_2) (h : spec_TableRight.f k a0_0 a0_1 l0_2 = some r) :
    Calls Tryd.prog 58 #[.agg #[.int .i64 a0_0, .int .i64 a0_1, .slice A0_2 l0_2.length c0_2]] w fun e w' => e = .returned (.bool r) ∧ Below w.heap.size w w' := by
  have hu38 := Tryd.underlying38
  have hu34 := Tryd.underlying34
  have HR0_2 := Aside0.mk hr0_2
  have HC0_2 := Aside0.mk hc0_2
  clear hr0_2 hc0_2
  have HB := Aside0.mk (Below.refl w.heap.size w)
  have H : ((spec_l02Is.f a0_0 1 1000000).bind fun t164 => (if t164 = true then ((spec_l02Is.f a0_1 0 1000000).bind fun t165 => (if t165 = true then (spec_TableRight.j0 k (decide ((l0_2.length : Int) > 20)) a0_0 a0_1 l0_2) else (spec_TableRight.j0 k true a0_0 a0_1 l0_2))) else (spec_TableRight.j0 k true a0_0 a0_1 l0_2))) = some r := h
  clear h
  have HC2 := Aside0.mk H
  clear H
  go_enter Tryd.func58, Tryd.ntmps58
  go_upto_region 1 with (first | ((with_reducible refine gate_dst (N := 1) rfl ?_); (try (refine gate_guard (by rfl) ?_; dsimp only)); refine box_event ?hg (N := 1) ?hd (cs := #[.int .i64 a0_0, .int .i64 a0_1, .slice A0_2 l0_2.length c0_2]) (t := 38) ?hr ?_; (case hd => rfl); (case hg => rfl); (case hr => first | (go_simp; done) | (go_simp; rfl)); intro gb163 hg w3 hbox hb; have n0_ := Aside0.mk (below_step By hb); have n1_ := Aside0.mk (hbox); have n2_ := Aside0.mk ((by rw [hg]; exact (below_size By) : w.heap.size ≤ gb163)); have n3_ := Aside0.mk ((by rw [hg]; exact (below_size By) : w.heap.size ≤ gb163)); clear HB; have HB := n0_; have BK163 := n1_; have GW163 := n2_; have GE163 := n3_; clear n0_ n1_ n2_ n3_; clear hb hbox hg))
  (try simp only [Act.put, List.setIfInBounds_toArray, List.set_cons_zero, List.set_cons_succ])
  go_cut [21] (fun v21 wc => ∃ (kq : Nat) (x21_1 : Bool), v21 = .bool x21_1 ∧ Aside0 (spec_TableRight.j0 kq x21_1 a0_0 a0_1 l0_2 = some r) ∧ Aside0 (kq ≤ k) ∧ Aside0 (wc.heap[gb163]? = some (.cells #[.int .i64 a0_0, .int .i64 a0_1, (.slice A0_2 l0_2.length c0_2)] 38 (0, 0))) ∧ Aside0 (Below w.heap.size w wc))
  case first =>
    have H := HC2.out
    clear HC2
    replace H := Option.bind_eq_some_iff.mp H
    obtain ⟨t164, A40, H⟩ := H
    replace H : (if t164 = true then ((spec_l02Is.f a0_1 0 1000000).bind fun t165 => (if t165 = true then (spec_TableRight.j0 k (decide ((l0_2.length : Int) > 20)) a0_0 a0_1 l0_2) else (spec_TableRight.j0 k true a0_0 a0_1 l0_2))) else (spec_TableRight.j0 k true a0_0 a0_1 l0_2)) = some r := H
    have A4 := Aside0.mk A40
    clear A40
    by_cases c5 : t164 = true
    · subst c5
      have H1 : ((spec_l02Is.f a0_1 0 1000000).bind fun t165 => (if t165 = true then (spec_TableRight.j0 k (decide ((l0_2.length : Int) > 20)) a0_0 a0_1 l0_2) else (spec_TableRight.j0 k true a0_0 a0_1 l0_2))) = some r := by rw [if_pos rfl] at H; exact H
      clear H
      have H := H1
      clear H1
      replace H := Option.bind_eq_some_iff.mp H
      obtain ⟨t165, A60, H⟩ := H
      replace H : (if t165 = true then (spec_TableRight.j0 k (decide ((l0_2.length : Int) > 20)) a0_0 a0_1 l0_2) else (spec_TableRight.j0 k true a0_0 a0_1 l0_2)) = some r := H
      have A6 := Aside0.mk A60
      clear A60
      by_cases c7 : t165 = true
      · subst c7
        have H1 : (spec_TableRight.j0 k (decide ((l0_2.length : Int) > 20)) a0_0 a0_1 l0_2) = some r := by rw [if_pos rfl] at H; exact H
        clear H
        have H := H1
        clear H1
        have H' := Aside0.mk H
        clear H
        have hcz8_0 : w3.cell? ⟨gb163, 0, none⟩ = some (.int .i64 a0_0) := bc BK163.out 0
        have hcz8_1 : w3.cell? ⟨gb163, 1, none⟩ = some (.int .i64 a0_1) := bc BK163.out 1
        have hcz8_2 : w3.cell? ⟨gb163, 2, none⟩ = some (.slice A0_2 l0_2.length c0_2) := bc BK163.out 2
        have hfz8_0 := blk_frozen BK163.out 0
        have hfz8_1 := blk_frozen BK163.out 1
        have hfz8_2 := blk_frozen BK163.out 2
        go_wp2_with (first | ((with_reducible refine gate_callee (f := 74) rfl ?_); refine goesL_ (some 8) rfl rfl Tryd.func74 (by kernel_rfl) rfl #[.int .i64 a0_0, .int .i64 1, .int .i64 1000000] rfl Ag ?_; (with_reducible refine (spec_l02Is.calls a0_0 1 1000000 true _ A4.out).mono ?_); rintro e w' ⟨rfl, ⟨nd, rfl⟩⟩; refine ⟨_, rfl, ?_⟩) | (go_at_call 74; (with_reducible refine (spec_l02Is.calls a0_1 0 1000000 true _ A6.out).mono ?_); rintro e w' ⟨rfl, ⟨nd, rfl⟩⟩))
        go_meet
        case rel => exact ⟨_, (decide ((l0_2.length : Int) > 20)), (by first | rfl | (simp; done) | (simp [*]; done)), H', ⟨by first | omega | exact Nat.le_refl _⟩, ⟨by (with_reducible repeat (first | refine blk_drewN ?_ _ | refine blk_drew ?_ | refine blk_alloc ?_ _)); exact BK163.out⟩, ⟨By⟩⟩
      · replace c7 := Bool.eq_false_iff.mpr c7
        subst c7
        have H1 : (spec_TableRight.j0 k true a0_0 a0_1 l0_2) = some r := by rw [if_neg (show ¬ (false = true) by decide)] at H; exact H
        clear H
        have H := H1
        clear H1
        have H' := Aside0.mk H
        clear H
        have hcz9_0 : w3.cell? ⟨gb163, 0, none⟩ = some (.int .i64 a0_0) := bc BK163.out 0
        have hcz9_1 : w3.cell? ⟨gb163, 1, none⟩ = some (.int .i64 a0_1) := bc BK163.out 1
        have hcz9_2 : w3.cell? ⟨gb163, 2, none⟩ = some (.slice A0_2 l0_2.length c0_2) := bc BK163.out 2
        have hfz9_0 := blk_frozen BK163.out 0
        have hfz9_1 := blk_frozen BK163.out 1
        have hfz9_2 := blk_frozen BK163.out 2
        go_wp2_with (first | ((with_reducible refine gate_callee (f := 74) rfl ?_); refine goesL_ (some 8) rfl rfl Tryd.func74 (by kernel_rfl) rfl #[.int .i64 a0_0, .int .i64 1, .int .i64 1000000] rfl Ag ?_; (with_reducible refine (spec_l02Is.calls a0_0 1 1000000 true _ A4.out).mono ?_); rintro e w' ⟨rfl, ⟨nd, rfl⟩⟩; refine ⟨_, rfl, ?_⟩) | (go_at_call 74; (with_reducible refine (spec_l02Is.calls a0_1 0 1000000 false _ A6.out).mono ?_); rintro e w' ⟨rfl, ⟨nd, rfl⟩⟩))
        go_meet
        case rel => exact ⟨_, (true), (by first | rfl | (simp; done) | (simp [*]; done)), H', ⟨by first | omega | exact Nat.le_refl _⟩, ⟨by (with_reducible repeat (first | refine blk_drewN ?_ _ | refine blk_drew ?_ | refine blk_alloc ?_ _)); exact BK163.out⟩, ⟨By⟩⟩
    · replace c5 := Bool.eq_false_iff.mpr c5
      subst c5
      have H1 : (spec_TableRight.j0 k true a0_0 a0_1 l0_2) = some r := by rw [if_neg (show ¬ (false = true) by decide)] at H; exact H
      clear H
      have H := H1
      clear H1
      have H' := Aside0.mk H
      clear H
      have hcz10_0 : w3.cell? ⟨gb163, 0, none⟩ = some (.int .i64 a0_0) := bc BK163.out 0
      have hcz10_1 : w3.cell? ⟨gb163, 1, none⟩ = some (.int .i64 a0_1) := bc BK163.out 1
      have hcz10_2 : w3.cell? ⟨gb163, 2, none⟩ = some (.slice A0_2 l0_2.length c0_2) := bc BK163.out 2
      have hfz10_0 := blk_frozen BK163.out 0
      have hfz10_1 := blk_frozen BK163.out 1
      have hfz10_2 := blk_frozen BK163.out 2
      go_wp2_with (first | ((with_reducible refine gate_callee (f := 74) rfl ?_); refine goesL_ (some 8) rfl rfl Tryd.func74 (by kernel_rfl) rfl #[.int .i64 a0_0, .int .i64 1, .int .i64 1000000] rfl Ag ?_; (with_reducible refine (spec_l02Is.calls a0_0 1 1000000 false _ A4.out).mono ?_); rintro e w' ⟨rfl, ⟨nd, rfl⟩⟩; refine ⟨_, rfl, ?_⟩))
      go_meet
      case rel => exact ⟨_, (true), (by first | rfl | (simp; done) | (simp [*]; done)), H', ⟨by first | omega | exact Nat.le_refl _⟩, ⟨by (with_reducible repeat (first | refine blk_drewN ?_ _ | refine blk_drew ?_ | refine blk_alloc ?_ _)); exact BK163.out⟩, ⟨By⟩⟩
  case rest =>
    clear HC2
    try clear p2
    try clear c5
    try clear c7
    try clear hcz10_0
    try clear hcz10_1
    try clear hcz10_2
    try clear hcz8_0
    try clear hcz8_1
    try clear hcz8_2
    try clear hcz9_0
    try clear hcz9_1
    try clear hcz9_2
    try clear hfz10_0
    try clear hfz10_1
    try clear hfz10_2
    try clear hfz8_0
    try clear hfz8_1
    try clear hfz8_2
    try clear hfz9_0
    try clear hfz9_1
    try clear hfz9_2
    obtain ⟨kq, x21_1, rfl, HA, HJ1, BK163, HB⟩ := hcut
    cases kq with
    | zero => exact absurd HA.out (by simp [spec_TableRight.j0])
    | succ kj1 =>
      have H := HA.out
      clear HA
      simp only [spec_TableRight.j0] at H
      by_cases c11 : x21_1 = true
      · subst c11
        have H1 : (some false) = some r := by rw [if_pos rfl] at H; exact H
        clear H
        have H := H1
        clear H1
        obtain rfl := Option.some.inj H
        go_wp2
        go_ret
        exact ⟨Rf, By⟩
      · replace c11 := Bool.eq_false_iff.mpr c11
        subst c11
        have H1 : (spec_TableRight.l0 kj1 0 a0_0 a0_1 l0_2) = some r := by rw [if_neg (show ¬ (false = true) by decide)] at H; exact H
        clear H
        have H := H1
        clear H1
        have H' := Aside0.mk H
        clear H
        go_wp2
        go_loopg [3] kj1 (fun kq v3 w' => ∃ (x3_2 : Int), v3 = .int .i64 x3_2 ∧ Aside0 (spec_TableRight.l0 kq x3_2 a0_0 a0_1 l0_2 = some r) ∧ Aside0 (kq ≤ kj1) ∧ Aside0 (w'.heap[gb163]? = some (.cells #[.int .i64 a0_0, .int .i64 a0_1, (.slice A0_2 l0_2.length c0_2)] 38 (0, 0))) ∧ Aside0 (Below w.heap.size w w'))
        case atStart => exact ⟨(0), (by first | rfl | (simp; done) | (simp [*]; done)), H', ⟨Nat.le_refl _⟩, ⟨by (with_reducible repeat (first | refine blk_drewN ?_ _ | refine blk_drew ?_ | refine blk_alloc ?_ _)); exact BK163.out⟩, ⟨By⟩⟩
        case round =>
          clear H'
          try clear c1
          try clear p2
          try clear c5
          try clear c7
          try clear c11
          try clear hcz10_0
          try clear hcz10_1
          try clear hcz10_2
          try clear hcz8_0
          try clear hcz8_1
          try clear hcz8_2
          try clear hcz9_0
          try clear hcz9_1
          try clear hcz9_2
          try clear hfz10_0
          try clear hfz10_1
          try clear hfz10_2
          try clear hfz8_0
          try clear hfz8_1
          try clear hfz8_2
          try clear hfz9_0
          try clear hfz9_1
          try clear hfz9_2
          try clear p2
          obtain ⟨x3_2, rfl, HA, HK2, BK163, HB⟩ := hrel
          cases gk with
          | zero => exact absurd HA.out (by simp [spec_TableRight.l0])
          | succ k2 =>
            have H := HA.out
            clear HA
            simp only [spec_TableRight.l0] at H
            by_cases c12 : x3_2 < (l0_2.length : Int)
            · rw [if_pos c12] at H
              have c12b0 : decide (x3_2 < (l0_2.length : Int)) = true := decide_eq_true c12
              clear c12
              by_cases c13 : 0 ≤ x3_2
              · rw [if_pos c13] at H
                have c13b0 : decide (0 ≤ x3_2) = true := decide_eq_true c13
                clear c13
                have HC14 := Aside0.mk H
                clear H
                have hcz15_0 : wr.cell? ⟨gb163, 0, none⟩ = some (.int .i64 a0_0) := bc BK163.out 0
                have hcz15_1 : wr.cell? ⟨gb163, 1, none⟩ = some (.int .i64 a0_1) := bc BK163.out 1
                have hcz15_2 : wr.cell? ⟨gb163, 2, none⟩ = some (.slice A0_2 l0_2.length c0_2) := bc BK163.out 2
                have hfz15_0 := blk_frozen BK163.out 0
                have hfz15_1 := blk_frozen BK163.out 1
                have hfz15_2 := blk_frozen BK163.out 2
                have p166 : 0 ≤ (x3_2 : Int) := of_decide_eq_true Da
                have q166 : x3_2 < (l0_2.length : Int) := of_decide_eq_true Da
                obtain ⟨ad166, e166, hx166_0, hx166_1, hx166_2, hx166_3, hx166_4, hx166_5, hx166_6⟩ := at_T34 HR0_2.out x3_2 p166 q166
                cases e166
                replace hx166_0 := bz HB.out hx166_0
                replace hx166_1 := bz HB.out hx166_1
                replace hx166_2 := bz HB.out hx166_2
                replace hx166_3 := bz HB.out hx166_3
                replace hx166_4 := bz HB.out hx166_4
                replace hx166_5 := bz HB.out hx166_5
                replace hx166_6 := bz HB.out hx166_6
                replace p166 := eq_true p166
                replace q166 := eq_true q166
                go_upto_region 7 with (first | ((with_reducible refine gate_dst (N := 4) rfl ?_); (try (refine gate_guard (by rfl) ?_; dsimp only)); refine box_event ?hg (N := 4) ?hd (cs := #[.int .i64 0, .string (⟨#[]⟩ : ByteArray), .string (⟨#[]⟩ : ByteArray), .string (⟨#[]⟩ : ByteArray), .bool false, .int .i64 0, .bool false]) (t := 34) ?hr ?_; (case hd => rfl); (case hg => rfl); (case hr => first | (go_simp; done) | (go_simp; rfl)); intro gb167 hg w16 hbox hb; have n0_ := Aside0.mk (bb BK163.out hb); have n1_ := Aside0.mk (below_step By hb); have n2_ := Aside0.mk (hbox); have n3_ := Aside0.mk ((by rw [hg]; exact (below_size By) : w.heap.size ≤ gb167)); have n4_ := Aside0.mk ((by rw [hg]; exact (below_size By) : w.heap.size ≤ gb167)); have n5_ := Aside0.mk ((by rw [hg]; exact Nat.ne_of_lt (bl BK163.out) : gb163 ≠ gb167)); have n6_ := Aside0.mk ((by rw [hg]; exact Nat.ne_of_gt (bl BK163.out) : gb167 ≠ gb163)); clear BK163; clear HB; have BK163 := n0_; have HB := n1_; have BK167 := n2_; have GW167 := n3_; have GE167 := n4_; have NB163_167 := n5_; have NB167_163 := n6_; clear n0_ n1_ n2_ n3_ n4_ n5_ n6_; clear hb hbox hg; have hnb17 := NB167_163.out; have hnc17 := NB163_167.out; have ⟨hcz18_0, hcz18_1, hcz18_2, hcz18_3, hcz18_4, hcz18_5, hcz18_6⟩ := cq7 BK167.out; have ⟨hfz18_0, hfz18_1, hfz18_2, hfz18_3, hfz18_4, hfz18_5, hfz18_6⟩ := fq7 BK167.out))
                (try simp only [Act.put, List.setIfInBounds_toArray, List.set_cons_zero, List.set_cons_succ])
                go_cut [69] (fun v69 wc => ∃ (kq : Nat) (x69_13 : Bool), v69 = .bool x69_13 ∧ Aside0 (spec_TableRight.j2 kq x3_2 x69_13 a0_0 a0_1 l0_2 ((rd_T34 l0_2 x3_2).f0) ((rd_T34 l0_2 x3_2).f1) ((rd_T34 l0_2 x3_2).f2) ((rd_T34 l0_2 x3_2).f3) ((rd_T34 l0_2 x3_2).f4) ((rd_T34 l0_2 x3_2).f5) ((rd_T34 l0_2 x3_2).f6) = some r) ∧ Aside0 (kq ≤ k2) ∧ Aside0 (wc.heap[gb163]? = some (.cells #[.int .i64 a0_0, .int .i64 a0_1, (.slice (some ad166) l0_2.length c0_2)] 38 (0, 0))) ∧ Aside0 (wc.heap[gb167]? = some (.cells #[.int .i64 ((rd_T34 l0_2 x3_2).f0), .string ((rd_T34 l0_2 x3_2).f1), .string ((rd_T34 l0_2 x3_2).f2), .string ((rd_T34 l0_2 x3_2).f3), .bool ((rd_T34 l0_2 x3_2).f4), .int .i64 ((rd_T34 l0_2 x3_2).f5), .bool ((rd_T34 l0_2 x3_2).f6)] 34 (0, 0))) ∧ Aside0 (Below w.heap.size w wc))
                case first =>
                  have H := HC14.out
                  clear HC14
                  replace H := Option.bind_eq_some_iff.mp H
                  obtain ⟨t168, A190, H⟩ := H
                  replace H : (if t168 = true then ((spec_l02Is.f ((rd_T34 l0_2 x3_2).f0) 1 (wrap64 (a0_0 - 1))).bind fun t169 => (if t169 = true then (if x3_2 > 0 then (if 0 ≤ (wrap64 (x3_2 - 1)) then (if (wrap64 (x3_2 - 1)) < (l0_2.length : Int) then (if ((rd_T34 l0_2 (wrap64 (x3_2 - 1))).f0) ≥ ((rd_T34 l0_2 x3_2).f0) then (spec_TableRight.j2 k2 x3_2 true a0_0 a0_1 l0_2 ((rd_T34 l0_2 x3_2).f0) ((rd_T34 l0_2 x3_2).f1) ((rd_T34 l0_2 x3_2).f2) ((rd_T34 l0_2 x3_2).f3) ((rd_T34 l0_2 x3_2).f4) ((rd_T34 l0_2 x3_2).f5) ((rd_T34 l0_2 x3_2).f6)) else ((spec_l02Is.f ((rd_T34 l0_2 x3_2).f5) 1 a0_1).bind fun t171 => (spec_TableRight.j2 k2 x3_2 (!t171) a0_0 a0_1 l0_2 ((rd_T34 l0_2 x3_2).f0) ((rd_T34 l0_2 x3_2).f1) ((rd_T34 l0_2 x3_2).f2) ((rd_T34 l0_2 x3_2).f3) ((rd_T34 l0_2 x3_2).f4) ((rd_T34 l0_2 x3_2).f5) ((rd_T34 l0_2 x3_2).f6)))) else (none)) else (none)) else ((spec_l02Is.f ((rd_T34 l0_2 x3_2).f5) 1 a0_1).bind fun t172 => (spec_TableRight.j2 k2 x3_2 (!t172) a0_0 a0_1 l0_2 ((rd_T34 l0_2 x3_2).f0) ((rd_T34 l0_2 x3_2).f1) ((rd_T34 l0_2 x3_2).f2) ((rd_T34 l0_2 x3_2).f3) ((rd_T34 l0_2 x3_2).f4) ((rd_T34 l0_2 x3_2).f5) ((rd_T34 l0_2 x3_2).f6)))) else (spec_TableRight.j2 k2 x3_2 true a0_0 a0_1 l0_2 ((rd_T34 l0_2 x3_2).f0) ((rd_T34 l0_2 x3_2).f1) ((rd_T34 l0_2 x3_2).f2) ((rd_T34 l0_2 x3_2).f3) ((rd_T34 l0_2 x3_2).f4) ((rd_T34 l0_2 x3_2).f5) ((rd_T34 l0_2 x3_2).f6)))) else (spec_TableRight.j2 k2 x3_2 true a0_0 a0_1 l0_2 ((rd_T34 l0_2 x3_2).f0) ((rd_T34 l0_2 x3_2).f1) ((rd_T34 l0_2 x3_2).f2) ((rd_T34 l0_2 x3_2).f3) ((rd_T34 l0_2 x3_2).f4) ((rd_T34 l0_2 x3_2).f5) ((rd_T34 l0_2 x3_2).f6))) = some r := H
                  have A19 := Aside0.mk A190
                  clear A190
                  by_cases c20 : t168 = true
                  · subst c20
                    have H1 : ((spec_l02Is.f ((rd_T34 l0_2 x3_2).f0) 1 (wrap64 (a0_0 - 1))).bind fun t169 => (if t169 = true then (if x3_2 > 0 then (if 0 ≤ (wrap64 (x3_2 - 1)) then (if (wrap64 (x3_2 - 1)) < (l0_2.length : Int) then (if ((rd_T34 l0_2 (wrap64 (x3_2 - 1))).f0) ≥ ((rd_T34 l0_2 x3_2).f0) then (spec_TableRight.j2 k2 x3_2 true a0_0 a0_1 l0_2 ((rd_T34 l0_2 x3_2).f0) ((rd_T34 l0_2 x3_2).f1) ((rd_T34 l0_2 x3_2).f2) ((rd_T34 l0_2 x3_2).f3) ((rd_T34 l0_2 x3_2).f4) ((rd_T34 l0_2 x3_2).f5) ((rd_T34 l0_2 x3_2).f6)) else ((spec_l02Is.f ((rd_T34 l0_2 x3_2).f5) 1 a0_1).bind fun t171 => (spec_TableRight.j2 k2 x3_2 (!t171) a0_0 a0_1 l0_2 ((rd_T34 l0_2 x3_2).f0) ((rd_T34 l0_2 x3_2).f1) ((rd_T34 l0_2 x3_2).f2) ((rd_T34 l0_2 x3_2).f3) ((rd_T34 l0_2 x3_2).f4) ((rd_T34 l0_2 x3_2).f5) ((rd_T34 l0_2 x3_2).f6)))) else (none)) else (none)) else ((spec_l02Is.f ((rd_T34 l0_2 x3_2).f5) 1 a0_1).bind fun t172 => (spec_TableRight.j2 k2 x3_2 (!t172) a0_0 a0_1 l0_2 ((rd_T34 l0_2 x3_2).f0) ((rd_T34 l0_2 x3_2).f1) ((rd_T34 l0_2 x3_2).f2) ((rd_T34 l0_2 x3_2).f3) ((rd_T34 l0_2 x3_2).f4) ((rd_T34 l0_2 x3_2).f5) ((rd_T34 l0_2 x3_2).f6)))) else (spec_TableRight.j2 k2 x3_2 true a0_0 a0_1 l0_2 ((rd_T34 l0_2 x3_2).f0) ((rd_T34 l0_2 x3_2).f1) ((rd_T34 l0_2 x3_2).f2) ((rd_T34 l0_2 x3_2).f3) ((rd_T34 l0_2 x3_2).f4) ((rd_T34 l0_2 x3_2).f5) ((rd_T34 l0_2 x3_2).f6)))) = some r := by rw [if_pos rfl] at H; exact H
                    clear H
                    have H := H1
                    clear H1
                    replace H := Option.bind_eq_some_iff.mp H
                    obtain ⟨t169, A210, H⟩ := H
                    replace H : (if t169 = true then (if x3_2 > 0 then (if 0 ≤ (wrap64 (x3_2 - 1)) then (if (wrap64 (x3_2 - 1)) < (l0_2.length : Int) then (if ((rd_T34 l0_2 (wrap64 (x3_2 - 1))).f0) ≥ ((rd_T34 l0_2 x3_2).f0) then (spec_TableRight.j2 k2 x3_2 true a0_0 a0_1 l0_2 ((rd_T34 l0_2 x3_2).f0) ((rd_T34 l0_2 x3_2).f1) ((rd_T34 l0_2 x3_2).f2) ((rd_T34 l0_2 x3_2).f3) ((rd_T34 l0_2 x3_2).f4) ((rd_T34 l0_2 x3_2).f5) ((rd_T34 l0_2 x3_2).f6)) else ((spec_l02Is.f ((rd_T34 l0_2 x3_2).f5) 1 a0_1).bind fun t171 => (spec_TableRight.j2 k2 x3_2 (!t171) a0_0 a0_1 l0_2 ((rd_T34 l0_2 x3_2).f0) ((rd_T34 l0_2 x3_2).f1) ((rd_T34 l0_2 x3_2).f2) ((rd_T34 l0_2 x3_2).f3) ((rd_T34 l0_2 x3_2).f4) ((rd_T34 l0_2 x3_2).f5) ((rd_T34 l0_2 x3_2).f6)))) else (none)) else (none)) else ((spec_l02Is.f ((rd_T34 l0_2 x3_2).f5) 1 a0_1).bind fun t172 => (spec_TableRight.j2 k2 x3_2 (!t172) a0_0 a0_1 l0_2 ((rd_T34 l0_2 x3_2).f0) ((rd_T34 l0_2 x3_2).f1) ((rd_T34 l0_2 x3_2).f2) ((rd_T34 l0_2 x3_2).f3) ((rd_T34 l0_2 x3_2).f4) ((rd_T34 l0_2 x3_2).f5) ((rd_T34 l0_2 x3_2).f6)))) else (spec_TableRight.j2 k2 x3_2 true a0_0 a0_1 l0_2 ((rd_T34 l0_2 x3_2).f0) ((rd_T34 l0_2 x3_2).f1) ((rd_T34 l0_2 x3_2).f2) ((rd_T34 l0_2 x3_2).f3) ((rd_T34 l0_2 x3_2).f4) ((rd_T34 l0_2 x3_2).f5) ((rd_T34 l0_2 x3_2).f6))) = some r := H
                    have A21 := Aside0.mk A210
                    clear A210
                    by_cases c22 : t169 = true
                    · subst c22
                      have H1 : (if x3_2 > 0 then (if 0 ≤ (wrap64 (x3_2 - 1)) then (if (wrap64 (x3_2 - 1)) < (l0_2.length : Int) then (if ((rd_T34 l0_2 (wrap64 (x3_2 - 1))).f0) ≥ ((rd_T34 l0_2 x3_2).f0) then (spec_TableRight.j2 k2 x3_2 true a0_0 a0_1 l0_2 ((rd_T34 l0_2 x3_2).f0) ((rd_T34 l0_2 x3_2).f1) ((rd_T34 l0_2 x3_2).f2) ((rd_T34 l0_2 x3_2).f3) ((rd_T34 l0_2 x3_2).f4) ((rd_T34 l0_2 x3_2).f5) ((rd_T34 l0_2 x3_2).f6)) else ((spec_l02Is.f ((rd_T34 l0_2 x3_2).f5) 1 a0_1).bind fun t171 => (spec_TableRight.j2 k2 x3_2 (!t171) a0_0 a0_1 l0_2 ((rd_T34 l0_2 x3_2).f0) ((rd_T34 l0_2 x3_2).f1) ((rd_T34 l0_2 x3_2).f2) ((rd_T34 l0_2 x3_2).f3) ((rd_T34 l0_2 x3_2).f4) ((rd_T34 l0_2 x3_2).f5) ((rd_T34 l0_2 x3_2).f6)))) else (none)) else (none)) else ((spec_l02Is.f ((rd_T34 l0_2 x3_2).f5) 1 a0_1).bind fun t172 => (spec_TableRight.j2 k2 x3_2 (!t172) a0_0 a0_1 l0_2 ((rd_T34 l0_2 x3_2).f0) ((rd_T34 l0_2 x3_2).f1) ((rd_T34 l0_2 x3_2).f2) ((rd_T34 l0_2 x3_2).f3) ((rd_T34 l0_2 x3_2).f4) ((rd_T34 l0_2 x3_2).f5) ((rd_T34 l0_2 x3_2).f6)))) = some r := by rw [if_pos rfl] at H; exact H
                      clear H
                      have H := H1
                      clear H1
                      by_cases c23 : x3_2 > 0
                      · rw [if_pos c23] at H
                        have c23b0 : decide (0 < x3_2) = true := decide_eq_true c23
                        clear c23
                        (first | rw [c23b0] | (simp only [i64_w, i32_w]; rw [c23b0]) | skip)
                        obtain ⟨ji24, hji24⟩ : ∃ j_ : Int, (wrap64 (x3_2 - 1)) = j_ := ⟨_, rfl⟩
                        replace H : (if 0 ≤ (ji24) then (if (ji24) < (l0_2.length : Int) then (if ((rd_T34 l0_2 (ji24)).f0) ≥ ((rd_T34 l0_2 x3_2).f0) then (spec_TableRight.j2 k2 x3_2 true a0_0 a0_1 l0_2 ((rd_T34 l0_2 x3_2).f0) ((rd_T34 l0_2 x3_2).f1) ((rd_T34 l0_2 x3_2).f2) ((rd_T34 l0_2 x3_2).f3) ((rd_T34 l0_2 x3_2).f4) ((rd_T34 l0_2 x3_2).f5) ((rd_T34 l0_2 x3_2).f6)) else ((spec_l02Is.f ((rd_T34 l0_2 x3_2).f5) 1 a0_1).bind fun t171 => (spec_TableRight.j2 k2 x3_2 (!t171) a0_0 a0_1 l0_2 ((rd_T34 l0_2 x3_2).f0) ((rd_T34 l0_2 x3_2).f1) ((rd_T34 l0_2 x3_2).f2) ((rd_T34 l0_2 x3_2).f3) ((rd_T34 l0_2 x3_2).f4) ((rd_T34 l0_2 x3_2).f5) ((rd_T34 l0_2 x3_2).f6)))) else (none)) else (none)) = some r := by first | (rw [hji24] at H; exact H) | (simp only [hji24] at H ⊢; exact H)
                        (try rw [hji24] at A19)
                        (try rw [hji24] at A21)
                        have hji24w : (IntKind.i64.wrap (x3_2 - 1)) = ji24 := (i64_w _).trans hji24
                        by_cases c25 : 0 ≤ (ji24)
                        · rw [if_pos c25] at H
                          have c25b0 : decide (0 ≤ (ji24)) = true := decide_eq_true c25
                          clear c25
                          by_cases c26 : (ji24) < (l0_2.length : Int)
                          · rw [if_pos c26] at H
                            have c26b0 : decide ((ji24) < (l0_2.length : Int)) = true := decide_eq_true c26
                            clear c26
                            by_cases c27 : ((rd_T34 l0_2 (ji24)).f0) ≥ ((rd_T34 l0_2 x3_2).f0)
                            · rw [if_pos c27] at H
                              have c27b0 : decide (((rd_T34 l0_2 x3_2).f0) ≤ ((rd_T34 l0_2 (ji24)).f0)) = true := decide_eq_true c27
                              clear c27
                              have H' := Aside0.mk H
                              clear H
                              try go_wp2
                              have n0_ : Aside0 ((((((((w16.setCell ⟨gb167, 0, none⟩ (.int .i64 ((rd_T34 l0_2 x3_2).f0))).setCell ⟨gb167, 1, none⟩ (.string ((rd_T34 l0_2 x3_2).f1))).setCell ⟨gb167, 2, none⟩ (.string ((rd_T34 l0_2 x3_2).f2))).setCell ⟨gb167, 3, none⟩ (.string ((rd_T34 l0_2 x3_2).f3))).setCell ⟨gb167, 4, none⟩ (.bool ((rd_T34 l0_2 x3_2).f4))).setCell ⟨gb167, 5, none⟩ (.int .i64 ((rd_T34 l0_2 x3_2).f5))).setCell ⟨gb167, 6, none⟩ (.bool ((rd_T34 l0_2 x3_2).f6))).heap[gb163]? = some (.cells #[.int .i64 a0_0, .int .i64 a0_1, .slice (some ad166) l0_2.length c0_2] 38 (0, 0))) := ⟨Fr⟩
                              have n1_ : Aside0 ((((((((w16.setCell ⟨gb167, 0, none⟩ (.int .i64 ((rd_T34 l0_2 x3_2).f0))).setCell ⟨gb167, 1, none⟩ (.string ((rd_T34 l0_2 x3_2).f1))).setCell ⟨gb167, 2, none⟩ (.string ((rd_T34 l0_2 x3_2).f2))).setCell ⟨gb167, 3, none⟩ (.string ((rd_T34 l0_2 x3_2).f3))).setCell ⟨gb167, 4, none⟩ (.bool ((rd_T34 l0_2 x3_2).f4))).setCell ⟨gb167, 5, none⟩ (.int .i64 ((rd_T34 l0_2 x3_2).f5))).setCell ⟨gb167, 6, none⟩ (.bool ((rd_T34 l0_2 x3_2).f6))).heap[gb167]? = some (.cells #[.int .i64 ((rd_T34 l0_2 x3_2).f0), .string ((rd_T34 l0_2 x3_2).f1), .string ((rd_T34 l0_2 x3_2).f2), .string ((rd_T34 l0_2 x3_2).f3), .bool ((rd_T34 l0_2 x3_2).f4), .int .i64 ((rd_T34 l0_2 x3_2).f5), .bool ((rd_T34 l0_2 x3_2).f6)] 34 (0, 0))) := ⟨(pq7 Pk)⟩
                              have n2_ : Aside0 (Below w.heap.size w (((((((w16.setCell ⟨gb167, 0, none⟩ (.int .i64 ((rd_T34 l0_2 x3_2).f0))).setCell ⟨gb167, 1, none⟩ (.string ((rd_T34 l0_2 x3_2).f1))).setCell ⟨gb167, 2, none⟩ (.string ((rd_T34 l0_2 x3_2).f2))).setCell ⟨gb167, 3, none⟩ (.string ((rd_T34 l0_2 x3_2).f3))).setCell ⟨gb167, 4, none⟩ (.bool ((rd_T34 l0_2 x3_2).f4))).setCell ⟨gb167, 5, none⟩ (.int .i64 ((rd_T34 l0_2 x3_2).f5))).setCell ⟨gb167, 6, none⟩ (.bool ((rd_T34 l0_2 x3_2).f6)))) := ⟨By⟩
                              (try clear BK163)
                              (try clear BK167)
                              (try clear HB)
                              generalize (((((((w16.setCell ⟨gb167, 0, none⟩ (.int .i64 ((rd_T34 l0_2 x3_2).f0))).setCell ⟨gb167, 1, none⟩ (.string ((rd_T34 l0_2 x3_2).f1))).setCell ⟨gb167, 2, none⟩ (.string ((rd_T34 l0_2 x3_2).f2))).setCell ⟨gb167, 3, none⟩ (.string ((rd_T34 l0_2 x3_2).f3))).setCell ⟨gb167, 4, none⟩ (.bool ((rd_T34 l0_2 x3_2).f4))).setCell ⟨gb167, 5, none⟩ (.int .i64 ((rd_T34 l0_2 x3_2).f5))).setCell ⟨gb167, 6, none⟩ (.bool ((rd_T34 l0_2 x3_2).f6))) = w28 at n0_ n1_ n2_ ⊢
                              have BK163 := n0_
                              have BK167 := n1_
                              have HB := n2_
                              clear n0_ n1_ n2_
                              have n0_ := Aside0.mk (blk_drew BK163.out)
                              have n1_ := Aside0.mk (blk_drew BK167.out)
                              have n2_ := Aside0.mk (below_drew1 HB.out)
                              clear BK163
                              clear BK167
                              clear HB
                              have BK163 := n0_
                              have BK167 := n1_
                              have HB := n2_
                              clear n0_ n1_ n2_
                              have p170 : 0 ≤ ((ji24) : Int) := of_decide_eq_true Da
                              have q170 : (ji24) < (l0_2.length : Int) := of_decide_eq_true Da
                              obtain ⟨ad170, e170, hx170_0, hx170_1, hx170_2, hx170_3, hx170_4, hx170_5, hx170_6⟩ := at_T34 HR0_2.out (ji24) p170 q170
                              have hw170_6 := hx170_6
                              have hw170_5 := hx170_5
                              have hw170_4 := hx170_4
                              have hw170_3 := hx170_3
                              have hw170_2 := hx170_2
                              have hw170_1 := hx170_1
                              have hw170_0 := hx170_0
                              obtain rfl : ad166 = ad170 := (by injection e170)
                              replace hx170_0 := bz HB.out hx170_0
                              replace hx170_1 := bz HB.out hx170_1
                              replace hx170_2 := bz HB.out hx170_2
                              replace hx170_3 := bz HB.out hx170_3
                              replace hx170_4 := bz HB.out hx170_4
                              replace hx170_5 := bz HB.out hx170_5
                              replace hx170_6 := bz HB.out hx170_6
                              replace p170 := eq_true p170
                              replace q170 := eq_true q170
                              refine start_ (n := 36) (S := fun w' => w'.cell? ⟨gb167, 0, none⟩ = some (.int .i64 ((rd_T34 l0_2 x3_2).f0)) ∧ w'.cell? ⟨gb167, 1, none⟩ = some (.string ((rd_T34 l0_2 x3_2).f1)) ∧ w'.cell? ⟨gb167, 2, none⟩ = some (.string ((rd_T34 l0_2 x3_2).f2)) ∧ w'.cell? ⟨gb167, 3, none⟩ = some (.string ((rd_T34 l0_2 x3_2).f3)) ∧ w'.cell? ⟨gb167, 4, none⟩ = some (.bool ((rd_T34 l0_2 x3_2).f4)) ∧ w'.cell? ⟨gb167, 5, none⟩ = some (.int .i64 ((rd_T34 l0_2 x3_2).f5)) ∧ w'.cell? ⟨gb167, 6, none⟩ = some (.bool ((rd_T34 l0_2 x3_2).f6)) ∧ w'.cell? ⟨gb163, 0, none⟩ = some (.int .i64 a0_0) ∧ w'.cell? ⟨gb163, 1, none⟩ = some (.int .i64 a0_1) ∧ w'.cell? ⟨gb163, 2, none⟩ = some (.slice (some ad166) l0_2.length c0_2) ∧ w'.cell? (ad166.add (((ji24)).toNat * 7)) = some (.int .i64 ((rd_T34 l0_2 (ji24)).f0)) ∧ w'.cell? ⟨(ad166.add (((ji24)).toNat * 7)).block, (ad166.add (((ji24)).toNat * 7)).off + 1, none⟩ = some (.string ((rd_T34 l0_2 (ji24)).f1)) ∧ w'.cell? ⟨(ad166.add (((ji24)).toNat * 7)).block, (ad166.add (((ji24)).toNat * 7)).off + 2, none⟩ = some (.string ((rd_T34 l0_2 (ji24)).f2)) ∧ w'.cell? ⟨(ad166.add (((ji24)).toNat * 7)).block, (ad166.add (((ji24)).toNat * 7)).off + 3, none⟩ = some (.string ((rd_T34 l0_2 (ji24)).f3)) ∧ w'.cell? ⟨(ad166.add (((ji24)).toNat * 7)).block, (ad166.add (((ji24)).toNat * 7)).off + 4, none⟩ = some (.bool ((rd_T34 l0_2 (ji24)).f4)) ∧ w'.cell? ⟨(ad166.add (((ji24)).toNat * 7)).block, (ad166.add (((ji24)).toNat * 7)).off + 5, none⟩ = some (.int .i64 ((rd_T34 l0_2 (ji24)).f5)) ∧ w'.cell? ⟨(ad166.add (((ji24)).toNat * 7)).block, (ad166.add (((ji24)).toNat * 7)).off + 6, none⟩ = some (.bool ((rd_T34 l0_2 (ji24)).f6))) (ds := []) (bv 36 0) (by kernel_rfl) rfl rfl ⟨bc BK167.out 0, bc BK167.out 1, bc BK167.out 2, bc BK167.out 3, bc BK167.out 4, bc BK167.out 5, bc BK167.out 6, bc BK163.out 0, bc BK163.out 1, bc BK163.out 2, (bz HB.out hw170_0), (bz HB.out hw170_1), (bz HB.out hw170_2), (bz HB.out hw170_3), (bz HB.out hw170_4), (bz HB.out hw170_5), (bz HB.out hw170_6)⟩ (fun hHeld => ?_); refine with_tabW spec_TableRight.tab7 spec_TableRight.bits7 (fun HT_ HW_ => ?_)
                              generalize w28.drew = w29 at BK163 BK167 HB hx170_0 hx170_1 hx170_2 hx170_3 hx170_4 hx170_5 hx170_6 hHeld ⊢
                              refine tk 0 34 (bv 36 1) HT_.out HW_.out hHeld (h := ?_)
                              refine one_ (i := 1) (N := some 35) (bv 36 3) rfl rfl (one_of HT_.out (by kernel_rfl)) (by decide) (fun K hK => ?_)
                              refine goes_ Tryd.func110 (by kernel_rfl) rfl #[.agg #[.int .i64 ((rd_T34 l0_2 x3_2).f0), .string ((rd_T34 l0_2 x3_2).f1), .string ((rd_T34 l0_2 x3_2).f2), .string ((rd_T34 l0_2 x3_2).f3), .bool ((rd_T34 l0_2 x3_2).f4), .int .i64 ((rd_T34 l0_2 x3_2).f5), .bool ((rd_T34 l0_2 x3_2).f6)]] (by rfl) rfl rfl Ag ?_
                              with_reducible refine (spec_l12Row.calls k2 ((rd_T34 l0_2 x3_2).f0) ((rd_T34 l0_2 x3_2).f1) ((rd_T34 l0_2 x3_2).f2) ((rd_T34 l0_2 x3_2).f3) ((rd_T34 l0_2 x3_2).f4) ((rd_T34 l0_2 x3_2).f5) ((rd_T34 l0_2 x3_2).f6) true _ A19.out).mono ?_
                              rintro e w30 ⟨rfl, hb⟩
                              refine ⟨_, rfl, ?_⟩
                              have n0_ := Aside0.mk (bb BK163.out hb)
                              have n1_ := Aside0.mk (bb BK167.out hb)
                              have n2_ := Aside0.mk (below_step By hb)
                              clear BK163
                              clear BK167
                              clear HB
                              have BK163 := n0_
                              have BK167 := n1_
                              have HB := n2_
                              clear n0_ n1_ n2_
                              (try clear hb)
                              (try clear hb2)
                              (try clear hk)
                              (try clear hi)
                              refine hK.out _ _ ⟨bc BK167.out 0, bc BK167.out 1, bc BK167.out 2, bc BK167.out 3, bc BK167.out 4, bc BK167.out 5, bc BK167.out 6, bc BK163.out 0, bc BK163.out 1, bc BK163.out 2, (bz HB.out hw170_0), (bz HB.out hw170_1), (bz HB.out hw170_2), (bz HB.out hw170_3), (bz HB.out hw170_4), (bz HB.out hw170_5), (bz HB.out hw170_6)⟩ (fun hHeld => ?_)
                              clear hK K
                              refine norm_ (a' := ?_) ?_ ?_
                              rotate_left
                              · show Act.put _ (some 35) _ = _
                                simp only [Act.put, List.setIfInBounds_toArray, List.set_cons_zero, List.set_cons_succ, i64_w, i32_w]
                                rfl
                              refine pu 2 36 (bv 36 7) HT_.out (h := ?_)
                              refine pu 3 37 (bv 36 15) HT_.out (h := ?_)
                              refine pu 4 38 (bv 36 31) HT_.out (h := ?_)
                              refine pu 6 40 (bv 36 95) HT_.out (h := ?_)
                              refine tk 5 39 (bv 36 127) HT_.out HW_.out hHeld (h := ?_)
                              refine tk 7 41 (bv 36 255) HT_.out HW_.out hHeld (h := ?_)
                              refine pu 8 42 (bv 36 511) HT_.out (h := ?_)
                              refine one_ (i := 9) (N := some 43) (bv 36 1023) rfl rfl (one_of HT_.out (by kernel_rfl)) (by decide) (fun K hK => ?_)
                              refine goes_ Tryd.func74 (by kernel_rfl) rfl #[.int .i64 ((rd_T34 l0_2 x3_2).f0), .int .i64 1, .int .i64 (wrap64 (a0_0 - 1))] (by rfl) rfl rfl Ag ?_
                              with_reducible refine (spec_l02Is.calls ((rd_T34 l0_2 x3_2).f0) 1 (wrap64 (a0_0 - 1)) true _ A21.out).mono ?_
                              rintro e w' ⟨rfl, ⟨nd, rfl⟩⟩
                              refine ⟨_, rfl, ?_⟩
                              refine hK.out _ _ ⟨bc BK167.out 0, bc BK167.out 1, bc BK167.out 2, bc BK167.out 3, bc BK167.out 4, bc BK167.out 5, bc BK167.out 6, bc BK163.out 0, bc BK163.out 1, bc BK163.out 2, (bz HB.out hw170_0), (bz HB.out hw170_1), (bz HB.out hw170_2), (bz HB.out hw170_3), (bz HB.out hw170_4), (bz HB.out hw170_5), (bz HB.out hw170_6)⟩ (fun hHeld => ?_)
                              clear hK K
                              refine norm_ (a' := ?_) ?_ ?_
                              rotate_left
                              · show Act.put _ (some 43) _ = _
                                simp only [Act.put, List.setIfInBounds_toArray, List.set_cons_zero, List.set_cons_succ, i64_w, i32_w]
                                rfl
                              refine pu 10 44 (bv 36 2047) HT_.out (h := ?_)
                              refine pu 11 45 (bv 36 4095) HT_.out (h := ?_)
                              refine pu 12 46 (bv 36 8191) HT_.out (h := ?_)
                              refine pu 13 47 (bv 36 16383) HT_.out (h := ?_)
                              refine pu 14 48 (bv 36 32767) HT_.out (h := ?_)
                              refine pu 15 49 (bv 36 65535) HT_.out (h := ?_)
                              refine pu 16 50 (bv 36 131071) HT_.out (h := ?_)
                              refine pu 18 52 (bv 36 393215) HT_.out (h := ?_)
                              refine pu 19 53 (bv 36 917503) HT_.out (h := ?_)
                              refine pu 23 57 (bv 36 9306111) HT_.out (h := ?_)
                              refine tk 17 51 (bv 36 9437183) HT_.out HW_.out hHeld (h := ?_)
                              refine pu 20 54 (bv 36 10485759) HT_.out (h := ?_)
                              refine pu 21 55 (bv 36 12582911) HT_.out (h := ?_)
                              refine tk 22 56 (bv 36 16777215) HT_.out HW_.out hHeld (h := ?_)
                              refine tk 24 58 (bv 36 33554431) HT_.out HW_.out hHeld (h := ?_)
                              refine pu 25 59 (bv 36 67108863) HT_.out (h := ?_)
                              refine pu 26 60 (bv 36 134217727) HT_.out (h := ?_)
                              refine pu 27 61 (bv 36 268435455) HT_.out (h := ?_)
                              refine pu 28 62 (bv 36 536870911) HT_.out (h := ?_)
                              refine pn 29 63 (bv 36 1073741823) HT_.out (h := ?_)
                              refine pn 30 64 (bv 36 2147483647) HT_.out (h := ?_)
                              refine pn 31 65 (bv 36 4294967295) HT_.out (h := ?_)
                              refine pn 32 66 (bv 36 8589934591) HT_.out (h := ?_)
                              refine pn 33 67 (bv 36 17179869183) HT_.out (h := ?_)
                              refine pn 34 68 (bv 36 34359738367) HT_.out (h := ?_)
                              refine pu 35 69 (bv 36 68719476735) HT_.out (h := ?_)
                              refine done_ (done_of HT_.out (by kernel_rfl)) ?_
                              try go_wp2
                              go_meet
                              case rel => exact ⟨_, (true), (by first | rfl | (simp; done) | (simp [*]; done)), H', ⟨by have := HJ1.out; have := HK2.out; first | omega | exact Nat.le_refl _⟩, ⟨by (with_reducible repeat (first | refine blk_drewN ?_ _ | refine blk_drew ?_ | refine blk_alloc ?_ _)); exact BK163.out⟩, ⟨by (with_reducible repeat (first | refine blk_drewN ?_ _ | refine blk_drew ?_ | refine blk_alloc ?_ _)); exact BK167.out⟩, ⟨By⟩⟩
                            · rw [if_neg c27] at H
                              have c27b0 : decide (((rd_T34 l0_2 x3_2).f0) ≤ ((rd_T34 l0_2 (ji24)).f0)) = false := decide_eq_false c27
                              clear c27
                              replace H := Option.bind_eq_some_iff.mp H
                              obtain ⟨t171, A310, H⟩ := H
                              replace H : (spec_TableRight.j2 k2 x3_2 (!t171) a0_0 a0_1 l0_2 ((rd_T34 l0_2 x3_2).f0) ((rd_T34 l0_2 x3_2).f1) ((rd_T34 l0_2 x3_2).f2) ((rd_T34 l0_2 x3_2).f3) ((rd_T34 l0_2 x3_2).f4) ((rd_T34 l0_2 x3_2).f5) ((rd_T34 l0_2 x3_2).f6)) = some r := H
                              have A31 := Aside0.mk A310
                              clear A310
                              have H' := Aside0.mk H
                              clear H
                              try go_wp2
                              have n0_ : Aside0 ((((((((w16.setCell ⟨gb167, 0, none⟩ (.int .i64 ((rd_T34 l0_2 x3_2).f0))).setCell ⟨gb167, 1, none⟩ (.string ((rd_T34 l0_2 x3_2).f1))).setCell ⟨gb167, 2, none⟩ (.string ((rd_T34 l0_2 x3_2).f2))).setCell ⟨gb167, 3, none⟩ (.string ((rd_T34 l0_2 x3_2).f3))).setCell ⟨gb167, 4, none⟩ (.bool ((rd_T34 l0_2 x3_2).f4))).setCell ⟨gb167, 5, none⟩ (.int .i64 ((rd_T34 l0_2 x3_2).f5))).setCell ⟨gb167, 6, none⟩ (.bool ((rd_T34 l0_2 x3_2).f6))).heap[gb163]? = some (.cells #[.int .i64 a0_0, .int .i64 a0_1, .slice (some ad166) l0_2.length c0_2] 38 (0, 0))) := ⟨Fr⟩
                              have n1_ : Aside0 ((((((((w16.setCell ⟨gb167, 0, none⟩ (.int .i64 ((rd_T34 l0_2 x3_2).f0))).setCell ⟨gb167, 1, none⟩ (.string ((rd_T34 l0_2 x3_2).f1))).setCell ⟨gb167, 2, none⟩ (.string ((rd_T34 l0_2 x3_2).f2))).setCell ⟨gb167, 3, none⟩ (.string ((rd_T34 l0_2 x3_2).f3))).setCell ⟨gb167, 4, none⟩ (.bool ((rd_T34 l0_2 x3_2).f4))).setCell ⟨gb167, 5, none⟩ (.int .i64 ((rd_T34 l0_2 x3_2).f5))).setCell ⟨gb167, 6, none⟩ (.bool ((rd_T34 l0_2 x3_2).f6))).heap[gb167]? = some (.cells #[.int .i64 ((rd_T34 l0_2 x3_2).f0), .string ((rd_T34 l0_2 x3_2).f1), .string ((rd_T34 l0_2 x3_2).f2), .string ((rd_T34 l0_2 x3_2).f3), .bool ((rd_T34 l0_2 x3_2).f4), .int .i64 ((rd_T34 l0_2 x3_2).f5), .bool ((rd_T34 l0_2 x3_2).f6)] 34 (0, 0))) := ⟨(pq7 Pk)⟩
                              have n2_ : Aside0 (Below w.heap.size w (((((((w16.setCell ⟨gb167, 0, none⟩ (.int .i64 ((rd_T34 l0_2 x3_2).f0))).setCell ⟨gb167, 1, none⟩ (.string ((rd_T34 l0_2 x3_2).f1))).setCell ⟨gb167, 2, none⟩ (.string ((rd_T34 l0_2 x3_2).f2))).setCell ⟨gb167, 3, none⟩ (.string ((rd_T34 l0_2 x3_2).f3))).setCell ⟨gb167, 4, none⟩ (.bool ((rd_T34 l0_2 x3_2).f4))).setCell ⟨gb167, 5, none⟩ (.int .i64 ((rd_T34 l0_2 x3_2).f5))).setCell ⟨gb167, 6, none⟩ (.bool ((rd_T34 l0_2 x3_2).f6)))) := ⟨By⟩
                              (try clear BK163)
                              (try clear BK167)
                              (try clear HB)
                              generalize (((((((w16.setCell ⟨gb167, 0, none⟩ (.int .i64 ((rd_T34 l0_2 x3_2).f0))).setCell ⟨gb167, 1, none⟩ (.string ((rd_T34 l0_2 x3_2).f1))).setCell ⟨gb167, 2, none⟩ (.string ((rd_T34 l0_2 x3_2).f2))).setCell ⟨gb167, 3, none⟩ (.string ((rd_T34 l0_2 x3_2).f3))).setCell ⟨gb167, 4, none⟩ (.bool ((rd_T34 l0_2 x3_2).f4))).setCell ⟨gb167, 5, none⟩ (.int .i64 ((rd_T34 l0_2 x3_2).f5))).setCell ⟨gb167, 6, none⟩ (.bool ((rd_T34 l0_2 x3_2).f6))) = w32 at n0_ n1_ n2_ ⊢
                              have BK163 := n0_
                              have BK167 := n1_
                              have HB := n2_
                              clear n0_ n1_ n2_
                              have n0_ := Aside0.mk (blk_drew BK163.out)
                              have n1_ := Aside0.mk (blk_drew BK167.out)
                              have n2_ := Aside0.mk (below_drew1 HB.out)
                              clear BK163
                              clear BK167
                              clear HB
                              have BK163 := n0_
                              have BK167 := n1_
                              have HB := n2_
                              clear n0_ n1_ n2_
                              have p170 : 0 ≤ ((ji24) : Int) := of_decide_eq_true Da
                              have q170 : (ji24) < (l0_2.length : Int) := of_decide_eq_true Da
                              obtain ⟨ad170, e170, hx170_0, hx170_1, hx170_2, hx170_3, hx170_4, hx170_5, hx170_6⟩ := at_T34 HR0_2.out (ji24) p170 q170
                              have hw170_6 := hx170_6
                              have hw170_5 := hx170_5
                              have hw170_4 := hx170_4
                              have hw170_3 := hx170_3
                              have hw170_2 := hx170_2
                              have hw170_1 := hx170_1
                              have hw170_0 := hx170_0
                              obtain rfl : ad166 = ad170 := (by injection e170)
                              replace hx170_0 := bz HB.out hx170_0
                              replace hx170_1 := bz HB.out hx170_1
                              replace hx170_2 := bz HB.out hx170_2
                              replace hx170_3 := bz HB.out hx170_3
                              replace hx170_4 := bz HB.out hx170_4
                              replace hx170_5 := bz HB.out hx170_5
                              replace hx170_6 := bz HB.out hx170_6
                              replace p170 := eq_true p170
                              replace q170 := eq_true q170
                              refine start_ (n := 36) (S := fun w' => w'.cell? ⟨gb167, 0, none⟩ = some (.int .i64 ((rd_T34 l0_2 x3_2).f0)) ∧ w'.cell? ⟨gb167, 1, none⟩ = some (.string ((rd_T34 l0_2 x3_2).f1)) ∧ w'.cell? ⟨gb167, 2, none⟩ = some (.string ((rd_T34 l0_2 x3_2).f2)) ∧ w'.cell? ⟨gb167, 3, none⟩ = some (.string ((rd_T34 l0_2 x3_2).f3)) ∧ w'.cell? ⟨gb167, 4, none⟩ = some (.bool ((rd_T34 l0_2 x3_2).f4)) ∧ w'.cell? ⟨gb167, 5, none⟩ = some (.int .i64 ((rd_T34 l0_2 x3_2).f5)) ∧ w'.cell? ⟨gb167, 6, none⟩ = some (.bool ((rd_T34 l0_2 x3_2).f6)) ∧ w'.cell? ⟨gb163, 0, none⟩ = some (.int .i64 a0_0) ∧ w'.cell? ⟨gb163, 1, none⟩ = some (.int .i64 a0_1) ∧ w'.cell? ⟨gb163, 2, none⟩ = some (.slice (some ad166) l0_2.length c0_2) ∧ w'.cell? (ad166.add (((ji24)).toNat * 7)) = some (.int .i64 ((rd_T34 l0_2 (ji24)).f0)) ∧ w'.cell? ⟨(ad166.add (((ji24)).toNat * 7)).block, (ad166.add (((ji24)).toNat * 7)).off + 1, none⟩ = some (.string ((rd_T34 l0_2 (ji24)).f1)) ∧ w'.cell? ⟨(ad166.add (((ji24)).toNat * 7)).block, (ad166.add (((ji24)).toNat * 7)).off + 2, none⟩ = some (.string ((rd_T34 l0_2 (ji24)).f2)) ∧ w'.cell? ⟨(ad166.add (((ji24)).toNat * 7)).block, (ad166.add (((ji24)).toNat * 7)).off + 3, none⟩ = some (.string ((rd_T34 l0_2 (ji24)).f3)) ∧ w'.cell? ⟨(ad166.add (((ji24)).toNat * 7)).block, (ad166.add (((ji24)).toNat * 7)).off + 4, none⟩ = some (.bool ((rd_T34 l0_2 (ji24)).f4)) ∧ w'.cell? ⟨(ad166.add (((ji24)).toNat * 7)).block, (ad166.add (((ji24)).toNat * 7)).off + 5, none⟩ = some (.int .i64 ((rd_T34 l0_2 (ji24)).f5)) ∧ w'.cell? ⟨(ad166.add (((ji24)).toNat * 7)).block, (ad166.add (((ji24)).toNat * 7)).off + 6, none⟩ = some (.bool ((rd_T34 l0_2 (ji24)).f6))) (ds := []) (bv 36 0) (by kernel_rfl) rfl rfl ⟨bc BK167.out 0, bc BK167.out 1, bc BK167.out 2, bc BK167.out 3, bc BK167.out 4, bc BK167.out 5, bc BK167.out 6, bc BK163.out 0, bc BK163.out 1, bc BK163.out 2, (bz HB.out hw170_0), (bz HB.out hw170_1), (bz HB.out hw170_2), (bz HB.out hw170_3), (bz HB.out hw170_4), (bz HB.out hw170_5), (bz HB.out hw170_6)⟩ (fun hHeld => ?_); refine with_tabW spec_TableRight.tab7 spec_TableRight.bits7 (fun HT_ HW_ => ?_)
                              generalize w32.drew = w33 at BK163 BK167 HB hx170_0 hx170_1 hx170_2 hx170_3 hx170_4 hx170_5 hx170_6 hHeld ⊢
                              refine tk 0 34 (bv 36 1) HT_.out HW_.out hHeld (h := ?_)
                              refine one_ (i := 1) (N := some 35) (bv 36 3) rfl rfl (one_of HT_.out (by kernel_rfl)) (by decide) (fun K hK => ?_)
                              refine goes_ Tryd.func110 (by kernel_rfl) rfl #[.agg #[.int .i64 ((rd_T34 l0_2 x3_2).f0), .string ((rd_T34 l0_2 x3_2).f1), .string ((rd_T34 l0_2 x3_2).f2), .string ((rd_T34 l0_2 x3_2).f3), .bool ((rd_T34 l0_2 x3_2).f4), .int .i64 ((rd_T34 l0_2 x3_2).f5), .bool ((rd_T34 l0_2 x3_2).f6)]] (by rfl) rfl rfl Ag ?_
                              with_reducible refine (spec_l12Row.calls k2 ((rd_T34 l0_2 x3_2).f0) ((rd_T34 l0_2 x3_2).f1) ((rd_T34 l0_2 x3_2).f2) ((rd_T34 l0_2 x3_2).f3) ((rd_T34 l0_2 x3_2).f4) ((rd_T34 l0_2 x3_2).f5) ((rd_T34 l0_2 x3_2).f6) true _ A19.out).mono ?_
                              rintro e w34 ⟨rfl, hb⟩
                              refine ⟨_, rfl, ?_⟩
                              have n0_ := Aside0.mk (bb BK163.out hb)
                              have n1_ := Aside0.mk (bb BK167.out hb)
                              have n2_ := Aside0.mk (below_step By hb)
                              clear BK163
                              clear BK167
                              clear HB
                              have BK163 := n0_
                              have BK167 := n1_
                              have HB := n2_
                              clear n0_ n1_ n2_
                              (try clear hb)
                              (try clear hb2)
                              (try clear hk)
                              (try clear hi)
                              refine hK.out _ _ ⟨bc BK167.out 0, bc BK167.out 1, bc BK167.out 2, bc BK167.out 3, bc BK167.out 4, bc BK167.out 5, bc BK167.out 6, bc BK163.out 0, bc BK163.out 1, bc BK163.out 2, (bz HB.out hw170_0), (bz HB.out hw170_1), (bz HB.out hw170_2), (bz HB.out hw170_3), (bz HB.out hw170_4), (bz HB.out hw170_5), (bz HB.out hw170_6)⟩ (fun hHeld => ?_)
                              clear hK K
                              refine norm_ (a' := ?_) ?_ ?_
                              rotate_left
                              · show Act.put _ (some 35) _ = _
                                simp only [Act.put, List.setIfInBounds_toArray, List.set_cons_zero, List.set_cons_succ, i64_w, i32_w]
                                rfl
                              refine pu 2 36 (bv 36 7) HT_.out (h := ?_)
                              refine pu 3 37 (bv 36 15) HT_.out (h := ?_)
                              refine pu 4 38 (bv 36 31) HT_.out (h := ?_)
                              refine pu 6 40 (bv 36 95) HT_.out (h := ?_)
                              refine tk 5 39 (bv 36 127) HT_.out HW_.out hHeld (h := ?_)
                              refine tk 7 41 (bv 36 255) HT_.out HW_.out hHeld (h := ?_)
                              refine pu 8 42 (bv 36 511) HT_.out (h := ?_)
                              refine one_ (i := 9) (N := some 43) (bv 36 1023) rfl rfl (one_of HT_.out (by kernel_rfl)) (by decide) (fun K hK => ?_)
                              refine goes_ Tryd.func74 (by kernel_rfl) rfl #[.int .i64 ((rd_T34 l0_2 x3_2).f0), .int .i64 1, .int .i64 (wrap64 (a0_0 - 1))] (by rfl) rfl rfl Ag ?_
                              with_reducible refine (spec_l02Is.calls ((rd_T34 l0_2 x3_2).f0) 1 (wrap64 (a0_0 - 1)) true _ A21.out).mono ?_
                              rintro e w' ⟨rfl, ⟨nd, rfl⟩⟩
                              refine ⟨_, rfl, ?_⟩
                              refine hK.out _ _ ⟨bc BK167.out 0, bc BK167.out 1, bc BK167.out 2, bc BK167.out 3, bc BK167.out 4, bc BK167.out 5, bc BK167.out 6, bc BK163.out 0, bc BK163.out 1, bc BK163.out 2, (bz HB.out hw170_0), (bz HB.out hw170_1), (bz HB.out hw170_2), (bz HB.out hw170_3), (bz HB.out hw170_4), (bz HB.out hw170_5), (bz HB.out hw170_6)⟩ (fun hHeld => ?_)
                              clear hK K
                              refine norm_ (a' := ?_) ?_ ?_
                              rotate_left
                              · show Act.put _ (some 43) _ = _
                                simp only [Act.put, List.setIfInBounds_toArray, List.set_cons_zero, List.set_cons_succ, i64_w, i32_w]
                                rfl
                              refine pu 10 44 (bv 36 2047) HT_.out (h := ?_)
                              refine pu 11 45 (bv 36 4095) HT_.out (h := ?_)
                              refine pu 12 46 (bv 36 8191) HT_.out (h := ?_)
                              refine pu 13 47 (bv 36 16383) HT_.out (h := ?_)
                              refine pu 14 48 (bv 36 32767) HT_.out (h := ?_)
                              refine pu 15 49 (bv 36 65535) HT_.out (h := ?_)
                              refine pu 16 50 (bv 36 131071) HT_.out (h := ?_)
                              refine pu 18 52 (bv 36 393215) HT_.out (h := ?_)
                              refine pu 19 53 (bv 36 917503) HT_.out (h := ?_)
                              refine pu 23 57 (bv 36 9306111) HT_.out (h := ?_)
                              refine tk 17 51 (bv 36 9437183) HT_.out HW_.out hHeld (h := ?_)
                              refine pu 20 54 (bv 36 10485759) HT_.out (h := ?_)
                              refine pu 21 55 (bv 36 12582911) HT_.out (h := ?_)
                              refine tk 22 56 (bv 36 16777215) HT_.out HW_.out hHeld (h := ?_)
                              refine tk 24 58 (bv 36 33554431) HT_.out HW_.out hHeld (h := ?_)
                              refine pu 25 59 (bv 36 67108863) HT_.out (h := ?_)
                              refine pu 26 60 (bv 36 134217727) HT_.out (h := ?_)
                              refine pu 27 61 (bv 36 268435455) HT_.out (h := ?_)
                              refine pu 28 62 (bv 36 536870911) HT_.out (h := ?_)
                              refine pu 29 63 (bv 36 1073741823) HT_.out (h := ?_)
                              refine pu 31 65 (bv 36 3221225471) HT_.out (h := ?_)
                              refine tk 30 64 (bv 36 4294967295) HT_.out HW_.out hHeld (h := ?_)
                              refine tk 32 66 (bv 36 8589934591) HT_.out HW_.out hHeld (h := ?_)
                              refine one_ (i := 33) (N := some 67) (bv 36 17179869183) rfl rfl (one_of HT_.out (by kernel_rfl)) (by decide) (fun K hK => ?_)
                              refine goes_ Tryd.func74 (by kernel_rfl) rfl #[.int .i64 ((rd_T34 l0_2 x3_2).f5), .int .i64 1, .int .i64 a0_1] (by rfl) rfl rfl Ag ?_
                              with_reducible refine (spec_l02Is.calls ((rd_T34 l0_2 x3_2).f5) 1 a0_1 t171 _ A31.out).mono ?_
                              rintro e w' ⟨rfl, ⟨nd, rfl⟩⟩
                              refine ⟨_, rfl, ?_⟩
                              refine hK.out _ _ ⟨bc BK167.out 0, bc BK167.out 1, bc BK167.out 2, bc BK167.out 3, bc BK167.out 4, bc BK167.out 5, bc BK167.out 6, bc BK163.out 0, bc BK163.out 1, bc BK163.out 2, (bz HB.out hw170_0), (bz HB.out hw170_1), (bz HB.out hw170_2), (bz HB.out hw170_3), (bz HB.out hw170_4), (bz HB.out hw170_5), (bz HB.out hw170_6)⟩ (fun hHeld => ?_)
                              clear hK K
                              refine norm_ (a' := ?_) ?_ ?_
                              rotate_left
                              · show Act.put _ (some 67) _ = _
                                simp only [Act.put, List.setIfInBounds_toArray, List.set_cons_zero, List.set_cons_succ, i64_w, i32_w]
                                rfl
                              refine pu 34 68 (bv 36 34359738367) HT_.out (h := ?_)
                              refine pu 35 69 (bv 36 68719476735) HT_.out (h := ?_)
                              refine done_ (done_of HT_.out (by kernel_rfl)) ?_
                              try go_wp2
                              go_meet
                              case rel => exact ⟨_, (!t171), (by first | rfl | (simp; done) | (simp [*]; done)), H', ⟨by have := HJ1.out; have := HK2.out; first | omega | exact Nat.le_refl _⟩, ⟨by (with_reducible repeat (first | refine blk_drewN ?_ _ | refine blk_drew ?_ | refine blk_alloc ?_ _)); exact BK163.out⟩, ⟨by (with_reducible repeat (first | refine blk_drewN ?_ _ | refine blk_drew ?_ | refine blk_alloc ?_ _)); exact BK167.out⟩, ⟨By⟩⟩
                          · rw [if_neg c26] at H
                            exact absurd H (by simp)
                        · rw [if_neg c25] at H
                          exact absurd H (by simp)
                      · rw [if_neg c23] at H
                        have c23b0 : decide (0 < x3_2) = false := decide_eq_false c23
                        clear c23
                        (first | rw [c23b0] | (simp only [i64_w, i32_w]; rw [c23b0]) | skip)
                        replace H := Option.bind_eq_some_iff.mp H
                        obtain ⟨t172, A350, H⟩ := H
                        replace H : (spec_TableRight.j2 k2 x3_2 (!t172) a0_0 a0_1 l0_2 ((rd_T34 l0_2 x3_2).f0) ((rd_T34 l0_2 x3_2).f1) ((rd_T34 l0_2 x3_2).f2) ((rd_T34 l0_2 x3_2).f3) ((rd_T34 l0_2 x3_2).f4) ((rd_T34 l0_2 x3_2).f5) ((rd_T34 l0_2 x3_2).f6)) = some r := H
                        have A35 := Aside0.mk A350
                        clear A350
                        have H' := Aside0.mk H
                        clear H
                        try go_wp2
                        have n0_ : Aside0 ((((((((w16.setCell ⟨gb167, 0, none⟩ (.int .i64 ((rd_T34 l0_2 x3_2).f0))).setCell ⟨gb167, 1, none⟩ (.string ((rd_T34 l0_2 x3_2).f1))).setCell ⟨gb167, 2, none⟩ (.string ((rd_T34 l0_2 x3_2).f2))).setCell ⟨gb167, 3, none⟩ (.string ((rd_T34 l0_2 x3_2).f3))).setCell ⟨gb167, 4, none⟩ (.bool ((rd_T34 l0_2 x3_2).f4))).setCell ⟨gb167, 5, none⟩ (.int .i64 ((rd_T34 l0_2 x3_2).f5))).setCell ⟨gb167, 6, none⟩ (.bool ((rd_T34 l0_2 x3_2).f6))).heap[gb163]? = some (.cells #[.int .i64 a0_0, .int .i64 a0_1, .slice (some ad166) l0_2.length c0_2] 38 (0, 0))) := ⟨Fr⟩
                        have n1_ : Aside0 ((((((((w16.setCell ⟨gb167, 0, none⟩ (.int .i64 ((rd_T34 l0_2 x3_2).f0))).setCell ⟨gb167, 1, none⟩ (.string ((rd_T34 l0_2 x3_2).f1))).setCell ⟨gb167, 2, none⟩ (.string ((rd_T34 l0_2 x3_2).f2))).setCell ⟨gb167, 3, none⟩ (.string ((rd_T34 l0_2 x3_2).f3))).setCell ⟨gb167, 4, none⟩ (.bool ((rd_T34 l0_2 x3_2).f4))).setCell ⟨gb167, 5, none⟩ (.int .i64 ((rd_T34 l0_2 x3_2).f5))).setCell ⟨gb167, 6, none⟩ (.bool ((rd_T34 l0_2 x3_2).f6))).heap[gb167]? = some (.cells #[.int .i64 ((rd_T34 l0_2 x3_2).f0), .string ((rd_T34 l0_2 x3_2).f1), .string ((rd_T34 l0_2 x3_2).f2), .string ((rd_T34 l0_2 x3_2).f3), .bool ((rd_T34 l0_2 x3_2).f4), .int .i64 ((rd_T34 l0_2 x3_2).f5), .bool ((rd_T34 l0_2 x3_2).f6)] 34 (0, 0))) := ⟨(pq7 Pk)⟩
                        have n2_ : Aside0 (Below w.heap.size w (((((((w16.setCell ⟨gb167, 0, none⟩ (.int .i64 ((rd_T34 l0_2 x3_2).f0))).setCell ⟨gb167, 1, none⟩ (.string ((rd_T34 l0_2 x3_2).f1))).setCell ⟨gb167, 2, none⟩ (.string ((rd_T34 l0_2 x3_2).f2))).setCell ⟨gb167, 3, none⟩ (.string ((rd_T34 l0_2 x3_2).f3))).setCell ⟨gb167, 4, none⟩ (.bool ((rd_T34 l0_2 x3_2).f4))).setCell ⟨gb167, 5, none⟩ (.int .i64 ((rd_T34 l0_2 x3_2).f5))).setCell ⟨gb167, 6, none⟩ (.bool ((rd_T34 l0_2 x3_2).f6)))) := ⟨By⟩
                        (try clear BK163)
                        (try clear BK167)
                        (try clear HB)
                        generalize (((((((w16.setCell ⟨gb167, 0, none⟩ (.int .i64 ((rd_T34 l0_2 x3_2).f0))).setCell ⟨gb167, 1, none⟩ (.string ((rd_T34 l0_2 x3_2).f1))).setCell ⟨gb167, 2, none⟩ (.string ((rd_T34 l0_2 x3_2).f2))).setCell ⟨gb167, 3, none⟩ (.string ((rd_T34 l0_2 x3_2).f3))).setCell ⟨gb167, 4, none⟩ (.bool ((rd_T34 l0_2 x3_2).f4))).setCell ⟨gb167, 5, none⟩ (.int .i64 ((rd_T34 l0_2 x3_2).f5))).setCell ⟨gb167, 6, none⟩ (.bool ((rd_T34 l0_2 x3_2).f6))) = w36 at n0_ n1_ n2_ ⊢
                        have BK163 := n0_
                        have BK167 := n1_
                        have HB := n2_
                        clear n0_ n1_ n2_
                        have n0_ := Aside0.mk (blk_drew BK163.out)
                        have n1_ := Aside0.mk (blk_drew BK167.out)
                        have n2_ := Aside0.mk (below_drew1 HB.out)
                        clear BK163
                        clear BK167
                        clear HB
                        have BK163 := n0_
                        have BK167 := n1_
                        have HB := n2_
                        clear n0_ n1_ n2_
                        refine start_ (n := 36) (S := fun w' => w'.cell? ⟨gb167, 0, none⟩ = some (.int .i64 ((rd_T34 l0_2 x3_2).f0)) ∧ w'.cell? ⟨gb167, 1, none⟩ = some (.string ((rd_T34 l0_2 x3_2).f1)) ∧ w'.cell? ⟨gb167, 2, none⟩ = some (.string ((rd_T34 l0_2 x3_2).f2)) ∧ w'.cell? ⟨gb167, 3, none⟩ = some (.string ((rd_T34 l0_2 x3_2).f3)) ∧ w'.cell? ⟨gb167, 4, none⟩ = some (.bool ((rd_T34 l0_2 x3_2).f4)) ∧ w'.cell? ⟨gb167, 5, none⟩ = some (.int .i64 ((rd_T34 l0_2 x3_2).f5)) ∧ w'.cell? ⟨gb167, 6, none⟩ = some (.bool ((rd_T34 l0_2 x3_2).f6)) ∧ w'.cell? ⟨gb163, 0, none⟩ = some (.int .i64 a0_0) ∧ w'.cell? ⟨gb163, 1, none⟩ = some (.int .i64 a0_1) ∧ w'.cell? ⟨gb163, 2, none⟩ = some (.slice (some ad166) l0_2.length c0_2)) (ds := []) (bv 36 0) (by kernel_rfl) rfl rfl ⟨bc BK167.out 0, bc BK167.out 1, bc BK167.out 2, bc BK167.out 3, bc BK167.out 4, bc BK167.out 5, bc BK167.out 6, bc BK163.out 0, bc BK163.out 1, bc BK163.out 2⟩ (fun hHeld => ?_); refine with_tabW spec_TableRight.tab7 spec_TableRight.bits7 (fun HT_ HW_ => ?_)
                        generalize w36.drew = w37 at BK163 BK167 HB hHeld ⊢
                        refine tk 0 34 (bv 36 1) HT_.out HW_.out hHeld (h := ?_)
                        refine one_ (i := 1) (N := some 35) (bv 36 3) rfl rfl (one_of HT_.out (by kernel_rfl)) (by decide) (fun K hK => ?_)
                        refine goes_ Tryd.func110 (by kernel_rfl) rfl #[.agg #[.int .i64 ((rd_T34 l0_2 x3_2).f0), .string ((rd_T34 l0_2 x3_2).f1), .string ((rd_T34 l0_2 x3_2).f2), .string ((rd_T34 l0_2 x3_2).f3), .bool ((rd_T34 l0_2 x3_2).f4), .int .i64 ((rd_T34 l0_2 x3_2).f5), .bool ((rd_T34 l0_2 x3_2).f6)]] (by rfl) rfl rfl Ag ?_
                        with_reducible refine (spec_l12Row.calls k2 ((rd_T34 l0_2 x3_2).f0) ((rd_T34 l0_2 x3_2).f1) ((rd_T34 l0_2 x3_2).f2) ((rd_T34 l0_2 x3_2).f3) ((rd_T34 l0_2 x3_2).f4) ((rd_T34 l0_2 x3_2).f5) ((rd_T34 l0_2 x3_2).f6) true _ A19.out).mono ?_
                        rintro e w38 ⟨rfl, hb⟩
                        refine ⟨_, rfl, ?_⟩
                        have n0_ := Aside0.mk (bb BK163.out hb)
                        have n1_ := Aside0.mk (bb BK167.out hb)
                        have n2_ := Aside0.mk (below_step By hb)
                        clear BK163
                        clear BK167
                        clear HB
                        have BK163 := n0_
                        have BK167 := n1_
                        have HB := n2_
                        clear n0_ n1_ n2_
                        (try clear hb)
                        (try clear hb2)
                        (try clear hk)
                        (try clear hi)
                        refine hK.out _ _ ⟨bc BK167.out 0, bc BK167.out 1, bc BK167.out 2, bc BK167.out 3, bc BK167.out 4, bc BK167.out 5, bc BK167.out 6, bc BK163.out 0, bc BK163.out 1, bc BK163.out 2⟩ (fun hHeld => ?_)
                        clear hK K
                        refine norm_ (a' := ?_) ?_ ?_
                        rotate_left
                        · show Act.put _ (some 35) _ = _
                          simp only [Act.put, List.setIfInBounds_toArray, List.set_cons_zero, List.set_cons_succ, i64_w, i32_w]
                          rfl
                        refine pu 2 36 (bv 36 7) HT_.out (h := ?_)
                        refine pu 3 37 (bv 36 15) HT_.out (h := ?_)
                        refine pu 4 38 (bv 36 31) HT_.out (h := ?_)
                        refine pu 6 40 (bv 36 95) HT_.out (h := ?_)
                        refine tk 5 39 (bv 36 127) HT_.out HW_.out hHeld (h := ?_)
                        refine tk 7 41 (bv 36 255) HT_.out HW_.out hHeld (h := ?_)
                        refine pu 8 42 (bv 36 511) HT_.out (h := ?_)
                        refine one_ (i := 9) (N := some 43) (bv 36 1023) rfl rfl (one_of HT_.out (by kernel_rfl)) (by decide) (fun K hK => ?_)
                        refine goes_ Tryd.func74 (by kernel_rfl) rfl #[.int .i64 ((rd_T34 l0_2 x3_2).f0), .int .i64 1, .int .i64 (wrap64 (a0_0 - 1))] (by rfl) rfl rfl Ag ?_
                        with_reducible refine (spec_l02Is.calls ((rd_T34 l0_2 x3_2).f0) 1 (wrap64 (a0_0 - 1)) true _ A21.out).mono ?_
                        rintro e w' ⟨rfl, ⟨nd, rfl⟩⟩
                        refine ⟨_, rfl, ?_⟩
                        refine hK.out _ _ ⟨bc BK167.out 0, bc BK167.out 1, bc BK167.out 2, bc BK167.out 3, bc BK167.out 4, bc BK167.out 5, bc BK167.out 6, bc BK163.out 0, bc BK163.out 1, bc BK163.out 2⟩ (fun hHeld => ?_)
                        clear hK K
                        refine norm_ (a' := ?_) ?_ ?_
                        rotate_left
                        · show Act.put _ (some 43) _ = _
                          simp only [Act.put, List.setIfInBounds_toArray, List.set_cons_zero, List.set_cons_succ, i64_w, i32_w]
                          rfl
                        refine pu 10 44 (bv 36 2047) HT_.out (h := ?_)
                        refine pu 11 45 (bv 36 4095) HT_.out (h := ?_)
                        refine pu 12 46 (bv 36 8191) HT_.out (h := ?_)
                        refine pu 13 47 (bv 36 16383) HT_.out (h := ?_)
                        refine pu 14 48 (bv 36 32767) HT_.out (h := ?_)
                        refine pu 15 49 (bv 36 65535) HT_.out (h := ?_)
                        refine pn 16 50 (bv 36 131071) HT_.out (h := ?_)
                        refine pn 17 51 (bv 36 262143) HT_.out (h := ?_)
                        refine pn 18 52 (bv 36 524287) HT_.out (h := ?_)
                        refine pn 19 53 (bv 36 1048575) HT_.out (h := ?_)
                        refine pn 20 54 (bv 36 2097151) HT_.out (h := ?_)
                        refine pn 21 55 (bv 36 4194303) HT_.out (h := ?_)
                        refine pn 22 56 (bv 36 8388607) HT_.out (h := ?_)
                        refine pn 23 57 (bv 36 16777215) HT_.out (h := ?_)
                        refine pn 24 58 (bv 36 33554431) HT_.out (h := ?_)
                        refine pn 25 59 (bv 36 67108863) HT_.out (h := ?_)
                        refine pu 26 60 (bv 36 134217727) HT_.out (h := ?_)
                        refine pu 27 61 (bv 36 268435455) HT_.out (h := ?_)
                        refine pu 28 62 (bv 36 536870911) HT_.out (h := ?_)
                        refine pu 29 63 (bv 36 1073741823) HT_.out (h := ?_)
                        refine pu 31 65 (bv 36 3221225471) HT_.out (h := ?_)
                        refine tk 30 64 (bv 36 4294967295) HT_.out HW_.out hHeld (h := ?_)
                        refine tk 32 66 (bv 36 8589934591) HT_.out HW_.out hHeld (h := ?_)
                        refine one_ (i := 33) (N := some 67) (bv 36 17179869183) rfl rfl (one_of HT_.out (by kernel_rfl)) (by decide) (fun K hK => ?_)
                        refine goes_ Tryd.func74 (by kernel_rfl) rfl #[.int .i64 ((rd_T34 l0_2 x3_2).f5), .int .i64 1, .int .i64 a0_1] (by rfl) rfl rfl Ag ?_
                        with_reducible refine (spec_l02Is.calls ((rd_T34 l0_2 x3_2).f5) 1 a0_1 t172 _ A35.out).mono ?_
                        rintro e w' ⟨rfl, ⟨nd, rfl⟩⟩
                        refine ⟨_, rfl, ?_⟩
                        refine hK.out _ _ ⟨bc BK167.out 0, bc BK167.out 1, bc BK167.out 2, bc BK167.out 3, bc BK167.out 4, bc BK167.out 5, bc BK167.out 6, bc BK163.out 0, bc BK163.out 1, bc BK163.out 2⟩ (fun hHeld => ?_)
                        clear hK K
                        refine norm_ (a' := ?_) ?_ ?_
                        rotate_left
                        · show Act.put _ (some 67) _ = _
                          simp only [Act.put, List.setIfInBounds_toArray, List.set_cons_zero, List.set_cons_succ, i64_w, i32_w]
                          rfl
                        refine pu 34 68 (bv 36 34359738367) HT_.out (h := ?_)
                        refine pu 35 69 (bv 36 68719476735) HT_.out (h := ?_)
                        refine done_ (done_of HT_.out (by kernel_rfl)) ?_
                        try go_wp2
                        go_meet
                        case rel => exact ⟨_, (!t172), (by first | rfl | (simp; done) | (simp [*]; done)), H', ⟨by have := HJ1.out; have := HK2.out; first | omega | exact Nat.le_refl _⟩, ⟨by (with_reducible repeat (first | refine blk_drewN ?_ _ | refine blk_drew ?_ | refine blk_alloc ?_ _)); exact BK163.out⟩, ⟨by (with_reducible repeat (first | refine blk_drewN ?_ _ | refine blk_drew ?_ | refine blk_alloc ?_ _)); exact BK167.out⟩, ⟨By⟩⟩
                    · replace c22 := Bool.eq_false_iff.mpr c22
                      subst c22
                      have H1 : (spec_TableRight.j2 k2 x3_2 true a0_0 a0_1 l0_2 ((rd_T34 l0_2 x3_2).f0) ((rd_T34 l0_2 x3_2).f1) ((rd_T34 l0_2 x3_2).f2) ((rd_T34 l0_2 x3_2).f3) ((rd_T34 l0_2 x3_2).f4) ((rd_T34 l0_2 x3_2).f5) ((rd_T34 l0_2 x3_2).f6)) = some r := by rw [if_neg (show ¬ (false = true) by decide)] at H; exact H
                      clear H
                      have H := H1
                      clear H1
                      have H' := Aside0.mk H
                      clear H
                      try go_wp2
                      have n0_ : Aside0 ((((((((w16.setCell ⟨gb167, 0, none⟩ (.int .i64 ((rd_T34 l0_2 x3_2).f0))).setCell ⟨gb167, 1, none⟩ (.string ((rd_T34 l0_2 x3_2).f1))).setCell ⟨gb167, 2, none⟩ (.string ((rd_T34 l0_2 x3_2).f2))).setCell ⟨gb167, 3, none⟩ (.string ((rd_T34 l0_2 x3_2).f3))).setCell ⟨gb167, 4, none⟩ (.bool ((rd_T34 l0_2 x3_2).f4))).setCell ⟨gb167, 5, none⟩ (.int .i64 ((rd_T34 l0_2 x3_2).f5))).setCell ⟨gb167, 6, none⟩ (.bool ((rd_T34 l0_2 x3_2).f6))).heap[gb163]? = some (.cells #[.int .i64 a0_0, .int .i64 a0_1, .slice (some ad166) l0_2.length c0_2] 38 (0, 0))) := ⟨Fr⟩
                      have n1_ : Aside0 ((((((((w16.setCell ⟨gb167, 0, none⟩ (.int .i64 ((rd_T34 l0_2 x3_2).f0))).setCell ⟨gb167, 1, none⟩ (.string ((rd_T34 l0_2 x3_2).f1))).setCell ⟨gb167, 2, none⟩ (.string ((rd_T34 l0_2 x3_2).f2))).setCell ⟨gb167, 3, none⟩ (.string ((rd_T34 l0_2 x3_2).f3))).setCell ⟨gb167, 4, none⟩ (.bool ((rd_T34 l0_2 x3_2).f4))).setCell ⟨gb167, 5, none⟩ (.int .i64 ((rd_T34 l0_2 x3_2).f5))).setCell ⟨gb167, 6, none⟩ (.bool ((rd_T34 l0_2 x3_2).f6))).heap[gb167]? = some (.cells #[.int .i64 ((rd_T34 l0_2 x3_2).f0), .string ((rd_T34 l0_2 x3_2).f1), .string ((rd_T34 l0_2 x3_2).f2), .string ((rd_T34 l0_2 x3_2).f3), .bool ((rd_T34 l0_2 x3_2).f4), .int .i64 ((rd_T34 l0_2 x3_2).f5), .bool ((rd_T34 l0_2 x3_2).f6)] 34 (0, 0))) := ⟨(pq7 Pk)⟩
                      have n2_ : Aside0 (Below w.heap.size w (((((((w16.setCell ⟨gb167, 0, none⟩ (.int .i64 ((rd_T34 l0_2 x3_2).f0))).setCell ⟨gb167, 1, none⟩ (.string ((rd_T34 l0_2 x3_2).f1))).setCell ⟨gb167, 2, none⟩ (.string ((rd_T34 l0_2 x3_2).f2))).setCell ⟨gb167, 3, none⟩ (.string ((rd_T34 l0_2 x3_2).f3))).setCell ⟨gb167, 4, none⟩ (.bool ((rd_T34 l0_2 x3_2).f4))).setCell ⟨gb167, 5, none⟩ (.int .i64 ((rd_T34 l0_2 x3_2).f5))).setCell ⟨gb167, 6, none⟩ (.bool ((rd_T34 l0_2 x3_2).f6)))) := ⟨By⟩
                      (try clear BK163)
                      (try clear BK167)
                      (try clear HB)
                      generalize (((((((w16.setCell ⟨gb167, 0, none⟩ (.int .i64 ((rd_T34 l0_2 x3_2).f0))).setCell ⟨gb167, 1, none⟩ (.string ((rd_T34 l0_2 x3_2).f1))).setCell ⟨gb167, 2, none⟩ (.string ((rd_T34 l0_2 x3_2).f2))).setCell ⟨gb167, 3, none⟩ (.string ((rd_T34 l0_2 x3_2).f3))).setCell ⟨gb167, 4, none⟩ (.bool ((rd_T34 l0_2 x3_2).f4))).setCell ⟨gb167, 5, none⟩ (.int .i64 ((rd_T34 l0_2 x3_2).f5))).setCell ⟨gb167, 6, none⟩ (.bool ((rd_T34 l0_2 x3_2).f6))) = w39 at n0_ n1_ n2_ ⊢
                      have BK163 := n0_
                      have BK167 := n1_
                      have HB := n2_
                      clear n0_ n1_ n2_
                      have n0_ := Aside0.mk (blk_drew BK163.out)
                      have n1_ := Aside0.mk (blk_drew BK167.out)
                      have n2_ := Aside0.mk (below_drew1 HB.out)
                      clear BK163
                      clear BK167
                      clear HB
                      have BK163 := n0_
                      have BK167 := n1_
                      have HB := n2_
                      clear n0_ n1_ n2_
                      refine start_ (n := 36) (S := fun w' => w'.cell? ⟨gb167, 0, none⟩ = some (.int .i64 ((rd_T34 l0_2 x3_2).f0)) ∧ w'.cell? ⟨gb167, 1, none⟩ = some (.string ((rd_T34 l0_2 x3_2).f1)) ∧ w'.cell? ⟨gb167, 2, none⟩ = some (.string ((rd_T34 l0_2 x3_2).f2)) ∧ w'.cell? ⟨gb167, 3, none⟩ = some (.string ((rd_T34 l0_2 x3_2).f3)) ∧ w'.cell? ⟨gb167, 4, none⟩ = some (.bool ((rd_T34 l0_2 x3_2).f4)) ∧ w'.cell? ⟨gb167, 5, none⟩ = some (.int .i64 ((rd_T34 l0_2 x3_2).f5)) ∧ w'.cell? ⟨gb167, 6, none⟩ = some (.bool ((rd_T34 l0_2 x3_2).f6)) ∧ w'.cell? ⟨gb163, 0, none⟩ = some (.int .i64 a0_0) ∧ w'.cell? ⟨gb163, 1, none⟩ = some (.int .i64 a0_1) ∧ w'.cell? ⟨gb163, 2, none⟩ = some (.slice (some ad166) l0_2.length c0_2)) (ds := []) (bv 36 0) (by kernel_rfl) rfl rfl ⟨bc BK167.out 0, bc BK167.out 1, bc BK167.out 2, bc BK167.out 3, bc BK167.out 4, bc BK167.out 5, bc BK167.out 6, bc BK163.out 0, bc BK163.out 1, bc BK163.out 2⟩ (fun hHeld => ?_); refine with_tabW spec_TableRight.tab7 spec_TableRight.bits7 (fun HT_ HW_ => ?_)
                      generalize w39.drew = w40 at BK163 BK167 HB hHeld ⊢
                      refine tk 0 34 (bv 36 1) HT_.out HW_.out hHeld (h := ?_)
                      refine one_ (i := 1) (N := some 35) (bv 36 3) rfl rfl (one_of HT_.out (by kernel_rfl)) (by decide) (fun K hK => ?_)
                      refine goes_ Tryd.func110 (by kernel_rfl) rfl #[.agg #[.int .i64 ((rd_T34 l0_2 x3_2).f0), .string ((rd_T34 l0_2 x3_2).f1), .string ((rd_T34 l0_2 x3_2).f2), .string ((rd_T34 l0_2 x3_2).f3), .bool ((rd_T34 l0_2 x3_2).f4), .int .i64 ((rd_T34 l0_2 x3_2).f5), .bool ((rd_T34 l0_2 x3_2).f6)]] (by rfl) rfl rfl Ag ?_
                      with_reducible refine (spec_l12Row.calls k2 ((rd_T34 l0_2 x3_2).f0) ((rd_T34 l0_2 x3_2).f1) ((rd_T34 l0_2 x3_2).f2) ((rd_T34 l0_2 x3_2).f3) ((rd_T34 l0_2 x3_2).f4) ((rd_T34 l0_2 x3_2).f5) ((rd_T34 l0_2 x3_2).f6) true _ A19.out).mono ?_
                      rintro e w41 ⟨rfl, hb⟩
                      refine ⟨_, rfl, ?_⟩
                      have n0_ := Aside0.mk (bb BK163.out hb)
                      have n1_ := Aside0.mk (bb BK167.out hb)
                      have n2_ := Aside0.mk (below_step By hb)
                      clear BK163
                      clear BK167
                      clear HB
                      have BK163 := n0_
                      have BK167 := n1_
                      have HB := n2_
                      clear n0_ n1_ n2_
                      (try clear hb)
                      (try clear hb2)
                      (try clear hk)
                      (try clear hi)
                      refine hK.out _ _ ⟨bc BK167.out 0, bc BK167.out 1, bc BK167.out 2, bc BK167.out 3, bc BK167.out 4, bc BK167.out 5, bc BK167.out 6, bc BK163.out 0, bc BK163.out 1, bc BK163.out 2⟩ (fun hHeld => ?_)
                      clear hK K
                      refine norm_ (a' := ?_) ?_ ?_
                      rotate_left
                      · show Act.put _ (some 35) _ = _
                        simp only [Act.put, List.setIfInBounds_toArray, List.set_cons_zero, List.set_cons_succ, i64_w, i32_w]
                        rfl
                      refine pu 2 36 (bv 36 7) HT_.out (h := ?_)
                      refine pu 3 37 (bv 36 15) HT_.out (h := ?_)
                      refine pu 4 38 (bv 36 31) HT_.out (h := ?_)
                      refine pu 6 40 (bv 36 95) HT_.out (h := ?_)
                      refine tk 5 39 (bv 36 127) HT_.out HW_.out hHeld (h := ?_)
                      refine tk 7 41 (bv 36 255) HT_.out HW_.out hHeld (h := ?_)
                      refine pu 8 42 (bv 36 511) HT_.out (h := ?_)
                      refine one_ (i := 9) (N := some 43) (bv 36 1023) rfl rfl (one_of HT_.out (by kernel_rfl)) (by decide) (fun K hK => ?_)
                      refine goes_ Tryd.func74 (by kernel_rfl) rfl #[.int .i64 ((rd_T34 l0_2 x3_2).f0), .int .i64 1, .int .i64 (wrap64 (a0_0 - 1))] (by rfl) rfl rfl Ag ?_
                      with_reducible refine (spec_l02Is.calls ((rd_T34 l0_2 x3_2).f0) 1 (wrap64 (a0_0 - 1)) false _ A21.out).mono ?_
                      rintro e w' ⟨rfl, ⟨nd, rfl⟩⟩
                      refine ⟨_, rfl, ?_⟩
                      refine hK.out _ _ ⟨bc BK167.out 0, bc BK167.out 1, bc BK167.out 2, bc BK167.out 3, bc BK167.out 4, bc BK167.out 5, bc BK167.out 6, bc BK163.out 0, bc BK163.out 1, bc BK163.out 2⟩ (fun hHeld => ?_)
                      clear hK K
                      refine norm_ (a' := ?_) ?_ ?_
                      rotate_left
                      · show Act.put _ (some 43) _ = _
                        simp only [Act.put, List.setIfInBounds_toArray, List.set_cons_zero, List.set_cons_succ, i64_w, i32_w]
                        rfl
                      refine pu 10 44 (bv 36 2047) HT_.out (h := ?_)
                      refine pu 11 45 (bv 36 4095) HT_.out (h := ?_)
                      refine pu 12 46 (bv 36 8191) HT_.out (h := ?_)
                      refine pn 13 47 (bv 36 16383) HT_.out (h := ?_)
                      refine pn 14 48 (bv 36 32767) HT_.out (h := ?_)
                      refine pn 15 49 (bv 36 65535) HT_.out (h := ?_)
                      refine pn 16 50 (bv 36 131071) HT_.out (h := ?_)
                      refine pn 17 51 (bv 36 262143) HT_.out (h := ?_)
                      refine pn 18 52 (bv 36 524287) HT_.out (h := ?_)
                      refine pn 19 53 (bv 36 1048575) HT_.out (h := ?_)
                      refine pn 20 54 (bv 36 2097151) HT_.out (h := ?_)
                      refine pn 21 55 (bv 36 4194303) HT_.out (h := ?_)
                      refine pn 22 56 (bv 36 8388607) HT_.out (h := ?_)
                      refine pn 23 57 (bv 36 16777215) HT_.out (h := ?_)
                      refine pn 24 58 (bv 36 33554431) HT_.out (h := ?_)
                      refine pn 25 59 (bv 36 67108863) HT_.out (h := ?_)
                      refine pn 26 60 (bv 36 134217727) HT_.out (h := ?_)
                      refine pu 27 61 (bv 36 268435455) HT_.out (h := ?_)
                      refine pu 28 62 (bv 36 536870911) HT_.out (h := ?_)
                      refine pn 29 63 (bv 36 1073741823) HT_.out (h := ?_)
                      refine pn 30 64 (bv 36 2147483647) HT_.out (h := ?_)
                      refine pn 31 65 (bv 36 4294967295) HT_.out (h := ?_)
                      refine pn 32 66 (bv 36 8589934591) HT_.out (h := ?_)
                      refine pn 33 67 (bv 36 17179869183) HT_.out (h := ?_)
                      refine pn 34 68 (bv 36 34359738367) HT_.out (h := ?_)
                      refine pu 35 69 (bv 36 68719476735) HT_.out (h := ?_)
                      refine done_ (done_of HT_.out (by kernel_rfl)) ?_
                      try go_wp2
                      go_meet
                      case rel => exact ⟨_, (true), (by first | rfl | (simp; done) | (simp [*]; done)), H', ⟨by have := HJ1.out; have := HK2.out; first | omega | exact Nat.le_refl _⟩, ⟨by (with_reducible repeat (first | refine blk_drewN ?_ _ | refine blk_drew ?_ | refine blk_alloc ?_ _)); exact BK163.out⟩, ⟨by (with_reducible repeat (first | refine blk_drewN ?_ _ | refine blk_drew ?_ | refine blk_alloc ?_ _)); exact BK167.out⟩, ⟨By⟩⟩
                  · replace c20 := Bool.eq_false_iff.mpr c20
                    subst c20
                    have H1 : (spec_TableRight.j2 k2 x3_2 true a0_0 a0_1 l0_2 ((rd_T34 l0_2 x3_2).f0) ((rd_T34 l0_2 x3_2).f1) ((rd_T34 l0_2 x3_2).f2) ((rd_T34 l0_2 x3_2).f3) ((rd_T34 l0_2 x3_2).f4) ((rd_T34 l0_2 x3_2).f5) ((rd_T34 l0_2 x3_2).f6)) = some r := by rw [if_neg (show ¬ (false = true) by decide)] at H; exact H
                    clear H
                    have H := H1
                    clear H1
                    have H' := Aside0.mk H
                    clear H
                    try go_wp2
                    have n0_ : Aside0 ((((((((w16.setCell ⟨gb167, 0, none⟩ (.int .i64 ((rd_T34 l0_2 x3_2).f0))).setCell ⟨gb167, 1, none⟩ (.string ((rd_T34 l0_2 x3_2).f1))).setCell ⟨gb167, 2, none⟩ (.string ((rd_T34 l0_2 x3_2).f2))).setCell ⟨gb167, 3, none⟩ (.string ((rd_T34 l0_2 x3_2).f3))).setCell ⟨gb167, 4, none⟩ (.bool ((rd_T34 l0_2 x3_2).f4))).setCell ⟨gb167, 5, none⟩ (.int .i64 ((rd_T34 l0_2 x3_2).f5))).setCell ⟨gb167, 6, none⟩ (.bool ((rd_T34 l0_2 x3_2).f6))).heap[gb163]? = some (.cells #[.int .i64 a0_0, .int .i64 a0_1, .slice (some ad166) l0_2.length c0_2] 38 (0, 0))) := ⟨Fr⟩
                    have n1_ : Aside0 ((((((((w16.setCell ⟨gb167, 0, none⟩ (.int .i64 ((rd_T34 l0_2 x3_2).f0))).setCell ⟨gb167, 1, none⟩ (.string ((rd_T34 l0_2 x3_2).f1))).setCell ⟨gb167, 2, none⟩ (.string ((rd_T34 l0_2 x3_2).f2))).setCell ⟨gb167, 3, none⟩ (.string ((rd_T34 l0_2 x3_2).f3))).setCell ⟨gb167, 4, none⟩ (.bool ((rd_T34 l0_2 x3_2).f4))).setCell ⟨gb167, 5, none⟩ (.int .i64 ((rd_T34 l0_2 x3_2).f5))).setCell ⟨gb167, 6, none⟩ (.bool ((rd_T34 l0_2 x3_2).f6))).heap[gb167]? = some (.cells #[.int .i64 ((rd_T34 l0_2 x3_2).f0), .string ((rd_T34 l0_2 x3_2).f1), .string ((rd_T34 l0_2 x3_2).f2), .string ((rd_T34 l0_2 x3_2).f3), .bool ((rd_T34 l0_2 x3_2).f4), .int .i64 ((rd_T34 l0_2 x3_2).f5), .bool ((rd_T34 l0_2 x3_2).f6)] 34 (0, 0))) := ⟨(pq7 Pk)⟩
                    have n2_ : Aside0 (Below w.heap.size w (((((((w16.setCell ⟨gb167, 0, none⟩ (.int .i64 ((rd_T34 l0_2 x3_2).f0))).setCell ⟨gb167, 1, none⟩ (.string ((rd_T34 l0_2 x3_2).f1))).setCell ⟨gb167, 2, none⟩ (.string ((rd_T34 l0_2 x3_2).f2))).setCell ⟨gb167, 3, none⟩ (.string ((rd_T34 l0_2 x3_2).f3))).setCell ⟨gb167, 4, none⟩ (.bool ((rd_T34 l0_2 x3_2).f4))).setCell ⟨gb167, 5, none⟩ (.int .i64 ((rd_T34 l0_2 x3_2).f5))).setCell ⟨gb167, 6, none⟩ (.bool ((rd_T34 l0_2 x3_2).f6)))) := ⟨By⟩
                    (try clear BK163)
                    (try clear BK167)
                    (try clear HB)
                    generalize (((((((w16.setCell ⟨gb167, 0, none⟩ (.int .i64 ((rd_T34 l0_2 x3_2).f0))).setCell ⟨gb167, 1, none⟩ (.string ((rd_T34 l0_2 x3_2).f1))).setCell ⟨gb167, 2, none⟩ (.string ((rd_T34 l0_2 x3_2).f2))).setCell ⟨gb167, 3, none⟩ (.string ((rd_T34 l0_2 x3_2).f3))).setCell ⟨gb167, 4, none⟩ (.bool ((rd_T34 l0_2 x3_2).f4))).setCell ⟨gb167, 5, none⟩ (.int .i64 ((rd_T34 l0_2 x3_2).f5))).setCell ⟨gb167, 6, none⟩ (.bool ((rd_T34 l0_2 x3_2).f6))) = w42 at n0_ n1_ n2_ ⊢
                    have BK163 := n0_
                    have BK167 := n1_
                    have HB := n2_
                    clear n0_ n1_ n2_
                    have n0_ := Aside0.mk (blk_drew BK163.out)
                    have n1_ := Aside0.mk (blk_drew BK167.out)
                    have n2_ := Aside0.mk (below_drew1 HB.out)
                    clear BK163
                    clear BK167
                    clear HB
                    have BK163 := n0_
                    have BK167 := n1_
                    have HB := n2_
                    clear n0_ n1_ n2_
                    refine start_ (n := 36) (S := fun w' => w'.cell? ⟨gb167, 0, none⟩ = some (.int .i64 ((rd_T34 l0_2 x3_2).f0)) ∧ w'.cell? ⟨gb167, 1, none⟩ = some (.string ((rd_T34 l0_2 x3_2).f1)) ∧ w'.cell? ⟨gb167, 2, none⟩ = some (.string ((rd_T34 l0_2 x3_2).f2)) ∧ w'.cell? ⟨gb167, 3, none⟩ = some (.string ((rd_T34 l0_2 x3_2).f3)) ∧ w'.cell? ⟨gb167, 4, none⟩ = some (.bool ((rd_T34 l0_2 x3_2).f4)) ∧ w'.cell? ⟨gb167, 5, none⟩ = some (.int .i64 ((rd_T34 l0_2 x3_2).f5)) ∧ w'.cell? ⟨gb167, 6, none⟩ = some (.bool ((rd_T34 l0_2 x3_2).f6))) (ds := []) (bv 36 0) (by kernel_rfl) rfl rfl ⟨bc BK167.out 0, bc BK167.out 1, bc BK167.out 2, bc BK167.out 3, bc BK167.out 4, bc BK167.out 5, bc BK167.out 6⟩ (fun hHeld => ?_); refine with_tabW spec_TableRight.tab7 spec_TableRight.bits7 (fun HT_ HW_ => ?_)
                    generalize w42.drew = w43 at BK163 BK167 HB hHeld ⊢
                    refine tk 0 34 (bv 36 1) HT_.out HW_.out hHeld (h := ?_)
                    refine one_ (i := 1) (N := some 35) (bv 36 3) rfl rfl (one_of HT_.out (by kernel_rfl)) (by decide) (fun K hK => ?_)
                    refine goes_ Tryd.func110 (by kernel_rfl) rfl #[.agg #[.int .i64 ((rd_T34 l0_2 x3_2).f0), .string ((rd_T34 l0_2 x3_2).f1), .string ((rd_T34 l0_2 x3_2).f2), .string ((rd_T34 l0_2 x3_2).f3), .bool ((rd_T34 l0_2 x3_2).f4), .int .i64 ((rd_T34 l0_2 x3_2).f5), .bool ((rd_T34 l0_2 x3_2).f6)]] (by rfl) rfl rfl Ag ?_
                    with_reducible refine (spec_l12Row.calls k2 ((rd_T34 l0_2 x3_2).f0) ((rd_T34 l0_2 x3_2).f1) ((rd_T34 l0_2 x3_2).f2) ((rd_T34 l0_2 x3_2).f3) ((rd_T34 l0_2 x3_2).f4) ((rd_T34 l0_2 x3_2).f5) ((rd_T34 l0_2 x3_2).f6) false _ A19.out).mono ?_
                    rintro e w44 ⟨rfl, hb⟩
                    refine ⟨_, rfl, ?_⟩
                    have n0_ := Aside0.mk (bb BK163.out hb)
                    have n1_ := Aside0.mk (bb BK167.out hb)
                    have n2_ := Aside0.mk (below_step By hb)
                    clear BK163
                    clear BK167
                    clear HB
                    have BK163 := n0_
                    have BK167 := n1_
                    have HB := n2_
                    clear n0_ n1_ n2_
                    (try clear hb)
                    (try clear hb2)
                    (try clear hk)
                    (try clear hi)
                    refine hK.out _ _ ⟨bc BK167.out 0, bc BK167.out 1, bc BK167.out 2, bc BK167.out 3, bc BK167.out 4, bc BK167.out 5, bc BK167.out 6⟩ (fun hHeld => ?_)
                    clear hK K
                    refine norm_ (a' := ?_) ?_ ?_
                    rotate_left
                    · show Act.put _ (some 35) _ = _
                      simp only [Act.put, List.setIfInBounds_toArray, List.set_cons_zero, List.set_cons_succ, i64_w, i32_w]
                      rfl
                    refine pu 2 36 (bv 36 7) HT_.out (h := ?_)
                    refine pu 3 37 (bv 36 15) HT_.out (h := ?_)
                    refine pn 4 38 (bv 36 31) HT_.out (h := ?_)
                    refine pn 5 39 (bv 36 63) HT_.out (h := ?_)
                    refine pn 6 40 (bv 36 127) HT_.out (h := ?_)
                    refine pn 7 41 (bv 36 255) HT_.out (h := ?_)
                    refine pn 8 42 (bv 36 511) HT_.out (h := ?_)
                    refine pn 9 43 (bv 36 1023) HT_.out (h := ?_)
                    refine pn 10 44 (bv 36 2047) HT_.out (h := ?_)
                    refine pu 11 45 (bv 36 4095) HT_.out (h := ?_)
                    refine pu 12 46 (bv 36 8191) HT_.out (h := ?_)
                    refine pn 13 47 (bv 36 16383) HT_.out (h := ?_)
                    refine pn 14 48 (bv 36 32767) HT_.out (h := ?_)
                    refine pn 15 49 (bv 36 65535) HT_.out (h := ?_)
                    refine pn 16 50 (bv 36 131071) HT_.out (h := ?_)
                    refine pn 17 51 (bv 36 262143) HT_.out (h := ?_)
                    refine pn 18 52 (bv 36 524287) HT_.out (h := ?_)
                    refine pn 19 53 (bv 36 1048575) HT_.out (h := ?_)
                    refine pn 20 54 (bv 36 2097151) HT_.out (h := ?_)
                    refine pn 21 55 (bv 36 4194303) HT_.out (h := ?_)
                    refine pn 22 56 (bv 36 8388607) HT_.out (h := ?_)
                    refine pn 23 57 (bv 36 16777215) HT_.out (h := ?_)
                    refine pn 24 58 (bv 36 33554431) HT_.out (h := ?_)
                    refine pn 25 59 (bv 36 67108863) HT_.out (h := ?_)
                    refine pn 26 60 (bv 36 134217727) HT_.out (h := ?_)
                    refine pu 27 61 (bv 36 268435455) HT_.out (h := ?_)
                    refine pu 28 62 (bv 36 536870911) HT_.out (h := ?_)
                    refine pn 29 63 (bv 36 1073741823) HT_.out (h := ?_)
                    refine pn 30 64 (bv 36 2147483647) HT_.out (h := ?_)
                    refine pn 31 65 (bv 36 4294967295) HT_.out (h := ?_)
                    refine pn 32 66 (bv 36 8589934591) HT_.out (h := ?_)
                    refine pn 33 67 (bv 36 17179869183) HT_.out (h := ?_)
                    refine pn 34 68 (bv 36 34359738367) HT_.out (h := ?_)
                    refine pu 35 69 (bv 36 68719476735) HT_.out (h := ?_)
                    refine done_ (done_of HT_.out (by kernel_rfl)) ?_
                    try go_wp2
                    go_meet
                    case rel => exact ⟨_, (true), (by first | rfl | (simp; done) | (simp [*]; done)), H', ⟨by have := HJ1.out; have := HK2.out; first | omega | exact Nat.le_refl _⟩, ⟨by (with_reducible repeat (first | refine blk_drewN ?_ _ | refine blk_drew ?_ | refine blk_alloc ?_ _)); exact BK163.out⟩, ⟨by (with_reducible repeat (first | refine blk_drewN ?_ _ | refine blk_drew ?_ | refine blk_alloc ?_ _)); exact BK167.out⟩, ⟨By⟩⟩
                case rest =>
                  clear HC14
                  try clear c1
                  try clear c2
                  try clear p2
                  try clear p6
                  try clear c7
                  try clear c11
                  try clear c20
                  try clear c22
                  obtain ⟨kq, x69_13, rfl, HA, HJ13, BK163, BK167, HB⟩ := hcut
                  cases kq with
                  | zero => exact absurd HA.out (by simp [spec_TableRight.j2])
                  | succ kj13 =>
                    have H := HA.out
                    clear HA
                    simp only [spec_TableRight.j2] at H
                    by_cases c45 : x69_13 = true
                    · subst c45
                      have H1 : (some false) = some r := by rw [if_pos rfl] at H; exact H
                      clear H
                      have H := H1
                      clear H1
                      obtain rfl := Option.some.inj H
                      go_wp2
                      go_ret
                      exact ⟨Rf, By⟩
                    · replace c45 := Bool.eq_false_iff.mpr c45
                      subst c45
                      have H1 : (spec_TableRight.l1 kj13 x3_2 0 a0_0 a0_1 l0_2 ((rd_T34 l0_2 x3_2).f0) ((rd_T34 l0_2 x3_2).f1) ((rd_T34 l0_2 x3_2).f2) ((rd_T34 l0_2 x3_2).f3) ((rd_T34 l0_2 x3_2).f4) ((rd_T34 l0_2 x3_2).f5) ((rd_T34 l0_2 x3_2).f6)) = some r := by rw [if_neg (show ¬ (false = true) by decide)] at H; exact H
                      clear H
                      have H := H1
                      clear H1
                      have H' := Aside0.mk H
                      clear H
                      go_wp2
                      go_loopg [5] kj13 (fun kq v5 w' => ∃ (x5_4 : Int), v5 = .int .i64 x5_4 ∧ Aside0 (spec_TableRight.l1 kq x3_2 x5_4 a0_0 a0_1 l0_2 ((rd_T34 l0_2 x3_2).f0) ((rd_T34 l0_2 x3_2).f1) ((rd_T34 l0_2 x3_2).f2) ((rd_T34 l0_2 x3_2).f3) ((rd_T34 l0_2 x3_2).f4) ((rd_T34 l0_2 x3_2).f5) ((rd_T34 l0_2 x3_2).f6) = some r) ∧ Aside0 (kq ≤ kj13) ∧ Aside0 (w'.heap[gb163]? = some (.cells #[.int .i64 a0_0, .int .i64 a0_1, (.slice (some ad166) l0_2.length c0_2)] 38 (0, 0))) ∧ Aside0 (w'.heap[gb167]? = some (.cells #[.int .i64 ((rd_T34 l0_2 x3_2).f0), .string ((rd_T34 l0_2 x3_2).f1), .string ((rd_T34 l0_2 x3_2).f2), .string ((rd_T34 l0_2 x3_2).f3), .bool ((rd_T34 l0_2 x3_2).f4), .int .i64 ((rd_T34 l0_2 x3_2).f5), .bool ((rd_T34 l0_2 x3_2).f6)] 34 (0, 0))) ∧ Aside0 (Below w.heap.size w w'))
                      case atStart => exact ⟨(0), (by first | rfl | (simp; done) | (simp [*]; done)), H', ⟨Nat.le_refl _⟩, ⟨by (with_reducible repeat (first | refine blk_drewN ?_ _ | refine blk_drew ?_ | refine blk_alloc ?_ _)); exact BK163.out⟩, ⟨by (with_reducible repeat (first | refine blk_drewN ?_ _ | refine blk_drew ?_ | refine blk_alloc ?_ _)); exact BK167.out⟩, ⟨By⟩⟩
                      case round =>
                        clear H'
                        try clear c1
                        try clear c2
                        try clear p2
                        try clear c4
                        try clear p6
                        try clear c7
                        try clear c11
                        try clear c20
                        try clear c22
                        try clear c45
                        try clear p2
                        try clear p6
                        obtain ⟨x5_4, rfl, HA, HK4, BK163, BK167, HB⟩ := hrel
                        cases gk with
                        | zero => exact absurd HA.out (by simp [spec_TableRight.l1])
                        | succ k4 =>
                          have H := HA.out
                          clear HA
                          simp only [spec_TableRight.l1] at H
                          by_cases c46 : x5_4 < x3_2
                          · rw [if_pos c46] at H
                            have c46b0 : decide (x5_4 < x3_2) = true := decide_eq_true c46
                            clear c46
                            by_cases c47 : 0 ≤ x5_4
                            · rw [if_pos c47] at H
                              have c47b0 : decide (0 ≤ x5_4) = true := decide_eq_true c47
                              clear c47
                              by_cases c48 : x5_4 < (l0_2.length : Int)
                              · rw [if_pos c48] at H
                                have c48b0 : decide (x5_4 < (l0_2.length : Int)) = true := decide_eq_true c48
                                clear c48
                                by_cases c49 : ((rd_T34 l0_2 x5_4).f5) = ((rd_T34 l0_2 x3_2).f5)
                                · rw [if_pos c49] at H
                                  have c49b0 : (((rd_T34 l0_2 x5_4).f5) == ((rd_T34 l0_2 x3_2).f5)) = true := beq_iff_eq.mpr c49
                                  have c49b1 : (((rd_T34 l0_2 x5_4).f5) != ((rd_T34 l0_2 x3_2).f5)) = false := bne_eq_false_iff_eq.mpr c49
                                  clear c49
                                  obtain rfl := Option.some.inj H
                                  try go_wp2
                                  have n0_ := Aside0.mk (blk_drew BK163.out)
                                  have n1_ := Aside0.mk (blk_drew BK167.out)
                                  have n2_ := Aside0.mk (below_drew1 HB.out)
                                  clear BK163
                                  clear BK167
                                  clear HB
                                  have BK163 := n0_
                                  have BK167 := n1_
                                  have HB := n2_
                                  clear n0_ n1_ n2_
                                  have p173 : 0 ≤ (x5_4 : Int) := of_decide_eq_true Da
                                  have q173 : x5_4 < (l0_2.length : Int) := of_decide_eq_true Da
                                  obtain ⟨ad173, e173, hx173_0, hx173_1, hx173_2, hx173_3, hx173_4, hx173_5, hx173_6⟩ := at_T34 HR0_2.out x5_4 p173 q173
                                  have hw173_6 := hx173_6
                                  have hw173_5 := hx173_5
                                  have hw173_4 := hx173_4
                                  have hw173_3 := hx173_3
                                  have hw173_2 := hx173_2
                                  have hw173_1 := hx173_1
                                  have hw173_0 := hx173_0
                                  obtain rfl : ad166 = ad173 := (by injection e173)
                                  replace hx173_0 := bz HB.out hx173_0
                                  replace hx173_1 := bz HB.out hx173_1
                                  replace hx173_2 := bz HB.out hx173_2
                                  replace hx173_3 := bz HB.out hx173_3
                                  replace hx173_4 := bz HB.out hx173_4
                                  replace hx173_5 := bz HB.out hx173_5
                                  replace hx173_6 := bz HB.out hx173_6
                                  replace p173 := eq_true p173
                                  replace q173 := eq_true q173
                                  refine start_ (n := 34) (S := fun w' => w'.cell? ⟨gb163, 0, none⟩ = some (.int .i64 a0_0) ∧ w'.cell? ⟨gb163, 1, none⟩ = some (.int .i64 a0_1) ∧ w'.cell? ⟨gb163, 2, none⟩ = some (.slice (some ad166) l0_2.length c0_2) ∧ w'.cell? ⟨gb167, 0, none⟩ = some (.int .i64 ((rd_T34 l0_2 x3_2).f0)) ∧ w'.cell? ⟨gb167, 1, none⟩ = some (.string ((rd_T34 l0_2 x3_2).f1)) ∧ w'.cell? ⟨gb167, 2, none⟩ = some (.string ((rd_T34 l0_2 x3_2).f2)) ∧ w'.cell? ⟨gb167, 3, none⟩ = some (.string ((rd_T34 l0_2 x3_2).f3)) ∧ w'.cell? ⟨gb167, 4, none⟩ = some (.bool ((rd_T34 l0_2 x3_2).f4)) ∧ w'.cell? ⟨gb167, 5, none⟩ = some (.int .i64 ((rd_T34 l0_2 x3_2).f5)) ∧ w'.cell? ⟨gb167, 6, none⟩ = some (.bool ((rd_T34 l0_2 x3_2).f6)) ∧ w'.cell? (ad166.add ((x5_4).toNat * 7)) = some (.int .i64 ((rd_T34 l0_2 x5_4).f0)) ∧ w'.cell? ⟨(ad166.add ((x5_4).toNat * 7)).block, (ad166.add ((x5_4).toNat * 7)).off + 1, none⟩ = some (.string ((rd_T34 l0_2 x5_4).f1)) ∧ w'.cell? ⟨(ad166.add ((x5_4).toNat * 7)).block, (ad166.add ((x5_4).toNat * 7)).off + 2, none⟩ = some (.string ((rd_T34 l0_2 x5_4).f2)) ∧ w'.cell? ⟨(ad166.add ((x5_4).toNat * 7)).block, (ad166.add ((x5_4).toNat * 7)).off + 3, none⟩ = some (.string ((rd_T34 l0_2 x5_4).f3)) ∧ w'.cell? ⟨(ad166.add ((x5_4).toNat * 7)).block, (ad166.add ((x5_4).toNat * 7)).off + 4, none⟩ = some (.bool ((rd_T34 l0_2 x5_4).f4)) ∧ w'.cell? ⟨(ad166.add ((x5_4).toNat * 7)).block, (ad166.add ((x5_4).toNat * 7)).off + 5, none⟩ = some (.int .i64 ((rd_T34 l0_2 x5_4).f5)) ∧ w'.cell? ⟨(ad166.add ((x5_4).toNat * 7)).block, (ad166.add ((x5_4).toNat * 7)).off + 6, none⟩ = some (.bool ((rd_T34 l0_2 x5_4).f6))) (ds := []) (bv 34 0) (by kernel_rfl) rfl rfl ⟨bc BK163.out 0, bc BK163.out 1, bc BK163.out 2, bc BK167.out 0, bc BK167.out 1, bc BK167.out 2, bc BK167.out 3, bc BK167.out 4, bc BK167.out 5, bc BK167.out 6, (bz HB.out hw173_0), (bz HB.out hw173_1), (bz HB.out hw173_2), (bz HB.out hw173_3), (bz HB.out hw173_4), (bz HB.out hw173_5), (bz HB.out hw173_6)⟩ (fun hHeld => ?_); refine with_tabW spec_TableRight.tab12 spec_TableRight.bits12 (fun HT_ HW_ => ?_)
                                  generalize wr.drew = w50 at BK163 BK167 HB hx173_0 hx173_1 hx173_2 hx173_3 hx173_4 hx173_5 hx173_6 hHeld ⊢
                                  refine pu 0 75 (bv 34 1) HT_.out (h := ?_)
                                  refine pu 2 77 (bv 34 5) HT_.out (h := ?_)
                                  refine pu 6 81 (bv 34 69) HT_.out (h := ?_)
                                  refine tk 1 76 (bv 34 71) HT_.out HW_.out hHeld (h := ?_)
                                  refine pu 3 78 (bv 34 79) HT_.out (h := ?_)
                                  refine pu 4 79 (bv 34 95) HT_.out (h := ?_)
                                  refine tk 5 80 (bv 34 127) HT_.out HW_.out hHeld (h := ?_)
                                  refine tk 7 82 (bv 34 255) HT_.out HW_.out hHeld (h := ?_)
                                  refine pu 8 83 (bv 34 511) HT_.out (h := ?_)
                                  refine pu 9 84 (bv 34 1023) HT_.out (h := ?_)
                                  refine pn 10 85 (bv 34 2047) HT_.out (h := ?_)
                                  refine pn 11 86 (bv 34 4095) HT_.out (h := ?_)
                                  refine pn 12 87 (bv 34 8191) HT_.out (h := ?_)
                                  refine pn 13 88 (bv 34 16383) HT_.out (h := ?_)
                                  refine pn 14 89 (bv 34 32767) HT_.out (h := ?_)
                                  refine pn 15 90 (bv 34 65535) HT_.out (h := ?_)
                                  refine pn 16 91 (bv 34 131071) HT_.out (h := ?_)
                                  refine pn 17 92 (bv 34 262143) HT_.out (h := ?_)
                                  refine pn 18 93 (bv 34 524287) HT_.out (h := ?_)
                                  refine pn 19 94 (bv 34 1048575) HT_.out (h := ?_)
                                  refine pn 20 95 (bv 34 2097151) HT_.out (h := ?_)
                                  refine pn 21 96 (bv 34 4194303) HT_.out (h := ?_)
                                  refine pn 22 97 (bv 34 8388607) HT_.out (h := ?_)
                                  refine pn 23 98 (bv 34 16777215) HT_.out (h := ?_)
                                  refine pn 24 99 (bv 34 33554431) HT_.out (h := ?_)
                                  refine pn 25 100 (bv 34 67108863) HT_.out (h := ?_)
                                  refine pn 26 101 (bv 34 134217727) HT_.out (h := ?_)
                                  refine pn 27 102 (bv 34 268435455) HT_.out (h := ?_)
                                  refine pn 28 103 (bv 34 536870911) HT_.out (h := ?_)
                                  refine pn 29 104 (bv 34 1073741823) HT_.out (h := ?_)
                                  refine pn 30 105 (bv 34 2147483647) HT_.out (h := ?_)
                                  refine pn 31 106 (bv 34 4294967295) HT_.out (h := ?_)
                                  refine pn 32 107 (bv 34 8589934591) HT_.out (h := ?_)
                                  refine pu 33 108 (bv 34 17179869183) HT_.out (h := ?_)
                                  refine done_ (done_of HT_.out (by kernel_rfl)) ?_
                                  try go_wp2
                                  go_ret
                                  exact ⟨Rf, By⟩
                                · rw [if_neg c49] at H
                                  have c49b0 : (((rd_T34 l0_2 x5_4).f5) == ((rd_T34 l0_2 x3_2).f5)) = false := beq_eq_false_iff_ne.mpr c49
                                  have c49b1 : (((rd_T34 l0_2 x5_4).f5) != ((rd_T34 l0_2 x3_2).f5)) = true := bne_iff_ne.mpr c49
                                  obtain ⟨bq51, hbq51⟩ : ∃ b_ : Bool, b_ = ((rd_T34 l0_2 x5_4).f6) := ⟨_, rfl⟩
                                  replace H : (if (bq51 = true) then (spec_TableRight.l1 k4 x3_2 (wrap64 (x5_4 + 1)) a0_0 a0_1 l0_2 ((rd_T34 l0_2 x3_2).f0) ((rd_T34 l0_2 x3_2).f1) ((rd_T34 l0_2 x3_2).f2) ((rd_T34 l0_2 x3_2).f3) ((rd_T34 l0_2 x3_2).f4) ((rd_T34 l0_2 x3_2).f5) ((rd_T34 l0_2 x3_2).f6)) else (if ((rd_T34 l0_2 x3_2).f6) = true then (spec_TableRight.l1 k4 x3_2 (wrap64 (x5_4 + 1)) a0_0 a0_1 l0_2 ((rd_T34 l0_2 x3_2).f0) ((rd_T34 l0_2 x3_2).f1) ((rd_T34 l0_2 x3_2).f2) ((rd_T34 l0_2 x3_2).f3) ((rd_T34 l0_2 x3_2).f4) ((rd_T34 l0_2 x3_2).f5) ((rd_T34 l0_2 x3_2).f6)) else (if ((rd_T34 l0_2 x5_4).f1).toList = ((rd_T34 l0_2 x3_2).f1).toList then (some false) else (spec_TableRight.l1 k4 x3_2 (wrap64 (x5_4 + 1)) a0_0 a0_1 l0_2 ((rd_T34 l0_2 x3_2).f0) ((rd_T34 l0_2 x3_2).f1) ((rd_T34 l0_2 x3_2).f2) ((rd_T34 l0_2 x3_2).f3) ((rd_T34 l0_2 x3_2).f4) ((rd_T34 l0_2 x3_2).f5) ((rd_T34 l0_2 x3_2).f6))))) = some r := by rw [← hbq51] at H; exact H
                                  have Nbq51 := Aside0.mk hbq51
                                  clear hbq51
                                  by_cases c52 : (bq51 = true)
                                  · subst c52
                                    have H1 : (spec_TableRight.l1 k4 x3_2 (wrap64 (x5_4 + 1)) a0_0 a0_1 l0_2 ((rd_T34 l0_2 x3_2).f0) ((rd_T34 l0_2 x3_2).f1) ((rd_T34 l0_2 x3_2).f2) ((rd_T34 l0_2 x3_2).f3) ((rd_T34 l0_2 x3_2).f4) ((rd_T34 l0_2 x3_2).f5) ((rd_T34 l0_2 x3_2).f6)) = some r := by rw [if_pos rfl] at H; exact H
                                    clear H
                                    have H := H1
                                    clear H1
                                    have H' := Aside0.mk H
                                    clear H
                                    try go_wp2
                                    have n0_ := Aside0.mk (blk_drew BK163.out)
                                    have n1_ := Aside0.mk (blk_drew BK167.out)
                                    have n2_ := Aside0.mk (below_drew1 HB.out)
                                    clear BK163
                                    clear BK167
                                    clear HB
                                    have BK163 := n0_
                                    have BK167 := n1_
                                    have HB := n2_
                                    clear n0_ n1_ n2_
                                    have p173 : 0 ≤ (x5_4 : Int) := of_decide_eq_true Da
                                    have q173 : x5_4 < (l0_2.length : Int) := of_decide_eq_true Da
                                    obtain ⟨ad173, e173, hx173_0, hx173_1, hx173_2, hx173_3, hx173_4, hx173_5, hx173_6⟩ := at_T34 HR0_2.out x5_4 p173 q173
                                    have hw173_6 := hx173_6
                                    have hw173_5 := hx173_5
                                    have hw173_4 := hx173_4
                                    have hw173_3 := hx173_3
                                    have hw173_2 := hx173_2
                                    have hw173_1 := hx173_1
                                    have hw173_0 := hx173_0
                                    (try rw [← Nbq51.out] at hx173_4); (try rw [← Nbq51.out] at hw173_4)
                                    (try rw [← Nbq51.out] at hx173_6); (try rw [← Nbq51.out] at hw173_6)
                                    obtain rfl : ad166 = ad173 := (by injection e173)
                                    replace hx173_0 := bz HB.out hx173_0
                                    replace hx173_1 := bz HB.out hx173_1
                                    replace hx173_2 := bz HB.out hx173_2
                                    replace hx173_3 := bz HB.out hx173_3
                                    replace hx173_4 := bz HB.out hx173_4
                                    replace hx173_5 := bz HB.out hx173_5
                                    replace hx173_6 := bz HB.out hx173_6
                                    replace p173 := eq_true p173
                                    replace q173 := eq_true q173
                                    have p174 : 0 ≤ (x5_4 : Int) := of_decide_eq_true Da
                                    have q174 : x5_4 < (l0_2.length : Int) := of_decide_eq_true Da
                                    obtain ⟨ad174, e174, hx174_0, hx174_1, hx174_2, hx174_3, hx174_4, hx174_5, hx174_6⟩ := at_T34 HR0_2.out x5_4 p174 q174
                                    have hw174_6 := hx174_6
                                    have hw174_5 := hx174_5
                                    have hw174_4 := hx174_4
                                    have hw174_3 := hx174_3
                                    have hw174_2 := hx174_2
                                    have hw174_1 := hx174_1
                                    have hw174_0 := hx174_0
                                    (try rw [← Nbq51.out] at hx174_4); (try rw [← Nbq51.out] at hw174_4)
                                    (try rw [← Nbq51.out] at hx174_6); (try rw [← Nbq51.out] at hw174_6)
                                    obtain rfl : ad166 = ad174 := (by injection e174)
                                    replace hx174_0 := bz HB.out hx174_0
                                    replace hx174_1 := bz HB.out hx174_1
                                    replace hx174_2 := bz HB.out hx174_2
                                    replace hx174_3 := bz HB.out hx174_3
                                    replace hx174_4 := bz HB.out hx174_4
                                    replace hx174_5 := bz HB.out hx174_5
                                    replace hx174_6 := bz HB.out hx174_6
                                    replace p174 := eq_true p174
                                    replace q174 := eq_true q174
                                    refine start_ (n := 34) (S := fun w' => w'.cell? ⟨gb163, 0, none⟩ = some (.int .i64 a0_0) ∧ w'.cell? ⟨gb163, 1, none⟩ = some (.int .i64 a0_1) ∧ w'.cell? ⟨gb163, 2, none⟩ = some (.slice (some ad166) l0_2.length c0_2) ∧ w'.cell? ⟨gb167, 0, none⟩ = some (.int .i64 ((rd_T34 l0_2 x3_2).f0)) ∧ w'.cell? ⟨gb167, 1, none⟩ = some (.string ((rd_T34 l0_2 x3_2).f1)) ∧ w'.cell? ⟨gb167, 2, none⟩ = some (.string ((rd_T34 l0_2 x3_2).f2)) ∧ w'.cell? ⟨gb167, 3, none⟩ = some (.string ((rd_T34 l0_2 x3_2).f3)) ∧ w'.cell? ⟨gb167, 4, none⟩ = some (.bool ((rd_T34 l0_2 x3_2).f4)) ∧ w'.cell? ⟨gb167, 5, none⟩ = some (.int .i64 ((rd_T34 l0_2 x3_2).f5)) ∧ w'.cell? ⟨gb167, 6, none⟩ = some (.bool ((rd_T34 l0_2 x3_2).f6)) ∧ w'.cell? (ad166.add ((x5_4).toNat * 7)) = some (.int .i64 ((rd_T34 l0_2 x5_4).f0)) ∧ w'.cell? ⟨(ad166.add ((x5_4).toNat * 7)).block, (ad166.add ((x5_4).toNat * 7)).off + 1, none⟩ = some (.string ((rd_T34 l0_2 x5_4).f1)) ∧ w'.cell? ⟨(ad166.add ((x5_4).toNat * 7)).block, (ad166.add ((x5_4).toNat * 7)).off + 2, none⟩ = some (.string ((rd_T34 l0_2 x5_4).f2)) ∧ w'.cell? ⟨(ad166.add ((x5_4).toNat * 7)).block, (ad166.add ((x5_4).toNat * 7)).off + 3, none⟩ = some (.string ((rd_T34 l0_2 x5_4).f3)) ∧ w'.cell? ⟨(ad166.add ((x5_4).toNat * 7)).block, (ad166.add ((x5_4).toNat * 7)).off + 4, none⟩ = some (.bool ((rd_T34 l0_2 x5_4).f4)) ∧ w'.cell? ⟨(ad166.add ((x5_4).toNat * 7)).block, (ad166.add ((x5_4).toNat * 7)).off + 5, none⟩ = some (.int .i64 ((rd_T34 l0_2 x5_4).f5)) ∧ w'.cell? ⟨(ad166.add ((x5_4).toNat * 7)).block, (ad166.add ((x5_4).toNat * 7)).off + 6, none⟩ = some (.bool true) ∧ w'.cell? (ad166.add ((x5_4).toNat * 7)) = some (.int .i64 ((rd_T34 l0_2 x5_4).f0)) ∧ w'.cell? ⟨(ad166.add ((x5_4).toNat * 7)).block, (ad166.add ((x5_4).toNat * 7)).off + 1, none⟩ = some (.string ((rd_T34 l0_2 x5_4).f1)) ∧ w'.cell? ⟨(ad166.add ((x5_4).toNat * 7)).block, (ad166.add ((x5_4).toNat * 7)).off + 2, none⟩ = some (.string ((rd_T34 l0_2 x5_4).f2)) ∧ w'.cell? ⟨(ad166.add ((x5_4).toNat * 7)).block, (ad166.add ((x5_4).toNat * 7)).off + 3, none⟩ = some (.string ((rd_T34 l0_2 x5_4).f3)) ∧ w'.cell? ⟨(ad166.add ((x5_4).toNat * 7)).block, (ad166.add ((x5_4).toNat * 7)).off + 4, none⟩ = some (.bool ((rd_T34 l0_2 x5_4).f4)) ∧ w'.cell? ⟨(ad166.add ((x5_4).toNat * 7)).block, (ad166.add ((x5_4).toNat * 7)).off + 5, none⟩ = some (.int .i64 ((rd_T34 l0_2 x5_4).f5)) ∧ w'.cell? ⟨(ad166.add ((x5_4).toNat * 7)).block, (ad166.add ((x5_4).toNat * 7)).off + 6, none⟩ = some (.bool true)) (ds := []) (bv 34 0) (by kernel_rfl) rfl rfl ⟨bc BK163.out 0, bc BK163.out 1, bc BK163.out 2, bc BK167.out 0, bc BK167.out 1, bc BK167.out 2, bc BK167.out 3, bc BK167.out 4, bc BK167.out 5, bc BK167.out 6, (bz HB.out hw173_0), (bz HB.out hw173_1), (bz HB.out hw173_2), (bz HB.out hw173_3), (bz HB.out hw173_4), (bz HB.out hw173_5), (bz HB.out hw173_6), (bz HB.out hw174_0), (bz HB.out hw174_1), (bz HB.out hw174_2), (bz HB.out hw174_3), (bz HB.out hw174_4), (bz HB.out hw174_5), (bz HB.out hw174_6)⟩ (fun hHeld => ?_); refine with_tabW spec_TableRight.tab12 spec_TableRight.bits12 (fun HT_ HW_ => ?_)
                                    generalize wr.drew = w53 at BK163 BK167 HB hx173_0 hx173_1 hx173_2 hx173_3 hx173_4 hx173_5 hx173_6 hx174_0 hx174_1 hx174_2 hx174_3 hx174_4 hx174_5 hx174_6 hHeld ⊢
                                    refine pu 0 75 (bv 34 1) HT_.out (h := ?_)
                                    refine pu 2 77 (bv 34 5) HT_.out (h := ?_)
                                    refine pu 6 81 (bv 34 69) HT_.out (h := ?_)
                                    refine tk 1 76 (bv 34 71) HT_.out HW_.out hHeld (h := ?_)
                                    refine pu 3 78 (bv 34 79) HT_.out (h := ?_)
                                    refine pu 4 79 (bv 34 95) HT_.out (h := ?_)
                                    refine tk 5 80 (bv 34 127) HT_.out HW_.out hHeld (h := ?_)
                                    refine tk 7 82 (bv 34 255) HT_.out HW_.out hHeld (h := ?_)
                                    refine pu 8 83 (bv 34 511) HT_.out (h := ?_)
                                    refine pu 9 84 (bv 34 1023) HT_.out (h := ?_)
                                    refine pu 10 85 (bv 34 2047) HT_.out (h := ?_)
                                    refine pu 12 87 (bv 34 6143) HT_.out (h := ?_)
                                    refine tk 11 86 (bv 34 8191) HT_.out HW_.out hHeld (h := ?_)
                                    refine pu 13 88 (bv 34 16383) HT_.out (h := ?_)
                                    refine pu 14 89 (bv 34 32767) HT_.out (h := ?_)
                                    refine tk 15 90 (bv 34 65535) HT_.out HW_.out hHeld (h := ?_)
                                    refine pu 16 91 (bv 34 131071) HT_.out (h := ?_)
                                    refine pu 17 92 (bv 34 262143) HT_.out (h := ?_)
                                    refine pn 18 93 (bv 34 524287) HT_.out (h := ?_)
                                    refine pn 19 94 (bv 34 1048575) HT_.out (h := ?_)
                                    refine pn 20 95 (bv 34 2097151) HT_.out (h := ?_)
                                    refine pu 21 96 (bv 34 4194303) HT_.out (h := ?_)
                                    refine pu 22 97 (bv 34 8388607) HT_.out (h := ?_)
                                    refine pn 23 98 (bv 34 16777215) HT_.out (h := ?_)
                                    refine pn 24 99 (bv 34 33554431) HT_.out (h := ?_)
                                    refine pn 25 100 (bv 34 67108863) HT_.out (h := ?_)
                                    refine pn 26 101 (bv 34 134217727) HT_.out (h := ?_)
                                    refine pn 27 102 (bv 34 268435455) HT_.out (h := ?_)
                                    refine pn 28 103 (bv 34 536870911) HT_.out (h := ?_)
                                    refine pn 29 104 (bv 34 1073741823) HT_.out (h := ?_)
                                    refine pn 30 105 (bv 34 2147483647) HT_.out (h := ?_)
                                    refine pn 31 106 (bv 34 4294967295) HT_.out (h := ?_)
                                    refine pu 32 107 (bv 34 8589934591) HT_.out (h := ?_)
                                    refine pu 33 108 (bv 34 17179869183) HT_.out (h := ?_)
                                    refine done_ (done_of HT_.out (by kernel_rfl)) ?_
                                    try go_wp2
                                    go_roundg k4
                                    case measure => have := HJ1.out; have := HK2.out; have := HJ13.out; have := HK4.out; omega
                                    case rel => exact ⟨(wrap64 (x5_4 + 1)), (by first | rfl | (simp; done) | (simp [*]; done)), H', ⟨by have := HJ1.out; have := HK2.out; have := HJ13.out; have := HK4.out; omega⟩, ⟨by (with_reducible repeat (first | refine blk_drewN ?_ _ | refine blk_drew ?_ | refine blk_alloc ?_ _)); exact BK163.out⟩, ⟨by (with_reducible repeat (first | refine blk_drewN ?_ _ | refine blk_drew ?_ | refine blk_alloc ?_ _)); exact BK167.out⟩, ⟨By⟩⟩
                                  · replace c52 := Bool.eq_false_iff.mpr c52
                                    subst c52
                                    have H1 : (if ((rd_T34 l0_2 x3_2).f6) = true then (spec_TableRight.l1 k4 x3_2 (wrap64 (x5_4 + 1)) a0_0 a0_1 l0_2 ((rd_T34 l0_2 x3_2).f0) ((rd_T34 l0_2 x3_2).f1) ((rd_T34 l0_2 x3_2).f2) ((rd_T34 l0_2 x3_2).f3) ((rd_T34 l0_2 x3_2).f4) ((rd_T34 l0_2 x3_2).f5) ((rd_T34 l0_2 x3_2).f6)) else (if ((rd_T34 l0_2 x5_4).f1).toList = ((rd_T34 l0_2 x3_2).f1).toList then (some false) else (spec_TableRight.l1 k4 x3_2 (wrap64 (x5_4 + 1)) a0_0 a0_1 l0_2 ((rd_T34 l0_2 x3_2).f0) ((rd_T34 l0_2 x3_2).f1) ((rd_T34 l0_2 x3_2).f2) ((rd_T34 l0_2 x3_2).f3) ((rd_T34 l0_2 x3_2).f4) ((rd_T34 l0_2 x3_2).f5) ((rd_T34 l0_2 x3_2).f6)))) = some r := by rw [if_neg (show ¬ (false = true) by decide)] at H; exact H
                                    clear H
                                    have H := H1
                                    clear H1
                                    by_cases c54 : ((rd_T34 l0_2 x3_2).f6) = true
                                    · rw [if_pos c54] at H
                                      have c54b0 : ((rd_T34 l0_2 x3_2).f6) = true := c54
                                      clear c54
                                      have H' := Aside0.mk H
                                      clear H
                                      try go_wp2
                                      have n0_ := Aside0.mk (blk_drew BK163.out)
                                      have n1_ := Aside0.mk (blk_drew BK167.out)
                                      have n2_ := Aside0.mk (below_drew1 HB.out)
                                      clear BK163
                                      clear BK167
                                      clear HB
                                      have BK163 := n0_
                                      have BK167 := n1_
                                      have HB := n2_
                                      clear n0_ n1_ n2_
                                      have p173 : 0 ≤ (x5_4 : Int) := of_decide_eq_true Da
                                      have q173 : x5_4 < (l0_2.length : Int) := of_decide_eq_true Da
                                      obtain ⟨ad173, e173, hx173_0, hx173_1, hx173_2, hx173_3, hx173_4, hx173_5, hx173_6⟩ := at_T34 HR0_2.out x5_4 p173 q173
                                      have hw173_6 := hx173_6
                                      have hw173_5 := hx173_5
                                      have hw173_4 := hx173_4
                                      have hw173_3 := hx173_3
                                      have hw173_2 := hx173_2
                                      have hw173_1 := hx173_1
                                      have hw173_0 := hx173_0
                                      (try rw [← Nbq51.out] at hx173_4); (try rw [← Nbq51.out] at hw173_4)
                                      (try rw [← Nbq51.out] at hx173_6); (try rw [← Nbq51.out] at hw173_6)
                                      obtain rfl : ad166 = ad173 := (by injection e173)
                                      replace hx173_0 := bz HB.out hx173_0
                                      replace hx173_1 := bz HB.out hx173_1
                                      replace hx173_2 := bz HB.out hx173_2
                                      replace hx173_3 := bz HB.out hx173_3
                                      replace hx173_4 := bz HB.out hx173_4
                                      replace hx173_5 := bz HB.out hx173_5
                                      replace hx173_6 := bz HB.out hx173_6
                                      replace p173 := eq_true p173
                                      replace q173 := eq_true q173
                                      have p174 : 0 ≤ (x5_4 : Int) := of_decide_eq_true Da
                                      have q174 : x5_4 < (l0_2.length : Int) := of_decide_eq_true Da
                                      obtain ⟨ad174, e174, hx174_0, hx174_1, hx174_2, hx174_3, hx174_4, hx174_5, hx174_6⟩ := at_T34 HR0_2.out x5_4 p174 q174
                                      have hw174_6 := hx174_6
                                      have hw174_5 := hx174_5
                                      have hw174_4 := hx174_4
                                      have hw174_3 := hx174_3
                                      have hw174_2 := hx174_2
                                      have hw174_1 := hx174_1
                                      have hw174_0 := hx174_0
                                      (try rw [← Nbq51.out] at hx174_4); (try rw [← Nbq51.out] at hw174_4)
                                      (try rw [← Nbq51.out] at hx174_6); (try rw [← Nbq51.out] at hw174_6)
                                      obtain rfl : ad166 = ad174 := (by injection e174)
                                      replace hx174_0 := bz HB.out hx174_0
                                      replace hx174_1 := bz HB.out hx174_1
                                      replace hx174_2 := bz HB.out hx174_2
                                      replace hx174_3 := bz HB.out hx174_3
                                      replace hx174_4 := bz HB.out hx174_4
                                      replace hx174_5 := bz HB.out hx174_5
                                      replace hx174_6 := bz HB.out hx174_6
                                      replace p174 := eq_true p174
                                      replace q174 := eq_true q174
                                      refine start_ (n := 34) (S := fun w' => w'.cell? ⟨gb163, 0, none⟩ = some (.int .i64 a0_0) ∧ w'.cell? ⟨gb163, 1, none⟩ = some (.int .i64 a0_1) ∧ w'.cell? ⟨gb163, 2, none⟩ = some (.slice (some ad166) l0_2.length c0_2) ∧ w'.cell? ⟨gb167, 0, none⟩ = some (.int .i64 ((rd_T34 l0_2 x3_2).f0)) ∧ w'.cell? ⟨gb167, 1, none⟩ = some (.string ((rd_T34 l0_2 x3_2).f1)) ∧ w'.cell? ⟨gb167, 2, none⟩ = some (.string ((rd_T34 l0_2 x3_2).f2)) ∧ w'.cell? ⟨gb167, 3, none⟩ = some (.string ((rd_T34 l0_2 x3_2).f3)) ∧ w'.cell? ⟨gb167, 4, none⟩ = some (.bool ((rd_T34 l0_2 x3_2).f4)) ∧ w'.cell? ⟨gb167, 5, none⟩ = some (.int .i64 ((rd_T34 l0_2 x3_2).f5)) ∧ w'.cell? ⟨gb167, 6, none⟩ = some (.bool ((rd_T34 l0_2 x3_2).f6)) ∧ w'.cell? (ad166.add ((x5_4).toNat * 7)) = some (.int .i64 ((rd_T34 l0_2 x5_4).f0)) ∧ w'.cell? ⟨(ad166.add ((x5_4).toNat * 7)).block, (ad166.add ((x5_4).toNat * 7)).off + 1, none⟩ = some (.string ((rd_T34 l0_2 x5_4).f1)) ∧ w'.cell? ⟨(ad166.add ((x5_4).toNat * 7)).block, (ad166.add ((x5_4).toNat * 7)).off + 2, none⟩ = some (.string ((rd_T34 l0_2 x5_4).f2)) ∧ w'.cell? ⟨(ad166.add ((x5_4).toNat * 7)).block, (ad166.add ((x5_4).toNat * 7)).off + 3, none⟩ = some (.string ((rd_T34 l0_2 x5_4).f3)) ∧ w'.cell? ⟨(ad166.add ((x5_4).toNat * 7)).block, (ad166.add ((x5_4).toNat * 7)).off + 4, none⟩ = some (.bool ((rd_T34 l0_2 x5_4).f4)) ∧ w'.cell? ⟨(ad166.add ((x5_4).toNat * 7)).block, (ad166.add ((x5_4).toNat * 7)).off + 5, none⟩ = some (.int .i64 ((rd_T34 l0_2 x5_4).f5)) ∧ w'.cell? ⟨(ad166.add ((x5_4).toNat * 7)).block, (ad166.add ((x5_4).toNat * 7)).off + 6, none⟩ = some (.bool false) ∧ w'.cell? (ad166.add ((x5_4).toNat * 7)) = some (.int .i64 ((rd_T34 l0_2 x5_4).f0)) ∧ w'.cell? ⟨(ad166.add ((x5_4).toNat * 7)).block, (ad166.add ((x5_4).toNat * 7)).off + 1, none⟩ = some (.string ((rd_T34 l0_2 x5_4).f1)) ∧ w'.cell? ⟨(ad166.add ((x5_4).toNat * 7)).block, (ad166.add ((x5_4).toNat * 7)).off + 2, none⟩ = some (.string ((rd_T34 l0_2 x5_4).f2)) ∧ w'.cell? ⟨(ad166.add ((x5_4).toNat * 7)).block, (ad166.add ((x5_4).toNat * 7)).off + 3, none⟩ = some (.string ((rd_T34 l0_2 x5_4).f3)) ∧ w'.cell? ⟨(ad166.add ((x5_4).toNat * 7)).block, (ad166.add ((x5_4).toNat * 7)).off + 4, none⟩ = some (.bool ((rd_T34 l0_2 x5_4).f4)) ∧ w'.cell? ⟨(ad166.add ((x5_4).toNat * 7)).block, (ad166.add ((x5_4).toNat * 7)).off + 5, none⟩ = some (.int .i64 ((rd_T34 l0_2 x5_4).f5)) ∧ w'.cell? ⟨(ad166.add ((x5_4).toNat * 7)).block, (ad166.add ((x5_4).toNat * 7)).off + 6, none⟩ = some (.bool false)) (ds := []) (bv 34 0) (by kernel_rfl) rfl rfl ⟨bc BK163.out 0, bc BK163.out 1, bc BK163.out 2, bc BK167.out 0, bc BK167.out 1, bc BK167.out 2, bc BK167.out 3, bc BK167.out 4, bc BK167.out 5, bc BK167.out 6, (bz HB.out hw173_0), (bz HB.out hw173_1), (bz HB.out hw173_2), (bz HB.out hw173_3), (bz HB.out hw173_4), (bz HB.out hw173_5), (bz HB.out hw173_6), (bz HB.out hw174_0), (bz HB.out hw174_1), (bz HB.out hw174_2), (bz HB.out hw174_3), (bz HB.out hw174_4), (bz HB.out hw174_5), (bz HB.out hw174_6)⟩ (fun hHeld => ?_); refine with_tabW spec_TableRight.tab12 spec_TableRight.bits12 (fun HT_ HW_ => ?_)
                                      generalize wr.drew = w55 at BK163 BK167 HB hx173_0 hx173_1 hx173_2 hx173_3 hx173_4 hx173_5 hx173_6 hx174_0 hx174_1 hx174_2 hx174_3 hx174_4 hx174_5 hx174_6 hHeld ⊢
                                      refine pu 0 75 (bv 34 1) HT_.out (h := ?_)
                                      refine pu 2 77 (bv 34 5) HT_.out (h := ?_)
                                      refine pu 6 81 (bv 34 69) HT_.out (h := ?_)
                                      refine tk 1 76 (bv 34 71) HT_.out HW_.out hHeld (h := ?_)
                                      refine pu 3 78 (bv 34 79) HT_.out (h := ?_)
                                      refine pu 4 79 (bv 34 95) HT_.out (h := ?_)
                                      refine tk 5 80 (bv 34 127) HT_.out HW_.out hHeld (h := ?_)
                                      refine tk 7 82 (bv 34 255) HT_.out HW_.out hHeld (h := ?_)
                                      refine pu 8 83 (bv 34 511) HT_.out (h := ?_)
                                      refine pu 9 84 (bv 34 1023) HT_.out (h := ?_)
                                      refine pu 10 85 (bv 34 2047) HT_.out (h := ?_)
                                      refine pu 12 87 (bv 34 6143) HT_.out (h := ?_)
                                      refine tk 11 86 (bv 34 8191) HT_.out HW_.out hHeld (h := ?_)
                                      refine pu 13 88 (bv 34 16383) HT_.out (h := ?_)
                                      refine pu 14 89 (bv 34 32767) HT_.out (h := ?_)
                                      refine tk 15 90 (bv 34 65535) HT_.out HW_.out hHeld (h := ?_)
                                      refine pu 16 91 (bv 34 131071) HT_.out (h := ?_)
                                      refine pu 17 92 (bv 34 262143) HT_.out (h := ?_)
                                      refine pu 18 93 (bv 34 524287) HT_.out (h := ?_)
                                      refine tk 19 94 (bv 34 1048575) HT_.out HW_.out hHeld (h := ?_)
                                      refine pu 20 95 (bv 34 2097151) HT_.out (h := ?_)
                                      refine pu 21 96 (bv 34 4194303) HT_.out (h := ?_)
                                      refine pu 22 97 (bv 34 8388607) HT_.out (h := ?_)
                                      refine pn 23 98 (bv 34 16777215) HT_.out (h := ?_)
                                      refine pn 24 99 (bv 34 33554431) HT_.out (h := ?_)
                                      refine pn 25 100 (bv 34 67108863) HT_.out (h := ?_)
                                      refine pn 26 101 (bv 34 134217727) HT_.out (h := ?_)
                                      refine pn 27 102 (bv 34 268435455) HT_.out (h := ?_)
                                      refine pn 28 103 (bv 34 536870911) HT_.out (h := ?_)
                                      refine pn 29 104 (bv 34 1073741823) HT_.out (h := ?_)
                                      refine pn 30 105 (bv 34 2147483647) HT_.out (h := ?_)
                                      refine pn 31 106 (bv 34 4294967295) HT_.out (h := ?_)
                                      refine pu 32 107 (bv 34 8589934591) HT_.out (h := ?_)
                                      refine pu 33 108 (bv 34 17179869183) HT_.out (h := ?_)
                                      refine done_ (done_of HT_.out (by kernel_rfl)) ?_
                                      try go_wp2
                                      go_roundg k4
                                      case measure => have := HJ1.out; have := HK2.out; have := HJ13.out; have := HK4.out; omega
                                      case rel => exact ⟨(wrap64 (x5_4 + 1)), (by first | rfl | (simp; done) | (simp [*]; done)), H', ⟨by have := HJ1.out; have := HK2.out; have := HJ13.out; have := HK4.out; omega⟩, ⟨by (with_reducible repeat (first | refine blk_drewN ?_ _ | refine blk_drew ?_ | refine blk_alloc ?_ _)); exact BK163.out⟩, ⟨by (with_reducible repeat (first | refine blk_drewN ?_ _ | refine blk_drew ?_ | refine blk_alloc ?_ _)); exact BK167.out⟩, ⟨By⟩⟩
                                    · rw [if_neg c54] at H
                                      have c54b0 : ((rd_T34 l0_2 x3_2).f6) = false := by simpa using c54
                                      clear c54
                                      by_cases c56 : ((rd_T34 l0_2 x5_4).f1).toList = ((rd_T34 l0_2 x3_2).f1).toList
                                      · rw [if_pos c56] at H
                                        have c56b0 : (((rd_T34 l0_2 x5_4).f1).toList == ((rd_T34 l0_2 x3_2).f1).toList) = true := beq_iff_eq.mpr c56
                                        have c56b1 : (((rd_T34 l0_2 x5_4).f1).toList != ((rd_T34 l0_2 x3_2).f1).toList) = false := bne_eq_false_iff_eq.mpr c56
                                        clear c56
                                        obtain rfl := Option.some.inj H
                                        try go_wp2
                                        have n0_ := Aside0.mk (blk_drew BK163.out)
                                        have n1_ := Aside0.mk (blk_drew BK167.out)
                                        have n2_ := Aside0.mk (below_drew1 HB.out)
                                        clear BK163
                                        clear BK167
                                        clear HB
                                        have BK163 := n0_
                                        have BK167 := n1_
                                        have HB := n2_
                                        clear n0_ n1_ n2_
                                        have p173 : 0 ≤ (x5_4 : Int) := of_decide_eq_true Da
                                        have q173 : x5_4 < (l0_2.length : Int) := of_decide_eq_true Da
                                        obtain ⟨ad173, e173, hx173_0, hx173_1, hx173_2, hx173_3, hx173_4, hx173_5, hx173_6⟩ := at_T34 HR0_2.out x5_4 p173 q173
                                        have hw173_6 := hx173_6
                                        have hw173_5 := hx173_5
                                        have hw173_4 := hx173_4
                                        have hw173_3 := hx173_3
                                        have hw173_2 := hx173_2
                                        have hw173_1 := hx173_1
                                        have hw173_0 := hx173_0
                                        (try rw [← Nbq51.out] at hx173_4); (try rw [← Nbq51.out] at hw173_4)
                                        (try rw [← Nbq51.out] at hx173_6); (try rw [← Nbq51.out] at hw173_6)
                                        obtain rfl : ad166 = ad173 := (by injection e173)
                                        replace hx173_0 := bz HB.out hx173_0
                                        replace hx173_1 := bz HB.out hx173_1
                                        replace hx173_2 := bz HB.out hx173_2
                                        replace hx173_3 := bz HB.out hx173_3
                                        replace hx173_4 := bz HB.out hx173_4
                                        replace hx173_5 := bz HB.out hx173_5
                                        replace hx173_6 := bz HB.out hx173_6
                                        replace p173 := eq_true p173
                                        replace q173 := eq_true q173
                                        have p174 : 0 ≤ (x5_4 : Int) := of_decide_eq_true Da
                                        have q174 : x5_4 < (l0_2.length : Int) := of_decide_eq_true Da
                                        obtain ⟨ad174, e174, hx174_0, hx174_1, hx174_2, hx174_3, hx174_4, hx174_5, hx174_6⟩ := at_T34 HR0_2.out x5_4 p174 q174
                                        have hw174_6 := hx174_6
                                        have hw174_5 := hx174_5
                                        have hw174_4 := hx174_4
                                        have hw174_3 := hx174_3
                                        have hw174_2 := hx174_2
                                        have hw174_1 := hx174_1
                                        have hw174_0 := hx174_0
                                        (try rw [← Nbq51.out] at hx174_4); (try rw [← Nbq51.out] at hw174_4)
                                        (try rw [← Nbq51.out] at hx174_6); (try rw [← Nbq51.out] at hw174_6)
                                        obtain rfl : ad166 = ad174 := (by injection e174)
                                        replace hx174_0 := bz HB.out hx174_0
                                        replace hx174_1 := bz HB.out hx174_1
                                        replace hx174_2 := bz HB.out hx174_2
                                        replace hx174_3 := bz HB.out hx174_3
                                        replace hx174_4 := bz HB.out hx174_4
                                        replace hx174_5 := bz HB.out hx174_5
                                        replace hx174_6 := bz HB.out hx174_6
                                        replace p174 := eq_true p174
                                        replace q174 := eq_true q174
                                        have p175 : 0 ≤ (x5_4 : Int) := of_decide_eq_true Da
                                        have q175 : x5_4 < (l0_2.length : Int) := of_decide_eq_true Da
                                        obtain ⟨ad175, e175, hx175_0, hx175_1, hx175_2, hx175_3, hx175_4, hx175_5, hx175_6⟩ := at_T34 HR0_2.out x5_4 p175 q175
                                        have hw175_6 := hx175_6
                                        have hw175_5 := hx175_5
                                        have hw175_4 := hx175_4
                                        have hw175_3 := hx175_3
                                        have hw175_2 := hx175_2
                                        have hw175_1 := hx175_1
                                        have hw175_0 := hx175_0
                                        (try rw [← Nbq51.out] at hx175_4); (try rw [← Nbq51.out] at hw175_4)
                                        (try rw [← Nbq51.out] at hx175_6); (try rw [← Nbq51.out] at hw175_6)
                                        obtain rfl : ad166 = ad175 := (by injection e175)
                                        replace hx175_0 := bz HB.out hx175_0
                                        replace hx175_1 := bz HB.out hx175_1
                                        replace hx175_2 := bz HB.out hx175_2
                                        replace hx175_3 := bz HB.out hx175_3
                                        replace hx175_4 := bz HB.out hx175_4
                                        replace hx175_5 := bz HB.out hx175_5
                                        replace hx175_6 := bz HB.out hx175_6
                                        replace p175 := eq_true p175
                                        replace q175 := eq_true q175
                                        refine start_ (n := 34) (S := fun w' => w'.cell? ⟨gb163, 0, none⟩ = some (.int .i64 a0_0) ∧ w'.cell? ⟨gb163, 1, none⟩ = some (.int .i64 a0_1) ∧ w'.cell? ⟨gb163, 2, none⟩ = some (.slice (some ad166) l0_2.length c0_2) ∧ w'.cell? ⟨gb167, 0, none⟩ = some (.int .i64 ((rd_T34 l0_2 x3_2).f0)) ∧ w'.cell? ⟨gb167, 1, none⟩ = some (.string ((rd_T34 l0_2 x3_2).f1)) ∧ w'.cell? ⟨gb167, 2, none⟩ = some (.string ((rd_T34 l0_2 x3_2).f2)) ∧ w'.cell? ⟨gb167, 3, none⟩ = some (.string ((rd_T34 l0_2 x3_2).f3)) ∧ w'.cell? ⟨gb167, 4, none⟩ = some (.bool ((rd_T34 l0_2 x3_2).f4)) ∧ w'.cell? ⟨gb167, 5, none⟩ = some (.int .i64 ((rd_T34 l0_2 x3_2).f5)) ∧ w'.cell? ⟨gb167, 6, none⟩ = some (.bool ((rd_T34 l0_2 x3_2).f6)) ∧ w'.cell? (ad166.add ((x5_4).toNat * 7)) = some (.int .i64 ((rd_T34 l0_2 x5_4).f0)) ∧ w'.cell? ⟨(ad166.add ((x5_4).toNat * 7)).block, (ad166.add ((x5_4).toNat * 7)).off + 1, none⟩ = some (.string ((rd_T34 l0_2 x5_4).f1)) ∧ w'.cell? ⟨(ad166.add ((x5_4).toNat * 7)).block, (ad166.add ((x5_4).toNat * 7)).off + 2, none⟩ = some (.string ((rd_T34 l0_2 x5_4).f2)) ∧ w'.cell? ⟨(ad166.add ((x5_4).toNat * 7)).block, (ad166.add ((x5_4).toNat * 7)).off + 3, none⟩ = some (.string ((rd_T34 l0_2 x5_4).f3)) ∧ w'.cell? ⟨(ad166.add ((x5_4).toNat * 7)).block, (ad166.add ((x5_4).toNat * 7)).off + 4, none⟩ = some (.bool ((rd_T34 l0_2 x5_4).f4)) ∧ w'.cell? ⟨(ad166.add ((x5_4).toNat * 7)).block, (ad166.add ((x5_4).toNat * 7)).off + 5, none⟩ = some (.int .i64 ((rd_T34 l0_2 x5_4).f5)) ∧ w'.cell? ⟨(ad166.add ((x5_4).toNat * 7)).block, (ad166.add ((x5_4).toNat * 7)).off + 6, none⟩ = some (.bool false) ∧ w'.cell? (ad166.add ((x5_4).toNat * 7)) = some (.int .i64 ((rd_T34 l0_2 x5_4).f0)) ∧ w'.cell? ⟨(ad166.add ((x5_4).toNat * 7)).block, (ad166.add ((x5_4).toNat * 7)).off + 1, none⟩ = some (.string ((rd_T34 l0_2 x5_4).f1)) ∧ w'.cell? ⟨(ad166.add ((x5_4).toNat * 7)).block, (ad166.add ((x5_4).toNat * 7)).off + 2, none⟩ = some (.string ((rd_T34 l0_2 x5_4).f2)) ∧ w'.cell? ⟨(ad166.add ((x5_4).toNat * 7)).block, (ad166.add ((x5_4).toNat * 7)).off + 3, none⟩ = some (.string ((rd_T34 l0_2 x5_4).f3)) ∧ w'.cell? ⟨(ad166.add ((x5_4).toNat * 7)).block, (ad166.add ((x5_4).toNat * 7)).off + 4, none⟩ = some (.bool ((rd_T34 l0_2 x5_4).f4)) ∧ w'.cell? ⟨(ad166.add ((x5_4).toNat * 7)).block, (ad166.add ((x5_4).toNat * 7)).off + 5, none⟩ = some (.int .i64 ((rd_T34 l0_2 x5_4).f5)) ∧ w'.cell? ⟨(ad166.add ((x5_4).toNat * 7)).block, (ad166.add ((x5_4).toNat * 7)).off + 6, none⟩ = some (.bool false) ∧ w'.cell? (ad166.add ((x5_4).toNat * 7)) = some (.int .i64 ((rd_T34 l0_2 x5_4).f0)) ∧ w'.cell? ⟨(ad166.add ((x5_4).toNat * 7)).block, (ad166.add ((x5_4).toNat * 7)).off + 1, none⟩ = some (.string ((rd_T34 l0_2 x5_4).f1)) ∧ w'.cell? ⟨(ad166.add ((x5_4).toNat * 7)).block, (ad166.add ((x5_4).toNat * 7)).off + 2, none⟩ = some (.string ((rd_T34 l0_2 x5_4).f2)) ∧ w'.cell? ⟨(ad166.add ((x5_4).toNat * 7)).block, (ad166.add ((x5_4).toNat * 7)).off + 3, none⟩ = some (.string ((rd_T34 l0_2 x5_4).f3)) ∧ w'.cell? ⟨(ad166.add ((x5_4).toNat * 7)).block, (ad166.add ((x5_4).toNat * 7)).off + 4, none⟩ = some (.bool ((rd_T34 l0_2 x5_4).f4)) ∧ w'.cell? ⟨(ad166.add ((x5_4).toNat * 7)).block, (ad166.add ((x5_4).toNat * 7)).off + 5, none⟩ = some (.int .i64 ((rd_T34 l0_2 x5_4).f5)) ∧ w'.cell? ⟨(ad166.add ((x5_4).toNat * 7)).block, (ad166.add ((x5_4).toNat * 7)).off + 6, none⟩ = some (.bool (false))) (ds := []) (bv 34 0) (by kernel_rfl) rfl rfl ⟨bc BK163.out 0, bc BK163.out 1, bc BK163.out 2, bc BK167.out 0, bc BK167.out 1, bc BK167.out 2, bc BK167.out 3, bc BK167.out 4, bc BK167.out 5, bc BK167.out 6, (bz HB.out hw173_0), (bz HB.out hw173_1), (bz HB.out hw173_2), (bz HB.out hw173_3), (bz HB.out hw173_4), (bz HB.out hw173_5), (bz HB.out hw173_6), (bz HB.out hw174_0), (bz HB.out hw174_1), (bz HB.out hw174_2), (bz HB.out hw174_3), (bz HB.out hw174_4), (bz HB.out hw174_5), (bz HB.out hw174_6), (bz HB.out hw175_0), (bz HB.out hw175_1), (bz HB.out hw175_2), (bz HB.out hw175_3), (bz HB.out hw175_4), (bz HB.out hw175_5), (bz HB.out hw175_6)⟩ (fun hHeld => ?_); refine with_tabW spec_TableRight.tab12 spec_TableRight.bits12 (fun HT_ HW_ => ?_)
                                        generalize wr.drew = w57 at BK163 BK167 HB hx173_0 hx173_1 hx173_2 hx173_3 hx173_4 hx173_5 hx173_6 hx174_0 hx174_1 hx174_2 hx174_3 hx174_4 hx174_5 hx174_6 hx175_0 hx175_1 hx175_2 hx175_3 hx175_4 hx175_5 hx175_6 hHeld ⊢
                                        refine pu 0 75 (bv 34 1) HT_.out (h := ?_)
                                        refine pu 2 77 (bv 34 5) HT_.out (h := ?_)
                                        refine pu 6 81 (bv 34 69) HT_.out (h := ?_)
                                        refine tk 1 76 (bv 34 71) HT_.out HW_.out hHeld (h := ?_)
                                        refine pu 3 78 (bv 34 79) HT_.out (h := ?_)
                                        refine pu 4 79 (bv 34 95) HT_.out (h := ?_)
                                        refine tk 5 80 (bv 34 127) HT_.out HW_.out hHeld (h := ?_)
                                        refine tk 7 82 (bv 34 255) HT_.out HW_.out hHeld (h := ?_)
                                        refine pu 8 83 (bv 34 511) HT_.out (h := ?_)
                                        refine pu 9 84 (bv 34 1023) HT_.out (h := ?_)
                                        refine pu 10 85 (bv 34 2047) HT_.out (h := ?_)
                                        refine pu 12 87 (bv 34 6143) HT_.out (h := ?_)
                                        refine tk 11 86 (bv 34 8191) HT_.out HW_.out hHeld (h := ?_)
                                        refine pu 13 88 (bv 34 16383) HT_.out (h := ?_)
                                        refine pu 14 89 (bv 34 32767) HT_.out (h := ?_)
                                        refine tk 15 90 (bv 34 65535) HT_.out HW_.out hHeld (h := ?_)
                                        refine pu 16 91 (bv 34 131071) HT_.out (h := ?_)
                                        refine pu 17 92 (bv 34 262143) HT_.out (h := ?_)
                                        refine pu 18 93 (bv 34 524287) HT_.out (h := ?_)
                                        refine tk 19 94 (bv 34 1048575) HT_.out HW_.out hHeld (h := ?_)
                                        refine pu 20 95 (bv 34 2097151) HT_.out (h := ?_)
                                        refine pu 21 96 (bv 34 4194303) HT_.out (h := ?_)
                                        refine pu 22 97 (bv 34 8388607) HT_.out (h := ?_)
                                        refine pu 23 98 (bv 34 16777215) HT_.out (h := ?_)
                                        refine pu 25 100 (bv 34 50331647) HT_.out (h := ?_)
                                        refine pu 29 104 (bv 34 587202559) HT_.out (h := ?_)
                                        refine tk 24 99 (bv 34 603979775) HT_.out HW_.out hHeld (h := ?_)
                                        refine pu 26 101 (bv 34 671088639) HT_.out (h := ?_)
                                        refine pu 27 102 (bv 34 805306367) HT_.out (h := ?_)
                                        refine tk 28 103 (bv 34 1073741823) HT_.out HW_.out hHeld (h := ?_)
                                        refine tk 30 105 (bv 34 2147483647) HT_.out HW_.out hHeld (h := ?_)
                                        refine pu 31 106 (bv 34 4294967295) HT_.out (h := ?_)
                                        refine pu 32 107 (bv 34 8589934591) HT_.out (h := ?_)
                                        refine pu 33 108 (bv 34 17179869183) HT_.out (h := ?_)
                                        refine done_ (done_of HT_.out (by kernel_rfl)) ?_
                                        try go_wp2
                                        go_ret
                                        exact ⟨Rf, By⟩
                                      · rw [if_neg c56] at H
                                        have c56b0 : (((rd_T34 l0_2 x5_4).f1).toList == ((rd_T34 l0_2 x3_2).f1).toList) = false := beq_eq_false_iff_ne.mpr c56
                                        have c56b1 : (((rd_T34 l0_2 x5_4).f1).toList != ((rd_T34 l0_2 x3_2).f1).toList) = true := bne_iff_ne.mpr c56
                                        have H' := Aside0.mk H
                                        clear H
                                        try go_wp2
                                        have n0_ := Aside0.mk (blk_drew BK163.out)
                                        have n1_ := Aside0.mk (blk_drew BK167.out)
                                        have n2_ := Aside0.mk (below_drew1 HB.out)
                                        clear BK163
                                        clear BK167
                                        clear HB
                                        have BK163 := n0_
                                        have BK167 := n1_
                                        have HB := n2_
                                        clear n0_ n1_ n2_
                                        have p173 : 0 ≤ (x5_4 : Int) := of_decide_eq_true Da
                                        have q173 : x5_4 < (l0_2.length : Int) := of_decide_eq_true Da
                                        obtain ⟨ad173, e173, hx173_0, hx173_1, hx173_2, hx173_3, hx173_4, hx173_5, hx173_6⟩ := at_T34 HR0_2.out x5_4 p173 q173
                                        have hw173_6 := hx173_6
                                        have hw173_5 := hx173_5
                                        have hw173_4 := hx173_4
                                        have hw173_3 := hx173_3
                                        have hw173_2 := hx173_2
                                        have hw173_1 := hx173_1
                                        have hw173_0 := hx173_0
                                        (try rw [← Nbq51.out] at hx173_4); (try rw [← Nbq51.out] at hw173_4)
                                        (try rw [← Nbq51.out] at hx173_6); (try rw [← Nbq51.out] at hw173_6)
                                        obtain rfl : ad166 = ad173 := (by injection e173)
                                        replace hx173_0 := bz HB.out hx173_0
                                        replace hx173_1 := bz HB.out hx173_1
                                        replace hx173_2 := bz HB.out hx173_2
                                        replace hx173_3 := bz HB.out hx173_3
                                        replace hx173_4 := bz HB.out hx173_4
                                        replace hx173_5 := bz HB.out hx173_5
                                        replace hx173_6 := bz HB.out hx173_6
                                        replace p173 := eq_true p173
                                        replace q173 := eq_true q173
                                        have p174 : 0 ≤ (x5_4 : Int) := of_decide_eq_true Da
                                        have q174 : x5_4 < (l0_2.length : Int) := of_decide_eq_true Da
                                        obtain ⟨ad174, e174, hx174_0, hx174_1, hx174_2, hx174_3, hx174_4, hx174_5, hx174_6⟩ := at_T34 HR0_2.out x5_4 p174 q174
                                        have hw174_6 := hx174_6
                                        have hw174_5 := hx174_5
                                        have hw174_4 := hx174_4
                                        have hw174_3 := hx174_3
                                        have hw174_2 := hx174_2
                                        have hw174_1 := hx174_1
                                        have hw174_0 := hx174_0
                                        (try rw [← Nbq51.out] at hx174_4); (try rw [← Nbq51.out] at hw174_4)
                                        (try rw [← Nbq51.out] at hx174_6); (try rw [← Nbq51.out] at hw174_6)
                                        obtain rfl : ad166 = ad174 := (by injection e174)
                                        replace hx174_0 := bz HB.out hx174_0
                                        replace hx174_1 := bz HB.out hx174_1
                                        replace hx174_2 := bz HB.out hx174_2
                                        replace hx174_3 := bz HB.out hx174_3
                                        replace hx174_4 := bz HB.out hx174_4
                                        replace hx174_5 := bz HB.out hx174_5
                                        replace hx174_6 := bz HB.out hx174_6
                                        replace p174 := eq_true p174
                                        replace q174 := eq_true q174
                                        have p175 : 0 ≤ (x5_4 : Int) := of_decide_eq_true Da
                                        have q175 : x5_4 < (l0_2.length : Int) := of_decide_eq_true Da
                                        obtain ⟨ad175, e175, hx175_0, hx175_1, hx175_2, hx175_3, hx175_4, hx175_5, hx175_6⟩ := at_T34 HR0_2.out x5_4 p175 q175
                                        have hw175_6 := hx175_6
                                        have hw175_5 := hx175_5
                                        have hw175_4 := hx175_4
                                        have hw175_3 := hx175_3
                                        have hw175_2 := hx175_2
                                        have hw175_1 := hx175_1
                                        have hw175_0 := hx175_0
                                        (try rw [← Nbq51.out] at hx175_4); (try rw [← Nbq51.out] at hw175_4)
                                        (try rw [← Nbq51.out] at hx175_6); (try rw [← Nbq51.out] at hw175_6)
                                        obtain rfl : ad166 = ad175 := (by injection e175)
                                        replace hx175_0 := bz HB.out hx175_0
                                        replace hx175_1 := bz HB.out hx175_1
                                        replace hx175_2 := bz HB.out hx175_2
                                        replace hx175_3 := bz HB.out hx175_3
                                        replace hx175_4 := bz HB.out hx175_4
                                        replace hx175_5 := bz HB.out hx175_5
                                        replace hx175_6 := bz HB.out hx175_6
                                        replace p175 := eq_true p175
                                        replace q175 := eq_true q175
                                        refine start_ (n := 34) (S := fun w' => w'.cell? ⟨gb163, 0, none⟩ = some (.int .i64 a0_0) ∧ w'.cell? ⟨gb163, 1, none⟩ = some (.int .i64 a0_1) ∧ w'.cell? ⟨gb163, 2, none⟩ = some (.slice (some ad166) l0_2.length c0_2) ∧ w'.cell? ⟨gb167, 0, none⟩ = some (.int .i64 ((rd_T34 l0_2 x3_2).f0)) ∧ w'.cell? ⟨gb167, 1, none⟩ = some (.string ((rd_T34 l0_2 x3_2).f1)) ∧ w'.cell? ⟨gb167, 2, none⟩ = some (.string ((rd_T34 l0_2 x3_2).f2)) ∧ w'.cell? ⟨gb167, 3, none⟩ = some (.string ((rd_T34 l0_2 x3_2).f3)) ∧ w'.cell? ⟨gb167, 4, none⟩ = some (.bool ((rd_T34 l0_2 x3_2).f4)) ∧ w'.cell? ⟨gb167, 5, none⟩ = some (.int .i64 ((rd_T34 l0_2 x3_2).f5)) ∧ w'.cell? ⟨gb167, 6, none⟩ = some (.bool ((rd_T34 l0_2 x3_2).f6)) ∧ w'.cell? (ad166.add ((x5_4).toNat * 7)) = some (.int .i64 ((rd_T34 l0_2 x5_4).f0)) ∧ w'.cell? ⟨(ad166.add ((x5_4).toNat * 7)).block, (ad166.add ((x5_4).toNat * 7)).off + 1, none⟩ = some (.string ((rd_T34 l0_2 x5_4).f1)) ∧ w'.cell? ⟨(ad166.add ((x5_4).toNat * 7)).block, (ad166.add ((x5_4).toNat * 7)).off + 2, none⟩ = some (.string ((rd_T34 l0_2 x5_4).f2)) ∧ w'.cell? ⟨(ad166.add ((x5_4).toNat * 7)).block, (ad166.add ((x5_4).toNat * 7)).off + 3, none⟩ = some (.string ((rd_T34 l0_2 x5_4).f3)) ∧ w'.cell? ⟨(ad166.add ((x5_4).toNat * 7)).block, (ad166.add ((x5_4).toNat * 7)).off + 4, none⟩ = some (.bool ((rd_T34 l0_2 x5_4).f4)) ∧ w'.cell? ⟨(ad166.add ((x5_4).toNat * 7)).block, (ad166.add ((x5_4).toNat * 7)).off + 5, none⟩ = some (.int .i64 ((rd_T34 l0_2 x5_4).f5)) ∧ w'.cell? ⟨(ad166.add ((x5_4).toNat * 7)).block, (ad166.add ((x5_4).toNat * 7)).off + 6, none⟩ = some (.bool false) ∧ w'.cell? (ad166.add ((x5_4).toNat * 7)) = some (.int .i64 ((rd_T34 l0_2 x5_4).f0)) ∧ w'.cell? ⟨(ad166.add ((x5_4).toNat * 7)).block, (ad166.add ((x5_4).toNat * 7)).off + 1, none⟩ = some (.string ((rd_T34 l0_2 x5_4).f1)) ∧ w'.cell? ⟨(ad166.add ((x5_4).toNat * 7)).block, (ad166.add ((x5_4).toNat * 7)).off + 2, none⟩ = some (.string ((rd_T34 l0_2 x5_4).f2)) ∧ w'.cell? ⟨(ad166.add ((x5_4).toNat * 7)).block, (ad166.add ((x5_4).toNat * 7)).off + 3, none⟩ = some (.string ((rd_T34 l0_2 x5_4).f3)) ∧ w'.cell? ⟨(ad166.add ((x5_4).toNat * 7)).block, (ad166.add ((x5_4).toNat * 7)).off + 4, none⟩ = some (.bool ((rd_T34 l0_2 x5_4).f4)) ∧ w'.cell? ⟨(ad166.add ((x5_4).toNat * 7)).block, (ad166.add ((x5_4).toNat * 7)).off + 5, none⟩ = some (.int .i64 ((rd_T34 l0_2 x5_4).f5)) ∧ w'.cell? ⟨(ad166.add ((x5_4).toNat * 7)).block, (ad166.add ((x5_4).toNat * 7)).off + 6, none⟩ = some (.bool false) ∧ w'.cell? (ad166.add ((x5_4).toNat * 7)) = some (.int .i64 ((rd_T34 l0_2 x5_4).f0)) ∧ w'.cell? ⟨(ad166.add ((x5_4).toNat * 7)).block, (ad166.add ((x5_4).toNat * 7)).off + 1, none⟩ = some (.string ((rd_T34 l0_2 x5_4).f1)) ∧ w'.cell? ⟨(ad166.add ((x5_4).toNat * 7)).block, (ad166.add ((x5_4).toNat * 7)).off + 2, none⟩ = some (.string ((rd_T34 l0_2 x5_4).f2)) ∧ w'.cell? ⟨(ad166.add ((x5_4).toNat * 7)).block, (ad166.add ((x5_4).toNat * 7)).off + 3, none⟩ = some (.string ((rd_T34 l0_2 x5_4).f3)) ∧ w'.cell? ⟨(ad166.add ((x5_4).toNat * 7)).block, (ad166.add ((x5_4).toNat * 7)).off + 4, none⟩ = some (.bool ((rd_T34 l0_2 x5_4).f4)) ∧ w'.cell? ⟨(ad166.add ((x5_4).toNat * 7)).block, (ad166.add ((x5_4).toNat * 7)).off + 5, none⟩ = some (.int .i64 ((rd_T34 l0_2 x5_4).f5)) ∧ w'.cell? ⟨(ad166.add ((x5_4).toNat * 7)).block, (ad166.add ((x5_4).toNat * 7)).off + 6, none⟩ = some (.bool (false))) (ds := []) (bv 34 0) (by kernel_rfl) rfl rfl ⟨bc BK163.out 0, bc BK163.out 1, bc BK163.out 2, bc BK167.out 0, bc BK167.out 1, bc BK167.out 2, bc BK167.out 3, bc BK167.out 4, bc BK167.out 5, bc BK167.out 6, (bz HB.out hw173_0), (bz HB.out hw173_1), (bz HB.out hw173_2), (bz HB.out hw173_3), (bz HB.out hw173_4), (bz HB.out hw173_5), (bz HB.out hw173_6), (bz HB.out hw174_0), (bz HB.out hw174_1), (bz HB.out hw174_2), (bz HB.out hw174_3), (bz HB.out hw174_4), (bz HB.out hw174_5), (bz HB.out hw174_6), (bz HB.out hw175_0), (bz HB.out hw175_1), (bz HB.out hw175_2), (bz HB.out hw175_3), (bz HB.out hw175_4), (bz HB.out hw175_5), (bz HB.out hw175_6)⟩ (fun hHeld => ?_); refine with_tabW spec_TableRight.tab12 spec_TableRight.bits12 (fun HT_ HW_ => ?_)
                                        generalize wr.drew = w58 at BK163 BK167 HB hx173_0 hx173_1 hx173_2 hx173_3 hx173_4 hx173_5 hx173_6 hx174_0 hx174_1 hx174_2 hx174_3 hx174_4 hx174_5 hx174_6 hx175_0 hx175_1 hx175_2 hx175_3 hx175_4 hx175_5 hx175_6 hHeld ⊢
                                        refine pu 0 75 (bv 34 1) HT_.out (h := ?_)
                                        refine pu 2 77 (bv 34 5) HT_.out (h := ?_)
                                        refine pu 6 81 (bv 34 69) HT_.out (h := ?_)
                                        refine tk 1 76 (bv 34 71) HT_.out HW_.out hHeld (h := ?_)
                                        refine pu 3 78 (bv 34 79) HT_.out (h := ?_)
                                        refine pu 4 79 (bv 34 95) HT_.out (h := ?_)
                                        refine tk 5 80 (bv 34 127) HT_.out HW_.out hHeld (h := ?_)
                                        refine tk 7 82 (bv 34 255) HT_.out HW_.out hHeld (h := ?_)
                                        refine pu 8 83 (bv 34 511) HT_.out (h := ?_)
                                        refine pu 9 84 (bv 34 1023) HT_.out (h := ?_)
                                        refine pu 10 85 (bv 34 2047) HT_.out (h := ?_)
                                        refine pu 12 87 (bv 34 6143) HT_.out (h := ?_)
                                        refine tk 11 86 (bv 34 8191) HT_.out HW_.out hHeld (h := ?_)
                                        refine pu 13 88 (bv 34 16383) HT_.out (h := ?_)
                                        refine pu 14 89 (bv 34 32767) HT_.out (h := ?_)
                                        refine tk 15 90 (bv 34 65535) HT_.out HW_.out hHeld (h := ?_)
                                        refine pu 16 91 (bv 34 131071) HT_.out (h := ?_)
                                        refine pu 17 92 (bv 34 262143) HT_.out (h := ?_)
                                        refine pu 18 93 (bv 34 524287) HT_.out (h := ?_)
                                        refine tk 19 94 (bv 34 1048575) HT_.out HW_.out hHeld (h := ?_)
                                        refine pu 20 95 (bv 34 2097151) HT_.out (h := ?_)
                                        refine pu 21 96 (bv 34 4194303) HT_.out (h := ?_)
                                        refine pu 22 97 (bv 34 8388607) HT_.out (h := ?_)
                                        refine pu 23 98 (bv 34 16777215) HT_.out (h := ?_)
                                        refine pu 25 100 (bv 34 50331647) HT_.out (h := ?_)
                                        refine pu 29 104 (bv 34 587202559) HT_.out (h := ?_)
                                        refine tk 24 99 (bv 34 603979775) HT_.out HW_.out hHeld (h := ?_)
                                        refine pu 26 101 (bv 34 671088639) HT_.out (h := ?_)
                                        refine pu 27 102 (bv 34 805306367) HT_.out (h := ?_)
                                        refine tk 28 103 (bv 34 1073741823) HT_.out HW_.out hHeld (h := ?_)
                                        refine tk 30 105 (bv 34 2147483647) HT_.out HW_.out hHeld (h := ?_)
                                        refine pu 31 106 (bv 34 4294967295) HT_.out (h := ?_)
                                        refine pu 32 107 (bv 34 8589934591) HT_.out (h := ?_)
                                        refine pu 33 108 (bv 34 17179869183) HT_.out (h := ?_)
                                        refine done_ (done_of HT_.out (by kernel_rfl)) ?_
                                        try go_wp2
                                        go_roundg k4
                                        case measure => have := HJ1.out; have := HK2.out; have := HJ13.out; have := HK4.out; omega
                                        case rel => exact ⟨(wrap64 (x5_4 + 1)), (by first | rfl | (simp; done) | (simp [*]; done)), H', ⟨by have := HJ1.out; have := HK2.out; have := HJ13.out; have := HK4.out; omega⟩, ⟨by (with_reducible repeat (first | refine blk_drewN ?_ _ | refine blk_drew ?_ | refine blk_alloc ?_ _)); exact BK163.out⟩, ⟨by (with_reducible repeat (first | refine blk_drewN ?_ _ | refine blk_drew ?_ | refine blk_alloc ?_ _)); exact BK167.out⟩, ⟨By⟩⟩
                              · rw [if_neg c48] at H
                                exact absurd H (by simp)
                            · rw [if_neg c47] at H
                              exact absurd H (by simp)
                          · rw [if_neg c46] at H
                            have c46b0 : decide (x5_4 < x3_2) = false := decide_eq_false c46
                            clear c46
                            have H' := Aside0.mk H
                            clear H
                            go_wp2
                            go_roundg k4
                            case measure => have := HJ1.out; have := HK2.out; have := HJ13.out; have := HK4.out; omega
                            case rel => exact ⟨(wrap64 (x3_2 + 1)), (by first | rfl | (simp; done) | (simp [*]; done)), H', ⟨by have := HJ1.out; have := HK2.out; have := HJ13.out; have := HK4.out; omega⟩, ⟨by (with_reducible repeat (first | refine blk_drewN ?_ _ | refine blk_drew ?_ | refine blk_alloc ?_ _)); exact BK163.out⟩, ⟨By⟩⟩
              · rw [if_neg c13] at H
                exact absurd H (by simp)
            · rw [if_neg c12] at H
              have c12b0 : decide (x3_2 < (l0_2.length : Int)) = false := decide_eq_false c12
              clear c12
              obtain rfl := Option.some.inj H
              have hcz59_0 : wr.cell? ⟨gb163, 0, none⟩ = some (.int .i64 a0_0) := bc BK163.out 0
              have hcz59_1 : wr.cell? ⟨gb163, 1, none⟩ = some (.int .i64 a0_1) := bc BK163.out 1
              have hcz59_2 : wr.cell? ⟨gb163, 2, none⟩ = some (.slice A0_2 l0_2.length c0_2) := bc BK163.out 2
              have hfz59_0 := blk_frozen BK163.out 0
              have hfz59_1 := blk_frozen BK163.out 1
              have hfz59_2 := blk_frozen BK163.out 2
              go_wp2
              go_ret
              exact ⟨Rf, By⟩

set_option linter.unusedVariables false
set_option linter.unusedSimpArgs false

/-! ### spec_l12Copy: function 67 -/
def spec_l12Copy.f (a0_0 : Int) (a0_1 : Int) (l0_2 : List (S34)) : Option (Int × Int × (List (S34))) := (some (([] : List (S34)) : List (S34))).bind fun y178 => (if y178.length + l0_2.length < 1759218604441 then (some (a0_0, a0_1, (y178 ++ l0_2))) else (none))
set_option maxHeartbeats 8000000 in
set_option maxRecDepth 100000 in
theorem spec_l12Copy.calls (a0_0 : Int) (a0_1 : Int) (A0_2 : Option Addr) (c0_2 : Nat) (l0_2 : List (S34)) (r1 : Int) (r2 : Int) (r3 : List (S34)) (w : World) (hr0_2 : Kd.C k34 w A0_2 l0_2.length l0_2) (hc0_2 : l0_2.length ≤ c0_2) (h : spec_l12Copy.f a0_0 a0_1 l0_2 = some (r1, r2, r3)) :
    Calls Tryd.prog 67 #[.agg #[.int .i64 a0_0, .int .i64 a0_1, .slice A0_2 l0_2.length c0_2]] w fun e w' => ∃ v2_ : Value, e = .returned (.agg #[.int .i64 r1, .int .i64 r2, v2_]) ∧ Kd.R k34 34 w' w.heap.size (fun _ => True) v2_ r3 ∧ Below w.heap.size w w' := by
  have hu38 := Tryd.underlying38
  have HR0_2 := Aside0.mk hr0_2
  have HC0_2 := Aside0.mk hc0_2
  clear hr0_2 hc0_2
  have HB := Aside0.mk (Below.refl w.heap.size w)
  have H : ((some (([] : List (S34)) : List (S34))).bind fun y178 => (if y178.length + l0_2.length < 1759218604441 then (some (a0_0, a0_1, (y178 ++ l0_2))) else (none))) = some (r1, r2, r3) := h
  clear h
  obtain ⟨y178, hy178⟩ : ∃ y_ : List (S34), y_ = (([] : List (S34))) := ⟨_, rfl⟩
  replace H : (if y178.length + l0_2.length < 1759218604441 then (some (a0_0, a0_1, (y178 ++ l0_2))) else (none)) = some (r1, r2, r3) := by first | (rw [hy178]; with_reducible exact H) | (have H2_ := (Option.bind_some _ _).symm.trans H; rw [hy178]; with_reducible exact H2_) | (have H2_ := (Option.bind_some _ _).symm.trans H; with_reducible exact H2_) | with_reducible exact H | (rw [hy178]; exact H) | exact H
  have Ny178 := Aside0.mk hy178
  clear hy178
  by_cases c2 : y178.length + l0_2.length < 1759218604441
  · rw [if_pos c2] at H
    have LMc2 := Aside0.mk c2
    clear c2
    obtain ⟨y181, hy181⟩ : ∃ y_ : List (S34), y_ = (y178 ++ l0_2) := ⟨_, rfl⟩
    replace H : (some (a0_0, a0_1, y181)) = some (r1, r2, r3) := by first | (rw [hy181]; with_reducible exact H) | (have H2_ := (Option.bind_some _ _).symm.trans H; rw [hy181]; with_reducible exact H2_) | (have H2_ := (Option.bind_some _ _).symm.trans H; with_reducible exact H2_) | with_reducible exact H | (rw [hy181]; exact H) | exact H
    have Ny181 := Aside0.mk hy181
    clear hy181
    simp only [Option.some.injEq, Prod.mk.injEq] at H
    obtain ⟨rfl, rfl, rfl⟩ := H
    go_enter Tryd.func67, Tryd.ntmps67
    go_wp2_with (first | ((with_reducible refine gate_dst (N := 1) rfl ?_); refine box_event ?hg (N := 1) ?hd (cs := #[.int .i64 a0_0, .int .i64 a0_1, .slice A0_2 l0_2.length c0_2]) (t := 38) ?hr ?_; (case hd => rfl); (case hg => rfl); (case hr => first | (go_simp; done) | (go_simp; rfl)); intro gb176 hg w3 hbox hb; have n0_ := Aside0.mk (below_step By hb); have n1_ := Aside0.mk (hbox); have n2_ := Aside0.mk ((by rw [hg]; exact (below_size By) : w.heap.size ≤ gb176)); have n3_ := Aside0.mk ((by rw [hg]; exact (below_size By) : w.heap.size ≤ gb176)); clear HB; have HB := n0_; have BK176 := n1_; have GW176 := n2_; have GE176 := n3_; clear n0_ n1_ n2_ n3_; clear hb hbox hg) | ((with_reducible refine gate_dst (N := 2) rfl ?_); refine box_event ?hg (N := 2) ?hd (cs := #[.int .i64 0, .int .i64 0, .slice none 0 0]) (t := 38) ?hr ?_; (case hd => rfl); (case hg => rfl); (case hr => first | (go_simp; done) | (go_simp; rfl)); intro gb177 hg w4 hbox hb; have n0_ := Aside0.mk (bb BK176.out hb); have n1_ := Aside0.mk (below_step By hb); have n2_ := Aside0.mk (hbox); have n3_ := Aside0.mk ((by rw [hg]; exact (below_size By) : w.heap.size ≤ gb177)); have n4_ := Aside0.mk ((by rw [hg]; exact (below_size By) : w.heap.size ≤ gb177)); have n5_ := Aside0.mk ((by rw [hg]; exact Nat.ne_of_lt (bl BK176.out) : gb176 ≠ gb177)); have n6_ := Aside0.mk ((by rw [hg]; exact Nat.ne_of_gt (bl BK176.out) : gb177 ≠ gb176)); clear BK176; clear HB; have BK176 := n0_; have HB := n1_; have BK177 := n2_; have GW177 := n3_; have GE177 := n4_; have NB176_177 := n5_; have NB177_176 := n6_; clear n0_ n1_ n2_ n3_ n4_ n5_ n6_; clear hb hbox hg) | ((with_reducible refine gate_dst (N := 3) rfl ?_); refine Kd.R_lit k34 _ 34 ?hg (N := 3) ?hd (xs := ([] : List (S34))) (inner := []) (ok := fun _ => True) (okp := fun _ => True) ?hr ?hp (fun _ hk => hk) trivial (Below.refl _ _) (Nat.le_refl _) (by simp) ?_; (case hd => rfl); (case hg => rfl); (case hr => first | (go_simp; done) | (go_simp; rfl)); (case hp => exact (Reps.none _ _)); intro v179 w5 ho6 hb hg_ hnew_; clear hg_ hnew_; (first | rw [← Ny178.out] at ho6 | (simp only [Int.reduceToNat] at ho6; rw [← Ny178.out] at ho6)); have n0_ := Aside0.mk (Kd.R_lower ho6 (below_size By)); have n1_ := Aside0.mk (bb BK176.out hb); have n2_ := Aside0.mk (bb BK177.out hb); have n3_ := Aside0.mk (below_step By hb); clear BK176; clear BK177; clear HB; have HO180 := n0_; have BK176 := n1_; have BK177 := n2_; have HB := n3_; clear n0_ n1_ n2_ n3_; clear hb ho6; have hnb7 := NB176_177.out; have hnc7 := NB177_176.out; have ⟨hcz8_0, hcz8_1, hcz8_2⟩ := cq3 BK176.out; have ⟨hfz8_0, hfz8_1, hfz8_2⟩ := fq3 BK176.out) | ((with_reducible refine gate_builtin (b := .append) (xs := #[.tmp 3, .tmp 5]) rfl ?_); at_builtin; refine Kd.R_append_rows k34 (w0 := w) w.heap.size rfl (.tmp 3) (.tmp 5) 36 34 (.agg #[(.int .i64 0), (.string ⟨#[]⟩), (.string ⟨#[]⟩), (.string ⟨#[]⟩), (.bool false), (.int .i64 0), (.bool false)]) 80 rfl Tryd.underlying36 info34 rfl (by decide) (by omega) v179 y178 l0_2 _ _ _ (fun _ => True) (fun _ => False) rfl rfl ?aO ?aR (fun _ _ h => h) (fun _ h => h.elim) ?aF ?aB ?aS ?aL ?_; (case aR => exact rC (Kd.C_below HR0_2.out HB.out)); (case aB => exact By); (case aF => exact (fun _ _ => trivial)); (case aO => exact (rR HO180.out)); (case aS => exact (below_size By)); (case aL => have := LMc2.out; omega); intro v182 w9 ho hb hg hat; rw [← Ny181.out] at ho; have n0_ := Aside0.mk (blk_grown (g := gb176) (o := .cells #[.int .i64 a0_0, .int .i64 a0_1, .slice A0_2 l0_2.length c0_2] 38 (0, 0)) Pk hg (Kd.R_ne HO180.out BK176.out (by decide))); have n1_ := Aside0.mk (blk_grown (g := gb177) (o := .cells #[.int .i64 0, .int .i64 0, .slice none 0 0] 38 (0, 0)) Pk hg (Kd.R_ne HO180.out BK177.out (by decide))); have n2_ := Aside0.mk (hb); have n3_ := Aside0.mk (ho); clear BK176; clear BK177; clear HB; clear HO180; have BK176 := n0_; have BK177 := n1_; have HB := n2_; have HO183 := n3_; clear n0_ n1_ n2_ n3_; clear ho hb hg hat; obtain ⟨Ao10, co10, eo10⟩ := Kd.R_slice HO183.out; subst eo10; have ⟨hcz11_0, hcz11_1, hcz11_2⟩ := cq3 BK176.out; have ⟨hfz11_0, hfz11_1, hfz11_2⟩ := fq3 BK176.out; have ⟨hcz12_0, hcz12_1, hcz12_2⟩ := cq3 BK177.out; have ⟨hfz12_0, hfz12_1, hfz12_2⟩ := fq3 BK177.out))
    refine bodyPost_ret (results_cell_row rfl _ _ gb177 38 #[.int .i64 a0_0, .int .i64 a0_1, .slice Ao10 y181.length co10] (0, 0) _ rfl (by (with_reducible repeat (first | refine blk_drewN ?_ _ | refine blk_drew ?_ | refine blk_alloc ?_ _)); refine blk_put (cs := #[.int .i64 a0_0, .int .i64 a0_1, .slice none 0 0]) ?_ 2 _ rfl; (with_reducible repeat (first | refine blk_drewN ?_ _ | refine blk_drew ?_ | refine blk_alloc ?_ _)); refine blk_put (cs := #[.int .i64 a0_0, .int .i64 0, .slice none 0 0]) ?_ 1 _ rfl; (with_reducible repeat (first | refine blk_drewN ?_ _ | refine blk_drew ?_ | refine blk_alloc ?_ _)); refine blk_put (cs := #[.int .i64 0, .int .i64 0, .slice none 0 0]) ?_ 0 _ rfl; (with_reducible repeat (first | refine blk_drewN ?_ _ | refine blk_drew ?_ | refine blk_alloc ?_ _)); refine blk_far ?_ NB177_176.out _; (with_reducible repeat (first | refine blk_drewN ?_ _ | refine blk_drew ?_ | refine blk_alloc ?_ _)); exact BK177.out) Tryd.underlying38 rfl (by kernel_rfl)) rfl ?_
    exact ⟨_, Rf, by (with_reducible repeat (first | apply Kd.R_alloc | apply Kd.R_drewN | apply Kd.R_drew)); exact Kd.R_mono (Kd.R_far (p := ⟨gb177, 2, none⟩) (Kd.R_far (p := ⟨gb177, 1, none⟩) (Kd.R_far (p := ⟨gb177, 0, none⟩) (Kd.R_far (p := ⟨gb176, 2, none⟩) (Kd.R_types (Kd.R_types HO183.out BK176.out (by decide)) BK177.out (by decide)) (fun _ hk => hk.1.2) (.slice Ao10 y181.length co10)) (fun _ hk => hk.2) (.int .i64 a0_0)) (fun _ hk => hk.2) (.int .i64 a0_1)) (fun _ hk => hk.2) (.slice Ao10 y181.length co10)) (fun _ hk => trivial), By⟩
  · rw [if_neg c2] at H
    exact absurd H (by simp)

set_option linter.unusedVariables false
set_option linter.unusedSimpArgs false

/-! ### spec_TablePurge: function 25 -/
def spec_TablePurge.l0 : Nat → Int → Int → Int → Int → List (S34) → Int → Int → List (S34) → Option (Int × Int × (List (S34)))
  | 0, _, _, _, _, _, _, _, _ => none
  | k + 1, x1, x6, x185000, x185001, x185002, x192000, x192001, x192002 => if x6 < (x185002.length : Int) then (if 0 ≤ x6 then (if ((rd_T34 x185002 x6).f6 = true) then (if ((rd_T34 x185002 x6).f5) > x1 then (if x192002.length < 1759218604441 then (spec_TablePurge.l0 k x1 (wrap64 (x6 + 1)) x185000 x185001 x185002 x192000 x192001 (x192002 ++ [(⟨(rd_T34 x185002 x6).f0, (rd_T34 x185002 x6).f1, (rd_T34 x185002 x6).f2, (rd_T34 x185002 x6).f3, (rd_T34 x185002 x6).f4, (rd_T34 x185002 x6).f5, (rd_T34 x185002 x6).f6⟩ : S34)])) else (none)) else (spec_TablePurge.l0 k x1 (wrap64 (x6 + 1)) x185000 x185001 x185002 x192000 x192001 x192002)) else (if x192002.length < 1759218604441 then (spec_TablePurge.l0 k x1 (wrap64 (x6 + 1)) x185000 x185001 x185002 x192000 x192001 (x192002 ++ [(⟨(rd_T34 x185002 x6).f0, (rd_T34 x185002 x6).f1, (rd_T34 x185002 x6).f2, (rd_T34 x185002 x6).f3, (rd_T34 x185002 x6).f4, (rd_T34 x185002 x6).f5, (rd_T34 x185002 x6).f6⟩ : S34)])) else (none))) else (none)) else (some (x192000, x192001, x192002))
def spec_TablePurge.f (k : Nat) (a0_0 : Int) (a0_1 : Int) (l0_2 : List (S34)) (a1 : Int) : Option (Int × Int × (List (S34))) := (spec_l12Copy.f a0_0 a0_1 l0_2).bind fun bt186 => ((spec_TableRight.f k a0_0 a0_1 l0_2).bind fun t192 => (if t192 = true then (spec_TablePurge.l0 k a1 0 a0_0 a0_1 l0_2 bt186.1 bt186.2.1 ([] : List (S34))) else (some (bt186.1, bt186.2.1, bt186.2.2))))
theorem spec_TablePurge.mono_l : ∀ k, (∀ y0 y1 y2 y3 y4 y5 y6 y7, LeO (spec_TablePurge.l0 k y0 y1 y2 y3 y4 y5 y6 y7) (spec_TablePurge.l0 (k + 1) y0 y1 y2 y3 y4 y5 y6 y7))
  | 0 => fun _ _ _ _ _ _ _ _ r h => by simp [spec_TablePurge.l0] at h
  | k + 1 => by
    have ih0 := spec_TablePurge.mono_l k
    · intro y0 y1 y2 y3 y4 y5 y6 y7
      unfold spec_TablePurge.l0
      repeat' first
      | (with_reducible exact ih0 _ _ _ _ _ _ _ _)
      | (with_reducible exact spec_TableRight.mono _ _ _ _)
      | (with_reducible exact LeO.refl _)
      | (with_reducible exact LeO.none _)
      | (with_reducible refine LeO.ite ?_ ?_)
      | (with_reducible refine LeO.bind ?_ (fun _ => ?_))
      | exact ih0 _ _ _ _ _ _ _ _
      | exact spec_TableRight.mono _ _ _ _
      | exact LeO.none _
      | refine LeO.ite ?_ ?_
      | refine LeO.bind ?_ (fun _ => ?_)
theorem spec_TablePurge.mono : ∀ a0 a1 a2 a3 k, LeO (spec_TablePurge.f k a0 a1 a2 a3) (spec_TablePurge.f (k + 1) a0 a1 a2 a3) := by
  intro a0 a1 a2 a3 k
  have ih0 := spec_TablePurge.mono_l k
  unfold spec_TablePurge.f
  repeat' first
      | (with_reducible exact ih0 _ _ _ _ _ _ _ _)
      | (with_reducible exact spec_TableRight.mono _ _ _ _)
      | (with_reducible exact LeO.refl _)
      | (with_reducible exact LeO.none _)
      | (with_reducible refine LeO.ite ?_ ?_)
      | (with_reducible refine LeO.bind ?_ (fun _ => ?_))
      | exact ih0 _ _ _ _ _ _ _ _
      | exact spec_TableRight.mono _ _ _ _
      | exact LeO.none _
      | refine LeO.ite ?_ ?_
      | refine LeO.bind ?_ (fun _ => ?_)
def spec_TablePurge.T9 : Bool × List (List Nat × List Nat) := (true, [([], []), ([0], [0]), ([], []), ([2], [2]), ([], []), ([3, 4], [3, 4]), ([5], [5]), ([6], [6]), ([1, 7], [1, 7]), ([0, 1, 2, 3, 4, 5, 6, 7, 8], []), ([9, 8, 8, 0, 1, 2, 3, 4, 5, 6, 7, 8], [8, 9])])
def spec_TablePurge.B9 : List Nat := [0, 1, 0, 4, 0, 28, 60, 124, 255, 511, 1023]
theorem spec_TablePurge.tab9 : rtab .any (opsOf Tryd.f25 9) = spec_TablePurge.T9 := by kernel_rfl
theorem spec_TablePurge.bits9 : waitsOk spec_TablePurge.T9.2 spec_TablePurge.B9 = true := by kernel_rfl
set_option maxHeartbeats 8000000 in
set_option maxRecDepth 100000 in
theorem spec_TablePurge.calls (k : Nat) (a0_0 : Int) (a0_1 : Int) (A0_2 : Option Addr) (c0_2 : Nat) (l0_2 : List (S34)) (a1 : Int) (r1 : Int) (r2 : Int) (r3 : List (S34)) (w : World) (hr0_2 : Kd.C k34 w A0_2 l0_2.length l0_2) (hc0_2 : l0_2.length ≤ c0_2) (h : spec_TablePurge.f k a0_0 a0_1 l0_2 a1 = some (r1, r2, r3)) :
    Calls Tryd.prog 25 #[.agg #[.int .i64 a0_0, .int .i64 a0_1, .slice A0_2 l0_2.length c0_2], .int .i64 a1] w fun e w' => ∃ v2_ : Value, e = .returned (.agg #[.int .i64 r1, .int .i64 r2, v2_]) ∧ Kd.R k34 34 w' w.heap.size (fun _ => True) v2_ r3 ∧ Below w.heap.size w w' := by
  have hu38 := Tryd.underlying38
  have hu34 := Tryd.underlying34
  have HR0_2 := Aside0.mk hr0_2
  have HC0_2 := Aside0.mk hc0_2
  clear hr0_2 hc0_2
  have HB := Aside0.mk (Below.refl w.heap.size w)
  have H : ((spec_l12Copy.f a0_0 a0_1 l0_2).bind fun bt186 => ((spec_TableRight.f k a0_0 a0_1 l0_2).bind fun t192 => (if t192 = true then (spec_TablePurge.l0 k a1 0 a0_0 a0_1 l0_2 bt186.1 bt186.2.1 ([] : List (S34))) else (some (bt186.1, bt186.2.1, bt186.2.2))))) = some (r1, r2, r3) := h
  clear h
  replace H := Option.bind_eq_some_iff.mp H
  obtain ⟨⟨t186, t187, t188⟩, A30, H⟩ := H
  replace H : ((spec_TableRight.f k a0_0 a0_1 l0_2).bind fun t192 => (if t192 = true then (spec_TablePurge.l0 k a1 0 a0_0 a0_1 l0_2 t186 t187 ([] : List (S34))) else (some (t186, t187, t188)))) = some (r1, r2, r3) := H
  have A3 := Aside0.mk A30
  clear A30
  replace H := Option.bind_eq_some_iff.mp H
  obtain ⟨t192, A40, H⟩ := H
  replace H : (if t192 = true then (spec_TablePurge.l0 k a1 0 a0_0 a0_1 l0_2 t186 t187 ([] : List (S34))) else (some (t186, t187, t188))) = some (r1, r2, r3) := H
  have A4 := Aside0.mk A40
  clear A40
  by_cases c5 : t192 = true
  · subst c5
    have H1 : (spec_TablePurge.l0 k a1 0 a0_0 a0_1 l0_2 t186 t187 ([] : List (S34))) = some (r1, r2, r3) := by rw [if_pos rfl] at H; exact H
    clear H
    have H := H1
    clear H1
    have H' := Aside0.mk H
    clear H
    go_enter Tryd.func25, Tryd.ntmps25
    go_wp2_with (first | ((with_reducible refine gate_dst (N := 2) rfl ?_); refine box_event ?hg (N := 2) ?hd (cs := #[.int .i64 a0_0, .int .i64 a0_1, .slice A0_2 l0_2.length c0_2]) (t := 38) ?hr ?_; (case hd => rfl); (case hg => rfl); (case hr => first | (go_simp; done) | (go_simp; rfl)); intro gb184 hg w6 hbox hb; have n0_ := Aside0.mk (below_step By hb); have n1_ := Aside0.mk (hbox); have n2_ := Aside0.mk ((by rw [hg]; exact (below_size By) : w.heap.size ≤ gb184)); have n3_ := Aside0.mk ((by rw [hg]; exact (below_size By) : w.heap.size ≤ gb184)); clear HB; have HB := n0_; have BK184 := n1_; have GW184 := n2_; have GE184 := n3_; clear n0_ n1_ n2_ n3_; clear hb hbox hg) | ((with_reducible refine gate_dst (N := 4) rfl ?_); refine box_event ?hg (N := 4) ?hd (cs := #[.int .i64 0, .int .i64 0, .slice none 0 0]) (t := 38) ?hr ?_; (case hd => rfl); (case hg => rfl); (case hr => first | (go_simp; done) | (go_simp; rfl)); intro gb185 hg w7 hbox hb; have n0_ := Aside0.mk (bb BK184.out hb); have n1_ := Aside0.mk (below_step By hb); have n2_ := Aside0.mk (hbox); have n3_ := Aside0.mk ((by rw [hg]; exact (below_size By) : w.heap.size ≤ gb185)); have n4_ := Aside0.mk ((by rw [hg]; exact (below_size By) : w.heap.size ≤ gb185)); have n5_ := Aside0.mk ((by rw [hg]; exact Nat.ne_of_lt (bl BK184.out) : gb184 ≠ gb185)); have n6_ := Aside0.mk ((by rw [hg]; exact Nat.ne_of_gt (bl BK184.out) : gb185 ≠ gb184)); clear BK184; clear HB; have BK184 := n0_; have HB := n1_; have BK185 := n2_; have GW185 := n3_; have GE185 := n4_; have NB184_185 := n5_; have NB185_184 := n6_; clear n0_ n1_ n2_ n3_ n4_ n5_ n6_; clear hb hbox hg; have hnb8 := NB184_185.out; have hnc8 := NB185_184.out; have ⟨hcz9_0, hcz9_1, hcz9_2⟩ := cq3 BK184.out; have ⟨hfz9_0, hfz9_1, hfz9_2⟩ := fq3 BK184.out) | ((with_reducible refine gate_callee (f := 67) rfl ?_); refine goesL_ (some 8) rfl rfl Tryd.func67 (by kernel_rfl) rfl #[.agg #[.int .i64 a0_0, .int .i64 a0_1, .slice A0_2 l0_2.length c0_2]] rfl Ag ?_; (with_reducible refine (spec_l12Copy.calls a0_0 a0_1 _ _ l0_2 t186 t187 t188 _ ?side1 ?side2 A3.out).mono ?_); (case side1 => exact rC (Kd.C_below HR0_2.out HB.out)); (case side2 => exact HC0_2.out); rintro e w10 ⟨v189, rfl, ho0, hb⟩; refine ⟨_, rfl, ?_⟩; have n0_ := Aside0.mk (Kd.R_lower ho0 (below_size By)); have n1_ := Aside0.mk (bb BK184.out hb); have n2_ := Aside0.mk (bb BK185.out hb); have n3_ := Aside0.mk (below_step By hb); clear BK184; clear BK185; clear HB; have HO190 := n0_; have BK184 := n1_; have BK185 := n2_; have HB := n3_; clear n0_ n1_ n2_ n3_; (try clear hb); (try clear hb2); (try clear hk); (try clear hi); (try clear ho0)) | ((with_reducible refine gate_dst (N := 5) rfl ?_); refine box_event ?hg (N := 5) ?hd (cs := #[.int .i64 0, .int .i64 0, .slice none 0 0]) (t := 38) ?hr ?_; (case hd => rfl); (case hg => rfl); (case hr => first | (go_simp; done) | (go_simp; rfl)); intro gb191 hg w11 hbox hb; have n0_ := Aside0.mk (Kd.R_below (rR HO190.out) hb); have n1_ := Aside0.mk (bb BK184.out hb); have n2_ := Aside0.mk (bb BK185.out hb); have n3_ := Aside0.mk (below_step By hb); have n4_ := Aside0.mk (hbox); have n5_ := Aside0.mk ((by rw [hg]; exact (below_size By) : w.heap.size ≤ gb191)); have n6_ := Aside0.mk ((by rw [hg]; exact (below_size By) : w.heap.size ≤ gb191)); have n7_ := Aside0.mk ((by rw [hg]; exact Nat.ne_of_lt (bl BK184.out) : gb184 ≠ gb191)); have n8_ := Aside0.mk ((by rw [hg]; exact Nat.ne_of_gt (bl BK184.out) : gb191 ≠ gb184)); have n9_ := Aside0.mk ((by rw [hg]; exact Nat.ne_of_lt (bl BK185.out) : gb185 ≠ gb191)); have n10_ := Aside0.mk ((by rw [hg]; exact Nat.ne_of_gt (bl BK185.out) : gb191 ≠ gb185)); clear HO190; clear BK184; clear BK185; clear HB; have HO190 := n0_; have BK184 := n1_; have BK185 := n2_; have HB := n3_; have BK191 := n4_; have GW191 := n5_; have GE191 := n6_; have NB184_191 := n7_; have NB191_184 := n8_; have NB185_191 := n9_; have NB191_185 := n10_; clear n0_ n1_ n2_ n3_ n4_ n5_ n6_ n7_ n8_ n9_ n10_; clear hb hbox hg; have hnb12 := NB191_184.out; have hnc12 := NB184_191.out; have hnb13 := NB191_185.out; have hnc13 := NB185_191.out; have ⟨hcz14_0, hcz14_1, hcz14_2⟩ := cq3 BK191.out; have ⟨hfz14_0, hfz14_1, hfz14_2⟩ := fq3 BK191.out; obtain ⟨Ao15, co15, eo15⟩ := Kd.R_slice HO190.out; subst eo15; have ⟨hcz16_0, hcz16_1, hcz16_2⟩ := cq3 BK184.out; have ⟨hfz16_0, hfz16_1, hfz16_2⟩ := fq3 BK184.out) | ((with_reducible refine gate_callee (f := 58) rfl ?_); refine goesL_ (some 10) rfl rfl Tryd.func58 (by kernel_rfl) rfl #[.agg #[.int .i64 a0_0, .int .i64 a0_1, .slice A0_2 l0_2.length c0_2]] rfl Ag ?_; (with_reducible refine (spec_TableRight.calls k a0_0 a0_1 _ _ l0_2 true _ ?side1 ?side2 A4.out).mono ?_); (case side1 => exact Kd.C_below HR0_2.out By); (case side2 => exact HC0_2.out); rintro e w17 ⟨rfl, hb⟩; refine ⟨_, rfl, ?_⟩; have n0_ := Aside0.mk (Kd.R_below (by (with_reducible repeat (first | apply Kd.R_alloc | apply Kd.R_drewN | apply Kd.R_drew)); exact (Kd.R_mono (Kd.R_far (p := ⟨gb191, 2, none⟩) (Kd.R_far (p := ⟨gb191, 1, none⟩) (Kd.R_far (p := ⟨gb191, 0, none⟩) (Kd.R_types HO190.out BK191.out (by decide)) (fun _ hk => hk.2) (.int .i64 t186)) (fun _ hk => hk.2) (.int .i64 t187)) (fun _ hk => hk.2) (.slice Ao15 t188.length co15)) (fun _ h_ => h_.1))) hb); have n1_ := Aside0.mk (bf BK184.out hb); have n2_ := Aside0.mk (bf BK185.out hb); have n3_ := Aside0.mk (blk_below (g := gb191) (o := .cells #[.int .i64 t186, .int .i64 t187, .slice Ao15 t188.length co15] 38 (0, 0)) (pq3 Pk) hb); have n4_ := Aside0.mk (below_step By hb); clear HO190; clear BK184; clear BK185; clear BK191; clear HB; have HO190 := n0_; have BK184 := n1_; have BK185 := n2_; have BK191 := n3_; have HB := n4_; clear n0_ n1_ n2_ n3_ n4_; (try clear hb); (try clear hb2); (try clear hk); (try clear hi); have ⟨hcz18_0, hcz18_1, hcz18_2⟩ := cq3 BK191.out; have ⟨hfz18_0, hfz18_1, hfz18_2⟩ := fq3 BK191.out))
    go_loopg [6] k (fun kq v6 w' => ∃ (x6_1 : Int) (x192002_1 : List (S34)) (u192002 : Value), v6 = .int .i64 x6_1 ∧ Aside0 (spec_TablePurge.l0 kq a1 x6_1 a0_0 a0_1 l0_2 t186 t187 x192002_1 = some (r1, r2, r3)) ∧ Aside0 (kq ≤ k) ∧ Aside0 (Kd.R k34 34 w' w.heap.size (fun _ => True) u192002 x192002_1) ∧ Aside0 (w'.heap[gb184]? = some (.cells #[.int .i64 a0_0, .int .i64 a0_1, (.slice A0_2 l0_2.length c0_2)] 38 (0, 0))) ∧ Aside0 (w'.heap[gb185]? = some (.cells #[.int .i64 0, .int .i64 0, (.slice none 0 0)] 38 (0, 0))) ∧ Aside0 (w'.heap[gb191]? = some (.cells #[.int .i64 t186, .int .i64 t187, u192002] 38 (0, 0))) ∧ Aside0 (Below w.heap.size w w'))
    case atStart => exact ⟨(0), (([] : List (S34))), (.slice none 0 0), (by first | rfl | (simp; done) | (simp [*]; done)), H', ⟨Nat.le_refl _⟩, ⟨by first | exact Kd.R_nil _ _ _ _ _ | exact Kd.N_nil _ _ _ _ _ | exact Kd.V_nil _ _ _ _ _ | exact Kd.Q_nil _ _ _ _ _ | exact Kd.S_nil _ _ _ _ _⟩, ⟨Fr⟩, ⟨Fr⟩, ⟨by (with_reducible repeat (first | refine blk_drewN ?_ _ | refine blk_drew ?_ | refine blk_alloc ?_ _)); refine blk_put (cs := #[.int .i64 t186, .int .i64 t187, .slice Ao15 t188.length co15]) ?_ 2 _ rfl; (with_reducible repeat (first | refine blk_drewN ?_ _ | refine blk_drew ?_ | refine blk_alloc ?_ _)); exact BK191.out⟩, ⟨By⟩⟩
    case round =>
      clear H'
      try clear c1
      try clear c2
      try clear p2
      try clear c5
      try clear c6
      try clear c8
      try clear c12
      try clear c13
      try clear hcz14_0
      try clear hcz14_1
      try clear hcz14_2
      try clear hcz16_0
      try clear hcz16_1
      try clear hcz16_2
      try clear hcz18_0
      try clear hcz18_1
      try clear hcz18_2
      try clear hcz9_0
      try clear hcz9_1
      try clear hcz9_2
      try clear hfz14_0
      try clear hfz14_1
      try clear hfz14_2
      try clear hfz16_0
      try clear hfz16_1
      try clear hfz16_2
      try clear hfz18_0
      try clear hfz18_1
      try clear hfz18_2
      try clear hfz9_0
      try clear hfz9_1
      try clear hfz9_2
      obtain ⟨x6_1, x192002_1, u192002, rfl, HA, HK1, HO_192002, BK184, BK185, BK191, HB⟩ := hrel
      cases gk with
      | zero => exact absurd HA.out (by simp [spec_TablePurge.l0])
      | succ k1 =>
        have H := HA.out
        clear HA
        simp only [spec_TablePurge.l0] at H
        by_cases c19 : x6_1 < (l0_2.length : Int)
        · rw [if_pos c19] at H
          have c19b0 : decide (x6_1 < (l0_2.length : Int)) = true := decide_eq_true c19
          clear c19
          by_cases c20 : 0 ≤ x6_1
          · rw [if_pos c20] at H
            have c20b0 : decide (0 ≤ x6_1) = true := decide_eq_true c20
            clear c20
            obtain ⟨bq21, hbq21⟩ : ∃ b_ : Bool, b_ = ((rd_T34 l0_2 x6_1).f6) := ⟨_, rfl⟩
            replace H : (if (bq21 = true) then (if ((rd_T34 l0_2 x6_1).f5) > a1 then (if x192002_1.length < 1759218604441 then (spec_TablePurge.l0 k1 a1 (wrap64 (x6_1 + 1)) a0_0 a0_1 l0_2 t186 t187 (x192002_1 ++ [(⟨(rd_T34 l0_2 x6_1).f0, (rd_T34 l0_2 x6_1).f1, (rd_T34 l0_2 x6_1).f2, (rd_T34 l0_2 x6_1).f3, (rd_T34 l0_2 x6_1).f4, (rd_T34 l0_2 x6_1).f5, bq21⟩ : S34)])) else (none)) else (spec_TablePurge.l0 k1 a1 (wrap64 (x6_1 + 1)) a0_0 a0_1 l0_2 t186 t187 x192002_1)) else (if x192002_1.length < 1759218604441 then (spec_TablePurge.l0 k1 a1 (wrap64 (x6_1 + 1)) a0_0 a0_1 l0_2 t186 t187 (x192002_1 ++ [(⟨(rd_T34 l0_2 x6_1).f0, (rd_T34 l0_2 x6_1).f1, (rd_T34 l0_2 x6_1).f2, (rd_T34 l0_2 x6_1).f3, (rd_T34 l0_2 x6_1).f4, (rd_T34 l0_2 x6_1).f5, bq21⟩ : S34)])) else (none))) = some (r1, r2, r3) := by rw [← hbq21] at H; exact H
            have Nbq21 := Aside0.mk hbq21
            clear hbq21
            by_cases c22 : (bq21 = true)
            · subst c22
              have H1 : (if ((rd_T34 l0_2 x6_1).f5) > a1 then (if x192002_1.length < 1759218604441 then (spec_TablePurge.l0 k1 a1 (wrap64 (x6_1 + 1)) a0_0 a0_1 l0_2 t186 t187 (x192002_1 ++ [(⟨(rd_T34 l0_2 x6_1).f0, (rd_T34 l0_2 x6_1).f1, (rd_T34 l0_2 x6_1).f2, (rd_T34 l0_2 x6_1).f3, (rd_T34 l0_2 x6_1).f4, (rd_T34 l0_2 x6_1).f5, true⟩ : S34)])) else (none)) else (spec_TablePurge.l0 k1 a1 (wrap64 (x6_1 + 1)) a0_0 a0_1 l0_2 t186 t187 x192002_1)) = some (r1, r2, r3) := by rw [if_pos rfl] at H; exact H
              clear H
              have H := H1
              clear H1
              by_cases c23 : ((rd_T34 l0_2 x6_1).f5) > a1
              · rw [if_pos c23] at H
                have c23b0 : decide (a1 < ((rd_T34 l0_2 x6_1).f5)) = true := decide_eq_true c23
                clear c23
                by_cases c24 : x192002_1.length < 1759218604441
                · rw [if_pos c24] at H
                  have LMc24 := Aside0.mk c24
                  clear c24
                  obtain ⟨y196, hy196⟩ : ∃ y_ : List (S34), y_ = (x192002_1 ++ [(⟨(rd_T34 l0_2 x6_1).f0, (rd_T34 l0_2 x6_1).f1, (rd_T34 l0_2 x6_1).f2, (rd_T34 l0_2 x6_1).f3, (rd_T34 l0_2 x6_1).f4, (rd_T34 l0_2 x6_1).f5, true⟩ : S34)]) := ⟨_, rfl⟩
                  replace H : (spec_TablePurge.l0 k1 a1 (wrap64 (x6_1 + 1)) a0_0 a0_1 l0_2 t186 t187 y196) = some (r1, r2, r3) := by first | (rw [hy196]; with_reducible exact H) | (have H2_ := (Option.bind_some _ _).symm.trans H; rw [hy196]; with_reducible exact H2_) | (have H2_ := (Option.bind_some _ _).symm.trans H; with_reducible exact H2_) | with_reducible exact H | (rw [hy196]; exact H) | exact H
                  have Ny196 := Aside0.mk hy196
                  clear hy196
                  have H' := Aside0.mk H
                  clear H
                  have hnb25 := NB184_185.out
                  have hnc25 := NB185_184.out
                  have hnb26 := NB184_191.out
                  have hnc26 := NB191_184.out
                  have hcz27_0 : wr.cell? ⟨gb184, 0, none⟩ = some (.int .i64 a0_0) := bc BK184.out 0
                  have hcz27_1 : wr.cell? ⟨gb184, 1, none⟩ = some (.int .i64 a0_1) := bc BK184.out 1
                  have hcz27_2 : wr.cell? ⟨gb184, 2, none⟩ = some (.slice A0_2 l0_2.length c0_2) := bc BK184.out 2
                  have hfz27_0 := blk_frozen BK184.out 0
                  have hfz27_1 := blk_frozen BK184.out 1
                  have hfz27_2 := blk_frozen BK184.out 2
                  have p193 : 0 ≤ (x6_1 : Int) := of_decide_eq_true Da
                  have q193 : x6_1 < (l0_2.length : Int) := of_decide_eq_true Da
                  obtain ⟨ad193, e193, hx193_0, hx193_1, hx193_2, hx193_3, hx193_4, hx193_5, hx193_6⟩ := at_T34 HR0_2.out x6_1 p193 q193
                  (try rw [← Nbq21.out] at hx193_4); (try rw [← Nbq21.out] at hw193_4)
                  (try rw [← Nbq21.out] at hx193_6); (try rw [← Nbq21.out] at hw193_6)
                  cases e193
                  replace hx193_0 := bz HB.out hx193_0
                  replace hx193_1 := bz HB.out hx193_1
                  replace hx193_2 := bz HB.out hx193_2
                  replace hx193_3 := bz HB.out hx193_3
                  replace hx193_4 := bz HB.out hx193_4
                  replace hx193_5 := bz HB.out hx193_5
                  replace hx193_6 := bz HB.out hx193_6
                  replace p193 := eq_true p193
                  replace q193 := eq_true q193
                  have p194 : 0 ≤ (x6_1 : Int) := of_decide_eq_true Da
                  have q194 : x6_1 < (l0_2.length : Int) := of_decide_eq_true Da
                  obtain ⟨ad194, e194, hx194_0, hx194_1, hx194_2, hx194_3, hx194_4, hx194_5, hx194_6⟩ := at_T34 HR0_2.out x6_1 p194 q194
                  (try rw [← Nbq21.out] at hx194_4); (try rw [← Nbq21.out] at hw194_4)
                  (try rw [← Nbq21.out] at hx194_6); (try rw [← Nbq21.out] at hw194_6)
                  obtain rfl : ad193 = ad194 := (by injection e194)
                  replace hx194_0 := bz HB.out hx194_0
                  replace hx194_1 := bz HB.out hx194_1
                  replace hx194_2 := bz HB.out hx194_2
                  replace hx194_3 := bz HB.out hx194_3
                  replace hx194_4 := bz HB.out hx194_4
                  replace hx194_5 := bz HB.out hx194_5
                  replace hx194_6 := bz HB.out hx194_6
                  replace p194 := eq_true p194
                  replace q194 := eq_true q194
                  try go_wp2
                  have n0_ := Aside0.mk (Kd.R_drew HO_192002.out)
                  have n1_ := Aside0.mk (blk_drew BK184.out)
                  have n2_ := Aside0.mk (blk_drew BK185.out)
                  have n3_ := Aside0.mk (blk_drew BK191.out)
                  have n4_ := Aside0.mk (below_drew1 HB.out)
                  clear HO_192002
                  clear BK184
                  clear BK185
                  clear BK191
                  clear HB
                  have HO_192002 := n0_
                  have BK184 := n1_
                  have BK185 := n2_
                  have BK191 := n3_
                  have HB := n4_
                  clear n0_ n1_ n2_ n3_ n4_
                  have p195 : 0 ≤ (x6_1 : Int) := of_decide_eq_true Da
                  have q195 : x6_1 < (l0_2.length : Int) := of_decide_eq_true Da
                  obtain ⟨ad195, e195, hx195_0, hx195_1, hx195_2, hx195_3, hx195_4, hx195_5, hx195_6⟩ := at_T34 HR0_2.out x6_1 p195 q195
                  have hw195_6 := hx195_6
                  have hw195_5 := hx195_5
                  have hw195_4 := hx195_4
                  have hw195_3 := hx195_3
                  have hw195_2 := hx195_2
                  have hw195_1 := hx195_1
                  have hw195_0 := hx195_0
                  (try rw [← Nbq21.out] at hx195_4); (try rw [← Nbq21.out] at hw195_4)
                  (try rw [← Nbq21.out] at hx195_6); (try rw [← Nbq21.out] at hw195_6)
                  obtain rfl : ad193 = ad195 := (by injection e195)
                  replace hx195_0 := bz HB.out hx195_0
                  replace hx195_1 := bz HB.out hx195_1
                  replace hx195_2 := bz HB.out hx195_2
                  replace hx195_3 := bz HB.out hx195_3
                  replace hx195_4 := bz HB.out hx195_4
                  replace hx195_5 := bz HB.out hx195_5
                  replace hx195_6 := bz HB.out hx195_6
                  replace p195 := eq_true p195
                  replace q195 := eq_true q195
                  refine start_ (n := 11) (S := fun w' => w'.cell? ⟨gb191, 0, none⟩ = some (.int .i64 t186) ∧ w'.cell? ⟨gb191, 1, none⟩ = some (.int .i64 t187) ∧ w'.cell? ⟨gb191, 2, none⟩ = some (u192002) ∧ w'.cell? ⟨gb184, 0, none⟩ = some (.int .i64 a0_0) ∧ w'.cell? ⟨gb184, 1, none⟩ = some (.int .i64 a0_1) ∧ w'.cell? ⟨gb184, 2, none⟩ = some (.slice (some ad193) l0_2.length c0_2) ∧ w'.cell? (ad193.add ((x6_1).toNat * 7)) = some (.int .i64 ((rd_T34 l0_2 x6_1).f0)) ∧ w'.cell? ⟨(ad193.add ((x6_1).toNat * 7)).block, (ad193.add ((x6_1).toNat * 7)).off + 1, none⟩ = some (.string ((rd_T34 l0_2 x6_1).f1)) ∧ w'.cell? ⟨(ad193.add ((x6_1).toNat * 7)).block, (ad193.add ((x6_1).toNat * 7)).off + 2, none⟩ = some (.string ((rd_T34 l0_2 x6_1).f2)) ∧ w'.cell? ⟨(ad193.add ((x6_1).toNat * 7)).block, (ad193.add ((x6_1).toNat * 7)).off + 3, none⟩ = some (.string ((rd_T34 l0_2 x6_1).f3)) ∧ w'.cell? ⟨(ad193.add ((x6_1).toNat * 7)).block, (ad193.add ((x6_1).toNat * 7)).off + 4, none⟩ = some (.bool ((rd_T34 l0_2 x6_1).f4)) ∧ w'.cell? ⟨(ad193.add ((x6_1).toNat * 7)).block, (ad193.add ((x6_1).toNat * 7)).off + 5, none⟩ = some (.int .i64 ((rd_T34 l0_2 x6_1).f5)) ∧ w'.cell? ⟨(ad193.add ((x6_1).toNat * 7)).block, (ad193.add ((x6_1).toNat * 7)).off + 6, none⟩ = some (.bool (true))) (ds := [10]) (bv 11 0) (by kernel_rfl) rfl rfl ⟨bc BK191.out 0, bc BK191.out 1, bc BK191.out 2, bc BK184.out 0, bc BK184.out 1, bc BK184.out 2, (bz HB.out hw195_0), (bz HB.out hw195_1), (bz HB.out hw195_2), (bz HB.out hw195_3), (bz HB.out hw195_4), (bz HB.out hw195_5), (bz HB.out hw195_6)⟩ (fun hHeld => ?_); refine with_tabW spec_TablePurge.tab9 spec_TablePurge.bits9 (fun HT_ HW_ => ?_)
                  generalize wr.drew = w28 at HO_192002 BK184 BK185 BK191 HB hx195_0 hx195_1 hx195_2 hx195_3 hx195_4 hx195_5 hx195_6 hHeld ⊢
                  refine pu 0 38 (bv 11 1) HT_.out (h := ?_)
                  refine pu 2 40 (bv 11 5) HT_.out (h := ?_)
                  refine pu 4 42 (bv 11 21) HT_.out (h := ?_)
                  refine tk 1 39 (bv 11 23) HT_.out HW_.out hHeld (h := ?_)
                  refine tk 3 41 (bv 11 31) HT_.out HW_.out hHeld (h := ?_)
                  refine pu 5 43 (bv 11 63) HT_.out (h := ?_)
                  refine tk 6 44 (bv 11 127) HT_.out HW_.out hHeld (h := ?_)
                  refine one_ (i := 7) (N := some 45) (bv 11 255) rfl rfl (one_of HT_.out (by kernel_rfl)) (by decide) (fun K hK => ?_)
                  refine value_ (w1 := ?_) (v := ?_) (by rfl) rfl ?_ ?_
                  rotate_left 2
                  · go_simp
                    constructor
                    · rfl
                    · rfl
                  refine hK.out _ _ ⟨(blk_cell (blk_alloc BK191.out _) 0).trans rfl, (blk_cell (blk_alloc BK191.out _) 1).trans rfl, (blk_cell (blk_alloc BK191.out _) 2).trans rfl, (blk_cell (blk_alloc BK184.out _) 0).trans rfl, (blk_cell (blk_alloc BK184.out _) 1).trans rfl, (blk_cell (blk_alloc BK184.out _) 2).trans rfl, (World.cell?_alloc_lt _ _ _ (World.block_lt_of_cell? _ _ ((bz HB.out hw195_0)))).trans ((bz HB.out hw195_0)), (World.cell?_alloc_lt _ _ _ (World.block_lt_of_cell? _ _ ((bz HB.out hw195_1)))).trans ((bz HB.out hw195_1)), (World.cell?_alloc_lt _ _ _ (World.block_lt_of_cell? _ _ ((bz HB.out hw195_2)))).trans ((bz HB.out hw195_2)), (World.cell?_alloc_lt _ _ _ (World.block_lt_of_cell? _ _ ((bz HB.out hw195_3)))).trans ((bz HB.out hw195_3)), (World.cell?_alloc_lt _ _ _ (World.block_lt_of_cell? _ _ ((bz HB.out hw195_4)))).trans ((bz HB.out hw195_4)), (World.cell?_alloc_lt _ _ _ (World.block_lt_of_cell? _ _ ((bz HB.out hw195_5)))).trans ((bz HB.out hw195_5)), (World.cell?_alloc_lt _ _ _ (World.block_lt_of_cell? _ _ ((bz HB.out hw195_6)))).trans ((bz HB.out hw195_6))⟩ (fun hHeld => ?_)
                  clear hK K
                  refine norm_ (a' := ?_) ?_ ?_
                  rotate_left
                  · show Act.put _ (some 45) _ = _
                    simp only [Act.put, List.setIfInBounds_toArray, List.set_cons_zero, List.set_cons_succ, i64_w, i32_w]
                    rfl
                  refine one_ (i := 8) (N := some 46) (bv 11 511) rfl rfl (one_of HT_.out (by kernel_rfl)) (by decide) (fun K hK => ?_)
                  refine Kd.R_append_step k34 (w0 := w) w.heap.size (by rfl) (.tmp 39) (.tmp 45) 36 34 (.agg #[(.int .i64 0), (.string ⟨#[]⟩), (.string ⟨#[]⟩), (.string ⟨#[]⟩), (.bool false), (.int .i64 0), (.bool false)]) 80 rfl Tryd.underlying36 info34 rfl (by decide) (by omega) u192002 x192002_1 (⟨(rd_T34 l0_2 x6_1).f0, (rd_T34 l0_2 x6_1).f1, (rd_T34 l0_2 x6_1).f2, (rd_T34 l0_2 x6_1).f3, (rd_T34 l0_2 x6_1).f4, (rd_T34 l0_2 x6_1).f5, true⟩ : S34) [.int .i64 ((rd_T34 l0_2 x6_1).f0), .string ((rd_T34 l0_2 x6_1).f1), .string ((rd_T34 l0_2 x6_1).f2), .string ((rd_T34 l0_2 x6_1).f3), .bool ((rd_T34 l0_2 x6_1).f4), .int .i64 ((rd_T34 l0_2 x6_1).f5), .bool true] (fun _ => True) (fun _ => False) rfl rfl ?aP (fun _ hk => hk.elim) ?aF ?aO ?aB ?aS ?aL ?_
                  (case aP => exact k34_mkM _ _ _ (⟨(rd_T34 l0_2 x6_1).f0, (rd_T34 l0_2 x6_1).f1, (rd_T34 l0_2 x6_1).f2, (rd_T34 l0_2 x6_1).f3, (rd_T34 l0_2 x6_1).f4, (rd_T34 l0_2 x6_1).f5, true⟩ : S34))
                  (case aB => exact By)
                  (case aF => exact (fun _ _ => trivial))
                  (case aO => exact (rR HO_192002.out))
                  (case aS => exact (below_size By))
                  (case aL => have := LMc24.out; omega)
                  intro v197 w29 ho hb hg hat
                  rw [← Ny196.out] at ho
                  have n0_ := Aside0.mk (blk_grown (g := gb184) (o := .cells #[.int .i64 a0_0, .int .i64 a0_1, .slice (some ad193) l0_2.length c0_2] 38 (0, 0)) Pk hg (Kd.R_ne HO_192002.out BK184.out (by decide)))
                  have n1_ := Aside0.mk (blk_grown (g := gb185) (o := .cells #[.int .i64 0, .int .i64 0, .slice none 0 0] 38 (0, 0)) Pk hg (Kd.R_ne HO_192002.out BK185.out (by decide)))
                  have n2_ := Aside0.mk (blk_grown (g := gb191) (o := .cells #[.int .i64 t186, .int .i64 t187, u192002] 38 (0, 0)) Pk hg (Kd.R_ne HO_192002.out BK191.out (by decide)))
                  have n3_ := Aside0.mk (hb)
                  have n4_ := Aside0.mk (ho)
                  clear BK184
                  clear BK185
                  clear BK191
                  clear HB
                  clear HO_192002
                  have BK184 := n0_
                  have BK185 := n1_
                  have BK191 := n2_
                  have HB := n3_
                  have HO198 := n4_
                  clear n0_ n1_ n2_ n3_ n4_
                  clear ho hb hg hat
                  obtain ⟨Ao30, co30, eo30⟩ := Kd.R_slice HO198.out
                  (first | subst eo30 | (injection eo30 with f1_ f2_ f3_; have f4_ := f1_.symm; have f5_ := f3_.symm; clear f1_ f2_ f3_; subst f4_; subst f5_))
                  refine hK.out _ _ ⟨bc BK191.out 0, bc BK191.out 1, bc BK191.out 2, bc BK184.out 0, bc BK184.out 1, bc BK184.out 2, (bz HB.out hw195_0), (bz HB.out hw195_1), (bz HB.out hw195_2), (bz HB.out hw195_3), (bz HB.out hw195_4), (bz HB.out hw195_5), (bz HB.out hw195_6)⟩ (fun hHeld => ?_)
                  clear hK K
                  refine norm_ (a' := ?_) ?_ ?_
                  rotate_left
                  · show Act.put _ (some 46) _ = _
                    simp only [Act.put, List.setIfInBounds_toArray, List.set_cons_zero, List.set_cons_succ, i64_w, i32_w]
                    rfl
                  refine pu 9 47 (bv 11 1023) HT_.out (h := ?_)
                  refine last_ (i := 10) (N := none) (bv 11 2047) rfl rfl (one_of HT_.out (by kernel_rfl)) (by decide) (fun K hK => ?_)
                  have hs31 : w29.cell? ⟨gb191, 2, none⟩ = some (u192002) := bc BK191.out 2
                  have hfs31 := blk_frozen BK191.out 2
                  have hns31_0 := NB184_191.out
                  have hns31_1 := NB185_191.out
                  have hms31_0 := NB191_184.out
                  have hms31_1 := NB191_185.out
                  refine skip_ (w1 := ?_) (by rfl) rfl ?_ ?_
                  rotate_left
                  · go_simp
                    rfl
                  refine hK.out _ _ ?_
                  clear hK K
                  refine done_ (done_of HT_.out (by kernel_rfl)) ?_
                  try go_wp2
                  go_roundg k1
                  case measure => have := HK1.out; omega
                  case rel => exact ⟨(wrap64 (x6_1 + 1)), (y196), (.slice Ao30 y196.length co30), (by first | rfl | (simp; done) | (simp [*]; done)), H', ⟨by have := HK1.out; omega⟩, ⟨by (with_reducible repeat (first | apply Kd.R_alloc | apply Kd.R_drewN | apply Kd.R_drew)); exact Kd.R_mono (Kd.R_far (p := ⟨gb191, 2, none⟩) (Kd.R_types HO198.out BK191.out (by decide)) (fun _ hk => hk.2) (.slice Ao30 y196.length co30)) (fun _ hk => trivial)⟩, ⟨Fr⟩, ⟨Fr⟩, ⟨by (with_reducible repeat (first | refine blk_drewN ?_ _ | refine blk_drew ?_ | refine blk_alloc ?_ _)); refine blk_put (cs := #[.int .i64 t186, .int .i64 t187, u192002]) ?_ 2 _ rfl; (with_reducible repeat (first | refine blk_drewN ?_ _ | refine blk_drew ?_ | refine blk_alloc ?_ _)); exact BK191.out⟩, ⟨By⟩⟩
                · rw [if_neg c24] at H
                  exact absurd H (by simp)
              · rw [if_neg c23] at H
                have c23b0 : decide (a1 < ((rd_T34 l0_2 x6_1).f5)) = false := decide_eq_false c23
                clear c23
                have H' := Aside0.mk H
                clear H
                have hnb32 := NB184_185.out
                have hnc32 := NB185_184.out
                have hnb33 := NB184_191.out
                have hnc33 := NB191_184.out
                have hcz34_0 : wr.cell? ⟨gb184, 0, none⟩ = some (.int .i64 a0_0) := bc BK184.out 0
                have hcz34_1 : wr.cell? ⟨gb184, 1, none⟩ = some (.int .i64 a0_1) := bc BK184.out 1
                have hcz34_2 : wr.cell? ⟨gb184, 2, none⟩ = some (.slice A0_2 l0_2.length c0_2) := bc BK184.out 2
                have hfz34_0 := blk_frozen BK184.out 0
                have hfz34_1 := blk_frozen BK184.out 1
                have hfz34_2 := blk_frozen BK184.out 2
                have p193 : 0 ≤ (x6_1 : Int) := of_decide_eq_true Da
                have q193 : x6_1 < (l0_2.length : Int) := of_decide_eq_true Da
                obtain ⟨ad193, e193, hx193_0, hx193_1, hx193_2, hx193_3, hx193_4, hx193_5, hx193_6⟩ := at_T34 HR0_2.out x6_1 p193 q193
                (try rw [← Nbq21.out] at hx193_4); (try rw [← Nbq21.out] at hw193_4)
                (try rw [← Nbq21.out] at hx193_6); (try rw [← Nbq21.out] at hw193_6)
                cases e193
                replace hx193_0 := bz HB.out hx193_0
                replace hx193_1 := bz HB.out hx193_1
                replace hx193_2 := bz HB.out hx193_2
                replace hx193_3 := bz HB.out hx193_3
                replace hx193_4 := bz HB.out hx193_4
                replace hx193_5 := bz HB.out hx193_5
                replace hx193_6 := bz HB.out hx193_6
                replace p193 := eq_true p193
                replace q193 := eq_true q193
                have p194 : 0 ≤ (x6_1 : Int) := of_decide_eq_true Da
                have q194 : x6_1 < (l0_2.length : Int) := of_decide_eq_true Da
                obtain ⟨ad194, e194, hx194_0, hx194_1, hx194_2, hx194_3, hx194_4, hx194_5, hx194_6⟩ := at_T34 HR0_2.out x6_1 p194 q194
                (try rw [← Nbq21.out] at hx194_4); (try rw [← Nbq21.out] at hw194_4)
                (try rw [← Nbq21.out] at hx194_6); (try rw [← Nbq21.out] at hw194_6)
                obtain rfl : ad193 = ad194 := (by injection e194)
                replace hx194_0 := bz HB.out hx194_0
                replace hx194_1 := bz HB.out hx194_1
                replace hx194_2 := bz HB.out hx194_2
                replace hx194_3 := bz HB.out hx194_3
                replace hx194_4 := bz HB.out hx194_4
                replace hx194_5 := bz HB.out hx194_5
                replace hx194_6 := bz HB.out hx194_6
                replace p194 := eq_true p194
                replace q194 := eq_true q194
                go_wp2
                go_roundg k1
                case measure => have := HK1.out; omega
                case rel => exact ⟨(wrap64 (x6_1 + 1)), (x192002_1), (u192002), (by first | rfl | (simp; done) | (simp [*]; done)), H', ⟨by have := HK1.out; omega⟩, ⟨by (with_reducible repeat (first | apply Kd.R_alloc | apply Kd.R_drewN | apply Kd.R_drew)); exact HO_192002.out⟩, ⟨by (with_reducible repeat (first | refine blk_drewN ?_ _ | refine blk_drew ?_ | refine blk_alloc ?_ _)); exact BK184.out⟩, ⟨by (with_reducible repeat (first | refine blk_drewN ?_ _ | refine blk_drew ?_ | refine blk_alloc ?_ _)); exact BK185.out⟩, ⟨by (with_reducible repeat (first | refine blk_drewN ?_ _ | refine blk_drew ?_ | refine blk_alloc ?_ _)); exact BK191.out⟩, ⟨By⟩⟩
            · replace c22 := Bool.eq_false_iff.mpr c22
              subst c22
              have H1 : (if x192002_1.length < 1759218604441 then (spec_TablePurge.l0 k1 a1 (wrap64 (x6_1 + 1)) a0_0 a0_1 l0_2 t186 t187 (x192002_1 ++ [(⟨(rd_T34 l0_2 x6_1).f0, (rd_T34 l0_2 x6_1).f1, (rd_T34 l0_2 x6_1).f2, (rd_T34 l0_2 x6_1).f3, (rd_T34 l0_2 x6_1).f4, (rd_T34 l0_2 x6_1).f5, false⟩ : S34)])) else (none)) = some (r1, r2, r3) := by rw [if_neg (show ¬ (false = true) by decide)] at H; exact H
              clear H
              have H := H1
              clear H1
              by_cases c35 : x192002_1.length < 1759218604441
              · rw [if_pos c35] at H
                have LMc35 := Aside0.mk c35
                clear c35
                obtain ⟨y200, hy200⟩ : ∃ y_ : List (S34), y_ = (x192002_1 ++ [(⟨(rd_T34 l0_2 x6_1).f0, (rd_T34 l0_2 x6_1).f1, (rd_T34 l0_2 x6_1).f2, (rd_T34 l0_2 x6_1).f3, (rd_T34 l0_2 x6_1).f4, (rd_T34 l0_2 x6_1).f5, false⟩ : S34)]) := ⟨_, rfl⟩
                replace H : (spec_TablePurge.l0 k1 a1 (wrap64 (x6_1 + 1)) a0_0 a0_1 l0_2 t186 t187 y200) = some (r1, r2, r3) := by first | (rw [hy200]; with_reducible exact H) | (have H2_ := (Option.bind_some _ _).symm.trans H; rw [hy200]; with_reducible exact H2_) | (have H2_ := (Option.bind_some _ _).symm.trans H; with_reducible exact H2_) | with_reducible exact H | (rw [hy200]; exact H) | exact H
                have Ny200 := Aside0.mk hy200
                clear hy200
                have H' := Aside0.mk H
                clear H
                have hnb36 := NB184_185.out
                have hnc36 := NB185_184.out
                have hnb37 := NB184_191.out
                have hnc37 := NB191_184.out
                have hcz38_0 : wr.cell? ⟨gb184, 0, none⟩ = some (.int .i64 a0_0) := bc BK184.out 0
                have hcz38_1 : wr.cell? ⟨gb184, 1, none⟩ = some (.int .i64 a0_1) := bc BK184.out 1
                have hcz38_2 : wr.cell? ⟨gb184, 2, none⟩ = some (.slice A0_2 l0_2.length c0_2) := bc BK184.out 2
                have hfz38_0 := blk_frozen BK184.out 0
                have hfz38_1 := blk_frozen BK184.out 1
                have hfz38_2 := blk_frozen BK184.out 2
                have p193 : 0 ≤ (x6_1 : Int) := of_decide_eq_true Da
                have q193 : x6_1 < (l0_2.length : Int) := of_decide_eq_true Da
                obtain ⟨ad193, e193, hx193_0, hx193_1, hx193_2, hx193_3, hx193_4, hx193_5, hx193_6⟩ := at_T34 HR0_2.out x6_1 p193 q193
                (try rw [← Nbq21.out] at hx193_4); (try rw [← Nbq21.out] at hw193_4)
                (try rw [← Nbq21.out] at hx193_6); (try rw [← Nbq21.out] at hw193_6)
                cases e193
                replace hx193_0 := bz HB.out hx193_0
                replace hx193_1 := bz HB.out hx193_1
                replace hx193_2 := bz HB.out hx193_2
                replace hx193_3 := bz HB.out hx193_3
                replace hx193_4 := bz HB.out hx193_4
                replace hx193_5 := bz HB.out hx193_5
                replace hx193_6 := bz HB.out hx193_6
                replace p193 := eq_true p193
                replace q193 := eq_true q193
                try go_wp2
                have n0_ := Aside0.mk (Kd.R_drew HO_192002.out)
                have n1_ := Aside0.mk (blk_drew BK184.out)
                have n2_ := Aside0.mk (blk_drew BK185.out)
                have n3_ := Aside0.mk (blk_drew BK191.out)
                have n4_ := Aside0.mk (below_drew1 HB.out)
                clear HO_192002
                clear BK184
                clear BK185
                clear BK191
                clear HB
                have HO_192002 := n0_
                have BK184 := n1_
                have BK185 := n2_
                have BK191 := n3_
                have HB := n4_
                clear n0_ n1_ n2_ n3_ n4_
                have p199 : 0 ≤ (x6_1 : Int) := of_decide_eq_true Da
                have q199 : x6_1 < (l0_2.length : Int) := of_decide_eq_true Da
                obtain ⟨ad199, e199, hx199_0, hx199_1, hx199_2, hx199_3, hx199_4, hx199_5, hx199_6⟩ := at_T34 HR0_2.out x6_1 p199 q199
                have hw199_6 := hx199_6
                have hw199_5 := hx199_5
                have hw199_4 := hx199_4
                have hw199_3 := hx199_3
                have hw199_2 := hx199_2
                have hw199_1 := hx199_1
                have hw199_0 := hx199_0
                (try rw [← Nbq21.out] at hx199_4); (try rw [← Nbq21.out] at hw199_4)
                (try rw [← Nbq21.out] at hx199_6); (try rw [← Nbq21.out] at hw199_6)
                obtain rfl : ad193 = ad199 := (by injection e199)
                replace hx199_0 := bz HB.out hx199_0
                replace hx199_1 := bz HB.out hx199_1
                replace hx199_2 := bz HB.out hx199_2
                replace hx199_3 := bz HB.out hx199_3
                replace hx199_4 := bz HB.out hx199_4
                replace hx199_5 := bz HB.out hx199_5
                replace hx199_6 := bz HB.out hx199_6
                replace p199 := eq_true p199
                replace q199 := eq_true q199
                refine start_ (n := 11) (S := fun w' => w'.cell? ⟨gb191, 0, none⟩ = some (.int .i64 t186) ∧ w'.cell? ⟨gb191, 1, none⟩ = some (.int .i64 t187) ∧ w'.cell? ⟨gb191, 2, none⟩ = some (u192002) ∧ w'.cell? ⟨gb184, 0, none⟩ = some (.int .i64 a0_0) ∧ w'.cell? ⟨gb184, 1, none⟩ = some (.int .i64 a0_1) ∧ w'.cell? ⟨gb184, 2, none⟩ = some (.slice (some ad193) l0_2.length c0_2) ∧ w'.cell? (ad193.add ((x6_1).toNat * 7)) = some (.int .i64 ((rd_T34 l0_2 x6_1).f0)) ∧ w'.cell? ⟨(ad193.add ((x6_1).toNat * 7)).block, (ad193.add ((x6_1).toNat * 7)).off + 1, none⟩ = some (.string ((rd_T34 l0_2 x6_1).f1)) ∧ w'.cell? ⟨(ad193.add ((x6_1).toNat * 7)).block, (ad193.add ((x6_1).toNat * 7)).off + 2, none⟩ = some (.string ((rd_T34 l0_2 x6_1).f2)) ∧ w'.cell? ⟨(ad193.add ((x6_1).toNat * 7)).block, (ad193.add ((x6_1).toNat * 7)).off + 3, none⟩ = some (.string ((rd_T34 l0_2 x6_1).f3)) ∧ w'.cell? ⟨(ad193.add ((x6_1).toNat * 7)).block, (ad193.add ((x6_1).toNat * 7)).off + 4, none⟩ = some (.bool ((rd_T34 l0_2 x6_1).f4)) ∧ w'.cell? ⟨(ad193.add ((x6_1).toNat * 7)).block, (ad193.add ((x6_1).toNat * 7)).off + 5, none⟩ = some (.int .i64 ((rd_T34 l0_2 x6_1).f5)) ∧ w'.cell? ⟨(ad193.add ((x6_1).toNat * 7)).block, (ad193.add ((x6_1).toNat * 7)).off + 6, none⟩ = some (.bool (false))) (ds := [10]) (bv 11 0) (by kernel_rfl) rfl rfl ⟨bc BK191.out 0, bc BK191.out 1, bc BK191.out 2, bc BK184.out 0, bc BK184.out 1, bc BK184.out 2, (bz HB.out hw199_0), (bz HB.out hw199_1), (bz HB.out hw199_2), (bz HB.out hw199_3), (bz HB.out hw199_4), (bz HB.out hw199_5), (bz HB.out hw199_6)⟩ (fun hHeld => ?_); refine with_tabW spec_TablePurge.tab9 spec_TablePurge.bits9 (fun HT_ HW_ => ?_)
                generalize wr.drew = w39 at HO_192002 BK184 BK185 BK191 HB hx199_0 hx199_1 hx199_2 hx199_3 hx199_4 hx199_5 hx199_6 hHeld ⊢
                refine pu 0 38 (bv 11 1) HT_.out (h := ?_)
                refine pu 2 40 (bv 11 5) HT_.out (h := ?_)
                refine pu 4 42 (bv 11 21) HT_.out (h := ?_)
                refine tk 1 39 (bv 11 23) HT_.out HW_.out hHeld (h := ?_)
                refine tk 3 41 (bv 11 31) HT_.out HW_.out hHeld (h := ?_)
                refine pu 5 43 (bv 11 63) HT_.out (h := ?_)
                refine tk 6 44 (bv 11 127) HT_.out HW_.out hHeld (h := ?_)
                refine one_ (i := 7) (N := some 45) (bv 11 255) rfl rfl (one_of HT_.out (by kernel_rfl)) (by decide) (fun K hK => ?_)
                refine value_ (w1 := ?_) (v := ?_) (by rfl) rfl ?_ ?_
                rotate_left 2
                · go_simp
                  constructor
                  · rfl
                  · rfl
                refine hK.out _ _ ⟨(blk_cell (blk_alloc BK191.out _) 0).trans rfl, (blk_cell (blk_alloc BK191.out _) 1).trans rfl, (blk_cell (blk_alloc BK191.out _) 2).trans rfl, (blk_cell (blk_alloc BK184.out _) 0).trans rfl, (blk_cell (blk_alloc BK184.out _) 1).trans rfl, (blk_cell (blk_alloc BK184.out _) 2).trans rfl, (World.cell?_alloc_lt _ _ _ (World.block_lt_of_cell? _ _ ((bz HB.out hw199_0)))).trans ((bz HB.out hw199_0)), (World.cell?_alloc_lt _ _ _ (World.block_lt_of_cell? _ _ ((bz HB.out hw199_1)))).trans ((bz HB.out hw199_1)), (World.cell?_alloc_lt _ _ _ (World.block_lt_of_cell? _ _ ((bz HB.out hw199_2)))).trans ((bz HB.out hw199_2)), (World.cell?_alloc_lt _ _ _ (World.block_lt_of_cell? _ _ ((bz HB.out hw199_3)))).trans ((bz HB.out hw199_3)), (World.cell?_alloc_lt _ _ _ (World.block_lt_of_cell? _ _ ((bz HB.out hw199_4)))).trans ((bz HB.out hw199_4)), (World.cell?_alloc_lt _ _ _ (World.block_lt_of_cell? _ _ ((bz HB.out hw199_5)))).trans ((bz HB.out hw199_5)), (World.cell?_alloc_lt _ _ _ (World.block_lt_of_cell? _ _ ((bz HB.out hw199_6)))).trans ((bz HB.out hw199_6))⟩ (fun hHeld => ?_)
                clear hK K
                refine norm_ (a' := ?_) ?_ ?_
                rotate_left
                · show Act.put _ (some 45) _ = _
                  simp only [Act.put, List.setIfInBounds_toArray, List.set_cons_zero, List.set_cons_succ, i64_w, i32_w]
                  rfl
                refine one_ (i := 8) (N := some 46) (bv 11 511) rfl rfl (one_of HT_.out (by kernel_rfl)) (by decide) (fun K hK => ?_)
                refine Kd.R_append_step k34 (w0 := w) w.heap.size (by rfl) (.tmp 39) (.tmp 45) 36 34 (.agg #[(.int .i64 0), (.string ⟨#[]⟩), (.string ⟨#[]⟩), (.string ⟨#[]⟩), (.bool false), (.int .i64 0), (.bool false)]) 80 rfl Tryd.underlying36 info34 rfl (by decide) (by omega) u192002 x192002_1 (⟨(rd_T34 l0_2 x6_1).f0, (rd_T34 l0_2 x6_1).f1, (rd_T34 l0_2 x6_1).f2, (rd_T34 l0_2 x6_1).f3, (rd_T34 l0_2 x6_1).f4, (rd_T34 l0_2 x6_1).f5, false⟩ : S34) [.int .i64 ((rd_T34 l0_2 x6_1).f0), .string ((rd_T34 l0_2 x6_1).f1), .string ((rd_T34 l0_2 x6_1).f2), .string ((rd_T34 l0_2 x6_1).f3), .bool ((rd_T34 l0_2 x6_1).f4), .int .i64 ((rd_T34 l0_2 x6_1).f5), .bool false] (fun _ => True) (fun _ => False) rfl rfl ?aP (fun _ hk => hk.elim) ?aF ?aO ?aB ?aS ?aL ?_
                (case aP => exact k34_mkM _ _ _ (⟨(rd_T34 l0_2 x6_1).f0, (rd_T34 l0_2 x6_1).f1, (rd_T34 l0_2 x6_1).f2, (rd_T34 l0_2 x6_1).f3, (rd_T34 l0_2 x6_1).f4, (rd_T34 l0_2 x6_1).f5, false⟩ : S34))
                (case aB => exact By)
                (case aF => exact (fun _ _ => trivial))
                (case aO => exact (rR HO_192002.out))
                (case aS => exact (below_size By))
                (case aL => have := LMc35.out; omega)
                intro v201 w40 ho hb hg hat
                rw [← Ny200.out] at ho
                have n0_ := Aside0.mk (blk_grown (g := gb184) (o := .cells #[.int .i64 a0_0, .int .i64 a0_1, .slice (some ad193) l0_2.length c0_2] 38 (0, 0)) Pk hg (Kd.R_ne HO_192002.out BK184.out (by decide)))
                have n1_ := Aside0.mk (blk_grown (g := gb185) (o := .cells #[.int .i64 0, .int .i64 0, .slice none 0 0] 38 (0, 0)) Pk hg (Kd.R_ne HO_192002.out BK185.out (by decide)))
                have n2_ := Aside0.mk (blk_grown (g := gb191) (o := .cells #[.int .i64 t186, .int .i64 t187, u192002] 38 (0, 0)) Pk hg (Kd.R_ne HO_192002.out BK191.out (by decide)))
                have n3_ := Aside0.mk (hb)
                have n4_ := Aside0.mk (ho)
                clear BK184
                clear BK185
                clear BK191
                clear HB
                clear HO_192002
                have BK184 := n0_
                have BK185 := n1_
                have BK191 := n2_
                have HB := n3_
                have HO202 := n4_
                clear n0_ n1_ n2_ n3_ n4_
                clear ho hb hg hat
                obtain ⟨Ao41, co41, eo41⟩ := Kd.R_slice HO202.out
                (first | subst eo41 | (injection eo41 with f1_ f2_ f3_; have f4_ := f1_.symm; have f5_ := f3_.symm; clear f1_ f2_ f3_; subst f4_; subst f5_))
                refine hK.out _ _ ⟨bc BK191.out 0, bc BK191.out 1, bc BK191.out 2, bc BK184.out 0, bc BK184.out 1, bc BK184.out 2, (bz HB.out hw199_0), (bz HB.out hw199_1), (bz HB.out hw199_2), (bz HB.out hw199_3), (bz HB.out hw199_4), (bz HB.out hw199_5), (bz HB.out hw199_6)⟩ (fun hHeld => ?_)
                clear hK K
                refine norm_ (a' := ?_) ?_ ?_
                rotate_left
                · show Act.put _ (some 46) _ = _
                  simp only [Act.put, List.setIfInBounds_toArray, List.set_cons_zero, List.set_cons_succ, i64_w, i32_w]
                  rfl
                refine pu 9 47 (bv 11 1023) HT_.out (h := ?_)
                refine last_ (i := 10) (N := none) (bv 11 2047) rfl rfl (one_of HT_.out (by kernel_rfl)) (by decide) (fun K hK => ?_)
                have hs42 : w40.cell? ⟨gb191, 2, none⟩ = some (u192002) := bc BK191.out 2
                have hfs42 := blk_frozen BK191.out 2
                have hns42_0 := NB184_191.out
                have hns42_1 := NB185_191.out
                have hms42_0 := NB191_184.out
                have hms42_1 := NB191_185.out
                refine skip_ (w1 := ?_) (by rfl) rfl ?_ ?_
                rotate_left
                · go_simp
                  rfl
                refine hK.out _ _ ?_
                clear hK K
                refine done_ (done_of HT_.out (by kernel_rfl)) ?_
                try go_wp2
                go_roundg k1
                case measure => have := HK1.out; omega
                case rel => exact ⟨(wrap64 (x6_1 + 1)), (y200), (.slice Ao41 y200.length co41), (by first | rfl | (simp; done) | (simp [*]; done)), H', ⟨by have := HK1.out; omega⟩, ⟨by (with_reducible repeat (first | apply Kd.R_alloc | apply Kd.R_drewN | apply Kd.R_drew)); exact Kd.R_mono (Kd.R_far (p := ⟨gb191, 2, none⟩) (Kd.R_types HO202.out BK191.out (by decide)) (fun _ hk => hk.2) (.slice Ao41 y200.length co41)) (fun _ hk => trivial)⟩, ⟨Fr⟩, ⟨Fr⟩, ⟨by (with_reducible repeat (first | refine blk_drewN ?_ _ | refine blk_drew ?_ | refine blk_alloc ?_ _)); refine blk_put (cs := #[.int .i64 t186, .int .i64 t187, u192002]) ?_ 2 _ rfl; (with_reducible repeat (first | refine blk_drewN ?_ _ | refine blk_drew ?_ | refine blk_alloc ?_ _)); exact BK191.out⟩, ⟨By⟩⟩
              · rw [if_neg c35] at H
                exact absurd H (by simp)
          · rw [if_neg c20] at H
            exact absurd H (by simp)
        · rw [if_neg c19] at H
          have c19b0 : decide (x6_1 < (l0_2.length : Int)) = false := decide_eq_false c19
          clear c19
          simp only [Option.some.injEq, Prod.mk.injEq] at H
          obtain ⟨rfl, rfl, rfl⟩ := H
          have hnb43 := NB184_185.out
          have hnc43 := NB185_184.out
          have hnb44 := NB184_191.out
          have hnc44 := NB191_184.out
          have hcz45_0 : wr.cell? ⟨gb184, 0, none⟩ = some (.int .i64 a0_0) := bc BK184.out 0
          have hcz45_1 : wr.cell? ⟨gb184, 1, none⟩ = some (.int .i64 a0_1) := bc BK184.out 1
          have hcz45_2 : wr.cell? ⟨gb184, 2, none⟩ = some (.slice A0_2 l0_2.length c0_2) := bc BK184.out 2
          have hfz45_0 := blk_frozen BK184.out 0
          have hfz45_1 := blk_frozen BK184.out 1
          have hfz45_2 := blk_frozen BK184.out 2
          have hnb46 := NB191_185.out
          have hnc46 := NB185_191.out
          have hcz47_0 : wr.cell? ⟨gb191, 0, none⟩ = some (.int .i64 t186) := bc BK191.out 0
          have hcz47_1 : wr.cell? ⟨gb191, 1, none⟩ = some (.int .i64 t187) := bc BK191.out 1
          have hcz47_2 : wr.cell? ⟨gb191, 2, none⟩ = some (u192002) := bc BK191.out 2
          have hfz47_0 := blk_frozen BK191.out 0
          have hfz47_1 := blk_frozen BK191.out 1
          have hfz47_2 := blk_frozen BK191.out 2
          have hcz48_0 : wr.cell? ⟨gb185, 0, none⟩ = some (.int .i64 0) := bc BK185.out 0
          have hcz48_1 : wr.cell? ⟨gb185, 1, none⟩ = some (.int .i64 0) := bc BK185.out 1
          have hcz48_2 : wr.cell? ⟨gb185, 2, none⟩ = some (.slice none 0 0) := bc BK185.out 2
          have hfz48_0 := blk_frozen BK185.out 0
          have hfz48_1 := blk_frozen BK185.out 1
          have hfz48_2 := blk_frozen BK185.out 2
          obtain ⟨Ao49, co49, eo49⟩ := Kd.R_slice HO_192002.out
          subst eo49
          go_wp2
          refine bodyPost_ret (results_cell_row rfl _ _ gb185 38 #[.int .i64 t186, .int .i64 t187, .slice Ao49 x192002_1.length co49] (0, 0) _ rfl (pq3 Pk) Tryd.underlying38 rfl (by kernel_rfl)) rfl ?_
          exact ⟨_, Rf, by (with_reducible repeat (first | apply Kd.R_alloc | apply Kd.R_drewN | apply Kd.R_drew)); exact Kd.R_mono (Kd.R_far (p := ⟨gb185, 2, none⟩) (Kd.R_far (p := ⟨gb185, 1, none⟩) (Kd.R_far (p := ⟨gb185, 0, none⟩) (Kd.R_types HO_192002.out BK185.out (by decide)) (fun _ hk => hk.2) (.int .i64 t186)) (fun _ hk => hk.2) (.int .i64 t187)) (fun _ hk => hk.2) (.slice Ao49 x192002_1.length co49)) (fun _ hk => trivial), By⟩
  · replace c5 := Bool.eq_false_iff.mpr c5
    subst c5
    have H1 : (some (t186, t187, t188)) = some (r1, r2, r3) := by rw [if_neg (show ¬ (false = true) by decide)] at H; exact H
    clear H
    have H := H1
    clear H1
    simp only [Option.some.injEq, Prod.mk.injEq] at H
    obtain ⟨rfl, rfl, rfl⟩ := H
    go_enter Tryd.func25, Tryd.ntmps25
    go_wp2_with (first | ((with_reducible refine gate_dst (N := 2) rfl ?_); refine box_event ?hg (N := 2) ?hd (cs := #[.int .i64 a0_0, .int .i64 a0_1, .slice A0_2 l0_2.length c0_2]) (t := 38) ?hr ?_; (case hd => rfl); (case hg => rfl); (case hr => first | (go_simp; done) | (go_simp; rfl)); intro gb184 hg w50 hbox hb; have n0_ := Aside0.mk (below_step By hb); have n1_ := Aside0.mk (hbox); have n2_ := Aside0.mk ((by rw [hg]; exact (below_size By) : w.heap.size ≤ gb184)); have n3_ := Aside0.mk ((by rw [hg]; exact (below_size By) : w.heap.size ≤ gb184)); clear HB; have HB := n0_; have BK184 := n1_; have GW184 := n2_; have GE184 := n3_; clear n0_ n1_ n2_ n3_; clear hb hbox hg) | ((with_reducible refine gate_dst (N := 4) rfl ?_); refine box_event ?hg (N := 4) ?hd (cs := #[.int .i64 0, .int .i64 0, .slice none 0 0]) (t := 38) ?hr ?_; (case hd => rfl); (case hg => rfl); (case hr => first | (go_simp; done) | (go_simp; rfl)); intro gb185 hg w51 hbox hb; have n0_ := Aside0.mk (bb BK184.out hb); have n1_ := Aside0.mk (below_step By hb); have n2_ := Aside0.mk (hbox); have n3_ := Aside0.mk ((by rw [hg]; exact (below_size By) : w.heap.size ≤ gb185)); have n4_ := Aside0.mk ((by rw [hg]; exact (below_size By) : w.heap.size ≤ gb185)); have n5_ := Aside0.mk ((by rw [hg]; exact Nat.ne_of_lt (bl BK184.out) : gb184 ≠ gb185)); have n6_ := Aside0.mk ((by rw [hg]; exact Nat.ne_of_gt (bl BK184.out) : gb185 ≠ gb184)); clear BK184; clear HB; have BK184 := n0_; have HB := n1_; have BK185 := n2_; have GW185 := n3_; have GE185 := n4_; have NB184_185 := n5_; have NB185_184 := n6_; clear n0_ n1_ n2_ n3_ n4_ n5_ n6_; clear hb hbox hg; have hnb52 := NB184_185.out; have hnc52 := NB185_184.out; have ⟨hcz53_0, hcz53_1, hcz53_2⟩ := cq3 BK184.out; have ⟨hfz53_0, hfz53_1, hfz53_2⟩ := fq3 BK184.out) | ((with_reducible refine gate_callee (f := 67) rfl ?_); refine goesL_ (some 8) rfl rfl Tryd.func67 (by kernel_rfl) rfl #[.agg #[.int .i64 a0_0, .int .i64 a0_1, .slice A0_2 l0_2.length c0_2]] rfl Ag ?_; (with_reducible refine (spec_l12Copy.calls a0_0 a0_1 _ _ l0_2 t186 t187 t188 _ ?side1 ?side2 A3.out).mono ?_); (case side1 => exact rC (Kd.C_below HR0_2.out HB.out)); (case side2 => exact HC0_2.out); rintro e w54 ⟨v189, rfl, ho0, hb⟩; refine ⟨_, rfl, ?_⟩; have n0_ := Aside0.mk (Kd.R_lower ho0 (below_size By)); have n1_ := Aside0.mk (bb BK184.out hb); have n2_ := Aside0.mk (bb BK185.out hb); have n3_ := Aside0.mk (below_step By hb); clear BK184; clear BK185; clear HB; have HO190 := n0_; have BK184 := n1_; have BK185 := n2_; have HB := n3_; clear n0_ n1_ n2_ n3_; (try clear hb); (try clear hb2); (try clear hk); (try clear hi); (try clear ho0)) | ((with_reducible refine gate_dst (N := 5) rfl ?_); refine box_event ?hg (N := 5) ?hd (cs := #[.int .i64 0, .int .i64 0, .slice none 0 0]) (t := 38) ?hr ?_; (case hd => rfl); (case hg => rfl); (case hr => first | (go_simp; done) | (go_simp; rfl)); intro gb191 hg w55 hbox hb; have n0_ := Aside0.mk (Kd.R_below (rR HO190.out) hb); have n1_ := Aside0.mk (bb BK184.out hb); have n2_ := Aside0.mk (bb BK185.out hb); have n3_ := Aside0.mk (below_step By hb); have n4_ := Aside0.mk (hbox); have n5_ := Aside0.mk ((by rw [hg]; exact (below_size By) : w.heap.size ≤ gb191)); have n6_ := Aside0.mk ((by rw [hg]; exact (below_size By) : w.heap.size ≤ gb191)); have n7_ := Aside0.mk ((by rw [hg]; exact Nat.ne_of_lt (bl BK184.out) : gb184 ≠ gb191)); have n8_ := Aside0.mk ((by rw [hg]; exact Nat.ne_of_gt (bl BK184.out) : gb191 ≠ gb184)); have n9_ := Aside0.mk ((by rw [hg]; exact Nat.ne_of_lt (bl BK185.out) : gb185 ≠ gb191)); have n10_ := Aside0.mk ((by rw [hg]; exact Nat.ne_of_gt (bl BK185.out) : gb191 ≠ gb185)); clear HO190; clear BK184; clear BK185; clear HB; have HO190 := n0_; have BK184 := n1_; have BK185 := n2_; have HB := n3_; have BK191 := n4_; have GW191 := n5_; have GE191 := n6_; have NB184_191 := n7_; have NB191_184 := n8_; have NB185_191 := n9_; have NB191_185 := n10_; clear n0_ n1_ n2_ n3_ n4_ n5_ n6_ n7_ n8_ n9_ n10_; clear hb hbox hg; have hnb56 := NB191_184.out; have hnc56 := NB184_191.out; have hnb57 := NB191_185.out; have hnc57 := NB185_191.out; have ⟨hcz58_0, hcz58_1, hcz58_2⟩ := cq3 BK191.out; have ⟨hfz58_0, hfz58_1, hfz58_2⟩ := fq3 BK191.out; obtain ⟨Ao59, co59, eo59⟩ := Kd.R_slice HO190.out; subst eo59; have ⟨hcz60_0, hcz60_1, hcz60_2⟩ := cq3 BK184.out; have ⟨hfz60_0, hfz60_1, hfz60_2⟩ := fq3 BK184.out) | ((with_reducible refine gate_callee (f := 58) rfl ?_); refine goesL_ (some 10) rfl rfl Tryd.func58 (by kernel_rfl) rfl #[.agg #[.int .i64 a0_0, .int .i64 a0_1, .slice A0_2 l0_2.length c0_2]] rfl Ag ?_; (with_reducible refine (spec_TableRight.calls k a0_0 a0_1 _ _ l0_2 false _ ?side1 ?side2 A4.out).mono ?_); (case side1 => exact Kd.C_below HR0_2.out By); (case side2 => exact HC0_2.out); rintro e w61 ⟨rfl, hb⟩; refine ⟨_, rfl, ?_⟩; have n0_ := Aside0.mk (Kd.R_below (by (with_reducible repeat (first | apply Kd.R_alloc | apply Kd.R_drewN | apply Kd.R_drew)); exact (Kd.R_mono (Kd.R_far (p := ⟨gb191, 2, none⟩) (Kd.R_far (p := ⟨gb191, 1, none⟩) (Kd.R_far (p := ⟨gb191, 0, none⟩) (Kd.R_types HO190.out BK191.out (by decide)) (fun _ hk => hk.2) (.int .i64 t186)) (fun _ hk => hk.2) (.int .i64 t187)) (fun _ hk => hk.2) (.slice Ao59 t188.length co59)) (fun _ h_ => h_.1))) hb); have n1_ := Aside0.mk (bf BK184.out hb); have n2_ := Aside0.mk (bf BK185.out hb); have n3_ := Aside0.mk (blk_below (g := gb191) (o := .cells #[.int .i64 t186, .int .i64 t187, .slice Ao59 t188.length co59] 38 (0, 0)) (pq3 Pk) hb); have n4_ := Aside0.mk (below_step By hb); clear HO190; clear BK184; clear BK185; clear BK191; clear HB; have HO190 := n0_; have BK184 := n1_; have BK185 := n2_; have BK191 := n3_; have HB := n4_; clear n0_ n1_ n2_ n3_ n4_; (try clear hb); (try clear hb2); (try clear hk); (try clear hi); have ⟨hcz62_0, hcz62_1, hcz62_2⟩ := cq3 BK191.out; have ⟨hfz62_0, hfz62_1, hfz62_2⟩ := fq3 BK191.out; have ⟨hcz63_0, hcz63_1, hcz63_2⟩ := cq3 BK185.out; have ⟨hfz63_0, hfz63_1, hfz63_2⟩ := fq3 BK185.out))
    refine bodyPost_ret (results_cell_row rfl _ _ gb185 38 #[.int .i64 t186, .int .i64 t187, .slice Ao59 t188.length co59] (0, 0) _ rfl (pq3 Pk) Tryd.underlying38 rfl (by kernel_rfl)) rfl ?_
    exact ⟨_, Rf, by (with_reducible repeat (first | apply Kd.R_alloc | apply Kd.R_drewN | apply Kd.R_drew)); exact Kd.R_mono (Kd.R_far (p := ⟨gb185, 2, none⟩) (Kd.R_far (p := ⟨gb185, 1, none⟩) (Kd.R_far (p := ⟨gb185, 0, none⟩) (Kd.R_types HO190.out BK185.out (by decide)) (fun _ hk => hk.2) (.int .i64 t186)) (fun _ hk => hk.2) (.int .i64 t187)) (fun _ hk => hk.2) (.slice Ao59 t188.length co59)) (fun _ hk => trivial), By⟩

set_option linter.unusedVariables false
set_option linter.unusedSimpArgs false

/-! ### laws_markText: function 103 -/
def laws_markText.l0 : Nat → Int → ByteArray → Option (ByteArray)
  | 0, _, _ => none
  | k + 1, x0, x3 => if x0 > 0 then ((some (([(wrap64 (48 + (Int.tmod x0 10))) % 256] : List Int) : List Int)).bind fun y203 => (if (strOfNums y203).size + x3.size ≤ 9223372036854775807 then (laws_markText.l0 k (wrap64 (Int.tdiv x0 10)) ((strOfNums y203) ++ x3)) else (none))) else (if 1 + x3.size ≤ 9223372036854775807 then (some ((⟨#[109]⟩ : ByteArray) ++ x3)) else (none))
def laws_markText.f (k : Nat) (a0 : Int) : Option (ByteArray) := if a0 ≤ 0 then (some (⟨#[109, 48]⟩ : ByteArray)) else (laws_markText.l0 k a0 (⟨#[]⟩ : ByteArray))
theorem laws_markText.mono_l : ∀ k, (∀ y0 y1, LeO (laws_markText.l0 k y0 y1) (laws_markText.l0 (k + 1) y0 y1))
  | 0 => fun _ _ r h => by simp [laws_markText.l0] at h
  | k + 1 => by
    have ih0 := laws_markText.mono_l k
    · intro y0 y1
      unfold laws_markText.l0
      repeat' first
      | (with_reducible exact ih0 _ _)
      | (with_reducible exact LeO.refl _)
      | (with_reducible exact LeO.none _)
      | (with_reducible refine LeO.ite ?_ ?_)
      | (with_reducible refine LeO.bind ?_ (fun _ => ?_))
      | exact ih0 _ _
      | exact LeO.none _
      | refine LeO.ite ?_ ?_
      | refine LeO.bind ?_ (fun _ => ?_)
theorem laws_markText.mono : ∀ a0 k, LeO (laws_markText.f k a0) (laws_markText.f (k + 1) a0) := by
  intro a0 k
  have ih0 := laws_markText.mono_l k
  unfold laws_markText.f
  repeat' first
      | (with_reducible exact ih0 _ _)
      | (with_reducible exact LeO.refl _)
      | (with_reducible exact LeO.none _)
      | (with_reducible refine LeO.ite ?_ ?_)
      | (with_reducible refine LeO.bind ?_ (fun _ => ?_))
      | exact ih0 _ _
      | exact LeO.none _
      | refine LeO.ite ?_ ?_
      | refine LeO.bind ?_ (fun _ => ?_)
set_option maxHeartbeats 8000000 in
set_option maxRecDepth 100000 in
theorem laws_markText.calls (k : Nat) (a0 : Int) (r : ByteArray) (w : World) (h : laws_markText.f k a0 = some r) :
    Calls Tryd.prog 103 #[.int .i64 a0] w fun e w' => e = .returned (.string r) ∧ Below w.heap.size w w' := by
  have HB := Aside0.mk (Below.refl w.heap.size w)
  have H : (if a0 ≤ 0 then (some (⟨#[109, 48]⟩ : ByteArray)) else (laws_markText.l0 k a0 (⟨#[]⟩ : ByteArray))) = some r := h
  clear h
  by_cases c2 : a0 ≤ 0
  · rw [if_pos c2] at H
    have c2b0 : decide (a0 ≤ 0) = true := decide_eq_true c2
    clear c2
    obtain rfl := Option.some.inj H
    go_enter Tryd.func103, Tryd.ntmps103
    go_wp2
    go_ret
    exact ⟨Rf, By⟩
  · rw [if_neg c2] at H
    have c2b0 : decide (a0 ≤ 0) = false := decide_eq_false c2
    clear c2
    have H' := Aside0.mk H
    clear H
    go_enter Tryd.func103, Tryd.ntmps103
    go_wp2
    go_loopg [0, 3] k (fun kq v0 v3 w' => ∃ (x0_1 : Int) (x3_1 : ByteArray), v0 = .int .i64 x0_1 ∧ v3 = .string x3_1 ∧ Aside0 (laws_markText.l0 kq x0_1 x3_1 = some r) ∧ Aside0 (kq ≤ k) ∧ Aside0 (Below w.heap.size w w'))
    case atStart => exact ⟨(a0), ((⟨#[]⟩ : ByteArray)), (by first | rfl | (simp; done) | (simp [*]; done)), (by first | rfl | (simp; done) | (simp [*]; done)), H', ⟨Nat.le_refl _⟩, ⟨By⟩⟩
    case round =>
      clear H'
      try clear c1
      try clear c2
      try clear c2b0
      try clear p2
      obtain ⟨x0_1, x3_1, rfl, rfl, HA, HK1, HB⟩ := hrel
      cases gk with
      | zero => exact absurd HA.out (by simp [laws_markText.l0])
      | succ k1 =>
        have H := HA.out
        clear HA
        simp only [laws_markText.l0] at H
        by_cases c3 : x0_1 > 0
        · rw [if_pos c3] at H
          have c3b0 : decide (0 < x0_1) = true := decide_eq_true c3
          clear c3
          obtain ⟨y203, hy203⟩ : ∃ y_ : List Int, y_ = (([(wrap64 (48 + (Int.tmod x0_1 10))) % 256] : List Int)) := ⟨_, rfl⟩
          replace H : (if (strOfNums y203).size + x3_1.size ≤ 9223372036854775807 then (laws_markText.l0 k1 (wrap64 (Int.tdiv x0_1 10)) ((strOfNums y203) ++ x3_1)) else (none)) = some r := by first | (rw [hy203]; with_reducible exact H) | (have H2_ := (Option.bind_some _ _).symm.trans H; rw [hy203]; with_reducible exact H2_) | (have H2_ := (Option.bind_some _ _).symm.trans H; with_reducible exact H2_) | with_reducible exact H | (rw [hy203]; exact H) | exact H
          have Ny203 := Aside0.mk hy203
          clear hy203
          by_cases c4 : (strOfNums y203).size + x3_1.size ≤ 9223372036854775807
          · rw [if_pos c4] at H
            have c4b0 := eq_true c4
            have c4b1 : decide ((strOfNums y203).size + x3_1.size ≤ 9223372036854775807) = true := decide_eq_true c4
            try have c4b2 : (9223372036854775807 < (strOfNums y203).size + x3_1.size) = False := eq_false (Nat.not_lt.2 c4)
            have H' := Aside0.mk H
            clear H
            go_wp2_with (first | ((with_reducible refine gate_dst (N := 12) rfl ?_); refine Kd.R_lit (Kd.int .u8) _ 5 ?hg (N := 12) ?hd (xs := ([(wrap64 (48 + (Int.tmod x0_1 10))) % 256] : List Int)) (inner := [.int .u8 ((wrap64 (48 + (Int.tmod x0_1 10))) % 256)]) (ok := fun _ => True) (okp := fun _ => True) ?hr ?hp (fun _ hk => hk) trivial (Below.refl _ _) (Nat.le_refl _) (by simp) ?_; (case hd => rfl); (case hg => rfl); (case hr => first | (go_simp; done) | (go_simp; rfl)); (case hp => exact (Reps.one (show Kd.M (Kd.int .u8) _ _ _ ((wrap64 (48 + (Int.tmod x0_1 10))) % 256) [.int .u8 ((wrap64 (48 + (Int.tmod x0_1 10))) % 256)] from rfl) (Reps.none _ _))); intro v204 w5 ho6 hb hg_ hnew_; clear hg_ hnew_; (first | rw [← Ny203.out] at ho6 | (simp only [Int.reduceToNat] at ho6; rw [← Ny203.out] at ho6)); have n0_ := Aside0.mk (Kd.R_lower ho6 (below_size By)); have n1_ := Aside0.mk (below_step By hb); clear HB; have HO205 := n0_; have HB := n1_; clear n0_ n1_; clear hb ho6; have hcv7 := own_string (P := Tryd.prog) Tryd.underlying159 Tryd.underlying5 Tryd.underlying9 (Kd.own_of_R HO205.out)))
            go_roundg k1
            case measure => have := HK1.out; omega
            case rel => exact ⟨(wrap64 (Int.tdiv x0_1 10)), ((strOfNums y203) ++ x3_1), (by first | rfl | (simp; done) | (simp [*]; done)), (by first | rfl | (simp; done) | (simp [*]; done)), H', ⟨by have := HK1.out; omega⟩, ⟨By⟩⟩
          · rw [if_neg c4] at H
            exact absurd H (by simp)
        · rw [if_neg c3] at H
          have c3b0 : decide (0 < x0_1) = false := decide_eq_false c3
          clear c3
          by_cases c8 : 1 + x3_1.size ≤ 9223372036854775807
          · rw [if_pos c8] at H
            have c8b0 := eq_true c8
            have c8b1 : decide (1 + x3_1.size ≤ 9223372036854775807) = true := decide_eq_true c8
            try have c8b2 : (9223372036854775807 < 1 + x3_1.size) = False := eq_false (Nat.not_lt.2 c8)
            obtain rfl := Option.some.inj H
            go_wp2
            go_ret
            exact ⟨Rf, By⟩
          · rw [if_neg c8] at H
            exact absurd H (by simp)

end Go.Proofs.YtpocoeghobdfiaaDoor.PG
