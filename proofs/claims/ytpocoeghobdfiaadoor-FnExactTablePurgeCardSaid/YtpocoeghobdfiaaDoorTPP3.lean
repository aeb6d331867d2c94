/-
  Functions that the law reaches, each as a plain Lean function, with the proof that the call comes to it (written by a program of this session by way of the kit's print program). Conditions: what each contract states.
-/
import Derived.Test.YtpocoeghobdfiaaDoorTPP1
import Derived.Test.YtpocoeghobdfiaaDoorTPP2
import Derived.Test.YtpocoeghobdfiaaDoorTPSq
namespace Go.Proofs.YtpocoeghobdfiaaDoor.PG
open Go.Proofs.YtpocoeghobdfiaaDoor.Sq Go.RowKit Go.Proofs.YtpocoeghobdfiaaDoorW.PrintWords Go.Proofs.YtpocoeghobdfiaaDoorW.PrintLast Go.Proofs.YtpocoeghobdfiaaDoorW.PrintMore
attribute [local go_sem] max2_int min2_int max_two min_two max_three min_three max_four min_four   -- for this text's walks alone
set_option linter.unusedVariables false
set_option linter.unusedSimpArgs false

/-! ### laws_markRowS: function 71 -/
def laws_markRowS.l0 : Nat → List (S34) → Int → Int → Option (Int × (List (S34)))
  | 0, _, _, _ => none
  | k + 1, x0, x1, x5 => if x5 < (x0.length : Int) then (if 0 ≤ x5 then ((some (x0.set (x5 : Int).toNat (⟨x1, (rd_T34 x0 x5).f1, (rd_T34 x0 x5).f2, (rd_T34 x0 x5).f3, (rd_T34 x0 x5).f4, (rd_T34 x0 x5).f5, (rd_T34 x0 x5).f6⟩ : S34) : List (S34))).bind fun y206 => ((laws_markText.f k (wrap64 (x1 + 1))).bind fun t207 => ((some (y206.set (x5 : Int).toNat (⟨(rd_T34 y206 x5).f0, t207, (rd_T34 y206 x5).f2, (rd_T34 y206 x5).f3, (rd_T34 y206 x5).f4, (rd_T34 y206 x5).f5, (rd_T34 y206 x5).f6⟩ : S34) : List (S34))).bind fun y208 => ((laws_markText.f k (wrap64 ((wrap64 (x1 + 1)) + 1))).bind fun t209 => ((some (y208.set (x5 : Int).toNat (⟨(rd_T34 y208 x5).f0, (rd_T34 y208 x5).f1, t209, (rd_T34 y208 x5).f3, (rd_T34 y208 x5).f4, (rd_T34 y208 x5).f5, (rd_T34 y208 x5).f6⟩ : S34) : List (S34))).bind fun y210 => ((laws_markText.f k (wrap64 ((wrap64 ((wrap64 (x1 + 1)) + 1)) + 1))).bind fun t211 => ((some (y210.set (x5 : Int).toNat (⟨(rd_T34 y210 x5).f0, (rd_T34 y210 x5).f1, (rd_T34 y210 x5).f2, t211, (rd_T34 y210 x5).f4, (rd_T34 y210 x5).f5, (rd_T34 y210 x5).f6⟩ : S34) : List (S34))).bind fun y212 => ((some (y212.set (x5 : Int).toNat (⟨(rd_T34 y212 x5).f0, (rd_T34 y212 x5).f1, (rd_T34 y212 x5).f2, (rd_T34 y212 x5).f3, ((Int.tmod (wrap64 ((wrap64 ((wrap64 ((wrap64 (x1 + 1)) + 1)) + 1)) + 1)) 3) == 0), (rd_T34 y212 x5).f5, (rd_T34 y212 x5).f6⟩ : S34) : List (S34))).bind fun y213 => ((some (y213.set (x5 : Int).toNat (⟨(rd_T34 y213 x5).f0, (rd_T34 y213 x5).f1, (rd_T34 y213 x5).f2, (rd_T34 y213 x5).f3, (rd_T34 y213 x5).f4, wrap64 ((wrap64 ((wrap64 ((wrap64 ((wrap64 (x1 + 1)) + 1)) + 1)) + 1)) + 1), (rd_T34 y213 x5).f6⟩ : S34) : List (S34))).bind fun y214 => (laws_markRowS.l0 k (y214.set (x5 : Int).toNat (⟨(rd_T34 y214 x5).f0, (rd_T34 y214 x5).f1, (rd_T34 y214 x5).f2, (rd_T34 y214 x5).f3, (rd_T34 y214 x5).f4, (rd_T34 y214 x5).f5, ((Int.tmod (wrap64 ((wrap64 ((wrap64 ((wrap64 ((wrap64 ((wrap64 (x1 + 1)) + 1)) + 1)) + 1)) + 1)) + 1)) 3) == 0)⟩ : S34)) (wrap64 ((wrap64 ((wrap64 ((wrap64 ((wrap64 ((wrap64 ((wrap64 (x1 + 1)) + 1)) + 1)) + 1)) + 1)) + 1)) + 1)) (wrap64 (x5 + 1)))))))))))) else (none)) else (some (x1, x0))
def laws_markRowS.f (k : Nat) (l0 : List (S34)) (a1 : Int) : Option (Int × (List (S34))) := laws_markRowS.l0 k l0 a1 0
theorem laws_markRowS.mono_l : ∀ k, (∀ y0 y1 y2, LeO (laws_markRowS.l0 k y0 y1 y2) (laws_markRowS.l0 (k + 1) y0 y1 y2))
  | 0 => fun _ _ _ r h => by simp [laws_markRowS.l0] at h
  | k + 1 => by
    have ih0 := laws_markRowS.mono_l k
    · intro y0 y1 y2
      unfold laws_markRowS.l0
      repeat' first
      | (with_reducible exact ih0 _ _ _)
      | (with_reducible exact laws_markText.mono _ _)
      | (with_reducible exact LeO.refl _)
      | (with_reducible exact LeO.none _)
      | (with_reducible refine LeO.ite ?_ ?_)
      | (with_reducible refine LeO.bind ?_ (fun _ => ?_))
      | exact ih0 _ _ _
      | exact laws_markText.mono _ _
      | exact LeO.none _
      | refine LeO.ite ?_ ?_
      | refine LeO.bind ?_ (fun _ => ?_)
theorem laws_markRowS.mono : ∀ a0 a1 k, LeO (laws_markRowS.f k a0 a1) (laws_markRowS.f (k + 1) a0 a1) := by
  intro a0 a1 k
  have ih0 := laws_markRowS.mono_l k
  unfold laws_markRowS.f
  repeat' first
      | (with_reducible exact ih0 _ _ _)
      | (with_reducible exact laws_markText.mono _ _)
      | (with_reducible exact LeO.refl _)
      | (with_reducible exact LeO.none _)
      | (with_reducible refine LeO.ite ?_ ?_)
      | (with_reducible refine LeO.bind ?_ (fun _ => ?_))
      | exact ih0 _ _ _
      | exact laws_markText.mono _ _
      | exact LeO.none _
      | refine LeO.ite ?_ ?_
      | refine LeO.bind ?_ (fun _ => ?_)
set_option maxHeartbeats 8000000 in
set_option maxRecDepth 100000 in
theorem laws_markRowS.calls (k : Nat) (P0_ : Nat → Prop) (u9000_ : Value) (l0 : List (S34)) (a1 : Int) (r1 : Int) (r2 : List (S34)) (w0 w : World) (hB : Below w0.heap.size w0 w) (ho0 : Kd.R k34 34 w w0.heap.size P0_ u9000_ l0) (h : laws_markRowS.f k l0 a1 = some (r1, r2)) :
    Calls Tryd.prog 71 #[u9000_, .int .i64 a1] w fun e w' => e = .returned (.int .i64 r1) ∧ Kd.R k34 34 w' w0.heap.size (fun k_ => (P0_ k_ ∨ w.heap.size ≤ k_)) u9000_ r2 ∧ Below w0.heap.size w0 w' ∧ Kept w w' (fun k_ => P0_ k_) := by
  have HO0 := Aside0.mk (show Kd.R k34 34 w w0.heap.size (fun k_ => (P0_ k_ ∨ w.heap.size ≤ k_)) u9000_ l0 from Kd.R_mono ho0 (fun k_ hk => (.inl hk)))
  have HK := Aside0.mk (Kept.refl w (fun k_ => P0_ k_))
  have HW0 := Aside0.mk hB.size
  have HB := Aside0.mk hB
  clear hB
  have H : (laws_markRowS.l0 k l0 a1 0) = some (r1, r2) := h
  clear h
  have H' := Aside0.mk H
  clear H
  go_enter Tryd.func71, Tryd.ntmps71
  go_wp2
  go_loopg [1, 5] k (fun kq v1 v5 w' => ∃ (x0_1 : List (S34)) (x1_1 : Int) (x5_1 : Int), v1 = .int .i64 x1_1 ∧ v5 = .int .i64 x5_1 ∧ Aside0 (laws_markRowS.l0 kq x0_1 x1_1 x5_1 = some (r1, r2)) ∧ Aside0 (kq ≤ k) ∧ Aside0 (Kd.R k34 34 w' w0.heap.size (fun k_ => (P0_ k_ ∨ w.heap.size ≤ k_)) u9000_ x0_1) ∧ Aside0 (Kept w w' (fun k_ => P0_ k_)) ∧ Aside0 (Below w0.heap.size w0 w'))
  case atStart => exact ⟨(l0), (a1), (0), (by first | rfl | (simp; done) | (simp [*]; done)), (by first | rfl | (simp; done) | (simp [*]; done)), H', ⟨Nat.le_refl _⟩, ⟨by (with_reducible repeat (first | apply Kd.R_alloc | apply Kd.R_drewN | apply Kd.R_drew)); exact HO0.out⟩, ⟨by repeat (first | (with_reducible first | exact HK.out | apply Kept.alloc | apply Kept.drewN | apply Kept.drew) | exact HK.out)⟩, ⟨By⟩⟩
  case round =>
    clear H'
    try clear p2
    obtain ⟨x0_1, x1_1, x5_1, rfl, rfl, HA, HK1, HO_0, HK, HB⟩ := hrel
    cases gk with
    | zero => exact absurd HA.out (by simp [laws_markRowS.l0])
    | succ k1 =>
      have H := HA.out
      clear HA
      simp only [laws_markRowS.l0] at H
      by_cases c3 : x5_1 < (x0_1.length : Int)
      · rw [if_pos c3] at H
        have c3b0 : decide (x5_1 < (x0_1.length : Int)) = true := decide_eq_true c3
        clear c3
        by_cases c4 : 0 ≤ x5_1
        · rw [if_pos c4] at H
          have c4b0 : decide (0 ≤ x5_1) = true := decide_eq_true c4
          clear c4
          obtain ⟨y206, hy206⟩ : ∃ y_ : List (S34), y_ = (x0_1.set (x5_1 : Int).toNat (⟨x1_1, (rd_T34 x0_1 x5_1).f1, (rd_T34 x0_1 x5_1).f2, (rd_T34 x0_1 x5_1).f3, (rd_T34 x0_1 x5_1).f4, (rd_T34 x0_1 x5_1).f5, (rd_T34 x0_1 x5_1).f6⟩ : S34)) := ⟨_, rfl⟩
          replace H : ((laws_markText.f k1 (wrap64 (x1_1 + 1))).bind fun t207 => ((some (y206.set (x5_1 : Int).toNat (⟨(rd_T34 y206 x5_1).f0, t207, (rd_T34 y206 x5_1).f2, (rd_T34 y206 x5_1).f3, (rd_T34 y206 x5_1).f4, (rd_T34 y206 x5_1).f5, (rd_T34 y206 x5_1).f6⟩ : S34) : List (S34))).bind fun y208 => ((laws_markText.f k1 (wrap64 ((wrap64 (x1_1 + 1)) + 1))).bind fun t209 => ((some (y208.set (x5_1 : Int).toNat (⟨(rd_T34 y208 x5_1).f0, (rd_T34 y208 x5_1).f1, t209, (rd_T34 y208 x5_1).f3, (rd_T34 y208 x5_1).f4, (rd_T34 y208 x5_1).f5, (rd_T34 y208 x5_1).f6⟩ : S34) : List (S34))).bind fun y210 => ((laws_markText.f k1 (wrap64 ((wrap64 ((wrap64 (x1_1 + 1)) + 1)) + 1))).bind fun t211 => ((some (y210.set (x5_1 : Int).toNat (⟨(rd_T34 y210 x5_1).f0, (rd_T34 y210 x5_1).f1, (rd_T34 y210 x5_1).f2, t211, (rd_T34 y210 x5_1).f4, (rd_T34 y210 x5_1).f5, (rd_T34 y210 x5_1).f6⟩ : S34) : List (S34))).bind fun y212 => ((some (y212.set (x5_1 : Int).toNat (⟨(rd_T34 y212 x5_1).f0, (rd_T34 y212 x5_1).f1, (rd_T34 y212 x5_1).f2, (rd_T34 y212 x5_1).f3, ((Int.tmod (wrap64 ((wrap64 ((wrap64 ((wrap64 (x1_1 + 1)) + 1)) + 1)) + 1)) 3) == 0), (rd_T34 y212 x5_1).f5, (rd_T34 y212 x5_1).f6⟩ : S34) : List (S34))).bind fun y213 => ((some (y213.set (x5_1 : Int).toNat (⟨(rd_T34 y213 x5_1).f0, (rd_T34 y213 x5_1).f1, (rd_T34 y213 x5_1).f2, (rd_T34 y213 x5_1).f3, (rd_T34 y213 x5_1).f4, wrap64 ((wrap64 ((wrap64 ((wrap64 ((wrap64 (x1_1 + 1)) + 1)) + 1)) + 1)) + 1), (rd_T34 y213 x5_1).f6⟩ : S34) : List (S34))).bind fun y214 => (laws_markRowS.l0 k1 (y214.set (x5_1 : Int).toNat (⟨(rd_T34 y214 x5_1).f0, (rd_T34 y214 x5_1).f1, (rd_T34 y214 x5_1).f2, (rd_T34 y214 x5_1).f3, (rd_T34 y214 x5_1).f4, (rd_T34 y214 x5_1).f5, ((Int.tmod (wrap64 ((wrap64 ((wrap64 ((wrap64 ((wrap64 ((wrap64 (x1_1 + 1)) + 1)) + 1)) + 1)) + 1)) + 1)) 3) == 0)⟩ : S34)) (wrap64 ((wrap64 ((wrap64 ((wrap64 ((wrap64 ((wrap64 ((wrap64 (x1_1 + 1)) + 1)) + 1)) + 1)) + 1)) + 1)) + 1)) (wrap64 (x5_1 + 1))))))))))) = some (r1, r2) := by first | (rw [hy206]; with_reducible exact H) | (have H2_ := (Option.bind_some _ _).symm.trans H; rw [hy206]; with_reducible exact H2_) | (have H2_ := (Option.bind_some _ _).symm.trans H; with_reducible exact H2_) | with_reducible exact H | (rw [hy206]; exact H) | exact H
          have Ny206 := Aside0.mk hy206
          clear hy206
          replace H := Option.bind_eq_some_iff.mp H
          obtain ⟨t207, A60, H⟩ := H
          replace H : ((some (y206.set (x5_1 : Int).toNat (⟨(rd_T34 y206 x5_1).f0, t207, (rd_T34 y206 x5_1).f2, (rd_T34 y206 x5_1).f3, (rd_T34 y206 x5_1).f4, (rd_T34 y206 x5_1).f5, (rd_T34 y206 x5_1).f6⟩ : S34) : List (S34))).bind fun y208 => ((laws_markText.f k1 (wrap64 ((wrap64 (x1_1 + 1)) + 1))).bind fun t209 => ((some (y208.set (x5_1 : Int).toNat (⟨(rd_T34 y208 x5_1).f0, (rd_T34 y208 x5_1).f1, t209, (rd_T34 y208 x5_1).f3, (rd_T34 y208 x5_1).f4, (rd_T34 y208 x5_1).f5, (rd_T34 y208 x5_1).f6⟩ : S34) : List (S34))).bind fun y210 => ((laws_markText.f k1 (wrap64 ((wrap64 ((wrap64 (x1_1 + 1)) + 1)) + 1))).bind fun t211 => ((some (y210.set (x5_1 : Int).toNat (⟨(rd_T34 y210 x5_1).f0, (rd_T34 y210 x5_1).f1, (rd_T34 y210 x5_1).f2, t211, (rd_T34 y210 x5_1).f4, (rd_T34 y210 x5_1).f5, (rd_T34 y210 x5_1).f6⟩ : S34) : List (S34))).bind fun y212 => ((some (y212.set (x5_1 : Int).toNat (⟨(rd_T34 y212 x5_1).f0, (rd_T34 y212 x5_1).f1, (rd_T34 y212 x5_1).f2, (rd_T34 y212 x5_1).f3, ((Int.tmod (wrap64 ((wrap64 ((wrap64 ((wrap64 (x1_1 + 1)) + 1)) + 1)) + 1)) 3) == 0), (rd_T34 y212 x5_1).f5, (rd_T34 y212 x5_1).f6⟩ : S34) : List (S34))).bind fun y213 => ((some (y213.set (x5_1 : Int).toNat (⟨(rd_T34 y213 x5_1).f0, (rd_T34 y213 x5_1).f1, (rd_T34 y213 x5_1).f2, (rd_T34 y213 x5_1).f3, (rd_T34 y213 x5_1).f4, wrap64 ((wrap64 ((wrap64 ((wrap64 ((wrap64 (x1_1 + 1)) + 1)) + 1)) + 1)) + 1), (rd_T34 y213 x5_1).f6⟩ : S34) : List (S34))).bind fun y214 => (laws_markRowS.l0 k1 (y214.set (x5_1 : Int).toNat (⟨(rd_T34 y214 x5_1).f0, (rd_T34 y214 x5_1).f1, (rd_T34 y214 x5_1).f2, (rd_T34 y214 x5_1).f3, (rd_T34 y214 x5_1).f4, (rd_T34 y214 x5_1).f5, ((Int.tmod (wrap64 ((wrap64 ((wrap64 ((wrap64 ((wrap64 ((wrap64 (x1_1 + 1)) + 1)) + 1)) + 1)) + 1)) + 1)) 3) == 0)⟩ : S34)) (wrap64 ((wrap64 ((wrap64 ((wrap64 ((wrap64 ((wrap64 ((wrap64 (x1_1 + 1)) + 1)) + 1)) + 1)) + 1)) + 1)) + 1)) (wrap64 (x5_1 + 1)))))))))) = some (r1, r2) := H
          have A6 := Aside0.mk A60
          clear A60
          obtain ⟨y208, hy208⟩ : ∃ y_ : List (S34), y_ = (y206.set (x5_1 : Int).toNat (⟨(rd_T34 y206 x5_1).f0, t207, (rd_T34 y206 x5_1).f2, (rd_T34 y206 x5_1).f3, (rd_T34 y206 x5_1).f4, (rd_T34 y206 x5_1).f5, (rd_T34 y206 x5_1).f6⟩ : S34)) := ⟨_, rfl⟩
          replace H : ((laws_markText.f k1 (wrap64 ((wrap64 (x1_1 + 1)) + 1))).bind fun t209 => ((some (y208.set (x5_1 : Int).toNat (⟨(rd_T34 y208 x5_1).f0, (rd_T34 y208 x5_1).f1, t209, (rd_T34 y208 x5_1).f3, (rd_T34 y208 x5_1).f4, (rd_T34 y208 x5_1).f5, (rd_T34 y208 x5_1).f6⟩ : S34) : List (S34))).bind fun y210 => ((laws_markText.f k1 (wrap64 ((wrap64 ((wrap64 (x1_1 + 1)) + 1)) + 1))).bind fun t211 => ((some (y210.set (x5_1 : Int).toNat (⟨(rd_T34 y210 x5_1).f0, (rd_T34 y210 x5_1).f1, (rd_T34 y210 x5_1).f2, t211, (rd_T34 y210 x5_1).f4, (rd_T34 y210 x5_1).f5, (rd_T34 y210 x5_1).f6⟩ : S34) : List (S34))).bind fun y212 => ((some (y212.set (x5_1 : Int).toNat (⟨(rd_T34 y212 x5_1).f0, (rd_T34 y212 x5_1).f1, (rd_T34 y212 x5_1).f2, (rd_T34 y212 x5_1).f3, ((Int.tmod (wrap64 ((wrap64 ((wrap64 ((wrap64 (x1_1 + 1)) + 1)) + 1)) + 1)) 3) == 0), (rd_T34 y212 x5_1).f5, (rd_T34 y212 x5_1).f6⟩ : S34) : List (S34))).bind fun y213 => ((some (y213.set (x5_1 : Int).toNat (⟨(rd_T34 y213 x5_1).f0, (rd_T34 y213 x5_1).f1, (rd_T34 y213 x5_1).f2, (rd_T34 y213 x5_1).f3, (rd_T34 y213 x5_1).f4, wrap64 ((wrap64 ((wrap64 ((wrap64 ((wrap64 (x1_1 + 1)) + 1)) + 1)) + 1)) + 1), (rd_T34 y213 x5_1).f6⟩ : S34) : List (S34))).bind fun y214 => (laws_markRowS.l0 k1 (y214.set (x5_1 : Int).toNat (⟨(rd_T34 y214 x5_1).f0, (rd_T34 y214 x5_1).f1, (rd_T34 y214 x5_1).f2, (rd_T34 y214 x5_1).f3, (rd_T34 y214 x5_1).f4, (rd_T34 y214 x5_1).f5, ((Int.tmod (wrap64 ((wrap64 ((wrap64 ((wrap64 ((wrap64 ((wrap64 (x1_1 + 1)) + 1)) + 1)) + 1)) + 1)) + 1)) 3) == 0)⟩ : S34)) (wrap64 ((wrap64 ((wrap64 ((wrap64 ((wrap64 ((wrap64 ((wrap64 (x1_1 + 1)) + 1)) + 1)) + 1)) + 1)) + 1)) + 1)) (wrap64 (x5_1 + 1))))))))) = some (r1, r2) := by first | (rw [hy208]; with_reducible exact H) | (have H2_ := (Option.bind_some _ _).symm.trans H; rw [hy208]; with_reducible exact H2_) | (have H2_ := (Option.bind_some _ _).symm.trans H; with_reducible exact H2_) | with_reducible exact H | (rw [hy208]; exact H) | exact H
          have Ny208 := Aside0.mk hy208
          clear hy208
          replace H := Option.bind_eq_some_iff.mp H
          obtain ⟨t209, A80, H⟩ := H
          replace H : ((some (y208.set (x5_1 : Int).toNat (⟨(rd_T34 y208 x5_1).f0, (rd_T34 y208 x5_1).f1, t209, (rd_T34 y208 x5_1).f3, (rd_T34 y208 x5_1).f4, (rd_T34 y208 x5_1).f5, (rd_T34 y208 x5_1).f6⟩ : S34) : List (S34))).bind fun y210 => ((laws_markText.f k1 (wrap64 ((wrap64 ((wrap64 (x1_1 + 1)) + 1)) + 1))).bind fun t211 => ((some (y210.set (x5_1 : Int).toNat (⟨(rd_T34 y210 x5_1).f0, (rd_T34 y210 x5_1).f1, (rd_T34 y210 x5_1).f2, t211, (rd_T34 y210 x5_1).f4, (rd_T34 y210 x5_1).f5, (rd_T34 y210 x5_1).f6⟩ : S34) : List (S34))).bind fun y212 => ((some (y212.set (x5_1 : Int).toNat (⟨(rd_T34 y212 x5_1).f0, (rd_T34 y212 x5_1).f1, (rd_T34 y212 x5_1).f2, (rd_T34 y212 x5_1).f3, ((Int.tmod (wrap64 ((wrap64 ((wrap64 ((wrap64 (x1_1 + 1)) + 1)) + 1)) + 1)) 3) == 0), (rd_T34 y212 x5_1).f5, (rd_T34 y212 x5_1).f6⟩ : S34) : List (S34))).bind fun y213 => ((some (y213.set (x5_1 : Int).toNat (⟨(rd_T34 y213 x5_1).f0, (rd_T34 y213 x5_1).f1, (rd_T34 y213 x5_1).f2, (rd_T34 y213 x5_1).f3, (rd_T34 y213 x5_1).f4, wrap64 ((wrap64 ((wrap64 ((wrap64 ((wrap64 (x1_1 + 1)) + 1)) + 1)) + 1)) + 1), (rd_T34 y213 x5_1).f6⟩ : S34) : List (S34))).bind fun y214 => (laws_markRowS.l0 k1 (y214.set (x5_1 : Int).toNat (⟨(rd_T34 y214 x5_1).f0, (rd_T34 y214 x5_1).f1, (rd_T34 y214 x5_1).f2, (rd_T34 y214 x5_1).f3, (rd_T34 y214 x5_1).f4, (rd_T34 y214 x5_1).f5, ((Int.tmod (wrap64 ((wrap64 ((wrap64 ((wrap64 ((wrap64 ((wrap64 (x1_1 + 1)) + 1)) + 1)) + 1)) + 1)) + 1)) 3) == 0)⟩ : S34)) (wrap64 ((wrap64 ((wrap64 ((wrap64 ((wrap64 ((wrap64 ((wrap64 (x1_1 + 1)) + 1)) + 1)) + 1)) + 1)) + 1)) + 1)) (wrap64 (x5_1 + 1)))))))) = some (r1, r2) := H
          have A8 := Aside0.mk A80
          clear A80
          obtain ⟨y210, hy210⟩ : ∃ y_ : List (S34), y_ = (y208.set (x5_1 : Int).toNat (⟨(rd_T34 y208 x5_1).f0, (rd_T34 y208 x5_1).f1, t209, (rd_T34 y208 x5_1).f3, (rd_T34 y208 x5_1).f4, (rd_T34 y208 x5_1).f5, (rd_T34 y208 x5_1).f6⟩ : S34)) := ⟨_, rfl⟩
          replace H : ((laws_markText.f k1 (wrap64 ((wrap64 ((wrap64 (x1_1 + 1)) + 1)) + 1))).bind fun t211 => ((some (y210.set (x5_1 : Int).toNat (⟨(rd_T34 y210 x5_1).f0, (rd_T34 y210 x5_1).f1, (rd_T34 y210 x5_1).f2, t211, (rd_T34 y210 x5_1).f4, (rd_T34 y210 x5_1).f5, (rd_T34 y210 x5_1).f6⟩ : S34) : List (S34))).bind fun y212 => ((some (y212.set (x5_1 : Int).toNat (⟨(rd_T34 y212 x5_1).f0, (rd_T34 y212 x5_1).f1, (rd_T34 y212 x5_1).f2, (rd_T34 y212 x5_1).f3, ((Int.tmod (wrap64 ((wrap64 ((wrap64 ((wrap64 (x1_1 + 1)) + 1)) + 1)) + 1)) 3) == 0), (rd_T34 y212 x5_1).f5, (rd_T34 y212 x5_1).f6⟩ : S34) : List (S34))).bind fun y213 => ((some (y213.set (x5_1 : Int).toNat (⟨(rd_T34 y213 x5_1).f0, (rd_T34 y213 x5_1).f1, (rd_T34 y213 x5_1).f2, (rd_T34 y213 x5_1).f3, (rd_T34 y213 x5_1).f4, wrap64 ((wrap64 ((wrap64 ((wrap64 ((wrap64 (x1_1 + 1)) + 1)) + 1)) + 1)) + 1), (rd_T34 y213 x5_1).f6⟩ : S34) : List (S34))).bind fun y214 => (laws_markRowS.l0 k1 (y214.set (x5_1 : Int).toNat (⟨(rd_T34 y214 x5_1).f0, (rd_T34 y214 x5_1).f1, (rd_T34 y214 x5_1).f2, (rd_T34 y214 x5_1).f3, (rd_T34 y214 x5_1).f4, (rd_T34 y214 x5_1).f5, ((Int.tmod (wrap64 ((wrap64 ((wrap64 ((wrap64 ((wrap64 ((wrap64 (x1_1 + 1)) + 1)) + 1)) + 1)) + 1)) + 1)) 3) == 0)⟩ : S34)) (wrap64 ((wrap64 ((wrap64 ((wrap64 ((wrap64 ((wrap64 ((wrap64 (x1_1 + 1)) + 1)) + 1)) + 1)) + 1)) + 1)) + 1)) (wrap64 (x5_1 + 1))))))) = some (r1, r2) := by first | (rw [hy210]; with_reducible exact H) | (have H2_ := (Option.bind_some _ _).symm.trans H; rw [hy210]; with_reducible exact H2_) | (have H2_ := (Option.bind_some _ _).symm.trans H; with_reducible exact H2_) | with_reducible exact H | (rw [hy210]; exact H) | exact H
          have Ny210 := Aside0.mk hy210
          clear hy210
          replace H := Option.bind_eq_some_iff.mp H
          obtain ⟨t211, A100, H⟩ := H
          replace H : ((some (y210.set (x5_1 : Int).toNat (⟨(rd_T34 y210 x5_1).f0, (rd_T34 y210 x5_1).f1, (rd_T34 y210 x5_1).f2, t211, (rd_T34 y210 x5_1).f4, (rd_T34 y210 x5_1).f5, (rd_T34 y210 x5_1).f6⟩ : S34) : List (S34))).bind fun y212 => ((some (y212.set (x5_1 : Int).toNat (⟨(rd_T34 y212 x5_1).f0, (rd_T34 y212 x5_1).f1, (rd_T34 y212 x5_1).f2, (rd_T34 y212 x5_1).f3, ((Int.tmod (wrap64 ((wrap64 ((wrap64 ((wrap64 (x1_1 + 1)) + 1)) + 1)) + 1)) 3) == 0), (rd_T34 y212 x5_1).f5, (rd_T34 y212 x5_1).f6⟩ : S34) : List (S34))).bind fun y213 => ((some (y213.set (x5_1 : Int).toNat (⟨(rd_T34 y213 x5_1).f0, (rd_T34 y213 x5_1).f1, (rd_T34 y213 x5_1).f2, (rd_T34 y213 x5_1).f3, (rd_T34 y213 x5_1).f4, wrap64 ((wrap64 ((wrap64 ((wrap64 ((wrap64 (x1_1 + 1)) + 1)) + 1)) + 1)) + 1), (rd_T34 y213 x5_1).f6⟩ : S34) : List (S34))).bind fun y214 => (laws_markRowS.l0 k1 (y214.set (x5_1 : Int).toNat (⟨(rd_T34 y214 x5_1).f0, (rd_T34 y214 x5_1).f1, (rd_T34 y214 x5_1).f2, (rd_T34 y214 x5_1).f3, (rd_T34 y214 x5_1).f4, (rd_T34 y214 x5_1).f5, ((Int.tmod (wrap64 ((wrap64 ((wrap64 ((wrap64 ((wrap64 ((wrap64 (x1_1 + 1)) + 1)) + 1)) + 1)) + 1)) + 1)) 3) == 0)⟩ : S34)) (wrap64 ((wrap64 ((wrap64 ((wrap64 ((wrap64 ((wrap64 ((wrap64 (x1_1 + 1)) + 1)) + 1)) + 1)) + 1)) + 1)) + 1)) (wrap64 (x5_1 + 1)))))) = some (r1, r2) := H
          have A10 := Aside0.mk A100
          clear A100
          obtain ⟨y212, hy212⟩ : ∃ y_ : List (S34), y_ = (y210.set (x5_1 : Int).toNat (⟨(rd_T34 y210 x5_1).f0, (rd_T34 y210 x5_1).f1, (rd_T34 y210 x5_1).f2, t211, (rd_T34 y210 x5_1).f4, (rd_T34 y210 x5_1).f5, (rd_T34 y210 x5_1).f6⟩ : S34)) := ⟨_, rfl⟩
          replace H : ((some (y212.set (x5_1 : Int).toNat (⟨(rd_T34 y212 x5_1).f0, (rd_T34 y212 x5_1).f1, (rd_T34 y212 x5_1).f2, (rd_T34 y212 x5_1).f3, ((Int.tmod (wrap64 ((wrap64 ((wrap64 ((wrap64 (x1_1 + 1)) + 1)) + 1)) + 1)) 3) == 0), (rd_T34 y212 x5_1).f5, (rd_T34 y212 x5_1).f6⟩ : S34) : List (S34))).bind fun y213 => ((some (y213.set (x5_1 : Int).toNat (⟨(rd_T34 y213 x5_1).f0, (rd_T34 y213 x5_1).f1, (rd_T34 y213 x5_1).f2, (rd_T34 y213 x5_1).f3, (rd_T34 y213 x5_1).f4, wrap64 ((wrap64 ((wrap64 ((wrap64 ((wrap64 (x1_1 + 1)) + 1)) + 1)) + 1)) + 1), (rd_T34 y213 x5_1).f6⟩ : S34) : List (S34))).bind fun y214 => (laws_markRowS.l0 k1 (y214.set (x5_1 : Int).toNat (⟨(rd_T34 y214 x5_1).f0, (rd_T34 y214 x5_1).f1, (rd_T34 y214 x5_1).f2, (rd_T34 y214 x5_1).f3, (rd_T34 y214 x5_1).f4, (rd_T34 y214 x5_1).f5, ((Int.tmod (wrap64 ((wrap64 ((wrap64 ((wrap64 ((wrap64 ((wrap64 (x1_1 + 1)) + 1)) + 1)) + 1)) + 1)) + 1)) 3) == 0)⟩ : S34)) (wrap64 ((wrap64 ((wrap64 ((wrap64 ((wrap64 ((wrap64 ((wrap64 (x1_1 + 1)) + 1)) + 1)) + 1)) + 1)) + 1)) + 1)) (wrap64 (x5_1 + 1))))) = some (r1, r2) := by first | (rw [hy212]; with_reducible exact H) | (have H2_ := (Option.bind_some _ _).symm.trans H; rw [hy212]; with_reducible exact H2_) | (have H2_ := (Option.bind_some _ _).symm.trans H; with_reducible exact H2_) | with_reducible exact H | (rw [hy212]; exact H) | exact H
          have Ny212 := Aside0.mk hy212
          clear hy212
          obtain ⟨y213, hy213⟩ : ∃ y_ : List (S34), y_ = (y212.set (x5_1 : Int).toNat (⟨(rd_T34 y212 x5_1).f0, (rd_T34 y212 x5_1).f1, (rd_T34 y212 x5_1).f2, (rd_T34 y212 x5_1).f3, ((Int.tmod (wrap64 ((wrap64 ((wrap64 ((wrap64 (x1_1 + 1)) + 1)) + 1)) + 1)) 3) == 0), (rd_T34 y212 x5_1).f5, (rd_T34 y212 x5_1).f6⟩ : S34)) := ⟨_, rfl⟩
          replace H : ((some (y213.set (x5_1 : Int).toNat (⟨(rd_T34 y213 x5_1).f0, (rd_T34 y213 x5_1).f1, (rd_T34 y213 x5_1).f2, (rd_T34 y213 x5_1).f3, (rd_T34 y213 x5_1).f4, wrap64 ((wrap64 ((wrap64 ((wrap64 ((wrap64 (x1_1 + 1)) + 1)) + 1)) + 1)) + 1), (rd_T34 y213 x5_1).f6⟩ : S34) : List (S34))).bind fun y214 => (laws_markRowS.l0 k1 (y214.set (x5_1 : Int).toNat (⟨(rd_T34 y214 x5_1).f0, (rd_T34 y214 x5_1).f1, (rd_T34 y214 x5_1).f2, (rd_T34 y214 x5_1).f3, (rd_T34 y214 x5_1).f4, (rd_T34 y214 x5_1).f5, ((Int.tmod (wrap64 ((wrap64 ((wrap64 ((wrap64 ((wrap64 ((wrap64 (x1_1 + 1)) + 1)) + 1)) + 1)) + 1)) + 1)) 3) == 0)⟩ : S34)) (wrap64 ((wrap64 ((wrap64 ((wrap64 ((wrap64 ((wrap64 ((wrap64 (x1_1 + 1)) + 1)) + 1)) + 1)) + 1)) + 1)) + 1)) (wrap64 (x5_1 + 1)))) = some (r1, r2) := by first | (rw [hy213]; with_reducible exact H) | (have H2_ := (Option.bind_some _ _).symm.trans H; rw [hy213]; with_reducible exact H2_) | (have H2_ := (Option.bind_some _ _).symm.trans H; with_reducible exact H2_) | with_reducible exact H | (rw [hy213]; exact H) | exact H
          have Ny213 := Aside0.mk hy213
          clear hy213
          obtain ⟨y214, hy214⟩ : ∃ y_ : List (S34), y_ = (y213.set (x5_1 : Int).toNat (⟨(rd_T34 y213 x5_1).f0, (rd_T34 y213 x5_1).f1, (rd_T34 y213 x5_1).f2, (rd_T34 y213 x5_1).f3, (rd_T34 y213 x5_1).f4, wrap64 ((wrap64 ((wrap64 ((wrap64 ((wrap64 (x1_1 + 1)) + 1)) + 1)) + 1)) + 1), (rd_T34 y213 x5_1).f6⟩ : S34)) := ⟨_, rfl⟩
          replace H : (laws_markRowS.l0 k1 (y214.set (x5_1 : Int).toNat (⟨(rd_T34 y214 x5_1).f0, (rd_T34 y214 x5_1).f1, (rd_T34 y214 x5_1).f2, (rd_T34 y214 x5_1).f3, (rd_T34 y214 x5_1).f4, (rd_T34 y214 x5_1).f5, ((Int.tmod (wrap64 ((wrap64 ((wrap64 ((wrap64 ((wrap64 ((wrap64 (x1_1 + 1)) + 1)) + 1)) + 1)) + 1)) + 1)) 3) == 0)⟩ : S34)) (wrap64 ((wrap64 ((wrap64 ((wrap64 ((wrap64 ((wrap64 ((wrap64 (x1_1 + 1)) + 1)) + 1)) + 1)) + 1)) + 1)) + 1)) (wrap64 (x5_1 + 1))) = some (r1, r2) := by first | (rw [hy214]; with_reducible exact H) | (have H2_ := (Option.bind_some _ _).symm.trans H; rw [hy214]; with_reducible exact H2_) | (have H2_ := (Option.bind_some _ _).symm.trans H; with_reducible exact H2_) | with_reducible exact H | (rw [hy214]; exact H) | exact H
          have Ny214 := Aside0.mk hy214
          clear hy214
          obtain ⟨y215, hy215⟩ : ∃ y_ : List (S34), y_ = (y214.set (x5_1 : Int).toNat (⟨(rd_T34 y214 x5_1).f0, (rd_T34 y214 x5_1).f1, (rd_T34 y214 x5_1).f2, (rd_T34 y214 x5_1).f3, (rd_T34 y214 x5_1).f4, (rd_T34 y214 x5_1).f5, ((Int.tmod (wrap64 ((wrap64 ((wrap64 ((wrap64 ((wrap64 ((wrap64 (x1_1 + 1)) + 1)) + 1)) + 1)) + 1)) + 1)) 3) == 0)⟩ : S34)) := ⟨_, rfl⟩
          replace H : (laws_markRowS.l0 k1 y215 (wrap64 ((wrap64 ((wrap64 ((wrap64 ((wrap64 ((wrap64 ((wrap64 (x1_1 + 1)) + 1)) + 1)) + 1)) + 1)) + 1)) + 1)) (wrap64 (x5_1 + 1))) = some (r1, r2) := by first | (rw [hy215]; with_reducible exact H) | (have H2_ := (Option.bind_some _ _).symm.trans H; rw [hy215]; with_reducible exact H2_) | (have H2_ := (Option.bind_some _ _).symm.trans H; with_reducible exact H2_) | with_reducible exact H | (rw [hy215]; exact H) | exact H
          have Ny215 := Aside0.mk hy215
          clear hy215
          have H' := Aside0.mk H
          clear H
          obtain ⟨Ao15, co15, eo15⟩ := Kd.R_slice HO_0.out
          subst eo15
          have p5 : 0 ≤ (x5_1 : Int) := of_decide_eq_true Da
          have q5 : (x5_1 : Int) < ((x0_1.length : Int) : Int) := of_decide_eq_true Da
          obtain ⟨go5, co5, eo5, gb5, gl5, cl5, HG5⟩ := Kd.R_form HO_0.out (by omega)
          (first | cases eo5 | (injection eo5 with ea_ en_ ec_; (first | subst ea_ | (injection ea_ with ea_; subst ea_)); subst ec_; clear en_))
          have GB5 := Aside0.mk gb5
          have GG5 := Aside0.mk HG5
          clear gb5 gl5 HG5
          have HMgo5 := Aside0.mk (show (P0_ go5 ∨ w.heap.size ≤ go5) from (HO_0.out.1 _ rfl))
          obtain ⟨ce5, hcl5, hM5, hcc5, hfr5⟩ := Kd.R_elem HO_0.out z34 (x5_1 : Int) p5 q5
          obtain rfl := k34_openM hM5
          have hx5_0 : wr.cell? ⟨go5, (x5_1 : Int).toNat * 7, none⟩ = some (.int .i64 ((rd_T34 x0_1 x5_1).f0)) := hcc5 0 _ rfl
          have hx5_1 : wr.cell? ⟨go5, (x5_1 : Int).toNat * 7 + 1, none⟩ = some (.string ((rd_T34 x0_1 x5_1).f1)) := hcc5 1 _ rfl
          have hx5_2 : wr.cell? ⟨go5, (x5_1 : Int).toNat * 7 + 2, none⟩ = some (.string ((rd_T34 x0_1 x5_1).f2)) := hcc5 2 _ rfl
          have hx5_3 : wr.cell? ⟨go5, (x5_1 : Int).toNat * 7 + 3, none⟩ = some (.string ((rd_T34 x0_1 x5_1).f3)) := hcc5 3 _ rfl
          have hx5_4 : wr.cell? ⟨go5, (x5_1 : Int).toNat * 7 + 4, none⟩ = some (.bool ((rd_T34 x0_1 x5_1).f4)) := hcc5 4 _ rfl
          have hx5_5 : wr.cell? ⟨go5, (x5_1 : Int).toNat * 7 + 5, none⟩ = some (.int .i64 ((rd_T34 x0_1 x5_1).f5)) := hcc5 5 _ rfl
          have hx5_6 : wr.cell? ⟨go5, (x5_1 : Int).toNat * 7 + 6, none⟩ = some (.bool ((rd_T34 x0_1 x5_1).f6)) := hcc5 6 _ rfl
          have hf5_0 : wr.frozen? ⟨go5, (x5_1 : Int).toNat * 7, none⟩ = false := hfr5 0
          have hf5_1 : wr.frozen? ⟨go5, (x5_1 : Int).toNat * 7 + 1, none⟩ = false := hfr5 1
          have hf5_2 : wr.frozen? ⟨go5, (x5_1 : Int).toNat * 7 + 2, none⟩ = false := hfr5 2
          have hf5_3 : wr.frozen? ⟨go5, (x5_1 : Int).toNat * 7 + 3, none⟩ = false := hfr5 3
          have hf5_4 : wr.frozen? ⟨go5, (x5_1 : Int).toNat * 7 + 4, none⟩ = false := hfr5 4
          have hf5_5 : wr.frozen? ⟨go5, (x5_1 : Int).toNat * 7 + 5, none⟩ = false := hfr5 5
          have hf5_6 : wr.frozen? ⟨go5, (x5_1 : Int).toNat * 7 + 6, none⟩ = false := hfr5 6
          clear hcl5 hcc5 hfr5 hM5
          replace p5 := eq_true p5
          replace q5 := eq_true q5
          have HX16 := Aside0.mk (show Kd.R k34 34 wr w0.heap.size (fun k_ => (P0_ k_ ∨ w.heap.size ≤ k_)) (.slice (some ⟨go5, 0, none⟩) x0_1.length co15) x0_1 from (rR HO_0.out))
          obtain ⟨ce16, hcl16, hM16, hcc16, hfr16⟩ := Kd.R_elem HX16.out z34 (x5_1 : Int) (of_decide_eq_true Da) (by have h_ : (x5_1 : Int) < ((x0_1.length : Int) : Int) := of_decide_eq_true Da; first | exact h_ | (have e_ := (Kd.R_reads' HO_0.out).1; omega) | simpa using h_)
          obtain rfl := k34_openM hM16
          have HP16 := Kd.R_seg HX16.out (x5_1 : Int) (of_decide_eq_true Da) (by have h_ : (x5_1 : Int) < ((x0_1.length : Int) : Int) := of_decide_eq_true Da; first | exact h_ | (have e_ := (Kd.R_reads' HO_0.out).1; omega) | simpa using h_) (seg := [.int .i64 x1_1]) (j := 0) hcl16 hcc16 (show 1 ≤ 7 from by decide) (x' := (⟨x1_1, (rd_T34 x0_1 x5_1).f1, (rd_T34 x0_1 x5_1).f2, (rd_T34 x0_1 x5_1).f3, (rd_T34 x0_1 x5_1).f4, (rd_T34 x0_1 x5_1).f5, (rd_T34 x0_1 x5_1).f6⟩ : S34)) (k34_mkM _ _ _ (⟨x1_1, (rd_T34 x0_1 x5_1).f1, (rd_T34 x0_1 x5_1).f2, (rd_T34 x0_1 x5_1).f3, (rd_T34 x0_1 x5_1).f4, (rd_T34 x0_1 x5_1).f5, (rd_T34 x0_1 x5_1).f6⟩ : S34) ) (fun _ hk => hk)
          have hx16_0 := hcc16 0 _ rfl
          (try simp only [show (k34).sz = 7 from rfl, Nat.mul_one, Nat.add_zero] at hx16_0)
          have hf16_0 := hfr16 0
          (try simp only [show (k34).sz = 7 from rfl, Nat.mul_one, Nat.add_zero] at hf16_0)
          clear hcl16 hcc16 hfr16 hM16
          go_wp2_with (first | ((with_reducible refine gate_store (t := 2) (p := 16) rfl ?_); refine store_event (t := 2) (p := 16) (v := ?vo_w17) (w1 := (wr.setCell ⟨go5, (x5_1 : Int).toNat * 7, none⟩ (.int .i64 x1_1))) ?hg ?ho ?hn ?hr ?_; (case ho => rfl); (case hg => rfl); (case hn => rfl); (case hr => first | (go_simp; done) | (go_simp; rfl)); intro w17 hw; have hg : wr.grownBy w17 (some go5) := (by rw [hw]; exact HP16.2); have hp_ : Kd.R k34 34 w17 w0.heap.size (fun k_ => (P0_ k_ ∨ w.heap.size ≤ k_)) (.slice (some ⟨go5, 0, none⟩) x0_1.length co15) y206 := (by rw [hw, Ny206.out]; exact HP16.1); clear HP16; have n0_ := Aside0.mk (hp_); have n1_ := Aside0.mk ((by rw [hw]; exact below_set (HB.out) GB5.out : Below w0.heap.size w0 w17)); have n2_ := Aside0.mk (Kept.of_grown (S := (fun k_ => P0_ k_)) hg (by repeat (first | (with_reducible first | exact HK.out | apply Kept.alloc | apply Kept.drewN | apply Kept.drew) | exact HK.out)) (fun k_ e_ => (HO_0.out.1 k_ e_))); clear HO_0; clear HB; clear HK; have HO_0 := n0_; have HB := n1_; have HK := n2_; clear n0_ n1_ n2_; clear hg hw hp_) | ((with_reducible refine gate_callee (f := 103) rfl ?_); refine goesL_ (some 22) rfl rfl Tryd.func103 (by kernel_rfl) rfl #[.int .i64 (wrap64 (x1_1 + 1))] rfl Ag ?_; (with_reducible refine (laws_markText.calls k1 (wrap64 (x1_1 + 1)) t207 _ A6.out).mono ?_); rintro e w18 ⟨rfl, hb⟩; refine ⟨_, rfl, ?_⟩; have n0_ := Aside0.mk (Kd.R_below (rR HO_0.out) hb); have n1_ := Aside0.mk (Kept.below (S := (fun k_ => P0_ k_)) (by repeat (first | (with_reducible first | exact HK.out | apply Kept.alloc | apply Kept.drewN | apply Kept.drew) | exact HK.out)) hb); have n2_ := Aside0.mk (below_step By hb); clear HO_0; clear HK; clear HB; have HO_0 := n0_; have HK := n1_; have HB := n2_; clear n0_ n1_ n2_; (try clear hb); (try clear hb2); (try clear hk); (try clear hi); have p7 : 0 ≤ (x5_1 : Int) := of_decide_eq_true Da; have q7 : (x5_1 : Int) < ((x0_1.length : Int) : Int) := of_decide_eq_true Da; obtain ⟨ce7, hcl7, hM7, hcc7, hfr7⟩ := Kd.R_elem HO_0.out z34 (x5_1 : Int) p7 q7; obtain rfl := k34_openM hM7; have hx7_0 : w18.cell? ⟨go5, (x5_1 : Int).toNat * 7, none⟩ = some (.int .i64 ((rd_T34 y206 x5_1).f0)) := hcc7 0 _ rfl; have hx7_1 : w18.cell? ⟨go5, (x5_1 : Int).toNat * 7 + 1, none⟩ = some (.string ((rd_T34 y206 x5_1).f1)) := hcc7 1 _ rfl; have hx7_2 : w18.cell? ⟨go5, (x5_1 : Int).toNat * 7 + 2, none⟩ = some (.string ((rd_T34 y206 x5_1).f2)) := hcc7 2 _ rfl; have hx7_3 : w18.cell? ⟨go5, (x5_1 : Int).toNat * 7 + 3, none⟩ = some (.string ((rd_T34 y206 x5_1).f3)) := hcc7 3 _ rfl; have hx7_4 : w18.cell? ⟨go5, (x5_1 : Int).toNat * 7 + 4, none⟩ = some (.bool ((rd_T34 y206 x5_1).f4)) := hcc7 4 _ rfl; have hx7_5 : w18.cell? ⟨go5, (x5_1 : Int).toNat * 7 + 5, none⟩ = some (.int .i64 ((rd_T34 y206 x5_1).f5)) := hcc7 5 _ rfl; have hx7_6 : w18.cell? ⟨go5, (x5_1 : Int).toNat * 7 + 6, none⟩ = some (.bool ((rd_T34 y206 x5_1).f6)) := hcc7 6 _ rfl; have hf7_0 : w18.frozen? ⟨go5, (x5_1 : Int).toNat * 7, none⟩ = false := hfr7 0; have hf7_1 : w18.frozen? ⟨go5, (x5_1 : Int).toNat * 7 + 1, none⟩ = false := hfr7 1; have hf7_2 : w18.frozen? ⟨go5, (x5_1 : Int).toNat * 7 + 2, none⟩ = false := hfr7 2; have hf7_3 : w18.frozen? ⟨go5, (x5_1 : Int).toNat * 7 + 3, none⟩ = false := hfr7 3; have hf7_4 : w18.frozen? ⟨go5, (x5_1 : Int).toNat * 7 + 4, none⟩ = false := hfr7 4; have hf7_5 : w18.frozen? ⟨go5, (x5_1 : Int).toNat * 7 + 5, none⟩ = false := hfr7 5; have hf7_6 : w18.frozen? ⟨go5, (x5_1 : Int).toNat * 7 + 6, none⟩ = false := hfr7 6; clear hcl7 hcc7 hfr7 hM7; replace p7 := eq_true p7; replace q7 := eq_true q7; have HX19 := Aside0.mk (show Kd.R k34 34 w18 w0.heap.size (fun k_ => (P0_ k_ ∨ w.heap.size ≤ k_)) (.slice (some ⟨go5, 0, none⟩) x0_1.length co15) y206 from (rR HO_0.out)); obtain ⟨ce19, hcl19, hM19, hcc19, hfr19⟩ := Kd.R_elem HX19.out z34 (x5_1 : Int) (of_decide_eq_true Da) (by have h_ : (x5_1 : Int) < ((x0_1.length : Int) : Int) := of_decide_eq_true Da; first | exact h_ | (have e_ := (Kd.R_reads' HO_0.out).1; omega) | simpa using h_); obtain rfl := k34_openM hM19; have HP19 := Kd.R_seg HX19.out (x5_1 : Int) (of_decide_eq_true Da) (by have h_ : (x5_1 : Int) < ((x0_1.length : Int) : Int) := of_decide_eq_true Da; first | exact h_ | (have e_ := (Kd.R_reads' HO_0.out).1; omega) | simpa using h_) (seg := [.string t207]) (j := 1) hcl19 hcc19 (show 2 ≤ 7 from by decide) (x' := (⟨(rd_T34 y206 x5_1).f0, t207, (rd_T34 y206 x5_1).f2, (rd_T34 y206 x5_1).f3, (rd_T34 y206 x5_1).f4, (rd_T34 y206 x5_1).f5, (rd_T34 y206 x5_1).f6⟩ : S34)) (k34_mkM _ _ _ (⟨(rd_T34 y206 x5_1).f0, t207, (rd_T34 y206 x5_1).f2, (rd_T34 y206 x5_1).f3, (rd_T34 y206 x5_1).f4, (rd_T34 y206 x5_1).f5, (rd_T34 y206 x5_1).f6⟩ : S34) ) (fun _ hk => hk); have hx19_1 := hcc19 1 _ rfl; (try simp only [show (k34).sz = 7 from rfl, Nat.mul_one, Nat.add_zero] at hx19_1); have hf19_1 := hfr19 1; (try simp only [show (k34).sz = 7 from rfl, Nat.mul_one, Nat.add_zero] at hf19_1); clear hcl19 hcc19 hfr19 hM19) | ((with_reducible refine gate_store (t := 9) (p := 24) rfl ?_); refine store_event (t := 9) (p := 24) (v := ?vo_w20) (w1 := (w18.setCell ⟨go5, (x5_1 : Int).toNat * 7 + 1, none⟩ (.string t207))) ?hg ?ho ?hn ?hr ?_; (case ho => rfl); (case hg => rfl); (case hn => rfl); (case hr => first | (go_simp; done) | (go_simp; rfl)); intro w20 hw; have hg : w18.grownBy w20 (some go5) := (by rw [hw]; exact HP19.2); have hp_ : Kd.R k34 34 w20 w0.heap.size (fun k_ => (P0_ k_ ∨ w.heap.size ≤ k_)) (.slice (some ⟨go5, 0, none⟩) x0_1.length co15) y208 := (by rw [hw, Ny208.out]; exact HP19.1); clear HP19; have n0_ := Aside0.mk (hp_); have n1_ := Aside0.mk ((by rw [hw]; exact below_set (HB.out) GB5.out : Below w0.heap.size w0 w20)); have n2_ := Aside0.mk (Kept.of_grown (S := (fun k_ => P0_ k_)) hg (by repeat (first | (with_reducible first | exact HK.out | apply Kept.alloc | apply Kept.drewN | apply Kept.drew) | exact HK.out)) (fun k_ e_ => (HO_0.out.1 k_ e_))); clear HO_0; clear HB; clear HK; have HO_0 := n0_; have HB := n1_; have HK := n2_; clear n0_ n1_ n2_; clear hg hw hp_) | ((with_reducible refine gate_callee (f := 103) rfl ?_); refine goesL_ (some 30) rfl rfl Tryd.func103 (by kernel_rfl) rfl #[.int .i64 (wrap64 ((wrap64 (x1_1 + 1)) + 1))] rfl Ag ?_; (with_reducible refine (laws_markText.calls k1 (wrap64 ((wrap64 (x1_1 + 1)) + 1)) t209 _ A8.out).mono ?_); rintro e w21 ⟨rfl, hb⟩; refine ⟨_, rfl, ?_⟩; have n0_ := Aside0.mk (Kd.R_below (rR HO_0.out) hb); have n1_ := Aside0.mk (Kept.below (S := (fun k_ => P0_ k_)) (by repeat (first | (with_reducible first | exact HK.out | apply Kept.alloc | apply Kept.drewN | apply Kept.drew) | exact HK.out)) hb); have n2_ := Aside0.mk (below_step By hb); clear HO_0; clear HK; clear HB; have HO_0 := n0_; have HK := n1_; have HB := n2_; clear n0_ n1_ n2_; (try clear hb); (try clear hb2); (try clear hk); (try clear hi); have p9 : 0 ≤ (x5_1 : Int) := of_decide_eq_true Da; have q9 : (x5_1 : Int) < ((x0_1.length : Int) : Int) := of_decide_eq_true Da; obtain ⟨ce9, hcl9, hM9, hcc9, hfr9⟩ := Kd.R_elem HO_0.out z34 (x5_1 : Int) p9 q9; obtain rfl := k34_openM hM9; have hx9_0 : w21.cell? ⟨go5, (x5_1 : Int).toNat * 7, none⟩ = some (.int .i64 ((rd_T34 y208 x5_1).f0)) := hcc9 0 _ rfl; have hx9_1 : w21.cell? ⟨go5, (x5_1 : Int).toNat * 7 + 1, none⟩ = some (.string ((rd_T34 y208 x5_1).f1)) := hcc9 1 _ rfl; have hx9_2 : w21.cell? ⟨go5, (x5_1 : Int).toNat * 7 + 2, none⟩ = some (.string ((rd_T34 y208 x5_1).f2)) := hcc9 2 _ rfl; have hx9_3 : w21.cell? ⟨go5, (x5_1 : Int).toNat * 7 + 3, none⟩ = some (.string ((rd_T34 y208 x5_1).f3)) := hcc9 3 _ rfl; have hx9_4 : w21.cell? ⟨go5, (x5_1 : Int).toNat * 7 + 4, none⟩ = some (.bool ((rd_T34 y208 x5_1).f4)) := hcc9 4 _ rfl; have hx9_5 : w21.cell? ⟨go5, (x5_1 : Int).toNat * 7 + 5, none⟩ = some (.int .i64 ((rd_T34 y208 x5_1).f5)) := hcc9 5 _ rfl; have hx9_6 : w21.cell? ⟨go5, (x5_1 : Int).toNat * 7 + 6, none⟩ = some (.bool ((rd_T34 y208 x5_1).f6)) := hcc9 6 _ rfl; have hf9_0 : w21.frozen? ⟨go5, (x5_1 : Int).toNat * 7, none⟩ = false := hfr9 0; have hf9_1 : w21.frozen? ⟨go5, (x5_1 : Int).toNat * 7 + 1, none⟩ = false := hfr9 1; have hf9_2 : w21.frozen? ⟨go5, (x5_1 : Int).toNat * 7 + 2, none⟩ = false := hfr9 2; have hf9_3 : w21.frozen? ⟨go5, (x5_1 : Int).toNat * 7 + 3, none⟩ = false := hfr9 3; have hf9_4 : w21.frozen? ⟨go5, (x5_1 : Int).toNat * 7 + 4, none⟩ = false := hfr9 4; have hf9_5 : w21.frozen? ⟨go5, (x5_1 : Int).toNat * 7 + 5, none⟩ = false := hfr9 5; have hf9_6 : w21.frozen? ⟨go5, (x5_1 : Int).toNat * 7 + 6, none⟩ = false := hfr9 6; clear hcl9 hcc9 hfr9 hM9; replace p9 := eq_true p9; replace q9 := eq_true q9; have HX22 := Aside0.mk (show Kd.R k34 34 w21 w0.heap.size (fun k_ => (P0_ k_ ∨ w.heap.size ≤ k_)) (.slice (some ⟨go5, 0, none⟩) x0_1.length co15) y208 from (rR HO_0.out)); obtain ⟨ce22, hcl22, hM22, hcc22, hfr22⟩ := Kd.R_elem HX22.out z34 (x5_1 : Int) (of_decide_eq_true Da) (by have h_ : (x5_1 : Int) < ((x0_1.length : Int) : Int) := of_decide_eq_true Da; first | exact h_ | (have e_ := (Kd.R_reads' HO_0.out).1; omega) | simpa using h_); obtain rfl := k34_openM hM22; have HP22 := Kd.R_seg HX22.out (x5_1 : Int) (of_decide_eq_true Da) (by have h_ : (x5_1 : Int) < ((x0_1.length : Int) : Int) := of_decide_eq_true Da; first | exact h_ | (have e_ := (Kd.R_reads' HO_0.out).1; omega) | simpa using h_) (seg := [.string t209]) (j := 2) hcl22 hcc22 (show 3 ≤ 7 from by decide) (x' := (⟨(rd_T34 y208 x5_1).f0, (rd_T34 y208 x5_1).f1, t209, (rd_T34 y208 x5_1).f3, (rd_T34 y208 x5_1).f4, (rd_T34 y208 x5_1).f5, (rd_T34 y208 x5_1).f6⟩ : S34)) (k34_mkM _ _ _ (⟨(rd_T34 y208 x5_1).f0, (rd_T34 y208 x5_1).f1, t209, (rd_T34 y208 x5_1).f3, (rd_T34 y208 x5_1).f4, (rd_T34 y208 x5_1).f5, (rd_T34 y208 x5_1).f6⟩ : S34) ) (fun _ hk => hk); have hx22_2 := hcc22 2 _ rfl; (try simp only [show (k34).sz = 7 from rfl, Nat.mul_one, Nat.add_zero] at hx22_2); have hf22_2 := hfr22 2; (try simp only [show (k34).sz = 7 from rfl, Nat.mul_one, Nat.add_zero] at hf22_2); clear hcl22 hcc22 hfr22 hM22) | ((with_reducible refine gate_store (t := 9) (p := 32) rfl ?_); refine store_event (t := 9) (p := 32) (v := ?vo_w23) (w1 := (w21.setCell ⟨go5, (x5_1 : Int).toNat * 7 + 2, none⟩ (.string t209))) ?hg ?ho ?hn ?hr ?_; (case ho => rfl); (case hg => rfl); (case hn => rfl); (case hr => first | (go_simp; done) | (go_simp; rfl)); intro w23 hw; have hg : w21.grownBy w23 (some go5) := (by rw [hw]; exact HP22.2); have hp_ : Kd.R k34 34 w23 w0.heap.size (fun k_ => (P0_ k_ ∨ w.heap.size ≤ k_)) (.slice (some ⟨go5, 0, none⟩) x0_1.length co15) y210 := (by rw [hw, Ny210.out]; exact HP22.1); clear HP22; have n0_ := Aside0.mk (hp_); have n1_ := Aside0.mk ((by rw [hw]; exact below_set (HB.out) GB5.out : Below w0.heap.size w0 w23)); have n2_ := Aside0.mk (Kept.of_grown (S := (fun k_ => P0_ k_)) hg (by repeat (first | (with_reducible first | exact HK.out | apply Kept.alloc | apply Kept.drewN | apply Kept.drew) | exact HK.out)) (fun k_ e_ => (HO_0.out.1 k_ e_))); clear HO_0; clear HB; clear HK; have HO_0 := n0_; have HB := n1_; have HK := n2_; clear n0_ n1_ n2_; clear hg hw hp_) | ((with_reducible refine gate_callee (f := 103) rfl ?_); refine goesL_ (some 38) rfl rfl Tryd.func103 (by kernel_rfl) rfl #[.int .i64 (wrap64 ((wrap64 ((wrap64 (x1_1 + 1)) + 1)) + 1))] rfl Ag ?_; (with_reducible refine (laws_markText.calls k1 (wrap64 ((wrap64 ((wrap64 (x1_1 + 1)) + 1)) + 1)) t211 _ A10.out).mono ?_); rintro e w24 ⟨rfl, hb⟩; refine ⟨_, rfl, ?_⟩; have n0_ := Aside0.mk (Kd.R_below (rR HO_0.out) hb); have n1_ := Aside0.mk (Kept.below (S := (fun k_ => P0_ k_)) (by repeat (first | (with_reducible first | exact HK.out | apply Kept.alloc | apply Kept.drewN | apply Kept.drew) | exact HK.out)) hb); have n2_ := Aside0.mk (below_step By hb); clear HO_0; clear HK; clear HB; have HO_0 := n0_; have HK := n1_; have HB := n2_; clear n0_ n1_ n2_; (try clear hb); (try clear hb2); (try clear hk); (try clear hi); have p11 : 0 ≤ (x5_1 : Int) := of_decide_eq_true Da; have q11 : (x5_1 : Int) < ((x0_1.length : Int) : Int) := of_decide_eq_true Da; obtain ⟨ce11, hcl11, hM11, hcc11, hfr11⟩ := Kd.R_elem HO_0.out z34 (x5_1 : Int) p11 q11; obtain rfl := k34_openM hM11; have hx11_0 : w24.cell? ⟨go5, (x5_1 : Int).toNat * 7, none⟩ = some (.int .i64 ((rd_T34 y210 x5_1).f0)) := hcc11 0 _ rfl; have hx11_1 : w24.cell? ⟨go5, (x5_1 : Int).toNat * 7 + 1, none⟩ = some (.string ((rd_T34 y210 x5_1).f1)) := hcc11 1 _ rfl; have hx11_2 : w24.cell? ⟨go5, (x5_1 : Int).toNat * 7 + 2, none⟩ = some (.string ((rd_T34 y210 x5_1).f2)) := hcc11 2 _ rfl; have hx11_3 : w24.cell? ⟨go5, (x5_1 : Int).toNat * 7 + 3, none⟩ = some (.string ((rd_T34 y210 x5_1).f3)) := hcc11 3 _ rfl; have hx11_4 : w24.cell? ⟨go5, (x5_1 : Int).toNat * 7 + 4, none⟩ = some (.bool ((rd_T34 y210 x5_1).f4)) := hcc11 4 _ rfl; have hx11_5 : w24.cell? ⟨go5, (x5_1 : Int).toNat * 7 + 5, none⟩ = some (.int .i64 ((rd_T34 y210 x5_1).f5)) := hcc11 5 _ rfl; have hx11_6 : w24.cell? ⟨go5, (x5_1 : Int).toNat * 7 + 6, none⟩ = some (.bool ((rd_T34 y210 x5_1).f6)) := hcc11 6 _ rfl; have hf11_0 : w24.frozen? ⟨go5, (x5_1 : Int).toNat * 7, none⟩ = false := hfr11 0; have hf11_1 : w24.frozen? ⟨go5, (x5_1 : Int).toNat * 7 + 1, none⟩ = false := hfr11 1; have hf11_2 : w24.frozen? ⟨go5, (x5_1 : Int).toNat * 7 + 2, none⟩ = false := hfr11 2; have hf11_3 : w24.frozen? ⟨go5, (x5_1 : Int).toNat * 7 + 3, none⟩ = false := hfr11 3; have hf11_4 : w24.frozen? ⟨go5, (x5_1 : Int).toNat * 7 + 4, none⟩ = false := hfr11 4; have hf11_5 : w24.frozen? ⟨go5, (x5_1 : Int).toNat * 7 + 5, none⟩ = false := hfr11 5; have hf11_6 : w24.frozen? ⟨go5, (x5_1 : Int).toNat * 7 + 6, none⟩ = false := hfr11 6; clear hcl11 hcc11 hfr11 hM11; replace p11 := eq_true p11; replace q11 := eq_true q11; have HX25 := Aside0.mk (show Kd.R k34 34 w24 w0.heap.size (fun k_ => (P0_ k_ ∨ w.heap.size ≤ k_)) (.slice (some ⟨go5, 0, none⟩) x0_1.length co15) y210 from (rR HO_0.out)); obtain ⟨ce25, hcl25, hM25, hcc25, hfr25⟩ := Kd.R_elem HX25.out z34 (x5_1 : Int) (of_decide_eq_true Da) (by have h_ : (x5_1 : Int) < ((x0_1.length : Int) : Int) := of_decide_eq_true Da; first | exact h_ | (have e_ := (Kd.R_reads' HO_0.out).1; omega) | simpa using h_); obtain rfl := k34_openM hM25; have HP25 := Kd.R_seg HX25.out (x5_1 : Int) (of_decide_eq_true Da) (by have h_ : (x5_1 : Int) < ((x0_1.length : Int) : Int) := of_decide_eq_true Da; first | exact h_ | (have e_ := (Kd.R_reads' HO_0.out).1; omega) | simpa using h_) (seg := [.string t211]) (j := 3) hcl25 hcc25 (show 4 ≤ 7 from by decide) (x' := (⟨(rd_T34 y210 x5_1).f0, (rd_T34 y210 x5_1).f1, (rd_T34 y210 x5_1).f2, t211, (rd_T34 y210 x5_1).f4, (rd_T34 y210 x5_1).f5, (rd_T34 y210 x5_1).f6⟩ : S34)) (k34_mkM _ _ _ (⟨(rd_T34 y210 x5_1).f0, (rd_T34 y210 x5_1).f1, (rd_T34 y210 x5_1).f2, t211, (rd_T34 y210 x5_1).f4, (rd_T34 y210 x5_1).f5, (rd_T34 y210 x5_1).f6⟩ : S34) ) (fun _ hk => hk); have hx25_3 := hcc25 3 _ rfl; (try simp only [show (k34).sz = 7 from rfl, Nat.mul_one, Nat.add_zero] at hx25_3); have hf25_3 := hfr25 3; (try simp only [show (k34).sz = 7 from rfl, Nat.mul_one, Nat.add_zero] at hf25_3); clear hcl25 hcc25 hfr25 hM25) | ((with_reducible refine gate_store (t := 9) (p := 40) rfl ?_); refine store_event (t := 9) (p := 40) (v := ?vo_w26) (w1 := (w24.setCell ⟨go5, (x5_1 : Int).toNat * 7 + 3, none⟩ (.string t211))) ?hg ?ho ?hn ?hr ?_; (case ho => rfl); (case hg => rfl); (case hn => rfl); (case hr => first | (go_simp; done) | (go_simp; rfl)); intro w26 hw; have hg : w24.grownBy w26 (some go5) := (by rw [hw]; exact HP25.2); have hp_ : Kd.R k34 34 w26 w0.heap.size (fun k_ => (P0_ k_ ∨ w.heap.size ≤ k_)) (.slice (some ⟨go5, 0, none⟩) x0_1.length co15) y212 := (by rw [hw, Ny212.out]; exact HP25.1); clear HP25; have n0_ := Aside0.mk (hp_); have n1_ := Aside0.mk ((by rw [hw]; exact below_set (HB.out) GB5.out : Below w0.heap.size w0 w26)); have n2_ := Aside0.mk (Kept.of_grown (S := (fun k_ => P0_ k_)) hg (by repeat (first | (with_reducible first | exact HK.out | apply Kept.alloc | apply Kept.drewN | apply Kept.drew) | exact HK.out)) (fun k_ e_ => (HO_0.out.1 k_ e_))); clear HO_0; clear HB; clear HK; have HO_0 := n0_; have HB := n1_; have HK := n2_; clear n0_ n1_ n2_; clear hg hw hp_; have p12 : 0 ≤ (x5_1 : Int) := of_decide_eq_true Da; have q12 : (x5_1 : Int) < ((x0_1.length : Int) : Int) := of_decide_eq_true Da; obtain ⟨ce12, hcl12, hM12, hcc12, hfr12⟩ := Kd.R_elem HO_0.out z34 (x5_1 : Int) p12 q12; obtain rfl := k34_openM hM12; have hx12_0 : w26.cell? ⟨go5, (x5_1 : Int).toNat * 7, none⟩ = some (.int .i64 ((rd_T34 y212 x5_1).f0)) := hcc12 0 _ rfl; have hx12_1 : w26.cell? ⟨go5, (x5_1 : Int).toNat * 7 + 1, none⟩ = some (.string ((rd_T34 y212 x5_1).f1)) := hcc12 1 _ rfl; have hx12_2 : w26.cell? ⟨go5, (x5_1 : Int).toNat * 7 + 2, none⟩ = some (.string ((rd_T34 y212 x5_1).f2)) := hcc12 2 _ rfl; have hx12_3 : w26.cell? ⟨go5, (x5_1 : Int).toNat * 7 + 3, none⟩ = some (.string ((rd_T34 y212 x5_1).f3)) := hcc12 3 _ rfl; have hx12_4 : w26.cell? ⟨go5, (x5_1 : Int).toNat * 7 + 4, none⟩ = some (.bool ((rd_T34 y212 x5_1).f4)) := hcc12 4 _ rfl; have hx12_5 : w26.cell? ⟨go5, (x5_1 : Int).toNat * 7 + 5, none⟩ = some (.int .i64 ((rd_T34 y212 x5_1).f5)) := hcc12 5 _ rfl; have hx12_6 : w26.cell? ⟨go5, (x5_1 : Int).toNat * 7 + 6, none⟩ = some (.bool ((rd_T34 y212 x5_1).f6)) := hcc12 6 _ rfl; have hf12_0 : w26.frozen? ⟨go5, (x5_1 : Int).toNat * 7, none⟩ = false := hfr12 0; have hf12_1 : w26.frozen? ⟨go5, (x5_1 : Int).toNat * 7 + 1, none⟩ = false := hfr12 1; have hf12_2 : w26.frozen? ⟨go5, (x5_1 : Int).toNat * 7 + 2, none⟩ = false := hfr12 2; have hf12_3 : w26.frozen? ⟨go5, (x5_1 : Int).toNat * 7 + 3, none⟩ = false := hfr12 3; have hf12_4 : w26.frozen? ⟨go5, (x5_1 : Int).toNat * 7 + 4, none⟩ = false := hfr12 4; have hf12_5 : w26.frozen? ⟨go5, (x5_1 : Int).toNat * 7 + 5, none⟩ = false := hfr12 5; have hf12_6 : w26.frozen? ⟨go5, (x5_1 : Int).toNat * 7 + 6, none⟩ = false := hfr12 6; clear hcl12 hcc12 hfr12 hM12; replace p12 := eq_true p12; replace q12 := eq_true q12; have HX27 := Aside0.mk (show Kd.R k34 34 w26 w0.heap.size (fun k_ => (P0_ k_ ∨ w.heap.size ≤ k_)) (.slice (some ⟨go5, 0, none⟩) x0_1.length co15) y212 from (rR HO_0.out)); obtain ⟨ce27, hcl27, hM27, hcc27, hfr27⟩ := Kd.R_elem HX27.out z34 (x5_1 : Int) (of_decide_eq_true Da) (by have h_ : (x5_1 : Int) < ((x0_1.length : Int) : Int) := of_decide_eq_true Da; first | exact h_ | (have e_ := (Kd.R_reads' HO_0.out).1; omega) | simpa using h_); obtain rfl := k34_openM hM27; have HP27 := Kd.R_seg HX27.out (x5_1 : Int) (of_decide_eq_true Da) (by have h_ : (x5_1 : Int) < ((x0_1.length : Int) : Int) := of_decide_eq_true Da; first | exact h_ | (have e_ := (Kd.R_reads' HO_0.out).1; omega) | simpa using h_) (seg := [.bool ((Int.tmod (wrap64 ((wrap64 ((wrap64 ((wrap64 (x1_1 + 1)) + 1)) + 1)) + 1)) 3) == 0)]) (j := 4) hcl27 hcc27 (show 5 ≤ 7 from by decide) (x' := (⟨(rd_T34 y212 x5_1).f0, (rd_T34 y212 x5_1).f1, (rd_T34 y212 x5_1).f2, (rd_T34 y212 x5_1).f3, ((Int.tmod (wrap64 ((wrap64 ((wrap64 ((wrap64 (x1_1 + 1)) + 1)) + 1)) + 1)) 3) == 0), (rd_T34 y212 x5_1).f5, (rd_T34 y212 x5_1).f6⟩ : S34)) (k34_mkM _ _ _ (⟨(rd_T34 y212 x5_1).f0, (rd_T34 y212 x5_1).f1, (rd_T34 y212 x5_1).f2, (rd_T34 y212 x5_1).f3, ((Int.tmod (wrap64 ((wrap64 ((wrap64 ((wrap64 (x1_1 + 1)) + 1)) + 1)) + 1)) 3) == 0), (rd_T34 y212 x5_1).f5, (rd_T34 y212 x5_1).f6⟩ : S34) ) (fun _ hk => hk); have hx27_4 := hcc27 4 _ rfl; (try simp only [show (k34).sz = 7 from rfl, Nat.mul_one, Nat.add_zero] at hx27_4); have hf27_4 := hfr27 4; (try simp only [show (k34).sz = 7 from rfl, Nat.mul_one, Nat.add_zero] at hf27_4); clear hcl27 hcc27 hfr27 hM27) | ((with_reducible refine gate_store (t := 4) (p := 49) rfl ?_); refine store_event (t := 4) (p := 49) (v := ?vo_w28) (w1 := (w26.setCell ⟨go5, (x5_1 : Int).toNat * 7 + 4, none⟩ (.bool ((Int.tmod (wrap64 ((wrap64 ((wrap64 ((wrap64 (x1_1 + 1)) + 1)) + 1)) + 1)) 3) == 0)))) ?hg ?ho ?hn ?hr ?_; (case ho => rfl); (case hg => rfl); (case hn => rfl); (case hr => first | (go_simp; done) | (go_simp; rfl)); intro w28 hw; have hg : w26.grownBy w28 (some go5) := (by rw [hw]; exact HP27.2); have hp_ : Kd.R k34 34 w28 w0.heap.size (fun k_ => (P0_ k_ ∨ w.heap.size ≤ k_)) (.slice (some ⟨go5, 0, none⟩) x0_1.length co15) y213 := (by rw [hw, Ny213.out]; exact HP27.1); clear HP27; have n0_ := Aside0.mk (hp_); have n1_ := Aside0.mk ((by rw [hw]; exact below_set (HB.out) GB5.out : Below w0.heap.size w0 w28)); have n2_ := Aside0.mk (Kept.of_grown (S := (fun k_ => P0_ k_)) hg (by repeat (first | (with_reducible first | exact HK.out | apply Kept.alloc | apply Kept.drewN | apply Kept.drew) | exact HK.out)) (fun k_ e_ => (HO_0.out.1 k_ e_))); clear HO_0; clear HB; clear HK; have HO_0 := n0_; have HB := n1_; have HK := n2_; clear n0_ n1_ n2_; clear hg hw hp_; have p13 : 0 ≤ (x5_1 : Int) := of_decide_eq_true Da; have q13 : (x5_1 : Int) < ((x0_1.length : Int) : Int) := of_decide_eq_true Da; obtain ⟨ce13, hcl13, hM13, hcc13, hfr13⟩ := Kd.R_elem HO_0.out z34 (x5_1 : Int) p13 q13; obtain rfl := k34_openM hM13; have hx13_0 : w28.cell? ⟨go5, (x5_1 : Int).toNat * 7, none⟩ = some (.int .i64 ((rd_T34 y213 x5_1).f0)) := hcc13 0 _ rfl; have hx13_1 : w28.cell? ⟨go5, (x5_1 : Int).toNat * 7 + 1, none⟩ = some (.string ((rd_T34 y213 x5_1).f1)) := hcc13 1 _ rfl; have hx13_2 : w28.cell? ⟨go5, (x5_1 : Int).toNat * 7 + 2, none⟩ = some (.string ((rd_T34 y213 x5_1).f2)) := hcc13 2 _ rfl; have hx13_3 : w28.cell? ⟨go5, (x5_1 : Int).toNat * 7 + 3, none⟩ = some (.string ((rd_T34 y213 x5_1).f3)) := hcc13 3 _ rfl; have hx13_4 : w28.cell? ⟨go5, (x5_1 : Int).toNat * 7 + 4, none⟩ = some (.bool ((rd_T34 y213 x5_1).f4)) := hcc13 4 _ rfl; have hx13_5 : w28.cell? ⟨go5, (x5_1 : Int).toNat * 7 + 5, none⟩ = some (.int .i64 ((rd_T34 y213 x5_1).f5)) := hcc13 5 _ rfl; have hx13_6 : w28.cell? ⟨go5, (x5_1 : Int).toNat * 7 + 6, none⟩ = some (.bool ((rd_T34 y213 x5_1).f6)) := hcc13 6 _ rfl; have hf13_0 : w28.frozen? ⟨go5, (x5_1 : Int).toNat * 7, none⟩ = false := hfr13 0; have hf13_1 : w28.frozen? ⟨go5, (x5_1 : Int).toNat * 7 + 1, none⟩ = false := hfr13 1; have hf13_2 : w28.frozen? ⟨go5, (x5_1 : Int).toNat * 7 + 2, none⟩ = false := hfr13 2; have hf13_3 : w28.frozen? ⟨go5, (x5_1 : Int).toNat * 7 + 3, none⟩ = false := hfr13 3; have hf13_4 : w28.frozen? ⟨go5, (x5_1 : Int).toNat * 7 + 4, none⟩ = false := hfr13 4; have hf13_5 : w28.frozen? ⟨go5, (x5_1 : Int).toNat * 7 + 5, none⟩ = false := hfr13 5; have hf13_6 : w28.frozen? ⟨go5, (x5_1 : Int).toNat * 7 + 6, none⟩ = false := hfr13 6; clear hcl13 hcc13 hfr13 hM13; replace p13 := eq_true p13; replace q13 := eq_true q13; have HX29 := Aside0.mk (show Kd.R k34 34 w28 w0.heap.size (fun k_ => (P0_ k_ ∨ w.heap.size ≤ k_)) (.slice (some ⟨go5, 0, none⟩) x0_1.length co15) y213 from (rR HO_0.out)); obtain ⟨ce29, hcl29, hM29, hcc29, hfr29⟩ := Kd.R_elem HX29.out z34 (x5_1 : Int) (of_decide_eq_true Da) (by have h_ : (x5_1 : Int) < ((x0_1.length : Int) : Int) := of_decide_eq_true Da; first | exact h_ | (have e_ := (Kd.R_reads' HO_0.out).1; omega) | simpa using h_); obtain rfl := k34_openM hM29; have HP29 := Kd.R_seg HX29.out (x5_1 : Int) (of_decide_eq_true Da) (by have h_ : (x5_1 : Int) < ((x0_1.length : Int) : Int) := of_decide_eq_true Da; first | exact h_ | (have e_ := (Kd.R_reads' HO_0.out).1; omega) | simpa using h_) (seg := [.int .i64 (wrap64 ((wrap64 ((wrap64 ((wrap64 ((wrap64 (x1_1 + 1)) + 1)) + 1)) + 1)) + 1))]) (j := 5) hcl29 hcc29 (show 6 ≤ 7 from by decide) (x' := (⟨(rd_T34 y213 x5_1).f0, (rd_T34 y213 x5_1).f1, (rd_T34 y213 x5_1).f2, (rd_T34 y213 x5_1).f3, (rd_T34 y213 x5_1).f4, wrap64 ((wrap64 ((wrap64 ((wrap64 ((wrap64 (x1_1 + 1)) + 1)) + 1)) + 1)) + 1), (rd_T34 y213 x5_1).f6⟩ : S34)) (k34_mkM _ _ _ (⟨(rd_T34 y213 x5_1).f0, (rd_T34 y213 x5_1).f1, (rd_T34 y213 x5_1).f2, (rd_T34 y213 x5_1).f3, (rd_T34 y213 x5_1).f4, wrap64 ((wrap64 ((wrap64 ((wrap64 ((wrap64 (x1_1 + 1)) + 1)) + 1)) + 1)) + 1), (rd_T34 y213 x5_1).f6⟩ : S34) ) (fun _ hk => hk); have hx29_5 := hcc29 5 _ rfl; (try simp only [show (k34).sz = 7 from rfl, Nat.mul_one, Nat.add_zero] at hx29_5); have hf29_5 := hfr29 5; (try simp only [show (k34).sz = 7 from rfl, Nat.mul_one, Nat.add_zero] at hf29_5); clear hcl29 hcc29 hfr29 hM29) | ((with_reducible refine gate_store (t := 2) (p := 56) rfl ?_); refine store_event (t := 2) (p := 56) (v := ?vo_w30) (w1 := (w28.setCell ⟨go5, (x5_1 : Int).toNat * 7 + 5, none⟩ (.int .i64 (wrap64 ((wrap64 ((wrap64 ((wrap64 ((wrap64 (x1_1 + 1)) + 1)) + 1)) + 1)) + 1))))) ?hg ?ho ?hn ?hr ?_; (case ho => rfl); (case hg => rfl); (case hn => rfl); (case hr => first | (go_simp; done) | (go_simp; rfl)); intro w30 hw; have hg : w28.grownBy w30 (some go5) := (by rw [hw]; exact HP29.2); have hp_ : Kd.R k34 34 w30 w0.heap.size (fun k_ => (P0_ k_ ∨ w.heap.size ≤ k_)) (.slice (some ⟨go5, 0, none⟩) x0_1.length co15) y214 := (by rw [hw, Ny214.out]; exact HP29.1); clear HP29; have n0_ := Aside0.mk (hp_); have n1_ := Aside0.mk ((by rw [hw]; exact below_set (HB.out) GB5.out : Below w0.heap.size w0 w30)); have n2_ := Aside0.mk (Kept.of_grown (S := (fun k_ => P0_ k_)) hg (by repeat (first | (with_reducible first | exact HK.out | apply Kept.alloc | apply Kept.drewN | apply Kept.drew) | exact HK.out)) (fun k_ e_ => (HO_0.out.1 k_ e_))); clear HO_0; clear HB; clear HK; have HO_0 := n0_; have HB := n1_; have HK := n2_; clear n0_ n1_ n2_; clear hg hw hp_; have p14 : 0 ≤ (x5_1 : Int) := of_decide_eq_true Da; have q14 : (x5_1 : Int) < ((x0_1.length : Int) : Int) := of_decide_eq_true Da; obtain ⟨ce14, hcl14, hM14, hcc14, hfr14⟩ := Kd.R_elem HO_0.out z34 (x5_1 : Int) p14 q14; obtain rfl := k34_openM hM14; have hx14_0 : w30.cell? ⟨go5, (x5_1 : Int).toNat * 7, none⟩ = some (.int .i64 ((rd_T34 y214 x5_1).f0)) := hcc14 0 _ rfl; have hx14_1 : w30.cell? ⟨go5, (x5_1 : Int).toNat * 7 + 1, none⟩ = some (.string ((rd_T34 y214 x5_1).f1)) := hcc14 1 _ rfl; have hx14_2 : w30.cell? ⟨go5, (x5_1 : Int).toNat * 7 + 2, none⟩ = some (.string ((rd_T34 y214 x5_1).f2)) := hcc14 2 _ rfl; have hx14_3 : w30.cell? ⟨go5, (x5_1 : Int).toNat * 7 + 3, none⟩ = some (.string ((rd_T34 y214 x5_1).f3)) := hcc14 3 _ rfl; have hx14_4 : w30.cell? ⟨go5, (x5_1 : Int).toNat * 7 + 4, none⟩ = some (.bool ((rd_T34 y214 x5_1).f4)) := hcc14 4 _ rfl; have hx14_5 : w30.cell? ⟨go5, (x5_1 : Int).toNat * 7 + 5, none⟩ = some (.int .i64 ((rd_T34 y214 x5_1).f5)) := hcc14 5 _ rfl; have hx14_6 : w30.cell? ⟨go5, (x5_1 : Int).toNat * 7 + 6, none⟩ = some (.bool ((rd_T34 y214 x5_1).f6)) := hcc14 6 _ rfl; have hf14_0 : w30.frozen? ⟨go5, (x5_1 : Int).toNat * 7, none⟩ = false := hfr14 0; have hf14_1 : w30.frozen? ⟨go5, (x5_1 : Int).toNat * 7 + 1, none⟩ = false := hfr14 1; have hf14_2 : w30.frozen? ⟨go5, (x5_1 : Int).toNat * 7 + 2, none⟩ = false := hfr14 2; have hf14_3 : w30.frozen? ⟨go5, (x5_1 : Int).toNat * 7 + 3, none⟩ = false := hfr14 3; have hf14_4 : w30.frozen? ⟨go5, (x5_1 : Int).toNat * 7 + 4, none⟩ = false := hfr14 4; have hf14_5 : w30.frozen? ⟨go5, (x5_1 : Int).toNat * 7 + 5, none⟩ = false := hfr14 5; have hf14_6 : w30.frozen? ⟨go5, (x5_1 : Int).toNat * 7 + 6, none⟩ = false := hfr14 6; clear hcl14 hcc14 hfr14 hM14; replace p14 := eq_true p14; replace q14 := eq_true q14; have HX31 := Aside0.mk (show Kd.R k34 34 w30 w0.heap.size (fun k_ => (P0_ k_ ∨ w.heap.size ≤ k_)) (.slice (some ⟨go5, 0, none⟩) x0_1.length co15) y214 from (rR HO_0.out)); obtain ⟨ce31, hcl31, hM31, hcc31, hfr31⟩ := Kd.R_elem HX31.out z34 (x5_1 : Int) (of_decide_eq_true Da) (by have h_ : (x5_1 : Int) < ((x0_1.length : Int) : Int) := of_decide_eq_true Da; first | exact h_ | (have e_ := (Kd.R_reads' HO_0.out).1; omega) | simpa using h_); obtain rfl := k34_openM hM31; have HP31 := Kd.R_seg HX31.out (x5_1 : Int) (of_decide_eq_true Da) (by have h_ : (x5_1 : Int) < ((x0_1.length : Int) : Int) := of_decide_eq_true Da; first | exact h_ | (have e_ := (Kd.R_reads' HO_0.out).1; omega) | simpa using h_) (seg := [.bool ((Int.tmod (wrap64 ((wrap64 ((wrap64 ((wrap64 ((wrap64 ((wrap64 (x1_1 + 1)) + 1)) + 1)) + 1)) + 1)) + 1)) 3) == 0)]) (j := 6) hcl31 hcc31 (show 7 ≤ 7 from by decide) (x' := (⟨(rd_T34 y214 x5_1).f0, (rd_T34 y214 x5_1).f1, (rd_T34 y214 x5_1).f2, (rd_T34 y214 x5_1).f3, (rd_T34 y214 x5_1).f4, (rd_T34 y214 x5_1).f5, ((Int.tmod (wrap64 ((wrap64 ((wrap64 ((wrap64 ((wrap64 ((wrap64 (x1_1 + 1)) + 1)) + 1)) + 1)) + 1)) + 1)) 3) == 0)⟩ : S34)) (k34_mkM _ _ _ (⟨(rd_T34 y214 x5_1).f0, (rd_T34 y214 x5_1).f1, (rd_T34 y214 x5_1).f2, (rd_T34 y214 x5_1).f3, (rd_T34 y214 x5_1).f4, (rd_T34 y214 x5_1).f5, ((Int.tmod (wrap64 ((wrap64 ((wrap64 ((wrap64 ((wrap64 ((wrap64 (x1_1 + 1)) + 1)) + 1)) + 1)) + 1)) + 1)) 3) == 0)⟩ : S34) ) (fun _ hk => hk); have hx31_6 := hcc31 6 _ rfl; (try simp only [show (k34).sz = 7 from rfl, Nat.mul_one, Nat.add_zero] at hx31_6); have hf31_6 := hfr31 6; (try simp only [show (k34).sz = 7 from rfl, Nat.mul_one, Nat.add_zero] at hf31_6); clear hcl31 hcc31 hfr31 hM31) | ((with_reducible refine gate_store (t := 4) (p := 65) rfl ?_); refine store_event (t := 4) (p := 65) (v := ?vo_w32) (w1 := (w30.setCell ⟨go5, (x5_1 : Int).toNat * 7 + 6, none⟩ (.bool ((Int.tmod (wrap64 ((wrap64 ((wrap64 ((wrap64 ((wrap64 ((wrap64 (x1_1 + 1)) + 1)) + 1)) + 1)) + 1)) + 1)) 3) == 0)))) ?hg ?ho ?hn ?hr ?_; (case ho => rfl); (case hg => rfl); (case hn => rfl); (case hr => first | (go_simp; done) | (go_simp; rfl)); intro w32 hw; have hg : w30.grownBy w32 (some go5) := (by rw [hw]; exact HP31.2); have hp_ : Kd.R k34 34 w32 w0.heap.size (fun k_ => (P0_ k_ ∨ w.heap.size ≤ k_)) (.slice (some ⟨go5, 0, none⟩) x0_1.length co15) y215 := (by rw [hw, Ny215.out]; exact HP31.1); clear HP31; have n0_ := Aside0.mk (hp_); have n1_ := Aside0.mk ((by rw [hw]; exact below_set (HB.out) GB5.out : Below w0.heap.size w0 w32)); have n2_ := Aside0.mk (Kept.of_grown (S := (fun k_ => P0_ k_)) hg (by repeat (first | (with_reducible first | exact HK.out | apply Kept.alloc | apply Kept.drewN | apply Kept.drew) | exact HK.out)) (fun k_ e_ => (HO_0.out.1 k_ e_))); clear HO_0; clear HB; clear HK; have HO_0 := n0_; have HB := n1_; have HK := n2_; clear n0_ n1_ n2_; clear hg hw hp_))
          go_roundg k1
          case measure => have := HK1.out; omega
          case rel => exact ⟨(y215), (wrap64 ((wrap64 ((wrap64 ((wrap64 ((wrap64 ((wrap64 ((wrap64 (x1_1 + 1)) + 1)) + 1)) + 1)) + 1)) + 1)) + 1)), (wrap64 (x5_1 + 1)), (by first | rfl | (simp; done) | (simp [*]; done)), (by first | rfl | (simp; done) | (simp [*]; done)), H', ⟨by have := HK1.out; omega⟩, ⟨by (with_reducible repeat (first | apply Kd.R_alloc | apply Kd.R_drewN | apply Kd.R_drew)); exact HO_0.out⟩, ⟨by repeat (first | (with_reducible first | exact HK.out | apply Kept.alloc | apply Kept.drewN | apply Kept.drew) | exact HK.out)⟩, ⟨By⟩⟩
        · rw [if_neg c4] at H
          exact absurd H (by simp)
      · rw [if_neg c3] at H
        have c3b0 : decide (x5_1 < (x0_1.length : Int)) = false := decide_eq_false c3
        clear c3
        simp only [Option.some.injEq, Prod.mk.injEq] at H
        obtain ⟨rfl, rfl⟩ := H
        obtain ⟨Ao33, co33, eo33⟩ := Kd.R_slice HO_0.out
        subst eo33
        go_wp2
        go_ret
        exact ⟨Rf, by (with_reducible repeat (first | apply Kd.R_alloc | apply Kd.R_drewN | apply Kd.R_drew)); exact HO_0.out, By, by repeat (first | (with_reducible first | exact HK.out | apply Kept.alloc | apply Kept.drewN | apply Kept.drew) | exact HK.out)⟩

set_option linter.unusedVariables false
set_option linter.unusedSimpArgs false

/-! ### laws_markTable: function 27 -/
def laws_markTable.f (k : Nat) (a0_0 : Int) (a0_1 : Int) (l0_2 : List (S34)) (a1 : Int) : Option (Int × (List (S34))) := (laws_markRowS.f k l0_2 a1).bind fun bt217 => (some (bt217.1, bt217.2))
theorem laws_markTable.mono : ∀ a0 a1 a2 a3 k, LeO (laws_markTable.f k a0 a1 a2 a3) (laws_markTable.f (k + 1) a0 a1 a2 a3) := by
  intro a0 a1 a2 a3 k
  unfold laws_markTable.f
  repeat' first
      | (with_reducible exact laws_markRowS.mono _ _ _)
      | (with_reducible exact LeO.refl _)
      | (with_reducible exact LeO.none _)
      | (with_reducible refine LeO.ite ?_ ?_)
      | (with_reducible refine LeO.bind ?_ (fun _ => ?_))
      | exact laws_markRowS.mono _ _ _
      | exact LeO.none _
      | refine LeO.ite ?_ ?_
      | refine LeO.bind ?_ (fun _ => ?_)
set_option maxHeartbeats 8000000 in
set_option maxRecDepth 100000 in
theorem laws_markTable.calls (k : Nat) (a0_0 : Int) (a0_1 : Int) (P0_2_ : Nat → Prop) (u9000_ : Value) (l0_2 : List (S34)) (a1 : Int) (r1 : Int) (r2 : List (S34)) (w0 w : World) (hB : Below w0.heap.size w0 w) (ho0_2 : Kd.R k34 34 w w0.heap.size P0_2_ u9000_ l0_2) (h : laws_markTable.f k a0_0 a0_1 l0_2 a1 = some (r1, r2)) :
    Calls Tryd.prog 27 #[.agg #[.int .i64 a0_0, .int .i64 a0_1, u9000_], .int .i64 a1] w fun e w' => e = .returned (.int .i64 r1) ∧ Kd.R k34 34 w' w0.heap.size (fun k_ => (P0_2_ k_ ∨ w.heap.size ≤ k_)) u9000_ r2 ∧ Below w0.heap.size w0 w' ∧ Kept w w' (fun k_ => P0_2_ k_) := by
  have hu38 := Tryd.underlying38
  have HO0_2 := Aside0.mk (show Kd.R k34 34 w w0.heap.size (fun k_ => (P0_2_ k_ ∨ w.heap.size ≤ k_)) u9000_ l0_2 from Kd.R_mono ho0_2 (fun k_ hk => (.inl hk)))
  have HK := Aside0.mk (Kept.refl w (fun k_ => P0_2_ k_))
  have HW0 := Aside0.mk hB.size
  have HB := Aside0.mk hB
  clear hB
  have H : ((laws_markRowS.f k l0_2 a1).bind fun bt217 => (some (bt217.1, bt217.2))) = some (r1, r2) := h
  clear h
  replace H := Option.bind_eq_some_iff.mp H
  obtain ⟨⟨t217, t218⟩, A30, H⟩ := H
  replace H : (some (t217, t218)) = some (r1, r2) := H
  have A3 := Aside0.mk A30
  clear A30
  simp only [Option.some.injEq, Prod.mk.injEq] at H
  obtain ⟨rfl, rfl⟩ := H
  obtain ⟨Ao4, co4, eo4⟩ := Kd.R_slice HO0_2.out
  subst eo4
  go_enter Tryd.func27, Tryd.ntmps27
  go_wp2_with (first | ((with_reducible refine gate_dst (N := 2) rfl ?_); refine box_event ?hg (N := 2) ?hd (cs := #[.int .i64 a0_0, .int .i64 a0_1, .slice Ao4 l0_2.length co4]) (t := 38) ?hr ?_; (case hd => rfl); (case hg => rfl); (case hr => first | (go_simp; done) | (go_simp; rfl)); intro gb216 hg w5 hbox hb; have n0_ := Aside0.mk (Kd.R_below (rR HO0_2.out) hb); have n1_ := Aside0.mk (Kept.below (S := (fun k_ => P0_2_ k_)) (by repeat (first | (with_reducible first | exact HK.out | apply Kept.alloc | apply Kept.drewN | apply Kept.drew) | exact HK.out)) hb); have n2_ := Aside0.mk (below_step By hb); have n3_ := Aside0.mk (hbox); have n4_ := Aside0.mk ((by rw [hg]; exact (by first | exact HK.out.1 | exact (show Kept w _ (fun k_ => P0_2_ k_) from by repeat (first | (with_reducible first | exact HK.out | apply Kept.alloc | apply Kept.drewN | apply Kept.drew) | exact HK.out)).1) : w.heap.size ≤ gb216)); have n5_ := Aside0.mk ((by rw [hg]; exact (below_size By) : w0.heap.size ≤ gb216)); clear HO0_2; clear HK; clear HB; have HO0_2 := n0_; have HK := n1_; have HB := n2_; have BK216 := n3_; have GW216 := n4_; have GE216 := n5_; clear n0_ n1_ n2_ n3_ n4_ n5_; clear hb hbox hg; have ⟨hcz6_0, hcz6_1, hcz6_2⟩ := cq3 BK216.out; have ⟨hfz6_0, hfz6_1, hfz6_2⟩ := fq3 BK216.out) | ((with_reducible refine gate_callee (f := 71) rfl ?_); refine goesL_ (some 8) rfl rfl Tryd.func71 (by kernel_rfl) rfl #[.slice Ao4 l0_2.length co4, .int .i64 a1] rfl Ag ?_; (with_reducible refine (laws_markRowS.calls k (fun k_ => some k_ = (.slice Ao4 l0_2.length co4 : Value).ownBlock) (.slice Ao4 l0_2.length co4) l0_2 a1 t217 t218 w0 _ ?side1 ?side2 A3.out).mono ?_); (case side1 => repeat (first | (with_reducible first | exact HB.out | apply below_alloc | apply pw_below_drewN | apply below_drew1 | refine below_set ?_ GE216.out) | exact HB.out)); (case side2 => exact Kd.R_tight rfl HO0_2.out); rintro e w7 ⟨rfl, hy0, hb, hkp⟩; refine ⟨_, rfl, ?_⟩; have n0_ := Aside0.mk (Kd.R_reok rfl hy0 (fun k_ e_ => HO0_2.out.1 k_ e_)); have n1_ := Aside0.mk (blk_kept Pk hkp (fun hs_ => (fun e_ => (Kd.R_ne HO0_2.out BK216.out (by decide)) e_) hs_)); have n2_ := Aside0.mk (Kept.then_ (S := (fun k_ => P0_2_ k_)) (by repeat (first | (with_reducible first | exact HK.out | apply Kept.alloc | apply Kept.drewN | apply Kept.drew | refine Kept.setCell ?_ (.inr GW216.out) _) | exact HK.out)) hkp (fun k_ hs_ => (fun e_ => (HO0_2.out.1 k_ e_.symm)) hs_)); have n3_ := Aside0.mk (hb); clear HO0_2; clear BK216; clear HK; clear HB; have HO0_2 := n0_; have BK216 := n1_; have HK := n2_; have HB := n3_; clear n0_ n1_ n2_ n3_; (try clear hb); (try clear hkp); (try clear hy0)))
  go_ret
  exact ⟨Rf, by (with_reducible repeat (first | apply Kd.R_alloc | apply Kd.R_drewN | apply Kd.R_drew)); exact HO0_2.out, By, by repeat (first | (with_reducible first | exact HK.out | apply Kept.alloc | apply Kept.drewN | apply Kept.drew | refine Kept.setCell ?_ (.inr GW216.out) _) | exact HK.out)⟩

set_option linter.unusedVariables false
set_option linter.unusedSimpArgs false

/-! ### laws_heldRowS: function 72 -/
def laws_heldRowS.l0 : Nat → List (S34) → Int → Int → Option (Int)
  | 0, _, _, _ => none
  | k + 1, x0, x1, x5 => if x5 < (x0.length : Int) then (if 0 ≤ x5 then (if ((rd_T34 x0 x5).f0) = x1 then ((laws_markText.f k (wrap64 (x1 + 1))).bind fun t221 => (if ((rd_T34 x0 x5).f1).toList = t221.toList then ((laws_markText.f k (wrap64 ((wrap64 (x1 + 1)) + 1))).bind fun t223 => (if ((rd_T34 x0 x5).f2).toList = t223.toList then ((laws_markText.f k (wrap64 ((wrap64 ((wrap64 (x1 + 1)) + 1)) + 1))).bind fun t225 => (if ((rd_T34 x0 x5).f3).toList = t225.toList then (if (((rd_T34 x0 x5).f4) != ((Int.tmod (wrap64 ((wrap64 ((wrap64 ((wrap64 (x1 + 1)) + 1)) + 1)) + 1)) 3) == 0)) = true then (some (-1)) else (if ((rd_T34 x0 x5).f5) = (wrap64 ((wrap64 ((wrap64 ((wrap64 ((wrap64 (x1 + 1)) + 1)) + 1)) + 1)) + 1)) then (if (((rd_T34 x0 x5).f6) != ((Int.tmod (wrap64 ((wrap64 ((wrap64 ((wrap64 ((wrap64 ((wrap64 (x1 + 1)) + 1)) + 1)) + 1)) + 1)) + 1)) 3) == 0)) = true then (some (-1)) else (laws_heldRowS.l0 k x0 (wrap64 ((wrap64 ((wrap64 ((wrap64 ((wrap64 ((wrap64 ((wrap64 (x1 + 1)) + 1)) + 1)) + 1)) + 1)) + 1)) + 1)) (wrap64 (x5 + 1)))) else (some (-1)))) else (some (-1)))) else (some (-1)))) else (some (-1)))) else (some (-1))) else (none)) else (some x1)
def laws_heldRowS.f (k : Nat) (l0 : List (S34)) (a1 : Int) : Option (Int) := laws_heldRowS.l0 k l0 a1 0
theorem laws_heldRowS.mono_l : ∀ k, (∀ y0 y1 y2, LeO (laws_heldRowS.l0 k y0 y1 y2) (laws_heldRowS.l0 (k + 1) y0 y1 y2))
  | 0 => fun _ _ _ r h => by simp [laws_heldRowS.l0] at h
  | k + 1 => by
    have ih0 := laws_heldRowS.mono_l k
    · intro y0 y1 y2
      unfold laws_heldRowS.l0
      repeat' first
      | (with_reducible exact ih0 _ _ _)
      | (with_reducible exact laws_markText.mono _ _)
      | (with_reducible exact LeO.refl _)
      | (with_reducible exact LeO.none _)
      | (with_reducible refine LeO.ite ?_ ?_)
      | (with_reducible refine LeO.bind ?_ (fun _ => ?_))
      | exact ih0 _ _ _
      | exact laws_markText.mono _ _
      | exact LeO.none _
      | refine LeO.ite ?_ ?_
      | refine LeO.bind ?_ (fun _ => ?_)
theorem laws_heldRowS.mono : ∀ a0 a1 k, LeO (laws_heldRowS.f k a0 a1) (laws_heldRowS.f (k + 1) a0 a1) := by
  intro a0 a1 k
  have ih0 := laws_heldRowS.mono_l k
  unfold laws_heldRowS.f
  repeat' first
      | (with_reducible exact ih0 _ _ _)
      | (with_reducible exact laws_markText.mono _ _)
      | (with_reducible exact LeO.refl _)
      | (with_reducible exact LeO.none _)
      | (with_reducible refine LeO.ite ?_ ?_)
      | (with_reducible refine LeO.bind ?_ (fun _ => ?_))
      | exact ih0 _ _ _
      | exact laws_markText.mono _ _
      | exact LeO.none _
      | refine LeO.ite ?_ ?_
      | refine LeO.bind ?_ (fun _ => ?_)
def laws_heldRowS.T7 : Bool × List (List Nat × List Nat) := (true, [([], []), ([], []), ([0, 1], [0, 1]), ([2], [2]), ([3], [3]), ([], []), ([5], [5]), ([4, 6], [4, 6])])
def laws_heldRowS.B7 : List Nat := [0, 0, 3, 7, 15, 0, 32, 127]
theorem laws_heldRowS.tab7 : rtab .any (opsOf Tryd.f72 7) = laws_heldRowS.T7 := by kernel_rfl
theorem laws_heldRowS.bits7 : waitsOk laws_heldRowS.T7.2 laws_heldRowS.B7 = true := by kernel_rfl
def laws_heldRowS.T10 : Bool × List (List Nat × List Nat) := (true, [([], []), ([], []), ([0, 1], [0, 1]), ([2], [2]), ([3], [3]), ([], []), ([5], [5]), ([4, 6], [4, 6])])
def laws_heldRowS.B10 : List Nat := [0, 0, 3, 7, 15, 0, 32, 127]
theorem laws_heldRowS.tab10 : rtab .any (opsOf Tryd.f72 10) = laws_heldRowS.T10 := by kernel_rfl
theorem laws_heldRowS.bits10 : waitsOk laws_heldRowS.T10.2 laws_heldRowS.B10 = true := by kernel_rfl
def laws_heldRowS.T13 : Bool × List (List Nat × List Nat) := (true, [([], []), ([], []), ([0, 1], [0, 1]), ([2], [2]), ([3], [3]), ([], []), ([5], [5]), ([4, 6], [4, 6])])
def laws_heldRowS.B13 : List Nat := [0, 0, 3, 7, 15, 0, 32, 127]
theorem laws_heldRowS.tab13 : rtab .any (opsOf Tryd.f72 13) = laws_heldRowS.T13 := by kernel_rfl
theorem laws_heldRowS.bits13 : waitsOk laws_heldRowS.T13.2 laws_heldRowS.B13 = true := by kernel_rfl
set_option maxHeartbeats 8000000 in
set_option maxRecDepth 100000 in
theorem laws_heldRowS.calls (k : Nat) (A0 : Option Addr) (c0 : Nat) (l0 : List (S34)) (a1 : Int) (r : Int) (w : World) (hr0 : Kd.C k34 w A0 l0.length l0) (hc0 : l0.length ≤ c0) (h : laws_heldRowS.f k l0 a1 = some r) :
    Calls Tryd.prog 72 #[.slice A0 l0.length c0, .int .i64 a1] w fun e w' => e = .returned (.int .i64 r) ∧ Below w.heap.size w w' := by
  have HR0 := Aside0.mk hr0
  have HC0 := Aside0.mk hc0
  clear hr0 hc0
  have HB := Aside0.mk (Below.refl w.heap.size w)
  have H : (laws_heldRowS.l0 k l0 a1 0) = some r := h
  clear h
  have H' := Aside0.mk H
  clear H
  go_enter Tryd.func72, Tryd.ntmps72
  go_wp2
  go_loopg [1, 5] k (fun kq v1 v5 w' => ∃ (x1_1 : Int) (x5_1 : Int), v1 = .int .i64 x1_1 ∧ v5 = .int .i64 x5_1 ∧ Aside0 (laws_heldRowS.l0 kq l0 x1_1 x5_1 = some r) ∧ Aside0 (kq ≤ k) ∧ Aside0 (Below w.heap.size w w'))
  case atStart => exact ⟨(a1), (0), (by first | rfl | (simp; done) | (simp [*]; done)), (by first | rfl | (simp; done) | (simp [*]; done)), H', ⟨Nat.le_refl _⟩, ⟨By⟩⟩
  case round =>
    clear H'
    try clear p2
    obtain ⟨x1_1, x5_1, rfl, rfl, HA, HK1, HB⟩ := hrel
    cases gk with
    | zero => exact absurd HA.out (by simp [laws_heldRowS.l0])
    | succ k1 =>
      have H := HA.out
      clear HA
      simp only [laws_heldRowS.l0] at H
      by_cases c3 : x5_1 < (l0.length : Int)
      · rw [if_pos c3] at H
        have c3b0 : decide (x5_1 < (l0.length : Int)) = true := decide_eq_true c3
        clear c3
        by_cases c4 : 0 ≤ x5_1
        · rw [if_pos c4] at H
          have c4b0 : decide (0 ≤ x5_1) = true := decide_eq_true c4
          clear c4
          by_cases c5 : ((rd_T34 l0 x5_1).f0) = x1_1
          · rw [if_pos c5] at H
            have c5b0 : (((rd_T34 l0 x5_1).f0) == x1_1) = true := beq_iff_eq.mpr c5
            have c5b1 : (((rd_T34 l0 x5_1).f0) != x1_1) = false := bne_eq_false_iff_eq.mpr c5
            clear c5
            replace H := Option.bind_eq_some_iff.mp H
            obtain ⟨t221, A60, H⟩ := H
            replace H : (if ((rd_T34 l0 x5_1).f1).toList = t221.toList then ((laws_markText.f k1 (wrap64 ((wrap64 (x1_1 + 1)) + 1))).bind fun t223 => (if ((rd_T34 l0 x5_1).f2).toList = t223.toList then ((laws_markText.f k1 (wrap64 ((wrap64 ((wrap64 (x1_1 + 1)) + 1)) + 1))).bind fun t225 => (if ((rd_T34 l0 x5_1).f3).toList = t225.toList then (if (((rd_T34 l0 x5_1).f4) != ((Int.tmod (wrap64 ((wrap64 ((wrap64 ((wrap64 (x1_1 + 1)) + 1)) + 1)) + 1)) 3) == 0)) = true then (some (-1)) else (if ((rd_T34 l0 x5_1).f5) = (wrap64 ((wrap64 ((wrap64 ((wrap64 ((wrap64 (x1_1 + 1)) + 1)) + 1)) + 1)) + 1)) then (if (((rd_T34 l0 x5_1).f6) != ((Int.tmod (wrap64 ((wrap64 ((wrap64 ((wrap64 ((wrap64 ((wrap64 (x1_1 + 1)) + 1)) + 1)) + 1)) + 1)) + 1)) 3) == 0)) = true then (some (-1)) else (laws_heldRowS.l0 k1 l0 (wrap64 ((wrap64 ((wrap64 ((wrap64 ((wrap64 ((wrap64 ((wrap64 (x1_1 + 1)) + 1)) + 1)) + 1)) + 1)) + 1)) + 1)) (wrap64 (x5_1 + 1)))) else (some (-1)))) else (some (-1)))) else (some (-1)))) else (some (-1))) = some r := H
            have A6 := Aside0.mk A60
            clear A60
            by_cases c7 : ((rd_T34 l0 x5_1).f1).toList = t221.toList
            · rw [if_pos c7] at H
              have c7b0 : (((rd_T34 l0 x5_1).f1).toList == t221.toList) = true := beq_iff_eq.mpr c7
              have c7b1 : (((rd_T34 l0 x5_1).f1).toList != t221.toList) = false := bne_eq_false_iff_eq.mpr c7
              clear c7
              replace H := Option.bind_eq_some_iff.mp H
              obtain ⟨t223, A80, H⟩ := H
              replace H : (if ((rd_T34 l0 x5_1).f2).toList = t223.toList then ((laws_markText.f k1 (wrap64 ((wrap64 ((wrap64 (x1_1 + 1)) + 1)) + 1))).bind fun t225 => (if ((rd_T34 l0 x5_1).f3).toList = t225.toList then (if (((rd_T34 l0 x5_1).f4) != ((Int.tmod (wrap64 ((wrap64 ((wrap64 ((wrap64 (x1_1 + 1)) + 1)) + 1)) + 1)) 3) == 0)) = true then (some (-1)) else (if ((rd_T34 l0 x5_1).f5) = (wrap64 ((wrap64 ((wrap64 ((wrap64 ((wrap64 (x1_1 + 1)) + 1)) + 1)) + 1)) + 1)) then (if (((rd_T34 l0 x5_1).f6) != ((Int.tmod (wrap64 ((wrap64 ((wrap64 ((wrap64 ((wrap64 ((wrap64 (x1_1 + 1)) + 1)) + 1)) + 1)) + 1)) + 1)) 3) == 0)) = true then (some (-1)) else (laws_heldRowS.l0 k1 l0 (wrap64 ((wrap64 ((wrap64 ((wrap64 ((wrap64 ((wrap64 ((wrap64 (x1_1 + 1)) + 1)) + 1)) + 1)) + 1)) + 1)) + 1)) (wrap64 (x5_1 + 1)))) else (some (-1)))) else (some (-1)))) else (some (-1))) = some r := H
              have A8 := Aside0.mk A80
              clear A80
              by_cases c9 : ((rd_T34 l0 x5_1).f2).toList = t223.toList
              · rw [if_pos c9] at H
                have c9b0 : (((rd_T34 l0 x5_1).f2).toList == t223.toList) = true := beq_iff_eq.mpr c9
                have c9b1 : (((rd_T34 l0 x5_1).f2).toList != t223.toList) = false := bne_eq_false_iff_eq.mpr c9
                clear c9
                replace H := Option.bind_eq_some_iff.mp H
                obtain ⟨t225, A100, H⟩ := H
                replace H : (if ((rd_T34 l0 x5_1).f3).toList = t225.toList then (if (((rd_T34 l0 x5_1).f4) != ((Int.tmod (wrap64 ((wrap64 ((wrap64 ((wrap64 (x1_1 + 1)) + 1)) + 1)) + 1)) 3) == 0)) = true then (some (-1)) else (if ((rd_T34 l0 x5_1).f5) = (wrap64 ((wrap64 ((wrap64 ((wrap64 ((wrap64 (x1_1 + 1)) + 1)) + 1)) + 1)) + 1)) then (if (((rd_T34 l0 x5_1).f6) != ((Int.tmod (wrap64 ((wrap64 ((wrap64 ((wrap64 ((wrap64 ((wrap64 (x1_1 + 1)) + 1)) + 1)) + 1)) + 1)) + 1)) 3) == 0)) = true then (some (-1)) else (laws_heldRowS.l0 k1 l0 (wrap64 ((wrap64 ((wrap64 ((wrap64 ((wrap64 ((wrap64 ((wrap64 (x1_1 + 1)) + 1)) + 1)) + 1)) + 1)) + 1)) + 1)) (wrap64 (x5_1 + 1)))) else (some (-1)))) else (some (-1))) = some r := H
                have A10 := Aside0.mk A100
                clear A100
                by_cases c11 : ((rd_T34 l0 x5_1).f3).toList = t225.toList
                · rw [if_pos c11] at H
                  have c11b0 : (((rd_T34 l0 x5_1).f3).toList == t225.toList) = true := beq_iff_eq.mpr c11
                  have c11b1 : (((rd_T34 l0 x5_1).f3).toList != t225.toList) = false := bne_eq_false_iff_eq.mpr c11
                  clear c11
                  by_cases c12 : (((rd_T34 l0 x5_1).f4) != ((Int.tmod (wrap64 ((wrap64 ((wrap64 ((wrap64 (x1_1 + 1)) + 1)) + 1)) + 1)) 3) == 0)) = true
                  · rw [if_pos c12] at H
                    have c12b0 : (((rd_T34 l0 x5_1).f4) != ((Int.tmod (wrap64 ((wrap64 ((wrap64 ((wrap64 (x1_1 + 1)) + 1)) + 1)) + 1)) 3) == 0)) = true := c12
                    (try (have c12b1 : decide (((rd_T34 l0 x5_1).f4) = ((Int.tmod (wrap64 ((wrap64 ((wrap64 ((wrap64 (x1_1 + 1)) + 1)) + 1)) + 1)) 3) == 0)) = false := by simpa using c12))
                    (try (have c12b2 : (((rd_T34 l0 x5_1).f4) == ((Int.tmod (wrap64 ((wrap64 ((wrap64 ((wrap64 (x1_1 + 1)) + 1)) + 1)) + 1)) 3) == 0)) = false := by simpa using c12))
                    (try (have c12b3 : ¬ (((rd_T34 l0 x5_1).f4) = ((Int.tmod (wrap64 ((wrap64 ((wrap64 ((wrap64 (x1_1 + 1)) + 1)) + 1)) + 1)) 3) == 0)) := by simpa using c12))
                    clear c12
                    obtain rfl := Option.some.inj H
                    have p219 : 0 ≤ (x5_1 : Int) := of_decide_eq_true Da
                    have q219 : x5_1 < (l0.length : Int) := of_decide_eq_true Da
                    obtain ⟨ad219, e219, hx219_0, hx219_1, hx219_2, hx219_3, hx219_4, hx219_5, hx219_6⟩ := at_T34 HR0.out x5_1 p219 q219
                    cases e219
                    replace hx219_0 := bz HB.out hx219_0
                    replace hx219_1 := bz HB.out hx219_1
                    replace hx219_2 := bz HB.out hx219_2
                    replace hx219_3 := bz HB.out hx219_3
                    replace hx219_4 := bz HB.out hx219_4
                    replace hx219_5 := bz HB.out hx219_5
                    replace hx219_6 := bz HB.out hx219_6
                    replace p219 := eq_true p219
                    replace q219 := eq_true q219
                    try go_wp2
                    have n0_ := Aside0.mk (below_drew1 HB.out)
                    clear HB
                    have HB := n0_
                    clear n0_
                    have p220 : 0 ≤ (x5_1 : Int) := of_decide_eq_true Da
                    have q220 : x5_1 < (l0.length : Int) := of_decide_eq_true Da
                    obtain ⟨ad220, e220, hx220_0, hx220_1, hx220_2, hx220_3, hx220_4, hx220_5, hx220_6⟩ := at_T34 HR0.out x5_1 p220 q220
                    have hw220_6 := hx220_6
                    have hw220_5 := hx220_5
                    have hw220_4 := hx220_4
                    have hw220_3 := hx220_3
                    have hw220_2 := hx220_2
                    have hw220_1 := hx220_1
                    have hw220_0 := hx220_0
                    obtain rfl : ad219 = ad220 := (by injection e220)
                    replace hx220_0 := bz HB.out hx220_0
                    replace hx220_1 := bz HB.out hx220_1
                    replace hx220_2 := bz HB.out hx220_2
                    replace hx220_3 := bz HB.out hx220_3
                    replace hx220_4 := bz HB.out hx220_4
                    replace hx220_5 := bz HB.out hx220_5
                    replace hx220_6 := bz HB.out hx220_6
                    replace p220 := eq_true p220
                    replace q220 := eq_true q220
                    refine start_ (n := 8) (S := fun w' => w'.cell? (ad219.add ((x5_1).toNat * 7)) = some (.int .i64 ((rd_T34 l0 x5_1).f0)) ∧ w'.cell? ⟨(ad219.add ((x5_1).toNat * 7)).block, (ad219.add ((x5_1).toNat * 7)).off + 1, none⟩ = some (.string ((rd_T34 l0 x5_1).f1)) ∧ w'.cell? ⟨(ad219.add ((x5_1).toNat * 7)).block, (ad219.add ((x5_1).toNat * 7)).off + 2, none⟩ = some (.string ((rd_T34 l0 x5_1).f2)) ∧ w'.cell? ⟨(ad219.add ((x5_1).toNat * 7)).block, (ad219.add ((x5_1).toNat * 7)).off + 3, none⟩ = some (.string ((rd_T34 l0 x5_1).f3)) ∧ w'.cell? ⟨(ad219.add ((x5_1).toNat * 7)).block, (ad219.add ((x5_1).toNat * 7)).off + 4, none⟩ = some (.bool ((rd_T34 l0 x5_1).f4)) ∧ w'.cell? ⟨(ad219.add ((x5_1).toNat * 7)).block, (ad219.add ((x5_1).toNat * 7)).off + 5, none⟩ = some (.int .i64 ((rd_T34 l0 x5_1).f5)) ∧ w'.cell? ⟨(ad219.add ((x5_1).toNat * 7)).block, (ad219.add ((x5_1).toNat * 7)).off + 6, none⟩ = some (.bool ((rd_T34 l0 x5_1).f6))) (ds := []) (bv 8 0) (by kernel_rfl) rfl rfl ⟨(bz HB.out hw220_0), (bz HB.out hw220_1), (bz HB.out hw220_2), (bz HB.out hw220_3), (bz HB.out hw220_4), (bz HB.out hw220_5), (bz HB.out hw220_6)⟩ (fun hHeld => ?_); refine with_tabW laws_heldRowS.tab7 laws_heldRowS.bits7 (fun HT_ HW_ => ?_)
                    generalize wr.drew = w13 at HB hx220_0 hx220_1 hx220_2 hx220_3 hx220_4 hx220_5 hx220_6 hHeld ⊢
                    refine pu 0 21 (bv 8 1) HT_.out (h := ?_)
                    refine pu 1 22 (bv 8 3) HT_.out (h := ?_)
                    refine pu 2 23 (bv 8 7) HT_.out (h := ?_)
                    refine pu 3 24 (bv 8 15) HT_.out (h := ?_)
                    refine pu 5 26 (bv 8 47) HT_.out (h := ?_)
                    refine tk 4 25 (bv 8 63) HT_.out HW_.out hHeld (h := ?_)
                    refine one_ (i := 6) (N := some 27) (bv 8 127) rfl rfl (one_of HT_.out (by kernel_rfl)) (by decide) (fun K hK => ?_)
                    refine goes_ Tryd.func103 (by kernel_rfl) rfl #[.int .i64 (wrap64 (x1_1 + 1))] (by rfl) rfl rfl Ag ?_
                    with_reducible refine (laws_markText.calls k1 (wrap64 (x1_1 + 1)) t221 _ A6.out).mono ?_
                    rintro e w14 ⟨rfl, hb⟩
                    refine ⟨_, rfl, ?_⟩
                    have n0_ := Aside0.mk (below_step By hb)
                    clear HB
                    have HB := n0_
                    clear n0_
                    (try clear hb)
                    (try clear hb2)
                    (try clear hk)
                    (try clear hi)
                    refine hK.out _ _ ⟨(bz HB.out hw220_0), (bz HB.out hw220_1), (bz HB.out hw220_2), (bz HB.out hw220_3), (bz HB.out hw220_4), (bz HB.out hw220_5), (bz HB.out hw220_6)⟩ (fun hHeld => ?_)
                    clear hK K
                    refine norm_ (a' := ?_) ?_ ?_
                    rotate_left
                    · show Act.put _ (some 27) _ = _
                      simp only [Act.put, List.setIfInBounds_toArray, List.set_cons_zero, List.set_cons_succ, i64_w, i32_w]
                      rfl
                    refine pu 7 28 (bv 8 255) HT_.out (h := ?_)
                    refine done_ (done_of HT_.out (by kernel_rfl)) ?_
                    try go_wp2
                    have n0_ := Aside0.mk (below_drew1 HB.out)
                    clear HB
                    have HB := n0_
                    clear n0_
                    have p222 : 0 ≤ (x5_1 : Int) := of_decide_eq_true Da
                    have q222 : x5_1 < (l0.length : Int) := of_decide_eq_true Da
                    obtain ⟨ad222, e222, hx222_0, hx222_1, hx222_2, hx222_3, hx222_4, hx222_5, hx222_6⟩ := at_T34 HR0.out x5_1 p222 q222
                    have hw222_6 := hx222_6
                    have hw222_5 := hx222_5
                    have hw222_4 := hx222_4
                    have hw222_3 := hx222_3
                    have hw222_2 := hx222_2
                    have hw222_1 := hx222_1
                    have hw222_0 := hx222_0
                    obtain rfl : ad219 = ad222 := (by injection e222)
                    replace hx222_0 := bz HB.out hx222_0
                    replace hx222_1 := bz HB.out hx222_1
                    replace hx222_2 := bz HB.out hx222_2
                    replace hx222_3 := bz HB.out hx222_3
                    replace hx222_4 := bz HB.out hx222_4
                    replace hx222_5 := bz HB.out hx222_5
                    replace hx222_6 := bz HB.out hx222_6
                    replace p222 := eq_true p222
                    replace q222 := eq_true q222
                    refine start_ (n := 8) (S := fun w' => w'.cell? (ad219.add ((x5_1).toNat * 7)) = some (.int .i64 ((rd_T34 l0 x5_1).f0)) ∧ w'.cell? ⟨(ad219.add ((x5_1).toNat * 7)).block, (ad219.add ((x5_1).toNat * 7)).off + 1, none⟩ = some (.string ((rd_T34 l0 x5_1).f1)) ∧ w'.cell? ⟨(ad219.add ((x5_1).toNat * 7)).block, (ad219.add ((x5_1).toNat * 7)).off + 2, none⟩ = some (.string ((rd_T34 l0 x5_1).f2)) ∧ w'.cell? ⟨(ad219.add ((x5_1).toNat * 7)).block, (ad219.add ((x5_1).toNat * 7)).off + 3, none⟩ = some (.string ((rd_T34 l0 x5_1).f3)) ∧ w'.cell? ⟨(ad219.add ((x5_1).toNat * 7)).block, (ad219.add ((x5_1).toNat * 7)).off + 4, none⟩ = some (.bool ((rd_T34 l0 x5_1).f4)) ∧ w'.cell? ⟨(ad219.add ((x5_1).toNat * 7)).block, (ad219.add ((x5_1).toNat * 7)).off + 5, none⟩ = some (.int .i64 ((rd_T34 l0 x5_1).f5)) ∧ w'.cell? ⟨(ad219.add ((x5_1).toNat * 7)).block, (ad219.add ((x5_1).toNat * 7)).off + 6, none⟩ = some (.bool ((rd_T34 l0 x5_1).f6))) (ds := []) (bv 8 0) (by kernel_rfl) rfl rfl ⟨(bz HB.out hw222_0), (bz HB.out hw222_1), (bz HB.out hw222_2), (bz HB.out hw222_3), (bz HB.out hw222_4), (bz HB.out hw222_5), (bz HB.out hw222_6)⟩ (fun hHeld => ?_); refine with_tabW laws_heldRowS.tab10 laws_heldRowS.bits10 (fun HT_ HW_ => ?_)
                    generalize w14.drew = w15 at HB hx222_0 hx222_1 hx222_2 hx222_3 hx222_4 hx222_5 hx222_6 hHeld ⊢
                    refine pu 0 31 (bv 8 1) HT_.out (h := ?_)
                    refine pu 1 32 (bv 8 3) HT_.out (h := ?_)
                    refine pu 2 33 (bv 8 7) HT_.out (h := ?_)
                    refine pu 3 34 (bv 8 15) HT_.out (h := ?_)
                    refine pu 5 36 (bv 8 47) HT_.out (h := ?_)
                    refine tk 4 35 (bv 8 63) HT_.out HW_.out hHeld (h := ?_)
                    refine one_ (i := 6) (N := some 37) (bv 8 127) rfl rfl (one_of HT_.out (by kernel_rfl)) (by decide) (fun K hK => ?_)
                    refine goes_ Tryd.func103 (by kernel_rfl) rfl #[.int .i64 (wrap64 ((wrap64 (x1_1 + 1)) + 1))] (by rfl) rfl rfl Ag ?_
                    with_reducible refine (laws_markText.calls k1 (wrap64 ((wrap64 (x1_1 + 1)) + 1)) t223 _ A8.out).mono ?_
                    rintro e w16 ⟨rfl, hb⟩
                    refine ⟨_, rfl, ?_⟩
                    have n0_ := Aside0.mk (below_step By hb)
                    clear HB
                    have HB := n0_
                    clear n0_
                    (try clear hb)
                    (try clear hb2)
                    (try clear hk)
                    (try clear hi)
                    refine hK.out _ _ ⟨(bz HB.out hw222_0), (bz HB.out hw222_1), (bz HB.out hw222_2), (bz HB.out hw222_3), (bz HB.out hw222_4), (bz HB.out hw222_5), (bz HB.out hw222_6)⟩ (fun hHeld => ?_)
                    clear hK K
                    refine norm_ (a' := ?_) ?_ ?_
                    rotate_left
                    · show Act.put _ (some 37) _ = _
                      simp only [Act.put, List.setIfInBounds_toArray, List.set_cons_zero, List.set_cons_succ, i64_w, i32_w]
                      rfl
                    refine pu 7 38 (bv 8 255) HT_.out (h := ?_)
                    refine done_ (done_of HT_.out (by kernel_rfl)) ?_
                    try go_wp2
                    have n0_ := Aside0.mk (below_drew1 HB.out)
                    clear HB
                    have HB := n0_
                    clear n0_
                    have p224 : 0 ≤ (x5_1 : Int) := of_decide_eq_true Da
                    have q224 : x5_1 < (l0.length : Int) := of_decide_eq_true Da
                    obtain ⟨ad224, e224, hx224_0, hx224_1, hx224_2, hx224_3, hx224_4, hx224_5, hx224_6⟩ := at_T34 HR0.out x5_1 p224 q224
                    have hw224_6 := hx224_6
                    have hw224_5 := hx224_5
                    have hw224_4 := hx224_4
                    have hw224_3 := hx224_3
                    have hw224_2 := hx224_2
                    have hw224_1 := hx224_1
                    have hw224_0 := hx224_0
                    obtain rfl : ad219 = ad224 := (by injection e224)
                    replace hx224_0 := bz HB.out hx224_0
                    replace hx224_1 := bz HB.out hx224_1
                    replace hx224_2 := bz HB.out hx224_2
                    replace hx224_3 := bz HB.out hx224_3
                    replace hx224_4 := bz HB.out hx224_4
                    replace hx224_5 := bz HB.out hx224_5
                    replace hx224_6 := bz HB.out hx224_6
                    replace p224 := eq_true p224
                    replace q224 := eq_true q224
                    refine start_ (n := 8) (S := fun w' => w'.cell? (ad219.add ((x5_1).toNat * 7)) = some (.int .i64 ((rd_T34 l0 x5_1).f0)) ∧ w'.cell? ⟨(ad219.add ((x5_1).toNat * 7)).block, (ad219.add ((x5_1).toNat * 7)).off + 1, none⟩ = some (.string ((rd_T34 l0 x5_1).f1)) ∧ w'.cell? ⟨(ad219.add ((x5_1).toNat * 7)).block, (ad219.add ((x5_1).toNat * 7)).off + 2, none⟩ = some (.string ((rd_T34 l0 x5_1).f2)) ∧ w'.cell? ⟨(ad219.add ((x5_1).toNat * 7)).block, (ad219.add ((x5_1).toNat * 7)).off + 3, none⟩ = some (.string ((rd_T34 l0 x5_1).f3)) ∧ w'.cell? ⟨(ad219.add ((x5_1).toNat * 7)).block, (ad219.add ((x5_1).toNat * 7)).off + 4, none⟩ = some (.bool ((rd_T34 l0 x5_1).f4)) ∧ w'.cell? ⟨(ad219.add ((x5_1).toNat * 7)).block, (ad219.add ((x5_1).toNat * 7)).off + 5, none⟩ = some (.int .i64 ((rd_T34 l0 x5_1).f5)) ∧ w'.cell? ⟨(ad219.add ((x5_1).toNat * 7)).block, (ad219.add ((x5_1).toNat * 7)).off + 6, none⟩ = some (.bool ((rd_T34 l0 x5_1).f6))) (ds := []) (bv 8 0) (by kernel_rfl) rfl rfl ⟨(bz HB.out hw224_0), (bz HB.out hw224_1), (bz HB.out hw224_2), (bz HB.out hw224_3), (bz HB.out hw224_4), (bz HB.out hw224_5), (bz HB.out hw224_6)⟩ (fun hHeld => ?_); refine with_tabW laws_heldRowS.tab13 laws_heldRowS.bits13 (fun HT_ HW_ => ?_)
                    generalize w16.drew = w17 at HB hx224_0 hx224_1 hx224_2 hx224_3 hx224_4 hx224_5 hx224_6 hHeld ⊢
                    refine pu 0 41 (bv 8 1) HT_.out (h := ?_)
                    refine pu 1 42 (bv 8 3) HT_.out (h := ?_)
                    refine pu 2 43 (bv 8 7) HT_.out (h := ?_)
                    refine pu 3 44 (bv 8 15) HT_.out (h := ?_)
                    refine pu 5 46 (bv 8 47) HT_.out (h := ?_)
                    refine tk 4 45 (bv 8 63) HT_.out HW_.out hHeld (h := ?_)
                    refine one_ (i := 6) (N := some 47) (bv 8 127) rfl rfl (one_of HT_.out (by kernel_rfl)) (by decide) (fun K hK => ?_)
                    refine goes_ Tryd.func103 (by kernel_rfl) rfl #[.int .i64 (wrap64 ((wrap64 ((wrap64 (x1_1 + 1)) + 1)) + 1))] (by rfl) rfl rfl Ag ?_
                    with_reducible refine (laws_markText.calls k1 (wrap64 ((wrap64 ((wrap64 (x1_1 + 1)) + 1)) + 1)) t225 _ A10.out).mono ?_
                    rintro e w18 ⟨rfl, hb⟩
                    refine ⟨_, rfl, ?_⟩
                    have n0_ := Aside0.mk (below_step By hb)
                    clear HB
                    have HB := n0_
                    clear n0_
                    (try clear hb)
                    (try clear hb2)
                    (try clear hk)
                    (try clear hi)
                    refine hK.out _ _ ⟨(bz HB.out hw224_0), (bz HB.out hw224_1), (bz HB.out hw224_2), (bz HB.out hw224_3), (bz HB.out hw224_4), (bz HB.out hw224_5), (bz HB.out hw224_6)⟩ (fun hHeld => ?_)
                    clear hK K
                    refine norm_ (a' := ?_) ?_ ?_
                    rotate_left
                    · show Act.put _ (some 47) _ = _
                      simp only [Act.put, List.setIfInBounds_toArray, List.set_cons_zero, List.set_cons_succ, i64_w, i32_w]
                      rfl
                    refine pu 7 48 (bv 8 255) HT_.out (h := ?_)
                    refine done_ (done_of HT_.out (by kernel_rfl)) ?_
                    have p226 : 0 ≤ (x5_1 : Int) := of_decide_eq_true Da
                    have q226 : x5_1 < (l0.length : Int) := of_decide_eq_true Da
                    obtain ⟨ad226, e226, hx226_0, hx226_1, hx226_2, hx226_3, hx226_4, hx226_5, hx226_6⟩ := at_T34 HR0.out x5_1 p226 q226
                    obtain rfl : ad219 = ad226 := (by injection e226)
                    replace hx226_0 := bz HB.out hx226_0
                    replace hx226_1 := bz HB.out hx226_1
                    replace hx226_2 := bz HB.out hx226_2
                    replace hx226_3 := bz HB.out hx226_3
                    replace hx226_4 := bz HB.out hx226_4
                    replace hx226_5 := bz HB.out hx226_5
                    replace hx226_6 := bz HB.out hx226_6
                    replace p226 := eq_true p226
                    replace q226 := eq_true q226
                    try go_wp2
                    go_ret
                    exact ⟨Rf, By⟩
                  · rw [if_neg c12] at H
                    have c12b0 : (((rd_T34 l0 x5_1).f4) != ((Int.tmod (wrap64 ((wrap64 ((wrap64 ((wrap64 (x1_1 + 1)) + 1)) + 1)) + 1)) 3) == 0)) = false := by simpa using c12
                    (try (have c12b1 : decide (((rd_T34 l0 x5_1).f4) = ((Int.tmod (wrap64 ((wrap64 ((wrap64 ((wrap64 (x1_1 + 1)) + 1)) + 1)) + 1)) 3) == 0)) = true := by simpa using c12))
                    (try (have c12b2 : (((rd_T34 l0 x5_1).f4) == ((Int.tmod (wrap64 ((wrap64 ((wrap64 ((wrap64 (x1_1 + 1)) + 1)) + 1)) + 1)) 3) == 0)) = true := by simpa using c12))
                    clear c12
                    by_cases c19 : ((rd_T34 l0 x5_1).f5) = (wrap64 ((wrap64 ((wrap64 ((wrap64 ((wrap64 (x1_1 + 1)) + 1)) + 1)) + 1)) + 1))
                    · rw [if_pos c19] at H
                      have c19b0 : (((rd_T34 l0 x5_1).f5) == (wrap64 ((wrap64 ((wrap64 ((wrap64 ((wrap64 (x1_1 + 1)) + 1)) + 1)) + 1)) + 1))) = true := beq_iff_eq.mpr c19
                      have c19b1 : (((rd_T34 l0 x5_1).f5) != (wrap64 ((wrap64 ((wrap64 ((wrap64 ((wrap64 (x1_1 + 1)) + 1)) + 1)) + 1)) + 1))) = false := bne_eq_false_iff_eq.mpr c19
                      clear c19
                      by_cases c20 : (((rd_T34 l0 x5_1).f6) != ((Int.tmod (wrap64 ((wrap64 ((wrap64 ((wrap64 ((wrap64 ((wrap64 (x1_1 + 1)) + 1)) + 1)) + 1)) + 1)) + 1)) 3) == 0)) = true
                      · rw [if_pos c20] at H
                        have c20b0 : (((rd_T34 l0 x5_1).f6) != ((Int.tmod (wrap64 ((wrap64 ((wrap64 ((wrap64 ((wrap64 ((wrap64 (x1_1 + 1)) + 1)) + 1)) + 1)) + 1)) + 1)) 3) == 0)) = true := c20
                        (try (have c20b1 : decide (((rd_T34 l0 x5_1).f6) = ((Int.tmod (wrap64 ((wrap64 ((wrap64 ((wrap64 ((wrap64 ((wrap64 (x1_1 + 1)) + 1)) + 1)) + 1)) + 1)) + 1)) 3) == 0)) = false := by simpa using c20))
                        (try (have c20b2 : (((rd_T34 l0 x5_1).f6) == ((Int.tmod (wrap64 ((wrap64 ((wrap64 ((wrap64 ((wrap64 ((wrap64 (x1_1 + 1)) + 1)) + 1)) + 1)) + 1)) + 1)) 3) == 0)) = false := by simpa using c20))
                        (try (have c20b3 : ¬ (((rd_T34 l0 x5_1).f6) = ((Int.tmod (wrap64 ((wrap64 ((wrap64 ((wrap64 ((wrap64 ((wrap64 (x1_1 + 1)) + 1)) + 1)) + 1)) + 1)) + 1)) 3) == 0)) := by simpa using c20))
                        clear c20
                        obtain rfl := Option.some.inj H
                        have p219 : 0 ≤ (x5_1 : Int) := of_decide_eq_true Da
                        have q219 : x5_1 < (l0.length : Int) := of_decide_eq_true Da
                        obtain ⟨ad219, e219, hx219_0, hx219_1, hx219_2, hx219_3, hx219_4, hx219_5, hx219_6⟩ := at_T34 HR0.out x5_1 p219 q219
                        cases e219
                        replace hx219_0 := bz HB.out hx219_0
                        replace hx219_1 := bz HB.out hx219_1
                        replace hx219_2 := bz HB.out hx219_2
                        replace hx219_3 := bz HB.out hx219_3
                        replace hx219_4 := bz HB.out hx219_4
                        replace hx219_5 := bz HB.out hx219_5
                        replace hx219_6 := bz HB.out hx219_6
                        replace p219 := eq_true p219
                        replace q219 := eq_true q219
                        try go_wp2
                        have n0_ := Aside0.mk (below_drew1 HB.out)
                        clear HB
                        have HB := n0_
                        clear n0_
                        have p220 : 0 ≤ (x5_1 : Int) := of_decide_eq_true Da
                        have q220 : x5_1 < (l0.length : Int) := of_decide_eq_true Da
                        obtain ⟨ad220, e220, hx220_0, hx220_1, hx220_2, hx220_3, hx220_4, hx220_5, hx220_6⟩ := at_T34 HR0.out x5_1 p220 q220
                        have hw220_6 := hx220_6
                        have hw220_5 := hx220_5
                        have hw220_4 := hx220_4
                        have hw220_3 := hx220_3
                        have hw220_2 := hx220_2
                        have hw220_1 := hx220_1
                        have hw220_0 := hx220_0
                        obtain rfl : ad219 = ad220 := (by injection e220)
                        replace hx220_0 := bz HB.out hx220_0
                        replace hx220_1 := bz HB.out hx220_1
                        replace hx220_2 := bz HB.out hx220_2
                        replace hx220_3 := bz HB.out hx220_3
                        replace hx220_4 := bz HB.out hx220_4
                        replace hx220_5 := bz HB.out hx220_5
                        replace hx220_6 := bz HB.out hx220_6
                        replace p220 := eq_true p220
                        replace q220 := eq_true q220
                        refine start_ (n := 8) (S := fun w' => w'.cell? (ad219.add ((x5_1).toNat * 7)) = some (.int .i64 ((rd_T34 l0 x5_1).f0)) ∧ w'.cell? ⟨(ad219.add ((x5_1).toNat * 7)).block, (ad219.add ((x5_1).toNat * 7)).off + 1, none⟩ = some (.string ((rd_T34 l0 x5_1).f1)) ∧ w'.cell? ⟨(ad219.add ((x5_1).toNat * 7)).block, (ad219.add ((x5_1).toNat * 7)).off + 2, none⟩ = some (.string ((rd_T34 l0 x5_1).f2)) ∧ w'.cell? ⟨(ad219.add ((x5_1).toNat * 7)).block, (ad219.add ((x5_1).toNat * 7)).off + 3, none⟩ = some (.string ((rd_T34 l0 x5_1).f3)) ∧ w'.cell? ⟨(ad219.add ((x5_1).toNat * 7)).block, (ad219.add ((x5_1).toNat * 7)).off + 4, none⟩ = some (.bool ((rd_T34 l0 x5_1).f4)) ∧ w'.cell? ⟨(ad219.add ((x5_1).toNat * 7)).block, (ad219.add ((x5_1).toNat * 7)).off + 5, none⟩ = some (.int .i64 ((rd_T34 l0 x5_1).f5)) ∧ w'.cell? ⟨(ad219.add ((x5_1).toNat * 7)).block, (ad219.add ((x5_1).toNat * 7)).off + 6, none⟩ = some (.bool ((rd_T34 l0 x5_1).f6))) (ds := []) (bv 8 0) (by kernel_rfl) rfl rfl ⟨(bz HB.out hw220_0), (bz HB.out hw220_1), (bz HB.out hw220_2), (bz HB.out hw220_3), (bz HB.out hw220_4), (bz HB.out hw220_5), (bz HB.out hw220_6)⟩ (fun hHeld => ?_); refine with_tabW laws_heldRowS.tab7 laws_heldRowS.bits7 (fun HT_ HW_ => ?_)
                        generalize wr.drew = w21 at HB hx220_0 hx220_1 hx220_2 hx220_3 hx220_4 hx220_5 hx220_6 hHeld ⊢
                        refine pu 0 21 (bv 8 1) HT_.out (h := ?_)
                        refine pu 1 22 (bv 8 3) HT_.out (h := ?_)
                        refine pu 2 23 (bv 8 7) HT_.out (h := ?_)
                        refine pu 3 24 (bv 8 15) HT_.out (h := ?_)
                        refine pu 5 26 (bv 8 47) HT_.out (h := ?_)
                        refine tk 4 25 (bv 8 63) HT_.out HW_.out hHeld (h := ?_)
                        refine one_ (i := 6) (N := some 27) (bv 8 127) rfl rfl (one_of HT_.out (by kernel_rfl)) (by decide) (fun K hK => ?_)
                        refine goes_ Tryd.func103 (by kernel_rfl) rfl #[.int .i64 (wrap64 (x1_1 + 1))] (by rfl) rfl rfl Ag ?_
                        with_reducible refine (laws_markText.calls k1 (wrap64 (x1_1 + 1)) t221 _ A6.out).mono ?_
                        rintro e w22 ⟨rfl, hb⟩
                        refine ⟨_, rfl, ?_⟩
                        have n0_ := Aside0.mk (below_step By hb)
                        clear HB
                        have HB := n0_
                        clear n0_
                        (try clear hb)
                        (try clear hb2)
                        (try clear hk)
                        (try clear hi)
                        refine hK.out _ _ ⟨(bz HB.out hw220_0), (bz HB.out hw220_1), (bz HB.out hw220_2), (bz HB.out hw220_3), (bz HB.out hw220_4), (bz HB.out hw220_5), (bz HB.out hw220_6)⟩ (fun hHeld => ?_)
                        clear hK K
                        refine norm_ (a' := ?_) ?_ ?_
                        rotate_left
                        · show Act.put _ (some 27) _ = _
                          simp only [Act.put, List.setIfInBounds_toArray, List.set_cons_zero, List.set_cons_succ, i64_w, i32_w]
                          rfl
                        refine pu 7 28 (bv 8 255) HT_.out (h := ?_)
                        refine done_ (done_of HT_.out (by kernel_rfl)) ?_
                        try go_wp2
                        have n0_ := Aside0.mk (below_drew1 HB.out)
                        clear HB
                        have HB := n0_
                        clear n0_
                        have p222 : 0 ≤ (x5_1 : Int) := of_decide_eq_true Da
                        have q222 : x5_1 < (l0.length : Int) := of_decide_eq_true Da
                        obtain ⟨ad222, e222, hx222_0, hx222_1, hx222_2, hx222_3, hx222_4, hx222_5, hx222_6⟩ := at_T34 HR0.out x5_1 p222 q222
                        have hw222_6 := hx222_6
                        have hw222_5 := hx222_5
                        have hw222_4 := hx222_4
                        have hw222_3 := hx222_3
                        have hw222_2 := hx222_2
                        have hw222_1 := hx222_1
                        have hw222_0 := hx222_0
                        obtain rfl : ad219 = ad222 := (by injection e222)
                        replace hx222_0 := bz HB.out hx222_0
                        replace hx222_1 := bz HB.out hx222_1
                        replace hx222_2 := bz HB.out hx222_2
                        replace hx222_3 := bz HB.out hx222_3
                        replace hx222_4 := bz HB.out hx222_4
                        replace hx222_5 := bz HB.out hx222_5
                        replace hx222_6 := bz HB.out hx222_6
                        replace p222 := eq_true p222
                        replace q222 := eq_true q222
                        refine start_ (n := 8) (S := fun w' => w'.cell? (ad219.add ((x5_1).toNat * 7)) = some (.int .i64 ((rd_T34 l0 x5_1).f0)) ∧ w'.cell? ⟨(ad219.add ((x5_1).toNat * 7)).block, (ad219.add ((x5_1).toNat * 7)).off + 1, none⟩ = some (.string ((rd_T34 l0 x5_1).f1)) ∧ w'.cell? ⟨(ad219.add ((x5_1).toNat * 7)).block, (ad219.add ((x5_1).toNat * 7)).off + 2, none⟩ = some (.string ((rd_T34 l0 x5_1).f2)) ∧ w'.cell? ⟨(ad219.add ((x5_1).toNat * 7)).block, (ad219.add ((x5_1).toNat * 7)).off + 3, none⟩ = some (.string ((rd_T34 l0 x5_1).f3)) ∧ w'.cell? ⟨(ad219.add ((x5_1).toNat * 7)).block, (ad219.add ((x5_1).toNat * 7)).off + 4, none⟩ = some (.bool ((rd_T34 l0 x5_1).f4)) ∧ w'.cell? ⟨(ad219.add ((x5_1).toNat * 7)).block, (ad219.add ((x5_1).toNat * 7)).off + 5, none⟩ = some (.int .i64 ((rd_T34 l0 x5_1).f5)) ∧ w'.cell? ⟨(ad219.add ((x5_1).toNat * 7)).block, (ad219.add ((x5_1).toNat * 7)).off + 6, none⟩ = some (.bool ((rd_T34 l0 x5_1).f6))) (ds := []) (bv 8 0) (by kernel_rfl) rfl rfl ⟨(bz HB.out hw222_0), (bz HB.out hw222_1), (bz HB.out hw222_2), (bz HB.out hw222_3), (bz HB.out hw222_4), (bz HB.out hw222_5), (bz HB.out hw222_6)⟩ (fun hHeld => ?_); refine with_tabW laws_heldRowS.tab10 laws_heldRowS.bits10 (fun HT_ HW_ => ?_)
                        generalize w22.drew = w23 at HB hx222_0 hx222_1 hx222_2 hx222_3 hx222_4 hx222_5 hx222_6 hHeld ⊢
                        refine pu 0 31 (bv 8 1) HT_.out (h := ?_)
                        refine pu 1 32 (bv 8 3) HT_.out (h := ?_)
                        refine pu 2 33 (bv 8 7) HT_.out (h := ?_)
                        refine pu 3 34 (bv 8 15) HT_.out (h := ?_)
                        refine pu 5 36 (bv 8 47) HT_.out (h := ?_)
                        refine tk 4 35 (bv 8 63) HT_.out HW_.out hHeld (h := ?_)
                        refine one_ (i := 6) (N := some 37) (bv 8 127) rfl rfl (one_of HT_.out (by kernel_rfl)) (by decide) (fun K hK => ?_)
                        refine goes_ Tryd.func103 (by kernel_rfl) rfl #[.int .i64 (wrap64 ((wrap64 (x1_1 + 1)) + 1))] (by rfl) rfl rfl Ag ?_
                        with_reducible refine (laws_markText.calls k1 (wrap64 ((wrap64 (x1_1 + 1)) + 1)) t223 _ A8.out).mono ?_
                        rintro e w24 ⟨rfl, hb⟩
                        refine ⟨_, rfl, ?_⟩
                        have n0_ := Aside0.mk (below_step By hb)
                        clear HB
                        have HB := n0_
                        clear n0_
                        (try clear hb)
                        (try clear hb2)
                        (try clear hk)
                        (try clear hi)
                        refine hK.out _ _ ⟨(bz HB.out hw222_0), (bz HB.out hw222_1), (bz HB.out hw222_2), (bz HB.out hw222_3), (bz HB.out hw222_4), (bz HB.out hw222_5), (bz HB.out hw222_6)⟩ (fun hHeld => ?_)
                        clear hK K
                        refine norm_ (a' := ?_) ?_ ?_
                        rotate_left
                        · show Act.put _ (some 37) _ = _
                          simp only [Act.put, List.setIfInBounds_toArray, List.set_cons_zero, List.set_cons_succ, i64_w, i32_w]
                          rfl
                        refine pu 7 38 (bv 8 255) HT_.out (h := ?_)
                        refine done_ (done_of HT_.out (by kernel_rfl)) ?_
                        try go_wp2
                        have n0_ := Aside0.mk (below_drew1 HB.out)
                        clear HB
                        have HB := n0_
                        clear n0_
                        have p224 : 0 ≤ (x5_1 : Int) := of_decide_eq_true Da
                        have q224 : x5_1 < (l0.length : Int) := of_decide_eq_true Da
                        obtain ⟨ad224, e224, hx224_0, hx224_1, hx224_2, hx224_3, hx224_4, hx224_5, hx224_6⟩ := at_T34 HR0.out x5_1 p224 q224
                        have hw224_6 := hx224_6
                        have hw224_5 := hx224_5
                        have hw224_4 := hx224_4
                        have hw224_3 := hx224_3
                        have hw224_2 := hx224_2
                        have hw224_1 := hx224_1
                        have hw224_0 := hx224_0
                        obtain rfl : ad219 = ad224 := (by injection e224)
                        replace hx224_0 := bz HB.out hx224_0
                        replace hx224_1 := bz HB.out hx224_1
                        replace hx224_2 := bz HB.out hx224_2
                        replace hx224_3 := bz HB.out hx224_3
                        replace hx224_4 := bz HB.out hx224_4
                        replace hx224_5 := bz HB.out hx224_5
                        replace hx224_6 := bz HB.out hx224_6
                        replace p224 := eq_true p224
                        replace q224 := eq_true q224
                        refine start_ (n := 8) (S := fun w' => w'.cell? (ad219.add ((x5_1).toNat * 7)) = some (.int .i64 ((rd_T34 l0 x5_1).f0)) ∧ w'.cell? ⟨(ad219.add ((x5_1).toNat * 7)).block, (ad219.add ((x5_1).toNat * 7)).off + 1, none⟩ = some (.string ((rd_T34 l0 x5_1).f1)) ∧ w'.cell? ⟨(ad219.add ((x5_1).toNat * 7)).block, (ad219.add ((x5_1).toNat * 7)).off + 2, none⟩ = some (.string ((rd_T34 l0 x5_1).f2)) ∧ w'.cell? ⟨(ad219.add ((x5_1).toNat * 7)).block, (ad219.add ((x5_1).toNat * 7)).off + 3, none⟩ = some (.string ((rd_T34 l0 x5_1).f3)) ∧ w'.cell? ⟨(ad219.add ((x5_1).toNat * 7)).block, (ad219.add ((x5_1).toNat * 7)).off + 4, none⟩ = some (.bool ((rd_T34 l0 x5_1).f4)) ∧ w'.cell? ⟨(ad219.add ((x5_1).toNat * 7)).block, (ad219.add ((x5_1).toNat * 7)).off + 5, none⟩ = some (.int .i64 ((rd_T34 l0 x5_1).f5)) ∧ w'.cell? ⟨(ad219.add ((x5_1).toNat * 7)).block, (ad219.add ((x5_1).toNat * 7)).off + 6, none⟩ = some (.bool ((rd_T34 l0 x5_1).f6))) (ds := []) (bv 8 0) (by kernel_rfl) rfl rfl ⟨(bz HB.out hw224_0), (bz HB.out hw224_1), (bz HB.out hw224_2), (bz HB.out hw224_3), (bz HB.out hw224_4), (bz HB.out hw224_5), (bz HB.out hw224_6)⟩ (fun hHeld => ?_); refine with_tabW laws_heldRowS.tab13 laws_heldRowS.bits13 (fun HT_ HW_ => ?_)
                        generalize w24.drew = w25 at HB hx224_0 hx224_1 hx224_2 hx224_3 hx224_4 hx224_5 hx224_6 hHeld ⊢
                        refine pu 0 41 (bv 8 1) HT_.out (h := ?_)
                        refine pu 1 42 (bv 8 3) HT_.out (h := ?_)
                        refine pu 2 43 (bv 8 7) HT_.out (h := ?_)
                        refine pu 3 44 (bv 8 15) HT_.out (h := ?_)
                        refine pu 5 46 (bv 8 47) HT_.out (h := ?_)
                        refine tk 4 45 (bv 8 63) HT_.out HW_.out hHeld (h := ?_)
                        refine one_ (i := 6) (N := some 47) (bv 8 127) rfl rfl (one_of HT_.out (by kernel_rfl)) (by decide) (fun K hK => ?_)
                        refine goes_ Tryd.func103 (by kernel_rfl) rfl #[.int .i64 (wrap64 ((wrap64 ((wrap64 (x1_1 + 1)) + 1)) + 1))] (by rfl) rfl rfl Ag ?_
                        with_reducible refine (laws_markText.calls k1 (wrap64 ((wrap64 ((wrap64 (x1_1 + 1)) + 1)) + 1)) t225 _ A10.out).mono ?_
                        rintro e w26 ⟨rfl, hb⟩
                        refine ⟨_, rfl, ?_⟩
                        have n0_ := Aside0.mk (below_step By hb)
                        clear HB
                        have HB := n0_
                        clear n0_
                        (try clear hb)
                        (try clear hb2)
                        (try clear hk)
                        (try clear hi)
                        refine hK.out _ _ ⟨(bz HB.out hw224_0), (bz HB.out hw224_1), (bz HB.out hw224_2), (bz HB.out hw224_3), (bz HB.out hw224_4), (bz HB.out hw224_5), (bz HB.out hw224_6)⟩ (fun hHeld => ?_)
                        clear hK K
                        refine norm_ (a' := ?_) ?_ ?_
                        rotate_left
                        · show Act.put _ (some 47) _ = _
                          simp only [Act.put, List.setIfInBounds_toArray, List.set_cons_zero, List.set_cons_succ, i64_w, i32_w]
                          rfl
                        refine pu 7 48 (bv 8 255) HT_.out (h := ?_)
                        refine done_ (done_of HT_.out (by kernel_rfl)) ?_
                        have p226 : 0 ≤ (x5_1 : Int) := of_decide_eq_true Da
                        have q226 : x5_1 < (l0.length : Int) := of_decide_eq_true Da
                        obtain ⟨ad226, e226, hx226_0, hx226_1, hx226_2, hx226_3, hx226_4, hx226_5, hx226_6⟩ := at_T34 HR0.out x5_1 p226 q226
                        obtain rfl : ad219 = ad226 := (by injection e226)
                        replace hx226_0 := bz HB.out hx226_0
                        replace hx226_1 := bz HB.out hx226_1
                        replace hx226_2 := bz HB.out hx226_2
                        replace hx226_3 := bz HB.out hx226_3
                        replace hx226_4 := bz HB.out hx226_4
                        replace hx226_5 := bz HB.out hx226_5
                        replace hx226_6 := bz HB.out hx226_6
                        replace p226 := eq_true p226
                        replace q226 := eq_true q226
                        have p227 : 0 ≤ (x5_1 : Int) := of_decide_eq_true Da
                        have q227 : x5_1 < (l0.length : Int) := of_decide_eq_true Da
                        obtain ⟨ad227, e227, hx227_0, hx227_1, hx227_2, hx227_3, hx227_4, hx227_5, hx227_6⟩ := at_T34 HR0.out x5_1 p227 q227
                        obtain rfl : ad219 = ad227 := (by injection e227)
                        replace hx227_0 := bz HB.out hx227_0
                        replace hx227_1 := bz HB.out hx227_1
                        replace hx227_2 := bz HB.out hx227_2
                        replace hx227_3 := bz HB.out hx227_3
                        replace hx227_4 := bz HB.out hx227_4
                        replace hx227_5 := bz HB.out hx227_5
                        replace hx227_6 := bz HB.out hx227_6
                        replace p227 := eq_true p227
                        replace q227 := eq_true q227
                        have p228 : 0 ≤ (x5_1 : Int) := of_decide_eq_true Da
                        have q228 : x5_1 < (l0.length : Int) := of_decide_eq_true Da
                        obtain ⟨ad228, e228, hx228_0, hx228_1, hx228_2, hx228_3, hx228_4, hx228_5, hx228_6⟩ := at_T34 HR0.out x5_1 p228 q228
                        obtain rfl : ad219 = ad228 := (by injection e228)
                        replace hx228_0 := bz HB.out hx228_0
                        replace hx228_1 := bz HB.out hx228_1
                        replace hx228_2 := bz HB.out hx228_2
                        replace hx228_3 := bz HB.out hx228_3
                        replace hx228_4 := bz HB.out hx228_4
                        replace hx228_5 := bz HB.out hx228_5
                        replace hx228_6 := bz HB.out hx228_6
                        replace p228 := eq_true p228
                        replace q228 := eq_true q228
                        try go_wp2
                        go_ret
                        exact ⟨Rf, By⟩
                      · rw [if_neg c20] at H
                        have c20b0 : (((rd_T34 l0 x5_1).f6) != ((Int.tmod (wrap64 ((wrap64 ((wrap64 ((wrap64 ((wrap64 ((wrap64 (x1_1 + 1)) + 1)) + 1)) + 1)) + 1)) + 1)) 3) == 0)) = false := by simpa using c20
                        (try (have c20b1 : decide (((rd_T34 l0 x5_1).f6) = ((Int.tmod (wrap64 ((wrap64 ((wrap64 ((wrap64 ((wrap64 ((wrap64 (x1_1 + 1)) + 1)) + 1)) + 1)) + 1)) + 1)) 3) == 0)) = true := by simpa using c20))
                        (try (have c20b2 : (((rd_T34 l0 x5_1).f6) == ((Int.tmod (wrap64 ((wrap64 ((wrap64 ((wrap64 ((wrap64 ((wrap64 (x1_1 + 1)) + 1)) + 1)) + 1)) + 1)) + 1)) 3) == 0)) = true := by simpa using c20))
                        clear c20
                        have H' := Aside0.mk H
                        clear H
                        have p219 : 0 ≤ (x5_1 : Int) := of_decide_eq_true Da
                        have q219 : x5_1 < (l0.length : Int) := of_decide_eq_true Da
                        obtain ⟨ad219, e219, hx219_0, hx219_1, hx219_2, hx219_3, hx219_4, hx219_5, hx219_6⟩ := at_T34 HR0.out x5_1 p219 q219
                        cases e219
                        replace hx219_0 := bz HB.out hx219_0
                        replace hx219_1 := bz HB.out hx219_1
                        replace hx219_2 := bz HB.out hx219_2
                        replace hx219_3 := bz HB.out hx219_3
                        replace hx219_4 := bz HB.out hx219_4
                        replace hx219_5 := bz HB.out hx219_5
                        replace hx219_6 := bz HB.out hx219_6
                        replace p219 := eq_true p219
                        replace q219 := eq_true q219
                        try go_wp2
                        have n0_ := Aside0.mk (below_drew1 HB.out)
                        clear HB
                        have HB := n0_
                        clear n0_
                        have p220 : 0 ≤ (x5_1 : Int) := of_decide_eq_true Da
                        have q220 : x5_1 < (l0.length : Int) := of_decide_eq_true Da
                        obtain ⟨ad220, e220, hx220_0, hx220_1, hx220_2, hx220_3, hx220_4, hx220_5, hx220_6⟩ := at_T34 HR0.out x5_1 p220 q220
                        have hw220_6 := hx220_6
                        have hw220_5 := hx220_5
                        have hw220_4 := hx220_4
                        have hw220_3 := hx220_3
                        have hw220_2 := hx220_2
                        have hw220_1 := hx220_1
                        have hw220_0 := hx220_0
                        obtain rfl : ad219 = ad220 := (by injection e220)
                        replace hx220_0 := bz HB.out hx220_0
                        replace hx220_1 := bz HB.out hx220_1
                        replace hx220_2 := bz HB.out hx220_2
                        replace hx220_3 := bz HB.out hx220_3
                        replace hx220_4 := bz HB.out hx220_4
                        replace hx220_5 := bz HB.out hx220_5
                        replace hx220_6 := bz HB.out hx220_6
                        replace p220 := eq_true p220
                        replace q220 := eq_true q220
                        refine start_ (n := 8) (S := fun w' => w'.cell? (ad219.add ((x5_1).toNat * 7)) = some (.int .i64 ((rd_T34 l0 x5_1).f0)) ∧ w'.cell? ⟨(ad219.add ((x5_1).toNat * 7)).block, (ad219.add ((x5_1).toNat * 7)).off + 1, none⟩ = some (.string ((rd_T34 l0 x5_1).f1)) ∧ w'.cell? ⟨(ad219.add ((x5_1).toNat * 7)).block, (ad219.add ((x5_1).toNat * 7)).off + 2, none⟩ = some (.string ((rd_T34 l0 x5_1).f2)) ∧ w'.cell? ⟨(ad219.add ((x5_1).toNat * 7)).block, (ad219.add ((x5_1).toNat * 7)).off + 3, none⟩ = some (.string ((rd_T34 l0 x5_1).f3)) ∧ w'.cell? ⟨(ad219.add ((x5_1).toNat * 7)).block, (ad219.add ((x5_1).toNat * 7)).off + 4, none⟩ = some (.bool ((rd_T34 l0 x5_1).f4)) ∧ w'.cell? ⟨(ad219.add ((x5_1).toNat * 7)).block, (ad219.add ((x5_1).toNat * 7)).off + 5, none⟩ = some (.int .i64 ((rd_T34 l0 x5_1).f5)) ∧ w'.cell? ⟨(ad219.add ((x5_1).toNat * 7)).block, (ad219.add ((x5_1).toNat * 7)).off + 6, none⟩ = some (.bool ((rd_T34 l0 x5_1).f6))) (ds := []) (bv 8 0) (by kernel_rfl) rfl rfl ⟨(bz HB.out hw220_0), (bz HB.out hw220_1), (bz HB.out hw220_2), (bz HB.out hw220_3), (bz HB.out hw220_4), (bz HB.out hw220_5), (bz HB.out hw220_6)⟩ (fun hHeld => ?_); refine with_tabW laws_heldRowS.tab7 laws_heldRowS.bits7 (fun HT_ HW_ => ?_)
                        generalize wr.drew = w27 at HB hx220_0 hx220_1 hx220_2 hx220_3 hx220_4 hx220_5 hx220_6 hHeld ⊢
                        refine pu 0 21 (bv 8 1) HT_.out (h := ?_)
                        refine pu 1 22 (bv 8 3) HT_.out (h := ?_)
                        refine pu 2 23 (bv 8 7) HT_.out (h := ?_)
                        refine pu 3 24 (bv 8 15) HT_.out (h := ?_)
                        refine pu 5 26 (bv 8 47) HT_.out (h := ?_)
                        refine tk 4 25 (bv 8 63) HT_.out HW_.out hHeld (h := ?_)
                        refine one_ (i := 6) (N := some 27) (bv 8 127) rfl rfl (one_of HT_.out (by kernel_rfl)) (by decide) (fun K hK => ?_)
                        refine goes_ Tryd.func103 (by kernel_rfl) rfl #[.int .i64 (wrap64 (x1_1 + 1))] (by rfl) rfl rfl Ag ?_
                        with_reducible refine (laws_markText.calls k1 (wrap64 (x1_1 + 1)) t221 _ A6.out).mono ?_
                        rintro e w28 ⟨rfl, hb⟩
                        refine ⟨_, rfl, ?_⟩
                        have n0_ := Aside0.mk (below_step By hb)
                        clear HB
                        have HB := n0_
                        clear n0_
                        (try clear hb)
                        (try clear hb2)
                        (try clear hk)
                        (try clear hi)
                        refine hK.out _ _ ⟨(bz HB.out hw220_0), (bz HB.out hw220_1), (bz HB.out hw220_2), (bz HB.out hw220_3), (bz HB.out hw220_4), (bz HB.out hw220_5), (bz HB.out hw220_6)⟩ (fun hHeld => ?_)
                        clear hK K
                        refine norm_ (a' := ?_) ?_ ?_
                        rotate_left
                        · show Act.put _ (some 27) _ = _
                          simp only [Act.put, List.setIfInBounds_toArray, List.set_cons_zero, List.set_cons_succ, i64_w, i32_w]
                          rfl
                        refine pu 7 28 (bv 8 255) HT_.out (h := ?_)
                        refine done_ (done_of HT_.out (by kernel_rfl)) ?_
                        try go_wp2
                        have n0_ := Aside0.mk (below_drew1 HB.out)
                        clear HB
                        have HB := n0_
                        clear n0_
                        have p222 : 0 ≤ (x5_1 : Int) := of_decide_eq_true Da
                        have q222 : x5_1 < (l0.length : Int) := of_decide_eq_true Da
                        obtain ⟨ad222, e222, hx222_0, hx222_1, hx222_2, hx222_3, hx222_4, hx222_5, hx222_6⟩ := at_T34 HR0.out x5_1 p222 q222
                        have hw222_6 := hx222_6
                        have hw222_5 := hx222_5
                        have hw222_4 := hx222_4
                        have hw222_3 := hx222_3
                        have hw222_2 := hx222_2
                        have hw222_1 := hx222_1
                        have hw222_0 := hx222_0
                        obtain rfl : ad219 = ad222 := (by injection e222)
                        replace hx222_0 := bz HB.out hx222_0
                        replace hx222_1 := bz HB.out hx222_1
                        replace hx222_2 := bz HB.out hx222_2
                        replace hx222_3 := bz HB.out hx222_3
                        replace hx222_4 := bz HB.out hx222_4
                        replace hx222_5 := bz HB.out hx222_5
                        replace hx222_6 := bz HB.out hx222_6
                        replace p222 := eq_true p222
                        replace q222 := eq_true q222
                        refine start_ (n := 8) (S := fun w' => w'.cell? (ad219.add ((x5_1).toNat * 7)) = some (.int .i64 ((rd_T34 l0 x5_1).f0)) ∧ w'.cell? ⟨(ad219.add ((x5_1).toNat * 7)).block, (ad219.add ((x5_1).toNat * 7)).off + 1, none⟩ = some (.string ((rd_T34 l0 x5_1).f1)) ∧ w'.cell? ⟨(ad219.add ((x5_1).toNat * 7)).block, (ad219.add ((x5_1).toNat * 7)).off + 2, none⟩ = some (.string ((rd_T34 l0 x5_1).f2)) ∧ w'.cell? ⟨(ad219.add ((x5_1).toNat * 7)).block, (ad219.add ((x5_1).toNat * 7)).off + 3, none⟩ = some (.string ((rd_T34 l0 x5_1).f3)) ∧ w'.cell? ⟨(ad219.add ((x5_1).toNat * 7)).block, (ad219.add ((x5_1).toNat * 7)).off + 4, none⟩ = some (.bool ((rd_T34 l0 x5_1).f4)) ∧ w'.cell? ⟨(ad219.add ((x5_1).toNat * 7)).block, (ad219.add ((x5_1).toNat * 7)).off + 5, none⟩ = some (.int .i64 ((rd_T34 l0 x5_1).f5)) ∧ w'.cell? ⟨(ad219.add ((x5_1).toNat * 7)).block, (ad219.add ((x5_1).toNat * 7)).off + 6, none⟩ = some (.bool ((rd_T34 l0 x5_1).f6))) (ds := []) (bv 8 0) (by kernel_rfl) rfl rfl ⟨(bz HB.out hw222_0), (bz HB.out hw222_1), (bz HB.out hw222_2), (bz HB.out hw222_3), (bz HB.out hw222_4), (bz HB.out hw222_5), (bz HB.out hw222_6)⟩ (fun hHeld => ?_); refine with_tabW laws_heldRowS.tab10 laws_heldRowS.bits10 (fun HT_ HW_ => ?_)
                        generalize w28.drew = w29 at HB hx222_0 hx222_1 hx222_2 hx222_3 hx222_4 hx222_5 hx222_6 hHeld ⊢
                        refine pu 0 31 (bv 8 1) HT_.out (h := ?_)
                        refine pu 1 32 (bv 8 3) HT_.out (h := ?_)
                        refine pu 2 33 (bv 8 7) HT_.out (h := ?_)
                        refine pu 3 34 (bv 8 15) HT_.out (h := ?_)
                        refine pu 5 36 (bv 8 47) HT_.out (h := ?_)
                        refine tk 4 35 (bv 8 63) HT_.out HW_.out hHeld (h := ?_)
                        refine one_ (i := 6) (N := some 37) (bv 8 127) rfl rfl (one_of HT_.out (by kernel_rfl)) (by decide) (fun K hK => ?_)
                        refine goes_ Tryd.func103 (by kernel_rfl) rfl #[.int .i64 (wrap64 ((wrap64 (x1_1 + 1)) + 1))] (by rfl) rfl rfl Ag ?_
                        with_reducible refine (laws_markText.calls k1 (wrap64 ((wrap64 (x1_1 + 1)) + 1)) t223 _ A8.out).mono ?_
                        rintro e w30 ⟨rfl, hb⟩
                        refine ⟨_, rfl, ?_⟩
                        have n0_ := Aside0.mk (below_step By hb)
                        clear HB
                        have HB := n0_
                        clear n0_
                        (try clear hb)
                        (try clear hb2)
                        (try clear hk)
                        (try clear hi)
                        refine hK.out _ _ ⟨(bz HB.out hw222_0), (bz HB.out hw222_1), (bz HB.out hw222_2), (bz HB.out hw222_3), (bz HB.out hw222_4), (bz HB.out hw222_5), (bz HB.out hw222_6)⟩ (fun hHeld => ?_)
                        clear hK K
                        refine norm_ (a' := ?_) ?_ ?_
                        rotate_left
                        · show Act.put _ (some 37) _ = _
                          simp only [Act.put, List.setIfInBounds_toArray, List.set_cons_zero, List.set_cons_succ, i64_w, i32_w]
                          rfl
                        refine pu 7 38 (bv 8 255) HT_.out (h := ?_)
                        refine done_ (done_of HT_.out (by kernel_rfl)) ?_
                        try go_wp2
                        have n0_ := Aside0.mk (below_drew1 HB.out)
                        clear HB
                        have HB := n0_
                        clear n0_
                        have p224 : 0 ≤ (x5_1 : Int) := of_decide_eq_true Da
                        have q224 : x5_1 < (l0.length : Int) := of_decide_eq_true Da
                        obtain ⟨ad224, e224, hx224_0, hx224_1, hx224_2, hx224_3, hx224_4, hx224_5, hx224_6⟩ := at_T34 HR0.out x5_1 p224 q224
                        have hw224_6 := hx224_6
                        have hw224_5 := hx224_5
                        have hw224_4 := hx224_4
                        have hw224_3 := hx224_3
                        have hw224_2 := hx224_2
                        have hw224_1 := hx224_1
                        have hw224_0 := hx224_0
                        obtain rfl : ad219 = ad224 := (by injection e224)
                        replace hx224_0 := bz HB.out hx224_0
                        replace hx224_1 := bz HB.out hx224_1
                        replace hx224_2 := bz HB.out hx224_2
                        replace hx224_3 := bz HB.out hx224_3
                        replace hx224_4 := bz HB.out hx224_4
                        replace hx224_5 := bz HB.out hx224_5
                        replace hx224_6 := bz HB.out hx224_6
                        replace p224 := eq_true p224
                        replace q224 := eq_true q224
                        refine start_ (n := 8) (S := fun w' => w'.cell? (ad219.add ((x5_1).toNat * 7)) = some (.int .i64 ((rd_T34 l0 x5_1).f0)) ∧ w'.cell? ⟨(ad219.add ((x5_1).toNat * 7)).block, (ad219.add ((x5_1).toNat * 7)).off + 1, none⟩ = some (.string ((rd_T34 l0 x5_1).f1)) ∧ w'.cell? ⟨(ad219.add ((x5_1).toNat * 7)).block, (ad219.add ((x5_1).toNat * 7)).off + 2, none⟩ = some (.string ((rd_T34 l0 x5_1).f2)) ∧ w'.cell? ⟨(ad219.add ((x5_1).toNat * 7)).block, (ad219.add ((x5_1).toNat * 7)).off + 3, none⟩ = some (.string ((rd_T34 l0 x5_1).f3)) ∧ w'.cell? ⟨(ad219.add ((x5_1).toNat * 7)).block, (ad219.add ((x5_1).toNat * 7)).off + 4, none⟩ = some (.bool ((rd_T34 l0 x5_1).f4)) ∧ w'.cell? ⟨(ad219.add ((x5_1).toNat * 7)).block, (ad219.add ((x5_1).toNat * 7)).off + 5, none⟩ = some (.int .i64 ((rd_T34 l0 x5_1).f5)) ∧ w'.cell? ⟨(ad219.add ((x5_1).toNat * 7)).block, (ad219.add ((x5_1).toNat * 7)).off + 6, none⟩ = some (.bool ((rd_T34 l0 x5_1).f6))) (ds := []) (bv 8 0) (by kernel_rfl) rfl rfl ⟨(bz HB.out hw224_0), (bz HB.out hw224_1), (bz HB.out hw224_2), (bz HB.out hw224_3), (bz HB.out hw224_4), (bz HB.out hw224_5), (bz HB.out hw224_6)⟩ (fun hHeld => ?_); refine with_tabW laws_heldRowS.tab13 laws_heldRowS.bits13 (fun HT_ HW_ => ?_)
                        generalize w30.drew = w31 at HB hx224_0 hx224_1 hx224_2 hx224_3 hx224_4 hx224_5 hx224_6 hHeld ⊢
                        refine pu 0 41 (bv 8 1) HT_.out (h := ?_)
                        refine pu 1 42 (bv 8 3) HT_.out (h := ?_)
                        refine pu 2 43 (bv 8 7) HT_.out (h := ?_)
                        refine pu 3 44 (bv 8 15) HT_.out (h := ?_)
                        refine pu 5 46 (bv 8 47) HT_.out (h := ?_)
                        refine tk 4 45 (bv 8 63) HT_.out HW_.out hHeld (h := ?_)
                        refine one_ (i := 6) (N := some 47) (bv 8 127) rfl rfl (one_of HT_.out (by kernel_rfl)) (by decide) (fun K hK => ?_)
                        refine goes_ Tryd.func103 (by kernel_rfl) rfl #[.int .i64 (wrap64 ((wrap64 ((wrap64 (x1_1 + 1)) + 1)) + 1))] (by rfl) rfl rfl Ag ?_
                        with_reducible refine (laws_markText.calls k1 (wrap64 ((wrap64 ((wrap64 (x1_1 + 1)) + 1)) + 1)) t225 _ A10.out).mono ?_
                        rintro e w32 ⟨rfl, hb⟩
                        refine ⟨_, rfl, ?_⟩
                        have n0_ := Aside0.mk (below_step By hb)
                        clear HB
                        have HB := n0_
                        clear n0_
                        (try clear hb)
                        (try clear hb2)
                        (try clear hk)
                        (try clear hi)
                        refine hK.out _ _ ⟨(bz HB.out hw224_0), (bz HB.out hw224_1), (bz HB.out hw224_2), (bz HB.out hw224_3), (bz HB.out hw224_4), (bz HB.out hw224_5), (bz HB.out hw224_6)⟩ (fun hHeld => ?_)
                        clear hK K
                        refine norm_ (a' := ?_) ?_ ?_
                        rotate_left
                        · show Act.put _ (some 47) _ = _
                          simp only [Act.put, List.setIfInBounds_toArray, List.set_cons_zero, List.set_cons_succ, i64_w, i32_w]
                          rfl
                        refine pu 7 48 (bv 8 255) HT_.out (h := ?_)
                        refine done_ (done_of HT_.out (by kernel_rfl)) ?_
                        have p226 : 0 ≤ (x5_1 : Int) := of_decide_eq_true Da
                        have q226 : x5_1 < (l0.length : Int) := of_decide_eq_true Da
                        obtain ⟨ad226, e226, hx226_0, hx226_1, hx226_2, hx226_3, hx226_4, hx226_5, hx226_6⟩ := at_T34 HR0.out x5_1 p226 q226
                        obtain rfl : ad219 = ad226 := (by injection e226)
                        replace hx226_0 := bz HB.out hx226_0
                        replace hx226_1 := bz HB.out hx226_1
                        replace hx226_2 := bz HB.out hx226_2
                        replace hx226_3 := bz HB.out hx226_3
                        replace hx226_4 := bz HB.out hx226_4
                        replace hx226_5 := bz HB.out hx226_5
                        replace hx226_6 := bz HB.out hx226_6
                        replace p226 := eq_true p226
                        replace q226 := eq_true q226
                        have p227 : 0 ≤ (x5_1 : Int) := of_decide_eq_true Da
                        have q227 : x5_1 < (l0.length : Int) := of_decide_eq_true Da
                        obtain ⟨ad227, e227, hx227_0, hx227_1, hx227_2, hx227_3, hx227_4, hx227_5, hx227_6⟩ := at_T34 HR0.out x5_1 p227 q227
                        obtain rfl : ad219 = ad227 := (by injection e227)
                        replace hx227_0 := bz HB.out hx227_0
                        replace hx227_1 := bz HB.out hx227_1
                        replace hx227_2 := bz HB.out hx227_2
                        replace hx227_3 := bz HB.out hx227_3
                        replace hx227_4 := bz HB.out hx227_4
                        replace hx227_5 := bz HB.out hx227_5
                        replace hx227_6 := bz HB.out hx227_6
                        replace p227 := eq_true p227
                        replace q227 := eq_true q227
                        have p228 : 0 ≤ (x5_1 : Int) := of_decide_eq_true Da
                        have q228 : x5_1 < (l0.length : Int) := of_decide_eq_true Da
                        obtain ⟨ad228, e228, hx228_0, hx228_1, hx228_2, hx228_3, hx228_4, hx228_5, hx228_6⟩ := at_T34 HR0.out x5_1 p228 q228
                        obtain rfl : ad219 = ad228 := (by injection e228)
                        replace hx228_0 := bz HB.out hx228_0
                        replace hx228_1 := bz HB.out hx228_1
                        replace hx228_2 := bz HB.out hx228_2
                        replace hx228_3 := bz HB.out hx228_3
                        replace hx228_4 := bz HB.out hx228_4
                        replace hx228_5 := bz HB.out hx228_5
                        replace hx228_6 := bz HB.out hx228_6
                        replace p228 := eq_true p228
                        replace q228 := eq_true q228
                        try go_wp2
                        go_roundg k1
                        case measure => have := HK1.out; omega
                        case rel => exact ⟨(wrap64 ((wrap64 ((wrap64 ((wrap64 ((wrap64 ((wrap64 ((wrap64 (x1_1 + 1)) + 1)) + 1)) + 1)) + 1)) + 1)) + 1)), (wrap64 (x5_1 + 1)), (by first | rfl | (simp; done) | (simp [*]; done)), (by first | rfl | (simp; done) | (simp [*]; done)), H', ⟨by have := HK1.out; omega⟩, ⟨By⟩⟩
                    · rw [if_neg c19] at H
                      have c19b0 : (((rd_T34 l0 x5_1).f5) == (wrap64 ((wrap64 ((wrap64 ((wrap64 ((wrap64 (x1_1 + 1)) + 1)) + 1)) + 1)) + 1))) = false := beq_eq_false_iff_ne.mpr c19
                      have c19b1 : (((rd_T34 l0 x5_1).f5) != (wrap64 ((wrap64 ((wrap64 ((wrap64 ((wrap64 (x1_1 + 1)) + 1)) + 1)) + 1)) + 1))) = true := bne_iff_ne.mpr c19
                      obtain rfl := Option.some.inj H
                      have p219 : 0 ≤ (x5_1 : Int) := of_decide_eq_true Da
                      have q219 : x5_1 < (l0.length : Int) := of_decide_eq_true Da
                      obtain ⟨ad219, e219, hx219_0, hx219_1, hx219_2, hx219_3, hx219_4, hx219_5, hx219_6⟩ := at_T34 HR0.out x5_1 p219 q219
                      cases e219
                      replace hx219_0 := bz HB.out hx219_0
                      replace hx219_1 := bz HB.out hx219_1
                      replace hx219_2 := bz HB.out hx219_2
                      replace hx219_3 := bz HB.out hx219_3
                      replace hx219_4 := bz HB.out hx219_4
                      replace hx219_5 := bz HB.out hx219_5
                      replace hx219_6 := bz HB.out hx219_6
                      replace p219 := eq_true p219
                      replace q219 := eq_true q219
                      try go_wp2
                      have n0_ := Aside0.mk (below_drew1 HB.out)
                      clear HB
                      have HB := n0_
                      clear n0_
                      have p220 : 0 ≤ (x5_1 : Int) := of_decide_eq_true Da
                      have q220 : x5_1 < (l0.length : Int) := of_decide_eq_true Da
                      obtain ⟨ad220, e220, hx220_0, hx220_1, hx220_2, hx220_3, hx220_4, hx220_5, hx220_6⟩ := at_T34 HR0.out x5_1 p220 q220
                      have hw220_6 := hx220_6
                      have hw220_5 := hx220_5
                      have hw220_4 := hx220_4
                      have hw220_3 := hx220_3
                      have hw220_2 := hx220_2
                      have hw220_1 := hx220_1
                      have hw220_0 := hx220_0
                      obtain rfl : ad219 = ad220 := (by injection e220)
                      replace hx220_0 := bz HB.out hx220_0
                      replace hx220_1 := bz HB.out hx220_1
                      replace hx220_2 := bz HB.out hx220_2
                      replace hx220_3 := bz HB.out hx220_3
                      replace hx220_4 := bz HB.out hx220_4
                      replace hx220_5 := bz HB.out hx220_5
                      replace hx220_6 := bz HB.out hx220_6
                      replace p220 := eq_true p220
                      replace q220 := eq_true q220
                      refine start_ (n := 8) (S := fun w' => w'.cell? (ad219.add ((x5_1).toNat * 7)) = some (.int .i64 ((rd_T34 l0 x5_1).f0)) ∧ w'.cell? ⟨(ad219.add ((x5_1).toNat * 7)).block, (ad219.add ((x5_1).toNat * 7)).off + 1, none⟩ = some (.string ((rd_T34 l0 x5_1).f1)) ∧ w'.cell? ⟨(ad219.add ((x5_1).toNat * 7)).block, (ad219.add ((x5_1).toNat * 7)).off + 2, none⟩ = some (.string ((rd_T34 l0 x5_1).f2)) ∧ w'.cell? ⟨(ad219.add ((x5_1).toNat * 7)).block, (ad219.add ((x5_1).toNat * 7)).off + 3, none⟩ = some (.string ((rd_T34 l0 x5_1).f3)) ∧ w'.cell? ⟨(ad219.add ((x5_1).toNat * 7)).block, (ad219.add ((x5_1).toNat * 7)).off + 4, none⟩ = some (.bool ((rd_T34 l0 x5_1).f4)) ∧ w'.cell? ⟨(ad219.add ((x5_1).toNat * 7)).block, (ad219.add ((x5_1).toNat * 7)).off + 5, none⟩ = some (.int .i64 ((rd_T34 l0 x5_1).f5)) ∧ w'.cell? ⟨(ad219.add ((x5_1).toNat * 7)).block, (ad219.add ((x5_1).toNat * 7)).off + 6, none⟩ = some (.bool ((rd_T34 l0 x5_1).f6))) (ds := []) (bv 8 0) (by kernel_rfl) rfl rfl ⟨(bz HB.out hw220_0), (bz HB.out hw220_1), (bz HB.out hw220_2), (bz HB.out hw220_3), (bz HB.out hw220_4), (bz HB.out hw220_5), (bz HB.out hw220_6)⟩ (fun hHeld => ?_); refine with_tabW laws_heldRowS.tab7 laws_heldRowS.bits7 (fun HT_ HW_ => ?_)
                      generalize wr.drew = w33 at HB hx220_0 hx220_1 hx220_2 hx220_3 hx220_4 hx220_5 hx220_6 hHeld ⊢
                      refine pu 0 21 (bv 8 1) HT_.out (h := ?_)
                      refine pu 1 22 (bv 8 3) HT_.out (h := ?_)
                      refine pu 2 23 (bv 8 7) HT_.out (h := ?_)
                      refine pu 3 24 (bv 8 15) HT_.out (h := ?_)
                      refine pu 5 26 (bv 8 47) HT_.out (h := ?_)
                      refine tk 4 25 (bv 8 63) HT_.out HW_.out hHeld (h := ?_)
                      refine one_ (i := 6) (N := some 27) (bv 8 127) rfl rfl (one_of HT_.out (by kernel_rfl)) (by decide) (fun K hK => ?_)
                      refine goes_ Tryd.func103 (by kernel_rfl) rfl #[.int .i64 (wrap64 (x1_1 + 1))] (by rfl) rfl rfl Ag ?_
                      with_reducible refine (laws_markText.calls k1 (wrap64 (x1_1 + 1)) t221 _ A6.out).mono ?_
                      rintro e w34 ⟨rfl, hb⟩
                      refine ⟨_, rfl, ?_⟩
                      have n0_ := Aside0.mk (below_step By hb)
                      clear HB
                      have HB := n0_
                      clear n0_
                      (try clear hb)
                      (try clear hb2)
                      (try clear hk)
                      (try clear hi)
                      refine hK.out _ _ ⟨(bz HB.out hw220_0), (bz HB.out hw220_1), (bz HB.out hw220_2), (bz HB.out hw220_3), (bz HB.out hw220_4), (bz HB.out hw220_5), (bz HB.out hw220_6)⟩ (fun hHeld => ?_)
                      clear hK K
                      refine norm_ (a' := ?_) ?_ ?_
                      rotate_left
                      · show Act.put _ (some 27) _ = _
                        simp only [Act.put, List.setIfInBounds_toArray, List.set_cons_zero, List.set_cons_succ, i64_w, i32_w]
                        rfl
                      refine pu 7 28 (bv 8 255) HT_.out (h := ?_)
                      refine done_ (done_of HT_.out (by kernel_rfl)) ?_
                      try go_wp2
                      have n0_ := Aside0.mk (below_drew1 HB.out)
                      clear HB
                      have HB := n0_
                      clear n0_
                      have p222 : 0 ≤ (x5_1 : Int) := of_decide_eq_true Da
                      have q222 : x5_1 < (l0.length : Int) := of_decide_eq_true Da
                      obtain ⟨ad222, e222, hx222_0, hx222_1, hx222_2, hx222_3, hx222_4, hx222_5, hx222_6⟩ := at_T34 HR0.out x5_1 p222 q222
                      have hw222_6 := hx222_6
                      have hw222_5 := hx222_5
                      have hw222_4 := hx222_4
                      have hw222_3 := hx222_3
                      have hw222_2 := hx222_2
                      have hw222_1 := hx222_1
                      have hw222_0 := hx222_0
                      obtain rfl : ad219 = ad222 := (by injection e222)
                      replace hx222_0 := bz HB.out hx222_0
                      replace hx222_1 := bz HB.out hx222_1
                      replace hx222_2 := bz HB.out hx222_2
                      replace hx222_3 := bz HB.out hx222_3
                      replace hx222_4 := bz HB.out hx222_4
                      replace hx222_5 := bz HB.out hx222_5
                      replace hx222_6 := bz HB.out hx222_6
                      replace p222 := eq_true p222
                      replace q222 := eq_true q222
                      refine start_ (n := 8) (S := fun w' => w'.cell? (ad219.add ((x5_1).toNat * 7)) = some (.int .i64 ((rd_T34 l0 x5_1).f0)) ∧ w'.cell? ⟨(ad219.add ((x5_1).toNat * 7)).block, (ad219.add ((x5_1).toNat * 7)).off + 1, none⟩ = some (.string ((rd_T34 l0 x5_1).f1)) ∧ w'.cell? ⟨(ad219.add ((x5_1).toNat * 7)).block, (ad219.add ((x5_1).toNat * 7)).off + 2, none⟩ = some (.string ((rd_T34 l0 x5_1).f2)) ∧ w'.cell? ⟨(ad219.add ((x5_1).toNat * 7)).block, (ad219.add ((x5_1).toNat * 7)).off + 3, none⟩ = some (.string ((rd_T34 l0 x5_1).f3)) ∧ w'.cell? ⟨(ad219.add ((x5_1).toNat * 7)).block, (ad219.add ((x5_1).toNat * 7)).off + 4, none⟩ = some (.bool ((rd_T34 l0 x5_1).f4)) ∧ w'.cell? ⟨(ad219.add ((x5_1).toNat * 7)).block, (ad219.add ((x5_1).toNat * 7)).off + 5, none⟩ = some (.int .i64 ((rd_T34 l0 x5_1).f5)) ∧ w'.cell? ⟨(ad219.add ((x5_1).toNat * 7)).block, (ad219.add ((x5_1).toNat * 7)).off + 6, none⟩ = some (.bool ((rd_T34 l0 x5_1).f6))) (ds := []) (bv 8 0) (by kernel_rfl) rfl rfl ⟨(bz HB.out hw222_0), (bz HB.out hw222_1), (bz HB.out hw222_2), (bz HB.out hw222_3), (bz HB.out hw222_4), (bz HB.out hw222_5), (bz HB.out hw222_6)⟩ (fun hHeld => ?_); refine with_tabW laws_heldRowS.tab10 laws_heldRowS.bits10 (fun HT_ HW_ => ?_)
                      generalize w34.drew = w35 at HB hx222_0 hx222_1 hx222_2 hx222_3 hx222_4 hx222_5 hx222_6 hHeld ⊢
                      refine pu 0 31 (bv 8 1) HT_.out (h := ?_)
                      refine pu 1 32 (bv 8 3) HT_.out (h := ?_)
                      refine pu 2 33 (bv 8 7) HT_.out (h := ?_)
                      refine pu 3 34 (bv 8 15) HT_.out (h := ?_)
                      refine pu 5 36 (bv 8 47) HT_.out (h := ?_)
                      refine tk 4 35 (bv 8 63) HT_.out HW_.out hHeld (h := ?_)
                      refine one_ (i := 6) (N := some 37) (bv 8 127) rfl rfl (one_of HT_.out (by kernel_rfl)) (by decide) (fun K hK => ?_)
                      refine goes_ Tryd.func103 (by kernel_rfl) rfl #[.int .i64 (wrap64 ((wrap64 (x1_1 + 1)) + 1))] (by rfl) rfl rfl Ag ?_
                      with_reducible refine (laws_markText.calls k1 (wrap64 ((wrap64 (x1_1 + 1)) + 1)) t223 _ A8.out).mono ?_
                      rintro e w36 ⟨rfl, hb⟩
                      refine ⟨_, rfl, ?_⟩
                      have n0_ := Aside0.mk (below_step By hb)
                      clear HB
                      have HB := n0_
                      clear n0_
                      (try clear hb)
                      (try clear hb2)
                      (try clear hk)
                      (try clear hi)
                      refine hK.out _ _ ⟨(bz HB.out hw222_0), (bz HB.out hw222_1), (bz HB.out hw222_2), (bz HB.out hw222_3), (bz HB.out hw222_4), (bz HB.out hw222_5), (bz HB.out hw222_6)⟩ (fun hHeld => ?_)
                      clear hK K
                      refine norm_ (a' := ?_) ?_ ?_
                      rotate_left
                      · show Act.put _ (some 37) _ = _
                        simp only [Act.put, List.setIfInBounds_toArray, List.set_cons_zero, List.set_cons_succ, i64_w, i32_w]
                        rfl
                      refine pu 7 38 (bv 8 255) HT_.out (h := ?_)
                      refine done_ (done_of HT_.out (by kernel_rfl)) ?_
                      try go_wp2
                      have n0_ := Aside0.mk (below_drew1 HB.out)
                      clear HB
                      have HB := n0_
                      clear n0_
                      have p224 : 0 ≤ (x5_1 : Int) := of_decide_eq_true Da
                      have q224 : x5_1 < (l0.length : Int) := of_decide_eq_true Da
                      obtain ⟨ad224, e224, hx224_0, hx224_1, hx224_2, hx224_3, hx224_4, hx224_5, hx224_6⟩ := at_T34 HR0.out x5_1 p224 q224
                      have hw224_6 := hx224_6
                      have hw224_5 := hx224_5
                      have hw224_4 := hx224_4
                      have hw224_3 := hx224_3
                      have hw224_2 := hx224_2
                      have hw224_1 := hx224_1
                      have hw224_0 := hx224_0
                      obtain rfl : ad219 = ad224 := (by injection e224)
                      replace hx224_0 := bz HB.out hx224_0
                      replace hx224_1 := bz HB.out hx224_1
                      replace hx224_2 := bz HB.out hx224_2
                      replace hx224_3 := bz HB.out hx224_3
                      replace hx224_4 := bz HB.out hx224_4
                      replace hx224_5 := bz HB.out hx224_5
                      replace hx224_6 := bz HB.out hx224_6
                      replace p224 := eq_true p224
                      replace q224 := eq_true q224
                      refine start_ (n := 8) (S := fun w' => w'.cell? (ad219.add ((x5_1).toNat * 7)) = some (.int .i64 ((rd_T34 l0 x5_1).f0)) ∧ w'.cell? ⟨(ad219.add ((x5_1).toNat * 7)).block, (ad219.add ((x5_1).toNat * 7)).off + 1, none⟩ = some (.string ((rd_T34 l0 x5_1).f1)) ∧ w'.cell? ⟨(ad219.add ((x5_1).toNat * 7)).block, (ad219.add ((x5_1).toNat * 7)).off + 2, none⟩ = some (.string ((rd_T34 l0 x5_1).f2)) ∧ w'.cell? ⟨(ad219.add ((x5_1).toNat * 7)).block, (ad219.add ((x5_1).toNat * 7)).off + 3, none⟩ = some (.string ((rd_T34 l0 x5_1).f3)) ∧ w'.cell? ⟨(ad219.add ((x5_1).toNat * 7)).block, (ad219.add ((x5_1).toNat * 7)).off + 4, none⟩ = some (.bool ((rd_T34 l0 x5_1).f4)) ∧ w'.cell? ⟨(ad219.add ((x5_1).toNat * 7)).block, (ad219.add ((x5_1).toNat * 7)).off + 5, none⟩ = some (.int .i64 ((rd_T34 l0 x5_1).f5)) ∧ w'.cell? ⟨(ad219.add ((x5_1).toNat * 7)).block, (ad219.add ((x5_1).toNat * 7)).off + 6, none⟩ = some (.bool ((rd_T34 l0 x5_1).f6))) (ds := []) (bv 8 0) (by kernel_rfl) rfl rfl ⟨(bz HB.out hw224_0), (bz HB.out hw224_1), (bz HB.out hw224_2), (bz HB.out hw224_3), (bz HB.out hw224_4), (bz HB.out hw224_5), (bz HB.out hw224_6)⟩ (fun hHeld => ?_); refine with_tabW laws_heldRowS.tab13 laws_heldRowS.bits13 (fun HT_ HW_ => ?_)
                      generalize w36.drew = w37 at HB hx224_0 hx224_1 hx224_2 hx224_3 hx224_4 hx224_5 hx224_6 hHeld ⊢
                      refine pu 0 41 (bv 8 1) HT_.out (h := ?_)
                      refine pu 1 42 (bv 8 3) HT_.out (h := ?_)
                      refine pu 2 43 (bv 8 7) HT_.out (h := ?_)
                      refine pu 3 44 (bv 8 15) HT_.out (h := ?_)
                      refine pu 5 46 (bv 8 47) HT_.out (h := ?_)
                      refine tk 4 45 (bv 8 63) HT_.out HW_.out hHeld (h := ?_)
                      refine one_ (i := 6) (N := some 47) (bv 8 127) rfl rfl (one_of HT_.out (by kernel_rfl)) (by decide) (fun K hK => ?_)
                      refine goes_ Tryd.func103 (by kernel_rfl) rfl #[.int .i64 (wrap64 ((wrap64 ((wrap64 (x1_1 + 1)) + 1)) + 1))] (by rfl) rfl rfl Ag ?_
                      with_reducible refine (laws_markText.calls k1 (wrap64 ((wrap64 ((wrap64 (x1_1 + 1)) + 1)) + 1)) t225 _ A10.out).mono ?_
                      rintro e w38 ⟨rfl, hb⟩
                      refine ⟨_, rfl, ?_⟩
                      have n0_ := Aside0.mk (below_step By hb)
                      clear HB
                      have HB := n0_
                      clear n0_
                      (try clear hb)
                      (try clear hb2)
                      (try clear hk)
                      (try clear hi)
                      refine hK.out _ _ ⟨(bz HB.out hw224_0), (bz HB.out hw224_1), (bz HB.out hw224_2), (bz HB.out hw224_3), (bz HB.out hw224_4), (bz HB.out hw224_5), (bz HB.out hw224_6)⟩ (fun hHeld => ?_)
                      clear hK K
                      refine norm_ (a' := ?_) ?_ ?_
                      rotate_left
                      · show Act.put _ (some 47) _ = _
                        simp only [Act.put, List.setIfInBounds_toArray, List.set_cons_zero, List.set_cons_succ, i64_w, i32_w]
                        rfl
                      refine pu 7 48 (bv 8 255) HT_.out (h := ?_)
                      refine done_ (done_of HT_.out (by kernel_rfl)) ?_
                      have p226 : 0 ≤ (x5_1 : Int) := of_decide_eq_true Da
                      have q226 : x5_1 < (l0.length : Int) := of_decide_eq_true Da
                      obtain ⟨ad226, e226, hx226_0, hx226_1, hx226_2, hx226_3, hx226_4, hx226_5, hx226_6⟩ := at_T34 HR0.out x5_1 p226 q226
                      obtain rfl : ad219 = ad226 := (by injection e226)
                      replace hx226_0 := bz HB.out hx226_0
                      replace hx226_1 := bz HB.out hx226_1
                      replace hx226_2 := bz HB.out hx226_2
                      replace hx226_3 := bz HB.out hx226_3
                      replace hx226_4 := bz HB.out hx226_4
                      replace hx226_5 := bz HB.out hx226_5
                      replace hx226_6 := bz HB.out hx226_6
                      replace p226 := eq_true p226
                      replace q226 := eq_true q226
                      have p227 : 0 ≤ (x5_1 : Int) := of_decide_eq_true Da
                      have q227 : x5_1 < (l0.length : Int) := of_decide_eq_true Da
                      obtain ⟨ad227, e227, hx227_0, hx227_1, hx227_2, hx227_3, hx227_4, hx227_5, hx227_6⟩ := at_T34 HR0.out x5_1 p227 q227
                      obtain rfl : ad219 = ad227 := (by injection e227)
                      replace hx227_0 := bz HB.out hx227_0
                      replace hx227_1 := bz HB.out hx227_1
                      replace hx227_2 := bz HB.out hx227_2
                      replace hx227_3 := bz HB.out hx227_3
                      replace hx227_4 := bz HB.out hx227_4
                      replace hx227_5 := bz HB.out hx227_5
                      replace hx227_6 := bz HB.out hx227_6
                      replace p227 := eq_true p227
                      replace q227 := eq_true q227
                      try go_wp2
                      go_ret
                      exact ⟨Rf, By⟩
                · rw [if_neg c11] at H
                  have c11b0 : (((rd_T34 l0 x5_1).f3).toList == t225.toList) = false := beq_eq_false_iff_ne.mpr c11
                  have c11b1 : (((rd_T34 l0 x5_1).f3).toList != t225.toList) = true := bne_iff_ne.mpr c11
                  obtain rfl := Option.some.inj H
                  have p219 : 0 ≤ (x5_1 : Int) := of_decide_eq_true Da
                  have q219 : x5_1 < (l0.length : Int) := of_decide_eq_true Da
                  obtain ⟨ad219, e219, hx219_0, hx219_1, hx219_2, hx219_3, hx219_4, hx219_5, hx219_6⟩ := at_T34 HR0.out x5_1 p219 q219
                  cases e219
                  replace hx219_0 := bz HB.out hx219_0
                  replace hx219_1 := bz HB.out hx219_1
                  replace hx219_2 := bz HB.out hx219_2
                  replace hx219_3 := bz HB.out hx219_3
                  replace hx219_4 := bz HB.out hx219_4
                  replace hx219_5 := bz HB.out hx219_5
                  replace hx219_6 := bz HB.out hx219_6
                  replace p219 := eq_true p219
                  replace q219 := eq_true q219
                  try go_wp2
                  have n0_ := Aside0.mk (below_drew1 HB.out)
                  clear HB
                  have HB := n0_
                  clear n0_
                  have p220 : 0 ≤ (x5_1 : Int) := of_decide_eq_true Da
                  have q220 : x5_1 < (l0.length : Int) := of_decide_eq_true Da
                  obtain ⟨ad220, e220, hx220_0, hx220_1, hx220_2, hx220_3, hx220_4, hx220_5, hx220_6⟩ := at_T34 HR0.out x5_1 p220 q220
                  have hw220_6 := hx220_6
                  have hw220_5 := hx220_5
                  have hw220_4 := hx220_4
                  have hw220_3 := hx220_3
                  have hw220_2 := hx220_2
                  have hw220_1 := hx220_1
                  have hw220_0 := hx220_0
                  obtain rfl : ad219 = ad220 := (by injection e220)
                  replace hx220_0 := bz HB.out hx220_0
                  replace hx220_1 := bz HB.out hx220_1
                  replace hx220_2 := bz HB.out hx220_2
                  replace hx220_3 := bz HB.out hx220_3
                  replace hx220_4 := bz HB.out hx220_4
                  replace hx220_5 := bz HB.out hx220_5
                  replace hx220_6 := bz HB.out hx220_6
                  replace p220 := eq_true p220
                  replace q220 := eq_true q220
                  refine start_ (n := 8) (S := fun w' => w'.cell? (ad219.add ((x5_1).toNat * 7)) = some (.int .i64 ((rd_T34 l0 x5_1).f0)) ∧ w'.cell? ⟨(ad219.add ((x5_1).toNat * 7)).block, (ad219.add ((x5_1).toNat * 7)).off + 1, none⟩ = some (.string ((rd_T34 l0 x5_1).f1)) ∧ w'.cell? ⟨(ad219.add ((x5_1).toNat * 7)).block, (ad219.add ((x5_1).toNat * 7)).off + 2, none⟩ = some (.string ((rd_T34 l0 x5_1).f2)) ∧ w'.cell? ⟨(ad219.add ((x5_1).toNat * 7)).block, (ad219.add ((x5_1).toNat * 7)).off + 3, none⟩ = some (.string ((rd_T34 l0 x5_1).f3)) ∧ w'.cell? ⟨(ad219.add ((x5_1).toNat * 7)).block, (ad219.add ((x5_1).toNat * 7)).off + 4, none⟩ = some (.bool ((rd_T34 l0 x5_1).f4)) ∧ w'.cell? ⟨(ad219.add ((x5_1).toNat * 7)).block, (ad219.add ((x5_1).toNat * 7)).off + 5, none⟩ = some (.int .i64 ((rd_T34 l0 x5_1).f5)) ∧ w'.cell? ⟨(ad219.add ((x5_1).toNat * 7)).block, (ad219.add ((x5_1).toNat * 7)).off + 6, none⟩ = some (.bool ((rd_T34 l0 x5_1).f6))) (ds := []) (bv 8 0) (by kernel_rfl) rfl rfl ⟨(bz HB.out hw220_0), (bz HB.out hw220_1), (bz HB.out hw220_2), (bz HB.out hw220_3), (bz HB.out hw220_4), (bz HB.out hw220_5), (bz HB.out hw220_6)⟩ (fun hHeld => ?_); refine with_tabW laws_heldRowS.tab7 laws_heldRowS.bits7 (fun HT_ HW_ => ?_)
                  generalize wr.drew = w39 at HB hx220_0 hx220_1 hx220_2 hx220_3 hx220_4 hx220_5 hx220_6 hHeld ⊢
                  refine pu 0 21 (bv 8 1) HT_.out (h := ?_)
                  refine pu 1 22 (bv 8 3) HT_.out (h := ?_)
                  refine pu 2 23 (bv 8 7) HT_.out (h := ?_)
                  refine pu 3 24 (bv 8 15) HT_.out (h := ?_)
                  refine pu 5 26 (bv 8 47) HT_.out (h := ?_)
                  refine tk 4 25 (bv 8 63) HT_.out HW_.out hHeld (h := ?_)
                  refine one_ (i := 6) (N := some 27) (bv 8 127) rfl rfl (one_of HT_.out (by kernel_rfl)) (by decide) (fun K hK => ?_)
                  refine goes_ Tryd.func103 (by kernel_rfl) rfl #[.int .i64 (wrap64 (x1_1 + 1))] (by rfl) rfl rfl Ag ?_
                  with_reducible refine (laws_markText.calls k1 (wrap64 (x1_1 + 1)) t221 _ A6.out).mono ?_
                  rintro e w40 ⟨rfl, hb⟩
                  refine ⟨_, rfl, ?_⟩
                  have n0_ := Aside0.mk (below_step By hb)
                  clear HB
                  have HB := n0_
                  clear n0_
                  (try clear hb)
                  (try clear hb2)
                  (try clear hk)
                  (try clear hi)
                  refine hK.out _ _ ⟨(bz HB.out hw220_0), (bz HB.out hw220_1), (bz HB.out hw220_2), (bz HB.out hw220_3), (bz HB.out hw220_4), (bz HB.out hw220_5), (bz HB.out hw220_6)⟩ (fun hHeld => ?_)
                  clear hK K
                  refine norm_ (a' := ?_) ?_ ?_
                  rotate_left
                  · show Act.put _ (some 27) _ = _
                    simp only [Act.put, List.setIfInBounds_toArray, List.set_cons_zero, List.set_cons_succ, i64_w, i32_w]
                    rfl
                  refine pu 7 28 (bv 8 255) HT_.out (h := ?_)
                  refine done_ (done_of HT_.out (by kernel_rfl)) ?_
                  try go_wp2
                  have n0_ := Aside0.mk (below_drew1 HB.out)
                  clear HB
                  have HB := n0_
                  clear n0_
                  have p222 : 0 ≤ (x5_1 : Int) := of_decide_eq_true Da
                  have q222 : x5_1 < (l0.length : Int) := of_decide_eq_true Da
                  obtain ⟨ad222, e222, hx222_0, hx222_1, hx222_2, hx222_3, hx222_4, hx222_5, hx222_6⟩ := at_T34 HR0.out x5_1 p222 q222
                  have hw222_6 := hx222_6
                  have hw222_5 := hx222_5
                  have hw222_4 := hx222_4
                  have hw222_3 := hx222_3
                  have hw222_2 := hx222_2
                  have hw222_1 := hx222_1
                  have hw222_0 := hx222_0
                  obtain rfl : ad219 = ad222 := (by injection e222)
                  replace hx222_0 := bz HB.out hx222_0
                  replace hx222_1 := bz HB.out hx222_1
                  replace hx222_2 := bz HB.out hx222_2
                  replace hx222_3 := bz HB.out hx222_3
                  replace hx222_4 := bz HB.out hx222_4
                  replace hx222_5 := bz HB.out hx222_5
                  replace hx222_6 := bz HB.out hx222_6
                  replace p222 := eq_true p222
                  replace q222 := eq_true q222
                  refine start_ (n := 8) (S := fun w' => w'.cell? (ad219.add ((x5_1).toNat * 7)) = some (.int .i64 ((rd_T34 l0 x5_1).f0)) ∧ w'.cell? ⟨(ad219.add ((x5_1).toNat * 7)).block, (ad219.add ((x5_1).toNat * 7)).off + 1, none⟩ = some (.string ((rd_T34 l0 x5_1).f1)) ∧ w'.cell? ⟨(ad219.add ((x5_1).toNat * 7)).block, (ad219.add ((x5_1).toNat * 7)).off + 2, none⟩ = some (.string ((rd_T34 l0 x5_1).f2)) ∧ w'.cell? ⟨(ad219.add ((x5_1).toNat * 7)).block, (ad219.add ((x5_1).toNat * 7)).off + 3, none⟩ = some (.string ((rd_T34 l0 x5_1).f3)) ∧ w'.cell? ⟨(ad219.add ((x5_1).toNat * 7)).block, (ad219.add ((x5_1).toNat * 7)).off + 4, none⟩ = some (.bool ((rd_T34 l0 x5_1).f4)) ∧ w'.cell? ⟨(ad219.add ((x5_1).toNat * 7)).block, (ad219.add ((x5_1).toNat * 7)).off + 5, none⟩ = some (.int .i64 ((rd_T34 l0 x5_1).f5)) ∧ w'.cell? ⟨(ad219.add ((x5_1).toNat * 7)).block, (ad219.add ((x5_1).toNat * 7)).off + 6, none⟩ = some (.bool ((rd_T34 l0 x5_1).f6))) (ds := []) (bv 8 0) (by kernel_rfl) rfl rfl ⟨(bz HB.out hw222_0), (bz HB.out hw222_1), (bz HB.out hw222_2), (bz HB.out hw222_3), (bz HB.out hw222_4), (bz HB.out hw222_5), (bz HB.out hw222_6)⟩ (fun hHeld => ?_); refine with_tabW laws_heldRowS.tab10 laws_heldRowS.bits10 (fun HT_ HW_ => ?_)
                  generalize w40.drew = w41 at HB hx222_0 hx222_1 hx222_2 hx222_3 hx222_4 hx222_5 hx222_6 hHeld ⊢
                  refine pu 0 31 (bv 8 1) HT_.out (h := ?_)
                  refine pu 1 32 (bv 8 3) HT_.out (h := ?_)
                  refine pu 2 33 (bv 8 7) HT_.out (h := ?_)
                  refine pu 3 34 (bv 8 15) HT_.out (h := ?_)
                  refine pu 5 36 (bv 8 47) HT_.out (h := ?_)
                  refine tk 4 35 (bv 8 63) HT_.out HW_.out hHeld (h := ?_)
                  refine one_ (i := 6) (N := some 37) (bv 8 127) rfl rfl (one_of HT_.out (by kernel_rfl)) (by decide) (fun K hK => ?_)
                  refine goes_ Tryd.func103 (by kernel_rfl) rfl #[.int .i64 (wrap64 ((wrap64 (x1_1 + 1)) + 1))] (by rfl) rfl rfl Ag ?_
                  with_reducible refine (laws_markText.calls k1 (wrap64 ((wrap64 (x1_1 + 1)) + 1)) t223 _ A8.out).mono ?_
                  rintro e w42 ⟨rfl, hb⟩
                  refine ⟨_, rfl, ?_⟩
                  have n0_ := Aside0.mk (below_step By hb)
                  clear HB
                  have HB := n0_
                  clear n0_
                  (try clear hb)
                  (try clear hb2)
                  (try clear hk)
                  (try clear hi)
                  refine hK.out _ _ ⟨(bz HB.out hw222_0), (bz HB.out hw222_1), (bz HB.out hw222_2), (bz HB.out hw222_3), (bz HB.out hw222_4), (bz HB.out hw222_5), (bz HB.out hw222_6)⟩ (fun hHeld => ?_)
                  clear hK K
                  refine norm_ (a' := ?_) ?_ ?_
                  rotate_left
                  · show Act.put _ (some 37) _ = _
                    simp only [Act.put, List.setIfInBounds_toArray, List.set_cons_zero, List.set_cons_succ, i64_w, i32_w]
                    rfl
                  refine pu 7 38 (bv 8 255) HT_.out (h := ?_)
                  refine done_ (done_of HT_.out (by kernel_rfl)) ?_
                  try go_wp2
                  have n0_ := Aside0.mk (below_drew1 HB.out)
                  clear HB
                  have HB := n0_
                  clear n0_
                  have p224 : 0 ≤ (x5_1 : Int) := of_decide_eq_true Da
                  have q224 : x5_1 < (l0.length : Int) := of_decide_eq_true Da
                  obtain ⟨ad224, e224, hx224_0, hx224_1, hx224_2, hx224_3, hx224_4, hx224_5, hx224_6⟩ := at_T34 HR0.out x5_1 p224 q224
                  have hw224_6 := hx224_6
                  have hw224_5 := hx224_5
                  have hw224_4 := hx224_4
                  have hw224_3 := hx224_3
                  have hw224_2 := hx224_2
                  have hw224_1 := hx224_1
                  have hw224_0 := hx224_0
                  obtain rfl : ad219 = ad224 := (by injection e224)
                  replace hx224_0 := bz HB.out hx224_0
                  replace hx224_1 := bz HB.out hx224_1
                  replace hx224_2 := bz HB.out hx224_2
                  replace hx224_3 := bz HB.out hx224_3
                  replace hx224_4 := bz HB.out hx224_4
                  replace hx224_5 := bz HB.out hx224_5
                  replace hx224_6 := bz HB.out hx224_6
                  replace p224 := eq_true p224
                  replace q224 := eq_true q224
                  refine start_ (n := 8) (S := fun w' => w'.cell? (ad219.add ((x5_1).toNat * 7)) = some (.int .i64 ((rd_T34 l0 x5_1).f0)) ∧ w'.cell? ⟨(ad219.add ((x5_1).toNat * 7)).block, (ad219.add ((x5_1).toNat * 7)).off + 1, none⟩ = some (.string ((rd_T34 l0 x5_1).f1)) ∧ w'.cell? ⟨(ad219.add ((x5_1).toNat * 7)).block, (ad219.add ((x5_1).toNat * 7)).off + 2, none⟩ = some (.string ((rd_T34 l0 x5_1).f2)) ∧ w'.cell? ⟨(ad219.add ((x5_1).toNat * 7)).block, (ad219.add ((x5_1).toNat * 7)).off + 3, none⟩ = some (.string ((rd_T34 l0 x5_1).f3)) ∧ w'.cell? ⟨(ad219.add ((x5_1).toNat * 7)).block, (ad219.add ((x5_1).toNat * 7)).off + 4, none⟩ = some (.bool ((rd_T34 l0 x5_1).f4)) ∧ w'.cell? ⟨(ad219.add ((x5_1).toNat * 7)).block, (ad219.add ((x5_1).toNat * 7)).off + 5, none⟩ = some (.int .i64 ((rd_T34 l0 x5_1).f5)) ∧ w'.cell? ⟨(ad219.add ((x5_1).toNat * 7)).block, (ad219.add ((x5_1).toNat * 7)).off + 6, none⟩ = some (.bool ((rd_T34 l0 x5_1).f6))) (ds := []) (bv 8 0) (by kernel_rfl) rfl rfl ⟨(bz HB.out hw224_0), (bz HB.out hw224_1), (bz HB.out hw224_2), (bz HB.out hw224_3), (bz HB.out hw224_4), (bz HB.out hw224_5), (bz HB.out hw224_6)⟩ (fun hHeld => ?_); refine with_tabW laws_heldRowS.tab13 laws_heldRowS.bits13 (fun HT_ HW_ => ?_)
                  generalize w42.drew = w43 at HB hx224_0 hx224_1 hx224_2 hx224_3 hx224_4 hx224_5 hx224_6 hHeld ⊢
                  refine pu 0 41 (bv 8 1) HT_.out (h := ?_)
                  refine pu 1 42 (bv 8 3) HT_.out (h := ?_)
                  refine pu 2 43 (bv 8 7) HT_.out (h := ?_)
                  refine pu 3 44 (bv 8 15) HT_.out (h := ?_)
                  refine pu 5 46 (bv 8 47) HT_.out (h := ?_)
                  refine tk 4 45 (bv 8 63) HT_.out HW_.out hHeld (h := ?_)
                  refine one_ (i := 6) (N := some 47) (bv 8 127) rfl rfl (one_of HT_.out (by kernel_rfl)) (by decide) (fun K hK => ?_)
                  refine goes_ Tryd.func103 (by kernel_rfl) rfl #[.int .i64 (wrap64 ((wrap64 ((wrap64 (x1_1 + 1)) + 1)) + 1))] (by rfl) rfl rfl Ag ?_
                  with_reducible refine (laws_markText.calls k1 (wrap64 ((wrap64 ((wrap64 (x1_1 + 1)) + 1)) + 1)) t225 _ A10.out).mono ?_
                  rintro e w44 ⟨rfl, hb⟩
                  refine ⟨_, rfl, ?_⟩
                  have n0_ := Aside0.mk (below_step By hb)
                  clear HB
                  have HB := n0_
                  clear n0_
                  (try clear hb)
                  (try clear hb2)
                  (try clear hk)
                  (try clear hi)
                  refine hK.out _ _ ⟨(bz HB.out hw224_0), (bz HB.out hw224_1), (bz HB.out hw224_2), (bz HB.out hw224_3), (bz HB.out hw224_4), (bz HB.out hw224_5), (bz HB.out hw224_6)⟩ (fun hHeld => ?_)
                  clear hK K
                  refine norm_ (a' := ?_) ?_ ?_
                  rotate_left
                  · show Act.put _ (some 47) _ = _
                    simp only [Act.put, List.setIfInBounds_toArray, List.set_cons_zero, List.set_cons_succ, i64_w, i32_w]
                    rfl
                  refine pu 7 48 (bv 8 255) HT_.out (h := ?_)
                  refine done_ (done_of HT_.out (by kernel_rfl)) ?_
                  try go_wp2
                  go_ret
                  exact ⟨Rf, By⟩
              · rw [if_neg c9] at H
                have c9b0 : (((rd_T34 l0 x5_1).f2).toList == t223.toList) = false := beq_eq_false_iff_ne.mpr c9
                have c9b1 : (((rd_T34 l0 x5_1).f2).toList != t223.toList) = true := bne_iff_ne.mpr c9
                obtain rfl := Option.some.inj H
                have p219 : 0 ≤ (x5_1 : Int) := of_decide_eq_true Da
                have q219 : x5_1 < (l0.length : Int) := of_decide_eq_true Da
                obtain ⟨ad219, e219, hx219_0, hx219_1, hx219_2, hx219_3, hx219_4, hx219_5, hx219_6⟩ := at_T34 HR0.out x5_1 p219 q219
                cases e219
                replace hx219_0 := bz HB.out hx219_0
                replace hx219_1 := bz HB.out hx219_1
                replace hx219_2 := bz HB.out hx219_2
                replace hx219_3 := bz HB.out hx219_3
                replace hx219_4 := bz HB.out hx219_4
                replace hx219_5 := bz HB.out hx219_5
                replace hx219_6 := bz HB.out hx219_6
                replace p219 := eq_true p219
                replace q219 := eq_true q219
                try go_wp2
                have n0_ := Aside0.mk (below_drew1 HB.out)
                clear HB
                have HB := n0_
                clear n0_
                have p220 : 0 ≤ (x5_1 : Int) := of_decide_eq_true Da
                have q220 : x5_1 < (l0.length : Int) := of_decide_eq_true Da
                obtain ⟨ad220, e220, hx220_0, hx220_1, hx220_2, hx220_3, hx220_4, hx220_5, hx220_6⟩ := at_T34 HR0.out x5_1 p220 q220
                have hw220_6 := hx220_6
                have hw220_5 := hx220_5
                have hw220_4 := hx220_4
                have hw220_3 := hx220_3
                have hw220_2 := hx220_2
                have hw220_1 := hx220_1
                have hw220_0 := hx220_0
                obtain rfl : ad219 = ad220 := (by injection e220)
                replace hx220_0 := bz HB.out hx220_0
                replace hx220_1 := bz HB.out hx220_1
                replace hx220_2 := bz HB.out hx220_2
                replace hx220_3 := bz HB.out hx220_3
                replace hx220_4 := bz HB.out hx220_4
                replace hx220_5 := bz HB.out hx220_5
                replace hx220_6 := bz HB.out hx220_6
                replace p220 := eq_true p220
                replace q220 := eq_true q220
                refine start_ (n := 8) (S := fun w' => w'.cell? (ad219.add ((x5_1).toNat * 7)) = some (.int .i64 ((rd_T34 l0 x5_1).f0)) ∧ w'.cell? ⟨(ad219.add ((x5_1).toNat * 7)).block, (ad219.add ((x5_1).toNat * 7)).off + 1, none⟩ = some (.string ((rd_T34 l0 x5_1).f1)) ∧ w'.cell? ⟨(ad219.add ((x5_1).toNat * 7)).block, (ad219.add ((x5_1).toNat * 7)).off + 2, none⟩ = some (.string ((rd_T34 l0 x5_1).f2)) ∧ w'.cell? ⟨(ad219.add ((x5_1).toNat * 7)).block, (ad219.add ((x5_1).toNat * 7)).off + 3, none⟩ = some (.string ((rd_T34 l0 x5_1).f3)) ∧ w'.cell? ⟨(ad219.add ((x5_1).toNat * 7)).block, (ad219.add ((x5_1).toNat * 7)).off + 4, none⟩ = some (.bool ((rd_T34 l0 x5_1).f4)) ∧ w'.cell? ⟨(ad219.add ((x5_1).toNat * 7)).block, (ad219.add ((x5_1).toNat * 7)).off + 5, none⟩ = some (.int .i64 ((rd_T34 l0 x5_1).f5)) ∧ w'.cell? ⟨(ad219.add ((x5_1).toNat * 7)).block, (ad219.add ((x5_1).toNat * 7)).off + 6, none⟩ = some (.bool ((rd_T34 l0 x5_1).f6))) (ds := []) (bv 8 0) (by kernel_rfl) rfl rfl ⟨(bz HB.out hw220_0), (bz HB.out hw220_1), (bz HB.out hw220_2), (bz HB.out hw220_3), (bz HB.out hw220_4), (bz HB.out hw220_5), (bz HB.out hw220_6)⟩ (fun hHeld => ?_); refine with_tabW laws_heldRowS.tab7 laws_heldRowS.bits7 (fun HT_ HW_ => ?_)
                generalize wr.drew = w45 at HB hx220_0 hx220_1 hx220_2 hx220_3 hx220_4 hx220_5 hx220_6 hHeld ⊢
                refine pu 0 21 (bv 8 1) HT_.out (h := ?_)
                refine pu 1 22 (bv 8 3) HT_.out (h := ?_)
                refine pu 2 23 (bv 8 7) HT_.out (h := ?_)
                refine pu 3 24 (bv 8 15) HT_.out (h := ?_)
                refine pu 5 26 (bv 8 47) HT_.out (h := ?_)
                refine tk 4 25 (bv 8 63) HT_.out HW_.out hHeld (h := ?_)
                refine one_ (i := 6) (N := some 27) (bv 8 127) rfl rfl (one_of HT_.out (by kernel_rfl)) (by decide) (fun K hK => ?_)
                refine goes_ Tryd.func103 (by kernel_rfl) rfl #[.int .i64 (wrap64 (x1_1 + 1))] (by rfl) rfl rfl Ag ?_
                with_reducible refine (laws_markText.calls k1 (wrap64 (x1_1 + 1)) t221 _ A6.out).mono ?_
                rintro e w46 ⟨rfl, hb⟩
                refine ⟨_, rfl, ?_⟩
                have n0_ := Aside0.mk (below_step By hb)
                clear HB
                have HB := n0_
                clear n0_
                (try clear hb)
                (try clear hb2)
                (try clear hk)
                (try clear hi)
                refine hK.out _ _ ⟨(bz HB.out hw220_0), (bz HB.out hw220_1), (bz HB.out hw220_2), (bz HB.out hw220_3), (bz HB.out hw220_4), (bz HB.out hw220_5), (bz HB.out hw220_6)⟩ (fun hHeld => ?_)
                clear hK K
                refine norm_ (a' := ?_) ?_ ?_
                rotate_left
                · show Act.put _ (some 27) _ = _
                  simp only [Act.put, List.setIfInBounds_toArray, List.set_cons_zero, List.set_cons_succ, i64_w, i32_w]
                  rfl
                refine pu 7 28 (bv 8 255) HT_.out (h := ?_)
                refine done_ (done_of HT_.out (by kernel_rfl)) ?_
                try go_wp2
                have n0_ := Aside0.mk (below_drew1 HB.out)
                clear HB
                have HB := n0_
                clear n0_
                have p222 : 0 ≤ (x5_1 : Int) := of_decide_eq_true Da
                have q222 : x5_1 < (l0.length : Int) := of_decide_eq_true Da
                obtain ⟨ad222, e222, hx222_0, hx222_1, hx222_2, hx222_3, hx222_4, hx222_5, hx222_6⟩ := at_T34 HR0.out x5_1 p222 q222
                have hw222_6 := hx222_6
                have hw222_5 := hx222_5
                have hw222_4 := hx222_4
                have hw222_3 := hx222_3
                have hw222_2 := hx222_2
                have hw222_1 := hx222_1
                have hw222_0 := hx222_0
                obtain rfl : ad219 = ad222 := (by injection e222)
                replace hx222_0 := bz HB.out hx222_0
                replace hx222_1 := bz HB.out hx222_1
                replace hx222_2 := bz HB.out hx222_2
                replace hx222_3 := bz HB.out hx222_3
                replace hx222_4 := bz HB.out hx222_4
                replace hx222_5 := bz HB.out hx222_5
                replace hx222_6 := bz HB.out hx222_6
                replace p222 := eq_true p222
                replace q222 := eq_true q222
                refine start_ (n := 8) (S := fun w' => w'.cell? (ad219.add ((x5_1).toNat * 7)) = some (.int .i64 ((rd_T34 l0 x5_1).f0)) ∧ w'.cell? ⟨(ad219.add ((x5_1).toNat * 7)).block, (ad219.add ((x5_1).toNat * 7)).off + 1, none⟩ = some (.string ((rd_T34 l0 x5_1).f1)) ∧ w'.cell? ⟨(ad219.add ((x5_1).toNat * 7)).block, (ad219.add ((x5_1).toNat * 7)).off + 2, none⟩ = some (.string ((rd_T34 l0 x5_1).f2)) ∧ w'.cell? ⟨(ad219.add ((x5_1).toNat * 7)).block, (ad219.add ((x5_1).toNat * 7)).off + 3, none⟩ = some (.string ((rd_T34 l0 x5_1).f3)) ∧ w'.cell? ⟨(ad219.add ((x5_1).toNat * 7)).block, (ad219.add ((x5_1).toNat * 7)).off + 4, none⟩ = some (.bool ((rd_T34 l0 x5_1).f4)) ∧ w'.cell? ⟨(ad219.add ((x5_1).toNat * 7)).block, (ad219.add ((x5_1).toNat * 7)).off + 5, none⟩ = some (.int .i64 ((rd_T34 l0 x5_1).f5)) ∧ w'.cell? ⟨(ad219.add ((x5_1).toNat * 7)).block, (ad219.add ((x5_1).toNat * 7)).off + 6, none⟩ = some (.bool ((rd_T34 l0 x5_1).f6))) (ds := []) (bv 8 0) (by kernel_rfl) rfl rfl ⟨(bz HB.out hw222_0), (bz HB.out hw222_1), (bz HB.out hw222_2), (bz HB.out hw222_3), (bz HB.out hw222_4), (bz HB.out hw222_5), (bz HB.out hw222_6)⟩ (fun hHeld => ?_); refine with_tabW laws_heldRowS.tab10 laws_heldRowS.bits10 (fun HT_ HW_ => ?_)
                generalize w46.drew = w47 at HB hx222_0 hx222_1 hx222_2 hx222_3 hx222_4 hx222_5 hx222_6 hHeld ⊢
                refine pu 0 31 (bv 8 1) HT_.out (h := ?_)
                refine pu 1 32 (bv 8 3) HT_.out (h := ?_)
                refine pu 2 33 (bv 8 7) HT_.out (h := ?_)
                refine pu 3 34 (bv 8 15) HT_.out (h := ?_)
                refine pu 5 36 (bv 8 47) HT_.out (h := ?_)
                refine tk 4 35 (bv 8 63) HT_.out HW_.out hHeld (h := ?_)
                refine one_ (i := 6) (N := some 37) (bv 8 127) rfl rfl (one_of HT_.out (by kernel_rfl)) (by decide) (fun K hK => ?_)
                refine goes_ Tryd.func103 (by kernel_rfl) rfl #[.int .i64 (wrap64 ((wrap64 (x1_1 + 1)) + 1))] (by rfl) rfl rfl Ag ?_
                with_reducible refine (laws_markText.calls k1 (wrap64 ((wrap64 (x1_1 + 1)) + 1)) t223 _ A8.out).mono ?_
                rintro e w48 ⟨rfl, hb⟩
                refine ⟨_, rfl, ?_⟩
                have n0_ := Aside0.mk (below_step By hb)
                clear HB
                have HB := n0_
                clear n0_
                (try clear hb)
                (try clear hb2)
                (try clear hk)
                (try clear hi)
                refine hK.out _ _ ⟨(bz HB.out hw222_0), (bz HB.out hw222_1), (bz HB.out hw222_2), (bz HB.out hw222_3), (bz HB.out hw222_4), (bz HB.out hw222_5), (bz HB.out hw222_6)⟩ (fun hHeld => ?_)
                clear hK K
                refine norm_ (a' := ?_) ?_ ?_
                rotate_left
                · show Act.put _ (some 37) _ = _
                  simp only [Act.put, List.setIfInBounds_toArray, List.set_cons_zero, List.set_cons_succ, i64_w, i32_w]
                  rfl
                refine pu 7 38 (bv 8 255) HT_.out (h := ?_)
                refine done_ (done_of HT_.out (by kernel_rfl)) ?_
                try go_wp2
                go_ret
                exact ⟨Rf, By⟩
            · rw [if_neg c7] at H
              have c7b0 : (((rd_T34 l0 x5_1).f1).toList == t221.toList) = false := beq_eq_false_iff_ne.mpr c7
              have c7b1 : (((rd_T34 l0 x5_1).f1).toList != t221.toList) = true := bne_iff_ne.mpr c7
              obtain rfl := Option.some.inj H
              have p219 : 0 ≤ (x5_1 : Int) := of_decide_eq_true Da
              have q219 : x5_1 < (l0.length : Int) := of_decide_eq_true Da
              obtain ⟨ad219, e219, hx219_0, hx219_1, hx219_2, hx219_3, hx219_4, hx219_5, hx219_6⟩ := at_T34 HR0.out x5_1 p219 q219
              cases e219
              replace hx219_0 := bz HB.out hx219_0
              replace hx219_1 := bz HB.out hx219_1
              replace hx219_2 := bz HB.out hx219_2
              replace hx219_3 := bz HB.out hx219_3
              replace hx219_4 := bz HB.out hx219_4
              replace hx219_5 := bz HB.out hx219_5
              replace hx219_6 := bz HB.out hx219_6
              replace p219 := eq_true p219
              replace q219 := eq_true q219
              try go_wp2
              have n0_ := Aside0.mk (below_drew1 HB.out)
              clear HB
              have HB := n0_
              clear n0_
              have p220 : 0 ≤ (x5_1 : Int) := of_decide_eq_true Da
              have q220 : x5_1 < (l0.length : Int) := of_decide_eq_true Da
              obtain ⟨ad220, e220, hx220_0, hx220_1, hx220_2, hx220_3, hx220_4, hx220_5, hx220_6⟩ := at_T34 HR0.out x5_1 p220 q220
              have hw220_6 := hx220_6
              have hw220_5 := hx220_5
              have hw220_4 := hx220_4
              have hw220_3 := hx220_3
              have hw220_2 := hx220_2
              have hw220_1 := hx220_1
              have hw220_0 := hx220_0
              obtain rfl : ad219 = ad220 := (by injection e220)
              replace hx220_0 := bz HB.out hx220_0
              replace hx220_1 := bz HB.out hx220_1
              replace hx220_2 := bz HB.out hx220_2
              replace hx220_3 := bz HB.out hx220_3
              replace hx220_4 := bz HB.out hx220_4
              replace hx220_5 := bz HB.out hx220_5
              replace hx220_6 := bz HB.out hx220_6
              replace p220 := eq_true p220
              replace q220 := eq_true q220
              refine start_ (n := 8) (S := fun w' => w'.cell? (ad219.add ((x5_1).toNat * 7)) = some (.int .i64 ((rd_T34 l0 x5_1).f0)) ∧ w'.cell? ⟨(ad219.add ((x5_1).toNat * 7)).block, (ad219.add ((x5_1).toNat * 7)).off + 1, none⟩ = some (.string ((rd_T34 l0 x5_1).f1)) ∧ w'.cell? ⟨(ad219.add ((x5_1).toNat * 7)).block, (ad219.add ((x5_1).toNat * 7)).off + 2, none⟩ = some (.string ((rd_T34 l0 x5_1).f2)) ∧ w'.cell? ⟨(ad219.add ((x5_1).toNat * 7)).block, (ad219.add ((x5_1).toNat * 7)).off + 3, none⟩ = some (.string ((rd_T34 l0 x5_1).f3)) ∧ w'.cell? ⟨(ad219.add ((x5_1).toNat * 7)).block, (ad219.add ((x5_1).toNat * 7)).off + 4, none⟩ = some (.bool ((rd_T34 l0 x5_1).f4)) ∧ w'.cell? ⟨(ad219.add ((x5_1).toNat * 7)).block, (ad219.add ((x5_1).toNat * 7)).off + 5, none⟩ = some (.int .i64 ((rd_T34 l0 x5_1).f5)) ∧ w'.cell? ⟨(ad219.add ((x5_1).toNat * 7)).block, (ad219.add ((x5_1).toNat * 7)).off + 6, none⟩ = some (.bool ((rd_T34 l0 x5_1).f6))) (ds := []) (bv 8 0) (by kernel_rfl) rfl rfl ⟨(bz HB.out hw220_0), (bz HB.out hw220_1), (bz HB.out hw220_2), (bz HB.out hw220_3), (bz HB.out hw220_4), (bz HB.out hw220_5), (bz HB.out hw220_6)⟩ (fun hHeld => ?_); refine with_tabW laws_heldRowS.tab7 laws_heldRowS.bits7 (fun HT_ HW_ => ?_)
              generalize wr.drew = w49 at HB hx220_0 hx220_1 hx220_2 hx220_3 hx220_4 hx220_5 hx220_6 hHeld ⊢
              refine pu 0 21 (bv 8 1) HT_.out (h := ?_)
              refine pu 1 22 (bv 8 3) HT_.out (h := ?_)
              refine pu 2 23 (bv 8 7) HT_.out (h := ?_)
              refine pu 3 24 (bv 8 15) HT_.out (h := ?_)
              refine pu 5 26 (bv 8 47) HT_.out (h := ?_)
              refine tk 4 25 (bv 8 63) HT_.out HW_.out hHeld (h := ?_)
              refine one_ (i := 6) (N := some 27) (bv 8 127) rfl rfl (one_of HT_.out (by kernel_rfl)) (by decide) (fun K hK => ?_)
              refine goes_ Tryd.func103 (by kernel_rfl) rfl #[.int .i64 (wrap64 (x1_1 + 1))] (by rfl) rfl rfl Ag ?_
              with_reducible refine (laws_markText.calls k1 (wrap64 (x1_1 + 1)) t221 _ A6.out).mono ?_
              rintro e w50 ⟨rfl, hb⟩
              refine ⟨_, rfl, ?_⟩
              have n0_ := Aside0.mk (below_step By hb)
              clear HB
              have HB := n0_
              clear n0_
              (try clear hb)
              (try clear hb2)
              (try clear hk)
              (try clear hi)
              refine hK.out _ _ ⟨(bz HB.out hw220_0), (bz HB.out hw220_1), (bz HB.out hw220_2), (bz HB.out hw220_3), (bz HB.out hw220_4), (bz HB.out hw220_5), (bz HB.out hw220_6)⟩ (fun hHeld => ?_)
              clear hK K
              refine norm_ (a' := ?_) ?_ ?_
              rotate_left
              · show Act.put _ (some 27) _ = _
                simp only [Act.put, List.setIfInBounds_toArray, List.set_cons_zero, List.set_cons_succ, i64_w, i32_w]
                rfl
              refine pu 7 28 (bv 8 255) HT_.out (h := ?_)
              refine done_ (done_of HT_.out (by kernel_rfl)) ?_
              try go_wp2
              go_ret
              exact ⟨Rf, By⟩
          · rw [if_neg c5] at H
            have c5b0 : (((rd_T34 l0 x5_1).f0) == x1_1) = false := beq_eq_false_iff_ne.mpr c5
            have c5b1 : (((rd_T34 l0 x5_1).f0) != x1_1) = true := bne_iff_ne.mpr c5
            obtain rfl := Option.some.inj H
            have p219 : 0 ≤ (x5_1 : Int) := of_decide_eq_true Da
            have q219 : x5_1 < (l0.length : Int) := of_decide_eq_true Da
            obtain ⟨ad219, e219, hx219_0, hx219_1, hx219_2, hx219_3, hx219_4, hx219_5, hx219_6⟩ := at_T34 HR0.out x5_1 p219 q219
            cases e219
            replace hx219_0 := bz HB.out hx219_0
            replace hx219_1 := bz HB.out hx219_1
            replace hx219_2 := bz HB.out hx219_2
            replace hx219_3 := bz HB.out hx219_3
            replace hx219_4 := bz HB.out hx219_4
            replace hx219_5 := bz HB.out hx219_5
            replace hx219_6 := bz HB.out hx219_6
            replace p219 := eq_true p219
            replace q219 := eq_true q219
            go_wp2
            go_ret
            exact ⟨Rf, By⟩
        · rw [if_neg c4] at H
          exact absurd H (by simp)
      · rw [if_neg c3] at H
        have c3b0 : decide (x5_1 < (l0.length : Int)) = false := decide_eq_false c3
        clear c3
        obtain rfl := Option.some.inj H
        go_wp2
        go_ret
        exact ⟨Rf, By⟩

set_option linter.unusedVariables false
set_option linter.unusedSimpArgs false

/-! ### laws_heldTable: function 28 -/
def laws_heldTable.f (k : Nat) (a0_0 : Int) (a0_1 : Int) (l0_2 : List (S34)) (a1 : Int) : Option (Int) := (laws_heldRowS.f k l0_2 a1).bind fun t230 => (if t230 < 0 then (some (-1)) else (some t230))
theorem laws_heldTable.mono : ∀ a0 a1 a2 a3 k, LeO (laws_heldTable.f k a0 a1 a2 a3) (laws_heldTable.f (k + 1) a0 a1 a2 a3) := by
  intro a0 a1 a2 a3 k
  unfold laws_heldTable.f
  repeat' first
      | (with_reducible exact laws_heldRowS.mono _ _ _)
      | (with_reducible exact LeO.refl _)
      | (with_reducible exact LeO.none _)
      | (with_reducible refine LeO.ite ?_ ?_)
      | (with_reducible refine LeO.bind ?_ (fun _ => ?_))
      | exact laws_heldRowS.mono _ _ _
      | exact LeO.none _
      | refine LeO.ite ?_ ?_
      | refine LeO.bind ?_ (fun _ => ?_)
set_option maxHeartbeats 8000000 in
set_option maxRecDepth 100000 in
theorem laws_heldTable.calls (k : Nat) (a0_0 : Int) (a0_1 : Int) (A0_2 : Option Addr) (c0_2 : Nat) (l0_2 : List (S34)) (a1 : Int) (r : Int) (w : World) (hr0_2 : Kd.C k34 w A0_2 l0_2.length l0_2) (hc0_2 : l0_2.length ≤ c0_2) (h : laws_heldTable.f k a0_0 a0_1 l0_2 a1 = some r) :
    Calls Tryd.prog 28 #[.agg #[.int .i64 a0_0, .int .i64 a0_1, .slice A0_2 l0_2.length c0_2], .int .i64 a1] w fun e w' => e = .returned (.int .i64 r) ∧ Below w.heap.size w w' := by
  have hu38 := Tryd.underlying38
  have HR0_2 := Aside0.mk hr0_2
  have HC0_2 := Aside0.mk hc0_2
  clear hr0_2 hc0_2
  have HB := Aside0.mk (Below.refl w.heap.size w)
  have H : ((laws_heldRowS.f k l0_2 a1).bind fun t230 => (if t230 < 0 then (some (-1)) else (some t230))) = some r := h
  clear h
  replace H := Option.bind_eq_some_iff.mp H
  obtain ⟨t230, A30, H⟩ := H
  replace H : (if t230 < 0 then (some (-1)) else (some t230)) = some r := H
  have A3 := Aside0.mk A30
  clear A30
  by_cases c4 : t230 < 0
  · rw [if_pos c4] at H
    have c4b0 : decide (t230 < 0) = true := decide_eq_true c4
    clear c4
    obtain rfl := Option.some.inj H
    go_enter Tryd.func28, Tryd.ntmps28
    go_wp2_with (first | ((with_reducible refine gate_dst (N := 2) rfl ?_); refine box_event ?hg (N := 2) ?hd (cs := #[.int .i64 a0_0, .int .i64 a0_1, .slice A0_2 l0_2.length c0_2]) (t := 38) ?hr ?_; (case hd => rfl); (case hg => rfl); (case hr => first | (go_simp; done) | (go_simp; rfl)); intro gb229 hg w5 hbox hb; have n0_ := Aside0.mk (below_step By hb); have n1_ := Aside0.mk (hbox); have n2_ := Aside0.mk ((by rw [hg]; exact (below_size By) : w.heap.size ≤ gb229)); have n3_ := Aside0.mk ((by rw [hg]; exact (below_size By) : w.heap.size ≤ gb229)); clear HB; have HB := n0_; have BK229 := n1_; have GW229 := n2_; have GE229 := n3_; clear n0_ n1_ n2_ n3_; clear hb hbox hg; have ⟨hcz6_0, hcz6_1, hcz6_2⟩ := cq3 BK229.out; have ⟨hfz6_0, hfz6_1, hfz6_2⟩ := fq3 BK229.out) | ((with_reducible refine gate_callee (f := 72) rfl ?_); refine goesL_ (some 8) rfl rfl Tryd.func72 (by kernel_rfl) rfl #[.slice A0_2 l0_2.length c0_2, .int .i64 a1] rfl Ag ?_; (with_reducible refine (laws_heldRowS.calls k _ _ l0_2 a1 t230 _ ?side1 ?side2 A3.out).mono ?_); (case side1 => exact rC (Kd.C_below HR0_2.out HB.out)); (case side2 => exact HC0_2.out); rintro e w7 ⟨rfl, hb⟩; refine ⟨_, rfl, ?_⟩; have n0_ := Aside0.mk (bb BK229.out hb); have n1_ := Aside0.mk (below_step By hb); clear BK229; clear HB; have BK229 := n0_; have HB := n1_; clear n0_ n1_; (try clear hb); (try clear hb2); (try clear hk); (try clear hi)))
    go_ret
    exact ⟨Rf, By⟩
  · rw [if_neg c4] at H
    have c4b0 : decide (t230 < 0) = false := decide_eq_false c4
    clear c4
    obtain rfl := Option.some.inj H
    go_enter Tryd.func28, Tryd.ntmps28
    go_wp2_with (first | ((with_reducible refine gate_dst (N := 2) rfl ?_); refine box_event ?hg (N := 2) ?hd (cs := #[.int .i64 a0_0, .int .i64 a0_1, .slice A0_2 l0_2.length c0_2]) (t := 38) ?hr ?_; (case hd => rfl); (case hg => rfl); (case hr => first | (go_simp; done) | (go_simp; rfl)); intro gb229 hg w8 hbox hb; have n0_ := Aside0.mk (below_step By hb); have n1_ := Aside0.mk (hbox); have n2_ := Aside0.mk ((by rw [hg]; exact (below_size By) : w.heap.size ≤ gb229)); have n3_ := Aside0.mk ((by rw [hg]; exact (below_size By) : w.heap.size ≤ gb229)); clear HB; have HB := n0_; have BK229 := n1_; have GW229 := n2_; have GE229 := n3_; clear n0_ n1_ n2_ n3_; clear hb hbox hg; have ⟨hcz9_0, hcz9_1, hcz9_2⟩ := cq3 BK229.out; have ⟨hfz9_0, hfz9_1, hfz9_2⟩ := fq3 BK229.out) | ((with_reducible refine gate_callee (f := 72) rfl ?_); refine goesL_ (some 8) rfl rfl Tryd.func72 (by kernel_rfl) rfl #[.slice A0_2 l0_2.length c0_2, .int .i64 a1] rfl Ag ?_; (with_reducible refine (laws_heldRowS.calls k _ _ l0_2 a1 t230 _ ?side1 ?side2 A3.out).mono ?_); (case side1 => exact rC (Kd.C_below HR0_2.out HB.out)); (case side2 => exact HC0_2.out); rintro e w10 ⟨rfl, hb⟩; refine ⟨_, rfl, ?_⟩; have n0_ := Aside0.mk (bb BK229.out hb); have n1_ := Aside0.mk (below_step By hb); clear BK229; clear HB; have BK229 := n0_; have HB := n1_; clear n0_ n1_; (try clear hb); (try clear hb2); (try clear hk); (try clear hi)))
    go_ret
    exact ⟨Rf, By⟩

set_option linter.unusedVariables false
set_option linter.unusedSimpArgs false

/-! ### impl_between: function 77 -/
def impl_between.f (a0 : Int) (a1 : Int) (a2 : Int) : Option (Bool) := if a0 ≥ a1 then (some (decide (a0 ≤ a2))) else (some false)
set_option maxHeartbeats 8000000 in
set_option maxRecDepth 100000 in
theorem impl_between.calls (a0 : Int) (a1 : Int) (a2 : Int) (r : Bool) (w : World) (h : impl_between.f a0 a1 a2 = some r) :
    Calls Tryd.prog 77 #[.int .i64 a0, .int .i64 a1, .int .i64 a2] w fun e w' => e = .returned (.bool r) ∧ Drawn0 w w' := by
  have H : (if a0 ≥ a1 then (some (decide (a0 ≤ a2))) else (some false)) = some r := h
  clear h
  by_cases c4 : a0 ≥ a1
  · rw [if_pos c4] at H
    have c4b0 : decide (a1 ≤ a0) = true := decide_eq_true c4
    clear c4
    obtain rfl := Option.some.inj H
    go_enter Tryd.func77, Tryd.ntmps77
    go_wp2
    go_ret
    exact ⟨by first | rfl | (simp; done) | (simp [*]; done), by repeat (first | exact Drawn0.refl _ | apply Drawn0.step)⟩
  · rw [if_neg c4] at H
    have c4b0 : decide (a1 ≤ a0) = false := decide_eq_false c4
    clear c4
    obtain rfl := Option.some.inj H
    go_enter Tryd.func77, Tryd.ntmps77
    go_wp2
    go_ret
    exact ⟨by first | rfl | (simp; done) | (simp [*]; done), by repeat (first | exact Drawn0.refl _ | apply Drawn0.step)⟩

set_option linter.unusedVariables false
set_option linter.unusedSimpArgs false

/-! ### impl_isPrintable: function 130 -/
def impl_isPrintable.l0 : Nat → ByteArray → Int → Int → Option (Bool)
  | 0, _, _, _ => none
  | k + 1, x0, x5, x6 => if x6 < x5 then (if 0 ≤ x6 then (if x6 < (x0.size : Int) then (if (bt x0 x6) < 32 then (some false) else (if (bt x0 x6) > 126 then (some false) else (impl_isPrintable.l0 k x0 x5 (wrap64 (x6 + 1))))) else (none)) else (none)) else (some true)
def impl_isPrintable.f (k : Nat) (a0 : ByteArray) : Option (Bool) := impl_isPrintable.l0 k a0 (a0.size : Int) 0
theorem impl_isPrintable.mono_l : ∀ k, (∀ y0 y1 y2, LeO (impl_isPrintable.l0 k y0 y1 y2) (impl_isPrintable.l0 (k + 1) y0 y1 y2))
  | 0 => fun _ _ _ r h => by simp [impl_isPrintable.l0] at h
  | k + 1 => by
    have ih0 := impl_isPrintable.mono_l k
    · intro y0 y1 y2
      unfold impl_isPrintable.l0
      repeat' first
      | (with_reducible exact ih0 _ _ _)
      | (with_reducible exact LeO.refl _)
      | (with_reducible exact LeO.none _)
      | (with_reducible refine LeO.ite ?_ ?_)
      | (with_reducible refine LeO.bind ?_ (fun _ => ?_))
      | exact ih0 _ _ _
      | exact LeO.none _
      | refine LeO.ite ?_ ?_
      | refine LeO.bind ?_ (fun _ => ?_)
theorem impl_isPrintable.mono : ∀ a0 k, LeO (impl_isPrintable.f k a0) (impl_isPrintable.f (k + 1) a0) := by
  intro a0 k
  have ih0 := impl_isPrintable.mono_l k
  unfold impl_isPrintable.f
  repeat' first
      | (with_reducible exact ih0 _ _ _)
      | (with_reducible exact LeO.refl _)
      | (with_reducible exact LeO.none _)
      | (with_reducible refine LeO.ite ?_ ?_)
      | (with_reducible refine LeO.bind ?_ (fun _ => ?_))
      | exact ih0 _ _ _
      | exact LeO.none _
      | refine LeO.ite ?_ ?_
      | refine LeO.bind ?_ (fun _ => ?_)
set_option maxHeartbeats 8000000 in
set_option maxRecDepth 100000 in
theorem impl_isPrintable.calls (k : Nat) (a0 : ByteArray) (r : Bool) (w : World) (h : impl_isPrintable.f k a0 = some r) :
    Calls Tryd.prog 130 #[.string a0] w fun e w' => e = .returned (.bool r) ∧ Drawn0 w w' := by
  have H : (impl_isPrintable.l0 k a0 (a0.size : Int) 0) = some r := h
  clear h
  have H' := Aside0.mk H
  clear H
  go_enter Tryd.func130, Tryd.ntmps130
  go_wp2
  go_loopg [6] k (fun kq v6 w' => ∃ (x6_1 : Int), v6 = .int .i64 x6_1 ∧ Aside0 (impl_isPrintable.l0 kq a0 (a0.size : Int) x6_1 = some r) ∧ Aside0 (kq ≤ k) ∧ Drawn0 w w')
  case atStart => exact ⟨(0), (by first | rfl | (simp; done) | (simp [*]; done)), H', ⟨Nat.le_refl _⟩, by repeat (first | exact Drawn0.refl _ | apply Drawn0.step)⟩
  case round =>
    clear H'
    try clear c1
    obtain ⟨x6_1, rfl, HA, HK1, ⟨m1, rfl⟩⟩ := hrel
    cases gk with
    | zero => exact absurd HA.out (by simp [impl_isPrintable.l0])
    | succ k1 =>
      have H := HA.out
      clear HA
      simp only [impl_isPrintable.l0] at H
      by_cases c2 : x6_1 < (a0.size : Int)
      · rw [if_pos c2] at H
        have c2b0 : decide (x6_1 < (a0.size : Int)) = true := decide_eq_true c2
        clear c2
        by_cases c3 : 0 ≤ x6_1
        · rw [if_pos c3] at H
          have c3b0 : decide (0 ≤ x6_1) = true := decide_eq_true c3
          clear c3
          by_cases c4 : x6_1 < (a0.size : Int)
          · rw [if_pos c4] at H
            have c4b0 : decide (x6_1 < (a0.size : Int)) = true := decide_eq_true c4
            clear c4
            by_cases c6 : (bt a0 x6_1) < 32
            · rw [if_pos c6] at H
              have c6b0 : decide ((bt a0 x6_1) < 32) = true := decide_eq_true c6
              clear c6
              obtain rfl := Option.some.inj H
              have p5 : 0 ≤ (x6_1 : Int) := of_decide_eq_true Da
              have q5 : x6_1 < (a0.size : Int) := of_decide_eq_true Da
              have hx5 := bt_at a0 x6_1
              replace p5 := eq_true p5
              replace q5 := eq_true q5
              go_wp2
              go_ret
              exact ⟨by first | rfl | (simp; done) | (simp [*]; done), by repeat (first | exact Drawn0.refl _ | apply Drawn0.step)⟩
            · rw [if_neg c6] at H
              have c6b0 : decide ((bt a0 x6_1) < 32) = false := decide_eq_false c6
              clear c6
              by_cases c8 : (bt a0 x6_1) > 126
              · rw [if_pos c8] at H
                have c8b0 : decide (126 < (bt a0 x6_1)) = true := decide_eq_true c8
                clear c8
                obtain rfl := Option.some.inj H
                have p5 : 0 ≤ (x6_1 : Int) := of_decide_eq_true Da
                have q5 : x6_1 < (a0.size : Int) := of_decide_eq_true Da
                have hx5 := bt_at a0 x6_1
                replace p5 := eq_true p5
                replace q5 := eq_true q5
                have p7 : 0 ≤ (x6_1 : Int) := of_decide_eq_true Da
                have q7 : x6_1 < (a0.size : Int) := of_decide_eq_true Da
                have hx7 := bt_at a0 x6_1
                replace p7 := eq_true p7
                replace q7 := eq_true q7
                go_wp2
                go_ret
                exact ⟨by first | rfl | (simp; done) | (simp [*]; done), by repeat (first | exact Drawn0.refl _ | apply Drawn0.step)⟩
              · rw [if_neg c8] at H
                have c8b0 : decide (126 < (bt a0 x6_1)) = false := decide_eq_false c8
                clear c8
                have H' := Aside0.mk H
                clear H
                have p5 : 0 ≤ (x6_1 : Int) := of_decide_eq_true Da
                have q5 : x6_1 < (a0.size : Int) := of_decide_eq_true Da
                have hx5 := bt_at a0 x6_1
                replace p5 := eq_true p5
                replace q5 := eq_true q5
                have p7 : 0 ≤ (x6_1 : Int) := of_decide_eq_true Da
                have q7 : x6_1 < (a0.size : Int) := of_decide_eq_true Da
                have hx7 := bt_at a0 x6_1
                replace p7 := eq_true p7
                replace q7 := eq_true q7
                go_wp2
                go_roundg k1
                case measure => have := HK1.out; omega
                case rel => exact ⟨(wrap64 (x6_1 + 1)), (by first | rfl | (simp; done) | (simp [*]; done)), H', ⟨by have := HK1.out; omega⟩, by repeat (first | exact Drawn0.refl _ | apply Drawn0.step)⟩
          · rw [if_neg c4] at H
            exact absurd H (by simp)
        · rw [if_neg c3] at H
          exact absurd H (by simp)
      · rw [if_neg c2] at H
        have c2b0 : decide (x6_1 < (a0.size : Int)) = false := decide_eq_false c2
        clear c2
        obtain rfl := Option.some.inj H
        go_wp2
        go_ret
        exact ⟨by first | rfl | (simp; done) | (simp [*]; done), by repeat (first | exact Drawn0.refl _ | apply Drawn0.step)⟩

set_option linter.unusedVariables false
set_option linter.unusedSimpArgs false

/-! ### stringslite_HasSuffix: function 169 -/
def stringslite_HasSuffix.f (a0 : ByteArray) (a1 : ByteArray) : Option (Bool) := if (a0.size : Int) ≥ (a1.size : Int) then (if 0 ≤ (wrap64 ((a0.size : Int) - (a1.size : Int))) then (if (wrap64 ((a0.size : Int) - (a1.size : Int))) ≤ (a0.size : Int) then (some ((a0.extract ((wrap64 ((a0.size : Int) - (a1.size : Int))) : Int).toNat a0.size).toList == a1.toList)) else (none)) else (none)) else (some false)
set_option maxHeartbeats 8000000 in
set_option maxRecDepth 100000 in
theorem stringslite_HasSuffix.calls (a0 : ByteArray) (a1 : ByteArray) (r : Bool) (w : World) (h : stringslite_HasSuffix.f a0 a1 = some r) :
    Calls Tryd.prog 169 #[.string a0, .string a1] w fun e w' => e = .returned (.bool r) ∧ Drawn0 w w' := by
  have H : (if (a0.size : Int) ≥ (a1.size : Int) then (if 0 ≤ (wrap64 ((a0.size : Int) - (a1.size : Int))) then (if (wrap64 ((a0.size : Int) - (a1.size : Int))) ≤ (a0.size : Int) then (some ((a0.extract ((wrap64 ((a0.size : Int) - (a1.size : Int))) : Int).toNat a0.size).toList == a1.toList)) else (none)) else (none)) else (some false)) = some r := h
  clear h
  by_cases c3 : (a0.size : Int) ≥ (a1.size : Int)
  · rw [if_pos c3] at H
    have c3b0 : decide ((a1.size : Int) ≤ (a0.size : Int)) = true := decide_eq_true c3
    have c3b1 : decide (a1.size ≤ a0.size) = true := decide_eq_true (Int.ofNat_le.mp c3)
    clear c3
    obtain ⟨ji4, hji4⟩ : ∃ j_ : Int, (wrap64 ((a0.size : Int) - (a1.size : Int))) = j_ := ⟨_, rfl⟩
    replace H : (if 0 ≤ (ji4) then (if (ji4) ≤ (a0.size : Int) then (some ((a0.extract ((ji4) : Int).toNat a0.size).toList == a1.toList)) else (none)) else (none)) = some r := by first | (rw [hji4] at H; exact H) | (simp only [hji4] at H ⊢; exact H)
    have hji4w : (IntKind.i64.wrap ((a0.size : Int) - (a1.size : Int))) = ji4 := (i64_w _).trans hji4
    by_cases c5 : 0 ≤ (ji4)
    · rw [if_pos c5] at H
      have c5b0 := eq_true c5
      have c5b1 : decide (0 ≤ (ji4)) = true := decide_eq_true c5
      clear c5
      by_cases c6 : (ji4) ≤ (a0.size : Int)
      · rw [if_pos c6] at H
        have c6b0 := eq_true c6
        have c6b1 : decide ((ji4) ≤ (a0.size : Int)) = true := decide_eq_true c6
        clear c6
        obtain rfl := Option.some.inj H
        go_enter Tryd.func169, Tryd.ntmps169
        go_wp2
        go_ret
        exact ⟨by first | rfl | (simp; done) | (simp only [← hji4] <;> (first | rfl | simp)) | (simp [*]; done), by repeat (first | exact Drawn0.refl _ | apply Drawn0.step)⟩
      · rw [if_neg c6] at H
        exact absurd H (by simp)
    · rw [if_neg c5] at H
      exact absurd H (by simp)
  · rw [if_neg c3] at H
    have c3b0 : decide ((a1.size : Int) ≤ (a0.size : Int)) = false := decide_eq_false c3
    have c3b1 : decide (a1.size ≤ a0.size) = false := decide_eq_false (fun h => c3 (Int.ofNat_le.mpr h))
    clear c3
    obtain rfl := Option.some.inj H
    go_enter Tryd.func169, Tryd.ntmps169
    go_wp2
    go_ret
    exact ⟨by first | rfl | (simp; done) | (simp [*]; done), by repeat (first | exact Drawn0.refl _ | apply Drawn0.step)⟩

set_option linter.unusedVariables false
set_option linter.unusedSimpArgs false

/-! ### stringslite_TrimSuffix: function 158 -/
def stringslite_TrimSuffix.f (a0 : ByteArray) (a1 : ByteArray) : Option (ByteArray) := (stringslite_HasSuffix.f a0 a1).bind fun t515 => (if t515 = true then (if 0 ≤ (wrap64 ((a0.size : Int) - (a1.size : Int))) then (if (wrap64 ((a0.size : Int) - (a1.size : Int))) ≤ (a0.size : Int) then (some (a0.extract 0 ((wrap64 ((a0.size : Int) - (a1.size : Int))) : Int).toNat)) else (none)) else (none)) else (some a0))
set_option maxHeartbeats 8000000 in
set_option maxRecDepth 100000 in
theorem stringslite_TrimSuffix.calls (a0 : ByteArray) (a1 : ByteArray) (r : ByteArray) (w : World) (h : stringslite_TrimSuffix.f a0 a1 = some r) :
    Calls Tryd.prog 158 #[.string a0, .string a1] w fun e w' => e = .returned (.string r) ∧ Drawn0 w w' := by
  have H : ((stringslite_HasSuffix.f a0 a1).bind fun t515 => (if t515 = true then (if 0 ≤ (wrap64 ((a0.size : Int) - (a1.size : Int))) then (if (wrap64 ((a0.size : Int) - (a1.size : Int))) ≤ (a0.size : Int) then (some (a0.extract 0 ((wrap64 ((a0.size : Int) - (a1.size : Int))) : Int).toNat)) else (none)) else (none)) else (some a0))) = some r := h
  clear h
  replace H := Option.bind_eq_some_iff.mp H
  obtain ⟨t515, A30, H⟩ := H
  replace H : (if t515 = true then (if 0 ≤ (wrap64 ((a0.size : Int) - (a1.size : Int))) then (if (wrap64 ((a0.size : Int) - (a1.size : Int))) ≤ (a0.size : Int) then (some (a0.extract 0 ((wrap64 ((a0.size : Int) - (a1.size : Int))) : Int).toNat)) else (none)) else (none)) else (some a0)) = some r := H
  have A3 := Aside0.mk A30
  clear A30
  by_cases c4 : t515 = true
  · subst c4
    have H1 : (if 0 ≤ (wrap64 ((a0.size : Int) - (a1.size : Int))) then (if (wrap64 ((a0.size : Int) - (a1.size : Int))) ≤ (a0.size : Int) then (some (a0.extract 0 ((wrap64 ((a0.size : Int) - (a1.size : Int))) : Int).toNat)) else (none)) else (none)) = some r := by rw [if_pos rfl] at H; exact H
    clear H
    have H := H1
    clear H1
    obtain ⟨ji5, hji5⟩ : ∃ j_ : Int, (wrap64 ((a0.size : Int) - (a1.size : Int))) = j_ := ⟨_, rfl⟩
    replace H : (if 0 ≤ (ji5) then (if (ji5) ≤ (a0.size : Int) then (some (a0.extract 0 ((ji5) : Int).toNat)) else (none)) else (none)) = some r := by first | (rw [hji5] at H; exact H) | (simp only [hji5] at H ⊢; exact H)
    (try rw [hji5] at A3)
    have hji5w : (IntKind.i64.wrap ((a0.size : Int) - (a1.size : Int))) = ji5 := (i64_w _).trans hji5
    by_cases c6 : 0 ≤ (ji5)
    · rw [if_pos c6] at H
      have c6b0 := eq_true c6
      have c6b1 : decide (0 ≤ (ji5)) = true := decide_eq_true c6
      clear c6
      by_cases c7 : (ji5) ≤ (a0.size : Int)
      · rw [if_pos c7] at H
        have c7b0 := eq_true c7
        have c7b1 : decide ((ji5) ≤ (a0.size : Int)) = true := decide_eq_true c7
        clear c7
        obtain rfl := Option.some.inj H
        go_enter Tryd.func158, Tryd.ntmps158
        go_wp2_with (first | ((with_reducible refine gate_callee (f := 169) rfl ?_); refine goesL_ (some 7) rfl rfl Tryd.func169 (by kernel_rfl) rfl #[.string a0, .string a1] rfl Ag ?_; (with_reducible refine (stringslite_HasSuffix.calls a0 a1 true _ A3.out).mono ?_); rintro e w' ⟨rfl, ⟨nd, rfl⟩⟩; refine ⟨_, rfl, ?_⟩))
        go_ret
        exact ⟨by first | rfl | (simp; done) | (simp only [← hji5] <;> (first | rfl | simp)) | (simp [*]; done), by repeat (first | exact Drawn0.refl _ | apply Drawn0.step)⟩
      · rw [if_neg c7] at H
        exact absurd H (by simp)
    · rw [if_neg c6] at H
      exact absurd H (by simp)
  · replace c4 := Bool.eq_false_iff.mpr c4
    subst c4
    have H1 : (some a0) = some r := by rw [if_neg (show ¬ (false = true) by decide)] at H; exact H
    clear H
    have H := H1
    clear H1
    obtain rfl := Option.some.inj H
    go_enter Tryd.func158, Tryd.ntmps158
    go_wp2_with (first | ((with_reducible refine gate_callee (f := 169) rfl ?_); refine goesL_ (some 7) rfl rfl Tryd.func169 (by kernel_rfl) rfl #[.string a0, .string a1] rfl Ag ?_; (with_reducible refine (stringslite_HasSuffix.calls a0 a1 false _ A3.out).mono ?_); rintro e w' ⟨rfl, ⟨nd, rfl⟩⟩; refine ⟨_, rfl, ?_⟩))
    go_ret
    exact ⟨by first | rfl | (simp; done) | (simp [*]; done), by repeat (first | exact Drawn0.refl _ | apply Drawn0.step)⟩

set_option linter.unusedVariables false
set_option linter.unusedSimpArgs false

/-! ### strings_TrimSuffix: function 131 -/
def strings_TrimSuffix.f (a0 : ByteArray) (a1 : ByteArray) : Option (ByteArray) := (stringslite_TrimSuffix.f a0 a1).bind fun t516 => (some t516)
set_option maxHeartbeats 8000000 in
set_option maxRecDepth 100000 in
theorem strings_TrimSuffix.calls (a0 : ByteArray) (a1 : ByteArray) (r : ByteArray) (w : World) (h : strings_TrimSuffix.f a0 a1 = some r) :
    Calls Tryd.prog 131 #[.string a0, .string a1] w fun e w' => e = .returned (.string r) ∧ Drawn0 w w' := by
  have H : ((stringslite_TrimSuffix.f a0 a1).bind fun t516 => (some t516)) = some r := h
  clear h
  replace H := Option.bind_eq_some_iff.mp H
  obtain ⟨t516, A30, H⟩ := H
  replace H : (some t516) = some r := H
  have A3 := Aside0.mk A30
  clear A30
  obtain rfl := Option.some.inj H
  go_enter Tryd.func131, Tryd.ntmps131
  go_wp2_with (first | ((with_reducible refine gate_callee (f := 158) rfl ?_); refine goesL_ (some 7) rfl rfl Tryd.func158 (by kernel_rfl) rfl #[.string a0, .string a1] rfl Ag ?_; (with_reducible refine (stringslite_TrimSuffix.calls a0 a1 t516 _ A3.out).mono ?_); rintro e w' ⟨rfl, ⟨nd, rfl⟩⟩; refine ⟨_, rfl, ?_⟩))
  go_ret
  exact ⟨by first | rfl | (simp; done) | (simp [*]; done), by repeat (first | exact Drawn0.refl _ | apply Drawn0.step)⟩

set_option linter.unusedVariables false
set_option linter.unusedSimpArgs false

/-! ### impl_Norm: function 89 -/
mutual
def impl_Norm.j0 : Nat → ByteArray → Bool → Option (ByteArray)
  | 0, _, _ => none
  | k + 1, x0, x13 => if x13 = true then (some (⟨#[]⟩ : ByteArray)) else (impl_Norm.l0 k x0 (([] : List Int)) (x0.size : Int) 0)
def impl_Norm.l0 : Nat → ByteArray → List Int → Int → Int → Option (ByteArray)
  | 0, _, _, _, _ => none
  | k + 1, x0, x3, x16, x17 => if x17 < x16 then (if 0 ≤ x17 then (if x17 < (x0.size : Int) then (if (bt x0 x17) ≥ 65 then (impl_Norm.j2 k x0 x3 (bt x0 x17) x16 x17 (decide ((bt x0 x17) ≤ 90))) else (impl_Norm.j2 k x0 x3 (bt x0 x17) x16 x17 false)) else (none)) else (none)) else ((strings_TrimSuffix.f (strOfNums x3) (⟨#[32]⟩ : ByteArray)).bind fun t521 => (some t521))
def impl_Norm.j2 : Nat → ByteArray → List Int → Int → Int → Int → Bool → Option (ByteArray)
  | 0, _, _, _, _, _, _ => none
  | k + 1, x0, x3, x5, x16, x17, x28 => if x28 = true then (if ((x5 + 32) % 256) = 32 then (if (x3.length : Int) > 0 then (if 0 ≤ (wrap64 ((x3.length : Int) - 1)) then (if (wrap64 ((x3.length : Int) - 1)) < (x3.length : Int) then (if (rd x3 (wrap64 ((x3.length : Int) - 1))) = 32 then (impl_Norm.l0 k x0 x3 x16 (wrap64 (x17 + 1))) else (if x3.length < 140737488355328 then (impl_Norm.l0 k x0 (x3 ++ [(x5 + 32) % 256]) x16 (wrap64 (x17 + 1))) else (none))) else (none)) else (none)) else (impl_Norm.l0 k x0 x3 x16 (wrap64 (x17 + 1)))) else (if x3.length < 140737488355328 then (impl_Norm.l0 k x0 (x3 ++ [(x5 + 32) % 256]) x16 (wrap64 (x17 + 1))) else (none))) else (if x5 = 32 then (if (x3.length : Int) > 0 then (if 0 ≤ (wrap64 ((x3.length : Int) - 1)) then (if (wrap64 ((x3.length : Int) - 1)) < (x3.length : Int) then (if (rd x3 (wrap64 ((x3.length : Int) - 1))) = 32 then (impl_Norm.l0 k x0 x3 x16 (wrap64 (x17 + 1))) else (if x3.length < 140737488355328 then (impl_Norm.l0 k x0 (x3 ++ [x5]) x16 (wrap64 (x17 + 1))) else (none))) else (none)) else (none)) else (impl_Norm.l0 k x0 x3 x16 (wrap64 (x17 + 1)))) else (if x3.length < 140737488355328 then (impl_Norm.l0 k x0 (x3 ++ [x5]) x16 (wrap64 (x17 + 1))) else (none)))
end
def impl_Norm.f (k : Nat) (a0 : ByteArray) : Option (ByteArray) := if (a0.size : Int) > 100 then (impl_Norm.j0 k a0 true) else ((impl_isPrintable.f k a0).bind fun t517 => (impl_Norm.j0 k a0 (!t517)))
theorem impl_Norm.mono_l : ∀ k, (∀ y0 y1, LeO (impl_Norm.j0 k y0 y1) (impl_Norm.j0 (k + 1) y0 y1)) ∧ (∀ y0 y1 y2 y3, LeO (impl_Norm.l0 k y0 y1 y2 y3) (impl_Norm.l0 (k + 1) y0 y1 y2 y3)) ∧ (∀ y0 y1 y2 y3 y4 y5, LeO (impl_Norm.j2 k y0 y1 y2 y3 y4 y5) (impl_Norm.j2 (k + 1) y0 y1 y2 y3 y4 y5))
  | 0 => ⟨fun _ _ r h => by simp [impl_Norm.j0] at h, fun _ _ _ _ r h => by simp [impl_Norm.l0] at h, fun _ _ _ _ _ _ r h => by simp [impl_Norm.j2] at h⟩
  | k + 1 => by
    obtain ⟨ih0, ih1, ih2⟩ := impl_Norm.mono_l k
    refine ⟨?_, ?_, ?_⟩
    · intro y0 y1
      unfold impl_Norm.j0
      repeat' first
      | (with_reducible exact ih0 _ _)
      | (with_reducible exact ih1 _ _ _ _)
      | (with_reducible exact ih2 _ _ _ _ _ _)
      | (with_reducible exact impl_isPrintable.mono _ _)
      | (with_reducible exact LeO.refl _)
      | (with_reducible exact LeO.none _)
      | (with_reducible refine LeO.ite ?_ ?_)
      | (with_reducible refine LeO.bind ?_ (fun _ => ?_))
      | exact ih0 _ _
      | exact ih1 _ _ _ _
      | exact ih2 _ _ _ _ _ _
      | exact impl_isPrintable.mono _ _
      | exact LeO.none _
      | refine LeO.ite ?_ ?_
      | refine LeO.bind ?_ (fun _ => ?_)
    · intro y0 y1 y2 y3
      unfold impl_Norm.l0
      repeat' first
      | (with_reducible exact ih0 _ _)
      | (with_reducible exact ih1 _ _ _ _)
      | (with_reducible exact ih2 _ _ _ _ _ _)
      | (with_reducible exact impl_isPrintable.mono _ _)
      | (with_reducible exact LeO.refl _)
      | (with_reducible exact LeO.none _)
      | (with_reducible refine LeO.ite ?_ ?_)
      | (with_reducible refine LeO.bind ?_ (fun _ => ?_))
      | exact ih0 _ _
      | exact ih1 _ _ _ _
      | exact ih2 _ _ _ _ _ _
      | exact impl_isPrintable.mono _ _
      | exact LeO.none _
      | refine LeO.ite ?_ ?_
      | refine LeO.bind ?_ (fun _ => ?_)
    · intro y0 y1 y2 y3 y4 y5
      unfold impl_Norm.j2
      repeat' first
      | (with_reducible exact ih0 _ _)
      | (with_reducible exact ih1 _ _ _ _)
      | (with_reducible exact ih2 _ _ _ _ _ _)
      | (with_reducible exact impl_isPrintable.mono _ _)
      | (with_reducible exact LeO.refl _)
      | (with_reducible exact LeO.none _)
      | (with_reducible refine LeO.ite ?_ ?_)
      | (with_reducible refine LeO.bind ?_ (fun _ => ?_))
      | exact ih0 _ _
      | exact ih1 _ _ _ _
      | exact ih2 _ _ _ _ _ _
      | exact impl_isPrintable.mono _ _
      | exact LeO.none _
      | refine LeO.ite ?_ ?_
      | refine LeO.bind ?_ (fun _ => ?_)
theorem impl_Norm.mono : ∀ a0 k, LeO (impl_Norm.f k a0) (impl_Norm.f (k + 1) a0) := by
  intro a0 k
  obtain ⟨ih0, ih1, ih2⟩ := impl_Norm.mono_l k
  unfold impl_Norm.f
  repeat' first
      | (with_reducible exact ih0 _ _)
      | (with_reducible exact ih1 _ _ _ _)
      | (with_reducible exact ih2 _ _ _ _ _ _)
      | (with_reducible exact impl_isPrintable.mono _ _)
      | (with_reducible exact LeO.refl _)
      | (with_reducible exact LeO.none _)
      | (with_reducible refine LeO.ite ?_ ?_)
      | (with_reducible refine LeO.bind ?_ (fun _ => ?_))
      | exact ih0 _ _
      | exact ih1 _ _ _ _
      | exact ih2 _ _ _ _ _ _
      | exact impl_isPrintable.mono _ _
      | exact LeO.none _
      | refine LeO.ite ?_ ?_
      | refine LeO.bind ?_ (fun _ => ?_)
set_option maxHeartbeats 8000000 in
set_option maxRecDepth 100000 in
theorem impl_Norm.calls (k : Nat) (a0 : ByteArray) (r : ByteArray) (w : World) (h : impl_Norm.f k a0 = some r) :
    Calls Tryd.prog 89 #[.string a0] w fun e w' => e = .returned (.string r) ∧ Below w.heap.size w w' := by
  have HB := Aside0.mk (Below.refl w.heap.size w)
  have H : (if (a0.size : Int) > 100 then (impl_Norm.j0 k a0 true) else ((impl_isPrintable.f k a0).bind fun t517 => (impl_Norm.j0 k a0 (!t517)))) = some r := h
  clear h
  have HC2 := Aside0.mk H
  clear H
  go_enter Tryd.func89, Tryd.ntmps89
  go_upto_region 1 with (fail)
  go_cut [13] (fun v13 wc => ∃ (kq : Nat) (x13_1 : Bool), v13 = .bool x13_1 ∧ Aside0 (impl_Norm.j0 kq a0 x13_1 = some r) ∧ Aside0 (kq ≤ k) ∧ Aside0 (Below w.heap.size w wc))
  case first =>
    have H := HC2.out
    clear HC2
    by_cases c3 : (a0.size : Int) > 100
    · rw [if_pos c3] at H
      have c3b0 : decide (100 < (a0.size : Int)) = true := decide_eq_true c3
      have c3b1 : decide (100 < a0.size) = true := decide_eq_true (by omega)
      clear c3
      (first | rw [c3b0] | (simp only [i64_w, i32_w]; rw [c3b0]) | skip)
      have H' := Aside0.mk H
      clear H
      go_wp2
      go_meet
      case rel => exact ⟨_, (true), (by first | rfl | (simp; done) | (simp [*]; done)), H', ⟨by first | omega | exact Nat.le_refl _⟩, ⟨By⟩⟩
    · rw [if_neg c3] at H
      have c3b0 : decide (100 < (a0.size : Int)) = false := decide_eq_false c3
      have c3b1 : decide (100 < a0.size) = false := decide_eq_false (by omega)
      clear c3
      (first | rw [c3b0] | (simp only [i64_w, i32_w]; rw [c3b0]) | skip)
      replace H := Option.bind_eq_some_iff.mp H
      obtain ⟨t517, A40, H⟩ := H
      replace H : (impl_Norm.j0 k a0 (!t517)) = some r := H
      have A4 := Aside0.mk A40
      clear A40
      have H' := Aside0.mk H
      clear H
      go_wp2_with (first | (go_at_call 130; (with_reducible refine (impl_isPrintable.calls k a0 t517 _ A4.out).mono ?_); rintro e w' ⟨rfl, ⟨nd, rfl⟩⟩))
      go_meet
      case rel => exact ⟨_, (!t517), (by first | rfl | (simp; done) | (simp [*]; done)), H', ⟨by first | omega | exact Nat.le_refl _⟩, ⟨By⟩⟩
  case rest =>
    clear HC2
    try clear p2
    try clear c3
    try clear c3b0
    try clear c3b1
    obtain ⟨kq, x13_1, rfl, HA, HJ1, HB⟩ := hcut
    cases kq with
    | zero => exact absurd HA.out (by simp [impl_Norm.j0])
    | succ kj1 =>
      have H := HA.out
      clear HA
      simp only [impl_Norm.j0] at H
      by_cases c5 : x13_1 = true
      · subst c5
        have H1 : (some (⟨#[]⟩ : ByteArray)) = some r := by rw [if_pos rfl] at H; exact H
        clear H
        have H := H1
        clear H1
        obtain rfl := Option.some.inj H
        go_wp2
        go_ret
        exact ⟨Rf, By⟩
      · replace c5 := Bool.eq_false_iff.mpr c5
        subst c5
        have H1 : (impl_Norm.l0 kj1 a0 (([] : List Int)) (a0.size : Int) 0) = some r := by rw [if_neg (show ¬ (false = true) by decide)] at H; exact H
        clear H
        have H := H1
        clear H1
        obtain ⟨y518, hy518⟩ : ∃ y_ : List Int, y_ = (([] : List Int)) := ⟨_, rfl⟩
        replace H : (impl_Norm.l0 kj1 a0 y518 (a0.size : Int) 0) = some r := by first | (rw [hy518]; with_reducible exact H) | (have H2_ := (Option.bind_some _ _).symm.trans H; rw [hy518]; with_reducible exact H2_) | (have H2_ := (Option.bind_some _ _).symm.trans H; with_reducible exact H2_) | with_reducible exact H | (rw [hy518]; exact H) | exact H
        have Ny518 := Aside0.mk hy518
        clear hy518
        have H' := Aside0.mk H
        clear H
        go_wp2_with (first | ((with_reducible refine gate_dst (N := 14) rfl ?_); (try (refine gate_guard (by rfl) ?_; dsimp only)); refine Kd.R_lit (Kd.int .u8) _ 5 ?hg (N := 14) ?hd (xs := ([] : List Int)) (inner := []) (ok := fun _ => True) (okp := fun _ => True) ?hr ?hp (fun _ hk => hk) trivial (Below.refl _ _) (Nat.le_refl _) (by simp) ?_; (case hd => rfl); (case hg => rfl); (case hr => first | (go_simp; done) | (go_simp; rfl)); (case hp => exact (Reps.none _ _)); intro v519 w6 ho7 hb hg_ hnew_; clear hg_ hnew_; (first | rw [← Ny518.out] at ho7 | (simp only [Int.reduceToNat] at ho7; rw [← Ny518.out] at ho7)); have n0_ := Aside0.mk (Kd.R_lower ho7 (below_size By)); have n1_ := Aside0.mk (below_step By hb); clear HB; have HO520 := n0_; have HB := n1_; clear n0_ n1_; clear hb ho7))
        go_loopg [3, 17] kj1 (fun kq v3 v17 w' => ∃ (x3_2 : List Int) (x17_2 : Int), v17 = .int .i64 x17_2 ∧ Aside0 (impl_Norm.l0 kq a0 x3_2 (a0.size : Int) x17_2 = some r) ∧ Aside0 (kq ≤ kj1) ∧ Aside0 (Kd.R (Kd.int .u8) 5 w' w.heap.size (fun _ => True) v3 x3_2) ∧ Aside0 (Below w.heap.size w w'))
        case atStart => exact ⟨(y518), (0), (by first | rfl | (simp; done) | (simp [*]; done)), H', ⟨Nat.le_refl _⟩, ⟨by (with_reducible repeat (first | apply Kd.R_alloc | apply Kd.R_drewN | apply Kd.R_drew)); exact HO520.out⟩, ⟨By⟩⟩
        case round =>
          clear H'
          try clear p2
          try clear c3
          try clear c3b0
          try clear c3b1
          try clear c5
          try clear p2
          obtain ⟨x3_2, x17_2, rfl, HA, HK2, HO_3, HB⟩ := hrel
          cases gk with
          | zero => exact absurd HA.out (by simp [impl_Norm.l0])
          | succ k2 =>
            have H := HA.out
            clear HA
            simp only [impl_Norm.l0] at H
            by_cases c8 : x17_2 < (a0.size : Int)
            · rw [if_pos c8] at H
              have c8b0 : decide (x17_2 < (a0.size : Int)) = true := decide_eq_true c8
              clear c8
              by_cases c9 : 0 ≤ x17_2
              · rw [if_pos c9] at H
                have c9b0 : decide (0 ≤ x17_2) = true := decide_eq_true c9
                clear c9
                by_cases c10 : x17_2 < (a0.size : Int)
                · rw [if_pos c10] at H
                  have c10b0 : decide (x17_2 < (a0.size : Int)) = true := decide_eq_true c10
                  clear c10
                  have HC12 := Aside0.mk H
                  clear H
                  have p11 : 0 ≤ (x17_2 : Int) := of_decide_eq_true Da
                  have q11 : x17_2 < (a0.size : Int) := of_decide_eq_true Da
                  have hx11 := bt_at a0 x17_2
                  replace p11 := eq_true p11
                  replace q11 := eq_true q11
                  go_upto_region 8 with (fail)
                  go_cut [28] (fun v28 wc => ∃ (kq : Nat) (x28_11 : Bool), v28 = .bool x28_11 ∧ Aside0 (impl_Norm.j2 kq a0 x3_2 (bt a0 x17_2) (a0.size : Int) x17_2 x28_11 = some r) ∧ Aside0 (kq ≤ k2) ∧ Aside0 (Kd.R (Kd.int .u8) 5 wc w.heap.size (fun _ => True) u3 x3_2) ∧ Aside0 (Below w.heap.size w wc))
                  case first =>
                    have H := HC12.out
                    clear HC12
                    by_cases c13 : (bt a0 x17_2) ≥ 65
                    · rw [if_pos c13] at H
                      have c13b0 : decide (65 ≤ (bt a0 x17_2)) = true := decide_eq_true c13
                      clear c13
                      (first | rw [c13b0] | (simp only [i64_w, i32_w]; rw [c13b0]) | skip)
                      have H' := Aside0.mk H
                      clear H
                      go_wp2
                      go_meet
                      case rel => exact ⟨_, (decide ((bt a0 x17_2) ≤ 90)), (by first | rfl | (simp; done) | (simp [*]; done)), H', ⟨by have := HJ1.out; have := HK2.out; first | omega | exact Nat.le_refl _⟩, ⟨by (with_reducible repeat (first | apply Kd.R_alloc | apply Kd.R_drewN | apply Kd.R_drew)); exact HO_3.out⟩, ⟨By⟩⟩
                    · rw [if_neg c13] at H
                      have c13b0 : decide (65 ≤ (bt a0 x17_2)) = false := decide_eq_false c13
                      clear c13
                      (first | rw [c13b0] | (simp only [i64_w, i32_w]; rw [c13b0]) | skip)
                      have H' := Aside0.mk H
                      clear H
                      go_wp2
                      go_meet
                      case rel => exact ⟨_, (false), (by first | rfl | (simp; done) | (simp [*]; done)), H', ⟨by have := HJ1.out; have := HK2.out; first | omega | exact Nat.le_refl _⟩, ⟨by (with_reducible repeat (first | apply Kd.R_alloc | apply Kd.R_drewN | apply Kd.R_drew)); exact HO_3.out⟩, ⟨By⟩⟩
                  case rest =>
                    clear HC12
                    try clear c1
                    try clear p1
                    try clear q1
                    try clear hx1
                    try clear p2
                    try clear c3
                    try clear c3b0
                    try clear c3b1
                    try clear c5
                    try clear c8
                    try clear c8b0
                    try clear c9
                    try clear c9b0
                    try clear c10
                    try clear c10b0
                    try clear p11
                    try clear q11
                    try clear hx11
                    try clear c13
                    try clear c13b0
                    try clear p11
                    try clear p2
                    try clear q11
                    obtain ⟨kq, x28_11, rfl, HA, HJ11, HO_3, HB⟩ := hcut
                    cases kq with
                    | zero => exact absurd HA.out (by simp [impl_Norm.j2])
                    | succ kj11 =>
                      have H := HA.out
                      clear HA
                      simp only [impl_Norm.j2] at H
                      by_cases c14 : x28_11 = true
                      · subst c14
                        have H1 : (if (((bt a0 x17_2) + 32) % 256) = 32 then (if (x3_2.length : Int) > 0 then (if 0 ≤ (wrap64 ((x3_2.length : Int) - 1)) then (if (wrap64 ((x3_2.length : Int) - 1)) < (x3_2.length : Int) then (if (rd x3_2 (wrap64 ((x3_2.length : Int) - 1))) = 32 then (impl_Norm.l0 kj11 a0 x3_2 (a0.size : Int) (wrap64 (x17_2 + 1))) else (if x3_2.length < 140737488355328 then (impl_Norm.l0 kj11 a0 (x3_2 ++ [((bt a0 x17_2) + 32) % 256]) (a0.size : Int) (wrap64 (x17_2 + 1))) else (none))) else (none)) else (none)) else (impl_Norm.l0 kj11 a0 x3_2 (a0.size : Int) (wrap64 (x17_2 + 1)))) else (if x3_2.length < 140737488355328 then (impl_Norm.l0 kj11 a0 (x3_2 ++ [((bt a0 x17_2) + 32) % 256]) (a0.size : Int) (wrap64 (x17_2 + 1))) else (none))) = some r := by rw [if_pos rfl] at H; exact H
                        clear H
                        have H := H1
                        clear H1
                        by_cases c15 : (((bt a0 x17_2) + 32) % 256) = 32
                        · rw [if_pos c15] at H
                          have c15b0 : ((((bt a0 x17_2) + 32) % 256) == 32) = true := beq_iff_eq.mpr c15
                          have c15b1 : ((((bt a0 x17_2) + 32) % 256) != 32) = false := bne_eq_false_iff_eq.mpr c15
                          clear c15
                          by_cases c16 : (x3_2.length : Int) > 0
                          · rw [if_pos c16] at H
                            have c16b0 : decide (0 < (x3_2.length : Int)) = true := decide_eq_true c16
                            have c16b1 : decide (0 < x3_2.length) = true := decide_eq_true (by omega)
                            clear c16
                            obtain ⟨ji17, hji17⟩ : ∃ j_ : Int, (wrap64 ((x3_2.length : Int) - 1)) = j_ := ⟨_, rfl⟩
                            replace H : (if 0 ≤ (ji17) then (if (ji17) < (x3_2.length : Int) then (if (rd x3_2 (ji17)) = 32 then (impl_Norm.l0 kj11 a0 x3_2 (a0.size : Int) (wrap64 (x17_2 + 1))) else (if x3_2.length < 140737488355328 then (impl_Norm.l0 kj11 a0 (x3_2 ++ [((bt a0 x17_2) + 32) % 256]) (a0.size : Int) (wrap64 (x17_2 + 1))) else (none))) else (none)) else (none)) = some r := by first | (rw [hji17] at H; exact H) | (simp only [hji17] at H ⊢; exact H)
                            have hji17w : (IntKind.i64.wrap ((x3_2.length : Int) - 1)) = ji17 := (i64_w _).trans hji17
                            by_cases c18 : 0 ≤ (ji17)
                            · rw [if_pos c18] at H
                              have c18b0 : decide (0 ≤ (ji17)) = true := decide_eq_true c18
                              clear c18
                              by_cases c19 : (ji17) < (x3_2.length : Int)
                              · rw [if_pos c19] at H
                                have c19b0 : decide ((ji17) < (x3_2.length : Int)) = true := decide_eq_true c19
                                clear c19
                                by_cases c20 : (rd x3_2 (ji17)) = 32
                                · rw [if_pos c20] at H
                                  have c20b0 : ((rd x3_2 (ji17)) == 32) = true := beq_iff_eq.mpr c20
                                  have c20b1 : ((rd x3_2 (ji17)) != 32) = false := bne_eq_false_iff_eq.mpr c20
                                  clear c20
                                  have H' := Aside0.mk H
                                  clear H
                                  obtain ⟨Ao21, co21, eo21⟩ := Kd.R_slice HO_3.out
                                  subst eo21
                                  have p522 : 0 ≤ ((ji17) : Int) := of_decide_eq_true Da
                                  have q522 : (ji17) < (x3_2.length : Int) := of_decide_eq_true Da
                                  obtain ⟨ad522, e522, hx522_0⟩ := Kd.at_int (Kd.R_reads' HO_3.out).2.2 (ji17) p522 q522
                                  cases e522
                                  replace p522 := eq_true p522
                                  replace q522 := eq_true q522
                                  go_wp2
                                  go_roundg kj11
                                  case measure => have := HJ1.out; have := HK2.out; have := HJ11.out; omega
                                  case rel => exact ⟨(x3_2), (wrap64 (x17_2 + 1)), (by first | rfl | (simp; done) | (simp [*]; done)), H', ⟨by have := HJ1.out; have := HK2.out; have := HJ11.out; omega⟩, ⟨by (with_reducible repeat (first | apply Kd.R_alloc | apply Kd.R_drewN | apply Kd.R_drew)); exact HO_3.out⟩, ⟨By⟩⟩
                                · rw [if_neg c20] at H
                                  have c20b0 : ((rd x3_2 (ji17)) == 32) = false := beq_eq_false_iff_ne.mpr c20
                                  have c20b1 : ((rd x3_2 (ji17)) != 32) = true := bne_iff_ne.mpr c20
                                  by_cases c22 : x3_2.length < 140737488355328
                                  · rw [if_pos c22] at H
                                    have LMc22 := Aside0.mk c22
                                    clear c22
                                    obtain ⟨y523, hy523⟩ : ∃ y_ : List Int, y_ = (x3_2 ++ [((bt a0 x17_2) + 32) % 256]) := ⟨_, rfl⟩
                                    replace H : (impl_Norm.l0 kj11 a0 y523 (a0.size : Int) (wrap64 (x17_2 + 1))) = some r := by first | (rw [hy523]; with_reducible exact H) | (have H2_ := (Option.bind_some _ _).symm.trans H; rw [hy523]; with_reducible exact H2_) | (have H2_ := (Option.bind_some _ _).symm.trans H; with_reducible exact H2_) | with_reducible exact H | (rw [hy523]; exact H) | exact H
                                    have Ny523 := Aside0.mk hy523
                                    clear hy523
                                    have H' := Aside0.mk H
                                    clear H
                                    obtain ⟨Ao23, co23, eo23⟩ := Kd.R_slice HO_3.out
                                    subst eo23
                                    have p522 : 0 ≤ ((ji17) : Int) := of_decide_eq_true Da
                                    have q522 : (ji17) < (x3_2.length : Int) := of_decide_eq_true Da
                                    obtain ⟨ad522, e522, hx522_0⟩ := Kd.at_int (Kd.R_reads' HO_3.out).2.2 (ji17) p522 q522
                                    cases e522
                                    replace p522 := eq_true p522
                                    replace q522 := eq_true q522
                                    go_wp2_with (first | ((with_reducible refine gate_builtin (b := .append) (xs := #[.tmp 47, .tmp 49]) rfl ?_); (try (refine gate_guard (by rfl) ?_; dsimp only)); at_builtin; refine Kd.R_append (Kd.int .u8) (w0 := w) w.heap.size rfl (.tmp 47) (.tmp 49) 159 5 (.int .u8 0) 1 rfl Tryd.underlying159 info5 rfl (by decide) (by omega) (.slice (some ad522) x3_2.length co23) x3_2 (((bt a0 x17_2) + 32) % 256) [.int .u8 (((bt a0 x17_2) + 32) % 256)] (fun _ => True) (fun _ => False) rfl rfl ?aP (fun _ hk => hk.elim) ?aF ?aO ?aB ?aS ?aL ?_; (case aP => exact rfl); (case aB => exact By); (case aF => exact (fun _ _ => trivial)); (case aO => exact (rR HO_3.out)); (case aS => exact (below_size By)); (case aL => have := LMc22.out; omega); intro v524 w24 ho hb hg hat; rw [← Ny523.out] at ho; have n0_ := Aside0.mk (hb); have n1_ := Aside0.mk (ho); clear HB; clear HO_3; have HB := n0_; have HO525 := n1_; clear n0_ n1_; clear ho hb hg hat))
                                    go_roundg kj11
                                    case measure => have := HJ1.out; have := HK2.out; have := HJ11.out; omega
                                    case rel => exact ⟨(y523), (wrap64 (x17_2 + 1)), (by first | rfl | (simp; done) | (simp [*]; done)), H', ⟨by have := HJ1.out; have := HK2.out; have := HJ11.out; omega⟩, ⟨by (with_reducible repeat (first | apply Kd.R_alloc | apply Kd.R_drewN | apply Kd.R_drew)); exact HO525.out⟩, ⟨By⟩⟩
                                  · rw [if_neg c22] at H
                                    exact absurd H (by simp)
                              · rw [if_neg c19] at H
                                exact absurd H (by simp)
                            · rw [if_neg c18] at H
                              exact absurd H (by simp)
                          · rw [if_neg c16] at H
                            have c16b0 : decide (0 < (x3_2.length : Int)) = false := decide_eq_false c16
                            have c16b1 : decide (0 < x3_2.length) = false := decide_eq_false (by omega)
                            clear c16
                            have H' := Aside0.mk H
                            clear H
                            obtain ⟨Ao25, co25, eo25⟩ := Kd.R_slice HO_3.out
                            subst eo25
                            go_wp2
                            go_roundg kj11
                            case measure => have := HJ1.out; have := HK2.out; have := HJ11.out; omega
                            case rel => exact ⟨(x3_2), (wrap64 (x17_2 + 1)), (by first | rfl | (simp; done) | (simp [*]; done)), H', ⟨by have := HJ1.out; have := HK2.out; have := HJ11.out; omega⟩, ⟨by (with_reducible repeat (first | apply Kd.R_alloc | apply Kd.R_drewN | apply Kd.R_drew)); exact HO_3.out⟩, ⟨By⟩⟩
                        · rw [if_neg c15] at H
                          have c15b0 : ((((bt a0 x17_2) + 32) % 256) == 32) = false := beq_eq_false_iff_ne.mpr c15
                          have c15b1 : ((((bt a0 x17_2) + 32) % 256) != 32) = true := bne_iff_ne.mpr c15
                          by_cases c26 : x3_2.length < 140737488355328
                          · rw [if_pos c26] at H
                            have LMc26 := Aside0.mk c26
                            clear c26
                            obtain ⟨y526, hy526⟩ : ∃ y_ : List Int, y_ = (x3_2 ++ [((bt a0 x17_2) + 32) % 256]) := ⟨_, rfl⟩
                            replace H : (impl_Norm.l0 kj11 a0 y526 (a0.size : Int) (wrap64 (x17_2 + 1))) = some r := by first | (rw [hy526]; with_reducible exact H) | (have H2_ := (Option.bind_some _ _).symm.trans H; rw [hy526]; with_reducible exact H2_) | (have H2_ := (Option.bind_some _ _).symm.trans H; with_reducible exact H2_) | with_reducible exact H | (rw [hy526]; exact H) | exact H
                            have Ny526 := Aside0.mk hy526
                            clear hy526
                            have H' := Aside0.mk H
                            clear H
                            go_wp2_with (first | ((with_reducible refine gate_builtin (b := .append) (xs := #[.tmp 47, .tmp 49]) rfl ?_); (try (refine gate_guard (by rfl) ?_; dsimp only)); at_builtin; refine Kd.R_append (Kd.int .u8) (w0 := w) w.heap.size rfl (.tmp 47) (.tmp 49) 159 5 (.int .u8 0) 1 rfl Tryd.underlying159 info5 rfl (by decide) (by omega) u3 x3_2 (((bt a0 x17_2) + 32) % 256) [.int .u8 (((bt a0 x17_2) + 32) % 256)] (fun _ => True) (fun _ => False) rfl rfl ?aP (fun _ hk => hk.elim) ?aF ?aO ?aB ?aS ?aL ?_; (case aP => exact rfl); (case aB => exact By); (case aF => exact (fun _ _ => trivial)); (case aO => exact (rR HO_3.out)); (case aS => exact (below_size By)); (case aL => have := LMc26.out; omega); intro v527 w27 ho hb hg hat; rw [← Ny526.out] at ho; have n0_ := Aside0.mk (hb); have n1_ := Aside0.mk (ho); clear HB; clear HO_3; have HB := n0_; have HO528 := n1_; clear n0_ n1_; clear ho hb hg hat))
                            go_roundg kj11
                            case measure => have := HJ1.out; have := HK2.out; have := HJ11.out; omega
                            case rel => exact ⟨(y526), (wrap64 (x17_2 + 1)), (by first | rfl | (simp; done) | (simp [*]; done)), H', ⟨by have := HJ1.out; have := HK2.out; have := HJ11.out; omega⟩, ⟨by (with_reducible repeat (first | apply Kd.R_alloc | apply Kd.R_drewN | apply Kd.R_drew)); exact HO528.out⟩, ⟨By⟩⟩
                          · rw [if_neg c26] at H
                            exact absurd H (by simp)
                      · replace c14 := Bool.eq_false_iff.mpr c14
                        subst c14
                        have H1 : (if (bt a0 x17_2) = 32 then (if (x3_2.length : Int) > 0 then (if 0 ≤ (wrap64 ((x3_2.length : Int) - 1)) then (if (wrap64 ((x3_2.length : Int) - 1)) < (x3_2.length : Int) then (if (rd x3_2 (wrap64 ((x3_2.length : Int) - 1))) = 32 then (impl_Norm.l0 kj11 a0 x3_2 (a0.size : Int) (wrap64 (x17_2 + 1))) else (if x3_2.length < 140737488355328 then (impl_Norm.l0 kj11 a0 (x3_2 ++ [(bt a0 x17_2)]) (a0.size : Int) (wrap64 (x17_2 + 1))) else (none))) else (none)) else (none)) else (impl_Norm.l0 kj11 a0 x3_2 (a0.size : Int) (wrap64 (x17_2 + 1)))) else (if x3_2.length < 140737488355328 then (impl_Norm.l0 kj11 a0 (x3_2 ++ [(bt a0 x17_2)]) (a0.size : Int) (wrap64 (x17_2 + 1))) else (none))) = some r := by rw [if_neg (show ¬ (false = true) by decide)] at H; exact H
                        clear H
                        have H := H1
                        clear H1
                        by_cases c28 : (bt a0 x17_2) = 32
                        · rw [if_pos c28] at H
                          have c28b0 : ((bt a0 x17_2) == 32) = true := beq_iff_eq.mpr c28
                          have c28b1 : ((bt a0 x17_2) != 32) = false := bne_eq_false_iff_eq.mpr c28
                          clear c28
                          by_cases c29 : (x3_2.length : Int) > 0
                          · rw [if_pos c29] at H
                            have c29b0 : decide (0 < (x3_2.length : Int)) = true := decide_eq_true c29
                            have c29b1 : decide (0 < x3_2.length) = true := decide_eq_true (by omega)
                            clear c29
                            obtain ⟨ji30, hji30⟩ : ∃ j_ : Int, (wrap64 ((x3_2.length : Int) - 1)) = j_ := ⟨_, rfl⟩
                            replace H : (if 0 ≤ (ji30) then (if (ji30) < (x3_2.length : Int) then (if (rd x3_2 (ji30)) = 32 then (impl_Norm.l0 kj11 a0 x3_2 (a0.size : Int) (wrap64 (x17_2 + 1))) else (if x3_2.length < 140737488355328 then (impl_Norm.l0 kj11 a0 (x3_2 ++ [(bt a0 x17_2)]) (a0.size : Int) (wrap64 (x17_2 + 1))) else (none))) else (none)) else (none)) = some r := by first | (rw [hji30] at H; exact H) | (simp only [hji30] at H ⊢; exact H)
                            have hji30w : (IntKind.i64.wrap ((x3_2.length : Int) - 1)) = ji30 := (i64_w _).trans hji30
                            by_cases c31 : 0 ≤ (ji30)
                            · rw [if_pos c31] at H
                              have c31b0 : decide (0 ≤ (ji30)) = true := decide_eq_true c31
                              clear c31
                              by_cases c32 : (ji30) < (x3_2.length : Int)
                              · rw [if_pos c32] at H
                                have c32b0 : decide ((ji30) < (x3_2.length : Int)) = true := decide_eq_true c32
                                clear c32
                                by_cases c33 : (rd x3_2 (ji30)) = 32
                                · rw [if_pos c33] at H
                                  have c33b0 : ((rd x3_2 (ji30)) == 32) = true := beq_iff_eq.mpr c33
                                  have c33b1 : ((rd x3_2 (ji30)) != 32) = false := bne_eq_false_iff_eq.mpr c33
                                  clear c33
                                  have H' := Aside0.mk H
                                  clear H
                                  obtain ⟨Ao34, co34, eo34⟩ := Kd.R_slice HO_3.out
                                  subst eo34
                                  have p529 : 0 ≤ ((ji30) : Int) := of_decide_eq_true Da
                                  have q529 : (ji30) < (x3_2.length : Int) := of_decide_eq_true Da
                                  obtain ⟨ad529, e529, hx529_0⟩ := Kd.at_int (Kd.R_reads' HO_3.out).2.2 (ji30) p529 q529
                                  cases e529
                                  replace p529 := eq_true p529
                                  replace q529 := eq_true q529
                                  go_wp2
                                  go_roundg kj11
                                  case measure => have := HJ1.out; have := HK2.out; have := HJ11.out; omega
                                  case rel => exact ⟨(x3_2), (wrap64 (x17_2 + 1)), (by first | rfl | (simp; done) | (simp [*]; done)), H', ⟨by have := HJ1.out; have := HK2.out; have := HJ11.out; omega⟩, ⟨by (with_reducible repeat (first | apply Kd.R_alloc | apply Kd.R_drewN | apply Kd.R_drew)); exact HO_3.out⟩, ⟨By⟩⟩
                                · rw [if_neg c33] at H
                                  have c33b0 : ((rd x3_2 (ji30)) == 32) = false := beq_eq_false_iff_ne.mpr c33
                                  have c33b1 : ((rd x3_2 (ji30)) != 32) = true := bne_iff_ne.mpr c33
                                  by_cases c35 : x3_2.length < 140737488355328
                                  · rw [if_pos c35] at H
                                    have LMc35 := Aside0.mk c35
                                    clear c35
                                    obtain ⟨y530, hy530⟩ : ∃ y_ : List Int, y_ = (x3_2 ++ [(bt a0 x17_2)]) := ⟨_, rfl⟩
                                    replace H : (impl_Norm.l0 kj11 a0 y530 (a0.size : Int) (wrap64 (x17_2 + 1))) = some r := by first | (rw [hy530]; with_reducible exact H) | (have H2_ := (Option.bind_some _ _).symm.trans H; rw [hy530]; with_reducible exact H2_) | (have H2_ := (Option.bind_some _ _).symm.trans H; with_reducible exact H2_) | with_reducible exact H | (rw [hy530]; exact H) | exact H
                                    have Ny530 := Aside0.mk hy530
                                    clear hy530
                                    have H' := Aside0.mk H
                                    clear H
                                    obtain ⟨Ao36, co36, eo36⟩ := Kd.R_slice HO_3.out
                                    subst eo36
                                    have p529 : 0 ≤ ((ji30) : Int) := of_decide_eq_true Da
                                    have q529 : (ji30) < (x3_2.length : Int) := of_decide_eq_true Da
                                    obtain ⟨ad529, e529, hx529_0⟩ := Kd.at_int (Kd.R_reads' HO_3.out).2.2 (ji30) p529 q529
                                    cases e529
                                    replace p529 := eq_true p529
                                    replace q529 := eq_true q529
                                    go_wp2_with (first | ((with_reducible refine gate_builtin (b := .append) (xs := #[.tmp 47, .tmp 49]) rfl ?_); (try (refine gate_guard (by rfl) ?_; dsimp only)); at_builtin; refine Kd.R_append (Kd.int .u8) (w0 := w) w.heap.size rfl (.tmp 47) (.tmp 49) 159 5 (.int .u8 0) 1 rfl Tryd.underlying159 info5 rfl (by decide) (by omega) (.slice (some ad529) x3_2.length co36) x3_2 (bt a0 x17_2) [.int .u8 (bt a0 x17_2)] (fun _ => True) (fun _ => False) rfl rfl ?aP (fun _ hk => hk.elim) ?aF ?aO ?aB ?aS ?aL ?_; (case aP => exact rfl); (case aB => exact By); (case aF => exact (fun _ _ => trivial)); (case aO => exact (rR HO_3.out)); (case aS => exact (below_size By)); (case aL => have := LMc35.out; omega); intro v531 w37 ho hb hg hat; rw [← Ny530.out] at ho; have n0_ := Aside0.mk (hb); have n1_ := Aside0.mk (ho); clear HB; clear HO_3; have HB := n0_; have HO532 := n1_; clear n0_ n1_; clear ho hb hg hat))
                                    go_roundg kj11
                                    case measure => have := HJ1.out; have := HK2.out; have := HJ11.out; omega
                                    case rel => exact ⟨(y530), (wrap64 (x17_2 + 1)), (by first | rfl | (simp; done) | (simp [*]; done)), H', ⟨by have := HJ1.out; have := HK2.out; have := HJ11.out; omega⟩, ⟨by (with_reducible repeat (first | apply Kd.R_alloc | apply Kd.R_drewN | apply Kd.R_drew)); exact HO532.out⟩, ⟨By⟩⟩
                                  · rw [if_neg c35] at H
                                    exact absurd H (by simp)
                              · rw [if_neg c32] at H
                                exact absurd H (by simp)
                            · rw [if_neg c31] at H
                              exact absurd H (by simp)
                          · rw [if_neg c29] at H
                            have c29b0 : decide (0 < (x3_2.length : Int)) = false := decide_eq_false c29
                            have c29b1 : decide (0 < x3_2.length) = false := decide_eq_false (by omega)
                            clear c29
                            have H' := Aside0.mk H
                            clear H
                            obtain ⟨Ao38, co38, eo38⟩ := Kd.R_slice HO_3.out
                            subst eo38
                            go_wp2
                            go_roundg kj11
                            case measure => have := HJ1.out; have := HK2.out; have := HJ11.out; omega
                            case rel => exact ⟨(x3_2), (wrap64 (x17_2 + 1)), (by first | rfl | (simp; done) | (simp [*]; done)), H', ⟨by have := HJ1.out; have := HK2.out; have := HJ11.out; omega⟩, ⟨by (with_reducible repeat (first | apply Kd.R_alloc | apply Kd.R_drewN | apply Kd.R_drew)); exact HO_3.out⟩, ⟨By⟩⟩
                        · rw [if_neg c28] at H
                          have c28b0 : ((bt a0 x17_2) == 32) = false := beq_eq_false_iff_ne.mpr c28
                          have c28b1 : ((bt a0 x17_2) != 32) = true := bne_iff_ne.mpr c28
                          by_cases c39 : x3_2.length < 140737488355328
                          · rw [if_pos c39] at H
                            have LMc39 := Aside0.mk c39
                            clear c39
                            obtain ⟨y533, hy533⟩ : ∃ y_ : List Int, y_ = (x3_2 ++ [(bt a0 x17_2)]) := ⟨_, rfl⟩
                            replace H : (impl_Norm.l0 kj11 a0 y533 (a0.size : Int) (wrap64 (x17_2 + 1))) = some r := by first | (rw [hy533]; with_reducible exact H) | (have H2_ := (Option.bind_some _ _).symm.trans H; rw [hy533]; with_reducible exact H2_) | (have H2_ := (Option.bind_some _ _).symm.trans H; with_reducible exact H2_) | with_reducible exact H | (rw [hy533]; exact H) | exact H
                            have Ny533 := Aside0.mk hy533
                            clear hy533
                            have H' := Aside0.mk H
                            clear H
                            go_wp2_with (first | ((with_reducible refine gate_builtin (b := .append) (xs := #[.tmp 47, .tmp 49]) rfl ?_); (try (refine gate_guard (by rfl) ?_; dsimp only)); at_builtin; refine Kd.R_append (Kd.int .u8) (w0 := w) w.heap.size rfl (.tmp 47) (.tmp 49) 159 5 (.int .u8 0) 1 rfl Tryd.underlying159 info5 rfl (by decide) (by omega) u3 x3_2 (bt a0 x17_2) [.int .u8 (bt a0 x17_2)] (fun _ => True) (fun _ => False) rfl rfl ?aP (fun _ hk => hk.elim) ?aF ?aO ?aB ?aS ?aL ?_; (case aP => exact rfl); (case aB => exact By); (case aF => exact (fun _ _ => trivial)); (case aO => exact (rR HO_3.out)); (case aS => exact (below_size By)); (case aL => have := LMc39.out; omega); intro v534 w40 ho hb hg hat; rw [← Ny533.out] at ho; have n0_ := Aside0.mk (hb); have n1_ := Aside0.mk (ho); clear HB; clear HO_3; have HB := n0_; have HO535 := n1_; clear n0_ n1_; clear ho hb hg hat))
                            go_roundg kj11
                            case measure => have := HJ1.out; have := HK2.out; have := HJ11.out; omega
                            case rel => exact ⟨(y533), (wrap64 (x17_2 + 1)), (by first | rfl | (simp; done) | (simp [*]; done)), H', ⟨by have := HJ1.out; have := HK2.out; have := HJ11.out; omega⟩, ⟨by (with_reducible repeat (first | apply Kd.R_alloc | apply Kd.R_drewN | apply Kd.R_drew)); exact HO535.out⟩, ⟨By⟩⟩
                          · rw [if_neg c39] at H
                            exact absurd H (by simp)
                · rw [if_neg c10] at H
                  exact absurd H (by simp)
              · rw [if_neg c9] at H
                exact absurd H (by simp)
            · rw [if_neg c8] at H
              have c8b0 : decide (x17_2 < (a0.size : Int)) = false := decide_eq_false c8
              clear c8
              replace H := Option.bind_eq_some_iff.mp H
              obtain ⟨t521, A410, H⟩ := H
              replace H : (some t521) = some r := H
              have A41 := Aside0.mk A410
              clear A410
              obtain rfl := Option.some.inj H
              have hcv42 := own_string (P := Tryd.prog) Tryd.underlying159 Tryd.underlying5 Tryd.underlying9 (Kd.own_of_R HO_3.out)
              go_wp2_with (first | ((with_reducible refine gate_callee (f := 131) rfl ?_); refine goesL_ (some 54) rfl rfl Tryd.func131 (by kernel_rfl) rfl #[.string (strOfNums x3_2), .string (⟨#[32]⟩ : ByteArray)] rfl Ag ?_; (with_reducible refine (strings_TrimSuffix.calls (strOfNums x3_2) (⟨#[32]⟩ : ByteArray) t521 _ A41.out).mono ?_); rintro e w' ⟨rfl, ⟨nd, rfl⟩⟩; refine ⟨_, rfl, ?_⟩))
              go_ret
              exact ⟨Rf, By⟩

set_option linter.unusedVariables false
set_option linter.unusedSimpArgs false

/-! ### impl_isProper: function 151 -/
def impl_isProper.f (k : Nat) (a0 : ByteArray) : Option (Bool) := if (a0.size : Int) ≥ 1 then (if (a0.size : Int) ≤ 40 then ((impl_Norm.f k a0).bind fun t536 => (some (t536.toList != ([] : List UInt8)))) else (some false)) else (some false)
theorem impl_isProper.mono : ∀ a0 k, LeO (impl_isProper.f k a0) (impl_isProper.f (k + 1) a0) := by
  intro a0 k
  unfold impl_isProper.f
  repeat' first
      | (with_reducible exact impl_Norm.mono _ _)
      | (with_reducible exact LeO.refl _)
      | (with_reducible exact LeO.none _)
      | (with_reducible refine LeO.ite ?_ ?_)
      | (with_reducible refine LeO.bind ?_ (fun _ => ?_))
      | exact impl_Norm.mono _ _
      | exact LeO.none _
      | refine LeO.ite ?_ ?_
      | refine LeO.bind ?_ (fun _ => ?_)
set_option maxHeartbeats 8000000 in
set_option maxRecDepth 100000 in
theorem impl_isProper.calls (k : Nat) (a0 : ByteArray) (r : Bool) (w : World) (h : impl_isProper.f k a0 = some r) :
    Calls Tryd.prog 151 #[.string a0] w fun e w' => e = .returned (.bool r) ∧ Below w.heap.size w w' := by
  have HB := Aside0.mk (Below.refl w.heap.size w)
  have H : (if (a0.size : Int) ≥ 1 then (if (a0.size : Int) ≤ 40 then ((impl_Norm.f k a0).bind fun t536 => (some (t536.toList != ([] : List UInt8)))) else (some false)) else (some false)) = some r := h
  clear h
  by_cases c2 : (a0.size : Int) ≥ 1
  · rw [if_pos c2] at H
    have c2b0 : decide (1 ≤ (a0.size : Int)) = true := decide_eq_true c2
    have c2b1 : decide (1 ≤ a0.size) = true := decide_eq_true (by omega)
    clear c2
    by_cases c3 : (a0.size : Int) ≤ 40
    · rw [if_pos c3] at H
      have c3b0 : decide ((a0.size : Int) ≤ 40) = true := decide_eq_true c3
      have c3b1 : decide (a0.size ≤ 40) = true := decide_eq_true (by omega)
      clear c3
      replace H := Option.bind_eq_some_iff.mp H
      obtain ⟨t536, A40, H⟩ := H
      replace H : (some (t536.toList != ([] : List UInt8))) = some r := H
      have A4 := Aside0.mk A40
      clear A40
      obtain rfl := Option.some.inj H
      go_enter Tryd.func151, Tryd.ntmps151
      go_wp2_with (first | (go_at_call 89; (with_reducible refine (impl_Norm.calls k a0 t536 _ A4.out).mono ?_); rintro e w5 ⟨rfl, hb⟩; have n0_ := Aside0.mk (below_step By hb); clear HB; have HB := n0_; clear n0_; (try clear hb); (try clear hb2); (try clear hk); (try clear hi)))
      go_ret
      exact ⟨Rf, By⟩
    · rw [if_neg c3] at H
      have c3b0 : decide ((a0.size : Int) ≤ 40) = false := decide_eq_false c3
      have c3b1 : decide (a0.size ≤ 40) = false := decide_eq_false (by omega)
      clear c3
      obtain rfl := Option.some.inj H
      go_enter Tryd.func151, Tryd.ntmps151
      go_wp2
      go_ret
      exact ⟨Rf, By⟩
  · rw [if_neg c2] at H
    have c2b0 : decide (1 ≤ (a0.size : Int)) = false := decide_eq_false c2
    have c2b1 : decide (1 ≤ a0.size) = false := decide_eq_false (by omega)
    clear c2
    obtain rfl := Option.some.inj H
    go_enter Tryd.func151, Tryd.ntmps151
    go_wp2
    go_ret
    exact ⟨Rf, By⟩

set_option linter.unusedVariables false
set_option linter.unusedSimpArgs false

/-! ### impl_isOptional: function 146 -/
def impl_isOptional.f (k : Nat) (a0 : ByteArray) : Option (Bool) := if a0.toList = ([] : List UInt8) then (some true) else ((impl_isProper.f k a0).bind fun t537 => (some t537))
theorem impl_isOptional.mono : ∀ a0 k, LeO (impl_isOptional.f k a0) (impl_isOptional.f (k + 1) a0) := by
  intro a0 k
  unfold impl_isOptional.f
  repeat' first
      | (with_reducible exact impl_isProper.mono _ _)
      | (with_reducible exact LeO.refl _)
      | (with_reducible exact LeO.none _)
      | (with_reducible refine LeO.ite ?_ ?_)
      | (with_reducible refine LeO.bind ?_ (fun _ => ?_))
      | exact impl_isProper.mono _ _
      | exact LeO.none _
      | refine LeO.ite ?_ ?_
      | refine LeO.bind ?_ (fun _ => ?_)
set_option maxHeartbeats 8000000 in
set_option maxRecDepth 100000 in
theorem impl_isOptional.calls (k : Nat) (a0 : ByteArray) (r : Bool) (w : World) (h : impl_isOptional.f k a0 = some r) :
    Calls Tryd.prog 146 #[.string a0] w fun e w' => e = .returned (.bool r) ∧ Below w.heap.size w w' := by
  have HB := Aside0.mk (Below.refl w.heap.size w)
  have H : (if a0.toList = ([] : List UInt8) then (some true) else ((impl_isProper.f k a0).bind fun t537 => (some t537))) = some r := h
  clear h
  by_cases c2 : a0.toList = ([] : List UInt8)
  · rw [if_pos c2] at H
    have c2b0 : (a0.toList == ([] : List UInt8)) = true := beq_iff_eq.mpr c2
    have c2b1 : (a0.toList != ([] : List UInt8)) = false := bne_eq_false_iff_eq.mpr c2
    clear c2
    obtain rfl := Option.some.inj H
    go_enter Tryd.func146, Tryd.ntmps146
    go_wp2
    go_ret
    exact ⟨Rf, By⟩
  · rw [if_neg c2] at H
    have c2b0 : (a0.toList == ([] : List UInt8)) = false := beq_eq_false_iff_ne.mpr c2
    have c2b1 : (a0.toList != ([] : List UInt8)) = true := bne_iff_ne.mpr c2
    replace H := Option.bind_eq_some_iff.mp H
    obtain ⟨t537, A30, H⟩ := H
    replace H : (some t537) = some r := H
    have A3 := Aside0.mk A30
    clear A30
    obtain rfl := Option.some.inj H
    go_enter Tryd.func146, Tryd.ntmps146
    go_wp2_with (first | (go_at_call 151; (with_reducible refine (impl_isProper.calls k a0 t537 _ A3.out).mono ?_); rintro e w4 ⟨rfl, hb⟩; have n0_ := Aside0.mk (below_step By hb); clear HB; have HB := n0_; clear n0_; (try clear hb); (try clear hb2); (try clear hk); (try clear hi)))
    go_ret
    exact ⟨Rf, By⟩

end Go.Proofs.YtpocoeghobdfiaaDoor.PG
