/-
  Valid expressions as trees, and what one comes to on an entry: plain Lean, no program in sight.
-/
import Derived.Test.YtpocoeghobdfiaaGreatDoorEEP4
import Derived.Test.YtpocoeghobdfiaaGreatDoorEEParts
import Derived.Test.YtpocoeghobdfiaaGreatDoorEEFind
import Derived.Test.YtpocoeghobdfiaaGreatDoorEECase
namespace Go.Proofs.YtpocoeghobdfiaaGreatDoor.PG
set_option linter.unusedSimpArgs false
set_option linter.unusedVariables false
open Go.RowKit Go.Proofs.YtpocoeghobdfiaaGreatDoorW.PrintWords Go.Proofs.YtpocoeghobdfiaaGreatDoorW.PrintLast Go.Proofs.YtpocoeghobdfiaaGreatDoorW.PrintMore Go.Proofs.YtpocoeghobdfiaaGreatDoor.Gn Go.Proofs.YtpocoeghobdfiaaGreatDoor.Sem

def partP (p : S70) : Bool := partB p.f0 p.f1 p.f2
/-- The expression at a list's beginning, and what is behind it. -/
inductive Wf : List S70 → List S70 → Prop
  | nul (p : S70) (r : List S70) : partP p = true → arOp p.f0 = 0 → Wf (p :: r) r
  | un (p : S70) (r r1 : List S70) : partP p = true → arOp p.f0 = 1 → Wf r r1 → Wf (p :: r) r1
  | bin (p : S70) (r r1 r2 : List S70) : partP p = true → arOp p.f0 = 2 → Wf r r1 → Wf r1 r2 → Wf (p :: r) r2
def Wfs : Nat → List S70 → List S70 → Prop
  | 0, r, s => s = r
  | n + 1, r, s => ∃ r1, Wf r r1 ∧ Wfs n r1 s
def DepthOk (x : List S70) (m : Int) : Prop := m = 0 ∨ ∃ j : Nat, m = j ∧ 1 ≤ j ∧ j ≤ x.length ∧ Wf x (x.drop j)
theorem depth_loop (k : Nat) (hf : ∀ k', k' < k → ∀ x m d, x.length ≤ 1000 → impl_exprDepth.f k' x = some (m, d) → DepthOk x m) : ∀ (k' : Nat), k' ≤ k → ∀ (x : List S70) (a n i : Nat) (dp : Int) (m d : Int), x.length ≤ 1000 → a ≤ x.length → i ≤ n → n ≤ 1000 →
    impl_exprDepth.l0 k' x a dp n i = some (m, d) → m = 0 ∨ ∃ j : Nat, m = j ∧ a ≤ j ∧ j ≤ x.length ∧ Wfs (n - i) (x.drop a) (x.drop j)
  | 0, _, x, a, n, i, dp, m, d, _, _, _, _, h => by simp [impl_exprDepth.l0] at h
  | k' + 1, hk, x, a, n, i, dp, m, d, hx, ha, hi, hn, h => by
    simp only [impl_exprDepth.l0] at h
    by_cases h1 : (i : Int) < (n : Int)
    · rw [if_pos h1, if_pos (by omega), if_pos (by omega), Int.toNat_natCast] at h
      cases h2 : impl_exprDepth.f k' (x.drop a) with
      | none => rw [h2] at h; cases h
      | some v =>
        obtain ⟨m1, d1⟩ := v
        rw [h2] at h
        simp only [Option.bind_some] at h
        have h3 := hf k' (by omega) (x.drop a) m1 d1 (by rw [List.length_drop]; omega) h2
        by_cases h4 : m1 = 0
        · rw [if_pos h4] at h
          left
          injection h with h
          injection h with h5 h6
          exact h5.symm
        · rw [if_neg h4] at h
          rcases h3 with h3 | ⟨j1, rfl, hj1, hj2, hw⟩
          · exact absurd h3 h4
          · rw [List.length_drop] at hj2
            rw [w_id (by omega) (by omega), w_id (by omega) (by omega)] at h
            have e1 : ((a : Int) + (j1 : Int)) = ((a + j1 : Nat) : Int) := by omega
            have e2 : ((i : Int) + 1) = ((i + 1 : Nat) : Int) := by omega
            rw [e1, e2] at h
            rcases depth_loop k hf k' (by omega) x (a + j1) n (i + 1) _ m d hx (by omega) (by omega) hn h with h5 | ⟨j, rfl, hj3, hj4, hw2⟩
            · exact Or.inl h5
            · refine Or.inr ⟨j, rfl, by omega, hj4, ?_⟩
              have e3 : n - i = (n - (i + 1)) + 1 := by omega
              rw [e3]
              rw [List.drop_drop] at hw
              exact ⟨_, hw, hw2⟩
    · rw [if_neg h1] at h
      injection h with h
      injection h with h5 h6
      refine Or.inr ⟨a, h5.symm, Nat.le_refl _, ha, ?_⟩
      have e3 : n - i = 0 := by omega
      rw [e3]
      rfl
theorem depth_wf : ∀ (k : Nat) (x : List S70) (m d : Int), x.length ≤ 1000 → impl_exprDepth.f k x = some (m, d) → DepthOk x m := by
  intro k
  induction k using Nat.strongRecOn with
  | _ k ih =>
    intro x m d hx h
    cases k with
    | zero => simp [impl_exprDepth.f] at h
    | succ k =>
      have hj : ∀ k, impl_exprDepth.j0 k x true = some (m, d) → DepthOk x m := by
        intro k h
        cases k with
        | zero => simp [impl_exprDepth.j0] at h
        | succ k => simp [impl_exprDepth.j0] at h; exact Or.inl h.1.symm
      simp only [impl_exprDepth.f] at h
      cases x with
      | nil => rw [if_pos (by simp)] at h; exact hj k h
      | cons p r =>
        rw [if_neg (by simp; omega), if_pos (by simp)] at h
        have e0 : rd_T70 (p :: r) 0 = p := rd_head p r
        rw [e0] at h
        cases h2 : impl_isPart.f k p.f0 p.f1 p.f2 with
        | none => rw [h2] at h; cases h
        | some b =>
          have hb := Ev_eq (Ev.of (impl_isPart.mono _ _ _) h2) (impl_part p.f0 p.f1 p.f2)
          rw [h2] at h
          simp only [Option.bind_some] at h
          cases b with
          | false => exact hj k h
          | true =>
            cases k with
            | zero => simp [impl_exprDepth.j0] at h
            | succ k =>
              simp only [impl_exprDepth.j0, Bool.not_true, e0] at h
              rw [if_neg (by simp), if_pos (by simp)] at h
              cases h3 : impl_operands.f k p.f0 with
              | none => rw [h3] at h; cases h
              | some o =>
                have ho := Ev_eq (Ev.of (impl_operands.mono _) h3) (impl_ops p.f0)
                rw [h3] at h
                simp only [Option.bind_some] at h
                have hab := arOp_bounds hb.symm
                obtain ⟨n, hn⟩ : ∃ n : Nat, arOp p.f0 = n := ⟨(arOp p.f0).toNat, by omega⟩
                rw [ho, hn] at h
                rcases depth_loop (k + 2) (fun k' hk' x m d hx h => ih k' hk' x m d hx h) k (by omega) (p :: r) 1 n 0 0 m d hx (by simp) (Nat.zero_le _) (by omega) h with h5 | ⟨j, rfl, hj1, hj2, hw⟩
                · exact Or.inl h5
                · refine Or.inr ⟨j, rfl, hj1, hj2, ?_⟩
                  have hn2 : n ≤ 2 := by
                    unfold arOp at hn
                    split at hn
                    · omega
                    · split at hn
                      · omega
                      · split at hn <;> omega
                  simp only [Nat.sub_zero, List.drop_succ_cons, List.drop_zero] at hw
                  generalize (p :: r).drop j = q at hw ⊢
                  match n, hn2, hn, hw with
                  | 0, _, hn, hw => cases hw; exact Wf.nul p r hb.symm hn
                  | 1, _, hn, ⟨r1, hw1, hw2⟩ => cases hw2; exact Wf.un p r _ hb.symm hn hw1
                  | 2, _, hn, ⟨r1, hw1, r2, hw2, hw3⟩ => cases hw3; exact Wf.bin p r r1 _ hb.symm hn hw1 hw2
theorem right_wf {k : Nat} {x : List S70} (h : impl_ExprRight.f k x = some true) : x.length ≤ 12 ∧ Wf x [] := by
  unfold impl_ExprRight.f at h
  by_cases h1 : (x.length : Int) > 12
  · rw [if_pos h1] at h; cases h
  · rw [if_neg h1] at h
    refine ⟨by omega, ?_⟩
    cases h2 : impl_exprDepth.f k x with
    | none => rw [h2] at h; cases h
    | some v =>
      obtain ⟨m, d⟩ := v
      rw [h2] at h
      simp only [Option.bind_some] at h
      by_cases h3 : m > 0
      · rw [if_pos h3] at h
        by_cases h4 : m = (x.length : Int)
        · rcases depth_wf k x m d (by omega) h2 with h5 | ⟨j, h5, _, _, hw⟩
          · omega
          · have e : j = x.length := by omega
            rwa [e, List.drop_length] at hw
        · rw [if_neg h4] at h; cases h
      · rw [if_neg h3] at h; cases h

def headS (v : List ByteArray) : ByteArray := match v with | [] => ⟨#[]⟩ | x :: _ => x
def leftS (a : ByteArray) (n : Int) : ByteArray := a.extract 0 (min a.size n.toNat)
def firstS (a b : ByteArray) : ByteArray := if a.toList = [] then b else a
def okS (t : ByteArray) : Bool := decide ((t.size : Int) ≤ 40)
/-- What an expression comes to: its text, what is behind it, and whether no text is too long. -/
inductive Tx (L : List S115) : List S70 → ByteArray → List S70 → Bool → Prop
  | text (p : S70) (r : List S70) : p.f0 = 1 → p.f1.size ≤ 100 → Tx L (p :: r) p.f1 r (okS p.f1)
  | attr (p : S70) (r : List S70) : p.f0 = 2 → (headS (valsOf p.f1 L)).size ≤ 100 → Tx L (p :: r) (headS (valsOf p.f1 L)) r (okS (headS (valsOf p.f1 L)))
  | lower (p : S70) (r r1 : List S70) (a : ByteArray) (f : Bool) : p.f0 = 3 → Tx L r a r1 f → Tx L (p :: r) (caseS false a) r1 (f && okS (caseS false a))
  | upper (p : S70) (r r1 : List S70) (a : ByteArray) (f : Bool) : p.f0 = 4 → Tx L r a r1 f → Tx L (p :: r) (caseS true a) r1 (f && okS (caseS true a))
  | join (p : S70) (r r1 r2 : List S70) (a b : ByteArray) (f g : Bool) : p.f0 = 5 → Tx L r a r1 f → Tx L r1 b r2 g → Tx L (p :: r) (a ++ b) r2 ((f && g) && okS (a ++ b))
  | first (p : S70) (r r1 r2 : List S70) (a b : ByteArray) (f g : Bool) : p.f0 = 6 → Tx L r a r1 f → Tx L r1 b r2 g → Tx L (p :: r) (firstS a b) r2 ((f && g) && okS (firstS a b))
  | left (p : S70) (r r1 : List S70) (a : ByteArray) (f : Bool) : p.f0 = 7 → 0 ≤ p.f2 → p.f2 ≤ 40 → Tx L r a r1 f → Tx L (p :: r) (leftS a p.f2) r1 (f && okS (leftS a p.f2))
theorem caseS_size (u : Bool) (a : ByteArray) : (caseS u a).size = a.size := by
  unfold caseS strOfNums
  show ((List.map _ (List.map (turn1 u) (bytesOf a))).toArray).size = a.size
  rw [List.size_toArray, List.length_map, List.length_map, bytesOf_length]
theorem Tx.size {L : List S115} {x : List S70} {t : ByteArray} {r : List S70} {f : Bool} (h : Tx L x t r f) : r.length < x.length ∧ t.size ≤ 100 * (x.length - r.length) := by
  induction h with
  | text p r h1 h2 => simp only [List.length_cons]; omega
  | attr p r h1 h2 => simp only [List.length_cons]; omega
  | lower p r r1 a f h1 _ ih => rw [caseS_size]; simp only [List.length_cons]; omega
  | upper p r r1 a f h1 _ ih => rw [caseS_size]; simp only [List.length_cons]; omega
  | join p r r1 r2 a b f g h1 _ _ ih ih2 => rw [ByteArray.size_append]; simp only [List.length_cons]; omega
  | first p r r1 r2 a b f g h1 _ _ ih ih2 =>
    unfold firstS
    simp only [List.length_cons]
    split <;> omega
  | left p r r1 a f h1 _ _ _ ih =>
    have e : (leftS a p.f2).size ≤ a.size := by simp [leftS]; omega
    simp only [List.length_cons]
    omega
/-- Every valid expression comes to something, if the entry's texts are short. -/
theorem Wf.tx {L : List S115} (hL : ∀ name, (headS (valsOf name L)).size ≤ 100) {x r : List S70} (h : Wf x r) : ∃ t f, Tx L x t r f := by
  have hp : ∀ p : S70, partP p = true → (p.f0 = 1 → p.f1.size ≤ 40) ∧ 0 ≤ p.f2 ∧ p.f2 ≤ 40 := by
    intro p h
    simp only [partP, partB, Bool.and_eq_true, decide_eq_true_eq] at h
    obtain ⟨h1, h2, ⟨h3, h4⟩, h5⟩ := h
    refine ⟨fun h6 => ?_, h3, h4⟩
    rw [textB, if_pos h6] at h5
    simp only [Bool.and_eq_true, decide_eq_true_eq] at h5
    exact h5.1
  induction h with
  | nul p r h1 h2 =>
    have h3 := hp p h1
    unfold arOp at h2
    split at h2
    case isTrue h4 =>
      rcases h4 with h4 | h4
      · exact ⟨_, _, Tx.text p r h4 (by have := h3.1 h4; omega)⟩
      · exact ⟨_, _, Tx.attr p r h4 (hL _)⟩
    case isFalse =>
      split at h2
      · omega
      · split at h2 <;> omega
  | un p r r1 h1 h2 _ ih =>
    have h3 := hp p h1
    obtain ⟨a, f, ih⟩ := ih
    unfold arOp at h2
    split at h2
    · omega
    · split at h2
      case isTrue h4 =>
        rcases h4 with h4 | h4 | h4
        · exact ⟨_, _, Tx.lower p r r1 a f h4 ih⟩
        · exact ⟨_, _, Tx.upper p r r1 a f h4 ih⟩
        · exact ⟨_, _, Tx.left p r r1 a f h4 h3.2.1 h3.2.2 ih⟩
      case isFalse => split at h2 <;> omega
  | bin p r r1 r2 h1 h2 _ _ ih ih2 =>
    obtain ⟨a, f, ih⟩ := ih
    obtain ⟨b, g, ih2⟩ := ih2
    unfold arOp at h2
    split at h2
    · omega
    · split at h2
      · omega
      · split at h2
        case isTrue h4 =>
          rcases h4 with h4 | h4
          · exact ⟨_, _, Tx.join p r r1 r2 a b f g h4 ih ih2⟩
          · exact ⟨_, _, Tx.first p r r1 r2 a b f g h4 ih ih2⟩
        case isFalse => omega
end Go.Proofs.YtpocoeghobdfiaaGreatDoor.PG
