/-
  The laws' marks: what marking a row writes is what is found there again. Plain Lean over the printed functions.
-/
import Derived.Test.YtfikhgiiccbbfaaLAP2
import Derived.Test.YtfikhgiiccbbfaaLAGen
namespace Go.Proofs.Ytfikhgiiccbbfaa.PH
set_option linter.unusedVariables false
set_option linter.unusedSimpArgs false
open Go.RowKit Go.Proofs.YtfikhgiiccbbfaaW.PrintWords Go.Proofs.YtfikhgiiccbbfaaW.PrintLast Go.Proofs.YtfikhgiiccbbfaaW.PrintMore Go.Proofs.Ytfikhgiiccbbfaa.Gn

theorem mark_text_loop : ∀ (n : Nat) (x : Int) (t : ByteArray), 0 ≤ x → x ≤ n → t.size + n ≤ 4611686018427387904 → ∃ r, Ev (fun k => laws_markText.l0 k x t) r := by
  intro n
  induction n using Nat.strongRecOn with
  | _ n ih =>
    intro x t h0 hn ht
    by_cases hx : x > 0
    · obtain ⟨m, rfl⟩ : ∃ m, n = m + 1 := ⟨n - 1, by omega⟩
      have hd : x.tdiv 10 = x / 10 := Int.tdiv_eq_ediv_of_nonneg h0
      have hw : wrap64 (x.tdiv 10) = x / 10 := by rw [hd]; exact w_id (by omega) (by omega)
      have hsz : ∀ c : Int, (strOfNums [c]).size = 1 := fun c => rfl
      obtain ⟨r, hr⟩ := ih m (by omega) (x / 10) ((strOfNums [(wrap64 (48 + (Int.tmod x 10))) % 256]) ++ t) (by omega) (by omega) (by rw [ByteArray.size_append, hsz]; omega)
      refine ⟨r, Ev.step (fun k => by simp only [laws_markText.l0]; rw [if_pos hx]; simp only [Option.bind_some]; rw [if_pos (by rw [hsz]; omega), hw]) hr⟩
    · exact ⟨_, Ev_one fun k => by simp only [laws_markText.l0]; rw [if_neg hx, if_pos (by omega)]⟩
theorem mark_text (x : Int) : ∃ r, x ≤ 4000000000000000000 → Ev (fun k => laws_markText.f k x) r := by
  by_cases h : x ≤ 0
  · exact ⟨_, fun _ => Ev_some fun k => by unfold laws_markText.f; rw [if_pos h]⟩
  · by_cases h2 : x ≤ 4000000000000000000
    · obtain ⟨r, hr⟩ := mark_text_loop 4000000000000000000 x ⟨#[]⟩ (by omega) (by omega) (by show (0 : Nat) + _ ≤ _; omega)
      exact ⟨r, fun _ => Ev.congr (fun k => by unfold laws_markText.f; rw [if_neg h]) hr⟩
    · exact ⟨⟨#[]⟩, fun h3 => absurd h3 h2⟩
noncomputable def markT (x : Int) : ByteArray := Classical.choose (mark_text x)
theorem markT_ev {x : Int} (h : x ≤ 4000000000000000000) : Ev (fun k => laws_markText.f k x) (markT x) := Classical.choose_spec (mark_text x) h
theorem mark_wrap {x y n j : Int} (h0 : 0 ≤ x) (hB : x + n ≤ 4000000000000000000) (h : y + 1 = x + j) (hj : 0 ≤ j ∧ j ≤ n) : wrap64 (y + 1) = x + j := by
  rw [h]
  exact w_id (by omega) (by omega)
theorem mark_succ {i n : Nat} (h : i < n) (hn : n ≤ 4000000000000000000) : wrap64 ((i : Int) + 1) = ((i + 1 : Nat) : Int) := by
  rw [wsucc (by omega) (by omega)]
  omega
/-- The marks of m elements, n numbers each, from x on. -/
def mkL {α : Type} (mk : Int → α) (n : Nat) : Int → Nat → List α
  | _, 0 => []
  | x, m + 1 => mk x :: mkL mk n (x + n) m
theorem mkL_length {α : Type} (mk : Int → α) (n : Nat) : ∀ (m : Nat) (x : Int), (mkL mk n x m).length = m
  | 0, _ => rfl
  | m + 1, x => by simp [mkL, mkL_length mk n m]
theorem mark_loop {α : Type} (n : Nat) (mk : Int → α) (l : Nat → List α → Int → Int → Option (Int × List α)) (B : Int)
    (hend : ∀ (k : Nat) (xs : List α) (x : Int) (i : Nat), xs.length ≤ i → l (k + 1) xs x (i : Int) = some (x, xs))
    (hstep : ∀ (xs : List α) (x : Int) (i : Nat) (r : Int × List α), i < xs.length → xs.length ≤ 4000000000000000000 → 0 ≤ x → x + n ≤ B → Ev (fun k => l k (xs.set i (mk x)) (x + n) ((i + 1 : Nat) : Int)) r → Ev (fun k => l k xs x (i : Int)) r) :
    ∀ (m i : Nat) (xs : List α) (x : Int), i + m = xs.length → xs.length ≤ 4000000000000000000 → 0 ≤ x → x + n * m ≤ B → Ev (fun k => l k xs x (i : Int)) (x + n * m, xs.take i ++ mkL mk n x m) := by
  intro m
  induction m with
  | zero =>
    intro i xs x hi hl h0 hB
    refine Ev_one fun k => ?_
    rw [hend k xs x i (by omega), List.take_of_length_le (by omega)]
    simp [mkL]
  | succ m ih =>
    intro i xs x hi hl h0 hB
    have e1 : (n : Int) * ((m + 1 : Nat) : Int) = n + n * (m : Int) := by rw [Int.natCast_add, Int.mul_add]; omega
    rw [e1] at hB ⊢
    have hnm : (0 : Int) ≤ (n : Int) * (m : Int) := Int.mul_nonneg (by omega) (by omega)
    have h2 := ih (i + 1) (xs.set i (mk x)) (x + n) (by rw [List.length_set]; omega) (by rw [List.length_set]; exact hl) (by omega) (by omega)
    have h3 := hstep xs x i _ (by omega) hl h0 (by omega) h2
    have e2 : (xs.set i (mk x)).take (i + 1) ++ mkL mk n (x + n) m = xs.take i ++ mkL mk n x (m + 1) := by
      rw [List.take_succ_eq_append_getElem (by rw [List.length_set]; omega), List.take_set_of_le (Nat.le_refl _), List.getElem_set_self, List.append_assoc]
      rfl
    rw [e2, Int.add_assoc] at h3
    exact h3
theorem held_loop {α : Type} (n : Nat) (mk : Int → α) (l : Nat → List α → Int → Int → Option Int) (B : Int)
    (hend : ∀ (k : Nat) (xs : List α) (x : Int) (i : Nat), xs.length ≤ i → l (k + 1) xs x (i : Int) = some x)
    (hstep : ∀ (xs : List α) (x : Int) (i : Nat) (r : Int) (hi : i < xs.length), xs.length ≤ 4000000000000000000 → 0 ≤ x → x + n ≤ B → xs[i]'hi = mk x → Ev (fun k => l k xs (x + n) ((i + 1 : Nat) : Int)) r → Ev (fun k => l k xs x (i : Int)) r) :
    ∀ (m i : Nat) (xs : List α) (x : Int), i + m = xs.length → xs.length ≤ 4000000000000000000 → 0 ≤ x → x + n * m ≤ B → xs.drop i = mkL mk n x m → Ev (fun k => l k xs x (i : Int)) (x + n * m) := by
  intro m
  induction m with
  | zero =>
    intro i xs x hi hl h0 hB hd
    refine Ev_one fun k => ?_
    rw [hend k xs x i (by omega)]
    simp
  | succ m ih =>
    intro i xs x hi hl h0 hB hd
    have e1 : (n : Int) * ((m + 1 : Nat) : Int) = n + n * (m : Int) := by rw [Int.natCast_add, Int.mul_add]; omega
    rw [e1] at hB ⊢
    have hnm : (0 : Int) ≤ (n : Int) * (m : Int) := Int.mul_nonneg (by omega) (by omega)
    have hlt : i < xs.length := by omega
    rw [List.drop_eq_getElem_cons hlt] at hd
    simp only [mkL, List.cons.injEq] at hd
    have h2 := ih (i + 1) xs (x + n) (by omega) hl (by omega) (by omega) hd.2
    have h3 := hstep xs x i _ hlt hl h0 (by omega) hd.1 h2
    rw [Int.add_assoc] at h3
    exact h3
end Go.Proofs.Ytfikhgiiccbbfaa.PH
