/-
  What names, norms and values are, as plain functions of a string's bytes; the depth of an expression in prefix form. Plain Lean; no condition.
-/
import Derived.Test.YthapodlehfblgaaDoorAOWords
import Derived.Lib.SlTrimSet
import Derived.Test.YthapodlehfblgaaDoorAOGen
namespace Go.Proofs.YthapodlehfblgaaDoor.Sem
set_option linter.unusedSimpArgs false
set_option linter.unusedVariables false
open Go.RowKit Go.Proofs.YthapodlehfblgaaDoorW.PrintWords Go.Proofs.YthapodlehfblgaaDoorW.PrintLast Go.Proofs.YthapodlehfblgaaDoorW.PrintMore Go.Proofs.YthapodlehfblgaaDoor.Gn

def isLo (c : Int) : Bool := decide (97 ≤ c) && decide (c ≤ 122)
def isDi (c : Int) : Bool := decide (48 ≤ c) && decide (c ≤ 57)
def isNm (c : Int) : Bool := isLo c || (isDi c || decide (c = 95))
/-- A name: 1 to 20 bytes of a-z, 0-9, _, the first of them of a-z. -/
def nameB (s : ByteArray) : Bool := decide (1 ≤ s.size) && (decide (s.size ≤ 20) && (isLo (bt s 0) && (List.range s.size).all fun j => isNm (bt s (j : Int))))

theorem dropWhile_nil {α : Type} (p : α → Bool) : ∀ l : List α, (l.dropWhile p = []) ↔ l.all p = true
  | [] => by simp
  | a :: l => by
    rw [List.dropWhile_cons, List.all_cons]
    by_cases h : p a = true
    · rw [if_pos h, h, Bool.true_and]
      exact dropWhile_nil p l
    · rw [if_neg h]
      simp [h]
theorem trimS_nil (l cs : List UInt8) : (Lib.trimS l cs == []) = l.all (cs.contains ·) := by
  have h1 : (Lib.trimS l cs = []) ↔ l.all (cs.contains ·) = true := by
    unfold Lib.trimS Lib.trimLeftS Lib.trimRightS
    rw [dropWhile_nil]
    constructor
    · intro h
      rw [List.all_reverse] at h
      by_cases he : l.reverse.dropWhile (cs.contains ·) = []
      · rw [dropWhile_nil, List.all_reverse] at he
        exact he
      · have hh := List.head_dropWhile_not (p := (cs.contains ·)) (l := l.reverse) he
        have := List.all_eq_true.1 h _ (List.head_mem he)
        rw [this] at hh
        cases hh
    · intro h
      have he : l.reverse.dropWhile (cs.contains ·) = [] := by
        rw [dropWhile_nil, List.all_reverse]
        exact h
      rw [he]
      rfl
  rw [Bool.eq_iff_iff, beq_iff_eq]
  exact h1
theorem bt_byte (s : ByteArray) (j : Nat) (h : j < s.size) : bt s (j : Int) = ((s[j]'h).toNat : Int) := by
  unfold bt
  rw [dif_pos (by simpa using h)]
  rfl
/-- A test on all bytes. -/
theorem all_bytes (s : ByteArray) (p : UInt8 → Bool) (q : Int → Bool) (h : ∀ b : UInt8, p b = q (b.toNat : Int)) : s.data.toList.all p = (List.range s.size).all fun j => q (bt s (j : Int)) := by
  rw [Bool.eq_iff_iff, List.all_eq_true, List.all_eq_true]
  constructor
  · intro h1 j hj
    have hj' : j < s.size := by simpa using hj
    rw [bt_byte s j hj', ← h]
    exact h1 _ (by rw [Array.mem_toList_iff]; exact Array.getElem_mem _)
  · intro h1 b hb
    rw [Array.mem_toList_iff] at hb
    obtain ⟨j, hj, rfl⟩ := Array.mem_iff_getElem.1 hb
    rw [h]
    have := h1 j (by simpa using hj)
    rw [bt_byte s j hj] at this
    exact this
def nmSet : List UInt8 := [97, 98, 99, 100, 101, 102, 103, 104, 105, 106, 107, 108, 109, 110, 111, 112, 113, 114, 115, 116, 117, 118, 119, 120, 121, 122, 48, 49, 50, 51, 52, 53, 54, 55, 56, 57, 95]
theorem nm_set (b : UInt8) : nmSet.contains b = isNm (b.toNat : Int) := by
  have h : ∀ n : Fin 256, nmSet.contains (UInt8.ofNat n.val) = isNm (n.val : Int) := by decide +kernel
  have := h ⟨b.toNat, b.toNat_lt⟩
  simpa using this
theorem bt_bounds (s : ByteArray) (i : Int) : 0 ≤ bt s i ∧ bt s i ≤ 255 := by
  unfold bt
  split
  · rename_i h
    have := (s[i.toNat]'h).toNat_lt
    omega
  · omega
/-- Printable bytes. -/
def plainB (s : ByteArray) : Bool := (List.range s.size).all fun j => decide (32 ≤ bt s (j : Int)) && decide (bt s (j : Int) ≤ 126)

/-! ### an expression in prefix form: the program's depth and the reference's end -/
section
variable {α : Type} (ok : α → Bool) (ar : α → Int) (f : Nat → List α → Option (Int × Int)) (l0 : Nat → List α → Int → Int → Int → Int → Option (Int × Int))
  (s : Nat → List α → Int → Int → Option Int) (sl : Nat → List α → Int → Int → Int → Option Int)
theorem depth_same (har : ∀ p, ok p = true → 0 ≤ ar p ∧ ar p ≤ 1000)
    (hl0 : ∀ k x parts dm n i, l0 (k + 1) x parts dm n i = if i < n then (if 0 ≤ parts then (if parts ≤ (x.length : Int) then ((f k (x.drop (parts : Int).toNat)).bind fun b => if b.1 = 0 then some (0, 0) else l0 k x (wrap64 (parts + b.1)) (mx dm b.2) n (wrap64 (i + 1))) else none) else none) else some (parts, wrap64 (dm + 1)))
    (hnil : Ev (fun k => f k []) (0, 0)) (hbad : ∀ p r, ok p = false → Ev (fun k => f k (p :: r)) (0, 0))
    (hok : ∀ p r v, ok p = true → Ev (fun k => l0 k (p :: r) 1 0 (ar p) 0) v → Ev (fun k => f k (p :: r)) v)
    (hsl : ∀ k x at_ deep n, sl (k + 1) x at_ deep n = if n > 0 then (if at_ ≥ 0 then ((s k x at_ (wrap64 (deep + 1))).bind fun t => sl k x t deep (wrap64 (n - 1))) else some at_) else some at_)
    (hsend : ∀ x (at_ : Nat) deep, x.length ≤ at_ → Ev (fun k => s k x (at_ : Int) deep) (-1)) (hsdeep : ∀ x (at_ : Nat) deep, deep > 5 → Ev (fun k => s k x (at_ : Int) deep) (-1))
    (hsbad : ∀ x (at_ : Nat) (h : at_ < x.length) deep, deep ≤ 5 → ok (x[at_]'h) = false → Ev (fun k => s k x (at_ : Int) deep) (-1))
    (hsok : ∀ x (at_ : Nat) (h : at_ < x.length) deep v, x.length ≤ 1000000 → deep ≤ 5 → ok (x[at_]'h) = true → Ev (fun k => sl k x (at_ + 1 : Int) deep (ar (x[at_]'h))) v → Ev (fun k => s k x (at_ : Int) deep) v)
    (N : Nat) (hN : N ≤ 1000000) : ∀ y : List α, y.length ≤ N → ∃ M D : Int, Ev (fun k => f k y) (M, D) ∧ ((M = 0 ∧ D = 0) ∨ (1 ≤ M ∧ M ≤ (y.length : Int) ∧ 1 ≤ D ∧ D ≤ (y.length : Int))) ∧
      ∀ (x : List α) (at_ : Nat), x.drop at_ = y → at_ ≤ x.length → x.length ≤ 1000000 → ∀ deep : Int, 1 ≤ deep → deep ≤ 6 → Ev (fun k => s k x (at_ : Int) deep) (if 0 < M ∧ deep - 1 + D ≤ 5 then (at_ : Int) + M else -1) := by
  induction N with
  | zero =>
    intro y hy
    obtain rfl : y = [] := List.eq_nil_of_length_eq_zero (by omega)
    refine ⟨0, 0, hnil, .inl ⟨rfl, rfl⟩, fun x at_ hd hat _ deep _ _ => ?_⟩
    rw [if_neg (by omega)]
    exact hsend x at_ deep (by have := congrArg List.length hd; simp at this; omega)
  | succ N ihN =>
    have ih := ihN (by omega)
    intro y hy
    match y, hy with
    | [], _ =>
      refine ⟨0, 0, hnil, .inl ⟨rfl, rfl⟩, fun x at_ hd hat _ deep _ _ => ?_⟩
      rw [if_neg (by omega)]
      exact hsend x at_ deep (by have := congrArg List.length hd; simp at this; omega)
    | p :: r, hy =>
      have hat_of : ∀ (x : List α) (at_ : Nat), x.drop at_ = p :: r → ∃ h : at_ < x.length, x[at_]'h = p := by
        intro x at_ hd
        have hl := congrArg List.length hd
        simp at hl
        have hlt : at_ < x.length := by omega
        refine ⟨hlt, ?_⟩
        have := List.getElem?_eq_getElem hlt
        have h2 : (x.drop at_)[0]? = some p := by rw [hd]; rfl
        rw [List.getElem?_drop, Nat.add_zero, this] at h2
        exact Option.some.inj h2
      cases hp : ok p with
      | false =>
        refine ⟨0, 0, hbad p r hp, .inl ⟨rfl, rfl⟩, fun x at_ hd hat _ deep _ hdeep => ?_⟩
        rw [if_neg (by omega)]
        obtain ⟨hlt, hx⟩ := hat_of x at_ hd
        by_cases h6 : deep > 5
        · exact hsdeep x at_ deep h6
        · exact hsbad x at_ hlt deep (by omega) (by rw [hx]; exact hp)
      | true =>
        obtain ⟨hr0, hr1⟩ := har p hp
        have hlen : ((p :: r).length : Int) ≤ 1000000 := by omega
        generalize hyy : p :: r = y at *
        have Q : ∀ (rem : Nat) (parts dm i : Int), i + rem = ar p → 0 ≤ i → 1 ≤ parts → parts ≤ (y.length : Int) → 0 ≤ dm → dm ≤ (y.length : Int) - 1 → ∃ M D : Int, Ev (fun k => l0 k y parts dm (ar p) i) (M, D) ∧
            ((M = 0 ∧ D = 0) ∨ (parts ≤ M ∧ M ≤ (y.length : Int) ∧ dm + 1 ≤ D ∧ D ≤ (y.length : Int))) ∧
            ∀ (x : List α) (at_ : Nat), x.drop at_ = y → at_ ≤ x.length → x.length ≤ 1000000 → ∀ deep : Int, 1 ≤ deep → deep ≤ 5 → deep + dm ≤ 5 → Ev (fun k => sl k x ((at_ : Int) + parts) deep (rem : Int)) (if 0 < M ∧ deep - 1 + D ≤ 5 then (at_ : Int) + M else -1) := by
          intro rem
          induction rem with
          | zero =>
            intro parts dm i hi h0 hp1 hp2 hd0 hd1
            refine ⟨parts, dm + 1, Ev_one (fun k => ?_), .inr ⟨Int.le_refl _, hp2, Int.le_refl _, by omega⟩, fun x at_ _ _ _ deep h1 h5 hdd => ?_⟩
            · rw [hl0, if_neg (by omega), w_id (by omega) (by omega)]
            · rw [if_pos (by omega)]
              exact Ev_one (fun k => by rw [hsl, if_neg (by omega)])
          | succ rem ihr =>
            intro parts dm i hi h0 hp1 hp2 hd0 hd1
            have hdl : (y.drop (parts : Int).toNat).length ≤ N := by
              have : y.length ≤ N + 1 := hy
              rw [List.length_drop]
              omega
            obtain ⟨M1, D1, hf1, hb1, hs1⟩ := ih _ hdl
            have hstep : ∀ v, Ev (fun k => (f k (y.drop (parts : Int).toNat)).bind fun b => if b.1 = 0 then some (0, 0) else l0 k y (wrap64 (parts + b.1)) (mx dm b.2) (ar p) (wrap64 (i + 1))) v → Ev (fun k => l0 k y parts dm (ar p) i) v := by
              intro v hv
              exact Ev.step (fun k => by rw [hl0, if_pos (by omega), if_pos (by omega), if_pos (by omega)]) hv
            have hdrop : ∀ (x : List α) (at_ : Nat), x.drop at_ = y → x.drop (at_ + (parts : Int).toNat) = y.drop (parts : Int).toNat := by
              intro x at_ hd
              rw [← hd, List.drop_drop]
            have hcast : ∀ at_ : Nat, ((at_ + (parts : Int).toNat : Nat) : Int) = (at_ : Int) + parts := by intro at_; omega
            have hspec : ∀ (x : List α) (at_ : Nat), x.drop at_ = y → at_ ≤ x.length → x.length ≤ 1000000 → ∀ deep : Int, 1 ≤ deep → deep ≤ 5 → Ev (fun k => s k x ((at_ : Int) + parts) (wrap64 (deep + 1))) (if 0 < M1 ∧ deep + D1 ≤ 5 then (at_ : Int) + parts + M1 else -1) := by
              intro x at_ hd hat hxl deep h1 h5
              have hl := congrArg List.length hd
              rw [List.length_drop] at hl
              have := hs1 x (at_ + (parts : Int).toNat) (hdrop x at_ hd) (by omega) hxl (deep + 1) (by omega) (by omega)
              rw [hcast, show deep + 1 - 1 = deep by omega] at this
              rw [w_id (by omega) (by omega)]
              exact this
            by_cases hM : M1 = 0
            · refine ⟨0, 0, hstep _ (Ev_bind hf1 ?_), .inl ⟨rfl, rfl⟩, fun x at_ hd hat hxl deep h1 h5 hdd => ?_⟩
              · simp only [if_pos hM]
                exact Ev.now _
              · rw [if_neg (by omega)]
                have hsp := hspec x at_ hd hat hxl deep h1 h5
                rw [if_neg (by omega)] at hsp
                refine Ev.step (f := fun k => (s k x ((at_ : Int) + parts) (wrap64 (deep + 1))).bind fun t => sl k x t deep (wrap64 (((rem + 1 : Nat) : Int) - 1))) (fun k => by rw [hsl, if_pos (by omega), if_pos (by omega)]) (Ev_bind hsp ?_)
                refine Ev_one (fun k => ?_)
                rw [hsl]
                by_cases hz : wrap64 (((rem + 1 : Nat) : Int) - 1) > 0
                · rw [if_pos hz, if_neg (by omega)]
                · rw [if_neg hz]
            · have hb1' : 1 ≤ M1 ∧ M1 ≤ ((y.drop (parts : Int).toNat).length : Int) ∧ 1 ≤ D1 ∧ D1 ≤ ((y.drop (parts : Int).toNat).length : Int) := by
                rcases hb1 with h | h
                · exact absurd h.1 hM
                · exact h
              rw [List.length_drop] at hb1'
              have hmx : mx dm D1 = if dm < D1 then D1 else dm := rfl
              obtain ⟨M, D, hf2, hb2, hs2⟩ := ihr (parts + M1) (mx dm D1) (i + 1) (by omega) (by omega) (by omega) (by omega) (by rw [hmx]; split <;> omega) (by rw [hmx]; split <;> omega)
              have hDD : M ≠ 0 → dm + 1 ≤ D ∧ D1 + 1 ≤ D := by
                intro h
                rcases hb2 with h' | h'
                · exact absurd h'.1 h
                · have := h'.2.2.1
                  rw [hmx] at this
                  split at this <;> omega
              refine ⟨M, D, hstep _ (Ev_bind hf1 ?_), ?_, fun x at_ hd hat hxl deep h1 h5 hdd => ?_⟩
              · simp only [if_neg hM]
                rw [w_id (i := parts + M1) (by omega) (by omega), w_id (i := i + 1) (by omega) (by omega)]
                exact hf2
              · rcases hb2 with h | h
                · exact .inl h
                · have h0' : M ≠ 0 := by omega
                  exact .inr ⟨by omega, h.2.1, (hDD h0').1, h.2.2.2⟩
              · have hsp := hspec x at_ hd hat hxl deep h1 h5
                refine Ev.step (f := fun k => (s k x ((at_ : Int) + parts) (wrap64 (deep + 1))).bind fun t => sl k x t deep (wrap64 (((rem + 1 : Nat) : Int) - 1))) (fun k => by rw [hsl, if_pos (by omega), if_pos (by omega)]) (Ev_bind hsp ?_)
                have hrem : wrap64 (((rem + 1 : Nat) : Int) - 1) = (rem : Int) := by rw [w_id (by omega) (by omega)]; omega
                rw [hrem]
                by_cases hdeep : deep + D1 ≤ 5
                · rw [if_pos ⟨by omega, hdeep⟩, Int.add_assoc]
                  exact hs2 x at_ hd hat hxl deep h1 h5 (by rw [hmx]; split <;> omega)
                · rw [if_neg (by omega), if_neg (by
                    rintro ⟨hM0, hle⟩
                    have := hDD (by omega)
                    omega)]
                  refine Ev_one (fun k => ?_)
                  rw [hsl]
                  by_cases hz : (rem : Int) > 0
                  · rw [if_pos hz, if_neg (by omega)]
                  · rw [if_neg hz]
        have hy1 : 1 ≤ y.length := by rw [← hyy]; simp
        obtain ⟨M, D, hf, hb, hs⟩ := Q (ar p).toNat 1 0 0 (by omega) (by omega) (by omega) (by omega) (by omega) (by omega)
        refine ⟨M, D, ?_, ?_, fun x at_ hd hat hxl deep h1 h6 => ?_⟩
        · rw [← hyy]
          exact hok p r _ hp (by rw [hyy]; exact hf)
        · rcases hb with h | h
          · exact .inl h
          · exact .inr ⟨h.1, h.2.1, by omega, h.2.2.2⟩
        · obtain ⟨hlt, hx⟩ := hat_of x at_ hd
          by_cases hd6 : deep > 5
          · rw [if_neg (by
              rintro ⟨hM0, hle⟩
              rcases hb with h | h <;> omega)]
            exact hsdeep x at_ deep hd6
          · refine hsok x at_ hlt deep _ hxl (by omega) (by rw [hx]; exact hp) ?_
            rw [hx]
            have hrem : (((ar p).toNat : Nat) : Int) = ar p := by omega
            rw [← hrem]
            exact hs x at_ hd hat hxl deep h1 (by omega) (by omega)
end
end Go.Proofs.YthapodlehfblgaaDoor.Sem
