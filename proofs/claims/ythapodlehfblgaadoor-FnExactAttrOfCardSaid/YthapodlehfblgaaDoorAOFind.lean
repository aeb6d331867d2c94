/-
  The methods find and values of the program's entry: the binary search over names that rise comes to the first name that is not below. No condition but that the names rise.
-/
import Derived.Shelf.Abstract
import Derived.Laws.Cover1
import Derived.Test.YthapodlehfblgaaDoorAOP1
import Derived.Test.YthapodlehfblgaaDoorAOGen
namespace Go.Proofs.YthapodlehfblgaaDoor.PA
open Go.RowKit Go.Proofs.YthapodlehfblgaaDoorW.PrintWords Go.Proofs.YthapodlehfblgaaDoorW.PrintLast Go.Proofs.YthapodlehfblgaaDoorW.PrintMore Go.Proofs.YthapodlehfblgaaDoor.Gn
attribute [local go_sem] max2_int min2_int max_two min_two max_three min_three max_four min_four
set_option linter.unusedVariables false
set_option linter.unusedSimpArgs false

def cmpS (a b : ByteArray) : Int := if Op.bytesLess a.toList b.toList = true then -1 else if (Op.bytesLess a.toList b.toList || (a.toList == b.toList)) = true then 0 else 1
set_option maxHeartbeats 1000000 in
theorem cmp_walk (a b : ByteArray) (w : World) : Calls Tryd.prog 105 #[.string a, .string b] w fun e w' => e = .returned (.int .i64 (cmpS a b)) ∧ w' = w := by
  unfold cmpS
  cases h1 : Op.bytesLess a.toList b.toList <;> cases h2 : (a.toList == b.toList)
  all_goals
    go_enter Tryd.func105, Tryd.ntmps105
    go_wp2
    go_ret
    exact ⟨by simp, rfl⟩
theorem enters_104 : ∀ args w, (callFunc 104 args).run Tryd.prog w = .ok (.enter 104 args) w := enters_of Tryd.func104 (by kernel_rfl) rfl
set_option maxHeartbeats 1000000 in
theorem find_clo (x : S102) (A1 : Option Addr) (c1 : Nat) (name : ByteArray) (W : World) :
    Calls Tryd.prog 104 #[.agg #[.string x.f0, .slice A1 x.f1.length c1], .string name] W fun e w' => e = .returned (.int .i64 (cmpS x.f0 name)) ∧ Below W.heap.size W w' := by
  go_enter Tryd.func104, Tryd.ntmps104
  go_wp2_with (go_at_call 105; refine (cmp_walk _ _ _).mono ?_; rintro e w' ⟨rfl, rfl⟩)
  go_ret
  exact ⟨rfl, (Below.refl _ W).alloc (Nat.le_refl _) _⟩

/-- The place of the first element that is not below. -/
def bsI {α : Type} (c : α → Int) (l : List α) : Nat := l.findIdx fun x => !decide (c x < 0)
def bsB {α : Type} (c : α → Int) (l : List α) : Bool := match l[bsI c l]? with | some x => decide (c x = 0) | none => false
theorem bsI_at {α : Type} {c : α → Int} {l : List α} {i : Nat} (hi : i ≤ l.length) (h1 : ∀ k (hk : k < l.length), k < i → c (l[k]'hk) < 0) (h2 : ∀ h : i < l.length, ¬ c (l[i]'h) < 0) : bsI c l = i := by
  unfold bsI
  rcases Nat.lt_or_eq_of_le hi with h | h
  · rw [List.findIdx_eq h]
    exact ⟨by simpa using h2 h, fun j hj => by simpa using h1 j (by omega) hj⟩
  · subst h
    rw [List.findIdx_eq_length]
    intro x hx
    obtain ⟨k, hk, rfl⟩ := List.getElem_of_mem hx
    simpa using h1 k hk hk
set_option maxHeartbeats 4000000 in
set_option maxRecDepth 100000 in
theorem bsearch_any (name : ByteArray) (c : S102 → Int) (hc : ∀ x, c x = cmpS x.f0 name) (A : Option Addr) (cap : Nat) (l : List S102) (w : World) (hr : Kd.C k102 w A l.length l)
    (hs : ∀ a b (hb : b < l.length) (hab : a ≤ b), c (l[b]'hb) < 0 → c (l[a]'(by omega)) < 0) :
    Calls Tryd.prog 103 #[.slice A l.length cap, .string name, .func (.func 104) #[] #[]] w
      fun e w' => e = .returned (.tuple #[.int .i64 (bsI c l), .bool (bsB c l)]) ∧ Below w.heap.size w w' := by
  have hmx := Kd.C_max hr
  have HR := Aside0.mk hr
  have HS := Aside0.mk hs
  have HC := Aside0.mk hc
  have hcall := fun (W : World) (x : S102) (A1 : Option Addr) (c1 : Nat) => find_clo x A1 c1 name W
  have HCALL := Aside0.mk hcall
  have eg := enters_104
  clear hr hs hc hcall
  go_enter Tryd.func103, Tryd.ntmps103
  go_wp2
  go_loopw [9, 10, 11] (fun i j h wr => ∃ a b : Nat, a ≤ b ∧ b ≤ l.length ∧ i = .int .i64 a ∧ j = .int .i64 b ∧ Aside0 (∀ k (hk : k < l.length), k < a → c (l[k]'hk) < 0) ∧ Aside0 (∀ k (hk : k < l.length), b ≤ k → 0 ≤ c (l[k]'hk)) ∧ Aside0 (Below w.heap.size w wr)) (fun i j h _ => (intOf j).toNat - (intOf i).toNat)
  case atStart => exact ⟨0, l.length, Nat.zero_le _, Nat.le_refl _, rfl, rfl, ⟨fun k hk h => absurd h (Nat.not_lt_zero _)⟩, ⟨fun k hk h => absurd h (by omega)⟩, ⟨Below.refl _ _⟩⟩
  case round =>
    obtain ⟨a, b, hab, hbl, rfl, rfl, HP, HQ, HB⟩ := hrel
    by_cases hlt : a < b
    · obtain ⟨h, hh1, hh2, hw⟩ : ∃ h : Nat, a ≤ h ∧ h < b ∧ wrap64 (IntKind.u64.wrap (wrap64 ((a : Int) + b)) / 2) = (h : Int) := by
        refine ⟨(a + b) / 2, by omega, by omega, ?_⟩
        have e : IntKind.u64.wrap (wrap64 ((a : Int) + b)) = (a : Int) + b := by
          rw [IntKind.wrap_u64]
          unfold wrap64
          omega
        rw [e, w_id (by omega) (by omega)]
        omega
      obtain ⟨ad, cs, hA, hcl, hK, hcc⟩ := Kd.C_get (Kd.C_below HR.out HB.out) z102 (h : Int) (by omega) (by omega)
      rw [Int.toNat_natCast, getD_at (show h < l.length by omega)] at hK
      obtain ⟨x, hx⟩ : ∃ x, l[h]'(show h < l.length by omega) = x := ⟨_, rfl⟩
      have HX := Aside0.mk hx
      rw [hx] at hK
      obtain ⟨B1, b1, rfl, lb1, gb1⟩ := k102_open hK
      subst hA
      have hc0 : ∀ j u, ([.string x.f0, .slice B1 x.f1.length b1] : List Value)[j]? = some u → wr.cell? (ad.add (h * 2 + j)) = some u := by
        intro j u hu
        have := hcc j u hu
        rwa [Int.toNat_natCast] at this
      have f0 : wr.cell? (ad.add (h * 2)) = some (.string x.f0) := hc0 0 _ rfl
      have f1 : wr.cell? ⟨(ad.add (h * 2)).block, (ad.add (h * 2)).off + 1, none⟩ = some (.slice B1 x.f1.length b1) := by rw [← add_field _ _ 1 (by omega)]; exact hc0 1 _ rfl
      have hcall := HCALL.out wr x B1 b1
      rw [← HC.out x] at hcall
      clear lb1 gb1 hc0 hcc hcl hK hx
      obtain ⟨q, hq⟩ : ∃ q, c x = q := ⟨_, rfl⟩
      rw [hq] at hcall
      have HQQ := Aside0.mk hq
      clear hq
      by_cases hneg : q < 0
      · have hd : decide (q < 0) = true := decide_eq_true hneg
        clear hneg
        go_wp2_with (go_at_fn 104; refine hcall.mono ?_; rintro e w' ⟨rfl, hb'⟩)
        go_roundw
        case rel =>
          refine ⟨h + 1, b, by omega, hbl, by go_num, rfl, ⟨fun k hk hkh => ?_⟩, HQ, ⟨below_then HB.out HB.out.size hb'⟩⟩
          have hxl : c (l[h]'(by omega)) < 0 := by rw [HX.out, HQQ.out]; exact of_decide_eq_true hd
          exact HS.out k h (by omega) (by omega) hxl
        case measure => simp [intOf]; omega
      · have hd : decide (q < 0) = false := decide_eq_false hneg
        clear hneg
        go_wp2_with (go_at_fn 104; refine hcall.mono ?_; rintro e w' ⟨rfl, hb'⟩)
        go_roundw
        case rel =>
          refine ⟨a, h, hh1, by omega, rfl, rfl, HP, ⟨fun k hk hkh => ?_⟩, ⟨below_then HB.out HB.out.size hb'⟩⟩
          rcases Int.lt_or_le (c (l[k]'hk)) 0 with hneg' | hge
          · have hxl : c (l[h]'(by omega)) < 0 := HS.out h k hk hkh hneg'
            rw [HX.out, HQQ.out] at hxl
            exact absurd hxl (of_decide_eq_false hd)
          · exact hge
        case measure => simp [intOf]; omega
    · obtain rfl : a = b := by omega
      have HI := Aside0.mk (bsI_at hbl HP.out (fun h => by have := HQ.out a h (Nat.le_refl _); omega))
      by_cases hal : a < l.length
      · obtain ⟨ad, cs, hA, hcl, hK, hcc⟩ := Kd.C_get (Kd.C_below HR.out HB.out) z102 (a : Int) (by omega) (by omega)
        rw [Int.toNat_natCast, getD_at hal] at hK
        obtain ⟨x, hx⟩ : ∃ x, l[a]'hal = x := ⟨_, rfl⟩
        have HX := Aside0.mk hx
        rw [hx] at hK
        obtain ⟨B1, b1, rfl, lb1, gb1⟩ := k102_open hK
        subst hA
        have hc0 : ∀ j u, ([.string x.f0, .slice B1 x.f1.length b1] : List Value)[j]? = some u → wr.cell? (ad.add (a * 2 + j)) = some u := by
          intro j u hu
          have := hcc j u hu
          rwa [Int.toNat_natCast] at this
        have f0 : wr.cell? (ad.add (a * 2)) = some (.string x.f0) := hc0 0 _ rfl
        have f1 : wr.cell? ⟨(ad.add (a * 2)).block, (ad.add (a * 2)).off + 1, none⟩ = some (.slice B1 x.f1.length b1) := by rw [← add_field _ _ 1 (by omega)]; exact hc0 1 _ rfl
        have hcall := HCALL.out wr x B1 b1
        rw [← HC.out x] at hcall
        have HBB : Aside0 (bsB c l = decide (c x = 0)) := ⟨by unfold bsB; rw [HI.out, List.getElem?_eq_getElem hal, hx]⟩
        clear lb1 gb1 hc0 hcc hcl hK hx
        obtain ⟨q, hq⟩ : ∃ q, c x = q := ⟨_, rfl⟩
        rw [hq] at hcall HBB
        clear hq
        go_wp2_with (go_at_fn 104; refine hcall.mono ?_; rintro e w' ⟨rfl, hb'⟩)
        go_ret2
        exact ⟨by rw [HI.out, HBB.out]; rfl, below_then HB.out HB.out.size hb'⟩
      · obtain rfl : a = l.length := by omega
        have HBB : Aside0 (bsB c l = false) := ⟨by unfold bsB; rw [HI.out, List.getElem?_eq_none (Nat.le_refl _)]⟩
        go_wp2
        go_ret2
        exact ⟨by rw [HI.out, HBB.out]; rfl, HB.out⟩

/-! ### the entry behind a pointer -/
/-- An entry's attributes, read behind a pointer to it: block g. -/
structure EntAt (W : World) (g : Nat) (A0 : Option Addr) (n0 c0 : Nat) (A1 : Option Addr) (c1 : Nat) (l : List S102) : Prop where
  e0 : W.cell? ⟨g, 0, none⟩ = some (.slice A0 n0 c0)
  e1 : W.cell? ⟨g, 1, none⟩ = some (.slice A1 l.length c1)
  le : l.length ≤ c1
  row : Kd.C k102 W A1 l.length l
theorem EntAt.below {W W' : World} {g : Nat} {A0 : Option Addr} {n0 c0 : Nat} {A1 : Option Addr} {c1 : Nat} {l : List S102} (h : EntAt W g A0 n0 c0 A1 c1 l) (hb : Below W.heap.size W W') : EntAt W' g A0 n0 c0 A1 c1 l :=
  ⟨pw_cell_below hb h.e0, pw_cell_below hb h.e1, h.le, Kd.C_below h.row hb⟩
/-- The names rise: what the search asks. -/
def Rises (l : List S102) : Prop := ∀ name a b (hb : b < l.length) (hab : a ≤ b), cmpS (l[b]'hb).f0 name < 0 → cmpS (l[a]'(by omega)).f0 name < 0
def findI (name : ByteArray) (l : List S102) : Nat := bsI (fun x => cmpS x.f0 name) l
def findB (name : ByteArray) (l : List S102) : Bool := bsB (fun x => cmpS x.f0 name) l
set_option maxHeartbeats 1000000 in
theorem find_calls (g : Nat) (A0 : Option Addr) (n0 c0 : Nat) (A1 : Option Addr) (c1 : Nat) (l : List S102) (name : ByteArray) (W : World) (he : EntAt W g A0 n0 c0 A1 c1 l) (hs : Rises l) :
    Calls Tryd.prog 72 #[.pointer (some ⟨g, 0, none⟩), .string name] W fun e w' => e = .returned (.tuple #[.int .i64 (findI name l), .bool (findB name l)]) ∧ Below W.heap.size W w' := by
  have hcon := bsearch_any name (fun x => cmpS x.f0 name) (fun _ => rfl) A1 c1 l W he.row (hs name)
  change Calls _ _ _ _ fun e w' => e = .returned (.tuple #[.int .i64 (findI name l), .bool (findB name l)]) ∧ Below W.heap.size W w' at hcon
  have f1 := he.e1
  generalize (findI name l) = i at hcon ⊢
  generalize (findB name l) = b at hcon ⊢
  clear he hs
  go_enter Tryd.func72, Tryd.ntmps72
  go_wp2_with (go_at_call 103; refine hcon.mono ?_; rintro e w' ⟨rfl, hb'⟩)
  go_ret2
  exact ⟨rfl, hb'⟩
/-- The values of a name: none, if it is not there. -/
def valsOf (name : ByteArray) (l : List S102) : List ByteArray := if findB name l then (rd_T102 l (findI name l)).f1 else []
theorem findB_lt {name : ByteArray} {l : List S102} (h : findB name l = true) : findI name l < l.length := by
  unfold findB bsB at h
  unfold findI
  split at h
  · rename_i x hx
    exact (List.getElem?_eq_some_iff.1 hx).1
  · cases h
/-- A row of strings that is handed back, and that lay in W0; all that was lies as it was. -/
def RetStrs (W0 W : World) (l : List ByteArray) (e : Ending) (w' : World) : Prop := ∃ A c, e = .returned (.slice A l.length c) ∧ l.length ≤ c ∧ Kd.C Kd.string W0 A l.length l ∧ Below W.heap.size W w'
theorem attr_at {W : World} {A1 : Option Addr} {l : List S102} (hr : Kd.C k102 W A1 l.length l) {i : Nat} (hi : i < l.length) : ∃ ad B1 b1, A1 = some ad ∧ W.cell? (ad.add (i * 2)) = some (.string (rd_T102 l i).f0) ∧
    W.cell? ⟨(ad.add (i * 2)).block, (ad.add (i * 2)).off + 1, none⟩ = some (.slice B1 (rd_T102 l i).f1.length b1) ∧ (rd_T102 l i).f1.length ≤ b1 ∧ Kd.C Kd.string W B1 (rd_T102 l i).f1.length (rd_T102 l i).f1 := by
  have := at_T102 hr (i : Int) (by omega) (by omega)
  rw [Int.toNat_natCast] at this
  exact this
set_option maxHeartbeats 1000000 in
theorem values_calls (g : Nat) (A0 : Option Addr) (n0 c0 : Nat) (A1 : Option Addr) (c1 : Nat) (l : List S102) (name : ByteArray) (W0 W : World) (he : EntAt W0 g A0 n0 c0 A1 c1 l) (hbel : Below W0.heap.size W0 W) (hs : Rises l) :
    Calls Tryd.prog 39 #[.pointer (some ⟨g, 0, none⟩), .string name] W (RetStrs W0 W (valsOf name l)) := by
  have hcon := find_calls g A0 n0 c0 A1 c1 l name W (he.below hbel) hs
  unfold valsOf
  cases hb : findB name l with
  | false =>
    rw [hb] at hcon
    rw [if_neg (by simp)]
    generalize (findI name l) = i at hcon ⊢
    clear he hs hb hbel
    go_enter Tryd.func39, Tryd.ntmps39
    go_wp2_with (go_at_call 72; refine hcon.mono ?_; rintro e w' ⟨rfl, hb'⟩)
    go_ret
    exact ⟨none, 0, rfl, Nat.le_refl _, Kd.C_nil _ _, hb'⟩
  | true =>
    have hlt := findB_lt hb
    rw [hb] at hcon
    rw [if_pos rfl]
    have HE := Aside0.mk he
    obtain ⟨i, hi⟩ : ∃ i : Nat, findI name l = i := ⟨_, rfl⟩
    rw [hi] at hcon hlt ⊢
    have hmx := Kd.C_max he.row
    have hle := he.le
    have hx0 := attr_at he.row hlt
    have HBEL := Aside0.mk hbel
    clear he hs hb hi hbel
    obtain ⟨x, hx⟩ : ∃ x, rd_T102 l (i : Int) = x := ⟨_, rfl⟩
    rw [hx] at hx0 ⊢
    clear hx
    obtain ⟨ad, B1, b1, rfl, f2, f3, hl3, hc3⟩ := hx0
    have HC3 := Aside0.mk hc3
    have HL3 := Aside0.mk hl3
    have F2 := Aside0.mk f2
    have F3 := Aside0.mk f3
    clear hc3 hl3 f2 f3
    go_enter Tryd.func39, Tryd.ntmps39
    go_wp2_with (go_at_call 72; refine hcon.mono ?_; rintro e w1 ⟨rfl, hb'⟩; have hB1 := below_step HBEL.out hb'; have f1 := (HE.out.below hB1).e1; have f2 := pw_cell_below hB1 F2.out; have f3 := pw_cell_below hB1 F3.out)
    go_ret
    exact ⟨B1, b1, rfl, HL3.out, HC3.out, hb'⟩
end Go.Proofs.YthapodlehfblgaaDoor.PA
