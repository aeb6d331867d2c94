/-
  The program's turnedCase and the reference's l13Case at the letters' bounds: a text with its letters turned. Condition: the text's length.
-/
import Derived.Test.YtpocoeghobdfiaaGreatDoorEEP1
import Derived.Test.YtpocoeghobdfiaaGreatDoorEEGen
namespace Go.Proofs.YtpocoeghobdfiaaGreatDoor.PG
open Go.RowKit Go.Proofs.YtpocoeghobdfiaaGreatDoorW.PrintWords Go.Proofs.YtpocoeghobdfiaaGreatDoorW.PrintLast Go.Proofs.YtpocoeghobdfiaaGreatDoorW.PrintMore Go.Proofs.YtpocoeghobdfiaaGreatDoor.Gn
attribute [local go_sem] max2_int min2_int max_two min_two max_three min_three max_four min_four
set_option linter.unusedVariables false
set_option linter.unusedSimpArgs false

def turn1 (upper : Bool) (c : Int) : Int := if upper = true then (if 97 ≤ c ∧ c ≤ 122 then c - 32 else c) else (if 65 ≤ c ∧ c ≤ 90 then c + 32 else c)
def caseS (upper : Bool) (s : ByteArray) : ByteArray := strOfNums ((bytesOf s).map (turn1 upper))
/-- A row of bytes of the call's own, marked behind its end. -/
def BytesIn (W : World) (g : Nat) (xs : List Int) : Prop := ∃ cs : Array Value, W.heap[g]? = some (.cells cs 5 (cs.size, cs.size + 1)) ∧ xs.length ≤ cs.size ∧ ∀ j (h : j < xs.length), cs[j]? = some (.int .u8 (xs[j]'h))
theorem BytesIn.cell {W : World} {g : Nat} {xs : List Int} (h : BytesIn W g xs) (j : Nat) (hj : j < xs.length) : W.cell? ⟨g, j, none⟩ = some (.int .u8 (xs[j]'hj)) ∧ W.frozen? ⟨g, j, none⟩ = false := by
  obtain ⟨cs, h1, h2, h3⟩ := h
  refine ⟨?_, ?_⟩
  · simp [World.cell?, h1, h3 j hj]
  · simp [World.frozen?, h1]
    omega
theorem BytesIn.put {W : World} {g : Nat} {xs : List Int} (h : BytesIn W g xs) (j : Nat) (hj : j < xs.length) (y : Int) : BytesIn (W.setCell ⟨g, j, none⟩ (.int .u8 y)) g (xs.set j y) := by
  obtain ⟨cs, h1, h2, h3⟩ := h
  have h4 : (W.setCell ⟨g, j, none⟩ (.int .u8 y)).heap[g]? = some (.cells (cs.setIfInBounds j (.int .u8 y)) 5 (cs.size, cs.size + 1)) := by
    have hlt : g < W.heap.size := (Array.getElem?_eq_some_iff.1 h1).1
    simp [World.setCell, Array.getElem?_modify, h1]
  refine ⟨cs.setIfInBounds j (.int .u8 y), by rw [Array.size_setIfInBounds]; exact h4, by rw [Array.size_setIfInBounds, List.length_set]; exact h2, fun i hi => ?_⟩
  have hi' : i < xs.length := by simpa using hi
  by_cases hij : j = i
  · subst hij
    rw [Array.getElem?_setIfInBounds_self_of_lt (by omega)]
    simp
  · rw [Array.getElem?_setIfInBounds_ne hij, h3 i hi']
    simp [List.getElem_set, hij]
theorem bytes_in (W : World) (s : ByteArray) : BytesIn (Lib.bytesWorld W 5 s) W.heap.size (bytesOf s) := by
  refine ⟨_, Lib.bytesWorld_at_new W 5 s, ?_, fun j hj => ?_⟩
  · rw [bytesOf_length]
    unfold Lib.bytesCells
    simp
  · have h1 : (Lib.bytesCells W 5 s)[j]? = some (.int .u8 ((s.data.toList.getD j 0).toNat : Int)) := by
      have h0 := Lib.bytesWorld_cell W 5 s j (by rwa [bytesOf_length] at hj)
      simpa [World.cell?, Lib.bytesWorld_at_new] using h0
    rw [h1]
    have hj' : j < s.data.toList.length := by rw [data_length]; rwa [bytesOf_length] at hj
    simp [bytesOf, List.getD_eq_getElem?_getD, List.getElem?_eq_getElem hj']
theorem BytesIn.reads {W : World} {g : Nat} {xs : List Int} (h : BytesIn W g xs) (hl : xs.length ≤ 9223372036854775807) : ReadsInt W .u8 (some ⟨g, 0, none⟩) xs.length xs := by
  refine ⟨rfl, hl, fun _ => ⟨_, rfl, fun j hj => ?_⟩⟩
  rw [add_plain, (h.cell j hj).1]
  simp [List.getD_eq_getElem?_getD, List.getElem?_eq_getElem hj]
theorem turned_step (f : Int → Int) (l : List Int) (k : Nat) (hk : k < l.length) : ((l.take k).map f ++ l.drop k).set k (f (l[k]'hk)) = (l.take (k + 1)).map f ++ l.drop (k + 1) := by
  rw [List.take_succ_eq_append_getElem hk, List.map_append, List.set_append_right _ _ (by simp; omega)]
  have e : ∀ (m : List Int) (h : m = l[k]'hk :: l.drop (k + 1)), m.set 0 (f (l[k]'hk)) = f (l[k]'hk) :: l.drop (k + 1) := fun m h => by rw [h]; rfl
  simp [Nat.min_eq_left (Nat.le_of_lt hk), e _ (List.drop_eq_getElem_cons hk)]
theorem turned_stay (f : Int → Int) (l : List Int) (k : Nat) (hk : k < l.length) (h : f (l[k]'hk) = l[k]'hk) : (l.take k).map f ++ l.drop k = (l.take (k + 1)).map f ++ l.drop (k + 1) := by
  rw [List.take_succ_eq_append_getElem hk, List.map_append, List.drop_eq_getElem_cons hk]
  simp [h]
set_option maxHeartbeats 4000000 in
set_option maxRecDepth 100000 in
theorem turned_calls (upper : Bool) (lo hi : Int) (hlo : (upper = true ∧ lo = 97 ∧ hi = 65) ∨ (upper = false ∧ lo = 65 ∧ hi = 97)) (s : ByteArray) (hs : s.size ≤ 140737488351232) (w : World) :
    Calls Tryz.prog 116 #[.string s, .int .u8 lo, .int .u8 hi] w fun e w' => e = .returned (.string (caseS upper s)) ∧ Below w.heap.size w w' := by
  have hcv := print_bytes (P := Tryz.prog) 9 165 5 Tryz.underlying9 Tryz.underlying165 Tryz.underlying5 s w
  obtain ⟨wb, hwb⟩ : ∃ wb, Lib.bytesWorld w 5 s = wb := ⟨_, rfl⟩
  obtain ⟨cap, hcap⟩ : ∃ cap, grownCap w s.size 0 5 = cap := ⟨_, rfl⟩
  have HBI : Aside0 (BytesIn wb w.heap.size (bytesOf s)) := ⟨by rw [← hwb]; exact bytes_in w s⟩
  have HBW : Aside0 (Below w.heap.size w wb) := ⟨by rw [← hwb]; exact bytes_below (Below.refl _ _) (Nat.le_refl _) _ _⟩
  rw [hwb, hcap] at hcv
  clear hwb hcap
  have HS := Aside0.mk hs
  clear hs
  go_enter Tryz.func116, Tryz.ntmps116
  go_wp2
  go_loopw [8, 9, 14] (fun s8 s9 s14 wr => ∃ k : Nat, k ≤ s.size ∧ s14 = .int .i64 k ∧ Aside0 (BytesIn wr w.heap.size (((bytesOf s).take k).map (turn1 upper) ++ (bytesOf s).drop k)) ∧ Aside0 (Below w.heap.size w wr)) (fun s8 s9 s14 _ => s.size - (intOf s14).toNat)
  case atStart => exact ⟨0, Nat.zero_le _, rfl, ⟨by simpa using HBI.out⟩, HBW⟩
  case round =>
    obtain ⟨k, hk, rfl, HY, HBr⟩ := hrel
    have hbl : (bytesOf s).length = s.size := bytesOf_length s
    have hyl : (((bytesOf s).take k).map (turn1 upper) ++ (bytesOf s).drop k).length = s.size := by simp [hbl]; omega
    have HBL := Aside0.mk hbl
    have HYL := Aside0.mk hyl
    clear hbl hyl
    by_cases hlt : k < s.size
    · have hkb : k < (bytesOf s).length := by rw [HBL.out]; exact hlt
      obtain ⟨x, hx⟩ : ∃ x, (bytesOf s)[k]'hkb = x := ⟨_, rfl⟩
      have hxb : 0 ≤ x ∧ x ≤ 255 := by
        rw [← hx]
        simp [bytesOf]
        have := (s.data[k]'(by simpa using hlt)).toNat_lt
        omega
      have hcell := HY.out.cell k (by rw [HYL.out]; exact hlt)
      have hxe : (((bytesOf s).take k).map (turn1 upper) ++ (bytesOf s).drop k)[k]'(by rw [HYL.out]; exact hlt) = x := by
        rw [List.getElem_append_right (by simp; omega)]
        simp [Nat.min_eq_left (Nat.le_of_lt hkb), hx]
      rw [hxe] at hcell
      obtain ⟨hcl, hcf⟩ := hcell
      have HX := Aside0.mk hx
      have HXE := Aside0.mk hxe
      obtain ⟨hx0, hx1⟩ := hxb
      clear hx hxe
      have hmax : s.size ≤ 140737488351232 := HS.out
      rcases hlo with ⟨rfl, rfl, rfl⟩ | ⟨rfl, rfl, rfl⟩
      · by_cases c1 : 97 ≤ x
        · by_cases c2 : x ≤ 122
          · have d1 : decide (x ≥ 97) = true := decide_eq_true c1
            have d2 : decide (x < 123) = true := decide_eq_true (by omega)
            go_wp2
            go_roundw
            case rel =>
              refine ⟨k + 1, by omega, by go_num, ⟨?_⟩, ⟨below_set HBr.out (Nat.le_refl _)⟩⟩
              have e1 : x - 97 + 65 = turn1 true ((bytesOf s)[k]'hkb) := by rw [HX.out]; simp [turn1, c1, c2]; omega
              have e2 := HY.out.put k (by rw [HYL.out]; exact hlt) (x - 97 + 65)
              rw [e1, turned_step _ _ _ hkb, ← e1] at e2
              exact e2
            case measure => simp [intOf]; omega
          · have d1 : decide (x ≥ 97) = true := decide_eq_true c1
            have d2 : decide (x < 123) = false := decide_eq_false (by omega)
            go_wp2
            go_roundw
            case rel => exact ⟨k + 1, by omega, by go_num, ⟨by rw [← turned_stay _ _ _ hkb (by rw [HX.out]; simp [turn1, c1, c2])]; exact HY.out⟩, HBr⟩
            case measure => simp [intOf]; omega
        · have d1 : decide (x ≥ 97) = false := decide_eq_false c1
          go_wp2
          go_roundw
          case rel => exact ⟨k + 1, by omega, by go_num, ⟨by rw [← turned_stay _ _ _ hkb (by rw [HX.out]; simp [turn1, c1])]; exact HY.out⟩, HBr⟩
          case measure => simp [intOf]; omega
      · by_cases c1 : 65 ≤ x
        · by_cases c2 : x ≤ 90
          · have d1 : decide (x ≥ 65) = true := decide_eq_true c1
            have d2 : decide (x < 91) = true := decide_eq_true (by omega)
            go_wp2
            go_roundw
            case rel =>
              refine ⟨k + 1, by omega, by go_num, ⟨?_⟩, ⟨below_set HBr.out (Nat.le_refl _)⟩⟩
              have e1 : x - 65 + 97 = turn1 false ((bytesOf s)[k]'hkb) := by rw [HX.out]; simp [turn1, c1, c2]; omega
              have e2 := HY.out.put k (by rw [HYL.out]; exact hlt) (x - 65 + 97)
              rw [e1, turned_step _ _ _ hkb, ← e1] at e2
              exact e2
            case measure => simp [intOf]; omega
          · have d1 : decide (x ≥ 65) = true := decide_eq_true c1
            have d2 : decide (x < 91) = false := decide_eq_false (by omega)
            go_wp2
            go_roundw
            case rel => exact ⟨k + 1, by omega, by go_num, ⟨by rw [← turned_stay _ _ _ hkb (by rw [HX.out]; simp [turn1, c1, c2])]; exact HY.out⟩, HBr⟩
            case measure => simp [intOf]; omega
        · have d1 : decide (x ≥ 65) = false := decide_eq_false c1
          go_wp2
          go_roundw
          case rel => exact ⟨k + 1, by omega, by go_num, ⟨by rw [← turned_stay _ _ _ hkb (by rw [HX.out]; simp [turn1, c1])]; exact HY.out⟩, HBr⟩
          case measure => simp [intOf]; omega
    · have hks : k = s.size := by omega
      subst hks
      have HR : ReadsInt wr .u8 (some ⟨w.heap.size, 0, none⟩) s.size ((bytesOf s).map (turn1 upper)) := by
        have h0 := HY.out
        rw [← HBL.out, List.take_length, List.drop_length, List.append_nil] at h0
        have h1 := h0.reads (by rw [List.length_map, HBL.out]; exact Int.ofNat_le.1 (by have := HS.out; omega))
        rwa [List.length_map, HBL.out] at h1
      have hcs := string_of_reads (P := Tryz.prog) (c := cap) Tryz.underlying165 Tryz.underlying5 Tryz.underlying9 HR
      clear HR
      go_wp2
      exact ⟨rfl, _, results_tmp rfl _ _ _, rfl, HBr.out⟩
set_option maxHeartbeats 4000000 in
set_option maxRecDepth 100000 in
theorem caseS_calls (upper : Bool) (s : ByteArray) (hs : s.size ≤ 140737488351232) (w : World) :
    Calls Tryz.prog 104 #[.string s, .bool upper] w fun e w' => e = .returned (.string (caseS upper s)) ∧ Below w.heap.size w w' := by
  have hcv := print_bytes (P := Tryz.prog) 9 165 5 Tryz.underlying9 Tryz.underlying165 Tryz.underlying5 s w
  obtain ⟨wb, hwb⟩ : ∃ wb, Lib.bytesWorld w 5 s = wb := ⟨_, rfl⟩
  obtain ⟨cap, hcap⟩ : ∃ cap, grownCap w s.size 0 5 = cap := ⟨_, rfl⟩
  have HBI : Aside0 (BytesIn wb w.heap.size (bytesOf s)) := ⟨by rw [← hwb]; exact bytes_in w s⟩
  have HBW : Aside0 (Below w.heap.size w wb) := ⟨by rw [← hwb]; exact bytes_below (Below.refl _ _) (Nat.le_refl _) _ _⟩
  rw [hwb, hcap] at hcv
  clear hwb hcap
  have HS := Aside0.mk hs
  clear hs
  go_enter Tryz.func104, Tryz.ntmps104
  go_wp2
  go_loopw [6] (fun s6 wr => ∃ k : Nat, k ≤ s.size ∧ s6 = .int .i64 k ∧ Aside0 (BytesIn wr w.heap.size (((bytesOf s).take k).map (turn1 upper) ++ (bytesOf s).drop k)) ∧ Aside0 (Below w.heap.size w wr)) (fun s6 _ => s.size - (intOf s6).toNat)
  case atStart => exact ⟨0, Nat.zero_le _, rfl, ⟨by simpa using HBI.out⟩, HBW⟩
  case round =>
    obtain ⟨k, hk, rfl, HY, HBr⟩ := hrel
    have hbl : (bytesOf s).length = s.size := bytesOf_length s
    have hyl : (((bytesOf s).take k).map (turn1 upper) ++ (bytesOf s).drop k).length = s.size := by simp [hbl]; omega
    have HBL := Aside0.mk hbl
    have HYL := Aside0.mk hyl
    clear hbl hyl
    by_cases hlt : k < s.size
    · have hkb : k < (bytesOf s).length := by rw [HBL.out]; exact hlt
      obtain ⟨x, hx⟩ : ∃ x, (bytesOf s)[k]'hkb = x := ⟨_, rfl⟩
      have hxb : 0 ≤ x ∧ x ≤ 255 := by
        rw [← hx]
        simp [bytesOf]
        have := (s.data[k]'(by simpa using hlt)).toNat_lt
        omega
      have hcell := HY.out.cell k (by rw [HYL.out]; exact hlt)
      have hxe : (((bytesOf s).take k).map (turn1 upper) ++ (bytesOf s).drop k)[k]'(by rw [HYL.out]; exact hlt) = x := by
        rw [List.getElem_append_right (by simp; omega)]
        simp [Nat.min_eq_left (Nat.le_of_lt hkb), hx]
      rw [hxe] at hcell
      obtain ⟨hcl, hcf⟩ := hcell
      have HX := Aside0.mk hx
      have HXE := Aside0.mk hxe
      obtain ⟨hx0, hx1⟩ := hxb
      clear hx hxe
      have hmax : s.size ≤ 140737488351232 := HS.out
      cases upper
      · by_cases c1 : 65 ≤ x
        · by_cases c2 : x ≤ 90
          · have d1 : decide (x ≥ 65) = true := decide_eq_true c1
            have d2 : decide (x ≤ 90) = true := decide_eq_true c2
            go_wp2
            go_roundw
            case rel =>
              refine ⟨k + 1, by omega, by go_num, ⟨?_⟩, ⟨below_set HBr.out (Nat.le_refl _)⟩⟩
              have e1 : x + 32 = turn1 false ((bytesOf s)[k]'hkb) := by rw [HX.out]; simp [turn1, c1, c2]
              have e2 := HY.out.put k (by rw [HYL.out]; exact hlt) (x + 32)
              rw [e1, turned_step _ _ _ hkb, ← e1] at e2
              exact e2
            case measure => simp [intOf]; omega
          · have d1 : decide (x ≥ 65) = true := decide_eq_true c1
            have d2 : decide (x ≤ 90) = false := decide_eq_false c2
            go_wp2
            go_roundw
            case rel => exact ⟨k + 1, by omega, by go_num, ⟨by rw [← turned_stay _ _ _ hkb (by rw [HX.out]; simp [turn1, c1, c2])]; exact HY.out⟩, HBr⟩
            case measure => simp [intOf]; omega
        · have d1 : decide (x ≥ 65) = false := decide_eq_false c1
          go_wp2
          go_roundw
          case rel => exact ⟨k + 1, by omega, by go_num, ⟨by rw [← turned_stay _ _ _ hkb (by rw [HX.out]; simp [turn1, c1])]; exact HY.out⟩, HBr⟩
          case measure => simp [intOf]; omega
      · by_cases c1 : 97 ≤ x
        · by_cases c2 : x ≤ 122
          · have d1 : decide (x ≥ 97) = true := decide_eq_true c1
            have d2 : decide (x ≤ 122) = true := decide_eq_true c2
            go_wp2
            go_roundw
            case rel =>
              refine ⟨k + 1, by omega, by go_num, ⟨?_⟩, ⟨below_set HBr.out (Nat.le_refl _)⟩⟩
              have e1 : x - 32 = turn1 true ((bytesOf s)[k]'hkb) := by rw [HX.out]; simp [turn1, c1, c2]
              have e2 := HY.out.put k (by rw [HYL.out]; exact hlt) (x - 32)
              rw [e1, turned_step _ _ _ hkb, ← e1] at e2
              exact e2
            case measure => simp [intOf]; omega
          · have d1 : decide (x ≥ 97) = true := decide_eq_true c1
            have d2 : decide (x ≤ 122) = false := decide_eq_false c2
            go_wp2
            go_roundw
            case rel => exact ⟨k + 1, by omega, by go_num, ⟨by rw [← turned_stay _ _ _ hkb (by rw [HX.out]; simp [turn1, c1, c2])]; exact HY.out⟩, HBr⟩
            case measure => simp [intOf]; omega
        · have d1 : decide (x ≥ 97) = false := decide_eq_false c1
          go_wp2
          go_roundw
          case rel => exact ⟨k + 1, by omega, by go_num, ⟨by rw [← turned_stay _ _ _ hkb (by rw [HX.out]; simp [turn1, c1])]; exact HY.out⟩, HBr⟩
          case measure => simp [intOf]; omega
    · have hks : k = s.size := by omega
      subst hks
      have HR : ReadsInt wr .u8 (some ⟨w.heap.size, 0, none⟩) s.size ((bytesOf s).map (turn1 upper)) := by
        have h0 := HY.out
        rw [← HBL.out, List.take_length, List.drop_length, List.append_nil] at h0
        have h1 := h0.reads (by rw [List.length_map, HBL.out]; exact Int.ofNat_le.1 (by have := HS.out; omega))
        rwa [List.length_map, HBL.out] at h1
      have hcs := string_of_reads (P := Tryz.prog) (c := cap) Tryz.underlying165 Tryz.underlying5 Tryz.underlying9 HR
      clear HR
      go_wp2
      exact ⟨rfl, _, results_tmp rfl _ _ _, rfl, HBr.out⟩
end Go.Proofs.YtpocoeghobdfiaaGreatDoor.PG
