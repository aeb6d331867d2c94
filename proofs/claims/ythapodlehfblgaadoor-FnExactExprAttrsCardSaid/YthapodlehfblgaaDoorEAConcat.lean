/-
  slices.Concat at lists of strings, and the program's union over it: what they hand back. Condition: the joined list's size.
-/
import Derived.Test.YthapodlehfblgaaDoorEAWords
import Derived.Test.YthapodlehfblgaaDoorEAStrRow
namespace Go.Proofs.YthapodlehfblgaaDoor.PG
set_option linter.unusedVariables false
set_option linter.unusedSimpArgs false
open Go.RowKit Go.Proofs.YthapodlehfblgaaDoorW.PrintWords Go.Proofs.YthapodlehfblgaaDoorW.PrintLast Go.Proofs.YthapodlehfblgaaDoorW.PrintMore Go.Proofs.YthapodlehfblgaaDoor.Gn
attribute [local go_sem] max2_int min2_int max_two min_two max_three min_three max_four min_four World.cell?_drew World.frozen?_drew

theorem infoS : (Tryd.prog.info? 9).map (fun i => (i.zero, i.size, i.bytes)) = some (some (.string ⟨#[]⟩), 1, 16) := by kernel_rfl
def RetStrs (l : List ByteArray) (w : World) (e : Ending) (w' : World) : Prop :=
  ∃ A c, e = .returned (.slice A l.length c) ∧ Kd.R Kd.string 9 w' w.heap.size (fun _ => True) (.slice A l.length c) l ∧ Below w.heap.size w w'
theorem grow_pos {n : Nat} (h : wrap64 (n : Int) = n) : 0 ≤ wrap64 (n : Int) := by
  rw [h]
  exact Int.natCast_nonneg n
theorem grow_lim {n : Nat} (hl : n * 16 ≤ 140737488355328) (h : wrap64 (n : Int) = n) : (([] : List ByteArray).length + (wrap64 (n : Int)).toNat) * 16 ≤ 140737488355328 := by
  rw [h]
  simpa using hl
set_option maxHeartbeats 1000000 in
set_option maxRecDepth 100000 in
theorem grow_strs (n : Nat) (w : World) (hl : n * 16 ≤ 140737488355328) : Calls Tryd.prog 127 #[.slice none 0 0, .int .i64 n] w (RetStrs [] w) := by
  have hp : ¬ (n : Int) < 0 := by omega
  have HW := Aside0.mk (show wrap64 (n : Int) = n from w_id (by omega) (by omega))
  have HL := Aside0.mk hl
  clear hl
  have hres : Tryd.f127.results = #[.tmp 4] := rfl
  have hw := HW.out
  go_enter Tryd.func127, Tryd.ntmps127
  go_wp2_with ((with_reducible refine gate_builtin (b := .append) (xs := #[.tmp 20, .tmp 21]) rfl ?_); at_builtin; refine Kd.R_append_zeros Kd.string (w0 := w) w.heap.size rfl (.tmp 20) (.tmp 21) 27 3 9 (.string ⟨#[]⟩) 16 rfl Tryd.underlying27 Tryd.underlying3 infoS rfl (by decide) (by decide) (.slice none 0 0) [] (⟨#[]⟩ : ByteArray) (wrap64 (n : Int)) (fun _ => True) rfl rfl ?aZ ?aF ?aO ?a0 ?aB ?aS ?aL ?_; (case aZ => exact rfl); (case aF => exact fun _ _ => trivial); (case aO => exact Kd.R_nil _ _ _ _ _); (case a0 => exact grow_pos HW.out); (case aB => exact Below.refl _ _); (case aS => exact Nat.le_refl _); (case aL => exact grow_lim HL.out HW.out); intro v1 w1 hv hb1 hg1 hx; obtain ⟨A1, c1, rfl⟩ := Kd.R_slice hv)
  · refine bodyPost_ret (results_tmp hres _ _ _) rfl ?_
    exact ⟨A1, c1, rfl, Kd.R_take hv (m := 0) (Nat.zero_le _), hb1⟩
  · refine bodyPost_ret (results_tmp hres _ _ _) rfl ?_
    exact ⟨none, 0, rfl, Kd.R_nil _ _ _ _ _, Below.refl _ _⟩
theorem flat_take {α : Type} (ls : List (List α)) {k : Nat} (h : k < ls.length) : (ls.take (k + 1)).flatten = (ls.take k).flatten ++ ls[k]'h := by
  rw [List.take_succ_eq_append_getElem h, List.flatten_append]
  simp
theorem flat_le {α : Type} (ls : List (List α)) (k : Nat) : (ls.take k).flatten.length ≤ ls.flatten.length := by
  conv => rhs; rw [← List.take_append_drop k ls, List.flatten_append, List.length_append]
  omega
set_option maxHeartbeats 4000000 in
set_option maxRecDepth 100000 in
theorem concat_strs (A : Option Addr) (c : Nat) (ls : List (List ByteArray)) (w : World) (hr : Kd.C (Kd.slice 9 Kd.string) w A ls.length ls) (hc : ls.length ≤ c) (hl : ls.flatten.length * 16 ≤ 140737488355328) :
    Calls Tryd.prog 110 #[.slice A ls.length c] w (RetStrs ls.flatten w) := by
  have hmx := Kd.C_max hr
  have HR := Aside0.mk hr
  have HL := Aside0.mk hl
  have HC := Aside0.mk hc
  clear hr hl hc
  obtain ⟨N, hN⟩ : ∃ N, ls.flatten.length = N := ⟨_, rfl⟩
  have HG := Aside0.mk (fun (W : World) => grow_strs N W (by rw [← hN]; exact HL.out))
  have HNN := Aside0.mk hN
  clear hN
  go_enter Tryd.func110, Tryd.ntmps110
  go_wp2
  go_loopw [3, 5, 11] (fun s3 s5 s11 wr => ∃ k n : Nat, k ≤ ls.length ∧ s3 = .int .i64 n ∧ s11 = .int .i64 k ∧ Aside0 (n = (ls.take k).flatten.length) ∧ Aside0 (Below w.heap.size w wr)) (fun s3 s5 s11 _ => ls.length - (intOf s11).toNat)
  case atStart => exact ⟨0, 0, Nat.zero_le _, rfl, rfl, ⟨rfl⟩, ⟨Below.refl _ _⟩⟩
  case round =>
    obtain ⟨k, n, hk, rfl, rfl, HN, HB⟩ := hrel
    by_cases hlt : k < ls.length
    · obtain ⟨ad, cs, hA, hcl, hK, hcc⟩ := Kd.C_get (Kd.C_below HR.out HB.out) [] (k : Int) (by omega) (by omega)
      rw [Int.toNat_natCast, getD_at hlt] at hK
      have HFT := Aside0.mk (flat_take ls hlt)
      have hfl := flat_le ls (k + 1)
      rw [flat_take ls hlt, List.length_append, ← HN.out] at hfl
      have hbd := HL.out
      have HHL := Aside0.mk hlt
      generalize ls[k]'hlt = x at hK HFT hfl
      obtain ⟨A1, c1, rfl, hl1, hC1⟩ := hK
      subst hA
      have f0 := hcc 0 _ rfl
      rw [Int.toNat_natCast] at f0
      simp only [show Kd.sz (Kd.slice 9 Kd.string) = 1 from rfl, Nat.mul_one, Nat.add_zero] at f0
      have hwr : wrap64 ((n : Int) + (x.length : Int)) = ((n + x.length : Nat) : Int) := by rw [w_id (by omega) (by omega)]; omega
      have hnn : ¬ (((n + x.length : Nat) : Int) < 0) := by omega
      obtain ⟨n2, hn2⟩ : ∃ n2, n + x.length = n2 := ⟨_, rfl⟩
      have HN2 := Aside0.mk hn2
      rw [hn2] at hwr hnn
      clear hn2
      have HW := Aside0.mk hwr
      clear hcc hcl hbd hfl
      go_wp2
      exact ⟨⟨k + 1, n2, by have := HHL.out; omega, by rw [HW.out], by go_num, ⟨by rw [HFT.out, List.length_append, ← HN.out, HN2.out]⟩, HB⟩, by simp [intOf]; have := HHL.out; omega⟩
    · obtain rfl : k = ls.length := by omega
      have hn2 := HN.out
      rw [List.take_length, HNN.out] at hn2
      subst hn2
      have hg := HG.out wr
      go_wp2_with (go_at_call 127; refine hg.mono ?_; rintro e w2 ⟨A2, c2, rfl, hR2, hb2⟩; have HR2 := Aside0.mk hR2; have HB2 := Aside0.mk hb2; clear hR2 hb2)
      clear hk hlt hg HG HN
      generalize wr = W1 at *
      go_loopw [6, 8, 27] (fun s6 s8 s27 wr2 => ∃ (k : Nat) (A6 : Option Addr) (m6 c6 : Nat), k ≤ ls.length ∧ s6 = .slice A6 m6 c6 ∧ s27 = .int .i64 k ∧ Aside0 (m6 = (ls.take k).flatten.length) ∧ Aside0 (Kd.R Kd.string 9 wr2 W1.heap.size (fun _ => True) (.slice A6 m6 c6) (ls.take k).flatten) ∧ Aside0 (Below W1.heap.size W1 wr2)) (fun s6 s8 s27 _ => ls.length - (intOf s27).toNat)
      case atStart => exact ⟨0, A2, 0, c2, Nat.zero_le _, rfl, rfl, ⟨rfl⟩, HR2, HB2⟩
      case round =>
        obtain ⟨k, A6, m6, c6, hk, rfl, rfl, HM6, HR6, HB6⟩ := hrel
        by_cases hlt : k < ls.length
        · obtain ⟨ad, cs, hA, hcl, hK, hcc⟩ := Kd.C_get (Kd.C_below HR.out (below_step HB.out HB6.out)) [] (k : Int) (by omega) (by omega)
          rw [Int.toNat_natCast, getD_at hlt] at hK
          have HFT := Aside0.mk (flat_take ls hlt)
          have hfl := flat_le ls (k + 1)
          rw [flat_take ls hlt, List.length_append, ← HM6.out] at hfl
          have HHL := Aside0.mk hlt
          have HFL := Aside0.mk hfl
          generalize ls[k]'hlt = x at hK HFT hfl HFL
          obtain ⟨A1, c1, rfl, hl1, hC1⟩ := hK
          subst hA
          have f0 := hcc 0 _ rfl
          rw [Int.toNat_natCast] at f0
          simp only [show Kd.sz (Kd.slice 9 Kd.string) = 1 from rfl, Nat.mul_one, Nat.add_zero] at f0
          have HC1 := Aside0.mk hC1
          obtain ⟨y, hy⟩ : ∃ y, (ls.take k).flatten = y := ⟨_, rfl⟩
          have HY := Aside0.mk hy
          rw [hy] at HR6 HM6 HFT
          clear hcc hcl hfl hC1 hy
          go_wp2_with ((with_reducible refine gate_builtin (b := .append) (xs := #[.tmp 31, .tmp 32]) rfl ?_); at_builtin; refine Kd.R_append_rows Kd.string (w0 := W1) W1.heap.size rfl (.tmp 31) (.tmp 32) 27 9 (.string ⟨#[]⟩) 16 rfl Tryd.underlying27 infoS rfl (by decide) (by omega) _ y x _ _ _ (fun _ => True) (fun _ => False) rfl rfl ?aO ?aR (fun _ _ h => h) (fun _ h => h.elim) ?aF ?aB ?aS ?aL ?_; (case aO => exact HR6.out); (case aR => exact HC1.out); (case aF => exact fun _ _ => trivial); (case aB => exact HB6.out); (case aS => exact HB6.out.size); (case aL => have h1_ := HFL.out; have h2_ := HM6.out; have h3_ := HL.out; omega); intro v6 w6 hv6 hb6 hg6 hx6; obtain ⟨A7, c7, rfl⟩ := Kd.R_slice hv6; have HR7 := Aside0.mk hv6; have HB7 := Aside0.mk hb6; clear hv6 hb6 hg6 hx6)
          exact ⟨⟨k + 1, A7, y.length + x.length, c7, by have := HHL.out; omega, rfl, by go_num, ⟨by rw [HFT.out, List.length_append]⟩, ⟨by rw [HFT.out, ← List.length_append]; exact HR7.out⟩, HB7⟩, by simp [intOf]; have := HHL.out; omega⟩
        · obtain rfl : k = ls.length := by omega
          have HM := Aside0.mk (show m6 = ls.flatten.length by have := HM6.out; rwa [List.take_length] at this)
          have HRR := HR6.out
          rw [List.take_length] at HRR
          go_wp2
          go_ret
          exact ⟨A6, c6, by rw [← HM.out]; rfl, Kd.R_lower (by rw [← HM.out]; exact HRR) HB.out.size, below_step HB.out HB6.out⟩
/-- Lists joined, in order, each text once. -/
def unionB (ls : List (List ByteArray)) : List ByteArray := compB (sortB ls.flatten)
theorem unionB_le (ls : List (List ByteArray)) : (unionB ls).length ≤ ls.flatten.length := by
  have := compB_le (sortB ls.flatten)
  rwa [sortB_length] at this
set_option maxHeartbeats 4000000 in
set_option maxRecDepth 100000 in
theorem union_strs (A : Option Addr) (c : Nat) (ls : List (List ByteArray)) (w : World) (hr : Kd.C (Kd.slice 9 Kd.string) w A ls.length ls) (hc : ls.length ≤ c) (hl : ls.flatten.length * 16 ≤ 140737488355328) :
    Calls Tryd.prog 78 #[.slice A ls.length c] w (RetStrs (unionB ls) w) := by
  have hcc := concat_strs A c ls w hr hc hl
  have hn1 : ls.flatten.length < 4611686018427387904 := by omega
  have hn2 : (sortB ls.flatten).length < 4611686018427387904 := by rw [sortB_length]; exact hn1
  unfold unionB
  generalize ls.flatten = xs at hcc hn1 hn2 ⊢
  have HS := Aside0.mk (fun (A : Option Addr) (c : Nat) (V : World) (hR : Kd.R Kd.string 9 V w.heap.size (fun _ => True) (.slice A xs.length c) xs) => sort_strs A c xs V w.heap.size (fun _ => True) hR hn1)
  have HN := Aside0.mk (sortB_length xs)
  generalize sortB xs = ys at HS hn2 HN ⊢
  have HC := Aside0.mk (fun (A : Option Addr) (c : Nat) (V : World) (hR : Kd.R Kd.string 9 V w.heap.size (fun _ => True) (.slice A ys.length c) ys) => compact_strs A c ys V w.heap.size (fun _ => True) hR hn2)
  clear hr hc hl hn1 hn2
  go_enter Tryd.func78, Tryd.ntmps78
  go_wp2_with (first | (go_at_call 110; refine hcc.mono ?_; rintro e w2 ⟨A2, c2, rfl, hR2, hb2⟩; have HR2 := Aside0.mk hR2; have HB2 := Aside0.mk hb2; clear hR2 hb2) | (go_at_call 111; refine (HS.out A2 c2 w2 HR2.out).mono ?_; rintro e w3 ⟨rfl, hR3, hb3, hk3⟩; have HR3 := Aside0.mk hR3; have HB3 := Aside0.mk hb3; clear hR3 hb3 hk3) | (go_at_call 112; rw [← HN.out]; refine (HC.out A2 c2 w3 HR3.out).mono ?_; rintro e w4 ⟨rfl, hR4, hb4, hk4⟩; have HR4 := Aside0.mk hR4; have HB4 := Aside0.mk hb4; clear hR4 hb4 hk4))
  go_ret
  exact ⟨A2, c2, rfl, HR4.out, HB2.out.trans (HB3.out.trans HB4.out)⟩
/-- slices.Concat, as a plain function. -/
def slices_Concat_string.f (l0 : List (List ByteArray)) : Option (List ByteArray) := if l0.flatten.length * 16 ≤ 140737488355328 then some l0.flatten else none
theorem slices_Concat_string.calls (A0 : Option Addr) (c0 : Nat) (l0 : List (List ByteArray)) (r : List ByteArray) (w : World) (hr0 : Kd.C (Kd.slice 9 Kd.string) w A0 l0.length l0) (hc0 : l0.length ≤ c0) (h : slices_Concat_string.f l0 = some r) :
    Calls Tryd.prog 110 #[.slice A0 l0.length c0] w fun e w' => ∃ v0_ : Value, e = .returned (v0_) ∧ Kd.R Kd.string 9 w' w.heap.size (fun _ => True) v0_ r ∧ Below w.heap.size w w' := by
  unfold slices_Concat_string.f at h
  by_cases hk : l0.flatten.length * 16 ≤ 140737488355328
  · rw [if_pos hk] at h
    obtain rfl := Option.some.inj h
    refine (concat_strs A0 c0 l0 w hr0 hc0 hk).mono ?_
    rintro e w' ⟨A, c, rfl, hR, hb⟩
    exact ⟨_, rfl, hR, hb⟩
  · rw [if_neg hk] at h
    cases h
/-- The program's union, as a plain function. -/
def impl_union.f (l0 : List (List ByteArray)) : Option (List ByteArray) := if l0.flatten.length * 16 ≤ 140737488355328 then some (unionB l0) else none
theorem impl_union.calls (A0 : Option Addr) (c0 : Nat) (l0 : List (List ByteArray)) (r : List ByteArray) (w : World) (hr0 : Kd.C (Kd.slice 9 Kd.string) w A0 l0.length l0) (hc0 : l0.length ≤ c0) (h : impl_union.f l0 = some r) :
    Calls Tryd.prog 78 #[.slice A0 l0.length c0] w fun e w' => ∃ v0_ : Value, e = .returned (v0_) ∧ Kd.R Kd.string 9 w' w.heap.size (fun _ => True) v0_ r ∧ Below w.heap.size w w' := by
  unfold impl_union.f at h
  by_cases hk : l0.flatten.length * 16 ≤ 140737488355328
  · rw [if_pos hk] at h
    obtain rfl := Option.some.inj h
    refine (union_strs A0 c0 l0 w hr0 hc0 hk).mono ?_
    rintro e w' ⟨A, c, rfl, hR, hb⟩
    exact ⟨_, rfl, hR, hb⟩
  · rw [if_neg hk] at h
    cases h
end Go.Proofs.YthapodlehfblgaaDoor.PG
