/-
  Rows of flat elements and the shelf's words on sorting: what a row holds, and what it holds behind a sort. No condition but those stated.
-/
import Derived.Shelf.GgSortFunc.InsertionK
import Derived.Test.YtbgikfahcppkfaaSORowOps
namespace Go.Proofs.Ytbgikfahcppkfaa.PG
set_option linter.unusedVariables false
set_option linter.unusedSimpArgs false
open Go.RowKit Go.Proofs.YtbgikfahcppkfaaW.PrintWords Go.Proofs.YtbgikfahcppkfaaW.PrintLast Go.Proofs.YtbgikfahcppkfaaW.PrintMore Go.Proofs.Ytbgikfahcppkfaa.Gn Go.Sort

/-- A kind whose elements are their cells. -/
structure Flat {α : Type} (d : Kd α) (enc : α → List Value) : Prop where
  len : ∀ x, (enc x).length = d.sz
  one : ∀ x, ∀ v ∈ enc x, v.oneCell' = true
  mkM : ∀ W base ok x, d.M W base ok x (enc x)
  open_ : ∀ {W base ok x cs}, d.M W base ok x cs → cs = enc x
theorem flat_get {α : Type} [Inhabited α] (enc : α → List Value) (k : Nat) (hk0 : 0 < k) (d : Array α) (i j : Nat) (hi : i < d.size) (hj : j < k) (hl : (enc d[i]!).length = k) : (flatK enc k d)[i * k + j]? = (enc d[i]!)[j]? := by
  have hlt : i * k + j < d.size * k := by
    have h1 : (i + 1) * k ≤ d.size * k := Nat.mul_le_mul_right _ hi
    rw [Nat.add_mul] at h1
    omega
  have h2 := get_flatK enc k d (i * k + j) hlt
  have h3 : (i * k + j) / k = i := by
    rw [Nat.add_comm, Nat.add_mul_div_right _ _ hk0, Nat.div_eq_of_lt hj, Nat.zero_add]
  have h4 : (i * k + j) % k = j := by
    rw [Nat.add_comm, Nat.add_mul_mod_self_right, Nat.mod_eq_of_lt hj]
  rw [h3, h4] at h2
  have hs : i * k + j < (flatK enc k d).size := by rw [size_flatK]; exact hlt
  rw [Array.getElem?_eq_getElem hs, List.getElem?_eq_getElem (by omega)]
  have h5 : (enc d[i]!)[j]! = (enc d[i]!)[j]'(by omega) := getElem!_pos (enc d[i]!) j (by omega)
  rw [h5, getElem!_pos (flatK enc k d) (i * k + j) hs] at h2
  rw [h2]
theorem holds_row {α : Type} [Inhabited α] {d : Kd α} {enc : α → List Value} (hF : Flat d enc) (hk0 : 0 < d.sz) {e base g n cap : Nat} {ok : Nat → Prop} {W : World} {xs : List α} (h : d.R e W base ok (.slice (some ⟨g, 0, none⟩) n cap) xs) : HoldsK enc d.sz W g 0 xs.toArray := by
  obtain ⟨hn, hnc, _⟩ := Kd.R_reads' h
  intro t ht
  rw [size_flatK] at ht
  simp only [List.size_toArray] at ht
  have hi : t / d.sz < xs.length := Nat.div_lt_of_lt_mul (by rw [Nat.mul_comm]; exact ht)
  have hj : t % d.sz < d.sz := Nat.mod_lt _ hk0
  obtain ⟨c, hcl, hM, hcc, hf⟩ := Kd.R_elem h (default : α) ((t / d.sz : Nat) : Int) (Int.natCast_nonneg _) (Int.ofNat_lt.2 (hn ▸ hi))
  rw [Int.toNat_natCast] at hM hcc hf
  have hc := hF.open_ hM
  have hx : xs.getD (t / d.sz) default = xs.toArray[t / d.sz]! := by
    rw [getElem!_pos _ _ (by simpa using hi), getD_at hi]
    simp
  rw [hx] at hc
  have hg := flat_get enc d.sz hk0 xs.toArray (t / d.sz) (t % d.sz) (by simpa using hi) hj (hF.len _)
  have et : t / d.sz * d.sz + t % d.sz = t := Nat.div_add_mod' t d.sz
  rw [et, ← hc] at hg
  have hs : t < (flatK enc d.sz xs.toArray).size := by rw [size_flatK]; simpa using ht
  have hcl2 : t % d.sz < c.length := by omega
  rw [Array.getElem?_eq_getElem hs, List.getElem?_eq_getElem hcl2] at hg
  have h1 := hcc (t % d.sz) _ (List.getElem?_eq_getElem hcl2)
  have h2 := hf (t % d.sz)
  rw [et] at h1 h2
  refine ⟨?_, by rw [Nat.zero_add]; exact h2⟩
  have h6 : (flatK enc d.sz xs.toArray)[t]! = (flatK enc d.sz xs.toArray)[t]'hs := getElem!_pos (flatK enc d.sz xs.toArray) t hs
  rw [Nat.zero_add, h1, h6]
  injection hg with hg
  rw [hg]
  rfl
theorem sorted_row {α : Type} [Inhabited α] {d : Kd α} {enc : α → List Value} (hF : Flat d enc) (hk0 : 0 < d.sz) {e base g n cap : Nat} {ok : Nat → Prop} {W : World} {xs : List α} (h : d.R e W base ok (.slice (some ⟨g, 0, none⟩) n cap) xs) (ys : Array α) (hys : ys.size = n) (m : Nat) (os : Array Obj) :
    d.R e (sortWorldK enc d.sz W g 0 m ys os) base ok (.slice (some ⟨g, 0, none⟩) n cap) ys.toList ∧ Below base W (sortWorldK enc d.sz W g 0 m ys os) ∧ Kept W (sortWorldK enc d.sz W g 0 m ys os) (fun k => k = g) := by
  obtain ⟨hn, hnc, _⟩ := Kd.R_reads' h
  obtain ⟨hok, inner, ⟨ho1, ho2⟩, hr⟩ := h
  rcases ho2 with ⟨hv, _⟩ | ⟨g', cap', cur, hv, hb, hh, hnc', hcm, hcs, ht⟩
  · cases hv
  injection hv with ha _ hc
  injection ha with ha
  injection ha with hg
  subst hg; subst hc
  have hlt : g < W.heap.size := blk_lt hh
  have hz : (sortWorldK enc d.sz W g 0 m ys os).heap.size = W.heap.size + os.size := by
    unfold sortWorldK grow putRowK putRow mapBlock
    simp
  have hfar : ∀ k, k < W.heap.size → k ≠ g → (sortWorldK enc d.sz W g 0 m ys os).heap[k]? = W.heap[k]? := by
    intro k hk hne
    unfold sortWorldK grow putRowK putRow mapBlock
    simp only [Array.getElem?_append, Array.size_modify]
    rw [if_pos (show k < (Go.Sort.ahead W m).heap.size from hk)]
    show (W.heap.modify g _)[k]? = _
    rw [Array.getElem?_modify, if_neg (fun e => hne e.symm)]
  have hrow : (sortWorldK enc d.sz W g 0 m ys os).heap[g]? = some (.cells (putCells id 0 (flatK enc d.sz ys) cur) e (0, 0)) := by
    unfold sortWorldK grow putRowK putRow mapBlock
    simp only [Array.getElem?_append, Array.size_modify]
    rw [if_pos (show g < (Go.Sort.ahead W m).heap.size from hlt)]
    show (W.heap.modify g _)[g]? = _
    rw [Array.getElem?_modify, if_pos rfl, hh]
    rfl
  have hnk : n * d.sz ≤ cur.size := by rw [hcs]; exact Nat.mul_le_mul_right _ hnc
  have hflat : (putCells id 0 (flatK enc d.sz ys) cur).toList.take (n * d.sz) = (flatK enc d.sz ys).toList := by
    apply List.ext_getElem?
    intro q
    rw [List.getElem?_take, Array.getElem?_toList, Array.getElem?_toList]
    by_cases hq : q < n * d.sz
    · rw [if_pos hq]
      have hs : q < (flatK enc d.sz ys).size := by rw [size_flatK, hys]; exact hq
      unfold putCells
      rw [Array.getElem?_mapIdx, Array.getElem?_eq_getElem (show q < cur.size by omega), Option.map_some, if_pos ⟨Nat.zero_le _, by omega⟩, Array.getElem?_eq_getElem hs, Nat.sub_zero, getElem!_pos (flatK enc d.sz ys) q hs]
      rfl
    · rw [if_neg hq, Array.getElem?_eq_none (by rw [size_flatK, hys]; omega)]
  refine ⟨⟨hok, (flatK enc d.sz ys).toList, ⟨?_, .inr ⟨g, cap, _, ?_, hb, hrow, ?_, hcm, ?_, ?_⟩⟩, ?_⟩, ⟨rfl, rfl, rfl, by rw [hz]; omega, fun k hk => hfar k (by omega) (by omega)⟩, ⟨by rw [hz]; omega, fun k hk hne => hfar k hk hne⟩⟩
  · rw [Array.length_toList, size_flatK, Array.length_toList]
  · rw [Array.length_toList, hys]
  · rw [Array.length_toList, hys]; exact hnc
  · unfold putCells; rw [Array.size_mapIdx]; exact hcs
  · rw [Array.length_toList, hys]; exact hflat
  · refine ⟨by rw [Array.length_toList, size_flatK, Array.length_toList], fun j p hj => ?_⟩
    have hjl : j < ys.size := by
      have := (List.getElem?_eq_some_iff.1 hj).1
      rwa [Array.length_toList] at this
    have hp : p = ys[j]! := by
      rw [getElem!_pos ys j hjl]
      rw [Array.getElem?_toList, Array.getElem?_eq_getElem hjl] at hj
      injection hj with hj
      exact hj.symm
    have hseg : (((flatK enc d.sz ys).toList.drop (j * d.sz)).take d.sz) = enc p := by
      apply List.ext_getElem?
      intro q
      rw [List.getElem?_take]
      by_cases hq : q < d.sz
      · rw [if_pos hq, List.getElem?_drop, Array.getElem?_toList, flat_get enc d.sz hk0 ys j q hjl hq (hF.len _), hp]
      · rw [if_neg hq, List.getElem?_eq_none (by rw [hF.len]; omega)]
    rw [hseg]
    exact hF.mkM _ _ _ _
end Go.Proofs.Ytbgikfahcppkfaa.PG
