/-
 Rows of the call's own: cells behind a row's end may be written; what clear(s) does. No condition but those stated.
-/
import Derived.Lib.SliceRun
import Derived.Test.YtmkpgddfoaglpaaGreatDoorCTP1
import Derived.Test.YtmkpgddfoaglpaaGreatDoorCTGen
import Derived.Test.YtmkpgddfoaglpaaGreatDoorCTQChangesTrima
set_option linter.unusedVariables false
set_option linter.unusedSimpArgs false
namespace Go.Proofs.YtmkpgddfoaglpaaGreatDoor.PG
open Go.RowKit Go.Proofs.YtmkpgddfoaglpaaGreatDoorW.PrintWords Go.Proofs.YtmkpgddfoaglpaaGreatDoorW.PrintLast Go.Proofs.YtmkpgddfoaglpaaGreatDoorW.PrintMore Go.Proofs.YtmkpgddfoaglpaaGreatDoor.Gn
theorem R_empty {α : Type} (d : Kd α) (e : Nat) (w : World) : Kd.R d e (w.alloc (.cells #[] e)) w.heap.size (fun _ => True) (.slice (some ⟨w.heap.size, 0, none⟩) 0 0) [] := by
 refine ⟨fun _ _ => trivial, [], ?_, Reps.none _ _⟩
 have h := World.ownsRow_lit (base := w.heap.size) (e := e) (size := d.sz) w #[] 0 (Nat.le_refl _) (by decide) (by simp)
 simpa using h
theorem R_wipe {α : Type} {d : Kd α} {e base g n cap : Nat} {ok : Nat → Prop} {W : World} {xs : List α} (h : d.R e W base ok (.slice (some ⟨g, 0, none⟩) n cap) xs) (a : Nat) (ha : a ≤ n) (vs : List Value) (hv : a * d.sz + vs.length ≤ n * d.sz) :
   d.R e (W.setCells g (a * d.sz) vs) base ok (.slice (some ⟨g, 0, none⟩) a cap) (xs.take a) := by
 obtain ⟨hn, hnc, _⟩ := Kd.R_reads' h
 have h2 := Kd.R_take (m := a) h (by omega)
 have hfar : ∀ k, k ≠ g → (W.setCells g (a * d.sz) vs).heap[k]? = W.heap[k]? := fun k hk => setCells_far vs _ k hk
 obtain ⟨hok, inner, ho, hr⟩ := h2
 obtain ⟨ho1, ho2⟩ := ho
 refine ⟨hok, inner, ⟨ho1, ?_⟩, ?_⟩
 · rcases ho2 with ⟨hv', _⟩ | ⟨g', cap', cur, hv', hb, hh, hnc', hcm, hcs, ht⟩
   · cases hv'
   injection hv' with ha' _ hc
   injection ha' with ha'
   injection ha' with hg
   subst hg; subst hc
   have hfit : a * d.sz + vs.length ≤ cur.size := by
     have : n * d.sz ≤ cap * d.sz := Nat.mul_le_mul_right _ hnc
     omega
   obtain ⟨cur', h3, h4, h5⟩ := setCells_row vs (a * d.sz) W cur hh hfit
   have hlt : (xs.take a).length = a := by rw [List.length_take]; omega
   refine .inr ⟨g, cap, cur', by rw [hlt], hb, h3, hnc', hcm, by rw [h4, hcs], ?_⟩
   rw [hlt] at ht ⊢
   rw [h5, List.append_assoc, List.take_append_of_le_length (by rw [List.length_take, Array.length_toList]; omega), List.take_take, Nat.min_self]
   exact ht
 · refine hr.imp_ (fun p c hM => d.M_move (fun k hk => hfar k ?_) hM)
   rintro rfl
   exact hk.2 rfl
theorem zero_mem (zero : Array Value) (n : Nat) : ∀ u ∈ (Builtin.zeroCells zero n).toList, u ∈ zero.toList := by
 intro u hu
 simp only [Builtin.zeroCells, Array.toList_map, List.mem_map, Array.toList_range, List.mem_range] at hu
 obtain ⟨i, hi, rfl⟩ := hu
 have hz : 0 < zero.size := by
   rcases Nat.eq_zero_or_pos zero.size with h | h
   · rw [h] at hi; omega
   · exact h
 have hm := Nat.mod_lt i hz
 rw [getElem!_pos zero (i % zero.size) hm]
 simp
theorem zero_len (zero : Array Value) (n : Nat) : (Builtin.zeroCells zero n).toList.length = n * zero.size := by
 simp [Builtin.zeroCells]
theorem run_clear {P : Program} (w : World) (t e ty : TypeId) (z : Value) (ht : P.underlying t = some (.slice e)) (hv : ∀ w, (zeroValue e).run P w = .ok z w) (h1 : ∀ u ∈ z.cells.toList, u.oneCell' = true) (b o n c : Nat) (hn : 0 < n)
   (hc : ∀ j, j < n * z.cells.size → (w.cell? ⟨b, o + j, none⟩).isSome = true) (hf : ∀ j, j < n * z.cells.size → w.frozen? ⟨b, o + j, none⟩ = false) :
   (Builtin.clear_ #[t] ty #[.slice (some ⟨b, o, none⟩) n c]).run P w = .ok (.tuple #[]) (w.setCells b o (Builtin.zeroCells z.cells n).toList) := by
 have hl := zero_len z.cells n
 have hst := run_storeCells_cells (P := P) b o (Builtin.zeroCells z.cells n).toList 0 w (by rw [hl]; simpa using hc) (by rw [hl]; simpa using hf) (by intro v hv'; exact h1 v (zero_mem _ _ v hv'))
 simp only [Nat.add_zero] at hst
 obtain ⟨m, rfl⟩ : ∃ m, n = m + 1 := ⟨n - 1, by omega⟩
 simp [Builtin.clear_, run_underlying ht, hv, hst]
theorem R_cells {α : Type} {d : Kd α} {e base g n cap : Nat} {ok : Nat → Prop} {W : World} {xs : List α} (h : d.R e W base ok (.slice (some ⟨g, 0, none⟩) n cap) xs) (j : Nat) (hj : j < n * d.sz) : (W.cell? ⟨g, j, none⟩).isSome = true ∧ W.frozen? ⟨g, j, none⟩ = false := by
 obtain ⟨hn, hnc, _⟩ := Kd.R_reads' h
 obtain ⟨hok, inner, ho, hr⟩ := h
 obtain ⟨ho1, ho2⟩ := ho
 rcases ho2 with ⟨hv', _⟩ | ⟨g', cap', cur, hv', hb, hh, hnc', hcm, hcs, ht⟩
 · cases hv'
 injection hv' with ha' _ hc
 injection ha' with ha'
 injection ha' with hg
 subst hg; subst hc
 have hfit : j < cur.size := by
   have : n * d.sz ≤ cap * d.sz := Nat.mul_le_mul_right _ hnc
   omega
 exact ⟨by rw [blk_cell hh, Array.getElem?_eq_getElem hfit]; rfl, blk_frozen hh j⟩
theorem setCells_kept (W : World) (g o : Nat) (vs : List Value) : Kept W (W.setCells g o vs) (fun k => k = g) := by
 obtain ⟨_, _, _, s4⟩ := setCells_same g vs o W
 exact ⟨by rw [s4]; exact Nat.le_refl _, fun i _ hn => setCells_far vs o i hn⟩
theorem setCells_below {B : Nat} (W : World) (g o : Nat) (vs : List Value) (hg : B ≤ g) : Below B W (W.setCells g o vs) := by
 obtain ⟨s1, s2, s3, s4⟩ := setCells_same g vs o W
 exact ⟨s1, s2, s3, by rw [s4]; exact Nat.le_refl _, fun k hk => setCells_far vs o k (by omega)⟩
def DelInv {α : Type} (p : α → Bool) (l xs : List α) (a b n : Nat) : Prop := xs.length = n ∧ xs.take a = (l.take b).filter (fun x => !p x) ∧ xs.drop b = l.drop b
theorem DelInv.start {α : Type} {p : α → Bool} {l : List α} {k : Nat} (hk : k < l.length) (hp : p (l[k]'hk) = true) (hb : ∀ j (hj : j < l.length), j < k → p (l[j]'hj) = false) : DelInv p l l k (k + 1) l.length := by
 refine ⟨rfl, ?_, rfl⟩
 rw [List.take_succ_eq_append_getElem hk, List.filter_append]
 have h1 : (l.take k).filter (fun x => !p x) = l.take k := by
   rw [List.filter_eq_self]
   intro x hx
   obtain ⟨j, hj, rfl⟩ := List.getElem_of_mem hx
   rw [List.length_take] at hj
   rw [List.getElem_take, hb j (by omega) (by omega)]
   rfl
 rw [h1]
 simp [hp]
theorem DelInv.at_ {α : Type} {p : α → Bool} {l xs : List α} {a b n : Nat} (h : DelInv p l xs a b n) (hl : l.length = n) (hb : b < n) (z : α) : ∃ hb' : b < l.length, xs.getD b z = l[b]'hb' := by
 obtain ⟨h1, h2, h3⟩ := h
 refine ⟨by omega, ?_⟩
 have h4 : xs[b]? = l[b]? := by
   have := congrArg (fun q => q[0]?) h3
   simpa [List.getElem?_drop] using this
 rw [List.getD_eq_getElem?_getD, h4, List.getElem?_eq_getElem (by omega)]
 rfl
theorem DelInv.skip {α : Type} {p : α → Bool} {l xs : List α} {a b n : Nat} (h : DelInv p l xs a b n) (hl : l.length = n) (hb : b < n) (z : α) (hp : p (xs.getD b z) = true) : DelInv p l xs a (b + 1) n := by
 obtain ⟨hb', hx⟩ := h.at_ hl hb z
 rw [hx] at hp
 obtain ⟨h1, h2, h3⟩ := h
 refine ⟨h1, ?_, ?_⟩
 · rw [List.take_succ_eq_append_getElem hb', List.filter_append, ← h2]
   simp [hp]
 · rw [← List.drop_drop, ← List.drop_drop, h3]
theorem DelInv.put {α : Type} {p : α → Bool} {l xs : List α} {a b n : Nat} (h : DelInv p l xs a b n) (hl : l.length = n) (hb : b < n) (hab : a < b) (z : α) (hp : p (xs.getD b z) = false) : DelInv p l (xs.set a (xs.getD b z)) (a + 1) (b + 1) n := by
 obtain ⟨hb', hx⟩ := h.at_ hl hb z
 rw [hx] at hp ⊢
 obtain ⟨h1, h2, h3⟩ := h
 refine ⟨by rw [List.length_set]; exact h1, ?_, ?_⟩
 · rw [List.take_succ_eq_append_getElem hb', List.filter_append, ← h2, List.take_succ_eq_append_getElem (by rw [List.length_set]; omega), List.take_set_of_le (Nat.le_refl _), List.getElem_set_self]
   simp [hp]
 · rw [List.drop_set_of_lt (by omega), ← List.drop_drop, ← List.drop_drop, h3]
theorem DelInv.end_ {α : Type} {p : α → Bool} {l xs : List α} {a n : Nat} (h : DelInv p l xs a n n) (hl : l.length = n) : xs.take a = l.filter (fun x => !p x) := by
 rw [h.2.1, List.take_of_length_le (by omega)]
theorem run_store_v {P : Program} {w : World} {a : Addr} {v : Value} {m : Mode} (h : v.oneCell' = true) : (store a v m).run P w = stored P w a v m := run_store P w a v m h
end Go.Proofs.YtmkpgddfoaglpaaGreatDoor.PG
/-
 A row whose elements keep apart by labels is a row whose elements keep apart by their places, if no label comes twice; and a filtered row. No condition.
-/
namespace Go.Proofs.YtmkpgddfoaglpaaGreatDoor.Gn
open Go.RowKit Go.Proofs.YtmkpgddfoaglpaaGreatDoorW.PrintWords Go.Proofs.YtmkpgddfoaglpaaGreatDoorW.PrintLast Go.Proofs.YtmkpgddfoaglpaaGreatDoorW.PrintMore
theorem idxOf_at {l : List Nat} (hd : l.Nodup) {j m : Nat} (h : l[j]? = some m) : l.idxOf m = j := by
 obtain ⟨hj, rfl⟩ := List.getElem?_eq_some_iff.1 h
 exact List.Nodup.idxOf_getElem hd j hj
theorem S_relabel {α : Type} {d : Kd α} {e : Nat} {w : World} {base : Nat} {ok : Nat → Prop} {v : Value} {f : Nat → Nat} {zs : List (α × Nat)} (h : (Kd.tag f d).R e w base ok v zs) (hd : (zs.map (·.2)).Nodup) : Kd.S d e w base ok v (zs.map (·.1)) := by
 obtain ⟨h0, inner, ho, hr⟩ := h
 refine ⟨fun b => (zs.map (·.2)).idxOf (f b), h0, inner, by rw [List.length_zipIdx, List.length_map]; exact ho, by rw [List.length_zipIdx, List.length_map]; exact hr.1, fun j p hj => ?_⟩
 rw [List.getElem?_zipIdx, Nat.zero_add, List.getElem?_map] at hj
 obtain ⟨x, hx, rfl⟩ := Option.map_eq_some_iff.1 hj
 obtain ⟨q, hq, rfl⟩ := Option.map_eq_some_iff.1 hx
 have hm := hr.2 j q hq
 refine d.M_mono (fun k hk => ⟨hk.1, ?_⟩) hm
 have hk2 : f k = q.2 := hk.2
 show (zs.map (·.2)).idxOf (f k) = j
 rw [hk2]
 exact idxOf_at hd (by rw [List.getElem?_map, hq]; rfl)
theorem zip_filter {α : Type} (p : α → Bool) (l : List α) : (((l.zipIdx).filter fun q => p q.1).map (·.1)) = l.filter p ∧ (((l.zipIdx).filter fun q => p q.1).map (·.2)).Nodup := by
 constructor
 · exact (List.filter_map (f := Prod.fst) (p := p) (l := l.zipIdx)).symm.trans (congrArg (List.filter p) (List.zipIdx_map_fst 0 l))
 · refine List.Nodup.sublist (List.Sublist.map _ List.filter_sublist) ?_
   rw [List.zipIdx_map_snd]
   exact List.nodup_range'
end Go.Proofs.YtmkpgddfoaglpaaGreatDoor.Gn
