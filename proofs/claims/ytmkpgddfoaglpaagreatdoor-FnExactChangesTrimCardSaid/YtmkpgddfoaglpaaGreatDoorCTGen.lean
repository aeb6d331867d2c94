/-
 Loops of a few shapes, over any element: what they come to. Plain Lean; no condition beside those stated.
-/
import Derived.Test.YtmkpgddfoaglpaaGreatDoorCTWords
set_option linter.unusedVariables false
set_option linter.unusedSimpArgs false
namespace Go.Proofs.YtmkpgddfoaglpaaGreatDoor.Gn
open Go.RowKit Go.Proofs.YtmkpgddfoaglpaaGreatDoorW.PrintWords
theorem cell_blk {w : World} {g : Nat} {cs : Array Value} {t : TypeId} {j : Nat} {v : Value} (h : w.heap[g]? = some (.cells cs t (0, 0))) (hj : cs[j]? = some v) : w.cell? ⟨g, j, none⟩ = some v := by
 simp [World.cell?, h, hj]
theorem wsucc {i : Int} (h0 : 0 ≤ i) (h : i < 9223372036854775807) : wrap64 (i + 1) = i + 1 := by
 unfold wrap64
 omega
theorem w_id {i : Int} (h0 : -9223372036854775808 ≤ i) (h : i ≤ 9223372036854775807) : wrap64 i = i := by
 unfold wrap64
 omega
theorem Ev_some {α : Type} {g : Nat → Option α} {r : α} (h : ∀ k, g k = some r) : Ev g r := ⟨0, fun k _ => h k⟩
theorem Ev_at {α : Type} {g : Nat → Option α} {r : α} (n : Nat) (h : ∀ k, g (k + n) = some r) : Ev g r := ⟨n, fun k hk => by obtain ⟨m, rfl⟩ : ∃ m, k = m + n := ⟨k - n, by omega⟩; exact h m⟩
theorem Ev_one {α : Type} {g : Nat → Option α} {r : α} (h : ∀ k, g (k + 1) = some r) : Ev g r := Ev.step h (Ev.now r)
theorem Ev_bind {α β : Type} {g : Nat → Option α} {f : Nat → α → Option β} {a : α} {r : β} (h : Ev g a) (k : Ev (fun n => f n a) r) : Ev (fun n => (g n).bind (f n)) r := Ev.bind h k
theorem getD_at {α : Type} {xs : List α} {z : α} {i : Nat} (h : i < xs.length) : xs.getD i z = xs[i]'h := by
 rw [List.getD_eq_getElem?_getD, List.getElem?_eq_getElem h]
 rfl
theorem sz_loop {α : Type} {rdx : List α → Int → α} {z : α} (hrd : ∀ xs i, rdx xs i = xs.getD i.toNat z) {e : Nat → α → Int → Option Int} {l : Nat → List α → Int → Int → Option Int} {small : α → Prop}
   (hl : ∀ k xs acc i, l (k + 1) xs acc i = if i < (xs.length : Int) then (if 0 ≤ i then ((e k (rdx xs i) acc).bind fun t => if t < 0 then some (-1) else l k xs t (wrap64 (i + 1))) else none) else some acc)
   (xs : List α) (hxs : xs.length ≤ 9223372036854775807) (he : ∀ x, x ∈ xs → ∀ acc, 0 ≤ acc → acc ≤ 1048576 → ∃ r, Ev (fun k => e k x acc) r ∧ r ≤ acc ∧ (0 ≤ r → small x)) :
   ∀ acc, 0 ≤ acc → acc ≤ 1048576 → ∃ r, Ev (fun k => l k xs acc 0) r ∧ r ≤ acc ∧ (0 ≤ r → ∀ x, x ∈ xs → small x) := by
 have key : ∀ (d i : Nat), i + d = xs.length → ∀ acc, 0 ≤ acc → acc ≤ 1048576 → ∃ r, Ev (fun k => l k xs acc (i : Int)) r ∧ r ≤ acc ∧ (0 ≤ r → ∀ j (hj : j < xs.length), i ≤ j → small (xs[j]'hj)) := by
   intro d
   induction d with
   | zero =>
     intro i hi acc _ _
     refine ⟨acc, Ev_one (fun k => ?_), Int.le_refl _, fun _ j hj hij => by omega⟩
     rw [hl, if_neg (by omega)]
   | succ d ih =>
     intro i hi acc h0 h1
     have hlt : i < xs.length := by omega
     obtain ⟨r, hr, hra, hrs⟩ := he (xs[i]'hlt) (List.getElem_mem _) acc h0 h1
     by_cases hneg : r < 0
     · refine ⟨-1, Ev.step (f := fun k => (e k (xs[i]'hlt) acc).bind fun t => if t < 0 then some (-1) else l k xs t ((i + 1 : Nat) : Int)) (fun k => ?_) (Ev_bind hr ?_), by omega, fun h => by omega⟩
       · rw [hl, if_pos (by omega), if_pos (by omega), wsucc (by omega) (by omega), hrd, Int.toNat_natCast, getD_at hlt]
         rfl
       · simp only [if_pos hneg]
         exact Ev.now _
     · obtain ⟨q, hq, hqa, hqs⟩ := ih (i + 1) (by omega) r (by omega) (by omega)
       refine ⟨q, Ev.step (f := fun k => (e k (xs[i]'hlt) acc).bind fun t => if t < 0 then some (-1) else l k xs t ((i + 1 : Nat) : Int)) (fun k => ?_) (Ev_bind hr ?_), by omega, fun h j hj hij => ?_⟩
       · rw [hl, if_pos (by omega), if_pos (by omega), wsucc (by omega) (by omega), hrd, Int.toNat_natCast, getD_at hlt]
         rfl
       · simp only [if_neg hneg]
         exact hq
       · rcases Nat.eq_or_lt_of_le hij with rfl | hlt'
         · exact hrs (by omega)
         · exact hqs h j hj hlt'
 intro acc h0 h1
 obtain ⟨r, hr, hra, hrs⟩ := key xs.length 0 (by omega) acc h0 h1
 refine ⟨r, hr, hra, fun h x hx => ?_⟩
 obtain ⟨j, hj, rfl⟩ := List.getElem_of_mem hx
 exact hrs h j hj (Nat.zero_le _)
theorem sz_slice {α : Type} {l : Nat → List α → Int → Int → Option Int} {f : Nat → List α → Int → Option Int} {small : α → Prop}
   (hf : ∀ k xs a, f k xs a = if wrap64 (a - (xs.length : Int)) < 0 then some (-1) else l k xs (wrap64 (a - (xs.length : Int))) 0) (xs : List α) (hxs : xs.length ≤ 9223372036854775807)
   (hl : ∀ acc, 0 ≤ acc → acc ≤ 1048576 → ∃ r, Ev (fun k => l k xs acc 0) r ∧ r ≤ acc ∧ (0 ≤ r → ∀ x, x ∈ xs → small x)) :
   ∀ acc, 0 ≤ acc → acc ≤ 1048576 → ∃ r, Ev (fun k => f k xs acc) r ∧ r ≤ acc ∧ (0 ≤ r → xs.length ≤ 1048576 ∧ ∀ x, x ∈ xs → small x) := by
 intro acc h0 h1
 have hw : wrap64 (acc - (xs.length : Int)) = acc - (xs.length : Int) := w_id (by omega) (by omega)
 by_cases hneg : acc - (xs.length : Int) < 0
 · exact ⟨-1, Ev_some (fun k => by rw [hf, hw, if_pos hneg]), by omega, fun h => by omega⟩
 · obtain ⟨r, hr, hra, hrs⟩ := hl (acc - (xs.length : Int)) (by omega) (by omega)
   exact ⟨r, Ev.congr (fun k => by rw [hf, hw, if_neg hneg]) hr, by omega, fun h => ⟨by omega, hrs h⟩⟩
theorem sz_bind {g : Nat → Option Int} {f : Nat → Int → Option Int} {Q : Prop} {acc r : Int} (h0 : 0 ≤ acc) (hr : Ev g r) (hle : r ≤ acc) (hneg : r < 0 → Ev (fun k => f k r) (-1)) (hpos : 0 ≤ r → ∃ q, Ev (fun k => f k r) q ∧ q ≤ r ∧ (0 ≤ q → Q)) :
   ∃ q, Ev (fun k => (g k).bind (f k)) q ∧ q ≤ acc ∧ (0 ≤ q → Q) := by
 by_cases h : r < 0
 · exact ⟨-1, Ev_bind hr (hneg h), by omega, fun h' => by omega⟩
 · obtain ⟨q, hq, hqr, hQ⟩ := hpos (by omega)
   exact ⟨q, Ev_bind hr hq, by omega, hQ⟩
theorem sz_str {f : Nat → Option Int} {Q : Prop} {acc b : Int} (h0 : 0 ≤ acc) (hb : b ≤ acc) (hneg : b < 0 → Ev f (-1)) (hpos : 0 ≤ b → ∃ q, Ev f q ∧ q ≤ b ∧ (0 ≤ q → Q)) : ∃ q, Ev f q ∧ q ≤ acc ∧ (0 ≤ q → Q) := by
 by_cases h : b < 0
 · exact ⟨-1, hneg h, by omega, fun h' => by omega⟩
 · obtain ⟨q, hq, hqr, hQ⟩ := hpos (by omega)
   exact ⟨q, hq, by omega, hQ⟩
theorem eq_loop {α : Type} {rdx : List α → Int → α} {z : α} (hrd : ∀ xs i, rdx xs i = xs.getD i.toNat z) {e : Nat → α → α → Option Bool} {l : Nat → List α → List α → Int → Option Bool}
   (hl : ∀ k xs ys i, l (k + 1) xs ys i = if i < (xs.length : Int) then (if 0 ≤ i then (if i < (ys.length : Int) then ((e k (rdx xs i) (rdx ys i)).bind fun t => if t = true then l k xs ys (wrap64 (i + 1)) else some false) else none) else none) else some true)
   (xs : List α) (hxs : xs.length ≤ 9223372036854775807) (he : ∀ x, x ∈ xs → Ev (fun k => e k x x) true) : Ev (fun k => l k xs xs 0) true := by
 have key : ∀ (d i : Nat), i + d = xs.length → Ev (fun k => l k xs xs (i : Int)) true := by
   intro d
   induction d with
   | zero =>
     intro i hi
     exact Ev_one (fun k => by rw [hl, if_neg (by omega)])
   | succ d ih =>
     intro i hi
     have hlt : i < xs.length := by omega
     refine Ev.step (f := fun k => (e k (xs[i]'hlt) (xs[i]'hlt)).bind fun t => if t = true then l k xs xs ((i + 1 : Nat) : Int) else some false) (fun k => ?_) (Ev_bind (he _ (List.getElem_mem _)) ?_)
     · rw [hl, if_pos (by omega), if_pos (by omega), if_pos (by omega), wsucc (by omega) (by omega), hrd, Int.toNat_natCast, getD_at hlt]
       rfl
     · simp only [if_true]
       exact ih (i + 1) (by omega)
 exact key xs.length 0 (by omega)
theorem eq_strs {l : Nat → List ByteArray → List ByteArray → Int → Option Bool}
   (hl : ∀ k xs ys i, l (k + 1) xs ys i = if i < (xs.length : Int) then (if 0 ≤ i then (if i < (ys.length : Int) then (if (rdOf ByteArray.empty xs i).toList = (rdOf ByteArray.empty ys i).toList then l k xs ys (wrap64 (i + 1)) else some false) else none) else none) else some true)
   (xs : List ByteArray) (hxs : xs.length ≤ 9223372036854775807) : Ev (fun k => l k xs xs 0) true := by
 have key : ∀ (d i : Nat), i + d = xs.length → Ev (fun k => l k xs xs (i : Int)) true := by
   intro d
   induction d with
   | zero =>
     intro i hi
     exact Ev_one (fun k => by rw [hl, if_neg (by omega)])
   | succ d ih =>
     intro i hi
     refine Ev.step (f := fun k => l k xs xs ((i + 1 : Nat) : Int)) (fun k => ?_) (ih (i + 1) (by omega))
     rw [hl, if_pos (by omega), if_pos (by omega), if_pos (by omega), if_pos rfl, wsucc (by omega) (by omega)]
     rfl
 exact key xs.length 0 (by omega)
theorem to_loop {α β γ : Type} {rdx : List α → Int → α} {z : α} (hrd : ∀ xs i, rdx xs i = xs.getD i.toNat z) {c : Nat → α → Option γ} {mk : γ → β} {l : Nat → List α → List β → Int → Option (List β)}
   (hl : ∀ k xs ys i, l (k + 1) xs ys i = if i < (xs.length : Int) then (if 0 ≤ i then ((c k (rdx xs i)).bind fun b => if i < (ys.length : Int) then l k xs (ys.set (i : Int).toNat (mk b)) (wrap64 (i + 1)) else none) else none) else some ys)
   (xs : List α) (hxs : xs.length ≤ 9223372036854775807) (conv : α → β) (hc : ∀ x, x ∈ xs → ∃ b, Ev (fun k => c k x) b ∧ mk b = conv x) (ys : List β) (hy : ys.length = xs.length) :
   Ev (fun k => l k xs ys 0) (xs.map conv) := by
 have key : ∀ (d i : Nat), i + d = xs.length → ∀ ys : List β, ys.length = xs.length → ys.take i = (xs.take i).map conv → Ev (fun k => l k xs ys (i : Int)) (xs.map conv) := by
   intro d
   induction d with
   | zero =>
     intro i hi ys hy ht
     refine Ev_one (fun k => ?_)
     rw [hl, if_neg (by omega)]
     rw [List.take_of_length_le (by omega), List.take_of_length_le (by omega)] at ht
     rw [ht]
   | succ d ih =>
     intro i hi ys hy ht
     have hlt : i < xs.length := by omega
     obtain ⟨b, hb, hbc⟩ := hc (xs[i]'hlt) (List.getElem_mem _)
     refine Ev.step (f := fun k => (c k (xs[i]'hlt)).bind fun b => l k xs (ys.set i (mk b)) ((i + 1 : Nat) : Int)) (fun k => ?_) (Ev_bind hb ?_)
     · rw [hl, if_pos (by omega), if_pos (by omega), wsucc (by omega) (by omega), hrd, Int.toNat_natCast, getD_at hlt]
       congr 1
       funext b
       rw [if_pos (by omega)]
       rfl
     · refine ih (i + 1) (by omega) _ (by simpa using hy) ?_
       rw [List.take_succ_eq_append_getElem (by simpa using (by omega : i < ys.length)), List.take_succ_eq_append_getElem hlt, List.map_append, ← ht]
       simp [List.take_set_of_le, hbc]
 exact key xs.length 0 (by omega) ys hy (by simp)
theorem bytes_loop (s : ByteArray) (p : Nat → Int → Bool) (l : Nat → Int → Option Bool)
   (hin : ∀ k (i : Nat), i < s.size → l (k + 1) (i : Int) = if p i (bt s (i : Int)) = true then l k ((i + 1 : Nat) : Int) else some false)
   (hend : ∀ k, l (k + 1) (s.size : Int) = some true) : Ev (fun k => l k 0) ((List.range s.size).all fun j => p j (bt s (j : Int))) := by
 have key : ∀ (d i : Nat), i + d = s.size → Ev (fun k => l k (i : Int)) ((List.range' i d).all fun j => p j (bt s (j : Int))) := by
   intro d
   induction d with
   | zero =>
     intro i hi
     obtain rfl : i = s.size := by omega
     exact Ev_one (fun k => by rw [hend]; simp)
   | succ d ih =>
     intro i hi
     rw [List.range'_succ, List.all_cons]
     by_cases hp : p i (bt s (i : Int)) = true
     · rw [hp, Bool.true_and]
       exact Ev.step (fun k => by rw [hin k i (by omega), if_pos hp]) (ih (i + 1) (by omega))
     · have hp' : p i (bt s (i : Int)) = false := by simpa using hp
       rw [hp', Bool.false_and]
       exact Ev_one (fun k => by rw [hin k i (by omega), if_neg hp])
 have := key s.size 0 (by omega)
 rw [← List.range_eq_range'] at this
 exact this
def idx {α : Type} (p : α → Bool) (l : List α) : Int := match l.findIdx? p with | some i => (i : Int) | none => -1
theorem idx_hit {α : Type} {p : α → Bool} {l : List α} {k : Nat} (hk : k < l.length) (h : p (l[k]'hk) = true) (hb : ∀ j (hj : j < l.length), j < k → p (l[j]'hj) = false) : idx p l = (k : Int) := by
 unfold idx
 rw [List.findIdx?_eq_some_iff_getElem.2 ⟨hk, h, fun j hj => by rw [hb j (by omega) hj]; exact Bool.false_ne_true⟩]
theorem idx_none {α : Type} {p : α → Bool} {l : List α} (hb : ∀ j (hj : j < l.length), j < l.length → p (l[j]'hj) = false) : idx p l = -1 := by
 unfold idx
 rw [List.findIdx?_eq_none_iff.2 (fun x hx => by obtain ⟨j, hj, rfl⟩ := List.getElem_of_mem hx; exact hb j hj hj)]
theorem idx_cases {α : Type} (p : α → Bool) (l : List α) : (idx p l = -1 ∧ ∀ x, x ∈ l → p x = false) ∨ ∃ k : Nat, ∃ hk : k < l.length, idx p l = (k : Int) ∧ p (l[k]'hk) = true ∧ ∀ j (hj : j < l.length), j < k → p (l[j]'hj) = false := by
 unfold idx
 cases h : l.findIdx? p with
 | none => exact .inl ⟨rfl, fun x hx => by simpa using List.findIdx?_eq_none_iff.1 h x hx⟩
 | some i =>
   obtain ⟨hk, h1, h2⟩ := List.findIdx?_eq_some_iff_getElem.1 h
   exact .inr ⟨i, hk, rfl, h1, fun j hj hji => by simpa using h2 j hji⟩
theorem idx_any {α : Type} (p : α → Bool) (l : List α) : decide (0 ≤ idx p l) = l.any p := by
 rcases idx_cases p l with ⟨h, hn⟩ | ⟨k, hk, h, hp, _⟩
 · rw [h]
   symm
   rw [List.any_eq_false.2 (fun x hx => by rw [hn x hx]; exact Bool.false_ne_true)]
   rfl
 · rw [h]
   symm
   rw [List.any_eq_true.2 ⟨_, List.getElem_mem hk, hp⟩]
   simp
end Go.Proofs.YtmkpgddfoaglpaaGreatDoor.Gn
