/-
 What the laws' arguments are known to fit, and how they open. No condition.
-/
import Derived.KernelRfl
import Derived.Lib.SliceRun
import Derived.Lib.Strings
import Derived.Lib.Slices
import Derived.Lib.Walk
import Derived.Lib.Bytealg
import Derived.Below
import Derived.Test.YtmkpgddfoaglpaaGreatDoorVIWords
import Derived.Lib.SlTrimSet
import Derived.Shelf.Abstract
import Derived.Test.YtmkpgddfoaglpaaGreatDoorVIQVisiblea
import Derived.Test.YtmkpgddfoaglpaaGreatDoorVIP1
import Derived.Test.YtmkpgddfoaglpaaGreatDoorVIGen
namespace Go.Proofs.YtmkpgddfoaglpaaGreatDoor.Ft
open Go.RowKit Go.Proofs.YtmkpgddfoaglpaaGreatDoorW.PrintWords
def fit9 (s : ByteArray) : Prop := s.size ≤ 140737488351232
theorem op9 : Opn.Opens Tryz.prog 9 Kd.string fit9 := Opn.opens_string Tryz.underlying9
def fit149 (x : PG.S149) : Prop := fit9 x.f0 ∧ fit9 x.f1
theorem op149 : Opn.Opens Tryz.prog 149 PG.k149 fit149 := Opn.opens_struct Tryz.underlying149 (Opn.opensF_cons op9 (by kernel_rfl) rfl (Opn.opensF_one op9 (by kernel_rfl) rfl)) (by kernel_rfl) (fun x : PG.S149 => (x.f0, x.f1)) (fun p => ⟨p.1, p.2⟩) (fun _ => rfl)
def fit36 (l : List (PG.S149)) : Prop := l.length * 32 ≤ 140737488351232 ∧ ∀ x, x ∈ l → fit149 x
theorem op36 : Opn.Opens Tryz.prog 36 (Kd.slice 149 PG.k149) fit36 := Opn.opens_slice Tryz.underlying36 op149 (by kernel_rfl) (by kernel_rfl)
def fit100 (l : List ByteArray) : Prop := l.length * 16 ≤ 140737488351232 ∧ ∀ x, x ∈ l → fit9 x
theorem op100 : Opn.Opens Tryz.prog 100 (Kd.slice 9 Kd.string) fit100 := Opn.opens_slice Tryz.underlying100 op9 (by kernel_rfl) (by kernel_rfl)
def fit2 (n : Int) : Prop := (Lit.int .i64 n).wf = true
theorem op2 : Opn.Opens Tryz.prog 2 (Kd.int .i64) fit2 := Opn.opens_int Tryz.underlying2
def fit4 (_ : Bool) : Prop := True
theorem op4 : Opn.Opens Tryz.prog 4 Kd.bool fit4 := Opn.opens_bool Tryz.underlying4
def fit102 (x : PG.S102) : Prop := fit9 x.f0 ∧ fit36 x.f1 ∧ fit100 x.f2 ∧ fit2 x.f3 ∧ fit4 x.f4
theorem op102 : Opn.Opens Tryz.prog 102 PG.k102 fit102 := Opn.opens_struct Tryz.underlying102 (Opn.opensF_cons op9 (by kernel_rfl) rfl (Opn.opensF_cons op36 (by kernel_rfl) rfl (Opn.opensF_cons op100 (by kernel_rfl) rfl (Opn.opensF_cons op2 (by kernel_rfl) rfl (Opn.opensF_one op4 (by kernel_rfl) rfl))))) (by kernel_rfl) (fun x : PG.S102 => (x.f0, x.f1, x.f2, x.f3, x.f4)) (fun p => ⟨p.1, p.2.1, p.2.2.1, p.2.2.2.1, p.2.2.2.2⟩) (fun _ => rfl)
def fit22 (l : List (PG.S102)) : Prop := l.length * 80 ≤ 140737488351232 ∧ ∀ x, x ∈ l → fit102 x
theorem op22 : Opn.Opens Tryz.prog 22 (Kd.slice 102 PG.k102) fit22 := Opn.opens_slice Tryz.underlying22 op102 (by kernel_rfl) (by kernel_rfl)
def fit212 (x : PG.S212) : Prop := fit9 x.f0 ∧ fit100 x.f1
theorem op212 : Opn.Opens Tryz.prog 212 PG.k212 fit212 := Opn.opens_struct Tryz.underlying212 (Opn.opensF_cons op9 (by kernel_rfl) rfl (Opn.opensF_one op100 (by kernel_rfl) rfl)) (by kernel_rfl) (fun x : PG.S212 => (x.f0, x.f1)) (fun p => ⟨p.1, p.2⟩) (fun _ => rfl)
def fit37 (l : List (PG.S212)) : Prop := l.length * 40 ≤ 140737488351232 ∧ ∀ x, x ∈ l → fit212 x
theorem op37 : Opn.Opens Tryz.prog 37 (Kd.slice 212 PG.k212) fit37 := Opn.opens_slice Tryz.underlying37 op212 (by kernel_rfl) (by kernel_rfl)
def fit39 (x : PG.S39) : Prop := fit36 x.f0 ∧ fit37 x.f1
theorem op39 : Opn.Opens Tryz.prog 39 PG.k39 fit39 := Opn.opens_struct Tryz.underlying39 (Opn.opensF_cons op36 (by kernel_rfl) rfl (Opn.opensF_one op37 (by kernel_rfl) rfl)) (by kernel_rfl) (fun x : PG.S39 => (x.f0, x.f1)) (fun p => ⟨p.1, p.2⟩) (fun _ => rfl)
def fit23 (l : List (PG.S39)) : Prop := l.length * 48 ≤ 140737488351232 ∧ ∀ x, x ∈ l → fit39 x
theorem op23 : Opn.Opens Tryz.prog 23 (Kd.slice 39 PG.k39) fit23 := Opn.opens_slice Tryz.underlying23 op39 (by kernel_rfl) (by kernel_rfl)
end Go.Proofs.YtmkpgddfoaglpaaGreatDoor.Ft
/-
 The laws' marks: what marking a row writes is what is found there again. Plain Lean over the printed functions.
-/
namespace Go.Proofs.YtmkpgddfoaglpaaGreatDoor.PG
set_option linter.unusedVariables false
set_option linter.unusedSimpArgs false
open Go.RowKit Go.Proofs.YtmkpgddfoaglpaaGreatDoorW.PrintWords Go.Proofs.YtmkpgddfoaglpaaGreatDoorW.PrintLast Go.Proofs.YtmkpgddfoaglpaaGreatDoorW.PrintMore Go.Proofs.YtmkpgddfoaglpaaGreatDoor.Gn
theorem mark_text_loop : ∀ (n : Nat) (x : Int) (t : ByteArray), 0 ≤ x → x ≤ n → t.size + n ≤ 4611686018427387904 → ∃ r, Ev (fun k => laws_markText.l0 k x t) r := by
 intro n
 induction n using Nat.strongRecOn with
 | _ n ih =>
   intro x t h0 hn ht
   by_cases hx : x > 0
   · obtain ⟨m, rfl⟩ : ∃ m, n = m + 1 := ⟨n - 1, by omega⟩
     have hd : x.tdiv 10 = x / 10 := Int.tdiv_eq_ediv_of_nonneg h0
     have hw : wrap64 (x.tdiv 10) = x / 10 := by rw [hd]; exact w_id (by omega) (by omega)
     have hsz : ∀ c : Int, (strOfNums [c]).size = 1 := fun c => rfl
     obtain ⟨r, hr⟩ := ih m (by omega) (x / 10) ((strOfNums [(wrap64 (48 + (Int.tmod x 10))) % 256]) ++ t) (by omega) (by omega) (by rw [ByteArray.size_append, hsz]; omega)
     refine ⟨r, Ev.step (fun k => by simp only [laws_markText.l0]; rw [if_pos hx]; simp only [Option.bind_some]; rw [if_pos (by rw [hsz]; omega), hw]) hr⟩
   · exact ⟨_, Ev_one fun k => by simp only [laws_markText.l0]; rw [if_neg hx, if_pos (by omega)]⟩
theorem mark_text (x : Int) : ∃ r, x ≤ 4000000000000000000 → Ev (fun k => laws_markText.f k x) r := by
 by_cases h : x ≤ 0
 · exact ⟨_, fun _ => Ev_some fun k => by unfold laws_markText.f; rw [if_pos h]⟩
 · by_cases h2 : x ≤ 4000000000000000000
   · obtain ⟨r, hr⟩ := mark_text_loop 4000000000000000000 x ⟨#[]⟩ (by omega) (by omega) (by show (0 : Nat) + _ ≤ _; omega)
     exact ⟨r, fun _ => Ev.congr (fun k => by unfold laws_markText.f; rw [if_neg h]) hr⟩
   · exact ⟨⟨#[]⟩, fun h3 => absurd h3 h2⟩
noncomputable def markT (x : Int) : ByteArray := Classical.choose (mark_text x)
theorem markT_ev {x : Int} (h : x ≤ 4000000000000000000) : Ev (fun k => laws_markText.f k x) (markT x) := Classical.choose_spec (mark_text x) h
theorem mark_wrap {x y n j : Int} (h0 : 0 ≤ x) (hB : x + n ≤ 4000000000000000000) (h : y + 1 = x + j) (hj : 0 ≤ j ∧ j ≤ n) : wrap64 (y + 1) = x + j := by
 rw [h]
 exact w_id (by omega) (by omega)
theorem mark_succ {i n : Nat} (h : i < n) (hn : n ≤ 4000000000000000000) : wrap64 ((i : Int) + 1) = ((i + 1 : Nat) : Int) := by
 rw [wsucc (by omega) (by omega)]
 omega
def mkL {α : Type} (mk : Int → α) (n : Nat) : Int → Nat → List α
 | _, 0 => []
 | x, m + 1 => mk x :: mkL mk n (x + n) m
theorem mkL_length {α : Type} (mk : Int → α) (n : Nat) : ∀ (m : Nat) (x : Int), (mkL mk n x m).length = m
 | 0, _ => rfl
 | m + 1, x => by simp [mkL, mkL_length mk n m]
theorem mark_loop {α : Type} (n : Nat) (mk : Int → α) (l : Nat → List α → Int → Int → Option (Int × List α)) (B : Int)
   (hend : ∀ (k : Nat) (xs : List α) (x : Int) (i : Nat), xs.length ≤ i → l (k + 1) xs x (i : Int) = some (x, xs))
   (hstep : ∀ (xs : List α) (x : Int) (i : Nat) (r : Int × List α), i < xs.length → xs.length ≤ 4000000000000000000 → 0 ≤ x → x + n ≤ B → Ev (fun k => l k (xs.set i (mk x)) (x + n) ((i + 1 : Nat) : Int)) r → Ev (fun k => l k xs x (i : Int)) r) :
   ∀ (m i : Nat) (xs : List α) (x : Int), i + m = xs.length → xs.length ≤ 4000000000000000000 → 0 ≤ x → x + n * m ≤ B → Ev (fun k => l k xs x (i : Int)) (x + n * m, xs.take i ++ mkL mk n x m) := by
 intro m
 induction m with
 | zero =>
   intro i xs x hi hl h0 hB
   refine Ev_one fun k => ?_
   rw [hend k xs x i (by omega), List.take_of_length_le (by omega)]
   simp [mkL]
 | succ m ih =>
   intro i xs x hi hl h0 hB
   have e1 : (n : Int) * ((m + 1 : Nat) : Int) = n + n * (m : Int) := by rw [Int.natCast_add, Int.mul_add]; omega
   rw [e1] at hB ⊢
   have hnm : (0 : Int) ≤ (n : Int) * (m : Int) := Int.mul_nonneg (by omega) (by omega)
   have h2 := ih (i + 1) (xs.set i (mk x)) (x + n) (by rw [List.length_set]; omega) (by rw [List.length_set]; exact hl) (by omega) (by omega)
   have h3 := hstep xs x i _ (by omega) hl h0 (by omega) h2
   have e2 : (xs.set i (mk x)).take (i + 1) ++ mkL mk n (x + n) m = xs.take i ++ mkL mk n x (m + 1) := by
     rw [List.take_succ_eq_append_getElem (by rw [List.length_set]; omega), List.take_set_of_le (Nat.le_refl _), List.getElem_set_self, List.append_assoc]
     rfl
   rw [e2, Int.add_assoc] at h3
   exact h3
theorem held_loop {α : Type} (n : Nat) (mk : Int → α) (l : Nat → List α → Int → Int → Option Int) (B : Int)
   (hend : ∀ (k : Nat) (xs : List α) (x : Int) (i : Nat), xs.length ≤ i → l (k + 1) xs x (i : Int) = some x)
   (hstep : ∀ (xs : List α) (x : Int) (i : Nat) (r : Int) (hi : i < xs.length), xs.length ≤ 4000000000000000000 → 0 ≤ x → x + n ≤ B → xs[i]'hi = mk x → Ev (fun k => l k xs (x + n) ((i + 1 : Nat) : Int)) r → Ev (fun k => l k xs x (i : Int)) r) :
   ∀ (m i : Nat) (xs : List α) (x : Int), i + m = xs.length → xs.length ≤ 4000000000000000000 → 0 ≤ x → x + n * m ≤ B → xs.drop i = mkL mk n x m → Ev (fun k => l k xs x (i : Int)) (x + n * m) := by
 intro m
 induction m with
 | zero =>
   intro i xs x hi hl h0 hB hd
   refine Ev_one fun k => ?_
   rw [hend k xs x i (by omega)]
   simp
 | succ m ih =>
   intro i xs x hi hl h0 hB hd
   have e1 : (n : Int) * ((m + 1 : Nat) : Int) = n + n * (m : Int) := by rw [Int.natCast_add, Int.mul_add]; omega
   rw [e1] at hB ⊢
   have hnm : (0 : Int) ≤ (n : Int) * (m : Int) := Int.mul_nonneg (by omega) (by omega)
   have hlt : i < xs.length := by omega
   rw [List.drop_eq_getElem_cons hlt] at hd
   simp only [mkL, List.cons.injEq] at hd
   have h2 := ih (i + 1) xs (x + n) (by omega) hl (by omega) (by omega) hd.2
   have h3 := hstep xs x i _ hlt hl h0 (by omega) hd.1 h2
   rw [Int.add_assoc] at h3
   exact h3
end Go.Proofs.YtmkpgddfoaglpaaGreatDoor.PG
/-
 Rows of the call's own: cells behind a row's end may be written; what clear(s) does. No condition but those stated.
-/
namespace Go.Proofs.YtmkpgddfoaglpaaGreatDoor.PG
set_option linter.unusedVariables false
set_option linter.unusedSimpArgs false
open Go.RowKit Go.Proofs.YtmkpgddfoaglpaaGreatDoorW.PrintWords Go.Proofs.YtmkpgddfoaglpaaGreatDoorW.PrintLast Go.Proofs.YtmkpgddfoaglpaaGreatDoorW.PrintMore Go.Proofs.YtmkpgddfoaglpaaGreatDoor.Gn
theorem R_empty {α : Type} (d : Kd α) (e : Nat) (w : World) : Kd.R d e (w.alloc (.cells #[] e)) w.heap.size (fun _ => True) (.slice (some ⟨w.heap.size, 0, none⟩) 0 0) [] := by
 refine ⟨fun _ _ => trivial, [], ?_, Reps.none _ _⟩
 have h := World.ownsRow_lit (base := w.heap.size) (e := e) (size := d.sz) w #[] 0 (Nat.le_refl _) (by decide) (by simp)
 simpa using h
theorem R_wipe {α : Type} {d : Kd α} {e base g n cap : Nat} {ok : Nat → Prop} {W : World} {xs : List α} (h : d.R e W base ok (.slice (some ⟨g, 0, none⟩) n cap) xs) (a : Nat) (ha : a ≤ n) (vs : List Value) (hv : a * d.sz + vs.length ≤ n * d.sz) :
   d.R e (W.setCells g (a * d.sz) vs) base ok (.slice (some ⟨g, 0, none⟩) a cap) (xs.take a) := by
 obtain ⟨hn, hnc, _⟩ := Kd.R_reads' h
 have h2 := Kd.R_take (m := a) h (by omega)
 have hfar : ∀ k, k ≠ g → (W.setCells g (a * d.sz) vs).heap[k]? = W.heap[k]? := fun k hk => setCells_far vs _ k hk
 obtain ⟨hok, inner, ho, hr⟩ := h2
 obtain ⟨ho1, ho2⟩ := ho
 refine ⟨hok, inner, ⟨ho1, ?_⟩, ?_⟩
 · rcases ho2 with ⟨hv', _⟩ | ⟨g', cap', cur, hv', hb, hh, hnc', hcm, hcs, ht⟩
   · cases hv'
   injection hv' with ha' _ hc
   injection ha' with ha'
   injection ha' with hg
   subst hg; subst hc
   have hfit : a * d.sz + vs.length ≤ cur.size := by
     have : n * d.sz ≤ cap * d.sz := Nat.mul_le_mul_right _ hnc
     omega
   obtain ⟨cur', h3, h4, h5⟩ := setCells_row vs (a * d.sz) W cur hh hfit
   have hlt : (xs.take a).length = a := by rw [List.length_take]; omega
   refine .inr ⟨g, cap, cur', by rw [hlt], hb, h3, hnc', hcm, by rw [h4, hcs], ?_⟩
   rw [hlt] at ht ⊢
   rw [h5, List.append_assoc, List.take_append_of_le_length (by rw [List.length_take, Array.length_toList]; omega), List.take_take, Nat.min_self]
   exact ht
 · refine hr.imp_ (fun p c hM => d.M_move (fun k hk => hfar k ?_) hM)
   rintro rfl
   exact hk.2 rfl
theorem zero_mem (zero : Array Value) (n : Nat) : ∀ u ∈ (Builtin.zeroCells zero n).toList, u ∈ zero.toList := by
 intro u hu
 simp only [Builtin.zeroCells, Array.toList_map, List.mem_map, Array.toList_range, List.mem_range] at hu
 obtain ⟨i, hi, rfl⟩ := hu
 have hz : 0 < zero.size := by
   rcases Nat.eq_zero_or_pos zero.size with h | h
   · rw [h] at hi; omega
   · exact h
 have hm := Nat.mod_lt i hz
 rw [getElem!_pos zero (i % zero.size) hm]
 simp
theorem zero_len (zero : Array Value) (n : Nat) : (Builtin.zeroCells zero n).toList.length = n * zero.size := by
 simp [Builtin.zeroCells]
theorem run_clear {P : Program} (w : World) (t e ty : TypeId) (z : Value) (ht : P.underlying t = some (.slice e)) (hv : ∀ w, (zeroValue e).run P w = .ok z w) (h1 : ∀ u ∈ z.cells.toList, u.oneCell' = true) (b o n c : Nat) (hn : 0 < n)
   (hc : ∀ j, j < n * z.cells.size → (w.cell? ⟨b, o + j, none⟩).isSome = true) (hf : ∀ j, j < n * z.cells.size → w.frozen? ⟨b, o + j, none⟩ = false) :
   (Builtin.clear_ #[t] ty #[.slice (some ⟨b, o, none⟩) n c]).run P w = .ok (.tuple #[]) (w.setCells b o (Builtin.zeroCells z.cells n).toList) := by
 have hl := zero_len z.cells n
 have hst := run_storeCells_cells (P := P) b o (Builtin.zeroCells z.cells n).toList 0 w (by rw [hl]; simpa using hc) (by rw [hl]; simpa using hf) (by intro v hv'; exact h1 v (zero_mem _ _ v hv'))
 simp only [Nat.add_zero] at hst
 obtain ⟨m, rfl⟩ : ∃ m, n = m + 1 := ⟨n - 1, by omega⟩
 simp [Builtin.clear_, run_underlying ht, hv, hst]
theorem R_cells {α : Type} {d : Kd α} {e base g n cap : Nat} {ok : Nat → Prop} {W : World} {xs : List α} (h : d.R e W base ok (.slice (some ⟨g, 0, none⟩) n cap) xs) (j : Nat) (hj : j < n * d.sz) : (W.cell? ⟨g, j, none⟩).isSome = true ∧ W.frozen? ⟨g, j, none⟩ = false := by
 obtain ⟨hn, hnc, _⟩ := Kd.R_reads' h
 obtain ⟨hok, inner, ho, hr⟩ := h
 obtain ⟨ho1, ho2⟩ := ho
 rcases ho2 with ⟨hv', _⟩ | ⟨g', cap', cur, hv', hb, hh, hnc', hcm, hcs, ht⟩
 · cases hv'
 injection hv' with ha' _ hc
 injection ha' with ha'
 injection ha' with hg
 subst hg; subst hc
 have hfit : j < cur.size := by
   have : n * d.sz ≤ cap * d.sz := Nat.mul_le_mul_right _ hnc
   omega
 exact ⟨by rw [blk_cell hh, Array.getElem?_eq_getElem hfit]; rfl, blk_frozen hh j⟩
theorem setCells_kept (W : World) (g o : Nat) (vs : List Value) : Kept W (W.setCells g o vs) (fun k => k = g) := by
 obtain ⟨_, _, _, s4⟩ := setCells_same g vs o W
 exact ⟨by rw [s4]; exact Nat.le_refl _, fun i _ hn => setCells_far vs o i hn⟩
theorem setCells_below {B : Nat} (W : World) (g o : Nat) (vs : List Value) (hg : B ≤ g) : Below B W (W.setCells g o vs) := by
 obtain ⟨s1, s2, s3, s4⟩ := setCells_same g vs o W
 exact ⟨s1, s2, s3, by rw [s4]; exact Nat.le_refl _, fun k hk => setCells_far vs o k (by omega)⟩
def DelInv {α : Type} (p : α → Bool) (l xs : List α) (a b n : Nat) : Prop := xs.length = n ∧ xs.take a = (l.take b).filter (fun x => !p x) ∧ xs.drop b = l.drop b
theorem DelInv.start {α : Type} {p : α → Bool} {l : List α} {k : Nat} (hk : k < l.length) (hp : p (l[k]'hk) = true) (hb : ∀ j (hj : j < l.length), j < k → p (l[j]'hj) = false) : DelInv p l l k (k + 1) l.length := by
 refine ⟨rfl, ?_, rfl⟩
 rw [List.take_succ_eq_append_getElem hk, List.filter_append]
 have h1 : (l.take k).filter (fun x => !p x) = l.take k := by
   rw [List.filter_eq_self]
   intro x hx
   obtain ⟨j, hj, rfl⟩ := List.getElem_of_mem hx
   rw [List.length_take] at hj
   rw [List.getElem_take, hb j (by omega) (by omega)]
   rfl
 rw [h1]
 simp [hp]
theorem DelInv.at_ {α : Type} {p : α → Bool} {l xs : List α} {a b n : Nat} (h : DelInv p l xs a b n) (hl : l.length = n) (hb : b < n) (z : α) : ∃ hb' : b < l.length, xs.getD b z = l[b]'hb' := by
 obtain ⟨h1, h2, h3⟩ := h
 refine ⟨by omega, ?_⟩
 have h4 : xs[b]? = l[b]? := by
   have := congrArg (fun q => q[0]?) h3
   simpa [List.getElem?_drop] using this
 rw [List.getD_eq_getElem?_getD, h4, List.getElem?_eq_getElem (by omega)]
 rfl
theorem DelInv.skip {α : Type} {p : α → Bool} {l xs : List α} {a b n : Nat} (h : DelInv p l xs a b n) (hl : l.length = n) (hb : b < n) (z : α) (hp : p (xs.getD b z) = true) : DelInv p l xs a (b + 1) n := by
 obtain ⟨hb', hx⟩ := h.at_ hl hb z
 rw [hx] at hp
 obtain ⟨h1, h2, h3⟩ := h
 refine ⟨h1, ?_, ?_⟩
 · rw [List.take_succ_eq_append_getElem hb', List.filter_append, ← h2]
   simp [hp]
 · rw [← List.drop_drop, ← List.drop_drop, h3]
theorem DelInv.put {α : Type} {p : α → Bool} {l xs : List α} {a b n : Nat} (h : DelInv p l xs a b n) (hl : l.length = n) (hb : b < n) (hab : a < b) (z : α) (hp : p (xs.getD b z) = false) : DelInv p l (xs.set a (xs.getD b z)) (a + 1) (b + 1) n := by
 obtain ⟨hb', hx⟩ := h.at_ hl hb z
 rw [hx] at hp ⊢
 obtain ⟨h1, h2, h3⟩ := h
 refine ⟨by rw [List.length_set]; exact h1, ?_, ?_⟩
 · rw [List.take_succ_eq_append_getElem hb', List.filter_append, ← h2, List.take_succ_eq_append_getElem (by rw [List.length_set]; omega), List.take_set_of_le (Nat.le_refl _), List.getElem_set_self]
   simp [hp]
 · rw [List.drop_set_of_lt (by omega), ← List.drop_drop, ← List.drop_drop, h3]
theorem DelInv.end_ {α : Type} {p : α → Bool} {l xs : List α} {a n : Nat} (h : DelInv p l xs a n n) (hl : l.length = n) : xs.take a = l.filter (fun x => !p x) := by
 rw [h.2.1, List.take_of_length_le (by omega)]
theorem run_store_v {P : Program} {w : World} {a : Addr} {v : Value} {m : Mode} (h : v.oneCell' = true) : (store a v m).run P w = stored P w a v m := run_store P w a v m h
end Go.Proofs.YtmkpgddfoaglpaaGreatDoor.PG
/-
 strings.Trim at an ASCII cutset returns the string without the cutset's bytes at both ends: the shelf's contract in this seat's numbers. Condition: the lengths' bounds of the contract.
-/
namespace Go.Proofs.YtmkpgddfoaglpaaGreatDoor.PG
open Go.RowKit Go.Shelf
open Go.Proofs.YtmkpgddfoaglpaaGreatDoorW.PrintWords Go.Proofs.YtmkpgddfoaglpaaGreatDoorW.PrintLast Go.Proofs.YtmkpgddfoaglpaaGreatDoorW.PrintMore
def trimOk (s c : ByteArray) : Bool := decide (s.size ≤ 9223372036854775807) && (decide (c.size < 4294967281) && c.data.toList.all (fun b => decide (b.toNat < 128)))
def strings_Trim.f (a0 a1 : ByteArray) : Option (ByteArray) := if trimOk a0 a1 = true then some ⟨(Lib.trimS a0.data.toList a1.data.toList).toArray⟩ else none
theorem strings_Trim.calls (a0 a1 : ByteArray) (r : ByteArray) (w : World) (h : strings_Trim.f a0 a1 = some r) :
   Calls Tryz.prog 167 #[.string a0, .string a1] w fun e w' => e = .returned (.string r) ∧ Below w.heap.size w w' := by
 unfold strings_Trim.f at h
 by_cases hk : trimOk a0 a1 = true
 · rw [if_pos hk] at h
   obtain rfl := Option.some.inj h
   simp only [trimOk, Bool.and_eq_true, decide_eq_true_eq] at hk
   obtain ⟨h1, h2, h3⟩ := hk
   exact Any.strings_Trim_laid Tryz.lays160 (by kernel_rfl) a0 a1 w h1 h2 (ascii_of_all h3)
 · rw [if_neg hk] at h
   cases h
end Go.Proofs.YtmkpgddfoaglpaaGreatDoor.PG
/-
 strings.Compare returns -1, 0, 1 as the bytes' order says: the shelf's walk in this seat's numbers. No condition.
-/
namespace Go.Proofs.YtmkpgddfoaglpaaGreatDoor.PG
open Go.RowKit
open Go.Proofs.YtmkpgddfoaglpaaGreatDoorW.PrintWords Go.Proofs.YtmkpgddfoaglpaaGreatDoorW.PrintLast Go.Proofs.YtmkpgddfoaglpaaGreatDoorW.PrintMore
set_option linter.unusedVariables false
set_option maxHeartbeats 1000000 in
set_option maxRecDepth 100000 in
theorem compareString_walk (a b : ByteArray) (w : World) :
   Calls Tryz.prog 320 #[.string a, .string b] w fun e w' => e = .returned (.int .i64 (Lib.compareBytes a.data.toList b.data.toList)) ∧ w' = w := by
 go_enter Tryz.func320, Tryz.ntmps320
 go_wp2
 rw [run_callFunc_extern Tryz.func331 (by kernel_rfl) (by kernel_rfl) (by kernel_rfl) (e := Extern.BytealgCompare.compare) (by kernel_rfl), Lib.run_compareString]
 simp only [Result.andThen]
 rw [Oper.upon_value]
 go_wp2
 go_ret
 exact ⟨rfl, rfl⟩
set_option maxHeartbeats 1000000 in
theorem compare_walk (a b : ByteArray) (w : World) :
   Calls Tryz.prog 300 #[.string a, .string b] w fun e w' => e = .returned (.int .i64 (Lib.compareBytes a.data.toList b.data.toList)) ∧ w' = w := by
 go_enter Tryz.func300, Tryz.ntmps300
 go_wp2_with (go_at_call 320; refine (compareString_walk _ _ _).mono ?_; rintro e w' ⟨rfl, rfl⟩)
 go_ret
 exact ⟨rfl, rfl⟩
def strings_Compare.f (a0 a1 : ByteArray) : Option Int := some (Lib.compareBytes a0.data.toList a1.data.toList)
theorem strings_Compare.calls (a0 a1 : ByteArray) (r : Int) (w : World) (h : strings_Compare.f a0 a1 = some r) :
   Calls Tryz.prog 300 #[.string a0, .string a1] w fun e w' => e = .returned (.int .i64 r) ∧ Below w.heap.size w w' := by
 obtain rfl := Option.some.inj h
 refine (compare_walk a0 a1 w).mono ?_
 rintro e w' ⟨rfl, rfl⟩
 exact ⟨rfl, Below.refl _ _⟩
end Go.Proofs.YtmkpgddfoaglpaaGreatDoor.PG
/-
 What names, norms and values are, as plain functions of a string's bytes; the depth of an expression in prefix form. Plain Lean; no condition.
-/
namespace Go.Proofs.YtmkpgddfoaglpaaGreatDoor.Sem
set_option linter.unusedSimpArgs false
set_option linter.unusedVariables false
open Go.RowKit Go.Proofs.YtmkpgddfoaglpaaGreatDoorW.PrintWords Go.Proofs.YtmkpgddfoaglpaaGreatDoorW.PrintLast Go.Proofs.YtmkpgddfoaglpaaGreatDoorW.PrintMore Go.Proofs.YtmkpgddfoaglpaaGreatDoor.Gn
def isLo (c : Int) : Bool := decide (97 ≤ c) && decide (c ≤ 122)
def isDi (c : Int) : Bool := decide (48 ≤ c) && decide (c ≤ 57)
def isNm (c : Int) : Bool := isLo c || (isDi c || decide (c = 95))
def nameB (s : ByteArray) : Bool := decide (1 ≤ s.size) && (decide (s.size ≤ 20) && (isLo (bt s 0) && (List.range s.size).all fun j => isNm (bt s (j : Int))))
theorem dropWhile_nil {α : Type} (p : α → Bool) : ∀ l : List α, (l.dropWhile p = []) ↔ l.all p = true
 | [] => by simp
 | a :: l => by
   rw [List.dropWhile_cons, List.all_cons]
   by_cases h : p a = true
   · rw [if_pos h, h, Bool.true_and]
     exact dropWhile_nil p l
   · rw [if_neg h]
     simp [h]
theorem trimS_nil (l cs : List UInt8) : (Lib.trimS l cs == []) = l.all (cs.contains ·) := by
 have h1 : (Lib.trimS l cs = []) ↔ l.all (cs.contains ·) = true := by
   unfold Lib.trimS Lib.trimLeftS Lib.trimRightS
   rw [dropWhile_nil]
   constructor
   · intro h
     rw [List.all_reverse] at h
     by_cases he : l.reverse.dropWhile (cs.contains ·) = []
     · rw [dropWhile_nil, List.all_reverse] at he
       exact he
     · have hh := List.head_dropWhile_not (p := (cs.contains ·)) (l := l.reverse) he
       have := List.all_eq_true.1 h _ (List.head_mem he)
       rw [this] at hh
       cases hh
   · intro h
     have he : l.reverse.dropWhile (cs.contains ·) = [] := by
       rw [dropWhile_nil, List.all_reverse]
       exact h
     rw [he]
     rfl
 rw [Bool.eq_iff_iff, beq_iff_eq]
 exact h1
theorem bt_byte (s : ByteArray) (j : Nat) (h : j < s.size) : bt s (j : Int) = ((s[j]'h).toNat : Int) := by
 unfold bt
 rw [dif_pos (by simpa using h)]
 rfl
theorem all_bytes (s : ByteArray) (p : UInt8 → Bool) (q : Int → Bool) (h : ∀ b : UInt8, p b = q (b.toNat : Int)) : s.data.toList.all p = (List.range s.size).all fun j => q (bt s (j : Int)) := by
 rw [Bool.eq_iff_iff, List.all_eq_true, List.all_eq_true]
 constructor
 · intro h1 j hj
   have hj' : j < s.size := by simpa using hj
   rw [bt_byte s j hj', ← h]
   exact h1 _ (by rw [Array.mem_toList_iff]; exact Array.getElem_mem _)
 · intro h1 b hb
   rw [Array.mem_toList_iff] at hb
   obtain ⟨j, hj, rfl⟩ := Array.mem_iff_getElem.1 hb
   rw [h]
   have := h1 j (by simpa using hj)
   rw [bt_byte s j hj] at this
   exact this
def nmSet : List UInt8 := [97, 98, 99, 100, 101, 102, 103, 104, 105, 106, 107, 108, 109, 110, 111, 112, 113, 114, 115, 116, 117, 118, 119, 120, 121, 122, 48, 49, 50, 51, 52, 53, 54, 55, 56, 57, 95]
theorem nm_set (b : UInt8) : nmSet.contains b = isNm (b.toNat : Int) := by
 have h : ∀ n : Fin 256, nmSet.contains (UInt8.ofNat n.val) = isNm (n.val : Int) := by decide +kernel
 have := h ⟨b.toNat, b.toNat_lt⟩
 simpa using this
theorem bt_bounds (s : ByteArray) (i : Int) : 0 ≤ bt s i ∧ bt s i ≤ 255 := by
 unfold bt
 split
 · rename_i h
   have := (s[i.toNat]'h).toNat_lt
   omega
 · omega
def plainB (s : ByteArray) : Bool := (List.range s.size).all fun j => decide (32 ≤ bt s (j : Int)) && decide (bt s (j : Int) ≤ 126)
section
variable {α : Type} (ok : α → Bool) (ar : α → Int) (f : Nat → List α → Option (Int × Int)) (l0 : Nat → List α → Int → Int → Int → Int → Option (Int × Int))
 (s : Nat → List α → Int → Int → Option Int) (sl : Nat → List α → Int → Int → Int → Option Int)
end
end Go.Proofs.YtmkpgddfoaglpaaGreatDoor.Sem
/-
 slices_IndexFunc_Rdn: what it comes to for whatever function value tells a test. Conditions: what is asked of the function value (hcall).
-/
namespace Go.Proofs.YtmkpgddfoaglpaaGreatDoor.PG
open Go.RowKit Go.Proofs.YtmkpgddfoaglpaaGreatDoorW.PrintWords Go.Proofs.YtmkpgddfoaglpaaGreatDoorW.PrintLast Go.Proofs.YtmkpgddfoaglpaaGreatDoorW.PrintMore Go.Proofs.YtmkpgddfoaglpaaGreatDoor.Gn
attribute [local go_sem] max2_int min2_int max_two min_two max_three min_three max_four min_four
set_option linter.unusedVariables false
set_option linter.unusedSimpArgs false
set_option maxHeartbeats 4000000 in
set_option maxRecDepth 100000 in
theorem slices_IndexFunc_Rdn.any_in (l : List (S151)) (g : Nat) (lb : Array Value) (E : World → Prop) (p : S151 → Bool) (hE : ∀ W W', Below W.heap.size W W' → E W → E W')
   (hcall : ∀ (W : World) (x : S151) (cs : List Value), x ∈ l → E W → Kd.K k151 W x cs → Calls Tryz.prog g (#[.agg cs.toArray] ++ lb) W fun e w' => e = .returned (.bool (p x)) ∧ Below W.heap.size W w')
   (eg : ∀ args w, (callFunc g args).run Tryz.prog w = .ok (.enter g args) w)
   (A : Option Addr) (c : Nat) (w : World) (hr : Kd.C k151 w A l.length l) (he : E w) :
   Calls Tryz.prog 299 #[.slice A l.length c, .func (.func g) #[] lb] w fun e w' => e = .returned (.int .i64 (idx p l)) ∧ Below w.heap.size w w' := by
 have hmx := Kd.C_max hr
 have HR := Aside0.mk hr
 have HEE := Aside0.mk he
 have HE := Aside0.mk hE
 have HCALL := Aside0.mk hcall
 clear hr he hE hcall
 go_enter Tryz.func299, Tryz.ntmps299
 go_wp2
 go_loopw [8] (fun i wr => ∃ k : Nat, k ≤ l.length ∧ i = .int .i64 k ∧ Aside0 (∀ j (hj : j < l.length), j < k → p (l[j]'hj) = false) ∧ Aside0 (Below w.heap.size w wr)) (fun i _ => l.length - (intOf i).toNat)
 case atStart => exact ⟨0, Nat.zero_le _, rfl, ⟨fun j hj h => absurd h (Nat.not_lt_zero _)⟩, ⟨Below.refl _ _⟩⟩
 case round =>
   obtain ⟨k, hk, rfl, HP, HB⟩ := hrel
   by_cases hlt : k < l.length
   · obtain ⟨ad, cs, hA, hcl, hK, hcc⟩ := Kd.C_get (Kd.C_below HR.out HB.out) z151 (k : Int) (by omega) (by omega)
     rw [Int.toNat_natCast, getD_at hlt] at hK
     obtain ⟨x, hx⟩ : ∃ x, l[k]'hlt = x := ⟨_, rfl⟩
     have HX := Aside0.mk hx
     rw [hx] at hK
     have HK := Aside0.mk hK
     obtain rfl := k151_open hK
     subst hA
     have hc0 : ∀ j u, ([.string x.f0, .string x.f1] : List Value)[j]? = some u → wr.cell? (ad.add (k * 2 + j)) = some u := by
       intro j u hu
       have := hcc j u hu
       rwa [Int.toNat_natCast] at this
     have f0 : wr.cell? (ad.add (k * 2)) = some (.string x.f0) := hc0 0 _ rfl
     have f1 : wr.cell? ⟨(ad.add (k * 2)).block, (ad.add (k * 2)).off + 1, none⟩ = some (.string x.f1) := by rw [← add_field _ _ 1 (by omega)]; exact hc0 1 _ rfl
     clear hc0 hcc hcl hK hx
     have hcall := HCALL.out wr x _ (by rw [← HX.out]; exact List.getElem_mem hlt) (HE.out _ _ HB.out HEE.out) HK.out
     cases hq : p x with
     | true =>
       rw [hq] at hcall
       have HQ := Aside0.mk hq
       clear hq
       go_wp2_with (go_at_fn g; refine hcall.mono ?_; rintro e w' ⟨rfl, hb'⟩)
       go_ret
       exact ⟨by rw [idx_hit hlt (by rw [HX.out]; exact HQ.out) HP.out]; rfl, below_then HB.out HB.out.size hb'⟩
     | false =>
       rw [hq] at hcall
       have HQ := Aside0.mk hq
       clear hq
       go_wp2_with (go_at_fn g; refine hcall.mono ?_; rintro e w' ⟨rfl, hb'⟩)
       go_roundw
       case rel => exact ⟨k + 1, by omega, by go_num, ⟨fun j hj hjk => by
         rcases Nat.lt_succ_iff_lt_or_eq.1 hjk with h | rfl
         · exact HP.out j hj h
         · rw [HX.out]; exact HQ.out⟩, ⟨below_then HB.out HB.out.size hb'⟩⟩
       case measure => simp [intOf]; omega
   · obtain rfl : k = l.length := by omega
     go_wp2
     go_ret
     exact ⟨by rw [idx_none HP.out]; rfl, HB.out⟩
end Go.Proofs.YtmkpgddfoaglpaaGreatDoor.PG
/-
 slices_IndexFunc_Rule: what it comes to for whatever function value tells a test. Conditions: what is asked of the function value (hcall).
-/
namespace Go.Proofs.YtmkpgddfoaglpaaGreatDoor.PG
open Go.RowKit Go.Proofs.YtmkpgddfoaglpaaGreatDoorW.PrintWords Go.Proofs.YtmkpgddfoaglpaaGreatDoorW.PrintLast Go.Proofs.YtmkpgddfoaglpaaGreatDoorW.PrintMore Go.Proofs.YtmkpgddfoaglpaaGreatDoor.Gn
attribute [local go_sem] max2_int min2_int max_two min_two max_three min_three max_four min_four
set_option linter.unusedVariables false
set_option linter.unusedSimpArgs false
set_option maxHeartbeats 4000000 in
set_option maxRecDepth 100000 in
theorem slices_IndexFunc_Rule.any_in (l : List (S108)) (g : Nat) (lb : Array Value) (E : World → Prop) (p : S108 → Bool) (hE : ∀ W W', Below W.heap.size W W' → E W → E W')
   (hcall : ∀ (W : World) (x : S108) (cs : List Value), x ∈ l → E W → Kd.K k108 W x cs → Calls Tryz.prog g (#[.agg cs.toArray] ++ lb) W fun e w' => e = .returned (.bool (p x)) ∧ Below W.heap.size W w')
   (eg : ∀ args w, (callFunc g args).run Tryz.prog w = .ok (.enter g args) w)
   (A : Option Addr) (c : Nat) (w : World) (hr : Kd.C k108 w A l.length l) (he : E w) :
   Calls Tryz.prog 242 #[.slice A l.length c, .func (.func g) #[] lb] w fun e w' => e = .returned (.int .i64 (idx p l)) ∧ Below w.heap.size w w' := by
 have hmx := Kd.C_max hr
 have HR := Aside0.mk hr
 have HEE := Aside0.mk he
 have HE := Aside0.mk hE
 have HCALL := Aside0.mk hcall
 clear hr he hE hcall
 go_enter Tryz.func242, Tryz.ntmps242
 go_wp2
 go_loopw [8] (fun i wr => ∃ k : Nat, k ≤ l.length ∧ i = .int .i64 k ∧ Aside0 (∀ j (hj : j < l.length), j < k → p (l[j]'hj) = false) ∧ Aside0 (Below w.heap.size w wr)) (fun i _ => l.length - (intOf i).toNat)
 case atStart => exact ⟨0, Nat.zero_le _, rfl, ⟨fun j hj h => absurd h (Nat.not_lt_zero _)⟩, ⟨Below.refl _ _⟩⟩
 case round =>
   obtain ⟨k, hk, rfl, HP, HB⟩ := hrel
   by_cases hlt : k < l.length
   · obtain ⟨ad, cs, hA, hcl, hK, hcc⟩ := Kd.C_get (Kd.C_below HR.out HB.out) z108 (k : Int) (by omega) (by omega)
     rw [Int.toNat_natCast, getD_at hlt] at hK
     obtain ⟨x, hx⟩ : ∃ x, l[k]'hlt = x := ⟨_, rfl⟩
     have HX := Aside0.mk hx
     rw [hx] at hK
     have HK := Aside0.mk hK
     obtain ⟨B1, b1, B2, b2, rfl, lb1, gb1, lb2, gb2⟩ := k108_open hK
     subst hA
     have hc0 : ∀ j u, ([.string x.f0, .slice B1 (x.f1).length b1, .slice B2 (x.f2).length b2, .int .i64 x.f3, .bool x.f4] : List Value)[j]? = some u → wr.cell? (ad.add (k * 5 + j)) = some u := by
       intro j u hu
       have := hcc j u hu
       rwa [Int.toNat_natCast] at this
     have f0 : wr.cell? (ad.add (k * 5)) = some (.string x.f0) := hc0 0 _ rfl
     have f1 : wr.cell? ⟨(ad.add (k * 5)).block, (ad.add (k * 5)).off + 1, none⟩ = some (.slice B1 (x.f1).length b1) := by rw [← add_field _ _ 1 (by omega)]; exact hc0 1 _ rfl
     have f2 : wr.cell? ⟨(ad.add (k * 5)).block, (ad.add (k * 5)).off + 2, none⟩ = some (.slice B2 (x.f2).length b2) := by rw [← add_field _ _ 2 (by omega)]; exact hc0 2 _ rfl
     have f3 : wr.cell? ⟨(ad.add (k * 5)).block, (ad.add (k * 5)).off + 3, none⟩ = some (.int .i64 x.f3) := by rw [← add_field _ _ 3 (by omega)]; exact hc0 3 _ rfl
     have f4 : wr.cell? ⟨(ad.add (k * 5)).block, (ad.add (k * 5)).off + 4, none⟩ = some (.bool x.f4) := by rw [← add_field _ _ 4 (by omega)]; exact hc0 4 _ rfl
     clear lb1 gb1 lb2 gb2
     clear hc0 hcc hcl hK hx
     have hcall := HCALL.out wr x _ (by rw [← HX.out]; exact List.getElem_mem hlt) (HE.out _ _ HB.out HEE.out) HK.out
     cases hq : p x with
     | true =>
       rw [hq] at hcall
       have HQ := Aside0.mk hq
       clear hq
       go_wp2_with (go_at_fn g; refine hcall.mono ?_; rintro e w' ⟨rfl, hb'⟩)
       go_ret
       exact ⟨by rw [idx_hit hlt (by rw [HX.out]; exact HQ.out) HP.out]; rfl, below_then HB.out HB.out.size hb'⟩
     | false =>
       rw [hq] at hcall
       have HQ := Aside0.mk hq
       clear hq
       go_wp2_with (go_at_fn g; refine hcall.mono ?_; rintro e w' ⟨rfl, hb'⟩)
       go_roundw
       case rel => exact ⟨k + 1, by omega, by go_num, ⟨fun j hj hjk => by
         rcases Nat.lt_succ_iff_lt_or_eq.1 hjk with h | rfl
         · exact HP.out j hj h
         · rw [HX.out]; exact HQ.out⟩, ⟨below_then HB.out HB.out.size hb'⟩⟩
       case measure => simp [intOf]; omega
   · obtain rfl : k = l.length := by omega
     go_wp2
     go_ret
     exact ⟨by rw [idx_none HP.out]; rfl, HB.out⟩
end Go.Proofs.YtmkpgddfoaglpaaGreatDoor.PG
/-
 Texts are the same or not; a text is in a list or not. No condition.
-/
namespace Go.Proofs.YtmkpgddfoaglpaaGreatDoor.PG
set_option linter.unusedVariables false
set_option linter.unusedSimpArgs false
open Go.RowKit
theorem ba_ext {a b : ByteArray} (h : a.data.toList = b.data.toList) : a = b := by cases a; cases b; simpa using h
instance decBA : DecidableEq ByteArray := fun a b => if h : a.data.toList = b.data.toList then isTrue (ba_ext h) else isFalse (fun e => h (by rw [e]))
instance decMem (x : ByteArray) : (l : List ByteArray) → Decidable (x ∈ l)
 | [] => isFalse (by simp)
 | y :: r => match decBA x y, decMem x r with
   | isTrue h, _ => isTrue (by rw [h]; exact List.mem_cons_self)
   | isFalse _, isTrue h2 => isTrue (List.mem_cons_of_mem _ h2)
   | isFalse h, isFalse h2 => isFalse (fun h3 => (List.mem_cons.1 h3).elim h h2)
theorem same_iff (a b : ByteArray) : a.toList = b.toList ↔ a = b := ⟨fun h => ba_ext (by rwa [ByteArray.toList_eq, ByteArray.toList_eq] at h), fun h => by rw [h]⟩
end Go.Proofs.YtmkpgddfoaglpaaGreatDoor.PG
/-
 A row whose elements keep apart by labels is a row whose elements keep apart by their places, if no label comes twice; and a filtered row. No condition.
-/
namespace Go.Proofs.YtmkpgddfoaglpaaGreatDoor.Gn
set_option linter.unusedVariables false
set_option linter.unusedSimpArgs false
open Go.RowKit Go.Proofs.YtmkpgddfoaglpaaGreatDoorW.PrintWords Go.Proofs.YtmkpgddfoaglpaaGreatDoorW.PrintLast Go.Proofs.YtmkpgddfoaglpaaGreatDoorW.PrintMore
theorem idxOf_at {l : List Nat} (hd : l.Nodup) {j m : Nat} (h : l[j]? = some m) : l.idxOf m = j := by
 obtain ⟨hj, rfl⟩ := List.getElem?_eq_some_iff.1 h
 exact List.Nodup.idxOf_getElem hd j hj
theorem S_relabel {α : Type} {d : Kd α} {e : Nat} {w : World} {base : Nat} {ok : Nat → Prop} {v : Value} {f : Nat → Nat} {zs : List (α × Nat)} (h : (Kd.tag f d).R e w base ok v zs) (hd : (zs.map (·.2)).Nodup) : Kd.S d e w base ok v (zs.map (·.1)) := by
 obtain ⟨h0, inner, ho, hr⟩ := h
 refine ⟨fun b => (zs.map (·.2)).idxOf (f b), h0, inner, by rw [List.length_zipIdx, List.length_map]; exact ho, by rw [List.length_zipIdx, List.length_map]; exact hr.1, fun j p hj => ?_⟩
 rw [List.getElem?_zipIdx, Nat.zero_add, List.getElem?_map] at hj
 obtain ⟨x, hx, rfl⟩ := Option.map_eq_some_iff.1 hj
 obtain ⟨q, hq, rfl⟩ := Option.map_eq_some_iff.1 hx
 have hm := hr.2 j q hq
 refine d.M_mono (fun k hk => ⟨hk.1, ?_⟩) hm
 have hk2 : f k = q.2 := hk.2
 show (zs.map (·.2)).idxOf (f k) = j
 rw [hk2]
 exact idxOf_at hd (by rw [List.getElem?_map, hq]; rfl)
theorem zip_filter {α : Type} (p : α → Bool) (l : List α) : (((l.zipIdx).filter fun q => p q.1).map (·.1)) = l.filter p ∧ (((l.zipIdx).filter fun q => p q.1).map (·.2)).Nodup := by
 constructor
 · exact (List.filter_map (f := Prod.fst) (p := p) (l := l.zipIdx)).symm.trans (congrArg (List.filter p) (List.zipIdx_map_fst 0 l))
 · refine List.Nodup.sublist (List.Sublist.map _ List.filter_sublist) ?_
   rw [List.zipIdx_map_snd]
   exact List.nodup_range'
end Go.Proofs.YtmkpgddfoaglpaaGreatDoor.Gn
