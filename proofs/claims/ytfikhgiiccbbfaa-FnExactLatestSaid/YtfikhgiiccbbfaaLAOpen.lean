/-
  What reads as a datum of a type reads as a value of a kind of the print's, whose parts are no longer than the reach allows: kind by kind. No condition.
-/
import Derived.Test.YtfikhgiiccbbfaaLAWords
import Derived.ChangeArms
import Derived.SizedLaws
import Derived.DataReads
import Derived.WideShapes
namespace Go.Proofs.Ytfikhgiiccbbfaa.Opn
open Go.RowKit Go.Proofs.YtfikhgiiccbbfaaW.PrintWords Go.ChangeShapes Go.WideShapes

theorem list_of {α : Type} {n : Nat} {p : Nat → α → Prop} (h : ∀ i, i < n → ∃ x, p i x) : ∃ l : List α, l.length = n ∧ ∀ i x, l[i]? = some x → p i x := by
  induction n with
  | zero => exact ⟨[], rfl, fun i x hx => by simp at hx⟩
  | succ n ih =>
    obtain ⟨l, hl, hp⟩ := ih (fun i hi => h i (Nat.lt_succ_of_lt hi))
    obtain ⟨x, hx⟩ := h n (Nat.lt_succ_self n)
    refine ⟨l ++ [x], by simp [hl], fun i y hy => ?_⟩
    by_cases hi : i < l.length
    · rw [List.getElem?_append_left hi] at hy
      exact hp i y hy
    · rw [List.getElem?_append_right (by omega)] at hy
      have h0 : i - l.length = 0 := by
        rcases Nat.eq_zero_or_pos (i - l.length) with h0 | h0
        · exact h0
        · rw [List.getElem?_eq_none (by simp; omega)] at hy
          cases hy
      rw [h0] at hy
      simp at hy
      subst hy
      have : i = n := by omega
      subst this
      exact hx

/-- What reads as a datum of type t (its strings and slices within the reach) reads as a value of kind d that fits. -/
def Opens (P : Program) (t : TypeId) {α : Type} (d : Kd α) (fit : α → Prop) : Prop :=
  ∀ {H : Type} (enc : TypeId × Value → H) (w : World) (base : Nat) (spare : Nat → Bool) (held : Bool) (fuel : Nat) (cs : List Value) (x : DataW H × List MemPlace),
    DataW.trod enc P w base spare held fuel t cs = some x → (∀ n, n ∈ DataW.weights P t x.1 → n ≤ reachBytes) → ∃ a, d.K w a cs ∧ fit a
variable {P : Program} {t e : TypeId} {α β : Type}

theorem opens_int {k : IntKind} (h : P.underlying t = some (.int k)) : Opens P t (Kd.int k) (fun n => (Lit.int k n).wf = true) := by
  intro H enc w base spare held fuel cs x hx _
  obtain ⟨n, rfl, rfl, hw⟩ := DataW.trod_int h hx
  exact ⟨n, rfl, hw⟩
theorem opens_bool (h : P.underlying t = some .bool) : Opens P t Kd.bool (fun _ => True) := by
  intro H enc w base spare held fuel cs x hx _
  obtain ⟨n, rfl, rfl⟩ := DataW.trod_bool h hx
  exact ⟨n, rfl, trivial⟩
theorem opens_string (h : P.underlying t = some .string) : Opens P t Kd.string (fun s => s.size ≤ 140737488351232) := by
  intro H enc w base spare held fuel cs x hx hw
  obtain ⟨s, rfl, rfl, _⟩ := DataW.trod_string h hx
  refine ⟨s, rfl, ?_⟩
  have := hw s.data.toList.length (by simp [DataW.weights])
  rw [Array.length_toList] at this
  exact this
theorem weightsAll_mem {H : Type} {P : Program} {e : TypeId} {d : DataW H} : ∀ {l : List (DataW H)}, d ∈ l → ∀ n, n ∈ d.weights P e → n ∈ DataW.weightsAll P e l
  | y :: r, h, n, hn => by
    simp only [DataW.weightsAll, List.mem_append]
    rcases List.mem_cons.1 h with rfl | h
    · exact .inl hn
    · exact .inr (weightsAll_mem h n hn)
theorem opens_slice {d : Kd α} {fit : α → Prop} {B : Nat} (hu : P.underlying t = some (.slice e)) (ho : Opens P e d fit) (hc : P.cellsOf e = d.sz) (hB : P.bytesOf e = B) :
    Opens P t (Kd.slice e d) (fun l => l.length * B ≤ 140737488351232 ∧ ∀ x, x ∈ l → fit x) := by
  intro H enc w base spare held fuel cs x hx hw
  rcases DataW.trod_slice hu hx with ⟨rfl, rfl⟩ | ⟨a, len, cap, elems, rest, n, rfl, rfl, rfl, hb, hl, hm, hlen, hel, _, _⟩
  · exact ⟨[], ⟨none, 0, rfl, Nat.le_refl 0, Kd.C_nil d w⟩, by simp, fun x hx => by cases hx⟩
  · have hW : ∀ m, m ∈ ((elems.map (·.1)).length * P.bytesOf e + 0) :: DataW.weightsAll P e (elems.map (·.1)) → m ≤ reachBytes := by
      intro m hm'
      rcases List.mem_cons.1 hm' with rfl | hm'
      · have := hw _ (by simp only [DataW.weights, hu]; exact List.mem_cons_self)
        refine Nat.le_trans ?_ this
        rw [Nat.add_zero]
        exact Nat.mul_le_mul_right _ (Nat.le_add_right _ _)
      · exact hw m (by simp only [DataW.weights, hu]; exact List.mem_cons_of_mem _ (List.mem_append_left _ hm'))
    have hx1 : ∀ i, i < len → ∃ y, fit y ∧ ∃ c, c.length = d.sz ∧ d.K w y c ∧ ∀ j u, c[j]? = some u → w.cell? (a.add (i * d.sz + j)) = some u := by
      intro i hi
      have h1 := hel i hi
      rw [hc, List.getElem?_eq_getElem (by omega)] at h1
      obtain ⟨c, hcell, htr⟩ := Option.bind_eq_some_iff.1 h1
      obtain ⟨_, hcl, hcg⟩ := World.cells?_some hcell
      obtain ⟨y, hy, hf⟩ := ho enc w base spare held n c _ htr (fun m hm' => hW m (List.mem_cons_of_mem _ (weightsAll_mem (List.mem_map_of_mem (List.getElem_mem _)) m hm')))
      refine ⟨y, hf, c, hcl, hy, fun j u hu' => ?_⟩
      have hj : j < d.sz := by
        have := (List.getElem?_eq_some_iff.1 hu').1
        omega
      have := hcg j hj
      rw [hu'] at this
      rw [← this]
      congr 1
      unfold Addr.add
      by_cases h2 : i * d.sz = 0 <;> by_cases h3 : j = 0 <;> simp [h2, h3, Nat.add_assoc]
    obtain ⟨l, hll, hlp⟩ := list_of hx1
    refine ⟨l, ⟨some a, cap, by rw [hll], by omega, ⟨rfl, ?_, fun _ => ⟨a, rfl, fun j p hj => (hlp j p hj).2⟩⟩⟩, ?_, fun y hy => ?_⟩
    · simp only [maxLen] at hm
      omega
    · have := hW _ List.mem_cons_self
      rw [hB, List.length_map, hlen, Nat.add_zero] at this
      rw [hll]
      exact this
    · obtain ⟨i, hi⟩ := List.mem_iff_getElem?.1 hy
      exact (hlp i y hi).1

/-- The fields from one on, the first of them at cell 'off'. -/
def OpensF (P : Program) (fs : List Field) (off : Nat) {α : Type} (d : Kd α) (fit : α → Prop) : Prop :=
  ∀ {H : Type} (enc : TypeId × Value → H) (w : World) (base : Nat) (spare : Nat → Bool) (held : Bool) (fuel : Nat) (cs : List Value) (ys : List (DataW H × List MemPlace)), ys.length = fs.length →
    (∀ (i : Nat) f, fs[i]? = some f → DataW.trod enc P w base spare held fuel f.type ((cs.drop f.offset).take (P.cellsOf f.type)) = ys[i]?) → (∀ n, n ∈ DataW.weightsEach P (fs.map (·.type)) (ys.map (·.1)) → n ≤ reachBytes) →
    ∃ a, d.K w a ((cs.drop off).take d.sz) ∧ fit a
theorem opensF_one {f : Field} {off : Nat} {d : Kd α} {fit : α → Prop} (ho : Opens P f.type d fit) (hc : P.cellsOf f.type = d.sz) (hoff : f.offset = off) : OpensF P [f] off d fit := by
  intro H enc w base spare held fuel cs ys hl h hw
  match ys, hl with
  | [y], _ =>
    have h0 := h 0 f rfl
    rw [hc, hoff] at h0
    exact ho enc w base spare held fuel _ y h0 (fun n hn => hw n (by simp [DataW.weightsEach, hn]))
theorem opensF_cons {f : Field} {fs : List Field} {off : Nat} {d : Kd α} {d' : Kd β} {fit : α → Prop} {fit' : β → Prop} (ho : Opens P f.type d fit) (hc : P.cellsOf f.type = d.sz) (hoff : f.offset = off)
    (hr : OpensF P fs (off + d.sz) d' fit') : OpensF P (f :: fs) off (Kd.pair d d') (fun p => fit p.1 ∧ fit' p.2) := by
  intro H enc w base spare held fuel cs ys hl h hw
  match ys, hl with
  | y :: ys, hl =>
    have h0 := h 0 f rfl
    rw [hc, hoff] at h0
    obtain ⟨a, ha, fa⟩ := ho enc w base spare held fuel _ y h0 (fun n hn => hw n (by simp [DataW.weightsEach, hn]))
    obtain ⟨b, hb, fb⟩ := hr enc w base spare held fuel cs ys (by simpa using hl) (fun i g hg => h (i + 1) g hg) (fun n hn => hw n (by simp only [List.map_cons, DataW.weightsEach, List.mem_append]; exact .inr hn))
    refine ⟨(a, b), ⟨_, _, ?_, ha, hb⟩, fa, fb⟩
    show (cs.drop off).take (d.sz + d'.sz) = _
    rw [List.take_add, List.drop_drop]
theorem opens_struct {fs : Array Field} {d : Kd α} {fit : α → Prop} (hu : P.underlying t = some (.struct fs)) (hf : OpensF P fs.toList 0 d fit) (hc : P.cellsOf t = d.sz) (f : β → α) (g : α → β) (hg : ∀ p, f (g p) = p) :
    Opens P t (Kd.iso d f) (fun x => fit (f x)) := by
  intro H enc w base spare held fuel cs x hx hw
  obtain ⟨xs, n, rfl, rfl, hl, hxl, h⟩ := DataW.trod_struct hu hx
  obtain ⟨a, ha, fa⟩ := hf enc w base spare held n cs xs (by simpa using hxl) (fun i f' hf' => h i f' (by simpa using hf')) (fun m hm => hw m (by simpa [DataW.weights, hu] using hm))
  refine ⟨g a, ?_, by show fit (f (g a)); rw [hg]; exact fa⟩
  show d.K w (f (g a)) cs
  rw [hg]
  have : (cs.drop 0).take d.sz = cs := by
    rw [List.drop_zero, ← hc, ← hl, List.take_length]
  rw [this] at ha
  exact ha

/-- An argument. -/
theorem arg {H : Type} {enc : TypeId × Value → H} {w : World} {base : Nat} {spare : Nat → Bool} {held : Bool} {v : Value} {x : DataW H} {ps : List MemPlace} {ts : List TypeId} {ds : List (DataW H)} {j : Nat} {d : Kd α} {fit : α → Prop}
    (ho : Opens P t d fit) (h : DataW.Trod enc P w base spare held t v x ps) (hsz : (DataW.weightsEach P ts ds).all (· ≤ reachBytes) = true) (ht : ts[j]? = some t) (hd : ds[j]? = some x) : ∃ a, d.K w a v.cells.toList ∧ fit a := by
  obtain ⟨fuel, hf⟩ := h
  exact ho enc w base spare held fuel _ _ hf (fun n hn => by simpa using List.all_eq_true.1 hsz n (DataW.weights_mem_each ht hd n hn))
theorem arg_slice {v : Value} {w : World} {d : Kd α} {a : List α} (hv : ∃ A l c, v = .slice A l c) (h : (Kd.slice e d).K w a v.cells.toList) : ∃ A c, v = .slice A a.length c ∧ a.length ≤ c ∧ d.C w A a.length a := by
  obtain ⟨A, l, c, rfl⟩ := hv
  obtain ⟨A', c', he, hl, hC⟩ := h
  simp [Value.cells] at he
  obtain ⟨rfl, rfl, rfl⟩ := he
  exact ⟨A, c, rfl, hl, hC⟩
theorem arg_agg {v : Value} {w : World} {d : Kd α} {a : α} (hv : ∃ cs n, v = .agg cs ∧ cs.size = n) (h : d.K w a v.cells.toList) : ∃ cs, v = .agg cs ∧ d.K w a cs.toList := by
  obtain ⟨cs, n, rfl, _⟩ := hv
  exact ⟨cs, rfl, by simpa [Value.cells] using h⟩
end Go.Proofs.Ytfikhgiiccbbfaa.Opn
