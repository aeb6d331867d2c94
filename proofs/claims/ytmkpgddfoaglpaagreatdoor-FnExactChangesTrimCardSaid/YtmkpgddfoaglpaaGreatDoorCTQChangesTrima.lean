/-
 Facts on the program's form that the row of FnExactChangesTrim asks, each by itself. No condition.
-/
import Derived.Test.YtmkpgddfoaglpaaGreatDoorRows
import Derived.KernelRfl
import Derived.JoinedCond
import Derived.Lib.LaidTab
import Derived.Test.YtmkpgddfoaglpaaGreatDoorCTWords
import Derived.ChangeArms
import Derived.SizedLaws
import Derived.DataReads
import Derived.WideShapes
import Derived.Ground.NamesProg
import Derived.Shelf.Strings.SlTrimAscii
import Derived.Shelf.Sort.Plain
import Derived.Shelf.Slices.CompactS
import Derived.Test.YtmkpgddfoaglpaaGreatDoorProg
set_option maxHeartbeats 8000000
set_option maxRecDepth 100000
set_option linter.unusedVariables false
set_option linter.unusedSimpArgs false
namespace Go.Proofs.YtmkpgddfoaglpaaGreatDoor.fnExactChangesTrim
theorem q0_ : (Rows.fnExactChangesTrimRow.wf (OpenSpec.ofChange (OpenSpec.ofChange Rows.fnExactChangesTrimSpec).bare)) = true := by kernel_rfl
theorem q1_ : (laidOutB Tryz.pinned.checked.prog) = true := by kernel_rfl
theorem q3_ : (Tryz.f7.params.all (Tryz.pinned.checked.prog.readableRec ·)) = true := by kernel_rfl
theorem q4_ : (namedTie Tryz.pinned.checked.prog Rows.fnExactChangesTrimRow.named (OpenSpec.ofChange Rows.fnExactChangesTrimSpec).bare.vars) = true := by kernel_rfl
theorem q5_ : ((Rows.fnExactChangesTrimRow.stops == [])) = true := by kernel_rfl
theorem q7_ : ((Rows.fnExactChangesTrimRow.knobs == [])) = true := by kernel_rfl
theorem q9_ : ((Rows.fnExactChangesTrimRow.inPlace == Tryz.pinned.checked.prog.inPlace 7)) = true := by kernel_rfl
theorem q13_ : ((Rows.fnExactChangesTrimRow.maps == (Tryz.f7.params.toList ++ (OpenSpec.ofChange Rows.fnExactChangesTrimSpec).bare.plain.varTypes Tryz.pinned.checked.prog).any (Tryz.pinned.checked.prog.mapsRec ·))) = true := by kernel_rfl
theorem q14_ : ((Rows.fnExactChangesTrimRow.ifaces == (Tryz.f7.params.toList ++ (OpenSpec.ofChange Rows.fnExactChangesTrimSpec).bare.plain.varTypes Tryz.pinned.checked.prog).any (Tryz.pinned.checked.prog.ifacesRec ·))) = true := by kernel_rfl
theorem q15_ : ((Rows.fnExactChangesTrimRow.mapsOut == Tryz.pinned.checked.prog.mapsAmong Tryz.f7.resultTypes.toList)) = true := by kernel_rfl
theorem q16_ : ((Rows.fnExactChangesTrimRow.loops == (Tryz.f7.params.toList ++ (OpenSpec.ofChange Rows.fnExactChangesTrimSpec).bare.plain.varTypes Tryz.pinned.checked.prog).any (Tryz.pinned.checked.prog.loopsFrom ·))) = true := by kernel_rfl
theorem q17_ : ((Rows.fnExactChangesTrimRow.wideKeys == (Tryz.f7.params.toList ++ (OpenSpec.ofChange Rows.fnExactChangesTrimSpec).bare.plain.varTypes Tryz.pinned.checked.prog ++ Tryz.f7.resultTypes.toList).any (Tryz.pinned.checked.prog.wideKeysFrom ·))) = true := by kernel_rfl
theorem q18_ : ((OpenSpec.ofChange Rows.fnExactChangesTrimSpec).bare.vars.all (Tryz.pinned.checked.prog.varReadable ·)) = true := by kernel_rfl
theorem q19_ : (Tryz.f7.resultTypes.all (fun t => Tryz.pinned.checked.prog.readableRec t && decide (t < Tryz.pinned.checked.prog.types.size))) = true := by kernel_rfl
theorem q20_ : ((Rows.fnExactChangesTrimRow.ifacesOut == Tryz.f7.resultTypes.toList.any (Tryz.pinned.checked.prog.ifacesRec ·))) = true := by kernel_rfl
theorem q21_ : ((Rows.fnExactChangesTrimRow.loopsOut == Tryz.f7.resultTypes.toList.any (Tryz.pinned.checked.prog.loopsFrom ·))) = true := by kernel_rfl
theorem q22_ : ((Rows.fnExactChangesTrimRow.plainKeys == Tryz.pinned.checked.prog.plainKeys)) = true := by kernel_rfl
theorem q23_ : (Rows.fnExactChangesTrimRow.shortTexts.isNone) = true := by kernel_rfl
theorem q27_ : ((Tryz.pinned.checked.prog.make == some Rows.fnExactChangesTrimRow.make)) = true := by kernel_rfl
theorem q28_ : ((Rows.fnExactChangesTrimRow.kinds == (if Rows.fnExactChangesTrimRow.domain.isEmpty then [] else Tryz.f7.params.toList.map fun t => match Tryz.pinned.checked.prog.underlying t with | some (.int k) => some k | _ => none))) = true := by kernel_rfl
theorem q29_ : ((Rows.fnExactChangesTrimRow.pinned == Rows.fnExactChangesTrimRow.pinnedBy)) = true := by kernel_rfl
theorem q30_ : ((Rows.fnExactChangesTrimRow.veiled == (Tryz.f7.params.toList ++ (OpenSpec.ofChange Rows.fnExactChangesTrimSpec).bare.plain.varTypes Tryz.pinned.checked.prog ++ Tryz.f7.resultTypes.toList).any (Tryz.pinned.checked.prog.veiledRec ·))) = true := by kernel_rfl
theorem q31_ : (Rows.fnExactChangesTrimRow.veiledFits Tryz.pinned.checked.prog Tryz.f7.params.toList (Tryz.f7.params.toList ++ (OpenSpec.ofChange Rows.fnExactChangesTrimSpec).bare.plain.varTypes Tryz.pinned.checked.prog ++ Tryz.f7.resultTypes.toList)) = true := by kernel_rfl
end Go.Proofs.YtmkpgddfoaglpaaGreatDoor.fnExactChangesTrim
/-
 Facts on the program's form that the row of FnExactChangesTrim asks, each by itself. No condition.
-/
namespace Go.Proofs.YtmkpgddfoaglpaaGreatDoor.fnExactChangesTrim
theorem q2_ : (mapsRowed Tryz.pinned.checked.prog) = true := by kernel_rfl
theorem q10_ : ((Rows.fnExactChangesTrimRow.unfollowed == Tryz.pinned.checked.prog.unfollowed 7)) = true := by kernel_rfl
theorem q24_ : (Tryz.pinned.checked.prog.stopsHeard) = true := by kernel_rfl
end Go.Proofs.YtmkpgddfoaglpaaGreatDoor.fnExactChangesTrim
/-
 Facts on the program's form that the row of FnExactChangesTrim asks, each by itself. No condition.
-/
namespace Go.Proofs.YtmkpgddfoaglpaaGreatDoor.fnExactChangesTrim
theorem q6_ : ((Tryz.pinned.checked.prog.stops == [])) = true := by kernel_rfl
theorem q11_ : ((Rows.fnExactChangesTrimRow.recurses == Tryz.pinned.checked.prog.recurses 7)) = true := by kernel_rfl
theorem q25_ : (Tryz.pinned.checked.prog.mayEnter) = true := by kernel_rfl
end Go.Proofs.YtmkpgddfoaglpaaGreatDoor.fnExactChangesTrim
/-
 Facts on the program's form that the row of FnExactChangesTrim asks, each by itself. No condition.
-/
namespace Go.Proofs.YtmkpgddfoaglpaaGreatDoor.fnExactChangesTrim
theorem q8_ : ((Tryz.pinned.checked.prog.stopKnobs == [])) = true := by kernel_rfl
theorem q12_ : ((Rows.fnExactChangesTrimRow.named == Tryz.pinned.checked.prog.varsNamed 7)) = true := by kernel_rfl
theorem q26_ : ((Rows.fnExactChangesTrimRow.lifted == Tryz.pinned.checked.prog.liftsFinal)) = true := by kernel_rfl
end Go.Proofs.YtmkpgddfoaglpaaGreatDoor.fnExactChangesTrim
/-
 What reads as a datum of a type reads as a value of a kind of the print's, whose parts are no longer than the reach allows: kind by kind. No condition.
-/
namespace Go.Proofs.YtmkpgddfoaglpaaGreatDoor.Opn
open Go.RowKit Go.Proofs.YtmkpgddfoaglpaaGreatDoorW.PrintWords Go.ChangeShapes Go.WideShapes
theorem list_of {α : Type} {n : Nat} {p : Nat → α → Prop} (h : ∀ i, i < n → ∃ x, p i x) : ∃ l : List α, l.length = n ∧ ∀ i x, l[i]? = some x → p i x := by
 induction n with
 | zero => exact ⟨[], rfl, fun i x hx => by simp at hx⟩
 | succ n ih =>
   obtain ⟨l, hl, hp⟩ := ih (fun i hi => h i (Nat.lt_succ_of_lt hi))
   obtain ⟨x, hx⟩ := h n (Nat.lt_succ_self n)
   refine ⟨l ++ [x], by simp [hl], fun i y hy => ?_⟩
   by_cases hi : i < l.length
   · rw [List.getElem?_append_left hi] at hy
     exact hp i y hy
   · rw [List.getElem?_append_right (by omega)] at hy
     have h0 : i - l.length = 0 := by
       rcases Nat.eq_zero_or_pos (i - l.length) with h0 | h0
       · exact h0
       · rw [List.getElem?_eq_none (by simp; omega)] at hy
         cases hy
     rw [h0] at hy
     simp at hy
     subst hy
     have : i = n := by omega
     subst this
     exact hx
def Opens (P : Program) (t : TypeId) {α : Type} (d : Kd α) (fit : α → Prop) : Prop :=
 ∀ {H : Type} (enc : TypeId × Value → H) (w : World) (base : Nat) (spare : Nat → Bool) (held : Bool) (fuel : Nat) (cs : List Value) (x : DataW H × List MemPlace),
   DataW.trod enc P w base spare held fuel t cs = some x → (∀ n, n ∈ DataW.weights P t x.1 → n ≤ reachBytes) → ∃ a, d.K w a cs ∧ fit a
variable {P : Program} {t e : TypeId} {α β : Type}
theorem opens_int {k : IntKind} (h : P.underlying t = some (.int k)) : Opens P t (Kd.int k) (fun n => (Lit.int k n).wf = true) := by
 intro H enc w base spare held fuel cs x hx _
 obtain ⟨n, rfl, rfl, hw⟩ := DataW.trod_int h hx
 exact ⟨n, rfl, hw⟩
theorem opens_bool (h : P.underlying t = some .bool) : Opens P t Kd.bool (fun _ => True) := by
 intro H enc w base spare held fuel cs x hx _
 obtain ⟨n, rfl, rfl⟩ := DataW.trod_bool h hx
 exact ⟨n, rfl, trivial⟩
theorem opens_string (h : P.underlying t = some .string) : Opens P t Kd.string (fun s => s.size ≤ 140737488351232) := by
 intro H enc w base spare held fuel cs x hx hw
 obtain ⟨s, rfl, rfl, _⟩ := DataW.trod_string h hx
 refine ⟨s, rfl, ?_⟩
 have := hw s.data.toList.length (by simp [DataW.weights])
 rw [Array.length_toList] at this
 exact this
theorem weightsAll_mem {H : Type} {P : Program} {e : TypeId} {d : DataW H} : ∀ {l : List (DataW H)}, d ∈ l → ∀ n, n ∈ d.weights P e → n ∈ DataW.weightsAll P e l
 | y :: r, h, n, hn => by
   simp only [DataW.weightsAll, List.mem_append]
   rcases List.mem_cons.1 h with rfl | h
   · exact .inl hn
   · exact .inr (weightsAll_mem h n hn)
theorem opens_slice {d : Kd α} {fit : α → Prop} {B : Nat} (hu : P.underlying t = some (.slice e)) (ho : Opens P e d fit) (hc : P.cellsOf e = d.sz) (hB : P.bytesOf e = B) :
   Opens P t (Kd.slice e d) (fun l => l.length * B ≤ 140737488351232 ∧ ∀ x, x ∈ l → fit x) := by
 intro H enc w base spare held fuel cs x hx hw
 rcases DataW.trod_slice hu hx with ⟨rfl, rfl⟩ | ⟨a, len, cap, elems, rest, n, rfl, rfl, rfl, hb, hl, hm, hlen, hel, _, _⟩
 · exact ⟨[], ⟨none, 0, rfl, Nat.le_refl 0, Kd.C_nil d w⟩, by simp, fun x hx => by cases hx⟩
 · have hW : ∀ m, m ∈ ((elems.map (·.1)).length * P.bytesOf e + 0) :: DataW.weightsAll P e (elems.map (·.1)) → m ≤ reachBytes := by
     intro m hm'
     rcases List.mem_cons.1 hm' with rfl | hm'
     · have := hw _ (by simp only [DataW.weights, hu]; exact List.mem_cons_self)
       refine Nat.le_trans ?_ this
       rw [Nat.add_zero]
       exact Nat.mul_le_mul_right _ (Nat.le_add_right _ _)
     · exact hw m (by simp only [DataW.weights, hu]; exact List.mem_cons_of_mem _ (List.mem_append_left _ hm'))
   have hx1 : ∀ i, i < len → ∃ y, fit y ∧ ∃ c, c.length = d.sz ∧ d.K w y c ∧ ∀ j u, c[j]? = some u → w.cell? (a.add (i * d.sz + j)) = some u := by
     intro i hi
     have h1 := hel i hi
     rw [hc, List.getElem?_eq_getElem (by omega)] at h1
     obtain ⟨c, hcell, htr⟩ := Option.bind_eq_some_iff.1 h1
     obtain ⟨_, hcl, hcg⟩ := World.cells?_some hcell
     obtain ⟨y, hy, hf⟩ := ho enc w base spare held n c _ htr (fun m hm' => hW m (List.mem_cons_of_mem _ (weightsAll_mem (List.mem_map_of_mem (List.getElem_mem _)) m hm')))
     refine ⟨y, hf, c, hcl, hy, fun j u hu' => ?_⟩
     have hj : j < d.sz := by
       have := (List.getElem?_eq_some_iff.1 hu').1
       omega
     have := hcg j hj
     rw [hu'] at this
     rw [← this]
     congr 1
     unfold Addr.add
     by_cases h2 : i * d.sz = 0 <;> by_cases h3 : j = 0 <;> simp [h2, h3, Nat.add_assoc]
   obtain ⟨l, hll, hlp⟩ := list_of hx1
   refine ⟨l, ⟨some a, cap, by rw [hll], by omega, ⟨rfl, ?_, fun _ => ⟨a, rfl, fun j p hj => (hlp j p hj).2⟩⟩⟩, ?_, fun y hy => ?_⟩
   · simp only [maxLen] at hm
     omega
   · have := hW _ List.mem_cons_self
     rw [hB, List.length_map, hlen, Nat.add_zero] at this
     rw [hll]
     exact this
   · obtain ⟨i, hi⟩ := List.mem_iff_getElem?.1 hy
     exact (hlp i y hi).1
def OpensF (P : Program) (fs : List Field) (off : Nat) {α : Type} (d : Kd α) (fit : α → Prop) : Prop :=
 ∀ {H : Type} (enc : TypeId × Value → H) (w : World) (base : Nat) (spare : Nat → Bool) (held : Bool) (fuel : Nat) (cs : List Value) (ys : List (DataW H × List MemPlace)), ys.length = fs.length →
   (∀ (i : Nat) f, fs[i]? = some f → DataW.trod enc P w base spare held fuel f.type ((cs.drop f.offset).take (P.cellsOf f.type)) = ys[i]?) → (∀ n, n ∈ DataW.weightsEach P (fs.map (·.type)) (ys.map (·.1)) → n ≤ reachBytes) →
   ∃ a, d.K w a ((cs.drop off).take d.sz) ∧ fit a
theorem opensF_one {f : Field} {off : Nat} {d : Kd α} {fit : α → Prop} (ho : Opens P f.type d fit) (hc : P.cellsOf f.type = d.sz) (hoff : f.offset = off) : OpensF P [f] off d fit := by
 intro H enc w base spare held fuel cs ys hl h hw
 match ys, hl with
 | [y], _ =>
   have h0 := h 0 f rfl
   rw [hc, hoff] at h0
   exact ho enc w base spare held fuel _ y h0 (fun n hn => hw n (by simp [DataW.weightsEach, hn]))
theorem opensF_cons {f : Field} {fs : List Field} {off : Nat} {d : Kd α} {d' : Kd β} {fit : α → Prop} {fit' : β → Prop} (ho : Opens P f.type d fit) (hc : P.cellsOf f.type = d.sz) (hoff : f.offset = off)
   (hr : OpensF P fs (off + d.sz) d' fit') : OpensF P (f :: fs) off (Kd.pair d d') (fun p => fit p.1 ∧ fit' p.2) := by
 intro H enc w base spare held fuel cs ys hl h hw
 match ys, hl with
 | y :: ys, hl =>
   have h0 := h 0 f rfl
   rw [hc, hoff] at h0
   obtain ⟨a, ha, fa⟩ := ho enc w base spare held fuel _ y h0 (fun n hn => hw n (by simp [DataW.weightsEach, hn]))
   obtain ⟨b, hb, fb⟩ := hr enc w base spare held fuel cs ys (by simpa using hl) (fun i g hg => h (i + 1) g hg) (fun n hn => hw n (by simp only [List.map_cons, DataW.weightsEach, List.mem_append]; exact .inr hn))
   refine ⟨(a, b), ⟨_, _, ?_, ha, hb⟩, fa, fb⟩
   show (cs.drop off).take (d.sz + d'.sz) = _
   rw [List.take_add, List.drop_drop]
theorem opens_struct {fs : Array Field} {d : Kd α} {fit : α → Prop} (hu : P.underlying t = some (.struct fs)) (hf : OpensF P fs.toList 0 d fit) (hc : P.cellsOf t = d.sz) (f : β → α) (g : α → β) (hg : ∀ p, f (g p) = p) :
   Opens P t (Kd.iso d f) (fun x => fit (f x)) := by
 intro H enc w base spare held fuel cs x hx hw
 obtain ⟨xs, n, rfl, rfl, hl, hxl, h⟩ := DataW.trod_struct hu hx
 obtain ⟨a, ha, fa⟩ := hf enc w base spare held n cs xs (by simpa using hxl) (fun i f' hf' => h i f' (by simpa using hf')) (fun m hm => hw m (by simpa [DataW.weights, hu] using hm))
 refine ⟨g a, ?_, by show fit (f (g a)); rw [hg]; exact fa⟩
 show d.K w (f (g a)) cs
 rw [hg]
 have : (cs.drop 0).take d.sz = cs := by
   rw [List.drop_zero, ← hc, ← hl, List.take_length]
 rw [this] at ha
 exact ha
theorem arg {H : Type} {enc : TypeId × Value → H} {w : World} {base : Nat} {spare : Nat → Bool} {held : Bool} {v : Value} {x : DataW H} {ps : List MemPlace} {ts : List TypeId} {ds : List (DataW H)} {j : Nat} {d : Kd α} {fit : α → Prop}
   (ho : Opens P t d fit) (h : DataW.Trod enc P w base spare held t v x ps) (hsz : (DataW.weightsEach P ts ds).all (· ≤ reachBytes) = true) (ht : ts[j]? = some t) (hd : ds[j]? = some x) : ∃ a, d.K w a v.cells.toList ∧ fit a := by
 obtain ⟨fuel, hf⟩ := h
 exact ho enc w base spare held fuel _ _ hf (fun n hn => by simpa using List.all_eq_true.1 hsz n (DataW.weights_mem_each ht hd n hn))
theorem arg_slice {v : Value} {w : World} {d : Kd α} {a : List α} (hv : ∃ A l c, v = .slice A l c) (h : (Kd.slice e d).K w a v.cells.toList) : ∃ A c, v = .slice A a.length c ∧ a.length ≤ c ∧ d.C w A a.length a := by
 obtain ⟨A, l, c, rfl⟩ := hv
 obtain ⟨A', c', he, hl, hC⟩ := h
 simp [Value.cells] at he
 obtain ⟨rfl, rfl, rfl⟩ := he
 exact ⟨A, c, rfl, hl, hC⟩
theorem arg_agg {v : Value} {w : World} {d : Kd α} {a : α} (hv : ∃ cs n, v = .agg cs ∧ cs.size = n) (h : d.K w a v.cells.toList) : ∃ cs, v = .agg cs ∧ d.K w a cs.toList := by
 obtain ⟨cs, n, rfl, _⟩ := hv
 exact ⟨cs, rfl, by simpa [Value.cells] using h⟩
end Go.Proofs.YtmkpgddfoaglpaaGreatDoor.Opn
/-
 DERIVED: THE SHELF's CONTRACTS AT THIS DUMP, IN PLAIN WORDS (tools/lay-plain.mjs out of 'YtmkpgddfoaglpaaGreatDoorLayA.lean', which tools/lay-shelf.mjs wrote): THE SAME DECLARATIONS UNDER THE SAME NAMES: 'import', 'namespace', 'open', 'def', 'theorem' AND NOTHING ELSE: no command of the shelf's: FOR A HAND-IN. Each laying: the table of numbers ('.._ren') and one theorem, a field a fact of the dump's own or the kernel's comparison; each contract: ONE APPLICATION.
-/
namespace Go.Proofs
open Go.Shelf
def Tryz.lays160_ren : Go.Shelf.Ren := ⟨fun | 160 => 167 | 232 => 246 | 231 => 245 | 227 => 247 | 234 => 249 | 233 => 248 | 236 => 251 | 235 => 250 | 228 => 295 | 271 => 298 | 151 => 297 | 197 => 296 | 120 => 319 | 152 => 318 | 260 => 317 | 137 => 291 | 119 => 328 | 224 => 329 | 225 => 330 | 217 => 316 | 266 => 327 | n => n, fun | 9 => 9 | 4 => 4 | 3 => 3 | 5 => 5 | 117 => 264 | 116 => 263 | 0 => 0 | 124 => 267 | 21 => 21 | 105 => 296 | 46 => 289 | 119 => 314 | 139 => 317 | 138 => 316 | n => n, fun | 3 => 0 | 4 => 1 | n => n⟩
theorem Tryz.lays160 : Go.Proofs.Lays.n160 Tryz.prog Tryz.lays160_ren := {
 mixed := by kernel_rfl
 f119 := Tryz.func328.trans (congrArg some (by kernel_rfl))
 f120 := Tryz.func319.trans (congrArg some (by kernel_rfl))
 f137 := Tryz.func291.trans (congrArg some (by kernel_rfl))
 f151 := Tryz.func297.trans (congrArg some (by kernel_rfl))
 f152 := Tryz.func318.trans (congrArg some (by kernel_rfl))
 f160 := Tryz.func167.trans (congrArg some (by kernel_rfl))
 f197 := Tryz.func296.trans (congrArg some (by kernel_rfl))
 f217 := Tryz.func316.trans (congrArg some (by kernel_rfl))
 f224 := Tryz.func329.trans (congrArg some (by kernel_rfl))
 f225 := Tryz.func330.trans (congrArg some (by kernel_rfl))
 f227 := Tryz.func247.trans (congrArg some (by kernel_rfl))
 f228 := Tryz.func295.trans (congrArg some (by kernel_rfl))
 f231 := Tryz.func245.trans (congrArg some (by kernel_rfl))
 f232 := Tryz.func246.trans (congrArg some (by kernel_rfl))
 f233 := Tryz.func248.trans (congrArg some (by kernel_rfl))
 f234 := Tryz.func249.trans (congrArg some (by kernel_rfl))
 f235 := Tryz.func250.trans (congrArg some (by kernel_rfl))
 f236 := Tryz.func251.trans (congrArg some (by kernel_rfl))
 f260 := Tryz.func317.trans (congrArg some (by kernel_rfl))
 f266 := Tryz.func327.trans (congrArg some (by kernel_rfl))
 f271 := Tryz.func298.trans (congrArg some (by kernel_rfl))
 t0 := Tryz.underlying0
 a0 := Tryz.isAgg0
 z0 := Tryz.sizeOf0
 v0 := Tryz.zeroValue0
 t3 := Tryz.underlying3
 a3 := Tryz.isAgg3
 z3 := Tryz.sizeOf3
 v3 := Tryz.zeroValue3
 t4 := Tryz.underlying4
 a4 := Tryz.isAgg4
 z4 := Tryz.sizeOf4
 v4 := Tryz.zeroValue4
 t5 := Tryz.underlying5
 a5 := Tryz.isAgg5
 z5 := Tryz.sizeOf5
 v5 := Tryz.zeroValue5
 t9 := Tryz.underlying9
 a9 := Tryz.isAgg9
 z9 := Tryz.sizeOf9
 v9 := Tryz.zeroValue9
 t21 := Tryz.underlying21
 a21 := Tryz.isAgg21
 z21 := Tryz.sizeOf21
 v21 := Tryz.zeroValue21
 t46 := Tryz.underlying289
 a46 := Tryz.isAgg289
 z46 := Tryz.sizeOf289
 v46 := Tryz.zeroValue289
 t105 := Tryz.underlying296
 a105 := Tryz.isAgg296
 z105 := Tryz.sizeOf296
 v105 := Tryz.zeroValue296
 t116 := Tryz.underlying263
 a116 := Tryz.isAgg263
 z116 := Tryz.sizeOf263
 t117 := Tryz.underlying264
 a117 := Tryz.isAgg264
 z117 := Tryz.sizeOf264
 v117 := Tryz.zeroValue264
 t119 := Tryz.underlying314
 a119 := Tryz.isAgg314
 z119 := Tryz.sizeOf314
 t124 := Tryz.underlying267
 a124 := Tryz.isAgg267
 z124 := Tryz.sizeOf267
 v124 := Tryz.zeroValue267
 t138 := Tryz.underlying316
 a138 := Tryz.isAgg316
 z138 := Tryz.sizeOf316
 v138 := Tryz.zeroValue316
 t139 := Tryz.underlying317
 a139 := Tryz.isAgg317
 z139 := Tryz.sizeOf317
 v139 := Tryz.zeroValue317
 g3 := by kernel_rfl
 g4 := by kernel_rfl }
def Tryz.lays190_ren : Go.Shelf.Ren := ⟨fun | 190 => 309 | 125 => 326 | 258 => 325 | 128 => 343 | 129 => 344 | 302 => 334 | 303 => 335 | 304 => 336 | 305 => 337 | 306 => 338 | 307 => 339 | 308 => 340 | 309 => 341 | 310 => 342 | 333 => 346 | 329 => 347 | 330 => 348 | 334 => 349 | 335 => 350 | 336 => 323 | 344 => 351 | n => n, fun | 31 => 100 | 9 => 9 | 3 => 3 | 46 => 289 | 0 => 0 | 51 => 332 | 53 => 309 | 4 => 4 | 183 => 326 | 182 => 325 | 131 => 275 | 5 => 5 | 218 => 335 | 222 => 339 | 228 => 341 | 229 => 342 | n => n, fun | n => n⟩
theorem Tryz.lays190 : Go.Proofs.Lays.n190 Tryz.prog Tryz.lays190_ren := {
 mixed := by kernel_rfl
 f125 := Tryz.func326.trans (congrArg some (by kernel_rfl))
 f128 := Tryz.func343.trans (congrArg some (by kernel_rfl))
 f129 := Tryz.func344.trans (congrArg some (by kernel_rfl))
 f190 := Tryz.func309.trans (congrArg some (by kernel_rfl))
 f258 := Tryz.func325.trans (congrArg some (by kernel_rfl))
 f302 := Tryz.func334.trans (congrArg some (by kernel_rfl))
 f303 := Tryz.func335.trans (congrArg some (by kernel_rfl))
 f304 := Tryz.func336.trans (congrArg some (by kernel_rfl))
 f305 := Tryz.func337.trans (congrArg some (by kernel_rfl))
 f306 := Tryz.func338.trans (congrArg some (by kernel_rfl))
 f307 := Tryz.func339.trans (congrArg some (by kernel_rfl))
 f308 := Tryz.func340.trans (congrArg some (by kernel_rfl))
 f309 := Tryz.func341.trans (congrArg some (by kernel_rfl))
 f310 := Tryz.func342.trans (congrArg some (by kernel_rfl))
 f329 := Tryz.func347.trans (congrArg some (by kernel_rfl))
 f330 := Tryz.func348.trans (congrArg some (by kernel_rfl))
 f333 := Tryz.func346.trans (congrArg some (by kernel_rfl))
 f334 := Tryz.func349.trans (congrArg some (by kernel_rfl))
 f335 := Tryz.func350.trans (congrArg some (by kernel_rfl))
 f336 := Tryz.func323.trans (congrArg some (by kernel_rfl))
 f344 := Tryz.func351.trans (congrArg some (by kernel_rfl))
 t0 := Tryz.underlying0
 a0 := Tryz.isAgg0
 z0 := Tryz.sizeOf0
 v0 := Tryz.zeroValue0
 t3 := Tryz.underlying3
 a3 := Tryz.isAgg3
 z3 := Tryz.sizeOf3
 v3 := Tryz.zeroValue3
 t4 := Tryz.underlying4
 a4 := Tryz.isAgg4
 z4 := Tryz.sizeOf4
 v4 := Tryz.zeroValue4
 t5 := Tryz.underlying5
 a5 := Tryz.isAgg5
 z5 := Tryz.sizeOf5
 v5 := Tryz.zeroValue5
 t9 := Tryz.underlying9
 a9 := Tryz.isAgg9
 z9 := Tryz.sizeOf9
 v9 := Tryz.zeroValue9
 t31 := Tryz.underlying100
 a31 := Tryz.isAgg100
 z31 := Tryz.sizeOf100
 v31 := Tryz.zeroValue100
 t46 := Tryz.underlying289
 a46 := Tryz.isAgg289
 z46 := Tryz.sizeOf289
 v46 := Tryz.zeroValue289
 t51 := Tryz.underlying332
 a51 := Tryz.isAgg332
 z51 := Tryz.sizeOf332
 v51 := Tryz.zeroValue332
 t53 := Tryz.underlying309
 a53 := Tryz.isAgg309
 z53 := Tryz.sizeOf309
 v53 := Tryz.zeroValue309
 t131 := Tryz.underlying275
 a131 := Tryz.isAgg275
 z131 := Tryz.sizeOf275
 v131 := Tryz.zeroValue275
 t182 := Tryz.underlying325
 a182 := Tryz.isAgg325
 z182 := Tryz.sizeOf325
 v182 := Tryz.zeroValue325
 t183 := Tryz.underlying326
 a183 := Tryz.isAgg326
 z183 := Tryz.sizeOf326
 v183 := Tryz.zeroValue326
 t218 := Tryz.underlying335
 a218 := Tryz.isAgg335
 z218 := Tryz.sizeOf335
 v218 := Tryz.zeroValue335
 t222 := Tryz.underlying339
 a222 := Tryz.isAgg339
 z222 := Tryz.sizeOf339
 v222 := Tryz.zeroValue339
 t228 := Tryz.underlying341
 a228 := Tryz.isAgg341
 z228 := Tryz.sizeOf341
 v228 := Tryz.zeroValue341
 t229 := Tryz.underlying342
 a229 := Tryz.isAgg342
 z229 := Tryz.sizeOf342
 v229 := Tryz.zeroValue342 }
def Tryz.lays194_ren : Go.Shelf.Ren := ⟨fun | 194 => 310 | n => n, fun | 31 => 100 | 9 => 9 | 3 => 3 | 4 => 4 | 0 => 0 | n => n, fun | n => n⟩
theorem Tryz.lays194 : Go.Proofs.Lays.n194 Tryz.prog Tryz.lays194_ren := {
 mixed := by kernel_rfl
 f194 := Tryz.func310.trans (congrArg some (by kernel_rfl))
 t0 := Tryz.underlying0
 a0 := Tryz.isAgg0
 z0 := Tryz.sizeOf0
 v0 := Tryz.zeroValue0
 t3 := Tryz.underlying3
 a3 := Tryz.isAgg3
 z3 := Tryz.sizeOf3
 v3 := Tryz.zeroValue3
 t4 := Tryz.underlying4
 a4 := Tryz.isAgg4
 z4 := Tryz.sizeOf4
 v4 := Tryz.zeroValue4
 t9 := Tryz.underlying9
 a9 := Tryz.isAgg9
 z9 := Tryz.sizeOf9
 v9 := Tryz.zeroValue9
 t31 := Tryz.underlying100
 a31 := Tryz.isAgg100
 z31 := Tryz.sizeOf100
 v31 := Tryz.zeroValue100 }
end Go.Proofs
/-
 Kinds nested in one another whose rows all lie apart: a slice whose elements' rows lie apart, and two in line that share no block. No condition.
-/
namespace Go.Proofs.YtmkpgddfoaglpaaGreatDoor.Gn
open Go.RowKit Go.Proofs.YtmkpgddfoaglpaaGreatDoorW.PrintWords Go.Proofs.YtmkpgddfoaglpaaGreatDoorW.PrintLast Go.Proofs.YtmkpgddfoaglpaaGreatDoorW.PrintMore
def ksl {α : Type} (e : Nat) (d : Kd α) : Kd (List α) where
 sz := 1
 E := e :: d.E
 K := fun w xs cs => ∃ A c, cs = [.slice A xs.length c] ∧ xs.length ≤ c ∧ d.C w A xs.length xs
 M := fun w base ok xs cs => ∃ v, cs = [v] ∧ Kd.S d e w base ok v xs
 K_len := by
   rintro w x cs ⟨A, c, rfl, _⟩
   rfl
 K_one := by
   rintro w x cs ⟨A, c, rfl, _⟩ u hu
   rw [List.mem_singleton.1 hu]
   rfl
 K_below := by
   rintro w w1 x cs hb ⟨A, c, rfl, hl, hr⟩
   exact ⟨A, c, rfl, hl, Kd.C_below hr hb⟩
 K_of_M := by
   rintro w base ok x cs ⟨v, rfl, h⟩
   obtain ⟨A, c, rfl, hl, hr⟩ := Kd.S_reads h
   exact ⟨A, c, rfl, hl, hr⟩
 M_mono := by
   rintro w base ok ok' x cs hok ⟨v, rfl, h⟩
   exact ⟨v, rfl, Kd.S_mono h hok⟩
 M_bound := by
   rintro w base ok x cs ⟨v, rfl, h⟩
   exact ⟨v, rfl, Kd.S_bound h⟩
 M_move := by
   rintro w w1 base ok x cs hm ⟨v, rfl, h⟩
   exact ⟨v, rfl, Kd.S_move h hm⟩
 M_lower := by
   rintro w base base' ok x cs hb ⟨v, rfl, h⟩
   exact ⟨v, rfl, Kd.S_lower h hb⟩
def kap {α β : Type} (a : Kd α) (b : Kd β) : Kd (α × β) where
 sz := a.sz + b.sz
 E := a.E ++ b.E
 K := fun w x cs => ∃ c0 c1, cs = c0 ++ c1 ∧ a.K w x.1 c0 ∧ b.K w x.2 c1
 M := fun w base ok x cs => ∃ c0 c1, cs = c0 ++ c1 ∧ ∃ o0 o1 : Nat → Prop, (∀ k, o0 k → ok k) ∧ (∀ k, o1 k → ok k) ∧ (∀ k, o0 k → ¬ o1 k) ∧ a.M w base o0 x.1 c0 ∧ b.M w base o1 x.2 c1
 K_len := by
   rintro w x cs ⟨c0, c1, rfl, h0, h1⟩
   rw [List.length_append, a.K_len h0, b.K_len h1]
 K_one := by
   rintro w x cs ⟨c0, c1, rfl, h0, h1⟩ u hu
   rcases List.mem_append.1 hu with hu | hu
   · exact a.K_one h0 u hu
   · exact b.K_one h1 u hu
 K_below := by
   rintro w w1 x cs hb ⟨c0, c1, rfl, h0, h1⟩
   exact ⟨c0, c1, rfl, a.K_below hb h0, b.K_below hb h1⟩
 K_of_M := by
   rintro w base ok x cs ⟨c0, c1, rfl, o0, o1, _, _, _, h0, h1⟩
   exact ⟨c0, c1, rfl, a.K_of_M h0, b.K_of_M h1⟩
 M_mono := by
   rintro w base ok ok' x cs hok ⟨c0, c1, rfl, o0, o1, p0, p1, p2, h0, h1⟩
   exact ⟨c0, c1, rfl, o0, o1, fun k hk => hok k (p0 k hk), fun k hk => hok k (p1 k hk), p2, h0, h1⟩
 M_bound := by
   rintro w base ok x cs ⟨c0, c1, rfl, o0, o1, p0, p1, p2, h0, h1⟩
   exact ⟨c0, c1, rfl, _, _, fun k hk => ⟨p0 k hk.1, hk.2.1, hk.2.2.1, let ⟨q, hq, hc⟩ := hk.2.2.2; ⟨q, List.mem_append_left _ hq, hc⟩⟩, fun k hk => ⟨p1 k hk.1, hk.2.1, hk.2.2.1, let ⟨q, hq, hc⟩ := hk.2.2.2; ⟨q, List.mem_append_right _ hq, hc⟩⟩, fun k hk h => p2 k hk.1 h.1, a.M_bound h0, b.M_bound h1⟩
 M_move := by
   rintro w w1 base ok x cs hm ⟨c0, c1, rfl, o0, o1, p0, p1, p2, h0, h1⟩
   exact ⟨c0, c1, rfl, o0, o1, p0, p1, p2, a.M_move (fun k hk => hm k (p0 k hk)) h0, b.M_move (fun k hk => hm k (p1 k hk)) h1⟩
 M_lower := by
   rintro w base base' ok x cs hb ⟨c0, c1, rfl, o0, o1, p0, p1, p2, h0, h1⟩
   exact ⟨c0, c1, rfl, o0, o1, p0, p1, p2, a.M_lower hb h0, b.M_lower hb h1⟩
end Go.Proofs.YtmkpgddfoaglpaaGreatDoor.Gn
