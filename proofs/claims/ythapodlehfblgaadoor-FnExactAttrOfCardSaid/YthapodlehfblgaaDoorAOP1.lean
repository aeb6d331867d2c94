/-
  Functions that the law reaches, each as a plain Lean function, with the proof that the call comes to it (written by a program of this session by way of the kit's print program). Conditions: what each contract states.
-/
import Derived.Test.YthapodlehfblgaaDoorProg
import Derived.Below
import Derived.Deep.Draws
import Derived.Deep.AppendLies
import Derived.Maps.AppendAt
import Derived.OwnWalk
import Derived.Laws.BytesArg
import Derived.Laws.MakeOwn
import Derived.Laws.OwnMore
import Derived.Deep.OwnRows
import Derived.Tactics
import Derived.Lib.ConvBytes
import Derived.Laws.Slices
import Derived.WalkKit
import Derived.KernelRfl
import Derived.RowKit3
import Derived.Deep.LoopGhost
import Derived.Deep.QuietTactic
import Derived.BigQuiet
import Derived.WideLaws
import Derived.Deep.DeepCutAuto
import Derived.Deep.CutBlock
import Derived.Deep.RegionHeld3
import Derived.Laws.Rows
import Derived.Lib.AppendStr
import Derived.ArgAppend
import Derived.Laws.IdiomCopy
import Derived.OrdersHeld
import Derived.Laws.BitsLemmas
import Derived.RowKit
import Derived.Test.YthapodlehfblgaaDoorAOWords
import Derived.Test.YthapodlehfblgaaDoorAOSq
namespace Go.Proofs.YthapodlehfblgaaDoor.PA
open Go.Proofs.YthapodlehfblgaaDoor.Sq Go.RowKit Go.Proofs.YthapodlehfblgaaDoorW.PrintWords Go.Proofs.YthapodlehfblgaaDoorW.PrintLast Go.Proofs.YthapodlehfblgaaDoorW.PrintMore
attribute [local go_sem] max2_int min2_int max_two min_two max_three min_three max_four min_four   -- for this text's walks alone
set_option linter.unusedVariables false
set_option linter.unusedSimpArgs false



def errW : Option Int → Value
  | none => .nilIface
  | some c => .iface 0 (.int .i64 c)
theorem errW_none : errW none = .nilIface := rfl
theorem errW_some (c : Int) : errW (some c) = .iface 0 (.int .i64 c) := rfl

theorem info5 : (Tryd.prog.info? 5).map (fun i => (i.zero, i.size, i.bytes)) = some (some (.int .u8 0), 1, 1) := by kernel_rfl
theorem info9 : (Tryd.prog.info? 9).map (fun i => (i.zero, i.size, i.bytes)) = some (some (.string ⟨#[]⟩), 1, 16) := by kernel_rfl
theorem info102 : (Tryd.prog.info? 102).map (fun i => (i.zero, i.size, i.bytes)) = some (some (.agg #[(.string ⟨#[]⟩), (.slice none 0 0)]), 2, 40) := by kernel_rfl
theorem info103 : (Tryd.prog.info? 103).map (fun i => (i.zero, i.size, i.bytes)) = some (some (.agg #[(.string ⟨#[]⟩), (.string ⟨#[]⟩)]), 2, 32) := by kernel_rfl
-- the values' own types
/-! #### struct type 95 -/
structure S95 where
  f0 : ByteArray
  f1 : ByteArray
def z95 : S95 := ⟨(⟨#[]⟩ : ByteArray), (⟨#[]⟩ : ByteArray)⟩
def k95 : Kd S95 := Kd.iso (Kd.pair Kd.string Kd.string) (fun x : S95 => (x.f0, x.f1))
theorem k95_heap : Kd.Heap k95 := Kd.heap_iso _ (Kd.heap_pair Kd.heap_string Kd.heap_string)
theorem k95_open {w : World} {x : S95} {cs : List Value} (h : k95.K w x cs) : cs = [.string x.f0, .string x.f1] := by
  obtain ⟨_, _, rfl, rfl, rfl⟩ := h; exact rfl
theorem k95_openM {w : World} {base : Nat} {ok : Nat → Prop} {x : S95} {cs : List Value} (h : k95.M w base ok x cs) : cs = [.string x.f0, .string x.f1] := by
  obtain ⟨_, _, rfl, rfl, rfl⟩ := h; exact rfl
theorem k95_mk (w : World) (x : S95)  : k95.K w x [.string x.f0, .string x.f1] := ⟨[.string x.f0], [.string x.f1], rfl, rfl, rfl⟩
theorem k95_mkM (w : World) (base : Nat) (ok : Nat → Prop) (x : S95)  : k95.M w base ok x [.string x.f0, .string x.f1] := ⟨[.string x.f0], [.string x.f1], rfl, rfl, rfl⟩
theorem k95_mkF (W : World) (ok : Nat → Prop) (x : S95) : Kd.FK k95 W ok x [.string x.f0, .string x.f1] := fun W2 _ => k95_mk W2 x
def rd_T95 (xs : List S95) (i : Int) : S95 := xs.getD i.toNat z95
theorem at_T95 {w : World} {A : Option Addr} {n : Nat} {xs : List S95} (h : Kd.C k95 w A n xs) (i : Int) (h0 : 0 ≤ i) (h1 : i < n) : ∃ ad , A = some ad ∧ w.cell? (ad.add (i.toNat * 2)) = some (.string (rd_T95 xs i).f0) ∧ w.cell? ⟨(ad.add (i.toNat * 2)).block, (ad.add (i.toNat * 2)).off + 1, none⟩ = some (.string (rd_T95 xs i).f1) := by
  obtain ⟨ad, c, e, _, hK, hc0⟩ := Kd.C_get h z95 i h0 h1; have hc : ∀ j u, c[j]? = some u → w.cell? (ad.add (i.toNat * 2 + j)) = some u := hc0; obtain rfl := k95_open hK; exact ⟨ad, e, hc 0 _ rfl, by rw [← add_field _ _ 1 (by omega)]; exact hc 1 _ rfl⟩

def rd_L2 (xs : List (List ByteArray)) (i : Int) : (List ByteArray) := xs.getD i.toNat ([] : List ByteArray)
theorem at_L2 {w : World} {A : Option Addr} {n : Nat} {xs : List (List ByteArray)} (h : Kd.C (Kd.slice 9 Kd.string) w A n xs) (i : Int) (h0 : 0 ≤ i) (h1 : i < n) : ∃ ad A0 c0, A = some ad ∧ w.cell? (ad.add i.toNat) = some (.slice A0 (rd_L2 xs i).length c0) ∧ (rd_L2 xs i).length ≤ c0 ∧ Kd.string.C w A0 (rd_L2 xs i).length (rd_L2 xs i) := by
  obtain ⟨ad, c, e, _, hK, hc0⟩ := Kd.C_get h ([] : List ByteArray) i h0 h1; have hc : ∀ j u, c[j]? = some u → w.cell? (ad.add (i.toNat * 1 + j)) = some u := hc0; obtain ⟨A0, c0, rfl, l0, g0⟩ := hK; exact ⟨ad, A0, c0, e, by have hq := hc 0 _ rfl; rwa [Nat.mul_one, Nat.add_zero] at hq, l0, g0⟩

/-! #### struct type 98 -/
structure S98 where
  f0 : ByteArray
  f1 : (List ByteArray)
def z98 : S98 := ⟨(⟨#[]⟩ : ByteArray), ([] : List ByteArray)⟩
def k98 : Kd S98 := Kd.iso (Kd.pair Kd.string (Kd.slice 9 Kd.string)) (fun x : S98 => (x.f0, x.f1))
theorem k98_heap : Kd.Heap k98 := Kd.heap_iso _ (Kd.heap_pair Kd.heap_string (Kd.heap_slice 9 Kd.heap_string))
theorem k98_open {w : World} {x : S98} {cs : List Value} (h : k98.K w x cs) : ∃ A1 c1, cs = [.string x.f0, .slice A1 x.f1.length c1] ∧ x.f1.length ≤ c1 ∧ Kd.string.C w A1 x.f1.length x.f1 := by
  obtain ⟨_, _, rfl, rfl, ⟨A1, c1, rfl, l1, g1⟩⟩ := h; exact ⟨A1, c1, rfl, l1, g1⟩
theorem k98_openM {w : World} {base : Nat} {ok : Nat → Prop} {x : S98} {cs : List Value} (h : k98.M w base ok x cs) : ∃ v1, cs = [.string x.f0, v1] ∧ Kd.string.R 9 w base ok v1 x.f1 := by
  obtain ⟨_, _, rfl, rfl, ⟨v1, rfl, g1⟩⟩ := h; exact ⟨v1, rfl, g1⟩
theorem k98_mk (w : World) (x : S98) {A1 : Option Addr} {c1 : Nat} (l1 : x.f1.length ≤ c1) (g1 : Kd.string.C w A1 x.f1.length x.f1) : k98.K w x [.string x.f0, .slice A1 x.f1.length c1] := ⟨[.string x.f0], [.slice A1 x.f1.length c1], rfl, rfl, ⟨A1, c1, rfl, l1, g1⟩⟩
theorem k98_mkM (w : World) (base : Nat) (ok : Nat → Prop) (x : S98) {v1 : Value} (g1 : Kd.string.R 9 w base ok v1 x.f1) : k98.M w base ok x [.string x.f0, v1] := ⟨[.string x.f0], [v1], rfl, rfl, ⟨v1, rfl, g1⟩⟩
theorem k98_openF {W : World} {ok : Nat → Prop} {x : S98} {cs : List Value} (h : Kd.FK k98 W ok x cs) : ∃ A1 c1, cs = [.string x.f0, .slice A1 x.f1.length c1] ∧ x.f1.length ≤ c1 ∧ Kd.F Kd.string W ok A1 x.f1.length x.f1 := by
  obtain ⟨A1, c1, rfl, l1, _⟩ := k98_open (Kd.FK_now h); exact ⟨A1, c1, rfl, l1, (fun W' hW => by obtain ⟨A1_, c1_, he, l1_, g1_⟩ := k98_open (h W' hW); injection (Option.some.inj (show some (Value.slice A1 x.f1.length c1) = some (Value.slice A1_ x.f1.length c1_) from congrArg (fun l => l[1]?) he)) with ha_ _ _; rw [ha_]; exact g1_)⟩
theorem k98_mkF (W : World) (ok : Nat → Prop) (x : S98) {A1 : Option Addr} {c1 : Nat} (l1 : x.f1.length ≤ c1) (g1 : Kd.F Kd.string W ok A1 x.f1.length x.f1) : Kd.FK k98 W ok x [.string x.f0, .slice A1 x.f1.length c1] := fun W2 hW => k98_mk W2 x l1 (g1 W2 hW)
def rd_T98 (xs : List S98) (i : Int) : S98 := xs.getD i.toNat z98
theorem at_T98 {w : World} {A : Option Addr} {n : Nat} {xs : List S98} (h : Kd.C k98 w A n xs) (i : Int) (h0 : 0 ≤ i) (h1 : i < n) : ∃ ad A1 c1, A = some ad ∧ w.cell? (ad.add (i.toNat * 2)) = some (.string (rd_T98 xs i).f0) ∧ w.cell? ⟨(ad.add (i.toNat * 2)).block, (ad.add (i.toNat * 2)).off + 1, none⟩ = some (.slice A1 (rd_T98 xs i).f1.length c1) ∧ (rd_T98 xs i).f1.length ≤ c1 ∧ Kd.string.C w A1 (rd_T98 xs i).f1.length (rd_T98 xs i).f1 := by
  obtain ⟨ad, c, e, _, hK, hc0⟩ := Kd.C_get h z98 i h0 h1; have hc : ∀ j u, c[j]? = some u → w.cell? (ad.add (i.toNat * 2 + j)) = some u := hc0; obtain ⟨A1, c1, rfl, l1, g1⟩ := k98_open hK; exact ⟨ad, A1, c1, e, hc 0 _ rfl, by rw [← add_field _ _ 1 (by omega)]; exact hc 1 _ rfl, l1, g1⟩

/-! #### struct type 103 -/
structure S103 where
  f0 : ByteArray
  f1 : ByteArray
def z103 : S103 := ⟨(⟨#[]⟩ : ByteArray), (⟨#[]⟩ : ByteArray)⟩
def k103 : Kd S103 := Kd.iso (Kd.pair Kd.string Kd.string) (fun x : S103 => (x.f0, x.f1))
theorem k103_heap : Kd.Heap k103 := Kd.heap_iso _ (Kd.heap_pair Kd.heap_string Kd.heap_string)
theorem k103_open {w : World} {x : S103} {cs : List Value} (h : k103.K w x cs) : cs = [.string x.f0, .string x.f1] := by
  obtain ⟨_, _, rfl, rfl, rfl⟩ := h; exact rfl
theorem k103_openM {w : World} {base : Nat} {ok : Nat → Prop} {x : S103} {cs : List Value} (h : k103.M w base ok x cs) : cs = [.string x.f0, .string x.f1] := by
  obtain ⟨_, _, rfl, rfl, rfl⟩ := h; exact rfl
theorem k103_mk (w : World) (x : S103)  : k103.K w x [.string x.f0, .string x.f1] := ⟨[.string x.f0], [.string x.f1], rfl, rfl, rfl⟩
theorem k103_mkM (w : World) (base : Nat) (ok : Nat → Prop) (x : S103)  : k103.M w base ok x [.string x.f0, .string x.f1] := ⟨[.string x.f0], [.string x.f1], rfl, rfl, rfl⟩
theorem k103_mkF (W : World) (ok : Nat → Prop) (x : S103) : Kd.FK k103 W ok x [.string x.f0, .string x.f1] := fun W2 _ => k103_mk W2 x
def rd_T103 (xs : List S103) (i : Int) : S103 := xs.getD i.toNat z103
theorem at_T103 {w : World} {A : Option Addr} {n : Nat} {xs : List S103} (h : Kd.C k103 w A n xs) (i : Int) (h0 : 0 ≤ i) (h1 : i < n) : ∃ ad , A = some ad ∧ w.cell? (ad.add (i.toNat * 2)) = some (.string (rd_T103 xs i).f0) ∧ w.cell? ⟨(ad.add (i.toNat * 2)).block, (ad.add (i.toNat * 2)).off + 1, none⟩ = some (.string (rd_T103 xs i).f1) := by
  obtain ⟨ad, c, e, _, hK, hc0⟩ := Kd.C_get h z103 i h0 h1; have hc : ∀ j u, c[j]? = some u → w.cell? (ad.add (i.toNat * 2 + j)) = some u := hc0; obtain rfl := k103_open hK; exact ⟨ad, e, hc 0 _ rfl, by rw [← add_field _ _ 1 (by omega)]; exact hc 1 _ rfl⟩

/-! #### struct type 102 -/
structure S102 where
  f0 : ByteArray
  f1 : (List ByteArray)
def z102 : S102 := ⟨(⟨#[]⟩ : ByteArray), ([] : List ByteArray)⟩
def k102 : Kd S102 := Kd.iso (Kd.pair Kd.string (Kd.slice 9 Kd.string)) (fun x : S102 => (x.f0, x.f1))
theorem k102_heap : Kd.Heap k102 := Kd.heap_iso _ (Kd.heap_pair Kd.heap_string (Kd.heap_slice 9 Kd.heap_string))
theorem k102_open {w : World} {x : S102} {cs : List Value} (h : k102.K w x cs) : ∃ A1 c1, cs = [.string x.f0, .slice A1 x.f1.length c1] ∧ x.f1.length ≤ c1 ∧ Kd.string.C w A1 x.f1.length x.f1 := by
  obtain ⟨_, _, rfl, rfl, ⟨A1, c1, rfl, l1, g1⟩⟩ := h; exact ⟨A1, c1, rfl, l1, g1⟩
theorem k102_openM {w : World} {base : Nat} {ok : Nat → Prop} {x : S102} {cs : List Value} (h : k102.M w base ok x cs) : ∃ v1, cs = [.string x.f0, v1] ∧ Kd.string.R 9 w base ok v1 x.f1 := by
  obtain ⟨_, _, rfl, rfl, ⟨v1, rfl, g1⟩⟩ := h; exact ⟨v1, rfl, g1⟩
theorem k102_mk (w : World) (x : S102) {A1 : Option Addr} {c1 : Nat} (l1 : x.f1.length ≤ c1) (g1 : Kd.string.C w A1 x.f1.length x.f1) : k102.K w x [.string x.f0, .slice A1 x.f1.length c1] := ⟨[.string x.f0], [.slice A1 x.f1.length c1], rfl, rfl, ⟨A1, c1, rfl, l1, g1⟩⟩
theorem k102_mkM (w : World) (base : Nat) (ok : Nat → Prop) (x : S102) {v1 : Value} (g1 : Kd.string.R 9 w base ok v1 x.f1) : k102.M w base ok x [.string x.f0, v1] := ⟨[.string x.f0], [v1], rfl, rfl, ⟨v1, rfl, g1⟩⟩
theorem k102_openF {W : World} {ok : Nat → Prop} {x : S102} {cs : List Value} (h : Kd.FK k102 W ok x cs) : ∃ A1 c1, cs = [.string x.f0, .slice A1 x.f1.length c1] ∧ x.f1.length ≤ c1 ∧ Kd.F Kd.string W ok A1 x.f1.length x.f1 := by
  obtain ⟨A1, c1, rfl, l1, _⟩ := k102_open (Kd.FK_now h); exact ⟨A1, c1, rfl, l1, (fun W' hW => by obtain ⟨A1_, c1_, he, l1_, g1_⟩ := k102_open (h W' hW); injection (Option.some.inj (show some (Value.slice A1 x.f1.length c1) = some (Value.slice A1_ x.f1.length c1_) from congrArg (fun l => l[1]?) he)) with ha_ _ _; rw [ha_]; exact g1_)⟩
theorem k102_mkF (W : World) (ok : Nat → Prop) (x : S102) {A1 : Option Addr} {c1 : Nat} (l1 : x.f1.length ≤ c1) (g1 : Kd.F Kd.string W ok A1 x.f1.length x.f1) : Kd.FK k102 W ok x [.string x.f0, .slice A1 x.f1.length c1] := fun W2 hW => k102_mk W2 x l1 (g1 W2 hW)
def rd_T102 (xs : List S102) (i : Int) : S102 := xs.getD i.toNat z102
theorem at_T102 {w : World} {A : Option Addr} {n : Nat} {xs : List S102} (h : Kd.C k102 w A n xs) (i : Int) (h0 : 0 ≤ i) (h1 : i < n) : ∃ ad A1 c1, A = some ad ∧ w.cell? (ad.add (i.toNat * 2)) = some (.string (rd_T102 xs i).f0) ∧ w.cell? ⟨(ad.add (i.toNat * 2)).block, (ad.add (i.toNat * 2)).off + 1, none⟩ = some (.slice A1 (rd_T102 xs i).f1.length c1) ∧ (rd_T102 xs i).f1.length ≤ c1 ∧ Kd.string.C w A1 (rd_T102 xs i).f1.length (rd_T102 xs i).f1 := by
  obtain ⟨ad, c, e, _, hK, hc0⟩ := Kd.C_get h z102 i h0 h1; have hc : ∀ j u, c[j]? = some u → w.cell? (ad.add (i.toNat * 2 + j)) = some u := hc0; obtain ⟨A1, c1, rfl, l1, g1⟩ := k102_open hK; exact ⟨ad, A1, c1, e, hc 0 _ rfl, by rw [← add_field _ _ 1 (by omega)]; exact hc 1 _ rfl, l1, g1⟩

def rd_L8 (xs : List (List S95)) (i : Int) : (List S95) := xs.getD i.toNat ([] : List S95)
theorem at_L8 {w : World} {A : Option Addr} {n : Nat} {xs : List (List S95)} (h : Kd.C (Kd.slice 95 k95) w A n xs) (i : Int) (h0 : 0 ≤ i) (h1 : i < n) : ∃ ad A0 c0, A = some ad ∧ w.cell? (ad.add i.toNat) = some (.slice A0 (rd_L8 xs i).length c0) ∧ (rd_L8 xs i).length ≤ c0 ∧ k95.C w A0 (rd_L8 xs i).length (rd_L8 xs i) := by
  obtain ⟨ad, c, e, _, hK, hc0⟩ := Kd.C_get h ([] : List S95) i h0 h1; have hc : ∀ j u, c[j]? = some u → w.cell? (ad.add (i.toNat * 1 + j)) = some u := hc0; obtain ⟨A0, c0, rfl, l0, g0⟩ := hK; exact ⟨ad, A0, c0, e, by have hq := hc 0 _ rfl; rwa [Nat.mul_one, Nat.add_zero] at hq, l0, g0⟩

def rd_L9 (xs : List (List S98)) (i : Int) : (List S98) := xs.getD i.toNat ([] : List S98)
theorem at_L9 {w : World} {A : Option Addr} {n : Nat} {xs : List (List S98)} (h : Kd.C (Kd.slice 98 k98) w A n xs) (i : Int) (h0 : 0 ≤ i) (h1 : i < n) : ∃ ad A0 c0, A = some ad ∧ w.cell? (ad.add i.toNat) = some (.slice A0 (rd_L9 xs i).length c0) ∧ (rd_L9 xs i).length ≤ c0 ∧ k98.C w A0 (rd_L9 xs i).length (rd_L9 xs i) := by
  obtain ⟨ad, c, e, _, hK, hc0⟩ := Kd.C_get h ([] : List S98) i h0 h1; have hc : ∀ j u, c[j]? = some u → w.cell? (ad.add (i.toNat * 1 + j)) = some u := hc0; obtain ⟨A0, c0, rfl, l0, g0⟩ := hK; exact ⟨ad, A0, c0, e, by have hq := hc 0 _ rfl; rwa [Nat.mul_one, Nat.add_zero] at hq, l0, g0⟩

/-! #### struct type 25 -/
structure S25 where
  f0 : (List S95)
  f1 : (List S98)
def z25 : S25 := ⟨([] : List S95), ([] : List S98)⟩
def k25 : Kd S25 := Kd.iso (Kd.pair (Kd.slice 95 k95) (Kd.slice 98 k98)) (fun x : S25 => (x.f0, x.f1))
theorem k25_heap : Kd.Heap k25 := Kd.heap_iso _ (Kd.heap_pair (Kd.heap_slice 95 k95_heap) (Kd.heap_slice 98 k98_heap))
theorem k25_open {w : World} {x : S25} {cs : List Value} (h : k25.K w x cs) : ∃ A0 c0 A1 c1, cs = [.slice A0 x.f0.length c0, .slice A1 x.f1.length c1] ∧ x.f0.length ≤ c0 ∧ k95.C w A0 x.f0.length x.f0 ∧ x.f1.length ≤ c1 ∧ k98.C w A1 x.f1.length x.f1 := by
  obtain ⟨_, _, rfl, ⟨A0, c0, rfl, l0, g0⟩, ⟨A1, c1, rfl, l1, g1⟩⟩ := h; exact ⟨A0, c0, A1, c1, rfl, l0, g0, l1, g1⟩
theorem k25_openM {w : World} {base : Nat} {ok : Nat → Prop} {x : S25} {cs : List Value} (h : k25.M w base ok x cs) : ∃ v0 v1, cs = [v0, v1] ∧ k95.R 95 w base ok v0 x.f0 ∧ k98.R 98 w base ok v1 x.f1 := by
  obtain ⟨_, _, rfl, ⟨v0, rfl, g0⟩, ⟨v1, rfl, g1⟩⟩ := h; exact ⟨v0, v1, rfl, g0, g1⟩
theorem k25_mk (w : World) (x : S25) {A0 : Option Addr} {c0 : Nat} (l0 : x.f0.length ≤ c0) (g0 : k95.C w A0 x.f0.length x.f0) {A1 : Option Addr} {c1 : Nat} (l1 : x.f1.length ≤ c1) (g1 : k98.C w A1 x.f1.length x.f1) : k25.K w x [.slice A0 x.f0.length c0, .slice A1 x.f1.length c1] := ⟨[.slice A0 x.f0.length c0], [.slice A1 x.f1.length c1], rfl, ⟨A0, c0, rfl, l0, g0⟩, ⟨A1, c1, rfl, l1, g1⟩⟩
theorem k25_mkM (w : World) (base : Nat) (ok : Nat → Prop) (x : S25) {v0 : Value} (g0 : k95.R 95 w base ok v0 x.f0) {v1 : Value} (g1 : k98.R 98 w base ok v1 x.f1) : k25.M w base ok x [v0, v1] := ⟨[v0], [v1], rfl, ⟨v0, rfl, g0⟩, ⟨v1, rfl, g1⟩⟩
theorem k25_openF {W : World} {ok : Nat → Prop} {x : S25} {cs : List Value} (h : Kd.FK k25 W ok x cs) : ∃ A0 c0 A1 c1, cs = [.slice A0 x.f0.length c0, .slice A1 x.f1.length c1] ∧ x.f0.length ≤ c0 ∧ Kd.F k95 W ok A0 x.f0.length x.f0 ∧ x.f1.length ≤ c1 ∧ Kd.F k98 W ok A1 x.f1.length x.f1 := by
  obtain ⟨A0, c0, A1, c1, rfl, l0, _, l1, _⟩ := k25_open (Kd.FK_now h); exact ⟨A0, c0, A1, c1, rfl, l0, (fun W' hW => by obtain ⟨A0_, c0_, A1_, c1_, he, l0_, g0_, l1_, g1_⟩ := k25_open (h W' hW); injection (Option.some.inj (show some (Value.slice A0 x.f0.length c0) = some (Value.slice A0_ x.f0.length c0_) from congrArg (fun l => l[0]?) he)) with ha_ _ _; rw [ha_]; exact g0_), l1, (fun W' hW => by obtain ⟨A0_, c0_, A1_, c1_, he, l0_, g0_, l1_, g1_⟩ := k25_open (h W' hW); injection (Option.some.inj (show some (Value.slice A1 x.f1.length c1) = some (Value.slice A1_ x.f1.length c1_) from congrArg (fun l => l[1]?) he)) with ha_ _ _; rw [ha_]; exact g1_)⟩
theorem k25_mkF (W : World) (ok : Nat → Prop) (x : S25) {A0 : Option Addr} {c0 : Nat} (l0 : x.f0.length ≤ c0) (g0 : Kd.F k95 W ok A0 x.f0.length x.f0) {A1 : Option Addr} {c1 : Nat} (l1 : x.f1.length ≤ c1) (g1 : Kd.F k98 W ok A1 x.f1.length x.f1) : Kd.FK k25 W ok x [.slice A0 x.f0.length c0, .slice A1 x.f1.length c1] := fun W2 hW => k25_mk W2 x l0 (g0 W2 hW) l1 (g1 W2 hW)
def rd_T25 (xs : List S25) (i : Int) : S25 := xs.getD i.toNat z25
theorem at_T25 {w : World} {A : Option Addr} {n : Nat} {xs : List S25} (h : Kd.C k25 w A n xs) (i : Int) (h0 : 0 ≤ i) (h1 : i < n) : ∃ ad A0 c0 A1 c1, A = some ad ∧ w.cell? (ad.add (i.toNat * 2)) = some (.slice A0 (rd_T25 xs i).f0.length c0) ∧ w.cell? ⟨(ad.add (i.toNat * 2)).block, (ad.add (i.toNat * 2)).off + 1, none⟩ = some (.slice A1 (rd_T25 xs i).f1.length c1) ∧ (rd_T25 xs i).f0.length ≤ c0 ∧ k95.C w A0 (rd_T25 xs i).f0.length (rd_T25 xs i).f0 ∧ (rd_T25 xs i).f1.length ≤ c1 ∧ k98.C w A1 (rd_T25 xs i).f1.length (rd_T25 xs i).f1 := by
  obtain ⟨ad, c, e, _, hK, hc0⟩ := Kd.C_get h z25 i h0 h1; have hc : ∀ j u, c[j]? = some u → w.cell? (ad.add (i.toNat * 2 + j)) = some u := hc0; obtain ⟨A0, c0, A1, c1, rfl, l0, g0, l1, g1⟩ := k25_open hK; exact ⟨ad, A0, c0, A1, c1, e, hc 0 _ rfl, by rw [← add_field _ _ 1 (by omega)]; exact hc 1 _ rfl, l0, g0, l1, g1⟩

def rd_L11 (xs : List (List S103)) (i : Int) : (List S103) := xs.getD i.toNat ([] : List S103)
theorem at_L11 {w : World} {A : Option Addr} {n : Nat} {xs : List (List S103)} (h : Kd.C (Kd.slice 103 k103) w A n xs) (i : Int) (h0 : 0 ≤ i) (h1 : i < n) : ∃ ad A0 c0, A = some ad ∧ w.cell? (ad.add i.toNat) = some (.slice A0 (rd_L11 xs i).length c0) ∧ (rd_L11 xs i).length ≤ c0 ∧ k103.C w A0 (rd_L11 xs i).length (rd_L11 xs i) := by
  obtain ⟨ad, c, e, _, hK, hc0⟩ := Kd.C_get h ([] : List S103) i h0 h1; have hc : ∀ j u, c[j]? = some u → w.cell? (ad.add (i.toNat * 1 + j)) = some u := hc0; obtain ⟨A0, c0, rfl, l0, g0⟩ := hK; exact ⟨ad, A0, c0, e, by have hq := hc 0 _ rfl; rwa [Nat.mul_one, Nat.add_zero] at hq, l0, g0⟩

def rd_L12 (xs : List (List S102)) (i : Int) : (List S102) := xs.getD i.toNat ([] : List S102)
theorem at_L12 {w : World} {A : Option Addr} {n : Nat} {xs : List (List S102)} (h : Kd.C (Kd.slice 102 k102) w A n xs) (i : Int) (h0 : 0 ≤ i) (h1 : i < n) : ∃ ad A0 c0, A = some ad ∧ w.cell? (ad.add i.toNat) = some (.slice A0 (rd_L12 xs i).length c0) ∧ (rd_L12 xs i).length ≤ c0 ∧ k102.C w A0 (rd_L12 xs i).length (rd_L12 xs i) := by
  obtain ⟨ad, c, e, _, hK, hc0⟩ := Kd.C_get h ([] : List S102) i h0 h1; have hc : ∀ j u, c[j]? = some u → w.cell? (ad.add (i.toNat * 1 + j)) = some u := hc0; obtain ⟨A0, c0, rfl, l0, g0⟩ := hK; exact ⟨ad, A0, c0, e, by have hq := hc 0 _ rfl; rwa [Nat.mul_one, Nat.add_zero] at hq, l0, g0⟩

/-! #### struct type 32 -/
structure S32 where
  f0 : (List S103)
  f1 : (List S102)
def z32 : S32 := ⟨([] : List S103), ([] : List S102)⟩
def k32 : Kd S32 := Kd.iso (Kd.pair (Kd.slice 103 k103) (Kd.slice 102 k102)) (fun x : S32 => (x.f0, x.f1))
theorem k32_heap : Kd.Heap k32 := Kd.heap_iso _ (Kd.heap_pair (Kd.heap_slice 103 k103_heap) (Kd.heap_slice 102 k102_heap))
theorem k32_open {w : World} {x : S32} {cs : List Value} (h : k32.K w x cs) : ∃ A0 c0 A1 c1, cs = [.slice A0 x.f0.length c0, .slice A1 x.f1.length c1] ∧ x.f0.length ≤ c0 ∧ k103.C w A0 x.f0.length x.f0 ∧ x.f1.length ≤ c1 ∧ k102.C w A1 x.f1.length x.f1 := by
  obtain ⟨_, _, rfl, ⟨A0, c0, rfl, l0, g0⟩, ⟨A1, c1, rfl, l1, g1⟩⟩ := h; exact ⟨A0, c0, A1, c1, rfl, l0, g0, l1, g1⟩
theorem k32_openM {w : World} {base : Nat} {ok : Nat → Prop} {x : S32} {cs : List Value} (h : k32.M w base ok x cs) : ∃ v0 v1, cs = [v0, v1] ∧ k103.R 103 w base ok v0 x.f0 ∧ k102.R 102 w base ok v1 x.f1 := by
  obtain ⟨_, _, rfl, ⟨v0, rfl, g0⟩, ⟨v1, rfl, g1⟩⟩ := h; exact ⟨v0, v1, rfl, g0, g1⟩
theorem k32_mk (w : World) (x : S32) {A0 : Option Addr} {c0 : Nat} (l0 : x.f0.length ≤ c0) (g0 : k103.C w A0 x.f0.length x.f0) {A1 : Option Addr} {c1 : Nat} (l1 : x.f1.length ≤ c1) (g1 : k102.C w A1 x.f1.length x.f1) : k32.K w x [.slice A0 x.f0.length c0, .slice A1 x.f1.length c1] := ⟨[.slice A0 x.f0.length c0], [.slice A1 x.f1.length c1], rfl, ⟨A0, c0, rfl, l0, g0⟩, ⟨A1, c1, rfl, l1, g1⟩⟩
theorem k32_mkM (w : World) (base : Nat) (ok : Nat → Prop) (x : S32) {v0 : Value} (g0 : k103.R 103 w base ok v0 x.f0) {v1 : Value} (g1 : k102.R 102 w base ok v1 x.f1) : k32.M w base ok x [v0, v1] := ⟨[v0], [v1], rfl, ⟨v0, rfl, g0⟩, ⟨v1, rfl, g1⟩⟩
theorem k32_openF {W : World} {ok : Nat → Prop} {x : S32} {cs : List Value} (h : Kd.FK k32 W ok x cs) : ∃ A0 c0 A1 c1, cs = [.slice A0 x.f0.length c0, .slice A1 x.f1.length c1] ∧ x.f0.length ≤ c0 ∧ Kd.F k103 W ok A0 x.f0.length x.f0 ∧ x.f1.length ≤ c1 ∧ Kd.F k102 W ok A1 x.f1.length x.f1 := by
  obtain ⟨A0, c0, A1, c1, rfl, l0, _, l1, _⟩ := k32_open (Kd.FK_now h); exact ⟨A0, c0, A1, c1, rfl, l0, (fun W' hW => by obtain ⟨A0_, c0_, A1_, c1_, he, l0_, g0_, l1_, g1_⟩ := k32_open (h W' hW); injection (Option.some.inj (show some (Value.slice A0 x.f0.length c0) = some (Value.slice A0_ x.f0.length c0_) from congrArg (fun l => l[0]?) he)) with ha_ _ _; rw [ha_]; exact g0_), l1, (fun W' hW => by obtain ⟨A0_, c0_, A1_, c1_, he, l0_, g0_, l1_, g1_⟩ := k32_open (h W' hW); injection (Option.some.inj (show some (Value.slice A1 x.f1.length c1) = some (Value.slice A1_ x.f1.length c1_) from congrArg (fun l => l[1]?) he)) with ha_ _ _; rw [ha_]; exact g1_)⟩
theorem k32_mkF (W : World) (ok : Nat → Prop) (x : S32) {A0 : Option Addr} {c0 : Nat} (l0 : x.f0.length ≤ c0) (g0 : Kd.F k103 W ok A0 x.f0.length x.f0) {A1 : Option Addr} {c1 : Nat} (l1 : x.f1.length ≤ c1) (g1 : Kd.F k102 W ok A1 x.f1.length x.f1) : Kd.FK k32 W ok x [.slice A0 x.f0.length c0, .slice A1 x.f1.length c1] := fun W2 hW => k32_mk W2 x l0 (g0 W2 hW) l1 (g1 W2 hW)
def rd_T32 (xs : List S32) (i : Int) : S32 := xs.getD i.toNat z32
theorem at_T32 {w : World} {A : Option Addr} {n : Nat} {xs : List S32} (h : Kd.C k32 w A n xs) (i : Int) (h0 : 0 ≤ i) (h1 : i < n) : ∃ ad A0 c0 A1 c1, A = some ad ∧ w.cell? (ad.add (i.toNat * 2)) = some (.slice A0 (rd_T32 xs i).f0.length c0) ∧ w.cell? ⟨(ad.add (i.toNat * 2)).block, (ad.add (i.toNat * 2)).off + 1, none⟩ = some (.slice A1 (rd_T32 xs i).f1.length c1) ∧ (rd_T32 xs i).f0.length ≤ c0 ∧ k103.C w A0 (rd_T32 xs i).f0.length (rd_T32 xs i).f0 ∧ (rd_T32 xs i).f1.length ≤ c1 ∧ k102.C w A1 (rd_T32 xs i).f1.length (rd_T32 xs i).f1 := by
  obtain ⟨ad, c, e, _, hK, hc0⟩ := Kd.C_get h z32 i h0 h1; have hc : ∀ j u, c[j]? = some u → w.cell? (ad.add (i.toNat * 2 + j)) = some u := hc0; obtain ⟨A0, c0, A1, c1, rfl, l0, g0, l1, g1⟩ := k32_open hK; exact ⟨ad, A0, c0, A1, c1, e, hc 0 _ rfl, by rw [← add_field _ _ 1 (by omega)]; exact hc 1 _ rfl, l0, g0, l1, g1⟩

set_option linter.unusedVariables false
set_option linter.unusedSimpArgs false

/-! ### laws_szRdn: function 63 -/
def laws_szRdn.f (a0_0 : ByteArray) (a0_1 : ByteArray) (a1 : Int) : Option (Int) := if (wrap64 (a1 - (a0_0.size : Int))) < 0 then (some (-1)) else (if (wrap64 ((wrap64 (a1 - (a0_0.size : Int))) - (a0_1.size : Int))) < 0 then (some (-1)) else (some (wrap64 ((wrap64 (a1 - (a0_0.size : Int))) - (a0_1.size : Int)))))
set_option maxHeartbeats 8000000 in
set_option maxRecDepth 100000 in
theorem laws_szRdn.calls (a0_0 : ByteArray) (a0_1 : ByteArray) (a1 : Int) (r : Int) (w : World) (h : laws_szRdn.f a0_0 a0_1 a1 = some r) :
    Calls Tryd.prog 63 #[.agg #[.string a0_0, .string a0_1], .int .i64 a1] w fun e w' => e = .returned (.int .i64 r) ∧ Below w.heap.size w w' := by
  have hu95 := Tryd.underlying95; have HB := Aside0.mk (Below.refl w.heap.size w); have H : (if (wrap64 (a1 - (a0_0.size : Int))) < 0 then (some (-1)) else (if (wrap64 ((wrap64 (a1 - (a0_0.size : Int))) - (a0_1.size : Int))) < 0 then (some (-1)) else (some (wrap64 ((wrap64 (a1 - (a0_0.size : Int))) - (a0_1.size : Int)))))) = some r := h; clear h; by_cases c3 : (wrap64 (a1 - (a0_0.size : Int))) < 0
  · rw [if_pos c3] at H; have c3b0 : decide ((wrap64 (a1 - (a0_0.size : Int))) < 0) = true := decide_eq_true c3; clear c3; obtain rfl := Option.some.inj H; go_enter Tryd.func63, Tryd.ntmps63; go_wp2_with (first | ((with_reducible refine gate_dst (N := 2) rfl ?_); refine box_event ?hg (N := 2) ?hd (cs := #[.string a0_0, .string a0_1]) (t := 95) ?hr ?_; (case hd => rfl); (case hg => rfl); (case hr => first | (go_simp; done) | (go_simp; rfl)); intro gb101 hg w4 hbox hb; have n_ := aa (below_step By hb) <| aa (hbox) <| aa ((by rw [hg]; exact (below_size By) : w.heap.size ≤ gb101)) <| Aside0.mk ((by rw [hg]; exact (below_size By) : w.heap.size ≤ gb101)); clear HB; obtain ⟨HB, BK101, GW101, GE101⟩ := n_; clear hb hbox hg; have ⟨hcz5_0, hcz5_1⟩ := cq2 BK101.out; have ⟨hfz5_0, hfz5_1⟩ := fq2 BK101.out)); go_ret; exact ⟨Rf, By⟩
  · rw [if_neg c3] at H; have c3b0 : decide ((wrap64 (a1 - (a0_0.size : Int))) < 0) = false := decide_eq_false c3; clear c3; by_cases c6 : (wrap64 ((wrap64 (a1 - (a0_0.size : Int))) - (a0_1.size : Int))) < 0
    · rw [if_pos c6] at H; have c6b0 : decide ((wrap64 ((wrap64 (a1 - (a0_0.size : Int))) - (a0_1.size : Int))) < 0) = true := decide_eq_true c6; clear c6; obtain rfl := Option.some.inj H; go_enter Tryd.func63, Tryd.ntmps63; go_wp2_with (first | ((with_reducible refine gate_dst (N := 2) rfl ?_); refine box_event ?hg (N := 2) ?hd (cs := #[.string a0_0, .string a0_1]) (t := 95) ?hr ?_; (case hd => rfl); (case hg => rfl); (case hr => first | (go_simp; done) | (go_simp; rfl)); intro gb101 hg w7 hbox hb; have n_ := aa (below_step By hb) <| aa (hbox) <| aa ((by rw [hg]; exact (below_size By) : w.heap.size ≤ gb101)) <| Aside0.mk ((by rw [hg]; exact (below_size By) : w.heap.size ≤ gb101)); clear HB; obtain ⟨HB, BK101, GW101, GE101⟩ := n_; clear hb hbox hg; have ⟨hcz8_0, hcz8_1⟩ := cq2 BK101.out; have ⟨hfz8_0, hfz8_1⟩ := fq2 BK101.out)); go_ret; exact ⟨Rf, By⟩
    · rw [if_neg c6] at H; have c6b0 : decide ((wrap64 ((wrap64 (a1 - (a0_0.size : Int))) - (a0_1.size : Int))) < 0) = false := decide_eq_false c6; clear c6; obtain rfl := Option.some.inj H; go_enter Tryd.func63, Tryd.ntmps63; go_wp2_with (first | ((with_reducible refine gate_dst (N := 2) rfl ?_); refine box_event ?hg (N := 2) ?hd (cs := #[.string a0_0, .string a0_1]) (t := 95) ?hr ?_; (case hd => rfl); (case hg => rfl); (case hr => first | (go_simp; done) | (go_simp; rfl)); intro gb101 hg w9 hbox hb; have n_ := aa (below_step By hb) <| aa (hbox) <| aa ((by rw [hg]; exact (below_size By) : w.heap.size ≤ gb101)) <| Aside0.mk ((by rw [hg]; exact (below_size By) : w.heap.size ≤ gb101)); clear HB; obtain ⟨HB, BK101, GW101, GE101⟩ := n_; clear hb hbox hg; have ⟨hcz10_0, hcz10_1⟩ := cq2 BK101.out; have ⟨hfz10_0, hfz10_1⟩ := fq2 BK101.out)); go_ret; exact ⟨Rf, By⟩

set_option linter.unusedVariables false
set_option linter.unusedSimpArgs false

/-! ### laws_szRdnS: function 30 -/
def laws_szRdnS.l0 : Nat → List (S95) → Int → Int → Option (Int)
  | 0, _, _, _ => none
  | k + 1, x0, x1, x5 => if x5 < (x0.length : Int) then (if 0 ≤ x5 then ((laws_szRdn.f ((rd_T95 x0 x5).f0) ((rd_T95 x0 x5).f1) x1).bind fun t103 => (if t103 < 0 then (some (-1)) else (laws_szRdnS.l0 k x0 t103 (wrap64 (x5 + 1))))) else (none)) else (some x1)
def laws_szRdnS.f (k : Nat) (l0 : List (S95)) (a1 : Int) : Option (Int) := if (wrap64 (a1 - (l0.length : Int))) < 0 then (some (-1)) else (laws_szRdnS.l0 k l0 (wrap64 (a1 - (l0.length : Int))) 0)
theorem laws_szRdnS.mono_l : ∀ k, (∀ y0 y1 y2, LeO (laws_szRdnS.l0 k y0 y1 y2) (laws_szRdnS.l0 (k + 1) y0 y1 y2))
  | 0 => fun _ _ _ r h => by simp [laws_szRdnS.l0] at h
  | k + 1 => by
    have ih0 := laws_szRdnS.mono_l k
    · intro y0 y1 y2; unfold laws_szRdnS.l0; repeat' first
      | (with_reducible exact ih0 _ _ _)
      | (with_reducible exact LeO.refl _)
      | (with_reducible exact LeO.none _)
      | (with_reducible refine LeO.ite ?_ ?_)
      | (with_reducible refine LeO.bind ?_ (fun _ => ?_))
theorem laws_szRdnS.mono : ∀ a0 a1 k, LeO (laws_szRdnS.f k a0 a1) (laws_szRdnS.f (k + 1) a0 a1) := by
  intro a0 a1 k; have ih0 := laws_szRdnS.mono_l k; unfold laws_szRdnS.f; repeat' first
      | (with_reducible exact ih0 _ _ _)
      | (with_reducible exact LeO.refl _)
      | (with_reducible exact LeO.none _)
      | (with_reducible refine LeO.ite ?_ ?_)
      | (with_reducible refine LeO.bind ?_ (fun _ => ?_))
set_option maxHeartbeats 8000000 in
set_option maxRecDepth 100000 in
theorem laws_szRdnS.calls (k : Nat) (A0 : Option Addr) (c0 : Nat) (l0 : List (S95)) (a1 : Int) (r : Int) (w : World) (hr0 : Kd.C k95 w A0 l0.length l0) (hc0 : l0.length ≤ c0) (h : laws_szRdnS.f k l0 a1 = some r) :
    Calls Tryd.prog 30 #[.slice A0 l0.length c0, .int .i64 a1] w fun e w' => e = .returned (.int .i64 r) ∧ Below w.heap.size w w' := by
  have hu95 := Tryd.underlying95; have HR0 := Aside0.mk hr0; have HC0 := Aside0.mk hc0; clear hr0 hc0; have HB := Aside0.mk (Below.refl w.heap.size w); have H : (if (wrap64 (a1 - (l0.length : Int))) < 0 then (some (-1)) else (laws_szRdnS.l0 k l0 (wrap64 (a1 - (l0.length : Int))) 0)) = some r := h; clear h; by_cases c3 : (wrap64 (a1 - (l0.length : Int))) < 0
  · rw [if_pos c3] at H; have c3b0 : decide ((wrap64 (a1 - (l0.length : Int))) < 0) = true := decide_eq_true c3; clear c3; obtain rfl := Option.some.inj H; go_enter Tryd.func30, Tryd.ntmps30; go_wp2; go_ret; exact ⟨Rf, By⟩
  · rw [if_neg c3] at H; have c3b0 : decide ((wrap64 (a1 - (l0.length : Int))) < 0) = false := decide_eq_false c3; clear c3; have H' := Aside0.mk H; clear H; go_enter Tryd.func30, Tryd.ntmps30; go_wp2; go_loopg [1, 5] k (fun kq v1 v5 w' => ∃ (x1_1 : Int) (x5_1 : Int), v1 = .int .i64 x1_1 ∧ v5 = .int .i64 x5_1 ∧ Aside0 (laws_szRdnS.l0 kq l0 x1_1 x5_1 = some r) ∧ Aside0 (kq ≤ k) ∧ Aside0 (Below w.heap.size w w'))
    case atStart => exact ⟨(wrap64 (a1 - (l0.length : Int))), (0), (by first | rfl | (simp; done) | (simp [*]; done)), (by first | rfl | (simp; done) | (simp [*]; done)), H', ⟨Nat.le_refl _⟩, ⟨By⟩⟩
    case round =>
      clear H'; try clear p2
      try clear c3
      try clear c3b0
      obtain ⟨x1_1, x5_1, rfl, rfl, HA, HK1, HB⟩ := hrel; cases gk with
      | zero => exact absurd HA.out (by simp [laws_szRdnS.l0])
      | succ k1 =>
        have H := HA.out; clear HA; simp only [laws_szRdnS.l0] at H; by_cases c4 : x5_1 < (l0.length : Int)
        · rw [if_pos c4] at H; have c4b0 : decide (x5_1 < (l0.length : Int)) = true := decide_eq_true c4; clear c4; by_cases c5 : 0 ≤ x5_1
          · rw [if_pos c5] at H; have c5b0 : decide (0 ≤ x5_1) = true := decide_eq_true c5; clear c5; replace H := Option.bind_eq_some_iff.mp H; obtain ⟨t103, A60, H⟩ := H; (try dsimp only at H); have A6 := Aside0.mk A60; clear A60; by_cases c7 : t103 < 0
            · rw [if_pos c7] at H; have c7b0 : decide (t103 < 0) = true := decide_eq_true c7; clear c7; obtain rfl := Option.some.inj H; have p102 : 0 ≤ (x5_1 : Int) := of_decide_eq_true Da; have q102 : x5_1 < (l0.length : Int) := of_decide_eq_true Da; obtain ⟨ad102, e102, hx102_0, hx102_1⟩ := at_T95 HR0.out x5_1 p102 q102; cases e102
              replace hx102_0 := bz HB.out hx102_0; replace hx102_1 := bz HB.out hx102_1; replace p102 := eq_true p102; replace q102 := eq_true q102; go_wp2_with (first | ((with_reducible refine gate_callee (f := 63) rfl ?_); refine goesL_ (some 23) rfl rfl Tryd.func63 (by kernel_rfl) rfl #[.agg #[.string ((rd_T95 l0 x5_1).f0), .string ((rd_T95 l0 x5_1).f1)], .int .i64 x1_1] rfl Ag ?_; (with_reducible refine (laws_szRdn.calls ((rd_T95 l0 x5_1).f0) ((rd_T95 l0 x5_1).f1) x1_1 t103 _ A6.out).mono ?_); rintro e w8 ⟨rfl, hb⟩; refine ⟨_, rfl, ?_⟩; have n0_ := Aside0.mk (below_step By hb); clear HB; have HB := n0_; clear n0_; (try clear hb); (try clear hb2); (try clear hk); (try clear hi))); go_ret; exact ⟨Rf, By⟩
            · rw [if_neg c7] at H; have c7b0 : decide (t103 < 0) = false := decide_eq_false c7; clear c7; have H' := Aside0.mk H; clear H; have p102 : 0 ≤ (x5_1 : Int) := of_decide_eq_true Da; have q102 : x5_1 < (l0.length : Int) := of_decide_eq_true Da; obtain ⟨ad102, e102, hx102_0, hx102_1⟩ := at_T95 HR0.out x5_1 p102 q102; cases e102
              replace hx102_0 := bz HB.out hx102_0; replace hx102_1 := bz HB.out hx102_1; replace p102 := eq_true p102; replace q102 := eq_true q102; go_wp2_with (first | ((with_reducible refine gate_callee (f := 63) rfl ?_); refine goesL_ (some 23) rfl rfl Tryd.func63 (by kernel_rfl) rfl #[.agg #[.string ((rd_T95 l0 x5_1).f0), .string ((rd_T95 l0 x5_1).f1)], .int .i64 x1_1] rfl Ag ?_; (with_reducible refine (laws_szRdn.calls ((rd_T95 l0 x5_1).f0) ((rd_T95 l0 x5_1).f1) x1_1 t103 _ A6.out).mono ?_); rintro e w9 ⟨rfl, hb⟩; refine ⟨_, rfl, ?_⟩; have n0_ := Aside0.mk (below_step By hb); clear HB; have HB := n0_; clear n0_; (try clear hb); (try clear hb2); (try clear hk); (try clear hi))); go_roundg k1
              case measure => have := HK1.out; omega
              case rel => exact ⟨(t103), (wrap64 (x5_1 + 1)), (by first | rfl | (simp; done) | (simp [*]; done)), (by first | rfl | (simp; done) | (simp [*]; done)), H', ⟨by have := HK1.out; omega⟩, ⟨By⟩⟩
          · rw [if_neg c5] at H; exact absurd H (by simp)
        · rw [if_neg c4] at H; have c4b0 : decide (x5_1 < (l0.length : Int)) = false := decide_eq_false c4; clear c4; obtain rfl := Option.some.inj H; go_wp2; go_ret; exact ⟨Rf, By⟩

set_option linter.unusedVariables false
set_option linter.unusedSimpArgs false

/-! ### laws_szStringS: function 91 -/
def laws_szStringS.l0 : Nat → List ByteArray → Int → Int → Option (Int)
  | 0, _, _, _ => none
  | k + 1, x0, x1, x5 => if x5 < (x0.length : Int) then (if 0 ≤ x5 then (if (wrap64 (x1 - ((rdOf ByteArray.empty x0 x5).size : Int))) < 0 then (some (-1)) else (laws_szStringS.l0 k x0 (wrap64 (x1 - ((rdOf ByteArray.empty x0 x5).size : Int))) (wrap64 (x5 + 1)))) else (none)) else (some x1)
def laws_szStringS.f (k : Nat) (l0 : List ByteArray) (a1 : Int) : Option (Int) := if (wrap64 (a1 - (l0.length : Int))) < 0 then (some (-1)) else (laws_szStringS.l0 k l0 (wrap64 (a1 - (l0.length : Int))) 0)
theorem laws_szStringS.mono_l : ∀ k, (∀ y0 y1 y2, LeO (laws_szStringS.l0 k y0 y1 y2) (laws_szStringS.l0 (k + 1) y0 y1 y2))
  | 0 => fun _ _ _ r h => by simp [laws_szStringS.l0] at h
  | k + 1 => by
    have ih0 := laws_szStringS.mono_l k
    · intro y0 y1 y2; unfold laws_szStringS.l0; repeat' first
      | (with_reducible exact ih0 _ _ _)
      | (with_reducible exact LeO.refl _)
      | (with_reducible exact LeO.none _)
      | (with_reducible refine LeO.ite ?_ ?_)
      | (with_reducible refine LeO.bind ?_ (fun _ => ?_))
theorem laws_szStringS.mono : ∀ a0 a1 k, LeO (laws_szStringS.f k a0 a1) (laws_szStringS.f (k + 1) a0 a1) := by
  intro a0 a1 k; have ih0 := laws_szStringS.mono_l k; unfold laws_szStringS.f; repeat' first
      | (with_reducible exact ih0 _ _ _)
      | (with_reducible exact LeO.refl _)
      | (with_reducible exact LeO.none _)
      | (with_reducible refine LeO.ite ?_ ?_)
      | (with_reducible refine LeO.bind ?_ (fun _ => ?_))
set_option maxHeartbeats 8000000 in
set_option maxRecDepth 100000 in
theorem laws_szStringS.calls (k : Nat) (A0 : Option Addr) (c0 : Nat) (l0 : List ByteArray) (a1 : Int) (r : Int) (w : World) (hr0 : Kd.C Kd.string w A0 l0.length l0) (hc0 : l0.length ≤ c0) (h : laws_szStringS.f k l0 a1 = some r) :
    Calls Tryd.prog 91 #[.slice A0 l0.length c0, .int .i64 a1] w fun e w' => e = .returned (.int .i64 r) ∧ Drawn0 w w' := by
  have HR0 := Aside0.mk hr0; have HC0 := Aside0.mk hc0; clear hr0 hc0; have H : (if (wrap64 (a1 - (l0.length : Int))) < 0 then (some (-1)) else (laws_szStringS.l0 k l0 (wrap64 (a1 - (l0.length : Int))) 0)) = some r := h; clear h; by_cases c3 : (wrap64 (a1 - (l0.length : Int))) < 0
  · rw [if_pos c3] at H; have c3b0 : decide ((wrap64 (a1 - (l0.length : Int))) < 0) = true := decide_eq_true c3; clear c3; obtain rfl := Option.some.inj H; go_enter Tryd.func91, Tryd.ntmps91; go_wp2; go_ret; exact ⟨by first | rfl | (simp; done) | (simp [*]; done), by repeat (first | exact Drawn0.refl _ | apply Drawn0.step)⟩
  · rw [if_neg c3] at H; have c3b0 : decide ((wrap64 (a1 - (l0.length : Int))) < 0) = false := decide_eq_false c3; clear c3; have H' := Aside0.mk H; clear H; go_enter Tryd.func91, Tryd.ntmps91; go_wp2; go_loopg [1, 5] k (fun kq v1 v5 w' => ∃ (x1_1 : Int) (x5_1 : Int), v1 = .int .i64 x1_1 ∧ v5 = .int .i64 x5_1 ∧ Aside0 (laws_szStringS.l0 kq l0 x1_1 x5_1 = some r) ∧ Aside0 (kq ≤ k) ∧ Drawn0 w w')
    case atStart => exact ⟨(wrap64 (a1 - (l0.length : Int))), (0), (by first | rfl | (simp; done) | (simp [*]; done)), (by first | rfl | (simp; done) | (simp [*]; done)), H', ⟨Nat.le_refl _⟩, by repeat (first | exact Drawn0.refl _ | apply Drawn0.step)⟩
    case round =>
      clear H'; try clear p2
      try clear c3
      try clear c3b0
      obtain ⟨x1_1, x5_1, rfl, rfl, HA, HK1, ⟨m1, rfl⟩⟩ := hrel; cases gk with
      | zero => exact absurd HA.out (by simp [laws_szStringS.l0])
      | succ k1 =>
        have H := HA.out; clear HA; simp only [laws_szStringS.l0] at H; by_cases c4 : x5_1 < (l0.length : Int)
        · rw [if_pos c4] at H; have c4b0 : decide (x5_1 < (l0.length : Int)) = true := decide_eq_true c4; clear c4; by_cases c5 : 0 ≤ x5_1
          · rw [if_pos c5] at H; have c5b0 : decide (0 ≤ x5_1) = true := decide_eq_true c5; clear c5; by_cases c6 : (wrap64 (x1_1 - ((rdOf ByteArray.empty l0 x5_1).size : Int))) < 0
            · rw [if_pos c6] at H; have c6b0 : decide ((wrap64 (x1_1 - ((rdOf ByteArray.empty l0 x5_1).size : Int))) < 0) = true := decide_eq_true c6; clear c6; obtain rfl := Option.some.inj H; have p104 : 0 ≤ (x5_1 : Int) := of_decide_eq_true Da; have q104 : x5_1 < (l0.length : Int) := of_decide_eq_true Da; obtain ⟨ad104, e104, hx104_0⟩ := Kd.at_string HR0.out x5_1 p104 q104; cases e104
              replace p104 := eq_true p104; replace q104 := eq_true q104; go_wp2; go_ret; exact ⟨by first | rfl | (simp; done) | (simp [*]; done), by repeat (first | exact Drawn0.refl _ | apply Drawn0.step)⟩
            · rw [if_neg c6] at H; have c6b0 : decide ((wrap64 (x1_1 - ((rdOf ByteArray.empty l0 x5_1).size : Int))) < 0) = false := decide_eq_false c6; clear c6; have H' := Aside0.mk H; clear H; have p104 : 0 ≤ (x5_1 : Int) := of_decide_eq_true Da; have q104 : x5_1 < (l0.length : Int) := of_decide_eq_true Da; obtain ⟨ad104, e104, hx104_0⟩ := Kd.at_string HR0.out x5_1 p104 q104; cases e104
              replace p104 := eq_true p104; replace q104 := eq_true q104; go_wp2; go_roundg k1
              case measure => have := HK1.out; omega
              case rel => exact ⟨(wrap64 (x1_1 - ((rdOf ByteArray.empty l0 x5_1).size : Int))), (wrap64 (x5_1 + 1)), (by first | rfl | (simp; done) | (simp [*]; done)), (by first | rfl | (simp; done) | (simp [*]; done)), H', ⟨by have := HK1.out; omega⟩, by repeat (first | exact Drawn0.refl _ | apply Drawn0.step)⟩
          · rw [if_neg c5] at H; exact absurd H (by simp)
        · rw [if_neg c4] at H; have c4b0 : decide (x5_1 < (l0.length : Int)) = false := decide_eq_false c4; clear c4; obtain rfl := Option.some.inj H; go_wp2; go_ret; exact ⟨by first | rfl | (simp; done) | (simp [*]; done), by repeat (first | exact Drawn0.refl _ | apply Drawn0.step)⟩

set_option linter.unusedVariables false
set_option linter.unusedSimpArgs false

/-! ### laws_szAttr: function 64 -/
def laws_szAttr.f (k : Nat) (a0_0 : ByteArray) (l0_1 : List ByteArray) (a1 : Int) : Option (Int) := if (wrap64 (a1 - (a0_0.size : Int))) < 0 then (some (-1)) else ((laws_szStringS.f k l0_1 (wrap64 (a1 - (a0_0.size : Int)))).bind fun t106 => (if t106 < 0 then (some (-1)) else (some t106)))
theorem laws_szAttr.mono : ∀ a0 a1 a2 k, LeO (laws_szAttr.f k a0 a1 a2) (laws_szAttr.f (k + 1) a0 a1 a2) := by
  intro a0 a1 a2 k; unfold laws_szAttr.f; repeat' first
      | (with_reducible exact laws_szStringS.mono _ _ _)
      | (with_reducible exact LeO.refl _)
      | (with_reducible exact LeO.none _)
      | (with_reducible refine LeO.ite ?_ ?_)
      | (with_reducible refine LeO.bind ?_ (fun _ => ?_))
set_option maxHeartbeats 8000000 in
set_option maxRecDepth 100000 in
theorem laws_szAttr.calls (k : Nat) (a0_0 : ByteArray) (A0_1 : Option Addr) (c0_1 : Nat) (l0_1 : List ByteArray) (a1 : Int) (r : Int) (w : World) (hr0_1 : Kd.C Kd.string w A0_1 l0_1.length l0_1) (hc0_1 : l0_1.length ≤ c0_1) (h : laws_szAttr.f k a0_0 l0_1 a1 = some r) :
    Calls Tryd.prog 64 #[.agg #[.string a0_0, .slice A0_1 l0_1.length c0_1], .int .i64 a1] w fun e w' => e = .returned (.int .i64 r) ∧ Below w.heap.size w w' := by
  have hu98 := Tryd.underlying98; have HR0_1 := Aside0.mk hr0_1; have HC0_1 := Aside0.mk hc0_1; clear hr0_1 hc0_1; have HB := Aside0.mk (Below.refl w.heap.size w); have H : (if (wrap64 (a1 - (a0_0.size : Int))) < 0 then (some (-1)) else ((laws_szStringS.f k l0_1 (wrap64 (a1 - (a0_0.size : Int)))).bind fun t106 => (if t106 < 0 then (some (-1)) else (some t106)))) = some r := h; clear h; by_cases c3 : (wrap64 (a1 - (a0_0.size : Int))) < 0
  · rw [if_pos c3] at H; have c3b0 : decide ((wrap64 (a1 - (a0_0.size : Int))) < 0) = true := decide_eq_true c3; clear c3; obtain rfl := Option.some.inj H; go_enter Tryd.func64, Tryd.ntmps64; go_wp2_with (first | ((with_reducible refine gate_dst (N := 2) rfl ?_); refine box_event ?hg (N := 2) ?hd (cs := #[.string a0_0, .slice A0_1 l0_1.length c0_1]) (t := 98) ?hr ?_; (case hd => rfl); (case hg => rfl); (case hr => first | (go_simp; done) | (go_simp; rfl)); intro gb105 hg w4 hbox hb; have n_ := aa (below_step By hb) <| aa (hbox) <| aa ((by rw [hg]; exact (below_size By) : w.heap.size ≤ gb105)) <| Aside0.mk ((by rw [hg]; exact (below_size By) : w.heap.size ≤ gb105)); clear HB; obtain ⟨HB, BK105, GW105, GE105⟩ := n_; clear hb hbox hg; have ⟨hcz5_0, hcz5_1⟩ := cq2 BK105.out; have ⟨hfz5_0, hfz5_1⟩ := fq2 BK105.out)); go_ret; exact ⟨Rf, By⟩
  · rw [if_neg c3] at H; have c3b0 : decide ((wrap64 (a1 - (a0_0.size : Int))) < 0) = false := decide_eq_false c3; clear c3; replace H := Option.bind_eq_some_iff.mp H; obtain ⟨t106, A60, H⟩ := H; (try dsimp only at H); have A6 := Aside0.mk A60; clear A60; by_cases c7 : t106 < 0
    · rw [if_pos c7] at H; have c7b0 : decide (t106 < 0) = true := decide_eq_true c7; clear c7; obtain rfl := Option.some.inj H; go_enter Tryd.func64, Tryd.ntmps64; go_wp2_with (first | ((with_reducible refine gate_dst (N := 2) rfl ?_); refine box_event ?hg (N := 2) ?hd (cs := #[.string a0_0, .slice A0_1 l0_1.length c0_1]) (t := 98) ?hr ?_; (case hd => rfl); (case hg => rfl); (case hr => first | (go_simp; done) | (go_simp; rfl)); intro gb105 hg w8 hbox hb; have n_ := aa (below_step By hb) <| aa (hbox) <| aa ((by rw [hg]; exact (below_size By) : w.heap.size ≤ gb105)) <| Aside0.mk ((by rw [hg]; exact (below_size By) : w.heap.size ≤ gb105)); clear HB; obtain ⟨HB, BK105, GW105, GE105⟩ := n_; clear hb hbox hg; have ⟨hcz9_0, hcz9_1⟩ := cq2 BK105.out; have ⟨hfz9_0, hfz9_1⟩ := fq2 BK105.out) | ((with_reducible refine gate_callee (f := 91) rfl ?_); refine goesL_ (some 15) rfl rfl Tryd.func91 (by kernel_rfl) rfl #[.slice A0_1 l0_1.length c0_1, .int .i64 (wrap64 (a1 - (a0_0.size : Int)))] rfl Ag ?_; (with_reducible refine (laws_szStringS.calls k _ _ l0_1 (wrap64 (a1 - (a0_0.size : Int))) t106 _ ?side1 ?side2 A6.out).mono ?_); (case side1 => exact rC (Kd.C_below HR0_1.out HB.out)); (case side2 => exact HC0_1.out); rintro e w' ⟨rfl, ⟨nd, rfl⟩⟩; refine ⟨_, rfl, ?_⟩)); go_ret; exact ⟨Rf, By⟩
    · rw [if_neg c7] at H; have c7b0 : decide (t106 < 0) = false := decide_eq_false c7; clear c7; obtain rfl := Option.some.inj H; go_enter Tryd.func64, Tryd.ntmps64; go_wp2_with (first | ((with_reducible refine gate_dst (N := 2) rfl ?_); refine box_event ?hg (N := 2) ?hd (cs := #[.string a0_0, .slice A0_1 l0_1.length c0_1]) (t := 98) ?hr ?_; (case hd => rfl); (case hg => rfl); (case hr => first | (go_simp; done) | (go_simp; rfl)); intro gb105 hg w10 hbox hb; have n_ := aa (below_step By hb) <| aa (hbox) <| aa ((by rw [hg]; exact (below_size By) : w.heap.size ≤ gb105)) <| Aside0.mk ((by rw [hg]; exact (below_size By) : w.heap.size ≤ gb105)); clear HB; obtain ⟨HB, BK105, GW105, GE105⟩ := n_; clear hb hbox hg; have ⟨hcz11_0, hcz11_1⟩ := cq2 BK105.out; have ⟨hfz11_0, hfz11_1⟩ := fq2 BK105.out) | ((with_reducible refine gate_callee (f := 91) rfl ?_); refine goesL_ (some 15) rfl rfl Tryd.func91 (by kernel_rfl) rfl #[.slice A0_1 l0_1.length c0_1, .int .i64 (wrap64 (a1 - (a0_0.size : Int)))] rfl Ag ?_; (with_reducible refine (laws_szStringS.calls k _ _ l0_1 (wrap64 (a1 - (a0_0.size : Int))) t106 _ ?side1 ?side2 A6.out).mono ?_); (case side1 => exact rC (Kd.C_below HR0_1.out HB.out)); (case side2 => exact HC0_1.out); rintro e w' ⟨rfl, ⟨nd, rfl⟩⟩; refine ⟨_, rfl, ?_⟩)); go_ret; exact ⟨Rf, By⟩

set_option linter.unusedVariables false
set_option linter.unusedSimpArgs false

/-! ### laws_szAttrS: function 31 -/
def laws_szAttrS.l0 : Nat → List (S98) → Int → Int → Option (Int)
  | 0, _, _, _ => none
  | k + 1, x0, x1, x5 => if x5 < (x0.length : Int) then (if 0 ≤ x5 then ((laws_szAttr.f k ((rd_T98 x0 x5).f0) ((rd_T98 x0 x5).f1) x1).bind fun t108 => (if t108 < 0 then (some (-1)) else (laws_szAttrS.l0 k x0 t108 (wrap64 (x5 + 1))))) else (none)) else (some x1)
def laws_szAttrS.f (k : Nat) (l0 : List (S98)) (a1 : Int) : Option (Int) := if (wrap64 (a1 - (l0.length : Int))) < 0 then (some (-1)) else (laws_szAttrS.l0 k l0 (wrap64 (a1 - (l0.length : Int))) 0)
theorem laws_szAttrS.mono_l : ∀ k, (∀ y0 y1 y2, LeO (laws_szAttrS.l0 k y0 y1 y2) (laws_szAttrS.l0 (k + 1) y0 y1 y2))
  | 0 => fun _ _ _ r h => by simp [laws_szAttrS.l0] at h
  | k + 1 => by
    have ih0 := laws_szAttrS.mono_l k
    · intro y0 y1 y2; unfold laws_szAttrS.l0; repeat' first
      | (with_reducible exact ih0 _ _ _)
      | (with_reducible exact laws_szAttr.mono _ _ _ _)
      | (with_reducible exact LeO.refl _)
      | (with_reducible exact LeO.none _)
      | (with_reducible refine LeO.ite ?_ ?_)
      | (with_reducible refine LeO.bind ?_ (fun _ => ?_))
theorem laws_szAttrS.mono : ∀ a0 a1 k, LeO (laws_szAttrS.f k a0 a1) (laws_szAttrS.f (k + 1) a0 a1) := by
  intro a0 a1 k; have ih0 := laws_szAttrS.mono_l k; unfold laws_szAttrS.f; repeat' first
      | (with_reducible exact ih0 _ _ _)
      | (with_reducible exact laws_szAttr.mono _ _ _ _)
      | (with_reducible exact LeO.refl _)
      | (with_reducible exact LeO.none _)
      | (with_reducible refine LeO.ite ?_ ?_)
      | (with_reducible refine LeO.bind ?_ (fun _ => ?_))
set_option maxHeartbeats 8000000 in
set_option maxRecDepth 100000 in
theorem laws_szAttrS.calls (k : Nat) (A0 : Option Addr) (c0 : Nat) (l0 : List (S98)) (a1 : Int) (r : Int) (w : World) (hr0 : Kd.C k98 w A0 l0.length l0) (hc0 : l0.length ≤ c0) (h : laws_szAttrS.f k l0 a1 = some r) :
    Calls Tryd.prog 31 #[.slice A0 l0.length c0, .int .i64 a1] w fun e w' => e = .returned (.int .i64 r) ∧ Below w.heap.size w w' := by
  have hu98 := Tryd.underlying98; have HR0 := Aside0.mk hr0; have HC0 := Aside0.mk hc0; clear hr0 hc0; have HB := Aside0.mk (Below.refl w.heap.size w); have H : (if (wrap64 (a1 - (l0.length : Int))) < 0 then (some (-1)) else (laws_szAttrS.l0 k l0 (wrap64 (a1 - (l0.length : Int))) 0)) = some r := h; clear h; by_cases c3 : (wrap64 (a1 - (l0.length : Int))) < 0
  · rw [if_pos c3] at H; have c3b0 : decide ((wrap64 (a1 - (l0.length : Int))) < 0) = true := decide_eq_true c3; clear c3; obtain rfl := Option.some.inj H; go_enter Tryd.func31, Tryd.ntmps31; go_wp2; go_ret; exact ⟨Rf, By⟩
  · rw [if_neg c3] at H; have c3b0 : decide ((wrap64 (a1 - (l0.length : Int))) < 0) = false := decide_eq_false c3; clear c3; have H' := Aside0.mk H; clear H; go_enter Tryd.func31, Tryd.ntmps31; go_wp2; go_loopg [1, 5] k (fun kq v1 v5 w' => ∃ (x1_1 : Int) (x5_1 : Int), v1 = .int .i64 x1_1 ∧ v5 = .int .i64 x5_1 ∧ Aside0 (laws_szAttrS.l0 kq l0 x1_1 x5_1 = some r) ∧ Aside0 (kq ≤ k) ∧ Aside0 (Below w.heap.size w w'))
    case atStart => exact ⟨(wrap64 (a1 - (l0.length : Int))), (0), (by first | rfl | (simp; done) | (simp [*]; done)), (by first | rfl | (simp; done) | (simp [*]; done)), H', ⟨Nat.le_refl _⟩, ⟨By⟩⟩
    case round =>
      clear H'; try clear p2
      try clear c3
      try clear c3b0
      obtain ⟨x1_1, x5_1, rfl, rfl, HA, HK1, HB⟩ := hrel; cases gk with
      | zero => exact absurd HA.out (by simp [laws_szAttrS.l0])
      | succ k1 =>
        have H := HA.out; clear HA; simp only [laws_szAttrS.l0] at H; by_cases c4 : x5_1 < (l0.length : Int)
        · rw [if_pos c4] at H; have c4b0 : decide (x5_1 < (l0.length : Int)) = true := decide_eq_true c4; clear c4; by_cases c5 : 0 ≤ x5_1
          · rw [if_pos c5] at H; have c5b0 : decide (0 ≤ x5_1) = true := decide_eq_true c5; clear c5; replace H := Option.bind_eq_some_iff.mp H; obtain ⟨t108, A60, H⟩ := H; (try dsimp only at H); have A6 := Aside0.mk A60; clear A60; by_cases c7 : t108 < 0
            · rw [if_pos c7] at H; have c7b0 : decide (t108 < 0) = true := decide_eq_true c7; clear c7; obtain rfl := Option.some.inj H; have p107 : 0 ≤ (x5_1 : Int) := of_decide_eq_true Da; have q107 : x5_1 < (l0.length : Int) := of_decide_eq_true Da; obtain ⟨ad107, A107_1, c107_1, e107, hx107_0, hx107_1, hl107_1, hi107_1⟩ := at_T98 HR0.out x5_1 p107 q107; cases e107
              replace hx107_0 := bz HB.out hx107_0; replace hx107_1 := bz HB.out hx107_1; have HR107_1 := Aside0.mk hi107_1; have HC107_1 := Aside0.mk hl107_1; clear hi107_1 hl107_1; replace p107 := eq_true p107; replace q107 := eq_true q107; go_wp2_with (first | ((with_reducible refine gate_callee (f := 64) rfl ?_); refine goesL_ (some 23) rfl rfl Tryd.func64 (by kernel_rfl) rfl #[.agg #[.string ((rd_T98 l0 x5_1).f0), .slice A107_1 ((rd_T98 l0 x5_1).f1).length c107_1], .int .i64 x1_1] rfl Ag ?_; (with_reducible refine (laws_szAttr.calls k1 ((rd_T98 l0 x5_1).f0) _ _ ((rd_T98 l0 x5_1).f1) x1_1 t108 _ ?side1 ?side2 A6.out).mono ?_); (case side1 => exact rC (Kd.C_below HR107_1.out HB.out)); (case side2 => exact HC107_1.out); rintro e w8 ⟨rfl, hb⟩; refine ⟨_, rfl, ?_⟩; have n0_ := Aside0.mk (below_step By hb); clear HB; have HB := n0_; clear n0_; (try clear hb); (try clear hb2); (try clear hk); (try clear hi))); go_ret; exact ⟨Rf, By⟩
            · rw [if_neg c7] at H; have c7b0 : decide (t108 < 0) = false := decide_eq_false c7; clear c7; have H' := Aside0.mk H; clear H; have p107 : 0 ≤ (x5_1 : Int) := of_decide_eq_true Da; have q107 : x5_1 < (l0.length : Int) := of_decide_eq_true Da; obtain ⟨ad107, A107_1, c107_1, e107, hx107_0, hx107_1, hl107_1, hi107_1⟩ := at_T98 HR0.out x5_1 p107 q107; cases e107
              replace hx107_0 := bz HB.out hx107_0; replace hx107_1 := bz HB.out hx107_1; have HR107_1 := Aside0.mk hi107_1; have HC107_1 := Aside0.mk hl107_1; clear hi107_1 hl107_1; replace p107 := eq_true p107; replace q107 := eq_true q107; go_wp2_with (first | ((with_reducible refine gate_callee (f := 64) rfl ?_); refine goesL_ (some 23) rfl rfl Tryd.func64 (by kernel_rfl) rfl #[.agg #[.string ((rd_T98 l0 x5_1).f0), .slice A107_1 ((rd_T98 l0 x5_1).f1).length c107_1], .int .i64 x1_1] rfl Ag ?_; (with_reducible refine (laws_szAttr.calls k1 ((rd_T98 l0 x5_1).f0) _ _ ((rd_T98 l0 x5_1).f1) x1_1 t108 _ ?side1 ?side2 A6.out).mono ?_); (case side1 => exact rC (Kd.C_below HR107_1.out HB.out)); (case side2 => exact HC107_1.out); rintro e w9 ⟨rfl, hb⟩; refine ⟨_, rfl, ?_⟩; have n0_ := Aside0.mk (below_step By hb); clear HB; have HB := n0_; clear n0_; (try clear hb); (try clear hb2); (try clear hk); (try clear hi))); go_roundg k1
              case measure => have := HK1.out; omega
              case rel => exact ⟨(t108), (wrap64 (x5_1 + 1)), (by first | rfl | (simp; done) | (simp [*]; done)), (by first | rfl | (simp; done) | (simp [*]; done)), H', ⟨by have := HK1.out; omega⟩, ⟨By⟩⟩
          · rw [if_neg c5] at H; exact absurd H (by simp)
        · rw [if_neg c4] at H; have c4b0 : decide (x5_1 < (l0.length : Int)) = false := decide_eq_false c4; clear c4; obtain rfl := Option.some.inj H; go_wp2; go_ret; exact ⟨Rf, By⟩

set_option linter.unusedVariables false
set_option linter.unusedSimpArgs false

/-! ### laws_szEntry: function 6 -/
def laws_szEntry.f (k : Nat) (l0_0 : List (S95)) (l0_1 : List (S98)) (a1 : Int) : Option (Int) := (laws_szRdnS.f k l0_0 a1).bind fun t110 => (if t110 < 0 then (some (-1)) else ((laws_szAttrS.f k l0_1 t110).bind fun t111 => (if t111 < 0 then (some (-1)) else (some t111))))
theorem laws_szEntry.mono : ∀ a0 a1 a2 k, LeO (laws_szEntry.f k a0 a1 a2) (laws_szEntry.f (k + 1) a0 a1 a2) := by
  intro a0 a1 a2 k; unfold laws_szEntry.f; repeat' first
      | (with_reducible exact laws_szAttrS.mono _ _ _)
      | (with_reducible exact laws_szRdnS.mono _ _ _)
      | (with_reducible exact LeO.refl _)
      | (with_reducible exact LeO.none _)
      | (with_reducible refine LeO.ite ?_ ?_)
      | (with_reducible refine LeO.bind ?_ (fun _ => ?_))
set_option maxHeartbeats 8000000 in
set_option maxRecDepth 100000 in
theorem laws_szEntry.calls (k : Nat) (A0_0 : Option Addr) (c0_0 : Nat) (l0_0 : List (S95)) (A0_1 : Option Addr) (c0_1 : Nat) (l0_1 : List (S98)) (a1 : Int) (r : Int) (w : World) (hr0_0 : Kd.C k95 w A0_0 l0_0.length l0_0) (hc0_0 : l0_0.length ≤ c0_0) (hr0_1 : Kd.C k98 w A0_1 l0_1.length l0_1) (hc0_1 : l0_1.length ≤ c0_1) (h : laws_szEntry.f k l0_0 l0_1 a1 = some r) :
    Calls Tryd.prog 6 #[.agg #[.slice A0_0 l0_0.length c0_0, .slice A0_1 l0_1.length c0_1], .int .i64 a1] w fun e w' => e = .returned (.int .i64 r) ∧ Below w.heap.size w w' := by
  have hu25 := Tryd.underlying25; have HR0_0 := Aside0.mk hr0_0; have HC0_0 := Aside0.mk hc0_0; clear hr0_0 hc0_0; have HR0_1 := Aside0.mk hr0_1; have HC0_1 := Aside0.mk hc0_1; clear hr0_1 hc0_1; have HB := Aside0.mk (Below.refl w.heap.size w); have H : ((laws_szRdnS.f k l0_0 a1).bind fun t110 => (if t110 < 0 then (some (-1)) else ((laws_szAttrS.f k l0_1 t110).bind fun t111 => (if t111 < 0 then (some (-1)) else (some t111))))) = some r := h; clear h; replace H := Option.bind_eq_some_iff.mp H; obtain ⟨t110, A30, H⟩ := H; (try dsimp only at H); have A3 := Aside0.mk A30; clear A30; by_cases c4 : t110 < 0
  · rw [if_pos c4] at H; have c4b0 : decide (t110 < 0) = true := decide_eq_true c4; clear c4; obtain rfl := Option.some.inj H; go_enter Tryd.func6, Tryd.ntmps6; go_wp2_with (first | ((with_reducible refine gate_dst (N := 2) rfl ?_); refine box_event ?hg (N := 2) ?hd (cs := #[.slice A0_0 l0_0.length c0_0, .slice A0_1 l0_1.length c0_1]) (t := 25) ?hr ?_; (case hd => rfl); (case hg => rfl); (case hr => first | (go_simp; done) | (go_simp; rfl)); intro gb109 hg w5 hbox hb; have n_ := aa (below_step By hb) <| aa (hbox) <| aa ((by rw [hg]; exact (below_size By) : w.heap.size ≤ gb109)) <| Aside0.mk ((by rw [hg]; exact (below_size By) : w.heap.size ≤ gb109)); clear HB; obtain ⟨HB, BK109, GW109, GE109⟩ := n_; clear hb hbox hg; have ⟨hcz6_0, hcz6_1⟩ := cq2 BK109.out; have ⟨hfz6_0, hfz6_1⟩ := fq2 BK109.out) | ((with_reducible refine gate_callee (f := 30) rfl ?_); refine goesL_ (some 8) rfl rfl Tryd.func30 (by kernel_rfl) rfl #[.slice A0_0 l0_0.length c0_0, .int .i64 a1] rfl Ag ?_; (with_reducible refine (laws_szRdnS.calls k _ _ l0_0 a1 t110 _ ?side1 ?side2 A3.out).mono ?_); (case side1 => exact rC (Kd.C_below HR0_0.out HB.out)); (case side2 => exact HC0_0.out); rintro e w7 ⟨rfl, hb⟩; refine ⟨_, rfl, ?_⟩; have n_ := aa (bb BK109.out hb) <| Aside0.mk (below_step By hb); clear BK109 HB; obtain ⟨BK109, HB⟩ := n_; (try clear hb); (try clear hb2); (try clear hk); (try clear hi))); go_ret; exact ⟨Rf, By⟩
  · rw [if_neg c4] at H; have c4b0 : decide (t110 < 0) = false := decide_eq_false c4; clear c4; replace H := Option.bind_eq_some_iff.mp H; obtain ⟨t111, A80, H⟩ := H; (try dsimp only at H); have A8 := Aside0.mk A80; clear A80; by_cases c9 : t111 < 0
    · rw [if_pos c9] at H; have c9b0 : decide (t111 < 0) = true := decide_eq_true c9; clear c9; obtain rfl := Option.some.inj H; go_enter Tryd.func6, Tryd.ntmps6; go_wp2_with (first | ((with_reducible refine gate_dst (N := 2) rfl ?_); refine box_event ?hg (N := 2) ?hd (cs := #[.slice A0_0 l0_0.length c0_0, .slice A0_1 l0_1.length c0_1]) (t := 25) ?hr ?_; (case hd => rfl); (case hg => rfl); (case hr => first | (go_simp; done) | (go_simp; rfl)); intro gb109 hg w10 hbox hb; have n_ := aa (below_step By hb) <| aa (hbox) <| aa ((by rw [hg]; exact (below_size By) : w.heap.size ≤ gb109)) <| Aside0.mk ((by rw [hg]; exact (below_size By) : w.heap.size ≤ gb109)); clear HB; obtain ⟨HB, BK109, GW109, GE109⟩ := n_; clear hb hbox hg; have ⟨hcz11_0, hcz11_1⟩ := cq2 BK109.out; have ⟨hfz11_0, hfz11_1⟩ := fq2 BK109.out) | ((with_reducible refine gate_callee (f := 30) rfl ?_); refine goesL_ (some 8) rfl rfl Tryd.func30 (by kernel_rfl) rfl #[.slice A0_0 l0_0.length c0_0, .int .i64 a1] rfl Ag ?_; (with_reducible refine (laws_szRdnS.calls k _ _ l0_0 a1 t110 _ ?side1 ?side2 A3.out).mono ?_); (case side1 => exact rC (Kd.C_below HR0_0.out HB.out)); (case side2 => exact HC0_0.out); rintro e w12 ⟨rfl, hb⟩; refine ⟨_, rfl, ?_⟩; have n_ := aa (bb BK109.out hb) <| Aside0.mk (below_step By hb); clear BK109 HB; obtain ⟨BK109, HB⟩ := n_; (try clear hb); (try clear hb2); (try clear hk); (try clear hi); have ⟨hcz13_0, hcz13_1⟩ := cq2 BK109.out; have ⟨hfz13_0, hfz13_1⟩ := fq2 BK109.out) | ((with_reducible refine gate_callee (f := 31) rfl ?_); refine goesL_ (some 14) rfl rfl Tryd.func31 (by kernel_rfl) rfl #[.slice A0_1 l0_1.length c0_1, .int .i64 t110] rfl Ag ?_; (with_reducible refine (laws_szAttrS.calls k _ _ l0_1 t110 t111 _ ?side1 ?side2 A8.out).mono ?_); (case side1 => exact rC (Kd.C_below HR0_1.out HB.out)); (case side2 => exact HC0_1.out); rintro e w14 ⟨rfl, hb⟩; refine ⟨_, rfl, ?_⟩; have n_ := aa (bb BK109.out hb) <| Aside0.mk (below_step By hb); clear BK109 HB; obtain ⟨BK109, HB⟩ := n_; (try clear hb); (try clear hb2); (try clear hk); (try clear hi))); go_ret; exact ⟨Rf, By⟩
    · rw [if_neg c9] at H; have c9b0 : decide (t111 < 0) = false := decide_eq_false c9; clear c9; obtain rfl := Option.some.inj H; go_enter Tryd.func6, Tryd.ntmps6; go_wp2_with (first | ((with_reducible refine gate_dst (N := 2) rfl ?_); refine box_event ?hg (N := 2) ?hd (cs := #[.slice A0_0 l0_0.length c0_0, .slice A0_1 l0_1.length c0_1]) (t := 25) ?hr ?_; (case hd => rfl); (case hg => rfl); (case hr => first | (go_simp; done) | (go_simp; rfl)); intro gb109 hg w15 hbox hb; have n_ := aa (below_step By hb) <| aa (hbox) <| aa ((by rw [hg]; exact (below_size By) : w.heap.size ≤ gb109)) <| Aside0.mk ((by rw [hg]; exact (below_size By) : w.heap.size ≤ gb109)); clear HB; obtain ⟨HB, BK109, GW109, GE109⟩ := n_; clear hb hbox hg; have ⟨hcz16_0, hcz16_1⟩ := cq2 BK109.out; have ⟨hfz16_0, hfz16_1⟩ := fq2 BK109.out) | ((with_reducible refine gate_callee (f := 30) rfl ?_); refine goesL_ (some 8) rfl rfl Tryd.func30 (by kernel_rfl) rfl #[.slice A0_0 l0_0.length c0_0, .int .i64 a1] rfl Ag ?_; (with_reducible refine (laws_szRdnS.calls k _ _ l0_0 a1 t110 _ ?side1 ?side2 A3.out).mono ?_); (case side1 => exact rC (Kd.C_below HR0_0.out HB.out)); (case side2 => exact HC0_0.out); rintro e w17 ⟨rfl, hb⟩; refine ⟨_, rfl, ?_⟩; have n_ := aa (bb BK109.out hb) <| Aside0.mk (below_step By hb); clear BK109 HB; obtain ⟨BK109, HB⟩ := n_; (try clear hb); (try clear hb2); (try clear hk); (try clear hi); have ⟨hcz18_0, hcz18_1⟩ := cq2 BK109.out; have ⟨hfz18_0, hfz18_1⟩ := fq2 BK109.out) | ((with_reducible refine gate_callee (f := 31) rfl ?_); refine goesL_ (some 14) rfl rfl Tryd.func31 (by kernel_rfl) rfl #[.slice A0_1 l0_1.length c0_1, .int .i64 t110] rfl Ag ?_; (with_reducible refine (laws_szAttrS.calls k _ _ l0_1 t110 t111 _ ?side1 ?side2 A8.out).mono ?_); (case side1 => exact rC (Kd.C_below HR0_1.out HB.out)); (case side2 => exact HC0_1.out); rintro e w19 ⟨rfl, hb⟩; refine ⟨_, rfl, ?_⟩; have n_ := aa (bb BK109.out hb) <| Aside0.mk (below_step By hb); clear BK109 HB; obtain ⟨BK109, HB⟩ := n_; (try clear hb); (try clear hb2); (try clear hk); (try clear hi))); go_ret; exact ⟨Rf, By⟩

set_option linter.unusedVariables false
set_option linter.unusedSimpArgs false

/-! ### laws_toRdn: function 68 -/
def laws_toRdn.f (a0_0 : ByteArray) (a0_1 : ByteArray) : Option (ByteArray × ByteArray) := some (a0_0, a0_1)
set_option maxHeartbeats 8000000 in
set_option maxRecDepth 100000 in
theorem laws_toRdn.calls (a0_0 : ByteArray) (a0_1 : ByteArray) (r1 : ByteArray) (r2 : ByteArray) (w : World) (h : laws_toRdn.f a0_0 a0_1 = some (r1, r2)) :
    Calls Tryd.prog 68 #[.agg #[.string a0_0, .string a0_1]] w fun e w' => e = .returned (.agg #[.string r1, .string r2]) ∧ Below w.heap.size w w' := by
  have hu95 := Tryd.underlying95; have hu103 := Tryd.underlying103; have HB := Aside0.mk (Below.refl w.heap.size w); have H : (some (a0_0, a0_1)) = some (r1, r2) := h; clear h; simp only [Option.some.injEq, Prod.mk.injEq] at H; obtain ⟨rfl, rfl⟩ := H; go_enter Tryd.func68, Tryd.ntmps68; go_wp2_with (first | ((with_reducible refine gate_dst (N := 1) rfl ?_); refine box_event ?hg (N := 1) ?hd (cs := #[.string a0_0, .string a0_1]) (t := 95) ?hr ?_; (case hd => rfl); (case hg => rfl); (case hr => first | (go_simp; done) | (go_simp; rfl)); intro gb178 hg w2 hbox hb; have n_ := aa (below_step By hb) <| aa (hbox) <| aa ((by rw [hg]; exact (below_size By) : w.heap.size ≤ gb178)) <| Aside0.mk ((by rw [hg]; exact (below_size By) : w.heap.size ≤ gb178)); clear HB; obtain ⟨HB, BK178, GW178, GE178⟩ := n_; clear hb hbox hg) | ((with_reducible refine gate_dst (N := 2) rfl ?_); refine box_event ?hg (N := 2) ?hd (cs := #[.string (⟨#[]⟩ : ByteArray), .string (⟨#[]⟩ : ByteArray)]) (t := 103) ?hr ?_; (case hd => rfl); (case hg => rfl); (case hr => first | (go_simp; done) | (go_simp; rfl)); intro gb179 hg w3 hbox hb; have n_ := aa (bb BK178.out hb) <| aa (below_step By hb) <| aa (hbox) <| aa ((by rw [hg]; exact (below_size By) : w.heap.size ≤ gb179)) <| aa ((by rw [hg]; exact (below_size By) : w.heap.size ≤ gb179)) <| aa ((by rw [hg]; exact Nat.ne_of_lt (bl BK178.out) : gb178 ≠ gb179)) <| Aside0.mk ((by rw [hg]; exact Nat.ne_of_gt (bl BK178.out) : gb179 ≠ gb178)); clear BK178 HB; obtain ⟨BK178, HB, BK179, GW179, GE179, NB178_179, NB179_178⟩ := n_; clear hb hbox hg) | ((with_reducible refine gate_dst (N := 3) rfl ?_); refine box_event ?hg (N := 3) ?hd (cs := #[.string (⟨#[]⟩ : ByteArray), .string (⟨#[]⟩ : ByteArray)]) (t := 103) ?hr ?_; (case hd => rfl); (case hg => rfl); (case hr => first | (go_simp; done) | (go_simp; rfl)); intro gb180 hg w4 hbox hb; have n_ := aa (bb BK178.out hb) <| aa (bb BK179.out hb) <| aa (below_step By hb) <| aa (hbox) <| aa ((by rw [hg]; exact (below_size By) : w.heap.size ≤ gb180)) <| aa ((by rw [hg]; exact (below_size By) : w.heap.size ≤ gb180)) <| aa ((by rw [hg]; exact Nat.ne_of_lt (bl BK178.out) : gb178 ≠ gb180)) <| aa ((by rw [hg]; exact Nat.ne_of_gt (bl BK178.out) : gb180 ≠ gb178)) <| aa ((by rw [hg]; exact Nat.ne_of_lt (bl BK179.out) : gb179 ≠ gb180)) <| Aside0.mk ((by rw [hg]; exact Nat.ne_of_gt (bl BK179.out) : gb180 ≠ gb179)); clear BK178 BK179 HB; obtain ⟨BK178, BK179, HB, BK180, GW180, GE180, NB178_180, NB180_178, NB179_180, NB180_179⟩ := n_; clear hb hbox hg; have hnb5 := NB178_179.out; have hnc5 := NB179_178.out; have hnb6 := NB178_180.out; have hnc6 := NB180_178.out; have ⟨hcz7_0, hcz7_1⟩ := cq2 BK178.out; have ⟨hfz7_0, hfz7_1⟩ := fq2 BK178.out; have hnb8 := NB180_179.out; have hnc8 := NB179_180.out; have ⟨hcz9_0, hcz9_1⟩ := cq2 BK180.out; have ⟨hfz9_0, hfz9_1⟩ := fq2 BK180.out; have ⟨hcz10_0, hcz10_1⟩ := cq2 BK179.out; have ⟨hfz10_0, hfz10_1⟩ := fq2 BK179.out)); refine bodyPost_ret (results_cell_row rfl _ _ gb179 103 #[.string a0_0, .string a0_1] (0, 0) _ rfl (by (with_reducible repeat (first | refine blk_drewN ?_ _ | refine blk_drew ?_ | refine blk_alloc ?_ _)); refine blk_put (cs := #[.string a0_0, .string (⟨#[]⟩ : ByteArray)]) ?_ 1 _ rfl; (with_reducible repeat (first | refine blk_drewN ?_ _ | refine blk_drew ?_ | refine blk_alloc ?_ _)); refine blk_put (cs := #[.string (⟨#[]⟩ : ByteArray), .string (⟨#[]⟩ : ByteArray)]) ?_ 0 _ rfl; (with_reducible repeat (first | refine blk_drewN ?_ _ | refine blk_drew ?_ | refine blk_alloc ?_ _)); refine blk_far ?_ NB179_180.out _; (with_reducible repeat (first | refine blk_drewN ?_ _ | refine blk_drew ?_ | refine blk_alloc ?_ _)); refine blk_far ?_ NB179_180.out _; (with_reducible repeat (first | refine blk_drewN ?_ _ | refine blk_drew ?_ | refine blk_alloc ?_ _)); exact BK179.out) Tryd.underlying103 rfl (by kernel_rfl)) rfl ?_; exact ⟨Rf, By⟩

set_option linter.unusedVariables false
set_option linter.unusedSimpArgs false

/-! ### laws_toRdnS: function 34 -/
def laws_toRdnS.l0 : Nat → List (S95) → List (S103) → Int → Option ((List (S103)))
  | 0, _, _, _ => none
  | k + 1, x0, x3, x4 => if x4 < (x0.length : Int) then (if 0 ≤ x4 then ((laws_toRdn.f ((rd_T95 x0 x4).f0) ((rd_T95 x0 x4).f1)).bind fun bt185 => (if x4 < (x3.length : Int) then (laws_toRdnS.l0 k x0 (x3.set (x4 : Int).toNat (⟨bt185.1, bt185.2⟩ : S103)) (wrap64 (x4 + 1))) else (none))) else (none)) else (some x3)
def laws_toRdnS.f (k : Nat) (l0 : List (S95)) : Option ((List (S103))) := if 0 ≤ (l0.length : Int) then (if ((l0.length : Int) : Int).toNat ≤ 8796093022208 then (laws_toRdnS.l0 k l0 (List.replicate ((l0.length : Int) : Int).toNat z103) 0) else (none)) else (none)
theorem laws_toRdnS.mono_l : ∀ k, (∀ y0 y1 y2, LeO (laws_toRdnS.l0 k y0 y1 y2) (laws_toRdnS.l0 (k + 1) y0 y1 y2))
  | 0 => fun _ _ _ r h => by simp [laws_toRdnS.l0] at h
  | k + 1 => by
    have ih0 := laws_toRdnS.mono_l k
    · intro y0 y1 y2; unfold laws_toRdnS.l0; repeat' first
      | (with_reducible exact ih0 _ _ _)
      | (with_reducible exact LeO.refl _)
      | (with_reducible exact LeO.none _)
      | (with_reducible refine LeO.ite ?_ ?_)
      | (with_reducible refine LeO.bind ?_ (fun _ => ?_))
theorem laws_toRdnS.mono : ∀ a0 k, LeO (laws_toRdnS.f k a0) (laws_toRdnS.f (k + 1) a0) := by
  intro a0 k; have ih0 := laws_toRdnS.mono_l k; unfold laws_toRdnS.f; repeat' first
      | (with_reducible exact ih0 _ _ _)
      | (with_reducible exact LeO.refl _)
      | (with_reducible exact LeO.none _)
      | (with_reducible refine LeO.ite ?_ ?_)
      | (with_reducible refine LeO.bind ?_ (fun _ => ?_))
set_option maxHeartbeats 8000000 in
set_option maxRecDepth 100000 in
theorem laws_toRdnS.calls (k : Nat) (A0 : Option Addr) (c0 : Nat) (l0 : List (S95)) (r : List (S103)) (w : World) (hr0 : Kd.C k95 w A0 l0.length l0) (hc0 : l0.length ≤ c0) (h : laws_toRdnS.f k l0 = some r) :
    Calls Tryd.prog 34 #[.slice A0 l0.length c0] w fun e w' => ∃ v0_ : Value, e = .returned (v0_) ∧ Kd.R k103 103 w' w.heap.size (fun _ => True) v0_ r ∧ Below w.heap.size w w' := by
  have hu95 := Tryd.underlying95; have hu103 := Tryd.underlying103; have HR0 := Aside0.mk hr0; have HC0 := Aside0.mk hc0; clear hr0 hc0; have HB := Aside0.mk (Below.refl w.heap.size w); have H : (if 0 ≤ (l0.length : Int) then (if ((l0.length : Int) : Int).toNat ≤ 8796093022208 then (laws_toRdnS.l0 k l0 (List.replicate ((l0.length : Int) : Int).toNat z103) 0) else (none)) else (none)) = some r := h; clear h; by_cases c2 : 0 ≤ (l0.length : Int)
  · rw [if_pos c2] at H; have c2b0 := eq_true c2; have c2b1 : decide (0 ≤ (l0.length : Int)) = true := decide_eq_true c2; clear c2; by_cases c3 : ((l0.length : Int) : Int).toNat ≤ 8796093022208
    · rw [if_pos c3] at H; have c3b0 := eq_true c3; have c3b1 : decide (((l0.length : Int) : Int).toNat ≤ 8796093022208) = true := decide_eq_true c3; clear c3; obtain ⟨y181, hy181⟩ : ∃ y_ : List (S103), y_ = (List.replicate ((l0.length : Int) : Int).toNat z103) := ⟨_, rfl⟩; replace H : (laws_toRdnS.l0 k l0 y181 0) = some r := by first | (rw [hy181]; with_reducible exact H) | (have H2_ := (Option.bind_some _ _).symm.trans H; rw [hy181]; with_reducible exact H2_) | (have H2_ := (Option.bind_some _ _).symm.trans H; with_reducible exact H2_) | with_reducible exact H | (rw [hy181]; exact H) | exact H
      have Ny181 := Aside0.mk hy181; clear hy181; have H' := Aside0.mk H; clear H; go_enter Tryd.func34, Tryd.ntmps34; go_wp2_with (first | ((with_reducible refine gate_dst (N := 7) rfl ?_); refine Kd.R_make k103 _ 103 rfl (N := 7) rfl 29 _ _ rfl (l0.length : Int) rfl rfl Tryd.underlying29 (.agg #[(.string ⟨#[]⟩), (.string ⟨#[]⟩)]) 32 info103 rfl (by decide) (by omega) z103 (ok := fun _ => True) (okp := fun _ => True) (k103_mkM _ _ _ z103 ) (fun _ hk => hk) trivial (of_decide_eq_true Da) (Nat.le_trans (Nat.mul_le_mul_right _ (of_decide_eq_true Da : (l0.length : Int).toNat ≤ 8796093022208)) (by omega)) (Below.refl _ _) (Nat.le_refl _) ?_; intro v182 w4 ho5 hb hg_ hnew_; clear hg_ hnew_; (first | rw [← Ny181.out] at ho5 | (simp only [Int.reduceToNat] at ho5; rw [← Ny181.out] at ho5)); have n_ := aa (Kd.R_lower ho5 (below_size By)) <| Aside0.mk (below_step By hb); clear HB; obtain ⟨HO183, HB⟩ := n_; clear hb ho5)); go_loopg [4] k (fun kq v4 w' => ∃ (x3_1 : List (S103)) (x4_1 : Int), v4 = .int .i64 x4_1 ∧ Aside0 (laws_toRdnS.l0 kq l0 x3_1 x4_1 = some r) ∧ Aside0 (kq ≤ k) ∧ Aside0 (Kd.R k103 103 w' w.heap.size (fun _ => True) v182 x3_1) ∧ Aside0 (Below w.heap.size w w'))
      case atStart => exact ⟨(y181), (0), (by first | rfl | (simp; done) | (simp [*]; done)), H', ⟨Nat.le_refl _⟩, ⟨by (with_reducible repeat (first | apply Kd.R_alloc | apply Kd.R_drewN | apply Kd.R_drew)); exact HO183.out⟩, ⟨By⟩⟩
      case round =>
        clear H'; try clear c2
        try clear c2b0
        try clear c2b1
        try clear p2
        try clear c3
        try clear c3b0
        try clear c3b1
        obtain ⟨x3_1, x4_1, rfl, HA, HK1, HO_3, HB⟩ := hrel; cases gk with
        | zero => exact absurd HA.out (by simp [laws_toRdnS.l0])
        | succ k1 =>
          have H := HA.out; clear HA; simp only [laws_toRdnS.l0] at H; by_cases c6 : x4_1 < (l0.length : Int)
          · rw [if_pos c6] at H; have c6b0 : decide (x4_1 < (l0.length : Int)) = true := decide_eq_true c6; clear c6; by_cases c7 : 0 ≤ x4_1
            · rw [if_pos c7] at H; have c7b0 : decide (0 ≤ x4_1) = true := decide_eq_true c7; clear c7; replace H := Option.bind_eq_some_iff.mp H; obtain ⟨⟨t185, t186⟩, A80, H⟩ := H; (try dsimp only at H); have A8 := Aside0.mk A80; clear A80; by_cases c9 : x4_1 < (x3_1.length : Int)
              · rw [if_pos c9] at H; have c9b0 : decide (x4_1 < (x3_1.length : Int)) = true := decide_eq_true c9; clear c9; obtain ⟨y187, hy187⟩ : ∃ y_ : List (S103), y_ = (x3_1.set (x4_1 : Int).toNat (⟨t185, t186⟩ : S103)) := ⟨_, rfl⟩; replace H : (laws_toRdnS.l0 k1 l0 y187 (wrap64 (x4_1 + 1))) = some r := by first | (rw [hy187]; with_reducible exact H) | (have H2_ := (Option.bind_some _ _).symm.trans H; rw [hy187]; with_reducible exact H2_) | (have H2_ := (Option.bind_some _ _).symm.trans H; with_reducible exact H2_) | with_reducible exact H | (rw [hy187]; exact H) | exact H
                have Ny187 := Aside0.mk hy187; clear hy187; have H' := Aside0.mk H; clear H; have p184 : 0 ≤ (x4_1 : Int) := of_decide_eq_true Da; have q184 : x4_1 < (l0.length : Int) := of_decide_eq_true Da; obtain ⟨ad184, e184, hx184_0, hx184_1⟩ := at_T95 HR0.out x4_1 p184 q184; cases e184
                replace hx184_0 := bz HB.out hx184_0; replace hx184_1 := bz HB.out hx184_1; replace p184 := eq_true p184; replace q184 := eq_true q184; go_wp2_with (first | ((with_reducible refine gate_callee (f := 68) rfl ?_); refine goesL_ (some 20) rfl rfl Tryd.func68 (by kernel_rfl) rfl #[.agg #[.string ((rd_T95 l0 x4_1).f0), .string ((rd_T95 l0 x4_1).f1)]] rfl Ag ?_; (with_reducible refine (laws_toRdn.calls ((rd_T95 l0 x4_1).f0) ((rd_T95 l0 x4_1).f1) t185 t186 _ A8.out).mono ?_); rintro e w11 ⟨rfl, hb⟩; refine ⟨_, rfl, ?_⟩; have n_ := aa (Kd.R_below (rR HO_3.out) hb) <| Aside0.mk (below_step By hb); clear HO_3 HB; obtain ⟨HO_3, HB⟩ := n_; (try clear hb); (try clear hb2); (try clear hk); (try clear hi); have p10 : 0 ≤ (x4_1 : Int) := of_decide_eq_true Da; have q10 : (x4_1 : Int) < ((x3_1.length : Int) : Int) := of_decide_eq_true Da; obtain ⟨go10, co10, eo10, gb10, gl10, cl10, HG10⟩ := Kd.R_form HO_3.out (by omega); (first | cases eo10 | (injection eo10 with ea_ en_ ec_; (first | subst ea_ | (injection ea_ with ea_; subst ea_)); subst ec_; clear en_)); have GB10 := Aside0.mk gb10; have GG10 := Aside0.mk HG10; clear gb10 gl10 HG10; obtain ⟨ce10, hcl10, hM10, hcc10, hfr10⟩ := Kd.R_elem HO_3.out z103 (x4_1 : Int) p10 q10; obtain rfl := k103_openM hM10; have hx10_0 : w11.cell? ⟨go10, (x4_1 : Int).toNat * 2, none⟩ = some (.string ((rd_T103 x3_1 x4_1).f0)) := hcc10 0 _ rfl; have hx10_1 : w11.cell? ⟨go10, (x4_1 : Int).toNat * 2 + 1, none⟩ = some (.string ((rd_T103 x3_1 x4_1).f1)) := hcc10 1 _ rfl; have hf10_0 : w11.frozen? ⟨go10, (x4_1 : Int).toNat * 2, none⟩ = false := hfr10 0; have hf10_1 : w11.frozen? ⟨go10, (x4_1 : Int).toNat * 2 + 1, none⟩ = false := hfr10 1; clear hcl10 hcc10 hfr10 hM10; replace p10 := eq_true p10; replace q10 := eq_true q10; have HX12 := Aside0.mk (show Kd.R k103 103 w11 w.heap.size (fun _ => True) (.slice (some ⟨go10, 0, none⟩) x3_1.length co10) x3_1 from (rR HO_3.out)); obtain ⟨ce12, hcl12, hM12, hcc12, hfr12⟩ := Kd.R_elem HX12.out z103 (x4_1 : Int) (of_decide_eq_true Da) (by have h_ : (x4_1 : Int) < ((x3_1.length : Int) : Int) := of_decide_eq_true Da; first | exact h_ | (have e_ := (Kd.R_reads' HO_3.out).1; omega) | simpa using h_); obtain rfl := k103_openM hM12; have HP12 := Kd.R_seg HX12.out (x4_1 : Int) (of_decide_eq_true Da) (by have h_ : (x4_1 : Int) < ((x3_1.length : Int) : Int) := of_decide_eq_true Da; first | exact h_ | (have e_ := (Kd.R_reads' HO_3.out).1; omega) | simpa using h_) (seg := [.string t185, .string t186]) (j := 0) hcl12 hcc12 (show 2 ≤ 2 from by decide) (x' := (⟨t185, t186⟩ : S103)) (k103_mkM _ _ _ (⟨t185, t186⟩ : S103) ) (fun _ hk => hk); have hx12_0 := hcc12 0 _ rfl; (try simp only [show (k103).sz = 2 from rfl, Nat.mul_one, Nat.add_zero] at hx12_0); have hf12_0 := hfr12 0; (try simp only [show (k103).sz = 2 from rfl, Nat.mul_one, Nat.add_zero] at hf12_0); have hx12_1 := hcc12 1 _ rfl; (try simp only [show (k103).sz = 2 from rfl, Nat.mul_one, Nat.add_zero] at hx12_1); have hf12_1 := hfr12 1; (try simp only [show (k103).sz = 2 from rfl, Nat.mul_one, Nat.add_zero] at hf12_1); clear hcl12 hcc12 hfr12 hM12) | ((with_reducible refine gate_store (t := 103) (p := 21) rfl ?_); refine store_event (t := 103) (p := 21) (v := ?vo_w13) (w1 := ((w11.setCell ⟨go10, (x4_1 : Int).toNat * 2, none⟩ (.string t185)).setCell ⟨go10, (x4_1 : Int).toNat * 2 + 1, none⟩ (.string t186))) ?hg ?ho ?hn ?hr ?_; (case ho => rfl); (case hg => rfl); (case hn => rfl); (case hr => first | (go_simp; done) | (go_simp; rfl)); intro w13 hw; have hg : w11.grownBy w13 (some go10) := (by rw [hw]; exact HP12.2); have hp_ : Kd.R k103 103 w13 w.heap.size (fun _ => True) (.slice (some ⟨go10, 0, none⟩) x3_1.length co10) y187 := (by rw [hw, Ny187.out]; exact HP12.1); clear HP12; have n_ := aa (hp_) <| Aside0.mk ((by rw [hw]; exact below_set (below_set (HB.out) GB10.out) GB10.out : Below w.heap.size w w13)); clear HO_3 HB; obtain ⟨HO_3, HB⟩ := n_; clear hg hw hp_)); go_roundg k1
                case measure => have := HK1.out; omega
                case rel => exact ⟨(y187), (wrap64 (x4_1 + 1)), (by first | rfl | (simp; done) | (simp [*]; done)), H', ⟨by have := HK1.out; omega⟩, ⟨by (with_reducible repeat (first | apply Kd.R_alloc | apply Kd.R_drewN | apply Kd.R_drew)); exact HO_3.out⟩, ⟨By⟩⟩
              · rw [if_neg c9] at H; exact absurd H (by simp)
            · rw [if_neg c7] at H; exact absurd H (by simp)
          · rw [if_neg c6] at H; have c6b0 : decide (x4_1 < (l0.length : Int)) = false := decide_eq_false c6; clear c6; obtain rfl := Option.some.inj H; go_wp2; go_ret; exact ⟨_, Rf, by (with_reducible repeat (first | apply Kd.R_alloc | apply Kd.R_drewN | apply Kd.R_drew)); exact HO_3.out, By⟩
    · rw [if_neg c3] at H; exact absurd H (by simp)
  · rw [if_neg c2] at H; exact absurd H (by simp)

set_option linter.unusedVariables false
set_option linter.unusedSimpArgs false

/-! ### laws_toStringS: function 95 -/
def laws_toStringS.l0 : Nat → List ByteArray → List ByteArray → Int → Option (List ByteArray)
  | 0, _, _, _ => none
  | k + 1, x0, x3, x4 => if x4 < (x0.length : Int) then (if 0 ≤ x4 then (if x4 < (x3.length : Int) then (laws_toStringS.l0 k x0 (x3.set (x4 : Int).toNat (rdOf ByteArray.empty x0 x4)) (wrap64 (x4 + 1))) else (none)) else (none)) else (some x3)
def laws_toStringS.f (k : Nat) (l0 : List ByteArray) : Option (List ByteArray) := if 0 ≤ (l0.length : Int) then (if ((l0.length : Int) : Int).toNat ≤ 17592186044416 then (laws_toStringS.l0 k l0 (List.replicate ((l0.length : Int) : Int).toNat (⟨#[]⟩ : ByteArray)) 0) else (none)) else (none)
theorem laws_toStringS.mono_l : ∀ k, (∀ y0 y1 y2, LeO (laws_toStringS.l0 k y0 y1 y2) (laws_toStringS.l0 (k + 1) y0 y1 y2))
  | 0 => fun _ _ _ r h => by simp [laws_toStringS.l0] at h
  | k + 1 => by
    have ih0 := laws_toStringS.mono_l k
    · intro y0 y1 y2; unfold laws_toStringS.l0; repeat' first
      | (with_reducible exact ih0 _ _ _)
      | (with_reducible exact LeO.refl _)
      | (with_reducible exact LeO.none _)
      | (with_reducible refine LeO.ite ?_ ?_)
      | (with_reducible refine LeO.bind ?_ (fun _ => ?_))
theorem laws_toStringS.mono : ∀ a0 k, LeO (laws_toStringS.f k a0) (laws_toStringS.f (k + 1) a0) := by
  intro a0 k; have ih0 := laws_toStringS.mono_l k; unfold laws_toStringS.f; repeat' first
      | (with_reducible exact ih0 _ _ _)
      | (with_reducible exact LeO.refl _)
      | (with_reducible exact LeO.none _)
      | (with_reducible refine LeO.ite ?_ ?_)
      | (with_reducible refine LeO.bind ?_ (fun _ => ?_))
set_option maxHeartbeats 8000000 in
set_option maxRecDepth 100000 in
theorem laws_toStringS.calls (k : Nat) (A0 : Option Addr) (c0 : Nat) (l0 : List ByteArray) (r : List ByteArray) (w : World) (hr0 : Kd.C Kd.string w A0 l0.length l0) (hc0 : l0.length ≤ c0) (h : laws_toStringS.f k l0 = some r) :
    Calls Tryd.prog 95 #[.slice A0 l0.length c0] w fun e w' => ∃ v0_ : Value, e = .returned (v0_) ∧ Kd.R Kd.string 9 w' w.heap.size (fun _ => True) v0_ r ∧ Below w.heap.size w w' := by
  have HR0 := Aside0.mk hr0; have HC0 := Aside0.mk hc0; clear hr0 hc0; have HB := Aside0.mk (Below.refl w.heap.size w); have H : (if 0 ≤ (l0.length : Int) then (if ((l0.length : Int) : Int).toNat ≤ 17592186044416 then (laws_toStringS.l0 k l0 (List.replicate ((l0.length : Int) : Int).toNat (⟨#[]⟩ : ByteArray)) 0) else (none)) else (none)) = some r := h; clear h; by_cases c2 : 0 ≤ (l0.length : Int)
  · rw [if_pos c2] at H; have c2b0 := eq_true c2; have c2b1 : decide (0 ≤ (l0.length : Int)) = true := decide_eq_true c2; clear c2; by_cases c3 : ((l0.length : Int) : Int).toNat ≤ 17592186044416
    · rw [if_pos c3] at H; have c3b0 := eq_true c3; have c3b1 : decide (((l0.length : Int) : Int).toNat ≤ 17592186044416) = true := decide_eq_true c3; clear c3; obtain ⟨y188, hy188⟩ : ∃ y_ : List ByteArray, y_ = (List.replicate ((l0.length : Int) : Int).toNat (⟨#[]⟩ : ByteArray)) := ⟨_, rfl⟩; replace H : (laws_toStringS.l0 k l0 y188 0) = some r := by first | (rw [hy188]; with_reducible exact H) | (have H2_ := (Option.bind_some _ _).symm.trans H; rw [hy188]; with_reducible exact H2_) | (have H2_ := (Option.bind_some _ _).symm.trans H; with_reducible exact H2_) | with_reducible exact H | (rw [hy188]; exact H) | exact H
      have Ny188 := Aside0.mk hy188; clear hy188; have H' := Aside0.mk H; clear H; go_enter Tryd.func95, Tryd.ntmps95; go_wp2_with (first | ((with_reducible refine gate_dst (N := 7) rfl ?_); refine Kd.R_make Kd.string _ 9 rfl (N := 7) rfl 27 _ _ rfl (l0.length : Int) rfl rfl Tryd.underlying27 (.string ⟨#[]⟩) 16 info9 rfl (by decide) (by omega) (⟨#[]⟩ : ByteArray) (ok := fun _ => True) (okp := fun _ => True) rfl (fun _ hk => hk) trivial (of_decide_eq_true Da) (Nat.le_trans (Nat.mul_le_mul_right _ (of_decide_eq_true Da : (l0.length : Int).toNat ≤ 17592186044416)) (by omega)) (Below.refl _ _) (Nat.le_refl _) ?_; intro v189 w4 ho5 hb hg_ hnew_; clear hg_ hnew_; (first | rw [← Ny188.out] at ho5 | (simp only [Int.reduceToNat] at ho5; rw [← Ny188.out] at ho5)); have n_ := aa (Kd.R_lower ho5 (below_size By)) <| Aside0.mk (below_step By hb); clear HB; obtain ⟨HO190, HB⟩ := n_; clear hb ho5)); go_loopg [4] k (fun kq v4 w' => ∃ (x3_1 : List ByteArray) (x4_1 : Int), v4 = .int .i64 x4_1 ∧ Aside0 (laws_toStringS.l0 kq l0 x3_1 x4_1 = some r) ∧ Aside0 (kq ≤ k) ∧ Aside0 (Kd.R Kd.string 9 w' w.heap.size (fun _ => True) v189 x3_1) ∧ Aside0 (Below w.heap.size w w'))
      case atStart => exact ⟨(y188), (0), (by first | rfl | (simp; done) | (simp [*]; done)), H', ⟨Nat.le_refl _⟩, ⟨by (with_reducible repeat (first | apply Kd.R_alloc | apply Kd.R_drewN | apply Kd.R_drew)); exact HO190.out⟩, ⟨By⟩⟩
      case round =>
        clear H'; try clear c2
        try clear c2b0
        try clear c2b1
        try clear p2
        try clear c3
        try clear c3b0
        try clear c3b1
        obtain ⟨x3_1, x4_1, rfl, HA, HK1, HO_3, HB⟩ := hrel; cases gk with
        | zero => exact absurd HA.out (by simp [laws_toStringS.l0])
        | succ k1 =>
          have H := HA.out; clear HA; simp only [laws_toStringS.l0] at H; by_cases c6 : x4_1 < (l0.length : Int)
          · rw [if_pos c6] at H; have c6b0 : decide (x4_1 < (l0.length : Int)) = true := decide_eq_true c6; clear c6; by_cases c7 : 0 ≤ x4_1
            · rw [if_pos c7] at H; have c7b0 : decide (0 ≤ x4_1) = true := decide_eq_true c7; clear c7; by_cases c8 : x4_1 < (x3_1.length : Int)
              · rw [if_pos c8] at H; have c8b0 : decide (x4_1 < (x3_1.length : Int)) = true := decide_eq_true c8; clear c8; obtain ⟨y192, hy192⟩ : ∃ y_ : List ByteArray, y_ = (x3_1.set (x4_1 : Int).toNat (rdOf ByteArray.empty l0 x4_1)) := ⟨_, rfl⟩; replace H : (laws_toStringS.l0 k1 l0 y192 (wrap64 (x4_1 + 1))) = some r := by first | (rw [hy192]; with_reducible exact H) | (have H2_ := (Option.bind_some _ _).symm.trans H; rw [hy192]; with_reducible exact H2_) | (have H2_ := (Option.bind_some _ _).symm.trans H; with_reducible exact H2_) | with_reducible exact H | (rw [hy192]; exact H) | exact H
                have Ny192 := Aside0.mk hy192; clear hy192; have H' := Aside0.mk H; clear H; have p191 : 0 ≤ (x4_1 : Int) := of_decide_eq_true Da; have q191 : x4_1 < (l0.length : Int) := of_decide_eq_true Da; obtain ⟨ad191, e191, hx191_0⟩ := Kd.at_string HR0.out x4_1 p191 q191; cases e191
                replace hx191_0 := bz HB.out hx191_0; replace p191 := eq_true p191; replace q191 := eq_true q191; have p9 : 0 ≤ (x4_1 : Int) := of_decide_eq_true Da; have q9 : (x4_1 : Int) < ((x3_1.length : Int) : Int) := of_decide_eq_true Da; obtain ⟨go9, co9, eo9, gb9, gl9, cl9, HG9⟩ := Kd.R_form HO_3.out (by omega); (first | cases eo9 | (injection eo9 with ea_ en_ ec_; (first | subst ea_ | (injection ea_ with ea_; subst ea_)); subst ec_; clear en_)); have GB9 := Aside0.mk gb9; have GG9 := Aside0.mk HG9; clear gb9 gl9 HG9; obtain ⟨hx9_0, hf9_0⟩ := Kd.R_celln (⟨#[]⟩ : ByteArray) HO_3.out (x4_1 : Int) p9 q9; replace p9 := eq_true p9; replace q9 := eq_true q9; have HP10 := Kd.R_putg HO_3.out (x4_1 : Int) (rdOf ByteArray.empty l0 x4_1); go_wp2_with (first | ((with_reducible refine gate_store (t := 9) (p := 20) rfl ?_); refine store_event (t := 9) (p := 20) (v := ?vo_w11) (w1 := (wr.setCell ⟨go9, (x4_1 : Int).toNat, none⟩ (.string (rdOf ByteArray.empty l0 x4_1)))) ?hg ?ho ?hn ?hr ?_; (case ho => rfl); (case hg => rfl); (case hn => rfl); (case hr => first | (go_simp; done) | (go_simp; rfl)); intro w11 hw; have hg : wr.grownBy w11 (some go9) := (by rw [hw]; exact HP10.2); have hp_ : Kd.R Kd.string 9 w11 w.heap.size (fun _ => True) (.slice (some ⟨go9, 0, none⟩) x3_1.length co9) y192 := (by rw [hw, Ny192.out]; exact HP10.1); clear HP10; have n_ := aa (hp_) <| Aside0.mk ((by rw [hw]; exact below_set (HB.out) GB9.out : Below w.heap.size w w11)); clear HO_3 HB; obtain ⟨HO_3, HB⟩ := n_; clear hg hw hp_)); go_roundg k1
                case measure => have := HK1.out; omega
                case rel => exact ⟨(y192), (wrap64 (x4_1 + 1)), (by first | rfl | (simp; done) | (simp [*]; done)), H', ⟨by have := HK1.out; omega⟩, ⟨by (with_reducible repeat (first | apply Kd.R_alloc | apply Kd.R_drewN | apply Kd.R_drew)); exact HO_3.out⟩, ⟨By⟩⟩
              · rw [if_neg c8] at H; exact absurd H (by simp)
            · rw [if_neg c7] at H; exact absurd H (by simp)
          · rw [if_neg c6] at H; have c6b0 : decide (x4_1 < (l0.length : Int)) = false := decide_eq_false c6; clear c6; obtain rfl := Option.some.inj H; go_wp2; go_ret; exact ⟨_, Rf, by (with_reducible repeat (first | apply Kd.R_alloc | apply Kd.R_drewN | apply Kd.R_drew)); exact HO_3.out, By⟩
    · rw [if_neg c3] at H; exact absurd H (by simp)
  · rw [if_neg c2] at H; exact absurd H (by simp)

set_option linter.unusedVariables false
set_option linter.unusedSimpArgs false

/-! ### laws_toAttr: function 69 -/
def laws_toAttr.f (k : Nat) (a0_0 : ByteArray) (l0_1 : List ByteArray) : Option (ByteArray × List ByteArray) := (laws_toStringS.f k l0_1).bind fun t196 => (some (a0_0, t196))
theorem laws_toAttr.mono : ∀ a0 a1 k, LeO (laws_toAttr.f k a0 a1) (laws_toAttr.f (k + 1) a0 a1) := by
  intro a0 a1 k; unfold laws_toAttr.f; repeat' first
      | (with_reducible exact laws_toStringS.mono _ _)
      | (with_reducible exact LeO.refl _)
      | (with_reducible exact LeO.none _)
      | (with_reducible refine LeO.ite ?_ ?_)
      | (with_reducible refine LeO.bind ?_ (fun _ => ?_))
set_option maxHeartbeats 8000000 in
set_option maxRecDepth 100000 in
theorem laws_toAttr.calls (k : Nat) (a0_0 : ByteArray) (A0_1 : Option Addr) (c0_1 : Nat) (l0_1 : List ByteArray) (r1 : ByteArray) (r2 : List ByteArray) (w : World) (hr0_1 : Kd.C Kd.string w A0_1 l0_1.length l0_1) (hc0_1 : l0_1.length ≤ c0_1) (h : laws_toAttr.f k a0_0 l0_1 = some (r1, r2)) :
    Calls Tryd.prog 69 #[.agg #[.string a0_0, .slice A0_1 l0_1.length c0_1]] w fun e w' => ∃ v1_ : Value, e = .returned (.agg #[.string r1, v1_]) ∧ Kd.R Kd.string 9 w' w.heap.size (fun _ => True) v1_ r2 ∧ Below w.heap.size w w' := by
  have hu98 := Tryd.underlying98; have hu102 := Tryd.underlying102; have HR0_1 := Aside0.mk hr0_1; have HC0_1 := Aside0.mk hc0_1; clear hr0_1 hc0_1; have HB := Aside0.mk (Below.refl w.heap.size w); have H : ((laws_toStringS.f k l0_1).bind fun t196 => (some (a0_0, t196))) = some (r1, r2) := h; clear h; replace H := Option.bind_eq_some_iff.mp H; obtain ⟨t196, A20, H⟩ := H; replace H : (some (a0_0, t196)) = some (r1, r2) := H; have A2 := Aside0.mk A20; clear A20; simp only [Option.some.injEq, Prod.mk.injEq] at H; obtain ⟨rfl, rfl⟩ := H; go_enter Tryd.func69, Tryd.ntmps69; go_wp2_with (first | ((with_reducible refine gate_dst (N := 1) rfl ?_); refine box_event ?hg (N := 1) ?hd (cs := #[.string a0_0, .slice A0_1 l0_1.length c0_1]) (t := 98) ?hr ?_; (case hd => rfl); (case hg => rfl); (case hr => first | (go_simp; done) | (go_simp; rfl)); intro gb193 hg w3 hbox hb; have n_ := aa (below_step By hb) <| aa (hbox) <| aa ((by rw [hg]; exact (below_size By) : w.heap.size ≤ gb193)) <| Aside0.mk ((by rw [hg]; exact (below_size By) : w.heap.size ≤ gb193)); clear HB; obtain ⟨HB, BK193, GW193, GE193⟩ := n_; clear hb hbox hg) | ((with_reducible refine gate_dst (N := 2) rfl ?_); refine box_event ?hg (N := 2) ?hd (cs := #[.string (⟨#[]⟩ : ByteArray), .slice none 0 0]) (t := 102) ?hr ?_; (case hd => rfl); (case hg => rfl); (case hr => first | (go_simp; done) | (go_simp; rfl)); intro gb194 hg w4 hbox hb; have n_ := aa (bb BK193.out hb) <| aa (below_step By hb) <| aa (hbox) <| aa ((by rw [hg]; exact (below_size By) : w.heap.size ≤ gb194)) <| aa ((by rw [hg]; exact (below_size By) : w.heap.size ≤ gb194)) <| aa ((by rw [hg]; exact Nat.ne_of_lt (bl BK193.out) : gb193 ≠ gb194)) <| Aside0.mk ((by rw [hg]; exact Nat.ne_of_gt (bl BK193.out) : gb194 ≠ gb193)); clear BK193 HB; obtain ⟨BK193, HB, BK194, GW194, GE194, NB193_194, NB194_193⟩ := n_; clear hb hbox hg) | ((with_reducible refine gate_dst (N := 3) rfl ?_); refine box_event ?hg (N := 3) ?hd (cs := #[.string (⟨#[]⟩ : ByteArray), .slice none 0 0]) (t := 102) ?hr ?_; (case hd => rfl); (case hg => rfl); (case hr => first | (go_simp; done) | (go_simp; rfl)); intro gb195 hg w5 hbox hb; have n_ := aa (bb BK193.out hb) <| aa (bb BK194.out hb) <| aa (below_step By hb) <| aa (hbox) <| aa ((by rw [hg]; exact (below_size By) : w.heap.size ≤ gb195)) <| aa ((by rw [hg]; exact (below_size By) : w.heap.size ≤ gb195)) <| aa ((by rw [hg]; exact Nat.ne_of_lt (bl BK193.out) : gb193 ≠ gb195)) <| aa ((by rw [hg]; exact Nat.ne_of_gt (bl BK193.out) : gb195 ≠ gb193)) <| aa ((by rw [hg]; exact Nat.ne_of_lt (bl BK194.out) : gb194 ≠ gb195)) <| Aside0.mk ((by rw [hg]; exact Nat.ne_of_gt (bl BK194.out) : gb195 ≠ gb194)); clear BK193 BK194 HB; obtain ⟨BK193, BK194, HB, BK195, GW195, GE195, NB193_195, NB195_193, NB194_195, NB195_194⟩ := n_; clear hb hbox hg; have hnb6 := NB193_194.out; have hnc6 := NB194_193.out; have hnb7 := NB193_195.out; have hnc7 := NB195_193.out; have ⟨hcz8_0, hcz8_1⟩ := cq2 BK193.out; have ⟨hfz8_0, hfz8_1⟩ := fq2 BK193.out; have hnb9 := NB195_194.out; have hnc9 := NB194_195.out; have ⟨hcz10_0, hcz10_1⟩ := cq2 BK195.out; have ⟨hfz10_0, hfz10_1⟩ := fq2 BK195.out) | ((with_reducible refine gate_callee (f := 95) rfl ?_); refine goesL_ (some 9) rfl rfl Tryd.func95 (by kernel_rfl) rfl #[.slice A0_1 l0_1.length c0_1] rfl Ag ?_; (with_reducible refine (laws_toStringS.calls k _ _ l0_1 t196 _ ?side1 ?side2 A2.out).mono ?_); (case side1 => exact Kd.C_below HR0_1.out By); (case side2 => exact HC0_1.out); rintro e w11 ⟨v197, rfl, ho0, hb⟩; refine ⟨_, rfl, ?_⟩; have n_ := aa (Kd.R_lower ho0 (below_size By)) <| aa (bf BK193.out hb) <| aa (bf BK194.out hb) <| aa (blk_below (g := gb195) (o := .cells #[.string a0_0, .slice none 0 0] 102 (0, 0)) (pq1o2 Pk) hb) <| Aside0.mk (below_step By hb); clear BK193 BK194 BK195 HB; obtain ⟨HO198, BK193, BK194, BK195, HB⟩ := n_; (try clear hb); (try clear hb2); (try clear hk); (try clear hi); (try clear ho0); obtain ⟨Ao12, co12, eo12⟩ := Kd.R_slice HO198.out; subst eo12; have ⟨hcz13_0, hcz13_1⟩ := cq2 BK195.out; have ⟨hfz13_0, hfz13_1⟩ := fq2 BK195.out; have ⟨hcz14_0, hcz14_1⟩ := cq2 BK194.out; have ⟨hfz14_0, hfz14_1⟩ := fq2 BK194.out)); refine bodyPost_ret (results_cell_row rfl _ _ gb194 102 #[.string a0_0, .slice Ao12 t196.length co12] (0, 0) _ rfl (by (with_reducible repeat (first | refine blk_drewN ?_ _ | refine blk_drew ?_ | refine blk_alloc ?_ _)); refine blk_put (cs := #[.string a0_0, .slice none 0 0]) ?_ 1 _ rfl; (with_reducible repeat (first | refine blk_drewN ?_ _ | refine blk_drew ?_ | refine blk_alloc ?_ _)); refine blk_put (cs := #[.string (⟨#[]⟩ : ByteArray), .slice none 0 0]) ?_ 0 _ rfl; (with_reducible repeat (first | refine blk_drewN ?_ _ | refine blk_drew ?_ | refine blk_alloc ?_ _)); refine blk_far ?_ NB194_195.out _; (with_reducible repeat (first | refine blk_drewN ?_ _ | refine blk_drew ?_ | refine blk_alloc ?_ _)); exact BK194.out) Tryd.underlying102 rfl (by kernel_rfl)) rfl ?_; exact ⟨_, Rf, by (with_reducible repeat (first | apply Kd.R_alloc | apply Kd.R_drewN | apply Kd.R_drew)); exact Kd.R_mono (Kd.R_far (p := ⟨gb194, 1, none⟩) (Kd.R_far (p := ⟨gb194, 0, none⟩) (Kd.R_far (p := ⟨gb195, 1, none⟩) (Kd.R_types (Kd.R_types HO198.out BK195.out (by decide)) BK194.out (by decide)) (fun _ hk => hk.1.2) (.slice Ao12 t196.length co12)) (fun _ hk => hk.2) (.string a0_0)) (fun _ hk => hk.2) (.slice Ao12 t196.length co12)) (fun _ hk => trivial), By⟩

set_option linter.unusedVariables false
set_option linter.unusedSimpArgs false

/-! ### laws_toAttrS: function 35 -/
def laws_toAttrS.l0 : Nat → List (S98) → List (S102) → Int → Option ((List (S102)))
  | 0, _, _, _ => none
  | k + 1, x0, x3, x4 => if x4 < (x0.length : Int) then (if 0 ≤ x4 then ((laws_toAttr.f k ((rd_T98 x0 x4).f0) ((rd_T98 x0 x4).f1)).bind fun bt203 => (if x4 < (x3.length : Int) then (laws_toAttrS.l0 k x0 (x3.set (x4 : Int).toNat (⟨bt203.1, bt203.2⟩ : S102)) (wrap64 (x4 + 1))) else (none))) else (none)) else (some x3)
def laws_toAttrS.f (k : Nat) (l0 : List (S98)) : Option ((List (S102))) := if 0 ≤ (l0.length : Int) then (if ((l0.length : Int) : Int).toNat ≤ 7036874417766 then (laws_toAttrS.l0 k l0 (List.replicate ((l0.length : Int) : Int).toNat z102) 0) else (none)) else (none)
theorem laws_toAttrS.mono_l : ∀ k, (∀ y0 y1 y2, LeO (laws_toAttrS.l0 k y0 y1 y2) (laws_toAttrS.l0 (k + 1) y0 y1 y2))
  | 0 => fun _ _ _ r h => by simp [laws_toAttrS.l0] at h
  | k + 1 => by
    have ih0 := laws_toAttrS.mono_l k
    · intro y0 y1 y2; unfold laws_toAttrS.l0; repeat' first
      | (with_reducible exact ih0 _ _ _)
      | (with_reducible exact laws_toAttr.mono _ _ _)
      | (with_reducible exact LeO.refl _)
      | (with_reducible exact LeO.none _)
      | (with_reducible refine LeO.ite ?_ ?_)
      | (with_reducible refine LeO.bind ?_ (fun _ => ?_))
theorem laws_toAttrS.mono : ∀ a0 k, LeO (laws_toAttrS.f k a0) (laws_toAttrS.f (k + 1) a0) := by
  intro a0 k; have ih0 := laws_toAttrS.mono_l k; unfold laws_toAttrS.f; repeat' first
      | (with_reducible exact ih0 _ _ _)
      | (with_reducible exact laws_toAttr.mono _ _ _)
      | (with_reducible exact LeO.refl _)
      | (with_reducible exact LeO.none _)
      | (with_reducible refine LeO.ite ?_ ?_)
      | (with_reducible refine LeO.bind ?_ (fun _ => ?_))
set_option maxHeartbeats 8000000 in
set_option maxRecDepth 100000 in
theorem laws_toAttrS.calls (k : Nat) (A0 : Option Addr) (c0 : Nat) (l0 : List (S98)) (r : List (S102)) (w : World) (hr0 : Kd.C k98 w A0 l0.length l0) (hc0 : l0.length ≤ c0) (h : laws_toAttrS.f k l0 = some r) :
    Calls Tryd.prog 35 #[.slice A0 l0.length c0] w fun e w' => ∃ v0_ : Value, e = .returned (v0_) ∧ Kd.S k102 102 w' w.heap.size (fun _ => True) v0_ r ∧ Below w.heap.size w w' := by
  have hu98 := Tryd.underlying98; have hu102 := Tryd.underlying102; have HR0 := Aside0.mk hr0; have HC0 := Aside0.mk hc0; clear hr0 hc0; have HB := Aside0.mk (Below.refl w.heap.size w); have H : (if 0 ≤ (l0.length : Int) then (if ((l0.length : Int) : Int).toNat ≤ 7036874417766 then (laws_toAttrS.l0 k l0 (List.replicate ((l0.length : Int) : Int).toNat z102) 0) else (none)) else (none)) = some r := h; clear h; by_cases c2 : 0 ≤ (l0.length : Int)
  · rw [if_pos c2] at H; have c2b0 := eq_true c2; have c2b1 : decide (0 ≤ (l0.length : Int)) = true := decide_eq_true c2; clear c2; by_cases c3 : ((l0.length : Int) : Int).toNat ≤ 7036874417766
    · rw [if_pos c3] at H; have c3b0 := eq_true c3; have c3b1 : decide (((l0.length : Int) : Int).toNat ≤ 7036874417766) = true := decide_eq_true c3; clear c3; obtain ⟨y199, hy199⟩ : ∃ y_ : List (S102), y_ = (List.replicate ((l0.length : Int) : Int).toNat z102) := ⟨_, rfl⟩; replace H : (laws_toAttrS.l0 k l0 y199 0) = some r := by first | (rw [hy199]; with_reducible exact H) | (have H2_ := (Option.bind_some _ _).symm.trans H; rw [hy199]; with_reducible exact H2_) | (have H2_ := (Option.bind_some _ _).symm.trans H; with_reducible exact H2_) | with_reducible exact H | (rw [hy199]; exact H) | exact H
      have Ny199 := Aside0.mk hy199; clear hy199; have H' := Aside0.mk H; clear H; go_enter Tryd.func35, Tryd.ntmps35; go_wp2_with (first | ((with_reducible refine gate_dst (N := 7) rfl ?_); refine Kd.S_make k102 _ 102 rfl (N := 7) rfl 30 _ _ rfl (l0.length : Int) rfl rfl Tryd.underlying30 (.agg #[(.string ⟨#[]⟩), (.slice none 0 0)]) 40 info102 rfl (by decide) (by omega) z102 (ok := fun _ => True) (okp := fun _ => True) (k102_mkM _ _ _ z102 (Kd.R_nil _ _ _ _ _)) (fun _ hk => hk) trivial (of_decide_eq_true Da) (Nat.le_trans (Nat.mul_le_mul_right _ (of_decide_eq_true Da : (l0.length : Int).toNat ≤ 7036874417766)) (by omega)) (Below.refl _ _) (Nat.le_refl _) ?_; intro v200 w4 ho5 hb hg_ hnew_; clear hg_ hnew_; (first | rw [← Ny199.out] at ho5 | (simp only [Int.reduceToNat] at ho5; rw [← Ny199.out] at ho5)); have n_ := aa (Kd.S_lower ho5 (below_size By)) <| Aside0.mk (below_step By hb); clear HB; obtain ⟨HO201, HB⟩ := n_; clear hb ho5)); go_loopg [4] k (fun kq v4 w' => ∃ (x3_1 : List (S102)) (x4_1 : Int), v4 = .int .i64 x4_1 ∧ Aside0 (laws_toAttrS.l0 kq l0 x3_1 x4_1 = some r) ∧ Aside0 (kq ≤ k) ∧ Aside0 (Kd.S k102 102 w' w.heap.size (fun _ => True) v200 x3_1) ∧ Aside0 (Below w.heap.size w w'))
      case atStart => exact ⟨(y199), (0), (by first | rfl | (simp; done) | (simp [*]; done)), H', ⟨Nat.le_refl _⟩, ⟨by (with_reducible repeat (first | apply Kd.S_alloc | apply Kd.S_drewN | apply Kd.S_drew)); exact HO201.out⟩, ⟨By⟩⟩
      case round =>
        clear H'; try clear c2
        try clear c2b0
        try clear c2b1
        try clear p2
        try clear c3
        try clear c3b0
        try clear c3b1
        obtain ⟨x3_1, x4_1, rfl, HA, HK1, HO_3, HB⟩ := hrel; cases gk with
        | zero => exact absurd HA.out (by simp [laws_toAttrS.l0])
        | succ k1 =>
          have H := HA.out; clear HA; simp only [laws_toAttrS.l0] at H; by_cases c6 : x4_1 < (l0.length : Int)
          · rw [if_pos c6] at H; have c6b0 : decide (x4_1 < (l0.length : Int)) = true := decide_eq_true c6; clear c6; by_cases c7 : 0 ≤ x4_1
            · rw [if_pos c7] at H; have c7b0 : decide (0 ≤ x4_1) = true := decide_eq_true c7; clear c7; replace H := Option.bind_eq_some_iff.mp H; obtain ⟨⟨t203, t204⟩, A80, H⟩ := H; (try dsimp only at H); have A8 := Aside0.mk A80; clear A80; by_cases c9 : x4_1 < (x3_1.length : Int)
              · rw [if_pos c9] at H; have c9b0 : decide (x4_1 < (x3_1.length : Int)) = true := decide_eq_true c9; clear c9; obtain ⟨y207, hy207⟩ : ∃ y_ : List (S102), y_ = (x3_1.set (x4_1 : Int).toNat (⟨t203, t204⟩ : S102)) := ⟨_, rfl⟩; replace H : (laws_toAttrS.l0 k1 l0 y207 (wrap64 (x4_1 + 1))) = some r := by first | (rw [hy207]; with_reducible exact H) | (have H2_ := (Option.bind_some _ _).symm.trans H; rw [hy207]; with_reducible exact H2_) | (have H2_ := (Option.bind_some _ _).symm.trans H; with_reducible exact H2_) | with_reducible exact H | (rw [hy207]; exact H) | exact H
                have Ny207 := Aside0.mk hy207; clear hy207; have H' := Aside0.mk H; clear H; have p202 : 0 ≤ (x4_1 : Int) := of_decide_eq_true Da; have q202 : x4_1 < (l0.length : Int) := of_decide_eq_true Da; obtain ⟨ad202, A202_1, c202_1, e202, hx202_0, hx202_1, hl202_1, hi202_1⟩ := at_T98 HR0.out x4_1 p202 q202; cases e202
                replace hx202_0 := bz HB.out hx202_0; replace hx202_1 := bz HB.out hx202_1; have HR202_1 := Aside0.mk hi202_1; have HC202_1 := Aside0.mk hl202_1; clear hi202_1 hl202_1; replace p202 := eq_true p202; replace q202 := eq_true q202; go_wp2_with (first | ((with_reducible refine gate_callee (f := 69) rfl ?_); refine goesL_ (some 20) rfl rfl Tryd.func69 (by kernel_rfl) rfl #[.agg #[.string ((rd_T98 l0 x4_1).f0), .slice A202_1 ((rd_T98 l0 x4_1).f1).length c202_1]] rfl Ag ?_; (with_reducible refine (laws_toAttr.calls k1 ((rd_T98 l0 x4_1).f0) _ _ ((rd_T98 l0 x4_1).f1) t203 t204 _ ?side1 ?side2 A8.out).mono ?_); (case side1 => exact rC (Kd.C_below HR202_1.out HB.out)); (case side2 => exact HC202_1.out); rintro e w11 ⟨v205, rfl, ho0, hb⟩; refine ⟨_, rfl, ?_⟩; have n_ := aa (Kd.S_elder' (rS HO_3.out) (Kd.R_base ho0) hb) <| aa (Kd.R_lower ho0 (below_size By)) <| Aside0.mk (below_step By hb); clear HO_3 HB; obtain ⟨HO_3, HO206, HB⟩ := n_; (try clear hb); (try clear hb2); (try clear hk); (try clear hi); (try clear ho0); have p10 : 0 ≤ (x4_1 : Int) := of_decide_eq_true Da; have q10 : (x4_1 : Int) < ((x3_1.length : Int) : Int) := of_decide_eq_true Da; obtain ⟨go10, co10, eo10, gb10, gl10, cl10, HG10⟩ := Kd.S_form HO_3.out (by omega); (first | cases eo10 | (injection eo10 with ea_ en_ ec_; (first | subst ea_ | (injection ea_ with ea_; subst ea_)); subst ec_; clear en_)); have GB10 := Aside0.mk gb10; have GG10 := Aside0.mk HG10; clear gb10 gl10 HG10; obtain ⟨_, ce10, hcl10, hM10, hcc10, hfr10, _, _⟩ := Kd.S_elem HO_3.out z102 (x4_1 : Int) p10 q10; obtain ⟨ve10_1, rfl, ge10_1⟩ := k102_openM hM10; have hx10_0 : w11.cell? ⟨go10, (x4_1 : Int).toNat * 2, none⟩ = some (.string ((rd_T102 x3_1 x4_1).f0)) := hcc10 0 _ rfl; have hx10_1 : w11.cell? ⟨go10, (x4_1 : Int).toNat * 2 + 1, none⟩ = some (ve10_1) := hcc10 1 _ rfl; have hf10_0 : w11.frozen? ⟨go10, (x4_1 : Int).toNat * 2, none⟩ = false := hfr10 0; have hf10_1 : w11.frozen? ⟨go10, (x4_1 : Int).toNat * 2 + 1, none⟩ = false := hfr10 1; clear hcl10 hcc10 hfr10 hM10; replace p10 := eq_true p10; replace q10 := eq_true q10; have n_ := Aside0.mk (Kd.S_mono (ok' := (fun k_ => some k_ ≠ (v205 : Value).ownBlock)) HO_3.out (fun k_ hk => hk.2)); clear HO_3; have HO_3 := n_; clear n_; have HX12 := Aside0.mk (show Kd.S k102 102 w11 w.heap.size (fun k_ => ((fun _ => True)) k_ ∧ ¬ ((fun k_ => some k_ = (v205 : Value).ownBlock)) k_) (.slice (some ⟨go10, 0, none⟩) x3_1.length co10) x3_1 from (by (with_reducible repeat (first | apply Kd.S_alloc | apply Kd.S_drewN | apply Kd.S_drew)); exact Kd.S_mono HO_3.out (fun k_ hk => ⟨trivial, fun e_ => hk e_⟩))); obtain ⟨oki12, ce12, hcl12, hM12, hcc12, hfr12, hoki12, hH12⟩ := Kd.S_elem HX12.out z102 (x4_1 : Int) (of_decide_eq_true Da) (by have h_ : (x4_1 : Int) < ((x3_1.length : Int) : Int) := of_decide_eq_true Da; first | exact h_ | (have e_ := (Kd.S_reads' HO_3.out).1; omega) | simpa using h_); obtain ⟨ve12_1, rfl, ge12_1⟩ := k102_openM hM12; have HP12 := Kd.S_seg hH12 (of_decide_eq_true Da) (by have h_ : (x4_1 : Int) < ((x3_1.length : Int) : Int) := of_decide_eq_true Da; first | exact h_ | (have e_ := (Kd.S_reads' HO_3.out).1; omega) | simpa using h_) (seg := [.string t203, v205]) (j := 0) (show 2 ≤ 2 from by decide) (x' := (⟨t203, t204⟩ : S102)) (k102_mkM _ _ _ (⟨t203, t204⟩ : S102) (Kd.R_mono (Kd.R_tight rfl (Kd.R_mono (ok' := fun k_ => ((fun _ => True)) k_ ∧ k_ ≠ go10) (Kd.R_apart' (HO206.out) (Kd.S_typed HO_3.out) (by decide)) (fun k_ hk => ⟨trivial, fun e_ => (hk.2) (by rw [e_]; rfl)⟩))) (fun _ h_ => Or.inr (h_)))) (fun _ hk => hk) (fun k_ hk_ => ((Kd.R_mono (ok' := fun k_ => ((fun _ => True)) k_ ∧ k_ ≠ go10) (Kd.R_apart' (HO206.out) (Kd.S_typed HO_3.out) (by decide)) (fun k_ hk => ⟨trivial, fun e_ => (hk.2) (by rw [e_]; rfl)⟩))).1 k_ hk_.symm); have hx12_0 := hcc12 0 _ rfl; (try simp only [show (k102).sz = 2 from rfl, Nat.mul_one, Nat.add_zero] at hx12_0); have hf12_0 := hfr12 0; (try simp only [show (k102).sz = 2 from rfl, Nat.mul_one, Nat.add_zero] at hf12_0); have hx12_1 := hcc12 1 _ rfl; (try simp only [show (k102).sz = 2 from rfl, Nat.mul_one, Nat.add_zero] at hx12_1); have hf12_1 := hfr12 1; (try simp only [show (k102).sz = 2 from rfl, Nat.mul_one, Nat.add_zero] at hf12_1); clear hcl12 hcc12 hfr12 hM12 hoki12 hH12) | ((with_reducible refine gate_store (t := 102) (p := 21) rfl ?_); refine store_event (t := 102) (p := 21) (v := ?vo_w13) (w1 := ((w11.setCell ⟨go10, (x4_1 : Int).toNat * 2, none⟩ (.string t203)).setCell ⟨go10, (x4_1 : Int).toNat * 2 + 1, none⟩ (v205))) ?hg ?ho ?hn ?hr ?_; (case ho => rfl); (case hg => rfl); (case hn => rfl); (case hr => first | (go_simp; done) | (go_simp; rfl) | (obtain ⟨Za0_, Zc0_, hz0_⟩ := Kd.R_slice HO206.out; rw [hz0_]; first | (go_simp; done) | (go_simp; rfl))); intro w13 hw; have hg : w11.grownBy w13 (some go10) := (by rw [hw]; exact HP12.2); have hp_ : Kd.S k102 102 w13 w.heap.size (fun _ => True) (.slice (some ⟨go10, 0, none⟩) x3_1.length co10) y207 := (by rw [hw, Ny207.out]; exact HP12.1); clear HP12; have n0_ := Aside0.mk (hp_); have n1_ := Aside0.mk ((by rw [hw]; exact below_set (below_set (HB.out) GB10.out) GB10.out : Below w.heap.size w w13)); clear HO_3; clear HB; clear HO206; have HO_3 := n0_; have HB := n1_; clear n0_ n1_; clear hg hw hp_)); go_roundg k1
                case measure => have := HK1.out; omega
                case rel => exact ⟨(y207), (wrap64 (x4_1 + 1)), (by first | rfl | (simp; done) | (simp [*]; done)), H', ⟨by have := HK1.out; omega⟩, ⟨by (with_reducible repeat (first | apply Kd.S_alloc | apply Kd.S_drewN | apply Kd.S_drew)); exact HO_3.out⟩, ⟨By⟩⟩
              · rw [if_neg c9] at H; exact absurd H (by simp)
            · rw [if_neg c7] at H; exact absurd H (by simp)
          · rw [if_neg c6] at H; have c6b0 : decide (x4_1 < (l0.length : Int)) = false := decide_eq_false c6; clear c6; obtain rfl := Option.some.inj H; go_wp2; go_ret; exact ⟨_, Rf, by (with_reducible repeat (first | apply Kd.S_alloc | apply Kd.S_drewN | apply Kd.S_drew)); exact HO_3.out, By⟩
    · rw [if_neg c3] at H; exact absurd H (by simp)
  · rw [if_neg c2] at H; exact absurd H (by simp)

set_option linter.unusedVariables false
set_option linter.unusedSimpArgs false

/-! ### laws_toEntry: function 8 -/
def laws_toEntry.f (k : Nat) (l0_0 : List (S95)) (l0_1 : List (S98)) : Option ((List (S103)) × (List (S102))) := (laws_toRdnS.f k l0_0).bind fun t211 => ((laws_toAttrS.f k l0_1).bind fun t214 => (some (t211, t214)))
theorem laws_toEntry.mono : ∀ a0 a1 k, LeO (laws_toEntry.f k a0 a1) (laws_toEntry.f (k + 1) a0 a1) := by
  intro a0 a1 k; unfold laws_toEntry.f; repeat' first
      | (with_reducible exact laws_toAttrS.mono _ _)
      | (with_reducible exact laws_toRdnS.mono _ _)
      | (with_reducible exact LeO.refl _)
      | (with_reducible exact LeO.none _)
      | (with_reducible refine LeO.ite ?_ ?_)
      | (with_reducible refine LeO.bind ?_ (fun _ => ?_))
set_option maxHeartbeats 8000000 in
set_option maxRecDepth 100000 in
theorem laws_toEntry.calls (k : Nat) (A0_0 : Option Addr) (c0_0 : Nat) (l0_0 : List (S95)) (A0_1 : Option Addr) (c0_1 : Nat) (l0_1 : List (S98)) (r1 : List (S103)) (r2 : List (S102)) (w : World) (hr0_0 : Kd.C k95 w A0_0 l0_0.length l0_0) (hc0_0 : l0_0.length ≤ c0_0) (hr0_1 : Kd.C k98 w A0_1 l0_1.length l0_1) (hc0_1 : l0_1.length ≤ c0_1) (h : laws_toEntry.f k l0_0 l0_1 = some (r1, r2)) :
    Calls Tryd.prog 8 #[.agg #[.slice A0_0 l0_0.length c0_0, .slice A0_1 l0_1.length c0_1]] w fun e w' => ∃ v0_ v1_ : Value, e = .returned (.agg #[v0_, v1_]) ∧ Kd.R k103 103 w' w.heap.size (fun _ => True) v0_ r1 ∧ Kd.S k102 102 w' w.heap.size (fun _ => True) v1_ r2 ∧ Below w.heap.size w w' := by
  have hu25 := Tryd.underlying25; have hu32 := Tryd.underlying32; have HR0_0 := Aside0.mk hr0_0; have HC0_0 := Aside0.mk hc0_0; clear hr0_0 hc0_0; have HR0_1 := Aside0.mk hr0_1; have HC0_1 := Aside0.mk hc0_1; clear hr0_1 hc0_1; have HB := Aside0.mk (Below.refl w.heap.size w); have H : ((laws_toRdnS.f k l0_0).bind fun t211 => ((laws_toAttrS.f k l0_1).bind fun t214 => (some (t211, t214)))) = some (r1, r2) := h; clear h; replace H := Option.bind_eq_some_iff.mp H; obtain ⟨t211, A20, H⟩ := H; replace H : ((laws_toAttrS.f k l0_1).bind fun t214 => (some (t211, t214))) = some (r1, r2) := H; have A2 := Aside0.mk A20; clear A20; replace H := Option.bind_eq_some_iff.mp H; obtain ⟨t214, A30, H⟩ := H; replace H : (some (t211, t214)) = some (r1, r2) := H; have A3 := Aside0.mk A30; clear A30; simp only [Option.some.injEq, Prod.mk.injEq] at H; obtain ⟨rfl, rfl⟩ := H; go_enter Tryd.func8, Tryd.ntmps8; go_wp2_with (first | ((with_reducible refine gate_dst (N := 1) rfl ?_); refine box_event ?hg (N := 1) ?hd (cs := #[.slice A0_0 l0_0.length c0_0, .slice A0_1 l0_1.length c0_1]) (t := 25) ?hr ?_; (case hd => rfl); (case hg => rfl); (case hr => first | (go_simp; done) | (go_simp; rfl)); intro gb208 hg w4 hbox hb; have n_ := aa (below_step By hb) <| aa (hbox) <| aa ((by rw [hg]; exact (below_size By) : w.heap.size ≤ gb208)) <| Aside0.mk ((by rw [hg]; exact (below_size By) : w.heap.size ≤ gb208)); clear HB; obtain ⟨HB, BK208, GW208, GE208⟩ := n_; clear hb hbox hg) | ((with_reducible refine gate_dst (N := 2) rfl ?_); refine box_event ?hg (N := 2) ?hd (cs := #[.slice none 0 0, .slice none 0 0]) (t := 32) ?hr ?_; (case hd => rfl); (case hg => rfl); (case hr => first | (go_simp; done) | (go_simp; rfl)); intro gb209 hg w5 hbox hb; have n_ := aa (bb BK208.out hb) <| aa (below_step By hb) <| aa (hbox) <| aa ((by rw [hg]; exact (below_size By) : w.heap.size ≤ gb209)) <| aa ((by rw [hg]; exact (below_size By) : w.heap.size ≤ gb209)) <| aa ((by rw [hg]; exact Nat.ne_of_lt (bl BK208.out) : gb208 ≠ gb209)) <| Aside0.mk ((by rw [hg]; exact Nat.ne_of_gt (bl BK208.out) : gb209 ≠ gb208)); clear BK208 HB; obtain ⟨BK208, HB, BK209, GW209, GE209, NB208_209, NB209_208⟩ := n_; clear hb hbox hg) | ((with_reducible refine gate_dst (N := 3) rfl ?_); refine box_event ?hg (N := 3) ?hd (cs := #[.slice none 0 0, .slice none 0 0]) (t := 32) ?hr ?_; (case hd => rfl); (case hg => rfl); (case hr => first | (go_simp; done) | (go_simp; rfl)); intro gb210 hg w6 hbox hb; have n_ := aa (bb BK208.out hb) <| aa (bb BK209.out hb) <| aa (below_step By hb) <| aa (hbox) <| aa ((by rw [hg]; exact (below_size By) : w.heap.size ≤ gb210)) <| aa ((by rw [hg]; exact (below_size By) : w.heap.size ≤ gb210)) <| aa ((by rw [hg]; exact Nat.ne_of_lt (bl BK208.out) : gb208 ≠ gb210)) <| aa ((by rw [hg]; exact Nat.ne_of_gt (bl BK208.out) : gb210 ≠ gb208)) <| aa ((by rw [hg]; exact Nat.ne_of_lt (bl BK209.out) : gb209 ≠ gb210)) <| Aside0.mk ((by rw [hg]; exact Nat.ne_of_gt (bl BK209.out) : gb210 ≠ gb209)); clear BK208 BK209 HB; obtain ⟨BK208, BK209, HB, BK210, GW210, GE210, NB208_210, NB210_208, NB209_210, NB210_209⟩ := n_; clear hb hbox hg; have hnb7 := NB208_209.out; have hnc7 := NB209_208.out; have hnb8 := NB208_210.out; have hnc8 := NB210_208.out; have ⟨hcz9_0, hcz9_1⟩ := cq2 BK208.out; have ⟨hfz9_0, hfz9_1⟩ := fq2 BK208.out) | ((with_reducible refine gate_callee (f := 34) rfl ?_); refine goesL_ (some 6) rfl rfl Tryd.func34 (by kernel_rfl) rfl #[.slice A0_0 l0_0.length c0_0] rfl Ag ?_; (with_reducible refine (laws_toRdnS.calls k _ _ l0_0 t211 _ ?side1 ?side2 A2.out).mono ?_); (case side1 => exact rC (Kd.C_below HR0_0.out HB.out)); (case side2 => exact HC0_0.out); rintro e w10 ⟨v212, rfl, ho0, hb⟩; refine ⟨_, rfl, ?_⟩; have n_ := aa (Kd.R_lower ho0 (below_size By)) <| aa (bb BK208.out hb) <| aa (bb BK209.out hb) <| aa (bb BK210.out hb) <| Aside0.mk (below_step By hb); clear BK208 BK209 BK210 HB; obtain ⟨HO213, BK208, BK209, BK210, HB⟩ := n_; (try clear hb); (try clear hb2); (try clear hk); (try clear hi); (try clear ho0); obtain ⟨Ao11, co11, eo11⟩ := Kd.R_slice HO213.out; subst eo11; have hnb12 := NB210_209.out; have hnc12 := NB209_210.out; have ⟨hcz13_0, hcz13_1⟩ := cq2 BK210.out; have ⟨hfz13_0, hfz13_1⟩ := fq2 BK210.out; have ⟨hcz14_0, hcz14_1⟩ := cq2 BK208.out; have ⟨hfz14_0, hfz14_1⟩ := fq2 BK208.out) | ((with_reducible refine gate_callee (f := 35) rfl ?_); refine goesL_ (some 10) rfl rfl Tryd.func35 (by kernel_rfl) rfl #[.slice A0_1 l0_1.length c0_1] rfl Ag ?_; (with_reducible refine (laws_toAttrS.calls k _ _ l0_1 t214 _ ?side1 ?side2 A3.out).mono ?_); (case side1 => exact Kd.C_below HR0_1.out By); (case side2 => exact HC0_1.out); rintro e w15 ⟨v215, rfl, ho0, hb⟩; refine ⟨_, rfl, ?_⟩; have n_ := aa (Kd.R_below (by (with_reducible repeat (first | apply Kd.R_alloc | apply Kd.R_drewN | apply Kd.R_drew)); exact (Kd.R_mono (Kd.R_far (p := ⟨gb210, 0, none⟩) (Kd.R_types HO213.out BK210.out (by decide)) (fun _ hk => hk.2) (.slice Ao11 t211.length co11)) (fun _ h_ => h_.1))) hb) <| aa (Kd.S_lower ho0 (below_size By)) <| aa (bf BK208.out hb) <| aa (bf BK209.out hb) <| aa (blk_below (g := gb210) (o := .cells #[.slice Ao11 t211.length co11, .slice none 0 0] 32 (0, 0)) (pq1o2 Pk) hb) <| Aside0.mk (below_step By hb); clear HO213 BK208 BK209 BK210 HB; obtain ⟨HO213, HO216, BK208, BK209, BK210, HB⟩ := n_; (try clear hb); (try clear hb2); (try clear hk); (try clear hi); (try clear ho0); obtain ⟨Ao16, co16, eo16⟩ := Kd.S_slice HO216.out; subst eo16; have ⟨hcz17_0, hcz17_1⟩ := cq2 BK210.out; have ⟨hfz17_0, hfz17_1⟩ := fq2 BK210.out; have ⟨hcz18_0, hcz18_1⟩ := cq2 BK209.out; have ⟨hfz18_0, hfz18_1⟩ := fq2 BK209.out)); refine bodyPost_ret (results_cell_row rfl _ _ gb209 32 #[.slice Ao11 t211.length co11, .slice Ao16 t214.length co16] (0, 0) _ rfl (by (with_reducible repeat (first | refine blk_drewN ?_ _ | refine blk_drew ?_ | refine blk_alloc ?_ _)); refine blk_put (cs := #[.slice Ao11 t211.length co11, .slice none 0 0]) ?_ 1 _ rfl; (with_reducible repeat (first | refine blk_drewN ?_ _ | refine blk_drew ?_ | refine blk_alloc ?_ _)); refine blk_put (cs := #[.slice none 0 0, .slice none 0 0]) ?_ 0 _ rfl; (with_reducible repeat (first | refine blk_drewN ?_ _ | refine blk_drew ?_ | refine blk_alloc ?_ _)); refine blk_far ?_ NB209_210.out _; (with_reducible repeat (first | refine blk_drewN ?_ _ | refine blk_drew ?_ | refine blk_alloc ?_ _)); exact BK209.out) Tryd.underlying32 rfl (by kernel_rfl)) rfl ?_
  exact ⟨_, _, Rf, by (with_reducible repeat (first | apply Kd.R_alloc | apply Kd.R_drewN | apply Kd.R_drew)); exact Kd.R_mono (Kd.R_far (p := ⟨gb209, 1, none⟩) (Kd.R_far (p := ⟨gb209, 0, none⟩) (Kd.R_far (p := ⟨gb210, 1, none⟩) (Kd.R_types (Kd.R_types HO213.out BK210.out (by decide)) BK209.out (by decide)) (fun _ hk => hk.1.2) (.slice Ao16 t214.length co16)) (fun _ hk => hk.2) (.slice Ao11 t211.length co11)) (fun _ hk => hk.2) (.slice Ao16 t214.length co16)) (fun _ hk => trivial), by (with_reducible repeat (first | apply Kd.S_alloc | apply Kd.S_drewN | apply Kd.S_drew)); exact Kd.S_mono (Kd.S_far (p := ⟨gb209, 1, none⟩) (Kd.S_far (p := ⟨gb209, 0, none⟩) (Kd.S_far (p := ⟨gb210, 1, none⟩) (Kd.S_types (Kd.S_types HO216.out BK210.out (by decide)) BK209.out (by decide)) (fun _ hk => hk.1.2) (.slice Ao16 t214.length co16)) (fun _ hk => hk.2) (.slice Ao11 t211.length co11)) (fun _ hk => hk.2) (.slice Ao16 t214.length co16)) (fun _ hk => trivial), By⟩

set_option linter.unusedVariables false
set_option linter.unusedSimpArgs false

/-! ### laws_eqRdn: function 73 -/
def laws_eqRdn.f (a0_0 : ByteArray) (a0_1 : ByteArray) (a1_0 : ByteArray) (a1_1 : ByteArray) : Option (Bool) := if a0_0.toList = a1_0.toList then (if a0_1.toList = a1_1.toList then (some true) else (some false)) else (some false)
set_option maxHeartbeats 8000000 in
set_option maxRecDepth 100000 in
theorem laws_eqRdn.calls (a0_0 : ByteArray) (a0_1 : ByteArray) (a1_0 : ByteArray) (a1_1 : ByteArray) (r : Bool) (w : World) (h : laws_eqRdn.f a0_0 a0_1 a1_0 a1_1 = some r) :
    Calls Tryd.prog 73 #[.agg #[.string a0_0, .string a0_1], .agg #[.string a1_0, .string a1_1]] w fun e w' => e = .returned (.bool r) ∧ Below w.heap.size w w' := by
  have hu103 := Tryd.underlying103; have HB := Aside0.mk (Below.refl w.heap.size w); have H : (if a0_0.toList = a1_0.toList then (if a0_1.toList = a1_1.toList then (some true) else (some false)) else (some false)) = some r := h; clear h; by_cases c3 : a0_0.toList = a1_0.toList
  · rw [if_pos c3] at H; have c3b0 : (a0_0.toList == a1_0.toList) = true := beq_iff_eq.mpr c3; have c3b1 : (a0_0.toList != a1_0.toList) = false := bne_eq_false_iff_eq.mpr c3; clear c3; by_cases c4 : a0_1.toList = a1_1.toList
    · rw [if_pos c4] at H; have c4b0 : (a0_1.toList == a1_1.toList) = true := beq_iff_eq.mpr c4; have c4b1 : (a0_1.toList != a1_1.toList) = false := bne_eq_false_iff_eq.mpr c4; clear c4; obtain rfl := Option.some.inj H; go_enter Tryd.func73, Tryd.ntmps73; go_wp2_with (first | ((with_reducible refine gate_dst (N := 2) rfl ?_); refine box_event ?hg (N := 2) ?hd (cs := #[.string a0_0, .string a0_1]) (t := 103) ?hr ?_; (case hd => rfl); (case hg => rfl); (case hr => first | (go_simp; done) | (go_simp; rfl)); intro gb219 hg w5 hbox hb; have n_ := aa (below_step By hb) <| aa (hbox) <| aa ((by rw [hg]; exact (below_size By) : w.heap.size ≤ gb219)) <| Aside0.mk ((by rw [hg]; exact (below_size By) : w.heap.size ≤ gb219)); clear HB; obtain ⟨HB, BK219, GW219, GE219⟩ := n_; clear hb hbox hg) | ((with_reducible refine gate_dst (N := 3) rfl ?_); refine box_event ?hg (N := 3) ?hd (cs := #[.string a1_0, .string a1_1]) (t := 103) ?hr ?_; (case hd => rfl); (case hg => rfl); (case hr => first | (go_simp; done) | (go_simp; rfl)); intro gb220 hg w6 hbox hb; have n_ := aa (bb BK219.out hb) <| aa (below_step By hb) <| aa (hbox) <| aa ((by rw [hg]; exact (below_size By) : w.heap.size ≤ gb220)) <| aa ((by rw [hg]; exact (below_size By) : w.heap.size ≤ gb220)) <| aa ((by rw [hg]; exact Nat.ne_of_lt (bl BK219.out) : gb219 ≠ gb220)) <| Aside0.mk ((by rw [hg]; exact Nat.ne_of_gt (bl BK219.out) : gb220 ≠ gb219)); clear BK219 HB; obtain ⟨BK219, HB, BK220, GW220, GE220, NB219_220, NB220_219⟩ := n_; clear hb hbox hg; have hnb7 := NB219_220.out; have hnc7 := NB220_219.out; have ⟨hcz8_0, hcz8_1⟩ := cq2 BK219.out; have ⟨hfz8_0, hfz8_1⟩ := fq2 BK219.out; have ⟨hcz9_0, hcz9_1⟩ := cq2 BK220.out; have ⟨hfz9_0, hfz9_1⟩ := fq2 BK220.out)); go_ret; exact ⟨Rf, By⟩
    · rw [if_neg c4] at H; have c4b0 : (a0_1.toList == a1_1.toList) = false := beq_eq_false_iff_ne.mpr c4; have c4b1 : (a0_1.toList != a1_1.toList) = true := bne_iff_ne.mpr c4; obtain rfl := Option.some.inj H; go_enter Tryd.func73, Tryd.ntmps73; go_wp2_with (first | ((with_reducible refine gate_dst (N := 2) rfl ?_); refine box_event ?hg (N := 2) ?hd (cs := #[.string a0_0, .string a0_1]) (t := 103) ?hr ?_; (case hd => rfl); (case hg => rfl); (case hr => first | (go_simp; done) | (go_simp; rfl)); intro gb219 hg w10 hbox hb; have n_ := aa (below_step By hb) <| aa (hbox) <| aa ((by rw [hg]; exact (below_size By) : w.heap.size ≤ gb219)) <| Aside0.mk ((by rw [hg]; exact (below_size By) : w.heap.size ≤ gb219)); clear HB; obtain ⟨HB, BK219, GW219, GE219⟩ := n_; clear hb hbox hg) | ((with_reducible refine gate_dst (N := 3) rfl ?_); refine box_event ?hg (N := 3) ?hd (cs := #[.string a1_0, .string a1_1]) (t := 103) ?hr ?_; (case hd => rfl); (case hg => rfl); (case hr => first | (go_simp; done) | (go_simp; rfl)); intro gb220 hg w11 hbox hb; have n_ := aa (bb BK219.out hb) <| aa (below_step By hb) <| aa (hbox) <| aa ((by rw [hg]; exact (below_size By) : w.heap.size ≤ gb220)) <| aa ((by rw [hg]; exact (below_size By) : w.heap.size ≤ gb220)) <| aa ((by rw [hg]; exact Nat.ne_of_lt (bl BK219.out) : gb219 ≠ gb220)) <| Aside0.mk ((by rw [hg]; exact Nat.ne_of_gt (bl BK219.out) : gb220 ≠ gb219)); clear BK219 HB; obtain ⟨BK219, HB, BK220, GW220, GE220, NB219_220, NB220_219⟩ := n_; clear hb hbox hg; have hnb12 := NB219_220.out; have hnc12 := NB220_219.out; have ⟨hcz13_0, hcz13_1⟩ := cq2 BK219.out; have ⟨hfz13_0, hfz13_1⟩ := fq2 BK219.out; have ⟨hcz14_0, hcz14_1⟩ := cq2 BK220.out; have ⟨hfz14_0, hfz14_1⟩ := fq2 BK220.out)); go_ret; exact ⟨Rf, By⟩
  · rw [if_neg c3] at H; have c3b0 : (a0_0.toList == a1_0.toList) = false := beq_eq_false_iff_ne.mpr c3; have c3b1 : (a0_0.toList != a1_0.toList) = true := bne_iff_ne.mpr c3; obtain rfl := Option.some.inj H; go_enter Tryd.func73, Tryd.ntmps73; go_wp2_with (first | ((with_reducible refine gate_dst (N := 2) rfl ?_); refine box_event ?hg (N := 2) ?hd (cs := #[.string a0_0, .string a0_1]) (t := 103) ?hr ?_; (case hd => rfl); (case hg => rfl); (case hr => first | (go_simp; done) | (go_simp; rfl)); intro gb219 hg w15 hbox hb; have n_ := aa (below_step By hb) <| aa (hbox) <| aa ((by rw [hg]; exact (below_size By) : w.heap.size ≤ gb219)) <| Aside0.mk ((by rw [hg]; exact (below_size By) : w.heap.size ≤ gb219)); clear HB; obtain ⟨HB, BK219, GW219, GE219⟩ := n_; clear hb hbox hg) | ((with_reducible refine gate_dst (N := 3) rfl ?_); refine box_event ?hg (N := 3) ?hd (cs := #[.string a1_0, .string a1_1]) (t := 103) ?hr ?_; (case hd => rfl); (case hg => rfl); (case hr => first | (go_simp; done) | (go_simp; rfl)); intro gb220 hg w16 hbox hb; have n_ := aa (bb BK219.out hb) <| aa (below_step By hb) <| aa (hbox) <| aa ((by rw [hg]; exact (below_size By) : w.heap.size ≤ gb220)) <| aa ((by rw [hg]; exact (below_size By) : w.heap.size ≤ gb220)) <| aa ((by rw [hg]; exact Nat.ne_of_lt (bl BK219.out) : gb219 ≠ gb220)) <| Aside0.mk ((by rw [hg]; exact Nat.ne_of_gt (bl BK219.out) : gb220 ≠ gb219)); clear BK219 HB; obtain ⟨BK219, HB, BK220, GW220, GE220, NB219_220, NB220_219⟩ := n_; clear hb hbox hg; have hnb17 := NB219_220.out; have hnc17 := NB220_219.out; have ⟨hcz18_0, hcz18_1⟩ := cq2 BK219.out; have ⟨hfz18_0, hfz18_1⟩ := fq2 BK219.out; have ⟨hcz19_0, hcz19_1⟩ := cq2 BK220.out; have ⟨hfz19_0, hfz19_1⟩ := fq2 BK220.out)); go_ret; exact ⟨Rf, By⟩

set_option linter.unusedVariables false
set_option linter.unusedSimpArgs false

/-! ### laws_eqRdnS: function 40 -/
def laws_eqRdnS.l0 : Nat → List (S103) → List (S103) → Int → Option (Bool)
  | 0, _, _, _ => none
  | k + 1, x0, x1, x5 => if x5 < (x0.length : Int) then (if 0 ≤ x5 then (if x5 < (x1.length : Int) then ((laws_eqRdn.f ((rd_T103 x0 x5).f0) ((rd_T103 x0 x5).f1) ((rd_T103 x1 x5).f0) ((rd_T103 x1 x5).f1)).bind fun t223 => (if t223 = true then (laws_eqRdnS.l0 k x0 x1 (wrap64 (x5 + 1))) else (some false))) else (none)) else (none)) else (some true)
def laws_eqRdnS.f (k : Nat) (l0 : List (S103)) (l1 : List (S103)) : Option (Bool) := if (l0.length : Int) = (l1.length : Int) then (laws_eqRdnS.l0 k l0 l1 0) else (some false)
theorem laws_eqRdnS.mono_l : ∀ k, (∀ y0 y1 y2, LeO (laws_eqRdnS.l0 k y0 y1 y2) (laws_eqRdnS.l0 (k + 1) y0 y1 y2))
  | 0 => fun _ _ _ r h => by simp [laws_eqRdnS.l0] at h
  | k + 1 => by
    have ih0 := laws_eqRdnS.mono_l k
    · intro y0 y1 y2; unfold laws_eqRdnS.l0; repeat' first
      | (with_reducible exact ih0 _ _ _)
      | (with_reducible exact LeO.refl _)
      | (with_reducible exact LeO.none _)
      | (with_reducible refine LeO.ite ?_ ?_)
      | (with_reducible refine LeO.bind ?_ (fun _ => ?_))
theorem laws_eqRdnS.mono : ∀ a0 a1 k, LeO (laws_eqRdnS.f k a0 a1) (laws_eqRdnS.f (k + 1) a0 a1) := by
  intro a0 a1 k; have ih0 := laws_eqRdnS.mono_l k; unfold laws_eqRdnS.f; repeat' first
      | (with_reducible exact ih0 _ _ _)
      | (with_reducible exact LeO.refl _)
      | (with_reducible exact LeO.none _)
      | (with_reducible refine LeO.ite ?_ ?_)
      | (with_reducible refine LeO.bind ?_ (fun _ => ?_))
def laws_eqRdnS.T6 : Bool × List (List Nat × List Nat) := (true, [([], []), ([], []), ([0, 1], [0, 1]), ([2], [2]), ([], []), ([], []), ([4, 5], [4, 5]), ([6], [6]), ([3, 7], [3, 7]), ([8], [8])])
def laws_eqRdnS.B6 : List Nat := [0, 0, 3, 7, 0, 0, 48, 112, 255, 511]
theorem laws_eqRdnS.tab6 : rtab .any (opsOf Tryd.f40 6) = laws_eqRdnS.T6 := by kernel_rfl
theorem laws_eqRdnS.bits6 : waitsOk laws_eqRdnS.T6.2 laws_eqRdnS.B6 = true := by kernel_rfl
set_option maxHeartbeats 8000000 in
set_option maxRecDepth 100000 in
theorem laws_eqRdnS.calls (k : Nat) (A0 : Option Addr) (c0 : Nat) (l0 : List (S103)) (A1 : Option Addr) (c1 : Nat) (l1 : List (S103)) (r : Bool) (w : World) (hr0 : Kd.C k103 w A0 l0.length l0) (hc0 : l0.length ≤ c0) (hr1 : Kd.C k103 w A1 l1.length l1) (hc1 : l1.length ≤ c1) (h : laws_eqRdnS.f k l0 l1 = some r) :
    Calls Tryd.prog 40 #[.slice A0 l0.length c0, .slice A1 l1.length c1] w fun e w' => e = .returned (.bool r) ∧ Below w.heap.size w w' := by
  have hu103 := Tryd.underlying103; have HR0 := Aside0.mk hr0; have HC0 := Aside0.mk hc0; clear hr0 hc0; have HR1 := Aside0.mk hr1; have HC1 := Aside0.mk hc1; clear hr1 hc1; have HB := Aside0.mk (Below.refl w.heap.size w); have H : (if (l0.length : Int) = (l1.length : Int) then (laws_eqRdnS.l0 k l0 l1 0) else (some false)) = some r := h; clear h; by_cases c3 : (l0.length : Int) = (l1.length : Int)
  · rw [if_pos c3] at H; have c3b0 : ((l0.length : Int) == (l1.length : Int)) = true := beq_iff_eq.mpr c3; have c3b1 : ((l0.length : Int) != (l1.length : Int)) = false := bne_eq_false_iff_eq.mpr c3; have c3b2 : (l0.length == l1.length) = true := by first | simpa using c3 | (simp at c3 ⊢; omega)
    clear c3; have H' := Aside0.mk H; clear H; go_enter Tryd.func40, Tryd.ntmps40; go_wp2; go_loopg [5] k (fun kq v5 w' => ∃ (x5_1 : Int), v5 = .int .i64 x5_1 ∧ Aside0 (laws_eqRdnS.l0 kq l0 l1 x5_1 = some r) ∧ Aside0 (kq ≤ k) ∧ Aside0 (Below w.heap.size w w'))
    case atStart => exact ⟨(0), (by first | rfl | (simp; done) | (simp [*]; done)), H', ⟨Nat.le_refl _⟩, ⟨By⟩⟩
    case round =>
      clear H'; try clear c1
      try clear p2
      try clear c3
      try clear c3b0
      try clear c3b1
      try clear c3b2
      obtain ⟨x5_1, rfl, HA, HK1, HB⟩ := hrel; cases gk with
      | zero => exact absurd HA.out (by simp [laws_eqRdnS.l0])
      | succ k1 =>
        have H := HA.out; clear HA; simp only [laws_eqRdnS.l0] at H; by_cases c4 : x5_1 < (l0.length : Int)
        · rw [if_pos c4] at H; have c4b0 : decide (x5_1 < (l0.length : Int)) = true := decide_eq_true c4; clear c4; by_cases c5 : 0 ≤ x5_1
          · rw [if_pos c5] at H; have c5b0 : decide (0 ≤ x5_1) = true := decide_eq_true c5; clear c5; by_cases c6 : x5_1 < (l1.length : Int)
            · rw [if_pos c6] at H; have c6b0 : decide (x5_1 < (l1.length : Int)) = true := decide_eq_true c6; clear c6; replace H := Option.bind_eq_some_iff.mp H; obtain ⟨t223, A70, H⟩ := H; (try dsimp only at H); have A7 := Aside0.mk A70; clear A70; by_cases c8 : t223 = true
              · subst c8; rw [if_pos rfl] at H; have H' := Aside0.mk H; clear H; try go_wp2
                have n0_ := Aside0.mk (below_drew1 HB.out); clear HB; have HB := n0_; clear n0_; have p221 : 0 ≤ (x5_1 : Int) := of_decide_eq_true Da; have q221 : x5_1 < (l0.length : Int) := of_decide_eq_true Da; obtain ⟨ad221, e221, hx221_0, hx221_1⟩ := at_T103 HR0.out x5_1 p221 q221; have hw221_1 := hx221_1; have hw221_0 := hx221_0; cases e221
                replace hx221_0 := bz HB.out hx221_0; replace hx221_1 := bz HB.out hx221_1; replace p221 := eq_true p221; replace q221 := eq_true q221; have p222 : 0 ≤ (x5_1 : Int) := of_decide_eq_true Da; have q222 : x5_1 < (l1.length : Int) := of_decide_eq_true Da; obtain ⟨ad222, e222, hx222_0, hx222_1⟩ := at_T103 HR1.out x5_1 p222 q222; have hw222_1 := hx222_1; have hw222_0 := hx222_0; cases e222
                replace hx222_0 := bz HB.out hx222_0; replace hx222_1 := bz HB.out hx222_1; replace p222 := eq_true p222; replace q222 := eq_true q222; refine start_ (n := 10) (S := fun w' => w'.cell? (ad221.add ((x5_1).toNat * 2)) = some (.string ((rd_T103 l0 x5_1).f0)) ∧ w'.cell? ⟨(ad221.add ((x5_1).toNat * 2)).block, (ad221.add ((x5_1).toNat * 2)).off + 1, none⟩ = some (.string ((rd_T103 l0 x5_1).f1)) ∧ w'.cell? (ad222.add ((x5_1).toNat * 2)) = some (.string ((rd_T103 l1 x5_1).f0)) ∧ w'.cell? ⟨(ad222.add ((x5_1).toNat * 2)).block, (ad222.add ((x5_1).toNat * 2)).off + 1, none⟩ = some (.string ((rd_T103 l1 x5_1).f1))) (ds := []) (bv 10 0) (by kernel_rfl) rfl rfl ⟨(bz HB.out hw221_0), (bz HB.out hw221_1), (bz HB.out hw222_0), (bz HB.out hw222_1)⟩ (fun hHeld => ?_); refine with_tabW laws_eqRdnS.tab6 laws_eqRdnS.bits6 (fun HT_ HW_ => ?_); generalize wr.drew = w9 at HB hx221_0 hx221_1 hx222_0 hx222_1 hHeld ⊢; refine pu 0 17 (bv 10 1) HT_.out (h := ?_); refine pu 1 18 (bv 10 3) HT_.out (h := ?_); refine pu 2 19 (bv 10 7) HT_.out (h := ?_); refine pu 4 21 (bv 10 23) HT_.out (h := ?_); refine pu 5 22 (bv 10 55) HT_.out (h := ?_); refine pu 6 23 (bv 10 119) HT_.out (h := ?_); refine tk 3 20 (bv 10 127) HT_.out HW_.out hHeld (h := ?_); refine tk 7 24 (bv 10 255) HT_.out HW_.out hHeld (h := ?_); refine one_ (i := 8) (N := some 25) (bv 10 511) rfl rfl (one_of HT_.out (by kernel_rfl)) (by decide) (fun K hK => ?_); refine goes_ Tryd.func73 (by kernel_rfl) rfl #[.agg #[.string ((rd_T103 l0 x5_1).f0), .string ((rd_T103 l0 x5_1).f1)], .agg #[.string ((rd_T103 l1 x5_1).f0), .string ((rd_T103 l1 x5_1).f1)]] (by rfl) rfl rfl Ag ?_; with_reducible refine (laws_eqRdn.calls ((rd_T103 l0 x5_1).f0) ((rd_T103 l0 x5_1).f1) ((rd_T103 l1 x5_1).f0) ((rd_T103 l1 x5_1).f1) true _ A7.out).mono ?_
                rintro e w10 ⟨rfl, hb⟩; refine ⟨_, rfl, ?_⟩; have n0_ := Aside0.mk (below_step By hb); clear HB; have HB := n0_; clear n0_; (try clear hb); (try clear hb2); (try clear hk); (try clear hi); refine hK.out _ _ ⟨(bz HB.out hw221_0), (bz HB.out hw221_1), (bz HB.out hw222_0), (bz HB.out hw222_1)⟩ (fun hHeld => ?_); clear hK K; refine norm_ (a' := ?_) ?_ ?_; rotate_left
                · show Act.put _ (some 25) _ = _; simp only [Act.put, List.setIfInBounds_toArray, List.set_cons_zero, List.set_cons_succ, i64_w, i32_w]; rfl
                refine pu 9 26 (bv 10 1023) HT_.out (h := ?_); refine done_ (done_of HT_.out (by kernel_rfl)) ?_; try go_wp2
                go_roundg k1
                case measure => have := HK1.out; omega
                case rel => exact ⟨(wrap64 (x5_1 + 1)), (by first | rfl | (simp; done) | (simp [*]; done)), H', ⟨by have := HK1.out; omega⟩, ⟨By⟩⟩
              · replace c8 := Bool.eq_false_iff.mpr c8; subst c8; rw [if_neg (show ¬ (false = true) by decide)] at H; obtain rfl := Option.some.inj H; try go_wp2
                have n0_ := Aside0.mk (below_drew1 HB.out); clear HB; have HB := n0_; clear n0_; have p221 : 0 ≤ (x5_1 : Int) := of_decide_eq_true Da; have q221 : x5_1 < (l0.length : Int) := of_decide_eq_true Da; obtain ⟨ad221, e221, hx221_0, hx221_1⟩ := at_T103 HR0.out x5_1 p221 q221; have hw221_1 := hx221_1; have hw221_0 := hx221_0; cases e221
                replace hx221_0 := bz HB.out hx221_0; replace hx221_1 := bz HB.out hx221_1; replace p221 := eq_true p221; replace q221 := eq_true q221; have p222 : 0 ≤ (x5_1 : Int) := of_decide_eq_true Da; have q222 : x5_1 < (l1.length : Int) := of_decide_eq_true Da; obtain ⟨ad222, e222, hx222_0, hx222_1⟩ := at_T103 HR1.out x5_1 p222 q222; have hw222_1 := hx222_1; have hw222_0 := hx222_0; cases e222
                replace hx222_0 := bz HB.out hx222_0; replace hx222_1 := bz HB.out hx222_1; replace p222 := eq_true p222; replace q222 := eq_true q222; refine start_ (n := 10) (S := fun w' => w'.cell? (ad221.add ((x5_1).toNat * 2)) = some (.string ((rd_T103 l0 x5_1).f0)) ∧ w'.cell? ⟨(ad221.add ((x5_1).toNat * 2)).block, (ad221.add ((x5_1).toNat * 2)).off + 1, none⟩ = some (.string ((rd_T103 l0 x5_1).f1)) ∧ w'.cell? (ad222.add ((x5_1).toNat * 2)) = some (.string ((rd_T103 l1 x5_1).f0)) ∧ w'.cell? ⟨(ad222.add ((x5_1).toNat * 2)).block, (ad222.add ((x5_1).toNat * 2)).off + 1, none⟩ = some (.string ((rd_T103 l1 x5_1).f1))) (ds := []) (bv 10 0) (by kernel_rfl) rfl rfl ⟨(bz HB.out hw221_0), (bz HB.out hw221_1), (bz HB.out hw222_0), (bz HB.out hw222_1)⟩ (fun hHeld => ?_); refine with_tabW laws_eqRdnS.tab6 laws_eqRdnS.bits6 (fun HT_ HW_ => ?_); generalize wr.drew = w11 at HB hx221_0 hx221_1 hx222_0 hx222_1 hHeld ⊢; refine pu 0 17 (bv 10 1) HT_.out (h := ?_); refine pu 1 18 (bv 10 3) HT_.out (h := ?_); refine pu 2 19 (bv 10 7) HT_.out (h := ?_); refine pu 4 21 (bv 10 23) HT_.out (h := ?_); refine pu 5 22 (bv 10 55) HT_.out (h := ?_); refine pu 6 23 (bv 10 119) HT_.out (h := ?_); refine tk 3 20 (bv 10 127) HT_.out HW_.out hHeld (h := ?_); refine tk 7 24 (bv 10 255) HT_.out HW_.out hHeld (h := ?_); refine one_ (i := 8) (N := some 25) (bv 10 511) rfl rfl (one_of HT_.out (by kernel_rfl)) (by decide) (fun K hK => ?_); refine goes_ Tryd.func73 (by kernel_rfl) rfl #[.agg #[.string ((rd_T103 l0 x5_1).f0), .string ((rd_T103 l0 x5_1).f1)], .agg #[.string ((rd_T103 l1 x5_1).f0), .string ((rd_T103 l1 x5_1).f1)]] (by rfl) rfl rfl Ag ?_; with_reducible refine (laws_eqRdn.calls ((rd_T103 l0 x5_1).f0) ((rd_T103 l0 x5_1).f1) ((rd_T103 l1 x5_1).f0) ((rd_T103 l1 x5_1).f1) false _ A7.out).mono ?_
                rintro e w12 ⟨rfl, hb⟩; refine ⟨_, rfl, ?_⟩; have n0_ := Aside0.mk (below_step By hb); clear HB; have HB := n0_; clear n0_; (try clear hb); (try clear hb2); (try clear hk); (try clear hi); refine hK.out _ _ ⟨(bz HB.out hw221_0), (bz HB.out hw221_1), (bz HB.out hw222_0), (bz HB.out hw222_1)⟩ (fun hHeld => ?_); clear hK K; refine norm_ (a' := ?_) ?_ ?_; rotate_left
                · show Act.put _ (some 25) _ = _; simp only [Act.put, List.setIfInBounds_toArray, List.set_cons_zero, List.set_cons_succ, i64_w, i32_w]; rfl
                refine pu 9 26 (bv 10 1023) HT_.out (h := ?_); refine done_ (done_of HT_.out (by kernel_rfl)) ?_; try go_wp2
                go_ret; exact ⟨Rf, By⟩
            · rw [if_neg c6] at H; exact absurd H (by simp)
          · rw [if_neg c5] at H; exact absurd H (by simp)
        · rw [if_neg c4] at H; have c4b0 : decide (x5_1 < (l0.length : Int)) = false := decide_eq_false c4; clear c4; obtain rfl := Option.some.inj H; go_wp2; go_ret; exact ⟨Rf, By⟩
  · rw [if_neg c3] at H; have c3b0 : ((l0.length : Int) == (l1.length : Int)) = false := beq_eq_false_iff_ne.mpr c3; have c3b1 : ((l0.length : Int) != (l1.length : Int)) = true := bne_iff_ne.mpr c3; have c3b2 : (l0.length == l1.length) = false := by first | simpa using c3 | (simp at c3 ⊢; omega)
    obtain rfl := Option.some.inj H; go_enter Tryd.func40, Tryd.ntmps40; go_wp2; go_ret; exact ⟨Rf, By⟩

set_option linter.unusedVariables false
set_option linter.unusedSimpArgs false

/-! ### laws_eqStringS: function 10 -/
def laws_eqStringS.l0 : Nat → List ByteArray → List ByteArray → Int → Option (Bool)
  | 0, _, _, _ => none
  | k + 1, x0, x1, x5 => if x5 < (x0.length : Int) then (if 0 ≤ x5 then (if x5 < (x1.length : Int) then (if (rdOf ByteArray.empty x0 x5).toList = (rdOf ByteArray.empty x1 x5).toList then (laws_eqStringS.l0 k x0 x1 (wrap64 (x5 + 1))) else (some false)) else (none)) else (none)) else (some true)
def laws_eqStringS.f (k : Nat) (l0 : List ByteArray) (l1 : List ByteArray) : Option (Bool) := if (l0.length : Int) = (l1.length : Int) then (laws_eqStringS.l0 k l0 l1 0) else (some false)
theorem laws_eqStringS.mono_l : ∀ k, (∀ y0 y1 y2, LeO (laws_eqStringS.l0 k y0 y1 y2) (laws_eqStringS.l0 (k + 1) y0 y1 y2))
  | 0 => fun _ _ _ r h => by simp [laws_eqStringS.l0] at h
  | k + 1 => by
    have ih0 := laws_eqStringS.mono_l k
    · intro y0 y1 y2; unfold laws_eqStringS.l0; repeat' first
      | (with_reducible exact ih0 _ _ _)
      | (with_reducible exact LeO.refl _)
      | (with_reducible exact LeO.none _)
      | (with_reducible refine LeO.ite ?_ ?_)
      | (with_reducible refine LeO.bind ?_ (fun _ => ?_))
theorem laws_eqStringS.mono : ∀ a0 a1 k, LeO (laws_eqStringS.f k a0 a1) (laws_eqStringS.f (k + 1) a0 a1) := by
  intro a0 a1 k; have ih0 := laws_eqStringS.mono_l k; unfold laws_eqStringS.f; repeat' first
      | (with_reducible exact ih0 _ _ _)
      | (with_reducible exact LeO.refl _)
      | (with_reducible exact LeO.none _)
      | (with_reducible refine LeO.ite ?_ ?_)
      | (with_reducible refine LeO.bind ?_ (fun _ => ?_))
set_option maxHeartbeats 8000000 in
set_option maxRecDepth 100000 in
theorem laws_eqStringS.calls (k : Nat) (A0 : Option Addr) (c0 : Nat) (l0 : List ByteArray) (A1 : Option Addr) (c1 : Nat) (l1 : List ByteArray) (r : Bool) (w : World) (hr0 : Kd.C Kd.string w A0 l0.length l0) (hc0 : l0.length ≤ c0) (hr1 : Kd.C Kd.string w A1 l1.length l1) (hc1 : l1.length ≤ c1) (h : laws_eqStringS.f k l0 l1 = some r) :
    Calls Tryd.prog 10 #[.slice A0 l0.length c0, .slice A1 l1.length c1] w fun e w' => e = .returned (.bool r) ∧ Drawn0 w w' := by
  have HR0 := Aside0.mk hr0; have HC0 := Aside0.mk hc0; clear hr0 hc0; have HR1 := Aside0.mk hr1; have HC1 := Aside0.mk hc1; clear hr1 hc1; have H : (if (l0.length : Int) = (l1.length : Int) then (laws_eqStringS.l0 k l0 l1 0) else (some false)) = some r := h; clear h; by_cases c3 : (l0.length : Int) = (l1.length : Int)
  · rw [if_pos c3] at H; have c3b0 : ((l0.length : Int) == (l1.length : Int)) = true := beq_iff_eq.mpr c3; have c3b1 : ((l0.length : Int) != (l1.length : Int)) = false := bne_eq_false_iff_eq.mpr c3; have c3b2 : (l0.length == l1.length) = true := by first | simpa using c3 | (simp at c3 ⊢; omega)
    clear c3; have H' := Aside0.mk H; clear H; go_enter Tryd.func10, Tryd.ntmps10; go_wp2; repeat (go_quiet (fail); try go_wp2)
    go_loopg [5] k (fun kq v5 w' => ∃ (x5_1 : Int), v5 = .int .i64 x5_1 ∧ Aside0 (laws_eqStringS.l0 kq l0 l1 x5_1 = some r) ∧ Aside0 (kq ≤ k) ∧ Drawn0 w w')
    case atStart => exact ⟨(0), (by first | rfl | (simp; done) | (simp [*]; done)), H', ⟨Nat.le_refl _⟩, by repeat (first | exact Drawn0.refl _ | apply Drawn0.step)⟩
    case round =>
      clear H'; try clear c1
      try clear p2
      try clear c3
      try clear c3b0
      try clear c3b1
      try clear c3b2
      obtain ⟨x5_1, rfl, HA, HK1, ⟨m1, rfl⟩⟩ := hrel; cases gk with
      | zero => exact absurd HA.out (by simp [laws_eqStringS.l0])
      | succ k1 =>
        have H := HA.out; clear HA; simp only [laws_eqStringS.l0] at H; by_cases c4 : x5_1 < (l0.length : Int)
        · rw [if_pos c4] at H; have c4b0 : decide (x5_1 < (l0.length : Int)) = true := decide_eq_true c4; clear c4; by_cases c5 : 0 ≤ x5_1
          · rw [if_pos c5] at H; have c5b0 : decide (0 ≤ x5_1) = true := decide_eq_true c5; clear c5; by_cases c6 : x5_1 < (l1.length : Int)
            · rw [if_pos c6] at H; have c6b0 : decide (x5_1 < (l1.length : Int)) = true := decide_eq_true c6; clear c6; by_cases c7 : (rdOf ByteArray.empty l0 x5_1).toList = (rdOf ByteArray.empty l1 x5_1).toList
              · rw [if_pos c7] at H; have c7b0 : ((rdOf ByteArray.empty l0 x5_1).toList == (rdOf ByteArray.empty l1 x5_1).toList) = true := beq_iff_eq.mpr c7; have c7b1 : ((rdOf ByteArray.empty l0 x5_1).toList != (rdOf ByteArray.empty l1 x5_1).toList) = false := bne_eq_false_iff_eq.mpr c7; clear c7; have H' := Aside0.mk H; clear H; have p217 : 0 ≤ (x5_1 : Int) := of_decide_eq_true Da; have q217 : x5_1 < (l0.length : Int) := of_decide_eq_true Da; obtain ⟨ad217, e217, hx217_0⟩ := Kd.at_string HR0.out x5_1 p217 q217; cases e217
                replace p217 := eq_true p217; replace q217 := eq_true q217; have p218 : 0 ≤ (x5_1 : Int) := of_decide_eq_true Da; have q218 : x5_1 < (l1.length : Int) := of_decide_eq_true Da; obtain ⟨ad218, e218, hx218_0⟩ := Kd.at_string HR1.out x5_1 p218 q218; cases e218
                replace p218 := eq_true p218; replace q218 := eq_true q218; go_wp2; repeat (go_quiet (fail); try go_wp2)
                go_roundg k1
                case measure => have := HK1.out; omega
                case rel => exact ⟨(wrap64 (x5_1 + 1)), (by first | rfl | (simp; done) | (simp [*]; done)), H', ⟨by have := HK1.out; omega⟩, by repeat (first | exact Drawn0.refl _ | apply Drawn0.step)⟩
              · rw [if_neg c7] at H; have c7b0 : ((rdOf ByteArray.empty l0 x5_1).toList == (rdOf ByteArray.empty l1 x5_1).toList) = false := beq_eq_false_iff_ne.mpr c7; have c7b1 : ((rdOf ByteArray.empty l0 x5_1).toList != (rdOf ByteArray.empty l1 x5_1).toList) = true := bne_iff_ne.mpr c7; obtain rfl := Option.some.inj H; have p217 : 0 ≤ (x5_1 : Int) := of_decide_eq_true Da; have q217 : x5_1 < (l0.length : Int) := of_decide_eq_true Da; obtain ⟨ad217, e217, hx217_0⟩ := Kd.at_string HR0.out x5_1 p217 q217; cases e217
                replace p217 := eq_true p217; replace q217 := eq_true q217; have p218 : 0 ≤ (x5_1 : Int) := of_decide_eq_true Da; have q218 : x5_1 < (l1.length : Int) := of_decide_eq_true Da; obtain ⟨ad218, e218, hx218_0⟩ := Kd.at_string HR1.out x5_1 p218 q218; cases e218
                replace p218 := eq_true p218; replace q218 := eq_true q218; go_wp2; repeat (go_quiet (fail); try go_wp2)
                go_ret; exact ⟨by first | rfl | (simp; done) | (simp [*]; done), by repeat (first | exact Drawn0.refl _ | apply Drawn0.step)⟩
            · rw [if_neg c6] at H; exact absurd H (by simp)
          · rw [if_neg c5] at H; exact absurd H (by simp)
        · rw [if_neg c4] at H; have c4b0 : decide (x5_1 < (l0.length : Int)) = false := decide_eq_false c4; clear c4; obtain rfl := Option.some.inj H; go_wp2; repeat (go_quiet (fail); try go_wp2)
          go_ret; exact ⟨by first | rfl | (simp; done) | (simp [*]; done), by repeat (first | exact Drawn0.refl _ | apply Drawn0.step)⟩
  · rw [if_neg c3] at H; have c3b0 : ((l0.length : Int) == (l1.length : Int)) = false := beq_eq_false_iff_ne.mpr c3; have c3b1 : ((l0.length : Int) != (l1.length : Int)) = true := bne_iff_ne.mpr c3; have c3b2 : (l0.length == l1.length) = false := by first | simpa using c3 | (simp at c3 ⊢; omega)
    obtain rfl := Option.some.inj H; go_enter Tryd.func10, Tryd.ntmps10; go_wp2; repeat (go_quiet (fail); try go_wp2)
    go_ret; exact ⟨by first | rfl | (simp; done) | (simp [*]; done), by repeat (first | exact Drawn0.refl _ | apply Drawn0.step)⟩

set_option linter.unusedVariables false
set_option linter.unusedSimpArgs false

/-! ### laws_eqAttr: function 74 -/
def laws_eqAttr.f (k : Nat) (a0_0 : ByteArray) (l0_1 : List ByteArray) (a1_0 : ByteArray) (l1_1 : List ByteArray) : Option (Bool) := if a0_0.toList = a1_0.toList then ((laws_eqStringS.f k l0_1 l1_1).bind fun t226 => (if t226 = true then (some true) else (some false))) else (some false)
theorem laws_eqAttr.mono : ∀ a0 a1 a2 a3 k, LeO (laws_eqAttr.f k a0 a1 a2 a3) (laws_eqAttr.f (k + 1) a0 a1 a2 a3) := by
  intro a0 a1 a2 a3 k; unfold laws_eqAttr.f; repeat' first
      | (with_reducible exact laws_eqStringS.mono _ _ _)
      | (with_reducible exact LeO.refl _)
      | (with_reducible exact LeO.none _)
      | (with_reducible refine LeO.ite ?_ ?_)
      | (with_reducible refine LeO.bind ?_ (fun _ => ?_))
set_option maxHeartbeats 8000000 in
set_option maxRecDepth 100000 in
theorem laws_eqAttr.calls (k : Nat) (a0_0 : ByteArray) (A0_1 : Option Addr) (c0_1 : Nat) (l0_1 : List ByteArray) (a1_0 : ByteArray) (A1_1 : Option Addr) (c1_1 : Nat) (l1_1 : List ByteArray) (r : Bool) (w : World) (hr0_1 : Kd.C Kd.string w A0_1 l0_1.length l0_1) (hc0_1 : l0_1.length ≤ c0_1) (hr1_1 : Kd.C Kd.string w A1_1 l1_1.length l1_1) (hc1_1 : l1_1.length ≤ c1_1) (h : laws_eqAttr.f k a0_0 l0_1 a1_0 l1_1 = some r) :
    Calls Tryd.prog 74 #[.agg #[.string a0_0, .slice A0_1 l0_1.length c0_1], .agg #[.string a1_0, .slice A1_1 l1_1.length c1_1]] w fun e w' => e = .returned (.bool r) ∧ Below w.heap.size w w' := by
  have hu102 := Tryd.underlying102; have HR0_1 := Aside0.mk hr0_1; have HC0_1 := Aside0.mk hc0_1; clear hr0_1 hc0_1; have HR1_1 := Aside0.mk hr1_1; have HC1_1 := Aside0.mk hc1_1; clear hr1_1 hc1_1; have HB := Aside0.mk (Below.refl w.heap.size w); have H : (if a0_0.toList = a1_0.toList then ((laws_eqStringS.f k l0_1 l1_1).bind fun t226 => (if t226 = true then (some true) else (some false))) else (some false)) = some r := h; clear h; by_cases c3 : a0_0.toList = a1_0.toList
  · rw [if_pos c3] at H; have c3b0 : (a0_0.toList == a1_0.toList) = true := beq_iff_eq.mpr c3; have c3b1 : (a0_0.toList != a1_0.toList) = false := bne_eq_false_iff_eq.mpr c3; clear c3; replace H := Option.bind_eq_some_iff.mp H; obtain ⟨t226, A40, H⟩ := H; (try dsimp only at H); have A4 := Aside0.mk A40; clear A40; by_cases c5 : t226 = true
    · subst c5; rw [if_pos rfl] at H; obtain rfl := Option.some.inj H; go_enter Tryd.func74, Tryd.ntmps74; go_wp2_with (first | ((with_reducible refine gate_dst (N := 2) rfl ?_); refine box_event ?hg (N := 2) ?hd (cs := #[.string a0_0, .slice A0_1 l0_1.length c0_1]) (t := 102) ?hr ?_; (case hd => rfl); (case hg => rfl); (case hr => first | (go_simp; done) | (go_simp; rfl)); intro gb224 hg w6 hbox hb; have n_ := aa (below_step By hb) <| aa (hbox) <| aa ((by rw [hg]; exact (below_size By) : w.heap.size ≤ gb224)) <| Aside0.mk ((by rw [hg]; exact (below_size By) : w.heap.size ≤ gb224)); clear HB; obtain ⟨HB, BK224, GW224, GE224⟩ := n_; clear hb hbox hg) | ((with_reducible refine gate_dst (N := 3) rfl ?_); refine box_event ?hg (N := 3) ?hd (cs := #[.string a1_0, .slice A1_1 l1_1.length c1_1]) (t := 102) ?hr ?_; (case hd => rfl); (case hg => rfl); (case hr => first | (go_simp; done) | (go_simp; rfl)); intro gb225 hg w7 hbox hb; have n_ := aa (bb BK224.out hb) <| aa (below_step By hb) <| aa (hbox) <| aa ((by rw [hg]; exact (below_size By) : w.heap.size ≤ gb225)) <| aa ((by rw [hg]; exact (below_size By) : w.heap.size ≤ gb225)) <| aa ((by rw [hg]; exact Nat.ne_of_lt (bl BK224.out) : gb224 ≠ gb225)) <| Aside0.mk ((by rw [hg]; exact Nat.ne_of_gt (bl BK224.out) : gb225 ≠ gb224)); clear BK224 HB; obtain ⟨BK224, HB, BK225, GW225, GE225, NB224_225, NB225_224⟩ := n_; clear hb hbox hg; have hnb8 := NB224_225.out; have hnc8 := NB225_224.out; have ⟨hcz9_0, hcz9_1⟩ := cq2 BK224.out; have ⟨hfz9_0, hfz9_1⟩ := fq2 BK224.out; have ⟨hcz10_0, hcz10_1⟩ := cq2 BK225.out; have ⟨hfz10_0, hfz10_1⟩ := fq2 BK225.out) | ((with_reducible refine gate_callee (f := 10) rfl ?_); refine goesL_ (some 14) rfl rfl Tryd.func10 (by kernel_rfl) rfl #[.slice A0_1 l0_1.length c0_1, .slice A1_1 l1_1.length c1_1] rfl Ag ?_; (with_reducible refine (laws_eqStringS.calls k _ _ l0_1 _ _ l1_1 true _ ?side1 ?side2 ?side3 ?side4 A4.out).mono ?_); (case side1 => exact rC (Kd.C_below HR0_1.out HB.out)); (case side2 => exact HC0_1.out); (case side3 => exact rC (Kd.C_below HR1_1.out HB.out)); (case side4 => exact HC1_1.out); rintro e w' ⟨rfl, ⟨nd, rfl⟩⟩; refine ⟨_, rfl, ?_⟩)); go_ret; exact ⟨Rf, By⟩
    · replace c5 := Bool.eq_false_iff.mpr c5; subst c5; rw [if_neg (show ¬ (false = true) by decide)] at H; obtain rfl := Option.some.inj H; go_enter Tryd.func74, Tryd.ntmps74; go_wp2_with (first | ((with_reducible refine gate_dst (N := 2) rfl ?_); refine box_event ?hg (N := 2) ?hd (cs := #[.string a0_0, .slice A0_1 l0_1.length c0_1]) (t := 102) ?hr ?_; (case hd => rfl); (case hg => rfl); (case hr => first | (go_simp; done) | (go_simp; rfl)); intro gb224 hg w11 hbox hb; have n_ := aa (below_step By hb) <| aa (hbox) <| aa ((by rw [hg]; exact (below_size By) : w.heap.size ≤ gb224)) <| Aside0.mk ((by rw [hg]; exact (below_size By) : w.heap.size ≤ gb224)); clear HB; obtain ⟨HB, BK224, GW224, GE224⟩ := n_; clear hb hbox hg) | ((with_reducible refine gate_dst (N := 3) rfl ?_); refine box_event ?hg (N := 3) ?hd (cs := #[.string a1_0, .slice A1_1 l1_1.length c1_1]) (t := 102) ?hr ?_; (case hd => rfl); (case hg => rfl); (case hr => first | (go_simp; done) | (go_simp; rfl)); intro gb225 hg w12 hbox hb; have n_ := aa (bb BK224.out hb) <| aa (below_step By hb) <| aa (hbox) <| aa ((by rw [hg]; exact (below_size By) : w.heap.size ≤ gb225)) <| aa ((by rw [hg]; exact (below_size By) : w.heap.size ≤ gb225)) <| aa ((by rw [hg]; exact Nat.ne_of_lt (bl BK224.out) : gb224 ≠ gb225)) <| Aside0.mk ((by rw [hg]; exact Nat.ne_of_gt (bl BK224.out) : gb225 ≠ gb224)); clear BK224 HB; obtain ⟨BK224, HB, BK225, GW225, GE225, NB224_225, NB225_224⟩ := n_; clear hb hbox hg; have hnb13 := NB224_225.out; have hnc13 := NB225_224.out; have ⟨hcz14_0, hcz14_1⟩ := cq2 BK224.out; have ⟨hfz14_0, hfz14_1⟩ := fq2 BK224.out; have ⟨hcz15_0, hcz15_1⟩ := cq2 BK225.out; have ⟨hfz15_0, hfz15_1⟩ := fq2 BK225.out) | ((with_reducible refine gate_callee (f := 10) rfl ?_); refine goesL_ (some 14) rfl rfl Tryd.func10 (by kernel_rfl) rfl #[.slice A0_1 l0_1.length c0_1, .slice A1_1 l1_1.length c1_1] rfl Ag ?_; (with_reducible refine (laws_eqStringS.calls k _ _ l0_1 _ _ l1_1 false _ ?side1 ?side2 ?side3 ?side4 A4.out).mono ?_); (case side1 => exact rC (Kd.C_below HR0_1.out HB.out)); (case side2 => exact HC0_1.out); (case side3 => exact rC (Kd.C_below HR1_1.out HB.out)); (case side4 => exact HC1_1.out); rintro e w' ⟨rfl, ⟨nd, rfl⟩⟩; refine ⟨_, rfl, ?_⟩)); go_ret; exact ⟨Rf, By⟩
  · rw [if_neg c3] at H; have c3b0 : (a0_0.toList == a1_0.toList) = false := beq_eq_false_iff_ne.mpr c3; have c3b1 : (a0_0.toList != a1_0.toList) = true := bne_iff_ne.mpr c3; obtain rfl := Option.some.inj H; go_enter Tryd.func74, Tryd.ntmps74; go_wp2_with (first | ((with_reducible refine gate_dst (N := 2) rfl ?_); refine box_event ?hg (N := 2) ?hd (cs := #[.string a0_0, .slice A0_1 l0_1.length c0_1]) (t := 102) ?hr ?_; (case hd => rfl); (case hg => rfl); (case hr => first | (go_simp; done) | (go_simp; rfl)); intro gb224 hg w16 hbox hb; have n_ := aa (below_step By hb) <| aa (hbox) <| aa ((by rw [hg]; exact (below_size By) : w.heap.size ≤ gb224)) <| Aside0.mk ((by rw [hg]; exact (below_size By) : w.heap.size ≤ gb224)); clear HB; obtain ⟨HB, BK224, GW224, GE224⟩ := n_; clear hb hbox hg) | ((with_reducible refine gate_dst (N := 3) rfl ?_); refine box_event ?hg (N := 3) ?hd (cs := #[.string a1_0, .slice A1_1 l1_1.length c1_1]) (t := 102) ?hr ?_; (case hd => rfl); (case hg => rfl); (case hr => first | (go_simp; done) | (go_simp; rfl)); intro gb225 hg w17 hbox hb; have n_ := aa (bb BK224.out hb) <| aa (below_step By hb) <| aa (hbox) <| aa ((by rw [hg]; exact (below_size By) : w.heap.size ≤ gb225)) <| aa ((by rw [hg]; exact (below_size By) : w.heap.size ≤ gb225)) <| aa ((by rw [hg]; exact Nat.ne_of_lt (bl BK224.out) : gb224 ≠ gb225)) <| Aside0.mk ((by rw [hg]; exact Nat.ne_of_gt (bl BK224.out) : gb225 ≠ gb224)); clear BK224 HB; obtain ⟨BK224, HB, BK225, GW225, GE225, NB224_225, NB225_224⟩ := n_; clear hb hbox hg; have hnb18 := NB224_225.out; have hnc18 := NB225_224.out; have ⟨hcz19_0, hcz19_1⟩ := cq2 BK224.out; have ⟨hfz19_0, hfz19_1⟩ := fq2 BK224.out; have ⟨hcz20_0, hcz20_1⟩ := cq2 BK225.out; have ⟨hfz20_0, hfz20_1⟩ := fq2 BK225.out)); go_ret; exact ⟨Rf, By⟩

set_option linter.unusedVariables false
set_option linter.unusedSimpArgs false

/-! ### laws_eqAttrS: function 41 -/
def laws_eqAttrS.l0 : Nat → List (S102) → List (S102) → Int → Option (Bool)
  | 0, _, _, _ => none
  | k + 1, x0, x1, x5 => if x5 < (x0.length : Int) then (if 0 ≤ x5 then (if x5 < (x1.length : Int) then ((laws_eqAttr.f k ((rd_T102 x0 x5).f0) ((rd_T102 x0 x5).f1) ((rd_T102 x1 x5).f0) ((rd_T102 x1 x5).f1)).bind fun t229 => (if t229 = true then (laws_eqAttrS.l0 k x0 x1 (wrap64 (x5 + 1))) else (some false))) else (none)) else (none)) else (some true)
def laws_eqAttrS.f (k : Nat) (l0 : List (S102)) (l1 : List (S102)) : Option (Bool) := if (l0.length : Int) = (l1.length : Int) then (laws_eqAttrS.l0 k l0 l1 0) else (some false)
theorem laws_eqAttrS.mono_l : ∀ k, (∀ y0 y1 y2, LeO (laws_eqAttrS.l0 k y0 y1 y2) (laws_eqAttrS.l0 (k + 1) y0 y1 y2))
  | 0 => fun _ _ _ r h => by simp [laws_eqAttrS.l0] at h
  | k + 1 => by
    have ih0 := laws_eqAttrS.mono_l k
    · intro y0 y1 y2; unfold laws_eqAttrS.l0; repeat' first
      | (with_reducible exact ih0 _ _ _)
      | (with_reducible exact laws_eqAttr.mono _ _ _ _ _)
      | (with_reducible exact LeO.refl _)
      | (with_reducible exact LeO.none _)
      | (with_reducible refine LeO.ite ?_ ?_)
      | (with_reducible refine LeO.bind ?_ (fun _ => ?_))
theorem laws_eqAttrS.mono : ∀ a0 a1 k, LeO (laws_eqAttrS.f k a0 a1) (laws_eqAttrS.f (k + 1) a0 a1) := by
  intro a0 a1 k; have ih0 := laws_eqAttrS.mono_l k; unfold laws_eqAttrS.f; repeat' first
      | (with_reducible exact ih0 _ _ _)
      | (with_reducible exact laws_eqAttr.mono _ _ _ _ _)
      | (with_reducible exact LeO.refl _)
      | (with_reducible exact LeO.none _)
      | (with_reducible refine LeO.ite ?_ ?_)
      | (with_reducible refine LeO.bind ?_ (fun _ => ?_))
def laws_eqAttrS.T6 : Bool × List (List Nat × List Nat) := (true, [([], []), ([], []), ([0, 1], [0, 1]), ([2], [2]), ([], []), ([], []), ([4, 5], [4, 5]), ([6], [6]), ([3, 7], [3, 7]), ([8], [8])])
def laws_eqAttrS.B6 : List Nat := [0, 0, 3, 7, 0, 0, 48, 112, 255, 511]
theorem laws_eqAttrS.tab6 : rtab .any (opsOf Tryd.f41 6) = laws_eqAttrS.T6 := by kernel_rfl
theorem laws_eqAttrS.bits6 : waitsOk laws_eqAttrS.T6.2 laws_eqAttrS.B6 = true := by kernel_rfl
set_option maxHeartbeats 8000000 in
set_option maxRecDepth 100000 in
theorem laws_eqAttrS.calls (k : Nat) (A0 : Option Addr) (c0 : Nat) (l0 : List (S102)) (A1 : Option Addr) (c1 : Nat) (l1 : List (S102)) (r : Bool) (w : World) (hr0 : Kd.C k102 w A0 l0.length l0) (hc0 : l0.length ≤ c0) (hr1 : Kd.C k102 w A1 l1.length l1) (hc1 : l1.length ≤ c1) (h : laws_eqAttrS.f k l0 l1 = some r) :
    Calls Tryd.prog 41 #[.slice A0 l0.length c0, .slice A1 l1.length c1] w fun e w' => e = .returned (.bool r) ∧ Below w.heap.size w w' := by
  have hu102 := Tryd.underlying102; have HR0 := Aside0.mk hr0; have HC0 := Aside0.mk hc0; clear hr0 hc0; have HR1 := Aside0.mk hr1; have HC1 := Aside0.mk hc1; clear hr1 hc1; have HB := Aside0.mk (Below.refl w.heap.size w); have H : (if (l0.length : Int) = (l1.length : Int) then (laws_eqAttrS.l0 k l0 l1 0) else (some false)) = some r := h; clear h; by_cases c3 : (l0.length : Int) = (l1.length : Int)
  · rw [if_pos c3] at H; have c3b0 : ((l0.length : Int) == (l1.length : Int)) = true := beq_iff_eq.mpr c3; have c3b1 : ((l0.length : Int) != (l1.length : Int)) = false := bne_eq_false_iff_eq.mpr c3; have c3b2 : (l0.length == l1.length) = true := by first | simpa using c3 | (simp at c3 ⊢; omega)
    clear c3; have H' := Aside0.mk H; clear H; go_enter Tryd.func41, Tryd.ntmps41; go_wp2; go_loopg [5] k (fun kq v5 w' => ∃ (x5_1 : Int), v5 = .int .i64 x5_1 ∧ Aside0 (laws_eqAttrS.l0 kq l0 l1 x5_1 = some r) ∧ Aside0 (kq ≤ k) ∧ Aside0 (Below w.heap.size w w'))
    case atStart => exact ⟨(0), (by first | rfl | (simp; done) | (simp [*]; done)), H', ⟨Nat.le_refl _⟩, ⟨By⟩⟩
    case round =>
      clear H'; try clear c1
      try clear p2
      try clear c3
      try clear c3b0
      try clear c3b1
      try clear c3b2
      obtain ⟨x5_1, rfl, HA, HK1, HB⟩ := hrel; cases gk with
      | zero => exact absurd HA.out (by simp [laws_eqAttrS.l0])
      | succ k1 =>
        have H := HA.out; clear HA; simp only [laws_eqAttrS.l0] at H; by_cases c4 : x5_1 < (l0.length : Int)
        · rw [if_pos c4] at H; have c4b0 : decide (x5_1 < (l0.length : Int)) = true := decide_eq_true c4; clear c4; by_cases c5 : 0 ≤ x5_1
          · rw [if_pos c5] at H; have c5b0 : decide (0 ≤ x5_1) = true := decide_eq_true c5; clear c5; by_cases c6 : x5_1 < (l1.length : Int)
            · rw [if_pos c6] at H; have c6b0 : decide (x5_1 < (l1.length : Int)) = true := decide_eq_true c6; clear c6; replace H := Option.bind_eq_some_iff.mp H; obtain ⟨t229, A70, H⟩ := H; (try dsimp only at H); have A7 := Aside0.mk A70; clear A70; by_cases c8 : t229 = true
              · subst c8; rw [if_pos rfl] at H; have H' := Aside0.mk H; clear H; try go_wp2
                have n0_ := Aside0.mk (below_drew1 HB.out); clear HB; have HB := n0_; clear n0_; have p227 : 0 ≤ (x5_1 : Int) := of_decide_eq_true Da; have q227 : x5_1 < (l0.length : Int) := of_decide_eq_true Da; obtain ⟨ad227, A227_1, c227_1, e227, hx227_0, hx227_1, hl227_1, hi227_1⟩ := at_T102 HR0.out x5_1 p227 q227; have hw227_1 := hx227_1; have hw227_0 := hx227_0; cases e227
                replace hx227_0 := bz HB.out hx227_0; replace hx227_1 := bz HB.out hx227_1; have HR227_1 := Aside0.mk hi227_1; have HC227_1 := Aside0.mk hl227_1; clear hi227_1 hl227_1; replace p227 := eq_true p227; replace q227 := eq_true q227; have p228 : 0 ≤ (x5_1 : Int) := of_decide_eq_true Da; have q228 : x5_1 < (l1.length : Int) := of_decide_eq_true Da; obtain ⟨ad228, A228_1, c228_1, e228, hx228_0, hx228_1, hl228_1, hi228_1⟩ := at_T102 HR1.out x5_1 p228 q228; have hw228_1 := hx228_1; have hw228_0 := hx228_0; cases e228
                replace hx228_0 := bz HB.out hx228_0; replace hx228_1 := bz HB.out hx228_1; have HR228_1 := Aside0.mk hi228_1; have HC228_1 := Aside0.mk hl228_1; clear hi228_1 hl228_1; replace p228 := eq_true p228; replace q228 := eq_true q228; refine start_ (n := 10) (S := fun w' => w'.cell? (ad227.add ((x5_1).toNat * 2)) = some (.string ((rd_T102 l0 x5_1).f0)) ∧ w'.cell? ⟨(ad227.add ((x5_1).toNat * 2)).block, (ad227.add ((x5_1).toNat * 2)).off + 1, none⟩ = some (.slice A227_1 ((rd_T102 l0 x5_1).f1).length c227_1) ∧ w'.cell? (ad228.add ((x5_1).toNat * 2)) = some (.string ((rd_T102 l1 x5_1).f0)) ∧ w'.cell? ⟨(ad228.add ((x5_1).toNat * 2)).block, (ad228.add ((x5_1).toNat * 2)).off + 1, none⟩ = some (.slice A228_1 ((rd_T102 l1 x5_1).f1).length c228_1)) (ds := []) (bv 10 0) (by kernel_rfl) rfl rfl ⟨(bz HB.out hw227_0), (bz HB.out hw227_1), (bz HB.out hw228_0), (bz HB.out hw228_1)⟩ (fun hHeld => ?_); refine with_tabW laws_eqAttrS.tab6 laws_eqAttrS.bits6 (fun HT_ HW_ => ?_); generalize wr.drew = w9 at HB HR227_1 HR228_1 hx227_0 hx227_1 hx228_0 hx228_1 hHeld ⊢; refine pu 0 17 (bv 10 1) HT_.out (h := ?_); refine pu 1 18 (bv 10 3) HT_.out (h := ?_); refine pu 2 19 (bv 10 7) HT_.out (h := ?_); refine pu 4 21 (bv 10 23) HT_.out (h := ?_); refine pu 5 22 (bv 10 55) HT_.out (h := ?_); refine pu 6 23 (bv 10 119) HT_.out (h := ?_); refine tk 3 20 (bv 10 127) HT_.out HW_.out hHeld (h := ?_); refine tk 7 24 (bv 10 255) HT_.out HW_.out hHeld (h := ?_); refine one_ (i := 8) (N := some 25) (bv 10 511) rfl rfl (one_of HT_.out (by kernel_rfl)) (by decide) (fun K hK => ?_); refine goes_ Tryd.func74 (by kernel_rfl) rfl #[.agg #[.string ((rd_T102 l0 x5_1).f0), .slice A227_1 ((rd_T102 l0 x5_1).f1).length c227_1], .agg #[.string ((rd_T102 l1 x5_1).f0), .slice A228_1 ((rd_T102 l1 x5_1).f1).length c228_1]] (by rfl) rfl rfl Ag ?_; with_reducible refine (laws_eqAttr.calls k1 ((rd_T102 l0 x5_1).f0) _ _ ((rd_T102 l0 x5_1).f1) ((rd_T102 l1 x5_1).f0) _ _ ((rd_T102 l1 x5_1).f1) true _ ?side1 ?side2 ?side3 ?side4 A7.out).mono ?_
                (case side1 => exact rC (Kd.C_below HR227_1.out HB.out))
                (case side2 => exact HC227_1.out)
                (case side3 => exact rC (Kd.C_below HR228_1.out HB.out))
                (case side4 => exact HC228_1.out)
                rintro e w10 ⟨rfl, hb⟩; refine ⟨_, rfl, ?_⟩; have n0_ := Aside0.mk (below_step By hb); clear HB; have HB := n0_; clear n0_; (try clear hb); (try clear hb2); (try clear hk); (try clear hi); refine hK.out _ _ ⟨(bz HB.out hw227_0), (bz HB.out hw227_1), (bz HB.out hw228_0), (bz HB.out hw228_1)⟩ (fun hHeld => ?_); clear hK K; refine norm_ (a' := ?_) ?_ ?_; rotate_left
                · show Act.put _ (some 25) _ = _; simp only [Act.put, List.setIfInBounds_toArray, List.set_cons_zero, List.set_cons_succ, i64_w, i32_w]; rfl
                refine pu 9 26 (bv 10 1023) HT_.out (h := ?_); refine done_ (done_of HT_.out (by kernel_rfl)) ?_; try go_wp2
                go_roundg k1
                case measure => have := HK1.out; omega
                case rel => exact ⟨(wrap64 (x5_1 + 1)), (by first | rfl | (simp; done) | (simp [*]; done)), H', ⟨by have := HK1.out; omega⟩, ⟨By⟩⟩
              · replace c8 := Bool.eq_false_iff.mpr c8; subst c8; rw [if_neg (show ¬ (false = true) by decide)] at H; obtain rfl := Option.some.inj H; try go_wp2
                have n0_ := Aside0.mk (below_drew1 HB.out); clear HB; have HB := n0_; clear n0_; have p227 : 0 ≤ (x5_1 : Int) := of_decide_eq_true Da; have q227 : x5_1 < (l0.length : Int) := of_decide_eq_true Da; obtain ⟨ad227, A227_1, c227_1, e227, hx227_0, hx227_1, hl227_1, hi227_1⟩ := at_T102 HR0.out x5_1 p227 q227; have hw227_1 := hx227_1; have hw227_0 := hx227_0; cases e227
                replace hx227_0 := bz HB.out hx227_0; replace hx227_1 := bz HB.out hx227_1; have HR227_1 := Aside0.mk hi227_1; have HC227_1 := Aside0.mk hl227_1; clear hi227_1 hl227_1; replace p227 := eq_true p227; replace q227 := eq_true q227; have p228 : 0 ≤ (x5_1 : Int) := of_decide_eq_true Da; have q228 : x5_1 < (l1.length : Int) := of_decide_eq_true Da; obtain ⟨ad228, A228_1, c228_1, e228, hx228_0, hx228_1, hl228_1, hi228_1⟩ := at_T102 HR1.out x5_1 p228 q228; have hw228_1 := hx228_1; have hw228_0 := hx228_0; cases e228
                replace hx228_0 := bz HB.out hx228_0; replace hx228_1 := bz HB.out hx228_1; have HR228_1 := Aside0.mk hi228_1; have HC228_1 := Aside0.mk hl228_1; clear hi228_1 hl228_1; replace p228 := eq_true p228; replace q228 := eq_true q228; refine start_ (n := 10) (S := fun w' => w'.cell? (ad227.add ((x5_1).toNat * 2)) = some (.string ((rd_T102 l0 x5_1).f0)) ∧ w'.cell? ⟨(ad227.add ((x5_1).toNat * 2)).block, (ad227.add ((x5_1).toNat * 2)).off + 1, none⟩ = some (.slice A227_1 ((rd_T102 l0 x5_1).f1).length c227_1) ∧ w'.cell? (ad228.add ((x5_1).toNat * 2)) = some (.string ((rd_T102 l1 x5_1).f0)) ∧ w'.cell? ⟨(ad228.add ((x5_1).toNat * 2)).block, (ad228.add ((x5_1).toNat * 2)).off + 1, none⟩ = some (.slice A228_1 ((rd_T102 l1 x5_1).f1).length c228_1)) (ds := []) (bv 10 0) (by kernel_rfl) rfl rfl ⟨(bz HB.out hw227_0), (bz HB.out hw227_1), (bz HB.out hw228_0), (bz HB.out hw228_1)⟩ (fun hHeld => ?_); refine with_tabW laws_eqAttrS.tab6 laws_eqAttrS.bits6 (fun HT_ HW_ => ?_); generalize wr.drew = w11 at HB HR227_1 HR228_1 hx227_0 hx227_1 hx228_0 hx228_1 hHeld ⊢; refine pu 0 17 (bv 10 1) HT_.out (h := ?_); refine pu 1 18 (bv 10 3) HT_.out (h := ?_); refine pu 2 19 (bv 10 7) HT_.out (h := ?_); refine pu 4 21 (bv 10 23) HT_.out (h := ?_); refine pu 5 22 (bv 10 55) HT_.out (h := ?_); refine pu 6 23 (bv 10 119) HT_.out (h := ?_); refine tk 3 20 (bv 10 127) HT_.out HW_.out hHeld (h := ?_); refine tk 7 24 (bv 10 255) HT_.out HW_.out hHeld (h := ?_); refine one_ (i := 8) (N := some 25) (bv 10 511) rfl rfl (one_of HT_.out (by kernel_rfl)) (by decide) (fun K hK => ?_); refine goes_ Tryd.func74 (by kernel_rfl) rfl #[.agg #[.string ((rd_T102 l0 x5_1).f0), .slice A227_1 ((rd_T102 l0 x5_1).f1).length c227_1], .agg #[.string ((rd_T102 l1 x5_1).f0), .slice A228_1 ((rd_T102 l1 x5_1).f1).length c228_1]] (by rfl) rfl rfl Ag ?_; with_reducible refine (laws_eqAttr.calls k1 ((rd_T102 l0 x5_1).f0) _ _ ((rd_T102 l0 x5_1).f1) ((rd_T102 l1 x5_1).f0) _ _ ((rd_T102 l1 x5_1).f1) false _ ?side1 ?side2 ?side3 ?side4 A7.out).mono ?_
                (case side1 => exact rC (Kd.C_below HR227_1.out HB.out))
                (case side2 => exact HC227_1.out)
                (case side3 => exact rC (Kd.C_below HR228_1.out HB.out))
                (case side4 => exact HC228_1.out)
                rintro e w12 ⟨rfl, hb⟩; refine ⟨_, rfl, ?_⟩; have n0_ := Aside0.mk (below_step By hb); clear HB; have HB := n0_; clear n0_; (try clear hb); (try clear hb2); (try clear hk); (try clear hi); refine hK.out _ _ ⟨(bz HB.out hw227_0), (bz HB.out hw227_1), (bz HB.out hw228_0), (bz HB.out hw228_1)⟩ (fun hHeld => ?_); clear hK K; refine norm_ (a' := ?_) ?_ ?_; rotate_left
                · show Act.put _ (some 25) _ = _; simp only [Act.put, List.setIfInBounds_toArray, List.set_cons_zero, List.set_cons_succ, i64_w, i32_w]; rfl
                refine pu 9 26 (bv 10 1023) HT_.out (h := ?_); refine done_ (done_of HT_.out (by kernel_rfl)) ?_; try go_wp2
                go_ret; exact ⟨Rf, By⟩
            · rw [if_neg c6] at H; exact absurd H (by simp)
          · rw [if_neg c5] at H; exact absurd H (by simp)
        · rw [if_neg c4] at H; have c4b0 : decide (x5_1 < (l0.length : Int)) = false := decide_eq_false c4; clear c4; obtain rfl := Option.some.inj H; go_wp2; go_ret; exact ⟨Rf, By⟩
  · rw [if_neg c3] at H; have c3b0 : ((l0.length : Int) == (l1.length : Int)) = false := beq_eq_false_iff_ne.mpr c3; have c3b1 : ((l0.length : Int) != (l1.length : Int)) = true := bne_iff_ne.mpr c3; have c3b2 : (l0.length == l1.length) = false := by first | simpa using c3 | (simp at c3 ⊢; omega)
    obtain rfl := Option.some.inj H; go_enter Tryd.func41, Tryd.ntmps41; go_wp2; go_ret; exact ⟨Rf, By⟩

set_option linter.unusedVariables false
set_option linter.unusedSimpArgs false

/-! ### laws_eqEntry: function 11 -/
def laws_eqEntry.f (k : Nat) (l0_0 : List (S103)) (l0_1 : List (S102)) (l1_0 : List (S103)) (l1_1 : List (S102)) : Option (Bool) := (laws_eqRdnS.f k l0_0 l1_0).bind fun t232 => (if t232 = true then ((laws_eqAttrS.f k l0_1 l1_1).bind fun t233 => (if t233 = true then (some true) else (some false))) else (some false))
theorem laws_eqEntry.mono : ∀ a0 a1 a2 a3 k, LeO (laws_eqEntry.f k a0 a1 a2 a3) (laws_eqEntry.f (k + 1) a0 a1 a2 a3) := by
  intro a0 a1 a2 a3 k; unfold laws_eqEntry.f; repeat' first
      | (with_reducible exact laws_eqAttrS.mono _ _ _)
      | (with_reducible exact laws_eqRdnS.mono _ _ _)
      | (with_reducible exact LeO.refl _)
      | (with_reducible exact LeO.none _)
      | (with_reducible refine LeO.ite ?_ ?_)
      | (with_reducible refine LeO.bind ?_ (fun _ => ?_))
set_option maxHeartbeats 8000000 in
set_option maxRecDepth 100000 in
theorem laws_eqEntry.calls (k : Nat) (A0_0 : Option Addr) (c0_0 : Nat) (l0_0 : List (S103)) (A0_1 : Option Addr) (c0_1 : Nat) (l0_1 : List (S102)) (A1_0 : Option Addr) (c1_0 : Nat) (l1_0 : List (S103)) (A1_1 : Option Addr) (c1_1 : Nat) (l1_1 : List (S102)) (r : Bool) (w : World) (hr0_0 : Kd.C k103 w A0_0 l0_0.length l0_0) (hc0_0 : l0_0.length ≤ c0_0) (hr0_1 : Kd.C k102 w A0_1 l0_1.length l0_1) (hc0_1 : l0_1.length ≤ c0_1) (hr1_0 : Kd.C k103 w A1_0 l1_0.length l1_0) (hc1_0 : l1_0.length ≤ c1_0) (hr1_1 : Kd.C k102 w A1_1 l1_1.length l1_1) (hc1_1 : l1_1.length ≤ c1_1) (h : laws_eqEntry.f k l0_0 l0_1 l1_0 l1_1 = some r) :
    Calls Tryd.prog 11 #[.agg #[.slice A0_0 l0_0.length c0_0, .slice A0_1 l0_1.length c0_1], .agg #[.slice A1_0 l1_0.length c1_0, .slice A1_1 l1_1.length c1_1]] w fun e w' => e = .returned (.bool r) ∧ Below w.heap.size w w' := by
  have hu32 := Tryd.underlying32; have HR0_0 := Aside0.mk hr0_0; have HC0_0 := Aside0.mk hc0_0; clear hr0_0 hc0_0; have HR0_1 := Aside0.mk hr0_1; have HC0_1 := Aside0.mk hc0_1; clear hr0_1 hc0_1; have HR1_0 := Aside0.mk hr1_0; have HC1_0 := Aside0.mk hc1_0; clear hr1_0 hc1_0; have HR1_1 := Aside0.mk hr1_1; have HC1_1 := Aside0.mk hc1_1; clear hr1_1 hc1_1; have HB := Aside0.mk (Below.refl w.heap.size w); have H : ((laws_eqRdnS.f k l0_0 l1_0).bind fun t232 => (if t232 = true then ((laws_eqAttrS.f k l0_1 l1_1).bind fun t233 => (if t233 = true then (some true) else (some false))) else (some false))) = some r := h; clear h; replace H := Option.bind_eq_some_iff.mp H; obtain ⟨t232, A30, H⟩ := H; (try dsimp only at H); have A3 := Aside0.mk A30; clear A30; by_cases c4 : t232 = true
  · subst c4; rw [if_pos rfl] at H; replace H := Option.bind_eq_some_iff.mp H; obtain ⟨t233, A50, H⟩ := H; (try dsimp only at H); have A5 := Aside0.mk A50; clear A50; by_cases c6 : t233 = true
    · subst c6; rw [if_pos rfl] at H; obtain rfl := Option.some.inj H; go_enter Tryd.func11, Tryd.ntmps11; go_wp2_with (first | ((with_reducible refine gate_dst (N := 2) rfl ?_); refine box_event ?hg (N := 2) ?hd (cs := #[.slice A0_0 l0_0.length c0_0, .slice A0_1 l0_1.length c0_1]) (t := 32) ?hr ?_; (case hd => rfl); (case hg => rfl); (case hr => first | (go_simp; done) | (go_simp; rfl)); intro gb230 hg w7 hbox hb; have n_ := aa (below_step By hb) <| aa (hbox) <| aa ((by rw [hg]; exact (below_size By) : w.heap.size ≤ gb230)) <| Aside0.mk ((by rw [hg]; exact (below_size By) : w.heap.size ≤ gb230)); clear HB; obtain ⟨HB, BK230, GW230, GE230⟩ := n_; clear hb hbox hg) | ((with_reducible refine gate_dst (N := 3) rfl ?_); refine box_event ?hg (N := 3) ?hd (cs := #[.slice A1_0 l1_0.length c1_0, .slice A1_1 l1_1.length c1_1]) (t := 32) ?hr ?_; (case hd => rfl); (case hg => rfl); (case hr => first | (go_simp; done) | (go_simp; rfl)); intro gb231 hg w8 hbox hb; have n_ := aa (bb BK230.out hb) <| aa (below_step By hb) <| aa (hbox) <| aa ((by rw [hg]; exact (below_size By) : w.heap.size ≤ gb231)) <| aa ((by rw [hg]; exact (below_size By) : w.heap.size ≤ gb231)) <| aa ((by rw [hg]; exact Nat.ne_of_lt (bl BK230.out) : gb230 ≠ gb231)) <| Aside0.mk ((by rw [hg]; exact Nat.ne_of_gt (bl BK230.out) : gb231 ≠ gb230)); clear BK230 HB; obtain ⟨BK230, HB, BK231, GW231, GE231, NB230_231, NB231_230⟩ := n_; clear hb hbox hg; have hnb9 := NB230_231.out; have hnc9 := NB231_230.out; have ⟨hcz10_0, hcz10_1⟩ := cq2 BK230.out; have ⟨hfz10_0, hfz10_1⟩ := fq2 BK230.out; have ⟨hcz11_0, hcz11_1⟩ := cq2 BK231.out; have ⟨hfz11_0, hfz11_1⟩ := fq2 BK231.out) | ((with_reducible refine gate_callee (f := 40) rfl ?_); refine goesL_ (some 9) rfl rfl Tryd.func40 (by kernel_rfl) rfl #[.slice A0_0 l0_0.length c0_0, .slice A1_0 l1_0.length c1_0] rfl Ag ?_; (with_reducible refine (laws_eqRdnS.calls k _ _ l0_0 _ _ l1_0 true _ ?side1 ?side2 ?side3 ?side4 A3.out).mono ?_); (case side1 => exact rC (Kd.C_below HR0_0.out HB.out)); (case side2 => exact HC0_0.out); (case side3 => exact rC (Kd.C_below HR1_0.out HB.out)); (case side4 => exact HC1_0.out); rintro e w12 ⟨rfl, hb⟩; refine ⟨_, rfl, ?_⟩; have n_ := aa (bb BK230.out hb) <| aa (bb BK231.out hb) <| Aside0.mk (below_step By hb); clear BK230 BK231 HB; obtain ⟨BK230, BK231, HB⟩ := n_; (try clear hb); (try clear hb2); (try clear hk); (try clear hi); have ⟨hcz13_0, hcz13_1⟩ := cq2 BK230.out; have ⟨hfz13_0, hfz13_1⟩ := fq2 BK230.out; have ⟨hcz14_0, hcz14_1⟩ := cq2 BK231.out; have ⟨hfz14_0, hfz14_1⟩ := fq2 BK231.out) | ((with_reducible refine gate_callee (f := 41) rfl ?_); refine goesL_ (some 15) rfl rfl Tryd.func41 (by kernel_rfl) rfl #[.slice A0_1 l0_1.length c0_1, .slice A1_1 l1_1.length c1_1] rfl Ag ?_; (with_reducible refine (laws_eqAttrS.calls k _ _ l0_1 _ _ l1_1 true _ ?side1 ?side2 ?side3 ?side4 A5.out).mono ?_); (case side1 => exact rC (Kd.C_below HR0_1.out HB.out)); (case side2 => exact HC0_1.out); (case side3 => exact rC (Kd.C_below HR1_1.out HB.out)); (case side4 => exact HC1_1.out); rintro e w15 ⟨rfl, hb⟩; refine ⟨_, rfl, ?_⟩; have n_ := aa (bb BK230.out hb) <| aa (bb BK231.out hb) <| Aside0.mk (below_step By hb); clear BK230 BK231 HB; obtain ⟨BK230, BK231, HB⟩ := n_; (try clear hb); (try clear hb2); (try clear hk); (try clear hi))); go_ret; exact ⟨Rf, By⟩
    · replace c6 := Bool.eq_false_iff.mpr c6; subst c6; rw [if_neg (show ¬ (false = true) by decide)] at H; obtain rfl := Option.some.inj H; go_enter Tryd.func11, Tryd.ntmps11; go_wp2_with (first | ((with_reducible refine gate_dst (N := 2) rfl ?_); refine box_event ?hg (N := 2) ?hd (cs := #[.slice A0_0 l0_0.length c0_0, .slice A0_1 l0_1.length c0_1]) (t := 32) ?hr ?_; (case hd => rfl); (case hg => rfl); (case hr => first | (go_simp; done) | (go_simp; rfl)); intro gb230 hg w16 hbox hb; have n_ := aa (below_step By hb) <| aa (hbox) <| aa ((by rw [hg]; exact (below_size By) : w.heap.size ≤ gb230)) <| Aside0.mk ((by rw [hg]; exact (below_size By) : w.heap.size ≤ gb230)); clear HB; obtain ⟨HB, BK230, GW230, GE230⟩ := n_; clear hb hbox hg) | ((with_reducible refine gate_dst (N := 3) rfl ?_); refine box_event ?hg (N := 3) ?hd (cs := #[.slice A1_0 l1_0.length c1_0, .slice A1_1 l1_1.length c1_1]) (t := 32) ?hr ?_; (case hd => rfl); (case hg => rfl); (case hr => first | (go_simp; done) | (go_simp; rfl)); intro gb231 hg w17 hbox hb; have n_ := aa (bb BK230.out hb) <| aa (below_step By hb) <| aa (hbox) <| aa ((by rw [hg]; exact (below_size By) : w.heap.size ≤ gb231)) <| aa ((by rw [hg]; exact (below_size By) : w.heap.size ≤ gb231)) <| aa ((by rw [hg]; exact Nat.ne_of_lt (bl BK230.out) : gb230 ≠ gb231)) <| Aside0.mk ((by rw [hg]; exact Nat.ne_of_gt (bl BK230.out) : gb231 ≠ gb230)); clear BK230 HB; obtain ⟨BK230, HB, BK231, GW231, GE231, NB230_231, NB231_230⟩ := n_; clear hb hbox hg; have hnb18 := NB230_231.out; have hnc18 := NB231_230.out; have ⟨hcz19_0, hcz19_1⟩ := cq2 BK230.out; have ⟨hfz19_0, hfz19_1⟩ := fq2 BK230.out; have ⟨hcz20_0, hcz20_1⟩ := cq2 BK231.out; have ⟨hfz20_0, hfz20_1⟩ := fq2 BK231.out) | ((with_reducible refine gate_callee (f := 40) rfl ?_); refine goesL_ (some 9) rfl rfl Tryd.func40 (by kernel_rfl) rfl #[.slice A0_0 l0_0.length c0_0, .slice A1_0 l1_0.length c1_0] rfl Ag ?_; (with_reducible refine (laws_eqRdnS.calls k _ _ l0_0 _ _ l1_0 true _ ?side1 ?side2 ?side3 ?side4 A3.out).mono ?_); (case side1 => exact rC (Kd.C_below HR0_0.out HB.out)); (case side2 => exact HC0_0.out); (case side3 => exact rC (Kd.C_below HR1_0.out HB.out)); (case side4 => exact HC1_0.out); rintro e w21 ⟨rfl, hb⟩; refine ⟨_, rfl, ?_⟩; have n_ := aa (bb BK230.out hb) <| aa (bb BK231.out hb) <| Aside0.mk (below_step By hb); clear BK230 BK231 HB; obtain ⟨BK230, BK231, HB⟩ := n_; (try clear hb); (try clear hb2); (try clear hk); (try clear hi); have ⟨hcz22_0, hcz22_1⟩ := cq2 BK230.out; have ⟨hfz22_0, hfz22_1⟩ := fq2 BK230.out; have ⟨hcz23_0, hcz23_1⟩ := cq2 BK231.out; have ⟨hfz23_0, hfz23_1⟩ := fq2 BK231.out) | ((with_reducible refine gate_callee (f := 41) rfl ?_); refine goesL_ (some 15) rfl rfl Tryd.func41 (by kernel_rfl) rfl #[.slice A0_1 l0_1.length c0_1, .slice A1_1 l1_1.length c1_1] rfl Ag ?_; (with_reducible refine (laws_eqAttrS.calls k _ _ l0_1 _ _ l1_1 false _ ?side1 ?side2 ?side3 ?side4 A5.out).mono ?_); (case side1 => exact rC (Kd.C_below HR0_1.out HB.out)); (case side2 => exact HC0_1.out); (case side3 => exact rC (Kd.C_below HR1_1.out HB.out)); (case side4 => exact HC1_1.out); rintro e w24 ⟨rfl, hb⟩; refine ⟨_, rfl, ?_⟩; have n_ := aa (bb BK230.out hb) <| aa (bb BK231.out hb) <| Aside0.mk (below_step By hb); clear BK230 BK231 HB; obtain ⟨BK230, BK231, HB⟩ := n_; (try clear hb); (try clear hb2); (try clear hk); (try clear hi))); go_ret; exact ⟨Rf, By⟩
  · replace c4 := Bool.eq_false_iff.mpr c4; subst c4; rw [if_neg (show ¬ (false = true) by decide)] at H; obtain rfl := Option.some.inj H; go_enter Tryd.func11, Tryd.ntmps11; go_wp2_with (first | ((with_reducible refine gate_dst (N := 2) rfl ?_); refine box_event ?hg (N := 2) ?hd (cs := #[.slice A0_0 l0_0.length c0_0, .slice A0_1 l0_1.length c0_1]) (t := 32) ?hr ?_; (case hd => rfl); (case hg => rfl); (case hr => first | (go_simp; done) | (go_simp; rfl)); intro gb230 hg w25 hbox hb; have n_ := aa (below_step By hb) <| aa (hbox) <| aa ((by rw [hg]; exact (below_size By) : w.heap.size ≤ gb230)) <| Aside0.mk ((by rw [hg]; exact (below_size By) : w.heap.size ≤ gb230)); clear HB; obtain ⟨HB, BK230, GW230, GE230⟩ := n_; clear hb hbox hg) | ((with_reducible refine gate_dst (N := 3) rfl ?_); refine box_event ?hg (N := 3) ?hd (cs := #[.slice A1_0 l1_0.length c1_0, .slice A1_1 l1_1.length c1_1]) (t := 32) ?hr ?_; (case hd => rfl); (case hg => rfl); (case hr => first | (go_simp; done) | (go_simp; rfl)); intro gb231 hg w26 hbox hb; have n_ := aa (bb BK230.out hb) <| aa (below_step By hb) <| aa (hbox) <| aa ((by rw [hg]; exact (below_size By) : w.heap.size ≤ gb231)) <| aa ((by rw [hg]; exact (below_size By) : w.heap.size ≤ gb231)) <| aa ((by rw [hg]; exact Nat.ne_of_lt (bl BK230.out) : gb230 ≠ gb231)) <| Aside0.mk ((by rw [hg]; exact Nat.ne_of_gt (bl BK230.out) : gb231 ≠ gb230)); clear BK230 HB; obtain ⟨BK230, HB, BK231, GW231, GE231, NB230_231, NB231_230⟩ := n_; clear hb hbox hg; have hnb27 := NB230_231.out; have hnc27 := NB231_230.out; have ⟨hcz28_0, hcz28_1⟩ := cq2 BK230.out; have ⟨hfz28_0, hfz28_1⟩ := fq2 BK230.out; have ⟨hcz29_0, hcz29_1⟩ := cq2 BK231.out; have ⟨hfz29_0, hfz29_1⟩ := fq2 BK231.out) | ((with_reducible refine gate_callee (f := 40) rfl ?_); refine goesL_ (some 9) rfl rfl Tryd.func40 (by kernel_rfl) rfl #[.slice A0_0 l0_0.length c0_0, .slice A1_0 l1_0.length c1_0] rfl Ag ?_; (with_reducible refine (laws_eqRdnS.calls k _ _ l0_0 _ _ l1_0 false _ ?side1 ?side2 ?side3 ?side4 A3.out).mono ?_); (case side1 => exact rC (Kd.C_below HR0_0.out HB.out)); (case side2 => exact HC0_0.out); (case side3 => exact rC (Kd.C_below HR1_0.out HB.out)); (case side4 => exact HC1_0.out); rintro e w30 ⟨rfl, hb⟩; refine ⟨_, rfl, ?_⟩; have n_ := aa (bb BK230.out hb) <| aa (bb BK231.out hb) <| Aside0.mk (below_step By hb); clear BK230 BK231 HB; obtain ⟨BK230, BK231, HB⟩ := n_; (try clear hb); (try clear hb2); (try clear hk); (try clear hi))); go_ret; exact ⟨Rf, By⟩

set_option linter.unusedVariables false
set_option linter.unusedSimpArgs false

/-! ### laws_markText: function 44 -/
def laws_markText.l0 : Nat → Int → ByteArray → Option (ByteArray)
  | 0, _, _ => none
  | k + 1, x0, x3 => if x0 > 0 then ((some (([(wrap64 (48 + (Int.tmod x0 10))) % 256] : List Int) : List Int)).bind fun y234 => (if (strOfNums y234).size + x3.size ≤ 9223372036854775807 then (laws_markText.l0 k (wrap64 (Int.tdiv x0 10)) ((strOfNums y234) ++ x3)) else (none))) else (if 1 + x3.size ≤ 9223372036854775807 then (some ((⟨#[109]⟩ : ByteArray) ++ x3)) else (none))
def laws_markText.f (k : Nat) (a0 : Int) : Option (ByteArray) := if a0 ≤ 0 then (some (⟨#[109, 48]⟩ : ByteArray)) else (laws_markText.l0 k a0 (⟨#[]⟩ : ByteArray))
theorem laws_markText.mono_l : ∀ k, (∀ y0 y1, LeO (laws_markText.l0 k y0 y1) (laws_markText.l0 (k + 1) y0 y1))
  | 0 => fun _ _ r h => by simp [laws_markText.l0] at h
  | k + 1 => by
    have ih0 := laws_markText.mono_l k
    · intro y0 y1; unfold laws_markText.l0; repeat' first
      | (with_reducible exact ih0 _ _)
      | (with_reducible exact LeO.refl _)
      | (with_reducible exact LeO.none _)
      | (with_reducible refine LeO.ite ?_ ?_)
      | (with_reducible refine LeO.bind ?_ (fun _ => ?_))
theorem laws_markText.mono : ∀ a0 k, LeO (laws_markText.f k a0) (laws_markText.f (k + 1) a0) := by
  intro a0 k; have ih0 := laws_markText.mono_l k; unfold laws_markText.f; repeat' first
      | (with_reducible exact ih0 _ _)
      | (with_reducible exact LeO.refl _)
      | (with_reducible exact LeO.none _)
      | (with_reducible refine LeO.ite ?_ ?_)
      | (with_reducible refine LeO.bind ?_ (fun _ => ?_))
set_option maxHeartbeats 8000000 in
set_option maxRecDepth 100000 in
theorem laws_markText.calls (k : Nat) (a0 : Int) (r : ByteArray) (w : World) (h : laws_markText.f k a0 = some r) :
    Calls Tryd.prog 44 #[.int .i64 a0] w fun e w' => e = .returned (.string r) ∧ Below w.heap.size w w' := by
  have HB := Aside0.mk (Below.refl w.heap.size w); have H : (if a0 ≤ 0 then (some (⟨#[109, 48]⟩ : ByteArray)) else (laws_markText.l0 k a0 (⟨#[]⟩ : ByteArray))) = some r := h; clear h; by_cases c2 : a0 ≤ 0
  · rw [if_pos c2] at H; have c2b0 : decide (a0 ≤ 0) = true := decide_eq_true c2; clear c2; obtain rfl := Option.some.inj H; go_enter Tryd.func44, Tryd.ntmps44; go_wp2; go_ret; exact ⟨Rf, By⟩
  · rw [if_neg c2] at H; have c2b0 : decide (a0 ≤ 0) = false := decide_eq_false c2; clear c2; have H' := Aside0.mk H; clear H; go_enter Tryd.func44, Tryd.ntmps44; go_wp2; go_loopg [0, 3] k (fun kq v0 v3 w' => ∃ (x0_1 : Int) (x3_1 : ByteArray), v0 = .int .i64 x0_1 ∧ v3 = .string x3_1 ∧ Aside0 (laws_markText.l0 kq x0_1 x3_1 = some r) ∧ Aside0 (kq ≤ k) ∧ Aside0 (Below w.heap.size w w'))
    case atStart => exact ⟨(a0), ((⟨#[]⟩ : ByteArray)), (by first | rfl | (simp; done) | (simp [*]; done)), (by first | rfl | (simp; done) | (simp [*]; done)), H', ⟨Nat.le_refl _⟩, ⟨By⟩⟩
    case round =>
      clear H'; try clear c2
      try clear c2b0
      try clear p2
      obtain ⟨x0_1, x3_1, rfl, rfl, HA, HK1, HB⟩ := hrel; cases gk with
      | zero => exact absurd HA.out (by simp [laws_markText.l0])
      | succ k1 =>
        have H := HA.out; clear HA; simp only [laws_markText.l0] at H; by_cases c3 : x0_1 > 0
        · rw [if_pos c3] at H; have c3b0 : decide (0 < x0_1) = true := decide_eq_true c3; clear c3; obtain ⟨y234, hy234⟩ : ∃ y_ : List Int, y_ = (([(wrap64 (48 + (Int.tmod x0_1 10))) % 256] : List Int)) := ⟨_, rfl⟩; replace H : (if (strOfNums y234).size + x3_1.size ≤ 9223372036854775807 then (laws_markText.l0 k1 (wrap64 (Int.tdiv x0_1 10)) ((strOfNums y234) ++ x3_1)) else (none)) = some r := by first | (rw [hy234]; with_reducible exact H) | (have H2_ := (Option.bind_some _ _).symm.trans H; rw [hy234]; with_reducible exact H2_) | (have H2_ := (Option.bind_some _ _).symm.trans H; with_reducible exact H2_) | with_reducible exact H | (rw [hy234]; exact H) | exact H
          have Ny234 := Aside0.mk hy234; clear hy234; by_cases c4 : (strOfNums y234).size + x3_1.size ≤ 9223372036854775807
          · rw [if_pos c4] at H; have c4b0 := eq_true c4; have c4b1 : decide ((strOfNums y234).size + x3_1.size ≤ 9223372036854775807) = true := decide_eq_true c4; try have c4b2 : (9223372036854775807 < (strOfNums y234).size + x3_1.size) = False := eq_false (Nat.not_lt.2 c4)
            have H' := Aside0.mk H; clear H; go_wp2_with (first | ((with_reducible refine gate_dst (N := 12) rfl ?_); refine Kd.R_lit (Kd.int .u8) _ 5 ?hg (N := 12) ?hd (xs := ([(wrap64 (48 + (Int.tmod x0_1 10))) % 256] : List Int)) (inner := [.int .u8 ((wrap64 (48 + (Int.tmod x0_1 10))) % 256)]) (ok := fun _ => True) (okp := fun _ => True) ?hr ?hp (fun _ hk => hk) trivial (Below.refl _ _) (Nat.le_refl _) (by simp) ?_; (case hd => rfl); (case hg => rfl); (case hr => first | (go_simp; done) | (go_simp; rfl)); (case hp => exact (Reps.one (show Kd.M (Kd.int .u8) _ _ _ ((wrap64 (48 + (Int.tmod x0_1 10))) % 256) [.int .u8 ((wrap64 (48 + (Int.tmod x0_1 10))) % 256)] from rfl) (Reps.none _ _))); intro v235 w5 ho6 hb hg_ hnew_; clear hg_ hnew_; (first | rw [← Ny234.out] at ho6 | (simp only [Int.reduceToNat] at ho6; rw [← Ny234.out] at ho6)); have n_ := aa (Kd.R_lower ho6 (below_size By)) <| Aside0.mk (below_step By hb); clear HB; obtain ⟨HO236, HB⟩ := n_; clear hb ho6; have hcv7 := own_string (P := Tryd.prog) Tryd.underlying112 Tryd.underlying5 Tryd.underlying9 (Kd.own_of_R HO236.out))); go_roundg k1
            case measure => have := HK1.out; omega
            case rel => exact ⟨(wrap64 (Int.tdiv x0_1 10)), ((strOfNums y234) ++ x3_1), (by first | rfl | (simp; done) | (simp [*]; done)), (by first | rfl | (simp; done) | (simp [*]; done)), H', ⟨by have := HK1.out; omega⟩, ⟨By⟩⟩
          · rw [if_neg c4] at H; exact absurd H (by simp)
        · rw [if_neg c3] at H; have c3b0 : decide (0 < x0_1) = false := decide_eq_false c3; clear c3; by_cases c8 : 1 + x3_1.size ≤ 9223372036854775807
          · rw [if_pos c8] at H; have c8b0 := eq_true c8; have c8b1 : decide (1 + x3_1.size ≤ 9223372036854775807) = true := decide_eq_true c8; try have c8b2 : (9223372036854775807 < 1 + x3_1.size) = False := eq_false (Nat.not_lt.2 c8)
            obtain rfl := Option.some.inj H; go_wp2; go_ret; exact ⟨Rf, By⟩
          · rw [if_neg c8] at H; exact absurd H (by simp)

set_option linter.unusedVariables false
set_option linter.unusedSimpArgs false

/-! ### laws_heldStringS: function 14 -/
def laws_heldStringS.l0 : Nat → List ByteArray → Int → Int → Option (Int)
  | 0, _, _, _ => none
  | k + 1, x0, x1, x5 => if x5 < (x0.length : Int) then (if 0 ≤ x5 then ((laws_markText.f k x1).bind fun t248 => (if (rdOf ByteArray.empty x0 x5).toList = t248.toList then (laws_heldStringS.l0 k x0 (wrap64 (x1 + 1)) (wrap64 (x5 + 1))) else (some (-1)))) else (none)) else (some x1)
def laws_heldStringS.f (k : Nat) (l0 : List ByteArray) (a1 : Int) : Option (Int) := laws_heldStringS.l0 k l0 a1 0
theorem laws_heldStringS.mono_l : ∀ k, (∀ y0 y1 y2, LeO (laws_heldStringS.l0 k y0 y1 y2) (laws_heldStringS.l0 (k + 1) y0 y1 y2))
  | 0 => fun _ _ _ r h => by simp [laws_heldStringS.l0] at h
  | k + 1 => by
    have ih0 := laws_heldStringS.mono_l k
    · intro y0 y1 y2; unfold laws_heldStringS.l0; repeat' first
      | (with_reducible exact ih0 _ _ _)
      | (with_reducible exact laws_markText.mono _ _)
      | (with_reducible exact LeO.refl _)
      | (with_reducible exact LeO.none _)
      | (with_reducible refine LeO.ite ?_ ?_)
      | (with_reducible refine LeO.bind ?_ (fun _ => ?_))
theorem laws_heldStringS.mono : ∀ a0 a1 k, LeO (laws_heldStringS.f k a0 a1) (laws_heldStringS.f (k + 1) a0 a1) := by
  intro a0 a1 k; have ih0 := laws_heldStringS.mono_l k; unfold laws_heldStringS.f; repeat' first
      | (with_reducible exact ih0 _ _ _)
      | (with_reducible exact laws_markText.mono _ _)
      | (with_reducible exact LeO.refl _)
      | (with_reducible exact LeO.none _)
      | (with_reducible refine LeO.ite ?_ ?_)
      | (with_reducible refine LeO.bind ?_ (fun _ => ?_))
set_option maxHeartbeats 8000000 in
set_option maxRecDepth 100000 in
theorem laws_heldStringS.calls (k : Nat) (A0 : Option Addr) (c0 : Nat) (l0 : List ByteArray) (a1 : Int) (r : Int) (w : World) (hr0 : Kd.C Kd.string w A0 l0.length l0) (hc0 : l0.length ≤ c0) (h : laws_heldStringS.f k l0 a1 = some r) :
    Calls Tryd.prog 14 #[.slice A0 l0.length c0, .int .i64 a1] w fun e w' => e = .returned (.int .i64 r) ∧ Below w.heap.size w w' := by
  have HR0 := Aside0.mk hr0; have HC0 := Aside0.mk hc0; clear hr0 hc0; have HB := Aside0.mk (Below.refl w.heap.size w); have H : (laws_heldStringS.l0 k l0 a1 0) = some r := h; clear h; have H' := Aside0.mk H; clear H; go_enter Tryd.func14, Tryd.ntmps14; go_wp2; go_loopg [1, 5] k (fun kq v1 v5 w' => ∃ (x1_1 : Int) (x5_1 : Int), v1 = .int .i64 x1_1 ∧ v5 = .int .i64 x5_1 ∧ Aside0 (laws_heldStringS.l0 kq l0 x1_1 x5_1 = some r) ∧ Aside0 (kq ≤ k) ∧ Aside0 (Below w.heap.size w w'))
  case atStart => exact ⟨(a1), (0), (by first | rfl | (simp; done) | (simp [*]; done)), (by first | rfl | (simp; done) | (simp [*]; done)), H', ⟨Nat.le_refl _⟩, ⟨By⟩⟩
  case round =>
    clear H'; try clear c1
    try clear p2
    obtain ⟨x1_1, x5_1, rfl, rfl, HA, HK1, HB⟩ := hrel; cases gk with
    | zero => exact absurd HA.out (by simp [laws_heldStringS.l0])
    | succ k1 =>
      have H := HA.out; clear HA; simp only [laws_heldStringS.l0] at H; by_cases c3 : x5_1 < (l0.length : Int)
      · rw [if_pos c3] at H; have c3b0 : decide (x5_1 < (l0.length : Int)) = true := decide_eq_true c3; clear c3; by_cases c4 : 0 ≤ x5_1
        · rw [if_pos c4] at H; have c4b0 : decide (0 ≤ x5_1) = true := decide_eq_true c4; clear c4; replace H := Option.bind_eq_some_iff.mp H; obtain ⟨t248, A50, H⟩ := H; (try dsimp only at H); have A5 := Aside0.mk A50; clear A50; by_cases c6 : (rdOf ByteArray.empty l0 x5_1).toList = t248.toList
          · rw [if_pos c6] at H; have c6b0 : ((rdOf ByteArray.empty l0 x5_1).toList == t248.toList) = true := beq_iff_eq.mpr c6; have c6b1 : ((rdOf ByteArray.empty l0 x5_1).toList != t248.toList) = false := bne_eq_false_iff_eq.mpr c6; clear c6; have H' := Aside0.mk H; clear H; try go_wp2
            have n0_ := Aside0.mk (below_drew1 HB.out); clear HB; have HB := n0_; clear n0_; have p247 : 0 ≤ (x5_1 : Int) := of_decide_eq_true Da; have q247 : x5_1 < (l0.length : Int) := of_decide_eq_true Da; obtain ⟨ad247, e247, hx247_0⟩ := Kd.at_string HR0.out x5_1 p247 q247; have hw247_0 := hx247_0; cases e247
            replace hx247_0 := bz HB.out hx247_0; replace p247 := eq_true p247; replace q247 := eq_true q247; refine start_ (n := 7) (S := fun w' => w'.cell? (ad247.add (x5_1).toNat) = some (.string (rdOf ByteArray.empty l0 x5_1))) (ds := []) (bv 7 0) (by kernel_rfl) rfl rfl ((bz HB.out hw247_0)) (fun hHeld => ?_); generalize wr.drew = w7 at HB hx247_0 hHeld ⊢; refine pure_ (i := 0) (N := some 12) (v := ?_) (a' := ?_) (bv 7 1) rfl rfl (by kernel_rfl) (fun _ _ _ h => h) (Or.inl ⟨by rfl, ?_⟩) ?_ ?_; rotate_left
            · intro w'; go_simp; with_reducible rfl
            rotate_left
            · simp only [Act.put, List.setIfInBounds_toArray, List.set_cons_zero, List.set_cons_succ, i64_w, i32_w]; rfl
            refine pure_ (i := 1) (N := some 13) (v := ?_) (a' := ?_) (bv 7 3) rfl rfl (by kernel_rfl) (fun _ _ _ h => h) (Or.inl ⟨by rfl, ?_⟩) ?_ ?_; rotate_left
            · intro w'; go_simp; with_reducible rfl
            rotate_left
            · simp only [Act.put, List.setIfInBounds_toArray, List.set_cons_zero, List.set_cons_succ, i64_w, i32_w]; rfl
            refine pure_ (i := 2) (N := some 14) (v := ?_) (a' := ?_) (bv 7 7) rfl rfl (by kernel_rfl) (fun _ _ _ h => h) (Or.inl ⟨by rfl, ?_⟩) ?_ ?_; rotate_left
            · intro w'; go_simp; with_reducible rfl
            rotate_left
            · simp only [Act.put, List.setIfInBounds_toArray, List.set_cons_zero, List.set_cons_succ, i64_w, i32_w]; rfl
            refine pure_ (i := 4) (N := some 16) (v := ?_) (a' := ?_) (bv 7 23) rfl rfl (by kernel_rfl) (fun _ _ _ h => h) (Or.inl ⟨by rfl, ?_⟩) ?_ ?_; rotate_left
            · intro w'; go_simp; with_reducible rfl
            rotate_left
            · simp only [Act.put, List.setIfInBounds_toArray, List.set_cons_zero, List.set_cons_succ, i64_w, i32_w]; rfl
            refine take_ (i := 3) (N := some 15) (v := ?_) (a' := ?_) (bv 7 31) rfl rfl (by kernel_rfl) (fun _ _ _ h => h) (Or.inl ⟨by rfl, ?_⟩) hHeld ?_ ?_; rotate_left
            · intro w' s0; go_simp; with_reducible rfl
            rotate_left
            · simp only [Act.put, List.setIfInBounds_toArray, List.set_cons_zero, List.set_cons_succ, i64_w, i32_w]; rfl
            refine one_ (i := 5) (N := some 17) (bv 7 63) rfl rfl (by kernel_rfl) (by decide) (fun K hK => ?_); refine goes_ Tryd.func44 (by kernel_rfl) rfl #[.int .i64 x1_1] (by rfl) rfl rfl Ag ?_; with_reducible refine (laws_markText.calls k1 x1_1 t248 _ A5.out).mono ?_
            rintro e w8 ⟨rfl, hb⟩; refine ⟨_, rfl, ?_⟩; have n0_ := Aside0.mk (below_step By hb); clear HB; have HB := n0_; clear n0_; (try clear hb); (try clear hb2); (try clear hk); (try clear hi); refine hK.out _ _ ((bz HB.out hw247_0)) (fun hHeld => ?_); clear hK K; refine norm_ (a' := ?_) ?_ ?_; rotate_left
            · show Act.put _ (some 17) _ = _; simp only [Act.put, List.setIfInBounds_toArray, List.set_cons_zero, List.set_cons_succ, i64_w, i32_w]; rfl
            refine pure_ (i := 6) (N := some 18) (v := ?_) (a' := ?_) (bv 7 127) rfl rfl (by kernel_rfl) (fun _ _ _ h => h) (Or.inl ⟨by rfl, ?_⟩) ?_ ?_; rotate_left
            · intro w'; go_simp; with_reducible rfl
            rotate_left
            · simp only [Act.put, List.setIfInBounds_toArray, List.set_cons_zero, List.set_cons_succ, i64_w, i32_w]; rfl
            refine done_ (by kernel_rfl) ?_; try go_wp2
            go_roundg k1
            case measure => have := HK1.out; omega
            case rel => exact ⟨(wrap64 (x1_1 + 1)), (wrap64 (x5_1 + 1)), (by first | rfl | (simp; done) | (simp [*]; done)), (by first | rfl | (simp; done) | (simp [*]; done)), H', ⟨by have := HK1.out; omega⟩, ⟨By⟩⟩
          · rw [if_neg c6] at H; have c6b0 : ((rdOf ByteArray.empty l0 x5_1).toList == t248.toList) = false := beq_eq_false_iff_ne.mpr c6; have c6b1 : ((rdOf ByteArray.empty l0 x5_1).toList != t248.toList) = true := bne_iff_ne.mpr c6; obtain rfl := Option.some.inj H; try go_wp2
            have n0_ := Aside0.mk (below_drew1 HB.out); clear HB; have HB := n0_; clear n0_; have p247 : 0 ≤ (x5_1 : Int) := of_decide_eq_true Da; have q247 : x5_1 < (l0.length : Int) := of_decide_eq_true Da; obtain ⟨ad247, e247, hx247_0⟩ := Kd.at_string HR0.out x5_1 p247 q247; have hw247_0 := hx247_0; cases e247
            replace hx247_0 := bz HB.out hx247_0; replace p247 := eq_true p247; replace q247 := eq_true q247; refine start_ (n := 7) (S := fun w' => w'.cell? (ad247.add (x5_1).toNat) = some (.string (rdOf ByteArray.empty l0 x5_1))) (ds := []) (bv 7 0) (by kernel_rfl) rfl rfl ((bz HB.out hw247_0)) (fun hHeld => ?_); generalize wr.drew = w9 at HB hx247_0 hHeld ⊢; refine pure_ (i := 0) (N := some 12) (v := ?_) (a' := ?_) (bv 7 1) rfl rfl (by kernel_rfl) (fun _ _ _ h => h) (Or.inl ⟨by rfl, ?_⟩) ?_ ?_; rotate_left
            · intro w'; go_simp; with_reducible rfl
            rotate_left
            · simp only [Act.put, List.setIfInBounds_toArray, List.set_cons_zero, List.set_cons_succ, i64_w, i32_w]; rfl
            refine pure_ (i := 1) (N := some 13) (v := ?_) (a' := ?_) (bv 7 3) rfl rfl (by kernel_rfl) (fun _ _ _ h => h) (Or.inl ⟨by rfl, ?_⟩) ?_ ?_; rotate_left
            · intro w'; go_simp; with_reducible rfl
            rotate_left
            · simp only [Act.put, List.setIfInBounds_toArray, List.set_cons_zero, List.set_cons_succ, i64_w, i32_w]; rfl
            refine pure_ (i := 2) (N := some 14) (v := ?_) (a' := ?_) (bv 7 7) rfl rfl (by kernel_rfl) (fun _ _ _ h => h) (Or.inl ⟨by rfl, ?_⟩) ?_ ?_; rotate_left
            · intro w'; go_simp; with_reducible rfl
            rotate_left
            · simp only [Act.put, List.setIfInBounds_toArray, List.set_cons_zero, List.set_cons_succ, i64_w, i32_w]; rfl
            refine pure_ (i := 4) (N := some 16) (v := ?_) (a' := ?_) (bv 7 23) rfl rfl (by kernel_rfl) (fun _ _ _ h => h) (Or.inl ⟨by rfl, ?_⟩) ?_ ?_; rotate_left
            · intro w'; go_simp; with_reducible rfl
            rotate_left
            · simp only [Act.put, List.setIfInBounds_toArray, List.set_cons_zero, List.set_cons_succ, i64_w, i32_w]; rfl
            refine take_ (i := 3) (N := some 15) (v := ?_) (a' := ?_) (bv 7 31) rfl rfl (by kernel_rfl) (fun _ _ _ h => h) (Or.inl ⟨by rfl, ?_⟩) hHeld ?_ ?_; rotate_left
            · intro w' s0; go_simp; with_reducible rfl
            rotate_left
            · simp only [Act.put, List.setIfInBounds_toArray, List.set_cons_zero, List.set_cons_succ, i64_w, i32_w]; rfl
            refine one_ (i := 5) (N := some 17) (bv 7 63) rfl rfl (by kernel_rfl) (by decide) (fun K hK => ?_); refine goes_ Tryd.func44 (by kernel_rfl) rfl #[.int .i64 x1_1] (by rfl) rfl rfl Ag ?_; with_reducible refine (laws_markText.calls k1 x1_1 t248 _ A5.out).mono ?_
            rintro e w10 ⟨rfl, hb⟩; refine ⟨_, rfl, ?_⟩; have n0_ := Aside0.mk (below_step By hb); clear HB; have HB := n0_; clear n0_; (try clear hb); (try clear hb2); (try clear hk); (try clear hi); refine hK.out _ _ ((bz HB.out hw247_0)) (fun hHeld => ?_); clear hK K; refine norm_ (a' := ?_) ?_ ?_; rotate_left
            · show Act.put _ (some 17) _ = _; simp only [Act.put, List.setIfInBounds_toArray, List.set_cons_zero, List.set_cons_succ, i64_w, i32_w]; rfl
            refine pure_ (i := 6) (N := some 18) (v := ?_) (a' := ?_) (bv 7 127) rfl rfl (by kernel_rfl) (fun _ _ _ h => h) (Or.inl ⟨by rfl, ?_⟩) ?_ ?_; rotate_left
            · intro w'; go_simp; with_reducible rfl
            rotate_left
            · simp only [Act.put, List.setIfInBounds_toArray, List.set_cons_zero, List.set_cons_succ, i64_w, i32_w]; rfl
            refine done_ (by kernel_rfl) ?_; try go_wp2
            go_ret; exact ⟨Rf, By⟩
        · rw [if_neg c4] at H; exact absurd H (by simp)
      · rw [if_neg c3] at H; have c3b0 : decide (x5_1 < (l0.length : Int)) = false := decide_eq_false c3; clear c3; obtain rfl := Option.some.inj H; go_wp2; go_ret; exact ⟨Rf, By⟩

set_option linter.unusedVariables false
set_option linter.unusedSimpArgs false

/-! ### spec_NameRight: function 92 -/
mutual
def spec_NameRight.j0 : Nat → ByteArray → Bool → Option (Bool)
  | 0, _, _ => none
  | k + 1, x0, x12 => if x12 = true then (some false) else (spec_NameRight.l0 k x0 0)
def spec_NameRight.l0 : Nat → ByteArray → Int → Option (Bool)
  | 0, _, _ => none
  | k + 1, x0, x3 => if x3 < (x0.size : Int) then (if 0 ≤ x3 then (if (bt x0 x3) ≥ 97 then (if ((bt x0 x3) ≤ 122) then (spec_NameRight.l0 k x0 (wrap64 (x3 + 1))) else (if x3 = 0 then (some false) else (if (bt x0 x3) ≥ 48 then (if ((bt x0 x3) ≤ 57) then (spec_NameRight.l0 k x0 (wrap64 (x3 + 1))) else (if (bt x0 x3) = 95 then (spec_NameRight.l0 k x0 (wrap64 (x3 + 1))) else (some false))) else (if (bt x0 x3) = 95 then (spec_NameRight.l0 k x0 (wrap64 (x3 + 1))) else (some false))))) else (if x3 = 0 then (some false) else (if (bt x0 x3) ≥ 48 then (if ((bt x0 x3) ≤ 57) then (spec_NameRight.l0 k x0 (wrap64 (x3 + 1))) else (if (bt x0 x3) = 95 then (spec_NameRight.l0 k x0 (wrap64 (x3 + 1))) else (some false))) else (if (bt x0 x3) = 95 then (spec_NameRight.l0 k x0 (wrap64 (x3 + 1))) else (some false))))) else (none)) else (some true)
end
def spec_NameRight.f (k : Nat) (a0 : ByteArray) : Option (Bool) := if (a0.size : Int) < 1 then (spec_NameRight.j0 k a0 true) else (spec_NameRight.j0 k a0 (decide ((a0.size : Int) > 20)))
theorem spec_NameRight.mono_l : ∀ k, (∀ y0 y1, LeO (spec_NameRight.j0 k y0 y1) (spec_NameRight.j0 (k + 1) y0 y1)) ∧ (∀ y0 y1, LeO (spec_NameRight.l0 k y0 y1) (spec_NameRight.l0 (k + 1) y0 y1))
  | 0 => ⟨fun _ _ r h => by simp [spec_NameRight.j0] at h, fun _ _ r h => by simp [spec_NameRight.l0] at h⟩
  | k + 1 => by
    obtain ⟨ih0, ih1⟩ := spec_NameRight.mono_l k; refine ⟨?_, ?_⟩
    · intro y0 y1; unfold spec_NameRight.j0; repeat' first
      | (with_reducible exact ih0 _ _)
      | (with_reducible exact ih1 _ _)
      | (with_reducible exact LeO.refl _)
      | (with_reducible exact LeO.none _)
      | (with_reducible refine LeO.ite ?_ ?_)
      | (with_reducible refine LeO.bind ?_ (fun _ => ?_))
    · intro y0 y1; unfold spec_NameRight.l0; repeat' first
      | (with_reducible exact ih0 _ _)
      | (with_reducible exact ih1 _ _)
      | (with_reducible exact LeO.refl _)
      | (with_reducible exact LeO.none _)
      | (with_reducible refine LeO.ite ?_ ?_)
      | (with_reducible refine LeO.bind ?_ (fun _ => ?_))
theorem spec_NameRight.mono : ∀ a0 k, LeO (spec_NameRight.f k a0) (spec_NameRight.f (k + 1) a0) := by
  intro a0 k; obtain ⟨ih0, ih1⟩ := spec_NameRight.mono_l k; unfold spec_NameRight.f; repeat' first
      | (with_reducible exact ih0 _ _)
      | (with_reducible exact ih1 _ _)
      | (with_reducible exact LeO.refl _)
      | (with_reducible exact LeO.none _)
      | (with_reducible refine LeO.ite ?_ ?_)
      | (with_reducible refine LeO.bind ?_ (fun _ => ?_))
set_option maxHeartbeats 8000000 in
set_option maxRecDepth 100000 in
theorem spec_NameRight.calls (k : Nat) (a0 : ByteArray) (r : Bool) (w : World) (h : spec_NameRight.f k a0 = some r) :
    Calls Tryd.prog 92 #[.string a0] w fun e w' => e = .returned (.bool r) ∧ Drawn0 w w' := by
  have H : (if (a0.size : Int) < 1 then (spec_NameRight.j0 k a0 true) else (spec_NameRight.j0 k a0 (decide ((a0.size : Int) > 20)))) = some r := h; clear h; have HC2 := Aside0.mk H; clear H; go_enter Tryd.func92, Tryd.ntmps92; go_upto_region 1 with (fail); go_cut [12] (fun v12 wc => ∃ (kq : Nat) (x12_1 : Bool), v12 = .bool x12_1 ∧ Aside0 (spec_NameRight.j0 kq a0 x12_1 = some r) ∧ Aside0 (kq ≤ k) ∧ Drawn0 w wc)
  case first =>
    have H := HC2.out; clear HC2; by_cases c3 : (a0.size : Int) < 1
    · rw [if_pos c3] at H; have c3b0 : decide ((a0.size : Int) < 1) = true := decide_eq_true c3; have c3b1 : decide (a0.size < 1) = true := decide_eq_true (by omega); clear c3; (first | rw [c3b0] | (simp only [i64_w, i32_w]; rw [c3b0]) | skip); have H' := Aside0.mk H; clear H; go_wp2; go_meet
      case rel => exact ⟨_, (true), (by first | rfl | (simp; done) | (simp [*]; done)), H', ⟨by first | omega | exact Nat.le_refl _⟩, by repeat (first | exact Drawn0.refl _ | apply Drawn0.step)⟩
    · rw [if_neg c3] at H; have c3b0 : decide ((a0.size : Int) < 1) = false := decide_eq_false c3; have c3b1 : decide (a0.size < 1) = false := decide_eq_false (by omega); clear c3; (first | rw [c3b0] | (simp only [i64_w, i32_w]; rw [c3b0]) | skip); have H' := Aside0.mk H; clear H; go_wp2; go_meet
      case rel => exact ⟨_, (decide ((a0.size : Int) > 20)), (by first | rfl | (simp; done) | (simp [*]; done)), H', ⟨by first | omega | exact Nat.le_refl _⟩, by repeat (first | exact Drawn0.refl _ | apply Drawn0.step)⟩
  case rest =>
    clear HC2; try clear p2
    try clear c3
    try clear c3b0
    try clear c3b1
    obtain ⟨kq, x12_1, rfl, HA, HJ1, ⟨mc1, rfl⟩⟩ := hcut; cases kq with
    | zero => exact absurd HA.out (by simp [spec_NameRight.j0])
    | succ kj1 =>
      have H := HA.out; clear HA; simp only [spec_NameRight.j0] at H; by_cases c4 : x12_1 = true
      · subst c4; rw [if_pos rfl] at H; obtain rfl := Option.some.inj H; go_wp2; go_ret; exact ⟨by first | rfl | (simp; done) | (simp [*]; done), by repeat (first | exact Drawn0.refl _ | apply Drawn0.step)⟩
      · replace c4 := Bool.eq_false_iff.mpr c4; subst c4; rw [if_neg (show ¬ (false = true) by decide)] at H; have H' := Aside0.mk H; clear H; go_wp2; go_loopg [3] kj1 (fun kq v3 w' => ∃ (x3_2 : Int), v3 = .int .i64 x3_2 ∧ Aside0 (spec_NameRight.l0 kq a0 x3_2 = some r) ∧ Aside0 (kq ≤ kj1) ∧ Drawn0 w w')
        case atStart => exact ⟨(0), (by first | rfl | (simp; done) | (simp [*]; done)), H', ⟨Nat.le_refl _⟩, by repeat (first | exact Drawn0.refl _ | apply Drawn0.step)⟩
        case round =>
          clear H'; try clear c1
          try clear p2
          try clear c3
          try clear c3b0
          try clear c3b1
          try clear c4
          try clear p2
          obtain ⟨x3_2, rfl, HA, HK2, ⟨m2, rfl⟩⟩ := hrel; cases gk with
          | zero => exact absurd HA.out (by simp [spec_NameRight.l0])
          | succ k2 =>
            have H := HA.out; clear HA; simp only [spec_NameRight.l0] at H; by_cases c5 : x3_2 < (a0.size : Int)
            · rw [if_pos c5] at H; have c5b0 : decide (x3_2 < (a0.size : Int)) = true := decide_eq_true c5; clear c5; by_cases c6 : 0 ≤ x3_2
              · rw [if_pos c6] at H; have c6b0 : decide (0 ≤ x3_2) = true := decide_eq_true c6; clear c6; by_cases c8 : (bt a0 x3_2) ≥ 97
                · rw [if_pos c8] at H; have c8b0 : decide (97 ≤ (bt a0 x3_2)) = true := decide_eq_true c8; clear c8; by_cases c9 : ((bt a0 x3_2) ≤ 122)
                  · rw [if_pos c9] at H; have c9b0 : decide ((bt a0 x3_2) ≤ 122) = true := decide_eq_true c9; clear c9; have H' := Aside0.mk H; clear H; have p7 : 0 ≤ (x3_2 : Int) := of_decide_eq_true Da; have q7 : x3_2 < (a0.size : Int) := of_decide_eq_true Da; have hx7 := bt_at a0 x3_2; replace p7 := eq_true p7; replace q7 := eq_true q7; go_wp2; go_roundg k2
                    case measure => have := HJ1.out; have := HK2.out; omega
                    case rel => exact ⟨(wrap64 (x3_2 + 1)), (by first | rfl | (simp; done) | (simp [*]; done)), H', ⟨by have := HJ1.out; have := HK2.out; omega⟩, by repeat (first | exact Drawn0.refl _ | apply Drawn0.step)⟩
                  · rw [if_neg c9] at H; have c9b0 : decide ((bt a0 x3_2) ≤ 122) = false := decide_eq_false c9; clear c9; by_cases c10 : x3_2 = 0
                    · rw [if_pos c10] at H; have c10b0 : (x3_2 == 0) = true := beq_iff_eq.mpr c10; have c10b1 : (x3_2 != 0) = false := bne_eq_false_iff_eq.mpr c10; clear c10; obtain rfl := Option.some.inj H; have p7 : 0 ≤ (x3_2 : Int) := of_decide_eq_true Da; have q7 : x3_2 < (a0.size : Int) := of_decide_eq_true Da; have hx7 := bt_at a0 x3_2; replace p7 := eq_true p7; replace q7 := eq_true q7; go_wp2; go_ret; exact ⟨by first | rfl | (simp; done) | (simp [*]; done), by repeat (first | exact Drawn0.refl _ | apply Drawn0.step)⟩
                    · rw [if_neg c10] at H; have c10b0 : (x3_2 == 0) = false := beq_eq_false_iff_ne.mpr c10; have c10b1 : (x3_2 != 0) = true := bne_iff_ne.mpr c10; by_cases c11 : (bt a0 x3_2) ≥ 48
                      · rw [if_pos c11] at H; have c11b0 : decide (48 ≤ (bt a0 x3_2)) = true := decide_eq_true c11; clear c11; by_cases c12 : ((bt a0 x3_2) ≤ 57)
                        · rw [if_pos c12] at H; have c12b0 : decide ((bt a0 x3_2) ≤ 57) = true := decide_eq_true c12; clear c12; have H' := Aside0.mk H; clear H; have p7 : 0 ≤ (x3_2 : Int) := of_decide_eq_true Da; have q7 : x3_2 < (a0.size : Int) := of_decide_eq_true Da; have hx7 := bt_at a0 x3_2; replace p7 := eq_true p7; replace q7 := eq_true q7; go_wp2; go_roundg k2
                          case measure => have := HJ1.out; have := HK2.out; omega
                          case rel => exact ⟨(wrap64 (x3_2 + 1)), (by first | rfl | (simp; done) | (simp [*]; done)), H', ⟨by have := HJ1.out; have := HK2.out; omega⟩, by repeat (first | exact Drawn0.refl _ | apply Drawn0.step)⟩
                        · rw [if_neg c12] at H; have c12b0 : decide ((bt a0 x3_2) ≤ 57) = false := decide_eq_false c12; clear c12; by_cases c13 : (bt a0 x3_2) = 95
                          · rw [if_pos c13] at H; have c13b0 : ((bt a0 x3_2) == 95) = true := beq_iff_eq.mpr c13; have c13b1 : ((bt a0 x3_2) != 95) = false := bne_eq_false_iff_eq.mpr c13; clear c13; have H' := Aside0.mk H; clear H; have p7 : 0 ≤ (x3_2 : Int) := of_decide_eq_true Da; have q7 : x3_2 < (a0.size : Int) := of_decide_eq_true Da; have hx7 := bt_at a0 x3_2; replace p7 := eq_true p7; replace q7 := eq_true q7; go_wp2; go_roundg k2
                            case measure => have := HJ1.out; have := HK2.out; omega
                            case rel => exact ⟨(wrap64 (x3_2 + 1)), (by first | rfl | (simp; done) | (simp [*]; done)), H', ⟨by have := HJ1.out; have := HK2.out; omega⟩, by repeat (first | exact Drawn0.refl _ | apply Drawn0.step)⟩
                          · rw [if_neg c13] at H; have c13b0 : ((bt a0 x3_2) == 95) = false := beq_eq_false_iff_ne.mpr c13; have c13b1 : ((bt a0 x3_2) != 95) = true := bne_iff_ne.mpr c13; obtain rfl := Option.some.inj H; have p7 : 0 ≤ (x3_2 : Int) := of_decide_eq_true Da; have q7 : x3_2 < (a0.size : Int) := of_decide_eq_true Da; have hx7 := bt_at a0 x3_2; replace p7 := eq_true p7; replace q7 := eq_true q7; go_wp2; go_ret; exact ⟨by first | rfl | (simp; done) | (simp [*]; done), by repeat (first | exact Drawn0.refl _ | apply Drawn0.step)⟩
                      · rw [if_neg c11] at H; have c11b0 : decide (48 ≤ (bt a0 x3_2)) = false := decide_eq_false c11; clear c11; by_cases c14 : (bt a0 x3_2) = 95
                        · rw [if_pos c14] at H; have c14b0 : ((bt a0 x3_2) == 95) = true := beq_iff_eq.mpr c14; have c14b1 : ((bt a0 x3_2) != 95) = false := bne_eq_false_iff_eq.mpr c14; clear c14; have H' := Aside0.mk H; clear H; have p7 : 0 ≤ (x3_2 : Int) := of_decide_eq_true Da; have q7 : x3_2 < (a0.size : Int) := of_decide_eq_true Da; have hx7 := bt_at a0 x3_2; replace p7 := eq_true p7; replace q7 := eq_true q7; go_wp2; go_roundg k2
                          case measure => have := HJ1.out; have := HK2.out; omega
                          case rel => exact ⟨(wrap64 (x3_2 + 1)), (by first | rfl | (simp; done) | (simp [*]; done)), H', ⟨by have := HJ1.out; have := HK2.out; omega⟩, by repeat (first | exact Drawn0.refl _ | apply Drawn0.step)⟩
                        · rw [if_neg c14] at H; have c14b0 : ((bt a0 x3_2) == 95) = false := beq_eq_false_iff_ne.mpr c14; have c14b1 : ((bt a0 x3_2) != 95) = true := bne_iff_ne.mpr c14; obtain rfl := Option.some.inj H; have p7 : 0 ≤ (x3_2 : Int) := of_decide_eq_true Da; have q7 : x3_2 < (a0.size : Int) := of_decide_eq_true Da; have hx7 := bt_at a0 x3_2; replace p7 := eq_true p7; replace q7 := eq_true q7; go_wp2; go_ret; exact ⟨by first | rfl | (simp; done) | (simp [*]; done), by repeat (first | exact Drawn0.refl _ | apply Drawn0.step)⟩
                · rw [if_neg c8] at H; have c8b0 : decide (97 ≤ (bt a0 x3_2)) = false := decide_eq_false c8; clear c8; by_cases c15 : x3_2 = 0
                  · rw [if_pos c15] at H; have c15b0 : (x3_2 == 0) = true := beq_iff_eq.mpr c15; have c15b1 : (x3_2 != 0) = false := bne_eq_false_iff_eq.mpr c15; clear c15; obtain rfl := Option.some.inj H; have p7 : 0 ≤ (x3_2 : Int) := of_decide_eq_true Da; have q7 : x3_2 < (a0.size : Int) := of_decide_eq_true Da; have hx7 := bt_at a0 x3_2; replace p7 := eq_true p7; replace q7 := eq_true q7; go_wp2; go_ret; exact ⟨by first | rfl | (simp; done) | (simp [*]; done), by repeat (first | exact Drawn0.refl _ | apply Drawn0.step)⟩
                  · rw [if_neg c15] at H; have c15b0 : (x3_2 == 0) = false := beq_eq_false_iff_ne.mpr c15; have c15b1 : (x3_2 != 0) = true := bne_iff_ne.mpr c15; by_cases c16 : (bt a0 x3_2) ≥ 48
                    · rw [if_pos c16] at H; have c16b0 : decide (48 ≤ (bt a0 x3_2)) = true := decide_eq_true c16; clear c16; by_cases c17 : ((bt a0 x3_2) ≤ 57)
                      · rw [if_pos c17] at H; have c17b0 : decide ((bt a0 x3_2) ≤ 57) = true := decide_eq_true c17; clear c17; have H' := Aside0.mk H; clear H; have p7 : 0 ≤ (x3_2 : Int) := of_decide_eq_true Da; have q7 : x3_2 < (a0.size : Int) := of_decide_eq_true Da; have hx7 := bt_at a0 x3_2; replace p7 := eq_true p7; replace q7 := eq_true q7; go_wp2; go_roundg k2
                        case measure => have := HJ1.out; have := HK2.out; omega
                        case rel => exact ⟨(wrap64 (x3_2 + 1)), (by first | rfl | (simp; done) | (simp [*]; done)), H', ⟨by have := HJ1.out; have := HK2.out; omega⟩, by repeat (first | exact Drawn0.refl _ | apply Drawn0.step)⟩
                      · rw [if_neg c17] at H; have c17b0 : decide ((bt a0 x3_2) ≤ 57) = false := decide_eq_false c17; clear c17; by_cases c18 : (bt a0 x3_2) = 95
                        · rw [if_pos c18] at H; have c18b0 : ((bt a0 x3_2) == 95) = true := beq_iff_eq.mpr c18; have c18b1 : ((bt a0 x3_2) != 95) = false := bne_eq_false_iff_eq.mpr c18; clear c18; have H' := Aside0.mk H; clear H; have p7 : 0 ≤ (x3_2 : Int) := of_decide_eq_true Da; have q7 : x3_2 < (a0.size : Int) := of_decide_eq_true Da; have hx7 := bt_at a0 x3_2; replace p7 := eq_true p7; replace q7 := eq_true q7; go_wp2; go_roundg k2
                          case measure => have := HJ1.out; have := HK2.out; omega
                          case rel => exact ⟨(wrap64 (x3_2 + 1)), (by first | rfl | (simp; done) | (simp [*]; done)), H', ⟨by have := HJ1.out; have := HK2.out; omega⟩, by repeat (first | exact Drawn0.refl _ | apply Drawn0.step)⟩
                        · rw [if_neg c18] at H; have c18b0 : ((bt a0 x3_2) == 95) = false := beq_eq_false_iff_ne.mpr c18; have c18b1 : ((bt a0 x3_2) != 95) = true := bne_iff_ne.mpr c18; obtain rfl := Option.some.inj H; have p7 : 0 ≤ (x3_2 : Int) := of_decide_eq_true Da; have q7 : x3_2 < (a0.size : Int) := of_decide_eq_true Da; have hx7 := bt_at a0 x3_2; replace p7 := eq_true p7; replace q7 := eq_true q7; go_wp2; go_ret; exact ⟨by first | rfl | (simp; done) | (simp [*]; done), by repeat (first | exact Drawn0.refl _ | apply Drawn0.step)⟩
                    · rw [if_neg c16] at H; have c16b0 : decide (48 ≤ (bt a0 x3_2)) = false := decide_eq_false c16; clear c16; by_cases c19 : (bt a0 x3_2) = 95
                      · rw [if_pos c19] at H; have c19b0 : ((bt a0 x3_2) == 95) = true := beq_iff_eq.mpr c19; have c19b1 : ((bt a0 x3_2) != 95) = false := bne_eq_false_iff_eq.mpr c19; clear c19; have H' := Aside0.mk H; clear H; have p7 : 0 ≤ (x3_2 : Int) := of_decide_eq_true Da; have q7 : x3_2 < (a0.size : Int) := of_decide_eq_true Da; have hx7 := bt_at a0 x3_2; replace p7 := eq_true p7; replace q7 := eq_true q7; go_wp2; go_roundg k2
                        case measure => have := HJ1.out; have := HK2.out; omega
                        case rel => exact ⟨(wrap64 (x3_2 + 1)), (by first | rfl | (simp; done) | (simp [*]; done)), H', ⟨by have := HJ1.out; have := HK2.out; omega⟩, by repeat (first | exact Drawn0.refl _ | apply Drawn0.step)⟩
                      · rw [if_neg c19] at H; have c19b0 : ((bt a0 x3_2) == 95) = false := beq_eq_false_iff_ne.mpr c19; have c19b1 : ((bt a0 x3_2) != 95) = true := bne_iff_ne.mpr c19; obtain rfl := Option.some.inj H; have p7 : 0 ≤ (x3_2 : Int) := of_decide_eq_true Da; have q7 : x3_2 < (a0.size : Int) := of_decide_eq_true Da; have hx7 := bt_at a0 x3_2; replace p7 := eq_true p7; replace q7 := eq_true q7; go_wp2; go_ret; exact ⟨by first | rfl | (simp; done) | (simp [*]; done), by repeat (first | exact Drawn0.refl _ | apply Drawn0.step)⟩
              · rw [if_neg c6] at H; exact absurd H (by simp)
            · rw [if_neg c5] at H; have c5b0 : decide (x3_2 < (a0.size : Int)) = false := decide_eq_false c5; clear c5; obtain rfl := Option.some.inj H; go_wp2; go_ret; exact ⟨by first | rfl | (simp; done) | (simp [*]; done), by repeat (first | exact Drawn0.refl _ | apply Drawn0.step)⟩

set_option linter.unusedVariables false
set_option linter.unusedSimpArgs false

/-! ### spec_l02Plain: function 125 -/
def spec_l02Plain.l0 : Nat → ByteArray → Int → Option (Bool)
  | 0, _, _ => none
  | k + 1, x0, x3 => if x3 < (x0.size : Int) then (if 0 ≤ x3 then (if (bt x0 x3) < 32 then (some false) else (if (bt x0 x3) > 126 then (some false) else (spec_l02Plain.l0 k x0 (wrap64 (x3 + 1))))) else (none)) else (some true)
def spec_l02Plain.f (k : Nat) (a0 : ByteArray) : Option (Bool) := spec_l02Plain.l0 k a0 0
theorem spec_l02Plain.mono_l : ∀ k, (∀ y0 y1, LeO (spec_l02Plain.l0 k y0 y1) (spec_l02Plain.l0 (k + 1) y0 y1))
  | 0 => fun _ _ r h => by simp [spec_l02Plain.l0] at h
  | k + 1 => by
    have ih0 := spec_l02Plain.mono_l k
    · intro y0 y1; unfold spec_l02Plain.l0; repeat' first
      | (with_reducible exact ih0 _ _)
      | (with_reducible exact LeO.refl _)
      | (with_reducible exact LeO.none _)
      | (with_reducible refine LeO.ite ?_ ?_)
      | (with_reducible refine LeO.bind ?_ (fun _ => ?_))
theorem spec_l02Plain.mono : ∀ a0 k, LeO (spec_l02Plain.f k a0) (spec_l02Plain.f (k + 1) a0) := by
  intro a0 k; have ih0 := spec_l02Plain.mono_l k; unfold spec_l02Plain.f; repeat' first
      | (with_reducible exact ih0 _ _)
      | (with_reducible exact LeO.refl _)
      | (with_reducible exact LeO.none _)
      | (with_reducible refine LeO.ite ?_ ?_)
      | (with_reducible refine LeO.bind ?_ (fun _ => ?_))
set_option maxHeartbeats 8000000 in
set_option maxRecDepth 100000 in
theorem spec_l02Plain.calls (k : Nat) (a0 : ByteArray) (r : Bool) (w : World) (h : spec_l02Plain.f k a0 = some r) :
    Calls Tryd.prog 125 #[.string a0] w fun e w' => e = .returned (.bool r) ∧ Drawn0 w w' := by
  have H : (spec_l02Plain.l0 k a0 0) = some r := h; clear h; have H' := Aside0.mk H; clear H; go_enter Tryd.func125, Tryd.ntmps125; go_wp2; go_loopg [3] k (fun kq v3 w' => ∃ (x3_1 : Int), v3 = .int .i64 x3_1 ∧ Aside0 (spec_l02Plain.l0 kq a0 x3_1 = some r) ∧ Aside0 (kq ≤ k) ∧ Drawn0 w w')
  case atStart => exact ⟨(0), (by first | rfl | (simp; done) | (simp [*]; done)), H', ⟨Nat.le_refl _⟩, by repeat (first | exact Drawn0.refl _ | apply Drawn0.step)⟩
  case round =>
    clear H'; try clear c1
    obtain ⟨x3_1, rfl, HA, HK1, ⟨m1, rfl⟩⟩ := hrel; cases gk with
    | zero => exact absurd HA.out (by simp [spec_l02Plain.l0])
    | succ k1 =>
      have H := HA.out; clear HA; simp only [spec_l02Plain.l0] at H; by_cases c2 : x3_1 < (a0.size : Int)
      · rw [if_pos c2] at H; have c2b0 : decide (x3_1 < (a0.size : Int)) = true := decide_eq_true c2; clear c2; by_cases c3 : 0 ≤ x3_1
        · rw [if_pos c3] at H; have c3b0 : decide (0 ≤ x3_1) = true := decide_eq_true c3; clear c3; by_cases c5 : (bt a0 x3_1) < 32
          · rw [if_pos c5] at H; have c5b0 : decide ((bt a0 x3_1) < 32) = true := decide_eq_true c5; clear c5; obtain rfl := Option.some.inj H; have p4 : 0 ≤ (x3_1 : Int) := of_decide_eq_true Da; have q4 : x3_1 < (a0.size : Int) := of_decide_eq_true Da; have hx4 := bt_at a0 x3_1; replace p4 := eq_true p4; replace q4 := eq_true q4; go_wp2; go_ret; exact ⟨by first | rfl | (simp; done) | (simp [*]; done), by repeat (first | exact Drawn0.refl _ | apply Drawn0.step)⟩
          · rw [if_neg c5] at H; have c5b0 : decide ((bt a0 x3_1) < 32) = false := decide_eq_false c5; clear c5; by_cases c7 : (bt a0 x3_1) > 126
            · rw [if_pos c7] at H; have c7b0 : decide (126 < (bt a0 x3_1)) = true := decide_eq_true c7; clear c7; obtain rfl := Option.some.inj H; have p4 : 0 ≤ (x3_1 : Int) := of_decide_eq_true Da; have q4 : x3_1 < (a0.size : Int) := of_decide_eq_true Da; have hx4 := bt_at a0 x3_1; replace p4 := eq_true p4; replace q4 := eq_true q4; have p6 : 0 ≤ (x3_1 : Int) := of_decide_eq_true Da; have q6 : x3_1 < (a0.size : Int) := of_decide_eq_true Da; have hx6 := bt_at a0 x3_1; replace p6 := eq_true p6; replace q6 := eq_true q6; go_wp2; go_ret; exact ⟨by first | rfl | (simp; done) | (simp [*]; done), by repeat (first | exact Drawn0.refl _ | apply Drawn0.step)⟩
            · rw [if_neg c7] at H; have c7b0 : decide (126 < (bt a0 x3_1)) = false := decide_eq_false c7; clear c7; have H' := Aside0.mk H; clear H; have p4 : 0 ≤ (x3_1 : Int) := of_decide_eq_true Da; have q4 : x3_1 < (a0.size : Int) := of_decide_eq_true Da; have hx4 := bt_at a0 x3_1; replace p4 := eq_true p4; replace q4 := eq_true q4; have p6 : 0 ≤ (x3_1 : Int) := of_decide_eq_true Da; have q6 : x3_1 < (a0.size : Int) := of_decide_eq_true Da; have hx6 := bt_at a0 x3_1; replace p6 := eq_true p6; replace q6 := eq_true q6; go_wp2; go_roundg k1
              case measure => have := HK1.out; omega
              case rel => exact ⟨(wrap64 (x3_1 + 1)), (by first | rfl | (simp; done) | (simp [*]; done)), H', ⟨by have := HK1.out; omega⟩, by repeat (first | exact Drawn0.refl _ | apply Drawn0.step)⟩
        · rw [if_neg c3] at H; exact absurd H (by simp)
      · rw [if_neg c2] at H; have c2b0 : decide (x3_1 < (a0.size : Int)) = false := decide_eq_false c2; clear c2; obtain rfl := Option.some.inj H; go_wp2; go_ret; exact ⟨by first | rfl | (simp; done) | (simp [*]; done), by repeat (first | exact Drawn0.refl _ | apply Drawn0.step)⟩

/-- THE ONE PURE STATEMENT of spec_l02Plain: yours. -/
def spec_l02Plain.Pure : Prop := ∀ (a0 : ByteArray), a0.size ≤ 140737488351232 → ∃ k, spec_l02Plain.f k a0 = some true
theorem spec_l02Plain.walk (P : spec_l02Plain.Pure) (a0 : ByteArray) (w : World) (w0 : a0.size ≤ 140737488351232) :
    Calls Tryd.prog 125 #[.string a0] w fun e w' => e = .returned (.bool true) ∧ Below w.heap.size w w' := by
  obtain ⟨k, h⟩ := P a0 w0; refine (spec_l02Plain.calls k a0 true w h).mono ?_; rintro e w' ⟨rfl, hd⟩; exact ⟨rfl, hd.below⟩

set_option linter.unusedVariables false
set_option linter.unusedSimpArgs false

/-! ### spec_Norm: function 119 -/
mutual
def spec_Norm.j0 : Nat → ByteArray → Bool → Option (ByteArray)
  | 0, _, _ => none
  | k + 1, x0, x13 => if x13 = true then (some (⟨#[]⟩ : ByteArray)) else (spec_Norm.l0 k x0 (([] : List Int)) 0)
def spec_Norm.l0 : Nat → ByteArray → List Int → Int → Option (ByteArray)
  | 0, _, _, _ => none
  | k + 1, x0, x3, x4 => if x4 < (x0.size : Int) then (if 0 ≤ x4 then (if (bt x0 x4) ≥ 65 then (spec_Norm.j2 k x0 x3 x4 (bt x0 x4) (decide ((bt x0 x4) ≤ 90))) else (spec_Norm.j2 k x0 x3 x4 (bt x0 x4) false)) else (none)) else (if (x3.length : Int) > 0 then (if 0 ≤ (wrap64 ((x3.length : Int) - 1)) then (if (wrap64 ((x3.length : Int) - 1)) < (x3.length : Int) then (if (rd x3 (wrap64 ((x3.length : Int) - 1))) = 32 then (if (wrap64 ((x3.length : Int) - 1)) ≤ (x3.length : Int) then (some (strOfNums (x3.take ((wrap64 ((x3.length : Int) - 1)) : Int).toNat))) else (none)) else (some (strOfNums x3))) else (none)) else (none)) else (some (strOfNums x3)))
def spec_Norm.j2 : Nat → ByteArray → List Int → Int → Int → Bool → Option (ByteArray)
  | 0, _, _, _, _, _ => none
  | k + 1, x0, x3, x4, x5, x29 => if x29 = true then (if ((x5 + 32) % 256) = 32 then (if (x3.length : Int) = 0 then (spec_Norm.l0 k x0 x3 (wrap64 (x4 + 1))) else (if 0 ≤ (wrap64 ((x3.length : Int) - 1)) then (if (wrap64 ((x3.length : Int) - 1)) < (x3.length : Int) then (if (rd x3 (wrap64 ((x3.length : Int) - 1))) = 32 then (spec_Norm.l0 k x0 x3 (wrap64 (x4 + 1))) else (if x3.length < 140737488355328 then (spec_Norm.l0 k x0 (x3 ++ [(x5 + 32) % 256]) (wrap64 (x4 + 1))) else (none))) else (none)) else (none))) else (if x3.length < 140737488355328 then (spec_Norm.l0 k x0 (x3 ++ [(x5 + 32) % 256]) (wrap64 (x4 + 1))) else (none))) else (if x5 = 32 then (if (x3.length : Int) = 0 then (spec_Norm.l0 k x0 x3 (wrap64 (x4 + 1))) else (if 0 ≤ (wrap64 ((x3.length : Int) - 1)) then (if (wrap64 ((x3.length : Int) - 1)) < (x3.length : Int) then (if (rd x3 (wrap64 ((x3.length : Int) - 1))) = 32 then (spec_Norm.l0 k x0 x3 (wrap64 (x4 + 1))) else (if x3.length < 140737488355328 then (spec_Norm.l0 k x0 (x3 ++ [x5]) (wrap64 (x4 + 1))) else (none))) else (none)) else (none))) else (if x3.length < 140737488355328 then (spec_Norm.l0 k x0 (x3 ++ [x5]) (wrap64 (x4 + 1))) else (none)))
end
def spec_Norm.f (k : Nat) (a0 : ByteArray) : Option (ByteArray) := if (a0.size : Int) > 100 then (spec_Norm.j0 k a0 true) else ((spec_l02Plain.f k a0).bind fun t112 => (spec_Norm.j0 k a0 (!t112)))
theorem spec_Norm.mono_l : ∀ k, (∀ y0 y1, LeO (spec_Norm.j0 k y0 y1) (spec_Norm.j0 (k + 1) y0 y1)) ∧ (∀ y0 y1 y2, LeO (spec_Norm.l0 k y0 y1 y2) (spec_Norm.l0 (k + 1) y0 y1 y2)) ∧ (∀ y0 y1 y2 y3 y4, LeO (spec_Norm.j2 k y0 y1 y2 y3 y4) (spec_Norm.j2 (k + 1) y0 y1 y2 y3 y4))
  | 0 => ⟨fun _ _ r h => by simp [spec_Norm.j0] at h, fun _ _ _ r h => by simp [spec_Norm.l0] at h, fun _ _ _ _ _ r h => by simp [spec_Norm.j2] at h⟩
  | k + 1 => by
    obtain ⟨ih0, ih1, ih2⟩ := spec_Norm.mono_l k; refine ⟨?_, ?_, ?_⟩
    · intro y0 y1; unfold spec_Norm.j0; repeat' first
      | (with_reducible exact ih0 _ _)
      | (with_reducible exact ih1 _ _ _)
      | (with_reducible exact ih2 _ _ _ _ _)
      | (with_reducible exact spec_l02Plain.mono _ _)
      | (with_reducible exact LeO.refl _)
      | (with_reducible exact LeO.none _)
      | (with_reducible refine LeO.ite ?_ ?_)
      | (with_reducible refine LeO.bind ?_ (fun _ => ?_))
    · intro y0 y1 y2; unfold spec_Norm.l0; repeat' first
      | (with_reducible exact ih0 _ _)
      | (with_reducible exact ih1 _ _ _)
      | (with_reducible exact ih2 _ _ _ _ _)
      | (with_reducible exact spec_l02Plain.mono _ _)
      | (with_reducible exact LeO.refl _)
      | (with_reducible exact LeO.none _)
      | (with_reducible refine LeO.ite ?_ ?_)
      | (with_reducible refine LeO.bind ?_ (fun _ => ?_))
    · intro y0 y1 y2 y3 y4; unfold spec_Norm.j2; repeat' first
      | (with_reducible exact ih0 _ _)
      | (with_reducible exact ih1 _ _ _)
      | (with_reducible exact ih2 _ _ _ _ _)
      | (with_reducible exact spec_l02Plain.mono _ _)
      | (with_reducible exact LeO.refl _)
      | (with_reducible exact LeO.none _)
      | (with_reducible refine LeO.ite ?_ ?_)
      | (with_reducible refine LeO.bind ?_ (fun _ => ?_))
theorem spec_Norm.mono : ∀ a0 k, LeO (spec_Norm.f k a0) (spec_Norm.f (k + 1) a0) := by
  intro a0 k; obtain ⟨ih0, ih1, ih2⟩ := spec_Norm.mono_l k; unfold spec_Norm.f; repeat' first
      | (with_reducible exact ih0 _ _)
      | (with_reducible exact ih1 _ _ _)
      | (with_reducible exact ih2 _ _ _ _ _)
      | (with_reducible exact spec_l02Plain.mono _ _)
      | (with_reducible exact LeO.refl _)
      | (with_reducible exact LeO.none _)
      | (with_reducible refine LeO.ite ?_ ?_)
      | (with_reducible refine LeO.bind ?_ (fun _ => ?_))
set_option maxHeartbeats 8000000 in
set_option maxRecDepth 100000 in
theorem spec_Norm.calls (k : Nat) (a0 : ByteArray) (r : ByteArray) (w : World) (h : spec_Norm.f k a0 = some r) :
    Calls Tryd.prog 119 #[.string a0] w fun e w' => e = .returned (.string r) ∧ Below w.heap.size w w' := by
  have HB := Aside0.mk (Below.refl w.heap.size w); have H : (if (a0.size : Int) > 100 then (spec_Norm.j0 k a0 true) else ((spec_l02Plain.f k a0).bind fun t112 => (spec_Norm.j0 k a0 (!t112)))) = some r := h; clear h; have HC2 := Aside0.mk H; clear H; go_enter Tryd.func119, Tryd.ntmps119; go_upto_region 1 with (fail); go_cut [13] (fun v13 wc => ∃ (kq : Nat) (x13_1 : Bool), v13 = .bool x13_1 ∧ Aside0 (spec_Norm.j0 kq a0 x13_1 = some r) ∧ Aside0 (kq ≤ k) ∧ Aside0 (Below w.heap.size w wc))
  case first =>
    have H := HC2.out; clear HC2; by_cases c3 : (a0.size : Int) > 100
    · rw [if_pos c3] at H; have c3b0 : decide (100 < (a0.size : Int)) = true := decide_eq_true c3; have c3b1 : decide (100 < a0.size) = true := decide_eq_true (by omega); clear c3; (first | rw [c3b0] | (simp only [i64_w, i32_w]; rw [c3b0]) | skip); have H' := Aside0.mk H; clear H; go_wp2; go_meet
      case rel => exact ⟨_, (true), (by first | rfl | (simp; done) | (simp [*]; done)), H', ⟨by first | omega | exact Nat.le_refl _⟩, ⟨By⟩⟩
    · rw [if_neg c3] at H; have c3b0 : decide (100 < (a0.size : Int)) = false := decide_eq_false c3; have c3b1 : decide (100 < a0.size) = false := decide_eq_false (by omega); clear c3; (first | rw [c3b0] | (simp only [i64_w, i32_w]; rw [c3b0]) | skip); replace H := Option.bind_eq_some_iff.mp H; obtain ⟨t112, A40, H⟩ := H; (try dsimp only at H); have A4 := Aside0.mk A40; clear A40; have H' := Aside0.mk H; clear H; go_wp2_with (first | (go_at_call 125; (with_reducible refine (spec_l02Plain.calls k a0 t112 _ A4.out).mono ?_); rintro e w' ⟨rfl, ⟨nd, rfl⟩⟩)); go_meet
      case rel => exact ⟨_, (!t112), (by first | rfl | (simp; done) | (simp [*]; done)), H', ⟨by first | omega | exact Nat.le_refl _⟩, ⟨By⟩⟩
  case rest =>
    clear HC2; try clear c1
    try clear p2
    try clear c3
    try clear c3b0
    try clear c3b1
    obtain ⟨kq, x13_1, rfl, HA, HJ1, HB⟩ := hcut; cases kq with
    | zero => exact absurd HA.out (by simp [spec_Norm.j0])
    | succ kj1 =>
      have H := HA.out; clear HA; simp only [spec_Norm.j0] at H; by_cases c5 : x13_1 = true
      · subst c5; rw [if_pos rfl] at H; obtain rfl := Option.some.inj H; go_wp2; go_ret; exact ⟨Rf, By⟩
      · replace c5 := Bool.eq_false_iff.mpr c5; subst c5; rw [if_neg (show ¬ (false = true) by decide)] at H; obtain ⟨y113, hy113⟩ : ∃ y_ : List Int, y_ = (([] : List Int)) := ⟨_, rfl⟩; replace H : (spec_Norm.l0 kj1 a0 y113 0) = some r := by first | (rw [hy113]; with_reducible exact H) | (have H2_ := (Option.bind_some _ _).symm.trans H; rw [hy113]; with_reducible exact H2_) | (have H2_ := (Option.bind_some _ _).symm.trans H; with_reducible exact H2_) | with_reducible exact H | (rw [hy113]; exact H) | exact H
        have Ny113 := Aside0.mk hy113; clear hy113; have H' := Aside0.mk H; clear H; go_wp2_with (first | ((with_reducible refine gate_dst (N := 14) rfl ?_); (try (refine gate_guard (by rfl) ?_; dsimp only)); refine Kd.R_lit (Kd.int .u8) _ 5 ?hg (N := 14) ?hd (xs := ([] : List Int)) (inner := []) (ok := fun _ => True) (okp := fun _ => True) ?hr ?hp (fun _ hk => hk) trivial (Below.refl _ _) (Nat.le_refl _) (by simp) ?_; (case hd => rfl); (case hg => rfl); (case hr => first | (go_simp; done) | (go_simp; rfl)); (case hp => exact (Reps.none _ _)); intro v114 w6 ho7 hb hg_ hnew_; clear hg_ hnew_; (first | rw [← Ny113.out] at ho7 | (simp only [Int.reduceToNat] at ho7; rw [← Ny113.out] at ho7)); have n_ := aa (Kd.R_lower ho7 (below_size By)) <| Aside0.mk (below_step By hb); clear HB; obtain ⟨HO115, HB⟩ := n_; clear hb ho7)); go_loopg [3, 4] kj1 (fun kq v3 v4 w' => ∃ (x3_2 : List Int) (x4_2 : Int), v4 = .int .i64 x4_2 ∧ Aside0 (spec_Norm.l0 kq a0 x3_2 x4_2 = some r) ∧ Aside0 (kq ≤ kj1) ∧ Aside0 (Kd.R (Kd.int .u8) 5 w' w.heap.size (fun _ => True) v3 x3_2) ∧ Aside0 (Below w.heap.size w w'))
        case atStart => exact ⟨(y113), (0), (by first | rfl | (simp; done) | (simp [*]; done)), H', ⟨Nat.le_refl _⟩, ⟨by (with_reducible repeat (first | apply Kd.R_alloc | apply Kd.R_drewN | apply Kd.R_drew)); exact HO115.out⟩, ⟨By⟩⟩
        case round =>
          clear H'; try clear c1
          try clear p2
          try clear c3
          try clear c3b0
          try clear c3b1
          try clear c5
          try clear p2
          obtain ⟨x3_2, x4_2, rfl, HA, HK2, HO_3, HB⟩ := hrel; cases gk with
          | zero => exact absurd HA.out (by simp [spec_Norm.l0])
          | succ k2 =>
            have H := HA.out; clear HA; simp only [spec_Norm.l0] at H; by_cases c8 : x4_2 < (a0.size : Int)
            · rw [if_pos c8] at H; have c8b0 : decide (x4_2 < (a0.size : Int)) = true := decide_eq_true c8; clear c8; by_cases c9 : 0 ≤ x4_2
              · rw [if_pos c9] at H; have c9b0 : decide (0 ≤ x4_2) = true := decide_eq_true c9; clear c9; have HC11 := Aside0.mk H; clear H; have p10 : 0 ≤ (x4_2 : Int) := of_decide_eq_true Da; have q10 : x4_2 < (a0.size : Int) := of_decide_eq_true Da; have hx10 := bt_at a0 x4_2; replace p10 := eq_true p10; replace q10 := eq_true q10; go_upto_region 8 with (fail); go_cut [29] (fun v29 wc => ∃ (kq : Nat) (x29_10 : Bool), v29 = .bool x29_10 ∧ Aside0 (spec_Norm.j2 kq a0 x3_2 x4_2 (bt a0 x4_2) x29_10 = some r) ∧ Aside0 (kq ≤ k2) ∧ Aside0 (Kd.R (Kd.int .u8) 5 wc w.heap.size (fun _ => True) u3 x3_2) ∧ Aside0 (Below w.heap.size w wc))
                case first =>
                  have H := HC11.out; clear HC11; by_cases c12 : (bt a0 x4_2) ≥ 65
                  · rw [if_pos c12] at H; have c12b0 : decide (65 ≤ (bt a0 x4_2)) = true := decide_eq_true c12; clear c12; (first | rw [c12b0] | (simp only [i64_w, i32_w]; rw [c12b0]) | skip); have H' := Aside0.mk H; clear H; go_wp2; go_meet
                    case rel => exact ⟨_, (decide ((bt a0 x4_2) ≤ 90)), (by first | rfl | (simp; done) | (simp [*]; done)), H', ⟨by have := HJ1.out; have := HK2.out; first | omega | exact Nat.le_refl _⟩, ⟨by (with_reducible repeat (first | apply Kd.R_alloc | apply Kd.R_drewN | apply Kd.R_drew)); exact HO_3.out⟩, ⟨By⟩⟩
                  · rw [if_neg c12] at H; have c12b0 : decide (65 ≤ (bt a0 x4_2)) = false := decide_eq_false c12; clear c12; (first | rw [c12b0] | (simp only [i64_w, i32_w]; rw [c12b0]) | skip); have H' := Aside0.mk H; clear H; go_wp2; go_meet
                    case rel => exact ⟨_, (false), (by first | rfl | (simp; done) | (simp [*]; done)), H', ⟨by have := HJ1.out; have := HK2.out; first | omega | exact Nat.le_refl _⟩, ⟨by (with_reducible repeat (first | apply Kd.R_alloc | apply Kd.R_drewN | apply Kd.R_drew)); exact HO_3.out⟩, ⟨By⟩⟩
                case rest =>
                  clear HC11; try clear c1
                  try clear p1
                  try clear q1
                  try clear hx1
                  try clear p2
                  try clear c3
                  try clear c3b0
                  try clear c3b1
                  try clear c5
                  try clear c8
                  try clear c8b0
                  try clear c9
                  try clear c9b0
                  try clear p10
                  try clear q10
                  try clear hx10
                  try clear c11
                  try clear c12
                  try clear c12b0
                  try clear p10
                  try clear p2
                  try clear q10
                  obtain ⟨kq, x29_10, rfl, HA, HJ10, HO_3, HB⟩ := hcut; cases kq with
                  | zero => exact absurd HA.out (by simp [spec_Norm.j2])
                  | succ kj10 =>
                    have H := HA.out; clear HA; simp only [spec_Norm.j2] at H; by_cases c13 : x29_10 = true
                    · subst c13; rw [if_pos rfl] at H; by_cases c14 : (((bt a0 x4_2) + 32) % 256) = 32
                      · rw [if_pos c14] at H; have c14b0 : ((((bt a0 x4_2) + 32) % 256) == 32) = true := beq_iff_eq.mpr c14; have c14b1 : ((((bt a0 x4_2) + 32) % 256) != 32) = false := bne_eq_false_iff_eq.mpr c14; clear c14; by_cases c15 : (x3_2.length : Int) = 0
                        · rw [if_pos c15] at H; have c15b0 : ((x3_2.length : Int) == 0) = true := beq_iff_eq.mpr c15; have c15b1 : ((x3_2.length : Int) != 0) = false := bne_eq_false_iff_eq.mpr c15; clear c15; have H' := Aside0.mk H; clear H; obtain ⟨Ao16, co16, eo16⟩ := Kd.R_slice HO_3.out; subst eo16; go_wp2; go_roundg kj10
                          case measure => have := HJ1.out; have := HK2.out; have := HJ10.out; omega
                          case rel => exact ⟨(x3_2), (wrap64 (x4_2 + 1)), (by first | rfl | (simp; done) | (simp [*]; done)), H', ⟨by have := HJ1.out; have := HK2.out; have := HJ10.out; omega⟩, ⟨by (with_reducible repeat (first | apply Kd.R_alloc | apply Kd.R_drewN | apply Kd.R_drew)); exact HO_3.out⟩, ⟨By⟩⟩
                        · rw [if_neg c15] at H; have c15b0 : ((x3_2.length : Int) == 0) = false := beq_eq_false_iff_ne.mpr c15; have c15b1 : ((x3_2.length : Int) != 0) = true := bne_iff_ne.mpr c15; have c15b2 : ¬ (x3_2 = []) := fun h_ => c15 (by rw [h_]; rfl)
                          obtain ⟨ji17, hji17⟩ : ∃ j_ : Int, (wrap64 ((x3_2.length : Int) - 1)) = j_ := ⟨_, rfl⟩; replace H : (if 0 ≤ (ji17) then (if (ji17) < (x3_2.length : Int) then (if (rd x3_2 (ji17)) = 32 then (spec_Norm.l0 kj10 a0 x3_2 (wrap64 (x4_2 + 1))) else (if x3_2.length < 140737488355328 then (spec_Norm.l0 kj10 a0 (x3_2 ++ [((bt a0 x4_2) + 32) % 256]) (wrap64 (x4_2 + 1))) else (none))) else (none)) else (none)) = some r := by first | (rw [hji17] at H; exact H) | (simp only [hji17] at H ⊢; exact H)
                          have hji17w : (IntKind.i64.wrap ((x3_2.length : Int) - 1)) = ji17 := (i64_w _).trans hji17; by_cases c18 : 0 ≤ (ji17)
                          · rw [if_pos c18] at H; have c18b0 : decide (0 ≤ (ji17)) = true := decide_eq_true c18; clear c18; by_cases c19 : (ji17) < (x3_2.length : Int)
                            · rw [if_pos c19] at H; have c19b0 : decide ((ji17) < (x3_2.length : Int)) = true := decide_eq_true c19; clear c19; by_cases c20 : (rd x3_2 (ji17)) = 32
                              · rw [if_pos c20] at H; have c20b0 : ((rd x3_2 (ji17)) == 32) = true := beq_iff_eq.mpr c20; have c20b1 : ((rd x3_2 (ji17)) != 32) = false := bne_eq_false_iff_eq.mpr c20; clear c20; have H' := Aside0.mk H; clear H; obtain ⟨Ao21, co21, eo21⟩ := Kd.R_slice HO_3.out; subst eo21; have p120 : 0 ≤ ((ji17) : Int) := of_decide_eq_true Da; have q120 : (ji17) < (x3_2.length : Int) := of_decide_eq_true Da; obtain ⟨ad120, e120, hx120_0⟩ := Kd.at_int (Kd.R_reads' HO_3.out).2.2 (ji17) p120 q120; cases e120
                                replace p120 := eq_true p120; replace q120 := eq_true q120; go_wp2; go_roundg kj10
                                case measure => have := HJ1.out; have := HK2.out; have := HJ10.out; omega
                                case rel => exact ⟨(x3_2), (wrap64 (x4_2 + 1)), (by first | rfl | (simp; done) | (simp [*]; done)), H', ⟨by have := HJ1.out; have := HK2.out; have := HJ10.out; omega⟩, ⟨by (with_reducible repeat (first | apply Kd.R_alloc | apply Kd.R_drewN | apply Kd.R_drew)); exact HO_3.out⟩, ⟨By⟩⟩
                              · rw [if_neg c20] at H; have c20b0 : ((rd x3_2 (ji17)) == 32) = false := beq_eq_false_iff_ne.mpr c20; have c20b1 : ((rd x3_2 (ji17)) != 32) = true := bne_iff_ne.mpr c20; by_cases c22 : x3_2.length < 140737488355328
                                · rw [if_pos c22] at H; have LMc22 := Aside0.mk c22; clear c22; obtain ⟨y121, hy121⟩ : ∃ y_ : List Int, y_ = (x3_2 ++ [((bt a0 x4_2) + 32) % 256]) := ⟨_, rfl⟩; replace H : (spec_Norm.l0 kj10 a0 y121 (wrap64 (x4_2 + 1))) = some r := by first | (rw [hy121]; with_reducible exact H) | (have H2_ := (Option.bind_some _ _).symm.trans H; rw [hy121]; with_reducible exact H2_) | (have H2_ := (Option.bind_some _ _).symm.trans H; with_reducible exact H2_) | with_reducible exact H | (rw [hy121]; exact H) | exact H
                                  have Ny121 := Aside0.mk hy121; clear hy121; have H' := Aside0.mk H; clear H; obtain ⟨Ao23, co23, eo23⟩ := Kd.R_slice HO_3.out; subst eo23; have p120 : 0 ≤ ((ji17) : Int) := of_decide_eq_true Da; have q120 : (ji17) < (x3_2.length : Int) := of_decide_eq_true Da; obtain ⟨ad120, e120, hx120_0⟩ := Kd.at_int (Kd.R_reads' HO_3.out).2.2 (ji17) p120 q120; cases e120
                                  replace p120 := eq_true p120; replace q120 := eq_true q120; go_wp2_with (first | ((with_reducible refine gate_builtin (b := .append) (xs := #[.tmp 48, .tmp 50]) rfl ?_); (try (refine gate_guard (by rfl) ?_; dsimp only)); at_builtin; refine Kd.R_append (Kd.int .u8) (w0 := w) w.heap.size rfl (.tmp 48) (.tmp 50) 112 5 (.int .u8 0) 1 rfl Tryd.underlying112 info5 rfl (by decide) (by omega) (.slice (some ad120) x3_2.length co23) x3_2 (((bt a0 x4_2) + 32) % 256) [.int .u8 (((bt a0 x4_2) + 32) % 256)] (fun _ => True) (fun _ => False) rfl rfl ?aP (fun _ hk => hk.elim) ?aF ?aO ?aB ?aS ?aL ?_; (case aP => exact rfl); (case aB => exact By); (case aF => exact (fun _ _ => trivial)); (case aO => exact (rR HO_3.out)); (case aS => exact (below_size By)); (case aL => have := LMc22.out; omega); intro v122 w24 ho hb hg hat; rw [← Ny121.out] at ho; have n0_ := Aside0.mk (hb); have n1_ := Aside0.mk (ho); clear HB; clear HO_3; have HB := n0_; have HO123 := n1_; clear n0_ n1_; clear ho hb hg hat)); go_roundg kj10
                                  case measure => have := HJ1.out; have := HK2.out; have := HJ10.out; omega
                                  case rel => exact ⟨(y121), (wrap64 (x4_2 + 1)), (by first | rfl | (simp; done) | (simp [*]; done)), H', ⟨by have := HJ1.out; have := HK2.out; have := HJ10.out; omega⟩, ⟨by (with_reducible repeat (first | apply Kd.R_alloc | apply Kd.R_drewN | apply Kd.R_drew)); exact HO123.out⟩, ⟨By⟩⟩
                                · rw [if_neg c22] at H; exact absurd H (by simp)
                            · rw [if_neg c19] at H; exact absurd H (by simp)
                          · rw [if_neg c18] at H; exact absurd H (by simp)
                      · rw [if_neg c14] at H; have c14b0 : ((((bt a0 x4_2) + 32) % 256) == 32) = false := beq_eq_false_iff_ne.mpr c14; have c14b1 : ((((bt a0 x4_2) + 32) % 256) != 32) = true := bne_iff_ne.mpr c14; by_cases c25 : x3_2.length < 140737488355328
                        · rw [if_pos c25] at H; have LMc25 := Aside0.mk c25; clear c25; obtain ⟨y124, hy124⟩ : ∃ y_ : List Int, y_ = (x3_2 ++ [((bt a0 x4_2) + 32) % 256]) := ⟨_, rfl⟩; replace H : (spec_Norm.l0 kj10 a0 y124 (wrap64 (x4_2 + 1))) = some r := by first | (rw [hy124]; with_reducible exact H) | (have H2_ := (Option.bind_some _ _).symm.trans H; rw [hy124]; with_reducible exact H2_) | (have H2_ := (Option.bind_some _ _).symm.trans H; with_reducible exact H2_) | with_reducible exact H | (rw [hy124]; exact H) | exact H
                          have Ny124 := Aside0.mk hy124; clear hy124; have H' := Aside0.mk H; clear H; go_wp2_with (first | ((with_reducible refine gate_builtin (b := .append) (xs := #[.tmp 48, .tmp 50]) rfl ?_); (try (refine gate_guard (by rfl) ?_; dsimp only)); at_builtin; refine Kd.R_append (Kd.int .u8) (w0 := w) w.heap.size rfl (.tmp 48) (.tmp 50) 112 5 (.int .u8 0) 1 rfl Tryd.underlying112 info5 rfl (by decide) (by omega) u3 x3_2 (((bt a0 x4_2) + 32) % 256) [.int .u8 (((bt a0 x4_2) + 32) % 256)] (fun _ => True) (fun _ => False) rfl rfl ?aP (fun _ hk => hk.elim) ?aF ?aO ?aB ?aS ?aL ?_; (case aP => exact rfl); (case aB => exact By); (case aF => exact (fun _ _ => trivial)); (case aO => exact (rR HO_3.out)); (case aS => exact (below_size By)); (case aL => have := LMc25.out; omega); intro v125 w26 ho hb hg hat; rw [← Ny124.out] at ho; have n0_ := Aside0.mk (hb); have n1_ := Aside0.mk (ho); clear HB; clear HO_3; have HB := n0_; have HO126 := n1_; clear n0_ n1_; clear ho hb hg hat)); go_roundg kj10
                          case measure => have := HJ1.out; have := HK2.out; have := HJ10.out; omega
                          case rel => exact ⟨(y124), (wrap64 (x4_2 + 1)), (by first | rfl | (simp; done) | (simp [*]; done)), H', ⟨by have := HJ1.out; have := HK2.out; have := HJ10.out; omega⟩, ⟨by (with_reducible repeat (first | apply Kd.R_alloc | apply Kd.R_drewN | apply Kd.R_drew)); exact HO126.out⟩, ⟨By⟩⟩
                        · rw [if_neg c25] at H; exact absurd H (by simp)
                    · replace c13 := Bool.eq_false_iff.mpr c13; subst c13; rw [if_neg (show ¬ (false = true) by decide)] at H; by_cases c27 : (bt a0 x4_2) = 32
                      · rw [if_pos c27] at H; have c27b0 : ((bt a0 x4_2) == 32) = true := beq_iff_eq.mpr c27; have c27b1 : ((bt a0 x4_2) != 32) = false := bne_eq_false_iff_eq.mpr c27; clear c27; by_cases c28 : (x3_2.length : Int) = 0
                        · rw [if_pos c28] at H; have c28b0 : ((x3_2.length : Int) == 0) = true := beq_iff_eq.mpr c28; have c28b1 : ((x3_2.length : Int) != 0) = false := bne_eq_false_iff_eq.mpr c28; clear c28; have H' := Aside0.mk H; clear H; obtain ⟨Ao29, co29, eo29⟩ := Kd.R_slice HO_3.out; subst eo29; go_wp2; go_roundg kj10
                          case measure => have := HJ1.out; have := HK2.out; have := HJ10.out; omega
                          case rel => exact ⟨(x3_2), (wrap64 (x4_2 + 1)), (by first | rfl | (simp; done) | (simp [*]; done)), H', ⟨by have := HJ1.out; have := HK2.out; have := HJ10.out; omega⟩, ⟨by (with_reducible repeat (first | apply Kd.R_alloc | apply Kd.R_drewN | apply Kd.R_drew)); exact HO_3.out⟩, ⟨By⟩⟩
                        · rw [if_neg c28] at H; have c28b0 : ((x3_2.length : Int) == 0) = false := beq_eq_false_iff_ne.mpr c28; have c28b1 : ((x3_2.length : Int) != 0) = true := bne_iff_ne.mpr c28; have c28b2 : ¬ (x3_2 = []) := fun h_ => c28 (by rw [h_]; rfl)
                          obtain ⟨ji30, hji30⟩ : ∃ j_ : Int, (wrap64 ((x3_2.length : Int) - 1)) = j_ := ⟨_, rfl⟩; replace H : (if 0 ≤ (ji30) then (if (ji30) < (x3_2.length : Int) then (if (rd x3_2 (ji30)) = 32 then (spec_Norm.l0 kj10 a0 x3_2 (wrap64 (x4_2 + 1))) else (if x3_2.length < 140737488355328 then (spec_Norm.l0 kj10 a0 (x3_2 ++ [(bt a0 x4_2)]) (wrap64 (x4_2 + 1))) else (none))) else (none)) else (none)) = some r := by first | (rw [hji30] at H; exact H) | (simp only [hji30] at H ⊢; exact H)
                          have hji30w : (IntKind.i64.wrap ((x3_2.length : Int) - 1)) = ji30 := (i64_w _).trans hji30; by_cases c31 : 0 ≤ (ji30)
                          · rw [if_pos c31] at H; have c31b0 : decide (0 ≤ (ji30)) = true := decide_eq_true c31; clear c31; by_cases c32 : (ji30) < (x3_2.length : Int)
                            · rw [if_pos c32] at H; have c32b0 : decide ((ji30) < (x3_2.length : Int)) = true := decide_eq_true c32; clear c32; by_cases c33 : (rd x3_2 (ji30)) = 32
                              · rw [if_pos c33] at H; have c33b0 : ((rd x3_2 (ji30)) == 32) = true := beq_iff_eq.mpr c33; have c33b1 : ((rd x3_2 (ji30)) != 32) = false := bne_eq_false_iff_eq.mpr c33; clear c33; have H' := Aside0.mk H; clear H; obtain ⟨Ao34, co34, eo34⟩ := Kd.R_slice HO_3.out; subst eo34; have p127 : 0 ≤ ((ji30) : Int) := of_decide_eq_true Da; have q127 : (ji30) < (x3_2.length : Int) := of_decide_eq_true Da; obtain ⟨ad127, e127, hx127_0⟩ := Kd.at_int (Kd.R_reads' HO_3.out).2.2 (ji30) p127 q127; cases e127
                                replace p127 := eq_true p127; replace q127 := eq_true q127; go_wp2; go_roundg kj10
                                case measure => have := HJ1.out; have := HK2.out; have := HJ10.out; omega
                                case rel => exact ⟨(x3_2), (wrap64 (x4_2 + 1)), (by first | rfl | (simp; done) | (simp [*]; done)), H', ⟨by have := HJ1.out; have := HK2.out; have := HJ10.out; omega⟩, ⟨by (with_reducible repeat (first | apply Kd.R_alloc | apply Kd.R_drewN | apply Kd.R_drew)); exact HO_3.out⟩, ⟨By⟩⟩
                              · rw [if_neg c33] at H; have c33b0 : ((rd x3_2 (ji30)) == 32) = false := beq_eq_false_iff_ne.mpr c33; have c33b1 : ((rd x3_2 (ji30)) != 32) = true := bne_iff_ne.mpr c33; by_cases c35 : x3_2.length < 140737488355328
                                · rw [if_pos c35] at H; have LMc35 := Aside0.mk c35; clear c35; obtain ⟨y128, hy128⟩ : ∃ y_ : List Int, y_ = (x3_2 ++ [(bt a0 x4_2)]) := ⟨_, rfl⟩; replace H : (spec_Norm.l0 kj10 a0 y128 (wrap64 (x4_2 + 1))) = some r := by first | (rw [hy128]; with_reducible exact H) | (have H2_ := (Option.bind_some _ _).symm.trans H; rw [hy128]; with_reducible exact H2_) | (have H2_ := (Option.bind_some _ _).symm.trans H; with_reducible exact H2_) | with_reducible exact H | (rw [hy128]; exact H) | exact H
                                  have Ny128 := Aside0.mk hy128; clear hy128; have H' := Aside0.mk H; clear H; obtain ⟨Ao36, co36, eo36⟩ := Kd.R_slice HO_3.out; subst eo36; have p127 : 0 ≤ ((ji30) : Int) := of_decide_eq_true Da; have q127 : (ji30) < (x3_2.length : Int) := of_decide_eq_true Da; obtain ⟨ad127, e127, hx127_0⟩ := Kd.at_int (Kd.R_reads' HO_3.out).2.2 (ji30) p127 q127; cases e127
                                  replace p127 := eq_true p127; replace q127 := eq_true q127; go_wp2_with (first | ((with_reducible refine gate_builtin (b := .append) (xs := #[.tmp 48, .tmp 50]) rfl ?_); (try (refine gate_guard (by rfl) ?_; dsimp only)); at_builtin; refine Kd.R_append (Kd.int .u8) (w0 := w) w.heap.size rfl (.tmp 48) (.tmp 50) 112 5 (.int .u8 0) 1 rfl Tryd.underlying112 info5 rfl (by decide) (by omega) (.slice (some ad127) x3_2.length co36) x3_2 (bt a0 x4_2) [.int .u8 (bt a0 x4_2)] (fun _ => True) (fun _ => False) rfl rfl ?aP (fun _ hk => hk.elim) ?aF ?aO ?aB ?aS ?aL ?_; (case aP => exact rfl); (case aB => exact By); (case aF => exact (fun _ _ => trivial)); (case aO => exact (rR HO_3.out)); (case aS => exact (below_size By)); (case aL => have := LMc35.out; omega); intro v129 w37 ho hb hg hat; rw [← Ny128.out] at ho; have n0_ := Aside0.mk (hb); have n1_ := Aside0.mk (ho); clear HB; clear HO_3; have HB := n0_; have HO130 := n1_; clear n0_ n1_; clear ho hb hg hat)); go_roundg kj10
                                  case measure => have := HJ1.out; have := HK2.out; have := HJ10.out; omega
                                  case rel => exact ⟨(y128), (wrap64 (x4_2 + 1)), (by first | rfl | (simp; done) | (simp [*]; done)), H', ⟨by have := HJ1.out; have := HK2.out; have := HJ10.out; omega⟩, ⟨by (with_reducible repeat (first | apply Kd.R_alloc | apply Kd.R_drewN | apply Kd.R_drew)); exact HO130.out⟩, ⟨By⟩⟩
                                · rw [if_neg c35] at H; exact absurd H (by simp)
                            · rw [if_neg c32] at H; exact absurd H (by simp)
                          · rw [if_neg c31] at H; exact absurd H (by simp)
                      · rw [if_neg c27] at H; have c27b0 : ((bt a0 x4_2) == 32) = false := beq_eq_false_iff_ne.mpr c27; have c27b1 : ((bt a0 x4_2) != 32) = true := bne_iff_ne.mpr c27; by_cases c38 : x3_2.length < 140737488355328
                        · rw [if_pos c38] at H; have LMc38 := Aside0.mk c38; clear c38; obtain ⟨y131, hy131⟩ : ∃ y_ : List Int, y_ = (x3_2 ++ [(bt a0 x4_2)]) := ⟨_, rfl⟩; replace H : (spec_Norm.l0 kj10 a0 y131 (wrap64 (x4_2 + 1))) = some r := by first | (rw [hy131]; with_reducible exact H) | (have H2_ := (Option.bind_some _ _).symm.trans H; rw [hy131]; with_reducible exact H2_) | (have H2_ := (Option.bind_some _ _).symm.trans H; with_reducible exact H2_) | with_reducible exact H | (rw [hy131]; exact H) | exact H
                          have Ny131 := Aside0.mk hy131; clear hy131; have H' := Aside0.mk H; clear H; go_wp2_with (first | ((with_reducible refine gate_builtin (b := .append) (xs := #[.tmp 48, .tmp 50]) rfl ?_); (try (refine gate_guard (by rfl) ?_; dsimp only)); at_builtin; refine Kd.R_append (Kd.int .u8) (w0 := w) w.heap.size rfl (.tmp 48) (.tmp 50) 112 5 (.int .u8 0) 1 rfl Tryd.underlying112 info5 rfl (by decide) (by omega) u3 x3_2 (bt a0 x4_2) [.int .u8 (bt a0 x4_2)] (fun _ => True) (fun _ => False) rfl rfl ?aP (fun _ hk => hk.elim) ?aF ?aO ?aB ?aS ?aL ?_; (case aP => exact rfl); (case aB => exact By); (case aF => exact (fun _ _ => trivial)); (case aO => exact (rR HO_3.out)); (case aS => exact (below_size By)); (case aL => have := LMc38.out; omega); intro v132 w39 ho hb hg hat; rw [← Ny131.out] at ho; have n0_ := Aside0.mk (hb); have n1_ := Aside0.mk (ho); clear HB; clear HO_3; have HB := n0_; have HO133 := n1_; clear n0_ n1_; clear ho hb hg hat)); go_roundg kj10
                          case measure => have := HJ1.out; have := HK2.out; have := HJ10.out; omega
                          case rel => exact ⟨(y131), (wrap64 (x4_2 + 1)), (by first | rfl | (simp; done) | (simp [*]; done)), H', ⟨by have := HJ1.out; have := HK2.out; have := HJ10.out; omega⟩, ⟨by (with_reducible repeat (first | apply Kd.R_alloc | apply Kd.R_drewN | apply Kd.R_drew)); exact HO133.out⟩, ⟨By⟩⟩
                        · rw [if_neg c38] at H; exact absurd H (by simp)
              · rw [if_neg c9] at H; exact absurd H (by simp)
            · rw [if_neg c8] at H; have c8b0 : decide (x4_2 < (a0.size : Int)) = false := decide_eq_false c8; clear c8; by_cases c40 : (x3_2.length : Int) > 0
              · rw [if_pos c40] at H; have c40b0 : decide (0 < (x3_2.length : Int)) = true := decide_eq_true c40; have c40b1 : decide (0 < x3_2.length) = true := decide_eq_true (by omega); clear c40; obtain ⟨ji41, hji41⟩ : ∃ j_ : Int, (wrap64 ((x3_2.length : Int) - 1)) = j_ := ⟨_, rfl⟩; replace H : (if 0 ≤ (ji41) then (if (ji41) < (x3_2.length : Int) then (if (rd x3_2 (ji41)) = 32 then (if (ji41) ≤ (x3_2.length : Int) then (some (strOfNums (x3_2.take ((ji41) : Int).toNat))) else (none)) else (some (strOfNums x3_2))) else (none)) else (none)) = some r := by first | (rw [hji41] at H; exact H) | (simp only [hji41] at H ⊢; exact H)
                have hji41w : (IntKind.i64.wrap ((x3_2.length : Int) - 1)) = ji41 := (i64_w _).trans hji41; by_cases c42 : 0 ≤ (ji41)
                · rw [if_pos c42] at H; have c42b0 : decide (0 ≤ (ji41)) = true := decide_eq_true c42; clear c42; by_cases c43 : (ji41) < (x3_2.length : Int)
                  · rw [if_pos c43] at H; have c43b0 : decide ((ji41) < (x3_2.length : Int)) = true := decide_eq_true c43; clear c43; by_cases c44 : (rd x3_2 (ji41)) = 32
                    · rw [if_pos c44] at H; have c44b0 : ((rd x3_2 (ji41)) == 32) = true := beq_iff_eq.mpr c44; have c44b1 : ((rd x3_2 (ji41)) != 32) = false := bne_eq_false_iff_eq.mpr c44; clear c44; by_cases c45 : (ji41) ≤ (x3_2.length : Int)
                      · rw [if_pos c45] at H; have c45b0 := eq_true c45; have c45b1 : decide ((ji41) ≤ (x3_2.length : Int)) = true := decide_eq_true c45; clear c45; obtain ⟨y117, hy117⟩ : ∃ y_ : List Int, y_ = (x3_2.take ((ji41) : Int).toNat) := ⟨_, rfl⟩; replace H : (some (strOfNums y117)) = some r := by first | (rw [hy117]; with_reducible exact H) | (have H2_ := (Option.bind_some _ _).symm.trans H; rw [hy117]; with_reducible exact H2_) | (have H2_ := (Option.bind_some _ _).symm.trans H; with_reducible exact H2_) | with_reducible exact H | (rw [hy117]; exact H) | exact H
                        have Ny117 := Aside0.mk hy117; clear hy117; obtain rfl := Option.some.inj H; obtain ⟨Ao46, co46, eo46⟩ := Kd.R_slice HO_3.out; subst eo46; have p116 : 0 ≤ ((ji41) : Int) := of_decide_eq_true Da; have q116 : (ji41) < (x3_2.length : Int) := of_decide_eq_true Da; obtain ⟨ad116, e116, hx116_0⟩ := Kd.at_int (Kd.R_reads' HO_3.out).2.2 (ji41) p116 q116; cases e116
                        replace p116 := eq_true p116; replace q116 := eq_true q116; have q47 : ((ji41) : Int) ≤ ((x3_2.length : Int) : Int) := of_decide_eq_true Da; obtain ⟨i047, hi047, _, hsz47, _⟩ := info_parts info5; have hcut47 := cut_to (P := Tryd.prog) 112 5 .i64 Tryd.underlying112 hi047 (some ad116) x3_2.length co46 (ji41) (of_decide_eq_true Da) q47 (Kd.R_reads' HO_3.out).2.1; have hr47 := Kd.R_take (m := ((ji41) : Int).toNat) HO_3.out (by omega); have hy47 : y117.length = ((ji41) : Int).toNat := (by rw [Ny117.out, List.length_take]; omega); rw [← Ny117.out] at hr47; rw [← hy47] at hr47 hcut47; clear hy47 hi047 hsz47 HO_3; have HO119 := Aside0.mk hr47; clear hr47; replace q47 := eq_true q47; have hcv48 := own_string (P := Tryd.prog) Tryd.underlying112 Tryd.underlying5 Tryd.underlying9 (Kd.own_of_R HO119.out); go_wp2; go_ret; exact ⟨by first | rfl | (simp [errW_none, errW_some] <;> rfl) | (simp only [← hji41]; first | rfl | (simp [errW_none, errW_some] <;> rfl)) | (simp [*, errW_none, errW_some] <;> first | rfl | (rw [Bool.eq_iff_iff]; simp)), By⟩
                      · rw [if_neg c45] at H; exact absurd H (by simp)
                    · rw [if_neg c44] at H; have c44b0 : ((rd x3_2 (ji41)) == 32) = false := beq_eq_false_iff_ne.mpr c44; have c44b1 : ((rd x3_2 (ji41)) != 32) = true := bne_iff_ne.mpr c44; obtain rfl := Option.some.inj H; obtain ⟨Ao49, co49, eo49⟩ := Kd.R_slice HO_3.out; subst eo49; have p116 : 0 ≤ ((ji41) : Int) := of_decide_eq_true Da; have q116 : (ji41) < (x3_2.length : Int) := of_decide_eq_true Da; obtain ⟨ad116, e116, hx116_0⟩ := Kd.at_int (Kd.R_reads' HO_3.out).2.2 (ji41) p116 q116; cases e116
                      replace p116 := eq_true p116; replace q116 := eq_true q116; have hcv50 := own_string (P := Tryd.prog) Tryd.underlying112 Tryd.underlying5 Tryd.underlying9 (Kd.own_of_R HO_3.out); go_wp2; go_ret; exact ⟨by first | rfl | (simp [errW_none, errW_some] <;> rfl) | (simp only [← hji41]; first | rfl | (simp [errW_none, errW_some] <;> rfl)) | (simp [*, errW_none, errW_some] <;> first | rfl | (rw [Bool.eq_iff_iff]; simp)), By⟩
                  · rw [if_neg c43] at H; exact absurd H (by simp)
                · rw [if_neg c42] at H; exact absurd H (by simp)
              · rw [if_neg c40] at H; have c40b0 : decide (0 < (x3_2.length : Int)) = false := decide_eq_false c40; have c40b1 : decide (0 < x3_2.length) = false := decide_eq_false (by omega); clear c40; obtain rfl := Option.some.inj H; obtain ⟨Ao51, co51, eo51⟩ := Kd.R_slice HO_3.out; subst eo51; have hcv52 := own_string (P := Tryd.prog) Tryd.underlying112 Tryd.underlying5 Tryd.underlying9 (Kd.own_of_R HO_3.out); go_wp2; go_ret; exact ⟨Rf, By⟩

set_option linter.unusedVariables false
set_option linter.unusedSimpArgs false

/-! ### spec_l02Value: function 93 -/
def spec_l02Value.f (k : Nat) (a0 : ByteArray) : Option (Bool) := if (a0.size : Int) ≥ 1 then (if (a0.size : Int) ≤ 40 then ((spec_Norm.f k a0).bind fun t134 => (some (t134.toList != ([] : List UInt8)))) else (some false)) else (some false)
theorem spec_l02Value.mono : ∀ a0 k, LeO (spec_l02Value.f k a0) (spec_l02Value.f (k + 1) a0) := by
  intro a0 k; unfold spec_l02Value.f; repeat' first
      | (with_reducible exact spec_Norm.mono _ _)
      | (with_reducible exact LeO.refl _)
      | (with_reducible exact LeO.none _)
      | (with_reducible refine LeO.ite ?_ ?_)
      | (with_reducible refine LeO.bind ?_ (fun _ => ?_))
set_option maxHeartbeats 8000000 in
set_option maxRecDepth 100000 in
theorem spec_l02Value.calls (k : Nat) (a0 : ByteArray) (r : Bool) (w : World) (h : spec_l02Value.f k a0 = some r) :
    Calls Tryd.prog 93 #[.string a0] w fun e w' => e = .returned (.bool r) ∧ Below w.heap.size w w' := by
  have HB := Aside0.mk (Below.refl w.heap.size w); have H : (if (a0.size : Int) ≥ 1 then (if (a0.size : Int) ≤ 40 then ((spec_Norm.f k a0).bind fun t134 => (some (t134.toList != ([] : List UInt8)))) else (some false)) else (some false)) = some r := h; clear h; by_cases c2 : (a0.size : Int) ≥ 1
  · rw [if_pos c2] at H; have c2b0 : decide (1 ≤ (a0.size : Int)) = true := decide_eq_true c2; have c2b1 : decide (1 ≤ a0.size) = true := decide_eq_true (by omega); clear c2; by_cases c3 : (a0.size : Int) ≤ 40
    · rw [if_pos c3] at H; have c3b0 : decide ((a0.size : Int) ≤ 40) = true := decide_eq_true c3; have c3b1 : decide (a0.size ≤ 40) = true := decide_eq_true (by omega); clear c3; replace H := Option.bind_eq_some_iff.mp H; obtain ⟨t134, A40, H⟩ := H; (try dsimp only at H); have A4 := Aside0.mk A40; clear A40; obtain rfl := Option.some.inj H; go_enter Tryd.func93, Tryd.ntmps93; go_wp2_with (first | (go_at_call 119; (with_reducible refine (spec_Norm.calls k a0 t134 _ A4.out).mono ?_); rintro e w5 ⟨rfl, hb⟩; have n0_ := Aside0.mk (below_step By hb); clear HB; have HB := n0_; clear n0_; (try clear hb); (try clear hb2); (try clear hk); (try clear hi))); go_ret; exact ⟨Rf, By⟩
    · rw [if_neg c3] at H; have c3b0 : decide ((a0.size : Int) ≤ 40) = false := decide_eq_false c3; have c3b1 : decide (a0.size ≤ 40) = false := decide_eq_false (by omega); clear c3; obtain rfl := Option.some.inj H; go_enter Tryd.func93, Tryd.ntmps93; go_wp2; go_ret; exact ⟨Rf, By⟩
  · rw [if_neg c2] at H; have c2b0 : decide (1 ≤ (a0.size : Int)) = false := decide_eq_false c2; have c2b1 : decide (1 ≤ a0.size) = false := decide_eq_false (by omega); clear c2; obtain rfl := Option.some.inj H; go_enter Tryd.func93, Tryd.ntmps93; go_wp2; go_ret; exact ⟨Rf, By⟩

end Go.Proofs.YthapodlehfblgaaDoor.PA
