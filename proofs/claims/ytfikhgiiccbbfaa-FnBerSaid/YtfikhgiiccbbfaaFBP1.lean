/-
  Functions that the law reaches, each as a plain Lean function, with the proof that the call comes to it (written by a program of this session by way of the kit's print program). Conditions: what each contract states.
-/
import Derived.Test.YtfikhgiiccbbfaaProg
import Derived.Below
import Derived.Deep.Draws
import Derived.Deep.AppendLies
import Derived.Maps.AppendAt
import Derived.OwnWalk
import Derived.Laws.BytesArg
import Derived.Laws.MakeOwn
import Derived.Laws.OwnMore
import Derived.Deep.OwnRows
import Derived.Tactics
import Derived.Lib.ConvBytes
import Derived.Laws.Slices
import Derived.WalkKit
import Derived.KernelRfl
import Derived.RowKit3
import Derived.Deep.LoopGhost
import Derived.Deep.QuietTactic
import Derived.BigQuiet
import Derived.WideLaws
import Derived.Deep.DeepCutAuto
import Derived.Deep.CutBlock
import Derived.Deep.RegionHeld3
import Derived.Laws.Rows
import Derived.Lib.AppendStr
import Derived.ArgAppend
import Derived.Laws.IdiomCopy
import Derived.OrdersHeld
import Derived.Laws.BitsLemmas
import Derived.RowKit
import Derived.Test.YtfikhgiiccbbfaaFBWords
import Derived.Test.YtfikhgiiccbbfaaFBSq
namespace Go.Proofs.Ytfikhgiiccbbfaa.PG
open Go.Proofs.Ytfikhgiiccbbfaa.Sq Go.RowKit Go.Proofs.YtfikhgiiccbbfaaW.PrintWords Go.Proofs.YtfikhgiiccbbfaaW.PrintLast Go.Proofs.YtfikhgiiccbbfaaW.PrintMore
attribute [local go_sem] max2_int min2_int max_two min_two max_three min_three max_four min_four   -- for this text's walks alone
set_option linter.unusedVariables false
set_option linter.unusedSimpArgs false



def errW : Option Int → Value
  | none => .nilIface
  | some c => .iface 0 (.int .i64 c)
theorem errW_none : errW none = .nilIface := rfl
theorem errW_some (c : Int) : errW (some c) = .iface 0 (.int .i64 c) := rfl

theorem info2 : (Try.prog.info? 2).map (fun i => (i.zero, i.size, i.bytes)) = some (some (.int .i64 0), 1, 8) := by kernel_rfl
theorem info3 : (Try.prog.info? 3).map (fun i => (i.zero, i.size, i.bytes)) = some (some (.int .i64 0), 1, 8) := by kernel_rfl
theorem info5 : (Try.prog.info? 5).map (fun i => (i.zero, i.size, i.bytes)) = some (some (.int .u8 0), 1, 1) := by kernel_rfl
theorem info9 : (Try.prog.info? 9).map (fun i => (i.zero, i.size, i.bytes)) = some (some (.string ⟨#[]⟩), 1, 16) := by kernel_rfl
theorem info27 : (Try.prog.info? 27).map (fun i => (i.zero, i.size, i.bytes)) = some (some (.agg #[(.int .i64 0), (.string ⟨#[]⟩)]), 2, 24) := by kernel_rfl
theorem info89 : (Try.prog.info? 89).map (fun i => (i.zero, i.size, i.bytes)) = some (some (.agg #[(.slice none 0 0), (.slice none 0 0)]), 2, 48) := by kernel_rfl
theorem info100 : (Try.prog.info? 100).map (fun i => (i.zero, i.size, i.bytes)) = some (some (.agg #[(.int .i64 0), (.int .i64 0), (.string ⟨#[]⟩), (.slice none 0 0), (.slice none 0 0)]), 5, 80) := by kernel_rfl
theorem info112 : (Try.prog.info? 112).map (fun i => (i.zero, i.size, i.bytes)) = some (some (.agg #[(.string ⟨#[]⟩), (.slice none 0 0)]), 2, 40) := by kernel_rfl
theorem info119 : (Try.prog.info? 119).map (fun i => (i.zero, i.size, i.bytes)) = some (some (.agg #[(.string ⟨#[]⟩), (.string ⟨#[]⟩)]), 2, 32) := by kernel_rfl
-- the values' own types
/-! #### struct type 27 -/
structure S27 where
  f0 : Int
  f1 : ByteArray
def z27 : S27 := ⟨(0 : Int), (⟨#[]⟩ : ByteArray)⟩
def k27 : Kd S27 := Kd.iso (Kd.pair (Kd.int .i64) Kd.string) (fun x : S27 => (x.f0, x.f1))
theorem k27_heap : Kd.Heap k27 := Kd.heap_iso _ (Kd.heap_pair (Kd.heap_int .i64) Kd.heap_string)
theorem k27_open {w : World} {x : S27} {cs : List Value} (h : k27.K w x cs) : cs = [.int .i64 x.f0, .string x.f1] := by
  obtain ⟨_, _, rfl, rfl, rfl⟩ := h; exact rfl
theorem k27_openM {w : World} {base : Nat} {ok : Nat → Prop} {x : S27} {cs : List Value} (h : k27.M w base ok x cs) : cs = [.int .i64 x.f0, .string x.f1] := by
  obtain ⟨_, _, rfl, rfl, rfl⟩ := h; exact rfl
theorem k27_mk (w : World) (x : S27)  : k27.K w x [.int .i64 x.f0, .string x.f1] := ⟨[.int .i64 x.f0], [.string x.f1], rfl, rfl, rfl⟩
theorem k27_mkM (w : World) (base : Nat) (ok : Nat → Prop) (x : S27)  : k27.M w base ok x [.int .i64 x.f0, .string x.f1] := ⟨[.int .i64 x.f0], [.string x.f1], rfl, rfl, rfl⟩
theorem k27_mkF (W : World) (ok : Nat → Prop) (x : S27) : Kd.FK k27 W ok x [.int .i64 x.f0, .string x.f1] := fun W2 _ => k27_mk W2 x
def rd_T27 (xs : List S27) (i : Int) : S27 := xs.getD i.toNat z27
theorem at_T27 {w : World} {A : Option Addr} {n : Nat} {xs : List S27} (h : Kd.C k27 w A n xs) (i : Int) (h0 : 0 ≤ i) (h1 : i < n) : ∃ ad , A = some ad ∧ w.cell? (ad.add (i.toNat * 2)) = some (.int .i64 (rd_T27 xs i).f0) ∧ w.cell? ⟨(ad.add (i.toNat * 2)).block, (ad.add (i.toNat * 2)).off + 1, none⟩ = some (.string (rd_T27 xs i).f1) := by
  obtain ⟨ad, c, e, _, hK, hc0⟩ := Kd.C_get h z27 i h0 h1; have hc : ∀ j u, c[j]? = some u → w.cell? (ad.add (i.toNat * 2 + j)) = some u := hc0; obtain rfl := k27_open hK; exact ⟨ad, e, hc 0 _ rfl, by rw [← add_field _ _ 1 (by omega)]; exact hc 1 _ rfl⟩

/-! #### struct type 124 -/
structure S124 where
  f0 : ByteArray
  f1 : ByteArray
def z124 : S124 := ⟨(⟨#[]⟩ : ByteArray), (⟨#[]⟩ : ByteArray)⟩
def k124 : Kd S124 := Kd.iso (Kd.pair Kd.string Kd.string) (fun x : S124 => (x.f0, x.f1))
theorem k124_heap : Kd.Heap k124 := Kd.heap_iso _ (Kd.heap_pair Kd.heap_string Kd.heap_string)
theorem k124_open {w : World} {x : S124} {cs : List Value} (h : k124.K w x cs) : cs = [.string x.f0, .string x.f1] := by
  obtain ⟨_, _, rfl, rfl, rfl⟩ := h; exact rfl
theorem k124_openM {w : World} {base : Nat} {ok : Nat → Prop} {x : S124} {cs : List Value} (h : k124.M w base ok x cs) : cs = [.string x.f0, .string x.f1] := by
  obtain ⟨_, _, rfl, rfl, rfl⟩ := h; exact rfl
theorem k124_mk (w : World) (x : S124)  : k124.K w x [.string x.f0, .string x.f1] := ⟨[.string x.f0], [.string x.f1], rfl, rfl, rfl⟩
theorem k124_mkM (w : World) (base : Nat) (ok : Nat → Prop) (x : S124)  : k124.M w base ok x [.string x.f0, .string x.f1] := ⟨[.string x.f0], [.string x.f1], rfl, rfl, rfl⟩
theorem k124_mkF (W : World) (ok : Nat → Prop) (x : S124) : Kd.FK k124 W ok x [.string x.f0, .string x.f1] := fun W2 _ => k124_mk W2 x
def rd_T124 (xs : List S124) (i : Int) : S124 := xs.getD i.toNat z124
theorem at_T124 {w : World} {A : Option Addr} {n : Nat} {xs : List S124} (h : Kd.C k124 w A n xs) (i : Int) (h0 : 0 ≤ i) (h1 : i < n) : ∃ ad , A = some ad ∧ w.cell? (ad.add (i.toNat * 2)) = some (.string (rd_T124 xs i).f0) ∧ w.cell? ⟨(ad.add (i.toNat * 2)).block, (ad.add (i.toNat * 2)).off + 1, none⟩ = some (.string (rd_T124 xs i).f1) := by
  obtain ⟨ad, c, e, _, hK, hc0⟩ := Kd.C_get h z124 i h0 h1; have hc : ∀ j u, c[j]? = some u → w.cell? (ad.add (i.toNat * 2 + j)) = some u := hc0; obtain rfl := k124_open hK; exact ⟨ad, e, hc 0 _ rfl, by rw [← add_field _ _ 1 (by omega)]; exact hc 1 _ rfl⟩

def rd_L5 (xs : List (List ByteArray)) (i : Int) : (List ByteArray) := xs.getD i.toNat ([] : List ByteArray)
theorem at_L5 {w : World} {A : Option Addr} {n : Nat} {xs : List (List ByteArray)} (h : Kd.C (Kd.slice 9 Kd.string) w A n xs) (i : Int) (h0 : 0 ≤ i) (h1 : i < n) : ∃ ad A0 c0, A = some ad ∧ w.cell? (ad.add i.toNat) = some (.slice A0 (rd_L5 xs i).length c0) ∧ (rd_L5 xs i).length ≤ c0 ∧ Kd.string.C w A0 (rd_L5 xs i).length (rd_L5 xs i) := by
  obtain ⟨ad, c, e, _, hK, hc0⟩ := Kd.C_get h ([] : List ByteArray) i h0 h1; have hc : ∀ j u, c[j]? = some u → w.cell? (ad.add (i.toNat * 1 + j)) = some u := hc0; obtain ⟨A0, c0, rfl, l0, g0⟩ := hK; exact ⟨ad, A0, c0, e, by have hq := hc 0 _ rfl; rwa [Nat.mul_one, Nat.add_zero] at hq, l0, g0⟩

/-! #### struct type 126 -/
structure S126 where
  f0 : ByteArray
  f1 : (List ByteArray)
def z126 : S126 := ⟨(⟨#[]⟩ : ByteArray), ([] : List ByteArray)⟩
def k126 : Kd S126 := Kd.iso (Kd.pair Kd.string (Kd.slice 9 Kd.string)) (fun x : S126 => (x.f0, x.f1))
theorem k126_heap : Kd.Heap k126 := Kd.heap_iso _ (Kd.heap_pair Kd.heap_string (Kd.heap_slice 9 Kd.heap_string))
theorem k126_open {w : World} {x : S126} {cs : List Value} (h : k126.K w x cs) : ∃ A1 c1, cs = [.string x.f0, .slice A1 x.f1.length c1] ∧ x.f1.length ≤ c1 ∧ Kd.string.C w A1 x.f1.length x.f1 := by
  obtain ⟨_, _, rfl, rfl, ⟨A1, c1, rfl, l1, g1⟩⟩ := h; exact ⟨A1, c1, rfl, l1, g1⟩
theorem k126_openM {w : World} {base : Nat} {ok : Nat → Prop} {x : S126} {cs : List Value} (h : k126.M w base ok x cs) : ∃ v1, cs = [.string x.f0, v1] ∧ Kd.string.R 9 w base ok v1 x.f1 := by
  obtain ⟨_, _, rfl, rfl, ⟨v1, rfl, g1⟩⟩ := h; exact ⟨v1, rfl, g1⟩
theorem k126_mk (w : World) (x : S126) {A1 : Option Addr} {c1 : Nat} (l1 : x.f1.length ≤ c1) (g1 : Kd.string.C w A1 x.f1.length x.f1) : k126.K w x [.string x.f0, .slice A1 x.f1.length c1] := ⟨[.string x.f0], [.slice A1 x.f1.length c1], rfl, rfl, ⟨A1, c1, rfl, l1, g1⟩⟩
theorem k126_mkM (w : World) (base : Nat) (ok : Nat → Prop) (x : S126) {v1 : Value} (g1 : Kd.string.R 9 w base ok v1 x.f1) : k126.M w base ok x [.string x.f0, v1] := ⟨[.string x.f0], [v1], rfl, rfl, ⟨v1, rfl, g1⟩⟩
theorem k126_openF {W : World} {ok : Nat → Prop} {x : S126} {cs : List Value} (h : Kd.FK k126 W ok x cs) : ∃ A1 c1, cs = [.string x.f0, .slice A1 x.f1.length c1] ∧ x.f1.length ≤ c1 ∧ Kd.F Kd.string W ok A1 x.f1.length x.f1 := by
  obtain ⟨A1, c1, rfl, l1, _⟩ := k126_open (Kd.FK_now h); exact ⟨A1, c1, rfl, l1, (fun W' hW => by obtain ⟨A1_, c1_, he, l1_, g1_⟩ := k126_open (h W' hW); injection (Option.some.inj (show some (Value.slice A1 x.f1.length c1) = some (Value.slice A1_ x.f1.length c1_) from congrArg (fun l => l[1]?) he)) with ha_ _ _; rw [ha_]; exact g1_)⟩
theorem k126_mkF (W : World) (ok : Nat → Prop) (x : S126) {A1 : Option Addr} {c1 : Nat} (l1 : x.f1.length ≤ c1) (g1 : Kd.F Kd.string W ok A1 x.f1.length x.f1) : Kd.FK k126 W ok x [.string x.f0, .slice A1 x.f1.length c1] := fun W2 hW => k126_mk W2 x l1 (g1 W2 hW)
def rd_T126 (xs : List S126) (i : Int) : S126 := xs.getD i.toNat z126
theorem at_T126 {w : World} {A : Option Addr} {n : Nat} {xs : List S126} (h : Kd.C k126 w A n xs) (i : Int) (h0 : 0 ≤ i) (h1 : i < n) : ∃ ad A1 c1, A = some ad ∧ w.cell? (ad.add (i.toNat * 2)) = some (.string (rd_T126 xs i).f0) ∧ w.cell? ⟨(ad.add (i.toNat * 2)).block, (ad.add (i.toNat * 2)).off + 1, none⟩ = some (.slice A1 (rd_T126 xs i).f1.length c1) ∧ (rd_T126 xs i).f1.length ≤ c1 ∧ Kd.string.C w A1 (rd_T126 xs i).f1.length (rd_T126 xs i).f1 := by
  obtain ⟨ad, c, e, _, hK, hc0⟩ := Kd.C_get h z126 i h0 h1; have hc : ∀ j u, c[j]? = some u → w.cell? (ad.add (i.toNat * 2 + j)) = some u := hc0; obtain ⟨A1, c1, rfl, l1, g1⟩ := k126_open hK; exact ⟨ad, A1, c1, e, hc 0 _ rfl, by rw [← add_field _ _ 1 (by omega)]; exact hc 1 _ rfl, l1, g1⟩

def rd_L7 (xs : List (List S124)) (i : Int) : (List S124) := xs.getD i.toNat ([] : List S124)
theorem at_L7 {w : World} {A : Option Addr} {n : Nat} {xs : List (List S124)} (h : Kd.C (Kd.slice 124 k124) w A n xs) (i : Int) (h0 : 0 ≤ i) (h1 : i < n) : ∃ ad A0 c0, A = some ad ∧ w.cell? (ad.add i.toNat) = some (.slice A0 (rd_L7 xs i).length c0) ∧ (rd_L7 xs i).length ≤ c0 ∧ k124.C w A0 (rd_L7 xs i).length (rd_L7 xs i) := by
  obtain ⟨ad, c, e, _, hK, hc0⟩ := Kd.C_get h ([] : List S124) i h0 h1; have hc : ∀ j u, c[j]? = some u → w.cell? (ad.add (i.toNat * 1 + j)) = some u := hc0; obtain ⟨A0, c0, rfl, l0, g0⟩ := hK; exact ⟨ad, A0, c0, e, by have hq := hc 0 _ rfl; rwa [Nat.mul_one, Nat.add_zero] at hq, l0, g0⟩

def rd_L8 (xs : List (List S126)) (i : Int) : (List S126) := xs.getD i.toNat ([] : List S126)
theorem at_L8 {w : World} {A : Option Addr} {n : Nat} {xs : List (List S126)} (h : Kd.C (Kd.slice 126 k126) w A n xs) (i : Int) (h0 : 0 ≤ i) (h1 : i < n) : ∃ ad A0 c0, A = some ad ∧ w.cell? (ad.add i.toNat) = some (.slice A0 (rd_L8 xs i).length c0) ∧ (rd_L8 xs i).length ≤ c0 ∧ k126.C w A0 (rd_L8 xs i).length (rd_L8 xs i) := by
  obtain ⟨ad, c, e, _, hK, hc0⟩ := Kd.C_get h ([] : List S126) i h0 h1; have hc : ∀ j u, c[j]? = some u → w.cell? (ad.add (i.toNat * 1 + j)) = some u := hc0; obtain ⟨A0, c0, rfl, l0, g0⟩ := hK; exact ⟨ad, A0, c0, e, by have hq := hc 0 _ rfl; rwa [Nat.mul_one, Nat.add_zero] at hq, l0, g0⟩

/-! #### struct type 84 -/
structure S84 where
  f0 : (List S124)
  f1 : (List S126)
def z84 : S84 := ⟨([] : List S124), ([] : List S126)⟩
def k84 : Kd S84 := Kd.iso (Kd.pair (Kd.slice 124 k124) (Kd.slice 126 k126)) (fun x : S84 => (x.f0, x.f1))
theorem k84_heap : Kd.Heap k84 := Kd.heap_iso _ (Kd.heap_pair (Kd.heap_slice 124 k124_heap) (Kd.heap_slice 126 k126_heap))
theorem k84_open {w : World} {x : S84} {cs : List Value} (h : k84.K w x cs) : ∃ A0 c0 A1 c1, cs = [.slice A0 x.f0.length c0, .slice A1 x.f1.length c1] ∧ x.f0.length ≤ c0 ∧ k124.C w A0 x.f0.length x.f0 ∧ x.f1.length ≤ c1 ∧ k126.C w A1 x.f1.length x.f1 := by
  obtain ⟨_, _, rfl, ⟨A0, c0, rfl, l0, g0⟩, ⟨A1, c1, rfl, l1, g1⟩⟩ := h; exact ⟨A0, c0, A1, c1, rfl, l0, g0, l1, g1⟩
theorem k84_openM {w : World} {base : Nat} {ok : Nat → Prop} {x : S84} {cs : List Value} (h : k84.M w base ok x cs) : ∃ v0 v1, cs = [v0, v1] ∧ k124.R 124 w base ok v0 x.f0 ∧ k126.R 126 w base ok v1 x.f1 := by
  obtain ⟨_, _, rfl, ⟨v0, rfl, g0⟩, ⟨v1, rfl, g1⟩⟩ := h; exact ⟨v0, v1, rfl, g0, g1⟩
theorem k84_mk (w : World) (x : S84) {A0 : Option Addr} {c0 : Nat} (l0 : x.f0.length ≤ c0) (g0 : k124.C w A0 x.f0.length x.f0) {A1 : Option Addr} {c1 : Nat} (l1 : x.f1.length ≤ c1) (g1 : k126.C w A1 x.f1.length x.f1) : k84.K w x [.slice A0 x.f0.length c0, .slice A1 x.f1.length c1] := ⟨[.slice A0 x.f0.length c0], [.slice A1 x.f1.length c1], rfl, ⟨A0, c0, rfl, l0, g0⟩, ⟨A1, c1, rfl, l1, g1⟩⟩
theorem k84_mkM (w : World) (base : Nat) (ok : Nat → Prop) (x : S84) {v0 : Value} (g0 : k124.R 124 w base ok v0 x.f0) {v1 : Value} (g1 : k126.R 126 w base ok v1 x.f1) : k84.M w base ok x [v0, v1] := ⟨[v0], [v1], rfl, ⟨v0, rfl, g0⟩, ⟨v1, rfl, g1⟩⟩
theorem k84_openF {W : World} {ok : Nat → Prop} {x : S84} {cs : List Value} (h : Kd.FK k84 W ok x cs) : ∃ A0 c0 A1 c1, cs = [.slice A0 x.f0.length c0, .slice A1 x.f1.length c1] ∧ x.f0.length ≤ c0 ∧ Kd.F k124 W ok A0 x.f0.length x.f0 ∧ x.f1.length ≤ c1 ∧ Kd.F k126 W ok A1 x.f1.length x.f1 := by
  obtain ⟨A0, c0, A1, c1, rfl, l0, _, l1, _⟩ := k84_open (Kd.FK_now h); exact ⟨A0, c0, A1, c1, rfl, l0, (fun W' hW => by obtain ⟨A0_, c0_, A1_, c1_, he, l0_, g0_, l1_, g1_⟩ := k84_open (h W' hW); injection (Option.some.inj (show some (Value.slice A0 x.f0.length c0) = some (Value.slice A0_ x.f0.length c0_) from congrArg (fun l => l[0]?) he)) with ha_ _ _; rw [ha_]; exact g0_), l1, (fun W' hW => by obtain ⟨A0_, c0_, A1_, c1_, he, l0_, g0_, l1_, g1_⟩ := k84_open (h W' hW); injection (Option.some.inj (show some (Value.slice A1 x.f1.length c1) = some (Value.slice A1_ x.f1.length c1_) from congrArg (fun l => l[1]?) he)) with ha_ _ _; rw [ha_]; exact g1_)⟩
theorem k84_mkF (W : World) (ok : Nat → Prop) (x : S84) {A0 : Option Addr} {c0 : Nat} (l0 : x.f0.length ≤ c0) (g0 : Kd.F k124 W ok A0 x.f0.length x.f0) {A1 : Option Addr} {c1 : Nat} (l1 : x.f1.length ≤ c1) (g1 : Kd.F k126 W ok A1 x.f1.length x.f1) : Kd.FK k84 W ok x [.slice A0 x.f0.length c0, .slice A1 x.f1.length c1] := fun W2 hW => k84_mk W2 x l0 (g0 W2 hW) l1 (g1 W2 hW)
def rd_T84 (xs : List S84) (i : Int) : S84 := xs.getD i.toNat z84
theorem at_T84 {w : World} {A : Option Addr} {n : Nat} {xs : List S84} (h : Kd.C k84 w A n xs) (i : Int) (h0 : 0 ≤ i) (h1 : i < n) : ∃ ad A0 c0 A1 c1, A = some ad ∧ w.cell? (ad.add (i.toNat * 2)) = some (.slice A0 (rd_T84 xs i).f0.length c0) ∧ w.cell? ⟨(ad.add (i.toNat * 2)).block, (ad.add (i.toNat * 2)).off + 1, none⟩ = some (.slice A1 (rd_T84 xs i).f1.length c1) ∧ (rd_T84 xs i).f0.length ≤ c0 ∧ k124.C w A0 (rd_T84 xs i).f0.length (rd_T84 xs i).f0 ∧ (rd_T84 xs i).f1.length ≤ c1 ∧ k126.C w A1 (rd_T84 xs i).f1.length (rd_T84 xs i).f1 := by
  obtain ⟨ad, c, e, _, hK, hc0⟩ := Kd.C_get h z84 i h0 h1; have hc : ∀ j u, c[j]? = some u → w.cell? (ad.add (i.toNat * 2 + j)) = some u := hc0; obtain ⟨A0, c0, A1, c1, rfl, l0, g0, l1, g1⟩ := k84_open hK; exact ⟨ad, A0, c0, A1, c1, e, hc 0 _ rfl, by rw [← add_field _ _ 1 (by omega)]; exact hc 1 _ rfl, l0, g0, l1, g1⟩

/-! #### struct type 112 -/
structure S112 where
  f0 : ByteArray
  f1 : (List ByteArray)
def z112 : S112 := ⟨(⟨#[]⟩ : ByteArray), ([] : List ByteArray)⟩
def k112 : Kd S112 := Kd.iso (Kd.pair Kd.string (Kd.slice 9 Kd.string)) (fun x : S112 => (x.f0, x.f1))
theorem k112_heap : Kd.Heap k112 := Kd.heap_iso _ (Kd.heap_pair Kd.heap_string (Kd.heap_slice 9 Kd.heap_string))
theorem k112_open {w : World} {x : S112} {cs : List Value} (h : k112.K w x cs) : ∃ A1 c1, cs = [.string x.f0, .slice A1 x.f1.length c1] ∧ x.f1.length ≤ c1 ∧ Kd.string.C w A1 x.f1.length x.f1 := by
  obtain ⟨_, _, rfl, rfl, ⟨A1, c1, rfl, l1, g1⟩⟩ := h; exact ⟨A1, c1, rfl, l1, g1⟩
theorem k112_openM {w : World} {base : Nat} {ok : Nat → Prop} {x : S112} {cs : List Value} (h : k112.M w base ok x cs) : ∃ v1, cs = [.string x.f0, v1] ∧ Kd.string.R 9 w base ok v1 x.f1 := by
  obtain ⟨_, _, rfl, rfl, ⟨v1, rfl, g1⟩⟩ := h; exact ⟨v1, rfl, g1⟩
theorem k112_mk (w : World) (x : S112) {A1 : Option Addr} {c1 : Nat} (l1 : x.f1.length ≤ c1) (g1 : Kd.string.C w A1 x.f1.length x.f1) : k112.K w x [.string x.f0, .slice A1 x.f1.length c1] := ⟨[.string x.f0], [.slice A1 x.f1.length c1], rfl, rfl, ⟨A1, c1, rfl, l1, g1⟩⟩
theorem k112_mkM (w : World) (base : Nat) (ok : Nat → Prop) (x : S112) {v1 : Value} (g1 : Kd.string.R 9 w base ok v1 x.f1) : k112.M w base ok x [.string x.f0, v1] := ⟨[.string x.f0], [v1], rfl, rfl, ⟨v1, rfl, g1⟩⟩
theorem k112_openF {W : World} {ok : Nat → Prop} {x : S112} {cs : List Value} (h : Kd.FK k112 W ok x cs) : ∃ A1 c1, cs = [.string x.f0, .slice A1 x.f1.length c1] ∧ x.f1.length ≤ c1 ∧ Kd.F Kd.string W ok A1 x.f1.length x.f1 := by
  obtain ⟨A1, c1, rfl, l1, _⟩ := k112_open (Kd.FK_now h); exact ⟨A1, c1, rfl, l1, (fun W' hW => by obtain ⟨A1_, c1_, he, l1_, g1_⟩ := k112_open (h W' hW); injection (Option.some.inj (show some (Value.slice A1 x.f1.length c1) = some (Value.slice A1_ x.f1.length c1_) from congrArg (fun l => l[1]?) he)) with ha_ _ _; rw [ha_]; exact g1_)⟩
theorem k112_mkF (W : World) (ok : Nat → Prop) (x : S112) {A1 : Option Addr} {c1 : Nat} (l1 : x.f1.length ≤ c1) (g1 : Kd.F Kd.string W ok A1 x.f1.length x.f1) : Kd.FK k112 W ok x [.string x.f0, .slice A1 x.f1.length c1] := fun W2 hW => k112_mk W2 x l1 (g1 W2 hW)
def rd_T112 (xs : List S112) (i : Int) : S112 := xs.getD i.toNat z112
theorem at_T112 {w : World} {A : Option Addr} {n : Nat} {xs : List S112} (h : Kd.C k112 w A n xs) (i : Int) (h0 : 0 ≤ i) (h1 : i < n) : ∃ ad A1 c1, A = some ad ∧ w.cell? (ad.add (i.toNat * 2)) = some (.string (rd_T112 xs i).f0) ∧ w.cell? ⟨(ad.add (i.toNat * 2)).block, (ad.add (i.toNat * 2)).off + 1, none⟩ = some (.slice A1 (rd_T112 xs i).f1.length c1) ∧ (rd_T112 xs i).f1.length ≤ c1 ∧ Kd.string.C w A1 (rd_T112 xs i).f1.length (rd_T112 xs i).f1 := by
  obtain ⟨ad, c, e, _, hK, hc0⟩ := Kd.C_get h z112 i h0 h1; have hc : ∀ j u, c[j]? = some u → w.cell? (ad.add (i.toNat * 2 + j)) = some u := hc0; obtain ⟨A1, c1, rfl, l1, g1⟩ := k112_open hK; exact ⟨ad, A1, c1, e, hc 0 _ rfl, by rw [← add_field _ _ 1 (by omega)]; exact hc 1 _ rfl, l1, g1⟩

/-! #### struct type 119 -/
structure S119 where
  f0 : ByteArray
  f1 : ByteArray
def z119 : S119 := ⟨(⟨#[]⟩ : ByteArray), (⟨#[]⟩ : ByteArray)⟩
def k119 : Kd S119 := Kd.iso (Kd.pair Kd.string Kd.string) (fun x : S119 => (x.f0, x.f1))
theorem k119_heap : Kd.Heap k119 := Kd.heap_iso _ (Kd.heap_pair Kd.heap_string Kd.heap_string)
theorem k119_open {w : World} {x : S119} {cs : List Value} (h : k119.K w x cs) : cs = [.string x.f0, .string x.f1] := by
  obtain ⟨_, _, rfl, rfl, rfl⟩ := h; exact rfl
theorem k119_openM {w : World} {base : Nat} {ok : Nat → Prop} {x : S119} {cs : List Value} (h : k119.M w base ok x cs) : cs = [.string x.f0, .string x.f1] := by
  obtain ⟨_, _, rfl, rfl, rfl⟩ := h; exact rfl
theorem k119_mk (w : World) (x : S119)  : k119.K w x [.string x.f0, .string x.f1] := ⟨[.string x.f0], [.string x.f1], rfl, rfl, rfl⟩
theorem k119_mkM (w : World) (base : Nat) (ok : Nat → Prop) (x : S119)  : k119.M w base ok x [.string x.f0, .string x.f1] := ⟨[.string x.f0], [.string x.f1], rfl, rfl, rfl⟩
theorem k119_mkF (W : World) (ok : Nat → Prop) (x : S119) : Kd.FK k119 W ok x [.string x.f0, .string x.f1] := fun W2 _ => k119_mk W2 x
def rd_T119 (xs : List S119) (i : Int) : S119 := xs.getD i.toNat z119
theorem at_T119 {w : World} {A : Option Addr} {n : Nat} {xs : List S119} (h : Kd.C k119 w A n xs) (i : Int) (h0 : 0 ≤ i) (h1 : i < n) : ∃ ad , A = some ad ∧ w.cell? (ad.add (i.toNat * 2)) = some (.string (rd_T119 xs i).f0) ∧ w.cell? ⟨(ad.add (i.toNat * 2)).block, (ad.add (i.toNat * 2)).off + 1, none⟩ = some (.string (rd_T119 xs i).f1) := by
  obtain ⟨ad, c, e, _, hK, hc0⟩ := Kd.C_get h z119 i h0 h1; have hc : ∀ j u, c[j]? = some u → w.cell? (ad.add (i.toNat * 2 + j)) = some u := hc0; obtain rfl := k119_open hK; exact ⟨ad, e, hc 0 _ rfl, by rw [← add_field _ _ 1 (by omega)]; exact hc 1 _ rfl⟩

def rd_L12 (xs : List (List S119)) (i : Int) : (List S119) := xs.getD i.toNat ([] : List S119)
theorem at_L12 {w : World} {A : Option Addr} {n : Nat} {xs : List (List S119)} (h : Kd.C (Kd.slice 119 k119) w A n xs) (i : Int) (h0 : 0 ≤ i) (h1 : i < n) : ∃ ad A0 c0, A = some ad ∧ w.cell? (ad.add i.toNat) = some (.slice A0 (rd_L12 xs i).length c0) ∧ (rd_L12 xs i).length ≤ c0 ∧ k119.C w A0 (rd_L12 xs i).length (rd_L12 xs i) := by
  obtain ⟨ad, c, e, _, hK, hc0⟩ := Kd.C_get h ([] : List S119) i h0 h1; have hc : ∀ j u, c[j]? = some u → w.cell? (ad.add (i.toNat * 1 + j)) = some u := hc0; obtain ⟨A0, c0, rfl, l0, g0⟩ := hK; exact ⟨ad, A0, c0, e, by have hq := hc 0 _ rfl; rwa [Nat.mul_one, Nat.add_zero] at hq, l0, g0⟩

def rd_L13 (xs : List (List S112)) (i : Int) : (List S112) := xs.getD i.toNat ([] : List S112)
theorem at_L13 {w : World} {A : Option Addr} {n : Nat} {xs : List (List S112)} (h : Kd.C (Kd.slice 112 k112) w A n xs) (i : Int) (h0 : 0 ≤ i) (h1 : i < n) : ∃ ad A0 c0, A = some ad ∧ w.cell? (ad.add i.toNat) = some (.slice A0 (rd_L13 xs i).length c0) ∧ (rd_L13 xs i).length ≤ c0 ∧ k112.C w A0 (rd_L13 xs i).length (rd_L13 xs i) := by
  obtain ⟨ad, c, e, _, hK, hc0⟩ := Kd.C_get h ([] : List S112) i h0 h1; have hc : ∀ j u, c[j]? = some u → w.cell? (ad.add (i.toNat * 1 + j)) = some u := hc0; obtain ⟨A0, c0, rfl, l0, g0⟩ := hK; exact ⟨ad, A0, c0, e, by have hq := hc 0 _ rfl; rwa [Nat.mul_one, Nat.add_zero] at hq, l0, g0⟩

/-! #### struct type 89 -/
structure S89 where
  f0 : (List S119)
  f1 : (List S112)
def z89 : S89 := ⟨([] : List S119), ([] : List S112)⟩
def k89 : Kd S89 := Kd.iso (Kd.pair (Kd.slice 119 k119) (Kd.slice 112 k112)) (fun x : S89 => (x.f0, x.f1))
theorem k89_heap : Kd.Heap k89 := Kd.heap_iso _ (Kd.heap_pair (Kd.heap_slice 119 k119_heap) (Kd.heap_slice 112 k112_heap))
theorem k89_open {w : World} {x : S89} {cs : List Value} (h : k89.K w x cs) : ∃ A0 c0 A1 c1, cs = [.slice A0 x.f0.length c0, .slice A1 x.f1.length c1] ∧ x.f0.length ≤ c0 ∧ k119.C w A0 x.f0.length x.f0 ∧ x.f1.length ≤ c1 ∧ k112.C w A1 x.f1.length x.f1 := by
  obtain ⟨_, _, rfl, ⟨A0, c0, rfl, l0, g0⟩, ⟨A1, c1, rfl, l1, g1⟩⟩ := h; exact ⟨A0, c0, A1, c1, rfl, l0, g0, l1, g1⟩
theorem k89_openM {w : World} {base : Nat} {ok : Nat → Prop} {x : S89} {cs : List Value} (h : k89.M w base ok x cs) : ∃ v0 v1, cs = [v0, v1] ∧ k119.R 119 w base ok v0 x.f0 ∧ k112.R 112 w base ok v1 x.f1 := by
  obtain ⟨_, _, rfl, ⟨v0, rfl, g0⟩, ⟨v1, rfl, g1⟩⟩ := h; exact ⟨v0, v1, rfl, g0, g1⟩
theorem k89_mk (w : World) (x : S89) {A0 : Option Addr} {c0 : Nat} (l0 : x.f0.length ≤ c0) (g0 : k119.C w A0 x.f0.length x.f0) {A1 : Option Addr} {c1 : Nat} (l1 : x.f1.length ≤ c1) (g1 : k112.C w A1 x.f1.length x.f1) : k89.K w x [.slice A0 x.f0.length c0, .slice A1 x.f1.length c1] := ⟨[.slice A0 x.f0.length c0], [.slice A1 x.f1.length c1], rfl, ⟨A0, c0, rfl, l0, g0⟩, ⟨A1, c1, rfl, l1, g1⟩⟩
theorem k89_mkM (w : World) (base : Nat) (ok : Nat → Prop) (x : S89) {v0 : Value} (g0 : k119.R 119 w base ok v0 x.f0) {v1 : Value} (g1 : k112.R 112 w base ok v1 x.f1) : k89.M w base ok x [v0, v1] := ⟨[v0], [v1], rfl, ⟨v0, rfl, g0⟩, ⟨v1, rfl, g1⟩⟩
theorem k89_openF {W : World} {ok : Nat → Prop} {x : S89} {cs : List Value} (h : Kd.FK k89 W ok x cs) : ∃ A0 c0 A1 c1, cs = [.slice A0 x.f0.length c0, .slice A1 x.f1.length c1] ∧ x.f0.length ≤ c0 ∧ Kd.F k119 W ok A0 x.f0.length x.f0 ∧ x.f1.length ≤ c1 ∧ Kd.F k112 W ok A1 x.f1.length x.f1 := by
  obtain ⟨A0, c0, A1, c1, rfl, l0, _, l1, _⟩ := k89_open (Kd.FK_now h); exact ⟨A0, c0, A1, c1, rfl, l0, (fun W' hW => by obtain ⟨A0_, c0_, A1_, c1_, he, l0_, g0_, l1_, g1_⟩ := k89_open (h W' hW); injection (Option.some.inj (show some (Value.slice A0 x.f0.length c0) = some (Value.slice A0_ x.f0.length c0_) from congrArg (fun l => l[0]?) he)) with ha_ _ _; rw [ha_]; exact g0_), l1, (fun W' hW => by obtain ⟨A0_, c0_, A1_, c1_, he, l0_, g0_, l1_, g1_⟩ := k89_open (h W' hW); injection (Option.some.inj (show some (Value.slice A1 x.f1.length c1) = some (Value.slice A1_ x.f1.length c1_) from congrArg (fun l => l[1]?) he)) with ha_ _ _; rw [ha_]; exact g1_)⟩
theorem k89_mkF (W : World) (ok : Nat → Prop) (x : S89) {A0 : Option Addr} {c0 : Nat} (l0 : x.f0.length ≤ c0) (g0 : Kd.F k119 W ok A0 x.f0.length x.f0) {A1 : Option Addr} {c1 : Nat} (l1 : x.f1.length ≤ c1) (g1 : Kd.F k112 W ok A1 x.f1.length x.f1) : Kd.FK k89 W ok x [.slice A0 x.f0.length c0, .slice A1 x.f1.length c1] := fun W2 hW => k89_mk W2 x l0 (g0 W2 hW) l1 (g1 W2 hW)
def rd_T89 (xs : List S89) (i : Int) : S89 := xs.getD i.toNat z89
theorem at_T89 {w : World} {A : Option Addr} {n : Nat} {xs : List S89} (h : Kd.C k89 w A n xs) (i : Int) (h0 : 0 ≤ i) (h1 : i < n) : ∃ ad A0 c0 A1 c1, A = some ad ∧ w.cell? (ad.add (i.toNat * 2)) = some (.slice A0 (rd_T89 xs i).f0.length c0) ∧ w.cell? ⟨(ad.add (i.toNat * 2)).block, (ad.add (i.toNat * 2)).off + 1, none⟩ = some (.slice A1 (rd_T89 xs i).f1.length c1) ∧ (rd_T89 xs i).f0.length ≤ c0 ∧ k119.C w A0 (rd_T89 xs i).f0.length (rd_T89 xs i).f0 ∧ (rd_T89 xs i).f1.length ≤ c1 ∧ k112.C w A1 (rd_T89 xs i).f1.length (rd_T89 xs i).f1 := by
  obtain ⟨ad, c, e, _, hK, hc0⟩ := Kd.C_get h z89 i h0 h1; have hc : ∀ j u, c[j]? = some u → w.cell? (ad.add (i.toNat * 2 + j)) = some u := hc0; obtain ⟨A0, c0, A1, c1, rfl, l0, g0, l1, g1⟩ := k89_open hK; exact ⟨ad, A0, c0, A1, c1, e, hc 0 _ rfl, by rw [← add_field _ _ 1 (by omega)]; exact hc 1 _ rfl, l0, g0, l1, g1⟩

/-! #### struct type 98 -/
structure S98 where
  f0 : Int
  f1 : Int
  f2 : ByteArray
  f3 : S84
def z98 : S98 := ⟨(0 : Int), (0 : Int), (⟨#[]⟩ : ByteArray), z84⟩
def k98 : Kd S98 := Kd.iso (Kd.pair (Kd.int .i64) (Kd.pair (Kd.int .i64) (Kd.pair Kd.string k84))) (fun x : S98 => (x.f0, x.f1, x.f2, x.f3))
theorem k98_heap : Kd.Heap k98 := Kd.heap_iso _ (Kd.heap_pair (Kd.heap_int .i64) (Kd.heap_pair (Kd.heap_int .i64) (Kd.heap_pair Kd.heap_string k84_heap)))
theorem k98_open {w : World} {x : S98} {cs : List Value} (h : k98.K w x cs) : ∃ A3 c3 A4 c4, cs = [.int .i64 x.f0, .int .i64 x.f1, .string x.f2, .slice A3 x.f3.f0.length c3, .slice A4 x.f3.f1.length c4] ∧ x.f3.f0.length ≤ c3 ∧ k124.C w A3 x.f3.f0.length x.f3.f0 ∧ x.f3.f1.length ≤ c4 ∧ k126.C w A4 x.f3.f1.length x.f3.f1 := by
  obtain ⟨_, _, rfl, rfl, ⟨_, _, rfl, rfl, ⟨_, _, rfl, rfl, s3⟩⟩⟩ := h; obtain ⟨A3, c3, A4, c4, rfl, l3, g3, l4, g4⟩ := k84_open s3; exact ⟨A3, c3, A4, c4, rfl, l3, g3, l4, g4⟩
theorem k98_openM {w : World} {base : Nat} {ok : Nat → Prop} {x : S98} {cs : List Value} (h : k98.M w base ok x cs) : ∃ v3 v4, cs = [.int .i64 x.f0, .int .i64 x.f1, .string x.f2, v3, v4] ∧ k124.R 124 w base ok v3 x.f3.f0 ∧ k126.R 126 w base ok v4 x.f3.f1 := by
  obtain ⟨_, _, rfl, rfl, ⟨_, _, rfl, rfl, ⟨_, _, rfl, rfl, s3⟩⟩⟩ := h; obtain ⟨v3, v4, rfl, g3, g4⟩ := k84_openM s3; exact ⟨v3, v4, rfl, g3, g4⟩
theorem k98_mk (w : World) (x : S98) {A3 : Option Addr} {c3 : Nat} (l3 : x.f3.f0.length ≤ c3) (g3 : k124.C w A3 x.f3.f0.length x.f3.f0) {A4 : Option Addr} {c4 : Nat} (l4 : x.f3.f1.length ≤ c4) (g4 : k126.C w A4 x.f3.f1.length x.f3.f1) : k98.K w x [.int .i64 x.f0, .int .i64 x.f1, .string x.f2, .slice A3 x.f3.f0.length c3, .slice A4 x.f3.f1.length c4] := ⟨[.int .i64 x.f0], [.int .i64 x.f1, .string x.f2, .slice A3 x.f3.f0.length c3, .slice A4 x.f3.f1.length c4], rfl, rfl, ⟨[.int .i64 x.f1], [.string x.f2, .slice A3 x.f3.f0.length c3, .slice A4 x.f3.f1.length c4], rfl, rfl, ⟨[.string x.f2], [.slice A3 x.f3.f0.length c3, .slice A4 x.f3.f1.length c4], rfl, rfl, (k84_mk w x.f3 l3 g3 l4 g4)⟩⟩⟩
theorem k98_mkM (w : World) (base : Nat) (ok : Nat → Prop) (x : S98) {v3 : Value} (g3 : k124.R 124 w base ok v3 x.f3.f0) {v4 : Value} (g4 : k126.R 126 w base ok v4 x.f3.f1) : k98.M w base ok x [.int .i64 x.f0, .int .i64 x.f1, .string x.f2, v3, v4] := ⟨[.int .i64 x.f0], [.int .i64 x.f1, .string x.f2, v3, v4], rfl, rfl, ⟨[.int .i64 x.f1], [.string x.f2, v3, v4], rfl, rfl, ⟨[.string x.f2], [v3, v4], rfl, rfl, (k84_mkM w base ok x.f3 g3 g4)⟩⟩⟩
theorem k98_openF {W : World} {ok : Nat → Prop} {x : S98} {cs : List Value} (h : Kd.FK k98 W ok x cs) : ∃ A3 c3 A4 c4, cs = [.int .i64 x.f0, .int .i64 x.f1, .string x.f2, .slice A3 x.f3.f0.length c3, .slice A4 x.f3.f1.length c4] ∧ x.f3.f0.length ≤ c3 ∧ Kd.F k124 W ok A3 x.f3.f0.length x.f3.f0 ∧ x.f3.f1.length ≤ c4 ∧ Kd.F k126 W ok A4 x.f3.f1.length x.f3.f1 := by
  obtain ⟨A3, c3, A4, c4, rfl, l3, _, l4, _⟩ := k98_open (Kd.FK_now h); exact ⟨A3, c3, A4, c4, rfl, l3, (fun W' hW => by obtain ⟨A3_, c3_, A4_, c4_, he, l3_, g3_, l4_, g4_⟩ := k98_open (h W' hW); injection (Option.some.inj (show some (Value.slice A3 x.f3.f0.length c3) = some (Value.slice A3_ x.f3.f0.length c3_) from congrArg (fun l => l[3]?) he)) with ha_ _ _; rw [ha_]; exact g3_), l4, (fun W' hW => by obtain ⟨A3_, c3_, A4_, c4_, he, l3_, g3_, l4_, g4_⟩ := k98_open (h W' hW); injection (Option.some.inj (show some (Value.slice A4 x.f3.f1.length c4) = some (Value.slice A4_ x.f3.f1.length c4_) from congrArg (fun l => l[4]?) he)) with ha_ _ _; rw [ha_]; exact g4_)⟩
theorem k98_mkF (W : World) (ok : Nat → Prop) (x : S98) {A3 : Option Addr} {c3 : Nat} (l3 : x.f3.f0.length ≤ c3) (g3 : Kd.F k124 W ok A3 x.f3.f0.length x.f3.f0) {A4 : Option Addr} {c4 : Nat} (l4 : x.f3.f1.length ≤ c4) (g4 : Kd.F k126 W ok A4 x.f3.f1.length x.f3.f1) : Kd.FK k98 W ok x [.int .i64 x.f0, .int .i64 x.f1, .string x.f2, .slice A3 x.f3.f0.length c3, .slice A4 x.f3.f1.length c4] := fun W2 hW => k98_mk W2 x l3 (g3 W2 hW) l4 (g4 W2 hW)
def rd_T98 (xs : List S98) (i : Int) : S98 := xs.getD i.toNat z98
theorem at_T98 {w : World} {A : Option Addr} {n : Nat} {xs : List S98} (h : Kd.C k98 w A n xs) (i : Int) (h0 : 0 ≤ i) (h1 : i < n) : ∃ ad A3 c3 A4 c4, A = some ad ∧ w.cell? (ad.add (i.toNat * 5)) = some (.int .i64 (rd_T98 xs i).f0) ∧ w.cell? ⟨(ad.add (i.toNat * 5)).block, (ad.add (i.toNat * 5)).off + 1, none⟩ = some (.int .i64 (rd_T98 xs i).f1) ∧ w.cell? ⟨(ad.add (i.toNat * 5)).block, (ad.add (i.toNat * 5)).off + 2, none⟩ = some (.string (rd_T98 xs i).f2) ∧ w.cell? ⟨(ad.add (i.toNat * 5)).block, (ad.add (i.toNat * 5)).off + 3, none⟩ = some (.slice A3 (rd_T98 xs i).f3.f0.length c3) ∧ w.cell? ⟨(ad.add (i.toNat * 5)).block, (ad.add (i.toNat * 5)).off + 4, none⟩ = some (.slice A4 (rd_T98 xs i).f3.f1.length c4) ∧ (rd_T98 xs i).f3.f0.length ≤ c3 ∧ k124.C w A3 (rd_T98 xs i).f3.f0.length (rd_T98 xs i).f3.f0 ∧ (rd_T98 xs i).f3.f1.length ≤ c4 ∧ k126.C w A4 (rd_T98 xs i).f3.f1.length (rd_T98 xs i).f3.f1 := by
  obtain ⟨ad, c, e, _, hK, hc0⟩ := Kd.C_get h z98 i h0 h1; have hc : ∀ j u, c[j]? = some u → w.cell? (ad.add (i.toNat * 5 + j)) = some u := hc0; obtain ⟨A3, c3, A4, c4, rfl, l3, g3, l4, g4⟩ := k98_open hK; exact ⟨ad, A3, c3, A4, c4, e, hc 0 _ rfl, by rw [← add_field _ _ 1 (by omega)]; exact hc 1 _ rfl, by rw [← add_field _ _ 2 (by omega)]; exact hc 2 _ rfl, by rw [← add_field _ _ 3 (by omega)]; exact hc 3 _ rfl, by rw [← add_field _ _ 4 (by omega)]; exact hc 4 _ rfl, l3, g3, l4, g4⟩

/-! #### struct type 100 -/
structure S100 where
  f0 : Int
  f1 : Int
  f2 : ByteArray
  f3 : S89
def z100 : S100 := ⟨(0 : Int), (0 : Int), (⟨#[]⟩ : ByteArray), z89⟩
def k100 : Kd S100 := Kd.iso (Kd.pair (Kd.int .i64) (Kd.pair (Kd.int .i64) (Kd.pair Kd.string k89))) (fun x : S100 => (x.f0, x.f1, x.f2, x.f3))
theorem k100_heap : Kd.Heap k100 := Kd.heap_iso _ (Kd.heap_pair (Kd.heap_int .i64) (Kd.heap_pair (Kd.heap_int .i64) (Kd.heap_pair Kd.heap_string k89_heap)))
theorem k100_open {w : World} {x : S100} {cs : List Value} (h : k100.K w x cs) : ∃ A3 c3 A4 c4, cs = [.int .i64 x.f0, .int .i64 x.f1, .string x.f2, .slice A3 x.f3.f0.length c3, .slice A4 x.f3.f1.length c4] ∧ x.f3.f0.length ≤ c3 ∧ k119.C w A3 x.f3.f0.length x.f3.f0 ∧ x.f3.f1.length ≤ c4 ∧ k112.C w A4 x.f3.f1.length x.f3.f1 := by
  obtain ⟨_, _, rfl, rfl, ⟨_, _, rfl, rfl, ⟨_, _, rfl, rfl, s3⟩⟩⟩ := h; obtain ⟨A3, c3, A4, c4, rfl, l3, g3, l4, g4⟩ := k89_open s3; exact ⟨A3, c3, A4, c4, rfl, l3, g3, l4, g4⟩
theorem k100_openM {w : World} {base : Nat} {ok : Nat → Prop} {x : S100} {cs : List Value} (h : k100.M w base ok x cs) : ∃ v3 v4, cs = [.int .i64 x.f0, .int .i64 x.f1, .string x.f2, v3, v4] ∧ k119.R 119 w base ok v3 x.f3.f0 ∧ k112.R 112 w base ok v4 x.f3.f1 := by
  obtain ⟨_, _, rfl, rfl, ⟨_, _, rfl, rfl, ⟨_, _, rfl, rfl, s3⟩⟩⟩ := h; obtain ⟨v3, v4, rfl, g3, g4⟩ := k89_openM s3; exact ⟨v3, v4, rfl, g3, g4⟩
theorem k100_mk (w : World) (x : S100) {A3 : Option Addr} {c3 : Nat} (l3 : x.f3.f0.length ≤ c3) (g3 : k119.C w A3 x.f3.f0.length x.f3.f0) {A4 : Option Addr} {c4 : Nat} (l4 : x.f3.f1.length ≤ c4) (g4 : k112.C w A4 x.f3.f1.length x.f3.f1) : k100.K w x [.int .i64 x.f0, .int .i64 x.f1, .string x.f2, .slice A3 x.f3.f0.length c3, .slice A4 x.f3.f1.length c4] := ⟨[.int .i64 x.f0], [.int .i64 x.f1, .string x.f2, .slice A3 x.f3.f0.length c3, .slice A4 x.f3.f1.length c4], rfl, rfl, ⟨[.int .i64 x.f1], [.string x.f2, .slice A3 x.f3.f0.length c3, .slice A4 x.f3.f1.length c4], rfl, rfl, ⟨[.string x.f2], [.slice A3 x.f3.f0.length c3, .slice A4 x.f3.f1.length c4], rfl, rfl, (k89_mk w x.f3 l3 g3 l4 g4)⟩⟩⟩
theorem k100_mkM (w : World) (base : Nat) (ok : Nat → Prop) (x : S100) {v3 : Value} (g3 : k119.R 119 w base ok v3 x.f3.f0) {v4 : Value} (g4 : k112.R 112 w base ok v4 x.f3.f1) : k100.M w base ok x [.int .i64 x.f0, .int .i64 x.f1, .string x.f2, v3, v4] := ⟨[.int .i64 x.f0], [.int .i64 x.f1, .string x.f2, v3, v4], rfl, rfl, ⟨[.int .i64 x.f1], [.string x.f2, v3, v4], rfl, rfl, ⟨[.string x.f2], [v3, v4], rfl, rfl, (k89_mkM w base ok x.f3 g3 g4)⟩⟩⟩
theorem k100_openF {W : World} {ok : Nat → Prop} {x : S100} {cs : List Value} (h : Kd.FK k100 W ok x cs) : ∃ A3 c3 A4 c4, cs = [.int .i64 x.f0, .int .i64 x.f1, .string x.f2, .slice A3 x.f3.f0.length c3, .slice A4 x.f3.f1.length c4] ∧ x.f3.f0.length ≤ c3 ∧ Kd.F k119 W ok A3 x.f3.f0.length x.f3.f0 ∧ x.f3.f1.length ≤ c4 ∧ Kd.F k112 W ok A4 x.f3.f1.length x.f3.f1 := by
  obtain ⟨A3, c3, A4, c4, rfl, l3, _, l4, _⟩ := k100_open (Kd.FK_now h); exact ⟨A3, c3, A4, c4, rfl, l3, (fun W' hW => by obtain ⟨A3_, c3_, A4_, c4_, he, l3_, g3_, l4_, g4_⟩ := k100_open (h W' hW); injection (Option.some.inj (show some (Value.slice A3 x.f3.f0.length c3) = some (Value.slice A3_ x.f3.f0.length c3_) from congrArg (fun l => l[3]?) he)) with ha_ _ _; rw [ha_]; exact g3_), l4, (fun W' hW => by obtain ⟨A3_, c3_, A4_, c4_, he, l3_, g3_, l4_, g4_⟩ := k100_open (h W' hW); injection (Option.some.inj (show some (Value.slice A4 x.f3.f1.length c4) = some (Value.slice A4_ x.f3.f1.length c4_) from congrArg (fun l => l[4]?) he)) with ha_ _ _; rw [ha_]; exact g4_)⟩
theorem k100_mkF (W : World) (ok : Nat → Prop) (x : S100) {A3 : Option Addr} {c3 : Nat} (l3 : x.f3.f0.length ≤ c3) (g3 : Kd.F k119 W ok A3 x.f3.f0.length x.f3.f0) {A4 : Option Addr} {c4 : Nat} (l4 : x.f3.f1.length ≤ c4) (g4 : Kd.F k112 W ok A4 x.f3.f1.length x.f3.f1) : Kd.FK k100 W ok x [.int .i64 x.f0, .int .i64 x.f1, .string x.f2, .slice A3 x.f3.f0.length c3, .slice A4 x.f3.f1.length c4] := fun W2 hW => k100_mk W2 x l3 (g3 W2 hW) l4 (g4 W2 hW)
def rd_T100 (xs : List S100) (i : Int) : S100 := xs.getD i.toNat z100
theorem at_T100 {w : World} {A : Option Addr} {n : Nat} {xs : List S100} (h : Kd.C k100 w A n xs) (i : Int) (h0 : 0 ≤ i) (h1 : i < n) : ∃ ad A3 c3 A4 c4, A = some ad ∧ w.cell? (ad.add (i.toNat * 5)) = some (.int .i64 (rd_T100 xs i).f0) ∧ w.cell? ⟨(ad.add (i.toNat * 5)).block, (ad.add (i.toNat * 5)).off + 1, none⟩ = some (.int .i64 (rd_T100 xs i).f1) ∧ w.cell? ⟨(ad.add (i.toNat * 5)).block, (ad.add (i.toNat * 5)).off + 2, none⟩ = some (.string (rd_T100 xs i).f2) ∧ w.cell? ⟨(ad.add (i.toNat * 5)).block, (ad.add (i.toNat * 5)).off + 3, none⟩ = some (.slice A3 (rd_T100 xs i).f3.f0.length c3) ∧ w.cell? ⟨(ad.add (i.toNat * 5)).block, (ad.add (i.toNat * 5)).off + 4, none⟩ = some (.slice A4 (rd_T100 xs i).f3.f1.length c4) ∧ (rd_T100 xs i).f3.f0.length ≤ c3 ∧ k119.C w A3 (rd_T100 xs i).f3.f0.length (rd_T100 xs i).f3.f0 ∧ (rd_T100 xs i).f3.f1.length ≤ c4 ∧ k112.C w A4 (rd_T100 xs i).f3.f1.length (rd_T100 xs i).f3.f1 := by
  obtain ⟨ad, c, e, _, hK, hc0⟩ := Kd.C_get h z100 i h0 h1; have hc : ∀ j u, c[j]? = some u → w.cell? (ad.add (i.toNat * 5 + j)) = some u := hc0; obtain ⟨A3, c3, A4, c4, rfl, l3, g3, l4, g4⟩ := k100_open hK; exact ⟨ad, A3, c3, A4, c4, e, hc 0 _ rfl, by rw [← add_field _ _ 1 (by omega)]; exact hc 1 _ rfl, by rw [← add_field _ _ 2 (by omega)]; exact hc 2 _ rfl, by rw [← add_field _ _ 3 (by omega)]; exact hc 3 _ rfl, by rw [← add_field _ _ 4 (by omega)]; exact hc 4 _ rfl, l3, g3, l4, g4⟩

def rd_L17 (xs : List (List Int)) (i : Int) : (List Int) := xs.getD i.toNat ([] : List Int)
theorem at_L17 {w : World} {A : Option Addr} {n : Nat} {xs : List (List Int)} (h : Kd.C (Kd.slice 5 (Kd.int .u8)) w A n xs) (i : Int) (h0 : 0 ≤ i) (h1 : i < n) : ∃ ad A0 c0, A = some ad ∧ w.cell? (ad.add i.toNat) = some (.slice A0 (rd_L17 xs i).length c0) ∧ (rd_L17 xs i).length ≤ c0 ∧ (Kd.int .u8).C w A0 (rd_L17 xs i).length (rd_L17 xs i) := by
  obtain ⟨ad, c, e, _, hK, hc0⟩ := Kd.C_get h ([] : List Int) i h0 h1; have hc : ∀ j u, c[j]? = some u → w.cell? (ad.add (i.toNat * 1 + j)) = some u := hc0; obtain ⟨A0, c0, rfl, l0, g0⟩ := hK; exact ⟨ad, A0, c0, e, by have hq := hc 0 _ rfl; rwa [Nat.mul_one, Nat.add_zero] at hq, l0, g0⟩

def rd_L19 (xs : List (List S84)) (i : Int) : (List S84) := xs.getD i.toNat ([] : List S84)
theorem at_L19 {w : World} {A : Option Addr} {n : Nat} {xs : List (List S84)} (h : Kd.C (Kd.slice 84 k84) w A n xs) (i : Int) (h0 : 0 ≤ i) (h1 : i < n) : ∃ ad A0 c0, A = some ad ∧ w.cell? (ad.add i.toNat) = some (.slice A0 (rd_L19 xs i).length c0) ∧ (rd_L19 xs i).length ≤ c0 ∧ k84.C w A0 (rd_L19 xs i).length (rd_L19 xs i) := by
  obtain ⟨ad, c, e, _, hK, hc0⟩ := Kd.C_get h ([] : List S84) i h0 h1; have hc : ∀ j u, c[j]? = some u → w.cell? (ad.add (i.toNat * 1 + j)) = some u := hc0; obtain ⟨A0, c0, rfl, l0, g0⟩ := hK; exact ⟨ad, A0, c0, e, by have hq := hc 0 _ rfl; rwa [Nat.mul_one, Nat.add_zero] at hq, l0, g0⟩

def rd_L20 (xs : List (List S89)) (i : Int) : (List S89) := xs.getD i.toNat ([] : List S89)
theorem at_L20 {w : World} {A : Option Addr} {n : Nat} {xs : List (List S89)} (h : Kd.C (Kd.slice 89 k89) w A n xs) (i : Int) (h0 : 0 ≤ i) (h1 : i < n) : ∃ ad A0 c0, A = some ad ∧ w.cell? (ad.add i.toNat) = some (.slice A0 (rd_L20 xs i).length c0) ∧ (rd_L20 xs i).length ≤ c0 ∧ k89.C w A0 (rd_L20 xs i).length (rd_L20 xs i) := by
  obtain ⟨ad, c, e, _, hK, hc0⟩ := Kd.C_get h ([] : List S89) i h0 h1; have hc : ∀ j u, c[j]? = some u → w.cell? (ad.add (i.toNat * 1 + j)) = some u := hc0; obtain ⟨A0, c0, rfl, l0, g0⟩ := hK; exact ⟨ad, A0, c0, e, by have hq := hc 0 _ rfl; rwa [Nat.mul_one, Nat.add_zero] at hq, l0, g0⟩

def rd_L21 (xs : List (List S98)) (i : Int) : (List S98) := xs.getD i.toNat ([] : List S98)
theorem at_L21 {w : World} {A : Option Addr} {n : Nat} {xs : List (List S98)} (h : Kd.C (Kd.slice 98 k98) w A n xs) (i : Int) (h0 : 0 ≤ i) (h1 : i < n) : ∃ ad A0 c0, A = some ad ∧ w.cell? (ad.add i.toNat) = some (.slice A0 (rd_L21 xs i).length c0) ∧ (rd_L21 xs i).length ≤ c0 ∧ k98.C w A0 (rd_L21 xs i).length (rd_L21 xs i) := by
  obtain ⟨ad, c, e, _, hK, hc0⟩ := Kd.C_get h ([] : List S98) i h0 h1; have hc : ∀ j u, c[j]? = some u → w.cell? (ad.add (i.toNat * 1 + j)) = some u := hc0; obtain ⟨A0, c0, rfl, l0, g0⟩ := hK; exact ⟨ad, A0, c0, e, by have hq := hc 0 _ rfl; rwa [Nat.mul_one, Nat.add_zero] at hq, l0, g0⟩

def rd_L22 (xs : List (List S100)) (i : Int) : (List S100) := xs.getD i.toNat ([] : List S100)
theorem at_L22 {w : World} {A : Option Addr} {n : Nat} {xs : List (List S100)} (h : Kd.C (Kd.slice 100 k100) w A n xs) (i : Int) (h0 : 0 ≤ i) (h1 : i < n) : ∃ ad A0 c0, A = some ad ∧ w.cell? (ad.add i.toNat) = some (.slice A0 (rd_L22 xs i).length c0) ∧ (rd_L22 xs i).length ≤ c0 ∧ k100.C w A0 (rd_L22 xs i).length (rd_L22 xs i) := by
  obtain ⟨ad, c, e, _, hK, hc0⟩ := Kd.C_get h ([] : List S100) i h0 h1; have hc : ∀ j u, c[j]? = some u → w.cell? (ad.add (i.toNat * 1 + j)) = some u := hc0; obtain ⟨A0, c0, rfl, l0, g0⟩ := hK; exact ⟨ad, A0, c0, e, by have hq := hc 0 _ rfl; rwa [Nat.mul_one, Nat.add_zero] at hq, l0, g0⟩

set_option linter.unusedVariables false
set_option linter.unusedSimpArgs false

theorem eqA27 (d : Nat) (w : World) (x0 y0 : Int) (x1 y1 : ByteArray) :
    (Op.equalIn (d + 2) 27 (.agg #[.int .i64 x0, .string x1]) (.agg #[.int .i64 y0, .string y1])).run Try.prog w = .ok (x0 == y0 && (x1.toList == y1.toList)) w := by
  refine eqA_of Try.underlying27 (by kernel_rfl) ?_; refine eqf_cons (by rfl) (by go_simp; rfl) (by go_simp; rfl) (by go_simp) ?_; exact eqf_last (by rfl) (by go_simp; rfl) (by go_simp; rfl) (by go_simp)
set_option linter.unusedVariables false
set_option linter.unusedSimpArgs false

theorem eqA29 (d : Nat) (w : World) (x0 y0 : Int) (x1 y1 : ByteArray) (x2 y2 : Int) (x3 y3 : Int) :
    (Op.equalIn (d + 3) 29 (.agg #[.int .i64 x0, .string x1, .int .i64 x2, .int .i64 x3]) (.agg #[.int .i64 y0, .string y1, .int .i64 y2, .int .i64 y3])).run Try.prog w = .ok ((x0 == y0 && (x1.toList == y1.toList)) && (x2 == y2 && (x3 == y3))) w := by
  refine eqA_of Try.underlying29 (by kernel_rfl) ?_; refine eqf_cons (by rfl) (by go_simp) (by go_simp) (eqA27 (d + 0) w _ _ _ _) ?_; refine eqf_cons (by rfl) (by go_simp; rfl) (by go_simp; rfl) (by go_simp) ?_; exact eqf_last (by rfl) (by go_simp; rfl) (by go_simp; rfl) (by go_simp)
set_option linter.unusedVariables false
set_option linter.unusedSimpArgs false

theorem eqA44 (d : Nat) (w : World) (x0 y0 : Int) (x1 y1 : Int) (x2 y2 : Int) :
    (Op.equalIn (d + 2) 44 (.agg #[.int .i64 x0, .int .i64 x1, .int .i64 x2]) (.agg #[.int .i64 y0, .int .i64 y1, .int .i64 y2])).run Try.prog w = .ok (x0 == y0 && (x1 == y1 && (x2 == y2))) w := by
  refine eqA_of Try.underlying44 (by kernel_rfl) ?_; refine eqf_cons (by rfl) (by go_simp; rfl) (by go_simp; rfl) (by go_simp) ?_; refine eqf_cons (by rfl) (by go_simp; rfl) (by go_simp; rfl) (by go_simp) ?_; exact eqf_last (by rfl) (by go_simp; rfl) (by go_simp; rfl) (by go_simp)
set_option linter.unusedVariables false
set_option linter.unusedSimpArgs false

/-- A state of type 105 at block g of W; what its slices lead to came in by w0. -/
def IsS105 (w0 W : World) (g : Nat) (f0 : List Int) (f1 : Int) (f2 : Int) (f3 : Int) : Prop := ∃ A0 c0, W.heap[g]? = some (.cells #[.slice A0 f0.length c0, .int .i64 f1, .int .u64 f2, .int .i64 f3] 105 (0, 0)) ∧ w0.heap.size ≤ g ∧ Kd.C (Kd.int .u8) w0 A0 f0.length f0
theorem IsS105.grown {w0 W : World} {g : Nat} {f0 : List Int} {f1 : Int} {f2 : Int} {f3 : Int} {W1 : World} {row : Option Nat} (h : IsS105 w0 W g f0 f1 f2 f3) (hw : W.grownBy W1 row) (hne : some g ≠ row) : IsS105 w0 W1 g f0 f1 f2 f3 := by
  obtain ⟨A0, c0, hb, hg, hr0⟩ := h; exact ⟨A0, c0, blk_grown hb hw hne, hg, hr0⟩
theorem IsS105.own_neN {w0 W : World} {g : Nat} {f0 : List Int} {f1 : Int} {f2 : Int} {f3 : Int} {α : Type} {d : Kd α} {e : Nat} {base : Nat} {ok : Nat → Prop} {v : Value} {xs : List α} (h : IsS105 w0 W g f0 f1 f2 f3) (ho : Kd.N d e W base ok v xs) (ht : e ≠ 105) : some g ≠ v.ownBlock := by
  obtain ⟨A0, c0, hb, hg, hr0⟩ := h; exact Kd.N_ne ho hb ht
theorem IsS105.fresh {w0 W : World} {g : Nat} {f0 : List Int} {f1 : Int} {f2 : Int} {f3 : Int} (h : IsS105 w0 W g f0 f1 f2 f3) : ∀ k, W.heap.size ≤ k → k ≠ g := by
  obtain ⟨A0, c0, hb, hg, hr0⟩ := h; exact Kd.freshB hb
theorem IsS105.kept {w0 W : World} {g : Nat} {f0 : List Int} {f1 : Int} {f2 : Int} {f3 : Int} {W1 : World} {S : Nat → Prop} (h : IsS105 w0 W g f0 f1 f2 f3) (hk : Kept W W1 S) (hne : ¬ S g) : IsS105 w0 W1 g f0 f1 f2 f3 := by
  obtain ⟨A0, c0, hb, hg, hr0⟩ := h; exact ⟨A0, c0, blk_kept hb hk hne, hg, hr0⟩
theorem IsS105.below {w0 W : World} {g : Nat} {f0 : List Int} {f1 : Int} {f2 : Int} {f3 : Int} {W1 : World} (h : IsS105 w0 W g f0 f1 f2 f3) (hw : Below W.heap.size W W1) : IsS105 w0 W1 g f0 f1 f2 f3 := h.grown (grown_of_below hw none) (by simp)
theorem IsS105.alloc {w0 W : World} {g : Nat} {f0 : List Int} {f1 : Int} {f2 : Int} {f3 : Int} (h : IsS105 w0 W g f0 f1 f2 f3) (o : Obj) : IsS105 w0 (W.alloc o) g f0 f1 f2 f3 := h.below (below_alloc (Below.refl _ _) o)
theorem IsS105.drewN {w0 W : World} {g : Nat} {f0 : List Int} {f1 : Int} {f2 : Int} {f3 : Int} (h : IsS105 w0 W g f0 f1 f2 f3) (m : Nat) : IsS105 w0 (W.drewN m) g f0 f1 f2 f3 := h
theorem IsS105.drew {w0 W : World} {g : Nat} {f0 : List Int} {f1 : Int} {f2 : Int} {f3 : Int} (h : IsS105 w0 W g f0 f1 f2 f3) : IsS105 w0 W.drew g f0 f1 f2 f3 := h
theorem IsS105.at_ {w0 W : World} {g : Nat} {f0 : List Int} {f1 : Int} {f2 : Int} {f3 : Int} {w' : World} {m : Nat} (hq : W.drewN m = w') (h : IsS105 w0 W g f0 f1 f2 f3) : IsS105 w0 w' g f0 f1 f2 f3 := by subst hq; exact IsS105.drewN h m
theorem IsS105.apart {w0 W : World} {g : Nat} {f0 : List Int} {f1 : Int} {f2 : Int} {f3 : Int} {α : Type} {d : Kd α} {e : Nat} {base : Nat} {ok : Nat → Prop} {v : Value} {xs : List α} (h : IsS105 w0 W g f0 f1 f2 f3) (ho : d.R e W base ok v xs) (ht : ∀ q, q ∈ e :: d.E → q ≠ 105) : d.R e W base (fun k => ok k ∧ k ≠ g) v xs := by
  obtain ⟨A0, c0, hb, hg, hr0⟩ := h; exact Kd.R_types ho hb ht
theorem IsS105.own_ne {w0 W : World} {g : Nat} {f0 : List Int} {f1 : Int} {f2 : Int} {f3 : Int} {α : Type} {d : Kd α} {e : Nat} {base : Nat} {ok : Nat → Prop} {v : Value} {xs : List α} (h : IsS105 w0 W g f0 f1 f2 f3) (ho : d.R e W base ok v xs) (ht : e ≠ 105) : some g ≠ v.ownBlock := by
  obtain ⟨A0, c0, hb, hg, hr0⟩ := h; exact Kd.R_ne ho hb ht
theorem IsS105.apartQ {w0 W : World} {g : Nat} {f0 : List Int} {f1 : Int} {f2 : Int} {f3 : Int} {α : Type} {d : Kd α} {e : Nat} {base : Nat} {ok : Nat → Prop} {v : Value} {xs : List α} (h : IsS105 w0 W g f0 f1 f2 f3) (ho : d.Q e W base ok v xs) (ht : ∀ q, q ∈ e :: d.E → q ≠ 105) : d.Q e W base (fun k => ok k ∧ k ≠ g) v xs := by
  obtain ⟨A0, c0, hb, hg, hr0⟩ := h; exact Kd.Q_types ho hb ht
theorem IsS105.own_neQ {w0 W : World} {g : Nat} {f0 : List Int} {f1 : Int} {f2 : Int} {f3 : Int} {α : Type} {d : Kd α} {e : Nat} {base : Nat} {ok : Nat → Prop} {v : Value} {xs : List α} (h : IsS105 w0 W g f0 f1 f2 f3) (ho : d.Q e W base ok v xs) (ht : e ≠ 105) : some g ≠ v.ownBlock := by
  obtain ⟨A0, c0, hb, hg, hr0⟩ := h; exact Kd.Q_ne ho hb ht
theorem IsS105.apartS {w0 W : World} {g : Nat} {f0 : List Int} {f1 : Int} {f2 : Int} {f3 : Int} {α : Type} {d : Kd α} {e : Nat} {base : Nat} {ok : Nat → Prop} {v : Value} {xs : List α} (h : IsS105 w0 W g f0 f1 f2 f3) (ho : d.S e W base ok v xs) (ht : ∀ q, q ∈ e :: d.E → q ≠ 105) : d.S e W base (fun k => ok k ∧ k ≠ g) v xs := by
  obtain ⟨A0, c0, hb, hg, hr0⟩ := h; exact Kd.S_types ho hb ht
theorem IsS105.own_neS {w0 W : World} {g : Nat} {f0 : List Int} {f1 : Int} {f2 : Int} {f3 : Int} {α : Type} {d : Kd α} {e : Nat} {base : Nat} {ok : Nat → Prop} {v : Value} {xs : List α} (h : IsS105 w0 W g f0 f1 f2 f3) (ho : d.S e W base ok v xs) (ht : e ≠ 105) : some g ≠ v.ownBlock := by
  obtain ⟨A0, c0, hb, hg, hr0⟩ := h; exact Kd.S_ne ho hb ht
theorem IsS105.lt {w0 W : World} {g : Nat} {f0 : List Int} {f1 : Int} {f2 : Int} {f3 : Int} (h : IsS105 w0 W g f0 f1 f2 f3) : g < W.heap.size := by
  obtain ⟨A0, c0, hb, hg, hr0⟩ := h; exact blk_lt hb
theorem IsS105.ge {w0 W : World} {g : Nat} {f0 : List Int} {f1 : Int} {f2 : Int} {f3 : Int} (h : IsS105 w0 W g f0 f1 f2 f3) : w0.heap.size ≤ g := by
  obtain ⟨A0, c0, hb, hg, hr0⟩ := h; exact hg
theorem IsS105.ne_blk {w0 W : World} {g : Nat} {f0 : List Int} {f1 : Int} {f2 : Int} {f3 : Int} {a : Nat} {cs : Array Value} {t : TypeId} {fr : Nat × Nat} (h : IsS105 w0 W g f0 f1 f2 f3) (hb2 : W.heap[a]? = some (.cells cs t fr)) (ht : t ≠ 105) : g ≠ a := by
  obtain ⟨A0, c0, hb, hg, hr0⟩ := h; rintro rfl; rw [hb] at hb2; injection hb2 with hb2; injection hb2 with _ ht2; exact ht ht2.symm
theorem IsS105.far {w0 W : World} {g : Nat} {f0 : List Int} {f1 : Int} {f2 : Int} {f3 : Int} {p : Addr} (h : IsS105 w0 W g f0 f1 f2 f3) (hne : g ≠ p.block) (u : Value) : IsS105 w0 (W.setCell p u) g f0 f1 f2 f3 := by
  obtain ⟨A0, c0, hb, hg, hr0⟩ := h; exact ⟨A0, c0, blk_far hb hne u, hg, hr0⟩
theorem cellS105_0 {W : World} {g : Nat} {A0 : Option Addr} {c0 : Nat} {f0 : List Int} {f1 : Int} {f2 : Int} {f3 : Int} (h : W.heap[g]? = some (.cells #[.slice A0 f0.length c0, .int .i64 f1, .int .u64 f2, .int .i64 f3] 105 (0, 0))) : W.cell? ⟨g, 0, none⟩ = some (.slice A0 f0.length c0) := (blk_cell h 0).trans rfl
theorem cellS105_1 {W : World} {g : Nat} {A0 : Option Addr} {c0 : Nat} {f0 : List Int} {f1 : Int} {f2 : Int} {f3 : Int} (h : W.heap[g]? = some (.cells #[.slice A0 f0.length c0, .int .i64 f1, .int .u64 f2, .int .i64 f3] 105 (0, 0))) : W.cell? ⟨g, 1, none⟩ = some (.int .i64 f1) := (blk_cell h 1).trans rfl
theorem IsS105.set_1 {w0 W : World} {g : Nat} {f0 : List Int} {f1 : Int} {f2 : Int} {f3 : Int} (h : IsS105 w0 W g f0 f1 f2 f3) (x : Int) : IsS105 w0 (W.setCell ⟨g, 1, none⟩ (.int .i64 x)) g f0 x f2 f3 := by
  obtain ⟨A0, c0, hb, hg, hr0⟩ := h; exact ⟨A0, c0, by simpa using blk_set hb 1 (.int .i64 x), hg, hr0⟩
theorem cellS105_2 {W : World} {g : Nat} {A0 : Option Addr} {c0 : Nat} {f0 : List Int} {f1 : Int} {f2 : Int} {f3 : Int} (h : W.heap[g]? = some (.cells #[.slice A0 f0.length c0, .int .i64 f1, .int .u64 f2, .int .i64 f3] 105 (0, 0))) : W.cell? ⟨g, 2, none⟩ = some (.int .u64 f2) := (blk_cell h 2).trans rfl
theorem IsS105.set_2 {w0 W : World} {g : Nat} {f0 : List Int} {f1 : Int} {f2 : Int} {f3 : Int} (h : IsS105 w0 W g f0 f1 f2 f3) (x : Int) : IsS105 w0 (W.setCell ⟨g, 2, none⟩ (.int .u64 x)) g f0 f1 x f3 := by
  obtain ⟨A0, c0, hb, hg, hr0⟩ := h; exact ⟨A0, c0, by simpa using blk_set hb 2 (.int .u64 x), hg, hr0⟩
theorem cellS105_3 {W : World} {g : Nat} {A0 : Option Addr} {c0 : Nat} {f0 : List Int} {f1 : Int} {f2 : Int} {f3 : Int} (h : W.heap[g]? = some (.cells #[.slice A0 f0.length c0, .int .i64 f1, .int .u64 f2, .int .i64 f3] 105 (0, 0))) : W.cell? ⟨g, 3, none⟩ = some (.int .i64 f3) := (blk_cell h 3).trans rfl
theorem IsS105.set_3 {w0 W : World} {g : Nat} {f0 : List Int} {f1 : Int} {f2 : Int} {f3 : Int} (h : IsS105 w0 W g f0 f1 f2 f3) (x : Int) : IsS105 w0 (W.setCell ⟨g, 3, none⟩ (.int .i64 x)) g f0 f1 f2 x := by
  obtain ⟨A0, c0, hb, hg, hr0⟩ := h; exact ⟨A0, c0, by simpa using blk_set hb 3 (.int .i64 x), hg, hr0⟩
theorem IsS105.new (w0 W : World) (A0 : Option Addr) (c0 : Nat) (f0 : List Int) (f1 : Int) (f2 : Int) (f3 : Int) (hB : Below w0.heap.size w0 W) (hr0 : Kd.C (Kd.int .u8) w0 A0 f0.length f0) : IsS105 w0 (W.alloc (.cells #[.slice A0 f0.length c0, .int .i64 f1, .int .u64 f2, .int .i64 f3] 105)) W.heap.size f0 f1 f2 f3 := ⟨A0, c0, by simpa using heap_alloc_new W _, hB.size, hr0⟩

/-! ### spec_l01Source: function 37 -/
def spec_l01Source.l0 : Nat → List Int → Int → List Int → Int → Int → Int → Option (List Int × Int × Int × Int)
  | 0, _, _, _, _, _, _ => none
  | k + 1, x0, x4, x102000, x102001, x102002, x102003 => if x4 < (x0.length : Int) then (if x4 < 64 then (if 0 ≤ x4 then (spec_l01Source.l0 k x0 (wrap64 (x4 + 1)) x102000 x102001 (IntKind.u64.wrap ((Go.bits .xor .u64 x102002 (IntKind.u64.wrap (rd x0 x4))) * 1099511628211)) x102003) else (none)) else (if (wrap64 ((x0.length : Int) / 20)) > 12 then (some (x102000, x102001, x102002, 12)) else (some (x102000, x102001, x102002, wrap64 ((x0.length : Int) / 20))))) else (if (wrap64 ((x0.length : Int) / 20)) > 12 then (some (x102000, x102001, x102002, 12)) else (some (x102000, x102001, x102002, wrap64 ((x0.length : Int) / 20))))
def spec_l01Source.f (k : Nat) (l0 : List Int) : Option (List Int × Int × Int × Int) := spec_l01Source.l0 k l0 0 l0 0 88172645463325252 0
theorem spec_l01Source.mono_l : ∀ k, (∀ y0 y1 y2 y3 y4 y5, LeO (spec_l01Source.l0 k y0 y1 y2 y3 y4 y5) (spec_l01Source.l0 (k + 1) y0 y1 y2 y3 y4 y5))
  | 0 => fun _ _ _ _ _ _ r h => by simp [spec_l01Source.l0] at h
  | k + 1 => by
    have ih0 := spec_l01Source.mono_l k
    · intro y0 y1 y2 y3 y4 y5; unfold spec_l01Source.l0; repeat' first
      | (with_reducible exact ih0 _ _ _ _ _ _)
      | (with_reducible exact LeO.refl _)
      | (with_reducible exact LeO.none _)
      | (with_reducible refine LeO.ite ?_ ?_)
      | (with_reducible refine LeO.bind ?_ (fun _ => ?_))
theorem spec_l01Source.mono : ∀ a0 k, LeO (spec_l01Source.f k a0) (spec_l01Source.f (k + 1) a0) := by
  intro a0 k; have ih0 := spec_l01Source.mono_l k; unfold spec_l01Source.f; repeat' first
      | (with_reducible exact ih0 _ _ _ _ _ _)
      | (with_reducible exact LeO.refl _)
      | (with_reducible exact LeO.none _)
      | (with_reducible refine LeO.ite ?_ ?_)
      | (with_reducible refine LeO.bind ?_ (fun _ => ?_))
def spec_l01Source.T5 : Bool × List (List Nat × List Nat) := (true, [([], []), ([], []), ([1], [1]), ([2], [2]), ([3], [3]), ([], []), ([], []), ([5, 6], [5, 6]), ([7], [7]), ([8], [8]), ([4, 9], [4, 9]), ([10], [10]), ([0, 0, 1, 2, 3, 4, 5, 6, 7, 8, 9, 10, 11], [0]), ([12, 0, 1, 2, 3, 4, 5, 6, 7, 8, 9, 10, 11], [12]), ([13, 11, 0, 1, 2, 3, 4, 5, 6, 7, 8, 9, 10, 11], [11, 13])])
def spec_l01Source.B5 : List Nat := [0, 0, 2, 6, 14, 0, 0, 96, 224, 480, 1022, 2046, 4095, 8191, 16383]
theorem spec_l01Source.tab5 : rtab .any (opsOf Try.f37 5) = spec_l01Source.T5 := by kernel_rfl
theorem spec_l01Source.bits5 : waitsOk spec_l01Source.T5.2 spec_l01Source.B5 = true := by kernel_rfl
set_option maxHeartbeats 8000000 in
set_option maxRecDepth 100000 in
theorem spec_l01Source.calls (k : Nat) (A0 : Option Addr) (c0 : Nat) (l0 : List Int) (r1 : List Int) (r2 : Int) (r3 : Int) (r4 : Int) (w0 w : World) (hB : Below w0.heap.size w0 w) (hr0 : Kd.C (Kd.int .u8) w0 A0 l0.length l0) (hc0 : l0.length ≤ c0) (h : spec_l01Source.f k l0 = some (r1, r2, r3, r4)) :
    Calls Try.prog 37 #[.slice A0 l0.length c0] w fun e w' => ∃ g_ : Nat, e = .returned (.pointer (some ⟨g_, 0, none⟩)) ∧ IsS105 w0 w' g_ r1 r2 r3 r4 ∧ Below w0.heap.size w0 w' ∧ Below w.heap.size w w' := by
  have hu105 := Try.underlying105; have HR0 := Aside0.mk hr0; have HC0 := Aside0.mk hc0; clear hr0 hc0; have HBW := Aside0.mk (Below.refl w.heap.size w); have HW0 := Aside0.mk hB.size; have HB := Aside0.mk hB; clear hB; have H : (spec_l01Source.l0 k l0 0 l0 0 88172645463325252 0) = some (r1, r2, r3, r4) := h; clear h; have H' := Aside0.mk H; clear H; go_enter Try.func37, Try.ntmps37; go_wp2_with (first | ((with_reducible refine gate_dst (N := 7) rfl ?_); refine box_event ?hg (N := 7) ?hd (cs := #[.slice A0 l0.length c0, .int .i64 0, .int .u64 88172645463325252, .int .i64 0]) (t := 105) ?hr ?_; (case hd => rfl); (case hg => rfl); (case hr => first | (go_simp; done) | (go_simp; rfl)); intro gb101 hg w2 hbox hb; have n_ := aa (below_step HBW.out hb) <| aa (below_step By hb) <| aa (hbox) <| aa ((by rw [hg]; exact (below_size (by repeat (first | (with_reducible first | exact HBW.out | apply below_alloc | apply pw_below_drewN | apply below_drew1) | exact HBW.out))) : w.heap.size ≤ gb101)) <| Aside0.mk ((Nat.le_trans HW0.out (by rw [hg]; exact (below_size (by repeat (first | (with_reducible first | exact HBW.out | apply below_alloc | apply pw_below_drewN | apply below_drew1) | exact HBW.out))) : w.heap.size ≤ gb101) : w0.heap.size ≤ gb101)); clear HBW HB; obtain ⟨HBW, HB, BK101, GW101, GE101⟩ := n_; clear hb hbox hg)); go_loopg [4] k (fun kq v4 w' => ∃ (x4_1 : Int) (x102002_1 : Int), v4 = .int .i64 x4_1 ∧ Aside0 (spec_l01Source.l0 kq l0 x4_1 l0 0 x102002_1 0 = some (r1, r2, r3, r4)) ∧ Aside0 (kq ≤ k) ∧ Aside0 (w'.heap[gb101]? = some (.cells #[(.slice A0 l0.length c0), .int .i64 0, .int .u64 x102002_1, .int .i64 0] 105 (0, 0))) ∧ Aside0 (Below w0.heap.size w0 w') ∧ Aside0 (Below w.heap.size w w'))
  case atStart => exact ⟨(0), (88172645463325252), (by first | rfl | (simp; done) | (simp [*]; done)), H', ⟨Nat.le_refl _⟩, ⟨by (with_reducible repeat (first | refine blk_drewN ?_ _ | refine blk_drew ?_ | refine blk_alloc ?_ _)); exact BK101.out⟩, ⟨By⟩, ⟨by repeat (first | (with_reducible first | exact HBW.out | apply below_alloc | apply pw_below_drewN | apply below_drew1 | refine below_set ?_ GW101.out) | exact HBW.out)⟩⟩
  case round =>
    clear H'; try clear p2
    obtain ⟨x4_1, x102002_1, rfl, HA, HK1, BK101, HB, HBW⟩ := hrel; cases gk with
    | zero => exact absurd HA.out (by simp [spec_l01Source.l0])
    | succ k1 =>
      have H := HA.out; clear HA; simp only [spec_l01Source.l0] at H; by_cases c3 : x4_1 < (l0.length : Int)
      · rw [if_pos c3] at H; have c3b0 : decide (x4_1 < (l0.length : Int)) = true := decide_eq_true c3; clear c3; by_cases c4 : x4_1 < 64
        · rw [if_pos c4] at H; have c4b0 : decide (x4_1 < 64) = true := decide_eq_true c4; clear c4; by_cases c5 : 0 ≤ x4_1
          · rw [if_pos c5] at H; have c5b0 : decide (0 ≤ x4_1) = true := decide_eq_true c5; clear c5; have H' := Aside0.mk H; clear H; try go_wp2
            have n0_ := Aside0.mk (blk_drew BK101.out); have n1_ := Aside0.mk (below_drew1 HB.out); have nW_ := Aside0.mk (below_drew1 HBW.out); clear BK101; clear HB; clear HBW; have BK101 := n0_; have HB := n1_; have HBW := nW_; clear n0_ n1_; have p102 : 0 ≤ (x4_1 : Int) := of_decide_eq_true Da; have q102 : x4_1 < (l0.length : Int) := of_decide_eq_true Da; obtain ⟨ad102, e102, hx102_0⟩ := Kd.at_int HR0.out x4_1 p102 q102; have hw102_0 := hx102_0; cases e102
            replace hx102_0 := pw_cell_below HB.out hx102_0; replace p102 := eq_true p102; replace q102 := eq_true q102; refine start_ (n := 15) (S := fun w' => w'.cell? ⟨gb101, 0, none⟩ = some (.slice (some ad102) l0.length c0) ∧ w'.cell? ⟨gb101, 1, none⟩ = some (.int .i64 0) ∧ w'.cell? ⟨gb101, 2, none⟩ = some (.int .u64 x102002_1) ∧ w'.cell? ⟨gb101, 3, none⟩ = some (.int .i64 0) ∧ w'.cell? (ad102.add (x4_1).toNat) = some (.int .u8 (rd l0 x4_1))) (ds := [14]) (bv 15 0) (by kernel_rfl) rfl rfl ⟨bc BK101.out 0, bc BK101.out 1, bc BK101.out 2, bc BK101.out 3, ((HB.out.cell (World.block_lt_of_cell? _ _ hw102_0)).trans hw102_0)⟩ (fun hHeld => ?_); refine with_tabW spec_l01Source.tab5 spec_l01Source.bits5 (fun HT_ HW_ => ?_); generalize wr.drew = w6 at BK101 HB HBW hx102_0 hHeld ⊢; refine pu 0 18 (bv 15 1) HT_.out (h := ?_); refine pu 1 19 (bv 15 3) HT_.out (h := ?_); refine pu 2 20 (bv 15 7) HT_.out (h := ?_); refine pu 3 21 (bv 15 15) HT_.out (h := ?_); refine pu 5 23 (bv 15 47) HT_.out (h := ?_); refine pu 6 24 (bv 15 111) HT_.out (h := ?_); refine pu 7 25 (bv 15 239) HT_.out (h := ?_); refine tk 4 22 (bv 15 255) HT_.out HW_.out hHeld (h := ?_); refine tk 8 26 (bv 15 511) HT_.out HW_.out hHeld (h := ?_); refine pu 9 27 (bv 15 1023) HT_.out (h := ?_); refine pu 10 28 (bv 15 2047) HT_.out (h := ?_); refine pu 11 29 (bv 15 4095) HT_.out (h := ?_); refine pu 12 30 (bv 15 8191) HT_.out (h := ?_); refine pu 13 31 (bv 15 16383) HT_.out (h := ?_); refine last_ (i := 14) (N := none) (bv 15 32767) rfl rfl (one_of HT_.out (by kernel_rfl)) (by decide) (fun K hK => ?_); have hs7 : w6.cell? ⟨gb101, 2, none⟩ = some (.int .u64 x102002_1) := bc BK101.out 2; have hfs7 := blk_frozen BK101.out 2; refine skip_ (w1 := ?_) (by rfl) rfl ?_ ?_; rotate_left
            · go_simp; rfl
            refine hK.out _ _ ?_; clear hK K; refine done_ (done_of HT_.out (by kernel_rfl)) ?_; try go_wp2
            go_roundg k1
            case measure => have := HK1.out; omega
            case rel => exact ⟨(wrap64 (x4_1 + 1)), (IntKind.u64.wrap ((Go.bits .xor .u64 x102002_1 (IntKind.u64.wrap (rd l0 x4_1))) * 1099511628211)), (by first | rfl | (simp; done) | (simp [*]; done)), H', ⟨by have := HK1.out; omega⟩, ⟨by (with_reducible repeat (first | refine blk_drewN ?_ _ | refine blk_drew ?_ | refine blk_alloc ?_ _)); refine blk_put (cs := #[.slice (some ad102) l0.length c0, .int .i64 0, .int .u64 x102002_1, .int .i64 0]) ?_ 2 _ rfl; (with_reducible repeat (first | refine blk_drewN ?_ _ | refine blk_drew ?_ | refine blk_alloc ?_ _)); exact BK101.out⟩, ⟨By⟩, ⟨by repeat (first | (with_reducible first | exact HBW.out | apply below_alloc | apply pw_below_drewN | apply below_drew1 | refine below_set ?_ GW101.out) | exact HBW.out)⟩⟩
          · rw [if_neg c5] at H; exact absurd H (by simp)
        · rw [if_neg c4] at H; have c4b0 : decide (x4_1 < 64) = false := decide_eq_false c4; clear c4; by_cases c8 : (wrap64 ((l0.length : Int) / 20)) > 12
          · rw [if_pos c8] at H; have c8b0 : decide (12 < (wrap64 ((l0.length : Int) / 20))) = true := decide_eq_true c8; clear c8; simp only [Option.some.injEq, Prod.mk.injEq] at H; obtain ⟨rfl, rfl, rfl, rfl⟩ := H; have hcz9_0 : wr.cell? ⟨gb101, 0, none⟩ = some (.slice A0 l0.length c0) := bc BK101.out 0; have hcz9_1 : wr.cell? ⟨gb101, 1, none⟩ = some (.int .i64 0) := bc BK101.out 1; have hcz9_2 : wr.cell? ⟨gb101, 2, none⟩ = some (.int .u64 x102002_1) := bc BK101.out 2; have hcz9_3 : wr.cell? ⟨gb101, 3, none⟩ = some (.int .i64 0) := bc BK101.out 3; have hfz9_0 := blk_frozen BK101.out 0; have hfz9_1 := blk_frozen BK101.out 1; have hfz9_2 := blk_frozen BK101.out 2; have hfz9_3 := blk_frozen BK101.out 3; go_wp2; go_ret; exact ⟨_, rfl, (show IsS105 w0 _ gb101 l0 0 x102002_1 12 from ⟨_, _, by (with_reducible repeat (first | refine blk_drewN ?_ _ | refine blk_drew ?_ | refine blk_alloc ?_ _)); refine blk_put (cs := #[.slice A0 l0.length c0, .int .i64 0, .int .u64 x102002_1, .int .i64 (wrap64 ((l0.length : Int) / 20))]) ?_ 3 _ rfl; (with_reducible repeat (first | refine blk_drewN ?_ _ | refine blk_drew ?_ | refine blk_alloc ?_ _)); refine blk_put (cs := #[.slice A0 l0.length c0, .int .i64 0, .int .u64 x102002_1, .int .i64 0]) ?_ 3 _ rfl; (with_reducible repeat (first | refine blk_drewN ?_ _ | refine blk_drew ?_ | refine blk_alloc ?_ _)); exact BK101.out, GE101.out, HR0.out⟩), By, by repeat (first | (with_reducible first | exact HBW.out | apply below_alloc | apply pw_below_drewN | apply below_drew1 | refine below_set ?_ GW101.out) | exact HBW.out)⟩
          · rw [if_neg c8] at H; have c8b0 : decide (12 < (wrap64 ((l0.length : Int) / 20))) = false := decide_eq_false c8; clear c8; simp only [Option.some.injEq, Prod.mk.injEq] at H; obtain ⟨rfl, rfl, rfl, rfl⟩ := H; have hcz10_0 : wr.cell? ⟨gb101, 0, none⟩ = some (.slice A0 l0.length c0) := bc BK101.out 0; have hcz10_1 : wr.cell? ⟨gb101, 1, none⟩ = some (.int .i64 0) := bc BK101.out 1; have hcz10_2 : wr.cell? ⟨gb101, 2, none⟩ = some (.int .u64 x102002_1) := bc BK101.out 2; have hcz10_3 : wr.cell? ⟨gb101, 3, none⟩ = some (.int .i64 0) := bc BK101.out 3; have hfz10_0 := blk_frozen BK101.out 0; have hfz10_1 := blk_frozen BK101.out 1; have hfz10_2 := blk_frozen BK101.out 2; have hfz10_3 := blk_frozen BK101.out 3; go_wp2; go_ret; exact ⟨_, rfl, (show IsS105 w0 _ gb101 l0 0 x102002_1 (wrap64 ((l0.length : Int) / 20)) from ⟨_, _, by (with_reducible repeat (first | refine blk_drewN ?_ _ | refine blk_drew ?_ | refine blk_alloc ?_ _)); refine blk_put (cs := #[.slice A0 l0.length c0, .int .i64 0, .int .u64 x102002_1, .int .i64 0]) ?_ 3 _ rfl; (with_reducible repeat (first | refine blk_drewN ?_ _ | refine blk_drew ?_ | refine blk_alloc ?_ _)); exact BK101.out, GE101.out, HR0.out⟩), By, by repeat (first | (with_reducible first | exact HBW.out | apply below_alloc | apply pw_below_drewN | apply below_drew1 | refine below_set ?_ GW101.out) | exact HBW.out)⟩
      · rw [if_neg c3] at H; have c3b0 : decide (x4_1 < (l0.length : Int)) = false := decide_eq_false c3; clear c3; by_cases c11 : (wrap64 ((l0.length : Int) / 20)) > 12
        · rw [if_pos c11] at H; have c11b0 : decide (12 < (wrap64 ((l0.length : Int) / 20))) = true := decide_eq_true c11; clear c11; simp only [Option.some.injEq, Prod.mk.injEq] at H; obtain ⟨rfl, rfl, rfl, rfl⟩ := H; have hcz12_0 : wr.cell? ⟨gb101, 0, none⟩ = some (.slice A0 l0.length c0) := bc BK101.out 0; have hcz12_1 : wr.cell? ⟨gb101, 1, none⟩ = some (.int .i64 0) := bc BK101.out 1; have hcz12_2 : wr.cell? ⟨gb101, 2, none⟩ = some (.int .u64 x102002_1) := bc BK101.out 2; have hcz12_3 : wr.cell? ⟨gb101, 3, none⟩ = some (.int .i64 0) := bc BK101.out 3; have hfz12_0 := blk_frozen BK101.out 0; have hfz12_1 := blk_frozen BK101.out 1; have hfz12_2 := blk_frozen BK101.out 2; have hfz12_3 := blk_frozen BK101.out 3; go_wp2; go_ret; exact ⟨_, rfl, (show IsS105 w0 _ gb101 l0 0 x102002_1 12 from ⟨_, _, by (with_reducible repeat (first | refine blk_drewN ?_ _ | refine blk_drew ?_ | refine blk_alloc ?_ _)); refine blk_put (cs := #[.slice A0 l0.length c0, .int .i64 0, .int .u64 x102002_1, .int .i64 (wrap64 ((l0.length : Int) / 20))]) ?_ 3 _ rfl; (with_reducible repeat (first | refine blk_drewN ?_ _ | refine blk_drew ?_ | refine blk_alloc ?_ _)); refine blk_put (cs := #[.slice A0 l0.length c0, .int .i64 0, .int .u64 x102002_1, .int .i64 0]) ?_ 3 _ rfl; (with_reducible repeat (first | refine blk_drewN ?_ _ | refine blk_drew ?_ | refine blk_alloc ?_ _)); exact BK101.out, GE101.out, HR0.out⟩), By, by repeat (first | (with_reducible first | exact HBW.out | apply below_alloc | apply pw_below_drewN | apply below_drew1 | refine below_set ?_ GW101.out) | exact HBW.out)⟩
        · rw [if_neg c11] at H; have c11b0 : decide (12 < (wrap64 ((l0.length : Int) / 20))) = false := decide_eq_false c11; clear c11; simp only [Option.some.injEq, Prod.mk.injEq] at H; obtain ⟨rfl, rfl, rfl, rfl⟩ := H; have hcz13_0 : wr.cell? ⟨gb101, 0, none⟩ = some (.slice A0 l0.length c0) := bc BK101.out 0; have hcz13_1 : wr.cell? ⟨gb101, 1, none⟩ = some (.int .i64 0) := bc BK101.out 1; have hcz13_2 : wr.cell? ⟨gb101, 2, none⟩ = some (.int .u64 x102002_1) := bc BK101.out 2; have hcz13_3 : wr.cell? ⟨gb101, 3, none⟩ = some (.int .i64 0) := bc BK101.out 3; have hfz13_0 := blk_frozen BK101.out 0; have hfz13_1 := blk_frozen BK101.out 1; have hfz13_2 := blk_frozen BK101.out 2; have hfz13_3 := blk_frozen BK101.out 3; go_wp2; go_ret; exact ⟨_, rfl, (show IsS105 w0 _ gb101 l0 0 x102002_1 (wrap64 ((l0.length : Int) / 20)) from ⟨_, _, by (with_reducible repeat (first | refine blk_drewN ?_ _ | refine blk_drew ?_ | refine blk_alloc ?_ _)); refine blk_put (cs := #[.slice A0 l0.length c0, .int .i64 0, .int .u64 x102002_1, .int .i64 0]) ?_ 3 _ rfl; (with_reducible repeat (first | refine blk_drewN ?_ _ | refine blk_drew ?_ | refine blk_alloc ?_ _)); exact BK101.out, GE101.out, HR0.out⟩), By, by repeat (first | (with_reducible first | exact HBW.out | apply below_alloc | apply pw_below_drewN | apply below_drew1 | refine below_set ?_ GW101.out) | exact HBW.out)⟩

set_option linter.unusedVariables false
set_option linter.unusedSimpArgs false

/-! ### impl_between: function 63 -/
def impl_between.f (a0 : Int) (a1 : Int) (a2 : Int) : Option (Bool) := if a0 ≥ a1 then (some (decide (a0 ≤ a2))) else (some false)
set_option maxHeartbeats 8000000 in
set_option maxRecDepth 100000 in
theorem impl_between.calls (a0 : Int) (a1 : Int) (a2 : Int) (r : Bool) (w : World) (h : impl_between.f a0 a1 a2 = some r) :
    Calls Try.prog 63 #[.int .i64 a0, .int .i64 a1, .int .i64 a2] w fun e w' => e = .returned (.bool r) ∧ Drawn0 w w' := by
  have H : (if a0 ≥ a1 then (some (decide (a0 ≤ a2))) else (some false)) = some r := h; clear h; by_cases c4 : a0 ≥ a1
  · rw [if_pos c4] at H; have c4b0 : decide (a1 ≤ a0) = true := decide_eq_true c4; clear c4; obtain rfl := Option.some.inj H; go_enter Try.func63, Try.ntmps63; go_wp2; go_ret; exact ⟨by first | rfl | (simp; done) | (simp [*]; done), by repeat (first | exact Drawn0.refl _ | apply Drawn0.step)⟩
  · rw [if_neg c4] at H; have c4b0 : decide (a1 ≤ a0) = false := decide_eq_false c4; clear c4; obtain rfl := Option.some.inj H; go_enter Try.func63, Try.ntmps63; go_wp2; go_ret; exact ⟨by first | rfl | (simp; done) | (simp [*]; done), by repeat (first | exact Drawn0.refl _ | apply Drawn0.step)⟩

set_option linter.unusedVariables false
set_option linter.unusedSimpArgs false

/-! ### impl_isTag: function 40 -/
def impl_isTag.f (a0 : Int) : Option (Bool) := (impl_between.f a0 0 255).bind fun t157 => (if t157 = true then (some ((Go.bits .and .i64 a0 31) != 31)) else (some false))
set_option maxHeartbeats 8000000 in
set_option maxRecDepth 100000 in
theorem impl_isTag.calls (a0 : Int) (r : Bool) (w : World) (h : impl_isTag.f a0 = some r) :
    Calls Try.prog 40 #[.int .i64 a0] w fun e w' => e = .returned (.bool r) ∧ Drawn0 w w' := by
  have H : ((impl_between.f a0 0 255).bind fun t157 => (if t157 = true then (some ((Go.bits .and .i64 a0 31) != 31)) else (some false))) = some r := h; clear h; replace H := Option.bind_eq_some_iff.mp H; obtain ⟨t157, A20, H⟩ := H; (try dsimp only at H); have A2 := Aside0.mk A20; clear A20; by_cases c3 : t157 = true
  · subst c3; rw [if_pos rfl] at H; obtain rfl := Option.some.inj H; go_enter Try.func40, Try.ntmps40; go_wp2_with (first | ((with_reducible refine gate_callee (f := 63) rfl ?_); refine goesL_ (some 4) rfl rfl Try.func63 (by kernel_rfl) rfl #[.int .i64 a0, .int .i64 0, .int .i64 255] rfl Ag ?_; (with_reducible refine (impl_between.calls a0 0 255 true _ A2.out).mono ?_); rintro e w' ⟨rfl, ⟨nd, rfl⟩⟩; refine ⟨_, rfl, ?_⟩)); go_ret; exact ⟨by first | rfl | (simp; done) | (simp [*]; done), by repeat (first | exact Drawn0.refl _ | apply Drawn0.step)⟩
  · replace c3 := Bool.eq_false_iff.mpr c3; subst c3; rw [if_neg (show ¬ (false = true) by decide)] at H; obtain rfl := Option.some.inj H; go_enter Try.func40, Try.ntmps40; go_wp2_with (first | ((with_reducible refine gate_callee (f := 63) rfl ?_); refine goesL_ (some 4) rfl rfl Try.func63 (by kernel_rfl) rfl #[.int .i64 a0, .int .i64 0, .int .i64 255] rfl Ag ?_; (with_reducible refine (impl_between.calls a0 0 255 false _ A2.out).mono ?_); rintro e w' ⟨rfl, ⟨nd, rfl⟩⟩; refine ⟨_, rfl, ?_⟩)); go_ret; exact ⟨by first | rfl | (simp; done) | (simp [*]; done), by repeat (first | exact Drawn0.refl _ | apply Drawn0.step)⟩

set_option linter.unusedVariables false
set_option linter.unusedSimpArgs false

/-! ### impl_berLength: function 41 -/
def impl_berLength.f (a0 : Int) : Option (ByteArray) := if a0 < 128 then (some (strOfNums (([(a0) % 256] : List Int)))) else (if a0 < 256 then (some (strOfNums (([129, (a0) % 256] : List Int)))) else (some (strOfNums (([130, (a0 / 256) % 256, (a0) % 256] : List Int)))))
set_option maxHeartbeats 8000000 in
set_option maxRecDepth 100000 in
theorem impl_berLength.calls (a0 : Int) (r : ByteArray) (w : World) (h : impl_berLength.f a0 = some r) :
    Calls Try.prog 41 #[.int .i64 a0] w fun e w' => e = .returned (.string r) ∧ Below w.heap.size w w' := by
  have HB := Aside0.mk (Below.refl w.heap.size w); have H : (if a0 < 128 then (some (strOfNums (([(a0) % 256] : List Int)))) else (if a0 < 256 then (some (strOfNums (([129, (a0) % 256] : List Int)))) else (some (strOfNums (([130, (a0 / 256) % 256, (a0) % 256] : List Int)))))) = some r := h; clear h; by_cases c2 : a0 < 128
  · rw [if_pos c2] at H; have c2b0 : decide (a0 < 128) = true := decide_eq_true c2; clear c2; obtain ⟨y158, hy158⟩ : ∃ y_ : List Int, y_ = (([(a0) % 256] : List Int)) := ⟨_, rfl⟩; replace H : (some (strOfNums y158)) = some r := by first | (rw [hy158]; with_reducible exact H) | (have H2_ := (Option.bind_some _ _).symm.trans H; rw [hy158]; with_reducible exact H2_) | (have H2_ := (Option.bind_some _ _).symm.trans H; with_reducible exact H2_) | with_reducible exact H | (rw [hy158]; exact H) | exact H
    have Ny158 := Aside0.mk hy158; clear hy158; obtain rfl := Option.some.inj H; go_enter Try.func41, Try.ntmps41; go_wp2_with (first | ((with_reducible refine gate_dst (N := 8) rfl ?_); refine Kd.R_lit (Kd.int .u8) _ 5 ?hg (N := 8) ?hd (xs := ([(a0) % 256] : List Int)) (inner := [.int .u8 ((a0) % 256)]) (ok := fun _ => True) (okp := fun _ => True) ?hr ?hp (fun _ hk => hk) trivial (Below.refl _ _) (Nat.le_refl _) (by simp) ?_; (case hd => rfl); (case hg => rfl); (case hr => first | (go_simp; done) | (go_simp; rfl)); (case hp => exact (Reps.one (show Kd.M (Kd.int .u8) _ _ _ ((a0) % 256) [.int .u8 ((a0) % 256)] from rfl) (Reps.none _ _))); intro v159 w3 ho4 hb hg_ hnew_; clear hg_ hnew_; (first | rw [← Ny158.out] at ho4 | (simp only [Int.reduceToNat] at ho4; rw [← Ny158.out] at ho4)); have n_ := aa (Kd.R_lower ho4 (below_size By)) <| Aside0.mk (below_step By hb); clear HB; obtain ⟨HO160, HB⟩ := n_; clear hb ho4; have hcv5 := own_string (P := Try.prog) Try.underlying22 Try.underlying5 Try.underlying9 (Kd.own_of_R HO160.out))); go_ret; exact ⟨Rf, By⟩
  · rw [if_neg c2] at H; have c2b0 : decide (a0 < 128) = false := decide_eq_false c2; clear c2; by_cases c6 : a0 < 256
    · rw [if_pos c6] at H; have c6b0 : decide (a0 < 256) = true := decide_eq_true c6; clear c6; obtain ⟨y161, hy161⟩ : ∃ y_ : List Int, y_ = (([129, (a0) % 256] : List Int)) := ⟨_, rfl⟩; replace H : (some (strOfNums y161)) = some r := by first | (rw [hy161]; with_reducible exact H) | (have H2_ := (Option.bind_some _ _).symm.trans H; rw [hy161]; with_reducible exact H2_) | (have H2_ := (Option.bind_some _ _).symm.trans H; with_reducible exact H2_) | with_reducible exact H | (rw [hy161]; exact H) | exact H
      have Ny161 := Aside0.mk hy161; clear hy161; obtain rfl := Option.some.inj H; go_enter Try.func41, Try.ntmps41; go_wp2_with (first | ((with_reducible refine gate_dst (N := 15) rfl ?_); refine Kd.R_lit (Kd.int .u8) _ 5 ?hg (N := 15) ?hd (xs := ([129, (a0) % 256] : List Int)) (inner := [.int .u8 129, .int .u8 ((a0) % 256)]) (ok := fun _ => True) (okp := fun _ => True) ?hr ?hp (fun _ hk => hk) trivial (Below.refl _ _) (Nat.le_refl _) (by simp) ?_; (case hd => rfl); (case hg => rfl); (case hr => first | (go_simp; done) | (go_simp; rfl)); (case hp => exact (Reps.one (show Kd.M (Kd.int .u8) _ _ _ 129 [.int .u8 129] from rfl) (Reps.one (show Kd.M (Kd.int .u8) _ _ _ ((a0) % 256) [.int .u8 ((a0) % 256)] from rfl) (Reps.none _ _)))); intro v162 w7 ho8 hb hg_ hnew_; clear hg_ hnew_; (first | rw [← Ny161.out] at ho8 | (simp only [Int.reduceToNat] at ho8; rw [← Ny161.out] at ho8)); have n_ := aa (Kd.R_lower ho8 (below_size By)) <| Aside0.mk (below_step By hb); clear HB; obtain ⟨HO163, HB⟩ := n_; clear hb ho8; have hcv9 := own_string (P := Try.prog) Try.underlying22 Try.underlying5 Try.underlying9 (Kd.own_of_R HO163.out))); go_ret; exact ⟨Rf, By⟩
    · rw [if_neg c6] at H; have c6b0 : decide (a0 < 256) = false := decide_eq_false c6; clear c6; obtain ⟨y164, hy164⟩ : ∃ y_ : List Int, y_ = (([130, (a0 / 256) % 256, (a0) % 256] : List Int)) := ⟨_, rfl⟩; replace H : (some (strOfNums y164)) = some r := by first | (rw [hy164]; with_reducible exact H) | (have H2_ := (Option.bind_some _ _).symm.trans H; rw [hy164]; with_reducible exact H2_) | (have H2_ := (Option.bind_some _ _).symm.trans H; with_reducible exact H2_) | with_reducible exact H | (rw [hy164]; exact H) | exact H
      have Ny164 := Aside0.mk hy164; clear hy164; obtain rfl := Option.some.inj H; go_enter Try.func41, Try.ntmps41; go_wp2_with (first | ((with_reducible refine gate_dst (N := 22) rfl ?_); refine Kd.R_lit (Kd.int .u8) _ 5 ?hg (N := 22) ?hd (xs := ([130, (a0 / 256) % 256, (a0) % 256] : List Int)) (inner := [.int .u8 130, .int .u8 ((a0 / 256) % 256), .int .u8 ((a0) % 256)]) (ok := fun _ => True) (okp := fun _ => True) ?hr ?hp (fun _ hk => hk) trivial (Below.refl _ _) (Nat.le_refl _) (by simp) ?_; (case hd => rfl); (case hg => rfl); (case hr => first | (go_simp; done) | (go_simp; rfl)); (case hp => exact (Reps.one (show Kd.M (Kd.int .u8) _ _ _ 130 [.int .u8 130] from rfl) (Reps.one (show Kd.M (Kd.int .u8) _ _ _ ((a0 / 256) % 256) [.int .u8 ((a0 / 256) % 256)] from rfl) (Reps.one (show Kd.M (Kd.int .u8) _ _ _ ((a0) % 256) [.int .u8 ((a0) % 256)] from rfl) (Reps.none _ _))))); intro v165 w10 ho11 hb hg_ hnew_; clear hg_ hnew_; (first | rw [← Ny164.out] at ho11 | (simp only [Int.reduceToNat] at ho11; rw [← Ny164.out] at ho11)); have n_ := aa (Kd.R_lower ho11 (below_size By)) <| Aside0.mk (below_step By hb); clear HB; obtain ⟨HO166, HB⟩ := n_; clear hb ho11; have hcv12 := own_string (P := Try.prog) Try.underlying22 Try.underlying5 Try.underlying9 (Kd.own_of_R HO166.out))); go_ret; exact ⟨Rf, By⟩

set_option linter.unusedVariables false
set_option linter.unusedSimpArgs false

/-! ### impl_BerPut: function 7 -/
def impl_BerPut.f (a0 : Int) (a1 : ByteArray) : Option (ByteArray) := (impl_isTag.f a0).bind fun t167 => (if t167 = true then (if (a1.size : Int) > 4000 then (some (⟨#[]⟩ : ByteArray)) else ((some (([(a0) % 256] : List Int) : List Int)).bind fun y168 => ((impl_berLength.f (a1.size : Int)).bind fun t171 => (if (strOfNums y168).size + t171.size ≤ 9223372036854775807 then (if ((strOfNums y168) ++ t171).size + a1.size ≤ 9223372036854775807 then (some (((strOfNums y168) ++ t171) ++ a1)) else (none)) else (none))))) else (some (⟨#[]⟩ : ByteArray)))
def impl_BerPut.T3 : Bool × List (List Nat × List Nat) := (true, [([], []), ([0], [0]), ([1], [1]), ([2], [2]), ([], []), ([4], [4]), ([5], [5]), ([3, 6], [3, 6]), ([], []), ([7, 8], [7, 8]), ([9, 6, 0, 1, 2, 3, 4, 5, 6, 7, 8, 9], [9])])
def impl_BerPut.B3 : List Nat := [0, 1, 3, 7, 0, 16, 48, 127, 0, 511, 1023]
theorem impl_BerPut.tab3 : rtab .any (opsOf Try.f7 3) = impl_BerPut.T3 := by kernel_rfl
theorem impl_BerPut.bits3 : waitsOk impl_BerPut.T3.2 impl_BerPut.B3 = true := by kernel_rfl
set_option maxHeartbeats 8000000 in
set_option maxRecDepth 100000 in
theorem impl_BerPut.calls (a0 : Int) (a1 : ByteArray) (r : ByteArray) (w : World) (h : impl_BerPut.f a0 a1 = some r) :
    Calls Try.prog 7 #[.int .i64 a0, .string a1] w fun e w' => e = .returned (.string r) ∧ Below w.heap.size w w' := by
  have HB := Aside0.mk (Below.refl w.heap.size w); have H : ((impl_isTag.f a0).bind fun t167 => (if t167 = true then (if (a1.size : Int) > 4000 then (some (⟨#[]⟩ : ByteArray)) else ((some (([(a0) % 256] : List Int) : List Int)).bind fun y168 => ((impl_berLength.f (a1.size : Int)).bind fun t171 => (if (strOfNums y168).size + t171.size ≤ 9223372036854775807 then (if ((strOfNums y168) ++ t171).size + a1.size ≤ 9223372036854775807 then (some (((strOfNums y168) ++ t171) ++ a1)) else (none)) else (none))))) else (some (⟨#[]⟩ : ByteArray)))) = some r := h; clear h; replace H := Option.bind_eq_some_iff.mp H; obtain ⟨t167, A30, H⟩ := H; (try dsimp only at H); have A3 := Aside0.mk A30; clear A30; by_cases c4 : t167 = true
  · subst c4; rw [if_pos rfl] at H; by_cases c5 : (a1.size : Int) > 4000
    · rw [if_pos c5] at H; have c5b0 : decide (4000 < (a1.size : Int)) = true := decide_eq_true c5; have c5b1 : decide (4000 < a1.size) = true := decide_eq_true (by omega); clear c5; obtain rfl := Option.some.inj H; go_enter Try.func7, Try.ntmps7; go_wp2_with (first | ((with_reducible refine gate_callee (f := 40) rfl ?_); refine goesL_ (some 6) rfl rfl Try.func40 (by kernel_rfl) rfl #[.int .i64 a0] rfl Ag ?_; (with_reducible refine (impl_isTag.calls a0 true _ A3.out).mono ?_); rintro e w' ⟨rfl, ⟨nd, rfl⟩⟩; refine ⟨_, rfl, ?_⟩)); go_ret; exact ⟨Rf, By⟩
    · rw [if_neg c5] at H; have c5b0 : decide (4000 < (a1.size : Int)) = false := decide_eq_false c5; have c5b1 : decide (4000 < a1.size) = false := decide_eq_false (by omega); clear c5; obtain ⟨y168, hy168⟩ : ∃ y_ : List Int, y_ = (([(a0) % 256] : List Int)) := ⟨_, rfl⟩; replace H : ((impl_berLength.f (a1.size : Int)).bind fun t171 => (if (strOfNums y168).size + t171.size ≤ 9223372036854775807 then (if ((strOfNums y168) ++ t171).size + a1.size ≤ 9223372036854775807 then (some (((strOfNums y168) ++ t171) ++ a1)) else (none)) else (none))) = some r := by first | (rw [hy168]; with_reducible exact H) | (have H2_ := (Option.bind_some _ _).symm.trans H; rw [hy168]; with_reducible exact H2_) | (have H2_ := (Option.bind_some _ _).symm.trans H; with_reducible exact H2_) | with_reducible exact H | (rw [hy168]; exact H) | exact H
      have Ny168 := Aside0.mk hy168; clear hy168; replace H := Option.bind_eq_some_iff.mp H; obtain ⟨t171, A60, H⟩ := H; (try dsimp only at H); have A6 := Aside0.mk A60; clear A60; by_cases c7 : (strOfNums y168).size + t171.size ≤ 9223372036854775807
      · rw [if_pos c7] at H; have c7b0 := eq_true c7; have c7b1 : decide ((strOfNums y168).size + t171.size ≤ 9223372036854775807) = true := decide_eq_true c7; try have c7b2 : (9223372036854775807 < (strOfNums y168).size + t171.size) = False := eq_false (Nat.not_lt.2 c7)
        by_cases c8 : ((strOfNums y168) ++ t171).size + a1.size ≤ 9223372036854775807
        · rw [if_pos c8] at H; have c8b0 := eq_true c8; have c8b1 : decide (((strOfNums y168) ++ t171).size + a1.size ≤ 9223372036854775807) = true := decide_eq_true c8; have c8b3 : (9223372036854775807 < (strOfNums y168).size + t171.size + a1.size) = False := eq_false (Nat.not_lt.2 (by rw [← ByteArray.size_append]; exact c8)); try have c8b2 : (9223372036854775807 < ((strOfNums y168) ++ t171).size + a1.size) = False := eq_false (Nat.not_lt.2 c8)
          obtain rfl := Option.some.inj H; go_enter Try.func7, Try.ntmps7; try go_wp2_with (first | ((with_reducible refine gate_callee (f := 40) rfl ?_); refine goesL_ (some 6) rfl rfl Try.func40 (by kernel_rfl) rfl #[.int .i64 a0] rfl Ag ?_; (with_reducible refine (impl_isTag.calls a0 true _ A3.out).mono ?_); rintro e w' ⟨rfl, ⟨nd, rfl⟩⟩; refine ⟨_, rfl, ?_⟩))
          have n0_ := Aside0.mk (show Below w.heap.size w (w.drewN nd).drew from by first | exact below_drew1 (pw_below_drewN HB.out) | exact below_drew1 (pw_below_drewN HB.out _) | exact below_drew1 (pw_below_drewN _ HB.out)); clear HB; have HB := n0_; clear n0_; refine start_ (n := 11) (S := fun w' => True) (ds := []) (bv 11 0) (by kernel_rfl) rfl rfl trivial (fun hHeld => ?_); refine with_tabW impl_BerPut.tab3 impl_BerPut.bits3 (fun HT_ HW_ => ?_); generalize (w.drewN nd).drew = w9 at HB hHeld ⊢; refine pu 0 13 (bv 11 1) HT_.out (h := ?_); refine pu 1 14 (bv 11 3) HT_.out (h := ?_); refine pu 4 17 (bv 11 19) HT_.out (h := ?_); refine pu 5 18 (bv 11 51) HT_.out (h := ?_); refine pu 8 21 (bv 11 307) HT_.out (h := ?_); refine join_ (σ := Value) 3 (bv 11 383) (fun s_ => [(15, s_), (16, .string (strOfNums y168)), (19, .string t171)]) (fun s_ w' => (Kd.R (Kd.int .u8) 5 w' w.heap.size (fun _ => True) s_ y168) ∧ (Below w.heap.size w w')) ?_ ?_; rotate_left
          · intro hCont; refine two_ (i := 2) (j := 6) (Ni := some 15) (Nj := some 19) (bv 11 311) (bv 11 371) rfl rfl rfl rfl (two_of HT_.out (by kernel_rfl)) (by decide) (by decide) (fun K hK => ?_) (fun K hK => ?_)
            · skip
              refine Kd.R_lit_step (Kd.int .u8) _ 5 ?hg (N := 15) ?hd (xs := ([(a0) % 256] : List Int)) (inner := [.int .u8 ((a0) % 256)]) (ok := fun _ => True) (okp := fun _ => True) ?hr ?hp (fun _ hk => hk) trivial (Below.refl _ _) (Nat.le_refl _) (by simp) ?_; (case hd => rfl); (case hg => rfl); (case hr => first | (go_simp; done) | (go_simp; rfl)); (case hp => exact (Reps.one (show Kd.M (Kd.int .u8) _ _ _ ((a0) % 256) [.int .u8 ((a0) % 256)] from rfl) (Reps.none _ _))); intro v169 w10 ho11 hb hg_ hnew_; clear hg_ hnew_; (first | rw [← Ny168.out] at ho11 | (simp only [Int.reduceToNat] at ho11; rw [← Ny168.out] at ho11)); have n_ := aa (Kd.R_lower ho11 (below_size By)) <| Aside0.mk (below_step By hb); clear HB; obtain ⟨HO170, HB⟩ := n_; clear hb ho11; refine hK.out _ _ trivial (fun hHeld => ?_); clear hK K; refine norm_ (a' := ?_) ?_ ?_; rotate_left
              · show Act.put _ (some 15) _ = _; simp only [Act.put, List.setIfInBounds_toArray, List.set_cons_zero, List.set_cons_succ, i64_w, i32_w]; rfl
              refine two_ (i := 3) (j := 6) (Ni := some 16) (Nj := some 19) (bv 11 319) (bv 11 375) rfl rfl rfl rfl (two_of HT_.out (by kernel_rfl)) (by decide) (by decide) (fun K hK => ?_) (fun K hK => ?_)
              · skip
                have hcv12 := own_string (P := Try.prog) Try.underlying22 Try.underlying5 Try.underlying9 (Kd.own_of_R HO170.out); refine value_ (w1 := ?_) (v := ?_) (by rfl) rfl ?_ ?_; rotate_left 2
                · go_simp; constructor
                  · rfl
                  · rfl
                clear hcv12; refine hK.out _ _ trivial (fun hHeld => ?_); clear hK K; refine norm_ (a' := ?_) ?_ ?_; rotate_left
                · show Act.put _ (some 16) _ = _; simp only [Act.put, List.setIfInBounds_toArray, List.set_cons_zero, List.set_cons_succ, i64_w, i32_w]; rfl
                refine one_ (i := 6) (N := some 19) (bv 11 383) rfl rfl (one_of HT_.out (by kernel_rfl)) (by decide) (fun K hK => ?_); refine goes_ Try.func41 (by kernel_rfl) rfl #[.int .i64 (a1.size : Int)] (by rfl) rfl rfl Ag ?_; with_reducible refine (impl_berLength.calls (a1.size : Int) t171 _ A6.out).mono ?_
                rintro e w13 ⟨rfl, hb⟩; refine ⟨_, rfl, ?_⟩; have n_ := aa (Kd.R_below (rR HO170.out) hb) <| Aside0.mk (below_step By hb); clear HO170 HB; obtain ⟨HO170, HB⟩ := n_; (try clear hb); (try clear hb2); (try clear hk); (try clear hi); refine hK.out _ _ trivial (fun hHeld => ?_); clear hK K; refine norm_ (a' := ?_) ?_ ?_; rotate_left
                · show Act.put _ (some 19) _ = _; simp only [Act.put, List.setIfInBounds_toArray, List.set_cons_zero, List.set_cons_succ, i64_w, i32_w]; rfl
                exact norm_ (by simp only [putAll, Act.put, List.setIfInBounds_toArray, List.set_cons_zero, List.set_cons_succ]) (hCont (v169) _ ⟨(rR HO170.out), By⟩)
              · skip
                refine goes_ Try.func41 (by kernel_rfl) rfl #[.int .i64 (a1.size : Int)] (by rfl) rfl rfl Ag ?_; with_reducible refine (impl_berLength.calls (a1.size : Int) t171 _ A6.out).mono ?_
                rintro e w12 ⟨rfl, hb⟩; refine ⟨_, rfl, ?_⟩; have n_ := aa (Kd.R_below (rR HO170.out) hb) <| Aside0.mk (below_step By hb); clear HO170 HB; obtain ⟨HO170, HB⟩ := n_; (try clear hb); (try clear hb2); (try clear hk); (try clear hi); refine hK.out _ _ trivial (fun hHeld => ?_); clear hK K; refine norm_ (a' := ?_) ?_ ?_; rotate_left
                · show Act.put _ (some 19) _ = _; simp only [Act.put, List.setIfInBounds_toArray, List.set_cons_zero, List.set_cons_succ, i64_w, i32_w]; rfl
                refine one_ (i := 3) (N := some 16) (bv 11 383) rfl rfl (one_of HT_.out (by kernel_rfl)) (by decide) (fun K hK => ?_); have hcv13 := own_string (P := Try.prog) Try.underlying22 Try.underlying5 Try.underlying9 (Kd.own_of_R HO170.out); refine value_ (w1 := ?_) (v := ?_) (by rfl) rfl ?_ ?_; rotate_left 2
                · go_simp; constructor
                  · rfl
                  · rfl
                clear hcv13; refine hK.out _ _ trivial (fun hHeld => ?_); clear hK K; refine norm_ (a' := ?_) ?_ ?_; rotate_left
                · show Act.put _ (some 16) _ = _; simp only [Act.put, List.setIfInBounds_toArray, List.set_cons_zero, List.set_cons_succ, i64_w, i32_w]; rfl
                exact norm_ (by simp only [putAll, Act.put, List.setIfInBounds_toArray, List.set_cons_zero, List.set_cons_succ]) (hCont (v169) _ ⟨(rR HO170.out), By⟩)
            · skip
              refine goes_ Try.func41 (by kernel_rfl) rfl #[.int .i64 (a1.size : Int)] (by rfl) rfl rfl Ag ?_; with_reducible refine (impl_berLength.calls (a1.size : Int) t171 _ A6.out).mono ?_
              rintro e w10 ⟨rfl, hb⟩; refine ⟨_, rfl, ?_⟩; have n0_ := Aside0.mk (below_step By hb); clear HB; have HB := n0_; clear n0_; (try clear hb); (try clear hb2); (try clear hk); (try clear hi); refine hK.out _ _ trivial (fun hHeld => ?_); clear hK K; refine norm_ (a' := ?_) ?_ ?_; rotate_left
              · show Act.put _ (some 19) _ = _; simp only [Act.put, List.setIfInBounds_toArray, List.set_cons_zero, List.set_cons_succ, i64_w, i32_w]; rfl
              refine one_ (i := 2) (N := some 15) (bv 11 375) rfl rfl (one_of HT_.out (by kernel_rfl)) (by decide) (fun K hK => ?_); refine Kd.R_lit_step (Kd.int .u8) _ 5 ?hg (N := 15) ?hd (xs := ([(a0) % 256] : List Int)) (inner := [.int .u8 ((a0) % 256)]) (ok := fun _ => True) (okp := fun _ => True) ?hr ?hp (fun _ hk => hk) trivial (Below.refl _ _) (Nat.le_refl _) (by simp) ?_; (case hd => rfl); (case hg => rfl); (case hr => first | (go_simp; done) | (go_simp; rfl)); (case hp => exact (Reps.one (show Kd.M (Kd.int .u8) _ _ _ ((a0) % 256) [.int .u8 ((a0) % 256)] from rfl) (Reps.none _ _))); intro v169 w11 ho12 hb hg_ hnew_; clear hg_ hnew_; (first | rw [← Ny168.out] at ho12 | (simp only [Int.reduceToNat] at ho12; rw [← Ny168.out] at ho12)); have n_ := aa (Kd.R_lower ho12 (below_size By)) <| Aside0.mk (below_step By hb); clear HB; obtain ⟨HO170, HB⟩ := n_; clear hb ho12; refine hK.out _ _ trivial (fun hHeld => ?_); clear hK K; refine norm_ (a' := ?_) ?_ ?_; rotate_left
              · show Act.put _ (some 15) _ = _; simp only [Act.put, List.setIfInBounds_toArray, List.set_cons_zero, List.set_cons_succ, i64_w, i32_w]; rfl
              refine one_ (i := 3) (N := some 16) (bv 11 383) rfl rfl (one_of HT_.out (by kernel_rfl)) (by decide) (fun K hK => ?_); have hcv13 := own_string (P := Try.prog) Try.underlying22 Try.underlying5 Try.underlying9 (Kd.own_of_R HO170.out); refine value_ (w1 := ?_) (v := ?_) (by rfl) rfl ?_ ?_; rotate_left 2
              · go_simp; constructor
                · rfl
                · rfl
              clear hcv13; refine hK.out _ _ trivial (fun hHeld => ?_); clear hK K; refine norm_ (a' := ?_) ?_ ?_; rotate_left
              · show Act.put _ (some 16) _ = _; simp only [Act.put, List.setIfInBounds_toArray, List.set_cons_zero, List.set_cons_succ, i64_w, i32_w]; rfl
              exact norm_ (by simp only [putAll, Act.put, List.setIfInBounds_toArray, List.set_cons_zero, List.set_cons_succ]) (hCont (v169) _ ⟨(rR HO170.out), By⟩)
          rintro v169 w14 ⟨h0_, h1_⟩; have n0_ : Aside0 (Kd.R (Kd.int .u8) 5 w14 w.heap.size (fun _ => True) v169 y168) := ⟨h0_⟩; have n1_ : Aside0 (Below w.heap.size w w14) := ⟨h1_⟩; clear HB; clear h0_ h1_; have HO170 := n0_; have HB := n1_; clear n0_ n1_; have hHeld := trivial; refine norm_ (a' := ?_) ?_ ?_; rotate_left
          · simp only [putAll, Act.put, List.setIfInBounds_toArray, List.set_cons_zero, List.set_cons_succ]; rfl
          refine pu 7 20 (bv 11 511) HT_.out (h := ?_); refine pu 9 22 (bv 11 1023) HT_.out (h := ?_); refine pu 10 4 (bv 11 2047) HT_.out (h := ?_); refine done_ (done_of HT_.out (by kernel_rfl)) ?_; try go_wp2
          go_ret; exact ⟨Rf, By⟩
        · rw [if_neg c8] at H; exact absurd H (by simp)
      · rw [if_neg c7] at H; exact absurd H (by simp)
  · replace c4 := Bool.eq_false_iff.mpr c4; subst c4; rw [if_neg (show ¬ (false = true) by decide)] at H; obtain rfl := Option.some.inj H; go_enter Try.func7, Try.ntmps7; go_wp2_with (first | ((with_reducible refine gate_callee (f := 40) rfl ?_); refine goesL_ (some 6) rfl rfl Try.func40 (by kernel_rfl) rfl #[.int .i64 a0] rfl Ag ?_; (with_reducible refine (impl_isTag.calls a0 false _ A3.out).mono ?_); rintro e w' ⟨rfl, ⟨nd, rfl⟩⟩; refine ⟨_, rfl, ?_⟩)); go_ret; exact ⟨Rf, By⟩

set_option linter.unusedVariables false
set_option linter.unusedSimpArgs false

/-! ### spec_l09Is: function 76 -/
def spec_l09Is.f (a0 : Int) (a1 : Int) (a2 : Int) : Option (Bool) := if a0 ≥ a1 then (some (decide (a0 ≤ a2))) else (some false)
set_option maxHeartbeats 8000000 in
set_option maxRecDepth 100000 in
theorem spec_l09Is.calls (a0 : Int) (a1 : Int) (a2 : Int) (r : Bool) (w : World) (h : spec_l09Is.f a0 a1 a2 = some r) :
    Calls Try.prog 76 #[.int .i64 a0, .int .i64 a1, .int .i64 a2] w fun e w' => e = .returned (.bool r) ∧ Drawn0 w w' := by
  have H : (if a0 ≥ a1 then (some (decide (a0 ≤ a2))) else (some false)) = some r := h; clear h; by_cases c4 : a0 ≥ a1
  · rw [if_pos c4] at H; have c4b0 : decide (a1 ≤ a0) = true := decide_eq_true c4; clear c4; obtain rfl := Option.some.inj H; go_enter Try.func76, Try.ntmps76; go_wp2; go_ret; exact ⟨by first | rfl | (simp; done) | (simp [*]; done), by repeat (first | exact Drawn0.refl _ | apply Drawn0.step)⟩
  · rw [if_neg c4] at H; have c4b0 : decide (a1 ≤ a0) = false := decide_eq_false c4; clear c4; obtain rfl := Option.some.inj H; go_enter Try.func76, Try.ntmps76; go_wp2; go_ret; exact ⟨by first | rfl | (simp; done) | (simp [*]; done), by repeat (first | exact Drawn0.refl _ | apply Drawn0.step)⟩

set_option linter.unusedVariables false
set_option linter.unusedSimpArgs false

/-! ### spec_l09Tag: function 42 -/
def spec_l09Tag.f (a0 : Int) : Option (Bool) := (spec_l09Is.f a0 0 255).bind fun t172 => (if t172 = true then (some ((Int.tmod a0 32) != 31)) else (some false))
set_option maxHeartbeats 8000000 in
set_option maxRecDepth 100000 in
theorem spec_l09Tag.calls (a0 : Int) (r : Bool) (w : World) (h : spec_l09Tag.f a0 = some r) :
    Calls Try.prog 42 #[.int .i64 a0] w fun e w' => e = .returned (.bool r) ∧ Drawn0 w w' := by
  have H : ((spec_l09Is.f a0 0 255).bind fun t172 => (if t172 = true then (some ((Int.tmod a0 32) != 31)) else (some false))) = some r := h; clear h; replace H := Option.bind_eq_some_iff.mp H; obtain ⟨t172, A20, H⟩ := H; (try dsimp only at H); have A2 := Aside0.mk A20; clear A20; by_cases c3 : t172 = true
  · subst c3; rw [if_pos rfl] at H; obtain rfl := Option.some.inj H; go_enter Try.func42, Try.ntmps42; go_wp2_with (first | ((with_reducible refine gate_callee (f := 76) rfl ?_); refine goesL_ (some 4) rfl rfl Try.func76 (by kernel_rfl) rfl #[.int .i64 a0, .int .i64 0, .int .i64 255] rfl Ag ?_; (with_reducible refine (spec_l09Is.calls a0 0 255 true _ A2.out).mono ?_); rintro e w' ⟨rfl, ⟨nd, rfl⟩⟩; refine ⟨_, rfl, ?_⟩)); go_ret; exact ⟨by first | rfl | (simp; done) | (simp [*]; done), by repeat (first | exact Drawn0.refl _ | apply Drawn0.step)⟩
  · replace c3 := Bool.eq_false_iff.mpr c3; subst c3; rw [if_neg (show ¬ (false = true) by decide)] at H; obtain rfl := Option.some.inj H; go_enter Try.func42, Try.ntmps42; go_wp2_with (first | ((with_reducible refine gate_callee (f := 76) rfl ?_); refine goesL_ (some 4) rfl rfl Try.func76 (by kernel_rfl) rfl #[.int .i64 a0, .int .i64 0, .int .i64 255] rfl Ag ?_; (with_reducible refine (spec_l09Is.calls a0 0 255 false _ A2.out).mono ?_); rintro e w' ⟨rfl, ⟨nd, rfl⟩⟩; refine ⟨_, rfl, ?_⟩)); go_ret; exact ⟨by first | rfl | (simp; done) | (simp [*]; done), by repeat (first | exact Drawn0.refl _ | apply Drawn0.step)⟩

set_option linter.unusedVariables false
set_option linter.unusedSimpArgs false

/-! ### spec_l09Put: function 43 -/
def spec_l09Put.f (a0 : Int) (a1 : ByteArray) : Option (ByteArray) := (some (([(a0) % 256, ((a1.size : Int)) % 256] : List Int) : List Int)).bind fun y173 => (if (a1.size : Int) ≥ 256 then ((some (([(a0) % 256, 130, ((a1.size : Int) / 256) % 256, (a1.size : Int) % 256] : List Int) : List Int)).bind fun y176 => (if (strOfNums y176).size + a1.size ≤ 9223372036854775807 then (some ((strOfNums y176) ++ a1)) else (none))) else (if (a1.size : Int) ≥ 128 then ((some (([(a0) % 256, 129, ((a1.size : Int)) % 256] : List Int) : List Int)).bind fun y179 => (if (strOfNums y179).size + a1.size ≤ 9223372036854775807 then (some ((strOfNums y179) ++ a1)) else (none))) else (if (strOfNums y173).size + a1.size ≤ 9223372036854775807 then (some ((strOfNums y173) ++ a1)) else (none))))
set_option maxHeartbeats 8000000 in
set_option maxRecDepth 100000 in
theorem spec_l09Put.calls (a0 : Int) (a1 : ByteArray) (r : ByteArray) (w : World) (h : spec_l09Put.f a0 a1 = some r) :
    Calls Try.prog 43 #[.int .i64 a0, .string a1] w fun e w' => e = .returned (.string r) ∧ Below w.heap.size w w' := by
  have HB := Aside0.mk (Below.refl w.heap.size w); have H : ((some (([(a0) % 256, ((a1.size : Int)) % 256] : List Int) : List Int)).bind fun y173 => (if (a1.size : Int) ≥ 256 then ((some (([(a0) % 256, 130, ((a1.size : Int) / 256) % 256, (a1.size : Int) % 256] : List Int) : List Int)).bind fun y176 => (if (strOfNums y176).size + a1.size ≤ 9223372036854775807 then (some ((strOfNums y176) ++ a1)) else (none))) else (if (a1.size : Int) ≥ 128 then ((some (([(a0) % 256, 129, ((a1.size : Int)) % 256] : List Int) : List Int)).bind fun y179 => (if (strOfNums y179).size + a1.size ≤ 9223372036854775807 then (some ((strOfNums y179) ++ a1)) else (none))) else (if (strOfNums y173).size + a1.size ≤ 9223372036854775807 then (some ((strOfNums y173) ++ a1)) else (none))))) = some r := h; clear h; obtain ⟨y173, hy173⟩ : ∃ y_ : List Int, y_ = (([(a0) % 256, ((a1.size : Int)) % 256] : List Int)) := ⟨_, rfl⟩; replace H : (if (a1.size : Int) ≥ 256 then ((some (([(a0) % 256, 130, ((a1.size : Int) / 256) % 256, (a1.size : Int) % 256] : List Int) : List Int)).bind fun y176 => (if (strOfNums y176).size + a1.size ≤ 9223372036854775807 then (some ((strOfNums y176) ++ a1)) else (none))) else (if (a1.size : Int) ≥ 128 then ((some (([(a0) % 256, 129, ((a1.size : Int)) % 256] : List Int) : List Int)).bind fun y179 => (if (strOfNums y179).size + a1.size ≤ 9223372036854775807 then (some ((strOfNums y179) ++ a1)) else (none))) else (if (strOfNums y173).size + a1.size ≤ 9223372036854775807 then (some ((strOfNums y173) ++ a1)) else (none)))) = some r := by first | (rw [hy173]; with_reducible exact H) | (have H2_ := (Option.bind_some _ _).symm.trans H; rw [hy173]; with_reducible exact H2_) | (have H2_ := (Option.bind_some _ _).symm.trans H; with_reducible exact H2_) | with_reducible exact H | (rw [hy173]; exact H) | exact H
  have Ny173 := Aside0.mk hy173; clear hy173; by_cases c3 : (a1.size : Int) ≥ 256
  · rw [if_pos c3] at H; have c3b0 : decide (256 ≤ (a1.size : Int)) = true := decide_eq_true c3; have c3b1 : decide (256 ≤ a1.size) = true := decide_eq_true (by omega); clear c3; obtain ⟨y176, hy176⟩ : ∃ y_ : List Int, y_ = (([(a0) % 256, 130, ((a1.size : Int) / 256) % 256, (a1.size : Int) % 256] : List Int)) := ⟨_, rfl⟩; replace H : (if (strOfNums y176).size + a1.size ≤ 9223372036854775807 then (some ((strOfNums y176) ++ a1)) else (none)) = some r := by first | (rw [hy176]; with_reducible exact H) | (have H2_ := (Option.bind_some _ _).symm.trans H; rw [hy176]; with_reducible exact H2_) | (have H2_ := (Option.bind_some _ _).symm.trans H; with_reducible exact H2_) | with_reducible exact H | (rw [hy176]; exact H) | exact H
    have Ny176 := Aside0.mk hy176; clear hy176; by_cases c4 : (strOfNums y176).size + a1.size ≤ 9223372036854775807
    · rw [if_pos c4] at H; have c4b0 := eq_true c4; have c4b1 : decide ((strOfNums y176).size + a1.size ≤ 9223372036854775807) = true := decide_eq_true c4; try have c4b2 : (9223372036854775807 < (strOfNums y176).size + a1.size) = False := eq_false (Nat.not_lt.2 c4)
      obtain rfl := Option.some.inj H; go_enter Try.func43, Try.ntmps43; go_wp2_with (first | ((with_reducible refine gate_dst (N := 13) rfl ?_); refine Kd.R_lit (Kd.int .u8) _ 5 ?hg (N := 13) ?hd (xs := ([(a0) % 256, ((a1.size : Int)) % 256] : List Int)) (inner := [.int .u8 ((a0) % 256), .int .u8 (((a1.size : Int)) % 256)]) (ok := fun _ => True) (okp := fun _ => True) ?hr ?hp (fun _ hk => hk) trivial (Below.refl _ _) (Nat.le_refl _) (by simp) ?_; (case hd => rfl); (case hg => rfl); (case hr => first | (go_simp; done) | (go_simp; rfl)); (case hp => exact (Reps.one (show Kd.M (Kd.int .u8) _ _ _ ((a0) % 256) [.int .u8 ((a0) % 256)] from rfl) (Reps.one (show Kd.M (Kd.int .u8) _ _ _ (((a1.size : Int)) % 256) [.int .u8 (((a1.size : Int)) % 256)] from rfl) (Reps.none _ _)))); intro v174 w5 ho6 hb hg_ hnew_; clear hg_ hnew_; (first | rw [← Ny173.out] at ho6 | (simp only [Int.reduceToNat] at ho6; rw [← Ny173.out] at ho6)); have n_ := aa (Kd.R_lower ho6 (below_size By)) <| Aside0.mk (below_step By hb); clear HB; obtain ⟨HO175, HB⟩ := n_; clear hb ho6) | ((with_reducible refine gate_dst (N := 25) rfl ?_); refine Kd.R_lit (Kd.int .u8) _ 5 ?hg (N := 25) ?hd (xs := ([(a0) % 256, 130, ((a1.size : Int) / 256) % 256, (a1.size : Int) % 256] : List Int)) (inner := [.int .u8 ((a0) % 256), .int .u8 130, .int .u8 (((a1.size : Int) / 256) % 256), .int .u8 ((a1.size : Int) % 256)]) (ok := fun _ => True) (okp := fun _ => True) ?hr ?hp (fun _ hk => hk) trivial (Below.refl _ _) (Nat.le_refl _) (by simp) ?_; (case hd => rfl); (case hg => rfl); (case hr => first | (go_simp; done) | (go_simp; rfl)); (case hp => exact (Reps.one (show Kd.M (Kd.int .u8) _ _ _ ((a0) % 256) [.int .u8 ((a0) % 256)] from rfl) (Reps.one (show Kd.M (Kd.int .u8) _ _ _ 130 [.int .u8 130] from rfl) (Reps.one (show Kd.M (Kd.int .u8) _ _ _ (((a1.size : Int) / 256) % 256) [.int .u8 (((a1.size : Int) / 256) % 256)] from rfl) (Reps.one (show Kd.M (Kd.int .u8) _ _ _ ((a1.size : Int) % 256) [.int .u8 ((a1.size : Int) % 256)] from rfl) (Reps.none _ _)))))); intro v177 w7 ho8 hb hg_ hnew_; clear hg_ hnew_; (first | rw [← Ny176.out] at ho8 | (simp only [Int.reduceToNat] at ho8; rw [← Ny176.out] at ho8)); have n_ := aa (Kd.R_elder' (rR HO175.out) (Kd.R_base ho8) hb) <| aa (Kd.R_lower (Kd.R_new' ho8 (Kd.R_lt (rR HO175.out))) (below_size By)) <| Aside0.mk (below_step By hb); clear HO175 HB; obtain ⟨HO175, HO178, HB⟩ := n_; clear hb ho8; have hcv9 := own_string (P := Try.prog) Try.underlying22 Try.underlying5 Try.underlying9 (Kd.own_of_R HO178.out))); go_ret; exact ⟨Rf, By⟩
    · rw [if_neg c4] at H; exact absurd H (by simp)
  · rw [if_neg c3] at H; have c3b0 : decide (256 ≤ (a1.size : Int)) = false := decide_eq_false c3; have c3b1 : decide (256 ≤ a1.size) = false := decide_eq_false (by omega); clear c3; by_cases c10 : (a1.size : Int) ≥ 128
    · rw [if_pos c10] at H; have c10b0 : decide (128 ≤ (a1.size : Int)) = true := decide_eq_true c10; have c10b1 : decide (128 ≤ a1.size) = true := decide_eq_true (by omega); clear c10; obtain ⟨y179, hy179⟩ : ∃ y_ : List Int, y_ = (([(a0) % 256, 129, ((a1.size : Int)) % 256] : List Int)) := ⟨_, rfl⟩; replace H : (if (strOfNums y179).size + a1.size ≤ 9223372036854775807 then (some ((strOfNums y179) ++ a1)) else (none)) = some r := by first | (rw [hy179]; with_reducible exact H) | (have H2_ := (Option.bind_some _ _).symm.trans H; rw [hy179]; with_reducible exact H2_) | (have H2_ := (Option.bind_some _ _).symm.trans H; with_reducible exact H2_) | with_reducible exact H | (rw [hy179]; exact H) | exact H
      have Ny179 := Aside0.mk hy179; clear hy179; by_cases c11 : (strOfNums y179).size + a1.size ≤ 9223372036854775807
      · rw [if_pos c11] at H; have c11b0 := eq_true c11; have c11b1 : decide ((strOfNums y179).size + a1.size ≤ 9223372036854775807) = true := decide_eq_true c11; try have c11b2 : (9223372036854775807 < (strOfNums y179).size + a1.size) = False := eq_false (Nat.not_lt.2 c11)
        obtain rfl := Option.some.inj H; go_enter Try.func43, Try.ntmps43; go_wp2_with (first | ((with_reducible refine gate_dst (N := 13) rfl ?_); refine Kd.R_lit (Kd.int .u8) _ 5 ?hg (N := 13) ?hd (xs := ([(a0) % 256, ((a1.size : Int)) % 256] : List Int)) (inner := [.int .u8 ((a0) % 256), .int .u8 (((a1.size : Int)) % 256)]) (ok := fun _ => True) (okp := fun _ => True) ?hr ?hp (fun _ hk => hk) trivial (Below.refl _ _) (Nat.le_refl _) (by simp) ?_; (case hd => rfl); (case hg => rfl); (case hr => first | (go_simp; done) | (go_simp; rfl)); (case hp => exact (Reps.one (show Kd.M (Kd.int .u8) _ _ _ ((a0) % 256) [.int .u8 ((a0) % 256)] from rfl) (Reps.one (show Kd.M (Kd.int .u8) _ _ _ (((a1.size : Int)) % 256) [.int .u8 (((a1.size : Int)) % 256)] from rfl) (Reps.none _ _)))); intro v174 w12 ho13 hb hg_ hnew_; clear hg_ hnew_; (first | rw [← Ny173.out] at ho13 | (simp only [Int.reduceToNat] at ho13; rw [← Ny173.out] at ho13)); have n_ := aa (Kd.R_lower ho13 (below_size By)) <| Aside0.mk (below_step By hb); clear HB; obtain ⟨HO175, HB⟩ := n_; clear hb ho13) | ((with_reducible refine gate_dst (N := 33) rfl ?_); refine Kd.R_lit (Kd.int .u8) _ 5 ?hg (N := 33) ?hd (xs := ([(a0) % 256, 129, ((a1.size : Int)) % 256] : List Int)) (inner := [.int .u8 ((a0) % 256), .int .u8 129, .int .u8 (((a1.size : Int)) % 256)]) (ok := fun _ => True) (okp := fun _ => True) ?hr ?hp (fun _ hk => hk) trivial (Below.refl _ _) (Nat.le_refl _) (by simp) ?_; (case hd => rfl); (case hg => rfl); (case hr => first | (go_simp; done) | (go_simp; rfl)); (case hp => exact (Reps.one (show Kd.M (Kd.int .u8) _ _ _ ((a0) % 256) [.int .u8 ((a0) % 256)] from rfl) (Reps.one (show Kd.M (Kd.int .u8) _ _ _ 129 [.int .u8 129] from rfl) (Reps.one (show Kd.M (Kd.int .u8) _ _ _ (((a1.size : Int)) % 256) [.int .u8 (((a1.size : Int)) % 256)] from rfl) (Reps.none _ _))))); intro v180 w14 ho15 hb hg_ hnew_; clear hg_ hnew_; (first | rw [← Ny179.out] at ho15 | (simp only [Int.reduceToNat] at ho15; rw [← Ny179.out] at ho15)); have n_ := aa (Kd.R_elder' (rR HO175.out) (Kd.R_base ho15) hb) <| aa (Kd.R_lower (Kd.R_new' ho15 (Kd.R_lt (rR HO175.out))) (below_size By)) <| Aside0.mk (below_step By hb); clear HO175 HB; obtain ⟨HO175, HO181, HB⟩ := n_; clear hb ho15; have hcv16 := own_string (P := Try.prog) Try.underlying22 Try.underlying5 Try.underlying9 (Kd.own_of_R HO181.out))); go_ret; exact ⟨Rf, By⟩
      · rw [if_neg c11] at H; exact absurd H (by simp)
    · rw [if_neg c10] at H; have c10b0 : decide (128 ≤ (a1.size : Int)) = false := decide_eq_false c10; have c10b1 : decide (128 ≤ a1.size) = false := decide_eq_false (by omega); clear c10; by_cases c17 : (strOfNums y173).size + a1.size ≤ 9223372036854775807
      · rw [if_pos c17] at H; have c17b0 := eq_true c17; have c17b1 : decide ((strOfNums y173).size + a1.size ≤ 9223372036854775807) = true := decide_eq_true c17; try have c17b2 : (9223372036854775807 < (strOfNums y173).size + a1.size) = False := eq_false (Nat.not_lt.2 c17)
        obtain rfl := Option.some.inj H; go_enter Try.func43, Try.ntmps43; go_wp2_with (first | ((with_reducible refine gate_dst (N := 13) rfl ?_); refine Kd.R_lit (Kd.int .u8) _ 5 ?hg (N := 13) ?hd (xs := ([(a0) % 256, ((a1.size : Int)) % 256] : List Int)) (inner := [.int .u8 ((a0) % 256), .int .u8 (((a1.size : Int)) % 256)]) (ok := fun _ => True) (okp := fun _ => True) ?hr ?hp (fun _ hk => hk) trivial (Below.refl _ _) (Nat.le_refl _) (by simp) ?_; (case hd => rfl); (case hg => rfl); (case hr => first | (go_simp; done) | (go_simp; rfl)); (case hp => exact (Reps.one (show Kd.M (Kd.int .u8) _ _ _ ((a0) % 256) [.int .u8 ((a0) % 256)] from rfl) (Reps.one (show Kd.M (Kd.int .u8) _ _ _ (((a1.size : Int)) % 256) [.int .u8 (((a1.size : Int)) % 256)] from rfl) (Reps.none _ _)))); intro v174 w18 ho19 hb hg_ hnew_; clear hg_ hnew_; (first | rw [← Ny173.out] at ho19 | (simp only [Int.reduceToNat] at ho19; rw [← Ny173.out] at ho19)); have n_ := aa (Kd.R_lower ho19 (below_size By)) <| Aside0.mk (below_step By hb); clear HB; obtain ⟨HO175, HB⟩ := n_; clear hb ho19; have hcv20 := own_string (P := Try.prog) Try.underlying22 Try.underlying5 Try.underlying9 (Kd.own_of_R HO175.out))); go_ret; exact ⟨Rf, By⟩
      · rw [if_neg c17] at H; exact absurd H (by simp)

set_option linter.unusedVariables false
set_option linter.unusedSimpArgs false

/-! ### spec_BerPut: function 8 -/
def spec_BerPut.f (a0 : Int) (a1 : ByteArray) : Option (ByteArray) := (spec_l09Tag.f a0).bind fun t182 => (if t182 = true then (if (a1.size : Int) > 4000 then (some (⟨#[]⟩ : ByteArray)) else ((spec_l09Put.f a0 a1).bind fun t183 => (some t183))) else (some (⟨#[]⟩ : ByteArray)))
set_option maxHeartbeats 8000000 in
set_option maxRecDepth 100000 in
theorem spec_BerPut.calls (a0 : Int) (a1 : ByteArray) (r : ByteArray) (w : World) (h : spec_BerPut.f a0 a1 = some r) :
    Calls Try.prog 8 #[.int .i64 a0, .string a1] w fun e w' => e = .returned (.string r) ∧ Below w.heap.size w w' := by
  have HB := Aside0.mk (Below.refl w.heap.size w); have H : ((spec_l09Tag.f a0).bind fun t182 => (if t182 = true then (if (a1.size : Int) > 4000 then (some (⟨#[]⟩ : ByteArray)) else ((spec_l09Put.f a0 a1).bind fun t183 => (some t183))) else (some (⟨#[]⟩ : ByteArray)))) = some r := h; clear h; replace H := Option.bind_eq_some_iff.mp H; obtain ⟨t182, A30, H⟩ := H; (try dsimp only at H); have A3 := Aside0.mk A30; clear A30; by_cases c4 : t182 = true
  · subst c4; rw [if_pos rfl] at H; by_cases c5 : (a1.size : Int) > 4000
    · rw [if_pos c5] at H; have c5b0 : decide (4000 < (a1.size : Int)) = true := decide_eq_true c5; have c5b1 : decide (4000 < a1.size) = true := decide_eq_true (by omega); clear c5; obtain rfl := Option.some.inj H; go_enter Try.func8, Try.ntmps8; go_wp2_with (first | ((with_reducible refine gate_callee (f := 42) rfl ?_); refine goesL_ (some 6) rfl rfl Try.func42 (by kernel_rfl) rfl #[.int .i64 a0] rfl Ag ?_; (with_reducible refine (spec_l09Tag.calls a0 true _ A3.out).mono ?_); rintro e w' ⟨rfl, ⟨nd, rfl⟩⟩; refine ⟨_, rfl, ?_⟩)); go_ret; exact ⟨Rf, By⟩
    · rw [if_neg c5] at H; have c5b0 : decide (4000 < (a1.size : Int)) = false := decide_eq_false c5; have c5b1 : decide (4000 < a1.size) = false := decide_eq_false (by omega); clear c5; replace H := Option.bind_eq_some_iff.mp H; obtain ⟨t183, A60, H⟩ := H; (try dsimp only at H); have A6 := Aside0.mk A60; clear A60; obtain rfl := Option.some.inj H; go_enter Try.func8, Try.ntmps8; go_wp2_with (first | ((with_reducible refine gate_callee (f := 42) rfl ?_); refine goesL_ (some 6) rfl rfl Try.func42 (by kernel_rfl) rfl #[.int .i64 a0] rfl Ag ?_; (with_reducible refine (spec_l09Tag.calls a0 true _ A3.out).mono ?_); rintro e w' ⟨rfl, ⟨nd, rfl⟩⟩; refine ⟨_, rfl, ?_⟩) | ((with_reducible refine gate_callee (f := 43) rfl ?_); refine goesL_ (some 15) rfl rfl Try.func43 (by kernel_rfl) rfl #[.int .i64 a0, .string a1] rfl Ag ?_; (with_reducible refine (spec_l09Put.calls a0 a1 t183 _ A6.out).mono ?_); rintro e w7 ⟨rfl, hb⟩; refine ⟨_, rfl, ?_⟩; have n0_ := Aside0.mk (below_step By hb); clear HB; have HB := n0_; clear n0_; (try clear hb); (try clear hb2); (try clear hk); (try clear hi))); go_ret; exact ⟨Rf, By⟩
  · replace c4 := Bool.eq_false_iff.mpr c4; subst c4; rw [if_neg (show ¬ (false = true) by decide)] at H; obtain rfl := Option.some.inj H; go_enter Try.func8, Try.ntmps8; go_wp2_with (first | ((with_reducible refine gate_callee (f := 42) rfl ?_); refine goesL_ (some 6) rfl rfl Try.func42 (by kernel_rfl) rfl #[.int .i64 a0] rfl Ag ?_; (with_reducible refine (spec_l09Tag.calls a0 false _ A3.out).mono ?_); rintro e w' ⟨rfl, ⟨nd, rfl⟩⟩; refine ⟨_, rfl, ?_⟩)); go_ret; exact ⟨Rf, By⟩

set_option linter.unusedVariables false
set_option linter.unusedSimpArgs false

/-! ### impl_isLong: function 44 -/
def impl_isLong.l0 : Nat → List ByteArray → Int → Int → Option (Bool)
  | 0, _, _, _ => none
  | k + 1, x5, x6, x7 => if x7 < x6 then (if 0 ≤ x7 then (if x7 < (x5.length : Int) then (if ((rdOf ByteArray.empty x5 x7).size : Int) > 8000 then (some true) else (impl_isLong.l0 k x5 x6 (wrap64 (x7 + 1)))) else (none)) else (none)) else (some false)
def impl_isLong.f (k : Nat) (l0 : List ByteArray) : Option (Bool) := impl_isLong.l0 k l0 (l0.length : Int) 0
theorem impl_isLong.mono_l : ∀ k, (∀ y0 y1 y2, LeO (impl_isLong.l0 k y0 y1 y2) (impl_isLong.l0 (k + 1) y0 y1 y2))
  | 0 => fun _ _ _ r h => by simp [impl_isLong.l0] at h
  | k + 1 => by
    have ih0 := impl_isLong.mono_l k
    · intro y0 y1 y2; unfold impl_isLong.l0; repeat' first
      | (with_reducible exact ih0 _ _ _)
      | (with_reducible exact LeO.refl _)
      | (with_reducible exact LeO.none _)
      | (with_reducible refine LeO.ite ?_ ?_)
      | (with_reducible refine LeO.bind ?_ (fun _ => ?_))
theorem impl_isLong.mono : ∀ a0 k, LeO (impl_isLong.f k a0) (impl_isLong.f (k + 1) a0) := by
  intro a0 k; have ih0 := impl_isLong.mono_l k; unfold impl_isLong.f; repeat' first
      | (with_reducible exact ih0 _ _ _)
      | (with_reducible exact LeO.refl _)
      | (with_reducible exact LeO.none _)
      | (with_reducible refine LeO.ite ?_ ?_)
      | (with_reducible refine LeO.bind ?_ (fun _ => ?_))
set_option maxHeartbeats 8000000 in
set_option maxRecDepth 100000 in
theorem impl_isLong.calls (k : Nat) (A0 : Option Addr) (c0 : Nat) (l0 : List ByteArray) (r : Bool) (w : World) (hr0 : Kd.C Kd.string w A0 l0.length l0) (hc0 : l0.length ≤ c0) (h : impl_isLong.f k l0 = some r) :
    Calls Try.prog 44 #[.slice A0 l0.length c0] w fun e w' => e = .returned (.bool r) ∧ Drawn0 w w' := by
  have HR0 := Aside0.mk hr0; have HC0 := Aside0.mk hc0; clear hr0 hc0; have H : (impl_isLong.l0 k l0 (l0.length : Int) 0) = some r := h; clear h; have H' := Aside0.mk H; clear H; go_enter Try.func44, Try.ntmps44; go_wp2; go_loopg [7] k (fun kq v7 w' => ∃ (x7_1 : Int), v7 = .int .i64 x7_1 ∧ Aside0 (impl_isLong.l0 kq l0 (l0.length : Int) x7_1 = some r) ∧ Aside0 (kq ≤ k) ∧ Drawn0 w w')
  case atStart => exact ⟨(0), (by first | rfl | (simp; done) | (simp [*]; done)), H', ⟨Nat.le_refl _⟩, by repeat (first | exact Drawn0.refl _ | apply Drawn0.step)⟩
  case round =>
    clear H'; obtain ⟨x7_1, rfl, HA, HK1, ⟨m1, rfl⟩⟩ := hrel; cases gk with
    | zero => exact absurd HA.out (by simp [impl_isLong.l0])
    | succ k1 =>
      have H := HA.out; clear HA; simp only [impl_isLong.l0] at H; by_cases c2 : x7_1 < (l0.length : Int)
      · rw [if_pos c2] at H; have c2b0 : decide (x7_1 < (l0.length : Int)) = true := decide_eq_true c2; clear c2; by_cases c3 : 0 ≤ x7_1
        · rw [if_pos c3] at H; have c3b0 : decide (0 ≤ x7_1) = true := decide_eq_true c3; clear c3; by_cases c4 : x7_1 < (l0.length : Int)
          · rw [if_pos c4] at H; have c4b0 : decide (x7_1 < (l0.length : Int)) = true := decide_eq_true c4; clear c4; by_cases c5 : ((rdOf ByteArray.empty l0 x7_1).size : Int) > 8000
            · rw [if_pos c5] at H; have c5b0 : decide (8000 < ((rdOf ByteArray.empty l0 x7_1).size : Int)) = true := decide_eq_true c5; have c5b1 : decide (8000 < (rdOf ByteArray.empty l0 x7_1).size) = true := decide_eq_true (by omega); clear c5; obtain rfl := Option.some.inj H; have p184 : 0 ≤ (x7_1 : Int) := of_decide_eq_true Da; have q184 : x7_1 < (l0.length : Int) := of_decide_eq_true Da; obtain ⟨ad184, e184, hx184_0⟩ := Kd.at_string HR0.out x7_1 p184 q184; cases e184
              replace p184 := eq_true p184; replace q184 := eq_true q184; go_wp2; go_ret; exact ⟨by first | rfl | (simp; done) | (simp [*]; done), by repeat (first | exact Drawn0.refl _ | apply Drawn0.step)⟩
            · rw [if_neg c5] at H; have c5b0 : decide (8000 < ((rdOf ByteArray.empty l0 x7_1).size : Int)) = false := decide_eq_false c5; have c5b1 : decide (8000 < (rdOf ByteArray.empty l0 x7_1).size) = false := decide_eq_false (by omega); clear c5; have H' := Aside0.mk H; clear H; have p184 : 0 ≤ (x7_1 : Int) := of_decide_eq_true Da; have q184 : x7_1 < (l0.length : Int) := of_decide_eq_true Da; obtain ⟨ad184, e184, hx184_0⟩ := Kd.at_string HR0.out x7_1 p184 q184; cases e184
              replace p184 := eq_true p184; replace q184 := eq_true q184; go_wp2; go_roundg k1
              case measure => have := HK1.out; omega
              case rel => exact ⟨(wrap64 (x7_1 + 1)), (by first | rfl | (simp; done) | (simp [*]; done)), H', ⟨by have := HK1.out; omega⟩, by repeat (first | exact Drawn0.refl _ | apply Drawn0.step)⟩
          · rw [if_neg c4] at H; exact absurd H (by simp)
        · rw [if_neg c3] at H; exact absurd H (by simp)
      · rw [if_neg c2] at H; have c2b0 : decide (x7_1 < (l0.length : Int)) = false := decide_eq_false c2; clear c2; obtain rfl := Option.some.inj H; go_wp2; go_ret; exact ⟨by first | rfl | (simp; done) | (simp [*]; done), by repeat (first | exact Drawn0.refl _ | apply Drawn0.step)⟩

set_option linter.unusedVariables false
set_option linter.unusedSimpArgs false

/-! ### impl_berGet: function 45 -/
mutual
def impl_berGet.j0 : Nat → ByteArray → Int → Option (Int × ByteArray × Int × Int)
  | 0, _, _ => none
  | k + 1, x0, x1 => if 0 ≤ x1 then (if x1 ≤ (x0.size : Int) then (if (x0.extract (x1 : Int).toNat x0.size).toList = ([] : List UInt8) then (some (0, (⟨#[]⟩ : ByteArray), 0, 4)) else (if 0 < ((x0.extract (x1 : Int).toNat x0.size).size : Int) then ((impl_isTag.f (wrap64 (bt (x0.extract (x1 : Int).toNat x0.size) 0))).bind fun t186 => (if t186 = true then (if ((x0.extract (x1 : Int).toNat x0.size).size : Int) < 2 then (some (0, (⟨#[]⟩ : ByteArray), 0, 4)) else (if 1 < ((x0.extract (x1 : Int).toNat x0.size).size : Int) then (if (wrap64 (bt (x0.extract (x1 : Int).toNat x0.size) 1)) ≥ 128 then (if (wrap64 (bt (x0.extract (x1 : Int).toNat x0.size) 1)) = 129 then (impl_berGet.j1 k x1 (x0.extract (x1 : Int).toNat x0.size) (wrap64 (bt (x0.extract (x1 : Int).toNat x0.size) 1)) false) else (impl_berGet.j1 k x1 (x0.extract (x1 : Int).toNat x0.size) (wrap64 (bt (x0.extract (x1 : Int).toNat x0.size) 1)) ((wrap64 (bt (x0.extract (x1 : Int).toNat x0.size) 1)) != 130))) else (impl_berGet.j3 k x1 (x0.extract (x1 : Int).toNat x0.size) 2 (wrap64 (bt (x0.extract (x1 : Int).toNat x0.size) 1)))) else (none))) else (some (0, (⟨#[]⟩ : ByteArray), 0, 3)))) else (none))) else (none)) else (none)
def impl_berGet.j3 : Nat → Int → ByteArray → Int → Int → Option (Int × ByteArray × Int × Int)
  | 0, _, _, _, _ => none
  | k + 1, x1, x5, x6, x7 => if x7 > 4000 then (impl_berGet.j4 k x1 x5 x6 x7 true) else ((impl_berLength.f x7).bind fun t187 => (if 1 ≤ x6 then (if x6 ≤ (x5.size : Int) then (impl_berGet.j4 k x1 x5 x6 x7 (t187.toList != (x5.extract 1 (x6 : Int).toNat).toList)) else (none)) else (none)))
def impl_berGet.j4 : Nat → Int → ByteArray → Int → Int → Bool → Option (Int × ByteArray × Int × Int)
  | 0, _, _, _, _, _ => none
  | k + 1, x1, x5, x6, x7, x63 => if x63 = true then (some (0, (⟨#[]⟩ : ByteArray), 0, 3)) else (if (x5.size : Int) < (wrap64 (x6 + x7)) then (some (0, (⟨#[]⟩ : ByteArray), 0, 4)) else (if 0 < (x5.size : Int) then (if 0 ≤ x6 then (if x6 ≤ (wrap64 (x6 + x7)) then (if (wrap64 (x6 + x7)) ≤ (x5.size : Int) then (some (wrap64 (bt x5 0), x5.extract (x6 : Int).toNat ((wrap64 (x6 + x7)) : Int).toNat, wrap64 (x1 + (wrap64 (x6 + x7))), 0)) else (none)) else (none)) else (none)) else (none)))
def impl_berGet.j1 : Nat → Int → ByteArray → Int → Bool → Option (Int × ByteArray × Int × Int)
  | 0, _, _, _, _ => none
  | k + 1, x1, x5, x7, x41 => if x41 = true then (some (0, (⟨#[]⟩ : ByteArray), 0, 3)) else (if (x5.size : Int) < (wrap64 ((wrap64 (2 + x7)) - 128)) then (some (0, (⟨#[]⟩ : ByteArray), 0, 4)) else (impl_berGet.l0 k x1 x5 (wrap64 ((wrap64 (2 + x7)) - 128)) 0 2))
def impl_berGet.l0 : Nat → Int → ByteArray → Int → Int → Int → Option (Int × ByteArray × Int × Int)
  | 0, _, _, _, _, _ => none
  | k + 1, x1, x5, x6, x7, x8 => if x8 < x6 then (if 0 ≤ x8 then (if x8 < (x5.size : Int) then (impl_berGet.l0 k x1 x5 x6 (Go.bits .or .i64 (wrap64 (x7 * 256)) (wrap64 (bt x5 x8))) (wrap64 (x8 + 1))) else (none)) else (none)) else (impl_berGet.j3 k x1 x5 x6 x7)
end
def impl_berGet.f (k : Nat) (a0 : ByteArray) (a1 : Int) : Option (Int × ByteArray × Int × Int) := if a1 > (a0.size : Int) then (impl_berGet.j0 k a0 (a0.size : Int)) else (impl_berGet.j0 k a0 a1)
theorem impl_berGet.mono_l : ∀ k, (∀ y0 y1, LeO (impl_berGet.j0 k y0 y1) (impl_berGet.j0 (k + 1) y0 y1)) ∧ (∀ y0 y1 y2 y3, LeO (impl_berGet.j3 k y0 y1 y2 y3) (impl_berGet.j3 (k + 1) y0 y1 y2 y3)) ∧ (∀ y0 y1 y2 y3 y4, LeO (impl_berGet.j4 k y0 y1 y2 y3 y4) (impl_berGet.j4 (k + 1) y0 y1 y2 y3 y4)) ∧ (∀ y0 y1 y2 y3, LeO (impl_berGet.j1 k y0 y1 y2 y3) (impl_berGet.j1 (k + 1) y0 y1 y2 y3)) ∧ (∀ y0 y1 y2 y3 y4, LeO (impl_berGet.l0 k y0 y1 y2 y3 y4) (impl_berGet.l0 (k + 1) y0 y1 y2 y3 y4))
  | 0 => ⟨fun _ _ r h => by simp [impl_berGet.j0] at h, fun _ _ _ _ r h => by simp [impl_berGet.j3] at h, fun _ _ _ _ _ r h => by simp [impl_berGet.j4] at h, fun _ _ _ _ r h => by simp [impl_berGet.j1] at h, fun _ _ _ _ _ r h => by simp [impl_berGet.l0] at h⟩
  | k + 1 => by
    obtain ⟨ih0, ih1, ih2, ih3, ih4⟩ := impl_berGet.mono_l k; refine ⟨?_, ?_, ?_, ?_, ?_⟩
    · intro y0 y1; unfold impl_berGet.j0; repeat' first
      | (with_reducible exact ih0 _ _)
      | (with_reducible exact ih1 _ _ _ _)
      | (with_reducible exact ih2 _ _ _ _ _)
      | (with_reducible exact ih3 _ _ _ _)
      | (with_reducible exact ih4 _ _ _ _ _)
      | (with_reducible exact LeO.refl _)
      | (with_reducible exact LeO.none _)
      | (with_reducible refine LeO.ite ?_ ?_)
      | (with_reducible refine LeO.bind ?_ (fun _ => ?_))
    · intro y0 y1 y2 y3; unfold impl_berGet.j3; repeat' first
      | (with_reducible exact ih0 _ _)
      | (with_reducible exact ih1 _ _ _ _)
      | (with_reducible exact ih2 _ _ _ _ _)
      | (with_reducible exact ih3 _ _ _ _)
      | (with_reducible exact ih4 _ _ _ _ _)
      | (with_reducible exact LeO.refl _)
      | (with_reducible exact LeO.none _)
      | (with_reducible refine LeO.ite ?_ ?_)
      | (with_reducible refine LeO.bind ?_ (fun _ => ?_))
    · intro y0 y1 y2 y3 y4; unfold impl_berGet.j4; repeat' first
      | (with_reducible exact ih0 _ _)
      | (with_reducible exact ih1 _ _ _ _)
      | (with_reducible exact ih2 _ _ _ _ _)
      | (with_reducible exact ih3 _ _ _ _)
      | (with_reducible exact ih4 _ _ _ _ _)
      | (with_reducible exact LeO.refl _)
      | (with_reducible exact LeO.none _)
      | (with_reducible refine LeO.ite ?_ ?_)
      | (with_reducible refine LeO.bind ?_ (fun _ => ?_))
    · intro y0 y1 y2 y3; unfold impl_berGet.j1; repeat' first
      | (with_reducible exact ih0 _ _)
      | (with_reducible exact ih1 _ _ _ _)
      | (with_reducible exact ih2 _ _ _ _ _)
      | (with_reducible exact ih3 _ _ _ _)
      | (with_reducible exact ih4 _ _ _ _ _)
      | (with_reducible exact LeO.refl _)
      | (with_reducible exact LeO.none _)
      | (with_reducible refine LeO.ite ?_ ?_)
      | (with_reducible refine LeO.bind ?_ (fun _ => ?_))
    · intro y0 y1 y2 y3 y4; unfold impl_berGet.l0; repeat' first
      | (with_reducible exact ih0 _ _)
      | (with_reducible exact ih1 _ _ _ _)
      | (with_reducible exact ih2 _ _ _ _ _)
      | (with_reducible exact ih3 _ _ _ _)
      | (with_reducible exact ih4 _ _ _ _ _)
      | (with_reducible exact LeO.refl _)
      | (with_reducible exact LeO.none _)
      | (with_reducible refine LeO.ite ?_ ?_)
      | (with_reducible refine LeO.bind ?_ (fun _ => ?_))
theorem impl_berGet.mono : ∀ a0 a1 k, LeO (impl_berGet.f k a0 a1) (impl_berGet.f (k + 1) a0 a1) := by
  intro a0 a1 k; obtain ⟨ih0, ih1, ih2, ih3, ih4⟩ := impl_berGet.mono_l k; unfold impl_berGet.f; repeat' first
      | (with_reducible exact ih0 _ _)
      | (with_reducible exact ih1 _ _ _ _)
      | (with_reducible exact ih2 _ _ _ _ _)
      | (with_reducible exact ih3 _ _ _ _)
      | (with_reducible exact ih4 _ _ _ _ _)
      | (with_reducible exact LeO.refl _)
      | (with_reducible exact LeO.none _)
      | (with_reducible refine LeO.ite ?_ ?_)
      | (with_reducible refine LeO.bind ?_ (fun _ => ?_))
def impl_berGet.T21 : Bool × List (List Nat × List Nat) := (true, [([], []), ([0], [0]), ([1], [1]), ([2], [2]), ([3, 2, 2], [2, 3]), ([2], [2]), ([2], [2]), ([5, 6, 2], [2, 5, 6]), ([4, 7, 2], [2, 4, 7]), ([2, 8], [2, 8]), ([9, 4], [9])])
def impl_berGet.B21 : List Nat := [0, 1, 3, 7, 15, 7, 7, 103, 255, 511, 1023]
theorem impl_berGet.tab21 : rtab .any (opsOf Try.f45 21) = impl_berGet.T21 := by kernel_rfl
theorem impl_berGet.bits21 : waitsOk impl_berGet.T21.2 impl_berGet.B21 = true := by kernel_rfl
def impl_berGet.T25 : Bool × List (List Nat × List Nat) := (true, [([], []), ([0], [0]), ([1], [1]), ([], []), ([], []), ([], []), ([], []), ([5, 6], [5, 6]), ([3, 4, 7], [3, 4, 7]), ([2, 8], [2, 8]), ([], []), ([], []), ([], []), ([11, 12], [11, 12]), ([10, 13], [10, 13]), ([9, 14], [9, 14]), ([15, 0, 1, 2, 3, 4, 5, 6, 7, 8, 9, 10, 11, 12, 13, 14, 15], [15])])
def impl_berGet.B25 : List Nat := [0, 1, 3, 0, 0, 0, 0, 96, 248, 511, 0, 0, 0, 6144, 15360, 32767, 65535]
theorem impl_berGet.tab25 : rtab .any (opsOf Try.f45 25) = impl_berGet.T25 := by kernel_rfl
theorem impl_berGet.bits25 : waitsOk impl_berGet.T25.2 impl_berGet.B25 = true := by kernel_rfl
attribute [-simp] ByteArray.size_extract
set_option maxHeartbeats 8000000 in
set_option maxRecDepth 100000 in
theorem impl_berGet.calls (k : Nat) (a0 : ByteArray) (a1 : Int) (r1 : Int) (r2 : ByteArray) (r3 : Int) (r4 : Int) (w : World) (h : impl_berGet.f k a0 a1 = some (r1, r2, r3, r4)) :
    Calls Try.prog 45 #[.string a0, .int .i64 a1] w fun e w' => e = .returned (.agg #[.int .i64 r1, .string r2, .int .i64 r3, .int .i64 r4]) ∧ Below w.heap.size w w' := by
  have hu29 := Try.underlying29; have hu27 := Try.underlying27; have HB := Aside0.mk (Below.refl w.heap.size w); have H : (if a1 > (a0.size : Int) then (impl_berGet.j0 k a0 (a0.size : Int)) else (impl_berGet.j0 k a0 a1)) = some (r1, r2, r3, r4) := h; clear h; have HC3 := Aside0.mk H; clear H; go_enter Try.func45, Try.ntmps45; go_upto_if 12 with (first | ((with_reducible refine gate_dst (N := 4) rfl ?_); refine box_event ?hg (N := 4) ?hd (cs := #[.int .i64 0, .string (⟨#[]⟩ : ByteArray), .int .i64 0, .int .i64 0]) (t := 29) ?hr ?_; (case hd => rfl); (case hg => rfl); (case hr => first | (go_simp; done) | (go_simp; rfl)); intro gb185 hg w4 hbox hb; have n_ := aa (below_step By hb) <| aa (hbox) <| aa ((by rw [hg]; exact (below_size By) : w.heap.size ≤ gb185)) <| Aside0.mk ((by rw [hg]; exact (below_size By) : w.heap.size ≤ gb185)); clear HB; obtain ⟨HB, BK185, GW185, GE185⟩ := n_; clear hb hbox hg)); (try simp only [Act.put, List.setIfInBounds_toArray, List.set_cons_zero, List.set_cons_succ]); go_cut [1] (fun v1 wc => ∃ (kq : Nat) (x1_2 : Int), v1 = .int .i64 x1_2 ∧ Aside0 (impl_berGet.j0 kq a0 x1_2 = some (r1, r2, r3, r4)) ∧ Aside0 (kq ≤ k) ∧ Aside0 (wc.heap[gb185]? = some (.cells #[.int .i64 0, .string (⟨#[]⟩ : ByteArray), .int .i64 0, .int .i64 0] 29 (0, 0))) ∧ Aside0 (Below w.heap.size w wc))
  case first =>
    have H := HC3.out; clear HC3; by_cases c5 : a1 > (a0.size : Int)
    · rw [if_pos c5] at H; have c5b0 : decide ((a0.size : Int) < a1) = true := decide_eq_true c5; clear c5; (first | rw [c5b0] | (simp only [i64_w, i32_w]; rw [c5b0]) | skip); have H' := Aside0.mk H; clear H; go_wp2; go_meet
      case rel => exact ⟨_, ((a0.size : Int)), (by first | rfl | (simp; done) | (simp [*]; done)), H', ⟨by first | omega | exact Nat.le_refl _⟩, ⟨by (with_reducible repeat (first | refine blk_drewN ?_ _ | refine blk_drew ?_ | refine blk_alloc ?_ _)); exact BK185.out⟩, ⟨By⟩⟩
    · rw [if_neg c5] at H; have c5b0 : decide ((a0.size : Int) < a1) = false := decide_eq_false c5; clear c5; (first | rw [c5b0] | (simp only [i64_w, i32_w]; rw [c5b0]) | skip); have H' := Aside0.mk H; clear H; go_wp2; go_meet
      case rel => exact ⟨_, (a1), (by first | rfl | (simp; done) | (simp [*]; done)), H', ⟨by first | omega | exact Nat.le_refl _⟩, ⟨by (with_reducible repeat (first | refine blk_drewN ?_ _ | refine blk_drew ?_ | refine blk_alloc ?_ _)); exact BK185.out⟩, ⟨By⟩⟩
  case rest =>
    clear HC3; try clear p2
    try clear c4
    try clear c5
    try clear c5b0
    obtain ⟨kq, x1_2, rfl, HA, HJ2, BK185, HB⟩ := hcut; cases kq with
    | zero => exact absurd HA.out (by simp [impl_berGet.j0])
    | succ kj2 =>
      have H := HA.out; clear HA; simp only [impl_berGet.j0] at H; by_cases c6 : 0 ≤ x1_2
      · rw [if_pos c6] at H; have c6b0 := eq_true c6; have c6b1 : decide (0 ≤ x1_2) = true := decide_eq_true c6; clear c6; by_cases c7 : x1_2 ≤ (a0.size : Int)
        · rw [if_pos c7] at H; have c7b0 := eq_true c7; have c7b1 : decide (x1_2 ≤ (a0.size : Int)) = true := decide_eq_true c7; clear c7; by_cases c8 : (a0.extract (x1_2 : Int).toNat a0.size).toList = ([] : List UInt8)
          · rw [if_pos c8] at H; have c8b0 : ((a0.extract (x1_2 : Int).toNat a0.size).toList == ([] : List UInt8)) = true := beq_iff_eq.mpr c8; have c8b1 : ((a0.extract (x1_2 : Int).toNat a0.size).toList != ([] : List UInt8)) = false := bne_eq_false_iff_eq.mpr c8; clear c8; simp only [Option.some.injEq, Prod.mk.injEq] at H; obtain ⟨rfl, rfl, rfl, rfl⟩ := H; have hcz9_0 : wc.cell? ⟨gb185, 0, none⟩ = some (.int .i64 0) := bc BK185.out 0; have hcz9_1 : wc.cell? ⟨gb185, 1, none⟩ = some (.string (⟨#[]⟩ : ByteArray)) := bc BK185.out 1; have hcz9_2 : wc.cell? ⟨gb185, 2, none⟩ = some (.int .i64 0) := bc BK185.out 2; have hcz9_3 : wc.cell? ⟨gb185, 3, none⟩ = some (.int .i64 0) := bc BK185.out 3; have hfz9_0 := blk_frozen BK185.out 0; have hfz9_1 := blk_frozen BK185.out 1; have hfz9_2 := blk_frozen BK185.out 2; have hfz9_3 := blk_frozen BK185.out 3; go_wp2; refine bodyPost_ret (results_cell_row rfl _ _ gb185 29 #[.int .i64 0, .string (⟨#[]⟩ : ByteArray), .int .i64 0, .int .i64 4] (0, 0) _ rfl (pq4 Pk) Try.underlying29 rfl (by kernel_rfl)) rfl ?_; exact ⟨Rf, By⟩
          · rw [if_neg c8] at H; have c8b0 : ((a0.extract (x1_2 : Int).toNat a0.size).toList == ([] : List UInt8)) = false := beq_eq_false_iff_ne.mpr c8; have c8b1 : ((a0.extract (x1_2 : Int).toNat a0.size).toList != ([] : List UInt8)) = true := bne_iff_ne.mpr c8; by_cases c10 : 0 < ((a0.extract (x1_2 : Int).toNat a0.size).size : Int)
            · rw [if_pos c10] at H; have c10b0 : decide (0 < ((a0.extract (x1_2 : Int).toNat a0.size).size : Int)) = true := decide_eq_true c10; have c10b1 : decide (0 < (a0.extract (x1_2 : Int).toNat a0.size).size) = true := decide_eq_true (by omega); clear c10; replace H := Option.bind_eq_some_iff.mp H; obtain ⟨t186, A120, H⟩ := H; replace H : (if t186 = true then (if ((a0.extract (x1_2 : Int).toNat a0.size).size : Int) < 2 then (some (0, (⟨#[]⟩ : ByteArray), 0, 4)) else (if 1 < ((a0.extract (x1_2 : Int).toNat a0.size).size : Int) then (if (wrap64 (bt (a0.extract (x1_2 : Int).toNat a0.size) 1)) ≥ 128 then (if (wrap64 (bt (a0.extract (x1_2 : Int).toNat a0.size) 1)) = 129 then (impl_berGet.j1 kj2 x1_2 (a0.extract (x1_2 : Int).toNat a0.size) (wrap64 (bt (a0.extract (x1_2 : Int).toNat a0.size) 1)) false) else (impl_berGet.j1 kj2 x1_2 (a0.extract (x1_2 : Int).toNat a0.size) (wrap64 (bt (a0.extract (x1_2 : Int).toNat a0.size) 1)) ((wrap64 (bt (a0.extract (x1_2 : Int).toNat a0.size) 1)) != 130))) else (impl_berGet.j3 kj2 x1_2 (a0.extract (x1_2 : Int).toNat a0.size) 2 (wrap64 (bt (a0.extract (x1_2 : Int).toNat a0.size) 1)))) else (none))) else (some (0, (⟨#[]⟩ : ByteArray), 0, 3))) = some (r1, r2, r3, r4) := H; have A12 := Aside0.mk A120; clear A120; by_cases c13 : t186 = true
              · subst c13; have H1 : (if ((a0.extract (x1_2 : Int).toNat a0.size).size : Int) < 2 then (some (0, (⟨#[]⟩ : ByteArray), 0, 4)) else (if 1 < ((a0.extract (x1_2 : Int).toNat a0.size).size : Int) then (if (wrap64 (bt (a0.extract (x1_2 : Int).toNat a0.size) 1)) ≥ 128 then (if (wrap64 (bt (a0.extract (x1_2 : Int).toNat a0.size) 1)) = 129 then (impl_berGet.j1 kj2 x1_2 (a0.extract (x1_2 : Int).toNat a0.size) (wrap64 (bt (a0.extract (x1_2 : Int).toNat a0.size) 1)) false) else (impl_berGet.j1 kj2 x1_2 (a0.extract (x1_2 : Int).toNat a0.size) (wrap64 (bt (a0.extract (x1_2 : Int).toNat a0.size) 1)) ((wrap64 (bt (a0.extract (x1_2 : Int).toNat a0.size) 1)) != 130))) else (impl_berGet.j3 kj2 x1_2 (a0.extract (x1_2 : Int).toNat a0.size) 2 (wrap64 (bt (a0.extract (x1_2 : Int).toNat a0.size) 1)))) else (none))) = some (r1, r2, r3, r4) := by rw [if_pos rfl] at H; exact H
                clear H; have H := H1; clear H1; by_cases c14 : ((a0.extract (x1_2 : Int).toNat a0.size).size : Int) < 2
                · rw [if_pos c14] at H; have c14b0 : decide (((a0.extract (x1_2 : Int).toNat a0.size).size : Int) < 2) = true := decide_eq_true c14; have c14b1 : decide ((a0.extract (x1_2 : Int).toNat a0.size).size < 2) = true := decide_eq_true (by omega); clear c14; simp only [Option.some.injEq, Prod.mk.injEq] at H; obtain ⟨rfl, rfl, rfl, rfl⟩ := H; have p11 : 0 ≤ (0 : Int) := (by omega); have q11 : 0 < (a0.extract (x1_2 : Int).toNat a0.size).size := (by have : (0 : Int) < ((a0.extract (x1_2 : Int).toNat a0.size).size : Int) := of_decide_eq_true Da; omega); have hx11 : ∀ h : 0 < (a0.extract (x1_2 : Int).toNat a0.size).size, (((a0.extract (x1_2 : Int).toNat a0.size)[0]'h).toNat : Int) = bt (a0.extract (x1_2 : Int).toNat a0.size) 0 := bt_at (a0.extract (x1_2 : Int).toNat a0.size) 0; clear p11; have qi11 : (0 < ((a0.extract (x1_2 : Int).toNat a0.size).size : Int)) = True := eq_true (of_decide_eq_true Da); replace q11 := eq_true q11; go_wp2_with (first | ((with_reducible refine gate_callee (f := 40) rfl ?_); refine goesL_ (some 24) rfl rfl Try.func40 (by kernel_rfl) rfl #[.int .i64 (wrap64 (bt (a0.extract (x1_2 : Int).toNat a0.size) 0))] rfl Ag ?_; (with_reducible refine (impl_isTag.calls (wrap64 (bt (a0.extract (x1_2 : Int).toNat a0.size) 0)) true _ A12.out).mono ?_); rintro e w' ⟨rfl, ⟨nd, rfl⟩⟩; refine ⟨_, rfl, ?_⟩; (try (rw [drewN_self wc]; generalize hq_ : World.drewN wc _ = wc; have n0_ : Aside0 (wc.heap[gb185]? = some (.cells #[.int .i64 0, .string (⟨#[]⟩ : ByteArray), .int .i64 0, .int .i64 0] 29 (0, 0))) := ⟨by rw [← hq_]; exact Pk⟩; have n1_ : Aside0 (Below w.heap.size w wc) := ⟨by rw [← hq_]; exact By⟩; clear BK185 HB hq_; have BK185 := n0_; have HB := n1_; clear n0_ n1_)); have ⟨hcz15_0, hcz15_1, hcz15_2, hcz15_3⟩ := cq4 BK185.out; have ⟨hfz15_0, hfz15_1, hfz15_2, hfz15_3⟩ := fq4 BK185.out)); refine bodyPost_ret (results_cell_row rfl _ _ gb185 29 #[.int .i64 0, .string (⟨#[]⟩ : ByteArray), .int .i64 0, .int .i64 4] (0, 0) _ rfl (pq4 Pk) Try.underlying29 rfl (by kernel_rfl)) rfl ?_; exact ⟨Rf, By⟩
                · rw [if_neg c14] at H; have c14b0 : decide (((a0.extract (x1_2 : Int).toNat a0.size).size : Int) < 2) = false := decide_eq_false c14; have c14b1 : decide ((a0.extract (x1_2 : Int).toNat a0.size).size < 2) = false := decide_eq_false (by omega); clear c14; by_cases c16 : 1 < ((a0.extract (x1_2 : Int).toNat a0.size).size : Int)
                  · rw [if_pos c16] at H; have c16b0 : decide (1 < ((a0.extract (x1_2 : Int).toNat a0.size).size : Int)) = true := decide_eq_true c16; have c16b1 : decide (1 < (a0.extract (x1_2 : Int).toNat a0.size).size) = true := decide_eq_true (by omega); clear c16; have HC18 := Aside0.mk H; clear H; have p11 : 0 ≤ (0 : Int) := (by omega); have q11 : 0 < (a0.extract (x1_2 : Int).toNat a0.size).size := (by have : (0 : Int) < ((a0.extract (x1_2 : Int).toNat a0.size).size : Int) := of_decide_eq_true Da; omega); have hx11 : ∀ h : 0 < (a0.extract (x1_2 : Int).toNat a0.size).size, (((a0.extract (x1_2 : Int).toNat a0.size)[0]'h).toNat : Int) = bt (a0.extract (x1_2 : Int).toNat a0.size) 0 := bt_at (a0.extract (x1_2 : Int).toNat a0.size) 0; clear p11; have qi11 : (0 < ((a0.extract (x1_2 : Int).toNat a0.size).size : Int)) = True := eq_true (of_decide_eq_true Da); replace q11 := eq_true q11; try go_wp2_with (first | ((with_reducible refine gate_callee (f := 40) rfl ?_); refine goesL_ (some 24) rfl rfl Try.func40 (by kernel_rfl) rfl #[.int .i64 (wrap64 (bt (a0.extract (x1_2 : Int).toNat a0.size) 0))] rfl Ag ?_; (with_reducible refine (impl_isTag.calls (wrap64 (bt (a0.extract (x1_2 : Int).toNat a0.size) 0)) true _ A12.out).mono ?_); rintro e w' ⟨rfl, ⟨nd, rfl⟩⟩; refine ⟨_, rfl, ?_⟩))
                    (try (rw [drewN_self wc]; generalize hq_ : World.drewN wc _ = wc; have n0_ : Aside0 (wc.heap[gb185]? = some (.cells #[.int .i64 0, .string (⟨#[]⟩ : ByteArray), .int .i64 0, .int .i64 0] 29 (0, 0))) := ⟨by rw [← hq_]; exact Pk⟩; have n1_ : Aside0 (Below w.heap.size w wc) := ⟨by rw [← hq_]; exact By⟩; clear BK185 HB hq_; have BK185 := n0_; have HB := n1_; clear n0_ n1_)); have n_ := aa (blk_drew BK185.out) <| Aside0.mk (below_drew1 HB.out); clear BK185 HB; obtain ⟨BK185, HB⟩ := n_; have p17 : 0 ≤ (1 : Int) := (by omega); have q17 : 1 < (a0.extract (x1_2 : Int).toNat a0.size).size := (by have : (1 : Int) < ((a0.extract (x1_2 : Int).toNat a0.size).size : Int) := of_decide_eq_true Da; omega); have hx17 : ∀ h : 1 < (a0.extract (x1_2 : Int).toNat a0.size).size, (((a0.extract (x1_2 : Int).toNat a0.size)[1]'h).toNat : Int) = bt (a0.extract (x1_2 : Int).toNat a0.size) 1 := bt_at (a0.extract (x1_2 : Int).toNat a0.size) 1; clear p17; have qi17 : (1 < ((a0.extract (x1_2 : Int).toNat a0.size).size : Int)) = True := eq_true (of_decide_eq_true Da); replace q17 := eq_true q17; refine start_ (n := 5) (S := fun w' => True) (ds := []) (bv 5 0) (by kernel_rfl) rfl rfl trivial (fun hHeld => ?_); generalize wc.drew = w19 at BK185 HB hHeld ⊢; refine pure_ (i := 0) (N := some 31) (v := ?_) (a' := ?_) (bv 5 1) rfl rfl (by kernel_rfl) (fun _ _ _ h => h) (Or.inl ⟨by rfl, ?_⟩) ?_ ?_; rotate_left
                    · intro w'; go_simp; with_reducible rfl
                    rotate_left
                    · simp only [Act.put, List.setIfInBounds_toArray, List.set_cons_zero, List.set_cons_succ, i64_w, i32_w]; rfl
                    refine pure_ (i := 3) (N := some 6) (v := ?_) (a' := ?_) (bv 5 9) rfl rfl (by kernel_rfl) (fun _ _ _ h => h) (Or.inl ⟨by rfl, ?_⟩) ?_ ?_; rotate_left
                    · intro w'; go_simp; with_reducible rfl
                    rotate_left
                    · simp only [Act.put, List.setIfInBounds_toArray, List.set_cons_zero, List.set_cons_succ, i64_w, i32_w]; rfl
                    refine take_ (i := 1) (N := some 32) (v := ?_) (a' := ?_) (bv 5 11) rfl rfl (by kernel_rfl) (fun _ _ _ h => h) (Or.inl ⟨by rfl, ?_⟩) hHeld ?_ ?_; rotate_left
                    · intro w' _; go_simp; with_reducible rfl
                    rotate_left
                    · simp only [Act.put, List.setIfInBounds_toArray, List.set_cons_zero, List.set_cons_succ, i64_w, i32_w]; rfl
                    refine pure_ (i := 2) (N := some 33) (v := ?_) (a' := ?_) (bv 5 15) rfl rfl (by kernel_rfl) (fun _ _ _ h => h) (Or.inl ⟨by rfl, ?_⟩) ?_ ?_; rotate_left
                    · intro w'; go_simp; with_reducible rfl
                    rotate_left
                    · simp only [Act.put, List.setIfInBounds_toArray, List.set_cons_zero, List.set_cons_succ, i64_w, i32_w]; rfl
                    refine pure_ (i := 4) (N := some 7) (v := ?_) (a' := ?_) (bv 5 31) rfl rfl (by kernel_rfl) (fun _ _ _ h => h) (Or.inl ⟨by rfl, ?_⟩) ?_ ?_; rotate_left
                    · intro w'; go_simp; with_reducible rfl
                    rotate_left
                    · simp only [Act.put, List.setIfInBounds_toArray, List.set_cons_zero, List.set_cons_succ, i64_w, i32_w]; rfl
                    refine done_ (by kernel_rfl) ?_; go_upto_if 35 with (fail); go_cut [6, 7] (fun v6 v7 wc => ∃ (kq : Nat) (x6_17 : Int) (x7_17 : Int) (x186000_17 : Int) (x186001_17 : ByteArray) (x186002_17 : Int) (x186003_17 : Int), v6 = .int .i64 x6_17 ∧ v7 = .int .i64 x7_17 ∧ Aside0 (impl_berGet.j3 kq x1_2 (a0.extract (x1_2 : Int).toNat a0.size) x6_17 x7_17 = some (r1, r2, r3, r4)) ∧ Aside0 (kq ≤ kj2) ∧ Aside0 (wc.heap[gb185]? = some (.cells #[.int .i64 x186000_17, .string x186001_17, .int .i64 x186002_17, .int .i64 x186003_17] 29 (0, 0))) ∧ Aside0 (Below w.heap.size w wc))
                    case first =>
                      have H := HC18.out; clear HC18; by_cases c20 : (wrap64 (bt (a0.extract (x1_2 : Int).toNat a0.size) 1)) ≥ 128
                      · rw [if_pos c20] at H; have c20b0 : decide (128 ≤ (wrap64 (bt (a0.extract (x1_2 : Int).toNat a0.size) 1))) = true := decide_eq_true c20; clear c20; (first | rw [c20b0] | (simp only [i64_w, i32_w]; rw [c20b0]) | skip); have HC21 := Aside0.mk H; clear H; go_upto_region 12 with (fail); go_cut [41] (fun v41 wc => ∃ (kq : Nat) (x41_20 : Bool), v41 = .bool x41_20 ∧ Aside0 (impl_berGet.j1 kq x1_2 (a0.extract (x1_2 : Int).toNat a0.size) (wrap64 (bt (a0.extract (x1_2 : Int).toNat a0.size) 1)) x41_20 = some (r1, r2, r3, r4)) ∧ Aside0 (kq ≤ kj2) ∧ Aside0 (wc.heap[gb185]? = some (.cells #[.int .i64 0, .string (⟨#[]⟩ : ByteArray), .int .i64 0, .int .i64 0] 29 (0, 0))) ∧ Aside0 (Below w.heap.size w wc))
                        case first =>
                          have H := HC21.out; clear HC21; by_cases c22 : (wrap64 (bt (a0.extract (x1_2 : Int).toNat a0.size) 1)) = 129
                          · rw [if_pos c22] at H; have c22b0 : ((wrap64 (bt (a0.extract (x1_2 : Int).toNat a0.size) 1)) == 129) = true := beq_iff_eq.mpr c22; have c22b1 : ((wrap64 (bt (a0.extract (x1_2 : Int).toNat a0.size) 1)) != 129) = false := bne_eq_false_iff_eq.mpr c22; clear c22; (first | rw [c22b0] | (simp only [i64_w, i32_w]; rw [c22b0]) | skip); have H' := Aside0.mk H; clear H; go_wp2; go_meet
                            case rel => exact ⟨_, (false), (by first | rfl | (simp; done) | (simp [*]; done)), H', ⟨by have := HJ2.out; first | omega | exact Nat.le_refl _⟩, ⟨by (with_reducible repeat (first | refine blk_drewN ?_ _ | refine blk_drew ?_ | refine blk_alloc ?_ _)); exact BK185.out⟩, ⟨By⟩⟩
                          · rw [if_neg c22] at H; have c22b0 : ((wrap64 (bt (a0.extract (x1_2 : Int).toNat a0.size) 1)) == 129) = false := beq_eq_false_iff_ne.mpr c22; have c22b1 : ((wrap64 (bt (a0.extract (x1_2 : Int).toNat a0.size) 1)) != 129) = true := bne_iff_ne.mpr c22; (first | rw [c22b0] | (simp only [i64_w, i32_w]; rw [c22b0]) | skip); have H' := Aside0.mk H; clear H; go_wp2; go_meet
                            case rel => exact ⟨_, (((wrap64 (bt (a0.extract (x1_2 : Int).toNat a0.size) 1)) != 130)), (by first | rfl | (simp; done) | (simp [*]; done)), H', ⟨by have := HJ2.out; first | omega | exact Nat.le_refl _⟩, ⟨by (with_reducible repeat (first | refine blk_drewN ?_ _ | refine blk_drew ?_ | refine blk_alloc ?_ _)); exact BK185.out⟩, ⟨By⟩⟩
                        case rest =>
                          clear HC21; try clear c1
                          try clear p1
                          try clear q1
                          try clear hx1
                          try clear qi1
                          try clear c2
                          try clear p2
                          try clear c4
                          try clear c5
                          try clear c5b0
                          try clear c6
                          try clear c6b0
                          try clear c6b1
                          try clear p6
                          try clear c7
                          try clear c7b0
                          try clear c7b1
                          try clear c8
                          try clear c8b0
                          try clear c8b1
                          try clear c10
                          try clear c10b0
                          try clear c10b1
                          try clear p11
                          try clear q11
                          try clear hx11
                          try clear qi11
                          try clear c13
                          try clear c14
                          try clear c14b0
                          try clear c14b1
                          try clear c16
                          try clear c16b0
                          try clear c16b1
                          try clear p17
                          try clear q17
                          try clear hx17
                          try clear qi17
                          try clear c20
                          try clear c20b0
                          try clear c22
                          try clear c22b0
                          try clear c22b1
                          try clear hcz15_0
                          try clear hcz15_1
                          try clear hcz15_2
                          try clear hcz15_3
                          try clear hcz9_0
                          try clear hcz9_1
                          try clear hcz9_2
                          try clear hcz9_3
                          try clear hfz15_0
                          try clear hfz15_1
                          try clear hfz15_2
                          try clear hfz15_3
                          try clear hfz9_0
                          try clear hfz9_1
                          try clear hfz9_2
                          try clear hfz9_3
                          try clear p11
                          try clear p17
                          try clear p2
                          try clear q11
                          try clear q17
                          obtain ⟨kq, x41_20, rfl, HA, HJ20, BK185, HB⟩ := hcut; cases kq with
                          | zero => exact absurd HA.out (by simp [impl_berGet.j1])
                          | succ kj20 =>
                            have H := HA.out; clear HA; simp only [impl_berGet.j1] at H; by_cases c23 : x41_20 = true
                            · subst c23; have H1 : (some (0, (⟨#[]⟩ : ByteArray), 0, 3)) = some (r1, r2, r3, r4) := by rw [if_pos rfl] at H; exact H
                              clear H; have H := H1; clear H1; simp only [Option.some.injEq, Prod.mk.injEq] at H; obtain ⟨rfl, rfl, rfl, rfl⟩ := H; have hcz24_0 : wc.cell? ⟨gb185, 0, none⟩ = some (.int .i64 0) := bc BK185.out 0; have hcz24_1 : wc.cell? ⟨gb185, 1, none⟩ = some (.string (⟨#[]⟩ : ByteArray)) := bc BK185.out 1; have hcz24_2 : wc.cell? ⟨gb185, 2, none⟩ = some (.int .i64 0) := bc BK185.out 2; have hcz24_3 : wc.cell? ⟨gb185, 3, none⟩ = some (.int .i64 0) := bc BK185.out 3; have hfz24_0 := blk_frozen BK185.out 0; have hfz24_1 := blk_frozen BK185.out 1; have hfz24_2 := blk_frozen BK185.out 2; have hfz24_3 := blk_frozen BK185.out 3; go_wp2; refine bodyPost_ret (results_cell_row rfl _ _ gb185 29 #[.int .i64 0, .string (⟨#[]⟩ : ByteArray), .int .i64 0, .int .i64 3] (0, 0) _ rfl (pq4 Pk) Try.underlying29 rfl (by kernel_rfl)) rfl ?_; exact ⟨Rf, By⟩
                            · replace c23 := Bool.eq_false_iff.mpr c23; subst c23; have H1 : (if ((a0.extract (x1_2 : Int).toNat a0.size).size : Int) < (wrap64 ((wrap64 (2 + (wrap64 (bt (a0.extract (x1_2 : Int).toNat a0.size) 1)))) - 128)) then (some (0, (⟨#[]⟩ : ByteArray), 0, 4)) else (impl_berGet.l0 kj20 x1_2 (a0.extract (x1_2 : Int).toNat a0.size) (wrap64 ((wrap64 (2 + (wrap64 (bt (a0.extract (x1_2 : Int).toNat a0.size) 1)))) - 128)) 0 2)) = some (r1, r2, r3, r4) := by rw [if_neg (show ¬ (false = true) by decide)] at H; exact H
                              clear H; have H := H1; clear H1; by_cases c25 : ((a0.extract (x1_2 : Int).toNat a0.size).size : Int) < (wrap64 ((wrap64 (2 + (wrap64 (bt (a0.extract (x1_2 : Int).toNat a0.size) 1)))) - 128))
                              · rw [if_pos c25] at H; have c25b0 : decide (((a0.extract (x1_2 : Int).toNat a0.size).size : Int) < (wrap64 ((wrap64 (2 + (wrap64 (bt (a0.extract (x1_2 : Int).toNat a0.size) 1)))) - 128))) = true := decide_eq_true c25; clear c25; simp only [Option.some.injEq, Prod.mk.injEq] at H; obtain ⟨rfl, rfl, rfl, rfl⟩ := H; have hcz26_0 : wc.cell? ⟨gb185, 0, none⟩ = some (.int .i64 0) := bc BK185.out 0; have hcz26_1 : wc.cell? ⟨gb185, 1, none⟩ = some (.string (⟨#[]⟩ : ByteArray)) := bc BK185.out 1; have hcz26_2 : wc.cell? ⟨gb185, 2, none⟩ = some (.int .i64 0) := bc BK185.out 2; have hcz26_3 : wc.cell? ⟨gb185, 3, none⟩ = some (.int .i64 0) := bc BK185.out 3; have hfz26_0 := blk_frozen BK185.out 0; have hfz26_1 := blk_frozen BK185.out 1; have hfz26_2 := blk_frozen BK185.out 2; have hfz26_3 := blk_frozen BK185.out 3; go_wp2; refine bodyPost_ret (results_cell_row rfl _ _ gb185 29 #[.int .i64 0, .string (⟨#[]⟩ : ByteArray), .int .i64 0, .int .i64 4] (0, 0) _ rfl (pq4 Pk) Try.underlying29 rfl (by kernel_rfl)) rfl ?_; exact ⟨Rf, By⟩
                              · rw [if_neg c25] at H; have c25b0 : decide (((a0.extract (x1_2 : Int).toNat a0.size).size : Int) < (wrap64 ((wrap64 (2 + (wrap64 (bt (a0.extract (x1_2 : Int).toNat a0.size) 1)))) - 128))) = false := decide_eq_false c25; clear c25; have H' := Aside0.mk H; clear H; go_wp2; go_loopg [7, 8] kj20 (fun kq v7 v8 w' => ∃ (x7_3 : Int) (x8_3 : Int), v7 = .int .i64 x7_3 ∧ v8 = .int .i64 x8_3 ∧ Aside0 (impl_berGet.l0 kq x1_2 (a0.extract (x1_2 : Int).toNat a0.size) (wrap64 ((wrap64 (2 + (wrap64 (bt (a0.extract (x1_2 : Int).toNat a0.size) 1)))) - 128)) x7_3 x8_3 = some (r1, r2, r3, r4)) ∧ Aside0 (kq ≤ kj20) ∧ Aside0 (w'.heap[gb185]? = some (.cells #[.int .i64 0, .string (⟨#[]⟩ : ByteArray), .int .i64 0, .int .i64 0] 29 (0, 0))) ∧ Aside0 (Below w.heap.size w w'))
                                case atStart => exact ⟨(0), (2), (by first | rfl | (simp; done) | (simp [*]; done)), (by first | rfl | (simp; done) | (simp [*]; done)), H', ⟨Nat.le_refl _⟩, ⟨by (with_reducible repeat (first | refine blk_drewN ?_ _ | refine blk_drew ?_ | refine blk_alloc ?_ _)); exact BK185.out⟩, ⟨By⟩⟩
                                case round =>
                                  clear H'; try clear c1
                                  try clear p1
                                  try clear q1
                                  try clear hx1
                                  try clear qi1
                                  try clear c2
                                  try clear p2
                                  try clear c4
                                  try clear c5
                                  try clear c5b0
                                  try clear c6
                                  try clear c6b0
                                  try clear c6b1
                                  try clear p6
                                  try clear c7
                                  try clear c7b0
                                  try clear c7b1
                                  try clear c8
                                  try clear c8b0
                                  try clear c8b1
                                  try clear c10
                                  try clear c10b0
                                  try clear c10b1
                                  try clear p11
                                  try clear q11
                                  try clear hx11
                                  try clear qi11
                                  try clear c13
                                  try clear c14
                                  try clear c14b0
                                  try clear c14b1
                                  try clear c16
                                  try clear c16b0
                                  try clear c16b1
                                  try clear p17
                                  try clear q17
                                  try clear hx17
                                  try clear qi17
                                  try clear c20
                                  try clear c20b0
                                  try clear c22
                                  try clear c22b0
                                  try clear c22b1
                                  try clear c23
                                  try clear c25
                                  try clear c25b0
                                  try clear hcz15_0
                                  try clear hcz15_1
                                  try clear hcz15_2
                                  try clear hcz15_3
                                  try clear hcz24_0
                                  try clear hcz24_1
                                  try clear hcz24_2
                                  try clear hcz24_3
                                  try clear hcz26_0
                                  try clear hcz26_1
                                  try clear hcz26_2
                                  try clear hcz26_3
                                  try clear hcz9_0
                                  try clear hcz9_1
                                  try clear hcz9_2
                                  try clear hcz9_3
                                  try clear hfz15_0
                                  try clear hfz15_1
                                  try clear hfz15_2
                                  try clear hfz15_3
                                  try clear hfz24_0
                                  try clear hfz24_1
                                  try clear hfz24_2
                                  try clear hfz24_3
                                  try clear hfz26_0
                                  try clear hfz26_1
                                  try clear hfz26_2
                                  try clear hfz26_3
                                  try clear hfz9_0
                                  try clear hfz9_1
                                  try clear hfz9_2
                                  try clear hfz9_3
                                  try clear p1
                                  try clear p11
                                  try clear p17
                                  try clear p2
                                  try clear p6
                                  try clear q1
                                  try clear q11
                                  try clear q17
                                  obtain ⟨x7_3, x8_3, rfl, rfl, HA, HK3, BK185, HB⟩ := hrel; cases gk with
                                  | zero => exact absurd HA.out (by simp [impl_berGet.l0])
                                  | succ k3 =>
                                    have H := HA.out; clear HA; simp only [impl_berGet.l0] at H; by_cases c27 : x8_3 < (wrap64 ((wrap64 (2 + (wrap64 (bt (a0.extract (x1_2 : Int).toNat a0.size) 1)))) - 128))
                                    · rw [if_pos c27] at H; have c27b0 : decide (x8_3 < (wrap64 ((wrap64 (2 + (wrap64 (bt (a0.extract (x1_2 : Int).toNat a0.size) 1)))) - 128))) = true := decide_eq_true c27; clear c27; by_cases c28 : 0 ≤ x8_3
                                      · rw [if_pos c28] at H; have c28b0 : decide (0 ≤ x8_3) = true := decide_eq_true c28; clear c28; by_cases c29 : x8_3 < ((a0.extract (x1_2 : Int).toNat a0.size).size : Int)
                                        · rw [if_pos c29] at H; have c29b0 : decide (x8_3 < ((a0.extract (x1_2 : Int).toNat a0.size).size : Int)) = true := decide_eq_true c29; clear c29; have H' := Aside0.mk H; clear H; have p30 : 0 ≤ (x8_3 : Int) := of_decide_eq_true Da; have q30 : x8_3 < ((a0.extract (x1_2 : Int).toNat a0.size).size : Int) := of_decide_eq_true Da; have hx30 := bt_at (a0.extract (x1_2 : Int).toNat a0.size) x8_3; replace p30 := eq_true p30; replace q30 := eq_true q30; go_wp2; go_roundg k3
                                          case measure => have := HJ2.out; have := HJ20.out; have := HK3.out; omega
                                          case rel => exact ⟨(Go.bits .or .i64 (wrap64 (x7_3 * 256)) (wrap64 (bt (a0.extract (x1_2 : Int).toNat a0.size) x8_3))), (wrap64 (x8_3 + 1)), (by first | rfl | (simp; done) | (simp [*]; done)), (by first | rfl | (simp; done) | (simp [*]; done)), H', ⟨by have := HJ2.out; have := HJ20.out; have := HK3.out; omega⟩, ⟨by (with_reducible repeat (first | refine blk_drewN ?_ _ | refine blk_drew ?_ | refine blk_alloc ?_ _)); exact BK185.out⟩, ⟨By⟩⟩
                                        · rw [if_neg c29] at H; exact absurd H (by simp)
                                      · rw [if_neg c28] at H; exact absurd H (by simp)
                                    · rw [if_neg c27] at H; have c27b0 : decide (x8_3 < (wrap64 ((wrap64 (2 + (wrap64 (bt (a0.extract (x1_2 : Int).toNat a0.size) 1)))) - 128))) = false := decide_eq_false c27; clear c27; have H' := Aside0.mk H; clear H; go_wp2; go_meet
                                      case rel => exact ⟨_, ((wrap64 ((wrap64 (2 + (wrap64 (bt (a0.extract (x1_2 : Int).toNat a0.size) 1)))) - 128))), (x7_3), (0), ((⟨#[]⟩ : ByteArray)), (0), (0), (by first | rfl | (simp; done) | (simp [*]; done)), (by first | rfl | (simp; done) | (simp [*]; done)), H', ⟨by have := HJ2.out; have := HJ20.out; have := HK3.out; first | omega | exact Nat.le_refl _⟩, ⟨by (with_reducible repeat (first | refine blk_drewN ?_ _ | refine blk_drew ?_ | refine blk_alloc ?_ _)); exact BK185.out⟩, ⟨By⟩⟩
                      · rw [if_neg c20] at H; have c20b0 : decide (128 ≤ (wrap64 (bt (a0.extract (x1_2 : Int).toNat a0.size) 1))) = false := decide_eq_false c20; clear c20; (first | rw [c20b0] | (simp only [i64_w, i32_w]; rw [c20b0]) | skip); have H' := Aside0.mk H; clear H; go_wp2; go_meet
                        case rel => exact ⟨_, (2), (wrap64 (bt (a0.extract (x1_2 : Int).toNat a0.size) 1)), (0), ((⟨#[]⟩ : ByteArray)), (0), (0), (by first | rfl | (simp; done) | (simp [*]; done)), (by first | rfl | (simp; done) | (simp [*]; done)), H', ⟨by have := HJ2.out; first | omega | exact Nat.le_refl _⟩, ⟨by (with_reducible repeat (first | refine blk_drewN ?_ _ | refine blk_drew ?_ | refine blk_alloc ?_ _)); exact BK185.out⟩, ⟨By⟩⟩
                    case rest =>
                      clear HC18; try clear c1
                      try clear p1
                      try clear q1
                      try clear hx1
                      try clear qi1
                      try clear c2
                      try clear p2
                      try clear p3
                      try clear q3
                      try clear hx3
                      try clear c4
                      try clear c5
                      try clear c5b0
                      try clear c6
                      try clear c6b0
                      try clear c6b1
                      try clear p6
                      try clear c7
                      try clear c7b0
                      try clear c7b1
                      try clear c8
                      try clear c8b0
                      try clear c8b1
                      try clear c10
                      try clear c10b0
                      try clear c10b1
                      try clear p11
                      try clear q11
                      try clear hx11
                      try clear qi11
                      try clear c13
                      try clear c14
                      try clear c14b0
                      try clear c14b1
                      try clear c16
                      try clear c16b0
                      try clear c16b1
                      try clear p17
                      try clear q17
                      try clear hx17
                      try clear qi17
                      try clear c20
                      try clear c20b0
                      try clear c22
                      try clear c22b0
                      try clear c22b1
                      try clear c23
                      try clear c25
                      try clear c25b0
                      try clear c27
                      try clear c27b0
                      try clear c28
                      try clear c28b0
                      try clear c29
                      try clear c29b0
                      try clear p30
                      try clear q30
                      try clear hx30
                      try clear hcz15_0
                      try clear hcz15_1
                      try clear hcz15_2
                      try clear hcz15_3
                      try clear hcz24_0
                      try clear hcz24_1
                      try clear hcz24_2
                      try clear hcz24_3
                      try clear hcz26_0
                      try clear hcz26_1
                      try clear hcz26_2
                      try clear hcz26_3
                      try clear hcz9_0
                      try clear hcz9_1
                      try clear hcz9_2
                      try clear hcz9_3
                      try clear hfz15_0
                      try clear hfz15_1
                      try clear hfz15_2
                      try clear hfz15_3
                      try clear hfz24_0
                      try clear hfz24_1
                      try clear hfz24_2
                      try clear hfz24_3
                      try clear hfz26_0
                      try clear hfz26_1
                      try clear hfz26_2
                      try clear hfz26_3
                      try clear hfz9_0
                      try clear hfz9_1
                      try clear hfz9_2
                      try clear hfz9_3
                      try clear p1
                      try clear p11
                      try clear p17
                      try clear p2
                      try clear p30
                      try clear p6
                      try clear q1
                      try clear q11
                      try clear q17
                      try clear q30
                      obtain ⟨kq, x6_17, x7_17, x186000_17, x186001_17, x186002_17, x186003_17, rfl, rfl, HA, HJ17, BK185, HB⟩ := hcut; cases kq with
                      | zero => exact absurd HA.out (by simp [impl_berGet.j3])
                      | succ kj17 =>
                        have H := HA.out; clear HA; simp only [impl_berGet.j3] at H; have HC31 := Aside0.mk H; clear H; go_upto_region 21 with (fail); go_cut [63] (fun v63 wc => ∃ (kq : Nat) (x63_30 : Bool), v63 = .bool x63_30 ∧ Aside0 (impl_berGet.j4 kq x1_2 (a0.extract (x1_2 : Int).toNat a0.size) x6_17 x7_17 x63_30 = some (r1, r2, r3, r4)) ∧ Aside0 (kq ≤ kj17) ∧ Aside0 (wc.heap[gb185]? = some (.cells #[.int .i64 x186000_17, .string x186001_17, .int .i64 x186002_17, .int .i64 x186003_17] 29 (0, 0))) ∧ Aside0 (Below w.heap.size w wc))
                        case first =>
                          have H := HC31.out; clear HC31; by_cases c32 : x7_17 > 4000
                          · rw [if_pos c32] at H; have c32b0 : decide (4000 < x7_17) = true := decide_eq_true c32; clear c32; (first | rw [c32b0] | (simp only [i64_w, i32_w]; rw [c32b0]) | skip); have H' := Aside0.mk H; clear H; try go_wp2
                            have n_ := aa (blk_drew BK185.out) <| Aside0.mk (below_drew1 HB.out); clear BK185 HB; obtain ⟨BK185, HB⟩ := n_; refine start_ (n := 11) (S := fun w' => True) (ds := []) (bv 11 0) (by kernel_rfl) rfl rfl trivial (fun hHeld => ?_); refine with_tabW impl_berGet.tab21 impl_berGet.bits21 (fun HT_ HW_ => ?_); generalize wc.drew = w33 at BK185 HB hHeld ⊢; refine pu 0 64 (bv 11 1) HT_.out (h := ?_); refine pu 1 65 (bv 11 3) HT_.out (h := ?_); refine pu 2 66 (bv 11 7) HT_.out (h := ?_); refine pn 3 67 (bv 11 15) HT_.out (h := ?_); refine pn 4 68 (bv 11 31) HT_.out (h := ?_); refine pn 5 69 (bv 11 63) HT_.out (h := ?_); refine pn 6 70 (bv 11 127) HT_.out (h := ?_); refine pn 7 71 (bv 11 255) HT_.out (h := ?_); refine pn 8 72 (bv 11 511) HT_.out (h := ?_); refine pu 9 73 (bv 11 1023) HT_.out (h := ?_); refine pu 10 63 (bv 11 2047) HT_.out (h := ?_); refine done_ (done_of HT_.out (by kernel_rfl)) ?_; try go_wp2
                            go_meet
                            case rel => exact ⟨_, (true), (by first | rfl | (simp; done) | (simp [*]; done)), H', ⟨by have := HJ2.out; have := HJ17.out; first | omega | exact Nat.le_refl _⟩, ⟨by (with_reducible repeat (first | refine blk_drewN ?_ _ | refine blk_drew ?_ | refine blk_alloc ?_ _)); exact BK185.out⟩, ⟨By⟩⟩
                          · rw [if_neg c32] at H; have c32b0 : decide (4000 < x7_17) = false := decide_eq_false c32; clear c32; (first | rw [c32b0] | (simp only [i64_w, i32_w]; rw [c32b0]) | skip); replace H := Option.bind_eq_some_iff.mp H; obtain ⟨t187, A340, H⟩ := H; replace H : (if 1 ≤ x6_17 then (if x6_17 ≤ ((a0.extract (x1_2 : Int).toNat a0.size).size : Int) then (impl_berGet.j4 kj17 x1_2 (a0.extract (x1_2 : Int).toNat a0.size) x6_17 x7_17 (t187.toList != ((a0.extract (x1_2 : Int).toNat a0.size).extract 1 (x6_17 : Int).toNat).toList)) else (none)) else (none)) = some (r1, r2, r3, r4) := H; have A34 := Aside0.mk A340; clear A340; by_cases c35 : 1 ≤ x6_17
                            · rw [if_pos c35] at H; have c35b0 := eq_true c35; have c35b1 : decide (1 ≤ x6_17) = true := decide_eq_true c35; clear c35; by_cases c36 : x6_17 ≤ ((a0.extract (x1_2 : Int).toNat a0.size).size : Int)
                              · rw [if_pos c36] at H; have c36b0 := eq_true c36; have c36b1 : decide (x6_17 ≤ ((a0.extract (x1_2 : Int).toNat a0.size).size : Int)) = true := decide_eq_true c36; clear c36; have H' := Aside0.mk H; clear H; try go_wp2
                                have n_ := aa (blk_drew BK185.out) <| Aside0.mk (below_drew1 HB.out); clear BK185 HB; obtain ⟨BK185, HB⟩ := n_; refine start_ (n := 11) (S := fun w' => True) (ds := []) (bv 11 0) (by kernel_rfl) rfl rfl trivial (fun hHeld => ?_); refine with_tabW impl_berGet.tab21 impl_berGet.bits21 (fun HT_ HW_ => ?_); generalize wc.drew = w37 at BK185 HB hHeld ⊢; refine pu 0 64 (bv 11 1) HT_.out (h := ?_); refine pu 1 65 (bv 11 3) HT_.out (h := ?_); refine pu 2 66 (bv 11 7) HT_.out (h := ?_); refine pu 3 67 (bv 11 15) HT_.out (h := ?_); refine pu 5 69 (bv 11 47) HT_.out (h := ?_); refine pu 6 70 (bv 11 111) HT_.out (h := ?_); refine pu 7 71 (bv 11 239) HT_.out (h := ?_); refine one_ (i := 4) (N := some 68) (bv 11 255) rfl rfl (one_of HT_.out (by kernel_rfl)) (by decide) (fun K hK => ?_); refine goes_ Try.func41 (by kernel_rfl) rfl #[.int .i64 x7_17] (by rfl) rfl rfl Ag ?_; with_reducible refine (impl_berLength.calls x7_17 t187 _ A34.out).mono ?_
                                rintro e w38 ⟨rfl, hb⟩; refine ⟨_, rfl, ?_⟩; have n_ := aa (bb BK185.out hb) <| Aside0.mk (below_step By hb); clear BK185 HB; obtain ⟨BK185, HB⟩ := n_; (try clear hb); (try clear hb2); (try clear hk); (try clear hi); refine hK.out _ _ trivial (fun hHeld => ?_); clear hK K; refine norm_ (a' := ?_) ?_ ?_; rotate_left
                                · show Act.put _ (some 68) _ = _; simp only [Act.put, List.setIfInBounds_toArray, List.set_cons_zero, List.set_cons_succ, i64_w, i32_w]; rfl
                                refine pu 8 72 (bv 11 511) HT_.out (h := ?_); refine pu 9 73 (bv 11 1023) HT_.out (h := ?_); refine pu 10 63 (bv 11 2047) HT_.out (h := ?_); refine done_ (done_of HT_.out (by kernel_rfl)) ?_; try go_wp2
                                go_meet
                                case rel => exact ⟨_, ((t187.toList != ((a0.extract (x1_2 : Int).toNat a0.size).extract 1 (x6_17 : Int).toNat).toList)), (by first | rfl | (simp; done) | (simp [*]; done)), H', ⟨by have := HJ2.out; have := HJ17.out; first | omega | exact Nat.le_refl _⟩, ⟨by (with_reducible repeat (first | refine blk_drewN ?_ _ | refine blk_drew ?_ | refine blk_alloc ?_ _)); exact BK185.out⟩, ⟨By⟩⟩
                              · rw [if_neg c36] at H; exact absurd H (by simp)
                            · rw [if_neg c35] at H; exact absurd H (by simp)
                        case rest =>
                          clear HC31; try clear c1
                          try clear p1
                          try clear q1
                          try clear hx1
                          try clear qi1
                          try clear c2
                          try clear p2
                          try clear c3
                          try clear p3
                          try clear q3
                          try clear hx3
                          try clear c4
                          try clear c5
                          try clear c5b0
                          try clear c6
                          try clear c6b0
                          try clear c6b1
                          try clear p6
                          try clear c7
                          try clear c7b0
                          try clear c7b1
                          try clear c8
                          try clear c8b0
                          try clear c8b1
                          try clear c10
                          try clear c10b0
                          try clear c10b1
                          try clear p11
                          try clear q11
                          try clear hx11
                          try clear qi11
                          try clear c13
                          try clear c14
                          try clear c14b0
                          try clear c14b1
                          try clear c16
                          try clear c16b0
                          try clear c16b1
                          try clear p17
                          try clear q17
                          try clear hx17
                          try clear qi17
                          try clear c20
                          try clear c20b0
                          try clear c22
                          try clear c22b0
                          try clear c22b1
                          try clear c23
                          try clear c25
                          try clear c25b0
                          try clear c27
                          try clear c27b0
                          try clear c28
                          try clear c28b0
                          try clear c29
                          try clear c29b0
                          try clear p30
                          try clear q30
                          try clear hx30
                          try clear c32
                          try clear c32b0
                          try clear c35
                          try clear c35b0
                          try clear c35b1
                          try clear c36
                          try clear c36b0
                          try clear c36b1
                          try clear hcz15_0
                          try clear hcz15_1
                          try clear hcz15_2
                          try clear hcz15_3
                          try clear hcz24_0
                          try clear hcz24_1
                          try clear hcz24_2
                          try clear hcz24_3
                          try clear hcz26_0
                          try clear hcz26_1
                          try clear hcz26_2
                          try clear hcz26_3
                          try clear hcz9_0
                          try clear hcz9_1
                          try clear hcz9_2
                          try clear hcz9_3
                          try clear hfz15_0
                          try clear hfz15_1
                          try clear hfz15_2
                          try clear hfz15_3
                          try clear hfz24_0
                          try clear hfz24_1
                          try clear hfz24_2
                          try clear hfz24_3
                          try clear hfz26_0
                          try clear hfz26_1
                          try clear hfz26_2
                          try clear hfz26_3
                          try clear hfz9_0
                          try clear hfz9_1
                          try clear hfz9_2
                          try clear hfz9_3
                          try clear p1
                          try clear p11
                          try clear p17
                          try clear p2
                          try clear p3
                          try clear p30
                          try clear p6
                          try clear q1
                          try clear q11
                          try clear q17
                          try clear q3
                          try clear q30
                          obtain ⟨kq, x63_30, rfl, HA, HJ30, BK185, HB⟩ := hcut; cases kq with
                          | zero => exact absurd HA.out (by simp [impl_berGet.j4])
                          | succ kj30 =>
                            have H := HA.out; clear HA; simp only [impl_berGet.j4] at H; by_cases c39 : x63_30 = true
                            · subst c39; have H1 : (some (0, (⟨#[]⟩ : ByteArray), 0, 3)) = some (r1, r2, r3, r4) := by rw [if_pos rfl] at H; exact H
                              clear H; have H := H1; clear H1; simp only [Option.some.injEq, Prod.mk.injEq] at H; obtain ⟨rfl, rfl, rfl, rfl⟩ := H; have hcz40_0 : wc.cell? ⟨gb185, 0, none⟩ = some (.int .i64 x186000_17) := bc BK185.out 0; have hcz40_1 : wc.cell? ⟨gb185, 1, none⟩ = some (.string x186001_17) := bc BK185.out 1; have hcz40_2 : wc.cell? ⟨gb185, 2, none⟩ = some (.int .i64 x186002_17) := bc BK185.out 2; have hcz40_3 : wc.cell? ⟨gb185, 3, none⟩ = some (.int .i64 x186003_17) := bc BK185.out 3; have hfz40_0 := blk_frozen BK185.out 0; have hfz40_1 := blk_frozen BK185.out 1; have hfz40_2 := blk_frozen BK185.out 2; have hfz40_3 := blk_frozen BK185.out 3; go_wp2; refine bodyPost_ret (results_cell_row rfl _ _ gb185 29 #[.int .i64 0, .string (⟨#[]⟩ : ByteArray), .int .i64 0, .int .i64 3] (0, 0) _ rfl (pq4 Pk) Try.underlying29 rfl (by kernel_rfl)) rfl ?_; exact ⟨Rf, By⟩
                            · replace c39 := Bool.eq_false_iff.mpr c39; subst c39; have H1 : (if ((a0.extract (x1_2 : Int).toNat a0.size).size : Int) < (wrap64 (x6_17 + x7_17)) then (some (0, (⟨#[]⟩ : ByteArray), 0, 4)) else (if 0 < ((a0.extract (x1_2 : Int).toNat a0.size).size : Int) then (if 0 ≤ x6_17 then (if x6_17 ≤ (wrap64 (x6_17 + x7_17)) then (if (wrap64 (x6_17 + x7_17)) ≤ ((a0.extract (x1_2 : Int).toNat a0.size).size : Int) then (some (wrap64 (bt (a0.extract (x1_2 : Int).toNat a0.size) 0), (a0.extract (x1_2 : Int).toNat a0.size).extract (x6_17 : Int).toNat ((wrap64 (x6_17 + x7_17)) : Int).toNat, wrap64 (x1_2 + (wrap64 (x6_17 + x7_17))), 0)) else (none)) else (none)) else (none)) else (none))) = some (r1, r2, r3, r4) := by rw [if_neg (show ¬ (false = true) by decide)] at H; exact H
                              clear H; have H := H1; clear H1; by_cases c41 : ((a0.extract (x1_2 : Int).toNat a0.size).size : Int) < (wrap64 (x6_17 + x7_17))
                              · rw [if_pos c41] at H; have c41b0 : decide (((a0.extract (x1_2 : Int).toNat a0.size).size : Int) < (wrap64 (x6_17 + x7_17))) = true := decide_eq_true c41; clear c41; simp only [Option.some.injEq, Prod.mk.injEq] at H; obtain ⟨rfl, rfl, rfl, rfl⟩ := H; have hcz42_0 : wc.cell? ⟨gb185, 0, none⟩ = some (.int .i64 x186000_17) := bc BK185.out 0; have hcz42_1 : wc.cell? ⟨gb185, 1, none⟩ = some (.string x186001_17) := bc BK185.out 1; have hcz42_2 : wc.cell? ⟨gb185, 2, none⟩ = some (.int .i64 x186002_17) := bc BK185.out 2; have hcz42_3 : wc.cell? ⟨gb185, 3, none⟩ = some (.int .i64 x186003_17) := bc BK185.out 3; have hfz42_0 := blk_frozen BK185.out 0; have hfz42_1 := blk_frozen BK185.out 1; have hfz42_2 := blk_frozen BK185.out 2; have hfz42_3 := blk_frozen BK185.out 3; go_wp2; refine bodyPost_ret (results_cell_row rfl _ _ gb185 29 #[.int .i64 0, .string (⟨#[]⟩ : ByteArray), .int .i64 0, .int .i64 4] (0, 0) _ rfl (pq4 Pk) Try.underlying29 rfl (by kernel_rfl)) rfl ?_; exact ⟨Rf, By⟩
                              · rw [if_neg c41] at H; have c41b0 : decide (((a0.extract (x1_2 : Int).toNat a0.size).size : Int) < (wrap64 (x6_17 + x7_17))) = false := decide_eq_false c41; clear c41; by_cases c43 : 0 < ((a0.extract (x1_2 : Int).toNat a0.size).size : Int)
                                · rw [if_pos c43] at H; have c43b0 : decide (0 < ((a0.extract (x1_2 : Int).toNat a0.size).size : Int)) = true := decide_eq_true c43; have c43b1 : decide (0 < (a0.extract (x1_2 : Int).toNat a0.size).size) = true := decide_eq_true (by omega); clear c43; by_cases c45 : 0 ≤ x6_17
                                  · rw [if_pos c45] at H; have c45b0 := eq_true c45; have c45b1 : decide (0 ≤ x6_17) = true := decide_eq_true c45; clear c45; by_cases c46 : x6_17 ≤ (wrap64 (x6_17 + x7_17))
                                    · rw [if_pos c46] at H; have c46b0 := eq_true c46; have c46b1 : decide (x6_17 ≤ (wrap64 (x6_17 + x7_17))) = true := decide_eq_true c46; by_cases c47 : (wrap64 (x6_17 + x7_17)) ≤ ((a0.extract (x1_2 : Int).toNat a0.size).size : Int)
                                      · rw [if_pos c47] at H; have c47b0 := eq_true c47; have c47b1 : decide ((wrap64 (x6_17 + x7_17)) ≤ ((a0.extract (x1_2 : Int).toNat a0.size).size : Int)) = true := decide_eq_true c47; simp only [Option.some.injEq, Prod.mk.injEq] at H; obtain ⟨rfl, rfl, rfl, rfl⟩ := H; try go_wp2
                                        have n_ := aa (blk_drew BK185.out) <| Aside0.mk (below_drew1 HB.out); clear BK185 HB; obtain ⟨BK185, HB⟩ := n_; have p44 : 0 ≤ (0 : Int) := (by omega); have q44 : 0 < (a0.extract (x1_2 : Int).toNat a0.size).size := (by have : (0 : Int) < ((a0.extract (x1_2 : Int).toNat a0.size).size : Int) := of_decide_eq_true Da; omega); have hx44 : ∀ h : 0 < (a0.extract (x1_2 : Int).toNat a0.size).size, (((a0.extract (x1_2 : Int).toNat a0.size)[0]'h).toNat : Int) = bt (a0.extract (x1_2 : Int).toNat a0.size) 0 := bt_at (a0.extract (x1_2 : Int).toNat a0.size) 0; clear p44; have qi44 : (0 < ((a0.extract (x1_2 : Int).toNat a0.size).size : Int)) = True := eq_true (of_decide_eq_true Da); replace q44 := eq_true q44; refine start_ (n := 17) (S := fun w' => True) (ds := []) (bv 17 0) (by kernel_rfl) rfl rfl trivial (fun hHeld => ?_); refine with_tabW impl_berGet.tab25 impl_berGet.bits25 (fun HT_ HW_ => ?_); generalize wc.drew = w48 at BK185 HB hHeld ⊢; refine pu 0 83 (bv 17 1) HT_.out (h := ?_); refine pu 3 86 (bv 17 9) HT_.out (h := ?_); refine pu 4 87 (bv 17 25) HT_.out (h := ?_); refine pu 5 88 (bv 17 57) HT_.out (h := ?_); refine pu 6 89 (bv 17 121) HT_.out (h := ?_); refine pu 7 90 (bv 17 249) HT_.out (h := ?_); refine pu 8 91 (bv 17 505) HT_.out (h := ?_); refine pu 10 93 (bv 17 1529) HT_.out (h := ?_); refine pu 11 94 (bv 17 3577) HT_.out (h := ?_); refine pu 12 95 (bv 17 7673) HT_.out (h := ?_); refine pu 13 96 (bv 17 15865) HT_.out (h := ?_); refine pu 14 97 (bv 17 32249) HT_.out (h := ?_); refine take_ (i := 1) (N := some 84) (v := ?_) (a' := ?_) (bv 17 32251) rfl rfl (take_ofW HT_.out HW_.out (by kernel_rfl)) (fun _ _ _ h => h) (Or.inl ⟨by rfl, ?_⟩) hHeld ?_ ?_; rotate_left
                                        · intro w' _; go_simp; with_reducible rfl
                                        rotate_left
                                        · simp only [Act.put, List.setIfInBounds_toArray, List.set_cons_zero, List.set_cons_succ, i64_w, i32_w]; rfl
                                        refine pu 2 85 (bv 17 32255) HT_.out (h := ?_); refine pu 9 92 (bv 17 32767) HT_.out (h := ?_); refine pu 15 98 (bv 17 65535) HT_.out (h := ?_); refine one_ (i := 16) (N := none) (bv 17 131071) rfl rfl (one_of HT_.out (by kernel_rfl)) (by decide) (fun K hK => ?_); have hs49 : w48.cell? ⟨gb185, 0, none⟩ = some (.int .i64 x186000_17) := bc BK185.out 0; have hfs49 := blk_frozen BK185.out 0; have hs50 : w48.cell? ⟨gb185, 1, none⟩ = some (.string x186001_17) := bc BK185.out 1; have hfs50 := blk_frozen BK185.out 1; have hs51 : w48.cell? ⟨gb185, 2, none⟩ = some (.int .i64 x186002_17) := bc BK185.out 2; have hfs51 := blk_frozen BK185.out 2; have hs52 : w48.cell? ⟨gb185, 3, none⟩ = some (.int .i64 x186003_17) := bc BK185.out 3; have hfs52 := blk_frozen BK185.out 3; refine skip_ (w1 := ?_) (by rfl) rfl ?_ ?_; rotate_left
                                        · go_simp; rfl
                                        refine hK.out _ _ trivial (fun hHeld => ?_); clear hK K; refine done_ (done_of HT_.out (by kernel_rfl)) ?_; try go_wp2
                                        refine bodyPost_ret (results_cell_row rfl _ _ gb185 29 #[.int .i64 (wrap64 (bt (a0.extract (x1_2 : Int).toNat a0.size) 0)), .string ((a0.extract (x1_2 : Int).toNat a0.size).extract (x6_17 : Int).toNat ((wrap64 (x6_17 + x7_17)) : Int).toNat), .int .i64 (wrap64 (x1_2 + (wrap64 (x6_17 + x7_17)))), .int .i64 0] (0, 0) _ rfl (pq4 Pk) Try.underlying29 rfl (by kernel_rfl)) rfl ?_; exact ⟨Rf, By⟩
                                      · rw [if_neg c47] at H; exact absurd H (by simp)
                                    · rw [if_neg c46] at H; exact absurd H (by simp)
                                  · rw [if_neg c45] at H; exact absurd H (by simp)
                                · rw [if_neg c43] at H; exact absurd H (by simp)
                  · rw [if_neg c16] at H; exact absurd H (by simp)
              · replace c13 := Bool.eq_false_iff.mpr c13; subst c13; have H1 : (some (0, (⟨#[]⟩ : ByteArray), 0, 3)) = some (r1, r2, r3, r4) := by rw [if_neg (show ¬ (false = true) by decide)] at H; exact H
                clear H; have H := H1; clear H1; simp only [Option.some.injEq, Prod.mk.injEq] at H; obtain ⟨rfl, rfl, rfl, rfl⟩ := H; have p11 : 0 ≤ (0 : Int) := (by omega); have q11 : 0 < (a0.extract (x1_2 : Int).toNat a0.size).size := (by have : (0 : Int) < ((a0.extract (x1_2 : Int).toNat a0.size).size : Int) := of_decide_eq_true Da; omega); have hx11 : ∀ h : 0 < (a0.extract (x1_2 : Int).toNat a0.size).size, (((a0.extract (x1_2 : Int).toNat a0.size)[0]'h).toNat : Int) = bt (a0.extract (x1_2 : Int).toNat a0.size) 0 := bt_at (a0.extract (x1_2 : Int).toNat a0.size) 0; clear p11; have qi11 : (0 < ((a0.extract (x1_2 : Int).toNat a0.size).size : Int)) = True := eq_true (of_decide_eq_true Da); replace q11 := eq_true q11; go_wp2_with (first | ((with_reducible refine gate_callee (f := 40) rfl ?_); refine goesL_ (some 24) rfl rfl Try.func40 (by kernel_rfl) rfl #[.int .i64 (wrap64 (bt (a0.extract (x1_2 : Int).toNat a0.size) 0))] rfl Ag ?_; (with_reducible refine (impl_isTag.calls (wrap64 (bt (a0.extract (x1_2 : Int).toNat a0.size) 0)) false _ A12.out).mono ?_); rintro e w' ⟨rfl, ⟨nd, rfl⟩⟩; refine ⟨_, rfl, ?_⟩; (try (rw [drewN_self wc]; generalize hq_ : World.drewN wc _ = wc; have n0_ : Aside0 (wc.heap[gb185]? = some (.cells #[.int .i64 0, .string (⟨#[]⟩ : ByteArray), .int .i64 0, .int .i64 0] 29 (0, 0))) := ⟨by rw [← hq_]; exact Pk⟩; have n1_ : Aside0 (Below w.heap.size w wc) := ⟨by rw [← hq_]; exact By⟩; clear BK185 HB hq_; have BK185 := n0_; have HB := n1_; clear n0_ n1_)); have ⟨hcz53_0, hcz53_1, hcz53_2, hcz53_3⟩ := cq4 BK185.out; have ⟨hfz53_0, hfz53_1, hfz53_2, hfz53_3⟩ := fq4 BK185.out)); refine bodyPost_ret (results_cell_row rfl _ _ gb185 29 #[.int .i64 0, .string (⟨#[]⟩ : ByteArray), .int .i64 0, .int .i64 3] (0, 0) _ rfl (pq4 Pk) Try.underlying29 rfl (by kernel_rfl)) rfl ?_; exact ⟨Rf, By⟩
            · rw [if_neg c10] at H; exact absurd H (by simp)
        · rw [if_neg c7] at H; exact absurd H (by simp)
      · rw [if_neg c6] at H; exact absurd H (by simp)

set_option linter.unusedVariables false
set_option linter.unusedSimpArgs false

/-! ### impl_BerGet: function 9 -/
def impl_BerGet.f (k : Nat) (a0 : ByteArray) (a1 : Int) : Option (Int × ByteArray × Int × Int) := (impl_isLong.f k (([a0] : List ByteArray))).bind fun t192 => (if t192 = true then (some (0, (⟨#[]⟩ : ByteArray), 0, 2)) else (if a1 < 0 then (some (0, (⟨#[]⟩ : ByteArray), 0, 1)) else ((impl_berGet.f k a0 a1).bind fun bt193 => (some (bt193.1, bt193.2.1, bt193.2.2.1, bt193.2.2.2)))))
theorem impl_BerGet.mono : ∀ a0 a1 k, LeO (impl_BerGet.f k a0 a1) (impl_BerGet.f (k + 1) a0 a1) := by
  intro a0 a1 k; unfold impl_BerGet.f; repeat' first
      | (with_reducible exact impl_berGet.mono _ _ _)
      | (with_reducible exact impl_isLong.mono _ _)
      | (with_reducible exact LeO.refl _)
      | (with_reducible exact LeO.none _)
      | (with_reducible refine LeO.ite ?_ ?_)
      | (with_reducible refine LeO.bind ?_ (fun _ => ?_))
set_option maxHeartbeats 8000000 in
set_option maxRecDepth 100000 in
theorem impl_BerGet.calls (k : Nat) (a0 : ByteArray) (a1 : Int) (r1 : Int) (r2 : ByteArray) (r3 : Int) (r4 : Int) (w : World) (h : impl_BerGet.f k a0 a1 = some (r1, r2, r3, r4)) :
    Calls Try.prog 9 #[.string a0, .int .i64 a1] w fun e w' => e = .returned (.agg #[.int .i64 r1, .string r2, .int .i64 r3, .int .i64 r4]) ∧ Below w.heap.size w w' := by
  have hu29 := Try.underlying29; have HB := Aside0.mk (Below.refl w.heap.size w); have H : ((impl_isLong.f k (([a0] : List ByteArray))).bind fun t192 => (if t192 = true then (some (0, (⟨#[]⟩ : ByteArray), 0, 2)) else (if a1 < 0 then (some (0, (⟨#[]⟩ : ByteArray), 0, 1)) else ((impl_berGet.f k a0 a1).bind fun bt193 => (some (bt193.1, bt193.2.1, bt193.2.2.1, bt193.2.2.2)))))) = some (r1, r2, r3, r4) := h; clear h; obtain ⟨y189, hy189⟩ : ∃ y_ : List ByteArray, y_ = (([a0] : List ByteArray)) := ⟨_, rfl⟩; replace H : ((impl_isLong.f k y189).bind fun t192 => (if t192 = true then (some (0, (⟨#[]⟩ : ByteArray), 0, 2)) else (if a1 < 0 then (some (0, (⟨#[]⟩ : ByteArray), 0, 1)) else ((impl_berGet.f k a0 a1).bind fun bt193 => (some (bt193.1, bt193.2.1, bt193.2.2.1, bt193.2.2.2)))))) = some (r1, r2, r3, r4) := by first | (rw [hy189]; with_reducible exact H) | (have H2_ := (Option.bind_some _ _).symm.trans H; rw [hy189]; with_reducible exact H2_) | (have H2_ := (Option.bind_some _ _).symm.trans H; with_reducible exact H2_) | with_reducible exact H | (rw [hy189]; exact H) | exact H
  have Ny189 := Aside0.mk hy189; clear hy189; replace H := Option.bind_eq_some_iff.mp H; obtain ⟨t192, A30, H⟩ := H; replace H : (if t192 = true then (some (0, (⟨#[]⟩ : ByteArray), 0, 2)) else (if a1 < 0 then (some (0, (⟨#[]⟩ : ByteArray), 0, 1)) else ((impl_berGet.f k a0 a1).bind fun bt193 => (some (bt193.1, bt193.2.1, bt193.2.2.1, bt193.2.2.2))))) = some (r1, r2, r3, r4) := H; have A3 := Aside0.mk A30; clear A30; by_cases c4 : t192 = true
  · subst c4; have H1 : (some (0, (⟨#[]⟩ : ByteArray), 0, 2)) = some (r1, r2, r3, r4) := by rw [if_pos rfl] at H; exact H
    clear H; have H := H1; clear H1; simp only [Option.some.injEq, Prod.mk.injEq] at H; obtain ⟨rfl, rfl, rfl, rfl⟩ := H; go_enter Try.func9, Try.ntmps9; go_wp2_with (first | ((with_reducible refine gate_dst (N := 4) rfl ?_); refine box_event ?hg (N := 4) ?hd (cs := #[.int .i64 0, .string (⟨#[]⟩ : ByteArray), .int .i64 0, .int .i64 0]) (t := 29) ?hr ?_; (case hd => rfl); (case hg => rfl); (case hr => first | (go_simp; done) | (go_simp; rfl)); intro gb188 hg w5 hbox hb; have n_ := aa (below_step By hb) <| aa (hbox) <| aa ((by rw [hg]; exact (below_size By) : w.heap.size ≤ gb188)) <| Aside0.mk ((by rw [hg]; exact (below_size By) : w.heap.size ≤ gb188)); clear HB; obtain ⟨HB, BK188, GW188, GE188⟩ := n_; clear hb hbox hg) | ((with_reducible refine gate_dst (N := 7) rfl ?_); refine Kd.R_lit Kd.string _ 9 ?hg (N := 7) ?hd (xs := ([a0] : List ByteArray)) (inner := [.string a0]) (ok := fun _ => True) (okp := fun _ => True) ?hr ?hp (fun _ hk => hk) trivial (Below.refl _ _) (Nat.le_refl _) (by simp) ?_; (case hd => rfl); (case hg => rfl); (case hr => first | (go_simp; done) | (go_simp; rfl)); (case hp => exact (Reps.one (show Kd.M Kd.string _ _ _ a0 [.string a0] from rfl) (Reps.none _ _))); intro v190 w6 ho7 hb hg_ hnew_; clear hg_ hnew_; (first | rw [← Ny189.out] at ho7 | (simp only [Int.reduceToNat] at ho7; rw [← Ny189.out] at ho7)); have n_ := aa (Kd.R_lower ho7 (below_size By)) <| aa (bb BK188.out hb) <| Aside0.mk (below_step By hb); clear BK188 HB; obtain ⟨HO191, BK188, HB⟩ := n_; clear hb ho7; obtain ⟨Ao8, co8, eo8⟩ := Kd.R_slice HO191.out; subst eo8) | ((with_reducible refine gate_callee (f := 44) rfl ?_); refine goesL_ (some 8) rfl rfl Try.func44 (by kernel_rfl) rfl #[.slice Ao8 y189.length co8] rfl Ag ?_; (with_reducible refine (impl_isLong.calls k _ _ y189 true _ ?side1 ?side2 A3.out).mono ?_); (case side1 => exact rC (Kd.R_reads' HO191.out).2.2); (case side2 => exact (Kd.R_reads' HO191.out).2.1); rintro e w' ⟨rfl, ⟨nd, rfl⟩⟩; refine ⟨_, rfl, ?_⟩; (try (rw [drewN_self w6]; generalize hq_ : World.drewN w6 _ = w6; have n0_ : Aside0 (Kd.R Kd.string 9 w6 w.heap.size (fun _ => True) (.slice Ao8 y189.length co8) y189) := ⟨by rw [← hq_]; exact (rR HO191.out)⟩; have n1_ : Aside0 (w6.heap[gb188]? = some (.cells #[.int .i64 0, .string (⟨#[]⟩ : ByteArray), .int .i64 0, .int .i64 0] 29 (0, 0))) := ⟨by rw [← hq_]; exact Pk⟩; have n2_ : Aside0 (Below w.heap.size w w6) := ⟨by rw [← hq_]; exact By⟩; clear HO191 BK188 HB hq_; have HO191 := n0_; have BK188 := n1_; have HB := n2_; clear n0_ n1_ n2_)); have ⟨hcz9_0, hcz9_1, hcz9_2, hcz9_3⟩ := cq4 BK188.out; have ⟨hfz9_0, hfz9_1, hfz9_2, hfz9_3⟩ := fq4 BK188.out)); refine bodyPost_ret (results_cell_row rfl _ _ gb188 29 #[.int .i64 0, .string (⟨#[]⟩ : ByteArray), .int .i64 0, .int .i64 2] (0, 0) _ rfl (pq4 Pk) Try.underlying29 rfl (by kernel_rfl)) rfl ?_; exact ⟨Rf, By⟩
  · replace c4 := Bool.eq_false_iff.mpr c4; subst c4; have H1 : (if a1 < 0 then (some (0, (⟨#[]⟩ : ByteArray), 0, 1)) else ((impl_berGet.f k a0 a1).bind fun bt193 => (some (bt193.1, bt193.2.1, bt193.2.2.1, bt193.2.2.2)))) = some (r1, r2, r3, r4) := by rw [if_neg (show ¬ (false = true) by decide)] at H; exact H
    clear H; have H := H1; clear H1; by_cases c10 : a1 < 0
    · rw [if_pos c10] at H; have c10b0 : decide (a1 < 0) = true := decide_eq_true c10; clear c10; simp only [Option.some.injEq, Prod.mk.injEq] at H; obtain ⟨rfl, rfl, rfl, rfl⟩ := H; go_enter Try.func9, Try.ntmps9; go_wp2_with (first | ((with_reducible refine gate_dst (N := 4) rfl ?_); refine box_event ?hg (N := 4) ?hd (cs := #[.int .i64 0, .string (⟨#[]⟩ : ByteArray), .int .i64 0, .int .i64 0]) (t := 29) ?hr ?_; (case hd => rfl); (case hg => rfl); (case hr => first | (go_simp; done) | (go_simp; rfl)); intro gb188 hg w11 hbox hb; have n_ := aa (below_step By hb) <| aa (hbox) <| aa ((by rw [hg]; exact (below_size By) : w.heap.size ≤ gb188)) <| Aside0.mk ((by rw [hg]; exact (below_size By) : w.heap.size ≤ gb188)); clear HB; obtain ⟨HB, BK188, GW188, GE188⟩ := n_; clear hb hbox hg) | ((with_reducible refine gate_dst (N := 7) rfl ?_); refine Kd.R_lit Kd.string _ 9 ?hg (N := 7) ?hd (xs := ([a0] : List ByteArray)) (inner := [.string a0]) (ok := fun _ => True) (okp := fun _ => True) ?hr ?hp (fun _ hk => hk) trivial (Below.refl _ _) (Nat.le_refl _) (by simp) ?_; (case hd => rfl); (case hg => rfl); (case hr => first | (go_simp; done) | (go_simp; rfl)); (case hp => exact (Reps.one (show Kd.M Kd.string _ _ _ a0 [.string a0] from rfl) (Reps.none _ _))); intro v190 w12 ho13 hb hg_ hnew_; clear hg_ hnew_; (first | rw [← Ny189.out] at ho13 | (simp only [Int.reduceToNat] at ho13; rw [← Ny189.out] at ho13)); have n_ := aa (Kd.R_lower ho13 (below_size By)) <| aa (bb BK188.out hb) <| Aside0.mk (below_step By hb); clear BK188 HB; obtain ⟨HO191, BK188, HB⟩ := n_; clear hb ho13; obtain ⟨Ao14, co14, eo14⟩ := Kd.R_slice HO191.out; subst eo14) | ((with_reducible refine gate_callee (f := 44) rfl ?_); refine goesL_ (some 8) rfl rfl Try.func44 (by kernel_rfl) rfl #[.slice Ao14 y189.length co14] rfl Ag ?_; (with_reducible refine (impl_isLong.calls k _ _ y189 false _ ?side1 ?side2 A3.out).mono ?_); (case side1 => exact rC (Kd.R_reads' HO191.out).2.2); (case side2 => exact (Kd.R_reads' HO191.out).2.1); rintro e w' ⟨rfl, ⟨nd, rfl⟩⟩; refine ⟨_, rfl, ?_⟩; (try (rw [drewN_self w12]; generalize hq_ : World.drewN w12 _ = w12; have n0_ : Aside0 (Kd.R Kd.string 9 w12 w.heap.size (fun _ => True) (.slice Ao14 y189.length co14) y189) := ⟨by rw [← hq_]; exact (rR HO191.out)⟩; have n1_ : Aside0 (w12.heap[gb188]? = some (.cells #[.int .i64 0, .string (⟨#[]⟩ : ByteArray), .int .i64 0, .int .i64 0] 29 (0, 0))) := ⟨by rw [← hq_]; exact Pk⟩; have n2_ : Aside0 (Below w.heap.size w w12) := ⟨by rw [← hq_]; exact By⟩; clear HO191 BK188 HB hq_; have HO191 := n0_; have BK188 := n1_; have HB := n2_; clear n0_ n1_ n2_)); have ⟨hcz15_0, hcz15_1, hcz15_2, hcz15_3⟩ := cq4 BK188.out; have ⟨hfz15_0, hfz15_1, hfz15_2, hfz15_3⟩ := fq4 BK188.out)); refine bodyPost_ret (results_cell_row rfl _ _ gb188 29 #[.int .i64 0, .string (⟨#[]⟩ : ByteArray), .int .i64 0, .int .i64 1] (0, 0) _ rfl (pq4 Pk) Try.underlying29 rfl (by kernel_rfl)) rfl ?_; exact ⟨Rf, By⟩
    · rw [if_neg c10] at H; have c10b0 : decide (a1 < 0) = false := decide_eq_false c10; clear c10; replace H := Option.bind_eq_some_iff.mp H; obtain ⟨⟨t193, t194, t195, t196⟩, A160, H⟩ := H; replace H : (some (t193, t194, t195, t196)) = some (r1, r2, r3, r4) := H; have A16 := Aside0.mk A160; clear A160; simp only [Option.some.injEq, Prod.mk.injEq] at H; obtain ⟨rfl, rfl, rfl, rfl⟩ := H; go_enter Try.func9, Try.ntmps9; go_wp2_with (first | ((with_reducible refine gate_dst (N := 4) rfl ?_); refine box_event ?hg (N := 4) ?hd (cs := #[.int .i64 0, .string (⟨#[]⟩ : ByteArray), .int .i64 0, .int .i64 0]) (t := 29) ?hr ?_; (case hd => rfl); (case hg => rfl); (case hr => first | (go_simp; done) | (go_simp; rfl)); intro gb188 hg w17 hbox hb; have n_ := aa (below_step By hb) <| aa (hbox) <| aa ((by rw [hg]; exact (below_size By) : w.heap.size ≤ gb188)) <| Aside0.mk ((by rw [hg]; exact (below_size By) : w.heap.size ≤ gb188)); clear HB; obtain ⟨HB, BK188, GW188, GE188⟩ := n_; clear hb hbox hg) | ((with_reducible refine gate_dst (N := 7) rfl ?_); refine Kd.R_lit Kd.string _ 9 ?hg (N := 7) ?hd (xs := ([a0] : List ByteArray)) (inner := [.string a0]) (ok := fun _ => True) (okp := fun _ => True) ?hr ?hp (fun _ hk => hk) trivial (Below.refl _ _) (Nat.le_refl _) (by simp) ?_; (case hd => rfl); (case hg => rfl); (case hr => first | (go_simp; done) | (go_simp; rfl)); (case hp => exact (Reps.one (show Kd.M Kd.string _ _ _ a0 [.string a0] from rfl) (Reps.none _ _))); intro v190 w18 ho19 hb hg_ hnew_; clear hg_ hnew_; (first | rw [← Ny189.out] at ho19 | (simp only [Int.reduceToNat] at ho19; rw [← Ny189.out] at ho19)); have n_ := aa (Kd.R_lower ho19 (below_size By)) <| aa (bb BK188.out hb) <| Aside0.mk (below_step By hb); clear BK188 HB; obtain ⟨HO191, BK188, HB⟩ := n_; clear hb ho19; obtain ⟨Ao20, co20, eo20⟩ := Kd.R_slice HO191.out; subst eo20) | ((with_reducible refine gate_callee (f := 44) rfl ?_); refine goesL_ (some 8) rfl rfl Try.func44 (by kernel_rfl) rfl #[.slice Ao20 y189.length co20] rfl Ag ?_; (with_reducible refine (impl_isLong.calls k _ _ y189 false _ ?side1 ?side2 A3.out).mono ?_); (case side1 => exact rC (Kd.R_reads' HO191.out).2.2); (case side2 => exact (Kd.R_reads' HO191.out).2.1); rintro e w' ⟨rfl, ⟨nd, rfl⟩⟩; refine ⟨_, rfl, ?_⟩; (try (rw [drewN_self w18]; generalize hq_ : World.drewN w18 _ = w18; have n0_ : Aside0 (Kd.R Kd.string 9 w18 w.heap.size (fun _ => True) (.slice Ao20 y189.length co20) y189) := ⟨by rw [← hq_]; exact (rR HO191.out)⟩; have n1_ : Aside0 (w18.heap[gb188]? = some (.cells #[.int .i64 0, .string (⟨#[]⟩ : ByteArray), .int .i64 0, .int .i64 0] 29 (0, 0))) := ⟨by rw [← hq_]; exact Pk⟩; have n2_ : Aside0 (Below w.heap.size w w18) := ⟨by rw [← hq_]; exact By⟩; clear HO191 BK188 HB hq_; have HO191 := n0_; have BK188 := n1_; have HB := n2_; clear n0_ n1_ n2_))) | ((with_reducible refine gate_callee (f := 45) rfl ?_); refine goesL_ (some 16) rfl rfl Try.func45 (by kernel_rfl) rfl #[.string a0, .int .i64 a1] rfl Ag ?_; (with_reducible refine (impl_berGet.calls k a0 a1 t193 t194 t195 t196 _ A16.out).mono ?_); rintro e w21 ⟨rfl, hb⟩; refine ⟨_, rfl, ?_⟩; have n_ := aa (Kd.R_below (rR HO191.out) hb) <| aa (bb BK188.out hb) <| Aside0.mk (below_step By hb); clear HO191 BK188 HB; obtain ⟨HO191, BK188, HB⟩ := n_; (try clear hb); (try clear hb2); (try clear hk); (try clear hi); have ⟨hcz22_0, hcz22_1, hcz22_2, hcz22_3⟩ := cq4 BK188.out; have ⟨hfz22_0, hfz22_1, hfz22_2, hfz22_3⟩ := fq4 BK188.out)); refine bodyPost_ret (results_cell_row rfl _ _ gb188 29 #[.int .i64 t193, .string t194, .int .i64 t195, .int .i64 t196] (0, 0) _ rfl (pq4 Pk) Try.underlying29 rfl (by kernel_rfl)) rfl ?_; exact ⟨Rf, By⟩

set_option linter.unusedVariables false
set_option linter.unusedSimpArgs false

/-! ### laws_lwAt: function 10 -/
def laws_lwAt.f (l0 : List Int) (a1 : Int) (a2 : Int) : Option (Int) := if a2 ≤ 1 then (some 0) else (if (l0.length : Int) = 0 then (some 0) else (if 0 ≤ (Int.tmod a1 (l0.length : Int)) then (if (Int.tmod a1 (l0.length : Int)) < (l0.length : Int) then (if a2 = 0 then (none) else (some (Int.tmod (wrap64 (rd l0 (Int.tmod a1 (l0.length : Int)))) a2))) else (none)) else (none)))
set_option maxHeartbeats 8000000 in
set_option maxRecDepth 100000 in
theorem laws_lwAt.calls (A0 : Option Addr) (c0 : Nat) (l0 : List Int) (a1 : Int) (a2 : Int) (r : Int) (w : World) (hr0 : Kd.C (Kd.int .u8) w A0 l0.length l0) (hc0 : l0.length ≤ c0) (h : laws_lwAt.f l0 a1 a2 = some r) :
    Calls Try.prog 10 #[.slice A0 l0.length c0, .int .i64 a1, .int .i64 a2] w fun e w' => e = .returned (.int .i64 r) ∧ Drawn0 w w' := by
  have HR0 := Aside0.mk hr0; have HC0 := Aside0.mk hc0; clear hr0 hc0; have H : (if a2 ≤ 1 then (some 0) else (if (l0.length : Int) = 0 then (some 0) else (if 0 ≤ (Int.tmod a1 (l0.length : Int)) then (if (Int.tmod a1 (l0.length : Int)) < (l0.length : Int) then (if a2 = 0 then (none) else (some (Int.tmod (wrap64 (rd l0 (Int.tmod a1 (l0.length : Int)))) a2))) else (none)) else (none)))) = some r := h; clear h; by_cases c4 : a2 ≤ 1
  · rw [if_pos c4] at H; have c4b0 : decide (a2 ≤ 1) = true := decide_eq_true c4; clear c4; obtain rfl := Option.some.inj H; go_enter Try.func10, Try.ntmps10; go_wp2; go_ret; exact ⟨by first | rfl | (simp; done) | (simp [*]; done), by repeat (first | exact Drawn0.refl _ | apply Drawn0.step)⟩
  · rw [if_neg c4] at H; have c4b0 : decide (a2 ≤ 1) = false := decide_eq_false c4; clear c4; by_cases c5 : (l0.length : Int) = 0
    · rw [if_pos c5] at H; have c5b0 : ((l0.length : Int) == 0) = true := beq_iff_eq.mpr c5; have c5b1 : ((l0.length : Int) != 0) = false := bne_eq_false_iff_eq.mpr c5; clear c5; obtain rfl := Option.some.inj H; go_enter Try.func10, Try.ntmps10; go_wp2; go_ret; exact ⟨by first | rfl | (simp; done) | (simp [*]; done), by repeat (first | exact Drawn0.refl _ | apply Drawn0.step)⟩
    · rw [if_neg c5] at H; have c5b0 : ((l0.length : Int) == 0) = false := beq_eq_false_iff_ne.mpr c5; have c5b1 : ((l0.length : Int) != 0) = true := bne_iff_ne.mpr c5; have c5b2 : ¬ (l0 = []) := fun h_ => c5 (by rw [h_]; rfl)
      obtain ⟨ji6, hji6⟩ : ∃ j_ : Int, (Int.tmod a1 (l0.length : Int)) = j_ := ⟨_, rfl⟩; replace H : (if 0 ≤ (ji6) then (if (ji6) < (l0.length : Int) then (if a2 = 0 then (none) else (some (Int.tmod (wrap64 (rd l0 (ji6))) a2))) else (none)) else (none)) = some r := by first | (rw [hji6] at H; exact H) | (simp only [hji6] at H ⊢; exact H)
      by_cases c7 : 0 ≤ (ji6)
      · rw [if_pos c7] at H; have c7b0 : decide (0 ≤ (ji6)) = true := decide_eq_true c7; clear c7; by_cases c8 : (ji6) < (l0.length : Int)
        · rw [if_pos c8] at H; have c8b0 : decide ((ji6) < (l0.length : Int)) = true := decide_eq_true c8; clear c8; by_cases c9 : a2 = 0
          · rw [if_pos c9] at H; exact absurd H (by simp)
          · rw [if_neg c9] at H; have c9b0 : (a2 == 0) = false := beq_eq_false_iff_ne.mpr c9; have c9b1 : (a2 != 0) = true := bne_iff_ne.mpr c9; obtain rfl := Option.some.inj H; have p197 : 0 ≤ ((ji6) : Int) := of_decide_eq_true Da; have q197 : (ji6) < (l0.length : Int) := of_decide_eq_true Da; obtain ⟨ad197, e197, hx197_0⟩ := Kd.at_int HR0.out (ji6) p197 q197; cases e197
            replace p197 := eq_true p197; replace q197 := eq_true q197; go_enter Try.func10, Try.ntmps10; go_wp2; go_ret; exact ⟨by first | rfl | (simp; done) | (simp only [← hji6] <;> (first | rfl | simp)) | (simp [*]; done), by repeat (first | exact Drawn0.refl _ | apply Drawn0.step)⟩
        · rw [if_neg c8] at H; exact absurd H (by simp)
      · rw [if_neg c7] at H; exact absurd H (by simp)

set_option linter.unusedVariables false
set_option linter.unusedSimpArgs false

attribute [local go_sem high] eqA27
/-! ### laws_lwTlvs: function 11 -/
def laws_lwTlvs.l0 : Nat → List (S27) → List (S27) → Int → Option (Bool)
  | 0, _, _, _ => none
  | k + 1, x0, x1, x5 => if x5 < (x0.length : Int) then (if 0 ≤ x5 then (if x5 < (x1.length : Int) then (if (!(((rd_T27 x0 x5).f0) == ((rd_T27 x1 x5).f0)) || (!((((rd_T27 x0 x5).f1).toList) == (((rd_T27 x1 x5).f1).toList)))) = true then (some false) else (laws_lwTlvs.l0 k x0 x1 (wrap64 (x5 + 1)))) else (none)) else (none)) else (some true)
def laws_lwTlvs.f (k : Nat) (l0 : List (S27)) (l1 : List (S27)) : Option (Bool) := if (l0.length : Int) = (l1.length : Int) then (laws_lwTlvs.l0 k l0 l1 0) else (some false)
theorem laws_lwTlvs.mono_l : ∀ k, (∀ y0 y1 y2, LeO (laws_lwTlvs.l0 k y0 y1 y2) (laws_lwTlvs.l0 (k + 1) y0 y1 y2))
  | 0 => fun _ _ _ r h => by simp [laws_lwTlvs.l0] at h
  | k + 1 => by
    have ih0 := laws_lwTlvs.mono_l k
    · intro y0 y1 y2; unfold laws_lwTlvs.l0; repeat' first
      | (with_reducible exact ih0 _ _ _)
      | (with_reducible exact LeO.refl _)
      | (with_reducible exact LeO.none _)
      | (with_reducible refine LeO.ite ?_ ?_)
      | (with_reducible refine LeO.bind ?_ (fun _ => ?_))
theorem laws_lwTlvs.mono : ∀ a0 a1 k, LeO (laws_lwTlvs.f k a0 a1) (laws_lwTlvs.f (k + 1) a0 a1) := by
  intro a0 a1 k; have ih0 := laws_lwTlvs.mono_l k; unfold laws_lwTlvs.f; repeat' first
      | (with_reducible exact ih0 _ _ _)
      | (with_reducible exact LeO.refl _)
      | (with_reducible exact LeO.none _)
      | (with_reducible refine LeO.ite ?_ ?_)
      | (with_reducible refine LeO.bind ?_ (fun _ => ?_))
set_option maxHeartbeats 8000000 in
set_option maxRecDepth 100000 in
theorem laws_lwTlvs.calls (k : Nat) (A0 : Option Addr) (c0 : Nat) (l0 : List (S27)) (A1 : Option Addr) (c1 : Nat) (l1 : List (S27)) (r : Bool) (w : World) (hr0 : Kd.C k27 w A0 l0.length l0) (hc0 : l0.length ≤ c0) (hr1 : Kd.C k27 w A1 l1.length l1) (hc1 : l1.length ≤ c1) (h : laws_lwTlvs.f k l0 l1 = some r) :
    Calls Try.prog 11 #[.slice A0 l0.length c0, .slice A1 l1.length c1] w fun e w' => e = .returned (.bool r) ∧ Drawn0 w w' := by
  have hu27 := Try.underlying27; have HR0 := Aside0.mk hr0; have HC0 := Aside0.mk hc0; clear hr0 hc0; have HR1 := Aside0.mk hr1; have HC1 := Aside0.mk hc1; clear hr1 hc1; have H : (if (l0.length : Int) = (l1.length : Int) then (laws_lwTlvs.l0 k l0 l1 0) else (some false)) = some r := h; clear h; by_cases c3 : (l0.length : Int) = (l1.length : Int)
  · rw [if_pos c3] at H; have c3b0 : ((l0.length : Int) == (l1.length : Int)) = true := beq_iff_eq.mpr c3; have c3b1 : ((l0.length : Int) != (l1.length : Int)) = false := bne_eq_false_iff_eq.mpr c3; have c3b2 : (l0.length == l1.length) = true := by first | simpa using c3 | (simp at c3 ⊢; omega)
    clear c3; have H' := Aside0.mk H; clear H; go_enter Try.func11, Try.ntmps11; go_wp2; repeat (go_quiet (fail); try go_wp2)
    go_loopg [5] k (fun kq v5 w' => ∃ (x5_1 : Int), v5 = .int .i64 x5_1 ∧ Aside0 (laws_lwTlvs.l0 kq l0 l1 x5_1 = some r) ∧ Aside0 (kq ≤ k) ∧ Drawn0 w w')
    case atStart => exact ⟨(0), (by first | rfl | (simp; done) | (simp [*]; done)), H', ⟨Nat.le_refl _⟩, by repeat (first | exact Drawn0.refl _ | apply Drawn0.step)⟩
    case round =>
      clear H'; try clear c1
      try clear p2
      try clear c3
      try clear c3b0
      try clear c3b1
      try clear c3b2
      obtain ⟨x5_1, rfl, HA, HK1, ⟨m1, rfl⟩⟩ := hrel; cases gk with
      | zero => exact absurd HA.out (by simp [laws_lwTlvs.l0])
      | succ k1 =>
        have H := HA.out; clear HA; simp only [laws_lwTlvs.l0] at H; by_cases c4 : x5_1 < (l0.length : Int)
        · rw [if_pos c4] at H; have c4b0 : decide (x5_1 < (l0.length : Int)) = true := decide_eq_true c4; clear c4; by_cases c5 : 0 ≤ x5_1
          · rw [if_pos c5] at H; have c5b0 : decide (0 ≤ x5_1) = true := decide_eq_true c5; clear c5; by_cases c6 : x5_1 < (l1.length : Int)
            · rw [if_pos c6] at H; have c6b0 : decide (x5_1 < (l1.length : Int)) = true := decide_eq_true c6; clear c6; by_cases c7 : (!(((rd_T27 l0 x5_1).f0) == ((rd_T27 l1 x5_1).f0)) || (!((((rd_T27 l0 x5_1).f1).toList) == (((rd_T27 l1 x5_1).f1).toList)))) = true
              · rw [if_pos c7] at H; have c7b0 : (!(((rd_T27 l0 x5_1).f0) == ((rd_T27 l1 x5_1).f0)) || (!((((rd_T27 l0 x5_1).f1).toList) == (((rd_T27 l1 x5_1).f1).toList)))) = true := c7; clear c7; obtain rfl := Option.some.inj H; have p198 : 0 ≤ (x5_1 : Int) := of_decide_eq_true Da; have q198 : x5_1 < (l0.length : Int) := of_decide_eq_true Da; obtain ⟨ad198, e198, hx198_0, hx198_1⟩ := at_T27 HR0.out x5_1 p198 q198; cases e198
                replace p198 := eq_true p198; replace q198 := eq_true q198; have p199 : 0 ≤ (x5_1 : Int) := of_decide_eq_true Da; have q199 : x5_1 < (l1.length : Int) := of_decide_eq_true Da; obtain ⟨ad199, e199, hx199_0, hx199_1⟩ := at_T27 HR1.out x5_1 p199 q199; cases e199
                replace p199 := eq_true p199; replace q199 := eq_true q199; go_wp2; repeat (go_quiet (fail); try go_wp2)
                go_ret; exact ⟨by first | rfl | (simp; done) | (simp [*]; done), by repeat (first | exact Drawn0.refl _ | apply Drawn0.step)⟩
              · rw [if_neg c7] at H; have c7b0 : (!(((rd_T27 l0 x5_1).f0) == ((rd_T27 l1 x5_1).f0)) || (!((((rd_T27 l0 x5_1).f1).toList) == (((rd_T27 l1 x5_1).f1).toList)))) = false := by simpa using c7
                clear c7; have H' := Aside0.mk H; clear H; have p198 : 0 ≤ (x5_1 : Int) := of_decide_eq_true Da; have q198 : x5_1 < (l0.length : Int) := of_decide_eq_true Da; obtain ⟨ad198, e198, hx198_0, hx198_1⟩ := at_T27 HR0.out x5_1 p198 q198; cases e198
                replace p198 := eq_true p198; replace q198 := eq_true q198; have p199 : 0 ≤ (x5_1 : Int) := of_decide_eq_true Da; have q199 : x5_1 < (l1.length : Int) := of_decide_eq_true Da; obtain ⟨ad199, e199, hx199_0, hx199_1⟩ := at_T27 HR1.out x5_1 p199 q199; cases e199
                replace p199 := eq_true p199; replace q199 := eq_true q199; go_wp2; repeat (go_quiet (fail); try go_wp2)
                go_roundg k1
                case measure => have := HK1.out; omega
                case rel => exact ⟨(wrap64 (x5_1 + 1)), (by first | rfl | (simp; done) | (simp [*]; done)), H', ⟨by have := HK1.out; omega⟩, by repeat (first | exact Drawn0.refl _ | apply Drawn0.step)⟩
            · rw [if_neg c6] at H; exact absurd H (by simp)
          · rw [if_neg c5] at H; exact absurd H (by simp)
        · rw [if_neg c4] at H; have c4b0 : decide (x5_1 < (l0.length : Int)) = false := decide_eq_false c4; clear c4; obtain rfl := Option.some.inj H; go_wp2; repeat (go_quiet (fail); try go_wp2)
          go_ret; exact ⟨by first | rfl | (simp; done) | (simp [*]; done), by repeat (first | exact Drawn0.refl _ | apply Drawn0.step)⟩
  · rw [if_neg c3] at H; have c3b0 : ((l0.length : Int) == (l1.length : Int)) = false := beq_eq_false_iff_ne.mpr c3; have c3b1 : ((l0.length : Int) != (l1.length : Int)) = true := bne_iff_ne.mpr c3; have c3b2 : (l0.length == l1.length) = false := by first | simpa using c3 | (simp at c3 ⊢; omega)
    obtain rfl := Option.some.inj H; go_enter Try.func11, Try.ntmps11; go_wp2; repeat (go_quiet (fail); try go_wp2)
    go_ret; exact ⟨by first | rfl | (simp; done) | (simp [*]; done), by repeat (first | exact Drawn0.refl _ | apply Drawn0.step)⟩

set_option linter.unusedVariables false
set_option linter.unusedSimpArgs false

/-! ### impl_berAll: function 46 -/
def impl_berAll.l0 : Nat → ByteArray → List (S27) → Int → Option ((List (S27)) × Int)
  | 0, _, _, _ => none
  | k + 1, x0, x4, x5 => if x5 < (x0.size : Int) then ((impl_berGet.f k x0 x5).bind fun bt203 => (if bt203.2.2.2 = 0 then (if (x4.length : Int) = 60 then (some (([] : List (S27)), 9)) else (if x4.length < 5864062014805 then (impl_berAll.l0 k x0 (x4 ++ [(⟨bt203.1, bt203.2.1⟩ : S27)]) bt203.2.2.1) else (none))) else (some (([] : List (S27)), bt203.2.2.2)))) else (some (x4, 0))
def impl_berAll.f (k : Nat) (a0 : ByteArray) : Option ((List (S27)) × Int) := impl_berAll.l0 k a0 (([] : List (S27))) 0
theorem impl_berAll.mono_l : ∀ k, (∀ y0 y1 y2, LeO (impl_berAll.l0 k y0 y1 y2) (impl_berAll.l0 (k + 1) y0 y1 y2))
  | 0 => fun _ _ _ r h => by simp [impl_berAll.l0] at h
  | k + 1 => by
    have ih0 := impl_berAll.mono_l k
    · intro y0 y1 y2; unfold impl_berAll.l0; repeat' first
      | (with_reducible exact ih0 _ _ _)
      | (with_reducible exact impl_berGet.mono _ _ _)
      | (with_reducible exact LeO.refl _)
      | (with_reducible exact LeO.none _)
      | (with_reducible refine LeO.ite ?_ ?_)
      | (with_reducible refine LeO.bind ?_ (fun _ => ?_))
theorem impl_berAll.mono : ∀ a0 k, LeO (impl_berAll.f k a0) (impl_berAll.f (k + 1) a0) := by
  intro a0 k; have ih0 := impl_berAll.mono_l k; unfold impl_berAll.f; repeat' first
      | (with_reducible exact ih0 _ _ _)
      | (with_reducible exact impl_berGet.mono _ _ _)
      | (with_reducible exact LeO.refl _)
      | (with_reducible exact LeO.none _)
      | (with_reducible refine LeO.ite ?_ ?_)
      | (with_reducible refine LeO.bind ?_ (fun _ => ?_))
def impl_berAll.T9 : Bool × List (List Nat × List Nat) := (true, [([], []), ([], []), ([1], [1]), ([2], [2]), ([0, 3], [0, 3]), ([], []), ([5], [5]), ([4, 4, 0, 1, 2, 3, 4], [0, 4]), ([6, 7, 0, 1, 2, 3, 4, 5, 6, 7], [6])])
def impl_berAll.B9 : List Nat := [0, 0, 2, 6, 15, 0, 32, 31, 255]
theorem impl_berAll.tab9 : rtab .any (opsOf Try.f46 9) = impl_berAll.T9 := by kernel_rfl
theorem impl_berAll.bits9 : waitsOk impl_berAll.T9.2 impl_berAll.B9 = true := by kernel_rfl
set_option maxHeartbeats 8000000 in
set_option maxRecDepth 100000 in
theorem impl_berAll.calls (k : Nat) (a0 : ByteArray) (r1 : List (S27)) (r2 : Int) (w : World) (h : impl_berAll.f k a0 = some (r1, r2)) :
    Calls Try.prog 46 #[.string a0] w fun e w' => ∃ v0_ : Value, e = .returned (.tuple #[v0_, .int .i64 r2]) ∧ Kd.R k27 27 w' w.heap.size (fun _ => True) v0_ r1 ∧ Below w.heap.size w w' := by
  have hu29 := Try.underlying29; have hu27 := Try.underlying27; have HB := Aside0.mk (Below.refl w.heap.size w); have H : (impl_berAll.l0 k a0 (([] : List (S27))) 0) = some (r1, r2) := h; clear h; obtain ⟨y200, hy200⟩ : ∃ y_ : List (S27), y_ = (([] : List (S27))) := ⟨_, rfl⟩; replace H : (impl_berAll.l0 k a0 y200 0) = some (r1, r2) := by first | (rw [hy200]; with_reducible exact H) | (have H2_ := (Option.bind_some _ _).symm.trans H; rw [hy200]; with_reducible exact H2_) | (have H2_ := (Option.bind_some _ _).symm.trans H; with_reducible exact H2_) | with_reducible exact H | (rw [hy200]; exact H) | exact H
  have Ny200 := Aside0.mk hy200; clear hy200; have H' := Aside0.mk H; clear H; go_enter Try.func46, Try.ntmps46; go_wp2_with (first | ((with_reducible refine gate_dst (N := 7) rfl ?_); refine Kd.R_lit k27 _ 27 ?hg (N := 7) ?hd (xs := ([] : List (S27))) (inner := []) (ok := fun _ => True) (okp := fun _ => True) ?hr ?hp (fun _ hk => hk) trivial (Below.refl _ _) (Nat.le_refl _) (by simp) ?_; (case hd => rfl); (case hg => rfl); (case hr => first | (go_simp; done) | (go_simp; rfl)); (case hp => exact (Reps.none _ _)); intro v201 w2 ho3 hb hg_ hnew_; clear hg_ hnew_; (first | rw [← Ny200.out] at ho3 | (simp only [Int.reduceToNat] at ho3; rw [← Ny200.out] at ho3)); have n_ := aa (Kd.R_lower ho3 (below_size By)) <| Aside0.mk (below_step By hb); clear HB; obtain ⟨HO202, HB⟩ := n_; clear hb ho3)); go_loopg [4, 5] k (fun kq v4 v5 w' => ∃ (x4_1 : List (S27)) (x5_1 : Int), v5 = .int .i64 x5_1 ∧ Aside0 (impl_berAll.l0 kq a0 x4_1 x5_1 = some (r1, r2)) ∧ Aside0 (kq ≤ k) ∧ Aside0 (Kd.R k27 27 w' w.heap.size (fun _ => True) v4 x4_1) ∧ Aside0 (Below w.heap.size w w'))
  case atStart => exact ⟨(y200), (0), (by first | rfl | (simp; done) | (simp [*]; done)), H', ⟨Nat.le_refl _⟩, ⟨by (with_reducible repeat (first | apply Kd.R_alloc | apply Kd.R_drewN | apply Kd.R_drew)); exact HO202.out⟩, ⟨By⟩⟩
  case round =>
    clear H'; try clear p2
    obtain ⟨x4_1, x5_1, rfl, HA, HK1, HO_4, HB⟩ := hrel; cases gk with
    | zero => exact absurd HA.out (by simp [impl_berAll.l0])
    | succ k1 =>
      have H := HA.out; clear HA; simp only [impl_berAll.l0] at H; by_cases c4 : x5_1 < (a0.size : Int)
      · rw [if_pos c4] at H; have c4b0 : decide (x5_1 < (a0.size : Int)) = true := decide_eq_true c4; clear c4; replace H := Option.bind_eq_some_iff.mp H; obtain ⟨⟨t203, t204, t205, t206⟩, A50, H⟩ := H; replace H : (if t206 = 0 then (if (x4_1.length : Int) = 60 then (some (([] : List (S27)), 9)) else (if x4_1.length < 5864062014805 then (impl_berAll.l0 k1 a0 (x4_1 ++ [(⟨t203, t204⟩ : S27)]) t205) else (none))) else (some (([] : List (S27)), t206))) = some (r1, r2) := H; have A5 := Aside0.mk A50; clear A50; by_cases c6 : t206 = 0
        · rw [if_pos c6] at H; have c6b0 : (t206 == 0) = true := beq_iff_eq.mpr c6; have c6b1 : (t206 != 0) = false := bne_eq_false_iff_eq.mpr c6; clear c6; by_cases c7 : (x4_1.length : Int) = 60
          · rw [if_pos c7] at H; have c7b0 : ((x4_1.length : Int) == 60) = true := beq_iff_eq.mpr c7; have c7b1 : ((x4_1.length : Int) != 60) = false := bne_eq_false_iff_eq.mpr c7; clear c7; simp only [Option.some.injEq, Prod.mk.injEq] at H; obtain ⟨rfl, rfl⟩ := H; go_wp2_with (first | ((with_reducible refine gate_callee (f := 45) rfl ?_); refine goesL_ (some 14) rfl rfl Try.func45 (by kernel_rfl) rfl #[.string a0, .int .i64 x5_1] rfl Ag ?_; (with_reducible refine (impl_berGet.calls k1 a0 x5_1 t203 t204 t205 t206 _ A5.out).mono ?_); rintro e w8 ⟨rfl, hb⟩; refine ⟨_, rfl, ?_⟩; have n_ := aa (Kd.R_below (rR HO_4.out) hb) <| Aside0.mk (below_step By hb); clear HO_4 HB; obtain ⟨HO_4, HB⟩ := n_; (try clear hb); (try clear hb2); (try clear hk); (try clear hi)) | ((with_reducible refine gate_dst (N := 6) rfl ?_); refine box_event ?hg (N := 6) ?hd (cs := #[.int .i64 0, .string (⟨#[]⟩ : ByteArray), .int .i64 0, .int .i64 0]) (t := 29) ?hr ?_; (case hd => rfl); (case hg => rfl); (case hr => first | (go_simp; done) | (go_simp; rfl)); intro gb207 hg w9 hbox hb; have n_ := aa (Kd.R_below (rR HO_4.out) hb) <| aa (below_step By hb) <| aa (hbox) <| aa ((by rw [hg]; exact (below_size By) : w.heap.size ≤ gb207)) <| Aside0.mk ((by rw [hg]; exact (below_size By) : w.heap.size ≤ gb207)); clear HO_4 HB; obtain ⟨HO_4, HB, BK207, GW207, GE207⟩ := n_; clear hb hbox hg; have ⟨hcz10_0, hcz10_1, hcz10_2, hcz10_3⟩ := cq4 BK207.out; have ⟨hfz10_0, hfz10_1, hfz10_2, hfz10_3⟩ := fq4 BK207.out; obtain ⟨Ao11, co11, eo11⟩ := Kd.R_slice HO_4.out; subst eo11)); go_ret2; exact ⟨_, Rf, by first | exact Kd.R_nil _ _ _ _ _ | exact Kd.N_nil _ _ _ _ _ | exact Kd.V_nil _ _ _ _ _ | exact Kd.Q_nil _ _ _ _ _ | exact Kd.S_nil _ _ _ _ _, By⟩
          · rw [if_neg c7] at H; have c7b0 : ((x4_1.length : Int) == 60) = false := beq_eq_false_iff_ne.mpr c7; have c7b1 : ((x4_1.length : Int) != 60) = true := bne_iff_ne.mpr c7; by_cases c12 : x4_1.length < 5864062014805
            · rw [if_pos c12] at H; have LMc12 := Aside0.mk c12; clear c12; obtain ⟨y208, hy208⟩ : ∃ y_ : List (S27), y_ = (x4_1 ++ [(⟨t203, t204⟩ : S27)]) := ⟨_, rfl⟩; replace H : (impl_berAll.l0 k1 a0 y208 t205) = some (r1, r2) := by first | (rw [hy208]; with_reducible exact H) | (have H2_ := (Option.bind_some _ _).symm.trans H; rw [hy208]; with_reducible exact H2_) | (have H2_ := (Option.bind_some _ _).symm.trans H; with_reducible exact H2_) | with_reducible exact H | (rw [hy208]; exact H) | exact H
              have Ny208 := Aside0.mk hy208; clear hy208; have H' := Aside0.mk H; clear H; try go_wp2_with (first | ((with_reducible refine gate_callee (f := 45) rfl ?_); refine goesL_ (some 14) rfl rfl Try.func45 (by kernel_rfl) rfl #[.string a0, .int .i64 x5_1] rfl Ag ?_; (with_reducible refine (impl_berGet.calls k1 a0 x5_1 t203 t204 t205 t206 _ A5.out).mono ?_); rintro e w13 ⟨rfl, hb⟩; refine ⟨_, rfl, ?_⟩; have n_ := aa (Kd.R_below (rR HO_4.out) hb) <| Aside0.mk (below_step By hb); clear HO_4 HB; obtain ⟨HO_4, HB⟩ := n_; (try clear hb); (try clear hb2); (try clear hk); (try clear hi)) | ((with_reducible refine gate_dst (N := 6) rfl ?_); refine box_event ?hg (N := 6) ?hd (cs := #[.int .i64 0, .string (⟨#[]⟩ : ByteArray), .int .i64 0, .int .i64 0]) (t := 29) ?hr ?_; (case hd => rfl); (case hg => rfl); (case hr => first | (go_simp; done) | (go_simp; rfl)); intro gb207 hg w14 hbox hb; have n_ := aa (Kd.R_below (rR HO_4.out) hb) <| aa (below_step By hb) <| aa (hbox) <| aa ((by rw [hg]; exact (below_size By) : w.heap.size ≤ gb207)) <| Aside0.mk ((by rw [hg]; exact (below_size By) : w.heap.size ≤ gb207)); clear HO_4 HB; obtain ⟨HO_4, HB, BK207, GW207, GE207⟩ := n_; clear hb hbox hg; have ⟨hcz15_0, hcz15_1, hcz15_2, hcz15_3⟩ := cq4 BK207.out; have ⟨hfz15_0, hfz15_1, hfz15_2, hfz15_3⟩ := fq4 BK207.out; obtain ⟨Ao16, co16, eo16⟩ := Kd.R_slice HO_4.out; subst eo16))
              have n0_ : Aside0 (Kd.R k27 27 ((((w14.setCell ⟨gb207, 0, none⟩ (.int .i64 t203)).setCell ⟨gb207, 1, none⟩ (.string t204)).setCell ⟨gb207, 2, none⟩ (.int .i64 t205)).setCell ⟨gb207, 3, none⟩ (.int .i64 t206)) w.heap.size (fun _ => True) (.slice Ao16 x4_1.length co16) x4_1) := ⟨by (with_reducible repeat (first | apply Kd.R_alloc | apply Kd.R_drewN | apply Kd.R_drew)); exact Kd.R_mono (Kd.R_far (p := ⟨gb207, 3, none⟩) (Kd.R_far (p := ⟨gb207, 2, none⟩) (Kd.R_far (p := ⟨gb207, 1, none⟩) (Kd.R_far (p := ⟨gb207, 0, none⟩) (Kd.R_types HO_4.out BK207.out (by decide)) (fun _ hk => hk.2) (.int .i64 t203)) (fun _ hk => hk.2) (.string t204)) (fun _ hk => hk.2) (.int .i64 t205)) (fun _ hk => hk.2) (.int .i64 t206)) (fun _ hk => trivial)⟩; have n1_ : Aside0 (((((w14.setCell ⟨gb207, 0, none⟩ (.int .i64 t203)).setCell ⟨gb207, 1, none⟩ (.string t204)).setCell ⟨gb207, 2, none⟩ (.int .i64 t205)).setCell ⟨gb207, 3, none⟩ (.int .i64 t206)).heap[gb207]? = some (.cells #[.int .i64 t203, .string t204, .int .i64 t205, .int .i64 t206] 29 (0, 0))) := ⟨(pq4 Pk)⟩; have n2_ : Aside0 (Below w.heap.size w ((((w14.setCell ⟨gb207, 0, none⟩ (.int .i64 t203)).setCell ⟨gb207, 1, none⟩ (.string t204)).setCell ⟨gb207, 2, none⟩ (.int .i64 t205)).setCell ⟨gb207, 3, none⟩ (.int .i64 t206))) := ⟨By⟩; (try clear HO_4); (try clear BK207); (try clear HB); generalize ((((w14.setCell ⟨gb207, 0, none⟩ (.int .i64 t203)).setCell ⟨gb207, 1, none⟩ (.string t204)).setCell ⟨gb207, 2, none⟩ (.int .i64 t205)).setCell ⟨gb207, 3, none⟩ (.int .i64 t206)) = w17 at n0_ n1_ n2_ ⊢; have HO_4 := n0_; have BK207 := n1_; have HB := n2_; clear n0_ n1_ n2_; have n_ := aa (Kd.R_drew HO_4.out) <| aa (blk_drew BK207.out) <| Aside0.mk (below_drew1 HB.out); clear HO_4 BK207 HB; obtain ⟨HO_4, BK207, HB⟩ := n_; refine start_ (n := 9) (S := fun w' => w'.cell? ⟨gb207, 0, none⟩ = some (.int .i64 t203) ∧ w'.cell? ⟨gb207, 1, none⟩ = some (.string t204) ∧ w'.cell? ⟨gb207, 2, none⟩ = some (.int .i64 t205) ∧ w'.cell? ⟨gb207, 3, none⟩ = some (.int .i64 t206)) (ds := []) (bv 9 0) (by kernel_rfl) rfl rfl ⟨bc BK207.out 0, bc BK207.out 1, bc BK207.out 2, bc BK207.out 3⟩ (fun hHeld => ?_); refine with_tabW impl_berAll.tab9 impl_berAll.bits9 (fun HT_ HW_ => ?_); generalize w17.drew = w18 at HO_4 BK207 HB hHeld ⊢; refine pu 0 25 (bv 9 1) HT_.out (h := ?_); refine pu 1 26 (bv 9 3) HT_.out (h := ?_); refine pu 5 30 (bv 9 35) HT_.out (h := ?_); refine tk 2 27 (bv 9 39) HT_.out HW_.out hHeld (h := ?_); refine tk 6 31 (bv 9 103) HT_.out HW_.out hHeld (h := ?_); refine one_ (i := 3) (N := some 28) (bv 9 111) rfl rfl (one_of HT_.out (by kernel_rfl)) (by decide) (fun K hK => ?_); refine value_ (w1 := ?_) (v := ?_) (by rfl) rfl ?_ ?_; rotate_left 2
              · go_simp; constructor
                · rfl
                · rfl
              refine hK.out _ _ ⟨(blk_cell (blk_alloc BK207.out _) 0).trans rfl, (blk_cell (blk_alloc BK207.out _) 1).trans rfl, (blk_cell (blk_alloc BK207.out _) 2).trans rfl, (blk_cell (blk_alloc BK207.out _) 3).trans rfl⟩ (fun hHeld => ?_); clear hK K; refine norm_ (a' := ?_) ?_ ?_; rotate_left
              · show Act.put _ (some 28) _ = _; simp only [Act.put, List.setIfInBounds_toArray, List.set_cons_zero, List.set_cons_succ, i64_w, i32_w]; rfl
              refine one_ (i := 4) (N := some 29) (bv 9 127) rfl rfl (one_of HT_.out (by kernel_rfl)) (by decide) (fun K hK => ?_); refine Kd.R_append_step k27 (w0 := w) w.heap.size (by rfl) (.tmp 25) (.tmp 28) 33 27 (.agg #[(.int .i64 0), (.string ⟨#[]⟩)]) 24 rfl Try.underlying33 info27 rfl (by decide) (by omega) (.slice Ao16 x4_1.length co16) x4_1 (⟨t203, t204⟩ : S27) [.int .i64 t203, .string t204] (fun _ => True) (fun _ => False) rfl rfl ?aP (fun _ hk => hk.elim) ?aF ?aO ?aB ?aS ?aL ?_
              (case aP => exact k27_mkM _ _ _ (⟨t203, t204⟩ : S27))
              (case aB => exact By)
              (case aF => exact (fun _ _ => trivial))
              (case aO => exact (rR HO_4.out))
              (case aS => exact (below_size By))
              (case aL => have := LMc12.out; omega)
              intro v209 w19 ho hb hg hat; rw [← Ny208.out] at ho; have n0_ := Aside0.mk (blk_grown (g := gb207) (o := .cells #[.int .i64 t203, .string t204, .int .i64 t205, .int .i64 t206] 29 (0, 0)) Pk hg (Kd.R_ne HO_4.out BK207.out (by decide))); have n1_ := Aside0.mk (hb); have n2_ := Aside0.mk (ho); clear BK207; clear HB; clear HO_4; have BK207 := n0_; have HB := n1_; have HO210 := n2_; clear n0_ n1_ n2_; clear ho hb hg hat; refine hK.out _ _ ⟨bc BK207.out 0, bc BK207.out 1, bc BK207.out 2, bc BK207.out 3⟩ (fun hHeld => ?_); clear hK K; refine norm_ (a' := ?_) ?_ ?_; rotate_left
              · show Act.put _ (some 29) _ = _; simp only [Act.put, List.setIfInBounds_toArray, List.set_cons_zero, List.set_cons_succ, i64_w, i32_w]; rfl
              refine pu 7 4 (bv 9 255) HT_.out (h := ?_); refine pu 8 5 (bv 9 511) HT_.out (h := ?_); refine done_ (done_of HT_.out (by kernel_rfl)) ?_; try go_wp2
              go_roundg k1
              case measure => have := HK1.out; omega
              case rel => exact ⟨(y208), (t205), (by first | rfl | (simp; done) | (simp [*]; done)), H', ⟨by have := HK1.out; omega⟩, ⟨by (with_reducible repeat (first | apply Kd.R_alloc | apply Kd.R_drewN | apply Kd.R_drew)); exact HO210.out⟩, ⟨By⟩⟩
            · rw [if_neg c12] at H; exact absurd H (by simp)
        · rw [if_neg c6] at H; have c6b0 : (t206 == 0) = false := beq_eq_false_iff_ne.mpr c6; have c6b1 : (t206 != 0) = true := bne_iff_ne.mpr c6; simp only [Option.some.injEq, Prod.mk.injEq] at H; obtain ⟨rfl, rfl⟩ := H; try go_wp2_with (first | ((with_reducible refine gate_callee (f := 45) rfl ?_); refine goesL_ (some 14) rfl rfl Try.func45 (by kernel_rfl) rfl #[.string a0, .int .i64 x5_1] rfl Ag ?_; (with_reducible refine (impl_berGet.calls k1 a0 x5_1 t203 t204 t205 t206 _ A5.out).mono ?_); rintro e w20 ⟨rfl, hb⟩; refine ⟨_, rfl, ?_⟩; have n_ := aa (Kd.R_below (rR HO_4.out) hb) <| Aside0.mk (below_step By hb); clear HO_4 HB; obtain ⟨HO_4, HB⟩ := n_; (try clear hb); (try clear hb2); (try clear hk); (try clear hi)) | ((with_reducible refine gate_dst (N := 6) rfl ?_); refine box_event ?hg (N := 6) ?hd (cs := #[.int .i64 0, .string (⟨#[]⟩ : ByteArray), .int .i64 0, .int .i64 0]) (t := 29) ?hr ?_; (case hd => rfl); (case hg => rfl); (case hr => first | (go_simp; done) | (go_simp; rfl)); intro gb207 hg w21 hbox hb; have n_ := aa (Kd.R_below (rR HO_4.out) hb) <| aa (below_step By hb) <| aa (hbox) <| aa ((by rw [hg]; exact (below_size By) : w.heap.size ≤ gb207)) <| Aside0.mk ((by rw [hg]; exact (below_size By) : w.heap.size ≤ gb207)); clear HO_4 HB; obtain ⟨HO_4, HB, BK207, GW207, GE207⟩ := n_; clear hb hbox hg; have ⟨hcz22_0, hcz22_1, hcz22_2, hcz22_3⟩ := cq4 BK207.out; have ⟨hfz22_0, hfz22_1, hfz22_2, hfz22_3⟩ := fq4 BK207.out))
          have n0_ : Aside0 (Kd.R k27 27 ((((w21.setCell ⟨gb207, 0, none⟩ (.int .i64 t203)).setCell ⟨gb207, 1, none⟩ (.string t204)).setCell ⟨gb207, 2, none⟩ (.int .i64 t205)).setCell ⟨gb207, 3, none⟩ (.int .i64 t206)) w.heap.size (fun _ => True) u4 x4_1) := ⟨by (with_reducible repeat (first | apply Kd.R_alloc | apply Kd.R_drewN | apply Kd.R_drew)); exact Kd.R_mono (Kd.R_far (p := ⟨gb207, 3, none⟩) (Kd.R_far (p := ⟨gb207, 2, none⟩) (Kd.R_far (p := ⟨gb207, 1, none⟩) (Kd.R_far (p := ⟨gb207, 0, none⟩) (Kd.R_types HO_4.out BK207.out (by decide)) (fun _ hk => hk.2) (.int .i64 t203)) (fun _ hk => hk.2) (.string t204)) (fun _ hk => hk.2) (.int .i64 t205)) (fun _ hk => hk.2) (.int .i64 t206)) (fun _ hk => trivial)⟩; have n1_ : Aside0 (((((w21.setCell ⟨gb207, 0, none⟩ (.int .i64 t203)).setCell ⟨gb207, 1, none⟩ (.string t204)).setCell ⟨gb207, 2, none⟩ (.int .i64 t205)).setCell ⟨gb207, 3, none⟩ (.int .i64 t206)).heap[gb207]? = some (.cells #[.int .i64 t203, .string t204, .int .i64 t205, .int .i64 t206] 29 (0, 0))) := ⟨(pq4 Pk)⟩; have n2_ : Aside0 (Below w.heap.size w ((((w21.setCell ⟨gb207, 0, none⟩ (.int .i64 t203)).setCell ⟨gb207, 1, none⟩ (.string t204)).setCell ⟨gb207, 2, none⟩ (.int .i64 t205)).setCell ⟨gb207, 3, none⟩ (.int .i64 t206))) := ⟨By⟩; (try clear HO_4); (try clear BK207); (try clear HB); generalize ((((w21.setCell ⟨gb207, 0, none⟩ (.int .i64 t203)).setCell ⟨gb207, 1, none⟩ (.string t204)).setCell ⟨gb207, 2, none⟩ (.int .i64 t205)).setCell ⟨gb207, 3, none⟩ (.int .i64 t206)) = w23 at n0_ n1_ n2_ ⊢; have HO_4 := n0_; have BK207 := n1_; have HB := n2_; clear n0_ n1_ n2_; have n_ := aa (Kd.R_drew HO_4.out) <| aa (blk_drew BK207.out) <| Aside0.mk (below_drew1 HB.out); clear HO_4 BK207 HB; obtain ⟨HO_4, BK207, HB⟩ := n_; refine start_ (n := 4) (S := fun w' => w'.cell? ⟨gb207, 0, none⟩ = some (.int .i64 t203) ∧ w'.cell? ⟨gb207, 1, none⟩ = some (.string t204) ∧ w'.cell? ⟨gb207, 2, none⟩ = some (.int .i64 t205) ∧ w'.cell? ⟨gb207, 3, none⟩ = some (.int .i64 t206)) (ds := []) (bv 4 0) (by kernel_rfl) rfl rfl ⟨bc BK207.out 0, bc BK207.out 1, bc BK207.out 2, bc BK207.out 3⟩ (fun hHeld => ?_); generalize w23.drew = w24 at HO_4 BK207 HB hHeld ⊢; refine pure_ (i := 0) (N := some 19) (v := ?_) (a' := ?_) (bv 4 1) rfl rfl (by kernel_rfl) (fun _ _ _ h => h) (Or.inl ⟨by rfl, ?_⟩) ?_ ?_; rotate_left
          · intro w'; go_simp; with_reducible rfl
          rotate_left
          · simp only [Act.put, List.setIfInBounds_toArray, List.set_cons_zero, List.set_cons_succ, i64_w, i32_w]; rfl
          refine pure_ (i := 2) (N := some 2) (v := ?_) (a' := ?_) (bv 4 5) rfl rfl (by kernel_rfl) (fun _ _ _ h => h) (Or.inl ⟨by rfl, ?_⟩) ?_ ?_; rotate_left
          · intro w'; go_simp; with_reducible rfl
          rotate_left
          · simp only [Act.put, List.setIfInBounds_toArray, List.set_cons_zero, List.set_cons_succ, i64_w, i32_w]; rfl
          refine take_ (i := 1) (N := some 20) (v := ?_) (a' := ?_) (bv 4 7) rfl rfl (by kernel_rfl) (fun _ _ _ h => h) (Or.inl ⟨by rfl, ?_⟩) hHeld ?_ ?_; rotate_left
          · rintro w' ⟨s0, s1, s2, s3⟩; go_simp; with_reducible rfl
          rotate_left
          · simp only [Act.put, List.setIfInBounds_toArray, List.set_cons_zero, List.set_cons_succ, i64_w, i32_w]; rfl
          refine pure_ (i := 3) (N := some 3) (v := ?_) (a' := ?_) (bv 4 15) rfl rfl (by kernel_rfl) (fun _ _ _ h => h) (Or.inl ⟨by rfl, ?_⟩) ?_ ?_; rotate_left
          · intro w'; go_simp; with_reducible rfl
          rotate_left
          · simp only [Act.put, List.setIfInBounds_toArray, List.set_cons_zero, List.set_cons_succ, i64_w, i32_w]; rfl
          refine done_ (by kernel_rfl) ?_; try go_wp2
          go_ret2
          exact ⟨_, Rf, by first | exact Kd.R_nil _ _ _ _ _ | exact Kd.N_nil _ _ _ _ _ | exact Kd.V_nil _ _ _ _ _ | exact Kd.Q_nil _ _ _ _ _ | exact Kd.S_nil _ _ _ _ _, By⟩
      · rw [if_neg c4] at H; have c4b0 : decide (x5_1 < (a0.size : Int)) = false := decide_eq_false c4; clear c4; simp only [Option.some.injEq, Prod.mk.injEq] at H; obtain ⟨rfl, rfl⟩ := H; go_wp2; go_ret2; exact ⟨_, Rf, by (with_reducible repeat (first | apply Kd.R_alloc | apply Kd.R_drewN | apply Kd.R_drew)); exact HO_4.out, By⟩

set_option linter.unusedVariables false
set_option linter.unusedSimpArgs false

/-! ### impl_BerAll: function 12 -/
def impl_BerAll.f (k : Nat) (a0 : ByteArray) : Option ((List (S27)) × Int) := (impl_isLong.f k (([a0] : List ByteArray))).bind fun t215 => (if t215 = true then (some (([] : List (S27)), 2)) else ((impl_berAll.f k a0).bind fun bt216 => (some (bt216.1, bt216.2))))
theorem impl_BerAll.mono : ∀ a0 k, LeO (impl_BerAll.f k a0) (impl_BerAll.f (k + 1) a0) := by
  intro a0 k; unfold impl_BerAll.f; repeat' first
      | (with_reducible exact impl_berAll.mono _ _)
      | (with_reducible exact impl_isLong.mono _ _)
      | (with_reducible exact LeO.refl _)
      | (with_reducible exact LeO.none _)
      | (with_reducible refine LeO.ite ?_ ?_)
      | (with_reducible refine LeO.bind ?_ (fun _ => ?_))
set_option maxHeartbeats 8000000 in
set_option maxRecDepth 100000 in
theorem impl_BerAll.calls (k : Nat) (a0 : ByteArray) (r1 : List (S27)) (r2 : Int) (w : World) (h : impl_BerAll.f k a0 = some (r1, r2)) :
    Calls Try.prog 12 #[.string a0] w fun e w' => ∃ v0_ : Value, e = .returned (.agg #[v0_, .int .i64 r2]) ∧ Kd.R k27 27 w' w.heap.size (fun _ => True) v0_ r1 ∧ Below w.heap.size w w' := by
  have hu35 := Try.underlying35; have HB := Aside0.mk (Below.refl w.heap.size w); have H : ((impl_isLong.f k (([a0] : List ByteArray))).bind fun t215 => (if t215 = true then (some (([] : List (S27)), 2)) else ((impl_berAll.f k a0).bind fun bt216 => (some (bt216.1, bt216.2))))) = some (r1, r2) := h; clear h; obtain ⟨y212, hy212⟩ : ∃ y_ : List ByteArray, y_ = (([a0] : List ByteArray)) := ⟨_, rfl⟩; replace H : ((impl_isLong.f k y212).bind fun t215 => (if t215 = true then (some (([] : List (S27)), 2)) else ((impl_berAll.f k a0).bind fun bt216 => (some (bt216.1, bt216.2))))) = some (r1, r2) := by first | (rw [hy212]; with_reducible exact H) | (have H2_ := (Option.bind_some _ _).symm.trans H; rw [hy212]; with_reducible exact H2_) | (have H2_ := (Option.bind_some _ _).symm.trans H; with_reducible exact H2_) | with_reducible exact H | (rw [hy212]; exact H) | exact H
  have Ny212 := Aside0.mk hy212; clear hy212; replace H := Option.bind_eq_some_iff.mp H; obtain ⟨t215, A20, H⟩ := H; replace H : (if t215 = true then (some (([] : List (S27)), 2)) else ((impl_berAll.f k a0).bind fun bt216 => (some (bt216.1, bt216.2)))) = some (r1, r2) := H; have A2 := Aside0.mk A20; clear A20; by_cases c3 : t215 = true
  · subst c3; have H1 : (some (([] : List (S27)), 2)) = some (r1, r2) := by rw [if_pos rfl] at H; exact H
    clear H; have H := H1; clear H1; simp only [Option.some.injEq, Prod.mk.injEq] at H; obtain ⟨rfl, rfl⟩ := H; go_enter Try.func12, Try.ntmps12; go_wp2_with (first | ((with_reducible refine gate_dst (N := 2) rfl ?_); refine box_event ?hg (N := 2) ?hd (cs := #[.slice none 0 0, .int .i64 0]) (t := 35) ?hr ?_; (case hd => rfl); (case hg => rfl); (case hr => first | (go_simp; done) | (go_simp; rfl)); intro gb211 hg w4 hbox hb; have n_ := aa (below_step By hb) <| aa (hbox) <| aa ((by rw [hg]; exact (below_size By) : w.heap.size ≤ gb211)) <| Aside0.mk ((by rw [hg]; exact (below_size By) : w.heap.size ≤ gb211)); clear HB; obtain ⟨HB, BK211, GW211, GE211⟩ := n_; clear hb hbox hg) | ((with_reducible refine gate_dst (N := 6) rfl ?_); refine Kd.R_lit Kd.string _ 9 ?hg (N := 6) ?hd (xs := ([a0] : List ByteArray)) (inner := [.string a0]) (ok := fun _ => True) (okp := fun _ => True) ?hr ?hp (fun _ hk => hk) trivial (Below.refl _ _) (Nat.le_refl _) (by simp) ?_; (case hd => rfl); (case hg => rfl); (case hr => first | (go_simp; done) | (go_simp; rfl)); (case hp => exact (Reps.one (show Kd.M Kd.string _ _ _ a0 [.string a0] from rfl) (Reps.none _ _))); intro v213 w5 ho6 hb hg_ hnew_; clear hg_ hnew_; (first | rw [← Ny212.out] at ho6 | (simp only [Int.reduceToNat] at ho6; rw [← Ny212.out] at ho6)); have n_ := aa (Kd.R_lower ho6 (below_size By)) <| aa (bb BK211.out hb) <| Aside0.mk (below_step By hb); clear BK211 HB; obtain ⟨HO214, BK211, HB⟩ := n_; clear hb ho6; obtain ⟨Ao7, co7, eo7⟩ := Kd.R_slice HO214.out; subst eo7) | ((with_reducible refine gate_callee (f := 44) rfl ?_); refine goesL_ (some 7) rfl rfl Try.func44 (by kernel_rfl) rfl #[.slice Ao7 y212.length co7] rfl Ag ?_; (with_reducible refine (impl_isLong.calls k _ _ y212 true _ ?side1 ?side2 A2.out).mono ?_); (case side1 => exact rC (Kd.R_reads' HO214.out).2.2); (case side2 => exact (Kd.R_reads' HO214.out).2.1); rintro e w' ⟨rfl, ⟨nd, rfl⟩⟩; refine ⟨_, rfl, ?_⟩; (try (rw [drewN_self w5]; generalize hq_ : World.drewN w5 _ = w5; have n0_ : Aside0 (Kd.R Kd.string 9 w5 w.heap.size (fun _ => True) (.slice Ao7 y212.length co7) y212) := ⟨by rw [← hq_]; exact (rR HO214.out)⟩; have n1_ : Aside0 (w5.heap[gb211]? = some (.cells #[.slice none 0 0, .int .i64 0] 35 (0, 0))) := ⟨by rw [← hq_]; exact Pk⟩; have n2_ : Aside0 (Below w.heap.size w w5) := ⟨by rw [← hq_]; exact By⟩; clear HO214 BK211 HB hq_; have HO214 := n0_; have BK211 := n1_; have HB := n2_; clear n0_ n1_ n2_)); have ⟨hcz8_0, hcz8_1⟩ := cq2 BK211.out; have ⟨hfz8_0, hfz8_1⟩ := fq2 BK211.out)); refine bodyPost_ret (results_cell_row rfl _ _ gb211 35 #[.slice none 0 0, .int .i64 2] (0, 0) _ rfl (pq2 Pk) Try.underlying35 rfl (by kernel_rfl)) rfl ?_; exact ⟨_, Rf, by first | exact Kd.R_nil _ _ _ _ _ | exact Kd.N_nil _ _ _ _ _ | exact Kd.V_nil _ _ _ _ _ | exact Kd.Q_nil _ _ _ _ _ | exact Kd.S_nil _ _ _ _ _, By⟩
  · replace c3 := Bool.eq_false_iff.mpr c3; subst c3; have H1 : ((impl_berAll.f k a0).bind fun bt216 => (some (bt216.1, bt216.2))) = some (r1, r2) := by rw [if_neg (show ¬ (false = true) by decide)] at H; exact H
    clear H; have H := H1; clear H1; replace H := Option.bind_eq_some_iff.mp H; obtain ⟨⟨t216, t217⟩, A90, H⟩ := H; replace H : (some (t216, t217)) = some (r1, r2) := H; have A9 := Aside0.mk A90; clear A90; simp only [Option.some.injEq, Prod.mk.injEq] at H; obtain ⟨rfl, rfl⟩ := H; go_enter Try.func12, Try.ntmps12; go_wp2_with (first | ((with_reducible refine gate_dst (N := 2) rfl ?_); refine box_event ?hg (N := 2) ?hd (cs := #[.slice none 0 0, .int .i64 0]) (t := 35) ?hr ?_; (case hd => rfl); (case hg => rfl); (case hr => first | (go_simp; done) | (go_simp; rfl)); intro gb211 hg w10 hbox hb; have n_ := aa (below_step By hb) <| aa (hbox) <| aa ((by rw [hg]; exact (below_size By) : w.heap.size ≤ gb211)) <| Aside0.mk ((by rw [hg]; exact (below_size By) : w.heap.size ≤ gb211)); clear HB; obtain ⟨HB, BK211, GW211, GE211⟩ := n_; clear hb hbox hg) | ((with_reducible refine gate_dst (N := 6) rfl ?_); refine Kd.R_lit Kd.string _ 9 ?hg (N := 6) ?hd (xs := ([a0] : List ByteArray)) (inner := [.string a0]) (ok := fun _ => True) (okp := fun _ => True) ?hr ?hp (fun _ hk => hk) trivial (Below.refl _ _) (Nat.le_refl _) (by simp) ?_; (case hd => rfl); (case hg => rfl); (case hr => first | (go_simp; done) | (go_simp; rfl)); (case hp => exact (Reps.one (show Kd.M Kd.string _ _ _ a0 [.string a0] from rfl) (Reps.none _ _))); intro v213 w11 ho12 hb hg_ hnew_; clear hg_ hnew_; (first | rw [← Ny212.out] at ho12 | (simp only [Int.reduceToNat] at ho12; rw [← Ny212.out] at ho12)); have n_ := aa (Kd.R_lower ho12 (below_size By)) <| aa (bb BK211.out hb) <| Aside0.mk (below_step By hb); clear BK211 HB; obtain ⟨HO214, BK211, HB⟩ := n_; clear hb ho12; obtain ⟨Ao13, co13, eo13⟩ := Kd.R_slice HO214.out; subst eo13) | ((with_reducible refine gate_callee (f := 44) rfl ?_); refine goesL_ (some 7) rfl rfl Try.func44 (by kernel_rfl) rfl #[.slice Ao13 y212.length co13] rfl Ag ?_; (with_reducible refine (impl_isLong.calls k _ _ y212 false _ ?side1 ?side2 A2.out).mono ?_); (case side1 => exact rC (Kd.R_reads' HO214.out).2.2); (case side2 => exact (Kd.R_reads' HO214.out).2.1); rintro e w' ⟨rfl, ⟨nd, rfl⟩⟩; refine ⟨_, rfl, ?_⟩; (try (rw [drewN_self w11]; generalize hq_ : World.drewN w11 _ = w11; have n0_ : Aside0 (Kd.R Kd.string 9 w11 w.heap.size (fun _ => True) (.slice Ao13 y212.length co13) y212) := ⟨by rw [← hq_]; exact (rR HO214.out)⟩; have n1_ : Aside0 (w11.heap[gb211]? = some (.cells #[.slice none 0 0, .int .i64 0] 35 (0, 0))) := ⟨by rw [← hq_]; exact Pk⟩; have n2_ : Aside0 (Below w.heap.size w w11) := ⟨by rw [← hq_]; exact By⟩; clear HO214 BK211 HB hq_; have HO214 := n0_; have BK211 := n1_; have HB := n2_; clear n0_ n1_ n2_))) | ((with_reducible refine gate_callee (f := 46) rfl ?_); refine goesL_ (some 11) rfl rfl Try.func46 (by kernel_rfl) rfl #[.string a0] rfl Ag ?_; (with_reducible refine (impl_berAll.calls k a0 t216 t217 _ A9.out).mono ?_); rintro e w14 ⟨v218, rfl, ho0, hb⟩; refine ⟨_, rfl, ?_⟩; have n_ := aa (Kd.R_below (rR HO214.out) hb) <| aa (Kd.R_lower ho0 (below_size By)) <| aa (bb BK211.out hb) <| Aside0.mk (below_step By hb); clear HO214 BK211 HB; obtain ⟨HO214, HO219, BK211, HB⟩ := n_; (try clear hb); (try clear hb2); (try clear hk); (try clear hi); (try clear ho0); obtain ⟨Ao15, co15, eo15⟩ := Kd.R_slice HO219.out; subst eo15; have ⟨hcz16_0, hcz16_1⟩ := cq2 BK211.out; have ⟨hfz16_0, hfz16_1⟩ := fq2 BK211.out)); refine bodyPost_ret (results_cell_row rfl _ _ gb211 35 #[.slice Ao15 t216.length co15, .int .i64 t217] (0, 0) _ rfl (pq2 Pk) Try.underlying35 rfl (by kernel_rfl)) rfl ?_; exact ⟨_, Rf, by (with_reducible repeat (first | apply Kd.R_alloc | apply Kd.R_drewN | apply Kd.R_drew)); exact Kd.R_mono (Kd.R_far (p := ⟨gb211, 1, none⟩) (Kd.R_far (p := ⟨gb211, 0, none⟩) (Kd.R_types HO219.out BK211.out (by decide)) (fun _ hk => hk.2) (.slice Ao15 t216.length co15)) (fun _ hk => hk.2) (.int .i64 t217)) (fun _ hk => trivial), By⟩

end Go.Proofs.Ytfikhgiiccbbfaa.PG
