/-
  Functions that the law reaches, each as a plain Lean function, with the proof that the call comes to it (written by a program of this session by way of the kit's print program). Conditions: what each contract states.
-/
import Derived.Test.YtpocoeghobdfiaaGreatDoorProg
import Derived.Below
import Derived.Deep.Draws
import Derived.Deep.AppendLies
import Derived.Maps.AppendAt
import Derived.OwnWalk
import Derived.Laws.BytesArg
import Derived.Laws.MakeOwn
import Derived.Laws.OwnMore
import Derived.Deep.OwnRows
import Derived.Tactics
import Derived.Lib.ConvBytes
import Derived.Laws.Slices
import Derived.WalkKit
import Derived.KernelRfl
import Derived.RowKit3
import Derived.Deep.LoopGhost
import Derived.Deep.QuietTactic
import Derived.BigQuiet
import Derived.WideLaws
import Derived.Deep.DeepCutAuto
import Derived.Deep.CutBlock
import Derived.Deep.RegionHeld3
import Derived.Laws.Rows
import Derived.Lib.AppendStr
import Derived.ArgAppend
import Derived.Laws.IdiomCopy
import Derived.OrdersHeld
import Derived.Laws.BitsLemmas
import Derived.RowKit
import Derived.Test.YtpocoeghobdfiaaGreatDoorFEWords
import Derived.Laws.Cover1
import Derived.Test.YtpocoeghobdfiaaGreatDoorFESq
namespace Go.Proofs.YtpocoeghobdfiaaGreatDoor.PG
open Go.Proofs.YtpocoeghobdfiaaGreatDoor.Sq Go.RowKit Go.Proofs.YtpocoeghobdfiaaGreatDoorW.PrintWords Go.Proofs.YtpocoeghobdfiaaGreatDoorW.PrintLast Go.Proofs.YtpocoeghobdfiaaGreatDoorW.PrintMore
attribute [local go_sem] max2_int min2_int max_two min_two max_three min_three max_four min_four   -- for this text's walks alone
set_option linter.unusedVariables false
set_option linter.unusedSimpArgs false



def errW : Option Int → Value
  | none => .nilIface
  | some c => .iface 0 (.int .i64 c)
theorem errW_none : errW none = .nilIface := rfl
theorem errW_some (c : Int) : errW (some c) = .iface 0 (.int .i64 c) := rfl

theorem info5 : (Tryz.prog.info? 5).map (fun i => (i.zero, i.size, i.bytes)) = some (some (.int .u8 0), 1, 1) := by kernel_rfl
theorem info9 : (Tryz.prog.info? 9).map (fun i => (i.zero, i.size, i.bytes)) = some (some (.string ⟨#[]⟩), 1, 16) := by kernel_rfl
theorem info87 : (Tryz.prog.info? 87).map (fun i => (i.zero, i.size, i.bytes)) = some (some (.agg #[(.int .i64 0), (.string ⟨#[]⟩), (.string ⟨#[]⟩), (.int .i64 0)]), 4, 48) := by kernel_rfl
theorem info113 : (Tryz.prog.info? 113).map (fun i => (i.zero, i.size, i.bytes)) = some (some (.agg #[(.string ⟨#[]⟩), (.string ⟨#[]⟩)]), 2, 32) := by kernel_rfl
theorem info115 : (Tryz.prog.info? 115).map (fun i => (i.zero, i.size, i.bytes)) = some (some (.agg #[(.string ⟨#[]⟩), (.slice none 0 0)]), 2, 40) := by kernel_rfl
-- the values' own types
/-! #### struct type 102 -/
structure S102 where
  f0 : ByteArray
  f1 : ByteArray
def z102 : S102 := ⟨(⟨#[]⟩ : ByteArray), (⟨#[]⟩ : ByteArray)⟩
def k102 : Kd S102 := Kd.iso (Kd.pair Kd.string Kd.string) (fun x : S102 => (x.f0, x.f1))
theorem k102_heap : Kd.Heap k102 := Kd.heap_iso _ (Kd.heap_pair Kd.heap_string Kd.heap_string)
theorem k102_open {w : World} {x : S102} {cs : List Value} (h : k102.K w x cs) : cs = [.string x.f0, .string x.f1] := by
  obtain ⟨_, _, rfl, rfl, rfl⟩ := h
  exact rfl
theorem k102_openM {w : World} {base : Nat} {ok : Nat → Prop} {x : S102} {cs : List Value} (h : k102.M w base ok x cs) : cs = [.string x.f0, .string x.f1] := by
  obtain ⟨_, _, rfl, rfl, rfl⟩ := h
  exact rfl
theorem k102_mk (w : World) (x : S102)  : k102.K w x [.string x.f0, .string x.f1] := ⟨[.string x.f0], [.string x.f1], rfl, rfl, rfl⟩
theorem k102_mkM (w : World) (base : Nat) (ok : Nat → Prop) (x : S102)  : k102.M w base ok x [.string x.f0, .string x.f1] := ⟨[.string x.f0], [.string x.f1], rfl, rfl, rfl⟩
theorem k102_mkF (W : World) (ok : Nat → Prop) (x : S102) : Kd.FK k102 W ok x [.string x.f0, .string x.f1] := fun W2 _ => k102_mk W2 x
def rd_T102 (xs : List S102) (i : Int) : S102 := xs.getD i.toNat z102
theorem at_T102 {w : World} {A : Option Addr} {n : Nat} {xs : List S102} (h : Kd.C k102 w A n xs) (i : Int) (h0 : 0 ≤ i) (h1 : i < n) : ∃ ad , A = some ad ∧ w.cell? (ad.add (i.toNat * 2)) = some (.string (rd_T102 xs i).f0) ∧ w.cell? ⟨(ad.add (i.toNat * 2)).block, (ad.add (i.toNat * 2)).off + 1, none⟩ = some (.string (rd_T102 xs i).f1) := by
  obtain ⟨ad, c, e, _, hK, hc0⟩ := Kd.C_get h z102 i h0 h1
  have hc : ∀ j u, c[j]? = some u → w.cell? (ad.add (i.toNat * 2 + j)) = some u := hc0
  obtain rfl := k102_open hK
  exact ⟨ad, e, hc 0 _ rfl, by rw [← add_field _ _ 1 (by omega)]; exact hc 1 _ rfl⟩

def rd_L2 (xs : List (List ByteArray)) (i : Int) : (List ByteArray) := xs.getD i.toNat ([] : List ByteArray)
theorem at_L2 {w : World} {A : Option Addr} {n : Nat} {xs : List (List ByteArray)} (h : Kd.C (Kd.slice 9 Kd.string) w A n xs) (i : Int) (h0 : 0 ≤ i) (h1 : i < n) : ∃ ad A0 c0, A = some ad ∧ w.cell? (ad.add i.toNat) = some (.slice A0 (rd_L2 xs i).length c0) ∧ (rd_L2 xs i).length ≤ c0 ∧ Kd.string.C w A0 (rd_L2 xs i).length (rd_L2 xs i) := by
  obtain ⟨ad, c, e, _, hK, hc0⟩ := Kd.C_get h ([] : List ByteArray) i h0 h1
  have hc : ∀ j u, c[j]? = some u → w.cell? (ad.add (i.toNat * 1 + j)) = some u := hc0
  obtain ⟨A0, c0, rfl, l0, g0⟩ := hK
  exact ⟨ad, A0, c0, e, by have hq := hc 0 _ rfl; rwa [Nat.mul_one, Nat.add_zero] at hq, l0, g0⟩

/-! #### struct type 105 -/
structure S105 where
  f0 : ByteArray
  f1 : (List ByteArray)
def z105 : S105 := ⟨(⟨#[]⟩ : ByteArray), ([] : List ByteArray)⟩
def k105 : Kd S105 := Kd.iso (Kd.pair Kd.string (Kd.slice 9 Kd.string)) (fun x : S105 => (x.f0, x.f1))
theorem k105_heap : Kd.Heap k105 := Kd.heap_iso _ (Kd.heap_pair Kd.heap_string (Kd.heap_slice 9 Kd.heap_string))
theorem k105_open {w : World} {x : S105} {cs : List Value} (h : k105.K w x cs) : ∃ A1 c1, cs = [.string x.f0, .slice A1 x.f1.length c1] ∧ x.f1.length ≤ c1 ∧ Kd.string.C w A1 x.f1.length x.f1 := by
  obtain ⟨_, _, rfl, rfl, ⟨A1, c1, rfl, l1, g1⟩⟩ := h
  exact ⟨A1, c1, rfl, l1, g1⟩
theorem k105_openM {w : World} {base : Nat} {ok : Nat → Prop} {x : S105} {cs : List Value} (h : k105.M w base ok x cs) : ∃ v1, cs = [.string x.f0, v1] ∧ Kd.string.R 9 w base ok v1 x.f1 := by
  obtain ⟨_, _, rfl, rfl, ⟨v1, rfl, g1⟩⟩ := h
  exact ⟨v1, rfl, g1⟩
theorem k105_mk (w : World) (x : S105) {A1 : Option Addr} {c1 : Nat} (l1 : x.f1.length ≤ c1) (g1 : Kd.string.C w A1 x.f1.length x.f1) : k105.K w x [.string x.f0, .slice A1 x.f1.length c1] := ⟨[.string x.f0], [.slice A1 x.f1.length c1], rfl, rfl, ⟨A1, c1, rfl, l1, g1⟩⟩
theorem k105_mkM (w : World) (base : Nat) (ok : Nat → Prop) (x : S105) {v1 : Value} (g1 : Kd.string.R 9 w base ok v1 x.f1) : k105.M w base ok x [.string x.f0, v1] := ⟨[.string x.f0], [v1], rfl, rfl, ⟨v1, rfl, g1⟩⟩
theorem k105_openF {W : World} {ok : Nat → Prop} {x : S105} {cs : List Value} (h : Kd.FK k105 W ok x cs) : ∃ A1 c1, cs = [.string x.f0, .slice A1 x.f1.length c1] ∧ x.f1.length ≤ c1 ∧ Kd.F Kd.string W ok A1 x.f1.length x.f1 := by
  obtain ⟨A1, c1, rfl, l1, _⟩ := k105_open (Kd.FK_now h)
  exact ⟨A1, c1, rfl, l1, (fun W' hW => by obtain ⟨A1_, c1_, he, l1_, g1_⟩ := k105_open (h W' hW); injection (Option.some.inj (show some (Value.slice A1 x.f1.length c1) = some (Value.slice A1_ x.f1.length c1_) from congrArg (fun l => l[1]?) he)) with ha_ _ _; rw [ha_]; exact g1_)⟩
theorem k105_mkF (W : World) (ok : Nat → Prop) (x : S105) {A1 : Option Addr} {c1 : Nat} (l1 : x.f1.length ≤ c1) (g1 : Kd.F Kd.string W ok A1 x.f1.length x.f1) : Kd.FK k105 W ok x [.string x.f0, .slice A1 x.f1.length c1] := fun W2 hW => k105_mk W2 x l1 (g1 W2 hW)
def rd_T105 (xs : List S105) (i : Int) : S105 := xs.getD i.toNat z105
theorem at_T105 {w : World} {A : Option Addr} {n : Nat} {xs : List S105} (h : Kd.C k105 w A n xs) (i : Int) (h0 : 0 ≤ i) (h1 : i < n) : ∃ ad A1 c1, A = some ad ∧ w.cell? (ad.add (i.toNat * 2)) = some (.string (rd_T105 xs i).f0) ∧ w.cell? ⟨(ad.add (i.toNat * 2)).block, (ad.add (i.toNat * 2)).off + 1, none⟩ = some (.slice A1 (rd_T105 xs i).f1.length c1) ∧ (rd_T105 xs i).f1.length ≤ c1 ∧ Kd.string.C w A1 (rd_T105 xs i).f1.length (rd_T105 xs i).f1 := by
  obtain ⟨ad, c, e, _, hK, hc0⟩ := Kd.C_get h z105 i h0 h1
  have hc : ∀ j u, c[j]? = some u → w.cell? (ad.add (i.toNat * 2 + j)) = some u := hc0
  obtain ⟨A1, c1, rfl, l1, g1⟩ := k105_open hK
  exact ⟨ad, A1, c1, e, hc 0 _ rfl, by rw [← add_field _ _ 1 (by omega)]; exact hc 1 _ rfl, l1, g1⟩

/-! #### struct type 113 -/
structure S113 where
  f0 : ByteArray
  f1 : ByteArray
def z113 : S113 := ⟨(⟨#[]⟩ : ByteArray), (⟨#[]⟩ : ByteArray)⟩
def k113 : Kd S113 := Kd.iso (Kd.pair Kd.string Kd.string) (fun x : S113 => (x.f0, x.f1))
theorem k113_heap : Kd.Heap k113 := Kd.heap_iso _ (Kd.heap_pair Kd.heap_string Kd.heap_string)
theorem k113_open {w : World} {x : S113} {cs : List Value} (h : k113.K w x cs) : cs = [.string x.f0, .string x.f1] := by
  obtain ⟨_, _, rfl, rfl, rfl⟩ := h
  exact rfl
theorem k113_openM {w : World} {base : Nat} {ok : Nat → Prop} {x : S113} {cs : List Value} (h : k113.M w base ok x cs) : cs = [.string x.f0, .string x.f1] := by
  obtain ⟨_, _, rfl, rfl, rfl⟩ := h
  exact rfl
theorem k113_mk (w : World) (x : S113)  : k113.K w x [.string x.f0, .string x.f1] := ⟨[.string x.f0], [.string x.f1], rfl, rfl, rfl⟩
theorem k113_mkM (w : World) (base : Nat) (ok : Nat → Prop) (x : S113)  : k113.M w base ok x [.string x.f0, .string x.f1] := ⟨[.string x.f0], [.string x.f1], rfl, rfl, rfl⟩
theorem k113_mkF (W : World) (ok : Nat → Prop) (x : S113) : Kd.FK k113 W ok x [.string x.f0, .string x.f1] := fun W2 _ => k113_mk W2 x
def rd_T113 (xs : List S113) (i : Int) : S113 := xs.getD i.toNat z113
theorem at_T113 {w : World} {A : Option Addr} {n : Nat} {xs : List S113} (h : Kd.C k113 w A n xs) (i : Int) (h0 : 0 ≤ i) (h1 : i < n) : ∃ ad , A = some ad ∧ w.cell? (ad.add (i.toNat * 2)) = some (.string (rd_T113 xs i).f0) ∧ w.cell? ⟨(ad.add (i.toNat * 2)).block, (ad.add (i.toNat * 2)).off + 1, none⟩ = some (.string (rd_T113 xs i).f1) := by
  obtain ⟨ad, c, e, _, hK, hc0⟩ := Kd.C_get h z113 i h0 h1
  have hc : ∀ j u, c[j]? = some u → w.cell? (ad.add (i.toNat * 2 + j)) = some u := hc0
  obtain rfl := k113_open hK
  exact ⟨ad, e, hc 0 _ rfl, by rw [← add_field _ _ 1 (by omega)]; exact hc 1 _ rfl⟩

/-! #### struct type 115 -/
structure S115 where
  f0 : ByteArray
  f1 : (List ByteArray)
def z115 : S115 := ⟨(⟨#[]⟩ : ByteArray), ([] : List ByteArray)⟩
def k115 : Kd S115 := Kd.iso (Kd.pair Kd.string (Kd.slice 9 Kd.string)) (fun x : S115 => (x.f0, x.f1))
theorem k115_heap : Kd.Heap k115 := Kd.heap_iso _ (Kd.heap_pair Kd.heap_string (Kd.heap_slice 9 Kd.heap_string))
theorem k115_open {w : World} {x : S115} {cs : List Value} (h : k115.K w x cs) : ∃ A1 c1, cs = [.string x.f0, .slice A1 x.f1.length c1] ∧ x.f1.length ≤ c1 ∧ Kd.string.C w A1 x.f1.length x.f1 := by
  obtain ⟨_, _, rfl, rfl, ⟨A1, c1, rfl, l1, g1⟩⟩ := h
  exact ⟨A1, c1, rfl, l1, g1⟩
theorem k115_openM {w : World} {base : Nat} {ok : Nat → Prop} {x : S115} {cs : List Value} (h : k115.M w base ok x cs) : ∃ v1, cs = [.string x.f0, v1] ∧ Kd.string.R 9 w base ok v1 x.f1 := by
  obtain ⟨_, _, rfl, rfl, ⟨v1, rfl, g1⟩⟩ := h
  exact ⟨v1, rfl, g1⟩
theorem k115_mk (w : World) (x : S115) {A1 : Option Addr} {c1 : Nat} (l1 : x.f1.length ≤ c1) (g1 : Kd.string.C w A1 x.f1.length x.f1) : k115.K w x [.string x.f0, .slice A1 x.f1.length c1] := ⟨[.string x.f0], [.slice A1 x.f1.length c1], rfl, rfl, ⟨A1, c1, rfl, l1, g1⟩⟩
theorem k115_mkM (w : World) (base : Nat) (ok : Nat → Prop) (x : S115) {v1 : Value} (g1 : Kd.string.R 9 w base ok v1 x.f1) : k115.M w base ok x [.string x.f0, v1] := ⟨[.string x.f0], [v1], rfl, rfl, ⟨v1, rfl, g1⟩⟩
theorem k115_openF {W : World} {ok : Nat → Prop} {x : S115} {cs : List Value} (h : Kd.FK k115 W ok x cs) : ∃ A1 c1, cs = [.string x.f0, .slice A1 x.f1.length c1] ∧ x.f1.length ≤ c1 ∧ Kd.F Kd.string W ok A1 x.f1.length x.f1 := by
  obtain ⟨A1, c1, rfl, l1, _⟩ := k115_open (Kd.FK_now h)
  exact ⟨A1, c1, rfl, l1, (fun W' hW => by obtain ⟨A1_, c1_, he, l1_, g1_⟩ := k115_open (h W' hW); injection (Option.some.inj (show some (Value.slice A1 x.f1.length c1) = some (Value.slice A1_ x.f1.length c1_) from congrArg (fun l => l[1]?) he)) with ha_ _ _; rw [ha_]; exact g1_)⟩
theorem k115_mkF (W : World) (ok : Nat → Prop) (x : S115) {A1 : Option Addr} {c1 : Nat} (l1 : x.f1.length ≤ c1) (g1 : Kd.F Kd.string W ok A1 x.f1.length x.f1) : Kd.FK k115 W ok x [.string x.f0, .slice A1 x.f1.length c1] := fun W2 hW => k115_mk W2 x l1 (g1 W2 hW)
def rd_T115 (xs : List S115) (i : Int) : S115 := xs.getD i.toNat z115
theorem at_T115 {w : World} {A : Option Addr} {n : Nat} {xs : List S115} (h : Kd.C k115 w A n xs) (i : Int) (h0 : 0 ≤ i) (h1 : i < n) : ∃ ad A1 c1, A = some ad ∧ w.cell? (ad.add (i.toNat * 2)) = some (.string (rd_T115 xs i).f0) ∧ w.cell? ⟨(ad.add (i.toNat * 2)).block, (ad.add (i.toNat * 2)).off + 1, none⟩ = some (.slice A1 (rd_T115 xs i).f1.length c1) ∧ (rd_T115 xs i).f1.length ≤ c1 ∧ Kd.string.C w A1 (rd_T115 xs i).f1.length (rd_T115 xs i).f1 := by
  obtain ⟨ad, c, e, _, hK, hc0⟩ := Kd.C_get h z115 i h0 h1
  have hc : ∀ j u, c[j]? = some u → w.cell? (ad.add (i.toNat * 2 + j)) = some u := hc0
  obtain ⟨A1, c1, rfl, l1, g1⟩ := k115_open hK
  exact ⟨ad, A1, c1, e, hc 0 _ rfl, by rw [← add_field _ _ 1 (by omega)]; exact hc 1 _ rfl, l1, g1⟩

/-! #### struct type 82 -/
structure S82 where
  f0 : Int
  f1 : ByteArray
  f2 : ByteArray
  f3 : Int
def z82 : S82 := ⟨(0 : Int), (⟨#[]⟩ : ByteArray), (⟨#[]⟩ : ByteArray), (0 : Int)⟩
def k82 : Kd S82 := Kd.iso (Kd.pair (Kd.int .i64) (Kd.pair Kd.string (Kd.pair Kd.string (Kd.int .i64)))) (fun x : S82 => (x.f0, x.f1, x.f2, x.f3))
theorem k82_heap : Kd.Heap k82 := Kd.heap_iso _ (Kd.heap_pair (Kd.heap_int .i64) (Kd.heap_pair Kd.heap_string (Kd.heap_pair Kd.heap_string (Kd.heap_int .i64))))
theorem k82_open {w : World} {x : S82} {cs : List Value} (h : k82.K w x cs) : cs = [.int .i64 x.f0, .string x.f1, .string x.f2, .int .i64 x.f3] := by
  obtain ⟨_, _, rfl, rfl, ⟨_, _, rfl, rfl, ⟨_, _, rfl, rfl, rfl⟩⟩⟩ := h
  exact rfl
theorem k82_openM {w : World} {base : Nat} {ok : Nat → Prop} {x : S82} {cs : List Value} (h : k82.M w base ok x cs) : cs = [.int .i64 x.f0, .string x.f1, .string x.f2, .int .i64 x.f3] := by
  obtain ⟨_, _, rfl, rfl, ⟨_, _, rfl, rfl, ⟨_, _, rfl, rfl, rfl⟩⟩⟩ := h
  exact rfl
theorem k82_mk (w : World) (x : S82)  : k82.K w x [.int .i64 x.f0, .string x.f1, .string x.f2, .int .i64 x.f3] := ⟨[.int .i64 x.f0], [.string x.f1, .string x.f2, .int .i64 x.f3], rfl, rfl, ⟨[.string x.f1], [.string x.f2, .int .i64 x.f3], rfl, rfl, ⟨[.string x.f2], [.int .i64 x.f3], rfl, rfl, rfl⟩⟩⟩
theorem k82_mkM (w : World) (base : Nat) (ok : Nat → Prop) (x : S82)  : k82.M w base ok x [.int .i64 x.f0, .string x.f1, .string x.f2, .int .i64 x.f3] := ⟨[.int .i64 x.f0], [.string x.f1, .string x.f2, .int .i64 x.f3], rfl, rfl, ⟨[.string x.f1], [.string x.f2, .int .i64 x.f3], rfl, rfl, ⟨[.string x.f2], [.int .i64 x.f3], rfl, rfl, rfl⟩⟩⟩
theorem k82_mkF (W : World) (ok : Nat → Prop) (x : S82) : Kd.FK k82 W ok x [.int .i64 x.f0, .string x.f1, .string x.f2, .int .i64 x.f3] := fun W2 _ => k82_mk W2 x
def rd_T82 (xs : List S82) (i : Int) : S82 := xs.getD i.toNat z82
theorem at_T82 {w : World} {A : Option Addr} {n : Nat} {xs : List S82} (h : Kd.C k82 w A n xs) (i : Int) (h0 : 0 ≤ i) (h1 : i < n) : ∃ ad , A = some ad ∧ w.cell? (ad.add (i.toNat * 4)) = some (.int .i64 (rd_T82 xs i).f0) ∧ w.cell? ⟨(ad.add (i.toNat * 4)).block, (ad.add (i.toNat * 4)).off + 1, none⟩ = some (.string (rd_T82 xs i).f1) ∧ w.cell? ⟨(ad.add (i.toNat * 4)).block, (ad.add (i.toNat * 4)).off + 2, none⟩ = some (.string (rd_T82 xs i).f2) ∧ w.cell? ⟨(ad.add (i.toNat * 4)).block, (ad.add (i.toNat * 4)).off + 3, none⟩ = some (.int .i64 (rd_T82 xs i).f3) := by
  obtain ⟨ad, c, e, _, hK, hc0⟩ := Kd.C_get h z82 i h0 h1
  have hc : ∀ j u, c[j]? = some u → w.cell? (ad.add (i.toNat * 4 + j)) = some u := hc0
  obtain rfl := k82_open hK
  exact ⟨ad, e, hc 0 _ rfl, by rw [← add_field _ _ 1 (by omega)]; exact hc 1 _ rfl, by rw [← add_field _ _ 2 (by omega)]; exact hc 2 _ rfl, by rw [← add_field _ _ 3 (by omega)]; exact hc 3 _ rfl⟩

/-! #### struct type 87 -/
structure S87 where
  f0 : Int
  f1 : ByteArray
  f2 : ByteArray
  f3 : Int
def z87 : S87 := ⟨(0 : Int), (⟨#[]⟩ : ByteArray), (⟨#[]⟩ : ByteArray), (0 : Int)⟩
def k87 : Kd S87 := Kd.iso (Kd.pair (Kd.int .i64) (Kd.pair Kd.string (Kd.pair Kd.string (Kd.int .i64)))) (fun x : S87 => (x.f0, x.f1, x.f2, x.f3))
theorem k87_heap : Kd.Heap k87 := Kd.heap_iso _ (Kd.heap_pair (Kd.heap_int .i64) (Kd.heap_pair Kd.heap_string (Kd.heap_pair Kd.heap_string (Kd.heap_int .i64))))
theorem k87_open {w : World} {x : S87} {cs : List Value} (h : k87.K w x cs) : cs = [.int .i64 x.f0, .string x.f1, .string x.f2, .int .i64 x.f3] := by
  obtain ⟨_, _, rfl, rfl, ⟨_, _, rfl, rfl, ⟨_, _, rfl, rfl, rfl⟩⟩⟩ := h
  exact rfl
theorem k87_openM {w : World} {base : Nat} {ok : Nat → Prop} {x : S87} {cs : List Value} (h : k87.M w base ok x cs) : cs = [.int .i64 x.f0, .string x.f1, .string x.f2, .int .i64 x.f3] := by
  obtain ⟨_, _, rfl, rfl, ⟨_, _, rfl, rfl, ⟨_, _, rfl, rfl, rfl⟩⟩⟩ := h
  exact rfl
theorem k87_mk (w : World) (x : S87)  : k87.K w x [.int .i64 x.f0, .string x.f1, .string x.f2, .int .i64 x.f3] := ⟨[.int .i64 x.f0], [.string x.f1, .string x.f2, .int .i64 x.f3], rfl, rfl, ⟨[.string x.f1], [.string x.f2, .int .i64 x.f3], rfl, rfl, ⟨[.string x.f2], [.int .i64 x.f3], rfl, rfl, rfl⟩⟩⟩
theorem k87_mkM (w : World) (base : Nat) (ok : Nat → Prop) (x : S87)  : k87.M w base ok x [.int .i64 x.f0, .string x.f1, .string x.f2, .int .i64 x.f3] := ⟨[.int .i64 x.f0], [.string x.f1, .string x.f2, .int .i64 x.f3], rfl, rfl, ⟨[.string x.f1], [.string x.f2, .int .i64 x.f3], rfl, rfl, ⟨[.string x.f2], [.int .i64 x.f3], rfl, rfl, rfl⟩⟩⟩
theorem k87_mkF (W : World) (ok : Nat → Prop) (x : S87) : Kd.FK k87 W ok x [.int .i64 x.f0, .string x.f1, .string x.f2, .int .i64 x.f3] := fun W2 _ => k87_mk W2 x
def rd_T87 (xs : List S87) (i : Int) : S87 := xs.getD i.toNat z87
theorem at_T87 {w : World} {A : Option Addr} {n : Nat} {xs : List S87} (h : Kd.C k87 w A n xs) (i : Int) (h0 : 0 ≤ i) (h1 : i < n) : ∃ ad , A = some ad ∧ w.cell? (ad.add (i.toNat * 4)) = some (.int .i64 (rd_T87 xs i).f0) ∧ w.cell? ⟨(ad.add (i.toNat * 4)).block, (ad.add (i.toNat * 4)).off + 1, none⟩ = some (.string (rd_T87 xs i).f1) ∧ w.cell? ⟨(ad.add (i.toNat * 4)).block, (ad.add (i.toNat * 4)).off + 2, none⟩ = some (.string (rd_T87 xs i).f2) ∧ w.cell? ⟨(ad.add (i.toNat * 4)).block, (ad.add (i.toNat * 4)).off + 3, none⟩ = some (.int .i64 (rd_T87 xs i).f3) := by
  obtain ⟨ad, c, e, _, hK, hc0⟩ := Kd.C_get h z87 i h0 h1
  have hc : ∀ j u, c[j]? = some u → w.cell? (ad.add (i.toNat * 4 + j)) = some u := hc0
  obtain rfl := k87_open hK
  exact ⟨ad, e, hc 0 _ rfl, by rw [← add_field _ _ 1 (by omega)]; exact hc 1 _ rfl, by rw [← add_field _ _ 2 (by omega)]; exact hc 2 _ rfl, by rw [← add_field _ _ 3 (by omega)]; exact hc 3 _ rfl⟩

def rd_L10 (xs : List (List S102)) (i : Int) : (List S102) := xs.getD i.toNat ([] : List S102)
theorem at_L10 {w : World} {A : Option Addr} {n : Nat} {xs : List (List S102)} (h : Kd.C (Kd.slice 102 k102) w A n xs) (i : Int) (h0 : 0 ≤ i) (h1 : i < n) : ∃ ad A0 c0, A = some ad ∧ w.cell? (ad.add i.toNat) = some (.slice A0 (rd_L10 xs i).length c0) ∧ (rd_L10 xs i).length ≤ c0 ∧ k102.C w A0 (rd_L10 xs i).length (rd_L10 xs i) := by
  obtain ⟨ad, c, e, _, hK, hc0⟩ := Kd.C_get h ([] : List S102) i h0 h1
  have hc : ∀ j u, c[j]? = some u → w.cell? (ad.add (i.toNat * 1 + j)) = some u := hc0
  obtain ⟨A0, c0, rfl, l0, g0⟩ := hK
  exact ⟨ad, A0, c0, e, by have hq := hc 0 _ rfl; rwa [Nat.mul_one, Nat.add_zero] at hq, l0, g0⟩

def rd_L11 (xs : List (List S105)) (i : Int) : (List S105) := xs.getD i.toNat ([] : List S105)
theorem at_L11 {w : World} {A : Option Addr} {n : Nat} {xs : List (List S105)} (h : Kd.C (Kd.slice 105 k105) w A n xs) (i : Int) (h0 : 0 ≤ i) (h1 : i < n) : ∃ ad A0 c0, A = some ad ∧ w.cell? (ad.add i.toNat) = some (.slice A0 (rd_L11 xs i).length c0) ∧ (rd_L11 xs i).length ≤ c0 ∧ k105.C w A0 (rd_L11 xs i).length (rd_L11 xs i) := by
  obtain ⟨ad, c, e, _, hK, hc0⟩ := Kd.C_get h ([] : List S105) i h0 h1
  have hc : ∀ j u, c[j]? = some u → w.cell? (ad.add (i.toNat * 1 + j)) = some u := hc0
  obtain ⟨A0, c0, rfl, l0, g0⟩ := hK
  exact ⟨ad, A0, c0, e, by have hq := hc 0 _ rfl; rwa [Nat.mul_one, Nat.add_zero] at hq, l0, g0⟩

/-! #### struct type 26 -/
structure S26 where
  f0 : (List S102)
  f1 : (List S105)
def z26 : S26 := ⟨([] : List S102), ([] : List S105)⟩
def k26 : Kd S26 := Kd.iso (Kd.pair (Kd.slice 102 k102) (Kd.slice 105 k105)) (fun x : S26 => (x.f0, x.f1))
theorem k26_heap : Kd.Heap k26 := Kd.heap_iso _ (Kd.heap_pair (Kd.heap_slice 102 k102_heap) (Kd.heap_slice 105 k105_heap))
theorem k26_open {w : World} {x : S26} {cs : List Value} (h : k26.K w x cs) : ∃ A0 c0 A1 c1, cs = [.slice A0 x.f0.length c0, .slice A1 x.f1.length c1] ∧ x.f0.length ≤ c0 ∧ k102.C w A0 x.f0.length x.f0 ∧ x.f1.length ≤ c1 ∧ k105.C w A1 x.f1.length x.f1 := by
  obtain ⟨_, _, rfl, ⟨A0, c0, rfl, l0, g0⟩, ⟨A1, c1, rfl, l1, g1⟩⟩ := h
  exact ⟨A0, c0, A1, c1, rfl, l0, g0, l1, g1⟩
theorem k26_openM {w : World} {base : Nat} {ok : Nat → Prop} {x : S26} {cs : List Value} (h : k26.M w base ok x cs) : ∃ v0 v1, cs = [v0, v1] ∧ k102.R 102 w base ok v0 x.f0 ∧ k105.R 105 w base ok v1 x.f1 := by
  obtain ⟨_, _, rfl, ⟨v0, rfl, g0⟩, ⟨v1, rfl, g1⟩⟩ := h
  exact ⟨v0, v1, rfl, g0, g1⟩
theorem k26_mk (w : World) (x : S26) {A0 : Option Addr} {c0 : Nat} (l0 : x.f0.length ≤ c0) (g0 : k102.C w A0 x.f0.length x.f0) {A1 : Option Addr} {c1 : Nat} (l1 : x.f1.length ≤ c1) (g1 : k105.C w A1 x.f1.length x.f1) : k26.K w x [.slice A0 x.f0.length c0, .slice A1 x.f1.length c1] := ⟨[.slice A0 x.f0.length c0], [.slice A1 x.f1.length c1], rfl, ⟨A0, c0, rfl, l0, g0⟩, ⟨A1, c1, rfl, l1, g1⟩⟩
theorem k26_mkM (w : World) (base : Nat) (ok : Nat → Prop) (x : S26) {v0 : Value} (g0 : k102.R 102 w base ok v0 x.f0) {v1 : Value} (g1 : k105.R 105 w base ok v1 x.f1) : k26.M w base ok x [v0, v1] := ⟨[v0], [v1], rfl, ⟨v0, rfl, g0⟩, ⟨v1, rfl, g1⟩⟩
theorem k26_openF {W : World} {ok : Nat → Prop} {x : S26} {cs : List Value} (h : Kd.FK k26 W ok x cs) : ∃ A0 c0 A1 c1, cs = [.slice A0 x.f0.length c0, .slice A1 x.f1.length c1] ∧ x.f0.length ≤ c0 ∧ Kd.F k102 W ok A0 x.f0.length x.f0 ∧ x.f1.length ≤ c1 ∧ Kd.F k105 W ok A1 x.f1.length x.f1 := by
  obtain ⟨A0, c0, A1, c1, rfl, l0, _, l1, _⟩ := k26_open (Kd.FK_now h)
  exact ⟨A0, c0, A1, c1, rfl, l0, (fun W' hW => by obtain ⟨A0_, c0_, A1_, c1_, he, l0_, g0_, l1_, g1_⟩ := k26_open (h W' hW); injection (Option.some.inj (show some (Value.slice A0 x.f0.length c0) = some (Value.slice A0_ x.f0.length c0_) from congrArg (fun l => l[0]?) he)) with ha_ _ _; rw [ha_]; exact g0_), l1, (fun W' hW => by obtain ⟨A0_, c0_, A1_, c1_, he, l0_, g0_, l1_, g1_⟩ := k26_open (h W' hW); injection (Option.some.inj (show some (Value.slice A1 x.f1.length c1) = some (Value.slice A1_ x.f1.length c1_) from congrArg (fun l => l[1]?) he)) with ha_ _ _; rw [ha_]; exact g1_)⟩
theorem k26_mkF (W : World) (ok : Nat → Prop) (x : S26) {A0 : Option Addr} {c0 : Nat} (l0 : x.f0.length ≤ c0) (g0 : Kd.F k102 W ok A0 x.f0.length x.f0) {A1 : Option Addr} {c1 : Nat} (l1 : x.f1.length ≤ c1) (g1 : Kd.F k105 W ok A1 x.f1.length x.f1) : Kd.FK k26 W ok x [.slice A0 x.f0.length c0, .slice A1 x.f1.length c1] := fun W2 hW => k26_mk W2 x l0 (g0 W2 hW) l1 (g1 W2 hW)
def rd_T26 (xs : List S26) (i : Int) : S26 := xs.getD i.toNat z26
theorem at_T26 {w : World} {A : Option Addr} {n : Nat} {xs : List S26} (h : Kd.C k26 w A n xs) (i : Int) (h0 : 0 ≤ i) (h1 : i < n) : ∃ ad A0 c0 A1 c1, A = some ad ∧ w.cell? (ad.add (i.toNat * 2)) = some (.slice A0 (rd_T26 xs i).f0.length c0) ∧ w.cell? ⟨(ad.add (i.toNat * 2)).block, (ad.add (i.toNat * 2)).off + 1, none⟩ = some (.slice A1 (rd_T26 xs i).f1.length c1) ∧ (rd_T26 xs i).f0.length ≤ c0 ∧ k102.C w A0 (rd_T26 xs i).f0.length (rd_T26 xs i).f0 ∧ (rd_T26 xs i).f1.length ≤ c1 ∧ k105.C w A1 (rd_T26 xs i).f1.length (rd_T26 xs i).f1 := by
  obtain ⟨ad, c, e, _, hK, hc0⟩ := Kd.C_get h z26 i h0 h1
  have hc : ∀ j u, c[j]? = some u → w.cell? (ad.add (i.toNat * 2 + j)) = some u := hc0
  obtain ⟨A0, c0, A1, c1, rfl, l0, g0, l1, g1⟩ := k26_open hK
  exact ⟨ad, A0, c0, A1, c1, e, hc 0 _ rfl, by rw [← add_field _ _ 1 (by omega)]; exact hc 1 _ rfl, l0, g0, l1, g1⟩

def rd_L13 (xs : List (List S113)) (i : Int) : (List S113) := xs.getD i.toNat ([] : List S113)
theorem at_L13 {w : World} {A : Option Addr} {n : Nat} {xs : List (List S113)} (h : Kd.C (Kd.slice 113 k113) w A n xs) (i : Int) (h0 : 0 ≤ i) (h1 : i < n) : ∃ ad A0 c0, A = some ad ∧ w.cell? (ad.add i.toNat) = some (.slice A0 (rd_L13 xs i).length c0) ∧ (rd_L13 xs i).length ≤ c0 ∧ k113.C w A0 (rd_L13 xs i).length (rd_L13 xs i) := by
  obtain ⟨ad, c, e, _, hK, hc0⟩ := Kd.C_get h ([] : List S113) i h0 h1
  have hc : ∀ j u, c[j]? = some u → w.cell? (ad.add (i.toNat * 1 + j)) = some u := hc0
  obtain ⟨A0, c0, rfl, l0, g0⟩ := hK
  exact ⟨ad, A0, c0, e, by have hq := hc 0 _ rfl; rwa [Nat.mul_one, Nat.add_zero] at hq, l0, g0⟩

def rd_L14 (xs : List (List S115)) (i : Int) : (List S115) := xs.getD i.toNat ([] : List S115)
theorem at_L14 {w : World} {A : Option Addr} {n : Nat} {xs : List (List S115)} (h : Kd.C (Kd.slice 115 k115) w A n xs) (i : Int) (h0 : 0 ≤ i) (h1 : i < n) : ∃ ad A0 c0, A = some ad ∧ w.cell? (ad.add i.toNat) = some (.slice A0 (rd_L14 xs i).length c0) ∧ (rd_L14 xs i).length ≤ c0 ∧ k115.C w A0 (rd_L14 xs i).length (rd_L14 xs i) := by
  obtain ⟨ad, c, e, _, hK, hc0⟩ := Kd.C_get h ([] : List S115) i h0 h1
  have hc : ∀ j u, c[j]? = some u → w.cell? (ad.add (i.toNat * 1 + j)) = some u := hc0
  obtain ⟨A0, c0, rfl, l0, g0⟩ := hK
  exact ⟨ad, A0, c0, e, by have hq := hc 0 _ rfl; rwa [Nat.mul_one, Nat.add_zero] at hq, l0, g0⟩

/-! #### struct type 37 -/
structure S37 where
  f0 : (List S113)
  f1 : (List S115)
def z37 : S37 := ⟨([] : List S113), ([] : List S115)⟩
def k37 : Kd S37 := Kd.iso (Kd.pair (Kd.slice 113 k113) (Kd.slice 115 k115)) (fun x : S37 => (x.f0, x.f1))
theorem k37_heap : Kd.Heap k37 := Kd.heap_iso _ (Kd.heap_pair (Kd.heap_slice 113 k113_heap) (Kd.heap_slice 115 k115_heap))
theorem k37_open {w : World} {x : S37} {cs : List Value} (h : k37.K w x cs) : ∃ A0 c0 A1 c1, cs = [.slice A0 x.f0.length c0, .slice A1 x.f1.length c1] ∧ x.f0.length ≤ c0 ∧ k113.C w A0 x.f0.length x.f0 ∧ x.f1.length ≤ c1 ∧ k115.C w A1 x.f1.length x.f1 := by
  obtain ⟨_, _, rfl, ⟨A0, c0, rfl, l0, g0⟩, ⟨A1, c1, rfl, l1, g1⟩⟩ := h
  exact ⟨A0, c0, A1, c1, rfl, l0, g0, l1, g1⟩
theorem k37_openM {w : World} {base : Nat} {ok : Nat → Prop} {x : S37} {cs : List Value} (h : k37.M w base ok x cs) : ∃ v0 v1, cs = [v0, v1] ∧ k113.R 113 w base ok v0 x.f0 ∧ k115.R 115 w base ok v1 x.f1 := by
  obtain ⟨_, _, rfl, ⟨v0, rfl, g0⟩, ⟨v1, rfl, g1⟩⟩ := h
  exact ⟨v0, v1, rfl, g0, g1⟩
theorem k37_mk (w : World) (x : S37) {A0 : Option Addr} {c0 : Nat} (l0 : x.f0.length ≤ c0) (g0 : k113.C w A0 x.f0.length x.f0) {A1 : Option Addr} {c1 : Nat} (l1 : x.f1.length ≤ c1) (g1 : k115.C w A1 x.f1.length x.f1) : k37.K w x [.slice A0 x.f0.length c0, .slice A1 x.f1.length c1] := ⟨[.slice A0 x.f0.length c0], [.slice A1 x.f1.length c1], rfl, ⟨A0, c0, rfl, l0, g0⟩, ⟨A1, c1, rfl, l1, g1⟩⟩
theorem k37_mkM (w : World) (base : Nat) (ok : Nat → Prop) (x : S37) {v0 : Value} (g0 : k113.R 113 w base ok v0 x.f0) {v1 : Value} (g1 : k115.R 115 w base ok v1 x.f1) : k37.M w base ok x [v0, v1] := ⟨[v0], [v1], rfl, ⟨v0, rfl, g0⟩, ⟨v1, rfl, g1⟩⟩
theorem k37_openF {W : World} {ok : Nat → Prop} {x : S37} {cs : List Value} (h : Kd.FK k37 W ok x cs) : ∃ A0 c0 A1 c1, cs = [.slice A0 x.f0.length c0, .slice A1 x.f1.length c1] ∧ x.f0.length ≤ c0 ∧ Kd.F k113 W ok A0 x.f0.length x.f0 ∧ x.f1.length ≤ c1 ∧ Kd.F k115 W ok A1 x.f1.length x.f1 := by
  obtain ⟨A0, c0, A1, c1, rfl, l0, _, l1, _⟩ := k37_open (Kd.FK_now h)
  exact ⟨A0, c0, A1, c1, rfl, l0, (fun W' hW => by obtain ⟨A0_, c0_, A1_, c1_, he, l0_, g0_, l1_, g1_⟩ := k37_open (h W' hW); injection (Option.some.inj (show some (Value.slice A0 x.f0.length c0) = some (Value.slice A0_ x.f0.length c0_) from congrArg (fun l => l[0]?) he)) with ha_ _ _; rw [ha_]; exact g0_), l1, (fun W' hW => by obtain ⟨A0_, c0_, A1_, c1_, he, l0_, g0_, l1_, g1_⟩ := k37_open (h W' hW); injection (Option.some.inj (show some (Value.slice A1 x.f1.length c1) = some (Value.slice A1_ x.f1.length c1_) from congrArg (fun l => l[1]?) he)) with ha_ _ _; rw [ha_]; exact g1_)⟩
theorem k37_mkF (W : World) (ok : Nat → Prop) (x : S37) {A0 : Option Addr} {c0 : Nat} (l0 : x.f0.length ≤ c0) (g0 : Kd.F k113 W ok A0 x.f0.length x.f0) {A1 : Option Addr} {c1 : Nat} (l1 : x.f1.length ≤ c1) (g1 : Kd.F k115 W ok A1 x.f1.length x.f1) : Kd.FK k37 W ok x [.slice A0 x.f0.length c0, .slice A1 x.f1.length c1] := fun W2 hW => k37_mk W2 x l0 (g0 W2 hW) l1 (g1 W2 hW)
def rd_T37 (xs : List S37) (i : Int) : S37 := xs.getD i.toNat z37
theorem at_T37 {w : World} {A : Option Addr} {n : Nat} {xs : List S37} (h : Kd.C k37 w A n xs) (i : Int) (h0 : 0 ≤ i) (h1 : i < n) : ∃ ad A0 c0 A1 c1, A = some ad ∧ w.cell? (ad.add (i.toNat * 2)) = some (.slice A0 (rd_T37 xs i).f0.length c0) ∧ w.cell? ⟨(ad.add (i.toNat * 2)).block, (ad.add (i.toNat * 2)).off + 1, none⟩ = some (.slice A1 (rd_T37 xs i).f1.length c1) ∧ (rd_T37 xs i).f0.length ≤ c0 ∧ k113.C w A0 (rd_T37 xs i).f0.length (rd_T37 xs i).f0 ∧ (rd_T37 xs i).f1.length ≤ c1 ∧ k115.C w A1 (rd_T37 xs i).f1.length (rd_T37 xs i).f1 := by
  obtain ⟨ad, c, e, _, hK, hc0⟩ := Kd.C_get h z37 i h0 h1
  have hc : ∀ j u, c[j]? = some u → w.cell? (ad.add (i.toNat * 2 + j)) = some u := hc0
  obtain ⟨A0, c0, A1, c1, rfl, l0, g0, l1, g1⟩ := k37_open hK
  exact ⟨ad, A0, c0, A1, c1, e, hc 0 _ rfl, by rw [← add_field _ _ 1 (by omega)]; exact hc 1 _ rfl, l0, g0, l1, g1⟩

def rd_L17 (xs : List (List S82)) (i : Int) : (List S82) := xs.getD i.toNat ([] : List S82)
theorem at_L17 {w : World} {A : Option Addr} {n : Nat} {xs : List (List S82)} (h : Kd.C (Kd.slice 82 k82) w A n xs) (i : Int) (h0 : 0 ≤ i) (h1 : i < n) : ∃ ad A0 c0, A = some ad ∧ w.cell? (ad.add i.toNat) = some (.slice A0 (rd_L17 xs i).length c0) ∧ (rd_L17 xs i).length ≤ c0 ∧ k82.C w A0 (rd_L17 xs i).length (rd_L17 xs i) := by
  obtain ⟨ad, c, e, _, hK, hc0⟩ := Kd.C_get h ([] : List S82) i h0 h1
  have hc : ∀ j u, c[j]? = some u → w.cell? (ad.add (i.toNat * 1 + j)) = some u := hc0
  obtain ⟨A0, c0, rfl, l0, g0⟩ := hK
  exact ⟨ad, A0, c0, e, by have hq := hc 0 _ rfl; rwa [Nat.mul_one, Nat.add_zero] at hq, l0, g0⟩

def rd_L18 (xs : List (List S87)) (i : Int) : (List S87) := xs.getD i.toNat ([] : List S87)
theorem at_L18 {w : World} {A : Option Addr} {n : Nat} {xs : List (List S87)} (h : Kd.C (Kd.slice 87 k87) w A n xs) (i : Int) (h0 : 0 ≤ i) (h1 : i < n) : ∃ ad A0 c0, A = some ad ∧ w.cell? (ad.add i.toNat) = some (.slice A0 (rd_L18 xs i).length c0) ∧ (rd_L18 xs i).length ≤ c0 ∧ k87.C w A0 (rd_L18 xs i).length (rd_L18 xs i) := by
  obtain ⟨ad, c, e, _, hK, hc0⟩ := Kd.C_get h ([] : List S87) i h0 h1
  have hc : ∀ j u, c[j]? = some u → w.cell? (ad.add (i.toNat * 1 + j)) = some u := hc0
  obtain ⟨A0, c0, rfl, l0, g0⟩ := hK
  exact ⟨ad, A0, c0, e, by have hq := hc 0 _ rfl; rwa [Nat.mul_one, Nat.add_zero] at hq, l0, g0⟩

set_option linter.unusedVariables false
set_option linter.unusedSimpArgs false

/-! ### spec_NameRight: function 78 -/
mutual
def spec_NameRight.j0 : Nat → ByteArray → Bool → Option (Bool)
  | 0, _, _ => none
  | k + 1, x0, x12 => if x12 = true then (some false) else (spec_NameRight.l0 k x0 0)
def spec_NameRight.l0 : Nat → ByteArray → Int → Option (Bool)
  | 0, _, _ => none
  | k + 1, x0, x3 => if x3 < (x0.size : Int) then (if 0 ≤ x3 then (if (bt x0 x3) ≥ 97 then (if ((bt x0 x3) ≤ 122) then (spec_NameRight.l0 k x0 (wrap64 (x3 + 1))) else (if x3 = 0 then (some false) else (if (bt x0 x3) ≥ 48 then (if ((bt x0 x3) ≤ 57) then (spec_NameRight.l0 k x0 (wrap64 (x3 + 1))) else (if (bt x0 x3) = 95 then (spec_NameRight.l0 k x0 (wrap64 (x3 + 1))) else (some false))) else (if (bt x0 x3) = 95 then (spec_NameRight.l0 k x0 (wrap64 (x3 + 1))) else (some false))))) else (if x3 = 0 then (some false) else (if (bt x0 x3) ≥ 48 then (if ((bt x0 x3) ≤ 57) then (spec_NameRight.l0 k x0 (wrap64 (x3 + 1))) else (if (bt x0 x3) = 95 then (spec_NameRight.l0 k x0 (wrap64 (x3 + 1))) else (some false))) else (if (bt x0 x3) = 95 then (spec_NameRight.l0 k x0 (wrap64 (x3 + 1))) else (some false))))) else (none)) else (some true)
end
def spec_NameRight.f (k : Nat) (a0 : ByteArray) : Option (Bool) := if (a0.size : Int) < 1 then (spec_NameRight.j0 k a0 true) else (spec_NameRight.j0 k a0 (decide ((a0.size : Int) > 20)))
theorem spec_NameRight.mono_l : ∀ k, (∀ y0 y1, LeO (spec_NameRight.j0 k y0 y1) (spec_NameRight.j0 (k + 1) y0 y1)) ∧ (∀ y0 y1, LeO (spec_NameRight.l0 k y0 y1) (spec_NameRight.l0 (k + 1) y0 y1))
  | 0 => ⟨fun _ _ r h => by simp [spec_NameRight.j0] at h, fun _ _ r h => by simp [spec_NameRight.l0] at h⟩
  | k + 1 => by
    obtain ⟨ih0, ih1⟩ := spec_NameRight.mono_l k
    refine ⟨?_, ?_⟩
    · intro y0 y1
      unfold spec_NameRight.j0
      repeat' first
      | (with_reducible exact ih0 _ _)
      | (with_reducible exact ih1 _ _)
      | (with_reducible exact LeO.refl _)
      | (with_reducible exact LeO.none _)
      | (with_reducible refine LeO.ite ?_ ?_)
      | (with_reducible refine LeO.bind ?_ (fun _ => ?_))
      | exact ih0 _ _
      | exact ih1 _ _
      | exact LeO.none _
      | refine LeO.ite ?_ ?_
      | refine LeO.bind ?_ (fun _ => ?_)
    · intro y0 y1
      unfold spec_NameRight.l0
      repeat' first
      | (with_reducible exact ih0 _ _)
      | (with_reducible exact ih1 _ _)
      | (with_reducible exact LeO.refl _)
      | (with_reducible exact LeO.none _)
      | (with_reducible refine LeO.ite ?_ ?_)
      | (with_reducible refine LeO.bind ?_ (fun _ => ?_))
      | exact ih0 _ _
      | exact ih1 _ _
      | exact LeO.none _
      | refine LeO.ite ?_ ?_
      | refine LeO.bind ?_ (fun _ => ?_)
theorem spec_NameRight.mono : ∀ a0 k, LeO (spec_NameRight.f k a0) (spec_NameRight.f (k + 1) a0) := by
  intro a0 k
  obtain ⟨ih0, ih1⟩ := spec_NameRight.mono_l k
  unfold spec_NameRight.f
  repeat' first
      | (with_reducible exact ih0 _ _)
      | (with_reducible exact ih1 _ _)
      | (with_reducible exact LeO.refl _)
      | (with_reducible exact LeO.none _)
      | (with_reducible refine LeO.ite ?_ ?_)
      | (with_reducible refine LeO.bind ?_ (fun _ => ?_))
      | exact ih0 _ _
      | exact ih1 _ _
      | exact LeO.none _
      | refine LeO.ite ?_ ?_
      | refine LeO.bind ?_ (fun _ => ?_)
set_option maxHeartbeats 8000000 in
set_option maxRecDepth 100000 in
theorem spec_NameRight.calls (k : Nat) (a0 : ByteArray) (r : Bool) (w : World) (h : spec_NameRight.f k a0 = some r) :
    Calls Tryz.prog 78 #[.string a0] w fun e w' => e = .returned (.bool r) ∧ Drawn0 w w' := by
  have H : (if (a0.size : Int) < 1 then (spec_NameRight.j0 k a0 true) else (spec_NameRight.j0 k a0 (decide ((a0.size : Int) > 20)))) = some r := h
  clear h
  have HC2 := Aside0.mk H
  clear H
  go_enter Tryz.func78, Tryz.ntmps78
  go_upto_region 1 with (fail)
  go_cut [12] (fun v12 wc => ∃ (kq : Nat) (x12_1 : Bool), v12 = .bool x12_1 ∧ Aside0 (spec_NameRight.j0 kq a0 x12_1 = some r) ∧ Aside0 (kq ≤ k) ∧ Drawn0 w wc)
  case first =>
    have H := HC2.out
    clear HC2
    by_cases c3 : (a0.size : Int) < 1
    · rw [if_pos c3] at H
      have c3b0 : decide ((a0.size : Int) < 1) = true := decide_eq_true c3
      have c3b1 : decide (a0.size < 1) = true := decide_eq_true (by omega)
      clear c3
      (first | rw [c3b0] | (simp only [i64_w, i32_w]; rw [c3b0]) | skip)
      have H' := Aside0.mk H
      clear H
      go_wp2
      go_meet
      case rel => exact ⟨_, (true), (by first | rfl | (simp; done) | (simp [*]; done)), H', ⟨by first | omega | exact Nat.le_refl _⟩, by repeat (first | exact Drawn0.refl _ | apply Drawn0.step)⟩
    · rw [if_neg c3] at H
      have c3b0 : decide ((a0.size : Int) < 1) = false := decide_eq_false c3
      have c3b1 : decide (a0.size < 1) = false := decide_eq_false (by omega)
      clear c3
      (first | rw [c3b0] | (simp only [i64_w, i32_w]; rw [c3b0]) | skip)
      have H' := Aside0.mk H
      clear H
      go_wp2
      go_meet
      case rel => exact ⟨_, (decide ((a0.size : Int) > 20)), (by first | rfl | (simp; done) | (simp [*]; done)), H', ⟨by first | omega | exact Nat.le_refl _⟩, by repeat (first | exact Drawn0.refl _ | apply Drawn0.step)⟩
  case rest =>
    clear HC2
    try clear p2
    try clear c3
    try clear c3b0
    try clear c3b1
    obtain ⟨kq, x12_1, rfl, HA, HJ1, ⟨mc1, rfl⟩⟩ := hcut
    cases kq with
    | zero => exact absurd HA.out (by simp [spec_NameRight.j0])
    | succ kj1 =>
      have H := HA.out
      clear HA
      simp only [spec_NameRight.j0] at H
      by_cases c4 : x12_1 = true
      · subst c4
        have H1 : (some false) = some r := by rw [if_pos rfl] at H; exact H
        clear H
        have H := H1
        clear H1
        obtain rfl := Option.some.inj H
        go_wp2
        go_ret
        exact ⟨by first | rfl | (simp; done) | (simp [*]; done), by repeat (first | exact Drawn0.refl _ | apply Drawn0.step)⟩
      · replace c4 := Bool.eq_false_iff.mpr c4
        subst c4
        have H1 : (spec_NameRight.l0 kj1 a0 0) = some r := by rw [if_neg (show ¬ (false = true) by decide)] at H; exact H
        clear H
        have H := H1
        clear H1
        have H' := Aside0.mk H
        clear H
        go_wp2
        go_loopg [3] kj1 (fun kq v3 w' => ∃ (x3_2 : Int), v3 = .int .i64 x3_2 ∧ Aside0 (spec_NameRight.l0 kq a0 x3_2 = some r) ∧ Aside0 (kq ≤ kj1) ∧ Drawn0 w w')
        case atStart => exact ⟨(0), (by first | rfl | (simp; done) | (simp [*]; done)), H', ⟨Nat.le_refl _⟩, by repeat (first | exact Drawn0.refl _ | apply Drawn0.step)⟩
        case round =>
          clear H'
          try clear c1
          try clear p2
          try clear c3
          try clear c3b0
          try clear c3b1
          try clear c4
          try clear p2
          obtain ⟨x3_2, rfl, HA, HK2, ⟨m2, rfl⟩⟩ := hrel
          cases gk with
          | zero => exact absurd HA.out (by simp [spec_NameRight.l0])
          | succ k2 =>
            have H := HA.out
            clear HA
            simp only [spec_NameRight.l0] at H
            by_cases c5 : x3_2 < (a0.size : Int)
            · rw [if_pos c5] at H
              have c5b0 : decide (x3_2 < (a0.size : Int)) = true := decide_eq_true c5
              clear c5
              by_cases c6 : 0 ≤ x3_2
              · rw [if_pos c6] at H
                have c6b0 : decide (0 ≤ x3_2) = true := decide_eq_true c6
                clear c6
                by_cases c8 : (bt a0 x3_2) ≥ 97
                · rw [if_pos c8] at H
                  have c8b0 : decide (97 ≤ (bt a0 x3_2)) = true := decide_eq_true c8
                  clear c8
                  by_cases c9 : ((bt a0 x3_2) ≤ 122)
                  · rw [if_pos c9] at H
                    have c9b0 : decide ((bt a0 x3_2) ≤ 122) = true := decide_eq_true c9
                    clear c9
                    have H' := Aside0.mk H
                    clear H
                    have p7 : 0 ≤ (x3_2 : Int) := of_decide_eq_true Da
                    have q7 : x3_2 < (a0.size : Int) := of_decide_eq_true Da
                    have hx7 := bt_at a0 x3_2
                    replace p7 := eq_true p7
                    replace q7 := eq_true q7
                    go_wp2
                    go_roundg k2
                    case measure => have := HJ1.out; have := HK2.out; omega
                    case rel => exact ⟨(wrap64 (x3_2 + 1)), (by first | rfl | (simp; done) | (simp [*]; done)), H', ⟨by have := HJ1.out; have := HK2.out; omega⟩, by repeat (first | exact Drawn0.refl _ | apply Drawn0.step)⟩
                  · rw [if_neg c9] at H
                    have c9b0 : decide ((bt a0 x3_2) ≤ 122) = false := decide_eq_false c9
                    clear c9
                    by_cases c10 : x3_2 = 0
                    · rw [if_pos c10] at H
                      have c10b0 : (x3_2 == 0) = true := beq_iff_eq.mpr c10
                      have c10b1 : (x3_2 != 0) = false := bne_eq_false_iff_eq.mpr c10
                      clear c10
                      obtain rfl := Option.some.inj H
                      have p7 : 0 ≤ (x3_2 : Int) := of_decide_eq_true Da
                      have q7 : x3_2 < (a0.size : Int) := of_decide_eq_true Da
                      have hx7 := bt_at a0 x3_2
                      replace p7 := eq_true p7
                      replace q7 := eq_true q7
                      go_wp2
                      go_ret
                      exact ⟨by first | rfl | (simp; done) | (simp [*]; done), by repeat (first | exact Drawn0.refl _ | apply Drawn0.step)⟩
                    · rw [if_neg c10] at H
                      have c10b0 : (x3_2 == 0) = false := beq_eq_false_iff_ne.mpr c10
                      have c10b1 : (x3_2 != 0) = true := bne_iff_ne.mpr c10
                      by_cases c11 : (bt a0 x3_2) ≥ 48
                      · rw [if_pos c11] at H
                        have c11b0 : decide (48 ≤ (bt a0 x3_2)) = true := decide_eq_true c11
                        clear c11
                        by_cases c12 : ((bt a0 x3_2) ≤ 57)
                        · rw [if_pos c12] at H
                          have c12b0 : decide ((bt a0 x3_2) ≤ 57) = true := decide_eq_true c12
                          clear c12
                          have H' := Aside0.mk H
                          clear H
                          have p7 : 0 ≤ (x3_2 : Int) := of_decide_eq_true Da
                          have q7 : x3_2 < (a0.size : Int) := of_decide_eq_true Da
                          have hx7 := bt_at a0 x3_2
                          replace p7 := eq_true p7
                          replace q7 := eq_true q7
                          go_wp2
                          go_roundg k2
                          case measure => have := HJ1.out; have := HK2.out; omega
                          case rel => exact ⟨(wrap64 (x3_2 + 1)), (by first | rfl | (simp; done) | (simp [*]; done)), H', ⟨by have := HJ1.out; have := HK2.out; omega⟩, by repeat (first | exact Drawn0.refl _ | apply Drawn0.step)⟩
                        · rw [if_neg c12] at H
                          have c12b0 : decide ((bt a0 x3_2) ≤ 57) = false := decide_eq_false c12
                          clear c12
                          by_cases c13 : (bt a0 x3_2) = 95
                          · rw [if_pos c13] at H
                            have c13b0 : ((bt a0 x3_2) == 95) = true := beq_iff_eq.mpr c13
                            have c13b1 : ((bt a0 x3_2) != 95) = false := bne_eq_false_iff_eq.mpr c13
                            clear c13
                            have H' := Aside0.mk H
                            clear H
                            have p7 : 0 ≤ (x3_2 : Int) := of_decide_eq_true Da
                            have q7 : x3_2 < (a0.size : Int) := of_decide_eq_true Da
                            have hx7 := bt_at a0 x3_2
                            replace p7 := eq_true p7
                            replace q7 := eq_true q7
                            go_wp2
                            go_roundg k2
                            case measure => have := HJ1.out; have := HK2.out; omega
                            case rel => exact ⟨(wrap64 (x3_2 + 1)), (by first | rfl | (simp; done) | (simp [*]; done)), H', ⟨by have := HJ1.out; have := HK2.out; omega⟩, by repeat (first | exact Drawn0.refl _ | apply Drawn0.step)⟩
                          · rw [if_neg c13] at H
                            have c13b0 : ((bt a0 x3_2) == 95) = false := beq_eq_false_iff_ne.mpr c13
                            have c13b1 : ((bt a0 x3_2) != 95) = true := bne_iff_ne.mpr c13
                            obtain rfl := Option.some.inj H
                            have p7 : 0 ≤ (x3_2 : Int) := of_decide_eq_true Da
                            have q7 : x3_2 < (a0.size : Int) := of_decide_eq_true Da
                            have hx7 := bt_at a0 x3_2
                            replace p7 := eq_true p7
                            replace q7 := eq_true q7
                            go_wp2
                            go_ret
                            exact ⟨by first | rfl | (simp; done) | (simp [*]; done), by repeat (first | exact Drawn0.refl _ | apply Drawn0.step)⟩
                      · rw [if_neg c11] at H
                        have c11b0 : decide (48 ≤ (bt a0 x3_2)) = false := decide_eq_false c11
                        clear c11
                        by_cases c14 : (bt a0 x3_2) = 95
                        · rw [if_pos c14] at H
                          have c14b0 : ((bt a0 x3_2) == 95) = true := beq_iff_eq.mpr c14
                          have c14b1 : ((bt a0 x3_2) != 95) = false := bne_eq_false_iff_eq.mpr c14
                          clear c14
                          have H' := Aside0.mk H
                          clear H
                          have p7 : 0 ≤ (x3_2 : Int) := of_decide_eq_true Da
                          have q7 : x3_2 < (a0.size : Int) := of_decide_eq_true Da
                          have hx7 := bt_at a0 x3_2
                          replace p7 := eq_true p7
                          replace q7 := eq_true q7
                          go_wp2
                          go_roundg k2
                          case measure => have := HJ1.out; have := HK2.out; omega
                          case rel => exact ⟨(wrap64 (x3_2 + 1)), (by first | rfl | (simp; done) | (simp [*]; done)), H', ⟨by have := HJ1.out; have := HK2.out; omega⟩, by repeat (first | exact Drawn0.refl _ | apply Drawn0.step)⟩
                        · rw [if_neg c14] at H
                          have c14b0 : ((bt a0 x3_2) == 95) = false := beq_eq_false_iff_ne.mpr c14
                          have c14b1 : ((bt a0 x3_2) != 95) = true := bne_iff_ne.mpr c14
                          obtain rfl := Option.some.inj H
                          have p7 : 0 ≤ (x3_2 : Int) := of_decide_eq_true Da
                          have q7 : x3_2 < (a0.size : Int) := of_decide_eq_true Da
                          have hx7 := bt_at a0 x3_2
                          replace p7 := eq_true p7
                          replace q7 := eq_true q7
                          go_wp2
                          go_ret
                          exact ⟨by first | rfl | (simp; done) | (simp [*]; done), by repeat (first | exact Drawn0.refl _ | apply Drawn0.step)⟩
                · rw [if_neg c8] at H
                  have c8b0 : decide (97 ≤ (bt a0 x3_2)) = false := decide_eq_false c8
                  clear c8
                  by_cases c15 : x3_2 = 0
                  · rw [if_pos c15] at H
                    have c15b0 : (x3_2 == 0) = true := beq_iff_eq.mpr c15
                    have c15b1 : (x3_2 != 0) = false := bne_eq_false_iff_eq.mpr c15
                    clear c15
                    obtain rfl := Option.some.inj H
                    have p7 : 0 ≤ (x3_2 : Int) := of_decide_eq_true Da
                    have q7 : x3_2 < (a0.size : Int) := of_decide_eq_true Da
                    have hx7 := bt_at a0 x3_2
                    replace p7 := eq_true p7
                    replace q7 := eq_true q7
                    go_wp2
                    go_ret
                    exact ⟨by first | rfl | (simp; done) | (simp [*]; done), by repeat (first | exact Drawn0.refl _ | apply Drawn0.step)⟩
                  · rw [if_neg c15] at H
                    have c15b0 : (x3_2 == 0) = false := beq_eq_false_iff_ne.mpr c15
                    have c15b1 : (x3_2 != 0) = true := bne_iff_ne.mpr c15
                    by_cases c16 : (bt a0 x3_2) ≥ 48
                    · rw [if_pos c16] at H
                      have c16b0 : decide (48 ≤ (bt a0 x3_2)) = true := decide_eq_true c16
                      clear c16
                      by_cases c17 : ((bt a0 x3_2) ≤ 57)
                      · rw [if_pos c17] at H
                        have c17b0 : decide ((bt a0 x3_2) ≤ 57) = true := decide_eq_true c17
                        clear c17
                        have H' := Aside0.mk H
                        clear H
                        have p7 : 0 ≤ (x3_2 : Int) := of_decide_eq_true Da
                        have q7 : x3_2 < (a0.size : Int) := of_decide_eq_true Da
                        have hx7 := bt_at a0 x3_2
                        replace p7 := eq_true p7
                        replace q7 := eq_true q7
                        go_wp2
                        go_roundg k2
                        case measure => have := HJ1.out; have := HK2.out; omega
                        case rel => exact ⟨(wrap64 (x3_2 + 1)), (by first | rfl | (simp; done) | (simp [*]; done)), H', ⟨by have := HJ1.out; have := HK2.out; omega⟩, by repeat (first | exact Drawn0.refl _ | apply Drawn0.step)⟩
                      · rw [if_neg c17] at H
                        have c17b0 : decide ((bt a0 x3_2) ≤ 57) = false := decide_eq_false c17
                        clear c17
                        by_cases c18 : (bt a0 x3_2) = 95
                        · rw [if_pos c18] at H
                          have c18b0 : ((bt a0 x3_2) == 95) = true := beq_iff_eq.mpr c18
                          have c18b1 : ((bt a0 x3_2) != 95) = false := bne_eq_false_iff_eq.mpr c18
                          clear c18
                          have H' := Aside0.mk H
                          clear H
                          have p7 : 0 ≤ (x3_2 : Int) := of_decide_eq_true Da
                          have q7 : x3_2 < (a0.size : Int) := of_decide_eq_true Da
                          have hx7 := bt_at a0 x3_2
                          replace p7 := eq_true p7
                          replace q7 := eq_true q7
                          go_wp2
                          go_roundg k2
                          case measure => have := HJ1.out; have := HK2.out; omega
                          case rel => exact ⟨(wrap64 (x3_2 + 1)), (by first | rfl | (simp; done) | (simp [*]; done)), H', ⟨by have := HJ1.out; have := HK2.out; omega⟩, by repeat (first | exact Drawn0.refl _ | apply Drawn0.step)⟩
                        · rw [if_neg c18] at H
                          have c18b0 : ((bt a0 x3_2) == 95) = false := beq_eq_false_iff_ne.mpr c18
                          have c18b1 : ((bt a0 x3_2) != 95) = true := bne_iff_ne.mpr c18
                          obtain rfl := Option.some.inj H
                          have p7 : 0 ≤ (x3_2 : Int) := of_decide_eq_true Da
                          have q7 : x3_2 < (a0.size : Int) := of_decide_eq_true Da
                          have hx7 := bt_at a0 x3_2
                          replace p7 := eq_true p7
                          replace q7 := eq_true q7
                          go_wp2
                          go_ret
                          exact ⟨by first | rfl | (simp; done) | (simp [*]; done), by repeat (first | exact Drawn0.refl _ | apply Drawn0.step)⟩
                    · rw [if_neg c16] at H
                      have c16b0 : decide (48 ≤ (bt a0 x3_2)) = false := decide_eq_false c16
                      clear c16
                      by_cases c19 : (bt a0 x3_2) = 95
                      · rw [if_pos c19] at H
                        have c19b0 : ((bt a0 x3_2) == 95) = true := beq_iff_eq.mpr c19
                        have c19b1 : ((bt a0 x3_2) != 95) = false := bne_eq_false_iff_eq.mpr c19
                        clear c19
                        have H' := Aside0.mk H
                        clear H
                        have p7 : 0 ≤ (x3_2 : Int) := of_decide_eq_true Da
                        have q7 : x3_2 < (a0.size : Int) := of_decide_eq_true Da
                        have hx7 := bt_at a0 x3_2
                        replace p7 := eq_true p7
                        replace q7 := eq_true q7
                        go_wp2
                        go_roundg k2
                        case measure => have := HJ1.out; have := HK2.out; omega
                        case rel => exact ⟨(wrap64 (x3_2 + 1)), (by first | rfl | (simp; done) | (simp [*]; done)), H', ⟨by have := HJ1.out; have := HK2.out; omega⟩, by repeat (first | exact Drawn0.refl _ | apply Drawn0.step)⟩
                      · rw [if_neg c19] at H
                        have c19b0 : ((bt a0 x3_2) == 95) = false := beq_eq_false_iff_ne.mpr c19
                        have c19b1 : ((bt a0 x3_2) != 95) = true := bne_iff_ne.mpr c19
                        obtain rfl := Option.some.inj H
                        have p7 : 0 ≤ (x3_2 : Int) := of_decide_eq_true Da
                        have q7 : x3_2 < (a0.size : Int) := of_decide_eq_true Da
                        have hx7 := bt_at a0 x3_2
                        replace p7 := eq_true p7
                        replace q7 := eq_true q7
                        go_wp2
                        go_ret
                        exact ⟨by first | rfl | (simp; done) | (simp [*]; done), by repeat (first | exact Drawn0.refl _ | apply Drawn0.step)⟩
              · rw [if_neg c6] at H
                exact absurd H (by simp)
            · rw [if_neg c5] at H
              have c5b0 : decide (x3_2 < (a0.size : Int)) = false := decide_eq_false c5
              clear c5
              obtain rfl := Option.some.inj H
              go_wp2
              go_ret
              exact ⟨by first | rfl | (simp; done) | (simp [*]; done), by repeat (first | exact Drawn0.refl _ | apply Drawn0.step)⟩

set_option linter.unusedVariables false
set_option linter.unusedSimpArgs false

/-! ### spec_l02Plain: function 140 -/
def spec_l02Plain.l0 : Nat → ByteArray → Int → Option (Bool)
  | 0, _, _ => none
  | k + 1, x0, x3 => if x3 < (x0.size : Int) then (if 0 ≤ x3 then (if (bt x0 x3) < 32 then (some false) else (if (bt x0 x3) > 126 then (some false) else (spec_l02Plain.l0 k x0 (wrap64 (x3 + 1))))) else (none)) else (some true)
def spec_l02Plain.f (k : Nat) (a0 : ByteArray) : Option (Bool) := spec_l02Plain.l0 k a0 0
theorem spec_l02Plain.mono_l : ∀ k, (∀ y0 y1, LeO (spec_l02Plain.l0 k y0 y1) (spec_l02Plain.l0 (k + 1) y0 y1))
  | 0 => fun _ _ r h => by simp [spec_l02Plain.l0] at h
  | k + 1 => by
    have ih0 := spec_l02Plain.mono_l k
    · intro y0 y1
      unfold spec_l02Plain.l0
      repeat' first
      | (with_reducible exact ih0 _ _)
      | (with_reducible exact LeO.refl _)
      | (with_reducible exact LeO.none _)
      | (with_reducible refine LeO.ite ?_ ?_)
      | (with_reducible refine LeO.bind ?_ (fun _ => ?_))
      | exact ih0 _ _
      | exact LeO.none _
      | refine LeO.ite ?_ ?_
      | refine LeO.bind ?_ (fun _ => ?_)
theorem spec_l02Plain.mono : ∀ a0 k, LeO (spec_l02Plain.f k a0) (spec_l02Plain.f (k + 1) a0) := by
  intro a0 k
  have ih0 := spec_l02Plain.mono_l k
  unfold spec_l02Plain.f
  repeat' first
      | (with_reducible exact ih0 _ _)
      | (with_reducible exact LeO.refl _)
      | (with_reducible exact LeO.none _)
      | (with_reducible refine LeO.ite ?_ ?_)
      | (with_reducible refine LeO.bind ?_ (fun _ => ?_))
      | exact ih0 _ _
      | exact LeO.none _
      | refine LeO.ite ?_ ?_
      | refine LeO.bind ?_ (fun _ => ?_)
set_option maxHeartbeats 8000000 in
set_option maxRecDepth 100000 in
theorem spec_l02Plain.calls (k : Nat) (a0 : ByteArray) (r : Bool) (w : World) (h : spec_l02Plain.f k a0 = some r) :
    Calls Tryz.prog 140 #[.string a0] w fun e w' => e = .returned (.bool r) ∧ Drawn0 w w' := by
  have H : (spec_l02Plain.l0 k a0 0) = some r := h
  clear h
  have H' := Aside0.mk H
  clear H
  go_enter Tryz.func140, Tryz.ntmps140
  go_wp2
  go_loopg [3] k (fun kq v3 w' => ∃ (x3_1 : Int), v3 = .int .i64 x3_1 ∧ Aside0 (spec_l02Plain.l0 kq a0 x3_1 = some r) ∧ Aside0 (kq ≤ k) ∧ Drawn0 w w')
  case atStart => exact ⟨(0), (by first | rfl | (simp; done) | (simp [*]; done)), H', ⟨Nat.le_refl _⟩, by repeat (first | exact Drawn0.refl _ | apply Drawn0.step)⟩
  case round =>
    clear H'
    try clear c1
    obtain ⟨x3_1, rfl, HA, HK1, ⟨m1, rfl⟩⟩ := hrel
    cases gk with
    | zero => exact absurd HA.out (by simp [spec_l02Plain.l0])
    | succ k1 =>
      have H := HA.out
      clear HA
      simp only [spec_l02Plain.l0] at H
      by_cases c2 : x3_1 < (a0.size : Int)
      · rw [if_pos c2] at H
        have c2b0 : decide (x3_1 < (a0.size : Int)) = true := decide_eq_true c2
        clear c2
        by_cases c3 : 0 ≤ x3_1
        · rw [if_pos c3] at H
          have c3b0 : decide (0 ≤ x3_1) = true := decide_eq_true c3
          clear c3
          by_cases c5 : (bt a0 x3_1) < 32
          · rw [if_pos c5] at H
            have c5b0 : decide ((bt a0 x3_1) < 32) = true := decide_eq_true c5
            clear c5
            obtain rfl := Option.some.inj H
            have p4 : 0 ≤ (x3_1 : Int) := of_decide_eq_true Da
            have q4 : x3_1 < (a0.size : Int) := of_decide_eq_true Da
            have hx4 := bt_at a0 x3_1
            replace p4 := eq_true p4
            replace q4 := eq_true q4
            go_wp2
            go_ret
            exact ⟨by first | rfl | (simp; done) | (simp [*]; done), by repeat (first | exact Drawn0.refl _ | apply Drawn0.step)⟩
          · rw [if_neg c5] at H
            have c5b0 : decide ((bt a0 x3_1) < 32) = false := decide_eq_false c5
            clear c5
            by_cases c7 : (bt a0 x3_1) > 126
            · rw [if_pos c7] at H
              have c7b0 : decide (126 < (bt a0 x3_1)) = true := decide_eq_true c7
              clear c7
              obtain rfl := Option.some.inj H
              have p4 : 0 ≤ (x3_1 : Int) := of_decide_eq_true Da
              have q4 : x3_1 < (a0.size : Int) := of_decide_eq_true Da
              have hx4 := bt_at a0 x3_1
              replace p4 := eq_true p4
              replace q4 := eq_true q4
              have p6 : 0 ≤ (x3_1 : Int) := of_decide_eq_true Da
              have q6 : x3_1 < (a0.size : Int) := of_decide_eq_true Da
              have hx6 := bt_at a0 x3_1
              replace p6 := eq_true p6
              replace q6 := eq_true q6
              go_wp2
              go_ret
              exact ⟨by first | rfl | (simp; done) | (simp [*]; done), by repeat (first | exact Drawn0.refl _ | apply Drawn0.step)⟩
            · rw [if_neg c7] at H
              have c7b0 : decide (126 < (bt a0 x3_1)) = false := decide_eq_false c7
              clear c7
              have H' := Aside0.mk H
              clear H
              have p4 : 0 ≤ (x3_1 : Int) := of_decide_eq_true Da
              have q4 : x3_1 < (a0.size : Int) := of_decide_eq_true Da
              have hx4 := bt_at a0 x3_1
              replace p4 := eq_true p4
              replace q4 := eq_true q4
              have p6 : 0 ≤ (x3_1 : Int) := of_decide_eq_true Da
              have q6 : x3_1 < (a0.size : Int) := of_decide_eq_true Da
              have hx6 := bt_at a0 x3_1
              replace p6 := eq_true p6
              replace q6 := eq_true q6
              go_wp2
              go_roundg k1
              case measure => have := HK1.out; omega
              case rel => exact ⟨(wrap64 (x3_1 + 1)), (by first | rfl | (simp; done) | (simp [*]; done)), H', ⟨by have := HK1.out; omega⟩, by repeat (first | exact Drawn0.refl _ | apply Drawn0.step)⟩
        · rw [if_neg c3] at H
          exact absurd H (by simp)
      · rw [if_neg c2] at H
        have c2b0 : decide (x3_1 < (a0.size : Int)) = false := decide_eq_false c2
        clear c2
        obtain rfl := Option.some.inj H
        go_wp2
        go_ret
        exact ⟨by first | rfl | (simp; done) | (simp [*]; done), by repeat (first | exact Drawn0.refl _ | apply Drawn0.step)⟩

set_option linter.unusedVariables false
set_option linter.unusedSimpArgs false

/-! ### spec_Norm: function 118 -/
mutual
def spec_Norm.j0 : Nat → ByteArray → Bool → Option (ByteArray)
  | 0, _, _ => none
  | k + 1, x0, x13 => if x13 = true then (some (⟨#[]⟩ : ByteArray)) else (spec_Norm.l0 k x0 (([] : List Int)) 0)
def spec_Norm.l0 : Nat → ByteArray → List Int → Int → Option (ByteArray)
  | 0, _, _, _ => none
  | k + 1, x0, x3, x4 => if x4 < (x0.size : Int) then (if 0 ≤ x4 then (if (bt x0 x4) ≥ 65 then (spec_Norm.j2 k x0 x3 x4 (bt x0 x4) (decide ((bt x0 x4) ≤ 90))) else (spec_Norm.j2 k x0 x3 x4 (bt x0 x4) false)) else (none)) else (if (x3.length : Int) > 0 then (if 0 ≤ (wrap64 ((x3.length : Int) - 1)) then (if (wrap64 ((x3.length : Int) - 1)) < (x3.length : Int) then (if (rd x3 (wrap64 ((x3.length : Int) - 1))) = 32 then (if (wrap64 ((x3.length : Int) - 1)) ≤ (x3.length : Int) then (some (strOfNums (x3.take ((wrap64 ((x3.length : Int) - 1)) : Int).toNat))) else (none)) else (some (strOfNums x3))) else (none)) else (none)) else (some (strOfNums x3)))
def spec_Norm.j2 : Nat → ByteArray → List Int → Int → Int → Bool → Option (ByteArray)
  | 0, _, _, _, _, _ => none
  | k + 1, x0, x3, x4, x5, x29 => if x29 = true then (if ((x5 + 32) % 256) = 32 then (if (x3.length : Int) = 0 then (spec_Norm.l0 k x0 x3 (wrap64 (x4 + 1))) else (if 0 ≤ (wrap64 ((x3.length : Int) - 1)) then (if (wrap64 ((x3.length : Int) - 1)) < (x3.length : Int) then (if (rd x3 (wrap64 ((x3.length : Int) - 1))) = 32 then (spec_Norm.l0 k x0 x3 (wrap64 (x4 + 1))) else (if x3.length < 140737488355328 then (spec_Norm.l0 k x0 (x3 ++ [(x5 + 32) % 256]) (wrap64 (x4 + 1))) else (none))) else (none)) else (none))) else (if x3.length < 140737488355328 then (spec_Norm.l0 k x0 (x3 ++ [(x5 + 32) % 256]) (wrap64 (x4 + 1))) else (none))) else (if x5 = 32 then (if (x3.length : Int) = 0 then (spec_Norm.l0 k x0 x3 (wrap64 (x4 + 1))) else (if 0 ≤ (wrap64 ((x3.length : Int) - 1)) then (if (wrap64 ((x3.length : Int) - 1)) < (x3.length : Int) then (if (rd x3 (wrap64 ((x3.length : Int) - 1))) = 32 then (spec_Norm.l0 k x0 x3 (wrap64 (x4 + 1))) else (if x3.length < 140737488355328 then (spec_Norm.l0 k x0 (x3 ++ [x5]) (wrap64 (x4 + 1))) else (none))) else (none)) else (none))) else (if x3.length < 140737488355328 then (spec_Norm.l0 k x0 (x3 ++ [x5]) (wrap64 (x4 + 1))) else (none)))
end
def spec_Norm.f (k : Nat) (a0 : ByteArray) : Option (ByteArray) := if (a0.size : Int) > 100 then (spec_Norm.j0 k a0 true) else ((spec_l02Plain.f k a0).bind fun t171 => (spec_Norm.j0 k a0 (!t171)))
theorem spec_Norm.mono_l : ∀ k, (∀ y0 y1, LeO (spec_Norm.j0 k y0 y1) (spec_Norm.j0 (k + 1) y0 y1)) ∧ (∀ y0 y1 y2, LeO (spec_Norm.l0 k y0 y1 y2) (spec_Norm.l0 (k + 1) y0 y1 y2)) ∧ (∀ y0 y1 y2 y3 y4, LeO (spec_Norm.j2 k y0 y1 y2 y3 y4) (spec_Norm.j2 (k + 1) y0 y1 y2 y3 y4))
  | 0 => ⟨fun _ _ r h => by simp [spec_Norm.j0] at h, fun _ _ _ r h => by simp [spec_Norm.l0] at h, fun _ _ _ _ _ r h => by simp [spec_Norm.j2] at h⟩
  | k + 1 => by
    obtain ⟨ih0, ih1, ih2⟩ := spec_Norm.mono_l k
    refine ⟨?_, ?_, ?_⟩
    · intro y0 y1
      unfold spec_Norm.j0
      repeat' first
      | (with_reducible exact ih0 _ _)
      | (with_reducible exact ih1 _ _ _)
      | (with_reducible exact ih2 _ _ _ _ _)
      | (with_reducible exact spec_l02Plain.mono _ _)
      | (with_reducible exact LeO.refl _)
      | (with_reducible exact LeO.none _)
      | (with_reducible refine LeO.ite ?_ ?_)
      | (with_reducible refine LeO.bind ?_ (fun _ => ?_))
      | exact ih0 _ _
      | exact ih1 _ _ _
      | exact ih2 _ _ _ _ _
      | exact spec_l02Plain.mono _ _
      | exact LeO.none _
      | refine LeO.ite ?_ ?_
      | refine LeO.bind ?_ (fun _ => ?_)
    · intro y0 y1 y2
      unfold spec_Norm.l0
      repeat' first
      | (with_reducible exact ih0 _ _)
      | (with_reducible exact ih1 _ _ _)
      | (with_reducible exact ih2 _ _ _ _ _)
      | (with_reducible exact spec_l02Plain.mono _ _)
      | (with_reducible exact LeO.refl _)
      | (with_reducible exact LeO.none _)
      | (with_reducible refine LeO.ite ?_ ?_)
      | (with_reducible refine LeO.bind ?_ (fun _ => ?_))
      | exact ih0 _ _
      | exact ih1 _ _ _
      | exact ih2 _ _ _ _ _
      | exact spec_l02Plain.mono _ _
      | exact LeO.none _
      | refine LeO.ite ?_ ?_
      | refine LeO.bind ?_ (fun _ => ?_)
    · intro y0 y1 y2 y3 y4
      unfold spec_Norm.j2
      repeat' first
      | (with_reducible exact ih0 _ _)
      | (with_reducible exact ih1 _ _ _)
      | (with_reducible exact ih2 _ _ _ _ _)
      | (with_reducible exact spec_l02Plain.mono _ _)
      | (with_reducible exact LeO.refl _)
      | (with_reducible exact LeO.none _)
      | (with_reducible refine LeO.ite ?_ ?_)
      | (with_reducible refine LeO.bind ?_ (fun _ => ?_))
      | exact ih0 _ _
      | exact ih1 _ _ _
      | exact ih2 _ _ _ _ _
      | exact spec_l02Plain.mono _ _
      | exact LeO.none _
      | refine LeO.ite ?_ ?_
      | refine LeO.bind ?_ (fun _ => ?_)
theorem spec_Norm.mono : ∀ a0 k, LeO (spec_Norm.f k a0) (spec_Norm.f (k + 1) a0) := by
  intro a0 k
  obtain ⟨ih0, ih1, ih2⟩ := spec_Norm.mono_l k
  unfold spec_Norm.f
  repeat' first
      | (with_reducible exact ih0 _ _)
      | (with_reducible exact ih1 _ _ _)
      | (with_reducible exact ih2 _ _ _ _ _)
      | (with_reducible exact spec_l02Plain.mono _ _)
      | (with_reducible exact LeO.refl _)
      | (with_reducible exact LeO.none _)
      | (with_reducible refine LeO.ite ?_ ?_)
      | (with_reducible refine LeO.bind ?_ (fun _ => ?_))
      | exact ih0 _ _
      | exact ih1 _ _ _
      | exact ih2 _ _ _ _ _
      | exact spec_l02Plain.mono _ _
      | exact LeO.none _
      | refine LeO.ite ?_ ?_
      | refine LeO.bind ?_ (fun _ => ?_)
set_option maxHeartbeats 8000000 in
set_option maxRecDepth 100000 in
theorem spec_Norm.calls (k : Nat) (a0 : ByteArray) (r : ByteArray) (w : World) (h : spec_Norm.f k a0 = some r) :
    Calls Tryz.prog 118 #[.string a0] w fun e w' => e = .returned (.string r) ∧ Below w.heap.size w w' := by
  have HB := Aside0.mk (Below.refl w.heap.size w)
  have H : (if (a0.size : Int) > 100 then (spec_Norm.j0 k a0 true) else ((spec_l02Plain.f k a0).bind fun t171 => (spec_Norm.j0 k a0 (!t171)))) = some r := h
  clear h
  have HC2 := Aside0.mk H
  clear H
  go_enter Tryz.func118, Tryz.ntmps118
  go_upto_region 1 with (fail)
  go_cut [13] (fun v13 wc => ∃ (kq : Nat) (x13_1 : Bool), v13 = .bool x13_1 ∧ Aside0 (spec_Norm.j0 kq a0 x13_1 = some r) ∧ Aside0 (kq ≤ k) ∧ Aside0 (Below w.heap.size w wc))
  case first =>
    have H := HC2.out
    clear HC2
    by_cases c3 : (a0.size : Int) > 100
    · rw [if_pos c3] at H
      have c3b0 : decide (100 < (a0.size : Int)) = true := decide_eq_true c3
      have c3b1 : decide (100 < a0.size) = true := decide_eq_true (by omega)
      clear c3
      (first | rw [c3b0] | (simp only [i64_w, i32_w]; rw [c3b0]) | skip)
      have H' := Aside0.mk H
      clear H
      go_wp2
      go_meet
      case rel => exact ⟨_, (true), (by first | rfl | (simp; done) | (simp [*]; done)), H', ⟨by first | omega | exact Nat.le_refl _⟩, ⟨By⟩⟩
    · rw [if_neg c3] at H
      have c3b0 : decide (100 < (a0.size : Int)) = false := decide_eq_false c3
      have c3b1 : decide (100 < a0.size) = false := decide_eq_false (by omega)
      clear c3
      (first | rw [c3b0] | (simp only [i64_w, i32_w]; rw [c3b0]) | skip)
      replace H := Option.bind_eq_some_iff.mp H
      obtain ⟨t171, A40, H⟩ := H
      replace H : (spec_Norm.j0 k a0 (!t171)) = some r := H
      have A4 := Aside0.mk A40
      clear A40
      have H' := Aside0.mk H
      clear H
      go_wp2_with (first | (go_at_call 140; (with_reducible refine (spec_l02Plain.calls k a0 t171 _ A4.out).mono ?_); rintro e w' ⟨rfl, ⟨nd, rfl⟩⟩))
      go_meet
      case rel => exact ⟨_, (!t171), (by first | rfl | (simp; done) | (simp [*]; done)), H', ⟨by first | omega | exact Nat.le_refl _⟩, ⟨By⟩⟩
  case rest =>
    clear HC2
    try clear c1
    try clear p2
    try clear c3
    try clear c3b0
    try clear c3b1
    obtain ⟨kq, x13_1, rfl, HA, HJ1, HB⟩ := hcut
    cases kq with
    | zero => exact absurd HA.out (by simp [spec_Norm.j0])
    | succ kj1 =>
      have H := HA.out
      clear HA
      simp only [spec_Norm.j0] at H
      by_cases c5 : x13_1 = true
      · subst c5
        have H1 : (some (⟨#[]⟩ : ByteArray)) = some r := by rw [if_pos rfl] at H; exact H
        clear H
        have H := H1
        clear H1
        obtain rfl := Option.some.inj H
        go_wp2
        go_ret
        exact ⟨Rf, By⟩
      · replace c5 := Bool.eq_false_iff.mpr c5
        subst c5
        have H1 : (spec_Norm.l0 kj1 a0 (([] : List Int)) 0) = some r := by rw [if_neg (show ¬ (false = true) by decide)] at H; exact H
        clear H
        have H := H1
        clear H1
        obtain ⟨y172, hy172⟩ : ∃ y_ : List Int, y_ = (([] : List Int)) := ⟨_, rfl⟩
        replace H : (spec_Norm.l0 kj1 a0 y172 0) = some r := by first | (rw [hy172]; with_reducible exact H) | (have H2_ := (Option.bind_some _ _).symm.trans H; rw [hy172]; with_reducible exact H2_) | (have H2_ := (Option.bind_some _ _).symm.trans H; with_reducible exact H2_) | with_reducible exact H | (rw [hy172]; exact H) | exact H
        have Ny172 := Aside0.mk hy172
        clear hy172
        have H' := Aside0.mk H
        clear H
        go_wp2_with (first | ((with_reducible refine gate_dst (N := 14) rfl ?_); (try (refine gate_guard (by rfl) ?_; dsimp only)); refine Kd.R_lit (Kd.int .u8) _ 5 ?hg (N := 14) ?hd (xs := ([] : List Int)) (inner := []) (ok := fun _ => True) (okp := fun _ => True) ?hr ?hp (fun _ hk => hk) trivial (Below.refl _ _) (Nat.le_refl _) (by simp) ?_; (case hd => rfl); (case hg => rfl); (case hr => first | (go_simp; done) | (go_simp; rfl)); (case hp => exact (Reps.none _ _)); intro v173 w6 ho7 hb hg_ hnew_; clear hg_ hnew_; (first | rw [← Ny172.out] at ho7 | (simp only [Int.reduceToNat] at ho7; rw [← Ny172.out] at ho7)); have n0_ := Aside0.mk (Kd.R_lower ho7 (below_size By)); have n1_ := Aside0.mk (below_step By hb); clear HB; have HO174 := n0_; have HB := n1_; clear n0_ n1_; clear hb ho7))
        go_loopg [3, 4] kj1 (fun kq v3 v4 w' => ∃ (x3_2 : List Int) (x4_2 : Int), v4 = .int .i64 x4_2 ∧ Aside0 (spec_Norm.l0 kq a0 x3_2 x4_2 = some r) ∧ Aside0 (kq ≤ kj1) ∧ Aside0 (Kd.R (Kd.int .u8) 5 w' w.heap.size (fun _ => True) v3 x3_2) ∧ Aside0 (Below w.heap.size w w'))
        case atStart => exact ⟨(y172), (0), (by first | rfl | (simp; done) | (simp [*]; done)), H', ⟨Nat.le_refl _⟩, ⟨by (with_reducible repeat (first | apply Kd.R_alloc | apply Kd.R_drewN | apply Kd.R_drew)); exact HO174.out⟩, ⟨By⟩⟩
        case round =>
          clear H'
          try clear c1
          try clear p2
          try clear c3
          try clear c3b0
          try clear c3b1
          try clear c5
          try clear p2
          obtain ⟨x3_2, x4_2, rfl, HA, HK2, HO_3, HB⟩ := hrel
          cases gk with
          | zero => exact absurd HA.out (by simp [spec_Norm.l0])
          | succ k2 =>
            have H := HA.out
            clear HA
            simp only [spec_Norm.l0] at H
            by_cases c8 : x4_2 < (a0.size : Int)
            · rw [if_pos c8] at H
              have c8b0 : decide (x4_2 < (a0.size : Int)) = true := decide_eq_true c8
              clear c8
              by_cases c9 : 0 ≤ x4_2
              · rw [if_pos c9] at H
                have c9b0 : decide (0 ≤ x4_2) = true := decide_eq_true c9
                clear c9
                have HC11 := Aside0.mk H
                clear H
                have p10 : 0 ≤ (x4_2 : Int) := of_decide_eq_true Da
                have q10 : x4_2 < (a0.size : Int) := of_decide_eq_true Da
                have hx10 := bt_at a0 x4_2
                replace p10 := eq_true p10
                replace q10 := eq_true q10
                go_upto_region 8 with (fail)
                go_cut [29] (fun v29 wc => ∃ (kq : Nat) (x29_10 : Bool), v29 = .bool x29_10 ∧ Aside0 (spec_Norm.j2 kq a0 x3_2 x4_2 (bt a0 x4_2) x29_10 = some r) ∧ Aside0 (kq ≤ k2) ∧ Aside0 (Kd.R (Kd.int .u8) 5 wc w.heap.size (fun _ => True) u3 x3_2) ∧ Aside0 (Below w.heap.size w wc))
                case first =>
                  have H := HC11.out
                  clear HC11
                  by_cases c12 : (bt a0 x4_2) ≥ 65
                  · rw [if_pos c12] at H
                    have c12b0 : decide (65 ≤ (bt a0 x4_2)) = true := decide_eq_true c12
                    clear c12
                    (first | rw [c12b0] | (simp only [i64_w, i32_w]; rw [c12b0]) | skip)
                    have H' := Aside0.mk H
                    clear H
                    go_wp2
                    go_meet
                    case rel => exact ⟨_, (decide ((bt a0 x4_2) ≤ 90)), (by first | rfl | (simp; done) | (simp [*]; done)), H', ⟨by have := HJ1.out; have := HK2.out; first | omega | exact Nat.le_refl _⟩, ⟨by (with_reducible repeat (first | apply Kd.R_alloc | apply Kd.R_drewN | apply Kd.R_drew)); exact HO_3.out⟩, ⟨By⟩⟩
                  · rw [if_neg c12] at H
                    have c12b0 : decide (65 ≤ (bt a0 x4_2)) = false := decide_eq_false c12
                    clear c12
                    (first | rw [c12b0] | (simp only [i64_w, i32_w]; rw [c12b0]) | skip)
                    have H' := Aside0.mk H
                    clear H
                    go_wp2
                    go_meet
                    case rel => exact ⟨_, (false), (by first | rfl | (simp; done) | (simp [*]; done)), H', ⟨by have := HJ1.out; have := HK2.out; first | omega | exact Nat.le_refl _⟩, ⟨by (with_reducible repeat (first | apply Kd.R_alloc | apply Kd.R_drewN | apply Kd.R_drew)); exact HO_3.out⟩, ⟨By⟩⟩
                case rest =>
                  clear HC11
                  try clear c1
                  try clear p1
                  try clear q1
                  try clear hx1
                  try clear p2
                  try clear c3
                  try clear c3b0
                  try clear c3b1
                  try clear c5
                  try clear c8
                  try clear c8b0
                  try clear c9
                  try clear c9b0
                  try clear p10
                  try clear q10
                  try clear hx10
                  try clear c11
                  try clear c12
                  try clear c12b0
                  try clear p10
                  try clear p2
                  try clear q10
                  obtain ⟨kq, x29_10, rfl, HA, HJ10, HO_3, HB⟩ := hcut
                  cases kq with
                  | zero => exact absurd HA.out (by simp [spec_Norm.j2])
                  | succ kj10 =>
                    have H := HA.out
                    clear HA
                    simp only [spec_Norm.j2] at H
                    by_cases c13 : x29_10 = true
                    · subst c13
                      have H1 : (if (((bt a0 x4_2) + 32) % 256) = 32 then (if (x3_2.length : Int) = 0 then (spec_Norm.l0 kj10 a0 x3_2 (wrap64 (x4_2 + 1))) else (if 0 ≤ (wrap64 ((x3_2.length : Int) - 1)) then (if (wrap64 ((x3_2.length : Int) - 1)) < (x3_2.length : Int) then (if (rd x3_2 (wrap64 ((x3_2.length : Int) - 1))) = 32 then (spec_Norm.l0 kj10 a0 x3_2 (wrap64 (x4_2 + 1))) else (if x3_2.length < 140737488355328 then (spec_Norm.l0 kj10 a0 (x3_2 ++ [((bt a0 x4_2) + 32) % 256]) (wrap64 (x4_2 + 1))) else (none))) else (none)) else (none))) else (if x3_2.length < 140737488355328 then (spec_Norm.l0 kj10 a0 (x3_2 ++ [((bt a0 x4_2) + 32) % 256]) (wrap64 (x4_2 + 1))) else (none))) = some r := by rw [if_pos rfl] at H; exact H
                      clear H
                      have H := H1
                      clear H1
                      by_cases c14 : (((bt a0 x4_2) + 32) % 256) = 32
                      · rw [if_pos c14] at H
                        have c14b0 : ((((bt a0 x4_2) + 32) % 256) == 32) = true := beq_iff_eq.mpr c14
                        have c14b1 : ((((bt a0 x4_2) + 32) % 256) != 32) = false := bne_eq_false_iff_eq.mpr c14
                        clear c14
                        by_cases c15 : (x3_2.length : Int) = 0
                        · rw [if_pos c15] at H
                          have c15b0 : ((x3_2.length : Int) == 0) = true := beq_iff_eq.mpr c15
                          have c15b1 : ((x3_2.length : Int) != 0) = false := bne_eq_false_iff_eq.mpr c15
                          clear c15
                          have H' := Aside0.mk H
                          clear H
                          obtain ⟨Ao16, co16, eo16⟩ := Kd.R_slice HO_3.out
                          subst eo16
                          go_wp2
                          go_roundg kj10
                          case measure => have := HJ1.out; have := HK2.out; have := HJ10.out; omega
                          case rel => exact ⟨(x3_2), (wrap64 (x4_2 + 1)), (by first | rfl | (simp; done) | (simp [*]; done)), H', ⟨by have := HJ1.out; have := HK2.out; have := HJ10.out; omega⟩, ⟨by (with_reducible repeat (first | apply Kd.R_alloc | apply Kd.R_drewN | apply Kd.R_drew)); exact HO_3.out⟩, ⟨By⟩⟩
                        · rw [if_neg c15] at H
                          have c15b0 : ((x3_2.length : Int) == 0) = false := beq_eq_false_iff_ne.mpr c15
                          have c15b1 : ((x3_2.length : Int) != 0) = true := bne_iff_ne.mpr c15
                          have c15b2 : ¬ (x3_2 = []) := fun h_ => c15 (by rw [h_]; rfl)
                          obtain ⟨ji17, hji17⟩ : ∃ j_ : Int, (wrap64 ((x3_2.length : Int) - 1)) = j_ := ⟨_, rfl⟩
                          replace H : (if 0 ≤ (ji17) then (if (ji17) < (x3_2.length : Int) then (if (rd x3_2 (ji17)) = 32 then (spec_Norm.l0 kj10 a0 x3_2 (wrap64 (x4_2 + 1))) else (if x3_2.length < 140737488355328 then (spec_Norm.l0 kj10 a0 (x3_2 ++ [((bt a0 x4_2) + 32) % 256]) (wrap64 (x4_2 + 1))) else (none))) else (none)) else (none)) = some r := by first | (rw [hji17] at H; exact H) | (simp only [hji17] at H ⊢; exact H)
                          have hji17w : (IntKind.i64.wrap ((x3_2.length : Int) - 1)) = ji17 := (i64_w _).trans hji17
                          by_cases c18 : 0 ≤ (ji17)
                          · rw [if_pos c18] at H
                            have c18b0 : decide (0 ≤ (ji17)) = true := decide_eq_true c18
                            clear c18
                            by_cases c19 : (ji17) < (x3_2.length : Int)
                            · rw [if_pos c19] at H
                              have c19b0 : decide ((ji17) < (x3_2.length : Int)) = true := decide_eq_true c19
                              clear c19
                              by_cases c20 : (rd x3_2 (ji17)) = 32
                              · rw [if_pos c20] at H
                                have c20b0 : ((rd x3_2 (ji17)) == 32) = true := beq_iff_eq.mpr c20
                                have c20b1 : ((rd x3_2 (ji17)) != 32) = false := bne_eq_false_iff_eq.mpr c20
                                clear c20
                                have H' := Aside0.mk H
                                clear H
                                obtain ⟨Ao21, co21, eo21⟩ := Kd.R_slice HO_3.out
                                subst eo21
                                have p179 : 0 ≤ ((ji17) : Int) := of_decide_eq_true Da
                                have q179 : (ji17) < (x3_2.length : Int) := of_decide_eq_true Da
                                obtain ⟨ad179, e179, hx179_0⟩ := Kd.at_int (Kd.R_reads' HO_3.out).2.2 (ji17) p179 q179
                                cases e179
                                replace p179 := eq_true p179
                                replace q179 := eq_true q179
                                go_wp2
                                go_roundg kj10
                                case measure => have := HJ1.out; have := HK2.out; have := HJ10.out; omega
                                case rel => exact ⟨(x3_2), (wrap64 (x4_2 + 1)), (by first | rfl | (simp; done) | (simp [*]; done)), H', ⟨by have := HJ1.out; have := HK2.out; have := HJ10.out; omega⟩, ⟨by (with_reducible repeat (first | apply Kd.R_alloc | apply Kd.R_drewN | apply Kd.R_drew)); exact HO_3.out⟩, ⟨By⟩⟩
                              · rw [if_neg c20] at H
                                have c20b0 : ((rd x3_2 (ji17)) == 32) = false := beq_eq_false_iff_ne.mpr c20
                                have c20b1 : ((rd x3_2 (ji17)) != 32) = true := bne_iff_ne.mpr c20
                                by_cases c22 : x3_2.length < 140737488355328
                                · rw [if_pos c22] at H
                                  have LMc22 := Aside0.mk c22
                                  clear c22
                                  obtain ⟨y180, hy180⟩ : ∃ y_ : List Int, y_ = (x3_2 ++ [((bt a0 x4_2) + 32) % 256]) := ⟨_, rfl⟩
                                  replace H : (spec_Norm.l0 kj10 a0 y180 (wrap64 (x4_2 + 1))) = some r := by first | (rw [hy180]; with_reducible exact H) | (have H2_ := (Option.bind_some _ _).symm.trans H; rw [hy180]; with_reducible exact H2_) | (have H2_ := (Option.bind_some _ _).symm.trans H; with_reducible exact H2_) | with_reducible exact H | (rw [hy180]; exact H) | exact H
                                  have Ny180 := Aside0.mk hy180
                                  clear hy180
                                  have H' := Aside0.mk H
                                  clear H
                                  obtain ⟨Ao23, co23, eo23⟩ := Kd.R_slice HO_3.out
                                  subst eo23
                                  have p179 : 0 ≤ ((ji17) : Int) := of_decide_eq_true Da
                                  have q179 : (ji17) < (x3_2.length : Int) := of_decide_eq_true Da
                                  obtain ⟨ad179, e179, hx179_0⟩ := Kd.at_int (Kd.R_reads' HO_3.out).2.2 (ji17) p179 q179
                                  cases e179
                                  replace p179 := eq_true p179
                                  replace q179 := eq_true q179
                                  go_wp2_with (first | ((with_reducible refine gate_builtin (b := .append) (xs := #[.tmp 48, .tmp 50]) rfl ?_); (try (refine gate_guard (by rfl) ?_; dsimp only)); at_builtin; refine Kd.R_append (Kd.int .u8) (w0 := w) w.heap.size rfl (.tmp 48) (.tmp 50) 165 5 (.int .u8 0) 1 rfl Tryz.underlying165 info5 rfl (by decide) (by omega) (.slice (some ad179) x3_2.length co23) x3_2 (((bt a0 x4_2) + 32) % 256) [.int .u8 (((bt a0 x4_2) + 32) % 256)] (fun _ => True) (fun _ => False) rfl rfl ?aP (fun _ hk => hk.elim) ?aF ?aO ?aB ?aS ?aL ?_; (case aP => exact rfl); (case aB => exact By); (case aF => exact (fun _ _ => trivial)); (case aO => exact (rR HO_3.out)); (case aS => exact (below_size By)); (case aL => have := LMc22.out; omega); intro v181 w24 ho hb hg hat; rw [← Ny180.out] at ho; have n0_ := Aside0.mk (hb); have n1_ := Aside0.mk (ho); clear HB; clear HO_3; have HB := n0_; have HO182 := n1_; clear n0_ n1_; clear ho hb hg hat))
                                  go_roundg kj10
                                  case measure => have := HJ1.out; have := HK2.out; have := HJ10.out; omega
                                  case rel => exact ⟨(y180), (wrap64 (x4_2 + 1)), (by first | rfl | (simp; done) | (simp [*]; done)), H', ⟨by have := HJ1.out; have := HK2.out; have := HJ10.out; omega⟩, ⟨by (with_reducible repeat (first | apply Kd.R_alloc | apply Kd.R_drewN | apply Kd.R_drew)); exact HO182.out⟩, ⟨By⟩⟩
                                · rw [if_neg c22] at H
                                  exact absurd H (by simp)
                            · rw [if_neg c19] at H
                              exact absurd H (by simp)
                          · rw [if_neg c18] at H
                            exact absurd H (by simp)
                      · rw [if_neg c14] at H
                        have c14b0 : ((((bt a0 x4_2) + 32) % 256) == 32) = false := beq_eq_false_iff_ne.mpr c14
                        have c14b1 : ((((bt a0 x4_2) + 32) % 256) != 32) = true := bne_iff_ne.mpr c14
                        by_cases c25 : x3_2.length < 140737488355328
                        · rw [if_pos c25] at H
                          have LMc25 := Aside0.mk c25
                          clear c25
                          obtain ⟨y183, hy183⟩ : ∃ y_ : List Int, y_ = (x3_2 ++ [((bt a0 x4_2) + 32) % 256]) := ⟨_, rfl⟩
                          replace H : (spec_Norm.l0 kj10 a0 y183 (wrap64 (x4_2 + 1))) = some r := by first | (rw [hy183]; with_reducible exact H) | (have H2_ := (Option.bind_some _ _).symm.trans H; rw [hy183]; with_reducible exact H2_) | (have H2_ := (Option.bind_some _ _).symm.trans H; with_reducible exact H2_) | with_reducible exact H | (rw [hy183]; exact H) | exact H
                          have Ny183 := Aside0.mk hy183
                          clear hy183
                          have H' := Aside0.mk H
                          clear H
                          go_wp2_with (first | ((with_reducible refine gate_builtin (b := .append) (xs := #[.tmp 48, .tmp 50]) rfl ?_); (try (refine gate_guard (by rfl) ?_; dsimp only)); at_builtin; refine Kd.R_append (Kd.int .u8) (w0 := w) w.heap.size rfl (.tmp 48) (.tmp 50) 165 5 (.int .u8 0) 1 rfl Tryz.underlying165 info5 rfl (by decide) (by omega) u3 x3_2 (((bt a0 x4_2) + 32) % 256) [.int .u8 (((bt a0 x4_2) + 32) % 256)] (fun _ => True) (fun _ => False) rfl rfl ?aP (fun _ hk => hk.elim) ?aF ?aO ?aB ?aS ?aL ?_; (case aP => exact rfl); (case aB => exact By); (case aF => exact (fun _ _ => trivial)); (case aO => exact (rR HO_3.out)); (case aS => exact (below_size By)); (case aL => have := LMc25.out; omega); intro v184 w26 ho hb hg hat; rw [← Ny183.out] at ho; have n0_ := Aside0.mk (hb); have n1_ := Aside0.mk (ho); clear HB; clear HO_3; have HB := n0_; have HO185 := n1_; clear n0_ n1_; clear ho hb hg hat))
                          go_roundg kj10
                          case measure => have := HJ1.out; have := HK2.out; have := HJ10.out; omega
                          case rel => exact ⟨(y183), (wrap64 (x4_2 + 1)), (by first | rfl | (simp; done) | (simp [*]; done)), H', ⟨by have := HJ1.out; have := HK2.out; have := HJ10.out; omega⟩, ⟨by (with_reducible repeat (first | apply Kd.R_alloc | apply Kd.R_drewN | apply Kd.R_drew)); exact HO185.out⟩, ⟨By⟩⟩
                        · rw [if_neg c25] at H
                          exact absurd H (by simp)
                    · replace c13 := Bool.eq_false_iff.mpr c13
                      subst c13
                      have H1 : (if (bt a0 x4_2) = 32 then (if (x3_2.length : Int) = 0 then (spec_Norm.l0 kj10 a0 x3_2 (wrap64 (x4_2 + 1))) else (if 0 ≤ (wrap64 ((x3_2.length : Int) - 1)) then (if (wrap64 ((x3_2.length : Int) - 1)) < (x3_2.length : Int) then (if (rd x3_2 (wrap64 ((x3_2.length : Int) - 1))) = 32 then (spec_Norm.l0 kj10 a0 x3_2 (wrap64 (x4_2 + 1))) else (if x3_2.length < 140737488355328 then (spec_Norm.l0 kj10 a0 (x3_2 ++ [(bt a0 x4_2)]) (wrap64 (x4_2 + 1))) else (none))) else (none)) else (none))) else (if x3_2.length < 140737488355328 then (spec_Norm.l0 kj10 a0 (x3_2 ++ [(bt a0 x4_2)]) (wrap64 (x4_2 + 1))) else (none))) = some r := by rw [if_neg (show ¬ (false = true) by decide)] at H; exact H
                      clear H
                      have H := H1
                      clear H1
                      by_cases c27 : (bt a0 x4_2) = 32
                      · rw [if_pos c27] at H
                        have c27b0 : ((bt a0 x4_2) == 32) = true := beq_iff_eq.mpr c27
                        have c27b1 : ((bt a0 x4_2) != 32) = false := bne_eq_false_iff_eq.mpr c27
                        clear c27
                        by_cases c28 : (x3_2.length : Int) = 0
                        · rw [if_pos c28] at H
                          have c28b0 : ((x3_2.length : Int) == 0) = true := beq_iff_eq.mpr c28
                          have c28b1 : ((x3_2.length : Int) != 0) = false := bne_eq_false_iff_eq.mpr c28
                          clear c28
                          have H' := Aside0.mk H
                          clear H
                          obtain ⟨Ao29, co29, eo29⟩ := Kd.R_slice HO_3.out
                          subst eo29
                          go_wp2
                          go_roundg kj10
                          case measure => have := HJ1.out; have := HK2.out; have := HJ10.out; omega
                          case rel => exact ⟨(x3_2), (wrap64 (x4_2 + 1)), (by first | rfl | (simp; done) | (simp [*]; done)), H', ⟨by have := HJ1.out; have := HK2.out; have := HJ10.out; omega⟩, ⟨by (with_reducible repeat (first | apply Kd.R_alloc | apply Kd.R_drewN | apply Kd.R_drew)); exact HO_3.out⟩, ⟨By⟩⟩
                        · rw [if_neg c28] at H
                          have c28b0 : ((x3_2.length : Int) == 0) = false := beq_eq_false_iff_ne.mpr c28
                          have c28b1 : ((x3_2.length : Int) != 0) = true := bne_iff_ne.mpr c28
                          have c28b2 : ¬ (x3_2 = []) := fun h_ => c28 (by rw [h_]; rfl)
                          obtain ⟨ji30, hji30⟩ : ∃ j_ : Int, (wrap64 ((x3_2.length : Int) - 1)) = j_ := ⟨_, rfl⟩
                          replace H : (if 0 ≤ (ji30) then (if (ji30) < (x3_2.length : Int) then (if (rd x3_2 (ji30)) = 32 then (spec_Norm.l0 kj10 a0 x3_2 (wrap64 (x4_2 + 1))) else (if x3_2.length < 140737488355328 then (spec_Norm.l0 kj10 a0 (x3_2 ++ [(bt a0 x4_2)]) (wrap64 (x4_2 + 1))) else (none))) else (none)) else (none)) = some r := by first | (rw [hji30] at H; exact H) | (simp only [hji30] at H ⊢; exact H)
                          have hji30w : (IntKind.i64.wrap ((x3_2.length : Int) - 1)) = ji30 := (i64_w _).trans hji30
                          by_cases c31 : 0 ≤ (ji30)
                          · rw [if_pos c31] at H
                            have c31b0 : decide (0 ≤ (ji30)) = true := decide_eq_true c31
                            clear c31
                            by_cases c32 : (ji30) < (x3_2.length : Int)
                            · rw [if_pos c32] at H
                              have c32b0 : decide ((ji30) < (x3_2.length : Int)) = true := decide_eq_true c32
                              clear c32
                              by_cases c33 : (rd x3_2 (ji30)) = 32
                              · rw [if_pos c33] at H
                                have c33b0 : ((rd x3_2 (ji30)) == 32) = true := beq_iff_eq.mpr c33
                                have c33b1 : ((rd x3_2 (ji30)) != 32) = false := bne_eq_false_iff_eq.mpr c33
                                clear c33
                                have H' := Aside0.mk H
                                clear H
                                obtain ⟨Ao34, co34, eo34⟩ := Kd.R_slice HO_3.out
                                subst eo34
                                have p186 : 0 ≤ ((ji30) : Int) := of_decide_eq_true Da
                                have q186 : (ji30) < (x3_2.length : Int) := of_decide_eq_true Da
                                obtain ⟨ad186, e186, hx186_0⟩ := Kd.at_int (Kd.R_reads' HO_3.out).2.2 (ji30) p186 q186
                                cases e186
                                replace p186 := eq_true p186
                                replace q186 := eq_true q186
                                go_wp2
                                go_roundg kj10
                                case measure => have := HJ1.out; have := HK2.out; have := HJ10.out; omega
                                case rel => exact ⟨(x3_2), (wrap64 (x4_2 + 1)), (by first | rfl | (simp; done) | (simp [*]; done)), H', ⟨by have := HJ1.out; have := HK2.out; have := HJ10.out; omega⟩, ⟨by (with_reducible repeat (first | apply Kd.R_alloc | apply Kd.R_drewN | apply Kd.R_drew)); exact HO_3.out⟩, ⟨By⟩⟩
                              · rw [if_neg c33] at H
                                have c33b0 : ((rd x3_2 (ji30)) == 32) = false := beq_eq_false_iff_ne.mpr c33
                                have c33b1 : ((rd x3_2 (ji30)) != 32) = true := bne_iff_ne.mpr c33
                                by_cases c35 : x3_2.length < 140737488355328
                                · rw [if_pos c35] at H
                                  have LMc35 := Aside0.mk c35
                                  clear c35
                                  obtain ⟨y187, hy187⟩ : ∃ y_ : List Int, y_ = (x3_2 ++ [(bt a0 x4_2)]) := ⟨_, rfl⟩
                                  replace H : (spec_Norm.l0 kj10 a0 y187 (wrap64 (x4_2 + 1))) = some r := by first | (rw [hy187]; with_reducible exact H) | (have H2_ := (Option.bind_some _ _).symm.trans H; rw [hy187]; with_reducible exact H2_) | (have H2_ := (Option.bind_some _ _).symm.trans H; with_reducible exact H2_) | with_reducible exact H | (rw [hy187]; exact H) | exact H
                                  have Ny187 := Aside0.mk hy187
                                  clear hy187
                                  have H' := Aside0.mk H
                                  clear H
                                  obtain ⟨Ao36, co36, eo36⟩ := Kd.R_slice HO_3.out
                                  subst eo36
                                  have p186 : 0 ≤ ((ji30) : Int) := of_decide_eq_true Da
                                  have q186 : (ji30) < (x3_2.length : Int) := of_decide_eq_true Da
                                  obtain ⟨ad186, e186, hx186_0⟩ := Kd.at_int (Kd.R_reads' HO_3.out).2.2 (ji30) p186 q186
                                  cases e186
                                  replace p186 := eq_true p186
                                  replace q186 := eq_true q186
                                  go_wp2_with (first | ((with_reducible refine gate_builtin (b := .append) (xs := #[.tmp 48, .tmp 50]) rfl ?_); (try (refine gate_guard (by rfl) ?_; dsimp only)); at_builtin; refine Kd.R_append (Kd.int .u8) (w0 := w) w.heap.size rfl (.tmp 48) (.tmp 50) 165 5 (.int .u8 0) 1 rfl Tryz.underlying165 info5 rfl (by decide) (by omega) (.slice (some ad186) x3_2.length co36) x3_2 (bt a0 x4_2) [.int .u8 (bt a0 x4_2)] (fun _ => True) (fun _ => False) rfl rfl ?aP (fun _ hk => hk.elim) ?aF ?aO ?aB ?aS ?aL ?_; (case aP => exact rfl); (case aB => exact By); (case aF => exact (fun _ _ => trivial)); (case aO => exact (rR HO_3.out)); (case aS => exact (below_size By)); (case aL => have := LMc35.out; omega); intro v188 w37 ho hb hg hat; rw [← Ny187.out] at ho; have n0_ := Aside0.mk (hb); have n1_ := Aside0.mk (ho); clear HB; clear HO_3; have HB := n0_; have HO189 := n1_; clear n0_ n1_; clear ho hb hg hat))
                                  go_roundg kj10
                                  case measure => have := HJ1.out; have := HK2.out; have := HJ10.out; omega
                                  case rel => exact ⟨(y187), (wrap64 (x4_2 + 1)), (by first | rfl | (simp; done) | (simp [*]; done)), H', ⟨by have := HJ1.out; have := HK2.out; have := HJ10.out; omega⟩, ⟨by (with_reducible repeat (first | apply Kd.R_alloc | apply Kd.R_drewN | apply Kd.R_drew)); exact HO189.out⟩, ⟨By⟩⟩
                                · rw [if_neg c35] at H
                                  exact absurd H (by simp)
                            · rw [if_neg c32] at H
                              exact absurd H (by simp)
                          · rw [if_neg c31] at H
                            exact absurd H (by simp)
                      · rw [if_neg c27] at H
                        have c27b0 : ((bt a0 x4_2) == 32) = false := beq_eq_false_iff_ne.mpr c27
                        have c27b1 : ((bt a0 x4_2) != 32) = true := bne_iff_ne.mpr c27
                        by_cases c38 : x3_2.length < 140737488355328
                        · rw [if_pos c38] at H
                          have LMc38 := Aside0.mk c38
                          clear c38
                          obtain ⟨y190, hy190⟩ : ∃ y_ : List Int, y_ = (x3_2 ++ [(bt a0 x4_2)]) := ⟨_, rfl⟩
                          replace H : (spec_Norm.l0 kj10 a0 y190 (wrap64 (x4_2 + 1))) = some r := by first | (rw [hy190]; with_reducible exact H) | (have H2_ := (Option.bind_some _ _).symm.trans H; rw [hy190]; with_reducible exact H2_) | (have H2_ := (Option.bind_some _ _).symm.trans H; with_reducible exact H2_) | with_reducible exact H | (rw [hy190]; exact H) | exact H
                          have Ny190 := Aside0.mk hy190
                          clear hy190
                          have H' := Aside0.mk H
                          clear H
                          go_wp2_with (first | ((with_reducible refine gate_builtin (b := .append) (xs := #[.tmp 48, .tmp 50]) rfl ?_); (try (refine gate_guard (by rfl) ?_; dsimp only)); at_builtin; refine Kd.R_append (Kd.int .u8) (w0 := w) w.heap.size rfl (.tmp 48) (.tmp 50) 165 5 (.int .u8 0) 1 rfl Tryz.underlying165 info5 rfl (by decide) (by omega) u3 x3_2 (bt a0 x4_2) [.int .u8 (bt a0 x4_2)] (fun _ => True) (fun _ => False) rfl rfl ?aP (fun _ hk => hk.elim) ?aF ?aO ?aB ?aS ?aL ?_; (case aP => exact rfl); (case aB => exact By); (case aF => exact (fun _ _ => trivial)); (case aO => exact (rR HO_3.out)); (case aS => exact (below_size By)); (case aL => have := LMc38.out; omega); intro v191 w39 ho hb hg hat; rw [← Ny190.out] at ho; have n0_ := Aside0.mk (hb); have n1_ := Aside0.mk (ho); clear HB; clear HO_3; have HB := n0_; have HO192 := n1_; clear n0_ n1_; clear ho hb hg hat))
                          go_roundg kj10
                          case measure => have := HJ1.out; have := HK2.out; have := HJ10.out; omega
                          case rel => exact ⟨(y190), (wrap64 (x4_2 + 1)), (by first | rfl | (simp; done) | (simp [*]; done)), H', ⟨by have := HJ1.out; have := HK2.out; have := HJ10.out; omega⟩, ⟨by (with_reducible repeat (first | apply Kd.R_alloc | apply Kd.R_drewN | apply Kd.R_drew)); exact HO192.out⟩, ⟨By⟩⟩
                        · rw [if_neg c38] at H
                          exact absurd H (by simp)
              · rw [if_neg c9] at H
                exact absurd H (by simp)
            · rw [if_neg c8] at H
              have c8b0 : decide (x4_2 < (a0.size : Int)) = false := decide_eq_false c8
              clear c8
              by_cases c40 : (x3_2.length : Int) > 0
              · rw [if_pos c40] at H
                have c40b0 : decide (0 < (x3_2.length : Int)) = true := decide_eq_true c40
                have c40b1 : decide (0 < x3_2.length) = true := decide_eq_true (by omega)
                clear c40
                obtain ⟨ji41, hji41⟩ : ∃ j_ : Int, (wrap64 ((x3_2.length : Int) - 1)) = j_ := ⟨_, rfl⟩
                replace H : (if 0 ≤ (ji41) then (if (ji41) < (x3_2.length : Int) then (if (rd x3_2 (ji41)) = 32 then (if (ji41) ≤ (x3_2.length : Int) then (some (strOfNums (x3_2.take ((ji41) : Int).toNat))) else (none)) else (some (strOfNums x3_2))) else (none)) else (none)) = some r := by first | (rw [hji41] at H; exact H) | (simp only [hji41] at H ⊢; exact H)
                have hji41w : (IntKind.i64.wrap ((x3_2.length : Int) - 1)) = ji41 := (i64_w _).trans hji41
                by_cases c42 : 0 ≤ (ji41)
                · rw [if_pos c42] at H
                  have c42b0 : decide (0 ≤ (ji41)) = true := decide_eq_true c42
                  clear c42
                  by_cases c43 : (ji41) < (x3_2.length : Int)
                  · rw [if_pos c43] at H
                    have c43b0 : decide ((ji41) < (x3_2.length : Int)) = true := decide_eq_true c43
                    clear c43
                    by_cases c44 : (rd x3_2 (ji41)) = 32
                    · rw [if_pos c44] at H
                      have c44b0 : ((rd x3_2 (ji41)) == 32) = true := beq_iff_eq.mpr c44
                      have c44b1 : ((rd x3_2 (ji41)) != 32) = false := bne_eq_false_iff_eq.mpr c44
                      clear c44
                      by_cases c45 : (ji41) ≤ (x3_2.length : Int)
                      · rw [if_pos c45] at H
                        have c45b0 := eq_true c45
                        have c45b1 : decide ((ji41) ≤ (x3_2.length : Int)) = true := decide_eq_true c45
                        clear c45
                        obtain ⟨y176, hy176⟩ : ∃ y_ : List Int, y_ = (x3_2.take ((ji41) : Int).toNat) := ⟨_, rfl⟩
                        replace H : (some (strOfNums y176)) = some r := by first | (rw [hy176]; with_reducible exact H) | (have H2_ := (Option.bind_some _ _).symm.trans H; rw [hy176]; with_reducible exact H2_) | (have H2_ := (Option.bind_some _ _).symm.trans H; with_reducible exact H2_) | with_reducible exact H | (rw [hy176]; exact H) | exact H
                        have Ny176 := Aside0.mk hy176
                        clear hy176
                        obtain rfl := Option.some.inj H
                        obtain ⟨Ao46, co46, eo46⟩ := Kd.R_slice HO_3.out
                        subst eo46
                        have p175 : 0 ≤ ((ji41) : Int) := of_decide_eq_true Da
                        have q175 : (ji41) < (x3_2.length : Int) := of_decide_eq_true Da
                        obtain ⟨ad175, e175, hx175_0⟩ := Kd.at_int (Kd.R_reads' HO_3.out).2.2 (ji41) p175 q175
                        cases e175
                        replace p175 := eq_true p175
                        replace q175 := eq_true q175
                        have q47 : ((ji41) : Int) ≤ ((x3_2.length : Int) : Int) := of_decide_eq_true Da
                        obtain ⟨i047, hi047, _, hsz47, _⟩ := info_parts info5
                        have hcut47 := cut_to (P := Tryz.prog) 165 5 .i64 Tryz.underlying165 hi047 (some ad175) x3_2.length co46 (ji41) (of_decide_eq_true Da) q47 (Kd.R_reads' HO_3.out).2.1
                        have hr47 := Kd.R_take (m := ((ji41) : Int).toNat) HO_3.out (by omega)
                        have hy47 : y176.length = ((ji41) : Int).toNat := (by rw [Ny176.out, List.length_take]; omega)
                        rw [← Ny176.out] at hr47
                        rw [← hy47] at hr47 hcut47
                        clear hy47 hi047 hsz47 HO_3
                        have HO178 := Aside0.mk hr47
                        clear hr47
                        replace q47 := eq_true q47
                        have hcv48 := own_string (P := Tryz.prog) Tryz.underlying165 Tryz.underlying5 Tryz.underlying9 (Kd.own_of_R HO178.out)
                        go_wp2
                        go_ret
                        exact ⟨by first | rfl | (simp [errW_none, errW_some] <;> rfl) | (simp only [← hji41]; first | rfl | (simp [errW_none, errW_some] <;> rfl)) | (simp [*, errW_none, errW_some] <;> first | rfl | (rw [Bool.eq_iff_iff]; simp)), By⟩
                      · rw [if_neg c45] at H
                        exact absurd H (by simp)
                    · rw [if_neg c44] at H
                      have c44b0 : ((rd x3_2 (ji41)) == 32) = false := beq_eq_false_iff_ne.mpr c44
                      have c44b1 : ((rd x3_2 (ji41)) != 32) = true := bne_iff_ne.mpr c44
                      obtain rfl := Option.some.inj H
                      obtain ⟨Ao49, co49, eo49⟩ := Kd.R_slice HO_3.out
                      subst eo49
                      have p175 : 0 ≤ ((ji41) : Int) := of_decide_eq_true Da
                      have q175 : (ji41) < (x3_2.length : Int) := of_decide_eq_true Da
                      obtain ⟨ad175, e175, hx175_0⟩ := Kd.at_int (Kd.R_reads' HO_3.out).2.2 (ji41) p175 q175
                      cases e175
                      replace p175 := eq_true p175
                      replace q175 := eq_true q175
                      have hcv50 := own_string (P := Tryz.prog) Tryz.underlying165 Tryz.underlying5 Tryz.underlying9 (Kd.own_of_R HO_3.out)
                      go_wp2
                      go_ret
                      exact ⟨by first | rfl | (simp [errW_none, errW_some] <;> rfl) | (simp only [← hji41]; first | rfl | (simp [errW_none, errW_some] <;> rfl)) | (simp [*, errW_none, errW_some] <;> first | rfl | (rw [Bool.eq_iff_iff]; simp)), By⟩
                  · rw [if_neg c43] at H
                    exact absurd H (by simp)
                · rw [if_neg c42] at H
                  exact absurd H (by simp)
              · rw [if_neg c40] at H
                have c40b0 : decide (0 < (x3_2.length : Int)) = false := decide_eq_false c40
                have c40b1 : decide (0 < x3_2.length) = false := decide_eq_false (by omega)
                clear c40
                obtain rfl := Option.some.inj H
                obtain ⟨Ao51, co51, eo51⟩ := Kd.R_slice HO_3.out
                subst eo51
                have hcv52 := own_string (P := Tryz.prog) Tryz.underlying165 Tryz.underlying5 Tryz.underlying9 (Kd.own_of_R HO_3.out)
                go_wp2
                go_ret
                exact ⟨Rf, By⟩

set_option linter.unusedVariables false
set_option linter.unusedSimpArgs false

/-! ### spec_l02Value: function 101 -/
def spec_l02Value.f (k : Nat) (a0 : ByteArray) : Option (Bool) := if (a0.size : Int) ≥ 1 then (if (a0.size : Int) ≤ 40 then ((spec_Norm.f k a0).bind fun t193 => (some (t193.toList != ([] : List UInt8)))) else (some false)) else (some false)
theorem spec_l02Value.mono : ∀ a0 k, LeO (spec_l02Value.f k a0) (spec_l02Value.f (k + 1) a0) := by
  intro a0 k
  unfold spec_l02Value.f
  repeat' first
      | (with_reducible exact spec_Norm.mono _ _)
      | (with_reducible exact LeO.refl _)
      | (with_reducible exact LeO.none _)
      | (with_reducible refine LeO.ite ?_ ?_)
      | (with_reducible refine LeO.bind ?_ (fun _ => ?_))
      | exact spec_Norm.mono _ _
      | exact LeO.none _
      | refine LeO.ite ?_ ?_
      | refine LeO.bind ?_ (fun _ => ?_)
set_option maxHeartbeats 8000000 in
set_option maxRecDepth 100000 in
theorem spec_l02Value.calls (k : Nat) (a0 : ByteArray) (r : Bool) (w : World) (h : spec_l02Value.f k a0 = some r) :
    Calls Tryz.prog 101 #[.string a0] w fun e w' => e = .returned (.bool r) ∧ Below w.heap.size w w' := by
  have HB := Aside0.mk (Below.refl w.heap.size w)
  have H : (if (a0.size : Int) ≥ 1 then (if (a0.size : Int) ≤ 40 then ((spec_Norm.f k a0).bind fun t193 => (some (t193.toList != ([] : List UInt8)))) else (some false)) else (some false)) = some r := h
  clear h
  by_cases c2 : (a0.size : Int) ≥ 1
  · rw [if_pos c2] at H
    have c2b0 : decide (1 ≤ (a0.size : Int)) = true := decide_eq_true c2
    have c2b1 : decide (1 ≤ a0.size) = true := decide_eq_true (by omega)
    clear c2
    by_cases c3 : (a0.size : Int) ≤ 40
    · rw [if_pos c3] at H
      have c3b0 : decide ((a0.size : Int) ≤ 40) = true := decide_eq_true c3
      have c3b1 : decide (a0.size ≤ 40) = true := decide_eq_true (by omega)
      clear c3
      replace H := Option.bind_eq_some_iff.mp H
      obtain ⟨t193, A40, H⟩ := H
      replace H : (some (t193.toList != ([] : List UInt8))) = some r := H
      have A4 := Aside0.mk A40
      clear A40
      obtain rfl := Option.some.inj H
      go_enter Tryz.func101, Tryz.ntmps101
      go_wp2_with (first | (go_at_call 118; (with_reducible refine (spec_Norm.calls k a0 t193 _ A4.out).mono ?_); rintro e w5 ⟨rfl, hb⟩; have n0_ := Aside0.mk (below_step By hb); clear HB; have HB := n0_; clear n0_; (try clear hb); (try clear hb2); (try clear hk); (try clear hi)))
      go_ret
      exact ⟨Rf, By⟩
    · rw [if_neg c3] at H
      have c3b0 : decide ((a0.size : Int) ≤ 40) = false := decide_eq_false c3
      have c3b1 : decide (a0.size ≤ 40) = false := decide_eq_false (by omega)
      clear c3
      obtain rfl := Option.some.inj H
      go_enter Tryz.func101, Tryz.ntmps101
      go_wp2
      go_ret
      exact ⟨Rf, By⟩
  · rw [if_neg c2] at H
    have c2b0 : decide (1 ≤ (a0.size : Int)) = false := decide_eq_false c2
    have c2b1 : decide (1 ≤ a0.size) = false := decide_eq_false (by omega)
    clear c2
    obtain rfl := Option.some.inj H
    go_enter Tryz.func101, Tryz.ntmps101
    go_wp2
    go_ret
    exact ⟨Rf, By⟩

set_option linter.unusedVariables false
set_option linter.unusedSimpArgs false

/-! ### spec_DnRight: function 66 -/
def spec_DnRight.l0 : Nat → List (S113) → Int → Option (Bool)
  | 0, _, _ => none
  | k + 1, x0, x3 => if x3 < (x0.length : Int) then (if 0 ≤ x3 then ((spec_NameRight.f k ((rd_T113 x0 x3).f0)).bind fun t195 => (if t195 = true then ((spec_l02Value.f k ((rd_T113 x0 x3).f1)).bind fun t197 => (if t197 = true then (spec_DnRight.l0 k x0 (wrap64 (x3 + 1))) else (some false))) else (some false))) else (none)) else (some (decide ((x0.length : Int) ≤ 6)))
def spec_DnRight.f (k : Nat) (l0 : List (S113)) : Option (Bool) := spec_DnRight.l0 k l0 0
theorem spec_DnRight.mono_l : ∀ k, (∀ y0 y1, LeO (spec_DnRight.l0 k y0 y1) (spec_DnRight.l0 (k + 1) y0 y1))
  | 0 => fun _ _ r h => by simp [spec_DnRight.l0] at h
  | k + 1 => by
    have ih0 := spec_DnRight.mono_l k
    · intro y0 y1
      unfold spec_DnRight.l0
      repeat' first
      | (with_reducible exact ih0 _ _)
      | (with_reducible exact spec_NameRight.mono _ _)
      | (with_reducible exact spec_l02Value.mono _ _)
      | (with_reducible exact LeO.refl _)
      | (with_reducible exact LeO.none _)
      | (with_reducible refine LeO.ite ?_ ?_)
      | (with_reducible refine LeO.bind ?_ (fun _ => ?_))
      | exact ih0 _ _
      | exact spec_NameRight.mono _ _
      | exact spec_l02Value.mono _ _
      | exact LeO.none _
      | refine LeO.ite ?_ ?_
      | refine LeO.bind ?_ (fun _ => ?_)
theorem spec_DnRight.mono : ∀ a0 k, LeO (spec_DnRight.f k a0) (spec_DnRight.f (k + 1) a0) := by
  intro a0 k
  have ih0 := spec_DnRight.mono_l k
  unfold spec_DnRight.f
  repeat' first
      | (with_reducible exact ih0 _ _)
      | (with_reducible exact spec_NameRight.mono _ _)
      | (with_reducible exact spec_l02Value.mono _ _)
      | (with_reducible exact LeO.refl _)
      | (with_reducible exact LeO.none _)
      | (with_reducible refine LeO.ite ?_ ?_)
      | (with_reducible refine LeO.bind ?_ (fun _ => ?_))
      | exact ih0 _ _
      | exact spec_NameRight.mono _ _
      | exact spec_l02Value.mono _ _
      | exact LeO.none _
      | refine LeO.ite ?_ ?_
      | refine LeO.bind ?_ (fun _ => ?_)
set_option maxHeartbeats 8000000 in
set_option maxRecDepth 100000 in
theorem spec_DnRight.calls (k : Nat) (A0 : Option Addr) (c0 : Nat) (l0 : List (S113)) (r : Bool) (w : World) (hr0 : Kd.C k113 w A0 l0.length l0) (hc0 : l0.length ≤ c0) (h : spec_DnRight.f k l0 = some r) :
    Calls Tryz.prog 66 #[.slice A0 l0.length c0] w fun e w' => e = .returned (.bool r) ∧ Below w.heap.size w w' := by
  have HR0 := Aside0.mk hr0
  have HC0 := Aside0.mk hc0
  clear hr0 hc0
  have HB := Aside0.mk (Below.refl w.heap.size w)
  have H : (spec_DnRight.l0 k l0 0) = some r := h
  clear h
  have H' := Aside0.mk H
  clear H
  go_enter Tryz.func66, Tryz.ntmps66
  go_wp2
  go_loopg [3] k (fun kq v3 w' => ∃ (x3_1 : Int), v3 = .int .i64 x3_1 ∧ Aside0 (spec_DnRight.l0 kq l0 x3_1 = some r) ∧ Aside0 (kq ≤ k) ∧ Aside0 (Below w.heap.size w w'))
  case atStart => exact ⟨(0), (by first | rfl | (simp; done) | (simp [*]; done)), H', ⟨Nat.le_refl _⟩, ⟨By⟩⟩
  case round =>
    clear H'
    obtain ⟨x3_1, rfl, HA, HK1, HB⟩ := hrel
    cases gk with
    | zero => exact absurd HA.out (by simp [spec_DnRight.l0])
    | succ k1 =>
      have H := HA.out
      clear HA
      simp only [spec_DnRight.l0] at H
      by_cases c2 : x3_1 < (l0.length : Int)
      · rw [if_pos c2] at H
        have c2b0 : decide (x3_1 < (l0.length : Int)) = true := decide_eq_true c2
        clear c2
        by_cases c3 : 0 ≤ x3_1
        · rw [if_pos c3] at H
          have c3b0 : decide (0 ≤ x3_1) = true := decide_eq_true c3
          clear c3
          replace H := Option.bind_eq_some_iff.mp H
          obtain ⟨t195, A40, H⟩ := H
          replace H : (if t195 = true then ((spec_l02Value.f k1 ((rd_T113 l0 x3_1).f1)).bind fun t197 => (if t197 = true then (spec_DnRight.l0 k1 l0 (wrap64 (x3_1 + 1))) else (some false))) else (some false)) = some r := H
          have A4 := Aside0.mk A40
          clear A40
          by_cases c5 : t195 = true
          · subst c5
            have H1 : ((spec_l02Value.f k1 ((rd_T113 l0 x3_1).f1)).bind fun t197 => (if t197 = true then (spec_DnRight.l0 k1 l0 (wrap64 (x3_1 + 1))) else (some false))) = some r := by rw [if_pos rfl] at H; exact H
            clear H
            have H := H1
            clear H1
            replace H := Option.bind_eq_some_iff.mp H
            obtain ⟨t197, A60, H⟩ := H
            replace H : (if t197 = true then (spec_DnRight.l0 k1 l0 (wrap64 (x3_1 + 1))) else (some false)) = some r := H
            have A6 := Aside0.mk A60
            clear A60
            by_cases c7 : t197 = true
            · subst c7
              have H1 : (spec_DnRight.l0 k1 l0 (wrap64 (x3_1 + 1))) = some r := by rw [if_pos rfl] at H; exact H
              clear H
              have H := H1
              clear H1
              have H' := Aside0.mk H
              clear H
              have p194 : 0 ≤ (x3_1 : Int) := of_decide_eq_true Da
              have q194 : x3_1 < (l0.length : Int) := of_decide_eq_true Da
              obtain ⟨ad194, e194, hx194_0, hx194_1⟩ := at_T113 HR0.out x3_1 p194 q194
              cases e194
              replace hx194_0 := bz HB.out hx194_0
              replace hx194_1 := bz HB.out hx194_1
              replace p194 := eq_true p194
              replace q194 := eq_true q194
              go_wp2_with (first | ((with_reducible refine gate_callee (f := 78) rfl ?_); refine goesL_ (some 15) rfl rfl Tryz.func78 (by kernel_rfl) rfl #[.string ((rd_T113 l0 x3_1).f0)] rfl Ag ?_; (with_reducible refine (spec_NameRight.calls k1 ((rd_T113 l0 x3_1).f0) true _ A4.out).mono ?_); rintro e w' ⟨rfl, ⟨nd, rfl⟩⟩; refine ⟨_, rfl, ?_⟩; have p196 : 0 ≤ (x3_1 : Int) := of_decide_eq_true Da; have q196 : x3_1 < (l0.length : Int) := of_decide_eq_true Da; obtain ⟨ad196, e196, hx196_0, hx196_1⟩ := at_T113 HR0.out x3_1 p196 q196; obtain rfl : ad194 = ad196 := (by injection e196); replace hx196_0 := bz HB.out hx196_0; replace hx196_1 := bz HB.out hx196_1; replace p196 := eq_true p196; replace q196 := eq_true q196) | (go_at_call 101; (with_reducible refine (spec_l02Value.calls k1 ((rd_T113 l0 x3_1).f1) true _ A6.out).mono ?_); rintro e w8 ⟨rfl, hb⟩; have n0_ := Aside0.mk (below_step By hb); clear HB; have HB := n0_; clear n0_; (try clear hb); (try clear hb2); (try clear hk); (try clear hi)))
              go_roundg k1
              case measure => have := HK1.out; omega
              case rel => exact ⟨(wrap64 (x3_1 + 1)), (by first | rfl | (simp; done) | (simp [*]; done)), H', ⟨by have := HK1.out; omega⟩, ⟨By⟩⟩
            · replace c7 := Bool.eq_false_iff.mpr c7
              subst c7
              have H1 : (some false) = some r := by rw [if_neg (show ¬ (false = true) by decide)] at H; exact H
              clear H
              have H := H1
              clear H1
              obtain rfl := Option.some.inj H
              have p194 : 0 ≤ (x3_1 : Int) := of_decide_eq_true Da
              have q194 : x3_1 < (l0.length : Int) := of_decide_eq_true Da
              obtain ⟨ad194, e194, hx194_0, hx194_1⟩ := at_T113 HR0.out x3_1 p194 q194
              cases e194
              replace hx194_0 := bz HB.out hx194_0
              replace hx194_1 := bz HB.out hx194_1
              replace p194 := eq_true p194
              replace q194 := eq_true q194
              go_wp2_with (first | ((with_reducible refine gate_callee (f := 78) rfl ?_); refine goesL_ (some 15) rfl rfl Tryz.func78 (by kernel_rfl) rfl #[.string ((rd_T113 l0 x3_1).f0)] rfl Ag ?_; (with_reducible refine (spec_NameRight.calls k1 ((rd_T113 l0 x3_1).f0) true _ A4.out).mono ?_); rintro e w' ⟨rfl, ⟨nd, rfl⟩⟩; refine ⟨_, rfl, ?_⟩; have p196 : 0 ≤ (x3_1 : Int) := of_decide_eq_true Da; have q196 : x3_1 < (l0.length : Int) := of_decide_eq_true Da; obtain ⟨ad196, e196, hx196_0, hx196_1⟩ := at_T113 HR0.out x3_1 p196 q196; obtain rfl : ad194 = ad196 := (by injection e196); replace hx196_0 := bz HB.out hx196_0; replace hx196_1 := bz HB.out hx196_1; replace p196 := eq_true p196; replace q196 := eq_true q196) | (go_at_call 101; (with_reducible refine (spec_l02Value.calls k1 ((rd_T113 l0 x3_1).f1) false _ A6.out).mono ?_); rintro e w9 ⟨rfl, hb⟩; have n0_ := Aside0.mk (below_step By hb); clear HB; have HB := n0_; clear n0_; (try clear hb); (try clear hb2); (try clear hk); (try clear hi)))
              go_ret
              exact ⟨Rf, By⟩
          · replace c5 := Bool.eq_false_iff.mpr c5
            subst c5
            have H1 : (some false) = some r := by rw [if_neg (show ¬ (false = true) by decide)] at H; exact H
            clear H
            have H := H1
            clear H1
            obtain rfl := Option.some.inj H
            have p194 : 0 ≤ (x3_1 : Int) := of_decide_eq_true Da
            have q194 : x3_1 < (l0.length : Int) := of_decide_eq_true Da
            obtain ⟨ad194, e194, hx194_0, hx194_1⟩ := at_T113 HR0.out x3_1 p194 q194
            cases e194
            replace hx194_0 := bz HB.out hx194_0
            replace hx194_1 := bz HB.out hx194_1
            replace p194 := eq_true p194
            replace q194 := eq_true q194
            go_wp2_with (first | ((with_reducible refine gate_callee (f := 78) rfl ?_); refine goesL_ (some 15) rfl rfl Tryz.func78 (by kernel_rfl) rfl #[.string ((rd_T113 l0 x3_1).f0)] rfl Ag ?_; (with_reducible refine (spec_NameRight.calls k1 ((rd_T113 l0 x3_1).f0) false _ A4.out).mono ?_); rintro e w' ⟨rfl, ⟨nd, rfl⟩⟩; refine ⟨_, rfl, ?_⟩))
            go_ret
            exact ⟨Rf, By⟩
        · rw [if_neg c3] at H
          exact absurd H (by simp)
      · rw [if_neg c2] at H
        have c2b0 : decide (x3_1 < (l0.length : Int)) = false := decide_eq_false c2
        clear c2
        obtain rfl := Option.some.inj H
        go_wp2
        go_ret
        exact ⟨Rf, By⟩

set_option linter.unusedVariables false
set_option linter.unusedSimpArgs false

/-! ### spec_l03Values: function 102 -/
def spec_l03Values.l0 : Nat → List ByteArray → Int → Option (Bool)
  | 0, _, _ => none
  | k + 1, x0, x3 => if x3 < (x0.length : Int) then (if 0 ≤ x3 then ((spec_l02Value.f k (rdOf ByteArray.empty x0 x3)).bind fun t199 => (if t199 = true then (if x3 > 0 then (if 0 ≤ (wrap64 (x3 - 1)) then (if (wrap64 (x3 - 1)) < (x0.length : Int) then ((spec_Norm.f k (rdOf ByteArray.empty x0 (wrap64 (x3 - 1)))).bind fun t201 => ((spec_Norm.f k (rdOf ByteArray.empty x0 x3)).bind fun t203 => (if ((Op.bytesLess t201.toList t203.toList) = true) then (spec_l03Values.l0 k x0 (wrap64 (x3 + 1))) else (some false)))) else (none)) else (none)) else (spec_l03Values.l0 k x0 (wrap64 (x3 + 1)))) else (some false))) else (none)) else (if (x0.length : Int) ≥ 1 then (some (decide ((x0.length : Int) ≤ 4))) else (some false))
def spec_l03Values.f (k : Nat) (l0 : List ByteArray) : Option (Bool) := spec_l03Values.l0 k l0 0
theorem spec_l03Values.mono_l : ∀ k, (∀ y0 y1, LeO (spec_l03Values.l0 k y0 y1) (spec_l03Values.l0 (k + 1) y0 y1))
  | 0 => fun _ _ r h => by simp [spec_l03Values.l0] at h
  | k + 1 => by
    have ih0 := spec_l03Values.mono_l k
    · intro y0 y1
      unfold spec_l03Values.l0
      repeat' first
      | (with_reducible exact ih0 _ _)
      | (with_reducible exact spec_Norm.mono _ _)
      | (with_reducible exact spec_l02Value.mono _ _)
      | (with_reducible exact LeO.refl _)
      | (with_reducible exact LeO.none _)
      | (with_reducible refine LeO.ite ?_ ?_)
      | (with_reducible refine LeO.bind ?_ (fun _ => ?_))
      | exact ih0 _ _
      | exact spec_Norm.mono _ _
      | exact spec_l02Value.mono _ _
      | exact LeO.none _
      | refine LeO.ite ?_ ?_
      | refine LeO.bind ?_ (fun _ => ?_)
theorem spec_l03Values.mono : ∀ a0 k, LeO (spec_l03Values.f k a0) (spec_l03Values.f (k + 1) a0) := by
  intro a0 k
  have ih0 := spec_l03Values.mono_l k
  unfold spec_l03Values.f
  repeat' first
      | (with_reducible exact ih0 _ _)
      | (with_reducible exact spec_Norm.mono _ _)
      | (with_reducible exact spec_l02Value.mono _ _)
      | (with_reducible exact LeO.refl _)
      | (with_reducible exact LeO.none _)
      | (with_reducible refine LeO.ite ?_ ?_)
      | (with_reducible refine LeO.bind ?_ (fun _ => ?_))
      | exact ih0 _ _
      | exact spec_Norm.mono _ _
      | exact spec_l02Value.mono _ _
      | exact LeO.none _
      | refine LeO.ite ?_ ?_
      | refine LeO.bind ?_ (fun _ => ?_)
def spec_l03Values.T4 : Bool × List (List Nat × List Nat) := (true, [([], []), ([], []), ([0, 1], [0, 1]), ([2], [2]), ([3], [3]), ([4], [4]), ([5, 4], [5]), ([6], [6]), ([7, 6], [6, 7]), ([8, 6, 6], [6, 8]), ([9], [9]), ([9], [9]), ([11, 9], [9, 11]), ([10, 12, 9], [9, 10, 12]), ([13, 9], [9, 13]), ([14, 9, 9], [9, 14]), ([9], [9]), ([9], [9]), ([16, 17, 9], [9, 16, 17]), ([18, 9], [9, 18]), ([19, 15, 9], [9, 19]), ([15, 20, 9], [9, 15, 20]), ([9, 21, 6], [6, 9, 21]), ([6, 22], [6, 22])])
def spec_l03Values.B4 : List Nat := [0, 0, 3, 7, 15, 31, 63, 127, 255, 511, 1023, 1023, 3071, 8191, 16383, 32767, 1023, 1023, 197631, 459775, 1048575, 2097151, 4194303, 8388607]
theorem spec_l03Values.tab4 : rtab .any (opsOf Tryz.f102 4) = spec_l03Values.T4 := by kernel_rfl
theorem spec_l03Values.bits4 : waitsOk spec_l03Values.T4.2 spec_l03Values.B4 = true := by kernel_rfl
set_option maxHeartbeats 8000000 in
set_option maxRecDepth 100000 in
theorem spec_l03Values.calls (k : Nat) (A0 : Option Addr) (c0 : Nat) (l0 : List ByteArray) (r : Bool) (w : World) (hr0 : Kd.C Kd.string w A0 l0.length l0) (hc0 : l0.length ≤ c0) (h : spec_l03Values.f k l0 = some r) :
    Calls Tryz.prog 102 #[.slice A0 l0.length c0] w fun e w' => e = .returned (.bool r) ∧ Below w.heap.size w w' := by
  have HR0 := Aside0.mk hr0
  have HC0 := Aside0.mk hc0
  clear hr0 hc0
  have HB := Aside0.mk (Below.refl w.heap.size w)
  have H : (spec_l03Values.l0 k l0 0) = some r := h
  clear h
  have H' := Aside0.mk H
  clear H
  go_enter Tryz.func102, Tryz.ntmps102
  go_wp2
  go_loopg [3] k (fun kq v3 w' => ∃ (x3_1 : Int), v3 = .int .i64 x3_1 ∧ Aside0 (spec_l03Values.l0 kq l0 x3_1 = some r) ∧ Aside0 (kq ≤ k) ∧ Aside0 (Below w.heap.size w w'))
  case atStart => exact ⟨(0), (by first | rfl | (simp; done) | (simp [*]; done)), H', ⟨Nat.le_refl _⟩, ⟨By⟩⟩
  case round =>
    clear H'
    try clear c1
    obtain ⟨x3_1, rfl, HA, HK1, HB⟩ := hrel
    cases gk with
    | zero => exact absurd HA.out (by simp [spec_l03Values.l0])
    | succ k1 =>
      have H := HA.out
      clear HA
      simp only [spec_l03Values.l0] at H
      by_cases c2 : x3_1 < (l0.length : Int)
      · rw [if_pos c2] at H
        have c2b0 : decide (x3_1 < (l0.length : Int)) = true := decide_eq_true c2
        clear c2
        by_cases c3 : 0 ≤ x3_1
        · rw [if_pos c3] at H
          have c3b0 : decide (0 ≤ x3_1) = true := decide_eq_true c3
          clear c3
          replace H := Option.bind_eq_some_iff.mp H
          obtain ⟨t199, A40, H⟩ := H
          replace H : (if t199 = true then (if x3_1 > 0 then (if 0 ≤ (wrap64 (x3_1 - 1)) then (if (wrap64 (x3_1 - 1)) < (l0.length : Int) then ((spec_Norm.f k1 (rdOf ByteArray.empty l0 (wrap64 (x3_1 - 1)))).bind fun t201 => ((spec_Norm.f k1 (rdOf ByteArray.empty l0 x3_1)).bind fun t203 => (if ((Op.bytesLess t201.toList t203.toList) = true) then (spec_l03Values.l0 k1 l0 (wrap64 (x3_1 + 1))) else (some false)))) else (none)) else (none)) else (spec_l03Values.l0 k1 l0 (wrap64 (x3_1 + 1)))) else (some false)) = some r := H
          have A4 := Aside0.mk A40
          clear A40
          by_cases c5 : t199 = true
          · subst c5
            have H1 : (if x3_1 > 0 then (if 0 ≤ (wrap64 (x3_1 - 1)) then (if (wrap64 (x3_1 - 1)) < (l0.length : Int) then ((spec_Norm.f k1 (rdOf ByteArray.empty l0 (wrap64 (x3_1 - 1)))).bind fun t201 => ((spec_Norm.f k1 (rdOf ByteArray.empty l0 x3_1)).bind fun t203 => (if ((Op.bytesLess t201.toList t203.toList) = true) then (spec_l03Values.l0 k1 l0 (wrap64 (x3_1 + 1))) else (some false)))) else (none)) else (none)) else (spec_l03Values.l0 k1 l0 (wrap64 (x3_1 + 1)))) = some r := by rw [if_pos rfl] at H; exact H
            clear H
            have H := H1
            clear H1
            by_cases c6 : x3_1 > 0
            · rw [if_pos c6] at H
              have c6b0 : decide (0 < x3_1) = true := decide_eq_true c6
              clear c6
              obtain ⟨ji7, hji7⟩ : ∃ j_ : Int, (wrap64 (x3_1 - 1)) = j_ := ⟨_, rfl⟩
              replace H : (if 0 ≤ (ji7) then (if (ji7) < (l0.length : Int) then ((spec_Norm.f k1 (rdOf ByteArray.empty l0 (ji7))).bind fun t201 => ((spec_Norm.f k1 (rdOf ByteArray.empty l0 x3_1)).bind fun t203 => (if ((Op.bytesLess t201.toList t203.toList) = true) then (spec_l03Values.l0 k1 l0 (wrap64 (x3_1 + 1))) else (some false)))) else (none)) else (none)) = some r := by first | (rw [hji7] at H; exact H) | (simp only [hji7] at H ⊢; exact H)
              (try rw [hji7] at A4)
              have hji7w : (IntKind.i64.wrap (x3_1 - 1)) = ji7 := (i64_w _).trans hji7
              by_cases c8 : 0 ≤ (ji7)
              · rw [if_pos c8] at H
                have c8b0 : decide (0 ≤ (ji7)) = true := decide_eq_true c8
                clear c8
                by_cases c9 : (ji7) < (l0.length : Int)
                · rw [if_pos c9] at H
                  have c9b0 : decide ((ji7) < (l0.length : Int)) = true := decide_eq_true c9
                  clear c9
                  replace H := Option.bind_eq_some_iff.mp H
                  obtain ⟨t201, A100, H⟩ := H
                  replace H : ((spec_Norm.f k1 (rdOf ByteArray.empty l0 x3_1)).bind fun t203 => (if ((Op.bytesLess t201.toList t203.toList) = true) then (spec_l03Values.l0 k1 l0 (wrap64 (x3_1 + 1))) else (some false))) = some r := H
                  have A10 := Aside0.mk A100
                  clear A100
                  replace H := Option.bind_eq_some_iff.mp H
                  obtain ⟨t203, A110, H⟩ := H
                  replace H : (if ((Op.bytesLess t201.toList t203.toList) = true) then (spec_l03Values.l0 k1 l0 (wrap64 (x3_1 + 1))) else (some false)) = some r := H
                  have A11 := Aside0.mk A110
                  clear A110
                  by_cases c12 : ((Op.bytesLess t201.toList t203.toList) = true)
                  · rw [if_pos c12] at H
                    have c12b0 : (Op.bytesLess t201.toList t203.toList) = true := c12
                    clear c12
                    have H' := Aside0.mk H
                    clear H
                    try go_wp2
                    have n0_ := Aside0.mk (below_drew1 HB.out)
                    clear HB
                    have HB := n0_
                    clear n0_
                    have p198 : 0 ≤ (x3_1 : Int) := of_decide_eq_true Da
                    have q198 : x3_1 < (l0.length : Int) := of_decide_eq_true Da
                    obtain ⟨ad198, e198, hx198_0⟩ := Kd.at_string HR0.out x3_1 p198 q198
                    have hw198_0 := hx198_0
                    cases e198
                    replace hx198_0 := bz HB.out hx198_0
                    replace p198 := eq_true p198
                    replace q198 := eq_true q198
                    have p200 : 0 ≤ ((ji7) : Int) := of_decide_eq_true Da
                    have q200 : (ji7) < (l0.length : Int) := of_decide_eq_true Da
                    obtain ⟨ad200, e200, hx200_0⟩ := Kd.at_string HR0.out (ji7) p200 q200
                    have hw200_0 := hx200_0
                    obtain rfl : ad198 = ad200 := (by injection e200)
                    replace hx200_0 := bz HB.out hx200_0
                    replace p200 := eq_true p200
                    replace q200 := eq_true q200
                    have p202 : 0 ≤ (x3_1 : Int) := of_decide_eq_true Da
                    have q202 : x3_1 < (l0.length : Int) := of_decide_eq_true Da
                    obtain ⟨ad202, e202, hx202_0⟩ := Kd.at_string HR0.out x3_1 p202 q202
                    have hw202_0 := hx202_0
                    obtain rfl : ad198 = ad202 := (by injection e202)
                    replace hx202_0 := bz HB.out hx202_0
                    replace p202 := eq_true p202
                    replace q202 := eq_true q202
                    refine start_ (n := 24) (S := fun w' => w'.cell? (ad198.add (x3_1).toNat) = some (.string (rdOf ByteArray.empty l0 x3_1)) ∧ w'.cell? (ad198.add ((ji7)).toNat) = some (.string (rdOf ByteArray.empty l0 (ji7))) ∧ w'.cell? (ad198.add (x3_1).toNat) = some (.string (rdOf ByteArray.empty l0 x3_1))) (ds := []) (bv 24 0) (by kernel_rfl) rfl rfl ⟨(bz HB.out hw198_0), (bz HB.out hw200_0), (bz HB.out hw202_0)⟩ (fun hHeld => ?_); refine with_tabW spec_l03Values.tab4 spec_l03Values.bits4 (fun HT_ HW_ => ?_)
                    generalize wr.drew = w13 at HB hx198_0 hx200_0 hx202_0 hHeld ⊢
                    refine pu 0 10 (bv 24 1) HT_.out (h := ?_)
                    refine pu 1 11 (bv 24 3) HT_.out (h := ?_)
                    refine pu 2 12 (bv 24 7) HT_.out (h := ?_)
                    refine tk 3 13 (bv 24 15) HT_.out HW_.out hHeld (h := ?_)
                    refine one_ (i := 4) (N := some 14) (bv 24 31) rfl rfl (one_of HT_.out (by kernel_rfl)) (by decide) (fun K hK => ?_)
                    refine goes_ Tryz.func101 (by kernel_rfl) rfl #[.string (rdOf ByteArray.empty l0 x3_1)] (by rfl) rfl rfl Ag ?_
                    with_reducible refine (spec_l02Value.calls k1 (rdOf ByteArray.empty l0 x3_1) true _ A4.out).mono ?_
                    rintro e w14 ⟨rfl, hb⟩
                    refine ⟨_, rfl, ?_⟩
                    have n0_ := Aside0.mk (below_step By hb)
                    clear HB
                    have HB := n0_
                    clear n0_
                    (try clear hb)
                    (try clear hb2)
                    (try clear hk)
                    (try clear hi)
                    refine hK.out _ _ ⟨(bz HB.out hw198_0), (bz HB.out hw200_0), (bz HB.out hw202_0)⟩ (fun hHeld => ?_)
                    clear hK K
                    refine norm_ (a' := ?_) ?_ ?_
                    rotate_left
                    · show Act.put _ (some 14) _ = _
                      simp only [Act.put, List.setIfInBounds_toArray, List.set_cons_zero, List.set_cons_succ, i64_w, i32_w]
                      rfl
                    refine pu 5 15 (bv 24 63) HT_.out (h := ?_)
                    refine pu 6 16 (bv 24 127) HT_.out (h := ?_)
                    refine pu 7 17 (bv 24 255) HT_.out (h := ?_)
                    refine pu 8 18 (bv 24 511) HT_.out (h := ?_)
                    refine pu 9 19 (bv 24 1023) HT_.out (h := ?_)
                    refine pu 10 20 (bv 24 2047) HT_.out (h := ?_)
                    refine pu 11 21 (bv 24 4095) HT_.out (h := ?_)
                    refine pu 12 22 (bv 24 8191) HT_.out (h := ?_)
                    refine pu 13 23 (bv 24 16383) HT_.out (h := ?_)
                    refine pu 16 26 (bv 24 81919) HT_.out (h := ?_)
                    refine pu 17 27 (bv 24 212991) HT_.out (h := ?_)
                    refine pu 18 28 (bv 24 475135) HT_.out (h := ?_)
                    refine tk 14 24 (bv 24 491519) HT_.out HW_.out hHeld (h := ?_)
                    refine tk 19 29 (bv 24 1015807) HT_.out HW_.out hHeld (h := ?_)
                    refine one_ (i := 15) (N := some 25) (bv 24 1048575) rfl rfl (one_of HT_.out (by kernel_rfl)) (by decide) (fun K hK => ?_)
                    refine goes_ Tryz.func118 (by kernel_rfl) rfl #[.string (rdOf ByteArray.empty l0 (ji7))] (by rfl) rfl rfl (by (try simp only [List.map_toArray, List.map_cons, List.map_nil]); first | done | (simp only [hji7]; rfl) | rfl | (simp only [List.length_drop, List.length_take]; rfl)) ?_
                    with_reducible refine (spec_Norm.calls k1 (rdOf ByteArray.empty l0 (ji7)) t201 _ A10.out).mono ?_
                    rintro e w15 ⟨rfl, hb⟩
                    refine ⟨_, rfl, ?_⟩
                    have n0_ := Aside0.mk (below_step By hb)
                    clear HB
                    have HB := n0_
                    clear n0_
                    (try clear hb)
                    (try clear hb2)
                    (try clear hk)
                    (try clear hi)
                    refine hK.out _ _ ⟨(bz HB.out hw198_0), (bz HB.out hw200_0), (bz HB.out hw202_0)⟩ (fun hHeld => ?_)
                    clear hK K
                    refine norm_ (a' := ?_) ?_ ?_
                    rotate_left
                    · show Act.put _ (some 25) _ = _
                      simp only [Act.put, List.setIfInBounds_toArray, List.set_cons_zero, List.set_cons_succ, i64_w, i32_w]
                      rfl
                    refine one_ (i := 20) (N := some 30) (bv 24 2097151) rfl rfl (one_of HT_.out (by kernel_rfl)) (by decide) (fun K hK => ?_)
                    refine goes_ Tryz.func118 (by kernel_rfl) rfl #[.string (rdOf ByteArray.empty l0 x3_1)] (by rfl) rfl rfl Ag ?_
                    with_reducible refine (spec_Norm.calls k1 (rdOf ByteArray.empty l0 x3_1) t203 _ A11.out).mono ?_
                    rintro e w16 ⟨rfl, hb⟩
                    refine ⟨_, rfl, ?_⟩
                    have n0_ := Aside0.mk (below_step By hb)
                    clear HB
                    have HB := n0_
                    clear n0_
                    (try clear hb)
                    (try clear hb2)
                    (try clear hk)
                    (try clear hi)
                    refine hK.out _ _ ⟨(bz HB.out hw198_0), (bz HB.out hw200_0), (bz HB.out hw202_0)⟩ (fun hHeld => ?_)
                    clear hK K
                    refine norm_ (a' := ?_) ?_ ?_
                    rotate_left
                    · show Act.put _ (some 30) _ = _
                      simp only [Act.put, List.setIfInBounds_toArray, List.set_cons_zero, List.set_cons_succ, i64_w, i32_w]
                      rfl
                    refine pu 21 31 (bv 24 4194303) HT_.out (h := ?_)
                    refine pu 22 32 (bv 24 8388607) HT_.out (h := ?_)
                    refine pu 23 33 (bv 24 16777215) HT_.out (h := ?_)
                    refine done_ (done_of HT_.out (by kernel_rfl)) ?_
                    try go_wp2
                    go_roundg k1
                    case measure => have := HK1.out; omega
                    case rel => exact ⟨(wrap64 (x3_1 + 1)), (by first | rfl | (simp; done) | (simp [*]; done)), H', ⟨by have := HK1.out; omega⟩, ⟨By⟩⟩
                  · rw [if_neg c12] at H
                    have c12b0 : (Op.bytesLess t201.toList t203.toList) = false := by simpa using c12
                    clear c12
                    obtain rfl := Option.some.inj H
                    try go_wp2
                    have n0_ := Aside0.mk (below_drew1 HB.out)
                    clear HB
                    have HB := n0_
                    clear n0_
                    have p198 : 0 ≤ (x3_1 : Int) := of_decide_eq_true Da
                    have q198 : x3_1 < (l0.length : Int) := of_decide_eq_true Da
                    obtain ⟨ad198, e198, hx198_0⟩ := Kd.at_string HR0.out x3_1 p198 q198
                    have hw198_0 := hx198_0
                    cases e198
                    replace hx198_0 := bz HB.out hx198_0
                    replace p198 := eq_true p198
                    replace q198 := eq_true q198
                    have p200 : 0 ≤ ((ji7) : Int) := of_decide_eq_true Da
                    have q200 : (ji7) < (l0.length : Int) := of_decide_eq_true Da
                    obtain ⟨ad200, e200, hx200_0⟩ := Kd.at_string HR0.out (ji7) p200 q200
                    have hw200_0 := hx200_0
                    obtain rfl : ad198 = ad200 := (by injection e200)
                    replace hx200_0 := bz HB.out hx200_0
                    replace p200 := eq_true p200
                    replace q200 := eq_true q200
                    have p202 : 0 ≤ (x3_1 : Int) := of_decide_eq_true Da
                    have q202 : x3_1 < (l0.length : Int) := of_decide_eq_true Da
                    obtain ⟨ad202, e202, hx202_0⟩ := Kd.at_string HR0.out x3_1 p202 q202
                    have hw202_0 := hx202_0
                    obtain rfl : ad198 = ad202 := (by injection e202)
                    replace hx202_0 := bz HB.out hx202_0
                    replace p202 := eq_true p202
                    replace q202 := eq_true q202
                    refine start_ (n := 24) (S := fun w' => w'.cell? (ad198.add (x3_1).toNat) = some (.string (rdOf ByteArray.empty l0 x3_1)) ∧ w'.cell? (ad198.add ((ji7)).toNat) = some (.string (rdOf ByteArray.empty l0 (ji7))) ∧ w'.cell? (ad198.add (x3_1).toNat) = some (.string (rdOf ByteArray.empty l0 x3_1))) (ds := []) (bv 24 0) (by kernel_rfl) rfl rfl ⟨(bz HB.out hw198_0), (bz HB.out hw200_0), (bz HB.out hw202_0)⟩ (fun hHeld => ?_); refine with_tabW spec_l03Values.tab4 spec_l03Values.bits4 (fun HT_ HW_ => ?_)
                    generalize wr.drew = w17 at HB hx198_0 hx200_0 hx202_0 hHeld ⊢
                    refine pu 0 10 (bv 24 1) HT_.out (h := ?_)
                    refine pu 1 11 (bv 24 3) HT_.out (h := ?_)
                    refine pu 2 12 (bv 24 7) HT_.out (h := ?_)
                    refine tk 3 13 (bv 24 15) HT_.out HW_.out hHeld (h := ?_)
                    refine one_ (i := 4) (N := some 14) (bv 24 31) rfl rfl (one_of HT_.out (by kernel_rfl)) (by decide) (fun K hK => ?_)
                    refine goes_ Tryz.func101 (by kernel_rfl) rfl #[.string (rdOf ByteArray.empty l0 x3_1)] (by rfl) rfl rfl Ag ?_
                    with_reducible refine (spec_l02Value.calls k1 (rdOf ByteArray.empty l0 x3_1) true _ A4.out).mono ?_
                    rintro e w18 ⟨rfl, hb⟩
                    refine ⟨_, rfl, ?_⟩
                    have n0_ := Aside0.mk (below_step By hb)
                    clear HB
                    have HB := n0_
                    clear n0_
                    (try clear hb)
                    (try clear hb2)
                    (try clear hk)
                    (try clear hi)
                    refine hK.out _ _ ⟨(bz HB.out hw198_0), (bz HB.out hw200_0), (bz HB.out hw202_0)⟩ (fun hHeld => ?_)
                    clear hK K
                    refine norm_ (a' := ?_) ?_ ?_
                    rotate_left
                    · show Act.put _ (some 14) _ = _
                      simp only [Act.put, List.setIfInBounds_toArray, List.set_cons_zero, List.set_cons_succ, i64_w, i32_w]
                      rfl
                    refine pu 5 15 (bv 24 63) HT_.out (h := ?_)
                    refine pu 6 16 (bv 24 127) HT_.out (h := ?_)
                    refine pu 7 17 (bv 24 255) HT_.out (h := ?_)
                    refine pu 8 18 (bv 24 511) HT_.out (h := ?_)
                    refine pu 9 19 (bv 24 1023) HT_.out (h := ?_)
                    refine pu 10 20 (bv 24 2047) HT_.out (h := ?_)
                    refine pu 11 21 (bv 24 4095) HT_.out (h := ?_)
                    refine pu 12 22 (bv 24 8191) HT_.out (h := ?_)
                    refine pu 13 23 (bv 24 16383) HT_.out (h := ?_)
                    refine pu 16 26 (bv 24 81919) HT_.out (h := ?_)
                    refine pu 17 27 (bv 24 212991) HT_.out (h := ?_)
                    refine pu 18 28 (bv 24 475135) HT_.out (h := ?_)
                    refine tk 14 24 (bv 24 491519) HT_.out HW_.out hHeld (h := ?_)
                    refine tk 19 29 (bv 24 1015807) HT_.out HW_.out hHeld (h := ?_)
                    refine one_ (i := 15) (N := some 25) (bv 24 1048575) rfl rfl (one_of HT_.out (by kernel_rfl)) (by decide) (fun K hK => ?_)
                    refine goes_ Tryz.func118 (by kernel_rfl) rfl #[.string (rdOf ByteArray.empty l0 (ji7))] (by rfl) rfl rfl (by (try simp only [List.map_toArray, List.map_cons, List.map_nil]); first | done | (simp only [hji7]; rfl) | rfl | (simp only [List.length_drop, List.length_take]; rfl)) ?_
                    with_reducible refine (spec_Norm.calls k1 (rdOf ByteArray.empty l0 (ji7)) t201 _ A10.out).mono ?_
                    rintro e w19 ⟨rfl, hb⟩
                    refine ⟨_, rfl, ?_⟩
                    have n0_ := Aside0.mk (below_step By hb)
                    clear HB
                    have HB := n0_
                    clear n0_
                    (try clear hb)
                    (try clear hb2)
                    (try clear hk)
                    (try clear hi)
                    refine hK.out _ _ ⟨(bz HB.out hw198_0), (bz HB.out hw200_0), (bz HB.out hw202_0)⟩ (fun hHeld => ?_)
                    clear hK K
                    refine norm_ (a' := ?_) ?_ ?_
                    rotate_left
                    · show Act.put _ (some 25) _ = _
                      simp only [Act.put, List.setIfInBounds_toArray, List.set_cons_zero, List.set_cons_succ, i64_w, i32_w]
                      rfl
                    refine one_ (i := 20) (N := some 30) (bv 24 2097151) rfl rfl (one_of HT_.out (by kernel_rfl)) (by decide) (fun K hK => ?_)
                    refine goes_ Tryz.func118 (by kernel_rfl) rfl #[.string (rdOf ByteArray.empty l0 x3_1)] (by rfl) rfl rfl Ag ?_
                    with_reducible refine (spec_Norm.calls k1 (rdOf ByteArray.empty l0 x3_1) t203 _ A11.out).mono ?_
                    rintro e w20 ⟨rfl, hb⟩
                    refine ⟨_, rfl, ?_⟩
                    have n0_ := Aside0.mk (below_step By hb)
                    clear HB
                    have HB := n0_
                    clear n0_
                    (try clear hb)
                    (try clear hb2)
                    (try clear hk)
                    (try clear hi)
                    refine hK.out _ _ ⟨(bz HB.out hw198_0), (bz HB.out hw200_0), (bz HB.out hw202_0)⟩ (fun hHeld => ?_)
                    clear hK K
                    refine norm_ (a' := ?_) ?_ ?_
                    rotate_left
                    · show Act.put _ (some 30) _ = _
                      simp only [Act.put, List.setIfInBounds_toArray, List.set_cons_zero, List.set_cons_succ, i64_w, i32_w]
                      rfl
                    refine pu 21 31 (bv 24 4194303) HT_.out (h := ?_)
                    refine pu 22 32 (bv 24 8388607) HT_.out (h := ?_)
                    refine pu 23 33 (bv 24 16777215) HT_.out (h := ?_)
                    refine done_ (done_of HT_.out (by kernel_rfl)) ?_
                    try go_wp2
                    go_ret
                    exact ⟨by first | rfl | (simp [errW_none, errW_some] <;> rfl) | (simp only [← hji7]; first | rfl | (simp [errW_none, errW_some] <;> rfl)) | (simp [*, errW_none, errW_some] <;> first | rfl | (rw [Bool.eq_iff_iff]; simp)), By⟩
                · rw [if_neg c9] at H
                  exact absurd H (by simp)
              · rw [if_neg c8] at H
                exact absurd H (by simp)
            · rw [if_neg c6] at H
              have c6b0 : decide (0 < x3_1) = false := decide_eq_false c6
              clear c6
              have H' := Aside0.mk H
              clear H
              try go_wp2
              have n0_ := Aside0.mk (below_drew1 HB.out)
              clear HB
              have HB := n0_
              clear n0_
              have p198 : 0 ≤ (x3_1 : Int) := of_decide_eq_true Da
              have q198 : x3_1 < (l0.length : Int) := of_decide_eq_true Da
              obtain ⟨ad198, e198, hx198_0⟩ := Kd.at_string HR0.out x3_1 p198 q198
              have hw198_0 := hx198_0
              cases e198
              replace hx198_0 := bz HB.out hx198_0
              replace p198 := eq_true p198
              replace q198 := eq_true q198
              refine start_ (n := 24) (S := fun w' => w'.cell? (ad198.add (x3_1).toNat) = some (.string (rdOf ByteArray.empty l0 x3_1))) (ds := []) (bv 24 0) (by kernel_rfl) rfl rfl ((bz HB.out hw198_0)) (fun hHeld => ?_); refine with_tabW spec_l03Values.tab4 spec_l03Values.bits4 (fun HT_ HW_ => ?_)
              generalize wr.drew = w21 at HB hx198_0 hHeld ⊢
              refine pu 0 10 (bv 24 1) HT_.out (h := ?_)
              refine pu 1 11 (bv 24 3) HT_.out (h := ?_)
              refine pu 2 12 (bv 24 7) HT_.out (h := ?_)
              refine take_ (i := 3) (N := some 13) (v := ?_) (a' := ?_) (bv 24 15) rfl rfl (take_ofW HT_.out HW_.out (by kernel_rfl)) (fun _ _ _ h => h) (Or.inl ⟨by rfl, ?_⟩) hHeld ?_ ?_
              rotate_left
              · intro w' s0
                go_simp
                with_reducible rfl
              rotate_left
              · simp only [Act.put, List.setIfInBounds_toArray, List.set_cons_zero, List.set_cons_succ, i64_w, i32_w]
                rfl
              refine one_ (i := 4) (N := some 14) (bv 24 31) rfl rfl (one_of HT_.out (by kernel_rfl)) (by decide) (fun K hK => ?_)
              refine goes_ Tryz.func101 (by kernel_rfl) rfl #[.string (rdOf ByteArray.empty l0 x3_1)] (by rfl) rfl rfl Ag ?_
              with_reducible refine (spec_l02Value.calls k1 (rdOf ByteArray.empty l0 x3_1) true _ A4.out).mono ?_
              rintro e w22 ⟨rfl, hb⟩
              refine ⟨_, rfl, ?_⟩
              have n0_ := Aside0.mk (below_step By hb)
              clear HB
              have HB := n0_
              clear n0_
              (try clear hb)
              (try clear hb2)
              (try clear hk)
              (try clear hi)
              refine hK.out _ _ ((bz HB.out hw198_0)) (fun hHeld => ?_)
              clear hK K
              refine norm_ (a' := ?_) ?_ ?_
              rotate_left
              · show Act.put _ (some 14) _ = _
                simp only [Act.put, List.setIfInBounds_toArray, List.set_cons_zero, List.set_cons_succ, i64_w, i32_w]
                rfl
              refine pu 5 15 (bv 24 63) HT_.out (h := ?_)
              refine pu 6 16 (bv 24 127) HT_.out (h := ?_)
              refine pu 7 17 (bv 24 255) HT_.out (h := ?_)
              refine pu 8 18 (bv 24 511) HT_.out (h := ?_)
              refine pu 9 19 (bv 24 1023) HT_.out (h := ?_)
              refine pn 10 20 (bv 24 2047) HT_.out (h := ?_)
              refine pn 11 21 (bv 24 4095) HT_.out (h := ?_)
              refine pn 12 22 (bv 24 8191) HT_.out (h := ?_)
              refine pn 13 23 (bv 24 16383) HT_.out (h := ?_)
              refine pn 14 24 (bv 24 32767) HT_.out (h := ?_)
              refine pn 15 25 (bv 24 65535) HT_.out (h := ?_)
              refine pn 16 26 (bv 24 131071) HT_.out (h := ?_)
              refine pn 17 27 (bv 24 262143) HT_.out (h := ?_)
              refine pn 18 28 (bv 24 524287) HT_.out (h := ?_)
              refine pn 19 29 (bv 24 1048575) HT_.out (h := ?_)
              refine pn 20 30 (bv 24 2097151) HT_.out (h := ?_)
              refine pn 21 31 (bv 24 4194303) HT_.out (h := ?_)
              refine pu 22 32 (bv 24 8388607) HT_.out (h := ?_)
              refine pu 23 33 (bv 24 16777215) HT_.out (h := ?_)
              refine done_ (done_of HT_.out (by kernel_rfl)) ?_
              try go_wp2
              go_roundg k1
              case measure => have := HK1.out; omega
              case rel => exact ⟨(wrap64 (x3_1 + 1)), (by first | rfl | (simp; done) | (simp [*]; done)), H', ⟨by have := HK1.out; omega⟩, ⟨By⟩⟩
          · replace c5 := Bool.eq_false_iff.mpr c5
            subst c5
            have H1 : (some false) = some r := by rw [if_neg (show ¬ (false = true) by decide)] at H; exact H
            clear H
            have H := H1
            clear H1
            obtain rfl := Option.some.inj H
            try go_wp2
            have n0_ := Aside0.mk (below_drew1 HB.out)
            clear HB
            have HB := n0_
            clear n0_
            have p198 : 0 ≤ (x3_1 : Int) := of_decide_eq_true Da
            have q198 : x3_1 < (l0.length : Int) := of_decide_eq_true Da
            obtain ⟨ad198, e198, hx198_0⟩ := Kd.at_string HR0.out x3_1 p198 q198
            have hw198_0 := hx198_0
            cases e198
            replace hx198_0 := bz HB.out hx198_0
            replace p198 := eq_true p198
            replace q198 := eq_true q198
            refine start_ (n := 24) (S := fun w' => w'.cell? (ad198.add (x3_1).toNat) = some (.string (rdOf ByteArray.empty l0 x3_1))) (ds := []) (bv 24 0) (by kernel_rfl) rfl rfl ((bz HB.out hw198_0)) (fun hHeld => ?_); refine with_tabW spec_l03Values.tab4 spec_l03Values.bits4 (fun HT_ HW_ => ?_)
            generalize wr.drew = w23 at HB hx198_0 hHeld ⊢
            refine pu 0 10 (bv 24 1) HT_.out (h := ?_)
            refine pu 1 11 (bv 24 3) HT_.out (h := ?_)
            refine pu 2 12 (bv 24 7) HT_.out (h := ?_)
            refine take_ (i := 3) (N := some 13) (v := ?_) (a' := ?_) (bv 24 15) rfl rfl (take_ofW HT_.out HW_.out (by kernel_rfl)) (fun _ _ _ h => h) (Or.inl ⟨by rfl, ?_⟩) hHeld ?_ ?_
            rotate_left
            · intro w' s0
              go_simp
              with_reducible rfl
            rotate_left
            · simp only [Act.put, List.setIfInBounds_toArray, List.set_cons_zero, List.set_cons_succ, i64_w, i32_w]
              rfl
            refine one_ (i := 4) (N := some 14) (bv 24 31) rfl rfl (one_of HT_.out (by kernel_rfl)) (by decide) (fun K hK => ?_)
            refine goes_ Tryz.func101 (by kernel_rfl) rfl #[.string (rdOf ByteArray.empty l0 x3_1)] (by rfl) rfl rfl Ag ?_
            with_reducible refine (spec_l02Value.calls k1 (rdOf ByteArray.empty l0 x3_1) false _ A4.out).mono ?_
            rintro e w24 ⟨rfl, hb⟩
            refine ⟨_, rfl, ?_⟩
            have n0_ := Aside0.mk (below_step By hb)
            clear HB
            have HB := n0_
            clear n0_
            (try clear hb)
            (try clear hb2)
            (try clear hk)
            (try clear hi)
            refine hK.out _ _ ((bz HB.out hw198_0)) (fun hHeld => ?_)
            clear hK K
            refine norm_ (a' := ?_) ?_ ?_
            rotate_left
            · show Act.put _ (some 14) _ = _
              simp only [Act.put, List.setIfInBounds_toArray, List.set_cons_zero, List.set_cons_succ, i64_w, i32_w]
              rfl
            refine pu 5 15 (bv 24 63) HT_.out (h := ?_)
            refine pu 6 16 (bv 24 127) HT_.out (h := ?_)
            refine pn 7 17 (bv 24 255) HT_.out (h := ?_)
            refine pn 8 18 (bv 24 511) HT_.out (h := ?_)
            refine pn 9 19 (bv 24 1023) HT_.out (h := ?_)
            refine pn 10 20 (bv 24 2047) HT_.out (h := ?_)
            refine pn 11 21 (bv 24 4095) HT_.out (h := ?_)
            refine pn 12 22 (bv 24 8191) HT_.out (h := ?_)
            refine pn 13 23 (bv 24 16383) HT_.out (h := ?_)
            refine pn 14 24 (bv 24 32767) HT_.out (h := ?_)
            refine pn 15 25 (bv 24 65535) HT_.out (h := ?_)
            refine pn 16 26 (bv 24 131071) HT_.out (h := ?_)
            refine pn 17 27 (bv 24 262143) HT_.out (h := ?_)
            refine pn 18 28 (bv 24 524287) HT_.out (h := ?_)
            refine pn 19 29 (bv 24 1048575) HT_.out (h := ?_)
            refine pn 20 30 (bv 24 2097151) HT_.out (h := ?_)
            refine pn 21 31 (bv 24 4194303) HT_.out (h := ?_)
            refine pn 22 32 (bv 24 8388607) HT_.out (h := ?_)
            refine pu 23 33 (bv 24 16777215) HT_.out (h := ?_)
            refine done_ (done_of HT_.out (by kernel_rfl)) ?_
            try go_wp2
            go_ret
            exact ⟨Rf, By⟩
        · rw [if_neg c3] at H
          exact absurd H (by simp)
      · rw [if_neg c2] at H
        have c2b0 : decide (x3_1 < (l0.length : Int)) = false := decide_eq_false c2
        clear c2
        by_cases c25 : (l0.length : Int) ≥ 1
        · rw [if_pos c25] at H
          have c25b0 : decide (1 ≤ (l0.length : Int)) = true := decide_eq_true c25
          have c25b1 : decide (1 ≤ l0.length) = true := decide_eq_true (by omega)
          clear c25
          obtain rfl := Option.some.inj H
          go_wp2
          go_ret
          exact ⟨Rf, By⟩
        · rw [if_neg c25] at H
          have c25b0 : decide (1 ≤ (l0.length : Int)) = false := decide_eq_false c25
          have c25b1 : decide (1 ≤ l0.length) = false := decide_eq_false (by omega)
          clear c25
          obtain rfl := Option.some.inj H
          go_wp2
          go_ret
          exact ⟨Rf, By⟩

set_option linter.unusedVariables false
set_option linter.unusedSimpArgs false

/-! ### spec_l03Attrs: function 67 -/
def spec_l03Attrs.l0 : Nat → List (S115) → Int → Option (Bool)
  | 0, _, _ => none
  | k + 1, x0, x3 => if x3 < (x0.length : Int) then (if 0 ≤ x3 then ((spec_NameRight.f k ((rd_T115 x0 x3).f0)).bind fun t205 => (if t205 = true then (if x3 > 0 then (if 0 ≤ (wrap64 (x3 - 1)) then (if (wrap64 (x3 - 1)) < (x0.length : Int) then (if ((Op.bytesLess (((rd_T115 x0 (wrap64 (x3 - 1))).f0).toList) (((rd_T115 x0 x3).f0).toList)) = true) then ((spec_l03Values.f k ((rd_T115 x0 x3).f1)).bind fun t209 => (if t209 = true then (spec_l03Attrs.l0 k x0 (wrap64 (x3 + 1))) else (some false))) else (some false)) else (none)) else (none)) else ((spec_l03Values.f k ((rd_T115 x0 x3).f1)).bind fun t211 => (if t211 = true then (spec_l03Attrs.l0 k x0 (wrap64 (x3 + 1))) else (some false)))) else (some false))) else (none)) else (some (decide ((x0.length : Int) ≤ 8)))
def spec_l03Attrs.f (k : Nat) (l0 : List (S115)) : Option (Bool) := spec_l03Attrs.l0 k l0 0
theorem spec_l03Attrs.mono_l : ∀ k, (∀ y0 y1, LeO (spec_l03Attrs.l0 k y0 y1) (spec_l03Attrs.l0 (k + 1) y0 y1))
  | 0 => fun _ _ r h => by simp [spec_l03Attrs.l0] at h
  | k + 1 => by
    have ih0 := spec_l03Attrs.mono_l k
    · intro y0 y1
      unfold spec_l03Attrs.l0
      repeat' first
      | (with_reducible exact ih0 _ _)
      | (with_reducible exact spec_NameRight.mono _ _)
      | (with_reducible exact spec_l03Values.mono _ _)
      | (with_reducible exact LeO.refl _)
      | (with_reducible exact LeO.none _)
      | (with_reducible refine LeO.ite ?_ ?_)
      | (with_reducible refine LeO.bind ?_ (fun _ => ?_))
      | exact ih0 _ _
      | exact spec_NameRight.mono _ _
      | exact spec_l03Values.mono _ _
      | exact LeO.none _
      | refine LeO.ite ?_ ?_
      | refine LeO.bind ?_ (fun _ => ?_)
theorem spec_l03Attrs.mono : ∀ a0 k, LeO (spec_l03Attrs.f k a0) (spec_l03Attrs.f (k + 1) a0) := by
  intro a0 k
  have ih0 := spec_l03Attrs.mono_l k
  unfold spec_l03Attrs.f
  repeat' first
      | (with_reducible exact ih0 _ _)
      | (with_reducible exact spec_NameRight.mono _ _)
      | (with_reducible exact spec_l03Values.mono _ _)
      | (with_reducible exact LeO.refl _)
      | (with_reducible exact LeO.none _)
      | (with_reducible refine LeO.ite ?_ ?_)
      | (with_reducible refine LeO.bind ?_ (fun _ => ?_))
      | exact ih0 _ _
      | exact spec_NameRight.mono _ _
      | exact spec_l03Values.mono _ _
      | exact LeO.none _
      | refine LeO.ite ?_ ?_
      | refine LeO.bind ?_ (fun _ => ?_)
def spec_l03Attrs.T4 : Bool × List (List Nat × List Nat) := (true, [([], []), ([], []), ([0, 1], [0, 1]), ([2], [2]), ([3], [3]), ([4], [4]), ([5], [5]), ([6, 5], [6]), ([7], [7]), ([8, 7], [7, 8]), ([9, 7, 7], [7, 9]), ([10], [10]), ([10], [10]), ([12, 10], [10, 12]), ([11, 13, 10], [10, 11, 13]), ([14, 10], [10, 14]), ([15, 10], [10, 15]), ([10], [10]), ([10], [10]), ([17, 18, 10], [10, 17, 18]), ([19, 10], [10, 19]), ([20, 10], [10, 20]), ([16, 21, 10], [10, 16, 21]), ([10, 22, 7], [7, 10, 22]), ([7, 23], [7, 23]), ([24, 10], [24]), ([25], [25]), ([25], [25]), ([26, 27, 25], [25, 26, 27]), ([28, 25], [25, 28]), ([29, 25], [25, 29]), ([30, 25, 25], [25, 30]), ([31, 25], [25, 31]), ([25, 32], [25, 32])])
def spec_l03Attrs.B4 : List Nat := [0, 0, 3, 7, 15, 31, 63, 127, 255, 511, 1023, 2047, 2047, 6143, 16383, 32767, 65535, 2047, 2047, 395263, 919551, 1968127, 4194303, 8388607, 16777215, 33554431, 67108863, 67108863, 268435455, 536870911, 1073741823, 2147483647, 4294967295, 8589934591]
theorem spec_l03Attrs.tab4 : rtab .any (opsOf Tryz.f67 4) = spec_l03Attrs.T4 := by kernel_rfl
theorem spec_l03Attrs.bits4 : waitsOk spec_l03Attrs.T4.2 spec_l03Attrs.B4 = true := by kernel_rfl
set_option maxHeartbeats 8000000 in
set_option maxRecDepth 100000 in
theorem spec_l03Attrs.calls (k : Nat) (A0 : Option Addr) (c0 : Nat) (l0 : List (S115)) (r : Bool) (w : World) (hr0 : Kd.C k115 w A0 l0.length l0) (hc0 : l0.length ≤ c0) (h : spec_l03Attrs.f k l0 = some r) :
    Calls Tryz.prog 67 #[.slice A0 l0.length c0] w fun e w' => e = .returned (.bool r) ∧ Below w.heap.size w w' := by
  have HR0 := Aside0.mk hr0
  have HC0 := Aside0.mk hc0
  clear hr0 hc0
  have HB := Aside0.mk (Below.refl w.heap.size w)
  have H : (spec_l03Attrs.l0 k l0 0) = some r := h
  clear h
  have H' := Aside0.mk H
  clear H
  go_enter Tryz.func67, Tryz.ntmps67
  go_wp2
  go_loopg [3] k (fun kq v3 w' => ∃ (x3_1 : Int), v3 = .int .i64 x3_1 ∧ Aside0 (spec_l03Attrs.l0 kq l0 x3_1 = some r) ∧ Aside0 (kq ≤ k) ∧ Aside0 (Below w.heap.size w w'))
  case atStart => exact ⟨(0), (by first | rfl | (simp; done) | (simp [*]; done)), H', ⟨Nat.le_refl _⟩, ⟨By⟩⟩
  case round =>
    clear H'
    obtain ⟨x3_1, rfl, HA, HK1, HB⟩ := hrel
    cases gk with
    | zero => exact absurd HA.out (by simp [spec_l03Attrs.l0])
    | succ k1 =>
      have H := HA.out
      clear HA
      simp only [spec_l03Attrs.l0] at H
      by_cases c2 : x3_1 < (l0.length : Int)
      · rw [if_pos c2] at H
        have c2b0 : decide (x3_1 < (l0.length : Int)) = true := decide_eq_true c2
        clear c2
        by_cases c3 : 0 ≤ x3_1
        · rw [if_pos c3] at H
          have c3b0 : decide (0 ≤ x3_1) = true := decide_eq_true c3
          clear c3
          replace H := Option.bind_eq_some_iff.mp H
          obtain ⟨t205, A40, H⟩ := H
          replace H : (if t205 = true then (if x3_1 > 0 then (if 0 ≤ (wrap64 (x3_1 - 1)) then (if (wrap64 (x3_1 - 1)) < (l0.length : Int) then (if ((Op.bytesLess (((rd_T115 l0 (wrap64 (x3_1 - 1))).f0).toList) (((rd_T115 l0 x3_1).f0).toList)) = true) then ((spec_l03Values.f k1 ((rd_T115 l0 x3_1).f1)).bind fun t209 => (if t209 = true then (spec_l03Attrs.l0 k1 l0 (wrap64 (x3_1 + 1))) else (some false))) else (some false)) else (none)) else (none)) else ((spec_l03Values.f k1 ((rd_T115 l0 x3_1).f1)).bind fun t211 => (if t211 = true then (spec_l03Attrs.l0 k1 l0 (wrap64 (x3_1 + 1))) else (some false)))) else (some false)) = some r := H
          have A4 := Aside0.mk A40
          clear A40
          by_cases c5 : t205 = true
          · subst c5
            have H1 : (if x3_1 > 0 then (if 0 ≤ (wrap64 (x3_1 - 1)) then (if (wrap64 (x3_1 - 1)) < (l0.length : Int) then (if ((Op.bytesLess (((rd_T115 l0 (wrap64 (x3_1 - 1))).f0).toList) (((rd_T115 l0 x3_1).f0).toList)) = true) then ((spec_l03Values.f k1 ((rd_T115 l0 x3_1).f1)).bind fun t209 => (if t209 = true then (spec_l03Attrs.l0 k1 l0 (wrap64 (x3_1 + 1))) else (some false))) else (some false)) else (none)) else (none)) else ((spec_l03Values.f k1 ((rd_T115 l0 x3_1).f1)).bind fun t211 => (if t211 = true then (spec_l03Attrs.l0 k1 l0 (wrap64 (x3_1 + 1))) else (some false)))) = some r := by rw [if_pos rfl] at H; exact H
            clear H
            have H := H1
            clear H1
            by_cases c6 : x3_1 > 0
            · rw [if_pos c6] at H
              have c6b0 : decide (0 < x3_1) = true := decide_eq_true c6
              clear c6
              obtain ⟨ji7, hji7⟩ : ∃ j_ : Int, (wrap64 (x3_1 - 1)) = j_ := ⟨_, rfl⟩
              replace H : (if 0 ≤ (ji7) then (if (ji7) < (l0.length : Int) then (if ((Op.bytesLess (((rd_T115 l0 (ji7)).f0).toList) (((rd_T115 l0 x3_1).f0).toList)) = true) then ((spec_l03Values.f k1 ((rd_T115 l0 x3_1).f1)).bind fun t209 => (if t209 = true then (spec_l03Attrs.l0 k1 l0 (wrap64 (x3_1 + 1))) else (some false))) else (some false)) else (none)) else (none)) = some r := by first | (rw [hji7] at H; exact H) | (simp only [hji7] at H ⊢; exact H)
              (try rw [hji7] at A4)
              have hji7w : (IntKind.i64.wrap (x3_1 - 1)) = ji7 := (i64_w _).trans hji7
              by_cases c8 : 0 ≤ (ji7)
              · rw [if_pos c8] at H
                have c8b0 : decide (0 ≤ (ji7)) = true := decide_eq_true c8
                clear c8
                by_cases c9 : (ji7) < (l0.length : Int)
                · rw [if_pos c9] at H
                  have c9b0 : decide ((ji7) < (l0.length : Int)) = true := decide_eq_true c9
                  clear c9
                  by_cases c10 : ((Op.bytesLess (((rd_T115 l0 (ji7)).f0).toList) (((rd_T115 l0 x3_1).f0).toList)) = true)
                  · rw [if_pos c10] at H
                    have c10b0 : (Op.bytesLess (((rd_T115 l0 (ji7)).f0).toList) (((rd_T115 l0 x3_1).f0).toList)) = true := c10
                    clear c10
                    replace H := Option.bind_eq_some_iff.mp H
                    obtain ⟨t209, A110, H⟩ := H
                    replace H : (if t209 = true then (spec_l03Attrs.l0 k1 l0 (wrap64 (x3_1 + 1))) else (some false)) = some r := H
                    have A11 := Aside0.mk A110
                    clear A110
                    by_cases c12 : t209 = true
                    · subst c12
                      have H1 : (spec_l03Attrs.l0 k1 l0 (wrap64 (x3_1 + 1))) = some r := by rw [if_pos rfl] at H; exact H
                      clear H
                      have H := H1
                      clear H1
                      have H' := Aside0.mk H
                      clear H
                      try go_wp2
                      have n0_ := Aside0.mk (below_drew1 HB.out)
                      clear HB
                      have HB := n0_
                      clear n0_
                      have p204 : 0 ≤ (x3_1 : Int) := of_decide_eq_true Da
                      have q204 : x3_1 < (l0.length : Int) := of_decide_eq_true Da
                      obtain ⟨ad204, A204_1, c204_1, e204, hx204_0, hx204_1, hl204_1, hi204_1⟩ := at_T115 HR0.out x3_1 p204 q204
                      have hw204_1 := hx204_1
                      have hw204_0 := hx204_0
                      cases e204
                      replace hx204_0 := bz HB.out hx204_0
                      replace hx204_1 := bz HB.out hx204_1
                      have HR204_1 := Aside0.mk hi204_1
                      have HC204_1 := Aside0.mk hl204_1
                      clear hi204_1 hl204_1
                      replace p204 := eq_true p204
                      replace q204 := eq_true q204
                      have p206 : 0 ≤ ((ji7) : Int) := of_decide_eq_true Da
                      have q206 : (ji7) < (l0.length : Int) := of_decide_eq_true Da
                      obtain ⟨ad206, A206_1, c206_1, e206, hx206_0, hx206_1, hl206_1, hi206_1⟩ := at_T115 HR0.out (ji7) p206 q206
                      have hw206_1 := hx206_1
                      have hw206_0 := hx206_0
                      obtain rfl : ad204 = ad206 := (by injection e206)
                      replace hx206_0 := bz HB.out hx206_0
                      replace hx206_1 := bz HB.out hx206_1
                      have HR206_1 := Aside0.mk hi206_1
                      have HC206_1 := Aside0.mk hl206_1
                      clear hi206_1 hl206_1
                      replace p206 := eq_true p206
                      replace q206 := eq_true q206
                      have p207 : 0 ≤ (x3_1 : Int) := of_decide_eq_true Da
                      have q207 : x3_1 < (l0.length : Int) := of_decide_eq_true Da
                      obtain ⟨ad207, A207_1, c207_1, e207, hx207_0, hx207_1, hl207_1, hi207_1⟩ := at_T115 HR0.out x3_1 p207 q207
                      have hw207_1 := hx207_1
                      have hw207_0 := hx207_0
                      obtain rfl : ad204 = ad207 := (by injection e207)
                      replace hx207_0 := bz HB.out hx207_0
                      replace hx207_1 := bz HB.out hx207_1
                      have HR207_1 := Aside0.mk hi207_1
                      have HC207_1 := Aside0.mk hl207_1
                      clear hi207_1 hl207_1
                      replace p207 := eq_true p207
                      replace q207 := eq_true q207
                      have ea_ := Option.some.inj (hx204_1.symm.trans hx207_1)
                      injection ea_ with ea_ en_ ec_
                      subst ea_
                      subst ec_
                      clear en_
                      have p208 : 0 ≤ (x3_1 : Int) := of_decide_eq_true Da
                      have q208 : x3_1 < (l0.length : Int) := of_decide_eq_true Da
                      obtain ⟨ad208, A208_1, c208_1, e208, hx208_0, hx208_1, hl208_1, hi208_1⟩ := at_T115 HR0.out x3_1 p208 q208
                      have hw208_1 := hx208_1
                      have hw208_0 := hx208_0
                      obtain rfl : ad204 = ad208 := (by injection e208)
                      replace hx208_0 := bz HB.out hx208_0
                      replace hx208_1 := bz HB.out hx208_1
                      have HR208_1 := Aside0.mk hi208_1
                      have HC208_1 := Aside0.mk hl208_1
                      clear hi208_1 hl208_1
                      replace p208 := eq_true p208
                      replace q208 := eq_true q208
                      have ea_ := Option.some.inj (hx204_1.symm.trans hx208_1)
                      injection ea_ with ea_ en_ ec_
                      subst ea_
                      subst ec_
                      clear en_
                      refine start_ (n := 34) (S := fun w' => w'.cell? (ad204.add ((x3_1).toNat * 2)) = some (.string ((rd_T115 l0 x3_1).f0)) ∧ w'.cell? ⟨(ad204.add ((x3_1).toNat * 2)).block, (ad204.add ((x3_1).toNat * 2)).off + 1, none⟩ = some (.slice A204_1 ((rd_T115 l0 x3_1).f1).length c204_1) ∧ w'.cell? (ad204.add (((ji7)).toNat * 2)) = some (.string ((rd_T115 l0 (ji7)).f0)) ∧ w'.cell? ⟨(ad204.add (((ji7)).toNat * 2)).block, (ad204.add (((ji7)).toNat * 2)).off + 1, none⟩ = some (.slice A206_1 ((rd_T115 l0 (ji7)).f1).length c206_1) ∧ w'.cell? (ad204.add ((x3_1).toNat * 2)) = some (.string ((rd_T115 l0 x3_1).f0)) ∧ w'.cell? ⟨(ad204.add ((x3_1).toNat * 2)).block, (ad204.add ((x3_1).toNat * 2)).off + 1, none⟩ = some (.slice A204_1 ((rd_T115 l0 x3_1).f1).length c204_1) ∧ w'.cell? (ad204.add ((x3_1).toNat * 2)) = some (.string ((rd_T115 l0 x3_1).f0)) ∧ w'.cell? ⟨(ad204.add ((x3_1).toNat * 2)).block, (ad204.add ((x3_1).toNat * 2)).off + 1, none⟩ = some (.slice A204_1 ((rd_T115 l0 x3_1).f1).length c204_1)) (ds := []) (bv 34 0) (by kernel_rfl) rfl rfl ⟨(bz HB.out hw204_0), (bz HB.out hw204_1), (bz HB.out hw206_0), (bz HB.out hw206_1), (bz HB.out hw207_0), (bz HB.out hw207_1), (bz HB.out hw208_0), (bz HB.out hw208_1)⟩ (fun hHeld => ?_); refine with_tabW spec_l03Attrs.tab4 spec_l03Attrs.bits4 (fun HT_ HW_ => ?_)
                      generalize wr.drew = w13 at HB HR204_1 HR206_1 HR207_1 HR208_1 hx204_0 hx204_1 hx206_0 hx206_1 hx207_0 hx207_1 hx208_0 hx208_1 hHeld ⊢
                      refine pu 0 10 (bv 34 1) HT_.out (h := ?_)
                      refine pu 1 11 (bv 34 3) HT_.out (h := ?_)
                      refine pu 2 12 (bv 34 7) HT_.out (h := ?_)
                      refine pu 3 13 (bv 34 15) HT_.out (h := ?_)
                      refine tk 4 14 (bv 34 31) HT_.out HW_.out hHeld (h := ?_)
                      refine one_ (i := 5) (N := some 15) (bv 34 63) rfl rfl (one_of HT_.out (by kernel_rfl)) (by decide) (fun K hK => ?_)
                      refine goes_ Tryz.func78 (by kernel_rfl) rfl #[.string ((rd_T115 l0 x3_1).f0)] (by rfl) rfl rfl Ag ?_
                      with_reducible refine (spec_NameRight.calls k1 ((rd_T115 l0 x3_1).f0) true _ A4.out).mono ?_
                      rintro e w' ⟨rfl, ⟨nd, rfl⟩⟩
                      refine ⟨_, rfl, ?_⟩
                      refine hK.out _ _ ⟨(bz HB.out hw204_0), (bz HB.out hw204_1), (bz HB.out hw206_0), (bz HB.out hw206_1), (bz HB.out hw207_0), (bz HB.out hw207_1), (bz HB.out hw208_0), (bz HB.out hw208_1)⟩ (fun hHeld => ?_)
                      clear hK K
                      refine norm_ (a' := ?_) ?_ ?_
                      rotate_left
                      · show Act.put _ (some 15) _ = _
                        simp only [Act.put, List.setIfInBounds_toArray, List.set_cons_zero, List.set_cons_succ, i64_w, i32_w]
                        rfl
                      refine pu 6 16 (bv 34 127) HT_.out (h := ?_)
                      refine pu 7 17 (bv 34 255) HT_.out (h := ?_)
                      refine pu 8 18 (bv 34 511) HT_.out (h := ?_)
                      refine pu 9 19 (bv 34 1023) HT_.out (h := ?_)
                      refine pu 10 20 (bv 34 2047) HT_.out (h := ?_)
                      refine pu 11 21 (bv 34 4095) HT_.out (h := ?_)
                      refine pu 12 22 (bv 34 8191) HT_.out (h := ?_)
                      refine pu 13 23 (bv 34 16383) HT_.out (h := ?_)
                      refine pu 14 24 (bv 34 32767) HT_.out (h := ?_)
                      refine pu 15 25 (bv 34 65535) HT_.out (h := ?_)
                      refine pu 17 27 (bv 34 196607) HT_.out (h := ?_)
                      refine pu 18 28 (bv 34 458751) HT_.out (h := ?_)
                      refine pu 19 29 (bv 34 983039) HT_.out (h := ?_)
                      refine pu 20 30 (bv 34 2031615) HT_.out (h := ?_)
                      refine tk 16 26 (bv 34 2097151) HT_.out HW_.out hHeld (h := ?_)
                      refine tk 21 31 (bv 34 4194303) HT_.out HW_.out hHeld (h := ?_)
                      refine pu 22 32 (bv 34 8388607) HT_.out (h := ?_)
                      refine pu 23 33 (bv 34 16777215) HT_.out (h := ?_)
                      refine pu 24 34 (bv 34 33554431) HT_.out (h := ?_)
                      refine pu 25 35 (bv 34 67108863) HT_.out (h := ?_)
                      refine pu 26 36 (bv 34 134217727) HT_.out (h := ?_)
                      refine pu 27 37 (bv 34 268435455) HT_.out (h := ?_)
                      refine pu 28 38 (bv 34 536870911) HT_.out (h := ?_)
                      refine pu 29 39 (bv 34 1073741823) HT_.out (h := ?_)
                      refine tk 30 40 (bv 34 2147483647) HT_.out HW_.out hHeld (h := ?_)
                      refine one_ (i := 31) (N := some 41) (bv 34 4294967295) rfl rfl (one_of HT_.out (by kernel_rfl)) (by decide) (fun K hK => ?_)
                      refine goes_ Tryz.func102 (by kernel_rfl) rfl #[.slice A204_1 ((rd_T115 l0 x3_1).f1).length c204_1] (by rfl) rfl rfl Ag ?_
                      with_reducible refine (spec_l03Values.calls k1 _ _ ((rd_T115 l0 x3_1).f1) true _ ?side1 ?side2 A11.out).mono ?_
                      (case side1 => repeat (first | exact (Kd.C_below HR208_1.out By) | (with_reducible refine Kd.C_alloc ?_ _) | (with_reducible refine Kd.C_drewN ?_ _) | (with_reducible refine Kd.C_drew ?_)))
                      (case side2 => exact HC208_1.out)
                      rintro e w14 ⟨rfl, hb⟩
                      refine ⟨_, rfl, ?_⟩
                      have n0_ := Aside0.mk (below_step By hb)
                      clear HB
                      have HB := n0_
                      clear n0_
                      (try clear hb)
                      (try clear hb2)
                      (try clear hk)
                      (try clear hi)
                      refine hK.out _ _ ⟨(bz HB.out hw204_0), (bz HB.out hw204_1), (bz HB.out hw206_0), (bz HB.out hw206_1), (bz HB.out hw207_0), (bz HB.out hw207_1), (bz HB.out hw208_0), (bz HB.out hw208_1)⟩ (fun hHeld => ?_)
                      clear hK K
                      refine norm_ (a' := ?_) ?_ ?_
                      rotate_left
                      · show Act.put _ (some 41) _ = _
                        simp only [Act.put, List.setIfInBounds_toArray, List.set_cons_zero, List.set_cons_succ, i64_w, i32_w]
                        rfl
                      refine pu 32 42 (bv 34 8589934591) HT_.out (h := ?_)
                      refine pu 33 43 (bv 34 17179869183) HT_.out (h := ?_)
                      refine done_ (done_of HT_.out (by kernel_rfl)) ?_
                      try go_wp2
                      go_roundg k1
                      case measure => have := HK1.out; omega
                      case rel => exact ⟨(wrap64 (x3_1 + 1)), (by first | rfl | (simp; done) | (simp [*]; done)), H', ⟨by have := HK1.out; omega⟩, ⟨By⟩⟩
                    · replace c12 := Bool.eq_false_iff.mpr c12
                      subst c12
                      have H1 : (some false) = some r := by rw [if_neg (show ¬ (false = true) by decide)] at H; exact H
                      clear H
                      have H := H1
                      clear H1
                      obtain rfl := Option.some.inj H
                      try go_wp2
                      have n0_ := Aside0.mk (below_drew1 HB.out)
                      clear HB
                      have HB := n0_
                      clear n0_
                      have p204 : 0 ≤ (x3_1 : Int) := of_decide_eq_true Da
                      have q204 : x3_1 < (l0.length : Int) := of_decide_eq_true Da
                      obtain ⟨ad204, A204_1, c204_1, e204, hx204_0, hx204_1, hl204_1, hi204_1⟩ := at_T115 HR0.out x3_1 p204 q204
                      have hw204_1 := hx204_1
                      have hw204_0 := hx204_0
                      cases e204
                      replace hx204_0 := bz HB.out hx204_0
                      replace hx204_1 := bz HB.out hx204_1
                      have HR204_1 := Aside0.mk hi204_1
                      have HC204_1 := Aside0.mk hl204_1
                      clear hi204_1 hl204_1
                      replace p204 := eq_true p204
                      replace q204 := eq_true q204
                      have p206 : 0 ≤ ((ji7) : Int) := of_decide_eq_true Da
                      have q206 : (ji7) < (l0.length : Int) := of_decide_eq_true Da
                      obtain ⟨ad206, A206_1, c206_1, e206, hx206_0, hx206_1, hl206_1, hi206_1⟩ := at_T115 HR0.out (ji7) p206 q206
                      have hw206_1 := hx206_1
                      have hw206_0 := hx206_0
                      obtain rfl : ad204 = ad206 := (by injection e206)
                      replace hx206_0 := bz HB.out hx206_0
                      replace hx206_1 := bz HB.out hx206_1
                      have HR206_1 := Aside0.mk hi206_1
                      have HC206_1 := Aside0.mk hl206_1
                      clear hi206_1 hl206_1
                      replace p206 := eq_true p206
                      replace q206 := eq_true q206
                      have p207 : 0 ≤ (x3_1 : Int) := of_decide_eq_true Da
                      have q207 : x3_1 < (l0.length : Int) := of_decide_eq_true Da
                      obtain ⟨ad207, A207_1, c207_1, e207, hx207_0, hx207_1, hl207_1, hi207_1⟩ := at_T115 HR0.out x3_1 p207 q207
                      have hw207_1 := hx207_1
                      have hw207_0 := hx207_0
                      obtain rfl : ad204 = ad207 := (by injection e207)
                      replace hx207_0 := bz HB.out hx207_0
                      replace hx207_1 := bz HB.out hx207_1
                      have HR207_1 := Aside0.mk hi207_1
                      have HC207_1 := Aside0.mk hl207_1
                      clear hi207_1 hl207_1
                      replace p207 := eq_true p207
                      replace q207 := eq_true q207
                      have ea_ := Option.some.inj (hx204_1.symm.trans hx207_1)
                      injection ea_ with ea_ en_ ec_
                      subst ea_
                      subst ec_
                      clear en_
                      have p208 : 0 ≤ (x3_1 : Int) := of_decide_eq_true Da
                      have q208 : x3_1 < (l0.length : Int) := of_decide_eq_true Da
                      obtain ⟨ad208, A208_1, c208_1, e208, hx208_0, hx208_1, hl208_1, hi208_1⟩ := at_T115 HR0.out x3_1 p208 q208
                      have hw208_1 := hx208_1
                      have hw208_0 := hx208_0
                      obtain rfl : ad204 = ad208 := (by injection e208)
                      replace hx208_0 := bz HB.out hx208_0
                      replace hx208_1 := bz HB.out hx208_1
                      have HR208_1 := Aside0.mk hi208_1
                      have HC208_1 := Aside0.mk hl208_1
                      clear hi208_1 hl208_1
                      replace p208 := eq_true p208
                      replace q208 := eq_true q208
                      have ea_ := Option.some.inj (hx204_1.symm.trans hx208_1)
                      injection ea_ with ea_ en_ ec_
                      subst ea_
                      subst ec_
                      clear en_
                      refine start_ (n := 34) (S := fun w' => w'.cell? (ad204.add ((x3_1).toNat * 2)) = some (.string ((rd_T115 l0 x3_1).f0)) ∧ w'.cell? ⟨(ad204.add ((x3_1).toNat * 2)).block, (ad204.add ((x3_1).toNat * 2)).off + 1, none⟩ = some (.slice A204_1 ((rd_T115 l0 x3_1).f1).length c204_1) ∧ w'.cell? (ad204.add (((ji7)).toNat * 2)) = some (.string ((rd_T115 l0 (ji7)).f0)) ∧ w'.cell? ⟨(ad204.add (((ji7)).toNat * 2)).block, (ad204.add (((ji7)).toNat * 2)).off + 1, none⟩ = some (.slice A206_1 ((rd_T115 l0 (ji7)).f1).length c206_1) ∧ w'.cell? (ad204.add ((x3_1).toNat * 2)) = some (.string ((rd_T115 l0 x3_1).f0)) ∧ w'.cell? ⟨(ad204.add ((x3_1).toNat * 2)).block, (ad204.add ((x3_1).toNat * 2)).off + 1, none⟩ = some (.slice A204_1 ((rd_T115 l0 x3_1).f1).length c204_1) ∧ w'.cell? (ad204.add ((x3_1).toNat * 2)) = some (.string ((rd_T115 l0 x3_1).f0)) ∧ w'.cell? ⟨(ad204.add ((x3_1).toNat * 2)).block, (ad204.add ((x3_1).toNat * 2)).off + 1, none⟩ = some (.slice A204_1 ((rd_T115 l0 x3_1).f1).length c204_1)) (ds := []) (bv 34 0) (by kernel_rfl) rfl rfl ⟨(bz HB.out hw204_0), (bz HB.out hw204_1), (bz HB.out hw206_0), (bz HB.out hw206_1), (bz HB.out hw207_0), (bz HB.out hw207_1), (bz HB.out hw208_0), (bz HB.out hw208_1)⟩ (fun hHeld => ?_); refine with_tabW spec_l03Attrs.tab4 spec_l03Attrs.bits4 (fun HT_ HW_ => ?_)
                      generalize wr.drew = w15 at HB HR204_1 HR206_1 HR207_1 HR208_1 hx204_0 hx204_1 hx206_0 hx206_1 hx207_0 hx207_1 hx208_0 hx208_1 hHeld ⊢
                      refine pu 0 10 (bv 34 1) HT_.out (h := ?_)
                      refine pu 1 11 (bv 34 3) HT_.out (h := ?_)
                      refine pu 2 12 (bv 34 7) HT_.out (h := ?_)
                      refine pu 3 13 (bv 34 15) HT_.out (h := ?_)
                      refine tk 4 14 (bv 34 31) HT_.out HW_.out hHeld (h := ?_)
                      refine one_ (i := 5) (N := some 15) (bv 34 63) rfl rfl (one_of HT_.out (by kernel_rfl)) (by decide) (fun K hK => ?_)
                      refine goes_ Tryz.func78 (by kernel_rfl) rfl #[.string ((rd_T115 l0 x3_1).f0)] (by rfl) rfl rfl Ag ?_
                      with_reducible refine (spec_NameRight.calls k1 ((rd_T115 l0 x3_1).f0) true _ A4.out).mono ?_
                      rintro e w' ⟨rfl, ⟨nd, rfl⟩⟩
                      refine ⟨_, rfl, ?_⟩
                      refine hK.out _ _ ⟨(bz HB.out hw204_0), (bz HB.out hw204_1), (bz HB.out hw206_0), (bz HB.out hw206_1), (bz HB.out hw207_0), (bz HB.out hw207_1), (bz HB.out hw208_0), (bz HB.out hw208_1)⟩ (fun hHeld => ?_)
                      clear hK K
                      refine norm_ (a' := ?_) ?_ ?_
                      rotate_left
                      · show Act.put _ (some 15) _ = _
                        simp only [Act.put, List.setIfInBounds_toArray, List.set_cons_zero, List.set_cons_succ, i64_w, i32_w]
                        rfl
                      refine pu 6 16 (bv 34 127) HT_.out (h := ?_)
                      refine pu 7 17 (bv 34 255) HT_.out (h := ?_)
                      refine pu 8 18 (bv 34 511) HT_.out (h := ?_)
                      refine pu 9 19 (bv 34 1023) HT_.out (h := ?_)
                      refine pu 10 20 (bv 34 2047) HT_.out (h := ?_)
                      refine pu 11 21 (bv 34 4095) HT_.out (h := ?_)
                      refine pu 12 22 (bv 34 8191) HT_.out (h := ?_)
                      refine pu 13 23 (bv 34 16383) HT_.out (h := ?_)
                      refine pu 14 24 (bv 34 32767) HT_.out (h := ?_)
                      refine pu 15 25 (bv 34 65535) HT_.out (h := ?_)
                      refine pu 17 27 (bv 34 196607) HT_.out (h := ?_)
                      refine pu 18 28 (bv 34 458751) HT_.out (h := ?_)
                      refine pu 19 29 (bv 34 983039) HT_.out (h := ?_)
                      refine pu 20 30 (bv 34 2031615) HT_.out (h := ?_)
                      refine tk 16 26 (bv 34 2097151) HT_.out HW_.out hHeld (h := ?_)
                      refine tk 21 31 (bv 34 4194303) HT_.out HW_.out hHeld (h := ?_)
                      refine pu 22 32 (bv 34 8388607) HT_.out (h := ?_)
                      refine pu 23 33 (bv 34 16777215) HT_.out (h := ?_)
                      refine pu 24 34 (bv 34 33554431) HT_.out (h := ?_)
                      refine pu 25 35 (bv 34 67108863) HT_.out (h := ?_)
                      refine pu 26 36 (bv 34 134217727) HT_.out (h := ?_)
                      refine pu 27 37 (bv 34 268435455) HT_.out (h := ?_)
                      refine pu 28 38 (bv 34 536870911) HT_.out (h := ?_)
                      refine pu 29 39 (bv 34 1073741823) HT_.out (h := ?_)
                      refine tk 30 40 (bv 34 2147483647) HT_.out HW_.out hHeld (h := ?_)
                      refine one_ (i := 31) (N := some 41) (bv 34 4294967295) rfl rfl (one_of HT_.out (by kernel_rfl)) (by decide) (fun K hK => ?_)
                      refine goes_ Tryz.func102 (by kernel_rfl) rfl #[.slice A204_1 ((rd_T115 l0 x3_1).f1).length c204_1] (by rfl) rfl rfl Ag ?_
                      with_reducible refine (spec_l03Values.calls k1 _ _ ((rd_T115 l0 x3_1).f1) false _ ?side1 ?side2 A11.out).mono ?_
                      (case side1 => repeat (first | exact (Kd.C_below HR208_1.out By) | (with_reducible refine Kd.C_alloc ?_ _) | (with_reducible refine Kd.C_drewN ?_ _) | (with_reducible refine Kd.C_drew ?_)))
                      (case side2 => exact HC208_1.out)
                      rintro e w16 ⟨rfl, hb⟩
                      refine ⟨_, rfl, ?_⟩
                      have n0_ := Aside0.mk (below_step By hb)
                      clear HB
                      have HB := n0_
                      clear n0_
                      (try clear hb)
                      (try clear hb2)
                      (try clear hk)
                      (try clear hi)
                      refine hK.out _ _ ⟨(bz HB.out hw204_0), (bz HB.out hw204_1), (bz HB.out hw206_0), (bz HB.out hw206_1), (bz HB.out hw207_0), (bz HB.out hw207_1), (bz HB.out hw208_0), (bz HB.out hw208_1)⟩ (fun hHeld => ?_)
                      clear hK K
                      refine norm_ (a' := ?_) ?_ ?_
                      rotate_left
                      · show Act.put _ (some 41) _ = _
                        simp only [Act.put, List.setIfInBounds_toArray, List.set_cons_zero, List.set_cons_succ, i64_w, i32_w]
                        rfl
                      refine pu 32 42 (bv 34 8589934591) HT_.out (h := ?_)
                      refine pu 33 43 (bv 34 17179869183) HT_.out (h := ?_)
                      refine done_ (done_of HT_.out (by kernel_rfl)) ?_
                      try go_wp2
                      go_ret
                      exact ⟨by first | rfl | (simp [errW_none, errW_some] <;> rfl) | (simp only [← hji7]; first | rfl | (simp [errW_none, errW_some] <;> rfl)) | (simp [*, errW_none, errW_some] <;> first | rfl | (rw [Bool.eq_iff_iff]; simp)), By⟩
                  · rw [if_neg c10] at H
                    have c10b0 : (Op.bytesLess (((rd_T115 l0 (ji7)).f0).toList) (((rd_T115 l0 x3_1).f0).toList)) = false := by simpa using c10
                    clear c10
                    obtain rfl := Option.some.inj H
                    try go_wp2
                    have n0_ := Aside0.mk (below_drew1 HB.out)
                    clear HB
                    have HB := n0_
                    clear n0_
                    have p204 : 0 ≤ (x3_1 : Int) := of_decide_eq_true Da
                    have q204 : x3_1 < (l0.length : Int) := of_decide_eq_true Da
                    obtain ⟨ad204, A204_1, c204_1, e204, hx204_0, hx204_1, hl204_1, hi204_1⟩ := at_T115 HR0.out x3_1 p204 q204
                    have hw204_1 := hx204_1
                    have hw204_0 := hx204_0
                    cases e204
                    replace hx204_0 := bz HB.out hx204_0
                    replace hx204_1 := bz HB.out hx204_1
                    have HR204_1 := Aside0.mk hi204_1
                    have HC204_1 := Aside0.mk hl204_1
                    clear hi204_1 hl204_1
                    replace p204 := eq_true p204
                    replace q204 := eq_true q204
                    have p206 : 0 ≤ ((ji7) : Int) := of_decide_eq_true Da
                    have q206 : (ji7) < (l0.length : Int) := of_decide_eq_true Da
                    obtain ⟨ad206, A206_1, c206_1, e206, hx206_0, hx206_1, hl206_1, hi206_1⟩ := at_T115 HR0.out (ji7) p206 q206
                    have hw206_1 := hx206_1
                    have hw206_0 := hx206_0
                    obtain rfl : ad204 = ad206 := (by injection e206)
                    replace hx206_0 := bz HB.out hx206_0
                    replace hx206_1 := bz HB.out hx206_1
                    have HR206_1 := Aside0.mk hi206_1
                    have HC206_1 := Aside0.mk hl206_1
                    clear hi206_1 hl206_1
                    replace p206 := eq_true p206
                    replace q206 := eq_true q206
                    have p207 : 0 ≤ (x3_1 : Int) := of_decide_eq_true Da
                    have q207 : x3_1 < (l0.length : Int) := of_decide_eq_true Da
                    obtain ⟨ad207, A207_1, c207_1, e207, hx207_0, hx207_1, hl207_1, hi207_1⟩ := at_T115 HR0.out x3_1 p207 q207
                    have hw207_1 := hx207_1
                    have hw207_0 := hx207_0
                    obtain rfl : ad204 = ad207 := (by injection e207)
                    replace hx207_0 := bz HB.out hx207_0
                    replace hx207_1 := bz HB.out hx207_1
                    have HR207_1 := Aside0.mk hi207_1
                    have HC207_1 := Aside0.mk hl207_1
                    clear hi207_1 hl207_1
                    replace p207 := eq_true p207
                    replace q207 := eq_true q207
                    have ea_ := Option.some.inj (hx204_1.symm.trans hx207_1)
                    injection ea_ with ea_ en_ ec_
                    subst ea_
                    subst ec_
                    clear en_
                    refine start_ (n := 34) (S := fun w' => w'.cell? (ad204.add ((x3_1).toNat * 2)) = some (.string ((rd_T115 l0 x3_1).f0)) ∧ w'.cell? ⟨(ad204.add ((x3_1).toNat * 2)).block, (ad204.add ((x3_1).toNat * 2)).off + 1, none⟩ = some (.slice A204_1 ((rd_T115 l0 x3_1).f1).length c204_1) ∧ w'.cell? (ad204.add (((ji7)).toNat * 2)) = some (.string ((rd_T115 l0 (ji7)).f0)) ∧ w'.cell? ⟨(ad204.add (((ji7)).toNat * 2)).block, (ad204.add (((ji7)).toNat * 2)).off + 1, none⟩ = some (.slice A206_1 ((rd_T115 l0 (ji7)).f1).length c206_1) ∧ w'.cell? (ad204.add ((x3_1).toNat * 2)) = some (.string ((rd_T115 l0 x3_1).f0)) ∧ w'.cell? ⟨(ad204.add ((x3_1).toNat * 2)).block, (ad204.add ((x3_1).toNat * 2)).off + 1, none⟩ = some (.slice A204_1 ((rd_T115 l0 x3_1).f1).length c204_1)) (ds := []) (bv 34 0) (by kernel_rfl) rfl rfl ⟨(bz HB.out hw204_0), (bz HB.out hw204_1), (bz HB.out hw206_0), (bz HB.out hw206_1), (bz HB.out hw207_0), (bz HB.out hw207_1)⟩ (fun hHeld => ?_); refine with_tabW spec_l03Attrs.tab4 spec_l03Attrs.bits4 (fun HT_ HW_ => ?_)
                    generalize wr.drew = w17 at HB HR204_1 HR206_1 HR207_1 hx204_0 hx204_1 hx206_0 hx206_1 hx207_0 hx207_1 hHeld ⊢
                    refine pu 0 10 (bv 34 1) HT_.out (h := ?_)
                    refine pu 1 11 (bv 34 3) HT_.out (h := ?_)
                    refine pu 2 12 (bv 34 7) HT_.out (h := ?_)
                    refine pu 3 13 (bv 34 15) HT_.out (h := ?_)
                    refine tk 4 14 (bv 34 31) HT_.out HW_.out hHeld (h := ?_)
                    refine one_ (i := 5) (N := some 15) (bv 34 63) rfl rfl (one_of HT_.out (by kernel_rfl)) (by decide) (fun K hK => ?_)
                    refine goes_ Tryz.func78 (by kernel_rfl) rfl #[.string ((rd_T115 l0 x3_1).f0)] (by rfl) rfl rfl Ag ?_
                    with_reducible refine (spec_NameRight.calls k1 ((rd_T115 l0 x3_1).f0) true _ A4.out).mono ?_
                    rintro e w' ⟨rfl, ⟨nd, rfl⟩⟩
                    refine ⟨_, rfl, ?_⟩
                    refine hK.out _ _ ⟨(bz HB.out hw204_0), (bz HB.out hw204_1), (bz HB.out hw206_0), (bz HB.out hw206_1), (bz HB.out hw207_0), (bz HB.out hw207_1)⟩ (fun hHeld => ?_)
                    clear hK K
                    refine norm_ (a' := ?_) ?_ ?_
                    rotate_left
                    · show Act.put _ (some 15) _ = _
                      simp only [Act.put, List.setIfInBounds_toArray, List.set_cons_zero, List.set_cons_succ, i64_w, i32_w]
                      rfl
                    refine pu 6 16 (bv 34 127) HT_.out (h := ?_)
                    refine pu 7 17 (bv 34 255) HT_.out (h := ?_)
                    refine pu 8 18 (bv 34 511) HT_.out (h := ?_)
                    refine pu 9 19 (bv 34 1023) HT_.out (h := ?_)
                    refine pu 10 20 (bv 34 2047) HT_.out (h := ?_)
                    refine pu 11 21 (bv 34 4095) HT_.out (h := ?_)
                    refine pu 12 22 (bv 34 8191) HT_.out (h := ?_)
                    refine pu 13 23 (bv 34 16383) HT_.out (h := ?_)
                    refine pu 14 24 (bv 34 32767) HT_.out (h := ?_)
                    refine pu 15 25 (bv 34 65535) HT_.out (h := ?_)
                    refine pu 17 27 (bv 34 196607) HT_.out (h := ?_)
                    refine pu 18 28 (bv 34 458751) HT_.out (h := ?_)
                    refine pu 19 29 (bv 34 983039) HT_.out (h := ?_)
                    refine pu 20 30 (bv 34 2031615) HT_.out (h := ?_)
                    refine tk 16 26 (bv 34 2097151) HT_.out HW_.out hHeld (h := ?_)
                    refine tk 21 31 (bv 34 4194303) HT_.out HW_.out hHeld (h := ?_)
                    refine pu 22 32 (bv 34 8388607) HT_.out (h := ?_)
                    refine pu 23 33 (bv 34 16777215) HT_.out (h := ?_)
                    refine pu 24 34 (bv 34 33554431) HT_.out (h := ?_)
                    refine pu 25 35 (bv 34 67108863) HT_.out (h := ?_)
                    refine pn 26 36 (bv 34 134217727) HT_.out (h := ?_)
                    refine pn 27 37 (bv 34 268435455) HT_.out (h := ?_)
                    refine pn 28 38 (bv 34 536870911) HT_.out (h := ?_)
                    refine pn 29 39 (bv 34 1073741823) HT_.out (h := ?_)
                    refine pn 30 40 (bv 34 2147483647) HT_.out (h := ?_)
                    refine pn 31 41 (bv 34 4294967295) HT_.out (h := ?_)
                    refine pn 32 42 (bv 34 8589934591) HT_.out (h := ?_)
                    refine pu 33 43 (bv 34 17179869183) HT_.out (h := ?_)
                    refine done_ (done_of HT_.out (by kernel_rfl)) ?_
                    try go_wp2
                    go_ret
                    exact ⟨by first | rfl | (simp [errW_none, errW_some] <;> rfl) | (simp only [← hji7]; first | rfl | (simp [errW_none, errW_some] <;> rfl)) | (simp [*, errW_none, errW_some] <;> first | rfl | (rw [Bool.eq_iff_iff]; simp)), By⟩
                · rw [if_neg c9] at H
                  exact absurd H (by simp)
              · rw [if_neg c8] at H
                exact absurd H (by simp)
            · rw [if_neg c6] at H
              have c6b0 : decide (0 < x3_1) = false := decide_eq_false c6
              clear c6
              replace H := Option.bind_eq_some_iff.mp H
              obtain ⟨t211, A180, H⟩ := H
              replace H : (if t211 = true then (spec_l03Attrs.l0 k1 l0 (wrap64 (x3_1 + 1))) else (some false)) = some r := H
              have A18 := Aside0.mk A180
              clear A180
              by_cases c19 : t211 = true
              · subst c19
                have H1 : (spec_l03Attrs.l0 k1 l0 (wrap64 (x3_1 + 1))) = some r := by rw [if_pos rfl] at H; exact H
                clear H
                have H := H1
                clear H1
                have H' := Aside0.mk H
                clear H
                try go_wp2
                have n0_ := Aside0.mk (below_drew1 HB.out)
                clear HB
                have HB := n0_
                clear n0_
                have p204 : 0 ≤ (x3_1 : Int) := of_decide_eq_true Da
                have q204 : x3_1 < (l0.length : Int) := of_decide_eq_true Da
                obtain ⟨ad204, A204_1, c204_1, e204, hx204_0, hx204_1, hl204_1, hi204_1⟩ := at_T115 HR0.out x3_1 p204 q204
                have hw204_1 := hx204_1
                have hw204_0 := hx204_0
                cases e204
                replace hx204_0 := bz HB.out hx204_0
                replace hx204_1 := bz HB.out hx204_1
                have HR204_1 := Aside0.mk hi204_1
                have HC204_1 := Aside0.mk hl204_1
                clear hi204_1 hl204_1
                replace p204 := eq_true p204
                replace q204 := eq_true q204
                have p210 : 0 ≤ (x3_1 : Int) := of_decide_eq_true Da
                have q210 : x3_1 < (l0.length : Int) := of_decide_eq_true Da
                obtain ⟨ad210, A210_1, c210_1, e210, hx210_0, hx210_1, hl210_1, hi210_1⟩ := at_T115 HR0.out x3_1 p210 q210
                have hw210_1 := hx210_1
                have hw210_0 := hx210_0
                obtain rfl : ad204 = ad210 := (by injection e210)
                replace hx210_0 := bz HB.out hx210_0
                replace hx210_1 := bz HB.out hx210_1
                have HR210_1 := Aside0.mk hi210_1
                have HC210_1 := Aside0.mk hl210_1
                clear hi210_1 hl210_1
                replace p210 := eq_true p210
                replace q210 := eq_true q210
                have ea_ := Option.some.inj (hx204_1.symm.trans hx210_1)
                injection ea_ with ea_ en_ ec_
                subst ea_
                subst ec_
                clear en_
                refine start_ (n := 34) (S := fun w' => w'.cell? (ad204.add ((x3_1).toNat * 2)) = some (.string ((rd_T115 l0 x3_1).f0)) ∧ w'.cell? ⟨(ad204.add ((x3_1).toNat * 2)).block, (ad204.add ((x3_1).toNat * 2)).off + 1, none⟩ = some (.slice A204_1 ((rd_T115 l0 x3_1).f1).length c204_1) ∧ w'.cell? (ad204.add ((x3_1).toNat * 2)) = some (.string ((rd_T115 l0 x3_1).f0)) ∧ w'.cell? ⟨(ad204.add ((x3_1).toNat * 2)).block, (ad204.add ((x3_1).toNat * 2)).off + 1, none⟩ = some (.slice A204_1 ((rd_T115 l0 x3_1).f1).length c204_1)) (ds := []) (bv 34 0) (by kernel_rfl) rfl rfl ⟨(bz HB.out hw204_0), (bz HB.out hw204_1), (bz HB.out hw210_0), (bz HB.out hw210_1)⟩ (fun hHeld => ?_); refine with_tabW spec_l03Attrs.tab4 spec_l03Attrs.bits4 (fun HT_ HW_ => ?_)
                generalize wr.drew = w20 at HB HR204_1 HR210_1 hx204_0 hx204_1 hx210_0 hx210_1 hHeld ⊢
                refine pu 0 10 (bv 34 1) HT_.out (h := ?_)
                refine pu 1 11 (bv 34 3) HT_.out (h := ?_)
                refine pu 2 12 (bv 34 7) HT_.out (h := ?_)
                refine pu 3 13 (bv 34 15) HT_.out (h := ?_)
                refine tk 4 14 (bv 34 31) HT_.out HW_.out hHeld (h := ?_)
                refine one_ (i := 5) (N := some 15) (bv 34 63) rfl rfl (one_of HT_.out (by kernel_rfl)) (by decide) (fun K hK => ?_)
                refine goes_ Tryz.func78 (by kernel_rfl) rfl #[.string ((rd_T115 l0 x3_1).f0)] (by rfl) rfl rfl Ag ?_
                with_reducible refine (spec_NameRight.calls k1 ((rd_T115 l0 x3_1).f0) true _ A4.out).mono ?_
                rintro e w' ⟨rfl, ⟨nd, rfl⟩⟩
                refine ⟨_, rfl, ?_⟩
                refine hK.out _ _ ⟨(bz HB.out hw204_0), (bz HB.out hw204_1), (bz HB.out hw210_0), (bz HB.out hw210_1)⟩ (fun hHeld => ?_)
                clear hK K
                refine norm_ (a' := ?_) ?_ ?_
                rotate_left
                · show Act.put _ (some 15) _ = _
                  simp only [Act.put, List.setIfInBounds_toArray, List.set_cons_zero, List.set_cons_succ, i64_w, i32_w]
                  rfl
                refine pu 6 16 (bv 34 127) HT_.out (h := ?_)
                refine pu 7 17 (bv 34 255) HT_.out (h := ?_)
                refine pu 8 18 (bv 34 511) HT_.out (h := ?_)
                refine pu 9 19 (bv 34 1023) HT_.out (h := ?_)
                refine pu 10 20 (bv 34 2047) HT_.out (h := ?_)
                refine pn 11 21 (bv 34 4095) HT_.out (h := ?_)
                refine pn 12 22 (bv 34 8191) HT_.out (h := ?_)
                refine pn 13 23 (bv 34 16383) HT_.out (h := ?_)
                refine pn 14 24 (bv 34 32767) HT_.out (h := ?_)
                refine pn 15 25 (bv 34 65535) HT_.out (h := ?_)
                refine pn 16 26 (bv 34 131071) HT_.out (h := ?_)
                refine pn 17 27 (bv 34 262143) HT_.out (h := ?_)
                refine pn 18 28 (bv 34 524287) HT_.out (h := ?_)
                refine pn 19 29 (bv 34 1048575) HT_.out (h := ?_)
                refine pn 20 30 (bv 34 2097151) HT_.out (h := ?_)
                refine pn 21 31 (bv 34 4194303) HT_.out (h := ?_)
                refine pn 22 32 (bv 34 8388607) HT_.out (h := ?_)
                refine pu 23 33 (bv 34 16777215) HT_.out (h := ?_)
                refine pu 24 34 (bv 34 33554431) HT_.out (h := ?_)
                refine pu 25 35 (bv 34 67108863) HT_.out (h := ?_)
                refine pu 26 36 (bv 34 134217727) HT_.out (h := ?_)
                refine pu 27 37 (bv 34 268435455) HT_.out (h := ?_)
                refine pu 28 38 (bv 34 536870911) HT_.out (h := ?_)
                refine pu 29 39 (bv 34 1073741823) HT_.out (h := ?_)
                refine tk 30 40 (bv 34 2147483647) HT_.out HW_.out hHeld (h := ?_)
                refine one_ (i := 31) (N := some 41) (bv 34 4294967295) rfl rfl (one_of HT_.out (by kernel_rfl)) (by decide) (fun K hK => ?_)
                refine goes_ Tryz.func102 (by kernel_rfl) rfl #[.slice A204_1 ((rd_T115 l0 x3_1).f1).length c204_1] (by rfl) rfl rfl Ag ?_
                with_reducible refine (spec_l03Values.calls k1 _ _ ((rd_T115 l0 x3_1).f1) true _ ?side1 ?side2 A18.out).mono ?_
                (case side1 => repeat (first | exact (Kd.C_below HR210_1.out By) | (with_reducible refine Kd.C_alloc ?_ _) | (with_reducible refine Kd.C_drewN ?_ _) | (with_reducible refine Kd.C_drew ?_)))
                (case side2 => exact HC210_1.out)
                rintro e w21 ⟨rfl, hb⟩
                refine ⟨_, rfl, ?_⟩
                have n0_ := Aside0.mk (below_step By hb)
                clear HB
                have HB := n0_
                clear n0_
                (try clear hb)
                (try clear hb2)
                (try clear hk)
                (try clear hi)
                refine hK.out _ _ ⟨(bz HB.out hw204_0), (bz HB.out hw204_1), (bz HB.out hw210_0), (bz HB.out hw210_1)⟩ (fun hHeld => ?_)
                clear hK K
                refine norm_ (a' := ?_) ?_ ?_
                rotate_left
                · show Act.put _ (some 41) _ = _
                  simp only [Act.put, List.setIfInBounds_toArray, List.set_cons_zero, List.set_cons_succ, i64_w, i32_w]
                  rfl
                refine pu 32 42 (bv 34 8589934591) HT_.out (h := ?_)
                refine pu 33 43 (bv 34 17179869183) HT_.out (h := ?_)
                refine done_ (done_of HT_.out (by kernel_rfl)) ?_
                try go_wp2
                go_roundg k1
                case measure => have := HK1.out; omega
                case rel => exact ⟨(wrap64 (x3_1 + 1)), (by first | rfl | (simp; done) | (simp [*]; done)), H', ⟨by have := HK1.out; omega⟩, ⟨By⟩⟩
              · replace c19 := Bool.eq_false_iff.mpr c19
                subst c19
                have H1 : (some false) = some r := by rw [if_neg (show ¬ (false = true) by decide)] at H; exact H
                clear H
                have H := H1
                clear H1
                obtain rfl := Option.some.inj H
                try go_wp2
                have n0_ := Aside0.mk (below_drew1 HB.out)
                clear HB
                have HB := n0_
                clear n0_
                have p204 : 0 ≤ (x3_1 : Int) := of_decide_eq_true Da
                have q204 : x3_1 < (l0.length : Int) := of_decide_eq_true Da
                obtain ⟨ad204, A204_1, c204_1, e204, hx204_0, hx204_1, hl204_1, hi204_1⟩ := at_T115 HR0.out x3_1 p204 q204
                have hw204_1 := hx204_1
                have hw204_0 := hx204_0
                cases e204
                replace hx204_0 := bz HB.out hx204_0
                replace hx204_1 := bz HB.out hx204_1
                have HR204_1 := Aside0.mk hi204_1
                have HC204_1 := Aside0.mk hl204_1
                clear hi204_1 hl204_1
                replace p204 := eq_true p204
                replace q204 := eq_true q204
                have p210 : 0 ≤ (x3_1 : Int) := of_decide_eq_true Da
                have q210 : x3_1 < (l0.length : Int) := of_decide_eq_true Da
                obtain ⟨ad210, A210_1, c210_1, e210, hx210_0, hx210_1, hl210_1, hi210_1⟩ := at_T115 HR0.out x3_1 p210 q210
                have hw210_1 := hx210_1
                have hw210_0 := hx210_0
                obtain rfl : ad204 = ad210 := (by injection e210)
                replace hx210_0 := bz HB.out hx210_0
                replace hx210_1 := bz HB.out hx210_1
                have HR210_1 := Aside0.mk hi210_1
                have HC210_1 := Aside0.mk hl210_1
                clear hi210_1 hl210_1
                replace p210 := eq_true p210
                replace q210 := eq_true q210
                have ea_ := Option.some.inj (hx204_1.symm.trans hx210_1)
                injection ea_ with ea_ en_ ec_
                subst ea_
                subst ec_
                clear en_
                refine start_ (n := 34) (S := fun w' => w'.cell? (ad204.add ((x3_1).toNat * 2)) = some (.string ((rd_T115 l0 x3_1).f0)) ∧ w'.cell? ⟨(ad204.add ((x3_1).toNat * 2)).block, (ad204.add ((x3_1).toNat * 2)).off + 1, none⟩ = some (.slice A204_1 ((rd_T115 l0 x3_1).f1).length c204_1) ∧ w'.cell? (ad204.add ((x3_1).toNat * 2)) = some (.string ((rd_T115 l0 x3_1).f0)) ∧ w'.cell? ⟨(ad204.add ((x3_1).toNat * 2)).block, (ad204.add ((x3_1).toNat * 2)).off + 1, none⟩ = some (.slice A204_1 ((rd_T115 l0 x3_1).f1).length c204_1)) (ds := []) (bv 34 0) (by kernel_rfl) rfl rfl ⟨(bz HB.out hw204_0), (bz HB.out hw204_1), (bz HB.out hw210_0), (bz HB.out hw210_1)⟩ (fun hHeld => ?_); refine with_tabW spec_l03Attrs.tab4 spec_l03Attrs.bits4 (fun HT_ HW_ => ?_)
                generalize wr.drew = w22 at HB HR204_1 HR210_1 hx204_0 hx204_1 hx210_0 hx210_1 hHeld ⊢
                refine pu 0 10 (bv 34 1) HT_.out (h := ?_)
                refine pu 1 11 (bv 34 3) HT_.out (h := ?_)
                refine pu 2 12 (bv 34 7) HT_.out (h := ?_)
                refine pu 3 13 (bv 34 15) HT_.out (h := ?_)
                refine tk 4 14 (bv 34 31) HT_.out HW_.out hHeld (h := ?_)
                refine one_ (i := 5) (N := some 15) (bv 34 63) rfl rfl (one_of HT_.out (by kernel_rfl)) (by decide) (fun K hK => ?_)
                refine goes_ Tryz.func78 (by kernel_rfl) rfl #[.string ((rd_T115 l0 x3_1).f0)] (by rfl) rfl rfl Ag ?_
                with_reducible refine (spec_NameRight.calls k1 ((rd_T115 l0 x3_1).f0) true _ A4.out).mono ?_
                rintro e w' ⟨rfl, ⟨nd, rfl⟩⟩
                refine ⟨_, rfl, ?_⟩
                refine hK.out _ _ ⟨(bz HB.out hw204_0), (bz HB.out hw204_1), (bz HB.out hw210_0), (bz HB.out hw210_1)⟩ (fun hHeld => ?_)
                clear hK K
                refine norm_ (a' := ?_) ?_ ?_
                rotate_left
                · show Act.put _ (some 15) _ = _
                  simp only [Act.put, List.setIfInBounds_toArray, List.set_cons_zero, List.set_cons_succ, i64_w, i32_w]
                  rfl
                refine pu 6 16 (bv 34 127) HT_.out (h := ?_)
                refine pu 7 17 (bv 34 255) HT_.out (h := ?_)
                refine pu 8 18 (bv 34 511) HT_.out (h := ?_)
                refine pu 9 19 (bv 34 1023) HT_.out (h := ?_)
                refine pu 10 20 (bv 34 2047) HT_.out (h := ?_)
                refine pn 11 21 (bv 34 4095) HT_.out (h := ?_)
                refine pn 12 22 (bv 34 8191) HT_.out (h := ?_)
                refine pn 13 23 (bv 34 16383) HT_.out (h := ?_)
                refine pn 14 24 (bv 34 32767) HT_.out (h := ?_)
                refine pn 15 25 (bv 34 65535) HT_.out (h := ?_)
                refine pn 16 26 (bv 34 131071) HT_.out (h := ?_)
                refine pn 17 27 (bv 34 262143) HT_.out (h := ?_)
                refine pn 18 28 (bv 34 524287) HT_.out (h := ?_)
                refine pn 19 29 (bv 34 1048575) HT_.out (h := ?_)
                refine pn 20 30 (bv 34 2097151) HT_.out (h := ?_)
                refine pn 21 31 (bv 34 4194303) HT_.out (h := ?_)
                refine pn 22 32 (bv 34 8388607) HT_.out (h := ?_)
                refine pu 23 33 (bv 34 16777215) HT_.out (h := ?_)
                refine pu 24 34 (bv 34 33554431) HT_.out (h := ?_)
                refine pu 25 35 (bv 34 67108863) HT_.out (h := ?_)
                refine pu 26 36 (bv 34 134217727) HT_.out (h := ?_)
                refine pu 27 37 (bv 34 268435455) HT_.out (h := ?_)
                refine pu 28 38 (bv 34 536870911) HT_.out (h := ?_)
                refine pu 29 39 (bv 34 1073741823) HT_.out (h := ?_)
                refine tk 30 40 (bv 34 2147483647) HT_.out HW_.out hHeld (h := ?_)
                refine one_ (i := 31) (N := some 41) (bv 34 4294967295) rfl rfl (one_of HT_.out (by kernel_rfl)) (by decide) (fun K hK => ?_)
                refine goes_ Tryz.func102 (by kernel_rfl) rfl #[.slice A204_1 ((rd_T115 l0 x3_1).f1).length c204_1] (by rfl) rfl rfl Ag ?_
                with_reducible refine (spec_l03Values.calls k1 _ _ ((rd_T115 l0 x3_1).f1) false _ ?side1 ?side2 A18.out).mono ?_
                (case side1 => repeat (first | exact (Kd.C_below HR210_1.out By) | (with_reducible refine Kd.C_alloc ?_ _) | (with_reducible refine Kd.C_drewN ?_ _) | (with_reducible refine Kd.C_drew ?_)))
                (case side2 => exact HC210_1.out)
                rintro e w23 ⟨rfl, hb⟩
                refine ⟨_, rfl, ?_⟩
                have n0_ := Aside0.mk (below_step By hb)
                clear HB
                have HB := n0_
                clear n0_
                (try clear hb)
                (try clear hb2)
                (try clear hk)
                (try clear hi)
                refine hK.out _ _ ⟨(bz HB.out hw204_0), (bz HB.out hw204_1), (bz HB.out hw210_0), (bz HB.out hw210_1)⟩ (fun hHeld => ?_)
                clear hK K
                refine norm_ (a' := ?_) ?_ ?_
                rotate_left
                · show Act.put _ (some 41) _ = _
                  simp only [Act.put, List.setIfInBounds_toArray, List.set_cons_zero, List.set_cons_succ, i64_w, i32_w]
                  rfl
                refine pu 32 42 (bv 34 8589934591) HT_.out (h := ?_)
                refine pu 33 43 (bv 34 17179869183) HT_.out (h := ?_)
                refine done_ (done_of HT_.out (by kernel_rfl)) ?_
                try go_wp2
                go_ret
                exact ⟨Rf, By⟩
          · replace c5 := Bool.eq_false_iff.mpr c5
            subst c5
            have H1 : (some false) = some r := by rw [if_neg (show ¬ (false = true) by decide)] at H; exact H
            clear H
            have H := H1
            clear H1
            obtain rfl := Option.some.inj H
            try go_wp2
            have n0_ := Aside0.mk (below_drew1 HB.out)
            clear HB
            have HB := n0_
            clear n0_
            have p204 : 0 ≤ (x3_1 : Int) := of_decide_eq_true Da
            have q204 : x3_1 < (l0.length : Int) := of_decide_eq_true Da
            obtain ⟨ad204, A204_1, c204_1, e204, hx204_0, hx204_1, hl204_1, hi204_1⟩ := at_T115 HR0.out x3_1 p204 q204
            have hw204_1 := hx204_1
            have hw204_0 := hx204_0
            cases e204
            replace hx204_0 := bz HB.out hx204_0
            replace hx204_1 := bz HB.out hx204_1
            have HR204_1 := Aside0.mk hi204_1
            have HC204_1 := Aside0.mk hl204_1
            clear hi204_1 hl204_1
            replace p204 := eq_true p204
            replace q204 := eq_true q204
            refine start_ (n := 34) (S := fun w' => w'.cell? (ad204.add ((x3_1).toNat * 2)) = some (.string ((rd_T115 l0 x3_1).f0)) ∧ w'.cell? ⟨(ad204.add ((x3_1).toNat * 2)).block, (ad204.add ((x3_1).toNat * 2)).off + 1, none⟩ = some (.slice A204_1 ((rd_T115 l0 x3_1).f1).length c204_1)) (ds := []) (bv 34 0) (by kernel_rfl) rfl rfl ⟨(bz HB.out hw204_0), (bz HB.out hw204_1)⟩ (fun hHeld => ?_); refine with_tabW spec_l03Attrs.tab4 spec_l03Attrs.bits4 (fun HT_ HW_ => ?_)
            generalize wr.drew = w24 at HB HR204_1 hx204_0 hx204_1 hHeld ⊢
            refine pu 0 10 (bv 34 1) HT_.out (h := ?_)
            refine pu 1 11 (bv 34 3) HT_.out (h := ?_)
            refine pu 2 12 (bv 34 7) HT_.out (h := ?_)
            refine pu 3 13 (bv 34 15) HT_.out (h := ?_)
            refine tk 4 14 (bv 34 31) HT_.out HW_.out hHeld (h := ?_)
            refine one_ (i := 5) (N := some 15) (bv 34 63) rfl rfl (one_of HT_.out (by kernel_rfl)) (by decide) (fun K hK => ?_)
            refine goes_ Tryz.func78 (by kernel_rfl) rfl #[.string ((rd_T115 l0 x3_1).f0)] (by rfl) rfl rfl Ag ?_
            with_reducible refine (spec_NameRight.calls k1 ((rd_T115 l0 x3_1).f0) false _ A4.out).mono ?_
            rintro e w' ⟨rfl, ⟨nd, rfl⟩⟩
            refine ⟨_, rfl, ?_⟩
            refine hK.out _ _ ⟨(bz HB.out hw204_0), (bz HB.out hw204_1)⟩ (fun hHeld => ?_)
            clear hK K
            refine norm_ (a' := ?_) ?_ ?_
            rotate_left
            · show Act.put _ (some 15) _ = _
              simp only [Act.put, List.setIfInBounds_toArray, List.set_cons_zero, List.set_cons_succ, i64_w, i32_w]
              rfl
            refine pu 6 16 (bv 34 127) HT_.out (h := ?_)
            refine pu 7 17 (bv 34 255) HT_.out (h := ?_)
            refine pn 8 18 (bv 34 511) HT_.out (h := ?_)
            refine pn 9 19 (bv 34 1023) HT_.out (h := ?_)
            refine pn 10 20 (bv 34 2047) HT_.out (h := ?_)
            refine pn 11 21 (bv 34 4095) HT_.out (h := ?_)
            refine pn 12 22 (bv 34 8191) HT_.out (h := ?_)
            refine pn 13 23 (bv 34 16383) HT_.out (h := ?_)
            refine pn 14 24 (bv 34 32767) HT_.out (h := ?_)
            refine pn 15 25 (bv 34 65535) HT_.out (h := ?_)
            refine pn 16 26 (bv 34 131071) HT_.out (h := ?_)
            refine pn 17 27 (bv 34 262143) HT_.out (h := ?_)
            refine pn 18 28 (bv 34 524287) HT_.out (h := ?_)
            refine pn 19 29 (bv 34 1048575) HT_.out (h := ?_)
            refine pn 20 30 (bv 34 2097151) HT_.out (h := ?_)
            refine pn 21 31 (bv 34 4194303) HT_.out (h := ?_)
            refine pn 22 32 (bv 34 8388607) HT_.out (h := ?_)
            refine pn 23 33 (bv 34 16777215) HT_.out (h := ?_)
            refine pu 24 34 (bv 34 33554431) HT_.out (h := ?_)
            refine pu 25 35 (bv 34 67108863) HT_.out (h := ?_)
            refine pn 26 36 (bv 34 134217727) HT_.out (h := ?_)
            refine pn 27 37 (bv 34 268435455) HT_.out (h := ?_)
            refine pn 28 38 (bv 34 536870911) HT_.out (h := ?_)
            refine pn 29 39 (bv 34 1073741823) HT_.out (h := ?_)
            refine pn 30 40 (bv 34 2147483647) HT_.out (h := ?_)
            refine pn 31 41 (bv 34 4294967295) HT_.out (h := ?_)
            refine pn 32 42 (bv 34 8589934591) HT_.out (h := ?_)
            refine pu 33 43 (bv 34 17179869183) HT_.out (h := ?_)
            refine done_ (done_of HT_.out (by kernel_rfl)) ?_
            try go_wp2
            go_ret
            exact ⟨Rf, By⟩
        · rw [if_neg c3] at H
          exact absurd H (by simp)
      · rw [if_neg c2] at H
        have c2b0 : decide (x3_1 < (l0.length : Int)) = false := decide_eq_false c2
        clear c2
        obtain rfl := Option.some.inj H
        go_wp2
        go_ret
        exact ⟨Rf, By⟩

set_option linter.unusedVariables false
set_option linter.unusedSimpArgs false

/-! ### spec_EntryRight: function 32 -/
def spec_EntryRight.f (k : Nat) (l0_0 : List (S113)) (l0_1 : List (S115)) : Option (Bool) := if (l0_0.length : Int) > 0 then ((spec_DnRight.f k l0_0).bind fun t213 => (if t213 = true then ((spec_l03Attrs.f k l0_1).bind fun t214 => (some t214)) else (some false))) else (some false)
theorem spec_EntryRight.mono : ∀ a0 a1 k, LeO (spec_EntryRight.f k a0 a1) (spec_EntryRight.f (k + 1) a0 a1) := by
  intro a0 a1 k
  unfold spec_EntryRight.f
  repeat' first
      | (with_reducible exact spec_DnRight.mono _ _)
      | (with_reducible exact spec_l03Attrs.mono _ _)
      | (with_reducible exact LeO.refl _)
      | (with_reducible exact LeO.none _)
      | (with_reducible refine LeO.ite ?_ ?_)
      | (with_reducible refine LeO.bind ?_ (fun _ => ?_))
      | exact spec_DnRight.mono _ _
      | exact spec_l03Attrs.mono _ _
      | exact LeO.none _
      | refine LeO.ite ?_ ?_
      | refine LeO.bind ?_ (fun _ => ?_)
set_option maxHeartbeats 8000000 in
set_option maxRecDepth 100000 in
theorem spec_EntryRight.calls (k : Nat) (A0_0 : Option Addr) (c0_0 : Nat) (l0_0 : List (S113)) (A0_1 : Option Addr) (c0_1 : Nat) (l0_1 : List (S115)) (r : Bool) (w : World) (hr0_0 : Kd.C k113 w A0_0 l0_0.length l0_0) (hc0_0 : l0_0.length ≤ c0_0) (hr0_1 : Kd.C k115 w A0_1 l0_1.length l0_1) (hc0_1 : l0_1.length ≤ c0_1) (h : spec_EntryRight.f k l0_0 l0_1 = some r) :
    Calls Tryz.prog 32 #[.agg #[.slice A0_0 l0_0.length c0_0, .slice A0_1 l0_1.length c0_1]] w fun e w' => e = .returned (.bool r) ∧ Below w.heap.size w w' := by
  have hu37 := Tryz.underlying37
  have HR0_0 := Aside0.mk hr0_0
  have HC0_0 := Aside0.mk hc0_0
  clear hr0_0 hc0_0
  have HR0_1 := Aside0.mk hr0_1
  have HC0_1 := Aside0.mk hc0_1
  clear hr0_1 hc0_1
  have HB := Aside0.mk (Below.refl w.heap.size w)
  have H : (if (l0_0.length : Int) > 0 then ((spec_DnRight.f k l0_0).bind fun t213 => (if t213 = true then ((spec_l03Attrs.f k l0_1).bind fun t214 => (some t214)) else (some false))) else (some false)) = some r := h
  clear h
  by_cases c2 : (l0_0.length : Int) > 0
  · rw [if_pos c2] at H
    have c2b0 : decide (0 < (l0_0.length : Int)) = true := decide_eq_true c2
    have c2b1 : decide (0 < l0_0.length) = true := decide_eq_true (by omega)
    clear c2
    replace H := Option.bind_eq_some_iff.mp H
    obtain ⟨t213, A30, H⟩ := H
    replace H : (if t213 = true then ((spec_l03Attrs.f k l0_1).bind fun t214 => (some t214)) else (some false)) = some r := H
    have A3 := Aside0.mk A30
    clear A30
    by_cases c4 : t213 = true
    · subst c4
      have H1 : ((spec_l03Attrs.f k l0_1).bind fun t214 => (some t214)) = some r := by rw [if_pos rfl] at H; exact H
      clear H
      have H := H1
      clear H1
      replace H := Option.bind_eq_some_iff.mp H
      obtain ⟨t214, A50, H⟩ := H
      replace H : (some t214) = some r := H
      have A5 := Aside0.mk A50
      clear A50
      obtain rfl := Option.some.inj H
      go_enter Tryz.func32, Tryz.ntmps32
      go_wp2_with (first | ((with_reducible refine gate_dst (N := 1) rfl ?_); refine box_event ?hg (N := 1) ?hd (cs := #[.slice A0_0 l0_0.length c0_0, .slice A0_1 l0_1.length c0_1]) (t := 37) ?hr ?_; (case hd => rfl); (case hg => rfl); (case hr => first | (go_simp; done) | (go_simp; rfl)); intro gb212 hg w6 hbox hb; have n0_ := Aside0.mk (below_step By hb); have n1_ := Aside0.mk (hbox); have n2_ := Aside0.mk ((by rw [hg]; exact (below_size By) : w.heap.size ≤ gb212)); have n3_ := Aside0.mk ((by rw [hg]; exact (below_size By) : w.heap.size ≤ gb212)); clear HB; have HB := n0_; have BK212 := n1_; have GW212 := n2_; have GE212 := n3_; clear n0_ n1_ n2_ n3_; clear hb hbox hg; have ⟨hcz7_0, hcz7_1⟩ := cq2 BK212.out; have ⟨hfz7_0, hfz7_1⟩ := fq2 BK212.out) | (go_at_call 66; (with_reducible refine (spec_DnRight.calls k _ _ l0_0 true _ ?side1 ?side2 A3.out).mono ?_); (case side1 => exact rC (Kd.C_below HR0_0.out HB.out)); (case side2 => exact HC0_0.out); rintro e w8 ⟨rfl, hb⟩; have n0_ := Aside0.mk (bb BK212.out hb); have n1_ := Aside0.mk (below_step By hb); clear BK212; clear HB; have BK212 := n0_; have HB := n1_; clear n0_ n1_; (try clear hb); (try clear hb2); (try clear hk); (try clear hi); have ⟨hcz9_0, hcz9_1⟩ := cq2 BK212.out; have ⟨hfz9_0, hfz9_1⟩ := fq2 BK212.out) | (go_at_call 67; (with_reducible refine (spec_l03Attrs.calls k _ _ l0_1 t214 _ ?side1 ?side2 A5.out).mono ?_); (case side1 => exact rC (Kd.C_below HR0_1.out HB.out)); (case side2 => exact HC0_1.out); rintro e w10 ⟨rfl, hb⟩; have n0_ := Aside0.mk (bb BK212.out hb); have n1_ := Aside0.mk (below_step By hb); clear BK212; clear HB; have BK212 := n0_; have HB := n1_; clear n0_ n1_; (try clear hb); (try clear hb2); (try clear hk); (try clear hi)))
      go_ret
      exact ⟨Rf, By⟩
    · replace c4 := Bool.eq_false_iff.mpr c4
      subst c4
      have H1 : (some false) = some r := by rw [if_neg (show ¬ (false = true) by decide)] at H; exact H
      clear H
      have H := H1
      clear H1
      obtain rfl := Option.some.inj H
      go_enter Tryz.func32, Tryz.ntmps32
      go_wp2_with (first | ((with_reducible refine gate_dst (N := 1) rfl ?_); refine box_event ?hg (N := 1) ?hd (cs := #[.slice A0_0 l0_0.length c0_0, .slice A0_1 l0_1.length c0_1]) (t := 37) ?hr ?_; (case hd => rfl); (case hg => rfl); (case hr => first | (go_simp; done) | (go_simp; rfl)); intro gb212 hg w11 hbox hb; have n0_ := Aside0.mk (below_step By hb); have n1_ := Aside0.mk (hbox); have n2_ := Aside0.mk ((by rw [hg]; exact (below_size By) : w.heap.size ≤ gb212)); have n3_ := Aside0.mk ((by rw [hg]; exact (below_size By) : w.heap.size ≤ gb212)); clear HB; have HB := n0_; have BK212 := n1_; have GW212 := n2_; have GE212 := n3_; clear n0_ n1_ n2_ n3_; clear hb hbox hg; have ⟨hcz12_0, hcz12_1⟩ := cq2 BK212.out; have ⟨hfz12_0, hfz12_1⟩ := fq2 BK212.out) | (go_at_call 66; (with_reducible refine (spec_DnRight.calls k _ _ l0_0 false _ ?side1 ?side2 A3.out).mono ?_); (case side1 => exact rC (Kd.C_below HR0_0.out HB.out)); (case side2 => exact HC0_0.out); rintro e w13 ⟨rfl, hb⟩; have n0_ := Aside0.mk (bb BK212.out hb); have n1_ := Aside0.mk (below_step By hb); clear BK212; clear HB; have BK212 := n0_; have HB := n1_; clear n0_ n1_; (try clear hb); (try clear hb2); (try clear hk); (try clear hi)))
      go_ret
      exact ⟨Rf, By⟩
  · rw [if_neg c2] at H
    have c2b0 : decide (0 < (l0_0.length : Int)) = false := decide_eq_false c2
    have c2b1 : decide (0 < l0_0.length) = false := decide_eq_false (by omega)
    clear c2
    obtain rfl := Option.some.inj H
    go_enter Tryz.func32, Tryz.ntmps32
    go_wp2_with (first | ((with_reducible refine gate_dst (N := 1) rfl ?_); refine box_event ?hg (N := 1) ?hd (cs := #[.slice A0_0 l0_0.length c0_0, .slice A0_1 l0_1.length c0_1]) (t := 37) ?hr ?_; (case hd => rfl); (case hg => rfl); (case hr => first | (go_simp; done) | (go_simp; rfl)); intro gb212 hg w14 hbox hb; have n0_ := Aside0.mk (below_step By hb); have n1_ := Aside0.mk (hbox); have n2_ := Aside0.mk ((by rw [hg]; exact (below_size By) : w.heap.size ≤ gb212)); have n3_ := Aside0.mk ((by rw [hg]; exact (below_size By) : w.heap.size ≤ gb212)); clear HB; have HB := n0_; have BK212 := n1_; have GW212 := n2_; have GE212 := n3_; clear n0_ n1_ n2_ n3_; clear hb hbox hg; have ⟨hcz15_0, hcz15_1⟩ := cq2 BK212.out; have ⟨hfz15_0, hfz15_1⟩ := fq2 BK212.out))
    go_ret
    exact ⟨Rf, By⟩

set_option linter.unusedVariables false
set_option linter.unusedSimpArgs false

/-! ### spec_l02Is: function 139 -/
def spec_l02Is.f (a0 : Int) (a1 : Int) (a2 : Int) : Option (Bool) := if a0 ≥ a1 then (some (decide (a0 ≤ a2))) else (some false)
set_option maxHeartbeats 8000000 in
set_option maxRecDepth 100000 in
theorem spec_l02Is.calls (a0 : Int) (a1 : Int) (a2 : Int) (r : Bool) (w : World) (h : spec_l02Is.f a0 a1 a2 = some r) :
    Calls Tryz.prog 139 #[.int .i64 a0, .int .i64 a1, .int .i64 a2] w fun e w' => e = .returned (.bool r) ∧ Drawn0 w w' := by
  have H : (if a0 ≥ a1 then (some (decide (a0 ≤ a2))) else (some false)) = some r := h
  clear h
  by_cases c4 : a0 ≥ a1
  · rw [if_pos c4] at H
    have c4b0 : decide (a1 ≤ a0) = true := decide_eq_true c4
    clear c4
    obtain rfl := Option.some.inj H
    go_enter Tryz.func139, Tryz.ntmps139
    go_wp2
    go_ret
    exact ⟨by first | rfl | (simp; done) | (simp [*]; done), by repeat (first | exact Drawn0.refl _ | apply Drawn0.step)⟩
  · rw [if_neg c4] at H
    have c4b0 : decide (a1 ≤ a0) = false := decide_eq_false c4
    clear c4
    obtain rfl := Option.some.inj H
    go_enter Tryz.func139, Tryz.ntmps139
    go_wp2
    go_ret
    exact ⟨by first | rfl | (simp; done) | (simp [*]; done), by repeat (first | exact Drawn0.refl _ | apply Drawn0.step)⟩

set_option linter.unusedVariables false
set_option linter.unusedSimpArgs false

/-! ### spec_l04Node: function 117 -/
mutual
def spec_l04Node.j0 : Nat → Int → Bool → Int → ByteArray → ByteArray → Int → Option (Bool)
  | 0, _, _, _, _, _, _ => none
  | k + 1, x4, x5, x216000, x216001, x216002, x216003 => if x5 = true then (if x216001.toList = ([] : List UInt8) then (if x216002.toList = ([] : List UInt8) then ((spec_l02Is.f x216003 1 20).bind fun t216 => (some t216)) else (some false)) else (some false)) else (if x4 = 3 then (if x216001.toList = ([] : List UInt8) then (if x216002.toList = ([] : List UInt8) then (some (x216003 == 1)) else (some false)) else (some false)) else (if x4 = 5 then ((spec_NameRight.f k x216001).bind fun t217 => (if t217 = true then (if x216002.toList = ([] : List UInt8) then (some (x216003 == 0)) else (some false)) else (some false))) else (if x4 = 4 then (spec_l04Node.j1 k (x4 == 4) x216000 x216001 x216002 x216003) else (if x4 = 6 then (spec_l04Node.j1 k (x4 == 6) x216000 x216001 x216002 x216003) else (if x4 = 7 then (spec_l04Node.j1 k (x4 == 7) x216000 x216001 x216002 x216003) else (spec_l04Node.j1 k (x4 == 8) x216000 x216001 x216002 x216003))))))
def spec_l04Node.j1 : Nat → Bool → Int → ByteArray → ByteArray → Int → Option (Bool)
  | 0, _, _, _, _, _ => none
  | k + 1, x51, x216000, x216001, x216002, x216003 => if x51 = true then ((spec_NameRight.f k x216001).bind fun t218 => (if t218 = true then ((spec_l02Value.f k x216002).bind fun t219 => (if t219 = true then (some (x216003 == 0)) else (some false))) else (some false))) else (some false)
end
def spec_l04Node.f (k : Nat) (a0_0 : Int) (a0_1 : ByteArray) (a0_2 : ByteArray) (a0_3 : Int) : Option (Bool) := if a0_0 = 1 then (spec_l04Node.j0 k a0_0 (a0_0 == 1) a0_0 a0_1 a0_2 a0_3) else (spec_l04Node.j0 k a0_0 (a0_0 == 2) a0_0 a0_1 a0_2 a0_3)
theorem spec_l04Node.mono_l : ∀ k, (∀ y0 y1 y2 y3 y4 y5, LeO (spec_l04Node.j0 k y0 y1 y2 y3 y4 y5) (spec_l04Node.j0 (k + 1) y0 y1 y2 y3 y4 y5)) ∧ (∀ y0 y1 y2 y3 y4, LeO (spec_l04Node.j1 k y0 y1 y2 y3 y4) (spec_l04Node.j1 (k + 1) y0 y1 y2 y3 y4))
  | 0 => ⟨fun _ _ _ _ _ _ r h => by simp [spec_l04Node.j0] at h, fun _ _ _ _ _ r h => by simp [spec_l04Node.j1] at h⟩
  | k + 1 => by
    obtain ⟨ih0, ih1⟩ := spec_l04Node.mono_l k
    refine ⟨?_, ?_⟩
    · intro y0 y1 y2 y3 y4 y5
      unfold spec_l04Node.j0
      repeat' first
      | (with_reducible exact ih0 _ _ _ _ _ _)
      | (with_reducible exact ih1 _ _ _ _ _)
      | (with_reducible exact spec_NameRight.mono _ _)
      | (with_reducible exact spec_l02Value.mono _ _)
      | (with_reducible exact LeO.refl _)
      | (with_reducible exact LeO.none _)
      | (with_reducible refine LeO.ite ?_ ?_)
      | (with_reducible refine LeO.bind ?_ (fun _ => ?_))
      | exact ih0 _ _ _ _ _ _
      | exact ih1 _ _ _ _ _
      | exact spec_NameRight.mono _ _
      | exact spec_l02Value.mono _ _
      | exact LeO.none _
      | refine LeO.ite ?_ ?_
      | refine LeO.bind ?_ (fun _ => ?_)
    · intro y0 y1 y2 y3 y4
      unfold spec_l04Node.j1
      repeat' first
      | (with_reducible exact ih0 _ _ _ _ _ _)
      | (with_reducible exact ih1 _ _ _ _ _)
      | (with_reducible exact spec_NameRight.mono _ _)
      | (with_reducible exact spec_l02Value.mono _ _)
      | (with_reducible exact LeO.refl _)
      | (with_reducible exact LeO.none _)
      | (with_reducible refine LeO.ite ?_ ?_)
      | (with_reducible refine LeO.bind ?_ (fun _ => ?_))
      | exact ih0 _ _ _ _ _ _
      | exact ih1 _ _ _ _ _
      | exact spec_NameRight.mono _ _
      | exact spec_l02Value.mono _ _
      | exact LeO.none _
      | refine LeO.ite ?_ ?_
      | refine LeO.bind ?_ (fun _ => ?_)
theorem spec_l04Node.mono : ∀ a0 a1 a2 a3 k, LeO (spec_l04Node.f k a0 a1 a2 a3) (spec_l04Node.f (k + 1) a0 a1 a2 a3) := by
  intro a0 a1 a2 a3 k
  obtain ⟨ih0, ih1⟩ := spec_l04Node.mono_l k
  unfold spec_l04Node.f
  repeat' first
      | (with_reducible exact ih0 _ _ _ _ _ _)
      | (with_reducible exact ih1 _ _ _ _ _)
      | (with_reducible exact spec_NameRight.mono _ _)
      | (with_reducible exact spec_l02Value.mono _ _)
      | (with_reducible exact LeO.refl _)
      | (with_reducible exact LeO.none _)
      | (with_reducible refine LeO.ite ?_ ?_)
      | (with_reducible refine LeO.bind ?_ (fun _ => ?_))
      | exact ih0 _ _ _ _ _ _
      | exact ih1 _ _ _ _ _
      | exact spec_NameRight.mono _ _
      | exact spec_l02Value.mono _ _
      | exact LeO.none _
      | refine LeO.ite ?_ ?_
      | refine LeO.bind ?_ (fun _ => ?_)
set_option maxHeartbeats 8000000 in
set_option maxRecDepth 100000 in
theorem spec_l04Node.calls (k : Nat) (a0_0 : Int) (a0_1 : ByteArray) (a0_2 : ByteArray) (a0_3 : Int) (r : Bool) (w : World) (h : spec_l04Node.f k a0_0 a0_1 a0_2 a0_3 = some r) :
    Calls Tryz.prog 117 #[.agg #[.int .i64 a0_0, .string a0_1, .string a0_2, .int .i64 a0_3]] w fun e w' => e = .returned (.bool r) ∧ Below w.heap.size w w' := by
  have hu87 := Tryz.underlying87
  have HB := Aside0.mk (Below.refl w.heap.size w)
  have H : (if a0_0 = 1 then (spec_l04Node.j0 k a0_0 (a0_0 == 1) a0_0 a0_1 a0_2 a0_3) else (spec_l04Node.j0 k a0_0 (a0_0 == 2) a0_0 a0_1 a0_2 a0_3)) = some r := h
  clear h
  have HC2 := Aside0.mk H
  clear H
  go_enter Tryz.func117, Tryz.ntmps117
  go_upto_if 5 with (first | ((with_reducible refine gate_dst (N := 1) rfl ?_); refine box_event ?hg (N := 1) ?hd (cs := #[.int .i64 a0_0, .string a0_1, .string a0_2, .int .i64 a0_3]) (t := 87) ?hr ?_; (case hd => rfl); (case hg => rfl); (case hr => first | (go_simp; done) | (go_simp; rfl)); intro gb215 hg w3 hbox hb; have n0_ := Aside0.mk (below_step By hb); have n1_ := Aside0.mk (hbox); have n2_ := Aside0.mk ((by rw [hg]; exact (below_size By) : w.heap.size ≤ gb215)); have n3_ := Aside0.mk ((by rw [hg]; exact (below_size By) : w.heap.size ≤ gb215)); clear HB; have HB := n0_; have BK215 := n1_; have GW215 := n2_; have GE215 := n3_; clear n0_ n1_ n2_ n3_; clear hb hbox hg; have ⟨hcz4_0, hcz4_1, hcz4_2, hcz4_3⟩ := cq4 BK215.out; have ⟨hfz4_0, hfz4_1, hfz4_2, hfz4_3⟩ := fq4 BK215.out))
  (try simp only [Act.put, List.setIfInBounds_toArray, List.set_cons_zero, List.set_cons_succ])
  go_cut [5] (fun v5 wc => ∃ (kq : Nat) (x5_1 : Bool), v5 = .bool x5_1 ∧ Aside0 (spec_l04Node.j0 kq a0_0 x5_1 a0_0 a0_1 a0_2 a0_3 = some r) ∧ Aside0 (kq ≤ k) ∧ Aside0 (wc.heap[gb215]? = some (.cells #[.int .i64 a0_0, .string a0_1, .string a0_2, .int .i64 a0_3] 87 (0, 0))) ∧ Aside0 (Below w.heap.size w wc))
  case first =>
    have H := HC2.out
    clear HC2
    by_cases c5 : a0_0 = 1
    · rw [if_pos c5] at H
      have c5b0 : (a0_0 == 1) = true := beq_iff_eq.mpr c5
      have c5b1 : (a0_0 != 1) = false := bne_eq_false_iff_eq.mpr c5
      clear c5
      (first | rw [c5b0] | (simp only [i64_w, i32_w]; rw [c5b0]) | skip)
      have H' := Aside0.mk H
      clear H
      go_wp2
      go_meet
      case rel => exact ⟨_, ((a0_0 == 1)), (by first | rfl | (simp; done) | (simp [*]; done)), H', ⟨by first | omega | exact Nat.le_refl _⟩, ⟨by (with_reducible repeat (first | refine blk_drewN ?_ _ | refine blk_drew ?_ | refine blk_alloc ?_ _)); exact BK215.out⟩, ⟨By⟩⟩
    · rw [if_neg c5] at H
      have c5b0 : (a0_0 == 1) = false := beq_eq_false_iff_ne.mpr c5
      have c5b1 : (a0_0 != 1) = true := bne_iff_ne.mpr c5
      (first | rw [c5b0] | (simp only [i64_w, i32_w]; rw [c5b0]) | skip)
      have H' := Aside0.mk H
      clear H
      go_wp2
      go_meet
      case rel => exact ⟨_, ((a0_0 == 2)), (by first | rfl | (simp; done) | (simp [*]; done)), H', ⟨by first | omega | exact Nat.le_refl _⟩, ⟨by (with_reducible repeat (first | refine blk_drewN ?_ _ | refine blk_drew ?_ | refine blk_alloc ?_ _)); exact BK215.out⟩, ⟨By⟩⟩
  case rest =>
    clear HC2
    try clear c1
    try clear p2
    try clear c5
    try clear c5b0
    try clear c5b1
    try clear hcz4_0
    try clear hcz4_1
    try clear hcz4_2
    try clear hcz4_3
    try clear hfz4_0
    try clear hfz4_1
    try clear hfz4_2
    try clear hfz4_3
    obtain ⟨kq, x5_1, rfl, HA, HJ1, BK215, HB⟩ := hcut
    cases kq with
    | zero => exact absurd HA.out (by simp [spec_l04Node.j0])
    | succ kj1 =>
      have H := HA.out
      clear HA
      simp only [spec_l04Node.j0] at H
      by_cases c6 : x5_1 = true
      · subst c6
        have H1 : (if a0_1.toList = ([] : List UInt8) then (if a0_2.toList = ([] : List UInt8) then ((spec_l02Is.f a0_3 1 20).bind fun t216 => (some t216)) else (some false)) else (some false)) = some r := by rw [if_pos rfl] at H; exact H
        clear H
        have H := H1
        clear H1
        by_cases c7 : a0_1.toList = ([] : List UInt8)
        · rw [if_pos c7] at H
          have c7b0 : (a0_1.toList == ([] : List UInt8)) = true := beq_iff_eq.mpr c7
          have c7b1 : (a0_1.toList != ([] : List UInt8)) = false := bne_eq_false_iff_eq.mpr c7
          clear c7
          by_cases c8 : a0_2.toList = ([] : List UInt8)
          · rw [if_pos c8] at H
            have c8b0 : (a0_2.toList == ([] : List UInt8)) = true := beq_iff_eq.mpr c8
            have c8b1 : (a0_2.toList != ([] : List UInt8)) = false := bne_eq_false_iff_eq.mpr c8
            clear c8
            replace H := Option.bind_eq_some_iff.mp H
            obtain ⟨t216, A90, H⟩ := H
            replace H : (some t216) = some r := H
            have A9 := Aside0.mk A90
            clear A90
            obtain rfl := Option.some.inj H
            have hcz10_0 : wc.cell? ⟨gb215, 0, none⟩ = some (.int .i64 a0_0) := bc BK215.out 0
            have hcz10_1 : wc.cell? ⟨gb215, 1, none⟩ = some (.string a0_1) := bc BK215.out 1
            have hcz10_2 : wc.cell? ⟨gb215, 2, none⟩ = some (.string a0_2) := bc BK215.out 2
            have hcz10_3 : wc.cell? ⟨gb215, 3, none⟩ = some (.int .i64 a0_3) := bc BK215.out 3
            have hfz10_0 := blk_frozen BK215.out 0
            have hfz10_1 := blk_frozen BK215.out 1
            have hfz10_2 := blk_frozen BK215.out 2
            have hfz10_3 := blk_frozen BK215.out 3
            go_wp2_with (first | (go_at_call 139; (with_reducible refine (spec_l02Is.calls a0_3 1 20 t216 _ A9.out).mono ?_); rintro e w' ⟨rfl, ⟨nd, rfl⟩⟩))
            go_ret
            exact ⟨Rf, By⟩
          · rw [if_neg c8] at H
            have c8b0 : (a0_2.toList == ([] : List UInt8)) = false := beq_eq_false_iff_ne.mpr c8
            have c8b1 : (a0_2.toList != ([] : List UInt8)) = true := bne_iff_ne.mpr c8
            obtain rfl := Option.some.inj H
            have hcz11_0 : wc.cell? ⟨gb215, 0, none⟩ = some (.int .i64 a0_0) := bc BK215.out 0
            have hcz11_1 : wc.cell? ⟨gb215, 1, none⟩ = some (.string a0_1) := bc BK215.out 1
            have hcz11_2 : wc.cell? ⟨gb215, 2, none⟩ = some (.string a0_2) := bc BK215.out 2
            have hcz11_3 : wc.cell? ⟨gb215, 3, none⟩ = some (.int .i64 a0_3) := bc BK215.out 3
            have hfz11_0 := blk_frozen BK215.out 0
            have hfz11_1 := blk_frozen BK215.out 1
            have hfz11_2 := blk_frozen BK215.out 2
            have hfz11_3 := blk_frozen BK215.out 3
            go_wp2
            go_ret
            exact ⟨Rf, By⟩
        · rw [if_neg c7] at H
          have c7b0 : (a0_1.toList == ([] : List UInt8)) = false := beq_eq_false_iff_ne.mpr c7
          have c7b1 : (a0_1.toList != ([] : List UInt8)) = true := bne_iff_ne.mpr c7
          obtain rfl := Option.some.inj H
          have hcz12_0 : wc.cell? ⟨gb215, 0, none⟩ = some (.int .i64 a0_0) := bc BK215.out 0
          have hcz12_1 : wc.cell? ⟨gb215, 1, none⟩ = some (.string a0_1) := bc BK215.out 1
          have hcz12_2 : wc.cell? ⟨gb215, 2, none⟩ = some (.string a0_2) := bc BK215.out 2
          have hcz12_3 : wc.cell? ⟨gb215, 3, none⟩ = some (.int .i64 a0_3) := bc BK215.out 3
          have hfz12_0 := blk_frozen BK215.out 0
          have hfz12_1 := blk_frozen BK215.out 1
          have hfz12_2 := blk_frozen BK215.out 2
          have hfz12_3 := blk_frozen BK215.out 3
          go_wp2
          go_ret
          exact ⟨Rf, By⟩
      · replace c6 := Bool.eq_false_iff.mpr c6
        subst c6
        have H1 : (if a0_0 = 3 then (if a0_1.toList = ([] : List UInt8) then (if a0_2.toList = ([] : List UInt8) then (some (a0_3 == 1)) else (some false)) else (some false)) else (if a0_0 = 5 then ((spec_NameRight.f kj1 a0_1).bind fun t217 => (if t217 = true then (if a0_2.toList = ([] : List UInt8) then (some (a0_3 == 0)) else (some false)) else (some false))) else (if a0_0 = 4 then (spec_l04Node.j1 kj1 (a0_0 == 4) a0_0 a0_1 a0_2 a0_3) else (if a0_0 = 6 then (spec_l04Node.j1 kj1 (a0_0 == 6) a0_0 a0_1 a0_2 a0_3) else (if a0_0 = 7 then (spec_l04Node.j1 kj1 (a0_0 == 7) a0_0 a0_1 a0_2 a0_3) else (spec_l04Node.j1 kj1 (a0_0 == 8) a0_0 a0_1 a0_2 a0_3)))))) = some r := by rw [if_neg (show ¬ (false = true) by decide)] at H; exact H
        clear H
        have H := H1
        clear H1
        by_cases c13 : a0_0 = 3
        · rw [if_pos c13] at H
          have c13b0 : (a0_0 == 3) = true := beq_iff_eq.mpr c13
          have c13b1 : (a0_0 != 3) = false := bne_eq_false_iff_eq.mpr c13
          clear c13
          by_cases c14 : a0_1.toList = ([] : List UInt8)
          · rw [if_pos c14] at H
            have c14b0 : (a0_1.toList == ([] : List UInt8)) = true := beq_iff_eq.mpr c14
            have c14b1 : (a0_1.toList != ([] : List UInt8)) = false := bne_eq_false_iff_eq.mpr c14
            clear c14
            by_cases c15 : a0_2.toList = ([] : List UInt8)
            · rw [if_pos c15] at H
              have c15b0 : (a0_2.toList == ([] : List UInt8)) = true := beq_iff_eq.mpr c15
              have c15b1 : (a0_2.toList != ([] : List UInt8)) = false := bne_eq_false_iff_eq.mpr c15
              clear c15
              obtain rfl := Option.some.inj H
              have hcz16_0 : wc.cell? ⟨gb215, 0, none⟩ = some (.int .i64 a0_0) := bc BK215.out 0
              have hcz16_1 : wc.cell? ⟨gb215, 1, none⟩ = some (.string a0_1) := bc BK215.out 1
              have hcz16_2 : wc.cell? ⟨gb215, 2, none⟩ = some (.string a0_2) := bc BK215.out 2
              have hcz16_3 : wc.cell? ⟨gb215, 3, none⟩ = some (.int .i64 a0_3) := bc BK215.out 3
              have hfz16_0 := blk_frozen BK215.out 0
              have hfz16_1 := blk_frozen BK215.out 1
              have hfz16_2 := blk_frozen BK215.out 2
              have hfz16_3 := blk_frozen BK215.out 3
              go_wp2
              go_ret
              exact ⟨Rf, By⟩
            · rw [if_neg c15] at H
              have c15b0 : (a0_2.toList == ([] : List UInt8)) = false := beq_eq_false_iff_ne.mpr c15
              have c15b1 : (a0_2.toList != ([] : List UInt8)) = true := bne_iff_ne.mpr c15
              obtain rfl := Option.some.inj H
              have hcz17_0 : wc.cell? ⟨gb215, 0, none⟩ = some (.int .i64 a0_0) := bc BK215.out 0
              have hcz17_1 : wc.cell? ⟨gb215, 1, none⟩ = some (.string a0_1) := bc BK215.out 1
              have hcz17_2 : wc.cell? ⟨gb215, 2, none⟩ = some (.string a0_2) := bc BK215.out 2
              have hcz17_3 : wc.cell? ⟨gb215, 3, none⟩ = some (.int .i64 a0_3) := bc BK215.out 3
              have hfz17_0 := blk_frozen BK215.out 0
              have hfz17_1 := blk_frozen BK215.out 1
              have hfz17_2 := blk_frozen BK215.out 2
              have hfz17_3 := blk_frozen BK215.out 3
              go_wp2
              go_ret
              exact ⟨Rf, By⟩
          · rw [if_neg c14] at H
            have c14b0 : (a0_1.toList == ([] : List UInt8)) = false := beq_eq_false_iff_ne.mpr c14
            have c14b1 : (a0_1.toList != ([] : List UInt8)) = true := bne_iff_ne.mpr c14
            obtain rfl := Option.some.inj H
            have hcz18_0 : wc.cell? ⟨gb215, 0, none⟩ = some (.int .i64 a0_0) := bc BK215.out 0
            have hcz18_1 : wc.cell? ⟨gb215, 1, none⟩ = some (.string a0_1) := bc BK215.out 1
            have hcz18_2 : wc.cell? ⟨gb215, 2, none⟩ = some (.string a0_2) := bc BK215.out 2
            have hcz18_3 : wc.cell? ⟨gb215, 3, none⟩ = some (.int .i64 a0_3) := bc BK215.out 3
            have hfz18_0 := blk_frozen BK215.out 0
            have hfz18_1 := blk_frozen BK215.out 1
            have hfz18_2 := blk_frozen BK215.out 2
            have hfz18_3 := blk_frozen BK215.out 3
            go_wp2
            go_ret
            exact ⟨Rf, By⟩
        · rw [if_neg c13] at H
          have c13b0 : (a0_0 == 3) = false := beq_eq_false_iff_ne.mpr c13
          have c13b1 : (a0_0 != 3) = true := bne_iff_ne.mpr c13
          by_cases c19 : a0_0 = 5
          · rw [if_pos c19] at H
            have c19b0 : (a0_0 == 5) = true := beq_iff_eq.mpr c19
            have c19b1 : (a0_0 != 5) = false := bne_eq_false_iff_eq.mpr c19
            clear c19
            replace H := Option.bind_eq_some_iff.mp H
            obtain ⟨t217, A200, H⟩ := H
            replace H : (if t217 = true then (if a0_2.toList = ([] : List UInt8) then (some (a0_3 == 0)) else (some false)) else (some false)) = some r := H
            have A20 := Aside0.mk A200
            clear A200
            by_cases c21 : t217 = true
            · subst c21
              have H1 : (if a0_2.toList = ([] : List UInt8) then (some (a0_3 == 0)) else (some false)) = some r := by rw [if_pos rfl] at H; exact H
              clear H
              have H := H1
              clear H1
              by_cases c22 : a0_2.toList = ([] : List UInt8)
              · rw [if_pos c22] at H
                have c22b0 : (a0_2.toList == ([] : List UInt8)) = true := beq_iff_eq.mpr c22
                have c22b1 : (a0_2.toList != ([] : List UInt8)) = false := bne_eq_false_iff_eq.mpr c22
                clear c22
                obtain rfl := Option.some.inj H
                have hcz23_0 : wc.cell? ⟨gb215, 0, none⟩ = some (.int .i64 a0_0) := bc BK215.out 0
                have hcz23_1 : wc.cell? ⟨gb215, 1, none⟩ = some (.string a0_1) := bc BK215.out 1
                have hcz23_2 : wc.cell? ⟨gb215, 2, none⟩ = some (.string a0_2) := bc BK215.out 2
                have hcz23_3 : wc.cell? ⟨gb215, 3, none⟩ = some (.int .i64 a0_3) := bc BK215.out 3
                have hfz23_0 := blk_frozen BK215.out 0
                have hfz23_1 := blk_frozen BK215.out 1
                have hfz23_2 := blk_frozen BK215.out 2
                have hfz23_3 := blk_frozen BK215.out 3
                go_wp2_with (first | ((with_reducible refine gate_callee (f := 78) rfl ?_); refine goesL_ (some 40) rfl rfl Tryz.func78 (by kernel_rfl) rfl #[.string a0_1] rfl Ag ?_; (with_reducible refine (spec_NameRight.calls kj1 a0_1 true _ A20.out).mono ?_); rintro e w' ⟨rfl, ⟨nd, rfl⟩⟩; refine ⟨_, rfl, ?_⟩))
                go_ret
                exact ⟨Rf, By⟩
              · rw [if_neg c22] at H
                have c22b0 : (a0_2.toList == ([] : List UInt8)) = false := beq_eq_false_iff_ne.mpr c22
                have c22b1 : (a0_2.toList != ([] : List UInt8)) = true := bne_iff_ne.mpr c22
                obtain rfl := Option.some.inj H
                have hcz24_0 : wc.cell? ⟨gb215, 0, none⟩ = some (.int .i64 a0_0) := bc BK215.out 0
                have hcz24_1 : wc.cell? ⟨gb215, 1, none⟩ = some (.string a0_1) := bc BK215.out 1
                have hcz24_2 : wc.cell? ⟨gb215, 2, none⟩ = some (.string a0_2) := bc BK215.out 2
                have hcz24_3 : wc.cell? ⟨gb215, 3, none⟩ = some (.int .i64 a0_3) := bc BK215.out 3
                have hfz24_0 := blk_frozen BK215.out 0
                have hfz24_1 := blk_frozen BK215.out 1
                have hfz24_2 := blk_frozen BK215.out 2
                have hfz24_3 := blk_frozen BK215.out 3
                go_wp2_with (first | ((with_reducible refine gate_callee (f := 78) rfl ?_); refine goesL_ (some 40) rfl rfl Tryz.func78 (by kernel_rfl) rfl #[.string a0_1] rfl Ag ?_; (with_reducible refine (spec_NameRight.calls kj1 a0_1 true _ A20.out).mono ?_); rintro e w' ⟨rfl, ⟨nd, rfl⟩⟩; refine ⟨_, rfl, ?_⟩))
                go_ret
                exact ⟨Rf, By⟩
            · replace c21 := Bool.eq_false_iff.mpr c21
              subst c21
              have H1 : (some false) = some r := by rw [if_neg (show ¬ (false = true) by decide)] at H; exact H
              clear H
              have H := H1
              clear H1
              obtain rfl := Option.some.inj H
              have hcz25_0 : wc.cell? ⟨gb215, 0, none⟩ = some (.int .i64 a0_0) := bc BK215.out 0
              have hcz25_1 : wc.cell? ⟨gb215, 1, none⟩ = some (.string a0_1) := bc BK215.out 1
              have hcz25_2 : wc.cell? ⟨gb215, 2, none⟩ = some (.string a0_2) := bc BK215.out 2
              have hcz25_3 : wc.cell? ⟨gb215, 3, none⟩ = some (.int .i64 a0_3) := bc BK215.out 3
              have hfz25_0 := blk_frozen BK215.out 0
              have hfz25_1 := blk_frozen BK215.out 1
              have hfz25_2 := blk_frozen BK215.out 2
              have hfz25_3 := blk_frozen BK215.out 3
              go_wp2_with (first | ((with_reducible refine gate_callee (f := 78) rfl ?_); refine goesL_ (some 40) rfl rfl Tryz.func78 (by kernel_rfl) rfl #[.string a0_1] rfl Ag ?_; (with_reducible refine (spec_NameRight.calls kj1 a0_1 false _ A20.out).mono ?_); rintro e w' ⟨rfl, ⟨nd, rfl⟩⟩; refine ⟨_, rfl, ?_⟩))
              go_ret
              exact ⟨Rf, By⟩
          · rw [if_neg c19] at H
            have c19b0 : (a0_0 == 5) = false := beq_eq_false_iff_ne.mpr c19
            have c19b1 : (a0_0 != 5) = true := bne_iff_ne.mpr c19
            have HC26 := Aside0.mk H
            clear H
            go_upto_if 51 with (fail)
            go_cut [51] (fun v51 wc => ∃ (kq : Nat) (x51_25 : Bool), v51 = .bool x51_25 ∧ Aside0 (spec_l04Node.j1 kq x51_25 a0_0 a0_1 a0_2 a0_3 = some r) ∧ Aside0 (kq ≤ kj1) ∧ Aside0 (wc.heap[gb215]? = some (.cells #[.int .i64 a0_0, .string a0_1, .string a0_2, .int .i64 a0_3] 87 (0, 0))) ∧ Aside0 (Below w.heap.size w wc))
            case first =>
              have H := HC26.out
              clear HC26
              by_cases c27 : a0_0 = 4
              · rw [if_pos c27] at H
                have c27b0 : (a0_0 == 4) = true := beq_iff_eq.mpr c27
                have c27b1 : (a0_0 != 4) = false := bne_eq_false_iff_eq.mpr c27
                clear c27
                (first | rw [c27b0] | (simp only [i64_w, i32_w]; rw [c27b0]) | skip)
                have H' := Aside0.mk H
                clear H
                go_wp2
                go_meet
                case rel => exact ⟨_, ((a0_0 == 4)), (by first | rfl | (simp; done) | (simp [*]; done)), H', ⟨by have := HJ1.out; first | omega | exact Nat.le_refl _⟩, ⟨by (with_reducible repeat (first | refine blk_drewN ?_ _ | refine blk_drew ?_ | refine blk_alloc ?_ _)); exact BK215.out⟩, ⟨By⟩⟩
              · rw [if_neg c27] at H
                have c27b0 : (a0_0 == 4) = false := beq_eq_false_iff_ne.mpr c27
                have c27b1 : (a0_0 != 4) = true := bne_iff_ne.mpr c27
                (first | rw [c27b0] | (simp only [i64_w, i32_w]; rw [c27b0]) | skip)
                by_cases c28 : a0_0 = 6
                · rw [if_pos c28] at H
                  have c28b0 : (a0_0 == 6) = true := beq_iff_eq.mpr c28
                  have c28b1 : (a0_0 != 6) = false := bne_eq_false_iff_eq.mpr c28
                  clear c28
                  have H' := Aside0.mk H
                  clear H
                  go_wp2
                  go_meet
                  case rel => exact ⟨_, ((a0_0 == 6)), (by first | rfl | (simp; done) | (simp [*]; done)), H', ⟨by have := HJ1.out; first | omega | exact Nat.le_refl _⟩, ⟨by (with_reducible repeat (first | refine blk_drewN ?_ _ | refine blk_drew ?_ | refine blk_alloc ?_ _)); exact BK215.out⟩, ⟨By⟩⟩
                · rw [if_neg c28] at H
                  have c28b0 : (a0_0 == 6) = false := beq_eq_false_iff_ne.mpr c28
                  have c28b1 : (a0_0 != 6) = true := bne_iff_ne.mpr c28
                  by_cases c29 : a0_0 = 7
                  · rw [if_pos c29] at H
                    have c29b0 : (a0_0 == 7) = true := beq_iff_eq.mpr c29
                    have c29b1 : (a0_0 != 7) = false := bne_eq_false_iff_eq.mpr c29
                    clear c29
                    have H' := Aside0.mk H
                    clear H
                    go_wp2
                    go_meet
                    case rel => exact ⟨_, ((a0_0 == 7)), (by first | rfl | (simp; done) | (simp [*]; done)), H', ⟨by have := HJ1.out; first | omega | exact Nat.le_refl _⟩, ⟨by (with_reducible repeat (first | refine blk_drewN ?_ _ | refine blk_drew ?_ | refine blk_alloc ?_ _)); exact BK215.out⟩, ⟨By⟩⟩
                  · rw [if_neg c29] at H
                    have c29b0 : (a0_0 == 7) = false := beq_eq_false_iff_ne.mpr c29
                    have c29b1 : (a0_0 != 7) = true := bne_iff_ne.mpr c29
                    have H' := Aside0.mk H
                    clear H
                    go_wp2
                    go_meet
                    case rel => exact ⟨_, ((a0_0 == 8)), (by first | rfl | (simp; done) | (simp [*]; done)), H', ⟨by have := HJ1.out; first | omega | exact Nat.le_refl _⟩, ⟨by (with_reducible repeat (first | refine blk_drewN ?_ _ | refine blk_drew ?_ | refine blk_alloc ?_ _)); exact BK215.out⟩, ⟨By⟩⟩
            case rest =>
              clear HC26
              try clear c1
              try clear c2
              try clear p2
              try clear c5
              try clear c5b0
              try clear c5b1
              try clear c6
              try clear c7
              try clear c7b0
              try clear c7b1
              try clear c8
              try clear c8b0
              try clear c8b1
              try clear c11
              try clear c13
              try clear c13b0
              try clear c13b1
              try clear c14
              try clear c14b0
              try clear c14b1
              try clear c15
              try clear c15b0
              try clear c15b1
              try clear c19
              try clear c19b0
              try clear c19b1
              try clear c21
              try clear c22
              try clear c22b0
              try clear c22b1
              try clear c27
              try clear c27b0
              try clear c27b1
              try clear c28
              try clear c28b0
              try clear c28b1
              try clear c29
              try clear c29b0
              try clear c29b1
              try clear hcz10_0
              try clear hcz10_1
              try clear hcz10_2
              try clear hcz10_3
              try clear hcz11_0
              try clear hcz11_1
              try clear hcz11_2
              try clear hcz11_3
              try clear hcz12_0
              try clear hcz12_1
              try clear hcz12_2
              try clear hcz12_3
              try clear hcz16_0
              try clear hcz16_1
              try clear hcz16_2
              try clear hcz16_3
              try clear hcz17_0
              try clear hcz17_1
              try clear hcz17_2
              try clear hcz17_3
              try clear hcz18_0
              try clear hcz18_1
              try clear hcz18_2
              try clear hcz18_3
              try clear hcz23_0
              try clear hcz23_1
              try clear hcz23_2
              try clear hcz23_3
              try clear hcz24_0
              try clear hcz24_1
              try clear hcz24_2
              try clear hcz24_3
              try clear hcz25_0
              try clear hcz25_1
              try clear hcz25_2
              try clear hcz25_3
              try clear hcz4_0
              try clear hcz4_1
              try clear hcz4_2
              try clear hcz4_3
              try clear hfz10_0
              try clear hfz10_1
              try clear hfz10_2
              try clear hfz10_3
              try clear hfz11_0
              try clear hfz11_1
              try clear hfz11_2
              try clear hfz11_3
              try clear hfz12_0
              try clear hfz12_1
              try clear hfz12_2
              try clear hfz12_3
              try clear hfz16_0
              try clear hfz16_1
              try clear hfz16_2
              try clear hfz16_3
              try clear hfz17_0
              try clear hfz17_1
              try clear hfz17_2
              try clear hfz17_3
              try clear hfz18_0
              try clear hfz18_1
              try clear hfz18_2
              try clear hfz18_3
              try clear hfz23_0
              try clear hfz23_1
              try clear hfz23_2
              try clear hfz23_3
              try clear hfz24_0
              try clear hfz24_1
              try clear hfz24_2
              try clear hfz24_3
              try clear hfz25_0
              try clear hfz25_1
              try clear hfz25_2
              try clear hfz25_3
              try clear hfz4_0
              try clear hfz4_1
              try clear hfz4_2
              try clear hfz4_3
              try clear p2
              obtain ⟨kq, x51_25, rfl, HA, HJ25, BK215, HB⟩ := hcut
              cases kq with
              | zero => exact absurd HA.out (by simp [spec_l04Node.j1])
              | succ kj25 =>
                have H := HA.out
                clear HA
                simp only [spec_l04Node.j1] at H
                by_cases c30 : x51_25 = true
                · subst c30
                  have H1 : ((spec_NameRight.f kj25 a0_1).bind fun t218 => (if t218 = true then ((spec_l02Value.f kj25 a0_2).bind fun t219 => (if t219 = true then (some (a0_3 == 0)) else (some false))) else (some false))) = some r := by rw [if_pos rfl] at H; exact H
                  clear H
                  have H := H1
                  clear H1
                  replace H := Option.bind_eq_some_iff.mp H
                  obtain ⟨t218, A310, H⟩ := H
                  replace H : (if t218 = true then ((spec_l02Value.f kj25 a0_2).bind fun t219 => (if t219 = true then (some (a0_3 == 0)) else (some false))) else (some false)) = some r := H
                  have A31 := Aside0.mk A310
                  clear A310
                  by_cases c32 : t218 = true
                  · subst c32
                    have H1 : ((spec_l02Value.f kj25 a0_2).bind fun t219 => (if t219 = true then (some (a0_3 == 0)) else (some false))) = some r := by rw [if_pos rfl] at H; exact H
                    clear H
                    have H := H1
                    clear H1
                    replace H := Option.bind_eq_some_iff.mp H
                    obtain ⟨t219, A330, H⟩ := H
                    replace H : (if t219 = true then (some (a0_3 == 0)) else (some false)) = some r := H
                    have A33 := Aside0.mk A330
                    clear A330
                    by_cases c34 : t219 = true
                    · subst c34
                      have H1 : (some (a0_3 == 0)) = some r := by rw [if_pos rfl] at H; exact H
                      clear H
                      have H := H1
                      clear H1
                      obtain rfl := Option.some.inj H
                      have hcz35_0 : wc.cell? ⟨gb215, 0, none⟩ = some (.int .i64 a0_0) := bc BK215.out 0
                      have hcz35_1 : wc.cell? ⟨gb215, 1, none⟩ = some (.string a0_1) := bc BK215.out 1
                      have hcz35_2 : wc.cell? ⟨gb215, 2, none⟩ = some (.string a0_2) := bc BK215.out 2
                      have hcz35_3 : wc.cell? ⟨gb215, 3, none⟩ = some (.int .i64 a0_3) := bc BK215.out 3
                      have hfz35_0 := blk_frozen BK215.out 0
                      have hfz35_1 := blk_frozen BK215.out 1
                      have hfz35_2 := blk_frozen BK215.out 2
                      have hfz35_3 := blk_frozen BK215.out 3
                      go_wp2_with (first | ((with_reducible refine gate_callee (f := 78) rfl ?_); refine goesL_ (some 58) rfl rfl Tryz.func78 (by kernel_rfl) rfl #[.string a0_1] rfl Ag ?_; (with_reducible refine (spec_NameRight.calls kj25 a0_1 true _ A31.out).mono ?_); rintro e w' ⟨rfl, ⟨nd, rfl⟩⟩; refine ⟨_, rfl, ?_⟩) | (go_at_call 101; (with_reducible refine (spec_l02Value.calls kj25 a0_2 true _ A33.out).mono ?_); rintro e w36 ⟨rfl, hb⟩; have n0_ := Aside0.mk (bb BK215.out hb); have n1_ := Aside0.mk (below_step By hb); clear BK215; clear HB; have BK215 := n0_; have HB := n1_; clear n0_ n1_; (try clear hb); (try clear hb2); (try clear hk); (try clear hi); have ⟨hcz37_0, hcz37_1, hcz37_2, hcz37_3⟩ := cq4 BK215.out; have ⟨hfz37_0, hfz37_1, hfz37_2, hfz37_3⟩ := fq4 BK215.out))
                      go_ret
                      exact ⟨Rf, By⟩
                    · replace c34 := Bool.eq_false_iff.mpr c34
                      subst c34
                      have H1 : (some false) = some r := by rw [if_neg (show ¬ (false = true) by decide)] at H; exact H
                      clear H
                      have H := H1
                      clear H1
                      obtain rfl := Option.some.inj H
                      have hcz38_0 : wc.cell? ⟨gb215, 0, none⟩ = some (.int .i64 a0_0) := bc BK215.out 0
                      have hcz38_1 : wc.cell? ⟨gb215, 1, none⟩ = some (.string a0_1) := bc BK215.out 1
                      have hcz38_2 : wc.cell? ⟨gb215, 2, none⟩ = some (.string a0_2) := bc BK215.out 2
                      have hcz38_3 : wc.cell? ⟨gb215, 3, none⟩ = some (.int .i64 a0_3) := bc BK215.out 3
                      have hfz38_0 := blk_frozen BK215.out 0
                      have hfz38_1 := blk_frozen BK215.out 1
                      have hfz38_2 := blk_frozen BK215.out 2
                      have hfz38_3 := blk_frozen BK215.out 3
                      go_wp2_with (first | ((with_reducible refine gate_callee (f := 78) rfl ?_); refine goesL_ (some 58) rfl rfl Tryz.func78 (by kernel_rfl) rfl #[.string a0_1] rfl Ag ?_; (with_reducible refine (spec_NameRight.calls kj25 a0_1 true _ A31.out).mono ?_); rintro e w' ⟨rfl, ⟨nd, rfl⟩⟩; refine ⟨_, rfl, ?_⟩) | (go_at_call 101; (with_reducible refine (spec_l02Value.calls kj25 a0_2 false _ A33.out).mono ?_); rintro e w39 ⟨rfl, hb⟩; have n0_ := Aside0.mk (bb BK215.out hb); have n1_ := Aside0.mk (below_step By hb); clear BK215; clear HB; have BK215 := n0_; have HB := n1_; clear n0_ n1_; (try clear hb); (try clear hb2); (try clear hk); (try clear hi)))
                      go_ret
                      exact ⟨Rf, By⟩
                  · replace c32 := Bool.eq_false_iff.mpr c32
                    subst c32
                    have H1 : (some false) = some r := by rw [if_neg (show ¬ (false = true) by decide)] at H; exact H
                    clear H
                    have H := H1
                    clear H1
                    obtain rfl := Option.some.inj H
                    have hcz40_0 : wc.cell? ⟨gb215, 0, none⟩ = some (.int .i64 a0_0) := bc BK215.out 0
                    have hcz40_1 : wc.cell? ⟨gb215, 1, none⟩ = some (.string a0_1) := bc BK215.out 1
                    have hcz40_2 : wc.cell? ⟨gb215, 2, none⟩ = some (.string a0_2) := bc BK215.out 2
                    have hcz40_3 : wc.cell? ⟨gb215, 3, none⟩ = some (.int .i64 a0_3) := bc BK215.out 3
                    have hfz40_0 := blk_frozen BK215.out 0
                    have hfz40_1 := blk_frozen BK215.out 1
                    have hfz40_2 := blk_frozen BK215.out 2
                    have hfz40_3 := blk_frozen BK215.out 3
                    go_wp2_with (first | ((with_reducible refine gate_callee (f := 78) rfl ?_); refine goesL_ (some 58) rfl rfl Tryz.func78 (by kernel_rfl) rfl #[.string a0_1] rfl Ag ?_; (with_reducible refine (spec_NameRight.calls kj25 a0_1 false _ A31.out).mono ?_); rintro e w' ⟨rfl, ⟨nd, rfl⟩⟩; refine ⟨_, rfl, ?_⟩))
                    go_ret
                    exact ⟨Rf, By⟩
                · replace c30 := Bool.eq_false_iff.mpr c30
                  subst c30
                  have H1 : (some false) = some r := by rw [if_neg (show ¬ (false = true) by decide)] at H; exact H
                  clear H
                  have H := H1
                  clear H1
                  obtain rfl := Option.some.inj H
                  go_wp2
                  go_ret
                  exact ⟨Rf, By⟩

end Go.Proofs.YtpocoeghobdfiaaGreatDoor.PG
