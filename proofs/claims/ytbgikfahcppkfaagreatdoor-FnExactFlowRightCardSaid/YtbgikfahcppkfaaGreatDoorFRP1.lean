/-
  Functions that the law reaches, each as a plain Lean function, with the proof that the call comes to it (written by a program of this session by way of the kit's print program). Conditions: what each contract states.
-/
import Derived.Test.YtbgikfahcppkfaaGreatDoorProg
import Derived.Below
import Derived.Deep.Draws
import Derived.Deep.AppendLies
import Derived.Maps.AppendAt
import Derived.OwnWalk
import Derived.Laws.BytesArg
import Derived.Laws.MakeOwn
import Derived.Laws.OwnMore
import Derived.Deep.OwnRows
import Derived.Tactics
import Derived.Lib.ConvBytes
import Derived.Laws.Slices
import Derived.WalkKit
import Derived.KernelRfl
import Derived.RowKit3
import Derived.Deep.LoopGhost
import Derived.Deep.QuietTactic
import Derived.BigQuiet
import Derived.WideLaws
import Derived.Deep.DeepCutAuto
import Derived.Deep.CutBlock
import Derived.Deep.RegionHeld3
import Derived.Laws.Rows
import Derived.Lib.AppendStr
import Derived.ArgAppend
import Derived.Laws.IdiomCopy
import Derived.OrdersHeld
import Derived.Laws.BitsLemmas
import Derived.RowKit
import Derived.Test.YtbgikfahcppkfaaGreatDoorFRWords
import Derived.Test.YtbgikfahcppkfaaGreatDoorFRSq
namespace Go.Proofs.YtbgikfahcppkfaaGreatDoor.PG
open Go.Proofs.YtbgikfahcppkfaaGreatDoor.Sq Go.RowKit Go.Proofs.YtbgikfahcppkfaaGreatDoorW.PrintWords Go.Proofs.YtbgikfahcppkfaaGreatDoorW.PrintLast Go.Proofs.YtbgikfahcppkfaaGreatDoorW.PrintMore
attribute [local go_sem] max2_int min2_int max_two min_two max_three min_three max_four min_four   -- for this text's walks alone
set_option linter.unusedVariables false
set_option linter.unusedSimpArgs false



def errW : Option Int → Value
  | none => .nilIface
  | some c => .iface 0 (.int .i64 c)
theorem errW_none : errW none = .nilIface := rfl
theorem errW_some (c : Int) : errW (some c) = .iface 0 (.int .i64 c) := rfl

theorem info5 : (Tryz.prog.info? 5).map (fun i => (i.zero, i.size, i.bytes)) = some (some (.int .u8 0), 1, 1) := by kernel_rfl
theorem info9 : (Tryz.prog.info? 9).map (fun i => (i.zero, i.size, i.bytes)) = some (some (.string ⟨#[]⟩), 1, 16) := by kernel_rfl
theorem info70 : (Tryz.prog.info? 70).map (fun i => (i.zero, i.size, i.bytes)) = some (some (.slice none 0 0), 1, 24) := by kernel_rfl
theorem info126 : (Tryz.prog.info? 126).map (fun i => (i.zero, i.size, i.bytes)) = some (some (.agg #[(.string ⟨#[]⟩), (.string ⟨#[]⟩)]), 2, 32) := by kernel_rfl
theorem info155 : (Tryz.prog.info? 155).map (fun i => (i.zero, i.size, i.bytes)) = some (some (.agg #[(.int .i64 0), (.string ⟨#[]⟩), (.string ⟨#[]⟩), (.int .i64 0)]), 4, 48) := by kernel_rfl
theorem info156 : (Tryz.prog.info? 156).map (fun i => (i.zero, i.size, i.bytes)) = some (some (.agg #[(.int .i64 0), (.string ⟨#[]⟩), (.int .i64 0)]), 3, 32) := by kernel_rfl
-- the values' own types
/-! #### struct type 117 -/
structure S117 where
  f0 : ByteArray
  f1 : ByteArray
def z117 : S117 := ⟨(⟨#[]⟩ : ByteArray), (⟨#[]⟩ : ByteArray)⟩
def k117 : Kd S117 := Kd.iso (Kd.pair Kd.string Kd.string) (fun x : S117 => (x.f0, x.f1))
theorem k117_open {w : World} {x : S117} {cs : List Value} (h : k117.K w x cs) : cs = [.string x.f0, .string x.f1] := by
  obtain ⟨_, _, rfl, rfl, rfl⟩ := h; exact rfl
theorem k117_openM {w : World} {base : Nat} {ok : Nat → Prop} {x : S117} {cs : List Value} (h : k117.M w base ok x cs) : cs = [.string x.f0, .string x.f1] := by
  obtain ⟨_, _, rfl, rfl, rfl⟩ := h; exact rfl
theorem k117_mk (w : World) (x : S117)  : k117.K w x [.string x.f0, .string x.f1] := ⟨[.string x.f0], [.string x.f1], rfl, rfl, rfl⟩
theorem k117_mkM (w : World) (base : Nat) (ok : Nat → Prop) (x : S117)  : k117.M w base ok x [.string x.f0, .string x.f1] := ⟨[.string x.f0], [.string x.f1], rfl, rfl, rfl⟩
theorem k117_mkF (W : World) (ok : Nat → Prop) (x : S117) : Kd.FK k117 W ok x [.string x.f0, .string x.f1] := fun W2 _ => k117_mk W2 x
def rd_T117 (xs : List S117) (i : Int) : S117 := xs.getD i.toNat z117
theorem at_T117 {w : World} {A : Option Addr} {n : Nat} {xs : List S117} (h : Kd.C k117 w A n xs) (i : Int) (h0 : 0 ≤ i) (h1 : i < n) : ∃ ad , A = some ad ∧ w.cell? (ad.add (i.toNat * 2)) = some (.string (rd_T117 xs i).f0) ∧ w.cell? ⟨(ad.add (i.toNat * 2)).block, (ad.add (i.toNat * 2)).off + 1, none⟩ = some (.string (rd_T117 xs i).f1) := by
  obtain ⟨ad, c, e, _, hK, hc0⟩ := Kd.C_get h z117 i h0 h1; have hc : ∀ j u, c[j]? = some u → w.cell? (ad.add (i.toNat * 2 + j)) = some u := hc0; obtain rfl := k117_open hK; exact ⟨ad, e, hc 0 _ rfl, by rw [← add_field _ _ 1 (by omega)]; exact hc 1 _ rfl⟩

/-! #### struct type 148 -/
structure S148 where
  f0 : Int
  f1 : ByteArray
  f2 : ByteArray
  f3 : Int
def z148 : S148 := ⟨(0 : Int), (⟨#[]⟩ : ByteArray), (⟨#[]⟩ : ByteArray), (0 : Int)⟩
def k148 : Kd S148 := Kd.iso (Kd.pair (Kd.int .i64) (Kd.pair Kd.string (Kd.pair Kd.string (Kd.int .i64)))) (fun x : S148 => (x.f0, x.f1, x.f2, x.f3))
theorem k148_open {w : World} {x : S148} {cs : List Value} (h : k148.K w x cs) : cs = [.int .i64 x.f0, .string x.f1, .string x.f2, .int .i64 x.f3] := by
  obtain ⟨_, _, rfl, rfl, ⟨_, _, rfl, rfl, ⟨_, _, rfl, rfl, rfl⟩⟩⟩ := h; exact rfl
theorem k148_openM {w : World} {base : Nat} {ok : Nat → Prop} {x : S148} {cs : List Value} (h : k148.M w base ok x cs) : cs = [.int .i64 x.f0, .string x.f1, .string x.f2, .int .i64 x.f3] := by
  obtain ⟨_, _, rfl, rfl, ⟨_, _, rfl, rfl, ⟨_, _, rfl, rfl, rfl⟩⟩⟩ := h; exact rfl
theorem k148_mk (w : World) (x : S148)  : k148.K w x [.int .i64 x.f0, .string x.f1, .string x.f2, .int .i64 x.f3] := ⟨[.int .i64 x.f0], [.string x.f1, .string x.f2, .int .i64 x.f3], rfl, rfl, ⟨[.string x.f1], [.string x.f2, .int .i64 x.f3], rfl, rfl, ⟨[.string x.f2], [.int .i64 x.f3], rfl, rfl, rfl⟩⟩⟩
theorem k148_mkM (w : World) (base : Nat) (ok : Nat → Prop) (x : S148)  : k148.M w base ok x [.int .i64 x.f0, .string x.f1, .string x.f2, .int .i64 x.f3] := ⟨[.int .i64 x.f0], [.string x.f1, .string x.f2, .int .i64 x.f3], rfl, rfl, ⟨[.string x.f1], [.string x.f2, .int .i64 x.f3], rfl, rfl, ⟨[.string x.f2], [.int .i64 x.f3], rfl, rfl, rfl⟩⟩⟩
theorem k148_mkF (W : World) (ok : Nat → Prop) (x : S148) : Kd.FK k148 W ok x [.int .i64 x.f0, .string x.f1, .string x.f2, .int .i64 x.f3] := fun W2 _ => k148_mk W2 x
def rd_T148 (xs : List S148) (i : Int) : S148 := xs.getD i.toNat z148
theorem at_T148 {w : World} {A : Option Addr} {n : Nat} {xs : List S148} (h : Kd.C k148 w A n xs) (i : Int) (h0 : 0 ≤ i) (h1 : i < n) : ∃ ad , A = some ad ∧ w.cell? (ad.add (i.toNat * 4)) = some (.int .i64 (rd_T148 xs i).f0) ∧ w.cell? ⟨(ad.add (i.toNat * 4)).block, (ad.add (i.toNat * 4)).off + 1, none⟩ = some (.string (rd_T148 xs i).f1) ∧ w.cell? ⟨(ad.add (i.toNat * 4)).block, (ad.add (i.toNat * 4)).off + 2, none⟩ = some (.string (rd_T148 xs i).f2) ∧ w.cell? ⟨(ad.add (i.toNat * 4)).block, (ad.add (i.toNat * 4)).off + 3, none⟩ = some (.int .i64 (rd_T148 xs i).f3) := by
  obtain ⟨ad, c, e, _, hK, hc0⟩ := Kd.C_get h z148 i h0 h1; have hc : ∀ j u, c[j]? = some u → w.cell? (ad.add (i.toNat * 4 + j)) = some u := hc0; obtain rfl := k148_open hK; exact ⟨ad, e, hc 0 _ rfl, by rw [← add_field _ _ 1 (by omega)]; exact hc 1 _ rfl, by rw [← add_field _ _ 2 (by omega)]; exact hc 2 _ rfl, by rw [← add_field _ _ 3 (by omega)]; exact hc 3 _ rfl⟩

/-! #### struct type 151 -/
structure S151 where
  f0 : Int
  f1 : ByteArray
  f2 : Int
def z151 : S151 := ⟨(0 : Int), (⟨#[]⟩ : ByteArray), (0 : Int)⟩
def k151 : Kd S151 := Kd.iso (Kd.pair (Kd.int .i64) (Kd.pair Kd.string (Kd.int .i64))) (fun x : S151 => (x.f0, x.f1, x.f2))
theorem k151_open {w : World} {x : S151} {cs : List Value} (h : k151.K w x cs) : cs = [.int .i64 x.f0, .string x.f1, .int .i64 x.f2] := by
  obtain ⟨_, _, rfl, rfl, ⟨_, _, rfl, rfl, rfl⟩⟩ := h; exact rfl
theorem k151_openM {w : World} {base : Nat} {ok : Nat → Prop} {x : S151} {cs : List Value} (h : k151.M w base ok x cs) : cs = [.int .i64 x.f0, .string x.f1, .int .i64 x.f2] := by
  obtain ⟨_, _, rfl, rfl, ⟨_, _, rfl, rfl, rfl⟩⟩ := h; exact rfl
theorem k151_mk (w : World) (x : S151)  : k151.K w x [.int .i64 x.f0, .string x.f1, .int .i64 x.f2] := ⟨[.int .i64 x.f0], [.string x.f1, .int .i64 x.f2], rfl, rfl, ⟨[.string x.f1], [.int .i64 x.f2], rfl, rfl, rfl⟩⟩
theorem k151_mkM (w : World) (base : Nat) (ok : Nat → Prop) (x : S151)  : k151.M w base ok x [.int .i64 x.f0, .string x.f1, .int .i64 x.f2] := ⟨[.int .i64 x.f0], [.string x.f1, .int .i64 x.f2], rfl, rfl, ⟨[.string x.f1], [.int .i64 x.f2], rfl, rfl, rfl⟩⟩
theorem k151_mkF (W : World) (ok : Nat → Prop) (x : S151) : Kd.FK k151 W ok x [.int .i64 x.f0, .string x.f1, .int .i64 x.f2] := fun W2 _ => k151_mk W2 x
def rd_T151 (xs : List S151) (i : Int) : S151 := xs.getD i.toNat z151
theorem at_T151 {w : World} {A : Option Addr} {n : Nat} {xs : List S151} (h : Kd.C k151 w A n xs) (i : Int) (h0 : 0 ≤ i) (h1 : i < n) : ∃ ad , A = some ad ∧ w.cell? (ad.add (i.toNat * 3)) = some (.int .i64 (rd_T151 xs i).f0) ∧ w.cell? ⟨(ad.add (i.toNat * 3)).block, (ad.add (i.toNat * 3)).off + 1, none⟩ = some (.string (rd_T151 xs i).f1) ∧ w.cell? ⟨(ad.add (i.toNat * 3)).block, (ad.add (i.toNat * 3)).off + 2, none⟩ = some (.int .i64 (rd_T151 xs i).f2) := by
  obtain ⟨ad, c, e, _, hK, hc0⟩ := Kd.C_get h z151 i h0 h1; have hc : ∀ j u, c[j]? = some u → w.cell? (ad.add (i.toNat * 3 + j)) = some u := hc0; obtain rfl := k151_open hK; exact ⟨ad, e, hc 0 _ rfl, by rw [← add_field _ _ 1 (by omega)]; exact hc 1 _ rfl, by rw [← add_field _ _ 2 (by omega)]; exact hc 2 _ rfl⟩

/-! #### struct type 126 -/
structure S126 where
  f0 : ByteArray
  f1 : ByteArray
def z126 : S126 := ⟨(⟨#[]⟩ : ByteArray), (⟨#[]⟩ : ByteArray)⟩
def k126 : Kd S126 := Kd.iso (Kd.pair Kd.string Kd.string) (fun x : S126 => (x.f0, x.f1))
theorem k126_open {w : World} {x : S126} {cs : List Value} (h : k126.K w x cs) : cs = [.string x.f0, .string x.f1] := by
  obtain ⟨_, _, rfl, rfl, rfl⟩ := h; exact rfl
theorem k126_openM {w : World} {base : Nat} {ok : Nat → Prop} {x : S126} {cs : List Value} (h : k126.M w base ok x cs) : cs = [.string x.f0, .string x.f1] := by
  obtain ⟨_, _, rfl, rfl, rfl⟩ := h; exact rfl
theorem k126_mk (w : World) (x : S126)  : k126.K w x [.string x.f0, .string x.f1] := ⟨[.string x.f0], [.string x.f1], rfl, rfl, rfl⟩
theorem k126_mkM (w : World) (base : Nat) (ok : Nat → Prop) (x : S126)  : k126.M w base ok x [.string x.f0, .string x.f1] := ⟨[.string x.f0], [.string x.f1], rfl, rfl, rfl⟩
theorem k126_mkF (W : World) (ok : Nat → Prop) (x : S126) : Kd.FK k126 W ok x [.string x.f0, .string x.f1] := fun W2 _ => k126_mk W2 x
def rd_T126 (xs : List S126) (i : Int) : S126 := xs.getD i.toNat z126
theorem at_T126 {w : World} {A : Option Addr} {n : Nat} {xs : List S126} (h : Kd.C k126 w A n xs) (i : Int) (h0 : 0 ≤ i) (h1 : i < n) : ∃ ad , A = some ad ∧ w.cell? (ad.add (i.toNat * 2)) = some (.string (rd_T126 xs i).f0) ∧ w.cell? ⟨(ad.add (i.toNat * 2)).block, (ad.add (i.toNat * 2)).off + 1, none⟩ = some (.string (rd_T126 xs i).f1) := by
  obtain ⟨ad, c, e, _, hK, hc0⟩ := Kd.C_get h z126 i h0 h1; have hc : ∀ j u, c[j]? = some u → w.cell? (ad.add (i.toNat * 2 + j)) = some u := hc0; obtain rfl := k126_open hK; exact ⟨ad, e, hc 0 _ rfl, by rw [← add_field _ _ 1 (by omega)]; exact hc 1 _ rfl⟩

/-! #### struct type 155 -/
structure S155 where
  f0 : Int
  f1 : ByteArray
  f2 : ByteArray
  f3 : Int
def z155 : S155 := ⟨(0 : Int), (⟨#[]⟩ : ByteArray), (⟨#[]⟩ : ByteArray), (0 : Int)⟩
def k155 : Kd S155 := Kd.iso (Kd.pair (Kd.int .i64) (Kd.pair Kd.string (Kd.pair Kd.string (Kd.int .i64)))) (fun x : S155 => (x.f0, x.f1, x.f2, x.f3))
theorem k155_open {w : World} {x : S155} {cs : List Value} (h : k155.K w x cs) : cs = [.int .i64 x.f0, .string x.f1, .string x.f2, .int .i64 x.f3] := by
  obtain ⟨_, _, rfl, rfl, ⟨_, _, rfl, rfl, ⟨_, _, rfl, rfl, rfl⟩⟩⟩ := h; exact rfl
theorem k155_openM {w : World} {base : Nat} {ok : Nat → Prop} {x : S155} {cs : List Value} (h : k155.M w base ok x cs) : cs = [.int .i64 x.f0, .string x.f1, .string x.f2, .int .i64 x.f3] := by
  obtain ⟨_, _, rfl, rfl, ⟨_, _, rfl, rfl, ⟨_, _, rfl, rfl, rfl⟩⟩⟩ := h; exact rfl
theorem k155_mk (w : World) (x : S155)  : k155.K w x [.int .i64 x.f0, .string x.f1, .string x.f2, .int .i64 x.f3] := ⟨[.int .i64 x.f0], [.string x.f1, .string x.f2, .int .i64 x.f3], rfl, rfl, ⟨[.string x.f1], [.string x.f2, .int .i64 x.f3], rfl, rfl, ⟨[.string x.f2], [.int .i64 x.f3], rfl, rfl, rfl⟩⟩⟩
theorem k155_mkM (w : World) (base : Nat) (ok : Nat → Prop) (x : S155)  : k155.M w base ok x [.int .i64 x.f0, .string x.f1, .string x.f2, .int .i64 x.f3] := ⟨[.int .i64 x.f0], [.string x.f1, .string x.f2, .int .i64 x.f3], rfl, rfl, ⟨[.string x.f1], [.string x.f2, .int .i64 x.f3], rfl, rfl, ⟨[.string x.f2], [.int .i64 x.f3], rfl, rfl, rfl⟩⟩⟩
theorem k155_mkF (W : World) (ok : Nat → Prop) (x : S155) : Kd.FK k155 W ok x [.int .i64 x.f0, .string x.f1, .string x.f2, .int .i64 x.f3] := fun W2 _ => k155_mk W2 x
def rd_T155 (xs : List S155) (i : Int) : S155 := xs.getD i.toNat z155
theorem at_T155 {w : World} {A : Option Addr} {n : Nat} {xs : List S155} (h : Kd.C k155 w A n xs) (i : Int) (h0 : 0 ≤ i) (h1 : i < n) : ∃ ad , A = some ad ∧ w.cell? (ad.add (i.toNat * 4)) = some (.int .i64 (rd_T155 xs i).f0) ∧ w.cell? ⟨(ad.add (i.toNat * 4)).block, (ad.add (i.toNat * 4)).off + 1, none⟩ = some (.string (rd_T155 xs i).f1) ∧ w.cell? ⟨(ad.add (i.toNat * 4)).block, (ad.add (i.toNat * 4)).off + 2, none⟩ = some (.string (rd_T155 xs i).f2) ∧ w.cell? ⟨(ad.add (i.toNat * 4)).block, (ad.add (i.toNat * 4)).off + 3, none⟩ = some (.int .i64 (rd_T155 xs i).f3) := by
  obtain ⟨ad, c, e, _, hK, hc0⟩ := Kd.C_get h z155 i h0 h1; have hc : ∀ j u, c[j]? = some u → w.cell? (ad.add (i.toNat * 4 + j)) = some u := hc0; obtain rfl := k155_open hK; exact ⟨ad, e, hc 0 _ rfl, by rw [← add_field _ _ 1 (by omega)]; exact hc 1 _ rfl, by rw [← add_field _ _ 2 (by omega)]; exact hc 2 _ rfl, by rw [← add_field _ _ 3 (by omega)]; exact hc 3 _ rfl⟩

/-! #### struct type 156 -/
structure S156 where
  f0 : Int
  f1 : ByteArray
  f2 : Int
def z156 : S156 := ⟨(0 : Int), (⟨#[]⟩ : ByteArray), (0 : Int)⟩
def k156 : Kd S156 := Kd.iso (Kd.pair (Kd.int .i64) (Kd.pair Kd.string (Kd.int .i64))) (fun x : S156 => (x.f0, x.f1, x.f2))
theorem k156_open {w : World} {x : S156} {cs : List Value} (h : k156.K w x cs) : cs = [.int .i64 x.f0, .string x.f1, .int .i64 x.f2] := by
  obtain ⟨_, _, rfl, rfl, ⟨_, _, rfl, rfl, rfl⟩⟩ := h; exact rfl
theorem k156_openM {w : World} {base : Nat} {ok : Nat → Prop} {x : S156} {cs : List Value} (h : k156.M w base ok x cs) : cs = [.int .i64 x.f0, .string x.f1, .int .i64 x.f2] := by
  obtain ⟨_, _, rfl, rfl, ⟨_, _, rfl, rfl, rfl⟩⟩ := h; exact rfl
theorem k156_mk (w : World) (x : S156)  : k156.K w x [.int .i64 x.f0, .string x.f1, .int .i64 x.f2] := ⟨[.int .i64 x.f0], [.string x.f1, .int .i64 x.f2], rfl, rfl, ⟨[.string x.f1], [.int .i64 x.f2], rfl, rfl, rfl⟩⟩
theorem k156_mkM (w : World) (base : Nat) (ok : Nat → Prop) (x : S156)  : k156.M w base ok x [.int .i64 x.f0, .string x.f1, .int .i64 x.f2] := ⟨[.int .i64 x.f0], [.string x.f1, .int .i64 x.f2], rfl, rfl, ⟨[.string x.f1], [.int .i64 x.f2], rfl, rfl, rfl⟩⟩
theorem k156_mkF (W : World) (ok : Nat → Prop) (x : S156) : Kd.FK k156 W ok x [.int .i64 x.f0, .string x.f1, .int .i64 x.f2] := fun W2 _ => k156_mk W2 x
def rd_T156 (xs : List S156) (i : Int) : S156 := xs.getD i.toNat z156
theorem at_T156 {w : World} {A : Option Addr} {n : Nat} {xs : List S156} (h : Kd.C k156 w A n xs) (i : Int) (h0 : 0 ≤ i) (h1 : i < n) : ∃ ad , A = some ad ∧ w.cell? (ad.add (i.toNat * 3)) = some (.int .i64 (rd_T156 xs i).f0) ∧ w.cell? ⟨(ad.add (i.toNat * 3)).block, (ad.add (i.toNat * 3)).off + 1, none⟩ = some (.string (rd_T156 xs i).f1) ∧ w.cell? ⟨(ad.add (i.toNat * 3)).block, (ad.add (i.toNat * 3)).off + 2, none⟩ = some (.int .i64 (rd_T156 xs i).f2) := by
  obtain ⟨ad, c, e, _, hK, hc0⟩ := Kd.C_get h z156 i h0 h1; have hc : ∀ j u, c[j]? = some u → w.cell? (ad.add (i.toNat * 3 + j)) = some u := hc0; obtain rfl := k156_open hK; exact ⟨ad, e, hc 0 _ rfl, by rw [← add_field _ _ 1 (by omega)]; exact hc 1 _ rfl, by rw [← add_field _ _ 2 (by omega)]; exact hc 2 _ rfl⟩

def rd_L9 (xs : List (List ByteArray)) (i : Int) : (List ByteArray) := xs.getD i.toNat ([] : List ByteArray)
theorem at_L9 {w : World} {A : Option Addr} {n : Nat} {xs : List (List ByteArray)} (h : Kd.C (Kd.slice 9 Kd.string) w A n xs) (i : Int) (h0 : 0 ≤ i) (h1 : i < n) : ∃ ad A0 c0, A = some ad ∧ w.cell? (ad.add i.toNat) = some (.slice A0 (rd_L9 xs i).length c0) ∧ (rd_L9 xs i).length ≤ c0 ∧ Kd.string.C w A0 (rd_L9 xs i).length (rd_L9 xs i) := by
  obtain ⟨ad, c, e, _, hK, hc0⟩ := Kd.C_get h ([] : List ByteArray) i h0 h1; have hc : ∀ j u, c[j]? = some u → w.cell? (ad.add (i.toNat * 1 + j)) = some u := hc0; obtain ⟨A0, c0, rfl, l0, g0⟩ := hK; exact ⟨ad, A0, c0, e, by have hq := hc 0 _ rfl; rwa [Nat.mul_one, Nat.add_zero] at hq, l0, g0⟩

def rd_L10 (xs : List (List S117)) (i : Int) : (List S117) := xs.getD i.toNat ([] : List S117)
theorem at_L10 {w : World} {A : Option Addr} {n : Nat} {xs : List (List S117)} (h : Kd.C (Kd.slice 117 k117) w A n xs) (i : Int) (h0 : 0 ≤ i) (h1 : i < n) : ∃ ad A0 c0, A = some ad ∧ w.cell? (ad.add i.toNat) = some (.slice A0 (rd_L10 xs i).length c0) ∧ (rd_L10 xs i).length ≤ c0 ∧ k117.C w A0 (rd_L10 xs i).length (rd_L10 xs i) := by
  obtain ⟨ad, c, e, _, hK, hc0⟩ := Kd.C_get h ([] : List S117) i h0 h1; have hc : ∀ j u, c[j]? = some u → w.cell? (ad.add (i.toNat * 1 + j)) = some u := hc0; obtain ⟨A0, c0, rfl, l0, g0⟩ := hK; exact ⟨ad, A0, c0, e, by have hq := hc 0 _ rfl; rwa [Nat.mul_one, Nat.add_zero] at hq, l0, g0⟩

def rd_L11 (xs : List (List S148)) (i : Int) : (List S148) := xs.getD i.toNat ([] : List S148)
theorem at_L11 {w : World} {A : Option Addr} {n : Nat} {xs : List (List S148)} (h : Kd.C (Kd.slice 148 k148) w A n xs) (i : Int) (h0 : 0 ≤ i) (h1 : i < n) : ∃ ad A0 c0, A = some ad ∧ w.cell? (ad.add i.toNat) = some (.slice A0 (rd_L11 xs i).length c0) ∧ (rd_L11 xs i).length ≤ c0 ∧ k148.C w A0 (rd_L11 xs i).length (rd_L11 xs i) := by
  obtain ⟨ad, c, e, _, hK, hc0⟩ := Kd.C_get h ([] : List S148) i h0 h1; have hc : ∀ j u, c[j]? = some u → w.cell? (ad.add (i.toNat * 1 + j)) = some u := hc0; obtain ⟨A0, c0, rfl, l0, g0⟩ := hK; exact ⟨ad, A0, c0, e, by have hq := hc 0 _ rfl; rwa [Nat.mul_one, Nat.add_zero] at hq, l0, g0⟩

def rd_L12 (xs : List (List S151)) (i : Int) : (List S151) := xs.getD i.toNat ([] : List S151)
theorem at_L12 {w : World} {A : Option Addr} {n : Nat} {xs : List (List S151)} (h : Kd.C (Kd.slice 151 k151) w A n xs) (i : Int) (h0 : 0 ≤ i) (h1 : i < n) : ∃ ad A0 c0, A = some ad ∧ w.cell? (ad.add i.toNat) = some (.slice A0 (rd_L12 xs i).length c0) ∧ (rd_L12 xs i).length ≤ c0 ∧ k151.C w A0 (rd_L12 xs i).length (rd_L12 xs i) := by
  obtain ⟨ad, c, e, _, hK, hc0⟩ := Kd.C_get h ([] : List S151) i h0 h1; have hc : ∀ j u, c[j]? = some u → w.cell? (ad.add (i.toNat * 1 + j)) = some u := hc0; obtain ⟨A0, c0, rfl, l0, g0⟩ := hK; exact ⟨ad, A0, c0, e, by have hq := hc 0 _ rfl; rwa [Nat.mul_one, Nat.add_zero] at hq, l0, g0⟩

/-! #### struct type 59 -/
structure S59 where
  f0 : (List S117)
  f1 : (List S148)
  f2 : (List S151)
  f3 : (List S151)
  f4 : (List S151)
  f5 : Bool
def z59 : S59 := ⟨([] : List S117), ([] : List S148), ([] : List S151), ([] : List S151), ([] : List S151), false⟩
def k59 : Kd S59 := Kd.iso (Kd.pair (Kd.slice 117 k117) (Kd.pair (Kd.slice 148 k148) (Kd.pair (Kd.slice 151 k151) (Kd.pair (Kd.slice 151 k151) (Kd.pair (Kd.slice 151 k151) Kd.bool))))) (fun x : S59 => (x.f0, x.f1, x.f2, x.f3, x.f4, x.f5))
theorem k59_open {w : World} {x : S59} {cs : List Value} (h : k59.K w x cs) : ∃ A0 c0 A1 c1 A2 c2 A3 c3 A4 c4, cs = [.slice A0 x.f0.length c0, .slice A1 x.f1.length c1, .slice A2 x.f2.length c2, .slice A3 x.f3.length c3, .slice A4 x.f4.length c4, .bool x.f5] ∧ x.f0.length ≤ c0 ∧ k117.C w A0 x.f0.length x.f0 ∧ x.f1.length ≤ c1 ∧ k148.C w A1 x.f1.length x.f1 ∧ x.f2.length ≤ c2 ∧ k151.C w A2 x.f2.length x.f2 ∧ x.f3.length ≤ c3 ∧ k151.C w A3 x.f3.length x.f3 ∧ x.f4.length ≤ c4 ∧ k151.C w A4 x.f4.length x.f4 := by
  obtain ⟨_, _, rfl, ⟨A0, c0, rfl, l0, g0⟩, ⟨_, _, rfl, ⟨A1, c1, rfl, l1, g1⟩, ⟨_, _, rfl, ⟨A2, c2, rfl, l2, g2⟩, ⟨_, _, rfl, ⟨A3, c3, rfl, l3, g3⟩, ⟨_, _, rfl, ⟨A4, c4, rfl, l4, g4⟩, rfl⟩⟩⟩⟩⟩ := h; exact ⟨A0, c0, A1, c1, A2, c2, A3, c3, A4, c4, rfl, l0, g0, l1, g1, l2, g2, l3, g3, l4, g4⟩
theorem k59_openM {w : World} {base : Nat} {ok : Nat → Prop} {x : S59} {cs : List Value} (h : k59.M w base ok x cs) : ∃ v0 v1 v2 v3 v4, cs = [v0, v1, v2, v3, v4, .bool x.f5] ∧ k117.R 117 w base ok v0 x.f0 ∧ k148.R 148 w base ok v1 x.f1 ∧ k151.R 151 w base ok v2 x.f2 ∧ k151.R 151 w base ok v3 x.f3 ∧ k151.R 151 w base ok v4 x.f4 := by
  obtain ⟨_, _, rfl, ⟨v0, rfl, g0⟩, ⟨_, _, rfl, ⟨v1, rfl, g1⟩, ⟨_, _, rfl, ⟨v2, rfl, g2⟩, ⟨_, _, rfl, ⟨v3, rfl, g3⟩, ⟨_, _, rfl, ⟨v4, rfl, g4⟩, rfl⟩⟩⟩⟩⟩ := h; exact ⟨v0, v1, v2, v3, v4, rfl, g0, g1, g2, g3, g4⟩
theorem k59_mk (w : World) (x : S59) {A0 : Option Addr} {c0 : Nat} (l0 : x.f0.length ≤ c0) (g0 : k117.C w A0 x.f0.length x.f0) {A1 : Option Addr} {c1 : Nat} (l1 : x.f1.length ≤ c1) (g1 : k148.C w A1 x.f1.length x.f1) {A2 : Option Addr} {c2 : Nat} (l2 : x.f2.length ≤ c2) (g2 : k151.C w A2 x.f2.length x.f2) {A3 : Option Addr} {c3 : Nat} (l3 : x.f3.length ≤ c3) (g3 : k151.C w A3 x.f3.length x.f3) {A4 : Option Addr} {c4 : Nat} (l4 : x.f4.length ≤ c4) (g4 : k151.C w A4 x.f4.length x.f4) : k59.K w x [.slice A0 x.f0.length c0, .slice A1 x.f1.length c1, .slice A2 x.f2.length c2, .slice A3 x.f3.length c3, .slice A4 x.f4.length c4, .bool x.f5] := ⟨[.slice A0 x.f0.length c0], [.slice A1 x.f1.length c1, .slice A2 x.f2.length c2, .slice A3 x.f3.length c3, .slice A4 x.f4.length c4, .bool x.f5], rfl, ⟨A0, c0, rfl, l0, g0⟩, ⟨[.slice A1 x.f1.length c1], [.slice A2 x.f2.length c2, .slice A3 x.f3.length c3, .slice A4 x.f4.length c4, .bool x.f5], rfl, ⟨A1, c1, rfl, l1, g1⟩, ⟨[.slice A2 x.f2.length c2], [.slice A3 x.f3.length c3, .slice A4 x.f4.length c4, .bool x.f5], rfl, ⟨A2, c2, rfl, l2, g2⟩, ⟨[.slice A3 x.f3.length c3], [.slice A4 x.f4.length c4, .bool x.f5], rfl, ⟨A3, c3, rfl, l3, g3⟩, ⟨[.slice A4 x.f4.length c4], [.bool x.f5], rfl, ⟨A4, c4, rfl, l4, g4⟩, rfl⟩⟩⟩⟩⟩
theorem k59_mkM (w : World) (base : Nat) (ok : Nat → Prop) (x : S59) {v0 : Value} (g0 : k117.R 117 w base ok v0 x.f0) {v1 : Value} (g1 : k148.R 148 w base ok v1 x.f1) {v2 : Value} (g2 : k151.R 151 w base ok v2 x.f2) {v3 : Value} (g3 : k151.R 151 w base ok v3 x.f3) {v4 : Value} (g4 : k151.R 151 w base ok v4 x.f4) : k59.M w base ok x [v0, v1, v2, v3, v4, .bool x.f5] := ⟨[v0], [v1, v2, v3, v4, .bool x.f5], rfl, ⟨v0, rfl, g0⟩, ⟨[v1], [v2, v3, v4, .bool x.f5], rfl, ⟨v1, rfl, g1⟩, ⟨[v2], [v3, v4, .bool x.f5], rfl, ⟨v2, rfl, g2⟩, ⟨[v3], [v4, .bool x.f5], rfl, ⟨v3, rfl, g3⟩, ⟨[v4], [.bool x.f5], rfl, ⟨v4, rfl, g4⟩, rfl⟩⟩⟩⟩⟩
theorem k59_openF {W : World} {ok : Nat → Prop} {x : S59} {cs : List Value} (h : Kd.FK k59 W ok x cs) : ∃ A0 c0 A1 c1 A2 c2 A3 c3 A4 c4, cs = [.slice A0 x.f0.length c0, .slice A1 x.f1.length c1, .slice A2 x.f2.length c2, .slice A3 x.f3.length c3, .slice A4 x.f4.length c4, .bool x.f5] ∧ x.f0.length ≤ c0 ∧ Kd.F k117 W ok A0 x.f0.length x.f0 ∧ x.f1.length ≤ c1 ∧ Kd.F k148 W ok A1 x.f1.length x.f1 ∧ x.f2.length ≤ c2 ∧ Kd.F k151 W ok A2 x.f2.length x.f2 ∧ x.f3.length ≤ c3 ∧ Kd.F k151 W ok A3 x.f3.length x.f3 ∧ x.f4.length ≤ c4 ∧ Kd.F k151 W ok A4 x.f4.length x.f4 := by
  obtain ⟨A0, c0, A1, c1, A2, c2, A3, c3, A4, c4, rfl, l0, _, l1, _, l2, _, l3, _, l4, _⟩ := k59_open (Kd.FK_now h); exact ⟨A0, c0, A1, c1, A2, c2, A3, c3, A4, c4, rfl, l0, (fun W' hW => by obtain ⟨A0_, c0_, A1_, c1_, A2_, c2_, A3_, c3_, A4_, c4_, he, l0_, g0_, l1_, g1_, l2_, g2_, l3_, g3_, l4_, g4_⟩ := k59_open (h W' hW); injection (Option.some.inj (show some (Value.slice A0 x.f0.length c0) = some (Value.slice A0_ x.f0.length c0_) from congrArg (fun l => l[0]?) he)) with ha_ _ _; rw [ha_]; exact g0_), l1, (fun W' hW => by obtain ⟨A0_, c0_, A1_, c1_, A2_, c2_, A3_, c3_, A4_, c4_, he, l0_, g0_, l1_, g1_, l2_, g2_, l3_, g3_, l4_, g4_⟩ := k59_open (h W' hW); injection (Option.some.inj (show some (Value.slice A1 x.f1.length c1) = some (Value.slice A1_ x.f1.length c1_) from congrArg (fun l => l[1]?) he)) with ha_ _ _; rw [ha_]; exact g1_), l2, (fun W' hW => by obtain ⟨A0_, c0_, A1_, c1_, A2_, c2_, A3_, c3_, A4_, c4_, he, l0_, g0_, l1_, g1_, l2_, g2_, l3_, g3_, l4_, g4_⟩ := k59_open (h W' hW); injection (Option.some.inj (show some (Value.slice A2 x.f2.length c2) = some (Value.slice A2_ x.f2.length c2_) from congrArg (fun l => l[2]?) he)) with ha_ _ _; rw [ha_]; exact g2_), l3, (fun W' hW => by obtain ⟨A0_, c0_, A1_, c1_, A2_, c2_, A3_, c3_, A4_, c4_, he, l0_, g0_, l1_, g1_, l2_, g2_, l3_, g3_, l4_, g4_⟩ := k59_open (h W' hW); injection (Option.some.inj (show some (Value.slice A3 x.f3.length c3) = some (Value.slice A3_ x.f3.length c3_) from congrArg (fun l => l[3]?) he)) with ha_ _ _; rw [ha_]; exact g3_), l4, (fun W' hW => by obtain ⟨A0_, c0_, A1_, c1_, A2_, c2_, A3_, c3_, A4_, c4_, he, l0_, g0_, l1_, g1_, l2_, g2_, l3_, g3_, l4_, g4_⟩ := k59_open (h W' hW); injection (Option.some.inj (show some (Value.slice A4 x.f4.length c4) = some (Value.slice A4_ x.f4.length c4_) from congrArg (fun l => l[4]?) he)) with ha_ _ _; rw [ha_]; exact g4_)⟩
theorem k59_mkF (W : World) (ok : Nat → Prop) (x : S59) {A0 : Option Addr} {c0 : Nat} (l0 : x.f0.length ≤ c0) (g0 : Kd.F k117 W ok A0 x.f0.length x.f0) {A1 : Option Addr} {c1 : Nat} (l1 : x.f1.length ≤ c1) (g1 : Kd.F k148 W ok A1 x.f1.length x.f1) {A2 : Option Addr} {c2 : Nat} (l2 : x.f2.length ≤ c2) (g2 : Kd.F k151 W ok A2 x.f2.length x.f2) {A3 : Option Addr} {c3 : Nat} (l3 : x.f3.length ≤ c3) (g3 : Kd.F k151 W ok A3 x.f3.length x.f3) {A4 : Option Addr} {c4 : Nat} (l4 : x.f4.length ≤ c4) (g4 : Kd.F k151 W ok A4 x.f4.length x.f4) : Kd.FK k59 W ok x [.slice A0 x.f0.length c0, .slice A1 x.f1.length c1, .slice A2 x.f2.length c2, .slice A3 x.f3.length c3, .slice A4 x.f4.length c4, .bool x.f5] := fun W2 hW => k59_mk W2 x l0 (g0 W2 hW) l1 (g1 W2 hW) l2 (g2 W2 hW) l3 (g3 W2 hW) l4 (g4 W2 hW)
def rd_T59 (xs : List S59) (i : Int) : S59 := xs.getD i.toNat z59
theorem at_T59 {w : World} {A : Option Addr} {n : Nat} {xs : List S59} (h : Kd.C k59 w A n xs) (i : Int) (h0 : 0 ≤ i) (h1 : i < n) : ∃ ad A0 c0 A1 c1 A2 c2 A3 c3 A4 c4, A = some ad ∧ w.cell? (ad.add (i.toNat * 6)) = some (.slice A0 (rd_T59 xs i).f0.length c0) ∧ w.cell? ⟨(ad.add (i.toNat * 6)).block, (ad.add (i.toNat * 6)).off + 1, none⟩ = some (.slice A1 (rd_T59 xs i).f1.length c1) ∧ w.cell? ⟨(ad.add (i.toNat * 6)).block, (ad.add (i.toNat * 6)).off + 2, none⟩ = some (.slice A2 (rd_T59 xs i).f2.length c2) ∧ w.cell? ⟨(ad.add (i.toNat * 6)).block, (ad.add (i.toNat * 6)).off + 3, none⟩ = some (.slice A3 (rd_T59 xs i).f3.length c3) ∧ w.cell? ⟨(ad.add (i.toNat * 6)).block, (ad.add (i.toNat * 6)).off + 4, none⟩ = some (.slice A4 (rd_T59 xs i).f4.length c4) ∧ w.cell? ⟨(ad.add (i.toNat * 6)).block, (ad.add (i.toNat * 6)).off + 5, none⟩ = some (.bool (rd_T59 xs i).f5) ∧ (rd_T59 xs i).f0.length ≤ c0 ∧ k117.C w A0 (rd_T59 xs i).f0.length (rd_T59 xs i).f0 ∧ (rd_T59 xs i).f1.length ≤ c1 ∧ k148.C w A1 (rd_T59 xs i).f1.length (rd_T59 xs i).f1 ∧ (rd_T59 xs i).f2.length ≤ c2 ∧ k151.C w A2 (rd_T59 xs i).f2.length (rd_T59 xs i).f2 ∧ (rd_T59 xs i).f3.length ≤ c3 ∧ k151.C w A3 (rd_T59 xs i).f3.length (rd_T59 xs i).f3 ∧ (rd_T59 xs i).f4.length ≤ c4 ∧ k151.C w A4 (rd_T59 xs i).f4.length (rd_T59 xs i).f4 := by
  obtain ⟨ad, c, e, _, hK, hc0⟩ := Kd.C_get h z59 i h0 h1; have hc : ∀ j u, c[j]? = some u → w.cell? (ad.add (i.toNat * 6 + j)) = some u := hc0; obtain ⟨A0, c0, A1, c1, A2, c2, A3, c3, A4, c4, rfl, l0, g0, l1, g1, l2, g2, l3, g3, l4, g4⟩ := k59_open hK; exact ⟨ad, A0, c0, A1, c1, A2, c2, A3, c3, A4, c4, e, hc 0 _ rfl, by rw [← add_field _ _ 1 (by omega)]; exact hc 1 _ rfl, by rw [← add_field _ _ 2 (by omega)]; exact hc 2 _ rfl, by rw [← add_field _ _ 3 (by omega)]; exact hc 3 _ rfl, by rw [← add_field _ _ 4 (by omega)]; exact hc 4 _ rfl, by rw [← add_field _ _ 5 (by omega)]; exact hc 5 _ rfl, l0, g0, l1, g1, l2, g2, l3, g3, l4, g4⟩

def rd_L15 (xs : List (List S126)) (i : Int) : (List S126) := xs.getD i.toNat ([] : List S126)
theorem at_L15 {w : World} {A : Option Addr} {n : Nat} {xs : List (List S126)} (h : Kd.C (Kd.slice 126 k126) w A n xs) (i : Int) (h0 : 0 ≤ i) (h1 : i < n) : ∃ ad A0 c0, A = some ad ∧ w.cell? (ad.add i.toNat) = some (.slice A0 (rd_L15 xs i).length c0) ∧ (rd_L15 xs i).length ≤ c0 ∧ k126.C w A0 (rd_L15 xs i).length (rd_L15 xs i) := by
  obtain ⟨ad, c, e, _, hK, hc0⟩ := Kd.C_get h ([] : List S126) i h0 h1; have hc : ∀ j u, c[j]? = some u → w.cell? (ad.add (i.toNat * 1 + j)) = some u := hc0; obtain ⟨A0, c0, rfl, l0, g0⟩ := hK; exact ⟨ad, A0, c0, e, by have hq := hc 0 _ rfl; rwa [Nat.mul_one, Nat.add_zero] at hq, l0, g0⟩

def rd_L16 (xs : List (List S155)) (i : Int) : (List S155) := xs.getD i.toNat ([] : List S155)
theorem at_L16 {w : World} {A : Option Addr} {n : Nat} {xs : List (List S155)} (h : Kd.C (Kd.slice 155 k155) w A n xs) (i : Int) (h0 : 0 ≤ i) (h1 : i < n) : ∃ ad A0 c0, A = some ad ∧ w.cell? (ad.add i.toNat) = some (.slice A0 (rd_L16 xs i).length c0) ∧ (rd_L16 xs i).length ≤ c0 ∧ k155.C w A0 (rd_L16 xs i).length (rd_L16 xs i) := by
  obtain ⟨ad, c, e, _, hK, hc0⟩ := Kd.C_get h ([] : List S155) i h0 h1; have hc : ∀ j u, c[j]? = some u → w.cell? (ad.add (i.toNat * 1 + j)) = some u := hc0; obtain ⟨A0, c0, rfl, l0, g0⟩ := hK; exact ⟨ad, A0, c0, e, by have hq := hc 0 _ rfl; rwa [Nat.mul_one, Nat.add_zero] at hq, l0, g0⟩

def rd_L17 (xs : List (List S156)) (i : Int) : (List S156) := xs.getD i.toNat ([] : List S156)
theorem at_L17 {w : World} {A : Option Addr} {n : Nat} {xs : List (List S156)} (h : Kd.C (Kd.slice 156 k156) w A n xs) (i : Int) (h0 : 0 ≤ i) (h1 : i < n) : ∃ ad A0 c0, A = some ad ∧ w.cell? (ad.add i.toNat) = some (.slice A0 (rd_L17 xs i).length c0) ∧ (rd_L17 xs i).length ≤ c0 ∧ k156.C w A0 (rd_L17 xs i).length (rd_L17 xs i) := by
  obtain ⟨ad, c, e, _, hK, hc0⟩ := Kd.C_get h ([] : List S156) i h0 h1; have hc : ∀ j u, c[j]? = some u → w.cell? (ad.add (i.toNat * 1 + j)) = some u := hc0; obtain ⟨A0, c0, rfl, l0, g0⟩ := hK; exact ⟨ad, A0, c0, e, by have hq := hc 0 _ rfl; rwa [Nat.mul_one, Nat.add_zero] at hq, l0, g0⟩

/-! #### struct type 65 -/
structure S65 where
  f0 : (List S126)
  f1 : (List S155)
  f2 : (List S156)
  f3 : (List S156)
  f4 : (List S156)
  f5 : Bool
def z65 : S65 := ⟨([] : List S126), ([] : List S155), ([] : List S156), ([] : List S156), ([] : List S156), false⟩
def k65 : Kd S65 := Kd.iso (Kd.pair (Kd.slice 126 k126) (Kd.pair (Kd.slice 155 k155) (Kd.pair (Kd.slice 156 k156) (Kd.pair (Kd.slice 156 k156) (Kd.pair (Kd.slice 156 k156) Kd.bool))))) (fun x : S65 => (x.f0, x.f1, x.f2, x.f3, x.f4, x.f5))
theorem k65_open {w : World} {x : S65} {cs : List Value} (h : k65.K w x cs) : ∃ A0 c0 A1 c1 A2 c2 A3 c3 A4 c4, cs = [.slice A0 x.f0.length c0, .slice A1 x.f1.length c1, .slice A2 x.f2.length c2, .slice A3 x.f3.length c3, .slice A4 x.f4.length c4, .bool x.f5] ∧ x.f0.length ≤ c0 ∧ k126.C w A0 x.f0.length x.f0 ∧ x.f1.length ≤ c1 ∧ k155.C w A1 x.f1.length x.f1 ∧ x.f2.length ≤ c2 ∧ k156.C w A2 x.f2.length x.f2 ∧ x.f3.length ≤ c3 ∧ k156.C w A3 x.f3.length x.f3 ∧ x.f4.length ≤ c4 ∧ k156.C w A4 x.f4.length x.f4 := by
  obtain ⟨_, _, rfl, ⟨A0, c0, rfl, l0, g0⟩, ⟨_, _, rfl, ⟨A1, c1, rfl, l1, g1⟩, ⟨_, _, rfl, ⟨A2, c2, rfl, l2, g2⟩, ⟨_, _, rfl, ⟨A3, c3, rfl, l3, g3⟩, ⟨_, _, rfl, ⟨A4, c4, rfl, l4, g4⟩, rfl⟩⟩⟩⟩⟩ := h; exact ⟨A0, c0, A1, c1, A2, c2, A3, c3, A4, c4, rfl, l0, g0, l1, g1, l2, g2, l3, g3, l4, g4⟩
theorem k65_openM {w : World} {base : Nat} {ok : Nat → Prop} {x : S65} {cs : List Value} (h : k65.M w base ok x cs) : ∃ v0 v1 v2 v3 v4, cs = [v0, v1, v2, v3, v4, .bool x.f5] ∧ k126.R 126 w base ok v0 x.f0 ∧ k155.R 155 w base ok v1 x.f1 ∧ k156.R 156 w base ok v2 x.f2 ∧ k156.R 156 w base ok v3 x.f3 ∧ k156.R 156 w base ok v4 x.f4 := by
  obtain ⟨_, _, rfl, ⟨v0, rfl, g0⟩, ⟨_, _, rfl, ⟨v1, rfl, g1⟩, ⟨_, _, rfl, ⟨v2, rfl, g2⟩, ⟨_, _, rfl, ⟨v3, rfl, g3⟩, ⟨_, _, rfl, ⟨v4, rfl, g4⟩, rfl⟩⟩⟩⟩⟩ := h; exact ⟨v0, v1, v2, v3, v4, rfl, g0, g1, g2, g3, g4⟩
theorem k65_mk (w : World) (x : S65) {A0 : Option Addr} {c0 : Nat} (l0 : x.f0.length ≤ c0) (g0 : k126.C w A0 x.f0.length x.f0) {A1 : Option Addr} {c1 : Nat} (l1 : x.f1.length ≤ c1) (g1 : k155.C w A1 x.f1.length x.f1) {A2 : Option Addr} {c2 : Nat} (l2 : x.f2.length ≤ c2) (g2 : k156.C w A2 x.f2.length x.f2) {A3 : Option Addr} {c3 : Nat} (l3 : x.f3.length ≤ c3) (g3 : k156.C w A3 x.f3.length x.f3) {A4 : Option Addr} {c4 : Nat} (l4 : x.f4.length ≤ c4) (g4 : k156.C w A4 x.f4.length x.f4) : k65.K w x [.slice A0 x.f0.length c0, .slice A1 x.f1.length c1, .slice A2 x.f2.length c2, .slice A3 x.f3.length c3, .slice A4 x.f4.length c4, .bool x.f5] := ⟨[.slice A0 x.f0.length c0], [.slice A1 x.f1.length c1, .slice A2 x.f2.length c2, .slice A3 x.f3.length c3, .slice A4 x.f4.length c4, .bool x.f5], rfl, ⟨A0, c0, rfl, l0, g0⟩, ⟨[.slice A1 x.f1.length c1], [.slice A2 x.f2.length c2, .slice A3 x.f3.length c3, .slice A4 x.f4.length c4, .bool x.f5], rfl, ⟨A1, c1, rfl, l1, g1⟩, ⟨[.slice A2 x.f2.length c2], [.slice A3 x.f3.length c3, .slice A4 x.f4.length c4, .bool x.f5], rfl, ⟨A2, c2, rfl, l2, g2⟩, ⟨[.slice A3 x.f3.length c3], [.slice A4 x.f4.length c4, .bool x.f5], rfl, ⟨A3, c3, rfl, l3, g3⟩, ⟨[.slice A4 x.f4.length c4], [.bool x.f5], rfl, ⟨A4, c4, rfl, l4, g4⟩, rfl⟩⟩⟩⟩⟩
theorem k65_mkM (w : World) (base : Nat) (ok : Nat → Prop) (x : S65) {v0 : Value} (g0 : k126.R 126 w base ok v0 x.f0) {v1 : Value} (g1 : k155.R 155 w base ok v1 x.f1) {v2 : Value} (g2 : k156.R 156 w base ok v2 x.f2) {v3 : Value} (g3 : k156.R 156 w base ok v3 x.f3) {v4 : Value} (g4 : k156.R 156 w base ok v4 x.f4) : k65.M w base ok x [v0, v1, v2, v3, v4, .bool x.f5] := ⟨[v0], [v1, v2, v3, v4, .bool x.f5], rfl, ⟨v0, rfl, g0⟩, ⟨[v1], [v2, v3, v4, .bool x.f5], rfl, ⟨v1, rfl, g1⟩, ⟨[v2], [v3, v4, .bool x.f5], rfl, ⟨v2, rfl, g2⟩, ⟨[v3], [v4, .bool x.f5], rfl, ⟨v3, rfl, g3⟩, ⟨[v4], [.bool x.f5], rfl, ⟨v4, rfl, g4⟩, rfl⟩⟩⟩⟩⟩
theorem k65_openF {W : World} {ok : Nat → Prop} {x : S65} {cs : List Value} (h : Kd.FK k65 W ok x cs) : ∃ A0 c0 A1 c1 A2 c2 A3 c3 A4 c4, cs = [.slice A0 x.f0.length c0, .slice A1 x.f1.length c1, .slice A2 x.f2.length c2, .slice A3 x.f3.length c3, .slice A4 x.f4.length c4, .bool x.f5] ∧ x.f0.length ≤ c0 ∧ Kd.F k126 W ok A0 x.f0.length x.f0 ∧ x.f1.length ≤ c1 ∧ Kd.F k155 W ok A1 x.f1.length x.f1 ∧ x.f2.length ≤ c2 ∧ Kd.F k156 W ok A2 x.f2.length x.f2 ∧ x.f3.length ≤ c3 ∧ Kd.F k156 W ok A3 x.f3.length x.f3 ∧ x.f4.length ≤ c4 ∧ Kd.F k156 W ok A4 x.f4.length x.f4 := by
  obtain ⟨A0, c0, A1, c1, A2, c2, A3, c3, A4, c4, rfl, l0, _, l1, _, l2, _, l3, _, l4, _⟩ := k65_open (Kd.FK_now h); exact ⟨A0, c0, A1, c1, A2, c2, A3, c3, A4, c4, rfl, l0, (fun W' hW => by obtain ⟨A0_, c0_, A1_, c1_, A2_, c2_, A3_, c3_, A4_, c4_, he, l0_, g0_, l1_, g1_, l2_, g2_, l3_, g3_, l4_, g4_⟩ := k65_open (h W' hW); injection (Option.some.inj (show some (Value.slice A0 x.f0.length c0) = some (Value.slice A0_ x.f0.length c0_) from congrArg (fun l => l[0]?) he)) with ha_ _ _; rw [ha_]; exact g0_), l1, (fun W' hW => by obtain ⟨A0_, c0_, A1_, c1_, A2_, c2_, A3_, c3_, A4_, c4_, he, l0_, g0_, l1_, g1_, l2_, g2_, l3_, g3_, l4_, g4_⟩ := k65_open (h W' hW); injection (Option.some.inj (show some (Value.slice A1 x.f1.length c1) = some (Value.slice A1_ x.f1.length c1_) from congrArg (fun l => l[1]?) he)) with ha_ _ _; rw [ha_]; exact g1_), l2, (fun W' hW => by obtain ⟨A0_, c0_, A1_, c1_, A2_, c2_, A3_, c3_, A4_, c4_, he, l0_, g0_, l1_, g1_, l2_, g2_, l3_, g3_, l4_, g4_⟩ := k65_open (h W' hW); injection (Option.some.inj (show some (Value.slice A2 x.f2.length c2) = some (Value.slice A2_ x.f2.length c2_) from congrArg (fun l => l[2]?) he)) with ha_ _ _; rw [ha_]; exact g2_), l3, (fun W' hW => by obtain ⟨A0_, c0_, A1_, c1_, A2_, c2_, A3_, c3_, A4_, c4_, he, l0_, g0_, l1_, g1_, l2_, g2_, l3_, g3_, l4_, g4_⟩ := k65_open (h W' hW); injection (Option.some.inj (show some (Value.slice A3 x.f3.length c3) = some (Value.slice A3_ x.f3.length c3_) from congrArg (fun l => l[3]?) he)) with ha_ _ _; rw [ha_]; exact g3_), l4, (fun W' hW => by obtain ⟨A0_, c0_, A1_, c1_, A2_, c2_, A3_, c3_, A4_, c4_, he, l0_, g0_, l1_, g1_, l2_, g2_, l3_, g3_, l4_, g4_⟩ := k65_open (h W' hW); injection (Option.some.inj (show some (Value.slice A4 x.f4.length c4) = some (Value.slice A4_ x.f4.length c4_) from congrArg (fun l => l[4]?) he)) with ha_ _ _; rw [ha_]; exact g4_)⟩
theorem k65_mkF (W : World) (ok : Nat → Prop) (x : S65) {A0 : Option Addr} {c0 : Nat} (l0 : x.f0.length ≤ c0) (g0 : Kd.F k126 W ok A0 x.f0.length x.f0) {A1 : Option Addr} {c1 : Nat} (l1 : x.f1.length ≤ c1) (g1 : Kd.F k155 W ok A1 x.f1.length x.f1) {A2 : Option Addr} {c2 : Nat} (l2 : x.f2.length ≤ c2) (g2 : Kd.F k156 W ok A2 x.f2.length x.f2) {A3 : Option Addr} {c3 : Nat} (l3 : x.f3.length ≤ c3) (g3 : Kd.F k156 W ok A3 x.f3.length x.f3) {A4 : Option Addr} {c4 : Nat} (l4 : x.f4.length ≤ c4) (g4 : Kd.F k156 W ok A4 x.f4.length x.f4) : Kd.FK k65 W ok x [.slice A0 x.f0.length c0, .slice A1 x.f1.length c1, .slice A2 x.f2.length c2, .slice A3 x.f3.length c3, .slice A4 x.f4.length c4, .bool x.f5] := fun W2 hW => k65_mk W2 x l0 (g0 W2 hW) l1 (g1 W2 hW) l2 (g2 W2 hW) l3 (g3 W2 hW) l4 (g4 W2 hW)
def rd_T65 (xs : List S65) (i : Int) : S65 := xs.getD i.toNat z65
theorem at_T65 {w : World} {A : Option Addr} {n : Nat} {xs : List S65} (h : Kd.C k65 w A n xs) (i : Int) (h0 : 0 ≤ i) (h1 : i < n) : ∃ ad A0 c0 A1 c1 A2 c2 A3 c3 A4 c4, A = some ad ∧ w.cell? (ad.add (i.toNat * 6)) = some (.slice A0 (rd_T65 xs i).f0.length c0) ∧ w.cell? ⟨(ad.add (i.toNat * 6)).block, (ad.add (i.toNat * 6)).off + 1, none⟩ = some (.slice A1 (rd_T65 xs i).f1.length c1) ∧ w.cell? ⟨(ad.add (i.toNat * 6)).block, (ad.add (i.toNat * 6)).off + 2, none⟩ = some (.slice A2 (rd_T65 xs i).f2.length c2) ∧ w.cell? ⟨(ad.add (i.toNat * 6)).block, (ad.add (i.toNat * 6)).off + 3, none⟩ = some (.slice A3 (rd_T65 xs i).f3.length c3) ∧ w.cell? ⟨(ad.add (i.toNat * 6)).block, (ad.add (i.toNat * 6)).off + 4, none⟩ = some (.slice A4 (rd_T65 xs i).f4.length c4) ∧ w.cell? ⟨(ad.add (i.toNat * 6)).block, (ad.add (i.toNat * 6)).off + 5, none⟩ = some (.bool (rd_T65 xs i).f5) ∧ (rd_T65 xs i).f0.length ≤ c0 ∧ k126.C w A0 (rd_T65 xs i).f0.length (rd_T65 xs i).f0 ∧ (rd_T65 xs i).f1.length ≤ c1 ∧ k155.C w A1 (rd_T65 xs i).f1.length (rd_T65 xs i).f1 ∧ (rd_T65 xs i).f2.length ≤ c2 ∧ k156.C w A2 (rd_T65 xs i).f2.length (rd_T65 xs i).f2 ∧ (rd_T65 xs i).f3.length ≤ c3 ∧ k156.C w A3 (rd_T65 xs i).f3.length (rd_T65 xs i).f3 ∧ (rd_T65 xs i).f4.length ≤ c4 ∧ k156.C w A4 (rd_T65 xs i).f4.length (rd_T65 xs i).f4 := by
  obtain ⟨ad, c, e, _, hK, hc0⟩ := Kd.C_get h z65 i h0 h1; have hc : ∀ j u, c[j]? = some u → w.cell? (ad.add (i.toNat * 6 + j)) = some u := hc0; obtain ⟨A0, c0, A1, c1, A2, c2, A3, c3, A4, c4, rfl, l0, g0, l1, g1, l2, g2, l3, g3, l4, g4⟩ := k65_open hK; exact ⟨ad, A0, c0, A1, c1, A2, c2, A3, c3, A4, c4, e, hc 0 _ rfl, by rw [← add_field _ _ 1 (by omega)]; exact hc 1 _ rfl, by rw [← add_field _ _ 2 (by omega)]; exact hc 2 _ rfl, by rw [← add_field _ _ 3 (by omega)]; exact hc 3 _ rfl, by rw [← add_field _ _ 4 (by omega)]; exact hc 4 _ rfl, by rw [← add_field _ _ 5 (by omega)]; exact hc 5 _ rfl, l0, g0, l1, g1, l2, g2, l3, g3, l4, g4⟩

set_option linter.unusedVariables false
set_option linter.unusedSimpArgs false

/-! ### laws_szRdn: function 92 -/
def laws_szRdn.f (a0_0 : ByteArray) (a0_1 : ByteArray) (a1 : Int) : Option (Int) := if (wrap64 (a1 - (a0_0.size : Int))) < 0 then (some (-1)) else (if (wrap64 ((wrap64 (a1 - (a0_0.size : Int))) - (a0_1.size : Int))) < 0 then (some (-1)) else (some (wrap64 ((wrap64 (a1 - (a0_0.size : Int))) - (a0_1.size : Int)))))
set_option maxHeartbeats 8000000 in
set_option maxRecDepth 100000 in
theorem laws_szRdn.calls (a0_0 : ByteArray) (a0_1 : ByteArray) (a1 : Int) (r : Int) (w : World) (h : laws_szRdn.f a0_0 a0_1 a1 = some r) :
    Calls Tryz.prog 92 #[.agg #[.string a0_0, .string a0_1], .int .i64 a1] w fun e w' => e = .returned (.int .i64 r) ∧ Below w.heap.size w w' := by
  have hu117 := Tryz.underlying117; have HB := Aside0.mk (Below.refl w.heap.size w); have H : (if (wrap64 (a1 - (a0_0.size : Int))) < 0 then (some (-1)) else (if (wrap64 ((wrap64 (a1 - (a0_0.size : Int))) - (a0_1.size : Int))) < 0 then (some (-1)) else (some (wrap64 ((wrap64 (a1 - (a0_0.size : Int))) - (a0_1.size : Int)))))) = some r := h; clear h; by_cases c3 : (wrap64 (a1 - (a0_0.size : Int))) < 0
  · rw [if_pos c3] at H; have c3b0 : decide ((wrap64 (a1 - (a0_0.size : Int))) < 0) = true := decide_eq_true c3; clear c3; obtain rfl := Option.some.inj H; go_enter Tryz.func92, Tryz.ntmps92; go_wp2_with (first | ((with_reducible refine gate_dst (N := 2) rfl ?_); refine box_event ?hg (N := 2) ?hd (cs := #[.string a0_0, .string a0_1]) (t := 117) ?hr ?_; (case hd => rfl); (case hg => rfl); (case hr => first | (go_simp; done) | (go_simp; rfl)); intro gb101 hg w4 hbox hb; have n_ := aa (below_step By hb) <| aa (hbox) <| aa ((by rw [hg]; exact (below_size By) : w.heap.size ≤ gb101)) <| Aside0.mk ((by rw [hg]; exact (below_size By) : w.heap.size ≤ gb101)); clear HB; obtain ⟨HB, BK101, GW101, GE101⟩ := n_; clear hb hbox hg; have ⟨hcz5_0, hcz5_1⟩ := cq2 BK101.out; have ⟨hfz5_0, hfz5_1⟩ := fq2 BK101.out)); go_ret; exact ⟨Rf, By⟩
  · rw [if_neg c3] at H; have c3b0 : decide ((wrap64 (a1 - (a0_0.size : Int))) < 0) = false := decide_eq_false c3; clear c3; by_cases c6 : (wrap64 ((wrap64 (a1 - (a0_0.size : Int))) - (a0_1.size : Int))) < 0
    · rw [if_pos c6] at H; have c6b0 : decide ((wrap64 ((wrap64 (a1 - (a0_0.size : Int))) - (a0_1.size : Int))) < 0) = true := decide_eq_true c6; clear c6; obtain rfl := Option.some.inj H; go_enter Tryz.func92, Tryz.ntmps92; go_wp2_with (first | ((with_reducible refine gate_dst (N := 2) rfl ?_); refine box_event ?hg (N := 2) ?hd (cs := #[.string a0_0, .string a0_1]) (t := 117) ?hr ?_; (case hd => rfl); (case hg => rfl); (case hr => first | (go_simp; done) | (go_simp; rfl)); intro gb101 hg w7 hbox hb; have n_ := aa (below_step By hb) <| aa (hbox) <| aa ((by rw [hg]; exact (below_size By) : w.heap.size ≤ gb101)) <| Aside0.mk ((by rw [hg]; exact (below_size By) : w.heap.size ≤ gb101)); clear HB; obtain ⟨HB, BK101, GW101, GE101⟩ := n_; clear hb hbox hg; have ⟨hcz8_0, hcz8_1⟩ := cq2 BK101.out; have ⟨hfz8_0, hfz8_1⟩ := fq2 BK101.out)); go_ret; exact ⟨Rf, By⟩
    · rw [if_neg c6] at H; have c6b0 : decide ((wrap64 ((wrap64 (a1 - (a0_0.size : Int))) - (a0_1.size : Int))) < 0) = false := decide_eq_false c6; clear c6; obtain rfl := Option.some.inj H; go_enter Tryz.func92, Tryz.ntmps92; go_wp2_with (first | ((with_reducible refine gate_dst (N := 2) rfl ?_); refine box_event ?hg (N := 2) ?hd (cs := #[.string a0_0, .string a0_1]) (t := 117) ?hr ?_; (case hd => rfl); (case hg => rfl); (case hr => first | (go_simp; done) | (go_simp; rfl)); intro gb101 hg w9 hbox hb; have n_ := aa (below_step By hb) <| aa (hbox) <| aa ((by rw [hg]; exact (below_size By) : w.heap.size ≤ gb101)) <| Aside0.mk ((by rw [hg]; exact (below_size By) : w.heap.size ≤ gb101)); clear HB; obtain ⟨HB, BK101, GW101, GE101⟩ := n_; clear hb hbox hg; have ⟨hcz10_0, hcz10_1⟩ := cq2 BK101.out; have ⟨hfz10_0, hfz10_1⟩ := fq2 BK101.out)); go_ret; exact ⟨Rf, By⟩

set_option linter.unusedVariables false
set_option linter.unusedSimpArgs false

/-! ### laws_szRdnS: function 35 -/
def laws_szRdnS.l0 : Nat → List (S117) → Int → Int → Option (Int)
  | 0, _, _, _ => none
  | k + 1, x0, x1, x5 => if x5 < (x0.length : Int) then (if 0 ≤ x5 then ((laws_szRdn.f ((rd_T117 x0 x5).f0) ((rd_T117 x0 x5).f1) x1).bind fun t103 => (if t103 < 0 then (some (-1)) else (laws_szRdnS.l0 k x0 t103 (wrap64 (x5 + 1))))) else (none)) else (some x1)
def laws_szRdnS.f (k : Nat) (l0 : List (S117)) (a1 : Int) : Option (Int) := if (wrap64 (a1 - (l0.length : Int))) < 0 then (some (-1)) else (laws_szRdnS.l0 k l0 (wrap64 (a1 - (l0.length : Int))) 0)
theorem laws_szRdnS.mono_l : ∀ k, (∀ y0 y1 y2, LeO (laws_szRdnS.l0 k y0 y1 y2) (laws_szRdnS.l0 (k + 1) y0 y1 y2))
  | 0 => fun _ _ _ r h => by simp [laws_szRdnS.l0] at h
  | k + 1 => by
    have ih0 := laws_szRdnS.mono_l k
    · intro y0 y1 y2; unfold laws_szRdnS.l0; repeat' first
      | (with_reducible exact ih0 _ _ _)
      | (with_reducible exact LeO.refl _)
      | (with_reducible exact LeO.none _)
      | (with_reducible refine LeO.ite ?_ ?_)
      | (with_reducible refine LeO.bind ?_ (fun _ => ?_))
theorem laws_szRdnS.mono : ∀ a0 a1 k, LeO (laws_szRdnS.f k a0 a1) (laws_szRdnS.f (k + 1) a0 a1) := by
  intro a0 a1 k; have ih0 := laws_szRdnS.mono_l k; unfold laws_szRdnS.f; repeat' first
      | (with_reducible exact ih0 _ _ _)
      | (with_reducible exact LeO.refl _)
      | (with_reducible exact LeO.none _)
      | (with_reducible refine LeO.ite ?_ ?_)
      | (with_reducible refine LeO.bind ?_ (fun _ => ?_))
set_option maxHeartbeats 8000000 in
set_option maxRecDepth 100000 in
theorem laws_szRdnS.calls (k : Nat) (A0 : Option Addr) (c0 : Nat) (l0 : List (S117)) (a1 : Int) (r : Int) (w : World) (hr0 : Kd.C k117 w A0 l0.length l0) (hc0 : l0.length ≤ c0) (h : laws_szRdnS.f k l0 a1 = some r) :
    Calls Tryz.prog 35 #[.slice A0 l0.length c0, .int .i64 a1] w fun e w' => e = .returned (.int .i64 r) ∧ Below w.heap.size w w' := by
  have hu117 := Tryz.underlying117; have HR0 := Aside0.mk hr0; have HC0 := Aside0.mk hc0; clear hr0 hc0; have HB := Aside0.mk (Below.refl w.heap.size w); have H : (if (wrap64 (a1 - (l0.length : Int))) < 0 then (some (-1)) else (laws_szRdnS.l0 k l0 (wrap64 (a1 - (l0.length : Int))) 0)) = some r := h; clear h; by_cases c3 : (wrap64 (a1 - (l0.length : Int))) < 0
  · rw [if_pos c3] at H; have c3b0 : decide ((wrap64 (a1 - (l0.length : Int))) < 0) = true := decide_eq_true c3; clear c3; obtain rfl := Option.some.inj H; go_enter Tryz.func35, Tryz.ntmps35; go_wp2; go_ret; exact ⟨Rf, By⟩
  · rw [if_neg c3] at H; have c3b0 : decide ((wrap64 (a1 - (l0.length : Int))) < 0) = false := decide_eq_false c3; clear c3; have H' := Aside0.mk H; clear H; go_enter Tryz.func35, Tryz.ntmps35; go_wp2; go_loopg [1, 5] k (fun kq v1 v5 w' => ∃ (x1_1 : Int) (x5_1 : Int), v1 = .int .i64 x1_1 ∧ v5 = .int .i64 x5_1 ∧ Aside0 (laws_szRdnS.l0 kq l0 x1_1 x5_1 = some r) ∧ Aside0 (kq ≤ k) ∧ Aside0 (Below w.heap.size w w'))
    case atStart => exact ⟨(wrap64 (a1 - (l0.length : Int))), (0), (by first | rfl | (simp; done) | (simp [*]; done)), (by first | rfl | (simp; done) | (simp [*]; done)), H', ⟨Nat.le_refl _⟩, ⟨By⟩⟩
    case round =>
      clear H'; try clear p2
      try clear c3
      try clear c3b0
      obtain ⟨x1_1, x5_1, rfl, rfl, HA, HK1, HB⟩ := hrel; cases gk with
      | zero => exact absurd HA.out (by simp [laws_szRdnS.l0])
      | succ k1 =>
        have H := HA.out; clear HA; simp only [laws_szRdnS.l0] at H; by_cases c4 : x5_1 < (l0.length : Int)
        · rw [if_pos c4] at H; have c4b0 : decide (x5_1 < (l0.length : Int)) = true := decide_eq_true c4; clear c4; by_cases c5 : 0 ≤ x5_1
          · rw [if_pos c5] at H; have c5b0 : decide (0 ≤ x5_1) = true := decide_eq_true c5; clear c5; replace H := Option.bind_eq_some_iff.mp H; obtain ⟨t103, A60, H⟩ := H; (try dsimp only at H); have A6 := Aside0.mk A60; clear A60; by_cases c7 : t103 < 0
            · rw [if_pos c7] at H; have c7b0 : decide (t103 < 0) = true := decide_eq_true c7; clear c7; obtain rfl := Option.some.inj H; have p102 : 0 ≤ (x5_1 : Int) := of_decide_eq_true Da; have q102 : x5_1 < (l0.length : Int) := of_decide_eq_true Da; obtain ⟨ad102, e102, hx102_0, hx102_1⟩ := at_T117 HR0.out x5_1 p102 q102; cases e102
              replace hx102_0 := bz HB.out hx102_0; replace hx102_1 := bz HB.out hx102_1; replace p102 := eq_true p102; replace q102 := eq_true q102; go_wp2_with (first | ((with_reducible refine gate_callee (f := 92) rfl ?_); refine goesL_ (some 23) rfl rfl Tryz.func92 (by kernel_rfl) rfl #[.agg #[.string ((rd_T117 l0 x5_1).f0), .string ((rd_T117 l0 x5_1).f1)], .int .i64 x1_1] rfl Ag ?_; (with_reducible refine (laws_szRdn.calls ((rd_T117 l0 x5_1).f0) ((rd_T117 l0 x5_1).f1) x1_1 t103 _ A6.out).mono ?_); rintro e w8 ⟨rfl, hb⟩; refine ⟨_, rfl, ?_⟩; have n0_ := Aside0.mk (below_step By hb); clear HB; have HB := n0_; clear n0_; (try clear hb); (try clear hb2); (try clear hk); (try clear hi))); go_ret; exact ⟨Rf, By⟩
            · rw [if_neg c7] at H; have c7b0 : decide (t103 < 0) = false := decide_eq_false c7; clear c7; have H' := Aside0.mk H; clear H; have p102 : 0 ≤ (x5_1 : Int) := of_decide_eq_true Da; have q102 : x5_1 < (l0.length : Int) := of_decide_eq_true Da; obtain ⟨ad102, e102, hx102_0, hx102_1⟩ := at_T117 HR0.out x5_1 p102 q102; cases e102
              replace hx102_0 := bz HB.out hx102_0; replace hx102_1 := bz HB.out hx102_1; replace p102 := eq_true p102; replace q102 := eq_true q102; go_wp2_with (first | ((with_reducible refine gate_callee (f := 92) rfl ?_); refine goesL_ (some 23) rfl rfl Tryz.func92 (by kernel_rfl) rfl #[.agg #[.string ((rd_T117 l0 x5_1).f0), .string ((rd_T117 l0 x5_1).f1)], .int .i64 x1_1] rfl Ag ?_; (with_reducible refine (laws_szRdn.calls ((rd_T117 l0 x5_1).f0) ((rd_T117 l0 x5_1).f1) x1_1 t103 _ A6.out).mono ?_); rintro e w9 ⟨rfl, hb⟩; refine ⟨_, rfl, ?_⟩; have n0_ := Aside0.mk (below_step By hb); clear HB; have HB := n0_; clear n0_; (try clear hb); (try clear hb2); (try clear hk); (try clear hi))); go_roundg k1
              case measure => have := HK1.out; omega
              case rel => exact ⟨(t103), (wrap64 (x5_1 + 1)), (by first | rfl | (simp; done) | (simp [*]; done)), (by first | rfl | (simp; done) | (simp [*]; done)), H', ⟨by have := HK1.out; omega⟩, ⟨By⟩⟩
          · rw [if_neg c5] at H; exact absurd H (by simp)
        · rw [if_neg c4] at H; have c4b0 : decide (x5_1 < (l0.length : Int)) = false := decide_eq_false c4; clear c4; obtain rfl := Option.some.inj H; go_wp2; go_ret; exact ⟨Rf, By⟩

set_option linter.unusedVariables false
set_option linter.unusedSimpArgs false

/-! ### laws_szNode: function 126 -/
def laws_szNode.f (a0_0 : Int) (a0_1 : ByteArray) (a0_2 : ByteArray) (a0_3 : Int) (a1 : Int) : Option (Int) := if (wrap64 (a1 - (a0_1.size : Int))) < 0 then (some (-1)) else (if (wrap64 ((wrap64 (a1 - (a0_1.size : Int))) - (a0_2.size : Int))) < 0 then (some (-1)) else (some (wrap64 ((wrap64 (a1 - (a0_1.size : Int))) - (a0_2.size : Int)))))
set_option maxHeartbeats 8000000 in
set_option maxRecDepth 100000 in
theorem laws_szNode.calls (a0_0 : Int) (a0_1 : ByteArray) (a0_2 : ByteArray) (a0_3 : Int) (a1 : Int) (r : Int) (w : World) (h : laws_szNode.f a0_0 a0_1 a0_2 a0_3 a1 = some r) :
    Calls Tryz.prog 126 #[.agg #[.int .i64 a0_0, .string a0_1, .string a0_2, .int .i64 a0_3], .int .i64 a1] w fun e w' => e = .returned (.int .i64 r) ∧ Below w.heap.size w w' := by
  have hu148 := Tryz.underlying148; have HB := Aside0.mk (Below.refl w.heap.size w); have H : (if (wrap64 (a1 - (a0_1.size : Int))) < 0 then (some (-1)) else (if (wrap64 ((wrap64 (a1 - (a0_1.size : Int))) - (a0_2.size : Int))) < 0 then (some (-1)) else (some (wrap64 ((wrap64 (a1 - (a0_1.size : Int))) - (a0_2.size : Int)))))) = some r := h; clear h; by_cases c3 : (wrap64 (a1 - (a0_1.size : Int))) < 0
  · rw [if_pos c3] at H; have c3b0 : decide ((wrap64 (a1 - (a0_1.size : Int))) < 0) = true := decide_eq_true c3; clear c3; obtain rfl := Option.some.inj H; go_enter Tryz.func126, Tryz.ntmps126; go_wp2_with (first | ((with_reducible refine gate_dst (N := 2) rfl ?_); refine box_event ?hg (N := 2) ?hd (cs := #[.int .i64 a0_0, .string a0_1, .string a0_2, .int .i64 a0_3]) (t := 148) ?hr ?_; (case hd => rfl); (case hg => rfl); (case hr => first | (go_simp; done) | (go_simp; rfl)); intro gb104 hg w4 hbox hb; have n_ := aa (below_step By hb) <| aa (hbox) <| aa ((by rw [hg]; exact (below_size By) : w.heap.size ≤ gb104)) <| Aside0.mk ((by rw [hg]; exact (below_size By) : w.heap.size ≤ gb104)); clear HB; obtain ⟨HB, BK104, GW104, GE104⟩ := n_; clear hb hbox hg; have ⟨hcz5_0, hcz5_1, hcz5_2, hcz5_3⟩ := cq4 BK104.out; have ⟨hfz5_0, hfz5_1, hfz5_2, hfz5_3⟩ := fq4 BK104.out)); go_ret; exact ⟨Rf, By⟩
  · rw [if_neg c3] at H; have c3b0 : decide ((wrap64 (a1 - (a0_1.size : Int))) < 0) = false := decide_eq_false c3; clear c3; by_cases c6 : (wrap64 ((wrap64 (a1 - (a0_1.size : Int))) - (a0_2.size : Int))) < 0
    · rw [if_pos c6] at H; have c6b0 : decide ((wrap64 ((wrap64 (a1 - (a0_1.size : Int))) - (a0_2.size : Int))) < 0) = true := decide_eq_true c6; clear c6; obtain rfl := Option.some.inj H; go_enter Tryz.func126, Tryz.ntmps126; go_wp2_with (first | ((with_reducible refine gate_dst (N := 2) rfl ?_); refine box_event ?hg (N := 2) ?hd (cs := #[.int .i64 a0_0, .string a0_1, .string a0_2, .int .i64 a0_3]) (t := 148) ?hr ?_; (case hd => rfl); (case hg => rfl); (case hr => first | (go_simp; done) | (go_simp; rfl)); intro gb104 hg w7 hbox hb; have n_ := aa (below_step By hb) <| aa (hbox) <| aa ((by rw [hg]; exact (below_size By) : w.heap.size ≤ gb104)) <| Aside0.mk ((by rw [hg]; exact (below_size By) : w.heap.size ≤ gb104)); clear HB; obtain ⟨HB, BK104, GW104, GE104⟩ := n_; clear hb hbox hg; have ⟨hcz8_0, hcz8_1, hcz8_2, hcz8_3⟩ := cq4 BK104.out; have ⟨hfz8_0, hfz8_1, hfz8_2, hfz8_3⟩ := fq4 BK104.out)); go_ret; exact ⟨Rf, By⟩
    · rw [if_neg c6] at H; have c6b0 : decide ((wrap64 ((wrap64 (a1 - (a0_1.size : Int))) - (a0_2.size : Int))) < 0) = false := decide_eq_false c6; clear c6; obtain rfl := Option.some.inj H; go_enter Tryz.func126, Tryz.ntmps126; go_wp2_with (first | ((with_reducible refine gate_dst (N := 2) rfl ?_); refine box_event ?hg (N := 2) ?hd (cs := #[.int .i64 a0_0, .string a0_1, .string a0_2, .int .i64 a0_3]) (t := 148) ?hr ?_; (case hd => rfl); (case hg => rfl); (case hr => first | (go_simp; done) | (go_simp; rfl)); intro gb104 hg w9 hbox hb; have n_ := aa (below_step By hb) <| aa (hbox) <| aa ((by rw [hg]; exact (below_size By) : w.heap.size ≤ gb104)) <| Aside0.mk ((by rw [hg]; exact (below_size By) : w.heap.size ≤ gb104)); clear HB; obtain ⟨HB, BK104, GW104, GE104⟩ := n_; clear hb hbox hg; have ⟨hcz10_0, hcz10_1, hcz10_2, hcz10_3⟩ := cq4 BK104.out; have ⟨hfz10_0, hfz10_1, hfz10_2, hfz10_3⟩ := fq4 BK104.out)); go_ret; exact ⟨Rf, By⟩

set_option linter.unusedVariables false
set_option linter.unusedSimpArgs false

/-! ### laws_szNodeS: function 72 -/
def laws_szNodeS.l0 : Nat → List (S148) → Int → Int → Option (Int)
  | 0, _, _, _ => none
  | k + 1, x0, x1, x5 => if x5 < (x0.length : Int) then (if 0 ≤ x5 then ((laws_szNode.f ((rd_T148 x0 x5).f0) ((rd_T148 x0 x5).f1) ((rd_T148 x0 x5).f2) ((rd_T148 x0 x5).f3) x1).bind fun t106 => (if t106 < 0 then (some (-1)) else (laws_szNodeS.l0 k x0 t106 (wrap64 (x5 + 1))))) else (none)) else (some x1)
def laws_szNodeS.f (k : Nat) (l0 : List (S148)) (a1 : Int) : Option (Int) := if (wrap64 (a1 - (l0.length : Int))) < 0 then (some (-1)) else (laws_szNodeS.l0 k l0 (wrap64 (a1 - (l0.length : Int))) 0)
theorem laws_szNodeS.mono_l : ∀ k, (∀ y0 y1 y2, LeO (laws_szNodeS.l0 k y0 y1 y2) (laws_szNodeS.l0 (k + 1) y0 y1 y2))
  | 0 => fun _ _ _ r h => by simp [laws_szNodeS.l0] at h
  | k + 1 => by
    have ih0 := laws_szNodeS.mono_l k
    · intro y0 y1 y2; unfold laws_szNodeS.l0; repeat' first
      | (with_reducible exact ih0 _ _ _)
      | (with_reducible exact LeO.refl _)
      | (with_reducible exact LeO.none _)
      | (with_reducible refine LeO.ite ?_ ?_)
      | (with_reducible refine LeO.bind ?_ (fun _ => ?_))
theorem laws_szNodeS.mono : ∀ a0 a1 k, LeO (laws_szNodeS.f k a0 a1) (laws_szNodeS.f (k + 1) a0 a1) := by
  intro a0 a1 k; have ih0 := laws_szNodeS.mono_l k; unfold laws_szNodeS.f; repeat' first
      | (with_reducible exact ih0 _ _ _)
      | (with_reducible exact LeO.refl _)
      | (with_reducible exact LeO.none _)
      | (with_reducible refine LeO.ite ?_ ?_)
      | (with_reducible refine LeO.bind ?_ (fun _ => ?_))
set_option maxHeartbeats 8000000 in
set_option maxRecDepth 100000 in
theorem laws_szNodeS.calls (k : Nat) (A0 : Option Addr) (c0 : Nat) (l0 : List (S148)) (a1 : Int) (r : Int) (w : World) (hr0 : Kd.C k148 w A0 l0.length l0) (hc0 : l0.length ≤ c0) (h : laws_szNodeS.f k l0 a1 = some r) :
    Calls Tryz.prog 72 #[.slice A0 l0.length c0, .int .i64 a1] w fun e w' => e = .returned (.int .i64 r) ∧ Below w.heap.size w w' := by
  have hu148 := Tryz.underlying148; have HR0 := Aside0.mk hr0; have HC0 := Aside0.mk hc0; clear hr0 hc0; have HB := Aside0.mk (Below.refl w.heap.size w); have H : (if (wrap64 (a1 - (l0.length : Int))) < 0 then (some (-1)) else (laws_szNodeS.l0 k l0 (wrap64 (a1 - (l0.length : Int))) 0)) = some r := h; clear h; by_cases c3 : (wrap64 (a1 - (l0.length : Int))) < 0
  · rw [if_pos c3] at H; have c3b0 : decide ((wrap64 (a1 - (l0.length : Int))) < 0) = true := decide_eq_true c3; clear c3; obtain rfl := Option.some.inj H; go_enter Tryz.func72, Tryz.ntmps72; go_wp2; go_ret; exact ⟨Rf, By⟩
  · rw [if_neg c3] at H; have c3b0 : decide ((wrap64 (a1 - (l0.length : Int))) < 0) = false := decide_eq_false c3; clear c3; have H' := Aside0.mk H; clear H; go_enter Tryz.func72, Tryz.ntmps72; go_wp2; go_loopg [1, 5] k (fun kq v1 v5 w' => ∃ (x1_1 : Int) (x5_1 : Int), v1 = .int .i64 x1_1 ∧ v5 = .int .i64 x5_1 ∧ Aside0 (laws_szNodeS.l0 kq l0 x1_1 x5_1 = some r) ∧ Aside0 (kq ≤ k) ∧ Aside0 (Below w.heap.size w w'))
    case atStart => exact ⟨(wrap64 (a1 - (l0.length : Int))), (0), (by first | rfl | (simp; done) | (simp [*]; done)), (by first | rfl | (simp; done) | (simp [*]; done)), H', ⟨Nat.le_refl _⟩, ⟨By⟩⟩
    case round =>
      clear H'; try clear p2
      try clear c3
      try clear c3b0
      obtain ⟨x1_1, x5_1, rfl, rfl, HA, HK1, HB⟩ := hrel; cases gk with
      | zero => exact absurd HA.out (by simp [laws_szNodeS.l0])
      | succ k1 =>
        have H := HA.out; clear HA; simp only [laws_szNodeS.l0] at H; by_cases c4 : x5_1 < (l0.length : Int)
        · rw [if_pos c4] at H; have c4b0 : decide (x5_1 < (l0.length : Int)) = true := decide_eq_true c4; clear c4; by_cases c5 : 0 ≤ x5_1
          · rw [if_pos c5] at H; have c5b0 : decide (0 ≤ x5_1) = true := decide_eq_true c5; clear c5; replace H := Option.bind_eq_some_iff.mp H; obtain ⟨t106, A60, H⟩ := H; (try dsimp only at H); have A6 := Aside0.mk A60; clear A60; by_cases c7 : t106 < 0
            · rw [if_pos c7] at H; have c7b0 : decide (t106 < 0) = true := decide_eq_true c7; clear c7; obtain rfl := Option.some.inj H; have p105 : 0 ≤ (x5_1 : Int) := of_decide_eq_true Da; have q105 : x5_1 < (l0.length : Int) := of_decide_eq_true Da; obtain ⟨ad105, e105, hx105_0, hx105_1, hx105_2, hx105_3⟩ := at_T148 HR0.out x5_1 p105 q105; cases e105
              replace hx105_0 := bz HB.out hx105_0; replace hx105_1 := bz HB.out hx105_1; replace hx105_2 := bz HB.out hx105_2; replace hx105_3 := bz HB.out hx105_3; replace p105 := eq_true p105; replace q105 := eq_true q105; go_wp2_with (first | ((with_reducible refine gate_callee (f := 126) rfl ?_); refine goesL_ (some 23) rfl rfl Tryz.func126 (by kernel_rfl) rfl #[.agg #[.int .i64 ((rd_T148 l0 x5_1).f0), .string ((rd_T148 l0 x5_1).f1), .string ((rd_T148 l0 x5_1).f2), .int .i64 ((rd_T148 l0 x5_1).f3)], .int .i64 x1_1] rfl Ag ?_; (with_reducible refine (laws_szNode.calls ((rd_T148 l0 x5_1).f0) ((rd_T148 l0 x5_1).f1) ((rd_T148 l0 x5_1).f2) ((rd_T148 l0 x5_1).f3) x1_1 t106 _ A6.out).mono ?_); rintro e w8 ⟨rfl, hb⟩; refine ⟨_, rfl, ?_⟩; have n0_ := Aside0.mk (below_step By hb); clear HB; have HB := n0_; clear n0_; (try clear hb); (try clear hb2); (try clear hk); (try clear hi))); go_ret; exact ⟨Rf, By⟩
            · rw [if_neg c7] at H; have c7b0 : decide (t106 < 0) = false := decide_eq_false c7; clear c7; have H' := Aside0.mk H; clear H; have p105 : 0 ≤ (x5_1 : Int) := of_decide_eq_true Da; have q105 : x5_1 < (l0.length : Int) := of_decide_eq_true Da; obtain ⟨ad105, e105, hx105_0, hx105_1, hx105_2, hx105_3⟩ := at_T148 HR0.out x5_1 p105 q105; cases e105
              replace hx105_0 := bz HB.out hx105_0; replace hx105_1 := bz HB.out hx105_1; replace hx105_2 := bz HB.out hx105_2; replace hx105_3 := bz HB.out hx105_3; replace p105 := eq_true p105; replace q105 := eq_true q105; go_wp2_with (first | ((with_reducible refine gate_callee (f := 126) rfl ?_); refine goesL_ (some 23) rfl rfl Tryz.func126 (by kernel_rfl) rfl #[.agg #[.int .i64 ((rd_T148 l0 x5_1).f0), .string ((rd_T148 l0 x5_1).f1), .string ((rd_T148 l0 x5_1).f2), .int .i64 ((rd_T148 l0 x5_1).f3)], .int .i64 x1_1] rfl Ag ?_; (with_reducible refine (laws_szNode.calls ((rd_T148 l0 x5_1).f0) ((rd_T148 l0 x5_1).f1) ((rd_T148 l0 x5_1).f2) ((rd_T148 l0 x5_1).f3) x1_1 t106 _ A6.out).mono ?_); rintro e w9 ⟨rfl, hb⟩; refine ⟨_, rfl, ?_⟩; have n0_ := Aside0.mk (below_step By hb); clear HB; have HB := n0_; clear n0_; (try clear hb); (try clear hb2); (try clear hk); (try clear hi))); go_roundg k1
              case measure => have := HK1.out; omega
              case rel => exact ⟨(t106), (wrap64 (x5_1 + 1)), (by first | rfl | (simp; done) | (simp [*]; done)), (by first | rfl | (simp; done) | (simp [*]; done)), H', ⟨by have := HK1.out; omega⟩, ⟨By⟩⟩
          · rw [if_neg c5] at H; exact absurd H (by simp)
        · rw [if_neg c4] at H; have c4b0 : decide (x5_1 < (l0.length : Int)) = false := decide_eq_false c4; clear c4; obtain rfl := Option.some.inj H; go_wp2; go_ret; exact ⟨Rf, By⟩

set_option linter.unusedVariables false
set_option linter.unusedSimpArgs false

/-! ### laws_szPart: function 127 -/
def laws_szPart.f (a0_0 : Int) (a0_1 : ByteArray) (a0_2 : Int) (a1 : Int) : Option (Int) := if (wrap64 (a1 - (a0_1.size : Int))) < 0 then (some (-1)) else (some (wrap64 (a1 - (a0_1.size : Int))))
set_option maxHeartbeats 8000000 in
set_option maxRecDepth 100000 in
theorem laws_szPart.calls (a0_0 : Int) (a0_1 : ByteArray) (a0_2 : Int) (a1 : Int) (r : Int) (w : World) (h : laws_szPart.f a0_0 a0_1 a0_2 a1 = some r) :
    Calls Tryz.prog 127 #[.agg #[.int .i64 a0_0, .string a0_1, .int .i64 a0_2], .int .i64 a1] w fun e w' => e = .returned (.int .i64 r) ∧ Below w.heap.size w w' := by
  have hu151 := Tryz.underlying151; have HB := Aside0.mk (Below.refl w.heap.size w); have H : (if (wrap64 (a1 - (a0_1.size : Int))) < 0 then (some (-1)) else (some (wrap64 (a1 - (a0_1.size : Int))))) = some r := h; clear h; by_cases c3 : (wrap64 (a1 - (a0_1.size : Int))) < 0
  · rw [if_pos c3] at H; have c3b0 : decide ((wrap64 (a1 - (a0_1.size : Int))) < 0) = true := decide_eq_true c3; clear c3; obtain rfl := Option.some.inj H; go_enter Tryz.func127, Tryz.ntmps127; go_wp2_with (first | ((with_reducible refine gate_dst (N := 2) rfl ?_); refine box_event ?hg (N := 2) ?hd (cs := #[.int .i64 a0_0, .string a0_1, .int .i64 a0_2]) (t := 151) ?hr ?_; (case hd => rfl); (case hg => rfl); (case hr => first | (go_simp; done) | (go_simp; rfl)); intro gb107 hg w4 hbox hb; have n_ := aa (below_step By hb) <| aa (hbox) <| aa ((by rw [hg]; exact (below_size By) : w.heap.size ≤ gb107)) <| Aside0.mk ((by rw [hg]; exact (below_size By) : w.heap.size ≤ gb107)); clear HB; obtain ⟨HB, BK107, GW107, GE107⟩ := n_; clear hb hbox hg; have ⟨hcz5_0, hcz5_1, hcz5_2⟩ := cq3 BK107.out; have ⟨hfz5_0, hfz5_1, hfz5_2⟩ := fq3 BK107.out)); go_ret; exact ⟨Rf, By⟩
  · rw [if_neg c3] at H; have c3b0 : decide ((wrap64 (a1 - (a0_1.size : Int))) < 0) = false := decide_eq_false c3; clear c3; obtain rfl := Option.some.inj H; go_enter Tryz.func127, Tryz.ntmps127; go_wp2_with (first | ((with_reducible refine gate_dst (N := 2) rfl ?_); refine box_event ?hg (N := 2) ?hd (cs := #[.int .i64 a0_0, .string a0_1, .int .i64 a0_2]) (t := 151) ?hr ?_; (case hd => rfl); (case hg => rfl); (case hr => first | (go_simp; done) | (go_simp; rfl)); intro gb107 hg w6 hbox hb; have n_ := aa (below_step By hb) <| aa (hbox) <| aa ((by rw [hg]; exact (below_size By) : w.heap.size ≤ gb107)) <| Aside0.mk ((by rw [hg]; exact (below_size By) : w.heap.size ≤ gb107)); clear HB; obtain ⟨HB, BK107, GW107, GE107⟩ := n_; clear hb hbox hg; have ⟨hcz7_0, hcz7_1, hcz7_2⟩ := cq3 BK107.out; have ⟨hfz7_0, hfz7_1, hfz7_2⟩ := fq3 BK107.out)); go_ret; exact ⟨Rf, By⟩

set_option linter.unusedVariables false
set_option linter.unusedSimpArgs false

/-! ### laws_szPartS: function 73 -/
def laws_szPartS.l0 : Nat → List (S151) → Int → Int → Option (Int)
  | 0, _, _, _ => none
  | k + 1, x0, x1, x5 => if x5 < (x0.length : Int) then (if 0 ≤ x5 then ((laws_szPart.f ((rd_T151 x0 x5).f0) ((rd_T151 x0 x5).f1) ((rd_T151 x0 x5).f2) x1).bind fun t109 => (if t109 < 0 then (some (-1)) else (laws_szPartS.l0 k x0 t109 (wrap64 (x5 + 1))))) else (none)) else (some x1)
def laws_szPartS.f (k : Nat) (l0 : List (S151)) (a1 : Int) : Option (Int) := if (wrap64 (a1 - (l0.length : Int))) < 0 then (some (-1)) else (laws_szPartS.l0 k l0 (wrap64 (a1 - (l0.length : Int))) 0)
theorem laws_szPartS.mono_l : ∀ k, (∀ y0 y1 y2, LeO (laws_szPartS.l0 k y0 y1 y2) (laws_szPartS.l0 (k + 1) y0 y1 y2))
  | 0 => fun _ _ _ r h => by simp [laws_szPartS.l0] at h
  | k + 1 => by
    have ih0 := laws_szPartS.mono_l k
    · intro y0 y1 y2; unfold laws_szPartS.l0; repeat' first
      | (with_reducible exact ih0 _ _ _)
      | (with_reducible exact LeO.refl _)
      | (with_reducible exact LeO.none _)
      | (with_reducible refine LeO.ite ?_ ?_)
      | (with_reducible refine LeO.bind ?_ (fun _ => ?_))
theorem laws_szPartS.mono : ∀ a0 a1 k, LeO (laws_szPartS.f k a0 a1) (laws_szPartS.f (k + 1) a0 a1) := by
  intro a0 a1 k; have ih0 := laws_szPartS.mono_l k; unfold laws_szPartS.f; repeat' first
      | (with_reducible exact ih0 _ _ _)
      | (with_reducible exact LeO.refl _)
      | (with_reducible exact LeO.none _)
      | (with_reducible refine LeO.ite ?_ ?_)
      | (with_reducible refine LeO.bind ?_ (fun _ => ?_))
set_option maxHeartbeats 8000000 in
set_option maxRecDepth 100000 in
theorem laws_szPartS.calls (k : Nat) (A0 : Option Addr) (c0 : Nat) (l0 : List (S151)) (a1 : Int) (r : Int) (w : World) (hr0 : Kd.C k151 w A0 l0.length l0) (hc0 : l0.length ≤ c0) (h : laws_szPartS.f k l0 a1 = some r) :
    Calls Tryz.prog 73 #[.slice A0 l0.length c0, .int .i64 a1] w fun e w' => e = .returned (.int .i64 r) ∧ Below w.heap.size w w' := by
  have hu151 := Tryz.underlying151; have HR0 := Aside0.mk hr0; have HC0 := Aside0.mk hc0; clear hr0 hc0; have HB := Aside0.mk (Below.refl w.heap.size w); have H : (if (wrap64 (a1 - (l0.length : Int))) < 0 then (some (-1)) else (laws_szPartS.l0 k l0 (wrap64 (a1 - (l0.length : Int))) 0)) = some r := h; clear h; by_cases c3 : (wrap64 (a1 - (l0.length : Int))) < 0
  · rw [if_pos c3] at H; have c3b0 : decide ((wrap64 (a1 - (l0.length : Int))) < 0) = true := decide_eq_true c3; clear c3; obtain rfl := Option.some.inj H; go_enter Tryz.func73, Tryz.ntmps73; go_wp2; go_ret; exact ⟨Rf, By⟩
  · rw [if_neg c3] at H; have c3b0 : decide ((wrap64 (a1 - (l0.length : Int))) < 0) = false := decide_eq_false c3; clear c3; have H' := Aside0.mk H; clear H; go_enter Tryz.func73, Tryz.ntmps73; go_wp2; go_loopg [1, 5] k (fun kq v1 v5 w' => ∃ (x1_1 : Int) (x5_1 : Int), v1 = .int .i64 x1_1 ∧ v5 = .int .i64 x5_1 ∧ Aside0 (laws_szPartS.l0 kq l0 x1_1 x5_1 = some r) ∧ Aside0 (kq ≤ k) ∧ Aside0 (Below w.heap.size w w'))
    case atStart => exact ⟨(wrap64 (a1 - (l0.length : Int))), (0), (by first | rfl | (simp; done) | (simp [*]; done)), (by first | rfl | (simp; done) | (simp [*]; done)), H', ⟨Nat.le_refl _⟩, ⟨By⟩⟩
    case round =>
      clear H'; try clear p2
      try clear c3
      try clear c3b0
      obtain ⟨x1_1, x5_1, rfl, rfl, HA, HK1, HB⟩ := hrel; cases gk with
      | zero => exact absurd HA.out (by simp [laws_szPartS.l0])
      | succ k1 =>
        have H := HA.out; clear HA; simp only [laws_szPartS.l0] at H; by_cases c4 : x5_1 < (l0.length : Int)
        · rw [if_pos c4] at H; have c4b0 : decide (x5_1 < (l0.length : Int)) = true := decide_eq_true c4; clear c4; by_cases c5 : 0 ≤ x5_1
          · rw [if_pos c5] at H; have c5b0 : decide (0 ≤ x5_1) = true := decide_eq_true c5; clear c5; replace H := Option.bind_eq_some_iff.mp H; obtain ⟨t109, A60, H⟩ := H; (try dsimp only at H); have A6 := Aside0.mk A60; clear A60; by_cases c7 : t109 < 0
            · rw [if_pos c7] at H; have c7b0 : decide (t109 < 0) = true := decide_eq_true c7; clear c7; obtain rfl := Option.some.inj H; have p108 : 0 ≤ (x5_1 : Int) := of_decide_eq_true Da; have q108 : x5_1 < (l0.length : Int) := of_decide_eq_true Da; obtain ⟨ad108, e108, hx108_0, hx108_1, hx108_2⟩ := at_T151 HR0.out x5_1 p108 q108; cases e108
              replace hx108_0 := bz HB.out hx108_0; replace hx108_1 := bz HB.out hx108_1; replace hx108_2 := bz HB.out hx108_2; replace p108 := eq_true p108; replace q108 := eq_true q108; go_wp2_with (first | ((with_reducible refine gate_callee (f := 127) rfl ?_); refine goesL_ (some 23) rfl rfl Tryz.func127 (by kernel_rfl) rfl #[.agg #[.int .i64 ((rd_T151 l0 x5_1).f0), .string ((rd_T151 l0 x5_1).f1), .int .i64 ((rd_T151 l0 x5_1).f2)], .int .i64 x1_1] rfl Ag ?_; (with_reducible refine (laws_szPart.calls ((rd_T151 l0 x5_1).f0) ((rd_T151 l0 x5_1).f1) ((rd_T151 l0 x5_1).f2) x1_1 t109 _ A6.out).mono ?_); rintro e w8 ⟨rfl, hb⟩; refine ⟨_, rfl, ?_⟩; have n0_ := Aside0.mk (below_step By hb); clear HB; have HB := n0_; clear n0_; (try clear hb); (try clear hb2); (try clear hk); (try clear hi))); go_ret; exact ⟨Rf, By⟩
            · rw [if_neg c7] at H; have c7b0 : decide (t109 < 0) = false := decide_eq_false c7; clear c7; have H' := Aside0.mk H; clear H; have p108 : 0 ≤ (x5_1 : Int) := of_decide_eq_true Da; have q108 : x5_1 < (l0.length : Int) := of_decide_eq_true Da; obtain ⟨ad108, e108, hx108_0, hx108_1, hx108_2⟩ := at_T151 HR0.out x5_1 p108 q108; cases e108
              replace hx108_0 := bz HB.out hx108_0; replace hx108_1 := bz HB.out hx108_1; replace hx108_2 := bz HB.out hx108_2; replace p108 := eq_true p108; replace q108 := eq_true q108; go_wp2_with (first | ((with_reducible refine gate_callee (f := 127) rfl ?_); refine goesL_ (some 23) rfl rfl Tryz.func127 (by kernel_rfl) rfl #[.agg #[.int .i64 ((rd_T151 l0 x5_1).f0), .string ((rd_T151 l0 x5_1).f1), .int .i64 ((rd_T151 l0 x5_1).f2)], .int .i64 x1_1] rfl Ag ?_; (with_reducible refine (laws_szPart.calls ((rd_T151 l0 x5_1).f0) ((rd_T151 l0 x5_1).f1) ((rd_T151 l0 x5_1).f2) x1_1 t109 _ A6.out).mono ?_); rintro e w9 ⟨rfl, hb⟩; refine ⟨_, rfl, ?_⟩; have n0_ := Aside0.mk (below_step By hb); clear HB; have HB := n0_; clear n0_; (try clear hb); (try clear hb2); (try clear hk); (try clear hi))); go_roundg k1
              case measure => have := HK1.out; omega
              case rel => exact ⟨(t109), (wrap64 (x5_1 + 1)), (by first | rfl | (simp; done) | (simp [*]; done)), (by first | rfl | (simp; done) | (simp [*]; done)), H', ⟨by have := HK1.out; omega⟩, ⟨By⟩⟩
          · rw [if_neg c5] at H; exact absurd H (by simp)
        · rw [if_neg c4] at H; have c4b0 : decide (x5_1 < (l0.length : Int)) = false := decide_eq_false c4; clear c4; obtain rfl := Option.some.inj H; go_wp2; go_ret; exact ⟨Rf, By⟩

set_option linter.unusedVariables false
set_option linter.unusedSimpArgs false

/-! ### laws_szFlow: function 29 -/
def laws_szFlow.f (k : Nat) (l0_0 : List (S117)) (l0_1 : List (S148)) (l0_2 : List (S151)) (l0_3 : List (S151)) (l0_4 : List (S151)) (a0_5 : Bool) (a1 : Int) : Option (Int) := (laws_szRdnS.f k l0_0 a1).bind fun t111 => (if t111 < 0 then (some (-1)) else ((laws_szNodeS.f k l0_1 t111).bind fun t112 => (if t112 < 0 then (some (-1)) else ((laws_szPartS.f k l0_2 t112).bind fun t113 => (if t113 < 0 then (some (-1)) else ((laws_szPartS.f k l0_3 t113).bind fun t114 => (if t114 < 0 then (some (-1)) else ((laws_szPartS.f k l0_4 t114).bind fun t115 => (if t115 < 0 then (some (-1)) else (some t115))))))))))
theorem laws_szFlow.mono : ∀ a0 a1 a2 a3 a4 a5 a6 k, LeO (laws_szFlow.f k a0 a1 a2 a3 a4 a5 a6) (laws_szFlow.f (k + 1) a0 a1 a2 a3 a4 a5 a6) := by
  intro a0 a1 a2 a3 a4 a5 a6 k; unfold laws_szFlow.f; repeat' first
      | (with_reducible exact laws_szNodeS.mono _ _ _)
      | (with_reducible exact laws_szPartS.mono _ _ _)
      | (with_reducible exact laws_szRdnS.mono _ _ _)
      | (with_reducible exact LeO.refl _)
      | (with_reducible exact LeO.none _)
      | (with_reducible refine LeO.ite ?_ ?_)
      | (with_reducible refine LeO.bind ?_ (fun _ => ?_))
set_option maxHeartbeats 8000000 in
set_option maxRecDepth 100000 in
theorem laws_szFlow.calls (k : Nat) (A0_0 : Option Addr) (c0_0 : Nat) (l0_0 : List (S117)) (A0_1 : Option Addr) (c0_1 : Nat) (l0_1 : List (S148)) (A0_2 : Option Addr) (c0_2 : Nat) (l0_2 : List (S151)) (A0_3 : Option Addr) (c0_3 : Nat) (l0_3 : List (S151)) (A0_4 : Option Addr) (c0_4 : Nat) (l0_4 : List (S151)) (a0_5 : Bool) (a1 : Int) (r : Int) (w : World) (hr0_0 : Kd.C k117 w A0_0 l0_0.length l0_0) (hc0_0 : l0_0.length ≤ c0_0) (hr0_1 : Kd.C k148 w A0_1 l0_1.length l0_1) (hc0_1 : l0_1.length ≤ c0_1) (hr0_2 : Kd.C k151 w A0_2 l0_2.length l0_2) (hc0_2 : l0_2.length ≤ c0_2) (hr0_3 : Kd.C k151 w A0_3 l0_3.length l0_3) (hc0_3 : l0_3.length ≤ c0_3) (hr0_4 : Kd.C k151 w A0_4 l0_4.length l0_4) (hc0_4 : l0_4.length ≤ c0_4) (h : laws_szFlow.f k l0_0 l0_1 l0_2 l0_3 l0_4 a0_5 a1 = some r) :
    Calls Tryz.prog 29 #[.agg #[.slice A0_0 l0_0.length c0_0, .slice A0_1 l0_1.length c0_1, .slice A0_2 l0_2.length c0_2, .slice A0_3 l0_3.length c0_3, .slice A0_4 l0_4.length c0_4, .bool a0_5], .int .i64 a1] w fun e w' => e = .returned (.int .i64 r) ∧ Below w.heap.size w w' := by
  have hu59 := Tryz.underlying59; have HR0_0 := Aside0.mk hr0_0; have HC0_0 := Aside0.mk hc0_0; clear hr0_0 hc0_0; have HR0_1 := Aside0.mk hr0_1; have HC0_1 := Aside0.mk hc0_1; clear hr0_1 hc0_1; have HR0_2 := Aside0.mk hr0_2; have HC0_2 := Aside0.mk hc0_2; clear hr0_2 hc0_2; have HR0_3 := Aside0.mk hr0_3; have HC0_3 := Aside0.mk hc0_3; clear hr0_3 hc0_3; have HR0_4 := Aside0.mk hr0_4; have HC0_4 := Aside0.mk hc0_4; clear hr0_4 hc0_4; have HB := Aside0.mk (Below.refl w.heap.size w); have H : ((laws_szRdnS.f k l0_0 a1).bind fun t111 => (if t111 < 0 then (some (-1)) else ((laws_szNodeS.f k l0_1 t111).bind fun t112 => (if t112 < 0 then (some (-1)) else ((laws_szPartS.f k l0_2 t112).bind fun t113 => (if t113 < 0 then (some (-1)) else ((laws_szPartS.f k l0_3 t113).bind fun t114 => (if t114 < 0 then (some (-1)) else ((laws_szPartS.f k l0_4 t114).bind fun t115 => (if t115 < 0 then (some (-1)) else (some t115))))))))))) = some r := h; clear h; replace H := Option.bind_eq_some_iff.mp H; obtain ⟨t111, A30, H⟩ := H; (try dsimp only at H); have A3 := Aside0.mk A30; clear A30; by_cases c4 : t111 < 0
  · rw [if_pos c4] at H; have c4b0 : decide (t111 < 0) = true := decide_eq_true c4; clear c4; obtain rfl := Option.some.inj H; go_enter Tryz.func29, Tryz.ntmps29; go_wp2_with (first | ((with_reducible refine gate_dst (N := 2) rfl ?_); refine box_event ?hg (N := 2) ?hd (cs := #[.slice A0_0 l0_0.length c0_0, .slice A0_1 l0_1.length c0_1, .slice A0_2 l0_2.length c0_2, .slice A0_3 l0_3.length c0_3, .slice A0_4 l0_4.length c0_4, .bool a0_5]) (t := 59) ?hr ?_; (case hd => rfl); (case hg => rfl); (case hr => first | (go_simp; done) | (go_simp; rfl)); intro gb110 hg w5 hbox hb; have n_ := aa (below_step By hb) <| aa (hbox) <| aa ((by rw [hg]; exact (below_size By) : w.heap.size ≤ gb110)) <| Aside0.mk ((by rw [hg]; exact (below_size By) : w.heap.size ≤ gb110)); clear HB; obtain ⟨HB, BK110, GW110, GE110⟩ := n_; clear hb hbox hg; have ⟨hcz6_0, hcz6_1, hcz6_2, hcz6_3, hcz6_4, hcz6_5⟩ := cq6 BK110.out; have ⟨hfz6_0, hfz6_1, hfz6_2, hfz6_3, hfz6_4, hfz6_5⟩ := fq6 BK110.out) | ((with_reducible refine gate_callee (f := 35) rfl ?_); refine goesL_ (some 8) rfl rfl Tryz.func35 (by kernel_rfl) rfl #[.slice A0_0 l0_0.length c0_0, .int .i64 a1] rfl Ag ?_; (with_reducible refine (laws_szRdnS.calls k _ _ l0_0 a1 t111 _ ?side1 ?side2 A3.out).mono ?_); (case side1 => exact rC (Kd.C_below HR0_0.out HB.out)); (case side2 => exact HC0_0.out); rintro e w7 ⟨rfl, hb⟩; refine ⟨_, rfl, ?_⟩; have n_ := aa (bb BK110.out hb) <| Aside0.mk (below_step By hb); clear BK110 HB; obtain ⟨BK110, HB⟩ := n_; (try clear hb); (try clear hb2); (try clear hk); (try clear hi))); go_ret; exact ⟨Rf, By⟩
  · rw [if_neg c4] at H; have c4b0 : decide (t111 < 0) = false := decide_eq_false c4; clear c4; replace H := Option.bind_eq_some_iff.mp H; obtain ⟨t112, A80, H⟩ := H; (try dsimp only at H); have A8 := Aside0.mk A80; clear A80; by_cases c9 : t112 < 0
    · rw [if_pos c9] at H; have c9b0 : decide (t112 < 0) = true := decide_eq_true c9; clear c9; obtain rfl := Option.some.inj H; go_enter Tryz.func29, Tryz.ntmps29; go_wp2_with (first | ((with_reducible refine gate_dst (N := 2) rfl ?_); refine box_event ?hg (N := 2) ?hd (cs := #[.slice A0_0 l0_0.length c0_0, .slice A0_1 l0_1.length c0_1, .slice A0_2 l0_2.length c0_2, .slice A0_3 l0_3.length c0_3, .slice A0_4 l0_4.length c0_4, .bool a0_5]) (t := 59) ?hr ?_; (case hd => rfl); (case hg => rfl); (case hr => first | (go_simp; done) | (go_simp; rfl)); intro gb110 hg w10 hbox hb; have n_ := aa (below_step By hb) <| aa (hbox) <| aa ((by rw [hg]; exact (below_size By) : w.heap.size ≤ gb110)) <| Aside0.mk ((by rw [hg]; exact (below_size By) : w.heap.size ≤ gb110)); clear HB; obtain ⟨HB, BK110, GW110, GE110⟩ := n_; clear hb hbox hg; have ⟨hcz11_0, hcz11_1, hcz11_2, hcz11_3, hcz11_4, hcz11_5⟩ := cq6 BK110.out; have ⟨hfz11_0, hfz11_1, hfz11_2, hfz11_3, hfz11_4, hfz11_5⟩ := fq6 BK110.out) | ((with_reducible refine gate_callee (f := 35) rfl ?_); refine goesL_ (some 8) rfl rfl Tryz.func35 (by kernel_rfl) rfl #[.slice A0_0 l0_0.length c0_0, .int .i64 a1] rfl Ag ?_; (with_reducible refine (laws_szRdnS.calls k _ _ l0_0 a1 t111 _ ?side1 ?side2 A3.out).mono ?_); (case side1 => exact rC (Kd.C_below HR0_0.out HB.out)); (case side2 => exact HC0_0.out); rintro e w12 ⟨rfl, hb⟩; refine ⟨_, rfl, ?_⟩; have n_ := aa (bb BK110.out hb) <| Aside0.mk (below_step By hb); clear BK110 HB; obtain ⟨BK110, HB⟩ := n_; (try clear hb); (try clear hb2); (try clear hk); (try clear hi); have ⟨hcz13_0, hcz13_1, hcz13_2, hcz13_3, hcz13_4, hcz13_5⟩ := cq6 BK110.out; have ⟨hfz13_0, hfz13_1, hfz13_2, hfz13_3, hfz13_4, hfz13_5⟩ := fq6 BK110.out) | ((with_reducible refine gate_callee (f := 72) rfl ?_); refine goesL_ (some 14) rfl rfl Tryz.func72 (by kernel_rfl) rfl #[.slice A0_1 l0_1.length c0_1, .int .i64 t111] rfl Ag ?_; (with_reducible refine (laws_szNodeS.calls k _ _ l0_1 t111 t112 _ ?side1 ?side2 A8.out).mono ?_); (case side1 => exact rC (Kd.C_below HR0_1.out HB.out)); (case side2 => exact HC0_1.out); rintro e w14 ⟨rfl, hb⟩; refine ⟨_, rfl, ?_⟩; have n_ := aa (bb BK110.out hb) <| Aside0.mk (below_step By hb); clear BK110 HB; obtain ⟨BK110, HB⟩ := n_; (try clear hb); (try clear hb2); (try clear hk); (try clear hi))); go_ret; exact ⟨Rf, By⟩
    · rw [if_neg c9] at H; have c9b0 : decide (t112 < 0) = false := decide_eq_false c9; clear c9; replace H := Option.bind_eq_some_iff.mp H; obtain ⟨t113, A150, H⟩ := H; (try dsimp only at H); have A15 := Aside0.mk A150; clear A150; by_cases c16 : t113 < 0
      · rw [if_pos c16] at H; have c16b0 : decide (t113 < 0) = true := decide_eq_true c16; clear c16; obtain rfl := Option.some.inj H; go_enter Tryz.func29, Tryz.ntmps29; go_wp2_with (first | ((with_reducible refine gate_dst (N := 2) rfl ?_); refine box_event ?hg (N := 2) ?hd (cs := #[.slice A0_0 l0_0.length c0_0, .slice A0_1 l0_1.length c0_1, .slice A0_2 l0_2.length c0_2, .slice A0_3 l0_3.length c0_3, .slice A0_4 l0_4.length c0_4, .bool a0_5]) (t := 59) ?hr ?_; (case hd => rfl); (case hg => rfl); (case hr => first | (go_simp; done) | (go_simp; rfl)); intro gb110 hg w17 hbox hb; have n_ := aa (below_step By hb) <| aa (hbox) <| aa ((by rw [hg]; exact (below_size By) : w.heap.size ≤ gb110)) <| Aside0.mk ((by rw [hg]; exact (below_size By) : w.heap.size ≤ gb110)); clear HB; obtain ⟨HB, BK110, GW110, GE110⟩ := n_; clear hb hbox hg; have ⟨hcz18_0, hcz18_1, hcz18_2, hcz18_3, hcz18_4, hcz18_5⟩ := cq6 BK110.out; have ⟨hfz18_0, hfz18_1, hfz18_2, hfz18_3, hfz18_4, hfz18_5⟩ := fq6 BK110.out) | ((with_reducible refine gate_callee (f := 35) rfl ?_); refine goesL_ (some 8) rfl rfl Tryz.func35 (by kernel_rfl) rfl #[.slice A0_0 l0_0.length c0_0, .int .i64 a1] rfl Ag ?_; (with_reducible refine (laws_szRdnS.calls k _ _ l0_0 a1 t111 _ ?side1 ?side2 A3.out).mono ?_); (case side1 => exact rC (Kd.C_below HR0_0.out HB.out)); (case side2 => exact HC0_0.out); rintro e w19 ⟨rfl, hb⟩; refine ⟨_, rfl, ?_⟩; have n_ := aa (bb BK110.out hb) <| Aside0.mk (below_step By hb); clear BK110 HB; obtain ⟨BK110, HB⟩ := n_; (try clear hb); (try clear hb2); (try clear hk); (try clear hi); have ⟨hcz20_0, hcz20_1, hcz20_2, hcz20_3, hcz20_4, hcz20_5⟩ := cq6 BK110.out; have ⟨hfz20_0, hfz20_1, hfz20_2, hfz20_3, hfz20_4, hfz20_5⟩ := fq6 BK110.out) | ((with_reducible refine gate_callee (f := 72) rfl ?_); refine goesL_ (some 14) rfl rfl Tryz.func72 (by kernel_rfl) rfl #[.slice A0_1 l0_1.length c0_1, .int .i64 t111] rfl Ag ?_; (with_reducible refine (laws_szNodeS.calls k _ _ l0_1 t111 t112 _ ?side1 ?side2 A8.out).mono ?_); (case side1 => exact rC (Kd.C_below HR0_1.out HB.out)); (case side2 => exact HC0_1.out); rintro e w21 ⟨rfl, hb⟩; refine ⟨_, rfl, ?_⟩; have n_ := aa (bb BK110.out hb) <| Aside0.mk (below_step By hb); clear BK110 HB; obtain ⟨BK110, HB⟩ := n_; (try clear hb); (try clear hb2); (try clear hk); (try clear hi); have ⟨hcz22_0, hcz22_1, hcz22_2, hcz22_3, hcz22_4, hcz22_5⟩ := cq6 BK110.out; have ⟨hfz22_0, hfz22_1, hfz22_2, hfz22_3, hfz22_4, hfz22_5⟩ := fq6 BK110.out) | ((with_reducible refine gate_callee (f := 73) rfl ?_); refine goesL_ (some 20) rfl rfl Tryz.func73 (by kernel_rfl) rfl #[.slice A0_2 l0_2.length c0_2, .int .i64 t112] rfl Ag ?_; (with_reducible refine (laws_szPartS.calls k _ _ l0_2 t112 t113 _ ?side1 ?side2 A15.out).mono ?_); (case side1 => exact rC (Kd.C_below HR0_2.out HB.out)); (case side2 => exact HC0_2.out); rintro e w23 ⟨rfl, hb⟩; refine ⟨_, rfl, ?_⟩; have n_ := aa (bb BK110.out hb) <| Aside0.mk (below_step By hb); clear BK110 HB; obtain ⟨BK110, HB⟩ := n_; (try clear hb); (try clear hb2); (try clear hk); (try clear hi))); go_ret; exact ⟨Rf, By⟩
      · rw [if_neg c16] at H; have c16b0 : decide (t113 < 0) = false := decide_eq_false c16; clear c16; replace H := Option.bind_eq_some_iff.mp H; obtain ⟨t114, A240, H⟩ := H; (try dsimp only at H); have A24 := Aside0.mk A240; clear A240; by_cases c25 : t114 < 0
        · rw [if_pos c25] at H; have c25b0 : decide (t114 < 0) = true := decide_eq_true c25; clear c25; obtain rfl := Option.some.inj H; go_enter Tryz.func29, Tryz.ntmps29; go_wp2_with (first | ((with_reducible refine gate_dst (N := 2) rfl ?_); refine box_event ?hg (N := 2) ?hd (cs := #[.slice A0_0 l0_0.length c0_0, .slice A0_1 l0_1.length c0_1, .slice A0_2 l0_2.length c0_2, .slice A0_3 l0_3.length c0_3, .slice A0_4 l0_4.length c0_4, .bool a0_5]) (t := 59) ?hr ?_; (case hd => rfl); (case hg => rfl); (case hr => first | (go_simp; done) | (go_simp; rfl)); intro gb110 hg w26 hbox hb; have n_ := aa (below_step By hb) <| aa (hbox) <| aa ((by rw [hg]; exact (below_size By) : w.heap.size ≤ gb110)) <| Aside0.mk ((by rw [hg]; exact (below_size By) : w.heap.size ≤ gb110)); clear HB; obtain ⟨HB, BK110, GW110, GE110⟩ := n_; clear hb hbox hg; have ⟨hcz27_0, hcz27_1, hcz27_2, hcz27_3, hcz27_4, hcz27_5⟩ := cq6 BK110.out; have ⟨hfz27_0, hfz27_1, hfz27_2, hfz27_3, hfz27_4, hfz27_5⟩ := fq6 BK110.out) | ((with_reducible refine gate_callee (f := 35) rfl ?_); refine goesL_ (some 8) rfl rfl Tryz.func35 (by kernel_rfl) rfl #[.slice A0_0 l0_0.length c0_0, .int .i64 a1] rfl Ag ?_; (with_reducible refine (laws_szRdnS.calls k _ _ l0_0 a1 t111 _ ?side1 ?side2 A3.out).mono ?_); (case side1 => exact rC (Kd.C_below HR0_0.out HB.out)); (case side2 => exact HC0_0.out); rintro e w28 ⟨rfl, hb⟩; refine ⟨_, rfl, ?_⟩; have n_ := aa (bb BK110.out hb) <| Aside0.mk (below_step By hb); clear BK110 HB; obtain ⟨BK110, HB⟩ := n_; (try clear hb); (try clear hb2); (try clear hk); (try clear hi); have ⟨hcz29_0, hcz29_1, hcz29_2, hcz29_3, hcz29_4, hcz29_5⟩ := cq6 BK110.out; have ⟨hfz29_0, hfz29_1, hfz29_2, hfz29_3, hfz29_4, hfz29_5⟩ := fq6 BK110.out) | ((with_reducible refine gate_callee (f := 72) rfl ?_); refine goesL_ (some 14) rfl rfl Tryz.func72 (by kernel_rfl) rfl #[.slice A0_1 l0_1.length c0_1, .int .i64 t111] rfl Ag ?_; (with_reducible refine (laws_szNodeS.calls k _ _ l0_1 t111 t112 _ ?side1 ?side2 A8.out).mono ?_); (case side1 => exact rC (Kd.C_below HR0_1.out HB.out)); (case side2 => exact HC0_1.out); rintro e w30 ⟨rfl, hb⟩; refine ⟨_, rfl, ?_⟩; have n_ := aa (bb BK110.out hb) <| Aside0.mk (below_step By hb); clear BK110 HB; obtain ⟨BK110, HB⟩ := n_; (try clear hb); (try clear hb2); (try clear hk); (try clear hi); have ⟨hcz31_0, hcz31_1, hcz31_2, hcz31_3, hcz31_4, hcz31_5⟩ := cq6 BK110.out; have ⟨hfz31_0, hfz31_1, hfz31_2, hfz31_3, hfz31_4, hfz31_5⟩ := fq6 BK110.out) | ((with_reducible refine gate_callee (f := 73) rfl ?_); refine goesL_ (some 20) rfl rfl Tryz.func73 (by kernel_rfl) rfl #[.slice A0_2 l0_2.length c0_2, .int .i64 t112] rfl Ag ?_; (with_reducible refine (laws_szPartS.calls k _ _ l0_2 t112 t113 _ ?side1 ?side2 A15.out).mono ?_); (case side1 => exact rC (Kd.C_below HR0_2.out HB.out)); (case side2 => exact HC0_2.out); rintro e w32 ⟨rfl, hb⟩; refine ⟨_, rfl, ?_⟩; have n_ := aa (bb BK110.out hb) <| Aside0.mk (below_step By hb); clear BK110 HB; obtain ⟨BK110, HB⟩ := n_; (try clear hb); (try clear hb2); (try clear hk); (try clear hi); have ⟨hcz33_0, hcz33_1, hcz33_2, hcz33_3, hcz33_4, hcz33_5⟩ := cq6 BK110.out; have ⟨hfz33_0, hfz33_1, hfz33_2, hfz33_3, hfz33_4, hfz33_5⟩ := fq6 BK110.out) | ((with_reducible refine gate_callee (f := 73) rfl ?_); refine goesL_ (some 26) rfl rfl Tryz.func73 (by kernel_rfl) rfl #[.slice A0_3 l0_3.length c0_3, .int .i64 t113] rfl Ag ?_; (with_reducible refine (laws_szPartS.calls k _ _ l0_3 t113 t114 _ ?side1 ?side2 A24.out).mono ?_); (case side1 => exact rC (Kd.C_below HR0_3.out HB.out)); (case side2 => exact HC0_3.out); rintro e w34 ⟨rfl, hb⟩; refine ⟨_, rfl, ?_⟩; have n_ := aa (bb BK110.out hb) <| Aside0.mk (below_step By hb); clear BK110 HB; obtain ⟨BK110, HB⟩ := n_; (try clear hb); (try clear hb2); (try clear hk); (try clear hi))); go_ret; exact ⟨Rf, By⟩
        · rw [if_neg c25] at H; have c25b0 : decide (t114 < 0) = false := decide_eq_false c25; clear c25; replace H := Option.bind_eq_some_iff.mp H; obtain ⟨t115, A350, H⟩ := H; (try dsimp only at H); have A35 := Aside0.mk A350; clear A350; by_cases c36 : t115 < 0
          · rw [if_pos c36] at H; have c36b0 : decide (t115 < 0) = true := decide_eq_true c36; clear c36; obtain rfl := Option.some.inj H; go_enter Tryz.func29, Tryz.ntmps29; go_wp2_with (first | ((with_reducible refine gate_dst (N := 2) rfl ?_); refine box_event ?hg (N := 2) ?hd (cs := #[.slice A0_0 l0_0.length c0_0, .slice A0_1 l0_1.length c0_1, .slice A0_2 l0_2.length c0_2, .slice A0_3 l0_3.length c0_3, .slice A0_4 l0_4.length c0_4, .bool a0_5]) (t := 59) ?hr ?_; (case hd => rfl); (case hg => rfl); (case hr => first | (go_simp; done) | (go_simp; rfl)); intro gb110 hg w37 hbox hb; have n_ := aa (below_step By hb) <| aa (hbox) <| aa ((by rw [hg]; exact (below_size By) : w.heap.size ≤ gb110)) <| Aside0.mk ((by rw [hg]; exact (below_size By) : w.heap.size ≤ gb110)); clear HB; obtain ⟨HB, BK110, GW110, GE110⟩ := n_; clear hb hbox hg; have ⟨hcz38_0, hcz38_1, hcz38_2, hcz38_3, hcz38_4, hcz38_5⟩ := cq6 BK110.out; have ⟨hfz38_0, hfz38_1, hfz38_2, hfz38_3, hfz38_4, hfz38_5⟩ := fq6 BK110.out) | ((with_reducible refine gate_callee (f := 35) rfl ?_); refine goesL_ (some 8) rfl rfl Tryz.func35 (by kernel_rfl) rfl #[.slice A0_0 l0_0.length c0_0, .int .i64 a1] rfl Ag ?_; (with_reducible refine (laws_szRdnS.calls k _ _ l0_0 a1 t111 _ ?side1 ?side2 A3.out).mono ?_); (case side1 => exact rC (Kd.C_below HR0_0.out HB.out)); (case side2 => exact HC0_0.out); rintro e w39 ⟨rfl, hb⟩; refine ⟨_, rfl, ?_⟩; have n_ := aa (bb BK110.out hb) <| Aside0.mk (below_step By hb); clear BK110 HB; obtain ⟨BK110, HB⟩ := n_; (try clear hb); (try clear hb2); (try clear hk); (try clear hi); have ⟨hcz40_0, hcz40_1, hcz40_2, hcz40_3, hcz40_4, hcz40_5⟩ := cq6 BK110.out; have ⟨hfz40_0, hfz40_1, hfz40_2, hfz40_3, hfz40_4, hfz40_5⟩ := fq6 BK110.out) | ((with_reducible refine gate_callee (f := 72) rfl ?_); refine goesL_ (some 14) rfl rfl Tryz.func72 (by kernel_rfl) rfl #[.slice A0_1 l0_1.length c0_1, .int .i64 t111] rfl Ag ?_; (with_reducible refine (laws_szNodeS.calls k _ _ l0_1 t111 t112 _ ?side1 ?side2 A8.out).mono ?_); (case side1 => exact rC (Kd.C_below HR0_1.out HB.out)); (case side2 => exact HC0_1.out); rintro e w41 ⟨rfl, hb⟩; refine ⟨_, rfl, ?_⟩; have n_ := aa (bb BK110.out hb) <| Aside0.mk (below_step By hb); clear BK110 HB; obtain ⟨BK110, HB⟩ := n_; (try clear hb); (try clear hb2); (try clear hk); (try clear hi); have ⟨hcz42_0, hcz42_1, hcz42_2, hcz42_3, hcz42_4, hcz42_5⟩ := cq6 BK110.out; have ⟨hfz42_0, hfz42_1, hfz42_2, hfz42_3, hfz42_4, hfz42_5⟩ := fq6 BK110.out) | ((with_reducible refine gate_callee (f := 73) rfl ?_); refine goesL_ (some 20) rfl rfl Tryz.func73 (by kernel_rfl) rfl #[.slice A0_2 l0_2.length c0_2, .int .i64 t112] rfl Ag ?_; (with_reducible refine (laws_szPartS.calls k _ _ l0_2 t112 t113 _ ?side1 ?side2 A15.out).mono ?_); (case side1 => exact rC (Kd.C_below HR0_2.out HB.out)); (case side2 => exact HC0_2.out); rintro e w43 ⟨rfl, hb⟩; refine ⟨_, rfl, ?_⟩; have n_ := aa (bb BK110.out hb) <| Aside0.mk (below_step By hb); clear BK110 HB; obtain ⟨BK110, HB⟩ := n_; (try clear hb); (try clear hb2); (try clear hk); (try clear hi); have ⟨hcz44_0, hcz44_1, hcz44_2, hcz44_3, hcz44_4, hcz44_5⟩ := cq6 BK110.out; have ⟨hfz44_0, hfz44_1, hfz44_2, hfz44_3, hfz44_4, hfz44_5⟩ := fq6 BK110.out) | ((with_reducible refine gate_callee (f := 73) rfl ?_); refine goesL_ (some 26) rfl rfl Tryz.func73 (by kernel_rfl) rfl #[.slice A0_3 l0_3.length c0_3, .int .i64 t113] rfl Ag ?_; (with_reducible refine (laws_szPartS.calls k _ _ l0_3 t113 t114 _ ?side1 ?side2 A24.out).mono ?_); (case side1 => exact rC (Kd.C_below HR0_3.out HB.out)); (case side2 => exact HC0_3.out); rintro e w45 ⟨rfl, hb⟩; refine ⟨_, rfl, ?_⟩; have n_ := aa (bb BK110.out hb) <| Aside0.mk (below_step By hb); clear BK110 HB; obtain ⟨BK110, HB⟩ := n_; (try clear hb); (try clear hb2); (try clear hk); (try clear hi); have ⟨hcz46_0, hcz46_1, hcz46_2, hcz46_3, hcz46_4, hcz46_5⟩ := cq6 BK110.out; have ⟨hfz46_0, hfz46_1, hfz46_2, hfz46_3, hfz46_4, hfz46_5⟩ := fq6 BK110.out) | ((with_reducible refine gate_callee (f := 73) rfl ?_); refine goesL_ (some 32) rfl rfl Tryz.func73 (by kernel_rfl) rfl #[.slice A0_4 l0_4.length c0_4, .int .i64 t114] rfl Ag ?_; (with_reducible refine (laws_szPartS.calls k _ _ l0_4 t114 t115 _ ?side1 ?side2 A35.out).mono ?_); (case side1 => exact rC (Kd.C_below HR0_4.out HB.out)); (case side2 => exact HC0_4.out); rintro e w47 ⟨rfl, hb⟩; refine ⟨_, rfl, ?_⟩; have n_ := aa (bb BK110.out hb) <| Aside0.mk (below_step By hb); clear BK110 HB; obtain ⟨BK110, HB⟩ := n_; (try clear hb); (try clear hb2); (try clear hk); (try clear hi))); go_ret; exact ⟨Rf, By⟩
          · rw [if_neg c36] at H; have c36b0 : decide (t115 < 0) = false := decide_eq_false c36; clear c36; obtain rfl := Option.some.inj H; go_enter Tryz.func29, Tryz.ntmps29; go_wp2_with (first | ((with_reducible refine gate_dst (N := 2) rfl ?_); refine box_event ?hg (N := 2) ?hd (cs := #[.slice A0_0 l0_0.length c0_0, .slice A0_1 l0_1.length c0_1, .slice A0_2 l0_2.length c0_2, .slice A0_3 l0_3.length c0_3, .slice A0_4 l0_4.length c0_4, .bool a0_5]) (t := 59) ?hr ?_; (case hd => rfl); (case hg => rfl); (case hr => first | (go_simp; done) | (go_simp; rfl)); intro gb110 hg w48 hbox hb; have n_ := aa (below_step By hb) <| aa (hbox) <| aa ((by rw [hg]; exact (below_size By) : w.heap.size ≤ gb110)) <| Aside0.mk ((by rw [hg]; exact (below_size By) : w.heap.size ≤ gb110)); clear HB; obtain ⟨HB, BK110, GW110, GE110⟩ := n_; clear hb hbox hg; have ⟨hcz49_0, hcz49_1, hcz49_2, hcz49_3, hcz49_4, hcz49_5⟩ := cq6 BK110.out; have ⟨hfz49_0, hfz49_1, hfz49_2, hfz49_3, hfz49_4, hfz49_5⟩ := fq6 BK110.out) | ((with_reducible refine gate_callee (f := 35) rfl ?_); refine goesL_ (some 8) rfl rfl Tryz.func35 (by kernel_rfl) rfl #[.slice A0_0 l0_0.length c0_0, .int .i64 a1] rfl Ag ?_; (with_reducible refine (laws_szRdnS.calls k _ _ l0_0 a1 t111 _ ?side1 ?side2 A3.out).mono ?_); (case side1 => exact rC (Kd.C_below HR0_0.out HB.out)); (case side2 => exact HC0_0.out); rintro e w50 ⟨rfl, hb⟩; refine ⟨_, rfl, ?_⟩; have n_ := aa (bb BK110.out hb) <| Aside0.mk (below_step By hb); clear BK110 HB; obtain ⟨BK110, HB⟩ := n_; (try clear hb); (try clear hb2); (try clear hk); (try clear hi); have ⟨hcz51_0, hcz51_1, hcz51_2, hcz51_3, hcz51_4, hcz51_5⟩ := cq6 BK110.out; have ⟨hfz51_0, hfz51_1, hfz51_2, hfz51_3, hfz51_4, hfz51_5⟩ := fq6 BK110.out) | ((with_reducible refine gate_callee (f := 72) rfl ?_); refine goesL_ (some 14) rfl rfl Tryz.func72 (by kernel_rfl) rfl #[.slice A0_1 l0_1.length c0_1, .int .i64 t111] rfl Ag ?_; (with_reducible refine (laws_szNodeS.calls k _ _ l0_1 t111 t112 _ ?side1 ?side2 A8.out).mono ?_); (case side1 => exact rC (Kd.C_below HR0_1.out HB.out)); (case side2 => exact HC0_1.out); rintro e w52 ⟨rfl, hb⟩; refine ⟨_, rfl, ?_⟩; have n_ := aa (bb BK110.out hb) <| Aside0.mk (below_step By hb); clear BK110 HB; obtain ⟨BK110, HB⟩ := n_; (try clear hb); (try clear hb2); (try clear hk); (try clear hi); have ⟨hcz53_0, hcz53_1, hcz53_2, hcz53_3, hcz53_4, hcz53_5⟩ := cq6 BK110.out; have ⟨hfz53_0, hfz53_1, hfz53_2, hfz53_3, hfz53_4, hfz53_5⟩ := fq6 BK110.out) | ((with_reducible refine gate_callee (f := 73) rfl ?_); refine goesL_ (some 20) rfl rfl Tryz.func73 (by kernel_rfl) rfl #[.slice A0_2 l0_2.length c0_2, .int .i64 t112] rfl Ag ?_; (with_reducible refine (laws_szPartS.calls k _ _ l0_2 t112 t113 _ ?side1 ?side2 A15.out).mono ?_); (case side1 => exact rC (Kd.C_below HR0_2.out HB.out)); (case side2 => exact HC0_2.out); rintro e w54 ⟨rfl, hb⟩; refine ⟨_, rfl, ?_⟩; have n_ := aa (bb BK110.out hb) <| Aside0.mk (below_step By hb); clear BK110 HB; obtain ⟨BK110, HB⟩ := n_; (try clear hb); (try clear hb2); (try clear hk); (try clear hi); have ⟨hcz55_0, hcz55_1, hcz55_2, hcz55_3, hcz55_4, hcz55_5⟩ := cq6 BK110.out; have ⟨hfz55_0, hfz55_1, hfz55_2, hfz55_3, hfz55_4, hfz55_5⟩ := fq6 BK110.out) | ((with_reducible refine gate_callee (f := 73) rfl ?_); refine goesL_ (some 26) rfl rfl Tryz.func73 (by kernel_rfl) rfl #[.slice A0_3 l0_3.length c0_3, .int .i64 t113] rfl Ag ?_; (with_reducible refine (laws_szPartS.calls k _ _ l0_3 t113 t114 _ ?side1 ?side2 A24.out).mono ?_); (case side1 => exact rC (Kd.C_below HR0_3.out HB.out)); (case side2 => exact HC0_3.out); rintro e w56 ⟨rfl, hb⟩; refine ⟨_, rfl, ?_⟩; have n_ := aa (bb BK110.out hb) <| Aside0.mk (below_step By hb); clear BK110 HB; obtain ⟨BK110, HB⟩ := n_; (try clear hb); (try clear hb2); (try clear hk); (try clear hi); have ⟨hcz57_0, hcz57_1, hcz57_2, hcz57_3, hcz57_4, hcz57_5⟩ := cq6 BK110.out; have ⟨hfz57_0, hfz57_1, hfz57_2, hfz57_3, hfz57_4, hfz57_5⟩ := fq6 BK110.out) | ((with_reducible refine gate_callee (f := 73) rfl ?_); refine goesL_ (some 32) rfl rfl Tryz.func73 (by kernel_rfl) rfl #[.slice A0_4 l0_4.length c0_4, .int .i64 t114] rfl Ag ?_; (with_reducible refine (laws_szPartS.calls k _ _ l0_4 t114 t115 _ ?side1 ?side2 A35.out).mono ?_); (case side1 => exact rC (Kd.C_below HR0_4.out HB.out)); (case side2 => exact HC0_4.out); rintro e w58 ⟨rfl, hb⟩; refine ⟨_, rfl, ?_⟩; have n_ := aa (bb BK110.out hb) <| Aside0.mk (below_step By hb); clear BK110 HB; obtain ⟨BK110, HB⟩ := n_; (try clear hb); (try clear hb2); (try clear hk); (try clear hi))); go_ret; exact ⟨Rf, By⟩

set_option linter.unusedVariables false
set_option linter.unusedSimpArgs false

/-! ### spec_NameRight: function 39 -/
mutual
def spec_NameRight.j0 : Nat → ByteArray → Bool → Option (Bool)
  | 0, _, _ => none
  | k + 1, x0, x12 => if x12 = true then (some false) else (spec_NameRight.l0 k x0 0)
def spec_NameRight.l0 : Nat → ByteArray → Int → Option (Bool)
  | 0, _, _ => none
  | k + 1, x0, x3 => if x3 < (x0.size : Int) then (if 0 ≤ x3 then (if (bt x0 x3) ≥ 97 then (if ((bt x0 x3) ≤ 122) then (spec_NameRight.l0 k x0 (wrap64 (x3 + 1))) else (if x3 = 0 then (some false) else (if (bt x0 x3) ≥ 48 then (if ((bt x0 x3) ≤ 57) then (spec_NameRight.l0 k x0 (wrap64 (x3 + 1))) else (if (bt x0 x3) = 95 then (spec_NameRight.l0 k x0 (wrap64 (x3 + 1))) else (some false))) else (if (bt x0 x3) = 95 then (spec_NameRight.l0 k x0 (wrap64 (x3 + 1))) else (some false))))) else (if x3 = 0 then (some false) else (if (bt x0 x3) ≥ 48 then (if ((bt x0 x3) ≤ 57) then (spec_NameRight.l0 k x0 (wrap64 (x3 + 1))) else (if (bt x0 x3) = 95 then (spec_NameRight.l0 k x0 (wrap64 (x3 + 1))) else (some false))) else (if (bt x0 x3) = 95 then (spec_NameRight.l0 k x0 (wrap64 (x3 + 1))) else (some false))))) else (none)) else (some true)
end
def spec_NameRight.f (k : Nat) (a0 : ByteArray) : Option (Bool) := if (a0.size : Int) < 1 then (spec_NameRight.j0 k a0 true) else (spec_NameRight.j0 k a0 (decide ((a0.size : Int) > 20)))
theorem spec_NameRight.mono_l : ∀ k, (∀ y0 y1, LeO (spec_NameRight.j0 k y0 y1) (spec_NameRight.j0 (k + 1) y0 y1)) ∧ (∀ y0 y1, LeO (spec_NameRight.l0 k y0 y1) (spec_NameRight.l0 (k + 1) y0 y1))
  | 0 => ⟨fun _ _ r h => by simp [spec_NameRight.j0] at h, fun _ _ r h => by simp [spec_NameRight.l0] at h⟩
  | k + 1 => by
    obtain ⟨ih0, ih1⟩ := spec_NameRight.mono_l k; refine ⟨?_, ?_⟩
    · intro y0 y1; unfold spec_NameRight.j0; repeat' first
      | (with_reducible exact ih0 _ _)
      | (with_reducible exact ih1 _ _)
      | (with_reducible exact LeO.refl _)
      | (with_reducible exact LeO.none _)
      | (with_reducible refine LeO.ite ?_ ?_)
      | (with_reducible refine LeO.bind ?_ (fun _ => ?_))
    · intro y0 y1; unfold spec_NameRight.l0; repeat' first
      | (with_reducible exact ih0 _ _)
      | (with_reducible exact ih1 _ _)
      | (with_reducible exact LeO.refl _)
      | (with_reducible exact LeO.none _)
      | (with_reducible refine LeO.ite ?_ ?_)
      | (with_reducible refine LeO.bind ?_ (fun _ => ?_))
theorem spec_NameRight.mono : ∀ a0 k, LeO (spec_NameRight.f k a0) (spec_NameRight.f (k + 1) a0) := by
  intro a0 k; obtain ⟨ih0, ih1⟩ := spec_NameRight.mono_l k; unfold spec_NameRight.f; repeat' first
      | (with_reducible exact ih0 _ _)
      | (with_reducible exact ih1 _ _)
      | (with_reducible exact LeO.refl _)
      | (with_reducible exact LeO.none _)
      | (with_reducible refine LeO.ite ?_ ?_)
      | (with_reducible refine LeO.bind ?_ (fun _ => ?_))
set_option maxHeartbeats 8000000 in
set_option maxRecDepth 100000 in
theorem spec_NameRight.calls (k : Nat) (a0 : ByteArray) (r : Bool) (w : World) (h : spec_NameRight.f k a0 = some r) :
    Calls Tryz.prog 39 #[.string a0] w fun e w' => e = .returned (.bool r) ∧ Drawn0 w w' := by
  have H : (if (a0.size : Int) < 1 then (spec_NameRight.j0 k a0 true) else (spec_NameRight.j0 k a0 (decide ((a0.size : Int) > 20)))) = some r := h; clear h; have HC2 := Aside0.mk H; clear H; go_enter Tryz.func39, Tryz.ntmps39; go_upto_region 1 with (fail); go_cut [12] (fun v12 wc => ∃ (kq : Nat) (x12_1 : Bool), v12 = .bool x12_1 ∧ Aside0 (spec_NameRight.j0 kq a0 x12_1 = some r) ∧ Aside0 (kq ≤ k) ∧ Drawn0 w wc)
  case first =>
    have H := HC2.out; clear HC2; by_cases c3 : (a0.size : Int) < 1
    · rw [if_pos c3] at H; have c3b0 : decide ((a0.size : Int) < 1) = true := decide_eq_true c3; have c3b1 : decide (a0.size < 1) = true := decide_eq_true (by omega); clear c3; (first | rw [c3b0] | (simp only [i64_w, i32_w]; rw [c3b0]) | skip); have H' := Aside0.mk H; clear H; go_wp2; go_meet
      case rel => exact ⟨_, (true), (by first | rfl | (simp; done) | (simp [*]; done)), H', ⟨by first | omega | exact Nat.le_refl _⟩, by repeat (first | exact Drawn0.refl _ | apply Drawn0.step)⟩
    · rw [if_neg c3] at H; have c3b0 : decide ((a0.size : Int) < 1) = false := decide_eq_false c3; have c3b1 : decide (a0.size < 1) = false := decide_eq_false (by omega); clear c3; (first | rw [c3b0] | (simp only [i64_w, i32_w]; rw [c3b0]) | skip); have H' := Aside0.mk H; clear H; go_wp2; go_meet
      case rel => exact ⟨_, (decide ((a0.size : Int) > 20)), (by first | rfl | (simp; done) | (simp [*]; done)), H', ⟨by first | omega | exact Nat.le_refl _⟩, by repeat (first | exact Drawn0.refl _ | apply Drawn0.step)⟩
  case rest =>
    clear HC2; try clear p2
    try clear c3
    try clear c3b0
    try clear c3b1
    obtain ⟨kq, x12_1, rfl, HA, HJ1, ⟨mc1, rfl⟩⟩ := hcut; cases kq with
    | zero => exact absurd HA.out (by simp [spec_NameRight.j0])
    | succ kj1 =>
      have H := HA.out; clear HA; simp only [spec_NameRight.j0] at H; by_cases c4 : x12_1 = true
      · subst c4; rw [if_pos rfl] at H; obtain rfl := Option.some.inj H; go_wp2; go_ret; exact ⟨by first | rfl | (simp; done) | (simp [*]; done), by repeat (first | exact Drawn0.refl _ | apply Drawn0.step)⟩
      · replace c4 := Bool.eq_false_iff.mpr c4; subst c4; rw [if_neg (show ¬ (false = true) by decide)] at H; have H' := Aside0.mk H; clear H; go_wp2; go_loopg [3] kj1 (fun kq v3 w' => ∃ (x3_2 : Int), v3 = .int .i64 x3_2 ∧ Aside0 (spec_NameRight.l0 kq a0 x3_2 = some r) ∧ Aside0 (kq ≤ kj1) ∧ Drawn0 w w')
        case atStart => exact ⟨(0), (by first | rfl | (simp; done) | (simp [*]; done)), H', ⟨Nat.le_refl _⟩, by repeat (first | exact Drawn0.refl _ | apply Drawn0.step)⟩
        case round =>
          clear H'; try clear c1
          try clear p2
          try clear c3
          try clear c3b0
          try clear c3b1
          try clear c4
          try clear p2
          obtain ⟨x3_2, rfl, HA, HK2, ⟨m2, rfl⟩⟩ := hrel; cases gk with
          | zero => exact absurd HA.out (by simp [spec_NameRight.l0])
          | succ k2 =>
            have H := HA.out; clear HA; simp only [spec_NameRight.l0] at H; by_cases c5 : x3_2 < (a0.size : Int)
            · rw [if_pos c5] at H; have c5b0 : decide (x3_2 < (a0.size : Int)) = true := decide_eq_true c5; clear c5; by_cases c6 : 0 ≤ x3_2
              · rw [if_pos c6] at H; have c6b0 : decide (0 ≤ x3_2) = true := decide_eq_true c6; clear c6; by_cases c8 : (bt a0 x3_2) ≥ 97
                · rw [if_pos c8] at H; have c8b0 : decide (97 ≤ (bt a0 x3_2)) = true := decide_eq_true c8; clear c8; by_cases c9 : ((bt a0 x3_2) ≤ 122)
                  · rw [if_pos c9] at H; have c9b0 : decide ((bt a0 x3_2) ≤ 122) = true := decide_eq_true c9; clear c9; have H' := Aside0.mk H; clear H; have p7 : 0 ≤ (x3_2 : Int) := of_decide_eq_true Da; have q7 : x3_2 < (a0.size : Int) := of_decide_eq_true Da; have hx7 := bt_at a0 x3_2; replace p7 := eq_true p7; replace q7 := eq_true q7; go_wp2; go_roundg k2
                    case measure => have := HJ1.out; have := HK2.out; omega
                    case rel => exact ⟨(wrap64 (x3_2 + 1)), (by first | rfl | (simp; done) | (simp [*]; done)), H', ⟨by have := HJ1.out; have := HK2.out; omega⟩, by repeat (first | exact Drawn0.refl _ | apply Drawn0.step)⟩
                  · rw [if_neg c9] at H; have c9b0 : decide ((bt a0 x3_2) ≤ 122) = false := decide_eq_false c9; clear c9; by_cases c10 : x3_2 = 0
                    · rw [if_pos c10] at H; have c10b0 : (x3_2 == 0) = true := beq_iff_eq.mpr c10; have c10b1 : (x3_2 != 0) = false := bne_eq_false_iff_eq.mpr c10; clear c10; obtain rfl := Option.some.inj H; have p7 : 0 ≤ (x3_2 : Int) := of_decide_eq_true Da; have q7 : x3_2 < (a0.size : Int) := of_decide_eq_true Da; have hx7 := bt_at a0 x3_2; replace p7 := eq_true p7; replace q7 := eq_true q7; go_wp2; go_ret; exact ⟨by first | rfl | (simp; done) | (simp [*]; done), by repeat (first | exact Drawn0.refl _ | apply Drawn0.step)⟩
                    · rw [if_neg c10] at H; have c10b0 : (x3_2 == 0) = false := beq_eq_false_iff_ne.mpr c10; have c10b1 : (x3_2 != 0) = true := bne_iff_ne.mpr c10; by_cases c11 : (bt a0 x3_2) ≥ 48
                      · rw [if_pos c11] at H; have c11b0 : decide (48 ≤ (bt a0 x3_2)) = true := decide_eq_true c11; clear c11; by_cases c12 : ((bt a0 x3_2) ≤ 57)
                        · rw [if_pos c12] at H; have c12b0 : decide ((bt a0 x3_2) ≤ 57) = true := decide_eq_true c12; clear c12; have H' := Aside0.mk H; clear H; have p7 : 0 ≤ (x3_2 : Int) := of_decide_eq_true Da; have q7 : x3_2 < (a0.size : Int) := of_decide_eq_true Da; have hx7 := bt_at a0 x3_2; replace p7 := eq_true p7; replace q7 := eq_true q7; go_wp2; go_roundg k2
                          case measure => have := HJ1.out; have := HK2.out; omega
                          case rel => exact ⟨(wrap64 (x3_2 + 1)), (by first | rfl | (simp; done) | (simp [*]; done)), H', ⟨by have := HJ1.out; have := HK2.out; omega⟩, by repeat (first | exact Drawn0.refl _ | apply Drawn0.step)⟩
                        · rw [if_neg c12] at H; have c12b0 : decide ((bt a0 x3_2) ≤ 57) = false := decide_eq_false c12; clear c12; by_cases c13 : (bt a0 x3_2) = 95
                          · rw [if_pos c13] at H; have c13b0 : ((bt a0 x3_2) == 95) = true := beq_iff_eq.mpr c13; have c13b1 : ((bt a0 x3_2) != 95) = false := bne_eq_false_iff_eq.mpr c13; clear c13; have H' := Aside0.mk H; clear H; have p7 : 0 ≤ (x3_2 : Int) := of_decide_eq_true Da; have q7 : x3_2 < (a0.size : Int) := of_decide_eq_true Da; have hx7 := bt_at a0 x3_2; replace p7 := eq_true p7; replace q7 := eq_true q7; go_wp2; go_roundg k2
                            case measure => have := HJ1.out; have := HK2.out; omega
                            case rel => exact ⟨(wrap64 (x3_2 + 1)), (by first | rfl | (simp; done) | (simp [*]; done)), H', ⟨by have := HJ1.out; have := HK2.out; omega⟩, by repeat (first | exact Drawn0.refl _ | apply Drawn0.step)⟩
                          · rw [if_neg c13] at H; have c13b0 : ((bt a0 x3_2) == 95) = false := beq_eq_false_iff_ne.mpr c13; have c13b1 : ((bt a0 x3_2) != 95) = true := bne_iff_ne.mpr c13; obtain rfl := Option.some.inj H; have p7 : 0 ≤ (x3_2 : Int) := of_decide_eq_true Da; have q7 : x3_2 < (a0.size : Int) := of_decide_eq_true Da; have hx7 := bt_at a0 x3_2; replace p7 := eq_true p7; replace q7 := eq_true q7; go_wp2; go_ret; exact ⟨by first | rfl | (simp; done) | (simp [*]; done), by repeat (first | exact Drawn0.refl _ | apply Drawn0.step)⟩
                      · rw [if_neg c11] at H; have c11b0 : decide (48 ≤ (bt a0 x3_2)) = false := decide_eq_false c11; clear c11; by_cases c14 : (bt a0 x3_2) = 95
                        · rw [if_pos c14] at H; have c14b0 : ((bt a0 x3_2) == 95) = true := beq_iff_eq.mpr c14; have c14b1 : ((bt a0 x3_2) != 95) = false := bne_eq_false_iff_eq.mpr c14; clear c14; have H' := Aside0.mk H; clear H; have p7 : 0 ≤ (x3_2 : Int) := of_decide_eq_true Da; have q7 : x3_2 < (a0.size : Int) := of_decide_eq_true Da; have hx7 := bt_at a0 x3_2; replace p7 := eq_true p7; replace q7 := eq_true q7; go_wp2; go_roundg k2
                          case measure => have := HJ1.out; have := HK2.out; omega
                          case rel => exact ⟨(wrap64 (x3_2 + 1)), (by first | rfl | (simp; done) | (simp [*]; done)), H', ⟨by have := HJ1.out; have := HK2.out; omega⟩, by repeat (first | exact Drawn0.refl _ | apply Drawn0.step)⟩
                        · rw [if_neg c14] at H; have c14b0 : ((bt a0 x3_2) == 95) = false := beq_eq_false_iff_ne.mpr c14; have c14b1 : ((bt a0 x3_2) != 95) = true := bne_iff_ne.mpr c14; obtain rfl := Option.some.inj H; have p7 : 0 ≤ (x3_2 : Int) := of_decide_eq_true Da; have q7 : x3_2 < (a0.size : Int) := of_decide_eq_true Da; have hx7 := bt_at a0 x3_2; replace p7 := eq_true p7; replace q7 := eq_true q7; go_wp2; go_ret; exact ⟨by first | rfl | (simp; done) | (simp [*]; done), by repeat (first | exact Drawn0.refl _ | apply Drawn0.step)⟩
                · rw [if_neg c8] at H; have c8b0 : decide (97 ≤ (bt a0 x3_2)) = false := decide_eq_false c8; clear c8; by_cases c15 : x3_2 = 0
                  · rw [if_pos c15] at H; have c15b0 : (x3_2 == 0) = true := beq_iff_eq.mpr c15; have c15b1 : (x3_2 != 0) = false := bne_eq_false_iff_eq.mpr c15; clear c15; obtain rfl := Option.some.inj H; have p7 : 0 ≤ (x3_2 : Int) := of_decide_eq_true Da; have q7 : x3_2 < (a0.size : Int) := of_decide_eq_true Da; have hx7 := bt_at a0 x3_2; replace p7 := eq_true p7; replace q7 := eq_true q7; go_wp2; go_ret; exact ⟨by first | rfl | (simp; done) | (simp [*]; done), by repeat (first | exact Drawn0.refl _ | apply Drawn0.step)⟩
                  · rw [if_neg c15] at H; have c15b0 : (x3_2 == 0) = false := beq_eq_false_iff_ne.mpr c15; have c15b1 : (x3_2 != 0) = true := bne_iff_ne.mpr c15; by_cases c16 : (bt a0 x3_2) ≥ 48
                    · rw [if_pos c16] at H; have c16b0 : decide (48 ≤ (bt a0 x3_2)) = true := decide_eq_true c16; clear c16; by_cases c17 : ((bt a0 x3_2) ≤ 57)
                      · rw [if_pos c17] at H; have c17b0 : decide ((bt a0 x3_2) ≤ 57) = true := decide_eq_true c17; clear c17; have H' := Aside0.mk H; clear H; have p7 : 0 ≤ (x3_2 : Int) := of_decide_eq_true Da; have q7 : x3_2 < (a0.size : Int) := of_decide_eq_true Da; have hx7 := bt_at a0 x3_2; replace p7 := eq_true p7; replace q7 := eq_true q7; go_wp2; go_roundg k2
                        case measure => have := HJ1.out; have := HK2.out; omega
                        case rel => exact ⟨(wrap64 (x3_2 + 1)), (by first | rfl | (simp; done) | (simp [*]; done)), H', ⟨by have := HJ1.out; have := HK2.out; omega⟩, by repeat (first | exact Drawn0.refl _ | apply Drawn0.step)⟩
                      · rw [if_neg c17] at H; have c17b0 : decide ((bt a0 x3_2) ≤ 57) = false := decide_eq_false c17; clear c17; by_cases c18 : (bt a0 x3_2) = 95
                        · rw [if_pos c18] at H; have c18b0 : ((bt a0 x3_2) == 95) = true := beq_iff_eq.mpr c18; have c18b1 : ((bt a0 x3_2) != 95) = false := bne_eq_false_iff_eq.mpr c18; clear c18; have H' := Aside0.mk H; clear H; have p7 : 0 ≤ (x3_2 : Int) := of_decide_eq_true Da; have q7 : x3_2 < (a0.size : Int) := of_decide_eq_true Da; have hx7 := bt_at a0 x3_2; replace p7 := eq_true p7; replace q7 := eq_true q7; go_wp2; go_roundg k2
                          case measure => have := HJ1.out; have := HK2.out; omega
                          case rel => exact ⟨(wrap64 (x3_2 + 1)), (by first | rfl | (simp; done) | (simp [*]; done)), H', ⟨by have := HJ1.out; have := HK2.out; omega⟩, by repeat (first | exact Drawn0.refl _ | apply Drawn0.step)⟩
                        · rw [if_neg c18] at H; have c18b0 : ((bt a0 x3_2) == 95) = false := beq_eq_false_iff_ne.mpr c18; have c18b1 : ((bt a0 x3_2) != 95) = true := bne_iff_ne.mpr c18; obtain rfl := Option.some.inj H; have p7 : 0 ≤ (x3_2 : Int) := of_decide_eq_true Da; have q7 : x3_2 < (a0.size : Int) := of_decide_eq_true Da; have hx7 := bt_at a0 x3_2; replace p7 := eq_true p7; replace q7 := eq_true q7; go_wp2; go_ret; exact ⟨by first | rfl | (simp; done) | (simp [*]; done), by repeat (first | exact Drawn0.refl _ | apply Drawn0.step)⟩
                    · rw [if_neg c16] at H; have c16b0 : decide (48 ≤ (bt a0 x3_2)) = false := decide_eq_false c16; clear c16; by_cases c19 : (bt a0 x3_2) = 95
                      · rw [if_pos c19] at H; have c19b0 : ((bt a0 x3_2) == 95) = true := beq_iff_eq.mpr c19; have c19b1 : ((bt a0 x3_2) != 95) = false := bne_eq_false_iff_eq.mpr c19; clear c19; have H' := Aside0.mk H; clear H; have p7 : 0 ≤ (x3_2 : Int) := of_decide_eq_true Da; have q7 : x3_2 < (a0.size : Int) := of_decide_eq_true Da; have hx7 := bt_at a0 x3_2; replace p7 := eq_true p7; replace q7 := eq_true q7; go_wp2; go_roundg k2
                        case measure => have := HJ1.out; have := HK2.out; omega
                        case rel => exact ⟨(wrap64 (x3_2 + 1)), (by first | rfl | (simp; done) | (simp [*]; done)), H', ⟨by have := HJ1.out; have := HK2.out; omega⟩, by repeat (first | exact Drawn0.refl _ | apply Drawn0.step)⟩
                      · rw [if_neg c19] at H; have c19b0 : ((bt a0 x3_2) == 95) = false := beq_eq_false_iff_ne.mpr c19; have c19b1 : ((bt a0 x3_2) != 95) = true := bne_iff_ne.mpr c19; obtain rfl := Option.some.inj H; have p7 : 0 ≤ (x3_2 : Int) := of_decide_eq_true Da; have q7 : x3_2 < (a0.size : Int) := of_decide_eq_true Da; have hx7 := bt_at a0 x3_2; replace p7 := eq_true p7; replace q7 := eq_true q7; go_wp2; go_ret; exact ⟨by first | rfl | (simp; done) | (simp [*]; done), by repeat (first | exact Drawn0.refl _ | apply Drawn0.step)⟩
              · rw [if_neg c6] at H; exact absurd H (by simp)
            · rw [if_neg c5] at H; have c5b0 : decide (x3_2 < (a0.size : Int)) = false := decide_eq_false c5; clear c5; obtain rfl := Option.some.inj H; go_wp2; go_ret; exact ⟨by first | rfl | (simp; done) | (simp [*]; done), by repeat (first | exact Drawn0.refl _ | apply Drawn0.step)⟩

set_option linter.unusedVariables false
set_option linter.unusedSimpArgs false

/-! ### spec_l02Plain: function 165 -/
def spec_l02Plain.l0 : Nat → ByteArray → Int → Option (Bool)
  | 0, _, _ => none
  | k + 1, x0, x3 => if x3 < (x0.size : Int) then (if 0 ≤ x3 then (if (bt x0 x3) < 32 then (some false) else (if (bt x0 x3) > 126 then (some false) else (spec_l02Plain.l0 k x0 (wrap64 (x3 + 1))))) else (none)) else (some true)
def spec_l02Plain.f (k : Nat) (a0 : ByteArray) : Option (Bool) := spec_l02Plain.l0 k a0 0
theorem spec_l02Plain.mono_l : ∀ k, (∀ y0 y1, LeO (spec_l02Plain.l0 k y0 y1) (spec_l02Plain.l0 (k + 1) y0 y1))
  | 0 => fun _ _ r h => by simp [spec_l02Plain.l0] at h
  | k + 1 => by
    have ih0 := spec_l02Plain.mono_l k
    · intro y0 y1; unfold spec_l02Plain.l0; repeat' first
      | (with_reducible exact ih0 _ _)
      | (with_reducible exact LeO.refl _)
      | (with_reducible exact LeO.none _)
      | (with_reducible refine LeO.ite ?_ ?_)
      | (with_reducible refine LeO.bind ?_ (fun _ => ?_))
theorem spec_l02Plain.mono : ∀ a0 k, LeO (spec_l02Plain.f k a0) (spec_l02Plain.f (k + 1) a0) := by
  intro a0 k; have ih0 := spec_l02Plain.mono_l k; unfold spec_l02Plain.f; repeat' first
      | (with_reducible exact ih0 _ _)
      | (with_reducible exact LeO.refl _)
      | (with_reducible exact LeO.none _)
      | (with_reducible refine LeO.ite ?_ ?_)
      | (with_reducible refine LeO.bind ?_ (fun _ => ?_))
set_option maxHeartbeats 8000000 in
set_option maxRecDepth 100000 in
theorem spec_l02Plain.calls (k : Nat) (a0 : ByteArray) (r : Bool) (w : World) (h : spec_l02Plain.f k a0 = some r) :
    Calls Tryz.prog 165 #[.string a0] w fun e w' => e = .returned (.bool r) ∧ Drawn0 w w' := by
  have H : (spec_l02Plain.l0 k a0 0) = some r := h; clear h; have H' := Aside0.mk H; clear H; go_enter Tryz.func165, Tryz.ntmps165; go_wp2; go_loopg [3] k (fun kq v3 w' => ∃ (x3_1 : Int), v3 = .int .i64 x3_1 ∧ Aside0 (spec_l02Plain.l0 kq a0 x3_1 = some r) ∧ Aside0 (kq ≤ k) ∧ Drawn0 w w')
  case atStart => exact ⟨(0), (by first | rfl | (simp; done) | (simp [*]; done)), H', ⟨Nat.le_refl _⟩, by repeat (first | exact Drawn0.refl _ | apply Drawn0.step)⟩
  case round =>
    clear H'; try clear c1
    obtain ⟨x3_1, rfl, HA, HK1, ⟨m1, rfl⟩⟩ := hrel; cases gk with
    | zero => exact absurd HA.out (by simp [spec_l02Plain.l0])
    | succ k1 =>
      have H := HA.out; clear HA; simp only [spec_l02Plain.l0] at H; by_cases c2 : x3_1 < (a0.size : Int)
      · rw [if_pos c2] at H; have c2b0 : decide (x3_1 < (a0.size : Int)) = true := decide_eq_true c2; clear c2; by_cases c3 : 0 ≤ x3_1
        · rw [if_pos c3] at H; have c3b0 : decide (0 ≤ x3_1) = true := decide_eq_true c3; clear c3; by_cases c5 : (bt a0 x3_1) < 32
          · rw [if_pos c5] at H; have c5b0 : decide ((bt a0 x3_1) < 32) = true := decide_eq_true c5; clear c5; obtain rfl := Option.some.inj H; have p4 : 0 ≤ (x3_1 : Int) := of_decide_eq_true Da; have q4 : x3_1 < (a0.size : Int) := of_decide_eq_true Da; have hx4 := bt_at a0 x3_1; replace p4 := eq_true p4; replace q4 := eq_true q4; go_wp2; go_ret; exact ⟨by first | rfl | (simp; done) | (simp [*]; done), by repeat (first | exact Drawn0.refl _ | apply Drawn0.step)⟩
          · rw [if_neg c5] at H; have c5b0 : decide ((bt a0 x3_1) < 32) = false := decide_eq_false c5; clear c5; by_cases c7 : (bt a0 x3_1) > 126
            · rw [if_pos c7] at H; have c7b0 : decide (126 < (bt a0 x3_1)) = true := decide_eq_true c7; clear c7; obtain rfl := Option.some.inj H; have p4 : 0 ≤ (x3_1 : Int) := of_decide_eq_true Da; have q4 : x3_1 < (a0.size : Int) := of_decide_eq_true Da; have hx4 := bt_at a0 x3_1; replace p4 := eq_true p4; replace q4 := eq_true q4; have p6 : 0 ≤ (x3_1 : Int) := of_decide_eq_true Da; have q6 : x3_1 < (a0.size : Int) := of_decide_eq_true Da; have hx6 := bt_at a0 x3_1; replace p6 := eq_true p6; replace q6 := eq_true q6; go_wp2; go_ret; exact ⟨by first | rfl | (simp; done) | (simp [*]; done), by repeat (first | exact Drawn0.refl _ | apply Drawn0.step)⟩
            · rw [if_neg c7] at H; have c7b0 : decide (126 < (bt a0 x3_1)) = false := decide_eq_false c7; clear c7; have H' := Aside0.mk H; clear H; have p4 : 0 ≤ (x3_1 : Int) := of_decide_eq_true Da; have q4 : x3_1 < (a0.size : Int) := of_decide_eq_true Da; have hx4 := bt_at a0 x3_1; replace p4 := eq_true p4; replace q4 := eq_true q4; have p6 : 0 ≤ (x3_1 : Int) := of_decide_eq_true Da; have q6 : x3_1 < (a0.size : Int) := of_decide_eq_true Da; have hx6 := bt_at a0 x3_1; replace p6 := eq_true p6; replace q6 := eq_true q6; go_wp2; go_roundg k1
              case measure => have := HK1.out; omega
              case rel => exact ⟨(wrap64 (x3_1 + 1)), (by first | rfl | (simp; done) | (simp [*]; done)), H', ⟨by have := HK1.out; omega⟩, by repeat (first | exact Drawn0.refl _ | apply Drawn0.step)⟩
        · rw [if_neg c3] at H; exact absurd H (by simp)
      · rw [if_neg c2] at H; have c2b0 : decide (x3_1 < (a0.size : Int)) = false := decide_eq_false c2; clear c2; obtain rfl := Option.some.inj H; go_wp2; go_ret; exact ⟨by first | rfl | (simp; done) | (simp [*]; done), by repeat (first | exact Drawn0.refl _ | apply Drawn0.step)⟩

set_option linter.unusedVariables false
set_option linter.unusedSimpArgs false

/-! ### spec_Norm: function 114 -/
mutual
def spec_Norm.j0 : Nat → ByteArray → Bool → Option (ByteArray)
  | 0, _, _ => none
  | k + 1, x0, x13 => if x13 = true then (some (⟨#[]⟩ : ByteArray)) else (spec_Norm.l0 k x0 (([] : List Int)) 0)
def spec_Norm.l0 : Nat → ByteArray → List Int → Int → Option (ByteArray)
  | 0, _, _, _ => none
  | k + 1, x0, x3, x4 => if x4 < (x0.size : Int) then (if 0 ≤ x4 then (if (bt x0 x4) ≥ 65 then (spec_Norm.j2 k x0 x3 x4 (bt x0 x4) (decide ((bt x0 x4) ≤ 90))) else (spec_Norm.j2 k x0 x3 x4 (bt x0 x4) false)) else (none)) else (if (x3.length : Int) > 0 then (if 0 ≤ (wrap64 ((x3.length : Int) - 1)) then (if (wrap64 ((x3.length : Int) - 1)) < (x3.length : Int) then (if (rd x3 (wrap64 ((x3.length : Int) - 1))) = 32 then (if (wrap64 ((x3.length : Int) - 1)) ≤ (x3.length : Int) then (some (strOfNums (x3.take ((wrap64 ((x3.length : Int) - 1)) : Int).toNat))) else (none)) else (some (strOfNums x3))) else (none)) else (none)) else (some (strOfNums x3)))
def spec_Norm.j2 : Nat → ByteArray → List Int → Int → Int → Bool → Option (ByteArray)
  | 0, _, _, _, _, _ => none
  | k + 1, x0, x3, x4, x5, x29 => if x29 = true then (if ((x5 + 32) % 256) = 32 then (if (x3.length : Int) = 0 then (spec_Norm.l0 k x0 x3 (wrap64 (x4 + 1))) else (if 0 ≤ (wrap64 ((x3.length : Int) - 1)) then (if (wrap64 ((x3.length : Int) - 1)) < (x3.length : Int) then (if (rd x3 (wrap64 ((x3.length : Int) - 1))) = 32 then (spec_Norm.l0 k x0 x3 (wrap64 (x4 + 1))) else (if x3.length < 140737488355328 then (spec_Norm.l0 k x0 (x3 ++ [(x5 + 32) % 256]) (wrap64 (x4 + 1))) else (none))) else (none)) else (none))) else (if x3.length < 140737488355328 then (spec_Norm.l0 k x0 (x3 ++ [(x5 + 32) % 256]) (wrap64 (x4 + 1))) else (none))) else (if x5 = 32 then (if (x3.length : Int) = 0 then (spec_Norm.l0 k x0 x3 (wrap64 (x4 + 1))) else (if 0 ≤ (wrap64 ((x3.length : Int) - 1)) then (if (wrap64 ((x3.length : Int) - 1)) < (x3.length : Int) then (if (rd x3 (wrap64 ((x3.length : Int) - 1))) = 32 then (spec_Norm.l0 k x0 x3 (wrap64 (x4 + 1))) else (if x3.length < 140737488355328 then (spec_Norm.l0 k x0 (x3 ++ [x5]) (wrap64 (x4 + 1))) else (none))) else (none)) else (none))) else (if x3.length < 140737488355328 then (spec_Norm.l0 k x0 (x3 ++ [x5]) (wrap64 (x4 + 1))) else (none)))
end
def spec_Norm.f (k : Nat) (a0 : ByteArray) : Option (ByteArray) := if (a0.size : Int) > 100 then (spec_Norm.j0 k a0 true) else ((spec_l02Plain.f k a0).bind fun t116 => (spec_Norm.j0 k a0 (!t116)))
theorem spec_Norm.mono_l : ∀ k, (∀ y0 y1, LeO (spec_Norm.j0 k y0 y1) (spec_Norm.j0 (k + 1) y0 y1)) ∧ (∀ y0 y1 y2, LeO (spec_Norm.l0 k y0 y1 y2) (spec_Norm.l0 (k + 1) y0 y1 y2)) ∧ (∀ y0 y1 y2 y3 y4, LeO (spec_Norm.j2 k y0 y1 y2 y3 y4) (spec_Norm.j2 (k + 1) y0 y1 y2 y3 y4))
  | 0 => ⟨fun _ _ r h => by simp [spec_Norm.j0] at h, fun _ _ _ r h => by simp [spec_Norm.l0] at h, fun _ _ _ _ _ r h => by simp [spec_Norm.j2] at h⟩
  | k + 1 => by
    obtain ⟨ih0, ih1, ih2⟩ := spec_Norm.mono_l k; refine ⟨?_, ?_, ?_⟩
    · intro y0 y1; unfold spec_Norm.j0; repeat' first
      | (with_reducible exact ih0 _ _)
      | (with_reducible exact ih1 _ _ _)
      | (with_reducible exact ih2 _ _ _ _ _)
      | (with_reducible exact spec_l02Plain.mono _ _)
      | (with_reducible exact LeO.refl _)
      | (with_reducible exact LeO.none _)
      | (with_reducible refine LeO.ite ?_ ?_)
      | (with_reducible refine LeO.bind ?_ (fun _ => ?_))
    · intro y0 y1 y2; unfold spec_Norm.l0; repeat' first
      | (with_reducible exact ih0 _ _)
      | (with_reducible exact ih1 _ _ _)
      | (with_reducible exact ih2 _ _ _ _ _)
      | (with_reducible exact spec_l02Plain.mono _ _)
      | (with_reducible exact LeO.refl _)
      | (with_reducible exact LeO.none _)
      | (with_reducible refine LeO.ite ?_ ?_)
      | (with_reducible refine LeO.bind ?_ (fun _ => ?_))
    · intro y0 y1 y2 y3 y4; unfold spec_Norm.j2; repeat' first
      | (with_reducible exact ih0 _ _)
      | (with_reducible exact ih1 _ _ _)
      | (with_reducible exact ih2 _ _ _ _ _)
      | (with_reducible exact spec_l02Plain.mono _ _)
      | (with_reducible exact LeO.refl _)
      | (with_reducible exact LeO.none _)
      | (with_reducible refine LeO.ite ?_ ?_)
      | (with_reducible refine LeO.bind ?_ (fun _ => ?_))
theorem spec_Norm.mono : ∀ a0 k, LeO (spec_Norm.f k a0) (spec_Norm.f (k + 1) a0) := by
  intro a0 k; obtain ⟨ih0, ih1, ih2⟩ := spec_Norm.mono_l k; unfold spec_Norm.f; repeat' first
      | (with_reducible exact ih0 _ _)
      | (with_reducible exact ih1 _ _ _)
      | (with_reducible exact ih2 _ _ _ _ _)
      | (with_reducible exact spec_l02Plain.mono _ _)
      | (with_reducible exact LeO.refl _)
      | (with_reducible exact LeO.none _)
      | (with_reducible refine LeO.ite ?_ ?_)
      | (with_reducible refine LeO.bind ?_ (fun _ => ?_))
set_option maxHeartbeats 8000000 in
set_option maxRecDepth 100000 in
theorem spec_Norm.calls (k : Nat) (a0 : ByteArray) (r : ByteArray) (w : World) (h : spec_Norm.f k a0 = some r) :
    Calls Tryz.prog 114 #[.string a0] w fun e w' => e = .returned (.string r) ∧ Below w.heap.size w w' := by
  have HB := Aside0.mk (Below.refl w.heap.size w); have H : (if (a0.size : Int) > 100 then (spec_Norm.j0 k a0 true) else ((spec_l02Plain.f k a0).bind fun t116 => (spec_Norm.j0 k a0 (!t116)))) = some r := h; clear h; have HC2 := Aside0.mk H; clear H; go_enter Tryz.func114, Tryz.ntmps114; go_upto_region 1 with (fail); go_cut [13] (fun v13 wc => ∃ (kq : Nat) (x13_1 : Bool), v13 = .bool x13_1 ∧ Aside0 (spec_Norm.j0 kq a0 x13_1 = some r) ∧ Aside0 (kq ≤ k) ∧ Aside0 (Below w.heap.size w wc))
  case first =>
    have H := HC2.out; clear HC2; by_cases c3 : (a0.size : Int) > 100
    · rw [if_pos c3] at H; have c3b0 : decide (100 < (a0.size : Int)) = true := decide_eq_true c3; have c3b1 : decide (100 < a0.size) = true := decide_eq_true (by omega); clear c3; (first | rw [c3b0] | (simp only [i64_w, i32_w]; rw [c3b0]) | skip); have H' := Aside0.mk H; clear H; go_wp2; go_meet
      case rel => exact ⟨_, (true), (by first | rfl | (simp; done) | (simp [*]; done)), H', ⟨by first | omega | exact Nat.le_refl _⟩, ⟨By⟩⟩
    · rw [if_neg c3] at H; have c3b0 : decide (100 < (a0.size : Int)) = false := decide_eq_false c3; have c3b1 : decide (100 < a0.size) = false := decide_eq_false (by omega); clear c3; (first | rw [c3b0] | (simp only [i64_w, i32_w]; rw [c3b0]) | skip); replace H := Option.bind_eq_some_iff.mp H; obtain ⟨t116, A40, H⟩ := H; (try dsimp only at H); have A4 := Aside0.mk A40; clear A40; have H' := Aside0.mk H; clear H; go_wp2_with (first | (go_at_call 165; (with_reducible refine (spec_l02Plain.calls k a0 t116 _ A4.out).mono ?_); rintro e w' ⟨rfl, ⟨nd, rfl⟩⟩)); go_meet
      case rel => exact ⟨_, (!t116), (by first | rfl | (simp; done) | (simp [*]; done)), H', ⟨by first | omega | exact Nat.le_refl _⟩, ⟨By⟩⟩
  case rest =>
    clear HC2; try clear c1
    try clear p2
    try clear c3
    try clear c3b0
    try clear c3b1
    obtain ⟨kq, x13_1, rfl, HA, HJ1, HB⟩ := hcut; cases kq with
    | zero => exact absurd HA.out (by simp [spec_Norm.j0])
    | succ kj1 =>
      have H := HA.out; clear HA; simp only [spec_Norm.j0] at H; by_cases c5 : x13_1 = true
      · subst c5; rw [if_pos rfl] at H; obtain rfl := Option.some.inj H; go_wp2; go_ret; exact ⟨Rf, By⟩
      · replace c5 := Bool.eq_false_iff.mpr c5; subst c5; rw [if_neg (show ¬ (false = true) by decide)] at H; obtain ⟨y117, hy117⟩ : ∃ y_ : List Int, y_ = (([] : List Int)) := ⟨_, rfl⟩; replace H : (spec_Norm.l0 kj1 a0 y117 0) = some r := by first | (rw [hy117]; with_reducible exact H) | (have H2_ := (Option.bind_some _ _).symm.trans H; rw [hy117]; with_reducible exact H2_) | (have H2_ := (Option.bind_some _ _).symm.trans H; with_reducible exact H2_) | with_reducible exact H | (rw [hy117]; exact H) | exact H
        have Ny117 := Aside0.mk hy117; clear hy117; have H' := Aside0.mk H; clear H; go_wp2_with (first | ((with_reducible refine gate_dst (N := 14) rfl ?_); (try (refine gate_guard (by rfl) ?_; dsimp only)); refine Kd.R_lit (Kd.int .u8) _ 5 ?hg (N := 14) ?hd (xs := ([] : List Int)) (inner := []) (ok := fun _ => True) (okp := fun _ => True) ?hr ?hp (fun _ hk => hk) trivial (Below.refl _ _) (Nat.le_refl _) (by simp) ?_; (case hd => rfl); (case hg => rfl); (case hr => first | (go_simp; done) | (go_simp; rfl)); (case hp => exact (Reps.none _ _)); intro v118 w6 ho7 hb hg_ hnew_; clear hg_ hnew_; (first | rw [← Ny117.out] at ho7 | (simp only [Int.reduceToNat] at ho7; rw [← Ny117.out] at ho7)); have n_ := aa (Kd.R_lower ho7 (below_size By)) <| Aside0.mk (below_step By hb); clear HB; obtain ⟨HO119, HB⟩ := n_; clear hb ho7)); go_loopg [3, 4] kj1 (fun kq v3 v4 w' => ∃ (x3_2 : List Int) (x4_2 : Int), v4 = .int .i64 x4_2 ∧ Aside0 (spec_Norm.l0 kq a0 x3_2 x4_2 = some r) ∧ Aside0 (kq ≤ kj1) ∧ Aside0 (Kd.R (Kd.int .u8) 5 w' w.heap.size (fun _ => True) v3 x3_2) ∧ Aside0 (Below w.heap.size w w'))
        case atStart => exact ⟨(y117), (0), (by first | rfl | (simp; done) | (simp [*]; done)), H', ⟨Nat.le_refl _⟩, ⟨by (with_reducible repeat (first | apply Kd.R_alloc | apply Kd.R_drewN | apply Kd.R_drew)); exact HO119.out⟩, ⟨By⟩⟩
        case round =>
          clear H'; try clear c1
          try clear p2
          try clear c3
          try clear c3b0
          try clear c3b1
          try clear c5
          try clear p2
          obtain ⟨x3_2, x4_2, rfl, HA, HK2, HO_3, HB⟩ := hrel; cases gk with
          | zero => exact absurd HA.out (by simp [spec_Norm.l0])
          | succ k2 =>
            have H := HA.out; clear HA; simp only [spec_Norm.l0] at H; by_cases c8 : x4_2 < (a0.size : Int)
            · rw [if_pos c8] at H; have c8b0 : decide (x4_2 < (a0.size : Int)) = true := decide_eq_true c8; clear c8; by_cases c9 : 0 ≤ x4_2
              · rw [if_pos c9] at H; have c9b0 : decide (0 ≤ x4_2) = true := decide_eq_true c9; clear c9; have HC11 := Aside0.mk H; clear H; have p10 : 0 ≤ (x4_2 : Int) := of_decide_eq_true Da; have q10 : x4_2 < (a0.size : Int) := of_decide_eq_true Da; have hx10 := bt_at a0 x4_2; replace p10 := eq_true p10; replace q10 := eq_true q10; go_upto_region 8 with (fail); go_cut [29] (fun v29 wc => ∃ (kq : Nat) (x29_10 : Bool), v29 = .bool x29_10 ∧ Aside0 (spec_Norm.j2 kq a0 x3_2 x4_2 (bt a0 x4_2) x29_10 = some r) ∧ Aside0 (kq ≤ k2) ∧ Aside0 (Kd.R (Kd.int .u8) 5 wc w.heap.size (fun _ => True) u3 x3_2) ∧ Aside0 (Below w.heap.size w wc))
                case first =>
                  have H := HC11.out; clear HC11; by_cases c12 : (bt a0 x4_2) ≥ 65
                  · rw [if_pos c12] at H; have c12b0 : decide (65 ≤ (bt a0 x4_2)) = true := decide_eq_true c12; clear c12; (first | rw [c12b0] | (simp only [i64_w, i32_w]; rw [c12b0]) | skip); have H' := Aside0.mk H; clear H; go_wp2; go_meet
                    case rel => exact ⟨_, (decide ((bt a0 x4_2) ≤ 90)), (by first | rfl | (simp; done) | (simp [*]; done)), H', ⟨by have := HJ1.out; have := HK2.out; first | omega | exact Nat.le_refl _⟩, ⟨by (with_reducible repeat (first | apply Kd.R_alloc | apply Kd.R_drewN | apply Kd.R_drew)); exact HO_3.out⟩, ⟨By⟩⟩
                  · rw [if_neg c12] at H; have c12b0 : decide (65 ≤ (bt a0 x4_2)) = false := decide_eq_false c12; clear c12; (first | rw [c12b0] | (simp only [i64_w, i32_w]; rw [c12b0]) | skip); have H' := Aside0.mk H; clear H; go_wp2; go_meet
                    case rel => exact ⟨_, (false), (by first | rfl | (simp; done) | (simp [*]; done)), H', ⟨by have := HJ1.out; have := HK2.out; first | omega | exact Nat.le_refl _⟩, ⟨by (with_reducible repeat (first | apply Kd.R_alloc | apply Kd.R_drewN | apply Kd.R_drew)); exact HO_3.out⟩, ⟨By⟩⟩
                case rest =>
                  clear HC11; try clear c1
                  try clear p1
                  try clear q1
                  try clear hx1
                  try clear p2
                  try clear c3
                  try clear c3b0
                  try clear c3b1
                  try clear c5
                  try clear c8
                  try clear c8b0
                  try clear c9
                  try clear c9b0
                  try clear p10
                  try clear q10
                  try clear hx10
                  try clear c11
                  try clear c12
                  try clear c12b0
                  try clear p10
                  try clear p2
                  try clear q10
                  obtain ⟨kq, x29_10, rfl, HA, HJ10, HO_3, HB⟩ := hcut; cases kq with
                  | zero => exact absurd HA.out (by simp [spec_Norm.j2])
                  | succ kj10 =>
                    have H := HA.out; clear HA; simp only [spec_Norm.j2] at H; by_cases c13 : x29_10 = true
                    · subst c13; rw [if_pos rfl] at H; by_cases c14 : (((bt a0 x4_2) + 32) % 256) = 32
                      · rw [if_pos c14] at H; have c14b0 : ((((bt a0 x4_2) + 32) % 256) == 32) = true := beq_iff_eq.mpr c14; have c14b1 : ((((bt a0 x4_2) + 32) % 256) != 32) = false := bne_eq_false_iff_eq.mpr c14; clear c14; by_cases c15 : (x3_2.length : Int) = 0
                        · rw [if_pos c15] at H; have c15b0 : ((x3_2.length : Int) == 0) = true := beq_iff_eq.mpr c15; have c15b1 : ((x3_2.length : Int) != 0) = false := bne_eq_false_iff_eq.mpr c15; clear c15; have H' := Aside0.mk H; clear H; obtain ⟨Ao16, co16, eo16⟩ := Kd.R_slice HO_3.out; subst eo16; go_wp2; go_roundg kj10
                          case measure => have := HJ1.out; have := HK2.out; have := HJ10.out; omega
                          case rel => exact ⟨(x3_2), (wrap64 (x4_2 + 1)), (by first | rfl | (simp; done) | (simp [*]; done)), H', ⟨by have := HJ1.out; have := HK2.out; have := HJ10.out; omega⟩, ⟨by (with_reducible repeat (first | apply Kd.R_alloc | apply Kd.R_drewN | apply Kd.R_drew)); exact HO_3.out⟩, ⟨By⟩⟩
                        · rw [if_neg c15] at H; have c15b0 : ((x3_2.length : Int) == 0) = false := beq_eq_false_iff_ne.mpr c15; have c15b1 : ((x3_2.length : Int) != 0) = true := bne_iff_ne.mpr c15; have c15b2 : ¬ (x3_2 = []) := fun h_ => c15 (by rw [h_]; rfl)
                          obtain ⟨ji17, hji17⟩ : ∃ j_ : Int, (wrap64 ((x3_2.length : Int) - 1)) = j_ := ⟨_, rfl⟩; replace H : (if 0 ≤ (ji17) then (if (ji17) < (x3_2.length : Int) then (if (rd x3_2 (ji17)) = 32 then (spec_Norm.l0 kj10 a0 x3_2 (wrap64 (x4_2 + 1))) else (if x3_2.length < 140737488355328 then (spec_Norm.l0 kj10 a0 (x3_2 ++ [((bt a0 x4_2) + 32) % 256]) (wrap64 (x4_2 + 1))) else (none))) else (none)) else (none)) = some r := by first | (rw [hji17] at H; exact H) | (simp only [hji17] at H ⊢; exact H)
                          have hji17w : (IntKind.i64.wrap ((x3_2.length : Int) - 1)) = ji17 := (i64_w _).trans hji17; by_cases c18 : 0 ≤ (ji17)
                          · rw [if_pos c18] at H; have c18b0 : decide (0 ≤ (ji17)) = true := decide_eq_true c18; clear c18; by_cases c19 : (ji17) < (x3_2.length : Int)
                            · rw [if_pos c19] at H; have c19b0 : decide ((ji17) < (x3_2.length : Int)) = true := decide_eq_true c19; clear c19; by_cases c20 : (rd x3_2 (ji17)) = 32
                              · rw [if_pos c20] at H; have c20b0 : ((rd x3_2 (ji17)) == 32) = true := beq_iff_eq.mpr c20; have c20b1 : ((rd x3_2 (ji17)) != 32) = false := bne_eq_false_iff_eq.mpr c20; clear c20; have H' := Aside0.mk H; clear H; obtain ⟨Ao21, co21, eo21⟩ := Kd.R_slice HO_3.out; subst eo21; have p124 : 0 ≤ ((ji17) : Int) := of_decide_eq_true Da; have q124 : (ji17) < (x3_2.length : Int) := of_decide_eq_true Da; obtain ⟨ad124, e124, hx124_0⟩ := Kd.at_int (Kd.R_reads' HO_3.out).2.2 (ji17) p124 q124; cases e124
                                replace p124 := eq_true p124; replace q124 := eq_true q124; go_wp2; go_roundg kj10
                                case measure => have := HJ1.out; have := HK2.out; have := HJ10.out; omega
                                case rel => exact ⟨(x3_2), (wrap64 (x4_2 + 1)), (by first | rfl | (simp; done) | (simp [*]; done)), H', ⟨by have := HJ1.out; have := HK2.out; have := HJ10.out; omega⟩, ⟨by (with_reducible repeat (first | apply Kd.R_alloc | apply Kd.R_drewN | apply Kd.R_drew)); exact HO_3.out⟩, ⟨By⟩⟩
                              · rw [if_neg c20] at H; have c20b0 : ((rd x3_2 (ji17)) == 32) = false := beq_eq_false_iff_ne.mpr c20; have c20b1 : ((rd x3_2 (ji17)) != 32) = true := bne_iff_ne.mpr c20; by_cases c22 : x3_2.length < 140737488355328
                                · rw [if_pos c22] at H; have LMc22 := Aside0.mk c22; clear c22; obtain ⟨y125, hy125⟩ : ∃ y_ : List Int, y_ = (x3_2 ++ [((bt a0 x4_2) + 32) % 256]) := ⟨_, rfl⟩; replace H : (spec_Norm.l0 kj10 a0 y125 (wrap64 (x4_2 + 1))) = some r := by first | (rw [hy125]; with_reducible exact H) | (have H2_ := (Option.bind_some _ _).symm.trans H; rw [hy125]; with_reducible exact H2_) | (have H2_ := (Option.bind_some _ _).symm.trans H; with_reducible exact H2_) | with_reducible exact H | (rw [hy125]; exact H) | exact H
                                  have Ny125 := Aside0.mk hy125; clear hy125; have H' := Aside0.mk H; clear H; obtain ⟨Ao23, co23, eo23⟩ := Kd.R_slice HO_3.out; subst eo23; have p124 : 0 ≤ ((ji17) : Int) := of_decide_eq_true Da; have q124 : (ji17) < (x3_2.length : Int) := of_decide_eq_true Da; obtain ⟨ad124, e124, hx124_0⟩ := Kd.at_int (Kd.R_reads' HO_3.out).2.2 (ji17) p124 q124; cases e124
                                  replace p124 := eq_true p124; replace q124 := eq_true q124; go_wp2_with (first | ((with_reducible refine gate_builtin (b := .append) (xs := #[.tmp 48, .tmp 50]) rfl ?_); (try (refine gate_guard (by rfl) ?_; dsimp only)); at_builtin; refine Kd.R_append (Kd.int .u8) (w0 := w) w.heap.size rfl (.tmp 48) (.tmp 50) 137 5 (.int .u8 0) 1 rfl Tryz.underlying137 info5 rfl (by decide) (by omega) (.slice (some ad124) x3_2.length co23) x3_2 (((bt a0 x4_2) + 32) % 256) [.int .u8 (((bt a0 x4_2) + 32) % 256)] (fun _ => True) (fun _ => False) rfl rfl ?aP (fun _ hk => hk.elim) ?aF ?aO ?aB ?aS ?aL ?_; (case aP => exact rfl); (case aB => exact By); (case aF => exact (fun _ _ => trivial)); (case aO => exact (rR HO_3.out)); (case aS => exact (below_size By)); (case aL => have := LMc22.out; omega); intro v126 w24 ho hb hg hat; rw [← Ny125.out] at ho; have n0_ := Aside0.mk (hb); have n1_ := Aside0.mk (ho); clear HB; clear HO_3; have HB := n0_; have HO127 := n1_; clear n0_ n1_; clear ho hb hg hat)); go_roundg kj10
                                  case measure => have := HJ1.out; have := HK2.out; have := HJ10.out; omega
                                  case rel => exact ⟨(y125), (wrap64 (x4_2 + 1)), (by first | rfl | (simp; done) | (simp [*]; done)), H', ⟨by have := HJ1.out; have := HK2.out; have := HJ10.out; omega⟩, ⟨by (with_reducible repeat (first | apply Kd.R_alloc | apply Kd.R_drewN | apply Kd.R_drew)); exact HO127.out⟩, ⟨By⟩⟩
                                · rw [if_neg c22] at H; exact absurd H (by simp)
                            · rw [if_neg c19] at H; exact absurd H (by simp)
                          · rw [if_neg c18] at H; exact absurd H (by simp)
                      · rw [if_neg c14] at H; have c14b0 : ((((bt a0 x4_2) + 32) % 256) == 32) = false := beq_eq_false_iff_ne.mpr c14; have c14b1 : ((((bt a0 x4_2) + 32) % 256) != 32) = true := bne_iff_ne.mpr c14; by_cases c25 : x3_2.length < 140737488355328
                        · rw [if_pos c25] at H; have LMc25 := Aside0.mk c25; clear c25; obtain ⟨y128, hy128⟩ : ∃ y_ : List Int, y_ = (x3_2 ++ [((bt a0 x4_2) + 32) % 256]) := ⟨_, rfl⟩; replace H : (spec_Norm.l0 kj10 a0 y128 (wrap64 (x4_2 + 1))) = some r := by first | (rw [hy128]; with_reducible exact H) | (have H2_ := (Option.bind_some _ _).symm.trans H; rw [hy128]; with_reducible exact H2_) | (have H2_ := (Option.bind_some _ _).symm.trans H; with_reducible exact H2_) | with_reducible exact H | (rw [hy128]; exact H) | exact H
                          have Ny128 := Aside0.mk hy128; clear hy128; have H' := Aside0.mk H; clear H; go_wp2_with (first | ((with_reducible refine gate_builtin (b := .append) (xs := #[.tmp 48, .tmp 50]) rfl ?_); (try (refine gate_guard (by rfl) ?_; dsimp only)); at_builtin; refine Kd.R_append (Kd.int .u8) (w0 := w) w.heap.size rfl (.tmp 48) (.tmp 50) 137 5 (.int .u8 0) 1 rfl Tryz.underlying137 info5 rfl (by decide) (by omega) u3 x3_2 (((bt a0 x4_2) + 32) % 256) [.int .u8 (((bt a0 x4_2) + 32) % 256)] (fun _ => True) (fun _ => False) rfl rfl ?aP (fun _ hk => hk.elim) ?aF ?aO ?aB ?aS ?aL ?_; (case aP => exact rfl); (case aB => exact By); (case aF => exact (fun _ _ => trivial)); (case aO => exact (rR HO_3.out)); (case aS => exact (below_size By)); (case aL => have := LMc25.out; omega); intro v129 w26 ho hb hg hat; rw [← Ny128.out] at ho; have n0_ := Aside0.mk (hb); have n1_ := Aside0.mk (ho); clear HB; clear HO_3; have HB := n0_; have HO130 := n1_; clear n0_ n1_; clear ho hb hg hat)); go_roundg kj10
                          case measure => have := HJ1.out; have := HK2.out; have := HJ10.out; omega
                          case rel => exact ⟨(y128), (wrap64 (x4_2 + 1)), (by first | rfl | (simp; done) | (simp [*]; done)), H', ⟨by have := HJ1.out; have := HK2.out; have := HJ10.out; omega⟩, ⟨by (with_reducible repeat (first | apply Kd.R_alloc | apply Kd.R_drewN | apply Kd.R_drew)); exact HO130.out⟩, ⟨By⟩⟩
                        · rw [if_neg c25] at H; exact absurd H (by simp)
                    · replace c13 := Bool.eq_false_iff.mpr c13; subst c13; rw [if_neg (show ¬ (false = true) by decide)] at H; by_cases c27 : (bt a0 x4_2) = 32
                      · rw [if_pos c27] at H; have c27b0 : ((bt a0 x4_2) == 32) = true := beq_iff_eq.mpr c27; have c27b1 : ((bt a0 x4_2) != 32) = false := bne_eq_false_iff_eq.mpr c27; clear c27; by_cases c28 : (x3_2.length : Int) = 0
                        · rw [if_pos c28] at H; have c28b0 : ((x3_2.length : Int) == 0) = true := beq_iff_eq.mpr c28; have c28b1 : ((x3_2.length : Int) != 0) = false := bne_eq_false_iff_eq.mpr c28; clear c28; have H' := Aside0.mk H; clear H; obtain ⟨Ao29, co29, eo29⟩ := Kd.R_slice HO_3.out; subst eo29; go_wp2; go_roundg kj10
                          case measure => have := HJ1.out; have := HK2.out; have := HJ10.out; omega
                          case rel => exact ⟨(x3_2), (wrap64 (x4_2 + 1)), (by first | rfl | (simp; done) | (simp [*]; done)), H', ⟨by have := HJ1.out; have := HK2.out; have := HJ10.out; omega⟩, ⟨by (with_reducible repeat (first | apply Kd.R_alloc | apply Kd.R_drewN | apply Kd.R_drew)); exact HO_3.out⟩, ⟨By⟩⟩
                        · rw [if_neg c28] at H; have c28b0 : ((x3_2.length : Int) == 0) = false := beq_eq_false_iff_ne.mpr c28; have c28b1 : ((x3_2.length : Int) != 0) = true := bne_iff_ne.mpr c28; have c28b2 : ¬ (x3_2 = []) := fun h_ => c28 (by rw [h_]; rfl)
                          obtain ⟨ji30, hji30⟩ : ∃ j_ : Int, (wrap64 ((x3_2.length : Int) - 1)) = j_ := ⟨_, rfl⟩; replace H : (if 0 ≤ (ji30) then (if (ji30) < (x3_2.length : Int) then (if (rd x3_2 (ji30)) = 32 then (spec_Norm.l0 kj10 a0 x3_2 (wrap64 (x4_2 + 1))) else (if x3_2.length < 140737488355328 then (spec_Norm.l0 kj10 a0 (x3_2 ++ [(bt a0 x4_2)]) (wrap64 (x4_2 + 1))) else (none))) else (none)) else (none)) = some r := by first | (rw [hji30] at H; exact H) | (simp only [hji30] at H ⊢; exact H)
                          have hji30w : (IntKind.i64.wrap ((x3_2.length : Int) - 1)) = ji30 := (i64_w _).trans hji30; by_cases c31 : 0 ≤ (ji30)
                          · rw [if_pos c31] at H; have c31b0 : decide (0 ≤ (ji30)) = true := decide_eq_true c31; clear c31; by_cases c32 : (ji30) < (x3_2.length : Int)
                            · rw [if_pos c32] at H; have c32b0 : decide ((ji30) < (x3_2.length : Int)) = true := decide_eq_true c32; clear c32; by_cases c33 : (rd x3_2 (ji30)) = 32
                              · rw [if_pos c33] at H; have c33b0 : ((rd x3_2 (ji30)) == 32) = true := beq_iff_eq.mpr c33; have c33b1 : ((rd x3_2 (ji30)) != 32) = false := bne_eq_false_iff_eq.mpr c33; clear c33; have H' := Aside0.mk H; clear H; obtain ⟨Ao34, co34, eo34⟩ := Kd.R_slice HO_3.out; subst eo34; have p131 : 0 ≤ ((ji30) : Int) := of_decide_eq_true Da; have q131 : (ji30) < (x3_2.length : Int) := of_decide_eq_true Da; obtain ⟨ad131, e131, hx131_0⟩ := Kd.at_int (Kd.R_reads' HO_3.out).2.2 (ji30) p131 q131; cases e131
                                replace p131 := eq_true p131; replace q131 := eq_true q131; go_wp2; go_roundg kj10
                                case measure => have := HJ1.out; have := HK2.out; have := HJ10.out; omega
                                case rel => exact ⟨(x3_2), (wrap64 (x4_2 + 1)), (by first | rfl | (simp; done) | (simp [*]; done)), H', ⟨by have := HJ1.out; have := HK2.out; have := HJ10.out; omega⟩, ⟨by (with_reducible repeat (first | apply Kd.R_alloc | apply Kd.R_drewN | apply Kd.R_drew)); exact HO_3.out⟩, ⟨By⟩⟩
                              · rw [if_neg c33] at H; have c33b0 : ((rd x3_2 (ji30)) == 32) = false := beq_eq_false_iff_ne.mpr c33; have c33b1 : ((rd x3_2 (ji30)) != 32) = true := bne_iff_ne.mpr c33; by_cases c35 : x3_2.length < 140737488355328
                                · rw [if_pos c35] at H; have LMc35 := Aside0.mk c35; clear c35; obtain ⟨y132, hy132⟩ : ∃ y_ : List Int, y_ = (x3_2 ++ [(bt a0 x4_2)]) := ⟨_, rfl⟩; replace H : (spec_Norm.l0 kj10 a0 y132 (wrap64 (x4_2 + 1))) = some r := by first | (rw [hy132]; with_reducible exact H) | (have H2_ := (Option.bind_some _ _).symm.trans H; rw [hy132]; with_reducible exact H2_) | (have H2_ := (Option.bind_some _ _).symm.trans H; with_reducible exact H2_) | with_reducible exact H | (rw [hy132]; exact H) | exact H
                                  have Ny132 := Aside0.mk hy132; clear hy132; have H' := Aside0.mk H; clear H; obtain ⟨Ao36, co36, eo36⟩ := Kd.R_slice HO_3.out; subst eo36; have p131 : 0 ≤ ((ji30) : Int) := of_decide_eq_true Da; have q131 : (ji30) < (x3_2.length : Int) := of_decide_eq_true Da; obtain ⟨ad131, e131, hx131_0⟩ := Kd.at_int (Kd.R_reads' HO_3.out).2.2 (ji30) p131 q131; cases e131
                                  replace p131 := eq_true p131; replace q131 := eq_true q131; go_wp2_with (first | ((with_reducible refine gate_builtin (b := .append) (xs := #[.tmp 48, .tmp 50]) rfl ?_); (try (refine gate_guard (by rfl) ?_; dsimp only)); at_builtin; refine Kd.R_append (Kd.int .u8) (w0 := w) w.heap.size rfl (.tmp 48) (.tmp 50) 137 5 (.int .u8 0) 1 rfl Tryz.underlying137 info5 rfl (by decide) (by omega) (.slice (some ad131) x3_2.length co36) x3_2 (bt a0 x4_2) [.int .u8 (bt a0 x4_2)] (fun _ => True) (fun _ => False) rfl rfl ?aP (fun _ hk => hk.elim) ?aF ?aO ?aB ?aS ?aL ?_; (case aP => exact rfl); (case aB => exact By); (case aF => exact (fun _ _ => trivial)); (case aO => exact (rR HO_3.out)); (case aS => exact (below_size By)); (case aL => have := LMc35.out; omega); intro v133 w37 ho hb hg hat; rw [← Ny132.out] at ho; have n0_ := Aside0.mk (hb); have n1_ := Aside0.mk (ho); clear HB; clear HO_3; have HB := n0_; have HO134 := n1_; clear n0_ n1_; clear ho hb hg hat)); go_roundg kj10
                                  case measure => have := HJ1.out; have := HK2.out; have := HJ10.out; omega
                                  case rel => exact ⟨(y132), (wrap64 (x4_2 + 1)), (by first | rfl | (simp; done) | (simp [*]; done)), H', ⟨by have := HJ1.out; have := HK2.out; have := HJ10.out; omega⟩, ⟨by (with_reducible repeat (first | apply Kd.R_alloc | apply Kd.R_drewN | apply Kd.R_drew)); exact HO134.out⟩, ⟨By⟩⟩
                                · rw [if_neg c35] at H; exact absurd H (by simp)
                            · rw [if_neg c32] at H; exact absurd H (by simp)
                          · rw [if_neg c31] at H; exact absurd H (by simp)
                      · rw [if_neg c27] at H; have c27b0 : ((bt a0 x4_2) == 32) = false := beq_eq_false_iff_ne.mpr c27; have c27b1 : ((bt a0 x4_2) != 32) = true := bne_iff_ne.mpr c27; by_cases c38 : x3_2.length < 140737488355328
                        · rw [if_pos c38] at H; have LMc38 := Aside0.mk c38; clear c38; obtain ⟨y135, hy135⟩ : ∃ y_ : List Int, y_ = (x3_2 ++ [(bt a0 x4_2)]) := ⟨_, rfl⟩; replace H : (spec_Norm.l0 kj10 a0 y135 (wrap64 (x4_2 + 1))) = some r := by first | (rw [hy135]; with_reducible exact H) | (have H2_ := (Option.bind_some _ _).symm.trans H; rw [hy135]; with_reducible exact H2_) | (have H2_ := (Option.bind_some _ _).symm.trans H; with_reducible exact H2_) | with_reducible exact H | (rw [hy135]; exact H) | exact H
                          have Ny135 := Aside0.mk hy135; clear hy135; have H' := Aside0.mk H; clear H; go_wp2_with (first | ((with_reducible refine gate_builtin (b := .append) (xs := #[.tmp 48, .tmp 50]) rfl ?_); (try (refine gate_guard (by rfl) ?_; dsimp only)); at_builtin; refine Kd.R_append (Kd.int .u8) (w0 := w) w.heap.size rfl (.tmp 48) (.tmp 50) 137 5 (.int .u8 0) 1 rfl Tryz.underlying137 info5 rfl (by decide) (by omega) u3 x3_2 (bt a0 x4_2) [.int .u8 (bt a0 x4_2)] (fun _ => True) (fun _ => False) rfl rfl ?aP (fun _ hk => hk.elim) ?aF ?aO ?aB ?aS ?aL ?_; (case aP => exact rfl); (case aB => exact By); (case aF => exact (fun _ _ => trivial)); (case aO => exact (rR HO_3.out)); (case aS => exact (below_size By)); (case aL => have := LMc38.out; omega); intro v136 w39 ho hb hg hat; rw [← Ny135.out] at ho; have n0_ := Aside0.mk (hb); have n1_ := Aside0.mk (ho); clear HB; clear HO_3; have HB := n0_; have HO137 := n1_; clear n0_ n1_; clear ho hb hg hat)); go_roundg kj10
                          case measure => have := HJ1.out; have := HK2.out; have := HJ10.out; omega
                          case rel => exact ⟨(y135), (wrap64 (x4_2 + 1)), (by first | rfl | (simp; done) | (simp [*]; done)), H', ⟨by have := HJ1.out; have := HK2.out; have := HJ10.out; omega⟩, ⟨by (with_reducible repeat (first | apply Kd.R_alloc | apply Kd.R_drewN | apply Kd.R_drew)); exact HO137.out⟩, ⟨By⟩⟩
                        · rw [if_neg c38] at H; exact absurd H (by simp)
              · rw [if_neg c9] at H; exact absurd H (by simp)
            · rw [if_neg c8] at H; have c8b0 : decide (x4_2 < (a0.size : Int)) = false := decide_eq_false c8; clear c8; by_cases c40 : (x3_2.length : Int) > 0
              · rw [if_pos c40] at H; have c40b0 : decide (0 < (x3_2.length : Int)) = true := decide_eq_true c40; have c40b1 : decide (0 < x3_2.length) = true := decide_eq_true (by omega); clear c40; obtain ⟨ji41, hji41⟩ : ∃ j_ : Int, (wrap64 ((x3_2.length : Int) - 1)) = j_ := ⟨_, rfl⟩; replace H : (if 0 ≤ (ji41) then (if (ji41) < (x3_2.length : Int) then (if (rd x3_2 (ji41)) = 32 then (if (ji41) ≤ (x3_2.length : Int) then (some (strOfNums (x3_2.take ((ji41) : Int).toNat))) else (none)) else (some (strOfNums x3_2))) else (none)) else (none)) = some r := by first | (rw [hji41] at H; exact H) | (simp only [hji41] at H ⊢; exact H)
                have hji41w : (IntKind.i64.wrap ((x3_2.length : Int) - 1)) = ji41 := (i64_w _).trans hji41; by_cases c42 : 0 ≤ (ji41)
                · rw [if_pos c42] at H; have c42b0 : decide (0 ≤ (ji41)) = true := decide_eq_true c42; clear c42; by_cases c43 : (ji41) < (x3_2.length : Int)
                  · rw [if_pos c43] at H; have c43b0 : decide ((ji41) < (x3_2.length : Int)) = true := decide_eq_true c43; clear c43; by_cases c44 : (rd x3_2 (ji41)) = 32
                    · rw [if_pos c44] at H; have c44b0 : ((rd x3_2 (ji41)) == 32) = true := beq_iff_eq.mpr c44; have c44b1 : ((rd x3_2 (ji41)) != 32) = false := bne_eq_false_iff_eq.mpr c44; clear c44; by_cases c45 : (ji41) ≤ (x3_2.length : Int)
                      · rw [if_pos c45] at H; have c45b0 := eq_true c45; have c45b1 : decide ((ji41) ≤ (x3_2.length : Int)) = true := decide_eq_true c45; clear c45; obtain ⟨y121, hy121⟩ : ∃ y_ : List Int, y_ = (x3_2.take ((ji41) : Int).toNat) := ⟨_, rfl⟩; replace H : (some (strOfNums y121)) = some r := by first | (rw [hy121]; with_reducible exact H) | (have H2_ := (Option.bind_some _ _).symm.trans H; rw [hy121]; with_reducible exact H2_) | (have H2_ := (Option.bind_some _ _).symm.trans H; with_reducible exact H2_) | with_reducible exact H | (rw [hy121]; exact H) | exact H
                        have Ny121 := Aside0.mk hy121; clear hy121; obtain rfl := Option.some.inj H; obtain ⟨Ao46, co46, eo46⟩ := Kd.R_slice HO_3.out; subst eo46; have p120 : 0 ≤ ((ji41) : Int) := of_decide_eq_true Da; have q120 : (ji41) < (x3_2.length : Int) := of_decide_eq_true Da; obtain ⟨ad120, e120, hx120_0⟩ := Kd.at_int (Kd.R_reads' HO_3.out).2.2 (ji41) p120 q120; cases e120
                        replace p120 := eq_true p120; replace q120 := eq_true q120; have q47 : ((ji41) : Int) ≤ ((x3_2.length : Int) : Int) := of_decide_eq_true Da; obtain ⟨i047, hi047, _, hsz47, _⟩ := info_parts info5; have hcut47 := cut_to (P := Tryz.prog) 137 5 .i64 Tryz.underlying137 hi047 (some ad120) x3_2.length co46 (ji41) (of_decide_eq_true Da) q47 (Kd.R_reads' HO_3.out).2.1; have hr47 := Kd.R_take (m := ((ji41) : Int).toNat) HO_3.out (by omega); have hy47 : y121.length = ((ji41) : Int).toNat := (by rw [Ny121.out, List.length_take]; omega); rw [← Ny121.out] at hr47; rw [← hy47] at hr47 hcut47; clear hy47 hi047 hsz47 HO_3; have HO123 := Aside0.mk hr47; clear hr47; replace q47 := eq_true q47; have hcv48 := own_string (P := Tryz.prog) Tryz.underlying137 Tryz.underlying5 Tryz.underlying9 (Kd.own_of_R HO123.out); go_wp2; go_ret; exact ⟨by first | rfl | (simp [errW_none, errW_some] <;> rfl) | (simp only [← hji41]; first | rfl | (simp [errW_none, errW_some] <;> rfl)) | (simp [*, errW_none, errW_some] <;> first | rfl | (rw [Bool.eq_iff_iff]; simp)), By⟩
                      · rw [if_neg c45] at H; exact absurd H (by simp)
                    · rw [if_neg c44] at H; have c44b0 : ((rd x3_2 (ji41)) == 32) = false := beq_eq_false_iff_ne.mpr c44; have c44b1 : ((rd x3_2 (ji41)) != 32) = true := bne_iff_ne.mpr c44; obtain rfl := Option.some.inj H; obtain ⟨Ao49, co49, eo49⟩ := Kd.R_slice HO_3.out; subst eo49; have p120 : 0 ≤ ((ji41) : Int) := of_decide_eq_true Da; have q120 : (ji41) < (x3_2.length : Int) := of_decide_eq_true Da; obtain ⟨ad120, e120, hx120_0⟩ := Kd.at_int (Kd.R_reads' HO_3.out).2.2 (ji41) p120 q120; cases e120
                      replace p120 := eq_true p120; replace q120 := eq_true q120; have hcv50 := own_string (P := Tryz.prog) Tryz.underlying137 Tryz.underlying5 Tryz.underlying9 (Kd.own_of_R HO_3.out); go_wp2; go_ret; exact ⟨by first | rfl | (simp [errW_none, errW_some] <;> rfl) | (simp only [← hji41]; first | rfl | (simp [errW_none, errW_some] <;> rfl)) | (simp [*, errW_none, errW_some] <;> first | rfl | (rw [Bool.eq_iff_iff]; simp)), By⟩
                  · rw [if_neg c43] at H; exact absurd H (by simp)
                · rw [if_neg c42] at H; exact absurd H (by simp)
              · rw [if_neg c40] at H; have c40b0 : decide (0 < (x3_2.length : Int)) = false := decide_eq_false c40; have c40b1 : decide (0 < x3_2.length) = false := decide_eq_false (by omega); clear c40; obtain rfl := Option.some.inj H; obtain ⟨Ao51, co51, eo51⟩ := Kd.R_slice HO_3.out; subst eo51; have hcv52 := own_string (P := Tryz.prog) Tryz.underlying137 Tryz.underlying5 Tryz.underlying9 (Kd.own_of_R HO_3.out); go_wp2; go_ret; exact ⟨Rf, By⟩

set_option linter.unusedVariables false
set_option linter.unusedSimpArgs false

/-! ### spec_l02Value: function 66 -/
def spec_l02Value.f (k : Nat) (a0 : ByteArray) : Option (Bool) := if (a0.size : Int) ≥ 1 then (if (a0.size : Int) ≤ 40 then ((spec_Norm.f k a0).bind fun t138 => (some (t138.toList != ([] : List UInt8)))) else (some false)) else (some false)
theorem spec_l02Value.mono : ∀ a0 k, LeO (spec_l02Value.f k a0) (spec_l02Value.f (k + 1) a0) := by
  intro a0 k; unfold spec_l02Value.f; repeat' first
      | (with_reducible exact spec_Norm.mono _ _)
      | (with_reducible exact LeO.refl _)
      | (with_reducible exact LeO.none _)
      | (with_reducible refine LeO.ite ?_ ?_)
      | (with_reducible refine LeO.bind ?_ (fun _ => ?_))
set_option maxHeartbeats 8000000 in
set_option maxRecDepth 100000 in
theorem spec_l02Value.calls (k : Nat) (a0 : ByteArray) (r : Bool) (w : World) (h : spec_l02Value.f k a0 = some r) :
    Calls Tryz.prog 66 #[.string a0] w fun e w' => e = .returned (.bool r) ∧ Below w.heap.size w w' := by
  have HB := Aside0.mk (Below.refl w.heap.size w); have H : (if (a0.size : Int) ≥ 1 then (if (a0.size : Int) ≤ 40 then ((spec_Norm.f k a0).bind fun t138 => (some (t138.toList != ([] : List UInt8)))) else (some false)) else (some false)) = some r := h; clear h; by_cases c2 : (a0.size : Int) ≥ 1
  · rw [if_pos c2] at H; have c2b0 : decide (1 ≤ (a0.size : Int)) = true := decide_eq_true c2; have c2b1 : decide (1 ≤ a0.size) = true := decide_eq_true (by omega); clear c2; by_cases c3 : (a0.size : Int) ≤ 40
    · rw [if_pos c3] at H; have c3b0 : decide ((a0.size : Int) ≤ 40) = true := decide_eq_true c3; have c3b1 : decide (a0.size ≤ 40) = true := decide_eq_true (by omega); clear c3; replace H := Option.bind_eq_some_iff.mp H; obtain ⟨t138, A40, H⟩ := H; (try dsimp only at H); have A4 := Aside0.mk A40; clear A40; obtain rfl := Option.some.inj H; go_enter Tryz.func66, Tryz.ntmps66; go_wp2_with (first | (go_at_call 114; (with_reducible refine (spec_Norm.calls k a0 t138 _ A4.out).mono ?_); rintro e w5 ⟨rfl, hb⟩; have n0_ := Aside0.mk (below_step By hb); clear HB; have HB := n0_; clear n0_; (try clear hb); (try clear hb2); (try clear hk); (try clear hi))); go_ret; exact ⟨Rf, By⟩
    · rw [if_neg c3] at H; have c3b0 : decide ((a0.size : Int) ≤ 40) = false := decide_eq_false c3; have c3b1 : decide (a0.size ≤ 40) = false := decide_eq_false (by omega); clear c3; obtain rfl := Option.some.inj H; go_enter Tryz.func66, Tryz.ntmps66; go_wp2; go_ret; exact ⟨Rf, By⟩
  · rw [if_neg c2] at H; have c2b0 : decide (1 ≤ (a0.size : Int)) = false := decide_eq_false c2; have c2b1 : decide (1 ≤ a0.size) = false := decide_eq_false (by omega); clear c2; obtain rfl := Option.some.inj H; go_enter Tryz.func66, Tryz.ntmps66; go_wp2; go_ret; exact ⟨Rf, By⟩

set_option linter.unusedVariables false
set_option linter.unusedSimpArgs false

/-! ### spec_DnRight: function 74 -/
def spec_DnRight.l0 : Nat → List (S126) → Int → Option (Bool)
  | 0, _, _ => none
  | k + 1, x0, x3 => if x3 < (x0.length : Int) then (if 0 ≤ x3 then ((spec_NameRight.f k ((rd_T126 x0 x3).f0)).bind fun t140 => (if t140 = true then ((spec_l02Value.f k ((rd_T126 x0 x3).f1)).bind fun t142 => (if t142 = true then (spec_DnRight.l0 k x0 (wrap64 (x3 + 1))) else (some false))) else (some false))) else (none)) else (some (decide ((x0.length : Int) ≤ 6)))
def spec_DnRight.f (k : Nat) (l0 : List (S126)) : Option (Bool) := spec_DnRight.l0 k l0 0
theorem spec_DnRight.mono_l : ∀ k, (∀ y0 y1, LeO (spec_DnRight.l0 k y0 y1) (spec_DnRight.l0 (k + 1) y0 y1))
  | 0 => fun _ _ r h => by simp [spec_DnRight.l0] at h
  | k + 1 => by
    have ih0 := spec_DnRight.mono_l k
    · intro y0 y1; unfold spec_DnRight.l0; repeat' first
      | (with_reducible exact ih0 _ _)
      | (with_reducible exact spec_NameRight.mono _ _)
      | (with_reducible exact spec_l02Value.mono _ _)
      | (with_reducible exact LeO.refl _)
      | (with_reducible exact LeO.none _)
      | (with_reducible refine LeO.ite ?_ ?_)
      | (with_reducible refine LeO.bind ?_ (fun _ => ?_))
theorem spec_DnRight.mono : ∀ a0 k, LeO (spec_DnRight.f k a0) (spec_DnRight.f (k + 1) a0) := by
  intro a0 k; have ih0 := spec_DnRight.mono_l k; unfold spec_DnRight.f; repeat' first
      | (with_reducible exact ih0 _ _)
      | (with_reducible exact spec_NameRight.mono _ _)
      | (with_reducible exact spec_l02Value.mono _ _)
      | (with_reducible exact LeO.refl _)
      | (with_reducible exact LeO.none _)
      | (with_reducible refine LeO.ite ?_ ?_)
      | (with_reducible refine LeO.bind ?_ (fun _ => ?_))
set_option maxHeartbeats 8000000 in
set_option maxRecDepth 100000 in
theorem spec_DnRight.calls (k : Nat) (A0 : Option Addr) (c0 : Nat) (l0 : List (S126)) (r : Bool) (w : World) (hr0 : Kd.C k126 w A0 l0.length l0) (hc0 : l0.length ≤ c0) (h : spec_DnRight.f k l0 = some r) :
    Calls Tryz.prog 74 #[.slice A0 l0.length c0] w fun e w' => e = .returned (.bool r) ∧ Below w.heap.size w w' := by
  have HR0 := Aside0.mk hr0; have HC0 := Aside0.mk hc0; clear hr0 hc0; have HB := Aside0.mk (Below.refl w.heap.size w); have H : (spec_DnRight.l0 k l0 0) = some r := h; clear h; have H' := Aside0.mk H; clear H; go_enter Tryz.func74, Tryz.ntmps74; go_wp2; go_loopg [3] k (fun kq v3 w' => ∃ (x3_1 : Int), v3 = .int .i64 x3_1 ∧ Aside0 (spec_DnRight.l0 kq l0 x3_1 = some r) ∧ Aside0 (kq ≤ k) ∧ Aside0 (Below w.heap.size w w'))
  case atStart => exact ⟨(0), (by first | rfl | (simp; done) | (simp [*]; done)), H', ⟨Nat.le_refl _⟩, ⟨By⟩⟩
  case round =>
    clear H'; obtain ⟨x3_1, rfl, HA, HK1, HB⟩ := hrel; cases gk with
    | zero => exact absurd HA.out (by simp [spec_DnRight.l0])
    | succ k1 =>
      have H := HA.out; clear HA; simp only [spec_DnRight.l0] at H; by_cases c2 : x3_1 < (l0.length : Int)
      · rw [if_pos c2] at H; have c2b0 : decide (x3_1 < (l0.length : Int)) = true := decide_eq_true c2; clear c2; by_cases c3 : 0 ≤ x3_1
        · rw [if_pos c3] at H; have c3b0 : decide (0 ≤ x3_1) = true := decide_eq_true c3; clear c3; replace H := Option.bind_eq_some_iff.mp H; obtain ⟨t140, A40, H⟩ := H; (try dsimp only at H); have A4 := Aside0.mk A40; clear A40; by_cases c5 : t140 = true
          · subst c5; rw [if_pos rfl] at H; replace H := Option.bind_eq_some_iff.mp H; obtain ⟨t142, A60, H⟩ := H; (try dsimp only at H); have A6 := Aside0.mk A60; clear A60; by_cases c7 : t142 = true
            · subst c7; rw [if_pos rfl] at H; have H' := Aside0.mk H; clear H; have p139 : 0 ≤ (x3_1 : Int) := of_decide_eq_true Da; have q139 : x3_1 < (l0.length : Int) := of_decide_eq_true Da; obtain ⟨ad139, e139, hx139_0, hx139_1⟩ := at_T126 HR0.out x3_1 p139 q139; cases e139
              replace hx139_0 := bz HB.out hx139_0; replace hx139_1 := bz HB.out hx139_1; replace p139 := eq_true p139; replace q139 := eq_true q139; go_wp2_with (first | ((with_reducible refine gate_callee (f := 39) rfl ?_); refine goesL_ (some 15) rfl rfl Tryz.func39 (by kernel_rfl) rfl #[.string ((rd_T126 l0 x3_1).f0)] rfl Ag ?_; (with_reducible refine (spec_NameRight.calls k1 ((rd_T126 l0 x3_1).f0) true _ A4.out).mono ?_); rintro e w' ⟨rfl, ⟨nd, rfl⟩⟩; refine ⟨_, rfl, ?_⟩; have p141 : 0 ≤ (x3_1 : Int) := of_decide_eq_true Da; have q141 : x3_1 < (l0.length : Int) := of_decide_eq_true Da; obtain ⟨ad141, e141, hx141_0, hx141_1⟩ := at_T126 HR0.out x3_1 p141 q141; obtain rfl : ad139 = ad141 := (by injection e141); replace hx141_0 := bz HB.out hx141_0; replace hx141_1 := bz HB.out hx141_1; replace p141 := eq_true p141; replace q141 := eq_true q141) | (go_at_call 66; (with_reducible refine (spec_l02Value.calls k1 ((rd_T126 l0 x3_1).f1) true _ A6.out).mono ?_); rintro e w8 ⟨rfl, hb⟩; have n0_ := Aside0.mk (below_step By hb); clear HB; have HB := n0_; clear n0_; (try clear hb); (try clear hb2); (try clear hk); (try clear hi))); go_roundg k1
              case measure => have := HK1.out; omega
              case rel => exact ⟨(wrap64 (x3_1 + 1)), (by first | rfl | (simp; done) | (simp [*]; done)), H', ⟨by have := HK1.out; omega⟩, ⟨By⟩⟩
            · replace c7 := Bool.eq_false_iff.mpr c7; subst c7; rw [if_neg (show ¬ (false = true) by decide)] at H; obtain rfl := Option.some.inj H; have p139 : 0 ≤ (x3_1 : Int) := of_decide_eq_true Da; have q139 : x3_1 < (l0.length : Int) := of_decide_eq_true Da; obtain ⟨ad139, e139, hx139_0, hx139_1⟩ := at_T126 HR0.out x3_1 p139 q139; cases e139
              replace hx139_0 := bz HB.out hx139_0; replace hx139_1 := bz HB.out hx139_1; replace p139 := eq_true p139; replace q139 := eq_true q139; go_wp2_with (first | ((with_reducible refine gate_callee (f := 39) rfl ?_); refine goesL_ (some 15) rfl rfl Tryz.func39 (by kernel_rfl) rfl #[.string ((rd_T126 l0 x3_1).f0)] rfl Ag ?_; (with_reducible refine (spec_NameRight.calls k1 ((rd_T126 l0 x3_1).f0) true _ A4.out).mono ?_); rintro e w' ⟨rfl, ⟨nd, rfl⟩⟩; refine ⟨_, rfl, ?_⟩; have p141 : 0 ≤ (x3_1 : Int) := of_decide_eq_true Da; have q141 : x3_1 < (l0.length : Int) := of_decide_eq_true Da; obtain ⟨ad141, e141, hx141_0, hx141_1⟩ := at_T126 HR0.out x3_1 p141 q141; obtain rfl : ad139 = ad141 := (by injection e141); replace hx141_0 := bz HB.out hx141_0; replace hx141_1 := bz HB.out hx141_1; replace p141 := eq_true p141; replace q141 := eq_true q141) | (go_at_call 66; (with_reducible refine (spec_l02Value.calls k1 ((rd_T126 l0 x3_1).f1) false _ A6.out).mono ?_); rintro e w9 ⟨rfl, hb⟩; have n0_ := Aside0.mk (below_step By hb); clear HB; have HB := n0_; clear n0_; (try clear hb); (try clear hb2); (try clear hk); (try clear hi))); go_ret; exact ⟨Rf, By⟩
          · replace c5 := Bool.eq_false_iff.mpr c5; subst c5; rw [if_neg (show ¬ (false = true) by decide)] at H; obtain rfl := Option.some.inj H; have p139 : 0 ≤ (x3_1 : Int) := of_decide_eq_true Da; have q139 : x3_1 < (l0.length : Int) := of_decide_eq_true Da; obtain ⟨ad139, e139, hx139_0, hx139_1⟩ := at_T126 HR0.out x3_1 p139 q139; cases e139
            replace hx139_0 := bz HB.out hx139_0; replace hx139_1 := bz HB.out hx139_1; replace p139 := eq_true p139; replace q139 := eq_true q139; go_wp2_with (first | ((with_reducible refine gate_callee (f := 39) rfl ?_); refine goesL_ (some 15) rfl rfl Tryz.func39 (by kernel_rfl) rfl #[.string ((rd_T126 l0 x3_1).f0)] rfl Ag ?_; (with_reducible refine (spec_NameRight.calls k1 ((rd_T126 l0 x3_1).f0) false _ A4.out).mono ?_); rintro e w' ⟨rfl, ⟨nd, rfl⟩⟩; refine ⟨_, rfl, ?_⟩)); go_ret; exact ⟨Rf, By⟩
        · rw [if_neg c3] at H; exact absurd H (by simp)
      · rw [if_neg c2] at H; have c2b0 : decide (x3_1 < (l0.length : Int)) = false := decide_eq_false c2; clear c2; obtain rfl := Option.some.inj H; go_wp2; go_ret; exact ⟨Rf, By⟩

set_option linter.unusedVariables false
set_option linter.unusedSimpArgs false

/-! ### spec_l02Is: function 145 -/
def spec_l02Is.f (a0 : Int) (a1 : Int) (a2 : Int) : Option (Bool) := if a0 ≥ a1 then (some (decide (a0 ≤ a2))) else (some false)
set_option maxHeartbeats 8000000 in
set_option maxRecDepth 100000 in
theorem spec_l02Is.calls (a0 : Int) (a1 : Int) (a2 : Int) (r : Bool) (w : World) (h : spec_l02Is.f a0 a1 a2 = some r) :
    Calls Tryz.prog 145 #[.int .i64 a0, .int .i64 a1, .int .i64 a2] w fun e w' => e = .returned (.bool r) ∧ Drawn0 w w' := by
  have H : (if a0 ≥ a1 then (some (decide (a0 ≤ a2))) else (some false)) = some r := h; clear h; by_cases c4 : a0 ≥ a1
  · rw [if_pos c4] at H; have c4b0 : decide (a1 ≤ a0) = true := decide_eq_true c4; clear c4; obtain rfl := Option.some.inj H; go_enter Tryz.func145, Tryz.ntmps145; go_wp2; go_ret; exact ⟨by first | rfl | (simp; done) | (simp [*]; done), by repeat (first | exact Drawn0.refl _ | apply Drawn0.step)⟩
  · rw [if_neg c4] at H; have c4b0 : decide (a1 ≤ a0) = false := decide_eq_false c4; clear c4; obtain rfl := Option.some.inj H; go_enter Tryz.func145, Tryz.ntmps145; go_wp2; go_ret; exact ⟨by first | rfl | (simp; done) | (simp [*]; done), by repeat (first | exact Drawn0.refl _ | apply Drawn0.step)⟩

set_option linter.unusedVariables false
set_option linter.unusedSimpArgs false

/-! ### spec_l04Node: function 177 -/
mutual
def spec_l04Node.j0 : Nat → Int → Bool → Int → ByteArray → ByteArray → Int → Option (Bool)
  | 0, _, _, _, _, _, _ => none
  | k + 1, x4, x5, x144000, x144001, x144002, x144003 => if x5 = true then (if x144001.toList = ([] : List UInt8) then (if x144002.toList = ([] : List UInt8) then ((spec_l02Is.f x144003 1 20).bind fun t144 => (some t144)) else (some false)) else (some false)) else (if x4 = 3 then (if x144001.toList = ([] : List UInt8) then (if x144002.toList = ([] : List UInt8) then (some (x144003 == 1)) else (some false)) else (some false)) else (if x4 = 5 then ((spec_NameRight.f k x144001).bind fun t145 => (if t145 = true then (if x144002.toList = ([] : List UInt8) then (some (x144003 == 0)) else (some false)) else (some false))) else (if x4 = 4 then (spec_l04Node.j1 k (x4 == 4) x144000 x144001 x144002 x144003) else (if x4 = 6 then (spec_l04Node.j1 k (x4 == 6) x144000 x144001 x144002 x144003) else (if x4 = 7 then (spec_l04Node.j1 k (x4 == 7) x144000 x144001 x144002 x144003) else (spec_l04Node.j1 k (x4 == 8) x144000 x144001 x144002 x144003))))))
def spec_l04Node.j1 : Nat → Bool → Int → ByteArray → ByteArray → Int → Option (Bool)
  | 0, _, _, _, _, _ => none
  | k + 1, x51, x144000, x144001, x144002, x144003 => if x51 = true then ((spec_NameRight.f k x144001).bind fun t146 => (if t146 = true then ((spec_l02Value.f k x144002).bind fun t147 => (if t147 = true then (some (x144003 == 0)) else (some false))) else (some false))) else (some false)
end
def spec_l04Node.f (k : Nat) (a0_0 : Int) (a0_1 : ByteArray) (a0_2 : ByteArray) (a0_3 : Int) : Option (Bool) := if a0_0 = 1 then (spec_l04Node.j0 k a0_0 (a0_0 == 1) a0_0 a0_1 a0_2 a0_3) else (spec_l04Node.j0 k a0_0 (a0_0 == 2) a0_0 a0_1 a0_2 a0_3)
theorem spec_l04Node.mono_l : ∀ k, (∀ y0 y1 y2 y3 y4 y5, LeO (spec_l04Node.j0 k y0 y1 y2 y3 y4 y5) (spec_l04Node.j0 (k + 1) y0 y1 y2 y3 y4 y5)) ∧ (∀ y0 y1 y2 y3 y4, LeO (spec_l04Node.j1 k y0 y1 y2 y3 y4) (spec_l04Node.j1 (k + 1) y0 y1 y2 y3 y4))
  | 0 => ⟨fun _ _ _ _ _ _ r h => by simp [spec_l04Node.j0] at h, fun _ _ _ _ _ r h => by simp [spec_l04Node.j1] at h⟩
  | k + 1 => by
    obtain ⟨ih0, ih1⟩ := spec_l04Node.mono_l k; refine ⟨?_, ?_⟩
    · intro y0 y1 y2 y3 y4 y5; unfold spec_l04Node.j0; repeat' first
      | (with_reducible exact ih0 _ _ _ _ _ _)
      | (with_reducible exact ih1 _ _ _ _ _)
      | (with_reducible exact spec_NameRight.mono _ _)
      | (with_reducible exact spec_l02Value.mono _ _)
      | (with_reducible exact LeO.refl _)
      | (with_reducible exact LeO.none _)
      | (with_reducible refine LeO.ite ?_ ?_)
      | (with_reducible refine LeO.bind ?_ (fun _ => ?_))
    · intro y0 y1 y2 y3 y4; unfold spec_l04Node.j1; repeat' first
      | (with_reducible exact ih0 _ _ _ _ _ _)
      | (with_reducible exact ih1 _ _ _ _ _)
      | (with_reducible exact spec_NameRight.mono _ _)
      | (with_reducible exact spec_l02Value.mono _ _)
      | (with_reducible exact LeO.refl _)
      | (with_reducible exact LeO.none _)
      | (with_reducible refine LeO.ite ?_ ?_)
      | (with_reducible refine LeO.bind ?_ (fun _ => ?_))
theorem spec_l04Node.mono : ∀ a0 a1 a2 a3 k, LeO (spec_l04Node.f k a0 a1 a2 a3) (spec_l04Node.f (k + 1) a0 a1 a2 a3) := by
  intro a0 a1 a2 a3 k; obtain ⟨ih0, ih1⟩ := spec_l04Node.mono_l k; unfold spec_l04Node.f; repeat' first
      | (with_reducible exact ih0 _ _ _ _ _ _)
      | (with_reducible exact ih1 _ _ _ _ _)
      | (with_reducible exact spec_NameRight.mono _ _)
      | (with_reducible exact spec_l02Value.mono _ _)
      | (with_reducible exact LeO.refl _)
      | (with_reducible exact LeO.none _)
      | (with_reducible refine LeO.ite ?_ ?_)
      | (with_reducible refine LeO.bind ?_ (fun _ => ?_))
set_option maxHeartbeats 8000000 in
set_option maxRecDepth 100000 in
theorem spec_l04Node.calls (k : Nat) (a0_0 : Int) (a0_1 : ByteArray) (a0_2 : ByteArray) (a0_3 : Int) (r : Bool) (w : World) (h : spec_l04Node.f k a0_0 a0_1 a0_2 a0_3 = some r) :
    Calls Tryz.prog 177 #[.agg #[.int .i64 a0_0, .string a0_1, .string a0_2, .int .i64 a0_3]] w fun e w' => e = .returned (.bool r) ∧ Below w.heap.size w w' := by
  have hu155 := Tryz.underlying155; have HB := Aside0.mk (Below.refl w.heap.size w); have H : (if a0_0 = 1 then (spec_l04Node.j0 k a0_0 (a0_0 == 1) a0_0 a0_1 a0_2 a0_3) else (spec_l04Node.j0 k a0_0 (a0_0 == 2) a0_0 a0_1 a0_2 a0_3)) = some r := h; clear h; have HC2 := Aside0.mk H; clear H; go_enter Tryz.func177, Tryz.ntmps177; go_upto_if 5 with (first | ((with_reducible refine gate_dst (N := 1) rfl ?_); refine box_event ?hg (N := 1) ?hd (cs := #[.int .i64 a0_0, .string a0_1, .string a0_2, .int .i64 a0_3]) (t := 155) ?hr ?_; (case hd => rfl); (case hg => rfl); (case hr => first | (go_simp; done) | (go_simp; rfl)); intro gb143 hg w3 hbox hb; have n_ := aa (below_step By hb) <| aa (hbox) <| aa ((by rw [hg]; exact (below_size By) : w.heap.size ≤ gb143)) <| Aside0.mk ((by rw [hg]; exact (below_size By) : w.heap.size ≤ gb143)); clear HB; obtain ⟨HB, BK143, GW143, GE143⟩ := n_; clear hb hbox hg; have ⟨hcz4_0, hcz4_1, hcz4_2, hcz4_3⟩ := cq4 BK143.out; have ⟨hfz4_0, hfz4_1, hfz4_2, hfz4_3⟩ := fq4 BK143.out)); (try simp only [Act.put, List.setIfInBounds_toArray, List.set_cons_zero, List.set_cons_succ]); go_cut [5] (fun v5 wc => ∃ (kq : Nat) (x5_1 : Bool), v5 = .bool x5_1 ∧ Aside0 (spec_l04Node.j0 kq a0_0 x5_1 a0_0 a0_1 a0_2 a0_3 = some r) ∧ Aside0 (kq ≤ k) ∧ Aside0 (wc.heap[gb143]? = some (.cells #[.int .i64 a0_0, .string a0_1, .string a0_2, .int .i64 a0_3] 155 (0, 0))) ∧ Aside0 (Below w.heap.size w wc))
  case first =>
    have H := HC2.out; clear HC2; by_cases c5 : a0_0 = 1
    · rw [if_pos c5] at H; have c5b0 : (a0_0 == 1) = true := beq_iff_eq.mpr c5; have c5b1 : (a0_0 != 1) = false := bne_eq_false_iff_eq.mpr c5; clear c5; (first | rw [c5b0] | (simp only [i64_w, i32_w]; rw [c5b0]) | skip); have H' := Aside0.mk H; clear H; go_wp2; go_meet
      case rel => exact ⟨_, ((a0_0 == 1)), (by first | rfl | (simp; done) | (simp [*]; done)), H', ⟨by first | omega | exact Nat.le_refl _⟩, ⟨by (with_reducible repeat (first | refine blk_drewN ?_ _ | refine blk_drew ?_ | refine blk_alloc ?_ _)); exact BK143.out⟩, ⟨By⟩⟩
    · rw [if_neg c5] at H; have c5b0 : (a0_0 == 1) = false := beq_eq_false_iff_ne.mpr c5; have c5b1 : (a0_0 != 1) = true := bne_iff_ne.mpr c5; (first | rw [c5b0] | (simp only [i64_w, i32_w]; rw [c5b0]) | skip); have H' := Aside0.mk H; clear H; go_wp2; go_meet
      case rel => exact ⟨_, ((a0_0 == 2)), (by first | rfl | (simp; done) | (simp [*]; done)), H', ⟨by first | omega | exact Nat.le_refl _⟩, ⟨by (with_reducible repeat (first | refine blk_drewN ?_ _ | refine blk_drew ?_ | refine blk_alloc ?_ _)); exact BK143.out⟩, ⟨By⟩⟩
  case rest =>
    clear HC2; try clear c1
    try clear p2
    try clear c5
    try clear c5b0
    try clear c5b1
    try clear hcz4_0
    try clear hcz4_1
    try clear hcz4_2
    try clear hcz4_3
    try clear hfz4_0
    try clear hfz4_1
    try clear hfz4_2
    try clear hfz4_3
    obtain ⟨kq, x5_1, rfl, HA, HJ1, BK143, HB⟩ := hcut; cases kq with
    | zero => exact absurd HA.out (by simp [spec_l04Node.j0])
    | succ kj1 =>
      have H := HA.out; clear HA; simp only [spec_l04Node.j0] at H; by_cases c6 : x5_1 = true
      · subst c6; rw [if_pos rfl] at H; by_cases c7 : a0_1.toList = ([] : List UInt8)
        · rw [if_pos c7] at H; have c7b0 : (a0_1.toList == ([] : List UInt8)) = true := beq_iff_eq.mpr c7; have c7b1 : (a0_1.toList != ([] : List UInt8)) = false := bne_eq_false_iff_eq.mpr c7; clear c7; by_cases c8 : a0_2.toList = ([] : List UInt8)
          · rw [if_pos c8] at H; have c8b0 : (a0_2.toList == ([] : List UInt8)) = true := beq_iff_eq.mpr c8; have c8b1 : (a0_2.toList != ([] : List UInt8)) = false := bne_eq_false_iff_eq.mpr c8; clear c8; replace H := Option.bind_eq_some_iff.mp H; obtain ⟨t144, A90, H⟩ := H; (try dsimp only at H); have A9 := Aside0.mk A90; clear A90; obtain rfl := Option.some.inj H; have hcz10_0 : wc.cell? ⟨gb143, 0, none⟩ = some (.int .i64 a0_0) := bc BK143.out 0; have hcz10_1 : wc.cell? ⟨gb143, 1, none⟩ = some (.string a0_1) := bc BK143.out 1; have hcz10_2 : wc.cell? ⟨gb143, 2, none⟩ = some (.string a0_2) := bc BK143.out 2; have hcz10_3 : wc.cell? ⟨gb143, 3, none⟩ = some (.int .i64 a0_3) := bc BK143.out 3; have hfz10_0 := blk_frozen BK143.out 0; have hfz10_1 := blk_frozen BK143.out 1; have hfz10_2 := blk_frozen BK143.out 2; have hfz10_3 := blk_frozen BK143.out 3; go_wp2_with (first | (go_at_call 145; (with_reducible refine (spec_l02Is.calls a0_3 1 20 t144 _ A9.out).mono ?_); rintro e w' ⟨rfl, ⟨nd, rfl⟩⟩)); go_ret; exact ⟨Rf, By⟩
          · rw [if_neg c8] at H; have c8b0 : (a0_2.toList == ([] : List UInt8)) = false := beq_eq_false_iff_ne.mpr c8; have c8b1 : (a0_2.toList != ([] : List UInt8)) = true := bne_iff_ne.mpr c8; obtain rfl := Option.some.inj H; have hcz11_0 : wc.cell? ⟨gb143, 0, none⟩ = some (.int .i64 a0_0) := bc BK143.out 0; have hcz11_1 : wc.cell? ⟨gb143, 1, none⟩ = some (.string a0_1) := bc BK143.out 1; have hcz11_2 : wc.cell? ⟨gb143, 2, none⟩ = some (.string a0_2) := bc BK143.out 2; have hcz11_3 : wc.cell? ⟨gb143, 3, none⟩ = some (.int .i64 a0_3) := bc BK143.out 3; have hfz11_0 := blk_frozen BK143.out 0; have hfz11_1 := blk_frozen BK143.out 1; have hfz11_2 := blk_frozen BK143.out 2; have hfz11_3 := blk_frozen BK143.out 3; go_wp2; go_ret; exact ⟨Rf, By⟩
        · rw [if_neg c7] at H; have c7b0 : (a0_1.toList == ([] : List UInt8)) = false := beq_eq_false_iff_ne.mpr c7; have c7b1 : (a0_1.toList != ([] : List UInt8)) = true := bne_iff_ne.mpr c7; obtain rfl := Option.some.inj H; have hcz12_0 : wc.cell? ⟨gb143, 0, none⟩ = some (.int .i64 a0_0) := bc BK143.out 0; have hcz12_1 : wc.cell? ⟨gb143, 1, none⟩ = some (.string a0_1) := bc BK143.out 1; have hcz12_2 : wc.cell? ⟨gb143, 2, none⟩ = some (.string a0_2) := bc BK143.out 2; have hcz12_3 : wc.cell? ⟨gb143, 3, none⟩ = some (.int .i64 a0_3) := bc BK143.out 3; have hfz12_0 := blk_frozen BK143.out 0; have hfz12_1 := blk_frozen BK143.out 1; have hfz12_2 := blk_frozen BK143.out 2; have hfz12_3 := blk_frozen BK143.out 3; go_wp2; go_ret; exact ⟨Rf, By⟩
      · replace c6 := Bool.eq_false_iff.mpr c6; subst c6; rw [if_neg (show ¬ (false = true) by decide)] at H; by_cases c13 : a0_0 = 3
        · rw [if_pos c13] at H; have c13b0 : (a0_0 == 3) = true := beq_iff_eq.mpr c13; have c13b1 : (a0_0 != 3) = false := bne_eq_false_iff_eq.mpr c13; clear c13; by_cases c14 : a0_1.toList = ([] : List UInt8)
          · rw [if_pos c14] at H; have c14b0 : (a0_1.toList == ([] : List UInt8)) = true := beq_iff_eq.mpr c14; have c14b1 : (a0_1.toList != ([] : List UInt8)) = false := bne_eq_false_iff_eq.mpr c14; clear c14; by_cases c15 : a0_2.toList = ([] : List UInt8)
            · rw [if_pos c15] at H; have c15b0 : (a0_2.toList == ([] : List UInt8)) = true := beq_iff_eq.mpr c15; have c15b1 : (a0_2.toList != ([] : List UInt8)) = false := bne_eq_false_iff_eq.mpr c15; clear c15; obtain rfl := Option.some.inj H; have hcz16_0 : wc.cell? ⟨gb143, 0, none⟩ = some (.int .i64 a0_0) := bc BK143.out 0; have hcz16_1 : wc.cell? ⟨gb143, 1, none⟩ = some (.string a0_1) := bc BK143.out 1; have hcz16_2 : wc.cell? ⟨gb143, 2, none⟩ = some (.string a0_2) := bc BK143.out 2; have hcz16_3 : wc.cell? ⟨gb143, 3, none⟩ = some (.int .i64 a0_3) := bc BK143.out 3; have hfz16_0 := blk_frozen BK143.out 0; have hfz16_1 := blk_frozen BK143.out 1; have hfz16_2 := blk_frozen BK143.out 2; have hfz16_3 := blk_frozen BK143.out 3; go_wp2; go_ret; exact ⟨Rf, By⟩
            · rw [if_neg c15] at H; have c15b0 : (a0_2.toList == ([] : List UInt8)) = false := beq_eq_false_iff_ne.mpr c15; have c15b1 : (a0_2.toList != ([] : List UInt8)) = true := bne_iff_ne.mpr c15; obtain rfl := Option.some.inj H; have hcz17_0 : wc.cell? ⟨gb143, 0, none⟩ = some (.int .i64 a0_0) := bc BK143.out 0; have hcz17_1 : wc.cell? ⟨gb143, 1, none⟩ = some (.string a0_1) := bc BK143.out 1; have hcz17_2 : wc.cell? ⟨gb143, 2, none⟩ = some (.string a0_2) := bc BK143.out 2; have hcz17_3 : wc.cell? ⟨gb143, 3, none⟩ = some (.int .i64 a0_3) := bc BK143.out 3; have hfz17_0 := blk_frozen BK143.out 0; have hfz17_1 := blk_frozen BK143.out 1; have hfz17_2 := blk_frozen BK143.out 2; have hfz17_3 := blk_frozen BK143.out 3; go_wp2; go_ret; exact ⟨Rf, By⟩
          · rw [if_neg c14] at H; have c14b0 : (a0_1.toList == ([] : List UInt8)) = false := beq_eq_false_iff_ne.mpr c14; have c14b1 : (a0_1.toList != ([] : List UInt8)) = true := bne_iff_ne.mpr c14; obtain rfl := Option.some.inj H; have hcz18_0 : wc.cell? ⟨gb143, 0, none⟩ = some (.int .i64 a0_0) := bc BK143.out 0; have hcz18_1 : wc.cell? ⟨gb143, 1, none⟩ = some (.string a0_1) := bc BK143.out 1; have hcz18_2 : wc.cell? ⟨gb143, 2, none⟩ = some (.string a0_2) := bc BK143.out 2; have hcz18_3 : wc.cell? ⟨gb143, 3, none⟩ = some (.int .i64 a0_3) := bc BK143.out 3; have hfz18_0 := blk_frozen BK143.out 0; have hfz18_1 := blk_frozen BK143.out 1; have hfz18_2 := blk_frozen BK143.out 2; have hfz18_3 := blk_frozen BK143.out 3; go_wp2; go_ret; exact ⟨Rf, By⟩
        · rw [if_neg c13] at H; have c13b0 : (a0_0 == 3) = false := beq_eq_false_iff_ne.mpr c13; have c13b1 : (a0_0 != 3) = true := bne_iff_ne.mpr c13; by_cases c19 : a0_0 = 5
          · rw [if_pos c19] at H; have c19b0 : (a0_0 == 5) = true := beq_iff_eq.mpr c19; have c19b1 : (a0_0 != 5) = false := bne_eq_false_iff_eq.mpr c19; clear c19; replace H := Option.bind_eq_some_iff.mp H; obtain ⟨t145, A200, H⟩ := H; (try dsimp only at H); have A20 := Aside0.mk A200; clear A200; by_cases c21 : t145 = true
            · subst c21; rw [if_pos rfl] at H; by_cases c22 : a0_2.toList = ([] : List UInt8)
              · rw [if_pos c22] at H; have c22b0 : (a0_2.toList == ([] : List UInt8)) = true := beq_iff_eq.mpr c22; have c22b1 : (a0_2.toList != ([] : List UInt8)) = false := bne_eq_false_iff_eq.mpr c22; clear c22; obtain rfl := Option.some.inj H; have hcz23_0 : wc.cell? ⟨gb143, 0, none⟩ = some (.int .i64 a0_0) := bc BK143.out 0; have hcz23_1 : wc.cell? ⟨gb143, 1, none⟩ = some (.string a0_1) := bc BK143.out 1; have hcz23_2 : wc.cell? ⟨gb143, 2, none⟩ = some (.string a0_2) := bc BK143.out 2; have hcz23_3 : wc.cell? ⟨gb143, 3, none⟩ = some (.int .i64 a0_3) := bc BK143.out 3; have hfz23_0 := blk_frozen BK143.out 0; have hfz23_1 := blk_frozen BK143.out 1; have hfz23_2 := blk_frozen BK143.out 2; have hfz23_3 := blk_frozen BK143.out 3; go_wp2_with (first | ((with_reducible refine gate_callee (f := 39) rfl ?_); refine goesL_ (some 40) rfl rfl Tryz.func39 (by kernel_rfl) rfl #[.string a0_1] rfl Ag ?_; (with_reducible refine (spec_NameRight.calls kj1 a0_1 true _ A20.out).mono ?_); rintro e w' ⟨rfl, ⟨nd, rfl⟩⟩; refine ⟨_, rfl, ?_⟩)); go_ret; exact ⟨Rf, By⟩
              · rw [if_neg c22] at H; have c22b0 : (a0_2.toList == ([] : List UInt8)) = false := beq_eq_false_iff_ne.mpr c22; have c22b1 : (a0_2.toList != ([] : List UInt8)) = true := bne_iff_ne.mpr c22; obtain rfl := Option.some.inj H; have hcz24_0 : wc.cell? ⟨gb143, 0, none⟩ = some (.int .i64 a0_0) := bc BK143.out 0; have hcz24_1 : wc.cell? ⟨gb143, 1, none⟩ = some (.string a0_1) := bc BK143.out 1; have hcz24_2 : wc.cell? ⟨gb143, 2, none⟩ = some (.string a0_2) := bc BK143.out 2; have hcz24_3 : wc.cell? ⟨gb143, 3, none⟩ = some (.int .i64 a0_3) := bc BK143.out 3; have hfz24_0 := blk_frozen BK143.out 0; have hfz24_1 := blk_frozen BK143.out 1; have hfz24_2 := blk_frozen BK143.out 2; have hfz24_3 := blk_frozen BK143.out 3; go_wp2_with (first | ((with_reducible refine gate_callee (f := 39) rfl ?_); refine goesL_ (some 40) rfl rfl Tryz.func39 (by kernel_rfl) rfl #[.string a0_1] rfl Ag ?_; (with_reducible refine (spec_NameRight.calls kj1 a0_1 true _ A20.out).mono ?_); rintro e w' ⟨rfl, ⟨nd, rfl⟩⟩; refine ⟨_, rfl, ?_⟩)); go_ret; exact ⟨Rf, By⟩
            · replace c21 := Bool.eq_false_iff.mpr c21; subst c21; rw [if_neg (show ¬ (false = true) by decide)] at H; obtain rfl := Option.some.inj H; have hcz25_0 : wc.cell? ⟨gb143, 0, none⟩ = some (.int .i64 a0_0) := bc BK143.out 0; have hcz25_1 : wc.cell? ⟨gb143, 1, none⟩ = some (.string a0_1) := bc BK143.out 1; have hcz25_2 : wc.cell? ⟨gb143, 2, none⟩ = some (.string a0_2) := bc BK143.out 2; have hcz25_3 : wc.cell? ⟨gb143, 3, none⟩ = some (.int .i64 a0_3) := bc BK143.out 3; have hfz25_0 := blk_frozen BK143.out 0; have hfz25_1 := blk_frozen BK143.out 1; have hfz25_2 := blk_frozen BK143.out 2; have hfz25_3 := blk_frozen BK143.out 3; go_wp2_with (first | ((with_reducible refine gate_callee (f := 39) rfl ?_); refine goesL_ (some 40) rfl rfl Tryz.func39 (by kernel_rfl) rfl #[.string a0_1] rfl Ag ?_; (with_reducible refine (spec_NameRight.calls kj1 a0_1 false _ A20.out).mono ?_); rintro e w' ⟨rfl, ⟨nd, rfl⟩⟩; refine ⟨_, rfl, ?_⟩)); go_ret; exact ⟨Rf, By⟩
          · rw [if_neg c19] at H; have c19b0 : (a0_0 == 5) = false := beq_eq_false_iff_ne.mpr c19; have c19b1 : (a0_0 != 5) = true := bne_iff_ne.mpr c19; have HC26 := Aside0.mk H; clear H; go_upto_if 51 with (fail); go_cut [51] (fun v51 wc => ∃ (kq : Nat) (x51_25 : Bool), v51 = .bool x51_25 ∧ Aside0 (spec_l04Node.j1 kq x51_25 a0_0 a0_1 a0_2 a0_3 = some r) ∧ Aside0 (kq ≤ kj1) ∧ Aside0 (wc.heap[gb143]? = some (.cells #[.int .i64 a0_0, .string a0_1, .string a0_2, .int .i64 a0_3] 155 (0, 0))) ∧ Aside0 (Below w.heap.size w wc))
            case first =>
              have H := HC26.out; clear HC26; by_cases c27 : a0_0 = 4
              · rw [if_pos c27] at H; have c27b0 : (a0_0 == 4) = true := beq_iff_eq.mpr c27; have c27b1 : (a0_0 != 4) = false := bne_eq_false_iff_eq.mpr c27; clear c27; (first | rw [c27b0] | (simp only [i64_w, i32_w]; rw [c27b0]) | skip); have H' := Aside0.mk H; clear H; go_wp2; go_meet
                case rel => exact ⟨_, ((a0_0 == 4)), (by first | rfl | (simp; done) | (simp [*]; done)), H', ⟨by have := HJ1.out; first | omega | exact Nat.le_refl _⟩, ⟨by (with_reducible repeat (first | refine blk_drewN ?_ _ | refine blk_drew ?_ | refine blk_alloc ?_ _)); exact BK143.out⟩, ⟨By⟩⟩
              · rw [if_neg c27] at H; have c27b0 : (a0_0 == 4) = false := beq_eq_false_iff_ne.mpr c27; have c27b1 : (a0_0 != 4) = true := bne_iff_ne.mpr c27; (first | rw [c27b0] | (simp only [i64_w, i32_w]; rw [c27b0]) | skip); by_cases c28 : a0_0 = 6
                · rw [if_pos c28] at H; have c28b0 : (a0_0 == 6) = true := beq_iff_eq.mpr c28; have c28b1 : (a0_0 != 6) = false := bne_eq_false_iff_eq.mpr c28; clear c28; have H' := Aside0.mk H; clear H; go_wp2; go_meet
                  case rel => exact ⟨_, ((a0_0 == 6)), (by first | rfl | (simp; done) | (simp [*]; done)), H', ⟨by have := HJ1.out; first | omega | exact Nat.le_refl _⟩, ⟨by (with_reducible repeat (first | refine blk_drewN ?_ _ | refine blk_drew ?_ | refine blk_alloc ?_ _)); exact BK143.out⟩, ⟨By⟩⟩
                · rw [if_neg c28] at H; have c28b0 : (a0_0 == 6) = false := beq_eq_false_iff_ne.mpr c28; have c28b1 : (a0_0 != 6) = true := bne_iff_ne.mpr c28; by_cases c29 : a0_0 = 7
                  · rw [if_pos c29] at H; have c29b0 : (a0_0 == 7) = true := beq_iff_eq.mpr c29; have c29b1 : (a0_0 != 7) = false := bne_eq_false_iff_eq.mpr c29; clear c29; have H' := Aside0.mk H; clear H; go_wp2; go_meet
                    case rel => exact ⟨_, ((a0_0 == 7)), (by first | rfl | (simp; done) | (simp [*]; done)), H', ⟨by have := HJ1.out; first | omega | exact Nat.le_refl _⟩, ⟨by (with_reducible repeat (first | refine blk_drewN ?_ _ | refine blk_drew ?_ | refine blk_alloc ?_ _)); exact BK143.out⟩, ⟨By⟩⟩
                  · rw [if_neg c29] at H; have c29b0 : (a0_0 == 7) = false := beq_eq_false_iff_ne.mpr c29; have c29b1 : (a0_0 != 7) = true := bne_iff_ne.mpr c29; have H' := Aside0.mk H; clear H; go_wp2; go_meet
                    case rel => exact ⟨_, ((a0_0 == 8)), (by first | rfl | (simp; done) | (simp [*]; done)), H', ⟨by have := HJ1.out; first | omega | exact Nat.le_refl _⟩, ⟨by (with_reducible repeat (first | refine blk_drewN ?_ _ | refine blk_drew ?_ | refine blk_alloc ?_ _)); exact BK143.out⟩, ⟨By⟩⟩
            case rest =>
              clear HC26; try clear c1
              try clear c2
              try clear p2
              try clear c3
              try clear c5
              try clear c5b0
              try clear c5b1
              try clear c6
              try clear c7
              try clear c7b0
              try clear c7b1
              try clear c8
              try clear c8b0
              try clear c8b1
              try clear c13
              try clear c13b0
              try clear c13b1
              try clear c14
              try clear c14b0
              try clear c14b1
              try clear c15
              try clear c15b0
              try clear c15b1
              try clear c17
              try clear c19
              try clear c19b0
              try clear c19b1
              try clear c21
              try clear c22
              try clear c22b0
              try clear c22b1
              try clear c27
              try clear c27b0
              try clear c27b1
              try clear c28
              try clear c28b0
              try clear c28b1
              try clear c29
              try clear c29b0
              try clear c29b1
              try clear hcz10_0
              try clear hcz10_1
              try clear hcz10_2
              try clear hcz10_3
              try clear hcz11_0
              try clear hcz11_1
              try clear hcz11_2
              try clear hcz11_3
              try clear hcz12_0
              try clear hcz12_1
              try clear hcz12_2
              try clear hcz12_3
              try clear hcz16_0
              try clear hcz16_1
              try clear hcz16_2
              try clear hcz16_3
              try clear hcz17_0
              try clear hcz17_1
              try clear hcz17_2
              try clear hcz17_3
              try clear hcz18_0
              try clear hcz18_1
              try clear hcz18_2
              try clear hcz18_3
              try clear hcz23_0
              try clear hcz23_1
              try clear hcz23_2
              try clear hcz23_3
              try clear hcz24_0
              try clear hcz24_1
              try clear hcz24_2
              try clear hcz24_3
              try clear hcz25_0
              try clear hcz25_1
              try clear hcz25_2
              try clear hcz25_3
              try clear hcz4_0
              try clear hcz4_1
              try clear hcz4_2
              try clear hcz4_3
              try clear hfz10_0
              try clear hfz10_1
              try clear hfz10_2
              try clear hfz10_3
              try clear hfz11_0
              try clear hfz11_1
              try clear hfz11_2
              try clear hfz11_3
              try clear hfz12_0
              try clear hfz12_1
              try clear hfz12_2
              try clear hfz12_3
              try clear hfz16_0
              try clear hfz16_1
              try clear hfz16_2
              try clear hfz16_3
              try clear hfz17_0
              try clear hfz17_1
              try clear hfz17_2
              try clear hfz17_3
              try clear hfz18_0
              try clear hfz18_1
              try clear hfz18_2
              try clear hfz18_3
              try clear hfz23_0
              try clear hfz23_1
              try clear hfz23_2
              try clear hfz23_3
              try clear hfz24_0
              try clear hfz24_1
              try clear hfz24_2
              try clear hfz24_3
              try clear hfz25_0
              try clear hfz25_1
              try clear hfz25_2
              try clear hfz25_3
              try clear hfz4_0
              try clear hfz4_1
              try clear hfz4_2
              try clear hfz4_3
              try clear p2
              obtain ⟨kq, x51_25, rfl, HA, HJ25, BK143, HB⟩ := hcut; cases kq with
              | zero => exact absurd HA.out (by simp [spec_l04Node.j1])
              | succ kj25 =>
                have H := HA.out; clear HA; simp only [spec_l04Node.j1] at H; by_cases c30 : x51_25 = true
                · subst c30; rw [if_pos rfl] at H; replace H := Option.bind_eq_some_iff.mp H; obtain ⟨t146, A310, H⟩ := H; (try dsimp only at H); have A31 := Aside0.mk A310; clear A310; by_cases c32 : t146 = true
                  · subst c32; rw [if_pos rfl] at H; replace H := Option.bind_eq_some_iff.mp H; obtain ⟨t147, A330, H⟩ := H; (try dsimp only at H); have A33 := Aside0.mk A330; clear A330; by_cases c34 : t147 = true
                    · subst c34; rw [if_pos rfl] at H; obtain rfl := Option.some.inj H; have hcz35_0 : wc.cell? ⟨gb143, 0, none⟩ = some (.int .i64 a0_0) := bc BK143.out 0; have hcz35_1 : wc.cell? ⟨gb143, 1, none⟩ = some (.string a0_1) := bc BK143.out 1; have hcz35_2 : wc.cell? ⟨gb143, 2, none⟩ = some (.string a0_2) := bc BK143.out 2; have hcz35_3 : wc.cell? ⟨gb143, 3, none⟩ = some (.int .i64 a0_3) := bc BK143.out 3; have hfz35_0 := blk_frozen BK143.out 0; have hfz35_1 := blk_frozen BK143.out 1; have hfz35_2 := blk_frozen BK143.out 2; have hfz35_3 := blk_frozen BK143.out 3; go_wp2_with (first | ((with_reducible refine gate_callee (f := 39) rfl ?_); refine goesL_ (some 58) rfl rfl Tryz.func39 (by kernel_rfl) rfl #[.string a0_1] rfl Ag ?_; (with_reducible refine (spec_NameRight.calls kj25 a0_1 true _ A31.out).mono ?_); rintro e w' ⟨rfl, ⟨nd, rfl⟩⟩; refine ⟨_, rfl, ?_⟩) | (go_at_call 66; (with_reducible refine (spec_l02Value.calls kj25 a0_2 true _ A33.out).mono ?_); rintro e w36 ⟨rfl, hb⟩; have n_ := aa (bb BK143.out hb) <| Aside0.mk (below_step By hb); clear BK143 HB; obtain ⟨BK143, HB⟩ := n_; (try clear hb); (try clear hb2); (try clear hk); (try clear hi); have ⟨hcz37_0, hcz37_1, hcz37_2, hcz37_3⟩ := cq4 BK143.out; have ⟨hfz37_0, hfz37_1, hfz37_2, hfz37_3⟩ := fq4 BK143.out)); go_ret; exact ⟨Rf, By⟩
                    · replace c34 := Bool.eq_false_iff.mpr c34; subst c34; rw [if_neg (show ¬ (false = true) by decide)] at H; obtain rfl := Option.some.inj H; have hcz38_0 : wc.cell? ⟨gb143, 0, none⟩ = some (.int .i64 a0_0) := bc BK143.out 0; have hcz38_1 : wc.cell? ⟨gb143, 1, none⟩ = some (.string a0_1) := bc BK143.out 1; have hcz38_2 : wc.cell? ⟨gb143, 2, none⟩ = some (.string a0_2) := bc BK143.out 2; have hcz38_3 : wc.cell? ⟨gb143, 3, none⟩ = some (.int .i64 a0_3) := bc BK143.out 3; have hfz38_0 := blk_frozen BK143.out 0; have hfz38_1 := blk_frozen BK143.out 1; have hfz38_2 := blk_frozen BK143.out 2; have hfz38_3 := blk_frozen BK143.out 3; go_wp2_with (first | ((with_reducible refine gate_callee (f := 39) rfl ?_); refine goesL_ (some 58) rfl rfl Tryz.func39 (by kernel_rfl) rfl #[.string a0_1] rfl Ag ?_; (with_reducible refine (spec_NameRight.calls kj25 a0_1 true _ A31.out).mono ?_); rintro e w' ⟨rfl, ⟨nd, rfl⟩⟩; refine ⟨_, rfl, ?_⟩) | (go_at_call 66; (with_reducible refine (spec_l02Value.calls kj25 a0_2 false _ A33.out).mono ?_); rintro e w39 ⟨rfl, hb⟩; have n_ := aa (bb BK143.out hb) <| Aside0.mk (below_step By hb); clear BK143 HB; obtain ⟨BK143, HB⟩ := n_; (try clear hb); (try clear hb2); (try clear hk); (try clear hi))); go_ret; exact ⟨Rf, By⟩
                  · replace c32 := Bool.eq_false_iff.mpr c32; subst c32; rw [if_neg (show ¬ (false = true) by decide)] at H; obtain rfl := Option.some.inj H; have hcz40_0 : wc.cell? ⟨gb143, 0, none⟩ = some (.int .i64 a0_0) := bc BK143.out 0; have hcz40_1 : wc.cell? ⟨gb143, 1, none⟩ = some (.string a0_1) := bc BK143.out 1; have hcz40_2 : wc.cell? ⟨gb143, 2, none⟩ = some (.string a0_2) := bc BK143.out 2; have hcz40_3 : wc.cell? ⟨gb143, 3, none⟩ = some (.int .i64 a0_3) := bc BK143.out 3; have hfz40_0 := blk_frozen BK143.out 0; have hfz40_1 := blk_frozen BK143.out 1; have hfz40_2 := blk_frozen BK143.out 2; have hfz40_3 := blk_frozen BK143.out 3; go_wp2_with (first | ((with_reducible refine gate_callee (f := 39) rfl ?_); refine goesL_ (some 58) rfl rfl Tryz.func39 (by kernel_rfl) rfl #[.string a0_1] rfl Ag ?_; (with_reducible refine (spec_NameRight.calls kj25 a0_1 false _ A31.out).mono ?_); rintro e w' ⟨rfl, ⟨nd, rfl⟩⟩; refine ⟨_, rfl, ?_⟩)); go_ret; exact ⟨Rf, By⟩
                · replace c30 := Bool.eq_false_iff.mpr c30; subst c30; rw [if_neg (show ¬ (false = true) by decide)] at H; obtain rfl := Option.some.inj H; go_wp2; go_ret; exact ⟨Rf, By⟩

set_option linter.unusedVariables false
set_option linter.unusedSimpArgs false

/-! ### spec_l04End: function 128 -/
mutual
def spec_l04End.j0 : Nat → List (S155) → Int → Int → Bool → Option (Int)
  | 0, _, _, _, _ => none
  | k + 1, x0, x1, x2, x23 => if x23 = true then (some (-1)) else (if 0 ≤ x1 then (if x1 < (x0.length : Int) then (spec_l04End.l0 k x0 (wrap64 (x1 + 1)) x2 ((rd_T155 x0 x1).f3)) else (none)) else (none))
def spec_l04End.l0 : Nat → List (S155) → Int → Int → Int → Option (Int)
  | 0, _, _, _, _ => none
  | k + 1, x0, x1, x2, x7 => if x7 > 0 then (if x1 ≥ 0 then ((spec_l04End.f k x0 x1 (wrap64 (x2 + 1))).bind fun t151 => (spec_l04End.l0 k x0 t151 x2 (wrap64 (x7 - 1)))) else (some x1)) else (some x1)
def spec_l04End.f : Nat → List (S155) → Int → Int → Option (Int)
  | 0, _, _, _ => none
  | k + 1, l0, a1, a2 => if a1 ≥ (l0.length : Int) then (spec_l04End.j0 k l0 a1 a2 true) else (if a2 > 5 then (spec_l04End.j0 k l0 a1 a2 true) else (if 0 ≤ a1 then (if a1 < (l0.length : Int) then ((spec_l04Node.f k ((rd_T155 l0 a1).f0) ((rd_T155 l0 a1).f1) ((rd_T155 l0 a1).f2) ((rd_T155 l0 a1).f3)).bind fun t149 => (spec_l04End.j0 k l0 a1 a2 (!t149))) else (none)) else (none)))
end
theorem spec_l04End.mono_l : ∀ k, (∀ y0 y1 y2, LeO (spec_l04End.f k y0 y1 y2) (spec_l04End.f (k + 1) y0 y1 y2)) ∧ (∀ y0 y1 y2 y3, LeO (spec_l04End.j0 k y0 y1 y2 y3) (spec_l04End.j0 (k + 1) y0 y1 y2 y3)) ∧ (∀ y0 y1 y2 y3, LeO (spec_l04End.l0 k y0 y1 y2 y3) (spec_l04End.l0 (k + 1) y0 y1 y2 y3))
  | 0 => ⟨fun _ _ _ r h => by simp [spec_l04End.f] at h, fun _ _ _ _ r h => by simp [spec_l04End.j0] at h, fun _ _ _ _ r h => by simp [spec_l04End.l0] at h⟩
  | k + 1 => by
    obtain ⟨ih0, ih1, ih2⟩ := spec_l04End.mono_l k; refine ⟨?_, ?_, ?_⟩
    · intro y0 y1 y2; unfold spec_l04End.f; repeat' first
      | (with_reducible exact ih0 _ _ _)
      | (with_reducible exact ih1 _ _ _ _)
      | (with_reducible exact ih2 _ _ _ _)
      | (with_reducible exact spec_l04Node.mono _ _ _ _ _)
      | (with_reducible exact LeO.refl _)
      | (with_reducible exact LeO.none _)
      | (with_reducible refine LeO.ite ?_ ?_)
      | (with_reducible refine LeO.bind ?_ (fun _ => ?_))
    · intro y0 y1 y2 y3; unfold spec_l04End.j0; repeat' first
      | (with_reducible exact ih0 _ _ _)
      | (with_reducible exact ih1 _ _ _ _)
      | (with_reducible exact ih2 _ _ _ _)
      | (with_reducible exact spec_l04Node.mono _ _ _ _ _)
      | (with_reducible exact LeO.refl _)
      | (with_reducible exact LeO.none _)
      | (with_reducible refine LeO.ite ?_ ?_)
      | (with_reducible refine LeO.bind ?_ (fun _ => ?_))
    · intro y0 y1 y2 y3; unfold spec_l04End.l0; repeat' first
      | (with_reducible exact ih0 _ _ _)
      | (with_reducible exact ih1 _ _ _ _)
      | (with_reducible exact ih2 _ _ _ _)
      | (with_reducible exact spec_l04Node.mono _ _ _ _ _)
      | (with_reducible exact LeO.refl _)
      | (with_reducible exact LeO.none _)
      | (with_reducible refine LeO.ite ?_ ?_)
      | (with_reducible refine LeO.bind ?_ (fun _ => ?_))
theorem spec_l04End.mono : ∀ a0 a1 a2 k, LeO (spec_l04End.f k a0 a1 a2) (spec_l04End.f (k + 1) a0 a1 a2) := by
  intro a0 a1 a2 k; obtain ⟨ih0, ih1, ih2⟩ := spec_l04End.mono_l k; exact ih0 a0 a1 a2
set_option maxHeartbeats 8000000 in
set_option maxRecDepth 100000 in
theorem spec_l04End.calls (k : Nat) : ∀ (A0 : Option Addr) (c0 : Nat) (l0 : List (S155)) (a1 : Int) (a2 : Int) (r : Int) (w : World) (hr0 : Kd.C k155 w A0 l0.length l0) (hc0 : l0.length ≤ c0) (h : spec_l04End.f k l0 a1 a2 = some r),
    Calls Tryz.prog 128 #[.slice A0 l0.length c0, .int .i64 a1, .int .i64 a2] w fun e w' => e = .returned (.int .i64 r) ∧ Below w.heap.size w w' := by
  induction k using Nat.strongRecOn with
  | _ k ih =>
  intro A0 c0 l0 a1 a2 r w hr0 hc0 h; cases k with
  | zero => exact absurd h (by simp [spec_l04End.f])
  | succ k =>
  simp only [spec_l04End.f] at h; have hu155 := Tryz.underlying155; have HR0 := Aside0.mk hr0; have HC0 := Aside0.mk hc0; clear hr0 hc0; have HB := Aside0.mk (Below.refl w.heap.size w); have H : (if a1 ≥ (l0.length : Int) then (spec_l04End.j0 k l0 a1 a2 true) else (if a2 > 5 then (spec_l04End.j0 k l0 a1 a2 true) else (if 0 ≤ a1 then (if a1 < (l0.length : Int) then ((spec_l04Node.f k ((rd_T155 l0 a1).f0) ((rd_T155 l0 a1).f1) ((rd_T155 l0 a1).f2) ((rd_T155 l0 a1).f3)).bind fun t149 => (spec_l04End.j0 k l0 a1 a2 (!t149))) else (none)) else (none)))) = some r := h; clear h; have HC4 := Aside0.mk H; clear H; go_enter Tryz.func128, Tryz.ntmps128; go_upto_region 1 with (fail); go_cut [23] (fun v23 wc => ∃ (kq : Nat) (x23_3 : Bool), v23 = .bool x23_3 ∧ Aside0 (spec_l04End.j0 kq l0 a1 a2 x23_3 = some r) ∧ Aside0 (kq ≤ k) ∧ Aside0 (Below w.heap.size w wc))
  case first =>
    have H := HC4.out; clear HC4; by_cases c5 : a1 ≥ (l0.length : Int)
    · rw [if_pos c5] at H; have c5b0 : decide ((l0.length : Int) ≤ a1) = true := decide_eq_true c5; clear c5; (first | rw [c5b0] | (simp only [i64_w, i32_w]; rw [c5b0]) | skip); have H' := Aside0.mk H; clear H; go_wp2; go_meet
      case rel => exact ⟨_, (true), (by first | rfl | (simp; done) | (simp [*]; done)), H', ⟨by first | omega | exact Nat.le_refl _⟩, ⟨By⟩⟩
    · rw [if_neg c5] at H; have c5b0 : decide ((l0.length : Int) ≤ a1) = false := decide_eq_false c5; clear c5; (first | rw [c5b0] | (simp only [i64_w, i32_w]; rw [c5b0]) | skip); by_cases c6 : a2 > 5
      · rw [if_pos c6] at H; have c6b0 : decide (5 < a2) = true := decide_eq_true c6; clear c6; have H' := Aside0.mk H; clear H; go_wp2; go_meet
        case rel => exact ⟨_, (true), (by first | rfl | (simp; done) | (simp [*]; done)), H', ⟨by first | omega | exact Nat.le_refl _⟩, ⟨By⟩⟩
      · rw [if_neg c6] at H; have c6b0 : decide (5 < a2) = false := decide_eq_false c6; clear c6; by_cases c7 : 0 ≤ a1
        · rw [if_pos c7] at H; have c7b0 : decide (0 ≤ a1) = true := decide_eq_true c7; clear c7; by_cases c8 : a1 < (l0.length : Int)
          · rw [if_pos c8] at H; have c8b0 : decide (a1 < (l0.length : Int)) = true := decide_eq_true c8; clear c8; replace H := Option.bind_eq_some_iff.mp H; obtain ⟨t149, A90, H⟩ := H; (try dsimp only at H); have A9 := Aside0.mk A90; clear A90; have H' := Aside0.mk H; clear H; have p148 : 0 ≤ (a1 : Int) := of_decide_eq_true Da; have q148 : a1 < (l0.length : Int) := of_decide_eq_true Da; obtain ⟨ad148, e148, hx148_0, hx148_1, hx148_2, hx148_3⟩ := at_T155 HR0.out a1 p148 q148; cases e148
            replace hx148_0 := bz HB.out hx148_0; replace hx148_1 := bz HB.out hx148_1; replace hx148_2 := bz HB.out hx148_2; replace hx148_3 := bz HB.out hx148_3; replace p148 := eq_true p148; replace q148 := eq_true q148; go_wp2_with (first | (go_at_call 177; (with_reducible refine (spec_l04Node.calls k ((rd_T155 l0 a1).f0) ((rd_T155 l0 a1).f1) ((rd_T155 l0 a1).f2) ((rd_T155 l0 a1).f3) t149 _ A9.out).mono ?_); rintro e w10 ⟨rfl, hb⟩; have n0_ := Aside0.mk (below_step By hb); clear HB; have HB := n0_; clear n0_; (try clear hb); (try clear hb2); (try clear hk); (try clear hi))); go_meet
            case rel => exact ⟨_, (!t149), (by first | rfl | (simp; done) | (simp [*]; done)), H', ⟨by first | omega | exact Nat.le_refl _⟩, ⟨By⟩⟩
          · rw [if_neg c8] at H; exact absurd H (by simp)
        · rw [if_neg c7] at H; exact absurd H (by simp)
  case rest =>
    clear HC4; try clear c1
    try clear p1
    try clear q1
    try clear hx1
    try clear p2
    try clear c5
    try clear c5b0
    try clear c6
    try clear c6b0
    try clear c7
    try clear c7b0
    try clear c8
    try clear c8b0
    try clear hx148_0
    try clear hx148_1
    try clear hx148_2
    try clear hx148_3
    try clear p148
    try clear q148
    obtain ⟨kq, x23_3, rfl, HA, HJ3, HB⟩ := hcut; cases kq with
    | zero => exact absurd HA.out (by simp [spec_l04End.j0])
    | succ kj3 =>
      have H := HA.out; clear HA; simp only [spec_l04End.j0] at H; by_cases c11 : x23_3 = true
      · subst c11; rw [if_pos rfl] at H; obtain rfl := Option.some.inj H; go_wp2; go_ret; exact ⟨Rf, By⟩
      · replace c11 := Bool.eq_false_iff.mpr c11; subst c11; rw [if_neg (show ¬ (false = true) by decide)] at H; by_cases c12 : 0 ≤ a1
        · rw [if_pos c12] at H; have c12b0 : decide (0 ≤ a1) = true := decide_eq_true c12; clear c12; by_cases c13 : a1 < (l0.length : Int)
          · rw [if_pos c13] at H; have c13b0 : decide (a1 < (l0.length : Int)) = true := decide_eq_true c13; clear c13; have H' := Aside0.mk H; clear H; have p150 : 0 ≤ (a1 : Int) := of_decide_eq_true Da; have q150 : a1 < (l0.length : Int) := of_decide_eq_true Da; obtain ⟨ad150, e150, hx150_0, hx150_1, hx150_2, hx150_3⟩ := at_T155 HR0.out a1 p150 q150; cases e150
            replace hx150_0 := bz HB.out hx150_0; replace hx150_1 := bz HB.out hx150_1; replace hx150_2 := bz HB.out hx150_2; replace hx150_3 := bz HB.out hx150_3; replace p150 := eq_true p150; replace q150 := eq_true q150; go_wp2; go_loopg [1, 7] kj3 (fun kq v1 v7 w' => ∃ (x1_2 : Int) (x7_2 : Int), v1 = .int .i64 x1_2 ∧ v7 = .int .i64 x7_2 ∧ Aside0 (spec_l04End.l0 kq l0 x1_2 a2 x7_2 = some r) ∧ Aside0 (kq ≤ kj3) ∧ Aside0 (Below w.heap.size w w'))
            case atStart => exact ⟨(wrap64 (a1 + 1)), ((rd_T155 l0 a1).f3), (by first | rfl | (simp; done) | (simp [*]; done)), (by first | rfl | (simp; done) | (simp [*]; done)), H', ⟨Nat.le_refl _⟩, ⟨By⟩⟩
            case round =>
              clear H'; try clear c1
              try clear p1
              try clear q1
              try clear hx1
              try clear p2
              try clear c5
              try clear c5b0
              try clear c6
              try clear c6b0
              try clear p6
              try clear c7
              try clear c7b0
              try clear c8
              try clear c8b0
              try clear c11
              try clear c12
              try clear c12b0
              try clear c13
              try clear c13b0
              try clear hx148_0
              try clear hx148_1
              try clear hx148_2
              try clear hx148_3
              try clear hx150_0
              try clear hx150_1
              try clear hx150_2
              try clear hx150_3
              try clear p1
              try clear p148
              try clear p150
              try clear p2
              try clear q1
              try clear q148
              try clear q150
              obtain ⟨x1_2, x7_2, rfl, rfl, HA, HK2, HB⟩ := hrel; cases gk with
              | zero => exact absurd HA.out (by simp [spec_l04End.l0])
              | succ k2 =>
                have H := HA.out; clear HA; simp only [spec_l04End.l0] at H; by_cases c14 : x7_2 > 0
                · rw [if_pos c14] at H; have c14b0 : decide (0 < x7_2) = true := decide_eq_true c14; clear c14; by_cases c15 : x1_2 ≥ 0
                  · rw [if_pos c15] at H; have c15b0 : decide (0 ≤ x1_2) = true := decide_eq_true c15; clear c15; replace H := Option.bind_eq_some_iff.mp H; obtain ⟨t151, A160, H⟩ := H; (try dsimp only at H); have A16 := Aside0.mk A160; clear A160; have H' := Aside0.mk H; clear H; go_wp2_with (first | ((with_reducible refine gate_callee (f := 128) rfl ?_); refine goesL_ (some 43) rfl rfl Tryz.func128 (by kernel_rfl) rfl #[.slice (some ad150) l0.length c0, .int .i64 x1_2, .int .i64 (wrap64 (a2 + 1))] rfl Ag ?_; (with_reducible refine (ih k2 (by have := HJ3.out; have := HK2.out; omega) _ _ l0 x1_2 (wrap64 (a2 + 1)) t151 _ ?side1 ?side2 A16.out).mono ?_); (case side1 => exact rC (Kd.C_below HR0.out HB.out)); (case side2 => exact HC0.out); rintro e w17 ⟨rfl, hb⟩; refine ⟨_, rfl, ?_⟩; have n0_ := Aside0.mk (below_step By hb); clear HB; have HB := n0_; clear n0_; (try clear hb); (try clear hb2); (try clear hk); (try clear hi))); go_roundg k2
                    case measure => have := HJ3.out; have := HK2.out; omega
                    case rel => exact ⟨(t151), (wrap64 (x7_2 - 1)), (by first | rfl | (simp; done) | (simp [*]; done)), (by first | rfl | (simp; done) | (simp [*]; done)), H', ⟨by have := HJ3.out; have := HK2.out; omega⟩, ⟨By⟩⟩
                  · rw [if_neg c15] at H; have c15b0 : decide (0 ≤ x1_2) = false := decide_eq_false c15; clear c15; obtain rfl := Option.some.inj H; go_wp2; go_ret; exact ⟨Rf, By⟩
                · rw [if_neg c14] at H; have c14b0 : decide (0 < x7_2) = false := decide_eq_false c14; clear c14; obtain rfl := Option.some.inj H; go_wp2; go_ret; exact ⟨Rf, By⟩
          · rw [if_neg c13] at H; exact absurd H (by simp)
        · rw [if_neg c12] at H; exact absurd H (by simp)

set_option linter.unusedVariables false
set_option linter.unusedSimpArgs false

/-! ### spec_FilterRight: function 75 -/
def spec_FilterRight.f (k : Nat) (l0 : List (S155)) : Option (Bool) := if (l0.length : Int) ≤ 20 then ((spec_l04End.f k l0 0 1).bind fun t152 => (some (t152 == (l0.length : Int)))) else (some false)
theorem spec_FilterRight.mono : ∀ a0 k, LeO (spec_FilterRight.f k a0) (spec_FilterRight.f (k + 1) a0) := by
  intro a0 k; unfold spec_FilterRight.f; repeat' first
      | (with_reducible exact spec_l04End.mono _ _ _ _)
      | (with_reducible exact LeO.refl _)
      | (with_reducible exact LeO.none _)
      | (with_reducible refine LeO.ite ?_ ?_)
      | (with_reducible refine LeO.bind ?_ (fun _ => ?_))
set_option maxHeartbeats 8000000 in
set_option maxRecDepth 100000 in
theorem spec_FilterRight.calls (k : Nat) (A0 : Option Addr) (c0 : Nat) (l0 : List (S155)) (r : Bool) (w : World) (hr0 : Kd.C k155 w A0 l0.length l0) (hc0 : l0.length ≤ c0) (h : spec_FilterRight.f k l0 = some r) :
    Calls Tryz.prog 75 #[.slice A0 l0.length c0] w fun e w' => e = .returned (.bool r) ∧ Below w.heap.size w w' := by
  have HR0 := Aside0.mk hr0; have HC0 := Aside0.mk hc0; clear hr0 hc0; have HB := Aside0.mk (Below.refl w.heap.size w); have H : (if (l0.length : Int) ≤ 20 then ((spec_l04End.f k l0 0 1).bind fun t152 => (some (t152 == (l0.length : Int)))) else (some false)) = some r := h; clear h; by_cases c2 : (l0.length : Int) ≤ 20
  · rw [if_pos c2] at H; have c2b0 : decide ((l0.length : Int) ≤ 20) = true := decide_eq_true c2; have c2b1 : decide (l0.length ≤ 20) = true := decide_eq_true (by omega); clear c2; replace H := Option.bind_eq_some_iff.mp H; obtain ⟨t152, A30, H⟩ := H; (try dsimp only at H); have A3 := Aside0.mk A30; clear A30; obtain rfl := Option.some.inj H; go_enter Tryz.func75, Tryz.ntmps75; go_wp2_with (first | (go_at_call 128; (with_reducible refine (spec_l04End.calls k _ _ l0 0 1 t152 _ ?side1 ?side2 A3.out).mono ?_); (case side1 => repeat (first | exact HR0.out | (with_reducible refine Kd.C_alloc ?_ _) | (with_reducible refine Kd.C_drewN ?_ _) | (with_reducible refine Kd.C_drew ?_))); (case side2 => exact HC0.out); rintro e w4 ⟨rfl, hb⟩; have n0_ := Aside0.mk (below_step By hb); clear HB; have HB := n0_; clear n0_; (try clear hb); (try clear hb2); (try clear hk); (try clear hi))); go_ret; exact ⟨Rf, By⟩
  · rw [if_neg c2] at H; have c2b0 : decide ((l0.length : Int) ≤ 20) = false := decide_eq_false c2; have c2b1 : decide (l0.length ≤ 20) = false := decide_eq_false (by omega); clear c2; obtain rfl := Option.some.inj H; go_enter Tryz.func75, Tryz.ntmps75; go_wp2; go_ret; exact ⟨Rf, By⟩

set_option linter.unusedVariables false
set_option linter.unusedSimpArgs false

/-! ### spec_l13Many: function 179 -/
mutual
def spec_l13Many.j0 : Nat → Int → Bool → Option (Int)
  | 0, _, _ => none
  | k + 1, x3, x4 => if x4 = true then (some 0) else (if x3 = 3 then (spec_l13Many.j1 k x3 (x3 == 3)) else (if x3 = 4 then (spec_l13Many.j1 k x3 (x3 == 4)) else (spec_l13Many.j1 k x3 (x3 == 7))))
def spec_l13Many.j1 : Nat → Int → Bool → Option (Int)
  | 0, _, _ => none
  | k + 1, x3, x7 => if x7 = true then (some 1) else (if x3 = 5 then (some 2) else (if x3 = 6 then (some 2) else (some (-1))))
end
def spec_l13Many.f (k : Nat) (a0 : Int) : Option (Int) := if a0 = 1 then (spec_l13Many.j0 k a0 (a0 == 1)) else (spec_l13Many.j0 k a0 (a0 == 2))
theorem spec_l13Many.mono_l : ∀ k, (∀ y0 y1, LeO (spec_l13Many.j0 k y0 y1) (spec_l13Many.j0 (k + 1) y0 y1)) ∧ (∀ y0 y1, LeO (spec_l13Many.j1 k y0 y1) (spec_l13Many.j1 (k + 1) y0 y1))
  | 0 => ⟨fun _ _ r h => by simp [spec_l13Many.j0] at h, fun _ _ r h => by simp [spec_l13Many.j1] at h⟩
  | k + 1 => by
    obtain ⟨ih0, ih1⟩ := spec_l13Many.mono_l k; refine ⟨?_, ?_⟩
    · intro y0 y1; unfold spec_l13Many.j0; repeat' first
      | (with_reducible exact ih0 _ _)
      | (with_reducible exact ih1 _ _)
      | (with_reducible exact LeO.refl _)
      | (with_reducible exact LeO.none _)
      | (with_reducible refine LeO.ite ?_ ?_)
      | (with_reducible refine LeO.bind ?_ (fun _ => ?_))
    · intro y0 y1; unfold spec_l13Many.j1; repeat' first
      | (with_reducible exact ih0 _ _)
      | (with_reducible exact ih1 _ _)
      | (with_reducible exact LeO.refl _)
      | (with_reducible exact LeO.none _)
      | (with_reducible refine LeO.ite ?_ ?_)
      | (with_reducible refine LeO.bind ?_ (fun _ => ?_))
theorem spec_l13Many.mono : ∀ a0 k, LeO (spec_l13Many.f k a0) (spec_l13Many.f (k + 1) a0) := by
  intro a0 k; obtain ⟨ih0, ih1⟩ := spec_l13Many.mono_l k; unfold spec_l13Many.f; repeat' first
      | (with_reducible exact ih0 _ _)
      | (with_reducible exact ih1 _ _)
      | (with_reducible exact LeO.refl _)
      | (with_reducible exact LeO.none _)
      | (with_reducible refine LeO.ite ?_ ?_)
      | (with_reducible refine LeO.bind ?_ (fun _ => ?_))
set_option maxHeartbeats 8000000 in
set_option maxRecDepth 100000 in
theorem spec_l13Many.calls (k : Nat) (a0 : Int) (r : Int) (w : World) (h : spec_l13Many.f k a0 = some r) :
    Calls Tryz.prog 179 #[.int .i64 a0] w fun e w' => e = .returned (.int .i64 r) ∧ Drawn0 w w' := by
  have H : (if a0 = 1 then (spec_l13Many.j0 k a0 (a0 == 1)) else (spec_l13Many.j0 k a0 (a0 == 2))) = some r := h; clear h; have HC2 := Aside0.mk H; clear H; go_enter Tryz.func179, Tryz.ntmps179; go_upto_if 4 with (fail); go_cut [4] (fun v4 wc => ∃ (kq : Nat) (x4_1 : Bool), v4 = .bool x4_1 ∧ Aside0 (spec_l13Many.j0 kq a0 x4_1 = some r) ∧ Aside0 (kq ≤ k) ∧ Drawn0 w wc)
  case first =>
    have H := HC2.out; clear HC2; by_cases c3 : a0 = 1
    · rw [if_pos c3] at H; have c3b0 : (a0 == 1) = true := beq_iff_eq.mpr c3; have c3b1 : (a0 != 1) = false := bne_eq_false_iff_eq.mpr c3; clear c3; (first | rw [c3b0] | (simp only [i64_w, i32_w]; rw [c3b0]) | skip); have H' := Aside0.mk H; clear H; go_wp2; go_meet
      case rel => exact ⟨_, ((a0 == 1)), (by first | rfl | (simp; done) | (simp [*]; done)), H', ⟨by first | omega | exact Nat.le_refl _⟩, by repeat (first | exact Drawn0.refl _ | apply Drawn0.step)⟩
    · rw [if_neg c3] at H; have c3b0 : (a0 == 1) = false := beq_eq_false_iff_ne.mpr c3; have c3b1 : (a0 != 1) = true := bne_iff_ne.mpr c3; (first | rw [c3b0] | (simp only [i64_w, i32_w]; rw [c3b0]) | skip); have H' := Aside0.mk H; clear H; go_wp2; go_meet
      case rel => exact ⟨_, ((a0 == 2)), (by first | rfl | (simp; done) | (simp [*]; done)), H', ⟨by first | omega | exact Nat.le_refl _⟩, by repeat (first | exact Drawn0.refl _ | apply Drawn0.step)⟩
  case rest =>
    clear HC2; try clear c1
    try clear p2
    try clear c3
    try clear c3b0
    try clear c3b1
    obtain ⟨kq, x4_1, rfl, HA, HJ1, ⟨mc1, rfl⟩⟩ := hcut; cases kq with
    | zero => exact absurd HA.out (by simp [spec_l13Many.j0])
    | succ kj1 =>
      have H := HA.out; clear HA; simp only [spec_l13Many.j0] at H; by_cases c4 : x4_1 = true
      · subst c4; rw [if_pos rfl] at H; obtain rfl := Option.some.inj H; go_wp2; go_ret; exact ⟨by first | rfl | (simp; done) | (simp [*]; done), by repeat (first | exact Drawn0.refl _ | apply Drawn0.step)⟩
      · replace c4 := Bool.eq_false_iff.mpr c4; subst c4; rw [if_neg (show ¬ (false = true) by decide)] at H; have HC5 := Aside0.mk H; clear H; go_upto_if 7 with (fail); go_cut [7] (fun v7 wc => ∃ (kq : Nat) (x7_4 : Bool), v7 = .bool x7_4 ∧ Aside0 (spec_l13Many.j1 kq a0 x7_4 = some r) ∧ Aside0 (kq ≤ kj1) ∧ Drawn0 w wc)
        case first =>
          have H := HC5.out; clear HC5; by_cases c6 : a0 = 3
          · rw [if_pos c6] at H; have c6b0 : (a0 == 3) = true := beq_iff_eq.mpr c6; have c6b1 : (a0 != 3) = false := bne_eq_false_iff_eq.mpr c6; clear c6; (first | rw [c6b0] | (simp only [i64_w, i32_w]; rw [c6b0]) | skip); have H' := Aside0.mk H; clear H; go_wp2; go_meet
            case rel => exact ⟨_, ((a0 == 3)), (by first | rfl | (simp; done) | (simp [*]; done)), H', ⟨by have := HJ1.out; first | omega | exact Nat.le_refl _⟩, by repeat (first | exact Drawn0.refl _ | apply Drawn0.step)⟩
          · rw [if_neg c6] at H; have c6b0 : (a0 == 3) = false := beq_eq_false_iff_ne.mpr c6; have c6b1 : (a0 != 3) = true := bne_iff_ne.mpr c6; (first | rw [c6b0] | (simp only [i64_w, i32_w]; rw [c6b0]) | skip); by_cases c7 : a0 = 4
            · rw [if_pos c7] at H; have c7b0 : (a0 == 4) = true := beq_iff_eq.mpr c7; have c7b1 : (a0 != 4) = false := bne_eq_false_iff_eq.mpr c7; clear c7; have H' := Aside0.mk H; clear H; go_wp2; go_meet
              case rel => exact ⟨_, ((a0 == 4)), (by first | rfl | (simp; done) | (simp [*]; done)), H', ⟨by have := HJ1.out; first | omega | exact Nat.le_refl _⟩, by repeat (first | exact Drawn0.refl _ | apply Drawn0.step)⟩
            · rw [if_neg c7] at H; have c7b0 : (a0 == 4) = false := beq_eq_false_iff_ne.mpr c7; have c7b1 : (a0 != 4) = true := bne_iff_ne.mpr c7; have H' := Aside0.mk H; clear H; go_wp2; go_meet
              case rel => exact ⟨_, ((a0 == 7)), (by first | rfl | (simp; done) | (simp [*]; done)), H', ⟨by have := HJ1.out; first | omega | exact Nat.le_refl _⟩, by repeat (first | exact Drawn0.refl _ | apply Drawn0.step)⟩
        case rest =>
          clear HC5; try clear c1
          try clear p2
          try clear c3
          try clear c3b0
          try clear c3b1
          try clear c4
          try clear c6
          try clear c6b0
          try clear c6b1
          try clear c7
          try clear c7b0
          try clear c7b1
          try clear p2
          obtain ⟨kq, x7_4, rfl, HA, HJ4, ⟨mc4, rfl⟩⟩ := hcut; cases kq with
          | zero => exact absurd HA.out (by simp [spec_l13Many.j1])
          | succ kj4 =>
            have H := HA.out; clear HA; simp only [spec_l13Many.j1] at H; by_cases c8 : x7_4 = true
            · subst c8; rw [if_pos rfl] at H; obtain rfl := Option.some.inj H; go_wp2; go_ret; exact ⟨by first | rfl | (simp; done) | (simp [*]; done), by repeat (first | exact Drawn0.refl _ | apply Drawn0.step)⟩
            · replace c8 := Bool.eq_false_iff.mpr c8; subst c8; rw [if_neg (show ¬ (false = true) by decide)] at H; by_cases c9 : a0 = 5
              · rw [if_pos c9] at H; have c9b0 : (a0 == 5) = true := beq_iff_eq.mpr c9; have c9b1 : (a0 != 5) = false := bne_eq_false_iff_eq.mpr c9; clear c9; obtain rfl := Option.some.inj H; go_wp2; go_ret; exact ⟨by first | rfl | (simp; done) | (simp [*]; done), by repeat (first | exact Drawn0.refl _ | apply Drawn0.step)⟩
              · rw [if_neg c9] at H; have c9b0 : (a0 == 5) = false := beq_eq_false_iff_ne.mpr c9; have c9b1 : (a0 != 5) = true := bne_iff_ne.mpr c9; by_cases c10 : a0 = 6
                · rw [if_pos c10] at H; have c10b0 : (a0 == 6) = true := beq_iff_eq.mpr c10; have c10b1 : (a0 != 6) = false := bne_eq_false_iff_eq.mpr c10; clear c10; obtain rfl := Option.some.inj H; go_wp2; go_ret; exact ⟨by first | rfl | (simp; done) | (simp [*]; done), by repeat (first | exact Drawn0.refl _ | apply Drawn0.step)⟩
                · rw [if_neg c10] at H; have c10b0 : (a0 == 6) = false := beq_eq_false_iff_ne.mpr c10; have c10b1 : (a0 != 6) = true := bne_iff_ne.mpr c10; obtain rfl := Option.some.inj H; go_wp2; go_ret; exact ⟨by first | rfl | (simp; done) | (simp [*]; done), by repeat (first | exact Drawn0.refl _ | apply Drawn0.step)⟩

set_option linter.unusedVariables false
set_option linter.unusedSimpArgs false

/-! ### spec_l13Part: function 178 -/
def spec_l13Part.j0 : Nat → Bool → Int → ByteArray → Int → Option (Bool)
  | 0, _, _, _, _ => none
  | k + 1, x22, x154000, x154001, x154002 => if x22 = true then (some false) else (if x154000 = 1 then (if (x154001.size : Int) ≤ 40 then ((spec_l02Plain.f k x154001).bind fun t157 => (some t157)) else (some false)) else (if x154000 = 2 then ((spec_NameRight.f k x154001).bind fun t158 => (some t158)) else (some (x154001.toList == ([] : List UInt8)))))
def spec_l13Part.f (k : Nat) (a0_0 : Int) (a0_1 : ByteArray) (a0_2 : Int) : Option (Bool) := (spec_l13Many.f k a0_0).bind fun t154 => (if t154 < 0 then (spec_l13Part.j0 k true a0_0 a0_1 a0_2) else (if a0_0 = 7 then ((spec_l02Is.f a0_2 0 40).bind fun t155 => (spec_l13Part.j0 k (!t155) a0_0 a0_1 a0_2)) else (if a0_2 = 0 then ((spec_l02Is.f a0_2 0 40).bind fun t156 => (spec_l13Part.j0 k (!t156) a0_0 a0_1 a0_2)) else (spec_l13Part.j0 k true a0_0 a0_1 a0_2))))
theorem spec_l13Part.mono_l : ∀ k, (∀ y0 y1 y2 y3, LeO (spec_l13Part.j0 k y0 y1 y2 y3) (spec_l13Part.j0 (k + 1) y0 y1 y2 y3))
  | 0 => fun _ _ _ _ r h => by simp [spec_l13Part.j0] at h
  | k + 1 => by
    have ih0 := spec_l13Part.mono_l k
    · intro y0 y1 y2 y3; unfold spec_l13Part.j0; repeat' first
      | (with_reducible exact ih0 _ _ _ _)
      | (with_reducible exact spec_NameRight.mono _ _)
      | (with_reducible exact spec_l02Plain.mono _ _)
      | (with_reducible exact spec_l13Many.mono _ _)
      | (with_reducible exact LeO.refl _)
      | (with_reducible exact LeO.none _)
      | (with_reducible refine LeO.ite ?_ ?_)
      | (with_reducible refine LeO.bind ?_ (fun _ => ?_))
theorem spec_l13Part.mono : ∀ a0 a1 a2 k, LeO (spec_l13Part.f k a0 a1 a2) (spec_l13Part.f (k + 1) a0 a1 a2) := by
  intro a0 a1 a2 k; have ih0 := spec_l13Part.mono_l k; unfold spec_l13Part.f; repeat' first
      | (with_reducible exact ih0 _ _ _ _)
      | (with_reducible exact spec_NameRight.mono _ _)
      | (with_reducible exact spec_l02Plain.mono _ _)
      | (with_reducible exact spec_l13Many.mono _ _)
      | (with_reducible exact LeO.refl _)
      | (with_reducible exact LeO.none _)
      | (with_reducible refine LeO.ite ?_ ?_)
      | (with_reducible refine LeO.bind ?_ (fun _ => ?_))
set_option maxHeartbeats 8000000 in
set_option maxRecDepth 100000 in
theorem spec_l13Part.calls (k : Nat) (a0_0 : Int) (a0_1 : ByteArray) (a0_2 : Int) (r : Bool) (w : World) (h : spec_l13Part.f k a0_0 a0_1 a0_2 = some r) :
    Calls Tryz.prog 178 #[.agg #[.int .i64 a0_0, .string a0_1, .int .i64 a0_2]] w fun e w' => e = .returned (.bool r) ∧ Below w.heap.size w w' := by
  have hu156 := Tryz.underlying156; have HB := Aside0.mk (Below.refl w.heap.size w); have H : ((spec_l13Many.f k a0_0).bind fun t154 => (if t154 < 0 then (spec_l13Part.j0 k true a0_0 a0_1 a0_2) else (if a0_0 = 7 then ((spec_l02Is.f a0_2 0 40).bind fun t155 => (spec_l13Part.j0 k (!t155) a0_0 a0_1 a0_2)) else (if a0_2 = 0 then ((spec_l02Is.f a0_2 0 40).bind fun t156 => (spec_l13Part.j0 k (!t156) a0_0 a0_1 a0_2)) else (spec_l13Part.j0 k true a0_0 a0_1 a0_2))))) = some r := h; clear h; have HC2 := Aside0.mk H; clear H; go_enter Tryz.func178, Tryz.ntmps178; go_upto_region 1 with (first | ((with_reducible refine gate_dst (N := 1) rfl ?_); refine box_event ?hg (N := 1) ?hd (cs := #[.int .i64 a0_0, .string a0_1, .int .i64 a0_2]) (t := 156) ?hr ?_; (case hd => rfl); (case hg => rfl); (case hr => first | (go_simp; done) | (go_simp; rfl)); intro gb153 hg w3 hbox hb; have n_ := aa (below_step By hb) <| aa (hbox) <| aa ((by rw [hg]; exact (below_size By) : w.heap.size ≤ gb153)) <| Aside0.mk ((by rw [hg]; exact (below_size By) : w.heap.size ≤ gb153)); clear HB; obtain ⟨HB, BK153, GW153, GE153⟩ := n_; clear hb hbox hg)); (try simp only [Act.put, List.setIfInBounds_toArray, List.set_cons_zero, List.set_cons_succ]); go_cut [22] (fun v22 wc => ∃ (kq : Nat) (x22_1 : Bool), v22 = .bool x22_1 ∧ Aside0 (spec_l13Part.j0 kq x22_1 a0_0 a0_1 a0_2 = some r) ∧ Aside0 (kq ≤ k) ∧ Aside0 (wc.heap[gb153]? = some (.cells #[.int .i64 a0_0, .string a0_1, .int .i64 a0_2] 156 (0, 0))) ∧ Aside0 (Below w.heap.size w wc))
  case first =>
    have H := HC2.out; clear HC2; replace H := Option.bind_eq_some_iff.mp H; obtain ⟨t154, A40, H⟩ := H; (try dsimp only at H); have A4 := Aside0.mk A40; clear A40; by_cases c5 : t154 < 0
    · rw [if_pos c5] at H; have c5b0 : decide (t154 < 0) = true := decide_eq_true c5; clear c5; (first | rw [c5b0] | (simp only [i64_w, i32_w]; rw [c5b0]) | skip); have H' := Aside0.mk H; clear H; have hcz6_0 : w3.cell? ⟨gb153, 0, none⟩ = some (.int .i64 a0_0) := bc BK153.out 0; have hcz6_1 : w3.cell? ⟨gb153, 1, none⟩ = some (.string a0_1) := bc BK153.out 1; have hcz6_2 : w3.cell? ⟨gb153, 2, none⟩ = some (.int .i64 a0_2) := bc BK153.out 2; have hfz6_0 := blk_frozen BK153.out 0; have hfz6_1 := blk_frozen BK153.out 1; have hfz6_2 := blk_frozen BK153.out 2; go_wp2_with (first | ((with_reducible refine gate_callee (f := 179) rfl ?_); refine goesL_ (some 5) rfl rfl Tryz.func179 (by kernel_rfl) rfl #[.int .i64 a0_0] rfl Ag ?_; (with_reducible refine (spec_l13Many.calls k a0_0 t154 _ A4.out).mono ?_); rintro e w' ⟨rfl, ⟨nd, rfl⟩⟩; refine ⟨_, rfl, ?_⟩)); go_meet
      case rel => exact ⟨_, (true), (by first | rfl | (simp; done) | (simp [*]; done)), H', ⟨by first | omega | exact Nat.le_refl _⟩, ⟨by (with_reducible repeat (first | refine blk_drewN ?_ _ | refine blk_drew ?_ | refine blk_alloc ?_ _)); exact BK153.out⟩, ⟨By⟩⟩
    · rw [if_neg c5] at H; have c5b0 : decide (t154 < 0) = false := decide_eq_false c5; clear c5; (first | rw [c5b0] | (simp only [i64_w, i32_w]; rw [c5b0]) | skip); by_cases c7 : a0_0 = 7
      · rw [if_pos c7] at H; have c7b0 : (a0_0 == 7) = true := beq_iff_eq.mpr c7; have c7b1 : (a0_0 != 7) = false := bne_eq_false_iff_eq.mpr c7; clear c7; replace H := Option.bind_eq_some_iff.mp H; obtain ⟨t155, A80, H⟩ := H; (try dsimp only at H); have A8 := Aside0.mk A80; clear A80; have H' := Aside0.mk H; clear H; have hcz9_0 : w3.cell? ⟨gb153, 0, none⟩ = some (.int .i64 a0_0) := bc BK153.out 0; have hcz9_1 : w3.cell? ⟨gb153, 1, none⟩ = some (.string a0_1) := bc BK153.out 1; have hcz9_2 : w3.cell? ⟨gb153, 2, none⟩ = some (.int .i64 a0_2) := bc BK153.out 2; have hfz9_0 := blk_frozen BK153.out 0; have hfz9_1 := blk_frozen BK153.out 1; have hfz9_2 := blk_frozen BK153.out 2; go_wp2_with (first | ((with_reducible refine gate_callee (f := 179) rfl ?_); refine goesL_ (some 5) rfl rfl Tryz.func179 (by kernel_rfl) rfl #[.int .i64 a0_0] rfl Ag ?_; (with_reducible refine (spec_l13Many.calls k a0_0 t154 _ A4.out).mono ?_); rintro e w' ⟨rfl, ⟨nd, rfl⟩⟩; refine ⟨_, rfl, ?_⟩) | (go_at_call 145; (with_reducible refine (spec_l02Is.calls a0_2 0 40 t155 _ A8.out).mono ?_); rintro e w' ⟨rfl, ⟨nd, rfl⟩⟩)); go_meet
        case rel => exact ⟨_, (!t155), (by first | rfl | (simp; done) | (simp [*]; done)), H', ⟨by first | omega | exact Nat.le_refl _⟩, ⟨by (with_reducible repeat (first | refine blk_drewN ?_ _ | refine blk_drew ?_ | refine blk_alloc ?_ _)); exact BK153.out⟩, ⟨By⟩⟩
      · rw [if_neg c7] at H; have c7b0 : (a0_0 == 7) = false := beq_eq_false_iff_ne.mpr c7; have c7b1 : (a0_0 != 7) = true := bne_iff_ne.mpr c7; by_cases c10 : a0_2 = 0
        · rw [if_pos c10] at H; have c10b0 : (a0_2 == 0) = true := beq_iff_eq.mpr c10; have c10b1 : (a0_2 != 0) = false := bne_eq_false_iff_eq.mpr c10; clear c10; replace H := Option.bind_eq_some_iff.mp H; obtain ⟨t156, A110, H⟩ := H; (try dsimp only at H); have A11 := Aside0.mk A110; clear A110; have H' := Aside0.mk H; clear H; have hcz12_0 : w3.cell? ⟨gb153, 0, none⟩ = some (.int .i64 a0_0) := bc BK153.out 0; have hcz12_1 : w3.cell? ⟨gb153, 1, none⟩ = some (.string a0_1) := bc BK153.out 1; have hcz12_2 : w3.cell? ⟨gb153, 2, none⟩ = some (.int .i64 a0_2) := bc BK153.out 2; have hfz12_0 := blk_frozen BK153.out 0; have hfz12_1 := blk_frozen BK153.out 1; have hfz12_2 := blk_frozen BK153.out 2; go_wp2_with (first | ((with_reducible refine gate_callee (f := 179) rfl ?_); refine goesL_ (some 5) rfl rfl Tryz.func179 (by kernel_rfl) rfl #[.int .i64 a0_0] rfl Ag ?_; (with_reducible refine (spec_l13Many.calls k a0_0 t154 _ A4.out).mono ?_); rintro e w' ⟨rfl, ⟨nd, rfl⟩⟩; refine ⟨_, rfl, ?_⟩) | (go_at_call 145; (with_reducible refine (spec_l02Is.calls a0_2 0 40 t156 _ A11.out).mono ?_); rintro e w' ⟨rfl, ⟨nd, rfl⟩⟩)); go_meet
          case rel => exact ⟨_, (!t156), (by first | rfl | (simp; done) | (simp [*]; done)), H', ⟨by first | omega | exact Nat.le_refl _⟩, ⟨by (with_reducible repeat (first | refine blk_drewN ?_ _ | refine blk_drew ?_ | refine blk_alloc ?_ _)); exact BK153.out⟩, ⟨By⟩⟩
        · rw [if_neg c10] at H; have c10b0 : (a0_2 == 0) = false := beq_eq_false_iff_ne.mpr c10; have c10b1 : (a0_2 != 0) = true := bne_iff_ne.mpr c10; have H' := Aside0.mk H; clear H; have hcz13_0 : w3.cell? ⟨gb153, 0, none⟩ = some (.int .i64 a0_0) := bc BK153.out 0; have hcz13_1 : w3.cell? ⟨gb153, 1, none⟩ = some (.string a0_1) := bc BK153.out 1; have hcz13_2 : w3.cell? ⟨gb153, 2, none⟩ = some (.int .i64 a0_2) := bc BK153.out 2; have hfz13_0 := blk_frozen BK153.out 0; have hfz13_1 := blk_frozen BK153.out 1; have hfz13_2 := blk_frozen BK153.out 2; go_wp2_with (first | ((with_reducible refine gate_callee (f := 179) rfl ?_); refine goesL_ (some 5) rfl rfl Tryz.func179 (by kernel_rfl) rfl #[.int .i64 a0_0] rfl Ag ?_; (with_reducible refine (spec_l13Many.calls k a0_0 t154 _ A4.out).mono ?_); rintro e w' ⟨rfl, ⟨nd, rfl⟩⟩; refine ⟨_, rfl, ?_⟩)); go_meet
          case rel => exact ⟨_, (true), (by first | rfl | (simp; done) | (simp [*]; done)), H', ⟨by first | omega | exact Nat.le_refl _⟩, ⟨by (with_reducible repeat (first | refine blk_drewN ?_ _ | refine blk_drew ?_ | refine blk_alloc ?_ _)); exact BK153.out⟩, ⟨By⟩⟩
  case rest =>
    clear HC2; try clear c1
    try clear p2
    try clear c5
    try clear c5b0
    try clear c7
    try clear c7b0
    try clear c7b1
    try clear c10
    try clear c10b0
    try clear c10b1
    try clear hcz12_0
    try clear hcz12_1
    try clear hcz12_2
    try clear hcz13_0
    try clear hcz13_1
    try clear hcz13_2
    try clear hcz6_0
    try clear hcz6_1
    try clear hcz6_2
    try clear hcz9_0
    try clear hcz9_1
    try clear hcz9_2
    try clear hfz12_0
    try clear hfz12_1
    try clear hfz12_2
    try clear hfz13_0
    try clear hfz13_1
    try clear hfz13_2
    try clear hfz6_0
    try clear hfz6_1
    try clear hfz6_2
    try clear hfz9_0
    try clear hfz9_1
    try clear hfz9_2
    obtain ⟨kq, x22_1, rfl, HA, HJ1, BK153, HB⟩ := hcut; cases kq with
    | zero => exact absurd HA.out (by simp [spec_l13Part.j0])
    | succ kj1 =>
      have H := HA.out; clear HA; simp only [spec_l13Part.j0] at H; by_cases c14 : x22_1 = true
      · subst c14; rw [if_pos rfl] at H; obtain rfl := Option.some.inj H; go_wp2; go_ret; exact ⟨Rf, By⟩
      · replace c14 := Bool.eq_false_iff.mpr c14; subst c14; rw [if_neg (show ¬ (false = true) by decide)] at H; by_cases c15 : a0_0 = 1
        · rw [if_pos c15] at H; have c15b0 : (a0_0 == 1) = true := beq_iff_eq.mpr c15; have c15b1 : (a0_0 != 1) = false := bne_eq_false_iff_eq.mpr c15; clear c15; by_cases c16 : (a0_1.size : Int) ≤ 40
          · rw [if_pos c16] at H; have c16b0 : decide ((a0_1.size : Int) ≤ 40) = true := decide_eq_true c16; have c16b1 : decide (a0_1.size ≤ 40) = true := decide_eq_true (by omega); clear c16; replace H := Option.bind_eq_some_iff.mp H; obtain ⟨t157, A170, H⟩ := H; (try dsimp only at H); have A17 := Aside0.mk A170; clear A170; obtain rfl := Option.some.inj H; have hcz18_0 : wc.cell? ⟨gb153, 0, none⟩ = some (.int .i64 a0_0) := bc BK153.out 0; have hcz18_1 : wc.cell? ⟨gb153, 1, none⟩ = some (.string a0_1) := bc BK153.out 1; have hcz18_2 : wc.cell? ⟨gb153, 2, none⟩ = some (.int .i64 a0_2) := bc BK153.out 2; have hfz18_0 := blk_frozen BK153.out 0; have hfz18_1 := blk_frozen BK153.out 1; have hfz18_2 := blk_frozen BK153.out 2; go_wp2_with (first | (go_at_call 165; (with_reducible refine (spec_l02Plain.calls kj1 a0_1 t157 _ A17.out).mono ?_); rintro e w' ⟨rfl, ⟨nd, rfl⟩⟩)); go_ret; exact ⟨Rf, By⟩
          · rw [if_neg c16] at H; have c16b0 : decide ((a0_1.size : Int) ≤ 40) = false := decide_eq_false c16; have c16b1 : decide (a0_1.size ≤ 40) = false := decide_eq_false (by omega); clear c16; obtain rfl := Option.some.inj H; have hcz19_0 : wc.cell? ⟨gb153, 0, none⟩ = some (.int .i64 a0_0) := bc BK153.out 0; have hcz19_1 : wc.cell? ⟨gb153, 1, none⟩ = some (.string a0_1) := bc BK153.out 1; have hcz19_2 : wc.cell? ⟨gb153, 2, none⟩ = some (.int .i64 a0_2) := bc BK153.out 2; have hfz19_0 := blk_frozen BK153.out 0; have hfz19_1 := blk_frozen BK153.out 1; have hfz19_2 := blk_frozen BK153.out 2; go_wp2; go_ret; exact ⟨Rf, By⟩
        · rw [if_neg c15] at H; have c15b0 : (a0_0 == 1) = false := beq_eq_false_iff_ne.mpr c15; have c15b1 : (a0_0 != 1) = true := bne_iff_ne.mpr c15; by_cases c20 : a0_0 = 2
          · rw [if_pos c20] at H; have c20b0 : (a0_0 == 2) = true := beq_iff_eq.mpr c20; have c20b1 : (a0_0 != 2) = false := bne_eq_false_iff_eq.mpr c20; clear c20; replace H := Option.bind_eq_some_iff.mp H; obtain ⟨t158, A210, H⟩ := H; (try dsimp only at H); have A21 := Aside0.mk A210; clear A210; obtain rfl := Option.some.inj H; have hcz22_0 : wc.cell? ⟨gb153, 0, none⟩ = some (.int .i64 a0_0) := bc BK153.out 0; have hcz22_1 : wc.cell? ⟨gb153, 1, none⟩ = some (.string a0_1) := bc BK153.out 1; have hcz22_2 : wc.cell? ⟨gb153, 2, none⟩ = some (.int .i64 a0_2) := bc BK153.out 2; have hfz22_0 := blk_frozen BK153.out 0; have hfz22_1 := blk_frozen BK153.out 1; have hfz22_2 := blk_frozen BK153.out 2; go_wp2_with (first | ((with_reducible refine gate_callee (f := 39) rfl ?_); refine goesL_ (some 40) rfl rfl Tryz.func39 (by kernel_rfl) rfl #[.string a0_1] rfl Ag ?_; (with_reducible refine (spec_NameRight.calls kj1 a0_1 t158 _ A21.out).mono ?_); rintro e w' ⟨rfl, ⟨nd, rfl⟩⟩; refine ⟨_, rfl, ?_⟩)); go_ret; exact ⟨Rf, By⟩
          · rw [if_neg c20] at H; have c20b0 : (a0_0 == 2) = false := beq_eq_false_iff_ne.mpr c20; have c20b1 : (a0_0 != 2) = true := bne_iff_ne.mpr c20; obtain rfl := Option.some.inj H; have hcz23_0 : wc.cell? ⟨gb153, 0, none⟩ = some (.int .i64 a0_0) := bc BK153.out 0; have hcz23_1 : wc.cell? ⟨gb153, 1, none⟩ = some (.string a0_1) := bc BK153.out 1; have hcz23_2 : wc.cell? ⟨gb153, 2, none⟩ = some (.int .i64 a0_2) := bc BK153.out 2; have hfz23_0 := blk_frozen BK153.out 0; have hfz23_1 := blk_frozen BK153.out 1; have hfz23_2 := blk_frozen BK153.out 2; go_wp2; go_ret; exact ⟨Rf, By⟩

set_option linter.unusedVariables false
set_option linter.unusedSimpArgs false

/-! ### spec_l13End: function 129 -/
mutual
def spec_l13End.j0 : Nat → List (S156) → Int → Int → Bool → Option (Int)
  | 0, _, _, _, _ => none
  | k + 1, x0, x1, x2, x23 => if x23 = true then (some (-1)) else (if 0 ≤ x1 then (if x1 < (x0.length : Int) then ((spec_l13Many.f k ((rd_T156 x0 x1).f0)).bind fun t162 => (spec_l13End.l0 k x0 (wrap64 (x1 + 1)) x2 t162)) else (none)) else (none))
def spec_l13End.l0 : Nat → List (S156) → Int → Int → Int → Option (Int)
  | 0, _, _, _, _ => none
  | k + 1, x0, x1, x2, x7 => if x7 > 0 then (if x1 ≥ 0 then ((spec_l13End.f k x0 x1 (wrap64 (x2 + 1))).bind fun t163 => (spec_l13End.l0 k x0 t163 x2 (wrap64 (x7 - 1)))) else (some x1)) else (some x1)
def spec_l13End.f : Nat → List (S156) → Int → Int → Option (Int)
  | 0, _, _, _ => none
  | k + 1, l0, a1, a2 => if a1 ≥ (l0.length : Int) then (spec_l13End.j0 k l0 a1 a2 true) else (if a2 > 5 then (spec_l13End.j0 k l0 a1 a2 true) else (if 0 ≤ a1 then (if a1 < (l0.length : Int) then ((spec_l13Part.f k ((rd_T156 l0 a1).f0) ((rd_T156 l0 a1).f1) ((rd_T156 l0 a1).f2)).bind fun t160 => (spec_l13End.j0 k l0 a1 a2 (!t160))) else (none)) else (none)))
end
theorem spec_l13End.mono_l : ∀ k, (∀ y0 y1 y2, LeO (spec_l13End.f k y0 y1 y2) (spec_l13End.f (k + 1) y0 y1 y2)) ∧ (∀ y0 y1 y2 y3, LeO (spec_l13End.j0 k y0 y1 y2 y3) (spec_l13End.j0 (k + 1) y0 y1 y2 y3)) ∧ (∀ y0 y1 y2 y3, LeO (spec_l13End.l0 k y0 y1 y2 y3) (spec_l13End.l0 (k + 1) y0 y1 y2 y3))
  | 0 => ⟨fun _ _ _ r h => by simp [spec_l13End.f] at h, fun _ _ _ _ r h => by simp [spec_l13End.j0] at h, fun _ _ _ _ r h => by simp [spec_l13End.l0] at h⟩
  | k + 1 => by
    obtain ⟨ih0, ih1, ih2⟩ := spec_l13End.mono_l k; refine ⟨?_, ?_, ?_⟩
    · intro y0 y1 y2; unfold spec_l13End.f; repeat' first
      | (with_reducible exact ih0 _ _ _)
      | (with_reducible exact ih1 _ _ _ _)
      | (with_reducible exact ih2 _ _ _ _)
      | (with_reducible exact spec_l13Many.mono _ _)
      | (with_reducible exact spec_l13Part.mono _ _ _ _)
      | (with_reducible exact LeO.refl _)
      | (with_reducible exact LeO.none _)
      | (with_reducible refine LeO.ite ?_ ?_)
      | (with_reducible refine LeO.bind ?_ (fun _ => ?_))
    · intro y0 y1 y2 y3; unfold spec_l13End.j0; repeat' first
      | (with_reducible exact ih0 _ _ _)
      | (with_reducible exact ih1 _ _ _ _)
      | (with_reducible exact ih2 _ _ _ _)
      | (with_reducible exact spec_l13Many.mono _ _)
      | (with_reducible exact spec_l13Part.mono _ _ _ _)
      | (with_reducible exact LeO.refl _)
      | (with_reducible exact LeO.none _)
      | (with_reducible refine LeO.ite ?_ ?_)
      | (with_reducible refine LeO.bind ?_ (fun _ => ?_))
    · intro y0 y1 y2 y3; unfold spec_l13End.l0; repeat' first
      | (with_reducible exact ih0 _ _ _)
      | (with_reducible exact ih1 _ _ _ _)
      | (with_reducible exact ih2 _ _ _ _)
      | (with_reducible exact spec_l13Many.mono _ _)
      | (with_reducible exact spec_l13Part.mono _ _ _ _)
      | (with_reducible exact LeO.refl _)
      | (with_reducible exact LeO.none _)
      | (with_reducible refine LeO.ite ?_ ?_)
      | (with_reducible refine LeO.bind ?_ (fun _ => ?_))
theorem spec_l13End.mono : ∀ a0 a1 a2 k, LeO (spec_l13End.f k a0 a1 a2) (spec_l13End.f (k + 1) a0 a1 a2) := by
  intro a0 a1 a2 k; obtain ⟨ih0, ih1, ih2⟩ := spec_l13End.mono_l k; exact ih0 a0 a1 a2
set_option maxHeartbeats 8000000 in
set_option maxRecDepth 100000 in
theorem spec_l13End.calls (k : Nat) : ∀ (A0 : Option Addr) (c0 : Nat) (l0 : List (S156)) (a1 : Int) (a2 : Int) (r : Int) (w : World) (hr0 : Kd.C k156 w A0 l0.length l0) (hc0 : l0.length ≤ c0) (h : spec_l13End.f k l0 a1 a2 = some r),
    Calls Tryz.prog 129 #[.slice A0 l0.length c0, .int .i64 a1, .int .i64 a2] w fun e w' => e = .returned (.int .i64 r) ∧ Below w.heap.size w w' := by
  induction k using Nat.strongRecOn with
  | _ k ih =>
  intro A0 c0 l0 a1 a2 r w hr0 hc0 h; cases k with
  | zero => exact absurd h (by simp [spec_l13End.f])
  | succ k =>
  simp only [spec_l13End.f] at h; have hu156 := Tryz.underlying156; have HR0 := Aside0.mk hr0; have HC0 := Aside0.mk hc0; clear hr0 hc0; have HB := Aside0.mk (Below.refl w.heap.size w); have H : (if a1 ≥ (l0.length : Int) then (spec_l13End.j0 k l0 a1 a2 true) else (if a2 > 5 then (spec_l13End.j0 k l0 a1 a2 true) else (if 0 ≤ a1 then (if a1 < (l0.length : Int) then ((spec_l13Part.f k ((rd_T156 l0 a1).f0) ((rd_T156 l0 a1).f1) ((rd_T156 l0 a1).f2)).bind fun t160 => (spec_l13End.j0 k l0 a1 a2 (!t160))) else (none)) else (none)))) = some r := h; clear h; have HC4 := Aside0.mk H; clear H; go_enter Tryz.func129, Tryz.ntmps129; go_upto_region 1 with (fail); go_cut [23] (fun v23 wc => ∃ (kq : Nat) (x23_3 : Bool), v23 = .bool x23_3 ∧ Aside0 (spec_l13End.j0 kq l0 a1 a2 x23_3 = some r) ∧ Aside0 (kq ≤ k) ∧ Aside0 (Below w.heap.size w wc))
  case first =>
    have H := HC4.out; clear HC4; by_cases c5 : a1 ≥ (l0.length : Int)
    · rw [if_pos c5] at H; have c5b0 : decide ((l0.length : Int) ≤ a1) = true := decide_eq_true c5; clear c5; (first | rw [c5b0] | (simp only [i64_w, i32_w]; rw [c5b0]) | skip); have H' := Aside0.mk H; clear H; go_wp2; go_meet
      case rel => exact ⟨_, (true), (by first | rfl | (simp; done) | (simp [*]; done)), H', ⟨by first | omega | exact Nat.le_refl _⟩, ⟨By⟩⟩
    · rw [if_neg c5] at H; have c5b0 : decide ((l0.length : Int) ≤ a1) = false := decide_eq_false c5; clear c5; (first | rw [c5b0] | (simp only [i64_w, i32_w]; rw [c5b0]) | skip); by_cases c6 : a2 > 5
      · rw [if_pos c6] at H; have c6b0 : decide (5 < a2) = true := decide_eq_true c6; clear c6; have H' := Aside0.mk H; clear H; go_wp2; go_meet
        case rel => exact ⟨_, (true), (by first | rfl | (simp; done) | (simp [*]; done)), H', ⟨by first | omega | exact Nat.le_refl _⟩, ⟨By⟩⟩
      · rw [if_neg c6] at H; have c6b0 : decide (5 < a2) = false := decide_eq_false c6; clear c6; by_cases c7 : 0 ≤ a1
        · rw [if_pos c7] at H; have c7b0 : decide (0 ≤ a1) = true := decide_eq_true c7; clear c7; by_cases c8 : a1 < (l0.length : Int)
          · rw [if_pos c8] at H; have c8b0 : decide (a1 < (l0.length : Int)) = true := decide_eq_true c8; clear c8; replace H := Option.bind_eq_some_iff.mp H; obtain ⟨t160, A90, H⟩ := H; (try dsimp only at H); have A9 := Aside0.mk A90; clear A90; have H' := Aside0.mk H; clear H; have p159 : 0 ≤ (a1 : Int) := of_decide_eq_true Da; have q159 : a1 < (l0.length : Int) := of_decide_eq_true Da; obtain ⟨ad159, e159, hx159_0, hx159_1, hx159_2⟩ := at_T156 HR0.out a1 p159 q159; cases e159
            replace hx159_0 := bz HB.out hx159_0; replace hx159_1 := bz HB.out hx159_1; replace hx159_2 := bz HB.out hx159_2; replace p159 := eq_true p159; replace q159 := eq_true q159; go_wp2_with (first | (go_at_call 178; (with_reducible refine (spec_l13Part.calls k ((rd_T156 l0 a1).f0) ((rd_T156 l0 a1).f1) ((rd_T156 l0 a1).f2) t160 _ A9.out).mono ?_); rintro e w10 ⟨rfl, hb⟩; have n0_ := Aside0.mk (below_step By hb); clear HB; have HB := n0_; clear n0_; (try clear hb); (try clear hb2); (try clear hk); (try clear hi))); go_meet
            case rel => exact ⟨_, (!t160), (by first | rfl | (simp; done) | (simp [*]; done)), H', ⟨by first | omega | exact Nat.le_refl _⟩, ⟨By⟩⟩
          · rw [if_neg c8] at H; exact absurd H (by simp)
        · rw [if_neg c7] at H; exact absurd H (by simp)
  case rest =>
    clear HC4; try clear c1
    try clear p1
    try clear q1
    try clear hx1
    try clear p2
    try clear c5
    try clear c5b0
    try clear c6
    try clear c6b0
    try clear c7
    try clear c7b0
    try clear c8
    try clear c8b0
    try clear hx159_0
    try clear hx159_1
    try clear hx159_2
    try clear p159
    try clear q159
    obtain ⟨kq, x23_3, rfl, HA, HJ3, HB⟩ := hcut; cases kq with
    | zero => exact absurd HA.out (by simp [spec_l13End.j0])
    | succ kj3 =>
      have H := HA.out; clear HA; simp only [spec_l13End.j0] at H; by_cases c11 : x23_3 = true
      · subst c11; rw [if_pos rfl] at H; obtain rfl := Option.some.inj H; go_wp2; go_ret; exact ⟨Rf, By⟩
      · replace c11 := Bool.eq_false_iff.mpr c11; subst c11; rw [if_neg (show ¬ (false = true) by decide)] at H; by_cases c12 : 0 ≤ a1
        · rw [if_pos c12] at H; have c12b0 : decide (0 ≤ a1) = true := decide_eq_true c12; clear c12; by_cases c13 : a1 < (l0.length : Int)
          · rw [if_pos c13] at H; have c13b0 : decide (a1 < (l0.length : Int)) = true := decide_eq_true c13; clear c13; replace H := Option.bind_eq_some_iff.mp H; obtain ⟨t162, A140, H⟩ := H; (try dsimp only at H); have A14 := Aside0.mk A140; clear A140; have H' := Aside0.mk H; clear H; have p161 : 0 ≤ (a1 : Int) := of_decide_eq_true Da; have q161 : a1 < (l0.length : Int) := of_decide_eq_true Da; obtain ⟨ad161, e161, hx161_0, hx161_1, hx161_2⟩ := at_T156 HR0.out a1 p161 q161; cases e161
            replace hx161_0 := bz HB.out hx161_0; replace hx161_1 := bz HB.out hx161_1; replace hx161_2 := bz HB.out hx161_2; replace p161 := eq_true p161; replace q161 := eq_true q161; go_wp2_with (first | ((with_reducible refine gate_callee (f := 179) rfl ?_); refine goesL_ (some 29) rfl rfl Tryz.func179 (by kernel_rfl) rfl #[.int .i64 ((rd_T156 l0 a1).f0)] rfl Ag ?_; (with_reducible refine (spec_l13Many.calls kj3 ((rd_T156 l0 a1).f0) t162 _ A14.out).mono ?_); rintro e w' ⟨rfl, ⟨nd, rfl⟩⟩; refine ⟨_, rfl, ?_⟩)); go_loopg [1, 7] kj3 (fun kq v1 v7 w' => ∃ (x1_2 : Int) (x7_2 : Int), v1 = .int .i64 x1_2 ∧ v7 = .int .i64 x7_2 ∧ Aside0 (spec_l13End.l0 kq l0 x1_2 a2 x7_2 = some r) ∧ Aside0 (kq ≤ kj3) ∧ Aside0 (Below w.heap.size w w'))
            case atStart => exact ⟨(wrap64 (a1 + 1)), (t162), (by first | rfl | (simp; done) | (simp [*]; done)), (by first | rfl | (simp; done) | (simp [*]; done)), H', ⟨Nat.le_refl _⟩, ⟨By⟩⟩
            case round =>
              clear H'; try clear c1
              try clear p1
              try clear q1
              try clear hx1
              try clear p2
              try clear c5
              try clear c5b0
              try clear c6
              try clear c6b0
              try clear p6
              try clear c7
              try clear c7b0
              try clear c8
              try clear c8b0
              try clear c11
              try clear c12
              try clear c12b0
              try clear c13
              try clear c13b0
              try clear hx159_0
              try clear hx159_1
              try clear hx159_2
              try clear hx161_0
              try clear hx161_1
              try clear hx161_2
              try clear p1
              try clear p159
              try clear p161
              try clear p2
              try clear q1
              try clear q159
              try clear q161
              obtain ⟨x1_2, x7_2, rfl, rfl, HA, HK2, HB⟩ := hrel; cases gk with
              | zero => exact absurd HA.out (by simp [spec_l13End.l0])
              | succ k2 =>
                have H := HA.out; clear HA; simp only [spec_l13End.l0] at H; by_cases c15 : x7_2 > 0
                · rw [if_pos c15] at H; have c15b0 : decide (0 < x7_2) = true := decide_eq_true c15; clear c15; by_cases c16 : x1_2 ≥ 0
                  · rw [if_pos c16] at H; have c16b0 : decide (0 ≤ x1_2) = true := decide_eq_true c16; clear c16; replace H := Option.bind_eq_some_iff.mp H; obtain ⟨t163, A170, H⟩ := H; (try dsimp only at H); have A17 := Aside0.mk A170; clear A170; have H' := Aside0.mk H; clear H; go_wp2_with (first | ((with_reducible refine gate_callee (f := 129) rfl ?_); refine goesL_ (some 44) rfl rfl Tryz.func129 (by kernel_rfl) rfl #[.slice (some ad161) l0.length c0, .int .i64 x1_2, .int .i64 (wrap64 (a2 + 1))] rfl Ag ?_; (with_reducible refine (ih k2 (by have := HJ3.out; have := HK2.out; omega) _ _ l0 x1_2 (wrap64 (a2 + 1)) t163 _ ?side1 ?side2 A17.out).mono ?_); (case side1 => exact rC (Kd.C_below HR0.out HB.out)); (case side2 => exact HC0.out); rintro e w18 ⟨rfl, hb⟩; refine ⟨_, rfl, ?_⟩; have n0_ := Aside0.mk (below_step By hb); clear HB; have HB := n0_; clear n0_; (try clear hb); (try clear hb2); (try clear hk); (try clear hi))); go_roundg k2
                    case measure => have := HJ3.out; have := HK2.out; omega
                    case rel => exact ⟨(t163), (wrap64 (x7_2 - 1)), (by first | rfl | (simp; done) | (simp [*]; done)), (by first | rfl | (simp; done) | (simp [*]; done)), H', ⟨by have := HJ3.out; have := HK2.out; omega⟩, ⟨By⟩⟩
                  · rw [if_neg c16] at H; have c16b0 : decide (0 ≤ x1_2) = false := decide_eq_false c16; clear c16; obtain rfl := Option.some.inj H; go_wp2; go_ret; exact ⟨Rf, By⟩
                · rw [if_neg c15] at H; have c15b0 : decide (0 < x7_2) = false := decide_eq_false c15; clear c15; obtain rfl := Option.some.inj H; go_wp2; go_ret; exact ⟨Rf, By⟩
          · rw [if_neg c13] at H; exact absurd H (by simp)
        · rw [if_neg c12] at H; exact absurd H (by simp)

set_option linter.unusedVariables false
set_option linter.unusedSimpArgs false

/-! ### spec_ExprRight: function 76 -/
def spec_ExprRight.f (k : Nat) (l0 : List (S156)) : Option (Bool) := if (l0.length : Int) ≤ 12 then ((spec_l13End.f k l0 0 1).bind fun t164 => (some (t164 == (l0.length : Int)))) else (some false)
theorem spec_ExprRight.mono : ∀ a0 k, LeO (spec_ExprRight.f k a0) (spec_ExprRight.f (k + 1) a0) := by
  intro a0 k; unfold spec_ExprRight.f; repeat' first
      | (with_reducible exact spec_l13End.mono _ _ _ _)
      | (with_reducible exact LeO.refl _)
      | (with_reducible exact LeO.none _)
      | (with_reducible refine LeO.ite ?_ ?_)
      | (with_reducible refine LeO.bind ?_ (fun _ => ?_))
set_option maxHeartbeats 8000000 in
set_option maxRecDepth 100000 in
theorem spec_ExprRight.calls (k : Nat) (A0 : Option Addr) (c0 : Nat) (l0 : List (S156)) (r : Bool) (w : World) (hr0 : Kd.C k156 w A0 l0.length l0) (hc0 : l0.length ≤ c0) (h : spec_ExprRight.f k l0 = some r) :
    Calls Tryz.prog 76 #[.slice A0 l0.length c0] w fun e w' => e = .returned (.bool r) ∧ Below w.heap.size w w' := by
  have HR0 := Aside0.mk hr0; have HC0 := Aside0.mk hc0; clear hr0 hc0; have HB := Aside0.mk (Below.refl w.heap.size w); have H : (if (l0.length : Int) ≤ 12 then ((spec_l13End.f k l0 0 1).bind fun t164 => (some (t164 == (l0.length : Int)))) else (some false)) = some r := h; clear h; by_cases c2 : (l0.length : Int) ≤ 12
  · rw [if_pos c2] at H; have c2b0 : decide ((l0.length : Int) ≤ 12) = true := decide_eq_true c2; have c2b1 : decide (l0.length ≤ 12) = true := decide_eq_true (by omega); clear c2; replace H := Option.bind_eq_some_iff.mp H; obtain ⟨t164, A30, H⟩ := H; (try dsimp only at H); have A3 := Aside0.mk A30; clear A30; obtain rfl := Option.some.inj H; go_enter Tryz.func76, Tryz.ntmps76; go_wp2_with (first | (go_at_call 129; (with_reducible refine (spec_l13End.calls k _ _ l0 0 1 t164 _ ?side1 ?side2 A3.out).mono ?_); (case side1 => repeat (first | exact HR0.out | (with_reducible refine Kd.C_alloc ?_ _) | (with_reducible refine Kd.C_drewN ?_ _) | (with_reducible refine Kd.C_drew ?_))); (case side2 => exact HC0.out); rintro e w4 ⟨rfl, hb⟩; have n0_ := Aside0.mk (below_step By hb); clear HB; have HB := n0_; clear n0_; (try clear hb); (try clear hb2); (try clear hk); (try clear hi))); go_ret; exact ⟨Rf, By⟩
  · rw [if_neg c2] at H; have c2b0 : decide ((l0.length : Int) ≤ 12) = false := decide_eq_false c2; have c2b1 : decide (l0.length ≤ 12) = false := decide_eq_false (by omega); clear c2; obtain rfl := Option.some.inj H; go_enter Tryz.func76, Tryz.ntmps76; go_wp2; go_ret; exact ⟨Rf, By⟩

set_option linter.unusedVariables false
set_option linter.unusedSimpArgs false

/-! ### spec_l04Has: function 77 -/
def spec_l04Has.l0 : Nat → List ByteArray → ByteArray → Int → Option (Bool)
  | 0, _, _, _ => none
  | k + 1, x0, x1, x5 => if x5 < (x0.length : Int) then (if 0 ≤ x5 then (if (rdOf ByteArray.empty x0 x5).toList = x1.toList then (some true) else (spec_l04Has.l0 k x0 x1 (wrap64 (x5 + 1)))) else (none)) else (some false)
def spec_l04Has.f (k : Nat) (l0 : List ByteArray) (a1 : ByteArray) : Option (Bool) := spec_l04Has.l0 k l0 a1 0
theorem spec_l04Has.mono_l : ∀ k, (∀ y0 y1 y2, LeO (spec_l04Has.l0 k y0 y1 y2) (spec_l04Has.l0 (k + 1) y0 y1 y2))
  | 0 => fun _ _ _ r h => by simp [spec_l04Has.l0] at h
  | k + 1 => by
    have ih0 := spec_l04Has.mono_l k
    · intro y0 y1 y2; unfold spec_l04Has.l0; repeat' first
      | (with_reducible exact ih0 _ _ _)
      | (with_reducible exact LeO.refl _)
      | (with_reducible exact LeO.none _)
      | (with_reducible refine LeO.ite ?_ ?_)
      | (with_reducible refine LeO.bind ?_ (fun _ => ?_))
theorem spec_l04Has.mono : ∀ a0 a1 k, LeO (spec_l04Has.f k a0 a1) (spec_l04Has.f (k + 1) a0 a1) := by
  intro a0 a1 k; have ih0 := spec_l04Has.mono_l k; unfold spec_l04Has.f; repeat' first
      | (with_reducible exact ih0 _ _ _)
      | (with_reducible exact LeO.refl _)
      | (with_reducible exact LeO.none _)
      | (with_reducible refine LeO.ite ?_ ?_)
      | (with_reducible refine LeO.bind ?_ (fun _ => ?_))
set_option maxHeartbeats 8000000 in
set_option maxRecDepth 100000 in
theorem spec_l04Has.calls (k : Nat) (A0 : Option Addr) (c0 : Nat) (l0 : List ByteArray) (a1 : ByteArray) (r : Bool) (w : World) (hr0 : Kd.C Kd.string w A0 l0.length l0) (hc0 : l0.length ≤ c0) (h : spec_l04Has.f k l0 a1 = some r) :
    Calls Tryz.prog 77 #[.slice A0 l0.length c0, .string a1] w fun e w' => e = .returned (.bool r) ∧ Drawn0 w w' := by
  have HR0 := Aside0.mk hr0; have HC0 := Aside0.mk hc0; clear hr0 hc0; have H : (spec_l04Has.l0 k l0 a1 0) = some r := h; clear h; have H' := Aside0.mk H; clear H; go_enter Tryz.func77, Tryz.ntmps77; go_wp2; go_loopg [5] k (fun kq v5 w' => ∃ (x5_1 : Int), v5 = .int .i64 x5_1 ∧ Aside0 (spec_l04Has.l0 kq l0 a1 x5_1 = some r) ∧ Aside0 (kq ≤ k) ∧ Drawn0 w w')
  case atStart => exact ⟨(0), (by first | rfl | (simp; done) | (simp [*]; done)), H', ⟨Nat.le_refl _⟩, by repeat (first | exact Drawn0.refl _ | apply Drawn0.step)⟩
  case round =>
    clear H'; try clear p2
    obtain ⟨x5_1, rfl, HA, HK1, ⟨m1, rfl⟩⟩ := hrel; cases gk with
    | zero => exact absurd HA.out (by simp [spec_l04Has.l0])
    | succ k1 =>
      have H := HA.out; clear HA; simp only [spec_l04Has.l0] at H; by_cases c3 : x5_1 < (l0.length : Int)
      · rw [if_pos c3] at H; have c3b0 : decide (x5_1 < (l0.length : Int)) = true := decide_eq_true c3; clear c3; by_cases c4 : 0 ≤ x5_1
        · rw [if_pos c4] at H; have c4b0 : decide (0 ≤ x5_1) = true := decide_eq_true c4; clear c4; by_cases c5 : (rdOf ByteArray.empty l0 x5_1).toList = a1.toList
          · rw [if_pos c5] at H; have c5b0 : ((rdOf ByteArray.empty l0 x5_1).toList == a1.toList) = true := beq_iff_eq.mpr c5; have c5b1 : ((rdOf ByteArray.empty l0 x5_1).toList != a1.toList) = false := bne_eq_false_iff_eq.mpr c5; clear c5; obtain rfl := Option.some.inj H; have p165 : 0 ≤ (x5_1 : Int) := of_decide_eq_true Da; have q165 : x5_1 < (l0.length : Int) := of_decide_eq_true Da; obtain ⟨ad165, e165, hx165_0⟩ := Kd.at_string HR0.out x5_1 p165 q165; cases e165
            replace p165 := eq_true p165; replace q165 := eq_true q165; go_wp2; go_ret; exact ⟨by first | rfl | (simp; done) | (simp [*]; done), by repeat (first | exact Drawn0.refl _ | apply Drawn0.step)⟩
          · rw [if_neg c5] at H; have c5b0 : ((rdOf ByteArray.empty l0 x5_1).toList == a1.toList) = false := beq_eq_false_iff_ne.mpr c5; have c5b1 : ((rdOf ByteArray.empty l0 x5_1).toList != a1.toList) = true := bne_iff_ne.mpr c5; have H' := Aside0.mk H; clear H; have p165 : 0 ≤ (x5_1 : Int) := of_decide_eq_true Da; have q165 : x5_1 < (l0.length : Int) := of_decide_eq_true Da; obtain ⟨ad165, e165, hx165_0⟩ := Kd.at_string HR0.out x5_1 p165 q165; cases e165
            replace p165 := eq_true p165; replace q165 := eq_true q165; go_wp2; go_roundg k1
            case measure => have := HK1.out; omega
            case rel => exact ⟨(wrap64 (x5_1 + 1)), (by first | rfl | (simp; done) | (simp [*]; done)), H', ⟨by have := HK1.out; omega⟩, by repeat (first | exact Drawn0.refl _ | apply Drawn0.step)⟩
        · rw [if_neg c4] at H; exact absurd H (by simp)
      · rw [if_neg c3] at H; have c3b0 : decide (x5_1 < (l0.length : Int)) = false := decide_eq_false c3; clear c3; obtain rfl := Option.some.inj H; go_wp2; go_ret; exact ⟨by first | rfl | (simp; done) | (simp [*]; done), by repeat (first | exact Drawn0.refl _ | apply Drawn0.step)⟩

end Go.Proofs.YtbgikfahcppkfaaGreatDoor.PG
