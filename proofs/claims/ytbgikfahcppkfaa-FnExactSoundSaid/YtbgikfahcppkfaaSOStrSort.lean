/-
  Rows of strings and the shelf's words on slices.Sort: what a row holds behind them. Condition: fewer elements than 2^62.
-/
import Derived.Shelf.Sort.Plain
import Derived.Shelf.Slices.In.SortNone
import Derived.Test.YtbgikfahcppkfaaSOSortOps
import Derived.Test.YtbgikfahcppkfaaSOLay
namespace Go.Proofs.Ytbgikfahcppkfaa.PG
set_option linter.unusedVariables false
set_option linter.unusedSimpArgs false
open Go.RowKit Go.Proofs.YtbgikfahcppkfaaW.PrintWords Go.Proofs.YtbgikfahcppkfaaW.PrintLast Go.Proofs.YtbgikfahcppkfaaW.PrintMore Go.Proofs.Ytbgikfahcppkfaa.Gn Go.Sort Go.Shelf

theorem flat_string : Flat Kd.string (fun x => [Value.string x]) := ⟨fun _ => rfl, fun x v hv => by
  obtain rfl := List.mem_singleton.1 hv
  rfl, fun W base ok x => rfl, fun h => h⟩
def decB (l : List UInt8) : ByteArray := ⟨l.toArray⟩
theorem decB_enc (b : ByteArray) : decB b.data.toList = b := by
  cases b
  simp [decB]
theorem enc_decB (l : List UInt8) : (decB l).data.toList = l := by simp [decB]
theorem putRow_str (w : World) (g off : Nat) (ys : List (List UInt8)) : putRow encStr w g off ys.toArray = putRowK (fun b : ByteArray => [Value.string b]) 1 w g off (ys.map decB).toArray := by
  unfold putRowK putRow
  congr 1
  funext c
  unfold putCells
  congr 1
  funext k x
  simp only [size_flatK, List.size_toArray, List.length_map, Nat.mul_one]
  by_cases h : off ≤ k ∧ k < off + ys.length
  · rw [if_pos h, if_pos h, get_flatK _ _ _ _ (by simp; omega)]
    simp only [Nat.div_one, Nat.mod_one]
    rw [getElem!_pos ys.toArray (k - off) (by simp; omega), getElem!_pos ((ys.map decB).toArray) (k - off) (by simp; omega)]
    simp [decB]
  · rw [if_neg h, if_neg h]
theorem holds_str {e base g n cap : Nat} {ok : Nat → Prop} {W : World} {xs : List ByteArray} (h : Kd.R Kd.string e W base ok (.slice (some ⟨g, 0, none⟩) n cap) xs) : Holds encStr W g 0 (xs.map fun b => b.data.toList).toArray := by
  have h1 : HoldsK (fun b : ByteArray => [Value.string b]) 1 W g 0 xs.toArray := holds_row flat_string (by decide) h
  intro j hj
  have hj' : j < xs.length := by simpa using hj
  obtain ⟨a, b⟩ := h1 j (by rw [size_flatK]; simpa using hj')
  refine ⟨?_, b⟩
  rw [a, get_flatK _ _ _ _ (by simpa using hj')]
  simp only [Nat.div_one, Nat.mod_one, id]
  rw [getElem!_pos xs.toArray j (by simpa using hj'), getElem!_pos ((xs.map fun b => b.data.toList).toArray) j hj]
  simp
theorem put_row_str {e base g n cap : Nat} {ok : Nat → Prop} {W : World} {xs : List ByteArray} (h : Kd.R Kd.string e W base ok (.slice (some ⟨g, 0, none⟩) n cap) xs) (ys : List (List UInt8)) (hys : ys.length = n) (m : Nat) (os : Array Obj) :
    Kd.R Kd.string e (grow (putRow encStr (Go.Sort.ahead W m) g 0 ys.toArray) os) base ok (.slice (some ⟨g, 0, none⟩) n cap) (ys.map decB) ∧ Below base W (grow (putRow encStr (Go.Sort.ahead W m) g 0 ys.toArray) os) ∧ Kept W (grow (putRow encStr (Go.Sort.ahead W m) g 0 ys.toArray) os) (fun k => k = g) := by
  have h1 := sorted_row flat_string (by decide) h (ys.map decB).toArray (by simpa using hys) m os
  unfold sortWorldK at h1
  rw [show Kd.string.sz = 1 from rfl, ← putRow_str] at h1
  simpa using h1
/-- A list of strings in order. -/
def sortB (xs : List ByteArray) : List ByteArray := ((xs.map fun b => b.data.toList).mergeSort fun x y => decide (x ≤ y)).map decB
theorem sortB_length (xs : List ByteArray) : (sortB xs).length = xs.length := by simp [sortB]
def RetStrRow (base : Nat) (ok : Nat → Prop) (A : Option Addr) (c : Nat) (l : List ByteArray) (v : Value) (w : World) (e : Ending) (w' : World) : Prop :=
  e = .returned v ∧ Kd.R Kd.string 9 w' base ok (.slice A l.length c) l ∧ Below base w w' ∧ Kept w w' (fun k => ∃ ad, A = some ad ∧ ad.block = k)
theorem sort_strs (A : Option Addr) (c : Nat) (l : List ByteArray) (w : World) (base : Nat) (ok : Nat → Prop) (hR : Kd.R Kd.string 9 w base ok (.slice A l.length c) l) (hn : l.length < 4611686018427387904) :
    Calls Try.prog 53 #[.slice A l.length c] w (RetStrRow base ok A c (sortB l) (.tuple #[]) w) := by
  have hR0 := hR
  obtain ⟨hok, inner, ⟨ho1, ho2⟩, hr⟩ := hR
  rcases ho2 with ⟨hv, hx⟩ | ⟨g, cap', cur, hv, hb, hh, hnc', hcm, hcs, ht⟩
  · injection hv with hA h2 h3
    subst hA
    obtain rfl : l = [] := List.eq_nil_of_length_eq_zero h2
    refine (calls_of_every_depth fun D => AnyS.slices_Sort_string_none_in Try.lays190 D none c w).mono ?_
    rintro e w' ⟨rfl, rfl⟩
    exact ⟨rfl, by rw [show sortB [] = [] by simp [sortB]]; exact hR0, Below.refl _ _, Kept.refl _ _⟩
  · injection hv with hA h2 h3
    subst hA
    subst h3
    have hc := Any.slices_Sort_string Try.lays190 g 0 c (l.map fun b => b.data.toList) w (holds_str hR0) (blk_lt hh) (by simpa using hn)
    rw [List.length_map] at hc
    refine hc.mono ?_
    rintro e w' ⟨rfl, n, os, rfl⟩
    obtain ⟨h1, h2, h3⟩ := put_row_str hR0 ((l.map fun b => b.data.toList).mergeSort fun x y => decide (x ≤ y)) (by simp) n os
    exact ⟨rfl, by rw [sortB_length]; exact h1, h2, h3.mono fun k hk => ⟨_, rfl, hk.symm⟩⟩
end Go.Proofs.Ytbgikfahcppkfaa.PG
