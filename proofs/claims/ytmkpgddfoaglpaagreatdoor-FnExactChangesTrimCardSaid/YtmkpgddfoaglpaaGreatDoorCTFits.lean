/-
 What the laws' arguments are known to fit, and how they open. No condition.
-/
import Derived.KernelRfl
import Derived.Lib.Strings
import Derived.Lib.Slices
import Derived.Lib.Walk
import Derived.Lib.Bytealg
import Derived.Below
import Derived.Test.YtmkpgddfoaglpaaGreatDoorCTWords
import Derived.Lib.SlTrimSet
import Derived.Shelf.Abstract
import Derived.Test.YtmkpgddfoaglpaaGreatDoorCTQChangesTrima
import Derived.Test.YtmkpgddfoaglpaaGreatDoorCTP1
import Derived.Test.YtmkpgddfoaglpaaGreatDoorCTGen
set_option maxHeartbeats 8000000
set_option maxRecDepth 100000
set_option linter.unusedVariables false
set_option linter.unusedSimpArgs false
namespace Go.Proofs.YtmkpgddfoaglpaaGreatDoor.Ft
open Go.RowKit Go.Proofs.YtmkpgddfoaglpaaGreatDoorW.PrintWords
def fit9 (s : ByteArray) : Prop := s.size ≤ 140737488351232
theorem op9 : Opn.Opens Tryz.prog 9 Kd.string fit9 := Opn.opens_string Tryz.underlying9
def fit149 (x : PG.S149) : Prop := fit9 x.f0 ∧ fit9 x.f1
theorem op149 : Opn.Opens Tryz.prog 149 PG.k149 fit149 := Opn.opens_struct Tryz.underlying149 (Opn.opensF_cons op9 (by kernel_rfl) rfl (Opn.opensF_one op9 (by kernel_rfl) rfl)) (by kernel_rfl) (fun x : PG.S149 => (x.f0, x.f1)) (fun p => ⟨p.1, p.2⟩) (fun _ => rfl)
def fit36 (l : List (PG.S149)) : Prop := l.length * 32 ≤ 140737488351232 ∧ ∀ x, x ∈ l → fit149 x
theorem op36 : Opn.Opens Tryz.prog 36 (Kd.slice 149 PG.k149) fit36 := Opn.opens_slice Tryz.underlying36 op149 (by kernel_rfl) (by kernel_rfl)
def fit100 (l : List ByteArray) : Prop := l.length * 16 ≤ 140737488351232 ∧ ∀ x, x ∈ l → fit9 x
theorem op100 : Opn.Opens Tryz.prog 100 (Kd.slice 9 Kd.string) fit100 := Opn.opens_slice Tryz.underlying100 op9 (by kernel_rfl) (by kernel_rfl)
def fit2 (n : Int) : Prop := (Lit.int .i64 n).wf = true
theorem op2 : Opn.Opens Tryz.prog 2 (Kd.int .i64) fit2 := Opn.opens_int Tryz.underlying2
def fit212 (x : PG.S212) : Prop := fit9 x.f0 ∧ fit100 x.f1
theorem op212 : Opn.Opens Tryz.prog 212 PG.k212 fit212 := Opn.opens_struct Tryz.underlying212 (Opn.opensF_cons op9 (by kernel_rfl) rfl (Opn.opensF_one op100 (by kernel_rfl) rfl)) (by kernel_rfl) (fun x : PG.S212 => (x.f0, x.f1)) (fun p => ⟨p.1, p.2⟩) (fun _ => rfl)
def fit37 (l : List (PG.S212)) : Prop := l.length * 40 ≤ 140737488351232 ∧ ∀ x, x ∈ l → fit212 x
theorem op37 : Opn.Opens Tryz.prog 37 (Kd.slice 212 PG.k212) fit37 := Opn.opens_slice Tryz.underlying37 op212 (by kernel_rfl) (by kernel_rfl)
def fit39 (x : PG.S39) : Prop := fit36 x.f0 ∧ fit37 x.f1
theorem op39 : Opn.Opens Tryz.prog 39 PG.k39 fit39 := Opn.opens_struct Tryz.underlying39 (Opn.opensF_cons op36 (by kernel_rfl) rfl (Opn.opensF_one op37 (by kernel_rfl) rfl)) (by kernel_rfl) (fun x : PG.S39 => (x.f0, x.f1)) (fun p => ⟨p.1, p.2⟩) (fun _ => rfl)
def fit233 (x : PG.S233) : Prop := fit2 x.f0 ∧ fit2 x.f1 ∧ fit9 x.f2 ∧ fit39 x.f3
theorem op233 : Opn.Opens Tryz.prog 233 PG.k233 fit233 := Opn.opens_struct Tryz.underlying233 (Opn.opensF_cons op2 (by kernel_rfl) rfl (Opn.opensF_cons op2 (by kernel_rfl) rfl (Opn.opensF_cons op9 (by kernel_rfl) rfl (Opn.opensF_one op39 (by kernel_rfl) rfl)))) (by kernel_rfl) (fun x : PG.S233 => (x.f0, x.f1, x.f2, x.f3)) (fun p => ⟨p.1, p.2.1, p.2.2.1, p.2.2.2⟩) (fun _ => rfl)
def fit61 (l : List (PG.S233)) : Prop := l.length * 80 ≤ 140737488351232 ∧ ∀ x, x ∈ l → fit233 x
theorem op61 : Opn.Opens Tryz.prog 61 (Kd.slice 233 PG.k233) fit61 := Opn.opens_slice Tryz.underlying61 op233 (by kernel_rfl) (by kernel_rfl)
def fit63 (x : PG.S63) : Prop := fit2 x.f0 ∧ fit61 x.f1
theorem op63 : Opn.Opens Tryz.prog 63 PG.k63 fit63 := Opn.opens_struct Tryz.underlying63 (Opn.opensF_cons op2 (by kernel_rfl) rfl (Opn.opensF_one op61 (by kernel_rfl) rfl)) (by kernel_rfl) (fun x : PG.S63 => (x.f0, x.f1)) (fun p => ⟨p.1, p.2⟩) (fun _ => rfl)
end Go.Proofs.YtmkpgddfoaglpaaGreatDoor.Ft
/-
 strings.Trim at an ASCII cutset returns the string without the cutset's bytes at both ends: the shelf's contract in this seat's numbers. Condition: the lengths' bounds of the contract.
-/
namespace Go.Proofs.YtmkpgddfoaglpaaGreatDoor.PG
open Go.RowKit Go.Shelf
open Go.Proofs.YtmkpgddfoaglpaaGreatDoorW.PrintWords Go.Proofs.YtmkpgddfoaglpaaGreatDoorW.PrintLast Go.Proofs.YtmkpgddfoaglpaaGreatDoorW.PrintMore
def trimOk (s c : ByteArray) : Bool := decide (s.size ≤ 9223372036854775807) && (decide (c.size < 4294967281) && c.data.toList.all (fun b => decide (b.toNat < 128)))
def strings_Trim.f (a0 a1 : ByteArray) : Option (ByteArray) := if trimOk a0 a1 = true then some ⟨(Lib.trimS a0.data.toList a1.data.toList).toArray⟩ else none
theorem strings_Trim.calls (a0 a1 : ByteArray) (r : ByteArray) (w : World) (h : strings_Trim.f a0 a1 = some r) :
   Calls Tryz.prog 167 #[.string a0, .string a1] w fun e w' => e = .returned (.string r) ∧ Below w.heap.size w w' := by
 unfold strings_Trim.f at h
 by_cases hk : trimOk a0 a1 = true
 · rw [if_pos hk] at h
   obtain rfl := Option.some.inj h
   simp only [trimOk, Bool.and_eq_true, decide_eq_true_eq] at hk
   obtain ⟨h1, h2, h3⟩ := hk
   exact Any.strings_Trim_laid Tryz.lays160 (by kernel_rfl) a0 a1 w h1 h2 (ascii_of_all h3)
 · rw [if_neg hk] at h
   cases h
end Go.Proofs.YtmkpgddfoaglpaaGreatDoor.PG
/-
 strings.Compare returns -1, 0, 1 as the bytes' order says: the shelf's walk in this seat's numbers. No condition.
-/
namespace Go.Proofs.YtmkpgddfoaglpaaGreatDoor.PG
open Go.RowKit
open Go.Proofs.YtmkpgddfoaglpaaGreatDoorW.PrintWords Go.Proofs.YtmkpgddfoaglpaaGreatDoorW.PrintLast Go.Proofs.YtmkpgddfoaglpaaGreatDoorW.PrintMore
theorem compareString_walk (a b : ByteArray) (w : World) :
   Calls Tryz.prog 320 #[.string a, .string b] w fun e w' => e = .returned (.int .i64 (Lib.compareBytes a.data.toList b.data.toList)) ∧ w' = w := by
 go_enter Tryz.func320, Tryz.ntmps320
 go_wp2
 rw [run_callFunc_extern Tryz.func331 (by kernel_rfl) (by kernel_rfl) (by kernel_rfl) (e := Extern.BytealgCompare.compare) (by kernel_rfl), Lib.run_compareString]
 simp only [Result.andThen]
 rw [Oper.upon_value]
 go_wp2
 go_ret
 exact ⟨rfl, rfl⟩
theorem compare_walk (a b : ByteArray) (w : World) :
   Calls Tryz.prog 300 #[.string a, .string b] w fun e w' => e = .returned (.int .i64 (Lib.compareBytes a.data.toList b.data.toList)) ∧ w' = w := by
 go_enter Tryz.func300, Tryz.ntmps300
 go_wp2_with (go_at_call 320; refine (compareString_walk _ _ _).mono ?_; rintro e w' ⟨rfl, rfl⟩)
 go_ret
 exact ⟨rfl, rfl⟩
def strings_Compare.f (a0 a1 : ByteArray) : Option Int := some (Lib.compareBytes a0.data.toList a1.data.toList)
theorem strings_Compare.calls (a0 a1 : ByteArray) (r : Int) (w : World) (h : strings_Compare.f a0 a1 = some r) :
   Calls Tryz.prog 300 #[.string a0, .string a1] w fun e w' => e = .returned (.int .i64 r) ∧ Below w.heap.size w w' := by
 obtain rfl := Option.some.inj h
 refine (compare_walk a0 a1 w).mono ?_
 rintro e w' ⟨rfl, rfl⟩
 exact ⟨rfl, Below.refl _ _⟩
end Go.Proofs.YtmkpgddfoaglpaaGreatDoor.PG
/-
 What names, norms and values are, as plain functions of a string's bytes; the depth of an expression in prefix form. Plain Lean; no condition.
-/
namespace Go.Proofs.YtmkpgddfoaglpaaGreatDoor.Sem
open Go.RowKit Go.Proofs.YtmkpgddfoaglpaaGreatDoorW.PrintWords Go.Proofs.YtmkpgddfoaglpaaGreatDoorW.PrintLast Go.Proofs.YtmkpgddfoaglpaaGreatDoorW.PrintMore Go.Proofs.YtmkpgddfoaglpaaGreatDoor.Gn
def isLo (c : Int) : Bool := decide (97 ≤ c) && decide (c ≤ 122)
def isDi (c : Int) : Bool := decide (48 ≤ c) && decide (c ≤ 57)
def isNm (c : Int) : Bool := isLo c || (isDi c || decide (c = 95))
def nameB (s : ByteArray) : Bool := decide (1 ≤ s.size) && (decide (s.size ≤ 20) && (isLo (bt s 0) && (List.range s.size).all fun j => isNm (bt s (j : Int))))
theorem dropWhile_nil {α : Type} (p : α → Bool) : ∀ l : List α, (l.dropWhile p = []) ↔ l.all p = true
 | [] => by simp
 | a :: l => by
   rw [List.dropWhile_cons, List.all_cons]
   by_cases h : p a = true
   · rw [if_pos h, h, Bool.true_and]
     exact dropWhile_nil p l
   · rw [if_neg h]
     simp [h]
theorem trimS_nil (l cs : List UInt8) : (Lib.trimS l cs == []) = l.all (cs.contains ·) := by
 have h1 : (Lib.trimS l cs = []) ↔ l.all (cs.contains ·) = true := by
   unfold Lib.trimS Lib.trimLeftS Lib.trimRightS
   rw [dropWhile_nil]
   constructor
   · intro h
     rw [List.all_reverse] at h
     by_cases he : l.reverse.dropWhile (cs.contains ·) = []
     · rw [dropWhile_nil, List.all_reverse] at he
       exact he
     · have hh := List.head_dropWhile_not (p := (cs.contains ·)) (l := l.reverse) he
       have := List.all_eq_true.1 h _ (List.head_mem he)
       rw [this] at hh
       cases hh
   · intro h
     have he : l.reverse.dropWhile (cs.contains ·) = [] := by
       rw [dropWhile_nil, List.all_reverse]
       exact h
     rw [he]
     rfl
 rw [Bool.eq_iff_iff, beq_iff_eq]
 exact h1
theorem bt_byte (s : ByteArray) (j : Nat) (h : j < s.size) : bt s (j : Int) = ((s[j]'h).toNat : Int) := by
 unfold bt
 rw [dif_pos (by simpa using h)]
 rfl
theorem all_bytes (s : ByteArray) (p : UInt8 → Bool) (q : Int → Bool) (h : ∀ b : UInt8, p b = q (b.toNat : Int)) : s.data.toList.all p = (List.range s.size).all fun j => q (bt s (j : Int)) := by
 rw [Bool.eq_iff_iff, List.all_eq_true, List.all_eq_true]
 constructor
 · intro h1 j hj
   have hj' : j < s.size := by simpa using hj
   rw [bt_byte s j hj', ← h]
   exact h1 _ (by rw [Array.mem_toList_iff]; exact Array.getElem_mem _)
 · intro h1 b hb
   rw [Array.mem_toList_iff] at hb
   obtain ⟨j, hj, rfl⟩ := Array.mem_iff_getElem.1 hb
   rw [h]
   have := h1 j (by simpa using hj)
   rw [bt_byte s j hj] at this
   exact this
def nmSet : List UInt8 := [97, 98, 99, 100, 101, 102, 103, 104, 105, 106, 107, 108, 109, 110, 111, 112, 113, 114, 115, 116, 117, 118, 119, 120, 121, 122, 48, 49, 50, 51, 52, 53, 54, 55, 56, 57, 95]
theorem nm_set (b : UInt8) : nmSet.contains b = isNm (b.toNat : Int) := by
 have h : ∀ n : Fin 256, nmSet.contains (UInt8.ofNat n.val) = isNm (n.val : Int) := by decide +kernel
 have := h ⟨b.toNat, b.toNat_lt⟩
 simpa using this
theorem bt_bounds (s : ByteArray) (i : Int) : 0 ≤ bt s i ∧ bt s i ≤ 255 := by
 unfold bt
 split
 · rename_i h
   have := (s[i.toNat]'h).toNat_lt
   omega
 · omega
def plainB (s : ByteArray) : Bool := (List.range s.size).all fun j => decide (32 ≤ bt s (j : Int)) && decide (bt s (j : Int) ≤ 126)
section
variable {α : Type} (ok : α → Bool) (ar : α → Int) (f : Nat → List α → Option (Int × Int)) (l0 : Nat → List α → Int → Int → Int → Int → Option (Int × Int))
 (s : Nat → List α → Int → Int → Option Int) (sl : Nat → List α → Int → Int → Int → Option Int)
end
end Go.Proofs.YtmkpgddfoaglpaaGreatDoor.Sem
/-
 slices_IndexFunc_Rdn: what it comes to for whatever function value tells a test. Conditions: what is asked of the function value (hcall).
-/
namespace Go.Proofs.YtmkpgddfoaglpaaGreatDoor.PG
open Go.RowKit Go.Proofs.YtmkpgddfoaglpaaGreatDoorW.PrintWords Go.Proofs.YtmkpgddfoaglpaaGreatDoorW.PrintLast Go.Proofs.YtmkpgddfoaglpaaGreatDoorW.PrintMore Go.Proofs.YtmkpgddfoaglpaaGreatDoor.Gn
attribute [local go_sem] max2_int min2_int max_two min_two max_three min_three max_four min_four
theorem slices_IndexFunc_Rdn.any_in (l : List (S151)) (g : Nat) (lb : Array Value) (E : World → Prop) (p : S151 → Bool) (hE : ∀ W W', Below W.heap.size W W' → E W → E W')
   (hcall : ∀ (W : World) (x : S151) (cs : List Value), x ∈ l → E W → Kd.K k151 W x cs → Calls Tryz.prog g (#[.agg cs.toArray] ++ lb) W fun e w' => e = .returned (.bool (p x)) ∧ Below W.heap.size W w')
   (eg : ∀ args w, (callFunc g args).run Tryz.prog w = .ok (.enter g args) w)
   (A : Option Addr) (c : Nat) (w : World) (hr : Kd.C k151 w A l.length l) (he : E w) :
   Calls Tryz.prog 299 #[.slice A l.length c, .func (.func g) #[] lb] w fun e w' => e = .returned (.int .i64 (idx p l)) ∧ Below w.heap.size w w' := by
 have hmx := Kd.C_max hr
 have HR := Aside0.mk hr
 have HEE := Aside0.mk he
 have HE := Aside0.mk hE
 have HCALL := Aside0.mk hcall
 clear hr he hE hcall
 go_enter Tryz.func299, Tryz.ntmps299
 go_wp2
 go_loopw [8] (fun i wr => ∃ k : Nat, k ≤ l.length ∧ i = .int .i64 k ∧ Aside0 (∀ j (hj : j < l.length), j < k → p (l[j]'hj) = false) ∧ Aside0 (Below w.heap.size w wr)) (fun i _ => l.length - (intOf i).toNat)
 case atStart => exact ⟨0, Nat.zero_le _, rfl, ⟨fun j hj h => absurd h (Nat.not_lt_zero _)⟩, ⟨Below.refl _ _⟩⟩
 case round =>
   obtain ⟨k, hk, rfl, HP, HB⟩ := hrel
   by_cases hlt : k < l.length
   · obtain ⟨ad, cs, hA, hcl, hK, hcc⟩ := Kd.C_get (Kd.C_below HR.out HB.out) z151 (k : Int) (by omega) (by omega)
     rw [Int.toNat_natCast, getD_at hlt] at hK
     obtain ⟨x, hx⟩ : ∃ x, l[k]'hlt = x := ⟨_, rfl⟩
     have HX := Aside0.mk hx
     rw [hx] at hK
     have HK := Aside0.mk hK
     obtain rfl := k151_open hK
     subst hA
     have hc0 : ∀ j u, ([.string x.f0, .string x.f1] : List Value)[j]? = some u → wr.cell? (ad.add (k * 2 + j)) = some u := by
       intro j u hu
       have := hcc j u hu
       rwa [Int.toNat_natCast] at this
     have f0 : wr.cell? (ad.add (k * 2)) = some (.string x.f0) := hc0 0 _ rfl
     have f1 : wr.cell? ⟨(ad.add (k * 2)).block, (ad.add (k * 2)).off + 1, none⟩ = some (.string x.f1) := by rw [← add_field _ _ 1 (by omega)]; exact hc0 1 _ rfl
     clear hc0 hcc hcl hK hx
     have hcall := HCALL.out wr x _ (by rw [← HX.out]; exact List.getElem_mem hlt) (HE.out _ _ HB.out HEE.out) HK.out
     cases hq : p x with
     | true =>
       rw [hq] at hcall
       have HQ := Aside0.mk hq
       clear hq
       go_wp2_with (go_at_fn g; refine hcall.mono ?_; rintro e w' ⟨rfl, hb'⟩)
       go_ret
       exact ⟨by rw [idx_hit hlt (by rw [HX.out]; exact HQ.out) HP.out]; rfl, below_then HB.out HB.out.size hb'⟩
     | false =>
       rw [hq] at hcall
       have HQ := Aside0.mk hq
       clear hq
       go_wp2_with (go_at_fn g; refine hcall.mono ?_; rintro e w' ⟨rfl, hb'⟩)
       go_roundw
       case rel => exact ⟨k + 1, by omega, by go_num, ⟨fun j hj hjk => by
         rcases Nat.lt_succ_iff_lt_or_eq.1 hjk with h | rfl
         · exact HP.out j hj h
         · rw [HX.out]; exact HQ.out⟩, ⟨below_then HB.out HB.out.size hb'⟩⟩
       case measure => simp [intOf]; omega
   · obtain rfl : k = l.length := by omega
     go_wp2
     go_ret
     exact ⟨by rw [idx_none HP.out]; rfl, HB.out⟩
end Go.Proofs.YtmkpgddfoaglpaaGreatDoor.PG
/-
 strings.IndexByte returns the place of the first such byte, or -1: the shelf's contract in this seat's numbers. No condition.
-/
namespace Go.Proofs.YtmkpgddfoaglpaaGreatDoor.PG
open Go.RowKit
open Go.Proofs.YtmkpgddfoaglpaaGreatDoorW.PrintWords Go.Proofs.YtmkpgddfoaglpaaGreatDoorW.PrintLast Go.Proofs.YtmkpgddfoaglpaaGreatDoorW.PrintMore
theorem slite_IndexByte (s : ByteArray) (c : Int) (w : World) :
   Calls Tryz.prog 316 #[.string s, .int .u8 c] w fun e w' => e = .returned (.int .i64 (Lib.indexByte s.data.toList c.toNat.toUInt8)) ∧ w' = w := by
 go_enter Tryz.func316, Tryz.ntmps316
 go_wp2
 rw [run_callFunc_extern Tryz.func327 (by kernel_rfl) (by kernel_rfl) (by kernel_rfl) (e := Extern.BytealgIndexByte.indexByte) (by kernel_rfl), Lib.run_indexByteString]
 simp only [Result.andThen]
 rw [Oper.upon_value]
 go_wp2
 go_ret
 exact ⟨rfl, rfl⟩
def strings_IndexByte.f (s : ByteArray) (c : Int) : Option Int := some (Lib.indexByte s.data.toList c.toNat.toUInt8)
theorem strings_IndexByte.calls (s : ByteArray) (c : Int) (r : Int) (w : World) (h : strings_IndexByte.f s c = some r) :
   Calls Tryz.prog 291 #[.string s, .int .u8 c] w fun e w' => e = .returned (.int .i64 r) ∧ Below w.heap.size w w' := by
 obtain rfl := Option.some.inj h
 go_enter Tryz.func291, Tryz.ntmps291
 go_wp2_with (go_at_call 316; refine (slite_IndexByte _ _ _).mono ?_; rintro e w' ⟨rfl, rfl⟩)
 go_ret
 exact ⟨rfl, Below.refl _ _⟩
end Go.Proofs.YtmkpgddfoaglpaaGreatDoor.PG
/-
 The laws' marks: what marking a row writes is what is found there again. Plain Lean over the printed functions.
-/
namespace Go.Proofs.YtmkpgddfoaglpaaGreatDoor.PG
open Go.RowKit Go.Proofs.YtmkpgddfoaglpaaGreatDoorW.PrintWords Go.Proofs.YtmkpgddfoaglpaaGreatDoorW.PrintLast Go.Proofs.YtmkpgddfoaglpaaGreatDoorW.PrintMore Go.Proofs.YtmkpgddfoaglpaaGreatDoor.Gn
theorem mark_text_loop : ∀ (n : Nat) (x : Int) (t : ByteArray), 0 ≤ x → x ≤ n → t.size + n ≤ 4611686018427387904 → ∃ r, Ev (fun k => laws_markText.l0 k x t) r := by
 intro n
 induction n using Nat.strongRecOn with
 | _ n ih =>
   intro x t h0 hn ht
   by_cases hx : x > 0
   · obtain ⟨m, rfl⟩ : ∃ m, n = m + 1 := ⟨n - 1, by omega⟩
     have hd : x.tdiv 10 = x / 10 := Int.tdiv_eq_ediv_of_nonneg h0
     have hw : wrap64 (x.tdiv 10) = x / 10 := by rw [hd]; exact w_id (by omega) (by omega)
     have hsz : ∀ c : Int, (strOfNums [c]).size = 1 := fun c => rfl
     obtain ⟨r, hr⟩ := ih m (by omega) (x / 10) ((strOfNums [(wrap64 (48 + (Int.tmod x 10))) % 256]) ++ t) (by omega) (by omega) (by rw [ByteArray.size_append, hsz]; omega)
     refine ⟨r, Ev.step (fun k => by simp only [laws_markText.l0]; rw [if_pos hx]; simp only [Option.bind_some]; rw [if_pos (by rw [hsz]; omega), hw]) hr⟩
   · exact ⟨_, Ev_one fun k => by simp only [laws_markText.l0]; rw [if_neg hx, if_pos (by omega)]⟩
theorem mark_text (x : Int) : ∃ r, x ≤ 4000000000000000000 → Ev (fun k => laws_markText.f k x) r := by
 by_cases h : x ≤ 0
 · exact ⟨_, fun _ => Ev_some fun k => by unfold laws_markText.f; rw [if_pos h]⟩
 · by_cases h2 : x ≤ 4000000000000000000
   · obtain ⟨r, hr⟩ := mark_text_loop 4000000000000000000 x ⟨#[]⟩ (by omega) (by omega) (by show (0 : Nat) + _ ≤ _; omega)
     exact ⟨r, fun _ => Ev.congr (fun k => by unfold laws_markText.f; rw [if_neg h]) hr⟩
   · exact ⟨⟨#[]⟩, fun h3 => absurd h3 h2⟩
noncomputable def markT (x : Int) : ByteArray := Classical.choose (mark_text x)
theorem markT_ev {x : Int} (h : x ≤ 4000000000000000000) : Ev (fun k => laws_markText.f k x) (markT x) := Classical.choose_spec (mark_text x) h
theorem mark_wrap {x y n j : Int} (h0 : 0 ≤ x) (hB : x + n ≤ 4000000000000000000) (h : y + 1 = x + j) (hj : 0 ≤ j ∧ j ≤ n) : wrap64 (y + 1) = x + j := by
 rw [h]
 exact w_id (by omega) (by omega)
theorem mark_succ {i n : Nat} (h : i < n) (hn : n ≤ 4000000000000000000) : wrap64 ((i : Int) + 1) = ((i + 1 : Nat) : Int) := by
 rw [wsucc (by omega) (by omega)]
 omega
def mkL {α : Type} (mk : Int → α) (n : Nat) : Int → Nat → List α
 | _, 0 => []
 | x, m + 1 => mk x :: mkL mk n (x + n) m
theorem mkL_length {α : Type} (mk : Int → α) (n : Nat) : ∀ (m : Nat) (x : Int), (mkL mk n x m).length = m
 | 0, _ => rfl
 | m + 1, x => by simp [mkL, mkL_length mk n m]
theorem mark_loop {α : Type} (n : Nat) (mk : Int → α) (l : Nat → List α → Int → Int → Option (Int × List α)) (B : Int)
   (hend : ∀ (k : Nat) (xs : List α) (x : Int) (i : Nat), xs.length ≤ i → l (k + 1) xs x (i : Int) = some (x, xs))
   (hstep : ∀ (xs : List α) (x : Int) (i : Nat) (r : Int × List α), i < xs.length → xs.length ≤ 4000000000000000000 → 0 ≤ x → x + n ≤ B → Ev (fun k => l k (xs.set i (mk x)) (x + n) ((i + 1 : Nat) : Int)) r → Ev (fun k => l k xs x (i : Int)) r) :
   ∀ (m i : Nat) (xs : List α) (x : Int), i + m = xs.length → xs.length ≤ 4000000000000000000 → 0 ≤ x → x + n * m ≤ B → Ev (fun k => l k xs x (i : Int)) (x + n * m, xs.take i ++ mkL mk n x m) := by
 intro m
 induction m with
 | zero =>
   intro i xs x hi hl h0 hB
   refine Ev_one fun k => ?_
   rw [hend k xs x i (by omega), List.take_of_length_le (by omega)]
   simp [mkL]
 | succ m ih =>
   intro i xs x hi hl h0 hB
   have e1 : (n : Int) * ((m + 1 : Nat) : Int) = n + n * (m : Int) := by rw [Int.natCast_add, Int.mul_add]; omega
   rw [e1] at hB ⊢
   have hnm : (0 : Int) ≤ (n : Int) * (m : Int) := Int.mul_nonneg (by omega) (by omega)
   have h2 := ih (i + 1) (xs.set i (mk x)) (x + n) (by rw [List.length_set]; omega) (by rw [List.length_set]; exact hl) (by omega) (by omega)
   have h3 := hstep xs x i _ (by omega) hl h0 (by omega) h2
   have e2 : (xs.set i (mk x)).take (i + 1) ++ mkL mk n (x + n) m = xs.take i ++ mkL mk n x (m + 1) := by
     rw [List.take_succ_eq_append_getElem (by rw [List.length_set]; omega), List.take_set_of_le (Nat.le_refl _), List.getElem_set_self, List.append_assoc]
     rfl
   rw [e2, Int.add_assoc] at h3
   exact h3
theorem held_loop {α : Type} (n : Nat) (mk : Int → α) (l : Nat → List α → Int → Int → Option Int) (B : Int)
   (hend : ∀ (k : Nat) (xs : List α) (x : Int) (i : Nat), xs.length ≤ i → l (k + 1) xs x (i : Int) = some x)
   (hstep : ∀ (xs : List α) (x : Int) (i : Nat) (r : Int) (hi : i < xs.length), xs.length ≤ 4000000000000000000 → 0 ≤ x → x + n ≤ B → xs[i]'hi = mk x → Ev (fun k => l k xs (x + n) ((i + 1 : Nat) : Int)) r → Ev (fun k => l k xs x (i : Int)) r) :
   ∀ (m i : Nat) (xs : List α) (x : Int), i + m = xs.length → xs.length ≤ 4000000000000000000 → 0 ≤ x → x + n * m ≤ B → xs.drop i = mkL mk n x m → Ev (fun k => l k xs x (i : Int)) (x + n * m) := by
 intro m
 induction m with
 | zero =>
   intro i xs x hi hl h0 hB hd
   refine Ev_one fun k => ?_
   rw [hend k xs x i (by omega)]
   simp
 | succ m ih =>
   intro i xs x hi hl h0 hB hd
   have e1 : (n : Int) * ((m + 1 : Nat) : Int) = n + n * (m : Int) := by rw [Int.natCast_add, Int.mul_add]; omega
   rw [e1] at hB ⊢
   have hnm : (0 : Int) ≤ (n : Int) * (m : Int) := Int.mul_nonneg (by omega) (by omega)
   have hlt : i < xs.length := by omega
   rw [List.drop_eq_getElem_cons hlt] at hd
   simp only [mkL, List.cons.injEq] at hd
   have h2 := ih (i + 1) xs (x + n) (by omega) hl (by omega) (by omega) hd.2
   have h3 := hstep xs x i _ hlt hl h0 (by omega) hd.1 h2
   rw [Int.add_assoc] at h3
   exact h3
end Go.Proofs.YtmkpgddfoaglpaaGreatDoor.PG
/-
 Texts as lists of bytes: what is left from a place on, what was gathered. No condition.
-/
namespace Go.Proofs.YtmkpgddfoaglpaaGreatDoor.Gn
open Go Go.RowKit Go.Proofs.YtmkpgddfoaglpaaGreatDoorW.PrintWords
abbrev bl (s : ByteArray) : List UInt8 := s.data.toList
def ofL (l : List UInt8) : ByteArray := ⟨l.toArray⟩
def ints (l : List UInt8) : List Int := l.map fun c => (c.toNat : Int)
theorem bl_ofL (l : List UInt8) : bl (ofL l) = l := by simp [ofL, bl]
theorem ofL_bl (s : ByteArray) : ofL (bl s) = s := by
 obtain ⟨d⟩ := s
 simp [ofL, bl]
theorem bl_len (s : ByteArray) : (bl s).length = s.size := data_length s
theorem ofL_size (l : List UInt8) : (ofL l).size = l.length := by show l.toArray.size = _; simp
theorem ofL_app (a b : List UInt8) : ofL a ++ ofL b = ofL (a ++ b) := by
 apply ByteArray.ext
 rw [ByteArray.data_append]
 simp [ofL]
theorem bl_app (a b : ByteArray) : bl (a ++ b) = bl a ++ bl b := by
 show (a ++ b).data.toList = _
 rw [ByteArray.data_append]
 simp [bl]
theorem bl_inj {a b : ByteArray} (h : bl a = bl b) : a = b := by rw [← ofL_bl a, ← ofL_bl b, h]
theorem bl_toList (a : ByteArray) : a.toList = bl a := ByteArray.toList_eq a
theorem ints_app (a b : List UInt8) : ints (a ++ b) = ints a ++ ints b := by simp [ints]
theorem ints_len (a : List UInt8) : (ints a).length = a.length := by simp [ints]
theorem nums_ints (a : List UInt8) : strOfNums (ints a) = ofL a := by
 unfold strOfNums ofL ints
 congr 1
 rw [List.map_map]
 have : ((fun x : Int => UInt8.ofNat x.toNat) ∘ fun c : UInt8 => (c.toNat : Int)) = id := by
   funext c
   simp
 rw [this, List.map_id]
theorem byte_iff (c d : UInt8) : ((c.toNat : Int) = (d.toNat : Int)) ↔ c = d := by
 rw [← UInt8.toNat_inj]
 omega
theorem at_cons {s : ByteArray} {i : Nat} {c : UInt8} {r : List UInt8} (h : (bl s).drop i = c :: r) : i < s.size ∧ bt s (i : Int) = (c.toNat : Int) ∧ (bl s).drop (i + 1) = r := by
 have hlt : i < s.size := by
   rw [← bl_len]
   rcases Nat.lt_or_ge i (bl s).length with h1 | h1
   · exact h1
   · rw [List.drop_eq_nil_of_le h1] at h; cases h
 refine ⟨hlt, ?_, ?_⟩
 · have h2 : (bl s)[i]? = some c := by
     have := congrArg (fun q => q[0]?) h
     simpa [List.getElem?_drop] using this
   have h3 : bt s (i : Int) = (((s.data[i]'hlt) : UInt8).toNat : Int) := by
     unfold bt
     rw [dif_pos (by simpa using hlt)]
     rfl
   rw [h3]
   have h4 : (bl s)[i]? = some (s.data[i]'hlt) := by
     rw [List.getElem?_eq_getElem (by rw [bl_len]; exact hlt)]
     simp [bl]
   rw [h4] at h2
   injection h2 with h2
   rw [h2]
 · rw [← List.drop_drop, h]
   rfl
theorem at_nil {s : ByteArray} {i : Nat} (h : (bl s).drop i = []) : s.size ≤ i := by
 rw [← bl_len]
 exact List.drop_eq_nil_iff.1 h
theorem take_snoc {s : ByteArray} {i : Nat} {c : UInt8} {r : List UInt8} (h : (bl s).drop i = c :: r) : (bl s).take (i + 1) = (bl s).take i ++ [c] := by
 have h2 : (bl s)[i]? = some c := by
   have := congrArg (fun q => q[0]?) h
   simpa [List.getElem?_drop] using this
 obtain ⟨h3, h4⟩ := List.getElem?_eq_some_iff.1 h2
 rw [List.take_succ_eq_append_getElem h3, h4]
theorem bl_extract (s : ByteArray) (i j : Nat) : bl (s.extract i j) = ((bl s).take j).drop i := by
 show (s.extract i j).data.toList = _
 rw [ByteArray.data_extract, Array.toList_extract]
 simp [List.extract, bl, List.drop_take]
theorem ext_one' {s : ByteArray} {i : Nat} {c : UInt8} {r : List UInt8} (h : (bl s).drop i = c :: r) : s.extract i (i + 1) = ofL [c] := by
 apply bl_inj
 rw [bl_extract, bl_ofL, take_snoc h, List.drop_append_of_le_length (by rw [List.length_take, bl_len]; have := (at_cons h).1; omega)]
 rw [List.drop_eq_nil_of_le (by rw [List.length_take]; omega)]
 rfl
end Go.Proofs.YtmkpgddfoaglpaaGreatDoor.Gn
/-
 A DN's text and its two readings, in plain lists: both readings of a written DN give it back. No condition.
-/
namespace Go.Proofs.YtmkpgddfoaglpaaGreatDoor.PG.DnPure
abbrev L := List UInt8
inductive Esc : L → L → Prop
 | nil : Esc [] []
 | esc (c : UInt8) {e v : L} : Esc e v → Esc (92 :: c :: e) (c :: v)
 | plain (c : UInt8) {e v : L} : c ≠ 44 → c ≠ 92 → Esc e v → Esc (c :: e) (c :: v)
def rdI : L → Bool → L → L → List (L × L) → List (L × L)
 | [], _, a, v, out => out ++ [(a, v)]
 | c :: r, false, a, v, out => if c = 61 then rdI r true a v out else rdI r false (a ++ [c]) v out
 | [c], true, a, v, out => if c = 44 then out ++ [(a, v)] ++ [([], [])] else out ++ [(a, v ++ [c])]
 | c :: d :: r, true, a, v, out => if c = 44 then rdI (d :: r) false [] [] (out ++ [(a, v)]) else if c = 92 then rdI r true a (v ++ [d]) out else rdI (d :: r) true a (v ++ [c]) out
def cutS : L → L → List L → List L
 | [], b, out => out ++ [b]
 | [c], b, out => if c = 44 then out ++ [b] ++ [[]] else out ++ [b ++ [c]]
 | c :: d :: r, b, out => if c = 92 then cutS r (b ++ [c, d]) out else if c = 44 then cutS (d :: r) [] (out ++ [b]) else cutS (d :: r) (b ++ [c]) out
def unesc : L → L
 | [] => []
 | [c] => [c]
 | c :: d :: r => if c = 92 then d :: unesc r else c :: unesc (d :: r)
theorem unesc_of {e v : L} (h : Esc e v) : unesc e = v := by
 induction h with
 | nil => rfl
 | esc c h ih => simp [unesc, ih]
 | @plain c e v h1 h2 h ih =>
   cases e with
   | nil => cases h; simp [unesc]
   | cons d r => simp [unesc, h2, ih]
def Stop (r : L) : Prop := r = [] ∨ ∃ r', r = 44 :: r'
theorem rdI_val {e v : L} (h : Esc e v) : ∀ (r a w : L) (out : List (L × L)), Stop r → rdI (e ++ r) true a w out = rdI r true a (w ++ v) out := by
 induction h with
 | nil => intro r a w out hr; simp
 | esc c h ih => intro r a w out hr; simp only [List.cons_append, rdI]; rw [if_neg (by decide), if_true, ih _ _ _ _ hr]; simp
 | @plain c e v h1 h2 h ih =>
   intro r a w out hr
   cases he : e ++ r with
   | nil =>
     have e1 : e = [] := by cases e with | nil => rfl | cons _ _ => simp at he
     have e2 : r = [] := by cases r with | nil => rfl | cons _ _ => simp at he
     subst e1; subst e2; cases h
     simp [rdI, h1]
   | cons d q =>
     simp only [List.cons_append, he, rdI]
     rw [if_neg h1, if_neg h2, ← he, ih _ _ _ _ hr]; simp
def NameL (a : L) : Prop := ∀ c ∈ a, c ≠ 61 ∧ c ≠ 44 ∧ c ≠ 92
theorem rdI_name {a : L} (h : NameL a) : ∀ (r b v : L) (out : List (L × L)), rdI (a ++ 61 :: r) false b v out = rdI r true (b ++ a) v out := by
 induction a with
 | nil => intro r b v out; simp [rdI]
 | cons c a ih =>
   intro r b v out
   simp only [List.cons_append, rdI]
   rw [if_neg (h c (by simp)).1, ih (fun x hx => h x (by simp [hx]))]
   simp
def one (esc : L → L) (x : L × L) : L := x.1 ++ 61 :: esc x.2
def txt (esc : L → L) : List (L × L) → L
 | [] => []
 | x :: l => one esc x ++ l.flatMap fun y => 44 :: one esc y
theorem one_app (esc : L → L) (x : L × L) (q : L) : one esc x ++ q = x.1 ++ 61 :: (esc x.2 ++ q) := by simp [one]
theorem stop_tail (esc : L → L) (l : List (L × L)) : Stop (l.flatMap fun y => 44 :: one esc y) := by
 cases l with
 | nil => exact .inl rfl
 | cons x l => exact .inr ⟨one esc x ++ l.flatMap (fun y => 44 :: one esc y), by simp⟩
theorem rdI_txt {esc : L → L} (he : ∀ v, Esc (esc v) v) : ∀ (l : List (L × L)) (x : L × L) (out : List (L × L)), (∀ y ∈ x :: l, NameL y.1) →
   rdI (one esc x ++ l.flatMap fun y => 44 :: one esc y) false [] [] out = out ++ x :: l
 | [], x, out, h => by
   have hr := rdI_val (he x.2) [] x.1 [] out (.inl rfl)
   simp only [List.append_nil] at hr
   simp only [List.flatMap_nil, List.append_nil, one]
   rw [rdI_name (h x (by simp)), List.nil_append, hr]
   simp [rdI]
 | y :: l, x, out, h => by
   rw [one_app, rdI_name (h x (by simp)), List.nil_append, rdI_val (he x.2) _ _ _ _ (stop_tail esc (y :: l)), List.flatMap_cons, List.nil_append]
   have hne : one esc y ++ l.flatMap (fun y => 44 :: one esc y) ≠ [] := by unfold one; simp
   have ih := rdI_txt he l y (out ++ [(x.1, x.2)]) (fun z hz => h z (by simp at hz ⊢; exact .inr hz))
   rw [List.cons_append]
   revert ih hne
   generalize one esc y ++ l.flatMap (fun y => 44 :: one esc y) = q
   intro hne ih
   cases q with
   | nil => exact absurd rfl hne
   | cons d q => rw [rdI.eq_4, if_pos rfl, ih]; simp
theorem cutS_val {e v : L} (h : Esc e v) : ∀ (r b : L) (out : List L), Stop r → cutS (e ++ r) b out = cutS r (b ++ e) out := by
 induction h with
 | nil => intro r a out hr; simp
 | esc c h ih => intro r b out hr; simp only [List.cons_append, cutS]; rw [if_true, ih _ _ _ hr]; simp
 | @plain c e v h1 h2 h ih =>
   intro r b out hr
   cases he : e ++ r with
   | nil =>
     have e1 : e = [] := by cases e with | nil => rfl | cons _ _ => simp at he
     have e2 : r = [] := by cases r with | nil => rfl | cons _ _ => simp at he
     subst e1; subst e2; cases h
     simp [cutS, h1]
   | cons d q =>
     simp only [List.cons_append, he, cutS]
     rw [if_neg h2, if_neg h1, ← he, ih _ _ _ hr]; simp
theorem cutS_name {a : L} (h : NameL a) : ∀ (c : UInt8) (r b : L) (out : List L), cutS (a ++ c :: r) b out = cutS (c :: r) (b ++ a) out := by
 induction a with
 | nil => intro c r b out; simp
 | cons x a ih =>
   intro c r b out
   have hx := h x (by simp)
   have ih' := ih (fun x hx => h x (by simp [hx])) c r
   cases he : a ++ c :: r with
   | nil => simp at he
   | cons d q =>
     simp only [List.cons_append, he, cutS]
     rw [if_neg hx.2.2, if_neg hx.2.1, ← he, ih']; simp
theorem cutS_eq (r b : L) (out : List L) : cutS (61 :: r) b out = cutS r (b ++ [61]) out := by
 cases r with
 | nil => simp [cutS]
 | cons d r => simp only [cutS]; rw [if_neg (by decide), if_neg (by decide)]
theorem cutS_txt {esc : L → L} (he : ∀ v, Esc (esc v) v) : ∀ (l : List (L × L)) (x : L × L) (out : List L), (∀ y ∈ x :: l, NameL y.1) →
   cutS (one esc x ++ l.flatMap fun y => 44 :: one esc y) [] out = out ++ (x :: l).map (one esc)
 | [], x, out, h => by
   have hr := cutS_val (he x.2) [] (x.1 ++ [61]) out (.inl rfl)
   simp only [List.append_nil] at hr
   simp only [List.flatMap_nil, List.append_nil, one]
   rw [cutS_name (h x (by simp)), List.nil_append, cutS_eq, hr]
   simp [cutS, one]
 | y :: l, x, out, h => by
   rw [one_app, cutS_name (h x (by simp)), List.nil_append, cutS_eq, cutS_val (he x.2) _ _ _ (stop_tail esc (y :: l)), List.flatMap_cons]
   have hne : one esc y ++ l.flatMap (fun y => 44 :: one esc y) ≠ [] := by unfold one; simp
   have ih := cutS_txt he l y (out ++ [one esc x]) (fun z hz => h z (by simp at hz ⊢; exact .inr hz))
   rw [List.cons_append]
   revert ih hne
   generalize one esc y ++ l.flatMap (fun y => 44 :: one esc y) = q
   intro hne ih
   cases q with
   | nil => exact absurd rfl hne
   | cons d q =>
     simp only [cutS]
     rw [if_neg (by decide), if_true]
     simp only [one, List.append_assoc, List.cons_append, List.nil_append] at ih ⊢
     rw [ih]; simp [one]
def rdnS (t : L) : L × L := if (61 : UInt8) ∈ t then (t.takeWhile (· ≠ 61), unesc ((t.dropWhile (· ≠ 61)).drop 1)) else ([], [])
theorem rdnS_one {esc : L → L} (he : ∀ v, Esc (esc v) v) (x : L × L) (h : NameL x.1) : rdnS (one esc x) = x := by
 have h1 : (x.1 ++ 61 :: esc x.2).takeWhile (· ≠ 61) = x.1 := by
   rw [List.takeWhile_append_of_pos (fun c hc => by simpa using (h c hc).1)]; simp
 have h2 : (x.1 ++ 61 :: esc x.2).dropWhile (· ≠ 61) = 61 :: esc x.2 := by
   rw [List.dropWhile_append_of_pos (fun c hc => by simpa using (h c hc).1)]; simp
 unfold rdnS one
 rw [if_pos (by simp), h1, h2, List.drop_succ_cons, List.drop_zero, unesc_of (he x.2)]
def escAt (odd : L → Nat → Bool) (v : L) (i : Nat) : L := if odd v i then [92, v.getD i 0] else [v.getD i 0]
def escL (odd : L → Nat → Bool) (v : L) : L := (List.range v.length).flatMap (escAt odd v)
theorem escL_of (odd : L → Nat → Bool) (ho : ∀ v i, i < v.length → v.getD i 0 = 44 ∨ v.getD i 0 = 92 → odd v i = true) (v : L) : Esc (escL odd v) v := by
 have : ∀ (n k : Nat), k + n = v.length → Esc ((List.range' k n).flatMap (escAt odd v)) (v.drop k) := by
   intro n
   induction n with
   | zero => intro k hk; rw [List.drop_eq_nil_of_le (by omega)]; exact .nil
   | succ n ih =>
     intro k hk
     have hlt : k < v.length := by omega
     rw [List.range'_succ, List.flatMap_cons, List.drop_eq_getElem_cons hlt]
     have hi := ih (k + 1) (by omega)
     have hg : v.getD k 0 = v[k] := by simp [hlt]
     unfold escAt
     split
     · rw [hg]; exact .esc _ hi
     · rename_i hn
       rw [hg]
       refine .plain _ (fun hc => hn (ho v k hlt (.inl (hg.trans hc)))) (fun hc => hn (ho v k hlt (.inr (hg.trans hc)))) hi
 have := this v.length 0 (by omega)
 rwa [← List.range_eq_range', List.drop_zero] at this
end Go.Proofs.YtmkpgddfoaglpaaGreatDoor.PG.DnPure
