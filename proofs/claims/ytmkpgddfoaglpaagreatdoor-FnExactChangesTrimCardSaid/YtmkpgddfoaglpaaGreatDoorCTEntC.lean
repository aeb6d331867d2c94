/-
 The laws' helpers on Entry, as contracts without rounds: a copy (laws.toEntry) and what it leaves. Condition: what the argument fits.
-/
import Derived.Test.YtmkpgddfoaglpaaGreatDoorCTP2
import Derived.Test.YtmkpgddfoaglpaaGreatDoorCTEntM
import Derived.Test.YtmkpgddfoaglpaaGreatDoorCTDn
import Derived.Test.YtmkpgddfoaglpaaGreatDoorCTP1
import Derived.Test.YtmkpgddfoaglpaaGreatDoorCTSq
import Derived.Test.YtmkpgddfoaglpaaGreatDoorCTGen
import Derived.Test.YtmkpgddfoaglpaaGreatDoorCTFits
set_option linter.unusedVariables false
set_option linter.unusedSimpArgs false
namespace Go.Proofs.YtmkpgddfoaglpaaGreatDoor.PG
open Go.RowKit Go.Proofs.YtmkpgddfoaglpaaGreatDoorW.PrintWords Go.Proofs.YtmkpgddfoaglpaaGreatDoorW.PrintLast Go.Proofs.YtmkpgddfoaglpaaGreatDoorW.PrintMore Go.Proofs.YtmkpgddfoaglpaaGreatDoor.Gn Go.Proofs.YtmkpgddfoaglpaaGreatDoor
attribute [local go_sem] max2_int min2_int max_two min_two max_three min_three max_four min_four World.cell?_drew World.frozen?_drew
theorem ev_at {α : Type} {f : Nat → Option α} {r : α} (h : Ev f r) : ∃ k, f k = some r := h.rounds
def RetI (n : Int) (W : World) (e : Ending) (w' : World) : Prop := e = .returned (.int .i64 n) ∧ Below W.heap.size W w'
def RetB (b : Bool) (W : World) (e : Ending) (w' : World) : Prop := e = .returned (.bool b) ∧ Below W.heap.size W w'
def RetEnt (x : List S151) (y : List S201) (W : World) (e : Ending) (w' : World) : Prop := ∃ A c B b, e = .returned (.agg #[.slice A x.length c, .slice B y.length b]) ∧ Kd.R k151 151 w' W.heap.size (fun _ => True) (.slice A x.length c) x ∧ Kd.S k201 201 w' W.heap.size (fun _ => True) (.slice B y.length b) y ∧ Below W.heap.size W w'
theorem belows2 {B : Nat} {W W1 : World} {g : Nat} (h : Below B W W1) (hg : B ≤ g) (o o' : Nat) (v v' : Value) : Below B W ((W1.setCell ⟨g, o, none⟩ v).setCell ⟨g, o', none⟩ v') := belowsM (belowsM h hg o v) hg o' v'
end Go.Proofs.YtmkpgddfoaglpaaGreatDoor.PG
/-
 The laws' helpers at Changes: sizes, copies, equality, as plain functions. No condition but those stated.
-/
namespace Go.Proofs.YtmkpgddfoaglpaaGreatDoor.PG
open Go.RowKit Go.Proofs.YtmkpgddfoaglpaaGreatDoorW.PrintWords Go.Proofs.YtmkpgddfoaglpaaGreatDoorW.PrintLast Go.Proofs.YtmkpgddfoaglpaaGreatDoorW.PrintMore Go.Proofs.YtmkpgddfoaglpaaGreatDoor.Gn Go.Proofs.YtmkpgddfoaglpaaGreatDoor
def conv_Changes (x : S63) : S67 := ⟨x.f0, x.f1.map conv_Change⟩
def small_Changes (x : S63) : Prop := True ∧ small_ChangeS x.f1
theorem sz_Changes (x : S63) (hf : Ft.fit63 x) : ∀ acc : Int, 0 ≤ acc → acc ≤ 1048576 → ∃ r, Ev (fun k => laws_szChanges.f k x.f0 x.f1 acc) r ∧ r ≤ acc ∧ (0 ≤ r → small_Changes x) := by
 intro acc a0 a1
 obtain ⟨h0, h1⟩ := hf
 unfold laws_szChanges.f
 obtain ⟨b1, hr1, hle1, hs1⟩ := sz_ChangeS x.f1 h1 acc (by omega) (by omega)
 refine sz_bind (by omega) hr1 hle1 (fun h => by simp only [if_pos h]; exact Ev.now _) (fun p1 => ?_)
 simp only [if_neg (show ¬ b1 < 0 by omega)]
 exact ⟨_, Ev.now _, Int.le_refl _, fun _ => ⟨trivial, hs1 p1⟩⟩
def lens_Changes (y : S67) : Prop := True ∧ lens_ChangeS y.f1
theorem lens_conv_Changes (x : S63) (h : small_Changes x) : lens_Changes (conv_Changes x) := by
 obtain ⟨h0, h1⟩ := h
 exact ⟨trivial, lens_conv_ChangeS _ h1⟩
end Go.Proofs.YtmkpgddfoaglpaaGreatDoor.PG
/-
 Blocks between two numbers; small entries. Conditions: as stated.
-/
namespace Go.Proofs.YtmkpgddfoaglpaaGreatDoor.PG
open Go.RowKit Go.Proofs.YtmkpgddfoaglpaaGreatDoorW.PrintWords Go.Proofs.YtmkpgddfoaglpaaGreatDoorW.PrintLast Go.Proofs.YtmkpgddfoaglpaaGreatDoorW.PrintMore Go.Proofs.YtmkpgddfoaglpaaGreatDoor.Gn Go.Proofs.YtmkpgddfoaglpaaGreatDoor
abbrev okV (lo hi : Nat) : Nat → Prop := fun k => lo ≤ k ∧ k < hi
theorem S_rangeV {α : Type} {d : Kd α} {e : Nat} {V V' : World} {B : Nat} {v : Value} {xs : List α} (h : Kd.S d e V' V.heap.size (fun _ => True) v xs) (hle : B ≤ V.heap.size) : Kd.S d e V' B (okV V.heap.size V'.heap.size) v xs := Kd.S_lower (Kd.S_mono (Kd.S_bound h) (fun k hk => ⟨hk.2.1, hk.2.2.1⟩)) hle
theorem S_CV {α : Type} {d : Kd α} {e : Nat} {V : World} {base : Nat} {ok : Nat → Prop} {A : Option Addr} {n c : Nat} {xs : List α} (h : Kd.S d e V base ok (.slice A n c) xs) : n ≤ c ∧ d.C V A n xs := by
 obtain ⟨h0, h1, h2⟩ := Kd.S_reads' h
 exact ⟨h1, by rw [h0]; exact h2⟩
theorem nAs_leV (m : Nat) : ∀ l : List S201, (∀ a, a ∈ l → a.f1.length ≤ m) → nAs l ≤ l.length * (m + 1)
 | [], _ => Nat.zero_le _
 | a :: r, h => by
   have h1 := nAs_leV m r (fun b hb => h b (List.mem_cons_of_mem _ hb))
   have h2 := h a List.mem_cons_self
   unfold nAs n_Attr
   rw [List.length_cons, Nat.succ_mul]
   omega
theorem ent_smallV (x : S39) (h : small_Entry x) : (conv_Entry x).f0.length ≤ 1048576 ∧ (conv_Entry x).f1.length ≤ 1048576 ∧ ∀ a, a ∈ (conv_Entry x).f1 → a.f1.length ≤ 1048576 := by
 obtain ⟨h1, h2⟩ := h
 have e1 : (conv_Entry x).f0.length = x.f0.length := by simp [conv_Entry]
 have e2 : (conv_Entry x).f1.length = x.f1.length := by simp [conv_Entry]
 have h5 := h1.1
 have h6 := h2.1
 refine ⟨by omega, by omega, fun a ha => ?_⟩
 have ha2 : a ∈ x.f1.map conv_Attr := ha
 obtain ⟨b, hb, rfl⟩ := List.mem_map.1 ha2
 have h4 := (h2.2 b hb).2.1
 simpa [conv_Attr] using h4
end Go.Proofs.YtmkpgddfoaglpaaGreatDoor.PG
