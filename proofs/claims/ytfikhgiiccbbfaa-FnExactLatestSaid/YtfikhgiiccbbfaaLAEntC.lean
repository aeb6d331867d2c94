/-
  The laws' helpers on Entry, as contracts without rounds: a copy (laws.toEntry) and what it leaves. Condition: what the argument fits.
-/
import Derived.Test.YtfikhgiiccbbfaaLAP2
import Derived.Test.YtfikhgiiccbbfaaLAEntM
import Derived.Test.YtfikhgiiccbbfaaLAHEntry
namespace Go.Proofs.Ytfikhgiiccbbfaa.PH
set_option linter.unusedVariables false
set_option linter.unusedSimpArgs false
open Go.RowKit Go.Proofs.YtfikhgiiccbbfaaW.PrintWords Go.Proofs.YtfikhgiiccbbfaaW.PrintLast Go.Proofs.YtfikhgiiccbbfaaW.PrintMore Go.Proofs.Ytfikhgiiccbbfaa.Gn Go.Proofs.Ytfikhgiiccbbfaa
attribute [local go_sem] max2_int min2_int max_two min_two max_three min_three max_four min_four World.cell?_drew World.frozen?_drew

theorem ev_at {α : Type} {f : Nat → Option α} {r : α} (h : Ev f r) : ∃ k, f k = some r := h.rounds
theorem dr_below {w w' : World} (h : Drawn0 w w') : Below w.heap.size w w' := by
  obtain ⟨n, rfl⟩ := h
  exact pw_below_drewN (Below.refl _ _) n
def RetI (n : Int) (W : World) (e : Ending) (w' : World) : Prop := e = .returned (.int .i64 n) ∧ Below W.heap.size W w'
def RetB (b : Bool) (W : World) (e : Ending) (w' : World) : Prop := e = .returned (.bool b) ∧ Below W.heap.size W w'
/-- An entry of the call's own. -/
def RetEnt (x : List S119) (y : List S112) (W : World) (e : Ending) (w' : World) : Prop := ∃ A c B b, e = .returned (.agg #[.slice A x.length c, .slice B y.length b]) ∧ Kd.R k119 119 w' W.heap.size (fun _ => True) (.slice A x.length c) x ∧ Kd.S k112 112 w' W.heap.size (fun _ => True) (.slice B y.length b) y ∧ Below W.heap.size W w'
/-- Entries of the call's own, all rows apart. -/
def RetEs (l : List S89) (W : World) (e : Ending) (w' : World) : Prop := ∃ A c, e = .returned (.slice A l.length c) ∧ Kd.S mEnt 89 w' W.heap.size (fun _ => True) (.slice A l.length c) l ∧ Below W.heap.size W w'
theorem toEntry_c (x : S84) (w : Ft.fit84 x) (A : Option Addr) (c : Nat) (B : Option Addr) (b : Nat) (W : World) (hC : Kd.C k124 W A x.f0.length x.f0) (hc : x.f0.length ≤ c) (hD : Kd.C k126 W B x.f1.length x.f1) (hd : x.f1.length ≤ b) :
    Calls Try.prog 62 #[.agg #[.slice A x.f0.length c, .slice B x.f1.length b]] W (RetEnt (conv_Entry x).f0 (conv_Entry x).f1 W) := by
  obtain ⟨k, hk⟩ := ev_at (to_Entry x w)
  refine (laws_toEntry.calls k A c x.f0 B b x.f1 _ _ W hC hc hD hd hk).mono ?_
  rintro e w' ⟨v, u, rfl, hR, hS, hb⟩
  obtain ⟨A', c', rfl⟩ := Kd.R_slice hR
  obtain ⟨B', b', rfl⟩ := Kd.S_slice hS
  exact ⟨A', c', B', b', rfl, hR, hS, hb⟩
/-- What was made during a call: an element of a row of the caller's, its blocks between two sizes. -/
theorem ent_made {wr w2 : World} {base : Nat} {d : List S119} {l : List S112} {v0 v1 : Value} (hR : Kd.R k119 119 w2 wr.heap.size (fun _ => True) v0 d) (hS : Kd.S k112 112 w2 wr.heap.size (fun _ => True) v1 l) (hle : base ≤ wr.heap.size) : mEnt.M w2 base (fun k => wr.heap.size ≤ k ∧ k < w2.heap.size) ⟨d, l⟩ [v0, v1] :=
  mEnt_of (Kd.R_lower (Kd.R_mono (Kd.R_bound hR) (fun k hk => ⟨hk.2.1, hk.2.2.1⟩)) hle) (Kd.S_lower (Kd.S_mono (Kd.S_bound hS) (fun k hk => ⟨hk.2.1, hk.2.2.1⟩)) hle)
/-- A fresh entry is stored into a row: the cells that are written, and the row then. -/
theorem ent_put {wr w2 : World} {base g n c : Nat} {dn r : List S89} {z a : S89} {v0 v1 : Value} (h : Kd.S mEnt 89 wr base (fun _ => True) (.slice (some ⟨g, 0, none⟩) n c) (dn ++ z :: r)) (hb : Below wr.heap.size wr w2) (hM : mEnt.M w2 base (fun k => wr.heap.size ≤ k ∧ k < w2.heap.size) a [v0, v1]) :
    ∃ u0 u1, w2.cell? ⟨g, dn.length * 2, none⟩ = some u0 ∧ w2.cell? ⟨g, dn.length * 2 + 1, none⟩ = some u1 ∧ w2.frozen? ⟨g, dn.length * 2, none⟩ = false ∧ w2.frozen? ⟨g, dn.length * 2 + 1, none⟩ = false ∧
      Kd.S mEnt 89 ((w2.setCell ⟨g, dn.length * 2, none⟩ v0).setCell ⟨g, dn.length * 2 + 1, none⟩ v1) base (fun _ => True) (.slice (some ⟨g, 0, none⟩) n c) (dn ++ a :: r) := by
  have hn := (Kd.S_reads' h).1
  have hlt : ((dn.length : Nat) : Int) < n := by rw [hn, List.length_append, List.length_cons]; omega
  have h0 : (0 : Int) ≤ (dn.length : Nat) := Int.natCast_nonneg _
  have hg : g < wr.heap.size := Kd.S_lt h g (by simp [Value.ownBlock])
  have h2 : Kd.S mEnt 89 w2 base (fun k => (fun _ => True) k ∧ ¬ (wr.heap.size ≤ k ∧ k < w2.heap.size)) (.slice (some ⟨g, 0, none⟩) n c) (dn ++ z :: r) := Kd.S_mono (Kd.S_old h hb) (fun k hk => ⟨trivial, fun h => by have := hk.2; omega⟩)
  obtain ⟨oki, cs, hcl, hM0, hcc, hfr, hoki, hH⟩ := Kd.S_elem h2 z89 (dn.length : Nat) h0 hlt
  rw [Int.toNat_natCast] at hcc hfr
  obtain ⟨u0, u1, _, _, rfl, _⟩ := mEnt_openM hM0
  refine ⟨u0, u1, hcc 0 _ rfl, hcc 1 _ rfl, hfr 0, hfr 1, ?_⟩
  have hs := (Kd.S_seg (okg := fun k => wr.heap.size ≤ k ∧ k < w2.heap.size) (okp := fun k => wr.heap.size ≤ k ∧ k < w2.heap.size) hH h0 hlt (seg := [v0, v1]) (j := 0) (show 0 + 2 ≤ 2 by omega) (x' := a) hM (fun _ hk => Or.inr hk) (fun k hk => ⟨trivial, by omega⟩)).1
  rw [Int.toNat_natCast, set_mid] at hs
  exact hs
theorem belows2 {B : Nat} {W W1 : World} {g : Nat} (h : Below B W W1) (hg : B ≤ g) (o o' : Nat) (v v' : Value) : Below B W ((W1.setCell ⟨g, o, none⟩ v).setCell ⟨g, o', none⟩ v') := belowsM (belowsM h hg o v) hg o' v'
end Go.Proofs.Ytfikhgiiccbbfaa.PH
