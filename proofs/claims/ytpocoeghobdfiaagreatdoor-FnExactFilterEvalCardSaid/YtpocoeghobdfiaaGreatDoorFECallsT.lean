/-
  What the laws' helpers come to, as contracts without rounds. No condition but those stated.
-/
import Derived.Test.YtpocoeghobdfiaaGreatDoorFEP2
import Derived.Test.YtpocoeghobdfiaaGreatDoorFEFilterEval
import Derived.Test.YtpocoeghobdfiaaGreatDoorFEHEntry
import Derived.Test.YtpocoeghobdfiaaGreatDoorFEHNode
import Derived.Test.YtpocoeghobdfiaaGreatDoorFEHStringS
namespace Go.Proofs.YtpocoeghobdfiaaGreatDoor.PG
set_option linter.unusedVariables false
set_option linter.unusedSimpArgs false
open Go.RowKit Go.Proofs.YtpocoeghobdfiaaGreatDoorW.PrintWords Go.Proofs.YtpocoeghobdfiaaGreatDoorW.PrintLast Go.Proofs.YtpocoeghobdfiaaGreatDoorW.PrintMore Go.Proofs.YtpocoeghobdfiaaGreatDoor.Gn Go.Proofs.YtpocoeghobdfiaaGreatDoor

theorem dr_below {w w' : World} (h : Drawn0 w w') : Below w.heap.size w w' := by
  obtain ⟨n, rfl⟩ := h
  exact pw_below_drewN (Below.refl _ _) n
/-- A row that is handed back. -/
def RetRow {α : Type} (d : Kd α) (l : List α) (W : World) (e : Ending) (w' : World) : Prop := ∃ A c, e = .returned (.slice A l.length c) ∧ l.length ≤ c ∧ Kd.C d w' A l.length l ∧ Below W.heap.size W w'
def RetEnt (x : List S113) (y : List S115) (W : World) (e : Ending) (w' : World) : Prop := ∃ A c B b, e = .returned (.agg #[.slice A x.length c, .slice B y.length b]) ∧ x.length ≤ c ∧ Kd.C k113 w' A x.length x ∧ y.length ≤ b ∧ Kd.C k115 w' B y.length y ∧ Below W.heap.size W w'
def RetI (n : Int) (W : World) (e : Ending) (w' : World) : Prop := e = .returned (.int .i64 n) ∧ Below W.heap.size W w'
def RetB (b : Bool) (W : World) (e : Ending) (w' : World) : Prop := e = .returned (.bool b) ∧ Below W.heap.size W w'
theorem ev_at {α : Type} {f : Nat → Option α} {r : α} (h : Ev f r) : ∃ k, f k = some r := h.rounds
theorem szNodeS_c (x : List S82) (acc r : Int) (hr : Ev (fun k => laws_szNodeS.f k x acc) r) (A : Option Addr) (c : Nat) (W : World) (hC : Kd.C k82 W A x.length x) (hc : x.length ≤ c) : Calls Tryz.prog 15 #[.slice A x.length c, .int .i64 acc] W (RetI r W) := by
  obtain ⟨k, hk⟩ := ev_at hr
  exact laws_szNodeS.calls k A c x acc r W hC hc hk
theorem szEntry_c (x : List S102) (y : List S105) (acc r : Int) (hr : Ev (fun k => laws_szEntry.f k x y acc) r) (A : Option Addr) (c : Nat) (B : Option Addr) (b : Nat) (W : World) (hC : Kd.C k102 W A x.length x) (hc : x.length ≤ c) (hD : Kd.C k105 W B y.length y) (hd : y.length ≤ b) :
    Calls Tryz.prog 7 #[.agg #[.slice A x.length c, .slice B y.length b], .int .i64 acc] W (RetI r W) := by
  obtain ⟨k, hk⟩ := ev_at hr
  exact laws_szEntry.calls k A c x B b y acc r W hC hc hD hd hk
theorem szStringS_c (x : List ByteArray) (acc r : Int) (hr : Ev (fun k => laws_szStringS.f k x acc) r) (A : Option Addr) (c : Nat) (W : World) (hC : Kd.C Kd.string W A x.length x) (hc : x.length ≤ c) : Calls Tryz.prog 16 #[.slice A x.length c, .int .i64 acc] W (RetI r W) := by
  obtain ⟨k, hk⟩ := ev_at hr
  exact (laws_szStringS.calls k A c x acc r W hC hc hk).mono fun e w' h => ⟨h.1, dr_below h.2⟩
theorem toNodeS_c (x : List S82) (w : Ft.fit43 x) (A : Option Addr) (c : Nat) (W : World) (hC : Kd.C k82 W A x.length x) (hc : x.length ≤ c) : Calls Tryz.prog 18 #[.slice A x.length c] W (RetRow k87 (x.map conv_Node) W) := by
  obtain ⟨k, hk⟩ := ev_at (to_NodeS x w)
  refine (laws_toNodeS.calls k A c x _ W hC hc hk).mono ?_
  rintro e w' ⟨v, rfl, hR, hb⟩
  obtain ⟨A', c', rfl, hl, hC'⟩ := Kd.R_reads hR
  exact ⟨A', c', rfl, hl, hC', hb⟩
theorem toStringS_c (x : List ByteArray) (w : Ft.fit44 x) (A : Option Addr) (c : Nat) (W : World) (hC : Kd.C Kd.string W A x.length x) (hc : x.length ≤ c) : Calls Tryz.prog 19 #[.slice A x.length c] W (RetRow Kd.string x W) := by
  obtain ⟨k, hk⟩ := ev_at (to_StringS x w)
  refine (laws_toStringS.calls k A c x _ W hC hc hk).mono ?_
  rintro e w' ⟨v, rfl, hR, hb⟩
  obtain ⟨A', c', rfl, hl, hC'⟩ := Kd.R_reads hR
  exact ⟨A', c', rfl, hl, hC', hb⟩
theorem toEntry_c (x : S26) (w : Ft.fit26 x) (A : Option Addr) (c : Nat) (B : Option Addr) (b : Nat) (W : World) (hC : Kd.C k102 W A x.f0.length x.f0) (hc : x.f0.length ≤ c) (hD : Kd.C k105 W B x.f1.length x.f1) (hd : x.f1.length ≤ b) :
    Calls Tryz.prog 10 #[.agg #[.slice A x.f0.length c, .slice B x.f1.length b]] W (RetEnt (conv_Entry x).f0 (conv_Entry x).f1 W) := by
  obtain ⟨k, hk⟩ := ev_at (to_Entry x w)
  refine (laws_toEntry.calls k A c x.f0 B b x.f1 _ _ W hC hc hD hd hk).mono ?_
  rintro e w' ⟨v, u, rfl, hR, hS, hb⟩
  obtain ⟨A', c', rfl, hl, hC'⟩ := Kd.R_reads hR
  obtain ⟨B', b', rfl, hl2, hD'⟩ := Kd.S_reads hS
  exact ⟨A', c', B', b', rfl, hl, hC', hl2, hD', hb⟩
theorem eqNodeS_c (x : List S87) (h : lens_NodeS x) (A : Option Addr) (c : Nat) (B : Option Addr) (b : Nat) (W : World) (hC : Kd.C k87 W A x.length x) (hc : x.length ≤ c) (hD : Kd.C k87 W B x.length x) (hd : x.length ≤ b) : Calls Tryz.prog 21 #[.slice A x.length c, .slice B x.length b] W (RetB true W) := by
  obtain ⟨k, hk⟩ := ev_at (eq_NodeS x h)
  exact laws_eqNodeS.calls k A c x B b x true W hC hc hD hd hk
theorem eqStringS_c (x : List ByteArray) (h : lens_StringS x) (A : Option Addr) (c : Nat) (B : Option Addr) (b : Nat) (W : World) (hC : Kd.C Kd.string W A x.length x) (hc : x.length ≤ c) (hD : Kd.C Kd.string W B x.length x) (hd : x.length ≤ b) : Calls Tryz.prog 22 #[.slice A x.length c, .slice B x.length b] W (RetB true W) := by
  obtain ⟨k, hk⟩ := ev_at (eq_StringS x h)
  exact (laws_eqStringS.calls k A c x B b x true W hC hc hD hd hk).mono fun e w' h => ⟨h.1, dr_below h.2⟩
theorem eqEntry_c (x : S37) (h : lens_Entry x) (A : Option Addr) (c : Nat) (B : Option Addr) (b : Nat) (A' : Option Addr) (c' : Nat) (B' : Option Addr) (b' : Nat) (W : World) (hC : Kd.C k113 W A x.f0.length x.f0) (hc : x.f0.length ≤ c) (hD : Kd.C k115 W B x.f1.length x.f1) (hd : x.f1.length ≤ b) (hC' : Kd.C k113 W A' x.f0.length x.f0) (hc' : x.f0.length ≤ c') (hD' : Kd.C k115 W B' x.f1.length x.f1) (hd' : x.f1.length ≤ b') :
    Calls Tryz.prog 14 #[.agg #[.slice A x.f0.length c, .slice B x.f1.length b], .agg #[.slice A' x.f0.length c', .slice B' x.f1.length b']] W (RetB true W) := by
  obtain ⟨k, hk⟩ := ev_at (eq_Entry x h)
  exact laws_eqEntry.calls k A c x.f0 B b x.f1 A' c' x.f0 B' b' x.f1 true W hC hc hD hd hC' hc' hD' hd' hk
end Go.Proofs.YtpocoeghobdfiaaGreatDoor.PG
