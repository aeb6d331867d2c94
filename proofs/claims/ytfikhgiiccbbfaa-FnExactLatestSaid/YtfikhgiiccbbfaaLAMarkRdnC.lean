/-
  Marks of []Rdn as a contract: what laws.markRdnS writes. Conditions: the row is the call's own; the marks' numbers stay small.
-/
import Derived.Test.YtfikhgiiccbbfaaLAP2
import Derived.Test.YtfikhgiiccbbfaaLAMarkAttr
import Derived.Test.YtfikhgiiccbbfaaLAMarkRdn
namespace Go.Proofs.Ytfikhgiiccbbfaa.PH
set_option linter.unusedVariables false
set_option linter.unusedSimpArgs false
open Go.RowKit Go.Proofs.YtfikhgiiccbbfaaW.PrintWords Go.Proofs.YtfikhgiiccbbfaaW.PrintLast Go.Proofs.YtfikhgiiccbbfaaW.PrintMore Go.Proofs.Ytfikhgiiccbbfaa.Gn

theorem markRdns_c (w0 : World) (ok : Nat → Prop) (u : Value) (l : List S119) (x : Int) (w : World) (hB : Below w0.heap.size w0 w) (hR : Kd.R k119 119 w w0.heap.size ok u l) (hl : l.length ≤ 4000000000000000000) (h0 : 0 ≤ x) (hx : x + 2 * l.length ≤ 4000000000000000000) :
    Calls Try.prog 66 #[u, .int .i64 x] w (RetMark k119 119 w0 ok u (mkL mk_Rdn 2 x l.length) (x + 2 * l.length) w) := by
  obtain ⟨k, hk⟩ := (mark_Rdn l x hl h0 (by omega)).rounds
  refine (laws_markRdnS.calls k ok u l x _ _ w0 w hB hR hk).mono ?_
  rintro e w' ⟨rfl, hR', hb, hk'⟩
  exact ⟨rfl, Kd.R_mono (Kd.R_tight rfl hR') (fun k hk => hR.1 k hk.symm), hb, hk'⟩
def nEnt (d : List S119) (l : List S112) : Nat := 2 * d.length + nAs l
end Go.Proofs.Ytfikhgiiccbbfaa.PH
