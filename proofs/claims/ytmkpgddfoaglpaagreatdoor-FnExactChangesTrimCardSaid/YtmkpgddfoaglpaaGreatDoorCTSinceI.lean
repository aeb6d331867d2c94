/-
 The program's and the reference's ChangesSince as contracts: both answer sinceV. Conditions: the texts' and lengths' bounds.
-/
import Derived.Deep.RegionHeld3
import Derived.Test.YtmkpgddfoaglpaaGreatDoorCTP6
import Derived.Test.YtmkpgddfoaglpaaGreatDoorCTP1
import Derived.Test.YtmkpgddfoaglpaaGreatDoorCTChgO
import Derived.Test.YtmkpgddfoaglpaaGreatDoorCTCopyChgs
import Derived.Test.YtmkpgddfoaglpaaGreatDoorCTChgS
import Derived.Test.YtmkpgddfoaglpaaGreatDoorCTP3
set_option linter.unusedVariables false
set_option linter.unusedSimpArgs false
namespace Go.Proofs.YtmkpgddfoaglpaaGreatDoor.PG
open Go.RowKit Go.Proofs.YtmkpgddfoaglpaaGreatDoorW.PrintWords Go.Proofs.YtmkpgddfoaglpaaGreatDoorW.PrintLast Go.Proofs.YtmkpgddfoaglpaaGreatDoorW.PrintMore Go.Proofs.YtmkpgddfoaglpaaGreatDoor.Gn Go.Proofs.YtmkpgddfoaglpaaGreatDoor
attribute [local go_sem] max2_int min2_int max_two min_two max_three min_three max_four min_four World.cell?_drew World.frozen?_drew
theorem chgsR_c (y : S67) (hok : ∀ x, x ∈ y.f1 → okChg x) (A : Option Addr) (c : Nat) (W : World) (hC : Kd.C k145 W A y.f1.length y.f1) (hc : y.f1.length ≤ c) :
   Calls Tryz.prog 111 #[.agg #[.int .i64 y.f0, .slice A y.f1.length c]] W (RetB (chgsB y.f0 y.f1) W) := by
 obtain ⟨k, hk⟩ := ev_at (impl_chgs y.f0 y.f1 hok)
 exact impl_ChangesRight.calls k y.f0 A c y.f1 _ W hC hc hk
end Go.Proofs.YtmkpgddfoaglpaaGreatDoor.PG
