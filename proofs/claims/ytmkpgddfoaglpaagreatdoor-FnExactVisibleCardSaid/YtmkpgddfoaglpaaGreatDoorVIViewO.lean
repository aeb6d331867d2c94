/-
 ViewOf's answer: what it is, and where the view can be told. No condition.
-/
import Derived.Test.YtmkpgddfoaglpaaGreatDoorVIP1
import Derived.Test.YtmkpgddfoaglpaaGreatDoorVISq
import Derived.Test.YtmkpgddfoaglpaaGreatDoorVIP6
import Derived.Test.YtmkpgddfoaglpaaGreatDoorVIView
import Derived.Test.YtmkpgddfoaglpaaGreatDoorVIGen
namespace Go.Proofs.YtmkpgddfoaglpaaGreatDoor.PG
open Go.RowKit Go.Proofs.YtmkpgddfoaglpaaGreatDoorW.PrintWords Go.Proofs.YtmkpgddfoaglpaaGreatDoorW.PrintLast Go.Proofs.YtmkpgddfoaglpaaGreatDoorW.PrintMore Go.Proofs.YtmkpgddfoaglpaaGreatDoor.Gn Go.Proofs.YtmkpgddfoaglpaaGreatDoor.Sem
set_option linter.unusedVariables false
set_option linter.unusedSimpArgs false
theorem entry_dn {x : List S151} {y : List S201} (h : entryB x y = true) : dnB x = true := by
 unfold entryB at h
 simp only [Bool.and_eq_true] at h
 exact h.2.1
theorem viewOk_of {l : List S108} {x : List S151} {y : List S201} (h : aclB l = true) (h2 : entryB x y = true) (hok : okEnt x y) : viewOk l x y = true := by
 unfold viewOk
 simp only [Bool.and_eq_true, decide_eq_true_eq, List.all_eq_true]
 exact ⟨h, entry_dn h2, hok.2.1, hok.2.2⟩
end Go.Proofs.YtmkpgddfoaglpaaGreatDoor.PG
