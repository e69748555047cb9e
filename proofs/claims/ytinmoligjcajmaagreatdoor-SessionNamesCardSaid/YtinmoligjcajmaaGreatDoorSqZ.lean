/- Closed facts of the program, one by one. -/
import Derived.Test.YtinmoligjcajmaaGreatDoorPq1
import Derived.Test.YtinmoligjcajmaaGreatDoorPq2
import Derived.Test.YtinmoligjcajmaaGreatDoorPq3
import Derived.Test.YtinmoligjcajmaaGreatDoorPq4
import Derived.Test.YtinmoligjcajmaaGreatDoorPq5
import Derived.Test.YtinmoligjcajmaaGreatDoorPq6
import Derived.Test.YtinmoligjcajmaaGreatDoorSq1
import Derived.Test.YtinmoligjcajmaaGreatDoorSq2
import Derived.Test.YtinmoligjcajmaaGreatDoorSq3
import Derived.Test.YtinmoligjcajmaaGreatDoorSq4
import Derived.Test.YtinmoligjcajmaaGreatDoorCards
namespace Go.Proofs.YtinmoligjcajmaaGreatDoor
open Go
theorem Sq_laid : laidOutB Tryz.prog = true := by unfold laidOutB; rw [pq1, pq2, pq2g]; rfl
theorem Sq_facts : joinedFacts Tryz.prog 3 Tryz.f3 (OpenSpec.ofChange Rows.sessionNamesSpec).bare Rows.sessionNamesRow = true := by
  unfold joinedFacts
  rw [Sq_laid, pq3, Sq_inp, Sq_unf, Sq_rec, Sq_nam, pq4, pq5, pq5e]
  kernel_rfl
theorem Sq_goes : true = Rows.sessionNamesRow.goesBy Tryz.prog := by
  have h : Tryz.prog.goes 3 = true := by unfold Program.goes; rw [Sq_unf, pq6]; simp
  unfold OpenClaim.goesBy Program.goesAt Program.goesFrom
  rw [show Rows.sessionNamesRow.func = "simile/similelaw28.SessionNames" from rfl, Sq_fn]
  simp [h]
end Go.Proofs.YtinmoligjcajmaaGreatDoor
