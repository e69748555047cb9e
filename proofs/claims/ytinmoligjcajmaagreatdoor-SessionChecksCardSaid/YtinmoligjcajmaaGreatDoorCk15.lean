/- Closed facts of the program, one by one. -/
import Derived.Test.YtinmoligjcajmaaGreatDoorCkPq1
import Derived.Test.YtinmoligjcajmaaGreatDoorCkPq2
import Derived.Test.YtinmoligjcajmaaGreatDoorCkPq3
import Derived.Test.YtinmoligjcajmaaGreatDoorCkPq4
import Derived.Test.YtinmoligjcajmaaGreatDoorCkPq5
import Derived.Test.YtinmoligjcajmaaGreatDoorCkPq6
import Derived.Test.YtinmoligjcajmaaGreatDoorCkQc1
import Derived.Test.YtinmoligjcajmaaGreatDoorCkQc2
import Derived.Test.YtinmoligjcajmaaGreatDoorCkQc3
import Derived.Test.YtinmoligjcajmaaGreatDoorCkQc4
import Derived.Test.YtinmoligjcajmaaGreatDoorCards
set_option linter.all false
set_option maxRecDepth 20000
set_option maxHeartbeats 6400000
namespace Go.Proofs.YtinmoligjcajmaaGreatDoor
open Go
theorem Qc_laid : laidOutB Tryz.prog = true := by unfold laidOutB; rw [pq1, pq2, pq2g]; rfl
theorem Qc_facts : joinedFacts Tryz.prog 5 Tryz.f5 (OpenSpec.ofChange Rows.sessionChecksSpec).bare Rows.sessionChecksRow = true := by
  unfold joinedFacts
  rw [Qc_laid, pq3, Qc_inp, Qc_unf, Qc_rec, Qc_nam, pq4, pq5, pq5e]
  kernel_rfl
theorem Qc_goes : true = Rows.sessionChecksRow.goesBy Tryz.prog := by
  have h : Tryz.prog.goes 5 = true := by unfold Program.goes; rw [Qc_unf, pq6]; simp
  unfold OpenClaim.goesBy Program.goesAt Program.goesFrom
  rw [show Rows.sessionChecksRow.func = "simile/similelaw28.SessionChecks" from rfl, Qc_fn]
  simp [h]
end Go.Proofs.YtinmoligjcajmaaGreatDoor
