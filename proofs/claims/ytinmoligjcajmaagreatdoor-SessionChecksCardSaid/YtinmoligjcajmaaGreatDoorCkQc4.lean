/- Closed facts of the program, one by one. -/
import Derived.Test.YtinmoligjcajmaaGreatDoorRows
import Derived.JoinedOf
set_option linter.all false
set_option maxRecDepth 20000
set_option maxHeartbeats 6400000
namespace Go.Proofs.YtinmoligjcajmaaGreatDoor
open Go
theorem Qc_fn : Tryz.prog.funcNamed "simile/similelaw28.SessionChecks" = some 5 := by kernel_rfl
end Go.Proofs.YtinmoligjcajmaaGreatDoor
