/- Closed facts of the program, one by one. -/
import Derived.Test.YtinmoligjcajmaaGreatDoorRows
import Derived.JoinedOf
set_option linter.all false
set_option maxRecDepth 20000
set_option maxHeartbeats 6400000
namespace Go.Proofs.YtinmoligjcajmaaGreatDoor
open Go
theorem Qc_unf : Tryz.prog.unfollowed 5 = true := by kernel_rfl
theorem Qc_rec : Tryz.prog.recurses 5 = true := by unfold Program.recurses; rw [Qc_unf]; rfl
end Go.Proofs.YtinmoligjcajmaaGreatDoor
