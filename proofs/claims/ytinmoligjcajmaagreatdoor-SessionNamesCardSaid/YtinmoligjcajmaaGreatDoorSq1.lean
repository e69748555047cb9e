/- Closed facts of the program, one by one. -/
import Derived.Test.YtinmoligjcajmaaGreatDoorRows
import Derived.JoinedOf
namespace Go.Proofs.YtinmoligjcajmaaGreatDoor
open Go
theorem Sq_unf : Tryz.prog.unfollowed 3 = true := by kernel_rfl
theorem Sq_rec : Tryz.prog.recurses 3 = true := by unfold Program.recurses; rw [Sq_unf]; rfl
end Go.Proofs.YtinmoligjcajmaaGreatDoor
