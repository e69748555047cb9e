/- Closed facts of the program, one by one. -/
import Derived.Test.YtinmoligjcajmaaGreatDoorRows
import Derived.JoinedOf
namespace Go.Proofs.YtinmoligjcajmaaGreatDoor
open Go
theorem pq5 : Tryz.prog.stopsHeard = true := by kernel_rfl
theorem pq5e : Tryz.prog.mayEnter = true := by kernel_rfl
end Go.Proofs.YtinmoligjcajmaaGreatDoor
