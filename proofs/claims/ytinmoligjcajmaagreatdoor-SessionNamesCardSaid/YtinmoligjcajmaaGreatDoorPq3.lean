/- Closed facts of the program, one by one. -/
import Derived.Test.YtinmoligjcajmaaGreatDoorRows
import Derived.JoinedOf
namespace Go.Proofs.YtinmoligjcajmaaGreatDoor
open Go
theorem pq3 : mapsRowed Tryz.prog = true := by kernel_rfl
end Go.Proofs.YtinmoligjcajmaaGreatDoor
