/- Closed facts of the program, one by one. -/
import Derived.Test.YtmkgenngokjbiaaGreatDoorRows
import Derived.JoinedOf
set_option linter.all false
set_option maxRecDepth 20000
set_option maxHeartbeats 6400000
namespace Go.Proofs.YtmkgenngokjbiaaGreatDoor
open Go
theorem pq3:mapsRowed Tryz.prog=true:=by kernel_rfl
end Go.Proofs.YtmkgenngokjbiaaGreatDoor
