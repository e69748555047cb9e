/- The program's tie, in parts. -/
import Derived.Test.YtmkgenngokjbiaaGreatDoorCdTy0
set_option linter.all false
set_option maxRecDepth 20000
set_option maxHeartbeats 6400000
namespace Go.Proofs.YtmkgenngokjbiaaGreatDoor
open Go
theorem t1:∀os tape,(DataW.laidRun Tryz.prog (varsWorld Tryz.prog 400 (varsId Tryz.prog) os tape).memory 8 (tLaid.map (·.1))).map (·.1)=some tLaid:=fun _ _=>by kernel_rfl
end Go.Proofs.YtmkgenngokjbiaaGreatDoor
