/- The program's tie, in parts. -/
import Derived.Test.YtmkgenngokjbiaaGreatDoorCdTy0
set_option linter.all false
set_option maxRecDepth 20000
set_option maxHeartbeats 6400000
namespace Go.Proofs.YtmkgenngokjbiaaGreatDoor
open Go
theorem tg : (Tryz.prog.funcNamed "gosem.cut.vars").isSome = true := by kernel_rfl
end Go.Proofs.YtmkgenngokjbiaaGreatDoor
