/- The program's tie, in parts. -/
import Derived.Test.YtinmoligjcajmaaGreatDoorTy0
namespace Go.Proofs.YtinmoligjcajmaaGreatDoor
open Go
theorem tg : (Tryz.prog.funcNamed "gosem.cut.vars").isSome = true := by kernel_rfl
end Go.Proofs.YtinmoligjcajmaaGreatDoor
