/- The program's tie, in parts. -/
import Derived.Test.YtinmoligjcajmaaGreatDoorTy0
namespace Go.Proofs.YtinmoligjcajmaaGreatDoor
open Go
theorem tw1 : Tryz.prog.worded (varsWordLater true) = true := by kernel_rfl
end Go.Proofs.YtinmoligjcajmaaGreatDoor
