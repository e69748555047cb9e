/- The program's tie, in parts. -/
import Derived.Test.YtinmoligjcajmaaGreatDoorTy0
namespace Go.Proofs.YtinmoligjcajmaaGreatDoor
open Go
theorem tw3 : Tryz.prog.worded rootWordLater = true := by kernel_rfl
end Go.Proofs.YtinmoligjcajmaaGreatDoor
