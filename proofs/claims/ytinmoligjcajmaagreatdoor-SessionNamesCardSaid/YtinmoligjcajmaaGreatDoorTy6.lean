/- The program's tie, in parts. -/
import Derived.Test.YtinmoligjcajmaaGreatDoorTy0
namespace Go.Proofs.YtinmoligjcajmaaGreatDoor
open Go
theorem td : ∀ os tape, varsDone Tryz.prog 400 (varsId Tryz.prog) os tape = true := fun _ _ => by kernel_rfl
end Go.Proofs.YtinmoligjcajmaaGreatDoor
