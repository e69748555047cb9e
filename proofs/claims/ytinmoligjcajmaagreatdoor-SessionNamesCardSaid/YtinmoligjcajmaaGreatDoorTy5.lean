/- The program's tie, in parts. -/
import Derived.Test.YtinmoligjcajmaaGreatDoorTy0
namespace Go.Proofs.YtinmoligjcajmaaGreatDoor
open Go
theorem tn : varsNamedLaterB Tryz.prog (varsId Tryz.prog) tLaid = true := by kernel_rfl
end Go.Proofs.YtinmoligjcajmaaGreatDoor
