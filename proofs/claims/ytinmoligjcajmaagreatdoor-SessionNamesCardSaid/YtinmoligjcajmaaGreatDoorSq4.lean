/- Closed facts of the program, one by one. -/
import Derived.Test.YtinmoligjcajmaaGreatDoorRows
import Derived.JoinedOf
namespace Go.Proofs.YtinmoligjcajmaaGreatDoor
open Go
theorem Sq_fn : Tryz.prog.funcNamed "simile/similelaw28.SessionNames" = some 3 := by kernel_rfl
end Go.Proofs.YtinmoligjcajmaaGreatDoor
