/- Closed facts of the program, one by one. -/
import Derived.Test.YtinmoligjcajmaaGreatDoorRows
import Derived.JoinedOf
namespace Go.Proofs.YtinmoligjcajmaaGreatDoor
open Go
theorem Sq_nam : Tryz.prog.varsNamed 3 = Rows.sessionNamesRow.named := by kernel_rfl
end Go.Proofs.YtinmoligjcajmaaGreatDoor
