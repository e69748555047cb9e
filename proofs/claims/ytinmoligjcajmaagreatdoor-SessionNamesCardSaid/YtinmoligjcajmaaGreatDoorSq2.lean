/- Closed facts of the program, one by one. -/
import Derived.Test.YtinmoligjcajmaaGreatDoorRows
import Derived.JoinedOf
namespace Go.Proofs.YtinmoligjcajmaaGreatDoor
open Go
theorem Sq_inp : Tryz.prog.inPlace 3 = Rows.sessionNamesRow.inPlace := by kernel_rfl
end Go.Proofs.YtinmoligjcajmaaGreatDoor
