/- Closed facts of the program, one by one. -/
import Derived.Test.YtinmoligjcajmaaGreatDoorRows
import Derived.JoinedOf
namespace Go.Proofs.YtinmoligjcajmaaGreatDoor
open Go
theorem pq4 : Tryz.prog.plainKeys = Rows.sessionNamesRow.plainKeys := by kernel_rfl
end Go.Proofs.YtinmoligjcajmaaGreatDoor
