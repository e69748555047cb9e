/- Closed facts of the program, one by one. -/
import Derived.Test.YtinmoligjcajmaaGreatDoorRows
import Derived.JoinedOf
import Derived.Test.YtinmoligjcajmaaGreatDoorCards
namespace Go.Proofs.YtinmoligjcajmaaGreatDoor
open Go
theorem pq6 : Tryz.prog.funcs.any Func.goes = true := by kernel_rfl
end Go.Proofs.YtinmoligjcajmaaGreatDoor
