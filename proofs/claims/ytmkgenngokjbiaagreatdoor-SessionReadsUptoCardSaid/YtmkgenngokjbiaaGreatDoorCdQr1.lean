/- Closed facts of the program, one by one. -/
import Derived.Test.YtmkgenngokjbiaaGreatDoorRows
import Derived.JoinedOf
set_option linter.all false
set_option maxRecDepth 20000
set_option maxHeartbeats 6400000
namespace Go.Proofs.YtmkgenngokjbiaaGreatDoor
open Go
theorem Qr_unf:Tryz.prog.unfollowed 3=true:=by kernel_rfl
theorem Qr_rec:Tryz.prog.recurses 3=true:=by unfold Program.recurses;rw[Qr_unf];rfl
end Go.Proofs.YtmkgenngokjbiaaGreatDoor
