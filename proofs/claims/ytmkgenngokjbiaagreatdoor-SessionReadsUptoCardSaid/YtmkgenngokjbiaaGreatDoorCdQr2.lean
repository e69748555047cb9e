/- Closed facts of the program, one by one. -/
import Derived.Test.YtmkgenngokjbiaaGreatDoorRows
import Derived.JoinedOf
set_option linter.all false
set_option maxRecDepth 20000
set_option maxHeartbeats 6400000
namespace Go.Proofs.YtmkgenngokjbiaaGreatDoor
open Go
theorem Qr_inp:Tryz.prog.inPlace 3=Rows.sessionReadsUptoRow.inPlace:=by kernel_rfl
end Go.Proofs.YtmkgenngokjbiaaGreatDoor
