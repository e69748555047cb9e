/- Closed facts of the program, one by one. -/
import Derived.Test.YtmkgenngokjbiaaGreatDoorRows
import Derived.JoinedOf
set_option linter.all false
set_option maxRecDepth 20000
set_option maxHeartbeats 6400000
namespace Go.Proofs.YtmkgenngokjbiaaGreatDoor
open Go
theorem pq2:Tryz.prog.funcs.all (fun f=>f.params.all fun t=>decide (t<Tryz.prog.types.size))=true:=by kernel_rfl
theorem pq2g:Tryz.prog.globals.all (fun g=>decide (g.type<Tryz.prog.types.size))=true:=by kernel_rfl
end Go.Proofs.YtmkgenngokjbiaaGreatDoor
