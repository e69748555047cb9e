/- Closed facts of the program, one by one. -/
import Derived.Test.YtmkgenngokjbiaaGreatDoorCdPq1
import Derived.Test.YtmkgenngokjbiaaGreatDoorCdPq2
import Derived.Test.YtmkgenngokjbiaaGreatDoorCdPq3
import Derived.Test.YtmkgenngokjbiaaGreatDoorCdPq4
import Derived.Test.YtmkgenngokjbiaaGreatDoorCdPq5
import Derived.Test.YtmkgenngokjbiaaGreatDoorCdPq6
import Derived.Test.YtmkgenngokjbiaaGreatDoorCdQr1
import Derived.Test.YtmkgenngokjbiaaGreatDoorCdQr2
import Derived.Test.YtmkgenngokjbiaaGreatDoorCdQr3
import Derived.Test.YtmkgenngokjbiaaGreatDoorCdQr4
import Derived.Test.YtmkgenngokjbiaaGreatDoorCards
set_option linter.all false
set_option maxRecDepth 20000
set_option maxHeartbeats 6400000
namespace Go.Proofs.YtmkgenngokjbiaaGreatDoor
open Go
theorem Qr_laid:laidOutB Tryz.prog=true:=by unfold laidOutB;rw[pq1,pq2,pq2g];rfl
theorem Qr_facts:joinedFacts Tryz.prog 3 Tryz.f3 (Rows.OpenSpec.upto Rows.sessionReadsSpec).bare Rows.sessionReadsUptoRow=true:=by
 unfold joinedFacts;rw[Qr_laid,pq3,Qr_inp,Qr_unf,Qr_rec,Qr_nam,pq4,pq5,pq5e]
 kernel_rfl
theorem Qr_goes:true=Rows.sessionReadsUptoRow.goesBy Tryz.prog:=by
 have h:Tryz.prog.goes 3=true:=by unfold Program.goes;rw[Qr_unf,pq6];simp
 unfold OpenClaim.goesBy Program.goesAt Program.goesFrom; rw [show Rows.sessionReadsUptoRow.func = "simile/similelaw28.SessionReads" from rfl, Qr_fn]; simp [h]
end Go.Proofs.YtmkgenngokjbiaaGreatDoor
