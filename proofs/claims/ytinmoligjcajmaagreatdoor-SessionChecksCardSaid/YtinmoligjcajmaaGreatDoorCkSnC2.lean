/- Calls whose answers are known: a part of them, reckoned. -/
import Derived.Test.YtinmoligjcajmaaGreatDoorCk12
import Derived.Test.YtinmoligjcajmaaGreatDoorCk08
set_option linter.all false
set_option maxRecDepth 20000
set_option maxHeartbeats 6400000
namespace Go.Ev
theorem ck4 : checkAll cxCx tb3 100000 lb4 = true := by decide +kernel
theorem ck5 : checkAll cxCx tb4 100000 lb5 = true := by decide +kernel
theorem ck6 : checkAll cxCx tb5 100000 lb6 = true := by decide +kernel
end Go.Ev
