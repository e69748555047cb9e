/- Calls whose answers are known: a part of them, reckoned. -/
import Derived.Test.YtinmoligjcajmaaGreatDoorCk12
import Derived.Test.YtinmoligjcajmaaGreatDoorCk08
set_option linter.all false
set_option maxRecDepth 20000
set_option maxHeartbeats 6400000
namespace Go.Ev
theorem ck13 : checkAll cxCx tb12 100000 lb13 = true := by decide +kernel
theorem ck14 : checkAll cxCx tb13 100000 lb14 = true := by decide +kernel
theorem ck15 : checkAll cxCx tb14 100000 lb15 = true := by decide +kernel
end Go.Ev
