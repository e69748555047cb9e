/- Calls whose answers are known: a part of them, reckoned. -/
import Derived.Test.YtinmoligjcajmaaGreatDoorCk12
import Derived.Test.YtinmoligjcajmaaGreatDoorCk08
set_option linter.all false
set_option maxRecDepth 20000
set_option maxHeartbeats 6400000
namespace Go.Ev
theorem ck1 : checkAll cxCx tb0 100000 lb1 = true := by decide +kernel
theorem ck2 : checkAll cxCx tb1 100000 lb2 = true := by decide +kernel
theorem ck3 : checkAll cxCx tb2 100000 lb3 = true := by decide +kernel
end Go.Ev
