/- Calls whose answers are known: a part of them, reckoned. -/
import Derived.Test.YtinmoligjcajmaaGreatDoorCk12
import Derived.Test.YtinmoligjcajmaaGreatDoorCk08
set_option linter.all false
set_option maxRecDepth 20000
set_option maxHeartbeats 6400000
namespace Go.Ev
theorem ck31 : checkAll cxCx tb30 100000 lb31 = true := by decide +kernel
theorem ck32 : checkAll cxCx tb31 100000 lb32 = true := by decide +kernel
theorem ck33 : checkAll cxCx tb32 100000 lb33 = true := by decide +kernel
end Go.Ev
