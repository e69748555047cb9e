/- Calls whose answers are known: a part of them, reckoned. -/
import Derived.Test.YtinmoligjcajmaaGreatDoorCk12
import Derived.Test.YtinmoligjcajmaaGreatDoorCk08
set_option linter.all false
set_option maxRecDepth 20000
set_option maxHeartbeats 6400000
namespace Go.Ev
theorem ck16 : checkAll cxCx tb15 100000 lb16 = true := by decide +kernel
theorem ck17 : checkAll cxCx tb16 100000 lb17 = true := by decide +kernel
theorem ck18 : checkAll cxCx tb17 100000 lb18 = true := by decide +kernel
end Go.Ev
