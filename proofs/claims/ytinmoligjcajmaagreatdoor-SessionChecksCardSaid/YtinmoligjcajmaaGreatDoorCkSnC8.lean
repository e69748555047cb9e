/- Calls whose answers are known: a part of them, reckoned. -/
import Derived.Test.YtinmoligjcajmaaGreatDoorCk12
import Derived.Test.YtinmoligjcajmaaGreatDoorCk08
set_option linter.all false
set_option maxRecDepth 20000
set_option maxHeartbeats 6400000
namespace Go.Ev
theorem ck22 : checkAll cxCx tb21 100000 lb22 = true := by decide +kernel
theorem ck23 : checkAll cxCx tb22 100000 lb23 = true := by decide +kernel
theorem ck24 : checkAll cxCx tb23 100000 lb24 = true := by decide +kernel
end Go.Ev
