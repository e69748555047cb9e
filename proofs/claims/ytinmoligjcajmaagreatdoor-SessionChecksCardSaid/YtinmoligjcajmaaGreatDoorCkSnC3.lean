/- Calls whose answers are known: a part of them, reckoned. -/
import Derived.Test.YtinmoligjcajmaaGreatDoorCk12
import Derived.Test.YtinmoligjcajmaaGreatDoorCk08
set_option linter.all false
set_option maxRecDepth 20000
set_option maxHeartbeats 6400000
namespace Go.Ev
theorem ck7 : checkAll cxCx tb6 100000 lb7 = true := by decide +kernel
theorem ck8 : checkAll cxCx tb7 100000 lb8 = true := by decide +kernel
theorem ck9 : checkAll cxCx tb8 100000 lb9 = true := by decide +kernel
end Go.Ev
