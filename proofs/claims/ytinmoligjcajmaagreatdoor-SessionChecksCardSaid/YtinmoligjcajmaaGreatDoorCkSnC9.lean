/- Calls whose answers are known: a part of them, reckoned. -/
import Derived.Test.YtinmoligjcajmaaGreatDoorCk12
import Derived.Test.YtinmoligjcajmaaGreatDoorCk08
set_option linter.all false
set_option maxRecDepth 20000
set_option maxHeartbeats 6400000
namespace Go.Ev
theorem ck25 : checkAll cxCx tb24 100000 lb25 = true := by decide +kernel
theorem ck26 : checkAll cxCx tb25 100000 lb26 = true := by decide +kernel
theorem ck27 : checkAll cxCx tb26 100000 lb27 = true := by decide +kernel
end Go.Ev
