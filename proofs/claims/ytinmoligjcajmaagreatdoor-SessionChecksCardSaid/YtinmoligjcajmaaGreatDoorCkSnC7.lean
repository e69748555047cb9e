/- Calls whose answers are known: a part of them, reckoned. -/
import Derived.Test.YtinmoligjcajmaaGreatDoorCk12
import Derived.Test.YtinmoligjcajmaaGreatDoorCk08
set_option linter.all false
set_option maxRecDepth 20000
set_option maxHeartbeats 6400000
namespace Go.Ev
theorem ck19 : checkAll cxCx tb18 100000 lb19 = true := by decide +kernel
theorem ck20 : checkAll cxCx tb19 100000 lb20 = true := by decide +kernel
theorem ck21 : checkAll cxCx tb20 100000 lb21 = true := by decide +kernel
end Go.Ev
