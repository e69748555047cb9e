/- Calls whose answers are known: a part of them, reckoned. -/
import Derived.Test.YtinmoligjcajmaaGreatDoorCk12
import Derived.Test.YtinmoligjcajmaaGreatDoorCk08
set_option linter.all false
set_option maxRecDepth 20000
set_option maxHeartbeats 6400000
namespace Go.Ev
theorem ck10 : checkAll cxCx tb9 100000 lb10 = true := by decide +kernel
theorem ck11 : checkAll cxCx tb10 100000 lb11 = true := by decide +kernel
theorem ck12 : checkAll cxCx tb11 100000 lb12 = true := by decide +kernel
end Go.Ev
