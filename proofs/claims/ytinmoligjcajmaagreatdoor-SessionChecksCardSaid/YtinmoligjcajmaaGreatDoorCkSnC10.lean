/- Calls whose answers are known: a part of them, reckoned. -/
import Derived.Test.YtinmoligjcajmaaGreatDoorCk12
import Derived.Test.YtinmoligjcajmaaGreatDoorCk08
set_option linter.all false
set_option maxRecDepth 20000
set_option maxHeartbeats 6400000
namespace Go.Ev
theorem ck28 : checkAll cxCx tb27 100000 lb28 = true := by decide +kernel
theorem ck29 : checkAll cxCx tb28 100000 lb29 = true := by decide +kernel
theorem ck30 : checkAll cxCx tb29 100000 lb30 = true := by decide +kernel
end Go.Ev
