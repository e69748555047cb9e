/- Calls whose answers are known: a part of them, reckoned. -/
import Derived.Test.YtinmoligjcajmaaGreatDoorSnA
import Derived.Test.YtinmoligjcajmaaGreatDoorEvUT
namespace Go.Ev
theorem ck31 : checkAll cxCx tb30 100000 lb31 = true := by decide +kernel
theorem ck32 : checkAll cxCx tb31 100000 lb32 = true := by decide +kernel
theorem ck33 : checkAll cxCx tb32 100000 lb33 = true := by decide +kernel
end Go.Ev
