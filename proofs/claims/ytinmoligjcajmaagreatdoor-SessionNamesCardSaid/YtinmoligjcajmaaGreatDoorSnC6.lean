/- Calls whose answers are known: a part of them, reckoned. -/
import Derived.Test.YtinmoligjcajmaaGreatDoorSnA
import Derived.Test.YtinmoligjcajmaaGreatDoorEvUT
namespace Go.Ev
theorem ck16 : checkAll cxCx tb15 100000 lb16 = true := by decide +kernel
theorem ck17 : checkAll cxCx tb16 100000 lb17 = true := by decide +kernel
theorem ck18 : checkAll cxCx tb17 100000 lb18 = true := by decide +kernel
end Go.Ev
