/- Calls whose answers are known: a part of them, reckoned. -/
import Derived.Test.YtinmoligjcajmaaGreatDoorSnA
import Derived.Test.YtinmoligjcajmaaGreatDoorEvUT
namespace Go.Ev
theorem ck22 : checkAll cxCx tb21 100000 lb22 = true := by decide +kernel
theorem ck23 : checkAll cxCx tb22 100000 lb23 = true := by decide +kernel
theorem ck24 : checkAll cxCx tb23 100000 lb24 = true := by decide +kernel
end Go.Ev
