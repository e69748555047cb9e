/- Calls whose answers are known: a part of them, reckoned. -/
import Derived.Test.YtinmoligjcajmaaGreatDoorSnA
import Derived.Test.YtinmoligjcajmaaGreatDoorEvUT
namespace Go.Ev
theorem ck25 : checkAll cxCx tb24 100000 lb25 = true := by decide +kernel
theorem ck26 : checkAll cxCx tb25 100000 lb26 = true := by decide +kernel
theorem ck27 : checkAll cxCx tb26 100000 lb27 = true := by decide +kernel
end Go.Ev
