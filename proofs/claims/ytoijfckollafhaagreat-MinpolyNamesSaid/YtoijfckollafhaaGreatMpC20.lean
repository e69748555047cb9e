/- Calls whose answers are known: a part of them, reckoned. -/
import Derived.Test.YtoijfckollafhaaGreatMpA
import Derived.Test.YtoijfckollafhaaGreatEvT
namespace Go.Ev
theorem ck39 : checkAll cxCx tb38 100000 lb39 = true := by decide +kernel
theorem ck40 : checkAll cxCx tb39 100000 lb40 = true := by decide +kernel
end Go.Ev
