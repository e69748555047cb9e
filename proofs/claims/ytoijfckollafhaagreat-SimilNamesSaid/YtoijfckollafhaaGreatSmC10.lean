/- Calls whose answers are known: a part of them, reckoned. -/
import Derived.Test.YtoijfckollafhaaGreatSmA
import Derived.Test.YtoijfckollafhaaGreatEvUT
namespace Go.Ev
theorem ck37 : checkAll cxCx tb36 100000 lb37 = true := by decide +kernel
theorem ck38 : checkAll cxCx tb37 100000 lb38 = true := by decide +kernel
theorem ck39 : checkAll cxCx tb38 100000 lb39 = true := by decide +kernel
theorem ck40 : checkAll cxCx tb39 100000 lb40 = true := by decide +kernel
end Go.Ev
