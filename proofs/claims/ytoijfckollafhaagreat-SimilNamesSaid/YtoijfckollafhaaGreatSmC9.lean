/- Calls whose answers are known: a part of them, reckoned. -/
import Derived.Test.YtoijfckollafhaaGreatSmA
import Derived.Test.YtoijfckollafhaaGreatEvUT
namespace Go.Ev
theorem ck33 : checkAll cxCx tb32 100000 lb33 = true := by decide +kernel
theorem ck34 : checkAll cxCx tb33 100000 lb34 = true := by decide +kernel
theorem ck35 : checkAll cxCx tb34 100000 lb35 = true := by decide +kernel
theorem ck36 : checkAll cxCx tb35 100000 lb36 = true := by decide +kernel
end Go.Ev
