/- Calls whose answers are known: a part of them, reckoned. -/
import Derived.Test.YtoijfckollafhaaGreatSmA
import Derived.Test.YtoijfckollafhaaGreatEvUT
namespace Go.Ev
theorem ck5 : checkAll cxCx tb4 100000 lb5 = true := by decide +kernel
theorem ck6 : checkAll cxCx tb5 100000 lb6 = true := by decide +kernel
theorem ck7 : checkAll cxCx tb6 100000 lb7 = true := by decide +kernel
theorem ck8 : checkAll cxCx tb7 100000 lb8 = true := by decide +kernel
end Go.Ev
