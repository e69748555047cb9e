/- Calls whose answers are known: a part of them, reckoned. -/
import Derived.Test.YtoijfckollafhaaGreatSmA
import Derived.Test.YtoijfckollafhaaGreatEvUT
namespace Go.Ev
theorem ck41 : checkAll cxCx tb40 100000 lb41 = true := by decide +kernel
theorem ck42 : checkAll cxCx tb41 100000 lb42 = true := by decide +kernel
theorem ck43 : checkAll cxCx tb42 100000 lb43 = true := by decide +kernel
theorem ck44 : checkAll cxCx tb43 100000 lb44 = true := by decide +kernel
end Go.Ev
