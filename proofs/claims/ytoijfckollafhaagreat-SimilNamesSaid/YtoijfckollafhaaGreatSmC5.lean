/- Calls whose answers are known: a part of them, reckoned. -/
import Derived.Test.YtoijfckollafhaaGreatSmA
import Derived.Test.YtoijfckollafhaaGreatEvUT
namespace Go.Ev
theorem ck17 : checkAll cxCx tb16 100000 lb17 = true := by decide +kernel
theorem ck18 : checkAll cxCx tb17 100000 lb18 = true := by decide +kernel
theorem ck19 : checkAll cxCx tb18 100000 lb19 = true := by decide +kernel
theorem ck20 : checkAll cxCx tb19 100000 lb20 = true := by decide +kernel
end Go.Ev
