/- Calls whose answers are known: a part of them, reckoned. -/
import Derived.Test.YtoijfckollafhaaGreatMpA
import Derived.Test.YtoijfckollafhaaGreatEvT
namespace Go.Ev
theorem ck15 : checkAll cxCx tb14 100000 lb15 = true := by decide +kernel
theorem ck16 : checkAll cxCx tb15 100000 lb16 = true := by decide +kernel
end Go.Ev
