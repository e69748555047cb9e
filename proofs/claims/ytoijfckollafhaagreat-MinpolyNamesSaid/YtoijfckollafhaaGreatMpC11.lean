/- Calls whose answers are known: a part of them, reckoned. -/
import Derived.Test.YtoijfckollafhaaGreatMpA
import Derived.Test.YtoijfckollafhaaGreatEvT
namespace Go.Ev
theorem ck21 : checkAll cxCx tb20 100000 lb21 = true := by decide +kernel
theorem ck22 : checkAll cxCx tb21 100000 lb22 = true := by decide +kernel
end Go.Ev
