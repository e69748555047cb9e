/- Calls whose answers are known: a part of them, reckoned. -/
import Derived.Test.YtoijfckollafhaaGreatMpA
import Derived.Test.YtoijfckollafhaaGreatEvT
namespace Go.Ev
theorem ck33 : checkAll cxCx tb32 100000 lb33 = true := by decide +kernel
theorem ck34 : checkAll cxCx tb33 100000 lb34 = true := by decide +kernel
end Go.Ev
