/- Calls whose answers are known: a part of them, reckoned. -/
import Derived.Test.YtoijfckollafhaaGreatMpA
import Derived.Test.YtoijfckollafhaaGreatEvT
namespace Go.Ev
theorem ck41 : checkAll cxCx tb40 100000 lb41 = true := by decide +kernel
theorem ck42 : checkAll cxCx tb41 100000 lb42 = true := by decide +kernel
end Go.Ev
