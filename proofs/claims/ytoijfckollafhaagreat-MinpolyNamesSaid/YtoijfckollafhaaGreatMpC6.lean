/- Calls whose answers are known: a part of them, reckoned. -/
import Derived.Test.YtoijfckollafhaaGreatMpA
import Derived.Test.YtoijfckollafhaaGreatEvT
namespace Go.Ev
theorem ck11 : checkAll cxCx tb10 100000 lb11 = true := by decide +kernel
theorem ck12 : checkAll cxCx tb11 100000 lb12 = true := by decide +kernel
end Go.Ev
