/- Calls whose answers are known: a part of them, reckoned. -/
import Derived.Test.YtoijfckollafhaaGreatEvA
import Derived.Test.YtoijfckollafhaaGreatEvT
namespace Go.Ev
theorem ck12 : checkAll cxCx tb11 100000 lb12 = true := by decide +kernel
end Go.Ev
