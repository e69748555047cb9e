/- Calls whose answers are known: a part of them, reckoned. -/
import Derived.Test.YtoijfckollafhaaGreatEvA
import Derived.Test.YtoijfckollafhaaGreatEvT
namespace Go.Ev
theorem ck27 : checkAll cxCx tb26 100000 lb27 = true := by decide +kernel
end Go.Ev
