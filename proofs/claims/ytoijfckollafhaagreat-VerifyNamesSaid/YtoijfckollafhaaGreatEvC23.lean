/- Calls whose answers are known: a part of them, reckoned. -/
import Derived.Test.YtoijfckollafhaaGreatEvA
import Derived.Test.YtoijfckollafhaaGreatEvT
namespace Go.Ev
theorem ck23 : checkAll cxCx tb22 100000 lb23 = true := by decide +kernel
end Go.Ev
