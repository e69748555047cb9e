/- Calls whose answers are known: a part of them, reckoned. -/
import Derived.Test.YtoijfckollafhaaGreatEvA
import Derived.Test.YtoijfckollafhaaGreatEvT
namespace Go.Ev
theorem ck15 : checkAll cxCx tb14 100000 lb15 = true := by decide +kernel
end Go.Ev
