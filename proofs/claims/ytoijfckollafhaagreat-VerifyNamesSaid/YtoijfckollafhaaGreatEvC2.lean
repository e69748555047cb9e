/- Calls whose answers are known: a part of them, reckoned. -/
import Derived.Test.YtoijfckollafhaaGreatEvA
import Derived.Test.YtoijfckollafhaaGreatEvT
namespace Go.Ev
theorem ck2 : checkAll cxCx tb1 100000 lb2 = true := by decide +kernel
end Go.Ev
