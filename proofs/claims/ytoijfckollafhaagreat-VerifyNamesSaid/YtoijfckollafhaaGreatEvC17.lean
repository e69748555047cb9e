/- Calls whose answers are known: a part of them, reckoned. -/
import Derived.Test.YtoijfckollafhaaGreatEvA
import Derived.Test.YtoijfckollafhaaGreatEvT
namespace Go.Ev
theorem ck17 : checkAll cxCx tb16 100000 lb17 = true := by decide +kernel
end Go.Ev
