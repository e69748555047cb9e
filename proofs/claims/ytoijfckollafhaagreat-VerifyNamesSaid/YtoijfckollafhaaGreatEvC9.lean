/- Calls whose answers are known: a part of them, reckoned. -/
import Derived.Test.YtoijfckollafhaaGreatEvA
import Derived.Test.YtoijfckollafhaaGreatEvT
namespace Go.Ev
theorem ck9 : checkAll cxCx tb8 100000 lb9 = true := by decide +kernel
end Go.Ev
