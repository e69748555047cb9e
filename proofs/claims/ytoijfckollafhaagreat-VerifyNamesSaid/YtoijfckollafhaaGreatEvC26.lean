/- Calls whose answers are known: a part of them, reckoned. -/
import Derived.Test.YtoijfckollafhaaGreatEvA
import Derived.Test.YtoijfckollafhaaGreatEvT
namespace Go.Ev
theorem ck26 : checkAll cxCx tb25 100000 lb26 = true := by decide +kernel
end Go.Ev
