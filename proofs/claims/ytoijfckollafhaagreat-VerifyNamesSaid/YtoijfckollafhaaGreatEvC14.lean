/- Calls whose answers are known: a part of them, reckoned. -/
import Derived.Test.YtoijfckollafhaaGreatEvA
import Derived.Test.YtoijfckollafhaaGreatEvT
namespace Go.Ev
theorem ck14 : checkAll cxCx tb13 100000 lb14 = true := by decide +kernel
end Go.Ev
