/- Calls whose answers are known: a part of them, reckoned. -/
import Derived.Test.YtoijfckollafhaaGreatEvA
import Derived.Test.YtoijfckollafhaaGreatEvT
namespace Go.Ev
theorem ck18 : checkAll cxCx tb17 100000 lb18 = true := by decide +kernel
end Go.Ev
