/- Calls whose answers are known: a part of them, reckoned. -/
import Derived.Test.YtoijfckollafhaaGreatEvA
import Derived.Test.YtoijfckollafhaaGreatEvT
namespace Go.Ev
theorem ck22 : checkAll cxCx tb21 100000 lb22 = true := by decide +kernel
end Go.Ev
