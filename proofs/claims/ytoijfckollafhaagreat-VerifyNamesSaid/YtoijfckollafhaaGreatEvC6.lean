/- Calls whose answers are known: a part of them, reckoned. -/
import Derived.Test.YtoijfckollafhaaGreatEvA
import Derived.Test.YtoijfckollafhaaGreatEvT
namespace Go.Ev
theorem ck6 : checkAll cxCx tb5 100000 lb6 = true := by decide +kernel
end Go.Ev
