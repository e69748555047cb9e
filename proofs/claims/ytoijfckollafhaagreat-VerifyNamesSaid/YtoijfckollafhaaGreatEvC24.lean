/- Calls whose answers are known: a part of them, reckoned. -/
import Derived.Test.YtoijfckollafhaaGreatEvA
import Derived.Test.YtoijfckollafhaaGreatEvT
namespace Go.Ev
theorem ck24 : checkAll cxCx tb23 100000 lb24 = true := by decide +kernel
end Go.Ev
