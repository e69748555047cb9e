/- Calls whose answers are known: a part of them, reckoned. -/
import Derived.Test.YtoijfckollafhaaGreatEvA
import Derived.Test.YtoijfckollafhaaGreatEvT
namespace Go.Ev
theorem ck19 : checkAll cxCx tb18 100000 lb19 = true := by decide +kernel
end Go.Ev
