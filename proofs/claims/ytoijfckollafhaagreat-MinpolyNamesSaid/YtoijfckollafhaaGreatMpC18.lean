/- Calls whose answers are known: a part of them, reckoned. -/
import Derived.Test.YtoijfckollafhaaGreatMpA
import Derived.Test.YtoijfckollafhaaGreatEvT
namespace Go.Ev
theorem ck35 : checkAll cxCx tb34 100000 lb35 = true := by decide +kernel
theorem ck36 : checkAll cxCx tb35 100000 lb36 = true := by decide +kernel
end Go.Ev
