/- Calls whose answers are known: a part of them, reckoned. -/
import Derived.Test.YtoijfckollafhaaGreatMpA
import Derived.Test.YtoijfckollafhaaGreatEvT
namespace Go.Ev
theorem ck43 : checkAll cxCx tb42 100000 lb43 = true := by decide +kernel
theorem ck44 : checkAll cxCx tb43 100000 lb44 = true := by decide +kernel
end Go.Ev
