/- Calls whose answers are known: a part of them, reckoned. -/
import Derived.Test.YtoijfckollafhaaGreatMpA
import Derived.Test.YtoijfckollafhaaGreatEvT
namespace Go.Ev
theorem ck9 : checkAll cxCx tb8 100000 lb9 = true := by decide +kernel
theorem ck10 : checkAll cxCx tb9 100000 lb10 = true := by decide +kernel
end Go.Ev
