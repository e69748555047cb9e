/- Calls whose answers are known: a part of them, reckoned. -/
import Derived.Test.YtoijfckollafhaaGreatMpA
import Derived.Test.YtoijfckollafhaaGreatEvT
namespace Go.Ev
theorem ck49 : checkAll cxCx tb48 100000 lb49 = true := by decide +kernel
theorem ck50 : checkAll cxCx tb49 100000 lb50 = true := by decide +kernel
end Go.Ev
