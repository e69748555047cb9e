/- Calls whose answers are known: a part of them, reckoned. -/
import Derived.Test.YtoijfckollafhaaGreatMpA
import Derived.Test.YtoijfckollafhaaGreatEvT
namespace Go.Ev
theorem ck27 : checkAll cxCx tb26 100000 lb27 = true := by decide +kernel
theorem ck28 : checkAll cxCx tb27 100000 lb28 = true := by decide +kernel
end Go.Ev
