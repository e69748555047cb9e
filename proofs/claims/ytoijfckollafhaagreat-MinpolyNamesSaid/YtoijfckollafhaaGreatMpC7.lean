/- Calls whose answers are known: a part of them, reckoned. -/
import Derived.Test.YtoijfckollafhaaGreatMpA
import Derived.Test.YtoijfckollafhaaGreatEvT
namespace Go.Ev
theorem ck13 : checkAll cxCx tb12 100000 lb13 = true := by decide +kernel
theorem ck14 : checkAll cxCx tb13 100000 lb14 = true := by decide +kernel
end Go.Ev
