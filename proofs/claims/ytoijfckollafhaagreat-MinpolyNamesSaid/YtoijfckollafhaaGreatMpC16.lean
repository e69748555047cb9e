/- Calls whose answers are known: a part of them, reckoned. -/
import Derived.Test.YtoijfckollafhaaGreatMpA
import Derived.Test.YtoijfckollafhaaGreatEvT
namespace Go.Ev
theorem ck31 : checkAll cxCx tb30 100000 lb31 = true := by decide +kernel
theorem ck32 : checkAll cxCx tb31 100000 lb32 = true := by decide +kernel
end Go.Ev
