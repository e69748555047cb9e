/- Calls whose answers are known: a part of them, reckoned. -/
import Derived.Test.YtoijfckollafhaaGreatMpA
import Derived.Test.YtoijfckollafhaaGreatEvT
namespace Go.Ev
theorem ck3 : checkAll cxCx tb2 100000 lb3 = true := by decide +kernel
theorem ck4 : checkAll cxCx tb3 100000 lb4 = true := by decide +kernel
end Go.Ev
