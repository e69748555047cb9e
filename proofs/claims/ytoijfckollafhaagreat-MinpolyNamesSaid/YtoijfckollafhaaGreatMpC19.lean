/- Calls whose answers are known: a part of them, reckoned. -/
import Derived.Test.YtoijfckollafhaaGreatMpA
import Derived.Test.YtoijfckollafhaaGreatEvT
namespace Go.Ev
theorem ck37 : checkAll cxCx tb36 100000 lb37 = true := by decide +kernel
theorem ck38 : checkAll cxCx tb37 100000 lb38 = true := by decide +kernel
end Go.Ev
