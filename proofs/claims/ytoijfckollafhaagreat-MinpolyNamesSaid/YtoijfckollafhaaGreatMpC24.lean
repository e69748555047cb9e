/- Calls whose answers are known: a part of them, reckoned. -/
import Derived.Test.YtoijfckollafhaaGreatMpA
import Derived.Test.YtoijfckollafhaaGreatEvT
namespace Go.Ev
theorem ck47 : checkAll cxCx tb46 100000 lb47 = true := by decide +kernel
theorem ck48 : checkAll cxCx tb47 100000 lb48 = true := by decide +kernel
end Go.Ev
