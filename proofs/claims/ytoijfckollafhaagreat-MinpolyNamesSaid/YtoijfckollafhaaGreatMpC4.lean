/- Calls whose answers are known: a part of them, reckoned. -/
import Derived.Test.YtoijfckollafhaaGreatMpA
import Derived.Test.YtoijfckollafhaaGreatEvT
namespace Go.Ev
theorem ck7 : checkAll cxCx tb6 100000 lb7 = true := by decide +kernel
theorem ck8 : checkAll cxCx tb7 100000 lb8 = true := by decide +kernel
end Go.Ev
