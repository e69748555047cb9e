/- Calls whose answers are known: a part of them, reckoned. -/
import Derived.Test.YtoijfckollafhaaGreatMpA
import Derived.Test.YtoijfckollafhaaGreatEvT
namespace Go.Ev
theorem ck25 : checkAll cxCx tb24 100000 lb25 = true := by decide +kernel
theorem ck26 : checkAll cxCx tb25 100000 lb26 = true := by decide +kernel
end Go.Ev
