/- Calls whose answers are known: a part of them, reckoned. -/
import Derived.Test.YtoijfckollafhaaGreatMpA
import Derived.Test.YtoijfckollafhaaGreatEvT
namespace Go.Ev
theorem ck45 : checkAll cxCx tb44 100000 lb45 = true := by decide +kernel
theorem ck46 : checkAll cxCx tb45 100000 lb46 = true := by decide +kernel
end Go.Ev
