/- Calls whose answers are known: a part of them, reckoned. -/
import Derived.Test.YtoijfckollafhaaGreatSmA
import Derived.Test.YtoijfckollafhaaGreatEvUT
namespace Go.Ev
theorem ck29 : checkAll cxCx tb28 100000 lb29 = true := by decide +kernel
theorem ck30 : checkAll cxCx tb29 100000 lb30 = true := by decide +kernel
theorem ck31 : checkAll cxCx tb30 100000 lb31 = true := by decide +kernel
theorem ck32 : checkAll cxCx tb31 100000 lb32 = true := by decide +kernel
end Go.Ev
