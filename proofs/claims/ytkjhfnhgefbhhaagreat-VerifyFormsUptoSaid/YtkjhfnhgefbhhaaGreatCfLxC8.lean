/- Calls whose answers are known: a part of them, reckoned. -/
import Derived.Test.YtkjhfnhgefbhhaaGreatCf26
import Derived.Test.YtkjhfnhgefbhhaaGreatCf07
set_option linter.all false
set_option maxRecDepth 20000
set_option maxHeartbeats 6400000
namespace Go.Ev
theorem ck29:qA zV tb28 100000 lb29=true:=by decide +kernel
theorem ck30:qA zV tb29 100000 lb30=true:=by decide +kernel
theorem ck31:qA zV tb30 100000 lb31=true:=by decide +kernel
end Go.Ev
