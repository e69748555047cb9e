/- Calls whose answers are known: a part of them, reckoned. -/
import Derived.Test.YtkjhfnhgefbhhaaGreatCf26
import Derived.Test.YtkjhfnhgefbhhaaGreatCf07
set_option linter.all false
set_option maxRecDepth 20000
set_option maxHeartbeats 6400000
namespace Go.Ev
theorem ck13:qA zV tb12 100000 lb13=true:=by decide +kernel
theorem ck14:qA zV tb13 100000 lb14=true:=by decide +kernel
theorem ck15:qA zV tb14 100000 lb15=true:=by decide +kernel
theorem ck16:qA zV tb15 100000 lb16=true:=by decide +kernel
end Go.Ev
