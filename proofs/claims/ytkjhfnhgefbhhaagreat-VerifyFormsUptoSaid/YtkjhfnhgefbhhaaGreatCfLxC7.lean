/- Calls whose answers are known: a part of them, reckoned. -/
import Derived.Test.YtkjhfnhgefbhhaaGreatCf26
import Derived.Test.YtkjhfnhgefbhhaaGreatCf07
set_option linter.all false
set_option maxRecDepth 20000
set_option maxHeartbeats 6400000
namespace Go.Ev
theorem ck25:qA zV tb24 100000 lb25=true:=by decide +kernel
theorem ck26:qA zV tb25 100000 lb26=true:=by decide +kernel
theorem ck27:qA zV tb26 100000 lb27=true:=by decide +kernel
theorem ck28:qA zV tb27 100000 lb28=true:=by decide +kernel
end Go.Ev
