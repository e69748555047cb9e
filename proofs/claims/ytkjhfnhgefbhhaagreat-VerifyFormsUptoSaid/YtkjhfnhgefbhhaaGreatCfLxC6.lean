/- Calls whose answers are known: a part of them, reckoned. -/
import Derived.Test.YtkjhfnhgefbhhaaGreatCf26
import Derived.Test.YtkjhfnhgefbhhaaGreatCf07
set_option linter.all false
set_option maxRecDepth 20000
set_option maxHeartbeats 6400000
namespace Go.Ev
theorem ck21:qA zV tb20 100000 lb21=true:=by decide +kernel
theorem ck22:qA zV tb21 100000 lb22=true:=by decide +kernel
theorem ck23:qA zV tb22 100000 lb23=true:=by decide +kernel
theorem ck24:qA zV tb23 100000 lb24=true:=by decide +kernel
end Go.Ev
