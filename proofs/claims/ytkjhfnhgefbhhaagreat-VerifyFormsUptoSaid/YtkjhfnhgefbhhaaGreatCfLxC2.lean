/- Calls whose answers are known: a part of them, reckoned. -/
import Derived.Test.YtkjhfnhgefbhhaaGreatCf26
import Derived.Test.YtkjhfnhgefbhhaaGreatCf07
set_option linter.all false
set_option maxRecDepth 20000
set_option maxHeartbeats 6400000
namespace Go.Ev
theorem ck5:qA zV tb4 100000 lb5=true:=by decide +kernel
theorem ck6:qA zV tb5 100000 lb6=true:=by decide +kernel
theorem ck7:qA zV tb6 100000 lb7=true:=by decide +kernel
theorem ck8:qA zV tb7 100000 lb8=true:=by decide +kernel
end Go.Ev
