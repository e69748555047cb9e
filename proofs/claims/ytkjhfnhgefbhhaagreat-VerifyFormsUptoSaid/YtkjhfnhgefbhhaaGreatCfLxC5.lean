/- Calls whose answers are known: a part of them, reckoned. -/
import Derived.Test.YtkjhfnhgefbhhaaGreatCf26
import Derived.Test.YtkjhfnhgefbhhaaGreatCf07
set_option linter.all false
set_option maxRecDepth 20000
set_option maxHeartbeats 6400000
namespace Go.Ev
theorem ck17:qA zV tb16 100000 lb17=true:=by decide +kernel
theorem ck18:qA zV tb17 100000 lb18=true:=by decide +kernel
theorem ck19:qA zV tb18 100000 lb19=true:=by decide +kernel
theorem ck20:qA zV tb19 100000 lb20=true:=by decide +kernel
end Go.Ev
