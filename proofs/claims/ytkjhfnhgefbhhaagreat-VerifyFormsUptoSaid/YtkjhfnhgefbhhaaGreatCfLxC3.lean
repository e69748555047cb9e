/- Calls whose answers are known: a part of them, reckoned. -/
import Derived.Test.YtkjhfnhgefbhhaaGreatCf26
import Derived.Test.YtkjhfnhgefbhhaaGreatCf07
set_option linter.all false
set_option maxRecDepth 20000
set_option maxHeartbeats 6400000
namespace Go.Ev
theorem ck9:qA zV tb8 100000 lb9=true:=by decide +kernel
theorem ck10:qA zV tb9 100000 lb10=true:=by decide +kernel
theorem ck11:qA zV tb10 100000 lb11=true:=by decide +kernel
theorem ck12:qA zV tb11 100000 lb12=true:=by decide +kernel
end Go.Ev
