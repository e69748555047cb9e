/- Calls whose answers are known: a part of them, reckoned. -/
import Derived.Test.YtdcjmnfngabhoaaGreatCc24
import Derived.Test.YtdcjmnfngabhoaaGreatCc08
set_option linter.all false
set_option maxRecDepth 20000
set_option maxHeartbeats 6400000
namespace Go.Ev
theorem ck1:wI qJ tb0 100000 lb1=true:=by decide +kernel
theorem ck2:wI qJ tb1 100000 lb2=true:=by decide +kernel
theorem ck3:wI qJ tb2 100000 lb3=true:=by decide +kernel
theorem ck4:wI qJ tb3 100000 lb4=true:=by decide +kernel
end Go.Ev
