/- Calls whose answers are known: a part of them, reckoned. -/
import Derived.Test.YtdcjmnfngabhoaaGreatCc24
import Derived.Test.YtdcjmnfngabhoaaGreatCc08
set_option linter.all false
set_option maxRecDepth 20000
set_option maxHeartbeats 6400000
namespace Go.Ev
theorem ck21:wI qJ tb20 100000 lb21=true:=by decide +kernel
theorem ck22:wI qJ tb21 100000 lb22=true:=by decide +kernel
theorem ck23:wI qJ tb22 100000 lb23=true:=by decide +kernel
theorem ck24:wI qJ tb23 100000 lb24=true:=by decide +kernel
end Go.Ev
