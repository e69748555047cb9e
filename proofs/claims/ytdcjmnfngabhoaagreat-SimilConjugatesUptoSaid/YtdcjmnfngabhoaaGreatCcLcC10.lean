/- Calls whose answers are known: a part of them, reckoned. -/
import Derived.Test.YtdcjmnfngabhoaaGreatCc24
import Derived.Test.YtdcjmnfngabhoaaGreatCc08
set_option linter.all false
set_option maxRecDepth 20000
set_option maxHeartbeats 6400000
namespace Go.Ev
theorem ck37:wI qJ tb36 100000 lb37=true:=by decide +kernel
theorem ck38:wI qJ tb37 100000 lb38=true:=by decide +kernel
theorem ck39:wI qJ tb38 100000 lb39=true:=by decide +kernel
theorem ck40:wI qJ tb39 100000 lb40=true:=by decide +kernel
end Go.Ev
