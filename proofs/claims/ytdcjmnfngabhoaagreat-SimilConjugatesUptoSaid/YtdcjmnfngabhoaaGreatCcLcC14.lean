/- Calls whose answers are known: a part of them, reckoned. -/
import Derived.Test.YtdcjmnfngabhoaaGreatCc24
import Derived.Test.YtdcjmnfngabhoaaGreatCc08
set_option linter.all false
set_option maxRecDepth 20000
set_option maxHeartbeats 6400000
namespace Go.Ev
theorem ck53:wI qJ tb52 100000 lb53=true:=by decide +kernel
theorem ck54:wI qJ tb53 100000 lb54=true:=by decide +kernel
theorem ck55:wI qJ tb54 100000 lb55=true:=by decide +kernel
theorem ck56:wI qJ tb55 100000 lb56=true:=by decide +kernel
end Go.Ev
