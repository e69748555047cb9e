/- Calls whose answers are known: a part of them, reckoned. -/
import Derived.Test.YtdcjmnfngabhoaaGreatCc24
import Derived.Test.YtdcjmnfngabhoaaGreatCc08
set_option linter.all false
set_option maxRecDepth 20000
set_option maxHeartbeats 6400000
namespace Go.Ev
theorem ck13:wI qJ tb12 100000 lb13=true:=by decide +kernel
theorem ck14:wI qJ tb13 100000 lb14=true:=by decide +kernel
theorem ck15:wI qJ tb14 100000 lb15=true:=by decide +kernel
theorem ck16:wI qJ tb15 100000 lb16=true:=by decide +kernel
end Go.Ev
