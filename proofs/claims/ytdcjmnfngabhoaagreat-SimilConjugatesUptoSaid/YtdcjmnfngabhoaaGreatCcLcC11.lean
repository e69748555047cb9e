/- Calls whose answers are known: a part of them, reckoned. -/
import Derived.Test.YtdcjmnfngabhoaaGreatCc24
import Derived.Test.YtdcjmnfngabhoaaGreatCc08
set_option linter.all false
set_option maxRecDepth 20000
set_option maxHeartbeats 6400000
namespace Go.Ev
theorem ck41:wI qJ tb40 100000 lb41=true:=by decide +kernel
theorem ck42:wI qJ tb41 100000 lb42=true:=by decide +kernel
theorem ck43:wI qJ tb42 100000 lb43=true:=by decide +kernel
theorem ck44:wI qJ tb43 100000 lb44=true:=by decide +kernel
end Go.Ev
