/- Calls whose answers are known: a part of them, reckoned. -/
import Derived.Test.YtdcjmnfngabhoaaGreatCc24
import Derived.Test.YtdcjmnfngabhoaaGreatCc08
set_option linter.all false
set_option maxRecDepth 20000
set_option maxHeartbeats 6400000
namespace Go.Ev
theorem ck25:wI qJ tb24 100000 lb25=true:=by decide +kernel
theorem ck26:wI qJ tb25 100000 lb26=true:=by decide +kernel
theorem ck27:wI qJ tb26 100000 lb27=true:=by decide +kernel
theorem ck28:wI qJ tb27 100000 lb28=true:=by decide +kernel
end Go.Ev
