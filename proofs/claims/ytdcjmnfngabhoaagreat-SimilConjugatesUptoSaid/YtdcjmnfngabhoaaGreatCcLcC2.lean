/- Calls whose answers are known: a part of them, reckoned. -/
import Derived.Test.YtdcjmnfngabhoaaGreatCc24
import Derived.Test.YtdcjmnfngabhoaaGreatCc08
set_option linter.all false
set_option maxRecDepth 20000
set_option maxHeartbeats 6400000
namespace Go.Ev
theorem ck5:wI qJ tb4 100000 lb5=true:=by decide +kernel
theorem ck6:wI qJ tb5 100000 lb6=true:=by decide +kernel
theorem ck7:wI qJ tb6 100000 lb7=true:=by decide +kernel
theorem ck8:wI qJ tb7 100000 lb8=true:=by decide +kernel
end Go.Ev
