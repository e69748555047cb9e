/- Calls whose answers are known: a part of them, reckoned. -/
import Derived.Test.YtdcjmnfngabhoaaGreatCc24
import Derived.Test.YtdcjmnfngabhoaaGreatCc08
set_option linter.all false
set_option maxRecDepth 20000
set_option maxHeartbeats 6400000
namespace Go.Ev
theorem ck33:wI qJ tb32 100000 lb33=true:=by decide +kernel
theorem ck34:wI qJ tb33 100000 lb34=true:=by decide +kernel
theorem ck35:wI qJ tb34 100000 lb35=true:=by decide +kernel
theorem ck36:wI qJ tb35 100000 lb36=true:=by decide +kernel
end Go.Ev
