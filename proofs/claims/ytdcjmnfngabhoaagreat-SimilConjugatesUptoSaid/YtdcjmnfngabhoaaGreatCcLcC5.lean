/- Calls whose answers are known: a part of them, reckoned. -/
import Derived.Test.YtdcjmnfngabhoaaGreatCc24
import Derived.Test.YtdcjmnfngabhoaaGreatCc08
set_option linter.all false
set_option maxRecDepth 20000
set_option maxHeartbeats 6400000
namespace Go.Ev
theorem ck17:wI qJ tb16 100000 lb17=true:=by decide +kernel
theorem ck18:wI qJ tb17 100000 lb18=true:=by decide +kernel
theorem ck19:wI qJ tb18 100000 lb19=true:=by decide +kernel
theorem ck20:wI qJ tb19 100000 lb20=true:=by decide +kernel
end Go.Ev
