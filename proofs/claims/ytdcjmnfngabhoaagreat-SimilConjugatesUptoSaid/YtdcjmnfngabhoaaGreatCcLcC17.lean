/- Calls whose answers are known: a part of them, reckoned. -/
import Derived.Test.YtdcjmnfngabhoaaGreatCc24
import Derived.Test.YtdcjmnfngabhoaaGreatCc08
set_option linter.all false
set_option maxRecDepth 20000
set_option maxHeartbeats 6400000
namespace Go.Ev
theorem ck65:wI qJ tb64 100000 lb65=true:=by decide +kernel
theorem ck66:wI qJ tb65 100000 lb66=true:=by decide +kernel
theorem ck67:wI qJ tb66 100000 lb67=true:=by decide +kernel
theorem ck68:wI qJ tb67 100000 lb68=true:=by decide +kernel
end Go.Ev
