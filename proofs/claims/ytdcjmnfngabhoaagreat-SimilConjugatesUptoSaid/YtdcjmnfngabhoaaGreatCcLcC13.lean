/- Calls whose answers are known: a part of them, reckoned. -/
import Derived.Test.YtdcjmnfngabhoaaGreatCc24
import Derived.Test.YtdcjmnfngabhoaaGreatCc08
set_option linter.all false
set_option maxRecDepth 20000
set_option maxHeartbeats 6400000
namespace Go.Ev
theorem ck49:wI qJ tb48 100000 lb49=true:=by decide +kernel
theorem ck50:wI qJ tb49 100000 lb50=true:=by decide +kernel
theorem ck51:wI qJ tb50 100000 lb51=true:=by decide +kernel
theorem ck52:wI qJ tb51 100000 lb52=true:=by decide +kernel
end Go.Ev
