/- Calls whose answers are known: a part of them, reckoned. -/
import Derived.Test.YtdcjmnfngabhoaaGreatCc24
import Derived.Test.YtdcjmnfngabhoaaGreatCc08
set_option linter.all false
set_option maxRecDepth 20000
set_option maxHeartbeats 6400000
namespace Go.Ev
theorem ck9:wI qJ tb8 100000 lb9=true:=by decide +kernel
theorem ck10:wI qJ tb9 100000 lb10=true:=by decide +kernel
theorem ck11:wI qJ tb10 100000 lb11=true:=by decide +kernel
theorem ck12:wI qJ tb11 100000 lb12=true:=by decide +kernel
end Go.Ev
