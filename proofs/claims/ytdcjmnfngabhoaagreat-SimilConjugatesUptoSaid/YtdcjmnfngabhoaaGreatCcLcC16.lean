/- Calls whose answers are known: a part of them, reckoned. -/
import Derived.Test.YtdcjmnfngabhoaaGreatCc24
import Derived.Test.YtdcjmnfngabhoaaGreatCc08
set_option linter.all false
set_option maxRecDepth 20000
set_option maxHeartbeats 6400000
namespace Go.Ev
theorem ck61:wI qJ tb60 100000 lb61=true:=by decide +kernel
theorem ck62:wI qJ tb61 100000 lb62=true:=by decide +kernel
theorem ck63:wI qJ tb62 100000 lb63=true:=by decide +kernel
theorem ck64:wI qJ tb63 100000 lb64=true:=by decide +kernel
end Go.Ev
