/- Calls whose answers are known: a part of them, reckoned. -/
import Derived.Test.YtdcjmnfngabhoaaGreatCc24
import Derived.Test.YtdcjmnfngabhoaaGreatCc08
set_option linter.all false
set_option maxRecDepth 20000
set_option maxHeartbeats 6400000
namespace Go.Ev
theorem ck29:wI qJ tb28 100000 lb29=true:=by decide +kernel
theorem ck30:wI qJ tb29 100000 lb30=true:=by decide +kernel
theorem ck31:wI qJ tb30 100000 lb31=true:=by decide +kernel
theorem ck32:wI qJ tb31 100000 lb32=true:=by decide +kernel
end Go.Ev
