/- Calls whose answers are known: a part of them, reckoned. -/
import Derived.Test.YtdcjmnfngabhoaaGreatCc24
import Derived.Test.YtdcjmnfngabhoaaGreatCc08
set_option linter.all false
set_option maxRecDepth 20000
set_option maxHeartbeats 6400000
namespace Go.Ev
theorem ck45:wI qJ tb44 100000 lb45=true:=by decide +kernel
theorem ck46:wI qJ tb45 100000 lb46=true:=by decide +kernel
theorem ck47:wI qJ tb46 100000 lb47=true:=by decide +kernel
theorem ck48:wI qJ tb47 100000 lb48=true:=by decide +kernel
end Go.Ev
