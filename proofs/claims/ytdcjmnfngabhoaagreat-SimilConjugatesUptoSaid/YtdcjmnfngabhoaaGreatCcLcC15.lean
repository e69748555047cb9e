/- Calls whose answers are known: a part of them, reckoned. -/
import Derived.Test.YtdcjmnfngabhoaaGreatCc24
import Derived.Test.YtdcjmnfngabhoaaGreatCc08
set_option linter.all false
set_option maxRecDepth 20000
set_option maxHeartbeats 6400000
namespace Go.Ev
theorem ck57:wI qJ tb56 100000 lb57=true:=by decide +kernel
theorem ck58:wI qJ tb57 100000 lb58=true:=by decide +kernel
theorem ck59:wI qJ tb58 100000 lb59=true:=by decide +kernel
theorem ck60:wI qJ tb59 100000 lb60=true:=by decide +kernel
end Go.Ev
