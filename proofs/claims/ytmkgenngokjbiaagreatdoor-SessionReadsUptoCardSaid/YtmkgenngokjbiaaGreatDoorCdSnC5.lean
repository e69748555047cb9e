/- Calls whose answers are known: a part of them, reckoned. -/
import Derived.Test.YtmkgenngokjbiaaGreatDoorCd15
import Derived.Test.YtmkgenngokjbiaaGreatDoorCd07
set_option linter.all false
set_option maxRecDepth 20000
set_option maxHeartbeats 6400000
namespace Go.Ev
theorem ck33:wH qB tb32 100000 lb33=true:=by decide +kernel
theorem ck34:wH qB tb33 100000 lb34=true:=by decide +kernel
theorem ck35:wH qB tb34 100000 lb35=true:=by decide +kernel
theorem ck36:wH qB tb35 100000 lb36=true:=by decide +kernel
theorem ck37:wH qB tb36 100000 lb37=true:=by decide +kernel
theorem ck38:wH qB tb37 100000 lb38=true:=by decide +kernel
theorem ck39:wH qB tb38 100000 lb39=true:=by decide +kernel
theorem ck40:wH qB tb39 100000 lb40=true:=by decide +kernel
end Go.Ev
