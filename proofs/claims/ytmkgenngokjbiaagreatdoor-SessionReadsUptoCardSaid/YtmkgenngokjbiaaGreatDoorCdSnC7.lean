/- Calls whose answers are known: a part of them, reckoned. -/
import Derived.Test.YtmkgenngokjbiaaGreatDoorCd15
import Derived.Test.YtmkgenngokjbiaaGreatDoorCd07
set_option linter.all false
set_option maxRecDepth 20000
set_option maxHeartbeats 6400000
namespace Go.Ev
theorem ck49:wH qB tb48 100000 lb49=true:=by decide +kernel
theorem ck50:wH qB tb49 100000 lb50=true:=by decide +kernel
theorem ck51:wH qB tb50 100000 lb51=true:=by decide +kernel
theorem ck52:wH qB tb51 100000 lb52=true:=by decide +kernel
theorem ck53:wH qB tb52 100000 lb53=true:=by decide +kernel
theorem ck54:wH qB tb53 100000 lb54=true:=by decide +kernel
theorem ck55:wH qB tb54 100000 lb55=true:=by decide +kernel
theorem ck56:wH qB tb55 100000 lb56=true:=by decide +kernel
end Go.Ev
