/- Calls whose answers are known: a part of them, reckoned. -/
import Derived.Test.YtmkgenngokjbiaaGreatDoorCd15
import Derived.Test.YtmkgenngokjbiaaGreatDoorCd07
set_option linter.all false
set_option maxRecDepth 20000
set_option maxHeartbeats 6400000
namespace Go.Ev
theorem ck17:wH qB tb16 100000 lb17=true:=by decide +kernel
theorem ck18:wH qB tb17 100000 lb18=true:=by decide +kernel
theorem ck19:wH qB tb18 100000 lb19=true:=by decide +kernel
theorem ck20:wH qB tb19 100000 lb20=true:=by decide +kernel
theorem ck21:wH qB tb20 100000 lb21=true:=by decide +kernel
theorem ck22:wH qB tb21 100000 lb22=true:=by decide +kernel
theorem ck23:wH qB tb22 100000 lb23=true:=by decide +kernel
theorem ck24:wH qB tb23 100000 lb24=true:=by decide +kernel
end Go.Ev
