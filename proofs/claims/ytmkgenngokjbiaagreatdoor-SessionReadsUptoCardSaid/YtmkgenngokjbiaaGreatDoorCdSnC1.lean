/- Calls whose answers are known: a part of them, reckoned. -/
import Derived.Test.YtmkgenngokjbiaaGreatDoorCd15
import Derived.Test.YtmkgenngokjbiaaGreatDoorCd07
set_option linter.all false
set_option maxRecDepth 20000
set_option maxHeartbeats 6400000
namespace Go.Ev
theorem ck1:wH qB tb0 100000 lb1=true:=by decide +kernel
theorem ck2:wH qB tb1 100000 lb2=true:=by decide +kernel
theorem ck3:wH qB tb2 100000 lb3=true:=by decide +kernel
theorem ck4:wH qB tb3 100000 lb4=true:=by decide +kernel
theorem ck5:wH qB tb4 100000 lb5=true:=by decide +kernel
theorem ck6:wH qB tb5 100000 lb6=true:=by decide +kernel
theorem ck7:wH qB tb6 100000 lb7=true:=by decide +kernel
theorem ck8:wH qB tb7 100000 lb8=true:=by decide +kernel
end Go.Ev
