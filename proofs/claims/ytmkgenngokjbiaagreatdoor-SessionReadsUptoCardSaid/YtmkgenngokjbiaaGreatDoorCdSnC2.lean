/- Calls whose answers are known: a part of them, reckoned. -/
import Derived.Test.YtmkgenngokjbiaaGreatDoorCd15
import Derived.Test.YtmkgenngokjbiaaGreatDoorCd07
set_option linter.all false
set_option maxRecDepth 20000
set_option maxHeartbeats 6400000
namespace Go.Ev
theorem ck9:wH qB tb8 100000 lb9=true:=by decide +kernel
theorem ck10:wH qB tb9 100000 lb10=true:=by decide +kernel
theorem ck11:wH qB tb10 100000 lb11=true:=by decide +kernel
theorem ck12:wH qB tb11 100000 lb12=true:=by decide +kernel
theorem ck13:wH qB tb12 100000 lb13=true:=by decide +kernel
theorem ck14:wH qB tb13 100000 lb14=true:=by decide +kernel
theorem ck15:wH qB tb14 100000 lb15=true:=by decide +kernel
theorem ck16:wH qB tb15 100000 lb16=true:=by decide +kernel
end Go.Ev
