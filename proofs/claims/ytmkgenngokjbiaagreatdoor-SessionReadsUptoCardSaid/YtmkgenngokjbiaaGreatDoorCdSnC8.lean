/- Calls whose answers are known: a part of them, reckoned. -/
import Derived.Test.YtmkgenngokjbiaaGreatDoorCd15
import Derived.Test.YtmkgenngokjbiaaGreatDoorCd07
set_option linter.all false
set_option maxRecDepth 20000
set_option maxHeartbeats 6400000
namespace Go.Ev
theorem ck57:wH qB tb56 100000 lb57=true:=by decide +kernel
theorem ck58:wH qB tb57 100000 lb58=true:=by decide +kernel
theorem ck59:wH qB tb58 100000 lb59=true:=by decide +kernel
theorem ck60:wH qB tb59 100000 lb60=true:=by decide +kernel
theorem ck61:wH qB tb60 100000 lb61=true:=by decide +kernel
theorem ck62:wH qB tb61 100000 lb62=true:=by decide +kernel
theorem ck63:wH qB tb62 100000 lb63=true:=by decide +kernel
theorem ck64:wH qB tb63 100000 lb64=true:=by decide +kernel
end Go.Ev
