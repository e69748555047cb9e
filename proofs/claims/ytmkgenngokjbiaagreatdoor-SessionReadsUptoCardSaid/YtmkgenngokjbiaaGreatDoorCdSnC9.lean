/- Calls whose answers are known: a part of them, reckoned. -/
import Derived.Test.YtmkgenngokjbiaaGreatDoorCd15
import Derived.Test.YtmkgenngokjbiaaGreatDoorCd07
set_option linter.all false
set_option maxRecDepth 20000
set_option maxHeartbeats 6400000
namespace Go.Ev
theorem ck65:wH qB tb64 100000 lb65=true:=by decide +kernel
theorem ck66:wH qB tb65 100000 lb66=true:=by decide +kernel
theorem ck67:wH qB tb66 100000 lb67=true:=by decide +kernel
theorem ck68:wH qB tb67 100000 lb68=true:=by decide +kernel
theorem ck69:wH qB tb68 100000 lb69=true:=by decide +kernel
theorem ck70:wH qB tb69 100000 lb70=true:=by decide +kernel
theorem ck71:wH qB tb70 100000 lb71=true:=by decide +kernel
theorem ck72:wH qB tb71 100000 lb72=true:=by decide +kernel
end Go.Ev
