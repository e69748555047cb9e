/- Calls whose answers are known: a part of them, reckoned. -/
import Derived.Test.YtmkgenngokjbiaaGreatDoorCd15
import Derived.Test.YtmkgenngokjbiaaGreatDoorCd07
set_option linter.all false
set_option maxRecDepth 20000
set_option maxHeartbeats 6400000
namespace Go.Ev
theorem ck73:wH qB tb72 100000 lb73=true:=by decide +kernel
theorem ck74:wH qB tb73 100000 lb74=true:=by decide +kernel
theorem ck75:wH qB tb74 100000 lb75=true:=by decide +kernel
theorem ck76:wH qB tb75 100000 lb76=true:=by decide +kernel
theorem ck77:wH qB tb76 100000 lb77=true:=by decide +kernel
theorem ck78:wH qB tb77 100000 lb78=true:=by decide +kernel
theorem ck79:wH qB tb78 100000 lb79=true:=by decide +kernel
theorem ck80:wH qB tb79 100000 lb80=true:=by decide +kernel
end Go.Ev
