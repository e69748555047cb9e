/- Calls whose answers are known: a part of them, reckoned. -/
import Derived.Test.YtmkgenngokjbiaaGreatDoorCd15
import Derived.Test.YtmkgenngokjbiaaGreatDoorCd07
set_option linter.all false
set_option maxRecDepth 20000
set_option maxHeartbeats 6400000
namespace Go.Ev
theorem ck25:wH qB tb24 100000 lb25=true:=by decide +kernel
theorem ck26:wH qB tb25 100000 lb26=true:=by decide +kernel
theorem ck27:wH qB tb26 100000 lb27=true:=by decide +kernel
theorem ck28:wH qB tb27 100000 lb28=true:=by decide +kernel
theorem ck29:wH qB tb28 100000 lb29=true:=by decide +kernel
theorem ck30:wH qB tb29 100000 lb30=true:=by decide +kernel
theorem ck31:wH qB tb30 100000 lb31=true:=by decide +kernel
theorem ck32:wH qB tb31 100000 lb32=true:=by decide +kernel
end Go.Ev
