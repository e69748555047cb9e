/- Calls whose answers are known: a part of them, reckoned. -/
import Derived.Test.YtmkgenngokjbiaaGreatDoorCd15
import Derived.Test.YtmkgenngokjbiaaGreatDoorCd07
set_option linter.all false
set_option maxRecDepth 20000
set_option maxHeartbeats 6400000
namespace Go.Ev
theorem ck41:wH qB tb40 100000 lb41=true:=by decide +kernel
theorem ck42:wH qB tb41 100000 lb42=true:=by decide +kernel
theorem ck43:wH qB tb42 100000 lb43=true:=by decide +kernel
theorem ck44:wH qB tb43 100000 lb44=true:=by decide +kernel
theorem ck45:wH qB tb44 100000 lb45=true:=by decide +kernel
theorem ck46:wH qB tb45 100000 lb46=true:=by decide +kernel
theorem ck47:wH qB tb46 100000 lb47=true:=by decide +kernel
theorem ck48:wH qB tb47 100000 lb48=true:=by decide +kernel
end Go.Ev
