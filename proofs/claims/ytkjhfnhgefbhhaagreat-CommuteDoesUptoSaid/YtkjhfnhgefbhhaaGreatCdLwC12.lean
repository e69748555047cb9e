/- Calls whose answers are known: a part of them, reckoned. -/
import Derived.Test.YtkjhfnhgefbhhaaGreatCd23
import Derived.Test.YtkjhfnhgefbhhaaGreatCd07
set_option linter.all false
namespace Go.Ev
theorem ck45:wW zH tb44 100000 lb45=true:=by decide +kernel
theorem ck46:wW zH tb45 100000 lb46=true:=by decide +kernel
theorem ck47:wW zH tb46 100000 lb47=true:=by decide +kernel
theorem ck48:wW zH tb47 100000 lb48=true:=by decide +kernel
end Go.Ev
