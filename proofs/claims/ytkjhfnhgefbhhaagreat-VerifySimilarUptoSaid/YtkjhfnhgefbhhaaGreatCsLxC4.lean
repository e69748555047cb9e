/- Calls whose answers are known: a part of them, reckoned. -/
import Derived.Test.YtkjhfnhgefbhhaaGreatCs03
import Derived.Test.YtkjhfnhgefbhhaaGreatCd07
set_option linter.all false
namespace Go.Ev
theorem ck13:wW zH tb12 100000 lb13=true:=by decide +kernel
theorem ck14:wW zH tb13 100000 lb14=true:=by decide +kernel
theorem ck15:wW zH tb14 100000 lb15=true:=by decide +kernel
theorem ck16:wW zH tb15 100000 lb16=true:=by decide +kernel
end Go.Ev
