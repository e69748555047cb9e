/- Calls whose answers are known: a part of them, reckoned. -/
import Derived.Test.YtkjhfnhgefbhhaaGreatCs03
import Derived.Test.YtkjhfnhgefbhhaaGreatCd07
set_option linter.all false
namespace Go.Ev
theorem ck25:wW zH tb24 100000 lb25=true:=by decide +kernel
theorem ck26:wW zH tb25 100000 lb26=true:=by decide +kernel
theorem ck27:wW zH tb26 100000 lb27=true:=by decide +kernel
theorem ck28:wW zH tb27 100000 lb28=true:=by decide +kernel
end Go.Ev
