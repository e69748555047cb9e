/- Calls whose answers are known: a part of them, reckoned. -/
import Derived.Test.YtkjhfnhgefbhhaaGreatCs03
import Derived.Test.YtkjhfnhgefbhhaaGreatCd07
set_option linter.all false
namespace Go.Ev
theorem ck5:wW zH tb4 100000 lb5=true:=by decide +kernel
theorem ck6:wW zH tb5 100000 lb6=true:=by decide +kernel
theorem ck7:wW zH tb6 100000 lb7=true:=by decide +kernel
theorem ck8:wW zH tb7 100000 lb8=true:=by decide +kernel
end Go.Ev
