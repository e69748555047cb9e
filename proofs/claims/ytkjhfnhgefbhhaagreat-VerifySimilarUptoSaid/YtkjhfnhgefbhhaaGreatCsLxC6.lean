/- Calls whose answers are known: a part of them, reckoned. -/
import Derived.Test.YtkjhfnhgefbhhaaGreatCs03
import Derived.Test.YtkjhfnhgefbhhaaGreatCd07
set_option linter.all false
namespace Go.Ev
theorem ck21:wW zH tb20 100000 lb21=true:=by decide +kernel
theorem ck22:wW zH tb21 100000 lb22=true:=by decide +kernel
theorem ck23:wW zH tb22 100000 lb23=true:=by decide +kernel
theorem ck24:wW zH tb23 100000 lb24=true:=by decide +kernel
end Go.Ev
