/- Calls whose answers are known: a part of them, reckoned. -/
import Derived.Test.YtkjhfnhgefbhhaaGreatCs03
import Derived.Test.YtkjhfnhgefbhhaaGreatCd07
set_option linter.all false
namespace Go.Ev
theorem ck1:wW zH tb0 100000 lb1=true:=by decide +kernel
theorem ck2:wW zH tb1 100000 lb2=true:=by decide +kernel
theorem ck3:wW zH tb2 100000 lb3=true:=by decide +kernel
theorem ck4:wW zH tb3 100000 lb4=true:=by decide +kernel
end Go.Ev
