/- Calls whose answers are known: a part of them, reckoned. -/
import Derived.Test.YtkjhfnhgefbhhaaGreatCs03
import Derived.Test.YtkjhfnhgefbhhaaGreatCd07
set_option linter.all false
namespace Go.Ev
theorem ck9:wW zH tb8 100000 lb9=true:=by decide +kernel
theorem ck10:wW zH tb9 100000 lb10=true:=by decide +kernel
theorem ck11:wW zH tb10 100000 lb11=true:=by decide +kernel
theorem ck12:wW zH tb11 100000 lb12=true:=by decide +kernel
end Go.Ev
