/- Calls whose answers are known: a part of them, reckoned. -/
import Derived.Test.YtkjhfnhgefbhhaaGreatCs03
import Derived.Test.YtkjhfnhgefbhhaaGreatCd07
set_option linter.all false
namespace Go.Ev
theorem ck17:wW zH tb16 100000 lb17=true:=by decide +kernel
theorem ck18:wW zH tb17 100000 lb18=true:=by decide +kernel
theorem ck19:wW zH tb18 100000 lb19=true:=by decide +kernel
theorem ck20:wW zH tb19 100000 lb20=true:=by decide +kernel
end Go.Ev
