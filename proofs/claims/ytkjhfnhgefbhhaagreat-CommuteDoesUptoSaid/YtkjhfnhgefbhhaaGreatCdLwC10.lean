/- Calls whose answers are known: a part of them, reckoned. -/
import Derived.Test.YtkjhfnhgefbhhaaGreatCd23
import Derived.Test.YtkjhfnhgefbhhaaGreatCd07
set_option linter.all false
namespace Go.Ev
theorem ck37:wW zH tb36 100000 lb37=true:=by decide +kernel
theorem ck38:wW zH tb37 100000 lb38=true:=by decide +kernel
theorem ck39:wW zH tb38 100000 lb39=true:=by decide +kernel
theorem ck40:wW zH tb39 100000 lb40=true:=by decide +kernel
end Go.Ev
