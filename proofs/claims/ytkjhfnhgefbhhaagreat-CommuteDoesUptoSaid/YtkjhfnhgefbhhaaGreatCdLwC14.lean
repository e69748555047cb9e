/- Calls whose answers are known: a part of them, reckoned. -/
import Derived.Test.YtkjhfnhgefbhhaaGreatCd23
import Derived.Test.YtkjhfnhgefbhhaaGreatCd07
set_option linter.all false
namespace Go.Ev
theorem ck53:wW zH tb52 100000 lb53=true:=by decide +kernel
theorem ck54:wW zH tb53 100000 lb54=true:=by decide +kernel
theorem ck55:wW zH tb54 100000 lb55=true:=by decide +kernel
theorem ck56:wW zH tb55 100000 lb56=true:=by decide +kernel
end Go.Ev
