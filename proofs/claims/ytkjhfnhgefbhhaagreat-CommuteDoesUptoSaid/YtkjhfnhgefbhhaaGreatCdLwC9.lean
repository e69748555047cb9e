/- Calls whose answers are known: a part of them, reckoned. -/
import Derived.Test.YtkjhfnhgefbhhaaGreatCd23
import Derived.Test.YtkjhfnhgefbhhaaGreatCd07
set_option linter.all false
namespace Go.Ev
theorem ck33:wW zH tb32 100000 lb33=true:=by decide +kernel
theorem ck34:wW zH tb33 100000 lb34=true:=by decide +kernel
theorem ck35:wW zH tb34 100000 lb35=true:=by decide +kernel
theorem ck36:wW zH tb35 100000 lb36=true:=by decide +kernel
end Go.Ev
