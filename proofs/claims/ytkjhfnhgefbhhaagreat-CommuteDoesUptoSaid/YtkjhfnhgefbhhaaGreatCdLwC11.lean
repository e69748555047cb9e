/- Calls whose answers are known: a part of them, reckoned. -/
import Derived.Test.YtkjhfnhgefbhhaaGreatCd23
import Derived.Test.YtkjhfnhgefbhhaaGreatCd07
set_option linter.all false
namespace Go.Ev
theorem ck41:wW zH tb40 100000 lb41=true:=by decide +kernel
theorem ck42:wW zH tb41 100000 lb42=true:=by decide +kernel
theorem ck43:wW zH tb42 100000 lb43=true:=by decide +kernel
theorem ck44:wW zH tb43 100000 lb44=true:=by decide +kernel
end Go.Ev
