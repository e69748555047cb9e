/- Calls whose answers are known: a part of them, reckoned. -/
import Derived.Test.YtkjhfnhgefbhhaaGreatCd23
import Derived.Test.YtkjhfnhgefbhhaaGreatCd07
set_option linter.all false
namespace Go.Ev
theorem ck61:wW zH tb60 100000 lb61=true:=by decide +kernel
theorem ck62:wW zH tb61 100000 lb62=true:=by decide +kernel
theorem ck63:wW zH tb62 100000 lb63=true:=by decide +kernel
end Go.Ev
