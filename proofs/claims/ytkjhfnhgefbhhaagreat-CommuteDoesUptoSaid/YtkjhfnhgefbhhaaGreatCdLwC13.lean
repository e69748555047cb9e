/- Calls whose answers are known: a part of them, reckoned. -/
import Derived.Test.YtkjhfnhgefbhhaaGreatCd23
import Derived.Test.YtkjhfnhgefbhhaaGreatCd07
set_option linter.all false
namespace Go.Ev
theorem ck49:wW zH tb48 100000 lb49=true:=by decide +kernel
theorem ck50:wW zH tb49 100000 lb50=true:=by decide +kernel
theorem ck51:wW zH tb50 100000 lb51=true:=by decide +kernel
theorem ck52:wW zH tb51 100000 lb52=true:=by decide +kernel
end Go.Ev
