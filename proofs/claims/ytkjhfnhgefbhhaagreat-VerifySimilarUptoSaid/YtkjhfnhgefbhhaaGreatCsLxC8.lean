/- Calls whose answers are known: a part of them, reckoned. -/
import Derived.Test.YtkjhfnhgefbhhaaGreatCs03
import Derived.Test.YtkjhfnhgefbhhaaGreatCd07
set_option linter.all false
namespace Go.Ev
theorem ck29:wW zH tb28 100000 lb29=true:=by decide +kernel
theorem ck30:wW zH tb29 100000 lb30=true:=by decide +kernel
theorem ck31:wW zH tb30 100000 lb31=true:=by decide +kernel
end Go.Ev
