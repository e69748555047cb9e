/- Calls whose answers are known: a part of them, reckoned. -/
import Derived.Test.YtkjhfnhgefbhhaaGreatCd23
import Derived.Test.YtkjhfnhgefbhhaaGreatCd07
set_option linter.all false
namespace Go.Ev
theorem ck57:wW zH tb56 100000 lb57=true:=by decide +kernel
theorem ck58:wW zH tb57 100000 lb58=true:=by decide +kernel
theorem ck59:wW zH tb58 100000 lb59=true:=by decide +kernel
theorem ck60:wW zH tb59 100000 lb60=true:=by decide +kernel
end Go.Ev
