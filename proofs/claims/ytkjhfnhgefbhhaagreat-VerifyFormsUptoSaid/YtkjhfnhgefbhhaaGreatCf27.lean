/- Calls whose answers are known: all of them hold. -/
import Derived.Test.YtkjhfnhgefbhhaaGreatCfLxC1
import Derived.Test.YtkjhfnhgefbhhaaGreatCfLxC2
import Derived.Test.YtkjhfnhgefbhhaaGreatCfLxC3
import Derived.Test.YtkjhfnhgefbhhaaGreatCfLxC4
import Derived.Test.YtkjhfnhgefbhhaaGreatCfLxC5
import Derived.Test.YtkjhfnhgefbhhaaGreatCfLxC6
import Derived.Test.YtkjhfnhgefbhhaaGreatCfLxC7
import Derived.Test.YtkjhfnhgefbhhaaGreatCfLxC8
set_option linter.all false
set_option maxRecDepth 20000
set_option maxHeartbeats 6400000
namespace Go.Ev
open Go.Proofs
theorem mixed_prog:Tryz.prog.follows .mixedOrders=true:=by decide +kernel
theorem qV:CxOk Tryz.prog zV:=cxCx_ok mixed_prog
theorem tb0_ok:wX Tryz.prog tb0:=wX.all lb0 (wX.lf _) (fun e he=>by
 exact nomatch he)
theorem tb1_ok:wX Tryz.prog tb1:=wX.batch qV tb0_ok ck1
theorem tb2_ok:wX Tryz.prog tb2:=wX.batch qV tb1_ok ck2
theorem tb3_ok:wX Tryz.prog tb3:=wX.batch qV tb2_ok ck3
theorem tb4_ok:wX Tryz.prog tb4:=wX.batch qV tb3_ok ck4
theorem tb5_ok:wX Tryz.prog tb5:=wX.batch qV tb4_ok ck5
theorem tb6_ok:wX Tryz.prog tb6:=wX.batch qV tb5_ok ck6
theorem tb7_ok:wX Tryz.prog tb7:=wX.batch qV tb6_ok ck7
theorem tb8_ok:wX Tryz.prog tb8:=wX.batch qV tb7_ok ck8
theorem tb9_ok:wX Tryz.prog tb9:=wX.batch qV tb8_ok ck9
theorem tb10_ok:wX Tryz.prog tb10:=wX.batch qV tb9_ok ck10
theorem tb11_ok:wX Tryz.prog tb11:=wX.batch qV tb10_ok ck11
theorem tb12_ok:wX Tryz.prog tb12:=wX.batch qV tb11_ok ck12
theorem tb13_ok:wX Tryz.prog tb13:=wX.batch qV tb12_ok ck13
theorem tb14_ok:wX Tryz.prog tb14:=wX.batch qV tb13_ok ck14
theorem tb15_ok:wX Tryz.prog tb15:=wX.batch qV tb14_ok ck15
theorem tb16_ok:wX Tryz.prog tb16:=wX.batch qV tb15_ok ck16
theorem tb17_ok:wX Tryz.prog tb17:=wX.batch qV tb16_ok ck17
theorem tb18_ok:wX Tryz.prog tb18:=wX.batch qV tb17_ok ck18
theorem tb19_ok:wX Tryz.prog tb19:=wX.batch qV tb18_ok ck19
theorem tb20_ok:wX Tryz.prog tb20:=wX.batch qV tb19_ok ck20
theorem tb21_ok:wX Tryz.prog tb21:=wX.batch qV tb20_ok ck21
theorem tb22_ok:wX Tryz.prog tb22:=wX.batch qV tb21_ok ck22
theorem tb23_ok:wX Tryz.prog tb23:=wX.batch qV tb22_ok ck23
theorem tb24_ok:wX Tryz.prog tb24:=wX.batch qV tb23_ok ck24
theorem tb25_ok:wX Tryz.prog tb25:=wX.batch qV tb24_ok ck25
theorem tb26_ok:wX Tryz.prog tb26:=wX.batch qV tb25_ok ck26
theorem tb27_ok:wX Tryz.prog tb27:=wX.batch qV tb26_ok ck27
theorem tb28_ok:wX Tryz.prog tb28:=wX.batch qV tb27_ok ck28
theorem tb29_ok:wX Tryz.prog tb29:=wX.batch qV tb28_ok ck29
theorem tb30_ok:wX Tryz.prog tb30:=wX.batch qV tb29_ok ck30
theorem en122_ok:wK9 Tryz.prog en122:=wX.ents qV tb30_ok ck31 en122 (pD (l:=lb31) (i:=5) rfl)
end Go.Ev
