/- Calls whose answers are known: all of them hold. -/
import Derived.Test.YtkjhfnhgefbhhaaGreatCsLxC1
import Derived.Test.YtkjhfnhgefbhhaaGreatCsLxC2
import Derived.Test.YtkjhfnhgefbhhaaGreatCsLxC3
import Derived.Test.YtkjhfnhgefbhhaaGreatCsLxC4
import Derived.Test.YtkjhfnhgefbhhaaGreatCsLxC5
import Derived.Test.YtkjhfnhgefbhhaaGreatCsLxC6
import Derived.Test.YtkjhfnhgefbhhaaGreatCsLxC7
import Derived.Test.YtkjhfnhgefbhhaaGreatCsLxC8
set_option linter.all false
namespace Go.Ev
open Go.Proofs
theorem mixed_prog:Tryz.prog.follows .mixedOrders=true:=by decide +kernel
theorem w9:CxOk Tryz.prog zH:=cxCx_ok mixed_prog
theorem tb0_ok:wV Tryz.prog tb0:=wV.all lb0 (wV.lf _) (fun e he=>by
 exact nomatch he)
theorem tb1_ok:wV Tryz.prog tb1:=wV.batch w9 tb0_ok ck1
theorem tb2_ok:wV Tryz.prog tb2:=wV.batch w9 tb1_ok ck2
theorem tb3_ok:wV Tryz.prog tb3:=wV.batch w9 tb2_ok ck3
theorem tb4_ok:wV Tryz.prog tb4:=wV.batch w9 tb3_ok ck4
theorem tb5_ok:wV Tryz.prog tb5:=wV.batch w9 tb4_ok ck5
theorem tb6_ok:wV Tryz.prog tb6:=wV.batch w9 tb5_ok ck6
theorem tb7_ok:wV Tryz.prog tb7:=wV.batch w9 tb6_ok ck7
theorem tb8_ok:wV Tryz.prog tb8:=wV.batch w9 tb7_ok ck8
theorem tb9_ok:wV Tryz.prog tb9:=wV.batch w9 tb8_ok ck9
theorem tb10_ok:wV Tryz.prog tb10:=wV.batch w9 tb9_ok ck10
theorem tb11_ok:wV Tryz.prog tb11:=wV.batch w9 tb10_ok ck11
theorem tb12_ok:wV Tryz.prog tb12:=wV.batch w9 tb11_ok ck12
theorem tb13_ok:wV Tryz.prog tb13:=wV.batch w9 tb12_ok ck13
theorem tb14_ok:wV Tryz.prog tb14:=wV.batch w9 tb13_ok ck14
theorem tb15_ok:wV Tryz.prog tb15:=wV.batch w9 tb14_ok ck15
theorem tb16_ok:wV Tryz.prog tb16:=wV.batch w9 tb15_ok ck16
theorem tb17_ok:wV Tryz.prog tb17:=wV.batch w9 tb16_ok ck17
theorem tb18_ok:wV Tryz.prog tb18:=wV.batch w9 tb17_ok ck18
theorem tb19_ok:wV Tryz.prog tb19:=wV.batch w9 tb18_ok ck19
theorem tb20_ok:wV Tryz.prog tb20:=wV.batch w9 tb19_ok ck20
theorem tb21_ok:wV Tryz.prog tb21:=wV.batch w9 tb20_ok ck21
theorem tb22_ok:wV Tryz.prog tb22:=wV.batch w9 tb21_ok ck22
theorem tb23_ok:wV Tryz.prog tb23:=wV.batch w9 tb22_ok ck23
theorem tb24_ok:wV Tryz.prog tb24:=wV.batch w9 tb23_ok ck24
theorem tb25_ok:wV Tryz.prog tb25:=wV.batch w9 tb24_ok ck25
theorem tb26_ok:wV Tryz.prog tb26:=wV.batch w9 tb25_ok ck26
theorem tb27_ok:wV Tryz.prog tb27:=wV.batch w9 tb26_ok ck27
theorem tb28_ok:wV Tryz.prog tb28:=wV.batch w9 tb27_ok ck28
theorem tb29_ok:wV Tryz.prog tb29:=wV.batch w9 tb28_ok ck29
theorem tb30_ok:wV Tryz.prog tb30:=wV.batch w9 tb29_ok ck30
theorem en304_ok:EntOk Tryz.prog en304:=wV.ents w9 tb30_ok ck31 en304 (List.mem_of_getElem? (l:=lb31) (i:=7) rfl)
end Go.Ev
