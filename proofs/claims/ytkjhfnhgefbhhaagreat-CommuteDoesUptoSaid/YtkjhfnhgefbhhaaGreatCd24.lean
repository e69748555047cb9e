/- Calls whose answers are known: all of them hold. -/
import Derived.Test.YtkjhfnhgefbhhaaGreatCdLwC1
import Derived.Test.YtkjhfnhgefbhhaaGreatCdLwC2
import Derived.Test.YtkjhfnhgefbhhaaGreatCdLwC3
import Derived.Test.YtkjhfnhgefbhhaaGreatCdLwC4
import Derived.Test.YtkjhfnhgefbhhaaGreatCdLwC5
import Derived.Test.YtkjhfnhgefbhhaaGreatCdLwC6
import Derived.Test.YtkjhfnhgefbhhaaGreatCdLwC7
import Derived.Test.YtkjhfnhgefbhhaaGreatCdLwC8
import Derived.Test.YtkjhfnhgefbhhaaGreatCdLwC9
import Derived.Test.YtkjhfnhgefbhhaaGreatCdLwC10
import Derived.Test.YtkjhfnhgefbhhaaGreatCdLwC11
import Derived.Test.YtkjhfnhgefbhhaaGreatCdLwC12
import Derived.Test.YtkjhfnhgefbhhaaGreatCdLwC13
import Derived.Test.YtkjhfnhgefbhhaaGreatCdLwC14
import Derived.Test.YtkjhfnhgefbhhaaGreatCdLwC15
import Derived.Test.YtkjhfnhgefbhhaaGreatCdLwC16
set_option linter.all false
namespace Go.Ev
open Go.Proofs
theorem mixed_prog:Tryz.prog.follows .mixedOrders=true:=by decide +kernel
theorem w9:CxOk Tryz.prog zH:=cxCx_ok mixed_prog
theorem tb0_ok:wV Tryz.prog tb0:=wV.all lb0 (wV.lf _) (fun e he=>by
 exact nomatch he)
theorem tb1_ok:wV Tryz.prog tb1:=wV.batch w9 tb0_ok ck1
theorem tb2_ok:wV Tryz.prog tb2:=wV.batch w9 tb1_ok ck2
theorem tb3_ok:wV Tryz.prog tb3:=wV.batch w9 tb2_ok ck3
theorem tb4_ok:wV Tryz.prog tb4:=wV.batch w9 tb3_ok ck4
theorem tb5_ok:wV Tryz.prog tb5:=wV.batch w9 tb4_ok ck5
theorem tb6_ok:wV Tryz.prog tb6:=wV.batch w9 tb5_ok ck6
theorem tb7_ok:wV Tryz.prog tb7:=wV.batch w9 tb6_ok ck7
theorem tb8_ok:wV Tryz.prog tb8:=wV.batch w9 tb7_ok ck8
theorem tb9_ok:wV Tryz.prog tb9:=wV.batch w9 tb8_ok ck9
theorem tb10_ok:wV Tryz.prog tb10:=wV.batch w9 tb9_ok ck10
theorem tb11_ok:wV Tryz.prog tb11:=wV.batch w9 tb10_ok ck11
theorem tb12_ok:wV Tryz.prog tb12:=wV.batch w9 tb11_ok ck12
theorem tb13_ok:wV Tryz.prog tb13:=wV.batch w9 tb12_ok ck13
theorem tb14_ok:wV Tryz.prog tb14:=wV.batch w9 tb13_ok ck14
theorem tb15_ok:wV Tryz.prog tb15:=wV.batch w9 tb14_ok ck15
theorem tb16_ok:wV Tryz.prog tb16:=wV.batch w9 tb15_ok ck16
theorem tb17_ok:wV Tryz.prog tb17:=wV.batch w9 tb16_ok ck17
theorem tb18_ok:wV Tryz.prog tb18:=wV.batch w9 tb17_ok ck18
theorem tb19_ok:wV Tryz.prog tb19:=wV.batch w9 tb18_ok ck19
theorem tb20_ok:wV Tryz.prog tb20:=wV.batch w9 tb19_ok ck20
theorem tb21_ok:wV Tryz.prog tb21:=wV.batch w9 tb20_ok ck21
theorem tb22_ok:wV Tryz.prog tb22:=wV.batch w9 tb21_ok ck22
theorem tb23_ok:wV Tryz.prog tb23:=wV.batch w9 tb22_ok ck23
theorem tb24_ok:wV Tryz.prog tb24:=wV.batch w9 tb23_ok ck24
theorem tb25_ok:wV Tryz.prog tb25:=wV.batch w9 tb24_ok ck25
theorem tb26_ok:wV Tryz.prog tb26:=wV.batch w9 tb25_ok ck26
theorem tb27_ok:wV Tryz.prog tb27:=wV.batch w9 tb26_ok ck27
theorem tb28_ok:wV Tryz.prog tb28:=wV.batch w9 tb27_ok ck28
theorem tb29_ok:wV Tryz.prog tb29:=wV.batch w9 tb28_ok ck29
theorem tb30_ok:wV Tryz.prog tb30:=wV.batch w9 tb29_ok ck30
theorem tb31_ok:wV Tryz.prog tb31:=wV.batch w9 tb30_ok ck31
theorem tb32_ok:wV Tryz.prog tb32:=wV.batch w9 tb31_ok ck32
theorem tb33_ok:wV Tryz.prog tb33:=wV.batch w9 tb32_ok ck33
theorem tb34_ok:wV Tryz.prog tb34:=wV.batch w9 tb33_ok ck34
theorem tb35_ok:wV Tryz.prog tb35:=wV.batch w9 tb34_ok ck35
theorem tb36_ok:wV Tryz.prog tb36:=wV.batch w9 tb35_ok ck36
theorem tb37_ok:wV Tryz.prog tb37:=wV.batch w9 tb36_ok ck37
theorem tb38_ok:wV Tryz.prog tb38:=wV.batch w9 tb37_ok ck38
theorem tb39_ok:wV Tryz.prog tb39:=wV.batch w9 tb38_ok ck39
theorem tb40_ok:wV Tryz.prog tb40:=wV.batch w9 tb39_ok ck40
theorem tb41_ok:wV Tryz.prog tb41:=wV.batch w9 tb40_ok ck41
theorem tb42_ok:wV Tryz.prog tb42:=wV.batch w9 tb41_ok ck42
theorem tb43_ok:wV Tryz.prog tb43:=wV.batch w9 tb42_ok ck43
theorem tb44_ok:wV Tryz.prog tb44:=wV.batch w9 tb43_ok ck44
theorem tb45_ok:wV Tryz.prog tb45:=wV.batch w9 tb44_ok ck45
theorem tb46_ok:wV Tryz.prog tb46:=wV.batch w9 tb45_ok ck46
theorem tb47_ok:wV Tryz.prog tb47:=wV.batch w9 tb46_ok ck47
theorem tb48_ok:wV Tryz.prog tb48:=wV.batch w9 tb47_ok ck48
theorem tb49_ok:wV Tryz.prog tb49:=wV.batch w9 tb48_ok ck49
theorem tb50_ok:wV Tryz.prog tb50:=wV.batch w9 tb49_ok ck50
theorem tb51_ok:wV Tryz.prog tb51:=wV.batch w9 tb50_ok ck51
theorem tb52_ok:wV Tryz.prog tb52:=wV.batch w9 tb51_ok ck52
theorem tb53_ok:wV Tryz.prog tb53:=wV.batch w9 tb52_ok ck53
theorem tb54_ok:wV Tryz.prog tb54:=wV.batch w9 tb53_ok ck54
theorem tb55_ok:wV Tryz.prog tb55:=wV.batch w9 tb54_ok ck55
theorem tb56_ok:wV Tryz.prog tb56:=wV.batch w9 tb55_ok ck56
theorem tb57_ok:wV Tryz.prog tb57:=wV.batch w9 tb56_ok ck57
theorem tb58_ok:wV Tryz.prog tb58:=wV.batch w9 tb57_ok ck58
theorem tb59_ok:wV Tryz.prog tb59:=wV.batch w9 tb58_ok ck59
theorem tb60_ok:wV Tryz.prog tb60:=wV.batch w9 tb59_ok ck60
theorem tb61_ok:wV Tryz.prog tb61:=wV.batch w9 tb60_ok ck61
theorem tb62_ok:wV Tryz.prog tb62:=wV.batch w9 tb61_ok ck62
theorem en502_ok:EntOk Tryz.prog en502:=wV.ents w9 tb62_ok ck63 en502 (List.mem_of_getElem? (l:=lb63) (i:=6) rfl)
end Go.Ev
