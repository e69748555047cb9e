/- Calls whose answers are known: all of them hold. -/
import Derived.Test.YtdcjmnfngabhoaaGreatCcLcC1
import Derived.Test.YtdcjmnfngabhoaaGreatCcLcC2
import Derived.Test.YtdcjmnfngabhoaaGreatCcLcC3
import Derived.Test.YtdcjmnfngabhoaaGreatCcLcC4
import Derived.Test.YtdcjmnfngabhoaaGreatCcLcC5
import Derived.Test.YtdcjmnfngabhoaaGreatCcLcC6
import Derived.Test.YtdcjmnfngabhoaaGreatCcLcC7
import Derived.Test.YtdcjmnfngabhoaaGreatCcLcC8
import Derived.Test.YtdcjmnfngabhoaaGreatCcLcC9
import Derived.Test.YtdcjmnfngabhoaaGreatCcLcC10
import Derived.Test.YtdcjmnfngabhoaaGreatCcLcC11
import Derived.Test.YtdcjmnfngabhoaaGreatCcLcC12
import Derived.Test.YtdcjmnfngabhoaaGreatCcLcC13
import Derived.Test.YtdcjmnfngabhoaaGreatCcLcC14
import Derived.Test.YtdcjmnfngabhoaaGreatCcLcC15
import Derived.Test.YtdcjmnfngabhoaaGreatCcLcC16
import Derived.Test.YtdcjmnfngabhoaaGreatCcLcC17
import Derived.Test.YtdcjmnfngabhoaaGreatCcLcC18
set_option linter.all false
set_option maxRecDepth 20000
set_option maxHeartbeats 6400000
namespace Go.Ev
open Go.Proofs
theorem mixed_prog:Tryz.prog.follows .mixedOrders=true:=by decide +kernel
theorem wN:CxOk Tryz.prog qJ:=cxCx_ok mixed_prog
theorem tb0_ok:wH Tryz.prog tb0:=wH.all lb0 (wH.lf _) (fun e he=>by exact nomatch he)
theorem tb1_ok:wH Tryz.prog tb1:=wH.batch wN tb0_ok ck1
theorem tb2_ok:wH Tryz.prog tb2:=wH.batch wN tb1_ok ck2
theorem tb3_ok:wH Tryz.prog tb3:=wH.batch wN tb2_ok ck3
theorem tb4_ok:wH Tryz.prog tb4:=wH.batch wN tb3_ok ck4
theorem tb5_ok:wH Tryz.prog tb5:=wH.batch wN tb4_ok ck5
theorem tb6_ok:wH Tryz.prog tb6:=wH.batch wN tb5_ok ck6
theorem tb7_ok:wH Tryz.prog tb7:=wH.batch wN tb6_ok ck7
theorem tb8_ok:wH Tryz.prog tb8:=wH.batch wN tb7_ok ck8
theorem tb9_ok:wH Tryz.prog tb9:=wH.batch wN tb8_ok ck9
theorem tb10_ok:wH Tryz.prog tb10:=wH.batch wN tb9_ok ck10
theorem tb11_ok:wH Tryz.prog tb11:=wH.batch wN tb10_ok ck11
theorem tb12_ok:wH Tryz.prog tb12:=wH.batch wN tb11_ok ck12
theorem tb13_ok:wH Tryz.prog tb13:=wH.batch wN tb12_ok ck13
theorem tb14_ok:wH Tryz.prog tb14:=wH.batch wN tb13_ok ck14
theorem tb15_ok:wH Tryz.prog tb15:=wH.batch wN tb14_ok ck15
theorem tb16_ok:wH Tryz.prog tb16:=wH.batch wN tb15_ok ck16
theorem tb17_ok:wH Tryz.prog tb17:=wH.batch wN tb16_ok ck17
theorem tb18_ok:wH Tryz.prog tb18:=wH.batch wN tb17_ok ck18
theorem tb19_ok:wH Tryz.prog tb19:=wH.batch wN tb18_ok ck19
theorem tb20_ok:wH Tryz.prog tb20:=wH.batch wN tb19_ok ck20
theorem tb21_ok:wH Tryz.prog tb21:=wH.batch wN tb20_ok ck21
theorem tb22_ok:wH Tryz.prog tb22:=wH.batch wN tb21_ok ck22
theorem tb23_ok:wH Tryz.prog tb23:=wH.batch wN tb22_ok ck23
theorem tb24_ok:wH Tryz.prog tb24:=wH.batch wN tb23_ok ck24
theorem tb25_ok:wH Tryz.prog tb25:=wH.batch wN tb24_ok ck25
theorem tb26_ok:wH Tryz.prog tb26:=wH.batch wN tb25_ok ck26
theorem tb27_ok:wH Tryz.prog tb27:=wH.batch wN tb26_ok ck27
theorem tb28_ok:wH Tryz.prog tb28:=wH.batch wN tb27_ok ck28
theorem tb29_ok:wH Tryz.prog tb29:=wH.batch wN tb28_ok ck29
theorem tb30_ok:wH Tryz.prog tb30:=wH.batch wN tb29_ok ck30
theorem tb31_ok:wH Tryz.prog tb31:=wH.batch wN tb30_ok ck31
theorem tb32_ok:wH Tryz.prog tb32:=wH.batch wN tb31_ok ck32
theorem tb33_ok:wH Tryz.prog tb33:=wH.batch wN tb32_ok ck33
theorem tb34_ok:wH Tryz.prog tb34:=wH.batch wN tb33_ok ck34
theorem tb35_ok:wH Tryz.prog tb35:=wH.batch wN tb34_ok ck35
theorem tb36_ok:wH Tryz.prog tb36:=wH.batch wN tb35_ok ck36
theorem tb37_ok:wH Tryz.prog tb37:=wH.batch wN tb36_ok ck37
theorem tb38_ok:wH Tryz.prog tb38:=wH.batch wN tb37_ok ck38
theorem tb39_ok:wH Tryz.prog tb39:=wH.batch wN tb38_ok ck39
theorem tb40_ok:wH Tryz.prog tb40:=wH.batch wN tb39_ok ck40
theorem tb41_ok:wH Tryz.prog tb41:=wH.batch wN tb40_ok ck41
theorem tb42_ok:wH Tryz.prog tb42:=wH.batch wN tb41_ok ck42
theorem tb43_ok:wH Tryz.prog tb43:=wH.batch wN tb42_ok ck43
theorem tb44_ok:wH Tryz.prog tb44:=wH.batch wN tb43_ok ck44
theorem tb45_ok:wH Tryz.prog tb45:=wH.batch wN tb44_ok ck45
theorem tb46_ok:wH Tryz.prog tb46:=wH.batch wN tb45_ok ck46
theorem tb47_ok:wH Tryz.prog tb47:=wH.batch wN tb46_ok ck47
theorem tb48_ok:wH Tryz.prog tb48:=wH.batch wN tb47_ok ck48
theorem tb49_ok:wH Tryz.prog tb49:=wH.batch wN tb48_ok ck49
theorem tb50_ok:wH Tryz.prog tb50:=wH.batch wN tb49_ok ck50
theorem tb51_ok:wH Tryz.prog tb51:=wH.batch wN tb50_ok ck51
theorem tb52_ok:wH Tryz.prog tb52:=wH.batch wN tb51_ok ck52
theorem tb53_ok:wH Tryz.prog tb53:=wH.batch wN tb52_ok ck53
theorem tb54_ok:wH Tryz.prog tb54:=wH.batch wN tb53_ok ck54
theorem tb55_ok:wH Tryz.prog tb55:=wH.batch wN tb54_ok ck55
theorem tb56_ok:wH Tryz.prog tb56:=wH.batch wN tb55_ok ck56
theorem tb57_ok:wH Tryz.prog tb57:=wH.batch wN tb56_ok ck57
theorem tb58_ok:wH Tryz.prog tb58:=wH.batch wN tb57_ok ck58
theorem tb59_ok:wH Tryz.prog tb59:=wH.batch wN tb58_ok ck59
theorem tb60_ok:wH Tryz.prog tb60:=wH.batch wN tb59_ok ck60
theorem tb61_ok:wH Tryz.prog tb61:=wH.batch wN tb60_ok ck61
theorem tb62_ok:wH Tryz.prog tb62:=wH.batch wN tb61_ok ck62
theorem tb63_ok:wH Tryz.prog tb63:=wH.batch wN tb62_ok ck63
theorem tb64_ok:wH Tryz.prog tb64:=wH.batch wN tb63_ok ck64
theorem tb65_ok:wH Tryz.prog tb65:=wH.batch wN tb64_ok ck65
theorem tb66_ok:wH Tryz.prog tb66:=wH.batch wN tb65_ok ck66
theorem tb67_ok:wH Tryz.prog tb67:=wH.batch wN tb66_ok ck67
theorem tb68_ok:wH Tryz.prog tb68:=wH.batch wN tb67_ok ck68
theorem en142_ok:wK1 Tryz.prog en142:=wH.ents wN tb68_ok ck69 en142 (pF (l:=lb69) (i:=1) rfl)
end Go.Ev
