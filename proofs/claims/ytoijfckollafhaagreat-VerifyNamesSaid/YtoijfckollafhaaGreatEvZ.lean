/- Calls whose answers are known: all of them hold. -/
import Derived.Test.YtoijfckollafhaaGreatEvC1
import Derived.Test.YtoijfckollafhaaGreatEvC2
import Derived.Test.YtoijfckollafhaaGreatEvC3
import Derived.Test.YtoijfckollafhaaGreatEvC4
import Derived.Test.YtoijfckollafhaaGreatEvC5
import Derived.Test.YtoijfckollafhaaGreatEvC6
import Derived.Test.YtoijfckollafhaaGreatEvC7
import Derived.Test.YtoijfckollafhaaGreatEvC8
import Derived.Test.YtoijfckollafhaaGreatEvC9
import Derived.Test.YtoijfckollafhaaGreatEvC10
import Derived.Test.YtoijfckollafhaaGreatEvC11
import Derived.Test.YtoijfckollafhaaGreatEvC12
import Derived.Test.YtoijfckollafhaaGreatEvC13
import Derived.Test.YtoijfckollafhaaGreatEvC14
import Derived.Test.YtoijfckollafhaaGreatEvC15
import Derived.Test.YtoijfckollafhaaGreatEvC16
import Derived.Test.YtoijfckollafhaaGreatEvC17
import Derived.Test.YtoijfckollafhaaGreatEvC18
import Derived.Test.YtoijfckollafhaaGreatEvC19
import Derived.Test.YtoijfckollafhaaGreatEvC20
import Derived.Test.YtoijfckollafhaaGreatEvC21
import Derived.Test.YtoijfckollafhaaGreatEvC22
import Derived.Test.YtoijfckollafhaaGreatEvC23
import Derived.Test.YtoijfckollafhaaGreatEvC24
import Derived.Test.YtoijfckollafhaaGreatEvC25
import Derived.Test.YtoijfckollafhaaGreatEvC26
import Derived.Test.YtoijfckollafhaaGreatEvC27
import Derived.Test.YtoijfckollafhaaGreatEvC28
import Derived.Test.YtoijfckollafhaaGreatEvEnd
namespace Go.Ev
open Go.Proofs
theorem mixed_prog : Tryz.prog.follows .mixedOrders = true := by decide +kernel
theorem cx_prog : CxOk Tryz.prog cxCx := cxCx_ok mixed_prog
theorem tb0_ok : TabOk Tryz.prog tb0 := TabOk.lf _
theorem tb1_ok : TabOk Tryz.prog tb1 := TabOk.batch cx_prog tb0_ok ck1
theorem tb2_ok : TabOk Tryz.prog tb2 := TabOk.batch cx_prog tb1_ok ck2
theorem tb3_ok : TabOk Tryz.prog tb3 := TabOk.batch cx_prog tb2_ok ck3
theorem tb4_ok : TabOk Tryz.prog tb4 := TabOk.batch cx_prog tb3_ok ck4
theorem tb5_ok : TabOk Tryz.prog tb5 := TabOk.batch cx_prog tb4_ok ck5
theorem tb6_ok : TabOk Tryz.prog tb6 := TabOk.batch cx_prog tb5_ok ck6
theorem tb7_ok : TabOk Tryz.prog tb7 := TabOk.batch cx_prog tb6_ok ck7
theorem tb8_ok : TabOk Tryz.prog tb8 := TabOk.batch cx_prog tb7_ok ck8
theorem tb9_ok : TabOk Tryz.prog tb9 := TabOk.batch cx_prog tb8_ok ck9
theorem tb10_ok : TabOk Tryz.prog tb10 := TabOk.batch cx_prog tb9_ok ck10
theorem tb11_ok : TabOk Tryz.prog tb11 := TabOk.batch cx_prog tb10_ok ck11
theorem tb12_ok : TabOk Tryz.prog tb12 := TabOk.batch cx_prog tb11_ok ck12
theorem tb13_ok : TabOk Tryz.prog tb13 := TabOk.batch cx_prog tb12_ok ck13
theorem tb14_ok : TabOk Tryz.prog tb14 := TabOk.batch cx_prog tb13_ok ck14
theorem tb15_ok : TabOk Tryz.prog tb15 := TabOk.batch cx_prog tb14_ok ck15
theorem tb16_ok : TabOk Tryz.prog tb16 := TabOk.batch cx_prog tb15_ok ck16
theorem tb17_ok : TabOk Tryz.prog tb17 := TabOk.batch cx_prog tb16_ok ck17
theorem tb18_ok : TabOk Tryz.prog tb18 := TabOk.batch cx_prog tb17_ok ck18
theorem tb19_ok : TabOk Tryz.prog tb19 := TabOk.batch cx_prog tb18_ok ck19
theorem tb20_ok : TabOk Tryz.prog tb20 := TabOk.batch cx_prog tb19_ok ck20
theorem tb21_ok : TabOk Tryz.prog tb21 := TabOk.batch cx_prog tb20_ok ck21
theorem tb22_ok : TabOk Tryz.prog tb22 := TabOk.batch cx_prog tb21_ok ck22
theorem tb23_ok : TabOk Tryz.prog tb23 := TabOk.batch cx_prog tb22_ok ck23
theorem tb24_ok : TabOk Tryz.prog tb24 := TabOk.batch cx_prog tb23_ok ck24
theorem tb25_ok : TabOk Tryz.prog tb25 := TabOk.batch cx_prog tb24_ok ck25
theorem tb26_ok : TabOk Tryz.prog tb26 := TabOk.batch cx_prog tb25_ok ck26
theorem tb27_ok : TabOk Tryz.prog tb27 := TabOk.batch cx_prog tb26_ok ck27
theorem tb28_ok : TabOk Tryz.prog tb28 := TabOk.batch cx_prog tb27_ok ck28
theorem en377_ok : EntOk Tryz.prog en377 := TabOk.ents cx_prog tb27_ok ck28 en377 (List.mem_of_getElem? (l := lb28) (i := 5) rfl)
theorem en378_ok : EntOk Tryz.prog en378 := TabOk.ents cx_prog tb27_ok ck28 en378 (List.mem_of_getElem? (l := lb28) (i := 6) rfl)
theorem en379_ok : EntOk Tryz.prog en379 := TabOk.ents cx_prog tb27_ok ck28 en379 (List.mem_of_getElem? (l := lb28) (i := 7) rfl)
theorem en380_ok : EntOk Tryz.prog en380 := TabOk.ents cx_prog tb27_ok ck28 en380 (List.mem_of_getElem? (l := lb28) (i := 8) rfl)
theorem en381_ok : EntOk Tryz.prog en381 := TabOk.ents cx_prog tb27_ok ck28 en381 (List.mem_of_getElem? (l := lb28) (i := 9) rfl)
theorem en382_ok : EntOk Tryz.prog en382 := TabOk.ents cx_prog tb27_ok ck28 en382 (List.mem_of_getElem? (l := lb28) (i := 10) rfl)
theorem en384_ok : EntOk Tryz.prog en384 := TabOk.ents cx_prog tb27_ok ck28 en384 (List.mem_of_getElem? (l := lb28) (i := 12) rfl)
theorem en386_ok : EntOk Tryz.prog en386 := TabOk.ents cx_prog tb27_ok ck28 en386 (List.mem_of_getElem? (l := lb28) (i := 14) rfl)
theorem en388_ok : EntOk Tryz.prog en388 := TabOk.ents cx_prog tb27_ok ck28 en388 (List.mem_of_getElem? (l := lb28) (i := 16) rfl)
theorem en390_ok : EntOk Tryz.prog en390 := TabOk.ents cx_prog tb27_ok ck28 en390 (List.mem_of_getElem? (l := lb28) (i := 18) rfl)
theorem en392_ok : EntOk Tryz.prog en392 := TabOk.ents cx_prog tb27_ok ck28 en392 (List.mem_of_getElem? (l := lb28) (i := 20) rfl)
theorem en394_ok : EntOk Tryz.prog en394 := TabOk.ents cx_prog tb27_ok ck28 en394 (List.mem_of_getElem? (l := lb28) (i := 22) rfl)
theorem en396_ok : EntOk Tryz.prog en396 := TabOk.ents cx_prog tb27_ok ck28 en396 (List.mem_of_getElem? (l := lb28) (i := 24) rfl)
theorem en398_ok : EntOk Tryz.prog en398 := TabOk.ents cx_prog tb27_ok ck28 en398 (List.mem_of_getElem? (l := lb28) (i := 26) rfl)
theorem en400_ok : EntOk Tryz.prog en400 := TabOk.ents cx_prog tb27_ok ck28 en400 (List.mem_of_getElem? (l := lb28) (i := 28) rfl)
theorem en401_ok : EntOk Tryz.prog en401 := TabOk.ents cx_prog tb27_ok ck28 en401 (List.mem_of_getElem? (l := lb28) (i := 29) rfl)
end Go.Ev
