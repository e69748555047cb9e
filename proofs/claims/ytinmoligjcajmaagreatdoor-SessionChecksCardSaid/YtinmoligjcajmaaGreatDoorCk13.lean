/- Calls whose answers are known: all of them hold. -/
import Derived.Test.YtinmoligjcajmaaGreatDoorCkSnC1
import Derived.Test.YtinmoligjcajmaaGreatDoorCkSnC2
import Derived.Test.YtinmoligjcajmaaGreatDoorCkSnC3
import Derived.Test.YtinmoligjcajmaaGreatDoorCkSnC4
import Derived.Test.YtinmoligjcajmaaGreatDoorCkSnC5
import Derived.Test.YtinmoligjcajmaaGreatDoorCkSnC6
import Derived.Test.YtinmoligjcajmaaGreatDoorCkSnC7
import Derived.Test.YtinmoligjcajmaaGreatDoorCkSnC8
import Derived.Test.YtinmoligjcajmaaGreatDoorCkSnC9
import Derived.Test.YtinmoligjcajmaaGreatDoorCkSnC10
import Derived.Test.YtinmoligjcajmaaGreatDoorCkSnC11
import Derived.Test.YtinmoligjcajmaaGreatDoorCk11
set_option linter.all false
set_option maxRecDepth 20000
set_option maxHeartbeats 6400000
namespace Go.Ev
open Go.Proofs
theorem mixed_prog : Tryz.prog.follows .mixedOrders = true := by decide +kernel
theorem cx_prog : CxOk Tryz.prog cxCx := cxCx_ok mixed_prog
theorem tb0_ok : TabOk Tryz.prog tb0 := TabOk.all lb0 (TabOk.lf _) (fun e he => by
  exact nomatch he)
theorem tb1_ok : TabOk Tryz.prog tb1 := TabOk.batch cx_prog tb0_ok ck1
theorem tb2_ok : TabOk Tryz.prog tb2 := TabOk.batch cx_prog tb1_ok ck2
theorem tb3_ok : TabOk Tryz.prog tb3 := TabOk.batch cx_prog tb2_ok ck3
theorem tb4_ok : TabOk Tryz.prog tb4 := TabOk.batch cx_prog tb3_ok ck4
theorem tb5_ok : TabOk Tryz.prog tb5 := TabOk.batch cx_prog tb4_ok ck5
theorem tb6_ok : TabOk Tryz.prog tb6 := TabOk.batch cx_prog tb5_ok ck6
theorem tb7_ok : TabOk Tryz.prog tb7 := TabOk.batch cx_prog tb6_ok ck7
theorem tb8_ok : TabOk Tryz.prog tb8 := TabOk.batch cx_prog tb7_ok ck8
theorem tb9_ok : TabOk Tryz.prog tb9 := TabOk.batch cx_prog tb8_ok ck9
theorem tb10_ok : TabOk Tryz.prog tb10 := TabOk.batch cx_prog tb9_ok ck10
theorem tb11_ok : TabOk Tryz.prog tb11 := TabOk.batch cx_prog tb10_ok ck11
theorem tb12_ok : TabOk Tryz.prog tb12 := TabOk.batch cx_prog tb11_ok ck12
theorem tb13_ok : TabOk Tryz.prog tb13 := TabOk.batch cx_prog tb12_ok ck13
theorem tb14_ok : TabOk Tryz.prog tb14 := TabOk.batch cx_prog tb13_ok ck14
theorem tb15_ok : TabOk Tryz.prog tb15 := TabOk.batch cx_prog tb14_ok ck15
theorem tb16_ok : TabOk Tryz.prog tb16 := TabOk.batch cx_prog tb15_ok ck16
theorem tb17_ok : TabOk Tryz.prog tb17 := TabOk.batch cx_prog tb16_ok ck17
theorem tb18_ok : TabOk Tryz.prog tb18 := TabOk.batch cx_prog tb17_ok ck18
theorem tb19_ok : TabOk Tryz.prog tb19 := TabOk.batch cx_prog tb18_ok ck19
theorem tb20_ok : TabOk Tryz.prog tb20 := TabOk.batch cx_prog tb19_ok ck20
theorem tb21_ok : TabOk Tryz.prog tb21 := TabOk.batch cx_prog tb20_ok ck21
theorem tb22_ok : TabOk Tryz.prog tb22 := TabOk.batch cx_prog tb21_ok ck22
theorem tb23_ok : TabOk Tryz.prog tb23 := TabOk.batch cx_prog tb22_ok ck23
theorem tb24_ok : TabOk Tryz.prog tb24 := TabOk.batch cx_prog tb23_ok ck24
theorem tb25_ok : TabOk Tryz.prog tb25 := TabOk.batch cx_prog tb24_ok ck25
theorem tb26_ok : TabOk Tryz.prog tb26 := TabOk.batch cx_prog tb25_ok ck26
theorem tb27_ok : TabOk Tryz.prog tb27 := TabOk.batch cx_prog tb26_ok ck27
theorem tb28_ok : TabOk Tryz.prog tb28 := TabOk.batch cx_prog tb27_ok ck28
theorem tb29_ok : TabOk Tryz.prog tb29 := TabOk.batch cx_prog tb28_ok ck29
theorem tb30_ok : TabOk Tryz.prog tb30 := TabOk.batch cx_prog tb29_ok ck30
theorem tb31_ok : TabOk Tryz.prog tb31 := TabOk.batch cx_prog tb30_ok ck31
theorem tb32_ok : TabOk Tryz.prog tb32 := TabOk.batch cx_prog tb31_ok ck32
theorem en497_ok : EntOk Tryz.prog en497 := TabOk.ents cx_prog tb32_ok ck33 en497 (List.mem_of_getElem? (l := lb33) (i := 1) rfl)
end Go.Ev
/- The law SessionChecks, walked. -/
namespace Go.Proofs.YtinmoligjcajmaaGreatDoor
open Go.RowKit Go.Vl Go.Ev

theorem num28_any (n : Int) (w : World) : Calls Tryz.prog 6 #[.int .i64 n] w fun e w' => e = .returned (.int .i64 n) ∧ w = w' := by
  go_enter Tryz.func6, Tryz.ntmps6
  go_wp2
  go_ret
  exact ⟨rfl, rfl⟩

theorem awake28_any (w : World) : Calls Tryz.prog 7 #[] w fun e w' => e = .returned (.bool true) ∧ Below w.heap.size w w' := calls_of_ent en497_ok rfl rfl rfl w

set_option maxHeartbeats 1600000 in
theorem checks_walk (s : ByteArray) (m : Int) (w : World) (hs9 : s.size ≤ 9223372036854775807) (hm : w.cell? ⟨1, 0, none⟩ = some (.int .i64 m)) (h1 : 1 < w.heap.size) :
    Calls Tryz.prog 5 #[.string s] w fun e w' => e = .returned (.bool true) ∧ Below w.heap.size w w' := by
  have Q1 := hid (check_ses s m w hs9 hm h1)
  have Q2 := hid (fun w1 => asks28_any s.data.toList w1 (by rw [Array.length_toList]; exact hs9))
  have Q3 := hid awake28_any
  have Q4 := hid num28_any
  generalize asksL s.data.toList = A at *
  change Hid (∀ w1, Calls Tryz.prog 12 #[.string s] w1 _) at Q2
  go_enter Tryz.func5, Tryz.ntmps5
  go_wp2_with fail
  refine Q1.out.mono ?_
  rintro e w1 ⟨hb1, rfl⟩
  clear Q1
  go_wp2_with fail
  refine (Q2.out w1).mono ?_
  rintro e w2 ⟨hb2, v, rfl⟩
  clear Q2
  go_wp2_with fail
  refine (Q4.out _ w2).mono ?_
  rintro e w3 ⟨rfl, rfl⟩
  go_wp2_with fail
  refine (Q3.out w2).mono ?_
  rintro e w4 ⟨rfl, hb4⟩
  go_wp2
  go_ret
  have hb := hb1.trans (hb2.mono hb1.size)
  exact ⟨rfl, hb.trans (hb4.mono hb.size)⟩
end Go.Proofs.YtinmoligjcajmaaGreatDoor
