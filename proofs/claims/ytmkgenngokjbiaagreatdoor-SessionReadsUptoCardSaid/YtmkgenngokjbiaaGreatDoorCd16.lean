/- Calls whose answers are known: all of them hold. -/
import Derived.Test.YtmkgenngokjbiaaGreatDoorCdSnC1
import Derived.Test.YtmkgenngokjbiaaGreatDoorCdSnC2
import Derived.Test.YtmkgenngokjbiaaGreatDoorCdSnC3
import Derived.Test.YtmkgenngokjbiaaGreatDoorCdSnC4
import Derived.Test.YtmkgenngokjbiaaGreatDoorCdSnC5
import Derived.Test.YtmkgenngokjbiaaGreatDoorCdSnC6
import Derived.Test.YtmkgenngokjbiaaGreatDoorCdSnC7
import Derived.Test.YtmkgenngokjbiaaGreatDoorCdSnC8
import Derived.Test.YtmkgenngokjbiaaGreatDoorCdSnC9
import Derived.Test.YtmkgenngokjbiaaGreatDoorCdSnC10
import Derived.Test.YtmkgenngokjbiaaGreatDoorCd14
set_option linter.all false
set_option maxRecDepth 20000
set_option maxHeartbeats 6400000
namespace Go.Ev
open Go.Proofs
theorem mixed_prog:Tryz.prog.follows .mixedOrders=true:=by decide +kernel
theorem wK:CxOk Tryz.prog qB:=cxCx_ok mixed_prog
theorem tb0_ok:wF Tryz.prog tb0:=wF.all lb0 (wF.lf _) (fun e he=>by exact nomatch he)
theorem tb1_ok:wF Tryz.prog tb1:=wF.batch wK tb0_ok ck1
theorem tb2_ok:wF Tryz.prog tb2:=wF.batch wK tb1_ok ck2
theorem tb3_ok:wF Tryz.prog tb3:=wF.batch wK tb2_ok ck3
theorem tb4_ok:wF Tryz.prog tb4:=wF.batch wK tb3_ok ck4
theorem tb5_ok:wF Tryz.prog tb5:=wF.batch wK tb4_ok ck5
theorem tb6_ok:wF Tryz.prog tb6:=wF.batch wK tb5_ok ck6
theorem tb7_ok:wF Tryz.prog tb7:=wF.batch wK tb6_ok ck7
theorem tb8_ok:wF Tryz.prog tb8:=wF.batch wK tb7_ok ck8
theorem tb9_ok:wF Tryz.prog tb9:=wF.batch wK tb8_ok ck9
theorem tb10_ok:wF Tryz.prog tb10:=wF.batch wK tb9_ok ck10
theorem tb11_ok:wF Tryz.prog tb11:=wF.batch wK tb10_ok ck11
theorem tb12_ok:wF Tryz.prog tb12:=wF.batch wK tb11_ok ck12
theorem tb13_ok:wF Tryz.prog tb13:=wF.batch wK tb12_ok ck13
theorem tb14_ok:wF Tryz.prog tb14:=wF.batch wK tb13_ok ck14
theorem tb15_ok:wF Tryz.prog tb15:=wF.batch wK tb14_ok ck15
theorem tb16_ok:wF Tryz.prog tb16:=wF.batch wK tb15_ok ck16
theorem tb17_ok:wF Tryz.prog tb17:=wF.batch wK tb16_ok ck17
theorem tb18_ok:wF Tryz.prog tb18:=wF.batch wK tb17_ok ck18
theorem tb19_ok:wF Tryz.prog tb19:=wF.batch wK tb18_ok ck19
theorem tb20_ok:wF Tryz.prog tb20:=wF.batch wK tb19_ok ck20
theorem tb21_ok:wF Tryz.prog tb21:=wF.batch wK tb20_ok ck21
theorem tb22_ok:wF Tryz.prog tb22:=wF.batch wK tb21_ok ck22
theorem tb23_ok:wF Tryz.prog tb23:=wF.batch wK tb22_ok ck23
theorem tb24_ok:wF Tryz.prog tb24:=wF.batch wK tb23_ok ck24
theorem tb25_ok:wF Tryz.prog tb25:=wF.batch wK tb24_ok ck25
theorem tb26_ok:wF Tryz.prog tb26:=wF.batch wK tb25_ok ck26
theorem tb27_ok:wF Tryz.prog tb27:=wF.batch wK tb26_ok ck27
theorem tb28_ok:wF Tryz.prog tb28:=wF.batch wK tb27_ok ck28
theorem tb29_ok:wF Tryz.prog tb29:=wF.batch wK tb28_ok ck29
theorem tb30_ok:wF Tryz.prog tb30:=wF.batch wK tb29_ok ck30
theorem tb31_ok:wF Tryz.prog tb31:=wF.batch wK tb30_ok ck31
theorem tb32_ok:wF Tryz.prog tb32:=wF.batch wK tb31_ok ck32
theorem tb33_ok:wF Tryz.prog tb33:=wF.batch wK tb32_ok ck33
theorem tb34_ok:wF Tryz.prog tb34:=wF.batch wK tb33_ok ck34
theorem tb35_ok:wF Tryz.prog tb35:=wF.batch wK tb34_ok ck35
theorem tb36_ok:wF Tryz.prog tb36:=wF.batch wK tb35_ok ck36
theorem tb37_ok:wF Tryz.prog tb37:=wF.batch wK tb36_ok ck37
theorem tb38_ok:wF Tryz.prog tb38:=wF.batch wK tb37_ok ck38
theorem tb39_ok:wF Tryz.prog tb39:=wF.batch wK tb38_ok ck39
theorem tb40_ok:wF Tryz.prog tb40:=wF.batch wK tb39_ok ck40
theorem tb41_ok:wF Tryz.prog tb41:=wF.batch wK tb40_ok ck41
theorem tb42_ok:wF Tryz.prog tb42:=wF.batch wK tb41_ok ck42
theorem tb43_ok:wF Tryz.prog tb43:=wF.batch wK tb42_ok ck43
theorem tb44_ok:wF Tryz.prog tb44:=wF.batch wK tb43_ok ck44
theorem tb45_ok:wF Tryz.prog tb45:=wF.batch wK tb44_ok ck45
theorem tb46_ok:wF Tryz.prog tb46:=wF.batch wK tb45_ok ck46
theorem tb47_ok:wF Tryz.prog tb47:=wF.batch wK tb46_ok ck47
theorem tb48_ok:wF Tryz.prog tb48:=wF.batch wK tb47_ok ck48
theorem tb49_ok:wF Tryz.prog tb49:=wF.batch wK tb48_ok ck49
theorem tb50_ok:wF Tryz.prog tb50:=wF.batch wK tb49_ok ck50
theorem tb51_ok:wF Tryz.prog tb51:=wF.batch wK tb50_ok ck51
theorem tb52_ok:wF Tryz.prog tb52:=wF.batch wK tb51_ok ck52
theorem tb53_ok:wF Tryz.prog tb53:=wF.batch wK tb52_ok ck53
theorem tb54_ok:wF Tryz.prog tb54:=wF.batch wK tb53_ok ck54
theorem tb55_ok:wF Tryz.prog tb55:=wF.batch wK tb54_ok ck55
theorem tb56_ok:wF Tryz.prog tb56:=wF.batch wK tb55_ok ck56
theorem tb57_ok:wF Tryz.prog tb57:=wF.batch wK tb56_ok ck57
theorem tb58_ok:wF Tryz.prog tb58:=wF.batch wK tb57_ok ck58
theorem tb59_ok:wF Tryz.prog tb59:=wF.batch wK tb58_ok ck59
theorem tb60_ok:wF Tryz.prog tb60:=wF.batch wK tb59_ok ck60
theorem tb61_ok:wF Tryz.prog tb61:=wF.batch wK tb60_ok ck61
theorem tb62_ok:wF Tryz.prog tb62:=wF.batch wK tb61_ok ck62
theorem tb63_ok:wF Tryz.prog tb63:=wF.batch wK tb62_ok ck63
theorem tb64_ok:wF Tryz.prog tb64:=wF.batch wK tb63_ok ck64
theorem tb65_ok:wF Tryz.prog tb65:=wF.batch wK tb64_ok ck65
theorem tb66_ok:wF Tryz.prog tb66:=wF.batch wK tb65_ok ck66
theorem tb67_ok:wF Tryz.prog tb67:=wF.batch wK tb66_ok ck67
theorem tb68_ok:wF Tryz.prog tb68:=wF.batch wK tb67_ok ck68
theorem tb69_ok:wF Tryz.prog tb69:=wF.batch wK tb68_ok ck69
theorem tb70_ok:wF Tryz.prog tb70:=wF.batch wK tb69_ok ck70
theorem tb71_ok:wF Tryz.prog tb71:=wF.batch wK tb70_ok ck71
theorem tb72_ok:wF Tryz.prog tb72:=wF.batch wK tb71_ok ck72
theorem tb73_ok:wF Tryz.prog tb73:=wF.batch wK tb72_ok ck73
theorem tb74_ok:wF Tryz.prog tb74:=wF.batch wK tb73_ok ck74
theorem tb75_ok:wF Tryz.prog tb75:=wF.batch wK tb74_ok ck75
theorem tb76_ok:wF Tryz.prog tb76:=wF.batch wK tb75_ok ck76
theorem tb77_ok:wF Tryz.prog tb77:=wF.batch wK tb76_ok ck77
theorem tb78_ok:wF Tryz.prog tb78:=wF.batch wK tb77_ok ck78
theorem tb79_ok:wF Tryz.prog tb79:=wF.batch wK tb78_ok ck79
theorem en171_ok:wP1 Tryz.prog en171:=wF.ents wK tb79_ok ck80 en171 (pE (l:=lb80) (i:=1) rfl)
end Go.Ev
/- The law SessionReads, walked. -/
namespace Go.Proofs.YtmkgenngokjbiaaGreatDoor
open Go.RowKit Go.Vl Go.Ev
theorem num28_any(n:Int)(w:World):Calls Tryz.prog 6 #[.int .i64 n] w fun e w'=>e=.returned (.int .i64 n)∧w=w':=by
 go_enter Tryz.func6,Tryz.ntmps6
 go_wp2
 go_ret
 exact⟨rfl,rfl⟩
theorem qK5(w:World):Calls Tryz.prog 7 #[] w fun e w'=>e=.returned (.bool true)∧Below w.heap.size w w':=qF3 en171_ok rfl rfl rfl w
theorem read28_k(s:ByteArray)(w:World)(hs:s.size≤1048576) :
  Calls Tryz.prog 5 #[.string s] w fun e w'=>Below w.heap.size w w'∧wC2 w w' e (xK (wD s)):=by
 refine(read28_v s hs (fun _=>False) w [.string s] (.cons (.str _) .nil)).mono ?_;rintro e w' ⟨u,y,rfl,rfl,hr,hb⟩;refine⟨hb,?_⟩;cases hr with
 | tup hr=>
  cases hr with
  | cons h1 hr=>
   cases hr with
   |cons h2 hr=>cases hr;cases h2;exact⟨_,rfl,h1.mono fun b h _=>h.resolve_left id⟩
set_option maxRecDepth 100000 in
theorem reads_walk(s:ByteArray)(w:World)(hs:s.size≤1048576)(m:Int)(hm:w.cell? ⟨0,0,none⟩=some (.int .i64 m))(hT:Lib.Utf8Tabs 1 2 w) :
  Calls Tryz.prog 3 #[.string s] w fun e w'=>e=.returned (.bool true)∧Below w.heap.size w w':=by
 have Q1:=hid (readP_any s w hs m hm hT);have Q2:=hid (fun w1=>read28_k s w1 hs);have Q3:=hid qK5;have Q4:=hid num28_any;have hrm:=fun rows h=>wV0 (L:=wD s) (rows:=rows) h;generalize xK (wD s)=Y at *
 have HRM:=hid hrm;clear hrm hm hT
 go_enter Tryz.func3,Tryz.ntmps3
 go_wp2_with fail
 refine Q1.out.mono ?_;rintro e w1 ⟨hb1,v,rfl,hv⟩;clear Q1;obtain⟨b,_,_,n1,c1,n2,c2,a1,a2,rfl,rfl,rfl,hz⟩:=wPI hv;obtain⟨hal1,bm,hsz1⟩:=boxA w1 #[.bool b,.slice a1 n1 c1,.slice a2 n2 c2] 28;have hB1:=hb1.alloc hb1.size (.cells #[.bool b,.slice a1 n1 c1,.slice a2 n2 c2] 28);have HV:=hid hv;have HZ:=hid hz;have HB1:=hid hB1;have HAL1:=hid hal1;have HBM:=hid bm;clear hv hz hB1 hal1 bm hb1 hsz1
 go_wp2_with fail
 refine(Q2.out _).mono ?_;clear Q2;rintro e w2 ⟨hb2,v2,rfl,hv2⟩;obtain⟨b',_,_,n3,c3,n4,c4,a3,a4,rfl,rfl,rfl,_⟩:=wPI hv2;obtain⟨hal2,bw,hsz2⟩:=boxA w2 #[.bool b',.slice a3 n3 c3,.slice a4 n4 c4] 28;have bm2:=(HBM.out.later hb2).later hal2;have d0:=bm2.cell 0 _ rfl;have d1:=bm2.cell 1 _ rfl;have d2:=bm2.cell 2 _ rfl;have e0:=bw.cell 0 _ rfl;have e1:=bw.cell 1 _ rfl;have e2:=bw.cell 2 _ rfl;have hB2:=(HB1.out.trans (hb2.mono HB1.out.size)).alloc (pD HB1.out.size hb2.size) (.cells #[.bool b',.slice a3 n3 c3,.slice a4 n4 c4] 28);have hvA:=((HV.out.later HAL1.out).later hb2).later hal2;have hvB:=hv2.later hal2;have HB2:=hid hB2;have HVA:=hid hvA;have HVB:=hid hvB;clear hb2 hv2 hal2 hsz2 bm2 bw hB2 hvA hvB HBM HV HAL1;by_cases hy:Y.1=0
 ·obtain⟨rows,hrows⟩:∃rows,Y=(0,rows):=⟨Y.2,by rw[←hy]⟩
  have hM:=HRM.out rows hrows;have ev:vRd Y=vM (wB4 (qT rows)):=by rw[hrows];rfl
  have q5:=sameR_v hM;rw[←ev]at q5;have hq5:=fun(w5:World)(hA:Rep (fun _=>True) w5 (vRd Y) (.agg #[.bool b,.slice a1 n1 c1,.slice a2 n2 c2]))(hC:Rep (fun _=>True) w5 (vRd Y) (.agg #[.bool b',.slice a3 n3 c3,.slice a4 n4 c4]))=>q5 (fun _=>True) w5 [_,_] (.cons hA (.cons hC .nil));have Q5:=hid (hq5 _ (HVA.out.mono fun _ _ _=>trivial) (HVB.out.mono fun _ _ _=>trivial));have F0:(((Y.1:Nat):Int) != 0)=false:=by rw[hy];rfl
  have F1:(((Y.1:Nat):Int)==0)=true:=by rw[hy];rfl
  clear q5 hq5 hM ev hrows hy HRM HVA HVB HZ
  go_wp2_with fail
  refine(Q4.out _ _).mono ?_;rintro e w3 ⟨rfl,rfl⟩
  go_wp2_with fail
  refine Q5.out.mono ?_;rintro e w4 ⟨u,y,rfl,rfl,hr,hb4⟩;cases hr;have HB4:=hid (HB2.out.trans (hb4.mono HB2.out.size));clear hb4
  go_wp2_with fail
  refine(Q3.out _).mono ?_;rintro e w5 ⟨rfl,hb5⟩;have HB5:=hid (HB4.out.trans (hb5.mono HB4.out.size));clear hb5
  go_wp2
  go_ret
  exact⟨rfl,HB5.out⟩
 ·obtain⟨rfl,rfl⟩:=HZ.out hy;have F0:(((Y.1:Nat):Int) != 0)=true:=by simp;omega
  clear HRM HVA HVB HZ hy
  go_wp2_with fail
  refine(Q4.out _ _).mono ?_;rintro e w3 ⟨rfl,rfl⟩
  go_wp2_with fail
  refine(Q3.out _).mono ?_;rintro e w5 ⟨rfl,hb5⟩;have HB5:=hid (HB2.out.trans (hb5.mono HB2.out.size));clear hb5
  go_wp2
  go_ret
  exact⟨rfl,HB5.out⟩
end Go.Proofs.YtmkgenngokjbiaaGreatDoor
