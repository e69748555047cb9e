/- The trees of this program's types and functions. -/
import Derived.Test.YtkjhfnhgefbhhaaGreatCf03
import Derived.Test.YtkjhfnhgefbhhaaGreatProg
set_option linter.all false
set_option maxRecDepth 20000
set_option maxHeartbeats 6400000
namespace Go.Ev
open Go.Proofs Go.Proofs.Tryz
abbrev nF {α:Type} (x:α):Tree α:=.nd (some x) .lf .lf
abbrev nD {α:Type} (x:α) (l r:Tree α):Tree α:=.nd (some x) l r
abbrev TP (n:Nat) (x:TypeInfo):Prop:=TyFact Tryz.prog n x
abbrev FP (n:Nat) (x:Func):Prop:=FnFact Tryz.prog n x
theorem oY {α:Type} {Q:α→Prop} {x:α} (h:Q x):∀ y,some x=some y→Q y:=fun _ e=>pF3 e ▸ h
theorem oN {α:Type} {Q:α→Prop}:∀ y,none=some y→Q y:=fun _ e=>nomatch e
theorem lY {α:Type} {Q:Nat→α→Prop} {x:α} (h:Q 0 x):Tree.All Q (nF x):=⟨oY h,trivial,trivial⟩
noncomputable def cxT0:Tree TypeInfo:=nD t31 (nD t63 (nD t127 (nF t255) .lf) (nD t191 (nF t319) .lf)) (nD t95 (nD t159 (nF t287) .lf) (nD t223 (nF t351) .lf))
theorem cxT0_ok:Tree.All (fun k=>TP (2*(2*(2*(2*(2*k+1)+1)+1)+1)+1)) cxT0:=⟨oY type31,⟨oY type63,⟨oY type127,lY type255,trivial⟩,⟨oY type191,lY type319,trivial⟩⟩,⟨oY type95,⟨oY type159,lY type287,trivial⟩,⟨oY type223,lY type351,trivial⟩⟩⟩
noncomputable def cxT1:Tree TypeInfo:=nD t47 (nD t79 (nD t143 (nF t271) .lf) (nD t207 (nF t335) .lf)) (nD t111 (nD t175 (nF t303) .lf) (nF t239))
theorem cxT1_ok:Tree.All (fun k=>TP (2*(2*(2*(2*(2*k+2)+1)+1)+1)+1)) cxT1:=⟨oY type47,⟨oY type79,⟨oY type143,lY type271,trivial⟩,⟨oY type207,lY type335,trivial⟩⟩,⟨oY type111,⟨oY type175,lY type303,trivial⟩,lY type239⟩⟩
noncomputable def cxT2:Tree TypeInfo:=nD t15 cxT0 cxT1
theorem cxT2_ok:Tree.All (fun k=>TP (2*(2*(2*(2*k+1)+1)+1)+1)) cxT2:=⟨oY type15,cxT0_ok,cxT1_ok⟩
noncomputable def cxT3:Tree TypeInfo:=nD t39 (nD t71 (nD t135 (nF t263) .lf) (nD t199 (nF t327) .lf)) (nD t103 (nD t167 (nF t295) .lf) (nD t231 (nF t359) .lf))
theorem cxT3_ok:Tree.All (fun k=>TP (2*(2*(2*(2*(2*k+1)+2)+1)+1)+1)) cxT3:=⟨oY type39,⟨oY type71,⟨oY type135,lY type263,trivial⟩,⟨oY type199,lY type327,trivial⟩⟩,⟨oY type103,⟨oY type167,lY type295,trivial⟩,⟨oY type231,lY type359,trivial⟩⟩⟩
noncomputable def cxT4:Tree TypeInfo:=nD t55 (nD t87 (nD t151 (nF t279) .lf) (nD t215 (nF t343) .lf)) (nD t119 (nD t183 (nF t311) .lf) (nF t247))
theorem cxT4_ok:Tree.All (fun k=>TP (2*(2*(2*(2*(2*k+2)+2)+1)+1)+1)) cxT4:=⟨oY type55,⟨oY type87,⟨oY type151,lY type279,trivial⟩,⟨oY type215,lY type343,trivial⟩⟩,⟨oY type119,⟨oY type183,lY type311,trivial⟩,lY type247⟩⟩
noncomputable def cxT5:Tree TypeInfo:=nD t23 cxT3 cxT4
theorem cxT5_ok:Tree.All (fun k=>TP (2*(2*(2*(2*k+2)+1)+1)+1)) cxT5:=⟨oY type23,cxT3_ok,cxT4_ok⟩
noncomputable def cxT6:Tree TypeInfo:=nD t7 cxT2 cxT5
theorem cxT6_ok:Tree.All (fun k=>TP (2*(2*(2*k+1)+1)+1)) cxT6:=⟨oY type7,cxT2_ok,cxT5_ok⟩
noncomputable def cxT7:Tree TypeInfo:=nD t35 (nD t67 (nD t131 (nF t259) .lf) (nD t195 (nF t323) .lf)) (nD t99 (nD t163 (nF t291) .lf) (nD t227 (nF t355) .lf))
theorem cxT7_ok:Tree.All (fun k=>TP (2*(2*(2*(2*(2*k+1)+1)+2)+1)+1)) cxT7:=⟨oY type35,⟨oY type67,⟨oY type131,lY type259,trivial⟩,⟨oY type195,lY type323,trivial⟩⟩,⟨oY type99,⟨oY type163,lY type291,trivial⟩,⟨oY type227,lY type355,trivial⟩⟩⟩
noncomputable def cxT8:Tree TypeInfo:=nD t51 (nD t83 (nD t147 (nF t275) .lf) (nD t211 (nF t339) .lf)) (nD t115 (nD t179 (nF t307) .lf) (nF t243))
theorem cxT8_ok:Tree.All (fun k=>TP (2*(2*(2*(2*(2*k+2)+1)+2)+1)+1)) cxT8:=⟨oY type51,⟨oY type83,⟨oY type147,lY type275,trivial⟩,⟨oY type211,lY type339,trivial⟩⟩,⟨oY type115,⟨oY type179,lY type307,trivial⟩,lY type243⟩⟩
noncomputable def cxT9:Tree TypeInfo:=nD t19 cxT7 cxT8
theorem cxT9_ok:Tree.All (fun k=>TP (2*(2*(2*(2*k+1)+2)+1)+1)) cxT9:=⟨oY type19,cxT7_ok,cxT8_ok⟩
noncomputable def cxT10:Tree TypeInfo:=nD t43 (nD t75 (nD t139 (nF t267) .lf) (nD t203 (nF t331) .lf)) (nD t107 (nD t171 (nF t299) .lf) (nD t235 (nF t363) .lf))
theorem cxT10_ok:Tree.All (fun k=>TP (2*(2*(2*(2*(2*k+1)+2)+2)+1)+1)) cxT10:=⟨oY type43,⟨oY type75,⟨oY type139,lY type267,trivial⟩,⟨oY type203,lY type331,trivial⟩⟩,⟨oY type107,⟨oY type171,lY type299,trivial⟩,⟨oY type235,lY type363,trivial⟩⟩⟩
noncomputable def cxT11:Tree TypeInfo:=nD t59 (nD t91 (nD t155 (nF t283) .lf) (nD t219 (nF t347) .lf)) (nD t123 (nD t187 (nF t315) .lf) (nF t251))
theorem cxT11_ok:Tree.All (fun k=>TP (2*(2*(2*(2*(2*k+2)+2)+2)+1)+1)) cxT11:=⟨oY type59,⟨oY type91,⟨oY type155,lY type283,trivial⟩,⟨oY type219,lY type347,trivial⟩⟩,⟨oY type123,⟨oY type187,lY type315,trivial⟩,lY type251⟩⟩
noncomputable def cxT12:Tree TypeInfo:=nD t27 cxT10 cxT11
theorem cxT12_ok:Tree.All (fun k=>TP (2*(2*(2*(2*k+2)+2)+1)+1)) cxT12:=⟨oY type27,cxT10_ok,cxT11_ok⟩
noncomputable def cxT13:Tree TypeInfo:=nD t11 cxT9 cxT12
theorem cxT13_ok:Tree.All (fun k=>TP (2*(2*(2*k+2)+1)+1)) cxT13:=⟨oY type11,cxT9_ok,cxT12_ok⟩
noncomputable def cxT14:Tree TypeInfo:=nD t3 cxT6 cxT13
theorem cxT14_ok:Tree.All (fun k=>TP (2*(2*k+1)+1)) cxT14:=⟨oY type3,cxT6_ok,cxT13_ok⟩
noncomputable def cxT15:Tree TypeInfo:=nD t33 (nD t65 (nD t129 (nF t257) .lf) (nD t193 (nF t321) .lf)) (nD t97 (nD t161 (nF t289) .lf) (nD t225 (nF t353) .lf))
theorem cxT15_ok:Tree.All (fun k=>TP (2*(2*(2*(2*(2*k+1)+1)+1)+2)+1)) cxT15:=⟨oY type33,⟨oY type65,⟨oY type129,lY type257,trivial⟩,⟨oY type193,lY type321,trivial⟩⟩,⟨oY type97,⟨oY type161,lY type289,trivial⟩,⟨oY type225,lY type353,trivial⟩⟩⟩
noncomputable def cxT16:Tree TypeInfo:=nD t49 (nD t81 (nD t145 (nF t273) .lf) (nD t209 (nF t337) .lf)) (nD t113 (nD t177 (nF t305) .lf) (nF t241))
theorem cxT16_ok:Tree.All (fun k=>TP (2*(2*(2*(2*(2*k+2)+1)+1)+2)+1)) cxT16:=⟨oY type49,⟨oY type81,⟨oY type145,lY type273,trivial⟩,⟨oY type209,lY type337,trivial⟩⟩,⟨oY type113,⟨oY type177,lY type305,trivial⟩,lY type241⟩⟩
noncomputable def cxT17:Tree TypeInfo:=nD t17 cxT15 cxT16
theorem cxT17_ok:Tree.All (fun k=>TP (2*(2*(2*(2*k+1)+1)+2)+1)) cxT17:=⟨oY type17,cxT15_ok,cxT16_ok⟩
noncomputable def cxT18:Tree TypeInfo:=nD t41 (nD t73 (nD t137 (nF t265) .lf) (nD t201 (nF t329) .lf)) (nD t105 (nD t169 (nF t297) .lf) (nD t233 (nF t361) .lf))
theorem cxT18_ok:Tree.All (fun k=>TP (2*(2*(2*(2*(2*k+1)+2)+1)+2)+1)) cxT18:=⟨oY type41,⟨oY type73,⟨oY type137,lY type265,trivial⟩,⟨oY type201,lY type329,trivial⟩⟩,⟨oY type105,⟨oY type169,lY type297,trivial⟩,⟨oY type233,lY type361,trivial⟩⟩⟩
noncomputable def cxT19:Tree TypeInfo:=nD t57 (nD t89 (nD t153 (nF t281) .lf) (nD t217 (nF t345) .lf)) (nD t121 (nD t185 (nF t313) .lf) (nF t249))
theorem cxT19_ok:Tree.All (fun k=>TP (2*(2*(2*(2*(2*k+2)+2)+1)+2)+1)) cxT19:=⟨oY type57,⟨oY type89,⟨oY type153,lY type281,trivial⟩,⟨oY type217,lY type345,trivial⟩⟩,⟨oY type121,⟨oY type185,lY type313,trivial⟩,lY type249⟩⟩
noncomputable def cxT20:Tree TypeInfo:=nD t25 cxT18 cxT19
theorem cxT20_ok:Tree.All (fun k=>TP (2*(2*(2*(2*k+2)+1)+2)+1)) cxT20:=⟨oY type25,cxT18_ok,cxT19_ok⟩
noncomputable def cxT21:Tree TypeInfo:=nD t9 cxT17 cxT20
theorem cxT21_ok:Tree.All (fun k=>TP (2*(2*(2*k+1)+2)+1)) cxT21:=⟨oY type9,cxT17_ok,cxT20_ok⟩
noncomputable def cxT22:Tree TypeInfo:=nD t37 (nD t69 (nD t133 (nF t261) .lf) (nD t197 (nF t325) .lf)) (nD t101 (nD t165 (nF t293) .lf) (nD t229 (nF t357) .lf))
theorem cxT22_ok:Tree.All (fun k=>TP (2*(2*(2*(2*(2*k+1)+1)+2)+2)+1)) cxT22:=⟨oY type37,⟨oY type69,⟨oY type133,lY type261,trivial⟩,⟨oY type197,lY type325,trivial⟩⟩,⟨oY type101,⟨oY type165,lY type293,trivial⟩,⟨oY type229,lY type357,trivial⟩⟩⟩
noncomputable def cxT23:Tree TypeInfo:=nD t53 (nD t85 (nD t149 (nF t277) .lf) (nD t213 (nF t341) .lf)) (nD t117 (nD t181 (nF t309) .lf) (nF t245))
theorem cxT23_ok:Tree.All (fun k=>TP (2*(2*(2*(2*(2*k+2)+1)+2)+2)+1)) cxT23:=⟨oY type53,⟨oY type85,⟨oY type149,lY type277,trivial⟩,⟨oY type213,lY type341,trivial⟩⟩,⟨oY type117,⟨oY type181,lY type309,trivial⟩,lY type245⟩⟩
noncomputable def cxT24:Tree TypeInfo:=nD t21 cxT22 cxT23
theorem cxT24_ok:Tree.All (fun k=>TP (2*(2*(2*(2*k+1)+2)+2)+1)) cxT24:=⟨oY type21,cxT22_ok,cxT23_ok⟩
noncomputable def cxT25:Tree TypeInfo:=nD t45 (nD t77 (nD t141 (nF t269) .lf) (nD t205 (nF t333) .lf)) (nD t109 (nD t173 (nF t301) .lf) (nF t237))
theorem cxT25_ok:Tree.All (fun k=>TP (2*(2*(2*(2*(2*k+1)+2)+2)+2)+1)) cxT25:=⟨oY type45,⟨oY type77,⟨oY type141,lY type269,trivial⟩,⟨oY type205,lY type333,trivial⟩⟩,⟨oY type109,⟨oY type173,lY type301,trivial⟩,lY type237⟩⟩
noncomputable def cxT26:Tree TypeInfo:=nD t61 (nD t93 (nD t157 (nF t285) .lf) (nD t221 (nF t349) .lf)) (nD t125 (nD t189 (nF t317) .lf) (nF t253))
theorem cxT26_ok:Tree.All (fun k=>TP (2*(2*(2*(2*(2*k+2)+2)+2)+2)+1)) cxT26:=⟨oY type61,⟨oY type93,⟨oY type157,lY type285,trivial⟩,⟨oY type221,lY type349,trivial⟩⟩,⟨oY type125,⟨oY type189,lY type317,trivial⟩,lY type253⟩⟩
noncomputable def cxT27:Tree TypeInfo:=nD t29 cxT25 cxT26
theorem cxT27_ok:Tree.All (fun k=>TP (2*(2*(2*(2*k+2)+2)+2)+1)) cxT27:=⟨oY type29,cxT25_ok,cxT26_ok⟩
noncomputable def cxT28:Tree TypeInfo:=nD t13 cxT24 cxT27
theorem cxT28_ok:Tree.All (fun k=>TP (2*(2*(2*k+2)+2)+1)) cxT28:=⟨oY type13,cxT24_ok,cxT27_ok⟩
noncomputable def cxT29:Tree TypeInfo:=nD t5 cxT21 cxT28
theorem cxT29_ok:Tree.All (fun k=>TP (2*(2*k+2)+1)) cxT29:=⟨oY type5,cxT21_ok,cxT28_ok⟩
noncomputable def cxT30:Tree TypeInfo:=nD t1 cxT14 cxT29
theorem cxT30_ok:Tree.All (fun k=>TP (2*k+1)) cxT30:=⟨oY type1,cxT14_ok,cxT29_ok⟩
noncomputable def cxT31:Tree TypeInfo:=nD t32 (nD t64 (nD t128 (nF t256) .lf) (nD t192 (nF t320) .lf)) (nD t96 (nD t160 (nF t288) .lf) (nD t224 (nF t352) .lf))
theorem cxT31_ok:Tree.All (fun k=>TP (2*(2*(2*(2*(2*k+1)+1)+1)+1)+2)) cxT31:=⟨oY type32,⟨oY type64,⟨oY type128,lY type256,trivial⟩,⟨oY type192,lY type320,trivial⟩⟩,⟨oY type96,⟨oY type160,lY type288,trivial⟩,⟨oY type224,lY type352,trivial⟩⟩⟩
noncomputable def cxT32:Tree TypeInfo:=nD t48 (nD t80 (nD t144 (nF t272) .lf) (nD t208 (nF t336) .lf)) (nD t112 (nD t176 (nF t304) .lf) (nF t240))
theorem cxT32_ok:Tree.All (fun k=>TP (2*(2*(2*(2*(2*k+2)+1)+1)+1)+2)) cxT32:=⟨oY type48,⟨oY type80,⟨oY type144,lY type272,trivial⟩,⟨oY type208,lY type336,trivial⟩⟩,⟨oY type112,⟨oY type176,lY type304,trivial⟩,lY type240⟩⟩
noncomputable def cxT33:Tree TypeInfo:=nD t16 cxT31 cxT32
theorem cxT33_ok:Tree.All (fun k=>TP (2*(2*(2*(2*k+1)+1)+1)+2)) cxT33:=⟨oY type16,cxT31_ok,cxT32_ok⟩
noncomputable def cxT34:Tree TypeInfo:=nD t40 (nD t72 (nD t136 (nF t264) .lf) (nD t200 (nF t328) .lf)) (nD t104 (nD t168 (nF t296) .lf) (nD t232 (nF t360) .lf))
theorem cxT34_ok:Tree.All (fun k=>TP (2*(2*(2*(2*(2*k+1)+2)+1)+1)+2)) cxT34:=⟨oY type40,⟨oY type72,⟨oY type136,lY type264,trivial⟩,⟨oY type200,lY type328,trivial⟩⟩,⟨oY type104,⟨oY type168,lY type296,trivial⟩,⟨oY type232,lY type360,trivial⟩⟩⟩
noncomputable def cxT35:Tree TypeInfo:=nD t56 (nD t88 (nD t152 (nF t280) .lf) (nD t216 (nF t344) .lf)) (nD t120 (nD t184 (nF t312) .lf) (nF t248))
theorem cxT35_ok:Tree.All (fun k=>TP (2*(2*(2*(2*(2*k+2)+2)+1)+1)+2)) cxT35:=⟨oY type56,⟨oY type88,⟨oY type152,lY type280,trivial⟩,⟨oY type216,lY type344,trivial⟩⟩,⟨oY type120,⟨oY type184,lY type312,trivial⟩,lY type248⟩⟩
noncomputable def cxT36:Tree TypeInfo:=nD t24 cxT34 cxT35
theorem cxT36_ok:Tree.All (fun k=>TP (2*(2*(2*(2*k+2)+1)+1)+2)) cxT36:=⟨oY type24,cxT34_ok,cxT35_ok⟩
noncomputable def cxT37:Tree TypeInfo:=nD t8 cxT33 cxT36
theorem cxT37_ok:Tree.All (fun k=>TP (2*(2*(2*k+1)+1)+2)) cxT37:=⟨oY type8,cxT33_ok,cxT36_ok⟩
noncomputable def cxT38:Tree TypeInfo:=nD t36 (nD t68 (nD t132 (nF t260) .lf) (nD t196 (nF t324) .lf)) (nD t100 (nD t164 (nF t292) .lf) (nD t228 (nF t356) .lf))
theorem cxT38_ok:Tree.All (fun k=>TP (2*(2*(2*(2*(2*k+1)+1)+2)+1)+2)) cxT38:=⟨oY type36,⟨oY type68,⟨oY type132,lY type260,trivial⟩,⟨oY type196,lY type324,trivial⟩⟩,⟨oY type100,⟨oY type164,lY type292,trivial⟩,⟨oY type228,lY type356,trivial⟩⟩⟩
noncomputable def cxT39:Tree TypeInfo:=nD t52 (nD t84 (nD t148 (nF t276) .lf) (nD t212 (nF t340) .lf)) (nD t116 (nD t180 (nF t308) .lf) (nF t244))
theorem cxT39_ok:Tree.All (fun k=>TP (2*(2*(2*(2*(2*k+2)+1)+2)+1)+2)) cxT39:=⟨oY type52,⟨oY type84,⟨oY type148,lY type276,trivial⟩,⟨oY type212,lY type340,trivial⟩⟩,⟨oY type116,⟨oY type180,lY type308,trivial⟩,lY type244⟩⟩
noncomputable def cxT40:Tree TypeInfo:=nD t20 cxT38 cxT39
theorem cxT40_ok:Tree.All (fun k=>TP (2*(2*(2*(2*k+1)+2)+1)+2)) cxT40:=⟨oY type20,cxT38_ok,cxT39_ok⟩
noncomputable def cxT41:Tree TypeInfo:=nD t44 (nD t76 (nD t140 (nF t268) .lf) (nD t204 (nF t332) .lf)) (nD t108 (nD t172 (nF t300) .lf) (nF t236))
theorem cxT41_ok:Tree.All (fun k=>TP (2*(2*(2*(2*(2*k+1)+2)+2)+1)+2)) cxT41:=⟨oY type44,⟨oY type76,⟨oY type140,lY type268,trivial⟩,⟨oY type204,lY type332,trivial⟩⟩,⟨oY type108,⟨oY type172,lY type300,trivial⟩,lY type236⟩⟩
noncomputable def cxT42:Tree TypeInfo:=nD t60 (nD t92 (nD t156 (nF t284) .lf) (nD t220 (nF t348) .lf)) (nD t124 (nD t188 (nF t316) .lf) (nF t252))
theorem cxT42_ok:Tree.All (fun k=>TP (2*(2*(2*(2*(2*k+2)+2)+2)+1)+2)) cxT42:=⟨oY type60,⟨oY type92,⟨oY type156,lY type284,trivial⟩,⟨oY type220,lY type348,trivial⟩⟩,⟨oY type124,⟨oY type188,lY type316,trivial⟩,lY type252⟩⟩
noncomputable def cxT43:Tree TypeInfo:=nD t28 cxT41 cxT42
theorem cxT43_ok:Tree.All (fun k=>TP (2*(2*(2*(2*k+2)+2)+1)+2)) cxT43:=⟨oY type28,cxT41_ok,cxT42_ok⟩
noncomputable def cxT44:Tree TypeInfo:=nD t12 cxT40 cxT43
theorem cxT44_ok:Tree.All (fun k=>TP (2*(2*(2*k+2)+1)+2)) cxT44:=⟨oY type12,cxT40_ok,cxT43_ok⟩
noncomputable def cxT45:Tree TypeInfo:=nD t4 cxT37 cxT44
theorem cxT45_ok:Tree.All (fun k=>TP (2*(2*k+1)+2)) cxT45:=⟨oY type4,cxT37_ok,cxT44_ok⟩
noncomputable def cxT46:Tree TypeInfo:=nD t34 (nD t66 (nD t130 (nF t258) .lf) (nD t194 (nF t322) .lf)) (nD t98 (nD t162 (nF t290) .lf) (nD t226 (nF t354) .lf))
theorem cxT46_ok:Tree.All (fun k=>TP (2*(2*(2*(2*(2*k+1)+1)+1)+2)+2)) cxT46:=⟨oY type34,⟨oY type66,⟨oY type130,lY type258,trivial⟩,⟨oY type194,lY type322,trivial⟩⟩,⟨oY type98,⟨oY type162,lY type290,trivial⟩,⟨oY type226,lY type354,trivial⟩⟩⟩
noncomputable def cxT47:Tree TypeInfo:=nD t50 (nD t82 (nD t146 (nF t274) .lf) (nD t210 (nF t338) .lf)) (nD t114 (nD t178 (nF t306) .lf) (nF t242))
theorem cxT47_ok:Tree.All (fun k=>TP (2*(2*(2*(2*(2*k+2)+1)+1)+2)+2)) cxT47:=⟨oY type50,⟨oY type82,⟨oY type146,lY type274,trivial⟩,⟨oY type210,lY type338,trivial⟩⟩,⟨oY type114,⟨oY type178,lY type306,trivial⟩,lY type242⟩⟩
noncomputable def cxT48:Tree TypeInfo:=nD t18 cxT46 cxT47
theorem cxT48_ok:Tree.All (fun k=>TP (2*(2*(2*(2*k+1)+1)+2)+2)) cxT48:=⟨oY type18,cxT46_ok,cxT47_ok⟩
noncomputable def cxT49:Tree TypeInfo:=nD t42 (nD t74 (nD t138 (nF t266) .lf) (nD t202 (nF t330) .lf)) (nD t106 (nD t170 (nF t298) .lf) (nD t234 (nF t362) .lf))
theorem cxT49_ok:Tree.All (fun k=>TP (2*(2*(2*(2*(2*k+1)+2)+1)+2)+2)) cxT49:=⟨oY type42,⟨oY type74,⟨oY type138,lY type266,trivial⟩,⟨oY type202,lY type330,trivial⟩⟩,⟨oY type106,⟨oY type170,lY type298,trivial⟩,⟨oY type234,lY type362,trivial⟩⟩⟩
noncomputable def cxT50:Tree TypeInfo:=nD t58 (nD t90 (nD t154 (nF t282) .lf) (nD t218 (nF t346) .lf)) (nD t122 (nD t186 (nF t314) .lf) (nF t250))
theorem cxT50_ok:Tree.All (fun k=>TP (2*(2*(2*(2*(2*k+2)+2)+1)+2)+2)) cxT50:=⟨oY type58,⟨oY type90,⟨oY type154,lY type282,trivial⟩,⟨oY type218,lY type346,trivial⟩⟩,⟨oY type122,⟨oY type186,lY type314,trivial⟩,lY type250⟩⟩
noncomputable def cxT51:Tree TypeInfo:=nD t26 cxT49 cxT50
theorem cxT51_ok:Tree.All (fun k=>TP (2*(2*(2*(2*k+2)+1)+2)+2)) cxT51:=⟨oY type26,cxT49_ok,cxT50_ok⟩
noncomputable def cxT52:Tree TypeInfo:=nD t10 cxT48 cxT51
theorem cxT52_ok:Tree.All (fun k=>TP (2*(2*(2*k+1)+2)+2)) cxT52:=⟨oY type10,cxT48_ok,cxT51_ok⟩
noncomputable def cxT53:Tree TypeInfo:=nD t38 (nD t70 (nD t134 (nF t262) .lf) (nD t198 (nF t326) .lf)) (nD t102 (nD t166 (nF t294) .lf) (nD t230 (nF t358) .lf))
theorem cxT53_ok:Tree.All (fun k=>TP (2*(2*(2*(2*(2*k+1)+1)+2)+2)+2)) cxT53:=⟨oY type38,⟨oY type70,⟨oY type134,lY type262,trivial⟩,⟨oY type198,lY type326,trivial⟩⟩,⟨oY type102,⟨oY type166,lY type294,trivial⟩,⟨oY type230,lY type358,trivial⟩⟩⟩
noncomputable def cxT54:Tree TypeInfo:=nD t54 (nD t86 (nD t150 (nF t278) .lf) (nD t214 (nF t342) .lf)) (nD t118 (nD t182 (nF t310) .lf) (nF t246))
theorem cxT54_ok:Tree.All (fun k=>TP (2*(2*(2*(2*(2*k+2)+1)+2)+2)+2)) cxT54:=⟨oY type54,⟨oY type86,⟨oY type150,lY type278,trivial⟩,⟨oY type214,lY type342,trivial⟩⟩,⟨oY type118,⟨oY type182,lY type310,trivial⟩,lY type246⟩⟩
noncomputable def cxT55:Tree TypeInfo:=nD t22 cxT53 cxT54
theorem cxT55_ok:Tree.All (fun k=>TP (2*(2*(2*(2*k+1)+2)+2)+2)) cxT55:=⟨oY type22,cxT53_ok,cxT54_ok⟩
noncomputable def cxT56:Tree TypeInfo:=nD t46 (nD t78 (nD t142 (nF t270) .lf) (nD t206 (nF t334) .lf)) (nD t110 (nD t174 (nF t302) .lf) (nF t238))
theorem cxT56_ok:Tree.All (fun k=>TP (2*(2*(2*(2*(2*k+1)+2)+2)+2)+2)) cxT56:=⟨oY type46,⟨oY type78,⟨oY type142,lY type270,trivial⟩,⟨oY type206,lY type334,trivial⟩⟩,⟨oY type110,⟨oY type174,lY type302,trivial⟩,lY type238⟩⟩
noncomputable def cxT57:Tree TypeInfo:=nD t62 (nD t94 (nD t158 (nF t286) .lf) (nD t222 (nF t350) .lf)) (nD t126 (nD t190 (nF t318) .lf) (nF t254))
theorem cxT57_ok:Tree.All (fun k=>TP (2*(2*(2*(2*(2*k+2)+2)+2)+2)+2)) cxT57:=⟨oY type62,⟨oY type94,⟨oY type158,lY type286,trivial⟩,⟨oY type222,lY type350,trivial⟩⟩,⟨oY type126,⟨oY type190,lY type318,trivial⟩,lY type254⟩⟩
noncomputable def cxT58:Tree TypeInfo:=nD t30 cxT56 cxT57
theorem cxT58_ok:Tree.All (fun k=>TP (2*(2*(2*(2*k+2)+2)+2)+2)) cxT58:=⟨oY type30,cxT56_ok,cxT57_ok⟩
noncomputable def cxT59:Tree TypeInfo:=nD t14 cxT55 cxT58
theorem cxT59_ok:Tree.All (fun k=>TP (2*(2*(2*k+2)+2)+2)) cxT59:=⟨oY type14,cxT55_ok,cxT58_ok⟩
noncomputable def cxT60:Tree TypeInfo:=nD t6 cxT52 cxT59
theorem cxT60_ok:Tree.All (fun k=>TP (2*(2*k+2)+2)) cxT60:=⟨oY type6,cxT52_ok,cxT59_ok⟩
noncomputable def cxT61:Tree TypeInfo:=nD t2 cxT45 cxT60
theorem cxT61_ok:Tree.All (fun k=>TP (2*k+2)) cxT61:=⟨oY type2,cxT45_ok,cxT60_ok⟩
noncomputable def cxT62:Tree TypeInfo:=nD t0 cxT30 cxT61
theorem cxT62_ok:Tree.All (fun k=>TP k) cxT62:=⟨oY type0,cxT30_ok,cxT61_ok⟩
noncomputable def cxF63:Tree Func:=nD f31 (nD f63 (nD f127 (nF f255) .lf) (nD f191 (nF f319) .lf)) (nD f95 (nD f159 (nF f287) .lf) (nF f223))
theorem cxF63_ok:Tree.All (fun k=>FP (2*(2*(2*(2*(2*k+1)+1)+1)+1)+1)) cxF63:=⟨oY ⟨func31,call31⟩,⟨oY ⟨func63,call63⟩,⟨oY ⟨func127,call127⟩,lY ⟨func255,call255⟩,trivial⟩,⟨oY ⟨func191,call191⟩,lY ⟨func319,call319⟩,trivial⟩⟩,⟨oY ⟨func95,call95⟩,⟨oY ⟨func159,call159⟩,lY ⟨func287,call287⟩,trivial⟩,lY ⟨func223,call223⟩⟩⟩
noncomputable def cxF64:Tree Func:=nD f47 (nD f79 (nD f143 (nF f271) .lf) (nD f207 (nF f335) .lf)) (nD f111 (nD f175 (nF f303) .lf) (nF f239))
theorem cxF64_ok:Tree.All (fun k=>FP (2*(2*(2*(2*(2*k+2)+1)+1)+1)+1)) cxF64:=⟨oY ⟨func47,call47⟩,⟨oY ⟨func79,call79⟩,⟨oY ⟨func143,call143⟩,lY ⟨func271,call271⟩,trivial⟩,⟨oY ⟨func207,call207⟩,lY ⟨func335,call335⟩,trivial⟩⟩,⟨oY ⟨func111,call111⟩,⟨oY ⟨func175,call175⟩,lY ⟨func303,call303⟩,trivial⟩,lY ⟨func239,call239⟩⟩⟩
noncomputable def cxF65:Tree Func:=nD f15 cxF63 cxF64
theorem cxF65_ok:Tree.All (fun k=>FP (2*(2*(2*(2*k+1)+1)+1)+1)) cxF65:=⟨oY ⟨func15,call15⟩,cxF63_ok,cxF64_ok⟩
noncomputable def cxF66:Tree Func:=nD f39 (nD f71 (nD f135 (nF f263) .lf) (nD f199 (nF f327) .lf)) (nD f103 (nD f167 (nF f295) .lf) (nF f231))
theorem cxF66_ok:Tree.All (fun k=>FP (2*(2*(2*(2*(2*k+1)+2)+1)+1)+1)) cxF66:=⟨oY ⟨func39,call39⟩,⟨oY ⟨func71,call71⟩,⟨oY ⟨func135,call135⟩,lY ⟨func263,call263⟩,trivial⟩,⟨oY ⟨func199,call199⟩,lY ⟨func327,call327⟩,trivial⟩⟩,⟨oY ⟨func103,call103⟩,⟨oY ⟨func167,call167⟩,lY ⟨func295,call295⟩,trivial⟩,lY ⟨func231,call231⟩⟩⟩
noncomputable def cxF67:Tree Func:=nD f55 (nD f87 (nD f151 (nF f279) .lf) (nD f215 (nF f343) .lf)) (nD f119 (nD f183 (nF f311) .lf) (nF f247))
theorem cxF67_ok:Tree.All (fun k=>FP (2*(2*(2*(2*(2*k+2)+2)+1)+1)+1)) cxF67:=⟨oY ⟨func55,call55⟩,⟨oY ⟨func87,call87⟩,⟨oY ⟨func151,call151⟩,lY ⟨func279,call279⟩,trivial⟩,⟨oY ⟨func215,call215⟩,lY ⟨func343,call343⟩,trivial⟩⟩,⟨oY ⟨func119,call119⟩,⟨oY ⟨func183,call183⟩,lY ⟨func311,call311⟩,trivial⟩,lY ⟨func247,call247⟩⟩⟩
noncomputable def cxF68:Tree Func:=nD f23 cxF66 cxF67
theorem cxF68_ok:Tree.All (fun k=>FP (2*(2*(2*(2*k+2)+1)+1)+1)) cxF68:=⟨oY ⟨func23,call23⟩,cxF66_ok,cxF67_ok⟩
noncomputable def cxF69:Tree Func:=nD f7 cxF65 cxF68
theorem cxF69_ok:Tree.All (fun k=>FP (2*(2*(2*k+1)+1)+1)) cxF69:=⟨oY ⟨func7,call7⟩,cxF65_ok,cxF68_ok⟩
noncomputable def cxF70:Tree Func:=nD f35 (nD f67 (nD f131 (nF f259) .lf) (nD f195 (nF f323) .lf)) (nD f99 (nD f163 (nF f291) .lf) (nF f227))
theorem cxF70_ok:Tree.All (fun k=>FP (2*(2*(2*(2*(2*k+1)+1)+2)+1)+1)) cxF70:=⟨oY ⟨func35,call35⟩,⟨oY ⟨func67,call67⟩,⟨oY ⟨func131,call131⟩,lY ⟨func259,call259⟩,trivial⟩,⟨oY ⟨func195,call195⟩,lY ⟨func323,call323⟩,trivial⟩⟩,⟨oY ⟨func99,call99⟩,⟨oY ⟨func163,call163⟩,lY ⟨func291,call291⟩,trivial⟩,lY ⟨func227,call227⟩⟩⟩
noncomputable def cxF71:Tree Func:=nD f51 (nD f83 (nD f147 (nF f275) .lf) (nD f211 (nF f339) .lf)) (nD f115 (nD f179 (nF f307) .lf) (nF f243))
theorem cxF71_ok:Tree.All (fun k=>FP (2*(2*(2*(2*(2*k+2)+1)+2)+1)+1)) cxF71:=⟨oY ⟨func51,call51⟩,⟨oY ⟨func83,call83⟩,⟨oY ⟨func147,call147⟩,lY ⟨func275,call275⟩,trivial⟩,⟨oY ⟨func211,call211⟩,lY ⟨func339,call339⟩,trivial⟩⟩,⟨oY ⟨func115,call115⟩,⟨oY ⟨func179,call179⟩,lY ⟨func307,call307⟩,trivial⟩,lY ⟨func243,call243⟩⟩⟩
noncomputable def cxF72:Tree Func:=nD f19 cxF70 cxF71
theorem cxF72_ok:Tree.All (fun k=>FP (2*(2*(2*(2*k+1)+2)+1)+1)) cxF72:=⟨oY ⟨func19,call19⟩,cxF70_ok,cxF71_ok⟩
noncomputable def cxF73:Tree Func:=nD f43 (nD f75 (nD f139 (nF f267) .lf) (nD f203 (nF f331) .lf)) (nD f107 (nD f171 (nF f299) .lf) (nF f235))
theorem cxF73_ok:Tree.All (fun k=>FP (2*(2*(2*(2*(2*k+1)+2)+2)+1)+1)) cxF73:=⟨oY ⟨func43,call43⟩,⟨oY ⟨func75,call75⟩,⟨oY ⟨func139,call139⟩,lY ⟨func267,call267⟩,trivial⟩,⟨oY ⟨func203,call203⟩,lY ⟨func331,call331⟩,trivial⟩⟩,⟨oY ⟨func107,call107⟩,⟨oY ⟨func171,call171⟩,lY ⟨func299,call299⟩,trivial⟩,lY ⟨func235,call235⟩⟩⟩
noncomputable def cxF74:Tree Func:=nD f59 (nD f91 (nD f155 (nF f283) .lf) (nD f219 (nF f347) .lf)) (nD f123 (nD f187 (nF f315) .lf) (nF f251))
theorem cxF74_ok:Tree.All (fun k=>FP (2*(2*(2*(2*(2*k+2)+2)+2)+1)+1)) cxF74:=⟨oY ⟨func59,call59⟩,⟨oY ⟨func91,call91⟩,⟨oY ⟨func155,call155⟩,lY ⟨func283,call283⟩,trivial⟩,⟨oY ⟨func219,call219⟩,lY ⟨func347,call347⟩,trivial⟩⟩,⟨oY ⟨func123,call123⟩,⟨oY ⟨func187,call187⟩,lY ⟨func315,call315⟩,trivial⟩,lY ⟨func251,call251⟩⟩⟩
noncomputable def cxF75:Tree Func:=nD f27 cxF73 cxF74
theorem cxF75_ok:Tree.All (fun k=>FP (2*(2*(2*(2*k+2)+2)+1)+1)) cxF75:=⟨oY ⟨func27,call27⟩,cxF73_ok,cxF74_ok⟩
noncomputable def cxF76:Tree Func:=nD f11 cxF72 cxF75
theorem cxF76_ok:Tree.All (fun k=>FP (2*(2*(2*k+2)+1)+1)) cxF76:=⟨oY ⟨func11,call11⟩,cxF72_ok,cxF75_ok⟩
noncomputable def cxF77:Tree Func:=nD f3 cxF69 cxF76
theorem cxF77_ok:Tree.All (fun k=>FP (2*(2*k+1)+1)) cxF77:=⟨oY ⟨func3,call3⟩,cxF69_ok,cxF76_ok⟩
noncomputable def cxF78:Tree Func:=nD f33 (nD f65 (nD f129 (nF f257) .lf) (nD f193 (nF f321) .lf)) (nD f97 (nD f161 (nF f289) .lf) (nF f225))
theorem cxF78_ok:Tree.All (fun k=>FP (2*(2*(2*(2*(2*k+1)+1)+1)+2)+1)) cxF78:=⟨oY ⟨func33,call33⟩,⟨oY ⟨func65,call65⟩,⟨oY ⟨func129,call129⟩,lY ⟨func257,call257⟩,trivial⟩,⟨oY ⟨func193,call193⟩,lY ⟨func321,call321⟩,trivial⟩⟩,⟨oY ⟨func97,call97⟩,⟨oY ⟨func161,call161⟩,lY ⟨func289,call289⟩,trivial⟩,lY ⟨func225,call225⟩⟩⟩
noncomputable def cxF79:Tree Func:=nD f49 (nD f81 (nD f145 (nF f273) .lf) (nD f209 (nF f337) .lf)) (nD f113 (nD f177 (nF f305) .lf) (nF f241))
theorem cxF79_ok:Tree.All (fun k=>FP (2*(2*(2*(2*(2*k+2)+1)+1)+2)+1)) cxF79:=⟨oY ⟨func49,call49⟩,⟨oY ⟨func81,call81⟩,⟨oY ⟨func145,call145⟩,lY ⟨func273,call273⟩,trivial⟩,⟨oY ⟨func209,call209⟩,lY ⟨func337,call337⟩,trivial⟩⟩,⟨oY ⟨func113,call113⟩,⟨oY ⟨func177,call177⟩,lY ⟨func305,call305⟩,trivial⟩,lY ⟨func241,call241⟩⟩⟩
noncomputable def cxF80:Tree Func:=nD f17 cxF78 cxF79
theorem cxF80_ok:Tree.All (fun k=>FP (2*(2*(2*(2*k+1)+1)+2)+1)) cxF80:=⟨oY ⟨func17,call17⟩,cxF78_ok,cxF79_ok⟩
noncomputable def cxF81:Tree Func:=nD f41 (nD f73 (nD f137 (nF f265) .lf) (nD f201 (nF f329) .lf)) (nD f105 (nD f169 (nF f297) .lf) (nF f233))
theorem cxF81_ok:Tree.All (fun k=>FP (2*(2*(2*(2*(2*k+1)+2)+1)+2)+1)) cxF81:=⟨oY ⟨func41,call41⟩,⟨oY ⟨func73,call73⟩,⟨oY ⟨func137,call137⟩,lY ⟨func265,call265⟩,trivial⟩,⟨oY ⟨func201,call201⟩,lY ⟨func329,call329⟩,trivial⟩⟩,⟨oY ⟨func105,call105⟩,⟨oY ⟨func169,call169⟩,lY ⟨func297,call297⟩,trivial⟩,lY ⟨func233,call233⟩⟩⟩
noncomputable def cxF82:Tree Func:=nD f57 (nD f89 (nD f153 (nF f281) .lf) (nD f217 (nF f345) .lf)) (nD f121 (nD f185 (nF f313) .lf) (nF f249))
theorem cxF82_ok:Tree.All (fun k=>FP (2*(2*(2*(2*(2*k+2)+2)+1)+2)+1)) cxF82:=⟨oY ⟨func57,call57⟩,⟨oY ⟨func89,call89⟩,⟨oY ⟨func153,call153⟩,lY ⟨func281,call281⟩,trivial⟩,⟨oY ⟨func217,call217⟩,lY ⟨func345,call345⟩,trivial⟩⟩,⟨oY ⟨func121,call121⟩,⟨oY ⟨func185,call185⟩,lY ⟨func313,call313⟩,trivial⟩,lY ⟨func249,call249⟩⟩⟩
noncomputable def cxF83:Tree Func:=nD f25 cxF81 cxF82
theorem cxF83_ok:Tree.All (fun k=>FP (2*(2*(2*(2*k+2)+1)+2)+1)) cxF83:=⟨oY ⟨func25,call25⟩,cxF81_ok,cxF82_ok⟩
noncomputable def cxF84:Tree Func:=nD f9 cxF80 cxF83
theorem cxF84_ok:Tree.All (fun k=>FP (2*(2*(2*k+1)+2)+1)) cxF84:=⟨oY ⟨func9,call9⟩,cxF80_ok,cxF83_ok⟩
noncomputable def cxF85:Tree Func:=nD f37 (nD f69 (nD f133 (nF f261) .lf) (nD f197 (nF f325) .lf)) (nD f101 (nD f165 (nF f293) .lf) (nF f229))
theorem cxF85_ok:Tree.All (fun k=>FP (2*(2*(2*(2*(2*k+1)+1)+2)+2)+1)) cxF85:=⟨oY ⟨func37,call37⟩,⟨oY ⟨func69,call69⟩,⟨oY ⟨func133,call133⟩,lY ⟨func261,call261⟩,trivial⟩,⟨oY ⟨func197,call197⟩,lY ⟨func325,call325⟩,trivial⟩⟩,⟨oY ⟨func101,call101⟩,⟨oY ⟨func165,call165⟩,lY ⟨func293,call293⟩,trivial⟩,lY ⟨func229,call229⟩⟩⟩
noncomputable def cxF86:Tree Func:=nD f53 (nD f85 (nD f149 (nF f277) .lf) (nD f213 (nF f341) .lf)) (nD f117 (nD f181 (nF f309) .lf) (nF f245))
theorem cxF86_ok:Tree.All (fun k=>FP (2*(2*(2*(2*(2*k+2)+1)+2)+2)+1)) cxF86:=⟨oY ⟨func53,call53⟩,⟨oY ⟨func85,call85⟩,⟨oY ⟨func149,call149⟩,lY ⟨func277,call277⟩,trivial⟩,⟨oY ⟨func213,call213⟩,lY ⟨func341,call341⟩,trivial⟩⟩,⟨oY ⟨func117,call117⟩,⟨oY ⟨func181,call181⟩,lY ⟨func309,call309⟩,trivial⟩,lY ⟨func245,call245⟩⟩⟩
noncomputable def cxF87:Tree Func:=nD f21 cxF85 cxF86
theorem cxF87_ok:Tree.All (fun k=>FP (2*(2*(2*(2*k+1)+2)+2)+1)) cxF87:=⟨oY ⟨func21,call21⟩,cxF85_ok,cxF86_ok⟩
noncomputable def cxF88:Tree Func:=nD f45 (nD f77 (nD f141 (nF f269) .lf) (nD f205 (nF f333) .lf)) (nD f109 (nD f173 (nF f301) .lf) (nF f237))
theorem cxF88_ok:Tree.All (fun k=>FP (2*(2*(2*(2*(2*k+1)+2)+2)+2)+1)) cxF88:=⟨oY ⟨func45,call45⟩,⟨oY ⟨func77,call77⟩,⟨oY ⟨func141,call141⟩,lY ⟨func269,call269⟩,trivial⟩,⟨oY ⟨func205,call205⟩,lY ⟨func333,call333⟩,trivial⟩⟩,⟨oY ⟨func109,call109⟩,⟨oY ⟨func173,call173⟩,lY ⟨func301,call301⟩,trivial⟩,lY ⟨func237,call237⟩⟩⟩
noncomputable def cxF89:Tree Func:=nD f61 (nD f93 (nD f157 (nF f285) .lf) (nD f221 (nF f349) .lf)) (nD f125 (nD f189 (nF f317) .lf) (nF f253))
theorem cxF89_ok:Tree.All (fun k=>FP (2*(2*(2*(2*(2*k+2)+2)+2)+2)+1)) cxF89:=⟨oY ⟨func61,call61⟩,⟨oY ⟨func93,call93⟩,⟨oY ⟨func157,call157⟩,lY ⟨func285,call285⟩,trivial⟩,⟨oY ⟨func221,call221⟩,lY ⟨func349,call349⟩,trivial⟩⟩,⟨oY ⟨func125,call125⟩,⟨oY ⟨func189,call189⟩,lY ⟨func317,call317⟩,trivial⟩,lY ⟨func253,call253⟩⟩⟩
noncomputable def cxF90:Tree Func:=nD f29 cxF88 cxF89
theorem cxF90_ok:Tree.All (fun k=>FP (2*(2*(2*(2*k+2)+2)+2)+1)) cxF90:=⟨oY ⟨func29,call29⟩,cxF88_ok,cxF89_ok⟩
noncomputable def cxF91:Tree Func:=nD f13 cxF87 cxF90
theorem cxF91_ok:Tree.All (fun k=>FP (2*(2*(2*k+2)+2)+1)) cxF91:=⟨oY ⟨func13,call13⟩,cxF87_ok,cxF90_ok⟩
noncomputable def cxF92:Tree Func:=nD f5 cxF84 cxF91
theorem cxF92_ok:Tree.All (fun k=>FP (2*(2*k+2)+1)) cxF92:=⟨oY ⟨func5,call5⟩,cxF84_ok,cxF91_ok⟩
noncomputable def cxF93:Tree Func:=.nd none cxF77 cxF92
theorem cxF93_ok:Tree.All (fun k=>FP (2*k+1)) cxF93:=⟨oN,cxF77_ok,cxF92_ok⟩
noncomputable def cxF94:Tree Func:=nD f32 (nD f64 (nD f128 (nF f256) .lf) (nD f192 (nF f320) .lf)) (nD f96 (nD f160 (nF f288) .lf) (nF f224))
theorem cxF94_ok:Tree.All (fun k=>FP (2*(2*(2*(2*(2*k+1)+1)+1)+1)+2)) cxF94:=⟨oY ⟨func32,call32⟩,⟨oY ⟨func64,call64⟩,⟨oY ⟨func128,call128⟩,lY ⟨func256,call256⟩,trivial⟩,⟨oY ⟨func192,call192⟩,lY ⟨func320,call320⟩,trivial⟩⟩,⟨oY ⟨func96,call96⟩,⟨oY ⟨func160,call160⟩,lY ⟨func288,call288⟩,trivial⟩,lY ⟨func224,call224⟩⟩⟩
noncomputable def cxF95:Tree Func:=nD f48 (nD f80 (nD f144 (nF f272) .lf) (nD f208 (nF f336) .lf)) (nD f112 (nD f176 (nF f304) .lf) (nF f240))
theorem cxF95_ok:Tree.All (fun k=>FP (2*(2*(2*(2*(2*k+2)+1)+1)+1)+2)) cxF95:=⟨oY ⟨func48,call48⟩,⟨oY ⟨func80,call80⟩,⟨oY ⟨func144,call144⟩,lY ⟨func272,call272⟩,trivial⟩,⟨oY ⟨func208,call208⟩,lY ⟨func336,call336⟩,trivial⟩⟩,⟨oY ⟨func112,call112⟩,⟨oY ⟨func176,call176⟩,lY ⟨func304,call304⟩,trivial⟩,lY ⟨func240,call240⟩⟩⟩
noncomputable def cxF96:Tree Func:=nD f16 cxF94 cxF95
theorem cxF96_ok:Tree.All (fun k=>FP (2*(2*(2*(2*k+1)+1)+1)+2)) cxF96:=⟨oY ⟨func16,call16⟩,cxF94_ok,cxF95_ok⟩
noncomputable def cxF97:Tree Func:=nD f40 (nD f72 (nD f136 (nF f264) .lf) (nD f200 (nF f328) .lf)) (nD f104 (nD f168 (nF f296) .lf) (nF f232))
theorem cxF97_ok:Tree.All (fun k=>FP (2*(2*(2*(2*(2*k+1)+2)+1)+1)+2)) cxF97:=⟨oY ⟨func40,call40⟩,⟨oY ⟨func72,call72⟩,⟨oY ⟨func136,call136⟩,lY ⟨func264,call264⟩,trivial⟩,⟨oY ⟨func200,call200⟩,lY ⟨func328,call328⟩,trivial⟩⟩,⟨oY ⟨func104,call104⟩,⟨oY ⟨func168,call168⟩,lY ⟨func296,call296⟩,trivial⟩,lY ⟨func232,call232⟩⟩⟩
noncomputable def cxF98:Tree Func:=nD f56 (nD f88 (nD f152 (nF f280) .lf) (nD f216 (nF f344) .lf)) (nD f120 (nD f184 (nF f312) .lf) (nF f248))
theorem cxF98_ok:Tree.All (fun k=>FP (2*(2*(2*(2*(2*k+2)+2)+1)+1)+2)) cxF98:=⟨oY ⟨func56,call56⟩,⟨oY ⟨func88,call88⟩,⟨oY ⟨func152,call152⟩,lY ⟨func280,call280⟩,trivial⟩,⟨oY ⟨func216,call216⟩,lY ⟨func344,call344⟩,trivial⟩⟩,⟨oY ⟨func120,call120⟩,⟨oY ⟨func184,call184⟩,lY ⟨func312,call312⟩,trivial⟩,lY ⟨func248,call248⟩⟩⟩
noncomputable def cxF99:Tree Func:=nD f24 cxF97 cxF98
theorem cxF99_ok:Tree.All (fun k=>FP (2*(2*(2*(2*k+2)+1)+1)+2)) cxF99:=⟨oY ⟨func24,call24⟩,cxF97_ok,cxF98_ok⟩
noncomputable def cxF100:Tree Func:=nD f8 cxF96 cxF99
theorem cxF100_ok:Tree.All (fun k=>FP (2*(2*(2*k+1)+1)+2)) cxF100:=⟨oY ⟨func8,call8⟩,cxF96_ok,cxF99_ok⟩
noncomputable def cxF101:Tree Func:=nD f36 (nD f68 (nD f132 (nF f260) .lf) (nD f196 (nF f324) .lf)) (nD f100 (nD f164 (nF f292) .lf) (nF f228))
theorem cxF101_ok:Tree.All (fun k=>FP (2*(2*(2*(2*(2*k+1)+1)+2)+1)+2)) cxF101:=⟨oY ⟨func36,call36⟩,⟨oY ⟨func68,call68⟩,⟨oY ⟨func132,call132⟩,lY ⟨func260,call260⟩,trivial⟩,⟨oY ⟨func196,call196⟩,lY ⟨func324,call324⟩,trivial⟩⟩,⟨oY ⟨func100,call100⟩,⟨oY ⟨func164,call164⟩,lY ⟨func292,call292⟩,trivial⟩,lY ⟨func228,call228⟩⟩⟩
noncomputable def cxF102:Tree Func:=nD f52 (nD f84 (nD f148 (nF f276) .lf) (nD f212 (nF f340) .lf)) (nD f116 (nD f180 (nF f308) .lf) (nF f244))
theorem cxF102_ok:Tree.All (fun k=>FP (2*(2*(2*(2*(2*k+2)+1)+2)+1)+2)) cxF102:=⟨oY ⟨func52,call52⟩,⟨oY ⟨func84,call84⟩,⟨oY ⟨func148,call148⟩,lY ⟨func276,call276⟩,trivial⟩,⟨oY ⟨func212,call212⟩,lY ⟨func340,call340⟩,trivial⟩⟩,⟨oY ⟨func116,call116⟩,⟨oY ⟨func180,call180⟩,lY ⟨func308,call308⟩,trivial⟩,lY ⟨func244,call244⟩⟩⟩
noncomputable def cxF103:Tree Func:=nD f20 cxF101 cxF102
theorem cxF103_ok:Tree.All (fun k=>FP (2*(2*(2*(2*k+1)+2)+1)+2)) cxF103:=⟨oY ⟨func20,call20⟩,cxF101_ok,cxF102_ok⟩
noncomputable def cxF104:Tree Func:=nD f44 (nD f76 (nD f140 (nF f268) .lf) (nD f204 (nF f332) .lf)) (nD f108 (nD f172 (nF f300) .lf) (nF f236))
theorem cxF104_ok:Tree.All (fun k=>FP (2*(2*(2*(2*(2*k+1)+2)+2)+1)+2)) cxF104:=⟨oY ⟨func44,call44⟩,⟨oY ⟨func76,call76⟩,⟨oY ⟨func140,call140⟩,lY ⟨func268,call268⟩,trivial⟩,⟨oY ⟨func204,call204⟩,lY ⟨func332,call332⟩,trivial⟩⟩,⟨oY ⟨func108,call108⟩,⟨oY ⟨func172,call172⟩,lY ⟨func300,call300⟩,trivial⟩,lY ⟨func236,call236⟩⟩⟩
noncomputable def cxF105:Tree Func:=nD f60 (nD f92 (nD f156 (nF f284) .lf) (nD f220 (nF f348) .lf)) (nD f124 (nD f188 (nF f316) .lf) (nF f252))
theorem cxF105_ok:Tree.All (fun k=>FP (2*(2*(2*(2*(2*k+2)+2)+2)+1)+2)) cxF105:=⟨oY ⟨func60,call60⟩,⟨oY ⟨func92,call92⟩,⟨oY ⟨func156,call156⟩,lY ⟨func284,call284⟩,trivial⟩,⟨oY ⟨func220,call220⟩,lY ⟨func348,call348⟩,trivial⟩⟩,⟨oY ⟨func124,call124⟩,⟨oY ⟨func188,call188⟩,lY ⟨func316,call316⟩,trivial⟩,lY ⟨func252,call252⟩⟩⟩
noncomputable def cxF106:Tree Func:=nD f28 cxF104 cxF105
theorem cxF106_ok:Tree.All (fun k=>FP (2*(2*(2*(2*k+2)+2)+1)+2)) cxF106:=⟨oY ⟨func28,call28⟩,cxF104_ok,cxF105_ok⟩
noncomputable def cxF107:Tree Func:=nD f12 cxF103 cxF106
theorem cxF107_ok:Tree.All (fun k=>FP (2*(2*(2*k+2)+1)+2)) cxF107:=⟨oY ⟨func12,call12⟩,cxF103_ok,cxF106_ok⟩
noncomputable def cxF108:Tree Func:=nD f4 cxF100 cxF107
theorem cxF108_ok:Tree.All (fun k=>FP (2*(2*k+1)+2)) cxF108:=⟨oY ⟨func4,call4⟩,cxF100_ok,cxF107_ok⟩
noncomputable def cxF109:Tree Func:=nD f34 (nD f66 (nD f130 (nF f258) .lf) (nD f194 (nF f322) .lf)) (nD f98 (nD f162 (nF f290) .lf) (nF f226))
theorem cxF109_ok:Tree.All (fun k=>FP (2*(2*(2*(2*(2*k+1)+1)+1)+2)+2)) cxF109:=⟨oY ⟨func34,call34⟩,⟨oY ⟨func66,call66⟩,⟨oY ⟨func130,call130⟩,lY ⟨func258,call258⟩,trivial⟩,⟨oY ⟨func194,call194⟩,lY ⟨func322,call322⟩,trivial⟩⟩,⟨oY ⟨func98,call98⟩,⟨oY ⟨func162,call162⟩,lY ⟨func290,call290⟩,trivial⟩,lY ⟨func226,call226⟩⟩⟩
noncomputable def cxF110:Tree Func:=nD f50 (nD f82 (nD f146 (nF f274) .lf) (nD f210 (nF f338) .lf)) (nD f114 (nD f178 (nF f306) .lf) (nF f242))
theorem cxF110_ok:Tree.All (fun k=>FP (2*(2*(2*(2*(2*k+2)+1)+1)+2)+2)) cxF110:=⟨oY ⟨func50,call50⟩,⟨oY ⟨func82,call82⟩,⟨oY ⟨func146,call146⟩,lY ⟨func274,call274⟩,trivial⟩,⟨oY ⟨func210,call210⟩,lY ⟨func338,call338⟩,trivial⟩⟩,⟨oY ⟨func114,call114⟩,⟨oY ⟨func178,call178⟩,lY ⟨func306,call306⟩,trivial⟩,lY ⟨func242,call242⟩⟩⟩
noncomputable def cxF111:Tree Func:=nD f18 cxF109 cxF110
theorem cxF111_ok:Tree.All (fun k=>FP (2*(2*(2*(2*k+1)+1)+2)+2)) cxF111:=⟨oY ⟨func18,call18⟩,cxF109_ok,cxF110_ok⟩
noncomputable def cxF112:Tree Func:=nD f42 (nD f74 (nD f138 (nF f266) .lf) (nD f202 (nF f330) .lf)) (nD f106 (nD f170 (nF f298) .lf) (nF f234))
theorem cxF112_ok:Tree.All (fun k=>FP (2*(2*(2*(2*(2*k+1)+2)+1)+2)+2)) cxF112:=⟨oY ⟨func42,call42⟩,⟨oY ⟨func74,call74⟩,⟨oY ⟨func138,call138⟩,lY ⟨func266,call266⟩,trivial⟩,⟨oY ⟨func202,call202⟩,lY ⟨func330,call330⟩,trivial⟩⟩,⟨oY ⟨func106,call106⟩,⟨oY ⟨func170,call170⟩,lY ⟨func298,call298⟩,trivial⟩,lY ⟨func234,call234⟩⟩⟩
noncomputable def cxF113:Tree Func:=nD f58 (nD f90 (nD f154 (nF f282) .lf) (nD f218 (nF f346) .lf)) (nD f122 (nD f186 (nF f314) .lf) (nF f250))
theorem cxF113_ok:Tree.All (fun k=>FP (2*(2*(2*(2*(2*k+2)+2)+1)+2)+2)) cxF113:=⟨oY ⟨func58,call58⟩,⟨oY ⟨func90,call90⟩,⟨oY ⟨func154,call154⟩,lY ⟨func282,call282⟩,trivial⟩,⟨oY ⟨func218,call218⟩,lY ⟨func346,call346⟩,trivial⟩⟩,⟨oY ⟨func122,call122⟩,⟨oY ⟨func186,call186⟩,lY ⟨func314,call314⟩,trivial⟩,lY ⟨func250,call250⟩⟩⟩
noncomputable def cxF114:Tree Func:=nD f26 cxF112 cxF113
theorem cxF114_ok:Tree.All (fun k=>FP (2*(2*(2*(2*k+2)+1)+2)+2)) cxF114:=⟨oY ⟨func26,call26⟩,cxF112_ok,cxF113_ok⟩
noncomputable def cxF115:Tree Func:=nD f10 cxF111 cxF114
theorem cxF115_ok:Tree.All (fun k=>FP (2*(2*(2*k+1)+2)+2)) cxF115:=⟨oY ⟨func10,call10⟩,cxF111_ok,cxF114_ok⟩
noncomputable def cxF116:Tree Func:=nD f38 (nD f70 (nD f134 (nF f262) .lf) (nD f198 (nF f326) .lf)) (nD f102 (nD f166 (nF f294) .lf) (nF f230))
theorem cxF116_ok:Tree.All (fun k=>FP (2*(2*(2*(2*(2*k+1)+1)+2)+2)+2)) cxF116:=⟨oY ⟨func38,call38⟩,⟨oY ⟨func70,call70⟩,⟨oY ⟨func134,call134⟩,lY ⟨func262,call262⟩,trivial⟩,⟨oY ⟨func198,call198⟩,lY ⟨func326,call326⟩,trivial⟩⟩,⟨oY ⟨func102,call102⟩,⟨oY ⟨func166,call166⟩,lY ⟨func294,call294⟩,trivial⟩,lY ⟨func230,call230⟩⟩⟩
noncomputable def cxF117:Tree Func:=nD f54 (nD f86 (nD f150 (nF f278) .lf) (nD f214 (nF f342) .lf)) (nD f118 (nD f182 (nF f310) .lf) (nF f246))
theorem cxF117_ok:Tree.All (fun k=>FP (2*(2*(2*(2*(2*k+2)+1)+2)+2)+2)) cxF117:=⟨oY ⟨func54,call54⟩,⟨oY ⟨func86,call86⟩,⟨oY ⟨func150,call150⟩,lY ⟨func278,call278⟩,trivial⟩,⟨oY ⟨func214,call214⟩,lY ⟨func342,call342⟩,trivial⟩⟩,⟨oY ⟨func118,call118⟩,⟨oY ⟨func182,call182⟩,lY ⟨func310,call310⟩,trivial⟩,lY ⟨func246,call246⟩⟩⟩
noncomputable def cxF118:Tree Func:=nD f22 cxF116 cxF117
theorem cxF118_ok:Tree.All (fun k=>FP (2*(2*(2*(2*k+1)+2)+2)+2)) cxF118:=⟨oY ⟨func22,call22⟩,cxF116_ok,cxF117_ok⟩
noncomputable def cxF119:Tree Func:=nD f46 (nD f78 (nD f142 (nF f270) .lf) (nD f206 (nF f334) .lf)) (nD f110 (nD f174 (nF f302) .lf) (nF f238))
theorem cxF119_ok:Tree.All (fun k=>FP (2*(2*(2*(2*(2*k+1)+2)+2)+2)+2)) cxF119:=⟨oY ⟨func46,call46⟩,⟨oY ⟨func78,call78⟩,⟨oY ⟨func142,call142⟩,lY ⟨func270,call270⟩,trivial⟩,⟨oY ⟨func206,call206⟩,lY ⟨func334,call334⟩,trivial⟩⟩,⟨oY ⟨func110,call110⟩,⟨oY ⟨func174,call174⟩,lY ⟨func302,call302⟩,trivial⟩,lY ⟨func238,call238⟩⟩⟩
noncomputable def cxF120:Tree Func:=nD f62 (nD f94 (nD f158 (nF f286) .lf) (nD f222 (nF f350) .lf)) (nD f126 (nD f190 (nF f318) .lf) (nF f254))
theorem cxF120_ok:Tree.All (fun k=>FP (2*(2*(2*(2*(2*k+2)+2)+2)+2)+2)) cxF120:=⟨oY ⟨func62,call62⟩,⟨oY ⟨func94,call94⟩,⟨oY ⟨func158,call158⟩,lY ⟨func286,call286⟩,trivial⟩,⟨oY ⟨func222,call222⟩,lY ⟨func350,call350⟩,trivial⟩⟩,⟨oY ⟨func126,call126⟩,⟨oY ⟨func190,call190⟩,lY ⟨func318,call318⟩,trivial⟩,lY ⟨func254,call254⟩⟩⟩
noncomputable def cxF121:Tree Func:=nD f30 cxF119 cxF120
theorem cxF121_ok:Tree.All (fun k=>FP (2*(2*(2*(2*k+2)+2)+2)+2)) cxF121:=⟨oY ⟨func30,call30⟩,cxF119_ok,cxF120_ok⟩
noncomputable def cxF122:Tree Func:=nD f14 cxF118 cxF121
theorem cxF122_ok:Tree.All (fun k=>FP (2*(2*(2*k+2)+2)+2)) cxF122:=⟨oY ⟨func14,call14⟩,cxF118_ok,cxF121_ok⟩
noncomputable def cxF123:Tree Func:=nD f6 cxF115 cxF122
theorem cxF123_ok:Tree.All (fun k=>FP (2*(2*k+2)+2)) cxF123:=⟨oY ⟨func6,call6⟩,cxF115_ok,cxF122_ok⟩
noncomputable def cxF124:Tree Func:=nD f2 cxF108 cxF123
theorem cxF124_ok:Tree.All (fun k=>FP (2*k+2)) cxF124:=⟨oY ⟨func2,call2⟩,cxF108_ok,cxF123_ok⟩
noncomputable def cxF125:Tree Func:=.nd none cxF93 cxF124
theorem cxF125_ok:Tree.All (fun k=>FP k) cxF125:=⟨oN,cxF93_ok,cxF124_ok⟩
noncomputable def zV:Cx:=⟨cxT62,cxF125⟩
theorem cxCx_ok (hm:Tryz.prog.follows .mixedOrders=true):CxOk Tryz.prog zV:=cxOk_of cxT62_ok cxF125_ok hm
end Go.Ev
