/- The trees of this program's types and functions. -/
import Derived.Test.YtdcjmnfngabhoaaGreatProg
import Derived.Test.YtdcjmnfngabhoaaGreatCc07
set_option linter.all false
set_option maxRecDepth 20000
set_option maxHeartbeats 6400000
set_option linter.all false
namespace Go.Ev
open Go.Proofs Go.Proofs.Tryz
abbrev nF{α:Type}(x:α):Tree α:=.nd (some x) .lf .lf
abbrev nD{α:Type}(x:α)(l r:Tree α):Tree α:=.nd (some x) l r
abbrev TP(n:Nat)(x:TypeInfo):Prop:=TyFact Tryz.prog n x
abbrev FP(n:Nat)(x:Func):Prop:=FnFact Tryz.prog n x
abbrev XP(n:Nat)(x:ExtK):Prop:=ExFact Tryz.prog n x
theorem oY{α:Type}{Q:α→Prop}{x:α}(h:Q x):∀y,some x=some y→Q y:=fun _ e=>gL e ▸ h
theorem oN{α:Type}{Q:α→Prop}:∀y,none=some y→Q y:=fun _ e=>nomatch e
theorem lY{α:Type}{Q:Nat→α→Prop}{x:α}(h:Q 0 x):Tree.All Q (nF x):=⟨oY h,trivial,trivial⟩
noncomputable def cxT0:Tree TypeInfo:=nD t31 (nD t63 (nD t127 (nF t255) .lf) (nF t191)) (nD t95 (nD t159 (nF t287) .lf) (nF t223))
theorem cxT0_ok:Tree.All (fun k=>TP (2*(2*(2*(2*(2*k+1)+1)+1)+1)+1)) cxT0:=⟨oY type31,⟨oY type63,⟨oY type127,lY type255,trivial⟩,lY type191⟩,⟨oY type95,⟨oY type159,lY type287,trivial⟩,lY type223⟩⟩
noncomputable def cxT1:Tree TypeInfo:=nD t47 (nD t79 (nD t143 (nF t271) .lf) (nF t207)) (nD t111 (nD t175 (nF t303) .lf) (nF t239))
theorem cxT1_ok:Tree.All (fun k=>TP (2*(2*(2*(2*(2*k+2)+1)+1)+1)+1)) cxT1:=⟨oY type47,⟨oY type79,⟨oY type143,lY type271,trivial⟩,lY type207⟩,⟨oY type111,⟨oY type175,lY type303,trivial⟩,lY type239⟩⟩
noncomputable def cxT2:Tree TypeInfo:=nD t15 cxT0 cxT1
theorem cxT2_ok:Tree.All (fun k=>TP (2*(2*(2*(2*k+1)+1)+1)+1)) cxT2:=⟨oY type15,cxT0_ok,cxT1_ok⟩
noncomputable def cxT3:Tree TypeInfo:=nD t39 (nD t71 (nD t135 (nF t263) .lf) (nF t199)) (nD t103 (nD t167 (nF t295) .lf) (nF t231))
theorem cxT3_ok:Tree.All (fun k=>TP (2*(2*(2*(2*(2*k+1)+2)+1)+1)+1)) cxT3:=⟨oY type39,⟨oY type71,⟨oY type135,lY type263,trivial⟩,lY type199⟩,⟨oY type103,⟨oY type167,lY type295,trivial⟩,lY type231⟩⟩
noncomputable def cxT4:Tree TypeInfo:=nD t55 (nD t87 (nD t151 (nF t279) .lf) (nF t215)) (nD t119 (nD t183 (nF t311) .lf) (nF t247))
theorem cxT4_ok:Tree.All (fun k=>TP (2*(2*(2*(2*(2*k+2)+2)+1)+1)+1)) cxT4:=⟨oY type55,⟨oY type87,⟨oY type151,lY type279,trivial⟩,lY type215⟩,⟨oY type119,⟨oY type183,lY type311,trivial⟩,lY type247⟩⟩
noncomputable def cxT5:Tree TypeInfo:=nD t23 cxT3 cxT4
theorem cxT5_ok:Tree.All (fun k=>TP (2*(2*(2*(2*k+2)+1)+1)+1)) cxT5:=⟨oY type23,cxT3_ok,cxT4_ok⟩
noncomputable def cxT6:Tree TypeInfo:=nD t7 cxT2 cxT5
theorem cxT6_ok:Tree.All (fun k=>TP (2*(2*(2*k+1)+1)+1)) cxT6:=⟨oY type7,cxT2_ok,cxT5_ok⟩
noncomputable def cxT7:Tree TypeInfo:=nD t35 (nD t67 (nD t131 (nF t259) .lf) (nF t195)) (nD t99 (nD t163 (nF t291) .lf) (nF t227))
theorem cxT7_ok:Tree.All (fun k=>TP (2*(2*(2*(2*(2*k+1)+1)+2)+1)+1)) cxT7:=⟨oY type35,⟨oY type67,⟨oY type131,lY type259,trivial⟩,lY type195⟩,⟨oY type99,⟨oY type163,lY type291,trivial⟩,lY type227⟩⟩
noncomputable def cxT8:Tree TypeInfo:=nD t51 (nD t83 (nD t147 (nF t275) .lf) (nF t211)) (nD t115 (nD t179 (nF t307) .lf) (nF t243))
theorem cxT8_ok:Tree.All (fun k=>TP (2*(2*(2*(2*(2*k+2)+1)+2)+1)+1)) cxT8:=⟨oY type51,⟨oY type83,⟨oY type147,lY type275,trivial⟩,lY type211⟩,⟨oY type115,⟨oY type179,lY type307,trivial⟩,lY type243⟩⟩
noncomputable def cxT9:Tree TypeInfo:=nD t19 cxT7 cxT8
theorem cxT9_ok:Tree.All (fun k=>TP (2*(2*(2*(2*k+1)+2)+1)+1)) cxT9:=⟨oY type19,cxT7_ok,cxT8_ok⟩
noncomputable def cxT10:Tree TypeInfo:=nD t43 (nD t75 (nD t139 (nF t267) .lf) (nF t203)) (nD t107 (nD t171 (nF t299) .lf) (nF t235))
theorem cxT10_ok:Tree.All (fun k=>TP (2*(2*(2*(2*(2*k+1)+2)+2)+1)+1)) cxT10:=⟨oY type43,⟨oY type75,⟨oY type139,lY type267,trivial⟩,lY type203⟩,⟨oY type107,⟨oY type171,lY type299,trivial⟩,lY type235⟩⟩
noncomputable def cxT11:Tree TypeInfo:=nD t59 (nD t91 (nD t155 (nF t283) .lf) (nF t219)) (nD t123 (nD t187 (nF t315) .lf) (nF t251))
theorem cxT11_ok:Tree.All (fun k=>TP (2*(2*(2*(2*(2*k+2)+2)+2)+1)+1)) cxT11:=⟨oY type59,⟨oY type91,⟨oY type155,lY type283,trivial⟩,lY type219⟩,⟨oY type123,⟨oY type187,lY type315,trivial⟩,lY type251⟩⟩
noncomputable def cxT12:Tree TypeInfo:=nD t27 cxT10 cxT11
theorem cxT12_ok:Tree.All (fun k=>TP (2*(2*(2*(2*k+2)+2)+1)+1)) cxT12:=⟨oY type27,cxT10_ok,cxT11_ok⟩
noncomputable def cxT13:Tree TypeInfo:=nD t11 cxT9 cxT12
theorem cxT13_ok:Tree.All (fun k=>TP (2*(2*(2*k+2)+1)+1)) cxT13:=⟨oY type11,cxT9_ok,cxT12_ok⟩
noncomputable def cxT14:Tree TypeInfo:=nD t3 cxT6 cxT13
theorem cxT14_ok:Tree.All (fun k=>TP (2*(2*k+1)+1)) cxT14:=⟨oY type3,cxT6_ok,cxT13_ok⟩
noncomputable def cxT15:Tree TypeInfo:=nD t33 (nD t65 (nD t129 (nF t257) .lf) (nF t193)) (nD t97 (nD t161 (nF t289) .lf) (nF t225))
theorem cxT15_ok:Tree.All (fun k=>TP (2*(2*(2*(2*(2*k+1)+1)+1)+2)+1)) cxT15:=⟨oY type33,⟨oY type65,⟨oY type129,lY type257,trivial⟩,lY type193⟩,⟨oY type97,⟨oY type161,lY type289,trivial⟩,lY type225⟩⟩
noncomputable def cxT16:Tree TypeInfo:=nD t49 (nD t81 (nD t145 (nF t273) .lf) (nF t209)) (nD t113 (nD t177 (nF t305) .lf) (nF t241))
theorem cxT16_ok:Tree.All (fun k=>TP (2*(2*(2*(2*(2*k+2)+1)+1)+2)+1)) cxT16:=⟨oY type49,⟨oY type81,⟨oY type145,lY type273,trivial⟩,lY type209⟩,⟨oY type113,⟨oY type177,lY type305,trivial⟩,lY type241⟩⟩
noncomputable def cxT17:Tree TypeInfo:=nD t17 cxT15 cxT16
theorem cxT17_ok:Tree.All (fun k=>TP (2*(2*(2*(2*k+1)+1)+2)+1)) cxT17:=⟨oY type17,cxT15_ok,cxT16_ok⟩
noncomputable def cxT18:Tree TypeInfo:=nD t41 (nD t73 (nD t137 (nF t265) .lf) (nF t201)) (nD t105 (nD t169 (nF t297) .lf) (nF t233))
theorem cxT18_ok:Tree.All (fun k=>TP (2*(2*(2*(2*(2*k+1)+2)+1)+2)+1)) cxT18:=⟨oY type41,⟨oY type73,⟨oY type137,lY type265,trivial⟩,lY type201⟩,⟨oY type105,⟨oY type169,lY type297,trivial⟩,lY type233⟩⟩
noncomputable def cxT19:Tree TypeInfo:=nD t57 (nD t89 (nD t153 (nF t281) .lf) (nF t217)) (nD t121 (nD t185 (nF t313) .lf) (nF t249))
theorem cxT19_ok:Tree.All (fun k=>TP (2*(2*(2*(2*(2*k+2)+2)+1)+2)+1)) cxT19:=⟨oY type57,⟨oY type89,⟨oY type153,lY type281,trivial⟩,lY type217⟩,⟨oY type121,⟨oY type185,lY type313,trivial⟩,lY type249⟩⟩
noncomputable def cxT20:Tree TypeInfo:=nD t25 cxT18 cxT19
theorem cxT20_ok:Tree.All (fun k=>TP (2*(2*(2*(2*k+2)+1)+2)+1)) cxT20:=⟨oY type25,cxT18_ok,cxT19_ok⟩
noncomputable def cxT21:Tree TypeInfo:=nD t9 cxT17 cxT20
theorem cxT21_ok:Tree.All (fun k=>TP (2*(2*(2*k+1)+2)+1)) cxT21:=⟨oY type9,cxT17_ok,cxT20_ok⟩
noncomputable def cxT22:Tree TypeInfo:=nD t37 (nD t69 (nD t133 (nF t261) .lf) (nF t197)) (nD t101 (nD t165 (nF t293) .lf) (nF t229))
theorem cxT22_ok:Tree.All (fun k=>TP (2*(2*(2*(2*(2*k+1)+1)+2)+2)+1)) cxT22:=⟨oY type37,⟨oY type69,⟨oY type133,lY type261,trivial⟩,lY type197⟩,⟨oY type101,⟨oY type165,lY type293,trivial⟩,lY type229⟩⟩
noncomputable def cxT23:Tree TypeInfo:=nD t53 (nD t85 (nD t149 (nF t277) .lf) (nF t213)) (nD t117 (nD t181 (nF t309) .lf) (nF t245))
theorem cxT23_ok:Tree.All (fun k=>TP (2*(2*(2*(2*(2*k+2)+1)+2)+2)+1)) cxT23:=⟨oY type53,⟨oY type85,⟨oY type149,lY type277,trivial⟩,lY type213⟩,⟨oY type117,⟨oY type181,lY type309,trivial⟩,lY type245⟩⟩
noncomputable def cxT24:Tree TypeInfo:=nD t21 cxT22 cxT23
theorem cxT24_ok:Tree.All (fun k=>TP (2*(2*(2*(2*k+1)+2)+2)+1)) cxT24:=⟨oY type21,cxT22_ok,cxT23_ok⟩
noncomputable def cxT25:Tree TypeInfo:=nD t45 (nD t77 (nD t141 (nF t269) .lf) (nF t205)) (nD t109 (nD t173 (nF t301) .lf) (nF t237))
theorem cxT25_ok:Tree.All (fun k=>TP (2*(2*(2*(2*(2*k+1)+2)+2)+2)+1)) cxT25:=⟨oY type45,⟨oY type77,⟨oY type141,lY type269,trivial⟩,lY type205⟩,⟨oY type109,⟨oY type173,lY type301,trivial⟩,lY type237⟩⟩
noncomputable def cxT26:Tree TypeInfo:=nD t61 (nD t93 (nD t157 (nF t285) .lf) (nF t221)) (nD t125 (nF t189) (nF t253))
theorem cxT26_ok:Tree.All (fun k=>TP (2*(2*(2*(2*(2*k+2)+2)+2)+2)+1)) cxT26:=⟨oY type61,⟨oY type93,⟨oY type157,lY type285,trivial⟩,lY type221⟩,⟨oY type125,lY type189,lY type253⟩⟩
noncomputable def cxT27:Tree TypeInfo:=nD t29 cxT25 cxT26
theorem cxT27_ok:Tree.All (fun k=>TP (2*(2*(2*(2*k+2)+2)+2)+1)) cxT27:=⟨oY type29,cxT25_ok,cxT26_ok⟩
noncomputable def cxT28:Tree TypeInfo:=nD t13 cxT24 cxT27
theorem cxT28_ok:Tree.All (fun k=>TP (2*(2*(2*k+2)+2)+1)) cxT28:=⟨oY type13,cxT24_ok,cxT27_ok⟩
noncomputable def cxT29:Tree TypeInfo:=nD t5 cxT21 cxT28
theorem cxT29_ok:Tree.All (fun k=>TP (2*(2*k+2)+1)) cxT29:=⟨oY type5,cxT21_ok,cxT28_ok⟩
noncomputable def cxT30:Tree TypeInfo:=nD t1 cxT14 cxT29
theorem cxT30_ok:Tree.All (fun k=>TP (2*k+1)) cxT30:=⟨oY type1,cxT14_ok,cxT29_ok⟩
noncomputable def cxT31:Tree TypeInfo:=nD t32 (nD t64 (nD t128 (nF t256) .lf) (nF t192)) (nD t96 (nD t160 (nF t288) .lf) (nF t224))
theorem cxT31_ok:Tree.All (fun k=>TP (2*(2*(2*(2*(2*k+1)+1)+1)+1)+2)) cxT31:=⟨oY type32,⟨oY type64,⟨oY type128,lY type256,trivial⟩,lY type192⟩,⟨oY type96,⟨oY type160,lY type288,trivial⟩,lY type224⟩⟩
noncomputable def cxT32:Tree TypeInfo:=nD t48 (nD t80 (nD t144 (nF t272) .lf) (nF t208)) (nD t112 (nD t176 (nF t304) .lf) (nF t240))
theorem cxT32_ok:Tree.All (fun k=>TP (2*(2*(2*(2*(2*k+2)+1)+1)+1)+2)) cxT32:=⟨oY type48,⟨oY type80,⟨oY type144,lY type272,trivial⟩,lY type208⟩,⟨oY type112,⟨oY type176,lY type304,trivial⟩,lY type240⟩⟩
noncomputable def cxT33:Tree TypeInfo:=nD t16 cxT31 cxT32
theorem cxT33_ok:Tree.All (fun k=>TP (2*(2*(2*(2*k+1)+1)+1)+2)) cxT33:=⟨oY type16,cxT31_ok,cxT32_ok⟩
noncomputable def cxT34:Tree TypeInfo:=nD t40 (nD t72 (nD t136 (nF t264) .lf) (nF t200)) (nD t104 (nD t168 (nF t296) .lf) (nF t232))
theorem cxT34_ok:Tree.All (fun k=>TP (2*(2*(2*(2*(2*k+1)+2)+1)+1)+2)) cxT34:=⟨oY type40,⟨oY type72,⟨oY type136,lY type264,trivial⟩,lY type200⟩,⟨oY type104,⟨oY type168,lY type296,trivial⟩,lY type232⟩⟩
noncomputable def cxT35:Tree TypeInfo:=nD t56 (nD t88 (nD t152 (nF t280) .lf) (nF t216)) (nD t120 (nD t184 (nF t312) .lf) (nF t248))
theorem cxT35_ok:Tree.All (fun k=>TP (2*(2*(2*(2*(2*k+2)+2)+1)+1)+2)) cxT35:=⟨oY type56,⟨oY type88,⟨oY type152,lY type280,trivial⟩,lY type216⟩,⟨oY type120,⟨oY type184,lY type312,trivial⟩,lY type248⟩⟩
noncomputable def cxT36:Tree TypeInfo:=nD t24 cxT34 cxT35
theorem cxT36_ok:Tree.All (fun k=>TP (2*(2*(2*(2*k+2)+1)+1)+2)) cxT36:=⟨oY type24,cxT34_ok,cxT35_ok⟩
noncomputable def cxT37:Tree TypeInfo:=nD t8 cxT33 cxT36
theorem cxT37_ok:Tree.All (fun k=>TP (2*(2*(2*k+1)+1)+2)) cxT37:=⟨oY type8,cxT33_ok,cxT36_ok⟩
noncomputable def cxT38:Tree TypeInfo:=nD t36 (nD t68 (nD t132 (nF t260) .lf) (nF t196)) (nD t100 (nD t164 (nF t292) .lf) (nF t228))
theorem cxT38_ok:Tree.All (fun k=>TP (2*(2*(2*(2*(2*k+1)+1)+2)+1)+2)) cxT38:=⟨oY type36,⟨oY type68,⟨oY type132,lY type260,trivial⟩,lY type196⟩,⟨oY type100,⟨oY type164,lY type292,trivial⟩,lY type228⟩⟩
noncomputable def cxT39:Tree TypeInfo:=nD t52 (nD t84 (nD t148 (nF t276) .lf) (nF t212)) (nD t116 (nD t180 (nF t308) .lf) (nF t244))
theorem cxT39_ok:Tree.All (fun k=>TP (2*(2*(2*(2*(2*k+2)+1)+2)+1)+2)) cxT39:=⟨oY type52,⟨oY type84,⟨oY type148,lY type276,trivial⟩,lY type212⟩,⟨oY type116,⟨oY type180,lY type308,trivial⟩,lY type244⟩⟩
noncomputable def cxT40:Tree TypeInfo:=nD t20 cxT38 cxT39
theorem cxT40_ok:Tree.All (fun k=>TP (2*(2*(2*(2*k+1)+2)+1)+2)) cxT40:=⟨oY type20,cxT38_ok,cxT39_ok⟩
noncomputable def cxT41:Tree TypeInfo:=nD t44 (nD t76 (nD t140 (nF t268) .lf) (nF t204)) (nD t108 (nD t172 (nF t300) .lf) (nF t236))
theorem cxT41_ok:Tree.All (fun k=>TP (2*(2*(2*(2*(2*k+1)+2)+2)+1)+2)) cxT41:=⟨oY type44,⟨oY type76,⟨oY type140,lY type268,trivial⟩,lY type204⟩,⟨oY type108,⟨oY type172,lY type300,trivial⟩,lY type236⟩⟩
noncomputable def cxT42:Tree TypeInfo:=nD t60 (nD t92 (nD t156 (nF t284) .lf) (nF t220)) (nD t124 (nD t188 (nF t316) .lf) (nF t252))
theorem cxT42_ok:Tree.All (fun k=>TP (2*(2*(2*(2*(2*k+2)+2)+2)+1)+2)) cxT42:=⟨oY type60,⟨oY type92,⟨oY type156,lY type284,trivial⟩,lY type220⟩,⟨oY type124,⟨oY type188,lY type316,trivial⟩,lY type252⟩⟩
noncomputable def cxT43:Tree TypeInfo:=nD t28 cxT41 cxT42
theorem cxT43_ok:Tree.All (fun k=>TP (2*(2*(2*(2*k+2)+2)+1)+2)) cxT43:=⟨oY type28,cxT41_ok,cxT42_ok⟩
noncomputable def cxT44:Tree TypeInfo:=nD t12 cxT40 cxT43
theorem cxT44_ok:Tree.All (fun k=>TP (2*(2*(2*k+2)+1)+2)) cxT44:=⟨oY type12,cxT40_ok,cxT43_ok⟩
noncomputable def cxT45:Tree TypeInfo:=nD t4 cxT37 cxT44
theorem cxT45_ok:Tree.All (fun k=>TP (2*(2*k+1)+2)) cxT45:=⟨oY type4,cxT37_ok,cxT44_ok⟩
noncomputable def cxT46:Tree TypeInfo:=nD t34 (nD t66 (nD t130 (nF t258) .lf) (nF t194)) (nD t98 (nD t162 (nF t290) .lf) (nF t226))
theorem cxT46_ok:Tree.All (fun k=>TP (2*(2*(2*(2*(2*k+1)+1)+1)+2)+2)) cxT46:=⟨oY type34,⟨oY type66,⟨oY type130,lY type258,trivial⟩,lY type194⟩,⟨oY type98,⟨oY type162,lY type290,trivial⟩,lY type226⟩⟩
noncomputable def cxT47:Tree TypeInfo:=nD t50 (nD t82 (nD t146 (nF t274) .lf) (nF t210)) (nD t114 (nD t178 (nF t306) .lf) (nF t242))
theorem cxT47_ok:Tree.All (fun k=>TP (2*(2*(2*(2*(2*k+2)+1)+1)+2)+2)) cxT47:=⟨oY type50,⟨oY type82,⟨oY type146,lY type274,trivial⟩,lY type210⟩,⟨oY type114,⟨oY type178,lY type306,trivial⟩,lY type242⟩⟩
noncomputable def cxT48:Tree TypeInfo:=nD t18 cxT46 cxT47
theorem cxT48_ok:Tree.All (fun k=>TP (2*(2*(2*(2*k+1)+1)+2)+2)) cxT48:=⟨oY type18,cxT46_ok,cxT47_ok⟩
noncomputable def cxT49:Tree TypeInfo:=nD t42 (nD t74 (nD t138 (nF t266) .lf) (nF t202)) (nD t106 (nD t170 (nF t298) .lf) (nF t234))
theorem cxT49_ok:Tree.All (fun k=>TP (2*(2*(2*(2*(2*k+1)+2)+1)+2)+2)) cxT49:=⟨oY type42,⟨oY type74,⟨oY type138,lY type266,trivial⟩,lY type202⟩,⟨oY type106,⟨oY type170,lY type298,trivial⟩,lY type234⟩⟩
noncomputable def cxT50:Tree TypeInfo:=nD t58 (nD t90 (nD t154 (nF t282) .lf) (nF t218)) (nD t122 (nD t186 (nF t314) .lf) (nF t250))
theorem cxT50_ok:Tree.All (fun k=>TP (2*(2*(2*(2*(2*k+2)+2)+1)+2)+2)) cxT50:=⟨oY type58,⟨oY type90,⟨oY type154,lY type282,trivial⟩,lY type218⟩,⟨oY type122,⟨oY type186,lY type314,trivial⟩,lY type250⟩⟩
noncomputable def cxT51:Tree TypeInfo:=nD t26 cxT49 cxT50
theorem cxT51_ok:Tree.All (fun k=>TP (2*(2*(2*(2*k+2)+1)+2)+2)) cxT51:=⟨oY type26,cxT49_ok,cxT50_ok⟩
noncomputable def cxT52:Tree TypeInfo:=nD t10 cxT48 cxT51
theorem cxT52_ok:Tree.All (fun k=>TP (2*(2*(2*k+1)+2)+2)) cxT52:=⟨oY type10,cxT48_ok,cxT51_ok⟩
noncomputable def cxT53:Tree TypeInfo:=nD t38 (nD t70 (nD t134 (nF t262) .lf) (nF t198)) (nD t102 (nD t166 (nF t294) .lf) (nF t230))
theorem cxT53_ok:Tree.All (fun k=>TP (2*(2*(2*(2*(2*k+1)+1)+2)+2)+2)) cxT53:=⟨oY type38,⟨oY type70,⟨oY type134,lY type262,trivial⟩,lY type198⟩,⟨oY type102,⟨oY type166,lY type294,trivial⟩,lY type230⟩⟩
noncomputable def cxT54:Tree TypeInfo:=nD t54 (nD t86 (nD t150 (nF t278) .lf) (nF t214)) (nD t118 (nD t182 (nF t310) .lf) (nF t246))
theorem cxT54_ok:Tree.All (fun k=>TP (2*(2*(2*(2*(2*k+2)+1)+2)+2)+2)) cxT54:=⟨oY type54,⟨oY type86,⟨oY type150,lY type278,trivial⟩,lY type214⟩,⟨oY type118,⟨oY type182,lY type310,trivial⟩,lY type246⟩⟩
noncomputable def cxT55:Tree TypeInfo:=nD t22 cxT53 cxT54
theorem cxT55_ok:Tree.All (fun k=>TP (2*(2*(2*(2*k+1)+2)+2)+2)) cxT55:=⟨oY type22,cxT53_ok,cxT54_ok⟩
noncomputable def cxT56:Tree TypeInfo:=nD t46 (nD t78 (nD t142 (nF t270) .lf) (nF t206)) (nD t110 (nD t174 (nF t302) .lf) (nF t238))
theorem cxT56_ok:Tree.All (fun k=>TP (2*(2*(2*(2*(2*k+1)+2)+2)+2)+2)) cxT56:=⟨oY type46,⟨oY type78,⟨oY type142,lY type270,trivial⟩,lY type206⟩,⟨oY type110,⟨oY type174,lY type302,trivial⟩,lY type238⟩⟩
noncomputable def cxT57:Tree TypeInfo:=nD t62 (nD t94 (nD t158 (nF t286) .lf) (nF t222)) (nD t126 (nF t190) (nF t254))
theorem cxT57_ok:Tree.All (fun k=>TP (2*(2*(2*(2*(2*k+2)+2)+2)+2)+2)) cxT57:=⟨oY type62,⟨oY type94,⟨oY type158,lY type286,trivial⟩,lY type222⟩,⟨oY type126,lY type190,lY type254⟩⟩
noncomputable def cxT58:Tree TypeInfo:=nD t30 cxT56 cxT57
theorem cxT58_ok:Tree.All (fun k=>TP (2*(2*(2*(2*k+2)+2)+2)+2)) cxT58:=⟨oY type30,cxT56_ok,cxT57_ok⟩
noncomputable def cxT59:Tree TypeInfo:=nD t14 cxT55 cxT58
theorem cxT59_ok:Tree.All (fun k=>TP (2*(2*(2*k+2)+2)+2)) cxT59:=⟨oY type14,cxT55_ok,cxT58_ok⟩
noncomputable def cxT60:Tree TypeInfo:=nD t6 cxT52 cxT59
theorem cxT60_ok:Tree.All (fun k=>TP (2*(2*k+2)+2)) cxT60:=⟨oY type6,cxT52_ok,cxT59_ok⟩
noncomputable def cxT61:Tree TypeInfo:=nD t2 cxT45 cxT60
theorem cxT61_ok:Tree.All (fun k=>TP (2*k+2)) cxT61:=⟨oY type2,cxT45_ok,cxT60_ok⟩
noncomputable def cxT62:Tree TypeInfo:=nD t0 cxT30 cxT61
theorem cxT62_ok:Tree.All (fun k=>TP k) cxT62:=⟨oY type0,cxT30_ok,cxT61_ok⟩
noncomputable def cxF63:Tree Func:=nD f31 (nD f63 (nD f127 (nF f255) .lf) (nF f191)) (nD f95 (nF f159) (nF f223))
theorem cxF63_ok:Tree.All (fun k=>FP (2*(2*(2*(2*(2*k+1)+1)+1)+1)+1)) cxF63:=⟨oY ⟨func31,call31⟩,⟨oY ⟨func63,call63⟩,⟨oY ⟨func127,call127⟩,lY ⟨func255,call255⟩,trivial⟩,lY ⟨func191,call191⟩⟩,⟨oY ⟨func95,call95⟩,lY ⟨func159,call159⟩,lY ⟨func223,call223⟩⟩⟩
noncomputable def cxF64:Tree Func:=nD f15 cxF63 (nD f47 (nD f79 (nF f143) (nF f207)) (nD f111 (nF f175) (nF f239)))
theorem cxF64_ok:Tree.All (fun k=>FP (2*(2*(2*(2*k+1)+1)+1)+1)) cxF64:=⟨oY ⟨func15,call15⟩,cxF63_ok,⟨oY ⟨func47,call47⟩,⟨oY ⟨func79,call79⟩,lY ⟨func143,call143⟩,lY ⟨func207,call207⟩⟩,⟨oY ⟨func111,call111⟩,lY ⟨func175,call175⟩,lY ⟨func239,call239⟩⟩⟩⟩
noncomputable def cxF65:Tree Func:=nD f39 (nD f71 (nD f135 (nF f263) .lf) (nF f199)) (nD f103 (nF f167) (nF f231))
theorem cxF65_ok:Tree.All (fun k=>FP (2*(2*(2*(2*(2*k+1)+2)+1)+1)+1)) cxF65:=⟨oY ⟨func39,call39⟩,⟨oY ⟨func71,call71⟩,⟨oY ⟨func135,call135⟩,lY ⟨func263,call263⟩,trivial⟩,lY ⟨func199,call199⟩⟩,⟨oY ⟨func103,call103⟩,lY ⟨func167,call167⟩,lY ⟨func231,call231⟩⟩⟩
noncomputable def cxF66:Tree Func:=nD f23 cxF65 (nD f55 (nD f87 (nF f151) (nF f215)) (nD f119 (nF f183) (nF f247)))
theorem cxF66_ok:Tree.All (fun k=>FP (2*(2*(2*(2*k+2)+1)+1)+1)) cxF66:=⟨oY ⟨func23,call23⟩,cxF65_ok,⟨oY ⟨func55,call55⟩,⟨oY ⟨func87,call87⟩,lY ⟨func151,call151⟩,lY ⟨func215,call215⟩⟩,⟨oY ⟨func119,call119⟩,lY ⟨func183,call183⟩,lY ⟨func247,call247⟩⟩⟩⟩
noncomputable def cxF67:Tree Func:=nD f7 cxF64 cxF66
theorem cxF67_ok:Tree.All (fun k=>FP (2*(2*(2*k+1)+1)+1)) cxF67:=⟨oY ⟨func7,call7⟩,cxF64_ok,cxF66_ok⟩
noncomputable def cxF68:Tree Func:=nD f35 (nD f67 (nD f131 (nF f259) .lf) (nF f195)) (nD f99 (nF f163) (nF f227))
theorem cxF68_ok:Tree.All (fun k=>FP (2*(2*(2*(2*(2*k+1)+1)+2)+1)+1)) cxF68:=⟨oY ⟨func35,call35⟩,⟨oY ⟨func67,call67⟩,⟨oY ⟨func131,call131⟩,lY ⟨func259,call259⟩,trivial⟩,lY ⟨func195,call195⟩⟩,⟨oY ⟨func99,call99⟩,lY ⟨func163,call163⟩,lY ⟨func227,call227⟩⟩⟩
noncomputable def cxF69:Tree Func:=nD f19 cxF68 (nD f51 (nD f83 (nF f147) (nF f211)) (nD f115 .lf (nF f243)))
theorem cxF69_ok:Tree.All (fun k=>FP (2*(2*(2*(2*k+1)+2)+1)+1)) cxF69:=⟨oY ⟨func19,call19⟩,cxF68_ok,⟨oY ⟨func51,call51⟩,⟨oY ⟨func83,call83⟩,lY ⟨func147,call147⟩,lY ⟨func211,call211⟩⟩,⟨oY ⟨func115,call115⟩,trivial,lY ⟨func243,call243⟩⟩⟩⟩
noncomputable def cxF70:Tree Func:=nD f27 (nD f43 (nD f75 (nF f139) (nF f203)) (nD f107 (nF f171) (nF f235))) (nD f59 (nD f91 (nF f155) (nF f219)) (nD f123 (nF f187) (nF f251)))
theorem cxF70_ok:Tree.All (fun k=>FP (2*(2*(2*(2*k+2)+2)+1)+1)) cxF70:=⟨oY ⟨func27,call27⟩,⟨oY ⟨func43,call43⟩,⟨oY ⟨func75,call75⟩,lY ⟨func139,call139⟩,lY ⟨func203,call203⟩⟩,⟨oY ⟨func107,call107⟩,lY ⟨func171,call171⟩,lY ⟨func235,call235⟩⟩⟩,⟨oY ⟨func59,call59⟩,⟨oY ⟨func91,call91⟩,lY ⟨func155,call155⟩,lY ⟨func219,call219⟩⟩,⟨oY ⟨func123,call123⟩,lY ⟨func187,call187⟩,lY ⟨func251,call251⟩⟩⟩⟩
noncomputable def cxF71:Tree Func:=nD f11 cxF69 cxF70
theorem cxF71_ok:Tree.All (fun k=>FP (2*(2*(2*k+2)+1)+1)) cxF71:=⟨oY ⟨func11,call11⟩,cxF69_ok,cxF70_ok⟩
noncomputable def cxF72:Tree Func:=nD f3 cxF67 cxF71
theorem cxF72_ok:Tree.All (fun k=>FP (2*(2*k+1)+1)) cxF72:=⟨oY ⟨func3,call3⟩,cxF67_ok,cxF71_ok⟩
noncomputable def cxF73:Tree Func:=nD f33 (nD f65 (nD f129 (nF f257) .lf) (nF f193)) (nD f97 (nF f161) (nF f225))
theorem cxF73_ok:Tree.All (fun k=>FP (2*(2*(2*(2*(2*k+1)+1)+1)+2)+1)) cxF73:=⟨oY ⟨func33,call33⟩,⟨oY ⟨func65,call65⟩,⟨oY ⟨func129,call129⟩,lY ⟨func257,call257⟩,trivial⟩,lY ⟨func193,call193⟩⟩,⟨oY ⟨func97,call97⟩,lY ⟨func161,call161⟩,lY ⟨func225,call225⟩⟩⟩
noncomputable def cxF74:Tree Func:=nD f17 cxF73 (nD f49 (nD f81 (nF f145) (nF f209)) (nD f113 (nF f177) (nF f241)))
theorem cxF74_ok:Tree.All (fun k=>FP (2*(2*(2*(2*k+1)+1)+2)+1)) cxF74:=⟨oY ⟨func17,call17⟩,cxF73_ok,⟨oY ⟨func49,call49⟩,⟨oY ⟨func81,call81⟩,lY ⟨func145,call145⟩,lY ⟨func209,call209⟩⟩,⟨oY ⟨func113,call113⟩,lY ⟨func177,call177⟩,lY ⟨func241,call241⟩⟩⟩⟩
noncomputable def cxF75:Tree Func:=nD f41 (nD f73 (nD f137 (nF f265) .lf) (nF f201)) (nD f105 (nF f169) (nF f233))
theorem cxF75_ok:Tree.All (fun k=>FP (2*(2*(2*(2*(2*k+1)+2)+1)+2)+1)) cxF75:=⟨oY ⟨func41,call41⟩,⟨oY ⟨func73,call73⟩,⟨oY ⟨func137,call137⟩,lY ⟨func265,call265⟩,trivial⟩,lY ⟨func201,call201⟩⟩,⟨oY ⟨func105,call105⟩,lY ⟨func169,call169⟩,lY ⟨func233,call233⟩⟩⟩
noncomputable def cxF76:Tree Func:=nD f25 cxF75 (nD f57 (nD f89 (nF f153) (nF f217)) (nD f121 (nF f185) (nF f249)))
theorem cxF76_ok:Tree.All (fun k=>FP (2*(2*(2*(2*k+2)+1)+2)+1)) cxF76:=⟨oY ⟨func25,call25⟩,cxF75_ok,⟨oY ⟨func57,call57⟩,⟨oY ⟨func89,call89⟩,lY ⟨func153,call153⟩,lY ⟨func217,call217⟩⟩,⟨oY ⟨func121,call121⟩,lY ⟨func185,call185⟩,lY ⟨func249,call249⟩⟩⟩⟩
noncomputable def cxF77:Tree Func:=nD f9 cxF74 cxF76
theorem cxF77_ok:Tree.All (fun k=>FP (2*(2*(2*k+1)+2)+1)) cxF77:=⟨oY ⟨func9,call9⟩,cxF74_ok,cxF76_ok⟩
noncomputable def cxF78:Tree Func:=nD f37 (nD f69 (nD f133 (nF f261) .lf) (nF f197)) (nD f101 (nF f165) (nF f229))
theorem cxF78_ok:Tree.All (fun k=>FP (2*(2*(2*(2*(2*k+1)+1)+2)+2)+1)) cxF78:=⟨oY ⟨func37,call37⟩,⟨oY ⟨func69,call69⟩,⟨oY ⟨func133,call133⟩,lY ⟨func261,call261⟩,trivial⟩,lY ⟨func197,call197⟩⟩,⟨oY ⟨func101,call101⟩,lY ⟨func165,call165⟩,lY ⟨func229,call229⟩⟩⟩
noncomputable def cxF79:Tree Func:=nD f21 cxF78 (nD f53 (nD f85 (nF f149) (nF f213)) (nD f117 (nF f181) (nF f245)))
theorem cxF79_ok:Tree.All (fun k=>FP (2*(2*(2*(2*k+1)+2)+2)+1)) cxF79:=⟨oY ⟨func21,call21⟩,cxF78_ok,⟨oY ⟨func53,call53⟩,⟨oY ⟨func85,call85⟩,lY ⟨func149,call149⟩,lY ⟨func213,call213⟩⟩,⟨oY ⟨func117,call117⟩,lY ⟨func181,call181⟩,lY ⟨func245,call245⟩⟩⟩⟩
noncomputable def cxF80:Tree Func:=nD f29 (nD f45 (nD f77 (nF f141) (nF f205)) (nD f109 (nF f173) (nF f237))) (nD f61 (nD f93 (nF f157) (nF f221)) (nD f125 (nF f189) (nF f253)))
theorem cxF80_ok:Tree.All (fun k=>FP (2*(2*(2*(2*k+2)+2)+2)+1)) cxF80:=⟨oY ⟨func29,call29⟩,⟨oY ⟨func45,call45⟩,⟨oY ⟨func77,call77⟩,lY ⟨func141,call141⟩,lY ⟨func205,call205⟩⟩,⟨oY ⟨func109,call109⟩,lY ⟨func173,call173⟩,lY ⟨func237,call237⟩⟩⟩,⟨oY ⟨func61,call61⟩,⟨oY ⟨func93,call93⟩,lY ⟨func157,call157⟩,lY ⟨func221,call221⟩⟩,⟨oY ⟨func125,call125⟩,lY ⟨func189,call189⟩,lY ⟨func253,call253⟩⟩⟩⟩
noncomputable def cxF81:Tree Func:=nD f13 cxF79 cxF80
theorem cxF81_ok:Tree.All (fun k=>FP (2*(2*(2*k+2)+2)+1)) cxF81:=⟨oY ⟨func13,call13⟩,cxF79_ok,cxF80_ok⟩
noncomputable def cxF82:Tree Func:=nD f5 cxF77 cxF81
theorem cxF82_ok:Tree.All (fun k=>FP (2*(2*k+2)+1)) cxF82:=⟨oY ⟨func5,call5⟩,cxF77_ok,cxF81_ok⟩
noncomputable def cxF83:Tree Func:=.nd none cxF72 cxF82
theorem cxF83_ok:Tree.All (fun k=>FP (2*k+1)) cxF83:=⟨oN,cxF72_ok,cxF82_ok⟩
noncomputable def cxF84:Tree Func:=nD f32 (nD f64 (nD f128 (nF f256) .lf) (nF f192)) (nD f96 (nF f160) (nF f224))
theorem cxF84_ok:Tree.All (fun k=>FP (2*(2*(2*(2*(2*k+1)+1)+1)+1)+2)) cxF84:=⟨oY ⟨func32,call32⟩,⟨oY ⟨func64,call64⟩,⟨oY ⟨func128,call128⟩,lY ⟨func256,call256⟩,trivial⟩,lY ⟨func192,call192⟩⟩,⟨oY ⟨func96,call96⟩,lY ⟨func160,call160⟩,lY ⟨func224,call224⟩⟩⟩
noncomputable def cxF85:Tree Func:=nD f16 cxF84 (nD f48 (nD f80 (nF f144) (nF f208)) (nD f112 (nF f176) (nF f240)))
theorem cxF85_ok:Tree.All (fun k=>FP (2*(2*(2*(2*k+1)+1)+1)+2)) cxF85:=⟨oY ⟨func16,call16⟩,cxF84_ok,⟨oY ⟨func48,call48⟩,⟨oY ⟨func80,call80⟩,lY ⟨func144,call144⟩,lY ⟨func208,call208⟩⟩,⟨oY ⟨func112,call112⟩,lY ⟨func176,call176⟩,lY ⟨func240,call240⟩⟩⟩⟩
noncomputable def cxF86:Tree Func:=nD f40 (nD f72 (nD f136 (nF f264) .lf) (nF f200)) (nD f104 (nF f168) (nF f232))
theorem cxF86_ok:Tree.All (fun k=>FP (2*(2*(2*(2*(2*k+1)+2)+1)+1)+2)) cxF86:=⟨oY ⟨func40,call40⟩,⟨oY ⟨func72,call72⟩,⟨oY ⟨func136,call136⟩,lY ⟨func264,call264⟩,trivial⟩,lY ⟨func200,call200⟩⟩,⟨oY ⟨func104,call104⟩,lY ⟨func168,call168⟩,lY ⟨func232,call232⟩⟩⟩
noncomputable def cxF87:Tree Func:=nD f24 cxF86 (nD f56 (nD f88 (nF f152) (nF f216)) (nD f120 (nF f184) (nF f248)))
theorem cxF87_ok:Tree.All (fun k=>FP (2*(2*(2*(2*k+2)+1)+1)+2)) cxF87:=⟨oY ⟨func24,call24⟩,cxF86_ok,⟨oY ⟨func56,call56⟩,⟨oY ⟨func88,call88⟩,lY ⟨func152,call152⟩,lY ⟨func216,call216⟩⟩,⟨oY ⟨func120,call120⟩,lY ⟨func184,call184⟩,lY ⟨func248,call248⟩⟩⟩⟩
noncomputable def cxF88:Tree Func:=nD f8 cxF85 cxF87
theorem cxF88_ok:Tree.All (fun k=>FP (2*(2*(2*k+1)+1)+2)) cxF88:=⟨oY ⟨func8,call8⟩,cxF85_ok,cxF87_ok⟩
noncomputable def cxF89:Tree Func:=nD f36 (nD f68 (nD f132 (nF f260) .lf) (nF f196)) (nD f100 (nF f164) (nF f228))
theorem cxF89_ok:Tree.All (fun k=>FP (2*(2*(2*(2*(2*k+1)+1)+2)+1)+2)) cxF89:=⟨oY ⟨func36,call36⟩,⟨oY ⟨func68,call68⟩,⟨oY ⟨func132,call132⟩,lY ⟨func260,call260⟩,trivial⟩,lY ⟨func196,call196⟩⟩,⟨oY ⟨func100,call100⟩,lY ⟨func164,call164⟩,lY ⟨func228,call228⟩⟩⟩
noncomputable def cxF90:Tree Func:=nD f20 cxF89 (nD f52 (nD f84 (nF f148) (nF f212)) (nD f116 .lf (nF f244)))
theorem cxF90_ok:Tree.All (fun k=>FP (2*(2*(2*(2*k+1)+2)+1)+2)) cxF90:=⟨oY ⟨func20,call20⟩,cxF89_ok,⟨oY ⟨func52,call52⟩,⟨oY ⟨func84,call84⟩,lY ⟨func148,call148⟩,lY ⟨func212,call212⟩⟩,⟨oY ⟨func116,call116⟩,trivial,lY ⟨func244,call244⟩⟩⟩⟩
noncomputable def cxF91:Tree Func:=nD f28 (nD f44 (nD f76 (nF f140) (nF f204)) (nD f108 (nF f172) (nF f236))) (nD f60 (nD f92 (nF f156) (nF f220)) (nD f124 (nF f188) (nF f252)))
theorem cxF91_ok:Tree.All (fun k=>FP (2*(2*(2*(2*k+2)+2)+1)+2)) cxF91:=⟨oY ⟨func28,call28⟩,⟨oY ⟨func44,call44⟩,⟨oY ⟨func76,call76⟩,lY ⟨func140,call140⟩,lY ⟨func204,call204⟩⟩,⟨oY ⟨func108,call108⟩,lY ⟨func172,call172⟩,lY ⟨func236,call236⟩⟩⟩,⟨oY ⟨func60,call60⟩,⟨oY ⟨func92,call92⟩,lY ⟨func156,call156⟩,lY ⟨func220,call220⟩⟩,⟨oY ⟨func124,call124⟩,lY ⟨func188,call188⟩,lY ⟨func252,call252⟩⟩⟩⟩
noncomputable def cxF92:Tree Func:=nD f12 cxF90 cxF91
theorem cxF92_ok:Tree.All (fun k=>FP (2*(2*(2*k+2)+1)+2)) cxF92:=⟨oY ⟨func12,call12⟩,cxF90_ok,cxF91_ok⟩
noncomputable def cxF93:Tree Func:=nD f4 cxF88 cxF92
theorem cxF93_ok:Tree.All (fun k=>FP (2*(2*k+1)+2)) cxF93:=⟨oY ⟨func4,call4⟩,cxF88_ok,cxF92_ok⟩
noncomputable def cxF94:Tree Func:=nD f34 (nD f66 (nD f130 (nF f258) .lf) (nF f194)) (nD f98 (nF f162) (nF f226))
theorem cxF94_ok:Tree.All (fun k=>FP (2*(2*(2*(2*(2*k+1)+1)+1)+2)+2)) cxF94:=⟨oY ⟨func34,call34⟩,⟨oY ⟨func66,call66⟩,⟨oY ⟨func130,call130⟩,lY ⟨func258,call258⟩,trivial⟩,lY ⟨func194,call194⟩⟩,⟨oY ⟨func98,call98⟩,lY ⟨func162,call162⟩,lY ⟨func226,call226⟩⟩⟩
noncomputable def cxF95:Tree Func:=nD f18 cxF94 (nD f50 (nD f82 (nF f146) (nF f210)) (nD f114 (nF f178) (nF f242)))
theorem cxF95_ok:Tree.All (fun k=>FP (2*(2*(2*(2*k+1)+1)+2)+2)) cxF95:=⟨oY ⟨func18,call18⟩,cxF94_ok,⟨oY ⟨func50,call50⟩,⟨oY ⟨func82,call82⟩,lY ⟨func146,call146⟩,lY ⟨func210,call210⟩⟩,⟨oY ⟨func114,call114⟩,lY ⟨func178,call178⟩,lY ⟨func242,call242⟩⟩⟩⟩
noncomputable def cxF96:Tree Func:=nD f42 (nD f74 (nD f138 (nF f266) .lf) (nF f202)) (nD f106 (nF f170) (nF f234))
theorem cxF96_ok:Tree.All (fun k=>FP (2*(2*(2*(2*(2*k+1)+2)+1)+2)+2)) cxF96:=⟨oY ⟨func42,call42⟩,⟨oY ⟨func74,call74⟩,⟨oY ⟨func138,call138⟩,lY ⟨func266,call266⟩,trivial⟩,lY ⟨func202,call202⟩⟩,⟨oY ⟨func106,call106⟩,lY ⟨func170,call170⟩,lY ⟨func234,call234⟩⟩⟩
noncomputable def cxF97:Tree Func:=nD f26 cxF96 (nD f58 (nD f90 (nF f154) (nF f218)) (nD f122 (nF f186) (nF f250)))
theorem cxF97_ok:Tree.All (fun k=>FP (2*(2*(2*(2*k+2)+1)+2)+2)) cxF97:=⟨oY ⟨func26,call26⟩,cxF96_ok,⟨oY ⟨func58,call58⟩,⟨oY ⟨func90,call90⟩,lY ⟨func154,call154⟩,lY ⟨func218,call218⟩⟩,⟨oY ⟨func122,call122⟩,lY ⟨func186,call186⟩,lY ⟨func250,call250⟩⟩⟩⟩
noncomputable def cxF98:Tree Func:=nD f10 cxF95 cxF97
theorem cxF98_ok:Tree.All (fun k=>FP (2*(2*(2*k+1)+2)+2)) cxF98:=⟨oY ⟨func10,call10⟩,cxF95_ok,cxF97_ok⟩
noncomputable def cxF99:Tree Func:=nD f38 (nD f70 (nD f134 (nF f262) .lf) (nF f198)) (nD f102 (nF f166) (nF f230))
theorem cxF99_ok:Tree.All (fun k=>FP (2*(2*(2*(2*(2*k+1)+1)+2)+2)+2)) cxF99:=⟨oY ⟨func38,call38⟩,⟨oY ⟨func70,call70⟩,⟨oY ⟨func134,call134⟩,lY ⟨func262,call262⟩,trivial⟩,lY ⟨func198,call198⟩⟩,⟨oY ⟨func102,call102⟩,lY ⟨func166,call166⟩,lY ⟨func230,call230⟩⟩⟩
noncomputable def cxF100:Tree Func:=nD f22 cxF99 (nD f54 (nD f86 (nF f150) (nF f214)) (nD f118 (nF f182) (nF f246)))
theorem cxF100_ok:Tree.All (fun k=>FP (2*(2*(2*(2*k+1)+2)+2)+2)) cxF100:=⟨oY ⟨func22,call22⟩,cxF99_ok,⟨oY ⟨func54,call54⟩,⟨oY ⟨func86,call86⟩,lY ⟨func150,call150⟩,lY ⟨func214,call214⟩⟩,⟨oY ⟨func118,call118⟩,lY ⟨func182,call182⟩,lY ⟨func246,call246⟩⟩⟩⟩
noncomputable def cxF101:Tree Func:=nD f30 (nD f46 (nD f78 (nF f142) (nF f206)) (nD f110 (nF f174) (nF f238))) (nD f62 (nD f94 (nF f158) (nF f222)) (nD f126 (nF f190) (nF f254)))
theorem cxF101_ok:Tree.All (fun k=>FP (2*(2*(2*(2*k+2)+2)+2)+2)) cxF101:=⟨oY ⟨func30,call30⟩,⟨oY ⟨func46,call46⟩,⟨oY ⟨func78,call78⟩,lY ⟨func142,call142⟩,lY ⟨func206,call206⟩⟩,⟨oY ⟨func110,call110⟩,lY ⟨func174,call174⟩,lY ⟨func238,call238⟩⟩⟩,⟨oY ⟨func62,call62⟩,⟨oY ⟨func94,call94⟩,lY ⟨func158,call158⟩,lY ⟨func222,call222⟩⟩,⟨oY ⟨func126,call126⟩,lY ⟨func190,call190⟩,lY ⟨func254,call254⟩⟩⟩⟩
noncomputable def cxF102:Tree Func:=nD f14 cxF100 cxF101
theorem cxF102_ok:Tree.All (fun k=>FP (2*(2*(2*k+2)+2)+2)) cxF102:=⟨oY ⟨func14,call14⟩,cxF100_ok,cxF101_ok⟩
noncomputable def cxF103:Tree Func:=nD f6 cxF98 cxF102
theorem cxF103_ok:Tree.All (fun k=>FP (2*(2*k+2)+2)) cxF103:=⟨oY ⟨func6,call6⟩,cxF98_ok,cxF102_ok⟩
noncomputable def cxF104:Tree Func:=nD f2 cxF93 cxF103
theorem cxF104_ok:Tree.All (fun k=>FP (2*k+2)) cxF104:=⟨oY ⟨func2,call2⟩,cxF93_ok,cxF103_ok⟩
noncomputable def cxF105:Tree Func:=.nd none cxF83 cxF104
theorem cxF105_ok:Tree.All (fun k=>FP k) cxF105:=⟨oN,cxF83_ok,cxF104_ok⟩
noncomputable def cxX106:Tree ExtK:=.nd none (.nd none (.nd none .lf (.nd none (.nd none .lf (.nd none .lf (.nd none (nF ExtK.same) .lf))) .lf)) .lf) (.nd none (.nd none .lf (.nd none (.nd none .lf (.nd none .lf (.nd none (nF (.noZero 158)) .lf))) .lf)) .lf)
theorem cxX106_ok:Tree.All (fun k=>XP k) cxX106:=⟨oN,⟨oN,⟨oN,trivial,⟨oN,⟨oN,trivial,⟨oN,trivial,⟨oN,lY (exFact (by kernel_rfl) (by kernel_rfl)),trivial⟩⟩⟩,trivial⟩⟩,trivial⟩,⟨oN,⟨oN,trivial,⟨oN,⟨oN,trivial,⟨oN,trivial,⟨oN,lY (exFact (by kernel_rfl) (by kernel_rfl)),trivial⟩⟩⟩,trivial⟩⟩,trivial⟩⟩
noncomputable def qJ:Cx:=⟨cxT62,cxF105,cxX106⟩
theorem cxCx_ok(hm:Tryz.prog.follows .mixedOrders=true):CxOk Tryz.prog qJ:=cxOk_of cxT62_ok cxF105_ok hm cxX106_ok
end Go.Ev
/- This program's types and functions, and the order of its operations. -/
set_option linter.all false
namespace Go.Proofs.YtdcjmnfngabhoaaGreat
open Go.RowKit Go.Ev Go.Vl
theorem wKG:Tryz.prog.follows .mixedOrders=true:=by rfl
theorem wE:CxOk Tryz.prog qJ:=cxCx_ok wKG
section
variable{w0:Base}{n:Nat}{st:St}{Q:kS}{ops:Array Oper}{id k:Nat}{dr:Bool}{st0:St}{acc:List Stp}{o:Oper}{rd:List Nat}{nw:List (Nat×Nat)}{u:St}{gr:List Nat}
theorem wg(ho:ops.toList[k]? = some o)(h:wM Tryz.prog w0 n o rd u nw (lk st))(hk:RR Tryz.prog w0 n id ops dr Q st0 (k+1) (⟨gr++rd,u,nw⟩::acc) (u++st))(hg:gRd n ops (lk st) o=some gr:=by exact rfl)(hn:nw.all (kH st)=true:=by exact rfl):RR Tryz.prog w0 n id ops dr Q st0 k acc st:=rr_g ho hg h hn hk
theorem wf{g:List Nat×St}(ho:ops.toList[k]? = some o)(hf:wJC (lk st) (frzO o)=g)(h:wM Tryz.prog w0 n o rd u nw (lk (g.2++st)))(hk:RR Tryz.prog w0 n id ops dr Q st0 (k+1) (⟨gr++(rd++g.1),u++g.2,nw⟩::acc) ((u++g.2)++st))(hg:gRd n ops (lk st) o=some gr:=by exact rfl)(hn:nw.all (kH st)=true:=by exact rfl):RR Tryz.prog w0 n id ops dr Q st0 k acc st:=rr_opf ho hg hf h hn hk
theorem wv(hk:RR Tryz.prog w0 n id ops dr Q st0 (k+1) (⟨gr++rd,u,nw⟩::acc) (u++st))(ho:ops.toList[k]? = some o:=by exact rfl)(hg:gRd n ops (lk st) o=some gr:=by exact rfl)(h:vop qJ (id*1000+k+1) n (lk st) o=some (rd,u,nw):=by exact rfl)(hn:nw.all (kH st)=true:=by exact rfl):RR Tryz.prog w0 n id ops dr Q st0 k acc st:=rr_v wE ho hg h hn hk
theorem wx{g:List Nat×St}(hk:RR Tryz.prog w0 n id ops dr Q st0 (k+1) (⟨gr++(rd++g.1),u++g.2,nw⟩::acc) ((u++g.2)++st))(ho:ops.toList[k]? = some o:=by exact rfl)(hg:gRd n ops (lk st) o=some gr:=by exact rfl)(hf:wJC (lk st) (frzO o)=g:=by exact rfl)(h:vop qJ (id*1000+k+1) n (lk (g.2++st)) o=some (rd,u,nw):=by exact rfl)(hn:nw.all (kH st)=true:=by exact rfl):RR Tryz.prog w0 n id ops dr Q st0 k acc st:=rr_vf wE ho hg hf h hn hk
theorem wd(hQ:Q .normal st)(hk:Nat.beq k ops.size=true:=by exact rfl)(hc:(vO ops&&(!dr||wDA ops acc.reverse))=true:=by exact rfl):RR Tryz.prog w0 n id ops dr Q st0 k acc st:=rr_done wKG hk hc hQ
theorem wc{c:Call}{x:Operand}{f:FuncId}{fn:Func}{fs cs args xs:List V}{y y':V}(hcall:wG Tryz.prog f xs (fun z=>z=y))(h:RR Tryz.prog w0 n id ops dr Q st0 (k+1) (⟨gr++(rdO x++rdL c.args.toList),dput o.dst (some (.sv (.v y'))),[]⟩::acc) (dput o.dst (some (.sv (.v y')))++st))(ho:ops.toList[k]? = some o:=by exact rfl)(hg:gRd n ops (lk st) o=some gr:=by exact rfl)(hop:o.op=.call c:=by exact rfl)(hk:c.callee=.value x:=by exact rfl)(hx:opv (lk st) x=some (.v (.clo f fs cs)):=by exact rfl)(hargs:xE (lk st) c.args.toList=some args:=by exact rfl)(hfn:qJ.fns.get f=some fn:=by exact rfl)
 (hl:fs++args++cs=xs:=by exact rfl) (hy:y=y':=by exact rfl) (hd:dLt n o.dst=true:=by exact rfl):RR Tryz.prog w0 n id ops dr Q st0 k acc st:=rr_call wE ho hg hop hk hx hargs hfn hl hcall hy hd h
theorem wh{c:Call}{x:Operand}{f:FuncId}{fn:Func}{fs cs args xs:List V}{y y':V}{g:List Nat×St}(hcall:wG Tryz.prog f xs (fun z=>z=y))(h:RR Tryz.prog w0 n id ops dr Q st0 (k+1) (⟨gr++((rdO x++rdL c.args.toList)++g.1),dput o.dst (some (.sv (.v y')))++g.2,[]⟩::acc) ((dput o.dst (some (.sv (.v y')))++g.2)++st))(ho:ops.toList[k]? = some o:=by exact rfl)(hg:gRd n ops (lk st) o=some gr:=by exact rfl)(hf:wJC (lk st) (frzO o)=g:=by exact rfl)(hop:o.op=.call c:=by exact rfl)(hk:c.callee=.value x:=by exact rfl)(hx:opv (lk (g.2++st)) x=some (.v (.clo f fs cs)):=by exact rfl)(hargs:xE (lk (g.2++st)) c.args.toList=some args:=by exact rfl)(hfn:qJ.fns.get f=some fn:=by exact rfl)
 (hl:fs++args++cs=xs:=by exact rfl) (hy:y=y':=by exact rfl) (hd:dLt n o.dst=true:=by exact rfl):RR Tryz.prog w0 n id ops dr Q st0 k acc st:=rr_callf wE ho hg hf hop hk hx hargs hfn hl hcall hy hd h
theorem sL{x:Operand}{c:Call}{t elem:TypeId}{m m':Nat}(hm:m=m')(hop:o.op=.call c:=by exact rfl)(hk:c.callee=.builtin .len:=by exact rfl)(ha:c.args=#[x]:=by exact rfl)(ht:c.argTypes=#[t]:=by exact rfl)(hu:qJ.und t=some (.slice elem):=by exact rfl)(hl:lenV (lk st) x=some m:=by exact rfl)(hd:dLt n o.dst=true:=by exact rfl):wM Tryz.prog w0 n o (rdR (lk st) x) (dput o.dst (some (.sv (.v (.int .i64 (m':Nat)))))) [] (lk st):=qD5 wE hop hk ha ht hu hl hm hd
end
section
variable{w0:Base}{n:Nat}{st:St}{o:Oper}{op:BinOp}{t yt:TypeId}{x y:Operand}{kk:IntKind}{m m':Int}{p:Prop}{ip:Decidable p}
theorem cT(hop:o.op=.binOp op t x y yt:=by exact rfl)(hx:opv (lk st) x=some (.v (.int kk m)):=by exact rfl)(hy:opv (lk st) y=some (.v (.int kk m')):=by exact rfl)(he:wG9 op kk m m'=some (.bool (decide p)):=by exact rfl)(hp:p:=by omega)(hd:dLt n o.dst=true:=by exact rfl):wM Tryz.prog w0 n o (rdO x++rdO y) (dput o.dst (some (.sv (.v (.bool true))))) [] (lk st):=jE hop hx hy he (decide_eq_true hp) hd
theorem cF(hop:o.op=.binOp op t x y yt:=by exact rfl)(hx:opv (lk st) x=some (.v (.int kk m)):=by exact rfl)(hy:opv (lk st) y=some (.v (.int kk m')):=by exact rfl)(he:wG9 op kk m m'=some (.bool (decide p)):=by exact rfl)(hp:¬p:=by omega)(hd:dLt n o.dst=true:=by exact rfl):wM Tryz.prog w0 n o (rdO x++rdO y) (dput o.dst (some (.sv (.v (.bool false))))) [] (lk st):=jE hop hx hy he (decide_eq_false hp) hd
theorem nT(hop:o.op=.binOp op t x y yt:=by exact rfl)(hx:opv (lk st) x=some (.v (.int kk m)):=by exact rfl)(hy:opv (lk st) y=some (.v (.int kk m')):=by exact rfl)(he:wG9 op kk m m'=some (.bool (!decide p)):=by exact rfl)(hp:¬p:=by omega)(hd:dLt n o.dst=true:=by exact rfl):wM Tryz.prog w0 n o (rdO x++rdO y) (dput o.dst (some (.sv (.v (.bool true))))) [] (lk st):=jE hop hx hy he (ndT hp) hd
theorem nF(hop:o.op=.binOp op t x y yt:=by exact rfl)(hx:opv (lk st) x=some (.v (.int kk m)):=by exact rfl)(hy:opv (lk st) y=some (.v (.int kk m')):=by exact rfl)(he:wG9 op kk m m'=some (.bool (!decide p)):=by exact rfl)(hp:p:=by omega)(hd:dLt n o.dst=true:=by exact rfl):wM Tryz.prog w0 n o (rdO x++rdO y) (dput o.dst (some (.sv (.v (.bool false))))) [] (lk st):=jE hop hx hy he (ndF hp) hd
theorem sB{e:Int}(hop:o.op=.binOp op t x y yt:=by exact rfl)(hx:opv (lk st) x=some (.v (.int .i64 m)):=by exact rfl)(hy:opv (lk st) y=some (.v (.int .i64 m')):=by exact rfl)(he:wG9 op .i64 m m'=some (.int .i64 (ewrap .i64 e)):=by exact rfl)(h1:-9223372036854775808≤e:=by omega)(h2:e<9223372036854775808:=by omega)(hd:dLt n o.dst=true:=by exact rfl):wM Tryz.prog w0 n o (rdO x++rdO y) (dput o.dst (some (.sv (.v (.int .i64 e))))) [] (lk st):=kK hop hx hy he (wO5 h1 h2) hd
theorem sX(i:Nat){tt elem:TypeId}{sz:Nat}{q:Int}{es:List (List V)}{e:List V}(hi:es[i]? = some e)(hop:o.op=.indexAddr tt x y:=by exact rfl)(hx:opv (lk st) x=some (.v (.list es)):=by exact rfl)(hy:opv (lk st) y=some (.v (.int kk q)):=by exact rfl)(hq:q=(i:Nat):=by exact rfl)(ht:qJ.und tt=some (.slice elem):=by exact rfl)(hs:qJ.size elem=some sz:=by exact rfl)(hl:e.length=sz:=by exact rfl)(hd:dLt n o.dst=true:=by exact rfl):wM Tryz.prog w0 n o (rdO x++rdO y) (dput o.dst (some (.sv (.v (.ref e))))) [] (lk st):=wA0 wE hop hx hy hq ht hs hi hl hd
theorem sO(i:Nat){tt elem T:TypeId}{s id k r:Nat}{q:Int}{es:List (List V)}(hi:i<es.length)(hop:o.op=.indexAddr tt x y:=by exact rfl)(hx:root (lk st) x=some (s,id,T,k,es):=by exact rfl)(hy:opv (lk st) y=some (.v (.int kk q)):=by exact rfl)(hq:q=(i:Nat):=by exact rfl)(ht:qJ.und tt=some (.slice elem):=by exact rfl)(hs:qJ.size elem=some k:=by exact rfl)(hdst:o.dst=some r:=by exact rfl)(hne:Nat.beq r s=false:=by exact rfl)(hd:Nat.blt r n=true:=by exact rfl):wM Tryz.prog w0 n o (rdR (lk st) x++rdO y) [(2*r,some (.sv (.at s id k i 0)))] [] (lk st):=zB wE hop hx hy hq ht hs hi hdst hne hd
end
section
variable{w0:Base}{n:Nat}{st:St}{o:Oper}
theorem sA{k:Call}{t elem:TypeId}{x y:Operand}{i:TypeInfo}{z:Value}{q:Nat}{so:Option Nat}{es es':List (List V)}(id:Nat)(es2:List (List V))(m bb:Nat)(hek:∀e∈es2,e.length=m)(he:es++es2=es')(hop:o.op=.call k:=by exact rfl)(hk:k.callee=.builtin .append:=by exact rfl)(hargs:k.args=#[x,y]:=by exact rfl)(hts:k.argTypes=#[t,t]:=by exact rfl)
 (ht:qJ.und t=some (.slice elem):=by exact rfl) (hi:qJ.tys.get elem=some i:=by exact rfl) (hz:i.zero=some z:=by exact rfl) (hsz:(Nat.beq z.cells.size i.size&&Nat.blt 0 i.size)=true:=by exact rfl) (hm:i.size=m:=by exact rfl) (hes:ownOf elem m (lk st) x=some (so,es):=by exact rfl) (hy:opV (lk st) y=some (.list es2):=by exact rfl)
 (hbb:i.bytes=bb:=by exact rfl) (h63:es.length+es2.length≤maxLen:=by simp only[maxLen,List.length_singleton];omega) (hb:(es.length+es2.length)*bb≤140737488355328:=by simp only[List.length_singleton];omega) (hdst:o.dst=some q:=by exact rfl) (hd:Nat.blt q n=true:=by exact rfl) :
  wM Tryz.prog w0 n o (rdR (lk st) x++rdO y) ((2*q,some (.sv (.own id elem m es')))::clr so) [(2*q,id),(2*q,0)] (lk st):=qZ wE hop hk hargs hts ht hi hz hsz hm hes hy hek hbb h63 hb hdst hd he
theorem sM{t elem:TypeId}{x y:Operand}{kl kc:IntKind}{r:Nat}{ql qc:Int}{i:TypeInfo}{z:Value}{zc:List V}{es':List (List V)}(id l c m bb:Nat)(he:List.replicate l zc=es')(hop:o.op=.makeSlice t x y:=by exact rfl)(hx:opv (lk st) x=some (.v (.int kl ql)):=by exact rfl)(hy:opv (lk st) y=some (.v (.int kc qc)):=by exact rfl)(hql:ql=(l:Nat):=by exact rfl)(hqc:qc=(c:Nat):=by exact rfl)(ht:qJ.und t=some (.slice elem):=by exact rfl)
 (hi:qJ.tys.get elem=some i:=by exact rfl) (hz:i.zero=some z:=by exact rfl) (hsz:Nat.beq z.cells.size i.size=true:=by exact rfl) (hzc:toVs z.cells.toList=some zc:=by exact rfl) (hlc:l≤c:=by omega) (hbb:i.bytes=bb:=by exact rfl) (hb:bb*c≤281474976710656:=by omega) (h63:c≤maxLen:=by simp only[maxLen];omega) (hdst:o.dst=some r:=by exact rfl) (hd:Nat.blt r n=true:=by exact rfl) (hm:i.size=m:=by exact rfl) :
  wM Tryz.prog w0 n o (rdO x++rdO y) [(2*r,some (.sv (.own id elem m es')))] [(2*r,id),(2*r,0)] (lk st):=x8 wE hop hx hy hql hqc ht hi hz hsz hzc hlc hbb hb h63 hdst hd hm he
theorem sS{t:TypeId}{p x:Operand}{d id k i off m:Nat}{T:TypeId}{es es':List (List V)}{e:List V}{y:V}(hi:es[i]? = some e)(hop:o.op=.store t p x:=by exact rfl)(hp:opv (lk st) p=some (.at d id k i off):=by exact rfl)(hb:lk st (2*d)=some (.sv (.own id T k es)):=by exact rfl)(hx:opV (lk st) x=some y:=by exact rfl)(hnt:wB2 y=true:=by exact rfl)(hs:qJ.size t=some m:=by exact rfl)
 (hm:y.cells.length=m:=by exact rfl) (hfit:off+m≤k:=by exact pC _) (hdst:o.dst=none:=by exact rfl) (he:es.set i (over e off y.cells)=es'):wM Tryz.prog w0 n o (rdO p++(rdO x++[2*d])) [(2*d,some (.sv (.own id T k es')))] [] (lk st):=zH wE hop hp hb hi hx hnt hs hm hfit hdst he
end
structure Kp(q:Prop):Prop where
 k:q
theorem wz{p q:Prop}(hq:q)(h:Kp q→p:=by intro k;first|exact rr_done wKG rfl rfl k.1|exact vw_seq k.1|exact vw_block k.1|exact wA7 k.1|exact vw_ret k.1|exact vw_exit k.1|exact vw_skip k.1|exact vw_label k.1|exact vw_scopeN k.1|exact vw_condT rfl k.1|exact vw_condF rfl k.1):p:=h ⟨hq⟩
abbrev jI(k n:Nat):Nat×Option Cell:=(k,some (.sv (.v (.int .i64 (n:Nat)))))
abbrev jV(k:Nat)(x:V):Nat×Option Cell:=(k,some (.sv (.v x)))
abbrev jB(k d:Nat):Nat×Option Cell:=(k,some (.sv (.bx d 0)))
abbrev jC(k:Nat)(cs:List SV):Nat×Option Cell:=(k,some (.bx cs))
abbrev jO(k id:Nat)(T:TypeId)(q:Nat)(es:List (List V)):Nat×Option Cell:=(k,some (.sv (.own id T q es)))
theorem gE{α:Type}{l:List α}{i:Nat}(h:i<l.length):∃x,l[i]? = some x:=⟨_,pG h⟩
end Go.Proofs.YtdcjmnfngabhoaaGreat
