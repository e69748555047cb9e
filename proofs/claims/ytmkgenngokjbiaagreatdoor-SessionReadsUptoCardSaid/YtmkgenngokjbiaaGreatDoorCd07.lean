/- The trees of this program's types and functions. -/
import Derived.Test.YtmkgenngokjbiaaGreatDoorProg
import Derived.Test.YtmkgenngokjbiaaGreatDoorCd06
set_option linter.all false
set_option maxRecDepth 20000
set_option maxHeartbeats 6400000
set_option linter.all false
namespace Go.Ev
open Go.Proofs Go.Proofs.Tryz
abbrev nF{α:Type}(x:α):Tree α:=.nd (some x) .lf .lf
abbrev nD{α:Type}(x:α)(l r:Tree α):Tree α:=.nd (some x) l r
abbrev TP(n:Nat)(x:TypeInfo):Prop:=TyFact Tryz.prog n x
abbrev FP(n:Nat)(x:Func):Prop:=FnFact Tryz.prog n x
abbrev XP(n:Nat)(x:ExtK):Prop:=ExFact Tryz.prog n x
theorem oY{α:Type}{Q:α→Prop}{x:α}(h:Q x):∀y,some x=some y→Q y:=fun _ e=>gB e ▸ h
theorem oN{α:Type}{Q:α→Prop}:∀y,none=some y→Q y:=fun _ e=>nomatch e
theorem lY{α:Type}{Q:Nat→α→Prop}{x:α}(h:Q 0 x):Tree.All Q (nF x):=⟨oY h,trivial,trivial⟩
noncomputable def cxT0:Tree TypeInfo:=nD t63 (nD t127 (nD t255 (nF t511) .lf) (nD t383 (nF t639) .lf)) (nD t191 (nD t319 (nF t575) .lf) (nF t447))
theorem cxT0_ok:Tree.All (fun k=>TP (2*(2*(2*(2*(2*(2*k+1)+1)+1)+1)+1)+1)) cxT0:=⟨oY type63,⟨oY type127,⟨oY type255,lY type511,trivial⟩,⟨oY type383,lY type639,trivial⟩⟩,⟨oY type191,⟨oY type319,lY type575,trivial⟩,lY type447⟩⟩
noncomputable def cxT1:Tree TypeInfo:=nD t95 (nD t159 (nD t287 (nF t543) .lf) (nD t415 (nF t671) .lf)) (nD t223 (nD t351 (nF t607) .lf) (nF t479))
theorem cxT1_ok:Tree.All (fun k=>TP (2*(2*(2*(2*(2*(2*k+2)+1)+1)+1)+1)+1)) cxT1:=⟨oY type95,⟨oY type159,⟨oY type287,lY type543,trivial⟩,⟨oY type415,lY type671,trivial⟩⟩,⟨oY type223,⟨oY type351,lY type607,trivial⟩,lY type479⟩⟩
noncomputable def cxT2:Tree TypeInfo:=nD t31 cxT0 cxT1
theorem cxT2_ok:Tree.All (fun k=>TP (2*(2*(2*(2*(2*k+1)+1)+1)+1)+1)) cxT2:=⟨oY type31,cxT0_ok,cxT1_ok⟩
noncomputable def cxT3:Tree TypeInfo:=nD t79 (nD t143 (nD t271 (nF t527) .lf) (nD t399 (nF t655) .lf)) (nD t207 (nD t335 (nF t591) .lf) (nF t463))
theorem cxT3_ok:Tree.All (fun k=>TP (2*(2*(2*(2*(2*(2*k+1)+2)+1)+1)+1)+1)) cxT3:=⟨oY type79,⟨oY type143,⟨oY type271,lY type527,trivial⟩,⟨oY type399,lY type655,trivial⟩⟩,⟨oY type207,⟨oY type335,lY type591,trivial⟩,lY type463⟩⟩
noncomputable def cxT4:Tree TypeInfo:=nD t111 (nD t175 (nD t303 (nF t559) .lf) (nD t431 (nF t687) .lf)) (nD t239 (nD t367 (nF t623) .lf) (nF t495))
theorem cxT4_ok:Tree.All (fun k=>TP (2*(2*(2*(2*(2*(2*k+2)+2)+1)+1)+1)+1)) cxT4:=⟨oY type111,⟨oY type175,⟨oY type303,lY type559,trivial⟩,⟨oY type431,lY type687,trivial⟩⟩,⟨oY type239,⟨oY type367,lY type623,trivial⟩,lY type495⟩⟩
noncomputable def cxT5:Tree TypeInfo:=nD t47 cxT3 cxT4
theorem cxT5_ok:Tree.All (fun k=>TP (2*(2*(2*(2*(2*k+2)+1)+1)+1)+1)) cxT5:=⟨oY type47,cxT3_ok,cxT4_ok⟩
noncomputable def cxT6:Tree TypeInfo:=nD t15 cxT2 cxT5
theorem cxT6_ok:Tree.All (fun k=>TP (2*(2*(2*(2*k+1)+1)+1)+1)) cxT6:=⟨oY type15,cxT2_ok,cxT5_ok⟩
noncomputable def cxT7:Tree TypeInfo:=nD t71 (nD t135 (nD t263 (nF t519) .lf) (nD t391 (nF t647) .lf)) (nD t199 (nD t327 (nF t583) .lf) (nF t455))
theorem cxT7_ok:Tree.All (fun k=>TP (2*(2*(2*(2*(2*(2*k+1)+1)+2)+1)+1)+1)) cxT7:=⟨oY type71,⟨oY type135,⟨oY type263,lY type519,trivial⟩,⟨oY type391,lY type647,trivial⟩⟩,⟨oY type199,⟨oY type327,lY type583,trivial⟩,lY type455⟩⟩
noncomputable def cxT8:Tree TypeInfo:=nD t103 (nD t167 (nD t295 (nF t551) .lf) (nD t423 (nF t679) .lf)) (nD t231 (nD t359 (nF t615) .lf) (nF t487))
theorem cxT8_ok:Tree.All (fun k=>TP (2*(2*(2*(2*(2*(2*k+2)+1)+2)+1)+1)+1)) cxT8:=⟨oY type103,⟨oY type167,⟨oY type295,lY type551,trivial⟩,⟨oY type423,lY type679,trivial⟩⟩,⟨oY type231,⟨oY type359,lY type615,trivial⟩,lY type487⟩⟩
noncomputable def cxT9:Tree TypeInfo:=nD t39 cxT7 cxT8
theorem cxT9_ok:Tree.All (fun k=>TP (2*(2*(2*(2*(2*k+1)+2)+1)+1)+1)) cxT9:=⟨oY type39,cxT7_ok,cxT8_ok⟩
noncomputable def cxT10:Tree TypeInfo:=nD t87 (nD t151 (nD t279 (nF t535) .lf) (nD t407 (nF t663) .lf)) (nD t215 (nD t343 (nF t599) .lf) (nF t471))
theorem cxT10_ok:Tree.All (fun k=>TP (2*(2*(2*(2*(2*(2*k+1)+2)+2)+1)+1)+1)) cxT10:=⟨oY type87,⟨oY type151,⟨oY type279,lY type535,trivial⟩,⟨oY type407,lY type663,trivial⟩⟩,⟨oY type215,⟨oY type343,lY type599,trivial⟩,lY type471⟩⟩
noncomputable def cxT11:Tree TypeInfo:=nD t119 (nD t183 (nD t311 (nF t567) .lf) (nD t439 (nF t695) .lf)) (nD t247 (nD t375 (nF t631) .lf) (nF t503))
theorem cxT11_ok:Tree.All (fun k=>TP (2*(2*(2*(2*(2*(2*k+2)+2)+2)+1)+1)+1)) cxT11:=⟨oY type119,⟨oY type183,⟨oY type311,lY type567,trivial⟩,⟨oY type439,lY type695,trivial⟩⟩,⟨oY type247,⟨oY type375,lY type631,trivial⟩,lY type503⟩⟩
noncomputable def cxT12:Tree TypeInfo:=nD t55 cxT10 cxT11
theorem cxT12_ok:Tree.All (fun k=>TP (2*(2*(2*(2*(2*k+2)+2)+1)+1)+1)) cxT12:=⟨oY type55,cxT10_ok,cxT11_ok⟩
noncomputable def cxT13:Tree TypeInfo:=nD t23 cxT9 cxT12
theorem cxT13_ok:Tree.All (fun k=>TP (2*(2*(2*(2*k+2)+1)+1)+1)) cxT13:=⟨oY type23,cxT9_ok,cxT12_ok⟩
noncomputable def cxT14:Tree TypeInfo:=nD t7 cxT6 cxT13
theorem cxT14_ok:Tree.All (fun k=>TP (2*(2*(2*k+1)+1)+1)) cxT14:=⟨oY type7,cxT6_ok,cxT13_ok⟩
noncomputable def cxT15:Tree TypeInfo:=nD t67 (nD t131 (nD t259 (nF t515) .lf) (nD t387 (nF t643) .lf)) (nD t195 (nD t323 (nF t579) .lf) (nF t451))
theorem cxT15_ok:Tree.All (fun k=>TP (2*(2*(2*(2*(2*(2*k+1)+1)+1)+2)+1)+1)) cxT15:=⟨oY type67,⟨oY type131,⟨oY type259,lY type515,trivial⟩,⟨oY type387,lY type643,trivial⟩⟩,⟨oY type195,⟨oY type323,lY type579,trivial⟩,lY type451⟩⟩
noncomputable def cxT16:Tree TypeInfo:=nD t99 (nD t163 (nD t291 (nF t547) .lf) (nD t419 (nF t675) .lf)) (nD t227 (nD t355 (nF t611) .lf) (nF t483))
theorem cxT16_ok:Tree.All (fun k=>TP (2*(2*(2*(2*(2*(2*k+2)+1)+1)+2)+1)+1)) cxT16:=⟨oY type99,⟨oY type163,⟨oY type291,lY type547,trivial⟩,⟨oY type419,lY type675,trivial⟩⟩,⟨oY type227,⟨oY type355,lY type611,trivial⟩,lY type483⟩⟩
noncomputable def cxT17:Tree TypeInfo:=nD t35 cxT15 cxT16
theorem cxT17_ok:Tree.All (fun k=>TP (2*(2*(2*(2*(2*k+1)+1)+2)+1)+1)) cxT17:=⟨oY type35,cxT15_ok,cxT16_ok⟩
noncomputable def cxT18:Tree TypeInfo:=nD t83 (nD t147 (nD t275 (nF t531) .lf) (nD t403 (nF t659) .lf)) (nD t211 (nD t339 (nF t595) .lf) (nF t467))
theorem cxT18_ok:Tree.All (fun k=>TP (2*(2*(2*(2*(2*(2*k+1)+2)+1)+2)+1)+1)) cxT18:=⟨oY type83,⟨oY type147,⟨oY type275,lY type531,trivial⟩,⟨oY type403,lY type659,trivial⟩⟩,⟨oY type211,⟨oY type339,lY type595,trivial⟩,lY type467⟩⟩
noncomputable def cxT19:Tree TypeInfo:=nD t115 (nD t179 (nD t307 (nF t563) .lf) (nD t435 (nF t691) .lf)) (nD t243 (nD t371 (nF t627) .lf) (nF t499))
theorem cxT19_ok:Tree.All (fun k=>TP (2*(2*(2*(2*(2*(2*k+2)+2)+1)+2)+1)+1)) cxT19:=⟨oY type115,⟨oY type179,⟨oY type307,lY type563,trivial⟩,⟨oY type435,lY type691,trivial⟩⟩,⟨oY type243,⟨oY type371,lY type627,trivial⟩,lY type499⟩⟩
noncomputable def cxT20:Tree TypeInfo:=nD t51 cxT18 cxT19
theorem cxT20_ok:Tree.All (fun k=>TP (2*(2*(2*(2*(2*k+2)+1)+2)+1)+1)) cxT20:=⟨oY type51,cxT18_ok,cxT19_ok⟩
noncomputable def cxT21:Tree TypeInfo:=nD t19 cxT17 cxT20
theorem cxT21_ok:Tree.All (fun k=>TP (2*(2*(2*(2*k+1)+2)+1)+1)) cxT21:=⟨oY type19,cxT17_ok,cxT20_ok⟩
noncomputable def cxT22:Tree TypeInfo:=nD t75 (nD t139 (nD t267 (nF t523) .lf) (nD t395 (nF t651) .lf)) (nD t203 (nD t331 (nF t587) .lf) (nF t459))
theorem cxT22_ok:Tree.All (fun k=>TP (2*(2*(2*(2*(2*(2*k+1)+1)+2)+2)+1)+1)) cxT22:=⟨oY type75,⟨oY type139,⟨oY type267,lY type523,trivial⟩,⟨oY type395,lY type651,trivial⟩⟩,⟨oY type203,⟨oY type331,lY type587,trivial⟩,lY type459⟩⟩
noncomputable def cxT23:Tree TypeInfo:=nD t107 (nD t171 (nD t299 (nF t555) .lf) (nD t427 (nF t683) .lf)) (nD t235 (nD t363 (nF t619) .lf) (nF t491))
theorem cxT23_ok:Tree.All (fun k=>TP (2*(2*(2*(2*(2*(2*k+2)+1)+2)+2)+1)+1)) cxT23:=⟨oY type107,⟨oY type171,⟨oY type299,lY type555,trivial⟩,⟨oY type427,lY type683,trivial⟩⟩,⟨oY type235,⟨oY type363,lY type619,trivial⟩,lY type491⟩⟩
noncomputable def cxT24:Tree TypeInfo:=nD t43 cxT22 cxT23
theorem cxT24_ok:Tree.All (fun k=>TP (2*(2*(2*(2*(2*k+1)+2)+2)+1)+1)) cxT24:=⟨oY type43,cxT22_ok,cxT23_ok⟩
noncomputable def cxT25:Tree TypeInfo:=nD t91 (nD t155 (nD t283 (nF t539) .lf) (nD t411 (nF t667) .lf)) (nD t219 (nD t347 (nF t603) .lf) (nF t475))
theorem cxT25_ok:Tree.All (fun k=>TP (2*(2*(2*(2*(2*(2*k+1)+2)+2)+2)+1)+1)) cxT25:=⟨oY type91,⟨oY type155,⟨oY type283,lY type539,trivial⟩,⟨oY type411,lY type667,trivial⟩⟩,⟨oY type219,⟨oY type347,lY type603,trivial⟩,lY type475⟩⟩
noncomputable def cxT26:Tree TypeInfo:=nD t123 (nD t187 (nD t315 (nF t571) .lf) (nD t443 (nF t699) .lf)) (nD t251 (nD t379 (nF t635) .lf) (nF t507))
theorem cxT26_ok:Tree.All (fun k=>TP (2*(2*(2*(2*(2*(2*k+2)+2)+2)+2)+1)+1)) cxT26:=⟨oY type123,⟨oY type187,⟨oY type315,lY type571,trivial⟩,⟨oY type443,lY type699,trivial⟩⟩,⟨oY type251,⟨oY type379,lY type635,trivial⟩,lY type507⟩⟩
noncomputable def cxT27:Tree TypeInfo:=nD t59 cxT25 cxT26
theorem cxT27_ok:Tree.All (fun k=>TP (2*(2*(2*(2*(2*k+2)+2)+2)+1)+1)) cxT27:=⟨oY type59,cxT25_ok,cxT26_ok⟩
noncomputable def cxT28:Tree TypeInfo:=nD t27 cxT24 cxT27
theorem cxT28_ok:Tree.All (fun k=>TP (2*(2*(2*(2*k+2)+2)+1)+1)) cxT28:=⟨oY type27,cxT24_ok,cxT27_ok⟩
noncomputable def cxT29:Tree TypeInfo:=nD t11 cxT21 cxT28
theorem cxT29_ok:Tree.All (fun k=>TP (2*(2*(2*k+2)+1)+1)) cxT29:=⟨oY type11,cxT21_ok,cxT28_ok⟩
noncomputable def cxT30:Tree TypeInfo:=nD t3 cxT14 cxT29
theorem cxT30_ok:Tree.All (fun k=>TP (2*(2*k+1)+1)) cxT30:=⟨oY type3,cxT14_ok,cxT29_ok⟩
noncomputable def cxT31:Tree TypeInfo:=nD t65 (nD t129 (nD t257 (nF t513) .lf) (nD t385 (nF t641) .lf)) (nD t193 (nD t321 (nF t577) .lf) (nF t449))
theorem cxT31_ok:Tree.All (fun k=>TP (2*(2*(2*(2*(2*(2*k+1)+1)+1)+1)+2)+1)) cxT31:=⟨oY type65,⟨oY type129,⟨oY type257,lY type513,trivial⟩,⟨oY type385,lY type641,trivial⟩⟩,⟨oY type193,⟨oY type321,lY type577,trivial⟩,lY type449⟩⟩
noncomputable def cxT32:Tree TypeInfo:=nD t97 (nD t161 (nD t289 (nF t545) .lf) (nD t417 (nF t673) .lf)) (nD t225 (nD t353 (nF t609) .lf) (nF t481))
theorem cxT32_ok:Tree.All (fun k=>TP (2*(2*(2*(2*(2*(2*k+2)+1)+1)+1)+2)+1)) cxT32:=⟨oY type97,⟨oY type161,⟨oY type289,lY type545,trivial⟩,⟨oY type417,lY type673,trivial⟩⟩,⟨oY type225,⟨oY type353,lY type609,trivial⟩,lY type481⟩⟩
noncomputable def cxT33:Tree TypeInfo:=nD t33 cxT31 cxT32
theorem cxT33_ok:Tree.All (fun k=>TP (2*(2*(2*(2*(2*k+1)+1)+1)+2)+1)) cxT33:=⟨oY type33,cxT31_ok,cxT32_ok⟩
noncomputable def cxT34:Tree TypeInfo:=nD t81 (nD t145 (nD t273 (nF t529) .lf) (nD t401 (nF t657) .lf)) (nD t209 (nD t337 (nF t593) .lf) (nF t465))
theorem cxT34_ok:Tree.All (fun k=>TP (2*(2*(2*(2*(2*(2*k+1)+2)+1)+1)+2)+1)) cxT34:=⟨oY type81,⟨oY type145,⟨oY type273,lY type529,trivial⟩,⟨oY type401,lY type657,trivial⟩⟩,⟨oY type209,⟨oY type337,lY type593,trivial⟩,lY type465⟩⟩
noncomputable def cxT35:Tree TypeInfo:=nD t113 (nD t177 (nD t305 (nF t561) .lf) (nD t433 (nF t689) .lf)) (nD t241 (nD t369 (nF t625) .lf) (nF t497))
theorem cxT35_ok:Tree.All (fun k=>TP (2*(2*(2*(2*(2*(2*k+2)+2)+1)+1)+2)+1)) cxT35:=⟨oY type113,⟨oY type177,⟨oY type305,lY type561,trivial⟩,⟨oY type433,lY type689,trivial⟩⟩,⟨oY type241,⟨oY type369,lY type625,trivial⟩,lY type497⟩⟩
noncomputable def cxT36:Tree TypeInfo:=nD t49 cxT34 cxT35
theorem cxT36_ok:Tree.All (fun k=>TP (2*(2*(2*(2*(2*k+2)+1)+1)+2)+1)) cxT36:=⟨oY type49,cxT34_ok,cxT35_ok⟩
noncomputable def cxT37:Tree TypeInfo:=nD t17 cxT33 cxT36
theorem cxT37_ok:Tree.All (fun k=>TP (2*(2*(2*(2*k+1)+1)+2)+1)) cxT37:=⟨oY type17,cxT33_ok,cxT36_ok⟩
noncomputable def cxT38:Tree TypeInfo:=nD t73 (nD t137 (nD t265 (nF t521) .lf) (nD t393 (nF t649) .lf)) (nD t201 (nD t329 (nF t585) .lf) (nF t457))
theorem cxT38_ok:Tree.All (fun k=>TP (2*(2*(2*(2*(2*(2*k+1)+1)+2)+1)+2)+1)) cxT38:=⟨oY type73,⟨oY type137,⟨oY type265,lY type521,trivial⟩,⟨oY type393,lY type649,trivial⟩⟩,⟨oY type201,⟨oY type329,lY type585,trivial⟩,lY type457⟩⟩
noncomputable def cxT39:Tree TypeInfo:=nD t105 (nD t169 (nD t297 (nF t553) .lf) (nD t425 (nF t681) .lf)) (nD t233 (nD t361 (nF t617) .lf) (nF t489))
theorem cxT39_ok:Tree.All (fun k=>TP (2*(2*(2*(2*(2*(2*k+2)+1)+2)+1)+2)+1)) cxT39:=⟨oY type105,⟨oY type169,⟨oY type297,lY type553,trivial⟩,⟨oY type425,lY type681,trivial⟩⟩,⟨oY type233,⟨oY type361,lY type617,trivial⟩,lY type489⟩⟩
noncomputable def cxT40:Tree TypeInfo:=nD t41 cxT38 cxT39
theorem cxT40_ok:Tree.All (fun k=>TP (2*(2*(2*(2*(2*k+1)+2)+1)+2)+1)) cxT40:=⟨oY type41,cxT38_ok,cxT39_ok⟩
noncomputable def cxT41:Tree TypeInfo:=nD t89 (nD t153 (nD t281 (nF t537) .lf) (nD t409 (nF t665) .lf)) (nD t217 (nD t345 (nF t601) .lf) (nF t473))
theorem cxT41_ok:Tree.All (fun k=>TP (2*(2*(2*(2*(2*(2*k+1)+2)+2)+1)+2)+1)) cxT41:=⟨oY type89,⟨oY type153,⟨oY type281,lY type537,trivial⟩,⟨oY type409,lY type665,trivial⟩⟩,⟨oY type217,⟨oY type345,lY type601,trivial⟩,lY type473⟩⟩
noncomputable def cxT42:Tree TypeInfo:=nD t121 (nD t185 (nD t313 (nF t569) .lf) (nD t441 (nF t697) .lf)) (nD t249 (nD t377 (nF t633) .lf) (nF t505))
theorem cxT42_ok:Tree.All (fun k=>TP (2*(2*(2*(2*(2*(2*k+2)+2)+2)+1)+2)+1)) cxT42:=⟨oY type121,⟨oY type185,⟨oY type313,lY type569,trivial⟩,⟨oY type441,lY type697,trivial⟩⟩,⟨oY type249,⟨oY type377,lY type633,trivial⟩,lY type505⟩⟩
noncomputable def cxT43:Tree TypeInfo:=nD t57 cxT41 cxT42
theorem cxT43_ok:Tree.All (fun k=>TP (2*(2*(2*(2*(2*k+2)+2)+1)+2)+1)) cxT43:=⟨oY type57,cxT41_ok,cxT42_ok⟩
noncomputable def cxT44:Tree TypeInfo:=nD t25 cxT40 cxT43
theorem cxT44_ok:Tree.All (fun k=>TP (2*(2*(2*(2*k+2)+1)+2)+1)) cxT44:=⟨oY type25,cxT40_ok,cxT43_ok⟩
noncomputable def cxT45:Tree TypeInfo:=nD t9 cxT37 cxT44
theorem cxT45_ok:Tree.All (fun k=>TP (2*(2*(2*k+1)+2)+1)) cxT45:=⟨oY type9,cxT37_ok,cxT44_ok⟩
noncomputable def cxT46:Tree TypeInfo:=nD t69 (nD t133 (nD t261 (nF t517) .lf) (nD t389 (nF t645) .lf)) (nD t197 (nD t325 (nF t581) .lf) (nF t453))
theorem cxT46_ok:Tree.All (fun k=>TP (2*(2*(2*(2*(2*(2*k+1)+1)+1)+2)+2)+1)) cxT46:=⟨oY type69,⟨oY type133,⟨oY type261,lY type517,trivial⟩,⟨oY type389,lY type645,trivial⟩⟩,⟨oY type197,⟨oY type325,lY type581,trivial⟩,lY type453⟩⟩
noncomputable def cxT47:Tree TypeInfo:=nD t101 (nD t165 (nD t293 (nF t549) .lf) (nD t421 (nF t677) .lf)) (nD t229 (nD t357 (nF t613) .lf) (nF t485))
theorem cxT47_ok:Tree.All (fun k=>TP (2*(2*(2*(2*(2*(2*k+2)+1)+1)+2)+2)+1)) cxT47:=⟨oY type101,⟨oY type165,⟨oY type293,lY type549,trivial⟩,⟨oY type421,lY type677,trivial⟩⟩,⟨oY type229,⟨oY type357,lY type613,trivial⟩,lY type485⟩⟩
noncomputable def cxT48:Tree TypeInfo:=nD t37 cxT46 cxT47
theorem cxT48_ok:Tree.All (fun k=>TP (2*(2*(2*(2*(2*k+1)+1)+2)+2)+1)) cxT48:=⟨oY type37,cxT46_ok,cxT47_ok⟩
noncomputable def cxT49:Tree TypeInfo:=nD t85 (nD t149 (nD t277 (nF t533) .lf) (nD t405 (nF t661) .lf)) (nD t213 (nD t341 (nF t597) .lf) (nF t469))
theorem cxT49_ok:Tree.All (fun k=>TP (2*(2*(2*(2*(2*(2*k+1)+2)+1)+2)+2)+1)) cxT49:=⟨oY type85,⟨oY type149,⟨oY type277,lY type533,trivial⟩,⟨oY type405,lY type661,trivial⟩⟩,⟨oY type213,⟨oY type341,lY type597,trivial⟩,lY type469⟩⟩
noncomputable def cxT50:Tree TypeInfo:=nD t117 (nD t181 (nD t309 (nF t565) .lf) (nD t437 (nF t693) .lf)) (nD t245 (nD t373 (nF t629) .lf) (nF t501))
theorem cxT50_ok:Tree.All (fun k=>TP (2*(2*(2*(2*(2*(2*k+2)+2)+1)+2)+2)+1)) cxT50:=⟨oY type117,⟨oY type181,⟨oY type309,lY type565,trivial⟩,⟨oY type437,lY type693,trivial⟩⟩,⟨oY type245,⟨oY type373,lY type629,trivial⟩,lY type501⟩⟩
noncomputable def cxT51:Tree TypeInfo:=nD t53 cxT49 cxT50
theorem cxT51_ok:Tree.All (fun k=>TP (2*(2*(2*(2*(2*k+2)+1)+2)+2)+1)) cxT51:=⟨oY type53,cxT49_ok,cxT50_ok⟩
noncomputable def cxT52:Tree TypeInfo:=nD t21 cxT48 cxT51
theorem cxT52_ok:Tree.All (fun k=>TP (2*(2*(2*(2*k+1)+2)+2)+1)) cxT52:=⟨oY type21,cxT48_ok,cxT51_ok⟩
noncomputable def cxT53:Tree TypeInfo:=nD t77 (nD t141 (nD t269 (nF t525) .lf) (nD t397 (nF t653) .lf)) (nD t205 (nD t333 (nF t589) .lf) (nF t461))
theorem cxT53_ok:Tree.All (fun k=>TP (2*(2*(2*(2*(2*(2*k+1)+1)+2)+2)+2)+1)) cxT53:=⟨oY type77,⟨oY type141,⟨oY type269,lY type525,trivial⟩,⟨oY type397,lY type653,trivial⟩⟩,⟨oY type205,⟨oY type333,lY type589,trivial⟩,lY type461⟩⟩
noncomputable def cxT54:Tree TypeInfo:=nD t109 (nD t173 (nD t301 (nF t557) .lf) (nD t429 (nF t685) .lf)) (nD t237 (nD t365 (nF t621) .lf) (nF t493))
theorem cxT54_ok:Tree.All (fun k=>TP (2*(2*(2*(2*(2*(2*k+2)+1)+2)+2)+2)+1)) cxT54:=⟨oY type109,⟨oY type173,⟨oY type301,lY type557,trivial⟩,⟨oY type429,lY type685,trivial⟩⟩,⟨oY type237,⟨oY type365,lY type621,trivial⟩,lY type493⟩⟩
noncomputable def cxT55:Tree TypeInfo:=nD t45 cxT53 cxT54
theorem cxT55_ok:Tree.All (fun k=>TP (2*(2*(2*(2*(2*k+1)+2)+2)+2)+1)) cxT55:=⟨oY type45,cxT53_ok,cxT54_ok⟩
noncomputable def cxT56:Tree TypeInfo:=nD t93 (nD t157 (nD t285 (nF t541) .lf) (nD t413 (nF t669) .lf)) (nD t221 (nD t349 (nF t605) .lf) (nF t477))
theorem cxT56_ok:Tree.All (fun k=>TP (2*(2*(2*(2*(2*(2*k+1)+2)+2)+2)+2)+1)) cxT56:=⟨oY type93,⟨oY type157,⟨oY type285,lY type541,trivial⟩,⟨oY type413,lY type669,trivial⟩⟩,⟨oY type221,⟨oY type349,lY type605,trivial⟩,lY type477⟩⟩
noncomputable def cxT57:Tree TypeInfo:=nD t125 (nD t189 (nD t317 (nF t573) .lf) (nF t445)) (nD t253 (nD t381 (nF t637) .lf) (nF t509))
theorem cxT57_ok:Tree.All (fun k=>TP (2*(2*(2*(2*(2*(2*k+2)+2)+2)+2)+2)+1)) cxT57:=⟨oY type125,⟨oY type189,⟨oY type317,lY type573,trivial⟩,lY type445⟩,⟨oY type253,⟨oY type381,lY type637,trivial⟩,lY type509⟩⟩
noncomputable def cxT58:Tree TypeInfo:=nD t61 cxT56 cxT57
theorem cxT58_ok:Tree.All (fun k=>TP (2*(2*(2*(2*(2*k+2)+2)+2)+2)+1)) cxT58:=⟨oY type61,cxT56_ok,cxT57_ok⟩
noncomputable def cxT59:Tree TypeInfo:=nD t29 cxT55 cxT58
theorem cxT59_ok:Tree.All (fun k=>TP (2*(2*(2*(2*k+2)+2)+2)+1)) cxT59:=⟨oY type29,cxT55_ok,cxT58_ok⟩
noncomputable def cxT60:Tree TypeInfo:=nD t13 cxT52 cxT59
theorem cxT60_ok:Tree.All (fun k=>TP (2*(2*(2*k+2)+2)+1)) cxT60:=⟨oY type13,cxT52_ok,cxT59_ok⟩
noncomputable def cxT61:Tree TypeInfo:=nD t5 cxT45 cxT60
theorem cxT61_ok:Tree.All (fun k=>TP (2*(2*k+2)+1)) cxT61:=⟨oY type5,cxT45_ok,cxT60_ok⟩
noncomputable def cxT62:Tree TypeInfo:=nD t1 cxT30 cxT61
theorem cxT62_ok:Tree.All (fun k=>TP (2*k+1)) cxT62:=⟨oY type1,cxT30_ok,cxT61_ok⟩
noncomputable def cxT63:Tree TypeInfo:=nD t64 (nD t128 (nD t256 (nF t512) .lf) (nD t384 (nF t640) .lf)) (nD t192 (nD t320 (nF t576) .lf) (nF t448))
theorem cxT63_ok:Tree.All (fun k=>TP (2*(2*(2*(2*(2*(2*k+1)+1)+1)+1)+1)+2)) cxT63:=⟨oY type64,⟨oY type128,⟨oY type256,lY type512,trivial⟩,⟨oY type384,lY type640,trivial⟩⟩,⟨oY type192,⟨oY type320,lY type576,trivial⟩,lY type448⟩⟩
noncomputable def cxT64:Tree TypeInfo:=nD t96 (nD t160 (nD t288 (nF t544) .lf) (nD t416 (nF t672) .lf)) (nD t224 (nD t352 (nF t608) .lf) (nF t480))
theorem cxT64_ok:Tree.All (fun k=>TP (2*(2*(2*(2*(2*(2*k+2)+1)+1)+1)+1)+2)) cxT64:=⟨oY type96,⟨oY type160,⟨oY type288,lY type544,trivial⟩,⟨oY type416,lY type672,trivial⟩⟩,⟨oY type224,⟨oY type352,lY type608,trivial⟩,lY type480⟩⟩
noncomputable def cxT65:Tree TypeInfo:=nD t32 cxT63 cxT64
theorem cxT65_ok:Tree.All (fun k=>TP (2*(2*(2*(2*(2*k+1)+1)+1)+1)+2)) cxT65:=⟨oY type32,cxT63_ok,cxT64_ok⟩
noncomputable def cxT66:Tree TypeInfo:=nD t80 (nD t144 (nD t272 (nF t528) .lf) (nD t400 (nF t656) .lf)) (nD t208 (nD t336 (nF t592) .lf) (nF t464))
theorem cxT66_ok:Tree.All (fun k=>TP (2*(2*(2*(2*(2*(2*k+1)+2)+1)+1)+1)+2)) cxT66:=⟨oY type80,⟨oY type144,⟨oY type272,lY type528,trivial⟩,⟨oY type400,lY type656,trivial⟩⟩,⟨oY type208,⟨oY type336,lY type592,trivial⟩,lY type464⟩⟩
noncomputable def cxT67:Tree TypeInfo:=nD t112 (nD t176 (nD t304 (nF t560) .lf) (nD t432 (nF t688) .lf)) (nD t240 (nD t368 (nF t624) .lf) (nF t496))
theorem cxT67_ok:Tree.All (fun k=>TP (2*(2*(2*(2*(2*(2*k+2)+2)+1)+1)+1)+2)) cxT67:=⟨oY type112,⟨oY type176,⟨oY type304,lY type560,trivial⟩,⟨oY type432,lY type688,trivial⟩⟩,⟨oY type240,⟨oY type368,lY type624,trivial⟩,lY type496⟩⟩
noncomputable def cxT68:Tree TypeInfo:=nD t48 cxT66 cxT67
theorem cxT68_ok:Tree.All (fun k=>TP (2*(2*(2*(2*(2*k+2)+1)+1)+1)+2)) cxT68:=⟨oY type48,cxT66_ok,cxT67_ok⟩
noncomputable def cxT69:Tree TypeInfo:=nD t16 cxT65 cxT68
theorem cxT69_ok:Tree.All (fun k=>TP (2*(2*(2*(2*k+1)+1)+1)+2)) cxT69:=⟨oY type16,cxT65_ok,cxT68_ok⟩
noncomputable def cxT70:Tree TypeInfo:=nD t72 (nD t136 (nD t264 (nF t520) .lf) (nD t392 (nF t648) .lf)) (nD t200 (nD t328 (nF t584) .lf) (nF t456))
theorem cxT70_ok:Tree.All (fun k=>TP (2*(2*(2*(2*(2*(2*k+1)+1)+2)+1)+1)+2)) cxT70:=⟨oY type72,⟨oY type136,⟨oY type264,lY type520,trivial⟩,⟨oY type392,lY type648,trivial⟩⟩,⟨oY type200,⟨oY type328,lY type584,trivial⟩,lY type456⟩⟩
noncomputable def cxT71:Tree TypeInfo:=nD t104 (nD t168 (nD t296 (nF t552) .lf) (nD t424 (nF t680) .lf)) (nD t232 (nD t360 (nF t616) .lf) (nF t488))
theorem cxT71_ok:Tree.All (fun k=>TP (2*(2*(2*(2*(2*(2*k+2)+1)+2)+1)+1)+2)) cxT71:=⟨oY type104,⟨oY type168,⟨oY type296,lY type552,trivial⟩,⟨oY type424,lY type680,trivial⟩⟩,⟨oY type232,⟨oY type360,lY type616,trivial⟩,lY type488⟩⟩
noncomputable def cxT72:Tree TypeInfo:=nD t40 cxT70 cxT71
theorem cxT72_ok:Tree.All (fun k=>TP (2*(2*(2*(2*(2*k+1)+2)+1)+1)+2)) cxT72:=⟨oY type40,cxT70_ok,cxT71_ok⟩
noncomputable def cxT73:Tree TypeInfo:=nD t88 (nD t152 (nD t280 (nF t536) .lf) (nD t408 (nF t664) .lf)) (nD t216 (nD t344 (nF t600) .lf) (nF t472))
theorem cxT73_ok:Tree.All (fun k=>TP (2*(2*(2*(2*(2*(2*k+1)+2)+2)+1)+1)+2)) cxT73:=⟨oY type88,⟨oY type152,⟨oY type280,lY type536,trivial⟩,⟨oY type408,lY type664,trivial⟩⟩,⟨oY type216,⟨oY type344,lY type600,trivial⟩,lY type472⟩⟩
noncomputable def cxT74:Tree TypeInfo:=nD t120 (nD t184 (nD t312 (nF t568) .lf) (nD t440 (nF t696) .lf)) (nD t248 (nD t376 (nF t632) .lf) (nF t504))
theorem cxT74_ok:Tree.All (fun k=>TP (2*(2*(2*(2*(2*(2*k+2)+2)+2)+1)+1)+2)) cxT74:=⟨oY type120,⟨oY type184,⟨oY type312,lY type568,trivial⟩,⟨oY type440,lY type696,trivial⟩⟩,⟨oY type248,⟨oY type376,lY type632,trivial⟩,lY type504⟩⟩
noncomputable def cxT75:Tree TypeInfo:=nD t56 cxT73 cxT74
theorem cxT75_ok:Tree.All (fun k=>TP (2*(2*(2*(2*(2*k+2)+2)+1)+1)+2)) cxT75:=⟨oY type56,cxT73_ok,cxT74_ok⟩
noncomputable def cxT76:Tree TypeInfo:=nD t24 cxT72 cxT75
theorem cxT76_ok:Tree.All (fun k=>TP (2*(2*(2*(2*k+2)+1)+1)+2)) cxT76:=⟨oY type24,cxT72_ok,cxT75_ok⟩
noncomputable def cxT77:Tree TypeInfo:=nD t8 cxT69 cxT76
theorem cxT77_ok:Tree.All (fun k=>TP (2*(2*(2*k+1)+1)+2)) cxT77:=⟨oY type8,cxT69_ok,cxT76_ok⟩
noncomputable def cxT78:Tree TypeInfo:=nD t68 (nD t132 (nD t260 (nF t516) .lf) (nD t388 (nF t644) .lf)) (nD t196 (nD t324 (nF t580) .lf) (nF t452))
theorem cxT78_ok:Tree.All (fun k=>TP (2*(2*(2*(2*(2*(2*k+1)+1)+1)+2)+1)+2)) cxT78:=⟨oY type68,⟨oY type132,⟨oY type260,lY type516,trivial⟩,⟨oY type388,lY type644,trivial⟩⟩,⟨oY type196,⟨oY type324,lY type580,trivial⟩,lY type452⟩⟩
noncomputable def cxT79:Tree TypeInfo:=nD t100 (nD t164 (nD t292 (nF t548) .lf) (nD t420 (nF t676) .lf)) (nD t228 (nD t356 (nF t612) .lf) (nF t484))
theorem cxT79_ok:Tree.All (fun k=>TP (2*(2*(2*(2*(2*(2*k+2)+1)+1)+2)+1)+2)) cxT79:=⟨oY type100,⟨oY type164,⟨oY type292,lY type548,trivial⟩,⟨oY type420,lY type676,trivial⟩⟩,⟨oY type228,⟨oY type356,lY type612,trivial⟩,lY type484⟩⟩
noncomputable def cxT80:Tree TypeInfo:=nD t36 cxT78 cxT79
theorem cxT80_ok:Tree.All (fun k=>TP (2*(2*(2*(2*(2*k+1)+1)+2)+1)+2)) cxT80:=⟨oY type36,cxT78_ok,cxT79_ok⟩
noncomputable def cxT81:Tree TypeInfo:=nD t84 (nD t148 (nD t276 (nF t532) .lf) (nD t404 (nF t660) .lf)) (nD t212 (nD t340 (nF t596) .lf) (nF t468))
theorem cxT81_ok:Tree.All (fun k=>TP (2*(2*(2*(2*(2*(2*k+1)+2)+1)+2)+1)+2)) cxT81:=⟨oY type84,⟨oY type148,⟨oY type276,lY type532,trivial⟩,⟨oY type404,lY type660,trivial⟩⟩,⟨oY type212,⟨oY type340,lY type596,trivial⟩,lY type468⟩⟩
noncomputable def cxT82:Tree TypeInfo:=nD t116 (nD t180 (nD t308 (nF t564) .lf) (nD t436 (nF t692) .lf)) (nD t244 (nD t372 (nF t628) .lf) (nF t500))
theorem cxT82_ok:Tree.All (fun k=>TP (2*(2*(2*(2*(2*(2*k+2)+2)+1)+2)+1)+2)) cxT82:=⟨oY type116,⟨oY type180,⟨oY type308,lY type564,trivial⟩,⟨oY type436,lY type692,trivial⟩⟩,⟨oY type244,⟨oY type372,lY type628,trivial⟩,lY type500⟩⟩
noncomputable def cxT83:Tree TypeInfo:=nD t52 cxT81 cxT82
theorem cxT83_ok:Tree.All (fun k=>TP (2*(2*(2*(2*(2*k+2)+1)+2)+1)+2)) cxT83:=⟨oY type52,cxT81_ok,cxT82_ok⟩
noncomputable def cxT84:Tree TypeInfo:=nD t20 cxT80 cxT83
theorem cxT84_ok:Tree.All (fun k=>TP (2*(2*(2*(2*k+1)+2)+1)+2)) cxT84:=⟨oY type20,cxT80_ok,cxT83_ok⟩
noncomputable def cxT85:Tree TypeInfo:=nD t76 (nD t140 (nD t268 (nF t524) .lf) (nD t396 (nF t652) .lf)) (nD t204 (nD t332 (nF t588) .lf) (nF t460))
theorem cxT85_ok:Tree.All (fun k=>TP (2*(2*(2*(2*(2*(2*k+1)+1)+2)+2)+1)+2)) cxT85:=⟨oY type76,⟨oY type140,⟨oY type268,lY type524,trivial⟩,⟨oY type396,lY type652,trivial⟩⟩,⟨oY type204,⟨oY type332,lY type588,trivial⟩,lY type460⟩⟩
noncomputable def cxT86:Tree TypeInfo:=nD t108 (nD t172 (nD t300 (nF t556) .lf) (nD t428 (nF t684) .lf)) (nD t236 (nD t364 (nF t620) .lf) (nF t492))
theorem cxT86_ok:Tree.All (fun k=>TP (2*(2*(2*(2*(2*(2*k+2)+1)+2)+2)+1)+2)) cxT86:=⟨oY type108,⟨oY type172,⟨oY type300,lY type556,trivial⟩,⟨oY type428,lY type684,trivial⟩⟩,⟨oY type236,⟨oY type364,lY type620,trivial⟩,lY type492⟩⟩
noncomputable def cxT87:Tree TypeInfo:=nD t44 cxT85 cxT86
theorem cxT87_ok:Tree.All (fun k=>TP (2*(2*(2*(2*(2*k+1)+2)+2)+1)+2)) cxT87:=⟨oY type44,cxT85_ok,cxT86_ok⟩
noncomputable def cxT88:Tree TypeInfo:=nD t92 (nD t156 (nD t284 (nF t540) .lf) (nD t412 (nF t668) .lf)) (nD t220 (nD t348 (nF t604) .lf) (nF t476))
theorem cxT88_ok:Tree.All (fun k=>TP (2*(2*(2*(2*(2*(2*k+1)+2)+2)+2)+1)+2)) cxT88:=⟨oY type92,⟨oY type156,⟨oY type284,lY type540,trivial⟩,⟨oY type412,lY type668,trivial⟩⟩,⟨oY type220,⟨oY type348,lY type604,trivial⟩,lY type476⟩⟩
noncomputable def cxT89:Tree TypeInfo:=nD t124 (nD t188 (nD t316 (nF t572) .lf) (nD t444 (nF t700) .lf)) (nD t252 (nD t380 (nF t636) .lf) (nF t508))
theorem cxT89_ok:Tree.All (fun k=>TP (2*(2*(2*(2*(2*(2*k+2)+2)+2)+2)+1)+2)) cxT89:=⟨oY type124,⟨oY type188,⟨oY type316,lY type572,trivial⟩,⟨oY type444,lY type700,trivial⟩⟩,⟨oY type252,⟨oY type380,lY type636,trivial⟩,lY type508⟩⟩
noncomputable def cxT90:Tree TypeInfo:=nD t60 cxT88 cxT89
theorem cxT90_ok:Tree.All (fun k=>TP (2*(2*(2*(2*(2*k+2)+2)+2)+1)+2)) cxT90:=⟨oY type60,cxT88_ok,cxT89_ok⟩
noncomputable def cxT91:Tree TypeInfo:=nD t28 cxT87 cxT90
theorem cxT91_ok:Tree.All (fun k=>TP (2*(2*(2*(2*k+2)+2)+1)+2)) cxT91:=⟨oY type28,cxT87_ok,cxT90_ok⟩
noncomputable def cxT92:Tree TypeInfo:=nD t12 cxT84 cxT91
theorem cxT92_ok:Tree.All (fun k=>TP (2*(2*(2*k+2)+1)+2)) cxT92:=⟨oY type12,cxT84_ok,cxT91_ok⟩
noncomputable def cxT93:Tree TypeInfo:=nD t4 cxT77 cxT92
theorem cxT93_ok:Tree.All (fun k=>TP (2*(2*k+1)+2)) cxT93:=⟨oY type4,cxT77_ok,cxT92_ok⟩
noncomputable def cxT94:Tree TypeInfo:=nD t66 (nD t130 (nD t258 (nF t514) .lf) (nD t386 (nF t642) .lf)) (nD t194 (nD t322 (nF t578) .lf) (nF t450))
theorem cxT94_ok:Tree.All (fun k=>TP (2*(2*(2*(2*(2*(2*k+1)+1)+1)+1)+2)+2)) cxT94:=⟨oY type66,⟨oY type130,⟨oY type258,lY type514,trivial⟩,⟨oY type386,lY type642,trivial⟩⟩,⟨oY type194,⟨oY type322,lY type578,trivial⟩,lY type450⟩⟩
noncomputable def cxT95:Tree TypeInfo:=nD t98 (nD t162 (nD t290 (nF t546) .lf) (nD t418 (nF t674) .lf)) (nD t226 (nD t354 (nF t610) .lf) (nF t482))
theorem cxT95_ok:Tree.All (fun k=>TP (2*(2*(2*(2*(2*(2*k+2)+1)+1)+1)+2)+2)) cxT95:=⟨oY type98,⟨oY type162,⟨oY type290,lY type546,trivial⟩,⟨oY type418,lY type674,trivial⟩⟩,⟨oY type226,⟨oY type354,lY type610,trivial⟩,lY type482⟩⟩
noncomputable def cxT96:Tree TypeInfo:=nD t34 cxT94 cxT95
theorem cxT96_ok:Tree.All (fun k=>TP (2*(2*(2*(2*(2*k+1)+1)+1)+2)+2)) cxT96:=⟨oY type34,cxT94_ok,cxT95_ok⟩
noncomputable def cxT97:Tree TypeInfo:=nD t82 (nD t146 (nD t274 (nF t530) .lf) (nD t402 (nF t658) .lf)) (nD t210 (nD t338 (nF t594) .lf) (nF t466))
theorem cxT97_ok:Tree.All (fun k=>TP (2*(2*(2*(2*(2*(2*k+1)+2)+1)+1)+2)+2)) cxT97:=⟨oY type82,⟨oY type146,⟨oY type274,lY type530,trivial⟩,⟨oY type402,lY type658,trivial⟩⟩,⟨oY type210,⟨oY type338,lY type594,trivial⟩,lY type466⟩⟩
noncomputable def cxT98:Tree TypeInfo:=nD t114 (nD t178 (nD t306 (nF t562) .lf) (nD t434 (nF t690) .lf)) (nD t242 (nD t370 (nF t626) .lf) (nF t498))
theorem cxT98_ok:Tree.All (fun k=>TP (2*(2*(2*(2*(2*(2*k+2)+2)+1)+1)+2)+2)) cxT98:=⟨oY type114,⟨oY type178,⟨oY type306,lY type562,trivial⟩,⟨oY type434,lY type690,trivial⟩⟩,⟨oY type242,⟨oY type370,lY type626,trivial⟩,lY type498⟩⟩
noncomputable def cxT99:Tree TypeInfo:=nD t50 cxT97 cxT98
theorem cxT99_ok:Tree.All (fun k=>TP (2*(2*(2*(2*(2*k+2)+1)+1)+2)+2)) cxT99:=⟨oY type50,cxT97_ok,cxT98_ok⟩
noncomputable def cxT100:Tree TypeInfo:=nD t18 cxT96 cxT99
theorem cxT100_ok:Tree.All (fun k=>TP (2*(2*(2*(2*k+1)+1)+2)+2)) cxT100:=⟨oY type18,cxT96_ok,cxT99_ok⟩
noncomputable def cxT101:Tree TypeInfo:=nD t74 (nD t138 (nD t266 (nF t522) .lf) (nD t394 (nF t650) .lf)) (nD t202 (nD t330 (nF t586) .lf) (nF t458))
theorem cxT101_ok:Tree.All (fun k=>TP (2*(2*(2*(2*(2*(2*k+1)+1)+2)+1)+2)+2)) cxT101:=⟨oY type74,⟨oY type138,⟨oY type266,lY type522,trivial⟩,⟨oY type394,lY type650,trivial⟩⟩,⟨oY type202,⟨oY type330,lY type586,trivial⟩,lY type458⟩⟩
noncomputable def cxT102:Tree TypeInfo:=nD t106 (nD t170 (nD t298 (nF t554) .lf) (nD t426 (nF t682) .lf)) (nD t234 (nD t362 (nF t618) .lf) (nF t490))
theorem cxT102_ok:Tree.All (fun k=>TP (2*(2*(2*(2*(2*(2*k+2)+1)+2)+1)+2)+2)) cxT102:=⟨oY type106,⟨oY type170,⟨oY type298,lY type554,trivial⟩,⟨oY type426,lY type682,trivial⟩⟩,⟨oY type234,⟨oY type362,lY type618,trivial⟩,lY type490⟩⟩
noncomputable def cxT103:Tree TypeInfo:=nD t42 cxT101 cxT102
theorem cxT103_ok:Tree.All (fun k=>TP (2*(2*(2*(2*(2*k+1)+2)+1)+2)+2)) cxT103:=⟨oY type42,cxT101_ok,cxT102_ok⟩
noncomputable def cxT104:Tree TypeInfo:=nD t90 (nD t154 (nD t282 (nF t538) .lf) (nD t410 (nF t666) .lf)) (nD t218 (nD t346 (nF t602) .lf) (nF t474))
theorem cxT104_ok:Tree.All (fun k=>TP (2*(2*(2*(2*(2*(2*k+1)+2)+2)+1)+2)+2)) cxT104:=⟨oY type90,⟨oY type154,⟨oY type282,lY type538,trivial⟩,⟨oY type410,lY type666,trivial⟩⟩,⟨oY type218,⟨oY type346,lY type602,trivial⟩,lY type474⟩⟩
noncomputable def cxT105:Tree TypeInfo:=nD t122 (nD t186 (nD t314 (nF t570) .lf) (nD t442 (nF t698) .lf)) (nD t250 (nD t378 (nF t634) .lf) (nF t506))
theorem cxT105_ok:Tree.All (fun k=>TP (2*(2*(2*(2*(2*(2*k+2)+2)+2)+1)+2)+2)) cxT105:=⟨oY type122,⟨oY type186,⟨oY type314,lY type570,trivial⟩,⟨oY type442,lY type698,trivial⟩⟩,⟨oY type250,⟨oY type378,lY type634,trivial⟩,lY type506⟩⟩
noncomputable def cxT106:Tree TypeInfo:=nD t58 cxT104 cxT105
theorem cxT106_ok:Tree.All (fun k=>TP (2*(2*(2*(2*(2*k+2)+2)+1)+2)+2)) cxT106:=⟨oY type58,cxT104_ok,cxT105_ok⟩
noncomputable def cxT107:Tree TypeInfo:=nD t26 cxT103 cxT106
theorem cxT107_ok:Tree.All (fun k=>TP (2*(2*(2*(2*k+2)+1)+2)+2)) cxT107:=⟨oY type26,cxT103_ok,cxT106_ok⟩
noncomputable def cxT108:Tree TypeInfo:=nD t10 cxT100 cxT107
theorem cxT108_ok:Tree.All (fun k=>TP (2*(2*(2*k+1)+2)+2)) cxT108:=⟨oY type10,cxT100_ok,cxT107_ok⟩
noncomputable def cxT109:Tree TypeInfo:=nD t70 (nD t134 (nD t262 (nF t518) .lf) (nD t390 (nF t646) .lf)) (nD t198 (nD t326 (nF t582) .lf) (nF t454))
theorem cxT109_ok:Tree.All (fun k=>TP (2*(2*(2*(2*(2*(2*k+1)+1)+1)+2)+2)+2)) cxT109:=⟨oY type70,⟨oY type134,⟨oY type262,lY type518,trivial⟩,⟨oY type390,lY type646,trivial⟩⟩,⟨oY type198,⟨oY type326,lY type582,trivial⟩,lY type454⟩⟩
noncomputable def cxT110:Tree TypeInfo:=nD t102 (nD t166 (nD t294 (nF t550) .lf) (nD t422 (nF t678) .lf)) (nD t230 (nD t358 (nF t614) .lf) (nF t486))
theorem cxT110_ok:Tree.All (fun k=>TP (2*(2*(2*(2*(2*(2*k+2)+1)+1)+2)+2)+2)) cxT110:=⟨oY type102,⟨oY type166,⟨oY type294,lY type550,trivial⟩,⟨oY type422,lY type678,trivial⟩⟩,⟨oY type230,⟨oY type358,lY type614,trivial⟩,lY type486⟩⟩
noncomputable def cxT111:Tree TypeInfo:=nD t38 cxT109 cxT110
theorem cxT111_ok:Tree.All (fun k=>TP (2*(2*(2*(2*(2*k+1)+1)+2)+2)+2)) cxT111:=⟨oY type38,cxT109_ok,cxT110_ok⟩
noncomputable def cxT112:Tree TypeInfo:=nD t86 (nD t150 (nD t278 (nF t534) .lf) (nD t406 (nF t662) .lf)) (nD t214 (nD t342 (nF t598) .lf) (nF t470))
theorem cxT112_ok:Tree.All (fun k=>TP (2*(2*(2*(2*(2*(2*k+1)+2)+1)+2)+2)+2)) cxT112:=⟨oY type86,⟨oY type150,⟨oY type278,lY type534,trivial⟩,⟨oY type406,lY type662,trivial⟩⟩,⟨oY type214,⟨oY type342,lY type598,trivial⟩,lY type470⟩⟩
noncomputable def cxT113:Tree TypeInfo:=nD t118 (nD t182 (nD t310 (nF t566) .lf) (nD t438 (nF t694) .lf)) (nD t246 (nD t374 (nF t630) .lf) (nF t502))
theorem cxT113_ok:Tree.All (fun k=>TP (2*(2*(2*(2*(2*(2*k+2)+2)+1)+2)+2)+2)) cxT113:=⟨oY type118,⟨oY type182,⟨oY type310,lY type566,trivial⟩,⟨oY type438,lY type694,trivial⟩⟩,⟨oY type246,⟨oY type374,lY type630,trivial⟩,lY type502⟩⟩
noncomputable def cxT114:Tree TypeInfo:=nD t54 cxT112 cxT113
theorem cxT114_ok:Tree.All (fun k=>TP (2*(2*(2*(2*(2*k+2)+1)+2)+2)+2)) cxT114:=⟨oY type54,cxT112_ok,cxT113_ok⟩
noncomputable def cxT115:Tree TypeInfo:=nD t22 cxT111 cxT114
theorem cxT115_ok:Tree.All (fun k=>TP (2*(2*(2*(2*k+1)+2)+2)+2)) cxT115:=⟨oY type22,cxT111_ok,cxT114_ok⟩
noncomputable def cxT116:Tree TypeInfo:=nD t78 (nD t142 (nD t270 (nF t526) .lf) (nD t398 (nF t654) .lf)) (nD t206 (nD t334 (nF t590) .lf) (nF t462))
theorem cxT116_ok:Tree.All (fun k=>TP (2*(2*(2*(2*(2*(2*k+1)+1)+2)+2)+2)+2)) cxT116:=⟨oY type78,⟨oY type142,⟨oY type270,lY type526,trivial⟩,⟨oY type398,lY type654,trivial⟩⟩,⟨oY type206,⟨oY type334,lY type590,trivial⟩,lY type462⟩⟩
noncomputable def cxT117:Tree TypeInfo:=nD t110 (nD t174 (nD t302 (nF t558) .lf) (nD t430 (nF t686) .lf)) (nD t238 (nD t366 (nF t622) .lf) (nF t494))
theorem cxT117_ok:Tree.All (fun k=>TP (2*(2*(2*(2*(2*(2*k+2)+1)+2)+2)+2)+2)) cxT117:=⟨oY type110,⟨oY type174,⟨oY type302,lY type558,trivial⟩,⟨oY type430,lY type686,trivial⟩⟩,⟨oY type238,⟨oY type366,lY type622,trivial⟩,lY type494⟩⟩
noncomputable def cxT118:Tree TypeInfo:=nD t46 cxT116 cxT117
theorem cxT118_ok:Tree.All (fun k=>TP (2*(2*(2*(2*(2*k+1)+2)+2)+2)+2)) cxT118:=⟨oY type46,cxT116_ok,cxT117_ok⟩
noncomputable def cxT119:Tree TypeInfo:=nD t94 (nD t158 (nD t286 (nF t542) .lf) (nD t414 (nF t670) .lf)) (nD t222 (nD t350 (nF t606) .lf) (nF t478))
theorem cxT119_ok:Tree.All (fun k=>TP (2*(2*(2*(2*(2*(2*k+1)+2)+2)+2)+2)+2)) cxT119:=⟨oY type94,⟨oY type158,⟨oY type286,lY type542,trivial⟩,⟨oY type414,lY type670,trivial⟩⟩,⟨oY type222,⟨oY type350,lY type606,trivial⟩,lY type478⟩⟩
noncomputable def cxT120:Tree TypeInfo:=nD t126 (nD t190 (nD t318 (nF t574) .lf) (nF t446)) (nD t254 (nD t382 (nF t638) .lf) (nF t510))
theorem cxT120_ok:Tree.All (fun k=>TP (2*(2*(2*(2*(2*(2*k+2)+2)+2)+2)+2)+2)) cxT120:=⟨oY type126,⟨oY type190,⟨oY type318,lY type574,trivial⟩,lY type446⟩,⟨oY type254,⟨oY type382,lY type638,trivial⟩,lY type510⟩⟩
noncomputable def cxT121:Tree TypeInfo:=nD t62 cxT119 cxT120
theorem cxT121_ok:Tree.All (fun k=>TP (2*(2*(2*(2*(2*k+2)+2)+2)+2)+2)) cxT121:=⟨oY type62,cxT119_ok,cxT120_ok⟩
noncomputable def cxT122:Tree TypeInfo:=nD t30 cxT118 cxT121
theorem cxT122_ok:Tree.All (fun k=>TP (2*(2*(2*(2*k+2)+2)+2)+2)) cxT122:=⟨oY type30,cxT118_ok,cxT121_ok⟩
noncomputable def cxT123:Tree TypeInfo:=nD t14 cxT115 cxT122
theorem cxT123_ok:Tree.All (fun k=>TP (2*(2*(2*k+2)+2)+2)) cxT123:=⟨oY type14,cxT115_ok,cxT122_ok⟩
noncomputable def cxT124:Tree TypeInfo:=nD t6 cxT108 cxT123
theorem cxT124_ok:Tree.All (fun k=>TP (2*(2*k+2)+2)) cxT124:=⟨oY type6,cxT108_ok,cxT123_ok⟩
noncomputable def cxT125:Tree TypeInfo:=nD t2 cxT93 cxT124
theorem cxT125_ok:Tree.All (fun k=>TP (2*k+2)) cxT125:=⟨oY type2,cxT93_ok,cxT124_ok⟩
noncomputable def cxT126:Tree TypeInfo:=nD t0 cxT62 cxT125
theorem cxT126_ok:Tree.All (fun k=>TP k) cxT126:=⟨oY type0,cxT62_ok,cxT125_ok⟩
noncomputable def cxF127:Tree Func:=nD f63 (nD f127 (nD f255 (nF f511) .lf) (nF f383)) (nD f191 (nD f319 (nF f575) .lf) (nF f447))
theorem cxF127_ok:Tree.All (fun k=>FP (2*(2*(2*(2*(2*(2*k+1)+1)+1)+1)+1)+1)) cxF127:=⟨oY ⟨func63,call63⟩,⟨oY ⟨func127,call127⟩,⟨oY ⟨func255,call255⟩,lY ⟨func511,call511⟩,trivial⟩,lY ⟨func383,call383⟩⟩,⟨oY ⟨func191,call191⟩,⟨oY ⟨func319,call319⟩,lY ⟨func575,call575⟩,trivial⟩,lY ⟨func447,call447⟩⟩⟩
noncomputable def cxF128:Tree Func:=nD f95 (nD f159 (nD f287 (nF f543) .lf) (nF f415)) (nD f223 (nD f351 (nF f607) .lf) (nF f479))
theorem cxF128_ok:Tree.All (fun k=>FP (2*(2*(2*(2*(2*(2*k+2)+1)+1)+1)+1)+1)) cxF128:=⟨oY ⟨func95,call95⟩,⟨oY ⟨func159,call159⟩,⟨oY ⟨func287,call287⟩,lY ⟨func543,call543⟩,trivial⟩,lY ⟨func415,call415⟩⟩,⟨oY ⟨func223,call223⟩,⟨oY ⟨func351,call351⟩,lY ⟨func607,call607⟩,trivial⟩,lY ⟨func479,call479⟩⟩⟩
noncomputable def cxF129:Tree Func:=nD f31 cxF127 cxF128
theorem cxF129_ok:Tree.All (fun k=>FP (2*(2*(2*(2*(2*k+1)+1)+1)+1)+1)) cxF129:=⟨oY ⟨func31,call31⟩,cxF127_ok,cxF128_ok⟩
noncomputable def cxF130:Tree Func:=nD f79 (nD f143 (nD f271 (nF f527) .lf) (nF f399)) (nD f207 (nD f335 (nF f591) .lf) .lf)
theorem cxF130_ok:Tree.All (fun k=>FP (2*(2*(2*(2*(2*(2*k+1)+2)+1)+1)+1)+1)) cxF130:=⟨oY ⟨func79,call79⟩,⟨oY ⟨func143,call143⟩,⟨oY ⟨func271,call271⟩,lY ⟨func527,call527⟩,trivial⟩,lY ⟨func399,call399⟩⟩,⟨oY ⟨func207,call207⟩,⟨oY ⟨func335,call335⟩,lY ⟨func591,call591⟩,trivial⟩,trivial⟩⟩
noncomputable def cxF131:Tree Func:=nD f47 cxF130 (nD f111 (nD f175 (nF f303) (nF f431)) (nD f239 (nF f367) (nF f495)))
theorem cxF131_ok:Tree.All (fun k=>FP (2*(2*(2*(2*(2*k+2)+1)+1)+1)+1)) cxF131:=⟨oY ⟨func47,call47⟩,cxF130_ok,⟨oY ⟨func111,call111⟩,⟨oY ⟨func175,call175⟩,lY ⟨func303,call303⟩,lY ⟨func431,call431⟩⟩,⟨oY ⟨func239,call239⟩,lY ⟨func367,call367⟩,lY ⟨func495,call495⟩⟩⟩⟩
noncomputable def cxF132:Tree Func:=nD f15 cxF129 cxF131
theorem cxF132_ok:Tree.All (fun k=>FP (2*(2*(2*(2*k+1)+1)+1)+1)) cxF132:=⟨oY ⟨func15,call15⟩,cxF129_ok,cxF131_ok⟩
noncomputable def cxF133:Tree Func:=nD f71 (nD f135 (nD f263 (nF f519) .lf) (nF f391)) (nD f199 (nD f327 (nF f583) .lf) (nF f455))
theorem cxF133_ok:Tree.All (fun k=>FP (2*(2*(2*(2*(2*(2*k+1)+1)+2)+1)+1)+1)) cxF133:=⟨oY ⟨func71,call71⟩,⟨oY ⟨func135,call135⟩,⟨oY ⟨func263,call263⟩,lY ⟨func519,call519⟩,trivial⟩,lY ⟨func391,call391⟩⟩,⟨oY ⟨func199,call199⟩,⟨oY ⟨func327,call327⟩,lY ⟨func583,call583⟩,trivial⟩,lY ⟨func455,call455⟩⟩⟩
noncomputable def cxF134:Tree Func:=nD f103 (nD f167 (nD f295 (nF f551) .lf) (nF f423)) (nD f231 (nD f359 (nF f615) .lf) (nF f487))
theorem cxF134_ok:Tree.All (fun k=>FP (2*(2*(2*(2*(2*(2*k+2)+1)+2)+1)+1)+1)) cxF134:=⟨oY ⟨func103,call103⟩,⟨oY ⟨func167,call167⟩,⟨oY ⟨func295,call295⟩,lY ⟨func551,call551⟩,trivial⟩,lY ⟨func423,call423⟩⟩,⟨oY ⟨func231,call231⟩,⟨oY ⟨func359,call359⟩,lY ⟨func615,call615⟩,trivial⟩,lY ⟨func487,call487⟩⟩⟩
noncomputable def cxF135:Tree Func:=nD f39 cxF133 cxF134
theorem cxF135_ok:Tree.All (fun k=>FP (2*(2*(2*(2*(2*k+1)+2)+1)+1)+1)) cxF135:=⟨oY ⟨func39,call39⟩,cxF133_ok,cxF134_ok⟩
noncomputable def cxF136:Tree Func:=nD f87 (nD f151 (nD f279 (nF f535) .lf) (nF f407)) (nD f215 (nD f343 (nF f599) .lf) .lf)
theorem cxF136_ok:Tree.All (fun k=>FP (2*(2*(2*(2*(2*(2*k+1)+2)+2)+1)+1)+1)) cxF136:=⟨oY ⟨func87,call87⟩,⟨oY ⟨func151,call151⟩,⟨oY ⟨func279,call279⟩,lY ⟨func535,call535⟩,trivial⟩,lY ⟨func407,call407⟩⟩,⟨oY ⟨func215,call215⟩,⟨oY ⟨func343,call343⟩,lY ⟨func599,call599⟩,trivial⟩,trivial⟩⟩
noncomputable def cxF137:Tree Func:=nD f119 (nD f183 (nF f311) (nF f439)) (nD f247 (nD f375 (nF f631) .lf) (nF f503))
theorem cxF137_ok:Tree.All (fun k=>FP (2*(2*(2*(2*(2*(2*k+2)+2)+2)+1)+1)+1)) cxF137:=⟨oY ⟨func119,call119⟩,⟨oY ⟨func183,call183⟩,lY ⟨func311,call311⟩,lY ⟨func439,call439⟩⟩,⟨oY ⟨func247,call247⟩,⟨oY ⟨func375,call375⟩,lY ⟨func631,call631⟩,trivial⟩,lY ⟨func503,call503⟩⟩⟩
noncomputable def cxF138:Tree Func:=nD f55 cxF136 cxF137
theorem cxF138_ok:Tree.All (fun k=>FP (2*(2*(2*(2*(2*k+2)+2)+1)+1)+1)) cxF138:=⟨oY ⟨func55,call55⟩,cxF136_ok,cxF137_ok⟩
noncomputable def cxF139:Tree Func:=nD f23 cxF135 cxF138
theorem cxF139_ok:Tree.All (fun k=>FP (2*(2*(2*(2*k+2)+1)+1)+1)) cxF139:=⟨oY ⟨func23,call23⟩,cxF135_ok,cxF138_ok⟩
noncomputable def cxF140:Tree Func:=nD f7 cxF132 cxF139
theorem cxF140_ok:Tree.All (fun k=>FP (2*(2*(2*k+1)+1)+1)) cxF140:=⟨oY ⟨func7,call7⟩,cxF132_ok,cxF139_ok⟩
noncomputable def cxF141:Tree Func:=nD f67 (nD f131 (nD f259 (nF f515) .lf) (nD f387 (nF f643) .lf)) (nD f195 (nF f323) (nF f451))
theorem cxF141_ok:Tree.All (fun k=>FP (2*(2*(2*(2*(2*(2*k+1)+1)+1)+2)+1)+1)) cxF141:=⟨oY ⟨func67,call67⟩,⟨oY ⟨func131,call131⟩,⟨oY ⟨func259,call259⟩,lY ⟨func515,call515⟩,trivial⟩,⟨oY ⟨func387,call387⟩,lY ⟨func643,call643⟩,trivial⟩⟩,⟨oY ⟨func195,call195⟩,lY ⟨func323,call323⟩,lY ⟨func451,call451⟩⟩⟩
noncomputable def cxF142:Tree Func:=nD f99 (nD f163 (nD f291 (nF f547) .lf) (nF f419)) (nD f227 (nD f355 (nF f611) .lf) (nF f483))
theorem cxF142_ok:Tree.All (fun k=>FP (2*(2*(2*(2*(2*(2*k+2)+1)+1)+2)+1)+1)) cxF142:=⟨oY ⟨func99,call99⟩,⟨oY ⟨func163,call163⟩,⟨oY ⟨func291,call291⟩,lY ⟨func547,call547⟩,trivial⟩,lY ⟨func419,call419⟩⟩,⟨oY ⟨func227,call227⟩,⟨oY ⟨func355,call355⟩,lY ⟨func611,call611⟩,trivial⟩,lY ⟨func483,call483⟩⟩⟩
noncomputable def cxF143:Tree Func:=nD f35 cxF141 cxF142
theorem cxF143_ok:Tree.All (fun k=>FP (2*(2*(2*(2*(2*k+1)+1)+2)+1)+1)) cxF143:=⟨oY ⟨func35,call35⟩,cxF141_ok,cxF142_ok⟩
noncomputable def cxF144:Tree Func:=nD f115 (nD f179 (nD f307 (nF f563) .lf) (nF f435)) (nD f243 (nF f371) (nF f499))
theorem cxF144_ok:Tree.All (fun k=>FP (2*(2*(2*(2*(2*(2*k+2)+2)+1)+2)+1)+1)) cxF144:=⟨oY ⟨func115,call115⟩,⟨oY ⟨func179,call179⟩,⟨oY ⟨func307,call307⟩,lY ⟨func563,call563⟩,trivial⟩,lY ⟨func435,call435⟩⟩,⟨oY ⟨func243,call243⟩,lY ⟨func371,call371⟩,lY ⟨func499,call499⟩⟩⟩
noncomputable def cxF145:Tree Func:=nD f51 (nD f83 (nD f147 (nD f275 (nF f531) .lf) (nF f403)) (nD f211 (nF f339) .lf)) cxF144
theorem cxF145_ok:Tree.All (fun k=>FP (2*(2*(2*(2*(2*k+2)+1)+2)+1)+1)) cxF145:=⟨oY ⟨func51,call51⟩,⟨oY ⟨func83,call83⟩,⟨oY ⟨func147,call147⟩,⟨oY ⟨func275,call275⟩,lY ⟨func531,call531⟩,trivial⟩,lY ⟨func403,call403⟩⟩,⟨oY ⟨func211,call211⟩,lY ⟨func339,call339⟩,trivial⟩⟩,cxF144_ok⟩
noncomputable def cxF146:Tree Func:=nD f19 cxF143 cxF145
theorem cxF146_ok:Tree.All (fun k=>FP (2*(2*(2*(2*k+1)+2)+1)+1)) cxF146:=⟨oY ⟨func19,call19⟩,cxF143_ok,cxF145_ok⟩
noncomputable def cxF147:Tree Func:=nD f75 (nD f139 (nD f267 (nF f523) .lf) (nF f395)) (nD f203 (nD f331 (nF f587) .lf) .lf)
theorem cxF147_ok:Tree.All (fun k=>FP (2*(2*(2*(2*(2*(2*k+1)+1)+2)+2)+1)+1)) cxF147:=⟨oY ⟨func75,call75⟩,⟨oY ⟨func139,call139⟩,⟨oY ⟨func267,call267⟩,lY ⟨func523,call523⟩,trivial⟩,lY ⟨func395,call395⟩⟩,⟨oY ⟨func203,call203⟩,⟨oY ⟨func331,call331⟩,lY ⟨func587,call587⟩,trivial⟩,trivial⟩⟩
noncomputable def cxF148:Tree Func:=nD f107 (.nd none (nD f299 (nF f555) .lf) (nF f427)) (nD f235 (nD f363 (nF f619) .lf) (nF f491))
theorem cxF148_ok:Tree.All (fun k=>FP (2*(2*(2*(2*(2*(2*k+2)+1)+2)+2)+1)+1)) cxF148:=⟨oY ⟨func107,call107⟩,⟨oN,⟨oY ⟨func299,call299⟩,lY ⟨func555,call555⟩,trivial⟩,lY ⟨func427,call427⟩⟩,⟨oY ⟨func235,call235⟩,⟨oY ⟨func363,call363⟩,lY ⟨func619,call619⟩,trivial⟩,lY ⟨func491,call491⟩⟩⟩
noncomputable def cxF149:Tree Func:=nD f43 cxF147 cxF148
theorem cxF149_ok:Tree.All (fun k=>FP (2*(2*(2*(2*(2*k+1)+2)+2)+1)+1)) cxF149:=⟨oY ⟨func43,call43⟩,cxF147_ok,cxF148_ok⟩
noncomputable def cxF150:Tree Func:=nD f91 (nD f155 (nD f283 (nF f539) .lf) (nF f411)) (nD f219 (nD f347 (nF f603) .lf) (nF f475))
theorem cxF150_ok:Tree.All (fun k=>FP (2*(2*(2*(2*(2*(2*k+1)+2)+2)+2)+1)+1)) cxF150:=⟨oY ⟨func91,call91⟩,⟨oY ⟨func155,call155⟩,⟨oY ⟨func283,call283⟩,lY ⟨func539,call539⟩,trivial⟩,lY ⟨func411,call411⟩⟩,⟨oY ⟨func219,call219⟩,⟨oY ⟨func347,call347⟩,lY ⟨func603,call603⟩,trivial⟩,lY ⟨func475,call475⟩⟩⟩
noncomputable def cxF151:Tree Func:=nD f123 (nD f187 (nD f315 (nF f571) .lf) (nF f443)) (nD f251 (nF f379) (nF f507))
theorem cxF151_ok:Tree.All (fun k=>FP (2*(2*(2*(2*(2*(2*k+2)+2)+2)+2)+1)+1)) cxF151:=⟨oY ⟨func123,call123⟩,⟨oY ⟨func187,call187⟩,⟨oY ⟨func315,call315⟩,lY ⟨func571,call571⟩,trivial⟩,lY ⟨func443,call443⟩⟩,⟨oY ⟨func251,call251⟩,lY ⟨func379,call379⟩,lY ⟨func507,call507⟩⟩⟩
noncomputable def cxF152:Tree Func:=nD f59 cxF150 cxF151
theorem cxF152_ok:Tree.All (fun k=>FP (2*(2*(2*(2*(2*k+2)+2)+2)+1)+1)) cxF152:=⟨oY ⟨func59,call59⟩,cxF150_ok,cxF151_ok⟩
noncomputable def cxF153:Tree Func:=nD f27 cxF149 cxF152
theorem cxF153_ok:Tree.All (fun k=>FP (2*(2*(2*(2*k+2)+2)+1)+1)) cxF153:=⟨oY ⟨func27,call27⟩,cxF149_ok,cxF152_ok⟩
noncomputable def cxF154:Tree Func:=nD f11 cxF146 cxF153
theorem cxF154_ok:Tree.All (fun k=>FP (2*(2*(2*k+2)+1)+1)) cxF154:=⟨oY ⟨func11,call11⟩,cxF146_ok,cxF153_ok⟩
noncomputable def cxF155:Tree Func:=nD f3 cxF140 cxF154
theorem cxF155_ok:Tree.All (fun k=>FP (2*(2*k+1)+1)) cxF155:=⟨oY ⟨func3,call3⟩,cxF140_ok,cxF154_ok⟩
noncomputable def cxF156:Tree Func:=nD f65 (nD f129 (nD f257 (nF f513) .lf) (nF f385)) (nD f193 (nD f321 (nF f577) .lf) (nF f449))
theorem cxF156_ok:Tree.All (fun k=>FP (2*(2*(2*(2*(2*(2*k+1)+1)+1)+1)+2)+1)) cxF156:=⟨oY ⟨func65,call65⟩,⟨oY ⟨func129,call129⟩,⟨oY ⟨func257,call257⟩,lY ⟨func513,call513⟩,trivial⟩,lY ⟨func385,call385⟩⟩,⟨oY ⟨func193,call193⟩,⟨oY ⟨func321,call321⟩,lY ⟨func577,call577⟩,trivial⟩,lY ⟨func449,call449⟩⟩⟩
noncomputable def cxF157:Tree Func:=nD f97 (nD f161 (nD f289 (nF f545) .lf) (nF f417)) (nD f225 (nD f353 (nF f609) .lf) (nF f481))
theorem cxF157_ok:Tree.All (fun k=>FP (2*(2*(2*(2*(2*(2*k+2)+1)+1)+1)+2)+1)) cxF157:=⟨oY ⟨func97,call97⟩,⟨oY ⟨func161,call161⟩,⟨oY ⟨func289,call289⟩,lY ⟨func545,call545⟩,trivial⟩,lY ⟨func417,call417⟩⟩,⟨oY ⟨func225,call225⟩,⟨oY ⟨func353,call353⟩,lY ⟨func609,call609⟩,trivial⟩,lY ⟨func481,call481⟩⟩⟩
noncomputable def cxF158:Tree Func:=nD f33 cxF156 cxF157
theorem cxF158_ok:Tree.All (fun k=>FP (2*(2*(2*(2*(2*k+1)+1)+1)+2)+1)) cxF158:=⟨oY ⟨func33,call33⟩,cxF156_ok,cxF157_ok⟩
noncomputable def cxF159:Tree Func:=nD f49 (nD f81 (nD f145 (nD f273 (nF f529) .lf) (nF f401)) (nD f209 (nF f337) .lf)) (nD f113 (nD f177 (nF f305) (nF f433)) (nD f241 (nF f369) (nF f497)))
theorem cxF159_ok:Tree.All (fun k=>FP (2*(2*(2*(2*(2*k+2)+1)+1)+2)+1)) cxF159:=⟨oY ⟨func49,call49⟩,⟨oY ⟨func81,call81⟩,⟨oY ⟨func145,call145⟩,⟨oY ⟨func273,call273⟩,lY ⟨func529,call529⟩,trivial⟩,lY ⟨func401,call401⟩⟩,⟨oY ⟨func209,call209⟩,lY ⟨func337,call337⟩,trivial⟩⟩,⟨oY ⟨func113,call113⟩,⟨oY ⟨func177,call177⟩,lY ⟨func305,call305⟩,lY ⟨func433,call433⟩⟩,⟨oY ⟨func241,call241⟩,lY ⟨func369,call369⟩,lY ⟨func497,call497⟩⟩⟩⟩
noncomputable def cxF160:Tree Func:=nD f17 cxF158 cxF159
theorem cxF160_ok:Tree.All (fun k=>FP (2*(2*(2*(2*k+1)+1)+2)+1)) cxF160:=⟨oY ⟨func17,call17⟩,cxF158_ok,cxF159_ok⟩
noncomputable def cxF161:Tree Func:=nD f73 (nD f137 (nD f265 (nF f521) .lf) (nF f393)) (nD f201 (nD f329 (nF f585) .lf) .lf)
theorem cxF161_ok:Tree.All (fun k=>FP (2*(2*(2*(2*(2*(2*k+1)+1)+2)+1)+2)+1)) cxF161:=⟨oY ⟨func73,call73⟩,⟨oY ⟨func137,call137⟩,⟨oY ⟨func265,call265⟩,lY ⟨func521,call521⟩,trivial⟩,lY ⟨func393,call393⟩⟩,⟨oY ⟨func201,call201⟩,⟨oY ⟨func329,call329⟩,lY ⟨func585,call585⟩,trivial⟩,trivial⟩⟩
noncomputable def cxF162:Tree Func:=nD f105 (nD f169 (nD f297 (nF f553) .lf) (nF f425)) (nD f233 (nD f361 (nF f617) .lf) (nF f489))
theorem cxF162_ok:Tree.All (fun k=>FP (2*(2*(2*(2*(2*(2*k+2)+1)+2)+1)+2)+1)) cxF162:=⟨oY ⟨func105,call105⟩,⟨oY ⟨func169,call169⟩,⟨oY ⟨func297,call297⟩,lY ⟨func553,call553⟩,trivial⟩,lY ⟨func425,call425⟩⟩,⟨oY ⟨func233,call233⟩,⟨oY ⟨func361,call361⟩,lY ⟨func617,call617⟩,trivial⟩,lY ⟨func489,call489⟩⟩⟩
noncomputable def cxF163:Tree Func:=nD f41 cxF161 cxF162
theorem cxF163_ok:Tree.All (fun k=>FP (2*(2*(2*(2*(2*k+1)+2)+1)+2)+1)) cxF163:=⟨oY ⟨func41,call41⟩,cxF161_ok,cxF162_ok⟩
noncomputable def cxF164:Tree Func:=nD f89 (nD f153 (nD f281 (nF f537) .lf) (nF f409)) (nD f217 (nD f345 (nF f601) .lf) .lf)
theorem cxF164_ok:Tree.All (fun k=>FP (2*(2*(2*(2*(2*(2*k+1)+2)+2)+1)+2)+1)) cxF164:=⟨oY ⟨func89,call89⟩,⟨oY ⟨func153,call153⟩,⟨oY ⟨func281,call281⟩,lY ⟨func537,call537⟩,trivial⟩,lY ⟨func409,call409⟩⟩,⟨oY ⟨func217,call217⟩,⟨oY ⟨func345,call345⟩,lY ⟨func601,call601⟩,trivial⟩,trivial⟩⟩
noncomputable def cxF165:Tree Func:=.nd none (nD f185 (nD f313 (nF f569) .lf) (nF f441)) (nD f249 (nD f377 (nF f633) .lf) (nF f505))
theorem cxF165_ok:Tree.All (fun k=>FP (2*(2*(2*(2*(2*(2*k+2)+2)+2)+1)+2)+1)) cxF165:=⟨oN,⟨oY ⟨func185,call185⟩,⟨oY ⟨func313,call313⟩,lY ⟨func569,call569⟩,trivial⟩,lY ⟨func441,call441⟩⟩,⟨oY ⟨func249,call249⟩,⟨oY ⟨func377,call377⟩,lY ⟨func633,call633⟩,trivial⟩,lY ⟨func505,call505⟩⟩⟩
noncomputable def cxF166:Tree Func:=nD f57 cxF164 cxF165
theorem cxF166_ok:Tree.All (fun k=>FP (2*(2*(2*(2*(2*k+2)+2)+1)+2)+1)) cxF166:=⟨oY ⟨func57,call57⟩,cxF164_ok,cxF165_ok⟩
noncomputable def cxF167:Tree Func:=nD f25 cxF163 cxF166
theorem cxF167_ok:Tree.All (fun k=>FP (2*(2*(2*(2*k+2)+1)+2)+1)) cxF167:=⟨oY ⟨func25,call25⟩,cxF163_ok,cxF166_ok⟩
noncomputable def cxF168:Tree Func:=nD f9 cxF160 cxF167
theorem cxF168_ok:Tree.All (fun k=>FP (2*(2*(2*k+1)+2)+1)) cxF168:=⟨oY ⟨func9,call9⟩,cxF160_ok,cxF167_ok⟩
noncomputable def cxF169:Tree Func:=nD f69 (nD f133 (nD f261 (nF f517) .lf) (nF f389)) (nD f197 (nF f325) (nF f453))
theorem cxF169_ok:Tree.All (fun k=>FP (2*(2*(2*(2*(2*(2*k+1)+1)+1)+2)+2)+1)) cxF169:=⟨oY ⟨func69,call69⟩,⟨oY ⟨func133,call133⟩,⟨oY ⟨func261,call261⟩,lY ⟨func517,call517⟩,trivial⟩,lY ⟨func389,call389⟩⟩,⟨oY ⟨func197,call197⟩,lY ⟨func325,call325⟩,lY ⟨func453,call453⟩⟩⟩
noncomputable def cxF170:Tree Func:=nD f101 (nD f165 (nD f293 (nF f549) .lf) (nF f421)) (nD f229 (nD f357 (nF f613) .lf) (nF f485))
theorem cxF170_ok:Tree.All (fun k=>FP (2*(2*(2*(2*(2*(2*k+2)+1)+1)+2)+2)+1)) cxF170:=⟨oY ⟨func101,call101⟩,⟨oY ⟨func165,call165⟩,⟨oY ⟨func293,call293⟩,lY ⟨func549,call549⟩,trivial⟩,lY ⟨func421,call421⟩⟩,⟨oY ⟨func229,call229⟩,⟨oY ⟨func357,call357⟩,lY ⟨func613,call613⟩,trivial⟩,lY ⟨func485,call485⟩⟩⟩
noncomputable def cxF171:Tree Func:=nD f37 cxF169 cxF170
theorem cxF171_ok:Tree.All (fun k=>FP (2*(2*(2*(2*(2*k+1)+1)+2)+2)+1)) cxF171:=⟨oY ⟨func37,call37⟩,cxF169_ok,cxF170_ok⟩
noncomputable def cxF172:Tree Func:=nD f85 (nD f149 (nD f277 (nF f533) .lf) (nF f405)) (nD f213 (nD f341 (nF f597) .lf) .lf)
theorem cxF172_ok:Tree.All (fun k=>FP (2*(2*(2*(2*(2*(2*k+1)+2)+1)+2)+2)+1)) cxF172:=⟨oY ⟨func85,call85⟩,⟨oY ⟨func149,call149⟩,⟨oY ⟨func277,call277⟩,lY ⟨func533,call533⟩,trivial⟩,lY ⟨func405,call405⟩⟩,⟨oY ⟨func213,call213⟩,⟨oY ⟨func341,call341⟩,lY ⟨func597,call597⟩,trivial⟩,trivial⟩⟩
noncomputable def cxF173:Tree Func:=nD f117 (nD f181 (nD f309 (nF f565) .lf) (nF f437)) (nD f245 (nF f373) (nF f501))
theorem cxF173_ok:Tree.All (fun k=>FP (2*(2*(2*(2*(2*(2*k+2)+2)+1)+2)+2)+1)) cxF173:=⟨oY ⟨func117,call117⟩,⟨oY ⟨func181,call181⟩,⟨oY ⟨func309,call309⟩,lY ⟨func565,call565⟩,trivial⟩,lY ⟨func437,call437⟩⟩,⟨oY ⟨func245,call245⟩,lY ⟨func373,call373⟩,lY ⟨func501,call501⟩⟩⟩
noncomputable def cxF174:Tree Func:=nD f53 cxF172 cxF173
theorem cxF174_ok:Tree.All (fun k=>FP (2*(2*(2*(2*(2*k+2)+1)+2)+2)+1)) cxF174:=⟨oY ⟨func53,call53⟩,cxF172_ok,cxF173_ok⟩
noncomputable def cxF175:Tree Func:=nD f21 cxF171 cxF174
theorem cxF175_ok:Tree.All (fun k=>FP (2*(2*(2*(2*k+1)+2)+2)+1)) cxF175:=⟨oY ⟨func21,call21⟩,cxF171_ok,cxF174_ok⟩
noncomputable def cxF176:Tree Func:=nD f77 (nD f141 (nD f269 (nF f525) .lf) (nF f397)) (nD f205 (nD f333 (nF f589) .lf) .lf)
theorem cxF176_ok:Tree.All (fun k=>FP (2*(2*(2*(2*(2*(2*k+1)+1)+2)+2)+2)+1)) cxF176:=⟨oY ⟨func77,call77⟩,⟨oY ⟨func141,call141⟩,⟨oY ⟨func269,call269⟩,lY ⟨func525,call525⟩,trivial⟩,lY ⟨func397,call397⟩⟩,⟨oY ⟨func205,call205⟩,⟨oY ⟨func333,call333⟩,lY ⟨func589,call589⟩,trivial⟩,trivial⟩⟩
noncomputable def cxF177:Tree Func:=nD f109 (nD f173 (nF f301) (nF f429)) (nD f237 (nD f365 (nF f621) .lf) (nF f493))
theorem cxF177_ok:Tree.All (fun k=>FP (2*(2*(2*(2*(2*(2*k+2)+1)+2)+2)+2)+1)) cxF177:=⟨oY ⟨func109,call109⟩,⟨oY ⟨func173,call173⟩,lY ⟨func301,call301⟩,lY ⟨func429,call429⟩⟩,⟨oY ⟨func237,call237⟩,⟨oY ⟨func365,call365⟩,lY ⟨func621,call621⟩,trivial⟩,lY ⟨func493,call493⟩⟩⟩
noncomputable def cxF178:Tree Func:=nD f45 cxF176 cxF177
theorem cxF178_ok:Tree.All (fun k=>FP (2*(2*(2*(2*(2*k+1)+2)+2)+2)+1)) cxF178:=⟨oY ⟨func45,call45⟩,cxF176_ok,cxF177_ok⟩
noncomputable def cxF179:Tree Func:=nD f93 (nD f157 (nD f285 (nF f541) .lf) (nF f413)) (nD f221 (nD f349 (nF f605) .lf) (nF f477))
theorem cxF179_ok:Tree.All (fun k=>FP (2*(2*(2*(2*(2*(2*k+1)+2)+2)+2)+2)+1)) cxF179:=⟨oY ⟨func93,call93⟩,⟨oY ⟨func157,call157⟩,⟨oY ⟨func285,call285⟩,lY ⟨func541,call541⟩,trivial⟩,lY ⟨func413,call413⟩⟩,⟨oY ⟨func221,call221⟩,⟨oY ⟨func349,call349⟩,lY ⟨func605,call605⟩,trivial⟩,lY ⟨func477,call477⟩⟩⟩
noncomputable def cxF180:Tree Func:=nD f125 (nD f189 (nD f317 (nF f573) .lf) (nF f445)) (nD f253 (nF f381) (nF f509))
theorem cxF180_ok:Tree.All (fun k=>FP (2*(2*(2*(2*(2*(2*k+2)+2)+2)+2)+2)+1)) cxF180:=⟨oY ⟨func125,call125⟩,⟨oY ⟨func189,call189⟩,⟨oY ⟨func317,call317⟩,lY ⟨func573,call573⟩,trivial⟩,lY ⟨func445,call445⟩⟩,⟨oY ⟨func253,call253⟩,lY ⟨func381,call381⟩,lY ⟨func509,call509⟩⟩⟩
noncomputable def cxF181:Tree Func:=nD f61 cxF179 cxF180
theorem cxF181_ok:Tree.All (fun k=>FP (2*(2*(2*(2*(2*k+2)+2)+2)+2)+1)) cxF181:=⟨oY ⟨func61,call61⟩,cxF179_ok,cxF180_ok⟩
noncomputable def cxF182:Tree Func:=nD f29 cxF178 cxF181
theorem cxF182_ok:Tree.All (fun k=>FP (2*(2*(2*(2*k+2)+2)+2)+1)) cxF182:=⟨oY ⟨func29,call29⟩,cxF178_ok,cxF181_ok⟩
noncomputable def cxF183:Tree Func:=nD f13 cxF175 cxF182
theorem cxF183_ok:Tree.All (fun k=>FP (2*(2*(2*k+2)+2)+1)) cxF183:=⟨oY ⟨func13,call13⟩,cxF175_ok,cxF182_ok⟩
noncomputable def cxF184:Tree Func:=nD f5 cxF168 cxF183
theorem cxF184_ok:Tree.All (fun k=>FP (2*(2*k+2)+1)) cxF184:=⟨oY ⟨func5,call5⟩,cxF168_ok,cxF183_ok⟩
noncomputable def cxF185:Tree Func:=.nd none cxF155 cxF184
theorem cxF185_ok:Tree.All (fun k=>FP (2*k+1)) cxF185:=⟨oN,cxF155_ok,cxF184_ok⟩
noncomputable def cxF186:Tree Func:=nD f64 (nD f128 (nD f256 (nF f512) .lf) (nF f384)) (nD f192 (nD f320 (nF f576) .lf) (nF f448))
theorem cxF186_ok:Tree.All (fun k=>FP (2*(2*(2*(2*(2*(2*k+1)+1)+1)+1)+1)+2)) cxF186:=⟨oY ⟨func64,call64⟩,⟨oY ⟨func128,call128⟩,⟨oY ⟨func256,call256⟩,lY ⟨func512,call512⟩,trivial⟩,lY ⟨func384,call384⟩⟩,⟨oY ⟨func192,call192⟩,⟨oY ⟨func320,call320⟩,lY ⟨func576,call576⟩,trivial⟩,lY ⟨func448,call448⟩⟩⟩
noncomputable def cxF187:Tree Func:=nD f96 (nD f160 (nD f288 (nF f544) .lf) (nF f416)) (nD f224 (nF f352) (nF f480))
theorem cxF187_ok:Tree.All (fun k=>FP (2*(2*(2*(2*(2*(2*k+2)+1)+1)+1)+1)+2)) cxF187:=⟨oY ⟨func96,call96⟩,⟨oY ⟨func160,call160⟩,⟨oY ⟨func288,call288⟩,lY ⟨func544,call544⟩,trivial⟩,lY ⟨func416,call416⟩⟩,⟨oY ⟨func224,call224⟩,lY ⟨func352,call352⟩,lY ⟨func480,call480⟩⟩⟩
noncomputable def cxF188:Tree Func:=nD f32 cxF186 cxF187
theorem cxF188_ok:Tree.All (fun k=>FP (2*(2*(2*(2*(2*k+1)+1)+1)+1)+2)) cxF188:=⟨oY ⟨func32,call32⟩,cxF186_ok,cxF187_ok⟩
noncomputable def cxF189:Tree Func:=nD f48 (nD f80 (nD f144 (nD f272 (nF f528) .lf) (nF f400)) (nD f208 (nF f336) .lf)) (nD f112 (nD f176 (nF f304) (nF f432)) (nD f240 (nF f368) (nF f496)))
theorem cxF189_ok:Tree.All (fun k=>FP (2*(2*(2*(2*(2*k+2)+1)+1)+1)+2)) cxF189:=⟨oY ⟨func48,call48⟩,⟨oY ⟨func80,call80⟩,⟨oY ⟨func144,call144⟩,⟨oY ⟨func272,call272⟩,lY ⟨func528,call528⟩,trivial⟩,lY ⟨func400,call400⟩⟩,⟨oY ⟨func208,call208⟩,lY ⟨func336,call336⟩,trivial⟩⟩,⟨oY ⟨func112,call112⟩,⟨oY ⟨func176,call176⟩,lY ⟨func304,call304⟩,lY ⟨func432,call432⟩⟩,⟨oY ⟨func240,call240⟩,lY ⟨func368,call368⟩,lY ⟨func496,call496⟩⟩⟩⟩
noncomputable def cxF190:Tree Func:=nD f16 cxF188 cxF189
theorem cxF190_ok:Tree.All (fun k=>FP (2*(2*(2*(2*k+1)+1)+1)+2)) cxF190:=⟨oY ⟨func16,call16⟩,cxF188_ok,cxF189_ok⟩
noncomputable def cxF191:Tree Func:=nD f72 (nD f136 (nD f264 (nF f520) .lf) (nF f392)) (nD f200 (nD f328 (nF f584) .lf) .lf)
theorem cxF191_ok:Tree.All (fun k=>FP (2*(2*(2*(2*(2*(2*k+1)+1)+2)+1)+1)+2)) cxF191:=⟨oY ⟨func72,call72⟩,⟨oY ⟨func136,call136⟩,⟨oY ⟨func264,call264⟩,lY ⟨func520,call520⟩,trivial⟩,lY ⟨func392,call392⟩⟩,⟨oY ⟨func200,call200⟩,⟨oY ⟨func328,call328⟩,lY ⟨func584,call584⟩,trivial⟩,trivial⟩⟩
noncomputable def cxF192:Tree Func:=nD f104 (.nd none (nD f296 (nF f552) .lf) (nF f424)) (nD f232 (nD f360 (nF f616) .lf) (nF f488))
theorem cxF192_ok:Tree.All (fun k=>FP (2*(2*(2*(2*(2*(2*k+2)+1)+2)+1)+1)+2)) cxF192:=⟨oY ⟨func104,call104⟩,⟨oN,⟨oY ⟨func296,call296⟩,lY ⟨func552,call552⟩,trivial⟩,lY ⟨func424,call424⟩⟩,⟨oY ⟨func232,call232⟩,⟨oY ⟨func360,call360⟩,lY ⟨func616,call616⟩,trivial⟩,lY ⟨func488,call488⟩⟩⟩
noncomputable def cxF193:Tree Func:=nD f40 cxF191 cxF192
theorem cxF193_ok:Tree.All (fun k=>FP (2*(2*(2*(2*(2*k+1)+2)+1)+1)+2)) cxF193:=⟨oY ⟨func40,call40⟩,cxF191_ok,cxF192_ok⟩
noncomputable def cxF194:Tree Func:=nD f88 (nD f152 (nD f280 (nF f536) .lf) (nF f408)) (nD f216 (nD f344 (nF f600) .lf) .lf)
theorem cxF194_ok:Tree.All (fun k=>FP (2*(2*(2*(2*(2*(2*k+1)+2)+2)+1)+1)+2)) cxF194:=⟨oY ⟨func88,call88⟩,⟨oY ⟨func152,call152⟩,⟨oY ⟨func280,call280⟩,lY ⟨func536,call536⟩,trivial⟩,lY ⟨func408,call408⟩⟩,⟨oY ⟨func216,call216⟩,⟨oY ⟨func344,call344⟩,lY ⟨func600,call600⟩,trivial⟩,trivial⟩⟩
noncomputable def cxF195:Tree Func:=nD f120 (nD f184 (nF f312) (nF f440)) (nD f248 (nD f376 (nF f632) .lf) (nF f504))
theorem cxF195_ok:Tree.All (fun k=>FP (2*(2*(2*(2*(2*(2*k+2)+2)+2)+1)+1)+2)) cxF195:=⟨oY ⟨func120,call120⟩,⟨oY ⟨func184,call184⟩,lY ⟨func312,call312⟩,lY ⟨func440,call440⟩⟩,⟨oY ⟨func248,call248⟩,⟨oY ⟨func376,call376⟩,lY ⟨func632,call632⟩,trivial⟩,lY ⟨func504,call504⟩⟩⟩
noncomputable def cxF196:Tree Func:=nD f56 cxF194 cxF195
theorem cxF196_ok:Tree.All (fun k=>FP (2*(2*(2*(2*(2*k+2)+2)+1)+1)+2)) cxF196:=⟨oY ⟨func56,call56⟩,cxF194_ok,cxF195_ok⟩
noncomputable def cxF197:Tree Func:=nD f24 cxF193 cxF196
theorem cxF197_ok:Tree.All (fun k=>FP (2*(2*(2*(2*k+2)+1)+1)+2)) cxF197:=⟨oY ⟨func24,call24⟩,cxF193_ok,cxF196_ok⟩
noncomputable def cxF198:Tree Func:=nD f8 cxF190 cxF197
theorem cxF198_ok:Tree.All (fun k=>FP (2*(2*(2*k+1)+1)+2)) cxF198:=⟨oY ⟨func8,call8⟩,cxF190_ok,cxF197_ok⟩
noncomputable def cxF199:Tree Func:=nD f68 (nD f132 (nD f260 (nF f516) .lf) (nF f388)) (nD f196 (nD f324 (nF f580) .lf) (nF f452))
theorem cxF199_ok:Tree.All (fun k=>FP (2*(2*(2*(2*(2*(2*k+1)+1)+1)+2)+1)+2)) cxF199:=⟨oY ⟨func68,call68⟩,⟨oY ⟨func132,call132⟩,⟨oY ⟨func260,call260⟩,lY ⟨func516,call516⟩,trivial⟩,lY ⟨func388,call388⟩⟩,⟨oY ⟨func196,call196⟩,⟨oY ⟨func324,call324⟩,lY ⟨func580,call580⟩,trivial⟩,lY ⟨func452,call452⟩⟩⟩
noncomputable def cxF200:Tree Func:=nD f100 (nD f164 (nD f292 (nF f548) .lf) (nF f420)) (nD f228 (nF f356) (nF f484))
theorem cxF200_ok:Tree.All (fun k=>FP (2*(2*(2*(2*(2*(2*k+2)+1)+1)+2)+1)+2)) cxF200:=⟨oY ⟨func100,call100⟩,⟨oY ⟨func164,call164⟩,⟨oY ⟨func292,call292⟩,lY ⟨func548,call548⟩,trivial⟩,lY ⟨func420,call420⟩⟩,⟨oY ⟨func228,call228⟩,lY ⟨func356,call356⟩,lY ⟨func484,call484⟩⟩⟩
noncomputable def cxF201:Tree Func:=nD f36 cxF199 cxF200
theorem cxF201_ok:Tree.All (fun k=>FP (2*(2*(2*(2*(2*k+1)+1)+2)+1)+2)) cxF201:=⟨oY ⟨func36,call36⟩,cxF199_ok,cxF200_ok⟩
noncomputable def cxF202:Tree Func:=nD f52 (nD f84 (nD f148 (nD f276 (nF f532) .lf) (nF f404)) (.nd none (nD f340 (nF f596) .lf) .lf)) (nD f116 (nD f180 (nF f308) (nF f436)) (nD f244 (nF f372) (nF f500)))
theorem cxF202_ok:Tree.All (fun k=>FP (2*(2*(2*(2*(2*k+2)+1)+2)+1)+2)) cxF202:=⟨oY ⟨func52,call52⟩,⟨oY ⟨func84,call84⟩,⟨oY ⟨func148,call148⟩,⟨oY ⟨func276,call276⟩,lY ⟨func532,call532⟩,trivial⟩,lY ⟨func404,call404⟩⟩,⟨oN,⟨oY ⟨func340,call340⟩,lY ⟨func596,call596⟩,trivial⟩,trivial⟩⟩,⟨oY ⟨func116,call116⟩,⟨oY ⟨func180,call180⟩,lY ⟨func308,call308⟩,lY ⟨func436,call436⟩⟩,⟨oY ⟨func244,call244⟩,lY ⟨func372,call372⟩,lY ⟨func500,call500⟩⟩⟩⟩
noncomputable def cxF203:Tree Func:=nD f20 cxF201 cxF202
theorem cxF203_ok:Tree.All (fun k=>FP (2*(2*(2*(2*k+1)+2)+1)+2)) cxF203:=⟨oY ⟨func20,call20⟩,cxF201_ok,cxF202_ok⟩
noncomputable def cxF204:Tree Func:=nD f76 (nD f140 (nD f268 (nF f524) .lf) (nF f396)) (nD f204 (nD f332 (nF f588) .lf) .lf)
theorem cxF204_ok:Tree.All (fun k=>FP (2*(2*(2*(2*(2*(2*k+1)+1)+2)+2)+1)+2)) cxF204:=⟨oY ⟨func76,call76⟩,⟨oY ⟨func140,call140⟩,⟨oY ⟨func268,call268⟩,lY ⟨func524,call524⟩,trivial⟩,lY ⟨func396,call396⟩⟩,⟨oY ⟨func204,call204⟩,⟨oY ⟨func332,call332⟩,lY ⟨func588,call588⟩,trivial⟩,trivial⟩⟩
noncomputable def cxF205:Tree Func:=nD f108 (nD f172 (nF f300) (nF f428)) (nD f236 (nD f364 (nF f620) .lf) (nF f492))
theorem cxF205_ok:Tree.All (fun k=>FP (2*(2*(2*(2*(2*(2*k+2)+1)+2)+2)+1)+2)) cxF205:=⟨oY ⟨func108,call108⟩,⟨oY ⟨func172,call172⟩,lY ⟨func300,call300⟩,lY ⟨func428,call428⟩⟩,⟨oY ⟨func236,call236⟩,⟨oY ⟨func364,call364⟩,lY ⟨func620,call620⟩,trivial⟩,lY ⟨func492,call492⟩⟩⟩
noncomputable def cxF206:Tree Func:=nD f44 cxF204 cxF205
theorem cxF206_ok:Tree.All (fun k=>FP (2*(2*(2*(2*(2*k+1)+2)+2)+1)+2)) cxF206:=⟨oY ⟨func44,call44⟩,cxF204_ok,cxF205_ok⟩
noncomputable def cxF207:Tree Func:=nD f92 (nD f156 (nD f284 (nF f540) .lf) (nF f412)) (nD f220 (nD f348 (nF f604) .lf) (nF f476))
theorem cxF207_ok:Tree.All (fun k=>FP (2*(2*(2*(2*(2*(2*k+1)+2)+2)+2)+1)+2)) cxF207:=⟨oY ⟨func92,call92⟩,⟨oY ⟨func156,call156⟩,⟨oY ⟨func284,call284⟩,lY ⟨func540,call540⟩,trivial⟩,lY ⟨func412,call412⟩⟩,⟨oY ⟨func220,call220⟩,⟨oY ⟨func348,call348⟩,lY ⟨func604,call604⟩,trivial⟩,lY ⟨func476,call476⟩⟩⟩
noncomputable def cxF208:Tree Func:=nD f124 (nD f188 (nD f316 (nF f572) .lf) (nF f444)) (nD f252 (nF f380) (nF f508))
theorem cxF208_ok:Tree.All (fun k=>FP (2*(2*(2*(2*(2*(2*k+2)+2)+2)+2)+1)+2)) cxF208:=⟨oY ⟨func124,call124⟩,⟨oY ⟨func188,call188⟩,⟨oY ⟨func316,call316⟩,lY ⟨func572,call572⟩,trivial⟩,lY ⟨func444,call444⟩⟩,⟨oY ⟨func252,call252⟩,lY ⟨func380,call380⟩,lY ⟨func508,call508⟩⟩⟩
noncomputable def cxF209:Tree Func:=nD f60 cxF207 cxF208
theorem cxF209_ok:Tree.All (fun k=>FP (2*(2*(2*(2*(2*k+2)+2)+2)+1)+2)) cxF209:=⟨oY ⟨func60,call60⟩,cxF207_ok,cxF208_ok⟩
noncomputable def cxF210:Tree Func:=nD f28 cxF206 cxF209
theorem cxF210_ok:Tree.All (fun k=>FP (2*(2*(2*(2*k+2)+2)+1)+2)) cxF210:=⟨oY ⟨func28,call28⟩,cxF206_ok,cxF209_ok⟩
noncomputable def cxF211:Tree Func:=nD f12 cxF203 cxF210
theorem cxF211_ok:Tree.All (fun k=>FP (2*(2*(2*k+2)+1)+2)) cxF211:=⟨oY ⟨func12,call12⟩,cxF203_ok,cxF210_ok⟩
noncomputable def cxF212:Tree Func:=nD f4 cxF198 cxF211
theorem cxF212_ok:Tree.All (fun k=>FP (2*(2*k+1)+2)) cxF212:=⟨oY ⟨func4,call4⟩,cxF198_ok,cxF211_ok⟩
noncomputable def cxF213:Tree Func:=nD f66 (nD f130 (nD f258 (nF f514) .lf) (nF f386)) (nD f194 (nF f322) (nF f450))
theorem cxF213_ok:Tree.All (fun k=>FP (2*(2*(2*(2*(2*(2*k+1)+1)+1)+1)+2)+2)) cxF213:=⟨oY ⟨func66,call66⟩,⟨oY ⟨func130,call130⟩,⟨oY ⟨func258,call258⟩,lY ⟨func514,call514⟩,trivial⟩,lY ⟨func386,call386⟩⟩,⟨oY ⟨func194,call194⟩,lY ⟨func322,call322⟩,lY ⟨func450,call450⟩⟩⟩
noncomputable def cxF214:Tree Func:=nD f98 (nD f162 (nD f290 (nF f546) .lf) (nF f418)) (nD f226 (nF f354) (nF f482))
theorem cxF214_ok:Tree.All (fun k=>FP (2*(2*(2*(2*(2*(2*k+2)+1)+1)+1)+2)+2)) cxF214:=⟨oY ⟨func98,call98⟩,⟨oY ⟨func162,call162⟩,⟨oY ⟨func290,call290⟩,lY ⟨func546,call546⟩,trivial⟩,lY ⟨func418,call418⟩⟩,⟨oY ⟨func226,call226⟩,lY ⟨func354,call354⟩,lY ⟨func482,call482⟩⟩⟩
noncomputable def cxF215:Tree Func:=nD f34 cxF213 cxF214
theorem cxF215_ok:Tree.All (fun k=>FP (2*(2*(2*(2*(2*k+1)+1)+1)+2)+2)) cxF215:=⟨oY ⟨func34,call34⟩,cxF213_ok,cxF214_ok⟩
noncomputable def cxF216:Tree Func:=nD f114 (nD f178 (nD f306 (nF f562) .lf) (nF f434)) (nD f242 (nF f370) (nF f498))
theorem cxF216_ok:Tree.All (fun k=>FP (2*(2*(2*(2*(2*(2*k+2)+2)+1)+1)+2)+2)) cxF216:=⟨oY ⟨func114,call114⟩,⟨oY ⟨func178,call178⟩,⟨oY ⟨func306,call306⟩,lY ⟨func562,call562⟩,trivial⟩,lY ⟨func434,call434⟩⟩,⟨oY ⟨func242,call242⟩,lY ⟨func370,call370⟩,lY ⟨func498,call498⟩⟩⟩
noncomputable def cxF217:Tree Func:=nD f50 (nD f82 (nD f146 (nD f274 (nF f530) .lf) (nF f402)) (nD f210 (nF f338) .lf)) cxF216
theorem cxF217_ok:Tree.All (fun k=>FP (2*(2*(2*(2*(2*k+2)+1)+1)+2)+2)) cxF217:=⟨oY ⟨func50,call50⟩,⟨oY ⟨func82,call82⟩,⟨oY ⟨func146,call146⟩,⟨oY ⟨func274,call274⟩,lY ⟨func530,call530⟩,trivial⟩,lY ⟨func402,call402⟩⟩,⟨oY ⟨func210,call210⟩,lY ⟨func338,call338⟩,trivial⟩⟩,cxF216_ok⟩
noncomputable def cxF218:Tree Func:=nD f18 cxF215 cxF217
theorem cxF218_ok:Tree.All (fun k=>FP (2*(2*(2*(2*k+1)+1)+2)+2)) cxF218:=⟨oY ⟨func18,call18⟩,cxF215_ok,cxF217_ok⟩
noncomputable def cxF219:Tree Func:=nD f74 (nD f138 (nD f266 (nF f522) .lf) (nF f394)) (nD f202 (nD f330 (nF f586) .lf) .lf)
theorem cxF219_ok:Tree.All (fun k=>FP (2*(2*(2*(2*(2*(2*k+1)+1)+2)+1)+2)+2)) cxF219:=⟨oY ⟨func74,call74⟩,⟨oY ⟨func138,call138⟩,⟨oY ⟨func266,call266⟩,lY ⟨func522,call522⟩,trivial⟩,lY ⟨func394,call394⟩⟩,⟨oY ⟨func202,call202⟩,⟨oY ⟨func330,call330⟩,lY ⟨func586,call586⟩,trivial⟩,trivial⟩⟩
noncomputable def cxF220:Tree Func:=nD f106 (nD f170 (nD f298 (nF f554) .lf) (nF f426)) (nD f234 (nD f362 (nF f618) .lf) (nF f490))
theorem cxF220_ok:Tree.All (fun k=>FP (2*(2*(2*(2*(2*(2*k+2)+1)+2)+1)+2)+2)) cxF220:=⟨oY ⟨func106,call106⟩,⟨oY ⟨func170,call170⟩,⟨oY ⟨func298,call298⟩,lY ⟨func554,call554⟩,trivial⟩,lY ⟨func426,call426⟩⟩,⟨oY ⟨func234,call234⟩,⟨oY ⟨func362,call362⟩,lY ⟨func618,call618⟩,trivial⟩,lY ⟨func490,call490⟩⟩⟩
noncomputable def cxF221:Tree Func:=nD f42 cxF219 cxF220
theorem cxF221_ok:Tree.All (fun k=>FP (2*(2*(2*(2*(2*k+1)+2)+1)+2)+2)) cxF221:=⟨oY ⟨func42,call42⟩,cxF219_ok,cxF220_ok⟩
noncomputable def cxF222:Tree Func:=nD f90 (nD f154 (nD f282 (nF f538) .lf) (nF f410)) (nD f218 (nD f346 (nF f602) .lf) .lf)
theorem cxF222_ok:Tree.All (fun k=>FP (2*(2*(2*(2*(2*(2*k+1)+2)+2)+1)+2)+2)) cxF222:=⟨oY ⟨func90,call90⟩,⟨oY ⟨func154,call154⟩,⟨oY ⟨func282,call282⟩,lY ⟨func538,call538⟩,trivial⟩,lY ⟨func410,call410⟩⟩,⟨oY ⟨func218,call218⟩,⟨oY ⟨func346,call346⟩,lY ⟨func602,call602⟩,trivial⟩,trivial⟩⟩
noncomputable def cxF223:Tree Func:=nD f122 (nD f186 (nD f314 (nF f570) .lf) (nF f442)) (nD f250 (nF f378) (nF f506))
theorem cxF223_ok:Tree.All (fun k=>FP (2*(2*(2*(2*(2*(2*k+2)+2)+2)+1)+2)+2)) cxF223:=⟨oY ⟨func122,call122⟩,⟨oY ⟨func186,call186⟩,⟨oY ⟨func314,call314⟩,lY ⟨func570,call570⟩,trivial⟩,lY ⟨func442,call442⟩⟩,⟨oY ⟨func250,call250⟩,lY ⟨func378,call378⟩,lY ⟨func506,call506⟩⟩⟩
noncomputable def cxF224:Tree Func:=nD f58 cxF222 cxF223
theorem cxF224_ok:Tree.All (fun k=>FP (2*(2*(2*(2*(2*k+2)+2)+1)+2)+2)) cxF224:=⟨oY ⟨func58,call58⟩,cxF222_ok,cxF223_ok⟩
noncomputable def cxF225:Tree Func:=nD f26 cxF221 cxF224
theorem cxF225_ok:Tree.All (fun k=>FP (2*(2*(2*(2*k+2)+1)+2)+2)) cxF225:=⟨oY ⟨func26,call26⟩,cxF221_ok,cxF224_ok⟩
noncomputable def cxF226:Tree Func:=nD f10 cxF218 cxF225
theorem cxF226_ok:Tree.All (fun k=>FP (2*(2*(2*k+1)+2)+2)) cxF226:=⟨oY ⟨func10,call10⟩,cxF218_ok,cxF225_ok⟩
noncomputable def cxF227:Tree Func:=nD f70 (nD f134 (nD f262 (nF f518) .lf) (nF f390)) (nD f198 (nF f326) (nF f454))
theorem cxF227_ok:Tree.All (fun k=>FP (2*(2*(2*(2*(2*(2*k+1)+1)+1)+2)+2)+2)) cxF227:=⟨oY ⟨func70,call70⟩,⟨oY ⟨func134,call134⟩,⟨oY ⟨func262,call262⟩,lY ⟨func518,call518⟩,trivial⟩,lY ⟨func390,call390⟩⟩,⟨oY ⟨func198,call198⟩,lY ⟨func326,call326⟩,lY ⟨func454,call454⟩⟩⟩
noncomputable def cxF228:Tree Func:=nD f102 (nD f166 (nD f294 (nF f550) .lf) (nF f422)) (nD f230 (nD f358 (nF f614) .lf) (nF f486))
theorem cxF228_ok:Tree.All (fun k=>FP (2*(2*(2*(2*(2*(2*k+2)+1)+1)+2)+2)+2)) cxF228:=⟨oY ⟨func102,call102⟩,⟨oY ⟨func166,call166⟩,⟨oY ⟨func294,call294⟩,lY ⟨func550,call550⟩,trivial⟩,lY ⟨func422,call422⟩⟩,⟨oY ⟨func230,call230⟩,⟨oY ⟨func358,call358⟩,lY ⟨func614,call614⟩,trivial⟩,lY ⟨func486,call486⟩⟩⟩
noncomputable def cxF229:Tree Func:=nD f38 cxF227 cxF228
theorem cxF229_ok:Tree.All (fun k=>FP (2*(2*(2*(2*(2*k+1)+1)+2)+2)+2)) cxF229:=⟨oY ⟨func38,call38⟩,cxF227_ok,cxF228_ok⟩
noncomputable def cxF230:Tree Func:=nD f86 (nD f150 (nD f278 (nF f534) .lf) (nF f406)) (nD f214 (nD f342 (nF f598) .lf) .lf)
theorem cxF230_ok:Tree.All (fun k=>FP (2*(2*(2*(2*(2*(2*k+1)+2)+1)+2)+2)+2)) cxF230:=⟨oY ⟨func86,call86⟩,⟨oY ⟨func150,call150⟩,⟨oY ⟨func278,call278⟩,lY ⟨func534,call534⟩,trivial⟩,lY ⟨func406,call406⟩⟩,⟨oY ⟨func214,call214⟩,⟨oY ⟨func342,call342⟩,lY ⟨func598,call598⟩,trivial⟩,trivial⟩⟩
noncomputable def cxF231:Tree Func:=nD f54 cxF230 (.nd none (nD f182 (nD f310 (nF f566) .lf) (nF f438)) (nD f246 (nF f374) (nF f502)))
theorem cxF231_ok:Tree.All (fun k=>FP (2*(2*(2*(2*(2*k+2)+1)+2)+2)+2)) cxF231:=⟨oY ⟨func54,call54⟩,cxF230_ok,⟨oN,⟨oY ⟨func182,call182⟩,⟨oY ⟨func310,call310⟩,lY ⟨func566,call566⟩,trivial⟩,lY ⟨func438,call438⟩⟩,⟨oY ⟨func246,call246⟩,lY ⟨func374,call374⟩,lY ⟨func502,call502⟩⟩⟩⟩
noncomputable def cxF232:Tree Func:=nD f22 cxF229 cxF231
theorem cxF232_ok:Tree.All (fun k=>FP (2*(2*(2*(2*k+1)+2)+2)+2)) cxF232:=⟨oY ⟨func22,call22⟩,cxF229_ok,cxF231_ok⟩
noncomputable def cxF233:Tree Func:=nD f78 (nD f142 (nD f270 (nF f526) .lf) (nF f398)) (nD f206 (nD f334 (nF f590) .lf) .lf)
theorem cxF233_ok:Tree.All (fun k=>FP (2*(2*(2*(2*(2*(2*k+1)+1)+2)+2)+2)+2)) cxF233:=⟨oY ⟨func78,call78⟩,⟨oY ⟨func142,call142⟩,⟨oY ⟨func270,call270⟩,lY ⟨func526,call526⟩,trivial⟩,lY ⟨func398,call398⟩⟩,⟨oY ⟨func206,call206⟩,⟨oY ⟨func334,call334⟩,lY ⟨func590,call590⟩,trivial⟩,trivial⟩⟩
noncomputable def cxF234:Tree Func:=nD f46 cxF233 (nD f110 (nD f174 (nF f302) (nF f430)) (nD f238 (nF f366) (nF f494)))
theorem cxF234_ok:Tree.All (fun k=>FP (2*(2*(2*(2*(2*k+1)+2)+2)+2)+2)) cxF234:=⟨oY ⟨func46,call46⟩,cxF233_ok,⟨oY ⟨func110,call110⟩,⟨oY ⟨func174,call174⟩,lY ⟨func302,call302⟩,lY ⟨func430,call430⟩⟩,⟨oY ⟨func238,call238⟩,lY ⟨func366,call366⟩,lY ⟨func494,call494⟩⟩⟩⟩
noncomputable def cxF235:Tree Func:=nD f94 (nD f158 (nD f286 (nF f542) .lf) (nF f414)) (nD f222 (nD f350 (nF f606) .lf) (nF f478))
theorem cxF235_ok:Tree.All (fun k=>FP (2*(2*(2*(2*(2*(2*k+1)+2)+2)+2)+2)+2)) cxF235:=⟨oY ⟨func94,call94⟩,⟨oY ⟨func158,call158⟩,⟨oY ⟨func286,call286⟩,lY ⟨func542,call542⟩,trivial⟩,lY ⟨func414,call414⟩⟩,⟨oY ⟨func222,call222⟩,⟨oY ⟨func350,call350⟩,lY ⟨func606,call606⟩,trivial⟩,lY ⟨func478,call478⟩⟩⟩
noncomputable def cxF236:Tree Func:=nD f126 (nD f190 (nD f318 (nF f574) .lf) (nF f446)) (nD f254 (nF f382) (nF f510))
theorem cxF236_ok:Tree.All (fun k=>FP (2*(2*(2*(2*(2*(2*k+2)+2)+2)+2)+2)+2)) cxF236:=⟨oY ⟨func126,call126⟩,⟨oY ⟨func190,call190⟩,⟨oY ⟨func318,call318⟩,lY ⟨func574,call574⟩,trivial⟩,lY ⟨func446,call446⟩⟩,⟨oY ⟨func254,call254⟩,lY ⟨func382,call382⟩,lY ⟨func510,call510⟩⟩⟩
noncomputable def cxF237:Tree Func:=nD f62 cxF235 cxF236
theorem cxF237_ok:Tree.All (fun k=>FP (2*(2*(2*(2*(2*k+2)+2)+2)+2)+2)) cxF237:=⟨oY ⟨func62,call62⟩,cxF235_ok,cxF236_ok⟩
noncomputable def cxF238:Tree Func:=nD f30 cxF234 cxF237
theorem cxF238_ok:Tree.All (fun k=>FP (2*(2*(2*(2*k+2)+2)+2)+2)) cxF238:=⟨oY ⟨func30,call30⟩,cxF234_ok,cxF237_ok⟩
noncomputable def cxF239:Tree Func:=nD f14 cxF232 cxF238
theorem cxF239_ok:Tree.All (fun k=>FP (2*(2*(2*k+2)+2)+2)) cxF239:=⟨oY ⟨func14,call14⟩,cxF232_ok,cxF238_ok⟩
noncomputable def cxF240:Tree Func:=nD f6 cxF226 cxF239
theorem cxF240_ok:Tree.All (fun k=>FP (2*(2*k+2)+2)) cxF240:=⟨oY ⟨func6,call6⟩,cxF226_ok,cxF239_ok⟩
noncomputable def cxF241:Tree Func:=nD f2 cxF212 cxF240
theorem cxF241_ok:Tree.All (fun k=>FP (2*k+2)) cxF241:=⟨oY ⟨func2,call2⟩,cxF212_ok,cxF240_ok⟩
noncomputable def cxF242:Tree Func:=.nd none cxF185 cxF241
theorem cxF242_ok:Tree.All (fun k=>FP k) cxF242:=⟨oN,cxF185_ok,cxF241_ok⟩
noncomputable def cxX243:Tree ExtK:=.nd none (.nd none (.nd none .lf (.nd none .lf (.nd none (.nd none .lf (.nd none (nF (.noZero 87)) .lf)) .lf))) (.nd none (.nd none .lf (.nd none .lf (.nd none .lf (nF ExtK.count)))) .lf)) (.nd none (.nd none .lf (.nd none (.nd none .lf (.nd none (.nd none .lf (nF ExtK.index)) .lf)) .lf)) (.nd none .lf (.nd none (.nd none .lf (.nd none .lf (nF ExtK.same))) .lf)))
theorem cxX243_ok:Tree.All (fun k=>XP k) cxX243:=⟨oN,⟨oN,⟨oN,trivial,⟨oN,trivial,⟨oN,⟨oN,trivial,⟨oN,lY (qE7 (by kernel_rfl) (by kernel_rfl)),trivial⟩⟩,trivial⟩⟩⟩,⟨oN,⟨oN,trivial,⟨oN,trivial,⟨oN,trivial,lY (qE7 (by kernel_rfl) (by kernel_rfl))⟩⟩⟩,trivial⟩⟩,⟨oN,⟨oN,trivial,⟨oN,⟨oN,trivial,⟨oN,⟨oN,trivial,lY (qE7 (by kernel_rfl) (by kernel_rfl))⟩,trivial⟩⟩,trivial⟩⟩,⟨oN,trivial,⟨oN,⟨oN,trivial,⟨oN,trivial,lY (qE7 (by kernel_rfl) (by kernel_rfl))⟩⟩,trivial⟩⟩⟩⟩
noncomputable def qB:Cx:=⟨cxT126,cxF242,cxX243⟩
theorem cxCx_ok(hm:Tryz.prog.follows .mixedOrders=true):CxOk Tryz.prog qB:=cxOk_of cxT126_ok cxF242_ok hm cxX243_ok
end Go.Ev
/- This program's types and functions, and the order of its operations. -/
set_option linter.all false
namespace Go.Proofs.YtmkgenngokjbiaaGreatDoor
open Go.RowKit Go.Ev Go.Vl
theorem mixedZ:Tryz.prog.follows .mixedOrders=true:=by rfl
theorem wL:CxOk Tryz.prog qB:=cxCx_ok mixedZ
section
variable{w0:Base}{n:Nat}{st:St}{Q:vH}{ops:Array Oper}{id k:Nat}{dr:Bool}{st0:St}{acc:List Stp}{o:Oper}{rd:List Nat}{nw:List (Nat×Nat)}{u:St}{gr:List Nat}
theorem wg(ho:ops.toList[k]? = some o)(h:wQ Tryz.prog w0 n o rd u nw (lk st))(hk:RR Tryz.prog w0 n id ops dr Q st0 (k+1) (⟨gr++rd,u,nw⟩::acc) (u++st))(hg:gRd n ops (lk st) o=some gr:=by exact rfl)(hn:nw.all (y4 st)=true:=by exact rfl):RR Tryz.prog w0 n id ops dr Q st0 k acc st:=rr_g ho hg h hn hk
theorem wf{g:List Nat×St}(ho:ops.toList[k]? = some o)(hf:wLB (lk st) (frzO o)=g)(h:wQ Tryz.prog w0 n o rd u nw (lk (g.2++st)))(hk:RR Tryz.prog w0 n id ops dr Q st0 (k+1) (⟨gr++(rd++g.1),u++g.2,nw⟩::acc) ((u++g.2)++st))(hg:gRd n ops (lk st) o=some gr:=by exact rfl)(hn:nw.all (y4 st)=true:=by exact rfl):RR Tryz.prog w0 n id ops dr Q st0 k acc st:=rr_opf ho hg hf h hn hk
theorem wv(hk:RR Tryz.prog w0 n id ops dr Q st0 (k+1) (⟨gr++rd,u,nw⟩::acc) (u++st))(ho:ops.toList[k]? = some o:=by exact rfl)(hg:gRd n ops (lk st) o=some gr:=by exact rfl)(h:vop qB (id*1000+k+1) n (lk st) o=some (rd,u,nw):=by exact rfl)(hn:nw.all (y4 st)=true:=by exact rfl):RR Tryz.prog w0 n id ops dr Q st0 k acc st:=rr_v wL ho hg h hn hk
theorem wx{g:List Nat×St}(hk:RR Tryz.prog w0 n id ops dr Q st0 (k+1) (⟨gr++(rd++g.1),u++g.2,nw⟩::acc) ((u++g.2)++st))(ho:ops.toList[k]? = some o:=by exact rfl)(hg:gRd n ops (lk st) o=some gr:=by exact rfl)(hf:wLB (lk st) (frzO o)=g:=by exact rfl)(h:vop qB (id*1000+k+1) n (lk (g.2++st)) o=some (rd,u,nw):=by exact rfl)(hn:nw.all (y4 st)=true:=by exact rfl):RR Tryz.prog w0 n id ops dr Q st0 k acc st:=rr_vf wL ho hg hf h hn hk
theorem wd(hQ:Q .normal st)(hk:Nat.beq k ops.size=true:=by exact rfl)(hc:(wBC ops&&(!dr||wN3 ops acc.reverse))=true:=by exact rfl):RR Tryz.prog w0 n id ops dr Q st0 k acc st:=rr_done mixedZ hk hc hQ
theorem wc{c:Call}{x:Operand}{f:FuncId}{fn:Func}{fs cs args xs:List V}{y y':V}(hcall:wJ Tryz.prog f xs (fun z=>z=y))(h:RR Tryz.prog w0 n id ops dr Q st0 (k+1) (⟨gr++(rdO x++rdL c.args.toList),dput o.dst (some (.sv (.v y'))),[]⟩::acc) (dput o.dst (some (.sv (.v y')))++st))(ho:ops.toList[k]? = some o:=by exact rfl)(hg:gRd n ops (lk st) o=some gr:=by exact rfl)(hop:o.op=.call c:=by exact rfl)(hk:c.callee=.value x:=by exact rfl)(hx:opv (lk st) x=some (.v (.clo f fs cs)):=by exact rfl)(hargs:yF (lk st) c.args.toList=some args:=by exact rfl)(hfn:qB.fns.get f=some fn:=by exact rfl)
 (hl:fs++args++cs=xs:=by exact rfl) (hy:y=y':=by exact rfl) (hd:dLt n o.dst=true:=by exact rfl):RR Tryz.prog w0 n id ops dr Q st0 k acc st:=rr_call wL ho hg hop hk hx hargs hfn hl hcall hy hd h
theorem wh{c:Call}{x:Operand}{f:FuncId}{fn:Func}{fs cs args xs:List V}{y y':V}{g:List Nat×St}(hcall:wJ Tryz.prog f xs (fun z=>z=y))(h:RR Tryz.prog w0 n id ops dr Q st0 (k+1) (⟨gr++((rdO x++rdL c.args.toList)++g.1),dput o.dst (some (.sv (.v y')))++g.2,[]⟩::acc) ((dput o.dst (some (.sv (.v y')))++g.2)++st))(ho:ops.toList[k]? = some o:=by exact rfl)(hg:gRd n ops (lk st) o=some gr:=by exact rfl)(hf:wLB (lk st) (frzO o)=g:=by exact rfl)(hop:o.op=.call c:=by exact rfl)(hk:c.callee=.value x:=by exact rfl)(hx:opv (lk (g.2++st)) x=some (.v (.clo f fs cs)):=by exact rfl)(hargs:yF (lk (g.2++st)) c.args.toList=some args:=by exact rfl)(hfn:qB.fns.get f=some fn:=by exact rfl)
 (hl:fs++args++cs=xs:=by exact rfl) (hy:y=y':=by exact rfl) (hd:dLt n o.dst=true:=by exact rfl):RR Tryz.prog w0 n id ops dr Q st0 k acc st:=qGG wL ho hg hf hop hk hx hargs hfn hl hcall hy hd h
theorem sL{x:Operand}{c:Call}{t elem:TypeId}{m m':Nat}(hm:m=m')(hop:o.op=.call c:=by exact rfl)(hk:c.callee=.builtin .len:=by exact rfl)(ha:c.args=#[x]:=by exact rfl)(ht:c.argTypes=#[t]:=by exact rfl)(hu:qB.und t=some (.slice elem):=by exact rfl)(hl:lenV (lk st) x=some m:=by exact rfl)(hd:dLt n o.dst=true:=by exact rfl):wQ Tryz.prog w0 n o (rdR (lk st) x) (dput o.dst (some (.sv (.v (.int .i64 (m':Nat)))))) [] (lk st):=qG9 wL hop hk ha ht hu hl hm hd
end
section
variable{w0:Base}{n:Nat}{st:St}{o:Oper}{op:BinOp}{t yt:TypeId}{x y:Operand}{kk:IntKind}{m m':Int}{p:Prop}{ip:Decidable p}
theorem cT(hop:o.op=.binOp op t x y yt:=by exact rfl)(hx:opv (lk st) x=some (.v (.int kk m)):=by exact rfl)(hy:opv (lk st) y=some (.v (.int kk m')):=by exact rfl)(he:wH6 op kk m m'=some (.bool (decide p)):=by exact rfl)(hp:p:=by omega)(hd:dLt n o.dst=true:=by exact rfl):wQ Tryz.prog w0 n o (rdO x++rdO y) (dput o.dst (some (.sv (.v (.bool true))))) [] (lk st):=vP hop hx hy he (decide_eq_true hp) hd
theorem cF(hop:o.op=.binOp op t x y yt:=by exact rfl)(hx:opv (lk st) x=some (.v (.int kk m)):=by exact rfl)(hy:opv (lk st) y=some (.v (.int kk m')):=by exact rfl)(he:wH6 op kk m m'=some (.bool (decide p)):=by exact rfl)(hp:¬p:=by omega)(hd:dLt n o.dst=true:=by exact rfl):wQ Tryz.prog w0 n o (rdO x++rdO y) (dput o.dst (some (.sv (.v (.bool false))))) [] (lk st):=vP hop hx hy he (decide_eq_false hp) hd
theorem nT(hop:o.op=.binOp op t x y yt:=by exact rfl)(hx:opv (lk st) x=some (.v (.int kk m)):=by exact rfl)(hy:opv (lk st) y=some (.v (.int kk m')):=by exact rfl)(he:wH6 op kk m m'=some (.bool (!decide p)):=by exact rfl)(hp:¬p:=by omega)(hd:dLt n o.dst=true:=by exact rfl):wQ Tryz.prog w0 n o (rdO x++rdO y) (dput o.dst (some (.sv (.v (.bool true))))) [] (lk st):=vP hop hx hy he (ndT hp) hd
theorem nF(hop:o.op=.binOp op t x y yt:=by exact rfl)(hx:opv (lk st) x=some (.v (.int kk m)):=by exact rfl)(hy:opv (lk st) y=some (.v (.int kk m')):=by exact rfl)(he:wH6 op kk m m'=some (.bool (!decide p)):=by exact rfl)(hp:p:=by omega)(hd:dLt n o.dst=true:=by exact rfl):wQ Tryz.prog w0 n o (rdO x++rdO y) (dput o.dst (some (.sv (.v (.bool false))))) [] (lk st):=vP hop hx hy he (ndF hp) hd
theorem sB{e:Int}(hop:o.op=.binOp op t x y yt:=by exact rfl)(hx:opv (lk st) x=some (.v (.int .i64 m)):=by exact rfl)(hy:opv (lk st) y=some (.v (.int .i64 m')):=by exact rfl)(he:wH6 op .i64 m m'=some (.int .i64 (ewrap .i64 e)):=by exact rfl)(h1:-9223372036854775808≤e:=by omega)(h2:e<9223372036854775808:=by omega)(hd:dLt n o.dst=true:=by exact rfl):wQ Tryz.prog w0 n o (rdO x++rdO y) (dput o.dst (some (.sv (.v (.int .i64 e))))) [] (lk st):=jF hop hx hy he (wTC h1 h2) hd
theorem sX(i:Nat){tt elem:TypeId}{sz:Nat}{q:Int}{es:List (List V)}{e:List V}(hi:es[i]? = some e)(hop:o.op=.indexAddr tt x y:=by exact rfl)(hx:opv (lk st) x=some (.v (.list es)):=by exact rfl)(hy:opv (lk st) y=some (.v (.int kk q)):=by exact rfl)(hq:q=(i:Nat):=by exact rfl)(ht:qB.und tt=some (.slice elem):=by exact rfl)(hs:qB.size elem=some sz:=by exact rfl)(hl:e.length=sz:=by exact rfl)(hd:dLt n o.dst=true:=by exact rfl):wQ Tryz.prog w0 n o (rdO x++rdO y) (dput o.dst (some (.sv (.v (.ref e))))) [] (lk st):=wA9 wL hop hx hy hq ht hs hi hl hd
end
section
variable{w0:Base}{n:Nat}{st:St}{o:Oper}
theorem sA{k:Call}{t elem:TypeId}{x y:Operand}{i:TypeInfo}{z:Value}{q:Nat}{so:Option Nat}{es es':List (List V)}(id:Nat)(es2:List (List V))(m bb:Nat)(hek:∀e∈es2,e.length=m)(he:es++es2=es')(hop:o.op=.call k:=by exact rfl)(hk:k.callee=.builtin .append:=by exact rfl)(hargs:k.args=#[x,y]:=by exact rfl)(hts:k.argTypes=#[t,t]:=by exact rfl)
 (ht:qB.und t=some (.slice elem):=by exact rfl) (hi:qB.tys.get elem=some i:=by exact rfl) (hz:i.zero=some z:=by exact rfl) (hsz:(Nat.beq z.cells.size i.size&&Nat.blt 0 i.size)=true:=by exact rfl) (hm:i.size=m:=by exact rfl) (hes:ownOf elem m (lk st) x=some (so,es):=by exact rfl) (hy:opV (lk st) y=some (.list es2):=by exact rfl)
 (hbb:i.bytes=bb:=by exact rfl) (h63:es.length+es2.length≤maxLen:=by simp only[maxLen,List.length_singleton];omega) (hb:(es.length+es2.length)*bb≤140737488355328:=by simp only[List.length_singleton];omega) (hdst:o.dst=some q:=by exact rfl) (hd:Nat.blt q n=true:=by exact rfl) :
  wQ Tryz.prog w0 n o (rdR (lk st) x++rdO y) ((2*q,some (.sv (.own id elem m es')))::clr so) [(2*q,id),(2*q,0)] (lk st):=xQ wL hop hk hargs hts ht hi hz hsz hm hes hy hek hbb h63 hb hdst hd he
theorem sM{t elem:TypeId}{x y:Operand}{kl kc:IntKind}{r:Nat}{ql qc:Int}{i:TypeInfo}{z:Value}{zc:List V}{es':List (List V)}(id l c m bb:Nat)(he:List.replicate l zc=es')(hop:o.op=.makeSlice t x y:=by exact rfl)(hx:opv (lk st) x=some (.v (.int kl ql)):=by exact rfl)(hy:opv (lk st) y=some (.v (.int kc qc)):=by exact rfl)(hql:ql=(l:Nat):=by exact rfl)(hqc:qc=(c:Nat):=by exact rfl)(ht:qB.und t=some (.slice elem):=by exact rfl)
 (hi:qB.tys.get elem=some i:=by exact rfl) (hz:i.zero=some z:=by exact rfl) (hsz:Nat.beq z.cells.size i.size=true:=by exact rfl) (hzc:toVs z.cells.toList=some zc:=by exact rfl) (hlc:l≤c:=by omega) (hbb:i.bytes=bb:=by exact rfl) (hb:bb*c≤281474976710656:=by omega) (h63:c≤maxLen:=by simp only[maxLen];omega) (hdst:o.dst=some r:=by exact rfl) (hd:Nat.blt r n=true:=by exact rfl) (hm:i.size=m:=by exact rfl) :
  wQ Tryz.prog w0 n o (rdO x++rdO y) [(2*r,some (.sv (.own id elem m es')))] [(2*r,id),(2*r,0)] (lk st):=wAG wL hop hx hy hql hqc ht hi hz hsz hzc hlc hbb hb h63 hdst hd hm he
end
structure Kp(q:Prop):Prop where
 k:q
theorem wz{p q:Prop}(hq:q)(h:Kp q→p:=by intro k;first|exact rr_done mixedZ rfl rfl k.1|exact vw_seq k.1|exact vw_block k.1|exact vw_region k.1|exact vw_ret k.1|exact vw_exit k.1|exact vw_skip k.1|exact vw_label k.1|exact vw_scopeN k.1|exact vw_condT rfl k.1|exact vw_condF rfl k.1):p:=h ⟨hq⟩
abbrev jI(k n:Nat):Nat×Option Cell:=(k,some (.sv (.v (.int .i64 (n:Nat)))))
abbrev jV(k:Nat)(x:V):Nat×Option Cell:=(k,some (.sv (.v x)))
abbrev jB(k d:Nat):Nat×Option Cell:=(k,some (.sv (.bx d 0)))
abbrev jC(k:Nat)(cs:List SV):Nat×Option Cell:=(k,some (.bx cs))
abbrev jO(k id:Nat)(T:TypeId)(q:Nat)(es:List (List V)):Nat×Option Cell:=(k,some (.sv (.own id T q es)))
theorem gE{α:Type}{l:List α}{i:Nat}(h:i<l.length):∃x,l[i]? = some x:=⟨_,pK h⟩
end Go.Proofs.YtmkgenngokjbiaaGreatDoor
