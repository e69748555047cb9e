/- simileref02.frac, Frac: what a fraction's text says. -/
import Derived.Test.YtmkgenngokjbiaaGreatDoorCd11
import Derived.Lib.TrimUEq
import Derived.Lib.MapLaws
import Derived.Laws.Cover4
import Derived.Outline
import Derived.Lib.FieldsP
import Derived.Lib.ReplaceLaws
import Derived.Lib.SplitLaws
import Derived.Lib.Replace
import Derived.Lib.RuneCountTail
import Derived.Shelf.Strings.MapAny
import Derived.RangeFuncNested
import Derived.RangeFuncBound
import Derived.RangeFuncCalls
import Derived.RangeFuncLeaves
import Derived.RangeFuncKeeps
import Derived.RangeFuncFrom
import Derived.Shelf.Abstract
import Derived.Shelf.RegionOpen
import Derived.OwnWalkIn
import Derived.TacticsInMore
import Derived.LoopNIn
import Derived.LoopIn
set_option linter.all false
set_option maxRecDepth 20000
set_option maxHeartbeats 6400000
namespace Go.Proofs.YtmkgenngokjbiaaGreatDoor
open Go.RowKit
def z8(r:Nat):Bool:=!jW r
def upper(L:List Nat):List Nat:=L.takeWhile z8
def lower(L:List Nat):List Nat:=if(upper L).length<L.length then L.drop ((upper L).length+1)else[49]
def upS(L:List Nat):List Nat:=if kR (upper L)then(upper L).tail else upper L
def digN(L:List Nat):Nat:=(upS L).length+(if(upper L).length<L.length then(lower L).length else 0)
def wK0(L:List Nat):Bool:=L.isEmpty||!(L.all fun r=>decide (wU r<10))
theorem jX(L:List Nat):wK0 L=true↔L=[]∨¬wH3 10 L:=by unfold wK0;rw[allOk_iff,dB,List.isEmpty_iff];simp
def qK(L:List Nat):Bool×Nat×Nat×Nat:=
 if wK0 (upS L)=true then(false,0,0,20)
 else if wK0 (lower L)=true then(false,0,0,20)
 else if qV (lower L)=true then(false,0,0,20)
 else if 10000<digN L then(false,0,0,4)
 else(kR (upper L)&&decide (wS 10 ((upS L).map wU)≠0),wS 10 ((upS L).map wU),wS 10 ((lower L).map wU),0)
theorem upper_at(L:List Nat)(k:Nat)(hk:k<L.length)(h:∀r,r∈L.take k→jW r=false)(hb:jW (L.getD k 0)=true):upper L=L.take k:=by
 have e:L=L.take k++L.drop k:=(bJ k L).symm;have e2:L.drop k=L.getD k 0::L.drop (k+1):=by rw[cE hk];simp[List.getD,hk]
 unfold upper
 conv=>lhs;rw[e,e2]
 rw[bL (fun r hr=>by unfold z8;rw[h r hr];rfl),bW (by unfold z8;rw[hb];simp),cG]
theorem upper_all(L:List Nat)(h:∀r,r∈L→jW r=false):upper L=L:=by
 unfold upper;have e:L=L++[]:=(cG L).symm
 conv=>lhs;rw[e]
 rw[bL (fun r hr=>by unfold z8;rw[h r hr];rfl)];simp
theorem qHD(D:List Nat)(k:Nat)(hk:k<D.length):qV (D.take (k+1))=(qV (D.take k)&&(D.getD k 0==48)):=by rw[qY D 0 k hk];simp[qV]
theorem upper_take(L:List Nat):upper L=L.take (upper L).length:=by have h:upper L <+: L:=List.takeWhile_prefix _;exact(List.prefix_iff_eq_take.1 h)
theorem qFF(L:List Nat):(upper L).length≤L.length:=(pA7 _).length_le
theorem nums_pre{k:IntKind}{lo hi:Nat}{w:World}{ad:Option Addr}{n cap:Nat}{xs:List Nat}(h:zA k lo hi w (.slice ad n cap) xs)(m:Nat)(hm:m≤xs.length):zA k lo hi w (.slice ad m cap) (xs.take m):=by
 obtain⟨ad',cap',hv,hc,hnn,hne⟩:=h;simp only[Value.slice.injEq]at hv;obtain⟨rfl,rfl,rfl⟩:=hv;refine⟨ad,cap,by simp[hm],by simp;omega,hnn,fun h=>?_⟩;have hp:xs≠[]:=fun e=>h (by rw[e];simp);obtain⟨b,off,ha,hl,hh,hcell⟩:=hne hp;refine⟨b,off,ha,hl,hh,fun i hi=>?_⟩;simp only[List.length_take]at hi;rw[hcell i (by omega)]
 have:(xs.take m).getD i 0=xs.getD i 0:=by simp[List.getD,show i<m by omega]
 rw[this]
theorem nums_drop{k:IntKind}{lo hi:Nat}{w:World}{b off n cap:Nat}{xs:List Nat}(h:zA k lo hi w (.slice (some ⟨b,off,none⟩) n cap) xs)(m:Nat)(_hm:m≤xs.length) :
  zA k lo hi w (.slice (some (if cap=m then⟨b,off,none⟩else⟨b,off+m,none⟩)) (xs.length-m) (cap-m)) (xs.drop m):=by
 obtain⟨ad',cap',hv,hc,hnn,hne⟩:=h;simp only[Value.slice.injEq]at hv;obtain⟨rfl,rfl,rfl⟩:=hv;refine⟨_,_,by rw[dC],by simp;omega,by simp,fun h=>?_⟩;have hp:xs≠[]:=fun e=>h (by rw[e];simp);have hml:m<xs.length:=by
  rcases pL m xs.length with h9|h9
  ·exact h9
  ·exact absurd (List.drop_eq_nil_of_le h9) h
 obtain⟨b',off',ha,hl,hh,hcell⟩:=hne hp;simp only[Option.some.injEq,Addr.mk.injEq,and_true]at ha;obtain⟨rfl,rfl⟩:=ha;refine⟨b,off+m,by rw[if_neg (by omega)],hl,hh,fun i hi=>?_⟩;simp only[List.length_drop]at hi;have h9:=hcell (m+i) (by omega);rw[cA,h9]
 have:(xs.drop m).getD i 0=xs.getD (m+i) 0:=by simp[List.getD,List.getElem?_drop]
 rw[this]
set_option maxRecDepth 100000 in
theorem frac02_any(lo h1:Nat)(v:Value)(L:List Nat)(w:World)(h:zA .i32 lo h1 w v L)(hh1:h1≤w.heap.size)(hl:L.length≤1000000000)(hrl:∀r,r∈L→r<2097152) :
  Calls Tryz.prog 32 #[v] w fun e w'=>Below w.heap.size w w'∧wC3 w w' e (qK L):=by
 obtain⟨hb0,b0,hsz⟩:=boxA w #[.bool false,.slice none 0 0,.bool false,.slice none 0 0] 43;have h0:=h.below hb0 hh1;obtain⟨ad,cap,hsh,hc,hcell⟩:=h0.open;subst hsh;have HC:=hid hcell;have HRL:=hid hrl;have HH:=hid h0;obtain⟨X,hX⟩:∃X,qK L=X:=⟨_,rfl⟩
 rw[hX];have HX:=hid hX;clear hcell h hrl h0 hX
 go_enter Tryz.func32,Tryz.ntmps32
 go_upto_block 0 with fail
 revert hb0 b0 hsz HC HH;generalize w.alloc (.cells #[.bool false,.slice none 0 0,.bool false,.slice none 0 0] 43)=W0;intro hb0 b0 hsz HC HH
 go_cut [4] (fun av w'=>w'=W0∧av=.int .i64 ((upper L).length:Nat))
 case first=>
  go_wp2
  go_loopw [4,22] (fun u t wr=>∃k:Nat,u=.int .i64 (L.length:Nat)∧t=.int .i64 k∧k≤L.length∧wr=W0∧(∀r,r∈L.take k→jW r=false)) (fun _ t _=>L.length-(RowKit.intOf t).toNat)
  case atStart=>exact⟨0,rfl,rfl,pG _,by simp,by simp⟩
  case round=>
   obtain⟨k,rfl,rfl,hk,rfl,hok⟩:=hrel;have HOK:=hid hok;clear hok;by_cases hkl:k<L.length
   ·obtain⟨bb,off,rfl,_,_,hc1⟩:=HC.out k hkl;obtain⟨r,hr⟩:∃r,L.getD k 0=r:=⟨_,rfl⟩
    rw[hr]at hc1;have Q1:=hid (bar_any r wr);have HR:=hid hr;have f1:(k:Int)<(L.length:Int):=by omega
    obtain⟨z,hz⟩:∃z,jW r=z:=⟨_,rfl⟩
    rw[hz]at Q1;have HZ:=hid hz;clear hr hz
    go_wp2_with fail
    refine Q1.out.mono ?_;rintro e w' ⟨rfl,rfl⟩;cases z
    ·have hok2:∀r,r∈L.take (k+1)→jW r=false:=by
      intro r' hr';rw[qY L 0 k hkl,cB]at hr';rcases hr' with h|h
      ·exact HOK.out r' h
      ·simp only[List.mem_singleton]at h;rw[h,HR.out];exact HZ.out
     have HOK2:=hid hok2;clear hok2
     go_wp2
     exact⟨⟨k+1,rfl,by go_num,by omega,trivial,HOK2.out⟩,by simp[RowKit.intOf];omega⟩
    ·have HU:=hid (upper_at L k hkl HOK.out (by rw[HR.out];exact HZ.out))
     go_wp2
     go_meet
     case rel=>exact⟨rfl,by rw[HU.out];simp;omega⟩
   ·obtain rfl:k=L.length:=by omega
    rw[pZ]at HOK;have HU:=hid (upper_all L HOK.out)
    go_wp2
    go_meet
    case rel=>exact⟨rfl,by rw[HU.out]⟩
 case rest=>
  obtain⟨rfl,rfl⟩:=hcut;have hnl:=qFF L;have hut:=upper_take L;obtain⟨n,hn⟩:∃n,(upper L).length=n:=⟨_,rfl⟩
  rw[hn]at hnl hut ⊢;have HUT:=hid hut;have HN:=hid hn;have hU:zA .i32 lo h1 wc (.slice ad n cap) (upper L):=by rw[hut];exact nums_pre HH.out n hnl
  have Q1:=hid (qCA lo h1 _ (upper L) wc hU (by omega));clear hut hn hU
  go_wp2_with fail
  refine Q1.out.mono ?_;rintro e w' ⟨rfl,r7,rfl,hr7⟩;have hr7':zA .i32 lo h1 wc r7 (upS L):=hr7;obtain⟨ad7,cap7,hsh7,_,_⟩:=hr7'.open;have HR7:=hid hr7';subst hsh7;clear hr7 hr7' Q1;have hlit:(wc.alloc (.cells #[.int .i32 49] 21)).ownsRow wc.heap.size 21 1 (.slice (some ⟨wc.heap.size,0,none⟩) 1 1) 1 (zS .i32 [49]):=World.ownsRow_lit wc _ 1 (pC _) (by decide) rfl;have HLIT:=hid (zA.ofOwn hlit);have hbW:=(Below.refl wc.heap.size wc).alloc (pC _) (.cells #[.int .i32 49] 21);have hw0:h1≤wc.heap.size:=by omega
  have HHW:=hid (HH.out.below hbW hw0);have HR7W:=hid (HR7.out.below hbW hw0);have hbF:=b0.later hbW;have hbel:=hb0.trans (hbW.mono hb0.size);have hsW:(wc.alloc (.cells #[.int .i32 49] 21)).heap.size=wc.heap.size+1:=by simp
  have hul:(upS L).length≤n:=by
   have:(upS L).length≤(upper L).length:=by unfold upS;split<;>simp
   have h9:=HN.out;omega
  obtain⟨W1,hW1⟩:∃W1,wc.alloc (.cells #[.int .i32 49] 21)=W1:=⟨_,rfl⟩
  rw[hW1]at HLIT HHW HR7W hbF hbel hsW;have HSZ:=hid hsz;clear hlit hbW HC b0 hsz
  go_upto_if 44 with(fail)
  go_cut [9,10] (fun v9 v10 w'=>w'=W1∧v10=.int .i64 (digN L:Nat)∧∃lo2 hi2,hi2≤W1.heap.size∧zA .i32 lo2 hi2 W1 v9 (lower L))
  case first=>
   by_cases hlt:n<L.length
   ·have hlow:lower L=L.drop (n+1):=by unfold lower;rw[HN.out,if_pos hlt]
    have hdig:digN L=(upS L).length+(L.length-(n+1)):=by unfold digN;rw[HN.out,if_pos hlt,hlow,dC]
    obtain⟨ad',cap',hv,_,_,hne⟩:=HHW.out;simp only[Value.slice.injEq]at hv;obtain⟨h1',_,h2'⟩:=hv;subst h1';subst h2';obtain⟨b,off,rfl,_⟩:=hne (by intro e;rw[e]at hlt;simp at hlt);have hdr:=nums_drop HHW.out (n+1) (by omega);rw[←hlow]at hdr;have HDIG:=hid hdig;have hlt2:(n:Int)<(L.length:Int):=by omega
    have hh1s:h1≤W1.heap.size:=by omega
    clear hne hW1 hlow hdig;by_cases hcn:cap=n+1
    ·rw[if_pos hcn]at hdr;have hL1:L.length=n+1:=by omega
     have HDR:=hid hdr;clear hdr
     go_wp2
     all_goals
      go_meet
      case rel=>exact⟨rfl,by rw[HDIG.out];congr 1;try omega,_,_,hh1s,by simpa[hcn,hL1]using HDR.out⟩
    ·rw[if_neg hcn]at hdr;have HDR:=hid hdr;clear hdr
     go_wp2
     all_goals
      go_meet
      case rel=>exact⟨rfl,by rw[HDIG.out];congr 1;try omega,_,_,hh1s,HDR.out⟩
   ·have hlow:lower L=[49]:=by unfold lower;rw[HN.out,if_neg hlt]
    have hdig:digN L=(upS L).length:=by unfold digN;rw[HN.out,if_neg hlt];rfl
    obtain rfl:n=L.length:=by omega
    have HLOW:=hid hlow;have HDIG:=hid hdig;clear hlow hdig hW1
    go_wp2
    go_meet
    case rel=>exact⟨rfl,by rw[HDIG.out],_,_,pC _,by rw[HLOW.out];exact HLIT.out⟩
  case rest=>
   obtain⟨rfl,rfl,lo2,hi2,hhi2,hlow⟩:=hcut;have hus:∀r,r∈upS L→r<2097152:=by
    intro r hr;have h9:r∈upper L:=by
     unfold upS at hr;split at hr
     ·exact pC0 hr
     ·exact hr
    exact HRL.out r ((pA7 _).subset h9)
   have hls:∀r,r∈lower L→r<2097152:=by
    intro r hr;unfold lower at hr;split at hr
    ·exact HRL.out r (dL hr)
    ·simp at hr;omega
   have hll:(lower L).length≤1000000000:=by
    unfold lower;split
    ·rw[dC];omega
    ·simp
   have HUS:=hid hus;have HLS:=hid hls;obtain⟨ad9,cap9,hsh9,hc9,hcell9⟩:=hlow.open;subst hsh9;have HLOW:=hid hlow;have q1:=hid (qBA _ _ _ (upS L) 10 wc HR7W.out (by omega) hus (by decide) (by decide));clear hus hls hlow hcell9 HH HHW HLIT HUT HR7
   go_wp2_with fail
   refine q1.out.mono ?_;rintro e w2 ⟨hb2,hq⟩;have hbF2:=hbF.later hb2;have hbel2:=hbel.trans (hb2.mono hbel.size);have HR72:=hid (HR7W.out.below hb2 (by omega));have HLOW2:=hid (HLOW.out.below hb2 hhi2);have hs2:=hb2.size;clear q1 hb2 hbF hbel HR7W HLOW;by_cases hbad1:wK0 (upS L)=true
   ·obtain rfl:e=.returned (.bool false):=by
     rcases hq with⟨h8,h9⟩|⟨_,h9⟩
     ·rcases(jX _).1 hbad1 with h|h
      ·rw[h9,h];rfl
      ·exact absurd h8 h
     ·exact h9
    have hP:(false,0,0,20)=X:=by rw[←HX.out];unfold qK;rw[if_pos hbad1]
    obtain⟨⟨d0,d1,d2,d3⟩,g0,g1,g2,g3⟩:=hbF2.four;have HP:=hid hP;clear hP hq hbad1
    go_wp2
    refine bodyPost_ret (v:=.tuple #[.agg #[.bool false,.slice none 0 0,.bool false,.slice none 0 0],.int .i64 20]) (by simp[results,Tryz.results32,go_sem,d0,d1,d2,d3]) rfl ?_;rw[←HP.out];exact⟨(((hbel2.setCell (by simp) _).setCell (by simp) _).setCell (by simp) _).setCell (by simp) _,_,_,rfl,by rw[wT];exact wG.nil,by rw[wT];exact wG.nil⟩
   ·obtain rfl:e=.returned (.bool true):=by
     rcases hq with⟨_,h9⟩|⟨h8,_⟩
     ·rw[h9]
      have:0<(upS L).length:=cK.2 fun h=>hbad1 ((jX _).2 (.inl h))
      simp[this]
     ·exact absurd ((jX _).2 (.inr h8)) hbad1
    have q2:=hid (qBA _ _ _ (lower L) 10 w2 HLOW2.out hll HLS.out (by decide) (by decide));have HBAD1:=hid hbad1;clear hq hbad1
    go_wp2_with fail
    refine q2.out.mono ?_;rintro e w3 ⟨hb3,hq⟩;have hbF3:=hbF2.later hb3;have hbel3:=hbel2.trans (hb3.mono hbel2.size);have HR73:=hid (HR72.out.below hb3 (by omega));have HLOW3:=hid (HLOW2.out.below hb3 (by omega));have hs3:=hb3.size;clear q2 hb3 hbF2 hbel2 HR72 HLOW2;by_cases hbad2:wK0 (lower L)=true
    ·obtain rfl:e=.returned (.bool false):=by
      rcases hq with⟨h8,h9⟩|⟨_,h9⟩
      ·rcases(jX _).1 hbad2 with h|h
       ·rw[h9,h];rfl
       ·exact absurd h8 h
      ·exact h9
     have hP:(false,0,0,20)=X:=by rw[←HX.out];unfold qK;rw[if_neg HBAD1.out,if_pos hbad2]
     obtain⟨⟨d0,d1,d2,d3⟩,g0,g1,g2,g3⟩:=hbF3.four;have HP:=hid hP;clear hP hq hbad2
     go_wp2
     refine bodyPost_ret (v:=.tuple #[.agg #[.bool false,.slice none 0 0,.bool false,.slice none 0 0],.int .i64 20]) (by simp[results,Tryz.results32,go_sem,d0,d1,d2,d3]) rfl ?_;rw[←HP.out];exact⟨(((hbel3.setCell (by simp) _).setCell (by simp) _).setCell (by simp) _).setCell (by simp) _,_,_,rfl,by rw[wT];exact wG.nil,by rw[wT];exact wG.nil⟩
    ·obtain rfl:e=.returned (.bool true):=by
      rcases hq with⟨_,h9⟩|⟨h8,_⟩
      ·rw[h9]
       have:0<(lower L).length:=cK.2 fun h=>hbad2 ((jX _).2 (.inl h))
       simp[this]
      ·exact absurd ((jX _).2 (.inr h8)) hbad2
     have HBAD2:=hid hbad2;clear hq hbad2
     go_wp2
     obtain⟨D,hD⟩:∃D,lower L=D:=⟨_,rfl⟩
     rw[hD]at HLOW3 hll HLS HBAD2 hc9 ⊢;have HD:=hid hD;obtain⟨ad9',cap9',hv9,hcD,hcellD⟩:=HLOW3.out.open;simp only[Value.slice.injEq]at hv9;obtain⟨hv9a,hv9b,hv9c⟩:=hv9;subst hv9a;subst hv9c;have HCD:=hid hcellD;have HV9:=hid hv9b;clear hcellD hv9b hD
     go_loopw [11,64] (fun u t wr=>∃k:Nat,u=.bool (qV (D.take k))∧t=.int .i64 k∧k≤D.length∧wr=w3) (fun _ t _=>D.length-(RowKit.intOf t).toNat)
     case atStart=>exact⟨0,rfl,rfl,pG _,by simp⟩
     case round=>
      obtain⟨k,rfl,rfl,hk,rfl⟩:=hrel;by_cases hkl:k<D.length
      ·obtain⟨bb,off,rfl,_,_,hc1⟩:=HCD.out k hkl;obtain⟨r,hr⟩:∃r,D.getD k 0=r:=⟨_,rfl⟩
       have hsn:=qHD D k hkl;rw[hr]at hc1 hsn;have f1:(k:Int)<(D.length:Int):=by omega
       obtain⟨z,hz⟩:∃z,qV (D.take k)=z:=⟨_,rfl⟩
       rw[hz]at hsn;try rw[hz]
       have HSN:=hid hsn;have HZ:=hid hz;clear hr hsn;by_cases h48:r=48
       ·subst h48;cases z;all_goals
         go_wp2
         exact⟨⟨k+1,by rw[HSN.out];rfl,by go_num,by omega,trivial⟩,by simp[RowKit.intOf];omega⟩
       ·have h48b:(((r:Nat):Int)==48)=false:=by simp;omega
        have h48n:(r==48)=false:=by simpa using h48
        have HSN2:Hid (qV (D.take (k+1))=false):=by unfold Hid;rw[HSN.out,h48n,Bool.and_false]
        clear h48n;cases z;all_goals
         go_wp2
         exact⟨⟨k+1,by rw[HSN2.out],by go_num,by omega,trivial⟩,by simp[RowKit.intOf];omega⟩
      ·obtain rfl:k=D.length:=by omega
       rw[pZ];obtain⟨z,hz⟩:∃z,qV D=z:=⟨_,rfl⟩
       rw[hz];have HZ:=hid hz;clear hz;cases z
       ·have hnz:¬qV D=true:=by rw[HZ.out];simp
        have HNZ:=hid hnz;clear hnz;obtain⟨dn,hdn⟩:∃dn,digN L=dn:=⟨_,rfl⟩
        rw[hdn];have HDN:=hid hdn;clear hdn;by_cases hbig:10000<dn
        ·have hP:(false,0,0,4)=X:=by rw[←HX.out];unfold qK;rw[if_neg HBAD1.out,HD.out,if_neg HBAD2.out,if_neg HNZ.out,HDN.out,if_pos hbig]
         obtain⟨⟨d0,d1,d2,d3⟩,g0,g1,g2,g3⟩:=hbF3.four;have HP:=hid hP;clear hP hk
         go_wp2
         refine bodyPost_ret (v:=.tuple #[.agg #[.bool false,.slice none 0 0,.bool false,.slice none 0 0],.int .i64 4]) (by simp[results,Tryz.results32,go_sem,d0,d1,d2,d3]) rfl ?_;rw[←HP.out];exact⟨(((hbel3.setCell (by simp) _).setCell (by simp) _).setCell (by simp) _).setCell (by simp) _,_,_,rfl,by rw[wT];exact wG.nil,by rw[wT];exact wG.nil⟩
        ·have q3:=hid (wH9 _ _ _ (upS L) 10 wr HR73.out (by omega) HUS.out (by decide) (by decide));have hok1:wH3 10 (upS L):=dF fun h=>HBAD1.out ((jX _).2 (.inr h));have hok2:wH3 10 D:=dF fun h=>HBAD2.out ((jX _).2 (.inr h));have HOK1:=hid hok1;have HOK2:=hid hok2;clear hok1 hok2 hk
         go_wp2_with fail
         refine q3.out.mono ?_;rintro e w4 ⟨hb4,hq4⟩;rcases hq4 with⟨_,qn,rfl,hqn⟩|⟨h,_⟩
         case inr=>exact absurd HOK1.out h
         have hs4:=hb4.size;have hbel4:=hbel3.trans (hb4.mono hbel3.size);have hbF4:=hbF3.later hb4;have q4:=hid (wH9 _ _ _ D 10 w4 (HLOW3.out.below hb4 (by omega)) hll HLS.out (by decide) (by decide));clear q3 hbF3 hb4
         go_wp2_with fail
         refine q4.out.mono ?_;rintro e w5 ⟨hb5,hq5⟩;rcases hq5 with⟨_,qd,rfl,hqd⟩|⟨h,_⟩
         case inr=>exact absurd HOK2.out h
         have hs5:=hb5.size;have hbel5:=hbel4.trans (hb5.mono hbel4.size);have hbF5:=hbF4.later hb5;have hqn5:=hqn.below hb5 (pC _);have hdl:=wFB 10 ((upS L).map wU) (by decide) (by intro d hd;obtain⟨r',hr',rfl⟩:=pR.1 hd;exact HOK1.out r' hr')
         rw[pF]at hdl;obtain⟨N,hN⟩:∃N,wS 10 ((upS L).map wU)=N:=⟨_,rfl⟩
         obtain⟨M,hM⟩:∃M,wS 10 (D.map wU)=M:=⟨_,rfl⟩
         rw[hN]at hqn5 hdl;rw[hM]at hqd;obtain⟨adn,capn,rfl⟩:=hqn5.shape;obtain⟨add,capd,rfl⟩:=hqd.shape;have q6:=norm02_any _ _ (kR (upper L)) _ _ w5 hqn5 (by omega) (by omega);rw[wI]at q6;obtain⟨z,hz⟩:∃z,(kR (upper L)&&decide (N≠0))=z:=⟨_,rfl⟩
         rw[hz]at q6;have Q6:=hid q6;have hP:(kR (upper L)&&decide (N≠0),N,M,0)=X:=by rw[←HX.out];unfold qK;rw[if_neg HBAD1.out,HD.out,if_neg HBAD2.out,if_neg HNZ.out,HDN.out,if_neg hbig,hN,hM]
         rw[hz]at hP;have HP:=hid hP;have hF4:=hbF4.lt;have hFs:=hbF5.lt;clear q6 hN hM hdl q4 hbF4 hb5 hqn hqn5 hP hz
         go_wp2_with fail
         refine Q6.out.mono ?_;rintro e w6 ⟨q,rfl,hq6,hb6⟩;have hbF6:=hbF5.later hb6;have hbel6:=hbel5.trans (hb6.mono hbel5.size);have hs6:=hb6.size;have hqd6:=hqd.below hb6 (pC _);obtain⟨ad8,cap8,rfl⟩:=hq6.shape;obtain⟨⟨d0,d1,d2,d3⟩,g0,g1,g2,g3⟩:=hbF6.four;have hk:∀lo9 v xs,w.heap.size<lo9→wG lo9 w6.heap.size w6 v xs→∀(a b c d:Value),wG w.heap.size ((((w6.setCell ⟨w.heap.size,0,none⟩ a).setCell ⟨w.heap.size,1,none⟩ b).setCell ⟨w.heap.size,2,none⟩ c).setCell ⟨w.heap.size,3,none⟩ d).heap.size ((((w6.setCell ⟨w.heap.size,0,none⟩ a).setCell ⟨w.heap.size,1,none⟩ b).setCell ⟨w.heap.size,2,none⟩ c).setCell ⟨w.heap.size,3,none⟩ d) v xs:=fun lo9 v xs hlt h a b c d=>((((h.set _ _ (.inl hlt)).set _ _ (.inl hlt)).set _ _ (.inl hlt)).set _ _ (.inl hlt)).wide (by omega) (by simp[World.setCell])
         have HK:=hid hk;have HQ:=hid hq6;have HQD:=hid hqd6;clear hk Q6 hb6 hbF6 hbF5 hq6 hqd6 hqd
         go_wp2
         refine bodyPost_ret (v:=.tuple #[.agg #[.bool z,.slice ad8 (toL N).length cap8,.bool false,.slice add (toL M).length capd],.int .i64 0]) (by simp[results,Tryz.results32,go_sem,d0,d1,d2,d3]) rfl ?_;rw[←HP.out];exact⟨(((hbel6.setCell (by simp) _).setCell (by simp) _).setCell (by simp) _).setCell (by simp) _,_,_,rfl,HK.out _ _ _ (pT hF4 hs5) HQ.out _ _ _ _,HK.out _ _ _ hF4 (HQD.out.wide (pC _) hs6) _ _ _ _⟩
       ·have hP:(false,0,0,20)=X:=by rw[←HX.out];unfold qK;rw[if_neg HBAD1.out,HD.out,if_neg HBAD2.out,if_pos HZ.out]
        obtain⟨⟨d0,d1,d2,d3⟩,g0,g1,g2,g3⟩:=hbF3.four;have HP:=hid hP;clear hP hk
        go_wp2
        refine bodyPost_ret (v:=.tuple #[.agg #[.bool false,.slice none 0 0,.bool false,.slice none 0 0],.int .i64 20]) (by simp[results,Tryz.results32,go_sem,d0,d1,d2,d3]) rfl ?_;rw[←HP.out];exact⟨(((hbel3.setCell (by simp) _).setCell (by simp) _).setCell (by simp) _).setCell (by simp) _,_,_,rfl,by rw[wT];exact wG.nil,by rw[wT];exact wG.nil⟩
theorem wW8(s:ByteArray)(w:World)(hs:s.size≤1000000000) :
  Calls Tryz.prog 13 #[.string s] w fun e w'=>Below w.heap.size w w'∧wC3 w w' e (qK (wD s)):=by
 obtain⟨hb0,b0,hsz⟩:=boxA w #[.bool false,.slice none 0 0,.bool false,.slice none 0 0] 43;have q0:=hid (wR3 s (w.alloc (.cells #[.bool false,.slice none 0 0,.bool false,.slice none 0 0] 43)) (by omega));have hrl:=wUE s 0;have hlen:=y2 s 0;obtain⟨L,hL⟩:∃L,wD s=L:=⟨_,rfl⟩
 have hL':zR s 0=L:=hL;rw[hL']at hrl hlen;rw[hL]at q0 ⊢;have hll:L.length≤1000000000:=by omega
 have HRL:=hid hrl;obtain⟨⟨ng,N,M,cd⟩,hx⟩:∃x,qK L=x:=⟨_,rfl⟩
 have HX:=hid hx;clear hL hL' hrl hlen
 go_enter Tryz.func13,Tryz.ntmps13
 go_wp2_with fail
 refine q0.out.mono ?_;rintro e w0 ⟨r0,rfl,hr0,hbr⟩;have q1:=frac02_any _ _ r0 L w0 hr0 (pC _) hll HRL.out;rw[hx]at q1;have Q1:=hid q1;clear q1 q0 hx hr0;have b00:=b0.later hbr;have hbel0:=hb0.trans (hbr.mono hb0.size);have hs0:=hbr.size;clear b0 hbr hb0
 go_wp2_with fail
 refine Q1.out.mono ?_;rintro e w1 ⟨hb1,q,p,rfl,hq,hp⟩;obtain⟨⟨d0,d1,d2,d3⟩,g0,g1,g2,g3⟩:=(b00.later hb1).four;obtain⟨ad,cap,rfl⟩:=hq.shape;obtain⟨ad2,cap2,rfl⟩:=hp.shape;have hbel:=hbel0.trans (hb1.mono hbel0.size);have hlt:w.heap.size<w0.heap.size:=b00.lt;have hk:∀v xs,wG w0.heap.size w1.heap.size w1 v xs→∀(a b c d:Value),wG w.heap.size ((((w1.setCell ⟨w.heap.size,0,none⟩ a).setCell ⟨w.heap.size,1,none⟩ b).setCell ⟨w.heap.size,2,none⟩ c).setCell ⟨w.heap.size,3,none⟩ d).heap.size ((((w1.setCell ⟨w.heap.size,0,none⟩ a).setCell ⟨w.heap.size,1,none⟩ b).setCell ⟨w.heap.size,2,none⟩ c).setCell ⟨w.heap.size,3,none⟩ d) v xs:=fun v xs h a b c d=>((((h.set _ _ (.inl hlt)).set _ _ (.inl hlt)).set _ _ (.inl hlt)).set _ _ (.inl hlt)).wide (dK hlt) (by simp[World.setCell])
 have HK:=hid hk;clear Q1 hb1 b00 hsz hk
 go_wp2
 refine bodyPost_ret (v:=.tuple #[.agg #[.bool ng,.slice ad (toL N).length cap,.bool false,.slice ad2 (toL M).length cap2],.int .i64 (cd:Nat)]) (by simp[results,Tryz.results13,go_sem,d0,d1,d2,d3]) rfl ?_;rw[HX.out];exact⟨(((hbel.setCell (by simp) _).setCell (by simp) _).setCell (by simp) _).setCell (by simp) _,_,_,rfl,HK.out _ _ hq _ _ _ _,HK.out _ _ hp _ _ _ _⟩
theorem ahead2(L:List Nat):ahead 2 L=kR L:=by
 cases L with
 |nil=>rfl
 |cons r L=>show(kindOf r==2)=zI r;rw[bH,beq_iff_eq];exact qE1 r
theorem behind2(L:List Nat):behind 2 L=if kR L then L.tail else L:=by unfold behind;rw[ahead2]
theorem wZ7(r:Nat):wU r<10↔wAD r=true:=by
 constructor
 ·intro h;rw[wO2];rcases wQH r with⟨d,rfl,_,_,_⟩|⟨d,_,h1,_,h3⟩|⟨d,_,h1,_,h3⟩|⟨_,_,_,h3⟩<;>omega
 ·intro h;exact(wDA r h).2
theorem wQD(U:List Nat):wH3 10 U↔∀r,r∈U→wAD r=true:=
 ⟨fun h r hr=>(wZ7 r).1 (h r hr),fun h r hr=>(wZ7 r).2 (h r hr)⟩
theorem past_nil(U:List Nat):past U=[]↔∀r,r∈U→wAD r=true:=by
 unfold past
 induction U with
 |nil=>simp
 |cons x U ih=>
  by_cases h:wAD x=true
  ·rw[gR h,ih];simp[h]
  ·rw[fP h];simp[h]
theorem wP7(L:List Nat):L=upper L++L.dropWhile z8:=(pB4 ..).symm
theorem wFH(L:List Nat):(upper L).length<L.length↔L.dropWhile z8≠[]:=by have h:=congrArg List.length (wP7 L);rw[pX]at h;rw[←cK];omega
theorem lower_tail(L:List Nat)(h:L.dropWhile z8≠[]):lower L=(L.dropWhile z8).tail:=by
 unfold lower;rw[if_pos ((wFH L).2 h)]
 conv=>lhs;rw[wP7 L]
 have e:upper (upper L++L.dropWhile z8)=upper L:=by rw[←wP7 L]
 rw[e,List.drop_append,mP (by omega),mF,bM,List.drop_one]
theorem lower_one(L:List Nat)(h:L.dropWhile z8=[]):lower L=[49]:=by unfold lower;rw[if_neg fun h9=>(wFH L).1 h9 h]
theorem wFD(r:Nat)(h:zI r=true):jW r=false:=by unfold zI at h;unfold jW;simp only[Bool.or_eq_true,beq_iff_eq]at h;rcases h with rfl|rfl<;>decide
theorem qA4(L:List Nat):kR (upper L)=kR L:=by
 cases L with
 |nil=>rfl
 | cons r L=>
  by_cases h:jW r=true
  ·have:upper (r::L)=[]:=by unfold upper;rw[bW (by unfold z8;simp[h])]
   rw[this];show false=zI r;cases hm:zI r
   ·rfl
   ·rw[wFD r hm]at h;cases h
  ·have:upper (r::L)=r::upper L:=by unfold upper;rw[fQ (by unfold z8;simp[h])]
   rw[this];rfl
theorem upS_behind(L:List Nat):upS L=upper (behind 2 L)∧L.dropWhile z8=(behind 2 L).dropWhile z8:=by
 rw[behind2];unfold upS;rw[qA4];cases L with
 |nil=>exact⟨rfl,rfl⟩
 | cons r L=>
  by_cases h:kR (r::L)=true
  ·have hm:zI r=true:=h;have hb:=wFD r hm;rw[if_pos h,if_pos h]
   have:upper (r::L)=r::upper L:=by unfold upper;rw[fQ (by unfold z8;simp[hb])]
   rw[this];refine⟨rfl,?_⟩;rw[gR (by unfold z8;simp[hb])];rfl
  ·rw[if_neg h,if_neg h];exact⟨rfl,rfl⟩
theorem dg_notBar(r:Nat)(h:wAD r=true):z8 r=true:=by
 rw[wO2]at h;have h1:∀k,(k<48∨57<k)→(r==k)=false:=by intro k hk;simp;omega
 unfold z8 jW;rw[h1 47 (by omega),h1 8260 (by omega),h1 8725 (by omega)];rfl
theorem digs_dg(U:List Nat):∀r,r∈jK U→wAD r=true:=by
 unfold jK
 induction U with
 |nil=>simp
 | cons x U ih=>
  intro r hr;by_cases h:wAD x=true
  ·rw[fQ h,pS]at hr;rcases hr with rfl|hr
   ·exact h
   ·exact ih r hr
  ·rw[bW h]at hr;cases hr
theorem upper_digs(U:List Nat):upper U=jK U++upper (past U)∧U.dropWhile z8=(past U).dropWhile z8:=by
 have e:U=jK U++past U:=(pB4 ..).symm;have hd:∀r,r∈jK U→z8 r=true:=fun r hr=>dg_notBar r (digs_dg U r hr);constructor
 ·conv=>lhs;rw[e]
  unfold upper;rw[bL hd]
 ·conv=>lhs;rw[e]
  rw[gJ hd]
theorem bad_false(D:List Nat)(h0:D≠[])(h:∀r,r∈D→wAD r=true):wK0 D=false:=by
 cases hb:wK0 D
 ·rfl
 ·rcases(jX D).1 hb with h1|h1
  ·exact absurd h1 h0
  ·exact absurd ((wQD D).2 h) h1
theorem bad_true(D:List Nat)(r:Nat)(hr:r∈D)(h:wAD r=false):wK0 D=true:=
 (jX D).2 (.inr fun h1=>by have:=(wQD D).1 h1 r hr;rw[h]at this;cases this)
theorem past_head(U:List Nat)(r:Nat)(R:List Nat)(h:past U=r::R):wAD r=false:=by
 unfold past at h
 induction U with
 |nil=>cases h
 |cons x U ih=>
  by_cases hx:wAD x=true
  ·rw[gR hx]at h;exact ih h
  ·rw[fP hx]at h;cases h;simpa using hx
theorem frac_says(L:List Nat):v6 true L=qK L:=by
 obtain⟨U,hU⟩:∃U,behind 2 L=U:=⟨_,rfl⟩
 obtain⟨h1,h2⟩:=upS_behind L;rw[hU]at h1 h2;obtain⟨h3,h4⟩:=upper_digs U;have hn:wDJ L=jK U:=by unfold wDJ;rw[hU]
 have he:end1 L=past U:=by unfold end1;rw[hU]
 have hg:neg1 L=kR (upper L):=by rw[qA4];exact ahead2 L
 have hdd:=digs_dg U;unfold v6 qK digN;rw[hn,he,hg,h1,h3];cases hp:past U with
 | nil=>
  rw[hp]at h4;have hl:=lower_one L (h2.trans h4);have hf:¬(upper L).length<L.length:=fun h=>(wFH L).1 h (h2.trans h4);have hu:upper ([]:List Nat)=[]:=rfl;rw[hl,hu,cG,if_neg hf];by_cases h0:jK U=[]
  ·rw[h0];rfl
  ·rw[if_neg h0,bad_false _ h0 hdd];have ha:ahead 3 ([]:List Nat)=false:=rfl;have hb:wK0 [49]=false:=by decide
   have hz:qV [49]=false:=by decide
   have ho:wS 10 ([49].map wU)=1:=by decide
   rw[ha,hb,hz,ho];simp
 | cons r R=>
  have hr:=past_head U r R hp;by_cases hb:jW r=true
  ·have hu:upper (r::R)=[]:=by unfold upper;rw[bW (by unfold z8;simp[hb])]
   have hd:(r::R).dropWhile z8=r::R:=by rw[fP (by unfold z8;simp[hb])]
   rw[hp,hd]at h4;have hne:L.dropWhile z8≠[]:=by rw[h2,h4];simp
   have hl:lower L=R:=by rw[lower_tail L hne,h2,h4];rfl
   have hf:=(wFH L).2 hne;have ha:ahead 3 (r::R)=true:=by
    show(kindOf r==3)=true;rw[beq_iff_eq,wW3];refine⟨?_,hb⟩;cases hm:zI r
    ·rfl
    ·rw[wFD r hm]at hb;cases hb
   rw[hl,hu,cG,if_pos hf,ha];by_cases h0:jK U=[]
   ·rw[h0];rfl
   ·rw [if_neg h0,bad_false _ h0 hdd];simp only[Bool.true_and,if_true,List.tail_cons,Bool.false_eq_true,if_false];by_cases hR0:R=[]
    ·subst hR0;rfl
    ·have hRe:R.isEmpty=false:=by simp[hR0]
     simp only[hRe,Bool.not_false,Bool.and_true];by_cases hall:∀x,x∈R→wAD x=true
     ·obtain⟨e1,e2⟩:=qJD R hall;simp[bad_false R hR0 hall,e1,e2,hR0]
     ·have hpn:past R≠[]:=fun h=>hall ((past_nil R).1 h);have hbad:wK0 R=true:=(jX R).2 (.inr fun h=>hall ((wQD R).1 h));have hno:qV R=false:=by
       cases h:qV R
       ·rfl
       ·exfalso;apply hall;intro x hx;unfold qV at h;rw[mD]at h;have:=h x hx;rw[beq_iff_eq]at this;subst this
        decide
      by_cases hd0:jK R=[]
      ·simp[hd0,hbad,hno]
      ·simp[hd0,hpn,hbad,hno]
  ·have hbf:jW r=false:=by simpa using hb
   have ha:ahead 3 (r::R)=false:=by show(kindOf r==3)=false;rw[beq_eq_false_iff_ne];intro h;rw[wW3]at h;rw[hbf]at h;cases h.2
   have hu:upper (r::R)=r::upper R:=by unfold upper;rw[fQ (by unfold z8;simp[hbf])]
   have hbad:wK0 (jK U++upper (r::R))=true:=bad_true _ r (by rw[hu];simp) hr;rw[hbad,ha];by_cases h0:jK U=[]
   ·simp[h0]
   ·simp[h0]
theorem elemRat:Elem Tryz.prog 41 43 (.agg #[.bool false,.slice none 0 0,.bool false,.slice none 0 0]) 4 64:=
 ⟨Tryz.underlying41,by kernel_rfl,rfl,by decide⟩
def kF(B:Nat)(w:World)(v:Value)(out:List (Bool×List Nat×Bool×List Nat)):Prop:=
 ∃cs:List (List Value),w.ownsRow B 43 4 v out.length cs.flatten∧cs.length=out.length∧(∀c,c∈cs→c.length=4) ∧
  ∀(i:Nat)(x:Bool×List Nat×Bool×List Nat)(c:List Value),out[i]? = some x→cs[i]? = some c→kN B w.heap.size w x c
theorem kF.nil{B:Nat}{w:World}:kF B w (.slice none 0 0) []:=⟨[],World.ownsRow_nil _ _ _ _,rfl,by simp,by simp⟩
theorem kF.later{B:Nat}{w w':World}{v:Value}{out:List (Bool×List Nat×Bool×List Nat)}(h:kF B w v out)(hb:Below w.heap.size w w'):kF B w' v out:=by obtain⟨cs,h1,h2,h3,h4⟩:=h;exact⟨cs,wBB h1 hb,h2,h3,fun i x c hx hc=>((h4 i x c hx hc).keep fun b _ hh=>hb.block b hh).wide (pC _) hb.size⟩
theorem kF.fracs{B:Nat}{w:World}{v:Value}{out:List (Bool×List Nat×Bool×List Nat)}(h:kF B w v out):wA0 B w.heap.size w v out:=by obtain⟨cs,h1,h2,h3,h4⟩:=h;exact kK.ofOwn (by decide) h1 h2 h3 h4
theorem kF.shape{B:Nat}{w:World}{v:Value}{out:List (Bool×List Nat×Bool×List Nat)}(h:kF B w v out):∃ad cap,v=.slice ad out.length cap:=by obtain⟨cs,h1,h2,h3,h4⟩:=h;exact vW h1
theorem kF.snoc{B:Nat}{w w6:World}{v v':Value}{cs:List (List Value)}{out:List (Bool×List Nat×Bool×List Nat)}{x:Bool×List Nat×Bool×List Nat}{q p:Value}(hB:0<B)(h1:w.ownsRow B 43 4 v out.length cs.flatten)(h2:cs.length=out.length)(h3:∀c,c∈cs→c.length=4)(h4:∀(i:Nat)(x:Bool×List Nat×Bool×List Nat)(c:List Value),out[i]? = some x→cs[i]? = some c→kN B w.heap.size w x c)(hq:wG B w.heap.size w q x.2.1)(hp:wG B w.heap.size w p x.2.2.2)(ho:w6.ownsRow B 43 4 v' (out.length+1) (cs.flatten++[.bool x.1,q,.bool x.2.2.1,p]))(hg:(w.alloc (.cells #[.bool x.1,q,.bool x.2.2.1,p] 43)).grownBy w6 v.ownBlock) :
  kF B w6 v' (out++[x]):=by
 have hal:Below w.heap.size w (w.alloc (.cells #[.bool x.1,q,.bool x.2.2.1,p] 43)):=(Below.refl _ _).alloc (pC _) _;have hsz:w.heap.size≤w6.heap.size:=pD hal.size hg.size;have hl:∀{u:Value}{xs:List Nat},wG B w.heap.size w u xs→wG B w6.heap.size w6 u xs:=fun h=>(wG.grown (h.below hal (pC _)) hB hg (jT (h1.alloc _) _ (by decide))).wide (pC _) hsz
 refine⟨cs++[[.bool x.1,q,.bool x.2.2.1,p]],?_,by simp[h2],?_,?_⟩
 ·rw[fZ,pX];simpa using ho
 ·intro c hc;rcases cB.1 hc with h|h
  ·exact h3 c h
  ·simp only[List.mem_singleton]at h;rw[h];rfl
 ·intro i y c hy hc;rcases pL i out.length with hi|hi
  ·rw[cD hi]at hy;rw[cD (by omega)]at hc;obtain⟨q',p',rfl,hq',hp'⟩:=h4 i y c hy hc;exact⟨q',p',rfl,hl hq',hl hp'⟩
  ·rw[cC hi]at hy;rw[cC (by omega),h2]at hc;obtain⟨j,hj⟩:∃j,i-out.length=j:=⟨_,rfl⟩
   rw[hj]at hy hc;cases j with
   |zero=>simp only[List.getElem?_cons_zero,Option.some.injEq]at hy hc;subst hy hc;exact⟨q,p,rfl,hl hq,hl hp⟩
   |succ j=>simp at hy
def xS(x:Bool×Nat×Nat×Nat):Bool×List Nat×Bool×List Nat:=(x.1,toL x.2.1,false,toL x.2.2.1)
def wGF:Bool→List (Bool×List Nat×Bool×List Nat)→List (ByteArray×Bool)→List (Bool×List Nat×Bool×List Nat)×Nat×Nat
 |_,out,[]=>(out,0,0)
 |bad,out,(_,true)::rest=>if bad=true∨rest=[]then([],out.length+1,21)else wGF true out rest
 |_,out,(wd,false)::rest=>if(qK (wD wd)).2.2.2≠0 then([],out.length+1,(qK (wD wd)).2.2.2)else wGF false (out++[xS (qK (wD wd))]) rest
def qK9(w w':World)(e:Ending)(ng:Bool)(N M cd:Nat):Prop:=
 ∃ad cap ad2 cap2,e=.returned (.tuple #[.agg #[.bool ng,.slice ad (toL N).length cap,.bool false,.slice ad2 (toL M).length cap2],.int .i64 (cd:Nat)]) ∧
  wG w.heap.size w'.heap.size w' (.slice ad (toL N).length cap) (toL N)∧wG w.heap.size w'.heap.size w' (.slice ad2 (toL M).length cap2) (toL M)
theorem readsFracB(s:ByteArray)(w:World)(hs:s.size≤1000000000)(ng:Bool)(N M cd:Nat)(hx:qK (wD s)=(ng,N,M,cd)) :
  Calls Tryz.prog 45 #[.string s] w fun e w'=>Below w.heap.size w w'∧qK9 w w' e ng N M cd:=by
 refine(frac_any s w hs).mono ?_;rintro e w' ⟨hb,h⟩;rw[frac_says,hx]at h;obtain⟨q,p,rfl,hq,hp⟩:=h;obtain⟨ad,cap,rfl⟩:=hq.shape;obtain⟨ad2,cap2,rfl⟩:=hp.shape;exact⟨hb,_,_,_,_,rfl,hq,hp⟩
def rowOf(s:ByteArray):List (Bool×List Nat×Bool×List Nat)×Nat×Nat:=wGF true [] (y3 s)
def wXH(P:List (ByteArray×Bool))(k:Nat):Bool:=k==0||(P.getD (k-1) (⟨#[]⟩,false)).2
theorem drop_at{α:Type}(P:List α)(k:Nat)(x:α)(h:P[k]? = some x):P.drop k=x::P.drop (k+1):=by obtain⟨hk,rfl⟩:=pY.1 h;exact cE hk
theorem wN7(s:ByteArray)(pos:Nat):(qN s pos).length≤s.size-pos:=by
 obtain⟨n,hn⟩:∃n,s.size-pos=n:=⟨_,rfl⟩
 induction n using Nat.strongRecOn generalizing pos with
 |ind n ih=>
  by_cases h:pos<s.size
  ·rw[jY s pos h];have hw:=(qD s pos).1;have:=ih (s.size-(pos+(Utf8.decode s pos).2)) (by omega) (pos+(Utf8.decode s pos).2) rfl;simp only[List.length_cons];omega
  ·rw[vV s pos h];simp
theorem qDB(s:ByteArray):∀(L:List (Nat×Nat))(fr:Option Nat),(pcs s fr L).length≤2*L.length+1
 |[],fr=>by rw[pcs];exact wQ5 s fr _
 | (i,r)::L,fr=>by
  rw[pcs];have h1:=qDB s L none;have h2:=qDB s L (some (fr.getD i));have h3:=wQ5 s fr i;split
  ·simp only[List.length_append,List.length_cons];omega
  ·split
   ·simp only[List.length_append,List.length_cons];omega
   ·simp only[List.length_cons];omega
theorem qD9(s:ByteArray):(y3 s).length≤2*s.size+1:=by have h1:=qDB s (qN s 0) none;have h2:=wN7 s 0;unfold y3;omega
theorem wF7(s:ByteArray):∀(L:List (Nat×Nat))(fr:Option Nat)(x:ByteArray×Bool),x∈pcs s fr L→x.1.size≤s.size
 |[],fr,x,h=>by
  rw[pcs]at h;cases fr with
  |none=>simp[yA]at h
  |some a=>simp only[yA,List.mem_singleton]at h;rw[h];simp[ByteArray.size_extract]<;>omega
 | (i,r)::L,fr,x,h=>by
  rw[pcs]at h;have hf:∀y,y∈yA s fr i→y.1.size≤s.size:=by
   intro y hy;cases fr with
   |none=>simp[yA]at hy
   |some a=>simp only[yA,List.mem_singleton]at hy;rw[hy];simp[ByteArray.size_extract]<;>omega
  split at h
  ·rcases cB.1 h with h|h
   ·exact hf x h
   ·exact wF7 s L none x h
  ·split at h
   ·rcases cB.1 h with h|h
    ·exact hf x h
    ·rcases pS.1 h with h|h
     ·rw[h];exact pG _
     ·exact wF7 s L none x h
   ·exact wF7 s L _ x h
set_option maxRecDepth 100000 in
theorem qEJ(n k b0 b1 b2 b3 c1 c2 c3:Nat)(hk:1≤k)(hkn:k≤n)(hw:(Lib.decodeN n b0 b1 b2 b3).2≤k)(e1:1<k→c1=b1)(e2:2<k→c2=b2)(e3:3<k→c3=b3):Lib.decodeN k b0 c1 c2 c3=Lib.decodeN n b0 b1 b2 b3:=by
 rcases pL 3 k with h|h
 ·rw[e1 (by omega),e2 (by omega),e3 h];unfold Lib.decodeN
  have:(1<k)=(1<n):=by simp;omega
  have:(2<k)=(2<n):=by simp;omega
  have:(3<k)=(3<n):=by simp;omega
  simp_all
 ·rcases pL 2 k with h2|h2
  ·obtain rfl:k=3:=by omega
   rw[e1 (by omega),e2 (by omega)];unfold Lib.decodeN at hw ⊢
   repeat' split at hw
   all_goals (repeat' split)
   all_goals first|rfl|(exfalso;simp only at hw;omega)|(exfalso;omega)
  ·rcases pL 1 k with h3|h3
   ·obtain rfl:k=2:=by omega
    rw[e1 (by omega)];unfold Lib.decodeN at hw ⊢
    repeat' split at hw
    all_goals (repeat' split)
    all_goals first|rfl|(exfalso;simp only at hw;omega)|(exfalso;omega)
   ·obtain rfl:k=1:=by omega
    unfold Lib.decodeN at hw ⊢
    repeat' split at hw
    all_goals (repeat' split)
    all_goals first|rfl|(exfalso;simp only at hw;omega)|(exfalso;omega)
theorem wG6(l:List UInt8)(k:Nat)(hw:(Lib.decodeL l).2≤k)(hk1:1≤k)(hk:k≤l.length):Lib.decodeL (l.take k)=Lib.decodeL l:=by
 rw[Lib.decodeL_N,Lib.decodeL_N]at *
 have hlen:(l.take k).length=k:=by simp[hk]
 rw[hlen];have hg:∀i,i<k→(l.take k).getD i 0=l.getD i 0:=by intro i hi;simp[List.getD_eq_getElem?_getD,hi]
 rw[hg 0 (by omega)];exact qEJ _ _ _ _ _ _ _ _ _ hk1 hk hw (fun h=>by rw[hg 1 h]) (fun h=>by rw[hg 2 h]) (fun h=>by rw[hg 3 h])
theorem y6(l:List UInt8):1≤(Lib.decodeL l).2:=(qD _ 0).1
def wAA:Nat→List UInt8→List Nat
 |0,_=>[]
 |f+1,l=>if l=[]then[]else(Lib.decodeL l).1::wAA f (l.drop (Lib.decodeL l).2)
def qS(l:List UInt8):List Nat:=wAA l.length l
theorem wN0:∀(f g:Nat)(l:List UInt8),l.length≤f→l.length≤g→wAA f l=wAA g l
 |0,g,l,h,_=>by obtain rfl:l=[]:=pN (by omega);cases g<;>simp[wAA]
 |f+1,0,l,_,h=>by obtain rfl:l=[]:=pN (by omega);simp[wAA]
 |f+1,g+1,l,h1,h2=>by
  rw[wAA,wAA];by_cases hl:l=[]
  ·simp[hl]
  ·rw[if_neg hl,if_neg hl];have:=y6 l;have hp:0<l.length:=cK.2 hl;rw[wN0 f g _ (by simp;omega) (by simp;omega)]
theorem wUD:qS []=[]:=rfl
theorem zP(l:List UInt8)(h:l≠[]):qS l=(Lib.decodeL l).1::qS (l.drop (Lib.decodeL l).2):=by
 unfold qS;have hp:0<l.length:=cK.2 h;obtain⟨m,hm⟩:∃m,l.length=m+1:=⟨l.length-1,by omega⟩
 rw[hm,wAA,if_neg h];have:=y6 l;rw[wN0 m _ _ (by simp;omega) (pC _)]
theorem wP9(s:ByteArray)(pos:Nat):zR s pos=qS (s.data.toList.drop pos):=by
 obtain⟨n,hn⟩:∃n,s.size-pos=n:=⟨_,rfl⟩
 have hsz:s.data.toList.length=s.size:=by rw[mN];rfl
 induction n using Nat.strongRecOn generalizing pos with
 | ind n ih=>
  by_cases h:pos<s.size
  ·have hw:=(qD s pos).1;have hne:s.data.toList.drop pos≠[]:=by intro e;have:=fE.1 e;omega
   rw[zX s pos h,zP _ hne,Lib.decodeL_drop,mQ];rw[ih (s.size-(pos+(Utf8.decode s pos).2)) (by omega) _ rfl]
  ·rw[z7 s pos h,mP (by omega)];rfl
theorem vU(s:ByteArray):wD s=qS s.data.toList:=by have:=wP9 s 0;simpa[wD]using this
inductive Bd:List UInt8→Nat→Prop
 |zero (l:List UInt8):Bd l 0
 |step {l:List UInt8} {k:Nat} (h:l≠[]) (hk:Bd (l.drop (Lib.decodeL l).2) k):Bd l ((Lib.decodeL l).2+k)
theorem Bd.le{l:List UInt8}{k:Nat}(h:Bd l k):k≤l.length:=by
 induction h with
 |zero l=>exact pG _
 |step h hk ih=>rename_i l k;have:=Lib.decodeL_le l h;simp at ih;omega
theorem Bd.snoc{l:List UInt8}{k:Nat}(h:Bd l k)(hne:l.drop k≠[]):Bd l (k+(Lib.decodeL (l.drop k)).2):=by
 induction h with
 |zero l=>
  have hl:l≠[]:=by simpa using hne
  have:=Bd.step hl (Bd.zero _);simpa using this
 |step h hk ih=>
  rename_i l k;rw[←mQ]at hne ⊢;have:=Bd.step h (ih hne)
  rwa [←cA]at this
theorem Bd.split{l:List UInt8}{k:Nat}(h:Bd l k):qS l=qS (l.take k)++qS (l.drop k):=by
 induction h with
 |zero l=>simp[wUD]
 | step h hk ih=>
  rename_i l k;have hle:=(Bd.step h hk).le;have hp:=y6 l;have hl:0<l.length:=cK.2 h;have hne:l.take ((Lib.decodeL l).2+k)≠[]:=by intro e;have:=congrArg List.length e;rw[mG,mK]at this;omega
  rw[zP l h,ih,zP _ hne,wG6 l _ (by omega) (by omega) hle,mQ,fJ,bM];rfl
theorem wD3(x:Nat)(h:x<256):((x:Int).toNat.toUInt8).toNat=x:=by simp;omega
set_option maxRecDepth 100000 in
theorem encode_dec(r:Nat)(hv:Utf8.valid (r:Int)=true)(t:List UInt8):Lib.decodeL (Lib.encodeRune (r:Int)++t)=(r,(Lib.encodeRune (r:Int)).length):=by
 rw[Lib.decodeL_N];unfold Lib.encodeRune;by_cases h1:r<128
 ·rw[Lib.encodeRuneZ_one (by omega) (by omega)];simp only[List.map_cons,List.map_nil,List.cons_append,List.nil_append,List.getD_cons_zero,List.length_cons,List.length_nil];rw[wD3 r (by omega)];unfold Lib.decodeN;rw[if_pos h1]
 ·by_cases h2:r<2048
  ·rw[Lib.encodeRuneZ_two (by omega) (by omega)];have e1:(192+(r:Int)/64)=((192+r/64:Nat):Int):=by omega
   have e2:(128+(r:Int)%64)=((128+r%64:Nat):Int):=by omega
   rw[e1,e2];simp only[List.map_cons,List.map_nil,List.cons_append,List.nil_append,List.getD_cons_zero,List.getD_cons_succ,List.length_cons,List.length_nil];rw[wD3 _ (by omega),wD3 _ (by omega)];unfold Lib.decodeN;rw[if_neg (by omega),if_pos ⟨by omega,by omega,by omega⟩,if_pos (by omega)]
   ext<;>simp<;>omega
  ·by_cases h3:r<65536
   ·have hs:(r<55296)∨(57343<r):=by
     simp[Utf8.valid]at hv;omega
    rw[Lib.encodeRuneZ_three (by omega)];have e1:(224+(r:Int)/4096)=((224+r/4096:Nat):Int):=by omega
    have e2:(128+(r:Int)/64%64)=((128+r/64%64:Nat):Int):=by omega
    have e3:(128+(r:Int)%64)=((128+r%64:Nat):Int):=by omega
    rw[e1,e2,e3];simp only[List.map_cons,List.map_nil,List.cons_append,List.nil_append,List.getD_cons_zero,List.getD_cons_succ,List.length_cons,List.length_nil];rw[wD3 _ (by omega),wD3 _ (by omega),wD3 _ (by omega)];unfold Lib.decodeN;have hc:(224+r/4096)%16*4096+(128+r/64%64)%64*64+(128+r%64)%64=r:=by omega
    rw[if_neg (by omega),if_neg (by omega),if_pos ⟨by omega,⟨by omega,by omega⟩,by omega,by omega⟩,hc,if_pos (by omega)]
   ·have hs:r≤1114111:=by
     simp[Utf8.valid]at hv;omega
    have hz:Lib.encodeRuneZ (r:Int)=[240+(r:Int)/262144,128+(r:Int)/4096%64,128+(r:Int)/64%64,128+(r:Int)%64]:=by unfold Lib.encodeRuneZ;rw[if_neg (by omega),if_neg (by omega),if_neg (by omega),if_pos (by omega)]
    rw[hz];have e0:(240+(r:Int)/262144)=((240+r/262144:Nat):Int):=by omega
    have e1:(128+(r:Int)/4096%64)=((128+r/4096%64:Nat):Int):=by omega
    have e2:(128+(r:Int)/64%64)=((128+r/64%64:Nat):Int):=by omega
    have e3:(128+(r:Int)%64)=((128+r%64:Nat):Int):=by omega
    rw[e0,e1,e2,e3];simp only[List.map_cons,List.map_nil,List.cons_append,List.nil_append,List.getD_cons_zero,List.getD_cons_succ,List.length_cons,List.length_nil];rw[wD3 _ (by omega),wD3 _ (by omega),wD3 _ (by omega),wD3 _ (by omega)];unfold Lib.decodeN;have hc:(240+r/262144)%8*262144+(128+r/4096%64)%64*4096+(128+r/64%64)%64*64+(128+r%64)%64=r:=by omega
    rw[if_neg (by omega),if_neg (by omega),if_neg (by omega),if_pos ⟨by omega,⟨by omega,by omega⟩,⟨by omega,by omega⟩,by omega,by omega⟩,hc,if_pos (by omega)]
def Valid(L:List Nat):Prop:=∀r,r∈L→Utf8.valid (r:Int)=true
theorem encode_ne(r:Int):Lib.encodeRune r≠[]:=by
 unfold Lib.encodeRune Lib.encodeRuneZ
 repeat' split
 all_goals simp
theorem runesB_enc(L:List Nat)(hL:Valid L):qS (encB L)=L:=by
 induction L with
 |nil=>rfl
 |cons r L ih=>
  have e:encB (r::L)=Lib.encodeRune (r:Int)++encB L:=by simp[encB]
  have hne:Lib.encodeRune (r:Int)++encB L≠[]:=by simp[encode_ne]
  rw[e,zP _ hne,encode_dec r (hL r (pQ ..)),List.drop_left,ih fun x hx=>hL x (pO _ hx)]
theorem qGC(L:List Nat)(hL:Valid L):wD (txt L)=L:=by rw[vU];exact runesB_enc L hL
theorem qEI(s:ByteArray)(i:Nat):Utf8.valid (((Utf8.decode s i).1:Nat):Int)=true:=by
 have hb:=UInt8.toNat_lt (s.get! i);simp only[Utf8.decode,Nat.add_zero]
 repeat' split
 all_goals first
  |(simp[Utf8.valid,Utf8.runeError];done)
  |(rename_i h;simp only[Bool.and_eq_true]at h;exact h.2)
  |(simp[Utf8.valid];omega)
theorem wYF(s:ByteArray):Valid (wD s):=by
 have h:∀n pos,s.size-pos=n→Valid (zR s pos):=by
  intro n
  induction n using Nat.strongRecOn with
  | ind n ih=>
   intro pos hn;by_cases hp:pos<s.size
   ·rw[zX s pos hp];have hw:=(qD s pos).1;intro r hr;rcases pS.1 hr with rfl|hr
    ·exact qEI s pos
    ·exact ih (s.size-(pos+(Utf8.decode s pos).2)) (by omega) _ rfl r hr
   ·rw[z7 s pos hp];intro r hr;cases hr
 exact h _ 0 rfl
def j5(fr:Option (List Nat)):List (List Nat×Bool):=match fr with|none=>[]|some u=>[(u,false)]
def qW:Option (List Nat)→List Nat→List (List Nat×Bool)
 |fr,[]=>j5 fr
 |fr,r::L=>if kindOf r=4 then j5 fr++qW none L else if kindOf r=5 then j5 fr++([],true)::qW none L else qW (some (fr.getD []++[r])) L
def zK:Bool→List (Bool×List Nat×Bool×List Nat)→List (List Nat×Bool)→List (Bool×List Nat×Bool×List Nat)×Nat×Nat
 |_,out,[]=>(out,0,0)
 |bad,out,(_,true)::rest=>if bad=true∨rest=[]then([],out.length+1,21)else zK true out rest
 |_,out,(u,false)::rest=>if(qK u).2.2.2≠0 then([],out.length+1,(qK u).2.2.2)else zK false (out++[xS (qK u)]) rest
def rowR(L:List Nat):List (Bool×List Nat×Bool×List Nat)×Nat×Nat:=zK true [] (qW none L)
def wJF(x:ByteArray×Bool):List Nat×Bool:=(wD x.1,x.2)
theorem qCH:∀(P:List (ByteArray×Bool))(bad:Bool)(out:List (Bool×List Nat×Bool×List Nat)),wGF bad out P=zK bad out (P.map wJF)
 |[],bad,out=>by rw[wGF,fY,zK]
 |(wd,true)::P,bad,out=>by rw[wGF,mE,show wJF (wd,true)=(wD wd,true)from rfl,zK,qCH P];simp
 |(wd,false)::P,bad,out=>by rw[wGF,mE,show wJF (wd,false)=(wD wd,false)from rfl,zK,qCH P]
theorem wJC(s:ByteArray)(a i:Nat):(s.extract a i).data.toList=(s.data.toList.drop a).take (i-a):=by rw[ByteArray.data_extract];simp[Array.toList_extract]
theorem qE3(s:ByteArray)(fr:Option Nat)(i:Nat):(yA s fr i).map wJF=j5 (fr.map fun a=>qS ((s.data.toList.drop a).take (i-a))):=by
 cases fr with
 |none=>rfl
 |some a=>simp only[yA,j5,List.map_cons,List.map_nil,Option.map_some,wJF];rw[vU,wJC]
theorem pcs_R(s:ByteArray):∀(n pos:Nat)(fr:Option Nat),s.size-pos=n→pos≤s.size→(∀a,fr=some a→a≤pos∧Bd (s.data.toList.drop a) (pos-a))→
  (pcs s fr (qN s pos)).map wJF=qW (fr.map fun a=>qS ((s.data.toList.drop a).take (pos-a))) (zR s pos):=by
 intro n;have hsz:s.data.toList.length=s.size:=by rw[mN];rfl
 induction n using Nat.strongRecOn with
 | ind n ih=>
  intro pos fr hn hp hfr;by_cases h:pos<s.size
  ·have hw:=qD s pos;have hne:s.data.toList.drop pos≠[]:=by intro e;have:=fE.1 e;omega
   have hle:=Lib.decodeL_le _ hne;rw[Lib.decodeL_drop,dC,hsz]at hle;rw[jY s pos h,zX s pos h,pcs,qW];obtain⟨wd,hwd⟩:∃wd,(Utf8.decode s pos).2=wd:=⟨_,rfl⟩
   obtain⟨r,hr⟩:∃r,(Utf8.decode s pos).1=r:=⟨_,rfl⟩
   rw[hwd]at hw hle ⊢;rw[hr];have ihn:=ih (s.size-(pos+wd)) (by omega) (pos+wd) none rfl (by omega) (by simp);rw[bO]at ihn;split
   ·rw[bQ,ihn,qE3]
   ·split
    ·rw[bQ,mE,ihn,qE3];rfl
    ·have hb:∀a,some (fr.getD pos)=some a→a≤pos+wd∧Bd (s.data.toList.drop a) (pos+wd-a):=by
      intro a ha;simp only[Option.some.injEq]at ha;cases fr with
      |none=>simp only[Option.getD_none]at ha;subst ha;refine⟨by omega,?_⟩;have:=Bd.step hne (Bd.zero _);rw[Lib.decodeL_drop,hwd]at this;rw[bM];exact this
      |some b=>
       simp only[Option.getD_some]at ha;subst ha;obtain⟨h1,h2⟩:=hfr b rfl;refine⟨by omega,?_⟩;have hd:(s.data.toList.drop b).drop (pos-b)=s.data.toList.drop pos:=by rw[mQ,pC5 h1]
       have:=h2.snoc (by rw[hd];exact hne);rw[hd,Lib.decodeL_drop,hwd]at this
       rwa [show pos+wd-b=pos-b+wd by omega]
     rw[ih (s.size-(pos+wd)) (by omega) (pos+wd) (some (fr.getD pos)) rfl (by omega) hb];congr 1;rw[dM];congr 1;have hone:qS ((s.data.toList.drop pos).take wd)=[r]:=by have h1:=(Bd.step hne (Bd.zero _)).split;rw[Lib.decodeL_drop,hwd,mJ,zP _ hne,Lib.decodeL_drop,hwd,hr]at h1;have h2:[r]++qS ((s.data.toList.drop pos).drop wd)=qS ((s.data.toList.drop pos).take wd)++qS ((s.data.toList.drop pos).drop wd):=h1;exact(pA0 h2).symm
     cases fr with
     |none=>simp only[Option.getD_none,Option.map_none,List.nil_append,Nat.add_sub_cancel_left];exact hone
     | some b=>
      obtain⟨h1,h2⟩:=hfr b rfl;have hd:(s.data.toList.drop b).drop (pos-b)=s.data.toList.drop pos:=by rw[mQ,pC5 h1]
      simp only[Option.getD_some,Option.map_some];have h3:=(h2.snoc (by rw[hd];exact hne))
      have h4:=h2.split;have h5:=h3.split;rw[hd,Lib.decodeL_drop,hwd]at h5;rw[hd]at h4;rw[show pos+wd-b=pos-b+wd by omega];have h6:qS (s.data.toList.drop pos)=r::qS ((s.data.toList.drop b).drop (pos-b+wd)):=by rw[zP _ hne,Lib.decodeL_drop,hwd,hr,mQ,mQ,show b+(pos-b+wd)=pos+wd by omega]
      rw[h6]at h4;rw[h4]at h5;have h7:qS ((s.data.toList.drop b).take (pos-b))++[r]++qS ((s.data.toList.drop b).drop (pos-b+wd))=qS ((s.data.toList.drop b).take (pos-b+wd))++qS ((s.data.toList.drop b).drop (pos-b+wd)):=by rw[←h5];simp
      exact(pA0 h7).symm
  ·have hpe:pos=s.size:=by omega
   rw[vV s pos h,z7 s pos h,pcs,qW,qE3,hpe]
theorem rowOf_R(s:ByteArray):rowOf s=rowR (wD s):=by unfold rowOf rowR y3;rw[qCH,pcs_R s _ 0 none rfl (pG _) (by simp)];rfl
def wCA(p:Nat→Bool)(st:List (List Nat)×List Nat)(r:Nat):List (List Nat)×List Nat:=if p r=true then(st.1++[st.2],[])else(st.1,st.2++[r])
def qG(p:Nat→Bool)(cur L:List Nat):List (List Nat)×List Nat:=L.foldl (wCA p) ([],cur)
def wR(p:Nat→Bool)(L:List Nat):List (List Nat):=(qG p [] L).1++[(qG p [] L).2]
def j8(st:List (List Nat)×List Nat)(r:Nat):List (List Nat)×List Nat:=if x8 r=true then(if st.2=[]then st.1 else st.1++[st.2],[])else(st.1,st.2++[r])
def zJ(L:List Nat):List (List Nat)×List Nat:=L.foldl j8 ([],[])
def kO(L:List Nat):List (List Nat):=(zJ (L++[32])).1
theorem wH8(L:List Nat)(r:Nat):zJ (L++[r])=j8 (zJ L) r:=by simp[zJ]
def qX(r:Nat):Bool:=r==44
def zH(r:Nat):Bool:=r==59||r==10
theorem wPF(p:Nat→Bool)(st:List (List Nat)×List Nat)(r:Nat)(h:p r=true):wCA p st r=(st.1++[st.2],[]):=if_pos h
theorem wV7(p:Nat→Bool)(st:List (List Nat)×List Nat)(r:Nat)(h:¬p r=true):wCA p st r=(st.1,st.2++[r]):=if_neg h
theorem wF9(p:Nat→Bool):∀(L:List Nat)(done:List (List Nat))(cur:List Nat),L.foldl (wCA p) (done,cur)=(done++(qG p cur L).1,(qG p cur L).2)
 |[],done,cur=>by simp[qG]
 |r::L,done,cur=>by
  unfold qG;rw[cY,cY];by_cases h:p r=true
  ·rw[wPF p _ r h,wPF p _ r h,wF9 p L,wF9 p L ([]++[cur])];simp
  ·rw[wV7 p _ r h,wV7 p _ r h,wF9 p L];rfl
theorem kY(p:Nat→Bool)(cur:List Nat)(r:Nat)(L:List Nat):qG p cur (r::L)=if p r=true then(cur::(qG p [] L).1,(qG p [] L).2)else qG p (cur++[r]) L:=by
 conv=>lhs;unfold qG
 rw[cY];by_cases h:p r=true
 ·rw[if_pos h,wPF p _ r h,wF9];simp
 ·rw[if_neg h,wV7 p _ r h];rfl
theorem qI9(r:Nat):kindOf r=4↔x8 r=true:=by
 unfold kindOf;by_cases h1:zI r=true
 ·have:x8 r=false:=by
   simp only[zI,Bool.or_eq_true,beq_iff_eq]at h1;rcases h1 with rfl|rfl<;>decide
  rw[if_pos h1,this];simp
 ·rw [if_neg h1];by_cases h2:jW r=true
  ·have:x8 r=false:=by
    simp only[jW,Bool.or_eq_true,beq_iff_eq]at h2;rcases h2 with(rfl|rfl)|rfl<;>decide
   rw[if_pos h2,this];simp
  ·rw[if_neg h2];by_cases h3:x8 r=true
   ·rw[if_pos h3];simp[h3]
   ·rw[if_neg h3];constructor
    ·intro h
     repeat' split at h
     all_goals omega
    ·intro h;exact absurd h h3
theorem wW2(r:Nat):kindOf r=5↔qX r=true:=by
 unfold qX;rw[beq_iff_eq];constructor
 ·intro h;unfold kindOf at h
  repeat' split at h
  all_goals first|assumption|omega
 ·rintro rfl;rfl
abbrev Fr:=Bool×List Nat×Bool×List Nat
def yH(c:List Nat):List (List Nat×Bool):=(kO c).map fun u=>(u,false)
def wCG:List (List Nat)→List (List Nat×Bool)
 |[]=>[]
 |[c]=>yH c
 |c::d::cs=>yH c++([],true)::wCG (d::cs)
def optW(w:List Nat):Option (List Nat):=if w=[]then none else some w
theorem optW_get(w:List Nat):(optW w).getD []=w:=by unfold optW;split<;>simp_all
theorem wZ9(c:List Nat):yH c=((zJ c).1.map fun u=>(u,false))++j5 (optW (zJ c).2):=by
 unfold yH kO;rw[wH8];unfold j8 optW;rw[if_pos (by rfl)];by_cases h:(zJ c).2=[]
 ·simp[h,j5]
 ·simp[h,j5]
theorem wPD:∀(L cur:List Nat),wCG ((qG qX cur L).1++[(qG qX cur L).2])=((zJ cur).1.map fun u=>(u,false))++qW (optW (zJ cur).2) L
 |[],cur=>by show wCG [cur]=_;rw[qW];exact wZ9 cur
 | r::L,cur=>by
  rw[kY,qW];by_cases h5:qX r=true
  ·have hk:=(wW2 r).2 h5;rw[if_pos h5,if_neg (by omega),if_pos hk];have ih:=wPD L [];obtain⟨d,cs,hd⟩:∃d cs,(qG qX [] L).1++[(qG qX [] L).2]=d::cs:=by
    cases h:(qG qX [] L).1 with
    |nil=>exact⟨_,[],rfl⟩
    |cons d cs=>exact⟨d,cs++[(qG qX [] L).2],rfl⟩
   have h2:(cur::(qG qX [] L).1)++[(qG qX [] L).2]=cur::d::cs:=by rw[mR,hd]
   rw[hd]at ih;show wCG ((cur::(qG qX [] L).1)++[(qG qX [] L).2])=_;rw[h2,wCG,ih,wZ9];simp[zJ,optW]
  ·have hk:kindOf r≠5:=fun h=>h5 ((wW2 r).1 h);rw[if_neg h5,wPD L (cur++[r]),wH8];unfold j8;by_cases h4:x8 r=true
   ·have hk4:=(qI9 r).2 h4;rw[if_pos h4,if_pos hk4];unfold optW;by_cases hw:(zJ cur).2=[]
    ·simp[hw,j5]
    ·simp[hw,j5]
   ·have hk4:kindOf r≠4:=fun h=>h4 ((qI9 r).1 h);rw[if_neg h4,if_neg hk4,if_neg hk]
    have:optW ((zJ cur).2++[r])=some ((zJ cur).2++[r]):=by simp[optW]
    rw[this,optW_get]
theorem qA2(L:List Nat):qW none L=wCG (wR qX L):=by unfold wR;rw[wPD];rfl
theorem wL4(p:Nat→Bool):∀(L cur:List Nat)(x:List Nat),x∈(qG p cur L).1++[(qG p cur L).2]→∀r,r∈x→r∈cur∨r∈L
 |[],cur,x,h,r,hr=>by simp only[qG,List.foldl_nil,List.nil_append,List.mem_singleton]at h;exact .inl (h ▸ hr)
 | y::L,cur,x,h,r,hr=>by
  rw[kY]at h;by_cases hp:p y=true
  ·rw[if_pos hp,mR]at h;rcases pS.1 h with rfl|h
   ·exact .inl hr
   ·rcases wL4 p L [] x h r hr with h|h
    ·cases h
    ·exact .inr (pO _ h)
  ·rw[if_neg hp]at h;rcases wL4 p L _ x h r hr with h|h
   ·rcases cB.1 h with h|h
    ·exact .inl h
    ·simp only[List.mem_singleton]at h;exact .inr (by rw[h];exact pQ ..)
   ·exact .inr (pO _ h)
theorem wV5(p:Nat→Bool)(L x:List Nat)(h:x∈wR p L):∀r,r∈x→r∈L:=fun r hr=>by
 rcases wL4 p L [] x h r hr with h|h
 ·cases h
 ·exact h
def wHB(l:List (List Nat)):Nat:=(l.map fun x=>x.length+1).sum
theorem wL5(p:Nat→Bool):∀(L cur:List Nat),wHB ((qG p cur L).1++[(qG p cur L).2])=cur.length+L.length+1
 |[],cur=>by simp[qG,wHB]
 |y::L,cur=>by
  rw[kY];by_cases hp:p y=true
  ·rw[if_pos hp,mR];have:=wL5 p L [];simp only[wHB,List.map_cons,List.sum_cons,List.length_cons,List.length_nil]at this ⊢;omega
  ·rw[if_neg hp,wL5 p L];simp;omega
theorem parted_len(p:Nat→Bool)(L:List Nat):wHB (wR p L)=L.length+1:=by have:=wL5 p L [];simpa[wR]using this
theorem sumLen_mem(l:List (List Nat))(x:List Nat)(h:x∈l):x.length+1≤wHB l:=by
 induction l with
 |nil=>cases h
 |cons y l ih=>
  simp only[wHB,List.map_cons,List.sum_cons]at ih ⊢;rcases pS.1 h with rfl|h
  ·omega
  ·have:=ih h;omega
theorem sumLen_len(l:List (List Nat)):l.length≤wHB l:=by
 induction l with
 |nil=>simp
 |cons y l ih=>simp only[wHB,List.map_cons,List.sum_cons,List.length_cons]at ih ⊢;omega
theorem utf8_nat(r:Nat):Utf8.encode (r:Int)=⟨(Lib.encodeRune (r:Int)).toArray⟩:=by
 unfold Lib.encodeRune;by_cases h1:r<128
 ·rw[Lib.encodeRuneZ_one (by omega) (by omega)];have hv:Utf8.valid (r:Int)=true:=by simp[Utf8.valid];omega
  unfold Utf8.encode;simp only[hv,if_true,Int.toNat_natCast];rw[if_pos (by omega)];simp
 ·by_cases h2:r<2048
  ·rw[Lib.encodeRuneZ_two (by omega) (by omega)];have hv:Utf8.valid (r:Int)=true:=by simp[Utf8.valid];omega
   unfold Utf8.encode;simp only[hv,if_true,Int.toNat_natCast];rw[if_neg (by omega),if_pos (by omega)];have e1:(192+(r:Int)/64).toNat=192+r/64:=by omega
   have e2:(128+(r:Int)%64).toNat=128+r%64:=by omega
   simp[e1,e2]
  ·by_cases hs:55296≤r∧r≤57343∨1114111<r
   ·have hv:Utf8.valid (r:Int)=false:=by
     cases h:Utf8.valid (r:Int)
     ·rfl
     ·simp[Utf8.valid]at h;omega
    have hz:Lib.encodeRuneZ (r:Int)=[239,191,189]:=by unfold Lib.encodeRuneZ;rw[if_neg (by omega),if_neg (by omega),if_neg (by omega),if_neg (by omega)]
    rw[hz];unfold Utf8.encode;simp only[hv,Bool.false_eq_true,if_false]
    decide
   ·have hv:Utf8.valid (r:Int)=true:=by simp[Utf8.valid];omega
    by_cases h3:r<65536
    ·rw[Lib.encodeRuneZ_three (by omega)];unfold Utf8.encode;simp only[hv,if_true,Int.toNat_natCast];rw[if_neg (by omega),if_neg (by omega),if_pos (by omega)];have e1:(224+(r:Int)/4096).toNat=224+r/4096:=by omega
     have e2:(128+(r:Int)/64%64).toNat=128+r/64%64:=by omega
     have e3:(128+(r:Int)%64).toNat=128+r%64:=by omega
     simp[e1,e2,e3]
    ·have hz:Lib.encodeRuneZ (r:Int)=[240+(r:Int)/262144,128+(r:Int)/4096%64,128+(r:Int)/64%64,128+(r:Int)%64]:=by
      unfold Lib.encodeRuneZ;rw[if_neg (by omega),if_neg (by omega),if_neg (by omega),if_pos (by omega)]
     rw[hz];unfold Utf8.encode;simp only[hv,if_true,Int.toNat_natCast];rw[if_neg (by omega),if_neg (by omega),if_neg (by omega)];have e0:(240+(r:Int)/262144).toNat=240+r/262144:=by omega
     have e1:(128+(r:Int)/4096%64).toNat=128+r/4096%64:=by omega
     have e2:(128+(r:Int)/64%64).toNat=128+r/64%64:=by omega
     have e3:(128+(r:Int)%64).toNat=128+r%64:=by omega
     simp[e0,e1,e2,e3]
theorem wUB(L:List Nat):runesBytes (L.map fun(r:Nat)=>(r:Int))=txt L:=by
 have h:∀(L:List Nat)(a:List UInt8),(L.map fun(r:Nat)=>(r:Int)).foldl (fun r n=>r++Utf8.encode n) ⟨a.toArray⟩=(⟨(a++encB L).toArray⟩:ByteArray):=by
  intro L
  induction L with
  |nil=>intro a;simp[encB]
  | cons r L ih=>
   intro a;rw[mE,cY,utf8_nat];have e:(⟨a.toArray⟩:ByteArray)++⟨(Lib.encodeRune (r:Int)).toArray⟩=⟨(a++Lib.encodeRune (r:Int)).toArray⟩:=by apply ByteArray.ext;simp
   rw[e,ih];simp[encB]
 have:=h L [];exact this
theorem wUC(w:World)(b off n cap:Nat)(L:List Nat)(hl:n=L.length)(hc:∀i,i<L.length→w.cell? ⟨b,off+i,none⟩=some (.int .i32 (L.getD i 0:Nat))) :
  (convert 78 9 (.slice (some ⟨b,off,none⟩) n cap)).run Tryz.prog w=.ok (.string (txt L)) w:=by
 have h:=run_convert_runes (P:=Tryz.prog) w 78 9 21 ⟨b,off,none⟩ n cap (L.map fun(r:Nat)=>(r:Int)) (by simp[hl]) Tryz.underlying78 Tryz.underlying21 Tryz.underlying9 (by intro j hj;simp only[List.length_map]at hj;rw[Addr.add_lit,hc j hj];simp[List.getD_eq_getElem?_getD,hj])
 rw[h,hl,mW (by simp),wUB]
def v7(r:Nat):Bool:=x8 r||r==44||r==59||r==10
def kS(s:ByteArray)(fr:Option Nat)(i:Nat):List (Nat×ByteArray):=match fr with|none=>[]|some a=>[(a,s.extract a i)]
def wds(s:ByteArray):Option Nat→List (Nat×Nat)→List (Nat×ByteArray)
 |fr,[]=>kS s fr s.size
 |fr,(i,r)::L=>if v7 r=true then kS s fr i++wds s none L else wds s (some (fr.getD i)) L
def zU(s:ByteArray):List (Nat×ByteArray):=wds s none (qN s 0)
theorem wM1(s:ByteArray)(pos:Nat)(hp:pos<s.size):pos+(Utf8.decode s pos).2≤s.size:=by
 have hsz:s.data.toList.length=s.size:=by rw[mN];rfl
 have hne:s.data.toList.drop pos≠[]:=by intro e;have:=fE.1 e;omega
 have hle:=Lib.decodeL_le _ hne;rw[Lib.decodeL_drop,dC]at hle;omega
def apw:Option (List Nat)→List Nat→List Nat→List (List Nat×List Nat)×List Nat
 |none,b,[]=>([],b)
 |some u,b,[]=>([(b,u)],[])
 |none,b,r::L=>if v7 r=true then apw none (b++[r]) L else apw (some [r]) b L
 |some u,b,r::L=>if v7 r=true then((b,u)::(apw none [r] L).1,(apw none [r] L).2)else apw (some (u++[r])) b L
def wPG(r:Nat):Bool:=r != 59&&r != 10
def wBH(b:List Nat):Nat:=b.count 44
def yC(b:List Nat):List (List Nat×Bool):=List.replicate (wBH b) ([],true)
def asm:List (List Nat×List Nat)→List Nat→List (List Nat×Bool)
 |[],e=>yC e
 |(b,u)::X,e=>yC b++(u,false)::asm X e
theorem wDD(r:Nat):v7 r=true↔(kindOf r=4∨r=44∨(r=59∨r=10)):=by
 unfold v7 kindOf zI jW x8 zY;simp only[Bool.or_eq_true,beq_iff_eq,Bool.and_eq_true,decide_eq_true_eq];constructor
 ·intro h;by_cases h1:r=45∨r=8722
  ·omega
  ·rw[if_neg h1];by_cases h2:(r=47∨r=8260)∨r=8725
   ·omega
   ·rw[if_neg h2];by_cases h3:((r=32∨r=9)∨r=160)∨r=8201
    ·rw[if_pos h3];omega
    ·omega
 ·intro h;rcases h with h|h|h
  ·by_cases h1:r=45∨r=8722
   ·rw[if_pos h1]at h;omega
   ·rw[if_neg h1]at h;by_cases h2:(r=47∨r=8260)∨r=8725
    ·rw[if_pos h2]at h;omega
    ·rw[if_neg h2]at h;by_cases h3:((r=32∨r=9)∨r=160)∨r=8201
     ·omega
     ·rw[if_neg h3]at h
      repeat' split at h
      all_goals omega
  ·omega
  ·omega
theorem qE0:kindOf 44=5:=by decide
theorem kind_5(r:Nat)(h:kindOf r=5):r=44:=by
 unfold kindOf at h
 repeat' split at h
 all_goals first|assumption|omega
theorem qJH(b:List Nat)(r:Nat):wBH (b++[r])=wBH b+if r=44 then 1 else 0:=by
 unfold wBH;rw[List.count_append,List.count_singleton];by_cases h:r=44
 ·simp[h]
 ·simp[h]
theorem wS1(b:List Nat)(r:Nat):yC (b++[r])=yC b++if r=44 then[([],true)]else[]:=by
 unfold yC;rw[qJH];by_cases h:r=44
 ·rw[if_pos h,if_pos h,List.replicate_succ']
 ·rw[if_neg h,if_neg h];simp
theorem wDG:∀(L:List Nat)(fr:Option (List Nat))(b:List Nat),(∀r,r∈L→wPG r=true)→
  yC b++qW fr L=asm (apw fr b L).1 (apw fr b L).2
 |[],none,b,_=>by simp[qW,j5,apw,asm]
 |[],some u,b,_=>by simp[qW,j5,apw,asm,yC,wBH]
 | r :: L,none,b,h=>by
  have hr:=h r (pQ ..);have hL:∀r,r∈L→wPG r=true:=fun r hr=>h r (pO _ hr);have hs:=wDD r;rw[qW,apw];by_cases h4:kindOf r=4
  ·have h44:r≠44:=by intro e;rw[e]at h4;exact absurd h4 (by decide)
   rw[if_pos h4,if_pos (hs.2 (.inl h4)),←wDG L none _ hL,wS1,if_neg h44];simp[j5]
  ·rw[if_neg h4];by_cases h5:kindOf r=5
   ·have h44:=kind_5 r h5;rw[if_pos h5,if_pos (hs.2 (.inr (.inl h44))),←wDG L none _ hL,wS1,if_pos h44];simp[j5]
   ·have hns:¬v7 r=true:=by
     intro e;rcases hs.1 e with h|h|h
     ·exact h4 h
     ·rw[h]at h5;exact h5 qE0
     ·simp[wPG]at hr;omega
    rw[if_neg h5,if_neg hns,←wDG L (some [r]) b hL];rfl
 | r :: L,some u,b,h=>by
  have hr:=h r (pQ ..);have hL:∀r,r∈L→wPG r=true:=fun r hr=>h r (pO _ hr);have hs:=wDD r;rw[qW,apw];have h1:=wDG L none [r] hL;by_cases h4:kindOf r=4
  ·have h44:r≠44:=by intro e;rw[e]at h4;exact absurd h4 (by decide)
   rw[if_pos h4,if_pos (hs.2 (.inl h4))];have hc:yC [r]=[]:=by simp[yC,wBH,h44]
   rw[hc]at h1;simp only[j5,asm,List.cons_append,List.nil_append];rw[←h1];rfl
  ·rw[if_neg h4];by_cases h5:kindOf r=5
   ·have h44:=kind_5 r h5;rw[if_pos h5,if_pos (hs.2 (.inr (.inl h44)))];have hc:yC [r]=[([],true)]:=by simp[yC,wBH,h44]
    rw[hc]at h1;simp only[j5,asm,List.cons_append,List.nil_append];rw[←h1];rfl
   ·have hns:¬v7 r=true:=by
     intro e;rcases hs.1 e with h|h|h
     ·exact h4 h
     ·rw[h]at h5;exact h5 qE0
     ·simp[wPG]at hr;omega
    rw[if_neg h5,if_neg hns,←wDG L (some (u++[r])) b hL];rfl
def rb(s:ByteArray)(a i:Nat):List Nat:=qS ((s.data.toList.drop a).take (i-a))
theorem wV2(s:ByteArray)(a i:Nat):wD (s.extract a i)=rb s a i:=by rw[vU,wJC];rfl
theorem wJ8(s:ByteArray)(a:Nat):rb s a a=[]:=by simp[rb,wUD]
theorem rb_snoc(s:ByteArray)(a pos:Nat)(ha:a≤pos)(h:pos<s.size)(hb:Bd (s.data.toList.drop a) (pos-a)) :
  rb s a (pos+(Utf8.decode s pos).2)=rb s a pos++[(Utf8.decode s pos).1]∧Bd (s.data.toList.drop a) (pos+(Utf8.decode s pos).2-a):=by
 have hsz:s.data.toList.length=s.size:=by rw[mN];rfl
 have hne:s.data.toList.drop pos≠[]:=by intro e;have:=fE.1 e;omega
 obtain⟨wd,hwd⟩:∃wd,(Utf8.decode s pos).2=wd:=⟨_,rfl⟩
 obtain⟨r,hr⟩:∃r,(Utf8.decode s pos).1=r:=⟨_,rfl⟩
 rw[hwd,hr];have hd:(s.data.toList.drop a).drop (pos-a)=s.data.toList.drop pos:=by rw[mQ,pC5 ha]
 have h3:=hb.snoc (by rw[hd];exact hne);have h4:=hb.split;have h5:=h3.split;rw[hd,Lib.decodeL_drop,hwd]at h3 h5;rw[hd]at h4;rw[show pos-a+wd=pos+wd-a by omega]at h3 h5;refine⟨?_,h3⟩;have h6:qS (s.data.toList.drop pos)=r::qS ((s.data.toList.drop a).drop (pos+wd-a)):=by rw[zP _ hne,Lib.decodeL_drop,hwd,hr,mQ,mQ,show a+(pos+wd-a)=pos+wd by omega]
 rw[h6]at h4;rw[h4]at h5;have h7:qS ((s.data.toList.drop a).take (pos-a))++[r]++qS ((s.data.toList.drop a).drop (pos+wd-a))=qS ((s.data.toList.drop a).take (pos+wd-a))++qS ((s.data.toList.drop a).drop (pos+wd-a)):=by rw[←h5];simp
 exact(pA0 h7).symm
def seg(s:ByteArray):Nat→List (Nat×ByteArray)→List (List Nat×List Nat)×List Nat
 |last,[]=>([],rb s last s.size)
 |last,(at_,w)::r=>((rb s last at_,wD w)::(seg s (at_+w.size) r).1,(seg s (at_+w.size) r).2)
def wM3(s:ByteArray):Nat→List (Nat×ByteArray)→Prop
 |last,[]=>last≤s.size
 |last,(at_,w)::r=>last≤at_∧at_+w.size≤s.size∧w=s.extract at_ (at_+w.size)∧wM3 s (at_+w.size) r
theorem seg_wds(s:ByteArray):∀(n pos:Nat)(fr:Option Nat)(last:Nat),s.size-pos=n→pos≤s.size→last≤pos→Bd (s.data.toList.drop last) ((fr.getD pos)-last)→
  (∀a,fr=some a→last≤a∧a≤pos∧Bd (s.data.toList.drop a) (pos-a))→
  seg s last (wds s fr (qN s pos))=apw (fr.map fun a=>rb s a pos) (rb s last (fr.getD pos)) (zR s pos)∧wM3 s last (wds s fr (qN s pos)):=by
 intro n
 induction n using Nat.strongRecOn with
 | ind n ih=>
  intro pos fr last hn hp hlp hbl hfr;by_cases h:pos<s.size
  ·have hw:=qD s pos;have hen:=wM1 s pos h;rw[jY s pos h,zX s pos h,wds];obtain⟨wd,hwd⟩:∃wd,(Utf8.decode s pos).2=wd:=⟨_,rfl⟩
   obtain⟨r,hr⟩:∃r,(Utf8.decode s pos).1=r:=⟨_,rfl⟩
   have sn:=fun a ha hb=>rb_snoc s a pos ha h hb;rw[hwd,hr]at sn;rw[hwd]at hw hen ⊢;rw[hr];cases fr with
   | none=>
    simp only[Option.getD_none]at hbl;simp only[Option.map_none,Option.getD_none];rw[apw];obtain⟨s1,s2⟩:=sn last hlp hbl;by_cases hs:v7 r=true
    ·rw[if_pos hs,if_pos hs];have:=ih (s.size-(pos+wd)) (by omega) (pos+wd) none last rfl hen (by omega) (by simpa using s2) (by simp);simp only[Option.map_none,Option.getD_none,s1]at this;simpa[kS]using this
    ·rw[if_neg hs,if_neg hs];obtain⟨s3,s4⟩:=sn pos (pC _) (by rw[fX];exact Bd.zero _);rw[wJ8,mF]at s3;have:=ih (s.size-(pos+wd)) (by omega) (pos+wd) (some pos) last rfl hen (by omega) (by simpa using hbl) (by
      intro a ha;simp only[Option.some.injEq]at ha;subst ha;exact⟨hlp,by omega,s4⟩)
     simp only[Option.map_some,Option.getD_some,s3]at this;exact this
   | some a=>
    obtain⟨h1,h2,h3⟩:=hfr a rfl;simp only[Option.getD_some]at hbl;simp only[Option.map_some,Option.getD_some];rw[apw];obtain⟨s1,s2⟩:=sn a h2 h3;by_cases hs:v7 r=true
    ·rw[if_pos hs,if_pos hs];obtain⟨s3,s4⟩:=sn pos (pC _) (by rw[fX];exact Bd.zero _);rw[wJ8,mF]at s3;have:=ih (s.size-(pos+wd)) (by omega) (pos+wd) none pos rfl hen (by omega) (by simpa using s4) (by simp);simp only[Option.map_none,Option.getD_none,s3]at this;have hz:a+(s.extract a pos).size=pos:=by simp[ByteArray.size_extract];omega
     simp only[kS,List.cons_append,List.nil_append,seg,wM3,hz,this.1,wV2];exact⟨trivial,h1,by omega,trivial,this.2⟩
    ·rw[if_neg hs,if_neg hs];have:=ih (s.size-(pos+wd)) (by omega) (pos+wd) (some a) last rfl hen (by omega) (by simpa using hbl) (by
      intro a' ha;simp only[Option.some.injEq]at ha;subst ha;exact⟨h1,by omega,s2⟩)
     simp only[Option.map_some,Option.getD_some,s1]at this;exact this
  ·have hpe:pos=s.size:=by omega
   rw[vV s pos h,z7 s pos h,wds];cases fr with
   |none=>simp only[kS,seg,wM3,Option.map_none,Option.getD_none,apw,hpe];exact⟨trivial,by omega⟩
   |some a=>
    obtain⟨h1,h2,h3⟩:=hfr a rfl;have hz:a+(s.extract a s.size).size=s.size:=by simp[ByteArray.size_extract];omega
    simp only[kS,seg,wM3,Option.map_some,Option.getD_some,apw,hz,wV2,wJ8,hpe];exact⟨trivial,h1,pC _,trivial,pC _⟩
theorem wZG(s:ByteArray):seg s 0 (zU s)=apw none [] (wD s)∧wM3 s 0 (zU s):=by have:=seg_wds s _ 0 none 0 rfl (pG _) (pC _) (by simpa using Bd.zero _) (by simp);simp only[Option.map_none,Option.getD_none,wJ8]at this;exact this
def lastOf(pre:List (Nat×ByteArray)):Nat:=pre.foldl (fun _ x=>x.1+x.2.size) 0
theorem qJJ(s:ByteArray):∀(pre:List (Nat×ByteArray))(last:Nat)(x:Nat×ByteArray)(r:List (Nat×ByteArray)),wM3 s last (pre++x::r)→(pre.foldl (fun _ x=>x.1+x.2.size) last)≤x.1∧x.1+x.2.size≤s.size
 |[],last,(a,w),r,h=>by obtain⟨h1,h2,_,_⟩:=h;exact⟨h1,h2⟩
 |(b,v)::pre,last,x,r,h=>by obtain⟨_,_,_,h4⟩:=h;exact qJJ s pre (b+v.size) x r h4
theorem words_at(s:ByteArray)(pre:List (Nat×ByteArray))(x:Nat×ByteArray)(h:pre++[x] <+: zU s):lastOf pre≤x.1∧x.1+x.2.size≤s.size:=by obtain⟨t,ht⟩:=h;have:=(wZG s).2;rw[←ht,cN]at this;exact qJJ s pre 0 x t this
set_option maxRecDepth 100000 in
theorem wX7(n b0 b1 b2 b3:Nat)(h0:128≤b0)(hb:b0<256):128≤(Lib.decodeN n b0 b1 b2 b3).1∧(2≤(Lib.decodeN n b0 b1 b2 b3).2→128≤b1∧1<n)∧(3≤(Lib.decodeN n b0 b1 b2 b3).2→128≤b2∧2<n)∧(4≤(Lib.decodeN n b0 b1 b2 b3).2→128≤b3∧3<n)∧(Lib.decodeN n b0 b1 b2 b3).2≤4:=by
 unfold Lib.decodeN
 repeat' split
 all_goals (refine⟨?_,?_,?_,?_,?_⟩<;>first|omega|(intro h;first|omega|(simp only at h;omega))|(simp only;omega))
theorem wOB(l:List UInt8)(hne:l≠[])(h0:128≤(l.getD 0 0).toNat):128≤(Lib.decodeL l).1∧∀b,b∈l.take (Lib.decodeL l).2→128≤b.toNat:=by
 have hb:=UInt8.toNat_lt (l.getD 0 0);rw[Lib.decodeL_N];obtain⟨k1,k2,k3,k4,k5⟩:=wX7 l.length (l.getD 0 0).toNat (l.getD 1 0).toNat (l.getD 2 0).toNat (l.getD 3 0).toNat h0 (by omega);refine⟨k1,fun b hb=>?_⟩;obtain⟨i,hi,rfl⟩:=pC1.1 hb;simp only[List.length_take]at hi;rw[List.getElem_take];have hg:∀j,l.getD j 0=if h:j<l.length then l[j]else 0:=fun j=>by
  rw[pJ];split
  ·rename_i h;rw[pK h];rfl
  ·rename_i h;rw[fA (by omega)];rfl
 have hgi:=hg i;rw[dif_pos (by omega)]at hgi;rw[←hgi]
 match i,hi with
 |0,_=>exact h0
 |1,_=>exact(k2 (by omega)).1
 |2,_=>exact(k3 (by omega)).1
 |3,_=>exact(k4 (by omega)).1
 |i+4,_=>omega
theorem qJF(b:UInt8)(t:List UInt8)(h:b.toNat<128):Lib.decodeL (b::t)=(b.toNat,1):=by rw[Lib.decodeL_N];simp only[List.getD_cons_zero];unfold Lib.decodeN;rw[if_pos h]
theorem wB7(b:UInt8)(t:List UInt8)(h:b.toNat<128):qS (b::t)=b.toNat::qS t:=by rw[zP _ (by simp),qJF b t h];rfl
theorem wF8(p:Nat→Bool):∀(L cur:List Nat),∃c cs,wR p L=c::cs∧(qG p cur L).1++[(qG p cur L).2]=(cur++c)::cs
 |[],cur=>⟨[],[],rfl,by simp[qG]⟩
 | r::L,cur=>by
  by_cases h:p r=true
  ·have e:wR p (r::L)=[]::wR p L:=by unfold wR;rw[kY,if_pos h];simp
   refine⟨[],wR p L,e,?_⟩;rw[kY,if_pos h];simp[wR]
  ·obtain⟨c,cs,h1,h2⟩:=wF8 p L [r];obtain⟨c',cs',h3,h4⟩:=wF8 p L (cur++[r]);rw[h1]at h3;cases h3;refine⟨r::c,cs,?_,?_⟩
   ·unfold wR;rw[kY,if_neg h];exact h2
   ·rw[kY,if_neg h,h4];simp
theorem wV4{p:Nat→Bool}{r:Nat}(L:List Nat)(h:p r=true):wR p (r::L)=[]::wR p L:=by unfold wR;rw[kY,if_pos h];simp
theorem wPE{p:Nat→Bool}{r:Nat}{L c:List Nat}{cs:List (List Nat)}(h:¬p r=true)(e:wR p L=c::cs):wR p (r::L)=(r::c)::cs:=by obtain⟨c',cs',h1,h2⟩:=wF8 p L [r];rw[e]at h1;cases h1;unfold wR;rw[kY,if_neg h];exact h2
theorem wC9(p:Nat→Bool):∀(L c:List Nat),c∈wR p L→∀r,r∈c→p r=false
 |[],c,h,r,hr=>by simp only[wR,qG,List.foldl_nil,List.nil_append,List.mem_singleton]at h;rw[h]at hr;cases hr
 | x::L,c,h,r,hr=>by
  by_cases hp:p x=true
  ·rw[wV4 L hp]at h;rcases pS.1 h with rfl|h
   ·cases hr
   ·exact wC9 p L c h r hr
  ·obtain⟨d,ds,e,_⟩:=wF8 p L [];rw[wPE hp e]at h;rcases pS.1 h with rfl|h
   ·rcases pS.1 hr with rfl|hr
    ·simpa using hp
    ·exact wC9 p L d (by rw[e];exact pQ ..) r hr
   ·exact wC9 p L c (by rw[e];exact pO _ h) r hr
def wD6(p:UInt8→Bool):List UInt8→List (List UInt8)
 |[]=>[[]]
 |b::l=>if p b=true then[]::wD6 p l else match wD6 p l with|[]=>[[b]]|c::cs=>(b::c)::cs
def endB(b:UInt8):Bool:=b==59||b==10
def semiB(b:UInt8):Bool:=b==59
theorem wB1(p:UInt8→Bool):∀l,∃c cs,wD6 p l=c::cs∧c=l.take c.length∧c.length≤l.length
 |[]=>⟨[],[],rfl,rfl,pC _⟩
 |b::l=>by
  obtain⟨c,cs,e,h1,h2⟩:=wB1 p l;rw[wD6];by_cases h:p b=true
  ·rw[if_pos h];exact⟨[],_,rfl,rfl,pG _⟩
  ·rw[if_neg h,e];refine⟨b::c,cs,rfl,?_,by simpa using h2⟩;rw[pM,pC3,←h1]
theorem wIC{p:UInt8→Bool}{b:UInt8}{l c:List UInt8}{cs:List (List UInt8)}(h:¬p b=true)(e:wD6 p l=c::cs):wD6 p (b::l)=(b::c)::cs:=by rw[wD6,if_neg h,e]
theorem wCJ{p:UInt8→Bool}{b:UInt8}(l:List UInt8)(h:p b=true):wD6 p (b::l)=[]::wD6 p l:=by rw[wD6,if_pos h]
theorem cut_run{p:UInt8→Bool}{l c:List UInt8}{cs:List (List UInt8)}(e:wD6 p l=c::cs):∀h:List UInt8,(∀b,b∈h→¬p b=true)→wD6 p (h++l)=(h++c)::cs
 |[],_=>e
 |b::h,hh=>wIC (hh b (pQ ..)) (cut_run e h fun x hx=>hh x (pO _ hx))
theorem end_low{b:UInt8}(h:endB b=true):b.toNat<128:=by simp only[endB,Bool.or_eq_true,beq_iff_eq]at h;rcases h with rfl|rfl<;>decide
theorem end_nat(b:UInt8):zH b.toNat=endB b:=by
 have h:∀c:UInt8,(b.toNat==c.toNat)=(b==c):=fun c=>by rw[bH,beq_iff_eq,beq_iff_eq];exact UInt8.toNat_inj
 show((b.toNat==(59:UInt8).toNat)||(b.toNat==(10:UInt8).toNat))=_;rw[h,h];rfl
theorem wQA:∀(n:Nat)(l:List UInt8),l.length≤n→(wD6 endB l).map qS=wR zH (qS l)
 |_,[],_=>rfl
 |0,b::l,h=>by simp at h
 | n+1,b::l,h=>by
  by_cases hb:b.toNat<128
  ·have ih:=wQA n l (by simp at h;omega);rw[wB7 b l hb];by_cases he:endB b=true
   ·rw[wCJ l he,wV4 _ (by rw[end_nat];exact he),←ih];rfl
   ·obtain⟨c,cs,e,_,_⟩:=wB1 endB l;rw[e]at ih;rw[wIC he e,wPE (by rw[end_nat];exact he) ih.symm,mE,wB7 b c hb]
  ·have h0:128≤((b::l).getD 0 0).toNat:=by simpa using by omega
   have hne:b::l≠[]:=by simp
   obtain⟨k1,k2⟩:=wOB _ hne h0;have hp:=y6 (b::l);have hle:=Lib.decodeL_le _ hne;obtain⟨t,ht⟩:∃t,b::l=t:=⟨_,rfl⟩
   rw[ht]at h hne k1 k2 hp hle ⊢;obtain⟨wd,hwd⟩:∃wd,(Lib.decodeL t).2=wd:=⟨_,rfl⟩
   obtain⟨r,hr⟩:∃r,(Lib.decodeL t).1=r:=⟨_,rfl⟩
   have hst:=zP t hne;rw[hwd]at hp hle k2;rw[hwd,hr]at hst;rw[hr]at k1;have ih:=wQA n (t.drop wd) (by rw[dC];omega);obtain⟨c,cs,e,hc1,hc2⟩:=wB1 endB (t.drop wd);have hcut:=cut_run e (t.take wd) fun x hx hx2=>by have:=k2 x hx;have:=end_low hx2;omega
   rw[bJ]at hcut;rw[e]at ih;have hnr:¬zH r=true:=by simp only[zH,Bool.or_eq_true,beq_iff_eq];omega
   rw[dC]at hc2;have hpre:t.take wd++c=t.take (wd+c.length):=by rw[List.take_add];exact congrArg _ hc1
   have hd:=wG6 t (wd+c.length) (by omega) (by omega) (by omega);have hne2:t.take wd++c≠[]:=by intro e2;have:=congrArg List.length e2;rw[pX,mG,mK]at this;omega
   have hx:qS (t.take wd++c)=r::qS c:=by rw[zP _ hne2,hpre,hd,hwd,hr,←hpre,fI (by rw[mG];omega),mP (by rw[mG];omega),mF]
   rw[hcut,hst,wPE hnr ih.symm,mE,hx]
theorem wK8{b c:UInt8}(s:List UInt8)(h:b≠c):Lib.index (b::s) [c]=if Lib.index s [c] == -1 then -1 else Lib.index s [c]+1:=by
 have hp:([c]:List UInt8).isPrefixOf (b::s)=false:=by simp[List.isPrefixOf,Ne.symm h]
 rw[Lib.index,hp];simp
theorem wK9(c:UInt8)(s:List UInt8):Lib.index (c::s) [c]=((0:Nat):Int):=by rw[Lib.index];simp[List.isPrefixOf]
def putB(c:UInt8)(new:List UInt8)(b:UInt8):List UInt8:=if b=c then new else[b]
theorem wF4(c:UInt8)(new:List UInt8):∀(k:Nat)(s:List UInt8),Lib.count s [c]=k→Lib.replaceK [c] new k s=s.flatMap (putB c new)
 |k,[],h=>by
  have:Lib.index ([]:List UInt8) [c] = -1:=by simp[Lib.index]
  cases k with
  |zero=>rfl
  |succ k=>rw[Lib.replaceK,this];rfl
 | k,b::s,h=>by
  by_cases hb:b=c
  ·subst hb;rw[Lib.count_cons_eq]at h;obtain⟨k,rfl⟩:∃j,k=j+1:=⟨k-1,by omega⟩
   rw[Lib.replaceK_hit _ _ _ _ 0 (wK9 b s)];have:=wF4 b new k s (by omega);simp only[List.take_zero,List.nil_append,List.length_cons,List.length_nil,Nat.zero_add,List.drop_succ_cons,List.drop_zero,List.flatMap_cons];rw[this];simp[putB]
  ·rw[Lib.count_cons_ne b c s hb]at h;have ih:=wF4 c new k s h;rw[pA5,←ih];have hs:putB c new b=[b]:=by simp[putB,hb]
   rw[hs];have hix:=wK8 s hb;cases k with
   |zero=>simp[Lib.replaceK]
   |succ k=>
    obtain⟨i,hi⟩:=Lib.index_of_count (s:=s) (old:=[c]) (by omega);have hm:¬(Lib.index s [c] == -1)=true:=fun e=>by have:=beq_iff_eq.1 e;omega
    rw[if_neg hm,hi]at hix;have hix':Lib.index (b::s) [c]=((i+1:Nat):Int):=by rw[hix];omega
    rw[Lib.replaceK_hit _ _ _ _ _ hix',Lib.replaceK_hit _ _ _ _ _ hi];simp[Nat.add_right_comm]
theorem wHD(s:List UInt8):Lib.replaceAll s [10] [59]=s.flatMap (putB 10 [59]):=by unfold Lib.replaceAll Lib.replace Lib.replaceNum;rw[if_neg (by decide),if_pos (.inl (by decide))];exact wF4 10 [59] _ s rfl
theorem put_len(s:List UInt8):(s.flatMap (putB 10 [59])).length=s.length:=by
 induction s with
 |nil=>rfl
 |cons b s ih=>
  have:(putB 10 [59] b).length=1:=by unfold putB;split<;>rfl
  rw[pA5,pX,this,ih,pM];omega
theorem cut_put:∀s,wD6 semiB (s.flatMap (putB 10 [59]))=wD6 endB s
 |[]=>rfl
 | b::s=>by
  have ih:=cut_put s;rw[pA5];by_cases h:b=10
  ·subst h
   have:putB 10 [59] 10=[59]:=rfl
   rw[this,gK,wCJ _ rfl,wCJ _ rfl,ih]
  ·have e:putB 10 [59] b=[b]:=by simp[putB,h]
   rw[e,gK];by_cases h2:b=59
   ·subst h2;rw[wCJ _ rfl,wCJ _ rfl,ih]
   ·obtain⟨c,cs,e2,_⟩:=wB1 endB s;rw[wIC (by simp[semiB,h2]) (ih.trans e2),wIC (by simp[endB,h,h2]) e2]
theorem wL1:∀(k:Nat)(s:List UInt8),Lib.count s [59]=k→Lib.splitK [59] 0 k s=wD6 semiB s
 |k,[],h=>by
  have:Lib.index ([]:List UInt8) [59] = -1:=by simp[Lib.index]
  cases k with
  |zero=>rfl
  |succ k=>rw[Lib.splitK,this];rfl
 | k,b::s,h=>by
  by_cases hb:b=59
  ·subst hb;rw[Lib.count_cons_eq]at h;obtain⟨k,rfl⟩:∃j,k=j+1:=⟨k-1,by omega⟩
   rw[Lib.splitK,wK9,if_neg (by decide),wCJ _ rfl,←wL1 k s (by omega)];rfl
  ·rw[Lib.count_cons_ne b 59 s hb]at h;have ih:=wL1 k s h;have hix:=wK8 s hb;have hn:¬semiB b=true:=by simp[semiB,hb]
   cases k with
   |zero=>rw[wIC hn ih.symm];rfl
   |succ k=>
    obtain⟨i,hi⟩:=Lib.index_of_count (s:=s) (old:=[59]) (by omega);have hm:¬(Lib.index s [59] == -1)=true:=fun e=>by have:=beq_iff_eq.1 e;omega
    rw[if_neg hm,hi]at hix;rw[Lib.splitK,hi,if_neg (by rw[←hi];exact hm)]at ih;rw[Lib.splitK,hix,if_neg (fun e=>by have:=beq_iff_eq.1 e;omega),wIC hn ih.symm];have e1:((i:Int)+1).toNat=i+1:=by omega
    rw[e1];simp[Nat.add_right_comm]
def wI7(s:ByteArray):List ByteArray:=Lib.splitB ⟨#[59]⟩ 0 (Lib.countB ⟨(Lib.replaceAll s.data.toList [10] [59]).toArray⟩ ⟨#[59]⟩) ⟨(Lib.replaceAll s.data.toList [10] [59]).toArray⟩
theorem wQ0(s:ByteArray):(wI7 s).map (·.data.toList)=wD6 endB s.data.toList:=by unfold wI7;rw[Lib.splitB_data,wHD,←cut_put];exact wL1 _ _ rfl
theorem wRD(s:ByteArray):(wI7 s).map wD=wR zH (wD s):=by rw[vU,←wQA _ _ (pC _),←wQ0,bB];exact bG fun t _=>vU t
theorem qF0(p:UInt8→Bool):∀s,∀c,c∈wD6 p s→c.length≤s.length
 |[],c,h=>by simp only[wD6,List.mem_singleton]at h;rw[h];exact pC _
 | b::s,c,h=>by
  by_cases hb:p b=true
  ·rw[wCJ s hb]at h;rcases pS.1 h with rfl|h
   ·exact pG _
   ·have:=qF0 p s c h;rw[pM];omega
  ·obtain⟨d,ds,e,_⟩:=wB1 p s;rw[wIC hb e]at h;have hd:=qF0 p s;rw[e]at hd;rcases pS.1 h with rfl|h
   ·have:=hd d (pQ ..);simpa using this
   ·have:=hd c (pO _ h);rw[pM];omega
theorem lines_size(s t:ByteArray)(h:t∈wI7 s):t.size≤s.size:=by
 have h1:t.data.toList∈wD6 endB s.data.toList:=by rw[←wQ0];exact pR.2 ⟨t,h,rfl⟩
 have:=qF0 endB _ _ h1;rw[mN,mN]at this;exact this
theorem cut_len(p:UInt8→Bool):∀s,(wD6 p s).length≤s.length+1
 |[]=>pC _
 |b::s=>by
  have:=cut_len p s;by_cases hb:p b=true
  ·rw[wCJ s hb,pM,pM];omega
  ·obtain⟨d,ds,e,_⟩:=wB1 p s;rw[wIC hb e];rw[e]at this;simp only[List.length_cons]at this ⊢;omega
theorem lines_len(s:ByteArray):(wI7 s).length≤s.size+1:=by
 have h:=congrArg List.length (wQ0 s);have:=cut_len endB s.data.toList;rw[pF]at h;have e:s.data.toList.length=s.size:=by rw[mN];rfl
 omega
theorem wF1(b:UInt8)(hb:b.toNat<128)(t:List UInt8):∀(n:Nat)(a:List UInt8),a.length≤n→qS (a++b::t)=qS a++b.toNat::qS t
 |_,[],_=>wB7 b t hb
 |0,x::a,h=>by simp at h
 | n+1,x::a,h=>by
  by_cases hx:x.toNat<128
  ·rw[mR,wB7 x _ hx,wB7 x _ hx,wF1 b hb t n a (by simp at h;omega)];rfl
  ·have h0:128≤(((x::a)++b::t).getD 0 0).toNat:=by simpa using by omega
   obtain⟨A,hA⟩:∃A,x::a=A:=⟨_,rfl⟩
   have hne2:A≠[]:=by rw[←hA];simp
   rw[hA]at h h0 ⊢;have hne:A++b::t≠[]:=by simp
   obtain⟨_,k2⟩:=wOB _ hne h0;have hp:=y6 (A++b::t);obtain⟨wd,hwd⟩:∃wd,(Lib.decodeL (A++b::t)).2=wd:=⟨_,rfl⟩
   rw[hwd]at hp k2;have hle:wd≤A.length:=by refine pD8 fun hlt=>?_;have:=k2 b (pE (i:=A.length) (by rw[dA,if_pos hlt,cC (pC _),fX];rfl));omega
   have hd:=wG6 (A++b::t) A.length (by omega) (cK.2 hne2) (by simp);rw[List.take_left]at hd;rw[zP _ hne,zP A hne2,hd,hwd,fI hle,wF1 b hb t n (A.drop wd) (by rw[dC];omega)];rfl
def CutR(A:List Nat):Prop:=∀X,qW none (A++X)=qW none A++qW none X
def wcn(P:List (List Nat×Bool)):Nat:=P.countP fun x=>!x.2
def sepK(r:Nat):Prop:=kindOf r=4∨kindOf r=5
theorem wJ1(P Q:List (List Nat×Bool)):wcn (P++Q)=wcn P+wcn Q:=pD3
theorem wC7(u:List Nat)(Q:List (List Nat×Bool)):wcn ((u,false)::Q)=wcn Q+1:=by simp[wcn]
theorem wTF(u:List Nat)(Q:List (List Nat×Bool)):wcn ((u,true)::Q)=wcn Q:=by simp[wcn]
theorem sep_sepK{r:Nat}(h:v7 r=true)(he:zH r=false):sepK r:=by
 simp only[zH,Bool.or_eq_false_iff,beq_eq_false_iff_ne]at he;rcases(wDD r).1 h with h|h|h
 ·exact .inl h
 ·rw[h];exact .inr qE0
 ·omega
theorem not_sep{r:Nat}(h:v7 r=false):kindOf r≠4∧kindOf r≠5:=by
 constructor
 ·intro e;rw[(wDD r).2 (.inl e)]at h;cases h
 ·intro e;rw[(wDD r).2 (.inr (.inl (kind_5 r e)))]at h;cases h
theorem qDA{r:Nat}(h:sepK r):∃Q,wcn Q=0∧∀fr X,qW fr (r::X)=j5 fr++(Q++qW none X):=by
 by_cases h4:kindOf r=4
 ·exact⟨[],rfl,fun fr X=>by rw[qW,if_pos h4];rfl⟩
 ·have h5:kindOf r=5:=h.resolve_left h4;exact⟨[([],true)],rfl,fun fr X=>by rw[qW,if_neg h4,if_pos h5];rfl⟩
theorem cutR_nil:CutR []:=fun X=>by simp[qW,j5]
theorem cutR_sep{A:List Nat}{r:Nat}(hA:CutR A)(h:sepK r):CutR (A++[r])∧wcn (qW none (A++[r]))=wcn (qW none A):=by
 obtain⟨Q,q0,q1⟩:=qDA h;have e:∀X,qW none ((A++[r])++X)=qW none A++(Q++qW none X):=fun X=>by rw[cN,hA,gK,q1];rfl
 have e0:=e [];have en:qW none []=[]:=rfl;rw[cG,en,cG]at e0;refine⟨fun X=>?_,?_⟩
 ·rw[e,e0,cN]
 ·rw[e0,wJ1,q0];rfl
theorem qH5:∀(W:List Nat),(∀r,r∈W→v7 r=false)→∀(u C:List Nat),(C=[]∨∃r t,C=r::t∧sepK r)→qW (some u) (W++C)=(u++W,false)::qW none C
 |[],_,u,C,hC=>by
  rw[mF,cG];rcases hC with rfl|⟨r,t,rfl,h⟩
  ·rfl
  ·obtain⟨Q,_,q1⟩:=qDA h;rw[q1,q1];rfl
 |r::W,h,u,C,hC=>by obtain⟨h4,h5⟩:=not_sep (h r (pQ ..));rw[mR,qW,if_neg h4,if_neg h5,qH5 W (fun x hx=>h x (pO _ hx)) _ C hC];simp
theorem wPC{W:List Nat}(hn:W≠[])(h:∀r,r∈W→v7 r=false){C:List Nat}(hC:C=[]∨∃r t,C=r::t∧sepK r):qW none (W++C)=(W,false)::qW none C:=by
 cases W with
 |nil=>exact absurd rfl hn
 |cons r W=>obtain⟨h4,h5⟩:=not_sep (h r (pQ ..));rw[mR,qW,if_neg h4,if_neg h5,qH5 W (fun x hx=>h x (pO _ hx)) _ C hC];rfl
theorem cutR_word{A W:List Nat}{r:Nat}(hA:CutR A)(hn:W≠[])(hW:∀r,r∈W→v7 r=false)(h:sepK r):CutR (A++W++[r])∧wcn (qW none (A++W++[r]))=wcn (qW none A)+1:=by
 obtain⟨Q,q0,q1⟩:=qDA h;have e:∀X,qW none ((A++W++[r])++X)=qW none A++((W,false)::(Q++qW none X)):=fun X=>by rw[cN,cN,hA,gK,wPC hn hW (.inr ⟨r,X,rfl,h⟩),q1];rfl
 have e0:=e [];have en:qW none []=[]:=rfl;rw[cG,en,cG]at e0;refine⟨fun X=>?_,?_⟩
 ·rw[e,e0];simp
 ·rw[e0,wJ1,wC7,q0]
structure GoodW(s:ByteArray)(x:Nat×ByteArray)(k:Nat):Prop where
 cut:CutR (rb s 0 x.1)
 cnt:wcn (qW none (rb s 0 x.1))=k
 ne:wD x.2≠[]
 no:∀r,r∈wD x.2→v7 r=false
 sum:wD s=rb s 0 x.1++(wD x.2++rb s (x.1+x.2.size) s.size)
 nxt:rb s (x.1+x.2.size) s.size=[]∨∃r t,rb s (x.1+x.2.size) s.size=r::t∧sepK r
 le:x.1+x.2.size≤s.size
theorem rb_end(s:ByteArray)(pos:Nat):rb s pos s.size=zR s pos:=by
 have hsz:s.data.toList.length=s.size:=by rw[mN];rfl
 rw[wP9];unfold rb;rw[mW (by rw[dC];omega)]
theorem qH2(s:ByteArray)(pos:Nat)(hb:Bd (s.data.toList.drop 0) (pos-0)):wD s=rb s 0 pos++zR s pos:=by have:=hb.split;rw[vU,wP9];unfold rb;simpa using this
def SeenW(s:ByteArray)(k pos:Nat):Option Nat→Prop
 |none=>CutR (rb s 0 pos)∧wcn (qW none (rb s 0 pos))=k
 |some a=>a≤pos∧Bd (s.data.toList.drop a) (pos-a)∧rb s 0 pos=rb s 0 a++rb s a pos∧CutR (rb s 0 a)∧wcn (qW none (rb s 0 a))=k∧rb s a pos≠[]∧∀r,r∈rb s a pos→v7 r=false
theorem SeenW.good{s:ByteArray}{k pos a:Nat}(h:SeenW s k pos (some a))(hp:pos≤s.size)(hb:Bd (s.data.toList.drop 0) (pos-0))(hn:zR s pos=[]∨∃r t,zR s pos=r::t∧sepK r):GoodW s (a,s.extract a pos) k:=by
 obtain⟨h1,_,h3,h4,h5,h6,h7⟩:=h;have hz:a+(s.extract a pos).size=pos:=by simp[ByteArray.size_extract];omega
 have hr:=wV2 s a pos;refine⟨h4,h5,by rw[hr];exact h6,by rw[hr];exact h7,?_,?_,by show a+(s.extract a pos).size≤_;omega⟩
 ·show _=rb s 0 a++(wD (s.extract a pos)++rb s (a+(s.extract a pos).size) s.size)
  rw[hz,hr,rb_end,←cN,←h3];exact qH2 s pos hb
 ·show rb s (a+(s.extract a pos).size) s.size=[]∨∃r t,rb s (a+(s.extract a pos).size) s.size=r::t∧sepK r;rw[hz,rb_end];exact hn
theorem wds_good(s:ByteArray)(hE:∀r,r∈wD s→zH r=false):∀(n pos:Nat)(fr:Option Nat)(k:Nat),s.size-pos=n→pos≤s.size→Bd (s.data.toList.drop 0) (pos-0)→SeenW s k pos fr→
  ∀(i:Nat)(x:Nat×ByteArray),(wds s fr (qN s pos))[i]? = some x→GoodW s x (k+i):=by
 intro n
 induction n using Nat.strongRecOn with
 | ind n ih=>
  intro pos fr k hn hp hb hs i x hx;by_cases h:pos<s.size
  ·have hw:=qD s pos;have hen:=wM1 s pos h;have hst:=zX s pos h;rw[jY s pos h,wds]at hx;obtain⟨wd,hwd⟩:∃wd,(Utf8.decode s pos).2=wd:=⟨_,rfl⟩
   obtain⟨r,hr⟩:∃r,(Utf8.decode s pos).1=r:=⟨_,rfl⟩
   have sn:=fun a ha hb=>rb_snoc s a pos ha h hb;rw[hwd,hr]at sn;rw[hwd,hr]at hst;rw[hwd]at hw hen hx;rw[hr]at hx;obtain⟨t1,t2⟩:=sn 0 (pG _) hb;have hin:=hE r (by rw[qH2 s pos hb,hst];simp);by_cases hsep:v7 r=true
   ·rw[if_pos hsep]at hx;have hk:=sep_sepK hsep hin;cases fr with
    |none=>obtain⟨c1,c2⟩:=cutR_sep hs.1 hk;rw[←t1]at c1 c2;exact ih _ (by omega) (pos+wd) none k rfl hen t2 ⟨c1,by rw[c2,hs.2]⟩ i x (by simpa[kS]using hx)
    | some a=>
     have hg:=SeenW.good hs hp hb (.inr ⟨r,_,hst,hk⟩);cases i with
     |zero=>simp only[kS,List.cons_append,List.getElem?_cons_zero,Option.some.injEq]at hx;rw[←hx];exact hg
     |succ i=>
      simp only[kS,List.cons_append,List.nil_append,List.getElem?_cons_succ]at hx;obtain⟨h1,h2,h3,h4,h5,h6,h7⟩:=hs;obtain⟨c1,c2⟩:=cutR_word h4 h6 h7 hk;rw[←h3,←t1]at c1 c2;have:=ih _ (by omega) (pos+wd) none (k+1) rfl hen t2 ⟨c1,by rw[c2,h5]⟩ i x hx
      rwa [show k+1+i=k+(i+1) by omega]at this
   ·rw[if_neg hsep]at hx;have hsf:v7 r=false:=by simpa using hsep
    cases fr with
    |none=>obtain⟨s3,s4⟩:=sn pos (pC _) (by rw[fX];exact Bd.zero _);rw[wJ8,mF]at s3;refine ih _ (by omega) (pos+wd) (some pos) k rfl hen t2 ⟨by omega,s4,?_,hs.1,hs.2,by rw[s3];simp,by rw[s3];simp[hsf]⟩ i x hx;rw[t1,s3]
    | some a=>
     obtain⟨h1,h2,h3,h4,h5,h6,h7⟩:=hs;obtain⟨s3,s4⟩:=sn a h1 h2;refine ih _ (by omega) (pos+wd) (some a) k rfl hen t2 ⟨by omega,s4,?_,h4,h5,by rw[s3];simp,fun y hy=>?_⟩ i x hx
     ·rw[t1,h3,s3,cN]
     ·rw[s3]at hy;rcases cB.1 hy with hy|hy
      ·exact h7 y hy
      ·rw[pP.1 hy];exact hsf
  ·have hpe:pos=s.size:=by omega
   have he:=z7 s pos h;rw[vV s pos h,wds]at hx;cases fr with
   |none=>simp[kS]at hx
   | some a=>
    have hg:=SeenW.good hs hp hb (.inl he);rw[hpe]at hg;cases i with
    |zero=>simp only[kS,List.getElem?_cons_zero,Option.some.injEq]at hx;rw[←hx];exact hg
    |succ i=>simp[kS]at hx
theorem words_good(s:ByteArray)(hE:∀r,r∈wD s→zH r=false)(i:Nat)(x:Nat×ByteArray)(h:(zU s)[i]? = some x):GoodW s x i:=by
 have:=wds_good s hE _ 0 none 0 rfl (pG _) (Bd.zero _) (by rw[SeenW,wJ8];exact⟨cutR_nil,rfl⟩) i x h
 rwa [cL]at this
theorem wZB(b:List Nat):wcn (yC b)=0:=by
 unfold yC wcn;rw[List.countP_eq_zero];intro x hx;rw[List.eq_of_mem_replicate hx]
 decide
theorem wc_asm:∀(X:List (List Nat×List Nat))(e:List Nat),wcn (asm X e)=X.length
 |[],e=>wZB e
 |(b,u)::X,e=>by rw[asm,wJ1,wZB,wC7,wc_asm X e];simp
theorem seg_len(s:ByteArray):∀(ws:List (Nat×ByteArray))(last:Nat),(seg s last ws).1.length=ws.length
 |[],_=>rfl
 |(a,w)::r,last=>by rw[seg,pM,seg_len s r,pM]
theorem qFB(s:ByteArray)(hE:∀r,r∈wD s→zH r=false):(zU s).length=wcn (qW none (wD s)):=by
 have h:=wDG (wD s) none [] fun r hr=>by have:=hE r hr;simp only[zH,Bool.or_eq_false_iff,beq_eq_false_iff_ne]at this;simp[wPG,this]
 have e:yC []=[]:=rfl;rw[e,mF]at h;rw[h,wc_asm,← (wZG s).1,seg_len]
def kC(s:ByteArray)(x:Nat×ByteArray):ByteArray:=s.extract 0 x.1++⟨#[48]⟩++s.extract (x.1+x.2.size) s.size
theorem wNG(s:ByteArray)(x:Nat×ByteArray):wD (kC s x)=rb s 0 x.1++48::rb s (x.1+x.2.size) s.size:=by rw[vU];unfold kC;rw[ByteArray.data_append,ByteArray.data_append,Array.toList_append,Array.toList_append,wJC,wJC,cN];exact wF1 48 (by decide) _ _ _ (pC _)
theorem nought_pcs{s:ByteArray}{x:Nat×ByteArray}{k:Nat}(g:GoodW s x k):∃PA PC,qW none (wD s)=PA++(wD x.2,false)::PC∧wcn PA=k∧qW none (wD (kC s x))=PA++([48],false)::PC:=by
 refine⟨qW none (rb s 0 x.1),qW none (rb s (x.1+x.2.size) s.size),?_,g.cnt,?_⟩
 ·rw[g.sum,g.cut,wPC g.ne g.no g.nxt]
 ·rw[wNG,g.cut,show(48::rb s (x.1+x.2.size) s.size)=[48]++rb s (x.1+x.2.size) s.size from rfl,wPC (by simp) (fun r hr=>by rw[pP.1 hr];decide) g.nxt]
theorem qHF{s:ByteArray}{x:Nat×ByteArray}{k:Nat}(g:GoodW s x k)(hE:∀r,r∈wD s→zH r=false):∀r,r∈wD (kC s x)→zH r=false:=by
 intro r hr;rw[wNG]at hr;rcases cB.1 hr with h|h
 ·exact hE r (by rw[g.sum];exact cR _ h)
 ·rcases pS.1 h with rfl|h
  ·rfl
  ·exact hE r (by rw[g.sum];exact cH _ (cH _ h))
theorem qHE{s:ByteArray}{x:Nat×ByteArray}{k:Nat}(g:GoodW s x k):(kC s x).size≤s.size:=by
 have h1:0<x.2.size:=by refine gD fun e=>g.ne ?_;exact z7 x.2 0 (by omega)
 have h2:=g.le;have h3:(⟨#[48]⟩:ByteArray).size=1:=rfl;unfold kC;rw[fB,fB,cM,cM];omega
def kD(u:List Nat):Nat:=(qK u).2.2.2
theorem wM2(u:List Nat):kD u=0∨kD u=4∨kD u=20:=by
 unfold kD qK
 repeat' split
 all_goals simp
def wG3(u:List Nat):List Nat:=if kD u=4 then[48]else u
def wLD(x:List Nat×Bool):List Nat×Bool:=if x.2=false then(wG3 x.1,false)else x
def wA2(u:List Nat):Bool:=kD u==4
def anyL(P:List (List Nat×Bool)):Bool:=P.any fun x=>!x.2&&wA2 x.1
theorem qF1:kD [48]=0:=by decide
theorem fixU_48:wG3 [48]=[48]:=by unfold wG3;rw[qF1];rfl
theorem wQ6(u:List Nat)(h:kD u≠4):wG3 u=u:=if_neg h
theorem wE7(u:List Nat):wLD (u,false)=(wG3 u,false):=rfl
theorem wLC(u:List Nat):wLD (u,true)=(u,true):=rfl
theorem wWC:∀(P:List (List Nat×Bool))(bad:Bool)(out:List Fr),(zK bad out P).2.2≠4→zK bad out (P.map wLD)=zK bad out P
 |[],_,_,_=>rfl
 |(u,true)::P,bad,out,h=>by
  rw[zK]at h;rw[mE,wLC,zK,zK];by_cases c:bad=true∨P=[]
  ·rw[if_pos c,if_pos (by simpa using c)]
  ·rw[if_neg c]at h;rw[if_neg c,if_neg (by simpa using c),wWC P true out h]
 | (u,false)::P,bad,out,h=>by
  rw[zK]at h;have hc:kD u≠4:=by intro e;have e2:(qK u).2.2.2=4:=e;rw[e2,if_pos (by decide)]at h;exact h rfl
  rw[mE,wE7,wQ6 u hc,zK,zK];by_cases c:(qK u).2.2.2≠0
  ·rw[if_pos c,if_pos c]
  ·rw[if_neg c]at h;rw[if_neg c,if_neg c,wWC P false _ h]
theorem wWD:∀(P:List (List Nat×Bool))(bad:Bool)(out:List Fr),(zK bad out P).2.2=4→∃P1 W P2,P=P1++(W,false)::P2∧(zK bad out P).2.1=out.length+wcn P1+1∧kD W=4
 |[],_,_,h=>by cases h
 |(u,true)::P,bad,out,h=>by
  rw[zK]at h ⊢;by_cases c:bad=true∨P=[]
  ·rw[if_pos c]at h;cases h
  ·rw[if_neg c]at h ⊢;obtain⟨P1,W,P2,rfl,h2,h3⟩:=wWD P true out h;exact⟨(u,true)::P1,W,P2,rfl,by rw[wTF];exact h2,h3⟩
 |(u,false)::P,bad,out,h=>by
  rw[zK]at h ⊢;by_cases c:(qK u).2.2.2≠0
  ·rw[if_pos c]at h ⊢;exact⟨[],u,P,rfl,rfl,h⟩
  ·rw[if_neg c]at h ⊢;obtain⟨P1,W,P2,rfl,h2,h3⟩:=wWD P false _ h;refine⟨(u,false)::P1,W,P2,rfl,?_,h3⟩;rw[wC7,h2,pX];simp;omega
theorem wU5:∀(P1 Q1:List (List Nat×Bool))(u v:List Nat)(P2 Q2:List (List Nat×Bool)),P1++(u,false)::P2=Q1++(v,false)::Q2→wcn P1=wcn Q1→P1=Q1∧u=v∧P2=Q2
 |[],[],u,v,P2,Q2,h,_=>by simp only[List.nil_append,List.cons.injEq,Prod.mk.injEq,and_true]at h;exact⟨rfl,h.1,h.2⟩
 |[],(x,b)::Q1,u,v,P2,Q2,h,hw=>by simp only[List.nil_append,List.cons_append,List.cons.injEq,Prod.mk.injEq]at h;obtain⟨⟨_,rfl⟩,_⟩:=h;rw[wC7]at hw;cases hw
 |(x,b)::P1,[],u,v,P2,Q2,h,hw=>by simp only[List.nil_append,List.cons_append,List.cons.injEq,Prod.mk.injEq]at h;obtain⟨⟨_,rfl⟩,_⟩:=h;rw[wC7]at hw;cases hw
 | (x,b)::P1,(y,c)::Q1,u,v,P2,Q2,h,hw=>by
  simp only[List.cons_append,List.cons.injEq,Prod.mk.injEq]at h;obtain⟨⟨rfl,rfl⟩,h⟩:=h;obtain⟨rfl,h2⟩:=wU5 P1 Q1 u v P2 Q2 h (by
   cases b
   ·rw[wC7,wC7]at hw;omega
   ·rw[wTF,wTF]at hw;exact hw)
  exact⟨rfl,h2⟩
def wRC(P:List (List Nat×Bool)):Nat:=P.countP fun x=>!x.2&&wA2 x.1
theorem longs_put(P1:List (List Nat×Bool))(W:List Nat)(P2:List (List Nat×Bool))(h:kD W=4):wRC (P1++([48],false)::P2)<wRC (P1++(W,false)::P2):=by
 have h1:wA2 [48]=false:=by unfold wA2;rw[qF1];rfl
 have h2:wA2 W=true:=by unfold wA2;rw[h];rfl
 unfold wRC;rw[pD3,pD3,List.countP_cons,List.countP_cons];simp[h1,h2]
theorem fix_put(P1:List (List Nat×Bool))(W:List Nat)(P2:List (List Nat×Bool))(h:kD W=4):(P1++([48],false)::P2).map wLD=(P1++(W,false)::P2).map wLD:=by have e:wG3 W=[48]:=if_pos h;rw[bQ,bQ,mE,mE,wE7,wE7,fixU_48,e]
theorem any_long(P1:List (List Nat×Bool))(W:List Nat)(P2:List (List Nat×Bool))(h:kD W=4):anyL (P1++(W,false)::P2)=true:=by
 have h2:wA2 W=true:=by unfold wA2;rw[h];rfl
 unfold anyL;simp[h2]
theorem wY2:∀(P:List (List Nat×Bool))(bad:Bool)(out:List Fr),(zK bad out P).2.2=0→anyL P=false
 |[],_,_,_=>rfl
 |(u,true)::P,bad,out,h=>by
  rw[zK]at h;by_cases c:bad=true∨P=[]
  ·rw[if_pos c]at h;cases h
  ·rw[if_neg c]at h;exact wY2 P true out h
 | (u,false)::P,bad,out,h=>by
  rw[zK]at h;by_cases c:(qK u).2.2.2≠0
  ·rw[if_pos c]at h;exact absurd h c
  ·rw[if_neg c]at h;have hu:wA2 u=false:=by
    have e:kD u=0:=pD6.1 c;unfold wA2;rw[e];rfl
   have:=wY2 P false _ h;unfold anyL at this ⊢;rw[pA8,this,hu];rfl
def y5(c:List Nat):List Fr×Nat×Nat:=zK true [] ((qW none c).map wLD)
def longR(c:List Nat):Bool:=anyL (qW none c)
theorem line_done{c c0:List Nat}(hP:(qW none c).map wLD=(qW none c0).map wLD)(h:(rowR c).2.2≠4):y5 c0=rowR c:=by
 unfold y5 rowR at *
 rw[←hP];exact wWC _ true [] h
theorem line_long{s:ByteArray}(hE:∀r,r∈wD s→zH r=false)(h:(rowR (wD s)).2.2=4):∃n x,(rowR (wD s)).2.1=n+1∧(zU s)[n]? = some x∧GoodW s x n∧anyL (qW none (wD s))=true ∧
  (qW none (wD (kC s x))).map wLD=(qW none (wD s)).map wLD∧wRC (qW none (wD (kC s x)))<wRC (qW none (wD s)):=by
 obtain⟨P1,W,P2,hP,hn,hW⟩:=wWD _ _ _ h;have hn:(rowR (wD s)).2.1=0+wcn P1+1:=hn;have hc:=qFB s hE;rw[hP,wJ1,wC7]at hc;obtain⟨x,hx⟩:∃x,(zU s)[wcn P1]? = some x:=⟨_,pK (by omega)⟩
 have g:=words_good s hE _ x hx;obtain⟨PA,PC,e1,e2,e3⟩:=nought_pcs g;obtain⟨rfl,rfl,rfl⟩:=wU5 P1 PA W _ P2 PC (hP.symm.trans e1) e2.symm;refine⟨wcn P1,x,by omega,hx,g,?_,?_,?_⟩
 ·rw[hP];exact any_long _ _ _ hW
 ·rw[e3,hP];exact fix_put _ _ _ hW
 ·rw[e3,hP];exact longs_put _ _ _ hW
def wGD:List (List Fr)→Bool→List (List Nat)→List (List Fr)×Bool×Bool
 |out,lg,[]=>(out,lg,false)
 |out,lg,c::cs=>if(y5 c).2.2≠0 then([],false,true)else wGD (out++[(y5 c).1]) (lg||longR c) cs
open Go.Shelf
attribute [local go_sem] Oper.semAt_some
abbrev TabLo(B:Nat):Prop:=1<B∧2<B
theorem Tabs.below{B:Nat}{w w':World}(h:Lib.Utf8Tabs 1 2 w)(hb:Below B w w')(hB:TabLo B):Lib.Utf8Tabs 1 2 w':=
 ⟨fun c hc=>(hb.cell (p:=⟨1,c,none⟩) hB.1).trans (h.1 c hc),fun i hi=>⟨(hb.cell (p:=⟨2,2*i,none⟩) hB.2).trans (h.2 i hi).1,(hb.cell (p:=⟨2,2*i+1,none⟩) hB.2).trans (h.2 i hi).2⟩⟩
set_option maxRecDepth 1000000 in
theorem wX6(s:ByteArray)(w:World)(hT:Lib.Utf8Tabs 1 2 w)(hpos:0<s.size) :
  Calls Tryz.prog 83 #[.string s] w fun e w'=>e=.returned (.tuple #[.int .i32 ((Utf8.decode s 0).1:Nat),.int .i64 ((Utf8.decode s 0).2:Nat)])∧Below w.heap.size w w':=by
 have cS:=Tryz.utf8_decodeRuneInStringSlow s w hT;have hg:Lib.decodeGo s=Utf8.decode s 0:=by unfold Lib.decodeGo;rw[if_neg (by omega)]
 rw[hg]at cS;obtain⟨R,hR⟩:∃R,(Utf8.decode s 0).1=R:=⟨_,rfl⟩
 obtain⟨K,hK⟩:∃K,(Utf8.decode s 0).2=K:=⟨_,rfl⟩
 rw[hR,hK]at cS ⊢;have CS:=hid cS;have hne:s.toList.isEmpty=false:=by
  rw[Lib.toList_data];cases h:s.data.toList with
  |nil=>exact absurd (by rw[Lib.size_eq,h];rfl) (show ¬s.size=0 by omega)
  |cons _ _=>rfl
 have hz0:(0:Int)<(s.size:Int):=by omega
 obtain⟨x0,hx0⟩:∃x0,s.get! 0=x0:=⟨_,rfl⟩
 have hs0:s[0]'(by omega)=x0:=by rw[←hx0];exact(Utf8W.get!_of_lt s 0 (by omega)).symm
 clear hT cS hg;by_cases ha:x0.toNat<128
 ·have haz:(x0.toNat:Int)<128:=by omega
  have hd:Utf8.decode s 0=(x0.toNat,1):=by rw[Lib.decode_at,hx0];simp[Lib.decodeN,ha]
  rw[hd]at hR hK;subst hR;subst hK;clear CS hd
  go_enter Tryz.func83,Tryz.ntmps83
  go_wp2
  go_ret2
  exact⟨rfl,Below.refl _ _⟩
 ·have haz:¬((x0.toNat:Int)<128):=by omega
  clear hR hK
  go_enter Tryz.func83,Tryz.ntmps83
  go_wp2_with fail
  refine CS.out.mono ?_;rintro e w' ⟨rfl,hb⟩
  go_wp2
  go_ret2
  exact⟨rfl,hb⟩
theorem sep_kind(r:Nat):v7 r=true↔(kindOf r=4∨kindOf r=5∨kindOf r=6):=by
 unfold v7 kindOf zI jW x8 zY;simp only[Bool.or_eq_true,beq_iff_eq,Bool.and_eq_true,decide_eq_true_eq];constructor
 ·intro h;by_cases h1:r=45∨r=8722
  ·exfalso;omega
  ·rw [if_neg h1];by_cases h2:(r=47∨r=8260)∨r=8725
   ·exfalso;omega
   ·rw[if_neg h2];by_cases h3:((r=32∨r=9)∨r=160)∨r=8201
    ·rw[if_pos h3];omega
    ·rw[if_neg h3];by_cases h4:r=44
     ·rw[if_pos h4];omega
     ·rw[if_neg h4];by_cases h5:r=59∨r=10
      ·rw[if_pos h5];omega
      ·exfalso;omega
 ·intro h;by_cases h1:r=45∨r=8722
  ·rw[if_pos h1]at h;omega
  ·rw [if_neg h1]at h;by_cases h2:(r=47∨r=8260)∨r=8725
   ·rw[if_pos h2]at h;omega
   ·rw[if_neg h2]at h;by_cases h3:((r=32∨r=9)∨r=160)∨r=8201
    ·omega
    ·rw[if_neg h3]at h;by_cases h4:r=44
     ·omega
     ·rw[if_neg h4]at h;by_cases h5:r=59∨r=10
      ·omega
      ·rw[if_neg h5]at h;split at h<;>omega
theorem qK4{w w':World}(h:Below w.heap.size w w'):w.grownBy w' none:=⟨h.os,h.tape,h.output,h.size,fun k hk _=>h.block k hk⟩
theorem tail_dec(s:ByteArray)(pos:Nat):Utf8.decode (s.extract pos s.size) 0=Utf8.decode s pos:=by
 have:=Lib.tail_decode s pos 0
 rwa [mJ]at this
attribute [local go_sem] Oper.semAt_some
def KpB(n0 Bs:Nat)(A B:World):Prop:=Below n0 A B∧B.heap[Bs]? = A.heap[Bs]?
theorem KpB.refl(n0 Bs:Nat)(A:World):KpB n0 Bs A A:=⟨Below.refl _ _,rfl⟩
theorem KpB.trans{n0 Bs:Nat}{A B C:World}(h:KpB n0 Bs A B)(k:KpB n0 Bs B C):KpB n0 Bs A C:=⟨h.1.trans k.1,k.2.trans h.2⟩
theorem KpB.of{n0 Bs:Nat}{A B:World}(h:Below A.heap.size A B)(hn:n0≤A.heap.size)(hB:Bs<A.heap.size):KpB n0 Bs A B:=⟨h.mono hn,h.block Bs hB⟩
set_option maxRecDepth 100000 in
theorem words1_inB(n:Nat)(hn:1≤n)(l Bs n0:Nat)(s:ByteArray)(hs:s.size≤400000000)(hn0:TabLo n0)(J Jx:List (Nat×ByteArray)→World→Prop)(W:World)(hBs:Bs<W.heap.size)(hnW:n0≤W.heap.size)(hJ:AbidesFrom W.heap.size J)(hY:∀pre x W1,J pre W1→pre.length<(zU s).length→pre++[x] <+: zU s→YieldAt Fence.wide (n-1) Tryz.prog l #[.int .i64 (x.1:Nat),.string x.2] W1 fun e W'=>
   (e=.returned (.bool true)∧J (pre++[x]) W'∧KpB n0 Bs W1 W')∨(e=.returned (.bool false)∧Jx (pre++[x]) W'))
  (hc:W.cell? ⟨Bs,0,none⟩=some (.string s)) (hT:Lib.Utf8Tabs 1 2 W) (h0:J [] W) :
  CallsIn Fence.wide n Tryz.prog 87 #[.func (.yield l) #[] #[],.pointer (some ⟨Bs,0,none⟩)] W fun e W'=>(∃v,e=.returned v) ∧
   ((∃ys,ys=zU s∧J ys W')∨(∃pre,pre <+: zU s∧Jx pre W')):=by
 obtain⟨P,hP⟩:∃P,zU s=P:=⟨_,rfl⟩
 have HP:=hid hP;rw[hP]at hY ⊢;have HY:=hid hY;have HT:=hid hT;have HJ:=hid hJ;have HC:=hid hc;clear hP hY hT hJ hc;refine callsIn_of_wp Tryz.func87 rfl trivial ?_ rfl;simp only[Tryz.ntmps87,List.size_toArray,List.length_cons,List.length_nil,Nat.reduceAdd,Nat.reduceSub,Array.replicate_succ,Array.replicate_zero,List.push_toArray,List.append_toArray,List.nil_append,List.cons_append]
 gi_wp2
 gi_loopw [3,4] (fun fv iv wr=>∃(pos:Nat)(fr:Option Nat)(pre:List (Nat×ByteArray)),iv=.int .i64 pos∧fv=.int .i64 (frI fr)∧pos≤s.size∧(∀a,fr=some a→a<pos)∧pre++wds s fr (qN s pos)=P∧J pre wr∧KpB n0 Bs W wr)
  (fun _ iv _=>s.size-(RowKit.intOf iv).toNat)
 case atStart=>exact⟨0,none,[],rfl,rfl,pG _,by simp,by rw[←HP.out];rfl,h0,KpB.refl _ _ _⟩
 case round=>
  obtain⟨pos,fr,pre,rfl,rfl,hps,hfr,hpc,hJs,hnx⟩:=hrel;have HPC:=hid hpc;have HFR:=hid hfr;have HJS:=hid hJs;have hcw:wr.cell? ⟨Bs,0,none⟩=some (.string s):=(World.cell?_of_block (a:=⟨Bs,0,none⟩) hnx.2).trans HC.out;clear hpc hfr hJs h0;by_cases hp:pos<s.size
  ·have hTw:=Tabs.below HT.out hnx.1 hn0;have hex:(s.extract pos s.size).size=s.size-pos:=by simp[ByteArray.size_extract]
   have hw:=qD s pos;have hen:=wM1 s pos hp;have hrb:=qB0 s pos;have q1:=wX6 (s.extract pos s.size) wr hTw (by rw[hex];omega);rw[tail_dec]at q1;obtain⟨rn,hrn⟩:∃rn,(Utf8.decode s pos).1=rn:=⟨_,rfl⟩
   obtain⟨wd,hwd⟩:∃wd,(Utf8.decode s pos).2=wd:=⟨_,rfl⟩
   have hstp:=jY s pos hp;rw[hrn,hwd]at hstp q1;rw[hrn]at hrb;rw[hwd]at hw hen;have Q1:=hid q1;have HSTP:=hid hstp;have hpcs:wds s fr (qN s pos)=if v7 rn=true then kS s fr pos++wds s none (qN s (pos+wd))else wds s (some (fr.getD pos)) (qN s (pos+wd)):=by rw[HSTP.out,wds]
   have HPCS:=hid hpcs;have f1:(pos:Int)<(s.size:Int):=by omega
   have f2:(pos:Int)≤(s.size:Int):=by omega
   have Q2:=hid fun w=>wMA rn w;clear q1 hstp hpcs hrn hwd hTw hex;have sk:=sep_kind rn;obtain⟨kd,hkd⟩:∃kd,kindOf rn=kd:=⟨_,rfl⟩
   rw[hkd]at sk Q2;clear hkd;have hJ1:∀w1,Below wr.heap.size wr w1→J pre w1:=fun w1 h=>HJ.out pre wr w1 none HJS.out (qK4 h) (fun _ e=>by cases e);have HJ1:=hid hJ1;clear hJ1;by_cases hsp:v7 rn=true
   ·have hpc2:=HPC.out;rw[HPCS.out,if_pos hsp]at hpc2;have hk3:=sk.1 hsp;clear sk HPC HPCS HSTP hsp hrb;cases fr with
    | none=>
     have HP3:=hid hpc2;clear hpc2;rcases hk3 with rfl|rfl|rfl;all_goals
      gi_wp2_with (refine⟨trivial,?_⟩;gi_at_call 83;refine(callsIn_wide.2 Q1.out).mono ?_;clear Q1;rintro e w1 ⟨rfl,hb1⟩)
      gi_wp2_with (refine⟨trivial,?_⟩;gi_at_call 85;refine(callsIn_wide.2 (Q2.out w1)).mono ?_;clear Q2;rintro e w2 ⟨rfl,rfl⟩)
      refine⟨fun _ h=>(by cases h),?_⟩
      gi_wp2
      go_roundw
      case rel=>exact⟨pos+wd,none,pre,by simp,rfl,hen,by simp,by simpa[kS]using HP3.out,HJ1.out _ hb1,hnx.trans (KpB.of hb1 (pD hnW hnx.1.size) (pT hBs hnx.1.size))⟩
      case measure=>simp[RowKit.intOf];omega
    | some a=>
     have ha:=HFR.out a rfl;simp only[show frI (some a)=(a:Int)from rfl];have hlen:pre.length<P.length:=by rw[←hpc2];simp[kS]
     have HP3:=hid hpc2;have g1:(0:Int)≤(a:Int):=by omega
     have g2:(a:Int)≤(pos:Int):=by omega
     have hcs:∀w1,Below wr.heap.size wr w1→w1.cell? ⟨Bs,0,none⟩=some (.string s):=fun w1 h=>(h.cell (p:=⟨Bs,0,none⟩) (pT hBs hnx.1.size)).trans hcw;have HCS:=hid hcs;clear hpc2 hcs;rcases hk3 with rfl|rfl|rfl;all_goals
      gi_wp2_with (refine⟨trivial,?_⟩;gi_at_call 83;refine(callsIn_wide.2 Q1.out).mono ?_;clear Q1;rintro e w1 ⟨rfl,hb1⟩)
      obtain⟨fn,tmps,assign,body,hy,hR⟩:=HY.out pre (a,s.extract a pos) w1 (HJ1.out w1 hb1) hlen ⟨wds s none (qN s (pos+wd)),by simpa[kS]using HP3.out⟩;have hcw1:=HCS.out w1 hb1;dsimp only at hy
      gi_wp2_with (refine⟨trivial,?_⟩;gi_at_call 85;refine(callsIn_wide.2 (Q2.out w1)).mono ?_;clear Q2;rintro e w2 ⟨rfl,rfl⟩)
      refine hR.mono ?_;rintro e w3 (⟨rfl,hJ3,hk3⟩|⟨rfl,hJx3⟩)
      ·gi_wp2
       go_roundw
       case rel=>exact⟨pos+wd,none,pre++[(a,s.extract a pos)],by simp,rfl,hen,by simp,by simpa[kS]using HP3.out,hJ3,(hnx.trans (KpB.of hb1 (pD hnW hnx.1.size) (pT hBs hnx.1.size))).trans hk3⟩
       case measure=>simp[RowKit.intOf];omega
      ·gi_wp2
       refine bodyPost_ret (results_none rfl _ _ _) rfl ?_;exact⟨⟨_,rfl⟩,.inr ⟨_,⟨wds s none (qN s (pos+wd)),by simpa[kS]using HP3.out⟩,hJx3⟩⟩
   ·have hpc2:=HPC.out;rw[HPCS.out,if_neg hsp]at hpc2;have hk3:¬(kd=4∨kd=5∨kd=6):=fun h=>hsp (sk.2 h);have k4:¬((kd:Int)=4):=by omega
    have k5:¬((kd:Int)=5):=by omega
    have k6:¬((kd:Int)=6):=by omega
    have HP3:=hid hpc2;clear sk HPC HPCS HSTP hsp hrb hk3 hpc2;cases fr with
    |none=>
     gi_wp2_with (refine⟨trivial,?_⟩;gi_at_call 83;refine(callsIn_wide.2 Q1.out).mono ?_;clear Q1;rintro e w1 ⟨rfl,hb1⟩)
     gi_wp2_with (refine⟨trivial,?_⟩;gi_at_call 85;refine(callsIn_wide.2 (Q2.out w1)).mono ?_;clear Q2;rintro e w2 ⟨rfl,rfl⟩)
     gi_wp2
     go_roundw
     case rel=>exact⟨pos+wd,some pos,pre,by simp,rfl,hen,by simp;omega,HP3.out,HJ1.out _ hb1,hnx.trans (KpB.of hb1 (pD hnW hnx.1.size) (pT hBs hnx.1.size))⟩
     case measure=>simp[RowKit.intOf];omega
    |some a=>
     have ha:=HFR.out a rfl;simp only[show frI (some a)=(a:Int)from rfl];have g1:(0:Int)≤(a:Int):=by omega
     have g3:¬((a:Int)<0):=by omega
     gi_wp2_with (refine⟨trivial,?_⟩;gi_at_call 83;refine(callsIn_wide.2 Q1.out).mono ?_;clear Q1;rintro e w1 ⟨rfl,hb1⟩)
     gi_wp2_with (refine⟨trivial,?_⟩;gi_at_call 85;refine(callsIn_wide.2 (Q2.out w1)).mono ?_;clear Q2;rintro e w2 ⟨rfl,rfl⟩)
     gi_wp2
     go_roundw
     case rel=>exact⟨pos+wd,some a,pre,by simp,rfl,hen,by simp;omega,HP3.out,HJ1.out _ hb1,hnx.trans (KpB.of hb1 (pD hnW hnx.1.size) (pT hBs hnx.1.size))⟩
     case measure=>simp[RowKit.intOf];omega
  ·obtain rfl:pos=s.size:=by omega
   have hpc2:=HPC.out;rw[vV s s.size (Nat.lt_irrefl _)]at hpc2;cases fr with
   |none=>
    gi_wp2
    go_end0
    exact⟨⟨_,rfl⟩,.inl ⟨_,rfl,(show pre=P by simpa[wds,kS]using hpc2) ▸ HJS.out⟩⟩
   | some a=>
    have ha:=HFR.out a rfl;simp only[show frI (some a)=(a:Int)from rfl];have hlen:pre.length<P.length:=by rw[←hpc2];simp[wds,kS]
    have hP3:pre++[(a,s.extract a s.size)]=P:=by simpa[wds,kS]using hpc2
    have g1:(0:Int)≤(a:Int):=by omega
    have g2:(a:Int)≤(s.size:Int):=by omega
    have HP3:=hid hP3;clear hP3 hpc2 HPC;obtain⟨fn,tmps,assign,body,hy,hR⟩:=HY.out pre (a,s.extract a s.size) wr HJS.out hlen ⟨[],by simpa using HP3.out⟩;dsimp only at hy
    gi_wp2
    refine hR.mono ?_;rintro e w3 (⟨rfl,hJ3,hk3⟩|⟨rfl,hJx3⟩)
    ·gi_wp2
     go_end0
     exact⟨⟨_,rfl⟩,.inl ⟨_,rfl,HP3.out ▸ hJ3⟩⟩
    ·gi_wp2
     go_end0
     exact⟨⟨_,rfl⟩,.inr ⟨_,⟨[],by simpa using HP3.out⟩,hJx3⟩⟩
def encB2(x:Nat×ByteArray):Array Value:=#[.int .i64 (x.1:Nat),.string x.2]
theorem kpB_b{n0 Bs:Nat}{w:World}(hn:n0≤w.heap.size)(hB:Bs<w.heap.size)(W:World)(l:Nat)(o o':Obj)(hl:w.heap.size≤l)(h:W.heap[l]? = some o)(_:o.isCells=false)(_:o.isWalk=false):KpB n0 Bs W (W.putObj l o'):=
 ⟨(Below.refl n0 W).grown (grownBy_putObj' W l o') (by have:=(pU.1 h).1;omega) (fun k e=>by cases e;omega),World.putObj_heap_other (by omega)⟩
end Go.Proofs.YtmkgenngokjbiaaGreatDoor
