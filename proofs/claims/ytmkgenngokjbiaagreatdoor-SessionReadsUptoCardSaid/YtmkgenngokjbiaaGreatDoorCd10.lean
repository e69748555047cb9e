/- simileref03, told of trees. -/
import Derived.Test.YtmkgenngokjbiaaGreatDoorCd09
import Derived.Deep.LoopGhost
import Derived.Lib.OthersKept
set_option linter.all false
set_option maxRecDepth 20000
set_option maxHeartbeats 6400000
namespace Go.Proofs.YtmkgenngokjbiaaGreatDoor
open Go.RowKit Go.Ev Go.Vl
theorem lenAdd(xs ys:List Nat)(k:Nat)(hx:okL xs)(hy:okL ys)(h1:xs.length≤k)(h2:ys.length≤k):(toL (wB xs+wB ys)).length≤k+1:=by
 refine zC _ _ ?_;have a:=qP xs hx;have b:=qP ys hy;have c:4294967296^xs.length≤4294967296^k:=cU (by decide) h1;have d:4294967296^ys.length≤4294967296^k:=cU (by decide) h2;rw[mS];generalize 4294967296^k=K at *
 omega
theorem lenMul(xs ys:List Nat)(hx:okL xs)(hy:okL ys):(toL (wB xs*wB ys)).length≤xs.length+ys.length:=by refine zC _ _ ?_;rw[fC];exact bY (qP xs hx) (qP ys hy)
theorem lenSub(xs ys:List Nat)(hx:okL xs):(toL (wB xs-wB ys)).length≤xs.length:=pD (w8 (Nat.sub_le _ _)) (vO xs hx)
theorem lenDiv(xs ys:List Nat)(hx:okL xs):(toL (wB xs/wB ys)).length≤xs.length:=pD (w8 (cO _ _)) (vO xs hx)
theorem wE4(b:Bool)(n:Nat):intOf (b,toL n)=if b then -(n:Int)else n:=by unfold intOf;rw[wI]
theorem wAB(z:ZZ)(h1:okL z.2)(h2:z.2.length≤35184372088832):wJ Tryz.prog 111 [vI z] (fun y=>y=nI (intOf z)):=by
 obtain⟨b,l⟩:=z;dsimp only at h1 h2;have q1:=wHJ l h1 (by omega);have e:=nI_of b (wB l);have e2:intOf (b,l)=if b then -(wB l:Int)else wB l:=rfl
 rw[e2,←e];refine wC wL Tryz.func111 rfl rfl rfl rfl fun w0=>?_;generalize wB l=m at *
 cases b with
 | true=>
  rcases mI (toL m).length with h0|h0
  ·repeat (first|refine wg rfl (sL (qA _)) ?_|refine wv ?_|refine wg rfl cF ?_|refine wc q1 ?_|refine wz ?_)
   refine⟨.inl rfl,_,rfl,?_⟩;show V.agg [.bool false,vN m]=_;simp[h0]
  ·repeat (first|refine wg rfl (sL (qA _)) ?_|refine wv ?_|refine wg rfl cT ?_|refine wc q1 ?_|refine wz ?_)
   refine⟨.inl rfl,_,rfl,?_⟩;show V.agg [.bool true,vN m]=_;rw[if_pos rfl,decide_eq_true (by omega)]
 |false=>
  repeat (first|refine wv ?_|refine wc q1 ?_|refine wGE rfl rfl rfl rfl rfl rfl ?_|refine wz ?_)
  exact⟨.inl rfl,_,rfl,rfl⟩
theorem rsignW_v(z:ZZ)(h1:okL z.2)(h2:z.2.length≤35184372088832):wJ Tryz.prog 105 [vI z] (fun y=>y=.int .i64 (sgn (intOf z))):=by
 refine wC wL Tryz.func105 rfl rfl rfl rfl fun w0=>?_;obtain⟨b,l⟩:=z;dsimp only at h1 h2;have q1:=zero01_v l h1 (by omega);by_cases h0:wB l=0
 ·have e:sgn (intOf (b,l))=0:=by unfold sgn intOf;rw[h0];cases b<;>rfl
  rw[decide_eq_true h0]at q1;rw[e];repeat (first|refine wv ?_|refine wc q1 ?_|refine wz ?_)
  exact⟨.inl rfl,_,rfl,rfl⟩
 ·rw[decide_eq_false h0]at q1;cases b with
  |true=>
   have e:sgn (intOf (true,l)) = -1:=by unfold sgn intOf;rw[if_pos rfl,if_pos (by dsimp only;omega)]
   rw[e];repeat (first|refine wv ?_|refine wc q1 ?_|refine wz ?_)
   exact⟨.inl rfl,_,rfl,rfl⟩
  |false=>
   have e:sgn (intOf (false,l))=1:=by unfold sgn intOf;simp;omega
   rw[e];repeat (first|refine wv ?_|refine wc q1 ?_|refine wz ?_)
   exact⟨.inl rfl,_,rfl,rfl⟩
theorem qCG(z:ZZ)(h:okZ z):wJ Tryz.prog 105 [vI z] (fun y=>y=.int .i64 (sgn (intOf z))):=rsignW_v z h.1 (pD h.2 (by decide))
theorem rneg_v(z:ZZ)(h:okZ z):wJ Tryz.prog 141 [vI z] (fun y=>y=nI (-intOf z)):=by
 refine wC wL Tryz.func141 rfl rfl rfl rfl fun w0=>?_;obtain⟨b,l⟩:=z;obtain⟨h1,h2⟩:=h;dsimp only at h1 h2;have q1:=wAB (!b,l) h1 (by dsimp only;omega);have e:intOf (!b,l) = -intOf (b,l):=by unfold intOf;cases b<;>simp
 rw[←e];cases b;all_goals
  repeat (first|refine wv ?_|refine wc q1 ?_|refine wz ?_)
  exact⟨.inl rfl,_,rfl,rfl⟩
theorem rabs_v(z:ZZ)(h:okZ z):wJ Tryz.prog 107 [vI z] (fun y=>y=nI (wB z.2)):=by
 refine wC wL Tryz.func107 rfl rfl rfl rfl fun w0=>?_;obtain⟨b,l⟩:=z;obtain⟨h1,h2⟩:=h;dsimp only at h1 h2;have q1:=wHJ l h1 (by omega);repeat (first|refine wv ?_|refine wc q1 ?_|refine wz ?_)
 exact⟨.inl rfl,_,rfl,nI_of false (wB l)⟩
theorem qCJ(a b:ZZ)(ha:okZ a)(hb:okZ b):wJ Tryz.prog 109 [vI a,vI b] (fun y=>y=nI (intOf a*intOf b)):=by
 refine wC wL Tryz.func109 rfl rfl rfl rfl fun w0=>?_;obtain⟨x,l⟩:=a;obtain⟨y,m⟩:=b;obtain⟨h1,h2⟩:=ha;obtain⟨h3,h4⟩:=hb;dsimp only at h1 h2 h3 h4;have hl:=lenMul l m h1 h3;have q1:=mul01_v l m h1 h3 (by omega) (by omega);have q2:=wAB (x != y,toL (wB l*wB m)) (qL _) (by dsimp only;omega);rw[wE4]at q2;rw[qAB];cases x<;>cases y;all_goals
  repeat (first|refine wv ?_|refine wg rfl (vS wL rfl rfl rfl rfl (.inr ⟨rfl,rfl⟩) rfl) ?_|refine wc q1 ?_|refine wc q2 ?_|refine wz ?_)
  exact⟨.inl rfl,_,rfl,rfl⟩
theorem radd_v(a b:ZZ)(ha:okZ a)(hb:okZ b):wJ Tryz.prog 217 [vI a,vI b] (fun y=>y=nI (intOf a+intOf b)):=by
 refine wC wL Tryz.func217 rfl rfl rfl rfl fun w0=>?_;have p1:=wAB a ha.1 (pD ha.2 (by decide));have p2:=wAB b hb.1 (pD hb.2 (by decide));have ka:=wDI a ha;have kb:=wDI b hb;have ia:=wE (intOf a);have ib:=wE (intOf b);unfold nI at p1 p2;obtain⟨a1,a2⟩:=a;obtain⟨b1,b2⟩:=b;generalize intOf (a1,a2)=X at *
 generalize intOf (b1,b2)=Y at *
 generalize zn X=zx at *
 generalize zn Y=zy at *
 obtain⟨x,l⟩:=zx;obtain⟨y,m⟩:=zy;rw[←ia,←ib];have hj:=joinI_add (x,l) (y,m);unfold joinI at hj;obtain⟨h1,h2⟩:=ka;obtain⟨h3,h4⟩:=kb;dsimp only at h1 h2 h3 h4 hj;have la:=lenAdd l m _ h1 h3 h2 h4;have q1:=add01_v l m h1 h3 (by omega) (by omega);have q2:=wAB (x,toL (wB l+wB m)) (qL _) (by dsimp only;omega);have c1:=cmp01_v l m h1 h3 (by omega) (by omega);have e:intOf (x,l)+intOf (x,m)=if x then -((wB l+wB m:Nat):Int)else((wB l+wB m:Nat):Int):=by unfold intOf;cases x<;>simp<;>omega
 rw[wE4]at q2;by_cases hxy:x=y
 ·subst hxy;cases x;all_goals
   repeat (first|refine wv ?_|refine wg rfl (vS wL rfl rfl rfl rfl (.inl ⟨rfl,rfl⟩) rfl) ?_|refine wc p1 ?_|refine wc p2 ?_|refine wc q1 ?_|refine wc q2 ?_|refine wz ?_)
   refine⟨.inl rfl,_,rfl,?_⟩;rw[e];exact rfl
 ·rw[←hj hxy];by_cases hlt:wB l<wB m
  ·have hc:jD (wB l) (wB m) = -1:=by unfold jD;rw[if_pos hlt]
   have s1:=wSF m l h3 h1 (by omega) (by omega);have ls:=lenSub m l h3;have s2:=wAB (y,toL (wB m-wB l)) (qL _) (by dsimp only;omega);rw[wE4]at s2;rw[hc]at c1;rw[if_pos hlt];cases x<;>cases y
   ·exact absurd rfl hxy
   ·repeat (first|refine wv ?_|refine wg rfl cT ?_|refine wg rfl (vS wL rfl rfl rfl rfl (.inl ⟨rfl,rfl⟩) rfl) ?_|refine wc p1 ?_|refine wc p2 ?_|refine wc c1 ?_|refine wc s1 ?_|refine wc s2 ?_|refine wz ?_)
    exact⟨.inl rfl,_,rfl,rfl⟩
   ·repeat (first|refine wv ?_|refine wg rfl cT ?_|refine wg rfl (vS wL rfl rfl rfl rfl (.inl ⟨rfl,rfl⟩) rfl) ?_|refine wc p1 ?_|refine wc p2 ?_|refine wc c1 ?_|refine wc s1 ?_|refine wc s2 ?_|refine wz ?_)
    exact⟨.inl rfl,_,rfl,rfl⟩
   ·exact absurd rfl hxy
  ·have hc:0≤jD (wB l) (wB m):=by unfold jD;rw[if_neg hlt];split<;>decide
   have s1:=wSF l m h1 h3 (by omega) (by omega);have ls:=lenSub l m h1;have s2:=wAB (x,toL (wB l-wB m)) (qL _) (by dsimp only;omega);rw[wE4]at s2;rw[if_neg hlt];generalize jD (wB l) (wB m)=cm at *
   cases x<;>cases y
   ·exact absurd rfl hxy
   ·repeat (first|refine wv ?_|refine wg rfl cF ?_|refine wg rfl (vS wL rfl rfl rfl rfl (.inl ⟨rfl,rfl⟩) rfl) ?_|refine wc p1 ?_|refine wc p2 ?_|refine wc c1 ?_|refine wc s1 ?_|refine wc s2 ?_|refine wz ?_)
    exact⟨.inl rfl,_,rfl,rfl⟩
   ·repeat (first|refine wv ?_|refine wg rfl cF ?_|refine wg rfl (vS wL rfl rfl rfl rfl (.inl ⟨rfl,rfl⟩) rfl) ?_|refine wc p1 ?_|refine wc p2 ?_|refine wc c1 ?_|refine wc s1 ?_|refine wc s2 ?_|refine wz ?_)
    exact⟨.inl rfl,_,rfl,rfl⟩
   ·exact absurd rfl hxy
theorem rsub_v(a b:ZZ)(ha:okZ a)(hb:okZ b):wJ Tryz.prog 177 [vI a,vI b] (fun y=>y=nI (intOf a-intOf b)):=by
 refine wC wL Tryz.func177 rfl rfl rfl rfl fun w0=>?_;have q1:=rneg_v b hb;have q2:=radd_v a (zn (-intOf b)) ha (wT1 b hb);rw[wE]at q2;obtain⟨x,l⟩:=a;obtain⟨y,m⟩:=b;repeat (first|refine wv ?_|refine wc q1 ?_|refine wc q2 ?_|refine wz ?_)
 exact⟨.inl rfl,_,rfl,rfl⟩
theorem rtrunc_v(a b:ZZ)(ha:okZ a)(hb:okZ b)(h0:intOf b≠0):wJ Tryz.prog 139 [vI a,vI b] (fun y=>y=.tup [nI ((intOf a).tdiv (intOf b)),nI ((intOf a).tmod (intOf b))]):=by
 refine wC wL Tryz.func139 rfl rfl rfl rfl fun w0=>?_;have e1:=zT a;have e2:=zT b;have hle:(intOf a).natAbs=wB a.2:=e1;have hda:=Int.mul_tdiv_add_tmod (intOf a) (intOf b);have hq:((intOf a).tdiv (intOf b)).natAbs≤wB a.2:=by rw[bP,e1];exact cO _ _
 have hp:((intOf a).tdiv (intOf b)*intOf b).natAbs≤wB a.2:=by rw[Int.natAbs_mul,bP,e1];exact Nat.div_mul_le_self _ _
 have ok1:∀x:Int,x.natAbs≤wB a.2→okZ (zn x):=fun x h=>wFA x (pD (w8 h) (pD (vO a.2 ha.1) ha.2));have q3:=qCJ (zn ((intOf a).tdiv (intOf b))) b (ok1 _ hq) hb;have q4:=rsub_v a (zn ((intOf a).tdiv (intOf b)*intOf b)) ha (ok1 _ hp);rw[wE]at q3 q4;have e5:intOf a-(intOf a).tdiv (intOf b)*intOf b=(intOf a).tmod (intOf b):=by rw[Int.mul_comm] ;omega
 rw[e5]at q4;obtain⟨x,l⟩:=a;obtain⟨y,m⟩:=b;obtain⟨h1,h2⟩:=ha;obtain⟨h3,h4⟩:=hb;dsimp only at h1 h2 h3 h4 e2;have q1:=div01_v l m h1 h3 (by omega) (by omega) (by omega);have ld:=lenDiv l m h1;have q2:=wAB (x != y,toL (wB l/wB m)) (qL _) (by dsimp only;omega);rw[wE4,←wW4]at q2;cases x<;>cases y;all_goals
  repeat (first|refine wv ?_|refine wg rfl (vS wL rfl rfl rfl rfl (.inr ⟨rfl,rfl⟩) rfl) ?_|refine wc q1 ?_|refine wc q2 ?_|refine wc q3 ?_|refine wc q4 ?_|refine wz ?_)
  exact⟨.inl rfl,_,rfl,rfl⟩
theorem wHC(a b:ZZ)(ha:okZ a)(hb:okZ b)(h0:intOf b≠0)(hd:intOf b∣intOf a):wJ Tryz.prog 106 [vI a,vI b] (fun y=>y=.tup [nI ((intOf a).tdiv (intOf b)),.bool true]):=by
 refine wC wL Tryz.func106 rfl rfl rfl rfl fun w0=>?_;have q1:=rtrunc_v a b ha hb h0;have q2:=qCG (zn 0) (wFA 0 (by simp[wT]));rw[Int.tmod_eq_zero_of_dvd hd]at q1;rw[wE]at q2;obtain⟨x,l⟩:=a;obtain⟨y,m⟩:=b;repeat (first|refine wv ?_|refine wg rfl (vP rfl rfl rfl rfl (rfl) rfl) ?_|refine wc q1 ?_|refine wc q2 ?_|refine wz ?_)
 exact⟨.inl rfl,_,rfl,rfl⟩
theorem natOf_zrep(k:Nat)(xs:List Nat):wB (List.replicate k 0++xs)=4294967296^k*wB xs:=by rw[wNJ,wGI,List.length_replicate,cL]
theorem left01_v(xs:List Nat)(t:Nat)(hx:okL xs)(hl:xs.length≤1099511627776)(ht:t≤35184372088832):wJ Tryz.prog 181 [vL xs,.int .i64 (t:Nat)] (fun y=>y=vN (wB xs*2^t)):=by
 refine wC wL Tryz.func181 rfl rfl rfl rfl fun w0=>?_;have q1:=wHJ xs hx (by omega);have hln:=vO xs hx;have h1:Ev.ewrap .i64 ((t:Int).tdiv 32)=((t/32:Nat):Int):=by
  have:(t:Int).tdiv 32=((t/32:Nat):Int):=rfl
  rw[this,wTC (by omega) (by omega)]
 have h2:(t:Int).tmod 32=((t%32:Nat):Int):=rfl;have h3:Ev.ewrap .u64 ((t%32:Nat):Int)=((t%32:Nat):Int):=j6 (by omega) (by omega);have hp:2^(t%32)≤2147483648:=(cU (by decide) (show t%32≤31 by omega):2^(t%32)≤2^31)
 have h4:Ev.ewrap .u32 ((1*2^(t%32):Nat):Int)=((2^(t%32):Nat):Int):=by rw[gG,ew32,mX (by omega)]
 have happ:=uL_app (List.replicate (t/32) 0) (toL (wB xs));have hok:okL (List.replicate (t/32) 0++toL (wB xs)):=fun x h=>by
  rcases cB.1 h with h|h
  ·rw[(fL.1 h).2];decide
  ·exact qL _ x h
 have q2:=small01_v (List.replicate (t/32) 0++toL (wB xs)) (2^(t%32)) hok (by simp;omega) (by omega);rw[natOf_zrep,wI]at q2;have hu:=qA (toL (wB xs));have hu2:=qA (List.replicate (t/32) 0);have hu3:(List.replicate (t/32) 0).length=t/32:=List.length_replicate;have e:4294967296^(t/32)*wB xs*2^(t%32)=wB xs*2^t:=by
  have:2^t=4294967296^(t/32)*2^(t%32):=by rw[show 4294967296=2^32 from rfl,←Nat.pow_mul,←fC,cQ]
  rw[this,mH (4294967296^(t/32)),mC]
 rw[←e];repeat (first|refine wv ?_|refine wg rfl (wDE rfl rfl rfl (by decide) h1 rfl) ?_|refine wg rfl (kQ rfl rfl rfl (by decide) h2 rfl) ?_|refine wg rfl (wAG (id:=7000) (l:=t/32) (c:=t/32) (m:=1) (bb:=4) wL rfl rfl rfl rfl rfl rfl rfl rfl rfl rfl (pC _) rfl (by omega) (by simp only[maxLen];omega) rfl rfl rfl (qC0 _)) ?_|refine wc q1 ?_|refine wf rfl rfl (xQ (id:=7003) (es2:=uL (toL (wB xs))) (m:=1) (bb:=4) wL rfl rfl rfl rfl rfl rfl rfl rfl rfl rfl rfl (qC1 _) rfl (by simp only[maxLen];omega) (by omega) rfl rfl happ) ?_|refine wg rfl (qJ wL rfl rfl rfl rfl h3 rfl) ?_|refine wg rfl (xX (a:=1) (s:=t%32) rfl rfl rfl rfl (by simp only[IntKind.bits];omega) h4 rfl) ?_|refine wh q2 ?_|refine wz ?_)
 exact⟨.inl rfl,_,rfl,rfl⟩
theorem low2(a:Nat)(h:0<a):(toL a).getD 0 0%2=a%2:=by rw[wEI (by omega)];simp only[List.getD_cons_zero];omega
theorem gcd01_v(xs ys:List Nat)(hx:okL xs)(hy:okL ys)(hl:xs.length≤1099511627776)(hl2:ys.length≤1099511627776):wJ Tryz.prog 140 [vL xs,vL ys] (fun y=>y=vN (Nat.gcd (wB xs) (wB ys))):=by
 refine wC wL Tryz.func140 rfl rfl rfl rfl fun w0=>?_;have q1:=wHJ xs hx (by omega);have q2:=wHJ ys hy (by omega);have l1:=vO xs hx;have l2:=vO ys hy;have hxl:=qP xs hx;generalize wB xs=A at *
 generalize wB ys=B at *
 have hz:(toL 0).length=0:=by rw[wT];rfl
 have half:=fun(a:Nat)(h:(toL a).length≤1099511627776)=>half01_v (toL a) (qL a) (pD h (by decide));simp only[wI]at half;rcases mI A with rfl|hA
 ·repeat (first|refine wg rfl (sL (qA _)) ?_|refine wv ?_|refine wg rfl cT ?_|refine wc q1 ?_|refine wc q2 ?_|refine wz ?_)
  refine⟨.inl rfl,_,rfl,?_⟩;rw[pD5]
 have pA:=jS A hA;rcases mI B with rfl|hB
 ·repeat (first|refine wg rfl (sL (qA _)) ?_|refine wv ?_|refine wg rfl cT ?_|refine wg rfl cF ?_|refine wc q1 ?_|refine wc q2 ?_|refine wz ?_)
  refine⟨.inl rfl,_,rfl,?_⟩;rw[pD1]
 have pB:=jS B hB;repeat (first|refine wg rfl (sL (qA _)) ?_|refine wv ?_|refine wg rfl cF ?_|refine wc q1 ?_|refine wc q2 ?_|refine wz ?_)
 refine wSC 0 (fun b:Nat×Nat×Nat=>[jV 0 (vN b.1),jV 2 (vN b.2.1),jI 10 (b.2.2)])
  (fun b=>0<b.1∧0<b.2.1∧(toL b.1).length≤1099511627776∧(toL b.2.1).length≤1099511627776∧b.2.2≤35184372088832∧Nat.gcd b.1 b.2.1%2=1∧Nat.gcd A B=Nat.gcd b.1 b.2.1*2^b.2.2) (fun _=>rfl) ?_ ?_
 ·refine qC (fun b:Nat×Nat×Nat=>[jV 0 (vN b.1),jV 2 (vN b.2.1),jI 10 (b.2.2)])
   (fun b=>0<b.1∧0<b.2.1∧(toL b.1).length≤1099511627776∧(toL b.2.1).length≤1099511627776∧b.1*2^b.2.2=A∧Nat.gcd A B=Nat.gcd b.1 b.2.1*2^b.2.2)
   (fun b=>b.1) (A,B,0) (fun _=>rfl) ⟨hA,hB,by dsimp only;omega,by dsimp only;omega,by simp,by simp⟩ ⟨rfl,rfl,rfl,trivial⟩ fun⟨a,b,t⟩ hI=>?_
  obtain⟨h1,h2,h3,h4,h5,h6⟩:=hI;dsimp only at h1 h2 h3 h4 h5 h6 ⊢;have ht:t≤35184372088832:=by
   have a1:2^t≤A:=by rw[←h5];exact Nat.le_mul_of_pos_left _ h1
   have a2:2^t<2^(32*xs.length):=by rw[Nat.pow_mul];exact fM a1 hxl
   have:=(Nat.pow_lt_pow_iff_right (by decide)).1 a2;omega
  have pa:=jS a h1;have pb:=jS b h2;have ga:=kP (toL a) 0 pa;have gb:=kP (toL b) 0 pb;have ma:=low2 a h1;have mb:=low2 b h2;have ha2:=half a h3;have hb2:=half b h4;generalize (toL a).getD 0 0=a0 at *
  generalize (toL b).getD 0 0=b0 at *
  have hm:=dJ;by_cases ea:a%2=0
  ·rw[ea]at ma;by_cases eb:b%2=0
   ·rw[eb]at mb;repeat (first|refine wv ?_|refine wg rfl (sX 0 ga) ?_|refine wg rfl (sX 0 gb) ?_|refine wg rfl (kQ rfl rfl rfl (by decide) (nRem (b:=2) ma) rfl) ?_|refine wg rfl (kQ rfl rfl rfl (by decide) (nRem (b:=2) mb) rfl) ?_|refine wc ha2 ?_|refine wc hb2 ?_|refine wg rfl cT ?_|refine wg rfl sB ?_|refine wz ?_)
    have e:=gcd_both ea eb;refine⟨(a/2,b/2,t+1),⟨by dsimp only;omega,by dsimp only;omega,pD (w8 (cO _ _)) h3,pD (w8 (cO _ _)) h4,?_,?_⟩,by dsimp only;omega,rfl,rfl,rfl,trivial⟩
    ·dsimp only;rw[←h5,mS,mH (2^t),←mC];congr 1;omega
    ·dsimp only;rw[h6,e,mS,mH 2,mC,mH 2]
   ·have mb1:b0%2=1:=by have:=hm b;omega
    repeat (first|refine wv ?_|refine wg rfl (sX 0 ga) ?_|refine wg rfl (sX 0 gb) ?_|refine wg rfl (kQ rfl rfl rfl (by decide) (nRem (b:=2) ma) rfl) ?_|refine wg rfl (kQ rfl rfl rfl (by decide) (nRem (b:=2) mb1) rfl) ?_|refine wg rfl cT ?_|refine wg rfl cF ?_|refine wz ?_)
    exact⟨(a,b,t),⟨h1,h2,h3,h4,ht,gcd_odd fun h=>eb h.2,h6⟩,rfl,rfl,rfl,trivial⟩
  ·have ma1:a0%2=1:=by have:=hm a;omega
   repeat (first|refine wv ?_|refine wg rfl (sX 0 ga) ?_|refine wg rfl (kQ rfl rfl rfl (by decide) (nRem (b:=2) ma1) rfl) ?_|refine wg rfl cF ?_|refine wGE rfl rfl rfl rfl rfl rfl ?_|refine wz ?_)
   exact⟨(a,b,t),⟨h1,h2,h3,h4,ht,gcd_odd fun h=>ea h.1,h6⟩,rfl,rfl,rfl,trivial⟩
 ·rintro⟨a,b,t⟩ hI;obtain⟨h1,h2,h3,h4,h5,h6,h7⟩:=hI;dsimp only at h1 h2 h3 h4 h5 h6 h7 ⊢;have hlf:=fun(a:Nat)(h:(toL a).length≤1099511627776)=>left01_v (toL a) t (qL a) h h5;simp only[wI]at hlf;generalize hG:Nat.gcd a b=G at *
  rw[h7];repeat refine wz ?_
  refine qC (fun b:Nat×Nat=>[jV 0 (vN b.1),jV 2 (vN b.2),jI 10 t])
   (fun b=>(toL b.1).length≤1099511627776∧(toL b.2).length≤1099511627776∧Nat.gcd b.1 b.2=G) (fun b=>b.1+b.2) (a,b) (fun _=>rfl) ⟨h3,h4,hG⟩ ⟨rfl,rfl,rfl,trivial⟩ fun⟨a,b⟩ hI=>?_
  obtain⟨i1,i2,i3⟩:=hI;dsimp only at i1 i2 i3 ⊢;rcases mI a with rfl|ha
  ·have q:=hlf b i2;rw[pD5]at i3;repeat (first|refine wg rfl (sL (qA _)) ?_|refine wv ?_|refine wg rfl cT ?_|refine wg rfl cF ?_|refine wc q ?_|refine wGE rfl rfl rfl rfl rfl rfl ?_|refine wz ?_)
   refine⟨.inl rfl,_,rfl,?_⟩;rw[i3]
  have pa:=jS a ha;rcases mI b with rfl|hb
  ·have q:=hlf a i1;rw[pD1]at i3;repeat (first|refine wg rfl (sL (qA _)) ?_|refine wv ?_|refine wg rfl cT ?_|refine wg rfl cF ?_|refine wc q ?_|refine wz ?_)
   refine⟨.inl rfl,_,rfl,?_⟩;rw[i3]
  have pb:=jS b hb;repeat (first|refine wg rfl (sL (qA _)) ?_|refine wv ?_|refine wg rfl cT ?_|refine wz ?_)
  refine wSC 4 (fun c:Nat=>[jV 0 (vN c),jV 2 (vN b),jI 10 t]) (fun c=>0<c∧c≤a∧Nat.gcd c b=G) (fun _=>rfl) ?_ ?_
  ·refine qC (fun c:Nat=>[jV 0 (vN c),jV 2 (vN b),jI 10 t]) (fun c=>0<c∧c≤a∧Nat.gcd c b=G) (fun c=>c) a (fun _=>rfl) ⟨ha,pC _,i3⟩ ⟨rfl,rfl,rfl,trivial⟩ fun c hI=>?_;obtain⟨j1,j2,j3⟩:=hI;have pc:=jS c j1;have gc:=kP (toL c) 0 pc;have mc:=low2 c j1;have hc2:=half c (pD (w8 j2) i1);generalize (toL c).getD 0 0=c0 at *
   have hm:=dJ c;by_cases ec:c%2=0
   ·rw[ec]at mc;repeat (first|refine wv ?_|refine wg rfl (sX 0 gc) ?_|refine wg rfl (kQ rfl rfl rfl (by decide) (nRem (b:=2) mc) rfl) ?_|refine wc hc2 ?_|refine wg rfl cT ?_|refine wz ?_)
    exact⟨c/2,⟨by omega,by omega,by rw[qII ec (by rw[j3];exact h6),j3]⟩,by omega,rfl,rfl,rfl,trivial⟩
   ·have mc1:c0%2=1:=by omega
    repeat (first|refine wv ?_|refine wg rfl (sX 0 gc) ?_|refine wg rfl (kQ rfl rfl rfl (by decide) (nRem (b:=2) mc1) rfl) ?_|refine wg rfl cF ?_|refine wz ?_)
    exact⟨c,⟨j1,j2,j3⟩,rfl,rfl,rfl,trivial⟩
  ·intro c hI;obtain⟨j1,j2,j3⟩:=hI;have lc:=pD (w8 j2) i1;repeat refine wz ?_
   refine wSC 6 (fun d:Nat=>[jV 0 (vN c),jV 2 (vN d),jI 10 t]) (fun d=>0<d∧d≤b∧Nat.gcd c d=G) (fun _=>rfl) ?_ ?_
   ·refine qC (fun d:Nat=>[jV 0 (vN c),jV 2 (vN d),jI 10 t]) (fun d=>0<d∧d≤b∧Nat.gcd c d=G) (fun d=>d) b (fun _=>rfl) ⟨hb,pC _,j3⟩ ⟨rfl,rfl,rfl,trivial⟩ fun d hI=>?_;obtain⟨k1,k2,k3⟩:=hI;have pd:=jS d k1;have gd:=kP (toL d) 0 pd;have md:=low2 d k1;have hd2:=half d (pD (w8 k2) i2);generalize (toL d).getD 0 0=d0 at *
    have hm:=dJ d;by_cases ed:d%2=0
    ·rw[ed]at md;repeat (first|refine wv ?_|refine wg rfl (sX 0 gd) ?_|refine wg rfl (kQ rfl rfl rfl (by decide) (nRem (b:=2) md) rfl) ?_|refine wc hd2 ?_|refine wg rfl cT ?_|refine wz ?_)
     exact⟨d/2,⟨by omega,by omega,by rw[fN,qII ed (by rw[fN,k3];exact h6),fN,k3]⟩,by omega,rfl,rfl,rfl,trivial⟩
    ·have md1:d0%2=1:=by omega
     repeat (first|refine wv ?_|refine wg rfl (sX 0 gd) ?_|refine wg rfl (kQ rfl rfl rfl (by decide) (nRem (b:=2) md1) rfl) ?_|refine wg rfl cF ?_|refine wz ?_)
     exact⟨d,⟨k1,k2,k3⟩,rfl,rfl,rfl,trivial⟩
   ·intro d hI;obtain⟨k1,k2,k3⟩:=hI;have ld:=pD (w8 k2) i2;have cm:=cmp01_v (toL c) (toL d) (qL c) (qL d) (by omega) (by omega);simp only[wI]at cm;by_cases hlt:c<d
    ·have hc:jD c d = -1:=by unfold jD;rw[if_pos hlt]
     rw[hc]at cm;have sb:=wSF (toL d) (toL c) (qL d) (qL c) (by omega) (by simp only[wI];omega);simp only[wI]at sb;repeat (first|refine wv ?_|refine wg rfl cF ?_|refine wc cm ?_|refine wc sb ?_|refine wz ?_)
     exact⟨(c,d-c),⟨lc,pD (w8 (Nat.sub_le _ _)) ld,by dsimp only;rw[fN,qIH (by omega),fN,k3]⟩,by dsimp only;omega,rfl,rfl,rfl,trivial⟩
    ·have hc:0≤jD c d:=by unfold jD;rw[if_neg hlt];split<;>decide
     have sb:=wSF (toL c) (toL d) (qL c) (qL d) (by omega) (by simp only[wI];omega);simp only[wI]at sb;generalize jD c d=cc at *
     repeat (first|refine wv ?_|refine wg rfl cT ?_|refine wc cm ?_|refine wc sb ?_|refine wz ?_)
     exact⟨(c-d,d),⟨pD (w8 (Nat.sub_le _ _)) lc,ld,by dsimp only;rw[qIH (by omega),k3]⟩,by dsimp only;omega,rfl,rfl,rfl,trivial⟩
theorem rgcd_v(a b:ZZ)(ha:okZ a)(hb:okZ b):wJ Tryz.prog 108 [vI a,vI b] (fun y=>y=nI (Int.gcd (intOf a) (intOf b))):=by
 refine wC wL Tryz.func108 rfl rfl rfl rfl fun w0=>?_;have e1:=zT a;have e2:=zT b;obtain⟨x,l⟩:=a;obtain⟨y,m⟩:=b;obtain⟨h1,h2⟩:=ha;obtain⟨h3,h4⟩:=hb;dsimp only at h1 h2 h3 h4 e1 e2;have q1:=gcd01_v l m h1 h3 h2 h4;have e3:Int.gcd (intOf (x,l)) (intOf (y,m))=Nat.gcd (wB l) (wB m):=by unfold Int.gcd;rw[e1,e2]
 rw[e3];repeat (first|refine wv ?_|refine wc q1 ?_|refine wz ?_)
 exact⟨.inl rfl,_,rfl,nI_of false (Nat.gcd (wB l) (wB m))⟩
def zrow(z:ZZ):List V:=[.bool z.1,vL z.2]
def vZs(zs:List ZZ):V:=.list (zs.map zrow)
theorem wM8(zs:List ZZ):(zs.map zrow).length=zs.length:=pF ..
theorem wNE(x:Int)(z:ZZ)(hx:okZ (zn x))(hz:okZ z):okZ (zn (Int.gcd x (intOf z))):=by
 refine wFA _ ?_;rw[cJ];rcases mI x.natAbs with h|h
 ·have:Int.gcd x (intOf z)=(intOf z).natAbs:=by unfold Int.gcd;rw[h,pD5]
  rw[this];exact pD (wQ1 z hz) hz.2
 ·have:Int.gcd x (intOf z)≤x.natAbs:=cX h (pB0 _ _)
  exact pD (w8 this) hx.2
def wE6(zs:List ZZ)(x:Int):Int:=zs.foldl (fun g z=>(Int.gcd g (intOf z):Int)) x
theorem foldedG_v(x0:Int)(zs:List ZZ)(hx:okZ (zn x0))(hz:∀z∈zs,okZ z)(hl:zs.length≤1099511627776):wJ Tryz.prog 88 [nI x0,vZs zs,.clo 89 [] []] (fun y=>y=nI (wE6 zs x0)):=by
 refine wC wL Tryz.func88 rfl rfl rfl rfl fun w0=>?_;repeat (first|refine wg rfl (sL (wM8 _)) ?_|refine wv ?_|refine wz ?_)
 refine qC (fun b:Nat×Int=>[jV 4 (.clo 89 [] []),jB 6 3,jC 7 [.v (.bool (zn b.2).1),.v (vL (zn b.2).2)],jB 12 6,jC 13 [.v (.bool false),.nils],jV 18 (vZs zs),jI 20 (zs.length),jI 22 (b.1)])
  (fun b=>b.1≤zs.length∧okZ (zn b.2)∧wE6 (zs.drop b.1) b.2=wE6 zs x0) (fun b=>zs.length-b.1) (0,x0) (fun _=>rfl) ⟨pG _,hx,rfl⟩ ⟨rfl,rfl,rfl,rfl,rfl,rfl,rfl,rfl,trivial⟩ fun⟨j,x⟩ hI=>?_
 obtain⟨h1,h2,h3⟩:=hI;dsimp only at h1 h2 h3 ⊢;rcases pL j zs.length with hj|hj
 ·obtain⟨z,hze⟩:=gE hj;have hzo:=hz z (pE hze);have hg:(zs.map zrow)[j]? = some [.bool z.1,vL z.2]:=by rw[pW,hze];rfl
  have q:=zgcd1_v (zn x) z h2 hzo;rw[wE]at q;have hd:zs.drop j=z::zs.drop (j+1):=by rw[cE hj];rw[pK hj]at hze;cases hze;rfl
  rw[hd]at h3;have hok:=wNE x z h2 hzo;repeat (first|refine wv ?_|refine wg rfl cT ?_|refine wg rfl sB ?_|refine wg rfl (sX j hg) ?_|refine wc q ?_|refine wz ?_)
  exact⟨(j+1,(Int.gcd x (intOf z):Int)),⟨hj,hok,h3⟩,by dsimp only;omega,rfl,rfl,rfl,rfl,rfl,rfl,rfl,rfl,trivial⟩
 ·rw[mP hj]at h3;repeat (first|refine wv ?_|refine wg rfl cF ?_|refine wz ?_)
  refine⟨.inl rfl,_,rfl,?_⟩;rw[←h3];exact rfl
theorem wP2(zs:List ZZ)(hz:∀z∈zs,okZ z)(hl:zs.length≤1099511627776):wJ Tryz.prog 48 [vZs zs] (fun y=>y=nI (wE6 zs 0)):=by
 refine wC wL Tryz.func48 rfl rfl rfl rfl fun w0=>?_;have q:=foldedG_v 0 zs (wFA 0 (by simp[wT])) hz hl;have e0:nI 0=.agg [.bool false,.list []]:=by unfold nI vI zn;simp[wT,vL,uL]
 rw[e0]at q;repeat (first|refine wv ?_|refine wc q ?_|refine wz ?_)
 exact⟨.inl rfl,_,rfl,rfl⟩
abbrev QQ:=ZZ×ZZ
def vQ(q:QQ):V:=.agg [.bool q.1.1,vL q.1.2,.bool q.2.1,vL q.2.2]
def okQ(q:QQ):Prop:=okZ q.1∧okZ q.2
def wW(q:QQ):Rat:=Rat.divInt (intOf q.1) (intOf q.2)
def qn(x:Rat):QQ:=(zn x.num,zn x.den)
def nR(x:Rat):V:=vQ (qn x)
theorem qH3(x:Rat):wW (qn x)=x:=by unfold wW qn;rw[wE,wE];exact dW x
theorem wI4(n d:Int)(h:0<d):(Rat.divInt n d).num=n.tdiv (Int.gcd n d)∧((Rat.divInt n d).den:Int)=d.tdiv (Int.gcd n d):=by have h1:((Int.gcd n d:Nat):Int)∣n:=bZ ..;have h2:((Int.gcd n d:Nat):Int)∣d:=fF ..;rw[Rat.num_divInt,Rat.den_divInt,Int.gcd_comm d n,Int.tdiv_eq_ediv_of_dvd h1,Int.tdiv_eq_ediv_of_dvd h2,Int.sign_eq_one_of_pos h,Int.one_mul,if_neg (by omega)];refine⟨rfl,?_⟩;rw[Int.natCast_ediv,Int.natAbs_of_nonneg (by omega)]
theorem qHJ(n d:Int)(h:d<0):(Rat.divInt n d).num=n.tdiv (-(Int.gcd n d:Int))∧((Rat.divInt n d).den:Int)=d.tdiv (-(Int.gcd n d:Int)):=by have e:Rat.divInt n d=Rat.divInt (-n) (-d):=(Rat.divInt_eq_divInt_iff (by omega) (by omega)).2 (by rw[Int.mul_neg,Int.neg_mul]);have:=wI4 (-n) (-d) (by omega);rw[←e,Int.neg_gcd,Int.gcd_neg,Int.neg_tdiv,Int.neg_tdiv]at this;rw[Int.tdiv_neg,Int.tdiv_neg];exact this
theorem foldG2(a b:ZZ):wE6 [a,b] 0=(Int.gcd (intOf a) (intOf b):Int):=by simp only[wE6,List.foldl_cons,List.foldl_nil];congr 1;unfold Int.gcd;simp
theorem okZ_dvd(x y:Int)(h:x.natAbs≤y.natAbs)(hy:okZ (zn y)):okZ (zn x):=wFA x (pD (w8 h) hy.2)
theorem nR_eq(x:Rat)(a b:Int)(h:x.num=a∧(x.den:Int)=b):nR x=.agg [.bool (zn a).1,vL (zn a).2,.bool (zn b).1,vL (zn b).2]:=by unfold nR qn;rw[h.1,h.2];rfl
theorem make_v(a b:ZZ)(ha:okZ a)(hb:okZ b)(h0:intOf b≠0):wJ Tryz.prog 23 [vI a,vI b] (fun y=>y=.tup [nR (Rat.divInt (intOf a) (intOf b)),.int .i64 0]):=by
 refine wC wL Tryz.func23 rfl rfl rfl rfl fun w0=>?_;have q1:=wII b hb;have q2:=wP2 [a,b] (fun z h=>by rcases pS.1 h with rfl|h;exact ha;rw[pP.1 h];exact hb) (by simp);rw[foldG2]at q2;have og:=wNE (intOf a) b (wDI a ha) hb;have hgd:=dS (intOf a) h0;have h1:((Int.gcd (intOf a) (intOf b):Nat):Int)∣intOf a:=bZ ..;have h2:((Int.gcd (intOf a) (intOf b):Nat):Int)∣intOf b:=fF ..;have hmp:=wI4 (intOf a) (intOf b);have hmn:=qHJ (intOf a) (intOf b);have q3:=zneg_v (zn (Int.gcd (intOf a) (intOf b))) og;have on:=wT1 (zn (Int.gcd (intOf a) (intOf b))) og;rw[wE]at q3 on;generalize hg:((Int.gcd (intOf a) (intOf b):Nat):Int)=g at *
 have hg0:0<g:=by omega
 rcases pD2 h0 with hlt|hgt
 ·have e:sgn (intOf b) = -1:=by unfold sgn;rw[if_pos hlt]
  rw[e]at q1;have q4:=yW a (zn (-g)) ha on (by rw[wE];omega) (by rw[wE];exact pE9.2 h1);have q5:=yW b (zn (-g)) hb on (by rw[wE];omega) (by rw[wE];exact pE9.2 h2);rw[wE]at q4 q5;rw[nR_eq _ _ _ (hmn hlt)];obtain⟨x,l⟩:=a;obtain⟨y,m⟩:=b;repeat (first|refine wv ?_|refine wg rfl cT ?_|refine wg rfl cF ?_|refine wc q1 ?_|refine wh q2 ?_|refine wc q3 ?_|refine wc q4 ?_|refine wc q5 ?_|refine wz ?_)
  exact⟨.inl rfl,_,rfl,rfl⟩
 ·have e:sgn (intOf b)=1:=by unfold sgn;rw[if_neg (by omega),if_pos hgt]
  rw[e]at q1;have q4:=yW a (zn g) ha og (by rw[wE];omega) (by rw[wE];exact h1);have q5:=yW b (zn g) hb og (by rw[wE];omega) (by rw[wE];exact h2);rw[wE]at q4 q5;rw[nR_eq _ _ _ (hmp hgt)];obtain⟨x,l⟩:=a;obtain⟨y,m⟩:=b;repeat (first|refine wv ?_|refine wg rfl cF ?_|refine wc q1 ?_|refine wh q2 ?_|refine wc q4 ?_|refine wc q5 ?_|refine wz ?_)
  exact⟨.inl rfl,_,rfl,rfl⟩
theorem qA0(q:QQ)(h:okQ q)(h0:intOf q.2≠0):wJ Tryz.prog 93 [vQ q] (fun y=>y=.tup [nR (wW q),.int .i64 0]):=by
 refine wC wL Tryz.func93 rfl rfl rfl rfl fun w0=>?_;have q1:=make_v q.1 q.2 h.1 h.2 h0;obtain⟨⟨x,l⟩,⟨y,m⟩⟩:=q;repeat (first|refine wv ?_|refine wc q1 ?_|refine wz ?_)
 exact⟨.inl rfl,_,rfl,rfl⟩
theorem rmake_v(a b:ZZ)(ha:okZ a)(hb:okZ b)(h0:intOf b≠0):wJ Tryz.prog 110 [vI a,vI b] (fun y=>y=nR (Rat.divInt (intOf a) (intOf b))):=by
 refine wC wL Tryz.func110 rfl rfl rfl rfl fun w0=>?_;have q1:=qCG b hb;rcases pD2 h0 with hlt|hgt
 ·have e:sgn (intOf b) = -1:=by unfold sgn;rw[if_pos hlt]
  rw[e]at q1;have n1:=rneg_v a ha;have n2:=rneg_v b hb;have oa:=wT1 a ha;have ob:=wT1 b hb;have ee:Rat.divInt (intOf a) (intOf b)=Rat.divInt (-intOf a) (-intOf b):=(Rat.divInt_eq_divInt_iff (by omega) (by omega)).2 (by rw[Int.mul_neg,Int.neg_mul]);have q2:=rgcd_v (zn (-intOf a)) (zn (-intOf b)) oa ob;have og:=wNE (-intOf a) (zn (-intOf b)) oa ob;rw[wE]at q2 og;rw[wE]at q2;rw[ee];have hd0:0 < -intOf b:=by omega
  generalize -intOf a=X at *
  generalize -intOf b=Y at *
  have hgd:=dS X (show Y≠0 by omega);have h1:((Int.gcd X Y:Nat):Int)∣X:=bZ ..;have h2:((Int.gcd X Y:Nat):Int)∣Y:=fF ..;have hmp:=wI4 X Y hd0;generalize hg:((Int.gcd X Y:Nat):Int)=g at *
  have q4:=wHC (zn X) (zn g) oa og (by rw[wE];omega) (by rw[wE,wE];exact h1);have q5:=wHC (zn Y) (zn g) ob og (by rw[wE];omega) (by rw[wE,wE];exact h2);rw[wE,wE]at q4 q5;rw[nR_eq _ _ _ hmp];obtain⟨x,l⟩:=a;obtain⟨y,m⟩:=b;repeat (first|refine wv ?_|refine wg rfl cT ?_|refine wc q1 ?_|refine wc n1 ?_|refine wc n2 ?_|refine wc q2 ?_|refine wc q4 ?_|refine wc q5 ?_|refine wz ?_)
  exact⟨.inl rfl,_,rfl,rfl⟩
 ·have e:sgn (intOf b)=1:=by unfold sgn;rw[if_neg (by omega),if_pos hgt]
  rw[e]at q1;have q2:=rgcd_v a b ha hb;have og:=wNE (intOf a) b (wDI a ha) hb;have hgd:=dS (intOf a) h0;have h1:((Int.gcd (intOf a) (intOf b):Nat):Int)∣intOf a:=bZ ..;have h2:((Int.gcd (intOf a) (intOf b):Nat):Int)∣intOf b:=fF ..;have hmp:=wI4 (intOf a) (intOf b) hgt;generalize hg:((Int.gcd (intOf a) (intOf b):Nat):Int)=g at *
  have q4:=wHC a (zn g) ha og (by rw[wE];omega) (by rw[wE];exact h1);have q5:=wHC b (zn g) hb og (by rw[wE];omega) (by rw[wE];exact h2);rw[wE]at q4 q5;rw[nR_eq _ _ _ hmp];obtain⟨x,l⟩:=a;obtain⟨y,m⟩:=b;repeat (first|refine wv ?_|refine wg rfl cF ?_|refine wc q1 ?_|refine wc q2 ?_|refine wc q4 ?_|refine wc q5 ?_|refine wz ?_)
  exact⟨.inl rfl,_,rfl,rfl⟩
theorem rNorm05_v(q:QQ)(h:okQ q)(h0:intOf q.2≠0):wJ Tryz.prog 71 [vQ q] (fun y=>y=nR (wW q)):=by
 refine wC wL Tryz.func71 rfl rfl rfl rfl fun w0=>?_;have q1:=rmake_v q.1 q.2 h.1 h.2 h0;obtain⟨⟨x,l⟩,⟨y,m⟩⟩:=q;repeat (first|refine wv ?_|refine wc q1 ?_|refine wz ?_)
 exact⟨.inl rfl,_,rfl,rfl⟩
theorem zof_v(n:Nat)(hn:n<9223372036854775808):wJ Tryz.prog 57 [.int .i64 (n:Nat)] (fun y=>y=nI n):=by
 refine wC wL Tryz.func57 rfl rfl rfl rfl fun w0=>?_;have q1:=natOf_v n (by omega);have q2:=wCD false n;repeat (first|refine wv ?_|refine wg rfl cF ?_|refine wg rfl (qJ wL rfl rfl rfl rfl (j6 (by omega) (by omega)) rfl) ?_|refine wc q1 ?_|refine wc q2 ?_|refine wz ?_)
 exact⟨.inl rfl,_,rfl,rfl⟩
theorem rof_v(n:Nat)(hn:n<9223372036854775808):wJ Tryz.prog 69 [.int .i64 (n:Nat)] (fun y=>y=nI n):=by
 refine wC wL Tryz.func69 rfl rfl rfl rfl fun w0=>?_;have q1:=of01_v n (by omega);repeat (first|refine wv ?_|refine wg rfl cT ?_|refine wg rfl (qJ wL rfl rfl rfl rfl (j6 (by omega) (by omega)) rfl) ?_|refine wc q1 ?_|refine wz ?_)
 exact⟨.inl rfl,_,rfl,nI_of false n⟩
def kL(q:QQ):List V:=[.bool q.1.1,vL q.1.2,.bool q.2.1,vL q.2.2]
def vQs(qs:List QQ):V:=.list (qs.map kL)
theorem vC(qs:List QQ):(qs.map kL).length=qs.length:=pF ..
theorem qA1(qs:List QQ)(q:QQ):qs.map kL++[kL q]=(qs++[q]).map kL:=by simp
theorem wF6(qs:List QQ)(j:Nat)(q:QQ)(h:qs[j]? = some q):(qs.map kL)[j]? = some (kL q):=by rw[pW,h];rfl
theorem dropQ{α:Type}(qs:List α)(j:Nat)(q:α)(h:qs[j]? = some q):qs.drop j=q::qs.drop (j+1):=by obtain⟨hj,rfl⟩:=pY.1 h;exact cE hj
def htQ(q:QQ):Nat:=max (x7 (wB q.1.2)) (x7 (wB q.2.2))
def htL(qs:List QQ)(n:Nat):Nat:=qs.foldl (fun n q=>max n (htQ q)) n
theorem height1_v(qs:List QQ)(hq:∀q∈qs,okQ q)(hl:qs.length≤1099511627776):wJ Tryz.prog 52 [vQs qs] (fun y=>y=.tup [.int .i64 (htL qs 0:Nat),.int .i64 0]):=by
 refine wC wL Tryz.func52 rfl rfl rfl rfl fun w0=>?_;repeat (first|refine wg rfl (sL (vC _)) ?_|refine wv ?_|refine wz ?_)
 refine qC (fun b:Nat×Nat=>[jI 8 (b.2),jV 14 (vQs qs),jI 16 (qs.length),jI 18 (b.1)])
  (fun b=>b.1≤qs.length∧htL (qs.drop b.1) b.2=htL qs 0) (fun b=>qs.length-b.1) (0,0) (fun _=>rfl) ⟨pG _,rfl⟩ ⟨rfl,rfl,rfl,rfl,trivial⟩ fun⟨j,m⟩ hI=>?_
 obtain⟨h1,h3⟩:=hI;dsimp only at h1 h3 ⊢;rcases pL j qs.length with hj|hj
 ·obtain⟨q,hqe⟩:=gE hj;have hqo:=hq q (pE hqe);have hg:=wF6 qs j q hqe;rw[dropQ qs j q hqe]at h3;obtain⟨⟨x,l⟩,⟨y,k⟩⟩:=q;have q1:=wVD l hqo.1.1 (pD hqo.1.2 (by decide));have q2:=wVD k hqo.2.1 (pD hqo.2.2 (by decide));repeat (first|refine wv ?_|refine wg rfl (sX j hg) ?_|refine wc q1 ?_|refine wc q2 ?_|refine wg rfl (sem_max3 rfl rfl rfl rfl rfl rfl rfl) ?_|refine wg rfl cT ?_|refine wg rfl sB ?_|refine wz ?_)
  exact⟨(j+1,max m (htQ ((x,l),(y,k)))),⟨hj,h3⟩,by dsimp only;omega,rfl,rfl,rfl,rfl,trivial⟩
 ·rw[mP hj]at h3;repeat (first|refine wv ?_|refine wg rfl cF ?_|refine wz ?_)
  refine⟨.inl rfl,_,rfl,?_⟩;rw[←h3];exact rfl
theorem madeInt_v(qs:List QQ)(hq:∀q∈qs,okQ q∧intOf q.2≠0)(hl:qs.length≤1099511627776)(hn:∀q∈qs,okQ (qn (wW q))):wJ Tryz.prog 51 [.clo 52 [] [],vQs qs] (fun y=>y=.tup [.int .i64 (htL (qs.map fun q=>qn (wW q)) 0:Nat),.int .i64 0]):=by
 refine wC wL Tryz.func51 rfl rfl rfl rfl fun w0=>?_;repeat (first|refine wg rfl (sL (vC _)) ?_|refine wv ?_|refine wg rfl (sM 7000 0 qs.length 4 64 (es':=[]) rfl) ?_|refine wz ?_)
 refine qC (fun b:Nat×List QQ=>[jV 0 (.clo 52 [] []),jV 12 (.int .i64 0),jO 14 1 43 4 (b.2.map kL),jV 30 (vQs qs),jI 32 (qs.length),jI 34 (b.1)])
  (fun b=>b.1≤qs.length∧b.2=(qs.take b.1).map fun q=>qn (wW q)) (fun b=>qs.length-b.1) (0,[]) (fun _=>rfl) ⟨pG _,rfl⟩ ⟨rfl,rfl,⟨_,rfl⟩,rfl,rfl,rfl,trivial⟩ fun⟨j,out⟩ hI=>?_
 obtain⟨h1,h3⟩:=hI;dsimp only at h1 h3 ⊢;have hol:(out.map kL).length=out.length:=vC _;have hol2:out.length=j:=by rw[h3];simp;omega
 rcases pL j qs.length with hj|hj
 ·obtain⟨q,hqe⟩:=gE hj;have hqo:=hq q (pE hqe);have hg:=wF6 qs j q hqe;have q1:=qA0 q hqo.1 hqo.2;have hs:=qA1 out (qn (wW q));have hnew:out++[qn (wW q)]=(qs.take (j+1)).map fun q=>qn (wW q):=by
   rw[h3,cW,hqe];simp
  unfold nR at q1;generalize qn (wW q)=p at *
  obtain⟨⟨x,l⟩,⟨y,k⟩⟩:=q;obtain⟨⟨x',l'⟩,⟨y',k'⟩⟩:=p;have row4:∀e∈[kL ((x',l'),(y',k'))],e.length=4:=fun e h=>by rw[pP.1 h];rfl
  repeat (first|refine wv ?_|refine wg rfl (sX j hg) ?_|refine wc q1 ?_|refine wf rfl rfl (sA 7001 [kL ((x',l'),(y',k'))] 4 64 row4 hs) ?_|refine wg rfl cT ?_|refine wg rfl nF ?_|refine wg rfl sB ?_|refine wz ?_)
  exact⟨(j+1,out++[((x',l'),(y',k'))]),⟨hj,hnew⟩,by dsimp only;omega,rfl,rfl,⟨_,rfl⟩,rfl,rfl,rfl,trivial⟩
 ·have hje:j=qs.length:=by omega
  subst hje;rw[pZ]at h3;have q1:=height1_v out (fun p hp=>by rw[h3]at hp;obtain⟨q,hq1,rfl⟩:=pR.1 hp;exact hn q hq1) (by omega)
  repeat (first|refine wv ?_|refine wg rfl cF ?_|refine wh q1 ?_|refine wz ?_)
  refine⟨.inl rfl,_,rfl,?_⟩;rw[←h3]
theorem qH4(qs:List QQ)(hq:∀q∈qs,okQ q∧intOf q.2≠0)(hl:qs.length≤1099511627776)(hn:∀q∈qs,okQ (qn (wW q))):wJ Tryz.prog 24 [vQs qs] (fun y=>y=.tup [.int .i64 (htL (qs.map fun q=>qn (wW q)) 0:Nat),.int .i64 0]):=by
 refine wC wL Tryz.func24 rfl rfl rfl rfl fun w0=>?_;have q1:=madeInt_v qs hq hl hn;repeat (first|refine wv ?_|refine wc q1 ?_|refine wz ?_)
 exact⟨.inl rfl,_,rfl,rfl⟩
def lm(x:Int):Nat:=(toL x.natAbs).length
theorem wPJ(x y:Int):lm (x*y)≤lm x+lm y:=by
 unfold lm;rw[Int.natAbs_mul];have:=lenMul (toL x.natAbs) (toL y.natAbs) (qL _) (qL _)
 rwa [wI,wI]at this
theorem lm_add(x y:Int)(k:Nat)(h1:lm x≤k)(h2:lm y≤k):lm (x+y)≤k+1:=by
 unfold lm at *
 have h:=lenAdd (toL x.natAbs) (toL y.natAbs) k (qL _) (qL _) h1 h2;rw[wI,wI]at h;exact pD (w8 (Int.natAbs_add_le x y)) h
theorem wCF{x y:Int}(h:x.natAbs≤y.natAbs):lm x≤lm y:=w8 h
theorem lm_dvd{x y:Int}(h:x∣y)(hy:y≠0):lm x≤lm y:=wCF (cX (by omega) (pB2.2 h))
theorem jU(z:ZZ)(h:okL z.2):lm (intOf z)≤z.2.length:=by unfold lm;rw[zT];exact vO z.2 h
theorem jJ(x:Int)(h:lm x≤1099511627776):okZ (zn x):=wFA x h
theorem zn_lm(x:Int):(zn x).2.length=lm x:=rfl
theorem qBB(x:Int):okL (zn x).2:=qL _
def okS(q:QQ):Prop:=okL q.1.2∧okL q.2.2∧q.1.2.length≤68719476736∧q.2.2.length≤68719476736∧intOf q.2≠0
theorem okS.ok{q:QQ}(h:okS q):okZ q.1∧okZ q.2:=⟨⟨h.1,pD h.2.2.1 (by decide)⟩,⟨h.2.1,pD h.2.2.2.1 (by decide)⟩⟩
theorem wFC(n d:Int)(hd:d≠0):lm (Rat.divInt n d).num≤lm n∧lm ((Rat.divInt n d).den:Int)≤lm d:=by
 rcases pD2 hd with h|h
 ·obtain⟨h1,h2⟩:=qHJ n d h;rw[h1,h2];refine⟨wCF ?_,wCF ?_⟩
  ·rw[bP];exact cO ..
  ·rw[bP];exact cO ..
 ·obtain⟨h1,h2⟩:=wI4 n d h;rw[h1,h2];refine⟨wCF ?_,wCF ?_⟩
  ·rw[bP];exact cO ..
  ·rw[bP];exact cO ..
theorem okS_qn(x:Rat)(h1:lm x.num≤68719476736)(h2:lm (x.den:Int)≤68719476736):okS (qn x):=⟨qL _,qL _,h1,h2,by show intOf (zn (x.den:Int))≠0;rw[wE];have:=x.den_nz;omega⟩
theorem rmul5_v(a b:QQ)(ha:okS a)(hb:okS b):wJ Tryz.prog 72 [vQ a,vQ b] (fun y=>y=nR (wW a*wW b)):=by
 refine wC wL Tryz.func72 rfl rfl rfl rfl fun w0=>?_;have q1:=qCJ a.1 b.1 ha.ok.1 hb.ok.1;have q2:=qCJ a.2 b.2 ha.ok.2 hb.ok.2;have l1:=wPJ (intOf a.1) (intOf b.1);have l2:=wPJ (intOf a.2) (intOf b.2);have m1:=jU a.1 ha.1;have m2:=jU a.2 ha.2.1;have m3:=jU b.1 hb.1;have m4:=jU b.2 hb.2.1;have n1:=ha.2.2.1;have n2:=ha.2.2.2.1;have n3:=hb.2.2.1;have n4:=hb.2.2.2.1;have q3:=rmake_v (zn (intOf a.1*intOf b.1)) (zn (intOf a.2*intOf b.2)) (jJ _ (by omega)) (jJ _ (by omega)) (by rw[wE];exact Int.mul_ne_zero ha.2.2.2.2 hb.2.2.2.2);rw[wE,wE]at q3;have e:wW a*wW b=Rat.divInt (intOf a.1*intOf b.1) (intOf a.2*intOf b.2):=by unfold wW;rw[pB3]
 rw[e];obtain⟨⟨x,l⟩,⟨y,m⟩⟩:=a;obtain⟨⟨x',l'⟩,⟨y',m'⟩⟩:=b;repeat (first|refine wv ?_|refine wc q1 ?_|refine wc q2 ?_|refine wc q3 ?_|refine wz ?_)
 exact⟨.inl rfl,_,rfl,rfl⟩
theorem rint5_v(z:ZZ)(hz:okZ z):wJ Tryz.prog 73 [vI z] (fun y=>y=nR (intOf z:Int)):=by
 refine wC wL Tryz.func73 rfl rfl rfl rfl fun w0=>?_;have q1:=wAB z hz.1 (pD hz.2 (by decide));have q2:=rof_v 1 (by decide);obtain⟨x,l⟩:=z;repeat (first|refine wv ?_|refine wc q1 ?_|refine wc q2 ?_|refine wz ?_)
 exact⟨.inl rfl,_,rfl,rfl⟩
def vT(num:List (List ZZ)):V:=.list (num.map fun r=>[vZs r])
theorem vT_len(num:List (List ZZ)):(num.map fun r=>[vZs r]).length=num.length:=pF ..
theorem vT_at(num:List (List ZZ))(j:Nat)(r:List ZZ)(h:num[j]? = some r):(num.map fun r=>[vZs r])[j]? = some [vZs r]:=by rw[pW,h];rfl
def wWF(num:List (List ZZ)):Bool:=num.all fun r=>decide (r.length=(num.headD []).length)
abbrev MM:=ZZ×List (List ZZ)
def vM(m:MM):V:=.agg [.bool m.1.1,vL m.1.2,vT m.2]
def chk(m:MM):Int:=if intOf m.1=0 then 6 else if wWF m.2=true then 0 else 2
def vD(t:List (List ZZ)):Nat:=(t.headD []).length
theorem cols_v(t:List (List ZZ))(hl:t.length≤1099511627776):wJ Tryz.prog 62 [vT t] (fun y=>y=.int .i64 (vD t:Nat)):=by
 refine wC wL Tryz.func62 rfl rfl rfl rfl fun w0=>?_;cases t with
 |nil=>
  repeat (first|refine wg rfl (sL (vT_len _)) ?_|refine wv ?_|refine wg rfl (vP rfl rfl rfl rfl (rfl) rfl) ?_|refine wz ?_)
  exact⟨.inl rfl,_,rfl,rfl⟩
 |cons r t=>
  have hc:(r::t).length=t.length+1:=rfl;have hg:=vT_at (r::t) 0 r rfl;repeat (first|refine wg rfl (sL (vT_len _)) ?_|refine wg rfl (sL (wM8 _)) ?_|refine wv ?_|refine wg rfl (sX 0 hg) ?_|refine wg rfl cF ?_|refine wz ?_)
  exact⟨.inl rfl,_,rfl,rfl⟩
def v8(rows:List (List (List V))):V:=.list (rows.map fun r=>[V.list r])
def wKA(rows:List (List (List V))):List (List V):=rows.flatten.map fun e=>[V.agg e]
theorem qAC(rows:List (List (List V))):(rows.map fun r=>[V.list r]).length=rows.length:=pF ..
theorem qIE(rows:List (List (List V)))(j:Nat)(r:List (List V))(h:rows[j]? = some r):(rows.map fun r=>[V.list r])[j]? = some [V.list r]:=by rw[pW,h];rfl
theorem flat_at{α:Type}:∀(rows:List (List α))(i j:Nat)(r:List α)(e:α),rows[i]? = some r→r[j]? = some e→rows.flatten[(rows.take i).flatten.length+j]? = some e
 |[],i,j,r,e,h,_=>by simp at h
 |q::rows,0,j,r,e,h,h2=>by simp only[List.getElem?_cons_zero,Option.some.injEq]at h;subst h;have:=(pY.1 h2).1;simp only[List.take_zero,List.flatten_nil,List.length_nil,Nat.zero_add,List.flatten_cons];rw[cD this];exact h2
 |q::rows,i+1,j,r,e,h,h2=>by simp only[List.getElem?_cons_succ]at h;have ih:=flat_at rows i j r e h h2;simp only[List.take_succ_cons,List.flatten_cons,List.length_append];rw[cC (by omega)];rw[←ih];congr 1;omega
theorem wWA{α:Type}(rows:List (List α))(i:Nat)(r:List α)(h:rows[i]? = some r):(rows.take (i+1)).flatten.length=(rows.take i).flatten.length+r.length:=by rw[cW,h];simp
theorem qIF(rows:List (List (List V)))(i j:Nat)(r:List (List V))(e:List V)(h:rows[i]? = some r)(h2:r[j]? = some e):(wKA rows)[(rows.take i).flatten.length+j]? = some [V.agg e]:=by unfold wKA;rw[pW,flat_at rows i j r e h h2];rfl
theorem eachI_v(rows:List (List (List V)))(hk:∀r∈rows,∀e∈r,e.length=2)(hl:rows.length≤1099511627776)(hl2:∀r∈rows,r.length≤1099511627776):VSeq Tryz.prog 99 [] [.ref [v8 rows]] (wKA rows):=by
 refine wTI Tryz.func99 rfl rfl rfl rfl fun l J hR=>?_;refine zZ ?_;refine xN hR fun w0=>?_;repeat (first|refine wg rfl (sL (qAC _)) ?_|refine wv ?_|refine wz ?_)
 refine⟨_,rfl,fun _ _ h=>h,?_⟩;refine yX ?_;refine wSD (fun i:Nat=>[jV 0 (.raw (wEF l)),jV 2 (.ref [v8 rows]),jV 14 (v8 rows),jI 16 (rows.length),jI 18 i])
  (fun i=>some (rows.take i).flatten.length) (fun i=>i≤rows.length) (fun i=>rows.length-i) 0 (fun _=>rfl) (pG _) rfl ⟨rfl,rfl,rfl,rfl,rfl,trivial⟩ fun i hI=>?_
 refine zZ ?_;rcases pL i rows.length with hi|hi
 ·obtain⟨r,hr⟩:=gE hi;have hg:=qIE rows i r hr;have hrl:=hl2 r (pE hr);have hrk:=hk r (pE hr);have hn:=wWA rows i r hr;refine xN hR fun w0=>?_;repeat (first|refine wg rfl cT ?_|refine wz ?_)
  refine⟨_,rfl,fun _ _ h=>h,?_⟩;refine zZ ?_;refine xH rfl (fun _=>?_) (fun h=>by cases h);refine wJ2 ?_;refine zZ ?_;refine yX ?_;refine zZ ?_;refine xN hR fun w0=>?_;repeat (first|refine wv ?_|refine wg rfl (sX i hg) ?_|refine wz ?_)
  refine⟨_,rfl,fun _ _ h=>h,?_⟩;refine zZ ?_;refine xN hR fun w0=>?_;repeat (first|refine wv ?_|refine wz ?_)
  refine⟨_,rfl,fun _ _ h=>h,?_⟩;refine yX ?_;refine wSD (fun j:Nat=>[jV 0 (.raw (wEF l)),jV 2 (.ref [v8 rows]),jV 14 (v8 rows),jI 16 (rows.length),jI 18 i,jV 26 (.list r),jI 28 (r.length),jI 30 j])
   (fun j=>some ((rows.take i).flatten.length+j)) (fun j=>j≤r.length) (fun j=>r.length-j) 0 (fun _=>rfl) (pG _) rfl ⟨rfl,rfl,rfl,rfl,rfl,rfl,rfl,rfl,trivial⟩ fun j hJ=>?_
  refine zZ ?_;rcases pL j r.length with hj|hj
  ·obtain⟨e,he⟩:=gE hj;have hek:=hrk e (pE he);have hL:=qIF rows i j r e hr he;refine xN hR fun w0=>?_;repeat (first|refine wg rfl cT ?_|refine wz ?_)
   refine⟨_,rfl,fun _ _ h=>h,?_⟩;refine zZ ?_;refine xH rfl (fun _=>?_) (fun h=>by cases h);refine wJ2 ?_;refine zZ ?_;refine yX ?_;refine zZ ?_
   match e,hek,he,hL with
   |[x,y],_,he,hL=>
   refine xN hR fun w0=>?_;repeat (first|refine wv ?_|refine wg rfl (sX j he) ?_|refine wz ?_)
   refine⟨[jV 0 (.raw (wEF l)),jV 2 (.ref [v8 rows]),jV 12 (.ref [x,y]),jV 14 (v8 rows),jI 16 (rows.length),jI 18 i,jV 26 (.list r),jI 28 (r.length),jI 30 j],rfl,imp_frz [.tmp 6] rfl ⟨rfl,rfl,rfl,rfl,rfl,rfl,rfl,rfl,rfl,trivial⟩,?_⟩;refine zZ ?_;refine vi_si ?_;refine si_v wL hR rfl rfl rfl rfl rfl rfl ?_;refine si_v wL hR rfl rfl rfl rfl rfl rfl ?_;refine qG2 hR rfl rfl rfl rfl rfl rfl hL rfl rfl rfl ?_ ?_
   ·refine si_v wL hR rfl rfl rfl rfl rfl rfl ?_;refine wSG rfl ?_;refine xH rfl (fun h=>by cases h) (fun _=>?_);refine wJ2 ?_;refine xN hR fun w0=>?_;repeat (first|refine wv ?_|refine wg rfl sB ?_|refine wz ?_)
    refine⟨_,rfl,fun _ _ h=>h,?_⟩;exact⟨j+1,hj,by omega,rfl,rfl,rfl,rfl,rfl,rfl,rfl,rfl,rfl,trivial⟩
   ·refine si_v wL hR rfl rfl rfl rfl rfl rfl ?_;refine wSG rfl ?_;refine xH rfl (fun _=>?_) (fun h=>by cases h);refine vi_ret ?_;exact⟨.inl rfl,.inr rfl⟩
  ·refine xN hR fun w0=>?_;repeat (first|refine wg rfl cF ?_|refine wz ?_)
   refine⟨_,rfl,fun _ _ h=>h,?_⟩;refine zZ ?_;refine xH rfl (fun h=>by cases h) (fun _=>?_);refine wSE ?_;refine xN hR fun w0=>?_;repeat (first|refine wv ?_|refine wg rfl sB ?_|refine wz ?_)
   refine⟨_,rfl,fun _ _ h=>h,?_⟩;have hje:j=r.length:=by omega
   subst hje;exact⟨i+1,hi,by omega,by rw[hn],rfl,rfl,rfl,rfl,rfl,trivial⟩
 ·refine xN hR fun w0=>?_;repeat (first|refine wg rfl cF ?_|refine wz ?_)
  refine⟨_,rfl,fun _ _ h=>h,?_⟩;refine zZ ?_;refine xH rfl (fun h=>by cases h) (fun _=>?_);refine wSE ?_;have hie:i=rows.length:=by omega
  subst hie;refine⟨.inr rfl,.inl ?_⟩;unfold wKA;rw[pZ,pF]
theorem eachR_v(rows:List (List (List V)))(hk:∀r∈rows,∀e∈r,e.length=4)(hl:rows.length≤1099511627776)(hl2:∀r∈rows,r.length≤1099511627776):VSeq Tryz.prog 54 [] [.ref [v8 rows]] (wKA rows):=by
 refine wTI Tryz.func54 rfl rfl rfl rfl fun l J hR=>?_;refine zZ ?_;refine xN hR fun w0=>?_;repeat (first|refine wg rfl (sL (qAC _)) ?_|refine wv ?_|refine wz ?_)
 refine⟨_,rfl,fun _ _ h=>h,?_⟩;refine yX ?_;refine wSD (fun i:Nat=>[jV 0 (.raw (wEF l)),jV 2 (.ref [v8 rows]),jV 14 (v8 rows),jI 16 (rows.length),jI 18 i])
  (fun i=>some (rows.take i).flatten.length) (fun i=>i≤rows.length) (fun i=>rows.length-i) 0 (fun _=>rfl) (pG _) rfl ⟨rfl,rfl,rfl,rfl,rfl,trivial⟩ fun i hI=>?_
 refine zZ ?_;rcases pL i rows.length with hi|hi
 ·obtain⟨r,hr⟩:=gE hi;have hg:=qIE rows i r hr;have hrl:=hl2 r (pE hr);have hrk:=hk r (pE hr);have hn:=wWA rows i r hr;refine xN hR fun w0=>?_;repeat (first|refine wg rfl cT ?_|refine wz ?_)
  refine⟨_,rfl,fun _ _ h=>h,?_⟩;refine zZ ?_;refine xH rfl (fun _=>?_) (fun h=>by cases h);refine wJ2 ?_;refine zZ ?_;refine yX ?_;refine zZ ?_;refine xN hR fun w0=>?_;repeat (first|refine wv ?_|refine wg rfl (sX i hg) ?_|refine wz ?_)
  refine⟨_,rfl,fun _ _ h=>h,?_⟩;refine zZ ?_;refine xN hR fun w0=>?_;repeat (first|refine wv ?_|refine wz ?_)
  refine⟨_,rfl,fun _ _ h=>h,?_⟩;refine yX ?_;refine wSD (fun j:Nat=>[jV 0 (.raw (wEF l)),jV 2 (.ref [v8 rows]),jV 14 (v8 rows),jI 16 (rows.length),jI 18 i,jV 26 (.list r),jI 28 (r.length),jI 30 j])
   (fun j=>some ((rows.take i).flatten.length+j)) (fun j=>j≤r.length) (fun j=>r.length-j) 0 (fun _=>rfl) (pG _) rfl ⟨rfl,rfl,rfl,rfl,rfl,rfl,rfl,rfl,trivial⟩ fun j hJ=>?_
  refine zZ ?_;rcases pL j r.length with hj|hj
  ·obtain⟨e,he⟩:=gE hj;have hek:=hrk e (pE he);have hL:=qIF rows i j r e hr he;refine xN hR fun w0=>?_;repeat (first|refine wg rfl cT ?_|refine wz ?_)
   refine⟨_,rfl,fun _ _ h=>h,?_⟩;refine zZ ?_;refine xH rfl (fun _=>?_) (fun h=>by cases h);refine wJ2 ?_;refine zZ ?_;refine yX ?_;refine zZ ?_
   match e,hek,he,hL with
   |[x,y,z,u],_,he,hL=>
   refine xN hR fun w0=>?_;repeat (first|refine wv ?_|refine wg rfl (sX j he) ?_|refine wz ?_)
   refine⟨[jV 0 (.raw (wEF l)),jV 2 (.ref [v8 rows]),jV 12 (.ref [x,y,z,u]),jV 14 (v8 rows),jI 16 (rows.length),jI 18 i,jV 26 (.list r),jI 28 (r.length),jI 30 j],rfl,imp_frz [.tmp 6] rfl ⟨rfl,rfl,rfl,rfl,rfl,rfl,rfl,rfl,rfl,trivial⟩,?_⟩;refine zZ ?_;refine vi_si ?_;refine si_v wL hR rfl rfl rfl rfl rfl rfl ?_;refine si_v wL hR rfl rfl rfl rfl rfl rfl ?_;refine qG2 hR rfl rfl rfl rfl rfl rfl hL rfl rfl rfl ?_ ?_
   ·refine si_v wL hR rfl rfl rfl rfl rfl rfl ?_;refine wSG rfl ?_;refine xH rfl (fun h=>by cases h) (fun _=>?_);refine wJ2 ?_;refine xN hR fun w0=>?_;repeat (first|refine wv ?_|refine wg rfl sB ?_|refine wz ?_)
    refine⟨_,rfl,fun _ _ h=>h,?_⟩;exact⟨j+1,hj,by omega,rfl,rfl,rfl,rfl,rfl,rfl,rfl,rfl,rfl,trivial⟩
   ·refine si_v wL hR rfl rfl rfl rfl rfl rfl ?_;refine wSG rfl ?_;refine xH rfl (fun _=>?_) (fun h=>by cases h);refine vi_ret ?_;exact⟨.inl rfl,.inr rfl⟩
  ·refine xN hR fun w0=>?_;repeat (first|refine wg rfl cF ?_|refine wz ?_)
   refine⟨_,rfl,fun _ _ h=>h,?_⟩;refine zZ ?_;refine xH rfl (fun h=>by cases h) (fun _=>?_);refine wSE ?_;refine xN hR fun w0=>?_;repeat (first|refine wv ?_|refine wg rfl sB ?_|refine wz ?_)
   refine⟨_,rfl,fun _ _ h=>h,?_⟩;have hje:j=r.length:=by omega
   subst hje;exact⟨i+1,hi,by omega,by rw[hn],rfl,rfl,rfl,rfl,rfl,trivial⟩
 ·refine xN hR fun w0=>?_;repeat (first|refine wg rfl cF ?_|refine wz ?_)
  refine⟨_,rfl,fun _ _ h=>h,?_⟩;refine zZ ?_;refine xH rfl (fun h=>by cases h) (fun _=>?_);refine wSE ?_;have hie:i=rows.length:=by omega
  subst hie;refine⟨.inr rfl,.inl ?_⟩;unfold wKA;rw[pZ,pF]
end Go.Proofs.YtmkgenngokjbiaaGreatDoor
/- More steps of the walk: empty slices in variables, told as rows of one's own. -/
namespace Go.Vl
open Go.RowKit Go.Ev
section
variable{P:Program}{w0:Base}{n:Nat}{st:St}{Q:vH}{ops:Array Oper}
theorem wVB{d j k:Nat}{T:TypeId}{cs:List SV}(h:lk st (2*d+1)=some (.bx cs))(hj:cs[j]? = some .nils∨cs[j]? = some (.v (.raw (.slice none 0 0)))):∀a w,Hs w0 n (lk st) a w→∃_:Unit,Hs w0 n (lk ((2*d+1,some (.bx (cs.set j (.own 0 T k []))))::st)) a w:=by
 rintro a w ⟨β,hh⟩;refine⟨(),?_⟩;obtain⟨B,T',us,g1,g2,g3,g4⟩:=hh.box d cs h;have hd:wD8 (lk st) (2*d+1) (j+1):=by
  unfold wD8;rw[if_neg (by omega)];refine⟨fun cs' x e hx=>?_,fun T k L e=>?_⟩
  ·rw[h]at e;cases e;rw[show j+1-1=j by omega]at hx;rcases hj with hj|hj<;>(rw[hj]at hx;cases hx;rfl)
  ·rw[h]at e;cases e
 have h5:=hh.unbind hd (.inr (by omega));have hS:∀b,qM β b→qM (upB β (2*d+1) (j+1) none) b:=fun b hb K J e=>by
  unfold upB at e;split at e
  ·cases e
  ·exact hb _ _ e
 have hlt:j<cs.length:=by rcases hj with hj|hj<;>exact(pY.1 hj).1
 have h6:=h5.rebox (d:=d) (B:=B) (T:=T') (us:=us) (cs:=cs.set j (.own 0 T k [])) (by rw[kE _ _ (by omega)];exact g1) g2 (by simp[g3]) fun q y u hy hu=>by
  by_cases hq:j=q
  ·subst hq;rw[bT hlt]at hy;cases hy;have k1:u=.slice none 0 0:=by
    rcases hj with hj|hj
    ·exact(g4 j _ u hj hu).1
    ·have:=(g4 j _ u hj hu).1;generalize hz:Value.slice none 0 0=z at this;cases this;rfl
   subst k1;exact⟨⟨by simp,by rw[j9];rfl,[],World.ownsRow_nil _ _ _ _,.nil⟩,rfl,rfl⟩
  ·rw[fD hq]at hy;obtain⟨k1,k2,k3⟩:=g4 q y u hy hu;exact⟨k1.keep (fun b hb _=>⟨hS b hb,rfl⟩) (fun _=>by rw[kE _ _ (by omega)]) (fun _ _ _=>rfl) (fun K J hK=>absurd hK (wBA k3 K J)),k2,k3⟩
 refine⟨_,h6.less fun K c e=>?_⟩;have e2:=zN (u:=[(2*d+1,some (Cell.bx (cs.set j (.own 0 T k []))))]) (st:=st);rw[app1]at e2;rw[show lk ((2*d+1,some (Cell.bx (cs.set j (.own 0 T k []))))::st)=upd (lk st) (2*d+1) (some (.bx (cs.set j (.own 0 T k []))))from e2]at e;exact e
theorem wKI{c:Code}(d j k:Nat)(T:TypeId){cs cs':List SV}(h:lk st (2*d+1)=some (.bx cs))(hj:cs[j]? = some (.v (.raw (.slice none 0 0))))(hc:cs.set j (.own 0 T k [])=cs')(hv:VW P w0 n c Q ((2*d+1,some (.bx cs'))::st)):VW P w0 n c Q st:=by subst hc;exact vw_ex _ (wVB h (.inr hj)) fun _=>hv
theorem vw_nilOwnB{c:Code}(d j k:Nat)(T:TypeId){cs cs':List SV}(h:lk st (2*d+1)=some (.bx cs))(hj:cs[j]? = some .nils)(hc:cs.set j (.own 0 T k [])=cs')(hv:VW P w0 n c Q ((2*d+1,some (.bx cs'))::st)):VW P w0 n c Q st:=by subst hc;exact vw_ex _ (wVB h (.inl hj)) fun _=>hv
def toV1N:Value→Option V
 |.slice none 0 0=>some (.raw (.slice none 0 0))
 |v=>toV1 v
def toVsN:List Value→Option (List V)
 |[]=>some []
 | v::vs=>match toV1N v with
  |none=>none
  |some x=>match toVsN vs with
   |none=>none
   |some xs=>some (x::xs)
theorem toV1N_rep{S:Nat→Prop}{w:World}{v:Value}{x:V}(e:toV1N v=some x):Rep S w x v∧x.one=true:=by
 unfold toV1N at e;split at e
 ·cases e;exact⟨.raw rfl,rfl⟩
 ·exact wU3 e
theorem wZC{S:Nat→Prop}{w:World}:∀{vs:List Value}{xs:List V},toVsN vs=some xs→RepL S w xs vs∧wX xs=true
 |[],xs,e=>by cases e;exact⟨.nil,rfl⟩
 | v::vs,xs,e=>by
  simp only[toVsN]at e;cases h1:toV1N v with
  |none=>rw[h1]at e;cases e
  | some x=>
   rw[h1]at e;dsimp only at e;cases h2:toVsN vs with
   |none=>rw[h2]at e;cases e
   |some ys=>rw[h2]at e;cases e;have a:=toV1N_rep (S:=S) (w:=w) h1;have b:=wZC (S:=S) (w:=w) h2;exact⟨.cons a.1 b.1,by simp only[wX,List.all_cons,a.2,Bool.true_and];exact b.2⟩
theorem xL{C:Cx}{o:Oper}(hC:CxOk P C){t:TypeId}{ps:Array (Nat×Operand)}{fs:Array Field}{i:TypeInfo}{z:Value}{zc r:List V}{pl:List (Nat×Nat)}{xs:List (Nat×V)}(hop:o.op=.build t ps)(ht:C.und t=some (.struct fs))(hi:C.tys.get t=some i)(hz:i.zero=some z)(hzc:toVsN z.cells.toList=some zc)(hpl:qBH C fs.toList=some pl)(hx:wA1 (lk st) ps.toList=some xs)(hr:wGB (fun i=>pl[i]?) zc xs=some r)(hd:dLt n o.dst=true):wQ P w0 n o (rdP ps.toList) (dput o.dst (some (.sv (.v (.agg r))))) [] (lk st):=
 qI hd fun f hf β a w hh=>by
  have hp:=hh.pairs (l:=ps.toList) (r:=xs) (by rw[xW hf];exact hx);obtain⟨g1,g2⟩:=wZC (S:=qM β) (w:=w) hzc;obtain⟨rs,h1,h2,h3⟩:=wMC hp g1 g2 hr;refine⟨.agg rs,?_,by have:=Rep.agg h3 h2;simpa using this⟩;have hm:=wI3 (w:=w) hC _ _ hpl;have hpl':(fs.mapM fun f=>do pure (f.offset,←sizeOf f.type):Sem (Array (Nat×Nat))).run P w=.ok pl.toArray w:=by rw[←dY (xs:=fs),fR];simp only[Sem.run_map,hm,Result.andThen_ok]
  have hzr:(zeroValue t).run P w=.ok z w:=by simp[zeroValue,typeInfo,hC.tys _ _ hi,hz]
  have hfl:Instr.fill (pl.toArray[·]?) z.cells (ps.map fun(i,x)=>(i,a.eval x)).toList=some rs:=by
   rw[←h1];congr 1
   ·funext i;simp
   ·simp
  have hb:(Instr.build t (ps.map fun(i,x)=>(i,a.eval x))).run P w=.ok (.agg rs) w:=by simp only[Instr.build,Sem.run_bind,hzr,Result.andThen_ok,wP hC ht,hpl'];rw[hfl];rfl
  simp only[execOp,hop];rw[Sem.run_bind,hb];rfl
theorem rr_vfx{C:Cx}{o:Oper}{id k:Nat}{dr:Bool}{st0:St}{acc:List Stp}{rd:List Nat}{nw:List (Nat×Nat)}{u:St}(hC:CxOk P C)(l:List Operand){gr:List Nat}{g:List Nat×St}(ho:ops.toList[k]? = some o)(hg:gRd n ops (lk st) o=some gr)(hf:wLB (lk st) l=g)(h:vop C (id*1000+k+1) n (lk (g.2++st)) o=some (rd,u,nw))(hn:nw.all (y4 st)=true)(hk:RR P w0 n id ops dr Q st0 (k+1) (⟨gr++(rd++g.1),u++g.2,nw⟩::acc) ((u++g.2)++st)):RR P w0 n id ops dr Q st0 k acc st:=by subst hf;exact rr_g ho hg (wQ.ghost wO5.1 frzL_np (by rw[←zN];exact wTJ hC h)) hn hk
theorem wQ.more{o:Oper}{rd:List Nat}{nw:List (Nat×Nat)}{u:St}{f:Fm}(ex:List Nat)(h:wQ P w0 n o rd u nw f):wQ P w0 n o (rd++ex) u nw f:=fun g hg=>h g fun k hk=>hg k (cR _ hk)
theorem rr_alloc{C:Cx}{o:Oper}{id k d:Nat}{dr:Bool}{st0:St}{acc:List Stp}{rd:List Nat}{nw:List (Nat×Nat)}{u:St}{t:TypeId}(hC:CxOk P C){gr:List Nat}(ho:ops.toList[k]? = some o)(hal:o.op=.alloc t)(hd:o.dst=some d)(hg:gRd n ops (lk st) o=some gr)(h:vop C (id*1000+k+1) n (lk st) o=some (rd,u,nw))(hn:nw.all (y4 st)=true)(hk:RR P w0 n id ops dr Q st0 (k+1) (⟨gr++(rd++[2*d+1]),u,nw⟩::acc) (u++st)):RR P w0 n id ops dr Q st0 k acc st:=
 rr_g ho hg (wQ.more [2*d+1] (wTJ hC h)) hn hk
theorem qBG{x y:Code}{B:Type}(T:B→St)(I:B→Prop)(hfl:∀b,flat (T b)=true)(hx:VW P w0 n x (thenV (fun st'=>∃b,I b∧sub (T b) (lk st')) Q) st)(hy:∀b,I b→VW P w0 n y Q (T b)):VW P w0 n x (thenV (fun st'=>VW P w0 n y Q st') Q) st:=fun a w hh=>
 wpIn_mono (hx a w hh) fun e a w hq=>by
  obtain⟨st',h1,h2⟩:=hq;cases e with
  |normal=>obtain⟨b,g1,g2⟩:=h1;exact⟨T b,hy b g1,h2.sub g2 (hfl _)⟩
  |_=>exact⟨st',h1,h2⟩
theorem nilVB_ok{d j:Nat}{cs:List SV}(h:lk st (2*d+1)=some (.bx cs))(hj:cs[j]? = some .nils):∀a w,Hs w0 n (lk st) a w→∃_:Unit,Hs w0 n (lk ((2*d+1,some (.bx (cs.set j (.v (.list [])))))::st)) a w:=by
 rintro a w ⟨β,hh⟩;refine⟨(),β,?_⟩;obtain⟨B,T',us,g1,g2,g3,g4⟩:=hh.box d cs h;have hlt:j<cs.length:=(pY.1 hj).1;have h6:=hh.rebox (d:=d) (B:=B) (T:=T') (us:=us) (cs:=cs.set j (.v (.list []))) g1 g2 (by simp[g3]) fun q y u hy hu=>by
  by_cases hq:j=q
  ·subst hq;rw[bT hlt]at hy;cases hy;have k1:u=.slice none 0 0:=(g4 j _ u hj hu).1;subst k1;exact⟨Rep.nils,rfl,rfl⟩
  ·rw[fD hq]at hy;exact g4 q y u hy hu
 have e2:=zN (u:=[(2*d+1,some (Cell.bx (cs.set j (.v (.list [])))))]) (st:=st);rw[app1]at e2;rw[show lk ((2*d+1,some (.bx (cs.set j (.v (.list [])))))::st)=upd (lk st) (2*d+1) (some (.bx (cs.set j (.v (.list [])))))from e2];exact h6
theorem vw_nilVB{c:Code}(d j:Nat){cs cs':List SV}(h:lk st (2*d+1)=some (.bx cs))(hj:cs[j]? = some .nils)(hc:cs.set j (.v (.list []))=cs')(hv:VW P w0 n c Q ((2*d+1,some (.bx cs'))::st)):VW P w0 n c Q st:=by subst hc;exact vw_ex _ (nilVB_ok h hj) fun _=>hv
theorem unpin_ok{s d:Nat}{u0:Value}{cs:List SV}(h:lk st (2*s)=some (.sv (.rp d u0 0)))(hb:lk st (2*d+1)=some (.bx cs)):∀a w,Hs w0 n (lk st) a w→∃_:Unit,Hs w0 n (lk ((2*s,some (.sv (.bx d 0)))::st)) a w:=by
 rintro a w ⟨β,hh⟩;obtain⟨B,T,us,g1,_⟩:=hh.box d cs hb;have hs:=hh.slot s _ h;obtain⟨⟨B',hr,hv⟩,h2⟩:=hs;refine⟨(),β,?_⟩;have h3:=hh.reslot (d:=s) (x:=.bx d 0) rfl (fun B1 hB1=>by rw[g1]at hB1;cases hB1;have:=h2 B g1;rw[hr]at this;cases this;exact hv)
 rw[show lk ((2*s,some (.sv (.bx d 0)))::st)=upd (lk st) (2*s) (some (.sv (.bx d 0)))from by have e:=zN (u:=[(2*s,some (Cell.sv (.bx d 0)))]) (st:=st);rw[app1]at e;exact e]
 exact h3
theorem wTG{c:Code}(s d:Nat){u0:Value}{cs:List SV}(h:lk st (2*s)=some (.sv (.rp d u0 0)))(hb:lk st (2*d+1)=some (.bx cs))(hv:VW P w0 n c Q ((2*s,some (.sv (.bx d 0)))::st)):VW P w0 n c Q st:=vw_ex _ (unpin_ok h hb) fun _=>hv
end
end Go.Vl
namespace Go.Proofs.YtmkgenngokjbiaaGreatDoor
open Go.RowKit Go.Ev Go.Vl
theorem wl{w0:Base}{n:Nat}{st:St}{Q:vH}{ops:Array Oper}{o:Oper}{id k d:Nat}{dr:Bool}{st0:St}{acc:List Stp}{rd:List Nat}{nw:List (Nat×Nat)}{u:St}{t:TypeId}{gr:List Nat}(hk:RR Tryz.prog w0 n id ops dr Q st0 (k+1) (⟨gr++(rd++[2*d+1]),u,nw⟩::acc) (u++st))(ho:ops.toList[k]? = some o:=by exact rfl)(hal:o.op=.alloc t:=by exact rfl)(hd:o.dst=some d:=by exact rfl)(hg:gRd n ops (lk st) o=some gr:=by exact rfl)(h:vop qB (id*1000+k+1) n (lk st) o=some (rd,u,nw):=by exact rfl)(hn:nw.all (y4 st)=true:=by exact rfl):RR Tryz.prog w0 n id ops dr Q st0 k acc st:=rr_alloc wL ho hal hd hg h hn hk
def w9(z:Bool×List Nat):List V:=[.bool z.1,vL z.2]
def wHA(r c:Nat)(F:Nat→Nat→Bool×List Nat):List (List (Bool×List Nat)):=(List.range r).map fun i=>(List.range c).map fun k=>F i k
def xO(t:List (List (Bool×List Nat))):List (List V):=t.map fun r=>[V.list (r.map w9)]
abbrev Z0:=Bool×List Nat
abbrev M0:=Z0×List (List Z0)
def tV(t:List (List Z0)):V:=.list (xO t)
def mV(m:M0):V:=.agg [.bool m.1.1,vL m.1.2,tV m.2]
theorem zc_len(zs:List Z0):(zs.map w9).length=zs.length:=pF ..
theorem zc_at(zs:List Z0)(j:Nat)(z:Z0)(h:zs[j]? = some z):(zs.map w9)[j]? = some (w9 z):=by rw[pW,h];rfl
theorem wP4(t:List (List Z0)):(xO t).length=t.length:=pF ..
theorem tv_at(t:List (List Z0))(j:Nat)(r:List Z0)(h:t[j]? = some r):(xO t)[j]? = some [V.list (r.map w9)]:=by unfold xO;rw[pW,h];rfl
theorem same3_v(z z':Z0)(h:okL z.2)(h':okL z'.2)(hl:z.2.length≤1099511627776):wJ Tryz.prog 17 [.agg (w9 z),.agg (w9 z')] (fun y=>y=.bool (decide (z=z'))):=by
 refine wC wL Tryz.func17 rfl rfl rfl rfl fun w0=>?_;have q1:=same01_v z.2 z'.2 h h' (pD hl (by decide));obtain⟨b,l⟩:=z;obtain⟨b',l'⟩:=z';have e1:∀c:Bool,decide ((c,l)=(c,l'))=decide (l=l'):=fun c=>by simp
 cases b<;>cases b'
 ·rw[e1];repeat (first|refine wv ?_|refine wg rfl (vS wL rfl rfl rfl rfl (.inl ⟨rfl,rfl⟩) rfl) ?_|refine wc q1 ?_|refine wz ?_)
  exact⟨.inl rfl,_,rfl,rfl⟩
 ·repeat (first|refine wv ?_|refine wg rfl (vS wL rfl rfl rfl rfl (.inl ⟨rfl,rfl⟩) rfl) ?_|refine wGE rfl rfl rfl rfl rfl rfl ?_|refine wz ?_)
  refine⟨.inl rfl,_,rfl,?_⟩;simp
 ·repeat (first|refine wv ?_|refine wg rfl (vS wL rfl rfl rfl rfl (.inl ⟨rfl,rfl⟩) rfl) ?_|refine wGE rfl rfl rfl rfl rfl rfl ?_|refine wz ?_)
  refine⟨.inl rfl,_,rfl,?_⟩;simp
 ·rw[e1];repeat (first|refine wv ?_|refine wg rfl (vS wL rfl rfl rfl rfl (.inl ⟨rfl,rfl⟩) rfl) ?_|refine wc q1 ?_|refine wz ?_)
  exact⟨.inl rfl,_,rfl,rfl⟩
theorem qAE:∀(zs:List ZZ)(x:Int),wE6 zs x∣x∧∀z∈zs,wE6 zs x∣intOf z
 |[],x=>⟨Int.dvd_refl x,by simp⟩
 | z::zs,x=>by
  obtain⟨h1,h2⟩:=qAE zs ((Int.gcd x (intOf z):Nat):Int);have e:wE6 (z::zs) x=wE6 zs ((Int.gcd x (intOf z):Nat):Int):=rfl;rw[e];exact⟨Int.dvd_trans h1 (bZ ..),fun q hq=>by
   rcases pS.1 hq with rfl|hq
   ·exact Int.dvd_trans h1 (fF ..)
   ·exact h2 q hq⟩
def wIA(t:List (List ZZ)):Int:=wE6 t.flatten 0
def wK7(d:ZZ)(t:List (List ZZ)):Int:=
 let g:=if wIA t=0 then((intOf d).natAbs:Int)else(Int.gcd (wIA t) (intOf d):Nat)
 if intOf d<0 then -g else g
def wCE(d:ZZ)(t:List (List ZZ)):MM:=(zn (if vD t=0 then 1 else(intOf d).tdiv (wK7 d t)),t.map fun r=>r.map fun x=>zn ((intOf x).tdiv (wK7 d t)))
def wI5(d:ZZ)(t:List (List ZZ)):Int:=if wIA t=0 then((intOf d).natAbs:Int)else(Int.gcd (wIA t) (intOf d):Nat)
theorem wL7(d:ZZ)(t:List (List ZZ))(hd:intOf d≠0):0<wI5 d t∧wI5 d t∣intOf d∧∀r∈t,∀x∈r,wI5 d t∣intOf x:=by
 obtain⟨_,h2⟩:=qAE t.flatten 0;unfold wI5;by_cases h0:wIA t=0
 ·rw[if_pos h0];refine⟨by omega,Int.natAbs_dvd.2 (Int.dvd_refl _),fun r hr x hx=>?_⟩;have:=h2 x (dO.2 ⟨r,hr,hx⟩);unfold wIA at h0;rw[h0,Int.zero_dvd]at this;rw[this];exact Int.dvd_zero _
 ·rw[if_neg h0];refine⟨?_,fF ..,fun r hr x hx=>?_⟩
  ·have:=dS (wIA t) hd;omega
  ·exact Int.dvd_trans (bZ ..) (h2 x (dO.2 ⟨r,hr,hx⟩))
theorem wVH(d:ZZ)(t:List (List ZZ)):wK7 d t=if intOf d<0 then -wI5 d t else wI5 d t:=rfl
theorem wVG(d:ZZ)(t:List (List ZZ))(hd:intOf d≠0):wK7 d t≠0∧wK7 d t∣intOf d∧∀r∈t,∀x∈r,wK7 d t∣intOf x:=by
 obtain⟨h1,h2,h3⟩:=wL7 d t hd;rw[wVH];split
 ·exact⟨by omega,pE9.2 h2,fun r hr x hx=>pE9.2 (h3 r hr x hx)⟩
 ·exact⟨by omega,h2,h3⟩
theorem gridT(t:List (List ZZ)):v8 (t.map fun r=>r.map zrow)=vT t:=by unfold v8 vT vZs;rw[bB];rfl
theorem gridTL(t:List (List ZZ)):wKA (t.map fun r=>r.map zrow)=t.flatten.map fun z=>[vI z]:=by unfold wKA;rw[←pE4,bB];rfl
theorem eachI2_v(rows:List (List (List V))):wJ Tryz.prog 60 [v8 rows] (fun y=>y=.clo 99 [] [.ref [v8 rows]]):=by
 refine wC wL Tryz.func60 rfl rfl rfl rfl fun w0=>?_;repeat (first|refine wv ?_|refine wx ?_|refine wz ?_)
 exact⟨.inl rfl,_,rfl,rfl⟩
theorem foldG2'(g:Int)(z:ZZ):wE6 [zn g,z] 0=(Int.gcd g (intOf z):Nat):=by show(Int.gcd ((Int.gcd 0 (intOf (zn g)):Nat):Int) (intOf z):Int)=_;rw[wE,Int.gcd_zero_left];unfold Int.gcd;rw[cJ]
theorem flat_ok(t:List (List ZZ))(ht:∀r∈t,∀x∈r,okZ x)(z:ZZ)(h:z∈t.flatten):okZ z:=by obtain⟨r,h1,h2⟩:=dO.1 h;exact ht r h1 z h2
theorem wLJ{α:Type}(l:List α)(j:Nat)(x:α)(h:l[j]? = some x):l.drop j=x::l.drop (j+1):=by have hj:=(pY.1 h).1;rw[cE hj];rw[pK hj]at h;cases h;rfl
theorem made_v(d:ZZ)(t:List (List ZZ))(hd:okZ d)(h0:intOf d≠0)(ht:∀r∈t,∀x∈r,okZ x)(hl:t.length≤1099511627776)(hl2:∀r∈t,r.length≤1099511627776):wJ Tryz.prog 28 [vI d,vT t] (fun y=>y=vM (wCE d t)):=by
 refine wD2 wL Tryz.func28 rfl rfl rfl rfl fun w0 hmk hro=>?_;have q0:=eachI2_v (t.map fun r=>r.map zrow);rw[gridT]at q0;have hseq:=eachI_v (t.map fun r=>r.map zrow) (fun r hr e he=>by
  obtain⟨r',_,rfl⟩:=pR.1 hr;obtain⟨z,_,rfl⟩:=pR.1 he;rfl) (by simpa using hl) (fun r hr=>by
  obtain⟨r',h1,rfl⟩:=pR.1 hr;simpa using hl2 r' h1)
 rw[gridTL,gridT]at hseq;obtain⟨x,l⟩:=d;repeat (first|refine wv ?_|refine wc q0 ?_|refine wz ?_)
 refine wTH 2 2 rfl rfl fun u2=>?_;refine wTH 4 4 rfl rfl fun u4=>?_;refine wTH 5 5 rfl rfl fun u5=>?_;refine vw_nilVB 5 1 rfl rfl rfl ?_;refine wMB wL (fun b:ZZ=>[jC 5 [.v (.bool x),.v (vL l)],jC 9 [.v (.bool false),.nils,.nils],jC 11 [.v (.bool b.1),.v (vL b.2)]])
  [jV 2 (vT t),(4,some (.sv (.rp 2 u2 0))),(8,some (.sv (.rp 4 u4 0))),(10,some (.sv (.rp 5 u5 0)))]
  (fun j b=>∃g:Int,b=zn g∧okZ b∧wE6 (t.flatten.drop j) g=wIA t) (false,[])
  (fun _ e b=>[jB 12 6,jC 13 (match e with|[.agg cs]=>cs.map .v|_=>[]),jC 5 [.v (.bool x),.v (vL l)],jC 9 [.v (.bool false),.nils,.nils],jC 11 [.v (.bool b.1),.v (vL b.2)],jV 2 (vT t),(4,some (.sv (.rp 2 u2 0))),(8,some (.sv (.rp 4 u4 0))),(10,some (.sv (.rp 5 u5 0)))])
  hro hmk rfl rfl hseq rfl (fun e he=>by obtain⟨z,_,rfl⟩:=pR.1 he;rfl) rfl (fun _=>rfl) ⟨0,by simp[zn,wT],⟨(fun _ h=>by cases h),pG _⟩,rfl⟩ ⟨rfl,rfl,rfl,rfl,rfl,rfl,rfl,trivial⟩ (fun _ _ _=>rfl) ?_ ?_ ?_
 ·intro j e b he hI w1;rw[pW]at he;obtain⟨z,hz,rfl⟩:=bD.1 he;obtain⟨zx,zl⟩:=z;repeat (first|refine wv ?_|refine wz ?_)
  exact⟨rfl,rfl,rfl,rfl,rfl,rfl,rfl,rfl,rfl,rfl,trivial⟩
 ·intro j e b he hI w1;rw[pW]at he;obtain⟨z,hz,rfl⟩:=bD.1 he;obtain⟨g,rfl,hgo,hg⟩:=hI;have hzo:=flat_ok t ht z (pE hz);rw[wLJ _ j z hz]at hg;have hok:=wNE g z hgo hzo;have q:=wP2 [zn g,z] (fun y hy=>by
   rcases pS.1 hy with rfl|hy
   ·exact hgo
   ·rw[pP.1 hy];exact hzo) (by show 2≤1099511627776;decide)
  rw[foldG2']at q;obtain⟨zx,zl⟩:=z;repeat (first|refine wv ?_|refine wh q ?_|refine wz ?_)
  exact⟨rfl,zn (Int.gcd g (intOf (zx,zl)):Nat),⟨_,rfl,hok,hg⟩,rfl,rfl,rfl,rfl,rfl,rfl,rfl,trivial⟩
 ·intro b hI;obtain⟨g,rfl,hgo,hg⟩:=hI;rw[mP (by rw[pF];exact pC _)]at hg;have hg':g=wIA t:=hg;subst hg';have q1:=wII (zn (wIA t)) hgo;rw[wE]at q1;show VW _ _ _ _ _ _;obtain⟨hG1,hG2,hG3⟩:=wL7 (x,l) t h0;obtain⟨hS1,hS2,hS3⟩:=wVG (x,l) t h0;have hSe:=wVH (x,l) t;obtain⟨G,hGe⟩:∃G,wI5 (x,l) t=G:=⟨_,rfl⟩
  obtain⟨S,hSS⟩:∃S,wK7 (x,l) t=S:=⟨_,rfl⟩
  obtain⟨D,hDe⟩:∃D:Int,(if vD t=0 then 1 else(intOf (x,l)).tdiv S)=D:=⟨_,rfl⟩
  rw[hGe]at hG1 hG2 hG3 hSe;rw[hSS]at hS1 hS2 hS3 hSe;have hGo:okZ (zn G):=okZ_dvd G (intOf (x,l)) (cX (by omega) (pB2.2 hG2)) (wDI _ hd);have hSo:okZ (zn S):=okZ_dvd S (intOf (x,l)) (cX (by omega) (pB2.2 hS2)) (wDI _ hd);refine vw_seq ?_;repeat (first|refine wv ?_|refine wg rfl (vP rfl rfl rfl rfl (rfl) rfl) ?_|refine wc q1 ?_|refine wz ?_)
  refine qBG (fun _:Unit=>[jC 5 [.v (.bool x),.v (vL l)],jC 9 [.v (.bool false),.nils,.nils],jC 11 [.v (.bool (zn G).1),.v (vL (zn G).2)],jV 2 (vT t),(4,some (.sv (.rp 2 u2 0))),(8,some (.sv (.rp 4 u4 0))),(10,some (.sv (.rp 5 u5 0)))]) (fun _=>True) (fun _=>rfl) ?_ fun _ _=>?_
  ·by_cases hz:wIA t=0
   ·have hs:sgn (wIA t)=0:=by rw[hz];rfl
    have e:((wB l:Nat):Int)=G:=by rw[←hGe];unfold wI5;rw[if_pos hz,zT]
    have q2:=zabs_v (x,l) hd;dsimp only at q2;rw[e]at q2;generalize sgn (wIA t)=sg at *
    subst hs;repeat (first|refine wv ?_|refine wc q2 ?_|refine wz ?_)
    exact⟨(),trivial,rfl,rfl,rfl,rfl,rfl,rfl,rfl,trivial⟩
   ·have hs:sgn (wIA t)≠0:=by rcases qCB (wIA t)with h|h|h<;>omega
    have e:((Int.gcd (wIA t) (intOf (x,l)):Nat):Int)=G:=by rw[←hGe];unfold wI5;rw[if_neg hz]
    have q2:=wP2 [zn (wIA t),(x,l)] (fun y hy=>by
     rcases pS.1 hy with rfl|hy
     ·exact hgo
     ·rw[pP.1 hy];exact hd) (by show 2≤1099511627776;decide)
    rw[foldG2',e]at q2;rw[decide_eq_false hs];repeat (first|refine wv ?_|refine wh q2 ?_|refine wz ?_)
    exact⟨(),trivial,rfl,rfl,rfl,rfl,rfl,rfl,rfl,trivial⟩
  have q3:=wII (x,l) hd;have q4:=zneg_v (zn G) hGo;rw[wE]at q4;repeat (first|refine wv ?_|refine wg rfl (vP rfl rfl rfl rfl (rfl) rfl) ?_|refine wc q3 ?_|refine wz ?_)
  refine qBG (fun _:Unit=>[jC 5 [.v (.bool x),.v (vL l)],jC 9 [.v (.bool false),.nils,.nils],jC 11 [.v (.bool (zn S).1),.v (vL (zn S).2)],jV 2 (vT t),(4,some (.sv (.rp 2 u2 0))),(8,some (.sv (.rp 4 u4 0))),(10,some (.sv (.rp 5 u5 0)))]) (fun _=>True) (fun _=>rfl) ?_ fun _ _=>?_
  ·by_cases hn:intOf (x,l)<0
   ·have hs:sgn (intOf (x,l))<0:=by rcases qCB (intOf (x,l))with h|h|h<;>omega
    rw[if_pos hn]at hSe;rw[←hSe]at q4;rw[decide_eq_true hs];repeat (first|refine wv ?_|refine wc q4 ?_|refine wz ?_)
    exact⟨(),trivial,rfl,rfl,rfl,rfl,rfl,rfl,rfl,trivial⟩
   ·have hs:¬sgn (intOf (x,l))<0:=by rcases qCB (intOf (x,l))with h|h|h<;>omega
    rw[if_neg hn]at hSe;subst hSe;rw[decide_eq_false hs];repeat refine wz ?_
    exact⟨(),trivial,rfl,rfl,rfl,rfl,rfl,rfl,rfl,trivial⟩
  have q5:=yW (x,l) (zn S) hd hSo (by rw[wE];exact hS1) (by rw[wE];exact hS2);rw[wE]at q5;refine wTG 4 4 rfl rfl ?_;have q6:=cols_v t hl;have q7:=zof_v 1 (by decide);repeat (first|refine wg rfl (xL wL rfl rfl rfl rfl rfl rfl rfl rfl rfl) ?_|refine wc q5 ?_|refine wc q6 ?_|refine wv ?_|refine wg rfl (vP rfl rfl rfl rfl (rfl) rfl) ?_|refine wz ?_)
  refine qBG (fun _:Unit=>[jC 5 [.v (.bool x),.v (vL l)],jC 9 [.v (.bool false),.nils,.nils],jC 11 [.v (.bool (zn S).1),.v (vL (zn S).2)],jV 2 (vT t),(4,some (.sv (.rp 2 u2 0))),jB 8 4,(10,some (.sv (.rp 5 u5 0))),
   jB 14 7,jC 15 [.v (.bool (zn D).1),.v (vL (zn D).2),.v (.raw (.slice none 0 0))]]) (fun _=>True) (fun _=>rfl) ?_ fun _ _=>?_
  ·by_cases hc:vD t=0
   ·rw[if_pos hc]at hDe;subst hDe;rw[decide_eq_true (show((vD t:Nat):Int)=0 by omega)];repeat (first|refine wv ?_|refine wc q7 ?_|refine wz ?_)
    exact⟨(),trivial,rfl,rfl,rfl,rfl,rfl,rfl,rfl,rfl,rfl,trivial⟩
   ·rw[if_neg hc]at hDe;subst hDe;rw[decide_eq_false (show ¬((vD t:Nat):Int)=0 by omega)];repeat refine wz ?_
    exact⟨(),trivial,rfl,rfl,rfl,rfl,rfl,rfl,rfl,rfl,rfl,trivial⟩
  refine wKI 7 2 1 58 rfl rfl rfl ?_;repeat (first|refine wg rfl (sL (wP4 t)) ?_|refine wv ?_|refine wz ?_)
  refine qC (fun j:Nat=>[jC 5 [.v (.bool x),.v (vL l)],jC 9 [.v (.bool false),.nils,.nils],jC 11 [.v (.bool (zn S).1),.v (vL (zn S).2)],jV 2 (vT t),(4,some (.sv (.rp 2 u2 0))),jB 8 4,(10,some (.sv (.rp 5 u5 0))),
   jB 14 7,jC 15 [.v (.bool (zn D).1),.v (vL (zn D).2),.own 0 58 1 (xO ((t.take j).map fun r=>r.map fun x=>zn ((intOf x).tdiv S)))],jV 98 (vT t),jI 100 (t.length),jI 102 j])
   (fun j=>j≤t.length) (fun j=>t.length-j) 0 (fun _=>rfl) (pG _) ⟨rfl,rfl,rfl,rfl,rfl,rfl,rfl,rfl,rfl,rfl,rfl,rfl,trivial⟩ fun j hJ=>?_
  rcases pL j t.length with hj|hj
  ·obtain⟨r,hr⟩:=gE hj;have hrl:=hl2 r (pE hr);have hro:=ht r (pE hr);have hrS:=hS3 r (pE hr);have hg:=tv_at t j r hr;repeat (first|refine wg rfl (sL (zc_len r)) ?_|refine wg rfl (sX j hg) ?_|refine wg rfl (sM 7000 0 r.length 2 32 (es':=[]) rfl) ?_|refine wv ?_|refine wg rfl cT ?_|refine wz ?_)
   refine qC (fun k:Nat=>[jC 5 [.v (.bool x),.v (vL l)],jC 9 [.v (.bool false),.nils,.nils],jC 11 [.v (.bool (zn S).1),.v (vL (zn S).2)],jV 2 (vT t),(4,some (.sv (.rp 2 u2 0))),jB 8 4,(10,some (.sv (.rp 5 u5 0))),
    jB 14 7,jC 15 [.v (.bool (zn D).1),.v (vL (zn D).2),.own 0 58 1 (xO ((t.take j).map fun r=>r.map fun x=>zn ((intOf x).tdiv S)))],jV 98 (vT t),jI 100 (t.length),jI 102 j,
    jO 20 2 25 2 (((r.take k).map fun x=>zn ((intOf x).tdiv S)).map w9),jV 116 (.list (r.map w9)),jI 118 (r.length),jI 120 k])
    (fun k=>k≤r.length) (fun k=>r.length-k) 0 (fun _=>rfl) (pG _) ⟨rfl,rfl,rfl,rfl,rfl,rfl,rfl,rfl,rfl,rfl,rfl,rfl,⟨_,rfl⟩,rfl,rfl,rfl,trivial⟩ fun k hK=>?_
   rcases pL k r.length with hk|hk
   ·obtain⟨z,hz⟩:=gE hk;have hzo:=hro z (pE hz);have hzS:=hrS z (pE hz);have hg2:=zc_at r k z hz;have q8:=yW z (zn S) hzo hSo (by rw[wE];exact hS1) (by rw[wE];exact hzS);rw[wE]at q8;have hs:((r.take k).map fun x=>zn ((intOf x).tdiv S)).map w9++[w9 (zn ((intOf z).tdiv S))]=((r.take (k+1)).map fun x=>zn ((intOf x).tdiv S)).map w9:=by
     rw[cW,hz];simp
    have hlen:(((r.take k).map fun x=>zn ((intOf x).tdiv S)).map w9).length=k:=by rw[pF,pF,mG];omega
    have row2:∀e∈[w9 (zn ((intOf z).tdiv S))],e.length=2:=fun e h=>by rw[pP.1 h];rfl
    obtain⟨zx,zl⟩:=z;repeat (first|refine wg rfl (sX k hg2) ?_|refine wc q8 ?_|refine wf rfl rfl (sA 7001 [w9 (zn ((intOf (zx,zl)).tdiv S))] 2 32 row2 hs) ?_|refine wv ?_|refine wg rfl cT ?_|refine wg rfl sB ?_|refine wz ?_)
    exact⟨k+1,hk,by omega,rfl,rfl,rfl,rfl,rfl,rfl,rfl,rfl,rfl,rfl,rfl,rfl,⟨_,rfl⟩,rfl,rfl,rfl,trivial⟩
   ·have hke:k=r.length:=by omega
    subst hke;rw[pZ];have hs:xO ((t.take j).map fun r=>r.map fun x=>zn ((intOf x).tdiv S))++[[V.list ((r.map fun x=>zn ((intOf x).tdiv S)).map w9)]]=xO ((t.take (j+1)).map fun r=>r.map fun x=>zn ((intOf x).tdiv S)):=by rw[cW,hr];unfold xO;simp
    have hlen:(xO ((t.take j).map fun r=>r.map fun x=>zn ((intOf x).tdiv S))).length=j:=by rw[wP4,pF,mG];omega
    have wN1:∀e∈[[V.list ((r.map fun x=>zn ((intOf x).tdiv S)).map w9)]],e.length=1:=fun e h=>by rw[pP.1 h];rfl
    repeat (first|refine wv ?_|refine wf rfl rfl (sA 7002 [[V.list ((r.map fun x=>zn ((intOf x).tdiv S)).map w9)]] 1 24 wN1 hs) ?_|refine wg rfl cF ?_|refine wg rfl sB ?_|refine wx ?_|refine wz ?_)
    exact⟨j+1,hj,by omega,rfl,rfl,rfl,rfl,rfl,rfl,rfl,rfl,rfl,rfl,rfl,rfl,trivial⟩
  ·have hje:j=t.length:=by omega
   subst hje;rw[pZ];repeat (first|refine wv ?_|refine wg rfl cF ?_|refine rr_vfx wL [.tmp 7] rfl rfl rfl rfl rfl ?_|refine wz ?_)
   refine⟨.inl rfl,_,rfl,?_⟩;unfold wCE;rw[hSS,hDe];exact rfl
def wB6(t:List (List QQ)):List (List V):=t.map fun r=>[vQs r]
theorem wU2(t:List (List QQ)):(wB6 t).length=t.length:=pF ..
def ratsT(m:MM):List (List QQ):=m.2.map fun r=>r.map fun x=>qn (Rat.divInt (intOf x) (intOf m.1))
theorem gridQ(t:List (List QQ)):v8 (t.map fun r=>r.map kL)=.list (wB6 t):=by unfold v8 wB6 vQs;rw[bB];rfl
theorem gridQL(t:List (List QQ)):wKA (t.map fun r=>r.map kL)=t.flatten.map fun q=>[V.agg (kL q)]:=by unfold wKA;rw[←pE4,bB];rfl
theorem eachR2_v(rows:List (List (List V))):wJ Tryz.prog 25 [v8 rows] (fun y=>y=.clo 54 [] [.ref [v8 rows]]):=by
 refine wC wL Tryz.func25 rfl rfl rfl rfl fun w0=>?_;repeat (first|refine wv ?_|refine wx ?_|refine wz ?_)
 exact⟨.inl rfl,_,rfl,rfl⟩
theorem map_take{α β:Type}{f:α→β}{g:α→β}{xs ys:List α}{j:Nat}{x y:α}(h:(xs.map f).take j=(ys.map g).take j)(hx:xs[j]? = some x)(hy:ys[j]? = some y)(he:f x=g y):(xs.map f).take (j+1)=(ys.map g).take (j+1):=by rw[cW,cW,h,pW,pW,hx,hy];simp[he]
def ent(t:List (List ZZ))(i k:Nat):ZZ:=(t.getD i []).getD k (false,[])
def prodI(t t':List (List ZZ))(i k:Nat):Nat→Int
 |0=>0
 |h+1=>prodI t t' i k h+intOf (ent t i h)*intOf (ent t' h k)
def okT(t:List (List ZZ))(K n:Nat):Prop:=t.length≤n∧∀r∈t,r.length≤n∧∀z∈r,okL z.2∧z.2.length≤K
theorem qI3(t t':List (List ZZ))(K n i k:Nat)(h1:∀i k,lm (intOf (ent t i k))≤K)(h2:∀i k,lm (intOf (ent t' i k))≤K):∀h,lm (prodI t t' i k h)≤K+K+h
 |0=>by show(toL (0:Int).natAbs).length≤_;simp[wT]
 |h+1=>by have ih:=qI3 t t' K n i k h1 h2 h;have l1:=wPJ (intOf (ent t i h)) (intOf (ent t' h k));have m1:=h1 i h;have m2:=h2 h k;exact lm_add _ _ (K+K+h) ih (by omega)
theorem lm_ent{t:List (List ZZ)}{K n:Nat}(h:okT t K n)(i k:Nat):lm (intOf (ent t i k))≤K:=by
 unfold ent;rw[pJ,pJ];cases hi:t[i]? with
 |none=>show lm (intOf (([]:List ZZ)[k]?.getD (false,[])))≤K;rw[List.getElem?_nil];show(toL (intOf (false,[])).natAbs).length≤_;simp[intOf,wB,wT]
 | some r=>
  simp only[Option.getD_some];cases hk:r[k]? with
  |none=>show(toL (intOf (false,[])).natAbs).length≤_;simp[intOf,wB,wT]
  |some z=>obtain⟨g1,g2⟩:=(h.2 r (pE hi)).2 z (pE hk);exact pD (jU z g1) g2
def mulTI(t t':List (List ZZ)):List (List ZZ):=wHA t.length (vD t') fun i k=>zn (prodI t t' i k (vD t))
def mulM(m m':MM):MM:=wCE (zn (intOf m.1*intOf m'.1)) (mulTI m.2 m'.2)
theorem tabF_mem{r c:Nat}{F:Nat→Nat→ZZ}{row:List ZZ}(h:row∈wHA r c F):row.length=c∧∀z∈row,∃i k,z=F i k:=by unfold wHA at h;obtain⟨i,_,rfl⟩:=pR.1 h;refine⟨by simp,fun z hz=>?_⟩;obtain⟨k,_,rfl⟩:=pR.1 hz;exact⟨i,k,rfl⟩
theorem wZJ(x:Rat):wW (qn x)=x:=by unfold wW qn;rw[wE,wE];exact dW x
def htM(m:MM):Nat:=htL ((ratsT m).flatten.map fun q=>qn (wW q)) 0
def fit1(m:MM):Int:=if chk m=0 then(if m.2.length=vD m.2∧m.2.length≠0 then(if m.2.length≤24∧htM m≤4096 then 0 else 4)else 3)else chk m
def fits:List MM→Int
 |[]=>0
 |m::ms=>if fit1 m=0 then fits ms else fit1 m
def okM(m:MM)(K:Nat):Prop:=okL m.1.2∧m.1.2.length≤K∧okT m.2 K 68719476736∧m.2.flatten.length≤68719476736
theorem chk0{m:MM}(h:chk m=0):intOf m.1≠0∧wWF m.2=true:=by
 unfold chk at h;split at h
 ·cases h
 ·rename_i h0;split at h
  ·rename_i h1;exact⟨h0,h1⟩
  ·cases h
def hgt(z:ZZ):Nat:=htL [qn (Rat.divInt (intOf z) 1)] 0
def wS4(q:QQ):Nat:=[q.1,q.2].foldl (fun h z=>max h (hgt z)) 0
theorem wM0(n:Int):(Rat.divInt n 1).num=n∧(Rat.divInt n 1).den=1:=by
 have:Rat.divInt n 1=(n:Rat):=by have:=dW (n:Rat);rw[gX,pB9]at this;exact this
 rw[this];exact⟨gX n,pB9 n⟩
theorem hgt_eq(z:ZZ):hgt z=max (x7 (intOf z).natAbs) 1:=by
 obtain⟨h1,h2⟩:=wM0 (intOf z);unfold hgt htL htQ qn;rw[h1,h2];simp only[List.foldl_cons,List.foldl_nil,Nat.zero_max];show max (x7 (wB (toL (intOf z).natAbs))) (x7 (wB (toL 1)))=_;rw[wI,wI]
 have:x7 1=1:=by decide +kernel
 rw[this]
theorem bitsI_eq(q:QQ):wS4 q=max (max (x7 (intOf q.1).natAbs) (x7 (intOf q.2).natAbs)) 1:=by unfold wS4;simp only[List.foldl_cons,List.foldl_nil,Nat.zero_max];rw[hgt_eq,hgt_eq];omega
theorem bits_v(q:QQ)(h1:okZ q.1)(h2:okZ q.2):wJ Tryz.prog 10 [vQ q] (fun y=>y=.int .i64 (wS4 q:Nat)):=by
 refine wC wL Tryz.func10 rfl rfl rfl rfl fun w0=>?_;obtain⟨zs,hzs⟩:∃zs,[q.1,q.2]=zs:=⟨_,rfl⟩
 have hl:zs.length=2:=by rw[←hzs];rfl
 have hz:∀z∈zs,okZ z:=fun z hz=>by
  rw[←hzs]at hz;rcases pS.1 hz with rfl|hz
  ·exact h1
  ·rw[pP.1 hz];exact h2
 unfold wS4;rw[hzs];have hlist:V.list (zs.map w9)=V.list [[.bool q.1.1,vL q.1.2],[.bool q.2.1,vL q.2.2]]:=by rw[←hzs];rfl
 obtain⟨⟨x,l⟩,⟨y,k⟩⟩:=q;dsimp only at hlist;repeat (first|refine wg rfl (qG9 (m':=2) wL rfl rfl rfl rfl rfl rfl rfl rfl) ?_|refine wv ?_|refine wz ?_)
 refine qFD (wO4 (d:=14) rfl) ?_;refine qC (fun b:Nat×Nat=>[(6,some (.sv (.v (.int .i64 (b.2:Nat))))),(28,some (.sv (.v (.list (zs.map w9))))),(30,some (.sv (.v (.int .i64 (2:Nat))))),(32,some (.sv (.v (.int .i64 (b.1:Nat)))))])
  (fun b=>b.1≤2∧(zs.drop b.1).foldl (fun h z=>max h (hgt z)) b.2=zs.foldl (fun h z=>max h (hgt z)) 0) (fun b=>2-b.1) (0,0) (fun _=>rfl) ⟨pG _,rfl⟩ ⟨rfl,by rw[hlist];rfl,rfl,rfl,trivial⟩ fun⟨j,h⟩ hI=>?_
 obtain⟨hJ,hh⟩:=hI;dsimp only at hJ hh ⊢;rcases pL j 2 with hj|hj
 ·obtain⟨z,hzj⟩:∃z,zs[j]? = some z:=⟨_,pK (by omega)⟩
  have hg:=zc_at zs j z hzj;have hzo:=hz z (pE hzj);rw[dropQ zs j z hzj,cY]at hh;have q1:=make_v z (false,[1]) hzo ⟨fun x hx=>by rw[pP.1 hx];decide,by decide⟩ (by decide);have e1:intOf (false,[1])=1:=by decide
  rw[e1]at q1;have hqo:okQ (qn (Rat.divInt (intOf z) 1)):=by obtain⟨d1,d2⟩:=wM0 (intOf z);have:=jU z hzo.1;unfold qn;rw[d1,d2];exact⟨jJ _ (pD this hzo.2),jJ _ (by decide +kernel)⟩
  have q2:=qH4 [qn (Rat.divInt (intOf z) 1)] (fun q hq=>by
   rw[pP.1 hq];refine⟨hqo,?_⟩;show intOf (zn _)≠0;rw[wE,(wM0 (intOf z)).2]
   decide) (by show 1≤_;decide) (fun q hq=>by
   rw[pP.1 hq,wZJ];exact hqo)
  have e2:htL ([qn (Rat.divInt (intOf z) 1)].map fun q=>qn (wW q)) 0=hgt z:=by rw[List.map_singleton,wZJ];rfl
  rw[e2]at q2;unfold nR at q1;generalize qn (Rat.divInt (intOf z) 1)=p at *
  generalize hgt z=hz9 at *
  obtain⟨⟨x',l'⟩,⟨y',k'⟩⟩:=p;obtain⟨zx,zl⟩:=z;clear hlist hzs hz;have hmx:(if((hz9:Nat):Int)>((h:Nat):Int)then((hz9:Nat):Int)else((h:Nat):Int))=((max h hz9:Nat):Int):=by split<;>omega
  repeat (first|refine wg rfl (sX j hg) ?_|refine wh q1 ?_|refine wh q2 ?_|refine wg rfl (sem_max rfl rfl rfl rfl rfl rfl) ?_|refine wl ?_|refine wv ?_|refine wg rfl cT ?_|refine wg rfl sB ?_|refine wx ?_|refine wz ?_)
  exact⟨(j+1,max h hz9),⟨hj,hh⟩,by dsimp only;omega,by rw[←hmx];rfl,rfl,rfl,rfl,trivial⟩
 ·have hje:j=2:=by omega
  subst hje;rw[mP (by omega)]at hh;repeat (first|refine wv ?_|refine wg rfl cF ?_|refine wz ?_)
  refine⟨.inl rfl,_,rfl,?_⟩;rw[←hh];rfl
theorem norm02_any(lo h1:Nat)(neg:Bool)(v:Value)(xs:List Nat)(w:World)(h:wG lo h1 w v xs)(hhi:h1≤w.heap.size)(hl:xs.length≤4398046511104) :
  Calls Tryz.prog 68 #[.agg #[.bool neg,v]] w fun e w'=>∃r,e=.returned (.agg #[.bool (neg&&decide (wB xs≠0)),r])∧wG w.heap.size w'.heap.size w' r (toL (wB xs))∧Below w.heap.size w w':=by
 obtain⟨hb0,b0,b1,hsz⟩:=boxAB w #[.bool neg,v] #[.bool false,.slice none 0 0] 25 25;have q1:=zE _ _ _ _ _ (h.below hb0 hhi) (by omega);rw[wQI];revert q1;generalize toL (wB xs)=ys;intro q1;have Q1:=hid q1;have HSZ:=hid hsz;clear q1 hsz
 go_enter Tryz.func68,Tryz.ntmps68
 go_wp2_with fail
 refine Q1.out.mono ?_;rintro e w1 ⟨r1,rfl,hr1,hb1⟩;obtain⟨c0,c1,f0,f1⟩:=(b0.later hb1).two;obtain⟨d0,d1,g0,g1⟩:=(b1.later hb1).two;have hb:=hb0.trans (hb1.mono hb0.size);have hs:=hb0.size;clear Q1 hb1 hb0 b0 b1;obtain⟨ad,cap,rfl,hc,hn,hlt,hcell⟩:=hr1.open;cases neg;all_goals
  go_wp2
  refine bodyPost_ret (v:=.agg #[.bool _,_]) (by simp[results,Tryz.results68,go_sem,d0,d1];rfl) rfl ⟨_,rfl,?_,?_⟩
  ·exact((hr1.set _ _ (.inl (by simp))).set _ _ (.inl (by simp))).wide hs (by simp[World.setCell])
  ·exact(hb.setCell (by simp) _).setCell (by simp) _
theorem wG.lt{lo hi:Nat}{w:World}{v:Value}{xs:List Nat}(h:wG lo hi w v xs):∀x,x∈xs→x<4294967296:=by obtain⟨_,_,_,_,_,hlt,_⟩:=h.open;exact hlt
def j4(s:ByteArray):Nat→Nat→List Nat
 |0,_=>[]
 |f+1,pos=>if pos<s.size then(Utf8.decode s pos).1::j4 s f (pos+(Utf8.decode s pos).2)else[]
def zR(s:ByteArray)(pos:Nat):List Nat:=j4 s (s.size-pos) pos
theorem qD(s:ByteArray)(i:Nat):1≤(Utf8.decode s i).2∧(Utf8.decode s i).2≤4:=by
 simp only[Utf8.decode]
 repeat' split
 all_goals (constructor<;>simp)
theorem qB0(s:ByteArray)(i:Nat):(Utf8.decode s i).1<2097152:=by
 have h:∀k,(s.get! (i+k)).toNat<256:=fun k=>UInt8.toNat_lt _;have h0:=h 0;rw[mJ]at h0;have h1:=h 1;have h2:=h 2;have h3:=h 3;simp only[Utf8.decode]
 repeat' split
 all_goals (simp only[Utf8.runeError,Nat.add_zero];omega)
theorem qGD(s:ByteArray):∀f pos,s.size-pos≤f→j4 s (f+1) pos=j4 s f pos:=by
 intro f
 induction f with
 |zero=>intro pos h;simp[j4];omega
 | succ f ih=>
  intro pos h;by_cases hp:pos<s.size
  ·have hw:=(qD s pos).1;have h1:j4 s (f+1+1) pos=(Utf8.decode s pos).1::j4 s (f+1) (pos+(Utf8.decode s pos).2):=by rw[j4,if_pos hp]
   have h2:j4 s (f+1) pos=(Utf8.decode s pos).1::j4 s f (pos+(Utf8.decode s pos).2):=by rw[j4,if_pos hp]
   rw[h1,h2,ih _ (by omega)]
  ·have h1:j4 s (f+1+1) pos=[]:=by rw[j4,if_neg hp]
   have h2:j4 s (f+1) pos=[]:=by rw[j4,if_neg hp]
   rw[h1,h2]
theorem qGE(s:ByteArray)(pos n d:Nat)(h:s.size-pos≤n):j4 s (n+d) pos=j4 s n pos:=by
 induction d with
 |zero=>rfl
 |succ d ih=>rw[←cA,qGD s _ _ (by omega),ih]
theorem z7(s:ByteArray)(pos:Nat)(h:¬pos<s.size):zR s pos=[]:=by unfold zR;rw[show s.size-pos=0 from by omega];rfl
theorem zX(s:ByteArray)(pos:Nat)(h:pos<s.size):zR s pos=(Utf8.decode s pos).1::zR s (pos+(Utf8.decode s pos).2):=by
 unfold zR;obtain⟨m,hm⟩:∃m,s.size-pos=m+1:=⟨s.size-pos-1,by omega⟩
 have hw:=(qD s pos).1;rw[hm,j4,if_pos h];obtain⟨d,hd⟩:∃d,m=(s.size-(pos+(Utf8.decode s pos).2))+d:=⟨m-(s.size-(pos+(Utf8.decode s pos).2)),by omega⟩
 rw[hd,qGE s _ _ d (pC _)]
theorem y2(s:ByteArray)(pos:Nat):(zR s pos).length≤s.size-pos:=by
 obtain⟨n,hn⟩:∃n,s.size-pos=n:=⟨_,rfl⟩
 induction n using Nat.strongRecOn generalizing pos with
 |ind n ih=>
  by_cases h:pos<s.size
  ·rw[zX s pos h];have hw:=(qD s pos).1;have:=ih (s.size-(pos+(Utf8.decode s pos).2)) (by omega) (pos+(Utf8.decode s pos).2) rfl;simp only[List.length_cons];omega
  ·rw[z7 s pos h];simp
def wD(s:ByteArray):List Nat:=zR s 0
theorem wUE(s:ByteArray)(pos:Nat):∀r,r∈zR s pos→r<2097152:=by
 obtain⟨n,hn⟩:∃n,s.size-pos=n:=⟨_,rfl⟩
 induction n using Nat.strongRecOn generalizing pos with
 | ind n ih=>
  by_cases h:pos<s.size
  ·rw[zX s pos h];intro r hr;have hw:=(qD s pos).1;rcases pS.1 hr with rfl|hr
   ·exact qB0 s pos
   ·exact ih (s.size-(pos+(Utf8.decode s pos).2)) (by omega) _ rfl r hr
  ·rw[z7 s pos h];simp
def zI(r:Nat):Bool:=r==45||r==8722
def jW(r:Nat):Bool:=r==47||r==8260||r==8725
def x8(r:Nat):Bool:=r==32||r==9||r==160||r==8201
def zY(r:Nat):Bool:=decide (48≤r)&&decide (r≤57)
def kindOf(r:Nat):Nat:=
 if zI r then 2 else if jW r then 3 else if x8 r then 4 else if r=44 then 5 else if r=59∨r=10 then 6 else if zY r then 1 else 0
def wU(r:Nat):Nat:=
 if zY r then r-48 else if 97≤r∧r≤122 then r-87 else if 65≤r∧r≤90 then r-55 else 99
def kindI(r:Int):Int:=
 if r=45∨r=8722 then 2 else if r=47∨r=8260∨r=8725 then 3 else if r=32∨r=9∨r=160∨r=8201 then 4 else if r=44 then 5
 else if r=59∨r=10 then 6 else if 48≤r∧r≤57 then 1 else 0
theorem kindI_nat(r:Nat):kindI (r:Nat)=(kindOf r:Nat):=by
 unfold kindI kindOf zI jW x8 zY;simp only[Bool.or_eq_true,beq_iff_eq,Bool.and_eq_true,decide_eq_true_eq]
 repeat' split
 all_goals first|rfl|omega
theorem ret_i64{a b:Int}(h:a=b):Ending.returned (.int .i64 a)=Ending.returned (.int .i64 b):=by rw[h]
theorem wN2{a b:Bool}(h:a=b):Ending.returned (.bool a)=Ending.returned (.bool b):=by rw[h]
theorem what_int(r:Int)(w:World) :
  Calls Tryz.prog 85 #[.int .i32 r] w fun e w'=>e=.returned (.int .i64 (kindI r))∧w=w':=by
 go_enter Tryz.func85,Tryz.ntmps85
 go_wp2
 all_goals
  go_ret
  refine⟨ret_i64 ?_,rfl⟩
  go_tidy
  simp only[beq_iff_eq,beq_eq_false_iff_ne]at *
  show _=kindI r;unfold kindI
  (repeat' split)<;>first|rfl|omega
theorem wMA(r:Nat)(w:World) :
  Calls Tryz.prog 85 #[.int .i32 (r:Nat)] w fun e w'=>e=.returned (.int .i64 (kindOf r:Nat))∧w=w':=by
 have:=what_int (r:Int) w
 rwa [kindI_nat]at this
theorem digit_any(r:Nat)(w:World) :
  Calls Tryz.prog 101 #[.int .i32 (r:Nat)] w fun e w'=>e=.returned (.bool (zY r))∧w=w':=by
 go_enter Tryz.func101,Tryz.ntmps101
 go_wp2
 all_goals
  go_ret
  refine⟨wN2 ?_,rfl⟩
  go_tidy
  show _=zY r;unfold zY;rw[bH];simp;try omega
theorem minus_any(r:Nat)(w:World) :
  Calls Tryz.prog 100 #[.int .i32 (r:Nat)] w fun e w'=>e=.returned (.bool (zI r))∧w=w':=by
 go_enter Tryz.func100,Tryz.ntmps100
 go_wp2
 all_goals
  go_ret
  refine⟨wN2 ?_,rfl⟩
  go_tidy
  try simp only[beq_iff_eq,beq_eq_false_iff_ne]at *
  show _=zI r;unfold zI;rw[bH];simp;try omega
theorem bar_any(r:Nat)(w:World) :
  Calls Tryz.prog 64 #[.int .i32 (r:Nat)] w fun e w'=>e=.returned (.bool (jW r))∧w=w':=by
 go_enter Tryz.func64,Tryz.ntmps64
 go_wp2
 all_goals
  go_ret
  refine⟨wN2 ?_,rfl⟩
  go_tidy
  try simp only[beq_iff_eq,beq_eq_false_iff_ne]at *
  show _=jW r;unfold jW;rw[bH];simp;try omega
theorem gap_any(r:Nat)(w:World) :
  Calls Tryz.prog 63 #[.int .i32 (r:Nat)] w fun e w'=>e=.returned (.bool (x8 r))∧w=w':=by
 go_enter Tryz.func63,Tryz.ntmps63
 go_wp2
 all_goals
  go_ret
  refine⟨wN2 ?_,rfl⟩
  go_tidy
  try simp only[beq_iff_eq,beq_eq_false_iff_ne]at *
  show _=x8 r;unfold x8;rw[bH];simp;try omega
theorem yP:Elem Tryz.prog 78 21 (.int .i32 0) 1 4:=
 ⟨Tryz.underlying78,by kernel_rfl,rfl,by decide⟩
theorem wL9{w:World}{B:Nat}{e:TypeId}{size n:Nat}{v:Value}{xs:List Value}(h:w.ownsRow B e size v n xs){k:Nat}{s:ByteArray}{pos:Nat}(hk:w.heap[k]? = some (.stringIter s pos))(pos':Nat) :
  (w.iterAt k s pos').ownsRow B e size v n xs:=by
 refine⟨h.1,?_⟩;rcases h.2 with hn|⟨g,cap,cur,rfl,hbg,hgg,rest⟩
 ·exact .inl hn
 ·refine .inr ⟨g,cap,cur,rfl,hbg,?_,rest⟩;rw[Lib.iterAt_other w k g s pos' (by intro e;subst e;rw[hgg]at hk;cases hk)];exact hgg
theorem wG2{w w':World}{row:Option Nat}{k:Nat}{s:ByteArray}{pos:Nat}(hg:w.grownBy w' row)(hk:w.heap[k]? = some (.stringIter s pos))(hr:∀g,row=some g→∃c T f,w.heap[g]? = some (.cells c T f)) :
  w'.heap[k]? = some (.stringIter s pos):=by
 rw[hg.block k (pU.1 hk).1 ?_,hk];intro e;obtain⟨c,T,f,h⟩:=hr k e.symm;rw[hk]at h;cases h
theorem wN9{w:World}{B:Nat}{e:TypeId}{size n:Nat}{v:Value}{xs:List Value}(h:w.ownsRow B e size v n xs):∀g,v.ownBlock=some g→∃c T f,w.heap[g]? = some (.cells c T f):=by
 intro g hg;rcases h.2 with⟨rfl,_⟩|⟨g',cap,cur,rfl,_,hgg,_⟩
 ·simp[Value.ownBlock]at hg
 ·simp[Value.ownBlock]at hg;subst hg;exact⟨_,_,_,hgg⟩
theorem runes_any(s:ByteArray)(w:World)(hs:s.size≤17592186044416) :
  Calls Tryz.prog 127 #[.string s] w fun e w'=>∃r,e=.returned r∧zA .i32 w.heap.size w'.heap.size w' r (wD s)∧Below w.heap.size w w':=by
 go_enter Tryz.func127,Tryz.ntmps127
 go_wp2_with (at_make;refine wM9 yP rfl _ _ rfl w.heap.size _ _ _ _ 0 s.size rfl rfl rfl rfl (pG _) (by omega) (by unfold maxLen;omega) (Below.refl _ _) (pC _) ?_)
 intro w1 ho1 hb1 _
 go_wp2
 have hk0:=World.iter_heap w1 s 0;have ho2:(w1.iter s 0).ownsRow w.heap.size 21 1 (.slice (some ⟨w.heap.size,0,none⟩) 0 s.size) 0 (zS .i32 []):=ho1.alloc _;have hb2:Below w.heap.size w (w1.iter s 0):=hb1.alloc hb1.size _;have hkb:w.heap.size≤w1.heap.size:=hb1.size;revert hk0 ho2 hb2 hkb;generalize w1.iter s 0=w2;generalize w1.heap.size=kb;intro hk0 ho2 hb2 hkb
 go_loopg [3] s.size (fun gk lv wr=>∃(pos:Nat)(pre:List Nat)(g c:Nat),gk=s.size-pos∧wr.heap[kb]? = some (.stringIter s pos)∧lv=.slice (some ⟨g,0,none⟩) pre.length c ∧
   wr.ownsRow w.heap.size 21 1 (.slice (some ⟨g,0,none⟩) pre.length c) pre.length (zS .i32 pre)∧Below w.heap.size w wr∧wD s=pre++zR s pos∧pre.length≤pos)
 case atStart=>exact⟨0,[],w.heap.size,s.size,by omega,hk0,rfl,ho2,hb2,rfl,pC _⟩
 case round=>
  obtain⟨pos,pre,g,c,hgk,hk,rfl,hown,hbel,hru,hpl⟩:=hrel;have HRU:=hid hru;have HGK:=hid hgk;clear hru hgk ho1 hb1 hk0 ho2 hb2;by_cases hp:pos<s.size
  ·have hnx:=fun ty=>Lib.run_next_any_at (P:=Tryz.prog) wr kb s pos ty hk hp;have hw:=qD s pos;obtain⟨rn,hrn⟩:∃rn,(Utf8.decode s pos).1=rn:=⟨_,rfl⟩
   obtain⟨wd,hwd⟩:∃wd,(Utf8.decode s pos).2=wd:=⟨_,rfl⟩
   have hst:=zX s pos hp;rw[hrn,hwd]at hst hnx;rw[hwd]at hw;have hown2:=wL9 hown hk (pos+wd);have hk2:=Lib.iterAt_heap wr kb s pos (pos+wd) hk;have hbel2:=Lib.below_iterAt hbel hkb s (pos+wd);have HST:=hid hst;have HK:=hid hk2;have hml:pre.length+1≤17592186044416:=by omega
   clear hst hrn hwd hk2 hown hk hbel
   go_wp2_with (at_builtin;go_loud (refine zO yP rfl _ _ rfl w.heap.size pre.length 1 1 _ (zS .i32 pre) _ hown2 rfl rfl rfl (by simp[Value.oneCell']) (by omega) (by decide) (by unfold maxLen;omega) hbel2 hbel2.size ?_))
   intro g6 c6 w6 ho6 hb6 hg6;have hk6:w6.heap[kb]? = some (.stringIter s (pos+wd)):=by
    refine wG2 hg6 ?_ ?_
    ·rw[Below.heap_alloc _ _ _ (pU.1 HK.out).1];exact HK.out
    ·exact wN9 (hown2.alloc _)
   have HK6:=hid hk6;clear hk6 hg6 hnx hown2
   go_wp2
   go_roundg (s.size-(pos+wd))
   case measure=>have:=HGK.out;omega
   case rel=>refine⟨pos+wd,pre++[rn],g6,c6,rfl,HK6.out,by simp,?_,hb6,by rw[HRU.out,HST.out];simp,by simp;omega⟩;simpa[zS]using ho6
  ·have hnx:=fun ty=>Lib.run_next_end_at (P:=Tryz.prog) wr kb s pos ty hk hp;have he:=z7 s pos hp;have HE:=hid he;clear he
   go_wp2
   go_ret
   rw[HRU.out,HE.out,cG];exact⟨_,rfl,zA.ofOwn hown,hbel⟩
theorem wR3(s:ByteArray)(w:World)(hs:s.size≤17592186044416) :
  Calls Tryz.prog 30 #[.string s] w fun e w'=>∃r,e=.returned r∧zA .i32 w.heap.size w'.heap.size w' r (wD s)∧Below w.heap.size w w':=by
 go_enter Tryz.func30,Tryz.ntmps30
 go_wp2
 have hk0:=World.iter_heap w s 0;have ho2:(w.iter s 0).ownsRow w.heap.size 21 1 (.slice none 0 0) 0 (zS .i32 []):=World.ownsRow_nil _ _ _ _;have hb2:Below w.heap.size w (w.iter s 0):=(Below.refl _ _).alloc (pC _) _;obtain⟨kb,hkk⟩:∃kb,w.heap.size=kb:=⟨_,rfl⟩
 obtain⟨w2,hww⟩:∃w2,w.iter s 0=w2:=⟨_,rfl⟩
 rw[hkk]at hk0 ⊢;rw[hww]at hk0 ho2 hb2 ⊢;have HKK:=hid hkk;have HWW:=hid hww;have hkb:w.heap.size≤kb:=by rw[hkk];exact pC _
 clear hkk hww
 go_loopg [3] s.size (fun gk lv wr=>∃(pos:Nat)(pre:List Nat),gk=s.size-pos∧wr.heap[kb]? = some (.stringIter s pos) ∧
   wr.ownsRow w.heap.size 21 1 lv pre.length (zS .i32 pre)∧Below w.heap.size w wr∧wD s=pre++zR s pos∧pre.length≤pos)
 case atStart=>exact⟨0,[],by omega,hk0,ho2,hb2,rfl,pC _⟩
 case round=>
  obtain⟨pos,pre,hgk,hk,hown,hbel,hru,hpl⟩:=hrel;have HRU:=hid hru;have HGK:=hid hgk;clear hru hgk hk0 ho2 hb2;by_cases hp:pos<s.size
  ·have hnx:=fun ty=>Lib.run_next_any_at (P:=Tryz.prog) wr kb s pos ty hk hp;have hw:=qD s pos;obtain⟨rn,hrn⟩:∃rn,(Utf8.decode s pos).1=rn:=⟨_,rfl⟩
   obtain⟨wd,hwd⟩:∃wd,(Utf8.decode s pos).2=wd:=⟨_,rfl⟩
   have hst:=zX s pos hp;rw[hrn,hwd]at hst hnx;rw[hwd]at hw;have hown2:=wL9 hown hk (pos+wd);have hk2:=Lib.iterAt_heap wr kb s pos (pos+wd) hk;have hbel2:=Lib.below_iterAt hbel hkb s (pos+wd);have HST:=hid hst;have HK:=hid hk2;have hml:pre.length+1≤17592186044416:=by omega
   clear hst hrn hwd hk2 hown hk hbel
   go_wp2_with (at_builtin;go_loud (refine zO yP rfl _ _ rfl w.heap.size pre.length 1 1 _ (zS .i32 pre) _ hown2 rfl rfl rfl (by simp[Value.oneCell']) (by omega) (by decide) (by unfold maxLen;omega) hbel2 hbel2.size ?_))
   intro g6 c6 w6 ho6 hb6 hg6;have hk6:w6.heap[kb]? = some (.stringIter s (pos+wd)):=by
    refine wG2 hg6 ?_ ?_
    ·rw[Below.heap_alloc _ _ _ (pU.1 HK.out).1];exact HK.out
    ·exact wN9 (hown2.alloc _)
   have HK6:=hid hk6;clear hk6 hg6 hnx hown2
   go_wp2
   go_roundg (s.size-(pos+wd))
   case measure=>have:=HGK.out;omega
   case rel=>refine⟨pos+wd,pre++[rn],rfl,HK6.out,?_,hb6,by rw[HRU.out,HST.out];simp,by simp;omega⟩;simpa[zS]using ho6
  ·have hnx:=fun ty=>Lib.run_next_end_at (P:=Tryz.prog) wr kb s pos ty hk hp;have he:=z7 s pos hp;have HE:=hid he;clear he
   go_wp2
   go_ret
   rw[HRU.out,HE.out,cG];exact⟨_,rfl,zA.ofOwn hown,hbel⟩
def mac(base:Nat):List Nat→Nat→List Nat×Nat
 |[],c=>([],c)
 |x::xs,c=>((c+x*base)%4294967296::(mac base xs ((c+x*base)/4294967296)).1,(mac base xs ((c+x*base)/4294967296)).2)
theorem mac_snoc(base:Nat)(xs:List Nat)(x c:Nat) :
  mac base (xs++[x]) c=((mac base xs c).1++[((mac base xs c).2+x*base)%4294967296],((mac base xs c).2+x*base)/4294967296):=by
 induction xs generalizing c with
 |nil=>simp[mac]
 |cons y ys ih=>simp[mac,ih]
theorem qDG(base:Nat)(xs:List Nat)(c:Nat):(mac base xs c).1.length=xs.length:=by
 induction xs generalizing c with
 |nil=>rfl
 |cons y ys ih=>simp[mac,ih]
theorem mac_val(base:Nat)(xs:List Nat)(c:Nat):wB (mac base xs c).1+4294967296^xs.length*(mac base xs c).2=wB xs*base+c:=by
 induction xs generalizing c with
 |nil=>simp[mac,wB]
 |cons x xs ih=>
  have h:=ih ((c+x*base)/4294967296);have hd:=cQ (c+x*base) 4294967296;simp only[mac,wB,List.length_cons,Nat.pow_succ];generalize (mac base xs ((c+x*base)/4294967296)).1=A at *
  generalize (mac base xs ((c+x*base)/4294967296)).2=C at *
  generalize (c+x*base)/4294967296=q at *
  generalize (c+x*base)%4294967296=r at *
  have e1:4294967296^xs.length*4294967296*C=4294967296*(4294967296^xs.length*C):=by rw[mH (4294967296^xs.length),mC]
  rw[e1,cA,←mA,h,mY,mA,mC];omega
theorem mac_lt(base:Nat)(xs:List Nat)(c:Nat):∀y,y∈(mac base xs c).1→y<4294967296:=by
 induction xs generalizing c with
 |nil=>simp[mac]
 |cons x xs ih=>
  intro y hy;simp only[mac,List.mem_cons]at hy;rcases hy with rfl|hy
  ·exact dP _ (by decide)
  ·exact ih _ y hy
def wS(base:Nat)(ds:List Nat):Nat:=ds.foldl (fun n d=>n*base+d) 0
theorem wK6(base:Nat)(ds:List Nat)(d:Nat):wS base (ds++[d])=wS base ds*base+d:=by simp[wS]
def wFF(base:Nat)(xs:List Nat)(d:Nat):List Nat:=if(mac base xs d).2=0 then(mac base xs d).1 else(mac base xs d).1++[(mac base xs d).2]
theorem qI1(base:Nat)(xs:List Nat)(d:Nat):wB (wFF base xs d)=wB xs*base+d:=by
 have h:=mac_val base xs d;unfold wFF;split
 ·rename_i h0;rw[h0]at h;simpa using h
 ·rw[wL6,qDG,h]
theorem wVA(lo hi:Nat)(v:Value)(ds:List Nat)(base:Nat)(w:World)(h:wG lo hi w v ds)(hl:ds.length≤4294967296)(hb2:2≤base)(hb36:base≤36)(hd:∀d,d∈ds→d<base) :
  Calls Tryz.prog 172 #[v,.int .u32 (base:Nat)] w fun e w'=>∃r,e=.returned r∧wG w.heap.size w'.heap.size w' r (toL (wS base ds))∧Below w.heap.size w w':=by
 obtain⟨ad,cap,rfl,hc,_,hx,hne⟩:=h;have HD:=hid hd;have HX:=hid hx;have HN:=hid hne;clear hd hx hne
 go_enter Tryz.func172,Tryz.ntmps172
 go_wp2_with (at_make;refine wM9 vY rfl _ _ rfl w.heap.size _ _ _ _ 0 (ds.length/5+1) rfl rfl rfl (by omega) (by omega) (by omega) (by unfold maxLen;omega) (Below.refl _ _) (pC _) ?_)
 intro w1 ho1 hb1 _
 go_wp2
 go_loopw [5,18] (fun n i wr=>∃(k g c:Nat)(xs:List Nat),k≤ds.length∧i=.int .i64 k∧n=.slice (some ⟨g,0,none⟩) xs.length c∧xs.length≤k ∧
   wr.ownsRow w.heap.size 66 1 (.slice (some ⟨g,0,none⟩) xs.length c) xs.length (zQ xs)∧Below w.heap.size w wr∧(∀x,x∈xs→x<4294967296)∧wB xs=wS base (ds.take k))
  (fun _ i _=>ds.length-(RowKit.intOf i).toNat)
 case atStart=>exact⟨0,_,_,[],pG _,rfl,rfl,pG _,ho1,hb1,by simp,by simp[wB,wS]⟩
 case round=>
  obtain⟨k,g,c,xs,hk,rfl,rfl,hxl,hown,hbel,hxs,hval⟩:=hrel;have HV:=hid hval;clear hval;by_cases hlt:k<ds.length
  ·obtain⟨b,off,rfl,hlo,hhi,hcell,_⟩:=HN.out (by intro e;subst e;simp at hlt);have hcw:=hcell k hlt;obtain⟨d,hd⟩:∃d,d=ds.getD k 0:=⟨_,rfl⟩
   have hdb:d<base:=by rw[hd];exact HD.out _ (by simp[List.getD_eq_getElem?_getD,hlt])
   have hcr:wr.cell? ⟨b,off+k,none⟩=some (.int .u32 (d:Nat)):=by rw[hd];exact(hbel.cell (World.block_lt_of_cell? w _ hcw)).trans hcw
   have HXS:=hid hxs;have HDD:=hid hd;clear hcell hcw hxs hd
   go_wp2
   obtain⟨wo,hwo⟩:∃wo:World,wo=wr:=⟨_,rfl⟩
   subst hwo;clear hcr
   go_loopw [8,26] (fun cv iv wr=>∃(i c':Nat)(cur:List Nat),i≤xs.length∧iv=.int .i64 i∧cv=.int .u64 c'∧c'≤36∧mac base (xs.take i) d=(cur,c') ∧
     wr.ownsRow w.heap.size 66 1 (.slice (some ⟨g,0,none⟩) xs.length c) xs.length (zQ (cur++xs.drop i))∧Below w.heap.size w wr)
    (fun _ i _=>xs.length-(RowKit.intOf i).toNat)
   case atStart=>exact⟨0,d,[],pG _,rfl,rfl,by omega,rfl,hown,hbel⟩
   case round=>
    obtain⟨i,c',cur,hi,rfl,rfl,hc36,hmac,hown',hbel'⟩:=hrel;have HM:=hid hmac;clear hmac hown hbel;by_cases hil:i<xs.length
    ·have hcell:=wAC hown' i hil;obtain⟨x,hx⟩:∃x,x=xs.getD i 0:=⟨_,rfl⟩
     have hx32:x<4294967296:=by rw[hx];exact HXS.out _ (by simp[List.getD_eq_getElem?_getD,hil])
     have hlc:cur.length=i:=by have:=qDG base (xs.take i) d;rw[HM.out,mG,dG hi]at this;exact this
     have hgx:(cur++xs.drop i).getD i 0=x:=by rw[hx];simp[List.getD_eq_getElem?_getD,List.getElem?_append,hlc]
     rw[hgx]at hcell;obtain⟨hc1,hc2⟩:=hcell;have hp:x*base≤4294967295*36:=bK (by omega) hb36;have HX:=hid hx;have HG:=hid hgx;have HLC:=hid hlc;clear hx hgx hlc
     go_wp2
     have hs:=hown'.stored i (.int .u32 (((c'+x*base)%4294967296:Nat):Int));have hm':mac base (xs.take (i+1)) d=(cur++[(c'+x*base)%4294967296],(c'+x*base)/4294967296):=by rw[qY xs 0 i hil,mac_snoc,HM.out,←HX.out]
     have he:(zQ (cur++xs.drop i)).set i (.int .u32 (((c'+x*base)%4294967296:Nat):Int))=zQ (cur++[(c'+x*base)%4294967296]++xs.drop (i+1)):=by
      have hl1:(zQ cur).length=i:=by simpa[zQ]using HLC.out
      rw[cE hil];simp only[zQ,List.map_append,List.map_cons]at hl1 ⊢;rw[List.set_append_right _ _ (by omega),hl1];simp
     rw[he]at hs;refine⟨⟨i+1,(c'+x*base)/4294967296,_,by omega,by go_num,by go_num,by omega,hm',?_,?_⟩,by simp[RowKit.intOf];omega⟩
     ·have:=hs.1;simpa using this
     ·exact hbel'.setCell (by exact(hown'.lt g rfl).1) _
    ·obtain rfl:i=xs.length:=by omega
     simp only[List.drop_length,List.append_nil]at hown';have HM2:Hid (mac base xs d=(cur,c')):=by
      have:=HM.out
      rwa [pZ]at this
     clear HM;have hcl:cur.length=xs.length:=by
      have:=qDG base xs d
      rwa [HM2.out]at this
     have htk:wB (wFF base xs d)=wS base (ds.take (k+1)):=by rw[qI1,qY ds 0 k hlt,wK6,HV.out,HDD.out]
     have hlt32:∀y,y∈cur→y<4294967296:=by
      have:=mac_lt base xs d
      rwa [HM2.out]at this
     have HCL:=hid hcl;have HTK:=hid htk;have HLT:=hid hlt32;clear hcl htk hlt32;by_cases hz:c'=0
     ·subst hz
      go_wp2
      have e:wFF base xs d=cur:=by simp[wFF,HM2.out]
      refine⟨⟨k+1,g,c,cur,by omega,by go_num,by rw[HCL.out],by have:=HCL.out;omega,by rw[HCL.out];exact hown',hbel',HLT.out,by rw[←e];exact HTK.out⟩,by simp[RowKit.intOf];omega⟩
     ·go_wp2_with (at_builtin;go_loud (refine zO vY rfl _ _ rfl w.heap.size xs.length 1 1 _ (zQ cur) _ hown' rfl rfl rfl (by simp[Value.oneCell']) (by omega) (by decide) (by unfold maxLen;omega) hbel' hbel'.size ?_))
      intro g' c2 w2 ho2 hb2 _
      go_wp2
      have e:wFF base xs d=cur++[c']:=by simp[wFF,HM2.out,hz]
      have hcl:(cur++[c']).length=xs.length+1:=by simp[HCL.out]
      refine⟨⟨k+1,g',c2,cur++[c'],by omega,by go_num,by rw[hcl],by rw[hcl];omega,?_,hb2,?_,by rw[←e];exact HTK.out⟩,by simp[RowKit.intOf];omega⟩
      ·rw[hcl];simpa[zQ]using ho2
      ·intro y hy;rcases cB.1 hy with h|h
       ·exact HLT.out y h
       ·simp at h;omega
  ·obtain rfl:k=ds.length:=by omega
   rw[pZ]at HV;have hN:=qHG w.heap.size wr.heap.size _ xs wr (wG.ofOwn hown hxs) (by omega);have HXS:=hid hxs;clear hxs
   go_wp2_with (go_at_call 91;refine hN.mono ?_;rintro e w' ⟨r,rfl,hr,hb⟩)
   go_ret
   rw[zG xs HXS.out,HV.out]at hr;exact⟨_,rfl,hr.wide hbel.size (pC _),hbel.trans (hb.mono hbel.size)⟩
end Go.Proofs.YtmkgenngokjbiaaGreatDoor
