/- simileref05: Add, Mul, Of, Int told of trees. -/
import Derived.Test.YtdcjmnfngabhoaaGreatCc15
set_option linter.all false
set_option maxRecDepth 20000
set_option maxHeartbeats 6400000
namespace Go.Proofs.YtdcjmnfngabhoaaGreat
open Go.RowKit Go.Ev Go.Vl
def lm(x:Int):Nat:=(toL x.natAbs).length
theorem jN(x y:Int):lm (x*y)≤lm x+lm y:=by
 unfold lm;rw[pE9];have:=lenMul (toL x.natAbs) (toL y.natAbs) (qX _) (qX _)
 rwa [wK,wK]at this
theorem lm_add(x y:Int)(k:Nat)(h1:lm x≤k)(h2:lm y≤k):lm (x+y)≤k+1:=by
 unfold lm at *
 have h:=lenAdd (toL x.natAbs) (toL y.natAbs) k (qX _) (qX _) h1 h2;rw[wK,wK]at h;exact pD (qA (Int.natAbs_add_le x y)) h
theorem lm_neg(x:Int):lm (-x)=lm x:=by unfold lm;rw[Int.natAbs_neg]
theorem jS{x y:Int}(h:x.natAbs≤y.natAbs):lm x≤lm y:=qA h
theorem lm_dvd{x y:Int}(h:x∣y)(hy:y≠0):lm x≤lm y:=jS (bQ (by omega) (pD2.2 h))
theorem w8(z:ZZ)(h:okL z.2):lm (intOf z)≤z.2.length:=by unfold lm;rw[kI];exact jZ z.2 h
theorem kY(x:Int)(h:lm x≤1099511627776):okZ (zn x):=wCJ x h
theorem zn_lm(x:Int):(zn x).2.length=lm x:=rfl
theorem wC9(x:Int):okL (zn x).2:=qX _
def okS(q:QQ):Prop:=okL q.1.2∧okL q.2.2∧q.1.2.length≤68719476736∧q.2.2.length≤68719476736∧intOf q.2≠0
theorem okS.ok{q:QQ}(h:okS q):okZ q.1∧okZ q.2:=⟨⟨h.1,pD h.2.2.1 (by decide)⟩,⟨h.2.1,pD h.2.2.2.1 (by decide)⟩⟩
theorem v7(n d:Int)(hd:d≠0):lm (Rat.divInt n d).num≤lm n∧lm ((Rat.divInt n d).den:Int)≤lm d:=by
 rcases pF7 hd with h|h
 ·obtain⟨h1,h2⟩:=qEA n d h;rw[h1,h2];refine⟨jS ?_,jS ?_⟩
  ·rw[dS];exact cP ..
  ·rw[dS];exact cP ..
 ·obtain⟨h1,h2⟩:=wH7 n d h;rw[h1,h2];refine⟨jS ?_,jS ?_⟩
  ·rw[dS];exact cP ..
  ·rw[dS];exact cP ..
theorem wKF(x:Rat)(h1:lm x.num≤68719476736)(h2:lm (x.den:Int)≤68719476736):okS (qn x):=⟨qX _,qX _,h1,h2,by show intOf (zn (x.den:Int))≠0;rw[wF];have:=x.den_nz;omega⟩
theorem wQI(a b:QQ)(ha:okS a)(hb:okS b):wG Tryz.prog 41 [vQ a,vQ b] (fun y=>y=nR (wX a*wX b)):=by
 refine wD wE Tryz.func41 rfl rfl rfl rfl fun w0=>?_;have q1:=wKC a.1 b.1 ha.ok.1 hb.ok.1;have q2:=wKC a.2 b.2 ha.ok.2 hb.ok.2;have l1:=jN (intOf a.1) (intOf b.1);have l2:=jN (intOf a.2) (intOf b.2);have m1:=w8 a.1 ha.1;have m2:=w8 a.2 ha.2.1;have m3:=w8 b.1 hb.1;have m4:=w8 b.2 hb.2.1;have n1:=ha.2.2.1;have n2:=ha.2.2.2.1;have n3:=hb.2.2.1;have n4:=hb.2.2.2.1;have q3:=wIG (zn (intOf a.1*intOf b.1)) (zn (intOf a.2*intOf b.2)) (kY _ (by omega)) (kY _ (by omega)) (by rw[wF];exact dT ha.2.2.2.2 hb.2.2.2.2);rw[wF,wF]at q3;have e:wX a*wX b=Rat.divInt (intOf a.1*intOf b.1) (intOf a.2*intOf b.2):=by unfold wX;rw[gV]
 rw[e];obtain⟨⟨x,l⟩,⟨y,m⟩⟩:=a;obtain⟨⟨x',l'⟩,⟨y',m'⟩⟩:=b;repeat (first|refine wv ?_|refine wc q1 ?_|refine wc q2 ?_|refine wc q3 ?_|refine wz ?_)
 exact⟨.inl rfl,_,rfl,rfl⟩
theorem radd5_v(a b:QQ)(ha:okS a)(hb:okS b):wG Tryz.prog 40 [vQ a,vQ b] (fun y=>y=nR (wX a+wX b)):=by
 refine wD wE Tryz.func40 rfl rfl rfl rfl fun w0=>?_;have q1:=wKC a.1 b.2 ha.ok.1 hb.ok.2;have q2:=wKC b.1 a.2 hb.ok.1 ha.ok.2;have q3:=wKC a.2 b.2 ha.ok.2 hb.ok.2;have l1:=jN (intOf a.1) (intOf b.2);have l2:=jN (intOf b.1) (intOf a.2);have l3:=jN (intOf a.2) (intOf b.2);have m1:=w8 a.1 ha.1;have m2:=w8 a.2 ha.2.1;have m3:=w8 b.1 hb.1;have m4:=w8 b.2 hb.2.1;have n1:=ha.2.2.1;have n2:=ha.2.2.2.1;have n3:=hb.2.2.1;have n4:=hb.2.2.2.1;have q4:=radd_v (zn (intOf a.1*intOf b.2)) (zn (intOf b.1*intOf a.2)) (kY _ (by omega)) (kY _ (by omega));rw[wF,wF]at q4;have l4:=lm_add (intOf a.1*intOf b.2) (intOf b.1*intOf a.2) 137438953472 (by omega) (by omega);have q5:=wIG (zn (intOf a.1*intOf b.2+intOf b.1*intOf a.2)) (zn (intOf a.2*intOf b.2)) (kY _ (by omega)) (kY _ (by omega)) (by rw[wF];exact dT ha.2.2.2.2 hb.2.2.2.2)
 rw[wF,wF]at q5;have e:wX a+wX b=Rat.divInt (intOf a.1*intOf b.2+intOf b.1*intOf a.2) (intOf a.2*intOf b.2):=by unfold wX;rw[Rat.divInt_add_divInt _ _ ha.2.2.2.2 hb.2.2.2.2]
 rw[e];obtain⟨⟨x,l⟩,⟨y,m⟩⟩:=a;obtain⟨⟨x',l'⟩,⟨y',m'⟩⟩:=b;repeat (first|refine wv ?_|refine wc q1 ?_|refine wc q2 ?_|refine wc q3 ?_|refine wc q4 ?_|refine wc q5 ?_|refine wz ?_)
 exact⟨.inl rfl,_,rfl,rfl⟩
theorem rof5_v(k:Nat)(hk:k<9223372036854775808):wG Tryz.prog 36 [.int .i64 (k:Nat)] (fun y=>y=nR (k:Nat)):=by
 refine wD wE Tryz.func36 rfl rfl rfl rfl fun w0=>?_;have q1:=rof_v k hk;have q2:=rof_v 1 (by decide);repeat (first|refine wv ?_|refine wc q1 ?_|refine wc q2 ?_|refine wz ?_)
 exact⟨.inl rfl,_,rfl,rfl⟩
theorem rint5_v(z:ZZ)(hz:okZ z):wG Tryz.prog 79 [vI z] (fun y=>y=nR (intOf z:Int)):=by
 refine wD wE Tryz.func79 rfl rfl rfl rfl fun w0=>?_;have q1:=wA1 z hz.1 (pD hz.2 (by decide));have q2:=rof_v 1 (by decide);obtain⟨x,l⟩:=z;repeat (first|refine wv ?_|refine wc q1 ?_|refine wc q2 ?_|refine wz ?_)
 exact⟨.inl rfl,_,rfl,rfl⟩
def mcell(m:MM):List V:=[.bool m.1.1,vL m.1.2,vT m.2]
def vMs(ms:List MM):V:=.list (ms.map mcell)
def chks:List MM→Int
 |[]=>0
 |m::ms=>if chk m=0 then chks ms else chk m
theorem mc_len(ms:List MM):(ms.map mcell).length=ms.length:=pH ..
theorem mc_at(ms:List MM)(j:Nat)(m:MM)(h:ms[j]? = some m):(ms.map mcell)[j]? = some [.bool m.1.1,vL m.1.2,vT m.2]:=by rw[pJ,h];rfl
theorem checks_v(ms:List MM)(h:∀m∈ms,okZ m.1∧m.2.length≤1099511627776)(hl:ms.length≤1099511627776):wG Tryz.prog 46 [vMs ms] (fun y=>y=.int .i64 (chks ms)):=by
 refine wD wE Tryz.func46 rfl rfl rfl rfl fun w0=>?_;repeat (first|refine wg rfl (sL (mc_len _)) ?_|refine wv ?_|refine wz ?_)
 refine wP (fun j:Nat=>[jV 12 (vMs ms),jI 14 (ms.length),jI 16 j])
  (fun j=>j≤ms.length∧chks (ms.drop j)=chks ms) (fun j=>ms.length-j) 0 (fun _=>rfl) ⟨pN _,rfl⟩ ⟨rfl,rfl,rfl,trivial⟩ fun j hI=>?_
 obtain⟨hJ,hc⟩:=hI;rcases pK j ms.length with hj|hj
 ·obtain⟨m,hm⟩:=gE hj;have hg:=mc_at ms j m hm;obtain⟨o1,o2⟩:=h m (pF hm);have q1:=wSJ m o1 o2;rw[wL5 ms j m hm]at hc;have hc2:(if chk m=0 then chks (ms.drop (j+1))else chk m)=chks ms:=hc;obtain⟨⟨x,l⟩,t⟩:=m;generalize chk ((x,l),t)=c at *
  by_cases h0:c=0
  ·rw[if_pos h0]at hc2;repeat (first|refine wg rfl (sX j hg) ?_|refine wc q1 ?_|refine wl ?_|refine wv ?_|refine wg rfl cT ?_|refine wg rfl nF ?_|refine wg rfl sB ?_|refine wz ?_)
   exact⟨j+1,⟨hj,hc2⟩,by omega,rfl,rfl,rfl,trivial⟩
  ·rw[if_neg h0]at hc2;repeat (first|refine wg rfl (sX j hg) ?_|refine wc q1 ?_|refine wl ?_|refine wv ?_|refine wg rfl cT ?_|refine wg rfl nT ?_|refine wz ?_)
   refine⟨.inl rfl,_,rfl,?_⟩;rw[←hc2]
 ·rw[mA hj]at hc;repeat (first|refine wv ?_|refine wg rfl cF ?_|refine wz ?_)
  refine⟨.inl rfl,_,rfl,?_⟩;rw[←hc];exact rfl
def jM(t:List (List QQ)):List (List V):=t.map fun r=>[vQs r]
theorem wK8(t:List (List QQ)):(jM t).length=t.length:=pH ..
def wU(m:MM):List (List QQ):=m.2.map fun r=>r.map fun x=>qn (Rat.divInt (intOf x) (intOf m.1))
theorem qRows_v(m:MM)(hc:chk m=0)(hd:okZ m.1)(h0:intOf m.1≠0)(ht:∀r∈m.2,r.length≤1099511627776∧∀x∈r,okZ x)(hl:m.2.length≤1099511627776):wG Tryz.prog 81 [vM m] (fun y=>y=.tup [.list (jM (wU m)),.int .i64 0]):=by
 refine wD wE Tryz.func81 rfl rfl rfl rfl fun w0=>?_;have q1:=wSJ m hd hl;rw[hc]at q1;obtain⟨⟨x,l⟩,t⟩:=m;dsimp only at hd h0 ht hl;repeat (first|refine wg rfl (sL (wCE t)) ?_|refine wc q1 ?_|refine wv ?_|refine wg rfl nF ?_|refine wz ?_)
 refine jL (d:=5) (id:=1) (k:=1) (T:=76) rfl rfl rfl rfl ?_;refine wP (fun j:Nat=>[jB 2 1,jC 3 [.v (.bool x),.v (vL l),.v (vT t)],jO 10 1 76 1 (jM ((t.take j).map fun r=>r.map fun x'=>qn (Rat.divInt (intOf x') (intOf (x,l))))),
  jV 38 (vT t),jI 40 (t.length),jI 42 j])
  (fun j=>j≤t.length) (fun j=>t.length-j) 0 (fun _=>rfl) (pN _) ⟨rfl,rfl,⟨_,rfl⟩,rfl,rfl,rfl,trivial⟩ fun j hJ=>?_
 rcases pK j t.length with hj|hj
 ·obtain⟨r,hr⟩:=gE hj;obtain⟨hrl,hro⟩:=ht r (pF hr);have hg:=wJE t j r hr;repeat (first|refine wg rfl (sL (wCA r)) ?_|refine wg rfl (sX j hg) ?_|refine wg rfl (sM 7000 0 r.length 4 64 (es':=[]) rfl) ?_|refine wv ?_|refine wg rfl cT ?_|refine wz ?_)
  refine wP (fun k:Nat=>[jB 2 1,jC 3 [.v (.bool x),.v (vL l),.v (vT t)],jO 10 1 76 1 (jM ((t.take j).map fun r=>r.map fun x'=>qn (Rat.divInt (intOf x') (intOf (x,l))))),
   jV 38 (vT t),jI 40 (t.length),jI 42 j,
   jO 16 2 79 4 (((r.take k).map fun x'=>qn (Rat.divInt (intOf x') (intOf (x,l)))).map qU),jV 56 (.list (r.map qL)),jI 58 (r.length),jI 60 k])
   (fun k=>k≤r.length) (fun k=>r.length-k) 0 (fun _=>rfl) (pN _) ⟨rfl,rfl,⟨_,rfl⟩,rfl,rfl,rfl,⟨_,rfl⟩,rfl,rfl,rfl,trivial⟩ fun k hK=>?_
  rcases pK k r.length with hk|hk
  ·obtain⟨z,hz⟩:=gE hk;have hzo:=hro z (pF hz);have hg2:=wRB r k z hz;have q2:=make_v z (x,l) hzo hd h0;have hs:((r.take k).map fun x'=>qn (Rat.divInt (intOf x') (intOf (x,l)))).map qU++[qU (qn (Rat.divInt (intOf z) (intOf (x,l))))]=((r.take (k+1)).map fun x'=>qn (Rat.divInt (intOf x') (intOf (x,l)))).map qU:=by
    rw[cI,hz];simp
   have hlen:(((r.take k).map fun x'=>qn (Rat.divInt (intOf x') (intOf (x,l)))).map qU).length=k:=by rw[pH,pH,pV];omega
   have row2:∀e∈[qU (qn (Rat.divInt (intOf z) (intOf (x,l))))],e.length=4:=fun e h=>by rw[pP.1 h];rfl
   obtain⟨zx,zl⟩:=z;repeat (first|refine wg rfl (sX k hg2) ?_|refine wc q2 ?_|refine wf rfl rfl (sA 7001 [qU (qn (Rat.divInt (intOf (zx,zl)) (intOf (x,l))))] 4 64 row2 hs) ?_|refine wl ?_|refine wv ?_|refine wg rfl cT ?_|refine wg rfl sB ?_|refine wz ?_)
   exact⟨k+1,hk,by omega,rfl,rfl,⟨_,rfl⟩,rfl,rfl,rfl,⟨_,rfl⟩,rfl,rfl,rfl,trivial⟩
  ·have hke:k=r.length:=by omega
   subst hke;rw[mZ];have hs:jM ((t.take j).map fun r=>r.map fun x'=>qn (Rat.divInt (intOf x') (intOf (x,l))))++[[vQs (r.map fun x'=>qn (Rat.divInt (intOf x') (intOf (x,l))))]]=jM ((t.take (j+1)).map fun r=>r.map fun x'=>qn (Rat.divInt (intOf x') (intOf (x,l)))):=by rw[cI,hr];unfold jM;simp
   have hlen:(jM ((t.take j).map fun r=>r.map fun x'=>qn (Rat.divInt (intOf x') (intOf (x,l))))).length=j:=by rw[wK8,pH,pV];omega
   have wKB:∀e∈[[vQs (r.map fun x'=>qn (Rat.divInt (intOf x') (intOf (x,l))))]],e.length=1:=fun e h=>by rw[pP.1 h];rfl
   repeat (first|refine wv ?_|refine wf rfl rfl (sA 7002 [[vQs (r.map fun x'=>qn (Rat.divInt (intOf x') (intOf (x,l))))]] 1 24 wKB hs) ?_|refine wg rfl cF ?_|refine wg rfl sB ?_|refine wx ?_|refine wz ?_)
   exact⟨j+1,hj,by omega,rfl,rfl,⟨_,rfl⟩,rfl,rfl,rfl,trivial⟩
 ·have hje:j=t.length:=by omega
  subst hje;rw[mZ];repeat (first|refine wv ?_|refine wg rfl cF ?_|refine wz ?_)
  exact⟨.inl rfl,_,rfl,rfl⟩
theorem gridQ(t:List (List QQ)):j9 (t.map fun r=>r.map qU)=.list (jM t):=by unfold j9 jM vQs;rw[mU];rfl
theorem gridQL(t:List (List QQ)):wJG (t.map fun r=>r.map qU)=t.flatten.map fun q=>[V.agg (qU q)]:=by unfold wJG;rw[←pH0,mU];rfl
theorem eachR2_v(rows:List (List (List V))):wG Tryz.prog 82 [j9 rows] (fun y=>y=.clo 133 [] [.ref [j9 rows]]):=by
 refine wD wE Tryz.func82 rfl rfl rfl rfl fun w0=>?_;repeat (first|refine wv ?_|refine wx ?_|refine wz ?_)
 exact⟨.inl rfl,_,rfl,rfl⟩
theorem qHeight_v(m:MM)(hc:chk m=0)(hd:okZ m.1)(h0:intOf m.1≠0)(ht:∀r∈m.2,r.length≤1099511627776∧∀x∈r,okZ x)(hl:m.2.length≤1099511627776)(hfl:(wU m).flatten.length≤1099511627776)(hq:∀q∈(wU m).flatten,okQ q∧intOf q.2≠0)(hn:∀q∈(wU m).flatten,okQ (qn (wX q))):wG Tryz.prog 45 [vM m] (fun y=>y=.tup [.int .i64 (htL ((wU m).flatten.map fun q=>qn (wX q)) 0:Nat),.int .i64 0]):=by
 refine wCB wE Tryz.func45 rfl rfl rfl rfl fun w0 hmk hro=>?_;have q1:=qRows_v m hc hd h0 ht hl;have hrl:∀r∈wU m,r.length≤1099511627776:=fun r hr=>by obtain⟨r',h1,rfl⟩:=pO.1 hr;rw[pH];exact(ht r' h1).1
 have hrt:(wU m).length≤1099511627776:=by unfold wU;rw[pH];exact hl
 generalize wU m=R at *
 obtain⟨⟨x,l⟩,t⟩:=m;have q2:=eachR2_v (R.map fun r=>r.map qU);rw[gridQ]at q2;have hseq:=eachR_v (R.map fun r=>r.map qU) (fun r hr e he=>by
  obtain⟨r',_,rfl⟩:=pO.1 hr;obtain⟨z,_,rfl⟩:=pO.1 he;rfl) (by simpa using hrt) (fun r hr=>by
  obtain⟨r',h1,rfl⟩:=pO.1 hr;simpa using hrl r' h1)
 rw[gridQL,gridQ]at hseq;have q3:=qDJ R.flatten hq hfl hn;repeat (first|refine wl ?_|refine wv ?_|refine wg rfl nF ?_|refine wc q1 ?_|refine wc q2 ?_|refine wz ?_)
 refine wRG 6 6 rfl rfl fun u6=>?_;refine vw_nilOwnB 6 0 4 79 rfl rfl rfl ?_;refine wLC wE (fun b:List QQ=>[jC 13 [.own 0 79 4 (b.map qU)]])
  [(12,some (.sv (.rp 6 u6 0)))]
  (fun j b=>b=R.flatten.take j) []
  (fun _ e b=>[jB 14 7,jC 15 (match e with|[.agg cs]=>cs.map .v|_=>[]),jC 13 [.own 0 79 4 (b.map qU)],(12,some (.sv (.rp 6 u6 0)))])
  hro hmk rfl rfl hseq rfl (fun e he=>by obtain⟨z,_,rfl⟩:=pO.1 he;rfl) rfl (fun _=>rfl) rfl ⟨rfl,rfl,trivial⟩ (fun _ _ _=>rfl) ?_ ?_ ?_
 ·intro j e b he hI w1;rw[pJ]at he;obtain⟨z,hz,rfl⟩:=bW.1 he;obtain⟨⟨zx,zl⟩,⟨zy,zk⟩⟩:=z;repeat (first|refine wl ?_|refine wv ?_|refine wz ?_)
  exact⟨rfl,rfl,rfl,rfl,rfl,trivial⟩
 ·intro j e b he hI w1;rw[pJ]at he;obtain⟨z,hz,rfl⟩:=bW.1 he;subst hI;have hs:(R.flatten.take j).map qU++[qU z]=(R.flatten.take (j+1)).map qU:=by
   rw[cI,hz];simp
  have hlen:((R.flatten.take j).map qU).length≤1099511627776:=by rw[pH,pV];omega
  have row2:∀e∈[qU z],e.length=4:=fun e h=>by rw[pP.1 h];rfl
  obtain⟨⟨zx,zl⟩,⟨zy,zk⟩⟩:=z;repeat (first|refine wf rfl rfl (sA 7001 [qU ((zx,zl),(zy,zk))] 4 64 row2 hs) ?_|refine wv ?_|refine wz ?_)
  exact⟨rfl,_,rfl,rfl,rfl,trivial⟩
 ·intro b hI;rw[pH,mZ]at hI;subst hI;show VW _ _ _ _ _ _;repeat (first|refine wv ?_|refine wh q3 ?_|refine wz ?_)
  exact⟨.inl rfl,_,rfl,rfl⟩
theorem map_take{α β:Type}{f:α→β}{g:α→β}{xs ys:List α}{j:Nat}{x y:α}(h:(xs.map f).take j=(ys.map g).take j)(hx:xs[j]? = some x)(hy:ys[j]? = some y)(he:f x=g y):(xs.map f).take (j+1)=(ys.map g).take (j+1):=by rw[cI,cI,h,pJ,pJ,hx,hy];simp[he]
def ent(t:List (List ZZ))(i k:Nat):ZZ:=(t.getD i []).getD k (false,[])
def xZ(t t':List (List ZZ))(i k:Nat):Nat→Int
 |0=>0
 |h+1=>xZ t t' i k h+intOf (ent t i h)*intOf (ent t' h k)
def okT(t:List (List ZZ))(K n:Nat):Prop:=t.length≤n∧∀r∈t,r.length≤n∧∀z∈r,okL z.2∧z.2.length≤K
theorem ent_at{t:List (List ZZ)}{i k:Nat}{r:List ZZ}{z:ZZ}(h:t[i]? = some r)(h2:r[k]? = some z):ent t i k=z:=by unfold ent;rw[pE,pE,h];simp only[Option.getD_some];rw[h2];rfl
theorem wH9(t t':List (List ZZ))(K n i k:Nat)(h1:∀i k,lm (intOf (ent t i k))≤K)(h2:∀i k,lm (intOf (ent t' i k))≤K):∀h,lm (xZ t t' i k h)≤K+K+h
 |0=>by show(toL (0:Int).natAbs).length≤_;simp[qW]
 |h+1=>by have ih:=wH9 t t' K n i k h1 h2 h;have l1:=jN (intOf (ent t i h)) (intOf (ent t' h k));have m1:=h1 i h;have m2:=h2 h k;exact lm_add _ _ (K+K+h) ih (by omega)
theorem wB6{t:List (List ZZ)}{K n:Nat}(h:okT t K n)(i k:Nat):lm (intOf (ent t i k))≤K:=by
 unfold ent;rw[pE,pE];cases hi:t[i]? with
 |none=>show lm (intOf (([]:List ZZ)[k]?.getD (false,[])))≤K;rw[List.getElem?_nil];show(toL (intOf (false,[])).natAbs).length≤_;simp[intOf,wC,qW]
 | some r=>
  simp only[Option.getD_some];cases hk:r[k]? with
  |none=>show(toL (intOf (false,[])).natAbs).length≤_;simp[intOf,wC,qW]
  |some z=>obtain⟨g1,g2⟩:=(h.2 r (pF hi)).2 z (pF hk);exact pD (w8 z g1) g2
theorem mul1_v(x x':Bool)(l l':List Nat)(t t':List (List ZZ))(n i k K:Nat)(hn:n≤68719476736)(hK:K≤68719476736)(ht:okT t K 68719476736)(ht':okT t' K 68719476736)(hr:∀r∈t,r.length=n)(hr':∀r∈t',k<r.length)(hi:i<t.length)(hn':t'.length=n) :
  wG Tryz.prog 51 [.int .i64 (i:Nat),.int .i64 (k:Nat),.ref [.int .i64 (n:Nat)],.ref [.bool x,vL l,vT t],.ref [.bool x',vL l',vT t']] (fun y=>y=.agg (qL (zn (xZ t t' i k n)))):=by
 refine wD wE Tryz.func51 rfl rfl rfl rfl fun w0=>?_;have hk1:∀h,lm (xZ t t' i k h)≤K+K+h:=wH9 t t' K n i k (wB6 ht) (wB6 ht');obtain⟨r,hr0⟩:=gE hi;have hrn:=hr r (pF hr0);have hro:=(ht.2 r (pF hr0)).2;have hg:=wJE t i r hr0;have hil:i<9223372036854775808:=by have:=ht.1;omega
 repeat (first|refine wl ?_|refine wv ?_|refine wz ?_)
 refine qC4 8 1 rfl rfl rfl ?_;refine wP (fun b:Nat×ZZ=>[jI 0 i,jI 2 k,jV 6 (.ref [.bool x,vL l,vT t]),jV 8 (.ref [.bool x',vL l',vT t']),jB 14 7,jC 15 [.v (.bool false),.nils],jB 16 8,jC 17 [.v (.bool b.2.1),.v (vL b.2.2)],jI 20 n,jI 22 (b.1)])
  (fun b=>b.1≤n∧b.2=zn (xZ t t' i k b.1)) (fun b=>n-b.1) (0,(false,[])) (fun _=>rfl) ⟨pN _,by simp[xZ,zn,qW]⟩ ⟨rfl,rfl,rfl,rfl,rfl,rfl,rfl,rfl,rfl,rfl,trivial⟩ fun⟨h,s⟩ hI=>?_
 obtain⟨hI1,hI2⟩:=hI;dsimp only at hI1 hI2 ⊢;subst hI2;rcases pK h n with hj|hj
 ·obtain⟨z,hz⟩:=gE (l:=r) (i:=h) (by omega);obtain⟨r',hr1⟩:=gE (l:=t') (i:=h) (by omega);have hk':=hr' r' (pF hr1);obtain⟨z',hz'⟩:=gE hk';have hg1:=wRB r h z hz;have hg2:=wJE t' h r' hr1;have hg3:=wRB r' k z' hz';have oz:=hro z (pF hz);have oz':=(ht'.2 r' (pF hr1)).2 z' (pF hz');have e1:=ent_at hr0 hz;have e2:=ent_at hr1 hz';have q1:=wYD z z' ⟨oz.1,by omega⟩ ⟨oz'.1,by omega⟩;have l1:=jN (intOf z) (intOf z');have m1:=w8 z oz.1;have m2:=w8 z' oz'.1;have l2:=hk1 h;have q2:=zadd_v (zn (xZ t t' i k h)) (zn (intOf z*intOf z')) (kY _ (by omega)) (kY _ (by omega));rw[wF,wF]at q2;have e3:xZ t t' i k h+intOf z*intOf z'=xZ t t' i k (h+1):=by
   show _=xZ t t' i k h+intOf (ent t i h)*intOf (ent t' h k);rw[e1,e2]
  rw[e3]at q2;have hkl:=(ht'.2 r' (pF hr1)).1;obtain⟨zx,zl⟩:=z;obtain⟨zx',zl'⟩:=z';repeat (first|refine wg rfl (sX i hg) ?_|refine wg rfl (sX h hg1) ?_|refine wg rfl (sX h hg2) ?_|refine wg rfl (sX k hg3) ?_|refine wc q1 ?_|refine wc q2 ?_|refine wv ?_|refine wg rfl cT ?_|refine wg rfl sB ?_|refine wz ?_)
  exact⟨(h+1,zn (xZ t t' i k (h+1))),⟨hj,rfl⟩,by dsimp only;omega,rfl,rfl,rfl,rfl,rfl,rfl,rfl,rfl,rfl,rfl,trivial⟩
 ·have hje:h=n:=by omega
  subst hje;repeat (first|refine wv ?_|refine wg rfl cF ?_|refine wz ?_)
  exact⟨.inl rfl,_,rfl,rfl⟩
def mulTI(t t':List (List ZZ)):List (List ZZ):=kZ t.length (wS t') fun i k=>zn (xZ t t' i k (wS t))
def xJ(m m':MM):MM:=qC (zn (intOf m.1*intOf m'.1)) (mulTI m.2 m'.2)
theorem wS3{r c:Nat}{F:Nat→Nat→ZZ}{row:List ZZ}(h:row∈kZ r c F):row.length=c∧∀z∈row,∃i k,z=F i k:=by unfold kZ at h;obtain⟨i,_,rfl⟩:=pO.1 h;refine⟨by simp,fun z hz=>?_⟩;obtain⟨k,_,rfl⟩:=pO.1 hz;exact⟨i,k,rfl⟩
theorem qMul_v(x x':Bool)(l l':List Nat)(t t':List (List ZZ))(K:Nat)(hK:K≤68719476736)(hc:chk ((x,l),t)=0)(hc':chk ((x',l'),t')=0)(h0:intOf (x,l)≠0)(h0':intOf (x',l')≠0)(hd:okL l∧l.length≤K)(hd':okL l'∧l'.length≤K)(ht:okT t K 68719476736)(ht':okT t' K 68719476736)(hr:∀r∈t,r.length=wS t)(hr':∀r∈t',r.length=wS t')(hn:t'.length=wS t) :
  wG Tryz.prog 26 [.agg [.bool x,vL l,vT t],.agg [.bool x',vL l',vT t']] (fun y=>y=.tup [vM (xJ ((x,l),t) ((x',l'),t')),.int .i64 0]):=by
 refine wD wE Tryz.func26 rfl rfl rfl rfl fun w0=>?_;have od:okZ (x,l):=⟨hd.1,pD hd.2 (by omega)⟩
 have od':okZ (x',l'):=⟨hd'.1,pD hd'.2 (by omega)⟩
 have hl:=ht.1;have hl':=ht'.1;have hcl:wS t≤68719476736:=by rw[←hn];exact hl'
 have hcl':wS t'≤68719476736:=by
  unfold wS;cases t' with
  |nil=>exact pN _
  |cons r t'=>exact(ht'.2 r (pT ..)).1
 have q1:=checks_v [((x,l),t),((x',l'),t')] (fun m hm=>by
  rcases pU.1 hm with rfl|hm
  ·exact⟨od,by dsimp only;omega⟩
  ·rw[pP.1 hm];exact⟨od',by dsimp only;omega⟩) (by show 2≤1099511627776;decide)
 have e:chks [((x,l),t),((x',l'),t')]=0:=by simp only[chks,hc,hc',if_true]
 rw[e]at q1;have q2:=qsize_v ((x,l),t) (by dsimp only;omega);have q3:=qsize_v ((x',l'),t') (by dsimp only;omega);dsimp only at q2 q3;rw[hn]at q3;have q4:=wYD (x,l) (x',l') od od';have q5:=table_v t.length (wS t') 51 Tryz.f51 [] [.ref [.int .i64 (wS t:Nat)],.ref [.bool x,vL l,vT t],.ref [.bool x',vL l',vT t']] (fun i k=>zn (xZ t t' i k (wS t))) rfl (fun i k hi hk=>mul1_v x x' l l' t t' (wS t) i k K hcl hK ht ht' hr (fun r h=>by rw[hr' r h];exact hk) hi hn) (by omega) (by omega);have l1:=jN (intOf (x,l)) (intOf (x',l'));have m1:=w8 (x,l) hd.1;have m2:=w8 (x',l') hd'.1;dsimp only at m1 m2;have q6:=made_v (zn (intOf (x,l)*intOf (x',l'))) (mulTI t t') (kY _ (by omega)) (by rw[wF];exact dT h0 h0') (fun r h z hz=>by
  obtain⟨i,k,rfl⟩:=(wS3 h).2 z hz;have:=wH9 t t' K 0 i k (wB6 ht) (wB6 ht') (wS t);exact kY _ (by omega)) (by
  show(kZ _ _ _).length≤_;unfold kZ;simp only[List.length_map,List.length_range];omega) (fun r h=>by rw[(wS3 h).1];omega)
 repeat (first|refine vw_toF 8 [jB 4 2,jC 5 [.v (.bool x),.v (vL l),.v (vT t)],jB 6 3,jC 7 [.v (.bool x'),.v (vL l'),.v (vT t')],jB 8 4,jC 9 [.v (.bool false),.nils,.nils],jI 14 (t.length),jB 16 8,jC 17 [.v (.int .i64 (wS t:Nat))],jI 20 (wS t')] [jV 4 (.ref [.bool x,vL l,vT t]),jV 6 (.ref [.bool x',vL l',vT t']),jB 8 4,jC 9 [.v (.bool false),.nils,.nils],jI 14 (t.length),jV 16 (.ref [.int .i64 (wS t:Nat)]),jI 20 (wS t')] rfl ⟨rfl,rfl,rfl,rfl,rfl,rfl,rfl,rfl,rfl,rfl,trivial⟩ (fun h=>wYI 2 2 rfl rfl rfl (wYI 3 3 rfl rfl rfl (wYI 8 8 rfl rfl rfl (vw_to _ (by exact rfl) (by exact⟨rfl,rfl,rfl,rfl,rfl,rfl,rfl,trivial⟩) h)))) ?_|refine wh q1 ?_|refine wc q2 ?_|refine wc q3 ?_|refine wc q4 ?_|refine wc q5 ?_|refine wc q6 ?_|refine wl ?_|refine wv ?_|refine wg rfl nF ?_|refine wz ?_)
 exact⟨.inl rfl,_,rfl,rfl⟩
theorem qY(x:Rat):wX (qn x)=x:=by unfold wX qn;rw[wF,wF];exact fB x
def htM(m:MM):Nat:=htL ((wU m).flatten.map fun q=>qn (wX q)) 0
def jK(m:MM):Int:=if chk m=0 then(if m.2.length=wS m.2∧m.2.length≠0 then(if m.2.length≤24∧htM m≤4096 then 0 else 4)else 3)else chk m
def fits:List MM→Int
 |[]=>0
 |m::ms=>if jK m=0 then fits ms else jK m
def okM(m:MM)(K:Nat):Prop:=okL m.1.2∧m.1.2.length≤K∧okT m.2 K 68719476736∧m.2.flatten.length≤68719476736
theorem chk0{m:MM}(h:chk m=0):intOf m.1≠0∧wHE m.2=true:=by
 unfold chk at h;split at h
 ·cases h
 ·rename_i h0;split at h
  ·rename_i h1;exact⟨h0,h1⟩
  ·cases h
theorem v6(m:MM):(wU m).flatten=m.2.flatten.map fun x=>qn (Rat.divInt (intOf x) (intOf m.1)):=by unfold wU;rw[pH0]
theorem wGH{m:MM}(h:okM m 68719476736)(h0:intOf m.1≠0):∀q∈(wU m).flatten,okQ q∧intOf q.2≠0∧qn (wX q)=q:=by intro q hq;rw[v6]at hq;obtain⟨z,hz,rfl⟩:=pO.1 hq;obtain⟨r,hr,hzr⟩:=cY.1 hz;obtain⟨g1,g2⟩:=(h.2.2.1.2 r hr).2 z hzr;obtain⟨n1,n2⟩:=v7 (intOf z) (intOf m.1) h0;have m1:=w8 z g1;have m2:=w8 m.1 h.1;have m3:=h.2.1;refine⟨⟨kY _ (by omega),kY _ (by omega)⟩,?_,by rw[qY]⟩;show intOf (zn ((Rat.divInt (intOf z) (intOf m.1)).den:Int))≠0;rw[wF];have:=(Rat.divInt (intOf z) (intOf m.1)).den_nz;omega
open Go.ChangeShapes Go.WideShapes Go.ChangeAt Go.Deep
theorem wX7{m:MM}(h:limM m)(hb:bkM m≤1048576):okM m 1048576:=by obtain⟨h1,h2⟩:=h;have e1:=flat_bulk m.2;have e2:=wZ6 bkR (fun r=>by unfold bkR;omega) m.2;unfold bkM at hb;have e0:bkZ m.1=m.1.2.length+1:=rfl;refine⟨h1,by omega,⟨by omega,fun r hr=>?_⟩,by omega⟩;have e3:=sum_mem bkR hr;have e4:=wZ6 bkZ (fun z=>by unfold bkZ;omega) r;have e5:bkR r=(r.map bkZ).sum+1:=rfl;refine⟨by omega,fun z hz=>⟨h2 r hr z hz,?_⟩⟩;have e6:=sum_mem bkZ hz;have e7:bkZ z=z.2.length+1:=rfl;omega
theorem vcalls_ent{P:Program}{e:Ent}(he:wK1 P e)(hm:e.m=0)(ha:e.args=[]){b:Bool}(hv:e.v=.bool b):wG P e.f [] (fun y=>y=.bool b):=fun S w us hu=>by cases hu;exact(qBC he hm ha hv w).mono fun x w' ⟨h1,h2⟩=>⟨_,_,h1,rfl,.bool b,h2⟩
section
variable{H:Type}{enc:TypeId×Value→H}{W:World}{held:Bool}
end
theorem wFD(T:List (List ZZ))(c:Nat)(h:∀r∈T,r.length=c):wHE T=true:=by
 unfold wHE;rw[pY];intro r hr;cases T with
 |nil=>cases hr
 |cons r0 T=>rw[decide_eq_true_eq,h r hr];exact(h r0 (pT ..)).symm
theorem wR2(T:List (List ZZ))(h:wHE T=true):∀r∈T,r.length=wS T:=by unfold wHE at h;rw[pY]at h;intro r hr;have:=h r hr;rw[decide_eq_true_eq]at this;exact this
theorem wP5(m:MM)(h0:intOf m.1≠0)(he:wHE m.2=true):chk m=0:=by unfold chk;rw[if_neg h0,if_pos he]
theorem fit10{m:MM}(h:jK m=0):chk m=0∧m.2.length=wS m.2∧m.2.length≠0∧m.2.length≤24∧htM m≤4096:=by
 unfold jK at h;split at h
 ·rename_i h1;split at h
  ·rename_i h2;split at h
   ·rename_i h3;exact⟨h1,h2.1,h2.2,h3.1,h3.2⟩
   ·cases h
  ·cases h
 ·rename_i h1;exact absurd h h1
structure Chk where
 c:Int
 f:FuncId
 cs:List V
 b:Bool
def oneI(i k:Nat):Int:=if i=k then 1 else 0
def idM(n:Nat):MM:=qC (zn 1) (kZ n n fun i k=>zn (oneI i k))
theorem lm_one(i k:Nat):lm (oneI i k)≤1:=by
 have h1:lm 1=1:=by unfold lm;simp[toL,qW]
 unfold oneI;split
 ·omega
 ·unfold lm;simp[qW]
def lcmI(a x:Int):Int:=a*((x.natAbs:Int).tdiv (Int.gcd a x:Nat))
theorem lcmI_nat(a x:Nat):lcmI a x=(Nat.lcm a x:Nat):=by show(a:Int)*(((x:Int).natAbs:Int).tdiv (Int.gcd a x:Nat))=_;rw[bE,Int.gcd_natCast_natCast];rw[show((x:Int)).tdiv ((Nat.gcd a x:Nat):Int)=((x/Nat.gcd a x:Nat):Int)from(Int.ofNat_tdiv x (Nat.gcd a x)).symm];rw[←bC];congr 1;rw[Nat.lcm,Nat.mul_div_assoc _ (Nat.gcd_dvd_right a x)]
theorem lcmI_eq(a:Nat)(x:Int):lcmI a x=(Nat.lcm a x.natAbs:Nat):=by rw[←lcmI_nat];unfold lcmI;rw[bE];rfl
def wHB(xs:List Int)(a:Nat):Nat:=xs.foldl (fun a x=>Nat.lcm a x.natAbs) a
theorem lcmN_pos(xs:List Int)(a:Nat)(h:0<a)(hx:∀x∈xs,x≠0):0<wHB xs a:=by
 induction xs generalizing a with
 |nil=>exact h
 |cons x xs ih=>exact ih _ (Nat.lcm_pos h (by have:=hx x (pT ..);omega)) fun y hy=>hx y (pZ _ hy)
theorem lcmN_dvd(xs:List Int)(a D:Nat)(h:a∣D)(hx:∀x∈xs,x.natAbs∣D):wHB xs a∣D:=by
 induction xs generalizing a with
 |nil=>exact h
 |cons x xs ih=>exact ih _ (Nat.lcm_dvd h (hx x (pT ..))) fun y hy=>hx y (pZ _ hy)
theorem dvd_lcmN(xs:List Int)(a:Nat):a∣wHB xs a∧∀x∈xs,x.natAbs∣wHB xs a:=by
 induction xs generalizing a with
 |nil=>exact⟨Nat.dvd_refl _,by simp⟩
 |cons x xs ih=>
  obtain⟨h1,h2⟩:=ih (Nat.lcm a x.natAbs);refine⟨pF8 (Nat.dvd_lcm_left ..) h1,fun y hy=>?_⟩;rcases pU.1 hy with rfl|hy
  ·exact pF8 (Nat.dvd_lcm_right ..) h1
  ·exact h2 y hy
theorem wOF{a b:Nat}(h:a≤b):lm (a:Int)≤lm (b:Int):=qA h
theorem lcm3_v(zs:List ZZ)(D:Nat)(hD:0<D)(hDl:lm D≤549755813888)(hz:∀z∈zs,okZ z∧intOf z≠0∧(intOf z).natAbs∣D)(hl:zs.length≤1099511627776):wG Tryz.prog 77 [vZs zs] (fun y=>y=nI (wHB (zs.map intOf) 1:Nat)):=by
 refine wD wE Tryz.func77 rfl rfl rfl rfl fun w0=>?_;have q0:=rof_v 1 (by decide);repeat (first|refine wg rfl (sL (kW _)) ?_|refine wl ?_|refine wv ?_|refine wc q0 ?_|refine wz ?_)
 refine wP (fun b:Nat×Nat=>[jB 4 2,jC 5 [.v (.bool false),.nils],jB 6 3,jC 7 [.v (.bool (zn (b.2:Nat)).1),.v (vL (zn (b.2:Nat)).2)],jV 18 (vZs zs),jI 20 (zs.length),jI 22 (b.1)])
  (fun b=>b.1≤zs.length∧0<b.2∧b.2∣D∧wHB ((zs.drop b.1).map intOf) b.2=wHB (zs.map intOf) 1) (fun b=>zs.length-b.1) (0,1) (fun _=>rfl) ⟨pN _,by decide,Nat.one_dvd _,rfl⟩ ⟨rfl,rfl,rfl,rfl,rfl,rfl,rfl,trivial⟩ fun⟨j,x⟩ hI=>?_
 obtain⟨h1,h2,h3,h4⟩:=hI;dsimp only at h1 h2 h3 h4 ⊢;rcases pK j zs.length with hj|hj
 ·obtain⟨z,hze⟩:=gE hj;obtain⟨hzo,hz0,hzD⟩:=hz z (pF hze);have hg:(zs.map zrow)[j]? = some [.bool z.1,vL z.2]:=by rw[pJ,hze];rfl
  have hd:zs.drop j=z::zs.drop (j+1):=by rw[bM hj];rw[pG hj]at hze;cases hze;rfl
  rw[hd]at h4;have hx:=kY (x:Nat) (pD (wOF (bQ hD h3)) (pD hDl (by decide)));have hgp:0<Int.gcd (x:Nat) (intOf z):=bS _ hz0;have hgz:lm (Int.gcd (x:Nat) (intOf z):Nat)≤549755813888:=pD (wOF (pD (bQ h2 (by have:=fM (x:Int) (intOf z);exact Int.natCast_dvd_natCast.1 this)) (bQ hD h3))) hDl
  have haz:lm ((intOf z).natAbs:Int)≤549755813888:=pD (wOF (bQ hD hzD)) hDl;have q1:=wID z hzo;have hs:sgn (intOf z)≠0:=by rcases wAI (intOf z)with h|h|h<;>omega
  have q2:=rabs_v z hzo;rw[←kI]at q2;have q3:=rgcd_v (zn (x:Nat)) z hx hzo;rw[wF]at q3;have q4:=wGF (zn ((intOf z).natAbs:Int)) (zn (Int.gcd (x:Nat) (intOf z):Nat)) (kY _ (by omega)) (kY _ (by omega)) (by rw[wF];omega) (by rw[wF,wF];exact Int.dvd_natAbs.2 (fG ..))
  rw[wF,wF]at q4;obtain⟨p,hp⟩:∃p:Int,p=((intOf z).natAbs:Int).tdiv (Int.gcd (x:Nat) (intOf z):Nat):=⟨_,rfl⟩
  rw[←hp]at q4;have hpl:lm p≤549755813888:=by rw[hp];refine pD (jS ?_) haz;rw[dS];exact cP ..
  have q5:=wKC (zn (x:Nat)) (zn p) hx (kY _ (by omega));rw[wF,wF]at q5;have hxp:(x:Int)*p=(Nat.lcm x (intOf z).natAbs:Nat):=by rw[hp,←lcmI_eq];rfl
  rw[hxp]at q5;have h5:Nat.lcm x (intOf z).natAbs∣D:=Nat.lcm_dvd h3 hzD;have h6:0<Nat.lcm x (intOf z).natAbs:=Nat.lcm_pos h2 (by omega);have h7:wHB ((zs.drop (j+1)).map intOf) (Nat.lcm x (intOf z).natAbs)=wHB (zs.map intOf) 1:=h4;repeat (first|refine wl ?_|refine wv ?_|refine wg rfl cT ?_|refine wg rfl cF ?_|refine wg rfl sB ?_|refine wg rfl (sX j hg) ?_|refine wc q1 ?_|refine wc q2 ?_|refine wc q3 ?_|refine wc q4 ?_|refine wc q5 ?_|refine wz ?_)
  exact⟨(j+1,Nat.lcm x (intOf z).natAbs),⟨hj,h6,h5,h7⟩,by dsimp only;omega,rfl,rfl,rfl,rfl,rfl,rfl,rfl,trivial⟩
 ·rw[mA hj]at h4;repeat (first|refine wv ?_|refine wg rfl cF ?_|refine wz ?_)
  refine⟨.inl rfl,_,rfl,?_⟩;rw[←h4];exact rfl
def q0:List V:=[.bool false,.list [],.bool false,.list []]
theorem wF4(x:Bool)(l:List Nat)(t:List (List ZZ))(hd:okZ (x,l))(h0:intOf (x,l)≠0)(ht:∀r∈t,r.length≤1099511627776∧∀z∈r,okZ z)(hl:t.length≤1099511627776):wG Tryz.prog 20 [.agg [.bool x,vL l,vT t]] (fun y=>y=.list (jM (wU ((x,l),t)))):=by
 refine wD wE Tryz.func20 rfl rfl rfl rfl fun w0=>?_;repeat (first|refine wg rfl (sL (wCE t)) ?_|refine wv ?_|refine wz ?_)
 refine jL (d:=3) (id:=1) (k:=1) (T:=76) rfl rfl rfl rfl ?_;refine wP (fun j:Nat=>[jB 2 1,jC 3 [.v (.bool x),.v (vL l),.v (vT t)],jO 6 1 76 1 (jM ((t.take j).map fun r=>r.map fun x'=>qn (Rat.divInt (intOf x') (intOf (x,l))))),
  jV 20 (vT t),jI 22 (t.length),jI 24 j])
  (fun j=>j≤t.length) (fun j=>t.length-j) 0 (fun _=>rfl) (pN _) ⟨rfl,rfl,⟨_,rfl⟩,rfl,rfl,rfl,trivial⟩ fun j hJ=>?_
 rcases pK j t.length with hj|hj
 ·obtain⟨r,hr⟩:=gE hj;obtain⟨hrl,hro⟩:=ht r (pF hr);have hg:=wJE t j r hr;obtain⟨R,hRe⟩:∃R,(r.map fun x'=>qn (Rat.divInt (intOf x') (intOf (x,l))))=R:=⟨_,rfl⟩
  have hRl:(R.map qU).length=r.length:=by rw[←hRe,pH,pH]
  have hrep:List.replicate r.length q0=(((R.map qU).take 0)++List.replicate ((R.map qU).length-0) q0):=by rw[hRl];simp
  repeat (first|refine wg rfl (sL (wCA r)) ?_|refine wg rfl (sX j hg) ?_|refine wg rfl (sM 7000 r.length r.length 4 64 hrep) ?_|refine wv ?_|refine wg rfl cT ?_|refine wz ?_)
  refine wP (fun k:Nat=>[jB 2 1,jC 3 [.v (.bool x),.v (vL l),.v (vT t)],jO 6 1 76 1 (jM ((t.take j).map fun r=>r.map fun x'=>qn (Rat.divInt (intOf x') (intOf (x,l))))),
   jV 20 (vT t),jI 22 (t.length),jI 24 j,
   jO 12 2 79 4 ((R.map qU).take k++List.replicate ((R.map qU).length-k) q0),jV 38 (.list (r.map qL)),jI 40 (r.length),jI 42 k])
   (fun k=>k≤r.length) (fun k=>r.length-k) 0 (fun _=>rfl) (pN _) ⟨rfl,rfl,⟨_,rfl⟩,rfl,rfl,rfl,⟨_,rfl⟩,rfl,rfl,rfl,trivial⟩ fun k hK=>?_
  rcases pK k r.length with hk|hk
  ·obtain⟨z,hz⟩:=gE hk;have hzo:=hro z (pF hz);have hg2:=wRB r k z hz;have q2:=wIG z (x,l) hzo hd h0;have hgR:(R.map qU)[k]? = some (qU (qn (Rat.divInt (intOf z) (intOf (x,l))))):=by
    rw[←hRe,pJ,pJ,hz];rfl
   have hset:=wM5 (R.map qU) q0 k _ hgR;have hown:((R.map qU).take k++List.replicate ((R.map qU).length-k) q0)[k]? = some q0:=by rw[mI (by rw[pV];omega),dC,if_pos (by rw[pV];omega)]
   have hlen:k<((R.map qU).take k++List.replicate ((R.map qU).length-k) q0).length:=by rw[mC,pV,dA];omega
   generalize (R.map qU).take k++List.replicate ((R.map qU).length-k) q0=row at *
   unfold q0 at hown;obtain⟨zx,zl⟩:=z;repeat (first|refine wg rfl (sX k hg2) ?_|refine wc q2 ?_|refine wg rfl (sO k hlen) ?_|refine wg rfl (sS hown (he:=by exact hset)) ?_|refine wl ?_|refine wv ?_|refine wg rfl cT ?_|refine wg rfl sB ?_|refine wz ?_)
   exact⟨k+1,hk,by omega,rfl,rfl,⟨_,rfl⟩,rfl,rfl,rfl,⟨_,rfl⟩,rfl,rfl,rfl,trivial⟩
  ·have hke:k=r.length:=by omega
   subst hke;have hfull:(R.map qU).take r.length++List.replicate ((R.map qU).length-r.length) q0=R.map qU:=by rw[pR (by omega),hRl,bU];simp
   rw[hfull];have hs:jM ((t.take j).map fun r=>r.map fun x'=>qn (Rat.divInt (intOf x') (intOf (x,l))))++[[vQs R]]=jM ((t.take (j+1)).map fun r=>r.map fun x'=>qn (Rat.divInt (intOf x') (intOf (x,l)))):=by rw[cI,hr,←hRe];unfold jM;simp
   have hlen:(jM ((t.take j).map fun r=>r.map fun x'=>qn (Rat.divInt (intOf x') (intOf (x,l))))).length=j:=by rw[wK8,pH,pV];omega
   have wKB:∀e∈[[vQs R]],e.length=1:=fun e h=>by rw[pP.1 h];rfl
   repeat (first|refine wv ?_|refine wf rfl rfl (sA 7002 [[vQs R]] 1 24 wKB hs) ?_|refine wg rfl cF ?_|refine wg rfl sB ?_|refine wx ?_|refine wz ?_)
   exact⟨j+1,hj,by omega,rfl,rfl,⟨_,rfl⟩,rfl,rfl,rfl,trivial⟩
 ·have hje:j=t.length:=by omega
  subst hje;rw[mZ];repeat (first|refine wv ?_|refine wg rfl cF ?_|refine wz ?_)
  exact⟨.inl rfl,_,rfl,rfl⟩
theorem qCJ(x:Bool)(l:List Nat)(t:List (List ZZ))(hl:t.length≤1099511627776):wG Tryz.prog 29 [.agg [.bool x,vL l,vT t]] (fun y=>y=.tup [.int .i64 (t.length:Nat),.int .i64 (wS t:Nat)]):=by
 refine wD wE Tryz.func29 rfl rfl rfl rfl fun w0=>?_;cases t with
 |nil=>
  repeat (first|refine wg rfl (sL (wCE [])) ?_|refine wv ?_|refine wg rfl (jE rfl rfl rfl rfl (rfl) rfl) ?_|refine wz ?_)
  exact⟨.inl rfl,_,rfl,rfl⟩
 |cons r t=>
  have hc:(r::t).length=t.length+1:=rfl;have hg:=wJE (r::t) 0 r rfl;repeat (first|refine wg rfl (sL (wCE (r::t))) ?_|refine wg rfl (sL (wCA r)) ?_|refine wg rfl (sX 0 hg) ?_|refine wv ?_|refine wg rfl cF ?_|refine wz ?_)
  exact⟨.inl rfl,_,rfl,rfl⟩
theorem check11_v(x:Bool)(l:List Nat)(t:List (List ZZ))(hd:okZ (x,l))(hl:t.length≤1099511627776):wG Tryz.prog 28 [.agg [.bool x,vL l,vT t]] (fun y=>y=.int .i64 (chk ((x,l),t))):=by
 refine wD wE Tryz.func28 rfl rfl rfl rfl fun w0=>?_;have q1:=wID (x,l) hd;have fin:∀{u v:Int},u=v→V.int .i64 u=V.int .i64 v:=fun h=>by rw[h]
 have hs:=wAI (intOf (x,l));unfold chk;dsimp only;generalize intOf (x,l)=d at *
 generalize sgn d=sd at *
 by_cases h0:d=0
 ·repeat (first|refine wc q1 ?_|refine wv ?_|refine wg rfl cT ?_|refine wz ?_)
  refine⟨.inl rfl,_,rfl,fin ?_⟩;rw[if_pos h0]
 ·rw[if_neg h0];repeat (first|refine wg rfl (sL (wCE t)) ?_|refine wc q1 ?_|refine wv ?_|refine wg rfl cF ?_|refine wz ?_)
  refine wP (fun j:Nat=>[jB 2 1,jC 3 [.v (.bool x),.v (vL l),.v (vT t)],jV 20 (vT t),jI 22 (t.length),jI 24 j])
   (fun j=>j≤t.length∧∀r∈t.take j,r.length=wS t) (fun j=>t.length-j) 0 (fun _=>rfl) ⟨pN _,by simp⟩ ⟨rfl,rfl,rfl,rfl,rfl,trivial⟩ fun j hI=>?_
  obtain⟨hJ,hq⟩:=hI;rcases pK j t.length with hj|hj
  ·obtain⟨r,hr⟩:=gE hj;have hg:=wJE t j r hr;obtain⟨r0,hr0⟩:=gE (l:=t) (i:=0) (by omega);have hg0:=wJE t 0 r0 hr0;have hc:wS t=r0.length:=by
    unfold wS;cases t with
    |nil=>simp at hr0
    |cons a t=>simp at hr0;rw[hr0];rfl
   by_cases he:r.length=r0.length
   ·repeat (first|refine wg rfl (sL (wCA r)) ?_|refine wg rfl (sL (wCA r0)) ?_|refine wg rfl (sX j hg) ?_|refine wg rfl (sX 0 hg0) ?_|refine wv ?_|refine wg rfl cT ?_|refine wg rfl nF ?_|refine wg rfl sB ?_|refine wz ?_)
    refine⟨j+1,⟨hj,fun r' h'=>?_⟩,by omega,rfl,rfl,rfl,rfl,rfl,trivial⟩;rw[cI,hr]at h';rcases cJ.1 h' with h'|h'
    ·exact hq r' h'
    ·simp at h';rw[h',he,hc]
   ·have hno:wHE t≠true:=fun h=>he (by rw[wR2 t h r (pF hr),hc]);repeat (first|refine wg rfl (sL (wCA r)) ?_|refine wg rfl (sL (wCA r0)) ?_|refine wg rfl (sX j hg) ?_|refine wg rfl (sX 0 hg0) ?_|refine wv ?_|refine wg rfl cT ?_|refine wg rfl nT ?_|refine wz ?_)
    refine⟨.inl rfl,_,rfl,fin ?_⟩;rw[if_neg hno]
  ·have hje:j=t.length:=by omega
   subst hje;rw[mZ]at hq;repeat (first|refine wv ?_|refine wg rfl cF ?_|refine wz ?_)
   refine⟨.inl rfl,_,rfl,fin ?_⟩;rw[if_pos (wFD t _ hq)]
theorem htL_max(qs:List QQ):∀n,htL qs n=max n (htL qs 0):=by
 induction qs with
 |nil=>intro n;show n=max n 0;omega
 |cons q qs ih=>intro n;show htL qs (max n (htQ q))=max n (htL qs (max 0 (htQ q)));rw[ih (max n (htQ q)),ih (max 0 (htQ q))];omega
theorem htL_app(a b:List QQ)(n:Nat):htL (a++b) n=htL b (htL a n):=by unfold htL;rw[pC4]
theorem tq_at(t:List (List QQ))(j:Nat)(r:List QQ)(h:t[j]? = some r):(jM t)[j]? = some [V.list (r.map qU)]:=by unfold jM;rw[pJ,h];rfl
theorem height11_v(x:Bool)(l:List Nat)(t:List (List ZZ))(h:okM ((x,l),t) 68719476736)(h0:intOf (x,l)≠0):wG Tryz.prog 30 [.agg [.bool x,vL l,vT t]] (fun y=>y=.int .i64 (htM ((x,l),t):Nat)):=by
 refine wD wE Tryz.func30 rfl rfl rfl rfl fun w0=>?_;have od:okZ (x,l):=⟨h.1,pD h.2.1 (by decide)⟩
 have q1:=wF4 x l t od h0 (fun r hr=>⟨pD (h.2.2.1.2 r hr).1 (by decide),fun z hz=>⟨((h.2.2.1.2 r hr).2 z hz).1,pD ((h.2.2.1.2 r hr).2 z hz).2 (by decide)⟩⟩) (pD h.2.2.1.1 (by decide));have hRq:=wGH h h0;have hRl:(wU ((x,l),t)).length≤1099511627776:=by unfold wU;rw[pH];exact pD h.2.2.1.1 (by decide)
 have hRr:∀r∈wU ((x,l),t),r.length≤1099511627776:=fun r hr=>by obtain⟨r',h1,rfl⟩:=pO.1 hr;rw[pH];exact pD (h.2.2.1.2 r' h1).1 (by decide)
 unfold htM;generalize wU ((x,l),t)=R at *
 repeat (first|refine wc q1 ?_|refine wg rfl (sL (wK8 R)) ?_|refine wv ?_|refine wz ?_)
 refine wP (fun b:Nat×Nat=>[jI 6 (b.2),jV 16 (.list (jM R)),jI 18 (R.length),jI 20 (b.1)])
  (fun b=>b.1≤R.length∧b.2=htL ((R.take b.1).flatten.map fun q=>qn (wX q)) 0) (fun b=>R.length-b.1) (0,0) (fun _=>rfl) ⟨pN _,rfl⟩ ⟨rfl,rfl,rfl,rfl,trivial⟩ fun⟨j,n⟩ hI=>?_
 obtain⟨hJ,hn⟩:=hI;dsimp only at hJ hn ⊢;rcases pK j R.length with hj|hj
 ·obtain⟨r,hr⟩:=gE hj;have hrm:=pF hr;have hg:=tq_at R j r hr;have q2:=rheight_v r (fun q hq=>by
   obtain⟨g1,g2,_⟩:=hRq q (cY.2 ⟨r,hrm,hq⟩);exact⟨g1,g2⟩) (hRr r hrm) (fun q hq=>by
   obtain⟨g1,_,g3⟩:=hRq q (cY.2 ⟨r,hrm,hq⟩);rw[g3];exact g1)
  have hst:htL ((R.take (j+1)).flatten.map fun q=>qn (wX q)) 0=max n (htL (r.map fun q=>qn (wX q)) 0):=by rw[cI,hr];simp only[Option.toList_some,List.flatten_append,List.map_append,List.flatten_cons,List.flatten_nil,List.append_nil];rw[htL_app,htL_max,←hn]
  generalize htL (r.map fun q=>qn (wX q)) 0=u at *
  by_cases hu:n<u
  ·repeat (first|refine wg rfl (sX j hg) ?_|refine wc q2 ?_|refine wv ?_|refine wg rfl cT ?_|refine wg rfl sB ?_|refine wz ?_)
   exact⟨(j+1,u),⟨hj,by dsimp only;rw[hst];omega⟩,by dsimp only;omega,rfl,rfl,rfl,rfl,trivial⟩
  ·repeat (first|refine wg rfl (sX j hg) ?_|refine wc q2 ?_|refine wv ?_|refine wg rfl cT ?_|refine wg rfl cF ?_|refine wg rfl sB ?_|refine wz ?_)
   exact⟨(j+1,n),⟨hj,by dsimp only;rw[hst];omega⟩,by dsimp only;omega,rfl,rfl,rfl,rfl,trivial⟩
 ·rw[pR hj]at hn;subst hn;repeat (first|refine wv ?_|refine wg rfl cF ?_|refine wz ?_)
  exact⟨.inl rfl,_,rfl,rfl⟩
theorem fit11_v(x:Bool)(l:List Nat)(t:List (List ZZ))(h:okM ((x,l),t) 68719476736):wG Tryz.prog 15 [.agg [.bool x,vL l,vT t]] (fun y=>y=.int .i64 (jK ((x,l),t))):=by
 refine wD wE Tryz.func15 rfl rfl rfl rfl fun w0=>?_;have fin:∀{u v:Int},u=v→V.int .i64 u=V.int .i64 v:=fun h=>by rw[h]
 have od:okZ (x,l):=⟨h.1,pD h.2.1 (by decide)⟩
 have hl:t.length≤68719476736:=h.2.2.1.1;have q1:=check11_v x l t od (by omega);have q2:=qCJ x l t (by omega);unfold jK;by_cases h0:chk ((x,l),t)=0
 ·have q3:=height11_v x l t h (chk0 h0).1;rw[if_pos h0];rw[h0]at q1;dsimp only;generalize htM ((x,l),t)=ht at *
  obtain⟨c,hce⟩:∃c,wS t=c:=⟨_,rfl⟩
  rw[hce]at q2 ⊢;by_cases h1:t.length=0
  ·rw[if_neg (fun hh=>hh.2 h1)];repeat (first|refine wv ?_|refine wg rfl cT ?_|refine wg rfl nF ?_|refine wc q1 ?_|refine wc q2 ?_|refine vD rfl rfl rfl rfl rfl rfl ?_|refine wz ?_)
   exact⟨.inl rfl,_,rfl,rfl⟩
  ·by_cases h2:t.length=c
   ·rw[if_pos ⟨h2,h1⟩];by_cases h3:t.length≤24
    ·by_cases h4:ht≤4096
     ·rw[if_pos ⟨h3,h4⟩];repeat (first|refine wv ?_|refine wg rfl cF ?_|refine wg rfl nF ?_|refine wc q1 ?_|refine wc q2 ?_|refine wc q3 ?_|refine wz ?_)
      exact⟨.inl rfl,_,rfl,rfl⟩
     ·rw[if_neg (fun hh=>h4 hh.2)];repeat (first|refine wv ?_|refine wg rfl cT ?_|refine wg rfl cF ?_|refine wg rfl nF ?_|refine wc q1 ?_|refine wc q2 ?_|refine wc q3 ?_|refine wz ?_)
      exact⟨.inl rfl,_,rfl,rfl⟩
    ·rw[if_neg (fun hh=>h3 hh.1)];repeat (first|refine wv ?_|refine wg rfl cT ?_|refine wg rfl cF ?_|refine wg rfl nF ?_|refine wc q1 ?_|refine wc q2 ?_|refine vD rfl rfl rfl rfl rfl rfl ?_|refine wz ?_)
     exact⟨.inl rfl,_,rfl,rfl⟩
   ·rw[if_neg (fun hh=>h2 hh.1)];repeat (first|refine wv ?_|refine wg rfl cF ?_|refine wg rfl nT ?_|refine wg rfl nF ?_|refine wc q1 ?_|refine wc q2 ?_|refine wz ?_)
    exact⟨.inl rfl,_,rfl,rfl⟩
 ·rw[if_neg h0];generalize chk ((x,l),t)=c at *
  repeat (first|refine wv ?_|refine wg rfl nT ?_|refine wc q1 ?_|refine wz ?_)
  exact⟨.inl rfl,_,rfl,rfl⟩
def wD1(qs:List QQ):Nat:=wHB (qs.map fun q=>((wX q).den:Int)) 1
def yH(D:Int)(q:QQ):ZZ:=zn (wX q*(D:Rat)).num
theorem lcmN_app(a b:List Int)(n:Nat):wHB (a++b) n=wHB b (wHB a n):=by unfold wHB;rw[pC4]
theorem lcmN_two(a:Nat)(x:Int):wHB [(a:Int),x] 1=Nat.lcm a x.natAbs:=by show Nat.lcm (Nat.lcm 1 (a:Int).natAbs) x.natAbs=_;rw[bE,Nat.lcm_one_left]
theorem wAG{α:Type}{qs:List α}{j:Nat}{q:α}(h:qs[j]? = some q):qs.take (j+1)=qs.take j++[q]:=by rw[cI,h];rfl
theorem common_v(qs:List QQ)(D:Nat)(hD:0<D)(hDl:lm D≤68719476736)(hq:∀q∈qs,okS q∧(wX q).den∣D)(hl:qs.length≤1099511627776):wG Tryz.prog 42 [vQs qs] (fun y=>y=.tup [nI (wD1 qs:Nat),.list ((qs.map (yH (wD1 qs:Nat))).map qL)]):=by
 refine wD wE Tryz.func42 rfl rfl rfl rfl fun w0=>?_;have q0:=rof_v 1 (by decide);repeat (first|refine wc q0 ?_|refine wg rfl (sL (wB1 qs)) ?_|refine wl ?_|refine wv ?_|refine wz ?_)
 refine wP (fun b:Nat×Nat=>[jV 0 (vQs qs),jB 4 2,jC 5 [.v (.bool false),.nils],jB 8 4,jC 9 [.v (.bool (zn (b.2:Nat)).1),.v (vL (zn (b.2:Nat)).2)],jV 22 (vQs qs),jI 24 (qs.length),jI 26 (b.1)])
  (fun b=>b.1≤qs.length∧0<b.2∧b.2∣D∧b.2=wD1 (qs.take b.1)) (fun b=>qs.length-b.1) (0,1) (fun _=>rfl) ⟨pN _,by decide,Nat.one_dvd _,rfl⟩ ⟨rfl,rfl,rfl,rfl,rfl,rfl,rfl,rfl,trivial⟩ fun⟨j,a⟩ hI=>?_
 obtain⟨hJ,ha,had,hae⟩:=hI;dsimp only at hJ ha had hae ⊢;rcases pK j qs.length with hj|hj
 ·obtain⟨q,hqe⟩:=gE hj;obtain⟨o1,o2⟩:=hq q (pF hqe);have hg:=wF7 qs j q hqe;have q1:=wX4 q o1.ok o1.2.2.2.2;have hden:=(wX q).den_nz;have hla:lm (a:Int)≤68719476736:=pD (wOF (bQ hD had)) hDl;have hlq:lm ((wX q).den:Int)≤68719476736:=pD (wOF (bQ hD o2)) hDl;have q2:=lcm3_v [zn (a:Nat),zn ((wX q).den:Int)] D hD (by omega) (fun z hz=>by
   rcases pU.1 hz with rfl|hz
   ·exact⟨kY _ (by omega),by rw[wF];omega,by rw[wF];exact had⟩
   ·rw[pP.1 hz];exact⟨kY _ (by omega),by rw[wF];omega,by rw[wF];exact o2⟩) (by show 2≤1099511627776;decide)
  have e1:wHB ([zn (a:Nat),zn ((wX q).den:Int)].map intOf) 1=Nat.lcm a (wX q).den:=by show wHB [intOf (zn (a:Nat)),intOf (zn ((wX q).den:Int))] 1=_;rw[wF,wF,lcmN_two,bE]
  rw[e1]at q2;have e2:Nat.lcm a (wX q).den=wD1 (qs.take (j+1)):=by rw[wAG hqe];unfold wD1 at hae ⊢;rw[fD,lcmN_app,←hae];show _=Nat.lcm a ((wX q).den:Int).natAbs;rw[bE]
  have e3:0<Nat.lcm a (wX q).den:=Nat.lcm_pos ha (by omega);have e4:Nat.lcm a (wX q).den∣D:=Nat.lcm_dvd had o2;clear hae;unfold nR qn at q1;obtain⟨⟨x,l⟩,⟨y,k⟩⟩:=q;repeat (first|refine wg rfl (sX j hg) ?_|refine wc q1 ?_|refine wh q2 ?_|refine wl ?_|refine wv ?_|refine wg rfl cT ?_|refine wg rfl sB ?_|refine wz ?_)
  exact⟨(j+1,_),⟨hj,e3,e4,e2⟩,by dsimp only;omega,rfl,rfl,rfl,rfl,rfl,rfl,rfl,rfl,trivial⟩
 ·rw[pR hj]at hae;subst hae;obtain⟨C,hCe⟩:∃C,wD1 qs=C:=⟨_,rfl⟩
  rw[hCe]at ha had ⊢;have hCl:lm (C:Int)≤68719476736:=pD (wOF (bQ hD had)) hDl;have q3:=rint5_v (zn (C:Nat)) (kY _ (by omega));rw[wF]at q3;repeat (first|refine wg rfl (sL (wB1 qs)) ?_|refine wv ?_|refine wg rfl cF ?_|refine wz ?_)
  refine jL (d:=7) (id:=1) (k:=2) (T:=25) rfl rfl rfl rfl ?_;refine wP (fun i:Nat=>[jB 4 2,jC 5 [.v (.bool false),.nils],jB 8 4,jC 9 [.v (.bool (zn (C:Nat)).1),.v (vL (zn (C:Nat)).2)],jO 14 1 25 2 (((qs.take i).map (yH (C:Nat))).map qL),jV 48 (vQs qs),jI 50 (qs.length),jI 52 i])
   (fun i=>i≤qs.length) (fun i=>qs.length-i) 0 (fun _=>rfl) (pN _) ⟨rfl,rfl,rfl,rfl,⟨_,rfl⟩,rfl,rfl,rfl,trivial⟩ fun i hI=>?_
  rcases pK i qs.length with hi|hi
  ·obtain⟨q,hqe⟩:=gE hi;obtain⟨o1,o2⟩:=hq q (pF hqe);have hg:=wF7 qs i q hqe;have q4:=wQI q (qn ((C:Int):Rat)) o1 (wKF _ (by simpa using hCl) (by
    show lm ((((C:Int):Rat).den:Nat):Int)≤_;rw[Rat.den_intCast];exact pD (lm_dvd (y:=(C:Int)) (Int.one_dvd _) (by omega)) hCl))
   rw[ratOf_qn]at q4;have hs:((qs.take i).map (yH (C:Nat))).map qL++[qL (yH (C:Nat) q)]=((qs.take (i+1)).map (yH (C:Nat))).map qL:=by rw[wAG hqe];simp
   have hlen:(((qs.take i).map (yH (C:Nat))).map qL).length=i:=by rw[pH,pH,pV];omega
   have row2:∀e∈[qL (yH (C:Nat) q)],e.length=2:=fun e h=>by rw[pP.1 h];rfl
   unfold nR qn at q3 q4;unfold yH at hs row2 hlen;obtain⟨⟨x,l⟩,⟨y,k⟩⟩:=q;repeat (first|refine wg rfl (sX i hg) ?_|refine wc q3 ?_|refine wc q4 ?_|refine wf rfl rfl (sA 7001 [qL (zn (wX ((x,l),(y,k))*((C:Int):Rat)).num)] 2 32 row2 hs) ?_|refine wl ?_|refine wv ?_|refine wg rfl cT ?_|refine wg rfl sB ?_|refine wz ?_)
   exact⟨i+1,hi,by omega,rfl,rfl,rfl,rfl,⟨_,rfl⟩,rfl,rfl,rfl,trivial⟩
  ·have hie:i=qs.length:=by omega
   subst hie;rw[mZ];repeat (first|refine wv ?_|refine wg rfl cF ?_|refine wz ?_)
   exact⟨.inl rfl,_,rfl,rfl⟩
end Go.Proofs.YtdcjmnfngabhoaaGreat
