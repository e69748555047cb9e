/- nat.Right, told of trees. -/
import Derived.Test.YtdcjmnfngabhoaaGreatCc12
set_option linter.all false
set_option maxRecDepth 20000
set_option maxHeartbeats 6400000
namespace Go.Proofs.YtdcjmnfngabhoaaGreat
open Go.RowKit Go.Ev Go.Vl
theorem right_v(xs:List Nat)(s:Nat)(hx:okL xs)(hl:xs.length≤8796093022208)(hs:s<32):wG Tryz.prog 205 [vL xs,.int .i64 (s:Nat)] (fun y=>y=.tup [vN (wC xs/2^s),.int .i64 0]):=by
 refine wD wE Tryz.func205 rfl rfl rfl rfl fun w0=>?_;have hq:Ev.ewrap .i64 ((s:Int).tdiv 32)=0:=by
  have:(s:Int).tdiv 32=0:=by rw[pA4 (by omega)];omega
  rw[this];rfl
 have hr:(s:Int).tmod 32=(s:Nat):=by rw[pA5 (by omega)];omega
 have htl:=zQ xs;have htn:wC (qF xs)=wC xs:=by rw[qT xs hx,wK]
 have hy:okL (qF xs):=fun x h=>hx x (wO8 xs x h);rw[←htn];have htr:=wZ3 xs (by omega);generalize qF xs=ys at *
 have hyl:=w9 ys;rcases mO ys.length with h0|hp
 ·obtain rfl:=mM h0;repeat (first|refine wg rfl (sL (w9 _)) ?_|refine wv ?_|refine wg rfl cT ?_|refine wg rfl cF ?_|refine wc htr ?_|refine wg rfl (wD8 rfl rfl rfl (by decide) hq rfl) ?_|refine wz ?_)
  refine⟨.inl rfl,_,rfl,?_⟩;simp[wC,vN,toL,vL,uL]
 ·have hdr:(uL ys).drop 0=uL ys:=rfl;repeat (first|refine wg rfl (sL (w9 _)) ?_|refine wv ?_|refine wg rfl cF ?_|refine wc htr ?_|refine wg rfl (wD8 rfl rfl rfl (by decide) hq rfl) ?_|refine wg rfl (wCG wE rfl rfl rfl (l:=0) rfl rfl rfl (wRJ _) (by omega) hdr rfl) ?_|refine wg rfl (x8 (id:=7000) (m:=1) (bb:=4) wE rfl rfl rfl rfl rfl rfl rfl rfl rfl rfl (pC _) rfl (by omega) (by simp only[maxLen];omega) rfl rfl rfl (wZ2 _)) ?_|refine wz ?_)
  refine wP (fun b:Nat×List Nat=>[jV 0 (vL ys),jI 2 s,jO 12 0 130 1 (uL b.2),jV 52 (vL ys),jI 54 (ys.length),jI 56 (b.1)])
   (fun b=>b.1≤ys.length∧b.2.length=ys.length∧okL b.2∧wC (b.2.take b.1)=wC ys/2^s%4294967296^b.1)
   (fun b=>ys.length-b.1) (0,List.replicate ys.length 0) (fun _=>rfl) ⟨pN _,by simp,fun x h=>by rw[(fA.1 h).2];decide,by simp[wC,Nat.mod_one]⟩ ⟨rfl,rfl,⟨_,rfl⟩,rfl,rfl,rfl,trivial⟩ fun⟨j,out⟩ hI=>?_
  obtain⟨h1,h2,h3,h4⟩:=hI;dsimp only at h1 h2 h3 h4 ⊢;have ho:=w9 out;rcases pK j ys.length with hj|hj
  ·have hxk:=getD_lt ys hy j;have hxk2:=getD_lt ys hy (j+1);have hg:=kC ys j hj;have hog:=kC out j (by omega);have hset:=wK6 out j;have hdg:=wQ3 ys j s (by omega) hy;have hor:=wM4 (ys.getD (j+1) 0) (ys.getD j 0) hxk;have h1v:ys.length≤j+1→ys.getD (j+1) 0=0:=fun h=>by simp[List.getD,h]
   have hg2:=fun h=>kC ys (j+1) h;generalize ys.getD j 0=x at *
   generalize ys.getD (j+1) 0=y at *
   rw[Nat.or_comm]at hor;rw[fZ x,mL 4294967296 y]at hdg;obtain⟨t,ht⟩:∃t,y*4294967296+x=t:=⟨_,rfl⟩
   rw[ht]at hor hdg;obtain⟨q,hqe⟩:∃q,t/2^s=q:=⟨_,rfl⟩
   rw[hqe]at hdg;have hql:q≤t:=by rw[←hqe];exact cP _ _
   have hset2:=wIA out ys.length j (q%4294967296) h2 hj;have hse:=right_step (wC ys/2^s) (4294967296^j) _ hdg;have hsv:∀Y,wC (Y:List Nat)=wC (out.take j)+4294967296^j*(q%4294967296)→wC Y=wC ys/2^s%4294967296^(j+1):=fun Y h=>by rw[h,h4,mS,hse]
   rcases pK (j+1) ys.length with hj1|hj1
   ·have hg3:=hg2 hj1;repeat (first|refine wg rfl (sL (w9 _)) ?_|refine wv ?_|refine wg rfl cT ?_|refine wg rfl sB ?_|refine wg rfl (qN wE rfl rfl rfl rfl (jU (by omega) (by omega)) rfl) ?_|refine wg rfl (sX j hg) ?_|refine wg rfl (wA0 wE rfl rfl rfl (i:=j+1) (by omega) rfl rfl hg3 rfl rfl) ?_|refine wg rfl (kD rfl rfl rfl (by decide) hr rfl) ?_|refine wg rfl (xP (s:=32) rfl rfl rfl rfl (by decide) (by rw[ew64,mY (by omega)]) rfl) ?_|refine wg rfl (kK rfl rfl rfl rfl (nOr64 hor (by omega) (by omega)) rfl) ?_|refine wg rfl (yS (s:=s) rfl rfl rfl rfl (by simp only[IntKind.bits];omega) hqe rfl) ?_|refine wg rfl (qN wE rfl rfl rfl rfl (ew32 q) rfl) ?_|refine wg rfl (zB wE rfl rfl rfl (i:=j) rfl rfl rfl (by omega) rfl rfl rfl) ?_|refine wg rfl (zH wE rfl rfl rfl hog rfl rfl rfl rfl (by decide) rfl (hset _)) ?_|refine wz ?_)
    exact⟨(j+1,out.set j (q%4294967296)),⟨hj,by simp[h2],jX out j _ h3 (dI _ (by decide)),hsv _ hset2⟩,by dsimp only;omega,rfl,rfl,⟨_,rfl⟩,rfl,rfl,rfl,trivial⟩
   ·have hy0:=h1v hj1;subst hy0;have hxt:x=t:=by omega
    subst hxt;have hqm:q%4294967296=q:=mY (by omega);rw[hqm]at hsv hset2;repeat (first|refine wg rfl (sL (w9 _)) ?_|refine wv ?_|refine wg rfl cT ?_|refine wg rfl cF ?_|refine wg rfl sB ?_|refine wg rfl (qN wE rfl rfl rfl rfl (jU (by omega) (by omega)) rfl) ?_|refine wg rfl (qN wE rfl rfl rfl rfl (wGA (by omega) (by omega)) rfl) ?_|refine wg rfl (sX j hg) ?_|refine wg rfl (kD rfl rfl rfl (by decide) hr rfl) ?_|refine wg rfl (yS (s:=s) rfl rfl rfl rfl (by simp only[IntKind.bits];omega) hqe rfl) ?_|refine wg rfl (zB wE rfl rfl rfl (i:=j) rfl rfl rfl (by omega) rfl rfl rfl) ?_|refine wg rfl (zH wE rfl rfl rfl hog rfl rfl rfl rfl (by decide) rfl (hset _)) ?_|refine wz ?_)
    exact⟨(j+1,out.set j q),⟨hj,by simp[h2],jX out j _ h3 (by omega),hsv _ hset2⟩,by dsimp only;omega,rfl,rfl,⟨_,rfl⟩,rfl,rfl,rfl,trivial⟩
  ·repeat (first|refine wv ?_|refine wg rfl cF ?_|refine wh (wPH out h3 (by omega)) ?_|refine wz ?_)
   refine⟨.inl rfl,_,rfl,?_⟩;have hje:j=ys.length:=by omega
   subst hje;rw[wWJ ys s hy,pR (by omega)]at h4;rw[h4]
structure Guess(top next u2 t Q q r:Nat):Prop where
 eq:q*top+r=t
 rB:r<4294967296
 ge:Q≤q
 le:q≤4294967297
 far:4294967297≤q→r+top<4294967296
structure Digit(top next u2 t Q:Nat):Prop where
 top1:2147483648≤top
 top2:top<4294967296
 next2:next<4294967296
 u22:u2<4294967296
 big:∀q,4294967296≤q→Q<q
 fit:∀q,t*4294967296+u2<q*(top*4294967296+next)→Q<q
 tle:t<top*4294967296+4294967296
theorem Digit.start{top next u2 t Q:Nat}(d:Digit top next u2 t Q):Guess top next u2 t Q (t/top) (t%top):=by
 have h1:=d.top1;have h2:=d.top2;have h3:=cU t top;have h4:=dI t (show 0<top by omega);have h5:=d.tle;have hc:t/top*top=top*(t/top):=mL _ _;refine⟨by omega,by omega,?_,?_,?_⟩
 ·rcases pK (t/top) Q with h|h
  ·exfalso;have:=d.fit (t/top+1) (by
    have e:(t/top+1)*(top*4294967296+next)=(top*(t/top)+top)*4294967296+(t/top+1)*next:=by rw[mE,←mJ,cV (t/top) 1 top,pA6,hc]
    have h6:t+1≤top*(t/top)+top:=by omega
    have h7:(t+1)*4294967296≤(top*(t/top)+top)*4294967296:=mR _ h6;have h8:=d.u22;rw[e];omega)
   omega
  ·exact h
 ·rcases pK (t/top) 4294967298 with h|h
  ·omega
  ·exfalso
   have:top*4294967298≤top*(t/top):=mK _ h
   omega
 ·intro h
  have:top*4294967297≤top*(t/top):=mK _ h
  omega
theorem Guess.down{top next u2 t Q q r:Nat}(d:Digit top next u2 t Q)(g:Guess top next u2 t Q q r)(h:4294967296≤q∨r*4294967296+u2<q*next) :
  Q≤q-1∧1≤q∧(q-1)*top+(r+top)=t∧(r+top<4294967296→Guess top next u2 t Q (q-1) (r+top)) ∧
   (4294967296≤r+top→q-1<4294967296∧(q-1)*(top*4294967296+next)≤t*4294967296+u2):=by
 have hq:Q<q:=by
  rcases h with h|h
  ·exact d.big q h
  ·refine d.fit q ?_;have e:q*(top*4294967296+next)=q*top*4294967296+q*next:=by rw[mE,←mJ]
   have h5:t*4294967296=q*top*4294967296+r*4294967296:=by rw[←g.eq,cV]
   rw[e,h5,cA];exact pE4 h _
 obtain⟨p,rfl⟩:∃p,q=p+1:=⟨q-1,by omega⟩
 have he:p*top+(r+top)=t:=by have:=g.eq;rw[cV,pA6]at this;omega
 refine⟨by omega,by omega,by simpa using he,fun hr=>⟨by simpa using he,hr,by omega,by have:=g.le;omega,fun h2=>by have:=g.le;omega⟩,fun hr=>?_⟩;have hp:p<4294967296:=by
  have h1:=g.le;rcases pK p 4294967296 with h2|h2
  ·exact h2
  ·have:=g.far (by omega);omega
 refine⟨by omega,?_⟩;rw[pB5];have e:p*(top*4294967296+next)=p*top*4294967296+p*next:=by rw[mE,←mJ]
 have h5:t*4294967296=p*top*4294967296+(r+top)*4294967296:=by rw[←he,cV]
 have h6:p*next≤4294967296*4294967296:=dR (by omega) (bV d.next2)
 have h7:4294967296*4294967296≤(r+top)*4294967296:=mR _ hr;rw[e];omega
theorem Guess.end{top next u2 t Q q r:Nat}(g:Guess top next u2 t Q q r)(h:¬(4294967296≤q∨r*4294967296+u2<q*next)) :
  q<4294967296∧q*(top*4294967296+next)≤t*4294967296+u2:=by
 have e:q*(top*4294967296+next)=q*top*4294967296+q*next:=by rw[mE,←mJ]
 have h5:t*4294967296=q*top*4294967296+r*4294967296:=by rw[←g.eq,cV]
 rw[e];omega
theorem digit_of(P W V top next u2 t:Nat)(hP:0<P)(h1:2147483648≤top)(h2:top<4294967296)(h3:next<4294967296)(h4:u2<4294967296)(hV:(top*4294967296+next)*P≤V)(hW1:W<(t*4294967296+u2+1)*P)(hWV:W<V*4294967296)(ht:t<top*4294967296+4294967296):Digit top next u2 t (W/V):=by
 have hV0:0<V:=mN (gQ (by omega) hP) hV;refine⟨h1,h2,h3,h4,fun q hq=>?_,fun q hq=>?_,ht⟩
 ·exact mN ((gU hV0).2 (by rw[mL];exact hWV)) hq
 ·refine(gU hV0).2 (mN hW1 ?_);refine pD (mR P hq) ?_;rw[mJ];exact mK q hV
theorem guess_le(P W V top next u2 t q:Nat)(hP:0<P)(hPV:4294967296*P≤V)(hV:V<(top*4294967296+next+1)*P)(hW:(t*4294967296+u2)*P≤W)(hq:q<4294967296)(h:q*(top*4294967296+next)≤t*4294967296+u2):q≤W/V+1:=by
 have hV0:0<V:=mN (gQ (by decide) hP) hPV;rcases pK (W/V+1) q with hlt|hge
 ·exfalso;have a1:(W/V+2)*V≤q*V:=mR _ hlt;have a2:q*V≤q*((top*4294967296+next+1)*P):=mK _ (bV hV);have a3:q*((top*4294967296+next+1)*P)=q*(top*4294967296+next)*P+q*P:=by
   rw[←mJ,mE q,pC8,cV]
  have a4:q*(top*4294967296+next)*P≤(t*4294967296+u2)*P:=mR _ h;have a5:q*P<4294967296*P:=(pA1 hP).2 hq;have a6:=cU W V;have a7:=dI W hV0;have a8:(W/V+2)*V=V*(W/V)+2*V:=by rw[cV,mL (W/V)]
  omega
 ·exact hge
theorem take_limb(u q v carry borrow:Nat)(hu:u<4294967296)(hq:q<4294967296)(hv:v<4294967296)(hc:carry<4294967296)(hb:borrow≤1) :
  q*v+carry<18446744073709551616∧(q*v+carry)/4294967296<4294967296 ∧
  (u+18446744073709551616-(q*v+carry)%4294967296-borrow)%18446744073709551616/9223372036854775808≤1 ∧
  (u+18446744073709551616-(q*v+carry)%4294967296-borrow)%18446744073709551616%4294967296+(q*v+carry)%4294967296+borrow =
   u+4294967296*((u+18446744073709551616-(q*v+carry)%4294967296-borrow)%18446744073709551616/9223372036854775808):=by
 have h1:q*v≤4294967295*4294967295:=dR (by omega) (by omega);generalize q*v=p at *
 refine⟨by omega,by omega,by omega,by omega⟩
theorem take_sum(Pi A U Vi q u v c b d' c' b' lo:Nat)(h:A+q*Vi=U+Pi*(c+b))(hp:q*v+c=4294967296*c'+lo)(hd:d'+lo+b=u+4294967296*b') :
  (A+Pi*d')+q*(Vi+Pi*v)=(U+Pi*u)+Pi*4294967296*(c'+b'):=by
 have e1:q*(Vi+Pi*v)=q*Vi+Pi*(q*v):=by rw[mE,fX]
 have e2:Pi*(q*v)+Pi*c=Pi*4294967296*c'+Pi*lo:=by rw[←mE,hp,mE,←mJ]
 have e3:Pi*d'+Pi*lo+Pi*b=Pi*u+Pi*4294967296*b':=by rw[←mE,←mE,hd,mE,←mJ]
 rw[e1,mE (Pi*4294967296)];rw[mE]at h;omega
theorem take_fits(Pn A U V W q un c b:Nat)(hV:0<V)(hVP:V≤Pn)(h:A+q*V=U+Pn*(c+b))(hW:W=U+Pn*un)(hge:W/V≤q)(hle:c+b≤un) :
  q=W/V∧A=W%V∧un-c-b=0:=by
 have e1:Pn*un=Pn*(c+b)+Pn*(un-(c+b)):=by rw[←mE];congr 1;omega
 have e2:A+Pn*(un-(c+b))+q*V=W:=by omega
 have hq:q≤W/V:=(Nat.le_div_iff_mul_le hV).2 (by omega);have hqe:q=W/V:=by omega
 have e3:=cU W V;have e4:=dI W hV;have e5:q*V=V*(W/V):=by rw[hqe,mL]
 have hz:un-(c+b)=0:=by
  rcases mO (un-(c+b))with h0|h0
  ·exact h0
  ·exfalso
   have:Pn*1≤Pn*(un-(c+b)):=mK _ h0
   omega
 rw[hz,dU]at e2;exact⟨hqe,by omega,by omega⟩
theorem take_lent(Pn A U V W q un c b:Nat)(hV:0<V)(hVP:V<Pn)(hA:A<Pn)(h:A+q*V=U+Pn*(c+b))(hW:W=U+Pn*un)(hle:q≤W/V+1)(hlt:un<c+b) :
  q=W/V+1∧c+b=un+1∧A+V=W%V+Pn:=by
 have e1:Pn*(c+b)=Pn*un+Pn*(c+b-un):=by rw[←mE];congr 1;omega
 have e2:A+q*V=W+Pn*(c+b-un):=by omega
 have e3:=cU W V;have e4:=dI W hV;have hm:Pn*1≤Pn*(c+b-un):=mK _ (by omega);have hqW:W<q*V:=by omega
 have hq:W/V<q:=(gU hV).2 hqW;have hqe:q=W/V+1:=by omega
 have e5:q*V=V*(W/V)+V:=by rw[hqe,cV,pA6,mL]
 have hz:c+b-un=1:=by
  rcases pK (c+b-un) 2 with h0|h0
  ·omega
  ·exfalso
   have:Pn*2≤Pn*(c+b-un):=mK _ h0
   omega
 rw[hz]at e2;exact⟨hqe,by omega,by omega⟩
theorem getD_drop(us:List Nat)(j i:Nat):(us.drop j).getD i 0=us.getD (j+i) 0:=by simp[List.getD]
theorem win_split(us:List Nat)(j n:Nat)(hn:2≤n)(hx:∀x,x∈us→x<4294967296)(hhi:wC (us.drop (j+1+n))=0) :
  ∃lo,lo<4294967296^(n-2)∧wC (us.drop j)=lo+4294967296^(n-2)*(us.getD (j+(n-2)) 0+4294967296*(us.getD (j+(n-1)) 0+4294967296*us.getD (j+n) 0)):=by
 refine⟨wC ((us.drop j).take (n-2)),kB _ _ fun x h=>hx x (dF h),?_⟩;rw[qR (us.drop j) (n-2),cM,wZ us (j+(n-2)),wZ us (j+(n-2)+1),wZ us (j+(n-2)+1+1)];rw[show j+(n-2)+1=j+(n-1) by omega,show j+(n-1)+1=j+n by omega,show j+n+1=j+1+n by omega,hhi];simp
theorem hi_zero(us:List Nat)(k n V:Nat)(h:wC (us.drop k)<V)(hV:V<4294967296^n):wC (us.drop (k+n))=0:=by
 have h1:=qR (us.drop k) n;rw[cM]at h1;rcases mO (wC (us.drop (k+n)))with h0|h0
 ·exact h0
 ·have:4294967296^n*1≤4294967296^n*wC (us.drop (k+n)):=mK _ h0
  omega
theorem top_split(vs:List Nat)(n:Nat)(hn:2≤n)(hl:vs.length=n)(hx:∀x,x∈vs→x<4294967296) :
  ∃lo,lo<4294967296^(n-2)∧wC vs=lo+4294967296^(n-2)*(vs.getD (n-2) 0+4294967296*vs.getD (n-1) 0):=by
 refine⟨wC (vs.take (n-2)),kB _ _ hx,?_⟩;rw[qR vs (n-2),wZ vs (n-2),wZ vs (n-2+1)];rw[show n-2+1=n-1 by omega,show n-1+1=n by omega,mA (pG9 hl)];simp[wC]
theorem long_digit(us vs:List Nat)(j n:Nat)(hn:2≤n)(hl:vs.length=n)(hu:∀x,x∈us→x<4294967296)(hv:∀x,x∈vs→x<4294967296)(htop:2147483648≤vs.getD (n-1) 0)(hW:wC (us.drop (j+1))<wC vs){t:Nat}(ht:us.getD (j+n) 0*4294967296+us.getD (j+(n-1)) 0=t) :
  Digit (vs.getD (n-1) 0) (vs.getD (n-2) 0) (us.getD (j+(n-2)) 0) t (wC (us.drop j)/wC vs) ∧
  (∀q,q<4294967296→q*(vs.getD (n-1) 0*4294967296+vs.getD (n-2) 0)≤t*4294967296+us.getD (j+(n-2)) 0→q≤wC (us.drop j)/wC vs+1):=by
 have hVB:wC vs<4294967296^n:=by rw[←hl];exact qP vs hv
 have hhi:=hi_zero us (j+1) n _ hW hVB;obtain⟨lo,hlo,e1⟩:=win_split us j n hn hu hhi;obtain⟨lv,hlv,e2⟩:=top_split vs n hn hl hv;have h2:=getD_lt us hu (j+(n-2));have hnx:=getD_lt vs hv (n-2);have htp:=getD_lt vs hv (n-1);have e3:wC (us.drop j)=us.getD j 0+4294967296*wC (us.drop (j+1)):=wZ us j;have hj:=getD_lt us hu j
 have htl:t<vs.getD (n-1) 0*4294967296+4294967296:=by
  have hs:=qR (us.drop (j+1)) (n-2);rw[cM,wZ us (j+1+(n-2)),wZ us (j+1+(n-2)+1)]at hs;rw[show j+1+(n-2)+1=j+n by omega,show j+1+(n-2)=j+(n-1) by omega,show j+n+1=j+1+n by omega,hhi]at hs;have hP:0<4294967296^(n-2):=cX (by decide);have hc:us.getD (j+(n-1)) 0+4294967296*(us.getD (j+n) 0+4294967296*0)=t:=by rw[←ht];omega
  rw[hc]at hs;generalize 4294967296^(n-2)=P at *
  rcases pK t (vs.getD (n-1) 0*4294967296+4294967296)with h|h
  ·exact h
  ·exfalso;have h5:P*(vs.getD (n-2) 0+4294967296*vs.getD (n-1) 0+1)≤P*t:=mK _ (by omega);rw[mE,pC8]at h5;omega
 have hP:0<4294967296^(n-2):=cX (by decide);have e1':wC (us.drop j)=lo+4294967296^(n-2)*(t*4294967296+us.getD (j+(n-2)) 0):=by rw[e1,←ht];congr 2;omega
 have e2':wC vs=lv+4294967296^(n-2)*(vs.getD (n-1) 0*4294967296+vs.getD (n-2) 0):=by rw[e2];congr 2;omega
 generalize 4294967296^(n-2)=P at *
 generalize us.getD (j+(n-2)) 0=u2 at *
 generalize vs.getD (n-2) 0=nx at *
 generalize vs.getD (n-1) 0=tp at *
 have f1:(tp*4294967296+nx)*P≤wC vs:=by rw[e2',mL];omega
 have f2:wC (us.drop j)<(t*4294967296+u2+1)*P:=by rw[e1',cV _ 1 P,pA6,mL P];omega
 have f3:wC (us.drop j)<wC vs*4294967296:=by rw[e3];omega
 refine⟨digit_of P _ _ tp nx u2 t hP htop htp hnx h2 f1 f2 f3 htl,fun q hq hle=>?_⟩;refine guess_le P _ _ tp nx u2 t q hP ?_ ?_ ?_ hq hle
 ·refine pD ?_ f1;exact mR _ (by omega)
 ·rw[e2',cV _ 1 P,pA6,mL P];omega
 ·rw[e1',mL];omega
theorem wI1(us:List Nat)(j i d:Nat)(h:j+i<us.length) :
  (us.set (j+i) d).take j=us.take j∧(us.set (j+i) d).drop (j+i+1)=us.drop (j+i+1)∧wC (((us.set (j+i) d).drop j).take (i+1))=wC ((us.drop j).take i)+4294967296^i*d:=by
 refine⟨by rw[List.take_set_of_le (by omega)],by rw[pE8 (by omega)],?_⟩;have e:(us.set (j+i) d).drop j=(us.drop j).set i d:=by rw[List.drop_set,if_neg (by omega)];simp
 rw[e];exact wIA (us.drop j) (us.length-j) i d (by simp) (by omega)
theorem wXC(x:Nat)(h0:0<x)(h:x<4294967296):∃L,Lib.bitLen x=L∧1≤L∧L≤32∧x<2^L∧2^(L-1)≤x:=by
 refine⟨_,rfl,?_⟩;have h32:=Lib.bitLen_le x 32 (by decide) (by simpa using h);have hpos:∀y,0<y→y<2^64→1≤Lib.bitLen y:=fun y hy hl=>by rw[Lib.bitLen_half y (by omega) hl];omega
 have h64:x<2^64:=mN h (by decide);have h1:=hpos x h0 h64;refine⟨h1,h32,?_,?_⟩
 ·rcases pK x (2^Lib.bitLen x)with hh|hh
  ·exact hh
  ·exfalso;have e:=Lib.bitLen_shift (Lib.bitLen x) x hh h64;have hq:0<x/2^Lib.bitLen x:=Nat.div_pos hh (cX (by decide));have:=hpos _ hq (fQ (cP _ _) h64);omega
 ·rcases pK x (2^(Lib.bitLen x-1))with hh|hh
  ·exfalso;have:=Lib.bitLen_le x (Lib.bitLen x-1) (by omega) hh;omega
  ·exact hh
theorem leftG_more(xs:List Nat)(s c:Nat)(h:(qS xs s c).length=xs.length+1):4294967296^xs.length≤wC (qS xs s c):=by
 induction xs generalizing c with
 |nil=>
  unfold qS at h ⊢;split
  ·simp_all
  ·simp[wC];omega
 |cons x xs ih=>simp only[qS,List.length_cons,wC]at h ⊢;have:=ih _ (by omega:(qS xs s (x*2^s/4294967296)).length=xs.length+1);rw[mS,mL];have h2:=mK 4294967296 this;omega
theorem long_start(ys:List Nat)(n s:Nat)(hn:2≤n)(hl:ys.length=n)(hy:∀x,x∈ys→x<4294967296)(h0:0<ys.getD (n-1) 0)(hs:Lib.bitLen (ys.getD (n-1) 0)+s=32) :
  s<32∧(qS ys s 0).length=n∧(∀x,x∈qS ys s 0→x<4294967296)∧wC (qS ys s 0)=wC ys*2^s∧2147483648≤(qS ys s 0).getD (n-1) 0:=by
 have htl:=getD_lt ys hy (n-1);obtain⟨L,hL,l1,l2,l3,l4⟩:=wXC _ h0 htl;rw[hL]at hs;have hs32:s<32:=by omega
 have hnat:=wXB ys s 0 hs32;rw[cG]at hnat;have hok:=qEF ys s 0 hs32 hy (cX (by decide));have hlen:=wOH ys s 0
 have e1:=qR ys (n-1);rw[wZ ys (n-1),show n-1+1=n by omega,mA (pG9 hl)]at e1;have e2:=kB ys (n-1) hy;have hPn:4294967296^n=4294967296^(n-1)*4294967296:=by rw[←mS];congr 1;omega
 have hP:0<4294967296^(n-1):=cX (by decide);have p1:2^L*2^s=4294967296:=by rw[←fC,hs]
 have p2:2^(L-1)*2^s=2147483648:=by rw[←fC,show L-1+s=31 by omega]
 simp only[wC,Nat.mul_zero,Nat.add_zero]at e1;generalize ys.getD (n-1) 0=tp at *
 have q1:wC ys<4294967296^(n-1)*(tp+1):=by rw[mE];omega
 have q2:wC ys*2^s<4294967296^n:=by refine mN ((pA1 (cX (by decide):0<2^s)).2 q1) ?_;rw[hPn,mJ];refine mK _ ?_;rw[←p1];exact mR _ l3
 have q3:4294967296^(n-1)*2147483648≤wC ys*2^s:=by
  have:4294967296^(n-1)*tp≤wC ys:=by omega
  refine pD ?_ (mR _ this);rw[mJ,←p2];exact mK _ (mR _ l4)
 have hln:(qS ys s 0).length=n:=by
  rcases pK n (qS ys s 0).length with h|h
  ·exfalso;have:=leftG_more ys s 0 (by omega);rw[hnat,hl]at this;omega
  ·omega
 refine⟨hs32,hln,hok,hnat,?_⟩;have f1:=qR (qS ys s 0) (n-1);rw[wZ _ (n-1),show n-1+1=n by omega,mA (pG9 hln)]at f1;have f2:=kB (qS ys s 0) (n-1) hok;simp only[wC,Nat.mul_zero,Nat.add_zero]at f1;rw[hnat]at f1;generalize (qS ys s 0).getD (n-1) 0=z at *
 rcases pK z 2147483648 with h|h
 ·exfalso
  have:4294967296^(n-1)*(z+1)≤4294967296^(n-1)*2147483648:=mK _ h
  rw[mE]at this;omega
 ·exact h
def wN7(xs:List Nat)(s:Nat):List Nat:=(qS xs s 0++[0,0]).take (xs.length+1)
theorem wTB(xs:List Nat)(s:Nat)(hs:s<32)(hx:∀x,x∈xs→x<4294967296):(wN7 xs s).length=xs.length+1∧(∀x,x∈wN7 xs s→x<4294967296)∧wC (wN7 xs s)=wC xs*2^s:=by
 have hnat:=wXB xs s 0 hs;rw[cG]at hnat;have hok:=qEF xs s 0 hs hx (cX (by decide));have hlen:=wOH xs s 0;unfold wN7;refine⟨by simp;omega,fun x h=>?_,?_⟩
 ·have:=dP h;simp only[List.mem_append,List.mem_cons]at this;rcases this with h|h|h|h
  ·exact hok x h
  ·omega
  ·omega
  ·cases h
 ·rcases pK xs.length (qS xs s 0).length with h|h
  ·rw[List.take_append_of_le_length (by omega),pR (by omega),hnat]
  ·have e:xs.length=(qS xs s 0).length:=by omega
   rw[e,fJ];simp[wN3,wC];rw[pR (by omega),hnat]
theorem longU_top(xs vs:List Nat)(n s:Nat)(hs:s<32)(hx:∀x,x∈xs→x<4294967296)(hn:2≤n)(hnx:n≤xs.length)(hvn:vs.length=n)(hv:∀x,x∈vs→x<4294967296)(htop:2147483648≤vs.getD (n-1) 0) :
  wC ((wN7 xs s).drop (xs.length-n+1))<wC vs:=by
 obtain⟨h1,h2,h3⟩:=wTB xs s hs hx;have e1:=qR vs (n-1);rw[wZ vs (n-1),show n-1+1=n by omega,mA (pG9 hvn)]at e1;simp only[wC,Nat.mul_zero,Nat.add_zero]at e1;have e2:=qR (wN7 xs s) (xs.length-n+1);have e3:=qP xs hx;have hp:2^s≤2147483648:=(mT (by decide) (show s≤31 by omega):2^s≤2^31)
 have e4:4294967296^xs.length=4294967296^(xs.length-n+1)*4294967296^(n-1):=by rw[←fC];congr 1;omega
 have hP:0<4294967296^(xs.length-n+1):=cX (by decide);rw[h3]at e2;have e5:wC xs*2^s<4294967296^(xs.length-n+1)*(4294967296^(n-1)*2^s):=by rw[←mJ,←e4];exact(pA1 (cX (by decide))).2 e3
 have e6:4294967296^(xs.length-n+1)*wC ((wN7 xs s).drop (xs.length-n+1))<4294967296^(xs.length-n+1)*(4294967296^(n-1)*2^s):=by omega
 have e7:=(Nat.mul_lt_mul_left hP).1 e6;have e8:4294967296^(n-1)*2^s≤4294967296^(n-1)*vs.getD (n-1) 0:=mK _ (by omega);omega
theorem long_round(us us' out:List Nat)(V U0 j q:Nat)(hj:j<out.length)(h1:us'.take j=us.take j)(h2:wC (us'.drop j)=wC (us.drop j)%V)(hq:q=wC (us.drop j)/V)(h:wC us+V*(4294967296^(j+1)*wC (out.drop (j+1)))=U0):wC us'+V*(4294967296^j*wC ((out.set j q).drop j))=U0:=by
 rw[wJI out j q hj,qR us' j,h1,h2];rw[qR us j]at h;have h3:=cU (wC (us.drop j)) V;rw[←hq]at h3;have e1:4294967296^j*wC (us.drop j)=4294967296^j*(V*q)+4294967296^j*(wC (us.drop j)%V):=by rw[←mE,h3]
 have e2:V*(4294967296^j*(q+4294967296*wC (out.drop (j+1))))=4294967296^j*(V*q)+V*(4294967296^(j+1)*wC (out.drop (j+1))):=by rw[mE,mE,fX V,mS,mJ (4294967296^j)]
 rw[e1]at h;rw[e2];omega
theorem long_end(us out:List Nat)(A B n s:Nat)(hu:∀x,x∈us→x<4294967296)(hV:B*2^s<4294967296^n)(h:wC us+B*2^s*(4294967296^0*wC (out.drop 0))=A*2^s)(hlt:wC us<B*2^s) :
  wC out=A/B∧wC (us.take n)/2^s=A%B:=by
 simp only[Nat.pow_zero,Nat.one_mul,List.drop_zero]at h;have hp:0<2^s:=cX (by decide);have hq:A*2^s/(B*2^s)=wC out:=by rw[←h,pE0 _ _ (by omega),pG6 hlt,dG]
 have hr:A*2^s%(B*2^s)=wC us:=by rw[←h,pB2,mY hlt]
 rw [Nat.mul_div_mul_right _ _ hp]at hq;rw[Nat.mul_mod_mul_right]at hr;have ht:wC (us.take n)=wC us:=by
  have h1:=qR us n;have h0:wC (us.drop n)=0:=by
   rcases mO (wC (us.drop n))with h0|h0
   ·exact h0
   ·have:4294967296^n*1≤4294967296^n*wC (us.drop n):=mK _ h0
    omega
  rw[h0]at h1;omega
 refine⟨hq.symm,?_⟩;rw[ht,←hr,Nat.mul_div_cancel _ hp]
theorem win_end(us:List Nat)(j n A v:Nat)(h:wC ((us.drop j).take n)=A)(h2:wC (us.drop (j+n+1))=0)(hl:j+n<us.length):wC ((us.set (j+n) v).drop j)=A+4294967296^n*v:=by obtain⟨_,e2,e3⟩:=wI1 us j n v hl;rw[qR _ (n+1),cM,show j+(n+1)=j+n+1 by omega,e2,h2,e3,h,dU,cG]
theorem back_step(P R A Vi c u v:Nat)(h:R+P*c=A+Vi):R+P*((u+v+c)%4294967296)+P*4294967296*((u+v+c)/4294967296)=A+P*u+(Vi+P*v):=by
 have h1:=cU (u+v+c) 4294967296;have e:P*(u+v+c)=P*4294967296*((u+v+c)/4294967296)+P*((u+v+c)%4294967296):=by
  conv=>lhs;rw[←h1]
  rw[mE,mJ]
 rw[mE,mE]at e;omega
theorem back_end(P R A V M c:Nat)(h:R+P*c=A+V)(h2:A+V=M+P)(hR:R<P)(hM:M<P):c=1∧R=M:=by
 have hP:0<P:=by omega
 rcases pK c 1 with h0|h0
 ·have:c=0:=by omega
  subst this;omega
 ·rcases pK c 2 with h1|h1
  ·have:c=1:=by omega
   subst this;omega
  ·have:P*2≤P*c:=mK _ h1
   omega
theorem lz_v(x s:Nat)(hx:x<4294967296)(hs:Lib.bitLen x+s=32):wG Tryz.prog 203 [.int .u32 (x:Nat)] (fun y=>y=.int .i64 (s:Nat)):=by
 intro S w us hus;cases hus with
 |cons h1 t=>
  cases t;cases h1;refine(Tryz.bits_LeadingZeros32 x w (by omega) (by omega)).mono ?_;rintro e w' ⟨rfl,rfl⟩
  have:(32:Int)-((Lib.bitLen (x:Int).toNat:Nat):Int)=(s:Nat):=by simp only[Int.toNat_natCast];omega
  rw[this];exact⟨_,_,rfl,rfl,.int _ _,Below.refl _ _⟩
theorem row2(v v2:V):∀e∈[[v],[v2]],e.length=1:=by simp
theorem uL_app(xs ys:List Nat):uL xs++uL ys=uL (xs++ys):=by simp[uL]
set_option maxRecDepth 200000 in
theorem long_vc(xs ys:List Nat)(n m:Nat)(hx:okL xs)(hy:okL ys)(hl:xs.length≤8796093022208)(htx:qF xs=xs)(hty:qF ys=ys)(hn:2≤n)(hyn:ys.length=n)(h0:0<ys.getD (n-1) 0)(hm:xs.length=m+n) :
  wG Tryz.prog 190 [vL xs,vL ys] (fun y=>y=.tup [vN (wC xs/wC ys),vN (wC xs%wC ys)]):=by
 refine wD wE Tryz.func190 rfl rfl rfl rfl fun w0=>?_;have hb32:=bitLen_le32 _ (getD_lt ys hy (n-1));obtain⟨s,hs⟩:∃s,Lib.bitLen (ys.getD (n-1) 0)+s=32:=⟨32-Lib.bitLen (ys.getD (n-1) 0),by omega⟩
 obtain⟨hs32,hvn,hvok,hvnat,htop⟩:=long_start ys n s hn hyn hy h0 hs;obtain⟨hun,huok,hunat⟩:=wTB xs s hs32 hx;have hut:=longU_top xs (qS ys s 0) n s hs32 hx hn (by omega) hvn hvok htop;have hlz:=lz_v (ys.getD (n-1) 0) s (getD_lt ys hy _) hs;have hlb:=left_v ys s hy (by omega) hs32;have hla:=left_v xs s hx hl hs32;rw[hty]at hlb;rw[htx]at hla;have hla2:=wOH xs s 0;have hlU:(uL (qS xs s 0++[0,0])).take (xs.length+1)=uL (wN7 xs s):=wZ0 _ _;have hV1:=kC ys (n-1) (by omega);have hT1:=kC (qS ys s 0) (n-1) (by omega);have hT2:=kC (qS ys s 0) (n-2) (by omega);have happ:=uL_app (qS xs s 0) [0,0];have hvl:=w9 (qS ys s 0);have hul:=w9 (qS xs s 0);have hul2:=w9 (qS xs s 0++[0,0]);have hla3:(qS xs s 0++[0,0]).length=(qS xs s 0).length+2:=by simp
 have hsub:Ev.ewrap .i64 ((xs.length:Int)-(n:Int))=(m:Nat):=by rw[wO5 (by omega) (by omega)];omega
 have hadd:Ev.ewrap .i64 ((xs.length:Int)+1)=((xs.length+1:Nat):Int):=by rw[wO5 (by omega) (by omega)];omega
 have hadm:Ev.ewrap .i64 ((m:Int)+1)=((m+1:Nat):Int):=by rw[wO5 (by omega) (by omega)];omega
 have hVpos:0<wC (qS ys s 0):=by omega
 have hVB:wC (qS ys s 0)<4294967296^n:=by rw[←hvn];exact qP _ hvok
 rw[show xs.length-n+1=m+1 by omega]at hut;have hdig:=fun(us:List Nat)(j t:Nat)(hu:okL us)=>long_digit us (qS ys s 0) j n hn hvn hu hvok htop (t:=t);have htpl:=getD_lt _ hvok (n-1);have hnxl:=getD_lt _ hvok (n-2);have hvg:=fun i (h:i<n)=>kC (qS ys s 0) i (by omega);have hvt:=qB (qS ys s 0);have hvall:wC ((qS ys s 0).take n)=wC (qS ys s 0):=by rw[pR (by omega)]
 generalize hvs:qS ys s 0=vs at *
 generalize hlx:qS xs s 0=lx at *
 generalize hu0:wN7 xs s=u0 at *
 generalize htpe:vs.getD (n-1) 0=tp at *
 generalize hnxe:vs.getD (n-2) 0=nx at *
 generalize ys.getD (n-1) 0=yt at *
 repeat (first|refine wg rfl (sL (hvl.trans hvn)) ?_|refine wg rfl (sL ((w9 ys).trans hyn)) ?_|refine wg rfl (sL (w9 _)) ?_|refine wv ?_|refine wg rfl (kK rfl rfl rfl rfl hsub rfl) ?_|refine wg rfl (kK rfl rfl rfl rfl hadd rfl) ?_|refine wg rfl (kK rfl rfl rfl rfl hadm rfl) ?_|refine wg rfl (wA0 wE rfl rfl rfl (i:=n-1) (by omega) rfl rfl hV1 rfl rfl) ?_|refine wg rfl (wA0 wE rfl rfl rfl (i:=n-1) (by omega) rfl rfl hT1 rfl rfl) ?_|refine wg rfl (wA0 wE rfl rfl rfl (i:=n-2) (by omega) rfl rfl hT2 rfl rfl) ?_|refine wc hlz ?_|refine wc hlb.v ?_|refine wg rfl (wOB (id:=7002) wE rfl rfl rfl rfl rfl rfl hla rfl rfl) ?_|refine wf rfl rfl (qZ (id:=7003) (es2:=[[_],[_]]) (m:=1) (bb:=4) wE rfl rfl rfl rfl rfl rfl rfl rfl rfl rfl rfl (row2 _ _) rfl (by simp only[maxLen];simp;omega) (by simp;omega) rfl rfl happ) ?_|refine wg rfl (wS9 (id':=7004) wE rfl rfl rfl (h:=xs.length+1) rfl rfl rfl (by omega) hlU rfl rfl rfl) ?_|refine wg rfl (x8 (id:=7000) (l:=m+1) (c:=m+1) (m:=1) (bb:=4) wE rfl rfl rfl rfl rfl rfl rfl rfl rfl rfl (pC _) rfl (by omega) (by simp only[maxLen];omega) rfl rfl rfl (wZ2 _)) ?_|refine wg rfl sB ?_|refine wg rfl (qN wE rfl rfl rfl rfl (jU (by omega) (by omega)) rfl) ?_|refine wz ?_)
 refine wP (fun b:Nat×Int×List Nat×List Nat=>[jI 12 s,jV 14 (vL vs),jO 16 0 130 1 (uL b.2.2.1),jI 18 n,jO 22 0 130 1 (uL b.2.2.2),jV 24 (.int .u64 (tp:Nat)),jV 26 (.int .u64 (nx:Nat)),jV 28 (.int .i64 b.2.1)])
  (fun b=>b.1≤m+1∧b.2.1=(b.1:Int)-1∧b.2.2.1.length=m+n+1∧okL b.2.2.1∧b.2.2.2.length=m+1∧okL b.2.2.2∧wC b.2.2.1+wC vs*(4294967296^b.1*wC (b.2.2.2.drop b.1))=wC u0∧wC (b.2.2.1.drop b.1)<wC vs)
  (fun b=>b.1) (m+1,(m:Nat),u0,List.replicate (m+1) 0) (fun _=>rfl) ⟨pC _,by simp only;omega,by simp only;omega,huok,by simp,fun x h=>by rw[(fA.1 h).2];decide,by simp[List.drop_of_length_le,wC],hut⟩ ⟨rfl,rfl,⟨_,rfl⟩,rfl,⟨_,rfl⟩,rfl,rfl,rfl,trivial⟩ fun⟨J,i,us,out⟩ hI=>?_
 obtain⟨h1,h2,h3,h4,h5,h6,h7,h8⟩:=hI;dsimp only at h1 h2 h3 h4 h5 h6 h7 h8 ⊢;have hlu:=w9 us;have hlo:=w9 out;rcases mO J with rfl|hJ
 ·rw[hvnat,hunat]at h7;rw[hvnat]at h8 hVB;obtain⟨g1,g2⟩:=long_end us out (wC xs) (wC ys) n s h4 hVB h7 h8;have hcut:=wZ0 us n;have hrt:=right_v (us.take n) s (fun x h=>h4 x (dP h)) (by simp;omega) hs32;repeat (first|refine wv ?_|refine wg rfl (wS9 (id':=7005) wE rfl rfl rfl (h:=n) rfl rfl rfl (by omega) hcut rfl rfl rfl) ?_|refine wh hrt ?_|refine wh (wPH out h6 (by omega)) ?_|refine wg rfl cF ?_|refine wz ?_)
  refine⟨.inl rfl,_,rfl,?_⟩;rw[g1,g2]
 ·obtain⟨k,rfl⟩:∃k,J=k+1:=⟨J-1,by omega⟩
  obtain rfl:i=(k:Nat):=by omega
  obtain⟨hd1,hd2⟩:=hdig us k _ h4 h8 rfl;have ga:=kC us (k+n) (by omega);have gb:=kC us (k+(n-1)) (by omega);have gc:=kC us (k+(n-2)) (by omega);have la:=getD_lt us h4 (k+n);have lb:=getD_lt us h4 (k+(n-1));have lc:=getD_lt us h4 (k+(n-2));have hor:=wM4 (us.getD (k+n) 0) (us.getD (k+(n-1)) 0) lb;generalize hua:us.getD (k+n) 0=ua at *
  generalize us.getD (k+(n-1)) 0=ub at *
  generalize us.getD (k+(n-2)) 0=uc at *
  have hhi:=hi_zero us (k+1) n _ h8 hVB;obtain⟨t,ht⟩:∃t,ua*4294967296+ub=t:=⟨_,rfl⟩
  rw[ht]at hd1 hd2 hor;have htle:=hd1.tle;have hst:=hd1.start;obtain⟨q0,hq0⟩:∃q,t/tp=q:=⟨_,rfl⟩
  obtain⟨r0,hr0⟩:∃r,t%tp=r:=⟨_,rfl⟩
  rw[hq0,hr0]at hst;obtain⟨W,hW⟩:∃W,wC (us.drop k)=W:=⟨_,rfl⟩
  rw[hW]at hd1 hd2 hst;repeat (first|refine wv ?_|refine wg rfl (zB wE rfl rfl rfl (i:=k+n) (by omega) rfl rfl (by omega) rfl rfl rfl) ?_|refine wg rfl (zB wE rfl rfl rfl (i:=k+(n-1)) (by omega) rfl rfl (by omega) rfl rfl rfl) ?_|refine wg rfl (zR wE rfl rfl rfl ga rfl rfl rfl) ?_|refine wg rfl (zR wE rfl rfl rfl gb rfl rfl rfl) ?_|refine wg rfl (xP (s:=32) rfl rfl rfl rfl (by decide) (by rw[ew64,mY (by omega)]) rfl) ?_|refine wg rfl (wM6  rfl rfl rfl hor (by omega) (by omega) rfl) ?_|refine wg rfl (wD8 rfl rfl rfl (by omega) (nQuo64 hq0 (by omega)) rfl) ?_|refine wg rfl (kD rfl rfl rfl (by omega) (nRem hr0) rfl) ?_|refine wg rfl cT ?_|refine wg rfl sB ?_|refine wg rfl (qN wE rfl rfl rfl rfl (jU (by omega) (by omega)) rfl) ?_|refine wz ?_)
  refine wQB 2 (fun q:Nat=>[jI 12 s,jV 14 (vL vs),jO 16 0 130 1 (uL us),jI 18 n,jO 22 0 130 1 (uL out),jV 24 (.int .u64 (tp:Nat)),jV 26 (.int .u64 (nx:Nat)),jI 28 k,jV 32 (.int .u64 (q:Nat))]) (fun q=>q<4294967296∧W/wC vs≤q∧q≤W/wC vs+1) (fun _=>rfl) ?_ ?_
  ·refine wP (fun b:Nat×Nat=>[jI 12 s,jV 14 (vL vs),jO 16 0 130 1 (uL us),jI 18 n,jO 22 0 130 1 (uL out),jV 24 (.int .u64 (tp:Nat)),jV 26 (.int .u64 (nx:Nat)),jI 28 k,jV 32 (.int .u64 (b.1:Nat)),jV 34 (.int .u64 (b.2:Nat))]) (fun b=>Guess tp nx uc t (W/wC vs) b.1 b.2) (fun b=>b.1) (q0,r0) (fun _=>rfl) hst ⟨rfl,rfl,⟨_,rfl⟩,rfl,⟨_,rfl⟩,rfl,rfl,rfl,rfl,rfl,trivial⟩ fun⟨q,r⟩ hg=>?_;dsimp only at hg ⊢;have hqle:=hg.le;have hrB:=hg.rB;by_cases hq:4294967296≤q
   ·have hdn:=hg.down hd1 (.inl hq);by_cases hr:4294967296≤r+tp
    ·repeat (first|refine wv ?_|refine wg rfl (wD9 rfl rfl (by omega) (by omega) rfl) ?_|refine wg rfl (x9 (r:=r+tp) rfl rfl rfl rfl (by omega) rfl) ?_|refine wg rfl cT ?_|refine vD rfl rfl rfl rfl rfl rfl ?_|refine wz ?_)
     have h9:=hdn.2.2.2.2 hr;exact⟨q-1,⟨h9.1,hdn.1,hd2 _ h9.1 h9.2⟩,rfl,rfl,⟨_,rfl⟩,rfl,⟨_,rfl⟩,rfl,rfl,rfl,rfl,trivial⟩
    ·repeat (first|refine wv ?_|refine wg rfl (wD9 rfl rfl (by omega) (by omega) rfl) ?_|refine wg rfl (x9 (r:=r+tp) rfl rfl rfl rfl (by omega) rfl) ?_|refine wg rfl cT ?_|refine wg rfl cF ?_|refine vD rfl rfl rfl rfl rfl rfl ?_|refine wz ?_)
     exact⟨(q-1,r+tp),hdn.2.2.2.1 (by omega),by dsimp only;omega,rfl,rfl,⟨_,rfl⟩,rfl,⟨_,rfl⟩,rfl,rfl,rfl,rfl,rfl,trivial⟩
   ·have hmul:q*nx≤4294967295*4294967295:=dR (by omega) (by omega);have hor2:=wM4 r uc lc;have hr32:r*2^32<18446744073709551616:=by omega
    have huc64:uc<18446744073709551616:=by omega
    have hsh:Ev.ewrap .u64 ((r*2^32:Nat):Int)=((r*2^32:Nat):Int):=by rw[ew64,mY hr32]
    have hend:=hg.end;have hdw:=hg.down hd1;obtain⟨pm,hpm⟩:∃p,q*nx=p:=⟨_,rfl⟩
    rw[hpm]at hmul hend hdw;by_cases hc:r*4294967296+uc<pm
    ·have hdn:=hdw (.inr hc);by_cases hr:4294967296≤r+tp
     ·repeat (first|refine wv ?_|refine wg rfl (zB wE rfl rfl rfl (i:=k+(n-2)) (by omega) rfl rfl (by omega) rfl rfl rfl) ?_|refine wg rfl (zR wE rfl rfl rfl gc rfl rfl rfl) ?_|refine wg rfl (wIB  rfl rfl rfl hpm (by omega) rfl) ?_|refine wg rfl (xP (s:=32) rfl rfl rfl rfl (by decide) hsh rfl) ?_|refine wg rfl (wM6 rfl rfl rfl hor2 hr32 huc64 rfl) ?_|refine wg rfl (wD9 rfl rfl (by omega) (by omega) rfl) ?_|refine wg rfl (x9 (r:=r+tp) rfl rfl rfl rfl (by omega) rfl) ?_|refine wg rfl cT ?_|refine wg rfl cF ?_|refine wg rfl sB ?_|refine wg rfl (qN wE rfl rfl rfl rfl (jU (by omega) (by omega)) rfl) ?_|refine wz ?_)
      have h9:=hdn.2.2.2.2 hr;exact⟨q-1,⟨h9.1,hdn.1,hd2 _ h9.1 h9.2⟩,rfl,rfl,⟨_,rfl⟩,rfl,⟨_,rfl⟩,rfl,rfl,rfl,rfl,trivial⟩
     ·repeat (first|refine wv ?_|refine wg rfl (zB wE rfl rfl rfl (i:=k+(n-2)) (by omega) rfl rfl (by omega) rfl rfl rfl) ?_|refine wg rfl (zR wE rfl rfl rfl gc rfl rfl rfl) ?_|refine wg rfl (wIB  rfl rfl rfl hpm (by omega) rfl) ?_|refine wg rfl (xP (s:=32) rfl rfl rfl rfl (by decide) hsh rfl) ?_|refine wg rfl (wM6 rfl rfl rfl hor2 hr32 huc64 rfl) ?_|refine wg rfl (wD9 rfl rfl (by omega) (by omega) rfl) ?_|refine wg rfl (x9 (r:=r+tp) rfl rfl rfl rfl (by omega) rfl) ?_|refine wg rfl cT ?_|refine wg rfl cF ?_|refine wg rfl sB ?_|refine wg rfl (qN wE rfl rfl rfl rfl (jU (by omega) (by omega)) rfl) ?_|refine wz ?_)
      exact⟨(q-1,r+tp),hdn.2.2.2.1 (by omega),by dsimp only;omega,rfl,rfl,⟨_,rfl⟩,rfl,⟨_,rfl⟩,rfl,rfl,rfl,rfl,rfl,trivial⟩
    ·have h9:=hend (by omega);repeat (first|refine wv ?_|refine wg rfl (zB wE rfl rfl rfl (i:=k+(n-2)) (by omega) rfl rfl (by omega) rfl rfl rfl) ?_|refine wg rfl (zR wE rfl rfl rfl gc rfl rfl rfl) ?_|refine wg rfl (wIB  rfl rfl rfl hpm (by omega) rfl) ?_|refine wg rfl (xP (s:=32) rfl rfl rfl rfl (by decide) hsh rfl) ?_|refine wg rfl (wM6 rfl rfl rfl hor2 hr32 huc64 rfl) ?_|refine wg rfl cF ?_|refine wg rfl sB ?_|refine wg rfl (qN wE rfl rfl rfl rfl (jU (by omega) (by omega)) rfl) ?_|refine wz ?_)
     exact⟨q,⟨h9.1,hg.ge,hd2 _ h9.1 h9.2⟩,rfl,rfl,⟨_,rfl⟩,rfl,⟨_,rfl⟩,rfl,rfl,rfl,rfl,trivial⟩
  ·intro q hq;obtain⟨hq1,hq2,hq3⟩:=hq;have hgk:=kC out k (by omega);have hset0:=wK6 out k;repeat (first|refine wv ?_|refine wz ?_)
   refine wP (fun b:Nat×List Nat×Nat×Nat=>[jI 12 s,jV 14 (vL vs),jO 16 0 130 1 (uL b.2.1),jI 18 n,jO 22 0 130 1 (uL out),jV 24 (.int .u64 (tp:Nat)),jV 26 (.int .u64 (nx:Nat)),jI 28 k,jV 32 (.int .u64 (q:Nat)),jV 36 (.int .u64 (b.2.2.1:Nat)),jV 38 (.int .u64 (b.2.2.2:Nat)),jI 248 n,jI 250 (b.1)])
    (fun b=>b.1≤n∧b.2.1.length=m+n+1∧okL b.2.1∧b.2.1.take k=us.take k∧b.2.1.drop (k+b.1)=us.drop (k+b.1)∧b.2.2.1≤1∧b.2.2.2<4294967296∧wC ((b.2.1.drop k).take b.1)+q*wC (vs.take b.1)=wC ((us.drop k).take b.1)+4294967296^b.1*(b.2.2.2+b.2.2.1))
    (fun b=>n-b.1) (0,us,0,0) (fun _=>rfl) ⟨pN _,h3,h4,rfl,rfl,by dsimp only;decide,by dsimp only;decide,by simp[wC]⟩ ⟨rfl,rfl,⟨_,rfl⟩,rfl,⟨_,rfl⟩,rfl,rfl,rfl,rfl,rfl,rfl,rfl,rfl,trivial⟩ fun⟨i,ws,bo,ca⟩ hI=>?_
   obtain⟨i1,i2,i3,i4,i5,i6,i7,i8⟩:=hI;dsimp only at i1 i2 i3 i4 i5 i6 i7 i8 ⊢;have hwl:=w9 ws;rcases pK i n with hi|hi
   ·have gv:=hvg i hi;have gw:=kC ws (k+i) (by omega);have lv:=getD_lt vs hvok i;have lw:=getD_lt ws i3 (k+i);have hset:=wK6 ws (k+i);have huw:us.getD (k+i) 0=ws.getD (k+i) 0:=by
     have:=congrArg (fun l=>l.getD 0 0) i5;simpa[getD_drop]using this.symm
    have hwin:=fun d=>wI1 ws k i d (by omega);have hut2:=qB (us.drop k) i;rw[getD_drop,huw]at hut2;have hvt2:=hvt i;have hi5:us.drop (k+i+1)=ws.drop (k+i+1):=by have:=congrArg (fun l=>l.drop 1) i5;simpa[List.drop_drop]using this.symm
    generalize ws.getD (k+i) 0=u at *
    generalize vs.getD i 0=v at *
    have htk:=take_limb u q v ca bo lw hq1 lv i7 i6;have hqv:q*v≤4294967295*4294967295:=dR (by omega) (by omega);obtain⟨qv,hqve⟩:∃x,q*v=x:=⟨_,rfl⟩
    have hts:=take_sum (4294967296^i) _ _ _ q u v ca bo _ _ _ _ i8 (cU (q*v+ca) 4294967296).symm htk.2.2.2;rw[hqve]at htk hts hqv;obtain⟨p,hp⟩:∃p,qv+ca=p:=⟨_,rfl⟩
    rw[hp]at htk hts;have hpl:p/2^32=p/4294967296:=rfl;have hd0:((u+18446744073709551616-p%4294967296)%18446744073709551616+18446744073709551616-bo)%18446744073709551616=(u+18446744073709551616-p%4294967296-bo)%18446744073709551616:=by omega
    obtain⟨d1,hd1e⟩:∃x,(u+18446744073709551616-p%4294967296)%18446744073709551616=x:=⟨_,rfl⟩
    rw[hd1e]at hd0;obtain⟨d,hde⟩:∃x,(u+18446744073709551616-p%4294967296-bo)%18446744073709551616=x:=⟨_,rfl⟩
    rw[hde]at hd0 htk hts;have hdl:d<18446744073709551616:=by omega
    have hd63:d/2^63=d/9223372036854775808:=rfl;repeat (first|refine wv ?_|refine wg rfl (sX i gv) ?_|refine wg rfl (zB wE rfl rfl rfl (i:=k+i) (by omega) rfl rfl (by omega) rfl rfl rfl) ?_|refine wg rfl (zR wE rfl rfl rfl gw rfl rfl rfl) ?_|refine wg rfl (wIB  rfl rfl rfl hqve (by omega) rfl) ?_|refine wg rfl (x9  rfl rfl rfl hp (by omega) rfl) ?_|refine wg rfl (yS (s:=32) rfl rfl rfl rfl (by decide) hpl rfl) ?_|refine wg rfl (kK rfl rfl rfl rfl (nAnd32 (r:=p%4294967296) rfl (by omega)) rfl) ?_|refine wg rfl (wA8  rfl rfl rfl hd1e (by omega) rfl) ?_|refine wg rfl (wA8  rfl rfl rfl hd0 (by omega) rfl) ?_|refine wg rfl (qN wE rfl rfl rfl rfl (ew32 d) rfl) ?_|refine wg rfl (zH wE rfl rfl rfl gw rfl rfl rfl rfl (by decide) rfl (hset _)) ?_|refine wg rfl (yS (s:=63) rfl rfl rfl rfl (by decide) hd63 rfl) ?_|refine wg rfl cT ?_|refine wg rfl sB ?_|refine wg rfl (qN wE rfl rfl rfl rfl (jU (by omega) (by omega)) rfl) ?_|refine wz ?_)
    obtain⟨w1,w2,w3⟩:=hwin (d%4294967296);refine⟨(i+1,ws.set (k+i) (d%4294967296),d/9223372036854775808,p/4294967296),⟨hi,by simp[i2],jX ws _ _ i3 (by omega),by rw[w1,i4],?_,htk.2.2.1,htk.2.1,?_⟩,by dsimp only;omega,rfl,rfl,⟨_,rfl⟩,rfl,⟨_,rfl⟩,rfl,rfl,rfl,rfl,rfl,rfl,rfl,rfl,trivial⟩
    ·dsimp only;rw[←cA,w2,hi5]
    ·dsimp only;rw[w3,hut2,hvt2,mS];exact hts
   ·obtain rfl:i=n:=by omega
    rw[hvall]at i8;have gw:=kC ws (k+i) (by omega);have hset:=wK6 ws (k+i);have hwk:us.getD (k+i) 0=ws.getD (k+i) 0:=by have:=congrArg (fun l=>l.getD 0 0) i5;simpa[getD_drop]using this.symm
    rw[hua]at hwk;rw[←hwk]at gw;have hi5:ws.drop (k+i+1)=us.drop (k+i+1):=by have:=congrArg (fun l=>l.drop 1) i5;simpa[List.drop_drop]using this
    have hz:wC (ws.drop (k+i+1))=0:=by rw[hi5,show k+i+1=k+1+i by omega];exact hhi
    have hWs:W=wC ((us.drop k).take i)+4294967296^i*ua:=by rw[←hW,qR (us.drop k) i,cM,wZ us (k+i),hua,show k+i+1=k+1+i by omega,hhi];simp
    have hAlt:=kB (ws.drop k) i fun x h=>i3 x (dF h);have hWm:=dI W hVpos;have hround:=fun ws' hA hB=>long_round us ws' out (wC vs) (wC u0) k (W/wC vs) (by omega) hA hB (by rw[hW]) h7;rw[hW]at hround;generalize hPn:4294967296^i=Pn at *
    by_cases hc:ca+bo≤ua
    ·obtain⟨f1,f2,f3⟩:=take_fits Pn _ _ _ W q ua ca bo hVpos (by omega) i8 hWs hq2 hc;have s1:(ua+18446744073709551616-ca)%18446744073709551616=ua-ca:=by omega
     have s2:(ua-ca+18446744073709551616-bo)%18446744073709551616=0:=by omega
     have s3:0/2^63=0:=by decide
     repeat (first|refine wv ?_|refine wg rfl (zB wE rfl rfl rfl (i:=k+i) (by omega) rfl rfl (by omega) rfl rfl rfl) ?_|refine wg rfl (zB wE rfl rfl rfl (i:=k) (by omega) rfl rfl (by omega) rfl rfl rfl) ?_|refine wg rfl (zR wE rfl rfl rfl gw rfl rfl rfl) ?_|refine wg rfl (wA8  rfl rfl rfl s1 (by omega) rfl) ?_|refine wg rfl (wA8  rfl rfl rfl s2 (by omega) rfl) ?_|refine wg rfl (qN wE rfl rfl rfl rfl (ew32 0) rfl) ?_|refine wg rfl (zH wE rfl rfl rfl gw rfl rfl rfl rfl (by decide) rfl (hset _)) ?_|refine wg rfl (zH wE rfl rfl rfl hgk rfl rfl rfl rfl (by decide) rfl (hset0 _)) ?_|refine wg rfl (yS (s:=63) rfl rfl rfl rfl (by decide) s3 rfl) ?_|refine wg rfl cF ?_|refine wg rfl sB ?_|refine wg rfl (qN wE rfl rfl rfl rfl (jU (by omega) (by omega)) rfl) ?_|refine wg rfl (qN wE rfl rfl rfl rfl (wGA (by omega) (by omega)) rfl) ?_|refine wz ?_)
     have hws':=(wI1 ws k i 0 (by omega)).1.trans i4;have hwe:=win_end ws k i _ 0 rfl hz (by omega);rw[dU,cG,f2]at hwe;have hr2:=hround _ hws' hwe;rw[←f1]at hr2;exact⟨(k,_,ws.set (k+i) 0,out.set k q),⟨by dsimp only;omega,rfl,by simp[i2],jX ws _ _ i3 (by decide),by simp[h5],jX out _ _ h6 hq1,hr2,by dsimp only;rw[hwe];exact hWm⟩,by dsimp only;omega,rfl,rfl,⟨_,rfl⟩,rfl,⟨_,rfl⟩,rfl,rfl,rfl,trivial⟩
    ·obtain⟨f1,f2,f3⟩:=take_lent Pn _ _ _ W q ua ca bo hVpos (by omega) hAlt i8 hWs hq3 (by omega);obtain⟨x1,s1⟩:∃x,(ua+18446744073709551616-ca)%18446744073709551616=x:=⟨_,rfl⟩
     have s2:(x1+18446744073709551616-bo)%18446744073709551616=18446744073709551615:=by omega
     have s3:18446744073709551615/2^63=1:=by decide
     have s4:Ev.ewrap .u32 ((18446744073709551615:Nat):Int)=((4294967295:Nat):Int):=by rw[ew32]
     have hset9:=hset 4294967295;obtain⟨z1,z2,_⟩:=wI1 ws k i 4294967295 (by omega);have z3:(ws.set (k+i) 4294967295).length=m+i+1:=by simp[i2]
     have z4:okL (ws.set (k+i) 4294967295):=jX ws _ _ i3 (by decide);have z5:(ws.set (k+i) 4294967295).getD (k+i) 0=4294967295:=by simp[List.getD,show k+i<ws.length by omega]
     have z6:∀e,e<i→(ws.set (k+i) 4294967295).getD (k+e) 0=ws.getD (k+e) 0:=fun e he=>by simp only[List.getD];rw[dQ (by omega)]
     rw[←z2]at hz;rw[i4]at z1;have hqs:1≤q:=by rw[f1];exact pH6 _ _
     have s5:Ev.ewrap .u32 (((4294967295:Nat):Int)+((1:Nat):Int))=((0:Nat):Int):=by rw[wK2];rfl
     generalize hzs:ws.set (k+i) 4294967295=zs at *
     repeat (first|refine wv ?_|refine wg rfl (wD9 rfl rfl hqs (by omega) rfl) ?_|refine wg rfl (zB wE rfl rfl rfl (i:=k+i) (by omega) rfl rfl (by omega) rfl rfl rfl) ?_|refine wg rfl (zR wE rfl rfl rfl gw rfl rfl rfl) ?_|refine wg rfl (wA8  rfl rfl rfl s1 (by omega) rfl) ?_|refine wg rfl (wA8  rfl rfl rfl s2 (by omega) rfl) ?_|refine wg rfl (qN wE rfl rfl rfl rfl s4 rfl) ?_|refine wg rfl (zH wE rfl rfl rfl gw rfl rfl rfl rfl (by decide) rfl hset9) ?_|refine wg rfl (yS (s:=63) rfl rfl rfl rfl (by decide) s3 rfl) ?_|refine wg rfl cT ?_|refine wg rfl cF ?_|refine wg rfl sB ?_|refine wg rfl (qN wE rfl rfl rfl rfl (jU (by omega) (by omega)) rfl) ?_|refine wz ?_)
     refine wP (fun b:Nat×List Nat×Nat=>[jI 12 s,jV 14 (vL vs),jO 16 0 130 1 (uL b.2.1),jI 18 i,jO 22 0 130 1 (uL out),jV 24 (.int .u64 (tp:Nat)),jV 26 (.int .u64 (nx:Nat)),jI 28 k,jV 32 (.int .u64 (q-1:Nat)),jV 48 (.int .u64 (b.2.2:Nat)),jI 368 i,jI 370 (b.1)])
      (fun b=>b.1≤i∧b.2.1.length=m+i+1∧okL b.2.1∧b.2.1.take k=us.take k∧b.2.1.drop (k+b.1)=zs.drop (k+b.1)∧b.2.2≤1∧wC ((b.2.1.drop k).take b.1)+4294967296^b.1*b.2.2=wC ((ws.drop k).take b.1)+wC (vs.take b.1))
      (fun b=>i-b.1) (0,zs,0) (fun _=>rfl) ⟨pN _,z3,z4,z1,rfl,by dsimp only;decide,by simp[wC]⟩ ⟨rfl,rfl,⟨_,rfl⟩,rfl,⟨_,rfl⟩,rfl,rfl,rfl,rfl,rfl,rfl,rfl,trivial⟩ fun⟨e,rs,c⟩ hI=>?_
     obtain⟨e1,e2,e3,e4,e5,e6,e7⟩:=hI;dsimp only at e1 e2 e3 e4 e5 e6 e7 ⊢;have hrl:=w9 rs;rcases pK e i with he|he
     ·have gv:=hvg e he;have gr:=kC rs (k+e) (by omega);have lv:=getD_lt vs hvok e;have lr:=getD_lt rs e3 (k+e);have hsetr:=wK6 rs (k+e);have hur:ws.getD (k+e) 0=rs.getD (k+e) 0:=by
       rw[←z6 e he];have:=congrArg (fun l=>l.getD 0 0) e5;simpa[getD_drop]using this.symm
      have hut3:=qB (ws.drop k) e;rw[getD_drop,hur]at hut3;have hvt3:=hvt e;have he5:zs.drop (k+e+1)=rs.drop (k+e+1):=by have:=congrArg (fun l=>l.drop 1) e5;simpa[List.drop_drop]using this.symm
      generalize rs.getD (k+e) 0=u at *
      generalize vs.getD e 0=v at *
      have hbs:=back_step (4294967296^e) _ _ _ c u v e7;obtain⟨sm,hsm⟩:∃x,u+v+c=x:=⟨_,rfl⟩
      rw[hsm]at hbs;have hs32:sm/2^32=sm/4294967296:=rfl;obtain⟨w1,w2,w3⟩:=wI1 rs k e (sm%4294967296) (by omega);repeat (first|refine wv ?_|refine wg rfl (sX e gv) ?_|refine wg rfl (zB wE rfl rfl rfl (i:=k+e) (by omega) rfl rfl (by omega) rfl rfl rfl) ?_|refine wg rfl (zR wE rfl rfl rfl gr rfl rfl rfl) ?_|refine wg rfl (x9  rfl rfl rfl hsm (by omega) rfl) ?_|refine wg rfl (x9 (a:=u) (b:=v) (r:=u+v) rfl rfl rfl rfl (by omega) rfl) ?_|refine wg rfl (qN wE rfl rfl rfl rfl (ew32 sm) rfl) ?_|refine wg rfl (zH wE rfl rfl rfl gr rfl rfl rfl rfl (by decide) rfl (hsetr _)) ?_|refine wg rfl (yS (s:=32) rfl rfl rfl rfl (by decide) hs32 rfl) ?_|refine wg rfl cT ?_|refine wg rfl sB ?_|refine wg rfl (qN wE rfl rfl rfl rfl (jU (by omega) (by omega)) rfl) ?_|refine wz ?_)
      refine⟨(e+1,rs.set (k+e) (sm%4294967296),sm/4294967296),⟨he,by simp[e2],jX rs _ _ e3 (by omega),by rw[w1,e4],?_,by dsimp only;omega,?_⟩,by dsimp only;omega,rfl,rfl,⟨_,rfl⟩,rfl,⟨_,rfl⟩,rfl,rfl,rfl,rfl,rfl,rfl,rfl,trivial⟩
      ·dsimp only;rw[←cA,w2,he5]
      ·dsimp only;rw[w3,hut3,hvt3,mS];exact hbs
     ·obtain rfl:e=i:=by omega
      rw[hvall,hPn]at e7;have hRlt:=kB (rs.drop k) e fun x h=>e3 x (dF h);rw[hPn]at hRlt;obtain⟨rfl,hR⟩:=back_end Pn _ _ _ _ c e7 f3 hRlt (by omega);have gr:=kC rs (k+e) (by omega);have hur:rs.getD (k+e) 0=4294967295:=by rw[←z5];have:=congrArg (fun l=>l.getD 0 0) e5;simpa[getD_drop]using this
      rw[hur]at gr;have hz9:wC (rs.drop (k+e+1))=0:=by rw[←hz];have:=congrArg (fun l=>l.drop 1) e5;simp only[List.drop_drop]at this;rw[this]
      have hset8:=wK6 rs (k+e) 0;have hws':=(wI1 rs k e 0 (by omega)).1.trans e4;have hwe:=win_end rs k e _ 0 hR hz9 (by omega);rw[dU,cG]at hwe;have hr2:=hround _ hws' hwe;rw[show W/wC vs=q-1 by omega]at hr2;repeat (first|refine wv ?_|refine wg rfl (zB wE rfl rfl rfl (i:=k+e) (by omega) rfl rfl (by omega) rfl rfl rfl) ?_|refine wg rfl (zB wE rfl rfl rfl (i:=k) (by omega) rfl rfl (by omega) rfl rfl rfl) ?_|refine wg rfl (zR wE rfl rfl rfl gr rfl rfl rfl) ?_|refine wg rfl (kK rfl rfl rfl rfl s5 rfl) ?_|refine wg rfl (zH wE rfl rfl rfl gr rfl rfl rfl rfl (by decide) rfl hset8) ?_|refine wg rfl (zH wE rfl rfl rfl hgk rfl rfl rfl rfl (by decide) rfl (hset0 _)) ?_|refine wg rfl cF ?_|refine wg rfl sB ?_|refine wg rfl (qN wE rfl rfl rfl rfl (wGA (by omega) (by omega)) rfl) ?_|refine wz ?_)
      exact⟨(k,_,rs.set (k+e) 0,out.set k (q-1)),⟨by dsimp only;omega,rfl,by simp[e2],jX rs _ _ e3 (by decide),by simp[h5],jX out _ _ h6 (by omega),hr2,by dsimp only;rw[hwe];exact hWm⟩,by dsimp only;omega,rfl,rfl,⟨_,rfl⟩,rfl,⟨_,rfl⟩,rfl,rfl,rfl,trivial⟩
end Go.Proofs.YtdcjmnfngabhoaaGreat
