/- simileref12.Inverse: told of trees. ALLOC -/
import Derived.Test.YtdcjmnfngabhoaaGreatCc21
set_option linter.all false
set_option maxRecDepth 20000
set_option maxHeartbeats 6400000
namespace Go.Proofs.YtdcjmnfngabhoaaGreat
open Go.RowKit Go.Ev Go.Vl
def dl(i k:Nat):Rat:=if k=i then 1 else 0
def idP(n:Nat)(p:List Nat):Bool:=decide (p=List.range n)
theorem augQ_at{Q:List (List Rat)}{i:Nat}{r:List Rat}(h:Q[i]? = some r):(Dt.augQ Q)[i]? = some (r++(List.range Q.length).map (dl i)):=by unfold Dt.augQ;rw[fE,h];rfl
theorem qDC(a b:List Rat):zD (a++b)=zD a++zD b:=by unfold zD;rw[fD]
theorem wSE(R:List (List Rat))(r:List Rat):kN R++[[V.list (zD r)]]=kN (R++[r]):=by unfold kN;rw[fD];rfl
theorem row4r(x:Rat):∀e∈[qU (qn x)],e.length=4:=fun e h=>by rw[pP.1 h];rfl
theorem inv12_v(Q:List (List Rat))(n:Nat)(hQ:Q.length=n)(hw:Dt.wide n Q)(hn0:n≠0)(hn:n≤1024)(hb:∀c,c≤n+n→∀r∈(Dt.downR (Dt.startR Q) c).rows,∀x∈r,okF x)(hf:(Dt.downR (Dt.startR Q) (n+n)).piv.length=n) :
  wG Tryz.prog 19 [.list (kN Q)] (fun y=>y=.tup [if idP n (Dt.downR (Dt.startR Q) (n+n)).piv=true then .list (kN ((Dt.downR (Dt.startR Q) (n+n)).rows.map (·.drop n)))else .list [],.bool (idP n (Dt.downR (Dt.startR Q) (n+n)).piv)]):=by
 refine wD wE Tryz.func19 rfl rfl rfl rfl fun w0=>?_;have hlen:=(yB Q).trans hQ;have hAl:(Dt.augQ Q).length=n:=(Dt.augQ_len Q).trans hQ;have q1:=reduce_v (Dt.augQ Q) n (n+n) hAl (Dt.augQ_wide hQ hw) hn0 (by omega) (by omega) hb;rw[show(⟨Dt.augQ Q,[]⟩:Dt.RS)=Dt.startR Q from rfl,hf]at q1;have hRl:(Dt.downR (Dt.startR Q) (n+n)).rows.length=n:=(wE5 (Dt.augQ Q) (n+n)).trans hAl;have hRw:Dt.wide (n+n) (Dt.downR (Dt.startR Q) (n+n)).rows:=wL6 (Dt.augQ_wide hQ hw) (n+n);rw[pR (by rw[yB];omega)]at q1;have hok0:=fun r hr=>hb 0 (pN _) r hr;clear hb;generalize Dt.downR (Dt.startR Q) (n+n)=s at *
 have z1:=rof5_v 0 (by decide);have z2:=rof5_v 1 (by decide);rw[show((0:Nat):Rat)=0 from rfl]at z1;rw[show((1:Nat):Rat)=1 from rfl]at z2;unfold nR at z1 z2;repeat (first|refine wI2 3 _ (fun c h=>jL (d:=5) (id:=1) (k:=1) (T:=76) rfl rfl rfl rfl h) ?_|refine wg rfl (sL hlen) ?_|refine wv ?_|refine wz ?_)
 refine wP (fun i:Nat=>[(8,some (.sv (.v (.int .i64 (n:Nat))))),(10,some (.sv (.own 1 76 1 (kN ((Dt.augQ Q).take i))))),(34,some (.sv (.v (.list (kN Q))))),(36,some (.sv (.v (.int .i64 (n:Nat))))),(38,some (.sv (.v (.int .i64 (i:Nat)))))])
  (fun i=>i≤n) (fun i=>n-i) 0 (fun _=>rfl) (pN _) ⟨rfl,⟨_,rfl⟩,rfl,rfl,rfl,trivial⟩ fun i hI=>?_
 rcases pK i n with hi|hi
 ·obtain⟨r,hr⟩:∃r,Q[i]? = some r:=⟨_,pG (by omega)⟩
  have hg:=wSF hr;have hrl:r.length=n:=hw r (pF hr);have hAi:=augQ_at hr;rw[hQ]at hAi;have q2:=qDH r (fun x hx=>by have:=hok0 _ (pF hAi) x (cB _ hx);exact⟨pD this.1 (by decide),pD this.2 (by decide)⟩) (by omega)
  repeat (first|refine wg rfl (sX i hg) ?_|refine wg rfl (wOB (id:=7001) wE rfl rfl rfl rfl rfl rfl q2 rfl rfl) ?_|refine wv ?_|refine wg rfl cT ?_|refine wz ?_)
  refine wP (fun k:Nat=>[(8,some (.sv (.v (.int .i64 (n:Nat))))),(10,some (.sv (.own 1 76 1 (kN ((Dt.augQ Q).take i))))),(34,some (.sv (.v (.list (kN Q))))),(36,some (.sv (.v (.int .i64 (n:Nat))))),(38,some (.sv (.v (.int .i64 (i:Nat))))),(12,some (.sv (.v (.int .i64 (i:Nat))))),(16,some (.sv (.own 2 79 4 (zD (r++(List.range k).map (dl i)))))),(52,some (.sv (.v (.int .i64 (n:Nat))))),(54,some (.sv (.v (.int .i64 (k:Nat)))))])
   (fun k=>k≤n) (fun k=>n-k) 0 (fun _=>rfl) (pN _) ⟨rfl,⟨_,rfl⟩,rfl,rfl,rfl,rfl,by rw[show r++(List.range 0).map (dl i)=r by simp];exact⟨_,rfl⟩,rfl,rfl,trivial⟩ fun k hk=>?_
  rcases pK k n with hkn|hkn
  ·have hl1:(zD (r++(List.range k).map (dl i))).length=n+k:=by rw[jJ,mC,pH,cZ,hrl]
   have hs:zD (r++(List.range k).map (dl i))++[qU (qn (dl i k))]=zD (r++(List.range (k+1)).map (dl i)):=by rw[pB1,fD,←bG,qDC _ (List.map _ [k])];rfl
   have hr4:=row4r (dl i k);by_cases hki:k=i
   ·rw[show dl i k=1 from if_pos hki]at hs hr4;generalize zD (r++(List.range k).map (dl i))=es at *
    generalize qn 0=qa at *
    generalize qn 1=qb at *
    obtain⟨⟨a1,a2⟩,⟨a3,a4⟩⟩:=qa;obtain⟨⟨b1,b2⟩,⟨b3,b4⟩⟩:=qb;repeat (first|refine wc z1 ?_|refine wc z2 ?_|refine wf rfl rfl (qZ (id:=7002) (es:=es) (es2:=[qU ((b1,b2),(b3,b4))]) (m:=4) (bb:=64) wE rfl rfl rfl rfl rfl rfl rfl rfl rfl rfl rfl hr4 rfl (by simp only[maxLen,List.length_singleton];omega) (by simp only[List.length_singleton];omega) rfl rfl hs) ?_|refine wl ?_|refine wv ?_|refine wg rfl cT ?_|refine wg rfl sB ?_|refine wz ?_)
    exact⟨k+1,hkn,by omega,rfl,⟨_,rfl⟩,rfl,rfl,rfl,rfl,⟨_,rfl⟩,rfl,rfl,trivial⟩
   ·rw[show dl i k=0 from if_neg hki]at hs hr4;generalize zD (r++(List.range k).map (dl i))=es at *
    generalize qn 0=qa at *
    obtain⟨⟨a1,a2⟩,⟨a3,a4⟩⟩:=qa;repeat (first|refine wc z1 ?_|refine wf rfl rfl (qZ (id:=7002) (es:=es) (es2:=[qU ((a1,a2),(a3,a4))]) (m:=4) (bb:=64) wE rfl rfl rfl rfl rfl rfl rfl rfl rfl rfl rfl hr4 rfl (by simp only[maxLen,List.length_singleton];omega) (by simp only[List.length_singleton];omega) rfl rfl hs) ?_|refine wl ?_|refine wv ?_|refine wg rfl cT ?_|refine wg rfl cF ?_|refine wg rfl sB ?_|refine wz ?_)
    exact⟨k+1,hkn,by omega,rfl,⟨_,rfl⟩,rfl,rfl,rfl,rfl,⟨_,rfl⟩,rfl,rfl,trivial⟩
  ·obtain rfl:k=n:=by omega
   have hl1:(kN ((Dt.augQ Q).take i)).length=i:=by rw[yB,pV];omega
   have hs:kN ((Dt.augQ Q).take i)++[[V.list (zD (r++(List.range k).map (dl i)))]]=kN ((Dt.augQ Q).take (i+1)):=by rw[wSE,cI,hAi];rfl
   have hr1:∀e∈[[V.list (zD (r++(List.range k).map (dl i)))]],e.length=1:=fun e h=>by rw[pP.1 h];rfl
   repeat (first|refine wf rfl rfl (sA 7003 [[V.list (zD (r++(List.range k).map (dl i)))]] 1 24 hr1 hs) ?_|refine wv ?_|refine wg rfl cF ?_|refine wg rfl sB ?_|refine wx ?_|refine wz ?_)
   exact⟨i+1,hi,by omega,rfl,⟨_,rfl⟩,rfl,rfl,rfl,trivial⟩
 ·obtain rfl:i=n:=by omega
  rw[pR (by omega)];have hRn:=(yB s.rows).trans hRl;have hpn:(vJ s.piv).length=i:=(pH ..).trans hf;repeat (first|refine wI2 19 _ (fun c h=>jL (d:=12) (id:=1) (k:=1) (T:=76) rfl rfl rfl rfl h) ?_|refine wh q1 ?_|refine wg rfl (sL hRn) ?_|refine wv ?_|refine wg rfl cF ?_|refine wz ?_)
  refine wP (fun j:Nat=>[(8,some (.sv (.v (.int .i64 (i:Nat))))),(22,some (.sv (.v (.list (vJ s.piv))))),(24,some (.sv (.own 1 76 1 (kN ((s.rows.map (·.drop i)).take j))))),(100,some (.sv (.v (.list (kN s.rows))))),(102,some (.sv (.v (.int .i64 (i:Nat))))),(104,some (.sv (.v (.int .i64 (j:Nat)))))])
   (fun j=>j≤i∧∀q,q<j→s.piv[q]? = some q) (fun j=>i-j) 0 (fun _=>rfl) ⟨pN _,fun q hq=>by omega⟩ ⟨rfl,rfl,⟨_,rfl⟩,rfl,rfl,rfl,trivial⟩ fun j hJ=>?_
  obtain⟨j1,j2⟩:=hJ;rcases pK j i with hj|hj
  ·obtain⟨rj,erj⟩:∃r,s.rows[j]? = some r:=⟨_,pG (by omega)⟩
   obtain⟨p,ep⟩:∃r,s.piv[j]? = some r:=⟨_,pG (by omega)⟩
   have hrl:rj.length=i+i:=hRw rj (pF erj);have hg:=wSF erj;have hg2:(vJ s.piv)[j]? = some [.int .i64 (p:Nat)]:=by unfold vJ;rw[pJ,ep];rfl
   by_cases hpj:p=j
   ·have c1:=rowR4 rj;have c2:i≤(zD rj).length:=by rw[jJ];omega
    have c3:(zD rj).drop i=zD (rj.drop i):=by unfold zD;rw[pG0]
    have c4:kN ((s.rows.map (·.drop i)).take j)++[[V.list (zD (rj.drop i))]]=kN ((s.rows.map (·.drop i)).take (j+1)):=by rw[wSE,cI,pJ,erj];rfl
    have c5:(kN ((s.rows.map (·.drop i)).take j)).length=j:=by rw[yB,pV,pH];omega
    have c6:∀e∈[[V.list (zD (rj.drop i))]],e.length=1:=fun e h=>by rw[pP.1 h];rfl
    repeat (first|refine wg rfl (sX j hg) ?_|refine wg rfl (sX j hg2) ?_|refine wg rfl (sL hpn) ?_|refine wg rfl (wCG wE rfl rfl rfl rfl rfl rfl c1 c2 c3 rfl) ?_|refine wf rfl rfl (sA 7002 [[V.list (zD (rj.drop i))]] 1 24 c6 c4) ?_|refine wv ?_|refine wg rfl cT ?_|refine wg rfl cF ?_|refine wg rfl nF ?_|refine wg rfl sB ?_|refine wz ?_)
    exact⟨j+1,⟨hj,fun q hq=>by
     by_cases e:q=j
     ·subst e;rw[ep,hpj]
     ·exact j2 q (by omega)⟩,by omega,rfl,rfl,⟨_,rfl⟩,rfl,rfl,rfl,trivial⟩
   ·have hno:idP i s.piv=false:=decide_eq_false fun e=>hpj (by
     rw[e,dD hj]at ep;exact(gL ep).symm)
    rw[hno];repeat (first|refine wg rfl (sX j hg) ?_|refine wg rfl (sX j hg2) ?_|refine wg rfl (sL hpn) ?_|refine wv ?_|refine wg rfl cT ?_|refine wg rfl cF ?_|refine wg rfl nT ?_|refine wz ?_)
    exact⟨.inl rfl,_,rfl,rfl⟩
  ·obtain rfl:j=i:=by omega
   have hyes:idP j s.piv=true:=decide_eq_true (by
    apply mB;intro q;by_cases hq:q<j
    ·rw[j2 q hq,dD hq]
    ·rw[pW (by omega),pW (by rw[cZ];omega)])
   rw[hyes,if_pos rfl,pR (by rw[pH];omega)];refine wLD (j6 (d:=12) rfl) ?_;repeat (first|refine wv ?_|refine wg rfl cF ?_|refine wz ?_)
   exact⟨.inl rfl,_,rfl,rfl⟩
end Go.Proofs.YtdcjmnfngabhoaaGreat
/- Both eliminations in step: what the reference's entries are like. Plain Lean. -/
namespace Go.Dt
structure Coup(D:Int)(sb:BS)(sr:RS):Prop where
 piv:sr.piv=sb.piv
 len:sr.rows.length=sb.rows.length
 lo:∀i j,i<sb.piv.length→ent sr.rows i j*(sb.last:Rat)=(ent sb.rows i j:Int)
 hi:∀i j,sb.piv.length≤i→ent sr.rows i j*((sb.last:Rat)*D)=(ent sb.rows i j:Int)
theorem Coup.zero{D:Int}{sb:BS}{sr:RS}(h:Coup D sb sr)(hD:D≠0)(hl:sb.last≠0){i j:Nat}(hi:sb.piv.length≤i):ent sr.rows i j=0↔ent sb.rows i j=0:=by
 have e:=h.hi i j hi;have h1:=rat0 hD;have h2:=rat0 hl;constructor
 ·intro hz;rw[hz,pB7]at e;exact bL.1 (e.symm.trans rfl)
 ·intro hz;rw[hz]at e;have e:ent sr.rows i j*((sb.last:Rat)*D)=0:=e;rcases bD.1 e with h|h
  ·exact h
  ·rcases bD.1 h with h|h
   ·exact absurd h h2
   ·exact absurd h h1
theorem Coup.first{D:Int}{sb:BS}{sr:RS}(h:Coup D sb sr)(hD:D≠0)(hl:sb.last≠0)(c:Nat):(firstL sb.piv.length c sb.rows<sb.rows.length↔firstQ sr.piv.length c sr.rows<sr.rows.length)∧(firstL sb.piv.length c sb.rows<sb.rows.length→firstQ sr.piv.length c sr.rows=firstL sb.piv.length c sb.rows):=by
 have a1:=first_spec (k:=sb.piv.length) (c:=c) (R:=sb.rows);have b1:=firstQ_spec (k:=sr.piv.length) (c:=c) (R:=sr.rows);have hz:=fun i (hi:sb.piv.length≤i)=>h.zero hD hl (j:=c) hi;rw[h.len,h.piv]at *
 generalize firstL sb.piv.length c sb.rows=a at *
 generalize firstQ sb.piv.length c sr.rows=b at *
 obtain⟨a1,a2,a3⟩:=a1;obtain⟨b1,b2,b3⟩:=b1;have hab:∀(ha:a<sb.rows.length),b=a:=fun ha=>by
  rcases bH a b with hlt|he|hgt
  ·exact absurd ((hz a a3).1 (b1 a a3 hlt ha)) (a2 ha)
  ·exact he.symm
  ·exact absurd ((hz b b3).2 (a1 b b3 hgt (by omega))) (b2 (by omega))
 refine⟨⟨fun ha=>by rw[hab ha];exact ha,fun hb=>?_⟩,hab⟩;apply cN;intro ha;exact b2 hb ((hz b b3).2 (a1 b b3 (by omega) hb))
theorem Coup.col{n m c:Nat}{O:List (List Int)}{D:Int}{sb:BS}{sr:RS}(h:Coup D sb sr)(hD:D≠0)(hg:GoodL n m O sb c)(hw:wide m sr.rows):Coup D (colB sb c) (colR sr c):=by
 have hl:=hg.d0;obtain⟨f1,f2⟩:=h.first hD hl c;unfold colB colR;dsimp only;by_cases ha:firstL sb.piv.length c sb.rows<sb.rows.length
 ·rw[if_pos ha,if_pos (f1.1 ha)];have hq:=f2 ha;have a1:=first_spec (k:=sb.piv.length) (c:=c) (R:=sb.rows);rw[hq,h.piv];generalize firstL sb.piv.length c sb.rows=a at *
  obtain⟨_,a2,a3⟩:=a1;obtain⟨hex,_⟩:=hg.pivot a3 (by rw[←hg.len];exact ha) (a2 ha);have hk:sb.piv.length<sb.rows.length:=by omega
  have hk':sb.piv.length<sr.rows.length:=by rw[h.len];exact hk
  have ha':a<sr.rows.length:=by rw[h.len];exact ha
  have eB:=fun i j=>ent_swap (R:=sb.rows) hk ha i j;have eR:=fun i j=>ent_swap (R:=sr.rows) hk' ha' i j;have wB:=swap_wide hg.wide hk ha;have wR:=swap_wide hw hk' ha';have sB:=fun i j=>ent_step (c:=c) (d:=sb.last) wB (by rw[swap_len];exact hk) i j;obtain⟨sR1,sR2⟩:=ent_red (c:=c) wR (k:=sb.piv.length) (by rw[swap_len];exact hk');have hp0:ent (swapL sb.piv.length a sb.rows) sb.piv.length c≠0:=by rw[eB,sw_left];exact a2 ha
  have lo:∀i j,i<sb.piv.length→ent (swapL sb.piv.length a sr.rows) i j*(sb.last:Rat)=(ent (swapL sb.piv.length a sb.rows) i j:Int):=fun i j hi=>by rw[eB,eR,wZ5 (by omega) (by omega)];exact h.lo i j hi
  have hi:∀i j,sb.piv.length≤i→ent (swapL sb.piv.length a sr.rows) i j*((sb.last:Rat)*D)=(ent (swapL sb.piv.length a sb.rows) i j:Int):=fun i j hi=>by
   rw[eB,eR];refine h.hi _ j ?_;unfold sw;split
   ·omega
   ·split<;>omega
  have hlen:(redL sb.piv.length c (swapL sb.piv.length a sr.rows)).length=(stepL sb.piv.length c sb.last (swapL sb.piv.length a sb.rows)).length:=by rw[red_len,step_len,swap_len,swap_len,h.len]
  generalize swapL sb.piv.length a sb.rows=W at *
  generalize swapL sb.piv.length a sr.rows=R at *
  have h1:=rat0 hD;have h2:=rat0 hl;have h3:=rat0 hp0;have hkc:ent R sb.piv.length c≠0:=by intro hz;have:=hi sb.piv.length c (pC _);rw[hz,pB7]at this;exact h3 this.symm
  have hrow:∀j,ent (redL sb.piv.length c R) sb.piv.length j*(ent W sb.piv.length c:Int)=(ent W sb.piv.length j:Int):=fun j=>by
   rw[sR1,←hi sb.piv.length c (pC _),←hi sb.piv.length j (pC _)]
   grind
  have hgen:∀i j (e:Rat),i≠sb.piv.length→(∀j,ent R i j*((sb.last:Rat)*e)=(ent W i j:Int))→ent (redL sb.piv.length c R) i j*((ent W sb.piv.length c:Int)*e)=(ent (stepL sb.piv.length c sb.last W) i j:Int):=fun i j e hik he=>by
   obtain⟨q,hq⟩:=hex i hik j;have e1:ent (stepL sb.piv.length c sb.last W) i j=q:=by rw[sB,if_neg hik,hq,pE5 _ hl]
   have e2:(q:Rat)*sb.last=(ent W i j:Int)*(ent W sb.piv.length c:Int)-(ent W sb.piv.length j:Int)*(ent W i c:Int):=by have:=congrArg (fun z:Int=>(z:Rat)) hq;simp only[Rat.intCast_sub,Rat.intCast_mul]at this;exact this.symm
   rw[e1,sR2 i hik];have e3:=hrow j;have e4:=he j;have e5:=he c;generalize ent (redL sb.piv.length c R) sb.piv.length j=rkj at *
   generalize ((ent W i j:Int):Rat)=wij at *
   generalize ((ent W i c:Int):Rat)=wic at *
   generalize ((ent W sb.piv.length j:Int):Rat)=wkj at *
   generalize ((ent W sb.piv.length c:Int):Rat)=p at *
   generalize (sb.last:Rat)=d at *
   generalize ent R i j=rij at *
   generalize ent R i c=ric at *
   have e6:((rij-ric*rkj)*(p*e))*d=q*d:=by
    rw[e2,←e4,←e5,←e3]
    grind
   have:((rij-ric*rkj)*(p*e)-q)*d=0:=by grind
   rcases bD.1 this with hz|hz
   ·grind
   ·exact absurd hz h2
  have e2:(sb.piv++[c]).length=sb.piv.length+1:=by simp
  refine⟨rfl,hlen,fun i j hij=>?_,fun i j hij=>?_⟩
  ·show ent (redL sb.piv.length c R) i j*((ent W sb.piv.length c:Int):Rat)=(ent (stepL sb.piv.length c sb.last W) i j:Int)
   have hij:i<(sb.piv++[c]).length:=hij;by_cases hik:i=sb.piv.length
   ·subst hik;rw[hrow,sB,if_pos rfl]
   ·have:=hgen i j 1 hik fun j=>by rw[Rat.mul_one];exact lo i j (by omega)
    rw[Rat.mul_one]at this;exact this
  ·show ent (redL sb.piv.length c R) i j*(((ent W sb.piv.length c:Int):Rat)*D)=(ent (stepL sb.piv.length c sb.last W) i j:Int)
   have hij:(sb.piv++[c]).length≤i:=hij;exact hgen i j D (by omega) fun j=>hi i j (by omega)
 ·rw[if_neg ha,if_neg (fun hh=>ha (f1.2 hh))];exact h
theorem coup{D:Int}{N:List (List Int)}{Q:List (List Rat)}{n:Nat}(hD:D≠0)(hn:N.length=n)(h:wide n N)(hn2:Q.length=n)(h2:wide n Q)(hS:∀i,i<n→∀j,j<n→ent Q i j=((ent N i j:Int):Rat)/D):∀c,Coup D (downB (startB D N) c) (downR (startR Q) c)
 | 0=>by
  have a1:=augI_ok hD hn h;have a2:=qBE hn2 h2 hS;refine⟨rfl,(augQ_len Q).trans (hn2.trans (hn.symm.trans (augI_len D N).symm)),fun i j hi=>absurd hi (Nat.not_lt_zero _),fun i j _=>?_⟩;show ent (augQ Q) i j*(((1:Int):Rat)*D)=((ent (augI D N) i j:Int):Rat)
  have hD':=rat0 hD;by_cases hi:i<n
  ·by_cases hj:j<n+n
   ·by_cases hjn:j<n
    ·have e1:((ent (augI D N) i j:Int):Rat)=D*_:=a1.left i hi j hjn;rw[e1,a2.left i hi j hjn];show _*((1:Rat)*D)=_
     grind
    ·obtain⟨q,rfl⟩:∃q,j=n+q:=⟨j-n,by omega⟩
     have e1:((ent (augI D N) i (n+q):Int):Rat)=D*_:=a1.right i hi q (by omega);rw[e1,a2.right i hi q (by omega)];show _*((1:Rat)*D)=_
     grind
   ·rw[ent_wide (augQ_wide hn2 h2) (by omega),ent_wide (augI_wide hn h) (by omega)];exact pB7 _
  ·rw[ent_out (by rw[augQ_len];omega),ent_out (R:=augI D N) (by rw[augI_len];omega)];exact pB7 _
 |c+1=>by rw[downB_succ,downR_succ];exact(coup hD hn h hn2 h2 hS c).col hD (goodB hn h c) (goodR hn2 h2 c).wide
theorem coupB{D:Int}{N:List (List Int)}{Q:List (List Rat)}{n B:Nat}(hD:D≠0)(hn:N.length=n)(h:wide n N)(hn2:Q.length=n)(h2:wide n Q)(hS:∀i,i<n→∀j,j<n→ent Q i j=((ent N i j:Int):Rat)/D)(hB:1≤B)(hBO:∀i j,(ent (augI D N) i j).natAbs≤B)(c i j:Nat) :
  ∃w d z:Int,ent (downR (startR Q) c).rows i j=Rat.divInt w (d*z)∧d≠0∧(z=1∨z=D)∧w.natAbs≤((n+1)*B)^(n+1)∧d.natAbs≤((n+1)*B)^(n+1):=by
 have hc:=coup hD hn h hn2 h2 hS c;have hg:=goodB (D:=D) hn h c;have hlast:=downB_last (augI D N) c;rw[show(⟨augI D N,1,[],0⟩:BS)=startB D N from rfl]at hlast;generalize downB (startB D N) c=sb at *
 generalize downR (startR Q) c=sr at *
 have hk:sb.piv.length+1≤n+1:=by have:=hg.good.kn;omega
 have hpos:0<(n+1)*B:=gQ (by omega) hB;have hw:∀i j,(ent sb.rows i j).natAbs≤((n+1)*B)^(n+1):=fun i j=>pD (hg.good.bound (B:=B) (N:=n+1) hk hB hBO i j) (mT hpos hk);have hd:sb.last.natAbs≤((n+1)*B)^(n+1):=by
  by_cases hp:sb.piv=[]
  ·rw[hlast hp];exact cX hpos
  ·obtain⟨a,b,e⟩:=hg.dlast hp;rw[←e];exact hw a b
 have h0:=hg.d0;have h1:=rat0 h0;have h3:=rat0 hD;have key:∀z:Int,z≠0→ent sr.rows i j*((sb.last:Rat)*z)=(ent sb.rows i j:Int)→ent sr.rows i j=Rat.divInt (ent sb.rows i j) (sb.last*z):=fun z hz e=>by
  have hz':=rat0 hz;rw[dV,dJ,←e]
  grind
 by_cases hi:i<sb.piv.length
 ·refine⟨ent sb.rows i j,sb.last,1,key 1 (by decide) ?_,h0,.inl rfl,hw i j,hd⟩;have:=hc.lo i j hi;rw[show((1:Int):Rat)=1 from rfl,Rat.mul_one];exact this
 ·exact⟨ent sb.rows i j,sb.last,D,key D hD (hc.hi i j (by omega)),h0,.inr rfl,hw i j,hd⟩
end Go.Dt
/- Matrices in normal form are told by their entries; products are associative; the inverses. Plain Lean. -/
namespace Go.Proofs.YtdcjmnfngabhoaaGreat
open Go.RowKit Go.Ev Go.Vl
theorem wY0{m L:Int}:∀(zs:List ZZ)(x:Int),m∣x*L→(∀z∈zs,m∣intOf z*L)→m∣wC4 zs x*L
 |[],x,h,_=>h
 |z::zs,x,h,hz=>by
  refine wY0 zs _ ?_ fun y hy=>hz y (pZ _ hy);have h2:=hz z (pT ..);have h3:=Int.dvd_coe_gcd h h2;rw[Int.gcd_mul_right]at h3;rw[bC]at h3;rcases Int.natAbs_eq L with e|e
  ·rw[e];exact h3
  ·rw[e,pC6];exact pI2.2 h3
theorem madeS_mul{d:ZZ}{t:List (List ZZ)}{m L:Int}(h:m∣intOf d*L)(hz:∀r∈t,∀z∈r,m∣intOf z*L):m∣x6 d t*L:=by
 have h1:m∣wG8 t*L:=wY0 _ _ (by rw[Int.zero_mul];exact Int.dvd_zero _) fun z hz'=>by obtain⟨r,hr,hzr⟩:=cY.1 hz';exact hz r hr z hzr
 have h2:m∣wDH d t*L:=by
  unfold wDH;split
  ·rcases Int.natAbs_eq (intOf d)with e|e
   ·rw[←e];exact h
   ·rw[e,pF0]at h;exact pI2.1 h
  ·have h3:=Int.dvd_coe_gcd h1 h;rw[Int.gcd_mul_right,bC]at h3;rcases Int.natAbs_eq L with e|e
   ·rw[e];exact h3
   ·rw[e,pC6];exact pI2.2 h3
 rw[wN6];split
 ·rw[pF0];exact pI2.2 h2
 ·exact h2
theorem wB5(d:ZZ)(t:List (List ZZ))(h0:intOf d≠0)(hc:wS t≠0):qC d t=wNA (wU (d,t)):=by
 obtain⟨s0,s1,s2⟩:=v8 d t h0;obtain⟨D,hD⟩:=s1;have hDS:(intOf d).tdiv (x6 d t)=D:=by rw[hD,gF _ s0]
 have hDpos:0<D:=by
  obtain⟨g1,_⟩:=wKI d t h0;rw[wN6]at hD;apply cN;intro hn;split at hD
  ·rename_i hl
   have:0≤-wDH d t*D:=Int.mul_nonneg_of_nonpos_of_nonpos (by omega) (by omega)
   omega
  ·rename_i hl
   have:wDH d t*D≤0:=Int.mul_nonpos_of_nonneg_of_nonpos (by omega) (by omega)
   omega
 have hmem:∀r∈t,∀z∈r,qn (Rat.divInt (intOf z) (intOf d))∈(wU (d,t)).flatten:=fun r hr z hz=>cY.2 ⟨_,pA9 hr,pA9 hz⟩
 have hval:∀r∈t,∀z∈r,∃p:Int,intOf z=x6 d t*p∧Rat.divInt (intOf z) (intOf d)=Rat.divInt p D:=fun r hr z hz=>by obtain⟨p,hp⟩:=s2 r hr z hz;exact⟨p,hp,by rw[hp,hD,Rat.divInt_mul_left s0]⟩
 have hcom:(wD1 (wU (d,t)).flatten:Int)=D:=by
  refine Int.dvd_antisymm (by omega) (by omega) ?_ ?_
  ·have h1:wD1 (wU (d,t)).flatten∣D.natAbs:=comD_dvd _ _ fun q hq=>by
    rw[v6]at hq;obtain⟨z,hz,rfl⟩:=pO.1 hq;obtain⟨r,hr,hzr⟩:=cY.1 hz;obtain⟨p,_,e⟩:=hval r hr z hzr;rw[qY,e];exact wU9 _ _ (by omega)
   exact Int.ofNat_dvd_left.2 h1
  ·have h2:intOf d∣x6 d t*(wD1 (wU (d,t)).flatten:Int):=madeS_mul (Int.dvd_mul_right ..) fun r hr z hz=>by
    obtain⟨p,hp,e⟩:=hval r hr z hz;have h3:=qFI _ _ (hmem r hr z hz);rw[qY]at h3;obtain⟨k,hk⟩:=h3;rw[hk,bC,←Int.mul_assoc];have e2:Rat.divInt (intOf z) (intOf d)=Rat.divInt (Rat.divInt (intOf z) (intOf d)).num ((Rat.divInt (intOf z) (intOf d)).den:Int):=(fB _).symm;have e3:=(frac_eq (d':=((Rat.divInt (intOf z) (intOf d)).den:Int)) h0 (by have:=(Rat.divInt (intOf z) (intOf d)).den_nz;omega)).2 e2;rw[e3];exact pF9 (Int.dvd_mul_left ..) (Int.dvd_mul_right ..)
   rw[hD]at h2;exact Int.dvd_of_mul_dvd_mul_left s0 h2
 unfold qC wNA;rw[if_neg hc,hDS,hcom];refine Prod.ext rfl ?_;show t.map (fun r=>r.map fun x=>zn ((intOf x).tdiv (x6 d t)))=(t.map fun r=>r.map fun x=>qn (Rat.divInt (intOf x) (intOf d))).map fun r=>r.map (yH D);rw[mU];refine mP fun r hr=>?_;show _=(r.map fun x=>qn (Rat.divInt (intOf x) (intOf d))).map (yH D);rw[mU];refine mP fun z hz=>?_;obtain⟨p,hp,e⟩:=hval r hr z hz;show _=yH D (qn (Rat.divInt (intOf z) (intOf d)));unfold yH;rw[qY,e,hp,gF _ s0];have hD0:(D:Rat)≠0:=Dt.rat0 (by omega);rw[dV,show(p:Rat)/(D:Rat)*(D:Rat)=(p:Rat) by grind,Rat.num_intCast]
theorem yC(d:ZZ)(t:List (List ZZ))(h0:intOf d≠0)(hc:wS t≠0):wU (qC d t)=wU (d,t):=by rw[wB5 d t h0 hc];exact wX2 _ (wX1 _)
theorem wQE(X Y:List (List QQ))(a b:Nat):∀h,sumR X Y a b h=Dt.sm h fun l=>entQ X a l*entQ Y l b
 |0=>rfl
 |h+1=>by show sumR X Y a b h+_=_;rw[wQE X Y a b h];rfl
def sqT(n:Nat)(X:List (List QQ)):Prop:=X.length=n∧∀r∈X,r.length=n
theorem sqT.hd{n:Nat}{X:List (List QQ)}(h:sqT n X)(hn:0<n):(X.headD []).length=n:=by
 cases X with
 |nil=>have:=h.1;simp at this;omega
 |cons r X=>exact h.2 r (pT ..)
theorem sqT.mul{n:Nat}{X Y:List (List QQ)}(hX:sqT n X)(hY:sqT n Y)(hn:0<n):sqT n (wBF X Y):=by refine⟨by unfold wBF;rw[pH,cZ];exact hX.1,fun r hr=>?_⟩;obtain⟨a,_,rfl⟩:=pO.1 hr;rw[pH,cZ];exact hY.hd hn
theorem entQ_mul{n:Nat}{X Y:List (List QQ)}(hX:sqT n X)(hY:sqT n Y)(hn:0<n){a b:Nat}(ha:a<n)(hb:b<n):entQ (wBF X Y) a b=Dt.sm n fun l=>entQ X a l*entQ Y l b:=by unfold entQ wBF;rw[hX.1,hY.hd hn,hX.hd hn,pE,pE,pJ,dD ha];show wX (((List.map _ (List.range n))[b]?).getD (qn 0))=_;rw[pJ,dD hb];show wX (qn _)=_;rw[qY,wQE];rfl
theorem mulR_assoc{n:Nat}{X Y Z:List (List QQ)}(hX:sqT n X)(hY:sqT n Y)(hZ:sqT n Z)(hn:0<n):wBF (wBF X Y) Z=wBF X (wBF Y Z):=by
 have hXY:=hX.mul hY hn;have hYZ:=hY.mul hZ hn;have e1:wBF (wBF X Y) Z=(List.range n).map fun a=>(List.range n).map fun b=>qn (sumR (wBF X Y) Z a b n):=by
  conv=>lhs;unfold wBF
  rw[show(List.map _ (List.range X.length)).length=n from hXY.1,hZ.hd hn,show((List.map _ (List.range X.length)).headD []).length=n from hXY.hd hn];rfl
 have e2:wBF X (wBF Y Z)=(List.range n).map fun a=>(List.range n).map fun b=>qn (sumR X (wBF Y Z) a b n):=by
  conv=>lhs;unfold wBF
  rw[hX.1,show((List.map _ (List.range Y.length)).headD []).length=n from hYZ.hd hn,hX.hd hn];rfl
 rw[e1,e2];refine mP fun a ha=>?_;refine mP fun b hb=>?_;have ha:=dK.1 ha;have hb:=dK.1 hb;have s1:(Dt.sm n fun l=>entQ (wBF X Y) a l*entQ Z l b)=Dt.sm n fun m=>(Dt.sm n fun l=>entQ X a l*entQ Y l m)*entQ Z m b:=Dt.sm_congr fun l hl=>by rw[entQ_mul hX hY hn ha hl]
 have s2:(Dt.sm n fun l=>entQ X a l*entQ (wBF Y Z) l b)=Dt.sm n fun l=>entQ X a l*Dt.sm n fun m=>entQ Y l m*entQ Z m b:=Dt.sm_congr fun l hl=>by rw[entQ_mul hY hZ hn hl hb]
 rw[wQE,wQE,s1,s2,←Dt.assoc]
theorem wF6{m:MM}{n K:Nat}(h:sqM m n K):sqT n (wU m):=by refine⟨(qDI m).trans h.rows,fun r hr=>?_⟩;obtain⟨r',hr',rfl⟩:=pO.1 hr;rw[pH];exact h.cols r' hr'
def wA2(D:Int)(N:List (List Int)):List (List Rat):=N.map fun r=>r.map fun x=>Rat.divInt x D
def toQ(R:List (List Rat)):List (List QQ):=R.map fun r=>r.map qn
theorem qCD(R:List (List Rat)):jM (toQ R)=kN R:=by unfold jM toQ kN;rw[mU];refine mP fun r _=>?_;show[V.list ((r.map qn).map qU)]=_;rw[mU];rfl
theorem wX0(m:MM):wU m=toQ (wA2 (intOf m.1) (intT m.2)):=by unfold wU toQ wA2 intT;rw[mU,mU];refine mP fun r _=>?_;show _=((r.map intOf).map fun x=>Rat.divInt x (intOf m.1)).map qn;rw[mU,mU];rfl
theorem wSI{D:Int}{N:List (List Int)}(i j:Nat):Dt.ent (wA2 D N) i j=Rat.divInt (Dt.ent N i j) D:=by
 have hz:Rat.divInt 0 D=0:=pH8 _;unfold Dt.ent wA2;rw[pE,pE,pE,pE,pJ];cases N[i]? with
 |none=>exact hz.symm
 |some r=>
  show((List.map (fun x=>Rat.divInt x D) r)[j]?).getD 0=Rat.divInt ((r[j]?).getD 0) D;rw[pJ];cases r[j]? with
  |none=>exact hz.symm
  |some x=>rfl
theorem tabR_ext{A B:List (List Rat)}{n m:Nat}(h1:A.length=n)(h2:B.length=n)(w1:Dt.wide m A)(w2:Dt.wide m B)(h:∀i,i<n→∀j,j<m→Dt.ent A i j=Dt.ent B i j):A=B:=by
 apply mB;intro i;by_cases hi:i<n
 ·obtain⟨a,ea⟩:∃r,A[i]? = some r:=⟨_,pG (by omega)⟩
  obtain⟨b,eb⟩:∃r,B[i]? = some r:=⟨_,pG (by omega)⟩
  rw[ea,eb];have la:=w1 a (pF ea);have lb:=w2 b (pF eb);congr 1;apply mB;intro j;by_cases hj:j<m
  ·obtain⟨x,ex⟩:∃r,a[j]? = some r:=⟨_,pG (by omega)⟩
   obtain⟨y,ey⟩:∃r,b[j]? = some r:=⟨_,pG (by omega)⟩
   have:=h i hi j hj;rw[entR ea ex,entR eb ey]at this;rw[ex,ey,this]
  ·rw[pW (by omega),pW (by omega)]
 ·rw[pW (by omega),pW (by omega)]
theorem ent_drop{α:Type}[OfNat α 0](R:List (List α))(n i j:Nat):Dt.ent (R.map (·.drop n)) i j=Dt.ent R i (n+j):=by
 unfold Dt.ent;rw[pE,pE,pE,pE,pJ];cases R[i]? with
 |none=>rfl
 |some r=>show((r.drop n)[j]?).getD 0=(r[n+j]?).getD 0;rw[cW]
theorem inv_both{D:Int}{N:List (List Int)}{n:Nat}(hD:D≠0)(hn:N.length=n)(h:Dt.wide n N)(hn0:0<n) :
  (wFA D N=0↔idP n (Dt.downR (Dt.startR (wA2 D N)) (n+n)).piv=true)∧(Dt.downR (Dt.startR (wA2 D N)) (n+n)).piv.length=n ∧
  (wFA D N=0→wU (xY D N)=toQ ((Dt.downR (Dt.startR (wA2 D N)) (n+n)).rows.map (·.drop n))):=by
 have hQl:(wA2 D N).length=n:=(pH ..).trans hn;have hQw:Dt.wide n (wA2 D N):=fun r hr=>by obtain⟨r',hr',rfl⟩:=pO.1 hr;rw[pH];exact h r' hr'
 obtain⟨i1,i2,i3⟩:=Dt.inverses (Q:=wA2 D N) hD hn h hQl hQw fun i _ j _=>by rw[wSI,dV]
 have gB:=Dt.goodB (D:=D) hn h n;have gR:=Dt.goodR hQl hQw (n+n);have hkn:(Dt.downB (Dt.startB D N) n).piv.length≤n:=gB.good.kn;have hE:wFA D N=0↔(Dt.downB (Dt.startB D N) n).piv.length=n:=by
  unfold wFA invS;rw[hn];constructor
  ·intro e;split at e
   ·cases e
   ·omega
  ·intro e;rw[if_neg (by omega)]
 refine⟨hE.trans (i1.trans ?_),i2,fun e=>?_⟩
 ·unfold idP Dt.okR;rw[decide_eq_true_iff];constructor
  ·rintro⟨_,g⟩;apply mB;intro q;by_cases hq:q<n
   ·have:=g q hq;obtain⟨x,ex⟩:∃x,(Dt.downR (Dt.startR (wA2 D N)) (n+n)).piv[q]? = some x:=⟨_,pG (by omega)⟩
    rw[pE,ex]at this;rw[ex,dD hq,show x=q from this]
   ·rw[pW (by omega),pW (by rw[cZ];omega)]
  ·intro g;refine⟨i2,fun i hi=>?_⟩;rw[g,pE,dD hi];rfl
 ·have hf:=hE.1 e;have hv:=i3 hf;have hl:=gB.d0;unfold xY;rw[if_neg (by unfold invS;rw[hn];omega)];have hin:invS D N=Dt.downB (Dt.startB D N) n:=by unfold invS;rw[hn]
  rw[hin,hn];have hBl:=gB.len;have hBw:=gB.wide;have hRl:=gR.len;have hRw:=gR.wide;generalize Dt.downB (Dt.startB D N) n=sb at *
  generalize Dt.downR (Dt.startR (wA2 D N)) (n+n)=sr at *
  have hcl:wS (wMF sb n).2=n:=by
   show(((sb.rows.map (·.drop n)).map fun r=>r.map zn).headD []).length=n;cases hr:sb.rows with
   |nil=>rw[hr]at hBl;simp at hBl;omega
   |cons r R=>show((r.drop n).map zn).length=n;rw[pH,dM,hBw r (by rw[hr];exact pT ..)];omega
  have hch:chk (wMF sb n)=0:=wP5 _ (by show intOf (zn sb.last)≠0;rw[wF];exact hl) (wFD _ n fun r hr=>by obtain⟨r',hr',rfl⟩:=pO.1 hr;obtain⟨r2,hr2,rfl⟩:=pO.1 hr';rw[pH,dM,hBw r2 hr2];omega)
  unfold wG1;rw[if_pos hch,yC _ _ (by show intOf (zn sb.last)≠0;rw[wF];exact hl) (by rw[hcl];omega),wX0];congr 1;show wA2 (intOf (zn sb.last)) (intT (zT (sb.rows.map (·.drop n))))=_;have e1:intT (zT (sb.rows.map (·.drop n)))=sb.rows.map (·.drop n):=by unfold intT zT;rw[mU];refine(mP fun r _=>?_).trans (gS _);show(r.map zn).map intOf=r;rw[mU];refine(mP fun x _=>?_).trans (gS _);exact wF x
  rw[e1,wF];refine tabR_ext (n:=n) (m:=n) (by unfold wA2;rw[pH,pH];exact hBl) (by rw[pH];exact hRl) (fun r hr=>?_) (fun r hr=>?_) fun i hi j hj=>?_
  ·obtain⟨r',hr',rfl⟩:=pO.1 hr;obtain⟨r2,hr2,rfl⟩:=pO.1 hr';rw[pH,dM,hBw r2 hr2];omega
  ·obtain⟨r2,hr2,rfl⟩:=pO.1 hr;rw[dM,hRw r2 hr2];omega
  ·rw[wSI,ent_drop,ent_drop,←hv i hi j hj,dV]
theorem lm_pow{x:Int}{k:Nat}(h:x.natAbs≤4294967296^k):lm x≤k+1:=zU _ _ (fQ h (by rw[mS];have:0<4294967296^k:=cX (by decide);omega))
theorem pow_lm(x:Int):x.natAbs≤4294967296^lm x:=by have h:=qP (toL x.natAbs) (qX _);rw[wK]at h;exact bV h
theorem pow_lmK{x:Int}{K:Nat}(h:lm x≤K):x.natAbs≤4294967296^K:=pD (pow_lm x) (mT (by decide) h)
theorem bd_lm{n K:Nat}(hn:n≤24)(x:Int)(h:x.natAbs≤((n+1)*4294967296^K)^(n+1)):lm x≤25*(K+1)+1:=by
 apply lm_pow;refine pD h ?_;have h1:(n+1)*4294967296^K≤4294967296^(K+1):=by rw[mS,mL];exact mK _ (by omega)
 refine pD (Nat.pow_le_pow_left h1 _) ?_;rw[←Nat.pow_mul,mL 25];exact mT (by decide) (mK _ (by omega))
theorem sqM.made{m:MM}{n K:Nat}(h:sqM m n K)(hn:0<n):sqM (qC m.1 m.2) n K:=by
 have h0:=h.den;obtain⟨s1,s2,_⟩:=v8 m.1 m.2 h0;have hc:=h.cl hn;have l0:=w8 m.1 h.ok.1;have hrow:∀x∈(qC m.1 m.2).2,x.length=n∧∀z∈x,okL z.2∧z.2.length≤K:=by intro x hx;obtain⟨r,hr,rfl⟩:=pO.1 hx;refine⟨by rw[pH];exact h.cols r hr,fun z hz=>?_⟩;obtain⟨y,hy,rfl⟩:=pO.1 hz;refine⟨wC9 _,?_⟩;rw[zn_lm];have l1:=(h.ok.2.2.1.2 r hr).2 y hy;have l2:=w8 y l1.1;refine pD (jS (y:=intOf y) ?_) (by omega);rw[dS];exact cP ..
 have hl:(qC m.1 m.2).2.length=n:=(yF _ _).trans h.rows;have hd:intOf (qC m.1 m.2).1≠0:=by show intOf (zn (if wS m.2=0 then 1 else _))≠0;rw[if_neg (by omega),wF];intro hz;have:=pE2 s2;rw[hz,Int.mul_zero]at this;exact h0 this.symm
 refine⟨⟨wC9 _,?_,⟨by rw[hl,←h.rows];exact h.ok.2.2.1.1,fun x hx=>⟨?_,(hrow x hx).2⟩⟩,?_⟩,wP5 _ hd (wFD _ n fun x hx=>(hrow x hx).1),hl,fun x hx=>(hrow x hx).1⟩
 ·show lm (if wS m.2=0 then 1 else _)≤K;rw[if_neg (by omega)];refine pD (jS (y:=intOf m.1) ?_) (pD l0 h.ok.2.1);rw[dS];exact cP ..
 ·rw[(hrow x hx).1];cases hm:m.2 with
  |nil=>have:=h.rows;rw[hm]at this;simp at this;omega
  |cons r t=>have:=(h.ok.2.2.1.2 r (by rw[hm];exact pT ..)).1;rw[h.cols r (by rw[hm];exact pT ..)]at this;exact this
 ·rw[kU fun x hx=>(hrow x hx).1,hl];have:=h.ok.2.2.2;rw[kU fun x hx=>h.cols x hx,h.rows]at this;exact this
theorem wR6{m:MM}{K:Nat}(h:jK m=0)(hk:okM m K):sqM m m.2.length K∧0<m.2.length∧m.2.length≤24:=by obtain⟨g1,g2,g3,g4,_⟩:=fit10 h;exact⟨sqM.of hk g1 rfl g2.symm,by omega,g4⟩
theorem ht_made{m:MM}(h0:chk m=0)(hc:wS m.2≠0):htM (qC m.1 m.2)=htM m:=by unfold htM;rw[yC m.1 m.2 (chk0 h0).1 hc]
def wD6(a b:MM):Int:=if jK a=0 then(if jK b=0 then(if a.2.length=b.2.length then 0 else 2)else jK b)else jK a
def bothA(a b:MM):MM:=if wD6 a b=0 then wNC a else noM
def bothB(a b:MM):MM:=if wD6 a b=0 then wNC b else noM
theorem both_v(x x':Bool)(l l':List Nat)(t t':List (List ZZ))(q1:wG Tryz.prog 25 [.agg [.bool x,vL l,vT t]] (fun y=>y=.tup [vM (wNC ((x,l),t)),.int .i64 (jK ((x,l),t))]))(q2:wG Tryz.prog 25 [.agg [.bool x',vL l',vT t']] (fun y=>y=.tup [vM (wNC ((x',l'),t')),.int .i64 (jK ((x',l'),t'))])) :
  wG Tryz.prog 11 [.agg [.bool x,vL l,vT t],.agg [.bool x',vL l',vT t']] (fun y=>y=.tup [vM (bothA ((x,l),t) ((x',l'),t')),vM (bothB ((x,l),t) ((x',l'),t')),.int .i64 (wD6 ((x,l),t) ((x',l'),t'))]):=by
 refine wD wE Tryz.func11 rfl rfl rfl rfl fun w0=>?_;unfold bothA bothB;obtain⟨E,hE⟩:∃E,wD6 ((x,l),t) ((x',l'),t')=E:=⟨_,rfl⟩
 rw[hE];unfold wD6 at hE;dsimp only at hE;have hn1:jK ((x,l),t)=0→(wNC ((x,l),t)).2.length=t.length:=fun h=>by unfold wNC;rw[if_pos h];exact yF _ _
 have hn2:jK ((x',l'),t')=0→(wNC ((x',l'),t')).2.length=t'.length:=fun h=>by unfold wNC;rw[if_pos h];exact yF _ _
 have hb1:-8≤jK ((x,l),t)∧jK ((x,l),t)≤8:=by unfold jK chk;repeat' split<;>omega
 have hb2:-8≤jK ((x',l'),t')∧jK ((x',l'),t')≤8:=by unfold jK chk;repeat' split<;>omega
 generalize wNC ((x,l),t)=M at *
 generalize wNC ((x',l'),t')=M' at *
 generalize jK ((x,l),t)=c at *
 generalize jK ((x',l'),t')=c' at *
 obtain⟨⟨y,k⟩,u⟩:=M;obtain⟨⟨y',k'⟩,u'⟩:=M';dsimp only at hn1 hn2;by_cases h1:c=0
 ·have e1:=hn1 h1;have hul:=wAE u;subst h1;by_cases h2:c'=0
  ·have e2:=hn2 h2;have hul':=wAE u';subst h2;by_cases h3:t.length=t'.length
   ·rw[if_pos rfl,if_pos rfl,if_pos h3]at hE;subst hE;rw[if_pos rfl,if_pos rfl];repeat (first|refine wc q1 ?_|refine wc q2 ?_|refine wg rfl (sL hul) ?_|refine wg rfl (sL hul') ?_|refine wl ?_|refine wv ?_|refine wg rfl nF ?_|refine wz ?_)
    exact⟨.inl rfl,_,rfl,rfl⟩
   ·rw[if_pos rfl,if_pos rfl,if_neg h3]at hE;subst hE;rw[if_neg (by decide),if_neg (by decide)];repeat (first|refine wc q1 ?_|refine wc q2 ?_|refine wg rfl (sL hul) ?_|refine wg rfl (sL hul') ?_|refine wl ?_|refine wv ?_|refine wg rfl nT ?_|refine wg rfl nF ?_|refine wz ?_)
    exact⟨.inl rfl,_,rfl,rfl⟩
  ·rw[if_pos rfl,if_neg h2]at hE;subst hE;rw[if_neg h2,if_neg h2];repeat (first|refine wc q1 ?_|refine wc q2 ?_|refine wl ?_|refine wv ?_|refine wg rfl nT ?_|refine wg rfl nF ?_|refine wz ?_)
   exact⟨.inl rfl,_,rfl,rfl⟩
 ·rw[if_neg h1]at hE;subst hE;rw[if_neg h1,if_neg h1];repeat (first|refine wc q1 ?_|refine wl ?_|refine wv ?_|refine wg rfl nT ?_|refine wz ?_)
  exact⟨.inl rfl,_,rfl,rfl⟩
theorem wS4(m m' p:MM)(q1:wG Tryz.prog 26 [vM m,vM m'] (fun y=>y=.tup [vM p,.int .i64 0])):wG Tryz.prog 13 [vM m,vM m'] (fun y=>y=vM p):=by
 refine wD wE Tryz.func13 rfl rfl rfl rfl fun w0=>?_;obtain⟨⟨x,l⟩,t⟩:=m;obtain⟨⟨x',l'⟩,t'⟩:=m';obtain⟨⟨y,k⟩,u⟩:=p;repeat (first|refine wc q1 ?_|refine wl ?_|refine wv ?_|refine wg rfl nF ?_|refine wz ?_)
 exact⟨.inl rfl,_,rfl,rfl⟩
theorem sinverse_v(m p:MM)(q1:wG Tryz.prog 27 [vM m] (fun y=>y=.tup [vM p,.int .i64 0])):wG Tryz.prog 14 [vM m] (fun y=>y=vM p):=by
 refine wD wE Tryz.func14 rfl rfl rfl rfl fun w0=>?_;obtain⟨⟨x,l⟩,t⟩:=m;obtain⟨⟨y,k⟩,u⟩:=p;repeat (first|refine wc q1 ?_|refine wl ?_|refine wv ?_|refine wg rfl nF ?_|refine wz ?_)
 exact⟨.inl rfl,_,rfl,rfl⟩
theorem two24_v(x x':Bool)(l l':List Nat)(t t':List (List ZZ))(h:okM ((x,l),t) 68719476736)(h':okM ((x',l'),t') 68719476736) :
  wG Tryz.prog 5 [.agg [.bool x,vL l,vT t],.agg [.bool x',vL l',vT t']] (fun y=>y=.int .i64 (wD6 ((x,l),t) ((x',l'),t'))):=by
 refine wD wE Tryz.func5 rfl rfl rfl rfl fun w0=>?_;have q1:=fit11_v x l t h;have q2:=fit11_v x' l' t' h';have hl:t.length≤68719476736:=h.2.2.1.1;have hl':t'.length≤68719476736:=h'.2.2.1.1;obtain⟨E,hE⟩:∃E,wD6 ((x,l),t) ((x',l'),t')=E:=⟨_,rfl⟩
 rw[hE];unfold wD6 at hE;dsimp only at hE;have hb1:-8≤jK ((x,l),t)∧jK ((x,l),t)≤8:=by unfold jK chk;repeat' split<;>omega
 have hb2:-8≤jK ((x',l'),t')∧jK ((x',l'),t')≤8:=by unfold jK chk;repeat' split<;>omega
 generalize jK ((x,l),t)=c at *
 generalize jK ((x',l'),t')=c' at *
 have hul:=wAE t;have hul':=wAE t';by_cases h1:c=0
 ·subst h1;by_cases h2:c'=0
  ·subst h2;by_cases h3:t.length=t'.length
   ·rw[if_pos rfl,if_pos rfl,if_pos h3]at hE;subst hE;repeat (first|refine wc q1 ?_|refine wc q2 ?_|refine wg rfl (sL hul) ?_|refine wg rfl (sL hul') ?_|refine wv ?_|refine wg rfl cT ?_|refine wg rfl nF ?_|refine wz ?_)
    exact⟨.inl rfl,_,rfl,rfl⟩
   ·rw[if_pos rfl,if_pos rfl,if_neg h3]at hE;subst hE;repeat (first|refine wc q1 ?_|refine wc q2 ?_|refine wg rfl (sL hul) ?_|refine wg rfl (sL hul') ?_|refine wv ?_|refine wg rfl cT ?_|refine wg rfl nT ?_|refine wz ?_)
    exact⟨.inl rfl,_,rfl,rfl⟩
  ·rw[if_pos rfl,if_neg h2]at hE;subst hE;repeat (first|refine wc q1 ?_|refine wc q2 ?_|refine wv ?_|refine wg rfl cT ?_|refine wg rfl cF ?_|refine vD rfl rfl rfl rfl rfl rfl ?_|refine wz ?_)
   exact⟨.inl rfl,_,rfl,rfl⟩
 ·rw[if_neg h1]at hE;subst hE;repeat (first|refine wc q1 ?_|refine wv ?_|refine wg rfl cF ?_|refine vD rfl rfl rfl rfl rfl rfl ?_|refine wz ?_)
  exact⟨.inl rfl,_,rfl,rfl⟩
theorem none_v(m:MM)(hl:m.1.2.length≤1099511627776)(hl2:m.2.length≤1099511627776):wG Tryz.prog 6 [vM m] (fun y=>y=.bool (decide (m=noM))):=by
 refine wD wE Tryz.func6 rfl rfl rfl rfl fun w0=>?_;obtain⟨⟨x,l⟩,t⟩:=m;dsimp only at hl hl2;have h1:=w9 l;have h2:=wAE t;cases l with
 |cons a l=>
  rw[decide_eq_false (fun e=>by cases e)];have h3:(a::l).length=l.length+1:=rfl;repeat (first|refine wg rfl (sL h1) ?_|refine wv ?_|refine wg rfl cF ?_|refine vD rfl rfl rfl rfl rfl rfl ?_|refine wz ?_)
  exact⟨.inl rfl,_,rfl,rfl⟩
 | nil=>
  cases x with
  |true=>
   rw[decide_eq_false (fun e=>by cases e)];repeat (first|refine wg rfl (sL (w9 _)) ?_|refine wv ?_|refine wg rfl (jE rfl rfl rfl rfl (rfl) rfl) ?_|refine vD rfl rfl rfl rfl rfl rfl ?_|refine wz ?_)
   exact⟨.inl rfl,_,rfl,rfl⟩
  | false=>
   cases t with
   |nil=>
    repeat (first|refine wg rfl (sL (w9 _)) ?_|refine wv ?_|refine wg rfl (jE rfl rfl rfl rfl (rfl) rfl) ?_|refine wz ?_)
    exact⟨.inl rfl,_,rfl,rfl⟩
   |cons r t=>
    rw[decide_eq_false (fun e=>by cases e)];have h3:(r::t).length=t.length+1:=rfl;repeat (first|refine wg rfl (sL h2) ?_|refine wg rfl (sL (w9 _)) ?_|refine wv ?_|refine wg rfl cF ?_|refine wg rfl (jE rfl rfl rfl rfl (rfl) rfl) ?_|refine wz ?_)
    exact⟨.inl rfl,_,rfl,rfl⟩
theorem num_v(e:Int):wG Tryz.prog 7 [.int .i64 e] (fun y=>y=.int .i64 e):=by
 refine wD wE Tryz.func7 rfl rfl rfl rfl fun w0=>?_;repeat (first|refine wv ?_|refine wz ?_)
 exact⟨.inl rfl,_,rfl,rfl⟩
end Go.Proofs.YtdcjmnfngabhoaaGreat
