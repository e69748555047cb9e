/- bareiss: the parts that only look: whole, down's question, slices.IndexFunc and slices.Clone. -/
import Derived.Test.YtdcjmnfngabhoaaGreatCc19
import Derived.Test.YtdcjmnfngabhoaaGreatCc02
import Derived.Test.YtdcjmnfngabhoaaGreatCc17
set_option linter.all false
set_option maxRecDepth 20000
set_option maxHeartbeats 6400000
namespace Go.Proofs.YtdcjmnfngabhoaaGreat
open Go.RowKit Go.Ev Go.Vl
def zO(r:List Int):List (List V):=r.map fun x=>zrow (zn x)
theorem vE(r:List Int):(zO r).length=r.length:=pH ..
theorem wIE{r:List Int}{j:Nat}{x:Int}(h:r[j]? = some x):(zO r)[j]? = some [.bool (zn x).1,vL (zn x).2]:=by unfold zO;rw[pJ,h];rfl
def jA(R:List (List Int)):List (List V):=R.map fun r=>[V.list (zO r)]
theorem wOC(R:List (List Int)):(jA R).length=R.length:=pH ..
theorem wSD{R:List (List Int)}{j:Nat}{r:List Int}(h:R[j]? = some r):(jA R)[j]? = some [.list (zO r)]:=by unfold jA;rw[pJ,h];rfl
def okI(x:Int):Prop:=lm x≤274877906944
theorem wN0{x:Int}(h:okI x):okZ (zn x):=wCJ x (by unfold okI lm at h;omega)
theorem whole_v(a b q:Int)(ha:okI a)(hb:okI b)(h0:b≠0)(h:a=q*b):wG Tryz.prog 150 [.agg [.bool (zn a).1,vL (zn a).2],.agg [.bool (zn b).1,vL (zn b).2]] (fun y=>y=nI q):=by
 refine wD wE Tryz.func150 rfl rfl rfl rfl fun w0=>?_;have q1:=wAD (zn a) (zn b) (wN0 ha) (wN0 hb) (by rw[wF];exact h0) (by rw[wF,wF];exact⟨q,by rw[h,pG5]⟩);rw[wF,wF,h,Int.mul_tdiv_cancel _ h0]at q1;subst h;generalize zn (q*b)=za at *
 generalize zn b=zb at *
 obtain⟨x,l⟩:=za;obtain⟨y,k⟩:=zb;dsimp only;unfold nI vI at q1 ⊢;repeat (first|refine wv ?_|refine wg rfl nF ?_|refine wc q1 ?_|refine wz ?_)
 exact⟨.inl rfl,_,rfl,rfl⟩
theorem down1_v(r:List Int)(c:Nat)(hc:c<r.length)(hr:∀x∈r,okI x):wG Tryz.prog 98 [.list (zO r),.ref [.int .i64 (c:Nat)]] (fun y=>y=.bool (!(r.getD c 0==0))):=by
 refine wD wE Tryz.func98 rfl rfl rfl rfl fun w0=>?_;obtain⟨x,hx⟩:∃x,r[c]? = some x:=⟨_,pG hc⟩
 have hg:=wIE hx;have q1:=wEA (zn x) (wN0 (hr x (pF hx)));rw[wF]at q1;have hs:=wAI x;have hd:r.getD c 0=x:=by rw[pE,hx];rfl
 rw[hd];generalize zn x=z at *
 obtain⟨s,l⟩:=z;dsimp only at hg;unfold vI at q1;by_cases h0:x=0
 ·have hs0:sgn x=0:=by omega
  rw[hs0]at q1;repeat (first|refine wv ?_|refine wg rfl nF ?_|refine wg rfl (sX c hg) ?_|refine wc q1 ?_|refine wz ?_)
  exact⟨.inl rfl,_,rfl,by rw[h0];rfl⟩
 ·have hs0:sgn x≠0:=by omega
  generalize sgn x=sx at *
  repeat (first|refine wv ?_|refine wg rfl nT ?_|refine wg rfl (sX c hg) ?_|refine wc q1 ?_|refine wz ?_)
  exact⟨.inl rfl,_,rfl,by simp[h0]⟩
theorem kE{w0:Base}{n:Nat}{st:St}{o:Oper}{x:Operand}{d off:Nat}{u:Value}(hop:o.op=.move x)(hx:opv (lk st) x=some (.rp d u off))(hd:dLt n o.dst=true):wM Tryz.prog w0 n o (rdO x++[2*d+1]) (dput o.dst (some (.sv (.rp d u off)))) [] (lk st):=
 fun f hf hn=>wS7 hop hx rfl hd f (fun j hj=>hf j (cB _ hj)) hn
def wOJ(R:List (List Int))(c:Nat):Int:=if R.findIdx (fun r=>!(r.getD c 0==0))<R.length then(R.findIdx (fun r=>!(r.getD c 0==0)):Nat)else -1
theorem qEI(R:List (List Int))(c:Nat)(hl:R.length≤1099511627776)(hc:∀r∈R,c<r.length∧∀x∈r,okI x):wG Tryz.prog 97 [.list (jA R),.clo 98 [] [.ref [.int .i64 (c:Nat)]]] (fun y=>y=.int .i64 (wOJ R c)):=by
 refine wD wE Tryz.func97 rfl rfl rfl rfl fun w0=>?_;have hlen:=wOC R;obtain⟨F,hF⟩:∃F,wOJ R c=F:=⟨_,rfl⟩
 rw[hF];repeat (first|refine wg rfl (sL hlen) ?_|refine wv ?_|refine wz ?_)
 refine wP (fun i:Nat=>[(0,some (.sv (.v (.list (jA R))))),(2,some (.sv (.v (.clo 98 [] [.ref [.int .i64 (c:Nat)]])))),(14,some (.sv (.v (.int .i64 (R.length:Nat))))),(16,some (.sv (.v (.int .i64 (i:Nat)))))])
  (fun i=>i≤R.length∧∀k,k<i→∀r,R[k]? = some r→r.getD c 0=0) (fun i=>R.length-i) 0 (fun _=>rfl) ⟨pN _,fun k hk=>by omega⟩ ⟨rfl,rfl,rfl,rfl,trivial⟩ fun i hI=>?_
 obtain⟨h1,h2⟩:=hI;rcases pK i R.length with hi|hi
 ·obtain⟨r,hr⟩:∃r,R[i]? = some r:=⟨_,pG hi⟩
  have hg:=wSD hr;obtain⟨c1,c2⟩:=hc r (pF hr);have q1:=down1_v r c c1 c2;by_cases h0:r.getD c 0=0
  ·rw[show(!(r.getD c 0==0))=false by rw[h0];rfl]at q1;repeat (first|refine wv ?_|refine wg rfl cT ?_|refine wg rfl sB ?_|refine wg rfl (sX i hg) ?_|refine wc q1 ?_|refine wz ?_)
   exact⟨i+1,⟨hi,fun k hk r' hr'=>by
    by_cases e:k=i
    ·subst e;rw[hr]at hr';cases hr';exact h0
    ·exact h2 k (by omega) r' hr'⟩,by omega,rfl,rfl,rfl,rfl,trivial⟩
  ·rw[show(!(r.getD c 0==0))=true by simpa using h0]at q1;have hFi:F=(i:Nat):=by
    have hp:R.findIdx (fun r=>!(r.getD c 0==0))=i:=by
     rw[List.findIdx_eq hi];obtain⟨_,rfl⟩:=pI.1 hr;refine⟨by simpa using h0,fun k hk=>?_⟩;have hkl:k<R.length:=by omega
     have:=h2 k hk R[k] (pG hkl);rw[this];rfl
    rw[←hF];unfold wOJ;rw[hp,if_pos hi]
   subst hFi;repeat (first|refine wv ?_|refine wg rfl cT ?_|refine wg rfl (sX i hg) ?_|refine wc q1 ?_|refine wz ?_)
   exact⟨.inl rfl,_,rfl,rfl⟩
 ·have hFi:F = -1:=by
   rw[←hF];unfold wOJ;rw[if_neg];intro hlt;have:=pD5 (w:=hlt);have h3:=h2 _ (by omega) _ (pG hlt);rw[h3]at this;cases this
  subst hFi;repeat (first|refine wv ?_|refine wg rfl cF ?_|refine wz ?_)
  exact⟨.inl rfl,_,rfl,rfl⟩
theorem sem_nilF{w0:Base}{n:Nat}{st:St}{o:Oper}{t yt elem:TypeId}{x:Operand}{e:List V}{l:List (List V)}(hop:o.op=.binOp .eql t x (.const (.slice none 0 0)) yt)(hx:opv (lk st) x=some (.v (.list (e::l))))(ht:qJ.und t=some (.slice elem))(hd:dLt n o.dst=true):wM Tryz.prog w0 n o (rdO x) (dput o.dst (some (.sv (.v (.bool false))))) [] (lk st):=
 qE hd fun f hf β a w hb=>by
  have e1:=hb.val (x:=x) (y:=.list (e::l)) (by rw[wJ hf];exact hx);have hr:∀p m c,(binOp BinOp.eql t (.slice (some p) m c) (.slice none 0 0)).run Tryz.prog w=.ok (.bool false) w:=fun p m c=>by
   have h2:(Op.equalIn (9999+1) t (.slice (some p) m c) (.slice none 0 0)).run Tryz.prog w=.ok false w:=by rw[Op.equalIn,Sem.run_bind,wO wE ht];rfl
   show(do pure (Value.bool (←Op.equal t (.slice (some p) m c) (.slice none 0 0))):Sem Value).run Tryz.prog w=_;unfold Op.equal;rw[Sem.run_bind,show Op.maxDepth=9999+1 from rfl,h2];rfl
  have hg:∀p m c,(eqGuard .eql t x (.const (.slice none 0 0)) (.slice (some p) m c) (.slice none 0 0)).run Tryz.prog w=.ok () w:=fun p m c=>rfl;generalize hu:a.eval x=u at e1;cases e1 with
  |list _ _ _ _ _ _=>refine⟨.bool false,?_,.bool _⟩;simp only[execOp,hop,hu,show a.eval (.const (.slice none 0 0))=.slice none 0 0 from rfl];rw[Sem.run_bind,Sem.run_bind,hg,Result.andThen_ok,hr];rfl
theorem cloneI_v(es:List (List V))(he:∀e∈es,e.length=2)(hl:es.length≤1099511627776)(hne:es≠[]):wC8 Tryz.prog 96 [.list es] 25 2 es:=by
 refine wCC Tryz.func96 rfl rfl rfl rfl fun w0=>?_;obtain⟨e,l,rfl⟩:=List.exists_cons_of_ne_nil hne;have hs:[]++(e::l)=e::l:=rfl;have hll:(e::l).length=l.length+1:=rfl;repeat (first|refine wv ?_|refine wg rfl (sem_nilF rfl rfl rfl rfl) ?_|refine wg rfl (qZ (id:=1) (es:=[]) (es2:=e::l) (m:=2) (bb:=32) wE rfl rfl rfl rfl rfl rfl rfl rfl rfl rfl rfl he rfl (by simp only[maxLen,List.length_nil];omega) (by simp only[List.length_nil];omega) rfl rfl hs) ?_|refine wz ?_)
 exact⟨.inl rfl,_,_,rfl⟩
def k9(hs:List Value)(R:List (List Int)):List (Value×List (List V)):=List.zipWith (fun h r=>(h,zO r)) hs R
def zC(hs:List Value):List (List V):=hs.map fun h=>[V.raw h]
def vJ(p:List Nat):List (List V):=p.map fun c=>[V.int .i64 (c:Nat)]
def boxW(hu:Value)(cols:Nat)(d:Int)(pu:Value)(sw:Nat):List SV:=[.v (.raw hu),.v (.int .i64 (cols:Nat)),.v (.bool (zn d).1),.v (vL (zn d).2),.v (.raw pu),.v (.int .i64 (sw:Nat))]
def fragW(hu pu:Value)(hs:List Value)(cols:Nat)(s:Dt.BS):St:=[(401,some (.bx (boxW hu cols s.last pu s.swaps))),(403,some (.fam 59 1 [(hu,zC hs)])),(405,some (.fam 25 2 (k9 hs s.rows))),(407,some (.fam 3 1 [(pu,vJ s.piv)]))]
theorem kF(hs:List Value):(zC hs).length=hs.length:=pH ..
theorem vY{hs:List Value}{i:Nat}{h:Value}(e:hs[i]? = some h):(zC hs)[i]? = some [.raw h]:=by unfold zC;rw[pJ,e];rfl
theorem wFC{hs:List Value}{R:List (List Int)}{i:Nat}{h:Value}{r:List Int}(e:hs[i]? = some h)(e2:R[i]? = some r):(k9 hs R)[i]? = some (h,zO r):=by unfold k9;rw[cD,e,e2]
theorem famI_set{hs:List Value}{R:List (List Int)}{i:Nat}{h:Value}{r:List Int}(e:hs[i]? = some h)(hi:i<R.length):(k9 hs R).set i (h,zO r)=k9 hs (R.set i r):=by
 have hh:=(pI.1 e).1;apply mB;intro j;unfold k9;rw[pX,cD,cD,pX];by_cases hj:i=j
 ·subst hj;rw[if_pos rfl,if_pos rfl,if_pos hi,if_pos (by simp;omega),e]
 ·rw[if_neg hj,if_neg hj]
theorem qDA(r:List Int)(j:Nat)(x:Int):(zO r).set j [.bool (zn x).1,vL (zn x).2]=zO (r.set j x):=by unfold zO;rw[gD];rfl
def j5(N R:List (List Int))(i:Nat):List (List Int):=N.take i++R.drop i
def wJB(n r:List Int)(j:Nat):List Int:=n.take j++r.drop j
theorem wJ0{α:Type}{n r:List α}(h:n.length=r.length)(j:Nat):(n.take j++r.drop j).length=r.length:=by simp;omega
theorem jR{α:Type}{n r:List α}(h:n.length=r.length){j q:Nat}:(n.take j++r.drop j)[q]? = if q<j then n[q]? else r[q]?:=by
 rcases pK q (n.take j).length with hq|hq
 ·rw[cE hq,mQ];simp only[List.length_take]at hq;rw[if_pos (by omega),if_pos (by omega)]
 ·rw[mI hq,cW];simp only[List.length_take]at hq ⊢;by_cases hj:q<j
  ·rw[if_pos hj,pW (by omega),pW (by omega)]
  ·rw[if_neg hj];by_cases hjn:j≤n.length
   ·rw[show j+(q-min j n.length)=q by omega]
   ·rw[pW (by omega),pW (by omega)]
theorem wDF{α:Type}{n r:List α}(h:n.length=r.length){j:Nat}{x:α}(hx:n[j]? = some x):(n.take j++r.drop j).set j x=n.take (j+1)++r.drop (j+1):=by
 have hj:=(pI.1 hx).1;apply mB;intro q;rw[pX,jR h,jR h,wJ0 h];by_cases hq:j=q
 ·subst hq;rw[if_pos rfl,if_pos (by omega),if_pos (by omega),hx]
 ·rw[if_neg hq];by_cases h1:q<j
  ·rw[if_pos h1,if_pos (by omega)]
  ·rw[if_neg h1,if_neg (by omega)]
theorem step_m(r hu pu:Value)(hs:List Value)(cols:Nat)(s:Dt.BS)(k c m:Nat)(hk:k<s.rows.length)(hc:c<m)(hw:Dt.wide m s.rows)(hhl:hs.length=s.rows.length)(hnl:s.rows.length≤1048576)(hml:m≤1048576)(h0:s.last≠0)(hex:∀i,i≠k→∀j,∃q,Dt.ent s.rows i j*Dt.ent s.rows k c-Dt.ent s.rows k j*Dt.ent s.rows i c=q*s.last)(hlm:∀i j,lm (Dt.ent s.rows i j)≤34359738368)(hlast:lm s.last≤34359738368) :
  wO1 Tryz.prog 99 [.rp 200 r 0,.v (.int .i64 (k:Nat)),.v (.int .i64 (c:Nat)),.v (.int .i64 0)] [401,403,405,407] (fragW hu pu hs cols s)
   (fun x F=>x=.v (.tup [])∧F=fragW hu pu hs cols ⟨Dt.stepL k c s.last s.rows,Dt.ent s.rows k c,s.piv,s.swaps⟩):=by
 refine wCD Tryz.func99 rfl rfl rfl rfl rfl rfl rfl fun w0 _ _=>?_;obtain⟨R,d,pv,sw⟩:=s;dsimp only at *
 unfold fragW;dsimp only;obtain⟨hk1,ehk⟩:∃h,hs[k]? = some h:=⟨_,pG (by omega)⟩
 obtain⟨rk,erk⟩:∃x,R[k]? = some x:=⟨_,pG hk⟩
 have hrkm:rk.length=m:=hw _ (pF erk);obtain⟨p,ep⟩:∃x,rk[c]? = some x:=⟨_,pG (by omega)⟩
 have hentk:∀j x,rk[j]? = some x→Dt.ent R k j=x:=fun j x h=>by
  unfold Dt.ent;have e1:R.getD k []=rk:=by rw[pE,erk];rfl
  rw[e1,pE,h];rfl
 have hpe:=hentk c p ep;rw[hpe]at hex ⊢;have g1:k<(zC hs).length:=by rw[kF];omega
 have g2:=vY ehk;have g3:=wFC ehk erk;have g4:c<(zO rk).length:=by rw[vE];omega
 have g5:=wIE ep;have glen:(zC hs).length=R.length:=by rw[kF];exact hhl
 obtain⟨NR,hNR⟩:∃N,Dt.stepL k c d R=N:=⟨_,rfl⟩
 have hNl:NR.length=R.length:=by rw[←hNR];exact Dt.step_len ..
 rw[hNR];repeat (first|refine wv ?_|refine wg rfl (wV (j:=201) (r:=0) (i:=k) wE rfl rfl rfl rfl rfl rfl rfl rfl g1 rfl) ?_|refine wg rfl (qV (j:=201) (r:=0) wE rfl rfl rfl rfl g2 rfl rfl rfl) ?_|refine wg rfl (wV (j:=202) (r:=k) (i:=c) wE rfl rfl rfl rfl rfl rfl rfl g3 g4 rfl) ?_|refine wg rfl (zG (j:=202) (r:=k) wE rfl rfl rfl g3 g5 rfl rfl (pC _) rfl rfl) ?_|refine wz ?_)
 have hNat:∀i ri,R[i]? = some ri→NR[i]? = some (if i=k then ri else Dt.stepRow p (Dt.ent R i c) d rk ri):=fun i ri h=>by rw[←hNR];unfold Dt.stepL;rw[fE,h,hpe,show R.getD k []=rk by rw[pE,erk];rfl];rfl
 have hNk:NR[k]? = some rk:=by rw[hNat k rk erk,if_pos rfl]
 have hmixk:j5 NR R (k+1)=j5 NR R k:=by
  unfold j5;apply mB;intro q;rw[jR hNl,jR hNl];by_cases hq:q=k
  ·subst hq;rw[if_pos (by omega),if_neg (by omega),hNk,erk]
  ·by_cases h1:q<k
   ·rw[if_pos (by omega),if_pos h1]
   ·rw[if_neg (by omega),if_neg h1]
 have hmix0:j5 NR R 0=R:=by unfold j5;simp
 refine wP (fun i:Nat=>[(0,some (.sv (.rp 200 r 0))),(2,some (.sv (.v (.int .i64 (k:Nat))))),(4,some (.sv (.v (.int .i64 (c:Nat))))),(16,some (.sv (.bx 8 0))),(17,some (.bx [.v (.bool (zn p).1),.v (vL (zn p).2)])),(18,some (.sv (.v (.int .i64 (i:Nat))))),
   (401,some (.bx (boxW hu cols d pu sw))),(403,some (.fam 59 1 [(hu,zC hs)])),(405,some (.fam 25 2 (k9 hs (j5 NR R i)))),(407,some (.fam 3 1 [(pu,vJ pv)]))])
  (fun i=>i≤R.length) (fun i=>R.length-i) 0 (fun _=>rfl) (pN _) ⟨rfl,rfl,rfl,rfl,rfl,rfl,rfl,rfl,by rw[hmix0];rfl,rfl,trivial⟩ fun i hI=>?_
 rcases pK i R.length with hi|hi
 ·by_cases hik:i=k
  ·subst hik;repeat (first|refine wg rfl (qG (j:=201) (r:=0) wE rfl rfl rfl rfl rfl rfl rfl rfl glen rfl) ?_|refine wv ?_|refine wg rfl cT ?_|refine wg rfl sB ?_|refine wz ?_)
   exact⟨i+1,hi,by omega,rfl,rfl,rfl,rfl,rfl,rfl,rfl,rfl,by rw[hmixk];rfl,rfl,trivial⟩
  ·obtain⟨h1,eh1⟩:∃h,hs[i]? = some h:=⟨_,pG (by omega)⟩
   obtain⟨ri,eri⟩:∃x,R[i]? = some x:=⟨_,pG hi⟩
   have hrim:ri.length=m:=hw _ (pF eri);obtain⟨f,ef⟩:∃x,ri[c]? = some x:=⟨_,pG (by omega)⟩
   have henti:∀j x,ri[j]? = some x→Dt.ent R i j=x:=fun j x h=>by
    unfold Dt.ent;have e1:R.getD i []=ri:=by rw[pE,eri];rfl
    rw[e1,pE,h];rfl
   have hfe:=henti c f ef;have hni:=hNat i ri eri;rw[if_neg hik,hfe]at hni;obtain⟨nri,hnri⟩:∃N,Dt.stepRow p f d rk ri=N:=⟨_,rfl⟩
   rw[hnri]at hni;have hnl:nri.length=ri.length:=by rw[←hnri];unfold Dt.stepRow;rw[dL];omega
   have hTi:(j5 NR R i)[i]? = some ri:=by unfold j5;rw[jR hNl,if_neg (by omega),eri]
   have hTk:(j5 NR R i)[k]? = some rk:=by
    unfold j5;rw[jR hNl];split
    ·exact hNk
    ·exact erk
   have hTl:(j5 NR R i).length=R.length:=by unfold j5;exact wJ0 hNl i
   have a1:i<(zC hs).length:=by rw[kF];omega
   have a2:=vY eh1;have a3:=wFC eh1 hTi;have a4:c<(zO ri).length:=by rw[vE];omega
   have a5:=wIE ef;have alen:(zO ri).length=m:=by rw[vE];exact hrim
   repeat (first|refine wg rfl (qG (j:=201) (r:=0) wE rfl rfl rfl rfl rfl rfl rfl rfl glen rfl) ?_|refine wg rfl (wV (j:=201) (r:=0) (i:=i) wE rfl rfl rfl rfl rfl rfl rfl rfl a1 rfl) ?_|refine wg rfl (qV (j:=201) (r:=0) wE rfl rfl rfl rfl a2 rfl rfl rfl) ?_|refine wg rfl (wV (j:=202) (r:=i) (i:=c) wE rfl rfl rfl rfl rfl rfl rfl a3 a4 rfl) ?_|refine wg rfl (zG (j:=202) (r:=i) wE rfl rfl rfl a3 a5 rfl rfl (pC _) rfl rfl) ?_|refine wg rfl (qG (j:=202) (r:=i) wE rfl rfl rfl rfl rfl rfl rfl a3 alen rfl) ?_|refine wv ?_|refine wg rfl cT ?_|refine wg rfl cF ?_|refine wz ?_)
   have hT0:(j5 NR R i).set i (wJB nri ri 0)=j5 NR R i:=by
    apply mB;intro q;rw[pX];by_cases hq:i=q
    ·subst hq;rw[if_pos rfl,if_pos (by omega),hTi];unfold wJB;simp
    ·rw[if_neg hq]
   have hTm:(j5 NR R i).set i (wJB nri ri m)=j5 NR R (i+1):=by
    have e1:wJB nri ri m=nri:=by unfold wJB;rw[pR (by omega),mA (by omega),bN]
    rw[e1];exact wDF hNl hni
   refine wP (fun j:Nat=>[(0,some (.sv (.rp 200 r 0))),(2,some (.sv (.v (.int .i64 (k:Nat))))),(4,some (.sv (.v (.int .i64 (c:Nat))))),(16,some (.sv (.bx 8 0))),(17,some (.bx [.v (.bool (zn p).1),.v (vL (zn p).2)])),(18,some (.sv (.v (.int .i64 (i:Nat))))),
     (20,some (.sv (.bx 10 0))),(21,some (.bx [.v (.bool (zn f).1),.v (vL (zn f).2)])),(104,some (.sv (.v (.int .i64 (m:Nat))))),(106,some (.sv (.v (.int .i64 (j:Nat))))),
     (401,some (.bx (boxW hu cols d pu sw))),(403,some (.fam 59 1 [(hu,zC hs)])),(405,some (.fam 25 2 (k9 hs ((j5 NR R i).set i (wJB nri ri j))))),(407,some (.fam 3 1 [(pu,vJ pv)]))])
    (fun j=>j≤m) (fun j=>m-j) 0 (fun _=>rfl) (pN _) ⟨rfl,rfl,rfl,rfl,rfl,rfl,rfl,rfl,rfl,rfl,rfl,rfl,by rw[hT0];rfl,rfl,trivial⟩ fun j hJ=>?_
   rcases pK j m with hj|hj
   ·obtain⟨x1,ex1⟩:∃x,ri[j]? = some x:=⟨_,pG (by omega)⟩
    obtain⟨y1,ey1⟩:∃x,rk[j]? = some x:=⟨_,pG (by omega)⟩
    obtain⟨q,hq⟩:=hex i hik j;rw[henti j x1 ex1,hentk j y1 ey1,hfe]at hq;have l1:=hlm i j;have l2:=hlm k j;have l3:=hlm i c;have l4:=hlm k c;rw[henti j x1 ex1]at l1;rw[hentk j y1 ey1]at l2;rw[hfe]at l3;rw[hpe]at l4;have l5:=jN x1 p;have l6:=jN y1 f;have l7:lm (x1*p-y1*f)≤68719476737:=by rw[Int.sub_eq_add_neg];exact lm_add _ _ 68719476736 (by omega) (by rw[lm_neg];omega)
    have q1:=wYD (zn x1) (zn p) (wN0 (by unfold okI;omega)) (wN0 (by unfold okI;omega));have q2:=wYD (zn y1) (zn f) (wN0 (by unfold okI;omega)) (wN0 (by unfold okI;omega));have q3:=zsub_v (zn (x1*p)) (zn (y1*f)) (wN0 (by unfold okI;omega)) (wN0 (by unfold okI;omega));have q4:=whole_v (x1*p-y1*f) d q (by unfold okI;omega) (by unfold okI;omega) h0 hq;rw[wF,wF]at q1 q2 q3;have hnj:nri[j]? = some q:=by rw[←hnri];unfold Dt.stepRow;rw[cD,ex1,ey1];show some ((x1*p-y1*f)/d)=_;rw[hq,pE5 _ h0]
    have b1:((j5 NR R i).set i (wJB nri ri j))[i]? = some (wJB nri ri j):=by rw[pX,if_pos rfl,if_pos (by omega)]
    have b2:((j5 NR R i).set i (wJB nri ri j))[k]? = some rk:=by rw[pX,if_neg hik];exact hTk
    have c1:=wFC eh1 b1;have c2:=wFC ehk b2;have c3:(wJB nri ri j)[j]? = some x1:=by unfold wJB;rw[jR hnl,if_neg (by omega)];exact ex1
    have c4:=wIE c3;have c5:=wIE ey1;have c6:j<(zO (wJB nri ri j)).length:=by rw[vE];exact(pI.1 c3).1
    have c7:j<(zO rk).length:=by rw[vE];omega
    have c8:(k9 hs ((j5 NR R i).set i (wJB nri ri j))).set i (h1,(zO (wJB nri ri j)).set j [.bool (zn q).1,vL (zn q).2])=k9 hs ((j5 NR R i).set i (wJB nri ri (j+1))):=by rw[qDA,famI_set eh1 (by rw[cL];omega),pH1];unfold wJB;rw[wDF hnl hnj]
    repeat (first|refine wg rfl (kE rfl rfl rfl) ?_|refine wg rfl (wV (j:=201) (r:=0) (i:=i) wE rfl rfl rfl rfl rfl rfl rfl rfl a1 rfl) ?_|refine wg rfl (wV (j:=201) (r:=0) (i:=k) wE rfl rfl rfl rfl rfl rfl rfl rfl g1 rfl) ?_|refine wg rfl (qV (j:=201) (r:=0) wE rfl rfl rfl rfl a2 rfl rfl rfl) ?_|refine wg rfl (qV (j:=201) (r:=0) wE rfl rfl rfl rfl g2 rfl rfl rfl) ?_|refine wg rfl (wV (j:=202) (r:=i) (i:=j) wE rfl rfl rfl rfl rfl rfl rfl c1 c6 rfl) ?_|refine wg rfl (wV (j:=202) (r:=k) (i:=j) wE rfl rfl rfl rfl rfl rfl rfl c2 c7 rfl) ?_|refine wg rfl (zG (j:=202) (r:=i) wE rfl rfl rfl c1 c4 rfl rfl (pC _) rfl rfl) ?_|refine wg rfl (zG (j:=202) (r:=k) wE rfl rfl rfl c2 c5 rfl rfl (pC _) rfl rfl) ?_|refine wc q1 ?_|refine wc q2 ?_|refine wc q3 ?_|refine wc q4 ?_|refine wg rfl (kM (j:=202) (r:=i) wE rfl rfl rfl c1 c4 rfl rfl rfl rfl (pC _) rfl c8) ?_|refine wv ?_|refine wg rfl cT ?_|refine wg rfl sB ?_|refine wz ?_)
    exact⟨j+1,hj,by omega,rfl,rfl,rfl,rfl,rfl,rfl,rfl,rfl,rfl,rfl,rfl,rfl,rfl,rfl,trivial⟩
   ·obtain rfl:j=m:=by omega
    rw[hTm];repeat (first|refine wv ?_|refine wg rfl cF ?_|refine wg rfl sB ?_|refine wz ?_)
    exact⟨i+1,hi,by omega,rfl,rfl,rfl,rfl,rfl,rfl,rfl,rfl,rfl,rfl,trivial⟩
 ·obtain rfl:i=R.length:=by omega
  have hmixn:j5 NR R R.length=NR:=by unfold j5;rw[pR (by omega),mA (pC _),bN]
  rw[hmixn];repeat (first|refine wg rfl (qG (j:=201) (r:=0) wE rfl rfl rfl rfl rfl rfl rfl rfl glen rfl) ?_|refine wv ?_|refine wg rfl cF ?_|refine wz ?_)
  exact⟨.inr rfl,_,_,rfl,rfl,⟨rfl,rfl⟩,fun K c' e=>wI9 (by exact And.intro rfl (And.intro rfl (And.intro rfl (And.intro rfl trivial)))) e,rfl,rfl,⟨rfl,trivial⟩⟩
end Go.Proofs.YtdcjmnfngabhoaaGreat
/- (*bareiss.work).down: column by column. -/
namespace Go.Vl
open Go.RowKit Go.Ev
section
variable{P:Program}{C:Cx}{w0:Base}{n:Nat}{st:St}{o:Oper}{Q:kS}{ops:Array Oper}
theorem wGE(hC:CxOk P C){rdX:List Nat}{k:Call}{x:Operand}{g:FuncId}{fn:Func}{xs:List V}{y y':V}(hop:o.op=.call k)(hk:k.callee=.value x)(hx:opv (lk st) x=some (.v (.clo g [] [])))(hfn:C.fns.get g=some fn)(hargs:∀f,(∀j∈rdX,f j=lk st j)→∀β a w,HB w0 n β f a w→RepL (fun _=>True) w xs (k.args.toList.map a.eval))(hcall:wG P g xs (fun z=>z=y))(hy:y=y')(hsc:scal y'=true)(hd:dLt n o.dst=true):wM P w0 n o (rdO x++rdX) (dput o.dst (some (.sv (.v y')))) [] (lk st):=by
 subst hy;intro f hf _ a w ⟨β,hh⟩ K Q hK;obtain⟨h1,h2⟩:=qQ hf;have e1:=hh.val (x:=x) (y:=.clo g [] []) (by rw[wJ h1];exact hx);generalize hu:a.eval x=u at e1;cases e1 with
 | @clo _ _ _ us vs hfs hcs=>
  cases hfs;cases hcs;obtain⟨hf1,hf2⟩:=hC.fns g fn hfn;have hrun:(execOp a.eval o).run P w=.ok (.enter g (k.args.toList.map a.eval).toArray) w:=by
   have hm:((#[]:Array Value)++k.args.map a.eval)++#[]=(k.args.toList.map a.eval).toArray:=by apply dN;simp
   simp only[execOp,hop,resolve,hk,hu,Deferred.ofValue,Sem.run_bind,Sem.run_pure,Result.andThen_ok,invoke];rw[show([]:List Value).toArray=#[]from rfl,hm];exact hf2 _ _
  unfold Oper.wp;rw[hrun,Oper.upon_enter];refine Calls.mono (hcall (fun _=>True) w _ (hargs f h2 β a w hh)) ?_;rintro e w' ⟨v,z,rfl,rfl,hr,hb⟩;have hr':∀S:Nat→Prop,Rep S w' z v:=fun S=>by cases z<;>first|(cases hsc;done)|(cases hr;first|exact .bool _|exact .int _ _)
  exact hK _ _ ⟨β,(hh.grow hb).dput hd rfl (x:=.v z) (u:=v) fun K=>hr' _⟩
theorem wP9{dr:Bool}(ri j:Nat){k:Nat}{T:TypeId}{L:List (Value×List (List V))}(L':List (Value×List (List V)))(hj:lk st (2*j+1)=some (.fam T k L))(hp:L.Perm L')(h:RR P w0 n ri ops dr Q ((2*j+1,some (.fam T k L'))::st) 0 [] ((2*j+1,some (.fam T k L'))::st)):VW P w0 n (.region ri ops dr) Q st:=vw_famPerm j L' hj hp (wA7 h)
theorem wGB(ri:Nat)(Z:Type)[Nonempty Z](E:List Nat)(h:RZ (Z:=Z) P w0 n ri ops E Q st 0 (fun _=>[]) (fun _=>st)):VW P w0 n (.region ri ops true) Q st:=wRF Z E h
theorem vZ.ghost{Z:Type}{q0:Nat}{rd rd2:List Nat}{nw:List (Nat×Nat)}{u:Z→St}{g:St}(hg:wA6 w0 n rd2 g (lk st))(hn:wC2 g=true)(h:vZ P w0 n ops q0 rd nw u (lk (g++st))):vZ P w0 n ops q0 (rd++rd2) nw (fun z=>u z++g) (lk st):=by intro f hf hmk a w hh K Q hK;rw[qD]at h;refine h (app g f) (fun k hk'=>wP7 g (hf k (cB _ hk'))) (fun K hK=>wX8 hn (hmk K hK)) a w (hg f (fun k hk=>hf k (cC _ hk)) a w hh) K Q fun z a' w' h'=>hK z a' w' ?_;dsimp only;rw[wLA];exact h'
end
end Go.Vl
namespace Go.Proofs.YtdcjmnfngabhoaaGreat
open Go.RowKit Go.Ev Go.Vl
theorem qCC{hs:List Value}{R:List (List Int)}(h:hs.length=R.length):wAH (k9 hs R)=jA R:=by
 unfold wAH k9 jA;apply mB;intro i;rw[pJ,cD,pJ];cases h1:hs[i]? with
 |none=>rw[pW (by have:=List.getElem?_eq_none_iff.1 h1;omega)];rfl
 |some a=>
  obtain⟨r,hr⟩:∃r,R[i]? = some r:=⟨_,pG (by have:=(pI.1 h1).1;omega)⟩
  rw[hr];rfl
theorem qF2{hs:List Value}{R:List (List Int)}(h:hs.length=R.length):hdr (k9 hs R)=zC hs:=by
 unfold hdr k9 zC;apply mB;intro i;rw[pJ,cD,pJ];cases h1:hs[i]? with
 |none=>rfl
 |some a=>
  obtain⟨r,hr⟩:∃r,R[i]? = some r:=⟨_,pG (by have:=(pI.1 h1).1;omega)⟩
  rw[hr];rfl
theorem wWE{α:Type}{l:List α}{i j:Nat}{x y:α}(hx:l[i]? = some x)(hy:l[j]? = some y):l.Perm ((l.set i y).set j x):=by
 induction l generalizing i j with
 |nil=>simp at hx
 | cons a l ih=>
  cases i with
  | zero=>
   simp at hx;subst hx;cases j with
   |zero=>simp at hy;subst hy;simp
   | succ j=>
    simp only[List.getElem?_cons_succ]at hy;simp only[List.set_cons_zero,List.set_cons_succ];have h1:=set_perm (x:=a) (pI.1 hy).1;have h2:=set_perm (x:=y) (pI.1 hy).1;have h3:l.set j y=l:=by
     apply mB;intro q;rw[pX];split
     ·rename_i e;subst e;rw[if_pos (pI.1 hy).1,hy]
     ·rfl
    rw[h3]at h2;exact((h2.symm.trans fV).cons a).trans ((List.Perm.swap y a _).trans ((fV.trans h1).cons y))
  | succ i=>
   simp only[List.getElem?_cons_succ]at hx;cases j with
   | zero=>
    simp at hy;subst hy;simp only[List.set_cons_zero,List.set_cons_succ];have h1:=set_perm (x:=a) (pI.1 hx).1;have h2:=set_perm (x:=x) (pI.1 hx).1;have h3:l.set i x=l:=by
     apply mB;intro q;rw[pX];split
     ·rename_i e;subst e;rw[if_pos (pI.1 hx).1,hx]
     ·rfl
    rw[h3]at h2;exact((h2.symm.trans fV).cons a).trans ((List.Perm.swap x a _).trans ((fV.trans h1).cons x))
   |succ j=>simp only[List.getElem?_cons_succ]at hy;simp only[List.set_cons_succ];exact(ih hx hy).cons a
theorem swap_famI{hs:List Value}{R:List (List Int)}{k a:Nat}{hk ha:Value}{rk ra:List Int}(e1:hs[k]? = some hk)(e2:hs[a]? = some ha)(e3:R[k]? = some rk)(e4:R[a]? = some ra):(k9 hs R).Perm (k9 ((hs.set k ha).set a hk) (Dt.swapL k a R)):=by
 have h1:=wWE (wFC e1 e3) (wFC e2 e4);have hkR:=(pI.1 e3).1;have haR:=(pI.1 e4).1;have h2:k9 ((hs.set k ha).set a hk) (Dt.swapL k a R)=((k9 hs R).set k (ha,zO ra)).set a (hk,zO rk):=by
  have d1:R.getD a []=ra:=by rw[pE,e4];rfl
  have d2:R.getD k []=rk:=by rw[pE,e3];rfl
  unfold Dt.swapL k9;rw[d1,d2];apply mB;intro q;simp only[List.getElem?_zipWith,List.getElem?_set,List.length_set,List.length_zipWith];have hkh:=(pI.1 e1).1;have hah:=(pI.1 e2).1;by_cases h1:a=q
  ·rw[if_pos h1,if_pos h1,if_pos h1,if_pos hah,if_pos haR,if_pos (by omega)]
  ·rw[if_neg h1,if_neg h1,if_neg h1];by_cases h2:k=q
   ·rw[if_pos h2,if_pos h2,if_pos h2,if_pos hkh,if_pos hkR,if_pos (by omega)]
   ·rw[if_neg h2,if_neg h2,if_neg h2]
 rw[h2];exact h1
theorem wHD(hs:List Value)(i:Nat)(h:Value):(zC hs).set i [.raw h]=zC (hs.set i h):=by unfold zC;rw[gD]
theorem wIH(p:List Nat)(c:Nat):vJ p++[[.int .i64 (c:Nat)]]=vJ (p++[c]):=by simp[vJ]
theorem wWD{k:Nat}{R:List (List Int)}(hk:k<R.length):Dt.swapL k k R=R:=by
 unfold Dt.swapL;rw[pH1];apply mB;intro q;rw[pX];split
 ·rename_i e;subst e;rw[pE,pG hk];simp[hk]
 ·rfl
theorem first_drop{k c:Nat}{R:List (List Int)}(hk:k<R.length):wOJ (R.drop k) c=if Dt.firstL k c R<R.length then((Dt.firstL k c R-k:Nat):Int)else -1:=by
 unfold wOJ Dt.firstL;rw[dM];generalize (List.findIdx (fun r=>!(r.getD c 0==0)) (R.drop k))=a;by_cases h:a<R.length-k
 ·rw[if_pos h,if_pos (by omega)];congr 1;omega
 ·rw[if_neg h,if_neg (by omega)]
theorem wUG{w0:Base}{n c k:Nat}{hu:Value}{hs:List Value}{R:List (List Int)}{st:St}(h1:hs.length=R.length)(hk:k<R.length)(e1:lk st 403=some (.fam 59 1 [(hu,zC hs)]))(e2:lk st 405=some (.fam 25 2 (k9 hs R)))(e3:lk st (2*31)=some (.sv (.v (.raw (cutS hu k 1)))))(e4:lk st (2*32)=some (.sv (.v (.clo 98 [] [.ref [.int .i64 (c:Nat)]])))):∀f:Fm,(∀j∈[403,405,2*31,2*32],f j=lk st j)→∀β a w,HB w0 n β f a w→RepL (fun _=>True) w [.list (jA (R.drop k)),.clo 98 [] [.ref [.int .i64 (c:Nat)]]] ([Operand.tmp 31,.tmp 32].map a.eval):=by intro f hf β a w hh;have f1:=(hf 403 (by simp)).trans e1;have f2:=(hf 405 (by simp)).trans e2;have f3:=(hf (2*31) (by simp)).trans e3;have f4:=(hf (2*32) (by simp)).trans e4;have g3:=wBJ (hh.slot 31 _ f3);have g4:=hh.slot 32 _ f4;rw[←qF2 h1]at f1;have hb:=hh.bor (j2:=201) (j:=202) (r:=0) (l:=k) f1 rfl f2 (by unfold k9;rw[dL];omega);rw[qCC h1]at hb;rw[show jA (R.drop k)=(jA R).drop k by unfold jA;rw[pG0]];refine .cons ?_ (.cons (Rep.mono g4 fun _ _ _=>trivial) .nil);show Rep _ w _ (a.tmps.getD 31 undef);rw[g3];exact hb
theorem down_m(r hu pu0:Value)(hs0:List Value)(n m:Nat)(O:List (List Int))(hOl:O.length=n)(hOw:Dt.wide m O)(hnm:n≤m)(hn:n≤1048576)(hm:m≤1048576)(hh:hs0.length=n)(B:Nat)(hB:1≤B)(hBO:∀i j,(Dt.ent O i j).natAbs≤B)(hbd:∀x:Int,x.natAbs≤((n+1)*B)^(n+1)→lm x≤34359738368) :
  wO1 Tryz.prog 55 [.rp 200 r 0,.v (.int .i64 (n:Nat)),.v (.bool true)] [401,403,405,407] (fragW hu pu0 hs0 n ⟨O,1,[],0⟩)
   (fun x F=>x=.v (.tup [])∧∃pu hs,hs.length=n∧F=fragW hu pu hs n (Dt.downB ⟨O,1,[],0⟩ n)):=by
 refine wCD Tryz.func55 rfl rfl rfl rfl rfl rfl rfl fun w0 _ _=>?_;have hG:=Dt.GoodL.start (n:=n) (m:=m) hOl hOw;have hLast:=Dt.downB_last O;have hSw:=Dt.downB_sw O;obtain⟨s0,hs0e⟩:∃s,(⟨O,1,[],0⟩:Dt.BS)=s:=⟨_,rfl⟩
 rw[hs0e]at hG hLast hSw ⊢;repeat (first|refine wv ?_|refine wz ?_)
 refine wP (fun b:Nat×List Value×Value×Dt.BS=>[(0,some (.sv (.rp 200 r 0))),(4,some (.sv (.v (.bool true)))),(20,some (.sv (.v (.int .i64 (n:Nat))))),(22,some (.sv (.v (.int .i64 (b.1:Nat))))),
   (401,some (.bx (boxW hu n b.2.2.2.last b.2.2.1 b.2.2.2.swaps))),(403,some (.fam 59 1 [(hu,zC b.2.1)])),(405,some (.fam 25 2 (k9 b.2.1 b.2.2.2.rows))),(407,some (.fam 3 1 [(b.2.2.1,vJ b.2.2.2.piv)]))])
  (fun b=>b.1≤n∧b.2.1.length=n∧b.2.2.2=Dt.downB s0 b.1) (fun b=>n-b.1) (0,hs0,pu0,s0) (fun _=>rfl) ⟨pN _,hh,rfl⟩ ⟨rfl,rfl,rfl,rfl,rfl,rfl,rfl,rfl,trivial⟩ fun⟨c,hs,pu,s⟩ hI=>?_
 obtain⟨h1,h2,h3⟩:=hI;dsimp only at h1 h2 h3 ⊢;have hg:=hG.down c;have hlast0:=hLast c;have hsw:=hSw c;rw[←h3]at hg hlast0 hsw;rcases pK c n with hc|hc
 ·have hnext:=Dt.downB_succ s0 c;rw[←h3]at hnext;clear h3;obtain⟨R,d,pv,sw⟩:=s;have hkn:=hg.lt hc;have hRl:=hg.len;have hw:=hg.wide;dsimp only at hkn hRl hw hlast0 hsw ⊢;have glen:(zC hs).length=n:=by rw[kF];exact h2
  have plen:(vJ pv).length=pv.length:=pH ..;have g1:pv.length<(zC hs).length:=by omega
  have hokR:∀i j,lm (Dt.ent R i j)≤34359738368:=fun i j=>by refine hbd _ (pD (hg.good.bound (B:=B) (N:=n+1) (by show pv.length+1≤n+1;omega) hB hBO i j) ?_);exact mT (gQ (by omega) hB) (by show pv.length+1≤n+1;omega)
  have q1:=qEI (R.drop pv.length) c (by rw[dM];omega) (fun r hr=>by have hr':=dF hr;refine⟨by rw[hw r hr'];omega,fun x hx=>?_⟩;obtain⟨i,hi⟩:=cK hr';obtain⟨j,hj⟩:=cK hx;have:=hokR i j;unfold Dt.ent at this;rw[show R.getD i []=r by rw[pE,hi];rfl,pE,hj]at this;show lm x≤_;exact pD this (by decide))
  rw[first_drop (by omega)]at q1;obtain⟨a,ha⟩:∃a,Dt.firstL pv.length c R=a:=⟨_,rfl⟩
  have hsp:=Dt.first_spec (k:=pv.length) (c:=c) (R:=R);rw[ha]at q1 hsp;have hcol:Dt.colB ⟨R,d,pv,sw⟩ c=if a<R.length then⟨Dt.stepL pv.length c d (Dt.swapL pv.length a R),Dt.ent (Dt.swapL pv.length a R) pv.length c,pv++[c],if a=pv.length then sw else sw+1⟩else⟨R,d,pv,sw⟩:=by unfold Dt.colB;dsimp only;rw[ha]
  by_cases hal:a<R.length
  ·rw[if_pos hal]at q1 hcol;obtain⟨hex,_⟩:=hg.pivot hsp.2.2 (by omega) (hsp.2.1 hal);dsimp only at hex;have hd0:d≠0:=hg.d0;have hdl:lm d≤34359738368:=by
    by_cases hp0:pv=[]
    ·have:=hlast0 hp0;rw[this];exact hbd 1 (cX (gQ (by omega) hB))
    ·obtain⟨i,j,e⟩:=hg.dlast hp0;have:=hokR i j;dsimp only at e;rw[e]at this;exact this
   obtain⟨a0,rfl⟩:∃a0,a=pv.length+a0:=⟨a-pv.length,by have:=hsp.2.2;omega⟩
   rw[gI]at q1;obtain⟨hk1,ehk⟩:∃h,hs[pv.length]? = some h:=⟨_,pG (by omega)⟩
   obtain⟨ha1,eha⟩:∃h,hs[pv.length+a0]? = some h:=⟨_,pG (by omega)⟩
   obtain⟨rk,erk⟩:∃x,R[pv.length]? = some x:=⟨_,pG (by omega)⟩
   obtain⟨ra,era⟩:∃x,R[pv.length+a0]? = some x:=⟨_,pG (by omega)⟩
   have hs63:∀z:Value,vJ pv++[[.int .i64 (c:Nat)]]=vJ (pv++[c]):=fun _=>wIH pv c;by_cases h0:a0=0
   ·subst h0;rw[cG,wWD (by omega),if_pos rfl]at hcol;rw[cG,wWD (by omega)]at hex;have q4:=step_m r hu pu hs n ⟨R,d,pv,sw⟩ pv.length c m (by show pv.length<R.length;omega) (by omega) hw (h2.trans hRl.symm) (by show R.length≤_;omega) hm hd0 hex hokR hdl;repeat (first|refine wK3 13 rfl ?_|(refine wGD wE rfl rfl rfl rfl rfl rfl rfl rfl q4 (And.intro rfl (And.intro rfl (And.intro rfl (And.intro rfl trivial)))) rfl rfl ?_;rintro _ _ ⟨rfl,rfl⟩)|refine sq_v wE rfl rfl rfl rfl ?_|refine wEH rfl ?_|refine wGB 14 Value [7] ?_|refine wg rfl (qG (j:=203) (r:=0) wE rfl rfl rfl rfl rfl rfl rfl rfl plen rfl) ?_|refine wg rfl (qG (j:=201) (r:=0) wE rfl rfl rfl rfl rfl rfl rfl rfl glen rfl) ?_|refine wg rfl (wF0 (j:=201) (r:=0) (l:=pv.length) wE rfl rfl rfl rfl rfl rfl rfl rfl g1 rfl) ?_|refine wg rfl (wGE wE rfl rfl rfl rfl (wUG (h2.trans hRl.symm) (by omega) rfl rfl rfl rfl) q1 rfl rfl rfl) ?_|refine wv ?_|refine wg rfl cT ?_|refine wg rfl cF ?_|refine wg rfl sB ?_|refine wx ?_|refine wz ?_)
    refine rz_g rfl rfl (fun _=>rfl) (fun _=>kE rfl rfl rfl) (fun _=>rfl) ?_;refine rz_g rfl rfl (fun _=>rfl) (fun _=>kE rfl rfl rfl) (fun _=>rfl) ?_
    iterate 5 (refine rz_v wE rfl rfl (fun _=>rfl) (fun _=>rfl) (fun _=>rfl) ?_)
    refine rz_z (rd:=[2*87,2*203+1]++rdO (.tmp 89)++[2*89]) (nw:=[(2*87,0),(2*90,0),(2*87,1),(2*90,1)]) (u:=fun _ v=>[(2*90,some (.sv (.v (.raw v)))),(2*203+1,some (.fam 3 1 ([(pu,vJ pv)].set 0 (v,vJ pv++[[.int .i64 (c:Nat)]])))),(2*87,none)]++[(2*89,some (.sv (.v (.list [[.int .i64 (c:Nat)]]))))]) rfl (fun ζ=>vZ.ghost (j6 (d:=89) rfl) rfl (y9 (gr:=[]) (s:=87) (y:=.tmp 89) (q:=90) (j:=203) (r:=0) (m:=1) (bb:=8) (L:=[(pu,vJ pv)]) (es:=vJ pv) (es2:=[[.int .i64 (c:Nat)]]) wE rfl rfl rfl rfl rfl rfl rfl rfl rfl rfl rfl rfl rfl rfl rfl rfl (by simp) (wKB _) rfl (by simp only[maxLen,List.length_singleton];omega) (by simp only[List.length_singleton];omega) rfl rfl (by decide))) (fun _ _=>rfl) (fun _=>rfl) ?_
    iterate 3 (refine rz_v wE rfl rfl (fun _=>rfl) (fun _=>rfl) (fun _=>rfl) ?_)
    (refine wQH wKG rfl rfl (fun _=>rfl) (And.intro (fun _ _=>rfl) trivial) (fun ζ=>?_);generalize ζ 7=z)
    repeat (first|refine wv ?_|refine wg rfl sB ?_|refine wz ?_)
    exact⟨(c+1,hs,z,⟨Dt.stepL pv.length c d R,Dt.ent R pv.length c,pv++[c],sw⟩),⟨hc,h2,by rw[hnext,hcol]⟩,by dsimp only;omega,rfl,rfl,rfl,rfl,rfl,rfl,rfl,by dsimp only;rw[←wIH];rfl,trivial⟩
   ·have hs1:((hs.set pv.length ha1).set (pv.length+a0) hk1).length=n:=by rw[cL,cL];exact h2
    have hkl:pv.length<R.length:=by omega
    have g2:=vY ehk;have g3:=vY eha;have g4:(zC (hs.set pv.length ha1))[pv.length+a0]? = some [.raw ha1]:=vY (by rw[pX,if_neg (by omega)];exact eha);have g5:pv.length+a0<(zC hs).length:=by omega
    have g6:pv.length+a0<(zC (hs.set pv.length ha1)).length:=by rw[kF,cL];omega
    have u1:[(hu,zC hs)].set 0 (hu,(zC hs).set pv.length (over [.raw hk1] 0 (V.raw ha1).cells))=[(hu,zC (hs.set pv.length ha1))]:=by rw[←wHD];rfl
    have u2:[(hu,zC (hs.set pv.length ha1))].set 0 (hu,(zC (hs.set pv.length ha1)).set (pv.length+a0) (over [.raw ha1] 0 (V.raw hk1).cells))=[(hu,zC ((hs.set pv.length ha1).set (pv.length+a0) hk1))]:=by rw[←wHD (hs.set pv.length ha1)];rfl
    rw[if_neg (by omega)]at hcol;have hpm:=swap_famI ehk eha erk era;have hadd:ewrap .i64 ((pv.length:Int)+(a0:Int))=((pv.length+a0:Nat):Int):=(wO5 (by omega) (by omega)).trans (by omega);have q4:=step_m r hu pu ((hs.set pv.length ha1).set (pv.length+a0) hk1) n ⟨Dt.swapL pv.length (pv.length+a0) R,d,pv,sw+1⟩ pv.length c m (by show pv.length<(Dt.swapL _ _ R).length;rw[Dt.swap_len];omega) (by omega) (Dt.swap_wide hw hkl hal) (hs1.trans (by show n=(Dt.swapL _ _ R).length;rw[Dt.swap_len];exact hRl.symm)) (by show(Dt.swapL _ _ R).length≤_;rw[Dt.swap_len];omega) hm hd0 hex (fun i j=>by show lm (Dt.ent (Dt.swapL _ _ R) i j)≤_;rw[Dt.ent_swap hkl hal];exact hokR _ _) hdl;generalize hs1e:(hs.set pv.length ha1).set (pv.length+a0) hk1=hs1v at *
    repeat (first|refine wP9 9 202 (k9 hs1v (Dt.swapL pv.length (pv.length+a0) R)) rfl hpm ?_|refine wg rfl (kE rfl rfl rfl) ?_|refine wg rfl (kK rfl rfl rfl rfl hadd rfl) ?_|refine wg rfl (wV (j:=201) (r:=0) (i:=pv.length) wE rfl rfl rfl rfl rfl rfl rfl rfl g1 rfl) ?_|refine wg rfl (wV (j:=201) (r:=0) (i:=pv.length+a0) wE rfl rfl rfl rfl rfl rfl rfl rfl g5 rfl) ?_|refine wg rfl (wV (j:=201) (r:=0) (i:=pv.length+a0) wE rfl rfl rfl rfl rfl rfl rfl rfl g6 rfl) ?_|refine wg rfl (qV (j:=201) (r:=0) wE rfl rfl rfl rfl g2 rfl rfl rfl) ?_|refine wg rfl (qV (j:=201) (r:=0) wE rfl rfl rfl rfl g3 rfl rfl rfl) ?_|refine wg rfl (kM (j:=201) (r:=0) wE rfl rfl rfl rfl g2 rfl rfl rfl rfl (pC _) rfl u1) ?_|refine wg rfl (kM (j:=201) (r:=0) wE rfl rfl rfl rfl g4 rfl rfl rfl rfl (pC _) rfl u2) ?_|refine wK3 13 rfl ?_|(refine wGD wE rfl rfl rfl rfl rfl rfl rfl rfl q4 (And.intro rfl (And.intro rfl (And.intro rfl (And.intro rfl trivial)))) rfl rfl ?_;rintro _ _ ⟨rfl,rfl⟩)|refine sq_v wE rfl rfl rfl rfl ?_|refine wEH rfl ?_|refine wGB 14 Value [7] ?_|refine wg rfl (qG (j:=203) (r:=0) wE rfl rfl rfl rfl rfl rfl rfl rfl plen rfl) ?_|refine wg rfl (qG (j:=201) (r:=0) wE rfl rfl rfl rfl rfl rfl rfl rfl glen rfl) ?_|refine wg rfl (wF0 (j:=201) (r:=0) (l:=pv.length) wE rfl rfl rfl rfl rfl rfl rfl rfl g1 rfl) ?_|refine wg rfl (wGE wE rfl rfl rfl rfl (wUG (h2.trans hRl.symm) (by omega) rfl rfl rfl rfl) q1 rfl rfl rfl) ?_|refine wv ?_|refine wg rfl cT ?_|refine wg rfl cF ?_|refine wg rfl sB ?_|refine wx ?_|refine wz ?_)
    refine rz_g rfl rfl (fun _=>rfl) (fun _=>kE rfl rfl rfl) (fun _=>rfl) ?_;refine rz_g rfl rfl (fun _=>rfl) (fun _=>kE rfl rfl rfl) (fun _=>rfl) ?_
    iterate 5 (refine rz_v wE rfl rfl (fun _=>rfl) (fun _=>rfl) (fun _=>rfl) ?_)
    refine rz_z (rd:=[2*87,2*203+1]++rdO (.tmp 89)++[2*89]) (nw:=[(2*87,0),(2*90,0),(2*87,1),(2*90,1)]) (u:=fun _ v=>[(2*90,some (.sv (.v (.raw v)))),(2*203+1,some (.fam 3 1 ([(pu,vJ pv)].set 0 (v,vJ pv++[[.int .i64 (c:Nat)]])))),(2*87,none)]++[(2*89,some (.sv (.v (.list [[.int .i64 (c:Nat)]]))))]) rfl (fun ζ=>vZ.ghost (j6 (d:=89) rfl) rfl (y9 (gr:=[]) (s:=87) (y:=.tmp 89) (q:=90) (j:=203) (r:=0) (m:=1) (bb:=8) (L:=[(pu,vJ pv)]) (es:=vJ pv) (es2:=[[.int .i64 (c:Nat)]]) wE rfl rfl rfl rfl rfl rfl rfl rfl rfl rfl rfl rfl rfl rfl rfl rfl (by simp) (wKB _) rfl (by simp only[maxLen,List.length_singleton];omega) (by simp only[List.length_singleton];omega) rfl rfl (by decide))) (fun _ _=>rfl) (fun _=>rfl) ?_
    iterate 3 (refine rz_v wE rfl rfl (fun _=>rfl) (fun _=>rfl) (fun _=>rfl) ?_)
    (refine wQH wKG rfl rfl (fun _=>rfl) (And.intro (fun _ _=>rfl) trivial) (fun ζ=>?_);generalize ζ 7=z)
    repeat (first|refine wv ?_|refine wg rfl sB ?_|refine wz ?_)
    exact⟨(c+1,hs1v,z,⟨Dt.stepL pv.length c d (Dt.swapL pv.length (pv.length+a0) R),Dt.ent (Dt.swapL pv.length (pv.length+a0) R) pv.length c,pv++[c],(sw+1)⟩),⟨hc,hs1,by rw[hnext,hcol]⟩,by dsimp only;omega,rfl,rfl,rfl,rfl,rfl,rfl,rfl,by dsimp only;rw[←wIH];rfl,trivial⟩
  ·rw[if_neg hal]at q1 hcol;repeat (first|refine wg rfl (qG (j:=203) (r:=0) wE rfl rfl rfl rfl rfl rfl rfl rfl plen rfl) ?_|refine wg rfl (qG (j:=201) (r:=0) wE rfl rfl rfl rfl rfl rfl rfl rfl glen rfl) ?_|refine wg rfl (wF0 (j:=201) (r:=0) (l:=pv.length) wE rfl rfl rfl rfl rfl rfl rfl rfl g1 rfl) ?_|refine wg rfl (wGE wE rfl rfl rfl rfl (wUG (h2.trans hRl.symm) (by omega) rfl rfl rfl rfl) q1 rfl rfl rfl) ?_|refine wv ?_|refine wg rfl cT ?_|refine wg rfl cF ?_|refine wg rfl sB ?_|refine wx ?_|refine wz ?_)
   exact⟨(c+1,hs,pu,⟨R,d,pv,sw⟩),⟨hc,h2,by rw[hnext,hcol]⟩,by dsimp only;omega,rfl,rfl,rfl,rfl,rfl,rfl,rfl,rfl,trivial⟩
 ·obtain rfl:c=n:=by omega
  subst h3;repeat (first|refine wg rfl cF ?_|refine wz ?_)
  exact⟨.inr rfl,_,_,rfl,rfl,⟨rfl,_,_,h2,rfl⟩,fun K c' e=>wI9 (by exact And.intro rfl (And.intro rfl (And.intro rfl (And.intro rfl trivial)))) e,rfl,rfl,⟨rfl,trivial⟩⟩
end Go.Proofs.YtdcjmnfngabhoaaGreat
/- bareiss.of: a matrix' integers in new memory. -/
namespace Go.Vl
open Go.RowKit Go.Ev
section
variable{P:Program}{w0:Base}{n:Nat}{st:St}{Q:kS}{ops:Array Oper}
theorem famAdd_ok{j k:Nat}{T:TypeId}{L:List (Value×List (List V))}(hL:∀p∈L,p=(.slice none 0 0,[])):∀a w,Hs w0 n (lk st) a w→∃_:Unit,Hs w0 n (lk ((2*j+1,some (.fam T k L))::st)) a w:=by
 rintro a w ⟨β,hh⟩;refine⟨(),β,?_⟩;have h1:vV w0.lo (wT β) w β (2*j+1) T k L:=by
  refine⟨fun p hp=>?_,?_⟩
  ·rw[hL p hp];exact⟨by simp,⟨[],World.ownsRow_nil _ _ _ _,.nil⟩,fun B e=>by cases e⟩
  ·rw[List.eq_replicate_of_mem hL];exact List.pairwise_replicate.2 (.inr fun B e=>by cases e)
 have h2:=hh.refam h1;refine h2.less fun K c e=>?_;have e2:=qD (u:=[(2*j+1,some (Cell.fam T k L))]) (st:=st);rw[app1]at e2;rw[show lk ((2*j+1,some (Cell.fam T k L))::st)=upd (lk st) (2*j+1) (some (.fam T k L))from e2]at e;exact e
theorem wI3{c:Code}(j k:Nat)(T:TypeId)(L:List (Value×List (List V)))(hL:∀p∈L,p=(.slice none 0 0,[]))(h:VW P w0 n c Q ((2*j+1,some (.fam T k L))::st)):VW P w0 n c Q st:=wGC _ (famAdd_ok hL) fun _=>h
theorem wI2{dr:Bool}(ri:Nat)(T:St)(hp:∀c:Code,VW P w0 n c Q T→VW P w0 n c Q st)(h:RR P w0 n ri ops dr Q T 0 [] T):VW P w0 n (.region ri ops dr) Q st:=hp _ (wA7 h)
end
end Go.Vl
namespace Go.Proofs.YtdcjmnfngabhoaaGreat
open Go.RowKit Go.Ev Go.Vl
theorem wF1{w0:Base}{n:Nat}{st:St}{o:Oper}{x:Operand}{d off:Nat}(hop:o.op=.move x)(hx:opv (lk st) x=some (.bx d off))(hd:dLt n o.dst=true):wM Tryz.prog w0 n o (rdO x++[2*d+1]) (dput o.dst (some (.sv (.bx d off)))) [] (lk st):=
 fun f hf hn=>wS7 hop hx rfl hd f (fun j hj=>hf j (cB _ hj)) hn
theorem famI_snoc{hs:List Value}{R:List (List Int)}(h:hs.length=R.length)(z:Value)(r:List Int):k9 hs R++[(z,zO r)]=k9 (hs++[z]) (R++[r]):=by unfold k9;rw[List.zipWith_append h];rfl
theorem wXH(hs:List Value)(z:Value):zC hs++[[.raw z]]=zC (hs++[z]):=by unfold zC;rw[fD];rfl
theorem row1r(z:Value):∀e∈[[V.raw z]],e.length=1:=fun e h=>by rw[pP.1 h];rfl
theorem of_m(x:Bool)(l:List Nat)(N:List (List Int))(m:Nat)(hw:Dt.wide m N)(hm0:m≠0)(hm:m≤1048576)(hn:N.length≤1048576) :
  wO1 Tryz.prog 54 [.v (.agg [.bool x,vL l,.list (jA N)])] [401,403,405,407] []
   (fun y F=>y=.bx 200 0∧∃hu pu hs,hs.length=N.length∧F=fragW hu pu hs (if N.length=0 then 0 else m) ⟨N,1,[],0⟩):=by
 refine wCD Tryz.func54 rfl rfl rfl rfl rfl rfl rfl fun w0 _ _=>?_;have q1:=zof_v 1 (by decide);have hlen:=wOC N;repeat (first|refine wI2 2 _ (fun c h=>vw_rekey 3 8 200 rfl rfl rfl rfl rfl (wI3 201 1 59 [(.slice none 0 0,[])] (fun p h=>pP.1 h) (wI3 202 2 25 [] (fun p h=>by cases h) (wI3 203 1 3 [(.slice none 0 0,[])] (fun p h=>pP.1 h) h)))) ?_|refine wg rfl (wF2 wE rfl rfl rfl rfl rfl rfl rfl rfl rfl) ?_|refine wc q1 ?_|refine wg rfl (sL hlen) ?_|refine wv ?_|refine wz ?_)
 refine wP (fun b:Nat×Value×List Value=>[(6,some (.sv (.bx 200 0))),(20,some (.sv (.v (.list (jA N))))),(22,some (.sv (.v (.int .i64 (N.length:Nat))))),(24,some (.sv (.v (.int .i64 (b.1:Nat))))),
   (401,some (.bx (boxW b.2.1 (if b.1=0 then 0 else m) 1 (.slice none 0 0) 0))),(403,some (.fam 59 1 [(b.2.1,zC b.2.2)])),(405,some (.fam 25 2 (k9 b.2.2 (N.take b.1)))),(407,some (.fam 3 1 [(.slice none 0 0,vJ [])]))])
  (fun b=>b.1≤N.length∧b.2.2.length=b.1) (fun b=>N.length-b.1) (0,.slice none 0 0,[]) (fun _=>rfl) ⟨pN _,rfl⟩ ⟨rfl,rfl,rfl,rfl,rfl,rfl,rfl,rfl,trivial⟩ fun⟨i,hu,hs⟩ hI=>?_
 obtain⟨h1,h2⟩:=hI;dsimp only at h1 h2 ⊢;rcases pK i N.length with hi|hi
 ·obtain⟨r,hr⟩:∃r,N[i]? = some r:=⟨_,pG hi⟩
  have hg:=wSD hr;have hrm:r.length=m:=hw r (pF hr);have hrl:(zO r).length=m:=(vE r).trans hrm;have hhl:(zC hs).length=i:=by rw[kF];exact h2
  have hcl:=cloneI_v (zO r) (fun e he=>by obtain⟨z,_,rfl⟩:=pO.1 he;rfl) (by omega) (by intro e;rw[e]at hrl;exact hm0 hrl.symm)
  have htk:(N.take i).length=i:=by rw[pV];omega
  have hfam:∀z,k9 hs (N.take i)++[(z,zO r)]=k9 (hs++[z]) (N.take (i+1)):=fun z=>by rw[famI_snoc (by omega),cI,hr];rfl
  generalize hcols:(if i=0 then 0 else m)=cs;repeat (first|refine wGB 5 Value [6,8] ?_|refine wg rfl (sX i hg) ?_|refine wv ?_|refine wg rfl cT ?_|refine wz ?_)
  refine rz_g rfl rfl (fun _=>rfl) (fun _=>wF1 rfl rfl rfl) (fun _=>rfl) ?_;refine rz_g rfl rfl (fun _=>rfl) (fun _=>wF1 rfl rfl rfl) (fun _=>rfl) ?_
  iterate 4 (refine rz_v wE rfl rfl (fun _=>rfl) (fun _=>rfl) (fun _=>rfl) ?_)
  refine rz_z (rd:=[2*202+1]++(rdO (.func 96)++rdL [.tmp 21])) (nw:=[(2*22,1),(2*22,0)]) (u:=fun _ v=>[(2*22,some (.sv (.v (.raw v)))),(2*202+1,some (.fam 25 2 (k9 hs (N.take i)++[(v,zO r)])))]) rfl (fun ζ=>qCF (k:=⟨.value (.func 96),#[.tmp 21],#[59]⟩) (x:=.func 96) (r:=22) (j:=202) (T:=25) (q:=2) (es:=zO r) (L:=k9 hs (N.take i)) wE rfl rfl rfl rfl rfl rfl rfl rfl hcl rfl rfl (.inl rfl)) (fun _ _=>rfl) (fun _=>rfl) ?_;refine rz_v wE rfl rfl (fun _=>rfl) (fun _=>rfl) (fun _=>rfl) ?_;refine rz_z (rd:=[2*20,2*201+1]++rdO (.tmp 23)++[2*23]) (nw:=[(2*20,0),(2*24,0),(2*20,1),(2*24,1)]) (u:=fun ζ v=>[(2*24,some (.sv (.v (.raw v)))),(2*201+1,some (.fam 59 1 ([(hu,zC hs)].set 0 (v,zC hs++[[.raw (ζ 6)]])))),(2*20,none)]++[(2*23,some (.sv (.v (.list [[.raw (ζ 6)]]))))]) rfl (fun ζ=>vZ.ghost (j6 (d:=23) rfl) rfl (y9 (gr:=[]) (s:=20) (y:=.tmp 23) (q:=24) (j:=201) (r:=0) (m:=1) (bb:=24) (L:=[(hu,zC hs)]) (es:=zC hs) (es2:=[[.raw (ζ 6)]]) wE rfl rfl rfl rfl rfl rfl rfl rfl rfl rfl rfl rfl rfl rfl rfl rfl (by simp) (row1r _) rfl (by simp only[maxLen,List.length_singleton];omega) (by simp only[List.length_singleton];omega) rfl rfl (by decide))) (fun _ _=>rfl) (fun _=>rfl) ?_
  iterate 3 (refine rz_v wE rfl rfl (fun _=>rfl) (fun _=>rfl) (fun _=>rfl) ?_)
  (refine wQH wKG rfl rfl (fun _=>rfl) (And.intro (fun _ _=>rfl) (And.intro (fun _ _=>rfl) trivial)) (fun ζ=>?_);generalize ζ 6=z6;generalize ζ 8=z8)
  repeat (first|refine wg rfl (sL hrl) ?_|refine wv ?_|refine wg rfl sB ?_|refine wz ?_)
  exact⟨(i+1,z8,hs++[z6]),⟨hi,by rw[mC,h2];rfl⟩,by dsimp only;omega,rfl,rfl,rfl,rfl,rfl,by dsimp only;rw[←wXH];rfl,by dsimp only;rw[←hfam];rfl,rfl,trivial⟩
 ·obtain rfl:i=N.length:=by omega
  rw[mZ];repeat (first|refine wv ?_|refine wg rfl cF ?_|refine wz ?_)
  exact⟨.inl rfl,_,_,rfl,rfl,⟨rfl,_,_,_,h2,rfl⟩,fun K c' e=>wI9 (by exact And.intro rfl (And.intro rfl (And.intro rfl (And.intro rfl trivial)))) e,rfl,rfl,trivial⟩
end Go.Proofs.YtdcjmnfngabhoaaGreat
