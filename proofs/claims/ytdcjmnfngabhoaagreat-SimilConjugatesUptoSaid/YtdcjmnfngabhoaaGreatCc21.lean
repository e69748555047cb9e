/- bareiss.Inverse: told of trees. ALLOC -/
import Derived.Test.YtdcjmnfngabhoaaGreatCc18
import Derived.Test.YtdcjmnfngabhoaaGreatCc20
set_option linter.all false
set_option maxRecDepth 20000
set_option maxHeartbeats 6400000
namespace Go.Vl
open Go.RowKit Go.Ev
section
variable{P:Program}{w0:Base}{n:Nat}{st:St}{Q:kS}{ops:Array Oper}
theorem vw_pinR{dr:Bool}(ri s d:Nat){cs:List SV}(h:lk st (2*s)=some (.sv (.bx d 0)))(hb:lk st (2*d+1)=some (.bx cs))(hv:∀u,VW P w0 n (.region ri ops dr) Q ((2*s,some (.sv (.rp d u 0)))::st)):VW P w0 n (.region ri ops dr) Q st:=wRG s d h hb hv
theorem vw_preZ(ri:Nat)(Z:Type)[Nonempty Z](E:List Nat)(T:St)(hp:∀c:Code,VW P w0 n c Q T→VW P w0 n c Q st)(h:RZ (Z:=Z) P w0 n ri ops E Q T 0 (fun _=>[]) (fun _=>T)):VW P w0 n (.region ri ops true) Q st:=hp _ (wRF Z E h)
end
end Go.Vl
namespace Go.Proofs.YtdcjmnfngabhoaaGreat
open Go.RowKit Go.Ev Go.Vl
def intT(t:List (List ZZ)):List (List Int):=t.map fun r=>r.map intOf
def zT(N:List (List Int)):List (List ZZ):=N.map fun r=>r.map zn
theorem vT_zT(N:List (List Int)):vT (zT N)=.list (jA N):=by
 unfold vT zT jA;rw[mU];congr 1;apply mP;intro r _;show[vZs (r.map zn)]=[V.list (zO r)]
 unfold vZs zO;rw[mU];rfl
theorem zT_len(N:List (List Int)):(zT N).length=N.length:=pH ..
theorem rows0(n:Nat):List.replicate n [V.bool false,V.list []]=zO (List.replicate n 0):=by
 have e:zn 0=(false,[]):=by simp[zn,qW]
 unfold zO;rw[List.map_replicate,e];rfl
theorem famI_set2{hs:List Value}{R:List (List Int)}(i:Nat)(z:Value)(r:List Int):(k9 hs R).set i (z,zO r)=k9 (hs.set i z) (R.set i r):=by
 unfold k9;apply mB;intro j;rw[pX,cD,cD,pX,pX,dL];by_cases hj:i=j
 ·subst hj;rw[if_pos rfl,if_pos rfl,if_pos rfl];by_cases h1:i<hs.length
  ·by_cases h2:i<R.length
   ·rw[if_pos (by omega),if_pos h1,if_pos h2]
   ·rw[if_neg (by omega),if_pos h1,if_neg h2]
  ·rw[if_neg (by omega),if_neg h1]
 ·rw[if_neg hj,if_neg hj,if_neg hj]
def invS(D:Int)(N:List (List Int)):Dt.BS:=Dt.downB (Dt.startB D N) N.length
def wFA(D:Int)(N:List (List Int)):Int:=if(invS D N).piv.length<N.length then 7 else 0
def wMF(s:Dt.BS)(n:Nat):MM:=(zn s.last,zT (s.rows.map (·.drop n)))
def xY(D:Int)(N:List (List Int)):MM:=if(invS D N).piv.length<N.length then noM else wG1 (wMF (invS D N) N.length)
theorem inverse_v(x:Bool)(l:List Nat)(t:List (List ZZ))(D:Int)(N:List (List Int))(n:Nat)(hsq:wG Tryz.prog 53 [.agg [.bool x,vL l,vT t]] (fun y=>y=.tup [.agg [.bool (zn D).1,vL (zn D).2,.list (jA N)],.int .i64 0]))(hN:N.length=n)(hw:Dt.wide n N)(hD:D≠0)(hn0:n≠0)(hn:n≤1024)(B:Nat)(hB:1≤B)(hBO:∀i j,(Dt.ent (Dt.augI D N) i j).natAbs≤B)(hbd:∀x:Int,x.natAbs≤((n+1)*B)^(n+1)→lm x≤34359738368) :
  wG Tryz.prog 27 [.agg [.bool x,vL l,vT t]] (fun y=>y=.tup [vM (xY D N),.int .i64 (wFA D N)]):=by
 refine wD wE Tryz.func27 rfl rfl rfl rfl fun w0=>?_;have q1:=of_m (zn D).1 (zn D).2 N n hw hn0 (by omega) (by omega);rw[if_neg (by omega:¬N.length=0)]at q1;have hOl:(Dt.augI D N).length=n:=(Dt.augI_len D N).trans hN;have hOw:Dt.wide (n+n) (Dt.augI D N):=Dt.augI_wide hN hw;repeat (first|refine wc hsq ?_|refine wK3 4 rfl ?_|(refine wGD wE rfl rfl rfl rfl rfl rfl rfl rfl q1 trivial rfl rfl ?_;rintro _ _ ⟨rfl,hu,pu,hs0,hhs0,rfl⟩)|refine sq_v wE rfl rfl rfl rfl ?_|refine wEH rfl ?_|refine wg rfl (qG (j:=201) (r:=0) wE rfl rfl rfl rfl rfl rfl rfl rfl ((kF _).trans (hhs0.trans hN)) rfl) ?_|refine wl ?_|refine wv ?_|refine wg rfl nF ?_|refine wz ?_)
 refine wP (fun b:Nat×List Value=>[(2,some (.sv (.bx 1 0))),(3,some (.bx [.v (.bool (zn D).1),.v (vL (zn D).2),.v (.list (jA N))])),(4,some (.sv (.bx 2 0))),(5,some (.bx [.v (.bool false),.nils,.nils])),(10,some (.sv (.bx 200 0))),(52,some (.sv (.v (.int .i64 (n:Nat))))),(54,some (.sv (.v (.int .i64 (b.1:Nat))))),
   (401,some (.bx (boxW hu n 1 pu 0))),(403,some (.fam 59 1 [(hu,zC b.2)])),(405,some (.fam 25 2 (k9 b.2 (j5 (Dt.augI D N) N b.1)))),(407,some (.fam 3 1 [(pu,vJ [])]))])
  (fun b=>b.1≤n∧b.2.length=n) (fun b=>n-b.1) (0,hs0) (fun _=>rfl) ⟨pN _,hhs0.trans hN⟩ ⟨rfl,rfl,rfl,rfl,rfl,rfl,rfl,rfl,rfl,by unfold j5;rw[gT,dH];rfl,rfl,trivial⟩ fun⟨i,hs⟩ hI=>?_
 obtain⟨h1,h2⟩:=hI;dsimp only at h1 h2 ⊢;rcases pK i n with hi|hi
 ·obtain⟨ri,hri⟩:∃r,N[i]? = some r:=⟨_,pG (by omega)⟩
  have hrl:ri.length=n:=hw ri (pF hri);have hRl:(j5 (Dt.augI D N) N i).length=n:=(wJ0 (by rw[hOl,hN]) i).trans hN;have hRi:(j5 (Dt.augI D N) N i)[i]? = some ri:=by unfold j5;rw[jR (by rw[hOl,hN]),if_neg (by omega),hri]
  obtain⟨h,eh⟩:∃h,hs[i]? = some h:=⟨_,pG (by omega)⟩
  have g1:i<(zC hs).length:=by rw[kF];omega
  have g2:=vY eh;have g3:=wFC eh hRi;have hz0:=rows0 n;have g4:i<(zO (List.replicate n 0)).length:=by rw[vE,dA];exact hi
  have g5:(zO (List.replicate n 0))[i]? = some [.bool (zn 0).1,vL (zn 0).2]:=wIE (by rw[dC,if_pos hi]);have g6:=qDA (List.replicate n 0) i D;have g7:∀z,[(hu,zC hs)].set 0 (hu,(zC hs).set i (over [.raw h] 0 (V.raw z).cells))=[(hu,zC (hs.set i z))]:=fun z=>by rw[←wHD];rfl
  have g8:∀e∈zO ((List.replicate n 0).set i D),e.length=2:=fun e he=>by obtain⟨z,_,rfl⟩:=pO.1 he;rfl
  have g9:(zO ri).length=n:=(vE ri).trans hrl;have g10:(zO ((List.replicate n 0).set i D)).length=n:=by rw[vE,cL,dA]
  have g11:∀z,k9 (hs.set i z) (j5 (Dt.augI D N) N (i+1))=(k9 hs (j5 (Dt.augI D N) N i)).set i (z,zO ri++zO ((List.replicate n 0).set i D)):=fun z=>by rw[show zO ri++zO ((List.replicate n 0).set i D)=zO (ri++(List.replicate n 0).set i D) by unfold zO;rw[fD],famI_set2];unfold j5;rw[wDF (x:=ri++(List.replicate n 0).set i D) (by rw[hOl,hN]) (by unfold Dt.augI;rw[fE,hri,hN];rfl)]
  generalize j5 (Dt.augI D N) N i=R at *
  repeat (first|refine vw_preZ 10 Value [13] _ (fun c h=>wLD (j6 (d:=7) rfl) h) ?_|refine wg rfl (x8 (id:=7000) (l:=n) (c:=n) (m:=2) (bb:=32) wE rfl rfl rfl rfl rfl rfl rfl rfl rfl rfl (pC _) rfl (by omega) (by simp only[maxLen];omega) rfl rfl rfl hz0) ?_|refine wg rfl (sO i g4) ?_|refine wg rfl (sS g5 (he:=by exact g6)) ?_|refine wv ?_|refine wg rfl cT ?_|refine wz ?_)
  refine rz_g rfl rfl (fun _=>rfl) (fun _=>wF1 rfl rfl rfl) (fun _=>rfl) ?_
  iterate 4 (refine rz_v wE rfl rfl (fun _=>rfl) (fun _=>rfl) (fun _=>rfl) ?_)
  refine rz_g rfl rfl (fun _=>rfl) (fun _=>wF1 rfl rfl rfl) (fun _=>rfl) ?_
  iterate 4 (refine rz_v wE rfl rfl (fun _=>rfl) (fun _=>rfl) (fun _=>rfl) ?_)
  refine rz_g rfl rfl (fun _=>rfl) (fun _=>wV (j:=201) (r:=0) (i:=i) wE rfl rfl rfl rfl rfl rfl rfl rfl g1 rfl) (fun _=>rfl) ?_;refine rz_g rfl rfl (fun _=>rfl) (fun _=>qV (j:=201) (r:=0) wE rfl rfl rfl rfl g2 rfl rfl rfl) (fun _=>rfl) ?_;refine rz_v wE rfl rfl (fun _=>rfl) (fun _=>rfl) (fun _=>rfl) ?_;refine rz_z (rd:=[2*51,2*202+1]++rdO (.tmp 52)) (nw:=[(2*51,0),(2*53,0),(2*51,1),(2*53,1)]) (u:=fun _ v=>[(2*53,some (.sv (.v (.raw v)))),(2*202+1,some (.fam 25 2 ((k9 hs R).set i (v,zO ri++zO ((List.replicate n 0).set i D))))),(2*51,none)]) rfl (fun ζ=>y9 (gr:=[]) (s:=51) (y:=.tmp 52) (q:=53) (j:=202) (r:=i) (u:=h) (m:=2) (bb:=32) (L:=k9 hs R) (es:=zO ri) (es2:=zO ((List.replicate n 0).set i D)) wE rfl rfl rfl rfl rfl rfl rfl rfl rfl rfl rfl rfl rfl rfl g3 rfl (by simp) g8 rfl (by simp only[maxLen];omega) (by omega) rfl rfl (by decide)) (fun _ _=>rfl) (fun _=>rfl) ?_
  refine rz_g rfl rfl (fun _=>rfl) (fun _=>wV (j:=201) (r:=0) (i:=i) wE rfl rfl rfl rfl rfl rfl rfl rfl g1 rfl) (fun _=>rfl) ?_;refine rz_g rfl rfl (fun _=>rfl) (fun ζ=>kM (j:=201) (r:=0) wE rfl rfl rfl rfl g2 rfl rfl rfl rfl (pC _) rfl (g7 (ζ 13))) (fun _=>rfl) ?_
  (refine wQH wKG rfl rfl (fun _=>rfl) (And.intro (fun _ _=>rfl) trivial) (fun ζ=>?_);generalize ζ 13=z)
  repeat (first|refine wv ?_|refine wg rfl sB ?_|refine wz ?_)
  exact⟨(i+1,hs.set i z),⟨hi,by rw[cL];exact h2⟩,by dsimp only;omega,rfl,rfl,rfl,rfl,rfl,rfl,rfl,rfl,rfl,by dsimp only;rw[g11];rfl,rfl,trivial⟩
 ·obtain rfl:i=n:=by omega
  rw[show j5 (Dt.augI D N) N i=Dt.augI D N by unfold j5;rw[pR (by omega),mA (by omega),bN]];unfold xY wFA invS;rw[hN];have hG:=Dt.goodB hN hw (D:=D) i;have hS:(⟨Dt.augI D N,1,[],0⟩:Dt.BS)=Dt.startB D N:=rfl;have hd:∀r,_:=fun r=>down_m r hu pu hs i (i+i) (Dt.augI D N) hOl hOw (by omega) (by omega) (by omega) h2 B hB hBO hbd;rw[hS]at hd;have hd0:(Dt.downB (Dt.startB D N) i).last≠0:=hG.d0;have hRl:=hG.len;have hRw:=hG.wide;have hsw:=Dt.downB_sw (Dt.augI D N) i;have hpl:(Dt.downB (Dt.startB D N) i).piv.length≤i:=hG.good.kc;generalize Dt.downB (Dt.startB D N) i=s at *
  by_cases hk:s.piv.length<i
  ·rw[if_pos hk,if_pos hk];repeat (first|refine vw_pinR 12 5 200 rfl rfl fun r=>?_|refine wK3 12 rfl ?_|(refine wGD wE rfl rfl rfl rfl rfl rfl rfl rfl (hd _) (And.intro rfl (And.intro rfl (And.intro rfl (And.intro rfl trivial)))) rfl rfl ?_;rintro _ _ ⟨rfl,pu2,hs2,hh2,rfl⟩)|refine sq_g rfl rfl (kE rfl rfl rfl) rfl ?_|refine sq_v wE rfl rfl rfl rfl ?_|refine wEH rfl ?_|refine wg rfl (kE rfl rfl rfl) ?_|refine wg rfl (qG (j:=203) (r:=0) wE rfl rfl rfl rfl rfl rfl rfl rfl (pH ..) rfl) ?_|refine wv ?_|refine wg rfl cT ?_|refine wg rfl cF ?_|refine wz ?_)
   exact⟨.inl rfl,_,rfl,rfl⟩
  ·rw[if_neg hk,if_neg hk];have hokR:∀a b,lm (Dt.ent s.rows a b)≤34359738368:=fun a b=>by
    refine hbd _ (pD (hG.good.bound (B:=B) (N:=i+1) (by omega) hB hBO a b) ?_);exact mT (gQ (by omega) hB) (by omega)
   have hdl:lm s.last≤34359738368:=by obtain⟨a,b,e⟩:=hG.dlast (by intro e;rw[e]at hk;simp at hk;omega);rw[←e];exact hokR a b
   have hrow:∀r∈s.rows,(r.drop i).length=i:=fun r hr=>by rw[dM,hRw r hr];omega
   have hXr:∀r∈zT (s.rows.map (·.drop i)),r.length=i∧∀z∈r,okL z.2∧z.2.length≤68719476736:=by intro r hr;obtain⟨r',hr',rfl⟩:=pO.1 hr;obtain⟨r2,hr2,rfl⟩:=pO.1 hr';refine⟨by rw[pH];exact hrow r2 hr2,fun z hz=>?_⟩;obtain⟨y,hy,rfl⟩:=pO.1 hz;refine⟨wC9 _,?_⟩;rw[zn_lm];obtain⟨a,ha⟩:=cK hr2;obtain⟨b,hb⟩:=cK (dF hy);have:=hokR a b;unfold Dt.ent at this;rw[show s.rows.getD a []=r2 by rw[pE,ha];rfl,pE,hb]at this;exact pD this (by decide)
   have hXl:(zT (s.rows.map (·.drop i))).length=i:=by rw[zT_len,pH];exact hRl
   have hok:okM (wMF s i) 68719476736:=by
    refine⟨wC9 _,?_,⟨?_,fun r hr=>⟨?_,(hXr r hr).2⟩⟩,?_⟩
    ·show lm s.last≤_;omega
    ·show(zT (s.rows.map (·.drop i))).length≤_;omega
    ·rw[(hXr r hr).1];omega
    ·show(zT (s.rows.map (·.drop i))).flatten.length≤_;rw[kU fun x hx=>(hXr x hx).1,hXl];exact pD (dR hn hn) (by decide)
   have hch:chk (wMF s i)=0:=wP5 _ (by show intOf (zn s.last)≠0;rw[wF];exact hd0) (wFD _ _ fun x hx=>(hXr x hx).1);have q9:=qA5 (zn s.last).1 (zn s.last).2 (wMF s i).2 hok;rw[show chk (((zn s.last).1,(zn s.last).2),(wMF s i).2)=0 from hch,show vT (wMF s i).2=_ from vT_zT _]at q9;have q9':wG Tryz.prog 44 [.agg [.bool (zn s.last).1,vL (zn s.last).2,.list (jA (s.rows.map (·.drop i)))]] (fun y=>y=.tup [vM (wG1 (wMF s i)),.int .i64 0]):=q9;clear q9;generalize wG1 (wMF s i)=out at *
   obtain⟨⟨ox,ol⟩,ot⟩:=out;clear hG hokR hXr hXl hok hch;repeat (first|refine vw_pinR 12 5 200 rfl rfl fun r=>?_|refine wK3 12 rfl ?_|(refine wGD wE rfl rfl rfl rfl rfl rfl rfl rfl (hd _) (And.intro rfl (And.intro rfl (And.intro rfl (And.intro rfl trivial)))) rfl rfl ?_;rintro _ _ ⟨rfl,pu2,hs2,hh2,rfl⟩)|refine sq_g rfl rfl (kE rfl rfl rfl) rfl ?_|refine sq_v wE rfl rfl rfl rfl ?_|refine wEH rfl ?_|refine wg rfl (kE rfl rfl rfl) ?_|refine wg rfl (qG (j:=203) (r:=0) wE rfl rfl rfl rfl rfl rfl rfl rfl (pH ..) rfl) ?_|refine wg rfl (wF2 wE rfl rfl rfl rfl rfl rfl rfl rfl rfl) ?_|refine wg rfl (qG (j:=201) (r:=0) wE rfl rfl rfl rfl rfl rfl rfl rfl ((kF _).trans hh2) rfl) ?_|refine wl ?_|refine wv ?_|refine wg rfl cF ?_|refine wz ?_)
   refine wK4 8 2 1 59 rfl rfl rfl ?_;refine wW7 81 201 0 1 rfl rfl rfl rfl rfl rfl ?_;refine wO7 81 202 (L:=k9 hs2 s.rows) (To:=59) (id:=1) (by rw[qF2 (hh2.trans hRl.symm)];rfl) rfl ?_;rw[qCC (hh2.trans hRl.symm)];refine wP (fun j:Nat=>[(4,some (.sv (.bx 2 0))),(5,some (.bx [.v (.bool false),.nils,.nils])),(10,some (.sv (.rp 200 r 0))),(401,some (.bx (boxW hu i s.last pu2 s.swaps))),(16,some (.sv (.bx 8 0))),(17,some (.bx [.v (.bool (zn s.last).1),.v (vL (zn s.last).2),.own 0 59 1 (jA ((s.rows.map (·.drop i)).take j))])),(162,some (.sv (.v (.list (jA s.rows))))),(164,some (.sv (.v (.int .i64 (i:Nat))))),(166,some (.sv (.v (.int .i64 (j:Nat)))))])
    (fun j=>j≤i) (fun j=>i-j) 0 (fun _=>rfl) (pN _) ⟨rfl,rfl,rfl,rfl,rfl,rfl,rfl,rfl,rfl,trivial⟩ fun j hJ=>?_
   rcases pK j i with hj|hj
   ·obtain⟨rj,hrj⟩:∃r,s.rows[j]? = some r:=⟨_,pG (by omega)⟩
    have hg:=wSD hrj;have hrl:rj.length=i+i:=hRw rj (pF hrj);have c1:∀e∈zO rj,e.length=2:=fun e he=>by obtain⟨z,_,rfl⟩:=pO.1 he;rfl
    have c2:i≤(zO rj).length:=by rw[vE];omega
    have c3:(zO rj).drop i=zO (rj.drop i):=by unfold zO;rw[pG0]
    have c4:jA ((s.rows.map (·.drop i)).take j)++[[V.list (zO (rj.drop i))]]=jA ((s.rows.map (·.drop i)).take (j+1)):=by rw[cI,pJ,hrj];unfold jA;rw[fD];rfl
    have c5:(jA ((s.rows.map (·.drop i)).take j)).length=j:=by rw[wOC,pV,pH];omega
    have c6:∀e∈[[V.list (zO (rj.drop i))]],e.length=1:=fun e h=>by rw[pP.1 h];rfl
    repeat (first|refine wg rfl (kE rfl rfl rfl) ?_|refine wg rfl (sX j hg) ?_|refine wg rfl (wCG wE rfl rfl rfl rfl rfl rfl c1 c2 c3 rfl) ?_|refine wf rfl rfl (sA 7002 [[V.list (zO (rj.drop i))]] 1 24 c6 c4) ?_|refine wv ?_|refine wg rfl cT ?_|refine wg rfl sB ?_|refine wz ?_)
    exact⟨j+1,hj,by omega,rfl,rfl,rfl,rfl,rfl,rfl,rfl,rfl,rfl,trivial⟩
   ·obtain rfl:j=i:=by omega
    rw[pR (by rw[pH];omega)];repeat (first|refine rr_vfx wE [.tmp 8] rfl rfl rfl rfl rfl ?_|refine wc q9' ?_|refine wg rfl cF ?_|refine wz ?_)
    exact⟨.inl rfl,_,rfl,rfl⟩
def zD(r:List Rat):List (List V):=r.map fun x=>qU (qn x)
theorem jJ(r:List Rat):(zD r).length=r.length:=pH ..
theorem wIF{r:List Rat}{j:Nat}{x:Rat}(h:r[j]? = some x):(zD r)[j]? = some (qU (qn x)):=by unfold zD;rw[pJ,h];rfl
theorem qDB(r:List Rat)(j:Nat)(x:Rat):(zD r).set j (qU (qn x))=zD (r.set j x):=by unfold zD;rw[gD]
theorem rowR4(r:List Rat):∀e∈zD r,e.length=4:=fun e he=>by obtain⟨z,_,rfl⟩:=pO.1 he;rfl
def kN(R:List (List Rat)):List (List V):=R.map fun r=>[V.list (zD r)]
theorem yB(R:List (List Rat)):(kN R).length=R.length:=pH ..
theorem wSF{R:List (List Rat)}{j:Nat}{r:List Rat}(h:R[j]? = some r):(kN R)[j]? = some [.list (zD r)]:=by unfold kN;rw[pJ,h];rfl
def xA(hs:List Value)(R:List (List Rat)):List (Value×List (List V)):=List.zipWith (fun h r=>(h,zD r)) hs R
theorem wA4{hs:List Value}{R:List (List Rat)}{i:Nat}{h:Value}{r:List Rat}(e:hs[i]? = some h)(e2:R[i]? = some r):(xA hs R)[i]? = some (h,zD r):=by unfold xA;rw[cD,e,e2]
theorem qFB{hs:List Value}{R:List (List Rat)}{i:Nat}{h:Value}{r:List Rat}(e:hs[i]? = some h)(hi:i<R.length):(xA hs R).set i (h,zD r)=xA hs (R.set i r):=by
 have hh:=(pI.1 e).1;apply mB;intro j;unfold xA;rw[pX,cD,cD,pX];by_cases hj:i=j
 ·subst hj;rw[if_pos rfl,if_pos rfl,if_pos hi,if_pos (by simp;omega),e]
 ·rw[if_neg hj,if_neg hj]
theorem famR_snoc{hs:List Value}{R:List (List Rat)}(h:hs.length=R.length)(z:Value)(r:List Rat):xA hs R++[(z,zD r)]=xA (hs++[z]) (R++[r]):=by unfold xA;rw[List.zipWith_append h];rfl
theorem tab_famR{hs:List Value}{R:List (List Rat)}(h:hs.length=R.length):wAH (xA hs R)=kN R:=by
 unfold wAH xA kN;apply mB;intro i;rw[pJ,cD,pJ];cases h1:hs[i]? with
 |none=>rw[pW (by have:=List.getElem?_eq_none_iff.1 h1;omega)];rfl
 |some a=>
  obtain⟨r,hr⟩:∃r,R[i]? = some r:=⟨_,pG (by have:=(pI.1 h1).1;omega)⟩
  rw[hr];rfl
theorem hdr_famR{hs:List Value}{R:List (List Rat)}(h:hs.length=R.length):hdr (xA hs R)=zC hs:=by
 unfold hdr xA zC;apply mB;intro i;rw[pJ,cD,pJ];cases h1:hs[i]? with
 |none=>rfl
 |some a=>
  obtain⟨r,hr⟩:∃r,R[i]? = some r:=⟨_,pG (by have:=(pI.1 h1).1;omega)⟩
  rw[hr];rfl
theorem rcopy5_v(q:QQ)(h:q.1.2.length≤1099511627776)(h':q.2.2.length≤1099511627776):wG Tryz.prog 68 [.agg (qU q)] (fun y=>y=.agg (qU q)):=by
 refine wD wE Tryz.func68 rfl rfl rfl rfl fun w0=>?_;have q1:=copy3_v q.1 h;have q2:=copy3_v q.2 h';obtain⟨⟨x,l⟩,⟨y,m⟩⟩:=q;repeat (first|refine wl ?_|refine wv ?_|refine wc q1 ?_|refine wc q2 ?_|refine wz ?_)
 exact⟨.inl rfl,_,rfl,rfl⟩
theorem qDH(r:List Rat)(h:∀x∈r,lm x.num≤1099511627776∧lm (x.den:Int)≤1099511627776)(hl:r.length≤68719476736):wC8 Tryz.prog 35 [.list (zD r)] 79 4 (zD r):=by
 refine wCC Tryz.func35 rfl rfl rfl rfl fun w0=>?_;have hrl:=jJ r;have hrep:List.replicate r.length q0=(((zD r).take 0)++List.replicate ((zD r).length-0) q0):=by rw[hrl];simp
 repeat (first|refine wg rfl (sL hrl) ?_|refine wv ?_|refine wg rfl (sM 7000 r.length r.length 4 64 hrep) ?_|refine wz ?_)
 refine wP (fun j:Nat=>[(6,some (.sv (.own 1 79 4 ((zD r).take j++List.replicate ((zD r).length-j) q0)))),(18,some (.sv (.v (.list (zD r))))),(20,some (.sv (.v (.int .i64 (r.length:Nat))))),(22,some (.sv (.v (.int .i64 (j:Nat)))))])
  (fun j=>j≤r.length) (fun j=>r.length-j) 0 (fun _=>rfl) (pN _) ⟨⟨_,rfl⟩,rfl,rfl,rfl,trivial⟩ fun j hJ=>?_
 rcases pK j r.length with hj|hj
 ·obtain⟨z,hz⟩:∃z,r[j]? = some z:=⟨_,pG hj⟩
  have hg:=wIF hz;have hzm:=h z (pF hz);have q1:=rcopy5_v (qn z) hzm.1 hzm.2;have hset:=wM5 (zD r) q0 j (qU (qn z)) hg;have hown:((zD r).take j++List.replicate ((zD r).length-j) q0)[j]? = some q0:=by rw[mI (by rw[pV];omega),dC,if_pos (by rw[pV,hrl];omega)]
  have hlen:j<((zD r).take j++List.replicate ((zD r).length-j) q0).length:=by rw[mC,pV,dA,hrl];omega
  generalize (zD r).take j++List.replicate ((zD r).length-j) q0=row at *
  generalize qn z=qz at *
  unfold q0 at hown;obtain⟨⟨x,l⟩,⟨y,m⟩⟩:=qz;repeat (first|refine wl ?_|refine wv ?_|refine wg rfl (sX j hg) ?_|refine wc q1 ?_|refine wg rfl (sO j hlen) ?_|refine wg rfl (sS hown (he:=by exact hset)) ?_|refine wg rfl cT ?_|refine wg rfl sB ?_|refine wz ?_)
  exact⟨j+1,hj,by omega,⟨_,rfl⟩,rfl,rfl,rfl,trivial⟩
 ·have hje:j=r.length:=by omega
  subst hje;have e:(zD r).take r.length++List.replicate ((zD r).length-r.length) q0=zD r:=by rw[←hrl,mZ,bU];simp
  rw[e];repeat (first|refine wv ?_|refine wg rfl cF ?_|refine wz ?_)
  exact⟨.inl rfl,_,_,rfl⟩
end Go.Proofs.YtdcjmnfngabhoaaGreat
/- simileref11.Reduce: told of trees. ALLOC -/
namespace Go.Vl
open Go.RowKit Go.Ev
section
variable{P:Program}{w0:Base}{n:Nat}{st:St}{Q:kS}
theorem vw_frzTabE{c:Code}(d j:Nat){id k:Nat}{To T:TypeId}{L:List (Value×List (List V))}{R:List (List V)}(hR:wAH L=R)(hd:lk st (2*d)=some (.sv (.own id To 1 (hdr L))))(hj:lk st (2*j+1)=some (.fam T k L))(h:VW P w0 n c Q ((2*d,some (.sv (.v (.list R))))::(2*j+1,none)::st)):VW P w0 n c Q st:=by subst hR;exact wO7 d j hd hj h
end
end Go.Vl
namespace Go.Proofs.YtdcjmnfngabhoaaGreat
open Go.RowKit Go.Ev Go.Vl
def okF(x:Rat):Prop:=lm x.num≤17179869184∧lm (x.den:Int)≤17179869184
theorem okF.s{x:Rat}(h:okF x):okS (qn x):=wKF x (pD h.1 (by decide)) (pD h.2 (by decide))
theorem sgnR(x:Rat):sgnQ (qn x)=0↔x=0:=by
 unfold sgnQ;show sgn (intOf (zn x.num))*sgn (intOf (zn (x.den:Int)))=0↔_;rw[wF,wF];have h1:=wAI x.num;have h2:=wAI (x.den:Int);have h3:=x.den_pos;have e:sgn (x.den:Int)=1:=by omega
 rw[e,Int.mul_one,←pH9];omega
theorem famR_swap{hs:List Value}{R:List (List Rat)}{k a:Nat}{hk ha:Value}{rk ra:List Rat}(e1:hs[k]? = some hk)(e2:hs[a]? = some ha)(e3:R[k]? = some rk)(e4:R[a]? = some ra):(xA hs R).Perm (xA ((hs.set k ha).set a hk) (Dt.swapL k a R)):=by
 have h1:=wWE (wA4 e1 e3) (wA4 e2 e4);have hkR:=(pI.1 e3).1;have haR:=(pI.1 e4).1;have h2:xA ((hs.set k ha).set a hk) (Dt.swapL k a R)=((xA hs R).set k (ha,zD ra)).set a (hk,zD rk):=by
  have d1:R.getD a []=ra:=by rw[pE,e4];rfl
  have d2:R.getD k []=rk:=by rw[pE,e3];rfl
  unfold Dt.swapL xA;rw[d1,d2];apply mB;intro q;simp only[List.getElem?_zipWith,List.getElem?_set,List.length_set,List.length_zipWith];have hkh:=(pI.1 e1).1;have hah:=(pI.1 e2).1;by_cases h1:a=q
  ·rw[if_pos h1,if_pos h1,if_pos h1,if_pos hah,if_pos haR,if_pos (by omega)]
  ·rw[if_neg h1,if_neg h1,if_neg h1];by_cases h2:k=q
   ·rw[if_pos h2,if_pos h2,if_pos h2,if_pos hkh,if_pos hkR,if_pos (by omega)]
   ·rw[if_neg h2,if_neg h2,if_neg h2]
 rw[h2];exact h1
theorem entR{R:List (List Rat)}{i j:Nat}{r:List Rat}{x:Rat}(h:R[i]? = some r)(h2:r[j]? = some x):Dt.ent R i j=x:=by unfold Dt.ent;rw[show R.getD i []=r by rw[pE,h];rfl,pE,h2];rfl
theorem wE5(Q:List (List Rat)):∀c,(Dt.downR ⟨Q,[]⟩ c).rows.length=Q.length
 |0=>rfl
 |c+1=>by
  rw[Dt.downR_succ];unfold Dt.colR;dsimp only;split
  ·show(Dt.redL _ _ (Dt.swapL _ _ _)).length=_;rw[Dt.red_len,Dt.swap_len];exact wE5 Q c
  ·exact wE5 Q c
theorem wL6{m:Nat}{Q:List (List Rat)}(hw:Dt.wide m Q):∀c,Dt.wide m (Dt.downR ⟨Q,[]⟩ c).rows
 |0=>hw
 |c+1=>by
  have ih:=wL6 hw c;rw[Dt.downR_succ];unfold Dt.colR;dsimp only;split
  ·rename_i h;have h3:=(Dt.firstQ_spec (k:=(Dt.downR ⟨Q,[]⟩ c).piv.length) (c:=c) (R:=(Dt.downR ⟨Q,[]⟩ c).rows)).2.2;show Dt.wide m (Dt.redL _ _ (Dt.swapL _ _ _));exact Dt.red_wide (Dt.swap_wide ih (by omega) h) (by rw[Dt.swap_len];omega)
  ·exact ih
theorem qG0(Q:List (List Rat)):∀c,(Dt.downR ⟨Q,[]⟩ c).piv.length≤Q.length
 |0=>pN _
 |c+1=>by
  have ih:=wE5 Q c;have ih2:=qG0 Q c;rw[Dt.downR_succ];unfold Dt.colR;dsimp only;split
  ·rename_i h;have h3:=(Dt.firstQ_spec (k:=(Dt.downR ⟨Q,[]⟩ c).piv.length) (c:=c) (R:=(Dt.downR ⟨Q,[]⟩ c).rows)).2.2;rw[mC];simp only[List.length_singleton];omega
  ·exact ih2
theorem qA7{n d:Int}{K:Nat}(hd:d≠0)(h1:lm n≤K)(h2:lm d≤K)(hK:K≤68719476736):okS (qn (Rat.divInt n d)):=by obtain⟨e1,e2⟩:=v7 n d hd;exact wKF _ (by omega) (by omega)
theorem okF.inv{x:Rat}(h:okF x)(h0:x≠0):okS (qn x⁻¹):=by rw[Rat.inv_def];exact qA7 (fun e=>h0 (pH9.1 e)) h.2 h.1 (by decide)
theorem okF.mul{x y:Rat}(h:okF x)(h':okF y):okS (qn (x*y)):=by
 have e:x*y=Rat.divInt (x.num*y.num) (x.den*y.den):=by
  conv=>lhs;rw[←fB x,←fB y]
  rw[gV]
 have l1:=jN x.num y.num;have l2:=jN (x.den:Int) (y.den:Int);have:=h.1;have:=h.2;have:=h'.1;have:=h'.2;rw[e];exact qA7 (K:=34359738368) (dT (by have:=x.den_nz;omega) (by have:=y.den_nz;omega)) (by omega) (by omega) (by decide)
theorem red_k{k c:Nat}{R:List (List Rat)}{rk:List Rat}(h:R[k]? = some rk):(Dt.redL k c R)[k]? = some (rk.map fun x=>x*(Dt.ent R k c)⁻¹):=by unfold Dt.redL;dsimp only;rw[fE,h,show R.getD k []=rk by rw[pE,h];rfl];show some (if k=k then _ else _)=_;rw[if_pos rfl]
theorem red_i{k c i:Nat}{R:List (List Rat)}{rk ri:List Rat}(h:R[k]? = some rk)(hi:R[i]? = some ri)(hne:i≠k):(Dt.redL k c R)[i]? = some (List.zipWith (fun x y=>x-Dt.ent R i c*y) ri (rk.map fun x=>x*(Dt.ent R k c)⁻¹)):=by unfold Dt.redL;dsimp only;rw[fE,hi,show R.getD k []=rk by rw[pE,h];rfl];show some (if i=k then _ else _)=_;rw[if_neg hne]
theorem swap_mem{k a:Nat}{R:List (List Rat)}(hk:k<R.length)(ha:a<R.length){r:List Rat}(h:r∈Dt.swapL k a R):r∈R:=by
 unfold Dt.swapL at h;have e:∀q,q<R.length→R.getD q []∈R:=fun q hq=>by rw[pE,pG hq];exact fK hq
 rcases dO h with h|rfl
 ·rcases dO h with h|rfl
  ·exact h
  ·exact e a ha
 ·exact e k hk
theorem mix_eq{α:Type}{n r:List α}(h:n.length=r.length){q:Nat}(e:n[q]? = r[q]?):n.take (q+1)++r.drop (q+1)=n.take q++r.drop q:=by
 apply mB;intro p;rw[jR h,jR h];by_cases hp:p=q
 ·subst hp;rw[if_pos (by omega),if_neg (by omega),e]
 ·by_cases h1:p<q
  ·rw[if_pos (by omega),if_pos h1]
  ·rw[if_neg (by omega),if_neg h1]
theorem zip_zero{a b:List Rat}(h:a.length=b.length):List.zipWith (fun x y=>x-0*y) a b=a:=by
 apply mB;intro q;rw[cD];cases h1:a[q]? with
 |none=>rfl
 |some x=>
  obtain⟨y,hy⟩:∃y,b[q]? = some y:=⟨_,pG (by have:=(pI.1 h1).1;omega)⟩
  rw[hy];show some (x-0*y)=some x;rw[pB7,Rat.sub_eq_add_neg,Rat.neg_zero,Rat.add_zero]
theorem reduce_v(Q:List (List Rat))(n m:Nat)(hQ:Q.length=n)(hw:Dt.wide m Q)(hn0:n≠0)(hn:n≤1048576)(hm:m≤1048576)(hb:∀c,c≤m→∀r∈(Dt.downR ⟨Q,[]⟩ c).rows,∀x∈r,okF x) :
  wG Tryz.prog 37 [.list (kN Q)] (fun y=>y=.tup [.list ((kN (Dt.downR ⟨Q,[]⟩ m).rows).take (Dt.downR ⟨Q,[]⟩ m).piv.length),.list (vJ (Dt.downR ⟨Q,[]⟩ m).piv)]):=by
 refine wD wE Tryz.func37 rfl rfl rfl rfl fun w0=>?_;have hlen:=(yB Q).trans hQ;repeat (first|refine wI2 2 _ (fun c h=>wI3 202 4 79 [] (fun p h=>by cases h) (jL (d:=4) (id:=1) (k:=1) (T:=76) rfl rfl rfl rfl h)) ?_|refine wg rfl (sL hlen) ?_|refine wv ?_|refine wz ?_)
 refine wP (fun b:Nat×List Value=>[(8,some (.sv (.own 1 76 1 (zC b.2)))),(32,some (.sv (.v (.list (kN Q))))),(34,some (.sv (.v (.int .i64 (n:Nat))))),(36,some (.sv (.v (.int .i64 (b.1:Nat))))),(405,some (.fam 79 4 (xA b.2 (Q.take b.1))))])
  (fun b=>b.1≤n∧b.2.length=b.1) (fun b=>n-b.1) (0,[]) (fun _=>rfl) ⟨pN _,rfl⟩ ⟨⟨_,rfl⟩,rfl,rfl,rfl,rfl,trivial⟩ fun⟨i,hs⟩ hI=>?_
 obtain⟨h1,h2⟩:=hI;dsimp only at h1 h2 ⊢;rcases pK i n with hi|hi
 ·obtain⟨r,hr⟩:∃r,Q[i]? = some r:=⟨_,pG (by omega)⟩
  have hg:=wSF hr;have hrm:r.length=m:=hw r (pF hr);have hrl:(zD r).length=m:=(jJ r).trans hrm;have hr4:=rowR4 r;have hhl:(zC hs).length=i:=by rw[kF];exact h2
  have htk:(Q.take i).length=i:=by rw[pV];omega
  have hfam:∀z,xA hs (Q.take i)++[(z,zD r)]=xA (hs++[z]) (Q.take (i+1)):=fun z=>by rw[famR_snoc (by omega),cI,hr];rfl
  repeat (first|refine wK3 5 rfl ?_|refine sq_name 25 202 rfl (.inl rfl) fun u=>?_|refine wg rfl (sX i hg) ?_|refine sq_opf rfl rfl rfl (qZ (id:=7002) (es:=zC hs) (es2:=[[V.raw u]]) (m:=1) (bb:=24) wE rfl rfl rfl rfl rfl rfl rfl rfl rfl rfl rfl (row1r _) rfl (by simp only[maxLen,List.length_singleton];omega) (by simp only[List.length_singleton];omega) rfl rfl rfl) rfl ?_|refine sq_g rfl rfl (qZ (id:=7001) (es:=[]) (es2:=zD r) (m:=4) (bb:=64) wE rfl rfl rfl rfl rfl rfl rfl rfl rfl rfl rfl hr4 rfl (by simp only[maxLen,List.length_nil];omega) (by simp only[List.length_nil];omega) rfl rfl rfl) rfl ?_|refine sq_v wE rfl rfl rfl rfl ?_|refine wEH rfl ?_|refine wv ?_|refine wg rfl cT ?_|refine wg rfl sB ?_|refine wz ?_)
  exact⟨(i+1,hs++[u]),⟨hi,by rw[mC,h2];rfl⟩,by dsimp only;omega,by dsimp only;rw[←wXH];exact⟨_,rfl⟩,rfl,rfl,rfl,by dsimp only;rw[←hfam];rfl,trivial⟩
 ·obtain rfl:i=n:=by omega
  rw[show Q.take i=Q from pR (by omega)];have hhl:(zC hs).length=i:=by rw[kF];exact h2
  have hi0:((i:Nat):Int)≠0:=by omega
  repeat (first|refine wI2 8 _ (fun c h=>jL (d:=7) (id:=1) (k:=1) (T:=3) rfl rfl rfl rfl h) ?_|refine wg rfl (sL hhl) ?_|refine wv ?_|refine wg rfl cF ?_|refine wz ?_)
  have hlenR:=fun b=>(wE5 Q b).trans hQ;have hwR:=wL6 hw;have hkR:=fun b=>(hQ ▸ qG0 Q b:(Dt.downR ⟨Q,[]⟩ b).piv.length≤i)
  clear hlen hQ h1 hi hw;refine vw_name 4 201 (L:=[]) rfl (.inr ⟨rfl,rfl⟩) fun hu=>?_;refine wP (fun b:Nat×List Value×Dt.RS=>[(8,some (.sv (.v (.raw hu)))),(403,some (.fam 76 1 [(hu,zC b.2.1)])),(14,some (.sv (.own 1 3 1 (vJ b.2.2.piv)))),(16,some (.sv (.v (.int .i64 (b.1:Nat))))),(405,some (.fam 79 4 (xA b.2.1 b.2.2.rows)))])
   (fun b=>b.1≤m∧b.2.1.length=i∧b.2.2=Dt.downR ⟨Q,[]⟩ b.1) (fun b=>m-b.1) (0,hs,⟨Q,[]⟩) (fun _=>rfl) ⟨pN _,h2,rfl⟩ ⟨rfl,rfl,⟨_,rfl⟩,rfl,rfl,trivial⟩ fun⟨c,hs,s⟩ hI=>?_
  obtain⟨h1,h2,h3⟩:=hI;dsimp only at h1 h2 h3 ⊢;have hRl:=hlenR c;have hRw:=hwR c;have hok:=hb c h1;have hkm:=hkR c;rw[←h3]at hRl hRw hok hkm;have hhl:(zC hs).length=i:=by rw[kF];exact h2
  have hpl:(vJ s.piv).length=s.piv.length:=pH ..;obtain⟨z0,ez0⟩:∃h,hs[0]? = some h:=⟨_,pG (by omega)⟩
  obtain⟨r0,er0⟩:∃x,s.rows[0]? = some x:=⟨_,pG (by omega)⟩
  have a1:0<(zC hs).length:=by omega
  have a2:=vY ez0;have a3:=wA4 ez0 er0;have a4:(zD r0).length=m:=(jJ r0).trans (hRw r0 (pF er0));rcases pK c m with hc|hc
  ·have hnext:=Dt.downR_succ ⟨Q,[]⟩ c;have hok':=hb (c+1) hc;rw[hnext]at hok';rw[←h3]at hnext hok';clear h3;obtain⟨R,pv⟩:=s;dsimp only at hRl hRw hok hkm hhl hpl a2 a3 a4 hnext ⊢;obtain⟨a,ha⟩:∃a,Dt.firstQ pv.length c R=a:=⟨_,rfl⟩
   have hsp:=Dt.firstQ_spec (k:=pv.length) (c:=c) (R:=R);rw[ha]at hsp;obtain⟨sp1,sp2,sp3⟩:=hsp;repeat (first|refine wg rfl (sL hpl) ?_|refine wg rfl (wV (j:=201) (r:=0) (i:=0) wE rfl rfl rfl rfl rfl rfl rfl rfl a1 rfl) ?_|refine wg rfl (qV (j:=201) (r:=0) wE rfl rfl rfl rfl a2 rfl rfl rfl) ?_|refine wg rfl (qG (j:=202) (r:=0) wE rfl rfl rfl rfl rfl rfl rfl a3 a4 rfl) ?_|refine wv ?_|refine wg rfl cT ?_|refine wz ?_)
   refine wP (fun b:Nat=>[(8,some (.sv (.v (.raw hu)))),(403,some (.fam 76 1 [(hu,zC hs)])),(14,some (.sv (.own 1 3 1 (vJ pv)))),(16,some (.sv (.v (.int .i64 (c:Nat))))),(405,some (.fam 79 4 (xA hs R))),(18,some (.sv (.v (.int .i64 (pv.length:Nat))))),(20,some (.sv (.v (.int .i64 (b:Nat)))))])
    (fun b=>pv.length≤b∧b≤i∧b≤a) (fun b=>i-b) pv.length (fun _=>rfl) ⟨pC _,hkm,sp3⟩ ⟨rfl,rfl,⟨_,rfl⟩,rfl,rfl,rfl,rfl,trivial⟩ fun t ht=>?_
   obtain⟨t1,t2,t3⟩:=ht;rcases pK t i with hti|hti
   ·obtain ⟨zt,ezt⟩:∃h,hs[t]? = some h:=⟨_,pG (by omega)⟩
    obtain⟨rt,ert⟩:∃x,R[t]? = some x:=⟨_,pG (by omega)⟩
    have hrtl:rt.length=m:=hRw rt (pF ert);obtain⟨x,ex⟩:∃x,rt[c]? = some x:=⟨_,pG (by omega)⟩
    have hxo:=(hok rt (pF ert) x (pF ex)).s;have q1:=qD9 (qn x) hxo.ok.1 hxo.ok.2;have hsg:=sgnR x;have hxe:=entR ert ex;have b1:t<(zC hs).length:=by omega
    have b2:=vY ezt;have b3:=wA4 ezt ert;have b4:c<(zD rt).length:=by rw[jJ];omega
    have b5:=wIF ex;generalize sgnQ (qn x)=sg at *
    by_cases hx:x=0
    ·have h0:=hsg.2 hx;have hta:t<a:=by
      rcases pK t a with h|h
      ·exact h
      ·have:t=a:=by omega
       subst this;exact absurd (hxe.trans hx) (sp2 (by omega))
     generalize qn x=qx at *
     obtain⟨⟨x1,l1⟩,⟨x2,l2⟩⟩:=qx;repeat (first|refine wg rfl (qG (j:=201) (r:=0) wE rfl rfl rfl rfl rfl rfl rfl rfl hhl rfl) ?_|refine wg rfl (wV (j:=201) (r:=0) (i:=t) wE rfl rfl rfl rfl rfl rfl rfl rfl b1 rfl) ?_|refine wg rfl (qV (j:=201) (r:=0) wE rfl rfl rfl rfl b2 rfl rfl rfl) ?_|refine wg rfl (wV (j:=202) (r:=t) (i:=c) wE rfl rfl rfl rfl rfl rfl rfl b3 b4 rfl) ?_|refine wg rfl (zG (j:=202) (r:=t) wE rfl rfl rfl b3 b5 rfl rfl (pC _) rfl rfl) ?_|refine wc q1 ?_|refine wv ?_|refine wg rfl cT ?_|refine wg rfl sB ?_|refine wz ?_)
     exact⟨t+1,⟨by omega,hti,hta⟩,by omega,rfl,rfl,⟨_,rfl⟩,rfl,rfl,rfl,rfl,trivial⟩
    ·have h0:sg≠0:=fun e=>hx (hsg.1 e);have hta:t=a:=by
      rcases pK t a with h|h
      ·exact absurd (hxe.symm.trans (sp1 t t1 h (by omega))) hx
      ·omega
     subst hta;have hkt:pv.length<i:=by omega
     obtain⟨zk,ezk⟩:∃h,hs[pv.length]? = some h:=⟨_,pG (by omega)⟩
     obtain⟨rk,erk⟩:∃x,R[pv.length]? = some x:=⟨_,pG (by omega)⟩
     have c1:pv.length<(zC hs).length:=by omega
     have c2:=vY ezk;have c3:(hs.set pv.length zt)[t]? = some zt:=by
      rw[pX];split
      ·exact if_pos (by omega)
      ·exact ezt
     have c4:=vY c3;have c5:t<(zC (hs.set pv.length zt)).length:=by rw[kF,cL];omega
     have u1:[(hu,zC hs)].set 0 (hu,(zC hs).set pv.length (over [.raw zk] 0 (V.raw zt).cells))=[(hu,zC (hs.set pv.length zt))]:=by rw[←wHD];rfl
     have u2:[(hu,zC (hs.set pv.length zt))].set 0 (hu,(zC (hs.set pv.length zt)).set t (over [.raw zt] 0 (V.raw zk).cells))=[(hu,zC ((hs.set pv.length zt).set t zk))]:=by rw[←wHD (hs.set pv.length zt)];rfl
     have hpm:=famR_swap ezk ezt erk ert;have d1:((hs.set pv.length zt).set t zk).length=i:=by rw[cL,cL];exact h2
     have d2:((hs.set pv.length zt).set t zk)[pv.length]? = some zt:=by
      rw[pX];split
      ·rename_i e;rw[←e,ezt]at ezk;rw[←ezk];exact if_pos (by rw[cL];omega)
      ·rw[pX,if_pos rfl,if_pos (by omega)]
     have e1:(Dt.swapL pv.length t R)[pv.length]? = some rt:=by have h5:=Dt.swap_get (R:=R) (k:=pv.length) (a:=t) (by omega) (by omega) pv.length;rw[Dt.sw_left,show R.getD t []=rt by rw[pE,ert];rfl,pE,pG (by rw[Dt.swap_len];omega)]at h5;rw[pG (by rw[Dt.swap_len];omega)];exact congrArg some h5
     have e2:Dt.wide m (Dt.swapL pv.length t R):=Dt.swap_wide hRw (by omega) (by omega);have e3:(Dt.swapL pv.length t R).length=i:=by rw[Dt.swap_len];exact hRl
     have hcol:Dt.colR ⟨R,pv⟩ c=⟨Dt.redL pv.length c (Dt.swapL pv.length t R),pv++[c]⟩:=by unfold Dt.colR;dsimp only;rw[ha,if_pos (by omega)]
     rw[hcol]at hnext hok';dsimp only at hok';clear hcol sp1 sp2 sp3 ha ezk erk;generalize hhs1:(hs.set pv.length zt).set t zk=hs1 at *
     have hok1:∀r∈Dt.swapL pv.length t R,∀x∈r,okF x:=fun r hr=>hok r (swap_mem (by omega) (by omega) hr);generalize Dt.swapL pv.length t R=R1 at *
     have hx1:=entR e1 ex;have nk:=red_k (c:=c) e1;have ni:=fun q ri (hq:R1[q]? = some ri) hne=>red_i (c:=c) e1 hq hne;rw[hx1]at nk ni;have nl:(Dt.redL pv.length c R1).length=R1.length:=Dt.red_len ..;have okx:=hok rt (pF ert) x (pF ex);clear er0 a3 a4 a2 ez0;generalize Dt.redL pv.length c R1=NR at *
     obtain⟨rk',hrk'⟩:∃r,(rt.map fun y=>y*x⁻¹)=r:=⟨_,rfl⟩
     have hrkl:rk'.length=rt.length:=by rw[←hrk',pH]
     rw[hrk']at nk ni;have g0:c<(zD rt).length:=b4;have g1:pv.length<(zC hs1).length:=by rw[kF];omega
     have g2:=vY d2;have g3:=wA4 d2 e1;have q2:=rinv5_v (qn x) hxo (by show intOf (zn x.num)≠0;rw[wF];exact fun e=>hx (pH9.1 e));rw[qY]at q2;have hxi:=okx.inv hx;unfold nR at q2;have hxr:=qY x⁻¹;generalize hxv:qn x⁻¹=xv at *
     generalize hqx:qn x=qx at *
     obtain⟨⟨x1,l1⟩,⟨x2,l2⟩⟩:=qx;obtain⟨⟨v1,k1⟩,⟨v2,k2⟩⟩:=xv;repeat (first|refine wP9 19 202 (xA hs1 R1) rfl hpm ?_|refine wg rfl (qG (j:=201) (r:=0) wE rfl rfl rfl rfl rfl rfl rfl rfl hhl rfl) ?_|refine wg rfl (wV (j:=201) (r:=0) (i:=t) wE rfl rfl rfl rfl rfl rfl rfl rfl b1 rfl) ?_|refine wg rfl (qV (j:=201) (r:=0) wE rfl rfl rfl rfl b2 rfl rfl rfl) ?_|refine wg rfl (wV (j:=202) (r:=t) (i:=c) wE rfl rfl rfl rfl rfl rfl rfl b3 b4 rfl) ?_|refine wg rfl (zG (j:=202) (r:=t) wE rfl rfl rfl b3 b5 rfl rfl (pC _) rfl rfl) ?_|refine wc q1 ?_|refine wg rfl (wV (j:=201) (r:=0) (i:=pv.length) wE rfl rfl rfl rfl rfl rfl rfl rfl c1 rfl) ?_|refine wg rfl (qV (j:=201) (r:=0) wE rfl rfl rfl rfl c2 rfl rfl rfl) ?_|refine wg rfl (kM (j:=201) (r:=0) wE rfl rfl rfl rfl c2 rfl rfl rfl rfl (pC _) rfl u1) ?_|refine wg rfl (wV (j:=201) (r:=0) (i:=t) wE rfl rfl rfl rfl rfl rfl rfl rfl c5 rfl) ?_|refine wg rfl (kM (j:=201) (r:=0) wE rfl rfl rfl rfl c4 rfl rfl rfl rfl (pC _) rfl u2) ?_|refine wg rfl (wV (j:=201) (r:=0) (i:=pv.length) wE rfl rfl rfl rfl rfl rfl rfl rfl g1 rfl) ?_|refine wg rfl (qV (j:=201) (r:=0) wE rfl rfl rfl rfl g2 rfl rfl rfl) ?_|refine wg rfl (wV (j:=202) (r:=pv.length) (i:=c) wE rfl rfl rfl rfl rfl rfl rfl g3 g0 rfl) ?_|refine wg rfl (zG (j:=202) (r:=pv.length) wE rfl rfl rfl g3 b5 rfl rfl (pC _) rfl rfl) ?_|refine wc q2 ?_|refine wg rfl (qG (j:=202) (r:=pv.length) wE rfl rfl rfl rfl rfl rfl rfl g3 ((jJ rt).trans hrtl) rfl) ?_|refine wl ?_|refine wv ?_|refine wg rfl cT ?_|refine wg rfl cF ?_|refine wz ?_)
     have hm0:R1.set pv.length (rk'.take 0++rt.drop 0)=R1:=by
      apply mB;intro q;rw[pX];by_cases hq:pv.length=q
      ·subst hq;rw[if_pos rfl,if_pos (by omega),e1];simp
      ·rw[if_neg hq]
     refine wP (fun j:Nat=>[(8,some (.sv (.v (.raw hu)))),(403,some (.fam 76 1 [(hu,zC hs1)])),(14,some (.sv (.own 1 3 1 (vJ pv)))),(16,some (.sv (.v (.int .i64 (c:Nat))))),(18,some (.sv (.v (.int .i64 (pv.length:Nat))))),(22,some (.sv (.bx 11 0))),(23,some (.bx [.v (.bool v1),.v (vL k1),.v (.bool v2),.v (vL k2)])),(180,some (.sv (.v (.int .i64 (m:Nat))))),(182,some (.sv (.v (.int .i64 (j:Nat))))),(405,some (.fam 79 4 (xA hs1 (R1.set pv.length (rk'.take j++rt.drop j)))))])
      (fun j=>j≤m) (fun j=>m-j) 0 (fun _=>rfl) (pN _) ⟨rfl,rfl,⟨_,rfl⟩,rfl,rfl,rfl,rfl,rfl,rfl,by rw[hm0];rfl,trivial⟩ fun j hj=>?_
     rcases pK j m with hjm|hjm
     ·obtain⟨y,ey⟩:∃y,rt[j]? = some y:=⟨_,pG (by omega)⟩
      have oky:=hok rt (pF ert) y (pF ey);have q3:=wQI (qn y) ((v1,k1),(v2,k2)) oky.s hxi;rw[qY,hxr]at q3;have hml:(rk'.take j++rt.drop j).length=m:=(wJ0 hrkl j).trans hrtl;have hmj:(rk'.take j++rt.drop j)[j]? = some y:=by rw[jR hrkl,if_neg (by omega),ey]
      have hnj:rk'[j]? = some (y*x⁻¹):=by rw[←hrk',pJ,ey];rfl
      have hrow:(R1.set pv.length (rk'.take j++rt.drop j))[pv.length]? = some (rk'.take j++rt.drop j):=by rw[pX,if_pos rfl,if_pos (by omega)]
      have p1:=wA4 d2 hrow;have p2:=wIF hmj;have p3:j<(zD (rk'.take j++rt.drop j)).length:=by rw[jJ,hml];exact hjm
      have p4:(xA hs1 (R1.set pv.length (rk'.take j++rt.drop j))).set pv.length (zt,(zD (rk'.take j++rt.drop j)).set j (qU (qn (y*x⁻¹))))=xA hs1 (R1.set pv.length (rk'.take (j+1)++rt.drop (j+1))):=by rw[qDB,qFB d2 (by rw[cL];omega),pH1,wDF hrkl hnj]
      generalize rk'.take j++rt.drop j=mr at *
      unfold nR at q3;generalize qn (y*x⁻¹)=qw at *
      generalize qn y=qy at *
      obtain⟨⟨y1,j1⟩,⟨y2,j2⟩⟩:=qy;obtain⟨⟨w1,i1⟩,⟨w2,i2⟩⟩:=qw;repeat (first|refine wg rfl (wV (j:=201) (r:=0) (i:=pv.length) wE rfl rfl rfl rfl rfl rfl rfl rfl g1 rfl) ?_|refine wg rfl (qV (j:=201) (r:=0) wE rfl rfl rfl rfl g2 rfl rfl rfl) ?_|refine wg rfl (wV (j:=202) (r:=pv.length) (i:=j) wE rfl rfl rfl rfl rfl rfl rfl p1 p3 rfl) ?_|refine wg rfl (zG (j:=202) (r:=pv.length) wE rfl rfl rfl p1 p2 rfl rfl (pC _) rfl rfl) ?_|refine wc q3 ?_|refine wg rfl (kM (j:=202) (r:=pv.length) wE rfl rfl rfl p1 p2 rfl rfl rfl rfl (pC _) rfl p4) ?_|refine wv ?_|refine wg rfl cT ?_|refine wg rfl sB ?_|refine wz ?_)
      exact⟨j+1,hjm,by omega,rfl,rfl,⟨_,rfl⟩,rfl,rfl,rfl,rfl,rfl,rfl,rfl,trivial⟩
     ·obtain rfl:j=m:=by omega
      rw[show rk'.take j++rt.drop j=rk' by rw[pR (by omega),mA (by omega),bN]];have k2:(R1.set pv.length rk')[pv.length]? = some rk':=by rw[pX,if_pos rfl,if_pos (by omega)]
      have i2:∀q,q≠pv.length→(R1.set pv.length rk')[q]? = R1[q]?:=fun q hq=>by rw[pX,if_neg (fun e=>hq e.symm)]
      have l2:(R1.set pv.length rk').length=i:=by rw[cL];exact e3
      generalize R1.set pv.length rk'=R2 at *
      have hNR:NR.length=R2.length:=by omega
      have hhl1:(zC hs1).length=i:=by rw[kF];exact d1
      clear q2 hxr hxi hsg hxe b1 b2 b3 b4 b5 g0 g3 c1 c2 c3 c4 c5 u1 u2 hpm hm0;repeat (first|refine wg rfl (qG (j:=201) (r:=0) wE rfl rfl rfl rfl rfl rfl rfl rfl hhl1 rfl) ?_|refine wv ?_|refine wg rfl cF ?_|refine wz ?_)
      refine wP (fun q:Nat=>[(8,some (.sv (.v (.raw hu)))),(403,some (.fam 76 1 [(hu,zC hs1)])),(14,some (.sv (.own 1 3 1 (vJ pv)))),(16,some (.sv (.v (.int .i64 (c:Nat))))),(18,some (.sv (.v (.int .i64 (pv.length:Nat))))),(222,some (.sv (.v (.int .i64 (i:Nat))))),(224,some (.sv (.v (.int .i64 (q:Nat))))),(405,some (.fam 79 4 (xA hs1 (NR.take q++R2.drop q))))])
       (fun q=>q≤i) (fun q=>i-q) 0 (fun _=>rfl) (pN _) ⟨rfl,rfl,⟨_,rfl⟩,rfl,rfl,rfl,rfl,rfl,trivial⟩ fun q hq=>?_
      rcases pK q i with hqi|hqi
      ·by_cases hqk:q=pv.length
       ·subst hqk;have hmx:=mix_eq hNR (nk.trans k2.symm);repeat (first|refine wv ?_|refine wg rfl cT ?_|refine wg rfl nF ?_|refine wg rfl sB ?_|refine vD rfl rfl rfl rfl rfl rfl ?_|refine wz ?_)
        exact⟨pv.length+1,hqi,by omega,rfl,rfl,⟨_,rfl⟩,rfl,rfl,rfl,rfl,by rw[hmx];rfl,trivial⟩
       ·obtain⟨rq,erq⟩:∃x,R1[q]? = some x:=⟨_,pG (by omega)⟩
        obtain⟨zq,ezq⟩:∃h,hs1[q]? = some h:=⟨_,pG (by omega)⟩
        have hrql:rq.length=j:=e2 rq (pF erq);obtain⟨f,ef⟩:∃x,rq[c]? = some x:=⟨_,pG (by omega)⟩
        have okf:=hok1 rq (pF erq) f (pF ef);have hfe:=entR erq ef;have hnq:=ni q rq erq hqk;rw[hfe]at hnq;have hcq:(NR.take q++R2.drop q)[q]? = some rq:=by rw[jR hNR,if_neg (by omega),i2 q hqk,erq]
        have hck:(NR.take q++R2.drop q)[pv.length]? = some rk':=by
         rw[jR hNR];split
         ·exact nk
         ·exact k2
        have hcl:(NR.take q++R2.drop q).length=i:=(wJ0 hNR q).trans l2;have hq1:q<(zC hs1).length:=by omega
        have hq2:=vY ezq;have hq3:=wA4 ezq hcq;have hq4:c<(zD rq).length:=by rw[jJ];omega
        have hq5:=wIF ef;have hq6:=(jJ rq).trans hrql;have q7:=qD9 (qn f) okf.s.ok.1 okf.s.ok.2;have hsf:=sgnR f;generalize sgnQ (qn f)=sf at *
        by_cases hf0:f=0
        ·have hz:=hsf.2 hf0;have hmx:=mix_eq hNR (q:=q) (by rw[hnq,hf0,zip_zero (by omega),i2 q hqk,erq]);generalize NR.take q++R2.drop q=cur at *
         generalize qn f=qf at *
         obtain⟨⟨f1,o1⟩,⟨f2,o2⟩⟩:=qf;repeat (first|refine wg rfl (wV (j:=201) (r:=0) (i:=q) wE rfl rfl rfl rfl rfl rfl rfl rfl hq1 rfl) ?_|refine wg rfl (qV (j:=201) (r:=0) wE rfl rfl rfl rfl hq2 rfl rfl rfl) ?_|refine wg rfl (wV (j:=202) (r:=q) (i:=c) wE rfl rfl rfl rfl rfl rfl rfl hq3 hq4 rfl) ?_|refine wg rfl (zG (j:=202) (r:=q) wE rfl rfl rfl hq3 hq5 rfl rfl (pC _) rfl rfl) ?_|refine wc q7 ?_|refine wv ?_|refine wg rfl cT ?_|refine wg rfl nT ?_|refine wg rfl nF ?_|refine wg rfl sB ?_|refine wz ?_)
         exact⟨q+1,hqi,by omega,rfl,rfl,⟨_,rfl⟩,rfl,rfl,rfl,rfl,by rw[hmx];rfl,trivial⟩
        ·have hz:sf≠0:=fun e=>hf0 (hsf.1 e);obtain⟨nq,hnqe⟩:∃r,List.zipWith (fun x y=>x-f*y) rq rk'=r:=⟨_,rfl⟩
         rw[hnqe]at hnq;have hnql:nq.length=rq.length:=by rw[←hnqe,dL];omega
         have hmx:(NR.take q++R2.drop q).set q nq=NR.take (q+1)++R2.drop (q+1):=wDF hNR hnq;have hmx0:(NR.take q++R2.drop q).set q (nq.take 0++rq.drop 0)=NR.take q++R2.drop q:=by
          apply mB;intro p;rw[pX];by_cases hp:q=p
          ·subst hp;rw[if_pos rfl,if_pos (by omega),hcq];simp
          ·rw[if_neg hp]
         have okrk:∀y∈rk',okF y:=hok' rk' (pF nk);have okrq:∀y∈rq,okF y:=hok1 rq (pF erq);have hfr:=qY f;have okfs:=okf.s;generalize hcur:NR.take q++R2.drop q=cur at *
         generalize hqf:qn f=qf at *
         obtain⟨⟨f1,o1⟩,⟨f2,o2⟩⟩:=qf;repeat (first|refine wg rfl (wV (j:=201) (r:=0) (i:=q) wE rfl rfl rfl rfl rfl rfl rfl rfl hq1 rfl) ?_|refine wg rfl (qV (j:=201) (r:=0) wE rfl rfl rfl rfl hq2 rfl rfl rfl) ?_|refine wg rfl (wV (j:=202) (r:=q) (i:=c) wE rfl rfl rfl rfl rfl rfl rfl hq3 hq4 rfl) ?_|refine wg rfl (zG (j:=202) (r:=q) wE rfl rfl rfl hq3 hq5 rfl rfl (pC _) rfl rfl) ?_|refine wc q7 ?_|refine wg rfl (qG (j:=202) (r:=q) wE rfl rfl rfl rfl rfl rfl rfl hq3 hq6 rfl) ?_|refine wl ?_|refine wv ?_|refine wg rfl cT ?_|refine wg rfl nT ?_|refine wz ?_)
         refine wP (fun p:Nat=>[(8,some (.sv (.v (.raw hu)))),(403,some (.fam 76 1 [(hu,zC hs1)])),(14,some (.sv (.own 1 3 1 (vJ pv)))),(16,some (.sv (.v (.int .i64 (c:Nat))))),(18,some (.sv (.v (.int .i64 (pv.length:Nat))))),(222,some (.sv (.v (.int .i64 (i:Nat))))),(224,some (.sv (.v (.int .i64 (q:Nat))))),(26,some (.sv (.v (.int .i64 (q:Nat))))),(28,some (.sv (.bx 14 0))),(29,some (.bx [.v (.bool f1),.v (vL o1),.v (.bool f2),.v (vL o2)])),(280,some (.sv (.v (.int .i64 (j:Nat))))),(282,some (.sv (.v (.int .i64 (p:Nat))))),(405,some (.fam 79 4 (xA hs1 (cur.set q (nq.take p++rq.drop p)))))])
          (fun p=>p≤j) (fun p=>j-p) 0 (fun _=>rfl) (pN _) ⟨rfl,rfl,⟨_,rfl⟩,rfl,rfl,rfl,rfl,rfl,rfl,rfl,rfl,rfl,by rw[hmx0];rfl,trivial⟩ fun p hp=>?_
         rcases pK p j with hpj|hpj
         ·obtain⟨y,ey⟩:∃y,rq[p]? = some y:=⟨_,pG (by omega)⟩
          obtain⟨z,ez⟩:∃y,rk'[p]? = some y:=⟨_,pG (by omega)⟩
          have oky:=okrq y (pF ey);have okz:=okrk z (pF ez);have q3:=wQI ((f1,o1),(f2,o2)) (qn z) okfs okz.s;rw[hfr,qY]at q3;have q4:=rsub5_v (qn y) (qn (f*z)) oky.s (okf.mul okz);rw[qY,qY]at q4;have hml:(nq.take p++rq.drop p).length=j:=(wJ0 hnql p).trans hrql;have hmj:(nq.take p++rq.drop p)[p]? = some y:=by rw[jR hnql,if_neg (by omega),ey]
          have hnj:nq[p]? = some (y-f*z):=by rw[←hnqe,cD,ey,ez]
          have hrow:(cur.set q (nq.take p++rq.drop p))[q]? = some (nq.take p++rq.drop p):=by rw[pX,if_pos rfl,if_pos (by omega)]
          have hrk2:(cur.set q (nq.take p++rq.drop p))[pv.length]? = some rk':=by rw[pX,if_neg hqk];exact hck
          have p1:=wA4 ezq hrow;have p2:=wIF hmj;have p3:p<(zD (nq.take p++rq.drop p)).length:=by rw[jJ,hml];exact hpj
          have s1:=wA4 d2 hrk2;have s2:=wIF ez;have s3:p<(zD rk').length:=by rw[jJ];omega
          have p4:(xA hs1 (cur.set q (nq.take p++rq.drop p))).set q (zq,(zD (nq.take p++rq.drop p)).set p (qU (qn (y-f*z))))=xA hs1 (cur.set q (nq.take (p+1)++rq.drop (p+1))):=by rw[qDB,qFB ezq (by rw[cL];omega),pH1,wDF hnql hnj]
          generalize nq.take p++rq.drop p=mr at *
          unfold nR at q3 q4;generalize qn (y-f*z)=qw at *
          generalize qn (f*z)=qv at *
          generalize qn y=qy at *
          generalize qn z=qz at *
          obtain⟨⟨y1,j1⟩,⟨y2,j2⟩⟩:=qy;obtain⟨⟨z1,g3⟩,⟨z2,g4⟩⟩:=qz;obtain⟨⟨w1,i1⟩,⟨w2,i3⟩⟩:=qw;obtain⟨⟨w3,i4⟩,⟨w4,i5⟩⟩:=qv;clear ey ez hnj;repeat (first|refine wg rfl (wV (j:=201) (r:=0) (i:=q) wE rfl rfl rfl rfl rfl rfl rfl rfl hq1 rfl) ?_|refine wg rfl (qV (j:=201) (r:=0) wE rfl rfl rfl rfl hq2 rfl rfl rfl) ?_|refine wg rfl (wV (j:=201) (r:=0) (i:=pv.length) wE rfl rfl rfl rfl rfl rfl rfl rfl g1 rfl) ?_|refine wg rfl (qV (j:=201) (r:=0) wE rfl rfl rfl rfl g2 rfl rfl rfl) ?_|refine wg rfl (wV (j:=202) (r:=q) (i:=p) wE rfl rfl rfl rfl rfl rfl rfl p1 p3 rfl) ?_|refine wg rfl (zG (j:=202) (r:=q) wE rfl rfl rfl p1 p2 rfl rfl (pC _) rfl rfl) ?_|refine wg rfl (wV (j:=202) (r:=pv.length) (i:=p) wE rfl rfl rfl rfl rfl rfl rfl s1 s3 rfl) ?_|refine wg rfl (zG (j:=202) (r:=pv.length) wE rfl rfl rfl s1 s2 rfl rfl (pC _) rfl rfl) ?_|refine wc q3 ?_|refine wc q4 ?_|refine wg rfl (kM (j:=202) (r:=q) wE rfl rfl rfl p1 p2 rfl rfl rfl rfl (pC _) rfl p4) ?_|refine wv ?_|refine wg rfl cT ?_|refine wg rfl sB ?_|refine wz ?_)
          exact⟨p+1,hpj,by omega,rfl,rfl,⟨_,rfl⟩,rfl,rfl,rfl,rfl,rfl,rfl,rfl,rfl,rfl,rfl,trivial⟩
         ·obtain rfl:p=j:=by omega
          rw[show nq.take p++rq.drop p=nq by rw[pR (by omega),mA (by omega),bN],hmx];repeat (first|refine wv ?_|refine wg rfl cF ?_|refine wg rfl sB ?_|refine wz ?_)
          exact⟨q+1,hqi,by omega,rfl,rfl,⟨_,rfl⟩,rfl,rfl,rfl,rfl,rfl,trivial⟩
      ·obtain rfl:q=i:=by omega
       rw[show NR.take q++R2.drop q=NR by rw[pR (by omega),mA (by omega),bN]];repeat (first|refine wf rfl rfl (qZ (id:=7003) (es:=vJ pv) (es2:=[[V.int .i64 (c:Nat)]]) (m:=1) (bb:=8) wE rfl rfl rfl rfl rfl rfl rfl rfl rfl rfl rfl (wKB _) rfl (by rw[hpl];simp only[maxLen,List.length_singleton];omega) (by rw[hpl];simp only[List.length_singleton];omega) rfl rfl (wIH pv c)) ?_|refine wv ?_|refine wg rfl cF ?_|refine wg rfl sB ?_|refine wz ?_)
       exact⟨(c+1,hs1,⟨NR,pv++[c]⟩),⟨hc,d1,by rw[hnext]⟩,by dsimp only;omega,rfl,rfl,⟨_,rfl⟩,rfl,rfl,trivial⟩
   ·have hti':t=i:=by omega
    subst hti';repeat (first|refine wg rfl (qG (j:=201) (r:=0) wE rfl rfl rfl rfl rfl rfl rfl rfl hhl rfl) ?_|refine wv ?_|refine wg rfl cT ?_|refine wg rfl cF ?_|refine wg rfl sB ?_|refine vD rfl rfl rfl rfl rfl rfl ?_|refine wz ?_)
    refine⟨(c+1,hs,⟨R,pv⟩),⟨hc,h2,?_⟩,by dsimp only;omega,rfl,rfl,⟨_,rfl⟩,rfl,rfl,trivial⟩;rw[hnext];unfold Dt.colR;dsimp only;rw[ha,if_neg (by omega)]
  ·obtain rfl:c=m:=by omega
   subst h3;have hR4:∀e∈kN (Dt.downR ⟨Q,[]⟩ c).rows,e.length=1:=fun e he=>by obtain⟨z,_,rfl⟩:=pO.1 he;rfl
   have hRl2:(Dt.downR ⟨Q,[]⟩ c).piv.length≤(kN (Dt.downR ⟨Q,[]⟩ c).rows).length:=by rw[yB];omega
   generalize Dt.downR ⟨Q,[]⟩ c=s at *
   repeat (first|refine wI2 37 _ (fun c h=>wW7 4 201 0 1 rfl rfl rfl rfl rfl rfl (vw_frzTabE 4 202 (id:=1) (L:=xA hs s.rows) (To:=76) (tab_famR (h2.trans hRl.symm)) (by rw[hdr_famR (h2.trans hRl.symm)];rfl) rfl (wLD (j6 (d:=7) rfl) h))) ?_|refine wg rfl (wV (j:=201) (r:=0) (i:=0) wE rfl rfl rfl rfl rfl rfl rfl rfl a1 rfl) ?_|refine wg rfl (qV (j:=201) (r:=0) wE rfl rfl rfl rfl a2 rfl rfl rfl) ?_|refine wg rfl (qG (j:=202) (r:=0) wE rfl rfl rfl rfl rfl rfl rfl a3 a4 rfl) ?_|refine wg rfl (sL hpl) ?_|refine wg rfl (wPD wE rfl rfl rfl rfl rfl rfl hR4 hRl2 rfl rfl) ?_|refine wv ?_|refine wg rfl cF ?_|refine wz ?_)
   exact⟨.inl rfl,_,rfl,rfl⟩
end Go.Proofs.YtdcjmnfngabhoaaGreat
