/- simileref24.Conjugate and bareiss.Inverse of a fit matrix: told of trees. ALLOC -/
import Derived.Test.YtdcjmnfngabhoaaGreatCc22
import Derived.Defers
import Derived.Recover
import Derived.RegionDies
import Derived.Deep.RegionWith
set_option linter.all false
set_option maxRecDepth 20000
set_option maxHeartbeats 6400000
namespace Go.Proofs.YtdcjmnfngabhoaaGreat
open Go.RowKit Go.Ev Go.Vl
theorem wDE{m m':MM}{n K:Nat}(h:sqM m n K)(h':sqM m' n K)(hn:0<n):xJ m m'=wNA (wJA m m'):=by
 have h0:intOf (zn (intOf m.1*intOf m'.1))≠0:=by rw[wF];exact dT h.den h'.den
 have hc:wS (mulTI m.2 m'.2)≠0:=by unfold mulTI;rw[wWC _ (by rw[h.rows];exact hn),h'.cl hn];omega
 have e1:xJ m m'=wNA (wU (zn (intOf m.1*intOf m'.1),mulTI m.2 m'.2)):=wB5 _ _ h0 hc;have e2:wU (xJ m m')=wU (zn (intOf m.1*intOf m'.1),mulTI m.2 m'.2):=yC _ _ h0 hc;rw[e1,←e2,wOE h.den h'.den (by rw[h.rows];exact hn) (by rw[h'.cl hn];exact hn)]
theorem mulM_congr{m m' p p':MM}{n K:Nat}(h:sqM m n K)(h':sqM m' n K)(k:sqM p n K)(k':sqM p' n K)(hn:0<n)(e:wU m=wU p)(e':wU m'=wU p'):xJ m m'=xJ p p':=by rw[wDE h h' hn,wDE k k' hn,mulQ_congr e e']
theorem mulM_assoc{a b c:MM}{n K:Nat}(ha:sqM a n K)(hb:sqM b n K)(hc:sqM c n K)(hn:0<n)(hn':n≤24)(hK:1≤K):xJ (xJ a b) c=xJ a (xJ b c):=by
 have hab:=ha.mul hb hn hn' hK;have hbc:=hb.mul hc hn hn' hK;have e1:wU (xJ a b)=wBF (wU a) (wU b):=by rw[wOE ha.den hb.den (by rw[ha.rows];exact hn) (by rw[hb.cl hn];exact hn),wA9]
 have e2:wU (xJ b c)=wBF (wU b) (wU c):=by rw[wOE hb.den hc.den (by rw[hb.rows];exact hn) (by rw[hc.cl hn];exact hn),wA9]
 rw[wDE hab (hc.mono (by omega)) hn,wDE (ha.mono (by omega)) hbc hn,wA9,wA9,e1,e2,mulR_assoc (wF6 ha) (wF6 hb) (wF6 hc) hn]
theorem made_idem{m:MM}{n K:Nat}(h:sqM m n K)(hn:0<n):qC (qC m.1 m.2).1 (qC m.1 m.2).2=qC m.1 m.2:=by have k:=h.made hn;rw[wB5 (qC m.1 m.2).1 (qC m.1 m.2).2 k.den (by rw[k.cl hn];omega),wB5 m.1 m.2 h.den (by rw[h.cl hn];omega)];rw[wX2 _ (wX1 m)]
structure NM(p:MM)(D:Int)(N:List (List Int))(n K:Nat):Prop where
 e1:p.1=zn D
 e2:p.2=zT N
 dn:D≠0
 ln:N.length=n
 wd:Dt.wide n N
 dk:lm D≤K
 nk:∀r∈N,∀x∈r,lm x≤K
theorem NM.of{m:MM}{n K:Nat}(h:sqM m n K)(hn:0<n):NM (qC m.1 m.2) (intOf (qC m.1 m.2).1) (intT (qC m.1 m.2).2) n K:=by
 have k:=h.made hn;refine⟨?_,?_,k.den,?_,fun r hr=>?_,?_,fun r hr x hx=>?_⟩
 ·show zn _=zn (intOf (zn _));rw[wF]
 ·unfold zT intT;rw[mU];refine((mP fun r hr=>?_).trans (gS _)).symm;show(r.map intOf).map zn=r;rw[mU];refine(mP fun z hz=>?_).trans (gS _);obtain⟨r',_,rfl⟩:=pO.1 hr;obtain⟨y,_,rfl⟩:=pO.1 hz;show zn (intOf (zn _))=zn _;rw[wF]
 ·unfold intT;rw[pH];exact k.rows
 ·obtain⟨r',hr',rfl⟩:=pO.1 hr;rw[pH];exact k.cols r' hr'
 ·exact pD (w8 _ k.ok.1) k.ok.2.1
 ·obtain⟨r',hr',rfl⟩:=pO.1 hr;obtain⟨z,hz,rfl⟩:=pO.1 hx;have:=(k.ok.2.2.1.2 r' hr').2 z hz;exact pD (w8 _ this.1) this.2
theorem NM.vM{p:MM}{D:Int}{N:List (List Int)}{n K:Nat}(h:NM p D N n K):vM p=.agg [.bool (zn D).1,vL (zn D).2,.list (jA N)]:=by show V.agg [.bool p.1.1,vL p.1.2,vT p.2]=_;rw[h.e1,h.e2,vT_zT]
theorem NM.aug{p:MM}{D:Int}{N:List (List Int)}{n K:Nat}(h:NM p D N n K)(i j:Nat):(Dt.ent (Dt.augI D N) i j).natAbs≤4294967296^K:=by
 have hpos:0<4294967296^K:=cX (by decide);have hin:∀r∈Dt.augI D N,∀x∈r,x.natAbs≤4294967296^K:=fun r hr x hx=>by
  obtain⟨q,hq⟩:=cK hr;unfold Dt.augI at hq;rw[fE]at hq;obtain⟨r',e1,rfl⟩:=bW.1 hq;rcases cJ.1 hx with hx|hx
  ·exact pow_lmK (h.nk r' (pF e1) x hx)
  ·rcases dO hx with hx|rfl
   ·rw[List.eq_of_mem_replicate hx];exact pN _
   ·exact pow_lmK h.dk
 unfold Dt.ent;rw[pE,pE];cases h1:(Dt.augI D N)[i]? with
 |none=>exact pN _
 |some r=>
  rw[mH];cases h2:r[j]? with
  |none=>exact pN _
  |some x=>exact hin r (pF h1) x (pF h2)
theorem NM.rats{p:MM}{D:Int}{N:List (List Int)}{n K:Nat}(h:NM p D N n K):wU p=toQ (wA2 D N):=by rw[wX0,h.e1,h.e2,wF];congr 2;unfold intT zT;rw[mU];refine(mP fun r _=>?_).trans (gS _);show(r.map zn).map intOf=r;rw[mU];exact(mP fun x _=>wF x).trans (gS _)
theorem NM.out{p:MM}{D:Int}{N:List (List Int)}{n K:Nat}(h:NM p D N n K)(hn:0<n)(hn':n≤24)(he:wFA D N=0):sqM (xY D N) n (25*(K+1)+1):=by
 have hG:=Dt.goodB (D:=D) h.ln h.wd n;have hk:¬(Dt.downB (Dt.startB D N) n).piv.length<n:=by unfold wFA invS at he;rw[h.ln]at he;intro hh;rw[if_pos hh]at he;cases he
 unfold xY invS;rw[h.ln,if_neg hk];have hd0:=hG.d0;have hRl:=hG.len;have hRw:=hG.wide;have hpl:(Dt.downB (Dt.startB D N) n).piv.length≤n:=hG.good.kc;have hbd:=bd_lm (n:=n) (K:=K) hn';have hpos:1≤4294967296^K:=cX (by decide);have hBO:=h.aug;generalize hs:Dt.downB (Dt.startB D N) n=s at *
 have hokR:∀a b,lm (Dt.ent s.rows a b)≤25*(K+1)+1:=fun a b=>by refine hbd _ (pD (hG.good.bound (B:=4294967296^K) (N:=n+1) (by omega) hpos hBO a b) ?_);exact mT (gQ (by omega) hpos) (by omega)
 have hdl:lm s.last≤25*(K+1)+1:=by obtain⟨a,b,e⟩:=hG.dlast (by intro e;rw[e]at hk;simp at hk;omega);rw[←e];exact hokR a b
 have hXr:∀r∈zT (s.rows.map (·.drop n)),r.length=n∧∀z∈r,okL z.2∧z.2.length≤25*(K+1)+1:=by intro r hr;obtain⟨r',hr',rfl⟩:=pO.1 hr;obtain⟨r2,hr2,rfl⟩:=pO.1 hr';refine⟨by rw[pH,dM,hRw r2 hr2];omega,fun z hz=>?_⟩;obtain⟨y,hy,rfl⟩:=pO.1 hz;refine⟨wC9 _,?_⟩;rw[zn_lm];obtain⟨a,ha⟩:=cK hr2;obtain⟨b,hb⟩:=cK (dF hy);have:=hokR a b;unfold Dt.ent at this;rw[show s.rows.getD a []=r2 by rw[pE,ha];rfl,pE,hb]at this;exact this
 have hXl:(zT (s.rows.map (·.drop n))).length=n:=by rw[zT_len,pH];exact hRl
 have ho:sqM (wMF s n) n (25*(K+1)+1):=by
  refine⟨⟨wC9 _,hdl,⟨?_,fun r hr=>⟨?_,(hXr r hr).2⟩⟩,?_⟩,wP5 _ (by show intOf (zn s.last)≠0;rw[wF];exact hd0) (wFD _ n fun r hr=>(hXr r hr).1),hXl,fun r hr=>(hXr r hr).1⟩
  ·show(zT (s.rows.map (·.drop n))).length≤_;omega
  ·rw[(hXr r hr).1];omega
  ·show(zT (s.rows.map (·.drop n))).flatten.length≤_;rw[kU fun x hx=>(hXr x hx).1,hXl];exact pD (dR hn' hn') (by decide)
 unfold wG1;rw[if_pos ho.ch];exact ho.made hn
theorem pinv_v{m:MM}{n K:Nat}(h:sqM m n K)(hn:0<n)(hn':n≤24)(hK:K≤268435456)(D:Int)(N:List (List Int))(hM:NM (qC m.1 m.2) D N n K) :
  wG Tryz.prog 27 [vM (qC m.1 m.2)] (fun y=>y=.tup [vM (xY D N),.int .i64 (wFA D N)]):=by
 have k:=h.made hn;have e:sqE (qC m.1 m.2)=0:=by unfold sqE;rw[if_pos k.ch,if_pos ⟨by rw[k.rows,k.cl hn],by rw[k.rows];omega⟩]
 have q:=square_v (qC m.1 m.2).1.1 (qC m.1 m.2).1.2 (qC m.1 m.2).2 (kP k.ok (by omega));have q':wG Tryz.prog 53 [vM (qC m.1 m.2)] (fun y=>y=.tup [vM (sqN (qC m.1 m.2)),.int .i64 (sqE (qC m.1 m.2))]):=q;rw[e,show sqN (qC m.1 m.2)=qC m.1 m.2 by unfold sqN;rw[if_pos e];exact made_idem h hn]at q';have q2:wG Tryz.prog 53 [.agg [.bool (qC m.1 m.2).1.1,vL (qC m.1 m.2).1.2,vT (qC m.1 m.2).2]] (fun y=>y=.tup [.agg [.bool (zn D).1,vL (zn D).2,.list (jA N)],.int .i64 0]):=q'.mono fun y hy=>by rw[hy,hM.vM]
 exact inverse_v _ _ _ D N n q2 hM.ln hM.wd hM.dn (by omega) (by omega) (4294967296^K) (cX (by decide)) hM.aug fun x hx=>pD (bd_lm hn' x hx) (by omega)
theorem NM.okf{p:MM}{D:Int}{N:List (List Int)}{n K:Nat}(h:NM p D N n K)(hn':n≤24)(hK:K≤268435456)(c:Nat):∀r∈(Dt.downR (Dt.startR (wA2 D N)) c).rows,∀x∈r,okF x:=by
 intro r hr x hx;obtain⟨a,ha⟩:=cK hr;obtain⟨b,hb⟩:=cK hx;have hQl:(wA2 D N).length=n:=(pH ..).trans h.ln;have hQw:Dt.wide n (wA2 D N):=fun r hr=>by obtain⟨r',hr',rfl⟩:=pO.1 hr;rw[pH];exact h.wd r' hr'
 obtain⟨w,d,z,e,d0,hz,hw,hd⟩:=Dt.coupB (B:=4294967296^K) h.dn h.ln h.wd hQl hQw (fun i _ j _=>by rw[wSI,dV]) (cX (by decide)) h.aug c a b;rw[entR ha hb]at e;have hz0:z≠0:=by rcases hz with rfl|rfl;decide;exact h.dn
 have hzl:lm z≤K+1:=by
  rcases hz with rfl|rfl
  ·exact pD (lm_pow (k:=0) (by decide)) (by omega)
  ·exact pD h.dk (by omega)
 have l1:=bd_lm hn' w hw;have l2:=bd_lm hn' d hd;have l3:=jN d z;obtain⟨g1,g2⟩:=v7 w (d*z) (dT d0 hz0);rw[e];exact⟨by omega,by omega⟩
def wQ7(m s:MM)(D:Int)(N:List (List Int)):MM:=if wFA D N=0 then xJ (xY D N) (xJ m s)else noM
theorem conj24_v(m s:MM)(n K:Nat)(hn:0<n)(hn':n≤24)(hK1:1≤K)(hK:K≤268435456)(hm:sqM m n K)(hs:sqM s n K)(D:Int)(N:List (List Int))(hM:NM (qC s.1 s.2) D N n K) :
  wG Tryz.prog 9 [vM m,vM s] (fun y=>y=.tup [vM (wQ7 m s D N),.bool (decide (wFA D N=0))]):=by
 refine wD wE Tryz.func9 rfl rfl rfl rfl fun w0=>?_;have q1:=wF4 s.1.1 s.1.2 s.2 ⟨hs.ok.1,pD hs.ok.2.1 (by omega)⟩ hs.den (fun r hr=>⟨pD (hs.ok.2.2.1.2 r hr).1 (by decide),fun z hz=>⟨((hs.ok.2.2.1.2 r hr).2 z hz).1,pD ((hs.ok.2.2.1.2 r hr).2 z hz).2 (by omega)⟩⟩) (by have:=hs.rows;omega);have eR:wU s=toQ (wA2 D N):=by rw[←hM.rats,yC s.1 s.2 hs.den (by rw[hs.cl hn];omega)]
 rw[show((s.1.1,s.1.2),s.2)=s from rfl,eR,qCD]at q1;have hQl:(wA2 D N).length=n:=(pH ..).trans hM.ln;have hQw:Dt.wide n (wA2 D N):=fun r hr=>by obtain⟨r',hr',rfl⟩:=pO.1 hr;rw[pH];exact hM.wd r' hr'
 obtain⟨b1,b2,b3⟩:=inv_both hM.dn hM.ln hM.wd hn;have q2:=inv12_v (wA2 D N) n hQl hQw (by omega) (by omega) (fun c _=>hM.okf hn' hK c) b2;unfold wQ7;by_cases he:wFA D N=0
 ·have hi:=hM.out hn hn' he;have hK2:25*(K+1)+1≤6710886426:=by omega
  rw[b1.1 he,if_pos rfl]at q2;rw[if_pos he,decide_eq_true he];have eI:=b3 he;have hfrom:wNA (wU (xY D N))=xY D N:=by
   have h1:wG1 (wMF (invS D N) N.length)=xY D N:=by unfold xY;rw[if_neg];intro hh;unfold wFA at he;rw[if_pos hh]at he;cases he
   have h2:chk (wMF (invS D N) N.length)=0:=by apply cN;intro hh;unfold wG1 at h1;rw[if_neg hh]at h1;have:=hi.rows;rw[←h1]at this;exact absurd this (by show ¬(0=n);omega)
   unfold wG1 at h1;rw[if_pos h2]at h1;have h3:wS (wMF (invS D N) N.length).2≠0:=by intro hh;have:=hi.cl hn;rw[←h1,wKH,hh]at this;omega
   rw[←h1,yC _ _ (chk0 h2).1 h3,wB5 _ _ (chk0 h2).1 h3]
  have q3:=qF9 (wU (xY D N)) (intOf (xY D N).1).natAbs (by have:=hi.den;omega) (by
    refine pD (jS (y:=intOf (xY D N).1) (by rw[bE];exact pC _)) (pD (w8 _ hi.ok.1) (pD hi.ok.2.1 (by omega)))) (fun q hq=>by
    have hq':=hq;obtain⟨g1,g2,g3⟩:=wGH (kP hi.ok (by omega)) hi.den q hq;rw[v6]at hq';obtain⟨z,hz,rfl⟩:=pO.1 hq';obtain⟨r,hr,hzr⟩:=cY.1 hz;have h4:=(hi.ok.2.2.1.2 r hr).2 z hzr;refine⟨qA7 hi.den (pD (w8 _ h4.1) h4.2) (pD (w8 _ hi.ok.1) hi.ok.2.1) (by omega),?_⟩;rw[qY];exact wU9 _ _ hi.den) (by rw[(wF6 hi).1];omega) (by rw[kU (wF6 hi).2,(wF6 hi).1];exact pD (dR hn' hn') (by decide)) (fun r hr=>by rw[(wF6 hi).2 r hr];omega)
  rw[show(zn (wD1 (wU (xY D N)).flatten:Nat),(wU (xY D N)).map fun r=>r.map (yH (wD1 (wU (xY D N)).flatten:Nat)))=wNA (wU (xY D N))from rfl,hfrom,eI,qCD]at q3;have hmul:∀(a b:MM)(K':Nat),sqM a n K'→sqM b n K'→K'≤17179869184→wG Tryz.prog 21 [vM a,vM b] (fun y=>y=vM (xJ a b)):=fun a b K' ha hb hk=>by have e1:=ha.cl hn;have e2:=hb.cl hn;have:=mul11_v a.1.1 b.1.1 a.1.2 b.1.2 a.2 b.2 (kP ha.ok hk) (kP hb.ok hk) ha.den hb.den (fun r hr=>by rw[ha.cols r hr,e1]) (fun r hr=>by rw[hb.cols r hr,e2]) (by rw[hb.rows,e1]) (by omega) (by rw[ha.rows];exact hn) (by omega) (by rw[ha.rows,e2];exact pD (dR hn' hn') (by decide));rw[wDE ha hb hn];exact this
  have hms:=hm.mul hs hn hn' hK1;have q4:=hmul m s K hm hs (by omega);have q5:=hmul (xY D N) (xJ m s) 6710886426 (hi.mono hK2) (hms.mono (by omega)) (by decide);generalize xJ (xY D N) (xJ m s)=R at *
  generalize xJ m s=P at *
  generalize xY D N=I at *
  clear hi hms hmul hfrom eI b1 b2 b3 eR hM hm hs;obtain⟨⟨x,l⟩,t⟩:=m;obtain⟨⟨x',l'⟩,t'⟩:=s;obtain⟨⟨y,k⟩,u⟩:=R;obtain⟨⟨y',k'⟩,u'⟩:=P;obtain⟨⟨y2,k2⟩,u2⟩:=I;repeat (first|refine wc q1 ?_|refine wc q2 ?_|refine wc q3 ?_|refine wc q4 ?_|refine wc q5 ?_|refine wl ?_|refine wv ?_|refine wz ?_)
  exact⟨.inl rfl,_,rfl,rfl⟩
 ·have hno:idP n (Dt.downR (Dt.startR (wA2 D N)) (n+n)).piv=false:=by
   cases hb:idP n (Dt.downR (Dt.startR (wA2 D N)) (n+n)).piv with
   |false=>rfl
   |true=>exact absurd (b1.2 hb) he
  rw[hno,if_neg (by decide)]at q2;rw[if_neg he,decide_eq_false he];clear b1 b2 b3 eR hM hm hs;obtain⟨⟨x,l⟩,t⟩:=m;obtain⟨⟨x',l'⟩,t'⟩:=s;repeat (first|refine wc q1 ?_|refine wc q2 ?_|refine wl ?_|refine wv ?_|refine wz ?_)
  exact⟨.inl rfl,_,rfl,rfl⟩
theorem wW5(W:World):(Instr.typeAssert (.iface 62 (.agg #[])) 20 62 true).run Tryz.prog W=.ok (.tuple #[.agg #[],.bool true]) W:=by kernel_rfl
def wEI(r:Bool):PanicEntry:={ v:=.iface 62 (.agg #[]),recovered:=r }
set_option maxRecDepth 10000 in
theorem wM7(p:Addr)(x:Int)(older:List PanicEntry)(w:World)(hc:w.cell? p=some (.int .i64 x))(hz:w.frozen? p=false)(hb:p.block<w.heap.size) :
  CallsD Tryz.prog 12 #[.pointer (some p)] (.panicking (wEI false::older)) w fun e u' w'=>
   e=.returned (.tuple #[])∧u'=.panicking (wEI true::older)∧w'=(w.alloc (.cells #[] 62)).setCell p (.int .i64 7):=by
 have hk:(w.alloc (.cells #[] 62)).heap[p.block]? = w.heap[p.block]?:=Below.heap_alloc _ _ _ hb;have hc2:(w.alloc (.cells #[] 62)).cell? p=some (.int .i64 x):=(World.cell?_of_block hk).trans hc;have hz2:(w.alloc (.cells #[] 62)).frozen? p=false:=(World.frozen?_of_block hk).trans hz;unfold wEI;refine callsD_of_wpS Tryz.func12 rfl fun c₀ cs hu=>?_;apply wpS_seq;apply wpS_region;simp[wpOpsS,go_sem,recoverD,hu,Tryz.ntmps12,Exit.thenS];apply wpS_seq;apply wpS_region;simp[wpOpsS,go_sem,Exit.thenS];refine wpS_cond (t:=true) (by simp[Act.eval,Array.replicate]) ?_;simp only[if_true];apply wpS_seq;apply wpS_seq;apply wpS_region;simp[wpOpsS,go_sem,wW5,Exit.thenS];apply wpS_seq;apply wpS_region;simp[wpOpsS,go_sem,Exit.thenS];refine wpS_cond (t:=false) (by simp[Act.eval,Array.replicate]) ?_;simp only[Bool.false_eq_true,if_false]
 refine wpS_of_wp (wp_skip ?_);apply wpS_region;simp[wpOpsS,go_sem,hc2,hz2,bodyPostS,results,Tryz.results12]
theorem wZI(p:Addr)(w:World) :
  CallsD Tryz.prog 12 #[.pointer (some p)] .returning w fun e u' w'=>e=.returned (.tuple #[])∧u'=.returning∧w'=w:=by
 refine callsD_of_wpS Tryz.func12 rfl fun c₀ cs hu=>?_;apply wpS_seq;apply wpS_region;simp[wpOpsS,go_sem,recoverD,hu,Tryz.ntmps12,Exit.thenS];apply wpS_seq;apply wpS_region;simp[wpOpsS,go_sem,Exit.thenS];refine wpS_cond (t:=false) (by simp[Act.eval,Array.replicate]) ?_;simp only[Bool.false_eq_true,if_false];refine wpS_of_wp (wp_skip ?_);cases c₀
 simp_all [bodyPostS,results,Tryz.results12]
theorem qDE{S:Nat→Prop}{w:World}{es:List (List V)}{v:Value}(h:Rep S w (.list es) v):∃a n c,v=.slice a n c:=by cases h<;>exact⟨_,_,_,rfl⟩
theorem yT{S:Nat→Prop}{w:World}{m:MM}{v:Value}(h:Rep S w (vM m) v):∃a1 n1 c1 a2 n2 c2,v=.agg #[.bool m.1.1,.slice a1 n1 c1,.slice a2 n2 c2]:=by
 unfold vM vL vT at h;cases h with
 | agg ho h=>
  cases h with
  | cons h1 h=>
   cases h with
   | cons h2 h=>
    cases h with
    |cons h3 h=>cases h;cases h1;obtain⟨_,_,_,rfl⟩:=qDE h2;obtain⟨_,_,_,rfl⟩:=qDE h3;exact⟨_,_,_,_,_,_,rfl⟩
theorem qA3{S:Nat→Prop}{w:World}{a b:MM}{E:Int}{v:Value}(h:Rep S w (.tup [vM a,vM b,.int .i64 E]) v):∃x y,v=.tuple #[x,y,.int .i64 E]∧Rep S w (vM a) x∧Rep S w (vM b) y:=by
 cases h with
 | tup h=>
  cases h with
  | cons h1 h=>
   cases h with
   | cons h2 h=>
    cases h with
    |cons h3 h=>cases h;cases h3;exact⟨_,_,rfl,h1,h2⟩
theorem rep_ME{S:Nat→Prop}{w:World}{a:MM}{E:Int}{v:Value}(h:Rep S w (.tup [vM a,.int .i64 E]) v):∃x,v=.tuple #[x,.int .i64 E]∧Rep S w (vM a) x:=by
 cases h with
 | tup h=>
  cases h with
  | cons h1 h=>
   cases h with
   |cons h3 h=>cases h;cases h3;exact⟨_,rfl,h1⟩
theorem sinverse_p(m:MM)(q1:wG Tryz.prog 27 [vM m] (fun y=>y=.tup [vM noM,.int .i64 7]))(w:World)(v:Value)(hv:Rep (fun _=>True) w (vM m) v) :
  Calls Tryz.prog 14 #[v] w fun e w'=>e=.panicked [wEI false]∧Below w.heap.size w w':=by
 obtain⟨a1,n1,c1,a2,n2,c2,rfl⟩:=yT hv;have q2:=hid fun(W:World)(hb:Below w.heap.size w W)=>q1 (fun _=>True) W [_] (.cons (hv.later hb) .nil);clear q1;unfold wEI
 go_enter Tryz.func14,Tryz.ntmps14
 have hb0:Below w.heap.size w ((w.alloc (.cells #[.bool m.1.1,.slice a1 n1 c1,.slice a2 n2 c2] 28)).alloc (.cells #[.bool false,.slice none 0 0,.slice none 0 0] 28)):=((Below.refl w.heap.size w).alloc (pC _) _).alloc (by simp) _
 go_wp2_with fail
 refine(q2.out _ hb0).mono ?_;rintro e w1 ⟨v,y,rfl,rfl,hr,hg⟩;obtain⟨z,rfl,hz⟩:=rep_ME hr;obtain⟨b1,m1,d1,b2,m2,d2,rfl⟩:=yT hz;have hB:=hb0.trans (hg.mono hb0.size);clear q2 hr hz hg hb0;have HB:=hid hB;clear hB
 go_wp2
 exact⟨rfl,rfl,HB.out.alloc HB.out.size _⟩
def cjW(w:World)(u0 u1:Array Value):World:=(((w.alloc (.cells u0 28)).alloc (.cells u1 28)).alloc (.cells #[.bool false,.slice none 0 0,.slice none 0 0] 28)).alloc (.cells #[.int .i64 0] 29)
theorem wJ6(w:World)(u0 u1:Array Value):Below w.heap.size w (cjW w u0 u1):=((((Below.refl w.heap.size w).alloc (pC _) _).alloc (by simp) _).alloc (by simp;omega) _).alloc (by simp;omega) _
theorem qK.three{w:World}{g:Nat}{T:TypeId}{a b c:Value}(h:qK w g T [a,b,c]) :
  (w.cell? ⟨g,0,none⟩=some a∧w.cell? ⟨g,1,none⟩=some b∧w.cell? ⟨g,2,none⟩=some c)∧w.frozen? ⟨g,0,none⟩=false∧w.frozen? ⟨g,1,none⟩=false∧w.frozen? ⟨g,2,none⟩=false:=
 ⟨⟨h.cell 0 a rfl,h.cell 1 b rfl,h.cell 2 c rfl⟩,h.frozen 0,h.frozen 1,h.frozen 2⟩
structure CJ(w W:World)(x y z:List Value)(e:Value):Prop where
 x:qK W w.heap.size 28 x
 y:qK W (w.heap.size+1) 28 y
 z:qK W (w.heap.size+2) 28 z
 e:qK W (w.heap.size+3) 29 [e]
 b:Below w.heap.size w W
theorem CJ.start(w:World)(u0 u1:Array Value):CJ w (cjW w u0 u1) u0.toList u1.toList [.bool false,.slice none 0 0,.slice none 0 0] (.int .i64 0):=by obtain⟨_,k1,k2,k3,k4⟩:=boxABC w u0 u1 #[.bool false,.slice none 0 0,.slice none 0 0] 28 28 28;refine⟨k1.alloc _,k2.alloc _,k3.alloc _,?_,wJ6 w u0 u1⟩;have:=qK.new (((w.alloc (.cells u0 28)).alloc (.cells u1 28)).alloc (.cells #[.bool false,.slice none 0 0,.slice none 0 0] 28)) #[.int .i64 0] 29;rw[k4]at this;exact this
theorem CJ.later{w W W':World}{x y z:List Value}{e:Value}(h:CJ w W x y z e)(hb:Below W.heap.size W W'):CJ w W' x y z e:=⟨h.x.later hb,h.y.later hb,h.z.later hb,h.e.later hb,h.b.trans (hb.mono h.b.size)⟩
theorem CJ.setx{w W:World}{x y z:List Value}{e:Value}(h:CJ w W x y z e)(i:Nat)(v:Value):CJ w (W.setCell ⟨w.heap.size,i,none⟩ v) (x.set i v) y z e:=⟨h.x.set _ _,h.y.other _ _ (by intro e;dsimp only at e;omega),h.z.other _ _ (by intro e;dsimp only at e;omega),h.e.other _ _ (by intro e;dsimp only at e;omega),h.b.setCell (by simp) _⟩
theorem CJ.sety{w W:World}{x y z:List Value}{e:Value}(h:CJ w W x y z e)(i:Nat)(v:Value):CJ w (W.setCell ⟨w.heap.size+1,i,none⟩ v) x (y.set i v) z e:=⟨h.x.other _ _ (by intro e;dsimp only at e;omega),h.y.set _ _,h.z.other _ _ (by intro e;dsimp only at e;omega),h.e.other _ _ (by intro e;dsimp only at e;omega),h.b.setCell (by simp) _⟩
theorem CJ.setz{w W:World}{x y z:List Value}{e:Value}(h:CJ w W x y z e)(i:Nat)(v:Value):CJ w (W.setCell ⟨w.heap.size+1+1,i,none⟩ v) x y (z.set i v) e:=⟨h.x.other _ _ (by intro e;dsimp only at e;omega),h.y.other _ _ (by intro e;dsimp only at e;omega),h.z.set _ _,h.e.other _ _ (by intro e;dsimp only at e;omega),h.b.setCell (by simp only;omega) _⟩
theorem CJ.sete{w W:World}{x y z:List Value}{e:Value}(h:CJ w W x y z e)(v:Value):CJ w (W.setCell ⟨w.heap.size+1+1+1,0,none⟩ v) x y z v:=⟨h.x.other _ _ (by intro e;dsimp only at e;omega),h.y.other _ _ (by intro e;dsimp only at e;omega),h.z.other _ _ (by intro e;dsimp only at e;omega),h.e.set 0 v,h.b.setCell (by simp;omega) _⟩
def cjS(w w1:World)(x0 x1 x2 y0 y1 y2 e:Value):World:=((((((w1.setCell ⟨w.heap.size,0,none⟩ x0).setCell ⟨w.heap.size,1,none⟩ x1).setCell ⟨w.heap.size,2,none⟩ x2).setCell ⟨w.heap.size+1,0,none⟩ y0).setCell ⟨w.heap.size+1,1,none⟩ y1).setCell ⟨w.heap.size+1,2,none⟩ y2).setCell ⟨w.heap.size+1+1+1,0,none⟩ e
theorem CJ.store{w W:World}{p0 p1 p2 q0 q1 q2:Value}{z:List Value}{e0:Value}(h:CJ w W [p0,p1,p2] [q0,q1,q2] z e0)(x0 x1 x2 y0 y1 y2 e:Value):CJ w (cjS w W x0 x1 x2 y0 y1 y2 e) [x0,x1,x2] [y0,y1,y2] z e:=
 ((((((h.setx 0 x0).setx 1 x1).setx 2 x2).sety 0 y0).sety 1 y1).sety 2 y2).sete e
theorem CJ.drew{w W:World}{x y z:List Value}{e:Value}(h:CJ w W x y z e):CJ w W.drew x y z e:=⟨h.x,h.y,h.z,h.e,⟨h.b.os,h.b.tape,h.b.output,h.b.size,h.b.block⟩⟩
theorem cj_ret(tmps:Array Value){w W:World}{x y:List Value}{p0 p1 p2 e:Value}{R:Ending→World→Prop}(h4:tmps[4]?.getD undef=.pointer (some ⟨w.heap.size+1+1,0,none⟩))(h5:tmps[5]?.getD undef=.pointer (some ⟨w.heap.size+1+1+1,0,none⟩))(h:CJ w W x y [p0,p1,p2] e)(hR:R (.returned (.tuple #[.agg #[p0,p1,p2],e])) W):Leaves Tryz.prog Tryz.f4 tmps R [] .returning W:=by obtain⟨⟨z0,z1,z2⟩,_⟩:=h.z.three;obtain⟨e0,_⟩:=h.e.one;simp[Leaves,results,Tryz.results4,go_sem,h4,h5,z0,z1,z2,e0];exact hR
theorem rep_noM(S:Nat→Prop)(w:World)(E:Int):Rep S w (.tup [vM noM,.int .i64 E]) (.tuple #[.agg #[.bool false,.slice none 0 0,.slice none 0 0],.int .i64 E]):=
 .tup (us:=[.agg #[.bool false,.slice none 0 0,.slice none 0 0],.int .i64 E]) (.cons (.agg (us:=[.bool false,.slice none 0 0,.slice none 0 0]) rfl (.cons (.bool _) (.cons .nils (.cons .nils .nil)))) (.cons (.int _ _) .nil))
theorem qG5(m s A B:MM)(E:Int)(hE:E≠0)(q1:wG Tryz.prog 11 [vM m,vM s] (fun y=>y=.tup [vM A,vM B,.int .i64 E])):wG Tryz.prog 4 [vM m,vM s] (fun y=>y=.tup [vM noM,.int .i64 E]):=by
 intro S w us hu;cases hu with
 |@cons _ v0 _ _ h0 hu=>
 cases hu with
 |@cons _ v1 _ _ h1 hu=>
 cases hu;obtain⟨a1,n1,c1,a2,n2,c2,rfl⟩:=yT h0;obtain⟨b1,m1,d1,b2,m2,d2,rfl⟩:=yT h1;have hb0:=wJ6 w #[.bool m.1.1,.slice a1 n1 c1,.slice a2 n2 c2] #[.bool s.1.1,.slice b1 m1 d1,.slice b2 m2 d2];have q2:=hid (q1 S _ [_,_] (.cons (h0.later hb0) (.cons (h1.later hb0) .nil)));unfold cjW at hb0 q2;clear q1 h0 h1;show Calls _ _ #[_,_] _ _
 go_enter_defers Tryz.func4,Tryz.ntmps4
 go_wp2_with fail
 refine q2.out.mono ?_;rintro e w1 ⟨v,y,rfl,rfl,hr,hg⟩;obtain⟨x,y,rfl,hx,hy⟩:=qA3 hr;obtain⟨e1,k1,f1,e2,k2,f2,rfl⟩:=yT hx;obtain⟨g1,i1,j1,g2,i2,j2,rfl⟩:=yT hy;have hc:=(CJ.start w #[.bool m.1.1,.slice a1 n1 c1,.slice a2 n2 c2] #[.bool s.1.1,.slice b1 m1 d1,.slice b2 m2 d2]).later hg;obtain⟨⟨x0,x1,x2⟩,x3,x4,x5⟩:=hc.x.three;obtain⟨⟨y0,y1,y2⟩,y3,y4,y5⟩:=hc.y.three;obtain⟨⟨z0,z1,z2⟩,z3,z4,z5⟩:=hc.z.three;obtain⟨e0,e3⟩:=hc.e.one;have HC:=hid hc;have HS:=hid hc.b.size;clear hc hg hr hx hy q2 hb0;have hE':(E==0)=false:=by simpa using hE
 go_wp2
 change Code.wp _ _ _ _ (cjS w w1 (.bool A.1.1) (.slice e1 k1 f1) (.slice e2 k2 f2) (.bool B.1.1) (.slice g1 i1 j1) (.slice g2 i2 j2) (.int .i64 E));have hd:=HC.out.store (.bool A.1.1) (.slice e1 k1 f1) (.slice e2 k2 f2) (.bool B.1.1) (.slice g1 i1 j1) (.slice g2 i2 j2) (.int .i64 E);clear HC HS x0 x1 x2 x3 x4 x5 y0 y1 y2 y3 y4 y5 z0 z1 z2 z3 z4 z5 e0 e3;generalize cjS w w1 (.bool A.1.1) (.slice e1 k1 f1) (.slice e2 k2 f2) (.bool B.1.1) (.slice g1 i1 j1) (.slice g2 i2 j2) (.int .i64 E)=W at *
 obtain⟨⟨z0,z1,z2⟩,z3,z4,z5⟩:=hd.z.three;obtain⟨e0,e3⟩:=hd.e.one;have HD:=hid hd;clear hd
 go_region
 have hd2:=((((HD.out.setz 0 (.bool false)).setz 1 (.slice none 0 0)).setz 2 (.slice none 0 0)).sete (.int .i64 E)).drew;generalize ((((W.setCell ⟨w.heap.size+1+1,0,none⟩ (.bool false)).setCell ⟨w.heap.size+1+1,1,none⟩ (.slice none 0 0)).setCell ⟨w.heap.size+1+1,2,none⟩ (.slice none 0 0)).setCell ⟨w.heap.size+1+1+1,0,none⟩ (.int .i64 E)).drew=W2 at *
 have HD2:=hid hd2;clear hd2 HD
 go_wp2
 refine cj_ret (R:=fun e w'=>∃v y,e=.returned v∧y=V.tup [vM noM,.int .i64 E]∧Rep (fun b=>S b∨w.heap.size≤b) w' y v∧Below w.heap.size w w') _ ?_ ?_ HD2.out ⟨_,_,rfl,rfl,rep_noM _ _ _,HD2.out.b⟩
 ·rfl
 ·rfl
def xC(w:World)(S:Nat→Prop)(W:World)(m:MM)(v:Value):Prop:=Rep (fun b=>(S b∧b<w.heap.size)∨w.heap.size+4≤b) W (vM m) v
theorem xC.later{w W W':World}{S:Nat→Prop}{m:MM}{v:Value}(h:xC w S W m v)(hb:Below W.heap.size W W'):xC w S W' m v:=Rep.later h hb
theorem xC.drew{w W:World}{S:Nat→Prop}{m:MM}{v:Value}(h:xC w S W m v):xC w S W.drew m v:=Rep.keep (w:=W) (w':=W.drew) (fun b a _=>⟨a,rfl⟩) h
theorem xC.set{w W:World}{S:Nat→Prop}{m:MM}{v:Value}(h:xC w S W m v)(p:Addr)(x:Value)(h1:w.heap.size≤p.block)(h2:p.block<w.heap.size+4):xC w S (W.setCell p x) m v:=
 Rep.keep (fun b a _=>⟨a,Below.heap_setCell _ _ _ _ (by omega)⟩) h
theorem xC.store{w W:World}{S:Nat→Prop}{m:MM}{v:Value}(h:xC w S W m v)(x0 x1 x2 y0 y1 y2 e:Value):xC w S (cjS w W x0 x1 x2 y0 y1 y2 e) m v:=
 ((((((h.set _ x0 (by simp) (by simp)).set _ x1 (by simp) (by simp)).set _ x2 (by simp) (by simp)).set _ y0 (by simp) (by simp)).set _ y1 (by simp) (by simp)).set _ y2 (by simp) (by simp)).set _ e (by dsimp only;omega) (by dsimp only;omega)
theorem xC.of{w W W1:World}{S:Nat→Prop}{m:MM}{v:Value}(hs:w.heap.size+4≤W.heap.size)(h:Rep (fun b=>((S b∧b<w.heap.size)∨w.heap.size+4≤b)∨W.heap.size≤b) W1 (vM m) v):xC w S W1 m v:=
 Rep.mono h fun b a _=>by rcases a with a|a;exact a;exact .inr (by omega)
theorem xC.call1{w W:World}{S:Nat→Prop}{f:FuncId}{a c:MM}{va:Value}(q:wG Tryz.prog f [vM a] (fun y=>y=vM c))(hs:w.heap.size+4≤W.heap.size)(ha:xC w S W a va) :
  Calls Tryz.prog f #[va] W fun e w'=>∃v,e=.returned v∧xC w S w' c v∧Below W.heap.size W w':=
 (q _ W [_] (.cons ha .nil)).mono fun e w' ⟨v,y,h1,h2,h3,h4⟩=>by subst h2;exact⟨v,h1,.of hs h3,h4⟩
theorem xC.call2{w W:World}{S:Nat→Prop}{f:FuncId}{a b c:MM}{va vb:Value}(q:wG Tryz.prog f [vM a,vM b] (fun y=>y=vM c))(hs:w.heap.size+4≤W.heap.size)(ha:xC w S W a va)(hb:xC w S W b vb) :
  Calls Tryz.prog f #[va,vb] W fun e w'=>∃v,e=.returned v∧xC w S w' c v∧Below W.heap.size W w':=
 (q _ W [_,_] (.cons ha (.cons hb .nil))).mono fun e w' ⟨v,y,h1,h2,h3,h4⟩=>by subst h2;exact⟨v,h1,.of hs h3,h4⟩
def cjD(w:World):List Deferred:=[{ target:=Target.fn (Fn.func 12) #[],args:=#[.pointer (some ⟨w.heap.size+1+1+1,0,none⟩)] }]
theorem cj_done(tmps:Array Value){w W:World}{x y:List Value}{p0 p1 p2 e:Value}{R:Ending→World→Prop}(h4:tmps[4]?.getD undef=.pointer (some ⟨w.heap.size+1+1,0,none⟩))(h5:tmps[5]?.getD undef=.pointer (some ⟨w.heap.size+1+1+1,0,none⟩))(h:CJ w W x y [p0,p1,p2] e)(hR:R (.returned (.tuple #[.agg #[p0,p1,p2],e])) W):Leaves Tryz.prog Tryz.f4 tmps R (cjD w) .returning W:=by unfold cjD;refine leaves_cons (f:=12) (args:=#[.pointer (some ⟨w.heap.size+1+1+1,0,none⟩)]) (by simp) (by simp[go_sem]) ?_;refine(wZI ⟨w.heap.size+1+1+1,0,none⟩ W).mono ?_;rintro e' u' w'' ⟨rfl,rfl,rfl⟩;exact cj_ret tmps h4 h5 h hR
theorem cj_up(tmps:Array Value){w W:World}{x y:List Value}{p0 p1 p2:Value}{R:Ending→World→Prop}(h4:tmps[4]?.getD undef=.pointer (some ⟨w.heap.size+1+1,0,none⟩))(h5:tmps[5]?.getD undef=.pointer (some ⟨w.heap.size+1+1+1,0,none⟩))(h:CJ w W x y [p0,p1,p2] (.int .i64 0))(hR:∀W',Below w.heap.size w W'→R (.returned (.tuple #[.agg #[p0,p1,p2],.int .i64 7])) W'):Leaves Tryz.prog Tryz.f4 tmps R (cjD w) (.panicking [wEI false]) W:=by unfold cjD;refine leaves_cons (f:=12) (args:=#[.pointer (some ⟨w.heap.size+1+1+1,0,none⟩)]) (by simp) (by simp[go_sem]) ?_;refine(wM7 ⟨w.heap.size+1+1+1,0,none⟩ 0 [] W h.e.one.1 h.e.one.2 h.e.lt).mono ?_;rintro e' u' w'' ⟨rfl,rfl,rfl⟩;have h2:CJ w ((W.alloc (.cells #[] 62)).setCell ⟨w.heap.size+1+1+1,0,none⟩ (.int .i64 7)) x y [p0,p1,p2] (.int .i64 7):=(h.later ((Below.refl W.heap.size W).alloc (pC _) _)).sete _;exact cj_ret tmps h4 h5 h2 (hR _ h2.b)
theorem qBB{w W:World}{S:Nat→Prop}{u0 u1:Array Value}{m:MM}{v:Value}(h:Rep (fun b=>(S b∧b<w.heap.size)∨(cjW w u0 u1).heap.size≤b) W (vM m) v):xC w S W m v:=
 Rep.mono h fun b a _=>by rcases a with a|a;exact .inl a;exact .inr (by simp[cjW]at a;omega)
theorem qG4(m s A B:MM)(q1:wG Tryz.prog 11 [vM m,vM s] (fun y=>y=.tup [vM A,vM B,.int .i64 0]))(q3:wG Tryz.prog 27 [vM B] (fun y=>y=.tup [vM noM,.int .i64 7])):wG Tryz.prog 4 [vM m,vM s] (fun y=>y=.tup [vM noM,.int .i64 7]):=by
 intro S w us hu;cases hu with
 |@cons _ v0 _ _ h0 hu=>
 cases hu with
 |@cons _ v1 _ _ h1 hu=>
 cases hu;obtain⟨a1,n1,c1,a2,n2,c2,rfl⟩:=yT h0;obtain⟨b1,m1,d1,b2,m2,d2,rfl⟩:=yT h1;have hb0:=wJ6 w #[.bool m.1.1,.slice a1 n1 c1,.slice a2 n2 c2] #[.bool s.1.1,.slice b1 m1 d1,.slice b2 m2 d2];have q2:=hid (q1 (fun b=>S b∧b<w.heap.size) _ [_,_] (.cons ((Rep.mono h0 fun b a l=>⟨a,l⟩).later hb0) (.cons ((Rep.mono h1 fun b a l=>⟨a,l⟩).later hb0) .nil)));unfold cjW at hb0 q2;clear q1 h0 h1;show Calls _ _ #[_,_] _ _
 go_enter_defers Tryz.func4,Tryz.ntmps4
 go_wp2_with fail
 refine q2.out.mono ?_;rintro e w1 ⟨v,y,rfl,rfl,hr,hg⟩;obtain⟨x,y,rfl,hx,hy⟩:=qA3 hr;obtain⟨e1,k1,f1,e2,k2,f2,rfl⟩:=yT hx;obtain⟨g1,i1,j1,g2,i2,j2,rfl⟩:=yT hy;have hc:=(CJ.start w #[.bool m.1.1,.slice a1 n1 c1,.slice a2 n2 c2] #[.bool s.1.1,.slice b1 m1 d1,.slice b2 m2 d2]).later hg;have hY:xC w S w1 B _:=qBB (u0:=#[.bool m.1.1,.slice a1 n1 c1,.slice a2 n2 c2]) (u1:=#[.bool s.1.1,.slice b1 m1 d1,.slice b2 m2 d2]) hy;obtain⟨⟨x0,x1,x2⟩,x3,x4,x5⟩:=hc.x.three;obtain⟨⟨y0,y1,y2⟩,y3,y4,y5⟩:=hc.y.three;obtain⟨e0,e3⟩:=hc.e.one;have HC:=hid hc;have HY:=hid hY;clear hc hg hr hx q2 hb0 hy hY
 go_wp2
 change Code.wp _ _ _ _ (cjS w w1 (.bool A.1.1) (.slice e1 k1 f1) (.slice e2 k2 f2) (.bool B.1.1) (.slice g1 i1 j1) (.slice g2 i2 j2) (.int .i64 0));have hd:=HC.out.store (.bool A.1.1) (.slice e1 k1 f1) (.slice e2 k2 f2) (.bool B.1.1) (.slice g1 i1 j1) (.slice g2 i2 j2) (.int .i64 0);have hy:=(HY.out.store (.bool A.1.1) (.slice e1 k1 f1) (.slice e2 k2 f2) (.bool B.1.1) (.slice g1 i1 j1) (.slice g2 i2 j2) (.int .i64 0)).drew;clear HC HY x0 x1 x2 x3 x4 x5 y0 y1 y2 y3 y4 y5 e0 e3;generalize cjS w w1 (.bool A.1.1) (.slice e1 k1 f1) (.slice e2 k2 f2) (.bool B.1.1) (.slice g1 i1 j1) (.slice g2 i2 j2) (.int .i64 0)=W at *
 have HP:=hid (sinverse_p B q3 W.drew _ (Rep.mono hy fun _ _ _=>trivial));obtain⟨⟨x0,x1,x2⟩,x3,x4,x5⟩:=hd.drew.x.three;obtain⟨⟨y0,y1,y2⟩,y3,y4,y5⟩:=hd.drew.y.three;have HD:=hid hd.drew;clear hd hy q3;unfold wEI at HP
 go_region_dies
 all_goals (
  refine HP.out.mono ?_;rintro e w2 ⟨rfl,hb⟩;refine cj_up (R:=fun e w'=>∃v y,e=.returned v∧y=V.tup [vM noM,.int .i64 7]∧Rep (fun b=>S b∨w.heap.size≤b) w' y v∧Below w.heap.size w w') _ ?_ ?_ (HD.out.later hb) (fun W' hW=>⟨_,_,rfl,rfl,rep_noM _ _ _,hW⟩)
  ·rfl
  ·rfl)
theorem cj_rep{w W:World}{S:Nat→Prop}{m:MM}{v:Value}{E:Int}(h:xC w S W m v):Rep (fun b=>S b∨w.heap.size≤b) W (.tup [vM m,.int .i64 E]) (.tuple #[v,.int .i64 E]):=
 .tup (us:=[v,.int .i64 E]) (.cons (Rep.mono h fun b a _=>by rcases a with a|a;exact .inl a.1;exact .inr (by omega)) (.cons (.int _ _) .nil))
theorem qG3(m s A B I P C:MM)(q1:wG Tryz.prog 11 [vM m,vM s] (fun y=>y=.tup [vM A,vM B,.int .i64 0]))(q3:wG Tryz.prog 14 [vM B] (fun y=>y=vM I))(q4:wG Tryz.prog 13 [vM I,vM A] (fun y=>y=vM P))(q5:wG Tryz.prog 13 [vM P,vM B] (fun y=>y=vM C)):wG Tryz.prog 4 [vM m,vM s] (fun y=>y=.tup [vM C,.int .i64 0]):=by
 intro S w us hu;cases hu with
 |@cons _ v0 _ _ h0 hu=>
 cases hu with
 |@cons _ v1 _ _ h1 hu=>
 cases hu;obtain⟨a1,n1,c1,a2,n2,c2,rfl⟩:=yT h0;obtain⟨b1,m1,d1,b2,m2,d2,rfl⟩:=yT h1;have hb0:=wJ6 w #[.bool m.1.1,.slice a1 n1 c1,.slice a2 n2 c2] #[.bool s.1.1,.slice b1 m1 d1,.slice b2 m2 d2];have q2:=hid (q1 (fun b=>S b∧b<w.heap.size) _ [_,_] (.cons ((Rep.mono h0 fun b a l=>⟨a,l⟩).later hb0) (.cons ((Rep.mono h1 fun b a l=>⟨a,l⟩).later hb0) .nil)));unfold cjW at hb0 q2;clear q1 h0 h1;show Calls _ _ #[_,_] _ _
 go_enter_defers Tryz.func4,Tryz.ntmps4
 go_wp2_with fail
 refine q2.out.mono ?_;rintro e w1 ⟨v,y,rfl,rfl,hr,hg⟩;obtain⟨x,y,rfl,hx,hy⟩:=qA3 hr;obtain⟨e1,k1,f1,e2,k2,f2,rfl⟩:=yT hx;obtain⟨g1,i1,j1,g2,i2,j2,rfl⟩:=yT hy;have hc:=(CJ.start w #[.bool m.1.1,.slice a1 n1 c1,.slice a2 n2 c2] #[.bool s.1.1,.slice b1 m1 d1,.slice b2 m2 d2]).later hg;have hX:xC w S w1 A _:=qBB (u0:=#[.bool m.1.1,.slice a1 n1 c1,.slice a2 n2 c2]) (u1:=#[.bool s.1.1,.slice b1 m1 d1,.slice b2 m2 d2]) hx;have hY:xC w S w1 B _:=qBB (u0:=#[.bool m.1.1,.slice a1 n1 c1,.slice a2 n2 c2]) (u1:=#[.bool s.1.1,.slice b1 m1 d1,.slice b2 m2 d2]) hy;obtain⟨⟨x0,x1,x2⟩,x3,x4,x5⟩:=hc.x.three;obtain⟨⟨y0,y1,y2⟩,y3,y4,y5⟩:=hc.y.three;obtain⟨e0,e3⟩:=hc.e.one;have HC:=hid hc;have HY:=hid hY;have HX:=hid hX;clear hc hg hr hx q2 hb0 hy hY hX
 go_wp2
 change Code.wp _ _ _ _ (cjS w w1 (.bool A.1.1) (.slice e1 k1 f1) (.slice e2 k2 f2) (.bool B.1.1) (.slice g1 i1 j1) (.slice g2 i2 j2) (.int .i64 0));have hd:=HC.out.store (.bool A.1.1) (.slice e1 k1 f1) (.slice e2 k2 f2) (.bool B.1.1) (.slice g1 i1 j1) (.slice g2 i2 j2) (.int .i64 0);have hy:=(HY.out.store (.bool A.1.1) (.slice e1 k1 f1) (.slice e2 k2 f2) (.bool B.1.1) (.slice g1 i1 j1) (.slice g2 i2 j2) (.int .i64 0)).drew;have hx:=(HX.out.store (.bool A.1.1) (.slice e1 k1 f1) (.slice e2 k2 f2) (.bool B.1.1) (.slice g1 i1 j1) (.slice g2 i2 j2) (.int .i64 0)).drew;have hsz:=hd.drew.e.lt;clear HC HY HX x0 x1 x2 x3 x4 x5 y0 y1 y2 y3 y4 y5 e0 e3;generalize cjS w w1 (.bool A.1.1) (.slice e1 k1 f1) (.slice e2 k2 f2) (.bool B.1.1) (.slice g1 i1 j1) (.slice g2 i2 j2) (.int .i64 0)=W at *
 have HP:=hid (xC.call1 q3 (by omega) hy);have HQ:=hid fun(w2:World)(v:Value)(hb:Below W.drew.heap.size W.drew w2)(hv:xC w S w2 I v)=>xC.call2 q4 (by have:=hb.size;omega) hv (hx.later hb);have HR:=hid fun(w2:World)(v:Value)(hb:Below W.drew.heap.size W.drew w2)(hv:xC w S w2 P v)=>xC.call2 q5 (by have:=hb.size;omega) hv (hy.later hb);obtain⟨⟨x0,x1,x2⟩,x3,x4,x5⟩:=hd.drew.x.three;obtain⟨⟨y0,y1,y2⟩,y3,y4,y5⟩:=hd.drew.y.three;have HD:=hid hd.drew;clear hd hy hx q3 q4 q5 hsz
 go_region_with (first
  |(go_at_call 14;refine HP.out.mono ?_;rintro e w2 ⟨v2,rfl,hv2,hb2⟩;obtain⟨p1,p2,p3,p4,p5,p6,rfl⟩:=yT hv2;obtain⟨⟨X0,X1,X2⟩,_⟩:=(HD.out.later hb2).x.three;obtain⟨⟨Y0,Y1,Y2⟩,_⟩:=(HD.out.later hb2).y.three;have HV2:=hid hv2;have HB2:=hid hb2;clear hv2 hb2)
  |(go_at_call_of 13 (Value.slice e1 k1 f1);refine(HQ.out w2 _ HB2.out HV2.out).mono ?_;rintro e w3 ⟨v3,rfl,hv3,hb3⟩;obtain⟨r1,r2,r3,r4,r5,r6,rfl⟩:=yT hv3;have hb4:=HB2.out.trans (hb3.mono HB2.out.size);obtain⟨⟨U0,U1,U2⟩,_⟩:=(HD.out.later hb4).y.three;have HV3:=hid hv3;have HB3:=hid hb4;clear hv3 hb3 hb4)
  |(go_at_call_of 13 (Value.slice g1 i1 j1);refine(HR.out w3 _ HB3.out HV3.out).mono ?_;rintro e w4 ⟨v4,rfl,hv4,hb4⟩;obtain⟨s1,s2,s3,s4,s5,s6,rfl⟩:=yT hv4;have hb5:=HB3.out.trans (hb4.mono HB3.out.size);obtain⟨⟨Z0,Z1,Z2⟩,Z3,Z4,Z5⟩:=(HD.out.later hb5).z.three;have HV4:=hid hv4;have HB4:=hid hb5;clear hv4 hb4 hb5))
 all_goals (
  have hd5:=(((HD.out.later HB4.out).setz 0 (.bool C.1.1)).setz 1 (.slice s1 s2 s3)).setz 2 (.slice s4 s5 s6);have hc5:=((HV4.out.set ⟨w.heap.size+1+1,0,none⟩ (.bool C.1.1) (by dsimp only;omega) (by dsimp only;omega)).set ⟨w.heap.size+1+1,1,none⟩ (.slice s1 s2 s3) (by dsimp only;omega) (by dsimp only;omega)).set ⟨w.heap.size+1+1,2,none⟩ (.slice s4 s5 s6) (by dsimp only;omega) (by dsimp only;omega);generalize ((w4.setCell ⟨w.heap.size+1+1,0,none⟩ (.bool C.1.1)).setCell ⟨w.heap.size+1+1,1,none⟩ (.slice s1 s2 s3)).setCell ⟨w.heap.size+1+1,2,none⟩ (.slice s4 s5 s6)=W5 at *
  clear HP HQ HR HD HB2 HB3 HB4 HV2 HV3 HV4 x0 x1 x2 x3 x4 x5 y0 y1 y2 y3 y4 y5 X0 X1 X2 Y0 Y1 Y2 U0 U1 U2 Z0 Z1 Z2 Z3 Z4 Z5;have hd6:=(((hd5.setz 0 (.bool C.1.1)).setz 1 (.slice s1 s2 s3)).setz 2 (.slice s4 s5 s6)).sete (.int .i64 0);have hc6:=(((hc5.set ⟨w.heap.size+1+1,0,none⟩ (.bool C.1.1) (by dsimp only;omega) (by dsimp only;omega)).set ⟨w.heap.size+1+1,1,none⟩ (.slice s1 s2 s3) (by dsimp only;omega) (by dsimp only;omega)).set ⟨w.heap.size+1+1,2,none⟩ (.slice s4 s5 s6) (by dsimp only;omega) (by dsimp only;omega)).set ⟨w.heap.size+1+1+1,0,none⟩ (.int .i64 0) (by dsimp only;omega) (by dsimp only;omega);obtain⟨⟨z0,z1,z2⟩,z3,z4,z5⟩:=hd5.z.three;obtain⟨e0,e3⟩:=hd5.e.one;have HD6:=hid hd6;have HC6:=hid hc6;clear hd5 hc5 hd6 hc6
  go_wp2
  refine cj_done (R:=fun e w'=>∃v y,e=.returned v∧y=V.tup [vM C,.int .i64 0]∧Rep (fun b=>S b∨w.heap.size≤b) w' y v∧Below w.heap.size w w') _ ?_ ?_ HD6.out ⟨_,_,rfl,rfl,cj_rep HC6.out,HD6.out.b⟩
  ·rfl
  ·rfl)
theorem okM_0{m:MM}(h:okM m 68719476736):okM0 m:=
 ⟨⟨h.1,pD h.2.1 (by decide)⟩,fun r hr=>⟨pD (h.2.2.1.2 r hr).1 (by decide),fun z hz=>⟨((h.2.2.1.2 r hr).2 z hz).1,pD ((h.2.2.1.2 r hr).2 z hz).2 (by decide)⟩⟩,pD h.2.2.1.1 (by decide)⟩
theorem okM_made{m:MM}{K:Nat}(h:okM m K)(hc:chk m=0)(hK:1≤K):okM (qC m.1 m.2) K∧chk (qC m.1 m.2)=0:=by
 obtain⟨h0,he⟩:=chk0 hc;obtain⟨s1,s2,_⟩:=v8 m.1 m.2 h0;have l0:=w8 m.1 h.1;have hev:=wR2 _ he;have hrow:∀x∈(qC m.1 m.2).2,x.length=wS m.2∧(x.length≤68719476736∧∀z∈x,okL z.2∧z.2.length≤K):=by intro x hx;obtain⟨r,hr,rfl⟩:=pO.1 hx;refine⟨by rw[pH];exact hev r hr,by rw[pH];exact(h.2.2.1.2 r hr).1,fun z hz=>?_⟩;obtain⟨y,hy,rfl⟩:=pO.1 hz;refine⟨wC9 _,?_⟩;rw[zn_lm];have l1:=(h.2.2.1.2 r hr).2 y hy;have l2:=w8 y l1.1;refine pD (jS (y:=intOf y) ?_) (by omega);rw[dS];exact cP ..
 have hd:intOf (qC m.1 m.2).1≠0:=by
  show intOf (zn (if wS m.2=0 then 1 else _))≠0;rw[wF];split
  ·decide
  ·intro hz;have:=pE2 s2;rw[hz,Int.mul_zero]at this;exact h0 this.symm
 refine⟨⟨wC9 _,?_,⟨by rw[yF];exact h.2.2.1.1,fun x hx=>(hrow x hx).2⟩,?_⟩,wP5 _ hd (wFD _ _ fun x hx=>(hrow x hx).1)⟩
 ·show lm (if wS m.2=0 then 1 else _)≤K;split
  ·exact pD (lm_dvd (Int.one_dvd _) h0) (pD l0 h.2.1)
  ·refine pD (jS (y:=intOf m.1) ?_) (pD l0 h.2.1);rw[dS];exact cP ..
 ·have h4:=h.2.2.2;rw[kU hev]at h4;rw[kU fun x hx=>(hrow x hx).1,yF];exact h4
theorem ht_made'{m:MM}(hc:chk m=0):htM (qC m.1 m.2)=htM m:=by
 by_cases hcol:wS m.2=0
 ·have e:∀r∈m.2,r=[]:=fun r hr=>gJ.1 ((wR2 _ (chk0 hc).2 r hr).trans hcol);have e1:(wU m).flatten=[]:=by
   rw[v6,List.flatten_eq_nil_iff.2 e];rfl
  have e2:(wU (qC m.1 m.2)).flatten=[]:=by rw[v6,List.flatten_eq_nil_iff.2 (fun r hr=>by obtain⟨r',hr',rfl⟩:=pO.1 hr;rw[e r' hr'];rfl)];rfl
  unfold htM;rw[e1,e2]
 ·exact ht_made hc hcol
theorem hmade_v{m:MM}(h:okM m 68719476736)(hc:chk m=0):wG Tryz.prog 45 [vM (qC m.1 m.2)] (fun y=>y=.tup [.int .i64 (htM m:Nat),.int .i64 0]):=by
 obtain⟨hok,hc2⟩:=okM_made h hc (by decide);rw[←ht_made' hc];generalize qC m.1 m.2=p at *
 exact qHeight_v p hc2 ⟨hok.1,pD hok.2.1 (by decide)⟩ (chk0 hc2).1 (fun r hr=>⟨pD (hok.2.2.1.2 r hr).1 (by decide),fun z hz=>⟨((hok.2.2.1.2 r hr).2 z hz).1,pD ((hok.2.2.1.2 r hr).2 z hz).2 (by decide)⟩⟩) (pD hok.2.2.1.1 (by decide)) (by
  rw[v6,pH];exact pD hok.2.2.2 (by decide)) (fun q hq=>⟨(wGH hok (chk0 hc2).1 q hq).1,(wGH hok (chk0 hc2).1 q hq).2.1⟩) (fun q hq=>by
  obtain⟨g1,_,g3⟩:=wGH hok (chk0 hc2).1 q hq;rw[g3];exact g1)
theorem wW9{m s:MM}(h:wD6 m s=0):jK m=0∧jK s=0∧m.2.length=s.2.length:=by
 unfold wD6 at h;split at h
 ·rename_i h1;split at h
  ·rename_i h2;split at h
   ·rename_i h3;exact⟨h1,h2,h3⟩
   ·cases h
  ·rename_i h2;exact absurd h h2
 ·rename_i h1;exact absurd h h1
theorem pconj_v(m s:MM)(hm:okM m 268435456)(hs:okM s 268435456) :
  (wD6 m s≠0→wG Tryz.prog 4 [vM m,vM s] (fun y=>y=.tup [vM noM,.int .i64 (wD6 m s)])) ∧
  (wD6 m s=0→∀D N,NM (qC s.1 s.2) D N s.2.length 268435456→wG Tryz.prog 4 [vM m,vM s] (fun y=>y=.tup [vM (wQ7 m s D N),.int .i64 (if wFA D N=0 then 0 else 7)])):=by
 have km:=kP hm (K':=68719476736) (by decide);have ks:=kP hs (K':=68719476736) (by decide);have q1:=both_v m.1.1 s.1.1 m.1.2 s.1.2 m.2 s.2 (sfit_v m.1.1 m.1.2 m.2 km fun h=>hmade_v km h) (sfit_v s.1.1 s.1.2 s.2 ks fun h=>hmade_v ks h);have q2:wG Tryz.prog 11 [vM m,vM s] (fun y=>y=.tup [vM (bothA m s),vM (bothB m s),.int .i64 (wD6 m s)]):=q1;refine⟨fun h=>qG5 m s _ _ _ h q2,fun h D N hN=>?_⟩;obtain⟨f1,f2,f3⟩:=wW9 h;obtain⟨sm,n0,n24⟩:=wR6 f1 hm;obtain⟨ss,_,_⟩:=wR6 f2 hs;rw[f3]at sm n0 n24;have eA:bothA m s=qC m.1 m.2:=by unfold bothA wNC;rw[if_pos h,if_pos f1]
 have eB:bothB m s=qC s.1 s.2:=by unfold bothB wNC;rw[if_pos h,if_pos f2]
 rw[eA,eB,h]at q2;have q3:=pinv_v ss n0 n24 (by decide) D N hN;unfold wQ7;by_cases he:wFA D N=0
 ·rw[if_pos he,if_pos he];rw[he]at q3;have hi:=hN.out n0 n24 he;have h1:=sm.made n0;have h2:=ss.made n0;have hb:25*(268435456+1)+1≤6710886426:=by decide
  have k1:=hi.mono hb;have k2:=h1.mono (K':=6710886426) (by decide);have k3:=h2.mono (K':=6710886426) (by decide);have k4:=k1.mul k2 n0 n24 (by decide);have e:xJ (xJ (xY D N) (qC m.1 m.2)) (qC s.1 s.2)=xJ (xY D N) (xJ m s):=by rw[mulM_assoc k1 k2 k3 n0 n24 (by decide),mulM_congr h1 h2 sm ss n0 (yC _ _ sm.den (by rw[sm.cl n0];omega)) (yC _ _ ss.den (by rw[ss.cl n0];omega))]
  rw[←e];exact qG3 m s _ _ _ _ _ q2 (sinverse_v _ _ q3) (wS4 _ _ _ (qMul_sq k1 k2 n0 (by decide))) (wS4 _ _ _ (qMul_sq k4 (k3.mono (by decide)) n0 (by decide)))
 ·rw[if_neg he,if_neg he];have e7:wFA D N=7:=by
   unfold wFA at he ⊢;split
   ·rfl
   ·rename_i hh;rw[if_neg hh]at he;exact absurd rfl he
  have eM:xY D N=noM:=by
   unfold wFA at he;unfold xY;split
   ·rfl
   ·rename_i hh;rw[if_neg hh]at he;exact absurd rfl he
  rw[e7,eM]at q3;exact qG4 m s _ _ q2 q3
theorem wM3(hlv:wG Tryz.prog 8 [] (fun y=>y=.bool true))(x x':Bool)(l l':List Nat)(t t':List (List ZZ))(h:okM ((x,l),t) 268435456)(h':okM ((x',l'),t') 268435456) :
  wG Tryz.prog 3 [.agg [.bool x,vL l,vT t],.agg [.bool x',vL l',vT t']] (fun y=>y=.bool true):=by
 refine wD wE Tryz.func3 rfl rfl rfl rfl fun w0=>?_;obtain⟨p1,p2⟩:=pconj_v ((x,l),t) ((x',l'),t') h h';have q2:=two24_v x x' l l' t t' (kP h (by decide)) (kP h' (by decide));have q3:=none_v noM (by decide) (by decide);have hb:-8≤wD6 ((x,l),t) ((x',l'),t')∧wD6 ((x,l),t) ((x',l'),t')≤8:=by unfold wD6 jK chk;repeat' split<;>omega
 by_cases hE:wD6 ((x,l),t) ((x',l'),t')=0
 ·obtain⟨f1,f2,f3⟩:=wW9 hE;obtain⟨sm,n0,n24⟩:=wR6 f1 h;obtain⟨ss,_,_⟩:=wR6 f2 h';rw[f3]at sm n0 n24;have hN:=NM.of ss n0;have q1:=p2 hE _ _ hN;have q4:=conj24_v ((x,l),t) ((x',l'),t') _ _ n0 n24 (by decide) (pC _) sm ss _ _ hN;have q5:=num_v 0;have q6:=num_v 7;rw[hE]at q2;clear p1 p2 hb;generalize intOf (qC ((x',l'),t').1 ((x',l'),t').2).1=D at *
  generalize intT (qC ((x',l'),t').1 ((x',l'),t').2).2=N at *
  by_cases he:wFA D N=0
  ·have hi:=hN.out n0 n24 he;have k1:=hi.mul ((sm.mul ss n0 n24 (by decide)).mono (K':=25*(268435456+1)+1) (by decide)) n0 n24 (by decide);have eC:wQ7 ((x,l),t) ((x',l'),t') D N=xJ (xY D N) (xJ ((x,l),t) ((x',l'),t')):=by unfold wQ7;rw[if_pos he]
   rw[eC]at q1 q4;rw[if_pos he]at q1;rw[decide_eq_true he]at q4;have k0:=okM_0 (kP k1.ok (K':=68719476736) (by decide));generalize xJ (xY D N) (xJ ((x,l),t) ((x',l'),t'))=R at *
   obtain⟨⟨y,k⟩,u⟩:=R;have q7:=same11_aux y y k k u u k0 k0;rw[decide_eq_true rfl]at q7;clear hN hi k1 k0 sm ss;repeat (first|refine wc q1 ?_|refine wc q2 ?_|refine wc q4 ?_|refine wc q5 ?_|refine wc q7 ?_|refine wc hlv ?_|refine wl ?_|refine wv ?_|refine wg rfl cT ?_|refine wg rfl nF ?_|refine wz ?_)
   exact⟨.inl rfl,_,rfl,rfl⟩
  ·have eC:wQ7 ((x,l),t) ((x',l'),t') D N=noM:=by unfold wQ7;rw[if_neg he]
   rw[eC]at q1 q4;rw[if_neg he]at q1;rw[decide_eq_false he]at q4;rw[decide_eq_true rfl]at q3;clear hN sm ss;repeat (first|refine wc q1 ?_|refine wc q2 ?_|refine wc q3 ?_|refine wc q4 ?_|refine wc q6 ?_|refine wc hlv ?_|refine wl ?_|refine wv ?_|refine wg rfl cT ?_|refine wg rfl nF ?_|refine wz ?_)
   exact⟨.inl rfl,_,rfl,rfl⟩
 ·have q1:=p1 hE;have q5:=num_v (wD6 ((x,l),t) ((x',l'),t'));rw[decide_eq_true rfl]at q3;clear p1 p2;generalize wD6 ((x,l),t) ((x',l'),t')=E at *
  repeat (first|refine wc q1 ?_|refine wc q2 ?_|refine wc q3 ?_|refine wc q5 ?_|refine wc hlv ?_|refine wl ?_|refine wv ?_|refine wg rfl cT ?_|refine wg rfl nT ?_|refine wz ?_)
  exact⟨.inl rfl,_,rfl,rfl⟩
end Go.Proofs.YtdcjmnfngabhoaaGreat
