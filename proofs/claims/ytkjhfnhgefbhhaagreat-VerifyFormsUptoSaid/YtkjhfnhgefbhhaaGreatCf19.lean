/- simileref27.square, simileref11.Identity, simileref19.Leads, simileref27.Similar: told of trees. ALLOC -/
import Derived.Test.YtkjhfnhgefbhhaaGreatCf18
set_option linter.all false
set_option maxRecDepth 20000
set_option maxHeartbeats 6400000
namespace Go.Proofs.YtkjhfnhgefbhhaaGreat
open Go.RowKit Go.Ev Go.Vl
def sqB (n:Nat) (m:MM):Bool:=decide (chk m=0∧m.2.length=n∧wR m.2=n)
theorem wKF (x:Bool) (l:List Nat) (t:List (List ZZ)) (n:Nat) (hn:n≤68719476736) (h:okM ((x,l),t) 68719476736):wD Tryz.prog 30 [.agg [.bool x,vL l,vT t],.int .i64 (n:Nat)] (fun y=>y=.bool (sqB n ((x,l),t))):=by
 refine wC wG Tryz.func30 rfl rfl rfl rfl fun w0=>?_
 have fin:∀ {p:Prop} [Decidable p],¬ p→V.bool false=V.bool (decide p):=fun h=>by rw [decide_eq_false h]
 have fit:∀ {p:Prop} [Decidable p],p→V.bool true=V.bool (decide p):=fun h=>by rw [decide_eq_true h]
 have od:okZ (x,l):=⟨h.1,pC h.2.1 (by decide)⟩
 have hml:t.length≤68719476736:=h.2.2.1.1; have hcl:wR t≤68719476736:=by
  unfold wR; cases ht:t with
  | nil=>exact pH _
  | cons r t2=>exact (h.2.2.1.2 r (by rw [ht]; exact pO ..)).1
 have q1:=wBF x l t (by omega)
 have q2:=qAI x l t od (by omega)
 unfold sqB; dsimp only
 obtain ⟨c,hce⟩:∃ c,wR t=c:=⟨_,rfl⟩; rw [hce] at q1 hcl ⊢
 obtain ⟨r,hre⟩:∃ c,t.length=c:=⟨_,rfl⟩; rw [hre] at q1 hml ⊢
 generalize chk ((x,l),t)=e at *
 by_cases h0:e=0
 ·by_cases h1:r=n
  ·by_cases h2:c=n
   ·repeat (first | refine wv ?_ | refine wg rfl cT ?_ | refine wc q1 ?_ | refine wc q2 ?_ | refine wz ?_)
    exact ⟨.inl rfl,_,rfl,fit ⟨h0,h1,h2⟩⟩
   ·repeat (first | refine wv ?_ | refine wg rfl cT ?_ | refine wg rfl cF ?_ | refine wc q1 ?_ | refine wc q2 ?_ | refine wz ?_)
    exact ⟨.inl rfl,_,rfl,fin fun hh=>h2 hh.2.2⟩
  ·repeat (first | refine wv ?_ | refine wg rfl cT ?_ | refine wg rfl cF ?_ | refine wc q1 ?_ | refine wc q2 ?_ | refine kZ rfl rfl rfl rfl rfl rfl ?_ | refine wz ?_)
   exact ⟨.inl rfl,_,rfl,fin fun hh=>h1 hh.2.1⟩
 ·repeat (first | refine wv ?_ | refine wg rfl cF ?_ | refine wc q1 ?_ | refine wc q2 ?_ | refine kZ rfl rfl rfl rfl rfl rfl ?_ | refine wz ?_)
  exact ⟨.inl rfl,_,rfl,fin fun hh=>h0 hh.1⟩
def idG (i:Nat):Nat→Nat→Rat:=fun a b=>if a<i∧a=b then 1 else 0
def idQ (n:Nat):List (List QQ):=(List.range n).map fun a=>(List.range n).map fun b=>qn ((wFF a b:Int):Rat)
theorem idG_next (i:Nat):wBA (idG i) i i 1=idG (i+1):=by
 funext a b
 unfold wBA idG
 by_cases h:a=i∧b=i
 ·rw [if_pos h,if_pos (by omega)]
 ·rw [if_neg h]
  by_cases h2:a<i∧a=b
  ·rw [if_pos h2,if_pos (by omega)]
  ·rw [if_neg h2,if_neg (by omega)]
theorem idG_first (a b:Nat):idG 0 a b=0:=by unfold idG; rw [if_neg (by omega)]
theorem idG_last (n a b:Nat) (ha:a<n):idG n a b=((wFF a b:Int):Rat):=by
 unfold idG wFF
 by_cases h:a=b
 ·rw [if_pos ⟨ha,h⟩,if_pos h]; rfl
 ·rw [if_neg fun hh=>h hh.2,if_neg h]; rfl
theorem id_fin {n:Nat} {L:List (Value × List (List V))} (hL:L.map (·.2)=xM n n (idG n)):wJI L=qU (idQ n):=by
 rw [wTJ,hL]; unfold xM vU qU idQ vQs
 rw [mT,mT]; refine mE fun a ha=>?_
 simp only [Function.comp,List.map_map]
 have e:((List.range n).map fun b=>wH (qn (idG n a b)))=(List.range n).map fun b=>wH (qn ((wFF a b:Int):Rat)):=mE fun b _=>by rw [idG_last n a b (dK.1 ha)]
 rw [e]
 rfl
theorem wSJ {n:Nat} {q:QQ} (h:q∈(idQ n).flatten):∃ a b,q=qn ((wFF a b:Int):Rat):=by
 obtain ⟨r,hr,hq⟩:=cL.1 h; obtain ⟨a,_,rfl⟩:=pJ.1 hr
 obtain ⟨b,_,rfl⟩:=pJ.1 hq; exact ⟨a,b,rfl⟩
theorem qD8 (n:Nat):(idQ n).length=n:=by unfold idQ; rw [pF,cK]
theorem qD7 {n:Nat} {r:List QQ} (h:r∈idQ n):r.length=n:=by
 obtain ⟨a,_,rfl⟩:=pJ.1 h; rw [pF,cK]
theorem idQ_norm (n:Nat):normQ (idQ n):=fun q hq=>by
 obtain ⟨a,b,rfl⟩:=wSJ hq; rw [wN]
theorem wFI:lm 1≤1:=by have:=wL2 0 0; unfold wFF at this; rwa [if_pos rfl] at this
theorem ident11_v (n:Nat) (hn:0<n) (hn':n≤24):wD Tryz.prog 27 [.int .i64 (n:Nat)] (fun y=>y=vM (zC (idQ n))):=by
 refine wC wG Tryz.func27 rfl rfl rfl rfl fun w0=>?_
 have q4:=wO4 n n hn (by omega) (by omega)
 have q5:=wPD 1 (by decide)
 rw [wII] at q4; have q7:=wI0 (idQ n) 1 (by decide) (pC wFI (by decide)) (fun q hq=>by
  obtain ⟨a,b,rfl⟩:=wSJ hq; refine ⟨vV _ (by rw [pA1]; exact pC (wL2 a b) (by decide)) (by rw [pA0]; exact pC wFI (by decide)),?_⟩
  rw [wN,pA0]; exact pC9 _) (by rw [qD8]; omega) (by
  rw [jK fun r hr=>qD7 hr,qD8]
  exact pC (dA hn' hn') (by decide)) (fun r hr=>by rw [qD7 hr]; omega)
 repeat (first | refine wTB 1 rfl ?_ | refine wGH wG 1 200 rfl rfl rfl rfl rfl rfl rfl rfl q4 rfl rfl rfl rfl fun L0 hL0=>?_ | refine sq_v wG rfl rfl rfl rfl ?_ | refine wM9 rfl ?_ | refine wl ?_ | refine wv ?_ | refine wz ?_)
 have hHl:(hdr L0).length=n:=by
  rw [jR]; have:=congrArg List.length hL0
  rwa [pF,wBD] at this
 rw [hHl]; obtain ⟨H,hH0⟩:∃ H,hdr L0=H:=⟨_,rfl⟩
 rw [hH0] at hHl ⊢; have hL1:L0.map (·.2)=xM n n (idG 0):=by
  rw [hL0]; exact yO fun a _ b _=>(idG_first a b).symm
 refine wJ (fun b:Nat × List (Value × List (List V))=>[jB 4 2,jC 5 [.v (.bool false),.nils,.nils],jO 6 1 64 1 H,(401,some (.fam 89 4 b.2)),jI 18 n,jI 20 (b.1)])
  (fun b=>b.1≤n∧hdr b.2=H∧b.2.map (·.2)=xM n n (idG b.1)) (fun b=>n - b.1) (0,L0) (fun _=>rfl) ⟨pH _,hH0,hL1⟩ ⟨rfl,rfl,⟨_,rfl⟩,rfl,rfl,rfl,trivial⟩ fun ⟨i,L1⟩ hI=>?_
 obtain ⟨hI1,hI2,hI3⟩:=hI; dsimp only at hI1 hI2 hI3 ⊢
 rcases pG i n with hi | hi
 ·obtain ⟨u,k1,k2,k3,k4⟩:=wBC hI2 hI3 hi hi 1
  rw [idG_next] at k4; have hHi:i<H.length:=by omega
  have hrow:(vU n (idG i) i)[i]? = some (wH (qn (idG i i i))):=wB1 _ _ hi; have hrl:=v8 n (idG i) i
  have hkl:i<(vU n (idG i) i).length:=by omega
  have ez:((1:Nat):Rat)=1:=rfl; rw [ez] at q5
  clear hI2 hI3; generalize vU n (idG i) i=es at *
  obtain ⟨L4,hL4⟩:∃ L4,L1.set i (u,es.set i (wH (qn 1)))=L4:=⟨_,rfl⟩; rw [hL4] at k3 k4
  generalize qn (idG i i i)=qz at *
  repeat (first | refine wg rfl (sO i hHi) ?_ | refine wg rfl (qP wG rfl rfl rfl k2 rfl rfl rfl) ?_ | refine wg rfl (jY wG (j:=200) (r:=i) (i:=i) rfl rfl rfl rfl rfl rfl rfl k1 hkl rfl) ?_ | refine wg rfl (kM wG (j:=200) rfl rfl rfl k1 hrow rfl rfl rfl rfl (pE _) rfl hL4) ?_ | refine wc q5 ?_ | refine wv ?_ | refine wg rfl cT ?_ | refine wg rfl sB ?_ | refine wz ?_)
  exact ⟨(i+1,L4),⟨hi,k3,k4⟩,by dsimp only; omega,rfl,rfl,⟨_,rfl⟩,rfl,rfl,rfl,trivial⟩
 ·have hie:i=n:=by omega
  subst hie; have hfin:wJI L1=qU (idQ i):=id_fin hI3
  rw [← hI2]
  repeat (first | refine wF5 7 3 200 rfl rfl hfin ?_ | refine wc q7 ?_ | refine wv ?_ | refine wg rfl cF ?_ | refine wz ?_)
  exact ⟨.inl rfl,_,rfl,rfl⟩
theorem wV6 {m m':MM} {n K:Nat} (h:sqM m n K) (h':sqM m' n K) (hn:0<n) (hn':n≤24) (hK:K≤17179869184):wD Tryz.prog 32 [vM m,vM m'] (fun y=>y=vM (zC (k9 m m'))):=by
 have e1:=h.cl hn; have e2:=h'.cl hn
 have r1:=h.rows; have r2:=h'.rows
 have c1:=h.cols; have c2:=h'.cols
 have d1:=h.den; have d2:=h'.den
 have o1:=zS h.ok hK; have o2:=zS h'.ok hK
 clear h h'; obtain ⟨⟨x,l⟩,t⟩:=m
 obtain ⟨⟨x',l'⟩,t'⟩:=m'; dsimp only at e1 e2 r1 r2 c1 c2
 exact mul11_v x x' l l' t t' o1 o2 d1 d2 (fun r hr=>by rw [c1 r hr,e1]) (fun r hr=>by rw [c2 r hr,e2]) (by omega) (by omega) (by omega) (by omega) (by rw [r1,e2]; exact pC (dA hn' hn') (by decide))
theorem wW1 {m m':MM} {n K:Nat} (h:sqM m n K) (h':sqM m' n K) (hn:0<n) (hn':n≤24):sqM (zC (k9 m m')) n (4*K+24):=by
 have e1:=h.cl hn; have e2:=h'.cl hn
 have o:=zS (fromQ_ok h.ok h'.ok h.den h'.den (by omega) (by rw [h.rows,e2]; exact pC (dA hn' hn') (by decide))) (K':=4*K+24) (by omega)
 have hr:∀ x∈(zC (k9 m m')).2,x.length=n:=fun x hx=>by
  obtain ⟨r',hr',rfl⟩:=pJ.1 hx; rw [pF,wNB hr',e2]
 refine ⟨o,qE4 _ (wQ9 _) (wO5 _ _ hr),?_,hr⟩
 show (List.map _ (k9 m m')).length=_
 rw [pF,wND,h.rows]
theorem fromI_sq (n:Nat) (hn':n≤24):sqM (zC (idQ n)) n 17179869184:=by
 have hr:∀ x∈(zC (idQ n)).2,x.length=n:=fun x hx=>by
  obtain ⟨r',hr',rfl⟩:=pJ.1 hx; rw [pF,qD7 hr']
 have hlen:(zC (idQ n)).2.length=n:=by
  show (List.map _ (idQ n)).length=_
  rw [pF,qD8]
 have hD:qM (idQ n).flatten∣1:=wEF _ _ fun q hq=>by
  obtain ⟨a,b,rfl⟩:=wSJ hq; rw [wN,pA0]
  exact pC9 _
 have hD1:qM (idQ n).flatten=1:=Nat.eq_one_of_dvd_one hD; refine ⟨⟨wD5 _,?_,⟨by rw [hlen]; omega,fun x hx=>⟨by rw [hr x hx]; omega,fun z hz=>?_⟩⟩,by rw [jK hr,hlen]; exact pC (dA hn' hn') (by decide)⟩,qE4 _ (wQ9 _) (wO5 _ _ hr),hlen,hr⟩
 ·show lm ((qM (idQ n).flatten:Nat):Int)≤_
  rw [hD1]; exact pC wFI (by decide)
 ·obtain ⟨r',hr',rfl⟩:=pJ.1 hx
  obtain ⟨q,hq,rfl⟩:=pJ.1 hz; refine ⟨wD5 _,?_⟩
  obtain ⟨a,b,rfl⟩:=wSJ (cL.2 ⟨r',hr',hq⟩); show lm (wI (qn ((wFF a b:Int):Rat))*((qM (idQ n).flatten:Nat):Int)).num≤_
  rw [wN,hD1]; have e:=(wJA ((wFF a b:Int):Rat) ((1:Nat):Int) rfl).1
  have e2:lm (((1:Nat):Int):Rat).num≤1:=wFI; rw [pA1] at e
  have:=wL2 a b; omega
theorem wLA {m m':MM} {n K:Nat} (h:sqM m n K) (h':sqM m' n K) (hK:K≤68719476736):wD Tryz.prog 31 [vM m,vM m'] (fun y=>y=.bool (vE m m')):=by
 have d1:=h.den; have d2:=h'.den
 have o1:=zS h.ok hK; have o2:=zS h'.ok hK
 clear h h'; obtain ⟨⟨x,l⟩,t⟩:=m
 obtain ⟨⟨x',l'⟩,t'⟩:=m'; exact equal11_v x x' l l' t t' o1 o2 d1 d2
theorem leads19_v (n:Nat) (hn:0<n) (hn':n≤24) (xa xs xi xb:Bool) (la ls li lb:List Nat) (ta ts ti tb:List (List ZZ)) (ha:sqM ((xa,la),ta) n 1073741824) (hs:sqM ((xs,ls),ts) n 1073741824) (hi:sqM ((xi,li),ti) n 1073741824) (hb:sqM ((xb,lb),tb) n 1073741824) :
  wD Tryz.prog 33 [.agg [.bool xa,vL la,vT ta],.agg [.bool xs,vL ls,vT ts],.agg [.bool xi,vL li,vT ti],.agg [.bool xb,vL lb,vT tb]] (fun y=>y=.bool (vE (zC (k9 (zC (k9 ((xi,li),ti) ((xa,la),ta))) ((xs,ls),ts))) ((xb,lb),tb))):=by
 refine wC wG Tryz.func33 rfl rfl rfl rfl fun w0=>?_
 have q1:=wV6 hi ha hn hn' (by decide)
 have s1:=wW1 hi ha hn hn'; have q2:=wV6 s1 (hs.mono (by decide)) hn hn' (by decide)
 have s2:=wW1 s1 (hs.mono (by decide)) hn hn'
 have q3:=wLA s2 (hb.mono (by decide)) (by decide)
 generalize zC (k9 ((xi,li),ti) ((xa,la),ta))=P at *; generalize zC (k9 P ((xs,ls),ts))=R at *
 generalize vE R ((xb,lb),tb)=b at *; clear s1 s2
 obtain ⟨⟨px,pl⟩,pt⟩:=P; obtain ⟨⟨rx,rl⟩,rt⟩:=R
 repeat (first | refine wv ?_ | refine wc q1 ?_ | refine wc q2 ?_ | refine wc q3 ?_ | refine wz ?_)
 exact ⟨.inl rfl,_,rfl,rfl⟩
theorem wPB {m:MM} {n K:Nat} (h:sqB n m=true) (ho:okM m K):sqM m n K:=by
 unfold sqB at h; rw [decide_eq_true_eq] at h
 exact sqM.of ho h.1 h.2.1 h.2.2
end Go.Proofs.YtkjhfnhgefbhhaaGreat
/- simileref09: at, Add, Scale, Sub, shift told of trees. ALLOC -/
namespace Go.Proofs.YtkjhfnhgefbhhaaGreat
open Go.RowKit Go.Ev Go.Vl
def atR (l:List Rat) (i:Nat):Rat:=l.getD i 0
def addR (a b:List Rat):List Rat:=(List.range (max a.length b.length)).map fun i=>atR a i+atR b i
def kD (a:List Rat) (c:Rat):List Rat:=a.map fun x=>x*c
def kL (a:List Rat) (k:Nat):List Rat:=List.replicate k 0++a
def okB (K:Nat) (x:Rat):Prop:=lm x.num≤K∧lm (x.den:Int)≤K
def zP (K:Nat) (qs:List QQ):Prop:=(∀ q∈qs,okS q∧okB K (wI q))∧qs.length≤1048576
theorem zP.q {K:Nat} {qs:List QQ} (h:zP K qs):∀ q∈qs,okQ q∧intOf q.2≠0:=fun q hq=>⟨(h.1 q hq).1.ok,(h.1 q hq).1.2.2.2.2⟩
theorem kG {l:List Rat} {i:Nat} {x:Rat} (h:l[i]? = some x):atR l i=x:=by
 unfold atR; rw [pK,h]
 rfl
theorem zU {l:List Rat} {i:Nat} (h:l.length≤i):atR l i=0:=by
 unfold atR; rw [pK,cE h]
 rfl
theorem kN (qs:List QQ):(wF qs).length=qs.length:=by unfold wF; rw [pF]
theorem wUD {qs:List QQ} {i:Nat} {q:QQ} (h:qs[i]? = some q):(wF qs)[i]? = some (wI q):=by unfold wF; rw [pI,h]; rfl
theorem wA8 (K:Nat) (hK:1≤K):okB K 0:=⟨by show lm 0≤K; unfold lm; simp [qB],pC wFI hK⟩
theorem wA7 {K:Nat} {x:Rat} (h:okB K x) (hK:K≤68719476736):okS (qn x):=vV _ (by have:=h.1; omega) (by have:=h.2; omega)
theorem okB_add {K:Nat} {x y:Rat} (hx:okB K x) (hy:okB K y):okB (2*K+1) (x+y):=by
 have e:x+y=Rat.divInt (x.num*y.den+y.num*x.den) (x.den*y.den):=by
  conv=>lhs; rw [← cU x,← cU y]
  rw [Rat.divInt_add_divInt _ _ (by have:=x.den_nz; omega) (by have:=y.den_nz; omega)]
 obtain ⟨n1,n2⟩:=zF (x.num*y.den+y.num*x.den) (x.den*y.den) (cD (by have:=x.den_nz; omega) (by have:=y.den_nz; omega))
 have l1:=qJ x.num y.den; have l2:=qJ y.num x.den
 have l3:=qJ x.den y.den; have a1:=hx.1
 have a2:=hx.2; have b1:=hy.1
 have b2:=hy.2; have l4:=wQ5 (x.num*y.den) (y.num*x.den) (2*K) (by omega) (by omega)
 rw [e]; exact ⟨by omega,by omega⟩
theorem wSG {K L:Nat} {x y:Rat} (hx:okB K x) (hy:okB L y):okB (K+L) (x*y):=by
 have e:x*y=Rat.divInt (x.num*y.num) (x.den*y.den):=by
  conv=>lhs; rw [← cU x,← cU y]
  rw [dE]
 obtain ⟨n1,n2⟩:=zF (x.num*y.num) (x.den*y.den) (cD (by have:=x.den_nz; omega) (by have:=y.den_nz; omega))
 have l1:=qJ x.num y.num; have l3:=qJ x.den y.den
 have a1:=hx.1; have a2:=hx.2
 have b1:=hy.1; have b2:=hy.2
 rw [e]; exact ⟨by omega,by omega⟩
theorem okB.mono {K L:Nat} {x:Rat} (h:okB K x) (hk:K≤L):okB L x:=⟨pC h.1 hk,pC h.2 hk⟩
theorem zP.at {K:Nat} {qs:List QQ} (h:zP K qs) (hK:1≤K) (i:Nat):okB K (atR (wF qs) i):=by
 rcases pG i qs.length with hi | hi
 ·obtain ⟨q,hq⟩:=gE hi
  rw [kG (wUD hq)]; exact (h.1 q (pD hq)).2
 ·rw [zU (by rw [kN]; exact hi)]
  exact wA8 K hK
def wQ (l:List Rat):List QQ:=l.map qn
theorem zK {K:Nat} {l:List Rat} (h:∀ x∈l,okB K x) (hK:K≤68719476736) (hl:l.length≤1048576):zP K (wQ l):=by
 refine ⟨fun q hq=>?_,by unfold wQ; rw [pF]; exact hl⟩
 obtain ⟨x,hx,rfl⟩:=pJ.1 hq; rw [wN]
 exact ⟨wA7 (h x hx) hK,h x hx⟩
theorem zQ (l:List Rat):wF (wQ l)=l:=by
 unfold wF wQ; rw [mT]
 conv=>rhs; rw [← pG6 l]
 refine mE fun x _=>?_
 simp only [Function.comp,id]
 exact wN x
theorem at09_v (qs:List QQ) (i:Nat) (hl:qs.length≤68719476736) (hi:i≤68719476736) (hn:∀ q∈qs,q=qn (wI q)):wD Tryz.prog 286 [vQs qs,.int .i64 (i:Nat)] (fun y=>y=nR (atR (wF qs) i)):=by
 refine wC wG Tryz.func286 rfl rfl rfl rfl fun w0=>?_
 have q1:=wPD 0 (by decide)
 have ez:((0:Nat):Rat)=0:=rfl; rw [ez] at q1
 rcases pG i qs.length with h | h
 ·obtain ⟨q,hq⟩:=gE h
  have hg:=kO qs i q hq; have he:=hn q (pD hq)
  have e:nR (atR (wF qs) i)=vQ q:=by
   rw [kG (wUD hq)]; unfold nR
   rw [← he]
  rw [e]; obtain ⟨⟨x,l⟩,⟨y,m⟩⟩:=q
  repeat (first | refine wg rfl (sL (qW qs)) ?_ | refine wg rfl (sX i hg) ?_ | refine wl ?_ | refine wv ?_ | refine wg rfl cF ?_ | refine wz ?_)
  exact ⟨.inl rfl,_,rfl,rfl⟩
 ·rw [zU (by rw [kN]; exact h)]
  repeat (first | refine wg rfl (sL (qW qs)) ?_ | refine wc q1 ?_ | refine wl ?_ | refine wv ?_ | refine wg rfl cT ?_ | refine wg rfl cF ?_ | refine wz ?_)
  exact ⟨.inl rfl,_,rfl,rfl⟩
theorem add09_v (ps qs:List QQ) (K:Nat) (hK1:1≤K) (hK:K≤17179869184) (h:zP K ps) (h':zP K qs) (hn:∀ q∈ps,q=qn (wI q)) (hn':∀ q∈qs,q=qn (wI q)):wD Tryz.prog 255 [vQs ps,vQs qs] (fun y=>y=vQs (pn (addR (wF ps) (wF qs)))):=by
 refine wC wG Tryz.func255 rfl rfl rfl rfl fun w0=>?_
 have hpl:=h.2; have hql:=h'.2
 obtain ⟨N,hN⟩:∃ N,max ps.length qs.length=N:=⟨_,rfl⟩; obtain ⟨R,hR⟩:∃ R,addR (wF ps) (wF qs)=R:=⟨_,rfl⟩
 have hRl:R.length=N:=by rw [← hR]; unfold addR; rw [pF,cK,kN,kN,hN]
 have hRat:∀ k,k<N→R[k]? = some (atR (wF ps) k+atR (wF qs) k):=fun k hk=>by
  rw [← hR]; unfold addR
  rw [pI,kN,kN,hN,bK hk]
  rfl
 have hRB:∀ x∈R,okB (2*K+1) x:=fun x hx=>by
  obtain ⟨k,hk⟩:=dW hx; have hkn:k<N:=by have:=(pS.1 hk).1; omega
  rw [hRat k hkn] at hk; cases hk
  exact okB_add (h.at hK1 k) (h'.at hK1 k)
 have q9:=yD (wQ R) (zK hRB (by omega) (by omega)).q (by have:=(zK hRB (by omega) (by omega)).2; omega)
 rw [zQ] at q9; have hRm:((wQ R).map wH).length=N:=by rw [pF]; unfold wQ; rw [pF,hRl]
 have hrep:List.replicate N q0=((wQ R).map wH).take 0++List.replicate (((wQ R).map wH).length - 0) q0:=by rw [hRm]; simp
 have hrl:(((wQ R).map wH).take 0++List.replicate (((wQ R).map wH).length - 0) q0).length=N:=by rw [← hrep]; simp
 rw [hR]
 repeat (first | refine wg rfl (sL (qW ps)) ?_ | refine wg rfl (sL (qW qs)) ?_ | refine wv ?_ | refine wg rfl (j0 rfl rfl rfl rfl (rfl) rfl) ?_ | refine wz ?_)
 show VW _ _ _ _ _ _
 refine wM3 (fun _:Unit=>[jV 0 (vQs ps),jV 2 (vQs qs),jI 10 N]) (fun _=>True) (fun _=>rfl) ?_ fun _ _=>?_
 ·by_cases hgt:ps.length<qs.length
  ·rw [decide_eq_true (show (ps.length:Int)<(qs.length:Int) by omega)]
   have e:N=qs.length:=by omega
   rw [e]
   repeat (first | refine wg rfl (sL (qW qs)) ?_ | refine wv ?_ | refine wz ?_)
   exact ⟨(),trivial,rfl,rfl,rfl,trivial⟩
  ·rw [decide_eq_false (show ¬ (ps.length:Int)<(qs.length:Int) by omega)]
   have e:N=ps.length:=by omega
   rw [e]
   repeat refine wz ?_
   exact ⟨(),trivial,rfl,rfl,rfl,trivial⟩
 ·repeat (first | refine wg rfl (sM 7000 N N 4 64 hrep) ?_ | refine wg rfl (sL hrl) ?_ | refine wv ?_ | refine wz ?_)
  refine wJ (fun k:Nat=>[jV 0 (vQs ps),jV 2 (vQs qs),jO 12 2 89 4 (((wQ R).map wH).take k++List.replicate (((wQ R).map wH).length - k) q0),jI 38 N,jI 40 k])
   (fun k=>k≤N) (fun k=>N - k) 0 (fun _=>rfl) (pH _) ⟨rfl,rfl,⟨_,rfl⟩,rfl,rfl,trivial⟩ fun k hK2=>?_
  rcases pG k N with hk | hk
  ·have q1:=at09_v ps k (by omega) (by omega) hn
   have q2:=at09_v qs k (by omega) (by omega) hn'
   have q3:=qCG (qn (atR (wF ps) k)) (qn (atR (wF qs) k)) (wA7 (h.at hK1 k) (by omega)) (wA7 (h'.at hK1 k) (by omega))
   rw [wN,wN] at q3; have hgz:((wQ R).map wH)[k]? = some (wH (qn (atR (wF ps) k+atR (wF qs) k))):=by
    unfold wQ; rw [pI,pI,hRat k hk]
    rfl
   have hset:=v7 ((wQ R).map wH) q0 k _ hgz; have hown:(((wQ R).map wH).take k++List.replicate (((wQ R).map wH).length - k) q0)[k]? = some q0:=by
    rw [mI (by rw [pM]; omega),mU,if_pos (by rw [pM]; omega)]
   have hlen:k<(((wQ R).map wH).take k++List.replicate (((wQ R).map wH).length - k) q0).length:=by rw [pW,pM,mP]; omega
   generalize ((wQ R).map wH).take k++List.replicate (((wQ R).map wH).length - k) q0=row at *; unfold q0 at hown
   unfold nR at q1 q2 q3; generalize qn (atR (wF ps) k+atR (wF qs) k)=qz at *
   generalize qn (atR (wF ps) k)=qx at *; generalize qn (atR (wF qs) k)=qy at *
   clear hn hn' h h'
   repeat (first | refine wc q1 ?_ | refine wc q2 ?_ | refine wc q3 ?_ | refine wg rfl (sO k hlen) ?_ | refine wg rfl (sS hown (he:=by exact hset)) ?_ | refine wv ?_ | refine wg rfl cT ?_ | refine wg rfl sB ?_ | refine wz ?_)
   exact ⟨k+1,hk,by omega,rfl,rfl,⟨_,rfl⟩,rfl,rfl,trivial⟩
  ·have hke:k=N:=by omega
   subst hke; have hfull:((wQ R).map wH).take k++List.replicate (((wQ R).map wH).length - k) q0=(wQ R).map wH:=by
    rw [pN (by omega),hRm,dV]
    simp
   rw [hfull]
   repeat (first | refine wv ?_ | refine wg rfl cF ?_ | refine wh q9 ?_ | refine wz ?_)
   exact ⟨.inl rfl,_,rfl,rfl⟩
theorem wZA (ps:List QQ) (c:Rat) (K L:Nat) (hK1:1≤K) (hK:K+L≤68719476736) (h:zP K ps) (hc:okB L c):wD Tryz.prog 258 [vQs ps,vQ (qn c)] (fun y=>y=vQs (pn (kD (wF ps) c))):=by
 refine wC wG Tryz.func258 rfl rfl rfl rfl fun w0=>?_
 have hpl:=h.2; obtain ⟨N,hN⟩:∃ N,ps.length=N:=⟨_,rfl⟩
 obtain ⟨R,hR⟩:∃ R,kD (wF ps) c=R:=⟨_,rfl⟩; have hRl:R.length=N:=by rw [← hR]; unfold kD; rw [pF,kN,hN]
 have hRB:∀ x∈R,okB (K+L) x:=fun x hx=>by
  rw [← hR] at hx; obtain ⟨y,hy,rfl⟩:=pJ.1 hx
  obtain ⟨q,hq,rfl⟩:=pJ.1 hy; exact wSG (h.1 q hq).2 hc
 have q9:=yD (wQ R) (zK hRB hK (by omega)).q (by have:=(zK hRB hK (by omega)).2; omega)
 rw [zQ] at q9; have hRm:((wQ R).map wH).length=N:=by rw [pF]; unfold wQ; rw [pF,hRl]
 have hrep:List.replicate N q0=((wQ R).map wH).take 0++List.replicate (((wQ R).map wH).length - 0) q0:=by rw [hRm]; simp
 have hrl:(((wQ R).map wH).take 0++List.replicate (((wQ R).map wH).length - 0) q0).length=N:=by rw [← hrep]; simp
 have hpN:(ps.map wH).length=N:=by rw [pF,hN]
 obtain ⟨qc,hqc⟩:∃ qc,qn c=qc:=⟨_,rfl⟩; have hqo:okS qc:=by rw [← hqc]; exact wA7 hc (by omega)
 have hqr:wI qc=c:=by rw [← hqc,wN]
 rw [hR,hqc]; obtain ⟨⟨cx,cl⟩,⟨cy,cm⟩⟩:=qc
 repeat (first | refine wg rfl (sL hpN) ?_ | refine wg rfl (sM 7000 N N 4 64 hrep) ?_ | refine wg rfl (sL hrl) ?_ | refine wv ?_ | refine wz ?_)
 refine wJ (fun k:Nat=>[jV 0 (vQs ps),jB 6 3,jC 7 [.v (.bool cx),.v (vL cl),.v (.bool cy),.v (vL cm)],jO 10 2 89 4 (((wQ R).map wH).take k++List.replicate (((wQ R).map wH).length - k) q0),jI 22 N,jI 24 k])
  (fun k=>k≤N) (fun k=>N - k) 0 (fun _=>rfl) (pH _) ⟨rfl,rfl,rfl,⟨_,rfl⟩,rfl,rfl,trivial⟩ fun k hK2=>?_
 rcases pG k N with hk | hk
 ·obtain ⟨q,hq⟩:=gE (l:=ps) (i:=k) (by omega)
  have hg:=kO ps k q hq; have ho:=h.1 q (pD hq)
  have q1:=wS9 q ((cx,cl),(cy,cm)) ho.1 hqo; rw [hqr] at q1
  have hgz:((wQ R).map wH)[k]? = some (wH (qn (wI q*c))):=by
   unfold wQ; rw [pI,pI,← hR]
   unfold kD; rw [pI,wUD hq]
   rfl
  have hset:=v7 ((wQ R).map wH) q0 k _ hgz; have hown:(((wQ R).map wH).take k++List.replicate (((wQ R).map wH).length - k) q0)[k]? = some q0:=by
   rw [mI (by rw [pM]; omega),mU,if_pos (by rw [pM]; omega)]
  have hlen:k<(((wQ R).map wH).take k++List.replicate (((wQ R).map wH).length - k) q0).length:=by rw [pW,pM,mP]; omega
  generalize ((wQ R).map wH).take k++List.replicate (((wQ R).map wH).length - k) q0=row at *; unfold q0 at hown
  unfold nR at q1; generalize qn (wI q*c)=qz at *
  clear h; obtain ⟨⟨x,l⟩,⟨y,m⟩⟩:=q
  repeat (first | refine wg rfl (sX k hg) ?_ | refine wc q1 ?_ | refine wg rfl (sO k hlen) ?_ | refine wg rfl (sS hown (he:=by exact hset)) ?_ | refine wv ?_ | refine wg rfl cT ?_ | refine wg rfl sB ?_ | refine wz ?_)
  exact ⟨k+1,hk,by omega,rfl,rfl,rfl,⟨_,rfl⟩,rfl,rfl,trivial⟩
 ·have hke:k=N:=by omega
  subst hke; have hfull:((wQ R).map wH).take k++List.replicate (((wQ R).map wH).length - k) q0=(wQ R).map wH:=by
   rw [pN (by omega),hRm,dV]
   simp
  rw [hfull]
  repeat (first | refine wv ?_ | refine wg rfl cF ?_ | refine wh q9 ?_ | refine wz ?_)
  exact ⟨.inl rfl,_,rfl,rfl⟩
end Go.Proofs.YtkjhfnhgefbhhaaGreat
/- simileref09: Sub, shift told of trees. ALLOC -/
namespace Go.Vl
open Go.RowKit Go.Ev
section
variable {P:Program} {w0:Base} {n:Nat} {st:Fm} {o:Oper}
theorem sem_neg {t:TypeId} {x:Operand} {k:IntKind} {m r:Int} (hop:o.op=.unOp .neg t x) (hx:opv st x=some (.v (.int k m))) (hr:k.wrap (0 - m)=r) (hd:dLt n o.dst=true):wP P w0 n o (rdO x) (dput o.dst (some (.sv (.v (.int k r))))) [] st :=
 qH hd fun f hf β a w hb=>by
  have e1:=hb.val (x:=x) (y:=.int k m) (by rw [wK hf]; exact hx)
  generalize hu:a.eval x=u at e1; cases e1
  exact ⟨.int k r,by simp [execOp,hop,hu,Op.unary,Op.intArith,← hr],.int _ _⟩
end
end Go.Vl
namespace Go.Proofs.YtkjhfnhgefbhhaaGreat
open Go.RowKit Go.Ev Go.Vl
theorem rofm3_v:wD Tryz.prog 97 [.int .i64 (-1)] (fun y=>y=nI (-1)):=by
 refine wC wG Tryz.func97 rfl rfl rfl rfl fun w0=>?_
 have q1:=of01_v 1 (by decide)
 repeat (first | refine wg rfl (sem_neg (r:=0) rfl rfl rfl rfl) ?_ | refine wg rfl (k0 rfl rfl rfl rfl (r':=((1:Nat):Int)) (show ewrap .u64 (0+1)=((1:Nat):Int) from rfl) rfl) ?_ | refine wc q1 ?_ | refine wl ?_ | refine wv ?_ | refine wg rfl cF ?_ | refine wg rfl sB ?_ | refine wg rfl (qI wG rfl rfl rfl rfl (jZ (by omega) (by omega)) rfl) ?_ | refine wz ?_)
 refine ⟨.inl rfl,_,rfl,?_⟩
 have e:=nI_of true 1; have h1:(0:Int)<((toL 1).length:Nat):=by simp [toL,qB]
 rw [if_pos rfl,decide_eq_true h1,if_pos rfl] at e; exact e
theorem rofm5_v:wD Tryz.prog 58 [.int .i64 (-1)] (fun y=>y=nR (-1)):=by
 refine wC wG Tryz.func58 rfl rfl rfl rfl fun w0=>?_
 have q1:=rofm3_v; have q2:=rof_v 1 (by decide)
 repeat (first | refine wl ?_ | refine wv ?_ | refine wc q1 ?_ | refine wc q2 ?_ | refine wz ?_)
 exact ⟨.inl rfl,_,rfl,rfl⟩
theorem okB_m1:okB 1 (-1):=⟨by show lm (-1)≤1; rw [wL3]; exact wFI,wFI⟩
theorem qCI (l:List Rat):pn l=wQ (w8 l):=rfl
theorem wDH (l:List Rat):wF (pn l)=w8 l:=zQ _
theorem qCJ (l:List Rat):∀ q∈pn l,q=qn (wI q):=fun q hq=>by
 obtain ⟨x,_,rfl⟩:=pJ.1 hq; rw [wN]
theorem xU {l:List Rat} {x:Rat} (h:x∈w8 l):x∈l:=dC h
theorem qF0 (l:List Rat):(w8 l).length≤l.length:=by rw [qN]; exact kS l
theorem wH4 {K:Nat} {l:List Rat} (h:∀ x∈l,okB K x) (hK:K≤68719476736) (hl:l.length≤1048576):zP K (pn l):=zK (fun x hx=>h x (xU hx)) hK (pC (qF0 l) hl)
def subR (a b:List Rat):List Rat:=addR a (w8 (kD b (-1)))
theorem sub09_v (ps qs:List QQ) (K:Nat) (hK1:1≤K) (hK:K≤8589934592) (h:zP K ps) (h':zP K qs) (hn:∀ q∈ps,q=qn (wI q)):wD Tryz.prog 257 [vQs ps,vQs qs] (fun y=>y=vQs (pn (subR (wF ps) (wF qs)))):=by
 refine wC wG Tryz.func257 rfl rfl rfl rfl fun w0=>?_
 have q1:=rofm5_v; have q2:=wZA qs (-1) K 1 hK1 (by omega) h' okB_m1
 have hp:zP (K+1) (pn (kD (wF qs) (-1))):=wH4 (fun x hx=>by
  obtain ⟨y,hy,rfl⟩:=pJ.1 hx; obtain ⟨q,hq,rfl⟩:=pJ.1 hy
  exact wSG (h'.1 q hq).2 okB_m1) (by omega) (by
  unfold kD; rw [pF,kN]
  exact h'.2)
 have hps:zP (K+1) ps:=⟨fun q hq=>⟨(h.1 q hq).1,(h.1 q hq).2.mono (by omega)⟩,h.2⟩
 have q3:=add09_v ps (pn (kD (wF qs) (-1))) (K+1) (by omega) (by omega) hps hp hn (qCJ _)
 rw [wDH] at q3; unfold nR at q1
 unfold subR; generalize pn (addR (wF ps) (w8 (kD (wF qs) (-1))))=R at *
 generalize pn (kD (wF qs) (-1))=T at *; clear h h' hn hp hps
 repeat (first | refine wv ?_ | refine wc q1 ?_ | refine wc q2 ?_ | refine wc q3 ?_ | refine wz ?_)
 exact ⟨.inl rfl,_,rfl,rfl⟩
theorem wZ5 (ps:List QQ) (k K:Nat) (hK1:1≤K) (hK:K≤68719476736) (hk:k≤1048576) (hkl:ps.length+k≤1048576) (h:zP K ps) (hn:∀ q∈ps,q=qn (wI q)):wD Tryz.prog 256 [vQs ps,.int .i64 (k:Nat)] (fun y=>y=vQs (pn (kL (wF ps) k))):=by
 refine wC wG Tryz.func256 rfl rfl rfl rfl fun w0=>?_
 have q1:=wPD 0 (by decide)
 have ez:((0:Nat):Rat)=0:=rfl; rw [ez] at q1
 have hps:ps=wQ (wF ps):=by
  unfold wQ wF; rw [mT]
  conv=>lhs; rw [← pG6 ps]
  refine mE fun q hq=>?_
  simp only [Function.comp,id]
  exact hn q hq
 have hR:List.replicate k z4++ps.map wH=(wQ (kL (wF ps) k)).map wH:=by
  unfold kL wQ z4; rw [fM,fM,List.map_replicate,List.map_replicate]
  congr 1
  conv=>lhs; rw [hps]
  rfl
 have hB:∀ x∈kL (wF ps) k,okB K x:=fun x hx=>by
  rcases cH.1 hx with hx | hx
  ·rw [fW hx]
   exact wA8 K hK1
  ·obtain ⟨q,hq,rfl⟩:=pJ.1 hx
   exact (h.1 q hq).2
 have hlen:(kL (wF ps) k).length≤1048576:=by
  unfold kL; rw [pW,mP,kN]
  omega
 have q9:=yD (wQ (kL (wF ps) k)) (zK hB hK hlen).q (by have:=(zK hB hK hlen).2; omega)
 rw [zQ] at q9; have hzl:(List.replicate k z4).length=k:=mP
 have hrep:List.replicate k q0=(List.replicate k z4).take 0++List.replicate ((List.replicate k z4).length - 0) q0:=by rw [hzl]; simp
 have hrl:((List.replicate k z4).take 0++List.replicate ((List.replicate k z4).length - 0) q0).length=k:=by rw [← hrep]; simp
 repeat (first | refine wg rfl (sM 7000 k k 4 64 hrep) ?_ | refine wg rfl (sL hrl) ?_ | refine wv ?_ | refine wz ?_)
 refine wJ (fun j:Nat=>[jV 0 (vQs ps),jO 10 2 89 4 ((List.replicate k z4).take j++List.replicate ((List.replicate k z4).length - j) q0),jI 20 k,jI 22 j])
  (fun j=>j≤k) (fun j=>k - j) 0 (fun _=>rfl) (pH _) ⟨rfl,⟨_,rfl⟩,rfl,rfl,trivial⟩ fun j hJ=>?_
 rcases pG j k with hj | hj
 ·have hgz:(List.replicate k z4)[j]? = some z4:=by rw [mU,if_pos hj]
  have hset:=v7 (List.replicate k z4) q0 j z4 hgz; have hown:((List.replicate k z4).take j++List.replicate ((List.replicate k z4).length - j) q0)[j]? = some q0:=by
   rw [mI (by rw [pM]; omega),mU,if_pos (by rw [pM]; omega)]
  have hlen2:j<((List.replicate k z4).take j++List.replicate ((List.replicate k z4).length - j) q0).length:=by rw [pW,pM,mP (n:=(List.replicate k z4).length - j)]; omega
  generalize (List.replicate k z4).take j++List.replicate ((List.replicate k z4).length - j) q0=row at *; unfold q0 at hown
  clear hn h hps hR hB q9
  repeat (first | refine wc q1 ?_ | refine wg rfl (sO j hlen2) ?_ | refine wg rfl (sS hown (he:=by exact hset)) ?_ | refine wv ?_ | refine wg rfl cT ?_ | refine wg rfl sB ?_ | refine wz ?_)
  exact ⟨j+1,hj,by omega,rfl,⟨_,rfl⟩,rfl,rfl,trivial⟩
 ·have hje:j=k:=by omega
  subst hje; have hfull:(List.replicate j z4).take j++List.replicate ((List.replicate j z4).length - j) q0=List.replicate j z4:=by
   rw [pN (by simp),hzl,dV]
   simp
  rw [hfull]; have hk4:∀ e∈ps.map wH,e.length=4:=fun e h=>by
   obtain ⟨q,_,rfl⟩:=pJ.1 h
   rfl
  have hpl:(ps.map wH).length≤1048576:=by rw [pF]; omega
  unfold vQs at *; clear hn h hps hB
  generalize (wQ (kL (wF ps) j)).map wH=R at *
  repeat (first | refine wf rfl rfl (z7 (id:=7001) (es2:=ps.map wH) (m:=4) (bb:=64) wG rfl rfl rfl rfl rfl rfl rfl rfl rfl rfl rfl hk4 rfl (by rw [hzl]; simp only [maxLen]; omega) (by rw [hzl]; omega) rfl rfl hR) ?_ | refine wh q9 ?_ | refine wv ?_ | refine wg rfl cF ?_ | refine wz ?_)
  exact ⟨.inl rfl,_,rfl,rfl⟩
end Go.Proofs.YtkjhfnhgefbhhaaGreat
/- Long division over fractions: plain. -/
namespace Go.Proofs.YtkjhfnhgefbhhaaGreat
open Go.RowKit Go.Ev Go.Vl
theorem jH (l:List Rat) (i:Nat):atR (w8 l) i=atR l i:=by
 rcases pG i (wV l) with h | h
 ·unfold atR w8
  rw [pK,pK,pZ,if_pos h]
 ·rw [zU (by rw [qN]; exact h)]
  rcases pG i l.length with h2 | h2
  ·have hx:l[i]? = some l[i]:=pU h2
   rw [kG hx]; exact (wE5 l i _ h hx).symm
  ·rw [zU h2]
theorem wC6 {l:List Rat} {n:Nat} (h:∀ i,n≤i→atR l i=0):wV l≤n:=by
 rcases pG n (wV l) with h2 | h2
 ·obtain ⟨m,hm⟩:∃ m,wV l=m+1:=⟨wV l - 1,by omega⟩
  have hle:=kS l; have hx:l[m]? = some l[m]:=pU (by omega)
  have:=h m (by omega)
  rw [kG hx] at this; exact absurd this (wC5 l m _ hm hx)
 ·exact h2
theorem atR_top {l:List Rat} {m:Nat} (h:wV l=m+1):atR l m≠0:=by
 have hle:=kS l; have hx:l[m]? = some l[m]:=pU (by omega)
 rw [kG hx]; exact wC5 l m _ h hx
theorem qIC {l:List Rat} {i:Nat} (h:wV l≤i):atR l i=0:=by
 rw [← jH,zU (by rw [qN]; exact h)]
theorem qH0 {l l':List Rat} (h:∀ i,atR l i=atR l' i):wV l=wV l' :=
 Nat.le_antisymm (wC6 fun i hi=>by rw [h,qIC hi]) (wC6 fun i hi=>by rw [← h,qIC hi])
theorem wTF {l l':List Rat} (h:∀ i,atR l i=atR l' i):w8 l=w8 l':=by
 have e:=qH0 h
 apply bA
 intro i
 rcases pG i (wV l) with h2 | h2
 ·have l1:=kS l
  have l2:=kS l'; obtain ⟨x,hx⟩:∃ x,(w8 l)[i]? = some x:=⟨_,pU (by rw [qN]; exact h2)⟩
  obtain ⟨y,hy⟩:∃ x,(w8 l')[i]? = some x:=⟨_,pU (by rw [qN]; omega)⟩
  have:=h i; rw [← jH l,← jH l',kG hx,kG hy] at this
  rw [hx,hy,this]
 ·rw [cE (by rw [qN]; exact h2),cE (by rw [qN]; omega)]
theorem wQ7 (l:List Rat):wV (w8 l)=wV l:=qH0 (jH l)
theorem xT (l:List Rat):w8 (w8 l)=w8 l:=wTF (jH l)
theorem wT5 (a b:List Rat) (i:Nat):atR (addR a b) i=atR a i+atR b i:=by
 rcases pG i (max a.length b.length) with h | h
 ·have hx:(addR a b)[i]? = some (atR a i+atR b i):=by
   unfold addR; rw [pI,bK h]
   rfl
  exact kG hx
 ·rw [zU (l:=addR a b) (by unfold addR; rw [pF,cK]; exact h),zU (l:=a) (by omega),zU (l:=b) (by omega),bZ]
theorem qB4 (a:List Rat) (c:Rat) (i:Nat):atR (kD a c) i=atR a i*c:=by
 unfold kD; rcases pG i a.length with h | h
 ·have hx:a[i]? = some a[i]:=pU h
  rw [kG hx]; refine kG ?_
  rw [pI,hx]
  rfl
 ·rw [zU (by rw [pF]; exact h),zU h,pE9]
theorem wQJ (a:List Rat) (k i:Nat):atR (kL a k) i=if i<k then 0 else atR a (i - k):=by
 unfold kL
 by_cases h:i<k
 ·rw [if_pos h]
  refine kG ?_
  rw [dF (by rw [mP]; exact h),mU,if_pos h]
 ·rw [if_neg h]
  unfold atR; rw [pK,pK,mI (by rw [mP]; omega),mP]
def zD (A B:List Rat):Rat:=atR A (A.length - 1) / atR B (B.length - 1)
def stepM (A B:List Rat):List Rat:=w8 (kL (w8 (kD B (zD A B))) (A.length - B.length))
def vP (A B:List Rat):List Rat:=w8 (subR A (stepM A B))
def yK (q A B:List Rat):List Rat:=w8 (addR q (w8 (kL [zD A B] (A.length - B.length))))
def wOB:Nat→List Rat→List Rat→List Rat→List Rat × List Rat
 | 0,q,A,_=>(q,A)
 | n+1,q,A,B=>if B.length≤A.length then wOB n (yK q A B) (vP A B) B else (q,A)
theorem wU1 (A B:List Rat) (i:Nat):atR (vP A B) i=atR A i - (if i<A.length - B.length then 0 else atR B (i - (A.length - B.length))*zD A B):=by
 unfold vP subR stepM; rw [jH,wT5,jH,qB4,jH,wQJ]
 split
 ·rw [pE9,fL,Rat.neg_zero]
 ·rw [jH,qB4,fL,Rat.mul_neg,Rat.mul_one]
theorem qF7 {A B:List Rat} (hB:0<B.length) (h0:atR B (B.length - 1)≠0) (hle:B.length≤A.length):(vP A B).length<A.length:=by
 have:wV (vP A B)≤A.length - 1:=wC6 fun i hi=>by
  rw [wU1]; rcases pG i A.length with h | h
  ·obtain rfl:i=A.length - 1:=by omega
   rw [if_neg (by omega)]
   have e:A.length - 1 - (A.length - B.length)=B.length - 1:=by omega
   rw [e]; unfold zD
   rw [Rat.mul_comm,pE0 h0,pF0]
  ·rw [zU h]
   split
   ·rw [pF0]
   ·rw [zU (by omega),pE9,pF0]
 unfold vP at this ⊢; rw [wQ7] at this
 rw [qN]; omega
theorem wGG (q A B:List Rat) (i:Nat):atR (yK q A B) i=atR q i+(if i=A.length - B.length then zD A B else 0):=by
 unfold yK; rw [jH,wT5,jH,wQJ]
 congr 1
 by_cases h:i<A.length - B.length
 ·rw [if_pos h,if_neg (by omega)]
 ·rw [if_neg h]
  by_cases h2:i=A.length - B.length
  ·rw [if_pos h2,h2,dV]
   rfl
  ·rw [if_neg h2,zU (by show 1≤_; omega)]
def wL0 (A:List Rat) (La Ld:Nat):Prop:=∃ D:Int,D≠0∧lm D≤Ld∧∀ i,∃ n:Int,atR A i=Rat.divInt n D∧lm n≤La
theorem wL0.ok {A:List Rat} {La Ld K:Nat} (h:wL0 A La Ld) (h1:La≤K) (h2:Ld≤K) (i:Nat):okB K (atR A i):=by
 obtain ⟨D,d1,d2,d3⟩:=h; obtain ⟨n,e,hn⟩:=d3 i
 obtain ⟨n1,n2⟩:=zF n D d1; rw [e]
 exact ⟨by omega,by omega⟩
theorem wL0.mem {A:List Rat} {La Ld K:Nat} (h:wL0 A La Ld) (h1:La≤K) (h2:Ld≤K):∀ x∈A,okB K x:=fun x hx=>by
 obtain ⟨i,hi⟩:=dW hx; rw [← kG hi]
 exact h.ok h1 h2 i
theorem wL0.mono {A:List Rat} {La Ld La' Ld':Nat} (h:wL0 A La Ld) (h1:La≤La') (h2:Ld≤Ld'):wL0 A La' Ld':=by
 obtain ⟨D,d1,d2,d3⟩:=h; exact ⟨D,d1,by omega,fun i=>by obtain ⟨n,e,hn⟩:=d3 i; exact ⟨n,e,by omega⟩⟩
theorem wQE {K:Nat} (hK:1≤K):∀ l:List Rat,(∀ x∈l,okB K x)→∃ D:Int,D≠0∧lm D≤l.length*K+1∧∀ x∈l,∃ n:Int,x=Rat.divInt n D∧lm n≤(l.length+1)*K+1
 | [],_=>⟨1,by decide,by have:=wFI; simp; omega,by simp⟩
 | x :: l,h=>by
  obtain ⟨D,d1,d2,d3⟩:=wQE hK l fun y hy=>h y (pT _ hy)
  obtain ⟨hx1,hx2⟩:=h x (pO ..); have hxd:(x.den:Int)≠0:=by have:=x.den_nz; omega
  have l1:=qJ (x.den:Int) D; have e1:(x :: l).length*K=l.length*K+K:=by rw [mG,cR]
  have e2:((x :: l).length+1)*K=l.length*K+K+K:=by rw [mG,cR,cR]
  have e3:(l.length+1)*K=l.length*K+K:=cR ..; refine ⟨(x.den:Int)*D,cD hxd d1,by omega,fun y hy=>?_⟩
  rcases pQ.1 hy with rfl | hy
  ·refine ⟨y.num*D,?_,?_⟩
   ·rw [dY d1,cU]
   ·have:=qJ y.num D
    omega
  ·obtain ⟨n,g1,g2⟩:=d3 y hy
   refine ⟨(x.den:Int)*n,?_,?_⟩
   ·rw [Rat.divInt_mul_left hxd,← g1]
   ·have:=qJ (x.den:Int) n
    omega
theorem wSA {K:Nat} {A:List Rat} (hK:1≤K) (h:∀ x∈A,okB K x) (hl:A.length≤25):wL0 A (26*K+1) (25*K+1):=by
 obtain ⟨D,d1,d2,d3⟩:=wQE hK A h; have e1:A.length*K≤25*K:=mC _ hl
 have e3:(A.length+1)*K=A.length*K+K:=cR ..; refine ⟨D,d1,by omega,fun i=>?_⟩
 rcases pG i A.length with h2 | h2
 ·have hx:A[i]? = some A[i]:=pU h2
  obtain ⟨n,g1,g2⟩:=d3 _ (pD hx); rw [kG hx]
  exact ⟨n,g1,by omega⟩
 ·rw [zU h2]
  exact ⟨0,(bY _).symm,by show lm 0≤_; unfold lm; simp [qB]⟩
theorem qF4 {A B:List Rat} {La Ld Lb Le:Nat} (hA:wL0 A La Ld) (hB:wL0 B Lb Le) (h0:atR B (B.length - 1)≠0):okB (La+Ld+Lb+Le) (zD A B):=by
 obtain ⟨D,d1,d2,d3⟩:=hA; obtain ⟨E,f1,f2,f3⟩:=hB
 obtain ⟨a,a1,a2⟩:=d3 (A.length - 1); obtain ⟨b,b1,b2⟩:=f3 (B.length - 1)
 have hb0:b≠0:=fun e=>h0 (by rw [b1,e,bY])
 have e:zD A B=Rat.divInt (a*E) (D*b):=by
  unfold zD; rw [a1,b1,gU,pB0,dE]
 obtain ⟨n1,n2⟩:=zF (a*E) (D*b) (cD d1 hb0); have l1:=qJ a E
 have l2:=qJ D b; rw [e]
 exact ⟨by omega,by omega⟩
theorem qF6 {A B:List Rat} {La Ld Lb Le:Nat} (hA:wL0 A La Ld) (hB:wL0 B Lb Le) (h0:atR B (B.length - 1)≠0):wL0 (vP A B) (La+Lb+1) (Ld+Lb):=by
 obtain ⟨D,d1,d2,d3⟩:=hA; obtain ⟨E,f1,f2,f3⟩:=hB
 obtain ⟨a,a1,a2⟩:=d3 (A.length - 1); obtain ⟨b,b1,b2⟩:=f3 (B.length - 1)
 have hb0:b≠0:=fun e=>h0 (by rw [b1,e,bY])
 have e:zD A B=Rat.divInt (a*E) (D*b):=by
  unfold zD; rw [a1,b1,gU,pB0,dE]
 have l2:=qJ D b; refine ⟨D*b,cD d1 hb0,by omega,fun i=>?_⟩
 obtain ⟨n,g1,g2⟩:=d3 i; have l3:=qJ n b
 rw [wU1]; have en:Rat.divInt n D=Rat.divInt (n*b) (D*b):=(dY hb0).symm
 split
 ·refine ⟨n*b,?_,by omega⟩
  rw [g1,fL,Rat.neg_zero,bZ,en]
 ·obtain ⟨m,k1,k2⟩:=f3 (i - (A.length - B.length))
  have l4:=qJ m a; have em:Rat.divInt m E*Rat.divInt (a*E) (D*b)=Rat.divInt (m*a) (D*b):=by
   rw [dE]; have:m*(a*E)=m*a*E:=by rw [Int.mul_assoc]
   have h2:E*(D*b)=D*b*E:=pE7 ..; rw [this,h2,dY f1]
  refine ⟨n*b + -(m*a),?_,?_⟩
  ·rw [g1,k1,e,em,en,fL,Rat.neg_divInt,wRH]
  ·exact wQ5 _ _ (La+Lb) (by omega) (by rw [wL3]; omega)
end Go.Proofs.YtkjhfnhgefbhhaaGreat
/- simileref09.Div, Divides told of trees. ALLOC -/
namespace Go.Vl
open Go.RowKit Go.Ev
section
variable {P:Program} {w0:Base} {n:Nat} {st:St} {Q:vZ}
theorem nilV_ok {d:Nat} (h:lk st (2*d)=some (.sv .nils)):∀ a w,Hs w0 n (lk st) a w→∃ _:Unit,Hs w0 n (lk ((2*d,some (.sv (.v (.list [])))) :: st)) a w:=by
 rintro a w ⟨β,hh⟩
 have hs:=hh.slot d _ h; have hs':a.tmps.getD d undef=.slice none 0 0:=hs
 refine ⟨(),β,?_⟩
 have h3:=hh.reslot (d:=d) (x:=.v (.list [])) rfl (by rw [hs']; exact Rep.nils)
 rw [show lk ((2*d,some (.sv (.v (.list [])))) :: st)=upd (lk st) (2*d) (some (.sv (.v (.list [])))) from by
  have e:=zG (u:=[(2*d,some (Cell.sv (.v (.list []))))]) (st:=st); rw [app1] at e
  exact e]
 exact h3
theorem vw_nilV {c:Code} (d:Nat) (h:lk st (2*d)=some (.sv .nils)) (hv:VW P w0 n c Q ((2*d,some (.sv (.v (.list [])))) :: st)):VW P w0 n c Q st:=wK1 _ (nilV_ok h) fun _=>hv
end
end Go.Vl
namespace Go.Proofs.YtkjhfnhgefbhhaaGreat
open Go.RowKit Go.Ev Go.Vl
theorem jW (l:List Rat):(wQ l).length=l.length:=by unfold wQ; rw [pF]
theorem wPH (l:List Rat):∀ q∈wQ l,q=qn (wI q):=fun q hq=>by
 obtain ⟨x,_,rfl⟩:=pJ.1 hq; rw [wN]
theorem wJB {K:Nat} {l:List Rat} (h:∀ i,okB K (atR l i)):∀ x∈l,okB K x:=fun x hx=>by
 obtain ⟨i,hi⟩:=dW hx; rw [← kG hi]
 exact h i
theorem div09_v (ps qs:List QQ) (K:Nat) (hK1:1≤K) (hK:K≤2097152) (h:zP K ps) (h':zP K qs) (hA:wV (wF ps)≤25) (hB0:0<wV (wF qs)) (hB:wV (wF qs)≤25) (F:List Rat × List Rat) (hF:wOB (wV (wF ps)+1) [] (w8 (wF ps)) (w8 (wF qs))=F) :
  wD Tryz.prog 208 [vQs ps,vQs qs] (fun y=>y=.tup [vQs (pn F.1),vQs (wQ F.2)]):=by
 refine wC wG Tryz.func208 rfl rfl rfl rfl fun w0=>?_
 have q1:=yD ps h.q (by have:=h.2; omega)
 have q2:=yD qs h'.q (by have:=h'.2; omega)
 rw [qCI] at q1 q2; have mA:∀ x∈w8 (wF ps),okB K x:=fun x hx=>by
  obtain ⟨q,hq,rfl⟩:=pJ.1 (xU hx); exact (h.1 q hq).2
 have mB:∀ x∈w8 (wF qs),okB K x:=fun x hx=>by
  obtain ⟨q,hq,rfl⟩:=pJ.1 (xU hx); exact (h'.1 q hq).2
 have lA:=qN (wF ps); have lB:=qN (wF qs)
 have nA:=xT (wF ps); have nB:=xT (wF qs)
 have zA:=wSA hK1 mA (by omega)
 have zB:=wSA hK1 mB (by omega)
 rw [← lA] at hF hA; rw [← lB] at hB hB0
 generalize w8 (wF ps)=A0 at *; generalize w8 (wF qs)=B at *
 clear lA lB; have hBt:atR B (B.length - 1)≠0:=by
  have e:=qN B; rw [nB] at e
  exact atR_top (by omega)
 have hBl:wV B=B.length:=by have e:=qN B; rw [nB] at e; exact e.symm
 have mBo:zP K (wQ B):=zK mB (by omega) (by omega)
 have lBm:((wQ B).map wH).length=B.length:=by rw [pF,jW]
 repeat (first | refine wv ?_ | refine wc q1 ?_ | refine wc q2 ?_ | refine wz ?_)
 refine vw_nilV 6 rfl ?_
 refine wJ (fun b:Nat × List Rat × List Rat=>[jV 0 (vQs (wQ b.2.2)),jV 2 (vQs (wQ B)),jV 12 (vQs (wQ b.2.1))])
  (fun b=>wOB b.1 b.2.1 b.2.2 B=F∧b.2.2.length<b.1∧w8 b.2.2=b.2.2∧b.2.1.length≤25∧(∀ i,okB (1402*K+104) (atR b.2.1 i))∧(∀ i,i+B.length≤b.2.2.length→atR b.2.1 i=0)∧∃ s,s+b.2.2.length≤25∧wL0 b.2.2 (26*K+1+s*(26*K+2)) (25*K+1+s*(26*K+2))) (fun b=>b.1) (A0.length+1,[],A0) (fun _=>rfl)
  ⟨hF,bN _,nA,by show 0≤25; omega,fun i=>wA8 _ (by omega),fun i _=>rfl,0,by dsimp only; omega,zA.mono (by omega) (by omega)⟩ ⟨rfl,rfl,rfl,trivial⟩ fun ⟨fuel,q,A⟩ hI=>?_
 obtain ⟨i1,i2,i3,i4,i5,i6,s,i7,i8⟩:=hI; dsimp only at i1 i2 i3 i4 i5 i6 i7 i8 ⊢
 have lAm:((wQ A).map wH).length=A.length:=by rw [pF,jW]
 have hs2:s*(26*K+2)≤25*(26*K+2):=mC _ (by omega)
 cases fuel with
 | zero=>omega
 | succ fuel =>
 have e1:wOB (fuel+1) q A B=if B.length≤A.length then wOB fuel (yK q A B) (vP A B) B else (q,A):=rfl
 rw [e1] at i1; rcases pG A.length B.length with hlt | hge
 ·rw [if_neg (by omega)] at i1
  have q3:=yD (wQ q) (zK (wJB i5) (by omega) (by omega)).q (by rw [jW]; omega)
  rw [zQ] at q3; rw [← i1]
  clear i1 i5 i6 i8 h h' mBo mA mB hF
  repeat (first | refine wg rfl (sL lAm) ?_ | refine wg rfl (sL lBm) ?_ | refine wc q3 ?_ | refine wv ?_ | refine wg rfl cF ?_ | refine wz ?_)
  exact ⟨.inl rfl,_,rfl,rfl⟩
 ·rw [if_pos hge] at i1
  have hAl:wV A=A.length:=by have e:=qN A; rw [i3] at e; exact e.symm
  have oA:=i8.mem (K:=702*K+60) (by omega) (by omega)
  have pA:zP (702*K+60) (wQ A):=zK oA (by omega) (by omega)
  have hc:=qF4 (A:=A) i8 zB hBt; have hc2:okB (1402*K+200) (zD A B):=hc.mono (by omega)
  obtain ⟨x,hx⟩:=gE (l:=A) (i:=A.length - 1) (by omega)
  obtain ⟨y,hy⟩:=gE (l:=B) (i:=B.length - 1) (by omega)
  have q3:=wVG (wQ A) pA.q (by rw [jW]; omega) (A.length - 1) (by rw [zQ,hAl]; omega) x (by rw [zQ]; exact hx)
  have q4:=wVG (wQ B) mBo.q (by rw [jW]; omega) (B.length - 1) (by rw [zQ,hBl]; omega) y (by rw [zQ]; exact hy)
  have hy0:y≠0:=by rw [← kG hy]; exact hBt
  have q5:=rquo5_v (qn x) (qn y) (wA7 (oA x (pD hx)) (by omega)) (wA7 (mB y (pD hy)) (by omega)) (by
   show intOf (zn y.num)≠0
   rw [wE]; exact fun e=>hy0 (Rat.num_eq_zero.1 e))
  rw [wN,wN] at q5; have ec:x / y=zD A B:=by unfold zD; rw [kG hx,kG hy]
  rw [ec] at q5; have hAt:=qF7 (by omega) hBt hge
  have hzA:=qF6 (A:=A) i8 zB hBt; obtain ⟨k,hk⟩:∃ k,A.length - B.length=k:=⟨_,rfl⟩
  have p1:zP (1402*K+200) [qn (zD A B)]:=zK (l:=[zD A B]) (fun z hz=>by rw [pL.1 hz]; exact hc2) (by omega) (by show 1≤1048576; decide)
  have q6:=wZ5 [qn (zD A B)] k (1402*K+200) (by omega) (by omega) (by omega) (by show 1+k≤1048576; omega) p1 (wPH [zD A B])
  have er:wF [qn (zD A B)]=[zD A B]:=zQ [zD A B]; rw [er] at q6
  have o2:∀ z∈kL [zD A B] k,okB (1402*K+200) z:=fun z hz=>by
   rcases cH.1 hz with hz | hz
   ·rw [fW hz]; exact wA8 _ (by omega)
   ·rw [pL.1 hz]; exact hc2
  have l2:(kL [zD A B] k).length=k+1:=by unfold kL; rw [pW,mP]; rfl
  have p2:zP (1402*K+200) (pn (kL [zD A B] k)):=wH4 o2 (by omega) (by omega)
  have pq:zP (1402*K+200) (wQ q):=zK (wJB fun i=>(i5 i).mono (by omega)) (by omega) (by omega)
  have q7:=add09_v (wQ q) (pn (kL [zD A B] k)) (1402*K+200) (by omega) (by omega) pq p2 (wPH q) (qCJ _)
  rw [zQ,wDH] at q7; have eq7:pn (addR q (w8 (kL [zD A B] k)))=wQ (yK q A B):=by unfold yK; rw [hk]; rfl
  rw [eq7] at q7
  have q8:=wZA (wQ B) (zD A B) K (1402*K+200) hK1 (by omega) mBo hc2
  rw [zQ] at q8; have o3:∀ z∈kD B (zD A B),okB (1403*K+200) z:=fun z hz=>by
   obtain ⟨u,hu,rfl⟩:=pJ.1 hz; exact (wSG (mB u hu) hc2).mono (by omega)
  have l3:(kD B (zD A B)).length=B.length:=by unfold kD; rw [pF]
  have p3:zP (1403*K+200) (pn (kD B (zD A B))):=wH4 o3 (by omega) (by omega)
  have l3':=qF0 (kD B (zD A B)); have l4:(pn (kD B (zD A B))).length≤B.length:=by rw [qCI,jW]; omega
  have q9:=wZ5 (pn (kD B (zD A B))) k (1403*K+200) (by omega) (by omega) (by omega) (by omega) p3 (qCJ _)
  rw [wDH] at q9; have o4:∀ z∈kL (w8 (kD B (zD A B))) k,okB (1403*K+200) z:=fun z hz=>by
   rcases cH.1 hz with hz | hz
   ·rw [fW hz]; exact wA8 _ (by omega)
   ·exact o3 z (xU hz)
  have l5:(kL (w8 (kD B (zD A B))) k).length≤k+B.length:=by unfold kL; rw [pW,mP]; omega
  have p4:zP (1403*K+200) (pn (kL (w8 (kD B (zD A B))) k)):=wH4 o4 (by omega) (by omega)
  have pA2:zP (1403*K+200) (wQ A):=zK (fun z hz=>(oA z hz).mono (by omega)) (by omega) (by omega)
  have q10:=sub09_v (wQ A) (pn (kL (w8 (kD B (zD A B))) k)) (1403*K+200) (by omega) (by omega) pA2 p4 (wPH A)
  rw [zQ,wDH] at q10; have eq10:pn (subR A (w8 (kL (w8 (kD B (zD A B))) k)))=wQ (vP A B):=by unfold vP stepM; rw [hk]; rfl
  rw [eq10] at q10; have hqn:∀ i,okB (1402*K+104) (atR (yK q A B) i):=fun i=>by
   rw [wGG]
   by_cases hik:i=A.length - B.length
   ·rw [if_pos hik,i6 i (by omega),pF1]
    exact hc.mono (by omega)
   ·rw [if_neg hik,bZ]
    exact i5 i
  have hqz:∀ i,i+B.length≤(vP A B).length→atR (yK q A B) i=0:=fun i hi=>by
   have hne:¬ i=A.length - B.length:=by omega
   have hle:i+B.length≤A.length:=by omega
   rw [wGG,if_neg hne,i6 i hle,bZ]
  have hql:(yK q A B).length≤25:=by
   unfold yK; rw [qN]
   refine wC6 fun i hi=>?_
   rw [wT5,zU (by omega),jH,hk,zU (by omega),bZ]
  have htr:w8 (vP A B)=vP A B:=by unfold vP; rw [xT]
  have hs1:(s+1)*(26*K+2)=s*(26*K+2)+(26*K+2):=cR ..; have hfin:=hzA.mono (La':=26*K+1+(s+1)*(26*K+2)) (Ld':=25*K+1+(s+1)*(26*K+2)) (by omega) (by omega)
  unfold nR at q3 q4 q5; generalize vP A B=A' at *
  generalize yK q A B=q' at *; generalize pn (kL (w8 (kD B (zD A B))) k)=M1 at *
  generalize pn (kD B (zD A B))=M2 at *; generalize pn (kL [zD A B] k)=M3 at *
  generalize qn (zD A B)=c at *; generalize qn x=cx at *
  generalize qn y=cy at *; clear o2 o3 o4 p1 p2 p3 p4 pA pA2 pq hc hc2 oA mA mB h h' mBo hzA eq7 eq10 er ec q1 q2 i5 i6 i8 zA zB l2 l3 l3' l4 l5 e1 hF hx hy hy0 hBt
  obtain ⟨⟨c1,c2⟩,⟨c3,c4⟩⟩:=c
  repeat (first | refine wg rfl (sL lAm) ?_ | refine wg rfl (sL lBm) ?_ | refine wg rfl (sN k) ?_ | refine wc q3 ?_ | refine wc q4 ?_ | refine wc q5 ?_ | refine wh q6 ?_ | refine wc q7 ?_ | refine wc q8 ?_ | refine wc q9 ?_ | refine wc q10 ?_ | refine wl ?_ | refine wv ?_ | refine wg rfl cT ?_ | refine wz ?_)
  exact ⟨(fuel,q',A'),⟨i1,by dsimp only; omega,htr,hql,hqn,hqz,s+1,by dsimp only; omega,hfin⟩,bN _,rfl,rfl,rfl,trivial⟩
theorem qI1 (ps qs:List QQ) (K:Nat) (hK1:1≤K) (hK:K≤2097152) (h:zP K ps) (h':zP K qs) (hA:wV (wF qs)≤25) (hB0:0<wV (wF ps)) (hB:wV (wF ps)≤25) (F:List Rat × List Rat) (hF:wOB (wV (wF qs)+1) [] (w8 (wF qs)) (w8 (wF ps))=F) :
  wD Tryz.prog 148 [vQs ps,vQs qs] (fun y=>y=.bool (decide (F.2.length=0))):=by
 refine wC wG Tryz.func148 rfl rfl rfl rfl fun w0=>?_
 have q1:=wWG ps h.q (by have:=h.2; omega)
 have q2:=div09_v qs ps K hK1 hK h' h hA hB0 hB F hF; have fin:∀ {p:Prop} [Decidable p],¬ p→V.bool false=V.bool (decide p):=fun h=>by rw [decide_eq_false h]
 have fit:∀ {p:Prop} [Decidable p],p→V.bool true=V.bool (decide p):=fun h=>by rw [decide_eq_true h]
 have e:((wQ F.2).map wH).length=F.2.length:=by rw [pF,jW]
 generalize wV (wF ps)=N at *; clear hF h h'
 obtain ⟨F1,F2⟩:=F; dsimp only at q2 e ⊢
 by_cases h0:F2.length=0
 ·repeat (first | refine wg rfl (sL e) ?_ | refine wc q1 ?_ | refine wc q2 ?_ | refine wv ?_ | refine wg rfl cT ?_ | refine wg rfl cF ?_ | refine wz ?_)
  exact ⟨.inl rfl,_,rfl,fit h0⟩
 ·repeat (first | refine wg rfl (sL e) ?_ | refine wc q1 ?_ | refine wc q2 ?_ | refine wv ?_ | refine wg rfl cF ?_ | refine wz ?_)
  exact ⟨.inl rfl,_,rfl,fin h0⟩
end Go.Proofs.YtkjhfnhgefbhhaaGreat
