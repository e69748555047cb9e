/- simileref11.Equal, simileref25.Does: told of trees. ALLOC -/
import Derived.Test.YtkjhfnhgefbhhaaGreatCf17
import Derived.Test.YtkjhfnhgefbhhaaGreatCf16
set_option linter.all false
set_option maxRecDepth 20000
set_option maxHeartbeats 6400000
namespace Go.Proofs.YtkjhfnhgefbhhaaGreat
open Go.RowKit Go.Ev Go.Vl
def vE (m m':MM):Bool:=decide (m.2.length=m'.2.length) && (decide (wR m.2=wR m'.2) && decide (wH6 m=wH6 m'))
theorem wOD (qs:List QQ):0<qM qs:=lcmN_pos _ 1 (by decide) fun x hx=>by
 obtain ⟨q,_,rfl⟩:=pJ.1 hx; have:=(wI q).den_nz
 omega
theorem wEF (qs:List QQ) (D:Nat) (h:∀ q∈qs,(wI q).den∣D):qM qs∣D:=lcmN_dvd _ 1 D (gD _) fun x hx=>by
 obtain ⟨q,hq,rfl⟩:=pJ.1 hx; exact h q hq
theorem qHH (qs:List QQ) (q:QQ) (h:q∈qs):(wI q).den∣qM qs:=(qHG _ 1).2 _ (pJ.2 ⟨q,h,rfl⟩)
theorem wZF (m:MM) (h:okM m 68719476736) (h0:intOf m.1≠0):okM0 (wH6 m):=by
 have hDp:0<qM (wT m).flatten∧qM (wT m).flatten∣(intOf m.1).natAbs:=⟨wOD _,wEF _ _ fun q hq=>by
  rw [yS] at hq; obtain ⟨z,hz,rfl⟩:=pJ.1 hq
  rw [wN]; exact wEE _ _ h0⟩
 have hl:lm ((qM (wT m).flatten:Nat):Int)≤68719476736:=by
  have:=wL m.1 h.1; refine pC (jF (y:=intOf m.1) ?_) (pC this h.2.1)
  rw [mS]; exact cO (by omega) hDp.2
 refine ⟨⟨wD5 _,pC hl (by decide)⟩,fun r hr=>?_,?_⟩
 ·obtain ⟨r',hr',rfl⟩:=pJ.1 hr
  obtain ⟨r2,hr2,rfl⟩:=pJ.1 hr'; refine ⟨by rw [pF,pF]; exact pC (h.2.2.1.2 r2 hr2).1 (by decide),fun z hz=>?_⟩
  obtain ⟨q,hq,rfl⟩:=pJ.1 hz; obtain ⟨y,hy,rfl⟩:=pJ.1 hq
  refine ⟨wD5 _,?_⟩
  obtain ⟨g1,g2⟩:=(h.2.2.1.2 r2 hr2).2 y hy; have m1:=wL y g1
  obtain ⟨n1,n2⟩:=zF (intOf y) (intOf m.1) h0; show lm (wI (qn (Rat.divInt (intOf y) (intOf m.1)))*((qM (wT m).flatten:Nat):Rat)).num≤_
  rw [wN]; have e:=(wJA (Rat.divInt (intOf y) (intOf m.1)) ((qM (wT m).flatten:Nat):Rat) rfl).1
  have e2:lm ((qM (wT m).flatten:Nat):Rat).num=lm ((qM (wT m).flatten:Nat):Int):=rfl; omega
 ·show (List.map _ (List.map _ m.2)).length≤_
  rw [pF,pF]; exact pC h.2.2.1.1 (by decide)
theorem equal11_v (x x':Bool) (l l':List Nat) (t t':List (List ZZ)) (h:okM ((x,l),t) 68719476736) (h':okM ((x',l'),t') 68719476736) (h0:intOf (x,l)≠0) (h0':intOf (x',l')≠0) :
  wD Tryz.prog 31 [.agg [.bool x,vL l,vT t],.agg [.bool x',vL l',vT t']] (fun y=>y=.bool (vE ((x,l),t) ((x',l'),t'))):=by
 refine wC wG Tryz.func31 rfl rfl rfl rfl fun w0=>?_
 have htl:t.length≤68719476736:=h.2.2.1.1; have htl':t'.length≤68719476736:=h'.2.2.1.1
 have q1:=wBF x l t (by omega)
 have q2:=wBF x' l' t' (by omega)
 have q3:=qGD x l t h h0; have q4:=qGD x' l' t' h' h0'
 have o1:=wZF ((x,l),t) h h0; have o2:=wZF ((x',l'),t') h' h0'
 unfold vE; dsimp only
 have hcl:wR t≤68719476736:=by
  unfold wR; cases ht:t with
  | nil=>exact pH _
  | cons r t2=>exact (h.2.2.1.2 r (by rw [ht]; exact pO ..)).1
 have hcl':wR t'≤68719476736:=by
  unfold wR; cases ht:t' with
  | nil=>exact pH _
  | cons r t2=>exact (h'.2.2.1.2 r (by rw [ht]; exact pO ..)).1
 have q5:=same11_v _ _ o1 o2; generalize wH6 ((x,l),t)=M at *
 generalize wH6 ((x',l'),t')=M' at *; obtain ⟨c,hce⟩:∃ c,wR t=c:=⟨_,rfl⟩
 obtain ⟨c',hce'⟩:∃ c,wR t'=c:=⟨_,rfl⟩; rw [hce] at q1 hcl ⊢
 rw [hce'] at q2 hcl' ⊢; obtain ⟨d,hde⟩:∃ d,t.length=d:=⟨_,rfl⟩
 obtain ⟨d',hde'⟩:∃ d,t'.length=d:=⟨_,rfl⟩; rw [hde] at q1 htl ⊢
 rw [hde'] at q2 htl' ⊢; obtain ⟨⟨y,k⟩,u⟩:=M
 obtain ⟨⟨y',k'⟩,u'⟩:=M'
 by_cases h1:d=d'
 ·by_cases h2:c=c'
  ·rw [decide_eq_true h1,decide_eq_true h2]
   repeat (first | refine wv ?_ | refine wg rfl cT ?_ | refine wc q1 ?_ | refine wc q2 ?_ | refine wc q3 ?_ | refine wc q4 ?_ | refine wc q5 ?_ | refine wz ?_)
   exact ⟨.inl rfl,_,rfl,rfl⟩
  ·rw [decide_eq_true h1,decide_eq_false h2]
   repeat (first | refine wv ?_ | refine wg rfl cT ?_ | refine wg rfl cF ?_ | refine wc q1 ?_ | refine wc q2 ?_ | refine kZ rfl rfl rfl rfl rfl rfl ?_ | refine wz ?_)
   exact ⟨.inl rfl,_,rfl,rfl⟩
 ·rw [decide_eq_false h1]
  repeat (first | refine wv ?_ | refine wg rfl cF ?_ | refine wc q1 ?_ | refine wc q2 ?_ | refine kZ rfl rfl rfl rfl rfl rfl ?_ | refine wz ?_)
  exact ⟨.inl rfl,_,rfl,rfl⟩
end Go.Proofs.YtkjhfnhgefbhhaaGreat
/- simileref25.Does: told of trees; what the program says of it. ALLOC -/
namespace Go.Proofs.YtkjhfnhgefbhhaaGreat
open Go.RowKit Go.Ev Go.Vl
theorem den_rat_ne (x:Rat):((x.den:Int):Rat)≠0:=fun h=>by
 have:=pG0.1 (show ((x.den:Int):Rat)=((0:Int):Rat) from h); have:=x.den_nz
 omega
theorem mul_over (x:Rat) (e:Nat):x*(((x.den*e:Nat):Int):Rat)=((x.num*(e:Int):Int):Rat):=by
 rw [dP,Rat.intCast_mul,← Rat.mul_assoc]; have h:x*((x.den:Int):Rat)=(x.num:Rat):=by
  conv=>lhs; arg 1; rw [← cU x]
  rw [fQ]; exact pE0 (den_rat_ne x)
 rw [h,← Rat.intCast_mul]
theorem comF_back (x:Rat) (D:Nat) (hD:0<D) (h:x.den∣D):Rat.divInt (x*((D:Int):Rat)).num (D:Int)=x:=by
 obtain ⟨e,rfl⟩:=h; have he:(e:Int)≠0:=by
  intro h
  have:e=0:=by omega
  subst this
  simp at hD
 rw [mul_over,pA1,dP,dY he,cU]
def normQ (R:List (List QQ)):Prop:=∀ q∈R.flatten,q=qn (wI q)
theorem vO (R:List (List QQ)) (h:normQ R):wT (zC R)=R:=by
 unfold wT zC; dsimp only
 rw [mT]
 conv=>rhs; rw [← pG6 R]
 refine mE fun r hr=>?_
 simp only [Function.comp]
 rw [mT]
 conv=>rhs; rw [id,← pG6 r]
 refine mE fun q hq=>?_
 have hm:q∈R.flatten:=cL.2 ⟨r,hr,hq⟩; show qn (Rat.divInt (intOf (zn (wI q*((qM R.flatten:Nat):Int)).num)) (intOf (zn ((qM R.flatten:Nat):Int))))=q
 rw [wE,wE,comF_back _ _ (wOD _) (qHH _ _ hm)]; exact (h q hm).symm
theorem wQ4 (m m':MM):normQ (k9 m m'):=fun q hq=>by
 obtain ⟨a,b,rfl⟩:=wNC hq; rw [wN]
theorem wQ9 (R:List (List QQ)):intOf (zC R).1≠0:=by
 show intOf (zn ((qM R.flatten:Nat):Int))≠0
 rw [wE]; have:=wOD R.flatten
 omega
theorem comD_mul {m m':MM} (h0:intOf m.1≠0) (h0':intOf m'.1≠0):lm ((qM (k9 m m').flatten:Nat):Int)≤lm (intOf m.1*intOf m'.1):=by
 refine jF ?_
 rw [mS]; refine cO (by have:=cD h0 h0'; omega) (wEF _ _ fun q hq=>?_)
 obtain ⟨a,b,rfl⟩:=wNC hq; rw [wN]
 exact wEE _ _ (cD h0 h0')
theorem fromQ_ok {m m':MM} {K:Nat} (h:okM m K) (h':okM m' K) (h0:intOf m.1≠0) (h0':intOf m'.1≠0) (hc:wR m'.2≤68719476736) (htc:m.2.length*wR m'.2≤68719476736):okM (zC (k9 m m')) (4*K+wR m.2):=by
 have hD:=comD_mul h0 h0'; have l2:=qJ (intOf m.1) (intOf m'.1)
 have l3:=wL m.1 h.1; have l4:=wL m'.1 h'.1
 have l5:=h.2.1; have l6:=h'.2.1
 have hlen:(zC (k9 m m')).2.length=m.2.length:=by
  show (List.map _ (k9 m m')).length=_
  rw [pF,wND]
 have hrow:∀ r∈(zC (k9 m m')).2,r.length=wR m'.2:=fun r hr=>by
  obtain ⟨r',hr',rfl⟩:=pJ.1 hr; rw [pF,wNB hr']
 refine ⟨wD5 _,?_,⟨by rw [hlen]; exact h.2.2.1.1,fun r hr=>⟨by rw [hrow r hr]; exact hc,fun z hz=>?_⟩⟩,by rw [jK hrow,hlen]; exact htc⟩
 ·show lm ((qM (k9 m m').flatten:Nat):Int)≤_
  omega
 ·obtain ⟨r',hr',rfl⟩:=pJ.1 hr
  obtain ⟨q,hq,rfl⟩:=pJ.1 hz; refine ⟨wD5 _,?_⟩
  obtain ⟨a,b,rfl⟩:=wNC (cL.2 ⟨r',hr',hq⟩); show lm (wI (qn (wCD m m' a b (wR m.2)))*((qM (k9 m m').flatten:Nat):Int)).num≤_
  rw [wN]; have e:=(wJA (wCD m m' a b (wR m.2)) (((qM (k9 m m').flatten:Nat):Int):Rat) rfl).1
  have e2:lm (((qM (k9 m m').flatten:Nat):Int):Rat).num=lm ((qM (k9 m m').flatten:Nat):Int):=rfl; have e3:=(zF (yB m.2 m'.2 a b (wR m.2)) (intOf m.1*intOf m'.1) (cD h0 h0')).1
  have e4:=wE3 m.2 m'.2 K 0 a b (yX h.2.2.1) (yX h'.2.2.1) (wR m.2); unfold wCD at e ⊢
  omega
theorem wWD {p q D:Int} (hD:D≠0) (h:Rat.divInt p D=Rat.divInt q D):p=q:=by
 have hD':(D:Rat)≠0:=fun e=>hD (pG0.1 (show (D:Rat)=((0:Int):Rat) from e))
 rw [fQ,fQ] at h; have e:=congrArg (fun x:Rat=>x*(D:Rat)) h
 simp only [Rat.div_mul_cancel hD'] at e
 exact pG0.1 e
theorem tabF_cols {r c:Nat} (F:Nat→Nat→ZZ) (hr:0<r):wR (kC r c F)=c:=by
 unfold wR kC; obtain ⟨r,rfl⟩:∃ k,r=k+1:=⟨r - 1,by omega⟩
 rw [List.range_succ_eq_map]
 simp
theorem tabF_dvd {d:ZZ} {r c:Nat} {F:Nat→Nat→Int} (h0:intOf d≠0) {a b:Nat} (ha:a<r) (hb:b<c):wE2 d (kC r c fun i k=>zn (F i k))∣F a b:=by
 obtain ⟨_,_,h⟩:=wFH d (kC r c fun i k=>zn (F i k)) h0
 have:=h ((List.range c).map fun b=>zn (F a b)) (pJ.2 ⟨a,dK.2 ha,rfl⟩) (zn (F a b)) (pJ.2 ⟨b,dK.2 hb,rfl⟩)
 rwa [wE] at this
end Go.Proofs.YtkjhfnhgefbhhaaGreat
/- simileref05: May, AllMay, Sign, Neg, Sub, Inv, Quo, Cmp told of trees. ALLOC -/
namespace Go.Proofs.YtkjhfnhgefbhhaaGreat
open Go.RowKit Go.Ev Go.Vl
def sgnQ (q:QQ):Int:=sgn (intOf q.1)*sgn (intOf q.2)
def yW (q:QQ):Bool:=decide (intOf q.2≠0)
theorem rmay5_v (q:QQ) (h:okZ q.2):wD Tryz.prog 207 [vQ q] (fun y=>y=.bool (yW q)):=by
 refine wC wG Tryz.func207 rfl rfl rfl rfl fun w0=>?_
 have q1:=wF8 q.2 h; have hs:=xN (intOf q.2)
 unfold yW; obtain ⟨⟨x,l⟩,⟨y,m⟩⟩:=q
 dsimp only at q1 hs ⊢; generalize intOf (y,m)=d at *
 generalize sgn d=sd at *
 by_cases h0:d=0
 ·rw [decide_eq_false fun hh=>hh h0]
  repeat (first | refine wv ?_ | refine wg rfl nF ?_ | refine wc q1 ?_ | refine wz ?_)
  exact ⟨.inl rfl,_,rfl,rfl⟩
 ·rw [decide_eq_true h0]
  repeat (first | refine wv ?_ | refine wg rfl nT ?_ | refine wc q1 ?_ | refine wz ?_)
  exact ⟨.inl rfl,_,rfl,rfl⟩
theorem rallMay5_v (qs:List QQ) (h:∀ q∈qs,okZ q.2) (hl:qs.length≤1099511627776):wD Tryz.prog 144 [vQs qs] (fun y=>y=.bool (qs.all yW)):=by
 refine wC wG Tryz.func144 rfl rfl rfl rfl fun w0=>?_
 repeat (first | refine wg rfl (sL (qW qs)) ?_ | refine wv ?_ | refine wz ?_)
 refine wJ (fun j:Nat=>[jV 10 (vQs qs),jI 12 (qs.length),jI 14 j])
  (fun j=>j≤qs.length∧(qs.drop j).all yW=qs.all yW) (fun j=>qs.length - j) 0 (fun _=>rfl) ⟨pH _,rfl⟩ ⟨rfl,rfl,rfl,trivial⟩ fun j hI=>?_
 obtain ⟨hJ,hc⟩:=hI; rcases pG j qs.length with hj | hj
 ·obtain ⟨q,hq⟩:=gE hj
  have hg:=kO qs j q hq; have q1:=rmay5_v q (h q (pD hq))
  rw [zZ qs j q hq,dT] at hc; generalize yW q=b at *
  obtain ⟨⟨x,l⟩,⟨y,m⟩⟩:=q; cases b with
  | true =>
   rw [dU] at hc
   repeat (first | refine wg rfl (sX j hg) ?_ | refine wc q1 ?_ | refine wl ?_ | refine wv ?_ | refine wg rfl cT ?_ | refine wg rfl sB ?_ | refine wz ?_)
   exact ⟨j+1,⟨hj,hc⟩,by omega,rfl,rfl,rfl,trivial⟩
  | false =>
   rw [bH] at hc
   repeat (first | refine wg rfl (sX j hg) ?_ | refine wc q1 ?_ | refine wl ?_ | refine wv ?_ | refine wg rfl cT ?_ | refine wz ?_)
   refine ⟨.inl rfl,_,rfl,?_⟩
   rw [← hc]
 ·rw [pY hj] at hc
  repeat (first | refine wv ?_ | refine wg rfl cF ?_ | refine wz ?_)
  refine ⟨.inl rfl,_,rfl,?_⟩
  rw [← hc]; exact rfl
theorem qG1 (q:QQ) (h:okZ q.1) (h':okZ q.2):wD Tryz.prog 146 [vQ q] (fun y=>y=.int .i64 (sgnQ q)):=by
 refine wC wG Tryz.func146 rfl rfl rfl rfl fun w0=>?_
 have q1:=wF8 q.1 h; have q2:=wF8 q.2 h'
 have s1:=xN (intOf q.1); have s2:=xN (intOf q.2)
 have hb:-1≤sgnQ q∧sgnQ q≤1:=by
  unfold sgnQ; rcases s1 with e | e | e <;> rcases s2 with g | g | g <;> rw [e.2,g.2] <;> decide
 unfold sgnQ at hb ⊢; obtain ⟨⟨x,l⟩,⟨y,m⟩⟩:=q
 dsimp only at q1 q2 hb ⊢; generalize sgn (intOf (x,l))=a at *
 generalize sgn (intOf (y,m))=b at *
 repeat (first | refine wv ?_ | refine wg rfl sB ?_ | refine wc q1 ?_ | refine wc q2 ?_ | refine wz ?_)
 exact ⟨.inl rfl,_,rfl,rfl⟩
theorem rneg5_v (a:QQ) (ha:okS a):wD Tryz.prog 150 [vQ a] (fun y=>y=nR (-wI a)):=by
 refine wC wG Tryz.func150 rfl rfl rfl rfl fun w0=>?_
 have q1:=qCD a.1 ha.ok.1; have m1:=wL a.1 ha.1
 have n1:=ha.2.2.1; have q2:=wCJ (zn (-intOf a.1)) a.2 (qF _ (by rw [wL3]; omega)) ha.ok.2 ha.2.2.2.2
 rw [wE] at q2; have e:-wI a=Rat.divInt (-intOf a.1) (intOf a.2):=by
  unfold wI; rw [Rat.neg_divInt]
 rw [e]; obtain ⟨⟨x,l⟩,⟨y,m⟩⟩:=a
 repeat (first | refine wl ?_ | refine wv ?_ | refine wc q1 ?_ | refine wc q2 ?_ | refine wz ?_)
 exact ⟨.inl rfl,_,rfl,rfl⟩
theorem qD1 {a:QQ} (ha:okS a):lm (wI a).num≤68719476736∧lm ((wI a).den:Int)≤68719476736:=by
 obtain ⟨n1,n2⟩:=zF (intOf a.1) (intOf a.2) ha.2.2.2.2; have m1:=wL a.1 ha.1
 have m2:=wL a.2 ha.2.1; have k1:=ha.2.2.1
 have k2:=ha.2.2.2.1; unfold wI
 exact ⟨by omega,by omega⟩
theorem rsub5_v (a b:QQ) (ha:okS a) (hb:okS b):wD Tryz.prog 147 [vQ a,vQ b] (fun y=>y=nR (wI a - wI b)):=by
 refine wC wG Tryz.func147 rfl rfl rfl rfl fun w0=>?_
 have q1:=rneg5_v b hb; have hr:=qD1 hb
 have q2:=qCG a (qn (-wI b)) ha (vV _ (by show lm (-(wI b).num)≤_; rw [wL3]; exact hr.1) hr.2)
 rw [wN,← fL] at q2; generalize wI a - wI b=z at *
 obtain ⟨⟨x,l⟩,⟨y,m⟩⟩:=a; obtain ⟨⟨x',l'⟩,⟨y',m'⟩⟩:=b
 repeat (first | refine wl ?_ | refine wv ?_ | refine wc q1 ?_ | refine wc q2 ?_ | refine wz ?_)
 exact ⟨.inl rfl,_,rfl,rfl⟩
theorem rinv5_v (a:QQ) (ha:okS a) (h0:intOf a.1≠0):wD Tryz.prog 285 [vQ a] (fun y=>y=nR (wI a)⁻¹):=by
 refine wC wG Tryz.func285 rfl rfl rfl rfl fun w0=>?_
 have q1:=wCJ a.2 a.1 ha.ok.2 ha.ok.1 h0; have e:(wI a)⁻¹=Rat.divInt (intOf a.2) (intOf a.1):=by
  unfold wI; rw [pB0]
 rw [e]; obtain ⟨⟨x,l⟩,⟨y,m⟩⟩:=a
 repeat (first | refine wl ?_ | refine wv ?_ | refine wc q1 ?_ | refine wz ?_)
 exact ⟨.inl rfl,_,rfl,rfl⟩
theorem rquo5_v (a b:QQ) (ha:okS a) (hb:okS b) (h0:intOf b.1≠0):wD Tryz.prog 254 [vQ a,vQ b] (fun y=>y=nR (wI a / wI b)):=by
 refine wC wG Tryz.func254 rfl rfl rfl rfl fun w0=>?_
 have q1:=rinv5_v b hb h0; have e:(wI b)⁻¹=Rat.divInt (intOf b.2) (intOf b.1):=by
  unfold wI; rw [pB0]
 obtain ⟨n1,n2⟩:=zF (intOf b.2) (intOf b.1) h0; have m1:=wL b.1 hb.1
 have m2:=wL b.2 hb.2.1; have k1:=hb.2.2.1
 have k2:=hb.2.2.2.1; have q2:=wS9 a (qn (wI b)⁻¹) ha (vV _ (by rw [e]; omega) (by rw [e]; omega))
 rw [wN,← gU] at q2; generalize wI a / wI b=z at *
 obtain ⟨⟨x,l⟩,⟨y,m⟩⟩:=a; obtain ⟨⟨x',l'⟩,⟨y',m'⟩⟩:=b
 repeat (first | refine wl ?_ | refine wv ?_ | refine wc q1 ?_ | refine wc q2 ?_ | refine wz ?_)
 exact ⟨.inl rfl,_,rfl,rfl⟩
theorem rcmp5_v (a b:QQ) (ha:okS a) (hb:okS b):wD Tryz.prog 88 [vQ a,vQ b] (fun y=>y=.int .i64 (sgnQ (qn (wI a - wI b)))):=by
 refine wC wG Tryz.func88 rfl rfl rfl rfl fun w0=>?_
 have q1:=rsub5_v a b ha hb; have e:wI a - wI b=Rat.divInt (intOf a.1*intOf b.2 - intOf b.1*intOf a.2) (intOf a.2*intOf b.2):=by
  unfold wI; rw [Rat.divInt_sub_divInt _ _ ha.2.2.2.2 hb.2.2.2.2]
 have hz:okZ (qn (wI a - wI b)).1∧okZ (qn (wI a - wI b)).2:=by
  obtain ⟨n1,n2⟩:=zF (intOf a.1*intOf b.2 - intOf b.1*intOf a.2) (intOf a.2*intOf b.2) (cD ha.2.2.2.2 hb.2.2.2.2); have l1:=qJ (intOf a.1) (intOf b.2)
  have l2:=qJ (intOf b.1) (intOf a.2); have l3:=qJ (intOf a.2) (intOf b.2)
  have m1:=wL a.1 ha.1; have m2:=wL a.2 ha.2.1
  have m3:=wL b.1 hb.1; have m4:=wL b.2 hb.2.1
  have k1:=ha.2.2.1; have k2:=ha.2.2.2.1
  have k3:=hb.2.2.1; have k4:=hb.2.2.2.1
  have l4:=wQ5 (intOf a.1*intOf b.2) (-(intOf b.1*intOf a.2)) 137438953472 (by omega) (by rw [wL3]; omega)
  rw [← Int.sub_eq_add_neg] at l4; rw [e]
  exact ⟨qF _ (by omega),qF _ (by omega)⟩
 have q2:=qG1 (qn (wI a - wI b)) hz.1 hz.2; generalize wI a - wI b=z at *
 generalize sgnQ (qn z)=s at *; obtain ⟨⟨x,l⟩,⟨y,m⟩⟩:=a
 obtain ⟨⟨x',l'⟩,⟨y',m'⟩⟩:=b
 repeat (first | refine wv ?_ | refine wc q1 ?_ | refine wc q2 ?_ | refine wz ?_)
 exact ⟨.inl rfl,_,rfl,rfl⟩
end Go.Proofs.YtkjhfnhgefbhhaaGreat
/- simileref09: Norm, Degree, Lead, May, AllMay told of trees. ALLOC -/
namespace Go.Proofs.YtkjhfnhgefbhhaaGreat
open Go.RowKit Go.Ev Go.Vl
def wV:List Rat→Nat
 | []=>0
 | x :: xs=>if wV xs=0∧x=0 then 0 else wV xs+1
theorem kS:∀ l:List Rat,wV l≤l.length
 | []=>pE _
 | x :: xs=>by
  have:=kS xs; unfold wV
  split
  ·exact pH _
  ·simp only [List.length_cons]; omega
theorem wE5:∀ (l:List Rat) (i:Nat) (x:Rat),wV l≤i→l[i]? = some x→x=0
 | [],i,x,_,h=>by simp at h
 | y :: ys,0,x,h,hx=>by
  unfold wV at h
  split at h
  ·rename_i h1
   simp at hx
   rw [← hx]; exact h1.2
  ·omega
 | y :: ys,i+1,x,h,hx=>by
  simp only [List.getElem?_cons_succ] at hx
  refine wE5 ys i x ?_ hx
  unfold wV at h
  split at h
  ·rename_i h1
   omega
  ·omega
theorem wC5:∀ (l:List Rat) (m:Nat) (x:Rat),wV l=m+1→l[m]? = some x→x≠0
 | [],m,x,h,_=>by cases h
 | y :: ys,0,x,h,hx=>by
  simp at hx
  subst hx; unfold wV at h
  split at h
  ·cases h
  ·rename_i h1
   intro h0
   exact h1 ⟨by omega,h0⟩
 | y :: ys,m+1,x,h,hx=>by
  simp only [List.getElem?_cons_succ] at hx
  unfold wV at h
  split at h
  ·cases h
  ·exact wC5 ys m x (by omega) hx
def w8 (l:List Rat):List Rat:=l.take (wV l)
def wF (qs:List QQ):List Rat:=qs.map wI
def pn (l:List Rat):List QQ:=(w8 l).map qn
theorem wUE {q:QQ} (h:intOf q.2≠0):wI q=0↔intOf q.1=0:=by
 unfold wI
 constructor
 ·intro e
  refine wWD h ?_
  rw [e,bY]
 ·intro e
  rw [e,bY]
theorem wZ6 {q:QQ} (h:intOf q.2≠0):sgnQ q=0↔wI q=0:=by
 rw [wUE h]; unfold sgnQ
 have s1:=xN (intOf q.1); have s2:=xN (intOf q.2)
 rcases s1 with e | e | e <;> rcases s2 with g | g | g <;> rw [e.2,g.2] <;> constructor <;> intro k <;> omega
theorem qN (l:List Rat):(w8 l).length=wV l:=by
 unfold w8; rw [pM,cM (kS l)]
theorem wQ1 (l:List Rat):(pn l).length=wV l:=by unfold pn; rw [pF,qN]
theorem yD (qs:List QQ) (h:∀ q∈qs,okQ q∧intOf q.2≠0) (hl:qs.length≤68719476736):wD Tryz.prog 145 [vQs qs] (fun y=>y=vQs (pn (wF qs))):=by
 refine wC wG Tryz.func145 rfl rfl rfl rfl fun w0=>?_
 have hLl:(wF qs).length=qs.length:=by unfold wF; rw [pF]
 have hle:=kS (wF qs)
 repeat (first | refine wg rfl (sL (qW qs)) ?_ | refine wv ?_ | refine wz ?_)
 obtain ⟨N,hN⟩:∃ N,wV (wF qs)=N:=⟨_,rfl⟩; refine wIC 0 (fun _:Unit=>[jV 0 (vQs qs),jI 6 N]) (fun _=>True) (fun _=>rfl) ?_ fun _ _=>?_
 ·refine wJ (fun n:Nat=>[jV 0 (vQs qs),jI 6 n])
   (fun n=>n≤qs.length∧N≤n) (fun n=>n) qs.length (fun _=>rfl) ⟨pE _,by omega⟩ ⟨rfl,rfl,trivial⟩ fun n hI=>?_
  obtain ⟨h1,h2⟩:=hI; cases n with
  | zero =>
   obtain rfl:N=0:=by omega
   repeat (first | refine wv ?_ | refine wg rfl cF ?_ | refine kZ rfl rfl rfl rfl rfl rfl ?_ | refine wz ?_)
   exact ⟨(),trivial,rfl,rfl,trivial⟩
  | succ m =>
   obtain ⟨q,hq⟩:=gE (l:=qs) (i:=m) (by omega)
   have hg:=kO qs m q hq; have ho:=h q (pD hq)
   have q1:=qG1 q ho.1.1 ho.1.2; have hz:=wZ6 ho.2
   have hr:(wF qs)[m]? = some (wI q):=by unfold wF; rw [pI,hq]; rfl
   generalize sgnQ q=sg at *
   by_cases h3:N=m+1
   ·have h4:sg≠0:=fun e=>wC5 _ m _ (by omega) hr (hz.1 e)
    obtain ⟨⟨x,l⟩,⟨y,k⟩⟩:=q; subst h3
    repeat (first | refine wg rfl (sN m) ?_ | refine wg rfl (sX m hg) ?_ | refine wc q1 ?_ | refine wv ?_ | refine wg rfl cT ?_ | refine wg rfl cF ?_ | refine wz ?_)
    exact ⟨(),trivial,rfl,rfl,trivial⟩
   ·have h4:sg=0:=hz.2 (wE5 _ m _ (by omega) hr)
    obtain ⟨⟨x,l⟩,⟨y,k⟩⟩:=q
    repeat (first | refine wg rfl (sN m) ?_ | refine wg rfl (sX m hg) ?_ | refine wc q1 ?_ | refine wv ?_ | refine wg rfl cT ?_ | refine wz ?_)
    exact ⟨m,⟨by omega,by omega⟩,bN m,rfl,rfl,trivial⟩
 ·show VW _ _ _ _ _ _
  obtain ⟨R,hR⟩:∃ R,pn (wF qs)=R:=⟨_,rfl⟩; have hRl:R.length=N:=by rw [← hR,wQ1,hN]
  have hRm:(R.map wH).length=N:=by rw [pF,hRl]
  have hrep:List.replicate N q0=(R.map wH).take 0++List.replicate ((R.map wH).length - 0) q0:=by rw [hRm]; simp
  have hrl:((R.map wH).take 0++List.replicate ((R.map wH).length - 0) q0).length=N:=by rw [← hrep]; simp
  rw [hR]
  repeat (first | refine wg rfl (sM 7000 N N 4 64 hrep) ?_ | refine wg rfl (sL hrl) ?_ | refine wv ?_ | refine wz ?_)
  refine wJ (fun k:Nat=>[jV 0 (vQs qs),jO 8 2 89 4 ((R.map wH).take k++List.replicate ((R.map wH).length - k) q0),jI 48 N,jI 50 k])
   (fun k=>k≤N) (fun k=>N - k) 0 (fun _=>rfl) (pH _) ⟨rfl,⟨_,rfl⟩,rfl,rfl,trivial⟩ fun k hK=>?_
  rcases pG k N with hk | hk
  ·obtain ⟨q,hq⟩:=gE (l:=qs) (i:=k) (by omega)
   have hg:=kO qs k q hq; have ho:=h q (pD hq)
   have q1:=wPG q ho.1 ho.2; have hgz:(R.map wH)[k]? = some (wH (qn (wI q))):=by
    have hr:(wF qs)[k]? = some (wI q):=by unfold wF; rw [pI,hq]; rfl
    rw [← hR]; unfold pn w8
    rw [pI,pI,pZ,hN,if_pos hk,hr]
    rfl
   have hset:=v7 (R.map wH) q0 k _ hgz; have hown:((R.map wH).take k++List.replicate ((R.map wH).length - k) q0)[k]? = some q0:=by
    rw [mI (by rw [pM]; omega),mU,if_pos (by rw [pM]; omega)]
   have hlen:k<((R.map wH).take k++List.replicate ((R.map wH).length - k) q0).length:=by rw [pW,pM,mP]; omega
   generalize (R.map wH).take k++List.replicate ((R.map wH).length - k) q0=row at *; unfold q0 at hown
   unfold nR at q1; generalize qn (wI q)=qz at *
   obtain ⟨⟨x,l⟩,⟨y,n⟩⟩:=q
   repeat (first | refine wg rfl (sX k hg) ?_ | refine wc q1 ?_ | refine wg rfl (sO k hlen) ?_ | refine wg rfl (sS hown (he:=by exact hset)) ?_ | refine wv ?_ | refine wg rfl cT ?_ | refine wg rfl sB ?_ | refine wz ?_)
   exact ⟨k+1,hk,by omega,rfl,⟨_,rfl⟩,rfl,rfl,trivial⟩
  ·have hke:k=N:=by omega
   subst hke; have hfull:(R.map wH).take k++List.replicate ((R.map wH).length - k) q0=R.map wH:=by
    rw [pN (by omega),hRm,dV]
    simp
   rw [hfull]
   repeat (first | refine wv ?_ | refine wg rfl cF ?_ | refine wz ?_)
   exact ⟨.inl rfl,_,rfl,rfl⟩
theorem wWG (qs:List QQ) (h:∀ q∈qs,okQ q∧intOf q.2≠0) (hl:qs.length≤68719476736):wD Tryz.prog 87 [vQs qs] (fun y=>y=.int .i64 ((wV (wF qs):Nat) - 1)):=by
 refine wC wG Tryz.func87 rfl rfl rfl rfl fun w0=>?_
 have q1:=yD qs h hl; have hle:=kS (wF qs)
 have hLl:(wF qs).length=qs.length:=by unfold wF; rw [pF]
 have e:((pn (wF qs)).map wH).length=wV (wF qs):=by rw [pF,wQ1]
 generalize pn (wF qs)=R at *; generalize wV (wF qs)=N at *
 repeat (first | refine wg rfl (sL e) ?_ | refine wc q1 ?_ | refine wv ?_ | refine wg rfl sB ?_ | refine wz ?_)
 exact ⟨.inl rfl,_,rfl,rfl⟩
theorem pn_top {l:List Rat} {m:Nat} (h:wV l=m+1):∃ x,l[m]? = some x∧x≠0∧(pn l)[m]? = some (qn x):=by
 have hle:=kS l; obtain ⟨x,hx⟩:=gE (l:=l) (i:=m) (by omega)
 refine ⟨x,hx,wC5 l m x h hx,?_⟩
 unfold pn w8; rw [pI,pZ,h,if_pos (by omega),hx]
 rfl
theorem wVG (qs:List QQ) (h:∀ q∈qs,okQ q∧intOf q.2≠0) (hl:qs.length≤68719476736) (m:Nat) (hm:wV (wF qs)=m+1) (x:Rat) (hx:(wF qs)[m]? = some x):wD Tryz.prog 89 [vQs qs] (fun y=>y=nR x):=by
 refine wC wG Tryz.func89 rfl rfl rfl rfl fun w0=>?_
 have q1:=yD qs h hl; have hle:=kS (wF qs)
 have hLl:(wF qs).length=qs.length:=by unfold wF; rw [pF]
 obtain ⟨x',h1,_,h2⟩:=pn_top hm; rw [hx] at h1
 cases h1
 have e:((pn (wF qs)).map wH).length=m+1:=by rw [pF,wQ1,hm]
 have hg:((pn (wF qs)).map wH)[m]? = some (wH (qn x)):=by rw [pI,h2]; rfl
 unfold vQs at q1; unfold nR
 generalize (pn (wF qs)).map wH=R at *; generalize qn x=qz at *
 repeat (first | refine wg rfl (sN m) ?_ | refine wg rfl (sX m hg) ?_ | refine wg rfl (sL e) ?_ | refine wc q1 ?_ | refine wl ?_ | refine wv ?_ | refine wz ?_)
 exact ⟨.inl rfl,_,rfl,rfl⟩
theorem may09_v (qs:List QQ) (h:∀ q∈qs,okZ q.2) (hl:qs.length≤1099511627776):wD Tryz.prog 86 [vQs qs] (fun y=>y=.bool (qs.all yW)):=by
 refine wC wG Tryz.func86 rfl rfl rfl rfl fun w0=>?_
 have q1:=rallMay5_v qs h hl
 repeat (first | refine wv ?_ | refine wc q1 ?_ | refine wz ?_)
 exact ⟨.inl rfl,_,rfl,rfl⟩
def vPs (ps:List (List QQ)):V:=.list (qU ps)
theorem allMay09_v (ps:List (List QQ)) (h:∀ p∈ps,(∀ q∈p,okZ q.2)∧p.length≤1099511627776) (hl:ps.length≤1099511627776):wD Tryz.prog 45 [vPs ps] (fun y=>y=.bool (ps.all fun p=>p.all yW)):=by
 refine wC wG Tryz.func45 rfl rfl rfl rfl fun w0=>?_
 repeat (first | refine wg rfl (sL (kR ps)) ?_ | refine wv ?_ | refine wz ?_)
 refine wJ (fun j:Nat=>[jV 10 (vPs ps),jI 12 (ps.length),jI 14 j])
  (fun j=>j≤ps.length∧((ps.drop j).all fun p=>p.all yW)=ps.all fun p=>p.all yW) (fun j=>ps.length - j) 0 (fun _=>rfl) ⟨pH _,rfl⟩ ⟨rfl,rfl,rfl,trivial⟩ fun j hI=>?_
 obtain ⟨hJ,hc⟩:=hI; rcases pG j ps.length with hj | hj
 ·obtain ⟨p,hp⟩:=gE hj
  have hg:=j9 ps j p hp; have ho:=h p (pD hp)
  have q1:=may09_v p ho.1 ho.2; rw [zZ ps j p hp,dT] at hc
  generalize p.all yW=b at *; cases b with
  | true =>
   rw [dU] at hc
   repeat (first | refine wg rfl (sX j hg) ?_ | refine wc q1 ?_ | refine wv ?_ | refine wg rfl cT ?_ | refine wg rfl sB ?_ | refine wz ?_)
   exact ⟨j+1,⟨hj,hc⟩,by omega,rfl,rfl,rfl,trivial⟩
  | false =>
   rw [bH] at hc
   repeat (first | refine wg rfl (sX j hg) ?_ | refine wc q1 ?_ | refine wv ?_ | refine wg rfl cT ?_ | refine wz ?_)
   refine ⟨.inl rfl,_,rfl,?_⟩
   rw [← hc]
 ·rw [pY hj] at hc
  repeat (first | refine wv ?_ | refine wg rfl cF ?_ | refine wz ?_)
  refine ⟨.inl rfl,_,rfl,?_⟩
  rw [← hc]; exact rfl
end Go.Proofs.YtkjhfnhgefbhhaaGreat
/- verify.fit, first, sized, equal: told of trees. ALLOC -/
namespace Go.Proofs.YtkjhfnhgefbhhaaGreat
open Go.RowKit Go.Ev Go.Vl
theorem vfit_v (x:Bool) (l:List Nat) (t:List (List ZZ)) (h:okM ((x,l),t) 68719476736):wD Tryz.prog 18 [.agg [.bool x,vL l,vT t]] (fun y=>y=.int .i64 (wL9 ((x,l),t))):=by
 refine wC wG Tryz.func18 rfl rfl rfl rfl fun w0=>?_
 have fin:∀ {u v:Int},u=v→V.int .i64 u=V.int .i64 v:=fun h=>by rw [h]
 have od:okZ (x,l):=⟨h.1,pC h.2.1 (by decide)⟩
 have hml:t.length≤68719476736:=h.2.2.1.1; have q1:=qSize_v ((x,l),t) od (by dsimp only; omega)
 have hf:wL9 ((x,l),t)=if chk ((x,l),t)=0 then (if t.length=wR t∧t.length≠0 then (if t.length≤24∧htM ((x,l),t)≤4096 then 0 else 4) else 3) else chk ((x,l),t):=rfl
 by_cases h0:chk ((x,l),t)=0
 ·rw [if_pos h0] at q1 hf
  have q2:=qHeight_v ((x,l),t) h0 od (chk0 h0).1 (fun r hr=>⟨pC (h.2.2.1.2 r hr).1 (by decide),fun z hz=>⟨((h.2.2.1.2 r hr).2 z hz).1,pC ((h.2.2.1.2 r hr).2 z hz).2 (by decide)⟩⟩) (by dsimp only; omega) (by
   rw [yS,pF]; exact pC h.2.2.2 (by decide)) (fun q hq=>⟨(wMF h (chk0 h0).1 q hq).1,(wMF h (chk0 h0).1 q hq).2.1⟩) (fun q hq=>by
   obtain ⟨g1,_,g3⟩:=wMF h (chk0 h0).1 q hq; rw [g3]; exact g1)
  have q2':wD Tryz.prog 60 [vM ((x,l),t)] (fun y=>y=.tup [.int .i64 (htM ((x,l),t):Nat),.int .i64 0]):=q2
  clear q2; generalize htM ((x,l),t)=ht at *
  dsimp only at q1; obtain ⟨c,hce⟩:∃ c,wR t=c:=⟨_,rfl⟩
  rw [hce] at q1 hf
  by_cases h1:t.length=c
  ·by_cases h2:t.length=0
   ·rw [if_neg (fun hh=>hh.2 h2)] at hf
    rw [hf]
    repeat (first | refine wc q1 ?_ | refine wv ?_ | refine wg rfl cT ?_ | refine wg rfl nF ?_ | refine wz ?_)
    exact ⟨.inl rfl,_,rfl,rfl⟩
   ·rw [if_pos ⟨h1,h2⟩] at hf
    by_cases h3:t.length≤24
    ·by_cases h4:ht≤4096
     ·rw [if_pos ⟨h3,h4⟩] at hf
      rw [hf]
      repeat (first | refine wc q1 ?_ | refine wc q2' ?_ | refine wv ?_ | refine wg rfl cF ?_ | refine wg rfl nF ?_ | refine wz ?_)
      exact ⟨.inl rfl,_,rfl,rfl⟩
     ·rw [if_neg (fun hh=>h4 hh.2)] at hf
      rw [hf]
      repeat (first | refine wc q1 ?_ | refine wc q2' ?_ | refine wv ?_ | refine wg rfl cT ?_ | refine wg rfl cF ?_ | refine wg rfl nF ?_ | refine wz ?_)
      exact ⟨.inl rfl,_,rfl,rfl⟩
    ·rw [if_neg (fun hh=>h3 hh.1)] at hf
     rw [hf]
     repeat (first | refine wc q1 ?_ | refine wc q2' ?_ | refine wv ?_ | refine wg rfl cT ?_ | refine wg rfl cF ?_ | refine wg rfl nF ?_ | refine kZ rfl rfl rfl rfl rfl rfl ?_ | refine wz ?_)
     exact ⟨.inl rfl,_,rfl,rfl⟩
  ·rw [if_neg (fun hh=>h1 hh.1)] at hf
   rw [hf]
   repeat (first | refine wc q1 ?_ | refine wv ?_ | refine wg rfl nT ?_ | refine wg rfl nF ?_ | refine kZ rfl rfl rfl rfl rfl rfl ?_ | refine wz ?_)
   exact ⟨.inl rfl,_,rfl,rfl⟩
 ·rw [if_neg h0] at q1 hf
  rw [hf]; generalize chk ((x,l),t)=c at *
  repeat (first | refine wc q1 ?_ | refine wv ?_ | refine wg rfl nT ?_ | refine wz ?_)
  exact ⟨.inl rfl,_,rfl,rfl⟩
structure Chk where
 c:Int
 f:FuncId
 cs:List V
 b:Bool
def chkV (k:Chk):List V:=[.int .i64 k.c,.clo k.f [] k.cs]
def wAE:List Chk→Int
 | []=>0
 | k :: ks=>if k.b=true then wAE ks else k.c
theorem chkV_len (ks:List Chk):(ks.map chkV).length=ks.length:=pF ..
theorem chkV_at (ks:List Chk) (j:Nat) (k:Chk) (h:ks[j]? = some k):(ks.map chkV)[j]? = some [.int .i64 k.c,.clo k.f [] k.cs]:=by rw [pI,h]; rfl
theorem first_v (ks:List Chk) (hl:ks.length≤1099511627776) (h:∀ (j:Nat) (k:Chk),ks[j]? = some k→(∀ (i:Nat) (k':Chk),i<j→ks[i]? = some k'→k'.b=true)→(∃ fn,zV.fns.get k.f=some fn)∧wD Tryz.prog k.f k.cs (fun y=>y=.bool k.b)) :
  wD Tryz.prog 19 [.list (ks.map chkV)] (fun y=>y=.int .i64 (wAE ks)):=by
 refine wC wG Tryz.func19 rfl rfl rfl rfl fun w0=>?_
 repeat (first | refine wg rfl (sL (chkV_len _)) ?_ | refine wv ?_ | refine wz ?_)
 refine wJ (fun j:Nat=>[jV 10 (.list (ks.map chkV)),jI 12 (ks.length),jI 14 j])
  (fun j=>j≤ks.length∧wAE (ks.drop j)=wAE ks∧∀ (i:Nat) (k':Chk),i<j→ks[i]? = some k'→k'.b=true) (fun j=>ks.length - j) 0 (fun _=>rfl) ⟨pH _,rfl,fun _ _ h=>by omega⟩ ⟨rfl,rfl,rfl,trivial⟩ fun j hI=>?_
 obtain ⟨hJ,hc,hb⟩:=hI; rcases pG j ks.length with hj | hj
 ·obtain ⟨k,hk⟩:=gE hj
  have hg:=chkV_at ks j k hk; obtain ⟨⟨fn,hfn⟩,q1⟩:=h j k hk hb
  rw [zZ ks j k hk] at hc; have hc2:(if k.b=true then wAE (ks.drop (j+1)) else k.c)=wAE ks:=hc
  have hb2:k.b=true→∀ (i:Nat) (k':Chk),i<j+1→ks[i]? = some k'→k'.b=true:=fun hkb i k' hi hk'=>by
   rcases pG i j with h1 | h1
   ·exact hb i k' h1 hk'
   ·obtain rfl:i=j:=by omega
    rw [hk] at hk'; cases hk'
    exact hkb
  obtain ⟨c,f,cs,b⟩:=k; dsimp only at hfn q1 hg hc2 hb2
  cases b with
  | true =>
   rw [if_pos rfl] at hc2
   repeat (first | refine wg rfl (sX j hg) ?_ | refine wME wG rfl rfl rfl rfl rfl rfl hfn rfl (by simpa using q1) rfl rfl ?_ | refine wl ?_ | refine wv ?_ | refine wg rfl cT ?_ | refine wg rfl sB ?_ | refine wz ?_)
   exact ⟨j+1,⟨hj,hc2,hb2 rfl⟩,by omega,rfl,rfl,rfl,trivial⟩
  | false =>
   rw [if_neg (by decide)] at hc2
   repeat (first | refine wg rfl (sX j hg) ?_ | refine wME wG rfl rfl rfl rfl rfl rfl hfn rfl (by simpa using q1) rfl rfl ?_ | refine wl ?_ | refine wv ?_ | refine wg rfl cT ?_ | refine wz ?_)
   refine ⟨.inl rfl,_,rfl,?_⟩
   rw [← hc2]
 ·rw [pY hj] at hc
  repeat (first | refine wv ?_ | refine wg rfl cF ?_ | refine wz ?_)
  refine ⟨.inl rfl,_,rfl,?_⟩
  rw [← hc]; exact rfl
def sizedB (n:Nat) (ms:List MM):Bool:=ms.all fun m=>decide (chk m=0∧m.2.length=n∧wR m.2=n)
theorem sized_v (n:Nat) (ms:List MM) (hn:n≤68719476736) (h:∀ m∈ms,okM m 68719476736) (hl:ms.length≤1099511627776):wD Tryz.prog 21 [.int .i64 (n:Nat),vMs ms] (fun y=>y=.bool (sizedB n ms)):=by
 refine wC wG Tryz.func21 rfl rfl rfl rfl fun w0=>?_
 repeat (first | refine wg rfl (sL (wH9 _)) ?_ | refine wv ?_ | refine wz ?_)
 refine wJ (fun j:Nat=>[jI 0 n,jV 20 (vMs ms),jI 22 (ms.length),jI 24 j])
  (fun j=>j≤ms.length∧sizedB n (ms.drop j)=sizedB n ms) (fun j=>ms.length - j) 0 (fun _=>rfl) ⟨pH _,rfl⟩ ⟨rfl,rfl,rfl,rfl,trivial⟩ fun j hI=>?_
 obtain ⟨hJ,hc⟩:=hI; rcases pG j ms.length with hj | hj
 ·obtain ⟨m,hm⟩:=gE hj
  have hg:=wRD ms j m hm; have hok:=h m (pD hm)
  have od:okZ m.1:=⟨hok.1,pC hok.2.1 (by decide)⟩
  have hml:m.2.length≤68719476736:=hok.2.2.1.1; have hcl:wR m.2≤68719476736:=by
   unfold wR; cases ht:m.2 with
   | nil=>exact pH _
   | cons r t2=>exact (hok.2.2.1.2 r (by rw [ht]; exact pO ..)).1
  have q1:=qSize_v m od (by omega)
  rw [zZ ms j m hm] at hc; have hc2:(decide (chk m=0∧m.2.length=n∧wR m.2=n) && sizedB n (ms.drop (j+1)))=sizedB n ms:=hc
  obtain ⟨⟨x,l⟩,t⟩:=m; dsimp only at hml hcl hc2 q1
  obtain ⟨c,hce⟩:∃ c,wR t=c:=⟨_,rfl⟩; rw [hce] at q1 hc2 hcl
  obtain ⟨r,hre⟩:∃ c,t.length=c:=⟨_,rfl⟩; rw [hre] at q1 hc2 hml
  generalize chk ((x,l),t)=e at *
  by_cases h0:e=0
  ·rw [if_pos h0] at q1
   by_cases h1:r=n
   ·by_cases h2:c=n
    ·rw [decide_eq_true ⟨h0,h1,h2⟩,dU] at hc2
     repeat (first | refine wg rfl (sX j hg) ?_ | refine wc q1 ?_ | refine wl ?_ | refine wv ?_ | refine wg rfl cT ?_ | refine wg rfl nF ?_ | refine wg rfl sB ?_ | refine wz ?_)
     exact ⟨j+1,⟨hj,hc2⟩,by omega,rfl,rfl,rfl,rfl,trivial⟩
    ·rw [decide_eq_false fun hh=>h2 hh.2.2,bH] at hc2
     repeat (first | refine wg rfl (sX j hg) ?_ | refine wc q1 ?_ | refine wl ?_ | refine wv ?_ | refine wg rfl cT ?_ | refine wg rfl nT ?_ | refine wg rfl nF ?_ | refine wz ?_)
     refine ⟨.inl rfl,_,rfl,?_⟩
     rw [← hc2]
   ·rw [decide_eq_false fun hh=>h1 hh.2.1,bH] at hc2
    repeat (first | refine wg rfl (sX j hg) ?_ | refine wc q1 ?_ | refine wl ?_ | refine wv ?_ | refine wg rfl cT ?_ | refine wg rfl nT ?_ | refine wg rfl nF ?_ | refine kZ rfl rfl rfl rfl rfl rfl ?_ | refine wz ?_)
    refine ⟨.inl rfl,_,rfl,?_⟩
    rw [← hc2]
  ·rw [decide_eq_false fun hh=>h0 hh.1,bH] at hc2
   rw [if_neg h0] at q1
   repeat (first | refine wg rfl (sX j hg) ?_ | refine wc q1 ?_ | refine wl ?_ | refine wv ?_ | refine wg rfl cT ?_ | refine wg rfl nT ?_ | refine kZ rfl rfl rfl rfl rfl rfl ?_ | refine wz ?_)
   refine ⟨.inl rfl,_,rfl,?_⟩
   rw [← hc2]
 ·rw [pY hj] at hc
  repeat (first | refine wv ?_ | refine wg rfl cF ?_ | refine wz ?_)
  refine ⟨.inl rfl,_,rfl,?_⟩
  rw [← hc]; exact rfl
theorem vequal_v (x x':Bool) (l l':List Nat) (t t':List (List ZZ)) (hc:chk ((x,l),t)=0) (hc':chk ((x',l'),t')=0) (hd:okL l∧l.length≤549755813888) (hd':okL l'∧l'.length≤549755813888) (ht:∀ r∈t,r.length≤1099511627776∧∀ z∈r,okL z.2∧z.2.length≤549755813888) (hl:t.length≤1099511627776)
  (ht':∀ r∈t',r.length≤1099511627776∧∀ z∈r,okL z.2∧z.2.length≤549755813888) (hl':t'.length≤1099511627776) :
  wD Tryz.prog 23 [.agg [.bool x,vL l,vT t],.agg [.bool x',vL l',vT t']] (fun y=>y=.bool (vB ((x,l),t) ((x',l'),t'))):=by
 refine wC wG Tryz.func23 rfl rfl rfl rfl fun w0=>?_
 have q1:=qEqual_v x x' l l' t t' hc hc' hd hd' ht hl ht' hl'; generalize vB ((x,l),t) ((x',l'),t')=b at *
 cases b
 ·repeat (first | refine wv ?_ | refine wc q1 ?_ | refine kZ rfl rfl rfl rfl rfl rfl ?_ | refine wz ?_)
  exact ⟨.inl rfl,_,rfl,rfl⟩
 ·repeat (first | refine wv ?_ | refine wg rfl cT ?_ | refine wc q1 ?_ | refine wz ?_)
  exact ⟨.inl rfl,_,rfl,rfl⟩
end Go.Proofs.YtkjhfnhgefbhhaaGreat
/- verify.product, qmat.Identity, verify.identity: told of trees. ALLOC -/
namespace Go.Proofs.YtkjhfnhgefbhhaaGreat
open Go.RowKit Go.Ev Go.Vl
theorem wZE (m0:MM) (ms:List MM) (P:Nat→MM) (hP:P 0=m0) (hl:ms.length≤1099511627776) (h:∀ (j:Nat) (m:MM),ms[j]? = some m→wD Tryz.prog 62 [vM (P j),vM m] (fun y=>y=.tup [vM (P (j+1)),.int .i64 0])) :
  wD Tryz.prog 24 [vMs (m0 :: ms)] (fun y=>y=vM (P ms.length)):=by
 refine wC wG Tryz.func24 rfl rfl rfl rfl fun w0=>?_
 unfold vMs; have hg0:=wRD (m0 :: ms) 0 m0 rfl
 have hk3:∀ e∈(m0 :: ms).map vD,e.length=3:=fun e h=>by
  obtain ⟨q,_,rfl⟩:=pJ.1 h
  rfl
 have hle:1≤((m0 :: ms).map vD).length:=by rw [wH9]; show 1≤ms.length+1; omega
 have hdr:((m0 :: ms).map vD).drop 1=ms.map vD:=rfl; have hl0:=wH9 ms
 have e00:=congrArg (fun m:MM=>m.1.1) hP
 have e01:=congrArg (fun m:MM=>m.1.2) hP
 have e02:=congrArg (fun m:MM=>m.2) hP
 obtain ⟨⟨x0,l0⟩,t0⟩:=m0; dsimp only at e00 e01 e02
 generalize (((x0,l0),t0) :: ms).map vD=L at *; generalize hL1:ms.map vD=L1 at *
 repeat (first | refine wg rfl (sX 0 hg0) ?_ | refine wg rfl (wD6 wG (l:=1) rfl rfl rfl rfl rfl rfl hk3 hle hdr rfl) ?_ | refine wg rfl (sL hl0) ?_ | refine wl ?_ | refine wv ?_ | refine wz ?_)
 refine wJ (fun j:Nat=>[jB 4 2,jC 5 [.v (.bool false),.nils,.nils],jB 6 3,jC 7 [.v (.bool (P j).1.1),.v (vL (P j).1.2),.v (vT (P j).2)],jV 20 (.list L1),jI 22 (ms.length),jI 24 j])
  (fun j=>j≤ms.length) (fun j=>ms.length - j) 0 (fun _=>rfl) (pH _) ⟨rfl,rfl,rfl,by rw [e00,e01,e02]; exact rfl,rfl,rfl,rfl,trivial⟩ fun j hJ=>?_
 rcases pG j ms.length with hj | hj
 ·obtain ⟨m,hm⟩:=gE hj
  have hg:=wRD ms j m hm; rw [hL1] at hg
  have q1:=h j m hm; obtain ⟨⟨x,l⟩,t⟩:=m
  generalize P j=p at *; generalize hpn:P (j+1)=p' at *
  obtain ⟨⟨px,pl⟩,pt⟩:=p; obtain ⟨⟨px',pl'⟩,pt'⟩:=p'
  repeat (first | refine wg rfl (sX j hg) ?_ | refine wc q1 ?_ | refine wl ?_ | refine wv ?_ | refine wg rfl cT ?_ | refine wg rfl sB ?_ | refine wz ?_)
  exact ⟨j+1,hj,by omega,rfl,rfl,rfl,by rw [hpn]; exact rfl,rfl,rfl,rfl,trivial⟩
 ·have hje:j=ms.length:=by omega
  subst hje; generalize P ms.length=p at *
  obtain ⟨⟨px,pl⟩,pt⟩:=p
  repeat (first | refine wv ?_ | refine wg rfl cF ?_ | refine wz ?_)
  exact ⟨.inl rfl,_,rfl,rfl⟩
theorem qsized_v (n:Nat) (hn:n≤1000):wD Tryz.prog 118 [.list [[.int .i64 (n:Nat)]]] (fun y=>y=.int .i64 0):=by
 refine wC wG Tryz.func118 rfl rfl rfl rfl fun w0=>?_
 obtain ⟨L,hL⟩:∃ L:List (List V),[[V.int .i64 (n:Nat)]]=L:=⟨_,rfl⟩; have hl:L.length=1:=by rw [← hL]; rfl
 have hg:L[0]? = some [V.int .i64 (n:Nat)]:=by rw [← hL]; rfl
 rw [hL]
 repeat (first | refine wg rfl (sL hl) ?_ | refine wv ?_ | refine wz ?_)
 refine wJ (fun j:Nat=>[jV 0 (.list L),jV 14 (.list L),jI 16 1,jI 18 j])
  (fun j=>j≤1) (fun j=>1 - j) 0 (fun _=>rfl) (pH _) ⟨rfl,rfl,rfl,rfl,trivial⟩ fun j hJ=>?_
 rcases pG j 1 with hj | hj
 ·obtain rfl:j=0:=by omega
  repeat (first | refine wg rfl (sX 0 hg) ?_ | refine wv ?_ | refine wg rfl cT ?_ | refine wg rfl cF ?_ | refine wg rfl sB ?_ | refine wz ?_)
  exact ⟨1,pE _,by decide,rfl,rfl,rfl,rfl,trivial⟩
 ·obtain rfl:j=1:=by omega
  repeat (first | refine wg rfl (sL hl) ?_ | refine wv ?_ | refine wg rfl cF ?_ | refine wz ?_)
  refine wJ (fun j:Nat=>[jV 32 (.list L),jI 34 1,jI 36 j])
   (fun j=>j≤1) (fun j=>1 - j) 0 (fun _=>rfl) (pH _) ⟨rfl,rfl,rfl,trivial⟩ fun j hJ=>?_
  rcases pG j 1 with hj | hj
  ·obtain rfl:j=0:=by omega
   repeat (first | refine wg rfl (sX 0 hg) ?_ | refine wv ?_ | refine wg rfl cT ?_ | refine wg rfl cF ?_ | refine wg rfl sB ?_ | refine wz ?_)
   exact ⟨1,pE _,by decide,rfl,rfl,rfl,trivial⟩
  ·obtain rfl:j=1:=by omega
   repeat (first | refine wv ?_ | refine wg rfl cF ?_ | refine wz ?_)
   exact ⟨.inl rfl,_,rfl,rfl⟩
def wFF (i k:Nat):Int:=if i=k then 1 else 0
theorem ident1_v (i k:Nat) (hi:i<9223372036854775808) (hk:k<9223372036854775808):wD Tryz.prog 120 [.int .i64 (i:Nat),.int .i64 (k:Nat)] (fun y=>y=.agg (wS (zn (wFF i k)))):=by
 refine wC wG Tryz.func120 rfl rfl rfl rfl fun w0=>?_
 have q1:=wR0 1 (by decide)
 have hz:wS (zn 0)=[V.bool false,V.list []]:=by
  unfold wS zn vL uL
  simp [qB]
 unfold wFF
 by_cases h:i=k
 ·rw [if_pos h]
  repeat (first | refine wl ?_ | refine wv ?_ | refine wg rfl cT ?_ | refine wc q1 ?_ | refine wz ?_)
  exact ⟨.inl rfl,_,rfl,rfl⟩
 ·rw [if_neg h,hz]
  repeat (first | refine wl ?_ | refine wv ?_ | refine wg rfl cF ?_ | refine wz ?_)
  exact ⟨.inl rfl,_,rfl,rfl⟩
def idM (n:Nat):MM:=wAA (zn 1) (kC n n fun i k=>zn (wFF i k))
theorem wL2 (i k:Nat):lm (wFF i k)≤1:=by
 have h1:lm 1=1:=by unfold lm; simp [toL,qB]
 unfold wFF
 split
 ·omega
 ·unfold lm; simp [qB]
theorem qG8 (n:Nat) (hn:n≤1000):wD Tryz.prog 63 [.int .i64 (n:Nat)] (fun y=>y=.tup [vM (idM n),.int .i64 0]):=by
 refine wC wG Tryz.func63 rfl rfl rfl rfl fun w0=>?_
 have q1:=qsized_v n hn; have q2:=wR0 1 (by decide)
 have q3:=table_v n n 120 Tryz.f120 [] [] (fun i k=>zn (wFF i k)) rfl (fun i k hi hk=>ident1_v i k (by omega) (by omega)) (by omega) (by omega)
 have q4:=qD5 (zn 1) (kC n n fun i k=>zn (wFF i k)) (qF _ (by have:=wL2 0 0; unfold wFF at this; rw [if_pos rfl] at this; omega)) (by rw [wE]; decide) (fun r h z hz=>by
  obtain ⟨i,k,rfl⟩:=(wBE h).2 z hz; have:=wL2 i k
  exact qF _ (by omega)) (by unfold kC; simp only [List.length_map,List.length_range]; omega) (fun r h=>by rw [(wBE h).1]; omega)
 repeat (first | refine wl ?_ | refine wv ?_ | refine wg rfl nF ?_ | refine wh q1 ?_ | refine wc q2 ?_ | refine wc q3 ?_ | refine wc q4 ?_ | refine wz ?_)
 exact ⟨.inl rfl,_,rfl,rfl⟩
theorem identity_v (n:Nat) (hn:n≤1000):wD Tryz.prog 25 [.int .i64 (n:Nat)] (fun y=>y=vM (idM n)):=by
 refine wC wG Tryz.func25 rfl rfl rfl rfl fun w0=>?_
 have q1:=qG8 n hn; generalize idM n=m at *
 obtain ⟨⟨x,l⟩,t⟩:=m
 repeat (first | refine wl ?_ | refine wv ?_ | refine wc q1 ?_ | refine wz ?_)
 exact ⟨.inl rfl,_,rfl,rfl⟩
end Go.Proofs.YtkjhfnhgefbhhaaGreat
/- verify.Similar: told of trees. ALLOC -/
namespace Go.Proofs.YtkjhfnhgefbhhaaGreat
open Go.RowKit Go.Ev Go.Vl
theorem wNG {d:ZZ} {r c K:Nat} {F:Nat→Nat→Int} (h0:intOf d≠0) (hd:lm (intOf d)≤K) (hK:1≤K) (hF:∀ i k,lm (F i k)≤K) (hr:r≤68719476736) (hc:c≤68719476736) (hrc:r*c≤68719476736) :
  okM (wAA d (kC r c fun i k=>zn (F i k))) K∧chk (wAA d (kC r c fun i k=>zn (F i k)))=0∧(wAA d (kC r c fun i k=>zn (F i k))).2.length=r∧∀ x∈(wAA d (kC r c fun i k=>zn (F i k))).2,x.length=c:=by
 obtain ⟨hS1,hS2,_⟩:=wFH d (kC r c fun i k=>zn (F i k)) h0
 have hlen:(wAA d (kC r c fun i k=>zn (F i k))).2.length=r:=by
  show (List.map _ (kC r c fun i k=>zn (F i k))).length=r
  unfold kC; simp only [List.length_map,List.length_range]
 have hrow:∀ x∈(wAA d (kC r c fun i k=>zn (F i k))).2,x.length=c∧∀ z∈x,okL z.2∧z.2.length≤K:=by
  intro x hx
  obtain ⟨r',h1,rfl⟩:=pJ.1 hx; obtain ⟨g1,g2⟩:=wBE h1
  refine ⟨by rw [pF]; exact g1,fun z hz=>?_⟩
  obtain ⟨z',hz',rfl⟩:=pJ.1 hz; obtain ⟨i,k,rfl⟩:=g2 z' hz'
  refine ⟨wD5 _,?_⟩
  rw [zn_lm]; refine pC (jF (y:=F i k) ?_) (hF i k)
  rw [dX,wE]; exact cN ..
 have hden:lm (if wR (kC r c fun i k=>zn (F i k))=0 then 1 else (intOf d).tdiv (wE2 d (kC r c fun i k=>zn (F i k))))≤K:=by
  split
  ·exact pC (lm_dvd (Int.one_dvd _) h0) hd
  ·refine pC (jF (y:=intOf d) ?_) hd
   rw [dX]; exact cN ..
 refine ⟨⟨wD5 _,hden,⟨by rw [hlen]; exact hr,fun x hx=>⟨by rw [(hrow x hx).1]; exact hc,(hrow x hx).2⟩⟩,by rw [jK fun x hx=>(hrow x hx).1,hlen]; exact hrc⟩,qE4 _ ?_ (wO5 _ _ fun x hx=>(hrow x hx).1),hlen,fun x hx=>(hrow x hx).1⟩
 show intOf (zn (if wR (kC r c fun i k=>zn (F i k))=0 then 1 else (intOf d).tdiv (wE2 d (kC r c fun i k=>zn (F i k)))))≠0
 rw [wE]
 split
 ·decide
 ·intro hz
  have:=Int.mul_tdiv_cancel' hS2; rw [hz,Int.mul_zero] at this
  exact h0 this.symm
structure sqM (m:MM) (n K:Nat):Prop where
 ok:okM m K
 ch:chk m=0
 rows:m.2.length=n
 cols:∀ x∈m.2,x.length=n
theorem sqM.den {m:MM} {n K:Nat} (h:sqM m n K):intOf m.1≠0:=(chk0 h.ch).1
theorem sqM.cl {m:MM} {n K:Nat} (h:sqM m n K) (hn:0<n):wR m.2=n:=by
 unfold wR; cases hm:m.2 with
 | nil=>have:=h.rows; rw [hm] at this; simp at this; omega
 | cons r t=>exact h.cols r (by rw [hm]; exact pO ..)
theorem sqM.mono {m:MM} {n K K':Nat} (h:sqM m n K) (hk:K≤K'):sqM m n K':=⟨zS h.ok hk,h.ch,h.rows,h.cols⟩
theorem sqM.of {m:MM} {n K:Nat} (h:okM m K) (hc:chk m=0) (hr:m.2.length=n) (hl:wR m.2=n):sqM m n K:=⟨h,hc,hr,fun x hx=>by rw [of_even _ (chk0 hc).2 x hx,hl]⟩
theorem sqM.mul {m m':MM} {n K:Nat} (h:sqM m n K) (h':sqM m' n K) (hn:0<n) (hn':n≤24) (hK:1≤K):sqM (yV m m') n (2*K+24):=by
 have e1:=h.cl hn; have e2:=h'.cl hn
 have l1:=qJ (intOf m.1) (intOf m'.1); have l3:=wL m.1 h.ok.1
 have l4:=wL m'.1 h'.ok.1; have l5:=h.ok.2.1
 have l6:=h'.ok.2.1; obtain ⟨g1,g2,g3,g4⟩:=wNG (d:=zn (intOf m.1*intOf m'.1)) (r:=m.2.length) (c:=wR m'.2) (K:=2*K+24) (F:=fun i k=>yB m.2 m'.2 i k (wR m.2)) (by rw [wE]; exact cD h.den h'.den) (by rw [wE]; omega) (by omega) (fun i k=>by
  have:=wE3 m.2 m'.2 K 0 i k (yX h.ok.2.2.1) (yX h'.ok.2.2.1) (wR m.2); show lm (yB m.2 m'.2 i k (wR m.2))≤_
  omega) (by rw [h.rows]; omega) (by omega) (by rw [h.rows,e2]; exact pC (dA hn' hn') (by decide))
 exact ⟨g1,g2,g3.trans h.rows,fun x hx=>(g4 x hx).trans e2⟩
theorem sqM.id (n:Nat) (hn':n≤24):sqM (idM n) n 1:=by
 have h1:lm 1≤1:=by have:=wL2 0 0; unfold wFF at this; rwa [if_pos rfl] at this
 obtain ⟨g1,g2,g3,g4⟩:=wNG (d:=zn 1) (r:=n) (c:=n) (K:=1) (F:=wFF) (by rw [wE]; decide) (by rw [wE]; exact h1) (pE _) wL2 (by omega) (by omega) (pC (dA hn' hn') (by decide))
 exact ⟨g1,g2,g3,g4⟩
theorem qCH {m m':MM} {n K:Nat} (h:sqM m n K) (h':sqM m' n K) (hn:0<n) (hK:K≤68719476736):wD Tryz.prog 62 [vM m,vM m'] (fun y=>y=.tup [vM (yV m m'),.int .i64 0]):=by
 have e1:=h.cl hn; have e2:=h'.cl hn
 have r1:=h.rows; have r2:=h'.rows
 have c1:=h.cols; have c2:=h'.cols
 have d1:=h.den; have d2:=h'.den
 have o1:=h.ok; have o2:=h'.ok
 have k1:=h.ch; have k2:=h'.ch
 clear h h'; obtain ⟨⟨x,l⟩,t⟩:=m
 obtain ⟨⟨x',l'⟩,t'⟩:=m'; dsimp only at e1 e2 r1 r2 c1 c2
 exact qMul_v x x' l l' t t' K hK k1 k2 d1 d2 ⟨o1.1,o1.2.1⟩ ⟨o2.1,o2.2.1⟩ o1.2.2.1 o2.2.2.1 (fun r hr=>by rw [c1 r hr,e1]) (fun r hr=>by rw [c2 r hr,e2]) (by omega)
theorem wP8 {m m':MM} {n K:Nat} (h:sqM m n K) (h':sqM m' n K) (hK:K≤68719476736):wD Tryz.prog 23 [vM m,vM m'] (fun y=>y=.bool (vB m m')):=by
 have o1:=h.ok; have o2:=h'.ok
 have k1:=h.ch; have k2:=h'.ch
 clear h h'; obtain ⟨⟨x,l⟩,t⟩:=m
 obtain ⟨⟨x',l'⟩,t'⟩:=m'; exact vequal_v x x' l l' t t' k1 k2 ⟨o1.1,pC o1.2.1 (by omega)⟩ ⟨o2.1,pC o2.2.1 (by omega)⟩ (fun r hr=>⟨pC (o1.2.2.1.2 r hr).1 (by decide),fun z hz=>⟨((o1.2.2.1.2 r hr).2 z hz).1,pC ((o1.2.2.1.2 r hr).2 z hz).2 (by omega)⟩⟩) (pC o1.2.2.1.1 (by decide))
  (fun r hr=>⟨pC (o2.2.2.1.2 r hr).1 (by decide),fun z hz=>⟨((o2.2.2.1.2 r hr).2 z hz).1,pC ((o2.2.2.1.2 r hr).2 z hz).2 (by omega)⟩⟩) (pC o2.2.2.1.1 (by decide))
theorem product2_v {m m':MM} {n K:Nat} (h:sqM m n K) (h':sqM m' n K) (hn:0<n) (hK:K≤68719476736):wD Tryz.prog 24 [vMs [m,m']] (fun y=>y=vM (yV m m')) :=
 wZE m [m'] (fun j=>match j with | 0=>m | _=>yV m m') rfl (by show 1≤1099511627776; decide) fun j x hx=>by
  match j,hx with
  | 0,hx =>
   cases hx
   exact qCH h h' hn hK
theorem product3_v {m m' m2:MM} {n K:Nat} (h:sqM m n K) (h':sqM m' n K) (h2:sqM m2 n K) (hn:0<n) (hn':n≤24) (hK1:1≤K) (hK:K≤1073741824):wD Tryz.prog 24 [vMs [m,m',m2]] (fun y=>y=vM (yV (yV m m') m2)) :=
 wZE m [m',m2] (fun j=>match j with | 0=>m | 1=>yV m m' | _=>yV (yV m m') m2) rfl (by show 2≤1099511627776; decide) fun j x hx=>by
  match j,hx with
  | 0,hx =>
   cases hx
   exact qCH h h' hn (by omega)
  | 1,hx =>
   cases hx
   exact qCH (K:=2*K+24) (h.mul h' hn hn' hK1) (h2.mono (by omega)) hn (by omega)
end Go.Proofs.YtkjhfnhgefbhhaaGreat
/- verify.Similar whole: told of trees. ALLOC -/
namespace Go.Proofs.YtkjhfnhgefbhhaaGreat
open Go.RowKit Go.Ev Go.Vl
def rM (m:MM):V:=.ref [.bool m.1.1,vL m.1.2,vT m.2]
theorem fit_sq {m:MM} {K:Nat} (h:okM m K) (hf:wL9 m=0):sqM m m.2.length K∧0<m.2.length∧m.2.length≤24:=by
 obtain ⟨g1,g2,g3,g4,_⟩:=fit10 hf; exact ⟨sqM.of h g1 rfl g2.symm,by omega,g4⟩
end Go.Proofs.YtkjhfnhgefbhhaaGreat
/- simileref25.Fits: told of trees. ALLOC -/
namespace Go.Proofs.YtkjhfnhgefbhhaaGreat
open Go.RowKit Go.Ev Go.Vl
end Go.Proofs.YtkjhfnhgefbhhaaGreat
