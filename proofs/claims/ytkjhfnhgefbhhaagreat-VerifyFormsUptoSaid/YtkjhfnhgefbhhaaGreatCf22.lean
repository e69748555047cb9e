/- qpoly.div of the program, told of trees. ALLOC -/
import Derived.Test.YtkjhfnhgefbhhaaGreatCf21
set_option linter.all false
set_option maxRecDepth 20000
set_option maxHeartbeats 6400000
namespace Go.Vl
open Go.RowKit Go.Ev
section
variable {P:Program} {w0:Base} {n:Nat} {st:St} {Q:vZ} {ops:Array Oper}
theorem vw_frzPreR {dr:Bool} (ri s j:Nat) {k m:Nat} {T:TypeId} {u u':Value} {es es':List (List V)} (hs:lk st (2*s)=some (.sv (.v (.raw u')))) (hj:lk st (2*j+1)=some (.fam T k [(u,es)])) (hp:yL u u' m) (hm:m≤es.length) (he:es.take m=es')
  (h:RR P w0 n ri ops dr Q ((2*s,some (.sv (.v (.list es')))) :: (2*j+1,none) :: st) 0 [] ((2*s,some (.sv (.v (.list es')))) :: (2*j+1,none) :: st)):VW P w0 n (.region ri ops dr) Q st :=
 vw_frzPre s j hs hj hp hm he (wDD h)
theorem namePre_ok {d j id k:Nat} {T:TypeId} {es:List (List V)} (hd:lk st (2*d)=some (.sv (.own id T k es))) (hj:lk st (2*j+1)=none) :
  ∀ a w,Hs w0 n (lk st) a w→∃ u:{ u:Value // yL u u es.length },Hs w0 n (lk ((2*d,some (.sv (.v (.raw u.1)))) :: (2*j+1,some (.fam T k [(u.1,es)])) :: st)) a w:=fun a w h=>by
 obtain ⟨u,hu⟩:=name_ok (L:=[]) hd (.inr ⟨hj,rfl⟩) a w h; refine ⟨⟨u,?_⟩,hu⟩
 obtain ⟨β,hh⟩:=hu; have hfo:=hh.fm j T k [(u,es)] (by rw [wVE,upd_ne _ _ (by omega),upd_same]; rfl)
 obtain ⟨_,⟨us,h2,_⟩,_⟩:=hfo.1 _ (pL.2 rfl); dsimp only at h2
 rcases h2.2 with ⟨hv,h0⟩ | ⟨g,cap,cur,hv,hb,hg,hc,hm,hcs,ht⟩
 ·exact .inl ⟨hv,h0⟩
 ·exact .inr ⟨g,_,cap,cap,hv,hv,pE _,hc,pE _⟩
theorem vw_namePre {c:Code} (d j:Nat) {id k:Nat} {T:TypeId} {es:List (List V)} (hd:lk st (2*d)=some (.sv (.own id T k es))) (hj:lk st (2*j+1)=none)
  (h:∀ u,yL u u es.length→VW P w0 n c Q ((2*d,some (.sv (.v (.raw u)))) :: (2*j+1,some (.fam T k [(u,es)])) :: st)):VW P w0 n c Q st:=wK1 _ (namePre_ok hd hj) fun u=>h u.1 u.2
end
end Go.Vl
namespace Go.Proofs.YtkjhfnhgefbhhaaGreat
open Go.RowKit Go.Ev Go.Vl
theorem atR_set {l:List Rat} {i:Nat} (hi:i<l.length) (x:Rat) (j:Nat):atR (l.set i x) j=if j=i then x else atR l j:=by
 unfold atR; rw [pK,pK,gF]
 by_cases h:i=j
 ·subst h
  rw [if_pos rfl,if_pos hi,if_pos rfl]
  rfl
 ·rw [if_neg h,if_neg fun e=>h e.symm]
theorem wXB (l:List Rat) (m i:Nat):atR (l.take m) i=if i<m then atR l i else 0:=by
 unfold atR; rw [pK,pK,pZ]
 split <;> rfl
theorem qF5 {R R' B:List Rat} {m:Nat} (hm:m≤R.length) (hB:B.length≤m)
  (h:∀ t,atR R' t=if m - B.length≤t∧t<m then atR R t - zD (R.take m) B*atR B (t - (m - B.length)) else atR R t):w8 (R'.take m)=vP (R.take m) B:=by
 have hl:(R.take m).length=m:=by rw [pM]; omega
 have e:vP (R.take m) B=w8 (vP (R.take m) B):=by
  unfold vP; rw [xT]
 rw [e]; refine wTF fun t=>?_
 rw [wU1,wXB,hl,wXB,h]; rcases pG t m with h1 | h1
 ·rw [if_pos h1,if_pos h1]
  rcases pG t (m - B.length) with h2 | h2
  ·rw [if_neg (by omega),if_pos h2,fL,Rat.neg_zero,bZ]
  ·rw [if_pos ⟨h2,h1⟩,if_neg (by omega),Rat.mul_comm]
 ·rw [if_neg (by omega),if_neg (by omega),if_neg (by omega),zU (by omega),pE9,pF0]
theorem wFC {l:List Rat} {i:Nat} {x:Rat} (h:l[i]? = some x):((wQ l).map wH)[i]? = some (wH (qn x)):=by
 unfold wQ; rw [pI,pI,h]
 rfl
theorem qG7 (l:List Rat) (i:Nat) (x:Rat):((wQ l).map wH).set i (wH (qn x))=(wQ (l.set i x)).map wH:=by
 unfold wQ; rw [gG,gG]
theorem wZD (l:List Rat) (m:Nat):((wQ l).map wH).take m=(wQ (l.take m)).map wH:=by
 unfold wQ; rw [← fN,← fN]
theorem wFB (l:List Rat):((wQ l).map wH).length=l.length:=by rw [pF,jW]
theorem take_qsOf (l:List Rat):(wQ l).take (wV (wF (wQ l)))=wQ (w8 l):=by
 rw [zQ]; unfold wQ w8
 rw [fN]
theorem wOG {l:List Rat} {i:Nat} (h:i<l.length):l[i]? = some (atR l i):=by
 rw [pU h,kG (pU h)]
theorem divP_v (A0 B:List Rat) (K:Nat) (hK1:1≤K) (hK:K≤2097152) (mA:∀ x∈A0,okB K x) (mB:∀ x∈B,okB K x) (nA:w8 A0=A0) (nB:w8 B=B) (hA:A0.length≤25) (hB0:0<B.length) (hB:B.length≤25) (F:List Rat × List Rat) (hF:wOB (A0.length+1) [] A0 B=F) :
  wD Tryz.prog 200 [vQs (wQ A0),vQs (wQ B)] (fun y=>y=.tup [vQs (pn F.1),vQs (wQ F.2)]):=by
 refine wC wG Tryz.func200 rfl rfl rfl rfl fun w0=>?_
 have zA:=wSA hK1 mA (by omega)
 have zB:=wSA hK1 mB (by omega)
 have hBt:atR B (B.length - 1)≠0:=by
  have e:=qN B; rw [nB] at e
  exact atR_top (by omega)
 have lBm:=wFB B; have lAm:=wFB A0
 repeat (first | refine wg rfl (sL lAm) ?_ | refine wg rfl (sL lBm) ?_ | refine wv ?_ | refine wg rfl (j0 rfl rfl rfl rfl (rfl) rfl) ?_ | refine wz ?_)
 refine zR (d:=6) (id:=1) (k:=4) (T:=89) rfl rfl rfl rfl ?_
 refine wM3 (fun Z:List Rat=>[jV 0 (vQs (wQ A0)),jV 2 (vQs (wQ B)),jO 12 1 89 4 ((wQ Z).map wH)]) (fun Z=>(∀ i,atR Z i=0)∧Z.length≤25∧(B.length≤A0.length→A0.length - B.length<Z.length)) (fun _=>rfl) ?_ fun Z hZ=>?_
 ·by_cases hge:B.length≤A0.length
  ·rw [decide_eq_true (show ((B.length:Nat):Int)≤(A0.length:Nat) by omega)]
   obtain ⟨k,hk⟩:∃ k,A0.length - B.length=k:=⟨_,rfl⟩; obtain ⟨Z,hZ⟩:∃ Z:List Rat,List.replicate (k+1) 0=Z:=⟨_,rfl⟩
   have hZl:Z.length=k+1:=by rw [← hZ,mP]
   have hZm:((wQ Z).map wH).length=k+1:=by rw [wFB,hZl]
   have hZ0:∀ i,atR Z i=0:=fun i=>by
    rw [← hZ]; unfold atR
    rw [pK,mU]
    split <;> rfl
   have hrep:List.replicate (k+1) q0=((wQ Z).map wH).take 0++List.replicate (((wQ Z).map wH).length - 0) q0:=by rw [hZm]; simp
   have hrl:(((wQ Z).map wH).take 0++List.replicate (((wQ Z).map wH).length - 0) q0).length=k+1:=by rw [← hrep]; simp
   have q1:=rofP_v 0 (by decide)
   repeat (first | refine wg rfl (sL lAm) ?_ | refine wg rfl (sL lBm) ?_ | refine wg rfl (sN k) ?_ | refine wg rfl (yP (id:=7000) (l:=k+1) (c:=k+1) (m:=4) (bb:=64) wG rfl rfl rfl (by omega) (by omega) rfl rfl rfl rfl rfl (pE _) rfl (by omega) (by simp only [maxLen]; omega) rfl rfl rfl hrep) ?_ | refine wg rfl (sL hrl) ?_ | refine wv ?_ | refine wg rfl sB ?_ | refine wz ?_)
   refine wJ (fun i:Nat=>[jV 0 (vQs (wQ A0)),jV 2 (vQs (wQ B)),jO 12 2 89 4 (((wQ Z).map wH).take i++List.replicate (((wQ Z).map wH).length - i) q0),jI 56 (k+1),jI 58 i])
    (fun i=>i≤k+1) (fun i=>k+1 - i) 0 (fun _=>rfl) (pH _) ⟨rfl,rfl,⟨_,rfl⟩,rfl,rfl,trivial⟩ fun i hI=>?_
   rcases pG i (k+1) with hi | hi
   ·have hgz:((wQ Z).map wH)[i]? = some (wH (qn 0)):=by
     rw [wFC (wOG (l:=Z) (by omega)),hZ0]
    have hset:=v7 ((wQ Z).map wH) q0 i _ hgz; have hown:(((wQ Z).map wH).take i++List.replicate (((wQ Z).map wH).length - i) q0)[i]? = some q0:=by
     rw [mI (by rw [pM]; omega),mU,if_pos (by rw [pM]; omega)]
    have hlen:i<(((wQ Z).map wH).take i++List.replicate (((wQ Z).map wH).length - i) q0).length:=by rw [pW,pM,mP]; omega
    generalize ((wQ Z).map wH).take i++List.replicate (((wQ Z).map wH).length - i) q0=row at *; unfold q0 at hown
    unfold nR at q1; rw [show ((0:Nat):Rat)=0 from rfl] at q1
    generalize qn 0=qz at *
    repeat (first | refine wc q1 ?_ | refine wg rfl (sO i hlen) ?_ | refine wg rfl (sS hown (he:=by exact hset)) ?_ | refine wv ?_ | refine wg rfl cT ?_ | refine wg rfl sB ?_ | refine wz ?_)
    exact ⟨i+1,hi,by omega,rfl,rfl,⟨_,rfl⟩,rfl,rfl,trivial⟩
   ·have hie:i=k+1:=by omega
    subst hie; have hfull:((wQ Z).map wH).take (k+1)++List.replicate (((wQ Z).map wH).length - (k+1)) q0=(wQ Z).map wH:=by
     rw [pN (by omega),hZm,dV]
     simp
    rw [hfull]
    repeat (first | refine wg rfl cF ?_ | refine wz ?_)
    exact ⟨Z,⟨hZ0,by omega,fun _=>by omega⟩,rfl,rfl,⟨_,rfl⟩,trivial⟩
  ·rw [decide_eq_false (show ¬ ((B.length:Nat):Int)≤(A0.length:Nat) by omega)]
   repeat refine wz ?_
   exact ⟨[],⟨fun _=>rfl,pH _,fun h=>absurd h hge⟩,rfl,rfl,⟨_,rfl⟩,trivial⟩
 ·show VW _ _ _ _ _ _
  obtain ⟨hZ0,hZl,hZk⟩:=hZ; have hA0k:∀ e∈(wQ A0).map wH,e.length=4:=qrow_k
  have happ:([]:List (List V))++(wQ A0).map wH=(wQ A0).map wH:=rfl
  repeat (first | refine wf rfl rfl (z7 (id:=7002) (es2:=(wQ A0).map wH) (m:=4) (bb:=64) wG rfl rfl rfl rfl rfl rfl rfl rfl rfl rfl rfl hA0k rfl (by show 0+_≤maxLen; simp only [maxLen]; omega) (by show (0+_)*64≤_; omega) rfl rfl happ) ?_ | refine wv ?_ | refine wz ?_)
  refine vw_namePre 0 200 rfl rfl fun u hu=>?_
  rw [lAm] at hu; have hfull:A0.take A0.length=A0:=pN (pE _)
  clear lAm happ hA0k; refine wJ (fun b:Nat × List Rat × List Rat × List Rat × Nat × Value=>[jV 0 (.raw b.2.2.2.2.2),jV 2 (vQs (wQ B)),jO 12 1 89 4 ((wQ b.2.2.1).map wH),(401,some (.fam 89 4 [(u,(wQ b.2.2.2.1).map wH)]))])
   (fun b=>wOB b.1 b.2.1 (b.2.2.2.1.take b.2.2.2.2.1) B=F∧b.2.2.2.2.1<b.1∧w8 (b.2.2.2.1.take b.2.2.2.2.1)=b.2.2.2.1.take b.2.2.2.2.1∧b.2.1.length≤25∧(∀ i,okB (1402*K+104) (atR b.2.1 i))∧(∀ i,i+B.length≤b.2.2.2.2.1→atR b.2.1 i=0)∧b.2.2.2.2.1≤b.2.2.2.1.length∧yL u b.2.2.2.2.2 b.2.2.2.2.1∧(∀ i,atR b.2.2.1 i=atR b.2.1 i)∧b.2.2.1.length≤25∧(B.length≤b.2.2.2.2.1→b.2.2.2.2.1 - B.length<b.2.2.1.length)∧∃ s,s+b.2.2.2.2.1≤25∧wL0 (b.2.2.2.1.take b.2.2.2.2.1) (26*K+1+s*(26*K+2)) (25*K+1+s*(26*K+2))) (fun b=>b.1) (A0.length+1,[],Z,A0,A0.length,u) (fun _=>rfl)
   ⟨by rw [hfull]; exact hF,bN _,by rw [hfull]; exact nA,pH _,fun i=>wA8 _ (by omega),fun i _=>rfl,pE _,hu,hZ0,hZl,hZk,0,by dsimp only; omega,by rw [hfull]; exact zA.mono (by omega) (by omega)⟩ ⟨rfl,rfl,⟨_,rfl⟩,rfl,trivial⟩ fun ⟨fuel,q,Qs,R,m,u'⟩ hI=>?_
  obtain ⟨i1,i2,i3,i4,i5,i6,i7,i8,i9,i10,i11,s,i12,i13⟩:=hI; dsimp only at i1 i2 i3 i4 i5 i6 i7 i8 i9 i10 i11 i12 i13 ⊢
  have lRm:=wFB R; have lQm:=wFB Qs
  have hs2:s*(26*K+2)≤25*(26*K+2):=mC _ (by omega)
  have hAl:(R.take m).length=m:=by rw [pM]; omega
  cases fuel with
  | zero=>omega
  | succ fuel =>
  have e1:wOB (fuel+1) q (R.take m) B=if B.length≤(R.take m).length then wOB fuel (yK q (R.take m) B) (vP (R.take m) B) B else (q,R.take m):=rfl
  rw [e1,hAl] at i1; rcases pG m B.length with hlt | hge
  ·rw [if_neg (by omega)] at i1
   have oA:=i13.mem (K:=702*K+60) (by omega) (by omega)
   have oQ:∀ x∈Qs,okB (1402*K+104) x:=wJB fun i=>by rw [i9]; exact i5 i
   have q8:=qBI (wQ Qs) (zK oQ (by omega) (by omega)).q (by rw [jW]; omega)
   have q9:=qBI (wQ (R.take m)) (zK oA (by omega) (by omega)).q (by rw [jW]; omega)
   rw [take_qsOf] at q8 q9; rw [i3] at q9
   rw [wTF i9] at q8; have hft:((wQ R).map wH).take m=(wQ (R.take m)).map wH:=wZD R m
   have hml:m≤((wQ R).map wH).length:=by rw [lRm]; exact i7
   rw [← i1]; rw [show pn (q,R.take m).1=wQ (w8 q) from rfl]
   dsimp only; clear i1 i3 i5 i6 i9 i13 oA oQ e1 hF zA zB mA mB
   generalize wQ (w8 q)=q' at *
   repeat (first | refine wg rfl (wU2 wG rfl rfl rfl rfl rfl rfl i8 rfl) ?_ | refine wg rfl (sL lBm) ?_ | refine vw_frzPreR 21 0 200 rfl rfl i8 hml hft ?_ | refine wh q8 ?_ | refine wc q9 ?_ | refine wv ?_ | refine wg rfl cF ?_ | refine wz ?_)
   exact ⟨.inl rfl,_,rfl,rfl⟩
  ·rw [if_pos hge] at i1
   obtain ⟨k,hk⟩:∃ k,m - B.length=k:=⟨_,rfl⟩; have oA:=i13.mem (K:=702*K+60) (by omega) (by omega)
   have hc:=qF4 (A:=R.take m) i13 zB hBt; have hc2:okB (1402*K+200) (zD (R.take m) B):=hc.mono (by omega)
   obtain ⟨x,hx⟩:=gE (l:=(R.take m)) (i:=m - 1) (by omega)
   obtain ⟨y,hy⟩:=gE (l:=B) (i:=B.length - 1) (by omega)
   have hxR:R[m - 1]? = some x:=by
    rw [pZ] at hx
    split at hx
    ·exact hx
    ·cases hx
   have hy0:y≠0:=by rw [← kG hy]; exact hBt
   have q5:=rquoP_v (qn x) (qn y) (wA7 (oA x (pD hx)) (by omega)) (wA7 (mB y (pD hy)) (by omega)) (by rw [wN]; exact hy0)
   rw [wN,wN] at q5; have ec:x / y=zD (R.take m) B:=by unfold zD; rw [hAl,kG hx,kG hy]
   rw [ec] at q5; have g1:=wFC hxR
   have g2:=wFC hy; have hQk:k<Qs.length:=by rw [← hk]; exact i11 hge
   have g3:=wFC (wOG hQk); have hAt:=qF7 (A:=R.take m) (by omega) hBt (by omega)
   have hzA:=qF6 (A:=R.take m) i13 zB hBt; have hqn:∀ i,okB (1402*K+104) (atR (yK q (R.take m) B) i):=fun i=>by
    rw [wGG,hAl]
    by_cases hik:i=m - B.length
    ·rw [if_pos hik,i6 i (by omega),pF1]
     exact hc.mono (by omega)
    ·rw [if_neg hik,bZ]
     exact i5 i
   have hqz:∀ i,i+B.length≤(vP (R.take m) B).length→atR (yK q (R.take m) B) i=0:=fun i hi=>by
    have hne:¬ i=m - B.length:=by omega
    have hle:i+B.length≤m:=by omega
    rw [wGG,hAl,if_neg hne,i6 i hle,bZ]
   have hql:(yK q (R.take m) B).length≤25:=by
    unfold yK; rw [qN]
    refine wC6 fun i hi=>?_
    rw [wT5,zU (by omega),jH,hAl,wQJ,if_neg (by omega),zU (by show 1≤_; omega),bZ]
   have hs1:(s+1)*(26*K+2)=s*(26*K+2)+(26*K+2):=cR ..; have hfin:=hzA.mono (La':=26*K+1+(s+1)*(26*K+2)) (Ld':=25*K+1+(s+1)*(26*K+2)) (by omega) (by omega)
   have hokA:=hzA.ok (K:=728*K+100) (by omega) (by omega)
   have hqs:∀ i,atR (Qs.set k (zD (R.take m) B)) i=atR (yK q (R.take m) B) i:=fun i=>by
    rw [atR_set hQk,wGG,hAl,hk]
    by_cases hik:i=k
    ·rw [if_pos hik,if_pos hik,i6 i (by omega),pF1]
    ·rw [if_neg hik,if_neg hik,i9,bZ]
   have hplace:=fun R' h=>qF5 (R:=R) (R':=R') (B:=B) i7 hge h
   have hAR:∀ t,t<m→okB (702*K+60) (atR R t):=fun t ht=>by
    have:=i13.ok (K:=702*K+60) (by omega) (by omega) t
    rw [wXB,if_pos ht] at this; exact this
   have hQset:=qG7 Qs k (zD (R.take m) B); obtain ⟨Qs2,hQs2⟩:∃ Z,Qs.set k (zD (R.take m) B)=Z:=⟨_,rfl⟩
   have hQl:Qs2.length=Qs.length:=by rw [← hQs2,gB]
   rw [hQs2] at hqs hQset; generalize vP (R.take m) B=A' at *
   generalize yK q (R.take m) B=q' at *; generalize zD (R.take m) B=c at *
   unfold nR at q5; have hQi:k<((wQ Qs).map wH).length:=by rw [lQm]; exact hQk
   generalize (wQ Qs).map wH=Qrow at *; generalize qn (atR Qs k)=qz at *
   obtain ⟨C,hC⟩:∃ C,qn c=C:=⟨_,rfl⟩; have hk1:([(u,(wQ R).map wH)]:List (Value × List (List V)))[0]? = some (u,(wQ R).map wH):=rfl
   clear e1 i5 i6 i9 i11 i13 hx hy ec hxR oA hF zA hc hzA; have hcx:wI C=c:=by rw [← hC,wN]
   rw [hC] at q5 hQset; obtain ⟨cx,hcx'⟩:∃ cx,qn x=cx:=⟨_,rfl⟩
   obtain ⟨cy,hcy'⟩:∃ cx,qn y=cx:=⟨_,rfl⟩; rw [hcx'] at q5 g1
   rw [hcy'] at q5 g2; clear hcx' hcy'
   obtain ⟨⟨x1,l1⟩,⟨x2,l2⟩⟩:=cx; obtain ⟨⟨y1,n1⟩,⟨y2,n2⟩⟩:=cy
   obtain ⟨⟨c1,c2⟩,⟨c3,c4⟩⟩:=C
   repeat (first | refine wg rfl (wU2 wG rfl rfl rfl rfl rfl rfl i8 rfl) ?_ | refine wg rfl (sL lBm) ?_ | refine wg rfl (sN k) ?_ | refine wg rfl (sN (m - 1)) ?_ | refine wg rfl (sN (B.length - 1)) ?_ | refine wg rfl (wZ9 (i:=m - 1) wG rfl rfl rfl rfl rfl rfl i8 (by omega) rfl) ?_ | refine wg rfl (sX (B.length - 1) g2) ?_ | refine wg rfl (wGJ wG (j:=200) rfl rfl rfl hk1 g1 rfl rfl (pE _) rfl rfl) ?_ | refine wc q5 ?_ | refine wg rfl (sO k hQi) ?_ | refine wg rfl (sS g3 (he:=by exact hQset)) ?_ | refine wl ?_ | refine wv ?_ | refine wg rfl cT ?_ | refine wz ?_)
   refine wJ (fun b:Nat × List Rat=>[jV 0 (.raw u'),jV 2 (vQs (wQ B)),jO 12 1 89 4 ((wQ Qs2).map wH),(401,some (.fam 89 4 [(u,(wQ b.2).map wH)])),jI 16 k,jB 18 9,jC 19 [.v (.bool c1),.v (vL c2),.v (.bool c3),.v (vL c4)],jV 138 (vQs (wQ B)),jI 140 (B.length),jI 142 (b.1)])
    (fun b=>b.1≤B.length∧b.2.length=R.length∧∀ t,atR b.2 t=if k≤t∧t<k+b.1 then atR R t - c*atR B (t - k) else atR R t) (fun b=>B.length - b.1) (0,R) (fun _=>rfl) ⟨pH _,rfl,fun t=>by dsimp only; rw [if_neg (by omega)]⟩ ⟨rfl,rfl,⟨_,rfl⟩,rfl,rfl,rfl,rfl,rfl,rfl,rfl,trivial⟩ fun ⟨i,R'⟩ hJ=>?_
   obtain ⟨j1,j2,j3⟩:=hJ; dsimp only at j1 j2 j3 ⊢
   rcases pG i B.length with hi | hi
   ·obtain ⟨yi,hyi⟩:=gE hi
    have hyo:=mB yi (pD hyi); have f1:=wFC hyi
    have hRk:k+i<R'.length:=by omega
    have e0:atR R' (k+i)=atR R (k+i):=by rw [j3,if_neg (by omega)]
    have q6:=rmulP_v ((c1,c2),(c3,c4)) (qn yi) (by rw [← hC]; exact wA7 hc2 (by omega)) (wA7 hyo (by omega))
    rw [wN,hcx] at q6; have hp:=wSG hc2 hyo
    have q7:=rsubP_v (qn (atR R' (k+i))) (qn (c*yi)) (wA7 (by rw [e0]; exact hAR _ (by omega)) (by omega)) (wA7 hp (by omega))
    rw [wN,wN] at q7; have f2:=wFC (wOG hRk)
    have hset:=qG7 R' (k+i) (atR R' (k+i) - c*yi); have hnew:∀ t,atR (R'.set (k+i) (atR R' (k+i) - c*yi)) t=if k≤t∧t<k+(i+1) then atR R t - c*atR B (t - k) else atR R t:=fun t=>by
     rw [atR_set hRk]
     by_cases ht:t=k+i
     ·have e3:t - k=i:=by omega
      rw [if_pos ht,if_pos (by omega),e3,kG hyi,e0,ht]
     ·rw [if_neg ht,j3]
      by_cases h2:k≤t∧t<k+i
      ·rw [if_pos h2,if_pos (by omega)]
      ·rw [if_neg h2,if_neg (by omega)]
    have hlen:(R'.set (k+i) (atR R' (k+i) - c*yi)).length=R.length:=by rw [gB]; exact j2
    generalize R'.set (k+i) (atR R' (k+i) - c*yi)=R2 at *; unfold nR at q6 q7
    have hk2:([(u,(wQ R').map wH)]:List (Value × List (List V)))[0]? = some (u,(wQ R').map wH):=rfl; have hL:([(u,(wQ R').map wH)]:List (Value × List (List V))).set 0 (u,((wQ R').map wH).set (k+i) (wH (qn (atR R' (k+i) - c*yi))))=[(u,(wQ R2).map wH)]:=by rw [hset]; rfl
    generalize (wQ R').map wH=rows at *; generalize qn (atR R' (k+i) - c*yi)=z at *
    generalize qn (atR R' (k+i))=z0 at *; generalize qn (c*yi)=z1 at *
    generalize qn yi=zy at *; clear j3 hAR hqs hqn hqz hql hplace hokA hfin hset hC hcx hc2 hp hyo e0 i3 i10 q5 g1 g2 g3 hQset
    obtain ⟨⟨x1,l1⟩,⟨x2,l2⟩⟩:=z1; obtain ⟨⟨y1,n1⟩,⟨y2,n2⟩⟩:=zy
    obtain ⟨⟨w1,o1⟩,⟨w2,o2⟩⟩:=z0
    repeat (first | refine wg rfl (sX i f1) ?_ | refine wg rfl (sN (k+i)) ?_ | refine wg rfl (wZ9 (i:=k+i) wG rfl rfl rfl rfl rfl rfl i8 (by omega) rfl) ?_ | refine wg rfl (wGJ wG (j:=200) rfl rfl rfl hk2 f2 rfl rfl (pE _) rfl rfl) ?_ | refine wc q6 ?_ | refine wc q7 ?_ | refine wg rfl (kM wG (j:=200) rfl rfl rfl hk2 f2 rfl rfl rfl rfl (pE _) rfl hL) ?_ | refine wl ?_ | refine wv ?_ | refine wg rfl cT ?_ | refine wg rfl sB ?_ | refine wz ?_)
    exact ⟨(i+1,R2),⟨hi,hlen,hnew⟩,by dsimp only; omega,rfl,rfl,⟨_,rfl⟩,rfl,rfl,rfl,rfl,rfl,rfl,rfl,trivial⟩
   ·have hie:i=B.length:=by omega
    subst hie; have hA2:=hplace R' (fun t=>by
     rw [j3,hk]
     by_cases h2:k≤t∧t<m
     ·rw [if_pos (by omega),if_pos h2]
     ·rw [if_neg (by omega),if_neg h2])
    obtain ⟨N,hN⟩:∃ N,wV (R'.take m)=N:=⟨_,rfl⟩; have hml:(R'.take m).length=m:=by rw [pM]; omega
    have hNm:N≤m:=by have:=kS (R'.take m); omega
    have hRN:R'.take N=A':=by
     rw [← hA2]; unfold w8
     rw [hN,fH,cM hNm]
    have hAN:A'.length=N:=by rw [← hRN,pM]; omega
    have oT:∀ x∈R'.take m,okB (728*K+100) x:=wJB fun i=>by rw [← jH,hA2]; exact hokA i
    have hcall:=trim_p (wQ (R'.take m)) (zK oT (by omega) (by omega)).q (by rw [jW]; omega)
    rw [zQ,hN] at hcall; have hft:((wQ R').map wH).take m=(wQ (R'.take m)).map wH:=wZD R' m
    have hml':m≤((wQ R').map wH).length:=by rw [wFB]; omega
    have hpre:=i8.pre hNm; have htr:w8 A'=A':=by rw [← hA2,xT]
    clear j3 hAR hplace q5 g1 g2 g3 hQset hc2 hcx hC oT hokA
    repeat (first | refine wg rfl (qFE (j:=200) (i:=0) wG rfl rfl rfl rfl rfl rfl rfl rfl i8 hml' hft hcall hNm rfl rfl rfl) ?_ | refine wv ?_ | refine wg rfl cF ?_ | refine wz ?_)
    exact ⟨(fuel,q',Qs2,R',N,preV u' N),⟨by dsimp only; rw [hRN]; exact i1,by dsimp only; omega,by dsimp only; rw [hRN]; exact htr,hql,hqn,by dsimp only; rw [← hAN]; exact hqz,by dsimp only; omega,hpre,hqs,by dsimp only; omega,by dsimp only; omega,s+1,by dsimp only; omega,by dsimp only; rw [hRN]; exact hfin⟩,bN _,rfl,rfl,⟨_,rfl⟩,rfl,trivial⟩
end Go.Proofs.YtkjhfnhgefbhhaaGreat
/- qpoly.divides, norms, Divides of the program, told of trees. ALLOC -/
namespace Go.Proofs.YtkjhfnhgefbhhaaGreat
open Go.RowKit Go.Ev Go.Vl
theorem dividesP_v (A B:List Rat) (K:Nat) (hK1:1≤K) (hK:K≤2097152) (mA:∀ x∈A,okB K x) (mB:∀ x∈B,okB K x) (nA:w8 A=A) (nB:w8 B=B) (hA0:0<A.length) (hA:A.length≤25) (hB:B.length≤25) (F:List Rat × List Rat) (hF:wOB (B.length+1) [] B A=F) :
  wD Tryz.prog 135 [vQs (wQ A),vQs (wQ B)] (fun y=>y=.bool (decide (F.2.length=0))):=by
 refine wC wG Tryz.func135 rfl rfl rfl rfl fun w0=>?_
 have q1:=divP_v B A K hK1 hK mB mA nB nA hB hA0 hA F hF; have fin:∀ {p:Prop} [Decidable p],¬ p→V.bool false=V.bool (decide p):=fun h=>by rw [decide_eq_false h]
 have fit:∀ {p:Prop} [Decidable p],p→V.bool true=V.bool (decide p):=fun h=>by rw [decide_eq_true h]
 have e:=wFB F.2; have eA:=wFB A
 clear hF mA mB nA nB; obtain ⟨F1,F2⟩:=F
 dsimp only at q1 e ⊢
 by_cases h0:F2.length=0
 ·repeat (first | refine wg rfl (sL e) ?_ | refine wg rfl (sL eA) ?_ | refine wc q1 ?_ | refine wv ?_ | refine wg rfl cT ?_ | refine wg rfl cF ?_ | refine wz ?_)
  exact ⟨.inl rfl,_,rfl,fit h0⟩
 ·repeat (first | refine wg rfl (sL e) ?_ | refine wg rfl (sL eA) ?_ | refine wc q1 ?_ | refine wv ?_ | refine wg rfl cF ?_ | refine wz ?_)
  exact ⟨.inl rfl,_,rfl,fin h0⟩
theorem divc_v (a b:List QQ) (r:Bool) (hr:wD Tryz.prog 135 [vQs a,vQs b] (fun y=>y=.bool r)):wD Tryz.prog 134 [vPs [a,b]] (fun y=>y=.tup [.bool r,.int .i64 0]):=by
 refine wC wG Tryz.func134 rfl rfl rfl rfl fun w0=>?_
 unfold vPs; have hg0:=j9 [a,b] 0 a rfl
 have hg1:=j9 [a,b] 1 b rfl; generalize qU [a,b]=L at *
 repeat (first | refine wv ?_ | refine wg rfl (sX 0 hg0) ?_ | refine wg rfl (sX 1 hg1) ?_ | refine wc hr ?_ | refine wz ?_)
 exact ⟨.inl rfl,_,rfl,rfl⟩
def pnQ (p:List QQ):List QQ:=pn (wF p)
theorem wZ2 (t:List (List QQ)) (r:List QQ):qU t++[[vQs r]]=qU (t++[r]):=by unfold qU; simp
theorem normsB_v (g:FuncId) (fn:Func) (hfn:zV.fns.get g=some fn) (ps:List (List QQ)) (r:Bool) (h:∀ p∈ps,(∀ q∈p,okS q)∧p.length≤68719476736) (hl:ps.length≤1048576) (hg:wD Tryz.prog g [vPs (ps.map pnQ)] (fun y=>y=.tup [.bool r,.int .i64 0])) :
  wD Tryz.prog 133 [vPs ps,.clo g [] []] (fun y=>y=.tup [.bool r,.int .i64 0]):=by
 refine wC wG Tryz.func133 rfl rfl rfl rfl fun w0=>?_
 repeat (first | refine wg rfl (sL (kR ps)) ?_ | refine wv ?_ | refine wz ?_)
 refine zR (d:=7) (id:=1) (k:=1) (T:=65) rfl rfl rfl rfl ?_
 refine wJ (fun j:Nat=>[jV 2 (.clo g [] []),jV 8 (.bool false),jV 10 (.int .i64 0),jO 14 1 65 1 (qU ((ps.take j).map pnQ)),jV 24 (vPs ps),jI 26 (ps.length),jI 28 j])
  (fun j=>j≤ps.length) (fun j=>ps.length - j) 0 (fun _=>rfl) (pH _) ⟨rfl,rfl,rfl,⟨_,rfl⟩,rfl,rfl,rfl,trivial⟩ fun j hJ=>?_
 rcases pG j ps.length with hj | hj
 ·obtain ⟨p,hp⟩:=gE hj
  have hgp:=j9 ps j p hp; obtain ⟨o1,o2⟩:=h p (pD hp)
  have q1:=wV2 p o1 o2; rw [show pn (wF p)=pnQ p from rfl] at q1
  have hs:qU ((ps.take j).map pnQ)++[[vQs (pnQ p)]]=qU ((ps.take (j+1)).map pnQ):=by
   rw [wZ2,mO,hp]
   simp
  have hlen:(qU ((ps.take j).map pnQ)).length=j:=by rw [kR,pF,pM]; omega
  generalize pnQ p=c at *; have wB2:∀ e∈[[vQs c]],e.length=1:=fun e h=>by rw [pL.1 h]; rfl
  clear hg h o1
  repeat (first | refine wv ?_ | refine wg rfl (sX j hgp) ?_ | refine wc q1 ?_ | refine wf rfl rfl (sA 7002 [[vQs c]] 1 24 wB2 hs) ?_ | refine wg rfl cT ?_ | refine wg rfl nF ?_ | refine wg rfl sB ?_ | refine wz ?_)
  exact ⟨j+1,hj,by omega,rfl,rfl,rfl,⟨_,rfl⟩,rfl,rfl,rfl,trivial⟩
 ·have hje:j=ps.length:=by omega
  subst hje; rw [mH]
  repeat (first | refine wv ?_ | refine wg rfl cF ?_ | refine wMD wG rfl rfl rfl rfl rfl rfl rfl hfn rfl hg rfl rfl ?_ | refine wz ?_)
  exact ⟨.inl rfl,_,rfl,rfl⟩
theorem qE1 (ps qs:List QQ) (K:Nat) (hK1:1≤K) (hK:K≤2097152) (h:zP K ps) (h':zP K qs) (hp0:0<wV (wF ps)) (hp:wV (wF ps)≤25) (hq:wV (wF qs)≤25) :
  wD Tryz.prog 80 [vQs ps,vQs qs] (fun y=>y=.tup [.bool (wO9 (wF ps) (wF qs)),.int .i64 0]):=by
 refine wC wG Tryz.func80 rfl rfl rfl rfl fun w0=>?_
 have lA:=qN (wF ps); have lB:=qN (wF qs)
 have q1:=dividesP_v (w8 (wF ps)) (w8 (wF qs)) K hK1 hK (fun x hx=>by
  obtain ⟨q,hq,rfl⟩:=pJ.1 (xU hx); exact (h.1 q hq).2) (fun x hx=>by
  obtain ⟨q,hq,rfl⟩:=pJ.1 (xU hx); exact (h'.1 q hq).2) (xT _) (xT _) (by omega) (by omega) (by omega) _ rfl
 rw [lB] at q1; rw [show decide ((wOB (wV (wF qs)+1) [] (w8 (wF qs)) (w8 (wF ps))).2.length=0)=wO9 (wF ps) (wF qs) from rfl] at q1
 have q2:=divc_v (pnQ ps) (pnQ qs) _ q1; have q3:=normsB_v 134 Tryz.f134 rfl [ps,qs] _ (fun p hp=>by
  rcases pQ.1 hp with rfl | hp
  ·exact ⟨fun q hq=>(h.1 q hq).1,by have:=h.2; omega⟩
  ·rw [pL.1 hp]
   exact ⟨fun q hq=>(h'.1 q hq).1,by have:=h'.2; omega⟩) (by show 2≤_; decide) q2
 clear q1 q2 lA lB h h' hp0 hp hq; generalize wO9 (wF ps) (wF qs)=r at *
 repeat (first | refine wv ?_ | refine wh q3 ?_ | refine wz ?_)
 exact ⟨.inl rfl,_,rfl,rfl⟩
end Go.Proofs.YtkjhfnhgefbhhaaGreat
/- verify.chain of the program, told of trees. ALLOC -/
namespace Go.Proofs.YtkjhfnhgefbhhaaGreat
open Go.RowKit Go.Ev Go.Vl
def prevR (l:List (List Rat)):Nat→Option (List Rat)
 | 0=>none
 | j+1=>l[j]?
theorem rat_one (x:Rat):cmpI x.num (x.den:Int)=0↔x=1:=by
 have h:=wT4 x.num (x.den:Int)
 constructor
 ·intro e
  have e2:x.num=(x.den:Int):=by omega
  have:=cU x; rw [e2,Rat.divInt_self' (by have:=x.den_nz; omega)] at this
  exact this.symm
 ·rintro rfl
  decide
theorem pn_at {l:List Rat} {i:Nat} {x:Rat} (h:l[i]? = some x) (hi:i<wV l):((pn l).map wH)[i]? = some (wH (qn x)):=by
 unfold pn w8; rw [pI,pI,pZ,if_pos hi,h]
 rfl
theorem chainP_v (ps:List (List QQ)) (K n:Nat) (hn:n≤24) (hK1:1≤K) (hK:K≤2097152) (h:∀ p∈ps,zP K p) (hl:ps.length≤1048576) :
  wD Tryz.prog 37 [.int .i64 (n:Nat),vPs ps] (fun y=>y=.bool (yA n 0 none (qX ps))):=by
 refine wC wG Tryz.func37 rfl rfl rfl rfl fun w0=>?_
 have fin:∀ {p:Prop} [Decidable p],¬ p→V.bool false=V.bool (decide p):=fun h=>by rw [decide_eq_false h]
 have fit:∀ {p:Prop} [Decidable p],p→V.bool true=V.bool (decide p):=fun h=>by rw [decide_eq_true h]
 repeat (first | refine wg rfl (sL (kR ps)) ?_ | refine wv ?_ | refine wz ?_)
 refine wJ (fun b:Nat × Nat=>[jI 0 n,jV 2 (vPs ps),jI 10 (b.2),jV 20 (vPs ps),jI 22 (ps.length),jI 24 (b.1)])
  (fun b=>b.1≤ps.length∧b.2≤n∧yA n b.2 (prevR (qX ps) b.1) ((qX ps).drop b.1)=yA n 0 none (qX ps)∧∀ i p,i<b.1→ps[i]? = some p→0<wV (wF p)∧wV (wF p)≤25) (fun b=>ps.length - b.1) (0,0) (fun _=>rfl) ⟨pH _,pH _,rfl,fun i p hi=>absurd hi (pG1 _)⟩ ⟨rfl,rfl,rfl,rfl,rfl,rfl,trivial⟩ fun ⟨j,s⟩ hI=>?_
 obtain ⟨i1,i2,i3,i4⟩:=hI; dsimp only at i1 i2 i3 i4 ⊢
 rcases pG j ps.length with hj | hj
 ·obtain ⟨p,hp⟩:=gE hj
  have hg:=j9 ps j p hp; have hpo:=h p (pD hp)
  have q1:=wV2 p (fun q hq=>(hpo.1 q hq).1) (by have:=hpo.2; omega)
  have hpp:=wDI hp; rw [zZ _ j _ hpp] at i3
  have hlr:=kS (wF p); rw [kN] at hlr
  have hl2:=hpo.2; have hRl:((pn (wF p)).map wH).length=wV (wF p):=by rw [pF,wQ1]
  have e1:yA n s (prevR (qX ps) j) (wF p :: (qX ps).drop (j+1))=if wV (wF p)≤1 then false else if atR (wF p) (wV (wF p) - 1)≠1 then false else if n<s+(wV (wF p) - 1) then false else (match prevR (qX ps) j with | none=>true | some p'=>wO9 p' (wF p)) && yA n (s+(wV (wF p) - 1)) (some (wF p)) ((qX ps).drop (j+1)):=rfl
  rw [e1] at i3; clear e1
  rcases pG 1 (wV (wF p)) with hd | hd
  ·rw [if_neg (by omega)] at i3
   obtain ⟨m,hm⟩:∃ m,wV (wF p)=m+2:=⟨wV (wF p) - 2,by omega⟩
   have hle':=kS (wF p); obtain ⟨x,hx⟩:=gE (l:=(wF p)) (i:=m+1) (by omega)
   have hxB:okB K x:=by
    obtain ⟨q,hq,rfl⟩:=pJ.1 (pD hx); exact (hpo.1 q hq).2
   have q2:=zcmp_v (qn x).1 (qn x).2 (wA7 hxB (by omega)).ok.1 (wA7 hxB (by omega)).ok.2
   rw [show intOf (qn x).1=x.num from wE _,show intOf (qn x).2=(x.den:Int) from wE _] at q2; have hx1:=rat_one x
   have hcx:=wT4 x.num (x.den:Int); have hg2:=pn_at hx (by omega)
   rw [hm,show m+2 - 1=m+1 from rfl,kG hx] at i3; rw [hm] at hRl
   generalize cmpI x.num (x.den:Int)=sg at *
   by_cases hx2:x=1
   ·have h4:sg=0:=hx1.2 hx2
    rw [if_neg (fun k=>k hx2)] at i3
    clear hx1 hcx hxB hx; rcases pG n (s+(m+1)) with hs | hs
    ·rw [if_pos hs] at i3
     clear h hpo i4; generalize pn (wF p)=R at *
     generalize qn x=cx at *; obtain ⟨⟨v1,v2⟩,⟨v3,v4⟩⟩:=cx
     repeat (first | refine wg rfl (sL hRl) ?_ | refine wg rfl (sX j hg) ?_ | refine wg rfl (sX (m+1) hg2) ?_ | refine wg rfl (sN (m+1)) ?_ | refine wg rfl (sN (s+(m+1))) ?_ | refine wc q1 ?_ | refine wc q2 ?_ | refine wv ?_ | refine wg rfl cT ?_ | refine wg rfl cF ?_ | refine wg rfl nF ?_ | refine wz ?_)
     refine ⟨.inl rfl,_,rfl,?_⟩
     rw [← i3]
    ·rw [if_neg (by omega)] at i3
     have hnew:∀ i p',i<j+1→ps[i]? = some p'→0<wV (wF p')∧wV (wF p')≤25:=fun i p' hi hp'=>by
      rcases pG i j with hi2 | hi2
      ·exact i4 i p' hi2 hp'
      ·obtain rfl:i=j:=by omega
       rw [hp] at hp'; cases hp'
       omega
     have hpo2:zP K (pn (wF p)):=wH4 (fun y hy=>by
      obtain ⟨q,hq,rfl⟩:=pJ.1 hy; exact (hpo.1 q hq).2) (by omega) (by rw [kN]; exact hl2)
     cases j with
     | zero =>
      have i5:yA n (s+(m+1)) (some (wF p)) ((qX ps).drop 1)=yA n 0 none (qX ps):=i3; rw [← hpp] at i5
      clear h hpo i4 hpo2 i3; generalize pn (wF p)=R at *
      generalize qn x=cx at *; obtain ⟨⟨v1,v2⟩,⟨v3,v4⟩⟩:=cx
      repeat (first | refine wg rfl (sL hRl) ?_ | refine wg rfl (sX 0 hg) ?_ | refine wg rfl (sX (m+1) hg2) ?_ | refine wg rfl (sN (m+1)) ?_ | refine wg rfl (sN (s+(m+1))) ?_ | refine wc q1 ?_ | refine wc q2 ?_ | refine wv ?_ | refine wg rfl cT ?_ | refine wg rfl cF ?_ | refine wg rfl nF ?_ | refine wg rfl sB ?_ | refine wz ?_)
      exact ⟨(1,s+(m+1)),⟨hj,hs,i5,hnew⟩,by dsimp only; omega,rfl,rfl,rfl,rfl,rfl,rfl,trivial⟩
     | succ j' =>
      obtain ⟨p',hp'⟩:=gE (l:=ps) (i:=j') (by omega)
      have hg3:=j9 ps j' p' hp'; obtain ⟨a1,a2⟩:=i4 j' p' (by omega) hp'
      have q3:=qE1 p' (pn (wF p)) K hK1 hK (h p' (pD hp')) hpo2 a1 a2 (by rw [wDH,wQ7]; omega)
      have ed:wO9 (wF p') (wF (pn (wF p)))=wO9 (wF p') (wF p):=by
       unfold wO9; rw [wDH,wQ7,xT]
      rw [ed] at q3; have i5:(wO9 (wF p') (wF p) && yA n (s+(m+1)) (some (wF p)) ((qX ps).drop (j'+1+1)))=yA n 0 none (qX ps):=by
       rw [← i3]; rw [show prevR (qX ps) (j'+1)=(qX ps)[j']? from rfl,wDI hp']
      rw [← hpp] at i5; clear h hpo i4 hpo2 i3 ed
      generalize wO9 (wF p') (wF p)=dv at *; generalize pn (wF p)=R at *
      generalize qn x=cx at *; obtain ⟨⟨v1,v2⟩,⟨v3,v4⟩⟩:=cx
      cases dv with
      | true =>
       rw [dU] at i5
       repeat (first | refine wg rfl (sL hRl) ?_ | refine wg rfl (sX (j'+1) hg) ?_ | refine wg rfl (sX (m+1) hg2) ?_ | refine wg rfl (sX j' hg3) ?_ | refine wg rfl (sN (m+1)) ?_ | refine wg rfl (sN (s+(m+1))) ?_ | refine wg rfl (sN j') ?_ | refine wc q1 ?_ | refine wc q2 ?_ | refine wc q3 ?_ | refine wv ?_ | refine wg rfl cT ?_ | refine wg rfl cF ?_ | refine wg rfl nF ?_ | refine wg rfl sB ?_ | refine wz ?_)
       exact ⟨(j'+1+1,s+(m+1)),⟨hj,hs,i5,hnew⟩,by dsimp only; omega,rfl,rfl,rfl,rfl,rfl,rfl,trivial⟩
      | false =>
       rw [bH] at i5
       repeat (first | refine wg rfl (sL hRl) ?_ | refine wg rfl (sX (j'+1) hg) ?_ | refine wg rfl (sX (m+1) hg2) ?_ | refine wg rfl (sX j' hg3) ?_ | refine wg rfl (sN (m+1)) ?_ | refine wg rfl (sN (s+(m+1))) ?_ | refine wg rfl (sN j') ?_ | refine wc q1 ?_ | refine wc q2 ?_ | refine wc q3 ?_ | refine wv ?_ | refine wg rfl cT ?_ | refine wg rfl cF ?_ | refine wg rfl nF ?_ | refine wz ?_)
       refine ⟨.inl rfl,_,rfl,?_⟩
       rw [← i5]
   ·have h4:sg≠0:=fun e=>hx2 (hx1.1 e)
    rw [if_pos hx2] at i3; clear hx1 hxB hx h hpo i4
    generalize pn (wF p)=R at *; generalize qn x=cx at *
    obtain ⟨⟨v1,v2⟩,⟨v3,v4⟩⟩:=cx
    repeat (first | refine wg rfl (sL hRl) ?_ | refine wg rfl (sX j hg) ?_ | refine wg rfl (sX (m+1) hg2) ?_ | refine wg rfl (sN (m+1)) ?_ | refine wc q1 ?_ | refine wc q2 ?_ | refine wv ?_ | refine wg rfl cT ?_ | refine wg rfl cF ?_ | refine wg rfl nT ?_ | refine wz ?_)
    refine ⟨.inl rfl,_,rfl,?_⟩
    rw [← i3]
  ·rw [if_pos hd] at i3
   clear h hpo i4; generalize pn (wF p)=R at *
   repeat (first | refine wg rfl (sL hRl) ?_ | refine wg rfl (sX j hg) ?_ | refine wc q1 ?_ | refine wv ?_ | refine wg rfl cT ?_ | refine kZ rfl rfl rfl rfl rfl rfl ?_ | refine wz ?_)
   refine ⟨.inl rfl,_,rfl,?_⟩
   rw [← i3]
 ·have hje:j=ps.length:=by omega
  subst hje; rw [pY (by rw [wQ0]; exact pE _)] at i3
  have e5:yA n s (prevR (qX ps) ps.length) []=decide (s=n):=rfl; rw [e5] at i3
  rw [← i3]; clear h i4
  by_cases hs:s=n
  ·repeat (first | refine wv ?_ | refine wg rfl cT ?_ | refine wg rfl cF ?_ | refine wz ?_)
   exact ⟨.inl rfl,_,rfl,fit hs⟩
  ·repeat (first | refine wv ?_ | refine wg rfl cF ?_ | refine wz ?_)
   exact ⟨.inl rfl,_,rfl,fin hs⟩
end Go.Proofs.YtkjhfnhgefbhhaaGreat
/- simileref11.Blocks told of trees. ALLOC -/
namespace Go.Proofs.YtkjhfnhgefbhhaaGreat
open Go.RowKit Go.Ev Go.Vl
def wLH (m:MM):Nat × (Nat→Nat→Rat):=(m.2.length,fun a b=>Rat.divInt (intOf (ent m.2 a b)) (intOf m.1))
def zT (ms:List MM):List (Nat × (Nat→Nat→Rat)):=ms.map wLH
theorem wX9 {ms:List MM} {j:Nat} {m:MM} (h:ms[j]? = some m):(zT ms)[j]? = some (wLH m):=by unfold zT; rw [pI,h]; rfl
theorem qB0 (ms:List MM):(zT ms).length=ms.length:=pF ..
def denP:List MM→Nat
 | []=>1
 | m :: ms=>(intOf m.1).natAbs*denP ms
theorem wWF:∀ {ms:List MM},(∀ m∈ms,intOf m.1≠0)→0<denP ms
 | [],_=>Nat.one_pos
 | m :: ms,h=>by
  have h1:=h m (pO ..); exact Nat.mul_pos (by omega) (wWF fun x hx=>h x (pT _ hx))
theorem qI2:∀ {ms:List MM} {m:MM},m∈ms→(intOf m.1).natAbs∣denP ms
 | m :: ms,m',h=>by
  rcases pQ.1 h with rfl | h
  ·exact Nat.dvd_mul_right ..
  ·exact gS (qI2 h) (Nat.dvd_mul_left ..)
theorem qE3 {K:Nat}:∀ {ms:List MM},(∀ m∈ms,lm (intOf m.1)≤K)→lm (denP ms:Int)≤ms.length*K+1
 | [],_=>by show lm 1≤_; exact pC wFI (by omega)
 | m :: ms,h=>by
  have h1:=h m (pO ..); have ih:=qE3 (K:=K) (ms:=ms) fun x hx=>h x (pT _ hx)
  have h2:=qJ ((intOf m.1).natAbs:Int) (denP ms:Int); have h3:lm ((intOf m.1).natAbs:Int)=lm (intOf m.1):=by unfold lm; rw [mS]
  have e:((denP (m :: ms):Nat):Int)=((intOf m.1).natAbs:Int)*(denP ms:Int):=by rw [show denP (m :: ms)=(intOf m.1).natAbs*denP ms from rfl,dP]
  rw [e,mG,cR]; omega
theorem wOA:∀ {ms:List MM},(∀ m∈ms,0<m.2.length)→ms.length≤dsN (zT ms)
 | [],_=>pH _
 | m :: ms,h=>by
  have h1:=h m (pO ..); have ih:=wOA (ms:=ms) fun x hx=>h x (pT _ hx)
  rw [show zT (m :: ms)=wLH m :: zT ms from rfl,xF,mG]; have e:(wLH m).1=m.2.length:=rfl
  omega
theorem ent_ok2 {m:MM} {n K:Nat} (h:sqM m n K) (a b:Nat):lm (intOf (ent m.2 a b))≤K:=by
 unfold ent; cases hr:m.2[a]? with
 | none=>rw [pK,pK,hr]; simp [lm,intOf,wB,qB]
 | some r =>
  rw [pK (l:=m.2),hr]; cases hz:r[b]? with
  | none=>rw [pK]; simp only [Option.getD_some]; rw [hz]; simp [lm,intOf,wB,qB]
  | some z =>
   rw [pK]; simp only [Option.getD_some]
   rw [hz]; have:=(h.ok.2.2.1.2 r (pD hr)).2 z (pD hz)
   exact pC (wL _ this.1) this.2
theorem qIB {ms:List MM} {K:Nat} (hK:1≤K) (h:∀ m∈ms,sqM m m.2.length K):∀ a b,(dsA 0 (zT ms) a b).den∣denP ms∧lm (dsA 0 (zT ms) a b).num≤K :=
 wT2 (fun x:Rat=>x.den∣denP ms∧lm x.num≤K) ⟨gD _,by show lm 0≤K; unfold lm; simp [qB]⟩ fun p hp a b _ _=>by
  obtain ⟨m,hm,rfl⟩:=pJ.1 hp; have hs:=h m hm
  have h0:=hs.den; exact ⟨gS (wEE _ _ h0) (qI2 hm),pC (zF _ _ h0).1 (ent_ok2 hs a b)⟩
theorem blocks11_v (ms:List MM) (K N:Nat) (hK1:1≤K) (hK:K≤1073741824) (h:∀ m∈ms,sqM m m.2.length K∧0<m.2.length) (hN:dsN (zT ms)=N) (hN0:0<N) (hN24:N≤24):wD Tryz.prog 92 [vMs ms] (fun y=>y=vM (zC (gQ N (dsA 0 (zT ms))))):=by
 refine wC wG Tryz.func92 rfl rfl rfl rfl fun w0=>?_
 have hml:ms.length≤24:=by have:=wOA fun m hm=>(h m hm).2; omega
 have hle:=wWC (zT ms)
 repeat (first | refine wg rfl (sL (wH9 ms)) ?_ | refine wl ?_ | refine wv ?_ | refine wz ?_)
 refine wJ (fun b:Nat × Nat=>[jV 0 (vMs ms),jB 4 2,jC 5 [.v (.bool false),.nils,.nils],jI 6 (b.2),jI 8 (b.2),jV 38 (vMs ms),jI 40 (ms.length),jI 42 (b.1)])
  (fun b=>b.1≤ms.length∧b.2=dsN ((zT ms).take b.1)) (fun b=>ms.length - b.1) (0,0) (fun _=>rfl) ⟨pH _,rfl⟩ ⟨rfl,rfl,rfl,rfl,rfl,rfl,rfl,rfl,trivial⟩ fun ⟨j,s⟩ hI=>?_
 obtain ⟨i1,i2⟩:=hI; dsimp only at i1 i2 ⊢
 rcases pG j ms.length with hj | hj
 ·obtain ⟨m,hm⟩:=gE hj
  have hg:=wRD ms j m hm; obtain ⟨o1,o2⟩:=h m (pD hm)
  have e1:=wED (wX9 hm); rw [← i2,show (wLH m).1=m.2.length from rfl] at e1
  have e2:=hle (j+1); have hcl:=o1.cl o2
  have q1:=wBF m.1.1 m.1.2 m.2 (by omega)
  rw [hcl] at q1; obtain ⟨n,hn⟩:∃ n,m.2.length=n:=⟨_,rfl⟩
  rw [hn] at q1 e1; obtain ⟨⟨x,l⟩,t⟩:=m
  clear h hcl
  repeat (first | refine wg rfl (sX j hg) ?_ | refine wg rfl (sN (s+n)) ?_ | refine wc q1 ?_ | refine wl ?_ | refine wv ?_ | refine wg rfl cT ?_ | refine wg rfl sB ?_ | refine wz ?_)
  exact ⟨(j+1,s+n),⟨hj,e1.symm⟩,by dsimp only; omega,rfl,rfl,rfl,rfl,rfl,rfl,rfl,rfl,trivial⟩
 have hje:j=ms.length:=by omega
 subst hje; rw [pN (by rw [qB0]; exact pE _),hN] at i2
 rw [i2]; clear i2 i1 hj
 have q4:=wO4 N N hN0 (by omega) (by omega)
 rw [wII] at q4
 repeat (first | refine wTB 8 rfl ?_ | refine wGH wG 1 200 rfl rfl rfl rfl rfl rfl rfl rfl q4 rfl rfl rfl rfl fun L0 hL0=>?_ | refine sq_v wG rfl rfl rfl rfl ?_ | refine wM9 rfl ?_ | refine wg rfl (sL (wH9 ms)) ?_ | refine wv ?_ | refine wg rfl cF ?_ | refine wz ?_)
 have hHl:(hdr L0).length=N:=by
  rw [jR]; have:=congrArg List.length hL0
  rwa [pF,wBD] at this
 obtain ⟨H,hH0⟩:∃ H,hdr L0=H:=⟨_,rfl⟩; rw [hH0] at hHl ⊢
 refine wJ (fun b:Nat × Nat × List (Value × List (List V))=>[jB 4 2,jC 5 [.v (.bool false),.nils,.nils],jO 18 1 64 1 H,(401,some (.fam 89 4 b.2.2)),jI 20 (b.2.1),jI 22 (b.2.1),jV 80 (vMs ms),jI 82 (ms.length),jI 84 (b.1)])
  (fun b=>b.1≤ms.length∧b.2.1=dsN ((zT ms).take b.1)∧hdr b.2.2=H∧b.2.2.map (·.2)=xM N N (dsA 0 ((zT ms).take b.1))) (fun b=>ms.length - b.1) (0,0,L0) (fun _=>rfl) ⟨pH _,rfl,hH0,hL0⟩ ⟨rfl,rfl,⟨_,rfl⟩,rfl,rfl,rfl,rfl,rfl,rfl,trivial⟩ fun ⟨j,o,L1⟩ hI=>?_
 obtain ⟨i1,i2,i3,i4⟩:=hI; dsimp only at i1 i2 i3 i4 ⊢
 rcases pG j ms.length with hj | hj
 ·obtain ⟨m,hm⟩:=gE hj
  have hg:=wRD ms j m hm; obtain ⟨o1,o2⟩:=h m (pD hm)
  have e1:=wED (wX9 hm); rw [← i2,show (wLH m).1=m.2.length from rfl] at e1
  have e2:=hle (j+1); have hcl:=o1.cl o2
  have hrows:=o1.cols; have hwl:=wrG_last _ _ _ (wX9 hm)
  rw [← i2,show (wLH m).1=m.2.length from rfl,show (wLH m).2=fun a b=>Rat.divInt (intOf (ent m.2 a b)) (intOf m.1) from rfl] at hwl
  have hok:=o1.ok; have h00:=o1.den
  have q1:=wBF m.1.1 m.1.2 m.2 (by omega)
  have q2:=wBH m.1.1 m.1.2 m.2 ⟨hok.1,pC hok.2.1 (by omega)⟩ h00 (fun r hr=>⟨pC (hok.2.2.1.2 r hr).1 (by decide),fun z hz=>⟨((hok.2.2.1.2 r hr).2 z hz).1,pC ((hok.2.2.1.2 r hr).2 z hz).2 (by omega)⟩⟩) (by omega)
  rw [hcl] at q1; have hrat:∀ a b,a<m.2.length→b<m.2.length→∃ qa,(wT m)[a]? = some qa∧qa[b]? = some (qn (Rat.divInt (intOf (ent m.2 a b)) (intOf m.1))):=fun a b ha hb=>by
   obtain ⟨r,hr⟩:=gE ha; obtain ⟨z,hz⟩:∃ z,r[b]? = some z:=⟨_,pU (by rw [hrows r (pD hr)]; exact hb)⟩
   exact qCF hr hz
  obtain ⟨R,hR⟩:∃ R,wT m=R:=⟨_,rfl⟩; have q2':wD Tryz.prog 74 [.agg [.bool m.1.1,vL m.1.2,vT m.2]] (fun y=>y=.list (qU R)):=by rw [← hR]; exact q2
  rw [hR] at hrat; clear q2 hR
  obtain ⟨X,hX⟩:∃ X:Nat→Nat→Rat,(fun a b=>Rat.divInt (intOf (ent m.2 a b)) (intOf m.1))=X:=⟨_,rfl⟩
  rw [hX] at hwl; have hrat2:∀ a b,a<m.2.length→b<m.2.length→∃ qa,R[a]? = some qa∧qa[b]? = some (qn (X a b)):=fun a b ha hb=>by rw [← hX]; exact hrat a b ha hb
  clear hrat hX; obtain ⟨n,hn⟩:∃ n,m.2.length=n:=⟨_,rfl⟩
  rw [hn] at q1 e1 hwl hrat2; obtain ⟨⟨x,l⟩,t⟩:=m
  rw [← wrG_first (dsA 0 ((zT ms).take j)) o n X] at i4; obtain ⟨Hj,hHj⟩:∃ Hj,dsA 0 ((zT ms).take j)=Hj:=⟨_,rfl⟩
  rw [hHj] at i4 hwl; clear hcl h hok o1 hrows hL0 h00
  repeat (first | refine wg rfl (sX j hg) ?_ | refine wc q1 ?_ | refine wc q2' ?_ | refine wl ?_ | refine wv ?_ | refine wg rfl cT ?_ | refine wz ?_)
  refine wJ (fun b:Nat × List (Value × List (List V))=>[jB 4 2,jC 5 [.v (.bool false),.nils,.nils],jO 18 1 64 1 H,(401,some (.fam 89 4 b.2)),jI 20 o,jI 22 o,jV 80 (vMs ms),jI 82 (ms.length),jI 84 j,
   jI 28 n,jI 30 n,jV 32 (.list (qU R)),jI 34 (b.1)])
   (fun b=>b.1≤n∧hdr b.2=H∧b.2.map (·.2)=xM N N (wrG Hj o n X b.1 0)) (fun b=>n - b.1) (0,L1) (fun _=>rfl) ⟨pH _,i3,i4⟩ ⟨rfl,rfl,⟨_,rfl⟩,rfl,rfl,rfl,rfl,rfl,rfl,rfl,rfl,rfl,rfl,trivial⟩ fun ⟨a,L2⟩ hJ=>?_
  obtain ⟨j1,j2,j3⟩:=hJ; dsimp only at j1 j2 j3 ⊢
  rcases pG a n with ha | ha
  ·repeat (first | refine wv ?_ | refine wg rfl cT ?_ | refine wz ?_)
   refine wJ (fun b:Nat × List (Value × List (List V))=>[jB 4 2,jC 5 [.v (.bool false),.nils,.nils],jO 18 1 64 1 H,(401,some (.fam 89 4 b.2)),jI 20 o,jI 22 o,jV 80 (vMs ms),jI 82 (ms.length),jI 84 j,
    jI 28 n,jI 30 n,jV 32 (.list (qU R)),jI 34 a,jI 36 (b.1)])
    (fun b=>b.1≤n∧hdr b.2=H∧b.2.map (·.2)=xM N N (wrG Hj o n X a b.1)) (fun b=>n - b.1) (0,L2) (fun _=>rfl) ⟨pH _,j2,j3⟩ ⟨rfl,rfl,⟨_,rfl⟩,rfl,rfl,rfl,rfl,rfl,rfl,rfl,rfl,rfl,rfl,rfl,trivial⟩ fun ⟨b,L3⟩ hM=>?_
   obtain ⟨k1,k2,k3⟩:=hM; dsimp only at k1 k2 k3 ⊢
   rcases pG b n with hb | hb
   ·obtain ⟨u,l1,l2,l3,l4⟩:=wBC k2 k3 (show o+a<N by omega) (show o+b<N by omega) (X a b)
    rw [wrG_next _ _ _ _ _ _ hb] at l4; obtain ⟨qa,a1,a2⟩:=hrat2 a b ha hb
    have g1:=j9 R a qa a1; have g2:=kO qa b _ a2
    have hHi:o+a<H.length:=by omega
    have hrow:=wB1 (c:=N) (wrG Hj o n X a b) (o+a) (b:=o+b) (by omega)
    have hrl:=v8 N (wrG Hj o n X a b) (o+a); have hkl:o+b<(vU N (wrG Hj o n X a b) (o+a)).length:=by omega
    clear i3 i4 j2 j3 k2 k3 hrat2 a1 a2 hwl; generalize vU N (wrG Hj o n X a b) (o+a)=es at *
    obtain ⟨L4,hL4⟩:∃ L4,L3.set (o+a) (u,es.set (o+b) (wH (qn (X a b))))=L4:=⟨_,rfl⟩; rw [hL4] at l3 l4
    generalize qn (X a b)=qz at *; generalize qn (wrG Hj o n X a b (o+a) (o+b))=qy at *
    obtain ⟨⟨x1,n1⟩,⟨x2,n2⟩⟩:=qz
    repeat (first | refine wg rfl (sX a g1) ?_ | refine wg rfl (sX b g2) ?_ | refine wg rfl (sN (o+a)) ?_ | refine wg rfl (sN (o+b)) ?_ | refine wg rfl (sO (o+a) hHi) ?_ | refine wg rfl (qP wG rfl rfl rfl l2 rfl rfl rfl) ?_ | refine wg rfl (jY wG (j:=200) (r:=o+a) (i:=o+b) rfl rfl rfl rfl rfl rfl rfl l1 hkl rfl) ?_ | refine wg rfl (kM wG (j:=200) rfl rfl rfl l1 hrow rfl rfl rfl rfl (pE _) rfl hL4) ?_ | refine wv ?_ | refine wg rfl cT ?_ | refine wg rfl sB ?_ | refine wz ?_)
    exact ⟨(b+1,L4),⟨hb,l3,l4⟩,by dsimp only; omega,rfl,rfl,⟨_,rfl⟩,rfl,rfl,rfl,rfl,rfl,rfl,rfl,rfl,rfl,rfl,rfl,trivial⟩
   ·have hbe:b=n:=by omega
    subst hbe; rw [wrG_row] at k3
    repeat (first | refine wv ?_ | refine wg rfl cF ?_ | refine wg rfl sB ?_ | refine wz ?_)
    exact ⟨(a+1,L3),⟨ha,k2,k3⟩,by dsimp only; omega,rfl,rfl,⟨_,rfl⟩,rfl,rfl,rfl,rfl,rfl,rfl,rfl,rfl,rfl,rfl,trivial⟩
  ·have hae:a=n:=by omega
   subst hae; rw [hwl] at j3
   repeat (first | refine wg rfl (sN (o+a)) ?_ | refine wv ?_ | refine wg rfl cF ?_ | refine wg rfl sB ?_ | refine wz ?_)
   exact ⟨(j+1,o+a,L2),⟨hj,e1.symm,j2,j3⟩,by dsimp only; omega,rfl,rfl,⟨_,rfl⟩,rfl,rfl,rfl,rfl,rfl,rfl,trivial⟩
 ·have hje:j=ms.length:=by omega
  subst hje; rw [pN (by rw [qB0]; exact pE _)] at i4
  have hfin:=gQ_fin i4; have hd:=qIB hK1 fun m hm=>(h m hm).1
  have hD0:=wWF fun m hm=>(h m hm).1.den
  have hDl:=qE3 (K:=K) fun m hm=>pC (wL _ (h m hm).1.ok.1) (h m hm).1.ok.2.1
  have h24:ms.length*K≤24*K:=mC _ hml; have q7:=qHB (n:=N) (K:=24*K+1) (G:=dsA 0 (zT ms)) hN24 (denP ms) hD0 (by omega) (fun a b _ _=>⟨(hd a b).1,by have:=(hd a b).2; omega⟩) (by omega)
  rw [← i3]; clear h hd i4 i3 hL0
  generalize zC (gQ N (dsA 0 (zT ms)))=M at *; obtain ⟨⟨x,l⟩,t⟩:=M
  repeat (first | refine wF5 24 9 200 rfl rfl hfin ?_ | refine wc q7 ?_ | refine wv ?_ | refine wg rfl cF ?_ | refine wz ?_)
  exact ⟨.inl rfl,_,rfl,rfl⟩
end Go.Proofs.YtkjhfnhgefbhhaaGreat
