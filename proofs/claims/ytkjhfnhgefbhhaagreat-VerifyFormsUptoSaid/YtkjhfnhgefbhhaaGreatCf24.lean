/- companion.block of the program, told of trees. ALLOC -/
import Derived.Test.YtkjhfnhgefbhhaaGreatCf23
import Derived.Test.YtkjhfnhgefbhhaaGreatCf18
import Derived.Test.YtkjhfnhgefbhhaaGreatCf16
set_option linter.all false
set_option maxRecDepth 20000
set_option maxHeartbeats 6400000
namespace Go.Proofs.YtkjhfnhgefbhhaaGreat
open Go.RowKit Go.Ev Go.Vl
theorem qA7 (n:Nat) (G:Nat→Nat→Rat):wHJ (gQ n G)=wAA (zn (qM (gQ n G).flatten:Nat)) (kC n n fun a b=>zn (G a b*(((qM (gQ n G).flatten:Nat):Int):Rat)).num):=by
 unfold wHJ
 congr 1
 generalize ((qM (gQ n G).flatten:Nat):Int)=C; unfold gQ kC
 rw [mT]; refine mE fun a _=>?_
 simp only [Function.comp,List.map_map]
 refine mE fun b _=>?_
 simp only [Function.comp]
 unfold zW; rw [wN]
theorem qAF (n:Nat) (G:Nat→Nat→Rat):0<qM (gQ n G).flatten:=wOD _
theorem rats_fromM {n:Nat} (G:Nat→Nat→Rat) (hn:0<n):wT (wHJ (gQ n G))=gQ n G:=by
 have hC:=qAF n G; have hd:∀ a b,a∈List.range n→b∈List.range n→(G a b).den∣qM (gQ n G).flatten:=fun a b ha hb=>by
  have:=qHH (gQ n G).flatten (qn (G a b)) (cL.2 ⟨_,pJ.2 ⟨a,ha,rfl⟩,pJ.2 ⟨b,hb,rfl⟩⟩)
  rwa [wN] at this
 rw [qA7]; generalize qM (gQ n G).flatten=C at *
 rw [wFA (by rw [wE]; omega) hn hn,wE]
 unfold gQ; refine mE fun a ha=>mE fun b hb=>?_
 congr 1
 show Rat.divInt (G a b*(((C:Nat):Int):Rat)).num _=_
 rw [mul_num _ _ (hd a b ha hb)]; obtain ⟨k,hk⟩:=hd a b ha hb
 have hk0:k≠0:=fun e=>by rw [e,dN] at hk; omega
 have hden:=(G a b).den_nz; rw [hk,dP,fA _ (by omega),dY (by omega),cU]
theorem fromM_sq {n K:Nat} {G:Nat→Nat→Rat} (hn':n≤24) (hK:1≤K) (D:Nat) (hD:0<D) (hDl:lm (D:Int)≤K) (hG:∀ a b,(G a b).den∣D∧lm (G a b).num≤K):sqM (wHJ (gQ n G)) n (2*K):=by
 have hC:=qAF n G; have hCD:qM (gQ n G).flatten∣D:=wEF _ _ fun q hq=>by
  obtain ⟨a,b,_,_,rfl⟩:=wL6 hq; rw [wN]
  exact (hG a b).1
 have hCl:lm (qM (gQ n G).flatten:Int)≤K:=pC (xO (cO hD hCD)) hDl; rw [qA7]
 have:=wNG (d:=zn (qM (gQ n G).flatten:Nat)) (r:=n) (c:=n) (K:=2*K) (F:=fun a b=>(G a b*(((qM (gQ n G).flatten:Nat):Int):Rat)).num) (by rw [wE]; omega) (by rw [wE]; omega) (by omega) (fun a b=>by
  have h1:=(wJA (G a b) (((qM (gQ n G).flatten:Nat):Int):Rat) rfl).1; have h2:lm (((qM (gQ n G).flatten:Nat):Int):Rat).num=lm (qM (gQ n G).flatten:Int):=rfl
  have:=(hG a b).2; omega) (by omega) (by omega) (pC (dA hn' hn') (by decide))
 exact ⟨this.1,this.2.1,this.2.2.1,this.2.2.2⟩
theorem blockc_v (A:List Rat) (m i k K:Nat) (hK:K≤68719476736) (mA:∀ x∈A,okB K x) (lA:A.length=m+2) (hm:m<1000) (hi:i<m+1) (hk:k<m+1):wD Tryz.prog 136 [.int .i64 (i:Nat),.int .i64 (k:Nat),.ref [.int .i64 ((m+1:Nat))],.ref [vQs (wQ A)]] (fun y=>y=nR (jX (m+1) A i k)):=by
 refine wC wG Tryz.func136 rfl rfl rfl rfl fun w0=>?_
 obtain ⟨x,hx⟩:=gE (l:=A) (i:=i) (by omega)
 have hg:=wFC hx; have q1:=rnegP_v (qn x) (wA7 (mA x (pD hx)) hK)
 rw [wN] at q1; have q2:=rofP_v 1 (by decide)
 have q3:=rofP_v 0 (by decide)
 rw [show ((1:Nat):Rat)=1 from rfl] at q2; rw [show ((0:Nat):Rat)=0 from rfl] at q3
 have e:jX (m+1) A i k=if k=m then -x else if k+1=i then 1 else 0:=by
  unfold jX; rw [kG hx]
  by_cases h:k=m
  ·rw [if_pos (by omega),if_pos h]
  ·rw [if_neg (by omega),if_neg h]
 rw [e]; unfold nR at q1 q2 q3 ⊢
 unfold vQs at hg ⊢; generalize (wQ A).map wH=L at *
 clear mA hx e
 by_cases h1:k=m
 ·rw [if_pos h1]
  generalize qn (-x)=nx at *; generalize qn x=cx at *
  obtain ⟨⟨x1,l1⟩,⟨x2,l2⟩⟩:=cx; obtain ⟨⟨y1,n1⟩,⟨y2,n2⟩⟩:=nx
  repeat (first | refine wg rfl (sN m) ?_ | refine wg rfl (sX i hg) ?_ | refine wc q1 ?_ | refine wl ?_ | refine wv ?_ | refine wg rfl cT ?_ | refine wz ?_)
  exact ⟨.inl rfl,_,rfl,rfl⟩
 ·rw [if_neg h1]
  clear q1 hg
  by_cases h2:k+1=i
  ·rw [if_pos h2]
   generalize qn 1=nx at *; obtain ⟨⟨y1,n1⟩,⟨y2,n2⟩⟩:=nx
   repeat (first | refine wg rfl (sN m) ?_ | refine wc q2 ?_ | refine wl ?_ | refine wv ?_ | refine wg rfl cT ?_ | refine wg rfl cF ?_ | refine wg rfl sB ?_ | refine wz ?_)
   exact ⟨.inl rfl,_,rfl,rfl⟩
  ·rw [if_neg h2]
   generalize qn 0=nx at *; obtain ⟨⟨y1,n1⟩,⟨y2,n2⟩⟩:=nx
   repeat (first | refine wg rfl (sN m) ?_ | refine wc q3 ?_ | refine wl ?_ | refine wv ?_ | refine wg rfl cF ?_ | refine wg rfl sB ?_ | refine wz ?_)
   exact ⟨.inl rfl,_,rfl,rfl⟩
def gP (i n:Nat) (G:Nat→Nat→Rat):List (List QQ):=(List.range i).map fun a=>(List.range n).map fun b=>qn (G a b)
theorem gP_full (n:Nat) (G:Nat→Nat→Rat):gP n n G=gQ n G:=rfl
theorem gP_snoc (i n:Nat) (G:Nat→Nat→Rat):qU (gP i n G)++[[V.list (((List.range n).map fun b=>qn (G i b)).map wH)]]=qU (gP (i+1) n G):=by
 unfold qU gP; rw [gZ]
 simp [vQs]
theorem gP_len (i n:Nat) (G:Nat→Nat→Rat):(qU (gP i n G)).length=i:=by rw [kR]; unfold gP; simp
theorem block_v (A:List Rat) (m K:Nat) (hK1:1≤K) (hK:K≤2097152) (mA:∀ x∈A,okB K x) (lA:A.length=m+2) (hm:m+1≤24):wD Tryz.prog 82 [vQs (wQ A)] (fun y=>y=vM (wHJ (gQ (m+1) (jX (m+1) A)))):=by
 refine wC wG Tryz.func82 rfl rfl rfl rfl fun w0=>?_
 have lAm:=(wFB A).trans lA; have qc:=fun i k hi hk=>blockc_v A m i k K (by omega) mA lA (by omega) hi hk
 obtain ⟨D,c1,c2,c3⟩:=wOC hK1 mA (by omega) (m+1)
 have q7:=fromP_v (gQ (m+1) (jX (m+1) A)) (m+1) D c1 (by omega) (fun q hq=>by
  obtain ⟨a,b,_,_,rfl⟩:=wL6 hq; obtain ⟨g1,g2⟩:=c3 a b
  have g3:lm ((jX (m+1) A a b).den:Int)≤lm (D:Int):=xO (cO c1 g1); rw [wN]
  exact ⟨vV _ (by omega) (by omega),by omega,g1⟩) (fun r hr=>wL5 hr) (by omega) (by rw [wL7]; omega) (by
  rw [jK fun r hr=>wL5 hr,wL7]
  exact pC (dA hm hm) (by decide))
 rw [← gP_full] at q7; rw [← gP_full]
 generalize wHJ (gP (m+1) (m+1) (jX (m+1) A))=M at *; generalize jX (m+1) A=G at *
 clear mA c2 c3; unfold vQs at qc ⊢
 generalize (wQ A).map wH=L at *
 repeat (first | refine wg rfl (sL lAm) ?_ | refine wg rfl (sN (m+1)) ?_ | refine vw_toF 2 [jB 2 1,jC 3 [.v (.list L)],jB 4 2,jC 5 [.v (.bool false),.nils,.nils],jB 6 3,jC 7 [.v (.int .i64 ((m+1:Nat)))]] [jV 2 (.ref [.list L]),jB 4 2,jC 5 [.v (.bool false),.nils,.nils],jV 6 (.ref [.int .i64 ((m+1:Nat))])] rfl ⟨rfl,rfl,rfl,rfl,rfl,rfl,trivial⟩ (fun h=>wCG 1 1 rfl rfl rfl (wCG 3 3 rfl rfl rfl (vw_to _ (by exact rfl) (by exact ⟨rfl,rfl,rfl,rfl,trivial⟩) h))) ?_ | refine wl ?_ | refine wv ?_ | refine wz ?_)
 refine zR (d:=5) (id:=1) (k:=1) (T:=64) rfl rfl rfl rfl ?_
 refine wJ (fun i:Nat=>[jB 4 2,jC 5 [.v (.bool false),.nils,.nils],jV 6 (.ref [.int .i64 ((m+1:Nat))]),jV 8 (.clo 136 [] [.ref [.int .i64 ((m+1:Nat))],.ref [.list L]]),jO 10 1 64 1 (qU (gP i (m+1) G)),jI 30 (m+1),jI 32 i])
  (fun i=>i≤m+1) (fun i=>m+1 - i) 0 (fun _=>rfl) (pH _) ⟨rfl,rfl,rfl,rfl,⟨_,rfl⟩,rfl,rfl,trivial⟩ fun i hI=>?_
 rcases pG i (m+1) with hi | hi
 ·repeat (first | refine wv ?_ | refine wg rfl cT ?_ | refine wz ?_)
  refine zR (d:=7) (id:=2) (k:=4) (T:=89) rfl rfl rfl rfl ?_
  refine wJ (fun k:Nat=>[jB 4 2,jC 5 [.v (.bool false),.nils,.nils],jV 6 (.ref [.int .i64 ((m+1:Nat))]),jV 8 (.clo 136 [] [.ref [.int .i64 ((m+1:Nat))],.ref [.list L]]),jO 10 1 64 1 (qU (gP i (m+1) G)),jI 30 (m+1),jI 32 i,
   jI 12 i,jO 14 2 89 4 (((List.range k).map fun b=>qn (G i b)).map wH),jI 38 (m+1),jI 40 k])
   (fun k=>k≤m+1) (fun k=>m+1 - k) 0 (fun _=>rfl) (pH _) ⟨rfl,rfl,rfl,rfl,⟨_,rfl⟩,rfl,rfl,rfl,⟨_,rfl⟩,rfl,rfl,trivial⟩ fun k hK2=>?_
  rcases pG k (m+1) with hk | hk
  ·have q1:=qc i k hi hk
   have hs:((List.range k).map fun b=>qn (G i b)).map wH++[wH (qn (G i k))]=((List.range (k+1)).map fun b=>qn (G i b)).map wH:=by rw [gZ]; simp
   have hlen:(((List.range k).map fun b=>qn (G i b)).map wH).length=k:=by simp
   have row4:∀ e∈[wH (qn (G i k))],e.length=4:=fun e h=>by rw [pL.1 h]; rfl
   unfold nR at q1; obtain ⟨g,hg⟩:∃ g,qn (G i k)=g:=⟨_,rfl⟩
   rw [hg] at q1 hs row4; clear hg
   obtain ⟨⟨y1,n1⟩,⟨y2,n2⟩⟩:=g; clear qc q7
   repeat (first | refine wc q1 ?_ | refine wf rfl rfl (sA 7001 [wH ((y1,n1),(y2,n2))] 4 64 row4 hs) ?_ | refine wv ?_ | refine wg rfl cT ?_ | refine wg rfl sB ?_ | refine wz ?_)
   exact ⟨k+1,hk,by omega,rfl,rfl,rfl,rfl,⟨_,rfl⟩,rfl,rfl,rfl,⟨_,rfl⟩,rfl,rfl,trivial⟩
  ·have hke:k=m+1:=by omega
   subst hke; have hs:=gP_snoc i (m+1) G
   have hlen:=gP_len i (m+1) G; have wB2:∀ e∈[[V.list (((List.range (m+1)).map fun b=>qn (G i b)).map wH)]],e.length=1:=fun e h=>by rw [pL.1 h]; rfl
   clear qc q7
   repeat (first | refine wf rfl rfl (sA 7002 [[V.list (((List.range (m+1)).map fun b=>qn (G i b)).map wH)]] 1 24 wB2 hs) ?_ | refine wv ?_ | refine wg rfl cF ?_ | refine wg rfl sB ?_ | refine wx ?_ | refine wz ?_)
   exact ⟨i+1,hi,by omega,rfl,rfl,rfl,rfl,⟨_,rfl⟩,rfl,rfl,trivial⟩
 ·have hie:i=m+1:=by omega
  subst hie; obtain ⟨⟨x,l⟩,t⟩:=M
  clear qc
  repeat (first | refine wh q7 ?_ | refine wl ?_ | refine wv ?_ | refine wg rfl cF ?_ | refine wz ?_)
  exact ⟨.inl rfl,_,rfl,rfl⟩
end Go.Proofs.YtkjhfnhgefbhhaaGreat
/- companion.monics, Sum of the program, told of trees. ALLOC -/
namespace Go.Proofs.YtkjhfnhgefbhhaaGreat
open Go.RowKit Go.Ev Go.Vl
def wWH (p:List QQ):Nat × (Nat→Nat→Rat):=(wV (wF p) - 1,jX (wV (wF p) - 1) (w8 (wF p)))
def z8 (ps:List (List QQ)):List (Nat × (Nat→Nat→Rat)):=ps.map wWH
theorem qAD {ps:List (List QQ)} {j:Nat} {p:List QQ} (h:ps[j]? = some p):(z8 ps)[j]? = some (wWH p):=by unfold z8; rw [pI,h]; rfl
def monO (K:Nat) (ps:List (List QQ)):Prop:=∀ p∈ps,zP K p∧2≤wV (wF p)∧atR (wF p) (wV (wF p) - 1)=1
theorem monics_v (ps:List (List QQ)) (K:Nat) (hK1:1≤K) (hK:K≤2097152) (h:monO K ps) (hl:ps.length≤1048576) (hN:dsN (z8 ps)≤24):wD Tryz.prog 81 [vPs ps] (fun y=>y=.tup [vPs (ps.map pnQ),.int .i64 0]):=by
 refine wC wG Tryz.func81 rfl rfl rfl rfl fun w0=>?_
 repeat (first | refine wg rfl (sL (kR ps)) ?_ | refine wv ?_ | refine wz ?_)
 refine zR (d:=4) (id:=1) (k:=1) (T:=65) rfl rfl rfl rfl ?_
 refine wJ (fun j:Nat=>[(4,some (.sv .nils)),jV 6 (.int .i64 0),jO 8 1 65 1 (qU ((ps.take j).map pnQ)),jV 28 (vPs ps),jI 30 (ps.length),jI 32 j])
  (fun j=>j≤ps.length) (fun j=>ps.length - j) 0 (fun _=>rfl) (pH _) ⟨rfl,rfl,⟨_,rfl⟩,rfl,rfl,rfl,trivial⟩ fun j hJ=>?_
 rcases pG j ps.length with hj | hj
 ·obtain ⟨p,hp⟩:=gE hj
  have hgp:=j9 ps j p hp; obtain ⟨o1,o2,o3⟩:=h p (pD hp)
  have q1:=wV2 p (fun q hq=>(o1.1 q hq).1) (by have:=o1.2; omega)
  rw [show pn (wF p)=pnQ p from rfl] at q1; have hs:qU ((ps.take j).map pnQ)++[[vQs (pnQ p)]]=qU ((ps.take (j+1)).map pnQ):=by
   rw [wZ2,mO,hp]
   simp
  have hlen:(qU ((ps.take j).map pnQ)).length=j:=by rw [kR,pF,pM]; omega
  generalize pnQ p=c at *; have wB2:∀ e∈[[vQs c]],e.length=1:=fun e h=>by rw [pL.1 h]; rfl
  clear h o1
  repeat (first | refine wv ?_ | refine wg rfl (sX j hgp) ?_ | refine wc q1 ?_ | refine wf rfl rfl (sA 7002 [[vQs c]] 1 24 wB2 hs) ?_ | refine wg rfl cT ?_ | refine wg rfl nF ?_ | refine wg rfl sB ?_ | refine wz ?_)
  exact ⟨j+1,hj,by omega,rfl,rfl,⟨_,rfl⟩,rfl,rfl,rfl,trivial⟩
 have hje:j=ps.length:=by omega
 subst hje; rw [mH]
 have hLl:(qU (ps.map pnQ)).length=ps.length:=by rw [kR,pF]
 have hat:∀ (i:Nat) (p:List QQ),ps[i]? = some p→(qU (ps.map pnQ))[i]? = some [V.list ((pn (wF p)).map wH)]:=fun i p hp=>j9 _ _ _ (by rw [pI,hp]; rfl)
 refine qEF (qDA (d:=4) rfl) ?_
 have hle:=wWC (z8 ps); obtain ⟨L,hL⟩:∃ L,qU (ps.map pnQ)=L:=⟨_,rfl⟩
 rw [show vPs (ps.map pnQ)=.list (qU (ps.map pnQ)) from rfl,hL]; rw [hL] at hLl hat
 repeat (first | refine wg rfl (sL hLl) ?_ | refine wv ?_ | refine wg rfl cF ?_ | refine wz ?_)
 refine wJ (fun j:Nat=>[jV 8 (.list L),jV 66 (.list L),jI 68 (ps.length),jI 70 j])
  (fun j=>j≤ps.length) (fun j=>ps.length - j) 0 (fun _=>rfl) (pH _) ⟨rfl,rfl,rfl,rfl,trivial⟩ fun j hJ=>?_
 rcases pG j ps.length with hj | hj
 ·obtain ⟨p,hp⟩:=gE hj
  have hgp:=hat j p hp; obtain ⟨o1,o2,o3⟩:=h p (pD hp)
  obtain ⟨m,hm⟩:∃ m,wV (wF p)=m+2:=⟨wV (wF p) - 2,by omega⟩
  have hle':=kS (wF p); have hl2:=o1.2
  rw [kN] at hle'; have hx:(wF p)[m+1]? = some 1:=by
   rw [hm,show m+2 - 1=m+1 from rfl] at o3; rw [← o3]
   exact wOG (by rw [kN]; omega)
  have hg2:=pn_at hx (by omega)
  have hRl:((pn (wF p)).map wH).length=m+2:=by rw [pF,wQ1,hm]
  have q2:=zcmp_v (qn (1:Rat)).1 (qn (1:Rat)).2 (vV 1 (pC wFI (by decide)) (pC wFI (by decide))).ok.1 (vV 1 (pC wFI (by decide)) (pC wFI (by decide))).ok.2
  rw [show intOf (qn (1:Rat)).1=(1:Rat).num from wE _,show intOf (qn (1:Rat)).2=((1:Rat).den:Int) from wE _,(rat_one 1).2 rfl] at q2; generalize qn (1:Rat)=c1 at *
  obtain ⟨⟨v1,v2⟩,⟨v3,v4⟩⟩:=c1; generalize (pn (wF p)).map wH=R at *
  clear h o1 hat hle hx
  repeat (first | refine wg rfl (sL hRl) ?_ | refine wg rfl (sX j hgp) ?_ | refine wg rfl (sX (m+1) hg2) ?_ | refine wg rfl (sN (m+1)) ?_ | refine wc q2 ?_ | refine wv ?_ | refine wg rfl cT ?_ | refine wg rfl cF ?_ | refine wg rfl nF ?_ | refine wg rfl sB ?_ | refine wz ?_)
  exact ⟨j+1,hj,by omega,rfl,rfl,rfl,rfl,trivial⟩
 have hje:j=ps.length:=by omega
 subst hje
 repeat (first | refine wg rfl (sL hLl) ?_ | refine wv ?_ | refine wg rfl cF ?_ | refine wz ?_)
 refine wJ (fun b:Nat × Nat=>[jV 8 (.list L),jI 22 (b.2),jV 122 (.list L),jI 124 (ps.length),jI 126 (b.1)])
  (fun b=>b.1≤ps.length∧b.2=dsN ((z8 ps).take b.1)) (fun b=>ps.length - b.1) (0,0) (fun _=>rfl) ⟨pH _,rfl⟩ ⟨rfl,rfl,rfl,rfl,rfl,trivial⟩ fun ⟨j,s⟩ hI=>?_
 obtain ⟨i1,i2⟩:=hI; dsimp only at i1 i2 ⊢
 rcases pG j ps.length with hj | hj
 ·obtain ⟨p,hp⟩:=gE hj
  have hgp:=hat j p hp; obtain ⟨o1,o2,o3⟩:=h p (pD hp)
  obtain ⟨m,hm⟩:∃ m,wV (wF p)=m+2:=⟨wV (wF p) - 2,by omega⟩
  have e1:=wED (qAD hp); rw [← i2,show (wWH p).1=wV (wF p) - 1 from rfl,hm,show m+2 - 1=m+1 from rfl] at e1
  have e2:=hle (j+1); have hRl:((pn (wF p)).map wH).length=m+2:=by rw [pF,wQ1,hm]
  generalize (pn (wF p)).map wH=R at *; clear h o1 hat hle
  repeat (first | refine wg rfl (sL hRl) ?_ | refine wg rfl (sX j hgp) ?_ | refine wg rfl (sN (m+1)) ?_ | refine wg rfl (sN (s+(m+1))) ?_ | refine wv ?_ | refine wg rfl cT ?_ | refine wg rfl cF ?_ | refine wg rfl sB ?_ | refine wz ?_)
  exact ⟨(j+1,s+(m+1)),⟨hj,e1.symm⟩,by dsimp only; omega,rfl,rfl,rfl,rfl,rfl,trivial⟩
 ·repeat (first | refine wv ?_ | refine wg rfl cF ?_ | refine wz ?_)
  exact ⟨.inl rfl,_,rfl,rfl⟩
def qY (p:List QQ):MM:=wHJ (gQ (wV (wF p) - 1) (jX (wV (wF p) - 1) (w8 (wF p))))
theorem qC0 {K:Nat} {p:List QQ} (h:zP K p):∀ x∈w8 (wF p),okB K x:=fun x hx=>by
 obtain ⟨q,hq,rfl⟩:=pJ.1 (xU hx); exact (h.1 q hq).2
theorem wQI {p:List QQ} {K:Nat} (hK1:1≤K) (h:zP K p) (hl:wV (wF p)≤25):sqM (qY p) (wV (wF p) - 1) (2*(25*K+1)):=by
 obtain ⟨D,c1,c2,c3⟩:=wOC hK1 (qC0 h) (by rw [qN]; exact hl) (wV (wF p) - 1)
 exact fromM_sq (by omega) (by omega) D c1 c2 c3
theorem wX8:∀ {ps:List (List QQ)},(∀ p∈ps,(qY p).2.length=wV (wF p) - 1)→dsN (zT (ps.map qY))=dsN (z8 ps)
 | [],_=>rfl
 | p :: ps,h=>by
  rw [dL,show zT (qY p :: ps.map qY)=wLH (qY p) :: zT (ps.map qY) from rfl,show z8 (p :: ps)=wWH p :: z8 ps from rfl,xF,xF,wX8 fun q hq=>h q (pT _ hq)]
  have:=h p (pO ..); show (qY p).2.length+_=(wV (wF p) - 1)+_
  rw [this]
theorem wNE {K:Nat} {ps:List (List QQ)} (h:monO K ps) (hN:dsN (z8 ps)≤24):∀ p∈ps,wV (wF p)≤25:=fun p hp=>by
 obtain ⟨j,hj⟩:=dW hp; have e1:=wED (qAD hj)
 have e2:=wWC (z8 ps) (j+1); rw [show (wWH p).1=wV (wF p) - 1 from rfl] at e1
 omega
theorem sumP_v (ps:List (List QQ)) (K N:Nat) (hK1:1≤K) (hK:K≤2097152) (h:monO K ps) (hl:ps.length≤1048576) (hN:dsN (z8 ps)=N) (hN24:N≤24):wD Tryz.prog 39 [vPs ps] (fun y=>y=.tup [vM (j8 N (ps.map qY)),.int .i64 0]):=by
 refine wC wG Tryz.func39 rfl rfl rfl rfl fun w0=>?_
 have q1:=monics_v ps K hK1 hK h hl (by omega)
 have h25:=wNE h (by omega)
 have hsq:∀ p∈ps,sqM (qY p) (wV (wF p) - 1) (2*(25*K+1)):=fun p hp=>wQI hK1 (h p hp).1 (h25 p hp)
 have q9:=qblocks_v (ps.map qY) (2*(25*K+1)) N (by omega) (fun m hm=>by
  obtain ⟨p,hp,rfl⟩:=pJ.1 hm; have hs:=hsq p hp
  have h2:=(h p hp).2.1; rw [hs.rows]
  exact ⟨hs,by omega⟩) (by rw [wX8 fun p hp=>(hsq p hp).rows]; exact hN) hN24
 generalize j8 N (ps.map qY)=M at *; have hLl:(qU (ps.map pnQ)).length=ps.length:=by rw [kR,pF]
 have hat:∀ (i:Nat) (p:List QQ),ps[i]? = some p→(qU (ps.map pnQ))[i]? = some [V.list ((pn (wF p)).map wH)]:=fun i p hp=>j9 _ _ _ (by rw [pI,hp]; rfl)
 obtain ⟨L,hL⟩:∃ L,qU (ps.map pnQ)=L:=⟨_,rfl⟩; rw [show vPs (ps.map pnQ)=.list (qU (ps.map pnQ)) from rfl,hL] at q1
 rw [hL] at hLl hat
 repeat (first | refine wg rfl (sL hLl) ?_ | refine wc q1 ?_ | refine wl ?_ | refine wv ?_ | refine wg rfl nF ?_ | refine wz ?_)
 refine zR (d:=5) (id:=1) (k:=3) (T:=28) rfl rfl rfl rfl ?_
 refine wJ (fun j:Nat=>[jB 4 2,jC 5 [.v (.bool false),.nils,.nils],jO 10 1 28 3 (((ps.take j).map qY).map vD),jV 34 (.list L),jI 36 (ps.length),jI 38 j])
  (fun j=>j≤ps.length) (fun j=>ps.length - j) 0 (fun _=>rfl) (pH _) ⟨rfl,rfl,⟨_,rfl⟩,rfl,rfl,rfl,trivial⟩ fun j hJ=>?_
 rcases pG j ps.length with hj | hj
 ·obtain ⟨p,hp⟩:=gE hj
  have hg:=hat j p hp; obtain ⟨o1,o2,o3⟩:=h p (pD hp)
  have h25':=h25 p (pD hp); obtain ⟨m,hm⟩:∃ m,wV (wF p)=m+2:=⟨wV (wF p) - 2,by omega⟩
  have q2:=block_v (w8 (wF p)) m K hK1 hK (qC0 o1) (by rw [qN,hm]) (by omega)
  have hb:wHJ (gQ (m+1) (jX (m+1) (w8 (wF p))))=qY p:=by unfold qY; rw [hm]; rfl
  rw [hb] at q2; have q2':wD Tryz.prog 82 [.list ((pn (wF p)).map wH)] (fun y=>y=vM (qY p)):=q2
  have hs:((ps.take j).map qY).map vD++[vD (qY p)]=((ps.take (j+1)).map qY).map vD:=by
   rw [mO,hp]
   simp
  have hlen:(((ps.take j).map qY).map vD).length=j:=by rw [pF,pF,pM]; omega
  have row1':∀ e∈[vD (qY p)],e.length=3:=fun e h=>by rw [pL.1 h]; rfl
  clear h o1 hb q2 q9 hsq hat; obtain ⟨C,hC⟩:∃ C,qY p=C:=⟨_,rfl⟩
  rw [hC] at q2' hs row1'; clear hC
  obtain ⟨⟨x,l⟩,t⟩:=C; generalize (pn (wF p)).map wH=R at *
  repeat (first | refine wv ?_ | refine wg rfl (sX j hg) ?_ | refine wc q2' ?_ | refine wf rfl rfl (sA 7002 [vD ((x,l),t)] 3 56 row1' hs) ?_ | refine wg rfl cT ?_ | refine wg rfl sB ?_ | refine wz ?_)
  exact ⟨j+1,hj,by omega,rfl,rfl,⟨_,rfl⟩,rfl,rfl,rfl,trivial⟩
 ·have hje:j=ps.length:=by omega
  subst hje; rw [mH]
  obtain ⟨⟨x,l⟩,t⟩:=M; clear h hsq hat
  repeat (first | refine wv ?_ | refine wh q9 ?_ | refine wg rfl cF ?_ | refine wz ?_)
  exact ⟨.inl rfl,_,rfl,rfl⟩
end Go.Proofs.YtkjhfnhgefbhhaaGreat
/- verify.Form's checks, told of trees. ALLOC -/
namespace Go.Proofs.YtkjhfnhgefbhhaaGreat
open Go.RowKit Go.Ev Go.Vl
def vY (ps:List (List QQ)):Bool:=ps.all fun p=>p.all yW
theorem form1_v (n:Nat) (hn:n≤68719476736) (ps:List (List QQ)) (x x' x2:Bool) (l l' l2:List Nat) (t t' t2:List (List ZZ)) (h:okM ((x,l),t) 68719476736) (h':okM ((x',l'),t') 68719476736) (h2:okM ((x2,l2),t2) 68719476736) (hp:∀ p∈ps,(∀ q∈p,okP q)∧p.length≤68719476736) (hl:ps.length≤68719476736) :
  wD Tryz.prog 34 [.ref [vPs ps,.bool x,vL l,vT t,.bool x',vL l',vT t',.bool x2,vL l2,vT t2],.ref [.int .i64 (n:Nat)]] (fun y=>y=.bool (vY ps && sizedB n [((x,l),t),((x',l'),t'),((x2,l2),t2)])):=by
 refine wC wG Tryz.func34 rfl rfl rfl rfl fun w0=>?_
 have q9:=sized_v n [((x,l),t),((x',l'),t'),((x2,l2),t2)] hn (fun m hm=>by
  rcases pQ.1 hm with rfl | hm
  ·exact h
  ·rcases pQ.1 hm with rfl | hm
   ·exact h'
   ·rw [pL.1 hm]; exact h2) (by show 3≤1099511627776; decide)
 generalize sizedB n [((x,l),t),((x',l'),t'),((x2,l2),t2)]=sb at *; clear h h' h2
 repeat (first | refine wg rfl (sL (kR ps)) ?_ | refine wv ?_ | refine wz ?_)
 refine wJ (fun j:Nat=>[jV 0 (.ref [vPs ps,.bool x,vL l,vT t,.bool x',vL l',vT t',.bool x2,vL l2,vT t2]),jV 2 (.ref [.int .i64 (n:Nat)]),jV 16 (vPs ps),jI 18 (ps.length),jI 20 j])
  (fun j=>j≤ps.length∧vY (ps.drop j)=vY ps) (fun j=>ps.length - j) 0 (fun _=>rfl) ⟨pH _,rfl⟩ ⟨rfl,rfl,rfl,rfl,rfl,trivial⟩ fun j hI=>?_
 obtain ⟨hJ,hc⟩:=hI; rcases pG j ps.length with hj | hj
 ·obtain ⟨p,hpj⟩:=gE hj
  have hg:=j9 ps j p hpj; obtain ⟨o1,o2⟩:=hp p (pD hpj)
  have q1:=normP_v p o1 o2; rw [zZ ps j p hpj] at hc
  have hc2:(p.all yW && vY (ps.drop (j+1)))=vY ps:=hc; unfold wRB wRA at q1
  clear hp o1 q9; cases hm:p.all yW with
  | true =>
   rw [hm,dU] at hc2; rw [hm,if_pos rfl,if_pos rfl] at q1
   generalize pn (wF p)=R at *
   repeat (first | refine wg rfl (sX j hg) ?_ | refine wc q1 ?_ | refine wv ?_ | refine wg rfl cT ?_ | refine wg rfl nF ?_ | refine wg rfl sB ?_ | refine wz ?_)
   exact ⟨j+1,⟨hj,hc2⟩,by omega,rfl,rfl,rfl,rfl,rfl,trivial⟩
  | false =>
   rw [hm,bH] at hc2; rw [hm,if_neg (by decide),if_neg (by decide)] at q1
   rw [← hc2,bH]
   repeat (first | refine wg rfl (sX j hg) ?_ | refine wc q1 ?_ | refine wv ?_ | refine wg rfl cT ?_ | refine wg rfl nT ?_ | refine wz ?_)
   exact ⟨.inl rfl,_,rfl,rfl⟩
 ·rw [pY hj] at hc
  rw [← hc,show vY []=true from rfl,dU]; clear hp
  repeat (first | refine wh q9 ?_ | refine wv ?_ | refine wg rfl cF ?_ | refine wz ?_)
  exact ⟨.inl rfl,_,rfl,rfl⟩
theorem form2_v (n K:Nat) (hn:n≤24) (hK1:1≤K) (hK:K≤2097152) (ps:List (List QQ)) (x x' x2:Bool) (l l' l2:List Nat) (t t' t2:List (List ZZ)) (hp:∀ p∈ps,zP K p) (hl:ps.length≤1048576) :
  wD Tryz.prog 36 [.ref [.int .i64 (n:Nat)],.ref [vPs ps,.bool x,vL l,vT t,.bool x',vL l',vT t',.bool x2,vL l2,vT t2]] (fun y=>y=.bool (yA n 0 none (qX ps))):=by
 refine wC wG Tryz.func36 rfl rfl rfl rfl fun w0=>?_
 have q1:=chainP_v ps K n hn hK1 hK hp hl; generalize yA n 0 none (qX ps)=b at *
 clear hp
 repeat (first | refine wv ?_ | refine wc q1 ?_ | refine wz ?_)
 exact ⟨.inl rfl,_,rfl,rfl⟩
theorem form3_v (n K:Nat) (hK1:1≤K) (hK:K≤1048576) (ps:List (List QQ)) (x x' x2:Bool) (l l' l2:List Nat) (t t' t2:List (List ZZ)) (h:sqM ((x,l),t) n 1073741824) (hp:monO K ps) (hl:ps.length≤1048576) (hN:dsN (z8 ps)=n) (hn:n≤24) (hS:sqM (j8 n (ps.map qY)) n 17179869184) :
  wD Tryz.prog 38 [.ref [vPs ps,.bool x,vL l,vT t,.bool x',vL l',vT t',.bool x2,vL l2,vT t2]] (fun y=>y=.bool (vB (j8 n (ps.map qY)) ((x,l),t))):=by
 refine wC wG Tryz.func38 rfl rfl rfl rfl fun w0=>?_
 have q1:=sumP_v ps K n hK1 (by omega) hp hl hN hn
 have q2:=wP8 (K:=17179869184) hS (h.mono (by decide)) (by decide)
 generalize j8 n (ps.map qY)=S at *; generalize hb:vB S ((x,l),t)=b at *
 clear hp h hS hb hN; obtain ⟨⟨sx,sl⟩,st⟩:=S
 repeat (first | refine wl ?_ | refine wv ?_ | refine wg rfl cT ?_ | refine wc q1 ?_ | refine wc q2 ?_ | refine wz ?_)
 exact ⟨.inl rfl,_,rfl,rfl⟩
theorem form4_v (n:Nat) (hn:0<n) (hn':n≤24) (ps:List (List QQ)) (x x' x2:Bool) (l l' l2:List Nat) (t t' t2:List (List ZZ)) (h:sqM ((x',l'),t') n 1073741824) (h':sqM ((x2,l2),t2) n 1073741824) :
  wD Tryz.prog 40 [.ref [vPs ps,.bool x,vL l,vT t,.bool x',vL l',vT t',.bool x2,vL l2,vT t2],.ref [.int .i64 (n:Nat)]] (fun y=>y=.bool (vB (yV ((x',l'),t') ((x2,l2),t2)) (idM n))):=by
 refine wC wG Tryz.func40 rfl rfl rfl rfl fun w0=>?_
 have q1:=product2_v h h' hn (by decide)
 have q2:=identity_v n (by omega)
 have q3:=wP8 (K:=2147483672) (h.mul h' hn hn' (by decide)) ((sqM.id n hn').mono (by decide)) (by decide)
 generalize yV ((x',l'),t') ((x2,l2),t2)=P at *; generalize idM n=I at *
 generalize vB P I=b at *; clear h h'
 obtain ⟨⟨px,pl⟩,pt⟩:=P; obtain ⟨⟨ix,il⟩,it⟩:=I
 repeat (first | refine wv ?_ | refine wh q1 ?_ | refine wc q2 ?_ | refine wc q3 ?_ | refine wz ?_)
 exact ⟨.inl rfl,_,rfl,rfl⟩
theorem form5_v (n:Nat) (hn:0<n) (hn':n≤24) (ps:List (List QQ)) (xa x x' x2:Bool) (la l l' l2:List Nat) (ta t t' t2:List (List ZZ)) (ha:sqM ((xa,la),ta) n 1073741824) (h:sqM ((x,l),t) n 1073741824) (h':sqM ((x',l'),t') n 1073741824) (h2:sqM ((x2,l2),t2) n 1073741824) :
  wD Tryz.prog 41 [.ref [vPs ps,.bool x,vL l,vT t,.bool x',vL l',vT t',.bool x2,vL l2,vT t2],.ref [.bool xa,vL la,vT ta]] (fun y=>y=.bool (vB (yV (yV ((x2,l2),t2) ((xa,la),ta)) ((x',l'),t')) ((x,l),t))):=by
 refine wC wG Tryz.func41 rfl rfl rfl rfl fun w0=>?_
 have q1:=product3_v h2 ha h' hn hn' (by decide) (by decide)
 have q3:=wP8 (K:=4294967368) (sqM.mul (K:=2147483672) (h2.mul ha hn hn' (by decide)) (h'.mono (by decide)) hn hn' (by decide)) (h.mono (by decide)) (by decide)
 generalize yV (yV ((x2,l2),t2) ((xa,la),ta)) ((x',l'),t')=P at *; generalize hb:vB P ((x,l),t)=b at *
 clear h h' h2 ha hb; obtain ⟨⟨px,pl⟩,pt⟩:=P
 repeat (first | refine wv ?_ | refine wh q1 ?_ | refine wc q3 ?_ | refine wz ?_)
 exact ⟨.inl rfl,_,rfl,rfl⟩
end Go.Proofs.YtkjhfnhgefbhhaaGreat
/- verify.Form whole, told of trees. ALLOC -/
namespace Go.Proofs.YtkjhfnhgefbhhaaGreat
open Go.RowKit Go.Ev Go.Vl
def polW (K:Nat) (p:List QQ):Prop:=(∀ q∈p,okL q.1.2∧okL q.2.2∧q.1.2.length≤K∧q.2.2.length≤K)∧p.length≤1048576
theorem polW.p {K:Nat} {p:List QQ} (h:polW K p) (hK:K≤68719476736):(∀ q∈p,okP q)∧p.length≤68719476736:=⟨fun q hq=>by
 obtain ⟨h1,h2,h3,h4⟩:=h.1 q hq; exact ⟨h1,h2,by omega,by omega⟩,by have:=h.2; omega⟩
theorem polW.ok {K:Nat} {p:List QQ} (h:polW K p) (hK:K≤68719476736) (hm:p.all yW=true):zP K p:=⟨fun q hq=>by
 have h0:intOf q.2≠0:=of_decide_eq_true (mN.1 hm q hq); have hs:okS q:=((h.p hK).1 q hq).s h0
 obtain ⟨h1,h2,h3,h4⟩:=h.1 q hq; obtain ⟨n1,n2⟩:=zF (intOf q.1) (intOf q.2) h0
 have m1:=wL q.1 h1; have m2:=wL q.2 h2
 exact ⟨hs,by unfold wI; omega,by unfold wI; omega⟩,h.2⟩
theorem wMJ {K:Nat} {ps:List (List QQ)} (h:∀ p∈ps,polW K p) (hK:K≤68719476736) (hm:vY ps=true):∀ p∈ps,zP K p:=fun p hp=>(h p hp).ok hK (mN.1 hm p hp)
theorem qI4 {n:Nat}:∀ {l:List (List Rat)} {s:Nat},yH n s l=true→∀ f∈l,2≤wV f∧atR f (wV f - 1)=1
 | [],_,_,f,hf=>by cases hf
 | g :: l,s,h,f,hf=>by
  rw [yH] at h
  split at h
  ·cases h
  ·rename_i h1
   split at h
   ·cases h
   ·rename_i h2
    split at h
    ·cases h
    ·rcases pQ.1 hf with rfl | hf
     ·exact ⟨by omega,bV fun e=>h2 e⟩
     ·exact qI4 h f hf
theorem qI3 {n:Nat}:∀ {ps:List (List QQ)} {s:Nat},yH n s (qX ps)=true→s+dsN (z8 ps)=n
 | [],s,h=>by
  rw [show qX []=[] from rfl,yH] at h; exact of_decide_eq_true h
 | p :: ps,s,h=>by
  rw [show qX (p :: ps)=wF p :: qX ps from rfl,yH] at h
  split at h
  ·cases h
  ·split at h
   ·cases h
   ·split at h
    ·cases h
    ·have:=qI3 h
     rw [show z8 (p :: ps)=wWH p :: z8 ps from rfl,xF]; show s+((wV (wF p) - 1)+dsN (z8 ps))=n
     omega
theorem wQG {n K:Nat} {ps:List (List QQ)} (hp:∀ p∈ps,zP K p) (h:yH n 0 (qX ps)=true):monO K ps∧dsN (z8 ps)=n :=
 ⟨fun p hpm=>⟨hp p hpm,qI4 h (wF p) (pJ.2 ⟨p,hpm,rfl⟩)⟩,by have:=qI3 h; omega⟩
theorem wX6 {ms:List MM} {K N:Nat} (hK1:1≤K) (h:∀ m∈ms,sqM m m.2.length K∧0<m.2.length) (hN:dsN (zT ms)=N) (hN24:N≤24):sqM (j8 N ms) N (25*K+1):=by
 have hml:ms.length≤24:=by have:=wOA fun m hm=>(h m hm).2; omega
 have hd0:=wMI fun m hm=>(h m hm).1.den
 have h1:=wUJ (K:=K) (ms:=ms) fun m hm=>pC (wL _ (h m hm).1.ok.1) (h m hm).1.ok.2.1
 have h3:ms.length*K≤24*K:=mC _ hml; have hI0:∀ a b,lm (dsA 0 (yJ (zI ms) ms) a b)≤25*K+1:=wT2 (fun x:Int=>lm x≤25*K+1) (by show lm 0≤_; unfold lm; simp [qB]) fun p hp a b _ _=>by
  obtain ⟨m,hm,rfl⟩:=pJ.1 hp; have h1:=ent_ok2 (h m hm).1 a b
  have h2:=qJ (intOf (ent m.2 a b)) ((zI ms).tdiv (intOf m.1)); have h3:lm ((zI ms).tdiv (intOf m.1))≤lm (zI ms):=jF (by rw [dX]; exact cN ..)
  show lm (intOf (ent m.2 a b)*(zI ms).tdiv (intOf m.1))≤_
  omega
 have:=wNG (d:=zn (zI ms)) (r:=N) (c:=N) (K:=25*K+1) (F:=dsA 0 (yJ (zI ms) ms)) (by rw [wE]; exact hd0) (by rw [wE]; omega) (by omega) hI0 (by omega) (by omega) (pC (dA hN24 hN24) (by decide))
 exact ⟨this.1,this.2.1,this.2.2.1,this.2.2.2⟩
theorem wX7 {ps:List (List QQ)} {K:Nat} (hK1:1≤K) (h:monO K ps) (hN:dsN (z8 ps)≤24):(∀ m∈ps.map qY,sqM m m.2.length (2*(25*K+1))∧0<m.2.length)∧dsN (zT (ps.map qY))=dsN (z8 ps):=by
 have h25:=wNE h hN; have hsq:∀ p∈ps,sqM (qY p) (wV (wF p) - 1) (2*(25*K+1)):=fun p hp=>wQI hK1 (h p hp).1 (h25 p hp)
 refine ⟨fun m hm=>?_,wX8 fun p hp=>(hsq p hp).rows⟩
 obtain ⟨p,hp,rfl⟩:=pJ.1 hm; have hs:=hsq p hp
 have h2:=(h p hp).2.1; rw [hs.rows]
 exact ⟨hs,by omega⟩
def rF (ps:List (List QQ)) (f t i:MM):V:=.ref [vPs ps,.bool f.1.1,vL f.1.2,vT f.2,.bool t.1.1,vL t.1.2,vT t.2,.bool i.1.1,vL i.1.2,vT i.2]
def rN (n:Nat):V:=.ref [.int .i64 (n:Nat)]
def frmC (n:Nat) (m:MM) (ps:List (List QQ)) (f t i:MM):List Chk:=[⟨1,34,[rF ps f t i,rN n],vY ps && sizedB n [f,t,i]⟩,⟨2,36,[rN n,rF ps f t i],yA n 0 none (qX ps)⟩,⟨3,38,[rF ps f t i],vB (j8 n (ps.map qY)) f⟩,⟨4,40,[rF ps f t i,rN n],vB (yV t i) (idM n)⟩,⟨5,41,[rF ps f t i,rM m],vB (yV (yV i m) t) f⟩]
theorem wGI {n K:Nat} {f t i:MM} (h:sizedB n [f,t,i]=true) (hf:okM f K) (ht:okM t K) (hi:okM i K):sqM f n K∧sqM t n K∧sqM i n K:=by
 simp only [sizedB,List.all_cons,List.all_nil,Bool.and_true,Bool.and_eq_true,decide_eq_true_eq] at h
 exact ⟨sqM.of hf h.1.1 h.1.2.1 h.1.2.2,sqM.of ht h.2.1.1 h.2.1.2.1 h.2.1.2.2,sqM.of hi h.2.2.1 h.2.2.2.1 h.2.2.2.2⟩
theorem frmC_first {n:Nat} {m f t i:MM} {ps:List (List QQ)} (hn:0<n) (hn':n≤24) (hm:sqM m n 1073741824) (hf:okM f 1073741824) (ht:okM t 1073741824) (hi:okM i 1073741824) (hp:∀ p∈ps,polW 1048576 p) (hl:ps.length≤1048576):wD Tryz.prog 19 [.list ((frmC n m ps f t i).map chkV)] (fun y=>y=.int .i64 (wAE (frmC n m ps f t i))):=by
 refine first_v _ (by show 5≤1099511627776; decide) fun j k hk hall=>?_
 have hb:=fun (h:0<j)=>hall 0 _ h rfl
 have hb0:0<j→vY ps=true∧sizedB n [f,t,i]=true:=fun h=>by
  have:=hb h; exact ⟨(fR.1 this).1,(fR.1 this).2⟩
 match j,hk with
 | 0,hk =>
  cases hk
  obtain ⟨⟨x,l⟩,u⟩:=f; obtain ⟨⟨x',l'⟩,u'⟩:=t
  obtain ⟨⟨x2,l2⟩,u2⟩:=i; exact ⟨⟨Tryz.f34,(rfl:zV.fns.get 34=some Tryz.f34)⟩,form1_v n (by omega) ps x x' x2 l l' l2 u u' u2 (zS hf (by decide)) (zS ht (by decide)) (zS hi (by decide)) (fun p hpm=>(hp p hpm).p (by decide)) (by omega)⟩
 | 1,hk =>
  cases hk
  have hpo:=wMJ hp (by decide) (hb0 (by decide)).1
  obtain ⟨⟨x,l⟩,u⟩:=f; obtain ⟨⟨x',l'⟩,u'⟩:=t
  obtain ⟨⟨x2,l2⟩,u2⟩:=i; exact ⟨⟨Tryz.f36,(rfl:zV.fns.get 36=some Tryz.f36)⟩,form2_v n 1048576 hn' (by decide) (by decide) ps x x' x2 l l' l2 u u' u2 hpo hl⟩
 | 2,hk =>
  cases hk
  have hpo:=wMJ hp (by decide) (hb0 (by decide)).1
  have hc:yA n 0 none (qX ps)=true:=hall 1 _ (by decide) rfl
  rw [wUI] at hc; obtain ⟨hmon,hN⟩:=wQG hpo (fR.1 hc).1
  obtain ⟨g1,g2,g3⟩:=wGI (hb0 (by decide)).2 hf ht hi
  obtain ⟨a1,a2⟩:=wX7 (by decide) hmon (by omega)
  have hS:=wX6 (by decide) a1 (a2.trans hN) hn'
  obtain ⟨⟨x,l⟩,u⟩:=f; obtain ⟨⟨x',l'⟩,u'⟩:=t
  obtain ⟨⟨x2,l2⟩,u2⟩:=i; exact ⟨⟨Tryz.f38,(rfl:zV.fns.get 38=some Tryz.f38)⟩,form3_v n 1048576 (by decide) (by decide) ps x x' x2 l l' l2 u u' u2 g1 hmon hl hN hn' (hS.mono (by decide))⟩
 | 3,hk =>
  cases hk
  obtain ⟨g1,g2,g3⟩:=wGI (hb0 (by decide)).2 hf ht hi
  obtain ⟨⟨x,l⟩,u⟩:=f; obtain ⟨⟨x',l'⟩,u'⟩:=t
  obtain ⟨⟨x2,l2⟩,u2⟩:=i; exact ⟨⟨Tryz.f40,(rfl:zV.fns.get 40=some Tryz.f40)⟩,form4_v n hn hn' ps x x' x2 l l' l2 u u' u2 g2 g3⟩
 | 4,hk =>
  cases hk
  obtain ⟨g1,g2,g3⟩:=wGI (hb0 (by decide)).2 hf ht hi
  obtain ⟨⟨x,l⟩,u⟩:=f; obtain ⟨⟨x',l'⟩,u'⟩:=t
  obtain ⟨⟨x2,l2⟩,u2⟩:=i; obtain ⟨⟨xa,la⟩,ua⟩:=m
  exact ⟨⟨Tryz.f41,(rfl:zV.fns.get 41=some Tryz.f41)⟩,form5_v n hn hn' ps xa x x' x2 la l l' l2 ua u u' u2 hm g1 g2 g3⟩
theorem vform_v (xa xf xt xi:Bool) (la lf lt li:List Nat) (ta tf tt ti:List (List ZZ)) (ps:List (List QQ)) (ha:okM ((xa,la),ta) 1073741824) (hf:okM ((xf,lf),tf) 1073741824) (ht:okM ((xt,lt),tt) 1073741824) (hi:okM ((xi,li),ti) 1073741824) (hp:∀ p∈ps,polW 1048576 p) (hl:ps.length≤1048576) :
  wD Tryz.prog 10 [.agg [.bool xa,vL la,vT ta],.agg [vPs ps,.bool xf,vL lf,vT tf,.bool xt,vL lt,vT tt,.bool xi,vL li,vT ti]] (fun y=>y=.tup [.int .i64 (if wL9 ((xa,la),ta)=0 then wAE (frmC ta.length ((xa,la),ta) ps ((xf,lf),tf) ((xt,lt),tt) ((xi,li),ti)) else 0),.int .i64 (wL9 ((xa,la),ta))]):=by
 refine wC wG Tryz.func10 rfl rfl rfl rfl fun w0=>?_
 have q1:=vfit_v xa la ta (zS ha (by decide))
 have hla:ta.length≤68719476736:=ha.2.2.1.1; have q3:wL9 ((xa,la),ta)=0→wD Tryz.prog 19 [.list ((frmC ta.length ((xa,la),ta) ps ((xf,lf),tf) ((xt,lt),tt) ((xi,li),ti)).map chkV)] (fun y=>y=.int .i64 (wAE (frmC ta.length ((xa,la),ta) ps ((xf,lf),tf) ((xt,lt),tt) ((xi,li),ti)))):=fun f1=>by
  obtain ⟨s1,s2,s3⟩:=fit_sq ha f1; exact frmC_first s2 s3 s1 hf ht hi hp hl
 generalize hF:wAE (frmC ta.length ((xa,la),ta) ps ((xf,lf),tf) ((xt,lt),tt) ((xi,li),ti))=F at *; generalize wL9 ((xa,la),ta)=fa at *
 clear hF ha hf ht hi hp
 by_cases f1:fa=0
 ·have q4:=q3 f1
  rw [if_pos f1]
  repeat (first | refine wg rfl (sL (jP ta)) ?_ | refine wc q1 ?_ | refine vw_toF 5 [jB 4 2,jC 5 [.v (.bool xa),.v (vL la),.v (vT ta)],jB 6 3,jC 7 [.v (vPs ps),.v (.bool xf),.v (vL lf),.v (vT tf),.v (.bool xt),.v (vL lt),.v (vT tt),.v (.bool xi),.v (vL li),.v (vT ti)],jB 14 7,jC 15 [.v (.int .i64 (ta.length:Nat))]] [jV 4 (rM ((xa,la),ta)),jV 6 (rF ps ((xf,lf),tf) ((xt,lt),tt) ((xi,li),ti)),jV 14 (rN ta.length)] rfl ⟨rfl,rfl,rfl,rfl,rfl,rfl,trivial⟩ (fun h=>wCG 2 2 rfl rfl rfl (wCG 3 3 rfl rfl rfl (wCG 7 7 rfl rfl rfl (vw_to _ (by exact rfl) (by exact ⟨rfl,rfl,rfl,trivial⟩) h)))) ?_ | refine wh q4 ?_ | refine wl ?_ | refine wv ?_ | refine wg rfl nF ?_ | refine wz ?_)
  refine ⟨.inl rfl,_,rfl,?_⟩
  rw [f1]
 ·rw [if_neg f1]
  repeat (first | refine wc q1 ?_ | refine wv ?_ | refine wg rfl nT ?_ | refine wz ?_)
  exact ⟨.inl rfl,_,rfl,rfl⟩
end Go.Proofs.YtkjhfnhgefbhhaaGreat
/- How a claimed form reads, as a tree. -/
namespace Go.Proofs.YtkjhfnhgefbhhaaGreat
open Go.ChangeShapes Go.WideShapes Go.ChangeAt Go.RowKit Go.Deep Go.Ev Go.Vl
theorem cells_rat:Tryz.prog.cellsOf 89=4:=by kernel_rfl
theorem cells_poly:Tryz.prog.cellsOf 65=1:=by kernel_rfl
theorem qI8:Tryz.prog.cellsOf 39=1:=by kernel_rfl
theorem cells_form:Tryz.prog.cellsOf 41=10:=by kernel_rfl
theorem four_val {cs:List Value} (h:cs.length=4):∃ u v x y,cs=[u,v,x,y]:=by
 match cs,h with
 | [u,v,x,y],_=>exact ⟨u,v,x,y,rfl⟩
def bkQ (q:QQ):Nat:=bkZ q.1+bkZ q.2
def bkP (p:List QQ):Nat:=(p.map bkQ).sum+1
def limP (p:List QQ):Prop:=∀ q∈p,okL q.1.2∧okL q.2.2
section
variable {H:Type} {enc:TypeId × Value→H} {W:World} {held:Bool}
theorem open_vrat {fuel:Nat} {cs:List Value} (hl:cs.length=4) {x:DataW H × List MemPlace} (h:DataW.trod enc Tryz.prog W 0 (fun _=>true) held fuel 89 cs=some x) :
  ∃ q:QQ,(okL q.1.2∧okL q.2.2)∧RepL (fun _=>True) W (wH q) cs∧bkQ q≤Rows.uptoBulk x.1:=by
 obtain ⟨c0,c1,c2,c3,rfl⟩:=four_val hl; obtain ⟨y0,y1,n,rfl,_,h0,h1⟩:=trod_struct2 Tryz.underlying89 h
 simp only [wQH,List.drop_zero,List.take_succ_cons,List.take_zero,List.drop_succ_cons] at h0 h1
 obtain ⟨z,hz,hr,hl⟩:=wJ7 rfl h0; obtain ⟨z',hz',hr',hl'⟩:=wJ7 rfl h1
 refine ⟨(z,z'),⟨hz,hz'⟩,?_,?_⟩
 ·have:=RepL.append hr hr'
  exact this
 ·simp only [Rows.uptoBulk,Rows.uptoBulkAll,bkQ]
  omega
theorem open_vpoly {fuel:Nat} {v:Value} {x:DataW H × List MemPlace} (h:DataW.trod enc Tryz.prog W 0 (fun _=>true) held fuel 65 [v]=some x) :
  ∃ p:List QQ,limP p∧Rep (fun _=>True) W (vQs p) v∧bkP p≤Rows.uptoBulk x.1 :=
 wA6 (k:=4) wH bkQ (fun q=>okL q.1.2∧okL q.2.2) Tryz.underlying65 cells_rat (by decide) (fun _=>⟨rfl,rfl⟩) (fun hl hy=>open_vrat hl hy) h
theorem qGB {fuel:Nat} {v:Value} {x:DataW H × List MemPlace} (h:DataW.trod enc Tryz.prog W 0 (fun _=>true) held fuel 39 [v]=some x) :
  ∃ ps:List (List QQ),(∀ p∈ps,limP p)∧Rep (fun _=>True) W (vPs ps) v∧(ps.map bkP).sum+1≤Rows.uptoBulk x.1 :=
 wA6 (k:=1) (fun p:List QQ=>[vQs p]) bkP limP Tryz.underlying39 cells_poly (by decide) (fun _=>⟨rfl,rfl⟩) (fun {n cs y} hl hy=>by
  obtain ⟨v,rfl⟩:=wSF hl; obtain ⟨l,h1,h2,h3⟩:=open_vpoly hy
  exact ⟨l,h1,.cons h2 .nil,h3⟩) h
set_option maxRecDepth 100000 in
theorem open_vform {r:Reach} {b0:Nat} {v:Value} {d:DataW H} {p:List MemPlace} (hv:Value.okWide Tryz.prog W r b0 41 v) (h:DataW.Trod enc Tryz.prog W 0 (fun _=>true) held 41 v d p) :
  ∃ (ps:List (List QQ)) (f t i:MM),(∀ p∈ps,limP p)∧limM f∧limM t∧limM i∧Rep (fun _=>True) W (.agg (vPs ps :: ((vM f).cells++((vM t).cells++(vM i).cells)))) v∧(ps.map bkP).sum+1+(bkM f+(bkM t+bkM i))≤Rows.uptoBulk d:=by
 obtain ⟨cs,rfl,hsz⟩:=okWide_struct Tryz.underlying41 hv; obtain ⟨fuel,hf⟩:=h
 have hl:cs.toList.length=10:=by rw [cV,hsz]; exact cells_form
 obtain ⟨y0,y1,y2,y3,n,hx,_,h0,h1,h2,h3⟩:=Go.Joins.trod_struct4 Tryz.underlying41 (x:=(d,p)) (cs:=cs.toList) (by simpa [Value.cells] using hf)
 simp only [qAJ,qI8] at h0 h1 h2 h3
 obtain ⟨v0,hv0⟩:=wSF (cs:=(cs.toList.drop 0).take 1) (by simp; omega)
 rw [hv0] at h0; obtain ⟨ps,a1,a2,a3⟩:=qGB h0
 obtain ⟨f,b1,b2,b3⟩:=wJ6 (by simp; omega) h1
 obtain ⟨t,c1,c2,c3⟩:=wJ6 (by simp; omega) h2
 obtain ⟨i,e1,e2,e3⟩:=wJ6 (by simp; omega) h3
 have hd:d=.agg [y0.1,y1.1,y2.1,y3.1]:=congrArg Prod.fst hx; refine ⟨ps,f,t,i,a1,b1,c1,e1,?_,?_⟩
 ·have e:cs.toList=v0 :: ((cs.toList.drop 1).take 3++((cs.toList.drop 4).take 3++(cs.toList.drop 7).take 3)):=by
   have k1:(cs.toList.drop 7).take 3=cs.toList.drop 7:=pN (by simp; omega)
   have k2:(cs.toList.drop 4).take 3++cs.toList.drop 7=cs.toList.drop 4:=by
    have:=bB 3 (cs.toList.drop 4)
    rwa [cC] at this
   have k3:(cs.toList.drop 1).take 3++cs.toList.drop 4=cs.toList.drop 1:=by
    have:=bB 3 (cs.toList.drop 1)
    rwa [cC] at this
   have k4:v0 :: cs.toList.drop 1=cs.toList:=by
    have:=bB 1 (cs.toList.drop 0); rw [hv0,cC,dG] at this
    exact this
   rw [k1,k2,k3,k4]
  have:=Rep.agg (S:=fun _=>True) (w:=W) (cs:=vPs ps :: ((vM f).cells++((vM t).cells++(vM i).cells))) rfl (.cons a2 (RepL.append b2 (RepL.append c2 e2)))
  rw [← e,dB] at this; exact this
 ·rw [hd]
  simp only [Rows.uptoBulk,Rows.uptoBulkAll]
  omega
end
theorem polW_small {p:List QQ} (h:limP p) (hb:bkP p≤1048576):polW 1048576 p:=by
 have e1:=wM6 bkQ (fun q=>by unfold bkQ bkZ; omega) p
 unfold bkP at hb; refine ⟨fun q hq=>?_,by omega⟩
 have e2:=wS5 bkQ hq; have e3:bkQ q=(q.1.2.length+1)+(q.2.2.length+1):=rfl
 exact ⟨(h q hq).1,(h q hq).2,by omega,by omega⟩
end Go.Proofs.YtkjhfnhgefbhhaaGreat
/- simileref27.Form told of trees. ALLOC -/
namespace Go.Proofs.YtkjhfnhgefbhhaaGreat
open Go.RowKit Go.Ev Go.Vl
def sumQ (n:Nat) (ps:List (List QQ)):MM:=zC (gQ n (dsA 0 (zT (ps.map kV))))
theorem qI6 {p:List QQ} {K:Nat} (hK1:1≤K) (h:zP K p) (hl:wV (wF p)≤25):sqM (kV p) (wV (wF p) - 1) (2*(25*K+1)):=by
 obtain ⟨D,c1,c2,c3⟩:=wOC hK1 (qC0 h) (by rw [qN]; exact hl) (wV (wF p) - 1)
 exact wW2 (by omega) D c1 c2 fun a b _ _=>c3 a b
theorem compQ_N:∀ {ps:List (List QQ)},(∀ p∈ps,(kV p).2.length=wV (wF p) - 1)→dsN (zT (ps.map kV))=dsN (z8 ps)
 | [],_=>rfl
 | p :: ps,h=>by
  rw [dL,show zT (kV p :: ps.map kV)=wLH (kV p) :: zT (ps.map kV) from rfl,show z8 (p :: ps)=wWH p :: z8 ps from rfl,xF,xF,compQ_N fun q hq=>h q (pT _ hq)]
  have:=h p (pO ..); show (kV p).2.length+_=(wV (wF p) - 1)+_
  rw [this]
theorem qAE {ps:List (List QQ)} {K:Nat} (hK1:1≤K) (h:monO K ps) (hN:dsN (z8 ps)≤24):(∀ m∈ps.map kV,sqM m m.2.length (2*(25*K+1))∧0<m.2.length)∧dsN (zT (ps.map kV))=dsN (z8 ps):=by
 have h25:=wNE h hN; have hsq:∀ p∈ps,sqM (kV p) (wV (wF p) - 1) (2*(25*K+1)):=fun p hp=>qI6 hK1 (h p hp).1 (h25 p hp)
 refine ⟨fun m hm=>?_,compQ_N fun p hp=>(hsq p hp).rows⟩
 obtain ⟨p,hp,rfl⟩:=pJ.1 hm; have hs:=hsq p hp
 have h2:=(h p hp).2.1; rw [hs.rows]
 exact ⟨hs,by omega⟩
theorem sumQ_v (ps:List (List QQ)) (n:Nat) (h:monO 1048576 ps) (hl:ps.length≤1048576) (hN:dsN (z8 ps)=n) (hn:0<n) (hn':n≤24):wD Tryz.prog 47 [vPs ps] (fun y=>y=vM (sumQ n ps)):=by
 obtain ⟨a1,a2⟩:=qAE (by decide) h (by omega)
 have h25:=wNE h (by omega)
 exact sum17_v ps 1048576 (by decide) (by decide) (fun p hp=>⟨(h p hp).1,(h p hp).2.1,h25 p hp⟩) hl _ (blocks11_v (ps.map kV) (2*(25*1048576+1)) n (by decide) (by decide) a1 (a2.trans hN) hn hn')
theorem sumQ_sqK {ps:List (List QQ)} {n K L:Nat} (hK1:1≤K) (h:monO K ps) (hN:dsN (z8 ps)=n) (hn':n≤24) (hL:2*(25*K+1)=L):sqM (sumQ n ps) n (2*(24*L+1)):=by
 obtain ⟨a1,a2⟩:=qAE (K:=K) hK1 h (by omega)
 rw [hL] at a1; have hml:(ps.map kV).length≤24:=by have:=wOA fun m hm=>(a1 m hm).2; omega
 have hd:=qIB (K:=L) (by omega) fun m hm=>(a1 m hm).1
 have hD0:=wWF fun m hm=>(a1 m hm).1.den
 have hDl:=qE3 (K:=L) fun m hm=>pC (wL _ (a1 m hm).1.ok.1) (a1 m hm).1.ok.2.1
 have h24:(ps.map kV).length*L≤24*L:=mC _ hml; exact wW2 (K:=24*L+1) hn' (denP (ps.map kV)) hD0 (by omega) fun a b _ _=>⟨(hd a b).1,by have:=(hd a b).2; omega⟩
theorem sumQ_sq {ps:List (List QQ)} {n:Nat} (h:monO 1048576 ps) (hN:dsN (z8 ps)=n) (hn':n≤24):sqM (sumQ n ps) n 17179869184:=(sumQ_sqK (by decide) h hN hn' rfl).mono (by decide)
def formR (n:Nat) (m:MM) (ps:List (List QQ)) (f t i:MM):Int :=
 if sqB n f=true∧sqB n t=true∧sqB n i=true∧vY ps=true then (if (yH n 0 (qX ps) && vX (qX ps))=true then (if vE f (sumQ n ps)=true then (if vE (zC (k9 t i)) (zC (idQ n))=true then (if vE (zC (k9 (zC (k9 i m)) t)) f=true then 0 else 5) else 4) else 3) else 2) else 1
theorem form27_v (n:Nat) (hn:0<n) (hn':n≤24) (xa xf xt xi:Bool) (la lf lt li:List Nat) (ta tf tt ti:List (List ZZ)) (ps:List (List QQ)) (ha:sqM ((xa,la),ta) n 1073741824) (hf:okM ((xf,lf),tf) 1073741824) (ht:okM ((xt,lt),tt) 1073741824) (hi:okM ((xi,li),ti) 1073741824) (hp:∀ p∈ps,polW 1048576 p) (hl:ps.length≤1048576) :
  wD Tryz.prog 12 [.agg [.bool xa,vL la,vT ta],.agg [vPs ps,.bool xf,vL lf,vT tf,.bool xt,vL lt,vT tt,.bool xi,vL li,vT ti]] (fun y=>y=.int .i64 (formR n ((xa,la),ta) ps ((xf,lf),tf) ((xt,lt),tt) ((xi,li),ti))):=by
 refine wC wG Tryz.func12 rfl rfl rfl rfl fun w0=>?_
 have hlen:(kB ta).length=n:=(jP ta).trans ha.rows; have q1:=wKF xf lf tf n (by omega) (zS hf (by decide))
 have q2:=wKF xt lt tt n (by omega) (zS ht (by decide))
 have q3:=wKF xi li ti n (by omega) (zS hi (by decide))
 have q4:=allMay09_v ps (fun p hpm=>⟨fun q hq=>(((hp p hpm).p (by decide)).1 q hq).z.2,by have:=(hp p hpm).2; omega⟩) (by omega)
 rw [show (ps.all fun p=>p.all yW)=vY ps from rfl] at q4
 unfold formR
 by_cases b1:sqB n ((xf,lf),tf)=true
 ·rw [b1] at q1
  by_cases b2:sqB n ((xt,lt),tt)=true
  ·rw [b2] at q2
   by_cases b3:sqB n ((xi,li),ti)=true
   ·rw [b3] at q3
    by_cases b4:vY ps=true
    ·rw [b4] at q4
     rw [if_pos ⟨b1,b2,b3,b4⟩]; have s1:=wPB b1 hf
     have s2:=wPB b2 ht; have s3:=wPB b3 hi
     have hpo:=wMJ hp (by decide) b4
     have q5:=chain27_v ps 1048576 n hn' (by decide) (by decide) hpo (by omega)
     by_cases b5:(yH n 0 (qX ps) && vX (qX ps))=true
     ·rw [b5] at q5
      rw [if_pos b5]; obtain ⟨hmon,hN⟩:=wQG hpo (fR.1 b5).1
      have q6:=sumQ_v ps n hmon hl hN hn hn'; have q7:=wLA (K:=17179869184) (s1.mono (by decide)) (sumQ_sq hmon hN hn') (by decide)
      have q8:=wV6 s2 s3 hn hn' (by decide)
      have q9:=ident11_v n hn hn'; have q10:=wLA (K:=17179869184) ((wW1 s2 s3 hn hn').mono (by decide)) (fromI_sq n hn') (by decide)
      have q11:=leads19_v n hn hn' xa xt xi xf la lt li lf ta tt ti tf ha s2 s3 s1; generalize vE ((xf,lf),tf) (sumQ n ps)=e3 at *
      generalize sumQ n ps=Z at *; generalize zC (k9 ((xt,lt),tt) ((xi,li),ti))=P at *
      generalize zC (idQ n)=I at *; generalize vE P I=e4 at *
      generalize vE (zC (k9 (zC (k9 ((xi,li),ti) ((xa,la),ta))) ((xt,lt),tt))) ((xf,lf),tf)=e5 at *; clear s1 s2 s3 ha hf ht hi hp hpo hmon hN b1 b2 b3 b4 b5
      obtain ⟨⟨px,pl⟩,pt⟩:=P; obtain ⟨⟨ix,il⟩,it⟩:=I
      obtain ⟨⟨zx,zl⟩,zt⟩:=Z; cases e3 with
      | true =>
       cases e4 with
       | true =>
        cases e5 with
        | true =>
         repeat (first | refine wg rfl (sL hlen) ?_ | refine wc q1 ?_ | refine wc q2 ?_ | refine wc q3 ?_ | refine wc q4 ?_ | refine wc q5 ?_ | refine wc q6 ?_ | refine wc q7 ?_ | refine wc q8 ?_ | refine wc q9 ?_ | refine wc q10 ?_ | refine wc q11 ?_ | refine wv ?_ | refine wz ?_)
         exact ⟨.inl rfl,_,rfl,rfl⟩
        | false =>
         repeat (first | refine wg rfl (sL hlen) ?_ | refine wc q1 ?_ | refine wc q2 ?_ | refine wc q3 ?_ | refine wc q4 ?_ | refine wc q5 ?_ | refine wc q6 ?_ | refine wc q7 ?_ | refine wc q8 ?_ | refine wc q9 ?_ | refine wc q10 ?_ | refine wc q11 ?_ | refine wv ?_ | refine wz ?_)
         exact ⟨.inl rfl,_,rfl,rfl⟩
       | false =>
        repeat (first | refine wg rfl (sL hlen) ?_ | refine wc q1 ?_ | refine wc q2 ?_ | refine wc q3 ?_ | refine wc q4 ?_ | refine wc q5 ?_ | refine wc q6 ?_ | refine wc q7 ?_ | refine wc q8 ?_ | refine wc q9 ?_ | refine wc q10 ?_ | refine wv ?_ | refine wz ?_)
        exact ⟨.inl rfl,_,rfl,rfl⟩
      | false =>
       repeat (first | refine wg rfl (sL hlen) ?_ | refine wc q1 ?_ | refine wc q2 ?_ | refine wc q3 ?_ | refine wc q4 ?_ | refine wc q5 ?_ | refine wc q6 ?_ | refine wc q7 ?_ | refine wv ?_ | refine wz ?_)
       exact ⟨.inl rfl,_,rfl,rfl⟩
     ·rw [if_neg b5]
      rw [gM] at b5; rw [b5] at q5
      clear s1 s2 s3 ha hf ht hi hp hpo
      repeat (first | refine wg rfl (sL hlen) ?_ | refine wc q1 ?_ | refine wc q2 ?_ | refine wc q3 ?_ | refine wc q4 ?_ | refine wc q5 ?_ | refine wv ?_ | refine wz ?_)
      exact ⟨.inl rfl,_,rfl,rfl⟩
    ·rw [if_neg fun h=>b4 h.2.2.2]
     rw [gM] at b4; rw [b4] at q4
     clear ha hf ht hi hp
     repeat (first | refine wg rfl (sL hlen) ?_ | refine wc q1 ?_ | refine wc q2 ?_ | refine wc q3 ?_ | refine wc q4 ?_ | refine wv ?_ | refine wz ?_)
     exact ⟨.inl rfl,_,rfl,rfl⟩
   ·rw [if_neg fun h=>b3 h.2.2.1]
    rw [gM] at b3; rw [b3] at q3
    clear ha hf ht hi hp
    repeat (first | refine wg rfl (sL hlen) ?_ | refine wc q1 ?_ | refine wc q2 ?_ | refine wc q3 ?_ | refine wv ?_ | refine kZ rfl rfl rfl rfl rfl rfl ?_ | refine wz ?_)
    exact ⟨.inl rfl,_,rfl,rfl⟩
  ·rw [if_neg fun h=>b2 h.2.1]
   rw [gM] at b2; rw [b2] at q2
   clear ha hf ht hi hp
   repeat (first | refine wg rfl (sL hlen) ?_ | refine wc q1 ?_ | refine wc q2 ?_ | refine wv ?_ | refine kZ rfl rfl rfl rfl rfl rfl ?_ | refine wz ?_)
   exact ⟨.inl rfl,_,rfl,rfl⟩
 ·rw [if_neg fun h=>b1 h.1]
  rw [gM] at b1; rw [b1] at q1
  clear ha hf ht hi hp
  repeat (first | refine wg rfl (sL hlen) ?_ | refine wc q1 ?_ | refine wv ?_ | refine kZ rfl rfl rfl rfl rfl rfl ?_ | refine wz ?_)
  exact ⟨.inl rfl,_,rfl,rfl⟩
end Go.Proofs.YtkjhfnhgefbhhaaGreat
