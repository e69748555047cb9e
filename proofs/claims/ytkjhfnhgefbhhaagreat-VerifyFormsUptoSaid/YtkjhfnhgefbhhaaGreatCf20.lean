/- simileref17.Chain, simileref27.chain told of trees. ALLOC -/
import Derived.Test.YtkjhfnhgefbhhaaGreatCf19
set_option linter.all false
set_option maxRecDepth 20000
set_option maxHeartbeats 6400000
namespace Go.Proofs.YtkjhfnhgefbhhaaGreat
open Go.RowKit Go.Ev Go.Vl
def wO9 (p q:List Rat):Bool:=decide ((wOB (wV q+1) [] (w8 q) (w8 p)).2.length=0)
def vX:List (List Rat)→Bool
 | p :: q :: l=>wO9 p q && vX (q :: l)
 | _=>true
def yH (n:Nat):Nat→List (List Rat)→Bool
 | s,[]=>decide (s=n)
 | s,f :: fs=>if wV f≤1 then false else if atR f (wV f - 1)≠1 then false else if n<s+(wV f - 1) then false else yH n (s+(wV f - 1)) fs
def qX (ps:List (List QQ)):List (List Rat):=ps.map wF
theorem wQ0 (ps:List (List QQ)):(qX ps).length=ps.length:=by unfold qX; rw [pF]
theorem wDI {ps:List (List QQ)} {j:Nat} {p:List QQ} (h:ps[j]? = some p):(qX ps)[j]? = some (wF p):=by unfold qX; rw [pI,h]; rfl
theorem sgnQ_qn (r:Rat):sgnQ (qn r)=0↔r=0:=by
 have e:intOf (qn r).2≠0:=by
  show intOf (zn (r.den:Int))≠0
  rw [wE]; have:=r.den_nz
  omega
 rw [wZ6 e,wN]
theorem chain17_v (ps:List (List QQ)) (K:Nat) (hK1:1≤K) (hK:K≤2097152) (h:∀ p∈ps,zP K p∧0<wV (wF p)∧wV (wF p)≤25) (hl:ps.length≤1099511627776) :
  wD Tryz.prog 90 [vPs ps] (fun y=>y=.bool (vX (qX ps))):=by
 refine wC wG Tryz.func90 rfl rfl rfl rfl fun w0=>?_
 repeat (first | refine wv ?_ | refine wz ?_)
 refine wJ (fun j:Nat=>[jV 0 (vPs ps),jI 6 (j+1)])
  (fun j=>vX ((qX ps).drop j)=vX (qX ps)) (fun j=>ps.length - j) 0 (fun _=>rfl) rfl ⟨rfl,rfl,trivial⟩ fun j hI=>?_
 rcases pG (j+1) ps.length with hj | hj
 ·obtain ⟨p,hp⟩:=gE (l:=ps) (i:=j) (by omega)
  obtain ⟨q,hq⟩:=gE hj; have hg:=j9 ps j p hp
  have hg2:=j9 ps (j+1) q hq; obtain ⟨a1,a2,a3⟩:=h p (pD hp)
  obtain ⟨b1,b2,b3⟩:=h q (pD hq); have q1:=qI1 p q K hK1 hK a1 b1 b3 a2 a3 _ rfl
  rw [show decide ((wOB (wV (wF q)+1) [] (w8 (wF q)) (w8 (wF p))).2.length=0)=wO9 (wF p) (wF q) from rfl] at q1; rw [zZ _ j _ (wDI hp),zZ _ (j+1) _ (wDI hq)] at hI
  rw [show vX (wF p :: wF q :: (qX ps).drop (j+1+1))=(wO9 (wF p) (wF q) && vX (wF q :: (qX ps).drop (j+1+1))) from rfl,← zZ _ (j+1) _ (wDI hq)] at hI; clear h a1 b1
  generalize wO9 (wF p) (wF q)=b at *; cases b with
  | true =>
   rw [dU] at hI
   repeat (first | refine wg rfl (sL (kR ps)) ?_ | refine wg rfl (sN j) ?_ | refine wg rfl (sX j hg) ?_ | refine wg rfl (sX (j+1) hg2) ?_ | refine wc q1 ?_ | refine wv ?_ | refine wg rfl cT ?_ | refine wg rfl sB ?_ | refine wz ?_)
   exact ⟨j+1,hI,by omega,rfl,rfl,trivial⟩
  | false =>
   rw [bH] at hI
   repeat (first | refine wg rfl (sL (kR ps)) ?_ | refine wg rfl (sN j) ?_ | refine wg rfl (sX j hg) ?_ | refine wg rfl (sX (j+1) hg2) ?_ | refine wc q1 ?_ | refine wv ?_ | refine wg rfl cT ?_ | refine wz ?_)
   refine ⟨.inl rfl,_,rfl,?_⟩
   rw [← hI]
 ·have e:vX ((qX ps).drop j)=true:=by
   have hd:((qX ps).drop j).length≤1:=by rw [pB9,wQ0]; omega
   rcases hd':(qX ps).drop j with _ | ⟨x,_ | ⟨y,z⟩⟩
   ·rfl
   ·rfl
   ·rw [hd'] at hd; simp only [List.length_cons] at hd; omega
  rw [e] at hI
  repeat (first | refine wg rfl (sL (kR ps)) ?_ | refine wv ?_ | refine wg rfl cF ?_ | refine wz ?_)
  refine ⟨.inl rfl,_,rfl,?_⟩
  rw [← hI]
theorem chain27_v (ps:List (List QQ)) (K n:Nat) (hn:n≤24) (hK1:1≤K) (hK:K≤2097152) (h:∀ p∈ps,zP K p) (hl:ps.length≤1099511627776) :
  wD Tryz.prog 46 [vPs ps,.int .i64 (n:Nat)] (fun y=>y=.bool (yH n 0 (qX ps) && vX (qX ps))):=by
 refine wC wG Tryz.func46 rfl rfl rfl rfl fun w0=>?_
 have qo:=wPD 1 (by omega)
 repeat (first | refine wg rfl (sL (kR ps)) ?_ | refine wv ?_ | refine wz ?_)
 refine wJ (fun b:Nat × Nat=>[jV 0 (vPs ps),jI 2 n,jI 10 (b.2),jV 16 (vPs ps),jI 18 (ps.length),jI 20 (b.1)])
  (fun b=>b.1≤ps.length∧b.2≤n∧yH n b.2 ((qX ps).drop b.1)=yH n 0 (qX ps)∧∀ i p,i<b.1→ps[i]? = some p→0<wV (wF p)∧wV (wF p)≤25) (fun b=>ps.length - b.1) (0,0) (fun _=>rfl) ⟨pH _,pH _,rfl,fun i p hi=>absurd hi (pG1 _)⟩ ⟨rfl,rfl,rfl,rfl,rfl,rfl,trivial⟩ fun ⟨j,s⟩ hI=>?_
 obtain ⟨i1,i2,i3,i4⟩:=hI; dsimp only at i1 i2 i3 i4 ⊢
 rcases pG j ps.length with hj | hj
 ·obtain ⟨p,hp⟩:=gE hj
  have hg:=j9 ps j p hp; have hpo:=h p (pD hp)
  have q1:=wWG p hpo.q (by have:=hpo.2; omega)
  rw [zZ _ j _ (wDI hp)] at i3; have hlr:=kS (wF p)
  rw [kN] at hlr; have hl2:=hpo.2
  have e1:yH n s (wF p :: (qX ps).drop (j+1))=if wV (wF p)≤1 then false else if atR (wF p) (wV (wF p) - 1)≠1 then false else if n<s+(wV (wF p) - 1) then false else yH n (s+(wV (wF p) - 1)) ((qX ps).drop (j+1)):=rfl
  rw [e1] at i3; rcases pG 1 (wV (wF p)) with hd | hd
  ·rw [if_neg (by omega)] at i3
   obtain ⟨m,hm⟩:∃ m,wV (wF p)=m+2:=⟨wV (wF p) - 2,by omega⟩
   have hle':=kS (wF p); obtain ⟨x,hx⟩:=gE (l:=(wF p)) (i:=m+1) (by omega)
   have q2:=wVG p hpo.q (by have:=hpo.2; omega) (m+1) hm x hx
   have hxB:okB K x:=by
    obtain ⟨q,hq,rfl⟩:=pJ.1 (pD hx); exact (hpo.1 q hq).2
   have q3:=rcmp5_v (qn x) (qn ((1:Nat):Rat)) (wA7 hxB (by omega)) (vV _ (by decide +kernel) (by decide +kernel))
   rw [wN,wN] at q3; have hz:=sgnQ_qn (x - ((1:Nat):Rat))
   have hx1:x - ((1:Nat):Rat)=0↔x=1:=by
    constructor
    ·intro e; have e2:x=(x - ((1:Nat):Rat))+((1:Nat):Rat):=by grind
     rw [e2,e,pF1]; rfl
    ·rintro rfl; decide +kernel
   rw [hm,show m+2 - 1=m+1 from rfl,kG hx] at i3; rw [hm] at q1
   unfold nR at q2 qo; generalize sgnQ (qn (x - ((1:Nat):Rat)))=sg at *
   by_cases hx2:x=1
   ·have h4:sg=0:=hz.2 (hx1.2 hx2)
    rw [if_neg (fun k=>k hx2)] at i3
    generalize qn ((1:Nat):Rat)=c1 at *; generalize qn x=cx at *
    clear h hpo hx hxB hx1; obtain ⟨⟨u1,u2⟩,⟨u3,u4⟩⟩:=c1
    obtain ⟨⟨v1,v2⟩,⟨v3,v4⟩⟩:=cx; rcases pG n (s+(m+1)) with hs | hs
    ·rw [if_pos hs] at i3
     repeat (first | refine wg rfl (sX j hg) ?_ | refine wg rfl (sN (s+(m+1))) ?_ | refine wc q1 ?_ | refine wc q2 ?_ | refine wc qo ?_ | refine wc q3 ?_ | refine wv ?_ | refine wg rfl cT ?_ | refine wg rfl cF ?_ | refine wg rfl nF ?_ | refine wz ?_)
     refine ⟨.inl rfl,_,rfl,?_⟩
     rw [← i3]; rfl
    ·rw [if_neg (by omega)] at i3
     repeat (first | refine wg rfl (sX j hg) ?_ | refine wg rfl (sN (s+(m+1))) ?_ | refine wc q1 ?_ | refine wc q2 ?_ | refine wc qo ?_ | refine wc q3 ?_ | refine wv ?_ | refine wg rfl cT ?_ | refine wg rfl cF ?_ | refine wg rfl nF ?_ | refine wg rfl sB ?_ | refine wz ?_)
     refine ⟨(j+1,s+(m+1)),⟨hj,hs,i3,fun i p' hi hp'=>?_⟩,by dsimp only; omega,rfl,rfl,rfl,rfl,rfl,rfl,trivial⟩
     rcases pG i j with hi2 | hi2
     ·exact i4 i p' hi2 hp'
     ·obtain rfl:i=j:=by dsimp only at hi; omega
      rw [hp] at hp'; cases hp'
      omega
   ·have h4:sg≠0:=fun e=>hx2 (hx1.1 (hz.1 e))
    rw [if_pos hx2] at i3; generalize qn ((1:Nat):Rat)=c1 at *
    generalize qn x=cx at *; clear h hpo hx hxB hx1
    obtain ⟨⟨u1,u2⟩,⟨u3,u4⟩⟩:=c1; obtain ⟨⟨v1,v2⟩,⟨v3,v4⟩⟩:=cx
    repeat (first | refine wg rfl (sX j hg) ?_ | refine wc q1 ?_ | refine wc q2 ?_ | refine wc qo ?_ | refine wc q3 ?_ | refine wv ?_ | refine wg rfl cT ?_ | refine wg rfl cF ?_ | refine wg rfl nT ?_ | refine wz ?_)
    refine ⟨.inl rfl,_,rfl,?_⟩
    rw [← i3]; rfl
  ·rw [if_pos hd] at i3
   generalize wV (wF p)=N at *; clear h hpo
   repeat (first | refine wg rfl (sX j hg) ?_ | refine wc q1 ?_ | refine wv ?_ | refine wg rfl cT ?_ | refine kZ rfl rfl rfl rfl rfl rfl ?_ | refine wz ?_)
   refine ⟨.inl rfl,_,rfl,?_⟩
   rw [← i3]; rfl
 ·rw [pY (by rw [wQ0]; exact hj)] at i3
  have q2:=chain17_v ps K hK1 hK (fun p hp=>by
   obtain ⟨i,hi⟩:=dW hp; have hi':i<ps.length:=by
    rcases pG i ps.length with h1 | h1
    ·exact h1
    ·rw [cE h1] at hi; cases hi
   exact ⟨h p hp,i4 i p (by omega) hi⟩) hl
  have e1:yH n s []=decide (s=n):=rfl; rw [e1] at i3
  generalize vX (qX ps)=cb at *; clear h
  by_cases hs:s=n
  ·rw [decide_eq_true hs] at i3
   rw [← i3,dU]
   repeat (first | refine wv ?_ | refine wg rfl cT ?_ | refine wg rfl cF ?_ | refine wc q2 ?_ | refine wz ?_)
   exact ⟨.inl rfl,_,rfl,rfl⟩
  ·rw [decide_eq_false hs] at i3
   rw [← i3,bH]
   repeat (first | refine wv ?_ | refine wg rfl cF ?_ | refine kZ rfl rfl rfl rfl rfl rfl ?_ | refine wz ?_)
   exact ⟨.inl rfl,_,rfl,rfl⟩
end Go.Proofs.YtkjhfnhgefbhhaaGreat
/- simileref11.Rows as a table of one's own, Zero; tables as functions. ALLOC -/
namespace Go.Proofs.YtkjhfnhgefbhhaaGreat
open Go.RowKit Go.Ev Go.Vl
def gQ (n:Nat) (G:Nat→Nat→Rat):List (List QQ):=(List.range n).map fun a=>(List.range n).map fun b=>qn (G a b)
theorem gQ_tab (n:Nat) (G:Nat→Nat→Rat):((gQ n G).map fun r=>r.map wH)=xM n n G:=by
 unfold gQ xM vU; rw [mT]
 refine mE fun a _=>?_
 simp only [Function.comp,List.map_map]
 rfl
theorem gQ_fin {n:Nat} {G:Nat→Nat→Rat} {L:List (Value × List (List V))} (hL:L.map (·.2)=xM n n G):wJI L=qU (gQ n G):=by
 rw [wTJ,hL,← gQ_tab]; unfold qU vQs
 rw [mT]
 rfl
theorem wL6 {n:Nat} {G:Nat→Nat→Rat} {q:QQ} (h:q∈(gQ n G).flatten):∃ a b,a<n∧b<n∧q=qn (G a b):=by
 obtain ⟨r,hr,hq⟩:=cL.1 h; obtain ⟨a,ha,rfl⟩:=pJ.1 hr
 obtain ⟨b,hb,rfl⟩:=pJ.1 hq; exact ⟨a,b,dK.1 ha,dK.1 hb,rfl⟩
theorem wL7 (n:Nat) (G:Nat→Nat→Rat):(gQ n G).length=n:=by unfold gQ; rw [pF,cK]
theorem wL5 {n:Nat} {G:Nat→Nat→Rat} {r:List QQ} (h:r∈gQ n G):r.length=n:=by
 obtain ⟨a,_,rfl⟩:=pJ.1 h; rw [pF,cK]
theorem qDB (n:Nat) (G:Nat→Nat→Rat):normQ (gQ n G):=fun q hq=>by
 obtain ⟨a,b,_,_,rfl⟩:=wL6 hq; rw [wN]
theorem rows11_t (x:Bool) (l:List Nat) (t:List (List ZZ)) (hd:okZ (x,l)) (h0:intOf (x,l)≠0) (ht:∀ r∈t,r.length≤1099511627776∧∀ z∈r,okZ z) (hl:t.length≤1099511627776) (ht0:0<t.length):wP0 Tryz.prog 74 [.agg [.bool x,vL l,vT t]] 64 89 4 ((wT ((x,l),t)).map fun r=>r.map wH):=by
 refine wK2 Tryz.func74 rfl rfl rfl rfl fun w0=>?_
 repeat (first | refine wg rfl (sL (jP t)) ?_ | refine wv ?_ | refine wz ?_)
 refine zR (d:=3) (id:=1) (k:=1) (T:=64) rfl rfl rfl rfl ?_
 obtain ⟨T,hT⟩:∃ T,((wT ((x,l),t)).map fun r=>r.map wH)=T:=⟨_,rfl⟩
 rw [hT]; refine wJ (fun b:Nat × List (Value × List (List V))=>[jB 2 1,jC 3 [.v (.bool x),.v (vL l),.v (vT t)],jO 6 1 64 1 (hdr b.2),
  jV 20 (vT t),jI 22 (t.length),jI 24 (b.1),(201,famO 89 4 b.2)])
  (fun b=>b.1≤t.length∧b.2.length=b.1∧b.2.map (·.2)=T.take b.1) (fun b=>t.length - b.1) (0,[]) (fun b=>by obtain ⟨i,L⟩:=b; cases L <;> rfl) ⟨pH _,rfl,rfl⟩ ⟨rfl,rfl,⟨_,rfl⟩,rfl,rfl,rfl,rfl,trivial⟩ fun ⟨j,L⟩ hI=>?_
 obtain ⟨i1,i2,i3⟩:=hI; dsimp only at i1 i2 i3 ⊢
 rcases pG j t.length with hj | hj
 ·obtain ⟨r,hr⟩:=gE hj
  obtain ⟨hrl,hro⟩:=ht r (pD hr); have hg:=wCH t j r hr
  obtain ⟨R,hRe⟩:∃ R,(r.map fun x'=>qn (Rat.divInt (intOf x') (intOf (x,l))))=R:=⟨_,rfl⟩
  have hRl:(R.map wH).length=r.length:=by rw [← hRe,pF,pF]
  have hTj:T[j]? = some (R.map wH):=by
   rw [← hT,← hRe]; unfold wT
   rw [pI,pI,hr]
   rfl
  have hnext:T.take j++[R.map wH]=T.take (j+1):=by rw [mO,hTj]; rfl
  have hrep:List.replicate r.length q0=(((R.map wH).take 0)++List.replicate ((R.map wH).length - 0) q0):=by rw [hRl]; simp
  cases L with
  | nil =>
   repeat (first | refine wg rfl (sL (vS r)) ?_ | refine wg rfl (sX j hg) ?_ | refine wg rfl (sM 7000 r.length r.length 4 64 hrep) ?_ | refine wv ?_ | refine wg rfl cT ?_ | refine wz ?_)
   refine wJ (fun k:Nat=>[jB 2 1,jC 3 [.v (.bool x),.v (vL l),.v (vT t)],jO 6 1 64 1 (hdr []),
    jV 20 (vT t),jI 22 (t.length),jI 24 j,(201,famO 89 4 []),
    jO 12 2 89 4 ((R.map wH).take k++List.replicate ((R.map wH).length - k) q0),jV 38 (.list (r.map wS)),jI 40 (r.length),jI 42 k])
    (fun k=>k≤r.length) (fun k=>r.length - k) 0 (fun _=>rfl) (pH _) ⟨rfl,rfl,⟨_,rfl⟩,rfl,rfl,rfl,rfl,⟨_,rfl⟩,rfl,rfl,rfl,trivial⟩ fun k hK=>?_
   rcases pG k r.length with hk | hk
   ·obtain ⟨z,hz⟩:=gE hk
    have hzo:=hro z (pD hz); have hg2:=wG7 r k z hz
    have q2:=wCJ z (x,l) hzo hd h0; have hgR:(R.map wH)[k]? = some (wH (qn (Rat.divInt (intOf z) (intOf (x,l))))):=by
     rw [← hRe,pI,pI,hz]
     rfl
    have hset:=v7 (R.map wH) q0 k _ hgR; have hown:((R.map wH).take k++List.replicate ((R.map wH).length - k) q0)[k]? = some q0:=by
     rw [mI (by rw [pM]; omega),mU,if_pos (by rw [pM]; omega)]
    have hlen:k<((R.map wH).take k++List.replicate ((R.map wH).length - k) q0).length:=by rw [pW,pM,mP]; omega
    generalize (R.map wH).take k++List.replicate ((R.map wH).length - k) q0=row at *; unfold q0 at hown
    clear hTj hnext hrep hT i3; obtain ⟨zx,zl⟩:=z
    repeat (first | refine wg rfl (sX k hg2) ?_ | refine wc q2 ?_ | refine wg rfl (sO k hlen) ?_ | refine wg rfl (sS hown (he:=by exact hset)) ?_ | refine wl ?_ | refine wv ?_ | refine wg rfl cT ?_ | refine wg rfl sB ?_ | refine wz ?_)
    exact ⟨k+1,hk,by omega,rfl,rfl,⟨_,rfl⟩,rfl,rfl,rfl,rfl,⟨_,rfl⟩,rfl,rfl,rfl,trivial⟩
   ·have hke:k=r.length:=by omega
    subst hke; have hfull:(R.map wH).take r.length++List.replicate ((R.map wH).length - r.length) q0=R.map wH:=by
     rw [pN (by omega),hRl,dV]
     simp
    rw [hfull]
    repeat (first | refine wM2 11 6 100 (L:=[]) rfl rfl fun u=>?_ | refine wf rfl rfl (z7 (id:=7002) (es2:=[[V.raw u]]) (m:=1) (bb:=24) wG rfl rfl rfl rfl rfl rfl rfl rfl rfl rfl rfl (fun e h=>by rw [pL.1 h]; rfl) rfl (by rw [jR]; simp only [maxLen,List.length_singleton]; omega) (by rw [jR]; simp only [List.length_singleton]; omega) rfl rfl (wO1 [] u (R.map wH))) ?_ | refine wv ?_ | refine wg rfl cF ?_ | refine wg rfl sB ?_ | refine wz ?_)
    exact ⟨(j+1,[]++[(u,R.map wH)]),⟨hj,by rw [pW,i2]; rfl,by rw [fM,i3]; exact hnext⟩,by dsimp only; omega,rfl,rfl,⟨_,rfl⟩,rfl,rfl,rfl,rfl,trivial⟩
  | cons p L =>
   repeat (first | refine wg rfl (sL (vS r)) ?_ | refine wg rfl (sX j hg) ?_ | refine wg rfl (sM 7000 r.length r.length 4 64 hrep) ?_ | refine wv ?_ | refine wg rfl cT ?_ | refine wz ?_)
   refine wJ (fun k:Nat=>[jB 2 1,jC 3 [.v (.bool x),.v (vL l),.v (vT t)],jO 6 1 64 1 (hdr (p :: L)),
    jV 20 (vT t),jI 22 (t.length),jI 24 j,(201,famO 89 4 (p :: L)),
    jO 12 2 89 4 ((R.map wH).take k++List.replicate ((R.map wH).length - k) q0),jV 38 (.list (r.map wS)),jI 40 (r.length),jI 42 k])
    (fun k=>k≤r.length) (fun k=>r.length - k) 0 (fun _=>rfl) (pH _) ⟨rfl,rfl,⟨_,rfl⟩,rfl,rfl,rfl,rfl,⟨_,rfl⟩,rfl,rfl,rfl,trivial⟩ fun k hK=>?_
   rcases pG k r.length with hk | hk
   ·obtain ⟨z,hz⟩:=gE hk
    have hzo:=hro z (pD hz); have hg2:=wG7 r k z hz
    have q2:=wCJ z (x,l) hzo hd h0; have hgR:(R.map wH)[k]? = some (wH (qn (Rat.divInt (intOf z) (intOf (x,l))))):=by
     rw [← hRe,pI,pI,hz]
     rfl
    have hset:=v7 (R.map wH) q0 k _ hgR; have hown:((R.map wH).take k++List.replicate ((R.map wH).length - k) q0)[k]? = some q0:=by
     rw [mI (by rw [pM]; omega),mU,if_pos (by rw [pM]; omega)]
    have hlen:k<((R.map wH).take k++List.replicate ((R.map wH).length - k) q0).length:=by rw [pW,pM,mP]; omega
    generalize (R.map wH).take k++List.replicate ((R.map wH).length - k) q0=row at *; unfold q0 at hown
    clear hTj hnext hrep hT i3; obtain ⟨zx,zl⟩:=z
    repeat (first | refine wg rfl (sX k hg2) ?_ | refine wc q2 ?_ | refine wg rfl (sO k hlen) ?_ | refine wg rfl (sS hown (he:=by exact hset)) ?_ | refine wl ?_ | refine wv ?_ | refine wg rfl cT ?_ | refine wg rfl sB ?_ | refine wz ?_)
    exact ⟨k+1,hk,by omega,rfl,rfl,⟨_,rfl⟩,rfl,rfl,rfl,rfl,⟨_,rfl⟩,rfl,rfl,rfl,trivial⟩
   ·have hke:k=r.length:=by omega
    subst hke; have hfull:(R.map wH).take r.length++List.replicate ((R.map wH).length - r.length) q0=R.map wH:=by
     rw [pN (by omega),hRl,dV]
     simp
    rw [hfull]
    repeat (first | refine wM2 11 6 100 (L:=(p :: L)) rfl rfl fun u=>?_ | refine wf rfl rfl (z7 (id:=7002) (es2:=[[V.raw u]]) (m:=1) (bb:=24) wG rfl rfl rfl rfl rfl rfl rfl rfl rfl rfl rfl (fun e h=>by rw [pL.1 h]; rfl) rfl (by rw [jR]; simp only [maxLen,List.length_singleton]; omega) (by rw [jR]; simp only [List.length_singleton]; omega) rfl rfl (wO1 (p :: L) u (R.map wH))) ?_ | refine wv ?_ | refine wg rfl cF ?_ | refine wg rfl sB ?_ | refine wz ?_)
    exact ⟨(j+1,(p :: L)++[(u,R.map wH)]),⟨hj,by rw [pW,i2]; rfl,by rw [fM,i3]; exact hnext⟩,by dsimp only; omega,rfl,rfl,⟨_,rfl⟩,rfl,rfl,rfl,rfl,trivial⟩
 ·have hje:j=t.length:=by omega
  subst hje; have hTl:T.length=t.length:=by rw [← hT,pF]; unfold wT; rw [pF]
  rw [pN (by omega)] at i3
  cases L with
  | nil =>
   simp only [List.length_nil] at i2
   omega
  | cons p L =>
   repeat (first | refine wv ?_ | refine wg rfl cF ?_ | refine wz ?_)
   exact ⟨.inl rfl,3,1,100,p :: L,rfl,rfl,i3⟩
theorem zero11_v (n:Nat) (hn:0<n) (hn':n≤24):wD Tryz.prog 149 [.int .i64 (n:Nat),.int .i64 (n:Nat)] (fun y=>y=vM (zC (gQ n fun _ _=>0))):=by
 refine wC wG Tryz.func149 rfl rfl rfl rfl fun w0=>?_
 have q4:=wO4 n n hn (by omega) (by omega)
 rw [wII] at q4; have q7:=wI0 (gQ n fun _ _=>0) 1 (by decide) (pC wFI (by decide)) (fun q hq=>by
  obtain ⟨a,b,_,_,rfl⟩:=wL6 hq; refine ⟨vV _ (by show lm 0≤_; unfold lm; simp [qB]) (by show lm 1≤_; exact pC wFI (by decide)),?_⟩
  rw [wN]; exact pC9 1) (by rw [wL7]; omega) (by
  rw [jK fun r hr=>wL5 hr,wL7]
  exact pC (dA hn' hn') (by decide)) (fun r hr=>by rw [wL5 hr]; omega)
 repeat (first | refine wTB 1 rfl ?_ | refine wGH wG 1 200 rfl rfl rfl rfl rfl rfl rfl rfl q4 rfl rfl rfl rfl fun L0 hL0=>?_ | refine sq_v wG rfl rfl rfl rfl ?_ | refine wl ?_ | refine wz ?_)
 refine sq_frzTab 7 200 rfl rfl ?_
 rw [gQ_fin hL0]
 repeat (first | refine sq_call wG rfl rfl rfl rfl rfl rfl rfl rfl q7 rfl rfl ?_ | refine sq_v wG rfl rfl rfl rfl ?_ | refine wM9 rfl ?_ | refine wz ?_)
 exact ⟨.inl rfl,_,rfl,rfl⟩
end Go.Proofs.YtkjhfnhgefbhhaaGreat
/- simileref17.Of: the companion matrix. ALLOC -/
namespace Go.Proofs.YtkjhfnhgefbhhaaGreat
open Go.RowKit Go.Ev Go.Vl
theorem wW2 {n K:Nat} {G:Nat→Nat→Rat} (hn':n≤24) (D:Nat) (hD:0<D) (hDl:lm (D:Int)≤K) (hG:∀ a b,a<n→b<n→(G a b).den∣D∧lm (G a b).num≤K):sqM (zC (gQ n G)) n (2*K):=by
 have hr:∀ x∈(zC (gQ n G)).2,x.length=n:=fun x hx=>by
  obtain ⟨r',hr',rfl⟩:=pJ.1 hx; rw [pF,wL5 hr']
 have hlen:(zC (gQ n G)).2.length=n:=by
  show (List.map _ (gQ n G)).length=_
  rw [pF,wL7]
 have hDd:qM (gQ n G).flatten∣D:=wEF _ _ fun q hq=>by
  obtain ⟨a,b,ha,hb,rfl⟩:=wL6 hq; rw [wN]
  exact (hG a b ha hb).1
 have hDm:lm ((qM (gQ n G).flatten:Nat):Int)≤K:=by
  refine pC (jF (y:=(D:Int)) ?_) hDl
  rw [mS,mS]; exact cO hD hDd
 refine ⟨⟨wD5 _,?_,⟨by rw [hlen]; omega,fun x hx=>⟨by rw [hr x hx]; omega,fun z hz=>?_⟩⟩,by rw [jK hr,hlen]; exact pC (dA hn' hn') (by decide)⟩,qE4 _ (wQ9 _) (wO5 _ _ hr),hlen,hr⟩
 ·show lm ((qM (gQ n G).flatten:Nat):Int)≤_
  omega
 ·obtain ⟨r',hr',rfl⟩:=pJ.1 hx
  obtain ⟨q,hq,rfl⟩:=pJ.1 hz; refine ⟨wD5 _,?_⟩
  obtain ⟨a,b,ha,hb,rfl⟩:=wL6 (cL.2 ⟨r',hr',hq⟩); show lm (wI (qn (G a b))*((qM (gQ n G).flatten:Nat):Int)).num≤_
  rw [wN]; have e:=(wJA (G a b) (((qM (gQ n G).flatten:Nat):Int):Rat) rfl).1
  have e2:lm (((qM (gQ n G).flatten:Nat):Int):Rat).num=lm ((qM (gQ n G).flatten:Nat):Int):=rfl; have:=(hG a b ha hb).2
  omega
theorem qHB {n K:Nat} {G:Nat→Nat→Rat} (hn':n≤24) (D:Nat) (hD:0<D) (hDl:lm (D:Int)≤K) (hG:∀ a b,a<n→b<n→(G a b).den∣D∧lm (G a b).num≤K) (hK:K≤68719476736):wD Tryz.prog 65 [.list (qU (gQ n G))] (fun y=>y=vM (zC (gQ n G))) :=
 wI0 (gQ n G) D hD (pC hDl hK) (fun q hq=>by
  obtain ⟨a,b,ha,hb,rfl⟩:=wL6 hq; obtain ⟨g1,g2⟩:=hG a b ha hb
  have g3:lm ((G a b).den:Int)≤lm (D:Int):=jF (by rw [mS,mS]; exact cO hD g1)
  refine ⟨vV _ (by omega) (by omega),?_⟩
  rw [wN]; exact g1) (by rw [wL7]; omega) (by
  rw [jK fun r hr=>wL5 hr,wL7]
  exact pC (dA hn' hn') (by decide)) (fun r hr=>by rw [wL5 hr]; omega)
def jX (n:Nat) (A:List Rat):Nat→Nat→Rat:=fun a b=>if b+1=n then -(atR A a) else if b+1=a then 1 else 0
def cG (n:Nat) (A:List Rat) (i:Nat):Nat→Nat→Rat:=fun a b=>if a<i then jX n A a b else 0
theorem cG_first (n:Nat) (A:List Rat) (a b:Nat):cG n A 0 a b=0:=by unfold cG; rw [if_neg (by omega)]
theorem cG_last (n:Nat) (A:List Rat) (a b:Nat) (h:a<n):cG n A n a b=jX n A a b:=by unfold cG; rw [if_pos h]
theorem cG_zero (m:Nat) (A:List Rat):wBA (cG (m+1) A 0) 0 m (-(atR A 0))=cG (m+1) A 1:=by
 funext a b
 unfold wBA cG jX
 by_cases h:a=0
 ·subst h
  by_cases h2:b=m
  ·subst h2
   rw [if_pos ⟨rfl,rfl⟩,if_pos (by omega),if_pos rfl]
  ·rw [if_neg (by omega),if_neg (by omega),if_pos (by omega),if_neg (by omega),if_neg (by omega)]
 ·rw [if_neg (by omega),if_neg (by omega),if_neg (by omega)]
theorem cG_next (m:Nat) (A:List Rat) (i:Nat) (hi:i+1<m+1):wBA (wBA (cG (m+1) A (i+1)) (i+1) i 1) (i+1) m (-(atR A (i+1)))=cG (m+1) A (i+2):=by
 funext a b
 unfold wBA cG jX
 by_cases h:a=i+1
 ·subst h
  by_cases h2:b=m
  ·subst h2
   rw [if_pos ⟨rfl,rfl⟩,if_pos (by omega),if_pos rfl]
  ·rw [if_neg (by omega)]
   by_cases h3:b=i
   ·subst h3
    rw [if_pos ⟨rfl,rfl⟩,if_pos (by omega),if_neg (by omega),if_pos rfl]
   ·rw [if_neg (by omega),if_neg (by omega),if_pos (by omega),if_neg (by omega),if_neg (by omega)]
 ·rw [if_neg (by omega),if_neg (by omega)]
  by_cases h2:a<i+1
  ·rw [if_pos h2,if_pos (show a<i+2 by omega)]
  ·rw [if_neg h2,if_neg (show ¬ a<i+2 by omega)]
theorem cG_again (m:Nat) (A:List Rat) (i:Nat) (hi:i+1=m):wBA (cG (m+1) A (i+2)) (i+1) i 1=cG (m+1) A (i+2):=by
 funext a b
 unfold wBA
 by_cases h:a=i+1∧b=i
 ·obtain ⟨rfl,rfl⟩:=h
  rw [if_pos ⟨rfl,rfl⟩]; unfold cG jX
  rw [if_pos (by omega),if_neg (by omega),if_pos rfl]
 ·rw [if_neg h]
theorem wOC {K:Nat} (hK:1≤K) {A:List Rat} (h:∀ x∈A,okB K x) (hl:A.length≤25) (n:Nat):∃ D:Nat,0<D∧lm (D:Int)≤25*K+1∧∀ a b,(jX n A a b).den∣D∧lm (jX n A a b).num≤25*K+1:=by
 obtain ⟨D,d1,d2,d3⟩:=wQE hK A h; have e1:A.length*K≤25*K:=mC _ hl
 have hz:=(wA8 K hK).1; refine ⟨D.natAbs,by omega,?_,fun a b=>?_⟩
 ·rw [show lm ((D.natAbs:Nat):Int)=lm D from by unfold lm; rw [mS]]
  omega
 ·unfold jX
  split
  ·show (atR A a).den∣_∧lm (-(atR A a).num)≤_
   rw [wL3]; rcases pG a A.length with ha | ha
   ·obtain ⟨x,hx⟩:=gE ha
    rw [kG hx]; have hm:=pD hx
    obtain ⟨n,g1,g2⟩:=d3 x hm; have:=(h x hm).1
    exact ⟨by rw [g1]; exact wEE n D d1,by omega⟩
   ·rw [zU ha]
    exact ⟨gD _,by omega⟩
  ·split
   ·exact ⟨gD _,pC wFI (by omega)⟩
   ·exact ⟨gD _,by omega⟩
theorem of17_v (qs:List QQ) (K:Nat) (hK1:1≤K) (hK:K≤2097152) (h:zP K qs) (m:Nat) (hm:m+1≤24) (hd:wV (wF qs)=m+2) (A:List Rat) (hA:w8 (wF qs)=A):wD Tryz.prog 91 [vQs qs] (fun y=>y=vM (zC (gQ (m+1) (jX (m+1) A)))):=by
 refine wC wG Tryz.func91 rfl rfl rfl rfl fun w0=>?_
 have q1:=yD qs h.q (by have:=h.2; omega)
 rw [qCI,hA] at q1; have lA:A.length=m+2:=by rw [← hA,qN,hd]
 have e:((wQ A).map wH).length=m+2:=by rw [pF,jW,lA]
 have mA:∀ x∈A,okB K x:=fun x hx=>by
  rw [← hA] at hx; obtain ⟨q,hq,rfl⟩:=pJ.1 (xU hx)
  exact (h.1 q hq).2
 have q2:=zero11_v (m+1) (by omega) hm
 have sz:sqM (zC (gQ (m+1) fun _ _=>0)) (m+1) 68719476736:=(wW2 (K:=1) hm 1 (by decide) wFI (fun _ _ _ _=>⟨pC9 1,(wA8 1 (pE 1)).1⟩)).mono (by decide)
 have er:=vO (gQ (m+1) fun _ _=>0) (qDB _ _)
 have q3:wP0 Tryz.prog 74 [vM (zC (gQ (m+1) fun _ _=>0))] 64 89 4 (xM (m+1) (m+1) fun _ _=>0):=by
  have o:=sz.ok; have d:=sz.den
  have r:=sz.rows; clear q2 sz
  generalize zC (gQ (m+1) fun _ _=>0)=M at *
  rw [← gQ_tab,← er]; clear er
  obtain ⟨⟨x,l⟩,t⟩:=M; dsimp only at r
  exact rows11_t x l t ⟨o.1,pC o.2.1 (by decide)⟩ d (fun r hr=>⟨pC (o.2.2.1.2 r hr).1 (by decide),fun z hz=>⟨((o.2.2.1.2 r hr).2 z hz).1,pC ((o.2.2.1.2 r hr).2 z hz).2 (by decide)⟩⟩) (pC o.2.2.1.1 (by decide)) (by omega)
 obtain ⟨D,c1,c2,c3⟩:=wOC hK1 mA (by omega) (m+1)
 have q7:=qHB (G:=jX (m+1) A) hm D c1 c2 (fun a b _ _=>c3 a b) (by omega)
 have q5:=wPD 1 (by decide)
 have ez:((1:Nat):Rat)=1:=rfl; rw [ez] at q5
 clear er sz c3 c2 hA; generalize zC (gQ (m+1) fun _ _=>0)=Z at *
 repeat (first | refine wg rfl (sL e) ?_ | refine wg rfl (sN (m+1)) ?_ | refine wc q1 ?_ | refine wTB 3 rfl ?_ | refine sq_call wG rfl rfl rfl rfl rfl rfl rfl rfl q2 rfl rfl ?_ | refine wGH wG 1 200 rfl rfl rfl rfl rfl rfl rfl rfl q3 rfl rfl rfl rfl fun L0 hL0=>?_ | refine sq_v wG rfl rfl rfl rfl ?_ | refine wM9 rfl ?_ | refine wl ?_ | refine wv ?_ | refine wz ?_)
 have hHl:(hdr L0).length=m+1:=by
  rw [jR]; have:=congrArg List.length hL0
  rwa [pF,wBD] at this
 rw [hHl]; obtain ⟨H,hH0⟩:∃ H,hdr L0=H:=⟨_,rfl⟩
 rw [hH0] at hHl ⊢; have hL1:L0.map (·.2)=xM (m+1) (m+1) (cG (m+1) A 0):=by
  rw [hL0]; exact yO fun a _ b _=>(cG_first _ _ a b).symm
 refine wJ (fun b:Nat × List (Value × List (List V))=>[jV 0 (vQs (wQ A)),jB 4 2,jC 5 [.v (.bool false),.nils,.nils],jI 6 (m+1),jO 8 1 64 1 H,(401,some (.fam 89 4 b.2)),jI 32 (m+1),jI 34 (b.1)])
  (fun b=>b.1≤m+1∧hdr b.2=H∧b.2.map (·.2)=xM (m+1) (m+1) (cG (m+1) A b.1)) (fun b=>m+1 - b.1) (0,L0) (fun _=>rfl) ⟨pH _,hH0,hL1⟩ ⟨rfl,rfl,rfl,rfl,⟨_,rfl⟩,rfl,rfl,rfl,trivial⟩ fun ⟨i,L1⟩ hI=>?_
 obtain ⟨hI1,hI2,hI3⟩:=hI; dsimp only at hI1 hI2 hI3 ⊢
 clear hL0 hL1 hH0 h hd; rcases pG i (m+1) with hi | hi
 ·obtain ⟨y,hy⟩:=gE (l:=A) (i:=i) (by omega)
  have q6:=rneg5_v (qn y) (wA7 (mA y (pD hy)) (by omega))
  rw [wN] at q6; have hgA:((wQ A).map wH)[i]? = some (wH (qn y)):=by unfold wQ; rw [pI,pI,hy]; rfl
  have hHi:i<H.length:=by omega
  have ey:=kG hy; unfold nR at q5 q6
  cases i with
  | zero =>
   obtain ⟨u,k1,k2,k3,k4⟩:=wBC (k:=m) hI2 hI3 hi (by omega) (-(atR A 0))
   rw [cG_zero] at k4; rw [ey] at k3 k4
   have hrow:(vU (m+1) (cG (m+1) A 0) 0)[m]? = some (wH (qn (cG (m+1) A 0 0 m))):=wB1 _ _ (by omega)
   have hrl:=v8 (m+1) (cG (m+1) A 0) 0; have hkl:m<(vU (m+1) (cG (m+1) A 0) 0).length:=by omega
   clear hI2 hI3; generalize vU (m+1) (cG (m+1) A 0) 0=es at *
   obtain ⟨L4,hL4⟩:∃ L4,L1.set 0 (u,es.set m (wH (qn (-y))))=L4:=⟨_,rfl⟩; rw [hL4] at k3 k4
   generalize qn (cG (m+1) A 0 0 m)=qz at *; generalize qn (-y)=ny at *
   generalize qn y=py at *; rcases mF m with hm0 | hm0
   ·repeat (first | refine wg rfl (sX 0 hgA) ?_ | refine wg rfl (sN m) ?_ | refine wg rfl (sO 0 hHi) ?_ | refine wg rfl (qP wG rfl rfl rfl k2 rfl rfl rfl) ?_ | refine wg rfl (jY wG (j:=200) (r:=0) (i:=m) rfl rfl rfl rfl rfl rfl rfl k1 hkl rfl) ?_ | refine wg rfl (kM wG (j:=200) rfl rfl rfl k1 hrow rfl rfl rfl rfl (pE _) rfl hL4) ?_ | refine wc q6 ?_ | refine wv ?_ | refine wg rfl cT ?_ | refine wg rfl cF ?_ | refine wg rfl sB ?_ | refine wz ?_)
    exact ⟨(1,L4),⟨hi,k3,k4⟩,by dsimp only; omega,rfl,rfl,rfl,rfl,⟨_,rfl⟩,rfl,rfl,rfl,trivial⟩
   ·repeat (first | refine wg rfl (sX 0 hgA) ?_ | refine wg rfl (sN m) ?_ | refine wg rfl (sO 0 hHi) ?_ | refine wg rfl (qP wG rfl rfl rfl k2 rfl rfl rfl) ?_ | refine wg rfl (jY wG (j:=200) (r:=0) (i:=m) rfl rfl rfl rfl rfl rfl rfl k1 hkl rfl) ?_ | refine wg rfl (kM wG (j:=200) rfl rfl rfl k1 hrow rfl rfl rfl rfl (pE _) rfl hL4) ?_ | refine wc q6 ?_ | refine wv ?_ | refine wg rfl cT ?_ | refine wg rfl cF ?_ | refine wg rfl sB ?_ | refine kZ rfl rfl rfl rfl rfl rfl ?_ | refine wz ?_)
    exact ⟨(1,L4),⟨hi,k3,k4⟩,by dsimp only; omega,rfl,rfl,rfl,rfl,⟨_,rfl⟩,rfl,rfl,rfl,trivial⟩
  | succ j =>
   obtain ⟨u,k1,k2,k3,k4⟩:=wBC (k:=j) hI2 hI3 hi (by omega) 1
   have hrow:(vU (m+1) (cG (m+1) A (j+1)) (j+1))[j]? = some (wH (qn (cG (m+1) A (j+1) (j+1) j))):=wB1 _ _ (by omega)
   have hrl:=v8 (m+1) (cG (m+1) A (j+1)) (j+1); have hkl:j<(vU (m+1) (cG (m+1) A (j+1)) (j+1)).length:=by omega
   clear hI2 hI3; generalize vU (m+1) (cG (m+1) A (j+1)) (j+1)=es at *
   obtain ⟨L2,hL2⟩:∃ L2,L1.set (j+1) (u,es.set j (wH (qn 1)))=L2:=⟨_,rfl⟩; rw [hL2] at k3 k4
   generalize qn (cG (m+1) A (j+1) (j+1) j)=qz at *; obtain ⟨u',l1,l2,l3,l4⟩:=wBC (k:=m) k3 k4 hi (by omega) (-(atR A (j+1)))
   have hu:u'=u:=by rw [k2] at l2; injection l2 with l2; injection l2 with l2; injection l2 with l2; exact l2.symm
   subst hu; have hrow2:=wB1 (c:=m+1) (wBA (cG (m+1) A (j+1)) (j+1) j 1) (j+1) (b:=m) (by omega)
   have hrl2:=v8 (m+1) (wBA (cG (m+1) A (j+1)) (j+1) j 1) (j+1); have hkl2:m<(vU (m+1) (wBA (cG (m+1) A (j+1)) (j+1) j 1) (j+1)).length:=by omega
   rw [cG_next m A j (by omega)] at l4
   rw [ey] at l3 l4; generalize vU (m+1) (wBA (cG (m+1) A (j+1)) (j+1) j 1) (j+1)=es2 at *
   obtain ⟨L3,hL3⟩:∃ L3,L2.set (j+1) (u',es2.set m (wH (qn (-y))))=L3:=⟨_,rfl⟩; rw [hL3] at l3 l4
   generalize qn (wBA (cG (m+1) A (j+1)) (j+1) j 1 (j+1) m)=qz2 at *; rcases pG (j+1) m with hjm | hjm
   ·generalize qn (-y)=ny at *
    generalize qn y=py at *; generalize qn 1=p1 at *
    clear k4 l2 ey hy
    repeat (first | refine wg rfl (sX (j+1) hgA) ?_ | refine wg rfl (sN m) ?_ | refine wg rfl (sN j) ?_ | refine wg rfl (sO (j+1) hHi) ?_ | refine wg rfl (qP wG rfl rfl rfl k2 rfl rfl rfl) ?_ | refine wg rfl (jY wG (j:=200) (r:=j+1) (i:=j) rfl rfl rfl rfl rfl rfl rfl k1 hkl rfl) ?_ | refine wg rfl (kM wG (j:=200) rfl rfl rfl k1 hrow rfl rfl rfl rfl (pE _) rfl hL2) ?_ | refine wg rfl (jY wG (j:=200) (r:=j+1) (i:=m) rfl rfl rfl rfl rfl rfl rfl l1 hkl2 rfl) ?_ | refine wg rfl (kM wG (j:=200) rfl rfl rfl l1 hrow2 rfl rfl rfl rfl (pE _) rfl hL3) ?_ | refine wc q5 ?_ | refine wc q6 ?_ | refine wv ?_ | refine wg rfl cT ?_ | refine wg rfl cF ?_ | refine wg rfl sB ?_ | refine kZ rfl rfl rfl rfl rfl rfl ?_ | refine wz ?_)
    exact ⟨(j+2,L3),⟨hi,l3,l4⟩,by dsimp only; omega,rfl,rfl,rfl,rfl,⟨_,rfl⟩,rfl,rfl,rfl,trivial⟩
   ·obtain ⟨v,n1,n2,n3,n4⟩:=wBC (k:=j) l3 l4 hi (by omega) 1
    have hu:v=u':=by rw [k2] at n2; injection n2 with n2; injection n2 with n2; injection n2 with n2; exact n2.symm
    subst hu; have hrow3:=wB1 (c:=m+1) (cG (m+1) A (j+2)) (j+1) (b:=j) (by omega)
    have hrl3:=v8 (m+1) (cG (m+1) A (j+2)) (j+1); have hkl3:j<(vU (m+1) (cG (m+1) A (j+2)) (j+1)).length:=by omega
    rw [cG_again m A j (by omega)] at n4
    generalize vU (m+1) (cG (m+1) A (j+2)) (j+1)=es3 at *; obtain ⟨L4,hL4⟩:∃ L4,L3.set (j+1) (v,es3.set j (wH (qn 1)))=L4:=⟨_,rfl⟩
    rw [hL4] at n3 n4; generalize qn (cG (m+1) A (j+2) (j+1) j)=qz3 at *
    generalize qn (-y)=ny at *; generalize qn y=py at *
    generalize qn 1=p1 at *; clear k4 l2 l4 n2 ey hy
    repeat (first | refine wg rfl (sX (j+1) hgA) ?_ | refine wg rfl (sN m) ?_ | refine wg rfl (sN j) ?_ | refine wg rfl (sO (j+1) hHi) ?_ | refine wg rfl (qP wG rfl rfl rfl k2 rfl rfl rfl) ?_ | refine wg rfl (jY wG (j:=200) (r:=j+1) (i:=j) rfl rfl rfl rfl rfl rfl rfl k1 hkl rfl) ?_ | refine wg rfl (kM wG (j:=200) rfl rfl rfl k1 hrow rfl rfl rfl rfl (pE _) rfl hL2) ?_ | refine wg rfl (jY wG (j:=200) (r:=j+1) (i:=m) rfl rfl rfl rfl rfl rfl rfl l1 hkl2 rfl) ?_ | refine wg rfl (kM wG (j:=200) rfl rfl rfl l1 hrow2 rfl rfl rfl rfl (pE _) rfl hL3) ?_ | refine wg rfl (jY wG (j:=200) (r:=j+1) (i:=j) rfl rfl rfl rfl rfl rfl rfl n1 hkl3 rfl) ?_ | refine wg rfl (kM wG (j:=200) rfl rfl rfl n1 hrow3 rfl rfl rfl rfl (pE _) rfl hL4) ?_ | refine wc q5 ?_ | refine wc q6 ?_ | refine wv ?_ | refine wg rfl cT ?_ | refine wg rfl sB ?_ | refine wz ?_)
    exact ⟨(j+2,L4),⟨hi,n3,n4⟩,by dsimp only; omega,rfl,rfl,rfl,rfl,⟨_,rfl⟩,rfl,rfl,rfl,trivial⟩
 ·have hie:i=m+1:=by omega
  subst hie; have hfin:wJI L1=qU (gQ (m+1) (jX (m+1) A)):=by
   rw [← gQ_fin (n:=m+1) (G:=jX (m+1) A) (L:=L1)]; rw [hI3]
   exact yO fun a ha b _=>cG_last _ _ a b ha
  rw [← hI2]
  repeat (first | refine wF5 13 4 200 rfl rfl hfin ?_ | refine wc q7 ?_ | refine wv ?_ | refine wg rfl cF ?_ | refine wz ?_)
  exact ⟨.inl rfl,_,rfl,rfl⟩
end Go.Proofs.YtkjhfnhgefbhhaaGreat
/- simileref17.Sum, over what Blocks answers. ALLOC -/
namespace Go.Proofs.YtkjhfnhgefbhhaaGreat
open Go.RowKit Go.Ev Go.Vl
def kV (p:List QQ):MM:=zC (gQ (wV (wF p) - 1) (jX (wV (wF p) - 1) (w8 (wF p))))
theorem sum17_v (ps:List (List QQ)) (K:Nat) (hK1:1≤K) (hK:K≤2097152) (h:∀ p∈ps,zP K p∧2≤wV (wF p)∧wV (wF p)≤25) (hl:ps.length≤1048576) (M:MM) (hM:wD Tryz.prog 92 [vMs (ps.map kV)] (fun y=>y=vM M)):wD Tryz.prog 47 [vPs ps] (fun y=>y=vM M):=by
 refine wC wG Tryz.func47 rfl rfl rfl rfl fun w0=>?_
 repeat (first | refine wg rfl (sL (kR ps)) ?_ | refine wl ?_ | refine wv ?_ | refine wz ?_)
 refine zR (d:=3) (id:=1) (k:=3) (T:=28) rfl rfl rfl rfl ?_
 refine wJ (fun j:Nat=>[jB 4 2,jC 5 [.v (.bool false),.nils,.nils],jO 6 1 28 3 (((ps.take j).map kV).map vD),jV 12 (vPs ps),jI 14 (ps.length),jI 16 j])
  (fun j=>j≤ps.length) (fun j=>ps.length - j) 0 (fun _=>rfl) (pH _) ⟨rfl,rfl,⟨_,rfl⟩,rfl,rfl,rfl,trivial⟩ fun j hJ=>?_
 rcases pG j ps.length with hj | hj
 ·obtain ⟨p,hp⟩:=gE hj
  have hg:=j9 ps j p hp; obtain ⟨o1,o2,o3⟩:=h p (pD hp)
  obtain ⟨m,hm⟩:∃ m,wV (wF p)=m+2:=⟨wV (wF p) - 2,by omega⟩
  have q1:=of17_v p K hK1 hK o1 m (by omega) hm _ rfl
  have hc:zC (gQ (m+1) (jX (m+1) (w8 (wF p))))=kV p:=by unfold kV; rw [hm]; rfl
  rw [hc] at q1; clear hc
  have hs:((ps.take j).map kV).map vD++[vD (kV p)]=((ps.take (j+1)).map kV).map vD:=by
   rw [mO,hp]
   simp
  have hlen:(((ps.take j).map kV).map vD).length=j:=by rw [pF,pF,pM]; omega
  generalize kV p=C at *; clear hM h o1 hm o2 o3
  obtain ⟨⟨x,l⟩,t⟩:=C; have wB2:∀ e∈[vD ((x,l),t)],e.length=3:=fun e h=>by rw [pL.1 h]; rfl
  repeat (first | refine wv ?_ | refine wg rfl (sX j hg) ?_ | refine wc q1 ?_ | refine wf rfl rfl (sA 7002 [vD ((x,l),t)] 3 56 wB2 hs) ?_ | refine wg rfl cT ?_ | refine wg rfl sB ?_ | refine wz ?_)
  exact ⟨j+1,hj,by omega,rfl,rfl,⟨_,rfl⟩,rfl,rfl,rfl,trivial⟩
 ·have hje:j=ps.length:=by omega
  subst hje; rw [mH]
  obtain ⟨⟨x,l⟩,t⟩:=M; clear h
  repeat (first | refine wv ?_ | refine wh hM ?_ | refine wg rfl cF ?_ | refine wz ?_)
  exact ⟨.inl rfl,_,rfl,rfl⟩
end Go.Proofs.YtkjhfnhgefbhhaaGreat
/- Parts of a row of one's own: headers with the row's first elements, handed to calls and back. -/
namespace Go.Vl
open Go.RowKit Go.Ev
def yL (u u':Value) (m:Nat):Prop:=(u'=.slice none 0 0∧m=0)∨∃ g n c c',u=.slice (some ⟨g,0,none⟩) n c∧u'=.slice (some ⟨g,0,none⟩) m c'∧m≤n∧m≤c'∧c'≤c
def preV (u:Value) (h:Nat):Value :=
 if h=0 then .slice none 0 0 else match u with
  | .slice (some a) _ _=>.slice (some a) h h
  | _=>.slice none 0 0
theorem yL.pre {u u':Value} {m h:Nat} (hp:yL u u' m) (hh:h≤m):yL u (preV u' h) h:=by
 unfold preV
 split
 ·exact .inl ⟨rfl,by assumption⟩
 ·rcases hp with ⟨_,h0⟩ | ⟨g,n,c,c',e,e',h1,h2,h3⟩
  ·omega
  ·subst e'
   exact .inr ⟨g,n,c,h,e,rfl,by omega,pE _,by omega⟩
theorem yL.one {u u':Value} {m:Nat} (hp:yL u u' m):u'.oneCell'=true:=by
 rcases hp with ⟨e,_⟩ | ⟨g,n,c,c',_,e,_⟩ <;> rw [e] <;> rfl
theorem yL.shape {u u':Value} {m:Nat} (hp:yL u u' m):∃ ad cap,u'=.slice ad m cap:=by
 rcases hp with ⟨e,h0⟩ | ⟨g,n,c,c',_,e,_⟩
 ·exact ⟨none,0,by rw [e,h0]⟩
 ·exact ⟨_,_,e⟩
def VCallsP (P:Program) (g:FuncId) (T:TypeId) (k:Nat) (es:List (List V)) (h:Nat):Prop :=
 ∀ (S:Nat→Prop) (w:World) (B0:Nat) (u u':Value) (ea:List (List V)),jA B0 S w (fun _ _=>u.ownBlock) 0 0 (.own 0 T k ea) u→yL u u' es.length→es.length≤ea.length→ea.take es.length=es→Calls P g #[u'] w fun e w'=>e=.returned (preV u' h)∧Below w.heap.size w w'
section
variable {P:Program} {C:Cx} {w0:Base} {n:Nat} {st:St} {o:Oper} {Q:vZ}
theorem wU2 (hC:CxOk P C) {x:Operand} {c:Call} {t elem:TypeId} {u u':Value} {m:Nat} (hop:o.op=.call c) (hk:c.callee=.builtin .len) (ha:c.args=#[x]) (ht:c.argTypes=#[t]) (hu:C.und t=some (.slice elem)) (hx:opv (lk st) x=some (.v (.raw u'))) (hp:yL u u' m) (hd:dLt n o.dst=true) :
  wP P w0 n o (rdO x) (dput o.dst (some (.sv (.v (.int .i64 (m:Nat)))))) [] (lk st) :=
 qH hd fun f hf β a w hh=>by
  have e1:=wF9 (hh.val (x:=x) (y:=.raw u') (by rw [wK hf]; exact hx))
  obtain ⟨ad,cap,e⟩:=hp.shape; rw [e] at e1
  exact ⟨_,by simp [execOp,hop,resolve,hk,ha,ht,invoke,builtin,Builtin.len_,e1,wU hC hu]; rfl,.int _ _⟩
theorem wZ9 (hC:CxOk P C) {x y:Operand} {t elem:TypeId} {u u':Value} {k i m:Nat} {q:Int} {ki:IntKind} (hop:o.op=.indexAddr t x y) (hx:opv (lk st) x=some (.v (.raw u'))) (hy:opv (lk st) y=some (.v (.int ki q))) (hq:q=(i:Nat)) (ht:C.und t=some (.slice elem)) (hs:C.size elem=some k)
  (hp:yL u u' m) (hi:i<m) (hd:dLt n o.dst=true):wP P w0 n o (rdO x++rdO y) (dput o.dst (some (.sv (.ar u k i 0)))) [] (lk st) :=
 wAJ hd rfl fun f hf β a w hh=>by
  subst hq; obtain ⟨h1,h2⟩:=qO hf
  have e1:=wF9 (hh.val (x:=x) (y:=.raw u') (by rw [wK h1]; exact hx))
  have e2:=hh.val (x:=y) (y:=.int ki (i:Nat)) (by rw [wK h2]; exact hy)
  generalize hv:a.eval y=v at e2; cases e2
  rcases hp with ⟨_,h0⟩ | ⟨g,n',c,c',e,e',h3,h4,h5⟩
  ·omega
  have:=run_indexAt (P:=P) (w:=w) hC ht hs (b:=g) (off:=0) (cap:=c') ki hi; refine ⟨_,w,by simp only [execOp,hop,e1,e',hv]; rw [Sem.run_bind,this]; rfl,Below.refl _ _,fun K=>?_⟩
  exact ⟨g,by rw [e]; rfl,by simp⟩
theorem qFE (hC:CxOk P C) {k:Call} {x y:Operand} {g:FuncId} {fn:Func} {T:TypeId} {j q r i m h:Nat} {u u' z:Value} {L:List (Value × List (List V))} {es es':List (List V)} (hop:o.op=.call k) (hk:k.callee=.value x) (hx:opv (lk st) x=some (.v (.clo g [] []))) (hargs:k.args.toList=[y]) (hy:opv (lk st) y=some (.v (.raw u'))) (hfn:C.fns.get g=some fn)
  (hfm:lk st (2*j+1)=some (.fam T q L)) (hr:L[i]? = some (u,es)) (hp:yL u u' m) (hm:m≤es.length) (he:es.take m=es') (hcall:VCallsP P g T q es' h) (hh':h≤m) (hz:preV u' h=z) (hdst:o.dst=some r) (hd:Nat.blt r n=true):wP P w0 n o (rdO x++(rdO y++[2*j+1])) [(2*r,some (.sv (.v (.raw z))))] [] (lk st):=by
 subst hz he; intro f hf hn a w ⟨β,hh⟩ K Q hK
 obtain ⟨h1,h2⟩:=qO hf; obtain ⟨h3,h4⟩:=qO h2
 have e1:=hh.val (x:=x) (y:=.clo g [] []) (by rw [wK h1]; exact hx)
 have e2:=wF9 (hh.val (x:=y) (y:=.raw u') (by rw [wK h3]; exact hy))
 have hfo:=hh.fm j T q L (by rw [h4 _ (by simp)]; exact hfm)
 have hl:(es.take m).length=m:=by rw [pM]; omega
 have hpl:yL u u' (es.take m).length:=by rw [hl]; exact hp
 generalize hu:a.eval x=ux at e1; cases e1 with
 | @clo _ _ _ fs vs hfs hcs =>
  cases hfs
  cases hcs
  obtain ⟨hf1,hf2⟩:=hC.fns g fn hfn; have hka:k.args.map a.eval=#[u']:=by
   apply bE
   simp [hargs,e2]
  have hrun:(execOp a.eval o).run P w=.ok (.enter g #[u']) w:=by
   simp only [execOp,hop,resolve,hk,hu,Deferred.ofValue,Sem.run_bind,Sem.run_pure,Result.andThen_ok,invoke]
   rw [hka]; have:=hf2 #[u'] w
   simpa using this
  unfold Oper.wp; rw [hrun,Oper.upon_enter]
  refine Calls.mono (hcall (wZ β) w w0.lo u u' es (hfo.own hr) hpl (by omega) (by rw [hl])) ?_
  rintro e w' ⟨rfl,hb⟩
  dsimp only; rw [hdst]
  refine hK _ _ ⟨β,?_⟩
  have h7:=(hh.grow hb).putP (d:=r) (by simpa using hd) (x:=.v (.raw (preV u' h))) (u:=preV u' h) rfl (Rep.raw (hp.pre hh').one)
  rw [app1]; exact h7
theorem frzPre_ok {s j k m:Nat} {T:TypeId} {u u':Value} {es es':List (List V)} (hs:lk st (2*s)=some (.sv (.v (.raw u')))) (hj:lk st (2*j+1)=some (.fam T k [(u,es)])) (hp:yL u u' m) (hm:m≤es.length) (he:es.take m=es') :
  ∀ a w,Hs w0 n (lk st) a w→∃ _:Unit,Hs w0 n (lk ((2*s,some (.sv (.v (.list es')))) :: (2*j+1,none) :: st)) a w:=by
 subst he
 rintro a w ⟨β,hh⟩
 refine ⟨(),?_⟩
 rw [wVE]; have hsl:=wF9 (hh.slot s _ hs)
 have hfo:=hh.fm j T k _ hj; have h5:=hh.drop (2*j+1)
 obtain ⟨β',hβ'⟩:∃ β':Bl,(fun K J=>if K=2*j+1 then none else β K J)=β':=⟨_,rfl⟩
 have hval:∀ K J B',β' K J=some B'→β K J=some B'∧¬ (K=2*j+1):=fun K J B' e=>by
  rw [← hβ'] at e; dsimp only at e
  split at e
  ·cases e
  ·rename_i hne; exact ⟨e,hne⟩
 have hoff:∀ K J,¬ (K=2*j+1)→β' K J=β K J:=fun K J hne=>by rw [← hβ']; dsimp only; rw [if_neg hne]
 have h6:HB w0 n β' (upd (lk st) (2*j+1) none) a w:=by
  refine h5.chg h5.bel (fun K J K' J' B' a1 a2=>h5.inj _ _ _ _ _ (hval _ _ _ a1).1 (hval _ _ _ a2).1) (fun K J B' a1=>h5.rng _ _ _ (hval _ _ _ a1).1) (fun J b e=>(hoff _ _ (by omega)).trans e) (fun b hb' hl=>⟨fun K J e=>hb' K J (hval _ _ _ e).1,rfl⟩) ?_ (fun d' x e d2 hx B' hB=>(hval _ _ _ hB).1) ?_ ?_ ?_ (fun _ _=>rfl) (fun K J B' e=>h5.spk _ _ _ (hval _ _ _ e).1)
  ·intro d' id' T' k' es' e
   exact ⟨hoff _ _ fun h=>by omega,fun _ _=>rfl⟩
  ·intro d' cs' e
   refine ⟨hoff _ _ fun h=>?_,fun _ _=>rfl⟩
   obtain rfl:d'=j:=by omega
   rw [upd_same] at e; cases e
  ·intro d' cs' q id' T' k' es' e hq
   refine ⟨hoff _ _ fun h=>?_,fun _ _=>rfl⟩
   obtain rfl:d'=j:=by omega
   rw [upd_same] at e; cases e
  ·intro d' T' k' L' e B' hB'
   refine ⟨?_,rfl⟩
   rw [hoff _ _ fun h=>?_]
   ·exact hB'
   ·obtain rfl:d'=j:=by omega
    rw [upd_same] at e; cases e
 have hS:∀ b,wZ β b→wZ β' b:=fun b hb K J e=>hb K J (hval _ _ _ e).1
 have hB2:∀ J B,β (2*j+1) J=some B→wZ β' B:=fun J B hB K J' e=>by
  obtain ⟨e1,e2⟩:=hval _ _ _ e; exact e2 (hh.inj _ _ _ _ _ e1 hB).1
 have hown:=hfo.own (r:=0) (u:=u) (es:=es) rfl; have hk:∀ e∈es,e.length=k:=fun e he=>(hown.1 e he).1
 have hrep:=wFE (S':=wZ β') hown hS fun B hB=>hB2 _ B ((hfo.1 _ (pL.2 rfl)).2.2 B hB)
 have hfin:Rep (wZ β') w (.list (es.take m)) u':=by
  rcases hp with ⟨e,h0⟩ | ⟨g,n',c,c',e,e',a1,a2,a3⟩
  ·rw [e,h0,fS]
   exact .nils
  ·rw [e] at hrep
   obtain ⟨ad,cap,e2⟩:=hfo.len (r:=0) (u:=u) (es:=es) rfl; rw [e] at e2
   cases e2
   have:=Rep.list_part hrep hk 0 m c' (pH _) hm a2 a3; rw [e']
   simpa using this
 have h7:=h6.reslot (d:=s) (x:=.v (.list (es.take m))) rfl (by rw [hsl]; exact hfin)
 refine ⟨β',h7.less fun K c e=>?_⟩
 simp only [upd] at e ⊢
 split
 ·rename_i hk; rw [if_pos hk] at e; exact e
 ·rename_i hk
  rw [if_neg hk] at e
  split
  ·rename_i hk2; rw [if_pos hk2] at e; cases e
  ·rename_i hk2; rw [if_neg hk2] at e; simpa [hk,hk2] using e
theorem vw_frzPre {c:Code} (s j:Nat) {k m:Nat} {T:TypeId} {u u':Value} {es es':List (List V)} (hs:lk st (2*s)=some (.sv (.v (.raw u')))) (hj:lk st (2*j+1)=some (.fam T k [(u,es)])) (hp:yL u u' m) (hm:m≤es.length) (he:es.take m=es') (h:VW P w0 n c Q ((2*s,some (.sv (.v (.list es')))) :: (2*j+1,none) :: st)):VW P w0 n c Q st:=wK1 _ (frzPre_ok hs hj hp hm he) fun _=>h
end
end Go.Vl
