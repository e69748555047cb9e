/- zint.lcm, folded, Lcm, rat.Common of the program, told of trees. ALLOC -/
import Derived.Test.YtkjhfnhgefbhhaaGreatCf22
import Derived.Test.YtkjhfnhgefbhhaaGreatCf19
set_option linter.all false
set_option maxRecDepth 20000
set_option maxHeartbeats 6400000
namespace Go.Proofs.YtkjhfnhgefbhhaaGreat
open Go.RowKit Go.Ev Go.Vl
theorem sgn_pos {x:Int} (h:0<x):sgn x=1:=by unfold sgn; rw [if_neg (by omega),if_pos h]
theorem zlcm1_v (a:Nat) (b:ZZ) (ha:0<a) (hal:lm (a:Int)≤274877906944) (hb:okZ b) (hbl:lm (intOf b)≤274877906944) (h0:intOf b≠0):wD Tryz.prog 235 [vI (zn (a:Nat)),vI b] (fun y=>y=nI (Nat.lcm a (intOf b).natAbs:Nat)):=by
 refine wC wG Tryz.func235 rfl rfl rfl rfl fun w0=>?_
 have oa:okZ (zn (a:Int)):=qF _ (by omega)
 have q1:=zgcd1_v (zn (a:Int)) b oa hb; rw [wE] at q1
 have hg0:0<Int.gcd (a:Int) (intOf b):=bC _ h0; have hgd:((Int.gcd (a:Int) (intOf b):Nat):Int)∣(a:Int):=bT ..
 have hgl:Int.gcd (a:Int) (intOf b)≤a:=cO ha (pB2.1 hgd); have hge:Int.gcd (a:Int) (intOf b)=Nat.gcd a (intOf b).natAbs:=by unfold Int.gcd; rw [mS]
 obtain ⟨g,hg⟩:∃ g,Int.gcd (a:Int) (intOf b)=g:=⟨_,rfl⟩; rw [hg] at q1 hg0 hgd hgl hge
 have og:okZ (zn (g:Int)):=qF _ (pC (xO hgl) (by omega))
 have q2:=vH (zn (g:Int)) og; rw [wE,sgn_pos (by omega)] at q2
 have q3:=zabs_v (zn (a:Int)) oa; have q5:=zabs_v b hb
 have e3:wB (zn (a:Int)).2=a:=by unfold zn; dsimp only; rw [wM,mS]
 have e5:wB b.2=(intOf b).natAbs:=(kF b).symm; rw [e3] at q3
 rw [e5] at q5; have q4:=x6 (zn (a:Int)) (zn (g:Int)) oa og (by rw [wE]; omega) (by rw [wE,wE]; exact hgd)
 rw [wE,wE] at q4; have e4:(a:Int).tdiv (g:Int)=((a / g:Nat):Int):=(Int.ofNat_tdiv a g).symm
 rw [e4] at q4; have q6:=xL (zn ((a / g:Nat):Int)) (zn ((intOf b).natAbs:Int)) (qF _ (pC (xO (cN ..)) (by omega))) (qF _ (by
  have:lm ((intOf b).natAbs:Int)=lm (intOf b):=by unfold lm; rw [mS]
  omega))
 rw [wE,wE] at q6; have e6:((a / g:Nat):Int)*((intOf b).natAbs:Int)=((Nat.lcm a (intOf b).natAbs:Nat):Int):=by
  rw [← dP,Nat.lcm,mL a,Nat.mul_div_assoc _ (pC2 ..),← hge,mL]
 rw [e6] at q6; obtain ⟨bx,bl⟩:=b
 clear oa hb hbl h0 og
 repeat (first | refine wl ?_ | refine wv ?_ | refine wg rfl cF ?_ | refine wc q1 ?_ | refine wc q2 ?_ | refine wc q3 ?_ | refine wc q4 ?_ | refine wc q5 ?_ | refine wc q6 ?_ | refine wz ?_)
 exact ⟨.inl rfl,_,rfl,rfl⟩
theorem folded_v (g:FuncId) (fn:Func) (hfn:zV.fns.get g=some fn) (zs:List ZZ) (G:Nat→ZZ) (hl:zs.length≤1099511627776) (hG:∀ (j:Nat) (z:ZZ),zs[j]? = some z→wD Tryz.prog g [vI (G j),vI z] (fun y=>y=vI (G (j+1)))) :
  wD Tryz.prog 226 [vI (G 0),vZs zs,.clo g [] []] (fun y=>y=vI (G zs.length)):=by
 refine wC wG Tryz.func226 rfl rfl rfl rfl fun w0=>?_
 repeat (first | refine wg rfl (sL (wA1 _)) ?_ | refine wl ?_ | refine wv ?_ | refine wz ?_)
 refine wJ (fun j:Nat=>[jV 4 (.clo g [] []),jB 6 3,jC 7 [.v (.bool (G j).1),.v (vL (G j).2)],jB 12 6,jC 13 [.v (.bool false),.nils],jV 18 (vZs zs),jI 20 (zs.length),jI 22 j])
  (fun j=>j≤zs.length) (fun j=>zs.length - j) 0 (fun _=>rfl) (pH _) ⟨rfl,rfl,rfl,rfl,rfl,rfl,rfl,rfl,trivial⟩ fun j h1=>?_
 rcases pG j zs.length with hj | hj
 ·obtain ⟨z,hze⟩:=gE hj
  have hg:(zs.map zrow)[j]? = some [.bool z.1,vL z.2]:=by rw [pI,hze]; rfl
  have q:=hG j z hze; clear hG
  obtain ⟨zx,zl⟩:=z; generalize hn:G (j+1)=p' at *
  generalize G j=p at *; obtain ⟨px,pl⟩:=p
  obtain ⟨px',pl'⟩:=p'
  repeat (first | refine wl ?_ | refine wv ?_ | refine wg rfl cT ?_ | refine wg rfl sB ?_ | refine wg rfl (sX j hg) ?_ | refine wME wG rfl rfl rfl rfl rfl rfl hfn rfl q rfl rfl ?_ | refine wz ?_)
  exact ⟨j+1,hj,by omega,rfl,rfl,by rw [hn]; exact rfl,rfl,rfl,rfl,rfl,rfl,trivial⟩
 ·have hje:j=zs.length:=by omega
  subst hje; clear hG
  generalize G zs.length=p at *; obtain ⟨px,pl⟩:=p
  repeat (first | refine wv ?_ | refine wg rfl cF ?_ | refine wz ?_)
  exact ⟨.inl rfl,_,rfl,rfl⟩
theorem zlcm2_v (a:Nat) (b:ZZ) (ha:0<a) (hal:lm (a:Int)≤274877906944) (hb:okZ b) (hbl:lm (intOf b)≤274877906944) (h0:intOf b≠0):wD Tryz.prog 182 [vZs [zn (a:Nat),b]] (fun y=>y=nI (Nat.lcm a (intOf b).natAbs:Nat)):=by
 refine wC wG Tryz.func182 rfl rfl rfl rfl fun w0=>?_
 have q1:=wR0 1 (by decide)
 have q2:=folded_v 235 Tryz.f235 rfl [zn (a:Nat),b] (fun j=>match j with | 0=>zn (1:Nat) | 1=>zn (a:Nat) | _=>zn (Nat.lcm a (intOf b).natAbs:Nat)) (by show 2≤_; decide) (fun j z hz=>by
  match j with
  | 0 =>
   simp only [List.getElem?_cons_zero,Option.some.injEq] at hz
   subst hz; have:=zlcm1_v 1 (zn (a:Nat)) (by decide) (pC wFI (by decide)) (qF _ (by omega)) (by rw [wE]; exact hal) (by rw [wE]; omega)
   rw [wE,mS,Nat.lcm_one_left] at this; exact this
  | 1 =>
   simp only [List.getElem?_cons_succ,List.getElem?_cons_zero,Option.some.injEq] at hz
   subst hz; exact zlcm1_v a b ha hal hb hbl h0
  | j+2=>simp at hz)
 have q2':wD Tryz.prog 226 [vI (zn (1:Nat)),vZs [zn (a:Nat),b],.clo 235 [] []] (fun y=>y=nI (Nat.lcm a (intOf b).natAbs:Nat)):=q2
 clear q2
 repeat (first | refine wl ?_ | refine wv ?_ | refine wc q1 ?_ | refine wc q2' ?_ | refine wz ?_)
 exact ⟨.inl rfl,_,rfl,rfl⟩
end Go.Proofs.YtkjhfnhgefbhhaaGreat
/- similelaw27.VerifySimilar: told of trees. ALLOC -/
namespace Go.Proofs.YtkjhfnhgefbhhaaGreat
open Go.RowKit Go.Ev Go.Vl
theorem wV9 {α β γ δ:Type} {f:α→γ} {g:β→γ} {f':α→δ} {g':β→δ} (h:∀ x y,f x=g y↔f' x=g' y):∀ (l:List α) (l':List β),l.map f=l'.map g↔l.map f'=l'.map g'
 | [],[]=>by simp
 | [],_ :: _=>by simp
 | _ :: _,[]=>by simp
 | a :: l,b :: l'=>by
  simp only [List.map_cons,List.cons.injEq]
  rw [h a b,wV9 h l l']
theorem frac_eq {x y d d':Int} (hd:d≠0) (hd':d'≠0):x*d'=y*d↔Rat.divInt x d=Rat.divInt y d':=by
 have e1:Rat.divInt (x*d') (d*d')=Rat.divInt x d:=dY hd'; have e2:Rat.divInt (y*d) (d'*d)=Rat.divInt y d':=dY hd
 rw [← e1,← e2,pE7 d' d]; exact ⟨fun h=>by rw [h],wWD (cD hd hd')⟩
theorem qn_inj {x y:Rat}:qn x=qn y↔x=y:=⟨fun h=>by
 have:=congrArg wI h
 rwa [wN,wN] at this,fun h=>by rw [h]⟩
theorem wKH {m m':MM} (h0:intOf m.1≠0) (h0':intOf m'.1≠0):vB m m'=decide (wT m=wT m'):=by
 unfold vB wT; refine decide_eq_decide.2 (wV9 (fun r r'=>wV9 (fun x y=>?_) r r') _ _)
 rw [qn_inj]; exact frac_eq h0 h0'
theorem wZC (m:MM):normQ (wT m):=fun q hq=>by
 rw [yS] at hq; obtain ⟨z,_,rfl⟩:=pJ.1 hq
 rw [wN]
theorem wUC (m:MM):(wT m).length=m.2.length:=by unfold wT; rw [pF]
theorem wJ2 (m:MM):((wT m).headD []).length=wR m.2:=by
 unfold wT wR; cases m.2 with
 | nil=>rfl
 | cons r t=>simp
theorem wI2 (m m':MM):vE m m'=decide (wT m=wT m'):=by
 by_cases e:wT m=wT m'
 ·have e1:m.2.length=m'.2.length:=by rw [← wUC,← wUC,e]
  have e2:wR m.2=wR m'.2:=by rw [← wJ2,← wJ2,e]
  have e3:wH6 m=wH6 m':=by
   show zC (wT m)=zC (wT m')
   rw [e]
  unfold vE; rw [decide_eq_true e1,decide_eq_true e2,decide_eq_true e3,decide_eq_true e]
  rfl
 ·have e3:wH6 m≠wH6 m':=fun h=>e (by
   have h2:zC (wT m)=zC (wT m'):=h; rw [← vO _ (wZC m),← vO _ (wZC m'),h2])
  unfold vE; rw [decide_eq_false e3,decide_eq_false e]
  simp
theorem wFA {d:ZZ} {r c:Nat} {F:Nat→Nat→Int} (h0:intOf d≠0) (hr:0<r) (hc:0<c):wT (wAA d (kC r c fun i k=>zn (F i k)))=(List.range r).map fun a=>(List.range c).map fun b=>qn (Rat.divInt (F a b) (intOf d)):=by
 obtain ⟨s1,s2,_⟩:=wFH d (kC r c fun i k=>zn (F i k)) h0
 have hd:intOf (wAA d (kC r c fun i k=>zn (F i k))).1=(intOf d).tdiv (wE2 d (kC r c fun i k=>zn (F i k))):=by
  show intOf (zn (if wR (kC r c fun i k=>zn (F i k))=0 then 1 else _))=_
  rw [tabF_cols _ hr,if_neg (by omega),wE]
 have hF:∀ a b,a<r→b<c→wE2 d (kC r c fun i k=>zn (F i k))∣F a b:=fun a b ha hb=>tabF_dvd h0 ha hb
 unfold wT; rw [hd]
 show List.map _ (List.map _ (kC r c fun i k=>zn (F i k)))=_
 generalize wE2 d (kC r c fun i k=>zn (F i k))=S at *
 unfold kC; rw [mT,mT]
 refine mE fun a ha=>?_
 simp only [Function.comp]
 rw [mT,mT]; refine mE fun b hb=>?_
 simp only [Function.comp]
 rw [wE,wE]; obtain ⟨p,hp⟩:=hF a b (dK.1 ha) (dK.1 hb)
 obtain ⟨q,hq⟩:=s2; rw [hp,hq,fA _ s1,fA _ s1,Rat.divInt_mul_left s1]
theorem wPF {m m':MM} (h0:intOf m.1≠0) (h0':intOf m'.1≠0) (hr:0<m.2.length) (hc:0<wR m'.2):wT (yV m m')=k9 m m':=by
 have e:=wFA (d:=zn (intOf m.1*intOf m'.1)) (F:=fun i k=>yB m.2 m'.2 i k (wR m.2)) (by rw [wE]; exact cD h0 h0') hr hc
 rw [wE] at e; exact e
theorem wWE (x:Int):Rat.divInt x 1=(x:Rat):=by
 have e:=cU (x:Rat); rw [pA1,pA0] at e
 exact e
theorem rats_idM {n:Nat} (hn:0<n):wT (idM n)=idQ n:=by
 have e:=wFA (d:=zn 1) (F:=wFF) (by rw [wE]; decide) hn hn
 rw [wE] at e; refine e.trans ?_
 unfold idQ; simp only [wWE]
def entQ (R:List (List QQ)) (a h:Nat):Rat:=wI ((R.getD a []).getD h (qn 0))
def sumR (X Y:List (List QQ)) (a b:Nat):Nat→Rat
 | 0=>0
 | h+1=>sumR X Y a b h+entQ X a h*entQ Y h b
def mulR (X Y:List (List QQ)):List (List QQ):=(List.range X.length).map fun a=>(List.range (Y.headD []).length).map fun b=>qn (sumR X Y a b (X.headD []).length)
theorem ent_rats (m:MM) (a h:Nat):Rat.divInt (intOf (ent m.2 a h)) (intOf m.1)=entQ (wT m) a h:=by
 unfold ent entQ wT; rw [pK,pK,pK,pK,pI]
 have hz:Rat.divInt (intOf ((false,[]):ZZ)) (intOf m.1)=wI (qn 0):=by
  rw [wN]; have:intOf ((false,[]):ZZ)=0:=rfl
  rw [this,bY]
 cases m.2[a]? with
 | none =>
  simp only [Option.map_none,Option.getD_none,List.getElem?_nil]
  exact hz
 | some r =>
  simp only [Option.map_some,Option.getD_some,List.getElem?_map]
  cases r[h]? with
  | none =>
   simp only [Option.map_none,Option.getD_none]
   exact hz
  | some z =>
   simp only [Option.map_some,Option.getD_some]
   rw [wN]
theorem qEH (m m':MM) (a b:Nat):∀ h,wCD m m' a b h=sumR (wT m) (wT m') a b h
 | 0=>wIE m m' a b
 | h+1=>by rw [wZ0,qEH m m' a b h,ent_rats,ent_rats]; rfl
theorem wZI (m m':MM):k9 m m'=mulR (wT m) (wT m'):=by
 unfold k9 mulR; rw [wUC,wJ2,wJ2]
 refine mE fun a _=>?_
 refine mE fun b _=>?_
 rw [qEH]
theorem mulQ_congr {m m' p p':MM} (h:wT m=wT p) (h':wT m'=wT p'):k9 m m'=k9 p p':=by
 rw [wZI,wZI,h,h']
theorem sim_two {n K:Nat} {s i:MM} (hn:0<n) (hn':n≤24) (hs:sqM s n K) (hi:sqM i n K):vB (yV s i) (idM n)=vE (zC (k9 s i)) (zC (idQ n)):=by
 have k1:=hs.mono (K':=K+1) (by omega)
 have k2:=hi.mono (K':=K+1) (by omega)
 rw [wKH (k1.mul k2 hn hn' (by omega)).den (sqM.id n hn').den,wI2,vO _ (wQ4 s i),vO _ (idQ_norm n),wPF hs.den hi.den (by rw [hs.rows]; exact hn) (by rw [hi.cl hn]; exact hn),rats_idM hn]
theorem sim_three {n K:Nat} {a b s i:MM} (hn:0<n) (hn':n≤24) (ha:sqM a n K) (hb:sqM b n K) (hs:sqM s n K) (hi:sqM i n K):vB (yV (yV i a) s) b=vE (zC (k9 (zC (k9 i a)) s)) b:=by
 have k1:=hs.mono (K':=K+1) (by omega)
 have k2:=hi.mono (K':=K+1) (by omega)
 have k3:=ha.mono (K':=K+1) (by omega)
 have k4:=k2.mul k3 hn hn' (by omega)
 have k5:=k4.mul (k1.mono (K':=2*(K+1)+24) (by omega)) hn hn' (by omega)
 rw [wKH k5.den hb.den,wI2,vO _ (wQ4 _ s),wPF k4.den hs.den (by rw [k4.rows]; exact hn) (by rw [hs.cl hn]; exact hn)]
 have e:k9 (yV i a) s=k9 (zC (k9 i a)) s:=mulQ_congr (by rw [vO _ (wQ4 i a),wPF hi.den ha.den (by rw [hi.rows]; exact hn) (by rw [ha.cl hn]; exact hn)]) rfl
 rw [e]
end Go.Proofs.YtkjhfnhgefbhhaaGreat
/- rat.Common of the program, told of trees. ALLOC -/
namespace Go.Proofs.YtkjhfnhgefbhhaaGreat
open Go.RowKit Go.Ev Go.Vl
theorem mul_num (r:Rat) (C:Nat) (h:r.den∣C):(r*(((C:Nat):Int):Rat)).num=r.num*((C:Nat):Int).tdiv (r.den:Int):=by
 obtain ⟨k,rfl⟩:=h; have hd:=r.den_nz
 have e1:(((r.den*k:Nat):Int)).tdiv (r.den:Int)=(k:Int):=by
  rw [dP,fA _ (by omega)]
 have e2:r*((((r.den*k:Nat):Nat):Int):Rat)=(((r.num*k:Int)):Rat):=by
  have h2:∀ d:Nat,d≠0→Rat.divInt r.num (d:Int)*((((d*k:Nat):Nat):Int):Rat)=(((r.num*k:Int)):Rat):=fun d hd=>by
   rw [← wWE (((d*k:Nat):Nat):Int),dE,← wWE,Int.mul_one]; rw [show r.num*(((d*k:Nat):Int))=(r.num*(k:Int))*(d:Int) by rw [dP,pE7 (d:Int),Int.mul_assoc]]
   have:=dY (n:=r.num*(k:Int)) (d:=1) (a:=(d:Int)) (by omega)
   rw [pB6] at this; exact this
  have:=h2 r.den r.den_nz; rw [cU] at this
  exact this
 rw [e1,e2,pA1]
theorem qn_two {q:QQ} (h:q=qn (wI q)):intOf q.1=(wI q).num∧intOf q.2=((wI q).den:Int):=by
 constructor
 ·conv=>lhs; rw [h]
  exact wE _
 ·conv=>lhs; rw [h]
  exact wE _
theorem comc_v (qs:List QQ) (D:Nat) (hD:0<D) (hDl:lm D≤68719476736) (hq:∀ q∈qs,okS q∧(wI q).den∣D) (hn:∀ q∈qs,q=qn (wI q)) (hl:qs.length≤1099511627776):wD Tryz.prog 252 [vQs qs] (fun y=>y=.tup [.agg [.bool (zn (qM qs:Nat)).1,vL (zn (qM qs:Nat)).2,.list ((qs.map (zW (qM qs:Nat))).map wS)],.int .i64 0]):=by
 refine wC wG Tryz.func252 rfl rfl rfl rfl fun w0=>?_
 have q0:=wR0 1 (by decide)
 repeat (first | refine wc q0 ?_ | refine wg rfl (wKG wG rfl rfl rfl rfl rfl rfl rfl rfl rfl) ?_ | refine wg rfl (sL (qW qs)) ?_ | refine wl ?_ | refine wv ?_ | refine wz ?_)
 refine wKB 4 2 2 25 rfl rfl rfl ?_
 refine wJ (fun b:Nat × Nat=>[jV 0 (vQs qs),jB 4 2,jC 5 [.v (.bool false),.nils,.nils],jB 8 4,jC 9 [.v (.bool (zn (b.2:Nat)).1),.v (vL (zn (b.2:Nat)).2),.own 0 25 2 []],jV 26 (vQs qs),jI 28 (qs.length),jI 30 (b.1)])
  (fun b=>b.1≤qs.length∧0<b.2∧b.2∣D∧b.2=qM (qs.take b.1)) (fun b=>qs.length - b.1) (0,1) (fun _=>rfl) ⟨pH _,by decide,gD _,rfl⟩ ⟨rfl,rfl,rfl,rfl,rfl,rfl,rfl,rfl,trivial⟩ fun ⟨j,a⟩ hI=>?_
 obtain ⟨hJ,ha,had,hae⟩:=hI; dsimp only at hJ ha had hae ⊢
 rcases pG j qs.length with hj | hj
 ·obtain ⟨q,hqe⟩:=gE hj
  obtain ⟨o1,o2⟩:=hq q (pD hqe); have hg:=kO qs j q hqe
  have hden:=(wI q).den_nz; obtain ⟨_,en⟩:=qn_two (hn q (pD hqe))
  have hla:lm (a:Int)≤68719476736:=pC (xO (cO hD had)) hDl; have hlq:lm ((wI q).den:Int)≤68719476736:=pC (xO (cO hD o2)) hDl
  have q2:=zlcm2_v a q.2 ha (by omega) o1.ok.2 (by rw [en]; omega) (by rw [en]; omega)
  rw [en,mS] at q2; have e2:Nat.lcm a (wI q).den=qM (qs.take (j+1)):=by
   rw [jQ hqe]; unfold qM at hae ⊢
   rw [fM,qH2,← hae]; show _=Nat.lcm a ((wI q).den:Int).natAbs
   rw [mS]
  have e3:0<Nat.lcm a (wI q).den:=pG4 ha (by omega)
  have e4:Nat.lcm a (wI q).den∣D:=pG5 had o2; clear hae hq hn en
  obtain ⟨⟨x,l⟩,⟨y,k⟩⟩:=q
  repeat (first | refine wg rfl (sX j hg) ?_ | refine wh q2 ?_ | refine wl ?_ | refine wv ?_ | refine wg rfl cT ?_ | refine wg rfl sB ?_ | refine wz ?_)
  exact ⟨(j+1,_),⟨hj,e3,e4,e2⟩,by dsimp only; omega,rfl,rfl,rfl,rfl,rfl,rfl,rfl,rfl,trivial⟩
 ·rw [pN hj] at hae
  subst hae; have hdv:=fun q hq'=>(qHG (qs.map fun q=>((wI q).den:Int)) 1).2 ((wI q).den:Int) (pJ.2 ⟨q,hq',rfl⟩)
  obtain ⟨C,hCe⟩:∃ C,qM qs=C:=⟨_,rfl⟩; unfold qM at hCe
  rw [hCe] at hdv; rw [show qM qs=C from hCe] at ha had ⊢
  have hCl:lm (C:Int)≤68719476736:=pC (xO (cO hD had)) hDl
  repeat (first | refine wg rfl (sL (qW qs)) ?_ | refine wv ?_ | refine wg rfl cF ?_ | refine wz ?_)
  refine wJ (fun i:Nat=>[jB 4 2,jC 5 [.v (.bool false),.nils,.nils],jB 8 4,jC 9 [.v (.bool (zn (C:Nat)).1),.v (vL (zn (C:Nat)).2),.own 0 25 2 (((qs.take i).map (zW (C:Nat))).map wS)],jV 54 (vQs qs),jI 56 (qs.length),jI 58 i])
   (fun i=>i≤qs.length) (fun i=>qs.length - i) 0 (fun _=>rfl) (pH _) ⟨rfl,rfl,rfl,rfl,rfl,rfl,rfl,trivial⟩ fun i hI=>?_
  rcases pG i qs.length with hi | hi
  ·obtain ⟨q,hqe⟩:=gE hi
   obtain ⟨o1,o2⟩:=hq q (pD hqe); have hg:=kO qs i q hqe
   obtain ⟨en1,en⟩:=qn_two (hn q (pD hqe)); have hdC:(wI q).den∣C:=by
    have:=hdv q (pD hqe)
    rwa [mS] at this
   have hden:=(wI q).den_nz; have q3:=x6 (zn (C:Nat)) q.2 (qF _ (by omega)) o1.ok.2 (by rw [en]; omega) (by rw [en,wE]; exact pB2.2 hdC)
   rw [en,wE] at q3; have hle:((C:Nat):Int).tdiv ((wI q).den:Int)=((C / (wI q).den:Nat):Int):=(Int.ofNat_tdiv ..).symm
   have q4:=xL q.1 (zn (((C:Nat):Int).tdiv ((wI q).den:Int))) o1.ok.1 (qF _ (by rw [hle]; exact pC (xO (cN ..)) (by omega)))
   rw [wE,en1,← mul_num _ _ hdC] at q4; have q4':wD Tryz.prog 114 [vI q.1,vI (zn (((C:Nat):Int).tdiv ((wI q).den:Int)))] (fun y=>y=vI (zW (C:Nat) q)):=q4
   have hs:((qs.take i).map (zW (C:Nat))).map wS++[wS (zW (C:Nat) q)]=((qs.take (i+1)).map (zW (C:Nat))).map wS:=by
    rw [jQ hqe]
    simp
   have hlen:(((qs.take i).map (zW (C:Nat))).map wS).length=i:=by rw [pF,pF,pM]; omega
   have wJJ:∀ e∈[wS (zW (C:Nat) q)],e.length=2:=fun e h=>by rw [pL.1 h]; rfl
   clear q4 hq hn hdv en1 en hle; generalize zW (C:Nat) q=cf at *
   unfold nI at q3; generalize zn (((C:Nat):Int).tdiv ((wI q).den:Int))=cd at *
   obtain ⟨⟨x,l⟩,⟨y,k⟩⟩:=q; obtain ⟨fx,fl⟩:=cf
   obtain ⟨dx,dl⟩:=cd
   repeat (first | refine wg rfl (sX i hg) ?_ | refine wc q3 ?_ | refine wc q4' ?_ | refine wf rfl rfl (sA 7001 [wS (fx,fl)] 2 32 wJJ hs) ?_ | refine wl ?_ | refine wv ?_ | refine wg rfl cT ?_ | refine wg rfl sB ?_ | refine wz ?_)
   exact ⟨i+1,hi,by omega,rfl,rfl,rfl,rfl,rfl,rfl,rfl,trivial⟩
  ·have hie:i=qs.length:=by omega
   subst hie; rw [mH]
   repeat (first | refine wv ?_ | refine wg rfl cF ?_ | refine rr_vfx wG [.tmp 4] rfl rfl rfl rfl rfl ?_ | refine wz ?_)
   exact ⟨.inl rfl,_,rfl,rfl⟩
end Go.Proofs.YtkjhfnhgefbhhaaGreat
/- rat.Common, qmat.From of the program, told of trees. ALLOC -/
namespace Go.Proofs.YtkjhfnhgefbhhaaGreat
open Go.RowKit Go.Ev Go.Vl
theorem madeC_v (g:FuncId) (fn:Func) (hfn:zV.fns.get g=some fn) (qs:List QQ) (zx:Bool) (zl:List Nat) (L:List (List V)) (hq:∀ q∈qs,okQ q∧intOf q.2≠0) (hl:qs.length≤1099511627776) (hg:wD Tryz.prog g [vQs (qs.map clN)] (fun y=>y=.tup [.agg [.bool zx,vL zl,.list L],.int .i64 0])) :
  wD Tryz.prog 251 [.clo g [] [],vQs qs] (fun y=>y=.tup [.agg [.bool zx,vL zl,.list L],.int .i64 0]):=by
 refine wC wG Tryz.func251 rfl rfl rfl rfl fun w0=>?_
 repeat (first | refine wg rfl (sL (qW _)) ?_ | refine wl ?_ | refine wv ?_ | refine wg rfl (sM 7000 0 qs.length 4 64 (es':=[]) rfl) ?_ | refine wz ?_)
 refine wJ (fun b:Nat × List QQ=>[jV 0 (.clo g [] []),jB 8 4,jC 9 [.v (.bool false),.nils,.nils],jB 12 6,jC 13 [.v (.bool false),.nils,.nils],jO 14 1 89 4 (b.2.map wH),jV 30 (vQs qs),jI 32 (qs.length),jI 34 (b.1)])
  (fun b=>b.1≤qs.length∧b.2=(qs.take b.1).map clN) (fun b=>qs.length - b.1) (0,[]) (fun _=>rfl) ⟨pH _,rfl⟩ ⟨rfl,rfl,rfl,rfl,rfl,⟨_,rfl⟩,rfl,rfl,rfl,trivial⟩ fun ⟨j,out⟩ hI=>?_
 obtain ⟨h1,h3⟩:=hI; dsimp only at h1 h3 ⊢
 have hol:(out.map wH).length=out.length:=qW _; have hol2:out.length=j:=by rw [h3]; simp; omega
 rcases pG j qs.length with hj | hj
 ·obtain ⟨q,hqe⟩:=gE hj
  have hqo:=hq q (pD hqe); have hgq:=kO qs j q hqe
  have q1:=wJ3 q hqo.1 hqo.2; have hs:=wPI out (clN q)
  have hnew:out++[clN q]=(qs.take (j+1)).map clN:=by
   rw [h3,mO,hqe]
   simp
  unfold nR at q1; rw [show qn (wI q)=clN q from rfl] at q1
  generalize clN q=p at *; obtain ⟨⟨x,l⟩,⟨y,k⟩⟩:=q
  obtain ⟨⟨x',l'⟩,⟨y',k'⟩⟩:=p; clear hg
  have row4:∀ e∈[wH ((x',l'),(y',k'))],e.length=4:=fun e h=>by rw [pL.1 h]; rfl
  repeat (first | refine wl ?_ | refine wv ?_ | refine wg rfl (sX j hgq) ?_ | refine wc q1 ?_ | refine wf rfl rfl (sA 7001 [wH ((x',l'),(y',k'))] 4 64 row4 hs) ?_ | refine wg rfl cT ?_ | refine wg rfl nF ?_ | refine wg rfl sB ?_ | refine wz ?_)
  exact ⟨(j+1,out++[((x',l'),(y',k'))]),⟨hj,hnew⟩,by dsimp only; omega,rfl,rfl,rfl,rfl,rfl,⟨_,rfl⟩,rfl,rfl,rfl,trivial⟩
 ·have hje:j=qs.length:=by omega
  subst hje; rw [mH] at h3
  rw [← h3] at hg
  repeat (first | refine wv ?_ | refine wg rfl cF ?_ | refine wMD wG rfl rfl rfl rfl rfl rfl rfl hfn rfl hg rfl rfl ?_ | refine wz ?_)
  exact ⟨.inl rfl,_,rfl,rfl⟩
theorem comD_cl (qs:List QQ):qM (qs.map clN)=qM qs:=by
 unfold qM; rw [mT]
 congr 1
 exact mE fun q _=>by simp only [Function.comp]; rw [vC]
theorem comF_cl (C:Int) (qs:List QQ):(qs.map clN).map (zW C)=qs.map (zW C):=by
 rw [mT]; exact mE fun q _=>by simp only [Function.comp]; unfold zW; rw [vC]
theorem commonP_v (qs:List QQ) (D:Nat) (hD:0<D) (hDl:lm D≤68719476736) (hq:∀ q∈qs,okS q∧(wI q).den∣D) (hl:qs.length≤1099511627776):wD Tryz.prog 203 [vQs qs] (fun y=>y=.tup [nI (qM qs:Nat),.list ((qs.map (zW (qM qs:Nat))).map wS),.int .i64 0]):=by
 refine wC wG Tryz.func203 rfl rfl rfl rfl fun w0=>?_
 have q0:=comc_v (qs.map clN) D hD hDl (fun q hq'=>by
  obtain ⟨p,hp,rfl⟩:=pJ.1 hq'; obtain ⟨h1,h2⟩:=hq p hp
  exact ⟨wG4 h1,by rw [vC]; exact h2⟩) (fun q hq'=>by
  obtain ⟨p,hp,rfl⟩:=pJ.1 hq'; rw [vC]
  rfl) (by rw [pF]; exact hl)
 rw [comD_cl,comF_cl] at q0; have q1:=madeC_v 252 Tryz.f252 rfl qs _ _ _ (fun q hq'=>wN6 (hq q hq').1) hl q0
 clear q0 hq; unfold nI
 generalize (qs.map (zW (qM qs:Nat))).map wS=L at *; generalize zn (qM qs:Nat)=z at *
 obtain ⟨zx,zl⟩:=z
 repeat (first | refine wl ?_ | refine wv ?_ | refine wc q1 ?_ | refine wz ?_)
 exact ⟨.inl rfl,_,rfl,rfl⟩
theorem evenR_v (R:List (List QQ)) (n:Nat) (h:∀ r∈R,r.length=n) (hn:n≤1099511627776) (hl:R.length≤1099511627776):wD Tryz.prog 204 [.list (qU R)] (fun y=>y=.bool true):=by
 refine wC wG Tryz.func204 rfl rfl rfl rfl fun w0=>?_
 repeat (first | refine wg rfl (sL (kR R)) ?_ | refine wv ?_ | refine wz ?_)
 refine wJ (fun j:Nat=>[jV 0 (.list (qU R)),jV 10 (.list (qU R)),jI 12 (R.length),jI 14 j])
  (fun j=>j≤R.length) (fun j=>R.length - j) 0 (fun _=>rfl) (pH _) ⟨rfl,rfl,rfl,rfl,trivial⟩ fun j h1=>?_
 rcases pG j R.length with hj | hj
 ·obtain ⟨r,hr⟩:=gE hj
  obtain ⟨r0,hr0⟩:=gE (l:=R) (i:=0) (by omega)
  have hg:=j9 R j r hr; have hg0:=j9 R 0 r0 hr0
  have l1:(r.map wH).length=n:=by rw [pF]; exact h r (pD hr)
  have l0:(r0.map wH).length=n:=by rw [pF]; exact h r0 (pD hr0)
  clear h
  repeat (first | refine wg rfl (sL l1) ?_ | refine wg rfl (sL l0) ?_ | refine wv ?_ | refine wg rfl (sX j hg) ?_ | refine wg rfl (sX 0 hg0) ?_ | refine wg rfl cT ?_ | refine wg rfl nF ?_ | refine wg rfl sB ?_ | refine wz ?_)
  exact ⟨j+1,hj,by omega,rfl,rfl,rfl,rfl,trivial⟩
 ·repeat (first | refine wv ?_ | refine wg rfl cF ?_ | refine wz ?_)
  exact ⟨.inl rfl,_,rfl,rfl⟩
def wHJ (R:List (List QQ)):MM:=wAA (zn (qM R.flatten:Nat)) (R.map fun r=>r.map (zW (qM R.flatten:Nat)))
theorem fromP_v (R:List (List QQ)) (n D:Nat) (hD:0<D) (hDl:lm D≤34359738368) (hq:∀ q∈R.flatten,okS q∧lm (wI q).num≤34359738368∧(wI q).den∣D) (hr:∀ r∈R,r.length=n) (hn:n≤1048576) (hl:R.length≤1048576) (hfl:R.flatten.length≤1048576):wD Tryz.prog 139 [.list (qU R)] (fun y=>y=.tup [vM (wHJ R),.int .i64 0]):=by
 refine y6 wG Tryz.func139 rfl rfl rfl rfl fun w0 hmk hro=>?_
 have q2:=qHD (R.map fun r=>r.map wH)
 rw [gridQ] at q2; have hseq:=eachR_v (R.map fun r=>r.map wH) (fun r hr e he=>by
  obtain ⟨r',_,rfl⟩:=pJ.1 hr; obtain ⟨z,_,rfl⟩:=pJ.1 he
  rfl) (by simp only [List.length_map]; omega) (fun r hr'=>by
  obtain ⟨r',h1,rfl⟩:=pJ.1 hr'; rw [pF,hr r' h1]
  omega)
 rw [gridQL,gridQ] at hseq; have q3:=commonP_v R.flatten D hD (by omega) (fun q h=>⟨(hq q h).1,(hq q h).2.2⟩) (by omega)
 have q4:=evenR_v R n hr (by omega) (by omega)
 have hCD:qM R.flatten∣D:=wEF _ _ fun q h=>(hq q h).2.2
 have hC0:0<qM R.flatten:=pA7 fun e=>by
  rw [e] at hCD; have:=Nat.eq_zero_of_zero_dvd hCD
  omega
 have hCl:lm (qM R.flatten:Int)≤34359738368:=pC (xO (cO hD hCD)) hDl; have q5:=qD5 (zn (qM R.flatten:Nat)) (R.map fun r=>r.map (zW (qM R.flatten:Nat))) (qF _ (by omega)) (by rw [wE]; omega) (fun r hr' x hx=>by
  obtain ⟨r',h1,rfl⟩:=pJ.1 hr'; obtain ⟨q,h2,rfl⟩:=pJ.1 hx
  have h3:=(hq q (cL.2 ⟨r',h1,h2⟩)).2.1; refine qF _ ?_
  have h4:=(wJA (wI q) (((qM R.flatten:Nat):Int):Rat) rfl).1; have h5:lm (((qM R.flatten:Nat):Int):Rat).num=lm (qM R.flatten:Int):=rfl
  omega) (by rw [pF]; omega) (fun r hr'=>by
  obtain ⟨r',h1,rfl⟩:=pJ.1 hr'; rw [pF,hr r' h1]
  omega)
 rw [show wAA (zn (qM R.flatten:Nat)) (R.map fun r=>r.map (zW (qM R.flatten:Nat)))=wHJ R from rfl] at q5
 generalize wHJ R=M at *; obtain ⟨C,hCe⟩:∃ C:Int,((qM R.flatten:Nat):Int)=C:=⟨_,rfl⟩
 rw [hCe] at q3 q5; clear hCe hCl hC0 hCD hq
 repeat (first | refine wl ?_ | refine wv ?_ | refine wc q2 ?_ | refine wz ?_)
 refine wP6 2 2 rfl rfl fun u2=>?_
 refine wP6 4 4 rfl rfl fun u4=>?_
 refine wTC 4 0 4 89 rfl rfl rfl ?_
 refine wF4 wG (fun b:List QQ=>[jC 9 [.own 0 89 4 (b.map wH)],jC 5 [.v (.bool false),.nils,.nils]])
  [jV 0 (.list (qU R)),(4,some (.sv (.rp 2 u2 0))),(8,some (.sv (.rp 4 u4 0)))]
  (fun j b=>b=R.flatten.take j) []
  (fun _ e b=>[jB 10 5,jC 11 (match e with | [.agg cs]=>cs.map .v | _=>[]),jC 9 [.own 0 89 4 (b.map wH)],jC 5 [.v (.bool false),.nils,.nils],jV 0 (.list (qU R)),(4,some (.sv (.rp 2 u2 0))),(8,some (.sv (.rp 4 u4 0)))])
  hro hmk rfl rfl hseq rfl (fun e he=>by
   obtain ⟨z,_,rfl⟩:=pJ.1 he
   rfl) rfl (fun _=>rfl) rfl ⟨rfl,rfl,rfl,rfl,rfl,trivial⟩ (fun _ _ _=>rfl) ?_ ?_ ?_
 ·intro j e b he hI w1
  rw [pI] at he; obtain ⟨z,hz,rfl⟩:=bJ.1 he
  obtain ⟨⟨zx,zl⟩,⟨zy,zk⟩⟩:=z
  repeat (first | refine wl ?_ | refine wv ?_ | refine wz ?_)
  exact ⟨rfl,rfl,rfl,rfl,rfl,rfl,rfl,rfl,trivial⟩
 ·intro j e b he hI w1
  rw [pI] at he; obtain ⟨z,hz,rfl⟩:=bJ.1 he
  subst hI; have hs:(R.flatten.take j).map wH++[wH z]=(R.flatten.take (j+1)).map wH:=by
   rw [mO,hz]
   simp
  have hlen:((R.flatten.take j).map wH).length≤1048576:=by
   rw [pF,pM]; omega
  have wJJ:∀ e∈[wH z],e.length=4:=fun e h=>by rw [pL.1 h]; rfl
  obtain ⟨⟨zx,zl⟩,⟨zy,zk⟩⟩:=z
  repeat (first | refine wf rfl rfl (sA 7001 [wH ((zx,zl),(zy,zk))] 4 64 wJJ hs) ?_ | refine wv ?_ | refine wz ?_)
  exact ⟨rfl,_,rfl,rfl,rfl,rfl,rfl,rfl,trivial⟩
 ·intro b hI
  rw [pF,mH] at hI; subst hI
  show VW _ _ _ _ _ _
  refine wTA 2 2 rfl rfl ?_
  refine wTA 4 4 rfl rfl ?_
  repeat (first | refine wg rfl (sL (kR R)) ?_ | refine wh q3 ?_ | refine wc q4 ?_ | refine wl ?_ | refine wv ?_ | refine wg rfl nF ?_ | refine wz ?_)
  refine zR (d:=9) (id:=1) (k:=1) (T:=77) rfl rfl rfl rfl ?_
  refine wJ (fun j:Nat=>[jB 4 2,jC 5 [.v (.bool false),.nils,.nils],jB 12 6,jC 13 [.v (.bool (zn C).1),.v (vL (zn C).2)],jV 14 (.list (((R.drop j).flatten.map (zW C)).map wS)),jO 18 1 77 1 (kB ((R.take j).map fun r=>r.map (zW C))),jV 66 (.list (qU R)),jI 68 (R.length),jI 70 j])
   (fun j=>j≤R.length) (fun j=>R.length - j) 0 (fun _=>rfl) (pH _) ⟨rfl,rfl,rfl,rfl,rfl,⟨_,rfl⟩,rfl,rfl,rfl,trivial⟩ fun j hj'=>?_
  rcases pG j R.length with hj | hj
  ·obtain ⟨r,hrj⟩:=gE hj
   have hg:=j9 R j r hrj; have hrn:=hr r (pD hrj)
   have hd:=zZ R j r hrj; have hfl:(((R.drop j).flatten.map (zW C)).map wS)=(r.map (zW C)).map wS++((R.drop (j+1)).flatten.map (zW C)).map wS:=by
    rw [hd]
    simp
   have hrl2:((r.map (zW C)).map wS).length=r.length:=by rw [pF,pF]
   have hp1:(((R.drop j).flatten.map (zW C)).map wS).take r.length=(r.map (zW C)).map wS:=by rw [hfl,pF2 hrl2]
   have hp2:(((R.drop j).flatten.map (zW C)).map wS).drop r.length=((R.drop (j+1)).flatten.map (zW C)).map wS:=by rw [hfl,List.drop_left' hrl2]
   have hle:r.length≤(((R.drop j).flatten.map (zW C)).map wS).length:=by rw [hfl,pW]; omega
   have hk2:∀ e∈((R.drop j).flatten.map (zW C)).map wS,e.length=2:=fun e h=>by
    obtain ⟨q,_,rfl⟩:=pJ.1 h
    rfl
   have hs:kB ((R.take j).map fun r=>r.map (zW C))++[[V.list ((r.map (zW C)).map wS)]]=kB ((R.take (j+1)).map fun r=>r.map (zW C)):=by
    rw [jQ hrj]; unfold kB
    simp
   have hlen:(kB ((R.take j).map fun r=>r.map (zW C))).length=j:=by rw [jP,pF,pM]; omega
   have wB2:∀ e∈[[V.list ((r.map (zW C)).map wS)]],e.length=1:=fun e h=>by rw [pL.1 h]; rfl
   generalize ((R.drop j).flatten.map (zW C)).map wS=es at *
   repeat (first | refine wg rfl (sL (qW r)) ?_ | refine wg rfl (sX j hg) ?_ | refine wg rfl (wR5 (h:=r.length) wG rfl rfl rfl rfl rfl rfl rfl rfl hk2 hle hp1 rfl) ?_ | refine wg rfl (wD6 wG (l:=r.length) rfl rfl rfl rfl rfl rfl hk2 hle hp2 rfl) ?_ | refine wf rfl rfl (sA 7002 [[V.list ((r.map (zW C)).map wS)]] 1 24 wB2 hs) ?_ | refine wv ?_ | refine wg rfl cT ?_ | refine wg rfl sB ?_ | refine wz ?_)
   exact ⟨j+1,hj,by omega,rfl,rfl,rfl,rfl,rfl,⟨_,rfl⟩,rfl,rfl,rfl,trivial⟩
  ·have hje:j=R.length:=by omega
   subst hje; rw [mH]
   repeat (first | refine wv ?_ | refine wg rfl cF ?_ | refine wh q5 ?_ | refine wz ?_)
   exact ⟨.inl rfl,_,rfl,rfl⟩
end Go.Proofs.YtkjhfnhgefbhhaaGreat
/- qmat.Blocks of the program, told of trees. ALLOC -/
namespace Go.Proofs.YtkjhfnhgefbhhaaGreat
open Go.RowKit Go.Ev Go.Vl
def zI (ms:List MM):Int:=ms.foldl (fun d m=>d*intOf m.1) 1
theorem prodD_snoc (ms:List MM) (m:MM):zI (ms++[m])=zI ms*intOf m.1:=by unfold zI; rw [pE4]; rfl
theorem prodD_take {ms:List MM} {j:Nat} {m:MM} (h:ms[j]? = some m):zI (ms.take (j+1))=zI (ms.take j)*intOf m.1:=by rw [jQ h,prodD_snoc]
theorem wE9:∀ (ms:List MM) (x:Int),ms.foldl (fun d m=>d*intOf m.1) x=x*zI ms
 | [],x=>by show x=x*1; rw [Int.mul_one]
 | m :: ms,x=>by
  unfold zI; rw [bP,bP,wE9 ms,wE9 ms,pB6,Int.mul_assoc]
theorem wMI:∀ {ms:List MM},(∀ m∈ms,intOf m.1≠0)→zI ms≠0
 | [],_=>by decide
 | m :: ms,h=>by
  unfold zI; rw [bP,wE9,pB6]
  exact cD (h m (pO ..)) (wMI fun x hx=>h x (pT _ hx))
theorem wPJ:∀ {ms:List MM} {m:MM},m∈ms→intOf m.1∣zI ms
 | m :: ms,m',h=>by
  unfold zI; rw [bP,wE9,pB6]
  rcases pQ.1 h with rfl | h
  ·exact Int.dvd_mul_right ..
  ·exact pE1 (wPJ h) (Int.dvd_mul_left ..)
theorem wUJ {K:Nat}:∀ {ms:List MM},(∀ m∈ms,lm (intOf m.1)≤K)→lm (zI ms)≤ms.length*K+1
 | [],_=>by show lm 1≤_; exact pC wFI (by omega)
 | m :: ms,h=>by
  have h1:=h m (pO ..); have ih:=wUJ (K:=K) (ms:=ms) fun x hx=>h x (pT _ hx)
  have h2:=qJ (intOf m.1) (zI ms); unfold zI
  rw [bP,wE9,pB6,mG,cR]; unfold zI at h2 ih ⊢
  omega
def blkI (d:Int) (m:MM):Nat × (Nat→Nat→Int):=(m.2.length,fun a b=>intOf (ent m.2 a b)*d.tdiv (intOf m.1))
def yJ (d:Int) (ms:List MM):List (Nat × (Nat→Nat→Int)):=ms.map (blkI d)
theorem wXA {d:Int} {ms:List MM} {j:Nat} {m:MM} (h:ms[j]? = some m):(yJ d ms)[j]? = some (blkI d m):=by unfold yJ; rw [pI,h]; rfl
theorem qB1 (d:Int) (ms:List MM):(yJ d ms).length=ms.length:=pF ..
theorem blksI_N (d:Int):∀ ms:List MM,dsN (yJ d ms)=dsN (zT ms)
 | []=>rfl
 | m :: ms=>by rw [show yJ d (m :: ms)=blkI d m :: yJ d ms from rfl,show zT (m :: ms)=wLH m :: zT ms from rfl,xF,xF,blksI_N d ms]; rfl
def j8 (N:Nat) (ms:List MM):MM:=wAA (zn (zI ms)) (kC N N fun a b=>zn (dsA 0 (yJ (zI ms) ms) a b))
theorem blkI_rat {d:Int} {m:MM} (h0:intOf m.1≠0) (hd:intOf m.1∣d) (hd0:d≠0) (a b:Nat):Rat.divInt ((blkI d m).2 a b) d=(wLH m).2 a b:=by
 obtain ⟨k,rfl⟩:=hd; have hk:k≠0:=fun e=>hd0 (by rw [e,Int.mul_zero])
 show Rat.divInt (intOf (ent m.2 a b)*(intOf m.1*k).tdiv (intOf m.1)) (intOf m.1*k)=Rat.divInt (intOf (ent m.2 a b)) (intOf m.1)
 rw [fA _ h0]; exact dY hk
theorem qG5 {ms:List MM} {K N:Nat} (h:∀ m∈ms,sqM m m.2.length K) (hN0:0<N):wT (j8 N ms)=gQ N (dsA 0 (zT ms)):=by
 have hd0:=wMI fun m hm=>(h m hm).den
 unfold j8; rw [wFA (by rw [wE]; exact hd0) hN0 hN0,wE]
 unfold gQ; refine mE fun a _=>mE fun b _=>?_
 congr 1
 rw [dsA_map (fun x=>Rat.divInt x (zI ms)),bY]
 refine dsEq.eq 0 ?_ a b
 unfold yJ zT; rw [mT]
 exact dsEq.maps fun m hm=>⟨rfl,fun a b _ _=>blkI_rat (h m hm).den (wPJ hm) hd0 a b⟩
theorem qAH:∀ {ms:List MM},(∀ m∈ms,chk m=0)→chks ms=0
 | [],_=>rfl
 | m :: ms,h=>by
  unfold chks; rw [if_pos (h m (pO ..))]
  exact qAH fun x hx=>h x (pT _ hx)
def wD7 (N:Nat) (G:Nat→Int):List (List V):=(List.range N).map fun b=>wS (zn (G b))
theorem wH0 (N:Nat) (G:Nat→Int):(wD7 N G).length=N:=by unfold wD7; rw [pF,cK]
theorem qCB {N:Nat} (G:Nat→Int) {b:Nat} (h:b<N):(wD7 N G)[b]? = some (wS (zn (G b))):=by
 unfold wD7; rw [pI,bK h]
 rfl
theorem rowI_set {N:Nat} (G G':Nat→Int) {k:Nat} (h:∀ b,b<N→G' b=if b=k then G' k else G b):(wD7 N G).set k (wS (zn (G' k)))=wD7 N G':=by
 apply bA
 intro b
 rw [gF]; rcases pG b N with hb | hb
 ·have:=h b hb
  rw [qCB G' hb,qCB G hb,wH0]
  by_cases e:k=b
  ·subst e
   rw [if_pos rfl,if_pos hb]
  ·rw [if_neg e,this,if_neg fun x=>e x.symm]
 ·have e1:(wD7 N G)[b]? = none:=cE (by rw [wH0]; exact hb)
  have e2:(wD7 N G')[b]? = none:=cE (by rw [wH0]; exact hb)
  rw [e1,e2,wH0]
  split
  ·rw [if_neg (by omega)]
  ·rfl
theorem rowI_zero (N:Nat):List.replicate N [V.bool false,V.list []]=wD7 N fun _=>0:=by
 unfold wD7; have e:wS (zn 0)=[V.bool false,V.list []]:=by unfold wS zn vL uL; simp [qB]
 show _=List.map (fun _=>wS (zn 0)) (List.range N)
 rw [e,qD3,cK]
theorem rowI_congr {N:Nat} {G G':Nat→Int} (h:∀ b,b<N→G b=G' b):wD7 N G=wD7 N G':=mE fun b hb=>by rw [h b (dK.1 hb)]
theorem tabI_snoc (r N:Nat) (F:Nat→Nat→Int):kB (kC r N fun a b=>zn (F a b))++[[V.list (wD7 N (F r))]]=kB (kC (r+1) N fun a b=>zn (F a b)):=by
 unfold kB kC wD7; rw [gZ]
 simp [List.map_map]
theorem tabI_len (r N:Nat) (F:Nat→Nat→Int):(kB (kC r N fun a b=>zn (F a b))).length=r:=by simp [kB,kC]
theorem qblocks_v (ms:List MM) (K N:Nat) (hK:K≤1073741824) (h:∀ m∈ms,sqM m m.2.length K∧0<m.2.length) (hN:dsN (zT ms)=N) (hN24:N≤24):wD Tryz.prog 83 [vMs ms] (fun y=>y=.tup [vM (j8 N ms),.int .i64 0]):=by
 refine wC wG Tryz.func83 rfl rfl rfl rfl fun w0=>?_
 have hml:ms.length≤24:=by have:=wOA fun m hm=>(h m hm).2; omega
 have hle:=wWC (yJ (zI ms) ms); have hNI:dsN (yJ (zI ms) ms)=N:=by rw [blksI_N]; exact hN
 have hd0:=wMI fun m hm=>(h m hm).1.den
 have hdl:∀ j,j≤ms.length→lm (zI (ms.take j))≤24*K+1:=fun j hj=>by
  have h1:=wUJ (K:=K) (ms:=ms.take j) fun m hm=>by
   have hs:=(h m (dC hm)).1; exact pC (wL _ hs.ok.1) hs.ok.2.1
  have h2:(ms.take j).length≤24:=by rw [pM]; omega
  have h3:(ms.take j).length*K≤24*K:=mC _ h2; omega
 have q0:=wX0 ms (fun m hm=>⟨⟨(h m hm).1.ok.1,pC (h m hm).1.ok.2.1 (by omega)⟩,by have:=(h m hm).1.ok.2.2.1.1; omega⟩) (by omega)
 rw [qAH fun m hm=>(h m hm).1.ch] at q0
 have q1:=wR0 1 (by decide)
 repeat (first | refine wc q0 ?_ | refine wc q1 ?_ | refine wg rfl (sL (wH9 ms)) ?_ | refine wl ?_ | refine wv ?_ | refine wg rfl nF ?_ | refine wz ?_)
 refine wJ (fun b:Nat × Nat × Int=>[jV 0 (vMs ms),jB 4 2,jC 5 [.v (.bool false),.nils,.nils],jI 10 (b.2.1),jB 12 6,jC 13 [.v (.bool (zn b.2.2).1),.v (vL (zn b.2.2).2)],jV 62 (vMs ms),jI 64 (ms.length),jI 66 (b.1)])
  (fun b=>b.1≤ms.length∧b.2.1=dsN ((yJ (zI ms) ms).take b.1)∧b.2.2=zI (ms.take b.1)) (fun b=>ms.length - b.1) (0,0,1) (fun _=>rfl) ⟨pH _,rfl,rfl⟩ ⟨rfl,rfl,rfl,rfl,rfl,rfl,rfl,rfl,rfl,trivial⟩ fun ⟨j,s,d⟩ hI=>?_
 obtain ⟨i1,i2,i3⟩:=hI; dsimp only at i1 i2 i3 ⊢
 rcases pG j ms.length with hj | hj
 ·obtain ⟨m,hm⟩:=gE hj
  have hg:=wRD ms j m hm; obtain ⟨o1,o2⟩:=h m (pD hm)
  have e1:=wED (wXA (d:=zI ms) hm); rw [← i2,show (blkI (zI ms) m).1=m.2.length from rfl] at e1
  have e2:=hle (j+1); have hcl:=o1.cl o2
  have q2:=wMG m (by omega)
  rw [hcl] at q2; have hlj:=hdl j i1
  rw [← i3] at hlj; have q3:=xL (zn d) m.1 (qF _ (by omega)) ⟨o1.ok.1,pC o1.ok.2.1 (by omega)⟩
  rw [wE,i3,← prodD_take hm] at q3; obtain ⟨n,hn⟩:∃ n,m.2.length=n:=⟨_,rfl⟩
  rw [hn] at q2 e1; rw [← i3] at q3
  obtain ⟨d',hd'⟩:∃ d',zI (ms.take (j+1))=d':=⟨_,rfl⟩; rw [hd'] at q3
  clear h hcl o1 hdl hd0 hlj i3; obtain ⟨⟨x,l⟩,t⟩:=m
  repeat (first | refine wg rfl (sX j hg) ?_ | refine wg rfl (sN (s+n)) ?_ | refine wc q2 ?_ | refine wc q3 ?_ | refine wl ?_ | refine wv ?_ | refine wg rfl cT ?_ | refine wg rfl sB ?_ | refine wz ?_)
  exact ⟨(j+1,s+n,d'),⟨hj,e1.symm,hd'.symm⟩,by dsimp only; omega,rfl,rfl,rfl,rfl,rfl,rfl,rfl,rfl,rfl,trivial⟩
 have hje:j=ms.length:=by omega
 subst hje; rw [pN (by rw [qB1]; exact pE _),hNI] at i2
 rw [pN (pE _)] at i3; rw [i2,i3]
 clear i2 i1 hj i3; have hdl':=hdl ms.length (pE _)
 rw [pN (pE _)] at hdl'; have hdvd:=fun m (hm:m∈ms)=>wPJ hm
 clear hdl; have hI0:∀ a b,lm (dsA 0 (yJ (zI ms) ms) a b)≤25*K+1:=wT2 (fun x:Int=>lm x≤25*K+1) (by show lm 0≤_; unfold lm; simp [qB]) fun p hp a b _ _=>by
  obtain ⟨m,hm,rfl⟩:=pJ.1 hp; have h1:=ent_ok2 (h m hm).1 a b
  have h2:=qJ (intOf (ent m.2 a b)) ((zI ms).tdiv (intOf m.1)); have h3:lm ((zI ms).tdiv (intOf m.1))≤lm (zI ms):=jF (by rw [dX]; exact cN ..)
  show lm (intOf (ent m.2 a b)*(zI ms).tdiv (intOf m.1))≤_
  omega
 have q9:=qD5 (zn (zI ms)) (kC N N fun a b=>zn (dsA 0 (yJ (zI ms) ms) a b)) (qF _ (by omega)) (by rw [wE]; exact hd0) (fun r hr z hz=>by
  obtain ⟨a,b,rfl⟩:=(wBE hr).2 z hz; have:=hI0 a b
  exact qF _ (by omega)) (by unfold kC; simp only [List.length_map,List.length_range]; omega) (fun r hr=>by rw [(wBE hr).1]; omega)
 rw [show wAA (zn (zI ms)) (kC N N fun a b=>zn (dsA 0 (yJ (zI ms) ms) a b))=j8 N ms from rfl] at q9
 generalize j8 N ms=M at *; have hrowI:=fun j p hp r b hr=>dsA_row 0 (yJ (zI ms) ms) j p hp r b hr
 obtain ⟨I,hI⟩:∃ I:Nat→Nat→Int,dsA 0 (yJ (zI ms) ms)=I:=⟨_,rfl⟩; rw [hI] at q9 hI0 hrowI
 generalize zI ms=d at *
 repeat (first | refine wg rfl (sL (wH9 ms)) ?_ | refine wv ?_ | refine wg rfl cF ?_ | refine wz ?_)
 refine zR (d:=11) (id:=1) (k:=1) (T:=77) rfl rfl rfl rfl ?_
 refine wJ (fun b:Nat × Nat=>[jB 4 2,jC 5 [.v (.bool false),.nils,.nils],jI 10 N,jB 12 6,jC 13 [.v (.bool (zn d).1),.v (vL (zn d).2)],jO 22 1 77 1 (kB (kC b.2 N fun a b=>zn (I a b))),jI 24 (b.2),jV 100 (vMs ms),jI 102 (ms.length),jI 104 (b.1)])
  (fun b=>b.1≤ms.length∧b.2=dsN ((yJ d ms).take b.1)) (fun b=>ms.length - b.1) (0,0) (fun _=>rfl) ⟨pH _,rfl⟩ ⟨rfl,rfl,rfl,rfl,rfl,⟨_,rfl⟩,rfl,rfl,rfl,rfl,trivial⟩ fun ⟨j,o⟩ hI=>?_
 obtain ⟨i1,i2⟩:=hI; dsimp only at i1 i2 ⊢
 rcases pG j ms.length with hj | hj
 ·obtain ⟨m,hm⟩:=gE hj
  have hg:=wRD ms j m hm; obtain ⟨o1,o2⟩:=h m (pD hm)
  have e1:=wED (wXA (d:=d) hm); rw [← i2,show (blkI d m).1=m.2.length from rfl] at e1
  have e2:=hle (j+1); have hcl:=o1.cl o2
  have hrows:=o1.cols; have hent:∀ a b,lm (intOf (ent m.2 a b))≤K:=fun a b=>ent_ok2 o1 a b
  have q2:=wMG m (by omega)
  rw [hcl] at q2; have hdm:=hdvd m (pD hm)
  have q3:=x6 (zn d) m.1 (qF _ (by omega)) ⟨o1.ok.1,pC o1.ok.2.1 (by omega)⟩ o1.den (by rw [wE]; exact hdm)
  rw [wE] at q3; have hfl:lm (d.tdiv (intOf m.1))≤24*K+1:=pC (jF (by rw [dX]; exact cN ..)) hdl'
  have hrow:∀ a b,a<m.2.length→I (o+a) b=if o≤b∧b - o<m.2.length then intOf (ent m.2 a (b - o))*d.tdiv (intOf m.1) else 0:=fun a b ha=>by
   have:=hrowI j (blkI d m) (wXA hm) a b ha; rw [← i2] at this
   exact this
  have hokm:=o1.ok.2.2.1.2; obtain ⟨f,hf⟩:∃ f,d.tdiv (intOf m.1)=f:=⟨_,rfl⟩
  rw [hf] at q3 hfl hrow; obtain ⟨⟨x,l⟩,t⟩:=m
  dsimp only at hrows hent hrow hokm e1 o2 q2; obtain ⟨n,hn⟩:∃ n,t.length=n:=⟨_,rfl⟩
  rw [hn] at q2 e1 hrow hrows; have hlt:=jP t
  clear h hcl hf hdm o1 hdvd q9 hI0 hrowI
  repeat (first | refine wg rfl (sL (hlt.trans hn)) ?_ | refine wg rfl (sX j hg) ?_ | refine wc q2 ?_ | refine wc q3 ?_ | refine wl ?_ | refine wv ?_ | refine wg rfl cT ?_ | refine wz ?_)
  refine wJ (fun a:Nat=>[jB 4 2,jC 5 [.v (.bool false),.nils,.nils],jI 10 N,jB 12 6,jC 13 [.v (.bool (zn d).1),.v (vL (zn d).2)],jO 22 1 77 1 (kB (kC (o+a) N fun a b=>zn (I a b))),jI 24 o,jV 100 (vMs ms),jI 102 (ms.length),jI 104 j,
   jB 30 15,jC 31 [.v (.bool (zn f).1),.v (vL (zn f).2)],jI 36 n,jV 138 (vT t),jI 140 n,jI 142 a])
   (fun a=>a≤n) (fun a=>n - a) 0 (fun _=>rfl) (pH _) ⟨rfl,rfl,rfl,rfl,rfl,⟨_,rfl⟩,rfl,rfl,rfl,rfl,rfl,rfl,rfl,rfl,rfl,rfl,trivial⟩ fun a ha'=>?_
  rcases pG a n with ha | ha
  ·obtain ⟨r,hr⟩:=gE (l:=t) (i:=a) (by omega)
   have hg1:=wCH t a r hr; have hrl:=hrows r (pD hr)
   have hro:=(hokm r (pD hr)).2; have hrz:(r.map wS).length=n:=by rw [pF]; exact hrl
   have hra:=fun b=>hrow a b ha
   have hrep:=rowI_zero N
   repeat (first | refine wg rfl (sL hrz) ?_ | refine wg rfl (sX a hg1) ?_ | refine wg rfl (sM 7000 N N 2 32 hrep) ?_ | refine wv ?_ | refine wg rfl cT ?_ | refine wz ?_)
   refine wJ (fun b:Nat × (Nat→Int)=>[jB 4 2,jC 5 [.v (.bool false),.nils,.nils],jI 10 N,jB 12 6,jC 13 [.v (.bool (zn d).1),.v (vL (zn d).2)],jO 22 1 77 1 (kB (kC (o+a) N fun a b=>zn (I a b))),jI 24 o,jV 100 (vMs ms),jI 102 (ms.length),jI 104 j,
    jB 30 15,jC 31 [.v (.bool (zn f).1),.v (vL (zn f).2)],jI 36 n,jV 138 (vT t),jI 140 n,jI 142 a,
    jO 42 2 25 2 (wD7 N b.2),jV 154 (.list (r.map wS)),jI 156 n,jI 158 (b.1)])
    (fun b=>b.1≤n∧∀ c,c<N→b.2 c=if o≤c∧c<o+b.1 then I (o+a) c else 0) (fun b=>n - b.1) (0,fun _=>0) (fun _=>rfl) ⟨pH _,fun c _=>by dsimp only; rw [if_neg (by omega)]⟩ ⟨rfl,rfl,rfl,rfl,rfl,⟨_,rfl⟩,rfl,rfl,rfl,rfl,rfl,rfl,rfl,rfl,rfl,rfl,⟨_,rfl⟩,rfl,rfl,rfl,trivial⟩ fun ⟨k,G⟩ hJ=>?_
   obtain ⟨j1,j2⟩:=hJ; dsimp only at j1 j2 ⊢
   rcases pG k n with hk | hk
   ·obtain ⟨z,hz⟩:=gE (l:=r) (i:=k) (by omega)
    have hg2:=wG7 r k z hz; have hzo:=hro z (pD hz)
    have hez:ent t a k=z:=ent_at hr hz; have q4:=xL z (zn f) ⟨hzo.1,pC hzo.2 (by omega)⟩ (qF _ (by omega))
    have hX:intOf z*f=I (o+a) (o+k):=by
     rw [hra,if_pos (by omega),fZ,hez]
    rw [wE,hX] at q4; have hNk:o+k<N:=by omega
    obtain ⟨G',hG'⟩:∃ G':Nat→Int,(fun c=>if c=o+k then I (o+a) (o+k) else G c)=G':=⟨_,rfl⟩
    have hGa:∀ c,G' c=if c=o+k then I (o+a) (o+k) else G c:=fun c=>by rw [← hG']
    have hGk:G' (o+k)=I (o+a) (o+k):=by rw [hGa,if_pos rfl]
    have hset:=rowI_set (N:=N) G G' (k:=o+k) fun c _=>by
     rw [hGk]; exact hGa c
    rw [hGk] at hset; have hown:=qCB G hNk
    have hlen:o+k<(wD7 N G).length:=by rw [wH0]; exact hNk
    have hnew:∀ c,c<N→G' c=if o≤c∧c<o+(k+1) then I (o+a) c else 0:=fun c hc=>by
     rw [hGa]
     by_cases h:c=o+k
     ·rw [if_pos h,if_pos (by omega),h]
     ·rw [if_neg h,j2 c hc]
      by_cases h2:o≤c∧c<o+k
      ·rw [if_pos h2,if_pos (by omega)]
      ·rw [if_neg h2,if_neg (by omega)]
    unfold nI at q4; clear hG' hGa hGk
    generalize zn (I (o+a) (o+k))=w at *; generalize zn (G (o+k))=w' at *
    generalize wD7 N G=row at *; obtain ⟨z1,z2⟩:=z
    obtain ⟨w1,w2⟩:=w; obtain ⟨v1,v2⟩:=w'
    clear j2 hra hrow hX hez hent hrows hokm hro hrep
    repeat (first | refine wg rfl (sX k hg2) ?_ | refine wg rfl (sN (o+k)) ?_ | refine wc q4 ?_ | refine wg rfl (sO (o+k) hlen) ?_ | refine wg rfl (sS hown (he:=by exact hset)) ?_ | refine wl ?_ | refine wv ?_ | refine wg rfl cT ?_ | refine wg rfl sB ?_ | refine wz ?_)
    exact ⟨(k+1,G'),⟨hk,hnew⟩,by dsimp only; omega,rfl,rfl,rfl,rfl,rfl,⟨_,rfl⟩,rfl,rfl,rfl,rfl,rfl,rfl,rfl,rfl,rfl,rfl,⟨_,rfl⟩,rfl,rfl,rfl,trivial⟩
   ·have hke:k=n:=by omega
    subst hke; have hfin:wD7 N G=wD7 N (I (o+a)):=rowI_congr fun c hc=>by
     rw [j2 c hc]
     by_cases h2:o≤c∧c<o+k
     ·rw [if_pos h2]
     ·rw [if_neg h2,hra,if_neg (by omega)]
    rw [hfin]; have hs:=tabI_snoc (o+a) N I
    have hlenT:=tabI_len (o+a) N I; have wB2:∀ e∈[[V.list (wD7 N (I (o+a)))]],e.length=1:=fun e h=>by rw [pL.1 h]; rfl
    clear j2 hra hrow hent hrows hokm hro hrep hfin
    repeat (first | refine wf rfl rfl (sA 7002 [[V.list (wD7 N (I (o+a)))]] 1 24 wB2 hs) ?_ | refine wv ?_ | refine wg rfl cF ?_ | refine wg rfl sB ?_ | refine wx ?_ | refine wz ?_)
    exact ⟨a+1,ha,by omega,rfl,rfl,rfl,rfl,rfl,⟨_,rfl⟩,rfl,rfl,rfl,rfl,rfl,rfl,rfl,rfl,rfl,rfl,trivial⟩
  ·have hae:a=n:=by omega
   subst hae
   repeat (first | refine wg rfl (sN (o+a)) ?_ | refine wv ?_ | refine wg rfl cF ?_ | refine wg rfl sB ?_ | refine wz ?_)
   exact ⟨(j+1,o+a),⟨hj,e1.symm⟩,by dsimp only; omega,rfl,rfl,rfl,rfl,rfl,⟨_,rfl⟩,rfl,rfl,rfl,rfl,trivial⟩
 ·have hje:j=ms.length:=by omega
  subst hje; rw [pN (by rw [qB1]; exact pE _),hNI] at i2
  rw [i2]; clear h hrowI hI0 hdvd
  obtain ⟨⟨x,l⟩,t⟩:=M
  repeat (first | refine wh q9 ?_ | refine wv ?_ | refine wg rfl cF ?_ | refine wz ?_)
  exact ⟨.inl rfl,_,rfl,rfl⟩
end Go.Proofs.YtkjhfnhgefbhhaaGreat
