/- Calls that change what they are handed: variables, and rows told by their values. -/
import Derived.Test.YtdcjmnfngabhoaaGreatCc07
set_option linter.all false
set_option maxRecDepth 20000
set_option maxHeartbeats 6400000
set_option linter.all false
namespace Go.Vl
open Go.RowKit Go.Ev
section
variable{P:Program}{C:Cx}{w0:Base}{w w':World}{n:Nat}{β:Bl}{f:Fm}{st:St}{a:Act}{o:Oper}{Q:kS}{ops:Array Oper}
theorem lk_keys{F:St}{K:Nat}{c:Cell}(h:lk F K=some c):K∈keys F:=by
 induction F with
 |nil=>cases h
 |cons p F ih=>
  obtain⟨k,x⟩:=p;simp only[lk]at h;by_cases hk:k=K
  ·subst hk;exact pT ..
  ·rw[vB hk]at h;exact pZ _ (ih h)
theorem app_lk{F:St}{f:Fm}{K:Nat}(h:K∈keys F):app F f K=lk F K:=by have:=wV0 (f:=f) (g:=lk []) h;rw[this,←qD,bN]
def wP6:Nat→List SV→St
 |_,[]=>[]
 |i,x::xs=>(2*i,some (.sv x))::wP6 (i+1) xs
theorem argStS_get{xs:List SV}{F:St}:∀{i k:Nat}{c:Cell},lk (wP6 i xs++F) k=some c→(∃j x,k=2*(i+j)∧xs[j]? = some x∧c=.sv x)∨lk F k=some c:=by
 induction xs with
 |nil=>intro i k c h;exact .inr h
 | cons x xs ih=>
  intro i k c h;simp only[wP6,List.cons_append,lk]at h;by_cases hk:2*i=k
  ·subst hk;simp at h;exact .inl ⟨0,x,by omega,rfl,h.symm⟩
  ·rw[vB hk]at h;rcases ih h with⟨j,y,h1,h2,h3⟩|h
   ·exact .inl ⟨j+1,y,by omega,h2,h3⟩
   ·exact .inr h
def argOk(F:St):SV→Bool
 |.v _=>true
 |.rp d _ 0=>match lk F (2*d+1)with
  |some (.bx _)=>true
  |_=>false
 |_=>false
def ArgsS(w0:Base)(w:World)(β:Bl)(xs:List SV)(us:List Value):Prop:=xs.length=us.length∧∀(i:Nat)(x:SV),xs[i]? = some x→∃u,us[i]? = some u∧zX w0.lo (wT β) w β 0 0 x u
def backOk(G:List Nat):SV→Bool
 |.v _=>true
 |.bx d 0=>G.any fun k=>Nat.beq (2*d+1) k
 |_=>false
def wO1(P:Program)(g:FuncId)(xs:List SV)(G:List Nat)(F:St)(R:SV→St→Prop):Prop:=
 ∀(w0:Base)(n:Nat)(β:Bl)(f:Fm)(a:Act)(w:World)(us:List Value),HB w0 n β f a w→(∀K c,lk F K=some c→f K=some c)→(∀K∈G,(∃d r,K=2*d+1∧SV.rp d r 0∈xs)∨vU f K 0)→ArgsS w0 w β xs us→
  Calls P g us.toArray w fun e w'=>∃v x F' β',e=.returned v∧R x F'∧HB w0 n β' (app F' f) a w'∧plain x=true∧zX w0.lo (wT β') w' β' 0 0 x v
def resM(st:St):List ResultVar→Option SV
 |[]=>some (.v (.tup []))
 |[.tmp t]=>match lk st (2*t)with
  |some (.sv x)=>some x
  |_=>none
 |_=>none
def heldA(st:St):Nat→List SV→Prop
 |_,[]=>True
 |i,.rp d r 0::xs=>lk st (2*i)=some (.sv (.rp d r 0))∧heldA st (i+1) xs
 |i,_::xs=>heldA st (i+1) xs
theorem wTG{st:St}{d:Nat}{r:Value}:∀{xs:List SV}{i:Nat},heldA st i xs→SV.rp d r 0∈xs→∃s,lk st (2*s)=some (.sv (.rp d r 0))
 |[],_,_,h=>by cases h
 | x::xs,i,h,hm=>by
  rcases pU.1 hm with rfl|hm
  ·exact⟨i,h.1⟩
  ·refine wTG (i:=i+1) ?_ hm;unfold heldA at h;split at h
   ·rename_i he;cases he
   ·rename_i he;cases he;exact h.2
   ·rename_i he;cases he;exact h
def retM(l:List ResultVar)(xs:List SV)(G:List Nat)(R:SV→St→Prop):kS:=fun e st=>(e=.ret∨e=.normal)∧∃x F',resM st l=some x∧backOk G x=true∧R x F'∧(∀K c,lk F' K=some c→lk st K=some c)∧(keys F').all (fun k=>G.any fun j=>Nat.beq k j)=true∧G.all (fun k=>(keys F').any fun j=>Nat.beq k j)=true∧heldA st 0 xs
theorem anyK{G:List Nat}{k:Nat}(h:(G.any fun j=>Nat.beq k j)=true):k∈G:=by obtain⟨y,hy,e⟩:=bZ.1 h;rw[pQ e];exact hy
open Classical in
theorem wCD{g m:Nat}{l:List ResultVar}{fn:Func}{c:Code}{xs:List SV}{G:List Nat}{F:St}{R:SV→St→Prop}(hf:P.funcs[g]? = some fn)(hb:fn.body=some c)(hnt:fn.ntmps=m)(hres:fn.results.toList=l)(hn:Nat.ble xs.length m=true)(hxs:xs.all (argOk F)=true)(hG:G.all (fun k=>Nat.beq (k%2) 1)=true)(hFG:(keys F).all (fun k=>G.any fun j=>Nat.beq k j)=true)(h:∀w0:Base,w0.mks=true→w0.ro=none→VW P w0 m c (retM l xs G R) (wP6 0 xs++F)):wO1 P g xs G F R:=by
 subst hnt hres;intro w0 n β f a w us hh hF hNP ⟨hul,hus⟩;have hn':=pL hn;have hodd:∀K,K∈G→K%2=1:=fun K hK=>pQ (pY.1 hG K hK);have hFG':∀K,K∈keys F→K∈G:=fun K hK=>anyK (pY.1 hFG K hK);let hd:Nat→Prop:=fun b=>∃K J,K∈G∧β K J=some b;let w1:Base:=⟨w,wT β,fun b=>¬hd b,none,w0.lo,pD w0.lole hh.base,true⟩
 let β1:Bl:=fun K J=>if K∈G then β K J else if K=0∧0<J∧J-1<w.heap.size∧¬wT β (J-1)∧¬hd (J-1)then some (J-1)else none
 have h0G:(0:Nat) ∉ G:=fun h=>by have:=hodd 0 h;omega
 have hin:∀K J,K∈G→β1 K J=β K J:=fun K J hK=>if_pos hK;have hval:∀K J B,β1 K J=some B→(K∈G∧β K J=some B)∨(K=0∧J=B+1∧B<w.heap.size∧¬wT β B∧¬hd B):=by
  intro K J B e;dsimp only[β1]at e;split at e
  ·rename_i hK;exact .inl ⟨hK,e⟩
  ·split at e
   ·rename_i hq;cases e;exact .inr ⟨hq.1,by omega,hq.2.2.1,hq.2.2.2.1,hq.2.2.2.2⟩
   ·cases e
 have hNB:∀b,wT β b→wT β1 b:=fun b hb' K J e=>by
  rcases hval _ _ _ e with⟨_,e⟩|⟨_,_,_,e,_⟩
  ·exact hb' _ _ e
  ·exact e hb'
 have hkey:∀K c,lk (wP6 0 xs++F) K=some c→(∃x,K%2=0∧xs[K/2]? = some x∧c=.sv x)∨(K∈G∧lk F K=some c):=fun K c e=>by
  rcases argStS_get e with⟨j,x,h1,h2,h3⟩|e
  ·refine .inl ⟨x,by omega,?_,h3⟩;rw[show K/2=j by omega];exact h2
  ·exact .inr ⟨hFG' K (lk_keys e),e⟩
 have hini:HB w1 fn.ntmps β1 (lk (wP6 0 xs++F)) { tmps:=us.toArray++Array.replicate (fn.ntmps-us.toArray.size) undef,defers:=[] } w:=by
  refine⟨by simp;omega,⟨.inr rfl,by simp,.nil⟩,BelP.refl w1,?_,?_,?_,?_,fun b _ hs=>hNB b hs,?_,?_,?_,?_,?_⟩
  ·intro K J K' J' B e1 e2;rcases hval _ _ _ e1 with⟨g1,e1⟩|⟨g1,g2,g3,g4,g5⟩<;>rcases hval _ _ _ e2 with⟨k1,e2⟩|⟨k1,k2,k3,k4,k5⟩
   ·exact hh.inj _ _ _ _ _ e1 e2
   ·exact absurd ⟨_,_,g1,e1⟩ k5
   ·exact absurd ⟨_,_,k1,e2⟩ g5
   ·omega
  ·intro K J B e;rcases hval _ _ _ e with⟨g1,e1⟩|⟨g1,g2,g3,g4,g5⟩
   ·exact⟨fun _=>.inr fun h=>h ⟨_,_,g1,e1⟩,(hh.rng _ _ _ e1).2⟩
   ·exact⟨fun h=>by omega,g3⟩
  ·intro b h1 h2 h3;dsimp only[β1];rw[if_neg h0G,if_pos ⟨rfl,by omega,by simpa using h1,by simpa using h2,by simpa using h3⟩];rfl
  ·intro K J B e;rcases hval _ _ _ e with⟨g1,e1⟩|⟨g1,g2,_⟩
   ·exact .inr (.inl (hodd K g1))
   ·exact .inr (.inr ⟨g1,g2⟩)
  ·intro e d id T k es e1 _;rcases hkey _ _ e1 with⟨x,_,h2,h3⟩|⟨g1,_⟩
   ·cases h3;have:=pY.1 hxs _ (pF h2);cases this
   ·have:=hodd _ g1;omega
  ·intro e d id k i off T es B e1 _ _;rcases hkey _ _ e1 with⟨x,_,h2,h3⟩|⟨g1,_⟩
   ·cases h3;have:=pY.1 hxs _ (pF h2);cases this
   ·have:=hodd _ g1;omega
  ·intro d x e;rcases hkey _ _ e with⟨y,_,h2,h3⟩|⟨g1,_⟩
   ·cases h3;rw[show 2*d/2=d by omega]at h2;obtain⟨u,hu,hr⟩:=hus d x h2;have hlt:d<us.length:=(pI.1 hu).1
    have:(us.toArray++Array.replicate (fn.ntmps-us.toArray.size) undef).getD d undef=u:=by rw[pS,bX (by simpa using hlt)];simp[hu]
    rw[this];have hok:=pY.1 hxs _ (pF h2);cases x with
    |v x=>exact Rep.mono hr fun b hb' _=>hNB b hb'
    | rp d' r off=>
     cases off with
     |succ off=>cases hok
     | zero=>
      refine⟨hr.1,fun B hB=>hr.2 B ?_⟩;simp only[argOk]at hok;split at hok
      ·rename_i cs hcs
       rwa [hin _ _ (hFG' _ (lk_keys hcs))]at hB
      ·cases hok
    |_=>cases hok
   ·have:=hodd _ g1;omega
  ·intro d cs e;rcases hkey _ _ e with⟨y,h1,_⟩|⟨g1,g2⟩
   ·omega
   ·obtain⟨B,T,vs,k1,k2,k3,k4⟩:=hh.box d cs (hF _ _ g2);refine⟨B,T,vs,(hin _ _ g1).trans k1,k2,k3,fun j x u hx hu=>?_⟩;obtain⟨q1,q2,q3⟩:=k4 j x u hx hu;exact⟨q1.keep (fun b hb' _=>⟨hNB b hb',rfl⟩) (fun _=>hin _ _ g1) (fun _ _ _=>rfl) (fun K j hp=>absurd hp (jF q3 K j)),q2,q3⟩
  ·intro d T k L e;rcases hkey _ _ e with⟨y,h1,_⟩|⟨g1,g2⟩
   ·omega
   ·exact(hh.fm d T k L (hF _ _ g2)).keep (fun b hb' _=>⟨hNB b hb',rfl⟩) fun _ _ B _ hB=>⟨(hin _ _ g1).trans hB,rfl⟩
 refine(callsIn_wide (n:=0)).1 (callsIn_of_wp_marks hf hb trivial (wpIn_mono (h w1 rfl rfl _ w ⟨β1,hini⟩) fun e a' w' hq=>?_) rfl);obtain⟨st,hq,β2,hB⟩:=hq;obtain⟨he,x,F',hx,hxb,hR,hF',hk1,hk2,hheld⟩:=hq;have hfin:LeavesInM Fence.wide 0 P fn a'.tmps (fun e w'=>∃v x F' β',e=.returned v∧R x F'∧HB w0 n β' (app F' f) a w'∧plain x=true∧zX w0.lo (wT β') w' β' 0 0 x v) a'.defers .returning w':=HB.leaves a'.defers rfl hB fun a2 w2 ha hB2=>by
  rw[←ha];clear hB;have hkF:∀K,K∈keys F'→K∈G:=fun K hK=>anyK (pY.1 hk1 K hK);have hGk:∀K,K∈G→K∈keys F':=fun K hK=>anyK (pY.1 hk2 K hK);let βn:Bl:=fun K J=>if K∈G then β2 K J else β K J
  have nin:∀K J,K∈G→βn K J=β2 K J:=fun K J hK=>if_pos hK;have nout:∀K J,K ∉ G→βn K J=β K J:=fun K J hK=>if_neg hK;have hcase:∀K J B,βn K J=some B→(K∈G∧β2 K J=some B)∨(K ∉ G∧β K J=some B):=fun K J B e=>by
   dsimp only[βn]at e;split at e
   ·rename_i hK;exact .inl ⟨hK,e⟩
   ·rename_i hK;exact .inr ⟨hK,e⟩
  have hfresh:∀K J B,K∈G→β2 K J=some B→w.heap.size≤B∨hd B:=fun K J B hK e=>by
   rcases(hB2.rng _ _ _ e).1 (.inr (hodd K hK))with h|h
   ·exact .inl h
   ·exact .inr (not_not.1 h)
  have hsz:w.heap.size≤w2.heap.size:=hB2.bel.size;have hother:∀K J B,K ∉ G→β K J=some B→¬hd B∧w2.heap[B]? = w.heap[B]?:=fun K J B hK e=>by have hnd:¬hd B:=fun⟨K',J',h1,h2⟩=>hK ((hh.inj _ _ _ _ _ e h2).1 ▸ h1);exact⟨hnd,hB2.bel.block B (hh.rng _ _ _ e).2 hnd⟩
  have hold:∀b,wT β b→b<w.heap.size→wT βn b∧w2.heap[b]? = w.heap[b]?:=fun b hb' hl=>by
   have hnd:¬hd b:=fun⟨K',J',_,h2⟩=>hb' _ _ h2;refine⟨fun K J e=>?_,hB2.bel.block b hl hnd⟩;rcases hcase _ _ _ e with⟨h1,h2⟩|⟨_,h2⟩
   ·rcases hfresh _ _ _ h1 h2 with h|h
    ·omega
    ·exact hnd h
   ·exact hb' _ _ h2
  have hnew:∀b,wT β2 b→wT βn b:=fun b hb' K J e=>by
   rcases hcase _ _ _ e with⟨_,h2⟩|⟨h1,h2⟩
   ·exact hb' _ _ h2
   ·exact hb' _ _ (hB2.sp b (hh.rng _ _ _ h2).2 (fun h=>h _ _ h2) (hother _ _ _ h1 h2).1)
  have happ:∀K,K ∉ G→app F' f K=f K:=fun K hK=>j7 fun h=>hK (hkF K h);have happG:∀K c,K∈G→app F' f K=some c→lk st K=some c:=fun K c hK e=>hF' K c (by rw[←e,app_lk (hGk K hK)]);have hev:∀d,2*d ∉ G:=fun d h=>by have:=hodd _ h;omega
  have hpt:∀d x K j,f (2*d)=some (.sv x)→pts x K j→∀B,βn K 0=some B→β K 0=some B:=by
   intro d y K j e hp B hBn;by_cases hK:K∈G
   ·rw[nin _ _ hK]at hBn;rcases hNP K hK with⟨d',r,rfl,hr⟩|hno
    ·obtain⟨s,hs⟩:=wTG hheld hr;have q1:=(hB2.slot s _ hs).2 B hBn;obtain⟨i,hi⟩:=cK hr;obtain⟨u,_,q2⟩:=hus i _ hi;have hok:=pY.1 hxs _ hr;simp only[argOk]at hok;split at hok
     ·rename_i cs hcs;obtain⟨B',_,_,k1,_⟩:=hh.box d' cs (hF _ _ hcs);have q3:=q2.2 B' k1;rw[q1]at q3;cases q3;exact k1
     ·cases hok
    ·exfalso;have hod:=hodd K hK;cases y with
     |bx d1 o1=>exact hno d _ e hp
     |rp d1 r1 o1=>exact hno d _ e hp
     |al d1 i1=>have:=hp.1;omega
     |«at» d1 i1 k1 i2 o1=>have:=hp.1;omega
     |_=>exact hp
   ·rwa [nout _ _ hK]at hBn
  have hmain:HB w0 n βn (app F' f) a w2:=by
   refine⟨hh.size,hh.dfr.keep rfl fun r e _=>⟨(nout _ _ h0G).trans e,(hother _ _ _ h0G e).2⟩,⟨hB2.bel.os.trans hh.bel.os,hB2.bel.tape.trans hh.bel.tape,hB2.bel.output.trans hh.bel.output,pD hh.bel.size hsz,fun k hk hkp=>?_⟩,?_,?_,fun b h1 h2 h3=>(nout _ _ h0G).trans (hh.sp b h1 h2 h3),?_,?_,?_,?_,?_,?_,?_⟩
   ·refine(hB2.bel.block k (mN hk hh.base) fun⟨K,J,h1,h2⟩=>?_).trans (hh.bel.block k hk hkp);rcases(hh.rng _ _ _ h2).1 (.inr (hodd K h1))with h|h
    ·omega
    ·exact h hkp
   ·intro K J K' J' B e1 e2;rcases hcase _ _ _ e1 with⟨g1,e1⟩|⟨g1,e1⟩<;>rcases hcase _ _ _ e2 with⟨k1,e2⟩|⟨k1,e2⟩
    ·exact hB2.inj _ _ _ _ _ e1 e2
    ·rcases hfresh _ _ _ g1 e1 with h|h
     ·have:=(hh.rng _ _ _ e2).2;omega
     ·exact absurd h (hother _ _ _ k1 e2).1
    ·rcases hfresh _ _ _ k1 e2 with h|h
     ·have:=(hh.rng _ _ _ e1).2;omega
     ·exact absurd h (hother _ _ _ g1 e1).1
    ·exact hh.inj _ _ _ _ _ e1 e2
   ·intro K J B e;rcases hcase _ _ _ e with⟨g1,e1⟩|⟨g1,e1⟩
    ·refine⟨fun _=>?_,(hB2.rng _ _ _ e1).2⟩;rcases hfresh _ _ _ g1 e1 with h|⟨K',J',k1,k2⟩
     ·exact .inl (pD hh.base h)
     ·exact(hh.rng _ _ _ k2).1 (.inr (hodd K' k1))
    ·have:=hh.rng _ _ _ e1;exact⟨this.1,by omega⟩
   ·intro K J B e;rcases hcase _ _ _ e with⟨g1,e1⟩|⟨g1,e1⟩
    ·exact .inr (.inl (hodd K g1))
    ·exact hh.spk _ _ _ e1
   ·intro b h1 h2 K J e;rcases hcase _ _ _ e with⟨g1,e1⟩|⟨g1,e1⟩
    ·rcases hfresh _ _ _ g1 e1 with h|⟨K',J',k1,k2⟩
     ·have:=hh.base;omega
     ·exact hh.od b h1 h2 _ _ k2
    ·exact hh.od b h1 h2 _ _ e1
   ·intro e d id T k es e1 e2;rw[happ _ (hev _)]at e1 e2;exact hh.al e d id T k es e1 e2
   ·intro e d id k i off T es B e1 e2 e3;rw[happ _ (hev _)]at e1 e2;exact hh.pt e d id k i off T es B e1 e2 ((nout _ _ (hev d)) ▸ e3)
   ·intro d y e;rw[happ _ (hev _)]at e;exact(hh.slot d y e).keep hold (fun _=>nout _ _ (hev d)) (fun _ B hB'=>(hother _ _ _ (hev d) hB').2) (fun K j hp B hB'=>hpt d y K j e hp B hB')
   ·intro d cs e;by_cases hK:2*d+1∈G
    ·obtain⟨B,T,vs,k1,k2,k3,k4⟩:=hB2.box d cs (happG _ _ hK e);refine⟨B,T,vs,(nin _ _ hK).trans k1,k2,k3,fun j y u hy hu=>?_⟩;obtain⟨q1,q2,q3⟩:=k4 j y u hy hu;exact⟨q1.keep (fun b hb' _=>⟨hnew b hb',rfl⟩) (fun _=>nin _ _ hK) (fun _ _ _=>rfl) (fun K j hp=>absurd hp (jF q3 K j)),q2,q3⟩
    ·rw[happ _ hK]at e;obtain⟨B,T,vs,k1,k2,k3,k4⟩:=hh.box d cs e;refine⟨B,T,vs,(nout _ _ hK).trans k1,(hother _ _ _ hK k1).2.trans k2,k3,fun j y u hy hu=>?_⟩;obtain⟨q1,q2,q3⟩:=k4 j y u hy hu;exact⟨q1.keep hold (fun _=>nout _ _ hK) (fun _ B' hB'=>(hother _ _ _ hK hB').2) (fun K j hp=>absurd hp (jF q3 K j)),q2,q3⟩
   ·intro d T k L e;by_cases hK:2*d+1∈G
    ·exact(hB2.fm d T k L (happG _ _ hK e)).keep (fun b hb' _=>⟨hnew b hb',rfl⟩) fun _ _ B _ hB'=>⟨(nin _ _ hK).trans hB',rfl⟩
    ·rw[happ _ hK]at e;exact(hh.fm d T k L e).keep hold fun _ _ B _ hB'=>⟨(nout _ _ hK).trans hB',(hother _ _ _ hK hB').2⟩
  have hback:∀(s:Nat),lk st (2*s)=some (.sv x)→plain x=true∧zX w0.lo (wT βn) w2 βn 0 0 x (a2.tmps.getD s undef):=fun s hs=>by
   have q:=hB2.slot s _ hs;cases x with
   |v y=>exact⟨rfl,Rep.mono q fun b hb' _=>hnew b hb'⟩
   |bx d off=>
    cases off with
    |succ off=>cases hxb
    |zero=>exact⟨rfl,fun B hB'=>q B (by rwa [nin _ _ (anyK hxb)]at hB')⟩
   |_=>cases hxb
  unfold resM at hx;split at hx
  ·rename_i hl;cases hx;refine⟨.tuple #[],?_,.tuple #[],_,F',βn,rfl,hR,hmain,rfl,.tup .nil⟩;have hres':fn.results=#[]:=by rw[←cS (xs:=fn.results),hl]
   simp[results,hres']
  ·rename_i t hl;split at hx
   ·rename_i y hy;cases hx;have hres':fn.results=#[.tmp t]:=by rw[←cS (xs:=fn.results),hl]
    obtain⟨q1,q2⟩:=hback t hy;exact⟨_,results_tmp hres' a2.tmps P w2,_,x,F',βn,rfl,hR,hmain,q1,q2⟩
   ·cases hx
  ·cases hx
 rcases he with rfl|rfl
 ·exact hfin
 ·exact hfin
end
section
variable{P:Program}{C:Cx}{w0:Base}{w w':World}{n:Nat}{β:Bl}{f:Fm}{st:St}{a:Act}{o:Oper}{Q:kS}{ops:Array Oper}
theorem srep_key{B0:Nat}{S:Nat→Prop}{x:SV}{u:Value}(hp:plain x=true){K J:Nat}(K' J':Nat)(h:zX B0 S w β K J x u):zX B0 S w β K' J' x u:=by cases x<;>first|exact h|cases hp
def qBF(f:Fm):List Operand→Option (List SV)
 |[]=>some []
 | x::l=>match opv f x with
  |some y=>match qBF f l with
   |some r=>some (y::r)
   |none=>none
  |none=>none
theorem HB.argsS(hh:HB w0 n β f a w):∀{l:List Operand}{r:List SV},qBF f l=some r→(r.all fun x=>!wDJ x)=true→ArgsS w0 w β r (l.map a.eval)
 |[],r,e,_=>by cases e;exact⟨rfl,fun i x h=>by simp at h⟩
 | x :: l,r,e,ho=>by
  simp only[qBF]at e;split at e
  ·rename_i y hy;split at e
   ·rename_i rs hrs;cases e;simp only[List.all_cons,Bool.and_eq_true,Bool.not_eq_true']at ho;obtain⟨h1,h2⟩:=hh.argsS hrs ho.2;refine⟨by simp[h1],fun i z hz=>?_⟩;cases i with
    |zero=>simp at hz;subst hz;exact⟨_,rfl,hh.any hy ho.1 0 0⟩
    |succ i=>simp only[List.getElem?_cons_succ]at hz;obtain⟨u,hu,hr⟩:=h2 i z hz;exact⟨u,by simpa using hu,hr⟩
   ·cases e
  ·cases e
theorem want_g{q:Nat}{gr:List Nat}(hg:gRd n ops (lk st) o=some gr)(hh:HB w0 n β (lk st) a w):Region.wanted o (yielded ops a.tmps)=true:=by
 unfold gRd at hg;split at hg
 ·rename_i hgd;simp[Region.wanted,hgd]
 ·rename_i j' b hgd;split at hg
  ·cases hg
  ·rename_i d hdd;split at hg
   ·rename_i c hc;cases hb:(Nat.blt d n&&(c==b))with
    |false=>rw[hb]at hg;cases hg
    | true=>
     rw[hb]at hg;cases hg;simp only[Bool.and_eq_true,beq_iff_eq]at hb;obtain⟨h1,rfl⟩:=hb;have hslot:=hh.slot d _ hc;unfold yielded;unfold wPJ at hdd;rw[fT]at hdd;simp only[Region.wanted,hgd];cases hq:ops[j']? with
     |none=>rw[hq]at hdd;cases hdd
     |some q'=>
      rw[hq]at hdd;dsimp only at hdd;have hlt:d<a.tmps.size:=by rw[hh.size];simpa using h1
      rw[pS,mG hlt,mH]at hslot;simp only[zX]at hslot;simp only[Option.bind_some,hdd,Array.getElem?_eq_getElem hlt];generalize a.tmps[d]=v at hslot;cases hslot;simp
   ·cases hg
def subE:St→Fm→Prop
 |[],_=>True
 |(k,c)::l,f=>c=f k∧subE l f
theorem wI9{F:St}{f:Fm}(h:subE F f){k:Nat}{c:Cell}(e:lk F k=some c):f k=some c:=by
 induction F with
 |nil=>cases e
 |cons p F ih=>
  obtain⟨q,x⟩:=p;simp only[lk]at e;by_cases hk:q=k
  ·subst hk;simp at e;rw[←h.1,e]
  ·rw[vB hk]at e;exact ih h.2 e
def placed(xs:List SV)(K:Nat):Bool:=xs.any fun x=>match x with
 |.rp d _ 0=>Nat.beq (2*d+1) K
 |_=>false
theorem qE0{xs:List SV}{K:Nat}(h:placed xs K=true):∃d r,K=2*d+1∧SV.rp d r 0∈xs:=by
 obtain⟨x,hx,e⟩:=bZ.1 h;split at e
 ·rename_i d r;exact⟨d,r,(pQ e).symm,hx⟩
 ·cases e
theorem wGD(hC:CxOk P C){q:Nat}{gr:List Nat}{k:Call}{x:Operand}{g:FuncId}{fn:Func}{xs:List SV}{G:List Nat}{F:St}{R:SV→St→Prop}(ho:ops.toList[q]? = some o)(hg:gRd n ops (lk st) o=some gr)(hop:o.op=.call k)(hk:k.callee=.value x)(hx:opv (lk st) x=some (.v (.clo g [] [])))(hargs:qBF (lk st) k.args.toList=some xs)(hown:(xs.all fun x=>!wDJ x)=true)(hfn:C.fns.get g=some fn)(hcall:wO1 P g xs G F R)(hF:subE F (lk st))(hnp:(G.all fun K=>kH st (K,0)||placed xs K)=true)(hd:dLt n o.dst=true)(h:∀x F',R x F'→SQ P w0 n ops Q (q+1) (dput o.dst (some (.sv x))++(F'++st))):SQ P w0 n ops Q q st:=by
 intro a w ⟨β,hh⟩;have hsz:=wM2 ho;rw[show ops.size-q=(ops.size-(q+1))+1 by omega,gC,wpOps_cons];have e1:=hh.val (x:=x) (y:=.clo g [] []) hx;have e2:=hh.argsS (l:=k.args.toList) hargs hown;have hwant:=want_g (q:=q) hg hh;generalize hu:a.eval x=u at e1;cases e1 with
 | @clo _ _ _ us vs hfs hcs=>
  cases hfs;cases hcs;obtain⟨hf1,hf2⟩:=hC.fns g fn hfn;have hrun:(execOp a.eval o).run P w=.ok (.enter g (k.args.toList.map a.eval).toArray) w:=by
   have hm:((#[]:Array Value)++k.args.map a.eval)++#[]=(k.args.toList.map a.eval).toArray:=by apply dN;simp
   simp only[execOp,hop,resolve,hk,hu,Deferred.ofValue,Sem.run_bind,Sem.run_pure,Result.andThen_ok,invoke];rw[show([]:List Value).toArray=#[]from rfl,hm];exact hf2 _ _
  unfold wpOp;rw[show ops[q]? = some o by simpa using ho];dsimp only;rw[if_pos hwant];left;unfold Oper.wp;rw[hrun,Oper.upon_enter];refine Calls.mono (hcall w0 n β (lk st) a w _ hh (fun K c e=>wI9 hF e) (fun K hK=>?_) e2) ?_
  ·have:=pY.1 hnp K hK;simp only[Bool.or_eq_true]at this;rcases this with h|h
   ·exact .inr (yL h)
   ·exact .inl (qE0 h)
  ·rintro e w' ⟨v,y,F',β',rfl,hR,h5,hp,hv⟩;dsimp only;cases hdst:o.dst with
   |none=>have:=h y F' hR;rw[hdst]at this;refine this _ _ ⟨β',?_⟩;show HB w0 n β' (lk (F'++st)) _ _;rw[qD];exact h5
   |some r=>have:=h y F' hR;rw[hdst]at this hd;refine this _ _ ⟨β',?_⟩;have h6:=h5.putP (d:=r) (by simpa[dLt]using hd) hp (srep_key hp (2*r) 0 hv);rw[show dput (some r) (some (Cell.sv y))++(F'++st)=[(2*r,some (Cell.sv y))]++(F'++st)from rfl,qD,app1,qD];exact h6
theorem unname_ok{d j r id k:Nat}{T:TypeId}{u:Value}{es:List (List V)}{L:List (Value×List (List V))}(hd:Nat.blt d n=true)(hs:lk st (2*d)=some (.sv (.v (.raw u))))(hj:lk st (2*j+1)=some (.fam T k L))(hr:L[r]? = some (u,es))(hn0:kH st (2*d,0)=true)(hn:kH st (2*d,id)=true) :
  ∀a w,Hs w0 n (lk st) a w→∃_:Unit,Hs w0 n (lk ((2*d,some (.sv (.own id T k es)))::(2*j+1,some (.fam T k (L.eraseIdx r)))::st)) a w:=by
 rintro a w ⟨β,hh⟩;refine⟨(),?_⟩;have hsl:=wBJ (hh.slot d _ hs);have hfo:=hh.fm j T k L hj;obtain⟨g1,⟨us,g2,g3⟩,g4⟩:=hfo.1 _ (pF hr);dsimp only at g1 g2 g3 g4;have h4:=(hh.drop (2*d)).drop (2*j+1);have hd0:upd (upd (lk st) (2*d) none) (2*j+1) none (2*d)=none:=by rw[upd_ne _ _ (by omega),upd_same]
 have hn0':vU (upd (upd (lk st) (2*d) none) (2*j+1) none) (2*d) 0:=((yL hn0).drop _).drop _;have hfin:∀β':Bl,HB w0 n β' (upd (upd (lk st) (2*d) none) (2*j+1) none) a w→β' (2*d) 0=u.ownBlock→(∀b,wT β b→wT β' b)→(∀B,u.ownBlock≠some B→β (2*j+1) (B+1)=some B→β' (2*j+1) (B+1)=some B)→
   Hs w0 n (lk ((2*d,some (.sv (.own id T k es)))::(2*j+1,some (.fam T k (L.eraseIdx r)))::st)) a w:=by
  intro β' h5 hB hnb hoth;have hsub:∀p,p∈L.eraseIdx r→p∈L:=fun p hp=>(gW L r).subset hp;have hne:∀p,p∈L.eraseIdx r→∀B,p.1.ownBlock=some B→u.ownBlock≠some B:=by
   intro p hp B hpB huB;obtain⟨i,hi⟩:=cK hp;rw[List.getElem?_eraseIdx]at hi;split at hi
   ·exact hfo.apart hr hi (by omega) huB hpB
   ·exact hfo.apart hr hi (by omega) huB hpB
  have h6:=h5.refam (d:=j) (k:=k) (T:=T) (L:=L.eraseIdx r) ⟨fun p hp=>by obtain⟨k1,⟨us2,k2,k3⟩,k4⟩:=hfo.1 p (hsub p hp);exact⟨k1,⟨us2,k2,k3.mono fun b hb _=>hnb b hb⟩,fun B hB=>hoth B (hne p hp B hB) (k4 B hB)⟩,hfo.2.sublist (gW L r)⟩
  have hnp:vU (upd (upd (upd (lk st) (2*d) none) (2*j+1) none) (2*j+1) (some (.fam T k (L.eraseIdx r)))) (2*d) id:=fun e x hx=>by rw[upd_ne _ _ (by omega),upd_ne _ _ (by omega)]at hx;exact((yL hn).drop (2*d)) e x hx
  have h7:=h6.putO (d:=d) (by simpa using hd) (id:=id) (T:=T) (k:=k) (es:=es) (u:=u) hnp ⟨g1,hB.symm,us,g2,g3.mono fun b hb _=>hnb b hb⟩;have hsz:d<a.tmps.size:=by have:=hh.size;simp at hd;omega
  rw[←hsl,wT0 hsz]at h7;refine⟨β',h7.less fun K c e=>?_⟩;rw[qA9]at e;simp only[upd]at e ⊢;by_cases k1:K=2*d
  ·rw[if_pos k1]at e ⊢;exact e
  ·rw[if_neg k1]at e ⊢;by_cases k2:K=2*j+1
   ·rw[if_pos k2]at e ⊢;exact e
   ·rw[if_neg k2]at e ⊢;rw[if_neg k2,if_neg k1];exact e
 cases hB:u.ownBlock with
 | none=>
  have h5:=h4.xfer (K1:=2*d) (J1:=0) (K2:=2*d) (J2:=0) (o:=none) (zV _ _) (.inr (by simp)) (xW hd0) (xW hd0) (fun _=>hn0');refine hfin _ h5 (by rw[zK,hB]) (fun b hb K J e=>?_) fun B hne e=>?_
  ·unfold upB at e;split at e
   ·cases e
   ·exact hb _ _ e
  ·rw[qO _ _ (by omega),qO _ _ (by omega)];exact e
 | some B=>
  have hb:=g4 B hB;have h5:=h4.xfer (K1:=2*j+1) (J1:=B+1) (K2:=2*d) (J2:=0) (o:=β (2*j+1) (B+1)) (zV _ _) (.inl rfl) (wQ5 (upd_same _ _ _)) (xW hd0) (fun _=>hn0');refine hfin _ h5 (by rw[zK,hB];exact hb) (fun b hb' K J e=>?_) fun B' hne e=>?_
  ·unfold upB at e;split at e
   ·exact hb' _ _ e
   ·split at e
    ·cases e
    ·exact hb' _ _ e
  ·rw[qO _ _ (by omega),qO _ _ (fun h=>hne (by rw[hB];congr 1;omega))];exact e
theorem wW7{c:Code}(d j r id:Nat){k:Nat}{T:TypeId}{u:Value}{es:List (List V)}{L:List (Value×List (List V))}(hd:Nat.blt d n=true)(hs:lk st (2*d)=some (.sv (.v (.raw u))))(hj:lk st (2*j+1)=some (.fam T k L))(hr:L[r]? = some (u,es))(hn0:kH st (2*d,0)=true)(hn:kH st (2*d,id)=true)(h:VW P w0 n c Q ((2*d,some (.sv (.own id T k es)))::(2*j+1,some (.fam T k (L.eraseIdx r)))::st)):VW P w0 n c Q st:=wGC _ (unname_ok hd hs hj hr hn0 hn) fun _=>h
theorem famPerm_ok{j k:Nat}{T:TypeId}{L L':List (Value×List (List V))}(hj:lk st (2*j+1)=some (.fam T k L))(hp:L.Perm L'):∀a w,Hs w0 n (lk st) a w→∃_:Unit,Hs w0 n (lk ((2*j+1,some (.fam T k L'))::st)) a w:=by
 rintro a w ⟨β,hh⟩;have hfo:=hh.fm j T k L hj;have h6:=hh.refam (d:=j) (k:=k) (T:=T) (L:=L') ⟨fun p hp'=>hfo.1 p (hp.mem_iff.2 hp'),(hp.pairwise_iff (fun h B h1 h2=>h B h2 h1)).1 hfo.2⟩;refine⟨(),β,?_⟩;rw[show lk ((2*j+1,some (Cell.fam T k L'))::st)=upd (lk st) (2*j+1) (some (.fam T k L'))from by have e:=qD (u:=[(2*j+1,some (Cell.fam T k L'))]) (st:=st);rw[app1]at e;exact e]
 exact h6
theorem vw_famPerm{c:Code}(j:Nat){k:Nat}{T:TypeId}{L:List (Value×List (List V))}(L':List (Value×List (List V)))(hj:lk st (2*j+1)=some (.fam T k L))(hp:L.Perm L')(h:VW P w0 n c Q ((2*j+1,some (.fam T k L'))::st)):VW P w0 n c Q st:=wGC _ (famPerm_ok hj hp) fun _=>h
end
def wKA{Z:Type}(ζ:Nat→Z)(j:Nat)(z:Z):Nat→Z:=fun k=>bif Nat.beq k j then z else ζ k
theorem setZ_same{Z:Type}(ζ:Nat→Z)(j:Nat)(z:Z):wKA ζ j z j=z:=by simp[wKA]
theorem setZ_id{Z:Type}(ζ:Nat→Z)(j:Nat):wKA ζ j (ζ j)=ζ:=by
 funext k;unfold wKA;by_cases h:k=j
 ·subst h;simp
 ·rw[vB h];rfl
section
variable{P:Program}{C:Cx}{w0:Base}{n:Nat}{ops:Array Oper}{Z:Type}
def vZ(P:Program)(w0:Base)(n:Nat)(ops:Array Oper)(k:Nat)(rd:List Nat)(nw:List (Nat×Nat))(u:Z→St)(st:Fm):Prop:=
 ∀f:Fm,(∀j∈rd,f j=st j)→(∀K∈nw,vU f K.1 K.2)→∀(a:Act)(w:World),Hs w0 n f a w→∀(K:Act→World→Prop)(Q:Exit→Act→World→Prop),(∀z a' w',Hs w0 n (app (u z) f) a' w'→K a' w')→wpOp P ops Q k K a w
def behind(ops:Array Oper)(i j:Nat):Bool:=(((wD2 ops.toList 0 .lf).get i).getD 0).testBit j
structure TracedZ(P:Program)(w0:Base)(n:Nat)(ops:Array Oper)(E:Nat→Bool)(s:(Nat→Z)→Nat→Stp)(S:(Nat→Z)→Nat→St):Prop where
 ok:∀ζ i,i<ops.size→E i=false→wBD P w0 n ops i (s ζ i) (lk (S ζ i))
 okz:∀ζ i,i<ops.size→E i=true→∃rd nw u,(∀z,s (wKA ζ i z) i=⟨rd,u z,nw⟩)∧vZ P w0 n ops i rd nw u (lk (S ζ i))
 np:∀ζ i,i<ops.size→∀K∈(s ζ i).nw,kH (S ζ i) K=true
 nx:∀ζ i,i<ops.size→S ζ (i+1)=(s ζ i).u++S ζ i
 z0:∀ζ ζ',S ζ 0=S ζ' 0
 dep:∀ζ j0 z j,j<ops.size→E j0=true→j≠j0→behind ops j j0=false→s (wKA ζ j0 z) j=s ζ j
variable{E:Nat→Bool}{s:(Nat→Z)→Nat→Stp}{S:(Nat→Z)→Nat→St}
theorem TracedZ.fl(h:TracedZ P w0 n ops E s S)(ζ:Nat→Z):∀i,i≤ops.size→FL (s ζ) (lk (S ζ 0)) (fun _=>true) i=lk (S ζ i)
 |0,_=>rfl
 |i+1,hi=>by simp only[FL,if_true];rw[h.fl ζ i (by omega),h.nx ζ i (by omega),qD]
theorem TracedZ.sub(h:TracedZ P w0 n ops E s S)(ζ:Nat→Z){p:Nat×Option Cell}:∀i,i≤ops.size→(p∈S ζ 0∨∃j,j<i∧p∈(s ζ j).u)→p∈S ζ i
 |0,_,hp=>by
  rcases hp with hp|⟨j,hj,_⟩
  ·exact hp
  ·omega
 | i+1,hi,hp=>by
  rw[h.nx ζ i (by omega)];rcases hp with hp|⟨j,hj,hp⟩
  ·exact cC _ (h.sub ζ i (by omega) (.inl hp))
  ·by_cases e:j=i
   ·subst e;exact cB _ hp
   ·exact cC _ (h.sub ζ i (by omega) (.inr ⟨j,by omega,hp⟩))
theorem FL_same{s s':Nat→Stp}{f0:Fm}{L:Nat→Bool}:∀k,(∀j,j<k→L j=true→s j=s' j)→FL s f0 L k=FL s' f0 L k
 |0,_=>rfl
 |k+1,h=>by
  simp only[FL];rw[FL_same k fun j hj=>h j (by omega)];split
  ·rename_i hL;rw[h k (by omega) hL]
  ·rfl
theorem TracedZ.any(h:TracedZ P w0 n ops E s S){l:(Nat→Z)→List Stp}(hl:∀ζ i,i<ops.size→(l ζ)[i]? = some (s ζ i))(hc:∀ζ,wDA ops (l ζ)=true){Q:Exit→Act→World→Prop}(hQ:∀ζ a w,Hs w0 n (lk (S ζ ops.size)) a w→Q .normal a w) :
  ∀(fuel:Nat)(listed:Array Bool)(r:List Nat)(L:Nat→Bool),listed.size=ops.size→r.length≤fuel→(∀i,i<ops.size→listed.getD i false=false→i∈r)→(∀i,i<ops.size→L i=listed.getD i false)→
   (∀i o,i<ops.size→L i=true→ops[i]? = some o→∀e∈o.after,Region.binds .any e=true→L e.on=true)→∀(ζ:Nat→Z) a w,Hs w0 n (FL (s ζ) (lk (S ζ 0)) L ops.size) a w→wpAny P .any ops Q fuel listed a w:=by
 have hmem:∀{listed:Array Bool}{i:Nat},i∈Region.ready .any ops listed↔listed.getD i true=false∧∃o,ops[i]? = some o∧∀e∈o.after,Region.binds .any e=true→listed.getD e.on false=true:=by
  intro listed i;unfold Region.ready;simp only[List.mem_filter,List.mem_range,Bool.and_eq_true,Bool.not_eq_true'];constructor
  ·rintro⟨h1,h2,h3⟩;refine⟨h2,ops[i],mG h1,fun e he hb=>?_⟩;rw[mG h1]at h3;simp only[Option.map_some,Option.getD_some]at h3;have:=pB9.1 h3 e he;simpa[hb]using this
  ·rintro⟨h1,o,ho,h2⟩;have hi:=(mD.1 ho).1;refine⟨hi,h1,?_⟩;rw[ho];simp only[Option.map_some,Option.getD_some];refine pB9.2 fun e he=>?_;cases hb:Region.binds .any e with
   |false=>rfl
   |true=>simp[h2 e he hb]
 have least:∀(ζ:Nat→Z)(listed:Array Bool),listed.size=ops.size→Region.ready .any ops listed=[]→∀i,i<ops.size→listed.getD i false=true:=by
  intro ζ listed hsz hnil i
  induction i using Nat.strongRecOn with
  | _ i ih=>
   intro hi;cases hl':listed.getD i false with
   |true=>rfl
   | false=>
    obtain⟨o,x,ho,_,hedge,_⟩:=zA (hc ζ) hi
    have:i∈Region.ready .any ops listed:=by
     refine hmem.2 ⟨?_,o,ho,fun e he hb=>ih e.on (hedge e he hb) (by have:=hedge e he hb;omega)⟩;have hlt:i<listed.size:=by omega
     rw[pS,mG hlt]at hl' ⊢;exact hl'
    rw[hnil]at this;cases this
 have done:∀(ζ:Nat→Z)(listed:Array Bool)(L:Nat→Bool),listed.size=ops.size→(∀i,i<ops.size→L i=listed.getD i false)→Region.ready .any ops listed=[]→∀a w,Hs w0 n (FL (s ζ) (lk (S ζ 0)) L ops.size) a w→Q .normal a w:=by
  intro ζ listed L hsz hL hnil a w hh;refine hQ ζ a w ?_;rw[←h.fl ζ ops.size (pC _)]
  have:FL (s ζ) (lk (S ζ 0)) L ops.size=FL (s ζ) (lk (S ζ 0)) (fun _=>true) ops.size:=by funext q;exact wV4 _ fun j hj _=>by rw[hL j hj];exact least ζ listed hsz hnil j hj
  rwa [this]at hh
 intro fuel
 induction fuel with
 | zero=>
  intro listed r L hsz hlen hleft hL hcl ζ a w hh;have hr:r=[]:=gJ.1 (by omega);subst hr;have hall:∀i,i<ops.size→listed.getD i false=true:=fun i hi=>by
   cases h:listed.getD i false with
   |true=>rfl
   |false=>cases hleft i hi h
  have hnil:Region.ready .any ops listed=[]:=by
   cases hr:Region.ready .any ops listed with
   |nil=>rfl
   |cons i xs=>
    have hi:i∈Region.ready .any ops listed:=by rw[hr];exact pT ..
    obtain⟨h1,o,ho,_⟩:=hmem.1 hi;have hi':=(mD.1 ho).1;have:=hall i hi';rw[pS,mG (by omega)]at this h1;rw[mH]at this h1;rw[this]at h1;cases h1
  exact⟨hnil,done ζ listed L hsz hL hnil a w hh⟩
 | succ fuel ih=>
  intro listed r L hsz hlen hleft hL hcl ζ a w hh;refine⟨fun hnil=>done ζ listed L hsz hL hnil a w hh,fun i hi=>?_⟩;obtain⟨hun,o,ho,hready⟩:=hmem.1 hi;have hin:i<ops.size:=(mD.1 ho).1;have hilt:i<listed.size:=by omega
  have hfalse:listed.getD i false=false:=by rw[pS,mG hilt]at hun ⊢;exact hun
  have hLi:L i=false:=by rw[hL i hin];exact hfalse
  have hclosed:Closed ops (fun j=>L j=true∧j<ops.size):=by intro j oj hj hoj e he hb;refine⟨hcl j oj hj.2 hj.1 hoj e he hb,?_⟩;obtain⟨o2,_,ho2,_,hedge2,_⟩:=zA (hc ζ) hj.2;rw[hoj]at ho2;cases ho2;have:=hedge2 e he hb;omega
  have hrdyJ:∀j,j<ops.size→L j=true→Ready ops (fun j=>L j=true∧j<ops.size) j:=fun j hjn hLj o2 ho2 e he hb2=>hclosed j o2 ⟨hLj,hjn⟩ ho2 e he hb2;have hrdy:Ready ops (fun j=>L j=true∧j<ops.size) i:=by intro oi hoi e he hb;rw[ho]at hoi;cases hoi;have h1:=hready e he hb;obtain⟨o',_,ho',_,hedge,_⟩:=zA (hc ζ) hin;rw[ho]at ho';cases ho';have h2:=hedge e he hb;exact⟨by rw[hL e.on (by omega)];exact h1,by omega⟩
  have c1:∀{x y:Stp}{q:Nat},q∈keys x.u→q∈y.rd→xI x y=true:=fun h1 h2=>by simp[xI,wDG h1 h2]
  have c2:∀{x y:Stp}{q:Nat},q∈keys x.u→q∈keys y.u→xI x y=true:=fun h1 h2=>by simp[xI,wDG h1 h2]
  have c3:∀{x y:Stp}{q:Nat},q∈x.rd→q∈keys y.u→xI x y=true:=fun h1 h2=>by simp[xI,wDG h1 h2]
  have hN:ops.size=i+(ops.size-i):=by omega
  have hfirst:∀(ζ:Nat→Z) j,j<i→xI (s ζ j) (s ζ i)=true→L j=true:=by
   intro ζ j hj hcf;obtain⟨o',x,ho',hx,hedge,hpts,hmk,hconf⟩:=zA (hc ζ) hin;have hxs:x=s ζ i:=by have:=hl ζ i hin;rw[hx]at this;cases this;rfl
   subst hxs;obtain⟨y,hy,hor⟩:=hconf j hj
   have:y=s ζ j:=by have:=hl ζ j (by omega);rw[hy]at this;cases this;rfl
   subst this;rcases hor with hb|hb
   ·exact(wBB hclosed hrdy hb).1
   ·rw[hcf]at hb;cases hb
  have hlater:∀(ζ:Nat→Z) j,i<j→j<ops.size→L j=true→xI (s ζ i) (s ζ j)=false:=by
   intro ζ j hj hjn hLj;cases hcf:xI (s ζ i) (s ζ j)with
   |false=>rfl
   |true=>
    exfalso;obtain⟨oj,xj,hoj,hxj,_,_,_,hcj⟩:=zA (hc ζ) hjn;obtain⟨y,hy,hor⟩:=hcj i hj;have e1:y=s ζ i:=by have:=hl ζ i hin;rw[hy]at this;cases this;rfl
    have e2:xj=s ζ j:=by have:=hl ζ j hjn;rw[hxj]at this;cases this;rfl
    subst e1 e2;rcases hor with hb|hb
    ·have:=(wBB hclosed (hrdyJ j hjn hLj) hb).1;rw[hLi]at this;cases this
    ·rw[hcf]at hb;cases hb
  have hagree:∀q∈(s ζ i).rd,FL (s ζ) (lk (S ζ 0)) L ops.size q=lk (S ζ i) q:=by
   intro q hq;rw[←h.fl ζ i (by omega),←wV4 (L:=L) i (fun j hj hk=>hfirst ζ j hj (c1 hk hq)),hN];refine wO3 _ fun j h1 h2 h3 hk=>?_;rcases Nat.lt_or_eq_of_le h1 with h1|h1
   ·have:=hlater ζ j h1 (by omega) h3;rw[c3 hq hk]at this;cases this
   ·subst h1;rw[hLi]at h3;cases h3
  have hnop:∀K∈(s ζ i).nw,vU (FL (s ζ) (lk (S ζ 0)) L ops.size) K.1 K.2:=by
   intro K hK d y e hp;obtain⟨o',x,ho',hx,hedge,hpts,hmk,hconf⟩:=zA (hc ζ) hin;have hxs:x=s ζ i:=by have:=hl ζ i hin;rw[hx]at this;cases this;rfl
   subst hxs;have hKu:=subN_of hmk (pA9 (f:=(·.1)) hK);have hno:=h.np ζ i hin K hK;rcases qBJ _ e with⟨j,hj,hLj,hm⟩|e
   ·rcases bH j i with hji|hji|hji
    ·exact wDD hno (h.sub ζ i (by omega) (.inr ⟨j,hji,hm⟩)) hp
    ·subst hji;rw[hLi]at hLj;cases hLj
    ·obtain⟨oj,xj,hoj,hxj,_,hpj,_⟩:=zA (hc ζ) hj;have e2:xj=s ζ j:=by have:=hl ζ j hj;rw[hxj]at this;cases this;rfl
     subst e2;have:=hlater ζ j hji hj hLj;rw[c1 hKu (wT2 hpj hm hp)]at this;cases this
   ·exact wDD hno (h.sub ζ i (by omega) (.inl (yX e))) hp
  have hget:∀j,(listed.setIfInBounds i true).getD j false=if j=i then true else listed.getD j false:=by
   intro j;by_cases hji:j=i
   ·subst hji;rw[if_pos rfl];simp[hilt]
   ·rw[if_neg hji];simp only[Array.getD_eq_getD_getElem?,Array.getElem?_setIfInBounds_ne (Ne.symm hji)]
  have hfl:∀ζ:Nat→Z,app (s ζ i).u (FL (s ζ) (lk (S ζ 0)) L ops.size)=FL (s ζ) (lk (S ζ 0)) (fun j=>if j=i then true else L j) ops.size:=by
   intro ζ;funext q;by_cases hq:q∈keys (s ζ i).u
   ·have e1:FL (s ζ) (lk (S ζ 0)) (fun j=>if j=i then true else L j) ops.size q=FL (s ζ) (lk (S ζ 0)) (fun j=>if j=i then true else L j) (i+1) q:=by
     rw[show ops.size=i+1+(ops.size-(i+1)) by omega];refine wO3 _ fun j h1 h2 h3 hk=>?_;simp only[if_neg (show ¬j=i by omega)]at h3;have:=hlater ζ j (by omega) (by omega) h3;rw[c2 hq hk]at this;cases this
    rw[e1];simp only[FL,if_true];exact wV0 hq
   ·rw[j7 hq];refine(wV3 _ fun j hj hk=>?_).symm;by_cases hji:j=i
    ·subst hji;exact absurd hk hq
    ·rw[if_neg hji]
  have hgo:∀(ζ:Nat→Z) a' w',Hs w0 n (FL (s ζ) (lk (S ζ 0)) (fun j=>if j=i then true else L j) ops.size) a' w'→wpAny P .any ops Q fuel (listed.setIfInBounds i true) a' w':=by
   intro ζ a' w' h';refine ih (listed.setIfInBounds i true) (r.erase i) (fun j=>if j=i then true else L j) (by simpa using hsz) ?_ ?_ ?_ ?_ ζ a' w' h'
   ·rw[pB8 (hleft i hin hfalse)];omega
   ·intro j hj hjf;rw[hget]at hjf;by_cases hji:j=i
    ·rw[if_pos hji]at hjf;cases hjf
    ·rw[if_neg hji]at hjf;exact(pD6 hji).2 (hleft j hj hjf)
   ·intro j hj;rw[hget];by_cases hji:j=i
    ·simp[hji]
    ·simp[hji,hL j hj]
   ·intro j oj hj hLj hoj e he hb;by_cases hji:j=i
    ·subst hji;rw[ho]at hoj;cases hoj;have:=hrdy o ho e he hb;split
     ·rfl
     ·exact this.1
    ·simp only[if_neg hji]at hLj;have:=hcl j oj hj hLj hoj e he hb;split
     ·rfl
     ·exact this
  cases hE:E i with
  |false=>refine h.ok ζ i hin hE _ hagree hnop a w hh _ Q fun a' w' h'=>?_;rw[hfl]at h';exact hgo ζ a' w' h'
  | true=>
   obtain⟨rd,nw,u,hu,hz⟩:=h.okz ζ i hin hE;have hcur:s ζ i=⟨rd,u (ζ i),nw⟩:=by have:=hu (ζ i);rwa [setZ_id]at this
   rw[hcur]at hagree hnop;refine hz _ hagree hnop a w hh _ Q fun z a' w' h'=>?_;have e1:FL (s ζ) (lk (S ζ 0)) L ops.size=FL (s (wKA ζ i z)) (lk (S (wKA ζ i z) 0)) L ops.size:=by
    rw[h.z0 (wKA ζ i z) ζ];refine FL_same _ fun j hj hLj=>(h.dep ζ i z j hj hE (fun e=>by subst e;rw[hLi]at hLj;cases hLj) ?_).symm;cases hb:behind ops j i with
    |false=>rfl
    |true=>have:=(wBB hclosed (hrdyJ j hj hLj) hb).1;rw[hLi]at this;cases this
   rw[e1]at h';have e2:u z=(s (wKA ζ i z) i).u:=by rw[hu z]
   rw[e2,hfl]at h';exact hgo _ a' w' h'
variable{Q:kS}{st0:St}
inductive TrZ(P:Program)(w0:Base)(n:Nat)(ops:Array Oper)(E:Nat→Bool)(st0:St):Nat→((Nat→Z)→List Stp)→((Nat→Z)→St)→Prop
 |nil:TrZ P w0 n ops E st0 0 (fun _=>[]) (fun _=>st0)
 | snoc {k:Nat} {acc:(Nat→Z)→List Stp} {st:(Nat→Z)→St} (x:(Nat→Z)→Stp) (h:TrZ P w0 n ops E st0 k acc st)
   (h1:∀ζ,E k=false→wBD P w0 n ops k (x ζ) (lk (st ζ))) (hz:∀ζ,E k=true→∃rd nw u,(∀z,x (wKA ζ k z)=⟨rd,u z,nw⟩)∧vZ P w0 n ops k rd nw u (lk (st ζ))) (h2:∀ζ,∀K∈(x ζ).nw,kH (st ζ) K=true):TrZ P w0 n ops E st0 (k+1) (fun ζ=>x ζ::acc ζ) (fun ζ=>(x ζ).u++st ζ)
theorem TrZ.len{k:Nat}{acc:(Nat→Z)→List Stp}{st:(Nat→Z)→St}(h:TrZ P w0 n ops E st0 k acc st)(ζ:Nat→Z):(acc ζ).length=k:=by
 induction h with
 |nil=>rfl
 |snoc _ _ _ _ _ ih=>simp[ih]
theorem TrZ.fns{k:Nat}{acc:(Nat→Z)→List Stp}{st:(Nat→Z)→St}(h:TrZ P w0 n ops E st0 k acc st):∃(s:(Nat→Z)→Nat→Stp)(S:(Nat→Z)→Nat→St),(∀ζ i,i<k→(acc ζ).reverse[i]? = some (s ζ i))∧(∀ζ,S ζ 0=st0)∧(∀ζ,S ζ k=st ζ) ∧
  (∀ζ i,i<k→E i=false→wBD P w0 n ops i (s ζ i) (lk (S ζ i)))∧(∀ζ i,i<k→E i=true→∃rd nw u,(∀z,s (wKA ζ i z) i=⟨rd,u z,nw⟩)∧vZ P w0 n ops i rd nw u (lk (S ζ i)))∧(∀ζ i,i<k→∀K∈(s ζ i).nw,kH (S ζ i) K=true)∧(∀ζ i,i<k→S ζ (i+1)=(s ζ i).u++S ζ i):=by
 induction h with
 |nil=>exact⟨fun _ _=>⟨[],[],[]⟩,fun _ _=>st0,by simp,fun _=>rfl,fun _=>rfl,by simp,by simp,by simp,by simp⟩
 | @snoc k acc st x h h1 hz h2 ih=>
  obtain⟨s,S,a1,a2,a3,a4,az,a5,a6⟩:=ih;obtain⟨s',b1,b2⟩:∃s':(Nat→Z)→Nat→Stp,(∀ζ,s' ζ k=x ζ)∧∀ζ i,i≠k→s' ζ i=s ζ i:=⟨fun ζ i=>if i=k then x ζ else s ζ i,by simp,fun ζ i hi=>by simp[hi]⟩
  obtain⟨S',c1,c2⟩:∃S':(Nat→Z)→Nat→St,(∀ζ,S' ζ (k+1)=(x ζ).u++st ζ)∧∀ζ i,i≠k+1→S' ζ i=S ζ i:=⟨fun ζ i=>if i=k+1 then(x ζ).u++st ζ else S ζ i,by simp,fun ζ i hi=>by simp[hi]⟩
  refine⟨s',S',fun ζ i hi=>?_,fun ζ=>by rw[c2 ζ 0 (by omega)];exact a2 ζ,c1,fun ζ i hi hE=>?_,fun ζ i hi hE=>?_,fun ζ i hi=>?_,fun ζ i hi=>?_⟩
  ·have hl:=h.len ζ;rw[pG1];by_cases e:i=k
   ·subst e;rw[b1,mI (by simp[hl])];simp[hl]
   ·rw[b2 ζ i e,cE (by simp;omega)];exact a1 ζ i (by omega)
  ·by_cases e:i=k
   ·subst e;rw[b1,c2 ζ i (by omega),a3];exact h1 ζ hE
   ·rw[b2 ζ i e,c2 ζ i (by omega)];exact a4 ζ i (by omega) hE
  ·by_cases e:i=k
   ·subst e;simp only[b1];rw[c2 ζ i (by omega),a3];exact hz ζ hE
   ·simp only[b2 _ i e];rw[c2 ζ i (by omega)];exact az ζ i (by omega) hE
  ·by_cases e:i=k
   ·subst e;rw[b1,c2 ζ i (by omega),a3];exact h2 ζ
   ·rw[b2 ζ i e,c2 ζ i (by omega)];exact a5 ζ i (by omega)
  ·by_cases e:i=k
   ·subst e;rw[b1,c1,c2 ζ i (by omega),a3]
   ·rw[b2 ζ i e,c2 ζ (i+1) (by omega),c2 ζ i (by omega)];exact a6 ζ i (by omega)
def wHC(ops:Array Oper)(j:Nat)(l:List Stp):Nat→List (Option Stp):=fun k=>match l with
 |[]=>[]
 |x::l=>(bif Nat.beq k j||behind ops k j then none else some x)::wHC ops j l (k+1)
theorem wXD{ops:Array Oper}{j:Nat}:∀{l:List Stp}{k i:Nat},(wHC ops j l k)[i]? = (l[i]?).map fun x=>bif Nat.beq (k+i) j||behind ops (k+i) j then none else some x
 |[],k,i=>by simp[wHC]
 |x::l,k,0=>by simp[wHC]
 |x::l,k,i+1=>by rw[show wHC ops j (x::l) k=(bif Nat.beq k j||behind ops k j then none else some x)::wHC ops j l (k+1)from rfl,dB,wXD,dB,show k+1+i=k+(i+1) by omega]
def keepC(ops:Array Oper)(j:Nat)(l:List Stp):Nat→List (Option Stp):=fun k=>match l with
 |[]=>[]
 |x::l=>(match Nat.beq k j||behind ops k j with|true=>none|false=>some x)::keepC ops j l (k+1)
theorem qEH{ops:Array Oper}{j:Nat}:∀{l:List Stp}{k:Nat},keepC ops j l k=wHC ops j l k
 |[],_=>rfl
 |x::l,k=>by show _::keepC ops j l (k+1)=_::wHC ops j l (k+1);rw[qEH];cases Nat.beq k j||behind ops k j<;>rfl
def depAll(ops:Array Oper)(acc:(Nat→Z)→List Stp):List Nat→Prop
 |[]=>True
 |j::js=>(∀ζ z,wHC ops j (acc (wKA ζ j z)).reverse 0=keepC ops j (acc ζ).reverse 0)∧depAll ops acc js
theorem wQ4{ops:Array Oper}{acc:(Nat→Z)→List Stp}:∀{l:List Nat},depAll ops acc l→∀j∈l,∀ζ z,wHC ops j (acc (wKA ζ j z)).reverse 0=wHC ops j (acc ζ).reverse 0
 |_::_,h,j,hj=>by
  rcases pU.1 hj with rfl|hj
  ·exact fun ζ z=>(h.1 ζ z).trans qEH
  ·exact wQ4 h.2 j hj
def RZ(P:Program)(w0:Base)(n:Nat)(id:Nat)(ops:Array Oper)(E:List Nat)(Q:kS)(st0:St)(k:Nat)(acc:(Nat→Z)→List Stp)(st:(Nat→Z)→St):Prop:=
 TrZ P w0 n ops (fun i=>E.any fun j=>Nat.beq i j) st0 k acc st→VW P w0 n (.region id ops true) Q st0
theorem wRF(Z:Type)[Nonempty Z]{id:Nat}{st:St}(E:List Nat)(h:RZ (Z:=Z) P w0 n id ops E Q st 0 (fun _=>[]) (fun _=>st)):VW P w0 n (.region id ops true) Q st:=h .nil
theorem wQH(hm:P.follows .mixedOrders=true)[hne:Nonempty Z]{id:Nat}{E:List Nat}{k:Nat}{acc:(Nat→Z)→List Stp}{st:(Nat→Z)→St}(hk:Nat.beq k ops.size=true)(hnd:vO ops=true)(hc:∀ζ,wDA ops (acc ζ).reverse=true)(hdep:depAll ops acc E)(hQ:∀ζ,Q .normal (st ζ)):RZ P w0 n id ops E Q st0 k acc st:=by
 intro ht a w hh;obtain rfl:=pQ hk;obtain⟨s,S,a1,a2,a3,a4,az,a5,a6⟩:=ht.fns;have hEm:∀j,(E.any fun i=>Nat.beq j i)=true→j∈E:=fun j h=>anyK h;have htr:TracedZ P w0 n ops (fun i=>E.any fun j=>Nat.beq i j) s S:=⟨a4,az,a5,a6,fun ζ ζ'=>by rw[a2,a2],fun ζ j0 z j hj hE hne hb=>by have e:=congrArg (fun l=>l[j]?) (wQ4 hdep j0 (hEm _ hE) ζ z);simp only[wXD,Nat.zero_add,vB hne,hb,Bool.or_false,cond_false]at e;rw[a1 _ j hj,a1 _ j hj]at e;simpa using e⟩
 have hlo:¬LetsOut (fun(e:Exit) a w=>e=.normal∧kq w0 n Q .normal a w):=fun⟨_,_,h⟩=>by cases h.1
 obtain⟨z0⟩:=hne;refine wpIn_mono (Q:=fun(e:Exit) a w=>e=.normal∧kq w0 n Q .normal a w) ?_ fun e a w h=>by obtain⟨rfl,h⟩:=h;exact h
 refine wpIn_region_any hm (wRD hnd hlo _ _ _ _ ?_);refine htr.any a1 hc (fun ζ a w h=>⟨rfl,st ζ,hQ ζ,by rw[a3]at h;exact h⟩) ops.size (Array.replicate ops.size false) (List.range ops.size) (fun _=>false) (by simp) (by simp) (fun i hi _=>dK.2 hi) (fun i hi=>?_) (fun _ _ _ h=>by cases h) (fun _=>z0) a _ ?_
 ·simp[Array.getD_eq_getD_getElem?,hi]
 ·have:FL (s fun _=>z0) (lk (S (fun _=>z0) 0)) (fun _=>false) ops.size=lk st0:=by
   rw[a2];generalize ops.size=m
   induction m with
   |zero=>rfl
   |succ m ih=>simp only[FL];exact ih
  rw[this];obtain⟨β,hb⟩:=hh;exact⟨β,hb.drew⟩
section
variable{id k:Nat}{E:List Nat}{acc:(Nat→Z)→List Stp}{st:(Nat→Z)→St}{o:Oper}{rd:List Nat}{nw:List (Nat×Nat)}
theorem rz_step{x:(Nat→Z)→Stp}(hE:(E.any fun j=>Nat.beq k j)=false)(h1:∀ζ,wBD P w0 n ops k (x ζ) (lk (st ζ)))(h2:∀ζ,(x ζ).nw.all (kH (st ζ))=true)(hk:RZ P w0 n id ops E Q st0 (k+1) (fun ζ=>x ζ::acc ζ) (fun ζ=>(x ζ).u++st ζ)):RZ P w0 n id ops E Q st0 k acc st:=
 fun ht=>hk (ht.snoc x (fun ζ _=>h1 ζ) (fun ζ h=>by rw[hE]at h;cases h) fun ζ K hK=>pY.1 (h2 ζ) K hK)
theorem rz_g{gr:List Nat}{u:(Nat→Z)→St}(ho:ops.toList[k]? = some o)(hE:(E.any fun j=>Nat.beq k j)=false)(hg:∀ζ,gRd n ops (lk (st ζ)) o=some gr)(h:∀ζ,wM P w0 n o rd (u ζ) nw (lk (st ζ)))(hn:∀ζ,nw.all (kH (st ζ))=true)(hk:RZ P w0 n id ops E Q st0 (k+1) (fun ζ=>⟨gr++rd,u ζ,nw⟩::acc ζ) (fun ζ=>u ζ++st ζ)):RZ P w0 n id ops E Q st0 k acc st:=
 rz_step (x:=fun ζ=>⟨gr++rd,u ζ,nw⟩) hE (fun ζ=>wLI ho (hg ζ) (h ζ)) hn hk
theorem rz_v(hC:CxOk P C){gr:List Nat}{u:(Nat→Z)→St}(ho:ops.toList[k]? = some o)(hE:(E.any fun j=>Nat.beq k j)=false)(hg:∀ζ,gRd n ops (lk (st ζ)) o=some gr)(h:∀ζ,vop C (id*1000+k+1) n (lk (st ζ)) o=some (rd,u ζ,nw))(hn:∀ζ,nw.all (kH (st ζ))=true)(hk:RZ P w0 n id ops E Q st0 (k+1) (fun ζ=>⟨gr++rd,u ζ,nw⟩::acc ζ) (fun ζ=>u ζ++st ζ)):RZ P w0 n id ops E Q st0 k acc st:=
 rz_g ho hE hg (fun ζ=>wK5 hC (h ζ)) hn hk
theorem rz_z{u:(Nat→Z)→Z→St}(hE:(E.any fun j=>Nat.beq k j)=true)(h:∀ζ,vZ P w0 n ops k rd nw (u ζ) (lk (st ζ)))(hu:∀ζ z,u (wKA ζ k z)=u ζ)(hn:∀ζ,nw.all (kH (st ζ))=true)(hk:RZ P w0 n id ops E Q st0 (k+1) (fun ζ=>⟨rd,u ζ (ζ k),nw⟩::acc ζ) (fun ζ=>u ζ (ζ k)++st ζ)):RZ P w0 n id ops E Q st0 k acc st:=
 fun ht=>hk (ht.snoc (fun ζ=>⟨rd,u ζ (ζ k),nw⟩) (fun ζ h=>by rw[hE]at h;cases h) (fun ζ _=>⟨rd,nw,u ζ,fun z=>by rw[hu,setZ_same],h ζ⟩) fun ζ K hK=>pY.1 (hn ζ) K hK)
end
end
section
variable{P:Program}{C:Cx}{w0:Base}{w w':World}{n:Nat}{β:Bl}{f:Fm}{st:St}{a:Act}{o:Oper}{Q:kS}{ops:Array Oper}
theorem qE6{d j id k:Nat}{T:TypeId}{es:List (List V)}{L:List (Value×List (List V))}(hd:f (2*d)=some (.sv (.own id T k es)))(hj:f (2*j+1)=some (.fam T k L)∨(f (2*j+1)=none∧L=[])) :
  ∀a w,Hs w0 n f a w→∃u,Hs w0 n (upd (upd f (2*j+1) (some (.fam T k (L++[(u,es)])))) (2*d) (some (.sv (.v (.raw u))))) a w:=by
 rintro a w ⟨β,hh⟩;have hs:=hh.slot d _ hd;obtain⟨q,hq⟩:∃q,a.tmps.getD d undef=q:=⟨_,rfl⟩
 rw[hq]at hs;refine⟨q,?_⟩;obtain⟨ad,cap,hsh⟩:=wMC hs;have hone:q.oneCell'=true:=by rw[hsh];rfl
 obtain⟨s1,s2,us,s3,s4⟩:=hs;have hL:vV w0.lo (wT β) w β (2*j+1) T k L:=by
  rcases hj with hj|⟨_,rfl⟩
  ·exact hh.fm j T k L hj
  ·exact⟨by simp,.nil⟩
 have hdd:upd (upd f (2*d) none) (2*j+1) none (2*d)=none:=by rw[upd_ne _ _ (by omega),upd_same]
 have hfin:∀β':Bl,HB w0 n β' (upd (upd f (2*d) none) (2*j+1) none) a w→vV w0.lo (wT β') w β' (2*j+1) T k (L++[(q,es)])→Hs w0 n (upd (upd f (2*j+1) (some (.fam T k (L++[(q,es)])))) (2*d) (some (.sv (.v (.raw q))))) a w:=fun β' h5 h6=>by
  have h7:=(h5.refam (d:=j) h6).reslot (d:=d) (x:=.v (.raw q)) rfl (by rw[hq];exact Rep.raw hone);refine⟨β',h7.less fun K c e=>?_⟩;simp only[upd]at e ⊢;split
  ·rename_i hk;rw[if_pos hk]at e;exact e
  ·rename_i hk;rw[if_neg hk]at e;split
   ·rename_i hk2;rw[if_pos hk2]at e;exact e
   ·rename_i hk2;rw[if_neg hk2]at e;simpa[hk,hk2]using e
 cases hB:q.ownBlock with
 | none=>
  refine hfin β ((hh.drop _).drop _) ⟨fun p hp=>?_,?_⟩
  ·rcases cJ.1 hp with hp|hp
   ·exact hL.1 p hp
   ·rw[pP.1 hp];exact⟨s1,⟨us,s3,s4⟩,fun B e=>by dsimp only at e;rw[hB]at e;cases e⟩
  ·refine pA0.2 ⟨hL.2,gK ..,fun p _ r hr B _=>?_⟩;rw[pP.1 hr];dsimp only;rw[hB];simp
 | some B=>
  rw[hB]at s2;have h5:=((hh.drop (2*d)).drop (2*j+1)).xfer (K1:=2*d) (J1:=0) (K2:=2*j+1) (J2:=B+1) (o:=β (2*d) 0) (zV _ _) (.inl rfl) (xW hdd) (wQ5 (upd_same _ _ _)) (fun h=>by omega);have hnb:∀b,wT β b→wT (upB (upB β (2*d) 0 none) (2*j+1) (B+1) (β (2*d) 0)) b:=fun b hb K J e=>by
   unfold upB at e;split at e
   ·exact hb _ _ e
   ·split at e
    ·cases e
    ·exact hb _ _ e
  have hdis:∀p∈L,p.1.ownBlock≠some B:=fun p hp e=>by have:=(hL.1 p hp).2.2 B e;have:=(hh.inj _ _ _ _ _ this s2.symm).1;omega
  refine hfin _ h5 ⟨fun p hp=>?_,?_⟩
  ·rcases cJ.1 hp with hp|hp
   ·obtain⟨g1,⟨us2,g2,g3⟩,g4⟩:=hL.1 p hp;refine⟨g1,⟨us2,g2,g3.mono fun b hb _=>hnb b hb⟩,fun B' hB'=>?_⟩;have hne:B'≠B:=fun e=>by subst e;exact hdis p hp hB'
    rw[qO _ _ (by omega),qO _ _ (by omega)];exact g4 B' hB'
   ·rw[pP.1 hp];refine⟨s1,⟨us,s3,s4.mono fun b hb _=>hnb b hb⟩,fun B' hB'=>?_⟩;dsimp only at hB';rw[hB]at hB';cases hB';rw[zK];exact s2.symm
  ·refine pA0.2 ⟨hL.2,gK ..,fun p hp r hr B' hB'=>?_⟩;rw[pP.1 hr];dsimp only;rw[hB];intro e;cases e;exact hdis p hp hB'
theorem unname_okF{d j r id k:Nat}{T:TypeId}{u:Value}{es:List (List V)}{L:List (Value×List (List V))}(hd:Nat.blt d n=true)(hs:f (2*d)=some (.sv (.v (.raw u))))(hj:f (2*j+1)=some (.fam T k L))(hr:L[r]? = some (u,es))(hn0:vU f (2*d) 0)(hn:vU f (2*d) id) :
  ∀a w,Hs w0 n (f) a w→Hs w0 n (upd (upd f (2*j+1) (some (.fam T k (L.eraseIdx r)))) (2*d) (some (.sv (.own id T k es)))) a w:=by
 rintro a w ⟨β,hh⟩;have hsl:=wBJ (hh.slot d _ hs);have hfo:=hh.fm j T k L hj;obtain⟨g1,⟨us,g2,g3⟩,g4⟩:=hfo.1 _ (pF hr);dsimp only at g1 g2 g3 g4;have h4:=(hh.drop (2*d)).drop (2*j+1);have hd0:upd (upd (f) (2*d) none) (2*j+1) none (2*d)=none:=by rw[upd_ne _ _ (by omega),upd_same]
 have hn0':vU (upd (upd (f) (2*d) none) (2*j+1) none) (2*d) 0:=(hn0.drop _).drop _;have hfin:∀β':Bl,HB w0 n β' (upd (upd (f) (2*d) none) (2*j+1) none) a w→β' (2*d) 0=u.ownBlock→(∀b,wT β b→wT β' b)→(∀B,u.ownBlock≠some B→β (2*j+1) (B+1)=some B→β' (2*j+1) (B+1)=some B)→
   Hs w0 n (upd (upd f (2*j+1) (some (.fam T k (L.eraseIdx r)))) (2*d) (some (.sv (.own id T k es)))) a w:=by
  intro β' h5 hB hnb hoth;have hsub:∀p,p∈L.eraseIdx r→p∈L:=fun p hp=>(gW L r).subset hp;have hne:∀p,p∈L.eraseIdx r→∀B,p.1.ownBlock=some B→u.ownBlock≠some B:=by
   intro p hp B hpB huB;obtain⟨i,hi⟩:=cK hp;rw[List.getElem?_eraseIdx]at hi;split at hi
   ·exact hfo.apart hr hi (by omega) huB hpB
   ·exact hfo.apart hr hi (by omega) huB hpB
  have h6:=h5.refam (d:=j) (k:=k) (T:=T) (L:=L.eraseIdx r) ⟨fun p hp=>by obtain⟨k1,⟨us2,k2,k3⟩,k4⟩:=hfo.1 p (hsub p hp);exact⟨k1,⟨us2,k2,k3.mono fun b hb _=>hnb b hb⟩,fun B hB=>hoth B (hne p hp B hB) (k4 B hB)⟩,hfo.2.sublist (gW L r)⟩
  have hnp:vU (upd (upd (upd (f) (2*d) none) (2*j+1) none) (2*j+1) (some (.fam T k (L.eraseIdx r)))) (2*d) id:=fun e x hx=>by rw[upd_ne _ _ (by omega),upd_ne _ _ (by omega)]at hx;exact(hn.drop (2*d)) e x hx
  have h7:=h6.putO (d:=d) (by simpa using hd) (id:=id) (T:=T) (k:=k) (es:=es) (u:=u) hnp ⟨g1,hB.symm,us,g2,g3.mono fun b hb _=>hnb b hb⟩;have hsz:d<a.tmps.size:=by have:=hh.size;simp at hd;omega
  rw[←hsl,wT0 hsz]at h7;refine⟨β',h7.less fun K c e=>?_⟩;simp only[upd]at e ⊢;by_cases k1:K=2*d
  ·rw[if_pos k1]at e ⊢;exact e
  ·rw[if_neg k1]at e ⊢;by_cases k2:K=2*j+1
   ·rw[if_pos k2]at e ⊢;exact e
   ·rw[if_neg k2]at e ⊢;rw[if_neg k2,if_neg k1];exact e
 cases hB:u.ownBlock with
 | none=>
  have h5:=h4.xfer (K1:=2*d) (J1:=0) (K2:=2*d) (J2:=0) (o:=none) (zV _ _) (.inr (by simp)) (xW hd0) (xW hd0) (fun _=>hn0');refine hfin _ h5 (by rw[zK,hB]) (fun b hb K J e=>?_) fun B hne e=>?_
  ·unfold upB at e;split at e
   ·cases e
   ·exact hb _ _ e
  ·rw[qO _ _ (by omega),qO _ _ (by omega)];exact e
 | some B=>
  have hb:=g4 B hB;have h5:=h4.xfer (K1:=2*j+1) (J1:=B+1) (K2:=2*d) (J2:=0) (o:=β (2*j+1) (B+1)) (zV _ _) (.inl rfl) (wQ5 (upd_same _ _ _)) (xW hd0) (fun _=>hn0');refine hfin _ h5 (by rw[zK,hB];exact hb) (fun b hb' K J e=>?_) fun B' hne e=>?_
  ·unfold upB at e;split at e
   ·exact hb' _ _ e
   ·split at e
    ·cases e
    ·exact hb' _ _ e
  ·rw[qO _ _ (by omega),qO _ _ (fun h=>hne (by rw[hB];congr 1;omega))];exact e
theorem set_perm{α:Type}{x:α}:∀{l:List α}{r:Nat},r<l.length→(l.eraseIdx r++[x]).Perm (l.set r x)
 |[],_,h=>by simp at h
 |a::l,0,_=>by rw[List.eraseIdx_cons_zero,gP];exact fV
 |a::l,r+1,h=>by rw[List.eraseIdx_cons_succ,fR,gA];exact(set_perm (by simpa using h)).cons a
theorem y9(hC:CxOk P C){q0:Nat}{gr:List Nat}{k:Call}{t elem:TypeId}{y:Operand}{i:TypeInfo}{z:Value}{s q m j r:Nat}{u:Value}{es es2:List (List V)}{L:List (Value×List (List V))}(ho:ops.toList[q0]? = some o)(hgd:o.guard=none)(hop:o.op=.call k)(hk:k.callee=.builtin .append)(hargs:k.args=#[.tmp s,y])(hts:k.argTypes=#[t,t])(ht:C.und t=some (.slice elem))(hi:C.tys.get elem=some i)(hz:i.zero=some z)(hsz:(Nat.beq z.cells.size i.size&&Nat.blt 0 i.size)=true)(hm:i.size=m)(hs:lk st (2*s)=some (.sv (.v (.raw u))))(hsn:Nat.blt s n=true)(hfm:lk st (2*j+1)=some (.fam elem m L))(hr:L[r]? = some (u,es))(hy:opV (lk st) y=some (.list es2))(hys:y≠.tmp s)(hek:∀e∈es2,e.length=m){bb:Nat}(hbb:i.bytes=bb)(h63:es.length+es2.length≤maxLen)(hb:(es.length+es2.length)*bb≤140737488355328)(hdst:o.dst=some q)(hd:Nat.blt q n=true)(hqs:q≠s) :
  vZ P w0 n ops q0 ([2*s,2*j+1]++rdO y) [(2*s,0),(2*q,0),(2*s,1),(2*q,1)] (fun v=>[(2*q,some (.sv (.v (.raw v)))),(2*j+1,some (.fam elem m (L.set r (v,es++es2)))),(2*s,none)]) (lk st):=by
 subst hbb;intro f hf hn a w hh K Q hK;have f1:f (2*s)=some (.sv (.v (.raw u))):=by rw[hf _ (by simp)];exact hs
 have f2:f (2*j+1)=some (.fam elem m L):=by rw[hf _ (by simp)];exact hfm
 have g1:=unname_okF (id:=1) hsn f1 f2 hr (hn (2*s,0) (by simp)) (hn (2*s,1) (by simp)) a w hh;obtain⟨F,hF⟩:∃F,F=upd (upd f (2*j+1) (some (.fam elem m (L.eraseIdx r)))) (2*s) (some (.sv (.own 1 elem m es))):=⟨_,rfl⟩
 rw[←hF]at g1;have Fs:F (2*s)=some (.sv (.own 1 elem m es)):=by rw[hF,upd_same]
 have Fj:F (2*j+1)=some (.fam elem m (L.eraseIdx r)):=by rw[hF,upd_ne _ _ (by omega),upd_same]
 have hroot:root F (.tmp s)=some (s,1,elem,m,es):=by show wM9 F s=_;unfold wM9;rw[Fs]
 have hFy:opV F y=some (.list es2):=by
  rw[←hy];cases y with
  |tmp e0=>
   obtain⟨e,he⟩:∃e:Nat,e=e0:=⟨e0,rfl⟩
   subst he;have hne:e≠s:=fun h=>hys (by rw[h])
   have:F (2*e)=lk st (2*e):=by rw[hF,upd_ne _ _ (by omega),upd_ne _ _ (by omega)];exact hf _ (by simp[rdO])
   simp only[opV,opv,this]
  |_=>rfl
 have hsem:=wSB (P:=P) (w0:=w0) (n:=n) (o:=o) (st:=F) (id:=1) (so:=some s) (es:=es) hC hop hk hargs hts ht hi hz hsz hm (by unfold ownOf;rw[hroot];simp) hFy hek h63 hb hdst hd;have hnp:∀Kq∈[(2*q,1),(2*q,0)],vU F Kq.1 Kq.2:=by
  intro Kq hKq e x hx;rw[hF]at hx;by_cases he:e=s
  ·subst he;rw[upd_same]at hx;cases hx;exact fun h=>h
  ·rw[upd_ne _ _ (by omega),upd_ne _ _ (by omega)]at hx;rcases pU.1 hKq with rfl|hKq
   ·exact hn (2*q,1) (by simp) e x hx
   ·rw[pP.1 hKq];exact hn (2*q,0) (by simp) e x hx
 unfold wpOp;rw[show ops[q0]? = some o by simpa using ho];dsimp only;rw[if_pos (by simp[Region.wanted,hgd])];left;refine hsem F (fun _ _=>rfl) hnp a w g1 K Q fun a' w' h'=>?_;have hq1:app ((2*q,some (.sv (.own 1 elem m (es++es2))))::clr (some s)) F (2*q)=some (.sv (.own 1 elem m (es++es2))):=by rw[zL];exact if_pos rfl
 have hj1:app ((2*q,some (.sv (.own 1 elem m (es++es2))))::clr (some s)) F (2*j+1)=some (.fam elem m (L.eraseIdx r)):=by rw[zL];simp only[clr,app1];rw[if_neg (by omega),upd_ne _ _ (by omega)];exact Fj
 obtain⟨v,β,h3⟩:=qE6 hq1 (.inl hj1) a' w' h';refine hK v a' w' ⟨β,?_⟩;have hfo:=h3.fm j elem m _ (by rw[upd_ne _ _ (by omega),upd_same]);have hp:=set_perm (x:=(v,es++es2)) (pI.1 hr).1;have h4:=h3.refam (d:=j) (k:=m) (T:=elem) (L:=L.set r (v,es++es2)) ⟨fun p hp'=>hfo.1 p (hp.mem_iff.2 hp'),(hp.pairwise_iff (fun h B h1 h2=>h B h2 h1)).1 hfo.2⟩;refine h4.less fun Kq c e=>?_;rw[zL,zL,app1]at e;simp only[upd]at e ⊢;by_cases k1:Kq=2*q
 ·rw[if_pos k1]at e;rw[if_neg (by omega),if_pos k1];exact e
 ·rw[if_neg k1]at e;by_cases k2:Kq=2*j+1
  ·rw[if_pos k2]at e ⊢;exact e
  ·rw[if_neg k2]at e;rw[if_neg k2,if_neg k1,if_neg k2,zL];simp only[clr,app1,upd];rw[if_neg k1];by_cases k3:Kq=2*s
   ·rw[if_pos k3]at e;cases e
   ·rw[if_neg k3]at e;rw[if_neg k3,hF];simp only[upd];rw[if_neg k3,if_neg k2];exact e
theorem qCF(hC:CxOk P C){q0:Nat}{k:Call}{x:Operand}{g:FuncId}{fn:Func}{fs cs args xs:List V}{T:TypeId}{q r j:Nat}{es:List (List V)}{L:List (Value×List (List V))}(ho:ops.toList[q0]? = some o)(hgd:o.guard=none)(hop:o.op=.call k)(hk:k.callee=.value x)(hx:opv (lk st) x=some (.v (.clo g fs cs)))(hargs:xE (lk st) k.args.toList=some args)(hfn:C.fns.get g=some fn)(hl:fs++args++cs=xs)(hcall:wC8 P g xs T q es)(hdst:o.dst=some r)(hd:Nat.blt r n=true)(hfm:lk st (2*j+1)=some (.fam T q L)∨(lk st (2*j+1)=none∧L=[])) :
  vZ P w0 n ops q0 ([2*j+1]++(rdO x++rdL k.args.toList)) [(2*r,1),(2*r,0)] (fun v=>[(2*r,some (.sv (.v (.raw v)))),(2*j+1,some (.fam T q (L++[(v,es)])))]) (lk st):=by
 intro f hf hn a w hh K Q hK;have hsem:=wOB (P:=P) (w0:=w0) (n:=n) (o:=o) (st:=lk st) (id:=1) hC hop hk hx hargs hfn hl hcall hdst hd;have f2:f (2*j+1)=lk st (2*j+1):=hf _ (by simp);unfold wpOp;rw[show ops[q0]? = some o by simpa using ho];dsimp only;rw[if_pos (by simp[Region.wanted,hgd])];left;refine hsem f (fun j hj=>hf j (cC _ hj)) hn a w hh K Q fun a' w' h'=>?_;rw[app1]at h';obtain⟨v,h3⟩:=qE6 (j:=j) (L:=L) (upd_same _ _ _) (by rw[upd_ne _ _ (by omega),f2];exact hfm) a' w' h';refine hK v a' w' ?_;obtain⟨β,h3⟩:=h3;refine⟨β,h3.less fun Kq c e=>?_⟩;rw[zL,app1]at e;simp only[upd]at e ⊢;by_cases k1:Kq=2*r
 ·rw[if_pos k1]at e ⊢;exact e
 ·rw[if_neg k1]at e ⊢;by_cases k2:Kq=2*j+1
  ·rw[if_pos k2]at e ⊢;exact e
  ·rw[if_neg k2]at e;rw[if_neg k2,if_neg k1];exact e
end
section
variable{P:Program}{C:Cx}{w0:Base}{w w':World}{n:Nat}{β:Bl}{f:Fm}{st:St}{a:Act}{o:Oper}{Q:kS}{ops:Array Oper}
def cutS(u:Value)(l k:Nat):Value:=match u with
 |.slice (some p) n cap=>.slice (some (if cap=l then p else p.add (l*k))) (n-l) (cap-l)
 |v=>v
theorem wF0(hC:CxOk P C){t elem T:TypeId}{x y:Operand}{ki:IntKind}{q:Int}{u:Value}{j k r l:Nat}{L:List (Value×List (List V))}{es:List (List V)}(hop:o.op=.slice t x (some y) none none)(hx:opv (lk st) x=some (.v (.raw u)))(hy:opv (lk st) y=some (.v (.int ki q)))(hq:q=(l:Nat))(ht:C.und t=some (.slice elem))(hs:C.size elem=some k)(hfm:lk st (2*j+1)=some (.fam T k L))(hr:L[r]? = some (u,es))(hl:l<es.length)(hd:dLt n o.dst=true):wM P w0 n o (rdO x++(rdO y++[2*j+1])) (dput o.dst (some (.sv (.v (.raw (cutS u l k)))))) [] (lk st):=
 qE hd fun f hf β a w hh=>by
  subst hq;obtain⟨h1,h2⟩:=qQ hf;obtain⟨h3,h4⟩:=qQ h2;have e1:=wBJ (hh.val (x:=x) (y:=.raw u) (by rw[wJ h1];exact hx));have e2:=hh.val (x:=y) (y:=.int ki (l:Nat)) (by rw[wJ h3];exact hy);have hfo:=hh.fm j T k L (by rw[h4 _ (by simp)];exact hfm);obtain⟨_,_,us,h5,_⟩:=hfo.own hr;rcases h5.2 with⟨_,h0⟩|⟨g,cap,cur,hv,_,_,hcap,_⟩
  ·omega
  have hyv:intV (some l) (some (a.eval y)):=by generalize a.eval y=v at e2;cases e2;exact⟨ki,rfl⟩
  have hb0:=(yA (P:=P) (w:=w) (len:=es.length) (cap:=cap) (cc:=cap) (lo:=some l) (hi:=none) (mx:=none) (l:=l) (h:=es.length) (m:=cap) (by
   unfold xX;have b1:Nat.ble cap cap=true:=by rw[bY];exact pC _
   have b2:Nat.ble es.length cap=true:=by rw[bY];exact hcap
   have b3:Nat.ble l es.length=true:=by rw[bY];omega
   simp only[Option.getD_none,Option.getD_some,b1,b2,b3];rfl) (pC _) (vl:=some (a.eval y)) (vh:=none) (vm:=none) hyv rfl rfl).1
  have hb3:(Instr.sliceBounds true es.length cap (some (a.eval y)) none none).run P w=.ok (l,es.length,cap) w:=by simpa using hb0
  refine⟨cutS u l k,?_,.raw (by rw[hv];rfl)⟩;rw[hv];have hs':(if cap=l then(some ⟨g,0,none⟩:Option Addr)else Option.map (fun(x:Addr)=>x.add (l*k)) (some ⟨g,0,none⟩))=some (if cap=l then⟨g,0,none⟩else(⟨g,0,none⟩:Addr).add (l*k)):=by split<;>simp
  simp only[execOp,hop,e1,hv,Option.map_none,Option.map_some,Instr.sliceAt,Sem.run_bind,wO hC ht,Result.andThen_ok,Instr.slice,hb3,wY hC hs,Sem.run_pure,hs',cutS];first|done|(split<;>rfl)|rfl
theorem HB.bor(hh:HB w0 n β f a w){j2 j r l k:Nat}{hu:Value}{To T:TypeId}{L L2:List (Value×List (List V))}(h2:f (2*j2+1)=some (.fam To 1 L2))(hr:L2[r]? = some (hu,hdr L))(h1:f (2*j+1)=some (.fam T k L))(hl:l<L.length):Rep (fun _=>True) w (.list ((wAH L).drop l)) (cutS hu l 1):=by
 have ho:=(hh.fm j2 To 1 L2 h2).own hr;have hfo:=hh.fm j T k L h1;obtain⟨a1,a2,us,a3,a4⟩:=ho;rw[wN9]at a4;have hus:=raws a4;subst hus;have rl:RepL (fun _=>True) w (L.map fun p=>V.list p.2) (L.map (·.1)):=by
  have key:∀M:List (Value×List (List V)),(∀p∈M,p∈L)→RepL (fun _=>True) w (M.map fun p=>V.list p.2) (M.map (·.1)):=by
   intro M
   induction M with
   |nil=>intro _;exact .nil
   |cons p M ih=>intro hM;refine .cons ?_ (ih fun q hq=>hM q (pZ _ hq));obtain⟨q,hq⟩:=cK (hM p (pT ..));exact wC0 (hfo.own (u:=p.1) (es:=p.2) hq) (fun _ _=>trivial) fun _ _=>trivial
  exact key L fun p hp=>hp
 have hrep:Rep (fun _=>True) w (.list (wAH L)) hu:=wC0 (B0:=w0.lo) (S:=fun _=>True) (K:=0) (J:=0) (id:=0) (T:=To) (k:=1) (β:=fun _ _=>hu.ownBlock) ⟨fun e he=>by
  obtain⟨p,_,rfl⟩:=pO.1 he;exact⟨rfl,rfl⟩,rfl,L.map (·.1),by
  rw[yM]at a3;simpa[wAH]using a3,by rw[wWB];exact rl⟩ (fun _ _=>trivial) (fun _ _=>trivial)
 rw[yM]at a3;rcases a3.2 with⟨_,h0⟩|⟨g,cap,cur,hv,_,_,hcap,_⟩
 ·omega
 subst hv;have hlen:(wAH L).length=L.length:=by simp[wAH]
 have hp:=Rep.list_part hrep (k:=1) (fun e he=>by obtain⟨p,_,rfl⟩:=pO.1 he;rfl) l (wAH L).length cap (by omega) (pC _) (by omega) (pC _)
 rw[mZ,hlen]at hp;show Rep (fun _=>True) w (.list ((wAH L).drop l)) (.slice (some (if cap=l then⟨g,0,none⟩else(⟨g,0,none⟩:Addr).add (l*1))) (L.length-l) (cap-l));rw[zZ];exact hp
def scal:V→Bool
 |.bool _=>true
 |.int _ _=>true
 |_=>false
end
section
variable{P:Program}{w0:Base}{n:Nat}{st:St}{Q:kS}
theorem rekey_ok{s d d':Nat}{cs:List SV}(hs:lk st (2*s)=some (.sv (.bx d 0)))(hb:lk st (2*d+1)=some (.bx cs))(hown:(cs.all fun x=>!wDJ x)=true)(hd:Nat.beq d' d=false)(hn:kH st (2*d'+1,0)=true) :
  ∀a w,Hs w0 n (lk st) a w→∃_:Unit,Hs w0 n (lk ((2*s,some (.sv (.bx d' 0)))::(2*d'+1,some (.bx cs))::(2*d+1,none)::st)) a w:=by
 rintro a w ⟨β,hh⟩;refine⟨(),?_⟩;have hne:d'≠d:=fun e=>by subst e;simp at hd
 obtain⟨B,T,us,g1,g2,g3,g4⟩:=hh.box d cs hb;have hsl:=hh.slot s _ hs B g1;have h4:=(hh.drop (2*d+1)).drop (2*d'+1);have e1:upd (upd (lk st) (2*d+1) none) (2*d'+1) none (2*d+1)=none:=by rw[upd_ne _ _ (by omega),upd_same]
 have h5:=h4.xfer (K1:=2*d+1) (J1:=0) (K2:=2*d'+1) (J2:=0) (o:=β (2*d+1) 0) (zV _ _) (.inl rfl) (xW e1) (xW (upd_same _ _ _)) (fun _=>((yL hn).drop _).drop _);have hB:upB (upB β (2*d+1) 0 none) (2*d'+1) 0 (β (2*d+1) 0) (2*d'+1) 0=some B:=by rw[zK];exact g1
 have hnb:∀b,wT β b→wT (upB (upB β (2*d+1) 0 none) (2*d'+1) 0 (β (2*d+1) 0)) b:=fun b hb' K J e=>by
  unfold upB at e;split at e
  ·exact hb' _ _ e
  ·split at e
   ·cases e
   ·exact hb' _ _ e
 have h6:=h5.rebox (d:=d') (cs:=cs) hB g2 g3 fun j x u hx hu=>by
  obtain⟨q1,q2,q3⟩:=g4 j x u hx hu;have hno:wDJ x=false:=by simpa using pY.1 hown x (pF hx)
  exact⟨q1.keep (fun b hb' _=>⟨hnb b hb',rfl⟩) (fun h=>by rw[hno]at h;cases h) (fun h=>by rw[hno]at h;cases h) (fun K j hp=>absurd hp (jF q3 K j)),q2,q3⟩
 have h7:=h6.reslot (d:=s) (x:=.bx d' 0) rfl (fun B' hB'=>by rw[hB]at hB';cases hB';exact hsl);refine⟨_,h7.less fun K c e=>?_⟩;have e2:lk ((2*s,some (Cell.sv (.bx d' 0)))::(2*d'+1,some (.bx cs))::(2*d+1,none)::st)=upd (upd (upd (lk st) (2*d+1) none) (2*d'+1) (some (.bx cs))) (2*s) (some (.sv (.bx d' 0))):=by have e:=qD (u:=[(2*s,some (Cell.sv (.bx d' 0))),(2*d'+1,some (.bx cs)),(2*d+1,none)]) (st:=st);rw[zL,zL,app1]at e;exact e
 rw[e2]at e;simp only[upd]at e ⊢;by_cases k1:K=2*s
 ·rw[if_pos k1]at e ⊢;exact e
 ·rw[if_neg k1]at e ⊢;by_cases k2:K=2*d'+1
  ·rw[if_pos k2]at e ⊢;exact e
  ·rw[if_neg k2]at e ⊢;rw[if_neg k2];exact e
theorem vw_rekey{c:Code}(s d d':Nat){cs:List SV}(hs:lk st (2*s)=some (.sv (.bx d 0)))(hb:lk st (2*d+1)=some (.bx cs))(hown:(cs.all fun x=>!wDJ x)=true)(hd:Nat.beq d' d=false)(hn:kH st (2*d'+1,0)=true)(h:VW P w0 n c Q ((2*s,some (.sv (.bx d' 0)))::(2*d'+1,some (.bx cs))::(2*d+1,none)::st)):VW P w0 n c Q st:=wGC _ (rekey_ok hs hb hown hd hn) fun _=>h
end
end Go.Vl
