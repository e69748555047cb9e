/- nat.Div, nat.Gcd, told of trees. -/
import Derived.Test.YtdcjmnfngabhoaaGreatCc13
set_option linter.all false
set_option maxRecDepth 20000
set_option maxHeartbeats 6400000
namespace Go.Proofs.YtdcjmnfngabhoaaGreat
open Go.RowKit Go.Ev Go.Vl
theorem wS0(n:Nat):qF (toL n)=toL n:=by rw[qT _ (qX n),wK]
theorem jH(n:Nat)(h:0<n):0<(toL n).length:=by
 rcases mO (toL n).length with h0|h0
 ·have:=(wI7 n).1 (mM h0);omega
 ·exact h0
theorem toL_top(n:Nat)(h:0<n):0<(toL n).getD ((toL n).length-1) 0:=by
 have h1:=wS0 n;have h2:=jH n h;generalize toL n=xs at *
 rcases List.eq_nil_or_concat xs with rfl|⟨zs,x,rfl⟩
 ·simp at h2
 ·simp only[List.concat_eq_append]at *
  simp only[List.length_append,List.length_singleton,Nat.add_sub_cancel,List.getD];rcases mO x with rfl|h3
  ·rw[vX]at h1;have:=zQ zs;rw[h1]at this;simp only[List.length_append,List.length_singleton]at this;omega
  ·simpa using h3
theorem div_v(xs ys:List Nat)(hx:okL xs)(hy:okL ys)(hl:xs.length≤8796093022208)(hl2:ys.length≤8796093022208)(hp:0<wC ys):wG Tryz.prog 176 [vL xs,vL ys] (fun y=>y=.tup [vN (wC xs/wC ys),vN (wC xs%wC ys),.int .i64 0]):=by
 refine wD wE Tryz.func176 rfl rfl rfl rfl fun w0=>?_;have hta:=wZ3 xs (by omega);have htb:=wZ3 ys (by omega);have la:=zQ xs;have lb:=zQ ys;rw[qT xs hx]at hta la;rw[qT ys hy]at htb lb;generalize wC xs=A at *
 generalize wC ys=B at *
 have hpos:=jH B hp;have hcmp:=qE5 (toL A) (toL B) (qX A) (qX B) (by omega) (by omega);have hown:=wPH (toL A) (qX A) (by omega);rw[wK]at hown;simp only[wK]at hcmp;by_cases hlt:A<B
 ·have hc:zW A B = -1:=by unfold zW;rw[if_pos hlt]
  rw[hc]at hcmp;repeat (first|refine wg rfl (sL (w9 _)) ?_|refine wv ?_|refine wg rfl cT ?_|refine wg rfl cF ?_|refine wc hta ?_|refine wc htb ?_|refine wc hcmp ?_|refine wc hown ?_|refine wz ?_)
  refine⟨.inl rfl,_,rfl,?_⟩;rw[pG6 hlt,mY hlt];simp[vN,(wI7 0).2 rfl,vL,uL]
 ·have hc:0≤zW A B:=by unfold zW;rw[if_neg hlt];split<;>decide
  generalize zW A B=cm at *
  by_cases h1:(toL B).length=1
  ·have hB:toL B=[B]:=by
    have h2:=wK B;obtain⟨b,hb⟩:=List.length_eq_one_iff.1 h1;rw[hb]at h2 ⊢;simp only[wC]at h2
    have:b=B:=by omega
    rw[this]
   have hB2:B<4294967296:=qX B B (by rw[hB];exact pP.2 rfl);have hg:=kC (toL B) 0 (by omega);have hgB:(toL B).getD 0 0=B:=by rw[hB];rfl
   rw[hgB]at hg;have hsh:=short_v (toL A) B (qX A) (by omega) hp hB2;rw[wK]at hsh;have hm:=dI A hp;obtain⟨r,hr⟩:∃r,A%B=r:=⟨_,rfl⟩
   rw[hr]at hsh hm;have hof:=natOf_v r (by omega);repeat (first|refine wg rfl (sL (w9 _)) ?_|refine wv ?_|refine wg rfl cT ?_|refine wg rfl cF ?_|refine wg rfl (qN wE rfl rfl rfl rfl (jU (by omega) (by omega)) rfl) ?_|refine wc hta ?_|refine wc htb ?_|refine wc hcmp ?_|refine wg rfl (sX 0 hg) ?_|refine wc hsh ?_|refine wc hof ?_|refine wz ?_)
   refine⟨.inl rfl,_,rfl,?_⟩;rw[hr]
  ·have hle:=qA (Nat.not_lt.1 hlt);have hlg:=long_vc (toL A) (toL B) (toL B).length ((toL A).length-(toL B).length) (qX A) (qX B) (by omega) (wS0 A) (wS0 B) (by omega) rfl (toL_top B hp) (by omega);simp only[wK]at hlg;repeat (first|refine wg rfl (sL (w9 _)) ?_|refine wv ?_|refine wg rfl cF ?_|refine wc hta ?_|refine wc htb ?_|refine wc hcmp ?_|refine wc hlg ?_|refine wz ?_)
   exact⟨.inl rfl,_,rfl,rfl⟩
theorem gcd_v(xs ys:List Nat)(hx:okL xs)(hy:okL ys)(hl:xs.length≤8796093022208)(hl2:ys.length≤8796093022208):wG Tryz.prog 175 [vL xs,vL ys] (fun y=>y=vN (Nat.gcd (wC xs) (wC ys))):=by
 refine wD wE Tryz.func175 rfl rfl rfl rfl fun w0=>?_;have ha:=wPH xs hx (by omega);have hb:=wPH ys hy (by omega);have la:=zQ xs;have lb:=zQ ys;rw[qT xs hx]at la;rw[qT ys hy]at lb;generalize wC xs=A at *
 generalize wC ys=B at *
 repeat (first|refine wv ?_|refine wc ha ?_|refine wc hb ?_|refine wz ?_)
 refine wP (fun b:Nat×Nat=>[jV 0 (vN b.1),jV 2 (vN b.2)])
  (fun b=>(toL b.1).length≤8796093022208∧(toL b.2).length≤8796093022208∧Nat.gcd b.1 b.2=Nat.gcd A B) (fun b=>b.2) (A,B) (fun _=>rfl) ⟨by dsimp only;omega,by dsimp only;omega,rfl⟩ ⟨rfl,rfl,trivial⟩ fun⟨a,b⟩ hI=>?_
 obtain⟨h1,h2,h3⟩:=hI;dsimp only at h1 h2 h3 ⊢;rcases mO b with rfl|hb0
 ·have hz:(toL 0).length=0:=by rw[(wI7 0).2 rfl];rfl
  have hown:=wPH (toL a) (qX a) (by omega);rw[wK]at hown;repeat (first|refine wg rfl (sL (w9 _)) ?_|refine wv ?_|refine wg rfl cF ?_|refine wc hown ?_|refine wz ?_)
  refine⟨.inl rfl,_,rfl,?_⟩;rw[←h3,pF6]
 ·have hpos:=jH b hb0;have hd:=div_v (toL a) (toL b) (qX a) (qX b) h1 h2 (by rw[wK];exact hb0);simp only[wK]at hd;repeat (first|refine wg rfl (sL (w9 _)) ?_|refine wv ?_|refine wg rfl cT ?_|refine wc hd ?_|refine wz ?_)
  have hm:=dI a hb0;have hmono:=qA (bV hm);refine⟨(b,a%b),⟨h2,by dsimp only;omega,?_⟩,hm,rfl,rfl,trivial⟩;dsimp only;rw[←h3,fS b,←Nat.gcd_rec,fS]
abbrev ZZ:=Bool×List Nat
def vI(z:ZZ):V:=.agg [.bool z.1,vL z.2]
def intOf(z:ZZ):Int:=if z.1 then -(wC z.2:Int)else wC z.2
def zn(x:Int):ZZ:=(decide (x<0),toL x.natAbs)
def nI(x:Int):V:=vI (zn x)
def okZ(z:ZZ):Prop:=okL z.2∧z.2.length≤1099511627776
theorem wF(x:Int):intOf (zn x)=x:=by
 unfold intOf zn;rw[wK];by_cases h:x<0
 ·simp[h];omega
 ·simp[h];omega
def sgn(x:Int):Int:=if x<0 then -1 else if 0<x then 1 else 0
theorem kI(z:ZZ):(intOf z).natAbs=wC z.2:=by unfold intOf;split<;>omega
theorem nI_of(b:Bool)(m:Nat):V.agg [.bool (if b=true then decide ((0:Int)<((toL m).length:Nat))else false),vN m]=nI (if b then -(m:Int)else m):=by
 unfold nI vI zn vN;have h:=wI7 m;have hm:(if b then -(m:Int)else(m:Int)).natAbs=m:=by split<;>omega
 rw[hm];congr 2;cases b with
 |false=>simp
 |true=>
  simp only[if_true];congr 1;rcases mO m with rfl|hp
  ·simp[h.2 rfl]
  ·have:=jH m hp;simp;omega
theorem lenN_zero:wHA 0=0:=rfl
theorem lenN_pos(n:Nat)(h:0<n):0<wHA n:=by unfold wHA;rw[if_neg (by omega)];obtain⟨L,h1,h2,_⟩:=wXC _ (toL_top n h) (getD_lt _ (qX n) _);omega
theorem xT(b:Bool)(m:Nat):wG Tryz.prog 92 [.bool b,vN m] (fun y=>y=nI (if b then -(m:Int)else m)):=by
 rw[←nI_of];refine wD wE Tryz.func92 rfl rfl rfl rfl fun w0=>?_;cases b with
 | true=>
  rcases mO (toL m).length with h0|h0
  ·repeat (first|refine wg rfl (sL (w9 _)) ?_|refine wv ?_|refine wg rfl cF ?_|refine wz ?_)
   refine⟨.inl rfl,_,rfl,?_⟩;show V.agg [.bool false,vN m]=_;simp[h0]
  ·repeat (first|refine wg rfl (sL (w9 _)) ?_|refine wv ?_|refine wg rfl cT ?_|refine wz ?_)
   refine⟨.inl rfl,_,rfl,?_⟩;show V.agg [.bool true,vN m]=_;rw[if_pos rfl,decide_eq_true (by omega)]
 |false=>
  repeat (first|refine wv ?_|refine vD rfl rfl rfl rfl rfl rfl ?_|refine wz ?_)
  exact⟨.inl rfl,_,rfl,rfl⟩
theorem zabs_v(z:ZZ)(h:okZ z):wG Tryz.prog 88 [vI z] (fun y=>y=nI (wC z.2)):=by
 refine wD wE Tryz.func88 rfl rfl rfl rfl fun w0=>?_;obtain⟨b,l⟩:=z;obtain⟨h1,h2⟩:=h;dsimp only at h1 h2;have q1:=wXA l h1 (by omega);have q2:=xT false (wC l);repeat (first|refine wv ?_|refine wc q1 ?_|refine wc q2 ?_|refine wz ?_)
 exact⟨.inl rfl,_,rfl,rfl⟩
theorem wEA(z:ZZ)(h:okZ z):wG Tryz.prog 87 [vI z] (fun y=>y=.int .i64 (sgn (intOf z))):=by
 refine wD wE Tryz.func87 rfl rfl rfl rfl fun w0=>?_;obtain⟨b,l⟩:=z;obtain⟨h1,h2⟩:=h;dsimp only at h1 h2;have q1:=wT8 l h1 (by omega);rcases mO (wC l)with h0|h0
 ·have e:sgn (intOf (b,l))=0:=by unfold sgn intOf;rw[h0];cases b<;>rfl
  rw[h0,lenN_zero]at q1;rw[e];repeat (first|refine wv ?_|refine wg rfl cT ?_|refine wc q1 ?_|refine wz ?_)
  exact⟨.inl rfl,_,rfl,rfl⟩
 ·have hp:=lenN_pos _ h0;cases b with
  |true=>
   have e:sgn (intOf (true,l)) = -1:=by unfold sgn intOf;rw[if_pos rfl,if_pos (by dsimp only;omega)]
   rw[e];repeat (first|refine wv ?_|refine wg rfl cF ?_|refine wc q1 ?_|refine wz ?_)
   exact⟨.inl rfl,_,rfl,rfl⟩
  |false=>
   have e:sgn (intOf (false,l))=1:=by unfold sgn intOf;simp;omega
   rw[e];repeat (first|refine wv ?_|refine wg rfl cF ?_|refine wc q1 ?_|refine wz ?_)
   exact⟨.inl rfl,_,rfl,rfl⟩
theorem zneg_v(z:ZZ)(h:okZ z):wG Tryz.prog 89 [vI z] (fun y=>y=nI (-intOf z)):=by
 refine wD wE Tryz.func89 rfl rfl rfl rfl fun w0=>?_;have q0:=wEA z h;obtain⟨b,l⟩:=z;obtain⟨h1,h2⟩:=h;dsimp only at h1 h2;have habs:(intOf (b,l)).natAbs=wC l:=kI (b,l);have q1:=wXA l h1 (by omega);generalize hx:intOf (b,l)=x at *
 generalize wC l=n at *
 by_cases hp:0<x
 ·have e:sgn x=1:=by unfold sgn;rw[if_neg (by omega),if_pos hp]
  have q2:=xT true n;rw[e]at q0;repeat (first|refine wv ?_|refine wg rfl cT ?_|refine wc q0 ?_|refine wc q1 ?_|refine wc q2 ?_|refine wz ?_)
  refine⟨.inl rfl,_,rfl,?_⟩;have e2:-(n:Int) = -x:=by omega
  show nI (-(n:Int))=nI (-x);rw[e2]
 ·have e:sgn x≤0:=by unfold sgn;split<;>omega
  have q2:=xT false n;generalize sgn x=sx at *
  repeat (first|refine wv ?_|refine wg rfl cF ?_|refine wc q0 ?_|refine wc q1 ?_|refine wc q2 ?_|refine wz ?_)
  refine⟨.inl rfl,_,rfl,?_⟩;have e2:(n:Int) = -x:=by omega
  show nI (n:Int)=nI (-x);rw[e2]
def joinI(a b:ZZ):Int:=if wC a.2<wC b.2 then(if b.1 then -((wC b.2-wC a.2:Nat):Int)else((wC b.2-wC a.2:Nat):Int))else(if a.1 then -((wC a.2-wC b.2:Nat):Int)else((wC a.2-wC b.2:Nat):Int))
theorem wXE(a b:ZZ)(h:a.1≠b.1):joinI a b=intOf a+intOf b:=by obtain⟨x,l⟩:=a;obtain⟨y,m⟩:=b;unfold joinI intOf;dsimp only at h ⊢;cases x<;>cases y<;>simp at h ⊢<;>split<;>omega
theorem joined_v(a b:ZZ)(ha:okZ a)(hb:okZ b):wG Tryz.prog 95 [vI a,vI b] (fun y=>y=nI (joinI a b)):=by
 refine wD wE Tryz.func95 rfl rfl rfl rfl fun w0=>?_;obtain⟨x,l⟩:=a;obtain⟨y,m⟩:=b;obtain⟨h1,h2⟩:=ha;obtain⟨h3,h4⟩:=hb;dsimp only at h1 h2 h3 h4;have q1:=qE5 l m h1 h3 (by omega) (by omega);unfold joinI;dsimp only;by_cases hlt:wC l<wC m
 ·have hc:zW (wC l) (wC m) = -1:=by unfold zW;rw[if_pos hlt]
  have q2:=qE4 m l h3 h1 (by omega) (by omega) (by omega);have q3:=xT y (wC m-wC l);rw[hc]at q1;rw[if_pos hlt];repeat (first|refine wv ?_|refine wg rfl cT ?_|refine wc q1 ?_|refine wc q2 ?_|refine wc q3 ?_|refine wz ?_)
  exact⟨.inl rfl,_,rfl,rfl⟩
 ·have hc:0≤zW (wC l) (wC m):=by unfold zW;rw[if_neg hlt];split<;>decide
  have q2:=qE4 l m h1 h3 (by omega) (by omega) (by omega);have q3:=xT x (wC l-wC m);rw[if_neg hlt];generalize zW (wC l) (wC m)=cm at *
  repeat (first|refine wv ?_|refine wg rfl cF ?_|refine wc q1 ?_|refine wc q2 ?_|refine wc q3 ?_|refine wz ?_)
  exact⟨.inl rfl,_,rfl,rfl⟩
theorem zadd_v(a b:ZZ)(ha:okZ a)(hb:okZ b):wG Tryz.prog 52 [vI a,vI b] (fun y=>y=nI (intOf a+intOf b)):=by
 refine wD wE Tryz.func52 rfl rfl rfl rfl fun w0=>?_;have q3:=joined_v a b ha hb;have hj:=wXE a b;obtain⟨x,l⟩:=a;obtain⟨y,m⟩:=b;obtain⟨h1,h2⟩:=ha;obtain⟨h3,h4⟩:=hb;dsimp only at h1 h2 h3 h4 hj;have q1:=natAdd_v l m h1 h3 (by omega) (by omega);have q2:=xT x (wC l+wC m);have e:intOf (x,l)+intOf (x,m)=if x then -((wC l+wC m:Nat):Int)else((wC l+wC m:Nat):Int):=by unfold intOf;cases x<;>simp<;>omega
 cases x<;>cases y
 ·repeat (first|refine wv ?_|refine wg rfl (kL wE rfl rfl rfl rfl (.inl ⟨rfl,rfl⟩) rfl) ?_|refine wc q1 ?_|refine wc q2 ?_|refine wz ?_)
  refine⟨.inl rfl,_,rfl,?_⟩;rw[e];exact rfl
 ·repeat (first|refine wv ?_|refine wg rfl (kL wE rfl rfl rfl rfl (.inl ⟨rfl,rfl⟩) rfl) ?_|refine wc q3 ?_|refine wz ?_)
  refine⟨.inl rfl,_,rfl,?_⟩;rw[←hj (by decide)];exact rfl
 ·repeat (first|refine wv ?_|refine wg rfl (kL wE rfl rfl rfl rfl (.inl ⟨rfl,rfl⟩) rfl) ?_|refine wc q3 ?_|refine wz ?_)
  refine⟨.inl rfl,_,rfl,?_⟩;rw[←hj (by decide)];exact rfl
 ·repeat (first|refine wv ?_|refine wg rfl (kL wE rfl rfl rfl rfl (.inl ⟨rfl,rfl⟩) rfl) ?_|refine wc q1 ?_|refine wc q2 ?_|refine wz ?_)
  refine⟨.inl rfl,_,rfl,?_⟩;rw[e];exact rfl
theorem wXG(x y:Bool)(l m:List Nat):intOf (x,l)*intOf (y,m)=if x != y then -((wC l*wC m:Nat):Int)else((wC l*wC m:Nat):Int):=by unfold intOf;cases x<;>cases y<;>simp[Int.neg_mul,Int.mul_neg]
theorem wYD(a b:ZZ)(ha:okZ a)(hb:okZ b):wG Tryz.prog 49 [vI a,vI b] (fun y=>y=nI (intOf a*intOf b)):=by
 refine wD wE Tryz.func49 rfl rfl rfl rfl fun w0=>?_;obtain⟨x,l⟩:=a;obtain⟨y,m⟩:=b;obtain⟨h1,h2⟩:=ha;obtain⟨h3,h4⟩:=hb;dsimp only at h1 h2 h3 h4;have q1:=natMul_v l m h1 h3 (by omega) (by omega);have q2:=xT (x != y) (wC l*wC m);rw[wXG];cases x<;>cases y;all_goals
  repeat (first|refine wv ?_|refine wg rfl (kL wE rfl rfl rfl rfl (.inr ⟨rfl,rfl⟩) rfl) ?_|refine wc q1 ?_|refine wc q2 ?_|refine wz ?_)
  exact⟨.inl rfl,_,rfl,rfl⟩
theorem wCJ(x:Int)(h:(toL x.natAbs).length≤1099511627776):okZ (zn x):=⟨qX _,h⟩
theorem wOG(z:ZZ)(h:okZ z):(toL (intOf z).natAbs).length≤z.2.length:=by rw[kI];exact jZ z.2 h.1
theorem wDC(z:ZZ)(h:okZ z):okZ (zn (intOf z)):=wCJ _ (pD (wOG z h) h.2)
theorem wMI(z:ZZ)(h:okZ z):okZ (zn (-intOf z)):=wCJ _ (by rw[Int.natAbs_neg];exact pD (wOG z h) h.2)
theorem zsub_v(a b:ZZ)(ha:okZ a)(hb:okZ b):wG Tryz.prog 151 [vI a,vI b] (fun y=>y=nI (intOf a-intOf b)):=by
 refine wD wE Tryz.func151 rfl rfl rfl rfl fun w0=>?_;have q1:=zneg_v b hb;have q2:=zadd_v a (zn (-intOf b)) ha (wMI b hb);rw[wF]at q2;obtain⟨x,l⟩:=a;obtain⟨y,m⟩:=b;repeat (first|refine wv ?_|refine wc q1 ?_|refine wc q2 ?_|refine wz ?_)
 exact⟨.inl rfl,_,rfl,rfl⟩
theorem wAI(x:Int):(x<0∧sgn x = -1)∨(x=0∧sgn x=0)∨(0<x∧sgn x=1):=by
 unfold sgn
 repeat' split
 all_goals omega
theorem wTE(x y:Bool)(l m:List Nat):(intOf (x,l)).tdiv (intOf (y,m))=if x != y then -((wC l/wC m:Nat):Int)else((wC l/wC m:Nat):Int):=by have h:∀a b:Nat,(a:Int).tdiv (b:Int)=((a/b:Nat):Int):=fun a b=>rfl;unfold intOf;cases x<;>cases y<;>simp[Int.neg_tdiv,Int.tdiv_neg,h]
theorem intOf_tmod(x y:Bool)(l m:List Nat):(intOf (x,l)).tmod (intOf (y,m))=if x then -((wC l%wC m:Nat):Int)else((wC l%wC m:Nat):Int):=by have h:∀a b:Nat,(a:Int).tmod (b:Int)=((a%b:Nat):Int):=fun a b=>rfl;unfold intOf;cases x<;>cases y<;>simp[Int.neg_tmod,Int.tmod_neg,h]
theorem ztrunc_v(a b:ZZ)(ha:okZ a)(hb:okZ b)(h0:intOf b≠0):wG Tryz.prog 141 [vI a,vI b] (fun y=>y=.tup [nI ((intOf a).tdiv (intOf b)),nI ((intOf a).tmod (intOf b)),.int .i64 0]):=by
 refine wD wE Tryz.func141 rfl rfl rfl rfl fun w0=>?_;have e2:=kI b;obtain⟨x,l⟩:=a;obtain⟨y,m⟩:=b;obtain⟨h1,h2⟩:=ha;obtain⟨h3,h4⟩:=hb;dsimp only at h1 h2 h3 h4 e2;have q1:=div_v l m h1 h3 (by omega) (by omega) (by omega);have q2:=xT (x != y) (wC l/wC m);have q3:=xT x (wC l%wC m);rw[wTE,intOf_tmod];cases x<;>cases y;all_goals
  repeat (first|refine wv ?_|refine wg rfl nF ?_|refine wg rfl (kL wE rfl rfl rfl rfl (.inr ⟨rfl,rfl⟩) rfl) ?_|refine wc q1 ?_|refine wc q2 ?_|refine wc q3 ?_|refine wz ?_)
  exact⟨.inl rfl,_,rfl,rfl⟩
theorem wAD(a b:ZZ)(ha:okZ a)(hb:okZ b)(h0:intOf b≠0)(hd:intOf b∣intOf a):wG Tryz.prog 90 [vI a,vI b] (fun y=>y=.tup [nI ((intOf a).tdiv (intOf b)),.int .i64 0]):=by
 refine wD wE Tryz.func90 rfl rfl rfl rfl fun w0=>?_;have q1:=ztrunc_v a b ha hb h0;have q2:=wEA (zn 0) (wCJ 0 (by simp[qW]));rw[Int.tmod_eq_zero_of_dvd hd]at q1;rw[wF]at q2;obtain⟨x,l⟩:=a;obtain⟨y,m⟩:=b;repeat (first|refine wv ?_|refine wg rfl cT ?_|refine wg rfl (jE rfl rfl rfl rfl (rfl) rfl) ?_|refine wc q1 ?_|refine wc q2 ?_|refine wz ?_)
 exact⟨.inl rfl,_,rfl,rfl⟩
theorem zgcd1_v(a b:ZZ)(ha:okZ a)(hb:okZ b):wG Tryz.prog 139 [vI a,vI b] (fun y=>y=nI (Int.gcd (intOf a) (intOf b))):=by
 refine wD wE Tryz.func139 rfl rfl rfl rfl fun w0=>?_;have e1:=kI a;have e2:=kI b;obtain⟨x,l⟩:=a;obtain⟨y,m⟩:=b;obtain⟨h1,h2⟩:=ha;obtain⟨h3,h4⟩:=hb;dsimp only at h1 h2 h3 h4 e1 e2;have q1:=gcd_v l m h1 h3 (by omega) (by omega);have q2:=xT false (Nat.gcd (wC l) (wC m));have e3:Int.gcd (intOf (x,l)) (intOf (y,m))=Nat.gcd (wC l) (wC m):=by unfold Int.gcd;rw[e1,e2]
 rw[e3];repeat (first|refine wv ?_|refine wc q1 ?_|refine wc q2 ?_|refine wz ?_)
 exact⟨.inl rfl,_,rfl,rfl⟩
theorem lenAdd(xs ys:List Nat)(k:Nat)(hx:okL xs)(hy:okL ys)(h1:xs.length≤k)(h2:ys.length≤k):(toL (wC xs+wC ys)).length≤k+1:=by
 refine zU _ _ ?_;have a:=qP xs hx;have b:=qP ys hy;have c:4294967296^xs.length≤4294967296^k:=mT (by decide) h1;have d:4294967296^ys.length≤4294967296^k:=mT (by decide) h2;rw[mS];generalize 4294967296^k=K at *
 omega
theorem lenMul(xs ys:List Nat)(hx:okL xs)(hy:okL ys):(toL (wC xs*wC ys)).length≤xs.length+ys.length:=by refine zU _ _ ?_;rw[fC];exact fL (qP xs hx) (qP ys hy)
theorem lenSub(xs ys:List Nat)(hx:okL xs):(toL (wC xs-wC ys)).length≤xs.length:=pD (qA (Nat.sub_le _ _)) (jZ xs hx)
theorem lenDiv(xs ys:List Nat)(hx:okL xs):(toL (wC xs/wC ys)).length≤xs.length:=pD (qA (cP _ _)) (jZ xs hx)
theorem wE0(b:Bool)(n:Nat):intOf (b,toL n)=if b then -(n:Int)else n:=by unfold intOf;rw[wK]
theorem wA1(z:ZZ)(h1:okL z.2)(h2:z.2.length≤35184372088832):wG Tryz.prog 123 [vI z] (fun y=>y=nI (intOf z)):=by
 obtain⟨b,l⟩:=z;dsimp only at h1 h2;have q1:=wH1 l h1 (by omega);have e:=nI_of b (wC l);have e2:intOf (b,l)=if b then -(wC l:Int)else wC l:=rfl
 rw[e2,←e];refine wD wE Tryz.func123 rfl rfl rfl rfl fun w0=>?_;generalize wC l=m at *
 cases b with
 | true=>
  rcases mO (toL m).length with h0|h0
  ·repeat (first|refine wg rfl (sL (w9 _)) ?_|refine wv ?_|refine wg rfl cF ?_|refine wc q1 ?_|refine wz ?_)
   refine⟨.inl rfl,_,rfl,?_⟩;show V.agg [.bool false,vN m]=_;simp[h0]
  ·repeat (first|refine wg rfl (sL (w9 _)) ?_|refine wv ?_|refine wg rfl cT ?_|refine wc q1 ?_|refine wz ?_)
   refine⟨.inl rfl,_,rfl,?_⟩;show V.agg [.bool true,vN m]=_;rw[if_pos rfl,decide_eq_true (by omega)]
 |false=>
  repeat (first|refine wv ?_|refine wc q1 ?_|refine vD rfl rfl rfl rfl rfl rfl ?_|refine wz ?_)
  exact⟨.inl rfl,_,rfl,rfl⟩
theorem rsignW_v(z:ZZ)(h1:okL z.2)(h2:z.2.length≤35184372088832):wG Tryz.prog 56 [vI z] (fun y=>y=.int .i64 (sgn (intOf z))):=by
 refine wD wE Tryz.func56 rfl rfl rfl rfl fun w0=>?_;obtain⟨b,l⟩:=z;dsimp only at h1 h2;have q1:=zero01_v l h1 (by omega);by_cases h0:wC l=0
 ·have e:sgn (intOf (b,l))=0:=by unfold sgn intOf;rw[h0];cases b<;>rfl
  rw[decide_eq_true h0]at q1;rw[e];repeat (first|refine wv ?_|refine wc q1 ?_|refine wz ?_)
  exact⟨.inl rfl,_,rfl,rfl⟩
 ·rw[decide_eq_false h0]at q1;cases b with
  |true=>
   have e:sgn (intOf (true,l)) = -1:=by unfold sgn intOf;rw[if_pos rfl,if_pos (by dsimp only;omega)]
   rw[e];repeat (first|refine wv ?_|refine wc q1 ?_|refine wz ?_)
   exact⟨.inl rfl,_,rfl,rfl⟩
  |false=>
   have e:sgn (intOf (false,l))=1:=by unfold sgn intOf;simp;omega
   rw[e];repeat (first|refine wv ?_|refine wc q1 ?_|refine wz ?_)
   exact⟨.inl rfl,_,rfl,rfl⟩
theorem wID(z:ZZ)(h:okZ z):wG Tryz.prog 56 [vI z] (fun y=>y=.int .i64 (sgn (intOf z))):=rsignW_v z h.1 (pD h.2 (by decide))
theorem qA2(z:ZZ)(h:okZ z):wG Tryz.prog 72 [vI z] (fun y=>y=nI (-intOf z)):=by
 refine wD wE Tryz.func72 rfl rfl rfl rfl fun w0=>?_;obtain⟨b,l⟩:=z;obtain⟨h1,h2⟩:=h;dsimp only at h1 h2;have q1:=wA1 (!b,l) h1 (by dsimp only;omega);have e:intOf (!b,l) = -intOf (b,l):=by unfold intOf;cases b<;>simp
 rw[←e];cases b;all_goals
  repeat (first|refine wv ?_|refine wc q1 ?_|refine wz ?_)
  exact⟨.inl rfl,_,rfl,rfl⟩
theorem rabs_v(z:ZZ)(h:okZ z):wG Tryz.prog 130 [vI z] (fun y=>y=nI (wC z.2)):=by
 refine wD wE Tryz.func130 rfl rfl rfl rfl fun w0=>?_;obtain⟨b,l⟩:=z;obtain⟨h1,h2⟩:=h;dsimp only at h1 h2;have q1:=wH1 l h1 (by omega);repeat (first|refine wv ?_|refine wc q1 ?_|refine wz ?_)
 exact⟨.inl rfl,_,rfl,nI_of false (wC l)⟩
theorem wKC(a b:ZZ)(ha:okZ a)(hb:okZ b):wG Tryz.prog 76 [vI a,vI b] (fun y=>y=nI (intOf a*intOf b)):=by
 refine wD wE Tryz.func76 rfl rfl rfl rfl fun w0=>?_;obtain⟨x,l⟩:=a;obtain⟨y,m⟩:=b;obtain⟨h1,h2⟩:=ha;obtain⟨h3,h4⟩:=hb;dsimp only at h1 h2 h3 h4;have hl:=lenMul l m h1 h3;have q1:=mul01_v l m h1 h3 (by omega) (by omega);have q2:=wA1 (x != y,toL (wC l*wC m)) (qX _) (by dsimp only;omega);rw[wE0]at q2;rw[wXG];cases x<;>cases y;all_goals
  repeat (first|refine wv ?_|refine wg rfl (kL wE rfl rfl rfl rfl (.inr ⟨rfl,rfl⟩) rfl) ?_|refine wc q1 ?_|refine wc q2 ?_|refine wz ?_)
  exact⟨.inl rfl,_,rfl,rfl⟩
theorem radd_v(a b:ZZ)(ha:okZ a)(hb:okZ b):wG Tryz.prog 75 [vI a,vI b] (fun y=>y=nI (intOf a+intOf b)):=by
 refine wD wE Tryz.func75 rfl rfl rfl rfl fun w0=>?_;have p1:=wA1 a ha.1 (pD ha.2 (by decide));have p2:=wA1 b hb.1 (pD hb.2 (by decide));have ka:=wDC a ha;have kb:=wDC b hb;have ia:=wF (intOf a);have ib:=wF (intOf b);unfold nI at p1 p2;obtain⟨a1,a2⟩:=a;obtain⟨b1,b2⟩:=b;generalize intOf (a1,a2)=X at *
 generalize intOf (b1,b2)=Y at *
 generalize zn X=zx at *
 generalize zn Y=zy at *
 obtain⟨x,l⟩:=zx;obtain⟨y,m⟩:=zy;rw[←ia,←ib];have hj:=wXE (x,l) (y,m);unfold joinI at hj;obtain⟨h1,h2⟩:=ka;obtain⟨h3,h4⟩:=kb;dsimp only at h1 h2 h3 h4 hj;have la:=lenAdd l m _ h1 h3 h2 h4;have q1:=add01_v l m h1 h3 (by omega) (by omega);have q2:=wA1 (x,toL (wC l+wC m)) (qX _) (by dsimp only;omega);have c1:=cmp01_v l m h1 h3 (by omega) (by omega);have e:intOf (x,l)+intOf (x,m)=if x then -((wC l+wC m:Nat):Int)else((wC l+wC m:Nat):Int):=by unfold intOf;cases x<;>simp<;>omega
 rw[wE0]at q2;by_cases hxy:x=y
 ·subst hxy;cases x;all_goals
   repeat (first|refine wv ?_|refine wg rfl (kL wE rfl rfl rfl rfl (.inl ⟨rfl,rfl⟩) rfl) ?_|refine wc p1 ?_|refine wc p2 ?_|refine wc q1 ?_|refine wc q2 ?_|refine wz ?_)
   refine⟨.inl rfl,_,rfl,?_⟩;rw[e];exact rfl
 ·rw[←hj hxy];by_cases hlt:wC l<wC m
  ·have hc:zW (wC l) (wC m) = -1:=by unfold zW;rw[if_pos hlt]
   have s1:=wQF m l h3 h1 (by omega) (by omega);have ls:=lenSub m l h3;have s2:=wA1 (y,toL (wC m-wC l)) (qX _) (by dsimp only;omega);rw[wE0]at s2;rw[hc]at c1;rw[if_pos hlt];cases x<;>cases y
   ·exact absurd rfl hxy
   ·repeat (first|refine wv ?_|refine wg rfl cT ?_|refine wg rfl (kL wE rfl rfl rfl rfl (.inl ⟨rfl,rfl⟩) rfl) ?_|refine wc p1 ?_|refine wc p2 ?_|refine wc c1 ?_|refine wc s1 ?_|refine wc s2 ?_|refine wz ?_)
    exact⟨.inl rfl,_,rfl,rfl⟩
   ·repeat (first|refine wv ?_|refine wg rfl cT ?_|refine wg rfl (kL wE rfl rfl rfl rfl (.inl ⟨rfl,rfl⟩) rfl) ?_|refine wc p1 ?_|refine wc p2 ?_|refine wc c1 ?_|refine wc s1 ?_|refine wc s2 ?_|refine wz ?_)
    exact⟨.inl rfl,_,rfl,rfl⟩
   ·exact absurd rfl hxy
  ·have hc:0≤zW (wC l) (wC m):=by unfold zW;rw[if_neg hlt];split<;>decide
   have s1:=wQF l m h1 h3 (by omega) (by omega);have ls:=lenSub l m h1;have s2:=wA1 (x,toL (wC l-wC m)) (qX _) (by dsimp only;omega);rw[wE0]at s2;rw[if_neg hlt];generalize zW (wC l) (wC m)=cm at *
   cases x<;>cases y
   ·exact absurd rfl hxy
   ·repeat (first|refine wv ?_|refine wg rfl cF ?_|refine wg rfl (kL wE rfl rfl rfl rfl (.inl ⟨rfl,rfl⟩) rfl) ?_|refine wc p1 ?_|refine wc p2 ?_|refine wc c1 ?_|refine wc s1 ?_|refine wc s2 ?_|refine wz ?_)
    exact⟨.inl rfl,_,rfl,rfl⟩
   ·repeat (first|refine wv ?_|refine wg rfl cF ?_|refine wg rfl (kL wE rfl rfl rfl rfl (.inl ⟨rfl,rfl⟩) rfl) ?_|refine wc p1 ?_|refine wc p2 ?_|refine wc c1 ?_|refine wc s1 ?_|refine wc s2 ?_|refine wz ?_)
    exact⟨.inl rfl,_,rfl,rfl⟩
   ·exact absurd rfl hxy
theorem rsub_v(a b:ZZ)(ha:okZ a)(hb:okZ b):wG Tryz.prog 170 [vI a,vI b] (fun y=>y=nI (intOf a-intOf b)):=by
 refine wD wE Tryz.func170 rfl rfl rfl rfl fun w0=>?_;have q1:=qA2 b hb;have q2:=radd_v a (zn (-intOf b)) ha (wMI b hb);rw[wF]at q2;obtain⟨x,l⟩:=a;obtain⟨y,m⟩:=b;repeat (first|refine wv ?_|refine wc q1 ?_|refine wc q2 ?_|refine wz ?_)
 exact⟨.inl rfl,_,rfl,rfl⟩
theorem rtrunc_v(a b:ZZ)(ha:okZ a)(hb:okZ b)(h0:intOf b≠0):wG Tryz.prog 125 [vI a,vI b] (fun y=>y=.tup [nI ((intOf a).tdiv (intOf b)),nI ((intOf a).tmod (intOf b))]):=by
 refine wD wE Tryz.func125 rfl rfl rfl rfl fun w0=>?_;have e1:=kI a;have e2:=kI b;have hle:(intOf a).natAbs=wC a.2:=e1;have hda:=Int.mul_tdiv_add_tmod (intOf a) (intOf b);have hq:((intOf a).tdiv (intOf b)).natAbs≤wC a.2:=by rw[dS,e1];exact cP _ _
 have hp:((intOf a).tdiv (intOf b)*intOf b).natAbs≤wC a.2:=by rw[pE9,dS,e1];exact Nat.div_mul_le_self _ _
 have ok1:∀x:Int,x.natAbs≤wC a.2→okZ (zn x):=fun x h=>wCJ x (pD (qA h) (pD (jZ a.2 ha.1) ha.2));have q3:=wKC (zn ((intOf a).tdiv (intOf b))) b (ok1 _ hq) hb;have q4:=rsub_v a (zn ((intOf a).tdiv (intOf b)*intOf b)) ha (ok1 _ hp);rw[wF]at q3 q4;have e5:intOf a-(intOf a).tdiv (intOf b)*intOf b=(intOf a).tmod (intOf b):=by rw[pG5] ;omega
 rw[e5]at q4;obtain⟨x,l⟩:=a;obtain⟨y,m⟩:=b;obtain⟨h1,h2⟩:=ha;obtain⟨h3,h4⟩:=hb;dsimp only at h1 h2 h3 h4 e2;have q1:=div01_v l m h1 h3 (by omega) (by omega) (by omega);have ld:=lenDiv l m h1;have q2:=wA1 (x != y,toL (wC l/wC m)) (qX _) (by dsimp only;omega);rw[wE0,←wTE]at q2;cases x<;>cases y;all_goals
  repeat (first|refine wv ?_|refine wg rfl (kL wE rfl rfl rfl rfl (.inr ⟨rfl,rfl⟩) rfl) ?_|refine wc q1 ?_|refine wc q2 ?_|refine wc q3 ?_|refine wc q4 ?_|refine wz ?_)
  exact⟨.inl rfl,_,rfl,rfl⟩
theorem wGF(a b:ZZ)(ha:okZ a)(hb:okZ b)(h0:intOf b≠0)(hd:intOf b∣intOf a):wG Tryz.prog 74 [vI a,vI b] (fun y=>y=.tup [nI ((intOf a).tdiv (intOf b)),.bool true]):=by
 refine wD wE Tryz.func74 rfl rfl rfl rfl fun w0=>?_;have q1:=rtrunc_v a b ha hb h0;have q2:=wID (zn 0) (wCJ 0 (by simp[qW]));rw[Int.tmod_eq_zero_of_dvd hd]at q1;rw[wF]at q2;obtain⟨x,l⟩:=a;obtain⟨y,m⟩:=b;repeat (first|refine wv ?_|refine wg rfl (jE rfl rfl rfl rfl (rfl) rfl) ?_|refine wc q1 ?_|refine wc q2 ?_|refine wz ?_)
 exact⟨.inl rfl,_,rfl,rfl⟩
theorem natOf_zrep(k:Nat)(xs:List Nat):wC (List.replicate k 0++xs)=4294967296^k*wC xs:=by rw[wN3,wG2,dA,dG]
theorem left01_v(xs:List Nat)(t:Nat)(hx:okL xs)(hl:xs.length≤1099511627776)(ht:t≤35184372088832):wG Tryz.prog 168 [vL xs,.int .i64 (t:Nat)] (fun y=>y=vN (wC xs*2^t)):=by
 refine wD wE Tryz.func168 rfl rfl rfl rfl fun w0=>?_;have q1:=wH1 xs hx (by omega);have hln:=jZ xs hx;have h1:Ev.ewrap .i64 ((t:Int).tdiv 32)=((t/32:Nat):Int):=by
  have:(t:Int).tdiv 32=((t/32:Nat):Int):=rfl
  rw[this,wO5 (by omega) (by omega)]
 have h2:(t:Int).tmod 32=((t%32:Nat):Int):=rfl;have h3:Ev.ewrap .u64 ((t%32:Nat):Int)=((t%32:Nat):Int):=jU (by omega) (by omega);have hp:2^(t%32)≤2147483648:=(mT (by decide) (show t%32≤31 by omega):2^(t%32)≤2^31)
 have h4:Ev.ewrap .u32 ((1*2^(t%32):Nat):Int)=((2^(t%32):Nat):Int):=by rw[pA6,ew32,mY (by omega)]
 have happ:=uL_app (List.replicate (t/32) 0) (toL (wC xs));have hok:okL (List.replicate (t/32) 0++toL (wC xs)):=fun x h=>by
  rcases cJ.1 h with h|h
  ·rw[(fA.1 h).2];decide
  ·exact qX _ x h
 have q2:=small01_v (List.replicate (t/32) 0++toL (wC xs)) (2^(t%32)) hok (by simp;omega) (by omega);rw[natOf_zrep,wK]at q2;have hu:=w9 (toL (wC xs));have hu2:=w9 (List.replicate (t/32) 0);have hu3:(List.replicate (t/32) 0).length=t/32:=dA;have e:4294967296^(t/32)*wC xs*2^(t%32)=wC xs*2^t:=by
  have:2^t=4294967296^(t/32)*2^(t%32):=by rw[show 4294967296=2^32 from rfl,←Nat.pow_mul,←fC,cU]
  rw[this,mL (4294967296^(t/32)),mJ]
 rw[←e];repeat (first|refine wv ?_|refine wg rfl (wD8 rfl rfl rfl (by decide) h1 rfl) ?_|refine wg rfl (kD rfl rfl rfl (by decide) h2 rfl) ?_|refine wg rfl (x8 (id:=7000) (l:=t/32) (c:=t/32) (m:=1) (bb:=4) wE rfl rfl rfl rfl rfl rfl rfl rfl rfl rfl (pC _) rfl (by omega) (by simp only[maxLen];omega) rfl rfl rfl (wZ2 _)) ?_|refine wc q1 ?_|refine wf rfl rfl (qZ (id:=7003) (es2:=uL (toL (wC xs))) (m:=1) (bb:=4) wE rfl rfl rfl rfl rfl rfl rfl rfl rfl rfl rfl (wRJ _) rfl (by simp only[maxLen];omega) (by omega) rfl rfl happ) ?_|refine wg rfl (qN wE rfl rfl rfl rfl h3 rfl) ?_|refine wg rfl (xP (a:=1) (s:=t%32) rfl rfl rfl rfl (by simp only[IntKind.bits];omega) h4 rfl) ?_|refine wh q2 ?_|refine wz ?_)
 exact⟨.inl rfl,_,rfl,rfl⟩
theorem low2(a:Nat)(h:0<a):(toL a).getD 0 0%2=a%2:=by rw[wLF (by omega)];simp only[List.getD_cons_zero];omega
theorem gcd01_v(xs ys:List Nat)(hx:okL xs)(hy:okL ys)(hl:xs.length≤1099511627776)(hl2:ys.length≤1099511627776):wG Tryz.prog 124 [vL xs,vL ys] (fun y=>y=vN (Nat.gcd (wC xs) (wC ys))):=by
 refine wD wE Tryz.func124 rfl rfl rfl rfl fun w0=>?_;have q1:=wH1 xs hx (by omega);have q2:=wH1 ys hy (by omega);have l1:=jZ xs hx;have l2:=jZ ys hy;have hxl:=qP xs hx;generalize wC xs=A at *
 generalize wC ys=B at *
 have hz:(toL 0).length=0:=by rw[qW];rfl
 have half:=fun(a:Nat)(h:(toL a).length≤1099511627776)=>half01_v (toL a) (qX a) (pD h (by decide));simp only[wK]at half;rcases mO A with rfl|hA
 ·repeat (first|refine wg rfl (sL (w9 _)) ?_|refine wv ?_|refine wg rfl cT ?_|refine wc q1 ?_|refine wc q2 ?_|refine wz ?_)
  refine⟨.inl rfl,_,rfl,?_⟩;rw[pG3]
 have pA:=jH A hA;rcases mO B with rfl|hB
 ·repeat (first|refine wg rfl (sL (w9 _)) ?_|refine wv ?_|refine wg rfl cT ?_|refine wg rfl cF ?_|refine wc q1 ?_|refine wc q2 ?_|refine wz ?_)
  refine⟨.inl rfl,_,rfl,?_⟩;rw[pF6]
 have pB:=jH B hB;repeat (first|refine wg rfl (sL (w9 _)) ?_|refine wv ?_|refine wg rfl cF ?_|refine wc q1 ?_|refine wc q2 ?_|refine wz ?_)
 refine wQB 0 (fun b:Nat×Nat×Nat=>[jV 0 (vN b.1),jV 2 (vN b.2.1),jI 10 (b.2.2)])
  (fun b=>0<b.1∧0<b.2.1∧(toL b.1).length≤1099511627776∧(toL b.2.1).length≤1099511627776∧b.2.2≤35184372088832∧Nat.gcd b.1 b.2.1%2=1∧Nat.gcd A B=Nat.gcd b.1 b.2.1*2^b.2.2) (fun _=>rfl) ?_ ?_
 ·refine wP (fun b:Nat×Nat×Nat=>[jV 0 (vN b.1),jV 2 (vN b.2.1),jI 10 (b.2.2)])
   (fun b=>0<b.1∧0<b.2.1∧(toL b.1).length≤1099511627776∧(toL b.2.1).length≤1099511627776∧b.1*2^b.2.2=A∧Nat.gcd A B=Nat.gcd b.1 b.2.1*2^b.2.2)
   (fun b=>b.1) (A,B,0) (fun _=>rfl) ⟨hA,hB,by dsimp only;omega,by dsimp only;omega,by simp,by simp⟩ ⟨rfl,rfl,rfl,trivial⟩ fun⟨a,b,t⟩ hI=>?_
  obtain⟨h1,h2,h3,h4,h5,h6⟩:=hI;dsimp only at h1 h2 h3 h4 h5 h6 ⊢;have ht:t≤35184372088832:=by
   have a1:2^t≤A:=by rw[←h5];exact Nat.le_mul_of_pos_left _ h1
   have a2:2^t<2^(32*xs.length):=by rw[Nat.pow_mul];exact fQ a1 hxl
   have:=(Nat.pow_lt_pow_iff_right (by decide)).1 a2;omega
  have pa:=jH a h1;have pb:=jH b h2;have ga:=kC (toL a) 0 pa;have gb:=kC (toL b) 0 pb;have ma:=low2 a h1;have mb:=low2 b h2;have ha2:=half a h3;have hb2:=half b h4;generalize (toL a).getD 0 0=a0 at *
  generalize (toL b).getD 0 0=b0 at *
  have hm:=dW;by_cases ea:a%2=0
  ·rw[ea]at ma;by_cases eb:b%2=0
   ·rw[eb]at mb;repeat (first|refine wv ?_|refine wg rfl (sX 0 ga) ?_|refine wg rfl (sX 0 gb) ?_|refine wg rfl (kD rfl rfl rfl (by decide) (nRem (b:=2) ma) rfl) ?_|refine wg rfl (kD rfl rfl rfl (by decide) (nRem (b:=2) mb) rfl) ?_|refine wc ha2 ?_|refine wc hb2 ?_|refine wg rfl cT ?_|refine wg rfl sB ?_|refine wz ?_)
    have e:=gcd_both ea eb;refine⟨(a/2,b/2,t+1),⟨by dsimp only;omega,by dsimp only;omega,pD (qA (cP _ _)) h3,pD (qA (cP _ _)) h4,?_,?_⟩,by dsimp only;omega,rfl,rfl,rfl,trivial⟩
    ·dsimp only;rw[←h5,mS,mL (2^t),←mJ];congr 1;omega
    ·dsimp only;rw[h6,e,mS,mL 2,mJ,mL 2]
   ·have mb1:b0%2=1:=by have:=hm b;omega
    repeat (first|refine wv ?_|refine wg rfl (sX 0 ga) ?_|refine wg rfl (sX 0 gb) ?_|refine wg rfl (kD rfl rfl rfl (by decide) (nRem (b:=2) ma) rfl) ?_|refine wg rfl (kD rfl rfl rfl (by decide) (nRem (b:=2) mb1) rfl) ?_|refine wg rfl cT ?_|refine wg rfl cF ?_|refine wz ?_)
    exact⟨(a,b,t),⟨h1,h2,h3,h4,ht,gcd_odd fun h=>eb h.2,h6⟩,rfl,rfl,rfl,trivial⟩
  ·have ma1:a0%2=1:=by have:=hm a;omega
   repeat (first|refine wv ?_|refine wg rfl (sX 0 ga) ?_|refine wg rfl (kD rfl rfl rfl (by decide) (nRem (b:=2) ma1) rfl) ?_|refine wg rfl cF ?_|refine vD rfl rfl rfl rfl rfl rfl ?_|refine wz ?_)
   exact⟨(a,b,t),⟨h1,h2,h3,h4,ht,gcd_odd fun h=>ea h.1,h6⟩,rfl,rfl,rfl,trivial⟩
 ·rintro⟨a,b,t⟩ hI;obtain⟨h1,h2,h3,h4,h5,h6,h7⟩:=hI;dsimp only at h1 h2 h3 h4 h5 h6 h7 ⊢;have hlf:=fun(a:Nat)(h:(toL a).length≤1099511627776)=>left01_v (toL a) t (qX a) h h5;simp only[wK]at hlf;generalize hG:Nat.gcd a b=G at *
  rw[h7];repeat refine wz ?_
  refine wP (fun b:Nat×Nat=>[jV 0 (vN b.1),jV 2 (vN b.2),jI 10 t])
   (fun b=>(toL b.1).length≤1099511627776∧(toL b.2).length≤1099511627776∧Nat.gcd b.1 b.2=G) (fun b=>b.1+b.2) (a,b) (fun _=>rfl) ⟨h3,h4,hG⟩ ⟨rfl,rfl,rfl,trivial⟩ fun⟨a,b⟩ hI=>?_
  obtain⟨i1,i2,i3⟩:=hI;dsimp only at i1 i2 i3 ⊢;rcases mO a with rfl|ha
  ·have q:=hlf b i2;rw[pG3]at i3;repeat (first|refine wg rfl (sL (w9 _)) ?_|refine wv ?_|refine wg rfl cT ?_|refine wg rfl cF ?_|refine wc q ?_|refine vD rfl rfl rfl rfl rfl rfl ?_|refine wz ?_)
   refine⟨.inl rfl,_,rfl,?_⟩;rw[i3]
  have pa:=jH a ha;rcases mO b with rfl|hb
  ·have q:=hlf a i1;rw[pF6]at i3;repeat (first|refine wg rfl (sL (w9 _)) ?_|refine wv ?_|refine wg rfl cT ?_|refine wg rfl cF ?_|refine wc q ?_|refine wz ?_)
   refine⟨.inl rfl,_,rfl,?_⟩;rw[i3]
  have pb:=jH b hb;repeat (first|refine wg rfl (sL (w9 _)) ?_|refine wv ?_|refine wg rfl cT ?_|refine wz ?_)
  refine wQB 4 (fun c:Nat=>[jV 0 (vN c),jV 2 (vN b),jI 10 t]) (fun c=>0<c∧c≤a∧Nat.gcd c b=G) (fun _=>rfl) ?_ ?_
  ·refine wP (fun c:Nat=>[jV 0 (vN c),jV 2 (vN b),jI 10 t]) (fun c=>0<c∧c≤a∧Nat.gcd c b=G) (fun c=>c) a (fun _=>rfl) ⟨ha,pC _,i3⟩ ⟨rfl,rfl,rfl,trivial⟩ fun c hI=>?_;obtain⟨j1,j2,j3⟩:=hI;have pc:=jH c j1;have gc:=kC (toL c) 0 pc;have mc:=low2 c j1;have hc2:=half c (pD (qA j2) i1);generalize (toL c).getD 0 0=c0 at *
   have hm:=dW c;by_cases ec:c%2=0
   ·rw[ec]at mc;repeat (first|refine wv ?_|refine wg rfl (sX 0 gc) ?_|refine wg rfl (kD rfl rfl rfl (by decide) (nRem (b:=2) mc) rfl) ?_|refine wc hc2 ?_|refine wg rfl cT ?_|refine wz ?_)
    exact⟨c/2,⟨by omega,by omega,by rw[qF8 ec (by rw[j3];exact h6),j3]⟩,by omega,rfl,rfl,rfl,trivial⟩
   ·have mc1:c0%2=1:=by omega
    repeat (first|refine wv ?_|refine wg rfl (sX 0 gc) ?_|refine wg rfl (kD rfl rfl rfl (by decide) (nRem (b:=2) mc1) rfl) ?_|refine wg rfl cF ?_|refine wz ?_)
    exact⟨c,⟨j1,j2,j3⟩,rfl,rfl,rfl,trivial⟩
  ·intro c hI;obtain⟨j1,j2,j3⟩:=hI;have lc:=pD (qA j2) i1;repeat refine wz ?_
   refine wQB 6 (fun d:Nat=>[jV 0 (vN c),jV 2 (vN d),jI 10 t]) (fun d=>0<d∧d≤b∧Nat.gcd c d=G) (fun _=>rfl) ?_ ?_
   ·refine wP (fun d:Nat=>[jV 0 (vN c),jV 2 (vN d),jI 10 t]) (fun d=>0<d∧d≤b∧Nat.gcd c d=G) (fun d=>d) b (fun _=>rfl) ⟨hb,pC _,j3⟩ ⟨rfl,rfl,rfl,trivial⟩ fun d hI=>?_;obtain⟨k1,k2,k3⟩:=hI;have pd:=jH d k1;have gd:=kC (toL d) 0 pd;have md:=low2 d k1;have hd2:=half d (pD (qA k2) i2);generalize (toL d).getD 0 0=d0 at *
    have hm:=dW d;by_cases ed:d%2=0
    ·rw[ed]at md;repeat (first|refine wv ?_|refine wg rfl (sX 0 gd) ?_|refine wg rfl (kD rfl rfl rfl (by decide) (nRem (b:=2) md) rfl) ?_|refine wc hd2 ?_|refine wg rfl cT ?_|refine wz ?_)
     exact⟨d/2,⟨by omega,by omega,by rw[fS,qF8 ed (by rw[fS,k3];exact h6),fS,k3]⟩,by omega,rfl,rfl,rfl,trivial⟩
    ·have md1:d0%2=1:=by omega
     repeat (first|refine wv ?_|refine wg rfl (sX 0 gd) ?_|refine wg rfl (kD rfl rfl rfl (by decide) (nRem (b:=2) md1) rfl) ?_|refine wg rfl cF ?_|refine wz ?_)
     exact⟨d,⟨k1,k2,k3⟩,rfl,rfl,rfl,trivial⟩
   ·intro d hI;obtain⟨k1,k2,k3⟩:=hI;have ld:=pD (qA k2) i2;have cm:=cmp01_v (toL c) (toL d) (qX c) (qX d) (by omega) (by omega);simp only[wK]at cm;by_cases hlt:c<d
    ·have hc:zW c d = -1:=by unfold zW;rw[if_pos hlt]
     rw[hc]at cm;have sb:=wQF (toL d) (toL c) (qX d) (qX c) (by omega) (by simp only[wK];omega);simp only[wK]at sb;repeat (first|refine wv ?_|refine wg rfl cF ?_|refine wc cm ?_|refine wc sb ?_|refine wz ?_)
     exact⟨(c,d-c),⟨lc,pD (qA (Nat.sub_le _ _)) ld,by dsimp only;rw[fS,qF7 (by omega),fS,k3]⟩,by dsimp only;omega,rfl,rfl,rfl,trivial⟩
    ·have hc:0≤zW c d:=by unfold zW;rw[if_neg hlt];split<;>decide
     have sb:=wQF (toL c) (toL d) (qX c) (qX d) (by omega) (by simp only[wK];omega);simp only[wK]at sb;generalize zW c d=cc at *
     repeat (first|refine wv ?_|refine wg rfl cT ?_|refine wc cm ?_|refine wc sb ?_|refine wz ?_)
     exact⟨(c-d,d),⟨pD (qA (Nat.sub_le _ _)) lc,ld,by dsimp only;rw[qF7 (by omega),k3]⟩,by dsimp only;omega,rfl,rfl,rfl,trivial⟩
theorem rgcd_v(a b:ZZ)(ha:okZ a)(hb:okZ b):wG Tryz.prog 73 [vI a,vI b] (fun y=>y=nI (Int.gcd (intOf a) (intOf b))):=by
 refine wD wE Tryz.func73 rfl rfl rfl rfl fun w0=>?_;have e1:=kI a;have e2:=kI b;obtain⟨x,l⟩:=a;obtain⟨y,m⟩:=b;obtain⟨h1,h2⟩:=ha;obtain⟨h3,h4⟩:=hb;dsimp only at h1 h2 h3 h4 e1 e2;have q1:=gcd01_v l m h1 h3 h2 h4;have e3:Int.gcd (intOf (x,l)) (intOf (y,m))=Nat.gcd (wC l) (wC m):=by unfold Int.gcd;rw[e1,e2]
 rw[e3];repeat (first|refine wv ?_|refine wc q1 ?_|refine wz ?_)
 exact⟨.inl rfl,_,rfl,nI_of false (Nat.gcd (wC l) (wC m))⟩
def zrow(z:ZZ):List V:=[.bool z.1,vL z.2]
def vZs(zs:List ZZ):V:=.list (zs.map zrow)
theorem kW(zs:List ZZ):(zs.map zrow).length=zs.length:=pH ..
theorem wMJ(x:Int)(z:ZZ)(hx:okZ (zn x))(hz:okZ z):okZ (zn (Int.gcd x (intOf z))):=by
 refine wCJ _ ?_;rw[bE];rcases mO x.natAbs with h|h
 ·have:Int.gcd x (intOf z)=(intOf z).natAbs:=by unfold Int.gcd;rw[h,pG3]
  rw[this];exact pD (wOG z hz) hz.2
 ·have:Int.gcd x (intOf z)≤x.natAbs:=bQ h (pG7 _ _)
  exact pD (qA this) hx.2
def wC4(zs:List ZZ)(x:Int):Int:=zs.foldl (fun g z=>(Int.gcd g (intOf z):Int)) x
theorem foldedG_v(x0:Int)(zs:List ZZ)(hx:okZ (zn x0))(hz:∀z∈zs,okZ z)(hl:zs.length≤1099511627776):wG Tryz.prog 138 [nI x0,vZs zs,.clo 139 [] []] (fun y=>y=nI (wC4 zs x0)):=by
 refine wD wE Tryz.func138 rfl rfl rfl rfl fun w0=>?_;repeat (first|refine wg rfl (sL (kW _)) ?_|refine wv ?_|refine wz ?_)
 refine wP (fun b:Nat×Int=>[jV 4 (.clo 139 [] []),jB 6 3,jC 7 [.v (.bool (zn b.2).1),.v (vL (zn b.2).2)],jB 12 6,jC 13 [.v (.bool false),.nils],jV 18 (vZs zs),jI 20 (zs.length),jI 22 (b.1)])
  (fun b=>b.1≤zs.length∧okZ (zn b.2)∧wC4 (zs.drop b.1) b.2=wC4 zs x0) (fun b=>zs.length-b.1) (0,x0) (fun _=>rfl) ⟨pN _,hx,rfl⟩ ⟨rfl,rfl,rfl,rfl,rfl,rfl,rfl,rfl,trivial⟩ fun⟨j,x⟩ hI=>?_
 obtain⟨h1,h2,h3⟩:=hI;dsimp only at h1 h2 h3 ⊢;rcases pK j zs.length with hj|hj
 ·obtain⟨z,hze⟩:=gE hj;have hzo:=hz z (pF hze);have hg:(zs.map zrow)[j]? = some [.bool z.1,vL z.2]:=by rw[pJ,hze];rfl
  have q:=zgcd1_v (zn x) z h2 hzo;rw[wF]at q;have hd:zs.drop j=z::zs.drop (j+1):=by rw[bM hj];rw[pG hj]at hze;cases hze;rfl
  rw[hd]at h3;have hok:=wMJ x z h2 hzo;repeat (first|refine wv ?_|refine wg rfl cT ?_|refine wg rfl sB ?_|refine wg rfl (sX j hg) ?_|refine wc q ?_|refine wz ?_)
  exact⟨(j+1,(Int.gcd x (intOf z):Int)),⟨hj,hok,h3⟩,by dsimp only;omega,rfl,rfl,rfl,rfl,rfl,rfl,rfl,rfl,trivial⟩
 ·rw[mA hj]at h3;repeat (first|refine wv ?_|refine wg rfl cF ?_|refine wz ?_)
  refine⟨.inl rfl,_,rfl,?_⟩;rw[←h3];exact rfl
theorem wO4(zs:List ZZ)(hz:∀z∈zs,okZ z)(hl:zs.length≤1099511627776):wG Tryz.prog 86 [vZs zs] (fun y=>y=nI (wC4 zs 0)):=by
 refine wD wE Tryz.func86 rfl rfl rfl rfl fun w0=>?_;have q:=foldedG_v 0 zs (wCJ 0 (by simp[qW])) hz hl;have e0:nI 0=.agg [.bool false,.list []]:=by unfold nI vI zn;simp[qW,vL,uL]
 rw[e0]at q;repeat (first|refine wv ?_|refine wc q ?_|refine wz ?_)
 exact⟨.inl rfl,_,rfl,rfl⟩
abbrev QQ:=ZZ×ZZ
def vQ(q:QQ):V:=.agg [.bool q.1.1,vL q.1.2,.bool q.2.1,vL q.2.2]
def okQ(q:QQ):Prop:=okZ q.1∧okZ q.2
def wX(q:QQ):Rat:=Rat.divInt (intOf q.1) (intOf q.2)
def qn(x:Rat):QQ:=(zn x.num,zn x.den)
def nR(x:Rat):V:=vQ (qn x)
theorem ratOf_qn(x:Rat):wX (qn x)=x:=by unfold wX qn;rw[wF,wF];exact fB x
theorem wH7(n d:Int)(h:0<d):(Rat.divInt n d).num=n.tdiv (Int.gcd n d)∧((Rat.divInt n d).den:Int)=d.tdiv (Int.gcd n d):=by have h1:((Int.gcd n d:Nat):Int)∣n:=fM ..;have h2:((Int.gcd n d:Nat):Int)∣d:=fG ..;rw[Rat.num_divInt,Rat.den_divInt,Int.gcd_comm d n,Int.tdiv_eq_ediv_of_dvd h1,Int.tdiv_eq_ediv_of_dvd h2,Int.sign_eq_one_of_pos h,Int.one_mul,if_neg (by omega)];refine⟨rfl,?_⟩;rw[pD0,Int.natAbs_of_nonneg (by omega)]
theorem qEA(n d:Int)(h:d<0):(Rat.divInt n d).num=n.tdiv (-(Int.gcd n d:Int))∧((Rat.divInt n d).den:Int)=d.tdiv (-(Int.gcd n d:Int)):=by have e:Rat.divInt n d=Rat.divInt (-n) (-d):=(Rat.divInt_eq_divInt_iff (by omega) (by omega)).2 (by rw[pC6,pF0]);have:=wH7 (-n) (-d) (by omega);rw[←e,Int.neg_gcd,Int.gcd_neg,Int.neg_tdiv,Int.neg_tdiv]at this;rw[Int.tdiv_neg,Int.tdiv_neg];exact this
theorem foldG2(a b:ZZ):wC4 [a,b] 0=(Int.gcd (intOf a) (intOf b):Int):=by simp only[wC4,List.foldl_cons,List.foldl_nil];congr 1;unfold Int.gcd;simp
theorem okZ_dvd(x y:Int)(h:x.natAbs≤y.natAbs)(hy:okZ (zn y)):okZ (zn x):=wCJ x (pD (qA h) hy.2)
theorem nR_eq(x:Rat)(a b:Int)(h:x.num=a∧(x.den:Int)=b):nR x=.agg [.bool (zn a).1,vL (zn a).2,.bool (zn b).1,vL (zn b).2]:=by unfold nR qn;rw[h.1,h.2];rfl
theorem make_v(a b:ZZ)(ha:okZ a)(hb:okZ b)(h0:intOf b≠0):wG Tryz.prog 132 [vI a,vI b] (fun y=>y=.tup [nR (Rat.divInt (intOf a) (intOf b)),.int .i64 0]):=by
 refine wD wE Tryz.func132 rfl rfl rfl rfl fun w0=>?_;have q1:=wEA b hb;have q2:=wO4 [a,b] (fun z h=>by rcases pU.1 h with rfl|h;exact ha;rw[pP.1 h];exact hb) (by simp);rw[foldG2]at q2;have og:=wMJ (intOf a) b (wDC a ha) hb;have hgd:=bS (intOf a) h0;have h1:((Int.gcd (intOf a) (intOf b):Nat):Int)∣intOf a:=fM ..;have h2:((Int.gcd (intOf a) (intOf b):Nat):Int)∣intOf b:=fG ..;have hmp:=wH7 (intOf a) (intOf b);have hmn:=qEA (intOf a) (intOf b);have q3:=zneg_v (zn (Int.gcd (intOf a) (intOf b))) og;have on:=wMI (zn (Int.gcd (intOf a) (intOf b))) og;rw[wF]at q3 on;generalize hg:((Int.gcd (intOf a) (intOf b):Nat):Int)=g at *
 have hg0:0<g:=by omega
 rcases pF7 h0 with hlt|hgt
 ·have e:sgn (intOf b) = -1:=by unfold sgn;rw[if_pos hlt]
  rw[e]at q1;have q4:=wAD a (zn (-g)) ha on (by rw[wF];omega) (by rw[wF];exact pI1.2 h1);have q5:=wAD b (zn (-g)) hb on (by rw[wF];omega) (by rw[wF];exact pI1.2 h2);rw[wF]at q4 q5;rw[nR_eq _ _ _ (hmn hlt)];obtain⟨x,l⟩:=a;obtain⟨y,m⟩:=b;repeat (first|refine wv ?_|refine wg rfl cT ?_|refine wg rfl cF ?_|refine wc q1 ?_|refine wh q2 ?_|refine wc q3 ?_|refine wc q4 ?_|refine wc q5 ?_|refine wz ?_)
  exact⟨.inl rfl,_,rfl,rfl⟩
 ·have e:sgn (intOf b)=1:=by unfold sgn;rw[if_neg (by omega),if_pos hgt]
  rw[e]at q1;have q4:=wAD a (zn g) ha og (by rw[wF];omega) (by rw[wF];exact h1);have q5:=wAD b (zn g) hb og (by rw[wF];omega) (by rw[wF];exact h2);rw[wF]at q4 q5;rw[nR_eq _ _ _ (hmp hgt)];obtain⟨x,l⟩:=a;obtain⟨y,m⟩:=b;repeat (first|refine wv ?_|refine wg rfl cF ?_|refine wc q1 ?_|refine wh q2 ?_|refine wc q4 ?_|refine wc q5 ?_|refine wz ?_)
  exact⟨.inl rfl,_,rfl,rfl⟩
theorem ratNorm_v(q:QQ)(h:okQ q)(h0:intOf q.2≠0):wG Tryz.prog 160 [vQ q] (fun y=>y=.tup [nR (wX q),.int .i64 0]):=by
 refine wD wE Tryz.func160 rfl rfl rfl rfl fun w0=>?_;have q1:=make_v q.1 q.2 h.1 h.2 h0;obtain⟨⟨x,l⟩,⟨y,m⟩⟩:=q;repeat (first|refine wv ?_|refine wc q1 ?_|refine wz ?_)
 exact⟨.inl rfl,_,rfl,rfl⟩
theorem wIG(a b:ZZ)(ha:okZ a)(hb:okZ b)(h0:intOf b≠0):wG Tryz.prog 38 [vI a,vI b] (fun y=>y=nR (Rat.divInt (intOf a) (intOf b))):=by
 refine wD wE Tryz.func38 rfl rfl rfl rfl fun w0=>?_;have q1:=wID b hb;rcases pF7 h0 with hlt|hgt
 ·have e:sgn (intOf b) = -1:=by unfold sgn;rw[if_pos hlt]
  rw[e]at q1;have n1:=qA2 a ha;have n2:=qA2 b hb;have oa:=wMI a ha;have ob:=wMI b hb;have ee:Rat.divInt (intOf a) (intOf b)=Rat.divInt (-intOf a) (-intOf b):=(Rat.divInt_eq_divInt_iff (by omega) (by omega)).2 (by rw[pC6,pF0]);have q2:=rgcd_v (zn (-intOf a)) (zn (-intOf b)) oa ob;have og:=wMJ (-intOf a) (zn (-intOf b)) oa ob;rw[wF]at q2 og;rw[wF]at q2;rw[ee];have hd0:0 < -intOf b:=by omega
  generalize -intOf a=X at *
  generalize -intOf b=Y at *
  have hgd:=bS X (show Y≠0 by omega);have h1:((Int.gcd X Y:Nat):Int)∣X:=fM ..;have h2:((Int.gcd X Y:Nat):Int)∣Y:=fG ..;have hmp:=wH7 X Y hd0;generalize hg:((Int.gcd X Y:Nat):Int)=g at *
  have q4:=wGF (zn X) (zn g) oa og (by rw[wF];omega) (by rw[wF,wF];exact h1);have q5:=wGF (zn Y) (zn g) ob og (by rw[wF];omega) (by rw[wF,wF];exact h2);rw[wF,wF]at q4 q5;rw[nR_eq _ _ _ hmp];obtain⟨x,l⟩:=a;obtain⟨y,m⟩:=b;repeat (first|refine wv ?_|refine wg rfl cT ?_|refine wc q1 ?_|refine wc n1 ?_|refine wc n2 ?_|refine wc q2 ?_|refine wc q4 ?_|refine wc q5 ?_|refine wz ?_)
  exact⟨.inl rfl,_,rfl,rfl⟩
 ·have e:sgn (intOf b)=1:=by unfold sgn;rw[if_neg (by omega),if_pos hgt]
  rw[e]at q1;have q2:=rgcd_v a b ha hb;have og:=wMJ (intOf a) b (wDC a ha) hb;have hgd:=bS (intOf a) h0;have h1:((Int.gcd (intOf a) (intOf b):Nat):Int)∣intOf a:=fM ..;have h2:((Int.gcd (intOf a) (intOf b):Nat):Int)∣intOf b:=fG ..;have hmp:=wH7 (intOf a) (intOf b) hgt;generalize hg:((Int.gcd (intOf a) (intOf b):Nat):Int)=g at *
  have q4:=wGF a (zn g) ha og (by rw[wF];omega) (by rw[wF];exact h1);have q5:=wGF b (zn g) hb og (by rw[wF];omega) (by rw[wF];exact h2);rw[wF]at q4 q5;rw[nR_eq _ _ _ hmp];obtain⟨x,l⟩:=a;obtain⟨y,m⟩:=b;repeat (first|refine wv ?_|refine wg rfl cF ?_|refine wc q1 ?_|refine wc q2 ?_|refine wc q4 ?_|refine wc q5 ?_|refine wz ?_)
  exact⟨.inl rfl,_,rfl,rfl⟩
theorem wX4(q:QQ)(h:okQ q)(h0:intOf q.2≠0):wG Tryz.prog 78 [vQ q] (fun y=>y=nR (wX q)):=by
 refine wD wE Tryz.func78 rfl rfl rfl rfl fun w0=>?_;have q1:=wIG q.1 q.2 h.1 h.2 h0;obtain⟨⟨x,l⟩,⟨y,m⟩⟩:=q;repeat (first|refine wv ?_|refine wc q1 ?_|refine wz ?_)
 exact⟨.inl rfl,_,rfl,rfl⟩
theorem zof_v(n:Nat)(hn:n<9223372036854775808):wG Tryz.prog 91 [.int .i64 (n:Nat)] (fun y=>y=nI n):=by
 refine wD wE Tryz.func91 rfl rfl rfl rfl fun w0=>?_;have q1:=natOf_v n (by omega);have q2:=xT false n;repeat (first|refine wv ?_|refine wg rfl cF ?_|refine wg rfl (qN wE rfl rfl rfl rfl (jU (by omega) (by omega)) rfl) ?_|refine wc q1 ?_|refine wc q2 ?_|refine wz ?_)
 exact⟨.inl rfl,_,rfl,rfl⟩
theorem rof_v(n:Nat)(hn:n<9223372036854775808):wG Tryz.prog 32 [.int .i64 (n:Nat)] (fun y=>y=nI n):=by
 refine wD wE Tryz.func32 rfl rfl rfl rfl fun w0=>?_;have q1:=of01_v n (by omega);repeat (first|refine wv ?_|refine wg rfl cT ?_|refine wg rfl (qN wE rfl rfl rfl rfl (jU (by omega) (by omega)) rfl) ?_|refine wc q1 ?_|refine wz ?_)
 exact⟨.inl rfl,_,rfl,nI_of false n⟩
end Go.Proofs.YtdcjmnfngabhoaaGreat
