/- Elimination without fractions and with them: what is divided is divided without a rest, and both come to the same inverse. -/
import Derived.Test.YtdcjmnfngabhoaaGreatCc01
set_option linter.all false
set_option maxRecDepth 20000
set_option maxHeartbeats 6400000
set_option linter.all false
namespace Go.Dt
def sm:Nat→(Nat→Rat)→Rat
 |0,_=>0
 |n+1,f=>sm n f+f n
theorem sm_congr{n:Nat}{f g:Nat→Rat}(h:∀i,i<n→f i=g i):sm n f=sm n g:=by
 induction n with
 |zero=>rfl
 |succ n ih=>show sm n f+f n=sm n g+g n;rw[ih fun i hi=>h i (by omega),h n (by omega)]
theorem wS5(n:Nat)(f g:Nat→Rat):sm n (fun i=>f i+g i)=sm n f+sm n g:=by
 induction n with
 |zero=>show(0:Rat)=0+0;grind
 |succ n ih=>
  show sm n _+_=(sm n f+f n)+(sm n g+g n)
  rw[ih];grind
theorem xO(n:Nat)(c:Rat)(f:Nat→Rat):sm n (fun i=>c*f i)=c*sm n f:=by
 induction n with
 |zero=>show(0:Rat)=c*0;grind
 |succ n ih=>
  show sm n _+_=c*(sm n f+f n)
  rw[ih];grind
theorem wM0(n:Nat){f:Nat→Rat}(h:∀i,i<n→f i=0):sm n f=0:=by
 induction n with
 |zero=>rfl
 |succ n ih=>show sm n f+f n=0;rw[ih fun i hi=>h i (by omega),h n (by omega)];grind
theorem wZC(n k:Nat)(hk:k<n)(f:Nat→Rat)(h:∀i,i<n→i≠k→f i=0):sm n f=f k:=by
 induction n with
 |zero=>omega
 |succ n ih=>
  show sm n f+f n=f k;by_cases e:k=n
  ·subst e;rw[wM0 k fun i hi=>h i (by omega) (by omega)];grind
  ·rw[ih (by omega) fun i hi=>h i (by omega),h n (by omega) (fun x=>e x.symm)];grind
theorem sm_swap(n m:Nat)(f:Nat→Nat→Rat):sm n (fun i=>sm m (f i))=sm m fun j=>sm n fun i=>f i j:=by
 induction n with
 |zero=>exact(wM0 m fun _ _=>rfl).symm
 |succ n ih=>show sm n _+sm m (f n)=sm m fun j=>sm n (fun i=>f i j)+f n j;rw[ih,wS5]
def sg:Nat→Rat
 |0=>1
 |j+1=>- sg j
def skip(j k:Nat):Nat:=if k<j then k else k+1
def det:Nat→(Nat→Nat→Rat)→Rat
 |0,_=>1
 |n+1,A=>sm (n+1) fun j=>sg j*A 0 j*det n fun i k=>A (i+1) (skip j k)
theorem wM1{j k n:Nat}(hk:k<n):skip j k<n+1:=by unfold skip;split<;>omega
theorem kJ{n:Nat}:∀{A B:Nat→Nat→Rat},(∀i,i<n→∀j,j<n→A i j=B i j)→det n A=det n B:=by
 induction n with
 |zero=>intros;rfl
 |succ n ih=>intro A B h;refine sm_congr fun j hj=>?_;rw[h 0 (by omega) j hj,ih fun i hi k hk=>h (i+1) (by omega) _ (wM1 hk)]
theorem wNG{n:Nat}:∀{A B C:Nat→Nat→Rat}(r:Nat)(x y:Rat),r<n→(∀j,j<n→A r j=x*B r j+y*C r j)→(∀i,i<n→i≠r→∀j,j<n→A i j=B i j∧A i j=C i j)→det n A=x*det n B+y*det n C:=by
 induction n with
 |zero=>intro A B C r x y h;omega
 | succ n ih=>
  intro A B C r x y hr h1 h2;simp only[det];rw[←xO,←xO,←wS5];refine sm_congr fun j hj=>?_;cases r with
  | zero=>
   have e1:det n (fun i k=>A (i+1) (skip j k))=det n fun i k=>B (i+1) (skip j k):=kJ fun i hi k hk=>(h2 (i+1) (by omega) (by omega) _ (wM1 hk)).1;have e2:det n (fun i k=>C (i+1) (skip j k))=det n fun i k=>B (i+1) (skip j k):=kJ fun i hi k hk=>by have:=h2 (i+1) (by omega) (by omega) _ (wM1 (j:=j) hk);rw[←this.1,←this.2]
   rw[e1,e2,h1 j hj]
   grind
  |succ r=>
   have:=ih (A:=fun i k=>A (i+1) (skip j k)) (B:=fun i k=>B (i+1) (skip j k)) (C:=fun i k=>C (i+1) (skip j k)) r x y (by omega) (fun k hk=>h1 _ (wM1 hk)) (fun i hi hne k hk=>h2 (i+1) (by omega) (by omega) _ (wM1 hk));rw[this];have h0:=h2 0 (by omega) (by omega) j hj;rw[←h0.1,←h0.2]
   grind
theorem pairs(F:Nat→Nat→Rat)(h:∀j k,k<j→F j k+F k (j-1)=0):∀N,sm (N+1) (fun j=>sm N (F j))=0
 |0=>by show(0:Rat)+0=0;grind
 | N+1=>by
  show sm (N+1) (fun j=>sm N (F j)+F j N)+sm (N+1) (F (N+1))=0;rw[wS5,pairs F h N]
  have:sm (N+1) (fun k=>F k N+F (N+1) k)=0:=wM0 _ fun k hk=>by
   have:=h (N+1) k hk;rw[pB5]at this
   grind
  rw[wS5]at this
  grind
theorem sg_pair(j k:Nat)(h:k<j):sg (j-1) = - sg j:=by
 cases j with
 |zero=>omega
 |succ j=>show sg j = - - sg j;grind
theorem skip2{j k l:Nat}(h:k<j):skip j (skip k l)=skip k (skip (j-1) l):=by
 unfold skip
 repeat' split
 all_goals omega
theorem wY6(n:Nat)(A:Nat→Nat→Rat)(h:∀j,A 0 j=A 1 j):det (n+2) A=0:=by
 have e:det (n+2) A=sm (n+2) fun j=>sm (n+1) fun k=>sg j*sg k*A 0 j*A 0 (skip j k)*det n fun i l=>A (i+2) (skip j (skip k l)):=by
  refine sm_congr fun j _=>?_;simp only[det];rw[←xO];refine sm_congr fun k _=>?_;rw[h (skip j k)]
  grind
 rw[e];refine pairs _ (fun j k hk=>?_) (n+1);have e1:skip j k=k:=by unfold skip;rw[if_pos hk]
 have e2:skip k (j-1)=j:=by unfold skip;rw[if_neg (by omega)];omega
 have e3:(fun i l=>A (i+2) (skip j (skip k l)))=fun i l=>A (i+2) (skip k (skip (j-1) l)):=by funext i l;rw[skip2 hk]
 rw[e1,e2,e3,sg_pair j k hk]
 grind
theorem det_alt{n:Nat}:∀(A:Nat→Nat→Rat)(a b:Nat),a<b→b<n→(∀j,A a j=A b j)→det n A=0:=by
 induction n with
 |zero=>intro A a b _ hb;omega
 | succ n ih=>
  intro A a b hab hb h;have hup:∀(B:Nat→Nat→Rat)(a b:Nat),a<b→b<n→(∀j,B (a+1) j=B (b+1) j)→det (n+1) B=0:=by
   intro B a b hab hb h;refine wM0 _ fun j _=>?_;rw[ih (fun i k=>B (i+1) (skip j k)) a b hab hb fun k=>h _]
   grind
  cases a with
  |succ a=>
   obtain⟨b,rfl⟩:∃c,b=c+1:=⟨b-1,by omega⟩
   exact hup A a b (by omega) (by omega) h
  | zero=>
   obtain⟨b,rfl⟩:∃c,b=c+1:=⟨b-1,by omega⟩
   cases b with
   |zero=>
    obtain⟨m,rfl⟩:∃m,n=m+1:=⟨n-1,by omega⟩
    exact wY6 m A h
   | succ b=>
    obtain⟨m,rfl⟩:∃m,n=m+1:=⟨n-1,by omega⟩
    let R:(Nat→Rat)→(Nat→Rat)→Nat→Nat→Rat:=fun p q i j=>if i=1 then p j else if i=b+2 then q j else A i j
    have hA:A=R (A 1) (A (b+2)):=by
     funext i j;show A i j=if i=1 then A 1 j else if i=b+2 then A (b+2) j else A i j
     split
     ·next e=>rw[e]
     ·split
      ·next e=>rw[e]
      ·rfl
    have hz:∀p,det (m+2) (R p p)=0:=fun p=>hup _ 0 (b+1) (by omega) (by omega) fun j=>by
     show(if 0+1=1 then p j else _)=if b+1+1=1 then p j else if b+1+1=b+2 then p j else _
     rw[if_pos rfl,if_neg (by omega),if_pos rfl]
    have hl1:∀p p' q,det (m+2) (R (fun j=>p j+p' j) q)=det (m+2) (R p q)+det (m+2) (R p' q):=fun p p' q=>by have:=wNG (n:=m+2) (A:=R (fun j=>p j+p' j) q) (B:=R p q) (C:=R p' q) 1 1 1 (by omega) (fun j _=>by simp only[R,if_true];grind) (fun i _ hne j _=>by simp only[R,if_neg hne,and_self]);rw[this];grind
    have hl2:∀p q q',det (m+2) (R p (fun j=>q j+q' j))=det (m+2) (R p q)+det (m+2) (R p q'):=fun p q q'=>by
     have:=wNG (n:=m+2) (A:=R p (fun j=>q j+q' j)) (B:=R p q) (C:=R p q') (b+2) 1 1 (by omega) (fun j _=>by
      have:¬b+2=1:=by omega
      simp only[R,if_neg this,if_true];grind) (fun i _ hne j _=>by simp only[R,if_neg hne,and_self])
     rw[this];grind
    have h1:=hz fun j=>A 1 j+A (b+2) j;rw[hl1,hl2,hl2,hz (A 1),hz (A (b+2))]at h1;have h2:det (m+2) (R (A (b+2)) (A 1))=0:=wY6 m _ fun j=>by
     show(if 0=1 then _ else if 0=b+2 then _ else A 0 j)=if 1=1 then A (b+2) j else _
     rw[if_neg (by omega),if_neg (by omega),if_pos rfl];exact h j
    rw[hA]
    have:A (b+1+1)=A (b+2):=rfl
    grind
theorem wR8{n:Nat}{M M':Nat→Nat→Rat}(t q:Nat)(s c:Rat)(ht:t<n)(hq:q<n)(hne:t≠q)(h1:∀j,M' t j=s*M t j+c*M q j)(h2:∀i,i≠t→∀j,M' i j=M i j):det n M'=s*det n M:=by
 have:=wNG (n:=n) (A:=M') (B:=M) (C:=fun i j=>if i=t then M q j else M i j) t s c ht (fun j _=>by rw[h1 j,if_pos rfl]) (fun i _ hi j _=>⟨h2 i hi j,by rw[if_neg hi];exact h2 i hi j⟩);rw[this];have hz:det n (fun i j=>if i=t then M q j else M i j)=0:=by
  rcases pB6 hne with hlt|hlt
  ·exact det_alt _ t q hlt hq fun j=>by rw[if_pos rfl,if_neg (bB hne)]
  ·exact det_alt _ q t hlt ht fun j=>by rw[if_pos rfl,if_neg (bB hne)]
 rw[hz];grind
def but(q:Nat):Nat→Nat
 |0=>0
 |T+1=>if T=q then but q T else but q T+1
theorem but_ne{q T:Nat}(h:T≠q):but q (T+1)=but q T+1:=if_neg h
theorem but_eq{q T:Nat}(h:T=q):but q (T+1)=but q T:=if_pos h
theorem but_lt{q:Nat}:∀{T:Nat},T≤q→but q T=T
 |0,_=>rfl
 |T+1,h=>by rw[but_ne (by omega),but_lt (by omega)]
theorem but_gt{q:Nat}:∀{T:Nat},q<T→but q T+1=T
 |0,h=>by omega
 |T+1,h=>by
  by_cases e:T=q
  ·rw[but_eq e,but_lt (by omega)]
  ·rw[but_ne e,but_gt (by omega)]
theorem qB8{n:Nat}{M M':Nat→Nat→Rat}(q:Nat)(s:Rat)(c:Nat→Rat)(hq:q<n)(h1:∀t,t≠q→∀j,M' t j=s*M t j+c t*M q j)(h2:∀j,M' q j=M q j):det n M'=s^(n-1)*det n M:=by
 have key:∀T,T≤n→det n (fun i j=>if i<T then M' i j else M i j)=s^but q T*det n M:=by
  intro T
  induction T with
  |zero=>intro _;rw[kJ (B:=M) fun i _ j _=>by rw[if_neg (by omega)]];simp[but]
  | succ T ih=>
   intro hT;by_cases e:T=q
   ·have:det n (fun i j=>if i<T+1 then M' i j else M i j)=det n (fun i j=>if i<T then M' i j else M i j):=kJ fun i _ j _=>by
     by_cases hi:i<T
     ·rw[if_pos hi,if_pos (by omega)]
     ·by_cases hi2:i=T
      ·subst hi2 e;rw[if_pos (by omega),if_neg (by omega)];exact h2 j
      ·rw[if_neg (by omega),if_neg hi]
    rw[this,ih (by omega),but_eq e]
   ·have:=wR8 (n:=n) (M:=fun i j=>if i<T then M' i j else M i j) (M':=fun i j=>if i<T+1 then M' i j else M i j) T q s (c T) (by omega) hq e
     (fun j=>by
      rw[if_pos (by omega),if_neg (by omega),h1 T e j];by_cases hqT:q<T
      ·rw[if_pos hqT,h2 j]
      ·rw[if_neg hqT])
     (fun i hi j=>by
      by_cases h:i<T
      ·rw[if_pos h,if_pos (by omega)]
      ·rw[if_neg h,if_neg (by omega)])
    rw[this,ih (by omega),but_ne e,fO]
    grind
 have hk:=key n (pC _);have hb:=but_gt hq;rw[kJ (B:=M') fun i hi j _=>by rw[if_pos hi]]at hk;rw[hk];congr 2;omega
theorem det_id:∀n,det n (fun i j=>if i=j then 1 else 0)=1
 |0=>rfl
 | n+1=>by
  show sm (n+1) _=1;rw[wZC (n+1) 0 (by omega) _ fun j _ hj=>by
   have:(if 0=j then(1:Rat)else 0)=0:=if_neg (fun e=>hj e.symm)
   dsimp only;rw[this];grind]
  have:det n (fun i k=>if i+1=skip 0 k then(1:Rat)else 0)=1:=by refine Eq.trans (kJ fun i _ k _=>?_) (det_id n);simp[skip]
  show sg 0*(if 0=0 then(1:Rat)else 0)*det n (fun i k=>if i+1=skip 0 k then(1:Rat)else 0)=1;rw[this,if_pos rfl];show(1:Rat)*1*1=1
  grind
theorem wP3{n:Nat}{M M':Nat→Nat→Rat}(q:Nat)(s:Rat)(hq:q<n)(h1:∀j,M' q j=s*M q j)(h2:∀t,t≠q→∀j,M' t j=M t j):det n M'=s*det n M:=by have:=wNG (n:=n) (A:=M') (B:=M) (C:=M') q s 0 hq (fun j _=>by rw[h1 j];grind) (fun i _ hi j _=>⟨h2 i hi j,rfl⟩);rw[this];grind
theorem qB9{n:Nat}(i:Nat)(d:Rat)(v:Nat→Rat)(hi:i<n):det n (fun t s=>if s=i then v t else if t=s then d else 0)=d^(n-1)*v i:=by
 have e1:=qB8 (n:=n) (M:=fun t s=>if t=s then 1 else 0) (M':=fun t s=>if t=i then(if s=i then 1 else 0)else if s=i then v t else if t=s then d else 0) i d v hi
  (fun t ht j=>by
   rw[if_neg ht];by_cases hj:j=i
   ·subst hj;rw[if_pos rfl,if_neg ht,if_pos rfl];grind
   ·rw[if_neg hj,if_neg (show ¬i=j from fun e=>hj e.symm)];by_cases htj:t=j
    ·rw[if_pos htj,if_pos htj];grind
    ·rw[if_neg htj,if_neg htj];grind)
  (fun j=>by
   rw[if_pos rfl];by_cases hj:j=i
   ·rw[if_pos hj,if_pos hj.symm]
   ·rw[if_neg hj,if_neg (show ¬i=j from fun e=>hj e.symm)])
 rw[det_id]at e1;have e2:=wP3 (n:=n) (M:=fun t s=>if t=i then(if s=i then 1 else 0)else if s=i then v t else if t=s then d else 0) (M':=fun t s=>if s=i then v t else if t=s then d else 0) i (v i) hi
  (fun j=>by
   rw[if_pos rfl];by_cases hj:j=i
   ·rw[if_pos hj,if_pos hj];grind
   ·rw[if_neg hj,if_neg hj,if_neg (show ¬i=j from fun e=>hj e.symm)];grind)
  (fun t ht j=>by rw[if_neg ht])
 rw[e2,e1];grind
theorem sm_int{n:Nat}{f:Nat→Rat}(h:∀i,i<n→∃z:Int,f i=z):∃z:Int,sm n f=z:=by
 induction n with
 |zero=>exact⟨0,rfl⟩
 |succ n ih=>obtain⟨x,hx⟩:=ih fun i hi=>h i (by omega);obtain⟨y,hy⟩:=h n (by omega);exact⟨x+y,by show sm n f+f n=_;rw[hx,hy,pH2]⟩
theorem sg_int:∀j,∃z:Int,sg j=z
 |0=>⟨1,rfl⟩
 |j+1=>by obtain⟨z,hz⟩:=sg_int j;exact⟨-z,by show-sg j=_;rw[hz,Rat.intCast_neg]⟩
theorem sm_bd{n T:Nat}{f:Nat→Rat}(h:∀i,i<n→∃z:Int,f i=z∧z.natAbs≤T):∃z:Int,sm n f=z∧z.natAbs≤n*T:=by
 induction n with
 |zero=>exact⟨0,rfl,pN _⟩
 |succ n ih=>obtain⟨x,hx,hx2⟩:=ih fun i hi=>h i (by omega);obtain⟨y,hy,hy2⟩:=h n (by omega);refine⟨x+y,by show sm n f+f n=_;rw[hx,hy,pH2],?_⟩;rw[dY];omega
theorem sg_bd:∀j,∃z:Int,sg j=z∧z.natAbs≤1
 |0=>⟨1,rfl,pC _⟩
 |j+1=>by obtain⟨z,hz,h⟩:=sg_bd j;exact⟨-z,by show-sg j=_;rw[hz,Rat.intCast_neg],by omega⟩
theorem det_bd{B N:Nat}{n:Nat}:∀{A:Nat→Nat→Rat},n≤N→(∀i j,∃z:Int,A i j=z∧z.natAbs≤B)→∃z:Int,det n A=z∧z.natAbs≤(N*B)^n:=by
 induction n with
 |zero=>intro A _ _;exact⟨1,rfl,pC _⟩
 | succ n ih=>
  intro A hN h
  have:∃z:Int,det (n+1) A=z∧z.natAbs≤(n+1)*(B*(N*B)^n):=by refine sm_bd fun j _=>?_;obtain⟨x,hx,hx2⟩:=sg_bd j;obtain⟨y,hy,hy2⟩:=h 0 j;obtain⟨z,hz,hz2⟩:=ih (A:=fun i k=>A (i+1) (skip j k)) (by omega) fun i k=>h _ _;refine⟨x*y*z,by rw[hx,hy,hz,dJ,dJ],?_⟩;rw[pE9,pE9];refine dR ?_ hz2;have:=dR hx2 hy2;omega
  obtain⟨z,hz,hz2⟩:=this;refine⟨z,hz,pD hz2 ?_⟩;rw[mS,mL ((N*B)^n),←mJ];exact mR _ (mR _ hN)
theorem det_int{n:Nat}:∀{A:Nat→Nat→Rat},(∀i j,∃z:Int,A i j=z)→∃z:Int,det n A=z:=by
 induction n with
 |zero=>intro A _;exact⟨1,rfl⟩
 |succ n ih=>intro A h;refine sm_int fun j _=>?_;obtain⟨x,hx⟩:=sg_int j;obtain⟨y,hy⟩:=h 0 j;obtain⟨z,hz⟩:=ih (A:=fun i k=>A (i+1) (skip j k)) fun i k=>h _ _;exact⟨x*y*z,by rw[hx,hy,hz,dJ,dJ]⟩
def rho(k:Nat)(ro:Nat→Nat)(i:Nat):Nat:=if i<k then i else ro (i-k)
theorem wCH{k i:Nat}{ro:Nat→Nat}(h:i<k):rho k ro i=i:=by unfold rho;rw[if_pos h]
theorem wF5{k i:Nat}{ro:Nat→Nat}(h:k≤i):rho k ro i=ro (i-k):=by unfold rho;rw[if_neg (by omega)]
structure Elim(A W:Nat→Nat→Int)(k:Nat)(pv:Nat→Nat)(d:Int):Prop where
 d0:d≠0
 dt:∀(r:Nat)(ro C:Nat→Nat),(∀t,k≤ro t)→(d:Rat)*det (k+r) (fun i j=>(W (rho k ro i) (C j):Rat))=(d:Rat)^(k+r)*det (k+r) (fun i j=>(A (rho k ro i) (C j):Rat))
 pv:∀s,s<k→∀i,W i (pv s)=if i=s then d else 0
 bd:∀B N:Nat,k+1≤N→1≤B→(∀i j,(A i j).natAbs≤B)→∀i j,(W i j).natAbs≤(N*B)^(k+1)
theorem Elim.start(A:Nat→Nat→Int)(pv:Nat→Nat):Elim A A 0 pv 1:=
 ⟨by decide,fun r ro C _=>by
  have h1:((1:Int):Rat)=1:=rfl
  have:∀n:Nat,(1:Rat)^n=1:=fun n=>by
   induction n with
   |zero=>exact pG4 _
   |succ n ih=>rw[fO,ih];grind
  rw[h1,this],fun s h=>by omega,fun B N hN _ h i j=>by
  rw[Nat.pow_one];exact pD (h i j) (Nat.le_mul_of_pos_left _ (by omega))⟩
theorem Elim.swap{A W:Nat→Nat→Int}{k:Nat}{pv:Nat→Nat}{d:Int}(h:Elim A W k pv d)(σ:Nat→Nat)(h1:∀i,i<k→σ i=i)(h2:∀i,k≤i→k≤σ i)(h3:∀i,σ (σ i)=i):Elim (fun i=>A (σ i)) (fun i=>W (σ i)) k pv d:=by
 have hr:∀ro:Nat→Nat,(∀t,k≤ro t)→∀i,σ (rho k ro i)=rho k (fun t=>σ (ro t)) i:=fun ro hro i=>by
  by_cases hi:i<k
  ·rw[wCH hi,wCH hi,h1 i hi]
  ·rw[wF5 (by omega),wF5 (by omega)]
 refine⟨h.d0,fun r ro C hro=>?_,fun s hs i=>?_,fun B N hN hB hA i j=>h.bd B N hN hB (fun i j=>by have:=hA (σ i) j;rwa [h3]at this) (σ i) j⟩
 ·have:=h.dt r (fun t=>σ (ro t)) C fun t=>h2 _ (hro t);simp only[hr ro hro];exact this
 ·show W (σ i) (pv s)=_;rw[h.pv s hs];by_cases hi:i<k
  ·rw[h1 i hi]
  ·have:=h2 i (by omega);rw[if_neg (by omega),if_neg (by omega)]
theorem rat0{x:Int}(h:x≠0):(x:Rat)≠0:=fun e=>h (bL.1 (e.trans rfl))
theorem pow_div(p d:Rat)(hd:d≠0)(n:Nat):(p/d)^n*d^n=p^n:=by
 induction n with
 |zero=>simp only[Rat.pow_zero];grind
 |succ n ih=>
  rw[fO,fO,fO,←ih]
  have:p/d*d=p:=fP hd
  grind
theorem wT3(d:Rat)(hd:d≠0)(n:Nat):d^n≠0:=by
 induction n with
 |zero=>rw[pG4];decide
 |succ n ih=>
  rw[fO];intro h;rcases bD.1 h with h|h
  ·exact ih h
  ·exact hd h
theorem Elim.step{A W:Nat→Nat→Int}{k:Nat}{pv:Nat→Nat}{d:Int}(h:Elim A W k pv d)(c:Nat)(hp:W k c≠0) :
  ∃W':Nat→Nat→Int,(∀j,W' k j=W k j)∧(∀i,i≠k→∀j,W i j*W k c-W k j*W i c=W' i j*d)∧Elim A W' (k+1) (fun s=>if s=k then c else pv s) (W k c):=by
 obtain⟨p,hpe⟩:∃p,W k c=p:=⟨_,rfl⟩
 rw[hpe]at hp ⊢;have hd':=rat0 h.d0;have hp':=rat0 hp;let Q:Nat→Nat→Rat:=fun i j=>if i=k then(W k j:Rat)else((W i j:Rat)*p-(W k j:Rat)*W i c)/d
 have hQk:∀j,Q k j=W k j:=fun j=>if_pos rfl;have hQ:∀i,i≠k→∀j,Q i j=((W i j:Rat)*p-(W k j:Rat)*W i c)/d:=fun i hi j=>if_neg hi;have hdet:∀(r:Nat)(ro C:Nat→Nat),(∀t,k+1≤ro t)→(p:Rat)*det (k+1+r) (fun i j=>Q (rho (k+1) ro i) (C j))=(p:Rat)^(k+1+r)*det (k+1+r) (fun i j=>(A (rho (k+1) ro i) (C j):Rat)):=by
  intro r ro C hro;have hne:∀t,t≠k→rho (k+1) ro t≠k:=fun t ht=>by
   by_cases h1:t<k+1
   ·rw[wCH h1];exact ht
   ·rw[wF5 (by omega)];have:=hro (t-(k+1));omega
  have hk:rho (k+1) ro k=k:=wCH (by omega);have e1:=qB8 (n:=k+1+r) (M:=fun i j=>(W (rho (k+1) ro i) (C j):Rat)) (M':=fun i j=>Q (rho (k+1) ro i) (C j)) k ((p:Rat)/d) (fun t=>-((W (rho (k+1) ro t) c:Rat)/d)) (by omega)
   (fun t ht j=>by
    rw[hQ _ (hne t ht),hk];simp only[Rat.div_def]
    grind)
   (fun j=>by rw[hk,hQk])
  have e2:=h.dt (r+1) (fun t=>if t=0 then k else ro (t-1)) C fun t=>by
   split
   ·omega
   ·have:=hro (t-1);omega
  have hrho:∀i,rho k (fun t=>if t=0 then k else ro (t-1)) i=rho (k+1) ro i:=fun i=>by
   rcases bH i k with hi|hi|hi
   ·rw[wCH hi,wCH (by omega)]
   ·subst hi;rw[wF5 (pC _),bU,wCH (by omega)];rfl
   ·rw[wF5 (by omega),wF5 (by omega),if_neg (by omega)];congr 1
  simp only[hrho]at e2;have hn:k+(r+1)=k+1+r:=by omega
  rw[hn]at e2;have hn2:k+1+r-1=k+r:=by omega
  rw[hn2]at e1;have hn3:k+1+r=(k+r)+1:=by omega
  rw[e1];rw[hn3]at e2 ⊢;rw[fO]at e2 ⊢;have e3:det (k+r+1) (fun i j=>(W (rho (k+1) ro i) (C j):Rat))=(d:Rat)^(k+r)*det (k+r+1) (fun i j=>(A (rho (k+1) ro i) (C j):Rat)):=by
   have:(d:Rat)*(det (k+r+1) (fun i j=>(W (rho (k+1) ro i) (C j):Rat))-(d:Rat)^(k+r)*det (k+r+1) (fun i j=>(A (rho (k+1) ro i) (C j):Rat)))=0:=by grind
   rcases bD.1 this with h|h
   ·exact absurd h hd'
   ·grind
  rw[e3];have:=pow_div (p:Rat) d hd' (k+r)
  grind
 have hpv:∀s,s<k+1→∀i,Q i (if s=k then c else pv s)=if i=s then(p:Rat)else 0:=by
  intro s hs i;by_cases hsk:s=k
  ·subst hsk;rw[if_pos rfl];by_cases hi:i=s
   ·subst hi;rw[hQk,hpe,if_pos rfl]
   ·rw[hQ i hi,hpe,if_neg hi,bO];grind
  ·rw[if_neg hsk];have h1:=h.pv s (by omega);have h2:W k (pv s)=0:=by rw[h1 k,if_neg (fun e=>hsk e.symm)]
   by_cases hi:i=k
   ·subst hi;rw[hQk,h2,if_neg (fun e=>hsk e.symm)];rfl
   ·rw[hQ i hi,h2,h1 i];by_cases his:i=s
    ·rw[if_pos his,if_pos his,show((0:Int):Rat)=0 from rfl]
     have:(d:Rat)*p-0*W i c=p*d:=by grind
     rw[this,bO,pA2,gM _ hd'];grind
    ·rw[if_neg his,if_neg his,show((0:Int):Rat)=0 from rfl,bO];grind
 have hcan:∀(n:Nat)(x:Rat)(v:Rat),(p:Rat)*((p:Rat)^n*v)=(p:Rat)^(n+1)*x→v=x:=by
  intro n x v hv;rw[fO]at hv
  have:((p:Rat)^n*p)*(v-x)=0:=by grind
  rcases bD.1 this with h|h
  ·rcases bD.1 h with h|h
   ·exact absurd h (wT3 _ hp' n)
   ·exact absurd h hp'
  ·grind
 have hint:∀i j,Q i j=W k j∨∃(s:Nat)(ro C:Nat→Nat),s≤k+2∧Q i j=det s fun x y=>(A (ro x) (C y):Rat):=by
  intro i j;by_cases hik:i=k
  ·subst hik;exact .inl (hQk j)
  right;by_cases hlt:i<k
  ·have e:=hdet 0 (fun _=>k+1) (fun s=>if s=i then j else if s=k then c else pv s) (fun _=>pC _);rw[kJ (B:=fun t s=>if s=i then Q t j else if t=s then(p:Rat)else 0) (fun t ht s hs=>by
    rw[wCH (by omega)];by_cases hsi:s=i
    ·simp only[if_pos hsi]
    ·simp only[if_neg hsi];exact hpv s (by omega) t),qB9 i p (fun t=>Q t j) (by omega)]at e
   exact⟨k+1,_,_,by omega,hcan k _ _ e⟩
  ·have e:=hdet 1 (fun _=>i) (fun s=>if s=k+1 then j else if s=k then c else pv s) (fun _=>by omega);rw[kJ (B:=fun t s=>if s=k+1 then Q (rho (k+1) (fun _=>i) t) j else if t=s then(p:Rat)else 0) (fun t ht s hs=>by
    by_cases hsi:s=k+1
    ·simp only[if_pos hsi]
    ·simp only[if_neg hsi];rw[hpv s (by omega)];by_cases htk:t<k+1
     ·rw[wCH htk]
     ·rw[wF5 (by omega),if_neg (by omega),if_neg (by omega)]),qB9 (k+1) p (fun t=>Q (rho (k+1) (fun _=>i) t) j) (by omega)]at e
   rw[wF5 (pC _)]at e;exact⟨k+2,_,_,by omega,hcan (k+1) _ _ e⟩
 have hwh:∀i j,∃z:Int,Q i j=z:=fun i j=>by
  rcases hint i j with e|⟨s,ro,C,_,e⟩
  ·exact⟨_,e⟩
  ·rw[e];exact det_int fun _ _=>⟨_,rfl⟩
 have hW:∀i j,((Classical.choose (hwh i j):Int):Rat)=Q i j:=fun i j=>(Classical.choose_spec (hwh i j)).symm;refine⟨fun i j=>Classical.choose (hwh i j),fun j=>?_,fun i hi j=>?_,hp,fun r ro C hro=>?_,fun s hs i=>?_,fun B N hN hB hA i j=>?_⟩
 ·exact bL.1 ((hW k j).trans (hQk j))
 ·refine bL.1 ?_;rw[pH3,dJ,dJ,dJ,hW,hQ i hi,fP hd']
 ·simp only[hW];exact hdet r ro C hro
 ·refine bL.1 ?_;rw[hW,hpv s hs i];split<;>rfl
 ·have hNB:1≤N*B:=gQ (by omega) hB;rcases hint i j with e|⟨s,ro,C,hs,e⟩
  ·have:Classical.choose (hwh i j)=W k j:=bL.1 ((hW i j).trans e)
   rw[this];exact pD (h.bd B N (by omega) hB hA k j) (mT hNB (by omega))
  ·obtain⟨z,hz,hz2⟩:=det_bd (B:=B) (N:=N) (n:=s) (A:=fun x y=>(A (ro x) (C y):Rat)) (by omega) fun x y=>⟨_,rfl,hA _ _⟩
   have:Classical.choose (hwh i j)=z:=bL.1 ((hW i j).trans (e.trans hz))
   rw[this];exact pD hz2 (mT hNB (by omega))
def vS(n:Nat)(O:Nat→Nat→Rat)(v:Nat→Rat):Prop:=∃t:Nat→Rat,∀j,v j=sm n fun l=>t l*O l j
theorem vS.row{n:Nat}{O:Nat→Nat→Rat}(i:Nat)(hi:i<n):vS n O (O i):=
 ⟨fun l=>if l=i then 1 else 0,fun j=>by rw[wZC n i hi _ fun l _ hl=>by dsimp only;rw[if_neg hl];grind];dsimp only;rw[if_pos rfl];grind⟩
theorem vS.comb{n:Nat}{O:Nat→Nat→Rat}{u v:Nat→Rat}(hu:vS n O u)(hv:vS n O v)(x y:Rat):vS n O fun j=>x*u j+y*v j:=by obtain⟨s,hs⟩:=hu;obtain⟨t,ht⟩:=hv;refine⟨fun l=>x*s l+y*t l,fun j=>?_⟩;dsimp only;rw[hs,ht,←xO,←xO,←wS5];exact sm_congr fun l _=>by grind
theorem vS.congr{n:Nat}{O:Nat→Nat→Rat}{u v:Nat→Rat}(hu:vS n O u)(h:∀j,v j=u j):vS n O v:=by obtain⟨s,hs⟩:=hu;exact⟨s,fun j=>(h j).trans (hs j)⟩
theorem vS.trans{n:Nat}{O R:Nat→Nat→Rat}{v:Nat→Rat}(hv:vS n O v)(h:∀l,l<n→vS n R (O l)):vS n R v:=by
 obtain⟨t,ht⟩:=hv;have hc:∀l,∃s:Nat→Rat,l<n→∀j,O l j=sm n fun m=>s m*R m j:=fun l=>by
  by_cases hl:l<n
  ·obtain⟨s,hs⟩:=h l hl;exact⟨s,fun _=>hs⟩
  ·exact⟨fun _=>0,fun h=>absurd h hl⟩
 refine⟨fun m=>sm n fun l=>t l*Classical.choose (hc l) m,fun j=>?_⟩;rw[ht]
 have:sm n (fun m=>sm n (fun l=>t l*Classical.choose (hc l) m)*R m j)=sm n fun m=>sm n fun l=>t l*Classical.choose (hc l) m*R m j:=sm_congr fun m _=>by
  rw[show sm n (fun l=>t l*Classical.choose (hc l) m*R m j)=sm n fun l=>R m j*(t l*Classical.choose (hc l) m)from sm_congr fun l _=>by grind,xO]
  grind
 rw[this,sm_swap];refine sm_congr fun l hl=>?_;rw[Classical.choose_spec (hc l) hl j,←xO];exact sm_congr fun m _=>by grind
def dlt(i j:Nat):Rat:=if i=j then 1 else 0
structure Aug(n:Nat)(S:Nat→Nat→Rat)(D:Rat)(O:Nat→Nat→Rat):Prop where
 D0:D≠0
 left:∀i,i<n→∀j,j<n→O i j=D*S i j
 right:∀i,i<n→∀j,j<n→O i (n+j)=D*dlt i j
theorem wZD(n:Nat)(f:Nat→Rat)(k:Nat)(hk:k<n):sm n (fun l=>f l*dlt l k)=f k:=by rw[wZC n k hk _ fun l _ hl=>by rw[dlt,if_neg hl];grind];rw[dlt,if_pos rfl];grind
theorem dlt_sm(n:Nat)(f:Nat→Rat)(k:Nat)(hk:k<n):sm n (fun l=>dlt k l*f l)=f k:=by rw[wZC n k hk _ fun l _ hl=>by rw[dlt,if_neg (fun e=>hl e.symm)];grind];rw[dlt,if_pos rfl];grind
section
variable{n:Nat}{S O W:Nat→Nat→Rat}{D:Rat}
theorem Aug.coef(h:Aug n S D O){v t:Nat→Rat}(ht:∀j,v j=sm n fun l=>t l*O l j)(j:Nat)(hj:j<n):v (n+j)=D*t j∧v j=D*sm n fun l=>t l*S l j:=by
 rw[ht,ht];refine⟨?_,?_⟩
 ·rw[sm_congr (g:=fun l=>D*(t l*dlt l j)) fun l hl=>by rw[h.right l hl j hj];grind,xO,wZD n t j hj]
 ·rw[sm_congr (g:=fun l=>D*(t l*S l j)) fun l hl=>by rw[h.left l hl j hj];grind,xO]
theorem Aug.inverse(h:Aug n S D O){d:Rat}(hd:d≠0)(h1:∀i,i<n→vS n O (W i))(h2:∀i,i<n→vS n W (O i))(h3:∀i,i<n→∀j,j<n→W i j=d*dlt i j)(i j:Nat)(hi:i<n)(hj:j<n) :
  sm n (fun l=>W i (n+l)/d*S l j)=dlt i j∧sm n (fun l=>S i l*(W l (n+j)/d))=dlt i j:=by
 have hD:=h.D0;constructor
 ·obtain⟨t,ht⟩:=h1 i hi;have e:=(h.coef ht j hj).2;rw[h3 i hi j hj]at e;rw[sm_congr (g:=fun l=>D/d*(t l*S l j)) fun l hl=>by rw[(h.coef ht l hl).1];simp only[Rat.div_def];grind,xO]
  have:D*sm n (fun l=>t l*S l j)=d*dlt i j:=e.symm
  rw[bO,show D*d⁻¹*sm n (fun l=>t l*S l j)=d⁻¹*(D*sm n fun l=>t l*S l j) by grind,this,←pA2,gN _ hd]
  grind
 ·obtain⟨u,hu⟩:=h2 i hi;have e1:∀m,m<n→O i m=u m*d:=fun m hm=>by
   rw[hu,sm_congr (g:=fun l=>d*(u l*dlt l m)) fun l hl=>by rw[h3 l hl m hm];grind,xO,wZD n u m hm];grind
  have e2:sm n (fun l=>u l*W l (n+j))=D*dlt i j:=(hu (n+j)).symm.trans (h.right i hi j hj);rw[sm_congr (g:=fun l=>D⁻¹*(u l*W l (n+j))) fun l hl=>by
   have e3:=e1 l hl;rw[h.left i hi l hl]at e3
   have:S i l=D⁻¹*(u l*d):=by rw[←e3,←pA2,gN _ hD];grind
   rw[this,bO]
   have:d*d⁻¹=1:=gM _ hd
   grind,xO,e2,←pA2,gN _ hD]
  grind
theorem assoc(A B C:Nat→Nat→Rat)(i j:Nat):sm n (fun l=>A i l*sm n fun m=>B l m*C m j)=sm n fun m=>sm n (fun l=>A i l*B l m)*C m j:=by rw[sm_congr (g:=fun l=>sm n fun m=>A i l*B l m*C m j) fun l _=>by rw[←xO];exact sm_congr fun m _=>by grind,sm_swap];refine sm_congr fun m _=>?_;rw[sm_congr (g:=fun l=>C m j*(A i l*B l m)) fun l _=>by grind,xO];grind
theorem unique{X Y:Nat→Nat→Rat}(h1:∀i j,i<n→j<n→sm n (fun l=>S i l*X l j)=dlt i j)(h2:∀i j,i<n→j<n→sm n (fun l=>Y i l*S l j)=dlt i j)(i j:Nat)(hi:i<n)(hj:j<n):Y i j=X i j:=by have:=assoc (n:=n) Y S X i j;rw[sm_congr (g:=fun l=>Y i l*dlt l j) fun l hl=>by rw[h1 l j hl hj],wZD n _ j hj,sm_congr (g:=fun m=>dlt i m*X m j) fun m hm=>by rw[h2 i m hi hm],dlt_sm n (fun m=>X m j) i hi]at this;exact this
theorem Aug.killed(h:Aug n S D O){X:Nat→Nat→Rat}(hX:∀i j,i<n→j<n→sm n (fun l=>S i l*X l j)=dlt i j){v:Nat→Rat}(hv:vS n O v)(h0:∀j,j<n→v j=0):∀j,j<n+n→v j=0:=by
 obtain⟨t,ht⟩:=hv;have hz:∀m,m<n→sm n (fun l=>t l*S l m)=0:=fun m hm=>by
  have:=(h.coef ht m hm).2;rw[h0 m hm]at this;rcases bD.1 this.symm with h'|h'
  ·exact absurd h' h.D0
  ·exact h'
 have ht0:∀j,j<n→t j=0:=fun j hj=>by have:=assoc (n:=n) (fun _ l=>t l) S X 0 j;rw[sm_congr (g:=fun l=>t l*dlt l j) fun l hl=>by rw[hX l j hl hj],wZD n _ j hj,wM0 n fun m hm=>by rw[hz m hm];grind]at this;exact this
 intro j hj;by_cases hjn:j<n
 ·exact h0 j hjn
 ·have:=(h.coef ht (j-n) (by omega)).1;rw[show n+(j-n)=j by omega,ht0 (j-n) (by omega)]at this;rw[this];grind
end
def NZ(n:Nat)(W:Nat→Nat→Rat):Prop:=∃C:Nat→Nat,(∀j,j<n→C j<n+n)∧det n (fun i j=>W i (C j))≠0
theorem NZ.row{n:Nat}{W:Nat→Nat→Rat}(h:NZ n W)(i:Nat)(hi:i<n)(h0:∀j,j<n+n→W i j=0):False:=by obtain⟨C,hC,hd⟩:=h;refine hd ?_;have:=wNG (n:=n) (A:=fun i j=>W i (C j)) (B:=fun i j=>W i (C j)) (C:=fun i j=>W i (C j)) i 0 0 hi (fun j hj=>by rw[h0 _ (hC j hj)];grind) (fun _ _ _ _ _=>⟨rfl,rfl⟩);rw[this];grind
theorem det_dlt(n:Nat)(D:Rat):det n (fun i j=>D*dlt i j)=D^n:=by
 cases n with
 |zero=>show(1:Rat)=_;rw[pG4]
 | succ n=>
  have:=qB9 (n:=n+1) 0 D (fun t=>if t=0 then D else 0) (by omega);rw[if_pos rfl,pB5,←fO]at this;rw[←this];refine kJ fun i _ j _=>?_;unfold dlt;by_cases hj:j=0
  ·subst hj;rw[if_pos rfl];by_cases hi:i=0
   ·rw[if_pos hi,if_pos hi];grind
   ·rw[if_neg hi,if_neg hi];grind
  ·rw[if_neg hj];by_cases hij:i=j
   ·rw[if_pos hij,if_pos hij];grind
   ·rw[if_neg hij,if_neg hij];grind
theorem NZ.start{n:Nat}{S O:Nat→Nat→Rat}{D:Rat}(h:Aug n S D O):NZ n O:=
 ⟨fun j=>n+j,fun j hj=>pE4 hj n,by rw[kJ (B:=fun i j=>D*dlt i j) fun i hi j hj=>h.right i hi j hj,det_dlt];exact wT3 D h.D0 n⟩
theorem det_swap{n:Nat}{M M':Nat→Nat→Rat}(a b:Nat)(ha:a<n)(hb:b<n)(hab:a≠b)(h1:∀j,M' a j=M b j)(h2:∀j,M' b j=M a j)(h3:∀i,i≠a→i≠b→∀j,M' i j=M i j):det n M' = - det n M:=by
 have e1:=wR8 (n:=n) (M:=M) (M':=fun i j=>if i=a then M a j+M b j else M i j) a b 1 1 ha hb hab (fun j=>by rw[if_pos rfl];grind) (fun i hi j=>by rw[if_neg hi]);have e2:=wR8 (n:=n) (M:=fun i j=>if i=a then M a j+M b j else M i j) (M':=fun i j=>if i=a then M a j+M b j else if i=b then-M a j else M i j) b a 1 (-1) hb ha (bB hab)
  (fun j=>by rw[if_neg (bB hab),if_pos rfl,if_neg (bB hab),if_pos rfl];grind)
  (fun i hi j=>by
   by_cases hia:i=a
   ·rw[if_pos hia,if_pos hia]
   ·rw[if_neg hia,if_neg hia,if_neg hi])
 have e3:=wR8 (n:=n) (M:=fun i j=>if i=a then M a j+M b j else if i=b then-M a j else M i j) (M':=fun i j=>if i=a then M b j else if i=b then-M a j else M i j) a b 1 1 ha hb hab
  (fun j=>by rw[if_pos rfl,if_pos rfl,if_neg (bB hab),if_pos rfl];grind)
  (fun i hi j=>by rw[if_neg hi,if_neg hi])
 have e4:=wP3 (n:=n) (M:=fun i j=>if i=a then M b j else if i=b then-M a j else M i j) (M':=M') b (-1) hb
  (fun j=>by rw[if_neg (bB hab),if_pos rfl,h2];grind)
  (fun i hi j=>by
   by_cases hia:i=a
   ·rw[if_pos hia,hia,h1]
   ·rw[if_neg hia,if_neg hi,h3 i hia hi])
 rw[e4,e3,e2,e1];grind
theorem NZ.swap{n:Nat}{W W':Nat→Nat→Rat}(h:NZ n W)(a b:Nat)(ha:a<n)(hb:b<n)(h1:∀j,W' a j=W b j)(h2:∀j,W' b j=W a j)(h3:∀i,i≠a→i≠b→∀j,W' i j=W i j):NZ n W':=by
 obtain⟨C,hC,hd⟩:=h;refine⟨C,hC,?_⟩;by_cases hab:a=b
 ·subst hab;rw[kJ (B:=fun i j=>W i (C j)) fun i _ j _=>by
   by_cases hi:i=a
   ·rw[hi,h1]
   ·rw[h3 i hi hi]]
  exact hd
 ·rw[det_swap (M:=fun i j=>W i (C j)) (M':=fun i j=>W' i (C j)) a b ha hb hab (fun j=>h1 _) (fun j=>h2 _) (fun i hi hi2 j=>h3 i hi hi2 _)];intro h;exact hd (by grind)
theorem NZ.scale{n:Nat}{W W':Nat→Nat→Rat}(h:NZ n W)(a:Nat)(s:Rat)(hs:s≠0)(ha:a<n)(h1:∀j,W' a j=s*W a j)(h3:∀i,i≠a→∀j,W' i j=W i j):NZ n W':=by
 obtain⟨C,hC,hd⟩:=h;refine⟨C,hC,?_⟩;rw[wP3 (M:=fun i j=>W i (C j)) (M':=fun i j=>W' i (C j)) a s ha (fun j=>h1 _) (fun i hi j=>h3 i hi _)];intro h;rcases bD.1 h with h|h
 ·exact hs h
 ·exact hd h
theorem NZ.ops{n:Nat}{W W':Nat→Nat→Rat}(h:NZ n W)(a:Nat)(s:Rat)(hs:s≠0)(c:Nat→Rat)(ha:a<n)(h1:∀i,i≠a→∀j,W' i j=s*W i j+c i*W a j)(h2:∀j,W' a j=W a j):NZ n W':=by
 obtain⟨C,hC,hd⟩:=h;refine⟨C,hC,?_⟩;rw[qB8 (M:=fun i j=>W i (C j)) (M':=fun i j=>W' i (C j)) a s c ha (fun i hi j=>h1 i hi _) (fun j=>h2 _)];intro h;rcases bD.1 h with h|h
 ·exact wT3 s hs _ h
 ·exact hd h
structure Eqv(n:Nat)(O W:Nat→Nat→Rat):Prop where
 to:∀i,i<n→vS n O (W i)
 back:∀i,i<n→vS n W (O i)
theorem Eqv.refl(n:Nat)(O:Nat→Nat→Rat):Eqv n O O:=⟨fun i hi=>.row i hi,fun i hi=>.row i hi⟩
theorem Eqv.trans{n:Nat}{O W R:Nat→Nat→Rat}(h:Eqv n O W)(k:Eqv n W R):Eqv n O R:=⟨fun i hi=>(k.to i hi).trans h.to,fun i hi=>(h.back i hi).trans k.back⟩
theorem Eqv.swap{n:Nat}{W W':Nat→Nat→Rat}(a b:Nat)(ha:a<n)(hb:b<n)(h1:∀j,W' a j=W b j)(h2:∀j,W' b j=W a j)(h3:∀i,i≠a→i≠b→∀j,W' i j=W i j):Eqv n W W':=by
 refine⟨fun i hi=>?_,fun i hi=>?_⟩
 ·by_cases hia:i=a
  ·subst hia;exact(vS.row b hb).congr h1
  ·by_cases hib:i=b
   ·subst hib;exact(vS.row a ha).congr h2
   ·exact(vS.row i hi).congr (h3 i hia hib)
 ·by_cases hia:i=a
  ·subst hia;exact(vS.row b hb).congr fun j=>(h2 j).symm
  ·by_cases hib:i=b
   ·subst hib;exact(vS.row a ha).congr fun j=>(h1 j).symm
   ·exact(vS.row i hi).congr fun j=>(h3 i hia hib j).symm
theorem Eqv.scale{n:Nat}{W W':Nat→Nat→Rat}(a:Nat)(s:Rat)(hs:s≠0)(ha:a<n)(h1:∀j,W' a j=s*W a j)(h3:∀i,i≠a→∀j,W' i j=W i j):Eqv n W W':=by
 refine⟨fun i hi=>?_,fun i hi=>?_⟩
 ·by_cases hia:i=a
  ·subst hia;exact((vS.row i hi).comb (.row i hi) s 0).congr fun j=>by rw[h1];grind
  ·exact(vS.row i hi).congr (h3 i hia)
 ·by_cases hia:i=a
  ·subst hia;exact((vS.row i hi).comb (.row i hi) s⁻¹ 0).congr fun j=>by
    rw[h1]
    have:s⁻¹*s=1:=gN _ hs
    grind
  ·exact(vS.row i hi).congr fun j=>(h3 i hia j).symm
theorem Eqv.ops{n:Nat}{W W':Nat→Nat→Rat}(a:Nat)(s:Rat)(hs:s≠0)(c:Nat→Rat)(ha:a<n)(h1:∀i,i≠a→∀j,W' i j=s*W i j+c i*W a j)(h2:∀j,W' a j=W a j):Eqv n W W':=by
 refine⟨fun i hi=>?_,fun i hi=>?_⟩
 ·by_cases hia:i=a
  ·subst hia;exact(vS.row i hi).congr h2
  ·exact((vS.row i hi).comb (.row a ha) s (c i)).congr (h1 i hia)
 ·by_cases hia:i=a
  ·subst hia;exact(vS.row i hi).congr fun j=>(h2 j).symm
  ·exact((vS.row i hi).comb (.row a ha) s⁻¹ (-(s⁻¹*c i))).congr fun j=>by
    rw[h1 i hia,h2]
    have:s⁻¹*s=1:=gN _ hs
    grind
def ratT(R:Nat→Nat→Int):Nat→Nat→Rat:=fun i j=>(R i j:Rat)
def sw(a b i:Nat):Nat:=if i=a then b else if i=b then a else i
theorem sw_sw(a b i:Nat):sw a b (sw a b i)=i:=by
 unfold sw
 repeat' split
 all_goals omega
theorem sw_left(a b:Nat):sw a b a=b:=if_pos rfl
theorem qCE(a b:Nat):sw a b b=a:=by
 unfold sw;by_cases h:b=a
 ·rw[if_pos h];exact h
 ·rw[if_neg h,if_pos rfl]
theorem wZ5{a b i:Nat}(h1:i≠a)(h2:i≠b):sw a b i=i:=by unfold sw;rw[if_neg h1,if_neg h2]
theorem sw_lt{a b i n:Nat}(ha:a<n)(hb:b<n)(hi:i<n):sw a b i<n:=by
 unfold sw
 repeat' split
 all_goals omega
structure Good(n:Nat)(O R:Nat→Nat→Int)(k c:Nat)(pv:Nat→Nat)(d:Int):Prop where
 el:∃π:Nat→Nat,(∀i,i<n→π i<n)∧(∀i j,i<n→j<n→π i=π j→i=j)∧Elim (fun i=>O (π i)) R k pv d
 eq:Eqv n (ratT O) (ratT R)
 z:∀i,k≤i→i<n→∀j,j<c→R i j=0
 kc:k≤c
 kn:k≤n
 di:k=c→∀s,s<k→pv s=s
variable{n:Nat}{O R:Nat→Nat→Int}{k c:Nat}{pv:Nat→Nat}{d:Int}
theorem Good.start(n:Nat)(O:Nat→Nat→Int)(pv:Nat→Nat):Good n O O 0 0 pv 1:=
 ⟨⟨id,fun _ h=>h,fun _ _ _ _ h=>h,.start O pv⟩,.refl n _,fun _ _ _ _ h=>by omega,pC _,pN _,fun _ _ h=>by omega⟩
theorem Good.skip(h:Good n O R k c pv d)(hz:∀i,k≤i→i<n→R i c=0):Good n O R k (c+1) pv d:=
 ⟨h.el,h.eq,fun i h1 h2 j hj=>by
  by_cases e:j=c
  ·subst e;exact hz i h1 h2
  ·exact h.z i h1 h2 j (by omega),Nat.le_succ_of_le h.kc,h.kn,fun e=>by have:=h.kc;omega⟩
theorem Good.bound(h:Good n O R k c pv d){B N:Nat}(hN:k+1≤N)(hB:1≤B)(hO:∀i j,(O i j).natAbs≤B)(i j:Nat):(R i j).natAbs≤(N*B)^(k+1):=by obtain⟨π,_,_,he⟩:=h.el;exact he.bd B N hN hB (fun i j=>hO _ _) i j
theorem Good.swap(h:Good n O R k c pv d){a:Nat}(ha:k≤a)(han:a<n):Good n O (fun i=>R (sw k a i)) k c pv d:=by
 obtain⟨π,h1,h2,h3⟩:=h.el;have hkn:k<n:=by omega
 refine⟨⟨fun i=>π (sw k a i),fun i hi=>h1 _ (sw_lt hkn han hi),fun i j hi hj e=>?_,h3.swap (sw k a) (fun i hi=>wZ5 (by omega) (by omega)) (fun i hi=>?_) (sw_sw k a)⟩,h.eq.trans (.swap k a hkn han (fun j=>?_) (fun j=>?_) fun i hi hi2 j=>?_),fun i hi hin j hj=>h.z _ ?_ (sw_lt hkn han hin) j hj,h.kc,h.kn,h.di⟩
 ·have:=h2 _ _ (sw_lt hkn han hi) (sw_lt hkn han hj) e;rw[←sw_sw k a i,this,sw_sw]
 ·unfold sw;repeat' split
  all_goals omega
 ·show((R (sw k a k) j:Int):Rat)=_;rw[sw_left];rfl
 ·show((R (sw k a a) j:Int):Rat)=_;rw[qCE];rfl
 ·show((R (sw k a i) j:Int):Rat)=_;rw[wZ5 hi hi2];rfl
 ·unfold sw;repeat' split
  all_goals omega
theorem Good.step(h:Good n O R k c pv d)(hkn:k<n)(hp:R k c≠0){R':Nat→Nat→Int}(hk:∀j,R' k j=R k j)(hR:∀i,i≠k→∀j,R' i j=(R i j*R k c-R k j*R i c)/d) :
  (∀i,i≠k→∀j,R i j*R k c-R k j*R i c=R' i j*d)∧Good n O R' (k+1) (c+1) (fun s=>if s=k then c else pv s) (R k c):=by
 obtain⟨π,h1,h2,h3⟩:=h.el;obtain⟨W,w1,w2,w3⟩:=h3.step c hp;have hRW:R'=W:=by
  funext i j;by_cases hi:i=k
  ·subst hi;rw[hk,w1]
  ·rw[hR i hi,w2 i hi,pE5 _ h3.d0]
 subst hRW;have hd':=rat0 h3.d0;have hp':=rat0 hp;refine⟨w2,⟨π,h1,h2,w3⟩,h.eq.trans (.ops k ((R k c:Rat)/d) (fun e=>?_) (fun i=>-((R i c:Rat)/d)) hkn (fun i hi j=>?_) fun j=>by show((R' k j:Int):Rat)=_;rw[hk];rfl),fun i hi hin j hj=>?_,by have:=h.kc;omega,hkn,fun e s hs=>?_⟩
 ·have:(R k c:Rat)/d*d=0:=by rw[e];grind
  rw[fP hd']at this;exact hp' this
 ·show((R' i j:Int):Rat)=(R k c:Rat)/d*(R i j:Rat) + -((R i c:Rat)/d)*(R k j:Rat)
  have e:((R' i j:Int):Rat)*d=(R i j:Rat)*R k c-(R k j:Rat)*R i c:=by rw[←dJ,←dJ,←dJ,←pH3,w2 i hi]
  have:((R' i j:Int):Rat)=((R i j:Rat)*R k c-(R k j:Rat)*R i c)*(d:Rat)⁻¹:=by rw[←e,pA2,gM _ hd'];grind
  rw[this,bO,bO];grind
 ·have hz:R' i j*d=0:=by
   rw[←w2 i (by omega)];by_cases e:j=c
   ·subst e;rw[pG5];omega
   ·rw[h.z i (by omega) hin j (by omega),h.z k (pC _) hkn j (by omega)];simp
  rcases Int.mul_eq_zero.1 hz with e|e
  ·exact e
  ·exact absurd e h3.d0
 ·have hkc:k=c:=by omega
  by_cases hs':s=k
  ·rw[if_pos hs',hs',hkc]
  ·rw[if_neg hs'];exact h.di hkc s (by omega)
theorem Good.diag(h:Good n O R k n pv d)(hk:k=n):d≠0∧∀i,i<n→∀j,j<n→ratT R i j=(d:Rat)*dlt i j:=by obtain⟨π,h1,h2,h3⟩:=h.el;refine⟨h3.d0,fun i hi j hj=>?_⟩;have:=h3.pv j (by omega) i;rw[h.di hk j (by omega)]at this;show((R i j:Int):Rat)=_;rw[this];unfold dlt;split<;>simp
theorem Good.nz(h:Good n O R k c pv d){S:Nat→Nat→Rat}{D:Rat}(ha:Aug n S D (ratT O)):NZ n (ratT R):=by
 obtain⟨π,h1,h2,h3⟩:=h.el;have hkn:=h.kn;refine⟨fun j=>n+π j,fun j hj=>pE4 (h1 j hj) n,fun e=>?_⟩;have hdt:=h3.dt (n-k) (fun t=>k+t) (fun j=>n+π j) fun t=>by omega
 have hrho:∀i,rho k (fun t=>k+t) i=i:=fun i=>by
  by_cases hi:i<k
  ·exact wCH hi
  ·rw[wF5 (by omega)];omega
 have hn:k+(n-k)=n:=by omega
 simp only[hrho]at hdt;rw[hn]at hdt;have e':det n (fun i j=>(R i (n+π j):Rat))=0:=e;rw[e',kJ (A:=fun i j=>(O (π i) (n+π j):Rat)) (B:=fun i j=>D*dlt i j) fun i hi j hj=>by
  have:=ha.right (π i) (h1 i hi) (π j) (h1 j hj);have e2:dlt (π i) (π j)=dlt i j:=by
   unfold dlt;by_cases hij:i=j
   ·subst hij;rw[if_pos rfl,if_pos rfl]
   ·rw[if_neg hij,if_neg fun e=>hij (h2 i j hi hj e)]
  rw[←e2];exact this,det_dlt]at hdt
 have:(d:Rat)^n*D^n=0:=by rw[←hdt];grind
 rcases bD.1 this with e|e
 ·exact wT3 _ (rat0 h3.d0) n e
 ·exact wT3 _ ha.D0 n e
structure Red(n:Nat)(O R:Nat→Nat→Rat)(k c:Nat)(pl:Nat→Nat):Prop where
 eq:Eqv n O R
 nz:NZ n R
 pv:∀s,s<k→∀i,i<n→R i (pl s)=dlt i s
 z:∀i,k≤i→i<n→∀j,j<c→R i j=0
 kc:k≤c
 kn:k≤n
 di:k=c→∀s,s<k→pl s=s
section
variable{O R:Nat→Nat→Rat}
theorem Red.start{S:Nat→Nat→Rat}{D:Rat}(pv:Nat→Nat)(ha:Aug n S D O):Red n O O 0 0 pv:=
 ⟨.refl n O,.start ha,fun _ h=>by omega,fun _ _ _ _ h=>by omega,pC _,pN _,fun _ _ h=>by omega⟩
theorem Red.skip(h:Red n O R k c pv)(hz:∀i,k≤i→i<n→R i c=0):Red n O R k (c+1) pv:=
 ⟨h.eq,h.nz,h.pv,fun i h1 h2 j hj=>by
  by_cases e:j=c
  ·subst e;exact hz i h1 h2
  ·exact h.z i h1 h2 j (by omega),Nat.le_succ_of_le h.kc,h.kn,fun e=>by have:=h.kc;omega⟩
theorem Red.swap(h:Red n O R k c pv){a:Nat}(ha:k≤a)(han:a<n):Red n O (fun i=>R (sw k a i)) k c pv:=by
 have hkn:k<n:=by omega
 have e1:∀j,(fun i=>R (sw k a i)) k j=R a j:=fun j=>by show R (sw k a k) j=_;rw[sw_left]
 have e2:∀j,(fun i=>R (sw k a i)) a j=R k j:=fun j=>by show R (sw k a a) j=_;rw[qCE]
 have e3:∀i,i≠k→i≠a→∀j,(fun i=>R (sw k a i)) i j=R i j:=fun i h1 h2 j=>by show R (sw k a i) j=_;rw[wZ5 h1 h2]
 refine⟨h.eq.trans (.swap k a hkn han e1 e2 e3),h.nz.swap k a hkn han e1 e2 e3,fun s hs i hi=>?_,fun i hi hin j hj=>h.z _ ?_ (sw_lt hkn han hin) j hj,h.kc,h.kn,h.di⟩
 ·show R (sw k a i) (pv s)=_;rw[h.pv s hs _ (sw_lt hkn han hi)];unfold dlt sw
  repeat' split
  all_goals first|rfl|omega
 ·unfold sw;repeat' split
  all_goals omega
theorem Red.step(h:Red n O R k c pv)(hkn:k<n)(hp:R k c≠0){R':Nat→Nat→Rat}(hk:∀j,R' k j=R k j*(R k c)⁻¹)(hR:∀i,i≠k→∀j,R' i j=R i j-R i c*R' k j) :
  Red n O R' (k+1) (c+1) (fun s=>if s=k then c else pv s):=by
 obtain⟨M,hM⟩:∃M:Nat→Nat→Rat,M=fun i j=>if i=k then R' k j else R i j:=⟨_,rfl⟩
 have m1:∀j,M k j=(R k c)⁻¹*R k j:=fun j=>by rw[hM];show(if k=k then _ else _)=_;rw[if_pos rfl,hk];grind
 have m2:∀i,i≠k→∀j,M i j=R i j:=fun i hi j=>by rw[hM];show(if i=k then _ else _)=_;rw[if_neg hi]
 have hi0:(R k c)⁻¹≠0:=fun e=>by have:=gM _ hp;rw[e]at this;exact absurd this (by rw[Rat.mul_zero];decide)
 have n1:∀i,i≠k→∀j,R' i j=1*M i j+(-(R i c))*M k j:=fun i hi j=>by rw[hR i hi,m2 i hi,m1,hk];grind
 have n2:∀j,R' k j=M k j:=fun j=>by rw[hk,m1];grind
 have h10:(1:Rat)≠0:=by decide
 have hkc1:R' k c=1:=by rw[hk];exact gM _ hp
 refine⟨h.eq.trans ((Eqv.scale k _ hi0 hkn m1 m2).trans (.ops k 1 h10 _ hkn n1 n2)),(h.nz.scale k _ hi0 hkn m1 m2).ops k 1 h10 _ hkn n1 n2,fun s hs i hi=>?_,fun i hi hin j hj=>?_,by have:=h.kc;omega,hkn,fun e s hs=>?_⟩
 ·by_cases hsk:s=k
  ·subst hsk;rw[if_pos rfl];by_cases his:i=s
   ·subst his;rw[hkc1,dlt,if_pos rfl]
   ·rw[hR i his,hkc1,dlt,if_neg his];grind
  ·rw[if_neg hsk];have e0:R k (pv s)=0:=by rw[h.pv s (by omega) k hkn,dlt,if_neg (fun e=>hsk e.symm)]
   have e1:R' k (pv s)=0:=by rw[hk,e0];grind
   by_cases hik:i=k
   ·subst hik;rw[e1,dlt,if_neg (fun e=>hsk e.symm)]
   ·rw[hR i hik,e1,h.pv s (by omega) i hi];grind
 ·by_cases e:j=c
  ·subst e;rw[hR i (by omega),hkc1];grind
  ·have e1:R' k j=0:=by rw[hk,h.z k (pC _) hkn j (by omega)];grind
   rw[hR i (by omega),e1,h.z i (by omega) hin j (by omega)];grind
 ·have hkc:k=c:=by omega
  by_cases hs':s=k
  ·rw[if_pos hs',hs',hkc]
  ·rw[if_neg hs'];exact h.di hkc s (by omega)
end
theorem ends{S:Nat→Nat→Rat}{D:Int}{OB WB:Nat→Nat→Int}{OR WR:Nat→Nat→Rat}{kb kr:Nat}{pb pr:Nat→Nat}{d:Int}(hb:Aug n S D (ratT OB))(hr:Aug n S 1 OR)(gb:Good n OB WB kb n pb d)(gr:Red n OR WR kr n pr) :
  (kb=n↔kr=n)∧(kb=n→∀i,i<n→∀j,j<n→(WB i (n+j):Rat)/d=WR i (n+j)):=by
 have hrd:kr=n→∀i,i<n→∀j,j<n→WR i j=1*dlt i j:=fun e i hi j hj=>by have:=gr.pv j (by omega) i hi;rw[gr.di e j (by omega)]at this;rw[this];grind
 have h1:kb=n→∀i j,i<n→j<n→sm n (fun l=>ratT WB i (n+l)/d*S l j)=dlt i j∧sm n (fun l=>S i l*(ratT WB l (n+j)/d))=dlt i j:=fun e i j hi hj=>hb.inverse (rat0 (gb.diag e).1) gb.eq.to gb.eq.back (gb.diag e).2 i j hi hj
 have h2:kr=n→∀i j,i<n→j<n→sm n (fun l=>WR i (n+l)/1*S l j)=dlt i j∧sm n (fun l=>S i l*(WR l (n+j)/1))=dlt i j:=fun e i j hi hj=>hr.inverse (by decide) gr.eq.to gr.eq.back (hrd e) i j hi hj
 refine⟨⟨fun e=>?_,fun e=>?_⟩,fun e=>?_⟩
 ·apply cN;intro hne;have hlt:kr<n:=by have:=gr.kn;omega
  exact gr.nz.row (n-1) (by omega) (hr.killed (X:=fun l j=>ratT WB l (n+j)/d) (fun i j hi hj=>(h1 e i j hi hj).2) (gr.eq.to (n-1) (by omega)) fun j hj=>gr.z (n-1) (by omega) (by omega) j hj)
 ·apply cN;intro hne;have hlt:kb<n:=by have:=gb.kn;omega
  exact(gb.nz hb).row (n-1) (by omega) (hb.killed (X:=fun l j=>WR l (n+j)/1) (fun i j hi hj=>(h2 e i j hi hj).2) (gb.eq.to (n-1) (by omega)) fun j hj=>by show((WB (n-1) j:Int):Rat)=0;rw[gb.z (n-1) (by omega) (by omega) j hj];rfl)
 ·have er:kr=n:=by
   apply cN;intro hne;have hlt:kr<n:=by have:=gr.kn;omega
   exact gr.nz.row (n-1) (by omega) (hr.killed (X:=fun l j=>ratT WB l (n+j)/d) (fun i j hi hj=>(h1 e i j hi hj).2) (gr.eq.to (n-1) (by omega)) fun j hj=>gr.z (n-1) (by omega) (by omega) j hj)
  intro i hi j hj;have:=unique (n:=n) (S:=S) (X:=fun l j=>WR l (n+j)/1) (Y:=fun i l=>ratT WB i (n+l)/d) (fun i j hi hj=>(h2 er i j hi hj).2) (fun i j hi hj=>(h1 e i j hi hj).1) i j hi hj;have e1:ratT WB i (n+j)/d=WR i (n+j)/1:=this;rw[show WR i (n+j)/1=WR i (n+j) by rw[bO];grind]at e1;exact e1
def ent{α:Type}[OfNat α 0](R:List (List α))(i j:Nat):α:=(R.getD i []).getD j 0
def stepRow(p f d:Int)(rk r:List Int):List Int:=List.zipWith (fun x y=>(x*p-y*f)/d) r rk
def stepL(k c:Nat)(d:Int)(R:List (List Int)):List (List Int):=R.mapIdx fun i r=>if i=k then r else stepRow (ent R k c) (ent R i c) d (R.getD k []) r
def swapL{α:Type}(k a:Nat)(R:List (List α)):List (List α):=(R.set k (R.getD a [])).set a (R.getD k [])
def wide{α:Type}(m:Nat)(R:List (List α)):Prop:=∀r∈R,r.length=m
theorem kQ{α:Type}{l:List α}{i:Nat}(h:i<l.length)(z:α):l.getD i z=l[i]:=by simp[h]
theorem qC0{α β γ:Type}(f:α→β→γ)(a:List α)(b:List β)(x:α)(y:β)(z:γ){j:Nat}(h1:j<a.length)(h2:j<b.length):(List.zipWith f a b).getD j z=f (a.getD j x) (b.getD j y):=by
 have h3:j<(List.zipWith f a b).length:=by rw[dL];omega
 rw[kQ h3,List.getElem_zipWith,kQ h1,kQ h2]
theorem ent_out{α:Type}[OfNat α 0]{R:List (List α)}{i:Nat}(h:R.length≤i)(j:Nat):ent R i j=0:=by
 unfold ent
 have:R.getD i []=[]:=by simp[h]
 rw[this];rfl
theorem kX{α:Type}{m:Nat}{R:List (List α)}(h:wide m R){i:Nat}(hi:i<R.length):(R.getD i []).length=m:=by rw[kQ hi];exact h _ (fK _)
theorem ent_wide{α:Type}[OfNat α 0]{m:Nat}{R:List (List α)}(h:wide m R){j:Nat}(hj:m≤j)(i:Nat):ent R i j=0:=by
 by_cases hi:i<R.length
 ·unfold ent;have:=kX h hi;rw[pE (l:=R.getD i []),pW (by omega)];rfl
 ·exact ent_out (by omega) j
theorem ent_step{m k c:Nat}{d:Int}{R:List (List Int)}(h:wide m R)(hk:k<R.length)(i j:Nat):ent (stepL k c d R) i j=if i=k then ent R k j else(ent R i j*ent R k c-ent R k j*ent R i c)/d:=by
 by_cases hi:i<R.length
 ·have e:(stepL k c d R).getD i []=if i=k then R.getD i []else stepRow (ent R k c) (ent R i c) d (R.getD k []) (R.getD i []):=by
   unfold stepL;rw[kQ (by simpa using hi),bK,kQ hi]
  unfold ent;rw[e];by_cases hik:i=k
  ·rw[if_pos hik,if_pos hik,hik]
  ·rw[if_neg hik,if_neg hik];have h1:=kX h hi;have h2:=kX h hk;by_cases hj:j<m
   ·unfold stepRow;exact qC0 _ _ _ 0 0 0 (by omega) (by omega)
   ·have e1:(stepRow (ent R k c) (ent R i c) d (R.getD k []) (R.getD i [])).getD j 0=0:=by
     unfold stepRow;rw[pE,pW (by rw[dL];omega)];rfl
    have e2:(R.getD i []).getD j 0=0:=ent_wide h (by omega) i;have e3:(R.getD k []).getD j 0=0:=ent_wide h (by omega) k;rw[e1,e2,e3];simp
 ·rw[if_neg (by omega),ent_out (by simp[stepL];omega),ent_out (R:=R) (i:=i) (by omega),ent_out (R:=R) (i:=i) (by omega)];simp
theorem step_len(k c:Nat)(d:Int)(R:List (List Int)):(stepL k c d R).length=R.length:=by simp[stepL]
theorem step_wide{m k c:Nat}{d:Int}{R:List (List Int)}(h:wide m R)(hk:k<R.length):wide m (stepL k c d R):=by
 intro r hr;obtain⟨i,hi,e⟩:=pA7 hr;unfold stepL at e hi;rw[bK]at e;rw[gO]at hi;have h2:=kX h hk;have h3:=h _ (fK hi);rw[←e];split
 ·exact h3
 ·unfold stepRow;rw[dL,h3,h2];omega
theorem swap_len{α:Type}(k a:Nat)(R:List (List α)):(swapL k a R).length=R.length:=by simp[swapL]
theorem swap_get{α:Type}{k a:Nat}{R:List (List α)}(hk:k<R.length)(ha:a<R.length)(i:Nat):(swapL k a R).getD i []=R.getD (sw k a i) []:=by
 unfold swapL sw;simp only[List.getD_eq_getElem?_getD,List.getElem?_set,List.length_set];by_cases h1:i=a
 ·subst h1;by_cases h2:i=k
  ·subst h2;simp[hk]
  ·rw[if_neg h2,if_pos rfl,if_pos rfl,if_pos ha];rfl
 ·rw[if_neg (fun e=>h1 e.symm)];by_cases h2:i=k
  ·subst h2;rw[if_pos rfl,if_pos hk,if_pos rfl];rfl
  ·rw[if_neg (fun e=>h2 e.symm),if_neg h2,if_neg h1]
theorem ent_swap{α:Type}[OfNat α 0]{k a:Nat}{R:List (List α)}(hk:k<R.length)(ha:a<R.length)(i j:Nat):ent (swapL k a R) i j=ent R (sw k a i) j:=by unfold ent;rw[swap_get hk ha]
theorem swap_wide{α:Type}{m k a:Nat}{R:List (List α)}(h:wide m R)(hk:k<R.length)(ha:a<R.length):wide m (swapL k a R):=by
 intro r hr;unfold swapL at hr;rcases dO hr with hr|rfl
 ·rcases dO hr with hr|rfl
  ·exact h r hr
  ·exact kX h ha
 ·exact kX h hk
structure BS where
 rows:List (List Int)
 last:Int
 piv:List Nat
 swaps:Nat
def firstL(k c:Nat)(R:List (List Int)):Nat:=k+(R.drop k).findIdx fun r=>!(r.getD c 0==0)
def colB(s:BS)(c:Nat):BS:=
 let k:=s.piv.length;let a:=firstL k c s.rows
 if a<s.rows.length then
  let R:=swapL k a s.rows
  ⟨stepL k c s.last R,ent R k c,s.piv++[c],if a=k then s.swaps else s.swaps+1⟩
 else s
def downB(s:BS)(c:Nat):BS:=(List.range c).foldl colB s
theorem downB_succ(s:BS)(c:Nat):downB s (c+1)=colB (downB s c) c:=by unfold downB;rw[pB1,pC4];rfl
structure GoodL(n m:Nat)(O:List (List Int))(s:BS)(c:Nat):Prop where
 len:s.rows.length=n
 wide:wide m s.rows
 good:Good n (ent O) (ent s.rows) s.piv.length c (fun i=>s.piv.getD i 0) s.last
theorem GoodL.start{n m:Nat}{O:List (List Int)}(h1:O.length=n)(h2:Dt.wide m O):GoodL n m O ⟨O,1,[],0⟩ 0:=⟨h1,h2,.start n _ _⟩
theorem first_spec{k c:Nat}{R:List (List Int)}:(∀i,k≤i→i<firstL k c R→i<R.length→ent R i c=0)∧(firstL k c R<R.length→ent R (firstL k c R) c≠0)∧k≤firstL k c R:=by
 refine⟨fun i h1 h2 h3=>?_,fun h=>?_,Nat.le_add_right _ _⟩
 ·unfold firstL at h2;have hlt:i-k<(R.drop k).findIdx fun r=>!(r.getD c 0==0):=by omega
  have:=List.not_of_lt_findIdx hlt;rw[pC5]at this;simp only[show k+(i-k)=i by omega]at this;unfold ent;rw[kQ h3];simpa using this
 ·unfold firstL at h ⊢;have hlt:((R.drop k).findIdx fun r=>!(r.getD c 0==0))<(R.drop k).length:=by rw[dM];omega
  have:=pD5 (w:=hlt);rw[pC5]at this;unfold ent;rw[kQ h];simpa using this
theorem GoodL.pivot{n m c:Nat}{O:List (List Int)}{s:BS}(h:GoodL n m O s c){a:Nat}(ha:s.piv.length≤a)(han:a<n)(hp:ent s.rows a c≠0) :
  (∀i,i≠s.piv.length→∀j,∃q,ent (swapL s.piv.length a s.rows) i j*ent (swapL s.piv.length a s.rows) s.piv.length c-ent (swapL s.piv.length a s.rows) s.piv.length j*ent (swapL s.piv.length a s.rows) i c=q*s.last) ∧
  GoodL n m O ⟨stepL s.piv.length c s.last (swapL s.piv.length a s.rows),ent (swapL s.piv.length a s.rows) s.piv.length c,s.piv++[c],if a=s.piv.length then s.swaps else s.swaps+1⟩ (c+1):=by
 have hl:=h.len;have hk:s.piv.length<s.rows.length:=by omega
 have hal:a<s.rows.length:=by omega
 have g1:=h.good.swap ha han;have e1:(fun i=>ent s.rows (sw s.piv.length a i))=ent (swapL s.piv.length a s.rows):=by funext i j;exact(ent_swap hk hal i j).symm
 rw[e1]at g1;have hp':ent (swapL s.piv.length a s.rows) s.piv.length c≠0:=by rw[ent_swap hk hal,sw_left];exact hp
 have hkS:s.piv.length<(swapL s.piv.length a s.rows).length:=by rw[swap_len];exact hk
 have hw:=swap_wide h.wide hk hal;obtain⟨q1,q2⟩:=g1.step (R':=ent (stepL s.piv.length c s.last (swapL s.piv.length a s.rows))) (by omega) hp' (fun j=>by rw[ent_step hw hkS,if_pos rfl]) (fun i hi j=>by rw[ent_step hw hkS,if_neg hi]);refine⟨fun i hi j=>⟨_,q1 i hi j⟩,by rw[step_len,swap_len];exact hl,step_wide hw hkS,?_⟩;have e2:(s.piv++[c]).length=s.piv.length+1:=by simp
 show Good n (ent O) _ (s.piv++[c]).length (c+1) (fun i=>(s.piv++[c]).getD i 0) _;rw[e2];have e3:(fun i=>(s.piv++[c]).getD i 0)=fun t=>if t=s.piv.length then c else s.piv.getD t 0:=by
  funext t;simp only[List.getD_eq_getElem?_getD];rcases bH t s.piv.length with ht|ht|ht
  ·rw[cE ht,if_neg (by omega)]
  ·rw[ht,mI (pC _),bU,if_pos rfl];rfl
  ·rw[mI (by omega),if_neg (by omega),pW (by simp;omega),pW (by omega)]
 rw[e3];exact q2
theorem GoodL.none{n m c:Nat}{O:List (List Int)}{s:BS}(h:GoodL n m O s c)(hz:s.rows.length≤firstL s.piv.length c s.rows):GoodL n m O s (c+1):=
 ⟨h.len,h.wide,h.good.skip fun i h1 h2=>first_spec.1 i h1 (by have:=h.len;omega) (by rw[h.len];exact h2)⟩
theorem GoodL.col{n m c:Nat}{O:List (List Int)}{s:BS}(h:GoodL n m O s c):GoodL n m O (colB s c) (c+1):=by
 unfold colB;dsimp only;split
 ·rename_i hlt;exact(h.pivot first_spec.2.2 (by rw[←h.len];exact hlt) (first_spec.2.1 hlt)).2
 ·rename_i hge;exact h.none (by omega)
theorem GoodL.down{n m:Nat}{O:List (List Int)}{s:BS}(h:GoodL n m O s 0):∀c,GoodL n m O (downB s c) c
 |0=>h
 |c+1=>by rw[downB_succ];exact(h.down c).col
theorem GoodL.lt{n m c:Nat}{O:List (List Int)}{s:BS}(h:GoodL n m O s c)(hc:c<n):s.piv.length<n:=fQ h.good.kc hc
def redL(k c:Nat)(R:List (List Rat)):List (List Rat):=
 let rk:=(R.getD k []).map fun x=>x*(ent R k c)⁻¹
 R.mapIdx fun i r=>if i=k then rk else List.zipWith (fun x y=>x-ent R i c*y) r rk
theorem ent_red{m k c:Nat}{R:List (List Rat)}(h:wide m R)(hk:k<R.length):(∀j,ent (redL k c R) k j=ent R k j*(ent R k c)⁻¹)∧∀i,i≠k→∀j,ent (redL k c R) i j=ent R i j-ent R i c*ent (redL k c R) k j:=by
 have hk1:(redL k c R).getD k []=(R.getD k []).map fun x=>x*(ent R k c)⁻¹:=by unfold redL;dsimp only;rw[kQ (by simpa using hk),bK,if_pos rfl]
 have e0:∀j,ent (redL k c R) k j=ent R k j*(ent R k c)⁻¹:=fun j=>by
  show((redL k c R).getD k []).getD j 0=(R.getD k []).getD j 0*(ent R k c)⁻¹;rw[hk1];generalize (ent R k c)⁻¹=q;generalize R.getD k []=r;rw[pE,pE,pJ];cases hq:r[j]? with
  |none=>exact(pB7 _).symm
  |some x=>rfl
 refine⟨e0,fun i hik j=>?_⟩;by_cases hi:i<R.length
 ·have h1:=kX h hi;have h2:=kX h hk;have e:(redL k c R).getD i []=List.zipWith (fun x y=>x-ent R i c*y) (R.getD i []) ((R.getD k []).map fun x=>x*(ent R k c)⁻¹):=by
   unfold redL;dsimp only;rw[kQ (by simpa using hi),bK,if_neg hik,kQ hi]
  by_cases hj:j<m
  ·rw[e0]
   have:ent (redL k c R) i j=(R.getD i []).getD j 0-ent R i c*((R.getD k []).getD j 0*(ent R k c)⁻¹):=by
    show((redL k c R).getD i []).getD j 0=_;rw[e,qC0 _ _ _ 0 0 0 (by omega) (by rw[pH];omega)];congr 1;congr 1;have hjk:j<(R.getD k []).length:=by omega
    rw[kQ (by rw[pH];exact hjk),List.getElem_map,kQ hjk]
   exact this
  ·have e1:ent (redL k c R) i j=0:=by
    show((redL k c R).getD i []).getD j 0=0;rw[e];rw[pE,pW (by rw[dL,pH];omega)];rfl
   rw[e1,ent_wide h (by omega) i,e0,ent_wide h (by omega) k]
   grind
 ·rw[ent_out (by simp[redL];omega),ent_out (R:=R) (i:=i) (by omega),ent_out (R:=R) (i:=i) (by omega)]
  grind
theorem red_len(k c:Nat)(R:List (List Rat)):(redL k c R).length=R.length:=by simp[redL]
theorem red_wide{m k c:Nat}{R:List (List Rat)}(h:wide m R)(hk:k<R.length):wide m (redL k c R):=by
 intro r hr;obtain⟨i,hi,e⟩:=pA7 hr;unfold redL at e hi;dsimp only at e;rw[bK]at e;rw[gO]at hi;have h2:=kX h hk;have h3:=h _ (fK hi);rw[←e];split
 ·rw[pH];exact h2
 ·rw[dL,pH,h3,h2];omega
structure RS where
 rows:List (List Rat)
 piv:List Nat
def firstQ(k c:Nat)(R:List (List Rat)):Nat:=k+(R.drop k).findIdx fun r=>!(r.getD c 0==0)
def colR(s:RS)(c:Nat):RS:=
 let k:=s.piv.length;let a:=firstQ k c s.rows
 if a<s.rows.length then⟨redL k c (swapL k a s.rows),s.piv++[c]⟩else s
def downR(s:RS)(c:Nat):RS:=(List.range c).foldl colR s
theorem downR_succ(s:RS)(c:Nat):downR s (c+1)=colR (downR s c) c:=by unfold downR;rw[pB1,pC4];rfl
structure RedG(n m:Nat)(O:List (List Rat))(s:RS)(c:Nat):Prop where
 len:s.rows.length=n
 wide:wide m s.rows
 good:Red n (ent O) (ent s.rows) s.piv.length c (fun i=>s.piv.getD i 0)
theorem firstQ_spec{k c:Nat}{R:List (List Rat)}:(∀i,k≤i→i<firstQ k c R→i<R.length→ent R i c=0)∧(firstQ k c R<R.length→ent R (firstQ k c R) c≠0)∧k≤firstQ k c R:=by
 refine⟨fun i h1 h2 h3=>?_,fun h=>?_,Nat.le_add_right _ _⟩
 ·unfold firstQ at h2;have hlt:i-k<(R.drop k).findIdx fun r=>!(r.getD c 0==0):=by omega
  have:=List.not_of_lt_findIdx hlt;rw[pC5]at this;simp only[show k+(i-k)=i by omega]at this;unfold ent;rw[kQ h3];simpa using this
 ·unfold firstQ at h ⊢;have hlt:((R.drop k).findIdx fun r=>!(r.getD c 0==0))<(R.drop k).length:=by rw[dM];omega
  have:=pD5 (w:=hlt);rw[pC5]at this;unfold ent;rw[kQ h];simpa using this
theorem RedG.col{n m c:Nat}{O:List (List Rat)}{s:RS}(h:RedG n m O s c):RedG n m O (colR s c) (c+1):=by
 have hl:=h.len;unfold colR;dsimp only;split
 ·rename_i hlt;have ha:=(firstQ_spec (k:=s.piv.length) (c:=c) (R:=s.rows)).2.2;have hk:s.piv.length<s.rows.length:=by omega
  have g1:=h.good.swap ha (by omega);have e1:(fun i=>ent s.rows (sw s.piv.length (firstQ s.piv.length c s.rows) i))=ent (swapL s.piv.length (firstQ s.piv.length c s.rows) s.rows):=by funext i j;exact(ent_swap hk hlt i j).symm
  rw[e1]at g1;have hp':ent (swapL s.piv.length (firstQ s.piv.length c s.rows) s.rows) s.piv.length c≠0:=by rw[ent_swap hk hlt,sw_left];exact firstQ_spec.2.1 hlt
  have hkS:s.piv.length<(swapL s.piv.length (firstQ s.piv.length c s.rows) s.rows).length:=by rw[swap_len];exact hk
  have hw:=swap_wide h.wide hk hlt;obtain⟨q1,q2⟩:=ent_red (c:=c) hw hkS;have q3:=g1.step (by omega) hp' q1 q2;refine⟨by show(redL _ _ _).length=n;rw[red_len,swap_len];exact hl,red_wide hw hkS,?_⟩;have e2:(s.piv++[c]).length=s.piv.length+1:=by simp
  show Red n (ent O) _ (s.piv++[c]).length (c+1) (fun i=>(s.piv++[c]).getD i 0);rw[e2];have e3:(fun i=>(s.piv++[c]).getD i 0)=fun t=>if t=s.piv.length then c else s.piv.getD t 0:=by
   funext t;simp only[List.getD_eq_getElem?_getD];rcases bH t s.piv.length with ht|ht|ht
   ·rw[cE ht,if_neg (by omega)]
   ·rw[ht,mI (pC _),bU,if_pos rfl];rfl
   ·rw[mI (by omega),if_neg (by omega),pW (by simp;omega),pW (by omega)]
  rw[e3];exact q3
 ·rename_i hge;exact⟨h.len,h.wide,h.good.skip fun i h1 h2=>firstQ_spec.1 i h1 (by omega) (by omega)⟩
theorem RedG.down{n m:Nat}{O:List (List Rat)}{s:RS}(h:RedG n m O s 0):∀c,RedG n m O (downR s c) c
 |0=>h
 |c+1=>by rw[downR_succ];exact(h.down c).col
theorem qB6{n m:Nat}{O:List (List Rat)}{s:RS}(h:RedG n m O s 0)(n0:Nat):∀c,n0≤c→((downR s n0).piv <+: (downR s c).piv)∧(∀i,(downR s n0).piv.length≤i→i<(downR s c).piv.length→n0≤(downR s c).piv.getD i 0)∧((downR s n0).piv.length=n→downR s c=downR s n0):=by
 intro c hc
 induction c with
 |zero=>
  obtain rfl:n0=0:=by omega
  exact⟨List.prefix_refl _,fun i h1 h2=>by omega,fun _=>rfl⟩
 | succ c ih=>
  by_cases e:n0=c+1
  ·subst e;exact⟨List.prefix_refl _,fun i h1 h2=>by omega,fun _=>rfl⟩
  ·obtain⟨h1,h2,h3⟩:=ih (by omega);rw[downR_succ];have hg:=h.down c;refine⟨?_,?_,fun hn=>?_⟩
   ·unfold colR;dsimp only;split
    ·exact h1.trans (List.prefix_append ..)
    ·exact h1
   ·unfold colR;dsimp only;split
    ·intro i h4 h5;simp only[List.length_append,List.length_singleton]at h5;simp only[List.getD_eq_getElem?_getD];by_cases hi:i<(downR s c).piv.length
     ·rw[cE hi];have:=h2 i h4 hi;simpa[List.getD_eq_getElem?_getD]using this
     ·rw[mI (by omega),show i-(downR s c).piv.length=0 by omega];show n0≤c;omega
    ·exact h2
   ·have e3:=h3 hn;unfold colR;dsimp only;rw[if_neg ?_]
    ·exact e3
    ·have:=firstQ_spec (k:=(downR s c).piv.length) (c:=c) (R:=(downR s c).rows);rw[hg.len]
     have:(downR s c).piv.length=n:=by rw[e3];exact hn
     omega
def augI(D:Int)(N:List (List Int)):List (List Int):=N.mapIdx fun i r=>r++(List.replicate N.length 0).set i D
def augQ(Q:List (List Rat)):List (List Rat):=Q.mapIdx fun i r=>r++(List.range Q.length).map fun k=>if k=i then 1 else 0
theorem wC3{α β:Type}(f:Nat→List α→List β)(l:List (List α)){i:Nat}(hi:i<l.length):(l.mapIdx f).getD i []=f i (l.getD i []):=by
 have h:i<(l.mapIdx f).length:=by rw[gO];exact hi
 rw[kQ h,bK,kQ hi]
theorem qGC{α:Type}{a b:List α}{j:Nat}(z:α)(h:j<a.length):(a++b).getD j z=a.getD j z:=by rw[pE,pE,cE h]
theorem wYB{α:Type}{a b:List α}{j:Nat}(z:α):(a++b).getD (a.length+j) z=b.getD j z:=by rw[pE,pE,mI (by omega),show a.length+j-a.length=j by omega]
theorem augI_len(D:Int)(N:List (List Int)):(augI D N).length=N.length:=by simp[augI]
theorem augQ_len(Q:List (List Rat)):(augQ Q).length=Q.length:=by simp[augQ]
theorem augI_wide{D:Int}{N:List (List Int)}{n:Nat}(hn:N.length=n)(h:wide n N):wide (n+n) (augI D N):=by intro r hr;obtain⟨i,hi,e⟩:=pA7 hr;unfold augI at e hi;rw[bK]at e;rw[gO]at hi;rw[←e,mC,cL,dA,h _ (fK hi),hn]
theorem augQ_wide{Q:List (List Rat)}{n:Nat}(hn:Q.length=n)(h:wide n Q):wide (n+n) (augQ Q):=by intro r hr;obtain⟨i,hi,e⟩:=pA7 hr;unfold augQ at e hi;rw[bK]at e;rw[gO]at hi;rw[←e,mC,pH,cZ,h _ (fK hi),hn]
theorem augI_ok{D:Int}{N:List (List Int)}{n:Nat}(hD:D≠0)(hn:N.length=n)(h:wide n N):Aug n (fun i j=>((ent N i j:Int):Rat)/D) D (ratT (ent (augI D N))):=by
 refine⟨rat0 hD,fun i hi j hj=>?_,fun i hi j hj=>?_⟩
 ·have e:ent (augI D N) i j=ent N i j:=by
   show((augI D N).getD i []).getD j 0=_;unfold augI;rw[wC3 _ _ (by omega)];exact qGC 0 (by rw[kX h (by omega)];exact hj)
  show((ent (augI D N) i j:Int):Rat)=_;rw[e,Rat.mul_comm,fP (rat0 hD)]
 ·have e:ent (augI D N) i (n+j)=if i=j then D else 0:=by
   show((augI D N).getD i []).getD (n+j) 0=_;unfold augI;rw[wC3 _ _ (by omega)];have hl:=kX h (i:=i) (by omega);rw[←hl,wYB,pE,pX,dA];by_cases hij:i=j
   ·rw[if_pos hij,if_pos hij,if_pos (by omega)];rfl
   ·rw[if_neg hij,if_neg hij,dC,if_pos (by omega)];rfl
  show((ent (augI D N) i (n+j):Int):Rat)=_;rw[e];unfold dlt;split<;>simp
theorem qBE{Q:List (List Rat)}{n:Nat}{S:Nat→Nat→Rat}(hn:Q.length=n)(h:wide n Q)(hS:∀i,i<n→∀j,j<n→ent Q i j=S i j):Aug n S 1 (ent (augQ Q)):=by
 refine⟨by decide,fun i hi j hj=>?_,fun i hi j hj=>?_⟩
 ·have e:ent (augQ Q) i j=ent Q i j:=by
   show((augQ Q).getD i []).getD j 0=_;unfold augQ;rw[wC3 _ _ (by omega)];exact qGC 0 (by rw[kX h (by omega)];exact hj)
  rw[e,hS i hi j hj];grind
 ·have e:ent (augQ Q) i (n+j)=if i=j then 1 else 0:=by
   show((augQ Q).getD i []).getD (n+j) 0=_;unfold augQ;rw[wC3 _ _ (by omega)];have hl:=kX h (i:=i) (by omega);rw[←hl,wYB,pE,pJ,dD (by omega)];show(if j=i then(1:Rat)else 0)=_;by_cases hij:i=j
   ·rw[if_pos hij,if_pos hij.symm]
   ·rw[if_neg hij,if_neg (fun e=>hij e.symm)]
  rw[e];show _=1*dlt i j;unfold dlt;split<;>grind
def startB(D:Int)(N:List (List Int)):BS:=⟨augI D N,1,[],0⟩
def startR(Q:List (List Rat)):RS:=⟨augQ Q,[]⟩
def okR(n:Nat)(s:RS):Prop:=s.piv.length=n∧∀i,i<n→s.piv.getD i 0=i
theorem goodB{D:Int}{N:List (List Int)}{n:Nat}(hn:N.length=n)(h:wide n N)(c:Nat):GoodL n (n+n) (augI D N) (downB (startB D N) c) c:=
 GoodL.down (s:=startB D N) (.start (by rw[augI_len];exact hn) (augI_wide hn h)) c
theorem goodR{Q:List (List Rat)}{n:Nat}(hn:Q.length=n)(h:wide n Q)(c:Nat):RedG n (n+n) (augQ Q) (downR (startR Q) c) c:=
 RedG.down (s:=startR Q) ⟨by show(augQ Q).length=n;rw[augQ_len];exact hn,augQ_wide hn h,.start _ (qBE hn h (S:=ent Q) fun _ _ _ _=>rfl)⟩ c
theorem inverses{D:Int}{N:List (List Int)}{Q:List (List Rat)}{n:Nat}(hD:D≠0)(hn:N.length=n)(h:wide n N)(hn2:Q.length=n)(h2:wide n Q)(hS:∀i,i<n→∀j,j<n→ent Q i j=((ent N i j:Int):Rat)/D) :
  ((downB (startB D N) n).piv.length=n↔okR n (downR (startR Q) (n+n)))∧(downR (startR Q) (n+n)).piv.length=n ∧
  ((downB (startB D N) n).piv.length=n→∀i,i<n→∀j,j<n→((ent (downB (startB D N) n).rows i (n+j):Int):Rat)/(downB (startB D N) n).last=ent (downR (startR Q) (n+n)).rows i (n+j)):=by
 have gb:=goodB (D:=D) hn h n;have gr:=goodR hn2 h2 n;have ge:=goodR hn2 h2 (n+n);obtain⟨e1,e2⟩:=ends (D:=D) (augI_ok hD hn h) (qBE hn2 h2 hS) gb.good gr.good;have hb0:RedG n (n+n) (augQ Q) (startR Q) 0:=goodR hn2 h2 0;obtain⟨b1,b2,b3⟩:=qB6 hb0 n (n+n) (by omega);have hfull:(downR (startR Q) (n+n)).piv.length=n:=by
  apply cN;intro hne;have hlt:(downR (startR Q) (n+n)).piv.length<n:=by have:=ge.good.kn;omega
  exact ge.good.nz.row (n-1) (by omega) fun j hj=>ge.good.z (n-1) (by omega) (by omega) j hj
 refine⟨⟨fun hb=>?_,fun hr=>?_⟩,hfull,fun hb=>?_⟩
 ·have hk:=e1.1 hb;refine⟨hfull,fun i hi=>?_⟩;rw[b3 hk];exact gr.good.di hk i (by omega)
 ·apply cN;intro hne;have hne2:¬(downR (startR Q) n).piv.length=n:=fun e=>hne (e1.2 e);have hlt:(downR (startR Q) n).piv.length<n:=by have:=gr.good.kn;omega
  have q1:=b2 _ (pC _) (by rw[hfull];exact hlt);rw[hr.2 _ hlt]at q1;omega
 ·rw[b3 (e1.1 hb)];exact e2 hb
theorem downB_last(O:List (List Int)):∀c,(downB ⟨O,1,[],0⟩ c).piv=[]→(downB ⟨O,1,[],0⟩ c).last=1
 |0,_=>rfl
 |c+1,h=>by
  rw[downB_succ]at h ⊢;unfold colB at h ⊢;dsimp only at h ⊢;split at h
  ·simp at h
  ·rename_i hn;rw[if_neg hn];exact downB_last O c h
theorem downB_sw(O:List (List Int)):∀c,(downB ⟨O,1,[],0⟩ c).swaps≤c
 |0=>pC _
 |c+1=>by
  have:=downB_sw O c;rw[downB_succ];unfold colB;dsimp only;split
  ·dsimp only;split<;>omega
  ·omega
theorem GoodL.d0{n m c:Nat}{O:List (List Int)}{s:BS}(h:GoodL n m O s c):s.last≠0:=by obtain⟨_,_,_,he⟩:=h.good.el;exact he.d0
theorem GoodL.dlast{n m c:Nat}{O:List (List Int)}{s:BS}(h:GoodL n m O s c)(hk:s.piv≠[]):∃i j,ent s.rows i j=s.last:=by obtain⟨_,_,_,he⟩:=h.good.el;have hl:0<s.piv.length:=pE6.2 hk;have:=he.pv (s.piv.length-1) (by omega) (s.piv.length-1);rw[if_pos rfl]at this;exact⟨_,_,this⟩
end Go.Dt
