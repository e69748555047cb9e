/- Knuth's long division, in numbers: a guessed digit, what is taken away, what is added back. Plain; no condition. -/
import Derived.Test.YtkjhfnhgefbhhaaGreatCd08
import Derived.Test.YtkjhfnhgefbhhaaGreatCd09
import Derived.Test.YtkjhfnhgefbhhaaGreatCd12
import Derived.Test.YtkjhfnhgefbhhaaGreatCd11
set_option linter.all false
namespace Go.Proofs.YtkjhfnhgefbhhaaGreat
open Go.RowKit
structure Guess (top next u2 t Q q r:Nat):Prop where
 eq:q*top+r=t
 rB:r<4294967296
 ge:Q≤q
 le:q≤4294967297
 far:4294967297≤q→r+top<4294967296
structure Digit (top next u2 t Q:Nat):Prop where
 top1:2147483648≤top
 top2:top<4294967296
 next2:next<4294967296
 u22:u2<4294967296
 big:∀ q,4294967296≤q→Q<q
 fit:∀ q,t*4294967296+u2<q*(top*4294967296+next)→Q<q
 tle:t<top*4294967296+4294967296
theorem Digit.start {top next u2 t Q:Nat} (d:Digit top next u2 t Q):Guess top next u2 t Q (t / top) (t % top):=by
 have h1:=d.top1
 have h2:=d.top2
 have h3:=Nat.div_add_mod t top
 have h4:=Nat.mod_lt t (show 0<top by omega)
 have h5:=d.tle
 have hc:t / top*top=top*(t / top):=Nat.mul_comm _ _
 refine ⟨by omega,by omega,?_,?_,?_⟩
 ·rcases Nat.lt_or_ge (t / top) Q with h | h
  ·exfalso
   have:=d.fit (t / top+1) (by
    have e:(t / top+1)*(top*4294967296+next)=(top*(t / top)+top)*4294967296+(t / top+1)*next:=by
     rw [Nat.mul_add,← Nat.mul_assoc,Nat.add_mul (t / top) 1 top,Nat.one_mul,hc]
    have h6:t+1≤top*(t / top)+top:=by omega
    have h7:(t+1)*4294967296≤(top*(t / top)+top)*4294967296:=Nat.mul_le_mul_right _ h6
    have h8:=d.u22
    rw [e]
    omega)
   omega
  ·exact h
 ·rcases Nat.lt_or_ge (t / top) 4294967298 with h | h
  ·omega
  ·exfalso
   have:top*4294967298≤top*(t / top):=Nat.mul_le_mul_left _ h
   omega
 ·intro h
  have:top*4294967297≤top*(t / top):=Nat.mul_le_mul_left _ h
  omega
theorem Guess.down {top next u2 t Q q r:Nat} (d:Digit top next u2 t Q) (g:Guess top next u2 t Q q r) (h:4294967296≤q∨r*4294967296+u2<q*next) :
  Q≤q - 1∧1≤q∧(q - 1)*top+(r+top)=t∧(r+top<4294967296→Guess top next u2 t Q (q - 1) (r+top)) ∧
   (4294967296≤r+top→q - 1<4294967296∧(q - 1)*(top*4294967296+next)≤t*4294967296+u2):=by
 have hq:Q<q:=by
  rcases h with h | h
  ·exact d.big q h
  ·refine d.fit q ?_
   have e:q*(top*4294967296+next)=q*top*4294967296+q*next:=by rw [Nat.mul_add,← Nat.mul_assoc]
   have h5:t*4294967296=q*top*4294967296+r*4294967296:=by rw [← g.eq,Nat.add_mul]
   rw [e,h5,Nat.add_assoc]
   exact Nat.add_lt_add_left h _
 obtain ⟨p,rfl⟩:∃ p,q=p+1:=⟨q - 1,by omega⟩
 have he:p*top+(r+top)=t:=by
  have:=g.eq
  rw [Nat.add_mul,Nat.one_mul] at this
  omega
 refine ⟨by omega,by omega,by simpa using he,fun hr=>⟨by simpa using he,hr,by omega,by have:=g.le; omega,fun h2=>by have:=g.le; omega⟩,fun hr=>?_⟩
 have hp:p<4294967296:=by
  have h1:=g.le
  rcases Nat.lt_or_ge p 4294967296 with h2 | h2
  ·exact h2
  ·have:=g.far (by omega)
   omega
 refine ⟨by omega,?_⟩
 rw [Nat.add_sub_cancel]
 have e:p*(top*4294967296+next)=p*top*4294967296+p*next:=by rw [Nat.mul_add,← Nat.mul_assoc]
 have h5:t*4294967296=p*top*4294967296+(r+top)*4294967296:=by rw [← he,Nat.add_mul]
 have h6:p*next≤4294967296*4294967296:=Nat.mul_le_mul (by omega) (Nat.le_of_lt d.next2)
 have h7:4294967296*4294967296≤(r+top)*4294967296:=Nat.mul_le_mul_right _ hr
 rw [e]
 omega
theorem Guess.end {top next u2 t Q q r:Nat} (g:Guess top next u2 t Q q r) (h:¬ (4294967296≤q∨r*4294967296+u2<q*next)) :
  q<4294967296∧q*(top*4294967296+next)≤t*4294967296+u2:=by
 have e:q*(top*4294967296+next)=q*top*4294967296+q*next:=by rw [Nat.mul_add,← Nat.mul_assoc]
 have h5:t*4294967296=q*top*4294967296+r*4294967296:=by rw [← g.eq,Nat.add_mul]
 rw [e]
 omega
theorem digit_of (P W V top next u2 t:Nat) (hP:0<P) (h1:2147483648≤top) (h2:top<4294967296) (h3:next<4294967296) (h4:u2<4294967296)
  (hV:(top*4294967296+next)*P≤V) (hW1:W<(t*4294967296+u2+1)*P) (hWV:W<V*4294967296) (ht:t<top*4294967296+4294967296):Digit top next u2 t (W / V):=by
 have hV0:0<V:=Nat.lt_of_lt_of_le (Nat.mul_pos (by omega) hP) hV
 refine ⟨h1,h2,h3,h4,fun q hq=>?_,fun q hq=>?_,ht⟩
 ·exact Nat.lt_of_lt_of_le ((Nat.div_lt_iff_lt_mul hV0).2 (by rw [Nat.mul_comm]; exact hWV)) hq
 ·refine (Nat.div_lt_iff_lt_mul hV0).2 (Nat.lt_of_lt_of_le hW1 ?_)
  refine Nat.le_trans (Nat.mul_le_mul_right P hq) ?_
  rw [Nat.mul_assoc]
  exact Nat.mul_le_mul_left q hV
theorem guess_le (P W V top next u2 t q:Nat) (hP:0<P) (hPV:4294967296*P≤V) (hV:V<(top*4294967296+next+1)*P) (hW:(t*4294967296+u2)*P≤W) (hq:q<4294967296)
  (h:q*(top*4294967296+next)≤t*4294967296+u2):q≤W / V+1:=by
 have hV0:0<V:=Nat.lt_of_lt_of_le (Nat.mul_pos (by decide) hP) hPV
 rcases Nat.lt_or_ge (W / V+1) q with hlt | hge
 ·exfalso
  have a1:(W / V+2)*V≤q*V:=Nat.mul_le_mul_right _ hlt
  have a2:q*V≤q*((top*4294967296+next+1)*P):=Nat.mul_le_mul_left _ (Nat.le_of_lt hV)
  have a3:q*((top*4294967296+next+1)*P)=q*(top*4294967296+next)*P+q*P:=by
   rw [← Nat.mul_assoc,Nat.mul_add q,Nat.mul_one,Nat.add_mul]
  have a4:q*(top*4294967296+next)*P≤(t*4294967296+u2)*P:=Nat.mul_le_mul_right _ h
  have a5:q*P<4294967296*P:=(Nat.mul_lt_mul_right hP).2 hq
  have a6:=Nat.div_add_mod W V
  have a7:=Nat.mod_lt W hV0
  have a8:(W / V+2)*V=V*(W / V)+2*V:=by rw [Nat.add_mul,Nat.mul_comm (W / V)]
  omega
 ·exact hge
theorem take_limb (u q v carry borrow:Nat) (hu:u<4294967296) (hq:q<4294967296) (hv:v<4294967296) (hc:carry<4294967296) (hb:borrow≤1) :
  q*v+carry<18446744073709551616∧(q*v+carry) / 4294967296<4294967296 ∧
  (u+18446744073709551616 - (q*v+carry) % 4294967296 - borrow) % 18446744073709551616 / 9223372036854775808≤1 ∧
  (u+18446744073709551616 - (q*v+carry) % 4294967296 - borrow) % 18446744073709551616 % 4294967296+(q*v+carry) % 4294967296+borrow =
   u+4294967296*((u+18446744073709551616 - (q*v+carry) % 4294967296 - borrow) % 18446744073709551616 / 9223372036854775808):=by
 have h1:q*v≤4294967295*4294967295:=Nat.mul_le_mul (by omega) (by omega)
 generalize q*v=p at *
 refine ⟨by omega,by omega,by omega,by omega⟩
theorem take_sum (Pi A U Vi q u v c b d' c' b' lo:Nat) (h:A+q*Vi=U+Pi*(c+b)) (hp:q*v+c=4294967296*c'+lo) (hd:d'+lo+b=u+4294967296*b') :
  (A+Pi*d')+q*(Vi+Pi*v)=(U+Pi*u)+Pi*4294967296*(c'+b'):=by
 have e1:q*(Vi+Pi*v)=q*Vi+Pi*(q*v):=by rw [Nat.mul_add,Nat.mul_left_comm]
 have e2:Pi*(q*v)+Pi*c=Pi*4294967296*c'+Pi*lo:=by
  rw [← Nat.mul_add,hp,Nat.mul_add,← Nat.mul_assoc]
 have e3:Pi*d'+Pi*lo+Pi*b=Pi*u+Pi*4294967296*b':=by
  rw [← Nat.mul_add,← Nat.mul_add,hd,Nat.mul_add,← Nat.mul_assoc]
 rw [e1,Nat.mul_add (Pi*4294967296)]
 rw [Nat.mul_add] at h
 omega
theorem take_fits (Pn A U V W q un c b:Nat) (hV:0<V) (hVP:V≤Pn) (h:A+q*V=U+Pn*(c+b)) (hW:W=U+Pn*un) (hge:W / V≤q) (hle:c+b≤un) :
  q=W / V∧A=W % V∧un - c - b=0:=by
 have e1:Pn*un=Pn*(c+b)+Pn*(un - (c+b)):=by rw [← Nat.mul_add]; congr 1; omega
 have e2:A+Pn*(un - (c+b))+q*V=W:=by omega
 have hq:q≤W / V:=(Nat.le_div_iff_mul_le hV).2 (by omega)
 have hqe:q=W / V:=by omega
 have e3:=Nat.div_add_mod W V
 have e4:=Nat.mod_lt W hV
 have e5:q*V=V*(W / V):=by rw [hqe,Nat.mul_comm]
 have hz:un - (c+b)=0:=by
  rcases Nat.eq_zero_or_pos (un - (c+b)) with h0 | h0
  ·exact h0
  ·exfalso
   have:Pn*1≤Pn*(un - (c+b)):=Nat.mul_le_mul_left _ h0
   omega
 rw [hz,Nat.mul_zero] at e2
 exact ⟨hqe,by omega,by omega⟩
theorem take_lent (Pn A U V W q un c b:Nat) (hV:0<V) (hVP:V<Pn) (hA:A<Pn) (h:A+q*V=U+Pn*(c+b)) (hW:W=U+Pn*un) (hle:q≤W / V+1) (hlt:un<c+b) :
  q=W / V+1∧c+b=un+1∧A+V=W % V+Pn:=by
 have e1:Pn*(c+b)=Pn*un+Pn*(c+b - un):=by rw [← Nat.mul_add]; congr 1; omega
 have e2:A+q*V=W+Pn*(c+b - un):=by omega
 have e3:=Nat.div_add_mod W V
 have e4:=Nat.mod_lt W hV
 have hm:Pn*1≤Pn*(c+b - un):=Nat.mul_le_mul_left _ (by omega)
 have hqW:W<q*V:=by omega
 have hq:W / V<q:=(Nat.div_lt_iff_lt_mul hV).2 hqW
 have hqe:q=W / V+1:=by omega
 have e5:q*V=V*(W / V)+V:=by rw [hqe,Nat.add_mul,Nat.one_mul,Nat.mul_comm]
 have hz:c+b - un=1:=by
  rcases Nat.lt_or_ge (c+b - un) 2 with h0 | h0
  ·omega
  ·exfalso
   have:Pn*2≤Pn*(c+b - un):=Nat.mul_le_mul_left _ h0
   omega
 rw [hz] at e2
 exact ⟨hqe,by omega,by omega⟩
end Go.Proofs.YtkjhfnhgefbhhaaGreat
/- Knuth's long division, on lists. Plain. -/
namespace Go.Proofs.YtkjhfnhgefbhhaaGreat
open Go.RowKit
theorem getD_drop (us:List Nat) (j i:Nat):(us.drop j).getD i 0=us.getD (j+i) 0:=by simp [List.getD]
theorem win_split (us:List Nat) (j n:Nat) (hn:2≤n) (hx:∀ x,x∈us→x<4294967296) (hhi:wD (us.drop (j+1+n))=0) :
  ∃ lo,lo<4294967296 ^ (n - 2)∧wD (us.drop j)=lo+4294967296 ^ (n - 2)*(us.getD (j+(n - 2)) 0+4294967296*(us.getD (j+(n - 1)) 0+4294967296*us.getD (j+n) 0)):=by
 refine ⟨wD ((us.drop j).take (n - 2)),z7 _ _ fun x h=>hx x (List.mem_of_mem_drop h),?_⟩
 rw [qZ (us.drop j) (n - 2),List.drop_drop,qJ us (j+(n - 2)),qJ us (j+(n - 2)+1),qJ us (j+(n - 2)+1+1)]
 rw [show j+(n - 2)+1=j+(n - 1) by omega,show j+(n - 1)+1=j+n by omega,show j+n+1=j+1+n by omega,hhi]
 simp
theorem hi_zero (us:List Nat) (k n V:Nat) (h:wD (us.drop k)<V) (hV:V<4294967296 ^ n):wD (us.drop (k+n))=0:=by
 have h1:=qZ (us.drop k) n
 rw [List.drop_drop] at h1
 rcases Nat.eq_zero_or_pos (wD (us.drop (k+n))) with h0 | h0
 ·exact h0
 ·have:4294967296 ^ n*1≤4294967296 ^ n*wD (us.drop (k+n)):=Nat.mul_le_mul_left _ h0
  omega
theorem top_split (vs:List Nat) (n:Nat) (hn:2≤n) (hl:vs.length=n) (hx:∀ x,x∈vs→x<4294967296) :
  ∃ lo,lo<4294967296 ^ (n - 2)∧wD vs=lo+4294967296 ^ (n - 2)*(vs.getD (n - 2) 0+4294967296*vs.getD (n - 1) 0):=by
 refine ⟨wD (vs.take (n - 2)),z7 _ _ hx,?_⟩
 rw [qZ vs (n - 2),qJ vs (n - 2),qJ vs (n - 2+1)]
 rw [show n - 2+1=n - 1 by omega,show n - 1+1=n by omega,List.drop_of_length_le (Nat.le_of_eq hl)]
 simp [wD]
theorem long_digit (us vs:List Nat) (j n:Nat) (hn:2≤n) (hl:vs.length=n) (hu:∀ x,x∈us→x<4294967296) (hv:∀ x,x∈vs→x<4294967296)
  (htop:2147483648≤vs.getD (n - 1) 0) (hW:wD (us.drop (j+1))<wD vs) {t:Nat} (ht:us.getD (j+n) 0*4294967296+us.getD (j+(n - 1)) 0=t) :
  Digit (vs.getD (n - 1) 0) (vs.getD (n - 2) 0) (us.getD (j+(n - 2)) 0) t (wD (us.drop j) / wD vs) ∧
  (∀ q,q<4294967296→q*(vs.getD (n - 1) 0*4294967296+vs.getD (n - 2) 0)≤t*4294967296+us.getD (j+(n - 2)) 0→q≤wD (us.drop j) / wD vs+1):=by
 have hVB:wD vs<4294967296 ^ n:=by rw [← hl]; exact q9 vs hv
 have hhi:=hi_zero us (j+1) n _ hW hVB
 obtain ⟨lo,hlo,e1⟩:=win_split us j n hn hu hhi
 obtain ⟨lv,hlv,e2⟩:=top_split vs n hn hl hv
 have h2:=getD_lt us hu (j+(n - 2))
 have hnx:=getD_lt vs hv (n - 2)
 have htp:=getD_lt vs hv (n - 1)
 have e3:wD (us.drop j)=us.getD j 0+4294967296*wD (us.drop (j+1)):=qJ us j
 have hj:=getD_lt us hu j
 have htl:t<vs.getD (n - 1) 0*4294967296+4294967296:=by
  have hs:=qZ (us.drop (j+1)) (n - 2)
  rw [List.drop_drop,qJ us (j+1+(n - 2)),qJ us (j+1+(n - 2)+1)] at hs
  rw [show j+1+(n - 2)+1=j+n by omega,show j+1+(n - 2)=j+(n - 1) by omega,show j+n+1=j+1+n by omega,hhi] at hs
  have hP:0<4294967296 ^ (n - 2):=Nat.pow_pos (by decide)
  have hc:us.getD (j+(n - 1)) 0+4294967296*(us.getD (j+n) 0+4294967296*0)=t:=by rw [← ht]; omega
  rw [hc] at hs
  generalize 4294967296 ^ (n - 2)=P at *
  rcases Nat.lt_or_ge t (vs.getD (n - 1) 0*4294967296+4294967296) with h | h
  ·exact h
  ·exfalso
   have h5:P*(vs.getD (n - 2) 0+4294967296*vs.getD (n - 1) 0+1)≤P*t:=Nat.mul_le_mul_left _ (by omega)
   rw [Nat.mul_add,Nat.mul_one] at h5
   omega
 have hP:0<4294967296 ^ (n - 2):=Nat.pow_pos (by decide)
 have e1':wD (us.drop j)=lo+4294967296 ^ (n - 2)*(t*4294967296+us.getD (j+(n - 2)) 0):=by
  rw [e1,← ht]
  congr 2
  omega
 have e2':wD vs=lv+4294967296 ^ (n - 2)*(vs.getD (n - 1) 0*4294967296+vs.getD (n - 2) 0):=by
  rw [e2]
  congr 2
  omega
 generalize 4294967296 ^ (n - 2)=P at *
 generalize us.getD (j+(n - 2)) 0=u2 at *
 generalize vs.getD (n - 2) 0=nx at *
 generalize vs.getD (n - 1) 0=tp at *
 have f1:(tp*4294967296+nx)*P≤wD vs:=by rw [e2',Nat.mul_comm]; omega
 have f2:wD (us.drop j)<(t*4294967296+u2+1)*P:=by rw [e1',Nat.add_mul _ 1 P,Nat.one_mul,Nat.mul_comm P]; omega
 have f3:wD (us.drop j)<wD vs*4294967296:=by rw [e3]; omega
 refine ⟨digit_of P _ _ tp nx u2 t hP htop htp hnx h2 f1 f2 f3 htl,fun q hq hle=>?_⟩
 refine guess_le P _ _ tp nx u2 t q hP ?_ ?_ ?_ hq hle
 ·refine Nat.le_trans ?_ f1
  exact Nat.mul_le_mul_right _ (by omega)
 ·rw [e2',Nat.add_mul _ 1 P,Nat.one_mul,Nat.mul_comm P]; omega
 ·rw [e1',Nat.mul_comm]; omega
theorem win_set (us:List Nat) (j i d:Nat) (h:j+i<us.length) :
  (us.set (j+i) d).take j=us.take j∧(us.set (j+i) d).drop (j+i+1)=us.drop (j+i+1)∧wD (((us.set (j+i) d).drop j).take (i+1))=wD ((us.drop j).take i)+4294967296 ^ i*d:=by
 refine ⟨by rw [List.take_set_of_le (by omega)],by rw [List.drop_set_of_lt (by omega)],?_⟩
 have e:(us.set (j+i) d).drop j=(us.drop j).set i d:=by
  rw [List.drop_set,if_neg (by omega)]
  simp
 rw [e]
 exact set_val (us.drop j) (us.length - j) i d (by simp) (by omega)
theorem lead_spec (x:Nat) (h0:0<x) (h:x<4294967296):∃ L,Lib.bitLen x=L∧1≤L∧L≤32∧x<2 ^ L∧2 ^ (L - 1)≤x:=by
 refine ⟨_,rfl,?_⟩
 have h32:=Lib.bitLen_le x 32 (by decide) (by simpa using h)
 have hpos:∀ y,0<y→y<2 ^ 64→1≤Lib.bitLen y:=fun y hy hl=>by rw [Lib.bitLen_half y (by omega) hl]; omega
 have h64:x<2 ^ 64:=Nat.lt_of_lt_of_le h (by decide)
 have h1:=hpos x h0 h64
 refine ⟨h1,h32,?_,?_⟩
 ·rcases Nat.lt_or_ge x (2 ^ Lib.bitLen x) with hh | hh
  ·exact hh
  ·exfalso
   have e:=Lib.bitLen_shift (Lib.bitLen x) x hh h64
   have hq:0<x / 2 ^ Lib.bitLen x:=Nat.div_pos hh (Nat.pow_pos (by decide))
   have:=hpos _ hq (Nat.lt_of_le_of_lt (Nat.div_le_self _ _) h64)
   omega
 ·rcases Nat.lt_or_ge x (2 ^ (Lib.bitLen x - 1)) with hh | hh
  ·exfalso
   have:=Lib.bitLen_le x (Lib.bitLen x - 1) (by omega) hh
   omega
  ·exact hh
theorem leftG_more (xs:List Nat) (s c:Nat) (h:(zA xs s c).length=xs.length+1):4294967296 ^ xs.length≤wD (zA xs s c):=by
 induction xs generalizing c with
 | nil =>
  unfold zA at h ⊢
  split
  ·simp_all
  ·simp [wD]; omega
 | cons x xs ih =>
  simp only [zA,List.length_cons,wD] at h ⊢
  have:=ih _ (by omega:(zA xs s (x*2 ^ s / 4294967296)).length=xs.length+1)
  rw [Nat.pow_succ,Nat.mul_comm]
  have h2:=Nat.mul_le_mul_left 4294967296 this
  omega
theorem long_start (ys:List Nat) (n s:Nat) (hn:2≤n) (hl:ys.length=n) (hy:∀ x,x∈ys→x<4294967296) (h0:0<ys.getD (n - 1) 0) (hs:Lib.bitLen (ys.getD (n - 1) 0)+s=32) :
  s<32∧(zA ys s 0).length=n∧(∀ x,x∈zA ys s 0→x<4294967296)∧wD (zA ys s 0)=wD ys*2 ^ s∧2147483648≤(zA ys s 0).getD (n - 1) 0:=by
 have htl:=getD_lt ys hy (n - 1)
 obtain ⟨L,hL,l1,l2,l3,l4⟩:=lead_spec _ h0 htl
 rw [hL] at hs
 have hs32:s<32:=by omega
 have hnat:=leftG_nat ys s 0 hs32
 rw [Nat.add_zero] at hnat
 have hok:=leftG_ok ys s 0 hs32 hy (Nat.pow_pos (by decide))
 have hlen:=leftG_len ys s 0
 have e1:=qZ ys (n - 1)
 rw [qJ ys (n - 1),show n - 1+1=n by omega,List.drop_of_length_le (Nat.le_of_eq hl)] at e1
 have e2:=z7 ys (n - 1) hy
 have hPn:4294967296 ^ n=4294967296 ^ (n - 1)*4294967296:=by rw [← Nat.pow_succ]; congr 1; omega
 have hP:0<4294967296 ^ (n - 1):=Nat.pow_pos (by decide)
 have p1:2 ^ L*2 ^ s=4294967296:=by rw [← Nat.pow_add,hs]
 have p2:2 ^ (L - 1)*2 ^ s=2147483648:=by rw [← Nat.pow_add,show L - 1+s=31 by omega]
 simp only [wD,Nat.mul_zero,Nat.add_zero] at e1
 generalize ys.getD (n - 1) 0=tp at *
 have q1:wD ys<4294967296 ^ (n - 1)*(tp+1):=by rw [Nat.mul_add]; omega
 have q2:wD ys*2 ^ s<4294967296 ^ n:=by
  refine Nat.lt_of_lt_of_le ((Nat.mul_lt_mul_right (Nat.pow_pos (by decide):0<2 ^ s)).2 q1) ?_
  rw [hPn,Nat.mul_assoc]
  refine Nat.mul_le_mul_left _ ?_
  rw [← p1]
  exact Nat.mul_le_mul_right _ l3
 have q3:4294967296 ^ (n - 1)*2147483648≤wD ys*2 ^ s:=by
  have:4294967296 ^ (n - 1)*tp≤wD ys:=by omega
  refine Nat.le_trans ?_ (Nat.mul_le_mul_right _ this)
  rw [Nat.mul_assoc,← p2]
  exact Nat.mul_le_mul_left _ (Nat.mul_le_mul_right _ l4)
 have hln:(zA ys s 0).length=n:=by
  rcases Nat.lt_or_ge n (zA ys s 0).length with h | h
  ·exfalso
   have:=leftG_more ys s 0 (by omega)
   rw [hnat,hl] at this
   omega
  ·omega
 refine ⟨hs32,hln,hok,hnat,?_⟩
 have f1:=qZ (zA ys s 0) (n - 1)
 rw [qJ _ (n - 1),show n - 1+1=n by omega,List.drop_of_length_le (Nat.le_of_eq hln)] at f1
 have f2:=z7 (zA ys s 0) (n - 1) hok
 simp only [wD,Nat.mul_zero,Nat.add_zero] at f1
 rw [hnat] at f1
 generalize (zA ys s 0).getD (n - 1) 0=z at *
 rcases Nat.lt_or_ge z 2147483648 with h | h
 ·exfalso
  have:4294967296 ^ (n - 1)*(z+1)≤4294967296 ^ (n - 1)*2147483648:=Nat.mul_le_mul_left _ h
  rw [Nat.mul_add] at this
  omega
 ·exact h
def longU (xs:List Nat) (s:Nat):List Nat:=(zA xs s 0++[0,0]).take (xs.length+1)
theorem longU_spec (xs:List Nat) (s:Nat) (hs:s<32) (hx:∀ x,x∈xs→x<4294967296):(longU xs s).length=xs.length+1∧(∀ x,x∈longU xs s→x<4294967296)∧wD (longU xs s)=wD xs*2 ^ s:=by
 have hnat:=leftG_nat xs s 0 hs
 rw [Nat.add_zero] at hnat
 have hok:=leftG_ok xs s 0 hs hx (Nat.pow_pos (by decide))
 have hlen:=leftG_len xs s 0
 unfold longU
 refine ⟨by simp; omega,fun x h=>?_,?_⟩
 ·have:=List.mem_of_mem_take h
  simp only [List.mem_append,List.mem_cons] at this
  rcases this with h | h | h | h
  ·exact hok x h
  ·omega
  ·omega
  ·cases h
 ·rcases Nat.lt_or_ge xs.length (zA xs s 0).length with h | h
  ·rw [List.take_append_of_le_length (by omega),List.take_of_length_le (by omega),hnat]
  ·have e:xs.length=(zA xs s 0).length:=by omega
   rw [e,List.take_append]
   simp [natOf_append,wD]
   rw [List.take_of_length_le (by omega),hnat]
theorem longU_top (xs vs:List Nat) (n s:Nat) (hs:s<32) (hx:∀ x,x∈xs→x<4294967296) (hn:2≤n) (hnx:n≤xs.length) (hvn:vs.length=n) (hv:∀ x,x∈vs→x<4294967296) (htop:2147483648≤vs.getD (n - 1) 0) :
  wD ((longU xs s).drop (xs.length - n+1))<wD vs:=by
 obtain ⟨h1,h2,h3⟩:=longU_spec xs s hs hx
 have e1:=qZ vs (n - 1)
 rw [qJ vs (n - 1),show n - 1+1=n by omega,List.drop_of_length_le (Nat.le_of_eq hvn)] at e1
 simp only [wD,Nat.mul_zero,Nat.add_zero] at e1
 have e2:=qZ (longU xs s) (xs.length - n+1)
 have e3:=q9 xs hx
 have hp:2 ^ s≤2147483648:=(Nat.pow_le_pow_right (by decide) (show s≤31 by omega):2 ^ s≤2 ^ 31)
 have e4:4294967296 ^ xs.length=4294967296 ^ (xs.length - n+1)*4294967296 ^ (n - 1):=by rw [← Nat.pow_add]; congr 1; omega
 have hP:0<4294967296 ^ (xs.length - n+1):=Nat.pow_pos (by decide)
 rw [h3] at e2
 have e5:wD xs*2 ^ s<4294967296 ^ (xs.length - n+1)*(4294967296 ^ (n - 1)*2 ^ s):=by
  rw [← Nat.mul_assoc,← e4]
  exact (Nat.mul_lt_mul_right (Nat.pow_pos (by decide))).2 e3
 have e6:4294967296 ^ (xs.length - n+1)*wD ((longU xs s).drop (xs.length - n+1))<4294967296 ^ (xs.length - n+1)*(4294967296 ^ (n - 1)*2 ^ s):=by omega
 have e7:=(Nat.mul_lt_mul_left hP).1 e6
 have e8:4294967296 ^ (n - 1)*2 ^ s≤4294967296 ^ (n - 1)*vs.getD (n - 1) 0:=Nat.mul_le_mul_left _ (by omega)
 omega
theorem long_round (us us' out:List Nat) (V U0 j q:Nat) (hj:j<out.length) (h1:us'.take j=us.take j) (h2:wD (us'.drop j)=wD (us.drop j) % V) (hq:q=wD (us.drop j) / V)
  (h:wD us+V*(4294967296 ^ (j+1)*wD (out.drop (j+1)))=U0):wD us'+V*(4294967296 ^ j*wD ((out.set j q).drop j))=U0:=by
 rw [drop_set_getD out j q hj,qZ us' j,h1,h2]
 rw [qZ us j] at h
 have h3:=Nat.div_add_mod (wD (us.drop j)) V
 rw [← hq] at h3
 have e1:4294967296 ^ j*wD (us.drop j)=4294967296 ^ j*(V*q)+4294967296 ^ j*(wD (us.drop j) % V):=by rw [← Nat.mul_add,h3]
 have e2:V*(4294967296 ^ j*(q+4294967296*wD (out.drop (j+1))))=4294967296 ^ j*(V*q)+V*(4294967296 ^ (j+1)*wD (out.drop (j+1))):=by
  rw [Nat.mul_add,Nat.mul_add,Nat.mul_left_comm V,Nat.pow_succ,Nat.mul_assoc (4294967296 ^ j)]
 rw [e1] at h
 rw [e2]
 omega
theorem long_end (us out:List Nat) (A B n s:Nat) (hu:∀ x,x∈us→x<4294967296) (hV:B*2 ^ s<4294967296 ^ n) (h:wD us+B*2 ^ s*(4294967296 ^ 0*wD (out.drop 0))=A*2 ^ s) (hlt:wD us<B*2 ^ s) :
  wD out=A / B∧wD (us.take n) / 2 ^ s=A % B:=by
 simp only [Nat.pow_zero,Nat.one_mul,List.drop_zero] at h
 have hp:0<2 ^ s:=Nat.pow_pos (by decide)
 have hq:A*2 ^ s / (B*2 ^ s)=wD out:=by
  rw [← h,Nat.add_mul_div_left _ _ (by omega),Nat.div_eq_of_lt hlt,Nat.zero_add]
 have hr:A*2 ^ s % (B*2 ^ s)=wD us:=by
  rw [← h,Nat.add_mul_mod_self_left,Nat.mod_eq_of_lt hlt]
 rw [Nat.mul_div_mul_right _ _ hp] at hq
 rw [Nat.mul_mod_mul_right] at hr
 have ht:wD (us.take n)=wD us:=by
  have h1:=qZ us n
  have h0:wD (us.drop n)=0:=by
   rcases Nat.eq_zero_or_pos (wD (us.drop n)) with h0 | h0
   ·exact h0
   ·have:4294967296 ^ n*1≤4294967296 ^ n*wD (us.drop n):=Nat.mul_le_mul_left _ h0
    omega
  rw [h0] at h1
  omega
 refine ⟨hq.symm,?_⟩
 rw [ht,← hr,Nat.mul_div_cancel _ hp]
theorem win_end (us:List Nat) (j n A v:Nat) (h:wD ((us.drop j).take n)=A) (h2:wD (us.drop (j+n+1))=0) (hl:j+n<us.length):wD ((us.set (j+n) v).drop j)=A+4294967296 ^ n*v:=by
 obtain ⟨_,e2,e3⟩:=win_set us j n v hl
 rw [qZ _ (n+1),List.drop_drop,show j+(n+1)=j+n+1 by omega,e2,h2,e3,h,Nat.mul_zero,Nat.add_zero]
theorem back_step (P R A Vi c u v:Nat) (h:R+P*c=A+Vi):R+P*((u+v+c) % 4294967296)+P*4294967296*((u+v+c) / 4294967296)=A+P*u+(Vi+P*v):=by
 have h1:=Nat.div_add_mod (u+v+c) 4294967296
 have e:P*(u+v+c)=P*4294967296*((u+v+c) / 4294967296)+P*((u+v+c) % 4294967296):=by
  conv=>lhs; rw [← h1]
  rw [Nat.mul_add,Nat.mul_assoc]
 rw [Nat.mul_add,Nat.mul_add] at e
 omega
theorem back_end (P R A V M c:Nat) (h:R+P*c=A+V) (h2:A+V=M+P) (hR:R<P) (hM:M<P):c=1∧R=M:=by
 have hP:0<P:=by omega
 rcases Nat.lt_or_ge c 1 with h0 | h0
 ·have:c=0:=by omega
  subst this
  omega
 ·rcases Nat.lt_or_ge c 2 with h1 | h1
  ·have:c=1:=by omega
   subst this
   omega
  ·have:P*2≤P*c:=Nat.mul_le_mul_left _ h1
   omega
end Go.Proofs.YtkjhfnhgefbhhaaGreat
