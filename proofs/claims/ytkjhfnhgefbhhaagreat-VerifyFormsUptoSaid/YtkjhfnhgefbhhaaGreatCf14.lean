/- simileref03, told of trees. -/
import Derived.Test.YtkjhfnhgefbhhaaGreatCf13
set_option linter.all false
set_option maxRecDepth 20000
set_option maxHeartbeats 6400000
namespace Go.Proofs.YtkjhfnhgefbhhaaGreat
open Go.RowKit Go.Ev Go.Vl
theorem lenAdd (xs ys:List Nat) (k:Nat) (hx:okL xs) (hy:okL ys) (h1:xs.length≤k) (h2:ys.length≤k):(toL (wB xs+wB ys)).length≤k+1:=by
 refine kX _ _ ?_
 have a:=qR xs hx; have b:=qR ys hy
 have c:4294967296 ^ xs.length≤4294967296 ^ k:=dD (by decide) h1
 have d:4294967296 ^ ys.length≤4294967296 ^ k:=dD (by decide) h2
 rw [mY]; generalize 4294967296 ^ k=K at *
 omega
theorem lenMul (xs ys:List Nat) (hx:okL xs) (hy:okL ys):(toL (wB xs*wB ys)).length≤xs.length+ys.length:=by
 refine kX _ _ ?_
 rw [bW]; exact fJ (qR xs hx) (qR ys hy)
theorem lenSub (xs ys:List Nat) (hx:okL xs):(toL (wB xs - wB ys)).length≤xs.length:=pC (qC (Nat.sub_le _ _)) (vJ xs hx)
theorem lenDiv (xs ys:List Nat) (hx:okL xs):(toL (wB xs / wB ys)).length≤xs.length:=pC (qC (cN _ _)) (vJ xs hx)
theorem wE6 (b:Bool) (n:Nat):intOf (b,toL n)=if b then -(n:Int) else n:=by unfold intOf; rw [wM]
theorem wB3 (z:ZZ) (h1:okL z.2) (h2:z.2.length≤35184372088832):wD Tryz.prog 194 [vI z] (fun y=>y=nI (intOf z)):=by
 obtain ⟨b,l⟩:=z; dsimp only at h1 h2
 have q1:=wH7 l h1 (by omega)
 have e:=nI_of b (wB l); have e2:intOf (b,l)=if b then -(wB l:Int) else wB l:=rfl
 rw [e2,← e]; refine wC wG Tryz.func194 rfl rfl rfl rfl fun w0=>?_
 generalize wB l=m at *; cases b with
 | true =>
  rcases mF (toL m).length with h0 | h0
  ·repeat (first | refine wg rfl (sL (qE _)) ?_ | refine wv ?_ | refine wg rfl cF ?_ | refine wc q1 ?_ | refine wz ?_)
   refine ⟨.inl rfl,_,rfl,?_⟩
   show V.agg [.bool false,vN m]=_
   simp [h0]
  ·repeat (first | refine wg rfl (sL (qE _)) ?_ | refine wv ?_ | refine wg rfl cT ?_ | refine wc q1 ?_ | refine wz ?_)
   refine ⟨.inl rfl,_,rfl,?_⟩
   show V.agg [.bool true,vN m]=_
   rw [if_pos rfl,decide_eq_true (by omega)]
 | false =>
  repeat (first | refine wv ?_ | refine wc q1 ?_ | refine kZ rfl rfl rfl rfl rfl rfl ?_ | refine wz ?_)
  exact ⟨.inl rfl,_,rfl,rfl⟩
theorem rsignW_v (z:ZZ) (h1:okL z.2) (h2:z.2.length≤35184372088832):wD Tryz.prog 84 [vI z] (fun y=>y=.int .i64 (sgn (intOf z))):=by
 refine wC wG Tryz.func84 rfl rfl rfl rfl fun w0=>?_
 obtain ⟨b,l⟩:=z; dsimp only at h1 h2
 have q1:=zero01_v l h1 (by omega)
 by_cases h0:wB l=0
 ·have e:sgn (intOf (b,l))=0:=by unfold sgn intOf; rw [h0]; cases b <;> rfl
  rw [decide_eq_true h0] at q1; rw [e]
  repeat (first | refine wv ?_ | refine wc q1 ?_ | refine wz ?_)
  exact ⟨.inl rfl,_,rfl,rfl⟩
 ·rw [decide_eq_false h0] at q1
  cases b with
  | true =>
   have e:sgn (intOf (true,l)) = -1:=by unfold sgn intOf; rw [if_pos rfl,if_pos (by dsimp only; omega)]
   rw [e]
   repeat (first | refine wv ?_ | refine wc q1 ?_ | refine wz ?_)
   exact ⟨.inl rfl,_,rfl,rfl⟩
  | false =>
   have e:sgn (intOf (false,l))=1:=by unfold sgn intOf; simp; omega
   rw [e]
   repeat (first | refine wv ?_ | refine wc q1 ?_ | refine wz ?_)
   exact ⟨.inl rfl,_,rfl,rfl⟩
theorem wF8 (z:ZZ) (h:okZ z):wD Tryz.prog 84 [vI z] (fun y=>y=.int .i64 (sgn (intOf z))):=rsignW_v z h.1 (pC h.2 (by decide))
theorem qCD (z:ZZ) (h:okZ z):wD Tryz.prog 191 [vI z] (fun y=>y=nI (-intOf z)):=by
 refine wC wG Tryz.func191 rfl rfl rfl rfl fun w0=>?_
 obtain ⟨b,l⟩:=z; obtain ⟨h1,h2⟩:=h
 dsimp only at h1 h2; have q1:=wB3 (!b,l) h1 (by dsimp only; omega)
 have e:intOf (!b,l) = -intOf (b,l):=by unfold intOf; cases b <;> simp
 rw [← e]; cases b
 all_goals
  repeat (first | refine wv ?_ | refine wc q1 ?_ | refine wz ?_)
  exact ⟨.inl rfl,_,rfl,rfl⟩
theorem rabs_v (z:ZZ) (h:okZ z):wD Tryz.prog 234 [vI z] (fun y=>y=nI (wB z.2)):=by
 refine wC wG Tryz.func234 rfl rfl rfl rfl fun w0=>?_
 obtain ⟨b,l⟩:=z; obtain ⟨h1,h2⟩:=h
 dsimp only at h1 h2; have q1:=wH7 l h1 (by omega)
 repeat (first | refine wv ?_ | refine wc q1 ?_ | refine wz ?_)
 exact ⟨.inl rfl,_,rfl,nI_of false (wB l)⟩
theorem wKI (a b:ZZ) (ha:okZ a) (hb:okZ b):wD Tryz.prog 129 [vI a,vI b] (fun y=>y=nI (intOf a*intOf b)):=by
 refine wC wG Tryz.func129 rfl rfl rfl rfl fun w0=>?_
 obtain ⟨x,l⟩:=a; obtain ⟨y,m⟩:=b
 obtain ⟨h1,h2⟩:=ha; obtain ⟨h3,h4⟩:=hb
 dsimp only at h1 h2 h3 h4; have hl:=lenMul l m h1 h3
 have q1:=mul01_v l m h1 h3 (by omega) (by omega)
 have q2:=wB3 (x != y,toL (wB l*wB m)) (zE _) (by dsimp only; omega)
 rw [wE6] at q2; rw [qA3]
 cases x <;> cases y
 all_goals
  repeat (first | refine wv ?_ | refine wg rfl (jD wG rfl rfl rfl rfl (.inr ⟨rfl,rfl⟩) rfl) ?_ | refine wc q1 ?_ | refine wc q2 ?_ | refine wz ?_)
  exact ⟨.inl rfl,_,rfl,rfl⟩
theorem radd_v (a b:ZZ) (ha:okZ a) (hb:okZ b):wD Tryz.prog 128 [vI a,vI b] (fun y=>y=nI (intOf a+intOf b)):=by
 refine wC wG Tryz.func128 rfl rfl rfl rfl fun w0=>?_
 have p1:=wB3 a ha.1 (pC ha.2 (by decide))
 have p2:=wB3 b hb.1 (pC hb.2 (by decide))
 have ka:=wE0 a ha; have kb:=wE0 b hb
 have ia:=wE (intOf a); have ib:=wE (intOf b)
 unfold nI at p1 p2; obtain ⟨a1,a2⟩:=a
 obtain ⟨b1,b2⟩:=b; generalize intOf (a1,a2)=X at *
 generalize intOf (b1,b2)=Y at *; generalize zn X=zx at *
 generalize zn Y=zy at *; obtain ⟨x,l⟩:=zx
 obtain ⟨y,m⟩:=zy; rw [← ia,← ib]
 have hj:=qA1 (x,l) (y,m); unfold joinI at hj
 obtain ⟨h1,h2⟩:=ka; obtain ⟨h3,h4⟩:=kb
 dsimp only at h1 h2 h3 h4 hj; have la:=lenAdd l m _ h1 h3 h2 h4
 have q1:=add01_v l m h1 h3 (by omega) (by omega)
 have q2:=wB3 (x,toL (wB l+wB m)) (zE _) (by dsimp only; omega)
 have c1:=cmp01_v l m h1 h3 (by omega) (by omega)
 have e:intOf (x,l)+intOf (x,m)=if x then -((wB l+wB m:Nat):Int) else ((wB l+wB m:Nat):Int):=by
  unfold intOf; cases x <;> simp <;> omega
 rw [wE6] at q2
 by_cases hxy:x=y
 ·subst hxy
  cases x
  all_goals
   repeat (first | refine wv ?_ | refine wg rfl (jD wG rfl rfl rfl rfl (.inl ⟨rfl,rfl⟩) rfl) ?_ | refine wc p1 ?_ | refine wc p2 ?_ | refine wc q1 ?_ | refine wc q2 ?_ | refine wz ?_)
   refine ⟨.inl rfl,_,rfl,?_⟩
   rw [e]; exact rfl
 ·rw [← hj hxy]
  by_cases hlt:wB l<wB m
  ·have hc:kA (wB l) (wB m) = -1:=by unfold kA; rw [if_pos hlt]
   have s1:=wS6 m l h3 h1 (by omega) (by omega)
   have ls:=lenSub m l h3; have s2:=wB3 (y,toL (wB m - wB l)) (zE _) (by dsimp only; omega)
   rw [wE6] at s2; rw [hc] at c1
   rw [if_pos hlt]; cases x <;> cases y
   ·exact absurd rfl hxy
   ·repeat (first | refine wv ?_ | refine wg rfl cT ?_ | refine wg rfl (jD wG rfl rfl rfl rfl (.inl ⟨rfl,rfl⟩) rfl) ?_ | refine wc p1 ?_ | refine wc p2 ?_ | refine wc c1 ?_ | refine wc s1 ?_ | refine wc s2 ?_ | refine wz ?_)
    exact ⟨.inl rfl,_,rfl,rfl⟩
   ·repeat (first | refine wv ?_ | refine wg rfl cT ?_ | refine wg rfl (jD wG rfl rfl rfl rfl (.inl ⟨rfl,rfl⟩) rfl) ?_ | refine wc p1 ?_ | refine wc p2 ?_ | refine wc c1 ?_ | refine wc s1 ?_ | refine wc s2 ?_ | refine wz ?_)
    exact ⟨.inl rfl,_,rfl,rfl⟩
   ·exact absurd rfl hxy
  ·have hc:0≤kA (wB l) (wB m):=by unfold kA; rw [if_neg hlt]; split <;> decide
   have s1:=wS6 l m h1 h3 (by omega) (by omega)
   have ls:=lenSub l m h1; have s2:=wB3 (x,toL (wB l - wB m)) (zE _) (by dsimp only; omega)
   rw [wE6] at s2; rw [if_neg hlt]
   generalize kA (wB l) (wB m)=cm at *; cases x <;> cases y
   ·exact absurd rfl hxy
   ·repeat (first | refine wv ?_ | refine wg rfl cF ?_ | refine wg rfl (jD wG rfl rfl rfl rfl (.inl ⟨rfl,rfl⟩) rfl) ?_ | refine wc p1 ?_ | refine wc p2 ?_ | refine wc c1 ?_ | refine wc s1 ?_ | refine wc s2 ?_ | refine wz ?_)
    exact ⟨.inl rfl,_,rfl,rfl⟩
   ·repeat (first | refine wv ?_ | refine wg rfl cF ?_ | refine wg rfl (jD wG rfl rfl rfl rfl (.inl ⟨rfl,rfl⟩) rfl) ?_ | refine wc p1 ?_ | refine wc p2 ?_ | refine wc c1 ?_ | refine wc s1 ?_ | refine wc s2 ?_ | refine wz ?_)
    exact ⟨.inl rfl,_,rfl,rfl⟩
   ·exact absurd rfl hxy
theorem rsub_v (a b:ZZ) (ha:okZ a) (hb:okZ b):wD Tryz.prog 279 [vI a,vI b] (fun y=>y=nI (intOf a - intOf b)):=by
 refine wC wG Tryz.func279 rfl rfl rfl rfl fun w0=>?_
 have q1:=qCD b hb; have q2:=radd_v a (zn (-intOf b)) ha (wN4 b hb)
 rw [wE] at q2; obtain ⟨x,l⟩:=a
 obtain ⟨y,m⟩:=b
 repeat (first | refine wv ?_ | refine wc q1 ?_ | refine wc q2 ?_ | refine wz ?_)
 exact ⟨.inl rfl,_,rfl,rfl⟩
theorem rtrunc_v (a b:ZZ) (ha:okZ a) (hb:okZ b) (h0:intOf b≠0):wD Tryz.prog 244 [vI a,vI b] (fun y=>y=.tup [nI ((intOf a).tdiv (intOf b)),nI ((intOf a).tmod (intOf b))]):=by
 refine wC wG Tryz.func244 rfl rfl rfl rfl fun w0=>?_
 have e1:=kF a; have e2:=kF b
 have hle:(intOf a).natAbs=wB a.2:=e1; have hda:=Int.mul_tdiv_add_tmod (intOf a) (intOf b)
 have hq:((intOf a).tdiv (intOf b)).natAbs≤wB a.2:=by rw [dX,e1]; exact cN _ _
 have hp:((intOf a).tdiv (intOf b)*intOf b).natAbs≤wB a.2:=by rw [Int.natAbs_mul,dX,e1]; exact Nat.div_mul_le_self _ _
 have ok1:∀ x:Int,x.natAbs≤wB a.2→okZ (zn x):=fun x h=>wFG x (pC (qC h) (pC (vJ a.2 ha.1) ha.2))
 have q3:=wKI (zn ((intOf a).tdiv (intOf b))) b (ok1 _ hq) hb; have q4:=rsub_v a (zn ((intOf a).tdiv (intOf b)*intOf b)) ha (ok1 _ hp)
 rw [wE] at q3 q4; have e5:intOf a - (intOf a).tdiv (intOf b)*intOf b=(intOf a).tmod (intOf b):=by rw [pE7] ; omega
 rw [e5] at q4; obtain ⟨x,l⟩:=a
 obtain ⟨y,m⟩:=b; obtain ⟨h1,h2⟩:=ha
 obtain ⟨h3,h4⟩:=hb; dsimp only at h1 h2 h3 h4 e2
 have q1:=div01_v l m h1 h3 (by omega) (by omega) (by omega)
 have ld:=lenDiv l m h1; have q2:=wB3 (x != y,toL (wB l / wB m)) (zE _) (by dsimp only; omega)
 rw [wE6,← wVH] at q2; cases x <;> cases y
 all_goals
  repeat (first | refine wv ?_ | refine wg rfl (jD wG rfl rfl rfl rfl (.inr ⟨rfl,rfl⟩) rfl) ?_ | refine wc q1 ?_ | refine wc q2 ?_ | refine wc q3 ?_ | refine wc q4 ?_ | refine wz ?_)
  exact ⟨.inl rfl,_,rfl,rfl⟩
theorem wH1 (a b:ZZ) (ha:okZ a) (hb:okZ b) (h0:intOf b≠0) (hd:intOf b∣intOf a):wD Tryz.prog 193 [vI a,vI b] (fun y=>y=.tup [nI ((intOf a).tdiv (intOf b)),.bool true]):=by
 refine wC wG Tryz.func193 rfl rfl rfl rfl fun w0=>?_
 have q1:=rtrunc_v a b ha hb h0; have q2:=wF8 (zn 0) (wFG 0 (by simp [qB]))
 rw [Int.tmod_eq_zero_of_dvd hd] at q1; rw [wE] at q2
 obtain ⟨x,l⟩:=a; obtain ⟨y,m⟩:=b
 repeat (first | refine wv ?_ | refine wg rfl (j0 rfl rfl rfl rfl (rfl) rfl) ?_ | refine wc q1 ?_ | refine wc q2 ?_ | refine wz ?_)
 exact ⟨.inl rfl,_,rfl,rfl⟩
end Go.Proofs.YtkjhfnhgefbhhaaGreat
/- simileref01.Left, Gcd, told of trees. -/
namespace Go.Proofs.YtkjhfnhgefbhhaaGreat
open Go.RowKit Go.Ev Go.Vl
theorem natOf_zrep (k:Nat) (xs:List Nat):wB (List.replicate k 0++xs)=4294967296 ^ k*wB xs:=by
 rw [wN9,wGA,mP,dM]
theorem left01_v (xs:List Nat) (t:Nat) (hx:okL xs) (hl:xs.length≤1099511627776) (ht:t≤35184372088832):wD Tryz.prog 277 [vL xs,.int .i64 (t:Nat)] (fun y=>y=vN (wB xs*2 ^ t)):=by
 refine wC wG Tryz.func277 rfl rfl rfl rfl fun w0=>?_
 have q1:=wH7 xs hx (by omega)
 have hln:=vJ xs hx; have h1:Ev.ewrap .i64 ((t:Int).tdiv 32)=((t / 32:Nat):Int):=by
  have:(t:Int).tdiv 32=((t / 32:Nat):Int):=rfl; rw [this,wP4 (by omega) (by omega)]
 have h2:(t:Int).tmod 32=((t % 32:Nat):Int):=rfl; have h3:Ev.ewrap .u64 ((t % 32:Nat):Int)=((t % 32:Nat):Int):=jZ (by omega) (by omega)
 have hp:2 ^ (t % 32)≤2147483648:=(dD (by decide) (show t % 32≤31 by omega):2 ^ (t % 32)≤2 ^ 31)
 have h4:Ev.ewrap .u32 ((1*2 ^ (t % 32):Nat):Int)=((2 ^ (t % 32):Nat):Int):=by rw [gT,ew32,cA (by omega)]
 have happ:=uL_app (List.replicate (t / 32) 0) (toL (wB xs)); have hok:okL (List.replicate (t / 32) 0++toL (wB xs)):=fun x h=>by
  rcases cH.1 h with h | h
  ·rw [(bU.1 h).2]; decide
  ·exact zE _ x h
 have q2:=small01_v (List.replicate (t / 32) 0++toL (wB xs)) (2 ^ (t % 32)) hok (by simp; omega) (by omega)
 rw [natOf_zrep,wM] at q2; have hu:=qE (toL (wB xs))
 have hu2:=qE (List.replicate (t / 32) 0); have hu3:(List.replicate (t / 32) 0).length=t / 32:=mP
 have e:4294967296 ^ (t / 32)*wB xs*2 ^ (t % 32)=wB xs*2 ^ t:=by
  have:2 ^ t=4294967296 ^ (t / 32)*2 ^ (t % 32):=by
   rw [show 4294967296=2 ^ 32 from rfl,← Nat.pow_mul,← bW,cX]
  rw [this,mL (4294967296 ^ (t / 32)),mJ]
 rw [← e]
 repeat (first | refine wv ?_ | refine wg rfl (wDF rfl rfl rfl (by decide) h1 rfl) ?_ | refine wg rfl (kY rfl rfl rfl (by decide) h2 rfl) ?_ | refine wg rfl (yP (id:=7000) (l:=t / 32) (c:=t / 32) (m:=1) (bb:=4) wG rfl rfl rfl rfl rfl rfl rfl rfl rfl rfl (pE _) rfl (by omega) (by simp only [maxLen]; omega) rfl rfl rfl (qBG _)) ?_ | refine wc q1 ?_ | refine wf rfl rfl (z7 (id:=7003) (es2:=uL (toL (wB xs))) (m:=1) (bb:=4) wG rfl rfl rfl rfl rfl rfl rfl rfl rfl rfl rfl (qBH _) rfl (by simp only [maxLen]; omega) (by omega) rfl rfl happ) ?_ | refine wg rfl (qI wG rfl rfl rfl rfl h3 rfl) ?_ | refine wg rfl (x9 (a:=1) (s:=t % 32) rfl rfl rfl rfl (by simp only [IntKind.bits]; omega) h4 rfl) ?_ | refine wh q2 ?_ | refine wz ?_)
 exact ⟨.inl rfl,_,rfl,rfl⟩
theorem low2 (a:Nat) (h:0<a):(toL a).getD 0 0 % 2=a % 2:=by
 rw [wM5 (by omega)]
 simp only [List.getD_cons_zero]
 omega
theorem gcd01_v (xs ys:List Nat) (hx:okL xs) (hy:okL ys) (hl:xs.length≤1099511627776) (hl2:ys.length≤1099511627776):wD Tryz.prog 243 [vL xs,vL ys] (fun y=>y=vN (Nat.gcd (wB xs) (wB ys))):=by
 refine wC wG Tryz.func243 rfl rfl rfl rfl fun w0=>?_
 have q1:=wH7 xs hx (by omega)
 have q2:=wH7 ys hy (by omega)
 have l1:=vJ xs hx; have l2:=vJ ys hy
 have hxl:=qR xs hx; generalize wB xs=A at *
 generalize wB ys=B at *; have hz:(toL 0).length=0:=by rw [qB]; rfl
 have half:=fun (a:Nat) (h:(toL a).length≤1099511627776)=>half01_v (toL a) (zE a) (pC h (by decide))
 simp only [wM] at half
 rcases mF A with rfl | hA
 ·repeat (first | refine wg rfl (sL (qE _)) ?_ | refine wv ?_ | refine wg rfl cT ?_ | refine wc q1 ?_ | refine wc q2 ?_ | refine wz ?_)
  refine ⟨.inl rfl,_,rfl,?_⟩
  rw [pE3]
 have pA:=jU A hA; rcases mF B with rfl | hB
 ·repeat (first | refine wg rfl (sL (qE _)) ?_ | refine wv ?_ | refine wg rfl cT ?_ | refine wg rfl cF ?_ | refine wc q1 ?_ | refine wc q2 ?_ | refine wz ?_)
  refine ⟨.inl rfl,_,rfl,?_⟩
  rw [pD8]
 have pB:=jU B hB
 repeat (first | refine wg rfl (sL (qE _)) ?_ | refine wv ?_ | refine wg rfl cF ?_ | refine wc q1 ?_ | refine wc q2 ?_ | refine wz ?_)
 refine wIC 0 (fun b:Nat × Nat × Nat=>[jV 0 (vN b.1),jV 2 (vN b.2.1),jI 10 (b.2.2)])
  (fun b=>0<b.1∧0<b.2.1∧(toL b.1).length≤1099511627776∧(toL b.2.1).length≤1099511627776∧b.2.2≤35184372088832∧Nat.gcd b.1 b.2.1 % 2=1∧Nat.gcd A B=Nat.gcd b.1 b.2.1*2 ^ b.2.2) (fun _=>rfl) ?_ ?_
 ·refine wJ (fun b:Nat × Nat × Nat=>[jV 0 (vN b.1),jV 2 (vN b.2.1),jI 10 (b.2.2)])
   (fun b=>0<b.1∧0<b.2.1∧(toL b.1).length≤1099511627776∧(toL b.2.1).length≤1099511627776∧b.1*2 ^ b.2.2=A∧Nat.gcd A B=Nat.gcd b.1 b.2.1*2 ^ b.2.2)
   (fun b=>b.1) (A,B,0) (fun _=>rfl) ⟨hA,hB,by dsimp only; omega,by dsimp only; omega,by simp,by simp⟩ ⟨rfl,rfl,rfl,trivial⟩ fun ⟨a,b,t⟩ hI=>?_
  obtain ⟨h1,h2,h3,h4,h5,h6⟩:=hI; dsimp only at h1 h2 h3 h4 h5 h6 ⊢
  have ht:t≤35184372088832:=by
   have a1:2 ^ t≤A:=by
    rw [← h5]; exact Nat.le_mul_of_pos_left _ h1
   have a2:2 ^ t<2 ^ (32*xs.length):=by
    rw [Nat.pow_mul]; exact pA8 a1 hxl
   have:=(Nat.pow_lt_pow_iff_right (by decide)).1 a2
   omega
  have pa:=jU a h1; have pb:=jU b h2
  have ga:=kW (toL a) 0 pa; have gb:=kW (toL b) 0 pb
  have ma:=low2 a h1; have mb:=low2 b h2
  have ha2:=half a h3; have hb2:=half b h4
  generalize (toL a).getD 0 0=a0 at *; generalize (toL b).getD 0 0=b0 at *
  have hm:=dS
  by_cases ea:a % 2=0
  ·rw [ea] at ma
   by_cases eb:b % 2=0
   ·rw [eb] at mb
    repeat (first | refine wv ?_ | refine wg rfl (sX 0 ga) ?_ | refine wg rfl (sX 0 gb) ?_ | refine wg rfl (kY rfl rfl rfl (by decide) (nRem (b:=2) ma) rfl) ?_ | refine wg rfl (kY rfl rfl rfl (by decide) (nRem (b:=2) mb) rfl) ?_ | refine wc ha2 ?_ | refine wc hb2 ?_ | refine wg rfl cT ?_ | refine wg rfl sB ?_ | refine wz ?_)
    have e:=gcd_both ea eb; refine ⟨(a / 2,b / 2,t+1),⟨by dsimp only; omega,by dsimp only; omega,pC (qC (cN _ _)) h3,pC (qC (cN _ _)) h4,?_,?_⟩,by dsimp only; omega,rfl,rfl,rfl,trivial⟩
    ·dsimp only
     rw [← h5,mY,mL (2 ^ t),← mJ]
     congr 1
     omega
    ·dsimp only
     rw [h6,e,mY,mL 2,mJ,mL 2]
   ·have mb1:b0 % 2=1:=by have:=hm b; omega
    repeat (first | refine wv ?_ | refine wg rfl (sX 0 ga) ?_ | refine wg rfl (sX 0 gb) ?_ | refine wg rfl (kY rfl rfl rfl (by decide) (nRem (b:=2) ma) rfl) ?_ | refine wg rfl (kY rfl rfl rfl (by decide) (nRem (b:=2) mb1) rfl) ?_ | refine wg rfl cT ?_ | refine wg rfl cF ?_ | refine wz ?_)
    exact ⟨(a,b,t),⟨h1,h2,h3,h4,ht,gcd_odd fun h=>eb h.2,h6⟩,rfl,rfl,rfl,trivial⟩
  ·have ma1:a0 % 2=1:=by have:=hm a; omega
   repeat (first | refine wv ?_ | refine wg rfl (sX 0 ga) ?_ | refine wg rfl (kY rfl rfl rfl (by decide) (nRem (b:=2) ma1) rfl) ?_ | refine wg rfl cF ?_ | refine kZ rfl rfl rfl rfl rfl rfl ?_ | refine wz ?_)
   exact ⟨(a,b,t),⟨h1,h2,h3,h4,ht,gcd_odd fun h=>ea h.1,h6⟩,rfl,rfl,rfl,trivial⟩
 ·rintro ⟨a,b,t⟩ hI
  obtain ⟨h1,h2,h3,h4,h5,h6,h7⟩:=hI; dsimp only at h1 h2 h3 h4 h5 h6 h7 ⊢
  have hlf:=fun (a:Nat) (h:(toL a).length≤1099511627776)=>left01_v (toL a) t (zE a) h h5
  simp only [wM] at hlf
  generalize hG:Nat.gcd a b=G at *; rw [h7]
  repeat refine wz ?_
  refine wJ (fun b:Nat × Nat=>[jV 0 (vN b.1),jV 2 (vN b.2),jI 10 t])
   (fun b=>(toL b.1).length≤1099511627776∧(toL b.2).length≤1099511627776∧Nat.gcd b.1 b.2=G) (fun b=>b.1+b.2) (a,b) (fun _=>rfl) ⟨h3,h4,hG⟩ ⟨rfl,rfl,rfl,trivial⟩ fun ⟨a,b⟩ hI=>?_
  obtain ⟨i1,i2,i3⟩:=hI; dsimp only at i1 i2 i3 ⊢
  rcases mF a with rfl | ha
  ·have q:=hlf b i2
   rw [pE3] at i3
   repeat (first | refine wg rfl (sL (qE _)) ?_ | refine wv ?_ | refine wg rfl cT ?_ | refine wg rfl cF ?_ | refine wc q ?_ | refine kZ rfl rfl rfl rfl rfl rfl ?_ | refine wz ?_)
   refine ⟨.inl rfl,_,rfl,?_⟩
   rw [i3]
  have pa:=jU a ha; rcases mF b with rfl | hb
  ·have q:=hlf a i1
   rw [pD8] at i3
   repeat (first | refine wg rfl (sL (qE _)) ?_ | refine wv ?_ | refine wg rfl cT ?_ | refine wg rfl cF ?_ | refine wc q ?_ | refine wz ?_)
   refine ⟨.inl rfl,_,rfl,?_⟩
   rw [i3]
  have pb:=jU b hb
  repeat (first | refine wg rfl (sL (qE _)) ?_ | refine wv ?_ | refine wg rfl cT ?_ | refine wz ?_)
  refine wIC 4 (fun c:Nat=>[jV 0 (vN c),jV 2 (vN b),jI 10 t]) (fun c=>0<c∧c≤a∧Nat.gcd c b=G) (fun _=>rfl) ?_ ?_
  ·refine wJ (fun c:Nat=>[jV 0 (vN c),jV 2 (vN b),jI 10 t]) (fun c=>0<c∧c≤a∧Nat.gcd c b=G) (fun c=>c) a (fun _=>rfl) ⟨ha,pE _,i3⟩ ⟨rfl,rfl,rfl,trivial⟩ fun c hI=>?_
   obtain ⟨j1,j2,j3⟩:=hI; have pc:=jU c j1
   have gc:=kW (toL c) 0 pc; have mc:=low2 c j1
   have hc2:=half c (pC (qC j2) i1); generalize (toL c).getD 0 0=c0 at *
   have hm:=dS c
   by_cases ec:c % 2=0
   ·rw [ec] at mc
    repeat (first | refine wv ?_ | refine wg rfl (sX 0 gc) ?_ | refine wg rfl (kY rfl rfl rfl (by decide) (nRem (b:=2) mc) rfl) ?_ | refine wc hc2 ?_ | refine wg rfl cT ?_ | refine wz ?_)
    exact ⟨c / 2,⟨by omega,by omega,by rw [qHA ec (by rw [j3]; exact h6),j3]⟩,by omega,rfl,rfl,rfl,trivial⟩
   ·have mc1:c0 % 2=1:=by omega
    repeat (first | refine wv ?_ | refine wg rfl (sX 0 gc) ?_ | refine wg rfl (kY rfl rfl rfl (by decide) (nRem (b:=2) mc1) rfl) ?_ | refine wg rfl cF ?_ | refine wz ?_)
    exact ⟨c,⟨j1,j2,j3⟩,rfl,rfl,rfl,trivial⟩
  ·intro c hI
   obtain ⟨j1,j2,j3⟩:=hI; have lc:=pC (qC j2) i1
   repeat refine wz ?_
   refine wIC 6 (fun d:Nat=>[jV 0 (vN c),jV 2 (vN d),jI 10 t]) (fun d=>0<d∧d≤b∧Nat.gcd c d=G) (fun _=>rfl) ?_ ?_
   ·refine wJ (fun d:Nat=>[jV 0 (vN c),jV 2 (vN d),jI 10 t]) (fun d=>0<d∧d≤b∧Nat.gcd c d=G) (fun d=>d) b (fun _=>rfl) ⟨hb,pE _,j3⟩ ⟨rfl,rfl,rfl,trivial⟩ fun d hI=>?_
    obtain ⟨k1,k2,k3⟩:=hI; have pd:=jU d k1
    have gd:=kW (toL d) 0 pd; have md:=low2 d k1
    have hd2:=half d (pC (qC k2) i2); generalize (toL d).getD 0 0=d0 at *
    have hm:=dS d
    by_cases ed:d % 2=0
    ·rw [ed] at md
     repeat (first | refine wv ?_ | refine wg rfl (sX 0 gd) ?_ | refine wg rfl (kY rfl rfl rfl (by decide) (nRem (b:=2) md) rfl) ?_ | refine wc hd2 ?_ | refine wg rfl cT ?_ | refine wz ?_)
     exact ⟨d / 2,⟨by omega,by omega,by rw [fK,qHA ed (by rw [fK,k3]; exact h6),fK,k3]⟩,by omega,rfl,rfl,rfl,trivial⟩
    ·have md1:d0 % 2=1:=by omega
     repeat (first | refine wv ?_ | refine wg rfl (sX 0 gd) ?_ | refine wg rfl (kY rfl rfl rfl (by decide) (nRem (b:=2) md1) rfl) ?_ | refine wg rfl cF ?_ | refine wz ?_)
     exact ⟨d,⟨k1,k2,k3⟩,rfl,rfl,rfl,trivial⟩
   ·intro d hI
    obtain ⟨k1,k2,k3⟩:=hI; have ld:=pC (qC k2) i2
    have cm:=cmp01_v (toL c) (toL d) (zE c) (zE d) (by omega) (by omega)
    simp only [wM] at cm
    by_cases hlt:c<d
    ·have hc:kA c d = -1:=by unfold kA; rw [if_pos hlt]
     rw [hc] at cm; have sb:=wS6 (toL d) (toL c) (zE d) (zE c) (by omega) (by simp only [wM]; omega)
     simp only [wM] at sb
     repeat (first | refine wv ?_ | refine wg rfl cF ?_ | refine wc cm ?_ | refine wc sb ?_ | refine wz ?_)
     exact ⟨(c,d - c),⟨lc,pC (qC (Nat.sub_le _ _)) ld,by dsimp only; rw [fK,qH9 (by omega),fK,k3]⟩,by dsimp only; omega,rfl,rfl,rfl,trivial⟩
    ·have hc:0≤kA c d:=by unfold kA; rw [if_neg hlt]; split <;> decide
     have sb:=wS6 (toL c) (toL d) (zE c) (zE d) (by omega) (by simp only [wM]; omega)
     simp only [wM] at sb
     generalize kA c d=cc at *
     repeat (first | refine wv ?_ | refine wg rfl cT ?_ | refine wc cm ?_ | refine wc sb ?_ | refine wz ?_)
     exact ⟨(c - d,d),⟨pC (qC (Nat.sub_le _ _)) lc,ld,by dsimp only; rw [qH9 (by omega),k3]⟩,by dsimp only; omega,rfl,rfl,rfl,trivial⟩
end Go.Proofs.YtkjhfnhgefbhhaaGreat
/- Fractions made, told of trees: zint.Gcd, rat.Make, rat.Norm, simileref03.Gcd, simileref05.Make, Norm. -/
namespace Go.Proofs.YtkjhfnhgefbhhaaGreat
open Go.RowKit Go.Ev Go.Vl
theorem rgcd_v (a b:ZZ) (ha:okZ a) (hb:okZ b):wD Tryz.prog 192 [vI a,vI b] (fun y=>y=nI (Int.gcd (intOf a) (intOf b))):=by
 refine wC wG Tryz.func192 rfl rfl rfl rfl fun w0=>?_
 have e1:=kF a; have e2:=kF b
 obtain ⟨x,l⟩:=a; obtain ⟨y,m⟩:=b
 obtain ⟨h1,h2⟩:=ha; obtain ⟨h3,h4⟩:=hb
 dsimp only at h1 h2 h3 h4 e1 e2; have q1:=gcd01_v l m h1 h3 h2 h4
 have e3:Int.gcd (intOf (x,l)) (intOf (y,m))=Nat.gcd (wB l) (wB m):=by unfold Int.gcd; rw [e1,e2]
 rw [e3]
 repeat (first | refine wv ?_ | refine wc q1 ?_ | refine wz ?_)
 exact ⟨.inl rfl,_,rfl,nI_of false (Nat.gcd (wB l) (wB m))⟩
def zrow (z:ZZ):List V:=[.bool z.1,vL z.2]
def vZs (zs:List ZZ):V:=.list (zs.map zrow)
theorem wA1 (zs:List ZZ):(zs.map zrow).length=zs.length:=pF ..
theorem wN5 (x:Int) (z:ZZ) (hx:okZ (zn x)) (hz:okZ z):okZ (zn (Int.gcd x (intOf z))):=by
 refine wFG _ ?_
 rw [mS]; rcases mF x.natAbs with h | h
 ·have:Int.gcd x (intOf z)=(intOf z).natAbs:=by unfold Int.gcd; rw [h,pE3]
  rw [this]; exact pC (wQ6 z hz) hz.2
 ·have:Int.gcd x (intOf z)≤x.natAbs:=cO h (pC2 _ _)
  exact pC (qC this) hx.2
def wE8 (zs:List ZZ) (x:Int):Int:=zs.foldl (fun g z=>(Int.gcd g (intOf z):Int)) x
theorem foldedG_v (x0:Int) (zs:List ZZ) (hx:okZ (zn x0)) (hz:∀ z∈zs,okZ z) (hl:zs.length≤1099511627776):wD Tryz.prog 226 [nI x0,vZs zs,.clo 227 [] []] (fun y=>y=nI (wE8 zs x0)):=by
 refine wC wG Tryz.func226 rfl rfl rfl rfl fun w0=>?_
 repeat (first | refine wg rfl (sL (wA1 _)) ?_ | refine wv ?_ | refine wz ?_)
 refine wJ (fun b:Nat × Int=>[jV 4 (.clo 227 [] []),jB 6 3,jC 7 [.v (.bool (zn b.2).1),.v (vL (zn b.2).2)],jB 12 6,jC 13 [.v (.bool false),.nils],jV 18 (vZs zs),jI 20 (zs.length),jI 22 (b.1)])
  (fun b=>b.1≤zs.length∧okZ (zn b.2)∧wE8 (zs.drop b.1) b.2=wE8 zs x0) (fun b=>zs.length - b.1) (0,x0) (fun _=>rfl) ⟨pH _,hx,rfl⟩ ⟨rfl,rfl,rfl,rfl,rfl,rfl,rfl,rfl,trivial⟩ fun ⟨j,x⟩ hI=>?_
 obtain ⟨h1,h2,h3⟩:=hI; dsimp only at h1 h2 h3 ⊢
 rcases pG j zs.length with hj | hj
 ·obtain ⟨z,hze⟩:=gE hj
  have hzo:=hz z (pD hze); have hg:(zs.map zrow)[j]? = some [.bool z.1,vL z.2]:=by rw [pI,hze]; rfl
  have q:=zgcd1_v (zn x) z h2 hzo; rw [wE] at q
  have hd:zs.drop j=z :: zs.drop (j+1):=by
   rw [bM hj]; rw [pU hj] at hze
   cases hze
   rfl
  rw [hd] at h3; have hok:=wN5 x z h2 hzo
  repeat (first | refine wv ?_ | refine wg rfl cT ?_ | refine wg rfl sB ?_ | refine wg rfl (sX j hg) ?_ | refine wc q ?_ | refine wz ?_)
  exact ⟨(j+1,(Int.gcd x (intOf z):Int)),⟨hj,hok,h3⟩,by dsimp only; omega,rfl,rfl,rfl,rfl,rfl,rfl,rfl,rfl,trivial⟩
 ·rw [pY hj] at h3
  repeat (first | refine wv ?_ | refine wg rfl cF ?_ | refine wz ?_)
  refine ⟨.inl rfl,_,rfl,?_⟩
  rw [← h3]; exact rfl
theorem wP3 (zs:List ZZ) (hz:∀ z∈zs,okZ z) (hl:zs.length≤1099511627776):wD Tryz.prog 172 [vZs zs] (fun y=>y=nI (wE8 zs 0)):=by
 refine wC wG Tryz.func172 rfl rfl rfl rfl fun w0=>?_
 have q:=foldedG_v 0 zs (wFG 0 (by simp [qB])) hz hl
 have e0:nI 0=.agg [.bool false,.list []]:=by unfold nI vI zn; simp [qB,vL,uL]
 rw [e0] at q
 repeat (first | refine wv ?_ | refine wc q ?_ | refine wz ?_)
 exact ⟨.inl rfl,_,rfl,rfl⟩
abbrev QQ:=ZZ × ZZ
def vQ (q:QQ):V:=.agg [.bool q.1.1,vL q.1.2,.bool q.2.1,vL q.2.2]
def okQ (q:QQ):Prop:=okZ q.1∧okZ q.2
def wI (q:QQ):Rat:=Rat.divInt (intOf q.1) (intOf q.2)
def qn (x:Rat):QQ:=(zn x.num,zn x.den)
def nR (x:Rat):V:=vQ (qn x)
theorem wUF (x:Rat):wI (qn x)=x:=by
 unfold wI qn; rw [wE,wE]
 exact cU x
theorem wHE (n d:Int) (h:0<d):(Rat.divInt n d).num=n.tdiv (Int.gcd n d)∧((Rat.divInt n d).den:Int)=d.tdiv (Int.gcd n d):=by
 have h1:((Int.gcd n d:Nat):Int)∣n:=bT ..; have h2:((Int.gcd n d:Nat):Int)∣d:=fD ..
 rw [Rat.num_divInt,Rat.den_divInt,Int.gcd_comm d n,Int.tdiv_eq_ediv_of_dvd h1,Int.tdiv_eq_ediv_of_dvd h2,Int.sign_eq_one_of_pos h,pB6,if_neg (by omega)]
 refine ⟨rfl,?_⟩
 rw [pC0,Int.natAbs_of_nonneg (by omega)]
theorem qGG (n d:Int) (h:d<0):(Rat.divInt n d).num=n.tdiv (-(Int.gcd n d:Int))∧((Rat.divInt n d).den:Int)=d.tdiv (-(Int.gcd n d:Int)):=by
 have e:Rat.divInt n d=Rat.divInt (-n) (-d):=(Rat.divInt_eq_divInt_iff (by omega) (by omega)).2 (by rw [pG2,Int.neg_mul])
 have:=wHE (-n) (-d) (by omega)
 rw [← e,Int.neg_gcd,Int.gcd_neg,Int.neg_tdiv,Int.neg_tdiv] at this; rw [Int.tdiv_neg,Int.tdiv_neg]
 exact this
theorem foldG2 (a b:ZZ):wE8 [a,b] 0=(Int.gcd (intOf a) (intOf b):Int):=by
 simp only [wE8,List.foldl_cons,List.foldl_nil]
 congr 1
 unfold Int.gcd
 simp
theorem okZ_dvd (x y:Int) (h:x.natAbs≤y.natAbs) (hy:okZ (zn y)):okZ (zn x):=wFG x (pC (qC h) hy.2)
theorem nR_eq (x:Rat) (a b:Int) (h:x.num=a∧(x.den:Int)=b):nR x=.agg [.bool (zn a).1,vL (zn a).2,.bool (zn b).1,vL (zn b).2]:=by
 unfold nR qn; rw [h.1,h.2]
 rfl
theorem wVA (a b:ZZ) (ha:okZ a) (hb:okZ b) (h0:intOf b≠0):wD Tryz.prog 130 [vI a,vI b] (fun y=>y=.tup [nR (Rat.divInt (intOf a) (intOf b)),.int .i64 0]):=by
 refine wC wG Tryz.func130 rfl rfl rfl rfl fun w0=>?_
 have q1:=vH b hb; have q2:=wP3 [a,b] (fun z h=>by rcases pQ.1 h with rfl | h; exact ha; rw [pL.1 h]; exact hb) (by simp)
 rw [foldG2] at q2; have og:=wN5 (intOf a) b (wE0 a ha) hb
 have hgd:=bC (intOf a) h0; have h1:((Int.gcd (intOf a) (intOf b):Nat):Int)∣intOf a:=bT ..
 have h2:((Int.gcd (intOf a) (intOf b):Nat):Int)∣intOf b:=fD ..; have hmp:=wHE (intOf a) (intOf b)
 have hmn:=qGG (intOf a) (intOf b); have q3:=qB8 (zn (Int.gcd (intOf a) (intOf b))) og
 have on:=wN4 (zn (Int.gcd (intOf a) (intOf b))) og; rw [wE] at q3 on
 generalize hg:((Int.gcd (intOf a) (intOf b):Nat):Int)=g at *; have hg0:0<g:=by omega
 rcases pD9 h0 with hlt | hgt
 ·have e:sgn (intOf b) = -1:=by unfold sgn; rw [if_pos hlt]
  rw [e] at q1; have q4:=x6 a (zn (-g)) ha on (by rw [wE]; omega) (by rw [wE]; exact pG3.2 h1)
  have q5:=x6 b (zn (-g)) hb on (by rw [wE]; omega) (by rw [wE]; exact pG3.2 h2)
  rw [wE] at q4 q5; rw [nR_eq _ _ _ (hmn hlt)]
  obtain ⟨x,l⟩:=a; obtain ⟨y,m⟩:=b
  repeat (first | refine wv ?_ | refine wg rfl cT ?_ | refine wg rfl cF ?_ | refine wc q1 ?_ | refine wh q2 ?_ | refine wc q3 ?_ | refine wc q4 ?_ | refine wc q5 ?_ | refine wz ?_)
  exact ⟨.inl rfl,_,rfl,rfl⟩
 ·have e:sgn (intOf b)=1:=by unfold sgn; rw [if_neg (by omega),if_pos hgt]
  rw [e] at q1; have q4:=x6 a (zn g) ha og (by rw [wE]; omega) (by rw [wE]; exact h1)
  have q5:=x6 b (zn g) hb og (by rw [wE]; omega) (by rw [wE]; exact h2)
  rw [wE] at q4 q5; rw [nR_eq _ _ _ (hmp hgt)]
  obtain ⟨x,l⟩:=a; obtain ⟨y,m⟩:=b
  repeat (first | refine wv ?_ | refine wg rfl cF ?_ | refine wc q1 ?_ | refine wh q2 ?_ | refine wc q4 ?_ | refine wc q5 ?_ | refine wz ?_)
  exact ⟨.inl rfl,_,rfl,rfl⟩
theorem wJ3 (q:QQ) (h:okQ q) (h0:intOf q.2≠0):wD Tryz.prog 77 [vQ q] (fun y=>y=.tup [nR (wI q),.int .i64 0]):=by
 refine wC wG Tryz.func77 rfl rfl rfl rfl fun w0=>?_
 have q1:=wVA q.1 q.2 h.1 h.2 h0; obtain ⟨⟨x,l⟩,⟨y,m⟩⟩:=q
 repeat (first | refine wv ?_ | refine wc q1 ?_ | refine wz ?_)
 exact ⟨.inl rfl,_,rfl,rfl⟩
theorem wCJ (a b:ZZ) (ha:okZ a) (hb:okZ b) (h0:intOf b≠0):wD Tryz.prog 127 [vI a,vI b] (fun y=>y=nR (Rat.divInt (intOf a) (intOf b))):=by
 refine wC wG Tryz.func127 rfl rfl rfl rfl fun w0=>?_
 have q1:=wF8 b hb; rcases pD9 h0 with hlt | hgt
 ·have e:sgn (intOf b) = -1:=by unfold sgn; rw [if_pos hlt]
  rw [e] at q1; have n1:=qCD a ha
  have n2:=qCD b hb; have oa:=wN4 a ha
  have ob:=wN4 b hb; have ee:Rat.divInt (intOf a) (intOf b)=Rat.divInt (-intOf a) (-intOf b):=(Rat.divInt_eq_divInt_iff (by omega) (by omega)).2 (by rw [pG2,Int.neg_mul])
  have q2:=rgcd_v (zn (-intOf a)) (zn (-intOf b)) oa ob; have og:=wN5 (-intOf a) (zn (-intOf b)) oa ob
  rw [wE] at q2 og; rw [wE] at q2
  rw [ee]; have hd0:0 < -intOf b:=by omega
  generalize -intOf a=X at *; generalize -intOf b=Y at *
  have hgd:=bC X (show Y≠0 by omega)
  have h1:((Int.gcd X Y:Nat):Int)∣X:=bT ..; have h2:((Int.gcd X Y:Nat):Int)∣Y:=fD ..
  have hmp:=wHE X Y hd0; generalize hg:((Int.gcd X Y:Nat):Int)=g at *
  have q4:=wH1 (zn X) (zn g) oa og (by rw [wE]; omega) (by rw [wE,wE]; exact h1)
  have q5:=wH1 (zn Y) (zn g) ob og (by rw [wE]; omega) (by rw [wE,wE]; exact h2)
  rw [wE,wE] at q4 q5; rw [nR_eq _ _ _ hmp]
  obtain ⟨x,l⟩:=a; obtain ⟨y,m⟩:=b
  repeat (first | refine wv ?_ | refine wg rfl cT ?_ | refine wc q1 ?_ | refine wc n1 ?_ | refine wc n2 ?_ | refine wc q2 ?_ | refine wc q4 ?_ | refine wc q5 ?_ | refine wz ?_)
  exact ⟨.inl rfl,_,rfl,rfl⟩
 ·have e:sgn (intOf b)=1:=by unfold sgn; rw [if_neg (by omega),if_pos hgt]
  rw [e] at q1; have q2:=rgcd_v a b ha hb
  have og:=wN5 (intOf a) b (wE0 a ha) hb; have hgd:=bC (intOf a) h0
  have h1:((Int.gcd (intOf a) (intOf b):Nat):Int)∣intOf a:=bT ..; have h2:((Int.gcd (intOf a) (intOf b):Nat):Int)∣intOf b:=fD ..
  have hmp:=wHE (intOf a) (intOf b) hgt; generalize hg:((Int.gcd (intOf a) (intOf b):Nat):Int)=g at *
  have q4:=wH1 a (zn g) ha og (by rw [wE]; omega) (by rw [wE]; exact h1)
  have q5:=wH1 b (zn g) hb og (by rw [wE]; omega) (by rw [wE]; exact h2)
  rw [wE] at q4 q5; rw [nR_eq _ _ _ hmp]
  obtain ⟨x,l⟩:=a; obtain ⟨y,m⟩:=b
  repeat (first | refine wv ?_ | refine wg rfl cF ?_ | refine wc q1 ?_ | refine wc q2 ?_ | refine wc q4 ?_ | refine wc q5 ?_ | refine wz ?_)
  exact ⟨.inl rfl,_,rfl,rfl⟩
theorem wPG (q:QQ) (h:okQ q) (h0:intOf q.2≠0):wD Tryz.prog 142 [vQ q] (fun y=>y=nR (wI q)):=by
 refine wC wG Tryz.func142 rfl rfl rfl rfl fun w0=>?_
 have q1:=wCJ q.1 q.2 h.1 h.2 h0; obtain ⟨⟨x,l⟩,⟨y,m⟩⟩:=q
 repeat (first | refine wv ?_ | refine wc q1 ?_ | refine wz ?_)
 exact ⟨.inl rfl,_,rfl,rfl⟩
end Go.Proofs.YtkjhfnhgefbhhaaGreat
/- Numbers of the program's own, comparing: zint.Of, simileref03.Of, Cmp, told of trees. -/
namespace Go.Proofs.YtkjhfnhgefbhhaaGreat
open Go.RowKit Go.Ev Go.Vl
theorem wR0 (n:Nat) (hn:n<9223372036854775808):wD Tryz.prog 119 [.int .i64 (n:Nat)] (fun y=>y=nI n):=by
 refine wC wG Tryz.func119 rfl rfl rfl rfl fun w0=>?_
 have q1:=natOf_v n (by omega)
 have q2:=yE false n
 repeat (first | refine wv ?_ | refine wg rfl cF ?_ | refine wg rfl (qI wG rfl rfl rfl rfl (jZ (by omega) (by omega)) rfl) ?_ | refine wc q1 ?_ | refine wc q2 ?_ | refine wz ?_)
 exact ⟨.inl rfl,_,rfl,rfl⟩
theorem rof_v (n:Nat) (hn:n<9223372036854775808):wD Tryz.prog 97 [.int .i64 (n:Nat)] (fun y=>y=nI n):=by
 refine wC wG Tryz.func97 rfl rfl rfl rfl fun w0=>?_
 have q1:=of01_v n (by omega)
 repeat (first | refine wv ?_ | refine wg rfl cT ?_ | refine wg rfl (qI wG rfl rfl rfl rfl (jZ (by omega) (by omega)) rfl) ?_ | refine wc q1 ?_ | refine wz ?_)
 exact ⟨.inl rfl,_,rfl,nI_of false n⟩
end Go.Proofs.YtkjhfnhgefbhhaaGreat
/- rat.Height, told of trees. -/
namespace Go.Proofs.YtkjhfnhgefbhhaaGreat
open Go.RowKit Go.Ev Go.Vl
def wH (q:QQ):List V:=[.bool q.1.1,vL q.1.2,.bool q.2.1,vL q.2.2]
def vQs (qs:List QQ):V:=.list (qs.map wH)
theorem qW (qs:List QQ):(qs.map wH).length=qs.length:=pF ..
theorem wPI (qs:List QQ) (q:QQ):qs.map wH++[wH q]=(qs++[q]).map wH:=by simp
theorem kO (qs:List QQ) (j:Nat) (q:QQ) (h:qs[j]? = some q):(qs.map wH)[j]? = some (wH q):=by rw [pI,h]; rfl
theorem drop_at {α:Type} (qs:List α) (j:Nat) (q:α) (h:qs[j]? = some q):qs.drop j=q :: qs.drop (j+1):=by
 obtain ⟨hj,rfl⟩:=pS.1 h; exact bM hj
def htQ (q:QQ):Nat:=max (wHG (wB q.1.2)) (wHG (wB q.2.2))
def htL (qs:List QQ) (n:Nat):Nat:=qs.foldl (fun n q=>max n (htQ q)) n
theorem height1_v (qs:List QQ) (hq:∀ q∈qs,okQ q) (hl:qs.length≤1099511627776):wD Tryz.prog 169 [vQs qs] (fun y=>y=.tup [.int .i64 (htL qs 0:Nat),.int .i64 0]):=by
 refine wC wG Tryz.func169 rfl rfl rfl rfl fun w0=>?_
 repeat (first | refine wg rfl (sL (qW _)) ?_ | refine wv ?_ | refine wz ?_)
 refine wJ (fun b:Nat × Nat=>[jI 8 (b.2),jV 14 (vQs qs),jI 16 (qs.length),jI 18 (b.1)])
  (fun b=>b.1≤qs.length∧htL (qs.drop b.1) b.2=htL qs 0) (fun b=>qs.length - b.1) (0,0) (fun _=>rfl) ⟨pH _,rfl⟩ ⟨rfl,rfl,rfl,rfl,trivial⟩ fun ⟨j,m⟩ hI=>?_
 obtain ⟨h1,h3⟩:=hI; dsimp only at h1 h3 ⊢
 rcases pG j qs.length with hj | hj
 ·obtain ⟨q,hqe⟩:=gE hj
  have hqo:=hq q (pD hqe); have hg:=kO qs j q hqe
  rw [drop_at qs j q hqe] at h3; obtain ⟨⟨x,l⟩,⟨y,k⟩⟩:=q
  have q1:=wV5 l hqo.1.1 (pC hqo.1.2 (by decide))
  have q2:=wV5 k hqo.2.1 (pC hqo.2.2 (by decide))
  repeat (first | refine wv ?_ | refine wg rfl (sX j hg) ?_ | refine wc q1 ?_ | refine wc q2 ?_ | refine wg rfl (sem_max3 rfl rfl rfl rfl rfl rfl rfl) ?_ | refine wg rfl cT ?_ | refine wg rfl sB ?_ | refine wz ?_)
  exact ⟨(j+1,max m (htQ ((x,l),(y,k)))),⟨hj,h3⟩,by dsimp only; omega,rfl,rfl,rfl,rfl,trivial⟩
 ·rw [pY hj] at h3
  repeat (first | refine wv ?_ | refine wg rfl cF ?_ | refine wz ?_)
  refine ⟨.inl rfl,_,rfl,?_⟩
  rw [← h3]; exact rfl
theorem madeInt_v (qs:List QQ) (hq:∀ q∈qs,okQ q∧intOf q.2≠0) (hl:qs.length≤1099511627776) (hn:∀ q∈qs,okQ (qn (wI q))):wD Tryz.prog 168 [.clo 169 [] [],vQs qs] (fun y=>y=.tup [.int .i64 (htL (qs.map fun q=>qn (wI q)) 0:Nat),.int .i64 0]):=by
 refine wC wG Tryz.func168 rfl rfl rfl rfl fun w0=>?_
 repeat (first | refine wg rfl (sL (qW _)) ?_ | refine wv ?_ | refine wg rfl (sM 7000 0 qs.length 4 64 (es':=[]) rfl) ?_ | refine wz ?_)
 refine wJ (fun b:Nat × List QQ=>[jV 0 (.clo 169 [] []),jV 12 (.int .i64 0),jO 14 1 89 4 (b.2.map wH),jV 30 (vQs qs),jI 32 (qs.length),jI 34 (b.1)])
  (fun b=>b.1≤qs.length∧b.2=(qs.take b.1).map fun q=>qn (wI q)) (fun b=>qs.length - b.1) (0,[]) (fun _=>rfl) ⟨pH _,rfl⟩ ⟨rfl,rfl,⟨_,rfl⟩,rfl,rfl,rfl,trivial⟩ fun ⟨j,out⟩ hI=>?_
 obtain ⟨h1,h3⟩:=hI; dsimp only at h1 h3 ⊢
 have hol:(out.map wH).length=out.length:=qW _; have hol2:out.length=j:=by rw [h3]; simp; omega
 rcases pG j qs.length with hj | hj
 ·obtain ⟨q,hqe⟩:=gE hj
  have hqo:=hq q (pD hqe); have hg:=kO qs j q hqe
  have q1:=wJ3 q hqo.1 hqo.2; have hs:=wPI out (qn (wI q))
  have hnew:out++[qn (wI q)]=(qs.take (j+1)).map fun q=>qn (wI q):=by
   rw [h3,mO,hqe]
   simp
  unfold nR at q1; generalize qn (wI q)=p at *
  obtain ⟨⟨x,l⟩,⟨y,k⟩⟩:=q; obtain ⟨⟨x',l'⟩,⟨y',k'⟩⟩:=p
  have row4:∀ e∈[wH ((x',l'),(y',k'))],e.length=4:=fun e h=>by rw [pL.1 h]; rfl
  repeat (first | refine wv ?_ | refine wg rfl (sX j hg) ?_ | refine wc q1 ?_ | refine wf rfl rfl (sA 7001 [wH ((x',l'),(y',k'))] 4 64 row4 hs) ?_ | refine wg rfl cT ?_ | refine wg rfl nF ?_ | refine wg rfl sB ?_ | refine wz ?_)
  exact ⟨(j+1,out++[((x',l'),(y',k'))]),⟨hj,hnew⟩,by dsimp only; omega,rfl,rfl,⟨_,rfl⟩,rfl,rfl,rfl,trivial⟩
 ·have hje:j=qs.length:=by omega
  subst hje; rw [mH] at h3
  have q1:=height1_v out (fun p hp=>by
   rw [h3] at hp; obtain ⟨q,hq1,rfl⟩:=pJ.1 hp
   exact hn q hq1) (by omega)
  repeat (first | refine wv ?_ | refine wg rfl cF ?_ | refine wh q1 ?_ | refine wz ?_)
  refine ⟨.inl rfl,_,rfl,?_⟩
  rw [← h3]
theorem qG6 (qs:List QQ) (hq:∀ q∈qs,okQ q∧intOf q.2≠0) (hl:qs.length≤1099511627776) (hn:∀ q∈qs,okQ (qn (wI q))):wD Tryz.prog 110 [vQs qs] (fun y=>y=.tup [.int .i64 (htL (qs.map fun q=>qn (wI q)) 0:Nat),.int .i64 0]):=by
 refine wC wG Tryz.func110 rfl rfl rfl rfl fun w0=>?_
 have q1:=madeInt_v qs hq hl hn
 repeat (first | refine wv ?_ | refine wc q1 ?_ | refine wz ?_)
 exact ⟨.inl rfl,_,rfl,rfl⟩
end Go.Proofs.YtkjhfnhgefbhhaaGreat
/- simileref05.Height, told of trees. -/
namespace Go.Proofs.YtkjhfnhgefbhhaaGreat
open Go.RowKit Go.Ev Go.Vl
theorem rheight_v (qs:List QQ) (hq:∀ q∈qs,okQ q∧intOf q.2≠0) (hl:qs.length≤1099511627776) (hn:∀ q∈qs,okQ (qn (wI q))):wD Tryz.prog 85 [vQs qs] (fun y=>y=.int .i64 (htL (qs.map fun q=>qn (wI q)) 0:Nat)):=by
 refine wC wG Tryz.func85 rfl rfl rfl rfl fun w0=>?_
 repeat (first | refine wg rfl (sL (qW _)) ?_ | refine wv ?_ | refine wz ?_)
 refine wJ (fun b:Nat × Nat=>[jI 6 (b.2),jV 16 (vQs qs),jI 18 (qs.length),jI 20 (b.1)])
  (fun b=>b.1≤qs.length∧htL ((qs.drop b.1).map fun q=>qn (wI q)) b.2=htL (qs.map fun q=>qn (wI q)) 0) (fun b=>qs.length - b.1) (0,0) (fun _=>rfl) ⟨pH _,rfl⟩ ⟨rfl,rfl,rfl,rfl,trivial⟩ fun ⟨j,m⟩ hI=>?_
 obtain ⟨h1,h3⟩:=hI; dsimp only at h1 h3 ⊢
 rcases pG j qs.length with hj | hj
 ·obtain ⟨q,hqe⟩:=gE hj
  have hqo:=hq q (pD hqe); have hpo:=hn q (pD hqe)
  have hg:=kO qs j q hqe; rw [drop_at qs j q hqe] at h3
  have q1:=wPG q hqo.1 hqo.2; unfold nR at q1
  simp only [List.map_cons] at h3
  generalize qn (wI q)=p at *; obtain ⟨⟨x,l⟩,⟨y,k⟩⟩:=q
  obtain ⟨⟨x',l'⟩,⟨y',k'⟩⟩:=p; have q2:=len01_v l' hpo.1.1 (pC hpo.1.2 (by decide))
  have q3:=len01_v k' hpo.2.1 (pC hpo.2.2 (by decide))
  have h4:htL ((qs.drop (j+1)).map fun q=>qn (wI q)) (max m (max (wHG (wB l')) (wHG (wB k'))))=htL (qs.map fun q=>qn (wI q)) 0:=h3
  generalize wHG (wB l')=u at *; generalize wHG (wB k')=v at *
  repeat (first | refine wv ?_ | refine wg rfl (sX j hg) ?_ | refine wc q1 ?_ | refine wc q2 ?_ | refine wc q3 ?_ | refine wg rfl cT ?_ | refine wz ?_)
  refine wJ (fun b:Nat × Nat=>[jI 6 (b.2),jV 16 (vQs qs),jI 18 (qs.length),jI 20 j,jV 48 (.agg [.int .i64 (u:Nat),.int .i64 (v:Nat)]),jI 50 (b.1)])
   (fun b=>(b.1=0∧b.2=m)∨(b.1=1∧b.2=max m u)∨(b.1=2∧b.2=max m (max u v))) (fun b=>2 - b.1) (0,m) (fun _=>rfl) (.inl ⟨rfl,rfl⟩) ⟨rfl,rfl,rfl,rfl,rfl,rfl,trivial⟩ fun ⟨i,h⟩ hI=>?_
  dsimp only at hI ⊢; rcases hI with ⟨rfl,rfl⟩ | ⟨rfl,rfl⟩ | ⟨rfl,rfl⟩
  ·by_cases hc:h<u
   ·repeat (first | refine wv ?_ | refine wg rfl cT ?_ | refine wg rfl sB ?_ | refine wg rfl (wJ1 (i:=0) (len:=2) (v:=.int .i64 (u:Nat)) wG rfl rfl rfl rfl rfl (by decide) rfl rfl) ?_ | refine wz ?_)
    exact ⟨(1,u),.inr (.inl ⟨rfl,by dsimp only; omega⟩),by dsimp only; omega,rfl,rfl,rfl,rfl,rfl,rfl,trivial⟩
   ·repeat (first | refine wv ?_ | refine wg rfl cT ?_ | refine wg rfl cF ?_ | refine wg rfl sB ?_ | refine wg rfl (wJ1 (i:=0) (len:=2) (v:=.int .i64 (u:Nat)) wG rfl rfl rfl rfl rfl (by decide) rfl rfl) ?_ | refine wz ?_)
    exact ⟨(1,h),.inr (.inl ⟨rfl,by dsimp only; omega⟩),by dsimp only; omega,rfl,rfl,rfl,rfl,rfl,rfl,trivial⟩
  ·by_cases hc:max m u<v
   ·repeat (first | refine wv ?_ | refine wg rfl cT ?_ | refine wg rfl sB ?_ | refine wg rfl (wJ1 (i:=1) (len:=2) (v:=.int .i64 (v:Nat)) wG rfl rfl rfl rfl rfl (by decide) rfl rfl) ?_ | refine wz ?_)
    exact ⟨(2,v),.inr (.inr ⟨rfl,by dsimp only; omega⟩),by dsimp only; omega,rfl,rfl,rfl,rfl,rfl,rfl,trivial⟩
   ·repeat (first | refine wv ?_ | refine wg rfl cT ?_ | refine wg rfl cF ?_ | refine wg rfl sB ?_ | refine wg rfl (wJ1 (i:=1) (len:=2) (v:=.int .i64 (v:Nat)) wG rfl rfl rfl rfl rfl (by decide) rfl rfl) ?_ | refine wz ?_)
    exact ⟨(2,max m u),.inr (.inr ⟨rfl,by dsimp only; omega⟩),by dsimp only; omega,rfl,rfl,rfl,rfl,rfl,rfl,trivial⟩
  ·repeat (first | refine wv ?_ | refine wg rfl cF ?_ | refine wg rfl sB ?_ | refine wz ?_)
   exact ⟨(j+1,max m (max u v)),⟨hj,h4⟩,by dsimp only; omega,rfl,rfl,rfl,rfl,trivial⟩
 ·rw [pY hj] at h3
  repeat (first | refine wv ?_ | refine wg rfl cF ?_ | refine wz ?_)
  refine ⟨.inl rfl,_,rfl,?_⟩
  rw [← h3]; exact rfl
end Go.Proofs.YtkjhfnhgefbhhaaGreat
/- Matrices: are the rows equally long? Told of trees. -/
namespace Go.Proofs.YtkjhfnhgefbhhaaGreat
open Go.RowKit Go.Ev Go.Vl
def vT (num:List (List ZZ)):V:=.list (num.map fun r=>[vZs r])
theorem qBD (num:List (List ZZ)):(num.map fun r=>[vZs r]).length=num.length:=pF ..
theorem vT_at (num:List (List ZZ)) (j:Nat) (r:List ZZ) (h:num[j]? = some r):(num.map fun r=>[vZs r])[j]? = some [vZs r]:=by rw [pI,h]; rfl
def wI1 (num:List (List ZZ)):Bool:=num.all fun r=>decide (r.length=(num.headD []).length)
theorem even_v (num:List (List ZZ)) (hl:num.length≤1099511627776):wD Tryz.prog 165 [vT num] (fun y=>y=.bool (wI1 num)):=by
 refine wC wG Tryz.func165 rfl rfl rfl rfl fun w0=>?_
 repeat (first | refine wg rfl (sL (qBD _)) ?_ | refine wv ?_ | refine wz ?_)
 refine wJ (fun j:Nat=>[jV 0 (vT num),jV 10 (vT num),jI 12 (num.length),jI 14 j])
  (fun j=>j≤num.length∧((num.drop j).all fun r=>decide (r.length=(num.headD []).length))=wI1 num) (fun j=>num.length - j) 0 (fun _=>rfl) ⟨pH _,rfl⟩ ⟨rfl,rfl,rfl,rfl,trivial⟩ fun j hI=>?_
 obtain ⟨h1,h3⟩:=hI; rcases pG j num.length with hj | hj
 ·obtain ⟨r,hr⟩:=gE hj
  obtain ⟨r0,hr0⟩:=gE (l:=num) (i:=0) (by omega)
  have hh:num.headD []=r0:=by cases num with
   | nil=>simp at hj
   | cons a l=>simpa using hr0
  have hg:=vT_at num j r hr; have hg0:=vT_at num 0 r0 hr0
  rw [drop_at num j r hr,hh] at h3; simp only [List.all_cons] at h3
  by_cases he:r.length=r0.length
  ·rw [decide_eq_true he,dU] at h3
   repeat (first | refine wg rfl (sL (wA1 r)) ?_ | refine wg rfl (sL (wA1 r0)) ?_ | refine wv ?_ | refine wg rfl (sX j hg) ?_ | refine wg rfl (sX 0 hg0) ?_ | refine wg rfl cT ?_ | refine wg rfl nF ?_ | refine wg rfl sB ?_ | refine wz ?_)
   exact ⟨j+1,⟨hj,by rw [hh]; exact h3⟩,by omega,rfl,rfl,rfl,rfl,trivial⟩
  ·rw [decide_eq_false he,bH] at h3
   repeat (first | refine wg rfl (sL (wA1 r)) ?_ | refine wg rfl (sL (wA1 r0)) ?_ | refine wv ?_ | refine wg rfl (sX j hg) ?_ | refine wg rfl (sX 0 hg0) ?_ | refine wg rfl cT ?_ | refine wg rfl nT ?_ | refine wz ?_)
   refine ⟨.inl rfl,_,rfl,?_⟩
   rw [← h3]
 ·rw [pY hj] at h3
  repeat (first | refine wv ?_ | refine wg rfl cF ?_ | refine wz ?_)
  refine ⟨.inl rfl,_,rfl,?_⟩
  rw [← h3]; exact rfl
end Go.Proofs.YtkjhfnhgefbhhaaGreat
/- qmat.Check, told of trees. -/
namespace Go.Proofs.YtkjhfnhgefbhhaaGreat
open Go.RowKit Go.Ev Go.Vl
abbrev MM:=ZZ × List (List ZZ)
def vM (m:MM):V:=.agg [.bool m.1.1,vL m.1.2,vT m.2]
def chk (m:MM):Int:=if intOf m.1=0 then 6 else if wI1 m.2=true then 0 else 2
theorem wUG (m:MM) (hd:okZ m.1) (hl:m.2.length≤1099511627776):wD Tryz.prog 106 [vM m] (fun y=>y=.int .i64 (chk m)):=by
 refine wC wG Tryz.func106 rfl rfl rfl rfl fun w0=>?_
 have q1:=vH m.1 hd; have q2:=even_v m.2 hl
 have fin:∀ {u v:Int},u=v→V.int .i64 u=V.int .i64 v:=fun h=>by rw [h]
 have hs:=xN (intOf m.1); unfold chk
 obtain ⟨⟨x,l⟩,t⟩:=m; dsimp only at *
 generalize intOf (x,l)=d at *; generalize sgn d=sd at *
 by_cases h0:d=0
 ·repeat (first | refine wv ?_ | refine wg rfl cT ?_ | refine wc q1 ?_ | refine wz ?_)
  refine ⟨.inl rfl,_,rfl,fin ?_⟩
  rw [if_pos h0]
 ·rw [if_neg h0]
  generalize wI1 t=e at *; cases e
  ·repeat (first | refine wv ?_ | refine wg rfl cF ?_ | refine wc q1 ?_ | refine wc q2 ?_ | refine wz ?_)
   exact ⟨.inl rfl,_,rfl,rfl⟩
  ·repeat (first | refine wv ?_ | refine wg rfl cF ?_ | refine wc q1 ?_ | refine wc q2 ?_ | refine wz ?_)
   exact ⟨.inl rfl,_,rfl,rfl⟩
end Go.Proofs.YtkjhfnhgefbhhaaGreat
