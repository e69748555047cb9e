/- simileref01.Left, Gcd, told of trees. -/
import Derived.Test.YtkjhfnhgefbhhaaGreatCd14
import Derived.Test.YtkjhfnhgefbhhaaGreatCd15
set_option linter.all false
namespace Go.Proofs.YtkjhfnhgefbhhaaGreat
open Go.RowKit Go.Ev Go.Vl
theorem natOf_zrep (k:Nat) (xs:List Nat):wD (List.replicate k 0++xs)=4294967296 ^ k*wD xs:=by
 rw [natOf_append,natOf_replicate,List.length_replicate,Nat.zero_add]
set_option maxRecDepth 20000 in
set_option maxHeartbeats 1600000 in
theorem left01_v (xs:List Nat) (t:Nat) (hx:okL xs) (hl:xs.length≤1099511627776) (ht:t≤35184372088832):wT Tryz.prog 277 [vL xs,.int .i64 (t:Nat)] (fun y=>y=vN (wD xs*2 ^ t)):=by
 refine wK wB Tryz.func277 rfl rfl rfl rfl fun w0=>?_
 have q1:=norm01_v xs hx (by omega)
 have hln:=toL_len xs hx
 have h1:Ev.ewrap .i64 ((t:Int).tdiv 32)=((t / 32:Nat):Int):=by
  have:(t:Int).tdiv 32=((t / 32:Nat):Int):=rfl
  rw [this,qC (by omega) (by omega)]
 have h2:(t:Int).tmod 32=((t % 32:Nat):Int):=rfl
 have h3:Ev.ewrap .u64 ((t % 32:Nat):Int)=((t % 32:Nat):Int):=wr_u64 (by omega) (by omega)
 have hp:2 ^ (t % 32)≤2147483648:=(Nat.pow_le_pow_right (by decide) (show t % 32≤31 by omega):2 ^ (t % 32)≤2 ^ 31)
 have h4:Ev.ewrap .u32 ((1*2 ^ (t % 32):Nat):Int)=((2 ^ (t % 32):Nat):Int):=by rw [Nat.one_mul,ew32,Nat.mod_eq_of_lt (by omega)]
 have happ:=uL_app (List.replicate (t / 32) 0) (toL (wD xs))
 have hok:okL (List.replicate (t / 32) 0++toL (wD xs)):=fun x h=>by
  rcases List.mem_append.1 h with h | h
  ·rw [(List.mem_replicate.1 h).2]; decide
  ·exact zG _ x h
 have q2:=small01_v (List.replicate (t / 32) 0++toL (wD xs)) (2 ^ (t % 32)) hok (by simp; omega) (by omega)
 rw [natOf_zrep,wY] at q2
 have hu:=qQ (toL (wD xs))
 have hu2:=qQ (List.replicate (t / 32) 0)
 have hu3:(List.replicate (t / 32) 0).length=t / 32:=List.length_replicate
 have e:4294967296 ^ (t / 32)*wD xs*2 ^ (t % 32)=wD xs*2 ^ t:=by
  have:2 ^ t=4294967296 ^ (t / 32)*2 ^ (t % 32):=by
   rw [show 4294967296=2 ^ 32 from rfl,← Nat.pow_mul,← Nat.pow_add,Nat.div_add_mod]
  rw [this,Nat.mul_comm (4294967296 ^ (t / 32)),Nat.mul_assoc]
 rw [← e]
 repeat (first | refine wQ wB rfl rfl rfl rfl ?_ | refine wG rfl rfl (sem_quoE rfl rfl rfl (by decide) h1 rfl) rfl ?_ | refine wG rfl rfl (kC rfl rfl rfl (by decide) h2 rfl) rfl ?_ | refine wG rfl rfl (z8 (id:=7000) (l:=t / 32) (c:=t / 32) (m:=1) (bb:=4) wB rfl rfl rfl rfl rfl rfl rfl rfl rfl rfl (Nat.le_refl _) rfl (by omega) (by simp only [maxLen]; omega) rfl rfl rfl (uL_rep _)) rfl ?_ | refine wE wB rfl rfl rfl rfl rfl rfl rfl rfl (q1) rfl rfl ?_ | refine kE rfl rfl rfl (qT (id:=7003) (es2:=uL (toL (wD xs))) (m:=1) (bb:=4) wB rfl rfl rfl rfl rfl rfl rfl rfl rfl rfl rfl (uL_one _) rfl (by simp only [maxLen]; omega) (by omega) rfl rfl happ) rfl ?_ | refine wG rfl rfl (qW wB rfl rfl rfl rfl h3 rfl) rfl ?_ | refine wG rfl rfl (sem_shlE (a:=1) (s:=t % 32) rfl rfl rfl rfl (by simp only [IntKind.bits]; omega) h4 rfl) rfl ?_ | refine zM wB rfl rfl rfl rfl rfl rfl rfl rfl rfl (q2) rfl rfl ?_ | refine wF wI rfl rfl ?_ | refine wJ ?_ | refine wC ?_ | refine wP ?_)
 exact ⟨.inl rfl,_,rfl,rfl⟩
theorem low2 (a:Nat) (h:0<a):(toL a).getD 0 0 % 2=a % 2:=by
 rw [toL_pos (by omega)]
 simp only [List.getD_cons_zero]
 omega
set_option maxRecDepth 20000 in
set_option maxHeartbeats 4800000 in
theorem gcd01_v (xs ys:List Nat) (hx:okL xs) (hy:okL ys) (hl:xs.length≤1099511627776) (hl2:ys.length≤1099511627776):wT Tryz.prog 243 [vL xs,vL ys] (fun y=>y=vN (Nat.gcd (wD xs) (wD ys))):=by
 refine wK wB Tryz.func243 rfl rfl rfl rfl fun w0=>?_
 have q1:=norm01_v xs hx (by omega)
 have q2:=norm01_v ys hy (by omega)
 have l1:=toL_len xs hx
 have l2:=toL_len ys hy
 have hxl:=q9 xs hx
 generalize wD xs=A at *
 generalize wD ys=B at *
 have hz:(toL 0).length=0:=by rw [zL]; rfl
 have half:=fun (a:Nat) (h:(toL a).length≤1099511627776)=>half01_v (toL a) (zG a) (Nat.le_trans h (by decide))
 simp only [wY] at half
 rcases Nat.eq_zero_or_pos A with rfl | hA
 ·repeat (first | refine wG rfl rfl (wR wB rfl rfl rfl rfl rfl rfl (qQ _) rfl) rfl ?_ | refine wQ wB rfl rfl rfl rfl ?_ | refine wG rfl rfl (wH rfl rfl rfl rfl (decide_eq_true (by omega)) rfl) rfl ?_ | refine wE wB rfl rfl rfl rfl rfl rfl rfl rfl (q1) rfl rfl ?_ | refine wE wB rfl rfl rfl rfl rfl rfl rfl rfl (q2) rfl rfl ?_ | refine wF wI rfl rfl ?_ | refine wJ ?_ | refine wC ?_ | refine wP ?_ | refine wN rfl ?_)
  refine ⟨.inl rfl,_,rfl,?_⟩
  rw [Nat.gcd_zero_left]
 have pA:=kN A hA
 rcases Nat.eq_zero_or_pos B with rfl | hB
 ·repeat (first | refine wG rfl rfl (wR wB rfl rfl rfl rfl rfl rfl (qQ _) rfl) rfl ?_ | refine wQ wB rfl rfl rfl rfl ?_ | refine wG rfl rfl (wH rfl rfl rfl rfl (decide_eq_true (by omega)) rfl) rfl ?_ | refine wG rfl rfl (wH rfl rfl rfl rfl (decide_eq_false (by omega)) rfl) rfl ?_ | refine wE wB rfl rfl rfl rfl rfl rfl rfl rfl (q1) rfl rfl ?_ | refine wE wB rfl rfl rfl rfl rfl rfl rfl rfl (q2) rfl rfl ?_ | refine wF wI rfl rfl ?_ | refine wJ ?_ | refine wC ?_ | refine wP ?_ | refine wO ?_ | refine wN rfl ?_ | refine wL rfl ?_)
  refine ⟨.inl rfl,_,rfl,?_⟩
  rw [Nat.gcd_zero_right]
 have pB:=kN B hB
 repeat (first | refine wG rfl rfl (wR wB rfl rfl rfl rfl rfl rfl (qQ _) rfl) rfl ?_ | refine wQ wB rfl rfl rfl rfl ?_ | refine wG rfl rfl (wH rfl rfl rfl rfl (decide_eq_false (by omega)) rfl) rfl ?_ | refine wE wB rfl rfl rfl rfl rfl rfl rfl rfl (q1) rfl rfl ?_ | refine wE wB rfl rfl rfl rfl rfl rfl rfl rfl (q2) rfl rfl ?_ | refine wF wI rfl rfl ?_ | refine wJ ?_ | refine wM ?_ | refine wC ?_ | refine wO ?_ | refine wL rfl ?_)
 refine vw_join 0 (fun b:Nat × Nat × Nat=>[(0,some (.sv (.v (vN b.1)))),(2,some (.sv (.v (vN b.2.1)))),(10,some (.sv (.v (.int .i64 (b.2.2:Nat)))))])
  (fun b=>0<b.1∧0<b.2.1∧(toL b.1).length≤1099511627776∧(toL b.2.1).length≤1099511627776∧b.2.2≤35184372088832∧Nat.gcd b.1 b.2.1 % 2=1∧Nat.gcd A B=Nat.gcd b.1 b.2.1*2 ^ b.2.2) (fun _=>rfl) ?_ ?_
 ·refine qF (fun b:Nat × Nat × Nat=>[(0,some (.sv (.v (vN b.1)))),(2,some (.sv (.v (vN b.2.1)))),(10,some (.sv (.v (.int .i64 (b.2.2:Nat)))))])
   (fun b=>0<b.1∧0<b.2.1∧(toL b.1).length≤1099511627776∧(toL b.2.1).length≤1099511627776∧b.1*2 ^ b.2.2=A∧Nat.gcd A B=Nat.gcd b.1 b.2.1*2 ^ b.2.2)
   (fun b=>b.1) (A,B,0) (fun _=>rfl) ⟨hA,hB,by dsimp only; omega,by dsimp only; omega,by simp,by simp⟩ ⟨rfl,rfl,rfl,trivial⟩ fun ⟨a,b,t⟩ hI=>?_
  obtain ⟨h1,h2,h3,h4,h5,h6⟩:=hI
  dsimp only at h1 h2 h3 h4 h5 h6 ⊢
  have ht:t≤35184372088832:=by
   have a1:2 ^ t≤A:=by
    rw [← h5]
    exact Nat.le_mul_of_pos_left _ h1
   have a2:2 ^ t<2 ^ (32*xs.length):=by
    rw [Nat.pow_mul]
    exact Nat.lt_of_le_of_lt a1 hxl
   have:=(Nat.pow_lt_pow_iff_right (by decide)).1 a2
   omega
  have pa:=kN a h1
  have pb:=kN b h2
  have ga:=kA (toL a) 0 pa
  have gb:=kA (toL b) 0 pb
  have ma:=low2 a h1
  have mb:=low2 b h2
  have ha2:=half a h3
  have hb2:=half b h4
  generalize (toL a).getD 0 0=a0 at *
  generalize (toL b).getD 0 0=b0 at *
  have hm:=Nat.mod_two_eq_zero_or_one
  by_cases ea:a % 2=0
  ·rw [ea] at ma
   by_cases eb:b % 2=0
   ·rw [eb] at mb
    repeat (first | refine wQ wB rfl rfl rfl rfl ?_ | refine wG rfl rfl (wU wB rfl rfl rfl (i:=0) rfl rfl rfl ga rfl rfl) rfl ?_ | refine wG rfl rfl (wU wB rfl rfl rfl (i:=0) rfl rfl rfl gb rfl rfl) rfl ?_ | refine wG rfl rfl (kC rfl rfl rfl (by decide) (nRem (b:=2) ma) rfl) rfl ?_ | refine wG rfl rfl (kC rfl rfl rfl (by decide) (nRem (b:=2) mb) rfl) rfl ?_ | refine wE wB rfl rfl rfl rfl rfl rfl rfl rfl (ha2) rfl rfl ?_ | refine wE wB rfl rfl rfl rfl rfl rfl rfl rfl (hb2) rfl rfl ?_ | refine wG rfl rfl (wH rfl rfl rfl rfl (decide_eq_true (by omega)) rfl) rfl ?_ | refine wG rfl rfl (wX rfl rfl rfl rfl (qC (by omega) (by omega)) rfl) rfl ?_ | refine wF wI rfl rfl ?_ | refine wJ ?_ | refine wM ?_ | refine wC ?_ | refine wO ?_ | refine wN rfl ?_)
    have e:=gcd_both ea eb
    refine ⟨(a / 2,b / 2,t+1),⟨by dsimp only; omega,by dsimp only; omega,Nat.le_trans (qN (Nat.div_le_self _ _)) h3,Nat.le_trans (qN (Nat.div_le_self _ _)) h4,?_,?_⟩,by dsimp only; omega,rfl,rfl,rfl,trivial⟩
    ·dsimp only
     rw [← h5,Nat.pow_succ,Nat.mul_comm (2 ^ t),← Nat.mul_assoc]
     congr 1
     omega
    ·dsimp only
     rw [h6,e,Nat.pow_succ,Nat.mul_comm 2,Nat.mul_assoc,Nat.mul_comm 2]
   ·have mb1:b0 % 2=1:=by have:=hm b; omega
    repeat (first | refine wQ wB rfl rfl rfl rfl ?_ | refine wG rfl rfl (wU wB rfl rfl rfl (i:=0) rfl rfl rfl ga rfl rfl) rfl ?_ | refine wG rfl rfl (wU wB rfl rfl rfl (i:=0) rfl rfl rfl gb rfl rfl) rfl ?_ | refine wG rfl rfl (kC rfl rfl rfl (by decide) (nRem (b:=2) ma) rfl) rfl ?_ | refine wG rfl rfl (kC rfl rfl rfl (by decide) (nRem (b:=2) mb1) rfl) rfl ?_ | refine wG rfl rfl (wH rfl rfl rfl rfl (decide_eq_true (by omega)) rfl) rfl ?_ | refine wG rfl rfl (wH rfl rfl rfl rfl (decide_eq_false (by omega)) rfl) rfl ?_ | refine wF wI rfl rfl ?_ | refine wJ ?_ | refine wC ?_ | refine qA ?_ | refine wL rfl ?_)
    exact ⟨(a,b,t),⟨h1,h2,h3,h4,ht,gcd_odd fun h=>eb h.2,h6⟩,rfl,rfl,rfl,trivial⟩
  ·have ma1:a0 % 2=1:=by have:=hm a; omega
   repeat (first | refine wQ wB rfl rfl rfl rfl ?_ | refine wG rfl rfl (wU wB rfl rfl rfl (i:=0) rfl rfl rfl ga rfl rfl) rfl ?_ | refine wG rfl rfl (kC rfl rfl rfl (by decide) (nRem (b:=2) ma1) rfl) rfl ?_ | refine wG rfl rfl (wH rfl rfl rfl rfl (decide_eq_false (by omega)) rfl) rfl ?_ | refine rr_no rfl rfl rfl rfl rfl rfl ?_ | refine wF wI rfl rfl ?_ | refine wJ ?_ | refine wC ?_ | refine qA ?_ | refine wL rfl ?_)
   exact ⟨(a,b,t),⟨h1,h2,h3,h4,ht,gcd_odd fun h=>ea h.1,h6⟩,rfl,rfl,rfl,trivial⟩
 ·rintro ⟨a,b,t⟩ hI
  obtain ⟨h1,h2,h3,h4,h5,h6,h7⟩:=hI
  dsimp only at h1 h2 h3 h4 h5 h6 h7 ⊢
  have hlf:=fun (a:Nat) (h:(toL a).length≤1099511627776)=>left01_v (toL a) t (zG a) h h5
  simp only [wY] at hlf
  generalize hG:Nat.gcd a b=G at *
  rw [h7]
  repeat (first | refine wJ ?_ | refine wM ?_)
  refine qF (fun b:Nat × Nat=>[(0,some (.sv (.v (vN b.1)))),(2,some (.sv (.v (vN b.2)))),(10,some (.sv (.v (.int .i64 (t:Nat)))))])
   (fun b=>(toL b.1).length≤1099511627776∧(toL b.2).length≤1099511627776∧Nat.gcd b.1 b.2=G) (fun b=>b.1+b.2) (a,b) (fun _=>rfl) ⟨h3,h4,hG⟩ ⟨rfl,rfl,rfl,trivial⟩ fun ⟨a,b⟩ hI=>?_
  obtain ⟨i1,i2,i3⟩:=hI
  dsimp only at i1 i2 i3 ⊢
  rcases Nat.eq_zero_or_pos a with rfl | ha
  ·have q:=hlf b i2
   rw [Nat.gcd_zero_left] at i3
   repeat (first | refine wG rfl rfl (wR wB rfl rfl rfl rfl rfl rfl (qQ _) rfl) rfl ?_ | refine wQ wB rfl rfl rfl rfl ?_ | refine wG rfl rfl (wH rfl rfl rfl rfl (decide_eq_true (by omega)) rfl) rfl ?_ | refine wG rfl rfl (wH rfl rfl rfl rfl (decide_eq_false (by omega)) rfl) rfl ?_ | refine wE wB rfl rfl rfl rfl rfl rfl rfl rfl (q) rfl rfl ?_ | refine rr_no rfl rfl rfl rfl rfl rfl ?_ | refine wF wI rfl rfl ?_ | refine wJ ?_ | refine wC ?_ | refine wP ?_ | refine qA ?_ | refine wN rfl ?_ | refine wL rfl ?_)
   refine ⟨.inl rfl,_,rfl,?_⟩
   rw [i3]
  have pa:=kN a ha
  rcases Nat.eq_zero_or_pos b with rfl | hb
  ·have q:=hlf a i1
   rw [Nat.gcd_zero_right] at i3
   repeat (first | refine wG rfl rfl (wR wB rfl rfl rfl rfl rfl rfl (qQ _) rfl) rfl ?_ | refine wQ wB rfl rfl rfl rfl ?_ | refine wG rfl rfl (wH rfl rfl rfl rfl (decide_eq_true (by omega)) rfl) rfl ?_ | refine wG rfl rfl (wH rfl rfl rfl rfl (decide_eq_false (by omega)) rfl) rfl ?_ | refine wE wB rfl rfl rfl rfl rfl rfl rfl rfl (q) rfl rfl ?_ | refine wF wI rfl rfl ?_ | refine wJ ?_ | refine wC ?_ | refine wP ?_ | refine qA ?_ | refine wO ?_ | refine wL rfl ?_)
   refine ⟨.inl rfl,_,rfl,?_⟩
   rw [i3]
  have pb:=kN b hb
  repeat (first | refine wG rfl rfl (wR wB rfl rfl rfl rfl rfl rfl (qQ _) rfl) rfl ?_ | refine wQ wB rfl rfl rfl rfl ?_ | refine wG rfl rfl (wH rfl rfl rfl rfl (decide_eq_true (by omega)) rfl) rfl ?_ | refine wF wI rfl rfl ?_ | refine wJ ?_ | refine wM ?_ | refine wC ?_ | refine wO ?_ | refine wN rfl ?_)
  refine vw_join 4 (fun c:Nat=>[(0,some (.sv (.v (vN c)))),(2,some (.sv (.v (vN b)))),(10,some (.sv (.v (.int .i64 (t:Nat)))))]) (fun c=>0<c∧c≤a∧Nat.gcd c b=G) (fun _=>rfl) ?_ ?_
  ·refine qF (fun c:Nat=>[(0,some (.sv (.v (vN c)))),(2,some (.sv (.v (vN b)))),(10,some (.sv (.v (.int .i64 (t:Nat)))))]) (fun c=>0<c∧c≤a∧Nat.gcd c b=G) (fun c=>c) a (fun _=>rfl) ⟨ha,Nat.le_refl _,i3⟩ ⟨rfl,rfl,rfl,trivial⟩ fun c hI=>?_
   obtain ⟨j1,j2,j3⟩:=hI
   have pc:=kN c j1
   have gc:=kA (toL c) 0 pc
   have mc:=low2 c j1
   have hc2:=half c (Nat.le_trans (qN j2) i1)
   generalize (toL c).getD 0 0=c0 at *
   have hm:=Nat.mod_two_eq_zero_or_one c
   by_cases ec:c % 2=0
   ·rw [ec] at mc
    repeat (first | refine wQ wB rfl rfl rfl rfl ?_ | refine wG rfl rfl (wU wB rfl rfl rfl (i:=0) rfl rfl rfl gc rfl rfl) rfl ?_ | refine wG rfl rfl (kC rfl rfl rfl (by decide) (nRem (b:=2) mc) rfl) rfl ?_ | refine wE wB rfl rfl rfl rfl rfl rfl rfl rfl (hc2) rfl rfl ?_ | refine wG rfl rfl (wH rfl rfl rfl rfl (decide_eq_true (by omega)) rfl) rfl ?_ | refine wF wI rfl rfl ?_ | refine wJ ?_ | refine wM ?_ | refine wC ?_ | refine wO ?_ | refine wN rfl ?_)
    exact ⟨c / 2,⟨by omega,by omega,by rw [gcd_half ec (by rw [j3]; exact h6),j3]⟩,by omega,rfl,rfl,rfl,trivial⟩
   ·have mc1:c0 % 2=1:=by omega
    repeat (first | refine wQ wB rfl rfl rfl rfl ?_ | refine wG rfl rfl (wU wB rfl rfl rfl (i:=0) rfl rfl rfl gc rfl rfl) rfl ?_ | refine wG rfl rfl (kC rfl rfl rfl (by decide) (nRem (b:=2) mc1) rfl) rfl ?_ | refine wG rfl rfl (wH rfl rfl rfl rfl (decide_eq_false (by omega)) rfl) rfl ?_ | refine wF wI rfl rfl ?_ | refine wJ ?_ | refine wC ?_ | refine qA ?_ | refine wL rfl ?_)
    exact ⟨c,⟨j1,j2,j3⟩,rfl,rfl,rfl,trivial⟩
  ·intro c hI
   obtain ⟨j1,j2,j3⟩:=hI
   have lc:=Nat.le_trans (qN j2) i1
   repeat (first | refine wJ ?_ | refine wM ?_)
   refine vw_join 6 (fun d:Nat=>[(0,some (.sv (.v (vN c)))),(2,some (.sv (.v (vN d)))),(10,some (.sv (.v (.int .i64 (t:Nat)))))]) (fun d=>0<d∧d≤b∧Nat.gcd c d=G) (fun _=>rfl) ?_ ?_
   ·refine qF (fun d:Nat=>[(0,some (.sv (.v (vN c)))),(2,some (.sv (.v (vN d)))),(10,some (.sv (.v (.int .i64 (t:Nat)))))]) (fun d=>0<d∧d≤b∧Nat.gcd c d=G) (fun d=>d) b (fun _=>rfl) ⟨hb,Nat.le_refl _,j3⟩ ⟨rfl,rfl,rfl,trivial⟩ fun d hI=>?_
    obtain ⟨k1,k2,k3⟩:=hI
    have pd:=kN d k1
    have gd:=kA (toL d) 0 pd
    have md:=low2 d k1
    have hd2:=half d (Nat.le_trans (qN k2) i2)
    generalize (toL d).getD 0 0=d0 at *
    have hm:=Nat.mod_two_eq_zero_or_one d
    by_cases ed:d % 2=0
    ·rw [ed] at md
     repeat (first | refine wQ wB rfl rfl rfl rfl ?_ | refine wG rfl rfl (wU wB rfl rfl rfl (i:=0) rfl rfl rfl gd rfl rfl) rfl ?_ | refine wG rfl rfl (kC rfl rfl rfl (by decide) (nRem (b:=2) md) rfl) rfl ?_ | refine wE wB rfl rfl rfl rfl rfl rfl rfl rfl (hd2) rfl rfl ?_ | refine wG rfl rfl (wH rfl rfl rfl rfl (decide_eq_true (by omega)) rfl) rfl ?_ | refine wF wI rfl rfl ?_ | refine wJ ?_ | refine wM ?_ | refine wC ?_ | refine wO ?_ | refine wN rfl ?_)
     exact ⟨d / 2,⟨by omega,by omega,by rw [Nat.gcd_comm,gcd_half ed (by rw [Nat.gcd_comm,k3]; exact h6),Nat.gcd_comm,k3]⟩,by omega,rfl,rfl,rfl,trivial⟩
    ·have md1:d0 % 2=1:=by omega
     repeat (first | refine wQ wB rfl rfl rfl rfl ?_ | refine wG rfl rfl (wU wB rfl rfl rfl (i:=0) rfl rfl rfl gd rfl rfl) rfl ?_ | refine wG rfl rfl (kC rfl rfl rfl (by decide) (nRem (b:=2) md1) rfl) rfl ?_ | refine wG rfl rfl (wH rfl rfl rfl rfl (decide_eq_false (by omega)) rfl) rfl ?_ | refine wF wI rfl rfl ?_ | refine wJ ?_ | refine wC ?_ | refine qA ?_ | refine wL rfl ?_)
     exact ⟨d,⟨k1,k2,k3⟩,rfl,rfl,rfl,trivial⟩
   ·intro d hI
    obtain ⟨k1,k2,k3⟩:=hI
    have ld:=Nat.le_trans (qN k2) i2
    have cm:=cmp01_v (toL c) (toL d) (zG c) (zG d) (by omega) (by omega)
    simp only [wY] at cm
    by_cases hlt:c<d
    ·have hc:cmpN c d = -1:=by unfold cmpN; rw [if_pos hlt]
     rw [hc] at cm
     have sb:=sub01_v (toL d) (toL c) (zG d) (zG c) (by omega) (by simp only [wY]; omega)
     simp only [wY] at sb
     repeat (first | refine wQ wB rfl rfl rfl rfl ?_ | refine wG rfl rfl (wH rfl rfl rfl rfl (decide_eq_false (by omega)) rfl) rfl ?_ | refine wE wB rfl rfl rfl rfl rfl rfl rfl rfl (cm) rfl rfl ?_ | refine wE wB rfl rfl rfl rfl rfl rfl rfl rfl (sb) rfl rfl ?_ | refine wF wI rfl rfl ?_ | refine wJ ?_ | refine wM ?_ | refine wC ?_ | refine wL rfl ?_)
     exact ⟨(c,d - c),⟨lc,Nat.le_trans (qN (Nat.sub_le _ _)) ld,by dsimp only; rw [Nat.gcd_comm,gcd_less (by omega),Nat.gcd_comm,k3]⟩,by dsimp only; omega,rfl,rfl,rfl,trivial⟩
    ·have hc:0≤cmpN c d:=by unfold cmpN; rw [if_neg hlt]; split <;> decide
     have sb:=sub01_v (toL c) (toL d) (zG c) (zG d) (by omega) (by simp only [wY]; omega)
     simp only [wY] at sb
     generalize cmpN c d=cc at *
     repeat (first | refine wQ wB rfl rfl rfl rfl ?_ | refine wG rfl rfl (wH rfl rfl rfl rfl (decide_eq_true (by omega)) rfl) rfl ?_ | refine wE wB rfl rfl rfl rfl rfl rfl rfl rfl (cm) rfl rfl ?_ | refine wE wB rfl rfl rfl rfl rfl rfl rfl rfl (sb) rfl rfl ?_ | refine wF wI rfl rfl ?_ | refine wJ ?_ | refine wM ?_ | refine wC ?_ | refine wN rfl ?_)
     exact ⟨(c - d,d),⟨Nat.le_trans (qN (Nat.sub_le _ _)) lc,ld,by dsimp only; rw [gcd_less (by omega),k3]⟩,by dsimp only; omega,rfl,rfl,rfl,trivial⟩
end Go.Proofs.YtkjhfnhgefbhhaaGreat
/- Fractions made, told of trees: zint.Gcd, rat.Make, rat.Norm, simileref03.Gcd, simileref05.Make, Norm. -/
namespace Go.Proofs.YtkjhfnhgefbhhaaGreat
open Go.RowKit Go.Ev Go.Vl
set_option maxRecDepth 20000 in
set_option maxHeartbeats 1600000 in
theorem rgcd_v (a b:ZZ) (ha:okZ a) (hb:okZ b):wT Tryz.prog 192 [vI a,vI b] (fun y=>y=nI (Int.gcd (intOf a) (intOf b))):=by
 refine wK wB Tryz.func192 rfl rfl rfl rfl fun w0=>?_
 have e1:=zX a
 have e2:=zX b
 obtain ⟨x,l⟩:=a
 obtain ⟨y,m⟩:=b
 obtain ⟨h1,h2⟩:=ha
 obtain ⟨h3,h4⟩:=hb
 dsimp only at h1 h2 h3 h4 e1 e2
 have q1:=gcd01_v l m h1 h3 h2 h4
 have e3:Int.gcd (intOf (x,l)) (intOf (y,m))=Nat.gcd (wD l) (wD m):=by unfold Int.gcd; rw [e1,e2]
 rw [e3]
 repeat (first | refine wQ wB rfl rfl rfl rfl ?_ | refine wE wB rfl rfl rfl rfl rfl rfl rfl rfl (q1) rfl rfl ?_ | refine wF wI rfl rfl ?_ | refine wJ ?_ | refine wC ?_ | refine wP ?_)
 exact ⟨.inl rfl,_,rfl,nI_of false (Nat.gcd (wD l) (wD m))⟩
def zrow (z:ZZ):List V:=[.bool z.1,vL z.2]
def vZs (zs:List ZZ):V:=.list (zs.map zrow)
theorem zrow_len (zs:List ZZ):(zs.map zrow).length=zs.length:=List.length_map ..
theorem okZ_gcd (x:Int) (z:ZZ) (hx:okZ (zn x)) (hz:okZ z):okZ (zn (Int.gcd x (intOf z))):=by
 refine okZ_zn _ ?_
 rw [Int.natAbs_natCast]
 rcases Nat.eq_zero_or_pos x.natAbs with h | h
 ·have:Int.gcd x (intOf z)=(intOf z).natAbs:=by unfold Int.gcd; rw [h,Nat.gcd_zero_left]
  rw [this]
  exact Nat.le_trans (len_intOf z hz) hz.2
 ·have:Int.gcd x (intOf z)≤x.natAbs:=Nat.le_of_dvd h (Nat.gcd_dvd_left _ _)
  exact Nat.le_trans (qN this) hx.2
def foldG (zs:List ZZ) (x:Int):Int:=zs.foldl (fun g z=>(Int.gcd g (intOf z):Int)) x
set_option maxRecDepth 20000 in
set_option maxHeartbeats 1600000 in
theorem foldedG_v (x0:Int) (zs:List ZZ) (hx:okZ (zn x0)) (hz:∀ z∈zs,okZ z) (hl:zs.length≤1099511627776):wT Tryz.prog 226 [nI x0,vZs zs,.clo 227 [] []] (fun y=>y=nI (foldG zs x0)):=by
 refine wK wB Tryz.func226 rfl rfl rfl rfl fun w0=>?_
 repeat (first | refine wG rfl rfl (wR wB rfl rfl rfl rfl rfl rfl (zrow_len _) rfl) rfl ?_ | refine wQ wB rfl rfl rfl rfl ?_ | refine wF wI rfl rfl ?_ | refine wJ ?_ | refine wM ?_ | refine wC ?_)
 refine qF (fun b:Nat × Int=>[(4,some (.sv (.v (.clo 227 [] [])))),(6,some (.sv (.bx 3 0))),(7,some (.bx [.v (.bool (zn b.2).1),.v (vL (zn b.2).2)])),(12,some (.sv (.bx 6 0))),(13,some (.bx [.v (.bool false),.nils])),(18,some (.sv (.v (vZs zs)))),(20,some (.sv (.v (.int .i64 (zs.length:Nat))))),(22,some (.sv (.v (.int .i64 (b.1:Nat)))))])
  (fun b=>b.1≤zs.length∧okZ (zn b.2)∧foldG (zs.drop b.1) b.2=foldG zs x0) (fun b=>zs.length - b.1) (0,x0) (fun _=>rfl) ⟨Nat.zero_le _,hx,rfl⟩ ⟨rfl,rfl,rfl,rfl,rfl,rfl,rfl,rfl,trivial⟩ fun ⟨j,x⟩ hI=>?_
 obtain ⟨h1,h2,h3⟩:=hI
 dsimp only at h1 h2 h3 ⊢
 rcases Nat.lt_or_ge j zs.length with hj | hj
 ·obtain ⟨z,hze⟩:∃ z,zs[j]? = some z:=⟨_,List.getElem?_eq_getElem hj⟩
  have hzo:=hz z (List.mem_of_getElem? hze)
  have hg:(zs.map zrow)[j]? = some [.bool z.1,vL z.2]:=by rw [List.getElem?_map,hze]; rfl
  have q:=zgcd1_v (zn x) z h2 hzo
  rw [wS] at q
  have hd:zs.drop j=z :: zs.drop (j+1):=by
   rw [List.drop_eq_getElem_cons hj]
   rw [List.getElem?_eq_getElem hj] at hze
   cases hze
   rfl
  rw [hd] at h3
  have hok:=okZ_gcd x z h2 hzo
  repeat (first | refine wQ wB rfl rfl rfl rfl ?_ | refine wG rfl rfl (wH rfl rfl rfl rfl (decide_eq_true (by omega)) rfl) rfl ?_ | refine wG rfl rfl (wX rfl rfl rfl rfl (qC (by omega) (by omega)) rfl) rfl ?_ | refine wG rfl rfl (wU wB rfl rfl rfl (i:=j) rfl rfl rfl hg rfl rfl) rfl ?_ | refine wE wB rfl rfl rfl rfl rfl rfl rfl rfl (q) rfl rfl ?_ | refine wF wI rfl rfl ?_ | refine wJ ?_ | refine wM ?_ | refine wC ?_ | refine wO ?_ | refine wN rfl ?_)
  exact ⟨(j+1,(Int.gcd x (intOf z):Int)),⟨hj,hok,h3⟩,by dsimp only; omega,rfl,rfl,rfl,rfl,rfl,rfl,rfl,rfl,trivial⟩
 ·rw [List.drop_of_length_le hj] at h3
  repeat (first | refine wQ wB rfl rfl rfl rfl ?_ | refine wG rfl rfl (wH rfl rfl rfl rfl (decide_eq_false (by omega)) rfl) rfl ?_ | refine wF wI rfl rfl ?_ | refine wJ ?_ | refine wC ?_ | refine wP ?_ | refine qA ?_ | refine wL rfl ?_)
  refine ⟨.inl rfl,_,rfl,?_⟩
  rw [← h3]
  exact rfl
set_option maxRecDepth 20000 in
set_option maxHeartbeats 1600000 in
theorem zgcdAll_v (zs:List ZZ) (hz:∀ z∈zs,okZ z) (hl:zs.length≤1099511627776):wT Tryz.prog 172 [vZs zs] (fun y=>y=nI (foldG zs 0)):=by
 refine wK wB Tryz.func172 rfl rfl rfl rfl fun w0=>?_
 have q:=foldedG_v 0 zs (okZ_zn 0 (by simp [zL])) hz hl
 have e0:nI 0=.agg [.bool false,.list []]:=by unfold nI vI zn; simp [zL,vL,uL]
 rw [e0] at q
 repeat (first | refine wQ wB rfl rfl rfl rfl ?_ | refine wE wB rfl rfl rfl rfl rfl rfl rfl rfl (q) rfl rfl ?_ | refine wF wI rfl rfl ?_ | refine wJ ?_ | refine wC ?_ | refine wP ?_)
 exact ⟨.inl rfl,_,rfl,rfl⟩
abbrev QQ:=ZZ × ZZ
def vQ (q:QQ):V:=.agg [.bool q.1.1,vL q.1.2,.bool q.2.1,vL q.2.2]
def okQ (q:QQ):Prop:=okZ q.1∧okZ q.2
def qR (q:QQ):Rat:=Rat.divInt (intOf q.1) (intOf q.2)
def qn (x:Rat):QQ:=(zn x.num,zn x.den)
def nR (x:Rat):V:=vQ (qn x)
theorem ratOf_qn (x:Rat):qR (qn x)=x:=by
 unfold qR qn
 rw [wS,wS]
 exact Rat.num_divInt_den x
theorem make_pos (n d:Int) (h:0<d):(Rat.divInt n d).num=n.tdiv (Int.gcd n d)∧((Rat.divInt n d).den:Int)=d.tdiv (Int.gcd n d):=by
 have h1:((Int.gcd n d:Nat):Int)∣n:=Int.gcd_dvd_left ..
 have h2:((Int.gcd n d:Nat):Int)∣d:=Int.gcd_dvd_right ..
 rw [Rat.num_divInt,Rat.den_divInt,Int.gcd_comm d n,Int.tdiv_eq_ediv_of_dvd h1,Int.tdiv_eq_ediv_of_dvd h2,Int.sign_eq_one_of_pos h,Int.one_mul,if_neg (by omega)]
 refine ⟨rfl,?_⟩
 rw [Int.natCast_ediv,Int.natAbs_of_nonneg (by omega)]
theorem make_neg (n d:Int) (h:d<0):(Rat.divInt n d).num=n.tdiv (-(Int.gcd n d:Int))∧((Rat.divInt n d).den:Int)=d.tdiv (-(Int.gcd n d:Int)):=by
 have e:Rat.divInt n d=Rat.divInt (-n) (-d):=(Rat.divInt_eq_divInt_iff (by omega) (by omega)).2 (by rw [Int.mul_neg,Int.neg_mul])
 have:=make_pos (-n) (-d) (by omega)
 rw [← e,Int.neg_gcd,Int.gcd_neg,Int.neg_tdiv,Int.neg_tdiv] at this
 rw [Int.tdiv_neg,Int.tdiv_neg]
 exact this
theorem foldG2 (a b:ZZ):foldG [a,b] 0=(Int.gcd (intOf a) (intOf b):Int):=by
 simp only [foldG,List.foldl_cons,List.foldl_nil]
 congr 1
 unfold Int.gcd
 simp
theorem okZ_dvd (x y:Int) (h:x.natAbs≤y.natAbs) (hy:okZ (zn y)):okZ (zn x):=okZ_zn x (Nat.le_trans (qN h) hy.2)
theorem nR_eq (x:Rat) (a b:Int) (h:x.num=a∧(x.den:Int)=b):nR x=.agg [.bool (zn a).1,vL (zn a).2,.bool (zn b).1,vL (zn b).2]:=by
 unfold nR qn
 rw [h.1,h.2]
 rfl
set_option maxRecDepth 20000 in
set_option maxHeartbeats 1600000 in
theorem make_v (a b:ZZ) (ha:okZ a) (hb:okZ b) (h0:intOf b≠0):wT Tryz.prog 130 [vI a,vI b] (fun y=>y=.tup [nR (Rat.divInt (intOf a) (intOf b)),.int .i64 0]):=by
 refine wK wB Tryz.func130 rfl rfl rfl rfl fun w0=>?_
 have q1:=zsign_v b hb
 have q2:=zgcdAll_v [a,b] (fun z h=>by rcases List.mem_cons.1 h with rfl | h; exact ha; rw [List.mem_singleton.1 h]; exact hb) (by simp)
 rw [foldG2] at q2
 have og:=okZ_gcd (intOf a) b (okZ_norm a ha) hb
 have hgd:=Int.gcd_pos_of_ne_zero_right (intOf a) h0
 have h1:((Int.gcd (intOf a) (intOf b):Nat):Int)∣intOf a:=Int.gcd_dvd_left ..
 have h2:((Int.gcd (intOf a) (intOf b):Nat):Int)∣intOf b:=Int.gcd_dvd_right ..
 have hmp:=make_pos (intOf a) (intOf b)
 have hmn:=make_neg (intOf a) (intOf b)
 have q3:=zneg_v (zn (Int.gcd (intOf a) (intOf b))) og
 have on:=okZ_neg (zn (Int.gcd (intOf a) (intOf b))) og
 rw [wS] at q3 on
 generalize hg:((Int.gcd (intOf a) (intOf b):Nat):Int)=g at *
 have hg0:0<g:=by omega
 rcases Int.lt_or_gt_of_ne h0 with hlt | hgt
 ·have e:sgn (intOf b) = -1:=by unfold sgn; rw [if_pos hlt]
  rw [e] at q1
  have q4:=zexact_v a (zn (-g)) ha on (by rw [wS]; omega) (by rw [wS]; exact Int.neg_dvd.2 h1)
  have q5:=zexact_v b (zn (-g)) hb on (by rw [wS]; omega) (by rw [wS]; exact Int.neg_dvd.2 h2)
  rw [wS] at q4 q5
  rw [nR_eq _ _ _ (hmn hlt)]
  obtain ⟨x,l⟩:=a
  obtain ⟨y,m⟩:=b
  repeat (first | refine wQ wB rfl rfl rfl rfl ?_ | refine wG rfl rfl (wH rfl rfl rfl rfl (decide_eq_true (by omega)) rfl) rfl ?_ | refine wG rfl rfl (wH rfl rfl rfl rfl (decide_eq_false (by omega)) rfl) rfl ?_ | refine wE wB rfl rfl rfl rfl rfl rfl rfl rfl (q1) rfl rfl ?_ | refine zM wB rfl rfl rfl rfl rfl rfl rfl rfl rfl (q2) rfl rfl ?_ | refine wE wB rfl rfl rfl rfl rfl rfl rfl rfl (q3) rfl rfl ?_ | refine wE wB rfl rfl rfl rfl rfl rfl rfl rfl (q4) rfl rfl ?_ | refine wE wB rfl rfl rfl rfl rfl rfl rfl rfl (q5) rfl rfl ?_ | refine wF wI rfl rfl ?_ | refine wJ ?_ | refine wC ?_ | refine wP ?_ | refine wO ?_ | refine wN rfl ?_ | refine wL rfl ?_)
  exact ⟨.inl rfl,_,rfl,rfl⟩
 ·have e:sgn (intOf b)=1:=by unfold sgn; rw [if_neg (by omega),if_pos hgt]
  rw [e] at q1
  have q4:=zexact_v a (zn g) ha og (by rw [wS]; omega) (by rw [wS]; exact h1)
  have q5:=zexact_v b (zn g) hb og (by rw [wS]; omega) (by rw [wS]; exact h2)
  rw [wS] at q4 q5
  rw [nR_eq _ _ _ (hmp hgt)]
  obtain ⟨x,l⟩:=a
  obtain ⟨y,m⟩:=b
  repeat (first | refine wQ wB rfl rfl rfl rfl ?_ | refine wG rfl rfl (wH rfl rfl rfl rfl (decide_eq_false (by omega)) rfl) rfl ?_ | refine wE wB rfl rfl rfl rfl rfl rfl rfl rfl (q1) rfl rfl ?_ | refine zM wB rfl rfl rfl rfl rfl rfl rfl rfl rfl (q2) rfl rfl ?_ | refine wE wB rfl rfl rfl rfl rfl rfl rfl rfl (q4) rfl rfl ?_ | refine wE wB rfl rfl rfl rfl rfl rfl rfl rfl (q5) rfl rfl ?_ | refine wF wI rfl rfl ?_ | refine wJ ?_ | refine wC ?_ | refine wP ?_ | refine wO ?_ | refine wL rfl ?_)
  exact ⟨.inl rfl,_,rfl,rfl⟩
set_option maxRecDepth 20000 in
set_option maxHeartbeats 1600000 in
theorem ratNorm_v (q:QQ) (h:okQ q) (h0:intOf q.2≠0):wT Tryz.prog 77 [vQ q] (fun y=>y=.tup [nR (qR q),.int .i64 0]):=by
 refine wK wB Tryz.func77 rfl rfl rfl rfl fun w0=>?_
 have q1:=make_v q.1 q.2 h.1 h.2 h0
 obtain ⟨⟨x,l⟩,⟨y,m⟩⟩:=q
 repeat (first | refine wQ wB rfl rfl rfl rfl ?_ | refine wE wB rfl rfl rfl rfl rfl rfl rfl rfl (q1) rfl rfl ?_ | refine wF wI rfl rfl ?_ | refine wJ ?_ | refine wC ?_ | refine wP ?_)
 exact ⟨.inl rfl,_,rfl,rfl⟩
set_option maxRecDepth 20000 in
set_option maxHeartbeats 1600000 in
theorem rmake_v (a b:ZZ) (ha:okZ a) (hb:okZ b) (h0:intOf b≠0):wT Tryz.prog 127 [vI a,vI b] (fun y=>y=nR (Rat.divInt (intOf a) (intOf b))):=by
 refine wK wB Tryz.func127 rfl rfl rfl rfl fun w0=>?_
 have q1:=rsign_v b hb
 rcases Int.lt_or_gt_of_ne h0 with hlt | hgt
 ·have e:sgn (intOf b) = -1:=by unfold sgn; rw [if_pos hlt]
  rw [e] at q1
  have n1:=rneg_v a ha
  have n2:=rneg_v b hb
  have oa:=okZ_neg a ha
  have ob:=okZ_neg b hb
  have ee:Rat.divInt (intOf a) (intOf b)=Rat.divInt (-intOf a) (-intOf b):=(Rat.divInt_eq_divInt_iff (by omega) (by omega)).2 (by rw [Int.mul_neg,Int.neg_mul])
  have q2:=rgcd_v (zn (-intOf a)) (zn (-intOf b)) oa ob
  have og:=okZ_gcd (-intOf a) (zn (-intOf b)) oa ob
  rw [wS] at q2 og
  rw [wS] at q2
  rw [ee]
  have hd0:0 < -intOf b:=by omega
  generalize -intOf a=X at *
  generalize -intOf b=Y at *
  have hgd:=Int.gcd_pos_of_ne_zero_right X (show Y≠0 by omega)
  have h1:((Int.gcd X Y:Nat):Int)∣X:=Int.gcd_dvd_left ..
  have h2:((Int.gcd X Y:Nat):Int)∣Y:=Int.gcd_dvd_right ..
  have hmp:=make_pos X Y hd0
  generalize hg:((Int.gcd X Y:Nat):Int)=g at *
  have q4:=rexact_v (zn X) (zn g) oa og (by rw [wS]; omega) (by rw [wS,wS]; exact h1)
  have q5:=rexact_v (zn Y) (zn g) ob og (by rw [wS]; omega) (by rw [wS,wS]; exact h2)
  rw [wS,wS] at q4 q5
  rw [nR_eq _ _ _ hmp]
  obtain ⟨x,l⟩:=a
  obtain ⟨y,m⟩:=b
  repeat (first | refine wQ wB rfl rfl rfl rfl ?_ | refine wG rfl rfl (wH rfl rfl rfl rfl (decide_eq_true (by omega)) rfl) rfl ?_ | refine wE wB rfl rfl rfl rfl rfl rfl rfl rfl (q1) rfl rfl ?_ | refine wE wB rfl rfl rfl rfl rfl rfl rfl rfl (n1) rfl rfl ?_ | refine wE wB rfl rfl rfl rfl rfl rfl rfl rfl (n2) rfl rfl ?_ | refine wE wB rfl rfl rfl rfl rfl rfl rfl rfl (q2) rfl rfl ?_ | refine wE wB rfl rfl rfl rfl rfl rfl rfl rfl (q4) rfl rfl ?_ | refine wE wB rfl rfl rfl rfl rfl rfl rfl rfl (q5) rfl rfl ?_ | refine wF wI rfl rfl ?_ | refine wJ ?_ | refine wC ?_ | refine wP ?_ | refine wN rfl ?_)
  exact ⟨.inl rfl,_,rfl,rfl⟩
 ·have e:sgn (intOf b)=1:=by unfold sgn; rw [if_neg (by omega),if_pos hgt]
  rw [e] at q1
  have q2:=rgcd_v a b ha hb
  have og:=okZ_gcd (intOf a) b (okZ_norm a ha) hb
  have hgd:=Int.gcd_pos_of_ne_zero_right (intOf a) h0
  have h1:((Int.gcd (intOf a) (intOf b):Nat):Int)∣intOf a:=Int.gcd_dvd_left ..
  have h2:((Int.gcd (intOf a) (intOf b):Nat):Int)∣intOf b:=Int.gcd_dvd_right ..
  have hmp:=make_pos (intOf a) (intOf b) hgt
  generalize hg:((Int.gcd (intOf a) (intOf b):Nat):Int)=g at *
  have q4:=rexact_v a (zn g) ha og (by rw [wS]; omega) (by rw [wS]; exact h1)
  have q5:=rexact_v b (zn g) hb og (by rw [wS]; omega) (by rw [wS]; exact h2)
  rw [wS] at q4 q5
  rw [nR_eq _ _ _ hmp]
  obtain ⟨x,l⟩:=a
  obtain ⟨y,m⟩:=b
  repeat (first | refine wQ wB rfl rfl rfl rfl ?_ | refine wG rfl rfl (wH rfl rfl rfl rfl (decide_eq_false (by omega)) rfl) rfl ?_ | refine wE wB rfl rfl rfl rfl rfl rfl rfl rfl (q1) rfl rfl ?_ | refine wE wB rfl rfl rfl rfl rfl rfl rfl rfl (q2) rfl rfl ?_ | refine wE wB rfl rfl rfl rfl rfl rfl rfl rfl (q4) rfl rfl ?_ | refine wE wB rfl rfl rfl rfl rfl rfl rfl rfl (q5) rfl rfl ?_ | refine wF wI rfl rfl ?_ | refine wJ ?_ | refine wC ?_ | refine wP ?_ | refine wO ?_ | refine wL rfl ?_)
  exact ⟨.inl rfl,_,rfl,rfl⟩
set_option maxRecDepth 20000 in
set_option maxHeartbeats 1600000 in
theorem rNorm05_v (q:QQ) (h:okQ q) (h0:intOf q.2≠0):wT Tryz.prog 142 [vQ q] (fun y=>y=nR (qR q)):=by
 refine wK wB Tryz.func142 rfl rfl rfl rfl fun w0=>?_
 have q1:=rmake_v q.1 q.2 h.1 h.2 h0
 obtain ⟨⟨x,l⟩,⟨y,m⟩⟩:=q
 repeat (first | refine wQ wB rfl rfl rfl rfl ?_ | refine wE wB rfl rfl rfl rfl rfl rfl rfl rfl (q1) rfl rfl ?_ | refine wF wI rfl rfl ?_ | refine wJ ?_ | refine wC ?_ | refine wP ?_)
 exact ⟨.inl rfl,_,rfl,rfl⟩
end Go.Proofs.YtkjhfnhgefbhhaaGreat
/- Numbers of the program's own, comparing: zint.Of, simileref03.Of, Cmp, told of trees. -/
namespace Go.Proofs.YtkjhfnhgefbhhaaGreat
open Go.RowKit Go.Ev Go.Vl
set_option maxRecDepth 20000 in
set_option maxHeartbeats 1600000 in
theorem zof_v (n:Nat) (hn:n<9223372036854775808):wT Tryz.prog 119 [.int .i64 (n:Nat)] (fun y=>y=nI n):=by
 refine wK wB Tryz.func119 rfl rfl rfl rfl fun w0=>?_
 have q1:=natOf_v n (by omega)
 have q2:=make1_v false n
 repeat (first | refine wQ wB rfl rfl rfl rfl ?_ | refine wG rfl rfl (wH rfl rfl rfl rfl (decide_eq_false (by omega)) rfl) rfl ?_ | refine wG rfl rfl (qW wB rfl rfl rfl rfl (wr_u64 (by omega) (by omega)) rfl) rfl ?_ | refine wE wB rfl rfl rfl rfl rfl rfl rfl rfl (q1) rfl rfl ?_ | refine wE wB rfl rfl rfl rfl rfl rfl rfl rfl (q2) rfl rfl ?_ | refine wF wI rfl rfl ?_ | refine wJ ?_ | refine wC ?_ | refine wP ?_ | refine wO ?_ | refine wL rfl ?_)
 exact ⟨.inl rfl,_,rfl,rfl⟩
set_option maxRecDepth 20000 in
set_option maxHeartbeats 1600000 in
theorem rof_v (n:Nat) (hn:n<9223372036854775808):wT Tryz.prog 97 [.int .i64 (n:Nat)] (fun y=>y=nI n):=by
 refine wK wB Tryz.func97 rfl rfl rfl rfl fun w0=>?_
 have q1:=of01_v n (by omega)
 repeat (first | refine wQ wB rfl rfl rfl rfl ?_ | refine wG rfl rfl (wH rfl rfl rfl rfl (decide_eq_true (by omega)) rfl) rfl ?_ | refine wG rfl rfl (qW wB rfl rfl rfl rfl (wr_u64 (by omega) (by omega)) rfl) rfl ?_ | refine wE wB rfl rfl rfl rfl rfl rfl rfl rfl (q1) rfl rfl ?_ | refine wF wI rfl rfl ?_ | refine wJ ?_ | refine wC ?_ | refine wP ?_ | refine wN rfl ?_)
 exact ⟨.inl rfl,_,rfl,nI_of false n⟩
end Go.Proofs.YtkjhfnhgefbhhaaGreat
/- rat.Height, told of trees. -/
namespace Go.Proofs.YtkjhfnhgefbhhaaGreat
open Go.RowKit Go.Ev Go.Vl
def zN (q:QQ):List V:=[.bool q.1.1,vL q.1.2,.bool q.2.1,vL q.2.2]
def vQs (qs:List QQ):V:=.list (qs.map zN)
theorem qrow_len (qs:List QQ):(qs.map zN).length=qs.length:=List.length_map ..
theorem qrow_snoc (qs:List QQ) (q:QQ):qs.map zN++[zN q]=(qs++[q]).map zN:=by simp
theorem qrow_at (qs:List QQ) (j:Nat) (q:QQ) (h:qs[j]? = some q):(qs.map zN)[j]? = some (zN q):=by rw [List.getElem?_map,h]; rfl
theorem drop_at {α:Type} (qs:List α) (j:Nat) (q:α) (h:qs[j]? = some q):qs.drop j=q :: qs.drop (j+1):=by
 obtain ⟨hj,rfl⟩:=List.getElem?_eq_some_iff.1 h
 exact List.drop_eq_getElem_cons hj
def htQ (q:QQ):Nat:=max (lenN (wD q.1.2)) (lenN (wD q.2.2))
def htL (qs:List QQ) (n:Nat):Nat:=qs.foldl (fun n q=>max n (htQ q)) n
set_option maxRecDepth 20000 in
set_option maxHeartbeats 1600000 in
theorem height1_v (qs:List QQ) (hq:∀ q∈qs,okQ q) (hl:qs.length≤1099511627776):wT Tryz.prog 169 [vQs qs] (fun y=>y=.tup [.int .i64 (htL qs 0:Nat),.int .i64 0]):=by
 refine wK wB Tryz.func169 rfl rfl rfl rfl fun w0=>?_
 repeat (first | refine wG rfl rfl (wR wB rfl rfl rfl rfl rfl rfl (qrow_len _) rfl) rfl ?_ | refine wQ wB rfl rfl rfl rfl ?_ | refine wF wI rfl rfl ?_ | refine wJ ?_ | refine wM ?_ | refine wC ?_)
 refine qF (fun b:Nat × Nat=>[(8,some (.sv (.v (.int .i64 (b.2:Nat))))),(14,some (.sv (.v (vQs qs)))),(16,some (.sv (.v (.int .i64 (qs.length:Nat))))),(18,some (.sv (.v (.int .i64 (b.1:Nat)))))])
  (fun b=>b.1≤qs.length∧htL (qs.drop b.1) b.2=htL qs 0) (fun b=>qs.length - b.1) (0,0) (fun _=>rfl) ⟨Nat.zero_le _,rfl⟩ ⟨rfl,rfl,rfl,rfl,trivial⟩ fun ⟨j,m⟩ hI=>?_
 obtain ⟨h1,h3⟩:=hI
 dsimp only at h1 h3 ⊢
 rcases Nat.lt_or_ge j qs.length with hj | hj
 ·obtain ⟨q,hqe⟩:∃ q,qs[j]? = some q:=⟨_,List.getElem?_eq_getElem hj⟩
  have hqo:=hq q (List.mem_of_getElem? hqe)
  have hg:=qrow_at qs j q hqe
  rw [drop_at qs j q hqe] at h3
  obtain ⟨⟨x,l⟩,⟨y,k⟩⟩:=q
  have q1:=natLen_v l hqo.1.1 (Nat.le_trans hqo.1.2 (by decide))
  have q2:=natLen_v k hqo.2.1 (Nat.le_trans hqo.2.2 (by decide))
  repeat (first | refine wQ wB rfl rfl rfl rfl ?_ | refine wG rfl rfl (wU wB rfl rfl rfl (i:=j) rfl rfl rfl hg rfl rfl) rfl ?_ | refine wE wB rfl rfl rfl rfl rfl rfl rfl rfl (q1) rfl rfl ?_ | refine wE wB rfl rfl rfl rfl rfl rfl rfl rfl (q2) rfl rfl ?_ | refine wG rfl rfl (sem_max3 rfl rfl rfl rfl rfl rfl rfl) rfl ?_ | refine wG rfl rfl (wH rfl rfl rfl rfl (decide_eq_true (by omega)) rfl) rfl ?_ | refine wG rfl rfl (wX rfl rfl rfl rfl (qC (by omega) (by omega)) rfl) rfl ?_ | refine wF wI rfl rfl ?_ | refine wJ ?_ | refine wM ?_ | refine wC ?_ | refine wO ?_ | refine wN rfl ?_)
  exact ⟨(j+1,max m (htQ ((x,l),(y,k)))),⟨hj,h3⟩,by dsimp only; omega,rfl,rfl,rfl,rfl,trivial⟩
 ·rw [List.drop_of_length_le hj] at h3
  repeat (first | refine wQ wB rfl rfl rfl rfl ?_ | refine wG rfl rfl (wH rfl rfl rfl rfl (decide_eq_false (by omega)) rfl) rfl ?_ | refine wF wI rfl rfl ?_ | refine wJ ?_ | refine wC ?_ | refine wP ?_ | refine qA ?_ | refine wL rfl ?_)
  refine ⟨.inl rfl,_,rfl,?_⟩
  rw [← h3]
  exact rfl
set_option maxRecDepth 20000 in
set_option maxHeartbeats 1600000 in
theorem madeInt_v (qs:List QQ) (hq:∀ q∈qs,okQ q∧intOf q.2≠0) (hl:qs.length≤1099511627776) (hn:∀ q∈qs,okQ (qn (qR q))):wT Tryz.prog 168 [.clo 169 [] [],vQs qs] (fun y=>y=.tup [.int .i64 (htL (qs.map fun q=>qn (qR q)) 0:Nat),.int .i64 0]):=by
 refine wK wB Tryz.func168 rfl rfl rfl rfl fun w0=>?_
 repeat (first | refine wG rfl rfl (wR wB rfl rfl rfl rfl rfl rfl (qrow_len _) rfl) rfl ?_ | refine wQ wB rfl rfl rfl rfl ?_ | refine wG rfl rfl (z8 (id:=7000) (l:=0) (c:=qs.length) (m:=4) (bb:=64) wB rfl rfl rfl rfl rfl rfl rfl rfl rfl rfl (Nat.zero_le _) rfl (by omega) (by simp only [maxLen]; omega) rfl rfl rfl (es':=[]) rfl) rfl ?_ | refine wF wI rfl rfl ?_ | refine wJ ?_ | refine wM ?_ | refine wC ?_)
 refine qF (fun b:Nat × List QQ=>[(0,some (.sv (.v (.clo 169 [] [])))),(12,some (.sv (.v (.int .i64 0)))),(14,some (.sv (.own 1 89 4 (b.2.map zN)))),(30,some (.sv (.v (vQs qs)))),(32,some (.sv (.v (.int .i64 (qs.length:Nat))))),(34,some (.sv (.v (.int .i64 (b.1:Nat)))))])
  (fun b=>b.1≤qs.length∧b.2=(qs.take b.1).map fun q=>qn (qR q)) (fun b=>qs.length - b.1) (0,[]) (fun _=>rfl) ⟨Nat.zero_le _,rfl⟩ ⟨rfl,rfl,⟨_,rfl⟩,rfl,rfl,rfl,trivial⟩ fun ⟨j,out⟩ hI=>?_
 obtain ⟨h1,h3⟩:=hI
 dsimp only at h1 h3 ⊢
 have hol:(out.map zN).length=out.length:=qrow_len _
 have hol2:out.length=j:=by rw [h3]; simp; omega
 rcases Nat.lt_or_ge j qs.length with hj | hj
 ·obtain ⟨q,hqe⟩:∃ q,qs[j]? = some q:=⟨_,List.getElem?_eq_getElem hj⟩
  have hqo:=hq q (List.mem_of_getElem? hqe)
  have hg:=qrow_at qs j q hqe
  have q1:=ratNorm_v q hqo.1 hqo.2
  have hs:=qrow_snoc out (qn (qR q))
  have hnew:out++[qn (qR q)]=(qs.take (j+1)).map fun q=>qn (qR q):=by
   rw [h3,List.take_add_one,hqe]
   simp
  unfold nR at q1
  generalize qn (qR q)=p at *
  obtain ⟨⟨x,l⟩,⟨y,k⟩⟩:=q
  obtain ⟨⟨x',l'⟩,⟨y',k'⟩⟩:=p
  have row4:∀ e∈[zN ((x',l'),(y',k'))],e.length=4:=fun e h=>by rw [List.mem_singleton.1 h]; rfl
  repeat (first | refine wQ wB rfl rfl rfl rfl ?_ | refine wG rfl rfl (wU wB rfl rfl rfl (i:=j) rfl rfl rfl hg rfl rfl) rfl ?_ | refine wE wB rfl rfl rfl rfl rfl rfl rfl rfl (q1) rfl rfl ?_ | refine kE rfl rfl rfl (qT (id:=7001) (es2:=[zN ((x',l'),(y',k'))]) (m:=4) (bb:=64) wB rfl rfl rfl rfl rfl rfl rfl rfl rfl rfl rfl row4 rfl (by simp only [maxLen,List.length_singleton]; omega) (by simp only [List.length_singleton]; omega) rfl rfl hs) rfl ?_ | refine wG rfl rfl (wH rfl rfl rfl rfl (decide_eq_true (by omega)) rfl) rfl ?_ | refine wG rfl rfl (wH rfl rfl rfl rfl (ndF (by omega)) rfl) rfl ?_ | refine wG rfl rfl (wX rfl rfl rfl rfl (qC (by omega) (by omega)) rfl) rfl ?_ | refine wF wI rfl rfl ?_ | refine wJ ?_ | refine wM ?_ | refine wC ?_ | refine wO ?_ | refine wN rfl ?_ | refine wL rfl ?_)
  exact ⟨(j+1,out++[((x',l'),(y',k'))]),⟨hj,hnew⟩,by dsimp only; omega,rfl,rfl,⟨_,rfl⟩,rfl,rfl,rfl,trivial⟩
 ·have hje:j=qs.length:=by omega
  subst hje
  rw [List.take_length] at h3
  have q1:=height1_v out (fun p hp=>by
   rw [h3] at hp
   obtain ⟨q,hq1,rfl⟩:=List.mem_map.1 hp
   exact hn q hq1) (by omega)
  repeat (first | refine wQ wB rfl rfl rfl rfl ?_ | refine wG rfl rfl (wH rfl rfl rfl rfl (decide_eq_false (by omega)) rfl) rfl ?_ | refine zM wB rfl rfl rfl rfl rfl rfl rfl rfl rfl (q1) rfl rfl ?_ | refine wF wI rfl rfl ?_ | refine wJ ?_ | refine wC ?_ | refine wP ?_ | refine qA ?_ | refine wL rfl ?_)
  refine ⟨.inl rfl,_,rfl,?_⟩
  rw [← h3]
set_option maxRecDepth 20000 in
set_option maxHeartbeats 1600000 in
theorem ratHeight_v (qs:List QQ) (hq:∀ q∈qs,okQ q∧intOf q.2≠0) (hl:qs.length≤1099511627776) (hn:∀ q∈qs,okQ (qn (qR q))):wT Tryz.prog 110 [vQs qs] (fun y=>y=.tup [.int .i64 (htL (qs.map fun q=>qn (qR q)) 0:Nat),.int .i64 0]):=by
 refine wK wB Tryz.func110 rfl rfl rfl rfl fun w0=>?_
 have q1:=madeInt_v qs hq hl hn
 repeat (first | refine wQ wB rfl rfl rfl rfl ?_ | refine wE wB rfl rfl rfl rfl rfl rfl rfl rfl (q1) rfl rfl ?_ | refine wF wI rfl rfl ?_ | refine wJ ?_ | refine wC ?_ | refine wP ?_)
 exact ⟨.inl rfl,_,rfl,rfl⟩
end Go.Proofs.YtkjhfnhgefbhhaaGreat
/- simileref05.Height, told of trees. -/
namespace Go.Proofs.YtkjhfnhgefbhhaaGreat
open Go.RowKit Go.Ev Go.Vl
set_option maxRecDepth 20000 in
set_option maxHeartbeats 1600000 in
theorem rheight_v (qs:List QQ) (hq:∀ q∈qs,okQ q∧intOf q.2≠0) (hl:qs.length≤1099511627776) (hn:∀ q∈qs,okQ (qn (qR q))):wT Tryz.prog 85 [vQs qs] (fun y=>y=.int .i64 (htL (qs.map fun q=>qn (qR q)) 0:Nat)):=by
 refine wK wB Tryz.func85 rfl rfl rfl rfl fun w0=>?_
 repeat (first | refine wG rfl rfl (wR wB rfl rfl rfl rfl rfl rfl (qrow_len _) rfl) rfl ?_ | refine wQ wB rfl rfl rfl rfl ?_ | refine wF wI rfl rfl ?_ | refine wJ ?_ | refine wM ?_ | refine wC ?_)
 refine qF (fun b:Nat × Nat=>[(6,some (.sv (.v (.int .i64 (b.2:Nat))))),(16,some (.sv (.v (vQs qs)))),(18,some (.sv (.v (.int .i64 (qs.length:Nat))))),(20,some (.sv (.v (.int .i64 (b.1:Nat)))))])
  (fun b=>b.1≤qs.length∧htL ((qs.drop b.1).map fun q=>qn (qR q)) b.2=htL (qs.map fun q=>qn (qR q)) 0) (fun b=>qs.length - b.1) (0,0) (fun _=>rfl) ⟨Nat.zero_le _,rfl⟩ ⟨rfl,rfl,rfl,rfl,trivial⟩ fun ⟨j,m⟩ hI=>?_
 obtain ⟨h1,h3⟩:=hI
 dsimp only at h1 h3 ⊢
 rcases Nat.lt_or_ge j qs.length with hj | hj
 ·obtain ⟨q,hqe⟩:∃ q,qs[j]? = some q:=⟨_,List.getElem?_eq_getElem hj⟩
  have hqo:=hq q (List.mem_of_getElem? hqe)
  have hpo:=hn q (List.mem_of_getElem? hqe)
  have hg:=qrow_at qs j q hqe
  rw [drop_at qs j q hqe] at h3
  have q1:=rNorm05_v q hqo.1 hqo.2
  unfold nR at q1
  simp only [List.map_cons] at h3
  generalize qn (qR q)=p at *
  obtain ⟨⟨x,l⟩,⟨y,k⟩⟩:=q
  obtain ⟨⟨x',l'⟩,⟨y',k'⟩⟩:=p
  have q2:=len01_v l' hpo.1.1 (Nat.le_trans hpo.1.2 (by decide))
  have q3:=len01_v k' hpo.2.1 (Nat.le_trans hpo.2.2 (by decide))
  have h4:htL ((qs.drop (j+1)).map fun q=>qn (qR q)) (max m (max (lenN (wD l')) (lenN (wD k'))))=htL (qs.map fun q=>qn (qR q)) 0:=h3
  generalize lenN (wD l')=u at *
  generalize lenN (wD k')=v at *
  repeat (first | refine wQ wB rfl rfl rfl rfl ?_ | refine wG rfl rfl (wU wB rfl rfl rfl (i:=j) rfl rfl rfl hg rfl rfl) rfl ?_ | refine wE wB rfl rfl rfl rfl rfl rfl rfl rfl (q1) rfl rfl ?_ | refine wE wB rfl rfl rfl rfl rfl rfl rfl rfl (q2) rfl rfl ?_ | refine wE wB rfl rfl rfl rfl rfl rfl rfl rfl (q3) rfl rfl ?_ | refine wG rfl rfl (wH rfl rfl rfl rfl (decide_eq_true (by omega)) rfl) rfl ?_ | refine wF wI rfl rfl ?_ | refine wJ ?_ | refine wM ?_ | refine wC ?_ | refine wO ?_ | refine wN rfl ?_)
  refine qF (fun b:Nat × Nat=>[(6,some (.sv (.v (.int .i64 (b.2:Nat))))),(16,some (.sv (.v (vQs qs)))),(18,some (.sv (.v (.int .i64 (qs.length:Nat))))),(20,some (.sv (.v (.int .i64 (j:Nat))))),(48,some (.sv (.v (.agg [.int .i64 (u:Nat),.int .i64 (v:Nat)])))),(50,some (.sv (.v (.int .i64 (b.1:Nat)))))])
   (fun b=>(b.1=0∧b.2=m)∨(b.1=1∧b.2=max m u)∨(b.1=2∧b.2=max m (max u v))) (fun b=>2 - b.1) (0,m) (fun _=>rfl) (.inl ⟨rfl,rfl⟩) ⟨rfl,rfl,rfl,rfl,rfl,rfl,trivial⟩ fun ⟨i,h⟩ hI=>?_
  dsimp only at hI ⊢
  rcases hI with ⟨rfl,rfl⟩ | ⟨rfl,rfl⟩ | ⟨rfl,rfl⟩
  ·by_cases hc:h<u
   ·repeat (first | refine wQ wB rfl rfl rfl rfl ?_ | refine wG rfl rfl (wH rfl rfl rfl rfl (decide_eq_true (by omega)) rfl) rfl ?_ | refine wG rfl rfl (wX rfl rfl rfl rfl (qC (by omega) (by omega)) rfl) rfl ?_ | refine wG rfl rfl (sem_index (i:=0) (len:=2) (v:=.int .i64 (u:Nat)) wB rfl rfl rfl rfl rfl (by decide) rfl rfl) rfl ?_ | refine wF wI rfl rfl ?_ | refine wJ ?_ | refine wM ?_ | refine wC ?_ | refine wO ?_ | refine wN rfl ?_)
    exact ⟨(1,u),.inr (.inl ⟨rfl,by dsimp only; omega⟩),by dsimp only; omega,rfl,rfl,rfl,rfl,rfl,rfl,trivial⟩
   ·repeat (first | refine wQ wB rfl rfl rfl rfl ?_ | refine wG rfl rfl (wH rfl rfl rfl rfl (decide_eq_true (by omega)) rfl) rfl ?_ | refine wG rfl rfl (wH rfl rfl rfl rfl (decide_eq_false (by omega)) rfl) rfl ?_ | refine wG rfl rfl (wX rfl rfl rfl rfl (qC (by omega) (by omega)) rfl) rfl ?_ | refine wG rfl rfl (sem_index (i:=0) (len:=2) (v:=.int .i64 (u:Nat)) wB rfl rfl rfl rfl rfl (by decide) rfl rfl) rfl ?_ | refine wF wI rfl rfl ?_ | refine wJ ?_ | refine wM ?_ | refine wC ?_ | refine wO ?_ | refine wN rfl ?_ | refine wL rfl ?_)
    exact ⟨(1,h),.inr (.inl ⟨rfl,by dsimp only; omega⟩),by dsimp only; omega,rfl,rfl,rfl,rfl,rfl,rfl,trivial⟩
  ·by_cases hc:max m u<v
   ·repeat (first | refine wQ wB rfl rfl rfl rfl ?_ | refine wG rfl rfl (wH rfl rfl rfl rfl (decide_eq_true (by omega)) rfl) rfl ?_ | refine wG rfl rfl (wX rfl rfl rfl rfl (qC (by omega) (by omega)) rfl) rfl ?_ | refine wG rfl rfl (sem_index (i:=1) (len:=2) (v:=.int .i64 (v:Nat)) wB rfl rfl rfl rfl rfl (by decide) rfl rfl) rfl ?_ | refine wF wI rfl rfl ?_ | refine wJ ?_ | refine wM ?_ | refine wC ?_ | refine wO ?_ | refine wN rfl ?_)
    exact ⟨(2,v),.inr (.inr ⟨rfl,by dsimp only; omega⟩),by dsimp only; omega,rfl,rfl,rfl,rfl,rfl,rfl,trivial⟩
   ·repeat (first | refine wQ wB rfl rfl rfl rfl ?_ | refine wG rfl rfl (wH rfl rfl rfl rfl (decide_eq_true (by omega)) rfl) rfl ?_ | refine wG rfl rfl (wH rfl rfl rfl rfl (decide_eq_false (by omega)) rfl) rfl ?_ | refine wG rfl rfl (wX rfl rfl rfl rfl (qC (by omega) (by omega)) rfl) rfl ?_ | refine wG rfl rfl (sem_index (i:=1) (len:=2) (v:=.int .i64 (v:Nat)) wB rfl rfl rfl rfl rfl (by decide) rfl rfl) rfl ?_ | refine wF wI rfl rfl ?_ | refine wJ ?_ | refine wM ?_ | refine wC ?_ | refine wO ?_ | refine wN rfl ?_ | refine wL rfl ?_)
    exact ⟨(2,max m u),.inr (.inr ⟨rfl,by dsimp only; omega⟩),by dsimp only; omega,rfl,rfl,rfl,rfl,rfl,rfl,trivial⟩
  ·repeat (first | refine wQ wB rfl rfl rfl rfl ?_ | refine wG rfl rfl (wH rfl rfl rfl rfl (decide_eq_false (by omega)) rfl) rfl ?_ | refine wG rfl rfl (wX rfl rfl rfl rfl (qC (by omega) (by omega)) rfl) rfl ?_ | refine wF wI rfl rfl ?_ | refine wJ ?_ | refine wC ?_ | refine qA ?_ | refine wL rfl ?_)
   exact ⟨(j+1,max m (max u v)),⟨hj,h4⟩,by dsimp only; omega,rfl,rfl,rfl,rfl,trivial⟩
 ·rw [List.drop_of_length_le hj] at h3
  repeat (first | refine wQ wB rfl rfl rfl rfl ?_ | refine wG rfl rfl (wH rfl rfl rfl rfl (decide_eq_false (by omega)) rfl) rfl ?_ | refine wF wI rfl rfl ?_ | refine wJ ?_ | refine wC ?_ | refine wP ?_ | refine qA ?_ | refine wL rfl ?_)
  refine ⟨.inl rfl,_,rfl,?_⟩
  rw [← h3]
  exact rfl
end Go.Proofs.YtkjhfnhgefbhhaaGreat
