/- nat.long, told of trees. -/
import Derived.Test.YtkjhfnhgefbhhaaGreatCd12
import Derived.Test.YtkjhfnhgefbhhaaGreatCd13
set_option linter.all false
namespace Go.Proofs.YtkjhfnhgefbhhaaGreat
open Go.RowKit Go.Ev Go.Vl
theorem lz_v (x s:Nat) (hx:x<4294967296) (hs:Lib.bitLen x+s=32):wT Tryz.prog 301 [.int .u32 (x:Nat)] (fun y=>y=.int .i64 (s:Nat)):=by
 intro S w us hus
 cases hus with
 | cons h1 t =>
  cases t
  cases h1
  refine (Tryz.bits_LeadingZeros32 x w (by omega) (by omega)).mono ?_
  rintro e w' ⟨rfl,rfl⟩
  have:(32:Int) - ((Lib.bitLen (x:Int).toNat:Nat):Int)=(s:Nat):=by simp only [Int.toNat_natCast]; omega
  rw [this]
  exact ⟨_,_,rfl,rfl,.int _ _,Below.refl _ _⟩
theorem row2 (v v2:V):∀ e∈[[v],[v2]],e.length=1:=by simp
theorem uL_app (xs ys:List Nat):uL xs++uL ys=uL (xs++ys):=by simp [uL]
set_option maxRecDepth 200000 in
set_option maxHeartbeats 16000000 in
theorem long_vc (xs ys:List Nat) (n m:Nat) (hx:okL xs) (hy:okL ys) (hl:xs.length≤8796093022208) (htx:qS xs=xs) (hty:qS ys=ys) (hn:2≤n) (hyn:ys.length=n) (h0:0<ys.getD (n - 1) 0) (hm:xs.length=m+n) :
  wT Tryz.prog 284 [vL xs,vL ys] (fun y=>y=.tup [vN (wD xs / wD ys),vN (wD xs % wD ys)]):=by
 refine wK wB Tryz.func284 rfl rfl rfl rfl fun w0=>?_
 have hb32:=bitLen_le32 _ (getD_lt ys hy (n - 1))
 obtain ⟨s,hs⟩:∃ s,Lib.bitLen (ys.getD (n - 1) 0)+s=32:=⟨32 - Lib.bitLen (ys.getD (n - 1) 0),by omega⟩
 obtain ⟨hs32,hvn,hvok,hvnat,htop⟩:=long_start ys n s hn hyn hy h0 hs
 obtain ⟨hun,huok,hunat⟩:=longU_spec xs s hs32 hx
 have hut:=longU_top xs (zA ys s 0) n s hs32 hx hn (by omega) hvn hvok htop
 have hlz:=lz_v (ys.getD (n - 1) 0) s (getD_lt ys hy _) hs
 have hlb:=left_v ys s hy (by omega) hs32
 have hla:=left_v xs s hx hl hs32
 rw [hty] at hlb
 rw [htx] at hla
 have hla2:=leftG_len xs s 0
 have hlU:(uL (zA xs s 0++[0,0])).take (xs.length+1)=uL (longU xs s):=uL_take _ _
 have hV1:=kA ys (n - 1) (by omega)
 have hT1:=kA (zA ys s 0) (n - 1) (by omega)
 have hT2:=kA (zA ys s 0) (n - 2) (by omega)
 have happ:=uL_app (zA xs s 0) [0,0]
 have hvl:=qQ (zA ys s 0)
 have hul:=qQ (zA xs s 0)
 have hul2:=qQ (zA xs s 0++[0,0])
 have hla3:(zA xs s 0++[0,0]).length=(zA xs s 0).length+2:=by simp
 have hsub:Ev.ewrap .i64 ((xs.length:Int) - (n:Int))=(m:Nat):=by rw [qC (by omega) (by omega)]; omega
 have hadd:Ev.ewrap .i64 ((xs.length:Int)+1)=((xs.length+1:Nat):Int):=by rw [qC (by omega) (by omega)]; omega
 have hadm:Ev.ewrap .i64 ((m:Int)+1)=((m+1:Nat):Int):=by rw [qC (by omega) (by omega)]; omega
 have hVpos:0<wD (zA ys s 0):=by omega
 have hVB:wD (zA ys s 0)<4294967296 ^ n:=by rw [← hvn]; exact q9 _ hvok
 rw [show xs.length - n+1=m+1 by omega] at hut
 have hdig:=fun (us:List Nat) (j t:Nat) (hu:okL us)=>long_digit us (zA ys s 0) j n hn hvn hu hvok htop (t:=t)
 have htpl:=getD_lt _ hvok (n - 1)
 have hnxl:=getD_lt _ hvok (n - 2)
 have hvg:=fun i (h:i<n)=>kA (zA ys s 0) i (by omega)
 have hvt:=qO (zA ys s 0)
 have hvall:wD ((zA ys s 0).take n)=wD (zA ys s 0):=by rw [List.take_of_length_le (by omega)]
 generalize hvs:zA ys s 0=vs at *
 generalize hlx:zA xs s 0=lx at *
 generalize hu0:longU xs s=u0 at *
 generalize htpe:vs.getD (n - 1) 0=tp at *
 generalize hnxe:vs.getD (n - 2) 0=nx at *
 generalize ys.getD (n - 1) 0=yt at *
 repeat (first | refine wG rfl rfl (wR wB rfl rfl rfl rfl rfl rfl (hvl.trans hvn) rfl) rfl ?_ | refine wG rfl rfl (wR wB rfl rfl rfl rfl rfl rfl ((qQ ys).trans hyn) rfl) rfl ?_ | refine wG rfl rfl (wR wB rfl rfl rfl rfl rfl rfl (qQ _) rfl) rfl ?_ | refine wQ wB rfl rfl rfl rfl ?_ | refine wG rfl rfl (wX rfl rfl rfl rfl hsub rfl) rfl ?_ | refine wG rfl rfl (wX rfl rfl rfl rfl hadd rfl) rfl ?_ | refine wG rfl rfl (wX rfl rfl rfl rfl hadm rfl) rfl ?_ | refine wG rfl rfl (wU wB rfl rfl rfl (i:=n - 1) (by omega) rfl rfl hV1 rfl rfl) rfl ?_ | refine wG rfl rfl (wU wB rfl rfl rfl (i:=n - 1) (by omega) rfl rfl hT1 rfl rfl) rfl ?_ | refine wG rfl rfl (wU wB rfl rfl rfl (i:=n - 2) (by omega) rfl rfl hT2 rfl rfl) rfl ?_ | refine wE wB rfl rfl rfl rfl rfl rfl rfl rfl (hlz) rfl rfl ?_ | refine wE wB rfl rfl rfl rfl rfl rfl rfl rfl (hlb.v) rfl rfl ?_ | refine wG rfl rfl (sem_callO (id:=7002) wB rfl rfl rfl rfl rfl rfl hla rfl rfl) rfl ?_ | refine kE rfl rfl rfl (qT (id:=7003) (es2:=[[_],[_]]) (m:=1) (bb:=4) wB rfl rfl rfl rfl rfl rfl rfl rfl rfl rfl rfl (row2 _ _) rfl (by simp only [maxLen]; simp; omega) (by simp; omega) rfl rfl happ) rfl ?_ | refine wG rfl rfl (sem_cutOwn (id':=7004) wB rfl rfl rfl (h:=xs.length+1) rfl rfl rfl (by omega) hlU rfl rfl rfl) rfl ?_ | refine wG rfl rfl (z8 (id:=7000) (l:=m+1) (c:=m+1) (m:=1) (bb:=4) wB rfl rfl rfl rfl rfl rfl rfl rfl rfl rfl (Nat.le_refl _) rfl (by omega) (by simp only [maxLen]; omega) rfl rfl rfl (uL_rep _)) rfl ?_ | refine wG rfl rfl (wX rfl rfl rfl rfl (qC (by omega) (by omega)) rfl) rfl ?_ | refine wG rfl rfl (qW wB rfl rfl rfl rfl (wr_u64 (by omega) (by omega)) rfl) rfl ?_ | refine wF wI rfl rfl ?_ | refine wJ ?_ | refine wM ?_ | refine wC ?_)
 refine qF (fun b:Nat × Int × List Nat × List Nat=>[(12,some (.sv (.v (.int .i64 (s:Nat))))),(14,some (.sv (.v (vL vs)))),(16,some (.sv (.own 0 180 1 (uL b.2.2.1)))),(18,some (.sv (.v (.int .i64 (n:Nat))))),(22,some (.sv (.own 0 180 1 (uL b.2.2.2)))),(24,some (.sv (.v (.int .u64 (tp:Nat))))),(26,some (.sv (.v (.int .u64 (nx:Nat))))),(28,some (.sv (.v (.int .i64 b.2.1))))])
  (fun b=>b.1≤m+1∧b.2.1=(b.1:Int) - 1∧b.2.2.1.length=m+n+1∧okL b.2.2.1∧b.2.2.2.length=m+1∧okL b.2.2.2∧wD b.2.2.1+wD vs*(4294967296 ^ b.1*wD (b.2.2.2.drop b.1))=wD u0∧wD (b.2.2.1.drop b.1)<wD vs)
  (fun b=>b.1) (m+1,(m:Nat),u0,List.replicate (m+1) 0) (fun _=>rfl) ⟨Nat.le_refl _,by simp only; omega,by simp only; omega,huok,by simp,fun x h=>by rw [(List.mem_replicate.1 h).2]; decide,by simp [List.drop_of_length_le,wD],hut⟩ ⟨rfl,rfl,⟨_,rfl⟩,rfl,⟨_,rfl⟩,rfl,rfl,rfl,trivial⟩ fun ⟨J,i,us,out⟩ hI=>?_
 obtain ⟨h1,h2,h3,h4,h5,h6,h7,h8⟩:=hI
 dsimp only at h1 h2 h3 h4 h5 h6 h7 h8 ⊢
 have hlu:=qQ us
 have hlo:=qQ out
 rcases Nat.eq_zero_or_pos J with rfl | hJ
 ·rw [hvnat,hunat] at h7
  rw [hvnat] at h8 hVB
  obtain ⟨g1,g2⟩:=long_end us out (wD xs) (wD ys) n s h4 hVB h7 h8
  have hcut:=uL_take us n
  have hrt:=right_v (us.take n) s (fun x h=>h4 x (List.mem_of_mem_take h)) (by simp; omega) hs32
  repeat (first | refine wQ wB rfl rfl rfl rfl ?_ | refine wG rfl rfl (sem_cutOwn (id':=7005) wB rfl rfl rfl (h:=n) rfl rfl rfl (by omega) hcut rfl rfl rfl) rfl ?_ | refine zM wB rfl rfl rfl rfl rfl rfl rfl rfl rfl (hrt) rfl rfl ?_ | refine zM wB rfl rfl rfl rfl rfl rfl rfl rfl rfl (own_v out h6 (by omega)) rfl rfl ?_ | refine wG rfl rfl (wH rfl rfl rfl rfl (decide_eq_false (by omega)) rfl) rfl ?_ | refine wF wI rfl rfl ?_ | refine wJ ?_ | refine wC ?_ | refine wP ?_ | refine qA ?_ | refine wL rfl ?_)
  refine ⟨.inl rfl,_,rfl,?_⟩
  rw [g1,g2]
 ·obtain ⟨k,rfl⟩:∃ k,J=k+1:=⟨J - 1,by omega⟩
  obtain rfl:i=(k:Nat):=by omega
  obtain ⟨hd1,hd2⟩:=hdig us k _ h4 h8 rfl
  have ga:=kA us (k+n) (by omega)
  have gb:=kA us (k+(n - 1)) (by omega)
  have gc:=kA us (k+(n - 2)) (by omega)
  have la:=getD_lt us h4 (k+n)
  have lb:=getD_lt us h4 (k+(n - 1))
  have lc:=getD_lt us h4 (k+(n - 2))
  have hor:=short_or (us.getD (k+n) 0) (us.getD (k+(n - 1)) 0) lb
  generalize hua:us.getD (k+n) 0=ua at *
  generalize us.getD (k+(n - 1)) 0=ub at *
  generalize us.getD (k+(n - 2)) 0=uc at *
  have hhi:=hi_zero us (k+1) n _ h8 hVB
  obtain ⟨t,ht⟩:∃ t,ua*4294967296+ub=t:=⟨_,rfl⟩
  rw [ht] at hd1 hd2 hor
  have htle:=hd1.tle
  have hst:=hd1.start
  obtain ⟨q0,hq0⟩:∃ q,t / tp=q:=⟨_,rfl⟩
  obtain ⟨r0,hr0⟩:∃ r,t % tp=r:=⟨_,rfl⟩
  rw [hq0,hr0] at hst
  obtain ⟨W,hW⟩:∃ W,wD (us.drop k)=W:=⟨_,rfl⟩
  rw [hW] at hd1 hd2 hst
  repeat (first | refine wQ wB rfl rfl rfl rfl ?_ | refine wG rfl rfl (qY wB rfl rfl rfl (i:=k+n) (by omega) rfl rfl (by omega) rfl rfl rfl) rfl ?_ | refine wG rfl rfl (qY wB rfl rfl rfl (i:=k+(n - 1)) (by omega) rfl rfl (by omega) rfl rfl rfl) rfl ?_ | refine wG rfl rfl (zW wB rfl rfl rfl ga rfl rfl rfl) rfl ?_ | refine wG rfl rfl (zW wB rfl rfl rfl gb rfl rfl rfl) rfl ?_ | refine wG rfl rfl (sem_shlE (s:=32) rfl rfl rfl rfl (by decide) (by rw [ew64,Nat.mod_eq_of_lt (by omega)]) rfl) rfl ?_ | refine wG rfl rfl (sem_or64  rfl rfl rfl hor (by omega) (by omega) rfl) rfl ?_ | refine wG rfl rfl (sem_quoE rfl rfl rfl (by omega) (nQuo64 hq0 (by omega)) rfl) rfl ?_ | refine wG rfl rfl (kC rfl rfl rfl (by omega) (nRem hr0) rfl) rfl ?_ | refine wG rfl rfl (wH rfl rfl rfl rfl (decide_eq_true (by omega)) rfl) rfl ?_ | refine wG rfl rfl (wX rfl rfl rfl rfl (qC (by omega) (by omega)) rfl) rfl ?_ | refine wG rfl rfl (qW wB rfl rfl rfl rfl (wr_u64 (by omega) (by omega)) rfl) rfl ?_ | refine wF wI rfl rfl ?_ | refine wJ ?_ | refine wM ?_ | refine wC ?_ | refine wO ?_ | refine vw_label ?_ | refine vw_scopeN ?_ | refine wN rfl ?_)
  refine vw_join 2 (fun q:Nat=>[(12,some (.sv (.v (.int .i64 (s:Nat))))),(14,some (.sv (.v (vL vs)))),(16,some (.sv (.own 0 180 1 (uL us)))),(18,some (.sv (.v (.int .i64 (n:Nat))))),(22,some (.sv (.own 0 180 1 (uL out)))),(24,some (.sv (.v (.int .u64 (tp:Nat))))),(26,some (.sv (.v (.int .u64 (nx:Nat))))),(28,some (.sv (.v (.int .i64 (k:Nat))))),(32,some (.sv (.v (.int .u64 (q:Nat)))))]) (fun q=>q<4294967296∧W / wD vs≤q∧q≤W / wD vs+1) (fun _=>rfl) ?_ ?_
  ·refine qF (fun b:Nat × Nat=>[(12,some (.sv (.v (.int .i64 (s:Nat))))),(14,some (.sv (.v (vL vs)))),(16,some (.sv (.own 0 180 1 (uL us)))),(18,some (.sv (.v (.int .i64 (n:Nat))))),(22,some (.sv (.own 0 180 1 (uL out)))),(24,some (.sv (.v (.int .u64 (tp:Nat))))),(26,some (.sv (.v (.int .u64 (nx:Nat))))),(28,some (.sv (.v (.int .i64 (k:Nat))))),(32,some (.sv (.v (.int .u64 (b.1:Nat))))),(34,some (.sv (.v (.int .u64 (b.2:Nat)))))]) (fun b=>Guess tp nx uc t (W / wD vs) b.1 b.2) (fun b=>b.1) (q0,r0) (fun _=>rfl) hst ⟨rfl,rfl,⟨_,rfl⟩,rfl,⟨_,rfl⟩,rfl,rfl,rfl,rfl,rfl,trivial⟩ fun ⟨q,r⟩ hg=>?_
   dsimp only at hg ⊢
   have hqle:=hg.le
   have hrB:=hg.rB
   by_cases hq:4294967296≤q
   ·have hdn:=hg.down hd1 (.inl hq)
    by_cases hr:4294967296≤r+tp
    ·repeat (first | refine wQ wB rfl rfl rfl rfl ?_ | refine wG rfl rfl (sem_dec64 rfl rfl (by omega) (by omega) rfl) rfl ?_ | refine wG rfl rfl (sem_add64 (r:=r+tp) rfl rfl rfl rfl (by omega) rfl) rfl ?_ | refine wG rfl rfl (wH rfl rfl rfl rfl (decide_eq_true (by omega)) rfl) rfl ?_ | refine rr_no rfl rfl rfl rfl rfl rfl ?_ | refine wF wI rfl rfl ?_ | refine wJ ?_ | refine wM ?_ | refine wC ?_ | refine qA ?_ | refine wO ?_ | refine wN rfl ?_)
     have h9:=hdn.2.2.2.2 hr
     exact ⟨q - 1,⟨h9.1,hdn.1,hd2 _ h9.1 h9.2⟩,rfl,rfl,⟨_,rfl⟩,rfl,⟨_,rfl⟩,rfl,rfl,rfl,rfl,trivial⟩
    ·repeat (first | refine wQ wB rfl rfl rfl rfl ?_ | refine wG rfl rfl (sem_dec64 rfl rfl (by omega) (by omega) rfl) rfl ?_ | refine wG rfl rfl (sem_add64 (r:=r+tp) rfl rfl rfl rfl (by omega) rfl) rfl ?_ | refine wG rfl rfl (wH rfl rfl rfl rfl (decide_eq_true (by omega)) rfl) rfl ?_ | refine wG rfl rfl (wH rfl rfl rfl rfl (decide_eq_false (by omega)) rfl) rfl ?_ | refine rr_no rfl rfl rfl rfl rfl rfl ?_ | refine wF wI rfl rfl ?_ | refine wJ ?_ | refine wM ?_ | refine wC ?_ | refine wO ?_ | refine wN rfl ?_ | refine wL rfl ?_)
     exact ⟨(q - 1,r+tp),hdn.2.2.2.1 (by omega),by dsimp only; omega,rfl,rfl,⟨_,rfl⟩,rfl,⟨_,rfl⟩,rfl,rfl,rfl,rfl,rfl,trivial⟩
   ·have hmul:q*nx≤4294967295*4294967295:=Nat.mul_le_mul (by omega) (by omega)
    have hor2:=short_or r uc lc
    have hr32:r*2 ^ 32<18446744073709551616:=by omega
    have huc64:uc<18446744073709551616:=by omega
    have hsh:Ev.ewrap .u64 ((r*2 ^ 32:Nat):Int)=((r*2 ^ 32:Nat):Int):=by rw [ew64,Nat.mod_eq_of_lt hr32]
    have hend:=hg.end
    have hdw:=hg.down hd1
    obtain ⟨pm,hpm⟩:∃ p,q*nx=p:=⟨_,rfl⟩
    rw [hpm] at hmul hend hdw
    by_cases hc:r*4294967296+uc<pm
    ·have hdn:=hdw (.inr hc)
     by_cases hr:4294967296≤r+tp
     ·repeat (first | refine wQ wB rfl rfl rfl rfl ?_ | refine wG rfl rfl (qY wB rfl rfl rfl (i:=k+(n - 2)) (by omega) rfl rfl (by omega) rfl rfl rfl) rfl ?_ | refine wG rfl rfl (zW wB rfl rfl rfl gc rfl rfl rfl) rfl ?_ | refine wG rfl rfl (sem_mul64  rfl rfl rfl hpm (by omega) rfl) rfl ?_ | refine wG rfl rfl (sem_shlE (s:=32) rfl rfl rfl rfl (by decide) hsh rfl) rfl ?_ | refine wG rfl rfl (sem_or64 rfl rfl rfl hor2 hr32 huc64 rfl) rfl ?_ | refine wG rfl rfl (sem_dec64 rfl rfl (by omega) (by omega) rfl) rfl ?_ | refine wG rfl rfl (sem_add64 (r:=r+tp) rfl rfl rfl rfl (by omega) rfl) rfl ?_ | refine wG rfl rfl (wH rfl rfl rfl rfl (decide_eq_true (by omega)) rfl) rfl ?_ | refine wG rfl rfl (wH rfl rfl rfl rfl (decide_eq_false (by omega)) rfl) rfl ?_ | refine wG rfl rfl (wX rfl rfl rfl rfl (qC (by omega) (by omega)) rfl) rfl ?_ | refine wG rfl rfl (qW wB rfl rfl rfl rfl (wr_u64 (by omega) (by omega)) rfl) rfl ?_ | refine wF wI rfl rfl ?_ | refine wJ ?_ | refine wM ?_ | refine wC ?_ | refine qA ?_ | refine wO ?_ | refine wN rfl ?_)
      have h9:=hdn.2.2.2.2 hr
      exact ⟨q - 1,⟨h9.1,hdn.1,hd2 _ h9.1 h9.2⟩,rfl,rfl,⟨_,rfl⟩,rfl,⟨_,rfl⟩,rfl,rfl,rfl,rfl,trivial⟩
     ·repeat (first | refine wQ wB rfl rfl rfl rfl ?_ | refine wG rfl rfl (qY wB rfl rfl rfl (i:=k+(n - 2)) (by omega) rfl rfl (by omega) rfl rfl rfl) rfl ?_ | refine wG rfl rfl (zW wB rfl rfl rfl gc rfl rfl rfl) rfl ?_ | refine wG rfl rfl (sem_mul64  rfl rfl rfl hpm (by omega) rfl) rfl ?_ | refine wG rfl rfl (sem_shlE (s:=32) rfl rfl rfl rfl (by decide) hsh rfl) rfl ?_ | refine wG rfl rfl (sem_or64 rfl rfl rfl hor2 hr32 huc64 rfl) rfl ?_ | refine wG rfl rfl (sem_dec64 rfl rfl (by omega) (by omega) rfl) rfl ?_ | refine wG rfl rfl (sem_add64 (r:=r+tp) rfl rfl rfl rfl (by omega) rfl) rfl ?_ | refine wG rfl rfl (wH rfl rfl rfl rfl (decide_eq_true (by omega)) rfl) rfl ?_ | refine wG rfl rfl (wH rfl rfl rfl rfl (decide_eq_false (by omega)) rfl) rfl ?_ | refine wG rfl rfl (wX rfl rfl rfl rfl (qC (by omega) (by omega)) rfl) rfl ?_ | refine wG rfl rfl (qW wB rfl rfl rfl rfl (wr_u64 (by omega) (by omega)) rfl) rfl ?_ | refine wF wI rfl rfl ?_ | refine wJ ?_ | refine wM ?_ | refine wC ?_ | refine wO ?_ | refine wN rfl ?_ | refine wL rfl ?_)
      exact ⟨(q - 1,r+tp),hdn.2.2.2.1 (by omega),by dsimp only; omega,rfl,rfl,⟨_,rfl⟩,rfl,⟨_,rfl⟩,rfl,rfl,rfl,rfl,rfl,trivial⟩
    ·have h9:=hend (by omega)
     repeat (first | refine wQ wB rfl rfl rfl rfl ?_ | refine wG rfl rfl (qY wB rfl rfl rfl (i:=k+(n - 2)) (by omega) rfl rfl (by omega) rfl rfl rfl) rfl ?_ | refine wG rfl rfl (zW wB rfl rfl rfl gc rfl rfl rfl) rfl ?_ | refine wG rfl rfl (sem_mul64  rfl rfl rfl hpm (by omega) rfl) rfl ?_ | refine wG rfl rfl (sem_shlE (s:=32) rfl rfl rfl rfl (by decide) hsh rfl) rfl ?_ | refine wG rfl rfl (sem_or64 rfl rfl rfl hor2 hr32 huc64 rfl) rfl ?_ | refine wG rfl rfl (wH rfl rfl rfl rfl (decide_eq_false (by omega)) rfl) rfl ?_ | refine wG rfl rfl (wX rfl rfl rfl rfl (qC (by omega) (by omega)) rfl) rfl ?_ | refine wG rfl rfl (qW wB rfl rfl rfl rfl (wr_u64 (by omega) (by omega)) rfl) rfl ?_ | refine wF wI rfl rfl ?_ | refine wJ ?_ | refine wC ?_ | refine qA ?_ | refine wL rfl ?_)
     exact ⟨q,⟨h9.1,hg.ge,hd2 _ h9.1 h9.2⟩,rfl,rfl,⟨_,rfl⟩,rfl,⟨_,rfl⟩,rfl,rfl,rfl,rfl,trivial⟩
  ·intro q hq
   obtain ⟨hq1,hq2,hq3⟩:=hq
   have hgk:=kA out k (by omega)
   have hset0:=uL_set out k
   repeat (first | refine wQ wB rfl rfl rfl rfl ?_ | refine wF wI rfl rfl ?_ | refine wJ ?_ | refine wM ?_ | refine wC ?_)
   refine qF (fun b:Nat × List Nat × Nat × Nat=>[(12,some (.sv (.v (.int .i64 (s:Nat))))),(14,some (.sv (.v (vL vs)))),(16,some (.sv (.own 0 180 1 (uL b.2.1)))),(18,some (.sv (.v (.int .i64 (n:Nat))))),(22,some (.sv (.own 0 180 1 (uL out)))),(24,some (.sv (.v (.int .u64 (tp:Nat))))),(26,some (.sv (.v (.int .u64 (nx:Nat))))),(28,some (.sv (.v (.int .i64 (k:Nat))))),(32,some (.sv (.v (.int .u64 (q:Nat))))),(36,some (.sv (.v (.int .u64 (b.2.2.1:Nat))))),(38,some (.sv (.v (.int .u64 (b.2.2.2:Nat))))),(248,some (.sv (.v (.int .i64 (n:Nat))))),(250,some (.sv (.v (.int .i64 (b.1:Nat)))))])
    (fun b=>b.1≤n∧b.2.1.length=m+n+1∧okL b.2.1∧b.2.1.take k=us.take k∧b.2.1.drop (k+b.1)=us.drop (k+b.1)∧b.2.2.1≤1∧b.2.2.2<4294967296∧wD ((b.2.1.drop k).take b.1)+q*wD (vs.take b.1)=wD ((us.drop k).take b.1)+4294967296 ^ b.1*(b.2.2.2+b.2.2.1))
    (fun b=>n - b.1) (0,us,0,0) (fun _=>rfl) ⟨Nat.zero_le _,h3,h4,rfl,rfl,by dsimp only; decide,by dsimp only; decide,by simp [wD]⟩ ⟨rfl,rfl,⟨_,rfl⟩,rfl,⟨_,rfl⟩,rfl,rfl,rfl,rfl,rfl,rfl,rfl,rfl,trivial⟩ fun ⟨i,ws,bo,ca⟩ hI=>?_
   obtain ⟨i1,i2,i3,i4,i5,i6,i7,i8⟩:=hI
   dsimp only at i1 i2 i3 i4 i5 i6 i7 i8 ⊢
   have hwl:=qQ ws
   rcases Nat.lt_or_ge i n with hi | hi
   ·have gv:=hvg i hi
    have gw:=kA ws (k+i) (by omega)
    have lv:=getD_lt vs hvok i
    have lw:=getD_lt ws i3 (k+i)
    have hset:=uL_set ws (k+i)
    have huw:us.getD (k+i) 0=ws.getD (k+i) 0:=by
     have:=congrArg (fun l=>l.getD 0 0) i5
     simpa [getD_drop] using this.symm
    have hwin:=fun d=>win_set ws k i d (by omega)
    have hut2:=qO (us.drop k) i
    rw [getD_drop,huw] at hut2
    have hvt2:=hvt i
    have hi5:us.drop (k+i+1)=ws.drop (k+i+1):=by
     have:=congrArg (fun l=>l.drop 1) i5
     simpa [List.drop_drop] using this.symm
    generalize ws.getD (k+i) 0=u at *
    generalize vs.getD i 0=v at *
    have htk:=take_limb u q v ca bo lw hq1 lv i7 i6
    have hqv:q*v≤4294967295*4294967295:=Nat.mul_le_mul (by omega) (by omega)
    obtain ⟨qv,hqve⟩:∃ x,q*v=x:=⟨_,rfl⟩
    have hts:=take_sum (4294967296 ^ i) _ _ _ q u v ca bo _ _ _ _ i8 (Nat.div_add_mod (q*v+ca) 4294967296).symm htk.2.2.2
    rw [hqve] at htk hts hqv
    obtain ⟨p,hp⟩:∃ p,qv+ca=p:=⟨_,rfl⟩
    rw [hp] at htk hts
    have hpl:p / 2 ^ 32=p / 4294967296:=rfl
    have hd0:((u+18446744073709551616 - p % 4294967296) % 18446744073709551616+18446744073709551616 - bo) % 18446744073709551616=(u+18446744073709551616 - p % 4294967296 - bo) % 18446744073709551616:=by omega
    obtain ⟨d1,hd1e⟩:∃ x,(u+18446744073709551616 - p % 4294967296) % 18446744073709551616=x:=⟨_,rfl⟩
    rw [hd1e] at hd0
    obtain ⟨d,hde⟩:∃ x,(u+18446744073709551616 - p % 4294967296 - bo) % 18446744073709551616=x:=⟨_,rfl⟩
    rw [hde] at hd0 htk hts
    have hdl:d<18446744073709551616:=by omega
    have hd63:d / 2 ^ 63=d / 9223372036854775808:=rfl
    repeat (first | refine wQ wB rfl rfl rfl rfl ?_ | refine wG rfl rfl (wU wB rfl rfl rfl (i:=i) rfl rfl rfl gv rfl rfl) rfl ?_ | refine wG rfl rfl (qY wB rfl rfl rfl (i:=k+i) (by omega) rfl rfl (by omega) rfl rfl rfl) rfl ?_ | refine wG rfl rfl (zW wB rfl rfl rfl gw rfl rfl rfl) rfl ?_ | refine wG rfl rfl (sem_mul64  rfl rfl rfl hqve (by omega) rfl) rfl ?_ | refine wG rfl rfl (sem_add64  rfl rfl rfl hp (by omega) rfl) rfl ?_ | refine wG rfl rfl (sem_shrE (s:=32) rfl rfl rfl rfl (by decide) hpl rfl) rfl ?_ | refine wG rfl rfl (wX rfl rfl rfl rfl (nAnd32 (r:=p % 4294967296) rfl (by omega)) rfl) rfl ?_ | refine wG rfl rfl (sem_sub64  rfl rfl rfl hd1e (by omega) rfl) rfl ?_ | refine wG rfl rfl (sem_sub64  rfl rfl rfl hd0 (by omega) rfl) rfl ?_ | refine wG rfl rfl (qW wB rfl rfl rfl rfl (ew32 d) rfl) rfl ?_ | refine wG rfl rfl (zD wB rfl rfl rfl gw rfl rfl rfl rfl (by decide) rfl (hset _)) rfl ?_ | refine wG rfl rfl (sem_shrE (s:=63) rfl rfl rfl rfl (by decide) hd63 rfl) rfl ?_ | refine wG rfl rfl (wH rfl rfl rfl rfl (decide_eq_true (by omega)) rfl) rfl ?_ | refine wG rfl rfl (wX rfl rfl rfl rfl (qC (by omega) (by omega)) rfl) rfl ?_ | refine wG rfl rfl (qW wB rfl rfl rfl rfl (wr_u64 (by omega) (by omega)) rfl) rfl ?_ | refine wF wI rfl rfl ?_ | refine wJ ?_ | refine wM ?_ | refine wC ?_ | refine wO ?_ | refine wN rfl ?_)
    obtain ⟨w1,w2,w3⟩:=hwin (d % 4294967296)
    refine ⟨(i+1,ws.set (k+i) (d % 4294967296),d / 9223372036854775808,p / 4294967296),⟨hi,by simp [i2],set_lt ws _ _ i3 (by omega),by rw [w1,i4],?_,htk.2.2.1,htk.2.1,?_⟩,by dsimp only; omega,rfl,rfl,⟨_,rfl⟩,rfl,⟨_,rfl⟩,rfl,rfl,rfl,rfl,rfl,rfl,rfl,rfl,trivial⟩
    ·dsimp only
     rw [← Nat.add_assoc,w2,hi5]
    ·dsimp only
     rw [w3,hut2,hvt2,Nat.pow_succ]
     exact hts
   ·obtain rfl:i=n:=by omega
    rw [hvall] at i8
    have gw:=kA ws (k+i) (by omega)
    have hset:=uL_set ws (k+i)
    have hwk:us.getD (k+i) 0=ws.getD (k+i) 0:=by
     have:=congrArg (fun l=>l.getD 0 0) i5
     simpa [getD_drop] using this.symm
    rw [hua] at hwk
    rw [← hwk] at gw
    have hi5:ws.drop (k+i+1)=us.drop (k+i+1):=by
     have:=congrArg (fun l=>l.drop 1) i5
     simpa [List.drop_drop] using this
    have hz:wD (ws.drop (k+i+1))=0:=by rw [hi5,show k+i+1=k+1+i by omega]; exact hhi
    have hWs:W=wD ((us.drop k).take i)+4294967296 ^ i*ua:=by
     rw [← hW,qZ (us.drop k) i,List.drop_drop,qJ us (k+i),hua,show k+i+1=k+1+i by omega,hhi]
     simp
    have hAlt:=z7 (ws.drop k) i fun x h=>i3 x (List.mem_of_mem_drop h)
    have hWm:=Nat.mod_lt W hVpos
    have hround:=fun ws' hA hB=>long_round us ws' out (wD vs) (wD u0) k (W / wD vs) (by omega) hA hB (by rw [hW]) h7
    rw [hW] at hround
    generalize hPn:4294967296 ^ i=Pn at *
    by_cases hc:ca+bo≤ua
    ·obtain ⟨f1,f2,f3⟩:=take_fits Pn _ _ _ W q ua ca bo hVpos (by omega) i8 hWs hq2 hc
     have s1:(ua+18446744073709551616 - ca) % 18446744073709551616=ua - ca:=by omega
     have s2:(ua - ca+18446744073709551616 - bo) % 18446744073709551616=0:=by omega
     have s3:0 / 2 ^ 63=0:=by decide
     repeat (first | refine wQ wB rfl rfl rfl rfl ?_ | refine wG rfl rfl (qY wB rfl rfl rfl (i:=k+i) (by omega) rfl rfl (by omega) rfl rfl rfl) rfl ?_ | refine wG rfl rfl (qY wB rfl rfl rfl (i:=k) (by omega) rfl rfl (by omega) rfl rfl rfl) rfl ?_ | refine wG rfl rfl (zW wB rfl rfl rfl gw rfl rfl rfl) rfl ?_ | refine wG rfl rfl (sem_sub64  rfl rfl rfl s1 (by omega) rfl) rfl ?_ | refine wG rfl rfl (sem_sub64  rfl rfl rfl s2 (by omega) rfl) rfl ?_ | refine wG rfl rfl (qW wB rfl rfl rfl rfl (ew32 0) rfl) rfl ?_ | refine wG rfl rfl (zD wB rfl rfl rfl gw rfl rfl rfl rfl (by decide) rfl (hset _)) rfl ?_ | refine wG rfl rfl (zD wB rfl rfl rfl hgk rfl rfl rfl rfl (by decide) rfl (hset0 _)) rfl ?_ | refine wG rfl rfl (sem_shrE (s:=63) rfl rfl rfl rfl (by decide) s3 rfl) rfl ?_ | refine wG rfl rfl (wH rfl rfl rfl rfl (decide_eq_false (by omega)) rfl) rfl ?_ | refine wG rfl rfl (wX rfl rfl rfl rfl (qC (by omega) (by omega)) rfl) rfl ?_ | refine wG rfl rfl (qW wB rfl rfl rfl rfl (wr_u64 (by omega) (by omega)) rfl) rfl ?_ | refine wG rfl rfl (qW wB rfl rfl rfl rfl (wr_u32 (by omega) (by omega)) rfl) rfl ?_ | refine wF wI rfl rfl ?_ | refine wJ ?_ | refine wC ?_ | refine qA ?_ | refine wO ?_ | refine wL rfl ?_)
     have hws':=(win_set ws k i 0 (by omega)).1.trans i4
     have hwe:=win_end ws k i _ 0 rfl hz (by omega)
     rw [Nat.mul_zero,Nat.add_zero,f2] at hwe
     have hr2:=hround _ hws' hwe
     rw [← f1] at hr2
     exact ⟨(k,_,ws.set (k+i) 0,out.set k q),⟨by dsimp only; omega,rfl,by simp [i2],set_lt ws _ _ i3 (by decide),by simp [h5],set_lt out _ _ h6 hq1,hr2,by dsimp only; rw [hwe]; exact hWm⟩,by dsimp only; omega,rfl,rfl,⟨_,rfl⟩,rfl,⟨_,rfl⟩,rfl,rfl,rfl,trivial⟩
    ·obtain ⟨f1,f2,f3⟩:=take_lent Pn _ _ _ W q ua ca bo hVpos (by omega) hAlt i8 hWs hq3 (by omega)
     obtain ⟨x1,s1⟩:∃ x,(ua+18446744073709551616 - ca) % 18446744073709551616=x:=⟨_,rfl⟩
     have s2:(x1+18446744073709551616 - bo) % 18446744073709551616=18446744073709551615:=by omega
     have s3:18446744073709551615 / 2 ^ 63=1:=by decide
     have s4:Ev.ewrap .u32 ((18446744073709551615:Nat):Int)=((4294967295:Nat):Int):=by rw [ew32]
     have hset9:=hset 4294967295
     obtain ⟨z1,z2,_⟩:=win_set ws k i 4294967295 (by omega)
     have z3:(ws.set (k+i) 4294967295).length=m+i+1:=by simp [i2]
     have z4:okL (ws.set (k+i) 4294967295):=set_lt ws _ _ i3 (by decide)
     have z5:(ws.set (k+i) 4294967295).getD (k+i) 0=4294967295:=by simp [List.getD,show k+i<ws.length by omega]
     have z6:∀ e,e<i→(ws.set (k+i) 4294967295).getD (k+e) 0=ws.getD (k+e) 0:=fun e he=>by
      simp only [List.getD]
      rw [List.getElem?_set_ne (by omega)]
     rw [← z2] at hz
     rw [i4] at z1
     have hqs:1≤q:=by rw [f1]; exact Nat.le_add_left _ _
     have s5:Ev.ewrap .u32 (((4294967295:Nat):Int)+((1:Nat):Int))=((0:Nat):Int):=by rw [wr_u32_mod]; rfl
     generalize hzs:ws.set (k+i) 4294967295=zs at *
     repeat (first | refine wQ wB rfl rfl rfl rfl ?_ | refine wG rfl rfl (sem_dec64 rfl rfl hqs (by omega) rfl) rfl ?_ | refine wG rfl rfl (qY wB rfl rfl rfl (i:=k+i) (by omega) rfl rfl (by omega) rfl rfl rfl) rfl ?_ | refine wG rfl rfl (zW wB rfl rfl rfl gw rfl rfl rfl) rfl ?_ | refine wG rfl rfl (sem_sub64  rfl rfl rfl s1 (by omega) rfl) rfl ?_ | refine wG rfl rfl (sem_sub64  rfl rfl rfl s2 (by omega) rfl) rfl ?_ | refine wG rfl rfl (qW wB rfl rfl rfl rfl s4 rfl) rfl ?_ | refine wG rfl rfl (zD wB rfl rfl rfl gw rfl rfl rfl rfl (by decide) rfl hset9) rfl ?_ | refine wG rfl rfl (sem_shrE (s:=63) rfl rfl rfl rfl (by decide) s3 rfl) rfl ?_ | refine wG rfl rfl (wH rfl rfl rfl rfl (decide_eq_true (by omega)) rfl) rfl ?_ | refine wG rfl rfl (wH rfl rfl rfl rfl (decide_eq_false (by omega)) rfl) rfl ?_ | refine wG rfl rfl (wX rfl rfl rfl rfl (qC (by omega) (by omega)) rfl) rfl ?_ | refine wG rfl rfl (qW wB rfl rfl rfl rfl (wr_u64 (by omega) (by omega)) rfl) rfl ?_ | refine wF wI rfl rfl ?_ | refine wJ ?_ | refine wM ?_ | refine wC ?_ | refine qA ?_ | refine wN rfl ?_ | refine wL rfl ?_)
     refine qF (fun b:Nat × List Nat × Nat=>[(12,some (.sv (.v (.int .i64 (s:Nat))))),(14,some (.sv (.v (vL vs)))),(16,some (.sv (.own 0 180 1 (uL b.2.1)))),(18,some (.sv (.v (.int .i64 (i:Nat))))),(22,some (.sv (.own 0 180 1 (uL out)))),(24,some (.sv (.v (.int .u64 (tp:Nat))))),(26,some (.sv (.v (.int .u64 (nx:Nat))))),(28,some (.sv (.v (.int .i64 (k:Nat))))),(32,some (.sv (.v (.int .u64 (q - 1:Nat))))),(48,some (.sv (.v (.int .u64 (b.2.2:Nat))))),(368,some (.sv (.v (.int .i64 (i:Nat))))),(370,some (.sv (.v (.int .i64 (b.1:Nat)))))])
      (fun b=>b.1≤i∧b.2.1.length=m+i+1∧okL b.2.1∧b.2.1.take k=us.take k∧b.2.1.drop (k+b.1)=zs.drop (k+b.1)∧b.2.2≤1∧wD ((b.2.1.drop k).take b.1)+4294967296 ^ b.1*b.2.2=wD ((ws.drop k).take b.1)+wD (vs.take b.1))
      (fun b=>i - b.1) (0,zs,0) (fun _=>rfl) ⟨Nat.zero_le _,z3,z4,z1,rfl,by dsimp only; decide,by simp [wD]⟩ ⟨rfl,rfl,⟨_,rfl⟩,rfl,⟨_,rfl⟩,rfl,rfl,rfl,rfl,rfl,rfl,rfl,trivial⟩ fun ⟨e,rs,c⟩ hI=>?_
     obtain ⟨e1,e2,e3,e4,e5,e6,e7⟩:=hI
     dsimp only at e1 e2 e3 e4 e5 e6 e7 ⊢
     have hrl:=qQ rs
     rcases Nat.lt_or_ge e i with he | he
     ·have gv:=hvg e he
      have gr:=kA rs (k+e) (by omega)
      have lv:=getD_lt vs hvok e
      have lr:=getD_lt rs e3 (k+e)
      have hsetr:=uL_set rs (k+e)
      have hur:ws.getD (k+e) 0=rs.getD (k+e) 0:=by
       rw [← z6 e he]
       have:=congrArg (fun l=>l.getD 0 0) e5
       simpa [getD_drop] using this.symm
      have hut3:=qO (ws.drop k) e
      rw [getD_drop,hur] at hut3
      have hvt3:=hvt e
      have he5:zs.drop (k+e+1)=rs.drop (k+e+1):=by
       have:=congrArg (fun l=>l.drop 1) e5
       simpa [List.drop_drop] using this.symm
      generalize rs.getD (k+e) 0=u at *
      generalize vs.getD e 0=v at *
      have hbs:=back_step (4294967296 ^ e) _ _ _ c u v e7
      obtain ⟨sm,hsm⟩:∃ x,u+v+c=x:=⟨_,rfl⟩
      rw [hsm] at hbs
      have hs32:sm / 2 ^ 32=sm / 4294967296:=rfl
      obtain ⟨w1,w2,w3⟩:=win_set rs k e (sm % 4294967296) (by omega)
      repeat (first | refine wQ wB rfl rfl rfl rfl ?_ | refine wG rfl rfl (wU wB rfl rfl rfl (i:=e) rfl rfl rfl gv rfl rfl) rfl ?_ | refine wG rfl rfl (qY wB rfl rfl rfl (i:=k+e) (by omega) rfl rfl (by omega) rfl rfl rfl) rfl ?_ | refine wG rfl rfl (zW wB rfl rfl rfl gr rfl rfl rfl) rfl ?_ | refine wG rfl rfl (sem_add64  rfl rfl rfl hsm (by omega) rfl) rfl ?_ | refine wG rfl rfl (sem_add64 (a:=u) (b:=v) (r:=u+v) rfl rfl rfl rfl (by omega) rfl) rfl ?_ | refine wG rfl rfl (qW wB rfl rfl rfl rfl (ew32 sm) rfl) rfl ?_ | refine wG rfl rfl (zD wB rfl rfl rfl gr rfl rfl rfl rfl (by decide) rfl (hsetr _)) rfl ?_ | refine wG rfl rfl (sem_shrE (s:=32) rfl rfl rfl rfl (by decide) hs32 rfl) rfl ?_ | refine wG rfl rfl (wH rfl rfl rfl rfl (decide_eq_true (by omega)) rfl) rfl ?_ | refine wG rfl rfl (wX rfl rfl rfl rfl (qC (by omega) (by omega)) rfl) rfl ?_ | refine wG rfl rfl (qW wB rfl rfl rfl rfl (wr_u64 (by omega) (by omega)) rfl) rfl ?_ | refine wF wI rfl rfl ?_ | refine wJ ?_ | refine wM ?_ | refine wC ?_ | refine wO ?_ | refine wN rfl ?_)
      refine ⟨(e+1,rs.set (k+e) (sm % 4294967296),sm / 4294967296),⟨he,by simp [e2],set_lt rs _ _ e3 (by omega),by rw [w1,e4],?_,by dsimp only; omega,?_⟩,by dsimp only; omega,rfl,rfl,⟨_,rfl⟩,rfl,⟨_,rfl⟩,rfl,rfl,rfl,rfl,rfl,rfl,rfl,trivial⟩
      ·dsimp only
       rw [← Nat.add_assoc,w2,he5]
      ·dsimp only
       rw [w3,hut3,hvt3,Nat.pow_succ]
       exact hbs
     ·obtain rfl:e=i:=by omega
      rw [hvall,hPn] at e7
      have hRlt:=z7 (rs.drop k) e fun x h=>e3 x (List.mem_of_mem_drop h)
      rw [hPn] at hRlt
      obtain ⟨rfl,hR⟩:=back_end Pn _ _ _ _ c e7 f3 hRlt (by omega)
      have gr:=kA rs (k+e) (by omega)
      have hur:rs.getD (k+e) 0=4294967295:=by
       rw [← z5]
       have:=congrArg (fun l=>l.getD 0 0) e5
       simpa [getD_drop] using this
      rw [hur] at gr
      have hz9:wD (rs.drop (k+e+1))=0:=by
       rw [← hz]
       have:=congrArg (fun l=>l.drop 1) e5
       simp only [List.drop_drop] at this
       rw [this]
      have hset8:=uL_set rs (k+e) 0
      have hws':=(win_set rs k e 0 (by omega)).1.trans e4
      have hwe:=win_end rs k e _ 0 hR hz9 (by omega)
      rw [Nat.mul_zero,Nat.add_zero] at hwe
      have hr2:=hround _ hws' hwe
      rw [show W / wD vs=q - 1 by omega] at hr2
      repeat (first | refine wQ wB rfl rfl rfl rfl ?_ | refine wG rfl rfl (qY wB rfl rfl rfl (i:=k+e) (by omega) rfl rfl (by omega) rfl rfl rfl) rfl ?_ | refine wG rfl rfl (qY wB rfl rfl rfl (i:=k) (by omega) rfl rfl (by omega) rfl rfl rfl) rfl ?_ | refine wG rfl rfl (zW wB rfl rfl rfl gr rfl rfl rfl) rfl ?_ | refine wG rfl rfl (wX rfl rfl rfl rfl s5 rfl) rfl ?_ | refine wG rfl rfl (zD wB rfl rfl rfl gr rfl rfl rfl rfl (by decide) rfl hset8) rfl ?_ | refine wG rfl rfl (zD wB rfl rfl rfl hgk rfl rfl rfl rfl (by decide) rfl (hset0 _)) rfl ?_ | refine wG rfl rfl (wH rfl rfl rfl rfl (decide_eq_false (by omega)) rfl) rfl ?_ | refine wG rfl rfl (wX rfl rfl rfl rfl (qC (by omega) (by omega)) rfl) rfl ?_ | refine wG rfl rfl (qW wB rfl rfl rfl rfl (wr_u32 (by omega) (by omega)) rfl) rfl ?_ | refine wF wI rfl rfl ?_ | refine wJ ?_ | refine wC ?_ | refine qA ?_ | refine wL rfl ?_)
      exact ⟨(k,_,rs.set (k+e) 0,out.set k (q - 1)),⟨by dsimp only; omega,rfl,by simp [e2],set_lt rs _ _ e3 (by decide),by simp [h5],set_lt out _ _ h6 (by omega),hr2,by dsimp only; rw [hwe]; exact hWm⟩,by dsimp only; omega,rfl,rfl,⟨_,rfl⟩,rfl,⟨_,rfl⟩,rfl,rfl,rfl,trivial⟩
end Go.Proofs.YtkjhfnhgefbhhaaGreat
/- nat.Div, nat.Gcd, told of trees. -/
namespace Go.Proofs.YtkjhfnhgefbhhaaGreat
open Go.RowKit Go.Ev Go.Vl
theorem trimL_id (n:Nat):qS (toL n)=toL n:=by rw [zB _ (zG n),wY]
theorem kN (n:Nat) (h:0<n):0<(toL n).length:=by
 rcases Nat.eq_zero_or_pos (toL n).length with h0 | h0
 ·have:=(toL_nil n).1 (List.eq_nil_of_length_eq_zero h0)
  omega
 ·exact h0
theorem toL_top (n:Nat) (h:0<n):0<(toL n).getD ((toL n).length - 1) 0:=by
 have h1:=trimL_id n
 have h2:=kN n h
 generalize toL n=xs at *
 rcases List.eq_nil_or_concat xs with rfl | ⟨zs,x,rfl⟩
 ·simp at h2
 ·simp only [List.concat_eq_append] at *
  simp only [List.length_append,List.length_singleton,Nat.add_sub_cancel,List.getD]
  rcases Nat.eq_zero_or_pos x with rfl | h3
  ·rw [trimL_snoc_zero] at h1
   have:=zV zs
   rw [h1] at this
   simp only [List.length_append,List.length_singleton] at this
   omega
  ·simpa using h3
set_option maxRecDepth 20000 in
set_option maxHeartbeats 1600000 in
theorem div_v (xs ys:List Nat) (hx:okL xs) (hy:okL ys) (hl:xs.length≤8796093022208) (hl2:ys.length≤8796093022208) (hp:0<wD ys):wT Tryz.prog 253 [vL xs,vL ys] (fun y=>y=.tup [vN (wD xs / wD ys),vN (wD xs % wD ys),.int .i64 0]):=by
 refine wK wB Tryz.func253 rfl rfl rfl rfl fun w0=>?_
 have hta:=trim_v xs (by omega)
 have htb:=trim_v ys (by omega)
 have la:=zV xs
 have lb:=zV ys
 rw [zB xs hx] at hta la
 rw [zB ys hy] at htb lb
 generalize wD xs=A at *
 generalize wD ys=B at *
 have hpos:=kN B hp
 have hcmp:=natCmp_v (toL A) (toL B) (zG A) (zG B) (by omega) (by omega)
 have hown:=own_v (toL A) (zG A) (by omega)
 rw [wY] at hown
 simp only [wY] at hcmp
 by_cases hlt:A<B
 ·have hc:cmpN A B = -1:=by unfold cmpN; rw [if_pos hlt]
  rw [hc] at hcmp
  repeat (first | refine wG rfl rfl (wR wB rfl rfl rfl rfl rfl rfl (qQ _) rfl) rfl ?_ | refine wQ wB rfl rfl rfl rfl ?_ | refine wG rfl rfl (wH rfl rfl rfl rfl (decide_eq_true (by omega)) rfl) rfl ?_ | refine wG rfl rfl (wH rfl rfl rfl rfl (decide_eq_false (by omega)) rfl) rfl ?_ | refine wE wB rfl rfl rfl rfl rfl rfl rfl rfl (hta) rfl rfl ?_ | refine wE wB rfl rfl rfl rfl rfl rfl rfl rfl (htb) rfl rfl ?_ | refine wE wB rfl rfl rfl rfl rfl rfl rfl rfl (hcmp) rfl rfl ?_ | refine wE wB rfl rfl rfl rfl rfl rfl rfl rfl (hown) rfl rfl ?_ | refine wF wI rfl rfl ?_ | refine wJ ?_ | refine wM ?_ | refine wC ?_ | refine wP ?_ | refine wN rfl ?_ | refine wL rfl ?_)
  refine ⟨.inl rfl,_,rfl,?_⟩
  rw [Nat.div_eq_of_lt hlt,Nat.mod_eq_of_lt hlt]
  simp [vN,(toL_nil 0).2 rfl,vL,uL]
 ·have hc:0≤cmpN A B:=by unfold cmpN; rw [if_neg hlt]; split <;> decide
  generalize cmpN A B=cm at *
  by_cases h1:(toL B).length=1
  ·have hB:toL B=[B]:=by
    have h2:=wY B
    obtain ⟨b,hb⟩:=List.length_eq_one_iff.1 h1
    rw [hb] at h2 ⊢
    simp only [wD] at h2
    have:b=B:=by omega
    rw [this]
   have hB2:B<4294967296:=zG B B (by rw [hB]; exact List.mem_singleton.2 rfl)
   have hg:=kA (toL B) 0 (by omega)
   have hgB:(toL B).getD 0 0=B:=by rw [hB]; rfl
   rw [hgB] at hg
   have hsh:=short_v (toL A) B (zG A) (by omega) hp hB2
   rw [wY] at hsh
   have hm:=Nat.mod_lt A hp
   obtain ⟨r,hr⟩:∃ r,A % B=r:=⟨_,rfl⟩
   rw [hr] at hsh hm
   have hof:=natOf_v r (by omega)
   repeat (first | refine wG rfl rfl (wR wB rfl rfl rfl rfl rfl rfl (qQ _) rfl) rfl ?_ | refine wQ wB rfl rfl rfl rfl ?_ | refine wG rfl rfl (wH rfl rfl rfl rfl (decide_eq_true (by omega)) rfl) rfl ?_ | refine wG rfl rfl (wH rfl rfl rfl rfl (decide_eq_false (by omega)) rfl) rfl ?_ | refine wG rfl rfl (qW wB rfl rfl rfl rfl (wr_u64 (by omega) (by omega)) rfl) rfl ?_ | refine wE wB rfl rfl rfl rfl rfl rfl rfl rfl (hta) rfl rfl ?_ | refine wE wB rfl rfl rfl rfl rfl rfl rfl rfl (htb) rfl rfl ?_ | refine wE wB rfl rfl rfl rfl rfl rfl rfl rfl (hcmp) rfl rfl ?_ | refine wG rfl rfl (wU wB rfl rfl rfl (i:=0) rfl rfl rfl hg rfl rfl) rfl ?_ | refine wE wB rfl rfl rfl rfl rfl rfl rfl rfl (hsh) rfl rfl ?_ | refine wE wB rfl rfl rfl rfl rfl rfl rfl rfl (hof) rfl rfl ?_ | refine wF wI rfl rfl ?_ | refine wJ ?_ | refine wM ?_ | refine wC ?_ | refine wP ?_ | refine wN rfl ?_ | refine wL rfl ?_)
   refine ⟨.inl rfl,_,rfl,?_⟩
   rw [hr]
  ·have hle:=qN (Nat.not_lt.1 hlt)
   have hlg:=long_vc (toL A) (toL B) (toL B).length ((toL A).length - (toL B).length) (zG A) (zG B) (by omega) (trimL_id A) (trimL_id B) (by omega) rfl (toL_top B hp) (by omega)
   simp only [wY] at hlg
   repeat (first | refine wG rfl rfl (wR wB rfl rfl rfl rfl rfl rfl (qQ _) rfl) rfl ?_ | refine wQ wB rfl rfl rfl rfl ?_ | refine wG rfl rfl (wH rfl rfl rfl rfl (decide_eq_false (by omega)) rfl) rfl ?_ | refine wE wB rfl rfl rfl rfl rfl rfl rfl rfl (hta) rfl rfl ?_ | refine wE wB rfl rfl rfl rfl rfl rfl rfl rfl (htb) rfl rfl ?_ | refine wE wB rfl rfl rfl rfl rfl rfl rfl rfl (hcmp) rfl rfl ?_ | refine wE wB rfl rfl rfl rfl rfl rfl rfl rfl (hlg) rfl rfl ?_ | refine wF wI rfl rfl ?_ | refine wJ ?_ | refine wM ?_ | refine wC ?_ | refine wP ?_ | refine wO ?_ | refine wL rfl ?_)
   exact ⟨.inl rfl,_,rfl,rfl⟩
set_option maxRecDepth 20000 in
set_option maxHeartbeats 1600000 in
theorem gcd_v (xs ys:List Nat) (hx:okL xs) (hy:okL ys) (hl:xs.length≤8796093022208) (hl2:ys.length≤8796093022208):wT Tryz.prog 270 [vL xs,vL ys] (fun y=>y=vN (Nat.gcd (wD xs) (wD ys))):=by
 refine wK wB Tryz.func270 rfl rfl rfl rfl fun w0=>?_
 have ha:=own_v xs hx (by omega)
 have hb:=own_v ys hy (by omega)
 have la:=zV xs
 have lb:=zV ys
 rw [zB xs hx] at la
 rw [zB ys hy] at lb
 generalize wD xs=A at *
 generalize wD ys=B at *
 repeat (first | refine wQ wB rfl rfl rfl rfl ?_ | refine wE wB rfl rfl rfl rfl rfl rfl rfl rfl (ha) rfl rfl ?_ | refine wE wB rfl rfl rfl rfl rfl rfl rfl rfl (hb) rfl rfl ?_ | refine wF wI rfl rfl ?_ | refine wJ ?_ | refine wM ?_ | refine wC ?_)
 refine qF (fun b:Nat × Nat=>[(0,some (.sv (.v (vN b.1)))),(2,some (.sv (.v (vN b.2))))])
  (fun b=>(toL b.1).length≤8796093022208∧(toL b.2).length≤8796093022208∧Nat.gcd b.1 b.2=Nat.gcd A B) (fun b=>b.2) (A,B) (fun _=>rfl) ⟨by dsimp only; omega,by dsimp only; omega,rfl⟩ ⟨rfl,rfl,trivial⟩ fun ⟨a,b⟩ hI=>?_
 obtain ⟨h1,h2,h3⟩:=hI
 dsimp only at h1 h2 h3 ⊢
 rcases Nat.eq_zero_or_pos b with rfl | hb0
 ·have hz:(toL 0).length=0:=by rw [(toL_nil 0).2 rfl]; rfl
  have hown:=own_v (toL a) (zG a) (by omega)
  rw [wY] at hown
  repeat (first | refine wG rfl rfl (wR wB rfl rfl rfl rfl rfl rfl (qQ _) rfl) rfl ?_ | refine wQ wB rfl rfl rfl rfl ?_ | refine wG rfl rfl (wH rfl rfl rfl rfl (decide_eq_false (by omega)) rfl) rfl ?_ | refine wE wB rfl rfl rfl rfl rfl rfl rfl rfl (hown) rfl rfl ?_ | refine wF wI rfl rfl ?_ | refine wJ ?_ | refine wC ?_ | refine wP ?_ | refine qA ?_ | refine wL rfl ?_)
  refine ⟨.inl rfl,_,rfl,?_⟩
  rw [← h3,Nat.gcd_zero_right]
 ·have hpos:=kN b hb0
  have hd:=div_v (toL a) (toL b) (zG a) (zG b) h1 h2 (by rw [wY]; exact hb0)
  simp only [wY] at hd
  repeat (first | refine wG rfl rfl (wR wB rfl rfl rfl rfl rfl rfl (qQ _) rfl) rfl ?_ | refine wQ wB rfl rfl rfl rfl ?_ | refine wG rfl rfl (wH rfl rfl rfl rfl (decide_eq_true (by omega)) rfl) rfl ?_ | refine wE wB rfl rfl rfl rfl rfl rfl rfl rfl (hd) rfl rfl ?_ | refine wF wI rfl rfl ?_ | refine wJ ?_ | refine wM ?_ | refine wC ?_ | refine wO ?_ | refine wN rfl ?_)
  have hm:=Nat.mod_lt a hb0
  have hmono:=qN (Nat.le_of_lt hm)
  refine ⟨(b,a % b),⟨h2,by dsimp only; omega,?_⟩,hm,rfl,rfl,trivial⟩
  dsimp only
  rw [← h3,Nat.gcd_comm b,← Nat.gcd_rec,Nat.gcd_comm]
end Go.Proofs.YtkjhfnhgefbhhaaGreat
