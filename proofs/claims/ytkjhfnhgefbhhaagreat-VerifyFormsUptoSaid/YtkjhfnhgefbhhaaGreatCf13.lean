/- nat.long, told of trees. -/
import Derived.Test.YtkjhfnhgefbhhaaGreatCf12
set_option linter.all false
set_option maxRecDepth 20000
set_option maxHeartbeats 6400000
namespace Go.Proofs.YtkjhfnhgefbhhaaGreat
open Go.RowKit Go.Ev Go.Vl
theorem lz_v (x s:Nat) (hx:x<4294967296) (hs:Lib.bitLen x+s=32):wD Tryz.prog 301 [.int .u32 (x:Nat)] (fun y=>y=.int .i64 (s:Nat)):=by
 intro S w us hus
 cases hus with
 | cons h1 t =>
  cases t
  cases h1
  refine (Tryz.bits_LeadingZeros32 x w (by omega) (by omega)).mono ?_
  rintro e w' ⟨rfl,rfl⟩
  have:(32:Int) - ((Lib.bitLen (x:Int).toNat:Nat):Int)=(s:Nat):=by simp only [Int.toNat_natCast]; omega
  rw [this]; exact ⟨_,_,rfl,rfl,.int _ _,Below.refl _ _⟩
theorem wJJ (v v2:V):∀ e∈[[v],[v2]],e.length=1:=by simp
theorem uL_app (xs ys:List Nat):uL xs++uL ys=uL (xs++ys):=by simp [uL]
set_option maxRecDepth 200000 in
theorem long_vc (xs ys:List Nat) (n m:Nat) (hx:okL xs) (hy:okL ys) (hl:xs.length≤8796093022208) (htx:qG xs=xs) (hty:qG ys=ys) (hn:2≤n) (hyn:ys.length=n) (h0:0<ys.getD (n - 1) 0) (hm:xs.length=m+n) :
  wD Tryz.prog 284 [vL xs,vL ys] (fun y=>y=.tup [vN (wB xs / wB ys),vN (wB xs % wB ys)]):=by
 refine wC wG Tryz.func284 rfl rfl rfl rfl fun w0=>?_
 have hb32:=bitLen_le32 _ (getD_lt ys hy (n - 1)); obtain ⟨s,hs⟩:∃ s,Lib.bitLen (ys.getD (n - 1) 0)+s=32:=⟨32 - Lib.bitLen (ys.getD (n - 1) 0),by omega⟩
 obtain ⟨hs32,hvn,hvok,hvnat,htop⟩:=long_start ys n s hn hyn hy h0 hs; obtain ⟨hun,huok,hunat⟩:=wVD xs s hs32 hx
 have hut:=longU_top xs (qS ys s 0) n s hs32 hx hn (by omega) hvn hvok htop
 have hlz:=lz_v (ys.getD (n - 1) 0) s (getD_lt ys hy _) hs; have hlb:=left_v ys s hy (by omega) hs32
 have hla:=left_v xs s hx hl hs32; rw [hty] at hlb
 rw [htx] at hla; have hla2:=wQ8 xs s 0
 have hlU:(uL (qS xs s 0++[0,0])).take (xs.length+1)=uL (wNJ xs s):=qBE _ _; have hV1:=kW ys (n - 1) (by omega)
 have hT1:=kW (qS ys s 0) (n - 1) (by omega)
 have hT2:=kW (qS ys s 0) (n - 2) (by omega)
 have happ:=uL_app (qS xs s 0) [0,0]; have hvl:=qE (qS ys s 0)
 have hul:=qE (qS xs s 0); have hul2:=qE (qS xs s 0++[0,0])
 have hla3:(qS xs s 0++[0,0]).length=(qS xs s 0).length+2:=by simp
 have hsub:Ev.ewrap .i64 ((xs.length:Int) - (n:Int))=(m:Nat):=by rw [wP4 (by omega) (by omega)]; omega
 have hadd:Ev.ewrap .i64 ((xs.length:Int)+1)=((xs.length+1:Nat):Int):=by rw [wP4 (by omega) (by omega)]; omega
 have hadm:Ev.ewrap .i64 ((m:Int)+1)=((m+1:Nat):Int):=by rw [wP4 (by omega) (by omega)]; omega
 have hVpos:0<wB (qS ys s 0):=by omega
 have hVB:wB (qS ys s 0)<4294967296 ^ n:=by rw [← hvn]; exact qR _ hvok
 rw [show xs.length - n+1=m+1 by omega] at hut
 have hdig:=fun (us:List Nat) (j t:Nat) (hu:okL us)=>long_digit us (qS ys s 0) j n hn hvn hu hvok htop (t:=t)
 have htpl:=getD_lt _ hvok (n - 1); have hnxl:=getD_lt _ hvok (n - 2)
 have hvg:=fun i (h:i<n)=>kW (qS ys s 0) i (by omega)
 have hvt:=qD (qS ys s 0); have hvall:wB ((qS ys s 0).take n)=wB (qS ys s 0):=by rw [pN (by omega)]
 generalize hvs:qS ys s 0=vs at *; generalize hlx:qS xs s 0=lx at *
 generalize hu0:wNJ xs s=u0 at *; generalize htpe:vs.getD (n - 1) 0=tp at *
 generalize hnxe:vs.getD (n - 2) 0=nx at *; generalize ys.getD (n - 1) 0=yt at *
 repeat (first | refine wg rfl (sL (hvl.trans hvn)) ?_ | refine wg rfl (sL ((qE ys).trans hyn)) ?_ | refine wg rfl (sL (qE _)) ?_ | refine wv ?_ | refine wg rfl (k0 rfl rfl rfl rfl hsub rfl) ?_ | refine wg rfl (k0 rfl rfl rfl rfl hadd rfl) ?_ | refine wg rfl (k0 rfl rfl rfl rfl hadm rfl) ?_ | refine wg rfl (wB0 wG rfl rfl rfl (i:=n - 1) (by omega) rfl rfl hV1 rfl rfl) ?_ | refine wg rfl (wB0 wG rfl rfl rfl (i:=n - 1) (by omega) rfl rfl hT1 rfl rfl) ?_ | refine wg rfl (wB0 wG rfl rfl rfl (i:=n - 2) (by omega) rfl rfl hT2 rfl rfl) ?_ | refine wc hlz ?_ | refine wc hlb.v ?_ | refine wg rfl (sem_callO (id:=7002) wG rfl rfl rfl rfl rfl rfl hla rfl rfl) ?_ | refine wf rfl rfl (z7 (id:=7003) (es2:=[[_],[_]]) (m:=1) (bb:=4) wG rfl rfl rfl rfl rfl rfl rfl rfl rfl rfl rfl (wJJ _ _) rfl (by simp only [maxLen]; simp; omega) (by simp; omega) rfl rfl happ) ?_ | refine wg rfl (wU5 (id':=7004) wG rfl rfl rfl (h:=xs.length+1) rfl rfl rfl (by omega) hlU rfl rfl rfl) ?_ | refine wg rfl (yP (id:=7000) (l:=m+1) (c:=m+1) (m:=1) (bb:=4) wG rfl rfl rfl rfl rfl rfl rfl rfl rfl rfl (pE _) rfl (by omega) (by simp only [maxLen]; omega) rfl rfl rfl (qBG _)) ?_ | refine wg rfl sB ?_ | refine wg rfl (qI wG rfl rfl rfl rfl (jZ (by omega) (by omega)) rfl) ?_ | refine wz ?_)
 refine wJ (fun b:Nat × Int × List Nat × List Nat=>[jI 12 s,jV 14 (vL vs),jO 16 0 180 1 (uL b.2.2.1),jI 18 n,jO 22 0 180 1 (uL b.2.2.2),jV 24 (.int .u64 (tp:Nat)),jV 26 (.int .u64 (nx:Nat)),jV 28 (.int .i64 b.2.1)])
  (fun b=>b.1≤m+1∧b.2.1=(b.1:Int) - 1∧b.2.2.1.length=m+n+1∧okL b.2.2.1∧b.2.2.2.length=m+1∧okL b.2.2.2∧wB b.2.2.1+wB vs*(4294967296 ^ b.1*wB (b.2.2.2.drop b.1))=wB u0∧wB (b.2.2.1.drop b.1)<wB vs)
  (fun b=>b.1) (m+1,(m:Nat),u0,List.replicate (m+1) 0) (fun _=>rfl) ⟨pE _,by simp only; omega,by simp only; omega,huok,by simp,fun x h=>by rw [(bU.1 h).2]; decide,by simp [List.drop_of_length_le,wB],hut⟩ ⟨rfl,rfl,⟨_,rfl⟩,rfl,⟨_,rfl⟩,rfl,rfl,rfl,trivial⟩ fun ⟨J,i,us,out⟩ hI=>?_
 obtain ⟨h1,h2,h3,h4,h5,h6,h7,h8⟩:=hI; dsimp only at h1 h2 h3 h4 h5 h6 h7 h8 ⊢
 have hlu:=qE us; have hlo:=qE out
 rcases mF J with rfl | hJ
 ·rw [hvnat,hunat] at h7
  rw [hvnat] at h8 hVB; obtain ⟨g1,g2⟩:=long_end us out (wB xs) (wB ys) n s h4 hVB h7 h8
  have hcut:=qBE us n; have hrt:=right_v (us.take n) s (fun x h=>h4 x (dC h)) (by simp; omega) hs32
  repeat (first | refine wv ?_ | refine wg rfl (wU5 (id':=7005) wG rfl rfl rfl (h:=n) rfl rfl rfl (by omega) hcut rfl rfl rfl) ?_ | refine wh hrt ?_ | refine wh (wR9 out h6 (by omega)) ?_ | refine wg rfl cF ?_ | refine wz ?_)
  refine ⟨.inl rfl,_,rfl,?_⟩
  rw [g1,g2]
 ·obtain ⟨k,rfl⟩:∃ k,J=k+1:=⟨J - 1,by omega⟩
  obtain rfl:i=(k:Nat):=by omega
  obtain ⟨hd1,hd2⟩:=hdig us k _ h4 h8 rfl; have ga:=kW us (k+n) (by omega)
  have gb:=kW us (k+(n - 1)) (by omega)
  have gc:=kW us (k+(n - 2)) (by omega)
  have la:=getD_lt us h4 (k+n); have lb:=getD_lt us h4 (k+(n - 1))
  have lc:=getD_lt us h4 (k+(n - 2)); have hor:=wMA (us.getD (k+n) 0) (us.getD (k+(n - 1)) 0) lb
  generalize hua:us.getD (k+n) 0=ua at *; generalize us.getD (k+(n - 1)) 0=ub at *
  generalize us.getD (k+(n - 2)) 0=uc at *; have hhi:=hi_zero us (k+1) n _ h8 hVB
  obtain ⟨t,ht⟩:∃ t,ua*4294967296+ub=t:=⟨_,rfl⟩; rw [ht] at hd1 hd2 hor
  have htle:=hd1.tle; have hst:=hd1.start
  obtain ⟨q0,hq0⟩:∃ q,t / tp=q:=⟨_,rfl⟩; obtain ⟨r0,hr0⟩:∃ r,t % tp=r:=⟨_,rfl⟩
  rw [hq0,hr0] at hst; obtain ⟨W,hW⟩:∃ W,wB (us.drop k)=W:=⟨_,rfl⟩
  rw [hW] at hd1 hd2 hst
  repeat (first | refine wv ?_ | refine wg rfl (zJ wG rfl rfl rfl (i:=k+n) (by omega) rfl rfl (by omega) rfl rfl rfl) ?_ | refine wg rfl (zJ wG rfl rfl rfl (i:=k+(n - 1)) (by omega) rfl rfl (by omega) rfl rfl rfl) ?_ | refine wg rfl (qP wG rfl rfl rfl ga rfl rfl rfl) ?_ | refine wg rfl (qP wG rfl rfl rfl gb rfl rfl rfl) ?_ | refine wg rfl (x9 (s:=32) rfl rfl rfl rfl (by decide) (by rw [ew64,cA (by omega)]) rfl) ?_ | refine wg rfl (wMB  rfl rfl rfl hor (by omega) (by omega) rfl) ?_ | refine wg rfl (wDF rfl rfl rfl (by omega) (nQuo64 hq0 (by omega)) rfl) ?_ | refine wg rfl (kY rfl rfl rfl (by omega) (nRem hr0) rfl) ?_ | refine wg rfl cT ?_ | refine wg rfl sB ?_ | refine wg rfl (qI wG rfl rfl rfl rfl (jZ (by omega) (by omega)) rfl) ?_ | refine wz ?_)
  refine wIC 2 (fun q:Nat=>[jI 12 s,jV 14 (vL vs),jO 16 0 180 1 (uL us),jI 18 n,jO 22 0 180 1 (uL out),jV 24 (.int .u64 (tp:Nat)),jV 26 (.int .u64 (nx:Nat)),jI 28 k,jV 32 (.int .u64 (q:Nat))]) (fun q=>q<4294967296∧W / wB vs≤q∧q≤W / wB vs+1) (fun _=>rfl) ?_ ?_
  ·refine wJ (fun b:Nat × Nat=>[jI 12 s,jV 14 (vL vs),jO 16 0 180 1 (uL us),jI 18 n,jO 22 0 180 1 (uL out),jV 24 (.int .u64 (tp:Nat)),jV 26 (.int .u64 (nx:Nat)),jI 28 k,jV 32 (.int .u64 (b.1:Nat)),jV 34 (.int .u64 (b.2:Nat))]) (fun b=>Guess tp nx uc t (W / wB vs) b.1 b.2) (fun b=>b.1) (q0,r0) (fun _=>rfl) hst ⟨rfl,rfl,⟨_,rfl⟩,rfl,⟨_,rfl⟩,rfl,rfl,rfl,rfl,rfl,trivial⟩ fun ⟨q,r⟩ hg=>?_
   dsimp only at hg ⊢; have hqle:=hg.le
   have hrB:=hg.rB
   by_cases hq:4294967296≤q
   ·have hdn:=hg.down hd1 (.inl hq)
    by_cases hr:4294967296≤r+tp
    ·repeat (first | refine wv ?_ | refine wg rfl (wDG rfl rfl (by omega) (by omega) rfl) ?_ | refine wg rfl (yQ (r:=r+tp) rfl rfl rfl rfl (by omega) rfl) ?_ | refine wg rfl cT ?_ | refine kZ rfl rfl rfl rfl rfl rfl ?_ | refine wz ?_)
     have h9:=hdn.2.2.2.2 hr; exact ⟨q - 1,⟨h9.1,hdn.1,hd2 _ h9.1 h9.2⟩,rfl,rfl,⟨_,rfl⟩,rfl,⟨_,rfl⟩,rfl,rfl,rfl,rfl,trivial⟩
    ·repeat (first | refine wv ?_ | refine wg rfl (wDG rfl rfl (by omega) (by omega) rfl) ?_ | refine wg rfl (yQ (r:=r+tp) rfl rfl rfl rfl (by omega) rfl) ?_ | refine wg rfl cT ?_ | refine wg rfl cF ?_ | refine kZ rfl rfl rfl rfl rfl rfl ?_ | refine wz ?_)
     exact ⟨(q - 1,r+tp),hdn.2.2.2.1 (by omega),by dsimp only; omega,rfl,rfl,⟨_,rfl⟩,rfl,⟨_,rfl⟩,rfl,rfl,rfl,rfl,rfl,trivial⟩
   ·have hmul:q*nx≤4294967295*4294967295:=dA (by omega) (by omega)
    have hor2:=wMA r uc lc; have hr32:r*2 ^ 32<18446744073709551616:=by omega
    have huc64:uc<18446744073709551616:=by omega
    have hsh:Ev.ewrap .u64 ((r*2 ^ 32:Nat):Int)=((r*2 ^ 32:Nat):Int):=by rw [ew64,cA hr32]
    have hend:=hg.end; have hdw:=hg.down hd1
    obtain ⟨pm,hpm⟩:∃ p,q*nx=p:=⟨_,rfl⟩; rw [hpm] at hmul hend hdw
    by_cases hc:r*4294967296+uc<pm
    ·have hdn:=hdw (.inr hc)
     by_cases hr:4294967296≤r+tp
     ·repeat (first | refine wv ?_ | refine wg rfl (zJ wG rfl rfl rfl (i:=k+(n - 2)) (by omega) rfl rfl (by omega) rfl rfl rfl) ?_ | refine wg rfl (qP wG rfl rfl rfl gc rfl rfl rfl) ?_ | refine wg rfl (wJ0  rfl rfl rfl hpm (by omega) rfl) ?_ | refine wg rfl (x9 (s:=32) rfl rfl rfl rfl (by decide) hsh rfl) ?_ | refine wg rfl (wMB rfl rfl rfl hor2 hr32 huc64 rfl) ?_ | refine wg rfl (wDG rfl rfl (by omega) (by omega) rfl) ?_ | refine wg rfl (yQ (r:=r+tp) rfl rfl rfl rfl (by omega) rfl) ?_ | refine wg rfl cT ?_ | refine wg rfl cF ?_ | refine wg rfl sB ?_ | refine wg rfl (qI wG rfl rfl rfl rfl (jZ (by omega) (by omega)) rfl) ?_ | refine wz ?_)
      have h9:=hdn.2.2.2.2 hr; exact ⟨q - 1,⟨h9.1,hdn.1,hd2 _ h9.1 h9.2⟩,rfl,rfl,⟨_,rfl⟩,rfl,⟨_,rfl⟩,rfl,rfl,rfl,rfl,trivial⟩
     ·repeat (first | refine wv ?_ | refine wg rfl (zJ wG rfl rfl rfl (i:=k+(n - 2)) (by omega) rfl rfl (by omega) rfl rfl rfl) ?_ | refine wg rfl (qP wG rfl rfl rfl gc rfl rfl rfl) ?_ | refine wg rfl (wJ0  rfl rfl rfl hpm (by omega) rfl) ?_ | refine wg rfl (x9 (s:=32) rfl rfl rfl rfl (by decide) hsh rfl) ?_ | refine wg rfl (wMB rfl rfl rfl hor2 hr32 huc64 rfl) ?_ | refine wg rfl (wDG rfl rfl (by omega) (by omega) rfl) ?_ | refine wg rfl (yQ (r:=r+tp) rfl rfl rfl rfl (by omega) rfl) ?_ | refine wg rfl cT ?_ | refine wg rfl cF ?_ | refine wg rfl sB ?_ | refine wg rfl (qI wG rfl rfl rfl rfl (jZ (by omega) (by omega)) rfl) ?_ | refine wz ?_)
      exact ⟨(q - 1,r+tp),hdn.2.2.2.1 (by omega),by dsimp only; omega,rfl,rfl,⟨_,rfl⟩,rfl,⟨_,rfl⟩,rfl,rfl,rfl,rfl,rfl,trivial⟩
    ·have h9:=hend (by omega)
     repeat (first | refine wv ?_ | refine wg rfl (zJ wG rfl rfl rfl (i:=k+(n - 2)) (by omega) rfl rfl (by omega) rfl rfl rfl) ?_ | refine wg rfl (qP wG rfl rfl rfl gc rfl rfl rfl) ?_ | refine wg rfl (wJ0  rfl rfl rfl hpm (by omega) rfl) ?_ | refine wg rfl (x9 (s:=32) rfl rfl rfl rfl (by decide) hsh rfl) ?_ | refine wg rfl (wMB rfl rfl rfl hor2 hr32 huc64 rfl) ?_ | refine wg rfl cF ?_ | refine wg rfl sB ?_ | refine wg rfl (qI wG rfl rfl rfl rfl (jZ (by omega) (by omega)) rfl) ?_ | refine wz ?_)
     exact ⟨q,⟨h9.1,hg.ge,hd2 _ h9.1 h9.2⟩,rfl,rfl,⟨_,rfl⟩,rfl,⟨_,rfl⟩,rfl,rfl,rfl,rfl,trivial⟩
  ·intro q hq
   obtain ⟨hq1,hq2,hq3⟩:=hq; have hgk:=kW out k (by omega)
   have hset0:=wKD out k
   repeat (first | refine wv ?_ | refine wz ?_)
   refine wJ (fun b:Nat × List Nat × Nat × Nat=>[jI 12 s,jV 14 (vL vs),jO 16 0 180 1 (uL b.2.1),jI 18 n,jO 22 0 180 1 (uL out),jV 24 (.int .u64 (tp:Nat)),jV 26 (.int .u64 (nx:Nat)),jI 28 k,jV 32 (.int .u64 (q:Nat)),jV 36 (.int .u64 (b.2.2.1:Nat)),jV 38 (.int .u64 (b.2.2.2:Nat)),jI 248 n,jI 250 (b.1)])
    (fun b=>b.1≤n∧b.2.1.length=m+n+1∧okL b.2.1∧b.2.1.take k=us.take k∧b.2.1.drop (k+b.1)=us.drop (k+b.1)∧b.2.2.1≤1∧b.2.2.2<4294967296∧wB ((b.2.1.drop k).take b.1)+q*wB (vs.take b.1)=wB ((us.drop k).take b.1)+4294967296 ^ b.1*(b.2.2.2+b.2.2.1))
    (fun b=>n - b.1) (0,us,0,0) (fun _=>rfl) ⟨pH _,h3,h4,rfl,rfl,by dsimp only; decide,by dsimp only; decide,by simp [wB]⟩ ⟨rfl,rfl,⟨_,rfl⟩,rfl,⟨_,rfl⟩,rfl,rfl,rfl,rfl,rfl,rfl,rfl,rfl,trivial⟩ fun ⟨i,ws,bo,ca⟩ hI=>?_
   obtain ⟨i1,i2,i3,i4,i5,i6,i7,i8⟩:=hI; dsimp only at i1 i2 i3 i4 i5 i6 i7 i8 ⊢
   have hwl:=qE ws; rcases pG i n with hi | hi
   ·have gv:=hvg i hi
    have gw:=kW ws (k+i) (by omega)
    have lv:=getD_lt vs hvok i; have lw:=getD_lt ws i3 (k+i)
    have hset:=wKD ws (k+i); have huw:us.getD (k+i) 0=ws.getD (k+i) 0:=by
     have:=congrArg (fun l=>l.getD 0 0) i5
     simpa [getD_drop] using this.symm
    have hwin:=fun d=>wIB ws k i d (by omega)
    have hut2:=qD (us.drop k) i; rw [getD_drop,huw] at hut2
    have hvt2:=hvt i; have hi5:us.drop (k+i+1)=ws.drop (k+i+1):=by
     have:=congrArg (fun l=>l.drop 1) i5
     simpa [List.drop_drop] using this.symm
    generalize ws.getD (k+i) 0=u at *; generalize vs.getD i 0=v at *
    have htk:=take_limb u q v ca bo lw hq1 lv i7 i6; have hqv:q*v≤4294967295*4294967295:=dA (by omega) (by omega)
    obtain ⟨qv,hqve⟩:∃ x,q*v=x:=⟨_,rfl⟩; have hts:=take_sum (4294967296 ^ i) _ _ _ q u v ca bo _ _ _ _ i8 (cX (q*v+ca) 4294967296).symm htk.2.2.2
    rw [hqve] at htk hts hqv; obtain ⟨p,hp⟩:∃ p,qv+ca=p:=⟨_,rfl⟩
    rw [hp] at htk hts; have hpl:p / 2 ^ 32=p / 4294967296:=rfl
    have hd0:((u+18446744073709551616 - p % 4294967296) % 18446744073709551616+18446744073709551616 - bo) % 18446744073709551616=(u+18446744073709551616 - p % 4294967296 - bo) % 18446744073709551616:=by omega
    obtain ⟨d1,hd1e⟩:∃ x,(u+18446744073709551616 - p % 4294967296) % 18446744073709551616=x:=⟨_,rfl⟩; rw [hd1e] at hd0
    obtain ⟨d,hde⟩:∃ x,(u+18446744073709551616 - p % 4294967296 - bo) % 18446744073709551616=x:=⟨_,rfl⟩; rw [hde] at hd0 htk hts
    have hdl:d<18446744073709551616:=by omega
    have hd63:d / 2 ^ 63=d / 9223372036854775808:=rfl
    repeat (first | refine wv ?_ | refine wg rfl (sX i gv) ?_ | refine wg rfl (zJ wG rfl rfl rfl (i:=k+i) (by omega) rfl rfl (by omega) rfl rfl rfl) ?_ | refine wg rfl (qP wG rfl rfl rfl gw rfl rfl rfl) ?_ | refine wg rfl (wJ0  rfl rfl rfl hqve (by omega) rfl) ?_ | refine wg rfl (yQ  rfl rfl rfl hp (by omega) rfl) ?_ | refine wg rfl (wA5 (s:=32) rfl rfl rfl rfl (by decide) hpl rfl) ?_ | refine wg rfl (k0 rfl rfl rfl rfl (nAnd32 (r:=p % 4294967296) rfl (by omega)) rfl) ?_ | refine wg rfl (wB6  rfl rfl rfl hd1e (by omega) rfl) ?_ | refine wg rfl (wB6  rfl rfl rfl hd0 (by omega) rfl) ?_ | refine wg rfl (qI wG rfl rfl rfl rfl (ew32 d) rfl) ?_ | refine wg rfl (zX wG rfl rfl rfl gw rfl rfl rfl rfl (by decide) rfl (hset _)) ?_ | refine wg rfl (wA5 (s:=63) rfl rfl rfl rfl (by decide) hd63 rfl) ?_ | refine wg rfl cT ?_ | refine wg rfl sB ?_ | refine wg rfl (qI wG rfl rfl rfl rfl (jZ (by omega) (by omega)) rfl) ?_ | refine wz ?_)
    obtain ⟨w1,w2,w3⟩:=hwin (d % 4294967296); refine ⟨(i+1,ws.set (k+i) (d % 4294967296),d / 9223372036854775808,p / 4294967296),⟨hi,by simp [i2],vA ws _ _ i3 (by omega),by rw [w1,i4],?_,htk.2.2.1,htk.2.1,?_⟩,by dsimp only; omega,rfl,rfl,⟨_,rfl⟩,rfl,⟨_,rfl⟩,rfl,rfl,rfl,rfl,rfl,rfl,rfl,rfl,trivial⟩
    ·dsimp only
     rw [← cB,w2,hi5]
    ·dsimp only
     rw [w3,hut2,hvt2,mY]; exact hts
   ·obtain rfl:i=n:=by omega
    rw [hvall] at i8; have gw:=kW ws (k+i) (by omega)
    have hset:=wKD ws (k+i); have hwk:us.getD (k+i) 0=ws.getD (k+i) 0:=by
     have:=congrArg (fun l=>l.getD 0 0) i5
     simpa [getD_drop] using this.symm
    rw [hua] at hwk; rw [← hwk] at gw
    have hi5:ws.drop (k+i+1)=us.drop (k+i+1):=by
     have:=congrArg (fun l=>l.drop 1) i5
     simpa [List.drop_drop] using this
    have hz:wB (ws.drop (k+i+1))=0:=by rw [hi5,show k+i+1=k+1+i by omega]; exact hhi
    have hWs:W=wB ((us.drop k).take i)+4294967296 ^ i*ua:=by
     rw [← hW,qQ (us.drop k) i,cC,w9 us (k+i),hua,show k+i+1=k+1+i by omega,hhi]
     simp
    have hAlt:=kU (ws.drop k) i fun x h=>i3 x (bF h)
    have hWm:=dJ W hVpos; have hround:=fun ws' hA hB=>long_round us ws' out (wB vs) (wB u0) k (W / wB vs) (by omega) hA hB (by rw [hW]) h7
    rw [hW] at hround; generalize hPn:4294967296 ^ i=Pn at *
    by_cases hc:ca+bo≤ua
    ·obtain ⟨f1,f2,f3⟩:=take_fits Pn _ _ _ W q ua ca bo hVpos (by omega) i8 hWs hq2 hc
     have s1:(ua+18446744073709551616 - ca) % 18446744073709551616=ua - ca:=by omega
     have s2:(ua - ca+18446744073709551616 - bo) % 18446744073709551616=0:=by omega
     have s3:0 / 2 ^ 63=0:=by decide
     repeat (first | refine wv ?_ | refine wg rfl (zJ wG rfl rfl rfl (i:=k+i) (by omega) rfl rfl (by omega) rfl rfl rfl) ?_ | refine wg rfl (zJ wG rfl rfl rfl (i:=k) (by omega) rfl rfl (by omega) rfl rfl rfl) ?_ | refine wg rfl (qP wG rfl rfl rfl gw rfl rfl rfl) ?_ | refine wg rfl (wB6  rfl rfl rfl s1 (by omega) rfl) ?_ | refine wg rfl (wB6  rfl rfl rfl s2 (by omega) rfl) ?_ | refine wg rfl (qI wG rfl rfl rfl rfl (ew32 0) rfl) ?_ | refine wg rfl (zX wG rfl rfl rfl gw rfl rfl rfl rfl (by decide) rfl (hset _)) ?_ | refine wg rfl (zX wG rfl rfl rfl hgk rfl rfl rfl rfl (by decide) rfl (hset0 _)) ?_ | refine wg rfl (wA5 (s:=63) rfl rfl rfl rfl (by decide) s3 rfl) ?_ | refine wg rfl cF ?_ | refine wg rfl sB ?_ | refine wg rfl (qI wG rfl rfl rfl rfl (jZ (by omega) (by omega)) rfl) ?_ | refine wg rfl (qI wG rfl rfl rfl rfl (wGE (by omega) (by omega)) rfl) ?_ | refine wz ?_)
     have hws':=(wIB ws k i 0 (by omega)).1.trans i4
     have hwe:=win_end ws k i _ 0 rfl hz (by omega)
     rw [dN,cJ,f2] at hwe; have hr2:=hround _ hws' hwe
     rw [← f1] at hr2; exact ⟨(k,_,ws.set (k+i) 0,out.set k q),⟨by dsimp only; omega,rfl,by simp [i2],vA ws _ _ i3 (by decide),by simp [h5],vA out _ _ h6 hq1,hr2,by dsimp only; rw [hwe]; exact hWm⟩,by dsimp only; omega,rfl,rfl,⟨_,rfl⟩,rfl,⟨_,rfl⟩,rfl,rfl,rfl,trivial⟩
    ·obtain ⟨f1,f2,f3⟩:=take_lent Pn _ _ _ W q ua ca bo hVpos (by omega) hAlt i8 hWs hq3 (by omega)
     obtain ⟨x1,s1⟩:∃ x,(ua+18446744073709551616 - ca) % 18446744073709551616=x:=⟨_,rfl⟩; have s2:(x1+18446744073709551616 - bo) % 18446744073709551616=18446744073709551615:=by omega
     have s3:18446744073709551615 / 2 ^ 63=1:=by decide
     have s4:Ev.ewrap .u32 ((18446744073709551615:Nat):Int)=((4294967295:Nat):Int):=by rw [ew32]
     have hset9:=hset 4294967295; obtain ⟨z1,z2,_⟩:=wIB ws k i 4294967295 (by omega)
     have z3:(ws.set (k+i) 4294967295).length=m+i+1:=by simp [i2]
     have z4:okL (ws.set (k+i) 4294967295):=vA ws _ _ i3 (by decide)
     have z5:(ws.set (k+i) 4294967295).getD (k+i) 0=4294967295:=by simp [List.getD,show k+i<ws.length by omega]
     have z6:∀ e,e<i→(ws.set (k+i) 4294967295).getD (k+e) 0=ws.getD (k+e) 0:=fun e he=>by
      simp only [List.getD]
      rw [dO (by omega)]
     rw [← z2] at hz; rw [i4] at z1
     have hqs:1≤q:=by rw [f1]; exact pF7 _ _
     have s5:Ev.ewrap .u32 (((4294967295:Nat):Int)+((1:Nat):Int))=((0:Nat):Int):=by rw [wKA]; rfl
     generalize hzs:ws.set (k+i) 4294967295=zs at *
     repeat (first | refine wv ?_ | refine wg rfl (wDG rfl rfl hqs (by omega) rfl) ?_ | refine wg rfl (zJ wG rfl rfl rfl (i:=k+i) (by omega) rfl rfl (by omega) rfl rfl rfl) ?_ | refine wg rfl (qP wG rfl rfl rfl gw rfl rfl rfl) ?_ | refine wg rfl (wB6  rfl rfl rfl s1 (by omega) rfl) ?_ | refine wg rfl (wB6  rfl rfl rfl s2 (by omega) rfl) ?_ | refine wg rfl (qI wG rfl rfl rfl rfl s4 rfl) ?_ | refine wg rfl (zX wG rfl rfl rfl gw rfl rfl rfl rfl (by decide) rfl hset9) ?_ | refine wg rfl (wA5 (s:=63) rfl rfl rfl rfl (by decide) s3 rfl) ?_ | refine wg rfl cT ?_ | refine wg rfl cF ?_ | refine wg rfl sB ?_ | refine wg rfl (qI wG rfl rfl rfl rfl (jZ (by omega) (by omega)) rfl) ?_ | refine wz ?_)
     refine wJ (fun b:Nat × List Nat × Nat=>[jI 12 s,jV 14 (vL vs),jO 16 0 180 1 (uL b.2.1),jI 18 i,jO 22 0 180 1 (uL out),jV 24 (.int .u64 (tp:Nat)),jV 26 (.int .u64 (nx:Nat)),jI 28 k,jV 32 (.int .u64 (q - 1:Nat)),jV 48 (.int .u64 (b.2.2:Nat)),jI 368 i,jI 370 (b.1)])
      (fun b=>b.1≤i∧b.2.1.length=m+i+1∧okL b.2.1∧b.2.1.take k=us.take k∧b.2.1.drop (k+b.1)=zs.drop (k+b.1)∧b.2.2≤1∧wB ((b.2.1.drop k).take b.1)+4294967296 ^ b.1*b.2.2=wB ((ws.drop k).take b.1)+wB (vs.take b.1))
      (fun b=>i - b.1) (0,zs,0) (fun _=>rfl) ⟨pH _,z3,z4,z1,rfl,by dsimp only; decide,by simp [wB]⟩ ⟨rfl,rfl,⟨_,rfl⟩,rfl,⟨_,rfl⟩,rfl,rfl,rfl,rfl,rfl,rfl,rfl,trivial⟩ fun ⟨e,rs,c⟩ hI=>?_
     obtain ⟨e1,e2,e3,e4,e5,e6,e7⟩:=hI; dsimp only at e1 e2 e3 e4 e5 e6 e7 ⊢
     have hrl:=qE rs; rcases pG e i with he | he
     ·have gv:=hvg e he
      have gr:=kW rs (k+e) (by omega)
      have lv:=getD_lt vs hvok e; have lr:=getD_lt rs e3 (k+e)
      have hsetr:=wKD rs (k+e); have hur:ws.getD (k+e) 0=rs.getD (k+e) 0:=by
       rw [← z6 e he]; have:=congrArg (fun l=>l.getD 0 0) e5
       simpa [getD_drop] using this.symm
      have hut3:=qD (ws.drop k) e; rw [getD_drop,hur] at hut3
      have hvt3:=hvt e; have he5:zs.drop (k+e+1)=rs.drop (k+e+1):=by
       have:=congrArg (fun l=>l.drop 1) e5
       simpa [List.drop_drop] using this.symm
      generalize rs.getD (k+e) 0=u at *; generalize vs.getD e 0=v at *
      have hbs:=back_step (4294967296 ^ e) _ _ _ c u v e7; obtain ⟨sm,hsm⟩:∃ x,u+v+c=x:=⟨_,rfl⟩
      rw [hsm] at hbs; have hs32:sm / 2 ^ 32=sm / 4294967296:=rfl
      obtain ⟨w1,w2,w3⟩:=wIB rs k e (sm % 4294967296) (by omega)
      repeat (first | refine wv ?_ | refine wg rfl (sX e gv) ?_ | refine wg rfl (zJ wG rfl rfl rfl (i:=k+e) (by omega) rfl rfl (by omega) rfl rfl rfl) ?_ | refine wg rfl (qP wG rfl rfl rfl gr rfl rfl rfl) ?_ | refine wg rfl (yQ  rfl rfl rfl hsm (by omega) rfl) ?_ | refine wg rfl (yQ (a:=u) (b:=v) (r:=u+v) rfl rfl rfl rfl (by omega) rfl) ?_ | refine wg rfl (qI wG rfl rfl rfl rfl (ew32 sm) rfl) ?_ | refine wg rfl (zX wG rfl rfl rfl gr rfl rfl rfl rfl (by decide) rfl (hsetr _)) ?_ | refine wg rfl (wA5 (s:=32) rfl rfl rfl rfl (by decide) hs32 rfl) ?_ | refine wg rfl cT ?_ | refine wg rfl sB ?_ | refine wg rfl (qI wG rfl rfl rfl rfl (jZ (by omega) (by omega)) rfl) ?_ | refine wz ?_)
      refine ⟨(e+1,rs.set (k+e) (sm % 4294967296),sm / 4294967296),⟨he,by simp [e2],vA rs _ _ e3 (by omega),by rw [w1,e4],?_,by dsimp only; omega,?_⟩,by dsimp only; omega,rfl,rfl,⟨_,rfl⟩,rfl,⟨_,rfl⟩,rfl,rfl,rfl,rfl,rfl,rfl,rfl,trivial⟩
      ·dsimp only
       rw [← cB,w2,he5]
      ·dsimp only
       rw [w3,hut3,hvt3,mY]; exact hbs
     ·obtain rfl:e=i:=by omega
      rw [hvall,hPn] at e7; have hRlt:=kU (rs.drop k) e fun x h=>e3 x (bF h)
      rw [hPn] at hRlt; obtain ⟨rfl,hR⟩:=back_end Pn _ _ _ _ c e7 f3 hRlt (by omega)
      have gr:=kW rs (k+e) (by omega)
      have hur:rs.getD (k+e) 0=4294967295:=by
       rw [← z5]; have:=congrArg (fun l=>l.getD 0 0) e5
       simpa [getD_drop] using this
      rw [hur] at gr; have hz9:wB (rs.drop (k+e+1))=0:=by
       rw [← hz]; have:=congrArg (fun l=>l.drop 1) e5
       simp only [List.drop_drop] at this
       rw [this]
      have hset8:=wKD rs (k+e) 0; have hws':=(wIB rs k e 0 (by omega)).1.trans e4
      have hwe:=win_end rs k e _ 0 hR hz9 (by omega)
      rw [dN,cJ] at hwe; have hr2:=hround _ hws' hwe
      rw [show W / wB vs=q - 1 by omega] at hr2
      repeat (first | refine wv ?_ | refine wg rfl (zJ wG rfl rfl rfl (i:=k+e) (by omega) rfl rfl (by omega) rfl rfl rfl) ?_ | refine wg rfl (zJ wG rfl rfl rfl (i:=k) (by omega) rfl rfl (by omega) rfl rfl rfl) ?_ | refine wg rfl (qP wG rfl rfl rfl gr rfl rfl rfl) ?_ | refine wg rfl (k0 rfl rfl rfl rfl s5 rfl) ?_ | refine wg rfl (zX wG rfl rfl rfl gr rfl rfl rfl rfl (by decide) rfl hset8) ?_ | refine wg rfl (zX wG rfl rfl rfl hgk rfl rfl rfl rfl (by decide) rfl (hset0 _)) ?_ | refine wg rfl cF ?_ | refine wg rfl sB ?_ | refine wg rfl (qI wG rfl rfl rfl rfl (wGE (by omega) (by omega)) rfl) ?_ | refine wz ?_)
      exact ⟨(k,_,rs.set (k+e) 0,out.set k (q - 1)),⟨by dsimp only; omega,rfl,by simp [e2],vA rs _ _ e3 (by decide),by simp [h5],vA out _ _ h6 (by omega),hr2,by dsimp only; rw [hwe]; exact hWm⟩,by dsimp only; omega,rfl,rfl,⟨_,rfl⟩,rfl,⟨_,rfl⟩,rfl,rfl,rfl,trivial⟩
end Go.Proofs.YtkjhfnhgefbhhaaGreat
/- nat.Div, nat.Gcd, told of trees. -/
namespace Go.Proofs.YtkjhfnhgefbhhaaGreat
open Go.RowKit Go.Ev Go.Vl
theorem wTG (n:Nat):qG (toL n)=toL n:=by rw [qT _ (zE n),wM]
theorem jU (n:Nat) (h:0<n):0<(toL n).length:=by
 rcases mF (toL n).length with h0 | h0
 ·have:=(wIG n).1 (mK h0)
  omega
 ·exact h0
theorem toL_top (n:Nat) (h:0<n):0<(toL n).getD ((toL n).length - 1) 0:=by
 have h1:=wTG n; have h2:=jU n h
 generalize toL n=xs at *; rcases List.eq_nil_or_concat xs with rfl | ⟨zs,x,rfl⟩
 ·simp at h2
 ·simp only [List.concat_eq_append] at *
  simp only [List.length_append,List.length_singleton,Nat.add_sub_cancel,List.getD]
  rcases mF x with rfl | h3
  ·rw [xK] at h1
   have:=kK zs; rw [h1] at this
   simp only [List.length_append,List.length_singleton] at this
   omega
  ·simpa using h3
theorem div_v (xs ys:List Nat) (hx:okL xs) (hy:okL ys) (hl:xs.length≤8796093022208) (hl2:ys.length≤8796093022208) (hp:0<wB ys):wD Tryz.prog 253 [vL xs,vL ys] (fun y=>y=.tup [vN (wB xs / wB ys),vN (wB xs % wB ys),.int .i64 0]):=by
 refine wC wG Tryz.func253 rfl rfl rfl rfl fun w0=>?_
 have hta:=qBJ xs (by omega)
 have htb:=qBJ ys (by omega)
 have la:=kK xs; have lb:=kK ys
 rw [qT xs hx] at hta la; rw [qT ys hy] at htb lb
 generalize wB xs=A at *; generalize wB ys=B at *
 have hpos:=jU B hp; have hcmp:=wNA (toL A) (toL B) (zE A) (zE B) (by omega) (by omega)
 have hown:=wR9 (toL A) (zE A) (by omega)
 rw [wM] at hown; simp only [wM] at hcmp
 by_cases hlt:A<B
 ·have hc:kA A B = -1:=by unfold kA; rw [if_pos hlt]
  rw [hc] at hcmp
  repeat (first | refine wg rfl (sL (qE _)) ?_ | refine wv ?_ | refine wg rfl cT ?_ | refine wg rfl cF ?_ | refine wc hta ?_ | refine wc htb ?_ | refine wc hcmp ?_ | refine wc hown ?_ | refine wz ?_)
  refine ⟨.inl rfl,_,rfl,?_⟩
  rw [pE5 hlt,cA hlt]
  simp [vN,(wIG 0).2 rfl,vL,uL]
 ·have hc:0≤kA A B:=by unfold kA; rw [if_neg hlt]; split <;> decide
  generalize kA A B=cm at *
  by_cases h1:(toL B).length=1
  ·have hB:toL B=[B]:=by
    have h2:=wM B; obtain ⟨b,hb⟩:=List.length_eq_one_iff.1 h1
    rw [hb] at h2 ⊢; simp only [wB] at h2
    have:b=B:=by omega
    rw [this]
   have hB2:B<4294967296:=zE B B (by rw [hB]; exact pL.2 rfl)
   have hg:=kW (toL B) 0 (by omega)
   have hgB:(toL B).getD 0 0=B:=by rw [hB]; rfl
   rw [hgB] at hg; have hsh:=short_v (toL A) B (zE A) (by omega) hp hB2
   rw [wM] at hsh; have hm:=dJ A hp
   obtain ⟨r,hr⟩:∃ r,A % B=r:=⟨_,rfl⟩; rw [hr] at hsh hm
   have hof:=natOf_v r (by omega)
   repeat (first | refine wg rfl (sL (qE _)) ?_ | refine wv ?_ | refine wg rfl cT ?_ | refine wg rfl cF ?_ | refine wg rfl (qI wG rfl rfl rfl rfl (jZ (by omega) (by omega)) rfl) ?_ | refine wc hta ?_ | refine wc htb ?_ | refine wc hcmp ?_ | refine wg rfl (sX 0 hg) ?_ | refine wc hsh ?_ | refine wc hof ?_ | refine wz ?_)
   refine ⟨.inl rfl,_,rfl,?_⟩
   rw [hr]
  ·have hle:=qC (Nat.not_lt.1 hlt)
   have hlg:=long_vc (toL A) (toL B) (toL B).length ((toL A).length - (toL B).length) (zE A) (zE B) (by omega) (wTG A) (wTG B) (by omega) rfl (toL_top B hp) (by omega)
   simp only [wM] at hlg
   repeat (first | refine wg rfl (sL (qE _)) ?_ | refine wv ?_ | refine wg rfl cF ?_ | refine wc hta ?_ | refine wc htb ?_ | refine wc hcmp ?_ | refine wc hlg ?_ | refine wz ?_)
   exact ⟨.inl rfl,_,rfl,rfl⟩
theorem gcd_v (xs ys:List Nat) (hx:okL xs) (hy:okL ys) (hl:xs.length≤8796093022208) (hl2:ys.length≤8796093022208):wD Tryz.prog 270 [vL xs,vL ys] (fun y=>y=vN (Nat.gcd (wB xs) (wB ys))):=by
 refine wC wG Tryz.func270 rfl rfl rfl rfl fun w0=>?_
 have ha:=wR9 xs hx (by omega)
 have hb:=wR9 ys hy (by omega)
 have la:=kK xs; have lb:=kK ys
 rw [qT xs hx] at la; rw [qT ys hy] at lb
 generalize wB xs=A at *; generalize wB ys=B at *
 repeat (first | refine wv ?_ | refine wc ha ?_ | refine wc hb ?_ | refine wz ?_)
 refine wJ (fun b:Nat × Nat=>[jV 0 (vN b.1),jV 2 (vN b.2)])
  (fun b=>(toL b.1).length≤8796093022208∧(toL b.2).length≤8796093022208∧Nat.gcd b.1 b.2=Nat.gcd A B) (fun b=>b.2) (A,B) (fun _=>rfl) ⟨by dsimp only; omega,by dsimp only; omega,rfl⟩ ⟨rfl,rfl,trivial⟩ fun ⟨a,b⟩ hI=>?_
 obtain ⟨h1,h2,h3⟩:=hI; dsimp only at h1 h2 h3 ⊢
 rcases mF b with rfl | hb0
 ·have hz:(toL 0).length=0:=by rw [(wIG 0).2 rfl]; rfl
  have hown:=wR9 (toL a) (zE a) (by omega)
  rw [wM] at hown
  repeat (first | refine wg rfl (sL (qE _)) ?_ | refine wv ?_ | refine wg rfl cF ?_ | refine wc hown ?_ | refine wz ?_)
  refine ⟨.inl rfl,_,rfl,?_⟩
  rw [← h3,pD8]
 ·have hpos:=jU b hb0
  have hd:=div_v (toL a) (toL b) (zE a) (zE b) h1 h2 (by rw [wM]; exact hb0)
  simp only [wM] at hd
  repeat (first | refine wg rfl (sL (qE _)) ?_ | refine wv ?_ | refine wg rfl cT ?_ | refine wc hd ?_ | refine wz ?_)
  have hm:=dJ a hb0; have hmono:=qC (bX hm)
  refine ⟨(b,a % b),⟨h2,by dsimp only; omega,?_⟩,hm,rfl,rfl,trivial⟩
  dsimp only; rw [← h3,fK b,← Nat.gcd_rec,fK]
end Go.Proofs.YtkjhfnhgefbhhaaGreat
/- zint, told of trees. -/
namespace Go.Proofs.YtkjhfnhgefbhhaaGreat
open Go.RowKit Go.Ev Go.Vl
abbrev ZZ:=Bool × List Nat
def vI (z:ZZ):V:=.agg [.bool z.1,vL z.2]
def intOf (z:ZZ):Int:=if z.1 then -(wB z.2:Int) else wB z.2
def zn (x:Int):ZZ:=(decide (x<0),toL x.natAbs)
def nI (x:Int):V:=vI (zn x)
def okZ (z:ZZ):Prop:=okL z.2∧z.2.length≤1099511627776
theorem wE (x:Int):intOf (zn x)=x:=by
 unfold intOf zn; rw [wM]
 by_cases h:x<0
 ·simp [h]; omega
 ·simp [h]; omega
def sgn (x:Int):Int:=if x<0 then -1 else if 0<x then 1 else 0
theorem kF (z:ZZ):(intOf z).natAbs=wB z.2:=by
 unfold intOf
 split <;> omega
theorem nI_of (b:Bool) (m:Nat):V.agg [.bool (if b=true then decide ((0:Int)<((toL m).length:Nat)) else false),vN m]=nI (if b then -(m:Int) else m):=by
 unfold nI vI zn vN; have h:=wIG m
 have hm:(if b then -(m:Int) else (m:Int)).natAbs=m:=by split <;> omega
 rw [hm]
 congr 2
 cases b with
 | false=>simp
 | true =>
  simp only [if_true]
  congr 1
  rcases mF m with rfl | hp
  ·simp [h.2 rfl]
  ·have:=jU m hp
   simp; omega
theorem lenN_zero:wHG 0=0:=rfl
theorem lenN_pos (n:Nat) (h:0<n):0<wHG n:=by
 unfold wHG; rw [if_neg (by omega)]
 obtain ⟨L,h1,h2,_⟩:=qA0 _ (toL_top n h) (getD_lt _ (zE n) _); omega
theorem yE (b:Bool) (m:Nat):wD Tryz.prog 175 [.bool b,vN m] (fun y=>y=nI (if b then -(m:Int) else m)):=by
 rw [← nI_of]; refine wC wG Tryz.func175 rfl rfl rfl rfl fun w0=>?_
 cases b with
 | true =>
  rcases mF (toL m).length with h0 | h0
  ·repeat (first | refine wg rfl (sL (qE _)) ?_ | refine wv ?_ | refine wg rfl cF ?_ | refine wz ?_)
   refine ⟨.inl rfl,_,rfl,?_⟩
   show V.agg [.bool false,vN m]=_
   simp [h0]
  ·repeat (first | refine wg rfl (sL (qE _)) ?_ | refine wv ?_ | refine wg rfl cT ?_ | refine wz ?_)
   refine ⟨.inl rfl,_,rfl,?_⟩
   show V.agg [.bool true,vN m]=_
   rw [if_pos rfl,decide_eq_true (by omega)]
 | false =>
  repeat (first | refine wv ?_ | refine kZ rfl rfl rfl rfl rfl rfl ?_ | refine wz ?_)
  exact ⟨.inl rfl,_,rfl,rfl⟩
theorem zabs_v (z:ZZ) (h:okZ z):wD Tryz.prog 173 [vI z] (fun y=>y=nI (wB z.2)):=by
 refine wC wG Tryz.func173 rfl rfl rfl rfl fun w0=>?_
 obtain ⟨b,l⟩:=z; obtain ⟨h1,h2⟩:=h
 dsimp only at h1 h2; have q1:=wZH l h1 (by omega)
 have q2:=yE false (wB l)
 repeat (first | refine wv ?_ | refine wc q1 ?_ | refine wc q2 ?_ | refine wz ?_)
 exact ⟨.inl rfl,_,rfl,rfl⟩
theorem vH (z:ZZ) (h:okZ z):wD Tryz.prog 131 [vI z] (fun y=>y=.int .i64 (sgn (intOf z))):=by
 refine wC wG Tryz.func131 rfl rfl rfl rfl fun w0=>?_
 obtain ⟨b,l⟩:=z; obtain ⟨h1,h2⟩:=h
 dsimp only at h1 h2; have q1:=wV5 l h1 (by omega)
 rcases mF (wB l) with h0 | h0
 ·have e:sgn (intOf (b,l))=0:=by unfold sgn intOf; rw [h0]; cases b <;> rfl
  rw [h0,lenN_zero] at q1; rw [e]
  repeat (first | refine wv ?_ | refine wg rfl cT ?_ | refine wc q1 ?_ | refine wz ?_)
  exact ⟨.inl rfl,_,rfl,rfl⟩
 ·have hp:=lenN_pos _ h0
  cases b with
  | true =>
   have e:sgn (intOf (true,l)) = -1:=by unfold sgn intOf; rw [if_pos rfl,if_pos (by dsimp only; omega)]
   rw [e]
   repeat (first | refine wv ?_ | refine wg rfl cF ?_ | refine wc q1 ?_ | refine wz ?_)
   exact ⟨.inl rfl,_,rfl,rfl⟩
  | false =>
   have e:sgn (intOf (false,l))=1:=by unfold sgn intOf; simp; omega
   rw [e]
   repeat (first | refine wv ?_ | refine wg rfl cF ?_ | refine wc q1 ?_ | refine wz ?_)
   exact ⟨.inl rfl,_,rfl,rfl⟩
theorem qB8 (z:ZZ) (h:okZ z):wD Tryz.prog 174 [vI z] (fun y=>y=nI (-intOf z)):=by
 refine wC wG Tryz.func174 rfl rfl rfl rfl fun w0=>?_
 have q0:=vH z h; obtain ⟨b,l⟩:=z
 obtain ⟨h1,h2⟩:=h; dsimp only at h1 h2
 have habs:(intOf (b,l)).natAbs=wB l:=kF (b,l); have q1:=wZH l h1 (by omega)
 generalize hx:intOf (b,l)=x at *; generalize wB l=n at *
 by_cases hp:0<x
 ·have e:sgn x=1:=by unfold sgn; rw [if_neg (by omega),if_pos hp]
  have q2:=yE true n; rw [e] at q0
  repeat (first | refine wv ?_ | refine wg rfl cT ?_ | refine wc q0 ?_ | refine wc q1 ?_ | refine wc q2 ?_ | refine wz ?_)
  refine ⟨.inl rfl,_,rfl,?_⟩
  have e2:-(n:Int) = -x:=by omega
  show nI (-(n:Int))=nI (-x)
  rw [e2]
 ·have e:sgn x≤0:=by unfold sgn; split <;> omega
  have q2:=yE false n; generalize sgn x=sx at *
  repeat (first | refine wv ?_ | refine wg rfl cF ?_ | refine wc q0 ?_ | refine wc q1 ?_ | refine wc q2 ?_ | refine wz ?_)
  refine ⟨.inl rfl,_,rfl,?_⟩
  have e2:(n:Int) = -x:=by omega
  show nI (n:Int)=nI (-x)
  rw [e2]
def joinI (a b:ZZ):Int:=if wB a.2<wB b.2 then (if b.1 then -((wB b.2 - wB a.2:Nat):Int) else ((wB b.2 - wB a.2:Nat):Int)) else (if a.1 then -((wB a.2 - wB b.2:Nat):Int) else ((wB a.2 - wB b.2:Nat):Int))
theorem qA1 (a b:ZZ) (h:a.1≠b.1):joinI a b=intOf a+intOf b:=by
 obtain ⟨x,l⟩:=a; obtain ⟨y,m⟩:=b
 unfold joinI intOf; dsimp only at h ⊢
 cases x <;> cases y <;> simp at h ⊢ <;> split <;> omega
theorem joined_v (a b:ZZ) (ha:okZ a) (hb:okZ b):wD Tryz.prog 178 [vI a,vI b] (fun y=>y=nI (joinI a b)):=by
 refine wC wG Tryz.func178 rfl rfl rfl rfl fun w0=>?_
 obtain ⟨x,l⟩:=a; obtain ⟨y,m⟩:=b
 obtain ⟨h1,h2⟩:=ha; obtain ⟨h3,h4⟩:=hb
 dsimp only at h1 h2 h3 h4; have q1:=wNA l m h1 h3 (by omega) (by omega)
 unfold joinI; dsimp only
 by_cases hlt:wB l<wB m
 ·have hc:kA (wB l) (wB m) = -1:=by unfold kA; rw [if_pos hlt]
  have q2:=qGE m l h3 h1 (by omega) (by omega) (by omega)
  have q3:=yE y (wB m - wB l); rw [hc] at q1
  rw [if_pos hlt]
  repeat (first | refine wv ?_ | refine wg rfl cT ?_ | refine wc q1 ?_ | refine wc q2 ?_ | refine wc q3 ?_ | refine wz ?_)
  exact ⟨.inl rfl,_,rfl,rfl⟩
 ·have hc:0≤kA (wB l) (wB m):=by unfold kA; rw [if_neg hlt]; split <;> decide
  have q2:=qGE l m h1 h3 (by omega) (by omega) (by omega)
  have q3:=yE x (wB l - wB m); rw [if_neg hlt]
  generalize kA (wB l) (wB m)=cm at *
  repeat (first | refine wv ?_ | refine wg rfl cF ?_ | refine wc q1 ?_ | refine wc q2 ?_ | refine wc q3 ?_ | refine wz ?_)
  exact ⟨.inl rfl,_,rfl,rfl⟩
theorem zadd_v (a b:ZZ) (ha:okZ a) (hb:okZ b):wD Tryz.prog 117 [vI a,vI b] (fun y=>y=nI (intOf a+intOf b)):=by
 refine wC wG Tryz.func117 rfl rfl rfl rfl fun w0=>?_
 have q3:=joined_v a b ha hb; have hj:=qA1 a b
 obtain ⟨x,l⟩:=a; obtain ⟨y,m⟩:=b
 obtain ⟨h1,h2⟩:=ha; obtain ⟨h3,h4⟩:=hb
 dsimp only at h1 h2 h3 h4 hj; have q1:=natAdd_v l m h1 h3 (by omega) (by omega)
 have q2:=yE x (wB l+wB m); have e:intOf (x,l)+intOf (x,m)=if x then -((wB l+wB m:Nat):Int) else ((wB l+wB m:Nat):Int):=by
  unfold intOf; cases x <;> simp <;> omega
 cases x <;> cases y
 ·repeat (first | refine wv ?_ | refine wg rfl (jD wG rfl rfl rfl rfl (.inl ⟨rfl,rfl⟩) rfl) ?_ | refine wc q1 ?_ | refine wc q2 ?_ | refine wz ?_)
  refine ⟨.inl rfl,_,rfl,?_⟩
  rw [e]; exact rfl
 ·repeat (first | refine wv ?_ | refine wg rfl (jD wG rfl rfl rfl rfl (.inl ⟨rfl,rfl⟩) rfl) ?_ | refine wc q3 ?_ | refine wz ?_)
  refine ⟨.inl rfl,_,rfl,?_⟩
  rw [← hj (by decide)]
  exact rfl
 ·repeat (first | refine wv ?_ | refine wg rfl (jD wG rfl rfl rfl rfl (.inl ⟨rfl,rfl⟩) rfl) ?_ | refine wc q3 ?_ | refine wz ?_)
  refine ⟨.inl rfl,_,rfl,?_⟩
  rw [← hj (by decide)]
  exact rfl
 ·repeat (first | refine wv ?_ | refine wg rfl (jD wG rfl rfl rfl rfl (.inl ⟨rfl,rfl⟩) rfl) ?_ | refine wc q1 ?_ | refine wc q2 ?_ | refine wz ?_)
  refine ⟨.inl rfl,_,rfl,?_⟩
  rw [e]; exact rfl
theorem qA3 (x y:Bool) (l m:List Nat):intOf (x,l)*intOf (y,m)=if x != y then -((wB l*wB m:Nat):Int) else ((wB l*wB m:Nat):Int):=by
 unfold intOf; cases x <;> cases y <;> simp [Int.neg_mul,Int.mul_neg]
theorem xL (a b:ZZ) (ha:okZ a) (hb:okZ b):wD Tryz.prog 114 [vI a,vI b] (fun y=>y=nI (intOf a*intOf b)):=by
 refine wC wG Tryz.func114 rfl rfl rfl rfl fun w0=>?_
 obtain ⟨x,l⟩:=a; obtain ⟨y,m⟩:=b
 obtain ⟨h1,h2⟩:=ha; obtain ⟨h3,h4⟩:=hb
 dsimp only at h1 h2 h3 h4; have q1:=natMul_v l m h1 h3 (by omega) (by omega)
 have q2:=yE (x != y) (wB l*wB m); rw [qA3]
 cases x <;> cases y
 all_goals
  repeat (first | refine wv ?_ | refine wg rfl (jD wG rfl rfl rfl rfl (.inr ⟨rfl,rfl⟩) rfl) ?_ | refine wc q1 ?_ | refine wc q2 ?_ | refine wz ?_)
  exact ⟨.inl rfl,_,rfl,rfl⟩
theorem wFG (x:Int) (h:(toL x.natAbs).length≤1099511627776):okZ (zn x):=⟨zE _,h⟩
theorem wQ6 (z:ZZ) (h:okZ z):(toL (intOf z).natAbs).length≤z.2.length:=by rw [kF]; exact vJ z.2 h.1
theorem wE0 (z:ZZ) (h:okZ z):okZ (zn (intOf z)):=wFG _ (pC (wQ6 z h) h.2)
theorem wN4 (z:ZZ) (h:okZ z):okZ (zn (-intOf z)):=wFG _ (by rw [Int.natAbs_neg]; exact pC (wQ6 z h) h.2)
theorem zsub_v (a b:ZZ) (ha:okZ a) (hb:okZ b):wD Tryz.prog 273 [vI a,vI b] (fun y=>y=nI (intOf a - intOf b)):=by
 refine wC wG Tryz.func273 rfl rfl rfl rfl fun w0=>?_
 have q1:=qB8 b hb; have q2:=zadd_v a (zn (-intOf b)) ha (wN4 b hb)
 rw [wE] at q2; obtain ⟨x,l⟩:=a
 obtain ⟨y,m⟩:=b
 repeat (first | refine wv ?_ | refine wc q1 ?_ | refine wc q2 ?_ | refine wz ?_)
 exact ⟨.inl rfl,_,rfl,rfl⟩
def cmpI (a b:Int):Int:=if a<b then -1 else if b<a then 1 else 0
theorem wT4 (a b:Int):(a<b∧cmpI a b = -1)∨(b<a∧cmpI a b=1)∨(a=b∧cmpI a b=0):=by
 unfold cmpI
 repeat' split
 all_goals omega
theorem cmpN_is (a b:Nat):(a<b∧kA a b = -1)∨(b<a∧kA a b=1)∨(a=b∧kA a b=0):=by
 unfold kA
 repeat' split
 all_goals omega
theorem xN (x:Int):(x<0∧sgn x = -1)∨(x=0∧sgn x=0)∨(0<x∧sgn x=1):=by
 unfold sgn
 repeat' split
 all_goals omega
theorem zcmp_v (a b:ZZ) (ha:okZ a) (hb:okZ b):wD Tryz.prog 79 [vI a,vI b] (fun y=>y=.int .i64 (cmpI (intOf a) (intOf b))):=by
 refine wC wG Tryz.func79 rfl rfl rfl rfl fun w0=>?_
 have q1:=vH a ha; have q2:=vH b hb
 have e1:=kF a; have e2:=kF b
 obtain ⟨x,l⟩:=a; obtain ⟨y,m⟩:=b
 obtain ⟨h1,h2⟩:=ha; obtain ⟨h3,h4⟩:=hb
 dsimp only at h1 h2 h3 h4 e1 e2; have q3:=wNA l m h1 h3 (by omega) (by omega)
 have q4:=wNA m l h3 h1 (by omega) (by omega)
 have f1:=xN (intOf (x,l)); have f2:=xN (intOf (y,m))
 have ec:=cmpN_is (wB l) (wB m); have ec2:=cmpN_is (wB m) (wB l)
 have ei:=wT4 (intOf (x,l)) (intOf (y,m)); obtain ⟨X,hX⟩:∃ X,intOf (x,l)=X:=⟨_,rfl⟩
 obtain ⟨Y,hY⟩:∃ Y,intOf (y,m)=Y:=⟨_,rfl⟩; rw [hX] at q1 e1 f1
 rw [hY] at q2 e2 f2; rw [hX,hY] at ei
 rw [hX,hY]; generalize cmpI X Y=ci at *
 generalize sgn X=sx at *; generalize sgn Y=sy at *
 generalize kA (wB l) (wB m)=c1 at *; generalize kA (wB m) (wB l)=c2 at *
 have fin:∀ {u v:Int},u=v→V.int .i64 u=V.int .i64 v:=fun h=>by rw [h]
 by_cases hne:sx=sy
 ·by_cases hn:sx<0
  ·repeat (first | refine wv ?_ | refine wg rfl cT ?_ | refine wg rfl nF ?_ | refine wc q1 ?_ | refine wc q2 ?_ | refine wc q4 ?_ | refine wz ?_)
   refine ⟨.inl rfl,_,rfl,fin ?_⟩
   omega
  ·repeat (first | refine wv ?_ | refine wg rfl cF ?_ | refine wg rfl nF ?_ | refine wc q1 ?_ | refine wc q2 ?_ | refine wc q3 ?_ | refine wz ?_)
   refine ⟨.inl rfl,_,rfl,fin ?_⟩
   omega
 ·by_cases hn:sx<sy
  ·repeat (first | refine wv ?_ | refine wg rfl cT ?_ | refine wg rfl nT ?_ | refine wc q1 ?_ | refine wc q2 ?_ | refine wz ?_)
   refine ⟨.inl rfl,_,rfl,fin ?_⟩
   omega
  ·repeat (first | refine wv ?_ | refine wg rfl cF ?_ | refine wg rfl nT ?_ | refine wc q1 ?_ | refine wc q2 ?_ | refine wz ?_)
   refine ⟨.inl rfl,_,rfl,fin ?_⟩
   omega
theorem wVH (x y:Bool) (l m:List Nat):(intOf (x,l)).tdiv (intOf (y,m))=if x != y then -((wB l / wB m:Nat):Int) else ((wB l / wB m:Nat):Int):=by
 have h:∀ a b:Nat,(a:Int).tdiv (b:Int)=((a / b:Nat):Int):=fun a b=>rfl
 unfold intOf; cases x <;> cases y <;> simp [Int.neg_tdiv,Int.tdiv_neg,h]
theorem intOf_tmod (x y:Bool) (l m:List Nat):(intOf (x,l)).tmod (intOf (y,m))=if x then -((wB l % wB m:Nat):Int) else ((wB l % wB m:Nat):Int):=by
 have h:∀ a b:Nat,(a:Int).tmod (b:Int)=((a % b:Nat):Int):=fun a b=>rfl
 unfold intOf; cases x <;> cases y <;> simp [Int.neg_tmod,Int.tmod_neg,h]
theorem ztrunc_v (a b:ZZ) (ha:okZ a) (hb:okZ b) (h0:intOf b≠0):wD Tryz.prog 205 [vI a,vI b] (fun y=>y=.tup [nI ((intOf a).tdiv (intOf b)),nI ((intOf a).tmod (intOf b)),.int .i64 0]):=by
 refine wC wG Tryz.func205 rfl rfl rfl rfl fun w0=>?_
 have e2:=kF b; obtain ⟨x,l⟩:=a
 obtain ⟨y,m⟩:=b; obtain ⟨h1,h2⟩:=ha
 obtain ⟨h3,h4⟩:=hb; dsimp only at h1 h2 h3 h4 e2
 have q1:=div_v l m h1 h3 (by omega) (by omega) (by omega)
 have q2:=yE (x != y) (wB l / wB m); have q3:=yE x (wB l % wB m)
 rw [wVH,intOf_tmod]; cases x <;> cases y
 all_goals
  repeat (first | refine wv ?_ | refine wg rfl nF ?_ | refine wg rfl (jD wG rfl rfl rfl rfl (.inr ⟨rfl,rfl⟩) rfl) ?_ | refine wc q1 ?_ | refine wc q2 ?_ | refine wc q3 ?_ | refine wz ?_)
  exact ⟨.inl rfl,_,rfl,rfl⟩
theorem x6 (a b:ZZ) (ha:okZ a) (hb:okZ b) (h0:intOf b≠0) (hd:intOf b∣intOf a):wD Tryz.prog 140 [vI a,vI b] (fun y=>y=.tup [nI ((intOf a).tdiv (intOf b)),.int .i64 0]):=by
 refine wC wG Tryz.func140 rfl rfl rfl rfl fun w0=>?_
 have q1:=ztrunc_v a b ha hb h0; have q2:=vH (zn 0) (wFG 0 (by simp [qB]))
 rw [Int.tmod_eq_zero_of_dvd hd] at q1; rw [wE] at q2
 obtain ⟨x,l⟩:=a; obtain ⟨y,m⟩:=b
 repeat (first | refine wv ?_ | refine wg rfl cT ?_ | refine wg rfl (j0 rfl rfl rfl rfl (rfl) rfl) ?_ | refine wc q1 ?_ | refine wc q2 ?_ | refine wz ?_)
 exact ⟨.inl rfl,_,rfl,rfl⟩
theorem zgcd1_v (a b:ZZ) (ha:okZ a) (hb:okZ b):wD Tryz.prog 227 [vI a,vI b] (fun y=>y=nI (Int.gcd (intOf a) (intOf b))):=by
 refine wC wG Tryz.func227 rfl rfl rfl rfl fun w0=>?_
 have e1:=kF a; have e2:=kF b
 obtain ⟨x,l⟩:=a; obtain ⟨y,m⟩:=b
 obtain ⟨h1,h2⟩:=ha; obtain ⟨h3,h4⟩:=hb
 dsimp only at h1 h2 h3 h4 e1 e2; have q1:=gcd_v l m h1 h3 (by omega) (by omega)
 have q2:=yE false (Nat.gcd (wB l) (wB m)); have e3:Int.gcd (intOf (x,l)) (intOf (y,m))=Nat.gcd (wB l) (wB m):=by unfold Int.gcd; rw [e1,e2]
 rw [e3]
 repeat (first | refine wv ?_ | refine wc q1 ?_ | refine wc q2 ?_ | refine wz ?_)
 exact ⟨.inl rfl,_,rfl,rfl⟩
end Go.Proofs.YtkjhfnhgefbhhaaGreat
