/- simileref01's Mul, Div: what they hand back. -/
import Derived.Test.YtkjhfnhgefbhhaaGreatCf09
import Derived.Deep.RegionWith
import Derived.Test.YtkjhfnhgefbhhaaGreatCf08
import Derived.Laws.BitsAllLaws
set_option linter.all false
set_option maxRecDepth 20000
set_option maxHeartbeats 6400000
namespace Go.Proofs.YtkjhfnhgefbhhaaGreat
open Go.RowKit
theorem mul01_any (lo h1 lo2 h12:Nat) (v v2:Value) (xs ys:List Nat) (w:World) (h:wO lo h1 w v xs) (h2:wO lo2 h12 w v2 ys) (hhi2:h12≤w.heap.size) (hl:xs.length≤4398046511104) (hl2:ys.length≤4398046511104) :
  Calls Tryz.prog 198 #[v,v2] w fun e w'=>∃ r,e=.returned r∧wO w.heap.size w'.heap.size w' r (toL (wB xs*wB ys))∧Below w.heap.size w w':=by
 have q1:=zY _ _ _ _ _ h (by omega)
 have Q1:=hid q1; clear q1
 go_enter Tryz.func198,Tryz.ntmps198
 go_wp2_with fail
 refine Q1.out.mono ?_
 rintro e w1 ⟨r1,rfl,hr1,hb1⟩
 have q2:=zY _ _ _ _ _ (h2.below hb1 hhi2) (by omega)
 have Q2:=hid q2; clear q2
 go_wp2_with fail
 refine Q2.out.mono ?_
 rintro e w2 ⟨r2,rfl,hr2,hb2⟩
 have hr1':=hr1.below hb2 (pE _); have hbel:=hb1.trans (hb2.mono hb1.size)
 have hs:=hb2.size; clear hb2 hb1 hr1 Q1 Q2
 have hlb:=vJ ys (by obtain ⟨_,_,_,_,_,hlt,_⟩:=h2.open; exact hlt)
 have hla:=vJ xs (by obtain ⟨_,_,_,_,_,hlt,_⟩:=h.open; exact hlt)
 have hnb:=wM (wB ys); have hna:=wM (wB xs)
 revert hlb hla hnb hna hr1' hr2
 generalize toL (wB ys)=bs; generalize toL (wB xs)=us
 generalize hY:wB ys=Y; generalize hX:wB xs=X
 have HXX:=hid hX; have HYY:=hid hY
 clear hX hY; intro hr2 hr1 hlb hla hnb hna
 obtain ⟨ad,cap,rfl,hc,_,hlt,hcell⟩:=hr2.open; have HC:=hid hcell
 have HLT:=hid hlt; have HNA:=hid hna
 have HNB:=hid hnb; clear hcell hlt hna hnb
 have hAlt:∀ x,x∈us→x<4294967296:=by obtain ⟨_,_,_,_,_,hlt,_⟩:=hr1.open; exact hlt
 have HALT:=hid hAlt; clear hAlt
 go_wp2
 go_loopw [5,6] (fun vo t wr=>∃ k:Nat,t=.int .i64 ((k:Int) - 1)∧k≤bs.length∧Below w.heap.size w wr∧Below w2.heap.size w2 wr∧wO w.heap.size wr.heap.size wr vo (toL (X*wB (bs.drop k))))
  (fun _ t _=>(intOf t+1).toNat)
 case atStart=>exact ⟨bs.length,rfl,pE _,hbel,Below.refl _ _,by simp [wB,qB,wO.nil]⟩
 case round =>
  obtain ⟨k,rfl,hk,hbr,hb2r,hO⟩:=hrel; cases k with
  | zero =>
   have e:wB (toL (X*wB (bs.drop 0)))=X*Y:=by rw [wM,dG,HNB.out]
   have hol:(toL (X*wB (bs.drop 0))).length≤8796093022208:=by
    refine pC (kX _ (us.length+bs.length) ?_) (by omega)
    rw [← HNA.out,bW,dG]; exact fJ (qR us HALT.out) (qR bs HLT.out)
   have hN:=zY _ _ _ _ wr hO (by omega)
   rw [e] at hN; clear e hol hO
   go_wp2_with (go_at_call 206; refine hN.mono ?_; rintro e w' ⟨r,rfl,hr,hb⟩)
   go_ret
   rw [HXX.out,HYY.out]; exact ⟨_,rfl,hr.wide hbr.size (pE _),hbr.trans (hb.mono hbr.size)⟩
  | succ m =>
   have hol:(toL (X*wB (bs.drop (m+1)))).length≤8796093022208:=by
    refine pC (kX _ (us.length+bs.length) ?_) (by omega)
    rw [← HNA.out,bW]; refine fJ (qR us HALT.out) (mR (qR _ fun x hx=>HLT.out x (bF hx)) (dD (by decide) (by simp)))
   obtain ⟨b,off,rfl,hlo,hhi,hcb⟩:=HC.out m (by omega)
   obtain ⟨y,hy⟩:∃ y,bs.getD m 0=y:=⟨_,rfl⟩; have hy32:y<4294967296:=by rw [← hy]; exact getD_lt bs HLT.out m
   rw [hy] at hcb; have hcr:=wK7 hb2r hcb (pE _)
   have f1:(m:Int)<(bs.length:Int):=by omega
   have e1:wB us*y=X*y:=by rw [HNA.out]
   have hsh:∀ W,Below wr.heap.size wr W→Calls Tryz.prog 246 #[u5,.int .u32 0] W fun e w'=>∃ r,e=.returned r∧wO W.heap.size w'.heap.size w' r (toL (4294967296*(X*wB (bs.drop (m+1)))))∧Below W.heap.size W w':=by
    intro W hW
    have:=wR4 _ _ _ _ 0 W (hO.below hW (pE _)) hW.size (by omega) (by decide)
    rw [wM,dM] at this; exact this
   have hsm:∀ W,Below wr.heap.size wr W→Calls Tryz.prog 247 #[r1,.int .u32 y] W fun e w'=>∃ r,e=.returned r∧wO W.heap.size w'.heap.size w' r (toL (X*y))∧Below W.heap.size W w':=by
    intro W hW
    have:=wCI _ _ _ _ y W ((hr1.below hb2r hs).below hW (pC hs hb2r.size)) (pC (pC hs hb2r.size) hW.size) (by omega) hy32
    rw [e1] at this; exact this
   have hl1:(toL (4294967296*(X*wB (bs.drop (m+1))))).length≤17592186044416:=by
    refine pC (kX _ (us.length+bs.length+1) ?_) (by omega)
    rw [← HNA.out,mY,mL 4294967296]; refine pD6 ?_ (by decide)
    rw [bW]; refine fJ (qR us HALT.out) (mR (qR _ fun x hx=>HLT.out x (bF hx)) (dD (by decide) (by simp)))
   have hl2:(toL (X*y)).length≤17592186044416:=by
    refine pC (kX _ (us.length+1) ?_) (by omega)
    rw [← HNA.out,mY]; exact fJ (qR us HALT.out) hy32
   have hfin:toL (4294967296*(X*wB (bs.drop (m+1)))+X*y)=toL (X*wB (bs.drop m)):=by
    rw [w9 bs m,hy,mD,fT,← mJ,mL 4294967296 X,mJ]
   have hadd:∀ (W3 W4:World) (r3 r4:Value),wO W3.heap.size W4.heap.size W4 r3 (toL (4294967296*(X*wB (bs.drop (m+1)))))→∀ W5 W6:World,Below W4.heap.size W4 W5→wO W5.heap.size W6.heap.size W6 r4 (toL (X*y))→Below W5.heap.size W5 W6 →
     Calls Tryz.prog 195 #[r3,r4] W6 fun e w'=>∃ r,e=.returned r∧wO W6.heap.size w'.heap.size w' r (toL (X*wB (bs.drop m)))∧Below W6.heap.size W6 w':=by
    intro W3 W4 r3 r4 g1 W5 W6 g2 g3 g4
    have:=qB7 _ _ _ _ _ _ _ _ W6 ((g1.below g2 (pE _)).below g4 g2.size) g3 (pC g2.size g4.size) (pE _) hl1 hl2; rw [wM,wM,hfin] at this
    exact this
   have HSH:=hid hsh; have HSM:=hid hsm
   have HADD:=hid hadd; have HO:=hid hO
   clear hcb hy e1 hsh hsm hl1 hl2 hfin hadd hO
   go_wp2
   go_region_with (first
    | (go_at_call 246; refine (HSH.out _ (Below.refl _ _).drew).mono ?_; rintro e w3 ⟨r3,rfl,hr3,hb3⟩; have hcr3:=wK7 hb3 hcr (pE _))
    | (go_at_call 247; refine (HSM.out _ ((Below.refl _ _).drew.trans hb3)).mono ?_; rintro e w4 ⟨r4,rfl,hr4,hb4⟩)
    | (go_at_call 195; refine (HADD.out _ _ _ _ hr3 _ _ (Below.refl _ _) hr4 hb4).mono ?_; rintro e w5 ⟨r5,rfl,hr5,hb5⟩))
   all_goals
    go_wp2
    have hA:=(((Below.refl wr.heap.size wr).drew.trans hb3).trans (hb4.mono hb3.size)).trans (hb5.mono (pC hb3.size hb4.size)); exact ⟨⟨m,by go_num,by omega,hbr.trans (hA.mono hbr.size),hb2r.trans (hA.mono hb2r.size),hr5.wide (pC hbr.size (pC hb3.size hb4.size)) (pE _)⟩,by simp [intOf]⟩
end Go.Proofs.YtkjhfnhgefbhhaaGreat
/- simileref01's Div: quotient and rest. -/
namespace Go.Proofs.YtkjhfnhgefbhhaaGreat
open Go.RowKit
theorem wN1 {w w':World} {B:Nat} {e:TypeId} {size:Nat} {v:Value} {n:Nat} {xs:List Value} (h:w.ownsRow B e size v n xs) (hb:Below w.heap.size w w'):w'.ownsRow B e size v n xs:=by
 refine ⟨h.1,?_⟩
 rcases h.2 with hn | ⟨g,cap,cur,rfl,hbg,hgg,rest⟩
 ·exact .inl hn
 ·exact .inr ⟨g,cap,cur,rfl,hbg,(hb.block g (mW.1 hgg).1).trans hgg,rest⟩
theorem wO.set {lo hi:Nat} {w:World} {v:Value} {xs:List Nat} (h:wO lo hi w v xs) (p:Addr) (u:Value) (hp:p.block<lo∨hi≤p.block):wO lo hi (w.setCell p u) v xs :=
 h.keep fun b h1 h2=>Below.heap_setCell _ _ _ _ (by omega)
theorem or_pow (d k:Nat) (h:d % 2 ^ (k+1)=0):d ||| 2 ^ k=d+2 ^ k:=by
 obtain ⟨a,ha⟩:=bG h; rw [ha,← gI (Nat.pow_lt_pow_right (by decide) (bN k))]
theorem div_of (Y R d:Nat) (h1:d*Y≤R) (h2:R<(d+1)*Y):R / Y=d:=by
 have hY:0<Y:=by
  rcases mF Y with h | h
  ·subst h; simp at h2
  ·exact h
 exact Nat.div_eq_of_lt_le h1 h2
theorem bit_step (d j:Nat) (hj:j<32) (hd:d<4294967296) (hm:d % 2 ^ (j+1)=0) :
  d+2 ^ j<4294967296∧bits .or .u32 (d:Nat) ((2:Int) ^ j % 4294967296)=((d+2 ^ j:Nat):Int)∧d % 2 ^ j=0∧(d+2 ^ j) % 2 ^ j=0∧d+2 ^ (j+1)=d+2 ^ j+2 ^ j:=by
 have hp:2 ^ j<4294967296:=mR (Nat.pow_lt_pow_right (by decide) hj) (by decide)
 obtain ⟨a,ha⟩:=bG hm; have h0:d % 2 ^ j=0:=by rw [ha,mY,mJ]; exact Nat.mul_mod_right _ _
 have hlt:d+2 ^ j<4294967296:=by
  obtain ⟨c,hc⟩:∃ c,4294967296=2 ^ (j+1)*c:=⟨2 ^ (31 - j),by rw [← bW,show j+1+(31 - j)=32 from by omega]⟩
  have h1:a<c:=by
   rw [ha,hc] at hd; exact Nat.lt_of_mul_lt_mul_left hd
  have h2:2 ^ (j+1)*(a+1)≤2 ^ (j+1)*c:=mQ _ h1; have h3:0<2 ^ j:=bD (by decide)
  rw [← hc,mD,← ha,mY] at h2; omega
 refine ⟨hlt,?_,h0,by rw [Nat.add_mod_right]; exact h0,by rw [mY]; omega⟩
 have e:((2:Int) ^ j % 4294967296)=((2 ^ j:Nat):Int):=by
  have:((2 ^ j:Nat):Int)=(2:Int) ^ j:=by simp
  rw [← this]; omega
 rw [e,u32_or_nat d _ hd hp,or_pow d j hm]
theorem div01_any (lo h1 lo2 h12:Nat) (v v2:Value) (xs ys:List Nat) (w:World) (h:wO lo h1 w v xs) (h2:wO lo2 h12 w v2 ys) (hhi2:h12≤w.heap.size) (hl:xs.length≤4398046511104) (hl2:ys.length≤4398046511104)
  (hpos:0<wB ys) :
  Calls Tryz.prog 278 #[v,v2] w fun e w'=>∃ r1 r2,e=.returned (.tuple #[r1,r2])∧wO w.heap.size w'.heap.size w' r1 (toL (wB xs / wB ys)) ∧
   wO w.heap.size w'.heap.size w' r2 (toL (wB xs % wB ys))∧Below w.heap.size w w':=by
 have q1:=zY _ _ _ _ _ h (by omega)
 have Q1:=hid q1; clear q1
 go_enter Tryz.func278,Tryz.ntmps278
 go_wp2_with fail
 refine Q1.out.mono ?_
 rintro e w1 ⟨r1,rfl,hr1,hb1⟩
 have q2:=zY _ _ _ _ _ (h2.below hb1 hhi2) (by omega)
 have Q2:=hid q2; clear q2
 go_wp2_with fail
 refine Q2.out.mono ?_
 rintro e w2 ⟨r2,rfl,hr2,hb2⟩
 have hr1':=hr1.below hb2 (pE _); have hbel:=hb1.trans (hb2.mono hb1.size)
 have hs:=hb2.size; have hs1:=hb1.size
 clear hb2 hb1 hr1 Q1 Q2; have hlb:=vJ ys (by obtain ⟨_,_,_,_,_,hlt,_⟩:=h2.open; exact hlt)
 have hla:=vJ xs (by obtain ⟨_,_,_,_,_,hlt,_⟩:=h.open; exact hlt)
 have hnb:=wM (wB ys); have hna:=wM (wB xs)
 revert hlb hla hnb hna hr1' hr2 hpos
 generalize toL (wB ys)=bs; generalize toL (wB xs)=us
 generalize hY:wB ys=Y; generalize hX:wB xs=X
 have HXX:=hid hX; have HYY:=hid hY
 clear hX hY; intro hpos hr2 hr1 hlb hla hnb hna
 obtain ⟨ad,cap,rfl,hc,_,hlt,hcell⟩:=hr1.open; have HC:=hid hcell
 have HLT:=hid hlt; have HNA:=hid hna
 have HNB:=hid hnb; clear hcell hlt hna hnb h h2
 have hBlt:∀ x,x∈bs→x<4294967296:=by obtain ⟨_,_,_,_,_,hlt,_⟩:=hr2.open; exact hlt
 have hYlt:Y<4294967296 ^ bs.length:=by rw [← HNB.out]; exact qR bs hBlt
 have HYL:=hid hYlt; clear hBlt hYlt
 go_wp2_with (at_make; refine kH j7 rfl _ _ rfl w.heap.size _ _ _ _ us.length us.length rfl rfl rfl rfl (pE _) (by omega) hbel hbel.size ?_)
 intro w3 ho3 hb3 hg3
 have hb23:Below w2.heap.size w2 w3:=(Below.refl _ _).grown hg3 (pE _) (by simp)
 have hs3:w2.heap.size<w3.heap.size:=(ho3.lt _ rfl).2; have hr13:=hr1.below hb23 hs
 have hr23:=hr2.below hb23 (pE _); clear hg3
 go_wp2
 go_loopw [7,8] (fun rv t wr=>∃ (k R:Nat) (qs:List Nat),t=.int .i64 ((k:Int) - 1)∧k≤us.length∧Below w.heap.size w wr∧Below w2.heap.size w2 wr∧w2.heap.size<wr.heap.size ∧
   wr.ownsRow w.heap.size 180 1 (.slice (some ⟨w2.heap.size,0,none⟩) us.length us.length) us.length (kP qs)∧(∀ x,x∈qs→x<4294967296)∧(∀ j,j<k→qs.getD j 0=0) ∧
   wO (w2.heap.size+1) wr.heap.size wr rv (toL R)∧R<Y∧wB (qs.drop k)*Y+R=wB (us.drop k)) (fun _ t _=>(intOf t+1).toNat)
 case atStart=>exact ⟨us.length,0,_,rfl,pE _,hb3,hb23,hs3,ho3,wDB _,fun j _=>wT7 _ _,by rw [qB]; exact wO.nil,hpos,by simp [wR1,wB]⟩
 case round =>
  obtain ⟨k,R,qs,rfl,hk,hbr,hb2r,hsr,hown,hqlt,hq0,hR,hRY,hval⟩:=hrel; have HQL:=hid hqlt
  have HQ0:=hid hq0; have HV:=hid hval
  clear hqlt hq0 hval ho3 hb3 hb23 hs3 hr13 hr23; cases k with
  | zero =>
   have hln:=zO hown; have hv:wB qs=X / Y∧R=X % Y:=by
    have:=HV.out; rw [dG,dG,HNA.out] at this
    refine ⟨(div_of Y X _ (by omega) (by rw [cY]; omega)).symm,?_⟩
    rw [← this,fT,Nat.add_mul_mod_self_right,cA hRY]
   have hN:=zY _ _ _ _ wr (wO.ofOwn hown HQL.out) (by omega)
   rw [hv.1] at hN; have HV2:=hid hv.2
   clear hv hln
   go_wp2_with (go_at_call 206; refine hN.mono ?_; rintro e w' ⟨r,rfl,hr,hb⟩)
   go_ret2
   rw [HXX.out,HYY.out,← HV2.out]; exact ⟨_,_,rfl,hr.wide hbr.size (pE _),(hR.below hb (pE _)).wide (pC hbel.size (Nat.le_succ _)) hb.size,hbr.trans (hb.mono hbr.size)⟩
  | succ m =>
   obtain ⟨b,off,rfl,hlo,hhi,hcb⟩:=HC.out m (by omega)
   obtain ⟨y,hy⟩:∃ y,us.getD m 0=y:=⟨_,rfl⟩; have hy32:y<4294967296:=by rw [← hy]; exact getD_lt us HLT.out m
   rw [hy] at hcb; have hcr:=wK7 hb2r hcb (pE _)
   have f1:(m:Int)<(us.length:Int):=by omega
   obtain ⟨R',hR'⟩:∃ R',R'=y+4294967296*R:=⟨_,rfl⟩; have hRl:(toL R).length≤bs.length:=kX _ _ (Nat.lt_trans hRY HYL.out)
   have hR'B:R'<4294967296*Y:=by
    have:4294967296*(R+1)≤4294967296*Y:=mQ _ hRY; omega
   have hR'l:(toL R').length≤bs.length+1:=by
    refine kX _ _ (Nat.lt_trans hR'B ?_)
    rw [mY,mL]; exact pD6 HYL.out (by decide)
   have hsh:=wR4 _ _ _ _ y wr hR (pE _) (by omega) hy32
   rw [wM,← hR'] at hsh; have hdrop:wB (us.drop m)=wB (qs.drop (m+1))*Y*4294967296+R':=by
    rw [w9 us m,hy,← HV.out,hR',mD]; generalize wB (qs.drop (m+1))*Y=t
    omega
   have HSH:=hid hsh; have HD:=hid hdrop
   have HR:=hid hR'; have HRB:=hid hR'B
   clear hcb hy hsh hdrop hR' hR hR'B
   go_wp2_with fail
   refine HSH.out.mono ?_
   rintro e w4 ⟨r4,rfl,hr4,hb4⟩
   have hown4:=wN1 hown hb4; have hbr4:=hbr.trans (hb4.mono hbr.size)
   have hb2r4:=hb2r.trans (hb4.mono hb2r.size); have hs4:w2.heap.size<w4.heap.size:=mR hsr hb4.size
   have hr4':=hr4.wide (Nat.succ_le_of_lt hsr) (pE _); have hr24:=hr2.below hb2r4 (pE _)
   have hcmp:=wQF _ _ _ _ _ _ _ _ w4 hr4' hr24 (by omega) (by omega)
   rw [wM,HNB.out] at hcmp; clear hcr hown hbr hb2r hsr hr4 hb4
   by_cases hlt:R'<Y
   ·have hc1:kA R' Y = -1:=by simp [kA,hlt]
    rw [hc1] at hcmp; have HCMP:=hid hcmp
    have HCL:=hid hlt; clear hcmp hc1 hlt
    go_wp2_with fail
    refine HCMP.out.mono ?_
    rintro e w' ⟨rfl,rfl⟩
    go_wp2
    refine ⟨⟨m,R',qs,by go_num,by omega,hbr4,hb2r4,hs4,hown4,HQL.out,fun j hj=>HQ0.out j (by omega),hr4',HCL.out,?_⟩,by simp [intOf]⟩
    rw [w9 qs m,HQ0.out m (by omega),HD.out,dM,mJ,mL 4294967296]
   ·have hc1:kA R' Y=0∨kA R' Y=1:=by
     unfold kA; rw [if_neg hlt]
     split <;> simp
    obtain ⟨cz,hcz⟩:∃ cz,kA R' Y=cz:=⟨_,rfl⟩; rw [hcz] at hcmp
    have hcz0:0≤cz:=by rcases hc1 with h | h <;> omega
    have HCMP:=hid hcmp; clear hcmp hc1 hcz hlt
    go_wp2_with fail
    refine HCMP.out.mono ?_
    rintro e w' ⟨rfl,rfl⟩
    go_wp2
    obtain ⟨wo,hwo⟩:∃ wo:World,wo=w4:=⟨_,rfl⟩; subst hwo
    go_loopw [9,10] (fun dv t wr=>∃ (j d:Nat),t=.int .i64 ((j:Int) - 1)∧j≤32∧dv=.int .u32 (d:Nat)∧d<4294967296∧d % 2 ^ j=0∧d*Y≤R'∧R'<(d+2 ^ j)*Y∧Below wo.heap.size wo wr) (fun _ t _=>(intOf t+1).toNat)
    case atStart=>exact ⟨32,0,rfl,by omega,rfl,by omega,by simp,by omega,by simpa using HRB.out,Below.refl _ _⟩
    case round =>
     obtain ⟨j,d,rfl,hj,rfl,hd,hmod,hd1,hd2,hbo⟩:=hrel; have HM:=hid hmod
     have HD1:=hid hd1; have HD2:=hid hd2
     clear hmod hd1 hd2; have hwr:=hr4'.below hbo (pE _)
     have hwb:=hr24.below hbo (bX hs4); cases j with
     | zero =>
      have hdv:R' / Y=d∧R' - Y*d=R' % Y:=by
       have h1:=div_of Y R' d HD1.out (by simpa using HD2.out)
       refine ⟨h1,?_⟩
       have:=cX R' Y; rw [h1] at this
       omega
      have hownr:=wN1 hown4 hbo; obtain ⟨c1,c2⟩:=j5 hownr m (by omega)
      have hst:=j6 hownr m d; have hlq:=zO hown4
      have hbs:Below w2.heap.size wr (wr.setCell ⟨w2.heap.size,m,none⟩ (.int .u32 (d:Nat))):=(Below.refl _ _).setCell (by exact pE _) _
      have hsz:wr.heap.size≤(wr.setCell ⟨w2.heap.size,m,none⟩ (.int .u32 (d:Nat))).heap.size:=hbs.size; have hsz2:=pC hbo.size hsz
      have hsm:=wCI _ _ _ _ d (wr.setCell ⟨w2.heap.size,m,none⟩ (.int .u32 (d:Nat))) (hwb.set _ _ (.inr (pE _))) (pC (bX hs4) hsz2) (by omega) hd
      rw [HNB.out] at hsm; have hwrs:=hwr.set ⟨w2.heap.size,m,none⟩ (.int .u32 (d:Nat)) (.inl (bN _))
      have hvq:wB ((qs.set m d).drop m)*Y+R' % Y=wB (us.drop m):=by
       rw [w9 (qs.set m d) m,HD.out]; have e1:(qs.set m d).getD m 0=d:=by
        rw [pK,dH (by omega)]; rfl
       have e2:(qs.set m d).drop (m+1)=qs.drop (m+1):=by rw [pD1 (bN m)]
       have e3:=cX R' Y; rw [hdv.1] at e3
       rw [e1,e2,cY,mJ,mL 4294967296,mL d Y]; generalize wB (qs.drop (m+1))*Y*4294967296=t at *
       omega
      have hYd:Y*d≤R':=by rw [mL]; exact HD1.out
      have hrm:R' % Y<Y:=dJ _ hpos; have hlq2:∀ j,j<m→(qs.set m d).getD j 0=0:=by
       intro j hj
       rw [pK,dO (by omega),← pK]
       exact HQ0.out j (by omega)
      have HQL2:=hid (vA qs m d HQL.out hd); have HLQ2:=hid hlq2
      have HVQ:=hid hvq; have HRM:=hid hrm
      have HST:=hid hst.1; have HSM:=hid hsm
      clear hsm hst hlq hvq hrm hlq2
      go_wp2_with fail
      refine HSM.out.mono ?_
      rintro e w6 ⟨r6,rfl,hr6,hb6⟩
      have hsub:=wZ4 _ _ _ _ _ _ _ _ w6 (hwrs.below hb6 hsz2) hr6 (pC hsz2 hb6.size) (pE _) (by omega) (by rw [wM,wM]; exact hYd)
      rw [wM,wM,hdv.2] at hsub; have hown6:=wN1 HST.out hb6
      have hA:Below w2.heap.size wo w6:=((hbo.mono (bX hs4)).trans hbs).trans (hb6.mono (pC (bX hs4) hsz2)); have HSUB:=hid hsub
      have HDV:=hid hdv; clear hsub hdv hYd hr6 hb6 c1 c2
      go_wp2_with fail
      refine HSUB.out.mono ?_
      rintro e w7 ⟨r7,rfl,hr7,hb7⟩
      have hA7:Below w2.heap.size wo w7:=hA.trans (hb7.mono (pC (bX hs4) hA.size)); have hown7:=wN1 hown6 hb7
      go_wp2
      refine ⟨⟨m,R' % Y,qs.set m d,by go_num,by omega,hbr4.trans (hA7.mono hbel.size),hb2r4.trans hA7,mR hs4 hA7.size,hown7,HQL2.out,HLQ2.out,
       hr7.wide (pC hs4 hA.size) (pE _),HRM.out,HVQ.out⟩,by simp [intOf]⟩
     | succ j =>
      obtain ⟨hlt,hbit,hm1,hm2,hpp⟩:=bit_step d j (by omega) hd HM.out
      obtain ⟨p,hp⟩:∃ p,2 ^ j=p:=⟨_,rfl⟩; rw [hp] at hlt hbit hm1 hm2 hpp
      have hsm:=wCI _ _ _ _ (d+p) wr hwb (pC (bX hs4) hbo.size) (by omega) hlt
      rw [HNB.out] at hsm; have hYd:(toL (Y*(d+p))).length≤bs.length+1:=by
       refine kX _ _ ?_
       rw [mY]; exact fJ HYL.out hlt
      have HSM:=hid hsm; have HB:=hid hbit
      have HM1:=hid hm1; have HM2:=hid hm2
      have HPP:=hid hpp; have HP:=hid hp
      clear hsm hbit hm1 hm2 hpp hp
      go_wp2_with fail
      rw [HB.out]; refine HSM.out.mono ?_
      rintro e w5 ⟨r5,rfl,hr5,hb5⟩
      have hcmp:=wQF _ _ _ _ _ _ _ _ w5 hr5 (hwr.below hb5 hbo.size) (by omega) (by omega)
      rw [wM,wM] at hcmp; have hbo5:=hbo.trans (hb5.mono hbo.size)
      by_cases hle:Y*(d+p)≤R'
      ·have hc1:kA (Y*(d+p)) R'≤0:=by unfold kA; split <;> (try split) <;> omega
       obtain ⟨cz,hcz⟩:∃ cz,kA (Y*(d+p)) R'=cz:=⟨_,rfl⟩; rw [hcz] at hcmp hc1
       have HCMP:=hid hcmp; have HLE:=hid hle
       clear hcmp hcz hle hYd hr5 hb5
       go_wp2_with fail
       refine HCMP.out.mono ?_
       rintro e w' ⟨rfl,rfl⟩
       go_wp2
       refine ⟨⟨j,d+p,by go_num,by omega,by go_num,hlt,by rw [HP.out]; exact HM2.out,by rw [mL]; exact HLE.out,by rw [HP.out,← HPP.out]; exact HD2.out,hbo5⟩,by simp [intOf]⟩
      ·have hc1:1≤kA (Y*(d+p)) R':=by unfold kA; rw [if_neg (by omega),if_pos (by omega)]; omega
       obtain ⟨cz,hcz⟩:∃ cz,kA (Y*(d+p)) R'=cz:=⟨_,rfl⟩; rw [hcz] at hcmp hc1
       have HCMP:=hid hcmp; have HLE:=hid hle
       clear hcmp hcz hle hYd hr5 hb5
       go_wp2_with fail
       refine HCMP.out.mono ?_
       rintro e w' ⟨rfl,rfl⟩
       go_wp2
       refine ⟨⟨j,d,by go_num,by omega,rfl,hd,by rw [HP.out]; exact HM1.out,HD1.out,?_,hbo5⟩,by simp [intOf]⟩
       have:=HLE.out; rw [mL] at this
       rw [HP.out]; omega
end Go.Proofs.YtkjhfnhgefbhhaaGreat
/- nat.Mul: the product. -/
namespace Go.Proofs.YtkjhfnhgefbhhaaGreat
open Go.RowKit
theorem qGF (x y o c:Nat) (hx:x<4294967296) (hy:y<4294967296) (ho:o<4294967296) (hc:c<4294967296) :
  x*y≤18446744065119617025∧x*y+o+c<18446744073709551616∧(x*y+o+c) / 4294967296<4294967296:=by
 have h1:x*y≤4294967295*4294967295:=dA (by omega) (by omega)
 generalize x*y=p at *; refine ⟨by omega,by omega,by omega⟩
theorem qH7 (l:List Nat) (i j y:Nat) (h:i<l.length):(l.set i y).getD j 0=if j=i then y else l.getD j 0:=by
 rw [pK,pK,gF]
 by_cases hj:j=i
 ·subst hj; simp [h]
 ·rw [if_neg (by omega),if_neg hj]
set_option maxRecDepth 100000 in
theorem mul_any (lo h1 lo2 h12:Nat) (v v2:Value) (xs ys:List Nat) (w:World) (h:wO lo h1 w v xs) (h2:wO lo2 h12 w v2 ys) (hl:xs.length≤8796093022208) (hl2:ys.length≤8796093022208) :
  Calls Tryz.prog 176 #[v,v2] w fun e w'=>∃ r,e=.returned r∧wO w.heap.size w'.heap.size w' r (toL (wB xs*wB ys))∧Below w.heap.size w w':=by
 have t1:=qT xs (by obtain ⟨_,_,_,_,_,hlt,_⟩:=h.open; exact hlt)
 have t2:=qT ys (by obtain ⟨_,_,_,_,_,hlt,_⟩:=h2.open; exact hlt)
 have l1:=kK xs; have l2:=kK ys
 have q1:=v6 lo h1 v xs w h (by omega)
 have q2:=v6 lo2 h12 v2 ys w h2 (by omega)
 rw [t1] at q1 l1; rw [t2] at q2 l2
 obtain ⟨X,hX⟩:∃ X,wB xs=X:=⟨_,rfl⟩; obtain ⟨Y,hY⟩:∃ Y,wB ys=Y:=⟨_,rfl⟩
 rw [hX] at q1 l1 ⊢; rw [hY] at q2 l2 ⊢
 have HX:=hid (wM X); have HY:=hid (wM Y)
 clear hX hY h h2 t1 t2; generalize toL X=us at *
 generalize toL Y=vs at *; have Q1:=hid q1
 have Q2:=hid q2; clear q1 q2
 go_enter Tryz.func176,Tryz.ntmps176
 go_wp2_with fail
 refine Q1.out.mono ?_
 rintro e w' ⟨r1,rfl,hr1,rfl⟩
 go_wp2_with fail
 refine Q2.out.mono ?_
 rintro e w' ⟨r2,rfl,hr2,rfl⟩
 obtain ⟨ad,cap,rfl,_,_,hlt1,hcell⟩:=hr1.open; obtain ⟨ad2,cap2,rfl,_,_,hlt2,hcell2⟩:=hr2.open
 have HC:=hid hcell; have HC2:=hid hcell2
 have HLT1:=hid hlt1; have HLT2:=hid hlt2
 clear Q1 Q2 hr1 hr2 hcell hcell2 hlt1 hlt2
 by_cases hz:us.length=0∨vs.length=0
 ·have hp:X*Y=0:=by
   rcases hz with h | h
   ·rw [← HX.out,mK h]; simp [wB]
   ·rw [← HY.out,mK h]; simp [wB]
  have HP:=hid hp; clear hp
  by_cases h0:us.length=0
  ·have e1:((us.length:Int) == 0)=true:=by simp [h0]
   clear hz h0
   go_wp2
   go_ret
   rw [HP.out,qB]; exact ⟨_,rfl,wO.nil,Below.refl _ _⟩
  ·have e1:((us.length:Int) == 0)=false:=by rw [beq_eq_false_iff_ne]; omega
   have e2:((vs.length:Int) == 0)=true:=by rw [beq_iff_eq]; omega
   clear hz h0
   go_wp2
   go_ret
   rw [HP.out,qB]; exact ⟨_,rfl,wO.nil,Below.refl _ _⟩
 ·have e1:((us.length:Int) == 0)=false:=by rw [beq_eq_false_iff_ne]; omega
  have e2:((vs.length:Int) == 0)=false:=by rw [beq_eq_false_iff_ne]; omega
  have p1:0<us.length:=by omega
  have p2:0<vs.length:=by omega
  clear hz
  go_wp2_with (at_make; refine kH j7 rfl _ _ rfl w.heap.size _ _ _ _ (us.length+vs.length) (us.length+vs.length) rfl rfl (by omega) (by omega) (pE _) (by omega) (Below.refl _ _) (pE _) ?_)
  intro w1 ho1 hb1 _
  obtain ⟨n,hn⟩:∃ n,us.length+vs.length=n:=⟨_,rfl⟩; rw [hn] at ho1 ⊢
  have hn':us.length+vs.length≤n:=by omega
  have hn2:n≤us.length+vs.length:=by omega
  clear hn
  go_wp2
  go_loopw [32] (fun t wr=>∃ (i:Nat) (out:List Nat),t=.int .i64 i∧i≤us.length∧wr.ownsRow w.heap.size 180 1 (.slice (some ⟨w.heap.size,0,none⟩) n n) n (kP out)∧Below w.heap.size w wr ∧
    (∀ x,x∈out→x<4294967296)∧wB out=wB (us.take i)*Y∧(∀ j,i+vs.length≤j→out.getD j 0=0)) (fun t _=>us.length - (intOf t).toNat)
  case atStart=>exact ⟨0,_,rfl,pH _,ho1,hb1,wDB _,by simp [wB,wR1,wGA],fun j _=>wT7 _ _⟩
  case round =>
   obtain ⟨i,out,rfl,hi,hown,hbel,hol,hval,hzero⟩:=hrel; have HV:=hid hval
   have HOL:=hid hol; have HZ:=hid hzero
   clear hval hol hzero ho1 hb1
   by_cases hil:i<us.length
   ·obtain ⟨b,off,rfl,_,_,hc1⟩:=HC.out i hil
    obtain ⟨x,hx⟩:∃ x,us.getD i 0=x:=⟨_,rfl⟩; have hx32:x<4294967296:=by rw [← hx]; exact getD_lt us HLT1.out i
    rw [hx] at hc1; have d1:=wK7 hbel hc1 (pE _)
    have f1:(i:Int)<(us.length:Int):=by omega
    have HXX:=hid hx; clear hc1 hx
    go_wp2
    go_loopw [8,39] (fun cv t wr=>∃ (k c:Nat) (cur:List Nat),t=.int .i64 k∧cv=.int .u64 c∧k≤vs.length∧c<4294967296 ∧
      wr.ownsRow w.heap.size 180 1 (.slice (some ⟨w.heap.size,0,none⟩) n n) n (kP cur)∧Below w.heap.size w wr∧(∀ x,x∈cur→x<4294967296) ∧
      wB cur+4294967296 ^ (i+k)*c=wB (us.take i)*Y*1+x*(4294967296 ^ i*wB (vs.take k))∧(∀ j,i+k≤j→cur.getD j 0=out.getD j 0)) (fun _ t _=>vs.length - (intOf t).toNat)
    case atStart=>exact ⟨0,0,out,rfl,rfl,pH _,by decide,hown,hbel,HOL.out,by rw [HV.out]; simp [wB],fun j _=>rfl⟩
    case round =>
     obtain ⟨k,c,cur,rfl,rfl,hk,hc32,hown2,hbel2,hcl,hval2,hsame⟩:=hrel; have HV2:=hid hval2
     have HCL:=hid hcl; have HS:=hid hsame
     clear hval2 hcl hsame hown hbel d1
     by_cases hkl:k<vs.length
     ·obtain ⟨b2,off2,rfl,_,_,hc2⟩:=HC2.out k hkl
      obtain ⟨y,hy⟩:∃ y,vs.getD k 0=y:=⟨_,rfl⟩; have hy32:y<4294967296:=by rw [← hy]; exact getD_lt vs HLT2.out k
      rw [hy] at hc2; have d2:=wK7 hbel2 hc2 (pE _)
      have f2:(k:Int)<(vs.length:Int):=by omega
      have f3:(i:Int)+k<(n:Int):=by omega
      obtain ⟨m,hm⟩:∃ m,i+k=m:=⟨_,rfl⟩; have hmi:(i:Int)+k=(m:Int):=by omega
      have hmn:m<n:=by omega
      obtain ⟨o,ho⟩:∃ o,cur.getD m 0=o:=⟨_,rfl⟩; have ho32:o<4294967296:=by rw [← ho]; exact getD_lt cur HCL.out m
      obtain ⟨g1,g2⟩:=j5 hown2 m hmn; rw [ho] at g1
      obtain ⟨b1,b2',b3⟩:=qGF x y o c hx32 hy32 ho32 hc32; have HYY:=hid hy
      have HO:=hid ho; have HM:=hid hm
      clear hc2 hy ho hm; rw [HM.out] at HV2
      go_wp2
      have hs:=j6 hown2 m ((x*y+o+c) % 4294967296); have hln:=zO hown2
      have ec:(((x*y+o+c) % 4294967296:Nat):Int)=((x:Int)*y+o+c) % 4294967296:=by simp
      have ed:(((x*y+o+c) / 4294967296:Nat):Int)=((x:Int)*y+o+c) / 4294967296:=by simp
      rw [ec] at hs; refine ⟨⟨k+1,(x*y+o+c) / 4294967296,cur.set m ((x*y+o+c) % 4294967296),by go_num,by rw [ed],by omega,b3,hs.1,hbel2.setCell (by exact pE _) _,vA _ _ _ HCL.out (dJ _ (by decide)),?_,?_⟩,by simp [intOf]; omega⟩
      ·have hset:=wZG cur m ((x*y+o+c) % 4294967296) (by omega)
       rw [HO.out] at hset; have hst:=mul_step (4294967296 ^ m) (wB cur) (wB (cur.set m ((x*y+o+c) % 4294967296))) o x y c (wB (us.take i)*Y*1) (4294967296 ^ i*wB (vs.take k)) HV2.out hset
       have hm1:=HM.out; rw [qD vs,HYY.out,mD,← mJ,← bW,hm1,← cB,hm1,mY]
       exact hst
      ·intro j hj
       rw [qH7 _ _ _ _ (by omega),if_neg (by omega)]
       exact HS.out j (by omega)
     ·obtain rfl:k=vs.length:=by omega
      have f3:(i:Int)+vs.length<(n:Int):=by omega
      obtain ⟨m,hm⟩:∃ m,i+vs.length=m:=⟨_,rfl⟩; have hmi:(i:Int)+vs.length=(m:Int):=by omega
      have hmn:m<n:=by omega
      obtain ⟨g1,g2⟩:=j5 hown2 m hmn; have HM:=hid hm
      clear hm
      go_wp2
      have hs:=j6 hown2 m c; have hln:=zO hown2
      refine ⟨⟨i+1,cur.set m c,by go_num,by omega,hs.1,hbel2.setCell (by exact pE _) _,vA _ _ _ HCL.out hc32,?_,?_⟩,by simp [intOf]; omega⟩
      ·have h0:cur.getD m 0=0:=by
        rw [HS.out m (by have:=HM.out; omega)]
        exact HZ.out m (by have:=HM.out; omega)
       have hset:=wZG cur m c (by omega)
       rw [h0,dN,cJ] at hset; have hv:=HV2.out
       rw [HM.out,zN vs _ (pE _),HY.out] at hv; rw [hset,hv,qD,HXX.out,gC,cY,fP,mJ]
      ·intro j hj
       have:=HM.out; rw [qH7 _ _ _ _ (by omega),if_neg (by omega),HS.out j (by omega)]
       exact HZ.out j (by omega)
   ·obtain rfl:i=us.length:=by omega
    have hv:=HV.out; rw [zN us _ (pE _),HX.out] at hv
    have hN:=wN2 _ _ _ _ wr (wO.ofOwn hown HOL.out) (by have:=zO hown; omega)
    rw [qT out HOL.out,hv] at hN; have HN:=hid hN
    clear hN hv
    go_wp2_with fail
    refine HN.out.mono ?_
    rintro e w' ⟨r,rfl,hr,hb⟩
    go_wp2
    go_ret
    exact ⟨_,rfl,hr.wide hbel.size (pE _),hbel.trans (hb.mono hbel.size)⟩
end Go.Proofs.YtkjhfnhgefbhhaaGreat
/- math/bits' Add32 and Sub32. -/
namespace Go.Proofs.YtkjhfnhgefbhhaaGreat
open Go.RowKit
theorem add32_any (x y c:Nat) (w:World) (hx:x<4294967296) (hy:y<4294967296) (hc:c≤1) :
  Calls Tryz.prog 232 #[.int .u32 (x:Nat),.int .u32 (y:Nat),.int .u32 (c:Nat)] w fun e w' =>
   e=.returned (.tuple #[.int .u32 (((x+y+c) % 4294967296:Nat):Int),.int .u32 (((x+y+c) / 4294967296:Nat):Int)])∧w=w':=by
 have h1:(((x:Int)+y+c) / 4294967296) % 4294967296=((x:Int)+y+c) / 4294967296:=by omega
 have H:=hid h1; clear h1
 go_enter Tryz.func232,Tryz.ntmps232
 go_wp2
 go_ret2
 refine ⟨?_,rfl⟩
 have:=H.out
 simp
theorem top_bit (n:Nat) (h:n<4294967296):n / 2147483648=(n.testBit 31).toNat:=by
 rw [Nat.testBit_eq_decide_div_mod_eq,show (2:Nat) ^ 31=2147483648 by decide]
 have:n / 2147483648<2:=by omega
 by_cases h1:n / 2147483648 % 2=1
 ·simp [h1]; omega
 ·simp [h1]; omega
theorem bit31 (n:Nat) (h:n<4294967296):n.testBit 31=decide (2147483648≤n):=by
 have:=top_bit n h; cases hb:n.testBit 31
 ·rw [hb] at this; simp at this; simp; omega
 ·rw [hb] at this; simp at this; simp; omega
theorem ret_tup2 {k k2:IntKind} {a a' b b':Int} (h1:a=a') (h2:b=b'):Ending.returned (.tuple #[.int k a,.int k2 b])=Ending.returned (.tuple #[.int k a',.int k2 b']):=by rw [h1,h2]
def lent (x y b:Nat):Nat:=if x<y+b then 1 else 0
theorem borrow_bit (x y b d:Nat) (hx:x<4294967296) (hy:y<4294967296) (hb:b≤1) (hd:d=(x+8589934592 - y - b) % 4294967296) :
  (((4294967295 ^^^ x) &&& y) ||| ((4294967295 ^^^ (x ^^^ y)) &&& d)) / 2147483648=lent x y b:=by
 have hd2:d<4294967296:=by rw [hd]; exact dJ _ (by decide)
 have h0:(4294967295:Nat).testBit 31=true:=by decide
 have hlt:(((4294967295 ^^^ x) &&& y) ||| ((4294967295 ^^^ (x ^^^ y)) &&& d))<4294967296:=by
  have e:(4294967296:Nat)=2 ^ 32:=by decide
  rw [e] at hy hd2 ⊢; exact pE2 (pD7 _ hy) (pD7 _ hd2)
 rw [top_bit _ hlt,Nat.testBit_or,Nat.testBit_and,Nat.testBit_and,pF8,pF8,pF8,h0,bit31 x hx,bit31 y hy,bit31 d hd2]; unfold lent
 by_cases a1:2147483648≤x <;> by_cases a2:2147483648≤y <;> by_cases a3:2147483648≤d <;> simp [a1,a2,a3] <;> omega
theorem qB9 (a b:Nat) (ha:a<4294967296) (hb:b<4294967296):a ^^^ b<4294967296:=by
 have e:(4294967296:Nat)=2 ^ 32:=by decide
 rw [e] at ha hb ⊢; exact Nat.xor_lt_two_pow ha hb
theorem and_lt (a b:Nat) (hb:b<4294967296):a &&& b<4294967296:=by
 have e:(4294967296:Nat)=2 ^ 32:=by decide
 rw [e] at hb ⊢; exact pD7 _ hb
theorem sub32_any (x y b:Nat) (w:World) (hx:x<4294967296) (hy:y<4294967296) (hb:b≤1) :
  Calls Tryz.prog 295 #[.int .u32 (x:Nat),.int .u32 (y:Nat),.int .u32 (b:Nat)] w fun e w' =>
   e=.returned (.tuple #[.int .u32 (((x+8589934592 - y - b) % 4294967296:Nat):Int),.int .u32 ((lent x y b:Nat):Int)])∧w=w':=by
 obtain ⟨d,hd⟩:∃ d,d=(x+8589934592 - y - b) % 4294967296:=⟨_,rfl⟩; have hd2:d<4294967296:=by rw [hd]; exact dJ _ (by decide)
 have hbb:=borrow_bit x y b d hx hy hb hd; have HB:=hid hbb
 have HD:=hid hd; clear hbb hd
 go_enter Tryz.func295,Tryz.ntmps295
 go_wp2
 all_goals
  go_ret2
  have e1:((x:Int) - y - b) % 4294967296=((d:Nat):Int):=by have:=HD.out; omega
  have e0:IntKind.u32.max=((4294967295:Nat):Int):=rfl; refine ⟨ret_tup2 (by have:=HD.out; omega) ?_,rfl⟩
  rw [e1,e0,u32_xor_nat 4294967295 x (by decide) hx,u32_xor_nat x y hx hy,u32_xor_nat 4294967295 _ (by decide) (qB9 x y hx hy),u32_and_nat _ y (qB9 _ x (by decide) hx) hy,
   u32_and_nat _ d (qB9 _ _ (by decide) (qB9 x y hx hy)) hd2,u32_or_nat _ _ (and_lt _ _ hy) (and_lt _ _ hd2),← HB.out]
  exact (pC0 _ _).symm
end Go.Proofs.YtkjhfnhgefbhhaaGreat
