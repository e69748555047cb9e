/- simileref01's Div: quotient and rest. -/
import Derived.Test.YtdcjmnfngabhoaaGreatCc10
import Derived.Laws.BitsAllLaws
set_option linter.all false
set_option maxRecDepth 20000
set_option maxHeartbeats 6400000
namespace Go.Proofs.YtdcjmnfngabhoaaGreat
open Go.RowKit
theorem wMD{w w':World}{B:Nat}{e:TypeId}{size:Nat}{v:Value}{n:Nat}{xs:List Value}(h:w.ownsRow B e size v n xs)(hb:Below w.heap.size w w'):w'.ownsRow B e size v n xs:=by
 refine⟨h.1,?_⟩;rcases h.2 with hn|⟨g,cap,cur,rfl,hbg,hgg,rest⟩
 ·exact .inl hn
 ·exact .inr ⟨g,cap,cur,rfl,hbg,(hb.block g (mD.1 hgg).1).trans hgg,rest⟩
theorem wL.set{lo hi:Nat}{w:World}{v:Value}{xs:List Nat}(h:wL lo hi w v xs)(p:Addr)(u:Value)(hp:p.block<lo∨hi≤p.block):wL lo hi (w.setCell p u) v xs:=
 h.keep fun b h1 h2=>Below.heap_setCell _ _ _ _ (by omega)
theorem or_pow(d k:Nat)(h:d%2^(k+1)=0):d ||| 2^k=d+2^k:=by obtain⟨a,ha⟩:=bF h;rw[ha,←gX (Nat.pow_lt_pow_right (by decide) (pG8 k))]
theorem div_of(Y R d:Nat)(h1:d*Y≤R)(h2:R<(d+1)*Y):R/Y=d:=by
 have hY:0<Y:=by
  rcases mO Y with h|h
  ·subst h;simp at h2
  ·exact h
 exact Nat.div_eq_of_lt_le h1 h2
theorem bit_step(d j:Nat)(hj:j<32)(hd:d<4294967296)(hm:d%2^(j+1)=0) :
  d+2^j<4294967296∧bits .or .u32 (d:Nat) ((2:Int)^j%4294967296)=((d+2^j:Nat):Int)∧d%2^j=0∧(d+2^j)%2^j=0∧d+2^(j+1)=d+2^j+2^j:=by
 have hp:2^j<4294967296:=mN (Nat.pow_lt_pow_right (by decide) hj) (by decide);obtain⟨a,ha⟩:=bF hm;have h0:d%2^j=0:=by rw[ha,mS,mJ];exact Nat.mul_mod_right _ _
 have hlt:d+2^j<4294967296:=by
  obtain⟨c,hc⟩:∃c,4294967296=2^(j+1)*c:=⟨2^(31-j),by rw[←fC,show j+1+(31-j)=32 from by omega]⟩
  have h1:a<c:=by rw[ha,hc]at hd;exact Nat.lt_of_mul_lt_mul_left hd
  have h2:2^(j+1)*(a+1)≤2^(j+1)*c:=mK _ h1;have h3:0<2^j:=cX (by decide);rw[←hc,mE,←ha,mS]at h2;omega
 refine⟨hlt,?_,h0,by rw[Nat.add_mod_right];exact h0,by rw[mS];omega⟩;have e:((2:Int)^j%4294967296)=((2^j:Nat):Int):=by
  have:((2^j:Nat):Int)=(2:Int)^j:=by simp
  rw[←this];omega
 rw[e,u32_or_nat d _ hd hp,or_pow d j hm]
theorem div01_any(lo h1 lo2 h12:Nat)(v v2:Value)(xs ys:List Nat)(w:World)(h:wL lo h1 w v xs)(h2:wL lo2 h12 w v2 ys)(hhi2:h12≤w.heap.size)(hl:xs.length≤4398046511104)(hl2:ys.length≤4398046511104)(hpos:0<wC ys) :
  Calls Tryz.prog 169 #[v,v2] w fun e w'=>∃r1 r2,e=.returned (.tuple #[r1,r2])∧wL w.heap.size w'.heap.size w' r1 (toL (wC xs/wC ys)) ∧
   wL w.heap.size w'.heap.size w' r2 (toL (wC xs%wC ys))∧Below w.heap.size w w':=by
 have q1:=zI _ _ _ _ _ h (by omega);have Q1:=hid q1;clear q1
 go_enter Tryz.func169,Tryz.ntmps169
 go_wp2_with fail
 refine Q1.out.mono ?_;rintro e w1 ⟨r1,rfl,hr1,hb1⟩;have q2:=zI _ _ _ _ _ (h2.below hb1 hhi2) (by omega);have Q2:=hid q2;clear q2
 go_wp2_with fail
 refine Q2.out.mono ?_;rintro e w2 ⟨r2,rfl,hr2,hb2⟩;have hr1':=hr1.below hb2 (pC _);have hbel:=hb1.trans (hb2.mono hb1.size);have hs:=hb2.size;have hs1:=hb1.size;clear hb2 hb1 hr1 Q1 Q2;have hlb:=jZ ys (by obtain⟨_,_,_,_,_,hlt,_⟩:=h2.open;exact hlt);have hla:=jZ xs (by obtain⟨_,_,_,_,_,hlt,_⟩:=h.open;exact hlt);have hnb:=wK (wC ys);have hna:=wK (wC xs);revert hlb hla hnb hna hr1' hr2 hpos;generalize toL (wC ys)=bs;generalize toL (wC xs)=us;generalize hY:wC ys=Y;generalize hX:wC xs=X;have HXX:=hid hX;have HYY:=hid hY;clear hX hY;intro hpos hr2 hr1 hlb hla hnb hna;obtain⟨ad,cap,rfl,hc,_,hlt,hcell⟩:=hr1.open;have HC:=hid hcell;have HLT:=hid hlt;have HNA:=hid hna;have HNB:=hid hnb;clear hcell hlt hna hnb h h2;have hBlt:∀x,x∈bs→x<4294967296:=by obtain⟨_,_,_,_,_,hlt,_⟩:=hr2.open;exact hlt
 have hYlt:Y<4294967296^bs.length:=by rw[←HNB.out];exact qP bs hBlt
 have HYL:=hid hYlt;clear hBlt hYlt
 go_wp2_with (at_make;refine zM jT rfl _ _ rfl w.heap.size _ _ _ _ us.length us.length rfl rfl rfl rfl (pC _) (by omega) hbel hbel.size ?_)
 intro w3 ho3 hb3 hg3;have hb23:Below w2.heap.size w2 w3:=(Below.refl _ _).grown hg3 (pC _) (by simp);have hs3:w2.heap.size<w3.heap.size:=(ho3.lt _ rfl).2;have hr13:=hr1.below hb23 hs;have hr23:=hr2.below hb23 (pC _);clear hg3
 go_wp2
 go_loopw [7,8] (fun rv t wr=>∃(k R:Nat)(qs:List Nat),t=.int .i64 ((k:Int)-1)∧k≤us.length∧Below w.heap.size w wr∧Below w2.heap.size w2 wr∧w2.heap.size<wr.heap.size ∧
   wr.ownsRow w.heap.size 130 1 (.slice (some ⟨w2.heap.size,0,none⟩) us.length us.length) us.length (zS qs)∧(∀x,x∈qs→x<4294967296)∧(∀j,j<k→qs.getD j 0=0) ∧
   wL (w2.heap.size+1) wr.heap.size wr rv (toL R)∧R<Y∧wC (qs.drop k)*Y+R=wC (us.drop k)) (fun _ t _=>(intOf t+1).toNat)
 case atStart=>exact⟨us.length,0,_,rfl,pC _,hb3,hb23,hs3,ho3,wD4 _,fun j _=>wRA _ _,by rw[qW];exact wL.nil,hpos,by simp[wP8,wC]⟩
 case round=>
  obtain⟨k,R,qs,rfl,hk,hbr,hb2r,hsr,hown,hqlt,hq0,hR,hRY,hval⟩:=hrel;have HQL:=hid hqlt;have HQ0:=hid hq0;have HV:=hid hval;clear hqlt hq0 hval ho3 hb3 hb23 hs3 hr13 hr23;cases k with
  | zero=>
   have hln:=zF hown;have hv:wC qs=X/Y∧R=X%Y:=by have:=HV.out;rw[dH,dH,HNA.out]at this;refine⟨(div_of Y X _ (by omega) (by rw[cV];omega)).symm,?_⟩;rw[←this,fZ,Nat.add_mul_mod_self_right,mY hRY]
   have hN:=zI _ _ _ _ wr (wL.ofOwn hown HQL.out) (by omega);rw[hv.1]at hN;have HV2:=hid hv.2;clear hv hln
   go_wp2_with (go_at_call 107;refine hN.mono ?_;rintro e w' ⟨r,rfl,hr,hb⟩)
   go_ret2
   rw[HXX.out,HYY.out,←HV2.out];exact⟨_,_,rfl,hr.wide hbr.size (pC _),(hR.below hb (pC _)).wide (pD hbel.size (Nat.le_succ _)) hb.size,hbr.trans (hb.mono hbr.size)⟩
  | succ m=>
   obtain⟨b,off,rfl,hlo,hhi,hcb⟩:=HC.out m (by omega);obtain⟨y,hy⟩:∃y,us.getD m 0=y:=⟨_,rfl⟩
   have hy32:y<4294967296:=by rw[←hy];exact getD_lt us HLT.out m
   rw[hy]at hcb;have hcr:=wJJ hb2r hcb (pC _);have f1:(m:Int)<(us.length:Int):=by omega
   obtain⟨R',hR'⟩:∃R',R'=y+4294967296*R:=⟨_,rfl⟩
   have hRl:(toL R).length≤bs.length:=zU _ _ (Nat.lt_trans hRY HYL.out);have hR'B:R'<4294967296*Y:=by
    have:4294967296*(R+1)≤4294967296*Y:=mK _ hRY
    omega
   have hR'l:(toL R').length≤bs.length+1:=by refine zU _ _ (Nat.lt_trans hR'B ?_);rw[mS,mL];exact pF4 HYL.out (by decide)
   have hsh:=wPC _ _ _ _ y wr hR (pC _) (by omega) hy32;rw[wK,←hR']at hsh;have hdrop:wC (us.drop m)=wC (qs.drop (m+1))*Y*4294967296+R':=by rw[wZ us m,hy,←HV.out,hR',mE];generalize wC (qs.drop (m+1))*Y=t;omega
   have HSH:=hid hsh;have HD:=hid hdrop;have HR:=hid hR';have HRB:=hid hR'B;clear hcb hy hsh hdrop hR' hR hR'B
   go_wp2_with fail
   refine HSH.out.mono ?_;rintro e w4 ⟨r4,rfl,hr4,hb4⟩;have hown4:=wMD hown hb4;have hbr4:=hbr.trans (hb4.mono hbr.size);have hb2r4:=hb2r.trans (hb4.mono hb2r.size);have hs4:w2.heap.size<w4.heap.size:=mN hsr hb4.size;have hr4':=hr4.wide (Nat.succ_le_of_lt hsr) (pC _);have hr24:=hr2.below hb2r4 (pC _);have hcmp:=wP4 _ _ _ _ _ _ _ _ w4 hr4' hr24 (by omega) (by omega);rw[wK,HNB.out]at hcmp;clear hcr hown hbr hb2r hsr hr4 hb4;by_cases hlt:R'<Y
   ·have hc1:zW R' Y = -1:=by simp[zW,hlt]
    rw[hc1]at hcmp;have HCMP:=hid hcmp;have HCL:=hid hlt;clear hcmp hc1 hlt
    go_wp2_with fail
    refine HCMP.out.mono ?_;rintro e w' ⟨rfl,rfl⟩
    go_wp2
    refine⟨⟨m,R',qs,by go_num,by omega,hbr4,hb2r4,hs4,hown4,HQL.out,fun j hj=>HQ0.out j (by omega),hr4',HCL.out,?_⟩,by simp[intOf]⟩;rw[wZ qs m,HQ0.out m (by omega),HD.out,dG,mJ,mL 4294967296]
   ·have hc1:zW R' Y=0∨zW R' Y=1:=by
     unfold zW;rw[if_neg hlt];split<;>simp
    obtain⟨cz,hcz⟩:∃cz,zW R' Y=cz:=⟨_,rfl⟩
    rw[hcz]at hcmp;have hcz0:0≤cz:=by rcases hc1 with h|h<;>omega
    have HCMP:=hid hcmp;clear hcmp hc1 hcz hlt
    go_wp2_with fail
    refine HCMP.out.mono ?_;rintro e w' ⟨rfl,rfl⟩
    go_wp2
    obtain⟨wo,hwo⟩:∃wo:World,wo=w4:=⟨_,rfl⟩
    subst hwo
    go_loopw [9,10] (fun dv t wr=>∃(j d:Nat),t=.int .i64 ((j:Int)-1)∧j≤32∧dv=.int .u32 (d:Nat)∧d<4294967296∧d%2^j=0∧d*Y≤R'∧R'<(d+2^j)*Y∧Below wo.heap.size wo wr) (fun _ t _=>(intOf t+1).toNat)
    case atStart=>exact⟨32,0,rfl,by omega,rfl,by omega,by simp,by omega,by simpa using HRB.out,Below.refl _ _⟩
    case round=>
     obtain⟨j,d,rfl,hj,rfl,hd,hmod,hd1,hd2,hbo⟩:=hrel;have HM:=hid hmod;have HD1:=hid hd1;have HD2:=hid hd2;clear hmod hd1 hd2;have hwr:=hr4'.below hbo (pC _);have hwb:=hr24.below hbo (bV hs4);cases j with
     | zero=>
      have hdv:R'/Y=d∧R' - Y*d=R'%Y:=by have h1:=div_of Y R' d HD1.out (by simpa using HD2.out);refine⟨h1,?_⟩;have:=cU R' Y;rw[h1]at this;omega
      have hownr:=wMD hown4 hbo;obtain⟨c1,c2⟩:=jP hownr m (by omega);have hst:=jQ hownr m d;have hlq:=zF hown4;have hbs:Below w2.heap.size wr (wr.setCell ⟨w2.heap.size,m,none⟩ (.int .u32 (d:Nat))):=(Below.refl _ _).setCell (by exact pC _) _;have hsz:wr.heap.size≤(wr.setCell ⟨w2.heap.size,m,none⟩ (.int .u32 (d:Nat))).heap.size:=hbs.size;have hsz2:=pD hbo.size hsz;have hsm:=wBH _ _ _ _ d (wr.setCell ⟨w2.heap.size,m,none⟩ (.int .u32 (d:Nat))) (hwb.set _ _ (.inr (pC _))) (pD (bV hs4) hsz2) (by omega) hd;rw[HNB.out]at hsm;have hwrs:=hwr.set ⟨w2.heap.size,m,none⟩ (.int .u32 (d:Nat)) (.inl (pG8 _));have hvq:wC ((qs.set m d).drop m)*Y+R'%Y=wC (us.drop m):=by
       rw[wZ (qs.set m d) m,HD.out];have e1:(qs.set m d).getD m 0=d:=by rw[pE,dE (by omega)];rfl
       have e2:(qs.set m d).drop (m+1)=qs.drop (m+1):=by rw[pE8 (pG8 m)]
       have e3:=cU R' Y;rw[hdv.1]at e3;rw[e1,e2,cV,mJ,mL 4294967296,mL d Y];generalize wC (qs.drop (m+1))*Y*4294967296=t at *
       omega
      have hYd:Y*d≤R':=by rw[mL];exact HD1.out
      have hrm:R'%Y<Y:=dI _ hpos;have hlq2:∀j,j<m→(qs.set m d).getD j 0=0:=by intro j hj;rw[pE,dQ (by omega),←pE];exact HQ0.out j (by omega)
      have HQL2:=hid (jX qs m d HQL.out hd);have HLQ2:=hid hlq2;have HVQ:=hid hvq;have HRM:=hid hrm;have HST:=hid hst.1;have HSM:=hid hsm;clear hsm hst hlq hvq hrm hlq2
      go_wp2_with fail
      refine HSM.out.mono ?_;rintro e w6 ⟨r6,rfl,hr6,hb6⟩;have hsub:=wWG _ _ _ _ _ _ _ _ w6 (hwrs.below hb6 hsz2) hr6 (pD hsz2 hb6.size) (pC _) (by omega) (by rw[wK,wK];exact hYd);rw[wK,wK,hdv.2]at hsub;have hown6:=wMD HST.out hb6;have hA:Below w2.heap.size wo w6:=((hbo.mono (bV hs4)).trans hbs).trans (hb6.mono (pD (bV hs4) hsz2));have HSUB:=hid hsub;have HDV:=hid hdv;clear hsub hdv hYd hr6 hb6 c1 c2
      go_wp2_with fail
      refine HSUB.out.mono ?_;rintro e w7 ⟨r7,rfl,hr7,hb7⟩;have hA7:Below w2.heap.size wo w7:=hA.trans (hb7.mono (pD (bV hs4) hA.size));have hown7:=wMD hown6 hb7
      go_wp2
      refine⟨⟨m,R'%Y,qs.set m d,by go_num,by omega,hbr4.trans (hA7.mono hbel.size),hb2r4.trans hA7,mN hs4 hA7.size,hown7,HQL2.out,HLQ2.out,
       hr7.wide (pD hs4 hA.size) (pC _),HRM.out,HVQ.out⟩,by simp[intOf]⟩
     | succ j=>
      obtain⟨hlt,hbit,hm1,hm2,hpp⟩:=bit_step d j (by omega) hd HM.out;obtain⟨p,hp⟩:∃p,2^j=p:=⟨_,rfl⟩
      rw[hp]at hlt hbit hm1 hm2 hpp;have hsm:=wBH _ _ _ _ (d+p) wr hwb (pD (bV hs4) hbo.size) (by omega) hlt;rw[HNB.out]at hsm;have hYd:(toL (Y*(d+p))).length≤bs.length+1:=by refine zU _ _ ?_;rw[mS];exact fL HYL.out hlt
      have HSM:=hid hsm;have HB:=hid hbit;have HM1:=hid hm1;have HM2:=hid hm2;have HPP:=hid hpp;have HP:=hid hp;clear hsm hbit hm1 hm2 hpp hp
      go_wp2_with fail
      rw[HB.out];refine HSM.out.mono ?_;rintro e w5 ⟨r5,rfl,hr5,hb5⟩;have hcmp:=wP4 _ _ _ _ _ _ _ _ w5 hr5 (hwr.below hb5 hbo.size) (by omega) (by omega);rw[wK,wK]at hcmp;have hbo5:=hbo.trans (hb5.mono hbo.size);by_cases hle:Y*(d+p)≤R'
      ·have hc1:zW (Y*(d+p)) R'≤0:=by unfold zW;split<;>(try split)<;>omega
       obtain⟨cz,hcz⟩:∃cz,zW (Y*(d+p)) R'=cz:=⟨_,rfl⟩
       rw[hcz]at hcmp hc1;have HCMP:=hid hcmp;have HLE:=hid hle;clear hcmp hcz hle hYd hr5 hb5
       go_wp2_with fail
       refine HCMP.out.mono ?_;rintro e w' ⟨rfl,rfl⟩
       go_wp2
       refine⟨⟨j,d+p,by go_num,by omega,by go_num,hlt,by rw[HP.out];exact HM2.out,by rw[mL];exact HLE.out,by rw[HP.out,←HPP.out];exact HD2.out,hbo5⟩,by simp[intOf]⟩
      ·have hc1:1≤zW (Y*(d+p)) R':=by unfold zW;rw[if_neg (by omega),if_pos (by omega)];omega
       obtain⟨cz,hcz⟩:∃cz,zW (Y*(d+p)) R'=cz:=⟨_,rfl⟩
       rw[hcz]at hcmp hc1;have HCMP:=hid hcmp;have HLE:=hid hle;clear hcmp hcz hle hYd hr5 hb5
       go_wp2_with fail
       refine HCMP.out.mono ?_;rintro e w' ⟨rfl,rfl⟩
       go_wp2
       refine⟨⟨j,d,by go_num,by omega,rfl,hd,by rw[HP.out];exact HM1.out,HD1.out,?_,hbo5⟩,by simp[intOf]⟩;have:=HLE.out;rw[mL]at this;rw[HP.out];omega
theorem qE7(x y o c:Nat)(hx:x<4294967296)(hy:y<4294967296)(ho:o<4294967296)(hc:c<4294967296) :
  x*y≤18446744065119617025∧x*y+o+c<18446744073709551616∧(x*y+o+c)/4294967296<4294967296:=by
 have h1:x*y≤4294967295*4294967295:=dR (by omega) (by omega);generalize x*y=p at *
 refine⟨by omega,by omega,by omega⟩
theorem qF5(l:List Nat)(i j y:Nat)(h:i<l.length):(l.set i y).getD j 0=if j=i then y else l.getD j 0:=by
 rw[pE,pE,pX];by_cases hj:j=i
 ·subst hj;simp[h]
 ·rw[if_neg (by omega),if_neg hj]
set_option maxRecDepth 100000 in
theorem mul_any(lo h1 lo2 h12:Nat)(v v2:Value)(xs ys:List Nat)(w:World)(h:wL lo h1 w v xs)(h2:wL lo2 h12 w v2 ys)(hl:xs.length≤8796093022208)(hl2:ys.length≤8796093022208) :
  Calls Tryz.prog 93 #[v,v2] w fun e w'=>∃r,e=.returned r∧wL w.heap.size w'.heap.size w' r (toL (wC xs*wC ys))∧Below w.heap.size w w':=by
 have t1:=qT xs (by obtain⟨_,_,_,_,_,hlt,_⟩:=h.open;exact hlt);have t2:=qT ys (by obtain⟨_,_,_,_,_,hlt,_⟩:=h2.open;exact hlt);have l1:=zQ xs;have l2:=zQ ys;have q1:=vC lo h1 v xs w h (by omega);have q2:=vC lo2 h12 v2 ys w h2 (by omega);rw[t1]at q1 l1;rw[t2]at q2 l2;obtain⟨X,hX⟩:∃X,wC xs=X:=⟨_,rfl⟩
 obtain⟨Y,hY⟩:∃Y,wC ys=Y:=⟨_,rfl⟩
 rw[hX]at q1 l1 ⊢;rw[hY]at q2 l2 ⊢;have HX:=hid (wK X);have HY:=hid (wK Y);clear hX hY h h2 t1 t2;generalize toL X=us at *
 generalize toL Y=vs at *
 have Q1:=hid q1;have Q2:=hid q2;clear q1 q2
 go_enter Tryz.func93,Tryz.ntmps93
 go_wp2_with fail
 refine Q1.out.mono ?_;rintro e w' ⟨r1,rfl,hr1,rfl⟩
 go_wp2_with fail
 refine Q2.out.mono ?_;rintro e w' ⟨r2,rfl,hr2,rfl⟩;obtain⟨ad,cap,rfl,_,_,hlt1,hcell⟩:=hr1.open;obtain⟨ad2,cap2,rfl,_,_,hlt2,hcell2⟩:=hr2.open;have HC:=hid hcell;have HC2:=hid hcell2;have HLT1:=hid hlt1;have HLT2:=hid hlt2;clear Q1 Q2 hr1 hr2 hcell hcell2 hlt1 hlt2;by_cases hz:us.length=0∨vs.length=0
 ·have hp:X*Y=0:=by
   rcases hz with h|h
   ·rw[←HX.out,mM h];simp[wC]
   ·rw[←HY.out,mM h];simp[wC]
  have HP:=hid hp;clear hp;by_cases h0:us.length=0
  ·have e1:((us.length:Int)==0)=true:=by simp[h0]
   clear hz h0
   go_wp2
   go_ret
   rw[HP.out,qW];exact⟨_,rfl,wL.nil,Below.refl _ _⟩
  ·have e1:((us.length:Int)==0)=false:=by rw[beq_eq_false_iff_ne];omega
   have e2:((vs.length:Int)==0)=true:=by rw[beq_iff_eq];omega
   clear hz h0
   go_wp2
   go_ret
   rw[HP.out,qW];exact⟨_,rfl,wL.nil,Below.refl _ _⟩
 ·have e1:((us.length:Int)==0)=false:=by rw[beq_eq_false_iff_ne];omega
  have e2:((vs.length:Int)==0)=false:=by rw[beq_eq_false_iff_ne];omega
  have p1:0<us.length:=by omega
  have p2:0<vs.length:=by omega
  clear hz
  go_wp2_with (at_make;refine zM jT rfl _ _ rfl w.heap.size _ _ _ _ (us.length+vs.length) (us.length+vs.length) rfl rfl (by omega) (by omega) (pC _) (by omega) (Below.refl _ _) (pC _) ?_)
  intro w1 ho1 hb1 _;obtain⟨n,hn⟩:∃n,us.length+vs.length=n:=⟨_,rfl⟩
  rw[hn]at ho1 ⊢;have hn':us.length+vs.length≤n:=by omega
  have hn2:n≤us.length+vs.length:=by omega
  clear hn
  go_wp2
  go_loopw [32] (fun t wr=>∃(i:Nat)(out:List Nat),t=.int .i64 i∧i≤us.length∧wr.ownsRow w.heap.size 130 1 (.slice (some ⟨w.heap.size,0,none⟩) n n) n (zS out)∧Below w.heap.size w wr ∧
    (∀x,x∈out→x<4294967296)∧wC out=wC (us.take i)*Y∧(∀j,i+vs.length≤j→out.getD j 0=0)) (fun t _=>us.length-(intOf t).toNat)
  case atStart=>exact⟨0,_,rfl,pN _,ho1,hb1,wD4 _,by simp[wC,wP8,wG2],fun j _=>wRA _ _⟩
  case round=>
   obtain⟨i,out,rfl,hi,hown,hbel,hol,hval,hzero⟩:=hrel;have HV:=hid hval;have HOL:=hid hol;have HZ:=hid hzero;clear hval hol hzero ho1 hb1;by_cases hil:i<us.length
   ·obtain⟨b,off,rfl,_,_,hc1⟩:=HC.out i hil;obtain⟨x,hx⟩:∃x,us.getD i 0=x:=⟨_,rfl⟩
    have hx32:x<4294967296:=by rw[←hx];exact getD_lt us HLT1.out i
    rw[hx]at hc1;have d1:=wJJ hbel hc1 (pC _);have f1:(i:Int)<(us.length:Int):=by omega
    have HXX:=hid hx;clear hc1 hx
    go_wp2
    go_loopw [8,39] (fun cv t wr=>∃(k c:Nat)(cur:List Nat),t=.int .i64 k∧cv=.int .u64 c∧k≤vs.length∧c<4294967296 ∧
      wr.ownsRow w.heap.size 130 1 (.slice (some ⟨w.heap.size,0,none⟩) n n) n (zS cur)∧Below w.heap.size w wr∧(∀x,x∈cur→x<4294967296) ∧
      wC cur+4294967296^(i+k)*c=wC (us.take i)*Y*1+x*(4294967296^i*wC (vs.take k))∧(∀j,i+k≤j→cur.getD j 0=out.getD j 0)) (fun _ t _=>vs.length-(intOf t).toNat)
    case atStart=>exact⟨0,0,out,rfl,rfl,pN _,by decide,hown,hbel,HOL.out,by rw[HV.out];simp[wC],fun j _=>rfl⟩
    case round=>
     obtain⟨k,c,cur,rfl,rfl,hk,hc32,hown2,hbel2,hcl,hval2,hsame⟩:=hrel;have HV2:=hid hval2;have HCL:=hid hcl;have HS:=hid hsame;clear hval2 hcl hsame hown hbel d1;by_cases hkl:k<vs.length
     ·obtain⟨b2,off2,rfl,_,_,hc2⟩:=HC2.out k hkl;obtain⟨y,hy⟩:∃y,vs.getD k 0=y:=⟨_,rfl⟩
      have hy32:y<4294967296:=by rw[←hy];exact getD_lt vs HLT2.out k
      rw[hy]at hc2;have d2:=wJJ hbel2 hc2 (pC _);have f2:(k:Int)<(vs.length:Int):=by omega
      have f3:(i:Int)+k<(n:Int):=by omega
      obtain⟨m,hm⟩:∃m,i+k=m:=⟨_,rfl⟩
      have hmi:(i:Int)+k=(m:Int):=by omega
      have hmn:m<n:=by omega
      obtain⟨o,ho⟩:∃o,cur.getD m 0=o:=⟨_,rfl⟩
      have ho32:o<4294967296:=by rw[←ho];exact getD_lt cur HCL.out m
      obtain⟨g1,g2⟩:=jP hown2 m hmn;rw[ho]at g1;obtain⟨b1,b2',b3⟩:=qE7 x y o c hx32 hy32 ho32 hc32;have HYY:=hid hy;have HO:=hid ho;have HM:=hid hm;clear hc2 hy ho hm;rw[HM.out]at HV2
      go_wp2
      have hs:=jQ hown2 m ((x*y+o+c)%4294967296);have hln:=zF hown2;have ec:(((x*y+o+c)%4294967296:Nat):Int)=((x:Int)*y+o+c)%4294967296:=by simp
      have ed:(((x*y+o+c)/4294967296:Nat):Int)=((x:Int)*y+o+c)/4294967296:=by simp
      rw[ec]at hs;refine⟨⟨k+1,(x*y+o+c)/4294967296,cur.set m ((x*y+o+c)%4294967296),by go_num,by rw[ed],by omega,b3,hs.1,hbel2.setCell (by exact pC _) _,jX _ _ _ HCL.out (dI _ (by decide)),?_,?_⟩,by simp[intOf];omega⟩
      ·have hset:=wX9 cur m ((x*y+o+c)%4294967296) (by omega);rw[HO.out]at hset;have hst:=mul_step (4294967296^m) (wC cur) (wC (cur.set m ((x*y+o+c)%4294967296))) o x y c (wC (us.take i)*Y*1) (4294967296^i*wC (vs.take k)) HV2.out hset;have hm1:=HM.out;rw[qB vs,HYY.out,mE,←mJ,←fC,hm1,←cA,hm1,mS];exact hst
      ·intro j hj;rw[qF5 _ _ _ _ (by omega),if_neg (by omega)];exact HS.out j (by omega)
     ·obtain rfl:k=vs.length:=by omega
      have f3:(i:Int)+vs.length<(n:Int):=by omega
      obtain⟨m,hm⟩:∃m,i+vs.length=m:=⟨_,rfl⟩
      have hmi:(i:Int)+vs.length=(m:Int):=by omega
      have hmn:m<n:=by omega
      obtain⟨g1,g2⟩:=jP hown2 m hmn;have HM:=hid hm;clear hm
      go_wp2
      have hs:=jQ hown2 m c;have hln:=zF hown2;refine⟨⟨i+1,cur.set m c,by go_num,by omega,hs.1,hbel2.setCell (by exact pC _) _,jX _ _ _ HCL.out hc32,?_,?_⟩,by simp[intOf];omega⟩
      ·have h0:cur.getD m 0=0:=by
        rw[HS.out m (by have:=HM.out;omega)];exact HZ.out m (by have:=HM.out;omega)
       have hset:=wX9 cur m c (by omega);rw[h0,dU,cG]at hset;have hv:=HV2.out;rw[HM.out,zE vs _ (pC _),HY.out]at hv;rw[hset,hv,qB,HXX.out,pC8,cV,fX,mJ]
      ·intro j hj;have:=HM.out;rw[qF5 _ _ _ _ (by omega),if_neg (by omega),HS.out j (by omega)];exact HZ.out j (by omega)
   ·obtain rfl:i=us.length:=by omega
    have hv:=HV.out;rw[zE us _ (pC _),HX.out]at hv;have hN:=wME _ _ _ _ wr (wL.ofOwn hown HOL.out) (by have:=zF hown;omega);rw[qT out HOL.out,hv]at hN;have HN:=hid hN;clear hN hv
    go_wp2_with fail
    refine HN.out.mono ?_;rintro e w' ⟨r,rfl,hr,hb⟩
    go_wp2
    go_ret
    exact⟨_,rfl,hr.wide hbel.size (pC _),hbel.trans (hb.mono hbel.size)⟩
theorem add32_any(x y c:Nat)(w:World)(hx:x<4294967296)(hy:y<4294967296)(hc:c≤1) :
  Calls Tryz.prog 147 #[.int .u32 (x:Nat),.int .u32 (y:Nat),.int .u32 (c:Nat)] w fun e w'=>
   e=.returned (.tuple #[.int .u32 (((x+y+c)%4294967296:Nat):Int),.int .u32 (((x+y+c)/4294967296:Nat):Int)])∧w=w':=by
 have h1:(((x:Int)+y+c)/4294967296)%4294967296=((x:Int)+y+c)/4294967296:=by omega
 have H:=hid h1;clear h1
 go_enter Tryz.func147,Tryz.ntmps147
 go_wp2
 go_ret2
 refine⟨?_,rfl⟩;have:=H.out;simp
theorem top_bit(n:Nat)(h:n<4294967296):n/2147483648=(n.testBit 31).toNat:=by
 rw[Nat.testBit_eq_decide_div_mod_eq,show(2:Nat)^31=2147483648 by decide]
 have:n/2147483648<2:=by omega
 by_cases h1:n/2147483648%2=1
 ·simp[h1];omega
 ·simp[h1];omega
theorem bit31(n:Nat)(h:n<4294967296):n.testBit 31=decide (2147483648≤n):=by
 have:=top_bit n h;cases hb:n.testBit 31
 ·rw[hb]at this;simp at this;simp;omega
 ·rw[hb]at this;simp at this;simp;omega
theorem ret_tup2{k k2:IntKind}{a a' b b':Int}(h1:a=a')(h2:b=b'):Ending.returned (.tuple #[.int k a,.int k2 b])=Ending.returned (.tuple #[.int k a',.int k2 b']):=by rw[h1,h2]
def lent(x y b:Nat):Nat:=if x<y+b then 1 else 0
theorem borrow_bit(x y b d:Nat)(hx:x<4294967296)(hy:y<4294967296)(hb:b≤1)(hd:d=(x+8589934592-y-b)%4294967296) :
  (((4294967295 ^^^ x) &&& y) ||| ((4294967295 ^^^ (x ^^^ y)) &&& d))/2147483648=lent x y b:=by
 have hd2:d<4294967296:=by rw[hd];exact dI _ (by decide)
 have h0:(4294967295:Nat).testBit 31=true:=by decide
 have hlt:(((4294967295 ^^^ x) &&& y) ||| ((4294967295 ^^^ (x ^^^ y)) &&& d))<4294967296:=by
  have e:(4294967296:Nat)=2^32:=by decide
  rw[e]at hy hd2 ⊢;exact pG2 (pF5 _ hy) (pF5 _ hd2)
 rw[top_bit _ hlt,Nat.testBit_or,Nat.testBit_and,Nat.testBit_and,pH7,pH7,pH7,h0,bit31 x hx,bit31 y hy,bit31 d hd2];unfold lent;by_cases a1:2147483648≤x<;>by_cases a2:2147483648≤y<;>by_cases a3:2147483648≤d<;>simp[a1,a2,a3]<;>omega
theorem wYE(a b:Nat)(ha:a<4294967296)(hb:b<4294967296):a ^^^ b<4294967296:=by
 have e:(4294967296:Nat)=2^32:=by decide
 rw[e]at ha hb ⊢;exact Nat.xor_lt_two_pow ha hb
theorem and_lt(a b:Nat)(hb:b<4294967296):a &&& b<4294967296:=by
 have e:(4294967296:Nat)=2^32:=by decide
 rw[e]at hb ⊢;exact pF5 _ hb
theorem sub32_any(x y b:Nat)(w:World)(hx:x<4294967296)(hy:y<4294967296)(hb:b≤1) :
  Calls Tryz.prog 192 #[.int .u32 (x:Nat),.int .u32 (y:Nat),.int .u32 (b:Nat)] w fun e w'=>
   e=.returned (.tuple #[.int .u32 (((x+8589934592-y-b)%4294967296:Nat):Int),.int .u32 ((lent x y b:Nat):Int)])∧w=w':=by
 obtain⟨d,hd⟩:∃d,d=(x+8589934592-y-b)%4294967296:=⟨_,rfl⟩
 have hd2:d<4294967296:=by rw[hd];exact dI _ (by decide)
 have hbb:=borrow_bit x y b d hx hy hb hd;have HB:=hid hbb;have HD:=hid hd;clear hbb hd
 go_enter Tryz.func192,Tryz.ntmps192
 go_wp2
 all_goals
  go_ret2
  have e1:((x:Int)-y-b)%4294967296=((d:Nat):Int):=by have:=HD.out;omega
  have e0:IntKind.u32.max=((4294967295:Nat):Int):=rfl;refine⟨ret_tup2 (by have:=HD.out;omega) ?_,rfl⟩;rw[e1,e0,u32_xor_nat 4294967295 x (by decide) hx,u32_xor_nat x y hx hy,u32_xor_nat 4294967295 _ (by decide) (wYE x y hx hy),u32_and_nat _ y (wYE _ x (by decide) hx) hy,
   u32_and_nat _ d (wYE _ _ (by decide) (wYE x y hx hy)) hd2,u32_or_nat _ _ (and_lt _ _ hy) (and_lt _ _ hd2),←HB.out]
  exact(pD0 _ _).symm
theorem add1_any(x y c g:Nat)(w:World)(hx:x<4294967296)(hy:y<4294967296)(hc:c≤1)(hb:qK w g 130 [.int .u32 (c:Nat)]) :
  Calls Tryz.prog 146 #[.int .u32 (x:Nat),.int .u32 (y:Nat),.pointer (some ⟨g,0,none⟩)] w fun e w'=>
   e=.returned (.int .u32 (((x+y+c)%4294967296:Nat):Int))∧w'=w.setCell ⟨g,0,none⟩ (.int .u32 (((x+y+c)/4294967296:Nat):Int)):=by
 obtain⟨d0,f0⟩:=hb.one;have Q1:=hid (add32_any x y c w hx hy hc);clear hb
 go_enter Tryz.func146,Tryz.ntmps146
 go_wp2_with fail
 refine Q1.out.mono ?_;rintro e w' ⟨rfl,rfl⟩
 go_wp2
 go_ret
 exact⟨rfl,rfl⟩
theorem less1_any(x y c g:Nat)(w:World)(hx:x<4294967296)(hy:y<4294967296)(hc:c≤1)(hb:qK w g 130 [.int .u32 (c:Nat)]) :
  Calls Tryz.prog 191 #[.int .u32 (x:Nat),.int .u32 (y:Nat),.pointer (some ⟨g,0,none⟩)] w fun e w'=>
   e=.returned (.int .u32 (((x+8589934592-y-c)%4294967296:Nat):Int))∧w'=w.setCell ⟨g,0,none⟩ (.int .u32 ((lent x y c:Nat):Int)):=by
 obtain⟨d0,f0⟩:=hb.one;have Q1:=hid (sub32_any x y c w hx hy hc);clear hb
 go_enter Tryz.func191,Tryz.ntmps191
 go_wp2_with fail
 refine Q1.out.mono ?_;rintro e w' ⟨rfl,rfl⟩
 go_wp2
 go_ret
 exact⟨rfl,rfl⟩
def qBI(f:Nat)(F:Nat→Nat→Nat→Nat×Nat):Prop:=∀(x y c g:Nat)(w:World),x<4294967296→y<4294967296→c≤1→qK w g 130 [.int .u32 (c:Nat)]→
 Calls Tryz.prog f #[.int .u32 (x:Nat),.int .u32 (y:Nat),.pointer (some ⟨g,0,none⟩)] w fun e w'=>e=.returned (.int .u32 ((F x y c).1:Nat))∧w'=w.setCell ⟨g,0,none⟩ (.int .u32 ((F x y c).2:Nat))
def qI(F:Nat→Nat→Nat→Nat×Nat)(us vs:List Nat):Nat→List Nat×Nat
 |0=>([],0)
 |i+1=>((qI F us vs i).1++[(F (us.getD i 0) (vs.getD i 0) (qI F us vs i).2).1],(F (us.getD i 0) (vs.getD i 0) (qI F us vs i).2).2)
theorem wTC(F:Nat→Nat→Nat→Nat×Nat)(us vs:List Nat)(i:Nat):(qI F us vs i).1.length=i:=by
 induction i with
 |zero=>rfl
 |succ i ih=>simp[qI,ih]
set_option maxRecDepth 100000 in
theorem each_add(F:Nat→Nat→Nat→Nat×Nat)(hF:qBI 146 F)(hF1:∀x y c,x<4294967296→y<4294967296→c≤1→(F x y c).1<4294967296∧(F x y c).2≤1)(lo h1 lo2 h12 g0:Nat)(v v2:Value)(us vs:List Nat)(w:World)(h:wL lo h1 w v us)(h2:wL lo2 h12 w v2 vs)(hh:h1≤g0)(hh2:h12≤g0)(hb:qK w g0 130 [.int .u32 0])(hl:us.length≤17592186044416)(hl2:vs.length≤17592186044416) :
  Calls Tryz.prog 145 #[v,v2,.func (.func 146) #[] #[.pointer (some ⟨g0,0,none⟩)]] w fun e w'=>∃n g,e=.returned (.slice (some ⟨g,0,none⟩) n (n+1))∧n=max us.length vs.length ∧
   w'.ownsRow w.heap.size 130 1 (.slice (some ⟨g,0,none⟩) n (n+1)) n (zS (qI F us vs n).1)∧(∀x,x∈(qI F us vs n).1→x<4294967296)∧(qI F us vs n).2≤1∧qK w' g0 130 [.int .u32 ((qI F us vs n).2:Nat)]∧Below g0 w w':=by
 have hg0:=hb.lt;obtain⟨ad,cap,rfl,_,_,hlt1,hcell⟩:=h.open;obtain⟨ad2,cap2,rfl,_,_,hlt2,hcell2⟩:=h2.open;obtain⟨n,hn⟩:∃n,max us.length vs.length=n:=⟨_,rfl⟩
 rw[hn];have n1:us.length≤n:=by omega
 have n2:vs.length≤n:=by omega
 have n3:n≤17592186044416:=by omega
 have hni:max (us.length:Int) (vs.length:Int)=(n:Int):=by omega
 have HC:=hid hcell;have HC2:=hid hcell2;have HLT1:=hid hlt1;have HLT2:=hid hlt2;have HFN:=hid hF;have HF1:=hid hF1;have HB0:=hid hb;have hn3:n≤us.length∨n≤vs.length:=by omega
 clear h h2 hcell hcell2 hlt1 hlt2 hF hF1 hb hn;clear hni
 go_enter Tryz.func145,Tryz.ntmps145
 go_upto_region 1 with(fail)
 go_cut [7] (fun t w'=>w'=w∧t=.int .i64 (n:Nat))
 case first=>
  go_wp2
  all_goals
   go_meet
   case rel=>exact⟨rfl,by congr 1;omega⟩
 case rest=>
  obtain⟨rfl,rfl⟩:=hcut
  go_wp2_with (at_make;refine zM jT rfl _ _ rfl wc.heap.size _ _ _ _ n (n+1) rfl rfl rfl (by omega) (by omega) (by omega) (Below.refl _ _) (pC _) ?_)
  intro w1 ho1 hb1 _
  go_wp2
  go_loopw [23] (fun t wr=>∃(i:Nat)(cur:List Nat),t=.int .i64 i∧i≤n∧wr.ownsRow wc.heap.size 130 1 (.slice (some ⟨wc.heap.size,0,none⟩) n (n+1)) n (zS cur)∧Below g0 wc wr∧wc.heap.size≤wr.heap.size ∧
    cur.take i=(qI F us vs i).1∧(∀x,x∈(qI F us vs i).1→x<4294967296)∧(qI F us vs i).2≤1∧qK wr g0 130 [.int .u32 ((qI F us vs i).2:Nat)]) (fun t _=>n-(intOf t).toNat)
  case atStart=>exact⟨0,_,rfl,pN _,ho1,hb1.mono (by omega),hb1.size,rfl,by simp[qI],by simp[qI],HB0.out.below hb1 hg0⟩
  case round=>
   obtain⟨i,cur,rfl,hi,hown,hbel,hsz,htk,hlo,hc1,hbox⟩:=hrel;obtain⟨A,hA⟩:∃A,qI F us vs i=A:=⟨_,rfl⟩
   rw[hA]at htk hlo hc1 hbox;obtain⟨al,c⟩:=A;dsimp only at htk hlo hc1 hbox;have HA:=hid hA;have HTK:=hid htk;have HLO:=hid hlo;have HOWN:=hid hown;have HBEL:=hid hbel;have HBOX:=hid hbox;clear hA htk hlo hown hbel hbox ho1 hb1;by_cases hil:i<n
   ·obtain⟨x,hx⟩:∃x,us.getD i 0=x:=⟨_,rfl⟩
    obtain⟨y,hy⟩:∃y,vs.getD i 0=y:=⟨_,rfl⟩
    have hx32:x<4294967296:=by rw[←hx];exact getD_lt us HLT1.out i
    have hy32:y<4294967296:=by rw[←hy];exact getD_lt vs HLT2.out i
    have Q:=hid (HFN.out x y c g0 wr hx32 hy32 hc1 HBOX.out);obtain⟨s1,s2⟩:=HF1.out x y c hx32 hy32 hc1;have hA2:=HA.out;have hgo:qI F us vs (i+1)=(al++[(F x y c).1],(F x y c).2):=by simp only[qI,hA2,hx,hy]
    have HGO:=hid hgo;have HX:=hid hx;have HY:=hid hy;obtain⟨r1,hr1⟩:∃r1,(F x y c).1=r1:=⟨_,rfl⟩
    obtain⟨r2,hr2⟩:∃r2,(F x y c).2=r2:=⟨_,rfl⟩
    rw[hr1,hr2]at Q HGO;rw[hr1]at s1;rw[hr2]at s2;clear hA2 hgo hx hy hr1 hr2;have fin:∀W,W=wr.setCell ⟨g0,0,none⟩ (.int .u32 (r2:Nat))→W.ownsRow wc.heap.size 130 1 (.slice (some ⟨wc.heap.size,0,none⟩) n (n+1)) n (zS cur)∧Below g0 wc W∧qK W g0 130 [.int .u32 (r2:Nat)]∧W.heap.size=wr.heap.size:=by rintro W rfl;refine⟨wMB HOWN.out _ _ (by simp[Value.ownBlock];omega),HBEL.out.setCell (by exact pC _) _,HBOX.out.set 0 _,by simp[World.setCell]⟩
    have HFIN:=hid fin;clear fin;have hci:∀(b off:Nat)(u:Value),b<g0→wc.cell? ⟨b,off,none⟩=some u→wr.cell? ⟨b,off,none⟩=some u:=fun b off u hb hu=>(HBEL.out.cell (p:=⟨b,off,none⟩) hb).trans hu;have HCI:=hid hci;clear hci;by_cases hu:i<us.length
    ·obtain⟨b,off,rfl,_,hbl,hc1'⟩:=HC.out i hu;rw[HX.out]at hc1';have d1:=HCI.out _ _ _ (by omega) hc1';clear hc1';by_cases hv:i<vs.length
     ·obtain⟨b2,off2,rfl,_,hbl2,hc2'⟩:=HC2.out i hv;rw[HY.out]at hc2';have d2:=HCI.out _ _ _ (by omega) hc2';clear hc2'
      go_wp2_with fail
      refine Q.out.mono ?_;rintro e w2 ⟨rfl,hw2⟩;obtain⟨o2,b2',x2,z2⟩:=HFIN.out w2 hw2;obtain⟨g1,g2⟩:=jP o2 i hil;have hs:=jQ o2 i r1;have hln:=zF o2;have O2:=hid o2;have B2:=hid b2';have X2:=hid x2;clear hw2 o2 b2' x2
      go_wp2
      go_roundw
      case measure=>simp[intOf];omega
      case rel=>
       refine⟨i+1,cur.set i r1,by go_num,by omega,hs.1,B2.out.setCell (by show g0≤wc.heap.size;omega) _,by simp[World.setCell];omega,?_,?_,?_,?_⟩
       ·rw[HGO.out,z7 _ _ _ (by omega),HTK.out]
       ·rw[HGO.out];intro z hz;rcases cJ.1 hz with h|h
        ·exact HLO.out z h
        ·simp only[List.mem_singleton]at h;omega
       ·rw[HGO.out];exact s2
       ·rw[HGO.out];exact X2.out.other _ _ (by show g0≠wc.heap.size;omega)
     ·obtain rfl:y=0:=by rw[←HY.out];exact wB8 vs i (by omega)
      go_wp2_with fail
      refine Q.out.mono ?_;rintro e w2 ⟨rfl,hw2⟩;obtain⟨o2,b2',x2,z2⟩:=HFIN.out w2 hw2;obtain⟨g1,g2⟩:=jP o2 i hil;have hs:=jQ o2 i r1;have hln:=zF o2;have O2:=hid o2;have B2:=hid b2';have X2:=hid x2;clear hw2 o2 b2' x2
      go_wp2
      go_roundw
      case measure=>simp[intOf];omega
      case rel=>
       refine⟨i+1,cur.set i r1,by go_num,by omega,hs.1,B2.out.setCell (by show g0≤wc.heap.size;omega) _,by simp[World.setCell];omega,?_,?_,?_,?_⟩
       ·rw[HGO.out,z7 _ _ _ (by omega),HTK.out]
       ·rw[HGO.out];intro z hz;rcases cJ.1 hz with h|h
        ·exact HLO.out z h
        ·simp only[List.mem_singleton]at h;omega
       ·rw[HGO.out];exact s2
       ·rw[HGO.out];exact X2.out.other _ _ (by show g0≠wc.heap.size;omega)
    ·obtain rfl:x=0:=by rw[←HX.out];exact wB8 us i (by omega)
     by_cases hv:i<vs.length
     ·obtain⟨b2,off2,rfl,_,hbl2,hc2'⟩:=HC2.out i hv;rw[HY.out]at hc2';have d2:=HCI.out _ _ _ (by omega) hc2';clear hc2'
      go_wp2_with fail
      refine Q.out.mono ?_;rintro e w2 ⟨rfl,hw2⟩;obtain⟨o2,b2',x2,z2⟩:=HFIN.out w2 hw2;obtain⟨g1,g2⟩:=jP o2 i hil;have hs:=jQ o2 i r1;have hln:=zF o2;have O2:=hid o2;have B2:=hid b2';have X2:=hid x2;clear hw2 o2 b2' x2
      go_wp2
      go_roundw
      case measure=>simp[intOf];omega
      case rel=>
       refine⟨i+1,cur.set i r1,by go_num,by omega,hs.1,B2.out.setCell (by show g0≤wc.heap.size;omega) _,by simp[World.setCell];omega,?_,?_,?_,?_⟩
       ·rw[HGO.out,z7 _ _ _ (by omega),HTK.out]
       ·rw[HGO.out];intro z hz;rcases cJ.1 hz with h|h
        ·exact HLO.out z h
        ·simp only[List.mem_singleton]at h;omega
       ·rw[HGO.out];exact s2
       ·rw[HGO.out];exact X2.out.other _ _ (by show g0≠wc.heap.size;omega)
     ·exfalso;omega
   ·obtain rfl:i=n:=by omega
    have hln:=zF HOWN.out;have e:cur=al:=by rw[←HTK.out,pR (by omega)]
    have HE:=hid e;clear hln e
    go_wp2
    go_ret
    refine⟨i,_,rfl,rfl,?_⟩;rw[HA.out];refine⟨by rw[←HE.out];exact HOWN.out,HLO.out,hc1,HBOX.out,HBEL.out⟩
set_option maxRecDepth 100000 in
theorem each_less(F:Nat→Nat→Nat→Nat×Nat)(hF:qBI 191 F)(hF1:∀x y c,x<4294967296→y<4294967296→c≤1→(F x y c).1<4294967296∧(F x y c).2≤1)(lo h1 lo2 h12 g0:Nat)(v v2:Value)(us vs:List Nat)(w:World)(h:wL lo h1 w v us)(h2:wL lo2 h12 w v2 vs)(hh:h1≤g0)(hh2:h12≤g0)(hb:qK w g0 130 [.int .u32 0])(hl:us.length≤17592186044416)(hl2:vs.length≤17592186044416) :
  Calls Tryz.prog 145 #[v,v2,.func (.func 191) #[] #[.pointer (some ⟨g0,0,none⟩)]] w fun e w'=>∃n g,e=.returned (.slice (some ⟨g,0,none⟩) n (n+1))∧n=max us.length vs.length ∧
   w'.ownsRow w.heap.size 130 1 (.slice (some ⟨g,0,none⟩) n (n+1)) n (zS (qI F us vs n).1)∧(∀x,x∈(qI F us vs n).1→x<4294967296)∧(qI F us vs n).2≤1∧qK w' g0 130 [.int .u32 ((qI F us vs n).2:Nat)]∧Below g0 w w':=by
 have hg0:=hb.lt;obtain⟨ad,cap,rfl,_,_,hlt1,hcell⟩:=h.open;obtain⟨ad2,cap2,rfl,_,_,hlt2,hcell2⟩:=h2.open;obtain⟨n,hn⟩:∃n,max us.length vs.length=n:=⟨_,rfl⟩
 rw[hn];have n1:us.length≤n:=by omega
 have n2:vs.length≤n:=by omega
 have n3:n≤17592186044416:=by omega
 have hni:max (us.length:Int) (vs.length:Int)=(n:Int):=by omega
 have HC:=hid hcell;have HC2:=hid hcell2;have HLT1:=hid hlt1;have HLT2:=hid hlt2;have HFN:=hid hF;have HF1:=hid hF1;have HB0:=hid hb;have hn3:n≤us.length∨n≤vs.length:=by omega
 clear h h2 hcell hcell2 hlt1 hlt2 hF hF1 hb hn;clear hni
 go_enter Tryz.func145,Tryz.ntmps145
 go_upto_region 1 with(fail)
 go_cut [7] (fun t w'=>w'=w∧t=.int .i64 (n:Nat))
 case first=>
  go_wp2
  all_goals
   go_meet
   case rel=>exact⟨rfl,by congr 1;omega⟩
 case rest=>
  obtain⟨rfl,rfl⟩:=hcut
  go_wp2_with (at_make;refine zM jT rfl _ _ rfl wc.heap.size _ _ _ _ n (n+1) rfl rfl rfl (by omega) (by omega) (by omega) (Below.refl _ _) (pC _) ?_)
  intro w1 ho1 hb1 _
  go_wp2
  go_loopw [23] (fun t wr=>∃(i:Nat)(cur:List Nat),t=.int .i64 i∧i≤n∧wr.ownsRow wc.heap.size 130 1 (.slice (some ⟨wc.heap.size,0,none⟩) n (n+1)) n (zS cur)∧Below g0 wc wr∧wc.heap.size≤wr.heap.size ∧
    cur.take i=(qI F us vs i).1∧(∀x,x∈(qI F us vs i).1→x<4294967296)∧(qI F us vs i).2≤1∧qK wr g0 130 [.int .u32 ((qI F us vs i).2:Nat)]) (fun t _=>n-(intOf t).toNat)
  case atStart=>exact⟨0,_,rfl,pN _,ho1,hb1.mono (by omega),hb1.size,rfl,by simp[qI],by simp[qI],HB0.out.below hb1 hg0⟩
  case round=>
   obtain⟨i,cur,rfl,hi,hown,hbel,hsz,htk,hlo,hc1,hbox⟩:=hrel;obtain⟨A,hA⟩:∃A,qI F us vs i=A:=⟨_,rfl⟩
   rw[hA]at htk hlo hc1 hbox;obtain⟨al,c⟩:=A;dsimp only at htk hlo hc1 hbox;have HA:=hid hA;have HTK:=hid htk;have HLO:=hid hlo;have HOWN:=hid hown;have HBEL:=hid hbel;have HBOX:=hid hbox;clear hA htk hlo hown hbel hbox ho1 hb1;by_cases hil:i<n
   ·obtain⟨x,hx⟩:∃x,us.getD i 0=x:=⟨_,rfl⟩
    obtain⟨y,hy⟩:∃y,vs.getD i 0=y:=⟨_,rfl⟩
    have hx32:x<4294967296:=by rw[←hx];exact getD_lt us HLT1.out i
    have hy32:y<4294967296:=by rw[←hy];exact getD_lt vs HLT2.out i
    have Q:=hid (HFN.out x y c g0 wr hx32 hy32 hc1 HBOX.out);obtain⟨s1,s2⟩:=HF1.out x y c hx32 hy32 hc1;have hA2:=HA.out;have hgo:qI F us vs (i+1)=(al++[(F x y c).1],(F x y c).2):=by simp only[qI,hA2,hx,hy]
    have HGO:=hid hgo;have HX:=hid hx;have HY:=hid hy;obtain⟨r1,hr1⟩:∃r1,(F x y c).1=r1:=⟨_,rfl⟩
    obtain⟨r2,hr2⟩:∃r2,(F x y c).2=r2:=⟨_,rfl⟩
    rw[hr1,hr2]at Q HGO;rw[hr1]at s1;rw[hr2]at s2;clear hA2 hgo hx hy hr1 hr2;have fin:∀W,W=wr.setCell ⟨g0,0,none⟩ (.int .u32 (r2:Nat))→W.ownsRow wc.heap.size 130 1 (.slice (some ⟨wc.heap.size,0,none⟩) n (n+1)) n (zS cur)∧Below g0 wc W∧qK W g0 130 [.int .u32 (r2:Nat)]∧W.heap.size=wr.heap.size:=by rintro W rfl;refine⟨wMB HOWN.out _ _ (by simp[Value.ownBlock];omega),HBEL.out.setCell (by exact pC _) _,HBOX.out.set 0 _,by simp[World.setCell]⟩
    have HFIN:=hid fin;clear fin;have hci:∀(b off:Nat)(u:Value),b<g0→wc.cell? ⟨b,off,none⟩=some u→wr.cell? ⟨b,off,none⟩=some u:=fun b off u hb hu=>(HBEL.out.cell (p:=⟨b,off,none⟩) hb).trans hu;have HCI:=hid hci;clear hci;by_cases hu:i<us.length
    ·obtain⟨b,off,rfl,_,hbl,hc1'⟩:=HC.out i hu;rw[HX.out]at hc1';have d1:=HCI.out _ _ _ (by omega) hc1';clear hc1';by_cases hv:i<vs.length
     ·obtain⟨b2,off2,rfl,_,hbl2,hc2'⟩:=HC2.out i hv;rw[HY.out]at hc2';have d2:=HCI.out _ _ _ (by omega) hc2';clear hc2'
      go_wp2_with fail
      refine Q.out.mono ?_;rintro e w2 ⟨rfl,hw2⟩;obtain⟨o2,b2',x2,z2⟩:=HFIN.out w2 hw2;obtain⟨g1,g2⟩:=jP o2 i hil;have hs:=jQ o2 i r1;have hln:=zF o2;have O2:=hid o2;have B2:=hid b2';have X2:=hid x2;clear hw2 o2 b2' x2
      go_wp2
      go_roundw
      case measure=>simp[intOf];omega
      case rel=>
       refine⟨i+1,cur.set i r1,by go_num,by omega,hs.1,B2.out.setCell (by show g0≤wc.heap.size;omega) _,by simp[World.setCell];omega,?_,?_,?_,?_⟩
       ·rw[HGO.out,z7 _ _ _ (by omega),HTK.out]
       ·rw[HGO.out];intro z hz;rcases cJ.1 hz with h|h
        ·exact HLO.out z h
        ·simp only[List.mem_singleton]at h;omega
       ·rw[HGO.out];exact s2
       ·rw[HGO.out];exact X2.out.other _ _ (by show g0≠wc.heap.size;omega)
     ·obtain rfl:y=0:=by rw[←HY.out];exact wB8 vs i (by omega)
      go_wp2_with fail
      refine Q.out.mono ?_;rintro e w2 ⟨rfl,hw2⟩;obtain⟨o2,b2',x2,z2⟩:=HFIN.out w2 hw2;obtain⟨g1,g2⟩:=jP o2 i hil;have hs:=jQ o2 i r1;have hln:=zF o2;have O2:=hid o2;have B2:=hid b2';have X2:=hid x2;clear hw2 o2 b2' x2
      go_wp2
      go_roundw
      case measure=>simp[intOf];omega
      case rel=>
       refine⟨i+1,cur.set i r1,by go_num,by omega,hs.1,B2.out.setCell (by show g0≤wc.heap.size;omega) _,by simp[World.setCell];omega,?_,?_,?_,?_⟩
       ·rw[HGO.out,z7 _ _ _ (by omega),HTK.out]
       ·rw[HGO.out];intro z hz;rcases cJ.1 hz with h|h
        ·exact HLO.out z h
        ·simp only[List.mem_singleton]at h;omega
       ·rw[HGO.out];exact s2
       ·rw[HGO.out];exact X2.out.other _ _ (by show g0≠wc.heap.size;omega)
    ·obtain rfl:x=0:=by rw[←HX.out];exact wB8 us i (by omega)
     by_cases hv:i<vs.length
     ·obtain⟨b2,off2,rfl,_,hbl2,hc2'⟩:=HC2.out i hv;rw[HY.out]at hc2';have d2:=HCI.out _ _ _ (by omega) hc2';clear hc2'
      go_wp2_with fail
      refine Q.out.mono ?_;rintro e w2 ⟨rfl,hw2⟩;obtain⟨o2,b2',x2,z2⟩:=HFIN.out w2 hw2;obtain⟨g1,g2⟩:=jP o2 i hil;have hs:=jQ o2 i r1;have hln:=zF o2;have O2:=hid o2;have B2:=hid b2';have X2:=hid x2;clear hw2 o2 b2' x2
      go_wp2
      go_roundw
      case measure=>simp[intOf];omega
      case rel=>
       refine⟨i+1,cur.set i r1,by go_num,by omega,hs.1,B2.out.setCell (by show g0≤wc.heap.size;omega) _,by simp[World.setCell];omega,?_,?_,?_,?_⟩
       ·rw[HGO.out,z7 _ _ _ (by omega),HTK.out]
       ·rw[HGO.out];intro z hz;rcases cJ.1 hz with h|h
        ·exact HLO.out z h
        ·simp only[List.mem_singleton]at h;omega
       ·rw[HGO.out];exact s2
       ·rw[HGO.out];exact X2.out.other _ _ (by show g0≠wc.heap.size;omega)
     ·exfalso;omega
   ·obtain rfl:i=n:=by omega
    have hln:=zF HOWN.out;have e:cur=al:=by rw[←HTK.out,pR (by omega)]
    have HE:=hid e;clear hln e
    go_wp2
    go_ret
    refine⟨i,_,rfl,rfl,?_⟩;rw[HA.out];refine⟨by rw[←HE.out];exact HOWN.out,HLO.out,hc1,HBOX.out,HBEL.out⟩
end Go.Proofs.YtdcjmnfngabhoaaGreat
