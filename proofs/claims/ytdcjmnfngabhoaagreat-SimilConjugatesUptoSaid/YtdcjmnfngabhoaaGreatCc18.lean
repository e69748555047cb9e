/- simileref05: May, AllMay, Sign, Neg, Sub, Inv, Quo, Cmp told of trees. ALLOC -/
import Derived.Test.YtdcjmnfngabhoaaGreatCc17
set_option linter.all false
set_option maxRecDepth 20000
set_option maxHeartbeats 6400000
namespace Go.Proofs.YtdcjmnfngabhoaaGreat
open Go.RowKit Go.Ev Go.Vl
def sgnQ(q:QQ):Int:=sgn (intOf q.1)*sgn (intOf q.2)
theorem qD9(q:QQ)(h:okZ q.1)(h':okZ q.2):wG Tryz.prog 69 [vQ q] (fun y=>y=.int .i64 (sgnQ q)):=by
 refine wD wE Tryz.func69 rfl rfl rfl rfl fun w0=>?_;have q1:=wID q.1 h;have q2:=wID q.2 h';have s1:=wAI (intOf q.1);have s2:=wAI (intOf q.2);have hb:-1≤sgnQ q∧sgnQ q≤1:=by unfold sgnQ;rcases s1 with e|e|e<;>rcases s2 with g|g|g<;>rw[e.2,g.2]<;>decide
 unfold sgnQ at hb ⊢;obtain⟨⟨x,l⟩,⟨y,m⟩⟩:=q;dsimp only at q1 q2 hb ⊢;generalize sgn (intOf (x,l))=a at *
 generalize sgn (intOf (y,m))=b at *
 repeat (first|refine wv ?_|refine wg rfl sB ?_|refine wc q1 ?_|refine wc q2 ?_|refine wz ?_)
 exact⟨.inl rfl,_,rfl,rfl⟩
theorem rneg5_v(a:QQ)(ha:okS a):wG Tryz.prog 122 [vQ a] (fun y=>y=nR (-wX a)):=by
 refine wD wE Tryz.func122 rfl rfl rfl rfl fun w0=>?_;have q1:=qA2 a.1 ha.ok.1;have m1:=w8 a.1 ha.1;have n1:=ha.2.2.1;have q2:=wIG (zn (-intOf a.1)) a.2 (kY _ (by rw[lm_neg];omega)) ha.ok.2 ha.2.2.2.2;rw[wF]at q2;have e:-wX a=Rat.divInt (-intOf a.1) (intOf a.2):=by unfold wX;rw[Rat.neg_divInt]
 rw[e];obtain⟨⟨x,l⟩,⟨y,m⟩⟩:=a;repeat (first|refine wl ?_|refine wv ?_|refine wc q1 ?_|refine wc q2 ?_|refine wz ?_)
 exact⟨.inl rfl,_,rfl,rfl⟩
theorem okS_rat{a:QQ}(ha:okS a):lm (wX a).num≤68719476736∧lm ((wX a).den:Int)≤68719476736:=by obtain⟨n1,n2⟩:=v7 (intOf a.1) (intOf a.2) ha.2.2.2.2;have m1:=w8 a.1 ha.1;have m2:=w8 a.2 ha.2.1;have k1:=ha.2.2.1;have k2:=ha.2.2.2.1;unfold wX;exact⟨by omega,by omega⟩
theorem rsub5_v(a b:QQ)(ha:okS a)(hb:okS b):wG Tryz.prog 71 [vQ a,vQ b] (fun y=>y=nR (wX a-wX b)):=by
 refine wD wE Tryz.func71 rfl rfl rfl rfl fun w0=>?_;have q1:=rneg5_v b hb;have hr:=okS_rat hb;have q2:=radd5_v a (qn (-wX b)) ha (wKF _ (by show lm (-(wX b).num)≤_;rw[lm_neg];exact hr.1) hr.2);rw[qY,←Rat.sub_eq_add_neg]at q2;generalize wX a-wX b=z at *
 obtain⟨⟨x,l⟩,⟨y,m⟩⟩:=a;obtain⟨⟨x',l'⟩,⟨y',m'⟩⟩:=b;repeat (first|refine wl ?_|refine wv ?_|refine wc q1 ?_|refine wc q2 ?_|refine wz ?_)
 exact⟨.inl rfl,_,rfl,rfl⟩
theorem rinv5_v(a:QQ)(ha:okS a)(h0:intOf a.1≠0):wG Tryz.prog 70 [vQ a] (fun y=>y=nR (wX a)⁻¹):=by
 refine wD wE Tryz.func70 rfl rfl rfl rfl fun w0=>?_;have q1:=wIG a.2 a.1 ha.ok.2 ha.ok.1 h0;have e:(wX a)⁻¹=Rat.divInt (intOf a.2) (intOf a.1):=by unfold wX;rw[Rat.inv_divInt]
 rw[e];obtain⟨⟨x,l⟩,⟨y,m⟩⟩:=a;repeat (first|refine wl ?_|refine wv ?_|refine wc q1 ?_|refine wz ?_)
 exact⟨.inl rfl,_,rfl,rfl⟩
def noM:MM:=((false,[]),[])
def wG1(m:MM):MM:=if chk m=0 then qC m.1 m.2 else noM
theorem qA5(x:Bool)(l:List Nat)(t:List (List ZZ))(h:okM ((x,l),t) 68719476736):wG Tryz.prog 44 [.agg [.bool x,vL l,vT t]] (fun y=>y=.tup [vM (wG1 ((x,l),t)),.int .i64 (chk ((x,l),t))]):=by
 refine wD wE Tryz.func44 rfl rfl rfl rfl fun w0=>?_;have od:okZ (x,l):=⟨h.1,pD h.2.1 (by decide)⟩
 have q1:=wSJ ((x,l),t) od (pD h.2.2.1.1 (by decide));unfold wG1;by_cases h0:chk ((x,l),t)=0
 ·have q2:=made_v (x,l) t od (chk0 h0).1 (fun r hr z hz=>⟨((h.2.2.1.2 r hr).2 z hz).1,pD ((h.2.2.1.2 r hr).2 z hz).2 (by decide)⟩) (pD h.2.2.1.1 (by decide)) (fun r hr=>pD (h.2.2.1.2 r hr).1 (by decide));rw[if_pos h0];rw[h0]at q1 ⊢;generalize qC (x,l) t=M at *
  obtain⟨⟨y,k⟩,u⟩:=M;repeat (first|refine wl ?_|refine wv ?_|refine wg rfl nF ?_|refine wc q1 ?_|refine wc q2 ?_|refine wz ?_)
  exact⟨.inl rfl,_,rfl,rfl⟩
 ·rw[if_neg h0];generalize chk ((x,l),t)=c at *
  repeat (first|refine wl ?_|refine wv ?_|refine wg rfl nT ?_|refine wc q1 ?_|refine wz ?_)
  exact⟨.inl rfl,_,rfl,rfl⟩
def sqE(m:MM):Int:=if chk m=0 then(if m.2.length=wS m.2∧m.2.length≠0 then 0 else 3)else chk m
def sqN(m:MM):MM:=if sqE m=0 then qC m.1 m.2 else noM
theorem yF(d:ZZ)(t:List (List ZZ)):(qC d t).2.length=t.length:=pH ..
theorem wKH(d:ZZ)(t:List (List ZZ)):wS (qC d t).2=wS t:=by
 cases t with
 |nil=>rfl
 |cons r t=>exact pH ..
theorem head_at(u:List (List ZZ))(h:u.length≠0):∃r,u[0]? = some r∧r.length=wS u:=by
 cases u with
 |nil=>exact absurd rfl h
 |cons r u=>exact⟨r,rfl,rfl⟩
theorem chk_nn{m:MM}(h:chk m≠0):chk m=6∨chk m=2:=by
 unfold chk at h ⊢;split
 ·exact .inl rfl
 ·rename_i h1;rw[if_neg h1]at h;split
  ·rename_i h2;rw[if_pos h2]at h;exact absurd rfl h
  ·exact .inr rfl
theorem square_v(x:Bool)(l:List Nat)(t:List (List ZZ))(h:okM ((x,l),t) 68719476736):wG Tryz.prog 53 [.agg [.bool x,vL l,vT t]] (fun y=>y=.tup [vM (sqN ((x,l),t)),.int .i64 (sqE ((x,l),t))]):=by
 refine wD wE Tryz.func53 rfl rfl rfl rfl fun w0=>?_;have q1:=qA5 x l t h;have hlen:=yF (x,l) t;have hcol:=wKH (x,l) t;have hb:=h.2.2.1.1;unfold wG1 at q1;unfold sqN;obtain⟨E,hE⟩:∃E,sqE ((x,l),t)=E:=⟨_,rfl⟩
 rw[hE];unfold sqE at hE;dsimp only at *
 by_cases h0:chk ((x,l),t)=0
 ·rw[if_pos h0]at q1 hE;rw[h0]at q1;generalize qC (x,l) t=M at *
  obtain⟨⟨y,k⟩,u⟩:=M;dsimp only at hlen hcol;rw[←hlen,←hcol]at hE;rw[←hlen]at hb;clear h hlen hcol;have hul:=wAE u;by_cases h1:u.length=0
  ·rw[if_neg (fun hh=>hh.2 h1)]at hE;subst hE;rw[if_neg (by decide)];repeat (first|refine wc q1 ?_|refine wg rfl (sL hul) ?_|refine wl ?_|refine wv ?_|refine wg rfl cT ?_|refine wg rfl nF ?_|refine vD rfl rfl rfl rfl rfl rfl ?_|refine wz ?_)
   exact⟨.inl rfl,_,rfl,rfl⟩
  ·obtain⟨r0,hr0,hrl⟩:=head_at u h1;have hg:=vT_at u 0 r0 hr0;by_cases h2:u.length=wS u
   ·rw[if_pos ⟨h2,h1⟩]at hE;subst hE;rw[if_pos rfl];repeat (first|refine wc q1 ?_|refine wg rfl (sL hul) ?_|refine wg rfl (sL (kW _)) ?_|refine wg rfl (sX 0 hg) ?_|refine wl ?_|refine wv ?_|refine wg rfl cF ?_|refine wg rfl nF ?_|refine wz ?_)
    exact⟨.inl rfl,_,rfl,rfl⟩
   ·rw[if_neg (fun hh=>h2 hh.1)]at hE;subst hE;rw[if_neg (by decide)];repeat (first|refine wc q1 ?_|refine wg rfl (sL hul) ?_|refine wg rfl (sL (kW _)) ?_|refine wg rfl (sX 0 hg) ?_|refine wl ?_|refine wv ?_|refine wg rfl cF ?_|refine wg rfl nT ?_|refine wg rfl nF ?_|refine wz ?_)
    exact⟨.inl rfl,_,rfl,rfl⟩
 ·rw[if_neg h0]at q1 hE;have hc:=chk_nn h0;rw[hE]at q1 hc h0;rw[if_neg h0];clear hE h;repeat (first|refine wl ?_|refine wv ?_|refine wg rfl nT ?_|refine wc q1 ?_|refine wz ?_)
  exact⟨.inl rfl,_,rfl,rfl⟩
def wNC(m:MM):MM:=if jK m=0 then qC m.1 m.2 else noM
theorem sfit_v(x:Bool)(l:List Nat)(t:List (List ZZ))(h:okM ((x,l),t) 68719476736)(hH:chk ((x,l),t)=0→wG Tryz.prog 45 [vM (qC (x,l) t)] (fun y=>y=.tup [.int .i64 (htM ((x,l),t):Nat),.int .i64 0])):wG Tryz.prog 25 [.agg [.bool x,vL l,vT t]] (fun y=>y=.tup [vM (wNC ((x,l),t)),.int .i64 (jK ((x,l),t))]):=by
 refine wD wE Tryz.func25 rfl rfl rfl rfl fun w0=>?_;have q1:=qA5 x l t h;have hlen:=yF (x,l) t;have hcol:=wKH (x,l) t;have hb:=h.2.2.1.1;unfold wG1 at q1;unfold wNC;obtain⟨E,hE⟩:∃E,jK ((x,l),t)=E:=⟨_,rfl⟩
 rw[hE];unfold jK at hE;dsimp only at *
 by_cases h0:chk ((x,l),t)=0
 ·have q2:=hH h0;generalize htM ((x,l),t)=ht at *
  rw[if_pos h0]at q1 hE;rw[h0]at q1;generalize qC (x,l) t=M at *
  obtain⟨⟨y,k⟩,u⟩:=M;dsimp only at hlen hcol;rw[←hlen,←hcol]at hE;rw[←hlen]at hb;clear h hlen hcol hH;have hul:=wAE u;by_cases h1:u.length=0
  ·rw[if_neg (fun hh=>hh.2 h1)]at hE;subst hE;rw[if_neg (by decide)];repeat (first|refine wc q1 ?_|refine wg rfl (sL hul) ?_|refine wl ?_|refine wv ?_|refine wg rfl cT ?_|refine wg rfl nF ?_|refine vD rfl rfl rfl rfl rfl rfl ?_|refine wz ?_)
   exact⟨.inl rfl,_,rfl,rfl⟩
  ·obtain⟨r0,hr0,hrl⟩:=head_at u h1;have hg:=vT_at u 0 r0 hr0;by_cases h2:u.length=wS u
   ·rw[if_pos ⟨h2,h1⟩]at hE;by_cases h3:ht≤4096
    ·by_cases h4:u.length≤24
     ·rw[if_pos ⟨h4,h3⟩]at hE;subst hE;rw[if_pos rfl];repeat (first|refine wc q1 ?_|refine wc q2 ?_|refine wg rfl (sL hul) ?_|refine wg rfl (sL (kW _)) ?_|refine wg rfl (sX 0 hg) ?_|refine wl ?_|refine wv ?_|refine wg rfl cF ?_|refine wg rfl nF ?_|refine wz ?_)
      exact⟨.inl rfl,_,rfl,rfl⟩
     ·rw[if_neg (fun hh=>h4 hh.1)]at hE;subst hE;rw[if_neg (by decide)];repeat (first|refine wc q1 ?_|refine wc q2 ?_|refine wg rfl (sL hul) ?_|refine wg rfl (sL (kW _)) ?_|refine wg rfl (sX 0 hg) ?_|refine wl ?_|refine wv ?_|refine wg rfl cT ?_|refine wg rfl cF ?_|refine wg rfl nF ?_|refine wz ?_)
      exact⟨.inl rfl,_,rfl,rfl⟩
    ·rw[if_neg (fun hh=>h3 hh.2)]at hE;subst hE;rw[if_neg (by decide)];repeat (first|refine wc q1 ?_|refine wc q2 ?_|refine wg rfl (sL hul) ?_|refine wg rfl (sL (kW _)) ?_|refine wg rfl (sX 0 hg) ?_|refine wl ?_|refine wv ?_|refine wg rfl cT ?_|refine wg rfl cF ?_|refine wg rfl nF ?_|refine vD rfl rfl rfl rfl rfl rfl ?_|refine wz ?_)
     exact⟨.inl rfl,_,rfl,rfl⟩
   ·rw[if_neg (fun hh=>h2 hh.1)]at hE;subst hE;rw[if_neg (by decide)];repeat (first|refine wc q1 ?_|refine wg rfl (sL hul) ?_|refine wg rfl (sL (kW _)) ?_|refine wg rfl (sX 0 hg) ?_|refine wl ?_|refine wv ?_|refine wg rfl cF ?_|refine wg rfl nT ?_|refine wg rfl nF ?_|refine wz ?_)
    exact⟨.inl rfl,_,rfl,rfl⟩
 ·rw[if_neg h0]at q1 hE;have hc:=chk_nn h0;rw[hE]at q1 hc h0;rw[if_neg h0];clear hE h hH;repeat (first|refine wl ?_|refine wv ?_|refine wg rfl nT ?_|refine wc q1 ?_|refine wz ?_)
  exact⟨.inl rfl,_,rfl,rfl⟩
end Go.Proofs.YtdcjmnfngabhoaaGreat
