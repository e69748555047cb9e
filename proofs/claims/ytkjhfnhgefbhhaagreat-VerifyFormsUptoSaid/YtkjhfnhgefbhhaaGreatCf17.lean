/- simileref05.Common: told of trees. ALLOC -/
import Derived.Test.YtkjhfnhgefbhhaaGreatCf16
import Derived.Test.YtkjhfnhgefbhhaaGreatCf08
import Derived.Test.YtkjhfnhgefbhhaaGreatCf12
set_option linter.all false
set_option maxRecDepth 20000
set_option maxHeartbeats 6400000
namespace Go.Proofs.YtkjhfnhgefbhhaaGreat
open Go.RowKit Go.Ev Go.Vl
def qM (qs:List QQ):Nat:=wHH (qs.map fun q=>((wI q).den:Int)) 1
def zW (D:Int) (q:QQ):ZZ:=zn (wI q*(D:Rat)).num
theorem qH2 (a b:List Int) (n:Nat):wHH (a++b) n=wHH b (wHH a n):=by
 unfold wHH; rw [pE4]
theorem lcmN_two (a:Nat) (x:Int):wHH [(a:Int),x] 1=Nat.lcm a x.natAbs:=by
 show Nat.lcm (Nat.lcm 1 (a:Int).natAbs) x.natAbs=_
 rw [mS,Nat.lcm_one_left]
theorem jQ {α:Type} {qs:List α} {j:Nat} {q:α} (h:qs[j]? = some q):qs.take (j+1)=qs.take j++[q]:=by
 rw [mO,h]
 rfl
theorem wJA (q D:Rat) (hD:D.den=1):lm (q*D).num≤lm q.num+lm D.num∧lm ((q*D).den:Int)≤lm (q.den:Int):=by
 have e:q*D=Rat.divInt (q.num*D.num) (q.den*D.den:Nat):=by
  conv=>lhs; rw [← cU q,← cU D]
  rw [dE]
  rfl
 have hne:((q.den*D.den:Nat):Int)≠0:=by
  have:=q.den_nz; rw [hD,gC]
  omega
 obtain ⟨h1,h2⟩:=zF (q.num*D.num) (q.den*D.den:Nat) hne; rw [e]
 refine ⟨pC h1 (qJ ..),?_⟩
 rw [hD,gC] at h2 ⊢; exact h2
theorem common_v (qs:List QQ) (D:Nat) (hD:0<D) (hDl:lm D≤68719476736) (hq:∀ q∈qs,okS q∧(wI q).den∣D) (hl:qs.length≤1099511627776):wD Tryz.prog 121 [vQs qs] (fun y=>y=.tup [nI (qM qs:Nat),.list ((qs.map (zW (qM qs:Nat))).map wS)]):=by
 refine wC wG Tryz.func121 rfl rfl rfl rfl fun w0=>?_
 have q0:=rof_v 1 (by decide)
 repeat (first | refine wc q0 ?_ | refine wg rfl (sL (qW qs)) ?_ | refine wl ?_ | refine wv ?_ | refine wz ?_)
 refine wJ (fun b:Nat × Nat=>[jV 0 (vQs qs),jB 4 2,jC 5 [.v (.bool false),.nils],jB 8 4,jC 9 [.v (.bool (zn (b.2:Nat)).1),.v (vL (zn (b.2:Nat)).2)],jV 22 (vQs qs),jI 24 (qs.length),jI 26 (b.1)])
  (fun b=>b.1≤qs.length∧0<b.2∧b.2∣D∧b.2=qM (qs.take b.1)) (fun b=>qs.length - b.1) (0,1) (fun _=>rfl) ⟨pH _,by decide,gD _,rfl⟩ ⟨rfl,rfl,rfl,rfl,rfl,rfl,rfl,rfl,trivial⟩ fun ⟨j,a⟩ hI=>?_
 obtain ⟨hJ,ha,had,hae⟩:=hI; dsimp only at hJ ha had hae ⊢
 rcases pG j qs.length with hj | hj
 ·obtain ⟨q,hqe⟩:=gE hj
  obtain ⟨o1,o2⟩:=hq q (pD hqe); have hg:=kO qs j q hqe
  have q1:=wPG q o1.ok o1.2.2.2.2; have hden:=(wI q).den_nz
  have hla:lm (a:Int)≤68719476736:=pC (xO (cO hD had)) hDl; have hlq:lm ((wI q).den:Int)≤68719476736:=pC (xO (cO hD o2)) hDl
  have q2:=lcm3_v [zn (a:Nat),zn ((wI q).den:Int)] D hD (by omega) (fun z hz=>by
   rcases pQ.1 hz with rfl | hz
   ·exact ⟨qF _ (by omega),by rw [wE]; omega,by rw [wE]; exact had⟩
   ·rw [pL.1 hz]
    exact ⟨qF _ (by omega),by rw [wE]; omega,by rw [wE]; exact o2⟩) (by show 2≤1099511627776; decide)
  have e1:wHH ([zn (a:Nat),zn ((wI q).den:Int)].map intOf) 1=Nat.lcm a (wI q).den:=by
   show wHH [intOf (zn (a:Nat)),intOf (zn ((wI q).den:Int))] 1=_
   rw [wE,wE,lcmN_two,mS]
  rw [e1] at q2; have e2:Nat.lcm a (wI q).den=qM (qs.take (j+1)):=by
   rw [jQ hqe]; unfold qM at hae ⊢
   rw [fM,qH2,← hae]; show _=Nat.lcm a ((wI q).den:Int).natAbs
   rw [mS]
  have e3:0<Nat.lcm a (wI q).den:=pG4 ha (by omega)
  have e4:Nat.lcm a (wI q).den∣D:=pG5 had o2; clear hae
  unfold nR qn at q1; obtain ⟨⟨x,l⟩,⟨y,k⟩⟩:=q
  repeat (first | refine wg rfl (sX j hg) ?_ | refine wc q1 ?_ | refine wh q2 ?_ | refine wl ?_ | refine wv ?_ | refine wg rfl cT ?_ | refine wg rfl sB ?_ | refine wz ?_)
  exact ⟨(j+1,_),⟨hj,e3,e4,e2⟩,by dsimp only; omega,rfl,rfl,rfl,rfl,rfl,rfl,rfl,rfl,trivial⟩
 ·rw [pN hj] at hae
  subst hae; obtain ⟨C,hCe⟩:∃ C,qM qs=C:=⟨_,rfl⟩
  rw [hCe] at ha had ⊢; have hCl:lm (C:Int)≤68719476736:=pC (xO (cO hD had)) hDl
  have q3:=rint5_v (zn (C:Nat)) (qF _ (by omega))
  rw [wE] at q3
  repeat (first | refine wg rfl (sL (qW qs)) ?_ | refine wv ?_ | refine wg rfl cF ?_ | refine wz ?_)
  refine zR (d:=7) (id:=1) (k:=2) (T:=25) rfl rfl rfl rfl ?_
  refine wJ (fun i:Nat=>[jB 4 2,jC 5 [.v (.bool false),.nils],jB 8 4,jC 9 [.v (.bool (zn (C:Nat)).1),.v (vL (zn (C:Nat)).2)],jO 14 1 25 2 (((qs.take i).map (zW (C:Nat))).map wS),jV 48 (vQs qs),jI 50 (qs.length),jI 52 i])
   (fun i=>i≤qs.length) (fun i=>qs.length - i) 0 (fun _=>rfl) (pH _) ⟨rfl,rfl,rfl,rfl,⟨_,rfl⟩,rfl,rfl,rfl,trivial⟩ fun i hI=>?_
  rcases pG i qs.length with hi | hi
  ·obtain ⟨q,hqe⟩:=gE hi
   obtain ⟨o1,o2⟩:=hq q (pD hqe); have hg:=kO qs i q hqe
   have q4:=wS9 q (qn ((C:Int):Rat)) o1 (vV _ (by simpa using hCl) (by
    show lm ((((C:Int):Rat).den:Nat):Int)≤_
    rw [pA0]; exact pC (lm_dvd (y:=(C:Int)) (Int.one_dvd _) (by omega)) hCl))
   rw [wUF] at q4; have hs:((qs.take i).map (zW (C:Nat))).map wS++[wS (zW (C:Nat) q)]=((qs.take (i+1)).map (zW (C:Nat))).map wS:=by
    rw [jQ hqe]
    simp
   have hlen:(((qs.take i).map (zW (C:Nat))).map wS).length=i:=by rw [pF,pF,pM]; omega
   have wJJ:∀ e∈[wS (zW (C:Nat) q)],e.length=2:=fun e h=>by rw [pL.1 h]; rfl
   unfold nR qn at q3 q4; unfold zW at hs wJJ hlen
   obtain ⟨⟨x,l⟩,⟨y,k⟩⟩:=q
   repeat (first | refine wg rfl (sX i hg) ?_ | refine wc q3 ?_ | refine wc q4 ?_ | refine wf rfl rfl (sA 7001 [wS (zn (wI ((x,l),(y,k))*((C:Int):Rat)).num)] 2 32 wJJ hs) ?_ | refine wl ?_ | refine wv ?_ | refine wg rfl cT ?_ | refine wg rfl sB ?_ | refine wz ?_)
   exact ⟨i+1,hi,by omega,rfl,rfl,rfl,rfl,⟨_,rfl⟩,rfl,rfl,rfl,trivial⟩
  ·have hie:i=qs.length:=by omega
   subst hie; rw [mH]
   repeat (first | refine wv ?_ | refine wg rfl cF ?_ | refine wz ?_)
   exact ⟨.inl rfl,_,rfl,rfl⟩
end Go.Proofs.YtkjhfnhgefbhhaaGreat
/- Parts of a list, with three bounds. -/
namespace Go.Vl
open Go.RowKit Go.Ev
section
variable {P:Program} {C:Cx} {w0:Base} {n:Nat} {st:St} {o:Oper}
theorem sem_slice3 (hC:CxOk P C) {t elem:TypeId} {x y z z3:Operand} {es es':List (List V)} {l h k:Nat} {ql qh q3:Int} {kl kh k3:IntKind} (hop:o.op=.slice t x (some y) (some z) (some z3)) (hx:opv (lk st) x=some (.v (.list es))) (hy:opv (lk st) y=some (.v (.int kl ql))) (hz:opv (lk st) z=some (.v (.int kh qh))) (hz3:opv (lk st) z3=some (.v (.int k3 q3)))
  (hql:ql=(l:Nat)) (hqh:qh=(h:Nat)) (hq3:q3=(h:Nat)) (ht:C.und t=some (.slice elem)) (hs:C.size elem=some k) (hk:∀ e∈es,e.length=k) (h1:l≤h) (h2:h≤es.length) (he:(es.take h).drop l=es') (hd:dLt n o.dst=true) :
  wP P w0 n o (rdO x++(rdO y++(rdO z++rdO z3))) (dput o.dst (some (.sv (.v (.list es'))))) [] (lk st):=by
 subst hql hqh hq3 he; exact qH hd fun f hf β a w hb=>by
  obtain ⟨f1,f2⟩:=qO hf; obtain ⟨f3,f4⟩:=qO f2
  obtain ⟨f5,f6⟩:=qO f4; have e1:=hb.val (x:=x) (y:=.list es) (by rw [wK f1]; exact hx)
  have e2:=wX5 (st:=lk st) (x:=some y) (m:=some l) (by simp [bnd,hy]) f f3 β a w hb
  have e3:=wX5 (st:=lk st) (x:=some z) (m:=some h) (by simp [bnd,hz]) f f5 β a w hb
  have e4:=wX5 (st:=lk st) (x:=some z3) (m:=some h) (by simp [bnd,hz3]) f f6 β a w hb
  have hb3:∀ cap,es.length≤cap→(Instr.sliceBounds true es.length cap (some (a.eval y)) (some (a.eval z)) (some (a.eval z3))).run P w=.ok (l,h,h) w:=by
   intro cap hcap
   have:=(yR (P:=P) (w:=w) (len:=es.length) (cap:=cap) (cc:=cap) (lo:=some l) (hi:=some h) (mx:=some h) (l:=l) (h:=h) (m:=h) ?_ (pE _) e2 e3 e4).1
   ·simpa using this
   ·unfold yI
    simp only [Option.getD_some]
    have b1:Nat.ble h cap=true:=by rw [bS]; omega
    have b2:Nat.ble h h=true:=by rw [bS]; exact pE _
    have b3:Nat.ble l h=true:=by rw [bS]; exact h1
    rw [b1,b2,b3]
    rfl
  generalize hu:a.eval x=u at e1; obtain ⟨ad,cap,hsh⟩:=e1.list_shape
  subst hsh; cases ad with
  | none =>
   cases e1
   simp only [List.length_nil,Nat.le_zero] at h2
   obtain rfl:=h2; simp only [Nat.le_zero] at h1
   subst h1; have:=hb3 0 (by simp)
   refine ⟨.slice none 0 0,?_,by simp; exact .nils⟩
   simp only [List.length_nil] at this
   simp [execOp,hop,hu,Instr.sliceAt,wU hC ht,Instr.slice,this,wY hC hs]
  | some p =>
   have hcc:es.length≤cap:=by
    cases e1 with
    | list _ _ hc=>exact hc
    | emp=>simp
   have:=hb3 cap hcc; refine ⟨.slice (some (if h=l then p else p.add (l*k))) (h - l) (h - l),?_,?_⟩
   ·simp only [execOp,hop,hu,Option.map_some,Instr.sliceAt,Sem.run_bind,wU hC ht,Result.andThen_ok,Instr.slice,this,wY hC hs,Sem.run_pure]
    split <;> rfl
   ·generalize hes:es=es' at e1 hk h2
    cases e1 with
    | emp =>
     subst hes; have:(([]:List (List V)).take h).drop l=[]:=by simp
     simp only [List.length_nil] at h2
     rw [this,show h - l=0 by omega]
     exact .emp _ _
    | @list _ k' us b off _ hk' ho hc hl' hb' hu' =>
     subst hes; have e2:=Rep.list_part (S:=wZ β) (w:=w) (.list hk' ho hc hl' hb' hu') hk l h h h1 h2 (pE _) (by omega)
     simp only [kQ]
     exact e2
end
end Go.Vl
/- simileref11.From: told of trees. ALLOC -/
namespace Go.Proofs.YtkjhfnhgefbhhaaGreat
open Go.RowKit Go.Ev Go.Vl
theorem flat_part {α β:Type} (f:α→β) (R:List (List α)) (j:Nat) (r:List α) (h:R[j]? = some r):((R.flatten.map f).take ((R.take j).flatten.length+r.length)).drop (R.take j).flatten.length=r.map f:=by
 have e:R=R.take j++r :: R.drop (j+1):=by
  rw [← zZ R j r h,bB]
 rw [← fN,← List.map_drop]
 congr 1
 obtain ⟨A,hA⟩:∃ A,R.take j=A:=⟨_,rfl⟩; obtain ⟨B,hB⟩:∃ B,R.drop (j+1)=B:=⟨_,rfl⟩
 rw [hA,hB] at e; rw [hA,e,fY,mZ]
 generalize A.flatten=a; generalize B.flatten=b
 rw [← bO,pF2 (by simp),List.drop_left' rfl]
theorem wI0 (R:List (List QQ)) (D:Nat) (hD:0<D) (hDl:lm D≤68719476736) (hq:∀ q∈R.flatten,okS q∧(wI q).den∣D) (hl:R.length≤68719476736) (hfl:R.flatten.length≤68719476736) (hrl:∀ r∈R,r.length≤68719476736):wD Tryz.prog 65 [.list (qU R)] (fun y=>y=vM (zn (qM R.flatten:Nat),R.map fun r=>r.map (zW (qM R.flatten:Nat)))):=by
 refine wC wG Tryz.func65 rfl rfl rfl rfl fun w0=>?_
 have q1:=common_v R.flatten D hD hDl hq (by omega)
 obtain ⟨C,hCe⟩:∃ C:Int,((qM R.flatten:Nat):Int)=C:=⟨_,rfl⟩; rw [hCe] at q1 ⊢
 repeat (first | refine wg rfl (sL (kR R)) ?_ | refine wl ?_ | refine wv ?_ | refine wz ?_)
 refine zR (d:=3) (id:=1) (k:=4) (T:=89) rfl rfl rfl rfl ?_
 refine wJ (fun j:Nat=>[jV 0 (.list (qU R)),jB 4 2,jC 5 [.v (.bool false),.nils,.nils],jO 6 1 89 4 ((R.take j).flatten.map wH),jV 24 (.list (qU R)),jI 26 (R.length),jI 28 j])
  (fun j=>j≤R.length) (fun j=>R.length - j) 0 (fun _=>rfl) (pH _) ⟨rfl,rfl,rfl,⟨_,rfl⟩,rfl,rfl,rfl,trivial⟩ fun j hJ=>?_
 rcases pG j R.length with hj | hj
 ·obtain ⟨r,hr⟩:=gE hj
  have hg:=j9 R j r hr; have hrr:=hrl r (pD hr)
  have hs:(R.take j).flatten.map wH++r.map wH=(R.take (j+1)).flatten.map wH:=by
   rw [jQ hr]
   simp
  have hlen:((R.take j).flatten.map wH).length≤68719476736:=by
   rw [pF]; refine pC ?_ hfl
   conv=>rhs; rw [← bB j R,fY,pW]
   omega
  have hlen2:(r.map wH).length≤68719476736:=by rw [pF]; exact hrr
  have row4:∀ e∈r.map wH,e.length=4:=fun e h=>by
   obtain ⟨q,_,rfl⟩:=pJ.1 h
   rfl
  repeat (first | refine wg rfl (sX j hg) ?_ | refine wf rfl rfl (z7 (id:=7001) (es2:=r.map wH) (m:=4) (bb:=64) wG rfl rfl rfl rfl rfl rfl rfl rfl rfl rfl rfl row4 rfl (by simp only [maxLen]; omega) (by omega) rfl rfl hs) ?_ | refine wv ?_ | refine wg rfl cT ?_ | refine wg rfl sB ?_ | refine wz ?_)
  exact ⟨j+1,hj,by omega,rfl,rfl,rfl,⟨_,rfl⟩,rfl,rfl,rfl,trivial⟩
 ·have hje:j=R.length:=by omega
  subst hje; rw [mH]
  repeat (first | refine wg rfl (wKG wG rfl rfl rfl rfl rfl rfl rfl rfl rfl) ?_ | refine wh q1 ?_ | refine wg rfl (sL (kR R)) ?_ | refine wl ?_ | refine wv ?_ | refine wg rfl cF ?_ | refine wz ?_)
  refine wKB 8 2 1 77 rfl rfl rfl ?_
  refine wJ (fun b:Nat × Nat=>[jB 4 2,jC 5 [.v (.bool false),.nils,.nils],jV 14 (.list ((R.flatten.map (zW C)).map wS)),jB 16 8,jC 17 [.v (.bool (zn C).1),.v (vL (zn C).2),.own 0 77 1 (kB ((R.take b.1).map fun r=>r.map (zW C)))],jI 18 (b.2),jV 58 (.list (qU R)),jI 60 (R.length),jI 62 (b.1)])
   (fun b=>b.1≤R.length∧b.2=(R.take b.1).flatten.length) (fun b=>R.length - b.1) (0,0) (fun _=>rfl) ⟨pH _,rfl⟩ ⟨rfl,rfl,rfl,rfl,rfl,rfl,rfl,rfl,rfl,trivial⟩ fun ⟨i,a⟩ hI=>?_
  obtain ⟨hI1,hI2⟩:=hI; dsimp only at hI1 hI2 ⊢
  rcases pG i R.length with hi | hi
  ·obtain ⟨r,hr⟩:=gE hi
   have hg:=j9 R i r hr; have hrr:=hrl r (pD hr)
   have hnext:a+r.length=(R.take (i+1)).flatten.length:=by rw [jQ hr,hI2]; simp
   have htot:a+r.length≤R.flatten.length:=by
    rw [hnext]
    conv=>rhs; rw [← bB (i+1) R,fY,pW]
    omega
   have hpart:(((R.flatten.map (zW C)).map wS).take (a+r.length)).drop a=(r.map (zW C)).map wS:=by
    rw [hI2,mT,mT]; exact flat_part _ R i r hr
   have hk2:∀ e∈(R.flatten.map (zW C)).map wS,e.length=2:=fun e h=>by
    obtain ⟨q,_,rfl⟩:=pJ.1 h
    rfl
   have hs:kB ((R.take i).map fun r=>r.map (zW C))++[[V.list ((r.map (zW C)).map wS)]]=kB ((R.take (i+1)).map fun r=>r.map (zW C)):=by
    rw [jQ hr]; unfold kB
    simp
   have hlen:(kB ((R.take i).map fun r=>r.map (zW C))).length=i:=by rw [jP,pF,pM]; omega
   have wB2:∀ e∈[[V.list ((r.map (zW C)).map wS)]],e.length=1:=fun e h=>by rw [pL.1 h]; rfl
   have hle:a+r.length≤((R.flatten.map (zW C)).map wS).length:=by rw [pF,pF]; exact htot
   repeat (first | refine wg rfl (sL (qW r)) ?_ | refine wg rfl (sX i hg) ?_ | refine wg rfl (sem_slice3 (l:=a) (h:=a+r.length) wG rfl rfl rfl rfl rfl rfl rfl rfl rfl rfl hk2 (by omega) hle hpart rfl) ?_ | refine wf rfl rfl (sA 7002 [[V.list ((r.map (zW C)).map wS)]] 1 24 wB2 hs) ?_ | refine wv ?_ | refine wg rfl cT ?_ | refine wg rfl sB ?_ | refine wz ?_)
   exact ⟨(i+1,a+r.length),⟨hi,hnext⟩,by dsimp only; omega,rfl,rfl,rfl,rfl,rfl,rfl,rfl,rfl,rfl,trivial⟩
  ·have hie:i=R.length:=by omega
   subst hie; rw [mH]
   repeat (first | refine wv ?_ | refine wg rfl cF ?_ | refine rr_vfx wG [.tmp 8] rfl rfl rfl rfl rfl ?_ | refine wz ?_)
   exact ⟨.inl rfl,_,rfl,rfl⟩
end Go.Proofs.YtkjhfnhgefbhhaaGreat
/- simileref11.Norm: told of trees. ALLOC -/
namespace Go.Proofs.YtkjhfnhgefbhhaaGreat
open Go.RowKit Go.Ev Go.Vl
theorem wEE (n d:Int) (hd:d≠0):(Rat.divInt n d).den∣d.natAbs:=by
 rw [Rat.den_divInt,if_neg hd]; exact Nat.div_dvd_of_dvd (by unfold Int.gcd; exact pC2 ..)
def wH6 (m:MM):MM:=(zn (qM (wT m).flatten:Nat),(wT m).map fun r=>r.map (zW (qM (wT m).flatten:Nat)))
theorem qGD (x:Bool) (l:List Nat) (t:List (List ZZ)) (h:okM ((x,l),t) 68719476736) (h0:intOf (x,l)≠0):wD Tryz.prog 73 [.agg [.bool x,vL l,vT t]] (fun y=>y=vM (wH6 ((x,l),t))):=by
 refine wC wG Tryz.func73 rfl rfl rfl rfl fun w0=>?_
 have od:okZ (x,l):=⟨h.1,pC h.2.1 (by decide)⟩
 have q1:=wBH x l t od h0 (fun r hr=>⟨pC (h.2.2.1.2 r hr).1 (by decide),fun z hz=>⟨((h.2.2.1.2 r hr).2 z hz).1,pC ((h.2.2.1.2 r hr).2 z hz).2 (by decide)⟩⟩) (pC h.2.2.1.1 (by decide))
 have hdl:lm ((intOf (x,l)).natAbs:Nat)≤68719476736:=by
  have:=wL (x,l) h.1; refine pC (jF (y:=intOf (x,l)) ?_) (pC this h.2.1)
  rw [mS]; exact pE _
 have q2:=wI0 (wT ((x,l),t)) (intOf (x,l)).natAbs (by omega) hdl (fun q hq=>by
  rw [yS] at hq; obtain ⟨z,hz,rfl⟩:=pJ.1 hq
  obtain ⟨r,hr,hzr⟩:=cL.1 hz; obtain ⟨g1,g2⟩:=(h.2.2.1.2 r hr).2 z hzr
  obtain ⟨n1,n2⟩:=zF (intOf z) (intOf (x,l)) h0; have m1:=wL z g1
  have m2:=wL (x,l) h.1; have m3:=h.2.1
  refine ⟨vV _ (pC n1 (pC m1 g2)) (pC n2 (pC m2 m3)),?_⟩
  rw [wUF]; exact wEE _ _ h0) (by unfold wT; rw [pF]; exact h.2.2.1.1) (by rw [yS,pF]; exact h.2.2.2) (fun r hr=>by
  obtain ⟨r',h1,rfl⟩:=pJ.1 hr; rw [pF]
  exact (h.2.2.1.2 r' h1).1)
 unfold wH6; generalize wT ((x,l),t)=R at *
 repeat (first | refine wl ?_ | refine wv ?_ | refine wc q1 ?_ | refine wc q2 ?_ | refine wz ?_)
 exact ⟨.inl rfl,_,rfl,rfl⟩
end Go.Proofs.YtkjhfnhgefbhhaaGreat
/- simileref11.fill: told of trees. ALLOC -/
namespace Go.Vl
open Go.RowKit Go.Ev
def famO (T:TypeId) (k:Nat):List (Value × List (List V))→Option Cell
 | []=>none
 | p :: L=>some (.fam T k (p :: L))
theorem famO_ok (T:TypeId) (k:Nat) (L:List (Value × List (List V))):famO T k L=some (.fam T k L)∨(famO T k L=none∧L=[]):=by
 cases L with
 | nil=>exact .inr ⟨rfl,rfl⟩
 | cons p L=>exact .inl rfl
section
variable {P:Program} {w0:Base} {n:Nat} {st:St} {Q:vZ} {ops:Array Oper}
theorem wM2 {dr:Bool} (ri d j:Nat) {id k:Nat} {T:TypeId} {es:List (List V)} {L:List (Value × List (List V))} (hd:lk st (2*d)=some (.sv (.own id T k es))) (hj:lk st (2*j+1)=famO T k L)
  (h:∀ u,RR P w0 n ri ops dr Q ((2*d,some (.sv (.v (.raw u)))) :: (2*j+1,some (.fam T k (L++[(u,es)]))) :: st) 0 [] ((2*d,some (.sv (.v (.raw u)))) :: (2*j+1,some (.fam T k (L++[(u,es)]))) :: st)):VW P w0 n (.region ri ops dr) Q st :=
 vw_name d j hd (by rw [hj]; exact famO_ok T k L) fun u=>wDD (h u)
end
end Go.Vl
namespace Go.Proofs.YtkjhfnhgefbhhaaGreat
open Go.RowKit Go.Ev Go.Vl
def z4:List V:=wH (qn 0)
def fillR (r c:Nat):List (List (List V)):=List.replicate r (List.replicate c z4)
theorem wO4 (r c:Nat) (hr0:0<r) (hr:r≤68719476736) (hc:c≤68719476736):wP0 Tryz.prog 64 [.int .i64 (r:Nat),.int .i64 (c:Nat)] 64 89 4 (fillR r c):=by
 refine wK2 Tryz.func64 rfl rfl rfl rfl fun w0=>?_
 have q1:=wPD 0 (by decide)
 have ez:((0:Nat):Rat)=0:=rfl; rw [ez] at q1
 repeat (first | refine wv ?_ | refine wz ?_)
 refine zR (d:=5) (id:=1) (k:=1) (T:=64) rfl rfl rfl rfl ?_
 have hzl:(List.replicate c z4).length=c:=mP; refine wJ (fun b:Nat × List (Value × List (List V))=>[jI 0 r,jI 2 c,jO 10 1 64 1 (hdr b.2),jI 12 (b.1),(201,famO 89 4 b.2)])
  (fun b=>b.1≤r∧b.2.length=b.1∧∀ p∈b.2,p.2=List.replicate c z4) (fun b=>r - b.1) (0,[]) (fun b=>by obtain ⟨i,L⟩:=b; cases L <;> rfl) ⟨pH _,rfl,fun _ h=>by cases h⟩ ⟨rfl,rfl,⟨_,rfl⟩,rfl,rfl,trivial⟩ fun ⟨i,L⟩ hI=>?_
 obtain ⟨h1,h2,h3⟩:=hI; dsimp only at h1 h2 h3 ⊢
 rcases pG i r with hi | hi
 ·have hrep:List.replicate c q0=(List.replicate c z4).take 0++List.replicate ((List.replicate c z4).length - 0) q0:=by rw [hzl]; simp
  have hrl:((List.replicate c z4).take 0++List.replicate ((List.replicate c z4).length - 0) q0).length=c:=by rw [← hrep]; simp
  cases L with
  | nil =>
   repeat (first | refine wg rfl (sM 7000 c c 4 64 hrep) ?_ | refine wg rfl (sL hrl) ?_ | refine wv ?_ | refine wg rfl cT ?_ | refine wz ?_)
   refine wJ (fun k:Nat=>[jI 0 r,jI 2 c,jO 10 1 64 1 (hdr []),jI 12 i,(201,famO 89 4 []),jO 14 2 89 4 ((List.replicate c z4).take k++List.replicate ((List.replicate c z4).length - k) q0),jI 34 c,jI 36 k])
    (fun k=>k≤c) (fun k=>c - k) 0 (fun _=>rfl) (pH _) ⟨rfl,rfl,⟨_,rfl⟩,rfl,rfl,⟨_,rfl⟩,rfl,rfl,trivial⟩ fun k hK=>?_
   rcases pG k c with hk | hk
   ·have hgz:(List.replicate c z4)[k]? = some z4:=by rw [mU,if_pos hk]
    have hset:=v7 (List.replicate c z4) q0 k z4 hgz; have hown:((List.replicate c z4).take k++List.replicate ((List.replicate c z4).length - k) q0)[k]? = some q0:=by
     rw [mI (by rw [pM]; omega),mU,if_pos (by rw [pM]; omega)]
    have hlen:k<((List.replicate c z4).take k++List.replicate ((List.replicate c z4).length - k) q0).length:=by rw [pW,pM,mP (n:=(List.replicate c z4).length - k)]; omega
    generalize (List.replicate c z4).take k++List.replicate ((List.replicate c z4).length - k) q0=row at *; unfold q0 at hown
    repeat (first | refine wc q1 ?_ | refine wg rfl (sO k hlen) ?_ | refine wg rfl (sS hown (he:=by exact hset)) ?_ | refine wv ?_ | refine wg rfl cT ?_ | refine wg rfl sB ?_ | refine wz ?_)
    exact ⟨k+1,hk,by omega,rfl,rfl,⟨_,rfl⟩,rfl,rfl,⟨_,rfl⟩,rfl,rfl,trivial⟩
   ·have hke:k=c:=by omega
    subst hke; have hfull:(List.replicate k z4).take k++List.replicate ((List.replicate k z4).length - k) q0=List.replicate k z4:=by
     rw [pN (by simp),hzl,dV]
     simp
    rw [hfull]
    repeat (first | refine wM2 11 7 100 (L:=[]) rfl rfl fun u=>?_ | refine wf rfl rfl (z7 (id:=7002) (es2:=[[V.raw u]]) (m:=1) (bb:=24) wG rfl rfl rfl rfl rfl rfl rfl rfl rfl rfl rfl (fun e h=>by rw [pL.1 h]; rfl) rfl (by rw [jR]; simp only [maxLen,List.length_singleton]; omega) (by rw [jR]; simp only [List.length_singleton]; omega) rfl rfl (wO1 [] u (List.replicate k z4))) ?_ | refine wv ?_ | refine wg rfl cF ?_ | refine wg rfl sB ?_ | refine wz ?_)
    exact ⟨(i+1,[]++[(u,List.replicate k z4)]),⟨hi,by rw [pW,h2]; rfl,fun q hq=>by
     rcases cH.1 hq with hq | hq
     ·exact h3 q hq
     ·rw [pL.1 hq]⟩,by dsimp only; omega,rfl,rfl,⟨_,rfl⟩,rfl,rfl,trivial⟩
  | cons p L =>
   repeat (first | refine wg rfl (sM 7000 c c 4 64 hrep) ?_ | refine wg rfl (sL hrl) ?_ | refine wv ?_ | refine wg rfl cT ?_ | refine wz ?_)
   refine wJ (fun k:Nat=>[jI 0 r,jI 2 c,jO 10 1 64 1 (hdr (p :: L)),jI 12 i,(201,famO 89 4 (p :: L)),jO 14 2 89 4 ((List.replicate c z4).take k++List.replicate ((List.replicate c z4).length - k) q0),jI 34 c,jI 36 k])
    (fun k=>k≤c) (fun k=>c - k) 0 (fun _=>rfl) (pH _) ⟨rfl,rfl,⟨_,rfl⟩,rfl,rfl,⟨_,rfl⟩,rfl,rfl,trivial⟩ fun k hK=>?_
   rcases pG k c with hk | hk
   ·have hgz:(List.replicate c z4)[k]? = some z4:=by rw [mU,if_pos hk]
    have hset:=v7 (List.replicate c z4) q0 k z4 hgz; have hown:((List.replicate c z4).take k++List.replicate ((List.replicate c z4).length - k) q0)[k]? = some q0:=by
     rw [mI (by rw [pM]; omega),mU,if_pos (by rw [pM]; omega)]
    have hlen:k<((List.replicate c z4).take k++List.replicate ((List.replicate c z4).length - k) q0).length:=by rw [pW,pM,mP (n:=(List.replicate c z4).length - k)]; omega
    generalize (List.replicate c z4).take k++List.replicate ((List.replicate c z4).length - k) q0=row at *; unfold q0 at hown
    repeat (first | refine wc q1 ?_ | refine wg rfl (sO k hlen) ?_ | refine wg rfl (sS hown (he:=by exact hset)) ?_ | refine wv ?_ | refine wg rfl cT ?_ | refine wg rfl sB ?_ | refine wz ?_)
    exact ⟨k+1,hk,by omega,rfl,rfl,⟨_,rfl⟩,rfl,rfl,⟨_,rfl⟩,rfl,rfl,trivial⟩
   ·have hke:k=c:=by omega
    subst hke; have hfull:(List.replicate k z4).take k++List.replicate ((List.replicate k z4).length - k) q0=List.replicate k z4:=by
     rw [pN (by simp),hzl,dV]
     simp
    rw [hfull]
    repeat (first | refine wM2 11 7 100 (L:=p :: L) rfl rfl fun u=>?_ | refine wf rfl rfl (z7 (id:=7002) (es2:=[[V.raw u]]) (m:=1) (bb:=24) wG rfl rfl rfl rfl rfl rfl rfl rfl rfl rfl rfl (fun e h=>by rw [pL.1 h]; rfl) rfl (by rw [jR]; simp only [maxLen,List.length_singleton]; omega) (by rw [jR]; simp only [List.length_singleton]; omega) rfl rfl (wO1 (p :: L) u (List.replicate k z4))) ?_ | refine wv ?_ | refine wg rfl cF ?_ | refine wg rfl sB ?_ | refine wz ?_)
    exact ⟨(i+1,(p :: L)++[(u,List.replicate k z4)]),⟨hi,by rw [pW,h2]; rfl,fun q hq=>by
     rcases cH.1 hq with hq | hq
     ·exact h3 q hq
     ·rw [pL.1 hq]⟩,by dsimp only; omega,rfl,rfl,⟨_,rfl⟩,rfl,rfl,trivial⟩
 ·have hie:i=r:=by omega
  subst hie; cases L with
  | nil =>
   simp only [List.length_nil] at h2
   omega
  | cons p L =>
   repeat (first | refine wv ?_ | refine wg rfl cF ?_ | refine wz ?_)
   refine ⟨.inl rfl,5,1,100,p :: L,rfl,rfl,?_⟩
   unfold fillR; rw [List.eq_replicate_iff]
   refine ⟨by rw [pF]; exact h2,fun y hy=>?_⟩
   obtain ⟨q,hq,rfl⟩:=pJ.1 hy; exact h3 q hq
end Go.Proofs.YtkjhfnhgefbhhaaGreat
/- simileref11.Mul: told of trees. ALLOC -/
namespace Go.Vl
open Go.RowKit Go.Ev
section
variable {P:Program} {w0:Base} {n:Nat} {st:St} {Q:vZ} {ops:Array Oper}
theorem wTB (id:Nat) (hnd:wA9 ops=true) (h:SQ P w0 n ops Q 0 st):VW P w0 n (.region id ops false) Q st:=vw_sq hnd h
theorem wF5 {dr:Bool} (ri d j:Nat) {id k:Nat} {To T:TypeId} {L:List (Value × List (List V))} {R:List (List V)} (hd:lk st (2*d)=some (.sv (.own id To 1 (hdr L)))) (hj:lk st (2*j+1)=some (.fam T k L)) (hR:wJI L=R)
  (h:RR P w0 n ri ops dr Q ((2*d,some (.sv (.v (.list R)))) :: (2*j+1,none) :: st) 0 [] ((2*d,some (.sv (.v (.list R)))) :: (2*j+1,none) :: st)):VW P w0 n (.region ri ops dr) Q st:=by
 subst hR; exact vw_frzTab d j hd hj (wDD h)
end
end Go.Vl
namespace Go.Proofs.YtkjhfnhgefbhhaaGreat
open Go.RowKit Go.Ev Go.Vl
def vU (c:Nat) (G:Nat→Nat→Rat) (a:Nat):List (List V):=(List.range c).map fun b=>wH (qn (G a b))
def xM (r c:Nat) (G:Nat→Nat→Rat):List (List (List V)):=(List.range r).map (vU c G)
def wBA (G:Nat→Nat→Rat) (i k:Nat) (x:Rat):Nat→Nat→Rat:=fun a b=>if a=i∧b=k then x else G a b
theorem yO {r c:Nat} {G G':Nat→Nat→Rat} (h:∀ a,a<r→∀ b,b<c→G a b=G' a b):xM r c G=xM r c G':=by
 refine mE fun a ha=>?_
 refine mE fun b hb=>?_
 rw [h a (dK.1 ha) b (dK.1 hb)]
theorem qD3 {α β:Type} (l:List α) (x:β):l.map (fun _=>x)=List.replicate l.length x:=by
 induction l with
 | nil=>rfl
 | cons a l ih=>rw [dL,ih,mG,fX]
theorem wII (r c:Nat):fillR r c=xM r c fun _ _=>0:=by
 unfold fillR xM vU z4; rw [qD3,qD3,cK,cK]
theorem v8 (c:Nat) (G:Nat→Nat→Rat) (a:Nat):(vU c G a).length=c:=by unfold vU; rw [pF,cK]
theorem wBD (r c:Nat) (G:Nat→Nat→Rat):(xM r c G).length=r:=by unfold xM; rw [pF,cK]
theorem wB1 {c:Nat} (G:Nat→Nat→Rat) (a:Nat) {b:Nat} (h:b<c):(vU c G a)[b]? = some (wH (qn (G a b))):=by
 unfold vU; rw [pI,bK h]
 rfl
theorem qC1 {r:Nat} (c:Nat) (G:Nat→Nat→Rat) {a:Nat} (h:a<r):(xM r c G)[a]? = some (vU c G a):=by
 unfold xM; rw [pI,bK h]
 rfl
theorem tabG_set {r c i k:Nat} (G:Nat→Nat→Rat) (x:Rat) (hi:i<r) (hk:k<c):(xM r c G).set i ((vU c G i).set k (wH (qn x)))=xM r c (wBA G i k x):=by
 apply bA
 intro a
 by_cases ha:a<r
 ·rw [qC1 c _ ha,gF,wBD]
  by_cases hai:i=a
  ·subst hai
   rw [if_pos rfl,if_pos hi]
   congr 1
   apply bA
   intro b
   by_cases hb:b<c
   ·rw [wB1 _ _ hb,gF,v8]
    by_cases hbk:k=b
    ·subst hbk
     rw [if_pos rfl,if_pos hk]; unfold wBA
     rw [if_pos ⟨rfl,rfl⟩]
    ·rw [if_neg hbk,wB1 _ _ hb]
     unfold wBA; rw [if_neg fun h=>hbk h.2.symm]
   ·rw [cE (by rw [gB,v8]; omega),cE (by rw [v8]; omega)]
  ·rw [if_neg hai,qC1 c _ ha]
   congr 1
   unfold vU; refine mE fun b _=>?_
   unfold wBA; rw [if_neg fun h=>hai h.1.symm]
 ·rw [cE (by rw [gB,wBD]; omega),cE (by rw [wBD]; omega)]
theorem wBC {L:List (Value × List (List V))} {H:List (List V)} {r c i k:Nat} {G:Nat→Nat→Rat} (hH:hdr L=H) (hL:L.map (·.2)=xM r c G) (hi:i<r) (hk:k<c) (x:Rat) :
  ∃ u,L[i]? = some (u,vU c G i)∧H[i]? = some [V.raw u]∧hdr (L.set i (u,(vU c G i).set k (wH (qn x))))=H∧(L.set i (u,(vU c G i).set k (wH (qn x)))).map (·.2)=xM r c (wBA G i k x):=by
 have h1:=congrArg (fun l=>l[i]?) hL
 simp only [List.getElem?_map] at h1
 rw [qC1 c G hi] at h1; obtain ⟨⟨u,es⟩,h2,h3⟩:=bJ.1 h1
 dsimp only at h3; subst h3
 refine ⟨u,h2,by rw [← hH]; exact hdr_get h2,by rw [hdr_set h2]; exact hH,?_⟩
 rw [gG,hL]; exact tabG_set G x hi hk
def wCD (m m':MM) (a b h:Nat):Rat:=Rat.divInt (yB m.2 m'.2 a b h) (intOf m.1*intOf m'.1)
def k9 (m m':MM):List (List QQ):=(List.range m.2.length).map fun a=>(List.range (wR m'.2)).map fun b=>qn (wCD m m' a b (wR m.2))
theorem wNC {m m':MM} {q:QQ} (h:q∈(k9 m m').flatten):∃ a b,q=qn (wCD m m' a b (wR m.2)):=by
 obtain ⟨r,hr,hq⟩:=cL.1 h; obtain ⟨a,_,rfl⟩:=pJ.1 hr
 obtain ⟨b,_,rfl⟩:=pJ.1 hq; exact ⟨a,b,rfl⟩
theorem wND (m m':MM):(k9 m m').length=m.2.length:=by unfold k9; rw [pF,cK]
theorem wNB {m m':MM} {r:List QQ} (h:r∈k9 m m'):r.length=wR m'.2:=by
 obtain ⟨a,_,rfl⟩:=pJ.1 h; rw [pF,cK]
theorem jK {α:Type} {c:Nat}:∀ {l:List (List α)},(∀ r∈l,r.length=c)→l.flatten.length=l.length*c
 | [],_=>by simp
 | a :: l,h=>by
  rw [mZ,pW,h a (pO ..),jK fun r hr=>h r (pT _ hr),mG,cR]
  omega
theorem mulQ_flat (m m':MM):(k9 m m').flatten.length=m.2.length*wR m'.2:=by
 rw [jK fun r hr=>wNB hr,wND]
def zC (R:List (List QQ)):MM:=(zn (qM R.flatten:Nat),R.map fun r=>r.map (zW (qM R.flatten:Nat)))
def stepG (m m':MM) (i k h:Nat):Nat→Nat→Rat:=fun a b=>if a<i∨(a=i∧b<k) then wCD m m' a b (wR m.2) else if a=i∧b=k then wCD m m' a b h else 0
theorem wIE (m m':MM) (a b:Nat):wCD m m' a b 0=0:=by
 unfold wCD; show Rat.divInt 0 _=0
 exact bY _
theorem qF3 (m m':MM) (a b:Nat):stepG m m' 0 0 0 a b=0:=by
 unfold stepG; rw [if_neg (by omega)]
 split
 ·exact wIE ..
 ·rfl
theorem stepG_next (m m':MM) (i k h:Nat):wBA (stepG m m' i k h) i k (wCD m m' i k (h+1))=stepG m m' i k (h+1):=by
 funext a b
 unfold wBA stepG
 by_cases h1:a=i∧b=k
 ·obtain ⟨rfl,rfl⟩:=h1
  rw [if_pos ⟨rfl,rfl⟩,if_neg (by omega),if_pos ⟨rfl,rfl⟩]
 ·rw [if_neg h1,if_neg h1,if_neg h1]
theorem stepG_col (m m':MM) (i k:Nat):stepG m m' i k (wR m.2)=stepG m m' i (k+1) 0:=by
 funext a b
 unfold stepG
 by_cases h1:a<i∨(a=i∧b<k)
 ·rw [if_pos h1,if_pos (by omega)]
 ·rw [if_neg h1]
  by_cases h2:a=i∧b=k
  ·rw [if_pos h2,if_pos (by omega)]
  ·rw [if_neg h2,if_neg (by omega)]
   split
   ·exact (wIE ..).symm
   ·rfl
theorem stepG_row (m m':MM) (i c a b:Nat) (hb:b<c):stepG m m' i c 0 a b=stepG m m' (i+1) 0 0 a b:=by
 unfold stepG
 by_cases h1:a<i∨(a=i∧b<c)
 ·rw [if_pos h1,if_pos (by omega)]
 ·rw [if_neg h1,if_neg (by omega),if_neg (by omega)]
  split
  ·exact (wIE ..).symm
  ·rfl
theorem stepG_last (m m':MM) (r a b:Nat) (ha:a<r):stepG m m' r 0 0 a b=wCD m m' a b (wR m.2):=by
 unfold stepG; rw [if_pos (.inl ha)]
theorem wTJ (L:List (Value × List (List V))):wJI L=(L.map (·.2)).map fun es=>[V.list es]:=by
 unfold wJI; rw [mT]
 rfl
theorem tab_fin {m m':MM} {L:List (Value × List (List V))} (hL:L.map (·.2)=xM m.2.length (wR m'.2) fun a b=>wCD m m' a b (wR m.2)):wJI L=qU (k9 m m'):=by
 rw [wTJ,hL]; unfold xM vU qU k9 vQs
 rw [mT,mT]; refine mE fun a _=>?_
 simp [Function.comp]
theorem wRH (p q D:Int):Rat.divInt p D+Rat.divInt q D=Rat.divInt (p+q) D:=by
 rw [fQ,fQ,fQ,gU,gU,gU,← Rat.add_mul,Rat.intCast_add]
theorem wZ0 (m m':MM) (i k h:Nat):wCD m m' i k (h+1)=wCD m m' i k h+Rat.divInt (intOf (ent m.2 i h)) (intOf m.1)*Rat.divInt (intOf (ent m'.2 h k)) (intOf m'.1):=by
 unfold wCD; rw [dE,wRH]
 rfl
theorem zS {m:MM} {K K':Nat} (h:okM m K) (hk:K≤K'):okM m K':=⟨h.1,pC h.2.1 hk,⟨h.2.2.1.1,fun r hr=>⟨(h.2.2.1.2 r hr).1,fun z hz=>⟨((h.2.2.1.2 r hr).2 z hz).1,pC ((h.2.2.1.2 r hr).2 z hz).2 hk⟩⟩⟩,h.2.2.2⟩
theorem valQ_ok {m m':MM} (h:okM m 17179869184) (h':okM m' 17179869184) (h0:intOf m.1≠0) (h0':intOf m'.1≠0) (a b k:Nat) (hk:k≤34359738368):okS (qn (wCD m m' a b k)):=by
 unfold wCD; obtain ⟨n1,n2⟩:=zF (yB m.2 m'.2 a b k) (intOf m.1*intOf m'.1) (cD h0 h0')
 have l1:=wE3 m.2 m'.2 17179869184 0 a b (yX h.2.2.1) (yX h'.2.2.1) k; have l2:=qJ (intOf m.1) (intOf m'.1)
 have l3:=wL m.1 h.1; have l4:=wL m'.1 h'.1
 have l5:=h.2.1; have l6:=h'.2.1
 exact vV _ (by omega) (by omega)
theorem ent_ok {m:MM} (h:okM m 17179869184) (h0:intOf m.1≠0) (a b:Nat):okS (qn (Rat.divInt (intOf (ent m.2 a b)) (intOf m.1))):=by
 obtain ⟨n1,n2⟩:=zF (intOf (ent m.2 a b)) (intOf m.1) h0; have l1:=yX h.2.2.1 a b
 have l3:=wL m.1 h.1; have l5:=h.2.1
 exact vV _ (by omega) (by omega)
theorem two_ok {m m':MM} (h:okM m 17179869184) (h':okM m' 17179869184) (h0:intOf m.1≠0) (h0':intOf m'.1≠0) (a b c d:Nat):okS (qn (Rat.divInt (intOf (ent m.2 a b)) (intOf m.1)*Rat.divInt (intOf (ent m'.2 c d)) (intOf m'.1))):=by
 rw [dE]; obtain ⟨n1,n2⟩:=zF (intOf (ent m.2 a b)*intOf (ent m'.2 c d)) (intOf m.1*intOf m'.1) (cD h0 h0')
 have l1:=qJ (intOf (ent m.2 a b)) (intOf (ent m'.2 c d)); have k1:=yX h.2.2.1 a b
 have k2:=yX h'.2.2.1 c d; have l2:=qJ (intOf m.1) (intOf m'.1)
 have l3:=wL m.1 h.1; have l4:=wL m'.1 h'.1
 have l5:=h.2.1; have l6:=h'.2.1
 exact vV _ (by omega) (by omega)
theorem qCF {m:MM} {i k:Nat} {r:List ZZ} {z:ZZ} (h:m.2[i]? = some r) (h2:r[k]? = some z):∃ q,(wT m)[i]? = some q∧q[k]? = some (qn (Rat.divInt (intOf (ent m.2 i k)) (intOf m.1))):=by
 refine ⟨r.map fun x=>qn (Rat.divInt (intOf x) (intOf m.1)),?_,?_⟩
 ·unfold wT
  rw [pI,h]
  rfl
 ·rw [pI,h2,ent_at h h2]
  rfl
theorem mul11_v (x x':Bool) (l l':List Nat) (t t':List (List ZZ)) (h:okM ((x,l),t) 17179869184) (h':okM ((x',l'),t') 17179869184) (h0:intOf (x,l)≠0) (h0':intOf (x',l')≠0) (hr:∀ r∈t,r.length=wR t) (hr':∀ r∈t',r.length=wR t') (hn:t'.length=wR t) (hnl:wR t≤34359738368) (hne:0<t.length) (hcl:wR t'≤34359738368) (htc:t.length*wR t'≤68719476736) :
  wD Tryz.prog 32 [.agg [.bool x,vL l,vT t],.agg [.bool x',vL l',vT t']] (fun y=>y=vM (zC (k9 ((x,l),t) ((x',l'),t')))):=by
 refine wC wG Tryz.func32 rfl rfl rfl rfl fun w0=>?_
 have hK:=zS h (K':=68719476736) (by decide)
 have hK':=zS h' (K':=68719476736) (by decide)
 have od:okZ (x,l):=⟨h.1,pC h.2.1 (by decide)⟩
 have od':okZ (x',l'):=⟨h'.1,pC h'.2.1 (by decide)⟩
 have htl:t.length≤68719476736:=h.2.2.1.1; have htl':t'.length≤68719476736:=h'.2.2.1.1
 have q1:=wBH x l t od h0 (fun r hr=>⟨pC (h.2.2.1.2 r hr).1 (by decide),fun z hz=>⟨((h.2.2.1.2 r hr).2 z hz).1,pC ((h.2.2.1.2 r hr).2 z hz).2 (by decide)⟩⟩) (by omega)
 have q2:=wBH x' l' t' od' h0' (fun r hr=>⟨pC (h'.2.2.1.2 r hr).1 (by decide),fun z hz=>⟨((h'.2.2.1.2 r hr).2 z hz).1,pC ((h'.2.2.1.2 r hr).2 z hz).2 (by decide)⟩⟩) (by omega)
 have q3:=wBF x' l' t' (by omega)
 have q4:=wO4 t.length (wR t') hne htl (by omega)
 obtain ⟨A,hA⟩:∃ A:MM,((x,l),t)=A:=⟨_,rfl⟩; obtain ⟨B,hB⟩:∃ B:MM,((x',l'),t')=B:=⟨_,rfl⟩
 have eA1:A.1=(x,l):=by rw [← hA]
 have eA2:A.2=t:=by rw [← hA]
 have eB1:B.1=(x',l'):=by rw [← hB]
 have eB2:B.2=t':=by rw [← hB]
 rw [hA] at q1 h hK ⊢; rw [hB] at q2 h' hK' ⊢
 have hlA:(qU (wT A)).length=t.length:=by rw [kR]; unfold wT; rw [pF,eA2]
 have hlB:(qU (wT B)).length=wR t:=by rw [kR]; unfold wT; rw [pF,eB2,hn]
 have h00:intOf A.1≠0:=by rw [eA1]; exact h0
 have h00':intOf B.1≠0:=by rw [eB1]; exact h0'
 rw [wII] at q4; obtain ⟨r,hre⟩:∃ r,t.length=r:=⟨_,rfl⟩
 obtain ⟨c,hce⟩:∃ c,wR t'=c:=⟨_,rfl⟩; obtain ⟨n,hne'⟩:∃ n,wR t=n:=⟨_,rfl⟩
 rw [hre] at hlA htl q4 hne htc; rw [hce] at q3 q4 hcl htc
 rw [hne'] at hlB hnl; have hcA:wR A.2=n:=by rw [eA2]; exact hne'
 have hcB:wR B.2=c:=by rw [eB2]; exact hce
 repeat (first | refine wTB 3 rfl ?_ | refine sq_g rfl rfl (qFI wG rfl rfl rfl rfl rfl rfl hlA rfl) rfl ?_ | refine wGH wG 1 200 rfl rfl rfl rfl rfl rfl rfl rfl q4 rfl rfl rfl rfl fun L0 hL0=>?_ | refine sq_v wG rfl rfl rfl rfl ?_ | refine wM9 rfl ?_ | refine wg rfl (sL hlA) ?_ | refine wc q1 ?_ | refine wc q2 ?_ | refine wc q3 ?_ | refine wl ?_ | refine wv ?_ | refine wz ?_)
 obtain ⟨H,hH0⟩:∃ H,hdr L0=H:=⟨_,rfl⟩; have hHl:H.length=r:=by
  rw [← hH0,jR]; have:=congrArg List.length hL0
  rwa [pF,wBD] at this
 rw [hH0]; have hL1:L0.map (·.2)=xM r c (stepG A B 0 0 0):=by
  rw [hL0]; exact yO fun a _ b _=>(qF3 A B a b).symm
 refine wJ (fun b:Nat × List (Value × List (List V))=>[jB 8 4,jC 9 [.v (.bool false),.nils,.nils],jV 10 (.list (qU (wT A))),jV 12 (.list (qU (wT B))),jI 16 c,jO 18 1 64 1 H,(401,some (.fam 89 4 b.2)),jI 54 r,jI 56 (b.1)])
  (fun b=>b.1≤r∧hdr b.2=H∧b.2.map (·.2)=xM r c (stepG A B b.1 0 0)) (fun b=>r - b.1) (0,L0) (fun _=>rfl) ⟨pH _,hH0,hL1⟩ ⟨rfl,rfl,rfl,rfl,rfl,⟨_,rfl⟩,rfl,rfl,rfl,trivial⟩ fun ⟨i,L1⟩ hI=>?_
 obtain ⟨hI1,hI2,hI3⟩:=hI; dsimp only at hI1 hI2 hI3 ⊢
 rcases pG i r with hi | hi
 ·repeat (first | refine wv ?_ | refine wg rfl cT ?_ | refine wz ?_)
  refine wJ (fun b:Nat × List (Value × List (List V))=>[jB 8 4,jC 9 [.v (.bool false),.nils,.nils],jV 10 (.list (qU (wT A))),jV 12 (.list (qU (wT B))),jI 16 c,jO 18 1 64 1 H,(401,some (.fam 89 4 b.2)),jI 54 r,jI 56 i,jI 20 i,jI 22 (b.1)])
   (fun b=>b.1≤c∧hdr b.2=H∧b.2.map (·.2)=xM r c (stepG A B i b.1 0)) (fun b=>c - b.1) (0,L1) (fun _=>rfl) ⟨pH _,hI2,hI3⟩ ⟨rfl,rfl,rfl,rfl,rfl,⟨_,rfl⟩,rfl,rfl,rfl,rfl,rfl,trivial⟩ fun ⟨k,L2⟩ hJ=>?_
  obtain ⟨hJ1,hJ2,hJ3⟩:=hJ; dsimp only at hJ1 hJ2 hJ3 ⊢
  rcases pG k c with hk | hk
  ·repeat (first | refine wg rfl (sL hlB) ?_ | refine wv ?_ | refine wg rfl cT ?_ | refine wz ?_)
   refine wJ (fun b:Nat × List (Value × List (List V))=>[jB 8 4,jC 9 [.v (.bool false),.nils,.nils],jV 10 (.list (qU (wT A))),jV 12 (.list (qU (wT B))),jI 16 c,jO 18 1 64 1 H,(401,some (.fam 89 4 b.2)),jI 54 r,jI 56 i,jI 20 i,jI 22 k,jI 74 n,jI 76 (b.1)])
    (fun b=>b.1≤n∧hdr b.2=H∧b.2.map (·.2)=xM r c (stepG A B i k b.1)) (fun b=>n - b.1) (0,L2) (fun _=>rfl) ⟨pH _,hJ2,hJ3⟩ ⟨rfl,rfl,rfl,rfl,rfl,⟨_,rfl⟩,rfl,rfl,rfl,rfl,rfl,rfl,rfl,trivial⟩ fun ⟨g,L3⟩ hM=>?_
   obtain ⟨hM1,hM2,hM3⟩:=hM; dsimp only at hM1 hM2 hM3 ⊢
   rcases pG g n with hg | hg
   ·obtain ⟨u,k1,k2,k3,k4⟩:=wBC hM2 hM3 hi hk (wCD A B i k (g+1))
    rw [stepG_next] at k4; obtain ⟨ra,hra⟩:=gE (l:=t) (i:=i) (by omega)
    obtain ⟨za,hza⟩:∃ z,ra[g]? = some z:=⟨_,pU (by rw [hr ra (pD hra)]; omega)⟩
    obtain ⟨rb,hrb⟩:=gE (l:=t') (i:=g) (by omega)
    obtain ⟨zb,hzb⟩:∃ z,rb[k]? = some z:=⟨_,pU (by rw [hr' rb (pD hrb)]; omega)⟩
    obtain ⟨qa,a1,a2⟩:=qCF (m:=A) (by rw [eA2]; exact hra) hza
    obtain ⟨qb,b1,b2⟩:=qCF (m:=B) (by rw [eB2]; exact hrb) hzb
    have g1:=j9 (wT A) i qa a1; have g2:=kO qa g _ a2
    have g3:=j9 (wT B) g qb b1; have g4:=kO qb k _ b2
    have q5:=wS9 _ _ (ent_ok h h00 i g) (ent_ok h' h00' g k); have q6:=qCG _ _ (valQ_ok h h' h00 h00' i k g (by omega)) (two_ok h h' h00 h00' i g g k)
    rw [wN,wN] at q5 q6; rw [← wZ0] at q6
    have hHi:i<H.length:=by omega
    have hrow:(vU c (stepG A B i k g) i)[k]? = some (wH (qn (wCD A B i k g))):=by
     rw [wB1 _ _ hk]; unfold stepG
     rw [if_neg (by omega),if_pos ⟨rfl,rfl⟩]
    have hrl:=v8 c (stepG A B i k g) i; have hkl:k<(vU c (stepG A B i k g) i).length:=by omega
    clear hI2 hI3 hJ2 hJ3 hM2 hM3 a1 a2 b1 b2; generalize vU c (stepG A B i k g) i=es at *
    obtain ⟨L4,hL4⟩:∃ L4,L3.set i (u,es.set k (wH (qn (wCD A B i k (g+1)))))=L4:=⟨_,rfl⟩; rw [hL4] at k3 k4
    generalize qn (Rat.divInt (intOf (ent A.2 i g)) (intOf A.1))=qx at *; generalize qn (Rat.divInt (intOf (ent B.2 g k)) (intOf B.1))=qy at *
    generalize qn (wCD A B i k g)=qz at *
    repeat (first | refine wg rfl (sX i g1) ?_ | refine wg rfl (sX g g2) ?_ | refine wg rfl (sX g g3) ?_ | refine wg rfl (sX k g4) ?_ | refine wg rfl (sO i hHi) ?_ | refine wg rfl (qP wG rfl rfl rfl k2 rfl rfl rfl) ?_ | refine wg rfl (jY wG (j:=200) (r:=i) (i:=k) rfl rfl rfl rfl rfl rfl rfl k1 hkl rfl) ?_ | refine wg rfl (wGJ wG (j:=200) rfl rfl rfl k1 hrow rfl rfl (pE _) rfl rfl) ?_ | refine wg rfl (kM wG (j:=200) rfl rfl rfl k1 hrow rfl rfl rfl rfl (pE _) rfl hL4) ?_ | refine wc q5 ?_ | refine wc q6 ?_ | refine wv ?_ | refine wg rfl cT ?_ | refine wg rfl sB ?_ | refine wz ?_)
    exact ⟨(g+1,L4),⟨hg,k3,k4⟩,by dsimp only; omega,rfl,rfl,rfl,rfl,rfl,⟨_,rfl⟩,rfl,rfl,rfl,rfl,rfl,rfl,rfl,trivial⟩
   ·have hge:g=n:=by omega
    subst hge
    repeat (first | refine wv ?_ | refine wg rfl cF ?_ | refine wg rfl sB ?_ | refine wz ?_)
    refine ⟨(k+1,L3),⟨hk,hM2,?_⟩,by dsimp only; omega,rfl,rfl,rfl,rfl,rfl,⟨_,rfl⟩,rfl,rfl,rfl,rfl,rfl,trivial⟩
    rw [hM3,← hcA,stepG_col]
  ·have hke:k=c:=by omega
   subst hke
   repeat (first | refine wv ?_ | refine wg rfl cF ?_ | refine wg rfl sB ?_ | refine wz ?_)
   refine ⟨(i+1,L2),⟨hi,hJ2,?_⟩,by dsimp only; omega,rfl,rfl,rfl,rfl,rfl,⟨_,rfl⟩,rfl,rfl,rfl,trivial⟩
   rw [hJ3]; exact yO fun a _ b hb=>stepG_row A B i k a b hb
 ·have hie:i=r:=by omega
  subst hie; have hfin:wJI L1=qU (k9 A B):=tab_fin (by
   rw [hI3,hcB,hcA,eA2,hre]; exact yO fun a ha b _=>by rw [stepG_last A B i a b ha,hcA])
  have q7:=wI0 (k9 A B) (intOf A.1*intOf B.1).natAbs (by
   have:=cD h00 h00'; omega) (by
   have l1:=qJ (intOf A.1) (intOf B.1); have l3:=wL A.1 h.1
   have l4:=wL B.1 h'.1; have l5:=h.2.1
   have l6:=h'.2.1; refine pC (jF (y:=intOf A.1*intOf B.1) ?_) (by omega)
   rw [mS]; exact pE _) (fun q hq=>by
   obtain ⟨a,b,rfl⟩:=wNC hq; refine ⟨valQ_ok h h' h00 h00' a b _ (by omega),?_⟩
   rw [wN]; exact wEE _ _ (cD h00 h00')) (by rw [wND,eA2,hre]; exact htl) (by
   rw [mulQ_flat,eA2,hre,hcB]; exact htc) (fun y hy=>by
   rw [wNB hy,hcB]; omega)
  rw [← hI2]
  repeat (first | refine wF5 16 9 200 rfl rfl hfin ?_ | refine wc q7 ?_ | refine wv ?_ | refine wg rfl cF ?_ | refine wz ?_)
  exact ⟨.inl rfl,_,rfl,rfl⟩
end Go.Proofs.YtkjhfnhgefbhhaaGreat
/- simileref03.SameAll, simileref11.Copy, Same: told of trees. -/
namespace Go.Proofs.YtkjhfnhgefbhhaaGreat
open Go.RowKit Go.Ev Go.Vl
def okZ0 (z:Z0):Prop:=okL z.2∧z.2.length≤1099511627776
theorem take_eq {α:Type} {xs ys:List α} {j:Nat} {x y:α} (h:xs.take j=ys.take j) (hx:xs[j]? = some x) (hy:ys[j]? = some y):xs.take (j+1)=ys.take (j+1)↔x=y:=by
 rw [mO,mO,hx,hy,h]
 simp
theorem sameAll3_v (zs ws:List Z0) (h:∀ z∈zs,okZ0 z) (h':∀ z∈ws,okZ0 z) (hl:zs.length≤1099511627776) (hl':ws.length≤1099511627776):wD Tryz.prog 53 [.list (zs.map wS),.list (ws.map wS)] (fun y=>y=.bool (decide (zs=ws))):=by
 refine wC wG Tryz.func53 rfl rfl rfl rfl fun w0=>?_
 have fin:∀ {p:Prop} [Decidable p],¬ p→V.bool false=V.bool (decide p):=fun h=>by rw [decide_eq_false h]
 by_cases hne:zs.length=ws.length
 ·repeat (first | refine wg rfl (sL (vS _)) ?_ | refine wv ?_ | refine wg rfl nF ?_ | refine wz ?_)
  refine wJ (fun j:Nat=>[jV 0 (.list (zs.map wS)),jV 2 (.list (ws.map wS)),jI 24 (zs.length),jI 26 j])
   (fun j=>j≤zs.length∧zs.take j=ws.take j) (fun j=>zs.length - j) 0 (fun _=>rfl) ⟨pH _,rfl⟩ ⟨rfl,rfl,rfl,rfl,trivial⟩ fun j hI=>?_
  obtain ⟨hJ,ht⟩:=hI; rcases pG j zs.length with hj | hj
  ·obtain ⟨z,hz⟩:=gE hj
   obtain ⟨u,hu⟩:=gE (l:=ws) (i:=j) (by omega)
   have hg:=wG7 zs j z hz; have hg2:=wG7 ws j u hu
   have oz:=h z (pD hz); have ou:=h' u (pD hu)
   have q1:=same3_v z u oz.1 ou.1 oz.2; have hte:=take_eq ht hz hu
   by_cases he:z=u
   ·rw [decide_eq_true he] at q1
    repeat (first | refine wv ?_ | refine wg rfl (sX j hg) ?_ | refine wg rfl (sX j hg2) ?_ | refine wc q1 ?_ | refine wg rfl cT ?_ | refine wg rfl sB ?_ | refine wz ?_)
    exact ⟨j+1,⟨hj,hte.2 he⟩,by omega,rfl,rfl,rfl,rfl,trivial⟩
   ·rw [decide_eq_false he] at q1
    repeat (first | refine wv ?_ | refine wg rfl (sX j hg) ?_ | refine wg rfl (sX j hg2) ?_ | refine wc q1 ?_ | refine wg rfl cT ?_ | refine wz ?_)
    exact ⟨.inl rfl,_,rfl,fin fun hh=>he (by rw [hh,hu] at hz; cases hz; rfl)⟩
  ·have hje:j=zs.length:=by omega
   subst hje
   repeat (first | refine wv ?_ | refine wg rfl cF ?_ | refine wz ?_)
   refine ⟨.inl rfl,_,rfl,?_⟩
   rw [mH] at ht; rw [decide_eq_true]
   rw [ht,hne,mH]
 ·repeat (first | refine wg rfl (sL (vS _)) ?_ | refine wv ?_ | refine wg rfl nT ?_ | refine wz ?_)
  exact ⟨.inl rfl,_,rfl,fin fun hh=>hne (by rw [hh])⟩
def okM0 (m:M0):Prop:=okZ0 m.1∧(∀ r∈m.2,r.length≤1099511627776∧∀ z∈r,okZ0 z)∧m.2.length≤1099511627776
theorem same11_aux (x x':Bool) (l l':List Nat) (t t':List (List Z0)) (h:okM0 ((x,l),t)) (h':okM0 ((x',l'),t')):wD Tryz.prog 15 [.agg [.bool x,vL l,tV t],.agg [.bool x',vL l',tV t']] (fun y=>y=.bool (decide (((x,l),t)=((x',l'),t')))):=by
 refine wC wG Tryz.func15 rfl rfl rfl rfl fun w0=>?_
 have fin:∀ {p:Prop} [Decidable p],¬ p→V.bool false=V.bool (decide p):=fun h=>by rw [decide_eq_false h]
 obtain ⟨h1,h2,h3⟩:=h; obtain ⟨g1,g2,g3⟩:=h'
 dsimp only at h1 h2 h3 g1 g2 g3; have q1:=same3_v (x,l) (x',l') h1.1 g1.1 h1.2
 have hp:((x,l),t)=((x',l'),t')↔(x,l)=(x',l')∧t=t':=by simp
 by_cases hd:(x,l)=(x',l')
 ·rw [decide_eq_true hd] at q1
  by_cases hne:t.length=t'.length
  ·repeat (first | refine wg rfl (sL (jP _)) ?_ | refine wv ?_ | refine wc q1 ?_ | refine wg rfl nF ?_ | refine wz ?_)
   refine wJ (fun j:Nat=>[jB 4 2,jC 5 [.v (.bool x),.v (vL l),.v (tV t)],jB 6 3,jC 7 [.v (.bool x'),.v (vL l'),.v (tV t')],jI 46 (t.length),jI 48 j])
    (fun j=>j≤t.length∧t.take j=t'.take j) (fun j=>t.length - j) 0 (fun _=>rfl) ⟨pH _,rfl⟩ ⟨rfl,rfl,rfl,rfl,rfl,rfl,trivial⟩ fun j hI=>?_
   obtain ⟨hJ,ht⟩:=hI; rcases pG j t.length with hj | hj
   ·obtain ⟨z,hz⟩:=gE hj
    obtain ⟨u,hu⟩:=gE (l:=t') (i:=j) (by omega)
    have hg:=wCH t j z hz; have hg2:=wCH t' j u hu
    have oz:=h2 z (pD hz); have ou:=g2 u (pD hu)
    have q2:=sameAll3_v z u oz.2 ou.2 oz.1 ou.1; have hte:=take_eq ht hz hu
    by_cases he:z=u
    ·rw [decide_eq_true he] at q2
     repeat (first | refine wv ?_ | refine wg rfl (sX j hg) ?_ | refine wg rfl (sX j hg2) ?_ | refine wc q2 ?_ | refine wg rfl cT ?_ | refine wg rfl sB ?_ | refine wz ?_)
     exact ⟨j+1,⟨hj,hte.2 he⟩,by omega,rfl,rfl,rfl,rfl,rfl,rfl,trivial⟩
    ·rw [decide_eq_false he] at q2
     repeat (first | refine wv ?_ | refine wg rfl (sX j hg) ?_ | refine wg rfl (sX j hg2) ?_ | refine wc q2 ?_ | refine wg rfl cT ?_ | refine wz ?_)
     exact ⟨.inl rfl,_,rfl,fin fun hh=>he (by
      have:=(hp.1 hh).2; rw [this,hu] at hz; cases hz; rfl)⟩
   ·have hje:j=t.length:=by omega
    subst hje
    repeat (first | refine wv ?_ | refine wg rfl cF ?_ | refine wz ?_)
    refine ⟨.inl rfl,_,rfl,?_⟩
    rw [mH] at ht; rw [decide_eq_true]
    rw [hp]; exact ⟨hd,by rw [ht,hne,mH]⟩
  ·repeat (first | refine wg rfl (sL (jP _)) ?_ | refine wv ?_ | refine wc q1 ?_ | refine wg rfl nT ?_ | refine wz ?_)
   exact ⟨.inl rfl,_,rfl,fin fun hh=>hne (by rw [(hp.1 hh).2])⟩
 ·rw [decide_eq_false hd] at q1
  repeat (first | refine wv ?_ | refine wc q1 ?_ | refine kZ rfl rfl rfl rfl rfl rfl ?_ | refine wz ?_)
  exact ⟨.inl rfl,_,rfl,fin fun hh=>hd (hp.1 hh).1⟩
theorem same11_v (m m':M0) (h:okM0 m) (h':okM0 m'):wD Tryz.prog 15 [mV m,mV m'] (fun y=>y=.bool (decide (m=m'))):=same11_aux m.1.1 m'.1.1 m.1.2 m'.1.2 m.2 m'.2 h h'
end Go.Proofs.YtkjhfnhgefbhhaaGreat
