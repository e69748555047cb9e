/- Parts of a list, with three bounds. -/
import Derived.Test.YtdcjmnfngabhoaaGreatCc16
set_option linter.all false
set_option maxRecDepth 20000
set_option maxHeartbeats 6400000
namespace Go.Vl
open Go.RowKit Go.Ev
section
variable{P:Program}{C:Cx}{w0:Base}{n:Nat}{st:St}{o:Oper}
theorem sem_slice3(hC:CxOk P C){t elem:TypeId}{x y z z3:Operand}{es es':List (List V)}{l h k:Nat}{ql qh q3:Int}{kl kh k3:IntKind}(hop:o.op=.slice t x (some y) (some z) (some z3))(hx:opv (lk st) x=some (.v (.list es)))(hy:opv (lk st) y=some (.v (.int kl ql)))(hz:opv (lk st) z=some (.v (.int kh qh)))(hz3:opv (lk st) z3=some (.v (.int k3 q3)))(hql:ql=(l:Nat))(hqh:qh=(h:Nat))(hq3:q3=(h:Nat))(ht:C.und t=some (.slice elem))(hs:C.size elem=some k)(hk:∀e∈es,e.length=k)(h1:l≤h)(h2:h≤es.length)(he:(es.take h).drop l=es')(hd:dLt n o.dst=true) :
  wM P w0 n o (rdO x++(rdO y++(rdO z++rdO z3))) (dput o.dst (some (.sv (.v (.list es'))))) [] (lk st):=by
 subst hql hqh hq3 he;exact qE hd fun f hf β a w hb=>by
  obtain⟨f1,f2⟩:=qQ hf;obtain⟨f3,f4⟩:=qQ f2;obtain⟨f5,f6⟩:=qQ f4;have e1:=hb.val (x:=x) (y:=.list es) (by rw[wJ f1];exact hx);have e2:=bndOk (st:=lk st) (x:=some y) (m:=some l) (by simp[bnd,hy]) f f3 β a w hb;have e3:=bndOk (st:=lk st) (x:=some z) (m:=some h) (by simp[bnd,hz]) f f5 β a w hb;have e4:=bndOk (st:=lk st) (x:=some z3) (m:=some h) (by simp[bnd,hz3]) f f6 β a w hb;have hb3:∀cap,es.length≤cap→(Instr.sliceBounds true es.length cap (some (a.eval y)) (some (a.eval z)) (some (a.eval z3))).run P w=.ok (l,h,h) w:=by
   intro cap hcap;have:=(yA (P:=P) (w:=w) (len:=es.length) (cap:=cap) (cc:=cap) (lo:=some l) (hi:=some h) (mx:=some h) (l:=l) (h:=h) (m:=h) ?_ (pC _) e2 e3 e4).1
   ·simpa using this
   ·unfold xX;simp only[Option.getD_some];have b1:Nat.ble h cap=true:=by rw[bY];omega
    have b2:Nat.ble h h=true:=by rw[bY];exact pC _
    have b3:Nat.ble l h=true:=by rw[bY];exact h1
    rw[b1,b2,b3];rfl
  generalize hu:a.eval x=u at e1;obtain⟨ad,cap,hsh⟩:=e1.list_shape;subst hsh;cases ad with
  |none=>cases e1;simp only[List.length_nil,Nat.le_zero]at h2;obtain rfl:=h2;simp only[Nat.le_zero]at h1;subst h1;have:=hb3 0 (by simp);refine⟨.slice none 0 0,?_,by simp;exact .nils⟩;simp only[List.length_nil]at this;simp[execOp,hop,hu,Instr.sliceAt,wO hC ht,Instr.slice,this,wY hC hs]
  | some p=>
   have hcc:es.length≤cap:=by
    cases e1 with
    |list _ _ hc=>exact hc
    |emp=>simp
   have:=hb3 cap hcc;refine⟨.slice (some (if h=l then p else p.add (l*k))) (h-l) (h-l),?_,?_⟩
   ·simp only[execOp,hop,hu,Option.map_some,Instr.sliceAt,Sem.run_bind,wO hC ht,Result.andThen_ok,Instr.slice,this,wY hC hs,Sem.run_pure];split<;>rfl
   ·generalize hes:es=es' at e1 hk h2;cases e1 with
    |emp=>
     subst hes
     have:(([]:List (List V)).take h).drop l=[]:=by simp
     simp only[List.length_nil]at h2;rw[this,show h-l=0 by omega];exact .emp _ _
    |@list _ k' us b off _ hk' ho hc hl' hb' hu'=>subst hes;have e2:=Rep.list_part (S:=wT β) (w:=w) (.list hk' ho hc hl' hb' hu') hk l h h h1 h2 (pC _) (by omega);simp only[zZ];exact e2
end
end Go.Vl
/- simileref11.From: told of trees. ALLOC -/
namespace Go.Proofs.YtdcjmnfngabhoaaGreat
open Go.RowKit Go.Ev Go.Vl
theorem flat_part{α β:Type}(f:α→β)(R:List (List α))(j:Nat)(r:List α)(h:R[j]? = some r):((R.flatten.map f).take ((R.take j).flatten.length+r.length)).drop (R.take j).flatten.length=r.map f:=by
 have e:R=R.take j++r::R.drop (j+1):=by rw[←wL5 R j r h,fU]
 rw[←List.map_take,←pG0];congr 1;obtain⟨A,hA⟩:∃A,R.take j=A:=⟨_,rfl⟩
 obtain⟨B,hB⟩:∃B,R.drop (j+1)=B:=⟨_,rfl⟩
 rw[hA,hB]at e;rw[hA,e,gH,mW];generalize A.flatten=a;generalize B.flatten=b;rw[←bG,List.take_left' (by simp),List.drop_left' rfl]
theorem qF9(R:List (List QQ))(D:Nat)(hD:0<D)(hDl:lm D≤68719476736)(hq:∀q∈R.flatten,okS q∧(wX q).den∣D)(hl:R.length≤68719476736)(hfl:R.flatten.length≤68719476736)(hrl:∀r∈R,r.length≤68719476736):wG Tryz.prog 22 [.list (jM R)] (fun y=>y=vM (zn (wD1 R.flatten:Nat),R.map fun r=>r.map (yH (wD1 R.flatten:Nat)))):=by
 refine wD wE Tryz.func22 rfl rfl rfl rfl fun w0=>?_;have q1:=common_v R.flatten D hD hDl hq (by omega);obtain⟨C,hCe⟩:∃C:Int,((wD1 R.flatten:Nat):Int)=C:=⟨_,rfl⟩
 rw[hCe]at q1 ⊢;repeat (first|refine wg rfl (sL (wK8 R)) ?_|refine wl ?_|refine wv ?_|refine wz ?_)
 refine jL (d:=3) (id:=1) (k:=4) (T:=79) rfl rfl rfl rfl ?_;refine wP (fun j:Nat=>[jV 0 (.list (jM R)),jB 4 2,jC 5 [.v (.bool false),.nils,.nils],jO 6 1 79 4 ((R.take j).flatten.map qU),jV 24 (.list (jM R)),jI 26 (R.length),jI 28 j])
  (fun j=>j≤R.length) (fun j=>R.length-j) 0 (fun _=>rfl) (pN _) ⟨rfl,rfl,rfl,⟨_,rfl⟩,rfl,rfl,rfl,trivial⟩ fun j hJ=>?_
 rcases pK j R.length with hj|hj
 ·obtain⟨r,hr⟩:=gE hj;have hg:=tq_at R j r hr;have hrr:=hrl r (pF hr);have hs:(R.take j).flatten.map qU++r.map qU=(R.take (j+1)).flatten.map qU:=by
   rw[wAG hr];simp
  have hlen:((R.take j).flatten.map qU).length≤68719476736:=by
   rw[pH];refine pD ?_ hfl
   conv=>rhs;rw[←fU j R,gH,mC]
   omega
  have hlen2:(r.map qU).length≤68719476736:=by rw[pH];exact hrr
  have row4:∀e∈r.map qU,e.length=4:=fun e h=>by obtain⟨q,_,rfl⟩:=pO.1 h;rfl
  repeat (first|refine wg rfl (sX j hg) ?_|refine wf rfl rfl (qZ (id:=7001) (es2:=r.map qU) (m:=4) (bb:=64) wE rfl rfl rfl rfl rfl rfl rfl rfl rfl rfl rfl row4 rfl (by simp only[maxLen];omega) (by omega) rfl rfl hs) ?_|refine wv ?_|refine wg rfl cT ?_|refine wg rfl sB ?_|refine wz ?_)
  exact⟨j+1,hj,by omega,rfl,rfl,rfl,⟨_,rfl⟩,rfl,rfl,rfl,trivial⟩
 ·have hje:j=R.length:=by omega
  subst hje;rw[mZ];repeat (first|refine wg rfl (wF2 wE rfl rfl rfl rfl rfl rfl rfl rfl rfl) ?_|refine wh q1 ?_|refine wg rfl (sL (wK8 R)) ?_|refine wl ?_|refine wv ?_|refine wg rfl cF ?_|refine wz ?_)
  refine wK4 8 2 1 59 rfl rfl rfl ?_;refine wP (fun b:Nat×Nat=>[jB 4 2,jC 5 [.v (.bool false),.nils,.nils],jV 14 (.list ((R.flatten.map (yH C)).map qL)),jB 16 8,jC 17 [.v (.bool (zn C).1),.v (vL (zn C).2),.own 0 59 1 (jW ((R.take b.1).map fun r=>r.map (yH C)))],jI 18 (b.2),jV 58 (.list (jM R)),jI 60 (R.length),jI 62 (b.1)])
   (fun b=>b.1≤R.length∧b.2=(R.take b.1).flatten.length) (fun b=>R.length-b.1) (0,0) (fun _=>rfl) ⟨pN _,rfl⟩ ⟨rfl,rfl,rfl,rfl,rfl,rfl,rfl,rfl,rfl,trivial⟩ fun⟨i,a⟩ hI=>?_
  obtain⟨hI1,hI2⟩:=hI;dsimp only at hI1 hI2 ⊢;rcases pK i R.length with hi|hi
  ·obtain⟨r,hr⟩:=gE hi;have hg:=tq_at R i r hr;have hrr:=hrl r (pF hr);have hnext:a+r.length=(R.take (i+1)).flatten.length:=by rw[wAG hr,hI2];simp
   have htot:a+r.length≤R.flatten.length:=by
    rw[hnext]
    conv=>rhs;rw[←fU (i+1) R,gH,mC]
    omega
   have hpart:(((R.flatten.map (yH C)).map qL).take (a+r.length)).drop a=(r.map (yH C)).map qL:=by rw[hI2,mU,mU];exact flat_part _ R i r hr
   have hk2:∀e∈(R.flatten.map (yH C)).map qL,e.length=2:=fun e h=>by obtain⟨q,_,rfl⟩:=pO.1 h;rfl
   have hs:jW ((R.take i).map fun r=>r.map (yH C))++[[V.list ((r.map (yH C)).map qL)]]=jW ((R.take (i+1)).map fun r=>r.map (yH C)):=by rw[wAG hr];unfold jW;simp
   have hlen:(jW ((R.take i).map fun r=>r.map (yH C))).length=i:=by rw[wCE,pH,pV];omega
   have wKB:∀e∈[[V.list ((r.map (yH C)).map qL)]],e.length=1:=fun e h=>by rw[pP.1 h];rfl
   have hle:a+r.length≤((R.flatten.map (yH C)).map qL).length:=by rw[pH,pH];exact htot
   repeat (first|refine wg rfl (sL (wB1 r)) ?_|refine wg rfl (sX i hg) ?_|refine wg rfl (sem_slice3 (l:=a) (h:=a+r.length) wE rfl rfl rfl rfl rfl rfl rfl rfl rfl rfl hk2 (by omega) hle hpart rfl) ?_|refine wf rfl rfl (sA 7002 [[V.list ((r.map (yH C)).map qL)]] 1 24 wKB hs) ?_|refine wv ?_|refine wg rfl cT ?_|refine wg rfl sB ?_|refine wz ?_)
   exact⟨(i+1,a+r.length),⟨hi,hnext⟩,by dsimp only;omega,rfl,rfl,rfl,rfl,rfl,rfl,rfl,rfl,rfl,trivial⟩
  ·have hie:i=R.length:=by omega
   subst hie;rw[mZ];repeat (first|refine wv ?_|refine wg rfl cF ?_|refine rr_vfx wE [.tmp 8] rfl rfl rfl rfl rfl ?_|refine wz ?_)
   exact⟨.inl rfl,_,rfl,rfl⟩
theorem wU9(n d:Int)(hd:d≠0):(Rat.divInt n d).den∣d.natAbs:=by rw[Rat.den_divInt,if_neg hd];exact Nat.div_dvd_of_dvd (by unfold Int.gcd;exact pG7 ..)
end Go.Proofs.YtdcjmnfngabhoaaGreat
/- simileref11.fill: told of trees. ALLOC -/
namespace Go.Vl
open Go.RowKit Go.Ev
def famO(T:TypeId)(k:Nat):List (Value×List (List V))→Option Cell
 |[]=>none
 |p::L=>some (.fam T k (p::L))
theorem famO_ok(T:TypeId)(k:Nat)(L:List (Value×List (List V))):famO T k L=some (.fam T k L)∨(famO T k L=none∧L=[]):=by
 cases L with
 |nil=>exact .inr ⟨rfl,rfl⟩
 |cons p L=>exact .inl rfl
section
variable{P:Program}{w0:Base}{n:Nat}{st:St}{Q:kS}{ops:Array Oper}
theorem qC5{dr:Bool}(ri d j:Nat){id k:Nat}{T:TypeId}{es:List (List V)}{L:List (Value×List (List V))}(hd:lk st (2*d)=some (.sv (.own id T k es)))(hj:lk st (2*j+1)=famO T k L)(h:∀u,RR P w0 n ri ops dr Q ((2*d,some (.sv (.v (.raw u))))::(2*j+1,some (.fam T k (L++[(u,es)])))::st) 0 [] ((2*d,some (.sv (.v (.raw u))))::(2*j+1,some (.fam T k (L++[(u,es)])))::st)):VW P w0 n (.region ri ops dr) Q st:=
 vw_name d j hd (by rw[hj];exact famO_ok T k L) fun u=>wA7 (h u)
end
end Go.Vl
namespace Go.Proofs.YtdcjmnfngabhoaaGreat
open Go.RowKit Go.Ev Go.Vl
def z4:List V:=qU (qn 0)
def fillR(r c:Nat):List (List (List V)):=List.replicate r (List.replicate c z4)
theorem fill11_v(r c:Nat)(hr0:0<r)(hr:r≤68719476736)(hc:c≤68719476736):qBH Tryz.prog 39 [.int .i64 (r:Nat),.int .i64 (c:Nat)] 76 79 4 (fillR r c):=by
 refine wV6 Tryz.func39 rfl rfl rfl rfl fun w0=>?_;have q1:=rof5_v 0 (by decide);have ez:((0:Nat):Rat)=0:=rfl;rw[ez]at q1;repeat (first|refine wv ?_|refine wz ?_)
 refine jL (d:=5) (id:=1) (k:=1) (T:=76) rfl rfl rfl rfl ?_;have hzl:(List.replicate c z4).length=c:=dA;refine wP (fun b:Nat×List (Value×List (List V))=>[jI 0 r,jI 2 c,jO 10 1 76 1 (hdr b.2),jI 12 (b.1),(201,famO 79 4 b.2)])
  (fun b=>b.1≤r∧b.2.length=b.1∧∀p∈b.2,p.2=List.replicate c z4) (fun b=>r-b.1) (0,[]) (fun b=>by obtain⟨i,L⟩:=b;cases L<;>rfl) ⟨pN _,rfl,fun _ h=>by cases h⟩ ⟨rfl,rfl,⟨_,rfl⟩,rfl,rfl,trivial⟩ fun⟨i,L⟩ hI=>?_
 obtain⟨h1,h2,h3⟩:=hI;dsimp only at h1 h2 h3 ⊢;rcases pK i r with hi|hi
 ·have hrep:List.replicate c q0=(List.replicate c z4).take 0++List.replicate ((List.replicate c z4).length-0) q0:=by rw[hzl];simp
  have hrl:((List.replicate c z4).take 0++List.replicate ((List.replicate c z4).length-0) q0).length=c:=by rw[←hrep];simp
  cases L with
  | nil=>
   repeat (first|refine wg rfl (sM 7000 c c 4 64 hrep) ?_|refine wg rfl (sL hrl) ?_|refine wv ?_|refine wg rfl cT ?_|refine wz ?_)
   refine wP (fun k:Nat=>[jI 0 r,jI 2 c,jO 10 1 76 1 (hdr []),jI 12 i,(201,famO 79 4 []),jO 14 2 79 4 ((List.replicate c z4).take k++List.replicate ((List.replicate c z4).length-k) q0),jI 34 c,jI 36 k])
    (fun k=>k≤c) (fun k=>c-k) 0 (fun _=>rfl) (pN _) ⟨rfl,rfl,⟨_,rfl⟩,rfl,rfl,⟨_,rfl⟩,rfl,rfl,trivial⟩ fun k hK=>?_
   rcases pK k c with hk|hk
   ·have hgz:(List.replicate c z4)[k]? = some z4:=by rw[dC,if_pos hk]
    have hset:=wM5 (List.replicate c z4) q0 k z4 hgz;have hown:((List.replicate c z4).take k++List.replicate ((List.replicate c z4).length-k) q0)[k]? = some q0:=by rw[mI (by rw[pV];omega),dC,if_pos (by rw[pV];omega)]
    have hlen:k<((List.replicate c z4).take k++List.replicate ((List.replicate c z4).length-k) q0).length:=by rw[mC,pV,dA (n:=(List.replicate c z4).length-k)];omega
    generalize (List.replicate c z4).take k++List.replicate ((List.replicate c z4).length-k) q0=row at *
    unfold q0 at hown;repeat (first|refine wc q1 ?_|refine wg rfl (sO k hlen) ?_|refine wg rfl (sS hown (he:=by exact hset)) ?_|refine wv ?_|refine wg rfl cT ?_|refine wg rfl sB ?_|refine wz ?_)
    exact⟨k+1,hk,by omega,rfl,rfl,⟨_,rfl⟩,rfl,rfl,⟨_,rfl⟩,rfl,rfl,trivial⟩
   ·have hke:k=c:=by omega
    subst hke;have hfull:(List.replicate k z4).take k++List.replicate ((List.replicate k z4).length-k) q0=List.replicate k z4:=by rw[pR (by simp),hzl,bU];simp
    rw[hfull];repeat (first|refine qC5 11 7 100 (L:=[]) rfl rfl fun u=>?_|refine wf rfl rfl (qZ (id:=7002) (es2:=[[V.raw u]]) (m:=1) (bb:=24) wE rfl rfl rfl rfl rfl rfl rfl rfl rfl rfl rfl (fun e h=>by rw[pP.1 h];rfl) rfl (by rw[yM];simp only[maxLen,List.length_singleton];omega) (by rw[yM];simp only[List.length_singleton];omega) rfl rfl (qF1 [] u (List.replicate k z4))) ?_|refine wv ?_|refine wg rfl cF ?_|refine wg rfl sB ?_|refine wz ?_)
    exact⟨(i+1,[]++[(u,List.replicate k z4)]),⟨hi,by rw[mC,h2];rfl,fun q hq=>by
     rcases cJ.1 hq with hq|hq
     ·exact h3 q hq
     ·rw[pP.1 hq]⟩,by dsimp only;omega,rfl,rfl,⟨_,rfl⟩,rfl,rfl,trivial⟩
  | cons p L=>
   repeat (first|refine wg rfl (sM 7000 c c 4 64 hrep) ?_|refine wg rfl (sL hrl) ?_|refine wv ?_|refine wg rfl cT ?_|refine wz ?_)
   refine wP (fun k:Nat=>[jI 0 r,jI 2 c,jO 10 1 76 1 (hdr (p::L)),jI 12 i,(201,famO 79 4 (p::L)),jO 14 2 79 4 ((List.replicate c z4).take k++List.replicate ((List.replicate c z4).length-k) q0),jI 34 c,jI 36 k])
    (fun k=>k≤c) (fun k=>c-k) 0 (fun _=>rfl) (pN _) ⟨rfl,rfl,⟨_,rfl⟩,rfl,rfl,⟨_,rfl⟩,rfl,rfl,trivial⟩ fun k hK=>?_
   rcases pK k c with hk|hk
   ·have hgz:(List.replicate c z4)[k]? = some z4:=by rw[dC,if_pos hk]
    have hset:=wM5 (List.replicate c z4) q0 k z4 hgz;have hown:((List.replicate c z4).take k++List.replicate ((List.replicate c z4).length-k) q0)[k]? = some q0:=by rw[mI (by rw[pV];omega),dC,if_pos (by rw[pV];omega)]
    have hlen:k<((List.replicate c z4).take k++List.replicate ((List.replicate c z4).length-k) q0).length:=by rw[mC,pV,dA (n:=(List.replicate c z4).length-k)];omega
    generalize (List.replicate c z4).take k++List.replicate ((List.replicate c z4).length-k) q0=row at *
    unfold q0 at hown;repeat (first|refine wc q1 ?_|refine wg rfl (sO k hlen) ?_|refine wg rfl (sS hown (he:=by exact hset)) ?_|refine wv ?_|refine wg rfl cT ?_|refine wg rfl sB ?_|refine wz ?_)
    exact⟨k+1,hk,by omega,rfl,rfl,⟨_,rfl⟩,rfl,rfl,⟨_,rfl⟩,rfl,rfl,trivial⟩
   ·have hke:k=c:=by omega
    subst hke;have hfull:(List.replicate k z4).take k++List.replicate ((List.replicate k z4).length-k) q0=List.replicate k z4:=by rw[pR (by simp),hzl,bU];simp
    rw[hfull];repeat (first|refine qC5 11 7 100 (L:=p::L) rfl rfl fun u=>?_|refine wf rfl rfl (qZ (id:=7002) (es2:=[[V.raw u]]) (m:=1) (bb:=24) wE rfl rfl rfl rfl rfl rfl rfl rfl rfl rfl rfl (fun e h=>by rw[pP.1 h];rfl) rfl (by rw[yM];simp only[maxLen,List.length_singleton];omega) (by rw[yM];simp only[List.length_singleton];omega) rfl rfl (qF1 (p::L) u (List.replicate k z4))) ?_|refine wv ?_|refine wg rfl cF ?_|refine wg rfl sB ?_|refine wz ?_)
    exact⟨(i+1,(p::L)++[(u,List.replicate k z4)]),⟨hi,by rw[mC,h2];rfl,fun q hq=>by
     rcases cJ.1 hq with hq|hq
     ·exact h3 q hq
     ·rw[pP.1 hq]⟩,by dsimp only;omega,rfl,rfl,⟨_,rfl⟩,rfl,rfl,trivial⟩
 ·have hie:i=r:=by omega
  subst hie;cases L with
  |nil=>simp only[List.length_nil]at h2;omega
  |cons p L=>
   repeat (first|refine wv ?_|refine wg rfl cF ?_|refine wz ?_)
   refine⟨.inl rfl,5,1,100,p::L,rfl,rfl,?_⟩;unfold fillR;rw[List.eq_replicate_iff];refine⟨by rw[pH];exact h2,fun y hy=>?_⟩;obtain⟨q,hq,rfl⟩:=pO.1 hy;exact h3 q hq
end Go.Proofs.YtdcjmnfngabhoaaGreat
/- simileref11.Mul: told of trees. ALLOC -/
namespace Go.Vl
open Go.RowKit Go.Ev
section
variable{P:Program}{w0:Base}{n:Nat}{st:St}{Q:kS}{ops:Array Oper}
theorem wK3(id:Nat)(hnd:vO ops=true)(h:SQ P w0 n ops Q 0 st):VW P w0 n (.region id ops false) Q st:=vw_sq hnd h
theorem vw_frzTabR{dr:Bool}(ri d j:Nat){id k:Nat}{To T:TypeId}{L:List (Value×List (List V))}{R:List (List V)}(hd:lk st (2*d)=some (.sv (.own id To 1 (hdr L))))(hj:lk st (2*j+1)=some (.fam T k L))(hR:wAH L=R)(h:RR P w0 n ri ops dr Q ((2*d,some (.sv (.v (.list R))))::(2*j+1,none)::st) 0 [] ((2*d,some (.sv (.v (.list R))))::(2*j+1,none)::st)):VW P w0 n (.region ri ops dr) Q st:=by subst hR;exact wO7 d j hd hj (wA7 h)
end
end Go.Vl
namespace Go.Proofs.YtdcjmnfngabhoaaGreat
open Go.RowKit Go.Ev Go.Vl
def wJ9(c:Nat)(G:Nat→Nat→Rat)(a:Nat):List (List V):=(List.range c).map fun b=>qU (qn (G a b))
def wG7(r c:Nat)(G:Nat→Nat→Rat):List (List (List V)):=(List.range r).map (wJ9 c G)
def upd2(G:Nat→Nat→Rat)(i k:Nat)(x:Rat):Nat→Nat→Rat:=fun a b=>if a=i∧b=k then x else G a b
theorem wK9{r c:Nat}{G G':Nat→Nat→Rat}(h:∀a,a<r→∀b,b<c→G a b=G' a b):wG7 r c G=wG7 r c G':=by refine mP fun a ha=>?_;refine mP fun b hb=>?_;rw[h a (dK.1 ha) b (dK.1 hb)]
theorem map_rep{α β:Type}(l:List α)(x:β):l.map (fun _=>x)=List.replicate l.length x:=by
 induction l with
 |nil=>rfl
 |cons a l ih=>rw[dX,ih,mX,gG]
theorem tabG_zero(r c:Nat):fillR r c=wG7 r c fun _ _=>0:=by unfold fillR wG7 wJ9 z4;rw[map_rep,map_rep,cZ,cZ]
theorem wM8(c:Nat)(G:Nat→Nat→Rat)(a:Nat):(wJ9 c G a).length=c:=by unfold wJ9;rw[pH,cZ]
theorem wLG(r c:Nat)(G:Nat→Nat→Rat):(wG7 r c G).length=r:=by unfold wG7;rw[pH,cZ]
theorem qA0{c:Nat}(G:Nat→Nat→Rat)(a:Nat){b:Nat}(h:b<c):(wJ9 c G a)[b]? = some (qU (qn (G a b))):=by unfold wJ9;rw[pJ,dD h];rfl
theorem wZ4{r:Nat}(c:Nat)(G:Nat→Nat→Rat){a:Nat}(h:a<r):(wG7 r c G)[a]? = some (wJ9 c G a):=by unfold wG7;rw[pJ,dD h];rfl
theorem tabG_set{r c i k:Nat}(G:Nat→Nat→Rat)(x:Rat)(hi:i<r)(hk:k<c):(wG7 r c G).set i ((wJ9 c G i).set k (qU (qn x)))=wG7 r c (upd2 G i k x):=by
 apply mB;intro a;by_cases ha:a<r
 ·rw[wZ4 c _ ha,pX,wLG];by_cases hai:i=a
  ·subst hai;rw[if_pos rfl,if_pos hi];congr 1;apply mB;intro b;by_cases hb:b<c
   ·rw[qA0 _ _ hb,pX,wM8];by_cases hbk:k=b
    ·subst hbk;rw[if_pos rfl,if_pos hk];unfold upd2;rw[if_pos ⟨rfl,rfl⟩]
    ·rw[if_neg hbk,qA0 _ _ hb];unfold upd2;rw[if_neg fun h=>hbk h.2.symm]
   ·rw[pW (by rw[cL,wM8];omega),pW (by rw[wM8];omega)]
  ·rw[if_neg hai,wZ4 c _ ha];congr 1;unfold wJ9;refine mP fun b _=>?_;unfold upd2;rw[if_neg fun h=>hai h.1.symm]
 ·rw[pW (by rw[cL,wLG];omega),pW (by rw[wLG];omega)]
theorem tab_turn{L:List (Value×List (List V))}{H:List (List V)}{r c i k:Nat}{G:Nat→Nat→Rat}(hH:hdr L=H)(hL:L.map (·.2)=wG7 r c G)(hi:i<r)(hk:k<c)(x:Rat) :
  ∃u,L[i]? = some (u,wJ9 c G i)∧H[i]? = some [V.raw u]∧hdr (L.set i (u,(wJ9 c G i).set k (qU (qn x))))=H∧(L.set i (u,(wJ9 c G i).set k (qU (qn x)))).map (·.2)=wG7 r c (upd2 G i k x):=by
 have h1:=congrArg (fun l=>l[i]?) hL;simp only[List.getElem?_map]at h1;rw[wZ4 c G hi]at h1;obtain⟨⟨u,es⟩,h2,h3⟩:=bW.1 h1;dsimp only at h3;subst h3;refine⟨u,h2,by rw[←hH];exact hdr_get h2,by rw[hdr_set h2];exact hH,?_⟩;rw[gD,hL];exact tabG_set G x hi hk
def wEF(m m':MM)(a b h:Nat):Rat:=Rat.divInt (xZ m.2 m'.2 a b h) (intOf m.1*intOf m'.1)
def wJA(m m':MM):List (List QQ):=(List.range m.2.length).map fun a=>(List.range (wS m'.2)).map fun b=>qn (wEF m m' a b (wS m.2))
theorem mulQ_mem{m m':MM}{q:QQ}(h:q∈(wJA m m').flatten):∃a b,q=qn (wEF m m' a b (wS m.2)):=by obtain⟨r,hr,hq⟩:=cY.1 h;obtain⟨a,_,rfl⟩:=pO.1 hr;obtain⟨b,_,rfl⟩:=pO.1 hq;exact⟨a,b,rfl⟩
theorem qE9(m m':MM):(wJA m m').length=m.2.length:=by unfold wJA;rw[pH,cZ]
theorem qE8{m m':MM}{r:List QQ}(h:r∈wJA m m'):r.length=wS m'.2:=by obtain⟨a,_,rfl⟩:=pO.1 h;rw[pH,cZ]
theorem kU{α:Type}{c:Nat}:∀{l:List (List α)},(∀r∈l,r.length=c)→l.flatten.length=l.length*c
 |[],_=>by simp
 |a::l,h=>by rw[mW,mC,h a (pT ..),kU fun r hr=>h r (pZ _ hr),mX,dY];omega
theorem mulQ_flat(m m':MM):(wJA m m').flatten.length=m.2.length*wS m'.2:=by rw[kU fun r hr=>qE8 hr,qE9]
def wNA(R:List (List QQ)):MM:=(zn (wD1 R.flatten:Nat),R.map fun r=>r.map (yH (wD1 R.flatten:Nat)))
def stepG(m m':MM)(i k h:Nat):Nat→Nat→Rat:=fun a b=>if a<i∨(a=i∧b<k)then wEF m m' a b (wS m.2)else if a=i∧b=k then wEF m m' a b h else 0
theorem wI5(m m':MM)(a b:Nat):wEF m m' a b 0=0:=by unfold wEF;show Rat.divInt 0 _=0;exact pH8 _
theorem qCG(m m':MM)(a b:Nat):stepG m m' 0 0 0 a b=0:=by
 unfold stepG;rw[if_neg (by omega)];split
 ·exact wI5 ..
 ·rfl
theorem stepG_next(m m':MM)(i k h:Nat):upd2 (stepG m m' i k h) i k (wEF m m' i k (h+1))=stepG m m' i k (h+1):=by
 funext a b;unfold upd2 stepG;by_cases h1:a=i∧b=k
 ·obtain⟨rfl,rfl⟩:=h1;rw[if_pos ⟨rfl,rfl⟩,if_neg (by omega),if_pos ⟨rfl,rfl⟩]
 ·rw[if_neg h1,if_neg h1,if_neg h1]
theorem stepG_col(m m':MM)(i k:Nat):stepG m m' i k (wS m.2)=stepG m m' i (k+1) 0:=by
 funext a b;unfold stepG;by_cases h1:a<i∨(a=i∧b<k)
 ·rw[if_pos h1,if_pos (by omega)]
 ·rw[if_neg h1];by_cases h2:a=i∧b=k
  ·rw[if_pos h2,if_pos (by omega)]
  ·rw[if_neg h2,if_neg (by omega)];split
   ·exact(wI5 ..).symm
   ·rfl
theorem stepG_row(m m':MM)(i c a b:Nat)(hb:b<c):stepG m m' i c 0 a b=stepG m m' (i+1) 0 0 a b:=by
 unfold stepG;by_cases h1:a<i∨(a=i∧b<c)
 ·rw[if_pos h1,if_pos (by omega)]
 ·rw[if_neg h1,if_neg (by omega),if_neg (by omega)];split
  ·exact(wI5 ..).symm
  ·rfl
theorem stepG_last(m m':MM)(r a b:Nat)(ha:a<r):stepG m m' r 0 0 a b=wEF m m' a b (wS m.2):=by unfold stepG;rw[if_pos (.inl ha)]
theorem tabV_map(L:List (Value×List (List V))):wAH L=(L.map (·.2)).map fun es=>[V.list es]:=by unfold wAH;rw[mU];rfl
theorem tab_fin{m m':MM}{L:List (Value×List (List V))}(hL:L.map (·.2)=wG7 m.2.length (wS m'.2) fun a b=>wEF m m' a b (wS m.2)):wAH L=jM (wJA m m'):=by rw[tabV_map,hL];unfold wG7 wJ9 jM wJA vQs;rw[mU,mU];refine mP fun a _=>?_;simp[Function.comp]
theorem qG1(p q D:Int):Rat.divInt p D+Rat.divInt q D=Rat.divInt (p+q) D:=by rw[dV,dV,dV,bO,bO,bO,←Rat.add_mul,pH2]
theorem wW8(m m':MM)(i k h:Nat):wEF m m' i k (h+1)=wEF m m' i k h+Rat.divInt (intOf (ent m.2 i h)) (intOf m.1)*Rat.divInt (intOf (ent m'.2 h k)) (intOf m'.1):=by unfold wEF;rw[gV,qG1];rfl
theorem kP{m:MM}{K K':Nat}(h:okM m K)(hk:K≤K'):okM m K':=⟨h.1,pD h.2.1 hk,⟨h.2.2.1.1,fun r hr=>⟨(h.2.2.1.2 r hr).1,fun z hz=>⟨((h.2.2.1.2 r hr).2 z hz).1,pD ((h.2.2.1.2 r hr).2 z hz).2 hk⟩⟩⟩,h.2.2.2⟩
theorem valQ_ok{m m':MM}(h:okM m 17179869184)(h':okM m' 17179869184)(h0:intOf m.1≠0)(h0':intOf m'.1≠0)(a b k:Nat)(hk:k≤34359738368):okS (qn (wEF m m' a b k)):=by unfold wEF;obtain⟨n1,n2⟩:=v7 (xZ m.2 m'.2 a b k) (intOf m.1*intOf m'.1) (dT h0 h0');have l1:=wH9 m.2 m'.2 17179869184 0 a b (wB6 h.2.2.1) (wB6 h'.2.2.1) k;have l2:=jN (intOf m.1) (intOf m'.1);have l3:=w8 m.1 h.1;have l4:=w8 m'.1 h'.1;have l5:=h.2.1;have l6:=h'.2.1;exact wKF _ (by omega) (by omega)
theorem ent_ok{m:MM}(h:okM m 17179869184)(h0:intOf m.1≠0)(a b:Nat):okS (qn (Rat.divInt (intOf (ent m.2 a b)) (intOf m.1))):=by obtain⟨n1,n2⟩:=v7 (intOf (ent m.2 a b)) (intOf m.1) h0;have l1:=wB6 h.2.2.1 a b;have l3:=w8 m.1 h.1;have l5:=h.2.1;exact wKF _ (by omega) (by omega)
theorem two_ok{m m':MM}(h:okM m 17179869184)(h':okM m' 17179869184)(h0:intOf m.1≠0)(h0':intOf m'.1≠0)(a b c d:Nat):okS (qn (Rat.divInt (intOf (ent m.2 a b)) (intOf m.1)*Rat.divInt (intOf (ent m'.2 c d)) (intOf m'.1))):=by rw[gV];obtain⟨n1,n2⟩:=v7 (intOf (ent m.2 a b)*intOf (ent m'.2 c d)) (intOf m.1*intOf m'.1) (dT h0 h0');have l1:=jN (intOf (ent m.2 a b)) (intOf (ent m'.2 c d));have k1:=wB6 h.2.2.1 a b;have k2:=wB6 h'.2.2.1 c d;have l2:=jN (intOf m.1) (intOf m'.1);have l3:=w8 m.1 h.1;have l4:=w8 m'.1 h'.1;have l5:=h.2.1;have l6:=h'.2.1;exact wKF _ (by omega) (by omega)
theorem rats_at{m:MM}{i k:Nat}{r:List ZZ}{z:ZZ}(h:m.2[i]? = some r)(h2:r[k]? = some z):∃q,(wU m)[i]? = some q∧q[k]? = some (qn (Rat.divInt (intOf (ent m.2 i k)) (intOf m.1))):=by
 refine⟨r.map fun x=>qn (Rat.divInt (intOf x) (intOf m.1)),?_,?_⟩
 ·unfold wU;rw[pJ,h];rfl
 ·rw[pJ,h2,ent_at h h2];rfl
theorem mul11_v(x x':Bool)(l l':List Nat)(t t':List (List ZZ))(h:okM ((x,l),t) 17179869184)(h':okM ((x',l'),t') 17179869184)(h0:intOf (x,l)≠0)(h0':intOf (x',l')≠0)(hr:∀r∈t,r.length=wS t)(hr':∀r∈t',r.length=wS t')(hn:t'.length=wS t)(hnl:wS t≤34359738368)(hne:0<t.length)(hcl:wS t'≤34359738368)(htc:t.length*wS t'≤68719476736) :
  wG Tryz.prog 21 [.agg [.bool x,vL l,vT t],.agg [.bool x',vL l',vT t']] (fun y=>y=vM (wNA (wJA ((x,l),t) ((x',l'),t')))):=by
 refine wD wE Tryz.func21 rfl rfl rfl rfl fun w0=>?_;have hK:=kP h (K':=68719476736) (by decide);have hK':=kP h' (K':=68719476736) (by decide);have od:okZ (x,l):=⟨h.1,pD h.2.1 (by decide)⟩
 have od':okZ (x',l'):=⟨h'.1,pD h'.2.1 (by decide)⟩
 have htl:t.length≤68719476736:=h.2.2.1.1;have htl':t'.length≤68719476736:=h'.2.2.1.1;have q1:=wF4 x l t od h0 (fun r hr=>⟨pD (h.2.2.1.2 r hr).1 (by decide),fun z hz=>⟨((h.2.2.1.2 r hr).2 z hz).1,pD ((h.2.2.1.2 r hr).2 z hz).2 (by decide)⟩⟩) (by omega);have q2:=wF4 x' l' t' od' h0' (fun r hr=>⟨pD (h'.2.2.1.2 r hr).1 (by decide),fun z hz=>⟨((h'.2.2.1.2 r hr).2 z hz).1,pD ((h'.2.2.1.2 r hr).2 z hz).2 (by decide)⟩⟩) (by omega);have q3:=qCJ x' l' t' (by omega);have q4:=fill11_v t.length (wS t') hne htl (by omega);obtain⟨A,hA⟩:∃A:MM,((x,l),t)=A:=⟨_,rfl⟩
 obtain⟨B,hB⟩:∃B:MM,((x',l'),t')=B:=⟨_,rfl⟩
 have eA1:A.1=(x,l):=by rw[←hA]
 have eA2:A.2=t:=by rw[←hA]
 have eB1:B.1=(x',l'):=by rw[←hB]
 have eB2:B.2=t':=by rw[←hB]
 rw[hA]at q1 h hK ⊢;rw[hB]at q2 h' hK' ⊢;have hlA:(jM (wU A)).length=t.length:=by rw[wK8];unfold wU;rw[pH,eA2]
 have hlB:(jM (wU B)).length=wS t:=by rw[wK8];unfold wU;rw[pH,eB2,hn]
 have h00:intOf A.1≠0:=by rw[eA1];exact h0
 have h00':intOf B.1≠0:=by rw[eB1];exact h0'
 rw[tabG_zero]at q4;obtain⟨r,hre⟩:∃r,t.length=r:=⟨_,rfl⟩
 obtain⟨c,hce⟩:∃c,wS t'=c:=⟨_,rfl⟩
 obtain⟨n,hne'⟩:∃n,wS t=n:=⟨_,rfl⟩
 rw[hre]at hlA htl q4 hne htc;rw[hce]at q3 q4 hcl htc;rw[hne']at hlB hnl;have hcA:wS A.2=n:=by rw[eA2];exact hne'
 have hcB:wS B.2=c:=by rw[eB2];exact hce
 repeat (first|refine wK3 3 rfl ?_|refine sq_g rfl rfl (qD5 wE rfl rfl rfl rfl rfl rfl hlA rfl) rfl ?_|refine sq_callT wE 1 200 rfl rfl rfl rfl rfl rfl rfl rfl q4 rfl rfl rfl rfl fun L0 hL0=>?_|refine sq_v wE rfl rfl rfl rfl ?_|refine wEH rfl ?_|refine wg rfl (sL hlA) ?_|refine wc q1 ?_|refine wc q2 ?_|refine wc q3 ?_|refine wl ?_|refine wv ?_|refine wz ?_)
 obtain⟨H,hH0⟩:∃H,hdr L0=H:=⟨_,rfl⟩
 have hHl:H.length=r:=by
  rw[←hH0,yM];have:=congrArg List.length hL0
  rwa [pH,wLG]at this
 rw[hH0];have hL1:L0.map (·.2)=wG7 r c (stepG A B 0 0 0):=by rw[hL0];exact wK9 fun a _ b _=>(qCG A B a b).symm
 refine wP (fun b:Nat×List (Value×List (List V))=>[jB 8 4,jC 9 [.v (.bool false),.nils,.nils],jV 10 (.list (jM (wU A))),jV 12 (.list (jM (wU B))),jI 16 c,jO 18 1 76 1 H,(401,some (.fam 79 4 b.2)),jI 54 r,jI 56 (b.1)])
  (fun b=>b.1≤r∧hdr b.2=H∧b.2.map (·.2)=wG7 r c (stepG A B b.1 0 0)) (fun b=>r-b.1) (0,L0) (fun _=>rfl) ⟨pN _,hH0,hL1⟩ ⟨rfl,rfl,rfl,rfl,rfl,⟨_,rfl⟩,rfl,rfl,rfl,trivial⟩ fun⟨i,L1⟩ hI=>?_
 obtain⟨hI1,hI2,hI3⟩:=hI;dsimp only at hI1 hI2 hI3 ⊢;rcases pK i r with hi|hi
 ·repeat (first|refine wv ?_|refine wg rfl cT ?_|refine wz ?_)
  refine wP (fun b:Nat×List (Value×List (List V))=>[jB 8 4,jC 9 [.v (.bool false),.nils,.nils],jV 10 (.list (jM (wU A))),jV 12 (.list (jM (wU B))),jI 16 c,jO 18 1 76 1 H,(401,some (.fam 79 4 b.2)),jI 54 r,jI 56 i,jI 20 i,jI 22 (b.1)])
   (fun b=>b.1≤c∧hdr b.2=H∧b.2.map (·.2)=wG7 r c (stepG A B i b.1 0)) (fun b=>c-b.1) (0,L1) (fun _=>rfl) ⟨pN _,hI2,hI3⟩ ⟨rfl,rfl,rfl,rfl,rfl,⟨_,rfl⟩,rfl,rfl,rfl,rfl,rfl,trivial⟩ fun⟨k,L2⟩ hJ=>?_
  obtain⟨hJ1,hJ2,hJ3⟩:=hJ;dsimp only at hJ1 hJ2 hJ3 ⊢;rcases pK k c with hk|hk
  ·repeat (first|refine wg rfl (sL hlB) ?_|refine wv ?_|refine wg rfl cT ?_|refine wz ?_)
   refine wP (fun b:Nat×List (Value×List (List V))=>[jB 8 4,jC 9 [.v (.bool false),.nils,.nils],jV 10 (.list (jM (wU A))),jV 12 (.list (jM (wU B))),jI 16 c,jO 18 1 76 1 H,(401,some (.fam 79 4 b.2)),jI 54 r,jI 56 i,jI 20 i,jI 22 k,jI 74 n,jI 76 (b.1)])
    (fun b=>b.1≤n∧hdr b.2=H∧b.2.map (·.2)=wG7 r c (stepG A B i k b.1)) (fun b=>n-b.1) (0,L2) (fun _=>rfl) ⟨pN _,hJ2,hJ3⟩ ⟨rfl,rfl,rfl,rfl,rfl,⟨_,rfl⟩,rfl,rfl,rfl,rfl,rfl,rfl,rfl,trivial⟩ fun⟨g,L3⟩ hM=>?_
   obtain⟨hM1,hM2,hM3⟩:=hM;dsimp only at hM1 hM2 hM3 ⊢;rcases pK g n with hg|hg
   ·obtain⟨u,k1,k2,k3,k4⟩:=tab_turn hM2 hM3 hi hk (wEF A B i k (g+1));rw[stepG_next]at k4;obtain⟨ra,hra⟩:=gE (l:=t) (i:=i) (by omega);obtain⟨za,hza⟩:∃z,ra[g]? = some z:=⟨_,pG (by rw[hr ra (pF hra)];omega)⟩
    obtain⟨rb,hrb⟩:=gE (l:=t') (i:=g) (by omega);obtain⟨zb,hzb⟩:∃z,rb[k]? = some z:=⟨_,pG (by rw[hr' rb (pF hrb)];omega)⟩
    obtain⟨qa,a1,a2⟩:=rats_at (m:=A) (by rw[eA2];exact hra) hza;obtain⟨qb,b1,b2⟩:=rats_at (m:=B) (by rw[eB2];exact hrb) hzb;have g1:=tq_at (wU A) i qa a1;have g2:=wF7 qa g _ a2;have g3:=tq_at (wU B) g qb b1;have g4:=wF7 qb k _ b2;have q5:=wQI _ _ (ent_ok h h00 i g) (ent_ok h' h00' g k);have q6:=radd5_v _ _ (valQ_ok h h' h00 h00' i k g (by omega)) (two_ok h h' h00 h00' i g g k);rw[qY,qY]at q5 q6;rw[←wW8]at q6;have hHi:i<H.length:=by omega
    have hrow:(wJ9 c (stepG A B i k g) i)[k]? = some (qU (qn (wEF A B i k g))):=by rw[qA0 _ _ hk];unfold stepG;rw[if_neg (by omega),if_pos ⟨rfl,rfl⟩]
    have hrl:=wM8 c (stepG A B i k g) i;have hkl:k<(wJ9 c (stepG A B i k g) i).length:=by omega
    clear hI2 hI3 hJ2 hJ3 hM2 hM3 a1 a2 b1 b2;generalize wJ9 c (stepG A B i k g) i=es at *
    obtain⟨L4,hL4⟩:∃L4,L3.set i (u,es.set k (qU (qn (wEF A B i k (g+1)))))=L4:=⟨_,rfl⟩
    rw[hL4]at k3 k4;generalize qn (Rat.divInt (intOf (ent A.2 i g)) (intOf A.1))=qx at *
    generalize qn (Rat.divInt (intOf (ent B.2 g k)) (intOf B.1))=qy at *
    generalize qn (wEF A B i k g)=qz at *
    repeat (first|refine wg rfl (sX i g1) ?_|refine wg rfl (sX g g2) ?_|refine wg rfl (sX g g3) ?_|refine wg rfl (sX k g4) ?_|refine wg rfl (sO i hHi) ?_|refine wg rfl (zR wE rfl rfl rfl k2 rfl rfl rfl) ?_|refine wg rfl (wV wE (j:=200) (r:=i) (i:=k) rfl rfl rfl rfl rfl rfl rfl k1 hkl rfl) ?_|refine wg rfl (zG wE (j:=200) rfl rfl rfl k1 hrow rfl rfl (pC _) rfl rfl) ?_|refine wg rfl (kM wE (j:=200) rfl rfl rfl k1 hrow rfl rfl rfl rfl (pC _) rfl hL4) ?_|refine wc q5 ?_|refine wc q6 ?_|refine wv ?_|refine wg rfl cT ?_|refine wg rfl sB ?_|refine wz ?_)
    exact⟨(g+1,L4),⟨hg,k3,k4⟩,by dsimp only;omega,rfl,rfl,rfl,rfl,rfl,⟨_,rfl⟩,rfl,rfl,rfl,rfl,rfl,rfl,rfl,trivial⟩
   ·have hge:g=n:=by omega
    subst hge;repeat (first|refine wv ?_|refine wg rfl cF ?_|refine wg rfl sB ?_|refine wz ?_)
    refine⟨(k+1,L3),⟨hk,hM2,?_⟩,by dsimp only;omega,rfl,rfl,rfl,rfl,rfl,⟨_,rfl⟩,rfl,rfl,rfl,rfl,rfl,trivial⟩;rw[hM3,←hcA,stepG_col]
  ·have hke:k=c:=by omega
   subst hke;repeat (first|refine wv ?_|refine wg rfl cF ?_|refine wg rfl sB ?_|refine wz ?_)
   refine⟨(i+1,L2),⟨hi,hJ2,?_⟩,by dsimp only;omega,rfl,rfl,rfl,rfl,rfl,⟨_,rfl⟩,rfl,rfl,rfl,trivial⟩;rw[hJ3];exact wK9 fun a _ b hb=>stepG_row A B i k a b hb
 ·have hie:i=r:=by omega
  subst hie;have hfin:wAH L1=jM (wJA A B):=tab_fin (by rw[hI3,hcB,hcA,eA2,hre];exact wK9 fun a ha b _=>by rw[stepG_last A B i a b ha,hcA])
  have q7:=qF9 (wJA A B) (intOf A.1*intOf B.1).natAbs (by
   have:=dT h00 h00';omega) (by
   have l1:=jN (intOf A.1) (intOf B.1);have l3:=w8 A.1 h.1;have l4:=w8 B.1 h'.1;have l5:=h.2.1;have l6:=h'.2.1;refine pD (jS (y:=intOf A.1*intOf B.1) ?_) (by omega);rw[bE];exact pC _) (fun q hq=>by
   obtain⟨a,b,rfl⟩:=mulQ_mem hq;refine⟨valQ_ok h h' h00 h00' a b _ (by omega),?_⟩;rw[qY];exact wU9 _ _ (dT h00 h00')) (by rw[qE9,eA2,hre];exact htl) (by
   rw[mulQ_flat,eA2,hre,hcB];exact htc) (fun y hy=>by
   rw[qE8 hy,hcB];omega)
  rw[←hI2];repeat (first|refine vw_frzTabR 16 9 200 rfl rfl hfin ?_|refine wc q7 ?_|refine wv ?_|refine wg rfl cF ?_|refine wz ?_)
  exact⟨.inl rfl,_,rfl,rfl⟩
def okZ0(z:Z0):Prop:=okL z.2∧z.2.length≤1099511627776
theorem take_eq{α:Type}{xs ys:List α}{j:Nat}{x y:α}(h:xs.take j=ys.take j)(hx:xs[j]? = some x)(hy:ys[j]? = some y):xs.take (j+1)=ys.take (j+1)↔x=y:=by rw[cI,cI,hx,hy,h];simp
theorem sameAll3_v(zs ws:List Z0)(h:∀z∈zs,okZ0 z)(h':∀z∈ws,okZ0 z)(hl:zs.length≤1099511627776)(hl':ws.length≤1099511627776):wG Tryz.prog 24 [.list (zs.map qL),.list (ws.map qL)] (fun y=>y=.bool (decide (zs=ws))):=by
 refine wD wE Tryz.func24 rfl rfl rfl rfl fun w0=>?_;have fin:∀{p:Prop}[Decidable p],¬p→V.bool false=V.bool (decide p):=fun h=>by rw[decide_eq_false h]
 by_cases hne:zs.length=ws.length
 ·repeat (first|refine wg rfl (sL (wCA _)) ?_|refine wv ?_|refine wg rfl nF ?_|refine wz ?_)
  refine wP (fun j:Nat=>[jV 0 (.list (zs.map qL)),jV 2 (.list (ws.map qL)),jI 24 (zs.length),jI 26 j])
   (fun j=>j≤zs.length∧zs.take j=ws.take j) (fun j=>zs.length-j) 0 (fun _=>rfl) ⟨pN _,rfl⟩ ⟨rfl,rfl,rfl,rfl,trivial⟩ fun j hI=>?_
  obtain⟨hJ,ht⟩:=hI;rcases pK j zs.length with hj|hj
  ·obtain⟨z,hz⟩:=gE hj;obtain⟨u,hu⟩:=gE (l:=ws) (i:=j) (by omega);have hg:=wRB zs j z hz;have hg2:=wRB ws j u hu;have oz:=h z (pF hz);have ou:=h' u (pF hu);have q1:=same3_v z u oz.1 ou.1 oz.2;have hte:=take_eq ht hz hu;by_cases he:z=u
   ·rw[decide_eq_true he]at q1;repeat (first|refine wv ?_|refine wg rfl (sX j hg) ?_|refine wg rfl (sX j hg2) ?_|refine wc q1 ?_|refine wg rfl cT ?_|refine wg rfl sB ?_|refine wz ?_)
    exact⟨j+1,⟨hj,hte.2 he⟩,by omega,rfl,rfl,rfl,rfl,trivial⟩
   ·rw[decide_eq_false he]at q1;repeat (first|refine wv ?_|refine wg rfl (sX j hg) ?_|refine wg rfl (sX j hg2) ?_|refine wc q1 ?_|refine wg rfl cT ?_|refine wz ?_)
    exact⟨.inl rfl,_,rfl,fin fun hh=>he (by rw[hh,hu]at hz;cases hz;rfl)⟩
  ·have hje:j=zs.length:=by omega
   subst hje;repeat (first|refine wv ?_|refine wg rfl cF ?_|refine wz ?_)
   refine⟨.inl rfl,_,rfl,?_⟩;rw[mZ]at ht;rw[decide_eq_true];rw[ht,hne,mZ]
 ·repeat (first|refine wg rfl (sL (wCA _)) ?_|refine wv ?_|refine wg rfl nT ?_|refine wz ?_)
  exact⟨.inl rfl,_,rfl,fin fun hh=>hne (by rw[hh])⟩
def okM0(m:M0):Prop:=okZ0 m.1∧(∀r∈m.2,r.length≤1099511627776∧∀z∈r,okZ0 z)∧m.2.length≤1099511627776
theorem same11_aux(x x':Bool)(l l':List Nat)(t t':List (List Z0))(h:okM0 ((x,l),t))(h':okM0 ((x',l'),t')):wG Tryz.prog 10 [.agg [.bool x,vL l,tV t],.agg [.bool x',vL l',tV t']] (fun y=>y=.bool (decide (((x,l),t)=((x',l'),t')))):=by
 refine wD wE Tryz.func10 rfl rfl rfl rfl fun w0=>?_;have fin:∀{p:Prop}[Decidable p],¬p→V.bool false=V.bool (decide p):=fun h=>by rw[decide_eq_false h]
 obtain⟨h1,h2,h3⟩:=h;obtain⟨g1,g2,g3⟩:=h';dsimp only at h1 h2 h3 g1 g2 g3;have q1:=same3_v (x,l) (x',l') h1.1 g1.1 h1.2;have hp:((x,l),t)=((x',l'),t')↔(x,l)=(x',l')∧t=t':=by simp
 by_cases hd:(x,l)=(x',l')
 ·rw [decide_eq_true hd]at q1;by_cases hne:t.length=t'.length
  ·repeat (first|refine wg rfl (sL (wCE _)) ?_|refine wv ?_|refine wc q1 ?_|refine wg rfl nF ?_|refine wz ?_)
   refine wP (fun j:Nat=>[jB 4 2,jC 5 [.v (.bool x),.v (vL l),.v (tV t)],jB 6 3,jC 7 [.v (.bool x'),.v (vL l'),.v (tV t')],jI 46 (t.length),jI 48 j])
    (fun j=>j≤t.length∧t.take j=t'.take j) (fun j=>t.length-j) 0 (fun _=>rfl) ⟨pN _,rfl⟩ ⟨rfl,rfl,rfl,rfl,rfl,rfl,trivial⟩ fun j hI=>?_
   obtain⟨hJ,ht⟩:=hI;rcases pK j t.length with hj|hj
   ·obtain⟨z,hz⟩:=gE hj;obtain⟨u,hu⟩:=gE (l:=t') (i:=j) (by omega);have hg:=wJE t j z hz;have hg2:=wJE t' j u hu;have oz:=h2 z (pF hz);have ou:=g2 u (pF hu);have q2:=sameAll3_v z u oz.2 ou.2 oz.1 ou.1;have hte:=take_eq ht hz hu;by_cases he:z=u
    ·rw[decide_eq_true he]at q2;repeat (first|refine wv ?_|refine wg rfl (sX j hg) ?_|refine wg rfl (sX j hg2) ?_|refine wc q2 ?_|refine wg rfl cT ?_|refine wg rfl sB ?_|refine wz ?_)
     exact⟨j+1,⟨hj,hte.2 he⟩,by omega,rfl,rfl,rfl,rfl,rfl,rfl,trivial⟩
    ·rw[decide_eq_false he]at q2;repeat (first|refine wv ?_|refine wg rfl (sX j hg) ?_|refine wg rfl (sX j hg2) ?_|refine wc q2 ?_|refine wg rfl cT ?_|refine wz ?_)
     exact⟨.inl rfl,_,rfl,fin fun hh=>he (by have:=(hp.1 hh).2;rw[this,hu]at hz;cases hz;rfl)⟩
   ·have hje:j=t.length:=by omega
    subst hje;repeat (first|refine wv ?_|refine wg rfl cF ?_|refine wz ?_)
    refine⟨.inl rfl,_,rfl,?_⟩;rw[mZ]at ht;rw[decide_eq_true];rw[hp];exact⟨hd,by rw[ht,hne,mZ]⟩
  ·repeat (first|refine wg rfl (sL (wCE _)) ?_|refine wv ?_|refine wc q1 ?_|refine wg rfl nT ?_|refine wz ?_)
   exact⟨.inl rfl,_,rfl,fin fun hh=>hne (by rw[(hp.1 hh).2])⟩
 ·rw[decide_eq_false hd]at q1;repeat (first|refine wv ?_|refine wc q1 ?_|refine vD rfl rfl rfl rfl rfl rfl ?_|refine wz ?_)
  exact⟨.inl rfl,_,rfl,fin fun hh=>hd (hp.1 hh).1⟩
theorem comD_pos(qs:List QQ):0<wD1 qs:=lcmN_pos _ 1 (by decide) fun x hx=>by obtain⟨q,_,rfl⟩:=pO.1 hx;have:=(wX q).den_nz;omega
theorem comD_dvd(qs:List QQ)(D:Nat)(h:∀q∈qs,(wX q).den∣D):wD1 qs∣D:=lcmN_dvd _ 1 D (Nat.one_dvd _) fun x hx=>by obtain⟨q,hq,rfl⟩:=pO.1 hx;exact h q hq
theorem qFI(qs:List QQ)(q:QQ)(h:q∈qs):(wX q).den∣wD1 qs:=(dvd_lcmN _ 1).2 _ (pO.2 ⟨q,h,rfl⟩)
theorem den_rat_ne(x:Rat):((x.den:Int):Rat)≠0:=fun h=>by have:=bL.1 (show((x.den:Int):Rat)=((0:Int):Rat)from h);have:=x.den_nz;omega
theorem mul_over(x:Rat)(e:Nat):x*(((x.den*e:Nat):Int):Rat)=((x.num*(e:Int):Int):Rat):=by
 rw[bC,dJ,←pA2];have h:x*((x.den:Int):Rat)=(x.num:Rat):=by
  conv=>lhs;arg 1;rw[←fB x]
  rw[dV];exact fP (den_rat_ne x)
 rw[h,←dJ]
theorem comF_back(x:Rat)(D:Nat)(hD:0<D)(h:x.den∣D):Rat.divInt (x*((D:Int):Rat)).num (D:Int)=x:=by
 obtain⟨e,rfl⟩:=h;have he:(e:Int)≠0:=by
  intro h
  have:e=0:=by omega
  subst this;simp at hD
 rw[mul_over,Rat.num_intCast,bC,pE1 he,fB]
def normQ(R:List (List QQ)):Prop:=∀q∈R.flatten,q=qn (wX q)
theorem wX2(R:List (List QQ))(h:normQ R):wU (wNA R)=R:=by
 unfold wU wNA;dsimp only;rw[mU]
 conv=>rhs;rw[←gS R]
 refine mP fun r hr=>?_;simp only[Function.comp];rw[mU]
 conv=>rhs;rw[id,←gS r]
 refine mP fun q hq=>?_;have hm:q∈R.flatten:=cY.2 ⟨r,hr,hq⟩;show qn (Rat.divInt (intOf (zn (wX q*((wD1 R.flatten:Nat):Int)).num)) (intOf (zn ((wD1 R.flatten:Nat):Int))))=q;rw[wF,wF,comF_back _ _ (comD_pos _) (qFI _ _ hm)];exact(h q hm).symm
theorem divInt_inj{p q D:Int}(hD:D≠0)(h:Rat.divInt p D=Rat.divInt q D):p=q:=by have hD':(D:Rat)≠0:=fun e=>hD (bL.1 (show(D:Rat)=((0:Int):Rat)from e));rw[dV,dV]at h;have e:=congrArg (fun x:Rat=>x*(D:Rat)) h;simp only[Rat.div_mul_cancel hD']at e;exact bL.1 e
theorem wWC{r c:Nat}(F:Nat→Nat→ZZ)(hr:0<r):wS (kZ r c F)=c:=by
 unfold wS kZ;obtain⟨r,rfl⟩:∃k,r=k+1:=⟨r-1,by omega⟩
 rw[List.range_succ_eq_map];simp
theorem tabF_dvd{d:ZZ}{r c:Nat}{F:Nat→Nat→Int}(h0:intOf d≠0){a b:Nat}(ha:a<r)(hb:b<c):x6 d (kZ r c fun i k=>zn (F i k))∣F a b:=by
 obtain⟨_,_,h⟩:=v8 d (kZ r c fun i k=>zn (F i k)) h0;have:=h ((List.range c).map fun b=>zn (F a b)) (pO.2 ⟨a,dK.2 ha,rfl⟩) (zn (F a b)) (pO.2 ⟨b,dK.2 hb,rfl⟩)
 rwa [wF]at this
theorem qEB{d:ZZ}{r c K:Nat}{F:Nat→Nat→Int}(h0:intOf d≠0)(hd:lm (intOf d)≤K)(hK:1≤K)(hF:∀i k,lm (F i k)≤K)(hr:r≤68719476736)(hc:c≤68719476736)(hrc:r*c≤68719476736) :
  okM (qC d (kZ r c fun i k=>zn (F i k))) K∧chk (qC d (kZ r c fun i k=>zn (F i k)))=0∧(qC d (kZ r c fun i k=>zn (F i k))).2.length=r∧∀x∈(qC d (kZ r c fun i k=>zn (F i k))).2,x.length=c:=by
 obtain⟨hS1,hS2,_⟩:=v8 d (kZ r c fun i k=>zn (F i k)) h0;have hlen:(qC d (kZ r c fun i k=>zn (F i k))).2.length=r:=by show(List.map _ (kZ r c fun i k=>zn (F i k))).length=r;unfold kZ;simp only[List.length_map,List.length_range]
 have hrow:∀x∈(qC d (kZ r c fun i k=>zn (F i k))).2,x.length=c∧∀z∈x,okL z.2∧z.2.length≤K:=by intro x hx;obtain⟨r',h1,rfl⟩:=pO.1 hx;obtain⟨g1,g2⟩:=wS3 h1;refine⟨by rw[pH];exact g1,fun z hz=>?_⟩;obtain⟨z',hz',rfl⟩:=pO.1 hz;obtain⟨i,k,rfl⟩:=g2 z' hz';refine⟨wC9 _,?_⟩;rw[zn_lm];refine pD (jS (y:=F i k) ?_) (hF i k);rw[dS,wF];exact cP ..
 have hden:lm (if wS (kZ r c fun i k=>zn (F i k))=0 then 1 else(intOf d).tdiv (x6 d (kZ r c fun i k=>zn (F i k))))≤K:=by
  split
  ·exact pD (lm_dvd (Int.one_dvd _) h0) hd
  ·refine pD (jS (y:=intOf d) ?_) hd;rw[dS];exact cP ..
 refine⟨⟨wC9 _,hden,⟨by rw[hlen];exact hr,fun x hx=>⟨by rw[(hrow x hx).1];exact hc,(hrow x hx).2⟩⟩,by rw[kU fun x hx=>(hrow x hx).1,hlen];exact hrc⟩,wP5 _ ?_ (wFD _ _ fun x hx=>(hrow x hx).1),hlen,fun x hx=>(hrow x hx).1⟩;show intOf (zn (if wS (kZ r c fun i k=>zn (F i k))=0 then 1 else(intOf d).tdiv (x6 d (kZ r c fun i k=>zn (F i k)))))≠0;rw[wF];split
 ·decide
 ·intro hz;have:=pE2 hS2;rw[hz,Int.mul_zero]at this;exact h0 this.symm
structure sqM(m:MM)(n K:Nat):Prop where
 ok:okM m K
 ch:chk m=0
 rows:m.2.length=n
 cols:∀x∈m.2,x.length=n
theorem sqM.den{m:MM}{n K:Nat}(h:sqM m n K):intOf m.1≠0:=(chk0 h.ch).1
theorem sqM.cl{m:MM}{n K:Nat}(h:sqM m n K)(hn:0<n):wS m.2=n:=by
 unfold wS;cases hm:m.2 with
 |nil=>have:=h.rows;rw[hm]at this;simp at this;omega
 |cons r t=>exact h.cols r (by rw[hm];exact pT ..)
theorem sqM.mono{m:MM}{n K K':Nat}(h:sqM m n K)(hk:K≤K'):sqM m n K':=⟨kP h.ok hk,h.ch,h.rows,h.cols⟩
theorem sqM.of{m:MM}{n K:Nat}(h:okM m K)(hc:chk m=0)(hr:m.2.length=n)(hl:wS m.2=n):sqM m n K:=⟨h,hc,hr,fun x hx=>by rw[wR2 _ (chk0 hc).2 x hx,hl]⟩
theorem sqM.mul{m m':MM}{n K:Nat}(h:sqM m n K)(h':sqM m' n K)(hn:0<n)(hn':n≤24)(hK:1≤K):sqM (xJ m m') n (2*K+24):=by
 have e1:=h.cl hn;have e2:=h'.cl hn;have l1:=jN (intOf m.1) (intOf m'.1);have l3:=w8 m.1 h.ok.1;have l4:=w8 m'.1 h'.ok.1;have l5:=h.ok.2.1;have l6:=h'.ok.2.1;obtain⟨g1,g2,g3,g4⟩:=qEB (d:=zn (intOf m.1*intOf m'.1)) (r:=m.2.length) (c:=wS m'.2) (K:=2*K+24) (F:=fun i k=>xZ m.2 m'.2 i k (wS m.2)) (by rw[wF];exact dT h.den h'.den) (by rw[wF];omega) (by omega) (fun i k=>by have:=wH9 m.2 m'.2 K 0 i k (wB6 h.ok.2.2.1) (wB6 h'.ok.2.2.1) (wS m.2);show lm (xZ m.2 m'.2 i k (wS m.2))≤_;omega) (by rw[h.rows];omega) (by omega) (by rw[h.rows,e2];exact pD (dR hn' hn') (by decide))
 exact⟨g1,g2,g3.trans h.rows,fun x hx=>(g4 x hx).trans e2⟩
theorem sqM.id(n:Nat)(hn':n≤24):sqM (idM n) n 1:=by
 have h1:lm 1≤1:=by have:=lm_one 0 0;unfold oneI at this;rwa [if_pos rfl]at this
 obtain⟨g1,g2,g3,g4⟩:=qEB (d:=zn 1) (r:=n) (c:=n) (K:=1) (F:=oneI) (by rw[wF];decide) (by rw[wF];exact h1) (pC _) lm_one (by omega) (by omega) (pD (dR hn' hn') (by decide));exact⟨g1,g2,g3,g4⟩
theorem qMul_sq{m m':MM}{n K:Nat}(h:sqM m n K)(h':sqM m' n K)(hn:0<n)(hK:K≤68719476736):wG Tryz.prog 26 [vM m,vM m'] (fun y=>y=.tup [vM (xJ m m'),.int .i64 0]):=by have e1:=h.cl hn;have e2:=h'.cl hn;have r1:=h.rows;have r2:=h'.rows;have c1:=h.cols;have c2:=h'.cols;have d1:=h.den;have d2:=h'.den;have o1:=h.ok;have o2:=h'.ok;have k1:=h.ch;have k2:=h'.ch;clear h h';obtain⟨⟨x,l⟩,t⟩:=m;obtain⟨⟨x',l'⟩,t'⟩:=m';dsimp only at e1 e2 r1 r2 c1 c2;exact qMul_v x x' l l' t t' K hK k1 k2 d1 d2 ⟨o1.1,o1.2.1⟩ ⟨o2.1,o2.2.1⟩ o1.2.2.1 o2.2.2.1 (fun r hr=>by rw[c1 r hr,e1]) (fun r hr=>by rw[c2 r hr,e2]) (by omega)
theorem frac_eq{x y d d':Int}(hd:d≠0)(hd':d'≠0):x*d'=y*d↔Rat.divInt x d=Rat.divInt y d':=by have e1:Rat.divInt (x*d') (d*d')=Rat.divInt x d:=pE1 hd';have e2:Rat.divInt (y*d) (d'*d)=Rat.divInt y d':=pE1 hd;rw[←e1,←e2,pG5 d' d];exact⟨fun h=>by rw[h],divInt_inj (dT hd hd')⟩
theorem wX1(m:MM):normQ (wU m):=fun q hq=>by rw[v6]at hq;obtain⟨z,_,rfl⟩:=pO.1 hq;rw[qY]
theorem qDI(m:MM):(wU m).length=m.2.length:=by unfold wU;rw[pH]
theorem wX3(m:MM):((wU m).headD []).length=wS m.2:=by
 unfold wU wS;cases m.2 with
 |nil=>rfl
 |cons r t=>simp
theorem rats_madeF{d:ZZ}{r c:Nat}{F:Nat→Nat→Int}(h0:intOf d≠0)(hr:0<r)(hc:0<c):wU (qC d (kZ r c fun i k=>zn (F i k)))=(List.range r).map fun a=>(List.range c).map fun b=>qn (Rat.divInt (F a b) (intOf d)):=by
 obtain⟨s1,s2,_⟩:=v8 d (kZ r c fun i k=>zn (F i k)) h0;have hd:intOf (qC d (kZ r c fun i k=>zn (F i k))).1=(intOf d).tdiv (x6 d (kZ r c fun i k=>zn (F i k))):=by show intOf (zn (if wS (kZ r c fun i k=>zn (F i k))=0 then 1 else _))=_;rw[wWC _ hr,if_neg (by omega),wF]
 have hF:∀a b,a<r→b<c→x6 d (kZ r c fun i k=>zn (F i k))∣F a b:=fun a b ha hb=>tabF_dvd h0 ha hb;unfold wU;rw[hd];show List.map _ (List.map _ (kZ r c fun i k=>zn (F i k)))=_;generalize x6 d (kZ r c fun i k=>zn (F i k))=S at *
 unfold kZ;rw[mU,mU];refine mP fun a ha=>?_;simp only[Function.comp];rw[mU,mU];refine mP fun b hb=>?_;simp only[Function.comp];rw[wF,wF];obtain⟨p,hp⟩:=hF a b (dK.1 ha) (dK.1 hb);obtain⟨q,hq⟩:=s2;rw[hp,hq,gF _ s1,gF _ s1,Rat.divInt_mul_left s1]
theorem wOE{m m':MM}(h0:intOf m.1≠0)(h0':intOf m'.1≠0)(hr:0<m.2.length)(hc:0<wS m'.2):wU (xJ m m')=wJA m m':=by have e:=rats_madeF (d:=zn (intOf m.1*intOf m'.1)) (F:=fun i k=>xZ m.2 m'.2 i k (wS m.2)) (by rw[wF];exact dT h0 h0') hr hc;rw[wF]at e;exact e
def entQ(R:List (List QQ))(a h:Nat):Rat:=wX ((R.getD a []).getD h (qn 0))
def sumR(X Y:List (List QQ))(a b:Nat):Nat→Rat
 |0=>0
 |h+1=>sumR X Y a b h+entQ X a h*entQ Y h b
def wBF(X Y:List (List QQ)):List (List QQ):=(List.range X.length).map fun a=>(List.range (Y.headD []).length).map fun b=>qn (sumR X Y a b (X.headD []).length)
theorem ent_rats(m:MM)(a h:Nat):Rat.divInt (intOf (ent m.2 a h)) (intOf m.1)=entQ (wU m) a h:=by
 unfold ent entQ wU;rw[pE,pE,pE,pE,pJ];have hz:Rat.divInt (intOf ((false,[]):ZZ)) (intOf m.1)=wX (qn 0):=by
  rw[qY]
  have:intOf ((false,[]):ZZ)=0:=rfl
  rw[this,pH8]
 cases m.2[a]? with
 |none=>simp only[Option.map_none,Option.getD_none,List.getElem?_nil];exact hz
 | some r=>
  simp only[Option.map_some,Option.getD_some,List.getElem?_map];cases r[h]? with
  |none=>simp only[Option.map_none,Option.getD_none];exact hz
  |some z=>simp only[Option.map_some,Option.getD_some];rw[qY]
theorem qC7(m m':MM)(a b:Nat):∀h,wEF m m' a b h=sumR (wU m) (wU m') a b h
 |0=>wI5 m m' a b
 |h+1=>by rw[wW8,qC7 m m' a b h,ent_rats,ent_rats];rfl
theorem wA9(m m':MM):wJA m m'=wBF (wU m) (wU m'):=by unfold wJA wBF;rw[qDI,wX3,wX3];refine mP fun a _=>?_;refine mP fun b _=>?_;rw[qC7]
theorem mulQ_congr{m m' p p':MM}(h:wU m=wU p)(h':wU m'=wU p'):wJA m m'=wJA p p':=by rw[wA9,wA9,h,h']
end Go.Proofs.YtdcjmnfngabhoaaGreat
