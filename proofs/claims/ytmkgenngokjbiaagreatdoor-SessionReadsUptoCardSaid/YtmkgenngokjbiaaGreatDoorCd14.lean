/- simileref03.Lcm told of trees. ALLOC -/
import Derived.Below
import Derived.Test.YtmkgenngokjbiaaGreatDoorCd13
set_option linter.all false
set_option maxRecDepth 20000
set_option maxHeartbeats 6400000
namespace Go.Proofs.YtmkgenngokjbiaaGreatDoor
open Go.RowKit Go.Ev Go.Vl
def lcmI(a x:Int):Int:=a*((x.natAbs:Int).tdiv (Int.gcd a x:Nat))
theorem lcmI_nat(a x:Nat):lcmI a x=(Nat.lcm a x:Nat):=by show(a:Int)*(((x:Int).natAbs:Int).tdiv (Int.gcd a x:Nat))=_;rw[cJ,Int.gcd_natCast_natCast];rw[show((x:Int)).tdiv ((Nat.gcd a x:Nat):Int)=((x/Nat.gcd a x:Nat):Int)from(Int.ofNat_tdiv x (Nat.gcd a x)).symm];rw[←dT];congr 1;rw[Nat.lcm,Nat.mul_div_assoc _ (Nat.gcd_dvd_right a x)]
theorem lcmI_eq(a:Nat)(x:Int):lcmI a x=(Nat.lcm a x.natAbs:Nat):=by rw[←lcmI_nat];unfold lcmI;rw[cJ];rfl
def wI9(xs:List Int)(a:Nat):Nat:=xs.foldl (fun a x=>Nat.lcm a x.natAbs) a
theorem lcmN_pos(xs:List Int)(a:Nat)(h:0<a)(hx:∀x∈xs,x≠0):0<wI9 xs a:=by
 induction xs generalizing a with
 |nil=>exact h
 |cons x xs ih=>exact ih _ (pF0 h (by have:=hx x (pQ ..);omega)) fun y hy=>hx y (pO _ hy)
theorem lcmN_dvd(xs:List Int)(a D:Nat)(h:a∣D)(hx:∀x∈xs,x.natAbs∣D):wI9 xs a∣D:=by
 induction xs generalizing a with
 |nil=>exact h
 |cons x xs ih=>exact ih _ (pF1 h (hx x (pQ ..))) fun y hy=>hx y (pO _ hy)
theorem qJ9(xs:List Int)(a:Nat):a∣wI9 xs a∧∀x∈xs,x.natAbs∣wI9 xs a:=by
 induction xs generalizing a with
 |nil=>exact⟨Nat.dvd_refl _,by simp⟩
 |cons x xs ih=>
  obtain⟨h1,h2⟩:=ih (Nat.lcm a x.natAbs);refine⟨gQ (Nat.dvd_lcm_left ..) h1,fun y hy=>?_⟩;rcases pS.1 hy with rfl|hy
  ·exact gQ (Nat.dvd_lcm_right ..) h1
  ·exact h2 y hy
theorem x5{a b:Nat}(h:a≤b):lm (a:Int)≤lm (b:Int):=w8 h
theorem lcm3_v(zs:List ZZ)(D:Nat)(hD:0<D)(hDl:lm D≤549755813888)(hz:∀z∈zs,okZ z∧intOf z≠0∧(intOf z).natAbs∣D)(hl:zs.length≤1099511627776):wJ Tryz.prog 70 [vZs zs] (fun y=>y=nI (wI9 (zs.map intOf) 1:Nat)):=by
 refine wC wL Tryz.func70 rfl rfl rfl rfl fun w0=>?_;have q0:=rof_v 1 (by decide);repeat (first|refine wg rfl (sL (wM8 _)) ?_|refine wl ?_|refine wv ?_|refine wc q0 ?_|refine wz ?_)
 refine qC (fun b:Nat×Nat=>[jB 4 2,jC 5 [.v (.bool false),.nils],jB 6 3,jC 7 [.v (.bool (zn (b.2:Nat)).1),.v (vL (zn (b.2:Nat)).2)],jV 18 (vZs zs),jI 20 (zs.length),jI 22 (b.1)])
  (fun b=>b.1≤zs.length∧0<b.2∧b.2∣D∧wI9 ((zs.drop b.1).map intOf) b.2=wI9 (zs.map intOf) 1) (fun b=>zs.length-b.1) (0,1) (fun _=>rfl) ⟨pG _,by decide,pF2 _,rfl⟩ ⟨rfl,rfl,rfl,rfl,rfl,rfl,rfl,trivial⟩ fun⟨j,x⟩ hI=>?_
 obtain⟨h1,h2,h3,h4⟩:=hI;dsimp only at h1 h2 h3 h4 ⊢;rcases pL j zs.length with hj|hj
 ·obtain⟨z,hze⟩:=gE hj;obtain⟨hzo,hz0,hzD⟩:=hz z (pE hze);have hg:(zs.map zrow)[j]? = some [.bool z.1,vL z.2]:=by rw[pW,hze];rfl
  have hd:zs.drop j=z::zs.drop (j+1):=by rw[cE hj];rw[pK hj]at hze;cases hze;rfl
  rw[hd]at h4;have hx:=jJ (x:Nat) (pD (x5 (cX hD h3)) (pD hDl (by decide)));have hgp:0<Int.gcd (x:Nat) (intOf z):=dS _ hz0;have hgz:lm (Int.gcd (x:Nat) (intOf z):Nat)≤549755813888:=pD (x5 (pD (cX h2 (by have:=bZ (x:Int) (intOf z);exact pA3.1 this)) (cX hD h3))) hDl
  have haz:lm ((intOf z).natAbs:Int)≤549755813888:=pD (x5 (cX hD hzD)) hDl;have q1:=qCG z hzo;have hs:sgn (intOf z)≠0:=by rcases qCB (intOf z)with h|h|h<;>omega
  have q2:=rabs_v z hzo;rw[←zT]at q2;have q3:=rgcd_v (zn (x:Nat)) z hx hzo;rw[wE]at q3;have q4:=wHC (zn ((intOf z).natAbs:Int)) (zn (Int.gcd (x:Nat) (intOf z):Nat)) (jJ _ (by omega)) (jJ _ (by omega)) (by rw[wE];omega) (by rw[wE,wE];exact Int.dvd_natAbs.2 (fF ..))
  rw[wE,wE]at q4;obtain⟨p,hp⟩:∃p:Int,p=((intOf z).natAbs:Int).tdiv (Int.gcd (x:Nat) (intOf z):Nat):=⟨_,rfl⟩
  rw[←hp]at q4;have hpl:lm p≤549755813888:=by rw[hp];refine pD (wCF ?_) haz;rw[bP];exact cO ..
  have q5:=qCJ (zn (x:Nat)) (zn p) hx (jJ _ (by omega));rw[wE,wE]at q5;have hxp:(x:Int)*p=(Nat.lcm x (intOf z).natAbs:Nat):=by rw[hp,←lcmI_eq];rfl
  rw[hxp]at q5;have h5:Nat.lcm x (intOf z).natAbs∣D:=pF1 h3 hzD;have h6:0<Nat.lcm x (intOf z).natAbs:=pF0 h2 (by omega);have h7:wI9 ((zs.drop (j+1)).map intOf) (Nat.lcm x (intOf z).natAbs)=wI9 (zs.map intOf) 1:=h4;repeat (first|refine wl ?_|refine wv ?_|refine wg rfl cT ?_|refine wg rfl cF ?_|refine wg rfl sB ?_|refine wg rfl (sX j hg) ?_|refine wc q1 ?_|refine wc q2 ?_|refine wc q3 ?_|refine wc q4 ?_|refine wc q5 ?_|refine wz ?_)
  exact⟨(j+1,Nat.lcm x (intOf z).natAbs),⟨hj,h6,h5,h7⟩,by dsimp only;omega,rfl,rfl,rfl,rfl,rfl,rfl,rfl,trivial⟩
 ·rw[mP hj]at h4;repeat (first|refine wv ?_|refine wg rfl cF ?_|refine wz ?_)
  refine⟨.inl rfl,_,rfl,?_⟩;rw[←h4];exact rfl
def q0:List V:=[.bool false,.list [],.bool false,.list []]
theorem even_of(T:List (List ZZ))(c:Nat)(h:∀r∈T,r.length=c):wWF T=true:=by
 unfold wWF;rw[mD];intro r hr;cases T with
 |nil=>cases hr
 |cons r0 T=>rw[decide_eq_true_eq,h r hr];exact(h r0 (pQ ..)).symm
theorem of_even(T:List (List ZZ))(h:wWF T=true):∀r∈T,r.length=vD T:=by unfold wWF at h;rw[mD]at h;intro r hr;have:=h r hr;rw[decide_eq_true_eq]at this;exact this
theorem chk_of(m:MM)(h0:intOf m.1≠0)(he:wWF m.2=true):chk m=0:=by unfold chk;rw[if_neg h0,if_pos he]
theorem tq_at(t:List (List QQ))(j:Nat)(r:List QQ)(h:t[j]? = some r):(wB6 t)[j]? = some [V.list (r.map kL)]:=by unfold wB6;rw[pW,h];rfl
def kM(qs:List QQ):Nat:=wI9 (qs.map fun q=>((wW q).den:Int)) 1
def zL(D:Int)(q:QQ):ZZ:=zn (wW q*(D:Rat)).num
theorem qI7(a b:List Int)(n:Nat):wI9 (a++b) n=wI9 b (wI9 a n):=by unfold wI9;rw[List.foldl_append]
theorem lcmN_two(a:Nat)(x:Int):wI9 [(a:Int),x] 1=Nat.lcm a x.natAbs:=by show Nat.lcm (Nat.lcm 1 (a:Int).natAbs) x.natAbs=_;rw[cJ,Nat.lcm_one_left]
theorem vA{α:Type}{qs:List α}{j:Nat}{q:α}(h:qs[j]? = some q):qs.take (j+1)=qs.take j++[q]:=by rw[cW,h];rfl
theorem mul_den(q D:Rat)(hD:D.den=1):lm (q*D).num≤lm q.num+lm D.num∧lm ((q*D).den:Int)≤lm (q.den:Int):=by
 have e:q*D=Rat.divInt (q.num*D.num) (q.den*D.den:Nat):=by
  conv=>lhs;rw[←dW q,←dW D]
  rw[pB3];rfl
 have hne:((q.den*D.den:Nat):Int)≠0:=by have:=q.den_nz;rw[hD,fV];omega
 obtain⟨h1,h2⟩:=wFC (q.num*D.num) (q.den*D.den:Nat) hne;rw[e];refine⟨pD h1 (wPJ ..),?_⟩;rw[hD,fV]at h2 ⊢;exact h2
theorem common_v(qs:List QQ)(D:Nat)(hD:0<D)(hDl:lm D≤68719476736)(hq:∀q∈qs,okS q∧(wW q).den∣D)(hl:qs.length≤1099511627776):wJ Tryz.prog 34 [vQs qs] (fun y=>y=.tup [nI (kM qs:Nat),.list ((qs.map (zL (kM qs:Nat))).map w9)]):=by
 refine wC wL Tryz.func34 rfl rfl rfl rfl fun w0=>?_;have q0:=rof_v 1 (by decide);repeat (first|refine wc q0 ?_|refine wg rfl (sL (vC qs)) ?_|refine wl ?_|refine wv ?_|refine wz ?_)
 refine qC (fun b:Nat×Nat=>[jV 0 (vQs qs),jB 4 2,jC 5 [.v (.bool false),.nils],jB 8 4,jC 9 [.v (.bool (zn (b.2:Nat)).1),.v (vL (zn (b.2:Nat)).2)],jV 22 (vQs qs),jI 24 (qs.length),jI 26 (b.1)])
  (fun b=>b.1≤qs.length∧0<b.2∧b.2∣D∧b.2=kM (qs.take b.1)) (fun b=>qs.length-b.1) (0,1) (fun _=>rfl) ⟨pG _,by decide,pF2 _,rfl⟩ ⟨rfl,rfl,rfl,rfl,rfl,rfl,rfl,rfl,trivial⟩ fun⟨j,a⟩ hI=>?_
 obtain⟨hJ,ha,had,hae⟩:=hI;dsimp only at hJ ha had hae ⊢;rcases pL j qs.length with hj|hj
 ·obtain⟨q,hqe⟩:=gE hj;obtain⟨o1,o2⟩:=hq q (pE hqe);have hg:=wF6 qs j q hqe;have q1:=rNorm05_v q o1.ok o1.2.2.2.2;have hden:=(wW q).den_nz;have hla:lm (a:Int)≤68719476736:=pD (x5 (cX hD had)) hDl;have hlq:lm ((wW q).den:Int)≤68719476736:=pD (x5 (cX hD o2)) hDl;have q2:=lcm3_v [zn (a:Nat),zn ((wW q).den:Int)] D hD (by omega) (fun z hz=>by
   rcases pS.1 hz with rfl|hz
   ·exact⟨jJ _ (by omega),by rw[wE];omega,by rw[wE];exact had⟩
   ·rw[pP.1 hz];exact⟨jJ _ (by omega),by rw[wE];omega,by rw[wE];exact o2⟩) (by show 2≤1099511627776;decide)
  have e1:wI9 ([zn (a:Nat),zn ((wW q).den:Int)].map intOf) 1=Nat.lcm a (wW q).den:=by show wI9 [intOf (zn (a:Nat)),intOf (zn ((wW q).den:Int))] 1=_;rw[wE,wE,lcmN_two,cJ]
  rw[e1]at q2;have e2:Nat.lcm a (wW q).den=kM (qs.take (j+1)):=by rw[vA hqe];unfold kM at hae ⊢;rw[bQ,qI7,←hae];show _=Nat.lcm a ((wW q).den:Int).natAbs;rw[cJ]
  have e3:0<Nat.lcm a (wW q).den:=pF0 ha (by omega);have e4:Nat.lcm a (wW q).den∣D:=pF1 had o2;clear hae;unfold nR qn at q1;obtain⟨⟨x,l⟩,⟨y,k⟩⟩:=q;repeat (first|refine wg rfl (sX j hg) ?_|refine wc q1 ?_|refine wh q2 ?_|refine wl ?_|refine wv ?_|refine wg rfl cT ?_|refine wg rfl sB ?_|refine wz ?_)
  exact⟨(j+1,_),⟨hj,e3,e4,e2⟩,by dsimp only;omega,rfl,rfl,rfl,rfl,rfl,rfl,rfl,rfl,trivial⟩
 ·rw[mW hj]at hae;subst hae;obtain⟨C,hCe⟩:∃C,kM qs=C:=⟨_,rfl⟩
  rw[hCe]at ha had ⊢;have hCl:lm (C:Int)≤68719476736:=pD (x5 (cX hD had)) hDl;have q3:=rint5_v (zn (C:Nat)) (jJ _ (by omega));rw[wE]at q3;repeat (first|refine wg rfl (sL (vC qs)) ?_|refine wv ?_|refine wg rfl cF ?_|refine wz ?_)
  refine yI (d:=7) (id:=1) (k:=2) (T:=25) rfl rfl rfl rfl ?_;refine qC (fun i:Nat=>[jB 4 2,jC 5 [.v (.bool false),.nils],jB 8 4,jC 9 [.v (.bool (zn (C:Nat)).1),.v (vL (zn (C:Nat)).2)],jO 14 1 25 2 (((qs.take i).map (zL (C:Nat))).map w9),jV 48 (vQs qs),jI 50 (qs.length),jI 52 i])
   (fun i=>i≤qs.length) (fun i=>qs.length-i) 0 (fun _=>rfl) (pG _) ⟨rfl,rfl,rfl,rfl,⟨_,rfl⟩,rfl,rfl,rfl,trivial⟩ fun i hI=>?_
  rcases pL i qs.length with hi|hi
  ·obtain⟨q,hqe⟩:=gE hi;obtain⟨o1,o2⟩:=hq q (pE hqe);have hg:=wF6 qs i q hqe;have q4:=rmul5_v q (qn ((C:Int):Rat)) o1 (okS_qn _ (by simpa using hCl) (by
    show lm ((((C:Int):Rat).den:Nat):Int)≤_;rw[pB9];exact pD (lm_dvd (y:=(C:Int)) (Int.one_dvd _) (by omega)) hCl))
   rw[qH3]at q4;have hs:((qs.take i).map (zL (C:Nat))).map w9++[w9 (zL (C:Nat) q)]=((qs.take (i+1)).map (zL (C:Nat))).map w9:=by rw[vA hqe];simp
   have hlen:(((qs.take i).map (zL (C:Nat))).map w9).length=i:=by rw[pF,pF,mG];omega
   have row2:∀e∈[w9 (zL (C:Nat) q)],e.length=2:=fun e h=>by rw[pP.1 h];rfl
   unfold nR qn at q3 q4;unfold zL at hs row2 hlen;obtain⟨⟨x,l⟩,⟨y,k⟩⟩:=q;repeat (first|refine wg rfl (sX i hg) ?_|refine wc q3 ?_|refine wc q4 ?_|refine wf rfl rfl (sA 7001 [w9 (zn (wW ((x,l),(y,k))*((C:Int):Rat)).num)] 2 32 row2 hs) ?_|refine wl ?_|refine wv ?_|refine wg rfl cT ?_|refine wg rfl sB ?_|refine wz ?_)
   exact⟨i+1,hi,by omega,rfl,rfl,rfl,rfl,⟨_,rfl⟩,rfl,rfl,rfl,trivial⟩
  ·have hie:i=qs.length:=by omega
   subst hie;rw[pZ];repeat (first|refine wv ?_|refine wg rfl cF ?_|refine wz ?_)
   exact⟨.inl rfl,_,rfl,rfl⟩
end Go.Proofs.YtmkgenngokjbiaaGreatDoor
/- Parts of a list, with three bounds. -/
namespace Go.Vl
open Go.RowKit Go.Ev
section
variable{P:Program}{C:Cx}{w0:Base}{n:Nat}{st:St}{o:Oper}
theorem sem_slice3(hC:CxOk P C){t elem:TypeId}{x y z z3:Operand}{es es':List (List V)}{l h k:Nat}{ql qh q3:Int}{kl kh k3:IntKind}(hop:o.op=.slice t x (some y) (some z) (some z3))(hx:opv (lk st) x=some (.v (.list es)))(hy:opv (lk st) y=some (.v (.int kl ql)))(hz:opv (lk st) z=some (.v (.int kh qh)))(hz3:opv (lk st) z3=some (.v (.int k3 q3)))(hql:ql=(l:Nat))(hqh:qh=(h:Nat))(hq3:q3=(h:Nat))(ht:C.und t=some (.slice elem))(hs:C.size elem=some k)(hk:∀e∈es,e.length=k)(h1:l≤h)(h2:h≤es.length)(he:(es.take h).drop l=es')(hd:dLt n o.dst=true) :
  wQ P w0 n o (rdO x++(rdO y++(rdO z++rdO z3))) (dput o.dst (some (.sv (.v (.list es'))))) [] (lk st):=by
 subst hql hqh hq3 he;exact qI hd fun f hf β a w hb=>by
  obtain⟨f1,f2⟩:=qZ hf;obtain⟨f3,f4⟩:=qZ f2;obtain⟨f5,f6⟩:=qZ f4;have e1:=hb.val (x:=x) (y:=.list es) (by rw[wN f1];exact hx);have e2:=wXG (st:=lk st) (x:=some y) (m:=some l) (by simp[bnd,hy]) f f3 β a w hb;have e3:=wXG (st:=lk st) (x:=some z) (m:=some h) (by simp[bnd,hz]) f f5 β a w hb;have e4:=wXG (st:=lk st) (x:=some z3) (m:=some h) (by simp[bnd,hz3]) f f6 β a w hb;have hb3:∀cap,es.length≤cap→(Instr.sliceBounds true es.length cap (some (a.eval y)) (some (a.eval z)) (some (a.eval z3))).run P w=.ok (l,h,h) w:=by
   intro cap hcap;have:=(yK (P:=P) (w:=w) (len:=es.length) (cap:=cap) (cc:=cap) (lo:=some l) (hi:=some h) (mx:=some h) (l:=l) (h:=h) (m:=h) ?_ (pC _) e2 e3 e4).1
   ·simpa using this
   ·unfold yD;simp only[Option.getD_some];have b1:Nat.ble h cap=true:=by rw[fK];omega
    have b2:Nat.ble h h=true:=by rw[fK];exact pC _
    have b3:Nat.ble l h=true:=by rw[fK];exact h1
    rw[b1,b2,b3];rfl
  generalize hu:a.eval x=u at e1;obtain⟨ad,cap,hsh⟩:=e1.list_shape;subst hsh;cases ad with
  |none=>cases e1;simp only[List.length_nil,Nat.le_zero]at h2;obtain rfl:=h2;simp only[Nat.le_zero]at h1;subst h1;have:=hb3 0 (by simp);refine⟨.slice none 0 0,?_,by simp;exact .nils⟩;simp only[List.length_nil]at this;simp[execOp,hop,hu,Instr.sliceAt,wP hC ht,Instr.slice,this,wZ hC hs]
  | some p=>
   have hcc:es.length≤cap:=by
    cases e1 with
    |list _ _ hc=>exact hc
    |emp=>simp
   have:=hb3 cap hcc;refine⟨.slice (some (if h=l then p else p.add (l*k))) (h-l) (h-l),?_,?_⟩
   ·simp only[execOp,hop,hu,Option.map_some,Instr.sliceAt,Sem.run_bind,wP hC ht,Result.andThen_ok,Instr.slice,this,wZ hC hs,Sem.run_pure];split<;>rfl
   ·generalize hes:es=es' at e1 hk h2;cases e1 with
    |emp=>
     subst hes
     have:(([]:List (List V)).take h).drop l=[]:=by simp
     simp only[List.length_nil]at h2;rw[this,show h-l=0 by omega];exact .emp _ _
    |@list _ k' us b off _ hk' ho hc hl' hb' hu'=>subst hes;have e2:=Rep.list_part (S:=qM β) (w:=w) (.list hk' ho hc hl' hb' hu') hk l h h h1 h2 (pC _) (by omega);simp only[kT];exact e2
end
end Go.Vl
/- simileref11.From: told of trees. ALLOC -/
namespace Go.Proofs.YtmkgenngokjbiaaGreatDoor
open Go.RowKit Go.Ev Go.Vl
theorem flat_part{α β:Type}(f:α→β)(R:List (List α))(j:Nat)(r:List α)(h:R[j]? = some r):((R.flatten.map f).take ((R.take j).flatten.length+r.length)).drop (R.take j).flatten.length=r.map f:=by
 have e:R=R.take j++r::R.drop (j+1):=by rw[←wLJ R j r h,bJ]
 rw[←List.map_take,←List.map_drop];congr 1;obtain⟨A,hA⟩:∃A,R.take j=A:=⟨_,rfl⟩
 obtain⟨B,hB⟩:∃B,R.drop (j+1)=B:=⟨_,rfl⟩
 rw[hA,hB]at e;rw[hA,e,fZ,mT];generalize A.flatten=a;generalize B.flatten=b;rw[←cN,pE6 (by simp),List.drop_left' rfl]
theorem from11_v(R:List (List QQ))(D:Nat)(hD:0<D)(hDl:lm D≤68719476736)(hq:∀q∈R.flatten,okS q∧(wW q).den∣D)(hl:R.length≤68719476736)(hfl:R.flatten.length≤68719476736)(hrl:∀r∈R,r.length≤68719476736):wJ Tryz.prog 15 [.list (wB6 R)] (fun y=>y=vM (zn (kM R.flatten:Nat),R.map fun r=>r.map (zL (kM R.flatten:Nat)))):=by
 refine wC wL Tryz.func15 rfl rfl rfl rfl fun w0=>?_;have q1:=common_v R.flatten D hD hDl hq (by omega);obtain⟨C,hCe⟩:∃C:Int,((kM R.flatten:Nat):Int)=C:=⟨_,rfl⟩
 rw[hCe]at q1 ⊢;repeat (first|refine wg rfl (sL (wU2 R)) ?_|refine wl ?_|refine wv ?_|refine wz ?_)
 refine yI (d:=3) (id:=1) (k:=4) (T:=43) rfl rfl rfl rfl ?_;refine qC (fun j:Nat=>[jV 0 (.list (wB6 R)),jB 4 2,jC 5 [.v (.bool false),.nils,.nils],jO 6 1 43 4 ((R.take j).flatten.map kL),jV 24 (.list (wB6 R)),jI 26 (R.length),jI 28 j])
  (fun j=>j≤R.length) (fun j=>R.length-j) 0 (fun _=>rfl) (pG _) ⟨rfl,rfl,rfl,⟨_,rfl⟩,rfl,rfl,rfl,trivial⟩ fun j hJ=>?_
 rcases pL j R.length with hj|hj
 ·obtain⟨r,hr⟩:=gE hj;have hg:=tq_at R j r hr;have hrr:=hrl r (pE hr);have hs:(R.take j).flatten.map kL++r.map kL=(R.take (j+1)).flatten.map kL:=by
   rw[vA hr];simp
  have hlen:((R.take j).flatten.map kL).length≤68719476736:=by
   rw[pF];refine pD ?_ hfl
   conv=>rhs;rw[←bJ j R,fZ,pX]
   omega
  have hlen2:(r.map kL).length≤68719476736:=by rw[pF];exact hrr
  have row4:∀e∈r.map kL,e.length=4:=fun e h=>by obtain⟨q,_,rfl⟩:=pR.1 h;rfl
  repeat (first|refine wg rfl (sX j hg) ?_|refine wf rfl rfl (xQ (id:=7001) (es2:=r.map kL) (m:=4) (bb:=64) wL rfl rfl rfl rfl rfl rfl rfl rfl rfl rfl rfl row4 rfl (by simp only[maxLen];omega) (by omega) rfl rfl hs) ?_|refine wv ?_|refine wg rfl cT ?_|refine wg rfl sB ?_|refine wz ?_)
  exact⟨j+1,hj,by omega,rfl,rfl,rfl,⟨_,rfl⟩,rfl,rfl,rfl,trivial⟩
 ·have hje:j=R.length:=by omega
  subst hje;rw[pZ];repeat (first|refine wg rfl (xL wL rfl rfl rfl rfl rfl rfl rfl rfl rfl) ?_|refine wh q1 ?_|refine wg rfl (sL (wU2 R)) ?_|refine wl ?_|refine wv ?_|refine wg rfl cF ?_|refine wz ?_)
  refine wKI 8 2 1 58 rfl rfl rfl ?_;refine qC (fun b:Nat×Nat=>[jB 4 2,jC 5 [.v (.bool false),.nils,.nils],jV 14 (.list ((R.flatten.map (zL C)).map w9)),jB 16 8,jC 17 [.v (.bool (zn C).1),.v (vL (zn C).2),.own 0 58 1 (xO ((R.take b.1).map fun r=>r.map (zL C)))],jI 18 (b.2),jV 58 (.list (wB6 R)),jI 60 (R.length),jI 62 (b.1)])
   (fun b=>b.1≤R.length∧b.2=(R.take b.1).flatten.length) (fun b=>R.length-b.1) (0,0) (fun _=>rfl) ⟨pG _,rfl⟩ ⟨rfl,rfl,rfl,rfl,rfl,rfl,rfl,rfl,rfl,trivial⟩ fun⟨i,a⟩ hI=>?_
  obtain⟨hI1,hI2⟩:=hI;dsimp only at hI1 hI2 ⊢;rcases pL i R.length with hi|hi
  ·obtain⟨r,hr⟩:=gE hi;have hg:=tq_at R i r hr;have hrr:=hrl r (pE hr);have hnext:a+r.length=(R.take (i+1)).flatten.length:=by rw[vA hr,hI2];simp
   have htot:a+r.length≤R.flatten.length:=by
    rw[hnext]
    conv=>rhs;rw[←bJ (i+1) R,fZ,pX]
    omega
   have hpart:(((R.flatten.map (zL C)).map w9).take (a+r.length)).drop a=(r.map (zL C)).map w9:=by rw[hI2,bB,bB];exact flat_part _ R i r hr
   have hk2:∀e∈(R.flatten.map (zL C)).map w9,e.length=2:=fun e h=>by obtain⟨q,_,rfl⟩:=pR.1 h;rfl
   have hs:xO ((R.take i).map fun r=>r.map (zL C))++[[V.list ((r.map (zL C)).map w9)]]=xO ((R.take (i+1)).map fun r=>r.map (zL C)):=by rw[vA hr];unfold xO;simp
   have hlen:(xO ((R.take i).map fun r=>r.map (zL C))).length=i:=by rw[wP4,pF,mG];omega
   have wN1:∀e∈[[V.list ((r.map (zL C)).map w9)]],e.length=1:=fun e h=>by rw[pP.1 h];rfl
   have hle:a+r.length≤((R.flatten.map (zL C)).map w9).length:=by rw[pF,pF];exact htot
   repeat (first|refine wg rfl (sL (vC r)) ?_|refine wg rfl (sX i hg) ?_|refine wg rfl (sem_slice3 (l:=a) (h:=a+r.length) wL rfl rfl rfl rfl rfl rfl rfl rfl rfl rfl hk2 (by omega) hle hpart rfl) ?_|refine wf rfl rfl (sA 7002 [[V.list ((r.map (zL C)).map w9)]] 1 24 wN1 hs) ?_|refine wv ?_|refine wg rfl cT ?_|refine wg rfl sB ?_|refine wz ?_)
   exact⟨(i+1,a+r.length),⟨hi,hnext⟩,by dsimp only;omega,rfl,rfl,rfl,rfl,rfl,rfl,rfl,rfl,rfl,trivial⟩
  ·have hie:i=R.length:=by omega
   subst hie;rw[pZ];repeat (first|refine wv ?_|refine wg rfl cF ?_|refine rr_vfx wL [.tmp 8] rfl rfl rfl rfl rfl ?_|refine wz ?_)
   exact⟨.inl rfl,_,rfl,rfl⟩
theorem qJE(n d:Int)(hd:d≠0):(Rat.divInt n d).den∣d.natAbs:=by rw[Rat.den_divInt,if_neg hd];exact Nat.div_dvd_of_dvd (by unfold Int.gcd;exact pB0 ..)
end Go.Proofs.YtmkgenngokjbiaaGreatDoor
/- simileref11.fill: told of trees. ALLOC -/
namespace Go.Vl
open Go.RowKit Go.Ev
section
variable{P:Program}{w0:Base}{n:Nat}{st:St}{Q:vH}{ops:Array Oper}
end
end Go.Vl
namespace Go.Proofs.YtmkgenngokjbiaaGreatDoor
open Go.RowKit Go.Ev Go.Vl
def z4:List V:=kL (qn 0)
end Go.Proofs.YtmkgenngokjbiaaGreatDoor
/- simileref11.Mul: told of trees. ALLOC -/
namespace Go.Vl
open Go.RowKit Go.Ev
section
variable{P:Program}{w0:Base}{n:Nat}{st:St}{Q:vH}{ops:Array Oper}
end
end Go.Vl
namespace Go.Proofs.YtmkgenngokjbiaaGreatDoor
open Go.RowKit Go.Ev Go.Vl
def valQ(m m':MM)(a b h:Nat):Rat:=Rat.divInt (prodI m.2 m'.2 a b h) (intOf m.1*intOf m'.1)
theorem wWB{α:Type}{c:Nat}:∀{l:List (List α)},(∀r∈l,r.length=c)→l.flatten.length=l.length*c
 |[],_=>by simp
 |a::l,h=>by rw[mT,pX,h a (pQ ..),wWB fun r hr=>h r (pO _ hr),pM,bS];omega
def stepG(m m':MM)(i k h:Nat):Nat→Nat→Rat:=fun a b=>if a<i∨(a=i∧b<k)then valQ m m' a b (vD m.2)else if a=i∧b=k then valQ m m' a b h else 0
theorem okM_mono{m:MM}{K K':Nat}(h:okM m K)(hk:K≤K'):okM m K':=⟨h.1,pD h.2.1 hk,⟨h.2.2.1.1,fun r hr=>⟨(h.2.2.1.2 r hr).1,fun z hz=>⟨((h.2.2.1.2 r hr).2 z hz).1,pD ((h.2.2.1.2 r hr).2 z hz).2 hk⟩⟩⟩,h.2.2.2⟩
def okZ0(z:Z0):Prop:=okL z.2∧z.2.length≤1099511627776
theorem take_eq{α:Type}{xs ys:List α}{j:Nat}{x y:α}(h:xs.take j=ys.take j)(hx:xs[j]? = some x)(hy:ys[j]? = some y):xs.take (j+1)=ys.take (j+1)↔x=y:=by rw[cW,cW,hx,hy,h];simp
theorem sameAll3_v(zs ws:List Z0)(h:∀z∈zs,okZ0 z)(h':∀z∈ws,okZ0 z)(hl:zs.length≤1099511627776)(hl':ws.length≤1099511627776):wJ Tryz.prog 18 [.list (zs.map w9),.list (ws.map w9)] (fun y=>y=.bool (decide (zs=ws))):=by
 refine wC wL Tryz.func18 rfl rfl rfl rfl fun w0=>?_;have fin:∀{p:Prop}[Decidable p],¬p→V.bool false=V.bool (decide p):=fun h=>by rw[decide_eq_false h]
 by_cases hne:zs.length=ws.length
 ·repeat (first|refine wg rfl (sL (zc_len _)) ?_|refine wv ?_|refine wg rfl nF ?_|refine wz ?_)
  refine qC (fun j:Nat=>[jV 0 (.list (zs.map w9)),jV 2 (.list (ws.map w9)),jI 24 (zs.length),jI 26 j])
   (fun j=>j≤zs.length∧zs.take j=ws.take j) (fun j=>zs.length-j) 0 (fun _=>rfl) ⟨pG _,rfl⟩ ⟨rfl,rfl,rfl,rfl,trivial⟩ fun j hI=>?_
  obtain⟨hJ,ht⟩:=hI;rcases pL j zs.length with hj|hj
  ·obtain⟨z,hz⟩:=gE hj;obtain⟨u,hu⟩:=gE (l:=ws) (i:=j) (by omega);have hg:=zc_at zs j z hz;have hg2:=zc_at ws j u hu;have oz:=h z (pE hz);have ou:=h' u (pE hu);have q1:=same3_v z u oz.1 ou.1 oz.2;have hte:=take_eq ht hz hu;by_cases he:z=u
   ·rw[decide_eq_true he]at q1;repeat (first|refine wv ?_|refine wg rfl (sX j hg) ?_|refine wg rfl (sX j hg2) ?_|refine wc q1 ?_|refine wg rfl cT ?_|refine wg rfl sB ?_|refine wz ?_)
    exact⟨j+1,⟨hj,hte.2 he⟩,by omega,rfl,rfl,rfl,rfl,trivial⟩
   ·rw[decide_eq_false he]at q1;repeat (first|refine wv ?_|refine wg rfl (sX j hg) ?_|refine wg rfl (sX j hg2) ?_|refine wc q1 ?_|refine wg rfl cT ?_|refine wz ?_)
    exact⟨.inl rfl,_,rfl,fin fun hh=>he (by rw[hh,hu]at hz;cases hz;rfl)⟩
  ·have hje:j=zs.length:=by omega
   subst hje;repeat (first|refine wv ?_|refine wg rfl cF ?_|refine wz ?_)
   refine⟨.inl rfl,_,rfl,?_⟩;rw[pZ]at ht;rw[decide_eq_true];rw[ht,hne,pZ]
 ·repeat (first|refine wg rfl (sL (zc_len _)) ?_|refine wv ?_|refine wg rfl nT ?_|refine wz ?_)
  exact⟨.inl rfl,_,rfl,fin fun hh=>hne (by rw[hh])⟩
def okM0(m:M0):Prop:=okZ0 m.1∧(∀r∈m.2,r.length≤1099511627776∧∀z∈r,okZ0 z)∧m.2.length≤1099511627776
theorem same11_aux(x x':Bool)(l l':List Nat)(t t':List (List Z0))(h:okM0 ((x,l),t))(h':okM0 ((x',l'),t')):wJ Tryz.prog 8 [.agg [.bool x,vL l,tV t],.agg [.bool x',vL l',tV t']] (fun y=>y=.bool (decide (((x,l),t)=((x',l'),t')))):=by
 refine wC wL Tryz.func8 rfl rfl rfl rfl fun w0=>?_;have fin:∀{p:Prop}[Decidable p],¬p→V.bool false=V.bool (decide p):=fun h=>by rw[decide_eq_false h]
 obtain⟨h1,h2,h3⟩:=h;obtain⟨g1,g2,g3⟩:=h';dsimp only at h1 h2 h3 g1 g2 g3;have q1:=same3_v (x,l) (x',l') h1.1 g1.1 h1.2;have hp:((x,l),t)=((x',l'),t')↔(x,l)=(x',l')∧t=t':=by simp
 by_cases hd:(x,l)=(x',l')
 ·rw [decide_eq_true hd]at q1;by_cases hne:t.length=t'.length
  ·repeat (first|refine wg rfl (sL (wP4 _)) ?_|refine wv ?_|refine wc q1 ?_|refine wg rfl nF ?_|refine wz ?_)
   refine qC (fun j:Nat=>[jB 4 2,jC 5 [.v (.bool x),.v (vL l),.v (tV t)],jB 6 3,jC 7 [.v (.bool x'),.v (vL l'),.v (tV t')],jI 46 (t.length),jI 48 j])
    (fun j=>j≤t.length∧t.take j=t'.take j) (fun j=>t.length-j) 0 (fun _=>rfl) ⟨pG _,rfl⟩ ⟨rfl,rfl,rfl,rfl,rfl,rfl,trivial⟩ fun j hI=>?_
   obtain⟨hJ,ht⟩:=hI;rcases pL j t.length with hj|hj
   ·obtain⟨z,hz⟩:=gE hj;obtain⟨u,hu⟩:=gE (l:=t') (i:=j) (by omega);have hg:=tv_at t j z hz;have hg2:=tv_at t' j u hu;have oz:=h2 z (pE hz);have ou:=g2 u (pE hu);have q2:=sameAll3_v z u oz.2 ou.2 oz.1 ou.1;have hte:=take_eq ht hz hu;by_cases he:z=u
    ·rw[decide_eq_true he]at q2;repeat (first|refine wv ?_|refine wg rfl (sX j hg) ?_|refine wg rfl (sX j hg2) ?_|refine wc q2 ?_|refine wg rfl cT ?_|refine wg rfl sB ?_|refine wz ?_)
     exact⟨j+1,⟨hj,hte.2 he⟩,by omega,rfl,rfl,rfl,rfl,rfl,rfl,trivial⟩
    ·rw[decide_eq_false he]at q2;repeat (first|refine wv ?_|refine wg rfl (sX j hg) ?_|refine wg rfl (sX j hg2) ?_|refine wc q2 ?_|refine wg rfl cT ?_|refine wz ?_)
     exact⟨.inl rfl,_,rfl,fin fun hh=>he (by have:=(hp.1 hh).2;rw[this,hu]at hz;cases hz;rfl)⟩
   ·have hje:j=t.length:=by omega
    subst hje;repeat (first|refine wv ?_|refine wg rfl cF ?_|refine wz ?_)
    refine⟨.inl rfl,_,rfl,?_⟩;rw[pZ]at ht;rw[decide_eq_true];rw[hp];exact⟨hd,by rw[ht,hne,pZ]⟩
  ·repeat (first|refine wg rfl (sL (wP4 _)) ?_|refine wv ?_|refine wc q1 ?_|refine wg rfl nT ?_|refine wz ?_)
   exact⟨.inl rfl,_,rfl,fin fun hh=>hne (by rw[(hp.1 hh).2])⟩
 ·rw[decide_eq_false hd]at q1;repeat (first|refine wv ?_|refine wc q1 ?_|refine wGE rfl rfl rfl rfl rfl rfl ?_|refine wz ?_)
  exact⟨.inl rfl,_,rfl,fin fun hh=>hd (hp.1 hh).1⟩
theorem same11_v(m m':M0)(h:okM0 m)(h':okM0 m'):wJ Tryz.prog 8 [mV m,mV m'] (fun y=>y=.bool (decide (m=m'))):=same11_aux m.1.1 m'.1.1 m.1.2 m'.1.2 m.2 m'.2 h h'
theorem comD_pos(qs:List QQ):0<kM qs:=lcmN_pos _ 1 (by decide) fun x hx=>by obtain⟨q,_,rfl⟩:=pR.1 hx;have:=(wW q).den_nz;omega
theorem wX8(qs:List QQ)(D:Nat)(h:∀q∈qs,(wW q).den∣D):kM qs∣D:=lcmN_dvd _ 1 D (pF2 _) fun x hx=>by obtain⟨q,hq,rfl⟩:=pR.1 hx;exact h q hq
theorem dvd_comD(qs:List QQ)(q:QQ)(h:q∈qs):(wW q).den∣kM qs:=(qJ9 _ 1).2 _ (pR.2 ⟨q,h,rfl⟩)
theorem den_rat_ne(x:Rat):((x.den:Int):Rat)≠0:=fun h=>by have:=Rat.intCast_inj.1 (show((x.den:Int):Rat)=((0:Int):Rat)from h);have:=x.den_nz;omega
theorem mul_over(x:Rat)(e:Nat):x*(((x.den*e:Nat):Int):Rat)=((x.num*(e:Int):Int):Rat):=by
 rw[dT,Rat.intCast_mul,←Rat.mul_assoc];have h:x*((x.den:Int):Rat)=(x.num:Rat):=by
  conv=>lhs;arg 1;rw[←dW x]
  rw[Rat.divInt_eq_div];exact Rat.div_mul_cancel (den_rat_ne x)
 rw[h,←Rat.intCast_mul]
theorem comF_back(x:Rat)(D:Nat)(hD:0<D)(h:x.den∣D):Rat.divInt (x*((D:Int):Rat)).num (D:Int)=x:=by
 obtain⟨e,rfl⟩:=h;have he:(e:Int)≠0:=by
  intro h
  have:e=0:=by omega
  subst this;simp at hD
 rw[mul_over,gX,dT,Rat.divInt_mul_right he,dW]
theorem okS_rat{a:QQ}(ha:okS a):lm (wW a).num≤68719476736∧lm ((wW a).den:Int)≤68719476736:=by obtain⟨n1,n2⟩:=wFC (intOf a.1) (intOf a.2) ha.2.2.2.2;have m1:=jU a.1 ha.1;have m2:=jU a.2 ha.2.1;have k1:=ha.2.2.1;have k2:=ha.2.2.2.1;unfold wW;exact⟨by omega,by omega⟩
def ratsL(qs:List QQ):List Rat:=qs.map wW
structure Chk where
 c:Int
 f:FuncId
 cs:List V
 b:Bool
def oneI(i k:Nat):Int:=if i=k then 1 else 0
def idM(n:Nat):MM:=wCE (zn 1) (wHA n n fun i k=>zn (oneI i k))
theorem lm_one(i k:Nat):lm (oneI i k)≤1:=by
 have h1:lm 1=1:=by unfold lm;simp[toL,wT]
 unfold oneI;split
 ·omega
 ·unfold lm;simp[wT]
theorem qI0{d:ZZ}{r c K:Nat}{F:Nat→Nat→Int}(h0:intOf d≠0)(hd:lm (intOf d)≤K)(hK:1≤K)(hF:∀i k,lm (F i k)≤K)(hr:r≤68719476736)(hc:c≤68719476736)(hrc:r*c≤68719476736) :
  okM (wCE d (wHA r c fun i k=>zn (F i k))) K∧chk (wCE d (wHA r c fun i k=>zn (F i k)))=0∧(wCE d (wHA r c fun i k=>zn (F i k))).2.length=r∧∀x∈(wCE d (wHA r c fun i k=>zn (F i k))).2,x.length=c:=by
 obtain⟨hS1,hS2,_⟩:=wVG d (wHA r c fun i k=>zn (F i k)) h0;have hlen:(wCE d (wHA r c fun i k=>zn (F i k))).2.length=r:=by show(List.map _ (wHA r c fun i k=>zn (F i k))).length=r;unfold wHA;simp only[List.length_map,List.length_range]
 have hrow:∀x∈(wCE d (wHA r c fun i k=>zn (F i k))).2,x.length=c∧∀z∈x,okL z.2∧z.2.length≤K:=by intro x hx;obtain⟨r',h1,rfl⟩:=pR.1 hx;obtain⟨g1,g2⟩:=tabF_mem h1;refine⟨by rw[pF];exact g1,fun z hz=>?_⟩;obtain⟨z',hz',rfl⟩:=pR.1 hz;obtain⟨i,k,rfl⟩:=g2 z' hz';refine⟨qBB _,?_⟩;rw[zn_lm];refine pD (wCF (y:=F i k) ?_) (hF i k);rw[bP,wE];exact cO ..
 have hden:lm (if vD (wHA r c fun i k=>zn (F i k))=0 then 1 else(intOf d).tdiv (wK7 d (wHA r c fun i k=>zn (F i k))))≤K:=by
  split
  ·exact pD (lm_dvd (Int.one_dvd _) h0) hd
  ·refine pD (wCF (y:=intOf d) ?_) hd;rw[bP];exact cO ..
 refine⟨⟨qBB _,hden,⟨by rw[hlen];exact hr,fun x hx=>⟨by rw[(hrow x hx).1];exact hc,(hrow x hx).2⟩⟩,by rw[wWB fun x hx=>(hrow x hx).1,hlen];exact hrc⟩,chk_of _ ?_ (even_of _ _ fun x hx=>(hrow x hx).1),hlen,fun x hx=>(hrow x hx).1⟩;show intOf (zn (if vD (wHA r c fun i k=>zn (F i k))=0 then 1 else(intOf d).tdiv (wK7 d (wHA r c fun i k=>zn (F i k)))))≠0;rw[wE];split
 ·decide
 ·intro hz;have:=Int.mul_tdiv_cancel' hS2;rw[hz,Int.mul_zero]at this;exact h0 this.symm
structure sqM(m:MM)(n K:Nat):Prop where
 ok:okM m K
 ch:chk m=0
 rows:m.2.length=n
 cols:∀x∈m.2,x.length=n
theorem sqM.den{m:MM}{n K:Nat}(h:sqM m n K):intOf m.1≠0:=(chk0 h.ch).1
theorem sqM.cl{m:MM}{n K:Nat}(h:sqM m n K)(hn:0<n):vD m.2=n:=by
 unfold vD;cases hm:m.2 with
 |nil=>have:=h.rows;rw[hm]at this;simp at this;omega
 |cons r t=>exact h.cols r (by rw[hm];exact pQ ..)
theorem sqM.mono{m:MM}{n K K':Nat}(h:sqM m n K)(hk:K≤K'):sqM m n K':=⟨okM_mono h.ok hk,h.ch,h.rows,h.cols⟩
theorem sqM.of{m:MM}{n K:Nat}(h:okM m K)(hc:chk m=0)(hr:m.2.length=n)(hl:vD m.2=n):sqM m n K:=⟨h,hc,hr,fun x hx=>by rw[of_even _ (chk0 hc).2 x hx,hl]⟩
theorem sqM.mul{m m':MM}{n K:Nat}(h:sqM m n K)(h':sqM m' n K)(hn:0<n)(hn':n≤24)(hK:1≤K):sqM (mulM m m') n (2*K+24):=by
 have e1:=h.cl hn;have e2:=h'.cl hn;have l1:=wPJ (intOf m.1) (intOf m'.1);have l3:=jU m.1 h.ok.1;have l4:=jU m'.1 h'.ok.1;have l5:=h.ok.2.1;have l6:=h'.ok.2.1;obtain⟨g1,g2,g3,g4⟩:=qI0 (d:=zn (intOf m.1*intOf m'.1)) (r:=m.2.length) (c:=vD m'.2) (K:=2*K+24) (F:=fun i k=>prodI m.2 m'.2 i k (vD m.2)) (by rw[wE];exact Int.mul_ne_zero h.den h'.den) (by rw[wE];omega) (by omega) (fun i k=>by have:=qI3 m.2 m'.2 K 0 i k (lm_ent h.ok.2.2.1) (lm_ent h'.ok.2.2.1) (vD m.2);show lm (prodI m.2 m'.2 i k (vD m.2))≤_;omega) (by rw[h.rows];omega) (by omega) (by rw[h.rows,e2];exact pD (bK hn' hn') (by decide))
 exact⟨g1,g2,g3.trans h.rows,fun x hx=>(g4 x hx).trans e2⟩
theorem sqM.id(n:Nat)(hn':n≤24):sqM (idM n) n 1:=by
 have h1:lm 1≤1:=by have:=lm_one 0 0;unfold oneI at this;rwa [if_pos rfl]at this
 obtain⟨g1,g2,g3,g4⟩:=qI0 (d:=zn 1) (r:=n) (c:=n) (K:=1) (F:=oneI) (by rw[wE];decide) (by rw[wE];exact h1) (pC _) lm_one (by omega) (by omega) (pD (bK hn' hn') (by decide));exact⟨g1,g2,g3,g4⟩
theorem lm_1:lm 1≤1:=by have:=lm_one 0 0;unfold oneI at this;rwa [if_pos rfl]at this
def atR(l:List Rat)(i:Nat):Rat:=l.getD i 0
def okBW(K:Nat)(x:Rat):Prop:=lm x.num≤K∧lm (x.den:Int)≤K
def polOk(K:Nat)(qs:List QQ):Prop:=(∀q∈qs,okS q∧okBW K (wW q))∧qs.length≤1048576
theorem polOk.q{K:Nat}{qs:List QQ}(h:polOk K qs):∀q∈qs,okQ q∧intOf q.2≠0:=fun q hq=>⟨(h.1 q hq).1.ok,(h.1 q hq).1.2.2.2.2⟩
theorem atR_at{l:List Rat}{i:Nat}{x:Rat}(h:l[i]? = some x):atR l i=x:=by unfold atR;rw[pJ,h];rfl
theorem atR_over{l:List Rat}{i:Nat}(h:l.length≤i):atR l i=0:=by unfold atR;rw[pJ,fA h];rfl
theorem ratsL_len(qs:List QQ):(ratsL qs).length=qs.length:=by unfold ratsL;rw[pF]
theorem ratsL_at{qs:List QQ}{i:Nat}{q:QQ}(h:qs[i]? = some q):(ratsL qs)[i]? = some (wW q):=by unfold ratsL;rw[pW,h];rfl
theorem okB_zero(K:Nat)(hK:1≤K):okBW K 0:=⟨by show lm 0≤K;unfold lm;simp[wT],pD lm_1 hK⟩
theorem okBW.mono{K L:Nat}{x:Rat}(h:okBW K x)(hk:K≤L):okBW L x:=⟨pD h.1 hk,pD h.2 hk⟩
theorem polOk.at{K:Nat}{qs:List QQ}(h:polOk K qs)(hK:1≤K)(i:Nat):okBW K (atR (ratsL qs) i):=by
 rcases pL i qs.length with hi|hi
 ·obtain⟨q,hq⟩:=gE hi;rw[atR_at (ratsL_at hq)];exact(h.1 q (pE hq)).2
 ·rw[atR_over (by rw[ratsL_len];exact hi)];exact okB_zero K hK
end Go.Proofs.YtmkgenngokjbiaaGreatDoor
/- simileref09: Sub, shift told of trees. ALLOC -/
namespace Go.Vl
open Go.RowKit Go.Ev
section
variable{P:Program}{w0:Base}{n:Nat}{st:Fm}{o:Oper}
end
end Go.Vl
namespace Go.Proofs.YtmkgenngokjbiaaGreatDoor
open Go.RowKit Go.Ev Go.Vl
def polZ(A:List Rat)(La Ld:Nat):Prop:=∃D:Int,D≠0∧lm D≤Ld∧∀i,∃n:Int,atR A i=Rat.divInt n D∧lm n≤La
theorem polZ.ok{A:List Rat}{La Ld K:Nat}(h:polZ A La Ld)(h1:La≤K)(h2:Ld≤K)(i:Nat):okBW K (atR A i):=by obtain⟨D,d1,d2,d3⟩:=h;obtain⟨n,e,hn⟩:=d3 i;obtain⟨n1,n2⟩:=wFC n D d1;rw[e];exact⟨by omega,by omega⟩
theorem polZ.mem{A:List Rat}{La Ld K:Nat}(h:polZ A La Ld)(h1:La≤K)(h2:Ld≤K):∀x∈A,okBW K x:=fun x hx=>by obtain⟨i,hi⟩:=List.getElem?_of_mem hx;rw[←atR_at hi];exact h.ok h1 h2 i
theorem polZ.mono{A:List Rat}{La Ld La' Ld':Nat}(h:polZ A La Ld)(h1:La≤La')(h2:Ld≤Ld'):polZ A La' Ld':=by obtain⟨D,d1,d2,d3⟩:=h;exact⟨D,d1,by omega,fun i=>by obtain⟨n,e,hn⟩:=d3 i;exact⟨n,e,by omega⟩⟩
end Go.Proofs.YtmkgenngokjbiaaGreatDoor
/- simileref09.Div, Divides told of trees. ALLOC -/
namespace Go.Vl
open Go.RowKit Go.Ev
section
variable{P:Program}{w0:Base}{n:Nat}{st:St}{Q:vH}
end
end Go.Vl
namespace Go.Proofs.YtmkgenngokjbiaaGreatDoor
open Go.RowKit Go.Ev Go.Vl
end Go.Proofs.YtmkgenngokjbiaaGreatDoor
/- Parts of a row of one's own: headers with the row's first elements, handed to calls and back. -/
namespace Go.Vl
open Go.RowKit Go.Ev
def wY5(u u':Value)(m:Nat):Prop:=(u'=.slice none 0 0∧m=0)∨∃g n c c',u=.slice (some ⟨g,0,none⟩) n c∧u'=.slice (some ⟨g,0,none⟩) m c'∧m≤n∧m≤c'∧c'≤c
def preV(u:Value)(h:Nat):Value:=
 if h=0 then .slice none 0 0 else match u with
  |.slice (some a) _ _=>.slice (some a) h h
  |_=>.slice none 0 0
theorem wY5.pre{u u':Value}{m h:Nat}(hp:wY5 u u' m)(hh:h≤m):wY5 u (preV u' h) h:=by
 unfold preV;split
 ·exact .inl ⟨rfl,by assumption⟩
 ·rcases hp with⟨_,h0⟩|⟨g,n,c,c',e,e',h1,h2,h3⟩
  ·omega
  ·subst e';exact .inr ⟨g,n,c,h,e,rfl,by omega,pC _,by omega⟩
theorem wY5.one{u u':Value}{m:Nat}(hp:wY5 u u' m):u'.oneCell'=true:=by rcases hp with⟨e,_⟩|⟨g,n,c,c',_,e,_⟩<;>rw[e]<;>rfl
theorem wY5.shape{u u':Value}{m:Nat}(hp:wY5 u u' m):∃ad cap,u'=.slice ad m cap:=by
 rcases hp with⟨e,h0⟩|⟨g,n,c,c',_,e,_⟩
 ·exact⟨none,0,by rw[e,h0]⟩
 ·exact⟨_,_,e⟩
section
variable{P:Program}{C:Cx}{w0:Base}{n:Nat}{st:St}{o:Oper}{Q:vH}
end
end Go.Vl
/- Direct sums of tables; chains, as the program goes through them: plain laws. -/
namespace Go.Proofs.YtmkgenngokjbiaaGreatDoor
open Go.RowKit Go.Ev Go.Vl
def dsA{α:Type}(z:α):List (Nat×(Nat→Nat→α))→Nat→Nat→α
 |[],_,_=>z
 |p::l,a,b=>if a<p.1∧b<p.1 then p.2 a b else if p.1≤a∧p.1≤b then dsA z l (a-p.1) (b-p.1)else z
def dsN{α:Type}:List (Nat×(Nat→Nat→α))→Nat
 |[]=>0
 |p::l=>p.1+dsN l
theorem qJA{α:Type}(z:α)(p:Nat×(Nat→Nat→α))(l:List (Nat×(Nat→Nat→α)))(a b:Nat):dsA z (p::l) a b=if a<p.1∧b<p.1 then p.2 a b else if p.1≤a∧p.1≤b then dsA z l (a-p.1) (b-p.1)else z:=rfl
inductive dsEq{α:Type}:List (Nat×(Nat→Nat→α))→List (Nat×(Nat→Nat→α))→Prop
 |nil:dsEq [] []
 |cons {p q:Nat×(Nat→Nat→α)} {l l':List (Nat×(Nat→Nat→α))} (h:p.1=q.1) (he:∀a b,a<p.1→b<p.1→p.2 a b=q.2 a b) (ht:dsEq l l'):dsEq (p::l) (q::l')
theorem dsEq.eq{α:Type}(z:α){l l':List (Nat×(Nat→Nat→α))}(h:dsEq l l'):∀a b,dsA z l a b=dsA z l' a b:=by
 induction h with
 |nil=>exact fun _ _=>rfl
 |cons h he ht ih=>
  intro a b;rw[qJA,qJA,←h,ih];split
  ·rename_i hh;exact he a b hh.1 hh.2
  ·rfl
theorem dsEq.len{α:Type}{l l':List (Nat×(Nat→Nat→α))}(h:dsEq l l'):dsN l=dsN l':=by
 induction h with
 |nil=>rfl
 |cons h he ht ih=>simp only[dsN];rw[h,ih]
def clN(q:QQ):QQ:=qn (wW q)
theorem okQ_S{a:QQ}(h:okS a):okQ a∧intOf a.2≠0:=⟨h.ok,h.2.2.2.2⟩
theorem clN_ok{a:QQ}(h:okS a):okS (clN a):=okS_qn _ (okS_rat h).1 (okS_rat h).2
theorem wN4(a:QQ):wW (clN a)=wW a:=qH3 _
end Go.Proofs.YtmkgenngokjbiaaGreatDoor
/- qpoly.trim, Norm of the program, told of trees. ALLOC -/
namespace Go.Vl
open Go.RowKit Go.Ev
section
variable{P:Program}{C:Cx}{w0:Base}{n:Nat}{st:St}{o:Oper}
theorem qG5(hC:CxOk P C){t elem:TypeId}{x z z3:Operand}{es es':List (List V)}{h k:Nat}{qh q3:Int}{kh k3:IntKind}(hop:o.op=.slice t x none (some z) (some z3))(hx:opv (lk st) x=some (.v (.list es)))(hz:opv (lk st) z=some (.v (.int kh qh)))(hz3:opv (lk st) z3=some (.v (.int k3 q3)))(hqh:qh=(h:Nat))(hq3:q3=(h:Nat))(ht:C.und t=some (.slice elem))(hs:C.size elem=some k)(hk:∀e∈es,e.length=k)(h2:h≤es.length)(he:es.take h=es')(hd:dLt n o.dst=true) :
  wQ P w0 n o (rdO x++(rdO z++rdO z3)) (dput o.dst (some (.sv (.v (.list es'))))) [] (lk st):=by
 subst hqh hq3 he;exact qI hd fun f hf β a w hb=>by
  obtain⟨f1,f2⟩:=qZ hf;obtain⟨f5,f6⟩:=qZ f2;have e1:=hb.val (x:=x) (y:=.list es) (by rw[wN f1];exact hx);have e3:=wXG (st:=lk st) (x:=some z) (m:=some h) (by simp[bnd,hz]) f f5 β a w hb;have e4:=wXG (st:=lk st) (x:=some z3) (m:=some h) (by simp[bnd,hz3]) f f6 β a w hb;have hb3:∀cap,es.length≤cap→(Instr.sliceBounds true es.length cap none (some (a.eval z)) (some (a.eval z3))).run P w=.ok (0,h,h) w:=by
   intro cap hcap;have:=(yK (P:=P) (w:=w) (len:=es.length) (cap:=cap) (cc:=cap) (lo:=none) (hi:=some h) (mx:=some h) (l:=0) (h:=h) (m:=h) ?_ (pC _) (vl:=none) rfl e3 e4).1
   ·simpa using this
   ·unfold yD;simp only[Option.getD_some,Option.getD_none];have b1:Nat.ble h cap=true:=by rw[fK];omega
    have b2:Nat.ble h h=true:=by rw[fK];exact pC _
    have b3:Nat.ble 0 h=true:=by rw[fK];exact pG _
    rw[b1,b2,b3];rfl
  generalize hu:a.eval x=u at e1;obtain⟨ad,cap,hsh⟩:=e1.list_shape;subst hsh;cases ad with
  |none=>cases e1;simp only[List.length_nil,Nat.le_zero]at h2;obtain rfl:=h2;have:=hb3 0 (by simp);refine⟨.slice none 0 0,?_,by simp;exact .nils⟩;simp only[List.length_nil]at this;simp[execOp,hop,hu,Instr.sliceAt,wP hC ht,Instr.slice,this,wZ hC hs]
  | some p=>
   have hcc:es.length≤cap:=by
    cases e1 with
    |list _ _ hc=>exact hc
    |emp=>simp
   have:=hb3 cap hcc;refine⟨.slice (some (if h=0 then p else p.add (0*k))) (h-0) (h-0),?_,?_⟩
   ·simp only[execOp,hop,hu,Option.map_some,Option.map_none,Instr.sliceAt,Sem.run_bind,wP hC ht,Result.andThen_ok,Instr.slice,this,wZ hC hs,Sem.run_pure];split<;>rfl
   ·generalize hes:es=es' at e1 hk h2;cases e1 with
    |emp=>
     subst hes
     have:(([]:List (List V)).take h)=[]:=by simp
     simp only[List.length_nil]at h2;rw[this,show h-0=0 by omega];exact .emp _ _
    |@list _ k' us b off _ hk' ho hc hl' hb' hu'=>subst hes;have e2:=Rep.list_part (S:=qM β) (w:=w) (.list hk' ho hc hl' hb' hu') hk 0 h h (pG _) h2 (pC _) (by omega);simp only[kT];simpa using e2
end
end Go.Vl
namespace Go.Proofs.YtmkgenngokjbiaaGreatDoor
open Go.RowKit Go.Ev Go.Vl
def okP(q:QQ):Prop:=okL q.1.2∧okL q.2.2∧q.1.2.length≤68719476736∧q.2.2.length≤68719476736
theorem okP.z{q:QQ}(h:okP q):okZ q.1∧okZ q.2:=⟨⟨h.1,pD h.2.2.1 (by decide)⟩,⟨h.2.1,pD h.2.2.2 (by decide)⟩⟩
theorem okP.s{q:QQ}(h:okP q)(h0:intOf q.2≠0):okS q:=⟨h.1,h.2.1,h.2.2.1,h.2.2.2,h0⟩
end Go.Proofs.YtmkgenngokjbiaaGreatDoor
/- qpoly.div of the program, told of trees. ALLOC -/
namespace Go.Vl
open Go.RowKit Go.Ev
section
variable{P:Program}{w0:Base}{n:Nat}{st:St}{Q:vH}{ops:Array Oper}
end
end Go.Vl
namespace Go.Proofs.YtmkgenngokjbiaaGreatDoor
open Go.RowKit Go.Ev Go.Vl
theorem sgn_pos{x:Int}(h:0<x):sgn x=1:=by unfold sgn;rw[if_neg (by omega),if_pos h]
theorem zlcm1_v(a:Nat)(b:ZZ)(ha:0<a)(hal:lm (a:Int)≤274877906944)(hb:okZ b)(hbl:lm (intOf b)≤274877906944)(h0:intOf b≠0):wJ Tryz.prog 97 [vI (zn (a:Nat)),vI b] (fun y=>y=nI (Nat.lcm a (intOf b).natAbs:Nat)):=by
 refine wC wL Tryz.func97 rfl rfl rfl rfl fun w0=>?_;have oa:okZ (zn (a:Int)):=jJ _ (by omega);have q1:=zgcd1_v (zn (a:Int)) b oa hb;rw[wE]at q1;have hg0:0<Int.gcd (a:Int) (intOf b):=dS _ h0;have hgd:((Int.gcd (a:Int) (intOf b):Nat):Int)∣(a:Int):=bZ ..;have hgl:Int.gcd (a:Int) (intOf b)≤a:=cX ha (pA3.1 hgd);have hge:Int.gcd (a:Int) (intOf b)=Nat.gcd a (intOf b).natAbs:=by unfold Int.gcd;rw[cJ]
 obtain⟨g,hg⟩:∃g,Int.gcd (a:Int) (intOf b)=g:=⟨_,rfl⟩
 rw[hg]at q1 hg0 hgd hgl hge;have og:okZ (zn (g:Int)):=jJ _ (pD (x5 hgl) (by omega));have q2:=wII (zn (g:Int)) og;rw[wE,sgn_pos (by omega)]at q2;have q3:=zabs_v (zn (a:Int)) oa;have q5:=zabs_v b hb;have e3:wB (zn (a:Int)).2=a:=by unfold zn;dsimp only;rw[wI,cJ]
 have e5:wB b.2=(intOf b).natAbs:=(zT b).symm;rw[e3]at q3;rw[e5]at q5;have q4:=yW (zn (a:Int)) (zn (g:Int)) oa og (by rw[wE];omega) (by rw[wE,wE];exact hgd);rw[wE,wE]at q4;have e4:(a:Int).tdiv (g:Int)=((a/g:Nat):Int):=(Int.ofNat_tdiv a g).symm;rw[e4]at q4;have q6:=zmul_v (zn ((a/g:Nat):Int)) (zn ((intOf b).natAbs:Int)) (jJ _ (pD (x5 (cO ..)) (by omega))) (jJ _ (by
  have:lm ((intOf b).natAbs:Int)=lm (intOf b):=by unfold lm;rw[cJ]
  omega))
 rw[wE,wE]at q6;have e6:((a/g:Nat):Int)*((intOf b).natAbs:Int)=((Nat.lcm a (intOf b).natAbs:Nat):Int):=by rw[←dT,Nat.lcm,mH a,Nat.mul_div_assoc _ (pB0 ..),←hge,mH]
 rw[e6]at q6;obtain⟨bx,bl⟩:=b;clear oa hb hbl h0 og;repeat (first|refine wl ?_|refine wv ?_|refine wg rfl cF ?_|refine wc q1 ?_|refine wc q2 ?_|refine wc q3 ?_|refine wc q4 ?_|refine wc q5 ?_|refine wc q6 ?_|refine wz ?_)
 exact⟨.inl rfl,_,rfl,rfl⟩
theorem folded_v(g:FuncId)(fn:Func)(hfn:qB.fns.get g=some fn)(zs:List ZZ)(G:Nat→ZZ)(hl:zs.length≤1099511627776)(hG:∀(j:Nat)(z:ZZ),zs[j]? = some z→wJ Tryz.prog g [vI (G j),vI z] (fun y=>y=vI (G (j+1)))) :
  wJ Tryz.prog 88 [vI (G 0),vZs zs,.clo g [] []] (fun y=>y=vI (G zs.length)):=by
 refine wC wL Tryz.func88 rfl rfl rfl rfl fun w0=>?_;repeat (first|refine wg rfl (sL (wM8 _)) ?_|refine wl ?_|refine wv ?_|refine wz ?_)
 refine qC (fun j:Nat=>[jV 4 (.clo g [] []),jB 6 3,jC 7 [.v (.bool (G j).1),.v (vL (G j).2)],jB 12 6,jC 13 [.v (.bool false),.nils],jV 18 (vZs zs),jI 20 (zs.length),jI 22 j])
  (fun j=>j≤zs.length) (fun j=>zs.length-j) 0 (fun _=>rfl) (pG _) ⟨rfl,rfl,rfl,rfl,rfl,rfl,rfl,rfl,trivial⟩ fun j h1=>?_
 rcases pL j zs.length with hj|hj
 ·obtain⟨z,hze⟩:=gE hj;have hg:(zs.map zrow)[j]? = some [.bool z.1,vL z.2]:=by rw[pW,hze];rfl
  have q:=hG j z hze;clear hG;obtain⟨zx,zl⟩:=z;generalize hn:G (j+1)=p' at *
  generalize G j=p at *
  obtain⟨px,pl⟩:=p;obtain⟨px',pl'⟩:=p';repeat (first|refine wl ?_|refine wv ?_|refine wg rfl cT ?_|refine wg rfl sB ?_|refine wg rfl (sX j hg) ?_|refine rr_call wL rfl rfl rfl rfl rfl rfl hfn rfl q rfl rfl ?_|refine wz ?_)
  exact⟨j+1,hj,by omega,rfl,rfl,by rw[hn];exact rfl,rfl,rfl,rfl,rfl,rfl,trivial⟩
 ·have hje:j=zs.length:=by omega
  subst hje;clear hG;generalize G zs.length=p at *
  obtain⟨px,pl⟩:=p;repeat (first|refine wv ?_|refine wg rfl cF ?_|refine wz ?_)
  exact⟨.inl rfl,_,rfl,rfl⟩
theorem zlcm2_v(a:Nat)(b:ZZ)(ha:0<a)(hal:lm (a:Int)≤274877906944)(hb:okZ b)(hbl:lm (intOf b)≤274877906944)(h0:intOf b≠0):wJ Tryz.prog 58 [vZs [zn (a:Nat),b]] (fun y=>y=nI (Nat.lcm a (intOf b).natAbs:Nat)):=by
 refine wC wL Tryz.func58 rfl rfl rfl rfl fun w0=>?_;have q1:=zof_v 1 (by decide);have q2:=folded_v 97 Tryz.f97 rfl [zn (a:Nat),b] (fun j=>match j with|0=>zn (1:Nat)|1=>zn (a:Nat)|_=>zn (Nat.lcm a (intOf b).natAbs:Nat)) (by show 2≤_;decide) (fun j z hz=>by
  match j with
  |0=>simp only[List.getElem?_cons_zero,Option.some.injEq]at hz;subst hz;have:=zlcm1_v 1 (zn (a:Nat)) (by decide) (pD lm_1 (by decide)) (jJ _ (by omega)) (by rw[wE];exact hal) (by rw[wE];omega);rw[wE,cJ,Nat.lcm_one_left]at this;exact this
  |1=>simp only[List.getElem?_cons_succ,List.getElem?_cons_zero,Option.some.injEq]at hz;subst hz;exact zlcm1_v a b ha hal hb hbl h0
  |j+2=>simp at hz)
 have q2':wJ Tryz.prog 88 [vI (zn (1:Nat)),vZs [zn (a:Nat),b],.clo 97 [] []] (fun y=>y=nI (Nat.lcm a (intOf b).natAbs:Nat)):=q2;clear q2;repeat (first|refine wl ?_|refine wv ?_|refine wc q1 ?_|refine wc q2' ?_|refine wz ?_)
 exact⟨.inl rfl,_,rfl,rfl⟩
theorem qJC(x:Int):Rat.divInt x 1=(x:Rat):=by have e:=dW (x:Rat);rw[gX,pB9]at e;exact e
theorem mul_num(r:Rat)(C:Nat)(h:r.den∣C):(r*(((C:Nat):Int):Rat)).num=r.num*((C:Nat):Int).tdiv (r.den:Int):=by
 obtain⟨k,rfl⟩:=h;have hd:=r.den_nz;have e1:(((r.den*k:Nat):Int)).tdiv (r.den:Int)=(k:Int):=by rw[dT,Int.mul_tdiv_cancel_left _ (by omega)]
 have e2:r*((((r.den*k:Nat):Nat):Int):Rat)=(((r.num*k:Int)):Rat):=by
  have h2:∀d:Nat,d≠0→Rat.divInt r.num (d:Int)*((((d*k:Nat):Nat):Int):Rat)=(((r.num*k:Int)):Rat):=fun d hd=>by rw[←qJC (((d*k:Nat):Nat):Int),pB3,←qJC,Int.mul_one];rw[show r.num*(((d*k:Nat):Int))=(r.num*(k:Int))*(d:Int) by rw[dT,Int.mul_comm (d:Int),Int.mul_assoc]];have:=Rat.divInt_mul_right (n:=r.num*(k:Int)) (d:=1) (a:=(d:Int)) (by omega);rw[Int.one_mul]at this;exact this
  have:=h2 r.den r.den_nz;rw[dW]at this;exact this
 rw[e1,e2,gX]
theorem qn_two{q:QQ}(h:q=qn (wW q)):intOf q.1=(wW q).num∧intOf q.2=((wW q).den:Int):=by
 constructor
 ·conv=>lhs;rw[h]
  exact wE _
 ·conv=>lhs;rw[h]
  exact wE _
theorem comc_v(qs:List QQ)(D:Nat)(hD:0<D)(hDl:lm D≤68719476736)(hq:∀q∈qs,okS q∧(wW q).den∣D)(hn:∀q∈qs,q=qn (wW q))(hl:qs.length≤1099511627776):wJ Tryz.prog 56 [vQs qs] (fun y=>y=.tup [.agg [.bool (zn (kM qs:Nat)).1,vL (zn (kM qs:Nat)).2,.list ((qs.map (zL (kM qs:Nat))).map w9)],.int .i64 0]):=by
 refine wC wL Tryz.func56 rfl rfl rfl rfl fun w0=>?_;have q0:=zof_v 1 (by decide);repeat (first|refine wc q0 ?_|refine wg rfl (xL wL rfl rfl rfl rfl rfl rfl rfl rfl rfl) ?_|refine wg rfl (sL (vC qs)) ?_|refine wl ?_|refine wv ?_|refine wz ?_)
 refine wKI 4 2 2 25 rfl rfl rfl ?_;refine qC (fun b:Nat×Nat=>[jV 0 (vQs qs),jB 4 2,jC 5 [.v (.bool false),.nils,.nils],jB 8 4,jC 9 [.v (.bool (zn (b.2:Nat)).1),.v (vL (zn (b.2:Nat)).2),.own 0 25 2 []],jV 26 (vQs qs),jI 28 (qs.length),jI 30 (b.1)])
  (fun b=>b.1≤qs.length∧0<b.2∧b.2∣D∧b.2=kM (qs.take b.1)) (fun b=>qs.length-b.1) (0,1) (fun _=>rfl) ⟨pG _,by decide,pF2 _,rfl⟩ ⟨rfl,rfl,rfl,rfl,rfl,rfl,rfl,rfl,trivial⟩ fun⟨j,a⟩ hI=>?_
 obtain⟨hJ,ha,had,hae⟩:=hI;dsimp only at hJ ha had hae ⊢;rcases pL j qs.length with hj|hj
 ·obtain⟨q,hqe⟩:=gE hj;obtain⟨o1,o2⟩:=hq q (pE hqe);have hg:=wF6 qs j q hqe;have hden:=(wW q).den_nz;obtain⟨_,en⟩:=qn_two (hn q (pE hqe));have hla:lm (a:Int)≤68719476736:=pD (x5 (cX hD had)) hDl;have hlq:lm ((wW q).den:Int)≤68719476736:=pD (x5 (cX hD o2)) hDl;have q2:=zlcm2_v a q.2 ha (by omega) o1.ok.2 (by rw[en];omega) (by rw[en];omega);rw[en,cJ]at q2;have e2:Nat.lcm a (wW q).den=kM (qs.take (j+1)):=by
   rw[vA hqe];unfold kM at hae ⊢;rw[bQ,qI7,←hae];show _=Nat.lcm a ((wW q).den:Int).natAbs;rw[cJ]
  have e3:0<Nat.lcm a (wW q).den:=pF0 ha (by omega);have e4:Nat.lcm a (wW q).den∣D:=pF1 had o2;clear hae hq hn en;obtain⟨⟨x,l⟩,⟨y,k⟩⟩:=q;repeat (first|refine wg rfl (sX j hg) ?_|refine wh q2 ?_|refine wl ?_|refine wv ?_|refine wg rfl cT ?_|refine wg rfl sB ?_|refine wz ?_)
  exact⟨(j+1,_),⟨hj,e3,e4,e2⟩,by dsimp only;omega,rfl,rfl,rfl,rfl,rfl,rfl,rfl,rfl,trivial⟩
 ·rw[mW hj]at hae;subst hae;have hdv:=fun q hq'=>(qJ9 (qs.map fun q=>((wW q).den:Int)) 1).2 ((wW q).den:Int) (pR.2 ⟨q,hq',rfl⟩);obtain⟨C,hCe⟩:∃C,kM qs=C:=⟨_,rfl⟩
  unfold kM at hCe;rw[hCe]at hdv;rw[show kM qs=C from hCe]at ha had ⊢;have hCl:lm (C:Int)≤68719476736:=pD (x5 (cX hD had)) hDl;repeat (first|refine wg rfl (sL (vC qs)) ?_|refine wv ?_|refine wg rfl cF ?_|refine wz ?_)
  refine qC (fun i:Nat=>[jB 4 2,jC 5 [.v (.bool false),.nils,.nils],jB 8 4,jC 9 [.v (.bool (zn (C:Nat)).1),.v (vL (zn (C:Nat)).2),.own 0 25 2 (((qs.take i).map (zL (C:Nat))).map w9)],jV 54 (vQs qs),jI 56 (qs.length),jI 58 i])
   (fun i=>i≤qs.length) (fun i=>qs.length-i) 0 (fun _=>rfl) (pG _) ⟨rfl,rfl,rfl,rfl,rfl,rfl,rfl,trivial⟩ fun i hI=>?_
  rcases pL i qs.length with hi|hi
  ·obtain⟨q,hqe⟩:=gE hi;obtain⟨o1,o2⟩:=hq q (pE hqe);have hg:=wF6 qs i q hqe;obtain⟨en1,en⟩:=qn_two (hn q (pE hqe));have hdC:(wW q).den∣C:=by
    have:=hdv q (pE hqe)
    rwa [cJ]at this
   have hden:=(wW q).den_nz;have q3:=yW (zn (C:Nat)) q.2 (jJ _ (by omega)) o1.ok.2 (by rw[en];omega) (by rw[en,wE];exact pA3.2 hdC);rw[en,wE]at q3;have hle:((C:Nat):Int).tdiv ((wW q).den:Int)=((C/(wW q).den:Nat):Int):=(Int.ofNat_tdiv ..).symm;have q4:=zmul_v q.1 (zn (((C:Nat):Int).tdiv ((wW q).den:Int))) o1.ok.1 (jJ _ (by rw[hle];exact pD (x5 (cO ..)) (by omega)));rw[wE,en1,←mul_num _ _ hdC]at q4;have q4':wJ Tryz.prog 59 [vI q.1,vI (zn (((C:Nat):Int).tdiv ((wW q).den:Int)))] (fun y=>y=vI (zL (C:Nat) q)):=q4;have hs:((qs.take i).map (zL (C:Nat))).map w9++[w9 (zL (C:Nat) q)]=((qs.take (i+1)).map (zL (C:Nat))).map w9:=by rw[vA hqe];simp
   have hlen:(((qs.take i).map (zL (C:Nat))).map w9).length=i:=by rw[pF,pF,mG];omega
   have row2:∀e∈[w9 (zL (C:Nat) q)],e.length=2:=fun e h=>by rw[pP.1 h];rfl
   clear q4 hq hn hdv en1 en hle;generalize zL (C:Nat) q=cf at *
   unfold nI at q3;generalize zn (((C:Nat):Int).tdiv ((wW q).den:Int))=cd at *
   obtain⟨⟨x,l⟩,⟨y,k⟩⟩:=q;obtain⟨fx,fl⟩:=cf;obtain⟨dx,dl⟩:=cd;repeat (first|refine wg rfl (sX i hg) ?_|refine wc q3 ?_|refine wc q4' ?_|refine wf rfl rfl (sA 7001 [w9 (fx,fl)] 2 32 row2 hs) ?_|refine wl ?_|refine wv ?_|refine wg rfl cT ?_|refine wg rfl sB ?_|refine wz ?_)
   exact⟨i+1,hi,by omega,rfl,rfl,rfl,rfl,rfl,rfl,rfl,trivial⟩
  ·have hie:i=qs.length:=by omega
   subst hie;rw[pZ];repeat (first|refine wv ?_|refine wg rfl cF ?_|refine rr_vfx wL [.tmp 4] rfl rfl rfl rfl rfl ?_|refine wz ?_)
   exact⟨.inl rfl,_,rfl,rfl⟩
theorem madeC_v(g:FuncId)(fn:Func)(hfn:qB.fns.get g=some fn)(qs:List QQ)(zx:Bool)(zl:List Nat)(L:List (List V))(hq:∀q∈qs,okQ q∧intOf q.2≠0)(hl:qs.length≤1099511627776)(hg:wJ Tryz.prog g [vQs (qs.map clN)] (fun y=>y=.tup [.agg [.bool zx,vL zl,.list L],.int .i64 0])) :
  wJ Tryz.prog 55 [.clo g [] [],vQs qs] (fun y=>y=.tup [.agg [.bool zx,vL zl,.list L],.int .i64 0]):=by
 refine wC wL Tryz.func55 rfl rfl rfl rfl fun w0=>?_;repeat (first|refine wg rfl (sL (vC _)) ?_|refine wl ?_|refine wv ?_|refine wg rfl (sM 7000 0 qs.length 4 64 (es':=[]) rfl) ?_|refine wz ?_)
 refine qC (fun b:Nat×List QQ=>[jV 0 (.clo g [] []),jB 8 4,jC 9 [.v (.bool false),.nils,.nils],jB 12 6,jC 13 [.v (.bool false),.nils,.nils],jO 14 1 43 4 (b.2.map kL),jV 30 (vQs qs),jI 32 (qs.length),jI 34 (b.1)])
  (fun b=>b.1≤qs.length∧b.2=(qs.take b.1).map clN) (fun b=>qs.length-b.1) (0,[]) (fun _=>rfl) ⟨pG _,rfl⟩ ⟨rfl,rfl,rfl,rfl,rfl,⟨_,rfl⟩,rfl,rfl,rfl,trivial⟩ fun⟨j,out⟩ hI=>?_
 obtain⟨h1,h3⟩:=hI;dsimp only at h1 h3 ⊢;have hol:(out.map kL).length=out.length:=vC _;have hol2:out.length=j:=by rw[h3];simp;omega
 rcases pL j qs.length with hj|hj
 ·obtain⟨q,hqe⟩:=gE hj;have hqo:=hq q (pE hqe);have hgq:=wF6 qs j q hqe;have q1:=qA0 q hqo.1 hqo.2;have hs:=qA1 out (clN q);have hnew:out++[clN q]=(qs.take (j+1)).map clN:=by
   rw[h3,cW,hqe];simp
  unfold nR at q1;rw[show qn (wW q)=clN q from rfl]at q1;generalize clN q=p at *
  obtain⟨⟨x,l⟩,⟨y,k⟩⟩:=q;obtain⟨⟨x',l'⟩,⟨y',k'⟩⟩:=p;clear hg;have row4:∀e∈[kL ((x',l'),(y',k'))],e.length=4:=fun e h=>by rw[pP.1 h];rfl
  repeat (first|refine wl ?_|refine wv ?_|refine wg rfl (sX j hgq) ?_|refine wc q1 ?_|refine wf rfl rfl (sA 7001 [kL ((x',l'),(y',k'))] 4 64 row4 hs) ?_|refine wg rfl cT ?_|refine wg rfl nF ?_|refine wg rfl sB ?_|refine wz ?_)
  exact⟨(j+1,out++[((x',l'),(y',k'))]),⟨hj,hnew⟩,by dsimp only;omega,rfl,rfl,rfl,rfl,rfl,⟨_,rfl⟩,rfl,rfl,rfl,trivial⟩
 ·have hje:j=qs.length:=by omega
  subst hje;rw[pZ]at h3;rw[←h3]at hg;repeat (first|refine wv ?_|refine wg rfl cF ?_|refine qGG wL rfl rfl rfl rfl rfl rfl rfl hfn rfl hg rfl rfl ?_|refine wz ?_)
  exact⟨.inl rfl,_,rfl,rfl⟩
theorem comD_cl(qs:List QQ):kM (qs.map clN)=kM qs:=by unfold kM;rw[bB];congr 1;exact bG fun q _=>by simp only[Function.comp];rw[wN4]
theorem comF_cl(C:Int)(qs:List QQ):(qs.map clN).map (zL C)=qs.map (zL C):=by rw[bB];exact bG fun q _=>by simp only[Function.comp];unfold zL;rw[wN4]
theorem commonP_v(qs:List QQ)(D:Nat)(hD:0<D)(hDl:lm D≤68719476736)(hq:∀q∈qs,okS q∧(wW q).den∣D)(hl:qs.length≤1099511627776):wJ Tryz.prog 26 [vQs qs] (fun y=>y=.tup [nI (kM qs:Nat),.list ((qs.map (zL (kM qs:Nat))).map w9),.int .i64 0]):=by
 refine wC wL Tryz.func26 rfl rfl rfl rfl fun w0=>?_;have q0:=comc_v (qs.map clN) D hD hDl (fun q hq'=>by
  obtain⟨p,hp,rfl⟩:=pR.1 hq';obtain⟨h1,h2⟩:=hq p hp;exact⟨clN_ok h1,by rw[wN4];exact h2⟩) (fun q hq'=>by
  obtain⟨p,hp,rfl⟩:=pR.1 hq';rw[wN4];rfl) (by rw[pF];exact hl)
 rw[comD_cl,comF_cl]at q0;have q1:=madeC_v 56 Tryz.f56 rfl qs _ _ _ (fun q hq'=>okQ_S (hq q hq').1) hl q0;clear q0 hq;unfold nI;generalize (qs.map (zL (kM qs:Nat))).map w9=L at *
 generalize zn (kM qs:Nat)=z at *
 obtain⟨zx,zl⟩:=z;repeat (first|refine wl ?_|refine wv ?_|refine wc q1 ?_|refine wz ?_)
 exact⟨.inl rfl,_,rfl,rfl⟩
theorem evenR_v(R:List (List QQ))(n:Nat)(h:∀r∈R,r.length=n)(hn:n≤1099511627776)(hl:R.length≤1099511627776):wJ Tryz.prog 27 [.list (wB6 R)] (fun y=>y=.bool true):=by
 refine wC wL Tryz.func27 rfl rfl rfl rfl fun w0=>?_;repeat (first|refine wg rfl (sL (wU2 R)) ?_|refine wv ?_|refine wz ?_)
 refine qC (fun j:Nat=>[jV 0 (.list (wB6 R)),jV 10 (.list (wB6 R)),jI 12 (R.length),jI 14 j])
  (fun j=>j≤R.length) (fun j=>R.length-j) 0 (fun _=>rfl) (pG _) ⟨rfl,rfl,rfl,rfl,trivial⟩ fun j h1=>?_
 rcases pL j R.length with hj|hj
 ·obtain⟨r,hr⟩:=gE hj;obtain⟨r0,hr0⟩:=gE (l:=R) (i:=0) (by omega);have hg:=tq_at R j r hr;have hg0:=tq_at R 0 r0 hr0;have l1:(r.map kL).length=n:=by rw[pF];exact h r (pE hr)
  have l0:(r0.map kL).length=n:=by rw[pF];exact h r0 (pE hr0)
  clear h;repeat (first|refine wg rfl (sL l1) ?_|refine wg rfl (sL l0) ?_|refine wv ?_|refine wg rfl (sX j hg) ?_|refine wg rfl (sX 0 hg0) ?_|refine wg rfl cT ?_|refine wg rfl nF ?_|refine wg rfl sB ?_|refine wz ?_)
  exact⟨j+1,hj,by omega,rfl,rfl,rfl,rfl,trivial⟩
 ·repeat (first|refine wv ?_|refine wg rfl cF ?_|refine wz ?_)
  exact⟨.inl rfl,_,rfl,rfl⟩
def fromM(R:List (List QQ)):MM:=wCE (zn (kM R.flatten:Nat)) (R.map fun r=>r.map (zL (kM R.flatten:Nat)))
theorem fromP_v(R:List (List QQ))(n D:Nat)(hD:0<D)(hDl:lm D≤34359738368)(hq:∀q∈R.flatten,okS q∧lm (wW q).num≤34359738368∧(wW q).den∣D)(hr:∀r∈R,r.length=n)(hn:n≤1048576)(hl:R.length≤1048576)(hfl:R.flatten.length≤1048576):wJ Tryz.prog 11 [.list (wB6 R)] (fun y=>y=.tup [vM (fromM R),.int .i64 0]):=by
 refine wD2 wL Tryz.func11 rfl rfl rfl rfl fun w0 hmk hro=>?_;have q2:=eachR2_v (R.map fun r=>r.map kL);rw[gridQ]at q2;have hseq:=eachR_v (R.map fun r=>r.map kL) (fun r hr e he=>by
  obtain⟨r',_,rfl⟩:=pR.1 hr;obtain⟨z,_,rfl⟩:=pR.1 he;rfl) (by simp only[List.length_map];omega) (fun r hr'=>by
  obtain⟨r',h1,rfl⟩:=pR.1 hr';rw[pF,hr r' h1];omega)
 rw[gridQL,gridQ]at hseq;have q3:=commonP_v R.flatten D hD (by omega) (fun q h=>⟨(hq q h).1,(hq q h).2.2⟩) (by omega);have q4:=evenR_v R n hr (by omega) (by omega);have hCD:kM R.flatten∣D:=wX8 _ _ fun q h=>(hq q h).2.2;have hC0:0<kM R.flatten:=gD fun e=>by rw[e]at hCD;have:=Nat.eq_zero_of_zero_dvd hCD;omega
 have hCl:lm (kM R.flatten:Int)≤34359738368:=pD (x5 (cX hD hCD)) hDl;have q5:=made_v (zn (kM R.flatten:Nat)) (R.map fun r=>r.map (zL (kM R.flatten:Nat))) (jJ _ (by omega)) (by rw[wE];omega) (fun r hr' x hx=>by
  obtain⟨r',h1,rfl⟩:=pR.1 hr';obtain⟨q,h2,rfl⟩:=pR.1 hx;have h3:=(hq q (dO.2 ⟨r',h1,h2⟩)).2.1;refine jJ _ ?_;have h4:=(mul_den (wW q) (((kM R.flatten:Nat):Int):Rat) rfl).1;have h5:lm (((kM R.flatten:Nat):Int):Rat).num=lm (kM R.flatten:Int):=rfl;omega) (by rw[pF];omega) (fun r hr'=>by
  obtain⟨r',h1,rfl⟩:=pR.1 hr';rw[pF,hr r' h1];omega)
 rw[show wCE (zn (kM R.flatten:Nat)) (R.map fun r=>r.map (zL (kM R.flatten:Nat)))=fromM R from rfl]at q5;generalize fromM R=M at *
 obtain⟨C,hCe⟩:∃C:Int,((kM R.flatten:Nat):Int)=C:=⟨_,rfl⟩
 rw[hCe]at q3 q5;clear hCe hCl hC0 hCD hq;repeat (first|refine wl ?_|refine wv ?_|refine wc q2 ?_|refine wz ?_)
 refine wTH 2 2 rfl rfl fun u2=>?_;refine wTH 4 4 rfl rfl fun u4=>?_;refine vw_nilOwnB 4 0 4 43 rfl rfl rfl ?_;refine wMB wL (fun b:List QQ=>[jC 9 [.own 0 43 4 (b.map kL)],jC 5 [.v (.bool false),.nils,.nils]])
  [jV 0 (.list (wB6 R)),(4,some (.sv (.rp 2 u2 0))),(8,some (.sv (.rp 4 u4 0)))]
  (fun j b=>b=R.flatten.take j) []
  (fun _ e b=>[jB 10 5,jC 11 (match e with|[.agg cs]=>cs.map .v|_=>[]),jC 9 [.own 0 43 4 (b.map kL)],jC 5 [.v (.bool false),.nils,.nils],jV 0 (.list (wB6 R)),(4,some (.sv (.rp 2 u2 0))),(8,some (.sv (.rp 4 u4 0)))])
  hro hmk rfl rfl hseq rfl (fun e he=>by obtain⟨z,_,rfl⟩:=pR.1 he;rfl) rfl (fun _=>rfl) rfl ⟨rfl,rfl,rfl,rfl,rfl,trivial⟩ (fun _ _ _=>rfl) ?_ ?_ ?_
 ·intro j e b he hI w1;rw[pW]at he;obtain⟨z,hz,rfl⟩:=bD.1 he;obtain⟨⟨zx,zl⟩,⟨zy,zk⟩⟩:=z;repeat (first|refine wl ?_|refine wv ?_|refine wz ?_)
  exact⟨rfl,rfl,rfl,rfl,rfl,rfl,rfl,rfl,trivial⟩
 ·intro j e b he hI w1;rw[pW]at he;obtain⟨z,hz,rfl⟩:=bD.1 he;subst hI;have hs:(R.flatten.take j).map kL++[kL z]=(R.flatten.take (j+1)).map kL:=by
   rw[cW,hz];simp
  have hlen:((R.flatten.take j).map kL).length≤1048576:=by rw[pF,mG];omega
  have row2:∀e∈[kL z],e.length=4:=fun e h=>by rw[pP.1 h];rfl
  obtain⟨⟨zx,zl⟩,⟨zy,zk⟩⟩:=z;repeat (first|refine wf rfl rfl (sA 7001 [kL ((zx,zl),(zy,zk))] 4 64 row2 hs) ?_|refine wv ?_|refine wz ?_)
  exact⟨rfl,_,rfl,rfl,rfl,rfl,rfl,rfl,trivial⟩
 ·intro b hI;rw[pF,pZ]at hI;subst hI;show VW _ _ _ _ _ _;refine wTG 2 2 rfl rfl ?_;refine wTG 4 4 rfl rfl ?_;repeat (first|refine wg rfl (sL (wU2 R)) ?_|refine wh q3 ?_|refine wc q4 ?_|refine wl ?_|refine wv ?_|refine wg rfl nF ?_|refine wz ?_)
  refine yI (d:=9) (id:=1) (k:=1) (T:=58) rfl rfl rfl rfl ?_;refine qC (fun j:Nat=>[jB 4 2,jC 5 [.v (.bool false),.nils,.nils],jB 12 6,jC 13 [.v (.bool (zn C).1),.v (vL (zn C).2)],jV 14 (.list (((R.drop j).flatten.map (zL C)).map w9)),jO 18 1 58 1 (xO ((R.take j).map fun r=>r.map (zL C))),jV 66 (.list (wB6 R)),jI 68 (R.length),jI 70 j])
   (fun j=>j≤R.length) (fun j=>R.length-j) 0 (fun _=>rfl) (pG _) ⟨rfl,rfl,rfl,rfl,rfl,⟨_,rfl⟩,rfl,rfl,rfl,trivial⟩ fun j hj'=>?_
  rcases pL j R.length with hj|hj
  ·obtain⟨r,hrj⟩:=gE hj;have hg:=tq_at R j r hrj;have hrn:=hr r (pE hrj);have hd:=wLJ R j r hrj;have hfl:(((R.drop j).flatten.map (zL C)).map w9)=(r.map (zL C)).map w9++((R.drop (j+1)).flatten.map (zL C)).map w9:=by
    rw[hd];simp
   have hrl2:((r.map (zL C)).map w9).length=r.length:=by rw[pF,pF]
   have hp1:(((R.drop j).flatten.map (zL C)).map w9).take r.length=(r.map (zL C)).map w9:=by rw[hfl,pE6 hrl2]
   have hp2:(((R.drop j).flatten.map (zL C)).map w9).drop r.length=((R.drop (j+1)).flatten.map (zL C)).map w9:=by rw[hfl,List.drop_left' hrl2]
   have hle:r.length≤(((R.drop j).flatten.map (zL C)).map w9).length:=by rw[hfl,pX];omega
   have hk2:∀e∈((R.drop j).flatten.map (zL C)).map w9,e.length=2:=fun e h=>by obtain⟨q,_,rfl⟩:=pR.1 h;rfl
   have hs:xO ((R.take j).map fun r=>r.map (zL C))++[[V.list ((r.map (zL C)).map w9)]]=xO ((R.take (j+1)).map fun r=>r.map (zL C)):=by rw[vA hrj];unfold xO;simp
   have hlen:(xO ((R.take j).map fun r=>r.map (zL C))).length=j:=by rw[wP4,pF,mG];omega
   have wN1:∀e∈[[V.list ((r.map (zL C)).map w9)]],e.length=1:=fun e h=>by rw[pP.1 h];rfl
   generalize ((R.drop j).flatten.map (zL C)).map w9=es at *
   repeat (first|refine wg rfl (sL (vC r)) ?_|refine wg rfl (sX j hg) ?_|refine wg rfl (qG5 (h:=r.length) wL rfl rfl rfl rfl rfl rfl rfl rfl hk2 hle hp1 rfl) ?_|refine wg rfl (wK4 wL (l:=r.length) rfl rfl rfl rfl rfl rfl hk2 hle hp2 rfl) ?_|refine wf rfl rfl (sA 7002 [[V.list ((r.map (zL C)).map w9)]] 1 24 wN1 hs) ?_|refine wv ?_|refine wg rfl cT ?_|refine wg rfl sB ?_|refine wz ?_)
   exact⟨j+1,hj,by omega,rfl,rfl,rfl,rfl,rfl,⟨_,rfl⟩,rfl,rfl,rfl,trivial⟩
  ·have hje:j=R.length:=by omega
   subst hje;rw[pZ];repeat (first|refine wv ?_|refine wg rfl cF ?_|refine wh q5 ?_|refine wz ?_)
   exact⟨.inl rfl,_,rfl,rfl⟩
theorem wW9:∀(ds:List Nat)(a:Nat),ds.foldl (fun n d=>n*10+d) a=0→a=0∧∀d∈ds,d=0
 |[],a,h=>⟨h,by simp⟩
 |d::ds,a,h=>by
  obtain⟨h1,h2⟩:=wW9 ds _ h;have h1:a*10+d=0:=h1;refine⟨by omega,fun x hx=>?_⟩;rcases pS.1 hx with rfl|hx
  ·omega
  ·exact h2 x hx
theorem den_ne{u:List Nat}(h:kD u=0):(qK u).2.2.1≠0:=by
 unfold kD qK at h;unfold qK;split at h
 ·cases h
 ·rename_i c1;split at h
  ·cases h
  ·rename_i c2;split at h
   ·cases h
   ·rename_i c3;split at h
    ·cases h
    ·rename_i c4;rw[if_neg c1,if_neg c2,if_neg c3,if_neg c4];intro h0;refine c3 (mD.2 fun r hr=>?_);have h1:=(wW9 _ 0 h0).2 (wU r) (gA hr);unfold wU zY at h1;simp only[Bool.and_eq_true,decide_eq_true_eq]at h1;split at h1
     ·simp only[beq_iff_eq];omega
     ·split at h1
      ·omega
      ·split at h1<;>omega
theorem qI5{n:Nat}(h:x7 n≤4096):(toL n).length≤129:=by
 unfold x7 at h;split at h
 ·rename_i h0;subst h0;rw[wT]
  decide
 ·omega
def ReadF(f:Fr):Prop:=vG f≤4096∧∃u,kD u=0∧f=xS (qK u)
theorem ReadF.ok{f:Fr}(h:ReadF f):okS (qF f)∧f.2.1.length≤129∧f.2.2.2.length≤129∧intOf (qF f).2=(wB f.2.2.2:Int)∧0<wB f.2.2.2:=by
 obtain⟨h1,u,hu,rfl⟩:=h;have hd:=den_ne hu;obtain⟨⟨ng,N,M,c⟩,hy⟩:∃y,qK u=y:=⟨_,rfl⟩
 rw[hy]at h1 hd ⊢;unfold vG xS at h1;dsimp only at h1 hd;rw[wI,wI]at h1;have l1:=qI5 (n:=N) (by omega);have l2:=qI5 (n:=M) (by omega);have e:intOf (qF (xS (ng,N,M,c))).2=(M:Int):=by show(wB (toL M):Int)=M;rw[wI]
 refine⟨⟨qL _,qL _,pD l1 (by decide),pD l2 (by decide),?_⟩,l1,l2,?_,?_⟩
 ·rw[e];omega
 ·rw[e];show(M:Int)=(wB (toL M):Int)
  rw[wI]
 ·show 0<wB (toL M);rw[wI];omega
def wE9:List Fr→Nat
 |[]=>1
 |f::l=>wB f.2.2.2*wE9 l
theorem qB1:∀(l:List Fr),(∀f∈l,ReadF f)→0<wE9 l
 |[],_=>by decide
 |f::l,h=>Nat.mul_pos (h f (pQ ..)).ok.2.2.2.2 (qB1 l fun g hg=>h g (pO _ hg))
theorem qB3:∀(l:List Fr)(f:Fr),f∈l→wB f.2.2.2∣wE9 l
 |g::l,f,h=>by
  rcases pS.1 h with rfl|h
  ·exact Nat.dvd_mul_right ..
  ·exact gQ (qB3 l f h) (Nat.dvd_mul_left ..)
theorem lm_unit:lm 1=1:=by decide +kernel
theorem qB2:∀(l:List Fr),(∀f∈l,ReadF f)→lm (wE9 l:Nat)≤129*l.length+1
 |[],_=>by show lm 1≤1;rw[lm_unit];exact pC _
 | f::l,h=>by
  have ih:=qB2 l fun g hg=>h g (pO _ hg);obtain⟨o1,_,o3,o4,_⟩:=(h f (pQ ..)).ok;have h1:=wPJ (wB f.2.2.2:Nat) (wE9 l:Nat);have h2:=jU (qF f).2 o1.2.1;rw[o4]at h2;have h3:(qF f).2.2.length=f.2.2.2.length:=rfl;have e:((wE9 (f::l):Nat):Int)=(wB f.2.2.2:Nat)*(wE9 l:Nat):=by show(((wB f.2.2.2*wE9 l:Nat)):Int)=_;rw[dT]
  rw[e,pM];omega
theorem qD5(rows:List (List Fr)):(qT rows).flatten=rows.flatten.map qF:=by unfold qT;rw[pE4]
theorem wBF(n:Nat):∀rows:List (List Fr),(∀r∈rows,r.length=n)→rows.flatten.length=rows.length*n
 |[],_=>by simp
 |r::rows,h=>by rw[mT,pX,wBF n rows fun r hr=>h r (pO _ hr),h r (pQ ..),pM,mY];omega
structure ReadM(rows:List (List Fr)):Prop where
 le:rows.length≤24
 pos:0<rows.length
 sq:∀r∈rows,r.length=rows.length
 is:∀r∈rows,∀f∈r,ReadF f
theorem wV0{L:List Nat}{rows:List (List Fr)}(h:xK L=(0,rows)):ReadM rows:=by obtain⟨h1,h2,h3,h4⟩:=read_rows L rows h;exact⟨h1,h2,h3,h4⟩
theorem ReadM.flat{rows:List (List Fr)}(h:ReadM rows):(∀f∈rows.flatten,ReadF f)∧rows.flatten.length≤576:=by
 refine⟨fun f hf=>?_,?_⟩
 ·obtain⟨r,hr,hf⟩:=dO.1 hf;exact h.is r hr f hf
 ·rw[wBF _ rows h.sq];exact bK h.le h.le
theorem ReadM.den{rows:List (List Fr)}(h:ReadM rows):0<wE9 rows.flatten∧lm (wE9 rows.flatten:Nat)≤100000∧∀q∈(qT rows).flatten,okS q∧lm (wW q).num≤129∧(wW q).den∣wE9 rows.flatten:=by
 obtain⟨h1,h2⟩:=h.flat;refine⟨qB1 _ h1,?_,fun q hq=>?_⟩
 ·have:=qB2 _ h1;omega
 ·rw[qD5]at hq;obtain⟨f,hf,rfl⟩:=pR.1 hq;obtain⟨o1,o2,o3,o4,o5⟩:=(h1 f hf).ok;have hn:=(wFC (intOf (qF f).1) (intOf (qF f).2) o1.2.2.2.2).1;have hl:=jU (qF f).1 o1.1;have h3:(qF f).1.2.length=f.2.1.length:=rfl;refine⟨o1,?_,?_⟩
  ·show lm (Rat.divInt _ _).num≤_;omega
  ·have:=qJE (intOf (qF f).1) (intOf (qF f).2) o1.2.2.2.2;rw[o4,cJ,←o4]at this;exact gQ this (qB3 _ f hf)
def wB4(R:List (List QQ)):MM:=(zn (kM R.flatten:Nat),R.map fun r=>r.map (zL (kM R.flatten:Nat)))
theorem made_one(d:ZZ)(t:List (List ZZ))(hd:0<intOf d)(hg:wI5 d t=1)(hc:vD t≠0)(hz:zn (intOf d)=d)(ht:∀r∈t,∀x∈r,zn (intOf x)=x):wCE d t=(d,t):=by
 unfold wCE;have hS:wK7 d t=1:=by rw[wVH,if_neg (by omega),hg]
 rw[hS,if_neg hc,Int.tdiv_one,hz]
 have:(t.map fun r=>r.map fun x=>zn ((intOf x).tdiv 1))=t:=by
  conv=>rhs;rw[←List.map_id t]
  refine bG fun r hr=>?_
  conv=>rhs;rw[id,←List.map_id r]
  refine bG fun x hx=>?_;rw[Int.tdiv_one,ht r hr x hx];rfl
 rw[this]
theorem from_want(R:List (List QQ))(hc:vD (wB4 R).2≠0):fromM R=wB4 R:=by
 obtain⟨C,hC⟩:∃C,kM R.flatten=C:=⟨_,rfl⟩
 have hpos:0<C:=by rw[←hC];exact comD_pos _
 have hdv:=dvd_comD R.flatten;have hle:∀k:Nat,0<k→(∀q∈R.flatten,(wW q).den∣k)→C≤k:=fun k hk h=>by rw[←hC];exact cX hk (wX8 _ _ h)
 unfold fromM wB4 at *
 rw[hC]at hc hdv ⊢;have hd0:intOf (zn (C:Nat))=C:=wE _;obtain⟨g1,g2,g3⟩:=wL7 (zn (C:Nat)) (R.map fun r=>r.map (zL (C:Nat))) (by rw[hd0];omega);refine made_one _ _ (by rw[hd0];omega) ?_ hc (by rw[hd0]) fun r hr x hx=>?_
 ·rw[hd0]at g2;generalize wI5 (zn (C:Nat)) (R.map fun r=>r.map (zL (C:Nat)))=m at *
  obtain⟨k,hk⟩:=g2;have hk0:0<k:=by refine Int.lt_of_not_ge fun hn=>?_;have:=Int.mul_nonpos_of_nonneg_of_nonpos (a:=m) (b:=k) (by omega) hn;omega
  obtain⟨k',rfl⟩:∃k':Nat,k=k':=⟨k.toNat,by omega⟩
  have:=hle k' (by omega) fun q hq=>by obtain⟨r,hr,hqr⟩:=dO.1 hq;have h3:=g3 _ (gA hr) _ (gA hqr);have e3:intOf (zL (C:Nat) q)=(wW q*((C:Int):Rat)).num:=wE _;rw[e3]at h3;obtain⟨j,hj⟩:=h3;have hb:=comF_back (wW q) C hpos (hdv q hq);rw[hj,hk,Rat.divInt_mul_left (by omega)]at hb;have:=qJE j k' (by omega);rw[hb]at this;simpa using this
  have hm:(m:Int)*k'=(C:Int):=hk.symm;refine Int.le_antisymm (Int.le_of_not_gt fun hgt=>?_) (by omega);have h5:(2:Int)*k'≤m*k':=Int.mul_le_mul_of_nonneg_right (by omega) (by omega);omega
 ·obtain⟨r',_,rfl⟩:=pR.1 hr;obtain⟨q,_,rfl⟩:=pR.1 hx;show zn (intOf (zn _))=zn _;rw[wE]
theorem ReadM.cols{rows:List (List Fr)}(h:ReadM rows):vD (wB4 (qT rows)).2≠0:=by
 cases rows with
 |nil=>exact absurd h.pos (by decide)
 |cons r rows=>have h1:=h.sq r (pQ ..);show((r.map qF).map _).length≠0;rw[pF,pF,h1];simp
theorem ReadM.same{rows:List (List Fr)}(h:ReadM rows):okM0 (wB4 (qT rows)):=by
 obtain⟨h1,h2,h3⟩:=h.den;have hC:lm (kM (qT rows).flatten:Nat)≤100000:=pD (x5 (cX h1 (wX8 _ _ fun q hq=>(h3 q hq).2.2))) h2;refine⟨⟨qBB _,pD hC (by decide)⟩,fun r hr=>?_,?_⟩
 ·obtain⟨r',hr',rfl⟩:=pR.1 hr;obtain⟨r2,hr2,rfl⟩:=pR.1 hr';refine⟨?_,fun z hz=>?_⟩
  ·rw[pF,pF,h.sq r2 hr2];exact pD h.le (by decide)
  ·obtain⟨q,hq,rfl⟩:=pR.1 hz;obtain⟨_,k2,_⟩:=h3 q (dO.2 ⟨_,hr',hq⟩);refine⟨qBB _,?_⟩;have:=(mul_den (wW q) (((kM (qT rows).flatten:Nat):Int):Rat) rfl).1;have e:((((kM (qT rows).flatten:Nat):Int):Rat)).num=((kM (qT rows).flatten:Nat):Int):=rfl;rw[e]at this;show lm _≤_;omega
 ·show((qT rows).map _).length≤_;rw[pF];unfold qT;rw[pF];exact pD h.le (by decide)
theorem fromR_v{rows:List (List Fr)}(h:ReadM rows):wJ Tryz.prog 11 [.list (wB6 (qT rows))] (fun y=>y=.tup [vM (wB4 (qT rows)),.int .i64 0]):=by
 obtain⟨h1,h2,h3⟩:=h.den;have hl:(qT rows).length=rows.length:=pF ..;have hf:(qT rows).flatten.length≤576:=by rw[qD5,pF];exact h.flat.2
 have:=fromP_v (qT rows) rows.length (wE9 rows.flatten) h1 (pD h2 (by decide)) (fun q hq=>⟨(h3 q hq).1,pD (h3 q hq).2.1 (by decide),(h3 q hq).2.2⟩) (fun r hr=>by obtain⟨r',hr',rfl⟩:=pR.1 hr;rw[pF,h.sq r' hr']) (pD h.le (by decide)) (by rw[hl];exact pD h.le (by decide)) (pD hf (by decide))
 rwa [from_want _ h.cols]at this
theorem from11R_v{rows:List (List Fr)}(h:ReadM rows):wJ Tryz.prog 15 [.list (wB6 (qT rows))] (fun y=>y=vM (wB4 (qT rows))):=by
 obtain⟨h1,h2,h3⟩:=h.den;have hl:(qT rows).length=rows.length:=pF ..;have hf:(qT rows).flatten.length≤576:=by rw[qD5,pF];exact h.flat.2
 exact from11_v (qT rows) (wE9 rows.flatten) h1 (pD h2 (by decide)) (fun q hq=>⟨(h3 q hq).1,(h3 q hq).2.2⟩) (by rw[hl];exact pD h.le (by decide)) (pD hf (by decide)) fun r hr=>by obtain⟨r',hr',rfl⟩:=pR.1 hr;rw[pF,h.sq r' hr'];exact pD h.le (by decide)
theorem sameR_v{rows:List (List Fr)}(h:ReadM rows):wJ Tryz.prog 8 [vM (wB4 (qT rows)),vM (wB4 (qT rows))] (fun y=>y=.bool true):=by have:=same11_v (wB4 (qT rows)) (wB4 (qT rows)) h.same h.same;rw[decide_eq_true rfl]at this;exact this
def vRd(x:Nat×List (List Fr)):V:=if x.1=0 then vM (wB4 (qT x.2))else .agg [.bool false,.raw (.slice none 0 0),.raw (.slice none 0 0)]
theorem wW0(c:List Nat)(h:c.length≤1048576):(xF c).length≤1099513724929∧∀u∈xF c,u.length≤1048576∧∀r∈u,r∈c:=by
 have e:xF c=((wR qX c).map kO).flatten:=by unfold xF;rw[qA2,wKG]
 obtain⟨b1,b2⟩:=wDH qX c;rw[e];constructor
 ·have key:∀D:List (List Nat),(∀d∈D,d.length≤1048576)→((D.map kO).flatten).length≤D.length*1048577:=by
   intro D
   induction D with
   |nil=>intro _;simp
   |cons d D ih=>intro hd;rw[mE,mT,pX,pM,mY];have h1:=wTD d;have h2:=hd d (pQ ..);have h3:=ih fun x hx=>hd x (pO _ hx);omega
  have h1:=key (wR qX c) fun d hd=>pD (b2 d hd) h;have h2:(wR qX c).length*1048577≤1048577*1048577:=mM _ (by omega);omega
 ·intro u hu;obtain⟨ws,hws,hu⟩:=dO.1 hu;obtain⟨d,hd,rfl⟩:=pR.1 hws;obtain⟨k1,k2⟩:=wordsL_mem d u hu;have h3:=b2 d hd;exact⟨by omega,fun r hr=>wV5 qX c d hd r (k1 r hr)⟩
structure GoodWs(ws:List (List (List Nat))):Prop where
 len:ws.length≤1048577
 row:∀r∈ws,r.length≤1099513724929
 word:∀r∈ws,∀u∈r,u.length≤1048576∧wD (txt u)=u
theorem good_ws(s:ByteArray)(hs:s.size≤1048576)(ws:List (List (List Nat)))(h:kZ [] (wR zH (wD s))=some ws):GoodWs ws:=by
 have hrl:(wD s).length≤1048576:=by have:=y2 s 0;unfold wD;omega
 obtain⟨b1,b2⟩:=wDH zH (wD s);rw[wFI]at h;split at h
 ·simp only[List.nil_append,Option.some.injEq]at h;subst h;refine⟨by rw[pF];omega,fun r hr=>?_,fun r hr u hu=>?_⟩
  ·obtain⟨c,hc,rfl⟩:=pR.1 hr;exact(wW0 c (pD (b2 c hc) hrl)).1
  ·obtain⟨c,hc,rfl⟩:=pR.1 hr;obtain⟨k1,k2⟩:=(wW0 c (pD (b2 c hc) hrl)).2 u hu;exact⟨k1,qGC u fun r hr=>wYF s r (wV5 zH _ c hc r (k2 r hr))⟩
 ·cases h
theorem bits_frac(u:List Nat):vG (xS (qK u))=max (x7 (qK u).2.1) (x7 (qK u).2.2.1):=by unfold vG xS;dsimp only;rw[wI,wI]
theorem frac_zero(u:List Nat)(h:kD u≠0):(qK u).2.1=0∧(qK u).2.2.1=0:=by
 unfold kD qK at h;unfold qK
 repeat' split at h
 all_goals simp_all
def wF3(n:Nat):Bool→List (List Fr)→Option Bool
 |bg,[]=>some bg
 |bg,r::rs=>if r.length≠n then none else wF3 n (bg||r.any fun f=>decide (4096<vG f)) rs
theorem wZH(n:Nat):∀(rs:List (List Fr))(bg:Bool),wF3 n bg rs=if(rs.any fun r=>r.length != n)=true then none else some (bg||rs.any fun r=>r.any fun f=>decide (4096<vG f))
 |[],bg=>by simp[wF3]
 |r::rs,bg=>by
  rw[wF3,wZH n rs];by_cases h:r.length=n
  ·rw[if_neg (by simp[h])];simp[h,Bool.or_assoc]
  ·rw[if_pos h];simp[h]
theorem readS_go(x:List (List Fr)×Bool×Bool)(hx:x.2.2=false):readS x=match wF3 x.1.length (x.2.1||decide (24<x.1.length)) x.1 with|none=>(3,[])|some bg=>if bg=true then(4,[])else(0,x.1):=by
 unfold readS;rw[wZH,hx,if_neg (by decide)];by_cases h:(x.1.any fun r=>r.length != x.1.length)=true
 ·rw[if_pos h,if_pos h]
 ·rw[if_neg h,if_neg h]
theorem ses_small{L:List Nat}(hL:L.length≤1048576)(rows:List (List Fr))(lg bad:Bool)(h:wGD [] false (wR zH L)=(rows,lg,bad)):rows.length≤1048577∧∀r∈rows,r.length≤1099513724929∧∀f∈r,okZ (qF f).1∧okZ (qF f).2:=by
 rw[wU6]at h;obtain⟨b1,b2⟩:=wDH zH L;split at h
 ·rename_i hall;simp only[List.nil_append,Prod.mk.injEq]at h;obtain⟨rfl,_⟩:=h;refine⟨by rw[pF];omega,fun r hr=>?_⟩;obtain⟨c,hc,rfl⟩:=pR.1 hr;have h0:(y5 c).2.2=0:=by simpa using mD.1 hall c hc
  rw[(wBE c).2.2.1 h0];obtain⟨k1,k2⟩:=wW0 c (pD (b2 c hc) hL);refine⟨by rw[wT3,pF];exact k1,fun f hf=>?_⟩;obtain⟨u,hu,rfl⟩:=pR.1 hf;obtain⟨v,hv,rfl⟩:=pR.1 hu;have hlen:(wG3 v).length≤1048576:=by
   unfold wG3;split
   ·decide
   ·exact(k2 v hv).1
  obtain⟨l1,l2⟩:=qAD (wG3 v);exact⟨⟨qL _,pD l1 (by omega)⟩,⟨qL _,pD l2 (by omega)⟩⟩
 ·simp only[Prod.mk.injEq]at h;obtain⟨rfl,_⟩:=h;exact⟨pG _,by simp⟩
theorem bits_fr(f:Fr):(4096<wS4 (qF f))↔4096<vG f:=by rw[bitsI_eq,zT,zT];unfold vG qF;dsimp only;omega
def wC2(w w':World)(e:Ending)(y:Nat×List (List Fr)):Prop:=∃v,e=.returned (.tuple #[v,.int .i64 (y.1:Nat)])∧Rep (fun b=>w.heap.size≤b) w' (vRd y) v
theorem mat_zero(S:Nat→Prop)(w:World):Rep S w (.agg [.bool false,.raw (.slice none 0 0),.raw (.slice none 0 0)]) (.agg #[.bool false,.slice none 0 0,.slice none 0 0]):=
 .agg (us:=[.bool false,.slice none 0 0,.slice none 0 0]) rfl (.cons (.bool _) (.cons (.raw rfl) (.cons (.raw rfl) .nil)))
theorem wC2.zero{w w':World}{y:Nat×List (List Fr)}{k:Nat}(h:y=(k,[]))(hk:k≠0):wC2 w w' (.returned (.tuple #[.agg #[.bool false,.slice none 0 0,.slice none 0 0],.int .i64 (k:Nat)])) y:=by subst h;refine⟨_,rfl,?_⟩;unfold vRd;rw[if_neg hk];exact mat_zero _ _
theorem wPI{S:Nat→Prop}{w:World}{y:Nat×List (List Fr)}{v:Value}(h:Rep S w (vRd y) v):∃b v1 v2 n1 c1 n2 c2 a1 a2,v=.agg #[.bool b,v1,v2]∧v1=.slice a1 n1 c1∧v2=.slice a2 n2 c2∧(y.1≠0→n1=0∧n2=0):=by
 unfold vRd at h;split at h
 ·rename_i h0;unfold vM at h;cases h with
  | agg _ h=>
   cases h with
   | cons k1 h=>
    cases h with
    | cons k2 h=>
     cases h with
     |cons k3 h=>cases h;cases k1;obtain⟨a1,c1,rfl⟩:=k2.list_shape;obtain⟨a2,c2,rfl⟩:=k3.list_shape;exact⟨_,_,_,_,_,_,_,_,_,rfl,rfl,rfl,fun h=>absurd h0 h⟩
 ·cases h with
  | agg _ h=>
   cases h with
   | cons k1 h=>
    cases h with
    | cons k2 h=>
     cases h with
     |cons k3 h=>cases h;cases k1;cases k2;cases k3;exact⟨_,_,_,_,_,_,_,_,_,rfl,rfl,rfl,fun _=>⟨rfl,rfl⟩⟩
set_option maxRecDepth 100000 in
theorem readP_any(s:ByteArray)(w:World)(hs:s.size≤1048576)(m:Int)(hm:w.cell? ⟨0,0,none⟩=some (.int .i64 m))(hT:Lib.Utf8Tabs 1 2 w) :
  Calls Tryz.prog 4 #[.string s] w fun e w'=>Below w.heap.size w w'∧wC2 w w' e (xK (wD s)):=by
 have hlaw:=read_law (wD s);unfold qD2 at hlaw;have hrm:=fun rows h=>wV0 (L:=wD s) (rows:=rows) h;have hrl:(wD s).length≤1048576:=by have:=y2 s 0;unfold wD;omega
 have hsm:=ses_small hrl;have h20:0<w.heap.size:=World.block_lt_of_cell? w ⟨0,0,none⟩ hm;have hlo:=qC3 hT;have hb0:Below w.heap.size w (w.alloc (.cells #[.bool false,.slice none 0 0,.slice none 0 0] 28)):=(Below.refl _ _).alloc (pC _) _;have q1:=cells_any s (w.alloc (.cells #[.bool false,.slice none 0 0,.slice none 0 0] 28)) hs m ((hb0.cell (p:=⟨0,0,none⟩) h20).trans hm) (Tabs.below hT hb0 hlo);obtain⟨⟨rows,lg,bad⟩,hX⟩:∃X,wGD [] false (wR zH (wD s))=X:=⟨_,rfl⟩
 rw[hX]at hlaw q1;obtain⟨hrow1,hrow2⟩:=hsm rows lg bad hX;obtain⟨Y,hY⟩:∃Y,xK (wD s)=Y:=⟨_,rfl⟩
 rw[hY]at hlaw hrm ⊢;have Q1:=hid q1;have HLAW:=hid hlaw;have HRM:=hid hrm;have HROW:=hid hrow2;clear hX hY hm hT hsm q1 hlaw hrm hrow2
 go_enter Tryz.func4,Tryz.ntmps4
 go_wp2_with fail
 refine Q1.out.mono ?_;clear Q1;rintro e w1 ⟨hb1,r,rfl,hmat⟩;obtain⟨adr,cr,rfl⟩:=hmat.shape;have hg0:wO w1 w.heap.size 28 [.bool false,.slice none 0 0,.slice none 0 0]:=(hb1.block w.heap.size (by simp)).trans (heap_alloc_new w _);have d0:=hg0.cell 0 _ rfl;have d1:=hg0.cell 1 _ rfl;have d2:=hg0.cell 2 _ rfl;have f0:=hg0.frozen 0;have f1:=hg0.frozen 1;have f2:=hg0.frozen 2;have hB:=hb0.trans (hb1.mono hb0.size);have HMAT:=hid hmat;have HB:=hid hB;have HB1:=hid hb1;clear hmat hB hb1 hb0;have set3:∀(w2:World)(a b c:Value),Below w.heap.size w w2→Below w.heap.size w (((w2.setCell ⟨w.heap.size,0,none⟩ a).setCell ⟨w.heap.size,1,none⟩ b).setCell ⟨w.heap.size,2,none⟩ c):=fun w2 a b c h=>((h.setCell (p:=⟨w.heap.size,0,none⟩) (pC _) _).setCell (p:=⟨w.heap.size,1,none⟩) (pC _) _).setCell (p:=⟨w.heap.size,2,none⟩) (pC _) _
 have SET3:=hid set3;clear set3;cases bad with
 |true=>
  have hy:Y=(20,[]):=HLAW.out.symm;have HY:=hid hy;clear HLAW hy
  go_wp2
  refine bodyPost_ret (v:=.tuple #[.agg #[.bool false,.slice none 0 0,.slice none 0 0],.int .i64 20]) (by simp[results,Tryz.results4,go_sem,d0,d1,d2];try rfl) rfl ⟨SET3.out _ _ _ _ HB.out,wC2.zero HY.out (by decide)⟩
 | false =>
  have hsf:=readS_go (rows,lg,false) rfl;rw[HLAW.out]at hsf;dsimp only at hsf;obtain⟨bg0,hbg⟩:∃bg0,(lg||decide (24<rows.length))=bg0:=⟨_,rfl⟩
  rw[hbg]at hsf;obtain⟨G,hG⟩:∃G,wF3 rows.length bg0 rows=G:=⟨_,rfl⟩
  rw[hG]at hsf;have HSF:=hid hsf;have HG:=hid hG;have h3:(lg=true∧bg0=true)∨(lg=false∧((24:Int)<(rows.length:Int))∧bg0=true)∨(lg=false∧¬((24:Int)<(rows.length:Int))∧bg0=false):=by
   cases lg
   ·right;by_cases h:24<rows.length
    ·exact .inl ⟨rfl,by omega,by rw[←hbg];simp[h]⟩
    ·exact .inr ⟨rfl,by omega,by rw[←hbg];simp[h]⟩
   ·exact .inl ⟨rfl,by rw[←hbg];rfl⟩
  have hB0:0<w1.heap.size:=by have:=hg0.lt;omega
  have HG0:=hid hg0;clear HLAW hsf hG hbg d0 d1 d2 f0 f1 f2 hg0;rcases h3 with⟨rfl,rfl⟩|⟨rfl,h24,rfl⟩|⟨rfl,h24,rfl⟩
  all_goals
   go_wp2
   go_loopw [3,7,28] (fun cv bv iv wr=>∃(k:Nat)(bg:Bool),cv=.int .i64 0∧iv=.int .i64 k∧bv=.bool bg∧k≤rows.length∧Below w1.heap.size w1 wr∧wF3 rows.length bg (rows.drop k)=G)
    (fun _ _ iv _=>rows.length-(Go.RowKit.intOf iv).toNat)
   case atStart=>exact⟨0,_,rfl,rfl,rfl,pG _,Below.refl _ _,by first|exact HG.out|(rw[decide_eq_true (by omega)];exact HG.out)|(rw[decide_eq_false (by omega)];exact HG.out)⟩
   case round=>
    obtain⟨wo,hwo⟩:∃wo,wo=wr:=⟨_,rfl⟩
    subst hwo;obtain⟨k,bg,rfl,rfl,rfl,hk,hbel,hgo⟩:=hrel;have HGO:=hid hgo;have HBEL:=hid hbel;have hg1:=HG0.out.later hbel;have d0:=hg1.cell 0 _ rfl;have d1:=hg1.cell 1 _ rfl;have d2:=hg1.cell 2 _ rfl;have f0:=hg1.frozen 0;have f1:=hg1.frozen 1;have f2:=hg1.frozen 2;have hsb:=hbel.size;have HMO:=hid (HMAT.out.later (by simp) hbel);clear hgo hbel hg1;by_cases hkl:k<rows.length
    ·obtain⟨r,hr⟩:∃r,rows[k]? = some r:=⟨_,pK hkl⟩
     obtain⟨hrl,hrf⟩:=HROW.out r (pE hr);have hgo:=HGO.out;rw[drop_at rows k r hr,wF3]at hgo;obtain⟨b,off,cap',cs,hsh,hcap,_,hbh,_,⟨rv,lo,rfl,hlo2,hfr⟩,hcell⟩:=HMO.out.rowOf.at k r hr;simp only[Value.slice.injEq,true_and]at hsh;obtain⟨rfl,rfl⟩:=hsh;obtain⟨ad2,cap2,rfl⟩:=kK.shape hfr;have c0:wo.cell? ⟨b,off+k,none⟩=some (.slice ad2 r.length cap2):=by have:=hcell 0 (by decide);simpa using this
     have HFR:=hid hfr;have F0:(k:Int)<(rows.length:Int):=by omega
     clear hcell hr hfr HGO;by_cases hrn:r.length=rows.length
     ·rw [if_neg (by simp[hrn])]at hgo;have HGO1:=hid hgo;have F1:(((r.length:Nat):Int) != ((rows.length:Nat):Int))=false:=by simp[hrn]
      have HRN:=hid hrn;clear hgo hrn
      go_wp2
      go_loopw [7,40] (fun bv iv w2=>∃(j:Nat)(bg2:Bool),iv=.int .i64 j∧bv=.bool bg2∧j≤r.length∧Below wo.heap.size wo w2∧(bg2||(r.drop j).any fun f=>decide (4096<vG f))=(bg||r.any fun f=>decide (4096<vG f)))
       (fun _ iv _=>r.length-(Go.RowKit.intOf iv).toNat)
      case atStart=>exact⟨0,bg,rfl,rfl,pG _,Below.refl _ _,rfl⟩
      case round=>
       obtain⟨j,bg2,rfl,rfl,hj,hb2,han⟩:=hrel;have HAN:=hid han;have HB2:=hid hb2;have hs2:=hb2.size;clear han;by_cases hjl:j<r.length
       ·obtain⟨f,hf⟩:∃f,r[j]? = some f:=⟨_,pK hjl⟩
        obtain⟨o1,o2⟩:=hrf f (pE hf);have han:=HAN.out;rw[drop_at r j f hf,pA8,←gS]at han;obtain⟨b3,off3,cp3,q,p,hsh3,hcap3,_,hbh3,hq,hp,c0',c1',c2',c3'⟩:=(HFR.out.below hb2 (pC _)).at j f hf;simp only[Value.slice.injEq,true_and]at hsh3;obtain⟨rfl,rfl⟩:=hsh3;obtain⟨adq,cq,rfl⟩:=hq.shape;obtain⟨adp,cp,rfl⟩:=hp.shape;have F2:(j:Int)<(r.length:Int):=by omega
        have hbf:=bits_fr f;have HAN2:=hid han;have hB2:=hb2.alloc hb2.size (.cells #[.bool f.1,.slice adq f.2.1.length cq,.bool f.2.2.1,.slice adp f.2.2.2.length cp] 43);obtain⟨hal,bp,hsz⟩:=boxA wr #[.bool f.1,.slice adq f.2.1.length cq,.bool f.2.2.1,.slice adp f.2.2.2.length cp] 43;have hq2:=hq.below hal hs2;have hp2:=hp.below hal hs2;have hq5:=bits_v (qF f) o1 o2 (fun _=>True) (wr.alloc (.cells #[.bool f.1,.slice adq f.2.1.length cq,.bool f.2.2.1,.slice adp f.2.2.2.length cp] 43)) [.agg #[.bool f.1,.slice adq f.2.1.length cq,.bool f.2.2.1,.slice adp f.2.2.2.length cp]] (.cons (.agg (us:=[.bool f.1,.slice adq f.2.1.length cq,.bool f.2.2.1,.slice adp f.2.2.2.length cp]) rfl (wR6 ⟨_,_,rfl,hq2,hp2⟩ (by rw[hsz];omega) fun _ _ _=>trivial)) .nil);obtain⟨⟨m0,m1,m2,m3⟩,n0,n1,n2,n3⟩:=bp.four;have HBA:=hid hB2;have Q5:=hid hq5
        have HBF:=hid hbf;clear HAN han hb2 hf hB2 hq hp hq2 hp2 hq5 bp hal hsz hbf o1 o2;cases bg2 with
        |true=>
         go_wp2
         go_roundw
         case rel=>exact⟨j+1,true,by go_num,rfl,by omega,HBA.out,by rw[←HAN2.out];simp⟩
         case measure=>simp[Go.RowKit.intOf];omega
        | false=>
         go_wp2_with fail
         refine Q5.out.mono ?_;clear Q5;rintro e w5 ⟨u,y,rfl,rfl,hr5,hb5⟩;cases hr5;have HB5:=hid (HBA.out.trans (hb5.mono HBA.out.size));clear hb5;by_cases h4:4096<wS4 (qF f)
         ·have hd:decide (4096<vG f)=true:=decide_eq_true (HBF.out.1 h4);have F3:(4096:Int)<((wS4 (qF f):Nat):Int):=by omega
          have HAN3:=hid (show(true||(r.drop (j+1)).any fun f=>decide (4096<vG f))=(bg||r.any fun f=>decide (4096<vG f)) by rw[←HAN2.out,hd];simp);clear HAN2 hd HBF h4
          go_wp2
          go_roundw
          case rel=>exact⟨j+1,_,by go_num,rfl,by omega,HB5.out,by first|exact HAN3.out|(rw[decide_eq_true (by omega)];exact HAN3.out)⟩
          case measure=>simp[Go.RowKit.intOf];omega
         ·have hd:decide (4096<vG f)=false:=decide_eq_false fun h=>h4 (HBF.out.2 h);have F3:¬(4096:Int)<((wS4 (qF f):Nat):Int):=by omega
          have HAN3:=hid (show(false||(r.drop (j+1)).any fun f=>decide (4096<vG f))=(bg||r.any fun f=>decide (4096<vG f)) by rw[←HAN2.out,hd];simp);clear HAN2 hd HBF h4
          go_wp2
          go_roundw
          case rel=>exact⟨j+1,_,by go_num,rfl,by omega,HB5.out,by first|exact HAN3.out|(rw[decide_eq_false (by omega)];exact HAN3.out)⟩
          case measure=>simp[Go.RowKit.intOf];omega
       ·obtain rfl:j=r.length:=by omega
        have han:=HAN.out;rw[bA,List.any_nil,Bool.or_false]at han;have hgo:=HGO1.out;rw[←han]at hgo;have HGO2:=hid hgo;clear HAN HGO1 han hgo
        go_wp2
        go_roundw
        case rel=>exact⟨k+1,bg2,rfl,by go_num,rfl,by omega,HBEL.out.trans (HB2.out.mono HBEL.out.size),HGO2.out⟩
        case measure=>simp[Go.RowKit.intOf];omega
     ·rw[if_pos hrn]at hgo;have hsf:=HSF.out;rw[←hgo]at hsf;have HY:=hid (show Y=(3,[])from hsf);have F1:(((r.length:Nat):Int) != ((rows.length:Nat):Int))=true:=by simp;omega
      clear hgo hsf hrn HSF HG HRM
      go_wp2
      refine bodyPost_ret (v:=.tuple #[.agg #[.bool false,.slice none 0 0,.slice none 0 0],.int .i64 3]) (by simp[results,Tryz.results4,go_sem,d0,d1,d2];try rfl) rfl ⟨SET3.out _ _ _ _ (HB.out.trans (HBEL.out.mono HB.out.size)),wC2.zero HY.out (by decide)⟩
    ·obtain rfl:k=rows.length:=by omega
     have hgo:=HGO.out;rw[bA,wF3]at hgo;have hsf:=HSF.out;rw[←hgo]at hsf;cases bg with
     |true=>
      have HY:=hid (show Y=(4,[])from hsf);clear hsf hgo HGO HSF HG HRM
      go_wp2
      refine bodyPost_ret (v:=.tuple #[.agg #[.bool false,.slice none 0 0,.slice none 0 0],.int .i64 4]) (by simp[results,Tryz.results4,go_sem,d0,d1,d2];try rfl) rfl ⟨SET3.out _ _ _ _ (HB.out.trans (HBEL.out.mono HB.out.size)),wC2.zero HY.out (by decide)⟩
     | false=>
      have hy:Y=(0,rows):=hsf;have hM:=HRM.out rows hy;have hrep:=rep_of_mat (S:=fun b=>w.heap.size<b) HMO.out (fun b h1 _=>by simp at h1;omega);have q1:=fromR_v hM (fun b=>w.heap.size<b) wo [_] (.cons hrep .nil);have hwl:w.heap.size<wo.heap.size:=by have:=HG0.out.lt;omega
      have HY:=hid hy;have Q1:=hid q1;have HG2:=hid (HG0.out.later HBEL.out);clear hsf hgo HGO HSF HG HRM hrep q1 hM hy d0 d1 d2 f0 f1 f2
      go_wp2_with fail
      refine Q1.out.mono ?_;clear Q1;rintro e w3 ⟨u,y,rfl,rfl,hr,hb3⟩;cases hr with
      | tup hr=>
       cases hr with
       | cons h1 hr=>
        cases hr with
        |cons h2 hr=>
         cases hr;cases h2;have hv:=h1.mono (S':=fun b=>w.heap.size<b) fun b h _=>h.elim id fun h=>by omega
         have ev:vM (wB4 (qT rows))=vRd Y:=by rw[HY.out];rfl
         rw[ev]at hv;obtain⟨b9,_,_,n1,c1,n2,c2,a1,a2,rfl,rfl,rfl,_⟩:=wPI hv;have hg3:=HG2.out.later hb3;have d0:=hg3.cell 0 _ rfl;have d1:=hg3.cell 1 _ rfl;have d2:=hg3.cell 2 _ rfl;have f0:=hg3.frozen 0;have f1:=hg3.frozen 1;have f2:=hg3.frozen 2;have HV:=hid hv;have HB3:=hid (HB.out.trans ((HBEL.out.trans (hb3.mono HBEL.out.size)).mono HB.out.size));clear hv h1 hb3 hg3
         go_wp2
         refine bodyPost_ret (v:=.tuple #[.agg #[.bool b9,.slice a1 n1 c1,.slice a2 n2 c2],.int .i64 0]) (by simp[results,Tryz.results4,go_sem,d0,d1,d2];try rfl) rfl ⟨SET3.out _ _ _ _ HB3.out,?_⟩;refine⟨_,by rw[HY.out];rfl,Rep.mono (Rep.keep (S':=fun b=>w.heap.size<b) (fun b hb hl=>⟨hb,?_⟩) HV.out) fun b h _=>dK h⟩;rw[Below.heap_setCell _ _ _ _ (by show b≠w.heap.size;omega),Below.heap_setCell _ _ _ _ (by show b≠w.heap.size;omega),Below.heap_setCell _ _ _ _ (by show b≠w.heap.size;omega)]
def wJJ(r:List (List Nat)):List (List V):=((wC5 r).map qF).map kL
theorem qGH(r:List (List Nat)):(wJJ r).length=r.length:=by unfold wJJ;rw[pF,pF,wT3]
theorem rowW_snoc(r:List (List Nat))(u:List Nat):wJJ r++[kL (qF (xS (qK u)))]=wJJ (r++[u]):=by unfold wJJ wC5;simp
def wME(ws:List (List (List Nat))):List (List V):=wB6 (qT (ws.map wC5))
theorem qFJ(ws:List (List (List Nat))):(wME ws).length=ws.length:=by unfold wME qT;rw[wU2,pF,pF]
theorem tabW_snoc(ws:List (List (List Nat)))(r:List (List Nat)):wME ws++[[V.list (wJJ r)]]=wME (ws++[r]):=by unfold wME qT wB6 wJJ vQs;simp
theorem tabW_at(ws:List (List (List Nat)))(j:Nat)(r:List (List Nat))(h:ws[j]? = some r):(wME ws)[j]? = some [V.list (wJJ r)]:=by unfold wME qT wB6 wJJ vQs;rw[pW,pW,pW,h];rfl
def isBad(u:List Nat):Bool:=kD u==20
def isBig(u:List Nat):Bool:=wA2 u||decide (4096<vG (xS (qK u)))
theorem read28_v(s:ByteArray)(hs:s.size≤1048576):wJ Tryz.prog 5 [.str s] (fun y=>y=.tup [vRd (xK (wD s)),.int .i64 ((xK (wD s)).1:Nat)]):=by
 refine wC wL Tryz.func5 rfl rfl rfl rfl fun w0=>?_;have q1:=cells02_v s hs;have hgw:=good_ws s hs;have hrm:=fun rows h=>wV0 (L:=wD s) (rows:=rows) h;unfold xK at hrm ⊢;obtain⟨X,hX⟩:∃X,kZ [] (wR zH (wD s))=X:=⟨_,rfl⟩
 rw[hX]at q1 hgw hrm ⊢;cases X with
 |none=>
  dsimp only[vCells]at q1 ⊢;repeat (first|refine wc q1 ?_|refine wg rfl (xL wL rfl rfl rfl rfl rfl rfl rfl rfl rfl) ?_|refine wl ?_|refine wv ?_|refine wz ?_)
  exact⟨.inl rfl,_,rfl,rfl⟩
 | some ws=>
  obtain⟨g1,g2,g3⟩:=hgw ws rfl;dsimp only[vCells]at q1 hrm ⊢;have hlw:=cV_len ws;obtain⟨bg0,hbg⟩:∃bg0,decide (24<ws.length)=bg0:=⟨_,rfl⟩
  have hcmp:decide (((ws.length:Nat):Int)>24)=bg0:=by rw[←hbg];exact decide_eq_decide.2 (by omega)
  clear hgw hX;repeat (first|refine wc q1 ?_|refine wg rfl (sL hlw) ?_|refine wg rfl (vP rfl rfl rfl rfl hcmp rfl) ?_|refine wl ?_|refine wv ?_|refine wz ?_)
  refine yI (d:=6) (id:=1) (k:=1) (T:=41) rfl rfl rfl rfl ?_;refine qC (fun b:Nat×Bool×Bool=>[(4,some (.sv (.bx 2 0))),(5,some (.bx [.v (.bool false),.nils,.nils])),(12,some (.sv (.own 1 41 1 (wME (ws.take b.1))))),(14,some (.sv (.v (.bool b.2.2)))),(16,some (.sv (.v (.bool b.2.1)))),
   (58,some (.sv (.v (.list (ws.map cV))))),(60,some (.sv (.v (.int .i64 (ws.length:Nat))))),(62,some (.sv (.v (.int .i64 (b.1:Nat)))))])
   (fun b=>b.1≤ws.length∧b.2.1=((ws.take b.1).any fun r=>r.any isBad)∧b.2.2=(bg0||(ws.take b.1).any fun r=>r.any isBig)) (fun b=>ws.length-b.1) (0,false,bg0) (fun _=>rfl) ⟨pG _,rfl,by simp⟩ ⟨rfl,rfl,⟨_,rfl⟩,rfl,rfl,rfl,rfl,rfl,trivial⟩ fun⟨j,bad,big⟩ hI=>?_
  obtain⟨hJ,hbad,hbig⟩:=hI;dsimp only at hJ hbad hbig ⊢;rcases pL j ws.length with hj|hj
  ·obtain⟨r,hr⟩:∃r,ws[j]? = some r:=⟨_,pK hj⟩
   have hg:(ws.map cV)[j]? = some (cV r):=by rw[pW,hr];rfl
   have hrl:=g2 r (pE hr);have hrw:=g3 r (pE hr);have hlr:=wV_len r;clear hrm q1 hcmp;unfold cV at hg;repeat (first|refine wg rfl (sX j hg) ?_|refine wg rfl (sL hlr) ?_|refine wv ?_|refine wg rfl cT ?_|refine wz ?_)
   refine yI (d:=11) (id:=2) (k:=4) (T:=43) rfl rfl rfl rfl ?_;refine qC (fun b:Nat×Bool×Bool=>[(4,some (.sv (.bx 2 0))),(5,some (.bx [.v (.bool false),.nils,.nils])),(12,some (.sv (.own 1 41 1 (wME (ws.take j))))),(14,some (.sv (.v (.bool b.2.2)))),(16,some (.sv (.v (.bool b.2.1)))),
    (58,some (.sv (.v (.list (ws.map cV))))),(60,some (.sv (.v (.int .i64 (ws.length:Nat))))),(62,some (.sv (.v (.int .i64 (j:Nat))))),
    (22,some (.sv (.own 2 43 4 (wJJ (r.take b.1))))),(70,some (.sv (.v (.list (r.map wV))))),(72,some (.sv (.v (.int .i64 (r.length:Nat))))),(74,some (.sv (.v (.int .i64 (b.1:Nat)))))])
    (fun b=>b.1≤r.length∧b.2.1=(bad||(r.take b.1).any isBad)∧b.2.2=(big||(r.take b.1).any isBig)) (fun b=>r.length-b.1) (0,bad,big) (fun _=>rfl) ⟨pG _,by simp,by simp⟩ ⟨rfl,rfl,⟨_,rfl⟩,rfl,rfl,rfl,rfl,rfl,⟨_,rfl⟩,rfl,rfl,rfl,trivial⟩ fun⟨k,bd,bg⟩ hI=>?_
   obtain⟨hK,hbd,hbg2⟩:=hI;dsimp only at hK hbd hbg2 ⊢;rcases pL k r.length with hk|hk
   ·obtain⟨u,hu⟩:∃u,r[k]? = some u:=⟨_,pK hk⟩
    have hg2:(r.map wV)[k]? = some (wV u):=by rw[pW,hu];rfl
    unfold wV at hg2;obtain⟨ul,ur⟩:=hrw u (pE hu);have q2:=frac02_v (txt u) (pD (txt_size u) (by omega));rw[ur]at q2;have hnb:(bd||isBad u)=(bad||(r.take (k+1)).any isBad):=by rw[wQJ r k u hu,gY,←gS,←hbd];simp
    have hng:(bg||isBig u)=(big||(r.take (k+1)).any isBig):=by rw[wQJ r k u hu,gY,←gS,←hbg2];simp
    have hsn:wJJ (r.take k)++[kL (qF (xS (qK u)))]=wJJ (r.take (k+1)):=by rw[rowW_snoc,wQJ r k u hu]
    have hlen:(wJJ (r.take k)).length≤1099513724929:=by rw[qGH,mG];omega
    obtain⟨l1,l2⟩:=qAD u;have hz:=frac_zero u;have hbits:=bits_frac u;have hcc:=wM2 u;unfold isBad at hnb;unfold isBig wA2 at hng;rw[hbits]at hng;unfold kD at hz hcc hnb hng;obtain⟨⟨ng,N,M,ce⟩,hy⟩:∃y,qK u=y:=⟨_,rfl⟩
    rw[hy]at q2 hsn l1 l2 hz hcc hnb hng;dsimp only[qF,xS]at q2 hsn l1 l2 hz hcc hnb hng;have q3:=len01_v (toL N) (qL N) (pD l1 (by omega));have q4:=len01_v (toL M) (qL M) (pD l2 (by omega));rw[wI]at q3 q4;have row4:∀e∈[kL ((ng,toL N),(false,toL M))],e.length=4:=fun e h=>by rw[pP.1 h];rfl
    have hzl:ce≠0→x7 N=0∧x7 M=0:=fun h=>by obtain⟨h1,h2⟩:=hz h;rw[h1,h2];exact⟨rfl,rfl⟩
    clear hy hbits hbd hbg2 hg hrw ur hz l1 l2 hlr;generalize x7 N=a at *
    generalize x7 M=c at *
    have hcase:(ce=0∧bg=false∧4096<a)∨(ce=0∧bg=false∧a≤4096∧4096<c)∨(ce=0∧bg=false∧a≤4096∧c≤4096)∨(ce=0∧bg=true)∨(ce=4∧bg=false)∨(ce=4∧bg=true)∨(ce=20∧bg=false∧a=0∧c=0)∨(ce=20∧bg=true):=by
     rcases hcc with rfl|rfl|rfl
     ·cases bg
      ·rcases pL 4096 a with h|h
       ·exact .inl ⟨rfl,rfl,h⟩
       ·rcases pL 4096 c with h2|h2
        ·exact .inr (.inl ⟨rfl,rfl,h,h2⟩)
        ·exact .inr (.inr (.inl ⟨rfl,rfl,h,h2⟩))
      ·exact .inr (.inr (.inr (.inl ⟨rfl,rfl⟩)))
     ·cases bg
      ·exact .inr (.inr (.inr (.inr (.inl ⟨rfl,rfl⟩))))
      ·exact .inr (.inr (.inr (.inr (.inr (.inl ⟨rfl,rfl⟩)))))
     ·cases bg
      ·exact .inr (.inr (.inr (.inr (.inr (.inr (.inl ⟨rfl,rfl,hzl (by decide)⟩))))))
      ·exact .inr (.inr (.inr (.inr (.inr (.inr (.inr ⟨rfl,rfl⟩))))))
    clear hcc hzl;rcases hcase with⟨rfl,rfl,ha⟩|⟨rfl,rfl,ha,hc⟩|⟨rfl,rfl,ha,hc⟩|⟨rfl,rfl⟩|⟨rfl,rfl⟩|⟨rfl,rfl⟩|⟨rfl,rfl,ha,hc⟩|⟨rfl,rfl⟩
    all_goals
     cases bd;all_goals
      repeat (first|refine wg rfl (sX k hg2) ?_|refine wc q2 ?_|refine wc q3 ?_|refine wc q4 ?_|refine wf rfl rfl (sA 7003 [kL ((ng,toL N),(false,toL M))] 4 64 row4 hsn) ?_|refine wl ?_|refine wv ?_|refine wg rfl cT ?_|refine wg rfl cF ?_|refine wg rfl sB ?_|refine wGE rfl rfl rfl rfl rfl rfl ?_|refine wz ?_)
      exact⟨(k+1,_,_),⟨hk,by refine Eq.trans ?_ hnb;rfl,by refine Eq.trans ?_ hng;first|rfl|(simp;omega)⟩,by dsimp only;omega,rfl,rfl,⟨_,rfl⟩,rfl,rfl,rfl,rfl,rfl,⟨_,rfl⟩,rfl,rfl,rfl,trivial⟩
   ·have hke:k=r.length:=by omega
    subst hke;rw[pZ]at hbd hbg2 ⊢;have hs2:wME (ws.take j)++[[V.list (wJJ r)]]=wME (ws.take (j+1)):=by rw[tabW_snoc,wQJ ws j r hr]
    have hlen:=qFJ (ws.take j);rw[mG]at hlen;have wN1:∀e∈[[V.list (wJJ r)]],e.length=1:=fun e h=>by rw[pP.1 h];rfl
    have hnb:bd=((ws.take (j+1)).any fun r=>r.any isBad):=by rw[hbd,hbad,wQJ ws j r hr,gY];simp
    have hng:bg=(bg0||(ws.take (j+1)).any fun r=>r.any isBig):=by rw[hbg2,hbig,wQJ ws j r hr,gY,gS];simp
    repeat (first|refine wv ?_|refine wf rfl rfl (sA 7002 [[V.list (wJJ r)]] 1 24 wN1 hs2) ?_|refine wg rfl cF ?_|refine wg rfl sB ?_|refine wx ?_|refine wz ?_)
    exact⟨(j+1,bd,bg),⟨hj,hnb,hng⟩,by dsimp only;omega,rfl,rfl,⟨_,rfl⟩,rfl,rfl,rfl,rfl,rfl,trivial⟩
  ·have hje:j=ws.length:=by omega
   subst hje;rw[pZ]at hbad hbig ⊢;have hR:wUJ ws=if bad=true then(20,[])else if(ws.any fun r=>r.length != ws.length)=true then(3,[])else if big=true then(4,[])else(0,ws.map wC5):=by unfold wUJ;rw[hbad,hbig,hbg];rfl
   have htl:=qFJ ws;clear hbad hbig hcmp hbg q1;cases bad with
   |true=>
    rw[hR,if_pos rfl];repeat (first|refine wg rfl (xL wL rfl rfl rfl rfl rfl rfl rfl rfl rfl) ?_|refine wv ?_|refine wg rfl cF ?_|refine wz ?_)
    exact⟨.inl rfl,_,rfl,rfl⟩
   | false=>
    rw[if_neg (by decide)]at hR;refine qFD (wO4 (d:=6) rfl) ?_;repeat (first|refine wg rfl (sL htl) ?_|refine wv ?_|refine wg rfl cF ?_|refine wz ?_)
    refine qC (fun j:Nat=>[(4,some (.sv (.bx 2 0))),(5,some (.bx [.v (.bool false),.nils,.nils])),(12,some (.sv (.v (.list (wME ws))))),(14,some (.sv (.v (.bool big)))),(164,some (.sv (.v (.list (wME ws))))),(166,some (.sv (.v (.int .i64 (ws.length:Nat))))),(168,some (.sv (.v (.int .i64 (j:Nat)))))])
     (fun j=>j≤ws.length∧((ws.take j).any fun r=>r.length != ws.length)=false) (fun j=>ws.length-j) 0 (fun _=>rfl) ⟨pG _,rfl⟩ ⟨rfl,rfl,rfl,rfl,rfl,rfl,rfl,trivial⟩ fun j hI=>?_
    obtain⟨hJ,hany⟩:=hI;rcases pL j ws.length with hj|hj
    ·obtain⟨r,hr⟩:∃r,ws[j]? = some r:=⟨_,pK hj⟩
     have hg:=tabW_at ws j r hr;have hlr:=qGH r;by_cases he:r.length=ws.length
     ·have hany2:((ws.take (j+1)).any fun r=>r.length != ws.length)=false:=by
       rw[wQJ ws j r hr,gY,hany];simp[he]
      clear hR hrm hany;repeat (first|refine wg rfl (sX j hg) ?_|refine wg rfl (sL hlr) ?_|refine wg rfl (sL htl) ?_|refine wv ?_|refine wg rfl cT ?_|refine wg rfl nF ?_|refine wg rfl sB ?_|refine wz ?_)
      exact⟨j+1,⟨hj,hany2⟩,by omega,rfl,rfl,rfl,rfl,rfl,rfl,rfl,trivial⟩
     ·rw[if_pos (dZ.2 ⟨r,pE hr,by simpa using he⟩)]at hR;rw[hR];clear hR hrm hany;repeat (first|refine wg rfl (sX j hg) ?_|refine wg rfl (sL hlr) ?_|refine wg rfl (sL htl) ?_|refine wg rfl (xL wL rfl rfl rfl rfl rfl rfl rfl rfl rfl) ?_|refine wv ?_|refine wg rfl cT ?_|refine wg rfl nT ?_|refine wz ?_)
      exact⟨.inl rfl,_,rfl,rfl⟩
    ·have hje:j=ws.length:=by omega
     subst hje;rw[pZ]at hany;rw[if_neg (by rw[hany];decide)]at hR;cases big with
     |true=>
      rw[hR,if_pos rfl];repeat (first|refine wg rfl (xL wL rfl rfl rfl rfl rfl rfl rfl rfl rfl) ?_|refine wv ?_|refine wg rfl cF ?_|refine wz ?_)
      exact⟨.inl rfl,_,rfl,rfl⟩
     |false=>
      rw[if_neg (by decide)]at hR;have q5:=from11R_v (hrm _ hR);rw[hR];unfold vRd;rw[if_pos rfl];dsimp only;unfold vM at q5 ⊢;generalize wB4 (qT (ws.map wC5))=W at *
      obtain⟨⟨x,l⟩,t⟩:=W;have q5:wJ Tryz.prog 15 [.list (wME ws)] (fun y=>y=.agg [.bool x,vL l,vT t]):=q5;repeat (first|refine wc q5 ?_|refine wv ?_|refine wg rfl cF ?_|refine wz ?_)
      exact⟨.inl rfl,_,rfl,rfl⟩
end Go.Proofs.YtmkgenngokjbiaaGreatDoor
