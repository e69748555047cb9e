/- rat.Height, told of trees. -/
import Derived.Test.YtdcjmnfngabhoaaGreatCc14
import Derived.Test.YtdcjmnfngabhoaaGreatRows
import Derived.Carry
import Derived.Lib.SmallJoins
import Derived.ChangeSlices
import Derived.JoinedCond
import Derived.Deep.Slices
import Derived.Deep.Strs
import Derived.ProofKit
import Derived.OpenShut
set_option linter.all false
set_option maxRecDepth 20000
set_option maxHeartbeats 6400000
namespace Go.Proofs.YtdcjmnfngabhoaaGreat
open Go.RowKit Go.Ev Go.Vl
def qU(q:QQ):List V:=[.bool q.1.1,vL q.1.2,.bool q.2.1,vL q.2.2]
def vQs(qs:List QQ):V:=.list (qs.map qU)
theorem wB1(qs:List QQ):(qs.map qU).length=qs.length:=pH ..
theorem qrow_snoc(qs:List QQ)(q:QQ):qs.map qU++[qU q]=(qs++[q]).map qU:=by simp
theorem wF7(qs:List QQ)(j:Nat)(q:QQ)(h:qs[j]? = some q):(qs.map qU)[j]? = some (qU q):=by rw[pJ,h];rfl
theorem drop_at{α:Type}(qs:List α)(j:Nat)(q:α)(h:qs[j]? = some q):qs.drop j=q::qs.drop (j+1):=by obtain⟨hj,rfl⟩:=pI.1 h;exact bM hj
def htQ(q:QQ):Nat:=max (wHA (wC q.1.2)) (wHA (wC q.2.2))
def htL(qs:List QQ)(n:Nat):Nat:=qs.foldl (fun n q=>max n (htQ q)) n
theorem height1_v(qs:List QQ)(hq:∀q∈qs,okQ q)(hl:qs.length≤1099511627776):wG Tryz.prog 135 [vQs qs] (fun y=>y=.tup [.int .i64 (htL qs 0:Nat),.int .i64 0]):=by
 refine wD wE Tryz.func135 rfl rfl rfl rfl fun w0=>?_;repeat (first|refine wg rfl (sL (wB1 _)) ?_|refine wv ?_|refine wz ?_)
 refine wP (fun b:Nat×Nat=>[jI 8 (b.2),jV 14 (vQs qs),jI 16 (qs.length),jI 18 (b.1)])
  (fun b=>b.1≤qs.length∧htL (qs.drop b.1) b.2=htL qs 0) (fun b=>qs.length-b.1) (0,0) (fun _=>rfl) ⟨pN _,rfl⟩ ⟨rfl,rfl,rfl,rfl,trivial⟩ fun⟨j,m⟩ hI=>?_
 obtain⟨h1,h3⟩:=hI;dsimp only at h1 h3 ⊢;rcases pK j qs.length with hj|hj
 ·obtain⟨q,hqe⟩:=gE hj;have hqo:=hq q (pF hqe);have hg:=wF7 qs j q hqe;rw[drop_at qs j q hqe]at h3;obtain⟨⟨x,l⟩,⟨y,k⟩⟩:=q;have q1:=wT8 l hqo.1.1 (pD hqo.1.2 (by decide));have q2:=wT8 k hqo.2.1 (pD hqo.2.2 (by decide));repeat (first|refine wv ?_|refine wg rfl (sX j hg) ?_|refine wc q1 ?_|refine wc q2 ?_|refine wg rfl (sem_max3 rfl rfl rfl rfl rfl rfl rfl) ?_|refine wg rfl cT ?_|refine wg rfl sB ?_|refine wz ?_)
  exact⟨(j+1,max m (htQ ((x,l),(y,k)))),⟨hj,h3⟩,by dsimp only;omega,rfl,rfl,rfl,rfl,trivial⟩
 ·rw[mA hj]at h3;repeat (first|refine wv ?_|refine wg rfl cF ?_|refine wz ?_)
  refine⟨.inl rfl,_,rfl,?_⟩;rw[←h3];exact rfl
theorem madeInt_v(qs:List QQ)(hq:∀q∈qs,okQ q∧intOf q.2≠0)(hl:qs.length≤1099511627776)(hn:∀q∈qs,okQ (qn (wX q))):wG Tryz.prog 134 [.clo 135 [] [],vQs qs] (fun y=>y=.tup [.int .i64 (htL (qs.map fun q=>qn (wX q)) 0:Nat),.int .i64 0]):=by
 refine wD wE Tryz.func134 rfl rfl rfl rfl fun w0=>?_;repeat (first|refine wg rfl (sL (wB1 _)) ?_|refine wv ?_|refine wg rfl (sM 7000 0 qs.length 4 64 (es':=[]) rfl) ?_|refine wz ?_)
 refine wP (fun b:Nat×List QQ=>[jV 0 (.clo 135 [] []),jV 12 (.int .i64 0),jO 14 1 79 4 (b.2.map qU),jV 30 (vQs qs),jI 32 (qs.length),jI 34 (b.1)])
  (fun b=>b.1≤qs.length∧b.2=(qs.take b.1).map fun q=>qn (wX q)) (fun b=>qs.length-b.1) (0,[]) (fun _=>rfl) ⟨pN _,rfl⟩ ⟨rfl,rfl,⟨_,rfl⟩,rfl,rfl,rfl,trivial⟩ fun⟨j,out⟩ hI=>?_
 obtain⟨h1,h3⟩:=hI;dsimp only at h1 h3 ⊢;have hol:(out.map qU).length=out.length:=wB1 _;have hol2:out.length=j:=by rw[h3];simp;omega
 rcases pK j qs.length with hj|hj
 ·obtain⟨q,hqe⟩:=gE hj;have hqo:=hq q (pF hqe);have hg:=wF7 qs j q hqe;have q1:=ratNorm_v q hqo.1 hqo.2;have hs:=qrow_snoc out (qn (wX q));have hnew:out++[qn (wX q)]=(qs.take (j+1)).map fun q=>qn (wX q):=by
   rw[h3,cI,hqe];simp
  unfold nR at q1;generalize qn (wX q)=p at *
  obtain⟨⟨x,l⟩,⟨y,k⟩⟩:=q;obtain⟨⟨x',l'⟩,⟨y',k'⟩⟩:=p;have row4:∀e∈[qU ((x',l'),(y',k'))],e.length=4:=fun e h=>by rw[pP.1 h];rfl
  repeat (first|refine wv ?_|refine wg rfl (sX j hg) ?_|refine wc q1 ?_|refine wf rfl rfl (sA 7001 [qU ((x',l'),(y',k'))] 4 64 row4 hs) ?_|refine wg rfl cT ?_|refine wg rfl nF ?_|refine wg rfl sB ?_|refine wz ?_)
  exact⟨(j+1,out++[((x',l'),(y',k'))]),⟨hj,hnew⟩,by dsimp only;omega,rfl,rfl,⟨_,rfl⟩,rfl,rfl,rfl,trivial⟩
 ·have hje:j=qs.length:=by omega
  subst hje;rw[mZ]at h3;have q1:=height1_v out (fun p hp=>by rw[h3]at hp;obtain⟨q,hq1,rfl⟩:=pO.1 hp;exact hn q hq1) (by omega)
  repeat (first|refine wv ?_|refine wg rfl cF ?_|refine wh q1 ?_|refine wz ?_)
  refine⟨.inl rfl,_,rfl,?_⟩;rw[←h3]
theorem qDJ(qs:List QQ)(hq:∀q∈qs,okQ q∧intOf q.2≠0)(hl:qs.length≤1099511627776)(hn:∀q∈qs,okQ (qn (wX q))):wG Tryz.prog 83 [vQs qs] (fun y=>y=.tup [.int .i64 (htL (qs.map fun q=>qn (wX q)) 0:Nat),.int .i64 0]):=by
 refine wD wE Tryz.func83 rfl rfl rfl rfl fun w0=>?_;have q1:=madeInt_v qs hq hl hn;repeat (first|refine wv ?_|refine wc q1 ?_|refine wz ?_)
 exact⟨.inl rfl,_,rfl,rfl⟩
theorem rheight_v(qs:List QQ)(hq:∀q∈qs,okQ q∧intOf q.2≠0)(hl:qs.length≤1099511627776)(hn:∀q∈qs,okQ (qn (wX q))):wG Tryz.prog 57 [vQs qs] (fun y=>y=.int .i64 (htL (qs.map fun q=>qn (wX q)) 0:Nat)):=by
 refine wD wE Tryz.func57 rfl rfl rfl rfl fun w0=>?_;repeat (first|refine wg rfl (sL (wB1 _)) ?_|refine wv ?_|refine wz ?_)
 refine wP (fun b:Nat×Nat=>[jI 6 (b.2),jV 16 (vQs qs),jI 18 (qs.length),jI 20 (b.1)])
  (fun b=>b.1≤qs.length∧htL ((qs.drop b.1).map fun q=>qn (wX q)) b.2=htL (qs.map fun q=>qn (wX q)) 0) (fun b=>qs.length-b.1) (0,0) (fun _=>rfl) ⟨pN _,rfl⟩ ⟨rfl,rfl,rfl,rfl,trivial⟩ fun⟨j,m⟩ hI=>?_
 obtain⟨h1,h3⟩:=hI;dsimp only at h1 h3 ⊢;rcases pK j qs.length with hj|hj
 ·obtain⟨q,hqe⟩:=gE hj;have hqo:=hq q (pF hqe);have hpo:=hn q (pF hqe);have hg:=wF7 qs j q hqe;rw[drop_at qs j q hqe]at h3;have q1:=wX4 q hqo.1 hqo.2;unfold nR at q1;simp only[List.map_cons]at h3;generalize qn (wX q)=p at *
  obtain⟨⟨x,l⟩,⟨y,k⟩⟩:=q;obtain⟨⟨x',l'⟩,⟨y',k'⟩⟩:=p;have q2:=len01_v l' hpo.1.1 (pD hpo.1.2 (by decide));have q3:=len01_v k' hpo.2.1 (pD hpo.2.2 (by decide));have h4:htL ((qs.drop (j+1)).map fun q=>qn (wX q)) (max m (max (wHA (wC l')) (wHA (wC k'))))=htL (qs.map fun q=>qn (wX q)) 0:=h3;generalize wHA (wC l')=u at *
  generalize wHA (wC k')=v at *
  repeat (first|refine wv ?_|refine wg rfl (sX j hg) ?_|refine wc q1 ?_|refine wc q2 ?_|refine wc q3 ?_|refine wg rfl cT ?_|refine wz ?_)
  refine wP (fun b:Nat×Nat=>[jI 6 (b.2),jV 16 (vQs qs),jI 18 (qs.length),jI 20 j,jV 48 (.agg [.int .i64 (u:Nat),.int .i64 (v:Nat)]),jI 50 (b.1)])
   (fun b=>(b.1=0∧b.2=m)∨(b.1=1∧b.2=max m u)∨(b.1=2∧b.2=max m (max u v))) (fun b=>2-b.1) (0,m) (fun _=>rfl) (.inl ⟨rfl,rfl⟩) ⟨rfl,rfl,rfl,rfl,rfl,rfl,trivial⟩ fun⟨i,h⟩ hI=>?_
  dsimp only at hI ⊢;rcases hI with⟨rfl,rfl⟩|⟨rfl,rfl⟩|⟨rfl,rfl⟩
  ·by_cases hc:h<u
   ·repeat (first|refine wv ?_|refine wg rfl cT ?_|refine wg rfl sB ?_|refine wg rfl (wIC (i:=0) (len:=2) (v:=.int .i64 (u:Nat)) wE rfl rfl rfl rfl rfl (by decide) rfl rfl) ?_|refine wz ?_)
    exact⟨(1,u),.inr (.inl ⟨rfl,by dsimp only;omega⟩),by dsimp only;omega,rfl,rfl,rfl,rfl,rfl,rfl,trivial⟩
   ·repeat (first|refine wv ?_|refine wg rfl cT ?_|refine wg rfl cF ?_|refine wg rfl sB ?_|refine wg rfl (wIC (i:=0) (len:=2) (v:=.int .i64 (u:Nat)) wE rfl rfl rfl rfl rfl (by decide) rfl rfl) ?_|refine wz ?_)
    exact⟨(1,h),.inr (.inl ⟨rfl,by dsimp only;omega⟩),by dsimp only;omega,rfl,rfl,rfl,rfl,rfl,rfl,trivial⟩
  ·by_cases hc:max m u<v
   ·repeat (first|refine wv ?_|refine wg rfl cT ?_|refine wg rfl sB ?_|refine wg rfl (wIC (i:=1) (len:=2) (v:=.int .i64 (v:Nat)) wE rfl rfl rfl rfl rfl (by decide) rfl rfl) ?_|refine wz ?_)
    exact⟨(2,v),.inr (.inr ⟨rfl,by dsimp only;omega⟩),by dsimp only;omega,rfl,rfl,rfl,rfl,rfl,rfl,trivial⟩
   ·repeat (first|refine wv ?_|refine wg rfl cT ?_|refine wg rfl cF ?_|refine wg rfl sB ?_|refine wg rfl (wIC (i:=1) (len:=2) (v:=.int .i64 (v:Nat)) wE rfl rfl rfl rfl rfl (by decide) rfl rfl) ?_|refine wz ?_)
    exact⟨(2,max m u),.inr (.inr ⟨rfl,by dsimp only;omega⟩),by dsimp only;omega,rfl,rfl,rfl,rfl,rfl,rfl,trivial⟩
  ·repeat (first|refine wv ?_|refine wg rfl cF ?_|refine wg rfl sB ?_|refine wz ?_)
   exact⟨(j+1,max m (max u v)),⟨hj,h4⟩,by dsimp only;omega,rfl,rfl,rfl,rfl,trivial⟩
 ·rw[mA hj]at h3;repeat (first|refine wv ?_|refine wg rfl cF ?_|refine wz ?_)
  refine⟨.inl rfl,_,rfl,?_⟩;rw[←h3];exact rfl
def vT(num:List (List ZZ)):V:=.list (num.map fun r=>[vZs r])
theorem wAE(num:List (List ZZ)):(num.map fun r=>[vZs r]).length=num.length:=pH ..
theorem vT_at(num:List (List ZZ))(j:Nat)(r:List ZZ)(h:num[j]? = some r):(num.map fun r=>[vZs r])[j]? = some [vZs r]:=by rw[pJ,h];rfl
def wHE(num:List (List ZZ)):Bool:=num.all fun r=>decide (r.length=(num.headD []).length)
theorem even_v(num:List (List ZZ))(hl:num.length≤1099511627776):wG Tryz.prog 131 [vT num] (fun y=>y=.bool (wHE num)):=by
 refine wD wE Tryz.func131 rfl rfl rfl rfl fun w0=>?_;repeat (first|refine wg rfl (sL (wAE _)) ?_|refine wv ?_|refine wz ?_)
 refine wP (fun j:Nat=>[jV 0 (vT num),jV 10 (vT num),jI 12 (num.length),jI 14 j])
  (fun j=>j≤num.length∧((num.drop j).all fun r=>decide (r.length=(num.headD []).length))=wHE num) (fun j=>num.length-j) 0 (fun _=>rfl) ⟨pN _,rfl⟩ ⟨rfl,rfl,rfl,rfl,trivial⟩ fun j hI=>?_
 obtain⟨h1,h3⟩:=hI;rcases pK j num.length with hj|hj
 ·obtain⟨r,hr⟩:=gE hj;obtain⟨r0,hr0⟩:=gE (l:=num) (i:=0) (by omega);have hh:num.headD []=r0:=by cases num with
   |nil=>simp at hj
   |cons a l=>simpa using hr0
  have hg:=vT_at num j r hr;have hg0:=vT_at num 0 r0 hr0;rw[drop_at num j r hr,hh]at h3;simp only[List.all_cons]at h3;by_cases he:r.length=r0.length
  ·rw[decide_eq_true he,pA3]at h3;repeat (first|refine wg rfl (sL (kW r)) ?_|refine wg rfl (sL (kW r0)) ?_|refine wv ?_|refine wg rfl (sX j hg) ?_|refine wg rfl (sX 0 hg0) ?_|refine wg rfl cT ?_|refine wg rfl nF ?_|refine wg rfl sB ?_|refine wz ?_)
   exact⟨j+1,⟨hj,by rw[hh];exact h3⟩,by omega,rfl,rfl,rfl,rfl,trivial⟩
  ·rw[decide_eq_false he,Bool.false_and]at h3;repeat (first|refine wg rfl (sL (kW r)) ?_|refine wg rfl (sL (kW r0)) ?_|refine wv ?_|refine wg rfl (sX j hg) ?_|refine wg rfl (sX 0 hg0) ?_|refine wg rfl cT ?_|refine wg rfl nT ?_|refine wz ?_)
   refine⟨.inl rfl,_,rfl,?_⟩;rw[←h3]
 ·rw[mA hj]at h3;repeat (first|refine wv ?_|refine wg rfl cF ?_|refine wz ?_)
  refine⟨.inl rfl,_,rfl,?_⟩;rw[←h3];exact rfl
abbrev MM:=ZZ×List (List ZZ)
def vM(m:MM):V:=.agg [.bool m.1.1,vL m.1.2,vT m.2]
def chk(m:MM):Int:=if intOf m.1=0 then 6 else if wHE m.2=true then 0 else 2
theorem wSJ(m:MM)(hd:okZ m.1)(hl:m.2.length≤1099511627776):wG Tryz.prog 80 [vM m] (fun y=>y=.int .i64 (chk m)):=by
 refine wD wE Tryz.func80 rfl rfl rfl rfl fun w0=>?_;have q1:=wEA m.1 hd;have q2:=even_v m.2 hl;have fin:∀{u v:Int},u=v→V.int .i64 u=V.int .i64 v:=fun h=>by rw[h]
 have hs:=wAI (intOf m.1);unfold chk;obtain⟨⟨x,l⟩,t⟩:=m;dsimp only at *
 generalize intOf (x,l)=d at *
 generalize sgn d=sd at *
 by_cases h0:d=0
 ·repeat (first|refine wv ?_|refine wg rfl cT ?_|refine wc q1 ?_|refine wz ?_)
  refine⟨.inl rfl,_,rfl,fin ?_⟩;rw[if_pos h0]
 ·rw[if_neg h0];generalize wHE t=e at *
  cases e
  ·repeat (first|refine wv ?_|refine wg rfl cF ?_|refine wc q1 ?_|refine wc q2 ?_|refine wz ?_)
   exact⟨.inl rfl,_,rfl,rfl⟩
  ·repeat (first|refine wv ?_|refine wg rfl cF ?_|refine wc q1 ?_|refine wc q2 ?_|refine wz ?_)
   exact⟨.inl rfl,_,rfl,rfl⟩
open Go.ChangeShapes Go.WideShapes Go.ChangeAt Go.Deep
theorem own_knob:ownKnob Tryz.prog.godebug=none:=by kernel_rfl
theorem laidOut:laidOutB Tryz.prog=true:=by kernel_rfl
theorem stays{H:Type}{enc:TypeId×Value→H}{t:TypeId}(hr:Tryz.prog.readableRec t=true)(hrow:t<Tryz.prog.types.size){W W':World}{v:Value}{d:DataW H}{ps:List MemPlace}(h:DataW.Trod enc Tryz.prog W 0 (fun _=>true) true t v d ps)(hb:Below W.heap.size W W')(hlt:∀x∈ps,x.block<W.heap.size) :
  DataW.Trod enc Tryz.prog W' 0 (fun b=>decide (b<W.heap.size)) true t v d ps:=
 Below.trod laidOut hr hrow h hb hlt
theorem post_stays{H:Type}{enc:TypeId×Value→H}{P:Program}{f:Func}{s:ChangeSpec}{apart fresh handsOn:Bool}{W W':World}{args:Array Value}{v:Value}{ds gs:List (DataW H)}{before pa pv:List MemPlace}(hW:DataW.Whole enc P f.params.toList s.vars apart W args.toList ds gs before)(hB:Below W.heap.size W W')(hres:∀(b:Nat)(sp:Nat→Bool)(hd:Bool),DataW.TrodAll enc P W' b sp hd f.resultTypes.toList (v.resultList f.resultTypes.size) (s.fn H (ds++gs)).results [])(hargs:DataW.TrodAll enc P W' 0 (fun b=>decide (b<W.heap.size)) true f.params.toList args.toList (s.fn H (ds++gs)).args pa)(hvars:DataW.TrodVars enc P W' (fun b=>decide (b<W.heap.size)) s.vars (s.fn H (ds++gs)).vars pv) :
  s.post enc P f apart fresh handsOn false W args v W':=by
 have hold:∀p,p∈before→(fun b=>decide (b<W.heap.size)) p.block=true:=by intro p hp;have:=hW.lt p hp;simpa using this
 refine⟨ds,gs,before,[],pa,pv,hW,hres _ _ _,hargs,hvars,hB.frame _,fun h=>?_⟩;cases h
theorem range_bulk{H:Type}{α:Type}(f:α→Nat)(V:Nat→α)(D:Nat→DataW H)(L:List Nat)(h:∀i,i∈L→f (V i)≤Rows.uptoBulk (D i)):((L.map V).map f).sum≤Rows.uptoBulkAll (L.map D):=by
 induction L with
 |nil=>simp
 |cons y l ih=>have h1:=h y (pT ..);have h2:=ih fun i hi=>h i (pZ _ hi);simp only[List.map_cons,List.sum_cons,Rows.uptoBulkAll];omega
theorem addr_none{W:World}{a:Addr}{v:Value}(h:W.cell? a=some v):a.spot=none:=by
 obtain⟨b,off,sp⟩:=a;unfold World.cell? at h;split at h
 ·cases sp with
  |none=>rfl
  |some _=>simp at h
 ·cases h
theorem flat_cell{k:Nat}(hk:0<k){vs:List (List Value)}(hv:∀c∈vs,c.length=k){j:Nat}{u:Value}(h:vs.flatten[j]? = some u):∃c,vs[j/k]? = some c∧c[j%k]? = some u:=by
 have hj:j<vs.length*k:=by rw[←wE3 hv];exact(pI.1 h).1
 have hd:j/k<vs.length:=(gU hk).2 hj;refine⟨vs[j/k],pG hd,?_⟩;have e:=wE2 hv (j/k) _ (pG hd);rw[←e,mQ,if_pos (dI _ hk),cW]
 have:j/k*k+j%k=j:=by rw[mL];exact cU j k
 rw[this];exact h
section
variable{H:Type}{enc:TypeId×Value→H}{W:World}{held:Bool}
theorem wGJ{t e:TypeId}{k fuel:Nat}{α:Type}[Inhabited α]{v:Value}{x:DataW H×List MemPlace}(f:α→List V)(bk:α→Nat)(ok:α→Prop)(ht:Tryz.prog.underlying t=some (.slice e))(hk:Tryz.prog.cellsOf e=k)(hk0:0<k)(hf:∀x,(f x).length=k∧wW (f x)=true)(hel:∀{n:Nat}{cs:List Value}{y:DataW H×List MemPlace},cs.length=k→DataW.trod enc Tryz.prog W 0 (fun _=>true) held n e cs=some y→∃x,ok x∧RepL (fun _=>True) W (f x) cs∧bk x≤Rows.uptoBulk y.1)(h:DataW.trod enc Tryz.prog W 0 (fun _=>true) held fuel t [v]=some x):∃l:List α,(∀x∈l,ok x)∧Rep (fun _=>True) W (.list (l.map f)) v∧(l.map bk).sum+1≤Rows.uptoBulk x.1:=by
 rcases open_slice ht h with⟨h1,rfl⟩|⟨a,len,cap,m,n,D,Pl,h1,_,hlc,_,hm,rfl,hx⟩
 ·obtain rfl:v=.slice none 0 0:=by simpa using h1
  exact⟨[],by simp,.nils,by simp[Rows.uptoBulk]⟩
 ·obtain rfl:v=.slice (some a) len cap:=by simpa using h1
  rw[if_pos rfl]at hm;subst hm;rw[hk]at hx;obtain⟨V,hV⟩:=choose_lt (n:=len) (α:=α×List Value) (p:=fun i q=>W.cells? 0 (a.add (i*k)) k=some q.2∧q.2.length=k∧ok q.1∧RepL (fun _=>True) W (f q.1) q.2∧bk q.1≤Rows.uptoBulk (D i)) (fun i hi=>by obtain⟨cs',g1,g2⟩:=hx i (by omega);obtain⟨_,hlen,_⟩:=World.cells?_some g1;obtain⟨q,k1,k2,k3⟩:=hel hlen g2;exact⟨(q,cs'),g1,hlen,k1,k2,k3⟩)
  refine⟨(List.range len).map fun i=>(V i).1,fun y hy=>?_,?_,?_⟩
  ·obtain⟨i,hi,rfl⟩:=pO.1 hy;exact(hV i (dK.1 hi)).2.2.1
  ·rcases mO len with h0|hpos
   ·subst h0;exact .emp a m
   ·have hsub:a.spot=none:=by
     obtain⟨g1,g2,_⟩:=hV 0 hpos;obtain⟨_,_,g3⟩:=World.cells?_some g1;have g4:=g3 0 hk0;rw[pB4]at g4;exact addr_none (a:=a) (g4.trans (pG (by omega)))
    obtain⟨b,off,sp⟩:=a;obtain rfl:sp=none:=hsub;have hes:(((List.range len).map fun i=>(V i).1).map f).length=len:=by simp
    have hvs:∀c∈(List.range len).map fun i=>(V i).2,c.length=k:=fun c hc=>by obtain⟨i,hi,rfl⟩:=pO.1 hc;exact(hV i (dK.1 hi)).2.1
    have hfl:RepL (fun _=>True) W (((List.range len).map fun i=>(V i).1).map f).flatten ((List.range len).map fun i=>(V i).2).flatten:=RepL.flat (by simp) fun i e u he hu=>by
     rw[pJ,pJ]at he;rw[pJ]at hu;cases hr:(List.range len)[i]? with
     |none=>rw[hr]at hu;cases hu
     |some q=>
      rw[hr]at he hu;cases he;cases hu;have hq:=(pI.1 hr)
      obtain⟨hq1,hq2⟩:=hq;rw[List.getElem_range]at hq2;subst hq2;exact(hV i (by simpa using hq1)).2.2.2.1
    have:=Rep.list (S:=fun _=>True) (w:=W) (k:=k) (es:=((List.range len).map fun i=>(V i).1).map f) (us:=((List.range len).map fun i=>(V i).2).flatten) (b:=b) (off:=off) (cap:=m)
     (fun e he=>by obtain⟨y,_,rfl⟩:=pO.1 he;exact(hf y).1) (fun e he=>by obtain⟨y,_,rfl⟩:=pO.1 he;exact(hf y).2) (by rw[hes];exact hlc) hfl (fun _=>⟨trivial,by
      obtain⟨g1,g2,_⟩:=hV 0 hpos;obtain⟨_,_,g3⟩:=World.cells?_some g1;have g4:=g3 0 hk0;rw[pB4]at g4;exact World.block_lt_of_cell? W ⟨b,off,none⟩ (g4.trans (pG (by omega)))⟩) (fun j u hj=>by
      obtain⟨c,c1,c2⟩:=flat_cell hk0 hvs hj;rw[pJ]at c1;cases hr:(List.range len)[j/k]? with
      |none=>rw[hr]at c1;cases c1
      | some q=>
       rw[hr]at c1;cases c1;obtain⟨hq1,hq2⟩:=(pI.1 hr)
       rw[List.getElem_range]at hq2;subst hq2;obtain⟨g1,g2,_⟩:=hV (j/k) (by simpa using hq1);obtain⟨_,_,g3⟩:=World.cells?_some g1;have g4:=g3 (j%k) (dI _ hk0);rw[c2]at g4;have e:off+j/k*k+j%k=off+j:=by have:=cU j k;rw[mL]at this;omega
       rw[Addr.add_lit,Addr.add_lit,e]at g4;exact g4)
    rwa [hes]at this
  ·have:=range_bulk (fun q:α×List Value=>bk q.1) V D (List.range len) (fun i hi=>(hV i (by simpa using hi)).2.2.2.2);rw[mU]at this ⊢;simp only[Rows.uptoBulk];have e:(List.map (bk∘fun i=>(V i).fst) (List.range len))=List.map ((fun q:α×List Value=>bk q.1)∘V) (List.range len):=rfl;rw[e];omega
theorem u32_wf(n:Int)(h:(Lit.int .u32 n).wf=true):0≤n∧n<4294967296:=by
 have:0≤n∧n≤4294967295:=by simpa[Lit.wf,IntKind.min,IntKind.max,IntKind.signed,IntKind.bits]using h
 omega
theorem cells_bool:Tryz.prog.cellsOf 4=1:=by kernel_rfl
theorem cells_nat:Tryz.prog.cellsOf 23=1:=by kernel_rfl
theorem cells_u32:Tryz.prog.cellsOf 130=1:=by kernel_rfl
theorem wY8:Tryz.prog.cellsOf 25=2:=by kernel_rfl
theorem cells_ints:Tryz.prog.cellsOf 59=1:=by kernel_rfl
theorem qG6:Tryz.prog.cellsOf 26=1:=by kernel_rfl
theorem cells_mat:Tryz.prog.cellsOf 28=3:=by kernel_rfl
theorem one_val{cs:List Value}(h:cs.length=1):∃v,cs=[v]:=by
 match cs,h with
 |[v],_=>exact⟨v,rfl⟩
theorem two_val{cs:List Value}(h:cs.length=2):∃u v,cs=[u,v]:=by
 match cs,h with
 |[u,v],_=>exact⟨u,v,rfl⟩
theorem three_val{cs:List Value}(h:cs.length=3):∃u v x,cs=[u,v,x]:=by
 match cs,h with
 |[u,v,x],_=>exact⟨u,v,x,rfl⟩
theorem sum_const{α:Type}(l:List α):(l.map fun _=>1).sum=l.length:=by
 induction l with
 |nil=>rfl
 |cons a l ih=>simp only[List.map_cons,List.sum_cons,ih,List.length_cons];omega
theorem qE3{fuel:Nat}{v:Value}{x:DataW H×List MemPlace}(h:DataW.trod enc Tryz.prog W 0 (fun _=>true) held fuel 23 [v]=some x) :
  ∃l,okL l∧Rep (fun _=>True) W (vL l) v∧l.length+1≤Rows.uptoBulk x.1:=by
 obtain⟨l,h1,h2,h3⟩:=wGJ (k:=1) (fun n:Nat=>[V.int .u32 (n:Nat)]) (fun _=>1) (fun n=>n<4294967296) Tryz.underlying23 cells_u32 (by decide) (fun _=>⟨rfl,rfl⟩) (fun {n cs y} hl hy=>by
  obtain⟨v,rfl⟩:=one_val hl;obtain⟨z,e1,rfl,e3⟩:=DataW.trod_int Tryz.underlying130 hy;obtain rfl:v=.int .u32 z:=by simpa using e1
  obtain⟨w1,w2⟩:=u32_wf z e3;obtain⟨q,rfl⟩:=Int.eq_ofNat_of_zero_le w1;exact⟨q,by omega,.cons (.int _ _) .nil,by simp[Rows.uptoBulk]⟩) h
 refine⟨l,h1,h2,?_⟩
 rwa [sum_const]at h3
def bkZ(z:ZZ):Nat:=z.2.length+1
theorem wX6{fuel:Nat}{cs:List Value}(hl:cs.length=2){x:DataW H×List MemPlace}(h:DataW.trod enc Tryz.prog W 0 (fun _=>true) held fuel 25 cs=some x) :
  ∃z:ZZ,okL z.2∧RepL (fun _=>True) W (qL z) cs∧bkZ z≤Rows.uptoBulk x.1:=by
 obtain⟨c0,c1,rfl⟩:=two_val hl;obtain⟨y0,y1,n,rfl,_,h0,h1⟩:=trod_struct2 Tryz.underlying25 h;simp only[cells_bool,cells_nat,List.drop_zero,List.take_succ_cons,List.take_zero,List.drop_succ_cons]at h0 h1;obtain⟨neg,e0,rfl⟩:=DataW.trod_bool Tryz.underlying4 h0;obtain rfl:c0=.bool neg:=by simpa using e0
 obtain⟨xs,hx,hr,hl⟩:=qE3 h1;refine⟨(neg,xs),hx,.cons (.bool _) (.cons hr .nil),?_⟩;simp only[Rows.uptoBulk,Rows.uptoBulkAll,bkZ];omega
def bkR(r:List ZZ):Nat:=(r.map bkZ).sum+1
theorem open_vints{fuel:Nat}{v:Value}{x:DataW H×List MemPlace}(h:DataW.trod enc Tryz.prog W 0 (fun _=>true) held fuel 59 [v]=some x) :
  ∃l:List ZZ,(∀z∈l,okL z.2)∧Rep (fun _=>True) W (.list (l.map qL)) v∧bkR l≤Rows.uptoBulk x.1:=
 wGJ (k:=2) qL bkZ (fun z=>okL z.2) Tryz.underlying59 wY8 (by decide) (fun _=>⟨rfl,rfl⟩) (fun hl hy=>wX6 hl hy) h
theorem qE2{fuel:Nat}{v:Value}{x:DataW H×List MemPlace}(h:DataW.trod enc Tryz.prog W 0 (fun _=>true) held fuel 26 [v]=some x) :
  ∃t:List (List ZZ),(∀r∈t,∀z∈r,okL z.2)∧Rep (fun _=>True) W (tV t) v∧(t.map bkR).sum+1≤Rows.uptoBulk x.1:=
 wGJ (k:=1) (fun r:List ZZ=>[V.list (r.map qL)]) bkR (fun r=>∀z∈r,okL z.2) Tryz.underlying26 cells_ints (by decide) (fun _=>⟨rfl,rfl⟩) (fun {n cs y} hl hy=>by obtain⟨v,rfl⟩:=one_val hl;obtain⟨l,h1,h2,h3⟩:=open_vints hy;exact⟨l,h1,.cons h2 .nil,h3⟩) h
def bkM(m:MM):Nat:=bkZ m.1+((m.2.map bkR).sum+1)
def limM(m:MM):Prop:=okL m.1.2∧∀r∈m.2,∀z∈r,okL z.2
theorem open_vmat{fuel:Nat}{cs:List Value}(hl:cs.length=3){x:DataW H×List MemPlace}(h:DataW.trod enc Tryz.prog W 0 (fun _=>true) held fuel 28 cs=some x) :
  ∃m:MM,limM m∧RepL (fun _=>True) W (vM m).cells cs∧bkM m≤Rows.uptoBulk x.1:=by
 obtain⟨c0,c1,c2,rfl⟩:=three_val hl;obtain⟨y0,y1,n,rfl,_,h0,h1⟩:=trod_struct2 Tryz.underlying28 h;simp only[wY8,qG6,List.drop_zero,List.take_succ_cons,List.take_zero,List.drop_succ_cons]at h0 h1;obtain⟨z,hz,hr,hl⟩:=wX6 rfl h0;obtain⟨t,ht,hrt,hlt⟩:=qE2 h1;refine⟨(z,t),⟨hz,ht⟩,?_,?_⟩
 ·cases hr with
  | cons r0 hr=>
   cases hr with
   |cons r1 hr=>cases hr;exact .cons r0 (.cons r1 (.cons hrt .nil))
 ·simp only[Rows.uptoBulk,Rows.uptoBulkAll,bkM];omega
set_option maxRecDepth 100000 in
theorem wMG{r:Reach}{b0:Nat}{v:Value}{d:DataW H}{p:List MemPlace}(hv:Value.okWide Tryz.prog W r b0 28 v)(h:DataW.Trod enc Tryz.prog W 0 (fun _=>true) held 28 v d p) :
  ∃m:MM,limM m∧Rep (fun _=>True) W (vM m) v∧bkM m≤Rows.uptoBulk d:=by
 obtain⟨cs,rfl,hsz⟩:=okWide_struct Tryz.underlying28 hv;obtain⟨fuel,hf⟩:=h;obtain⟨m,h1,h2,h3⟩:=open_vmat (cs:=cs.toList) (by rw[cR,hsz];exact cells_mat) (x:=(d,p)) (by simpa[Value.cells]using hf);refine⟨m,h1,?_,h3⟩;have:=Rep.agg (S:=fun _=>True) (w:=W) (cs:=(vM m).cells) rfl h2;rw[cS]at this;exact this
end
theorem sum_mem{α:Type}(f:α→Nat){l:List α}{x:α}(h:x∈l):f x≤(l.map f).sum:=by
 induction l with
 |nil=>cases h
 |cons a l ih=>
  simp only[List.map_cons,List.sum_cons];rcases pU.1 h with rfl|h
  ·omega
  ·have:=ih h;omega
theorem wZ6{α:Type}(f:α→Nat)(hf:∀x,1≤f x)(l:List α):l.length≤(l.map f).sum:=by
 induction l with
 |nil=>exact pN _
 |cons a l ih=>have:=hf a;simp only[List.map_cons,List.sum_cons,List.length_cons];omega
theorem flat_bulk(t:List (List ZZ)):t.flatten.length≤(t.map bkR).sum:=by
 induction t with
 |nil=>exact pN _
 |cons r t ih=>have:=wZ6 bkZ (fun z=>by unfold bkZ;omega) r;simp only[List.flatten_cons,List.length_append,List.map_cons,List.sum_cons,bkR];omega
def wS(t:List (List ZZ)):Nat:=(t.headD []).length
theorem cols_v(t:List (List ZZ))(hl:t.length≤1099511627776):wG Tryz.prog 84 [vT t] (fun y=>y=.int .i64 (wS t:Nat)):=by
 refine wD wE Tryz.func84 rfl rfl rfl rfl fun w0=>?_;cases t with
 |nil=>
  repeat (first|refine wg rfl (sL (wAE _)) ?_|refine wv ?_|refine wg rfl (jE rfl rfl rfl rfl (rfl) rfl) ?_|refine wz ?_)
  exact⟨.inl rfl,_,rfl,rfl⟩
 |cons r t=>
  have hc:(r::t).length=t.length+1:=rfl;have hg:=vT_at (r::t) 0 r rfl;repeat (first|refine wg rfl (sL (wAE _)) ?_|refine wg rfl (sL (kW _)) ?_|refine wv ?_|refine wg rfl (sX 0 hg) ?_|refine wg rfl cF ?_|refine wz ?_)
  exact⟨.inl rfl,_,rfl,rfl⟩
theorem qsize_v(m:MM)(hl:m.2.length≤1099511627776):wG Tryz.prog 47 [vM m] (fun y=>y=.tup [.int .i64 (m.2.length:Nat),.int .i64 (wS m.2:Nat)]):=by
 refine wD wE Tryz.func47 rfl rfl rfl rfl fun w0=>?_;have q1:=cols_v m.2 hl;obtain⟨⟨x,l⟩,t⟩:=m;repeat (first|refine wg rfl (sL (wAE _)) ?_|refine wv ?_|refine wc q1 ?_|refine wz ?_)
 exact⟨.inl rfl,_,rfl,rfl⟩
def j9(rows:List (List (List V))):V:=.list (rows.map fun r=>[V.list r])
def wJG(rows:List (List (List V))):List (List V):=rows.flatten.map fun e=>[V.agg e]
theorem wXI(rows:List (List (List V))):(rows.map fun r=>[V.list r]).length=rows.length:=pH ..
theorem qF3(rows:List (List (List V)))(j:Nat)(r:List (List V))(h:rows[j]? = some r):(rows.map fun r=>[V.list r])[j]? = some [V.list r]:=by rw[pJ,h];rfl
theorem flat_at{α:Type}:∀(rows:List (List α))(i j:Nat)(r:List α)(e:α),rows[i]? = some r→r[j]? = some e→rows.flatten[(rows.take i).flatten.length+j]? = some e
 |[],i,j,r,e,h,_=>by simp at h
 |q::rows,0,j,r,e,h,h2=>by simp only[List.getElem?_cons_zero,Option.some.injEq]at h;subst h;have:=(pI.1 h2).1;simp only[List.take_zero,List.flatten_nil,List.length_nil,Nat.zero_add,List.flatten_cons];rw[cE this];exact h2
 |q::rows,i+1,j,r,e,h,h2=>by simp only[List.getElem?_cons_succ]at h;have ih:=flat_at rows i j r e h h2;simp only[List.take_succ_cons,List.flatten_cons,List.length_append];rw[mI (by omega)];rw[←ih];congr 1;omega
theorem wTH{α:Type}(rows:List (List α))(i:Nat)(r:List α)(h:rows[i]? = some r):(rows.take (i+1)).flatten.length=(rows.take i).flatten.length+r.length:=by rw[cI,h];simp
theorem qF4(rows:List (List (List V)))(i j:Nat)(r:List (List V))(e:List V)(h:rows[i]? = some r)(h2:r[j]? = some e):(wJG rows)[(rows.take i).flatten.length+j]? = some [V.agg e]:=by unfold wJG;rw[pJ,flat_at rows i j r e h h2];rfl
theorem eachI_v(rows:List (List (List V)))(hk:∀r∈rows,∀e∈r,e.length=2)(hl:rows.length≤1099511627776)(hl2:∀r∈rows,r.length≤1099511627776):VSeq Tryz.prog 137 [] [.ref [j9 rows]] (wJG rows):=by
 refine wRH Tryz.func137 rfl rfl rfl rfl fun l J hR=>?_;refine zP ?_;refine xD hR fun w0=>?_;repeat (first|refine wg rfl (sL (wXI _)) ?_|refine wv ?_|refine wz ?_)
 refine⟨_,rfl,fun _ _ h=>h,?_⟩;refine yP ?_;refine wQC (fun i:Nat=>[jV 0 (.raw (wD5 l)),jV 2 (.ref [j9 rows]),jV 14 (j9 rows),jI 16 (rows.length),jI 18 i])
  (fun i=>some (rows.take i).flatten.length) (fun i=>i≤rows.length) (fun i=>rows.length-i) 0 (fun _=>rfl) (pN _) rfl ⟨rfl,rfl,rfl,rfl,rfl,trivial⟩ fun i hI=>?_
 refine zP ?_;rcases pK i rows.length with hi|hi
 ·obtain⟨r,hr⟩:=gE hi;have hg:=qF3 rows i r hr;have hrl:=hl2 r (pF hr);have hrk:=hk r (pF hr);have hn:=wTH rows i r hr;refine xD hR fun w0=>?_;repeat (first|refine wg rfl cT ?_|refine wz ?_)
  refine⟨_,rfl,fun _ _ h=>h,?_⟩;refine zP ?_;refine vW rfl (fun _=>?_) (fun h=>by cases h);refine wI4 ?_;refine zP ?_;refine yP ?_;refine zP ?_;refine xD hR fun w0=>?_;repeat (first|refine wv ?_|refine wg rfl (sX i hg) ?_|refine wz ?_)
  refine⟨_,rfl,fun _ _ h=>h,?_⟩;refine zP ?_;refine xD hR fun w0=>?_;repeat (first|refine wv ?_|refine wz ?_)
  refine⟨_,rfl,fun _ _ h=>h,?_⟩;refine yP ?_;refine wQC (fun j:Nat=>[jV 0 (.raw (wD5 l)),jV 2 (.ref [j9 rows]),jV 14 (j9 rows),jI 16 (rows.length),jI 18 i,jV 26 (.list r),jI 28 (r.length),jI 30 j])
   (fun j=>some ((rows.take i).flatten.length+j)) (fun j=>j≤r.length) (fun j=>r.length-j) 0 (fun _=>rfl) (pN _) rfl ⟨rfl,rfl,rfl,rfl,rfl,rfl,rfl,rfl,trivial⟩ fun j hJ=>?_
  refine zP ?_;rcases pK j r.length with hj|hj
  ·obtain⟨e,he⟩:=gE hj;have hek:=hrk e (pF he);have hL:=qF4 rows i j r e hr he;refine xD hR fun w0=>?_;repeat (first|refine wg rfl cT ?_|refine wz ?_)
   refine⟨_,rfl,fun _ _ h=>h,?_⟩;refine zP ?_;refine vW rfl (fun _=>?_) (fun h=>by cases h);refine wI4 ?_;refine zP ?_;refine yP ?_;refine zP ?_
   match e,hek,he,hL with
   |[x,y],_,he,hL=>
   refine xD hR fun w0=>?_;repeat (first|refine wv ?_|refine wg rfl (sX j he) ?_|refine wz ?_)
   refine⟨[jV 0 (.raw (wD5 l)),jV 2 (.ref [j9 rows]),jV 12 (.ref [x,y]),jV 14 (j9 rows),jI 16 (rows.length),jI 18 i,jV 26 (.list r),jI 28 (r.length),jI 30 j],rfl,imp_frz [.tmp 6] rfl ⟨rfl,rfl,rfl,rfl,rfl,rfl,rfl,rfl,rfl,trivial⟩,?_⟩;refine zP ?_;refine vi_si ?_;refine si_v wE hR rfl rfl rfl rfl rfl rfl ?_;refine si_v wE hR rfl rfl rfl rfl rfl rfl ?_;refine qD0 hR rfl rfl rfl rfl rfl rfl hL rfl rfl rfl ?_ ?_
   ·refine si_v wE hR rfl rfl rfl rfl rfl rfl ?_;refine wQG rfl ?_;refine vW rfl (fun h=>by cases h) (fun _=>?_);refine wI4 ?_;refine xD hR fun w0=>?_;repeat (first|refine wv ?_|refine wg rfl sB ?_|refine wz ?_)
    refine⟨_,rfl,fun _ _ h=>h,?_⟩;exact⟨j+1,hj,by omega,rfl,rfl,rfl,rfl,rfl,rfl,rfl,rfl,rfl,trivial⟩
   ·refine si_v wE hR rfl rfl rfl rfl rfl rfl ?_;refine wQG rfl ?_;refine vW rfl (fun _=>?_) (fun h=>by cases h);refine vi_ret ?_;exact⟨.inl rfl,.inr rfl⟩
  ·refine xD hR fun w0=>?_;repeat (first|refine wg rfl cF ?_|refine wz ?_)
   refine⟨_,rfl,fun _ _ h=>h,?_⟩;refine zP ?_;refine vW rfl (fun h=>by cases h) (fun _=>?_);refine wQD ?_;refine xD hR fun w0=>?_;repeat (first|refine wv ?_|refine wg rfl sB ?_|refine wz ?_)
   refine⟨_,rfl,fun _ _ h=>h,?_⟩;have hje:j=r.length:=by omega
   subst hje;exact⟨i+1,hi,by omega,by rw[hn],rfl,rfl,rfl,rfl,rfl,trivial⟩
 ·refine xD hR fun w0=>?_;repeat (first|refine wg rfl cF ?_|refine wz ?_)
  refine⟨_,rfl,fun _ _ h=>h,?_⟩;refine zP ?_;refine vW rfl (fun h=>by cases h) (fun _=>?_);refine wQD ?_;have hie:i=rows.length:=by omega
  subst hie;refine⟨.inr rfl,.inl ?_⟩;unfold wJG;rw[mZ,pH]
theorem eachR_v(rows:List (List (List V)))(hk:∀r∈rows,∀e∈r,e.length=4)(hl:rows.length≤1099511627776)(hl2:∀r∈rows,r.length≤1099511627776):VSeq Tryz.prog 133 [] [.ref [j9 rows]] (wJG rows):=by
 refine wRH Tryz.func133 rfl rfl rfl rfl fun l J hR=>?_;refine zP ?_;refine xD hR fun w0=>?_;repeat (first|refine wg rfl (sL (wXI _)) ?_|refine wv ?_|refine wz ?_)
 refine⟨_,rfl,fun _ _ h=>h,?_⟩;refine yP ?_;refine wQC (fun i:Nat=>[jV 0 (.raw (wD5 l)),jV 2 (.ref [j9 rows]),jV 14 (j9 rows),jI 16 (rows.length),jI 18 i])
  (fun i=>some (rows.take i).flatten.length) (fun i=>i≤rows.length) (fun i=>rows.length-i) 0 (fun _=>rfl) (pN _) rfl ⟨rfl,rfl,rfl,rfl,rfl,trivial⟩ fun i hI=>?_
 refine zP ?_;rcases pK i rows.length with hi|hi
 ·obtain⟨r,hr⟩:=gE hi;have hg:=qF3 rows i r hr;have hrl:=hl2 r (pF hr);have hrk:=hk r (pF hr);have hn:=wTH rows i r hr;refine xD hR fun w0=>?_;repeat (first|refine wg rfl cT ?_|refine wz ?_)
  refine⟨_,rfl,fun _ _ h=>h,?_⟩;refine zP ?_;refine vW rfl (fun _=>?_) (fun h=>by cases h);refine wI4 ?_;refine zP ?_;refine yP ?_;refine zP ?_;refine xD hR fun w0=>?_;repeat (first|refine wv ?_|refine wg rfl (sX i hg) ?_|refine wz ?_)
  refine⟨_,rfl,fun _ _ h=>h,?_⟩;refine zP ?_;refine xD hR fun w0=>?_;repeat (first|refine wv ?_|refine wz ?_)
  refine⟨_,rfl,fun _ _ h=>h,?_⟩;refine yP ?_;refine wQC (fun j:Nat=>[jV 0 (.raw (wD5 l)),jV 2 (.ref [j9 rows]),jV 14 (j9 rows),jI 16 (rows.length),jI 18 i,jV 26 (.list r),jI 28 (r.length),jI 30 j])
   (fun j=>some ((rows.take i).flatten.length+j)) (fun j=>j≤r.length) (fun j=>r.length-j) 0 (fun _=>rfl) (pN _) rfl ⟨rfl,rfl,rfl,rfl,rfl,rfl,rfl,rfl,trivial⟩ fun j hJ=>?_
  refine zP ?_;rcases pK j r.length with hj|hj
  ·obtain⟨e,he⟩:=gE hj;have hek:=hrk e (pF he);have hL:=qF4 rows i j r e hr he;refine xD hR fun w0=>?_;repeat (first|refine wg rfl cT ?_|refine wz ?_)
   refine⟨_,rfl,fun _ _ h=>h,?_⟩;refine zP ?_;refine vW rfl (fun _=>?_) (fun h=>by cases h);refine wI4 ?_;refine zP ?_;refine yP ?_;refine zP ?_
   match e,hek,he,hL with
   |[x,y,z,u],_,he,hL=>
   refine xD hR fun w0=>?_;repeat (first|refine wv ?_|refine wg rfl (sX j he) ?_|refine wz ?_)
   refine⟨[jV 0 (.raw (wD5 l)),jV 2 (.ref [j9 rows]),jV 12 (.ref [x,y,z,u]),jV 14 (j9 rows),jI 16 (rows.length),jI 18 i,jV 26 (.list r),jI 28 (r.length),jI 30 j],rfl,imp_frz [.tmp 6] rfl ⟨rfl,rfl,rfl,rfl,rfl,rfl,rfl,rfl,rfl,trivial⟩,?_⟩;refine zP ?_;refine vi_si ?_;refine si_v wE hR rfl rfl rfl rfl rfl rfl ?_;refine si_v wE hR rfl rfl rfl rfl rfl rfl ?_;refine qD0 hR rfl rfl rfl rfl rfl rfl hL rfl rfl rfl ?_ ?_
   ·refine si_v wE hR rfl rfl rfl rfl rfl rfl ?_;refine wQG rfl ?_;refine vW rfl (fun h=>by cases h) (fun _=>?_);refine wI4 ?_;refine xD hR fun w0=>?_;repeat (first|refine wv ?_|refine wg rfl sB ?_|refine wz ?_)
    refine⟨_,rfl,fun _ _ h=>h,?_⟩;exact⟨j+1,hj,by omega,rfl,rfl,rfl,rfl,rfl,rfl,rfl,rfl,rfl,trivial⟩
   ·refine si_v wE hR rfl rfl rfl rfl rfl rfl ?_;refine wQG rfl ?_;refine vW rfl (fun _=>?_) (fun h=>by cases h);refine vi_ret ?_;exact⟨.inl rfl,.inr rfl⟩
  ·refine xD hR fun w0=>?_;repeat (first|refine wg rfl cF ?_|refine wz ?_)
   refine⟨_,rfl,fun _ _ h=>h,?_⟩;refine zP ?_;refine vW rfl (fun h=>by cases h) (fun _=>?_);refine wQD ?_;refine xD hR fun w0=>?_;repeat (first|refine wv ?_|refine wg rfl sB ?_|refine wz ?_)
   refine⟨_,rfl,fun _ _ h=>h,?_⟩;have hje:j=r.length:=by omega
   subst hje;exact⟨i+1,hi,by omega,by rw[hn],rfl,rfl,rfl,rfl,rfl,trivial⟩
 ·refine xD hR fun w0=>?_;repeat (first|refine wg rfl cF ?_|refine wz ?_)
  refine⟨_,rfl,fun _ _ h=>h,?_⟩;refine zP ?_;refine vW rfl (fun h=>by cases h) (fun _=>?_);refine wQD ?_;have hie:i=rows.length:=by omega
  subst hie;refine⟨.inr rfl,.inl ?_⟩;unfold wJG;rw[mZ,pH]
theorem wY1:∀(zs:List ZZ)(x:Int),wC4 zs x∣x∧∀z∈zs,wC4 zs x∣intOf z
 |[],x=>⟨Int.dvd_refl x,by simp⟩
 | z::zs,x=>by
  obtain⟨h1,h2⟩:=wY1 zs ((Int.gcd x (intOf z):Nat):Int);have e:wC4 (z::zs) x=wC4 zs ((Int.gcd x (intOf z):Nat):Int):=rfl;rw[e];exact⟨pF9 h1 (fM ..),fun q hq=>by
   rcases pU.1 hq with rfl|hq
   ·exact pF9 h1 (fG ..)
   ·exact h2 q hq⟩
def wG8(t:List (List ZZ)):Int:=wC4 t.flatten 0
def x6(d:ZZ)(t:List (List ZZ)):Int:=
 let g:=if wG8 t=0 then((intOf d).natAbs:Int)else(Int.gcd (wG8 t) (intOf d):Nat)
 if intOf d<0 then -g else g
def qC(d:ZZ)(t:List (List ZZ)):MM:=(zn (if wS t=0 then 1 else(intOf d).tdiv (x6 d t)),t.map fun r=>r.map fun x=>zn ((intOf x).tdiv (x6 d t)))
def wDH(d:ZZ)(t:List (List ZZ)):Int:=if wG8 t=0 then((intOf d).natAbs:Int)else(Int.gcd (wG8 t) (intOf d):Nat)
theorem wKI(d:ZZ)(t:List (List ZZ))(hd:intOf d≠0):0<wDH d t∧wDH d t∣intOf d∧∀r∈t,∀x∈r,wDH d t∣intOf x:=by
 obtain⟨_,h2⟩:=wY1 t.flatten 0;unfold wDH;by_cases h0:wG8 t=0
 ·rw[if_pos h0];refine⟨by omega,Int.natAbs_dvd.2 (Int.dvd_refl _),fun r hr x hx=>?_⟩;have:=h2 x (cY.2 ⟨r,hr,hx⟩);unfold wG8 at h0;rw[h0,Int.zero_dvd]at this;rw[this];exact Int.dvd_zero _
 ·rw[if_neg h0];refine⟨?_,fG ..,fun r hr x hx=>?_⟩
  ·have:=bS (wG8 t) hd;omega
  ·exact pF9 (fM ..) (h2 x (cY.2 ⟨r,hr,hx⟩))
theorem wN6(d:ZZ)(t:List (List ZZ)):x6 d t=if intOf d<0 then -wDH d t else wDH d t:=rfl
theorem v8(d:ZZ)(t:List (List ZZ))(hd:intOf d≠0):x6 d t≠0∧x6 d t∣intOf d∧∀r∈t,∀x∈r,x6 d t∣intOf x:=by
 obtain⟨h1,h2,h3⟩:=wKI d t hd;rw[wN6];split
 ·exact⟨by omega,pI1.2 h2,fun r hr x hx=>pI1.2 (h3 r hr x hx)⟩
 ·exact⟨by omega,h2,h3⟩
theorem gridT(t:List (List ZZ)):j9 (t.map fun r=>r.map zrow)=vT t:=by unfold j9 vT vZs;rw[mU];rfl
theorem gridTL(t:List (List ZZ)):wJG (t.map fun r=>r.map zrow)=t.flatten.map fun z=>[vI z]:=by unfold wJG;rw[←pH0,mU];rfl
theorem eachI2_v(rows:List (List (List V))):wG Tryz.prog 85 [j9 rows] (fun y=>y=.clo 137 [] [.ref [j9 rows]]):=by
 refine wD wE Tryz.func85 rfl rfl rfl rfl fun w0=>?_;repeat (first|refine wv ?_|refine wx ?_|refine wz ?_)
 exact⟨.inl rfl,_,rfl,rfl⟩
theorem foldG2'(g:Int)(z:ZZ):wC4 [zn g,z] 0=(Int.gcd g (intOf z):Nat):=by show(Int.gcd ((Int.gcd 0 (intOf (zn g)):Nat):Int) (intOf z):Int)=_;rw[wF,Int.gcd_zero_left];unfold Int.gcd;rw[bE]
theorem flat_ok(t:List (List ZZ))(ht:∀r∈t,∀x∈r,okZ x)(z:ZZ)(h:z∈t.flatten):okZ z:=by obtain⟨r,h1,h2⟩:=cY.1 h;exact ht r h1 z h2
theorem wL5{α:Type}(l:List α)(j:Nat)(x:α)(h:l[j]? = some x):l.drop j=x::l.drop (j+1):=by have hj:=(pI.1 h).1;rw[bM hj];rw[pG hj]at h;cases h;rfl
theorem made_v(d:ZZ)(t:List (List ZZ))(hd:okZ d)(h0:intOf d≠0)(ht:∀r∈t,∀x∈r,okZ x)(hl:t.length≤1099511627776)(hl2:∀r∈t,r.length≤1099511627776):wG Tryz.prog 48 [vI d,vT t] (fun y=>y=vM (qC d t)):=by
 refine wCB wE Tryz.func48 rfl rfl rfl rfl fun w0 hmk hro=>?_;have q0:=eachI2_v (t.map fun r=>r.map zrow);rw[gridT]at q0;have hseq:=eachI_v (t.map fun r=>r.map zrow) (fun r hr e he=>by
  obtain⟨r',_,rfl⟩:=pO.1 hr;obtain⟨z,_,rfl⟩:=pO.1 he;rfl) (by simpa using hl) (fun r hr=>by
  obtain⟨r',h1,rfl⟩:=pO.1 hr;simpa using hl2 r' h1)
 rw[gridTL,gridT]at hseq;obtain⟨x,l⟩:=d;repeat (first|refine wv ?_|refine wc q0 ?_|refine wz ?_)
 refine wRG 2 2 rfl rfl fun u2=>?_;refine wRG 4 4 rfl rfl fun u4=>?_;refine wRG 5 5 rfl rfl fun u5=>?_;refine qC4 5 1 rfl rfl rfl ?_;refine wLC wE (fun b:ZZ=>[jC 5 [.v (.bool x),.v (vL l)],jC 9 [.v (.bool false),.nils,.nils],jC 11 [.v (.bool b.1),.v (vL b.2)]])
  [jV 2 (vT t),(4,some (.sv (.rp 2 u2 0))),(8,some (.sv (.rp 4 u4 0))),(10,some (.sv (.rp 5 u5 0)))]
  (fun j b=>∃g:Int,b=zn g∧okZ b∧wC4 (t.flatten.drop j) g=wG8 t) (false,[])
  (fun _ e b=>[jB 12 6,jC 13 (match e with|[.agg cs]=>cs.map .v|_=>[]),jC 5 [.v (.bool x),.v (vL l)],jC 9 [.v (.bool false),.nils,.nils],jC 11 [.v (.bool b.1),.v (vL b.2)],jV 2 (vT t),(4,some (.sv (.rp 2 u2 0))),(8,some (.sv (.rp 4 u4 0))),(10,some (.sv (.rp 5 u5 0)))])
  hro hmk rfl rfl hseq rfl (fun e he=>by obtain⟨z,_,rfl⟩:=pO.1 he;rfl) rfl (fun _=>rfl) ⟨0,by simp[zn,qW],⟨(fun _ h=>by cases h),pN _⟩,rfl⟩ ⟨rfl,rfl,rfl,rfl,rfl,rfl,rfl,trivial⟩ (fun _ _ _=>rfl) ?_ ?_ ?_
 ·intro j e b he hI w1;rw[pJ]at he;obtain⟨z,hz,rfl⟩:=bW.1 he;obtain⟨zx,zl⟩:=z;repeat (first|refine wv ?_|refine wz ?_)
  exact⟨rfl,rfl,rfl,rfl,rfl,rfl,rfl,rfl,rfl,rfl,trivial⟩
 ·intro j e b he hI w1;rw[pJ]at he;obtain⟨z,hz,rfl⟩:=bW.1 he;obtain⟨g,rfl,hgo,hg⟩:=hI;have hzo:=flat_ok t ht z (pF hz);rw[wL5 _ j z hz]at hg;have hok:=wMJ g z hgo hzo;have q:=wO4 [zn g,z] (fun y hy=>by
   rcases pU.1 hy with rfl|hy
   ·exact hgo
   ·rw[pP.1 hy];exact hzo) (by show 2≤1099511627776;decide)
  rw[foldG2']at q;obtain⟨zx,zl⟩:=z;repeat (first|refine wv ?_|refine wh q ?_|refine wz ?_)
  exact⟨rfl,zn (Int.gcd g (intOf (zx,zl)):Nat),⟨_,rfl,hok,hg⟩,rfl,rfl,rfl,rfl,rfl,rfl,rfl,trivial⟩
 ·intro b hI;obtain⟨g,rfl,hgo,hg⟩:=hI;rw[mA (by rw[pH];exact pC _)]at hg;have hg':g=wG8 t:=hg;subst hg';have q1:=wEA (zn (wG8 t)) hgo;rw[wF]at q1;show VW _ _ _ _ _ _;obtain⟨hG1,hG2,hG3⟩:=wKI (x,l) t h0;obtain⟨hS1,hS2,hS3⟩:=v8 (x,l) t h0;have hSe:=wN6 (x,l) t;obtain⟨G,hGe⟩:∃G,wDH (x,l) t=G:=⟨_,rfl⟩
  obtain⟨S,hSS⟩:∃S,x6 (x,l) t=S:=⟨_,rfl⟩
  obtain⟨D,hDe⟩:∃D:Int,(if wS t=0 then 1 else(intOf (x,l)).tdiv S)=D:=⟨_,rfl⟩
  rw[hGe]at hG1 hG2 hG3 hSe;rw[hSS]at hS1 hS2 hS3 hSe;have hGo:okZ (zn G):=okZ_dvd G (intOf (x,l)) (bQ (by omega) (pD2.2 hG2)) (wDC _ hd);have hSo:okZ (zn S):=okZ_dvd S (intOf (x,l)) (bQ (by omega) (pD2.2 hS2)) (wDC _ hd);refine vw_seq ?_;repeat (first|refine wv ?_|refine wg rfl (jE rfl rfl rfl rfl (rfl) rfl) ?_|refine wc q1 ?_|refine wz ?_)
  refine wYH (fun _:Unit=>[jC 5 [.v (.bool x),.v (vL l)],jC 9 [.v (.bool false),.nils,.nils],jC 11 [.v (.bool (zn G).1),.v (vL (zn G).2)],jV 2 (vT t),(4,some (.sv (.rp 2 u2 0))),(8,some (.sv (.rp 4 u4 0))),(10,some (.sv (.rp 5 u5 0)))]) (fun _=>True) (fun _=>rfl) ?_ fun _ _=>?_
  ·by_cases hz:wG8 t=0
   ·have hs:sgn (wG8 t)=0:=by rw[hz];rfl
    have e:((wC l:Nat):Int)=G:=by rw[←hGe];unfold wDH;rw[if_pos hz,kI]
    have q2:=zabs_v (x,l) hd;dsimp only at q2;rw[e]at q2;generalize sgn (wG8 t)=sg at *
    subst hs;repeat (first|refine wv ?_|refine wc q2 ?_|refine wz ?_)
    exact⟨(),trivial,rfl,rfl,rfl,rfl,rfl,rfl,rfl,trivial⟩
   ·have hs:sgn (wG8 t)≠0:=by rcases wAI (wG8 t)with h|h|h<;>omega
    have e:((Int.gcd (wG8 t) (intOf (x,l)):Nat):Int)=G:=by rw[←hGe];unfold wDH;rw[if_neg hz]
    have q2:=wO4 [zn (wG8 t),(x,l)] (fun y hy=>by
     rcases pU.1 hy with rfl|hy
     ·exact hgo
     ·rw[pP.1 hy];exact hd) (by show 2≤1099511627776;decide)
    rw[foldG2',e]at q2;rw[decide_eq_false hs];repeat (first|refine wv ?_|refine wh q2 ?_|refine wz ?_)
    exact⟨(),trivial,rfl,rfl,rfl,rfl,rfl,rfl,rfl,trivial⟩
  have q3:=wEA (x,l) hd;have q4:=zneg_v (zn G) hGo;rw[wF]at q4;repeat (first|refine wv ?_|refine wg rfl (jE rfl rfl rfl rfl (rfl) rfl) ?_|refine wc q3 ?_|refine wz ?_)
  refine wYH (fun _:Unit=>[jC 5 [.v (.bool x),.v (vL l)],jC 9 [.v (.bool false),.nils,.nils],jC 11 [.v (.bool (zn S).1),.v (vL (zn S).2)],jV 2 (vT t),(4,some (.sv (.rp 2 u2 0))),(8,some (.sv (.rp 4 u4 0))),(10,some (.sv (.rp 5 u5 0)))]) (fun _=>True) (fun _=>rfl) ?_ fun _ _=>?_
  ·by_cases hn:intOf (x,l)<0
   ·have hs:sgn (intOf (x,l))<0:=by rcases wAI (intOf (x,l))with h|h|h<;>omega
    rw[if_pos hn]at hSe;rw[←hSe]at q4;rw[decide_eq_true hs];repeat (first|refine wv ?_|refine wc q4 ?_|refine wz ?_)
    exact⟨(),trivial,rfl,rfl,rfl,rfl,rfl,rfl,rfl,trivial⟩
   ·have hs:¬sgn (intOf (x,l))<0:=by rcases wAI (intOf (x,l))with h|h|h<;>omega
    rw[if_neg hn]at hSe;subst hSe;rw[decide_eq_false hs];repeat refine wz ?_
    exact⟨(),trivial,rfl,rfl,rfl,rfl,rfl,rfl,rfl,trivial⟩
  have q5:=wAD (x,l) (zn S) hd hSo (by rw[wF];exact hS1) (by rw[wF];exact hS2);rw[wF]at q5;refine vw_unpin 4 4 rfl rfl ?_;have q6:=cols_v t hl;have q7:=zof_v 1 (by decide);repeat (first|refine wg rfl (wF2 wE rfl rfl rfl rfl rfl rfl rfl rfl rfl) ?_|refine wc q5 ?_|refine wc q6 ?_|refine wv ?_|refine wg rfl (jE rfl rfl rfl rfl (rfl) rfl) ?_|refine wz ?_)
  refine wYH (fun _:Unit=>[jC 5 [.v (.bool x),.v (vL l)],jC 9 [.v (.bool false),.nils,.nils],jC 11 [.v (.bool (zn S).1),.v (vL (zn S).2)],jV 2 (vT t),(4,some (.sv (.rp 2 u2 0))),jB 8 4,(10,some (.sv (.rp 5 u5 0))),
   jB 14 7,jC 15 [.v (.bool (zn D).1),.v (vL (zn D).2),.v (.raw (.slice none 0 0))]]) (fun _=>True) (fun _=>rfl) ?_ fun _ _=>?_
  ·by_cases hc:wS t=0
   ·rw[if_pos hc]at hDe;subst hDe;rw[decide_eq_true (show((wS t:Nat):Int)=0 by omega)];repeat (first|refine wv ?_|refine wc q7 ?_|refine wz ?_)
    exact⟨(),trivial,rfl,rfl,rfl,rfl,rfl,rfl,rfl,rfl,rfl,trivial⟩
   ·rw[if_neg hc]at hDe;subst hDe;rw[decide_eq_false (show ¬((wS t:Nat):Int)=0 by omega)];repeat refine wz ?_
    exact⟨(),trivial,rfl,rfl,rfl,rfl,rfl,rfl,rfl,rfl,rfl,trivial⟩
  refine wK4 7 2 1 59 rfl rfl rfl ?_;repeat (first|refine wg rfl (sL (wCE t)) ?_|refine wv ?_|refine wz ?_)
  refine wP (fun j:Nat=>[jC 5 [.v (.bool x),.v (vL l)],jC 9 [.v (.bool false),.nils,.nils],jC 11 [.v (.bool (zn S).1),.v (vL (zn S).2)],jV 2 (vT t),(4,some (.sv (.rp 2 u2 0))),jB 8 4,(10,some (.sv (.rp 5 u5 0))),
   jB 14 7,jC 15 [.v (.bool (zn D).1),.v (vL (zn D).2),.own 0 59 1 (jW ((t.take j).map fun r=>r.map fun x=>zn ((intOf x).tdiv S)))],jV 98 (vT t),jI 100 (t.length),jI 102 j])
   (fun j=>j≤t.length) (fun j=>t.length-j) 0 (fun _=>rfl) (pN _) ⟨rfl,rfl,rfl,rfl,rfl,rfl,rfl,rfl,rfl,rfl,rfl,rfl,trivial⟩ fun j hJ=>?_
  rcases pK j t.length with hj|hj
  ·obtain⟨r,hr⟩:=gE hj;have hrl:=hl2 r (pF hr);have hro:=ht r (pF hr);have hrS:=hS3 r (pF hr);have hg:=wJE t j r hr;repeat (first|refine wg rfl (sL (wCA r)) ?_|refine wg rfl (sX j hg) ?_|refine wg rfl (sM 7000 0 r.length 2 32 (es':=[]) rfl) ?_|refine wv ?_|refine wg rfl cT ?_|refine wz ?_)
   refine wP (fun k:Nat=>[jC 5 [.v (.bool x),.v (vL l)],jC 9 [.v (.bool false),.nils,.nils],jC 11 [.v (.bool (zn S).1),.v (vL (zn S).2)],jV 2 (vT t),(4,some (.sv (.rp 2 u2 0))),jB 8 4,(10,some (.sv (.rp 5 u5 0))),
    jB 14 7,jC 15 [.v (.bool (zn D).1),.v (vL (zn D).2),.own 0 59 1 (jW ((t.take j).map fun r=>r.map fun x=>zn ((intOf x).tdiv S)))],jV 98 (vT t),jI 100 (t.length),jI 102 j,
    jO 20 2 25 2 (((r.take k).map fun x=>zn ((intOf x).tdiv S)).map qL),jV 116 (.list (r.map qL)),jI 118 (r.length),jI 120 k])
    (fun k=>k≤r.length) (fun k=>r.length-k) 0 (fun _=>rfl) (pN _) ⟨rfl,rfl,rfl,rfl,rfl,rfl,rfl,rfl,rfl,rfl,rfl,rfl,⟨_,rfl⟩,rfl,rfl,rfl,trivial⟩ fun k hK=>?_
   rcases pK k r.length with hk|hk
   ·obtain⟨z,hz⟩:=gE hk;have hzo:=hro z (pF hz);have hzS:=hrS z (pF hz);have hg2:=wRB r k z hz;have q8:=wAD z (zn S) hzo hSo (by rw[wF];exact hS1) (by rw[wF];exact hzS);rw[wF]at q8;have hs:((r.take k).map fun x=>zn ((intOf x).tdiv S)).map qL++[qL (zn ((intOf z).tdiv S))]=((r.take (k+1)).map fun x=>zn ((intOf x).tdiv S)).map qL:=by
     rw[cI,hz];simp
    have hlen:(((r.take k).map fun x=>zn ((intOf x).tdiv S)).map qL).length=k:=by rw[pH,pH,pV];omega
    have row2:∀e∈[qL (zn ((intOf z).tdiv S))],e.length=2:=fun e h=>by rw[pP.1 h];rfl
    obtain⟨zx,zl⟩:=z;repeat (first|refine wg rfl (sX k hg2) ?_|refine wc q8 ?_|refine wf rfl rfl (sA 7001 [qL (zn ((intOf (zx,zl)).tdiv S))] 2 32 row2 hs) ?_|refine wv ?_|refine wg rfl cT ?_|refine wg rfl sB ?_|refine wz ?_)
    exact⟨k+1,hk,by omega,rfl,rfl,rfl,rfl,rfl,rfl,rfl,rfl,rfl,rfl,rfl,rfl,⟨_,rfl⟩,rfl,rfl,rfl,trivial⟩
   ·have hke:k=r.length:=by omega
    subst hke;rw[mZ];have hs:jW ((t.take j).map fun r=>r.map fun x=>zn ((intOf x).tdiv S))++[[V.list ((r.map fun x=>zn ((intOf x).tdiv S)).map qL)]]=jW ((t.take (j+1)).map fun r=>r.map fun x=>zn ((intOf x).tdiv S)):=by rw[cI,hr];unfold jW;simp
    have hlen:(jW ((t.take j).map fun r=>r.map fun x=>zn ((intOf x).tdiv S))).length=j:=by rw[wCE,pH,pV];omega
    have wKB:∀e∈[[V.list ((r.map fun x=>zn ((intOf x).tdiv S)).map qL)]],e.length=1:=fun e h=>by rw[pP.1 h];rfl
    repeat (first|refine wv ?_|refine wf rfl rfl (sA 7002 [[V.list ((r.map fun x=>zn ((intOf x).tdiv S)).map qL)]] 1 24 wKB hs) ?_|refine wg rfl cF ?_|refine wg rfl sB ?_|refine wx ?_|refine wz ?_)
    exact⟨j+1,hj,by omega,rfl,rfl,rfl,rfl,rfl,rfl,rfl,rfl,rfl,rfl,rfl,rfl,trivial⟩
  ·have hje:j=t.length:=by omega
   subst hje;rw[mZ];repeat (first|refine wv ?_|refine wg rfl cF ?_|refine rr_vfx wE [.tmp 7] rfl rfl rfl rfl rfl ?_|refine wz ?_)
   refine⟨.inl rfl,_,rfl,?_⟩;unfold qC;rw[hSS,hDe];exact rfl
end Go.Proofs.YtdcjmnfngabhoaaGreat
