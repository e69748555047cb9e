/- How the arguments of these laws read, as trees; and that they read so behind the call. -/
import Derived.Test.YtkjhfnhgefbhhaaGreatRows
import Derived.Test.YtkjhfnhgefbhhaaGreatCf12
import Derived.Test.YtkjhfnhgefbhhaaGreatCf14
import Derived.Carry
import Derived.Lib.SmallJoins
import Derived.ChangeSlices
import Derived.JoinedCond
import Derived.Deep.Slices
import Derived.Deep.Strs
import Derived.ProofKit
import Derived.OpenShut
import Derived.Test.YtkjhfnhgefbhhaaGreatCf08
set_option linter.all false
set_option maxRecDepth 20000
set_option maxHeartbeats 6400000
namespace Go.Proofs.YtkjhfnhgefbhhaaGreat
open Go.ChangeShapes Go.WideShapes Go.ChangeAt Go.RowKit Go.Deep Go.Vl
theorem own_knob:ownKnob Tryz.prog.godebug=none:=by kernel_rfl
theorem laidOut:laidOutB Tryz.prog=true:=by kernel_rfl
theorem stays {H:Type} {enc:TypeId × Value→H} {t:TypeId} (hr:Tryz.prog.readableRec t=true) (hrow:t<Tryz.prog.types.size) {W W':World} {v:Value} {d:DataW H} {ps:List MemPlace}
  (h:DataW.Trod enc Tryz.prog W 0 (fun _=>true) true t v d ps) (hb:Below W.heap.size W W') (hlt:∀ x∈ps,x.block<W.heap.size) :
  DataW.Trod enc Tryz.prog W' 0 (fun b=>decide (b<W.heap.size)) true t v d ps :=
 Below.trod laidOut hr hrow h hb hlt
theorem post_stays {H:Type} {enc:TypeId × Value→H} {P:Program} {f:Func} {s:ChangeSpec} {apart fresh handsOn:Bool} {W W':World} {args:Array Value} {v:Value} {ds gs:List (DataW H)} {before pa pv:List MemPlace}
  (hW:DataW.Whole enc P f.params.toList s.vars apart W args.toList ds gs before) (hB:Below W.heap.size W W')
  (hres:∀ (b:Nat) (sp:Nat→Bool) (hd:Bool),DataW.TrodAll enc P W' b sp hd f.resultTypes.toList (v.resultList f.resultTypes.size) (s.fn H (ds++gs)).results [])
  (hargs:DataW.TrodAll enc P W' 0 (fun b=>decide (b<W.heap.size)) true f.params.toList args.toList (s.fn H (ds++gs)).args pa)
  (hvars:DataW.TrodVars enc P W' (fun b=>decide (b<W.heap.size)) s.vars (s.fn H (ds++gs)).vars pv) :
  s.post enc P f apart fresh handsOn false W args v W':=by
 have hold:∀ p,p∈before→(fun b=>decide (b<W.heap.size)) p.block=true:=by
  intro p hp
  have:=hW.lt p hp
  simpa using this
 refine ⟨ds,gs,before,[],pa,pv,hW,hres _ _ _,hargs,hvars,hB.frame _,fun h=>?_⟩
 cases h
theorem range_bulk {H:Type} {α:Type} (f:α→Nat) (V:Nat→α) (D:Nat→DataW H) (L:List Nat) (h:∀ i,i∈L→f (V i)≤Rows.uptoBulk (D i)):((L.map V).map f).sum≤Rows.uptoBulkAll (L.map D):=by
 induction L with
 | nil=>simp
 | cons y l ih =>
  have h1:=h y (pO ..); have h2:=ih fun i hi=>h i (pT _ hi)
  simp only [List.map_cons,List.sum_cons,Rows.uptoBulkAll]
  omega
theorem addr_none {W:World} {a:Addr} {v:Value} (h:W.cell? a=some v):a.spot=none:=by
 obtain ⟨b,off,sp⟩:=a; unfold World.cell? at h
 split at h
 ·cases sp with
  | none=>rfl
  | some _=>simp at h
 ·cases h
theorem flat_cell {k:Nat} (hk:0<k) {vs:List (List Value)} (hv:∀ c∈vs,c.length=k) {j:Nat} {u:Value} (h:vs.flatten[j]? = some u):∃ c,vs[j / k]? = some c∧c[j % k]? = some u:=by
 have hj:j<vs.length*k:=by
  rw [← wEB hv]; exact (pS.1 h).1
 have hd:j / k<vs.length:=(gH hk).2 hj; refine ⟨vs[j / k],pU hd,?_⟩
 have e:=wEA hv (j / k) _ (pU hd); rw [← e,pZ,if_pos (dJ _ hk),dI]
 have:j / k*k+j % k=j:=by rw [mL]; exact cX j k
 rw [this]; exact h
section
variable {H:Type} {enc:TypeId × Value→H} {W:World} {held:Bool}
theorem wA6 {t e:TypeId} {k fuel:Nat} {α:Type} [Inhabited α] {v:Value} {x:DataW H × List MemPlace} (f:α→List V) (bk:α→Nat) (ok:α→Prop) (ht:Tryz.prog.underlying t=some (.slice e)) (hk:Tryz.prog.cellsOf e=k) (hk0:0<k) (hf:∀ x,(f x).length=k∧wW (f x)=true)
  (hel:∀ {n:Nat} {cs:List Value} {y:DataW H × List MemPlace},cs.length=k→DataW.trod enc Tryz.prog W 0 (fun _=>true) held n e cs=some y→∃ x,ok x∧RepL (fun _=>True) W (f x) cs∧bk x≤Rows.uptoBulk y.1)
  (h:DataW.trod enc Tryz.prog W 0 (fun _=>true) held fuel t [v]=some x):∃ l:List α,(∀ x∈l,ok x)∧Rep (fun _=>True) W (.list (l.map f)) v∧(l.map bk).sum+1≤Rows.uptoBulk x.1:=by
 rcases open_slice ht h with ⟨h1,rfl⟩ | ⟨a,len,cap,m,n,D,Pl,h1,_,hlc,_,hm,rfl,hx⟩
 ·obtain rfl:v=.slice none 0 0:=by simpa using h1
  exact ⟨[],by simp,.nils,by simp [Rows.uptoBulk]⟩
 ·obtain rfl:v=.slice (some a) len cap:=by simpa using h1
  rw [if_pos rfl] at hm; subst hm
  rw [hk] at hx; obtain ⟨V,hV⟩:=choose_lt (n:=len) (α:=α × List Value) (p:=fun i q=>W.cells? 0 (a.add (i*k)) k=some q.2∧q.2.length=k∧ok q.1∧RepL (fun _=>True) W (f q.1) q.2∧bk q.1≤Rows.uptoBulk (D i)) (fun i hi=>by
   obtain ⟨cs',g1,g2⟩:=hx i (by omega)
   obtain ⟨_,hlen,_⟩:=World.cells?_some g1; obtain ⟨q,k1,k2,k3⟩:=hel hlen g2
   exact ⟨(q,cs'),g1,hlen,k1,k2,k3⟩)
  refine ⟨(List.range len).map fun i=>(V i).1,fun y hy=>?_,?_,?_⟩
  ·obtain ⟨i,hi,rfl⟩:=pJ.1 hy
   exact (hV i (dK.1 hi)).2.2.1
  ·rcases mF len with h0 | hpos
   ·subst h0
    exact .emp a m
   ·have hsub:a.spot=none:=by
     obtain ⟨g1,g2,_⟩:=hV 0 hpos; obtain ⟨_,_,g3⟩:=World.cells?_some g1
     have g4:=g3 0 hk0; rw [pA4] at g4
     exact addr_none (a:=a) (g4.trans (pU (by omega)))
    obtain ⟨b,off,sp⟩:=a; obtain rfl:sp=none:=hsub
    have hes:(((List.range len).map fun i=>(V i).1).map f).length=len:=by simp
    have hvs:∀ c∈(List.range len).map fun i=>(V i).2,c.length=k:=fun c hc=>by
     obtain ⟨i,hi,rfl⟩:=pJ.1 hc; exact (hV i (dK.1 hi)).2.1
    have hfl:RepL (fun _=>True) W (((List.range len).map fun i=>(V i).1).map f).flatten ((List.range len).map fun i=>(V i).2).flatten:=RepL.flat (by simp) fun i e u he hu=>by
     rw [pI,pI] at he; rw [pI] at hu
     cases hr:(List.range len)[i]? with
     | none=>rw [hr] at hu; cases hu
     | some q =>
      rw [hr] at he hu; cases he
      cases hu
      have hq:=(pS.1 hr); obtain ⟨hq1,hq2⟩:=hq
      rw [List.getElem_range] at hq2; subst hq2
      exact (hV i (by simpa using hq1)).2.2.2.1
    have:=Rep.list (S:=fun _=>True) (w:=W) (k:=k) (es:=((List.range len).map fun i=>(V i).1).map f) (us:=((List.range len).map fun i=>(V i).2).flatten) (b:=b) (off:=off) (cap:=m)
     (fun e he=>by obtain ⟨y,_,rfl⟩:=pJ.1 he; exact (hf y).1) (fun e he=>by obtain ⟨y,_,rfl⟩:=pJ.1 he; exact (hf y).2) (by rw [hes]; exact hlc) hfl (fun _=>⟨trivial,by
      obtain ⟨g1,g2,_⟩:=hV 0 hpos; obtain ⟨_,_,g3⟩:=World.cells?_some g1
      have g4:=g3 0 hk0; rw [pA4] at g4
      exact World.block_lt_of_cell? W ⟨b,off,none⟩ (g4.trans (pU (by omega)))⟩) (fun j u hj=>by
      obtain ⟨c,c1,c2⟩:=flat_cell hk0 hvs hj; rw [pI] at c1
      cases hr:(List.range len)[j / k]? with
      | none=>rw [hr] at c1; cases c1
      | some q =>
       rw [hr] at c1; cases c1
       obtain ⟨hq1,hq2⟩:=(pS.1 hr); rw [List.getElem_range] at hq2
       subst hq2; obtain ⟨g1,g2,_⟩:=hV (j / k) (by simpa using hq1)
       obtain ⟨_,_,g3⟩:=World.cells?_some g1; have g4:=g3 (j % k) (dJ _ hk0)
       rw [c2] at g4; have e:off+j / k*k+j % k=off+j:=by
        have:=cX j k; rw [mL] at this
        omega
       rw [Addr.add_lit,Addr.add_lit,e] at g4; exact g4)
    rwa [hes] at this
  ·have:=range_bulk (fun q:α × List Value=>bk q.1) V D (List.range len) (fun i hi=>(hV i (by simpa using hi)).2.2.2.2)
   rw [mT] at this ⊢; simp only [Rows.uptoBulk]
   have e:(List.map (bk ∘ fun i=>(V i).fst) (List.range len))=List.map ((fun q:α × List Value=>bk q.1) ∘ V) (List.range len):=rfl
   rw [e]; omega
theorem u32_wf (n:Int) (h:(Lit.int .u32 n).wf=true):0≤n∧n<4294967296:=by
 have:0≤n∧n≤4294967295:=by simpa [Lit.wf,IntKind.min,IntKind.max,IntKind.signed,IntKind.bits] using h
 omega
theorem cells_bool:Tryz.prog.cellsOf 4=1:=by kernel_rfl
theorem cells_nat:Tryz.prog.cellsOf 23=1:=by kernel_rfl
theorem cells_u32:Tryz.prog.cellsOf 180=1:=by kernel_rfl
theorem wQH:Tryz.prog.cellsOf 25=2:=by kernel_rfl
theorem cells_ints:Tryz.prog.cellsOf 77=1:=by kernel_rfl
theorem qI7:Tryz.prog.cellsOf 26=1:=by kernel_rfl
theorem qAJ:Tryz.prog.cellsOf 28=3:=by kernel_rfl
theorem wSF {cs:List Value} (h:cs.length=1):∃ v,cs=[v]:=by
 match cs,h with
 | [v],_=>exact ⟨v,rfl⟩
theorem two_val {cs:List Value} (h:cs.length=2):∃ u v,cs=[u,v]:=by
 match cs,h with
 | [u,v],_=>exact ⟨u,v,rfl⟩
theorem three_val {cs:List Value} (h:cs.length=3):∃ u v x,cs=[u,v,x]:=by
 match cs,h with
 | [u,v,x],_=>exact ⟨u,v,x,rfl⟩
theorem sum_const {α:Type} (l:List α):(l.map fun _=>1).sum=l.length:=by
 induction l with
 | nil=>rfl
 | cons a l ih=>simp only [List.map_cons,List.sum_cons,ih,List.length_cons]; omega
theorem qGC {fuel:Nat} {v:Value} {x:DataW H × List MemPlace} (h:DataW.trod enc Tryz.prog W 0 (fun _=>true) held fuel 23 [v]=some x) :
  ∃ l,okL l∧Rep (fun _=>True) W (vL l) v∧l.length+1≤Rows.uptoBulk x.1:=by
 obtain ⟨l,h1,h2,h3⟩:=wA6 (k:=1) (fun n:Nat=>[V.int .u32 (n:Nat)]) (fun _=>1) (fun n=>n<4294967296) Tryz.underlying23 cells_u32 (by decide) (fun _=>⟨rfl,rfl⟩) (fun {n cs y} hl hy=>by
  obtain ⟨v,rfl⟩:=wSF hl; obtain ⟨z,e1,rfl,e3⟩:=DataW.trod_int Tryz.underlying180 hy
  obtain rfl:v=.int .u32 z:=by simpa using e1
  obtain ⟨w1,w2⟩:=u32_wf z e3; obtain ⟨q,rfl⟩:=Int.eq_ofNat_of_zero_le w1
  exact ⟨q,by omega,.cons (.int _ _) .nil,by simp [Rows.uptoBulk]⟩) h
 refine ⟨l,h1,h2,?_⟩
 rwa [sum_const] at h3
def bkZ (z:ZZ):Nat:=z.2.length+1
theorem wJ7 {fuel:Nat} {cs:List Value} (hl:cs.length=2) {x:DataW H × List MemPlace} (h:DataW.trod enc Tryz.prog W 0 (fun _=>true) held fuel 25 cs=some x) :
  ∃ z:ZZ,okL z.2∧RepL (fun _=>True) W (wS z) cs∧bkZ z≤Rows.uptoBulk x.1:=by
 obtain ⟨c0,c1,rfl⟩:=two_val hl; obtain ⟨y0,y1,n,rfl,_,h0,h1⟩:=trod_struct2 Tryz.underlying25 h
 simp only [cells_bool,cells_nat,List.drop_zero,List.take_succ_cons,List.take_zero,List.drop_succ_cons] at h0 h1
 obtain ⟨neg,e0,rfl⟩:=DataW.trod_bool Tryz.underlying4 h0; obtain rfl:c0=.bool neg:=by simpa using e0
 obtain ⟨xs,hx,hr,hl⟩:=qGC h1; refine ⟨(neg,xs),hx,.cons (.bool _) (.cons hr .nil),?_⟩
 simp only [Rows.uptoBulk,Rows.uptoBulkAll,bkZ]
 omega
def bkR (r:List ZZ):Nat:=(r.map bkZ).sum+1
theorem open_vints {fuel:Nat} {v:Value} {x:DataW H × List MemPlace} (h:DataW.trod enc Tryz.prog W 0 (fun _=>true) held fuel 77 [v]=some x) :
  ∃ l:List ZZ,(∀ z∈l,okL z.2)∧Rep (fun _=>True) W (.list (l.map wS)) v∧bkR l≤Rows.uptoBulk x.1 :=
 wA6 (k:=2) wS bkZ (fun z=>okL z.2) Tryz.underlying77 wQH (by decide) (fun _=>⟨rfl,rfl⟩) (fun hl hy=>wJ7 hl hy) h
theorem qGA {fuel:Nat} {v:Value} {x:DataW H × List MemPlace} (h:DataW.trod enc Tryz.prog W 0 (fun _=>true) held fuel 26 [v]=some x) :
  ∃ t:List (List ZZ),(∀ r∈t,∀ z∈r,okL z.2)∧Rep (fun _=>True) W (tV t) v∧(t.map bkR).sum+1≤Rows.uptoBulk x.1 :=
 wA6 (k:=1) (fun r:List ZZ=>[V.list (r.map wS)]) bkR (fun r=>∀ z∈r,okL z.2) Tryz.underlying26 cells_ints (by decide) (fun _=>⟨rfl,rfl⟩) (fun {n cs y} hl hy=>by
  obtain ⟨v,rfl⟩:=wSF hl; obtain ⟨l,h1,h2,h3⟩:=open_vints hy
  exact ⟨l,h1,.cons h2 .nil,h3⟩) h
def bkM (m:MM):Nat:=bkZ m.1+((m.2.map bkR).sum+1)
def limM (m:MM):Prop:=okL m.1.2∧∀ r∈m.2,∀ z∈r,okL z.2
theorem wJ6 {fuel:Nat} {cs:List Value} (hl:cs.length=3) {x:DataW H × List MemPlace} (h:DataW.trod enc Tryz.prog W 0 (fun _=>true) held fuel 28 cs=some x) :
  ∃ m:MM,limM m∧RepL (fun _=>True) W (vM m).cells cs∧bkM m≤Rows.uptoBulk x.1:=by
 obtain ⟨c0,c1,c2,rfl⟩:=three_val hl; obtain ⟨y0,y1,n,rfl,_,h0,h1⟩:=trod_struct2 Tryz.underlying28 h
 simp only [wQH,qI7,List.drop_zero,List.take_succ_cons,List.take_zero,List.drop_succ_cons] at h0 h1
 obtain ⟨z,hz,hr,hl⟩:=wJ7 rfl h0; obtain ⟨t,ht,hrt,hlt⟩:=qGA h1
 refine ⟨(z,t),⟨hz,ht⟩,?_,?_⟩
 ·cases hr with
  | cons r0 hr =>
   cases hr with
   | cons r1 hr =>
    cases hr
    exact .cons r0 (.cons r1 (.cons hrt .nil))
 ·simp only [Rows.uptoBulk,Rows.uptoBulkAll,bkM]
  omega
set_option maxRecDepth 100000 in
theorem qD0 {r:Reach} {b0:Nat} {v:Value} {d:DataW H} {p:List MemPlace} (hv:Value.okWide Tryz.prog W r b0 28 v) (h:DataW.Trod enc Tryz.prog W 0 (fun _=>true) held 28 v d p) :
  ∃ m:MM,limM m∧Rep (fun _=>True) W (vM m) v∧bkM m≤Rows.uptoBulk d:=by
 obtain ⟨cs,rfl,hsz⟩:=okWide_struct Tryz.underlying28 hv; obtain ⟨fuel,hf⟩:=h
 obtain ⟨m,h1,h2,h3⟩:=wJ6 (cs:=cs.toList) (by rw [cV,hsz]; exact qAJ) (x:=(d,p)) (by simpa [Value.cells] using hf)
 refine ⟨m,h1,?_,h3⟩
 have:=Rep.agg (S:=fun _=>True) (w:=W) (cs:=(vM m).cells) rfl h2
 rw [dB] at this; exact this
end
theorem wS5 {α:Type} (f:α→Nat) {l:List α} {x:α} (h:x∈l):f x≤(l.map f).sum:=by
 induction l with
 | nil=>cases h
 | cons a l ih =>
  simp only [List.map_cons,List.sum_cons]
  rcases pQ.1 h with rfl | h
  ·omega
  ·have:=ih h
   omega
theorem wM6 {α:Type} (f:α→Nat) (hf:∀ x,1≤f x) (l:List α):l.length≤(l.map f).sum:=by
 induction l with
 | nil=>exact pH _
 | cons a l ih =>
  have:=hf a; simp only [List.map_cons,List.sum_cons,List.length_cons]
  omega
theorem flat_bulk (t:List (List ZZ)):t.flatten.length≤(t.map bkR).sum:=by
 induction t with
 | nil=>exact pH _
 | cons r t ih =>
  have:=wM6 bkZ (fun z=>by unfold bkZ; omega) r
  simp only [List.flatten_cons,List.length_append,List.map_cons,List.sum_cons,bkR]
  omega
end Go.Proofs.YtkjhfnhgefbhhaaGreat
/- qmat.cols, size, Size, checks, told of trees. -/
namespace Go.Proofs.YtkjhfnhgefbhhaaGreat
open Go.RowKit Go.Ev Go.Vl
def wR (t:List (List ZZ)):Nat:=(t.headD []).length
theorem cols_v (t:List (List ZZ)) (hl:t.length≤1099511627776):wD Tryz.prog 166 [vT t] (fun y=>y=.int .i64 (wR t:Nat)):=by
 refine wC wG Tryz.func166 rfl rfl rfl rfl fun w0=>?_
 cases t with
 | nil =>
  repeat (first | refine wg rfl (sL (qBD _)) ?_ | refine wv ?_ | refine wg rfl (j0 rfl rfl rfl rfl (rfl) rfl) ?_ | refine wz ?_)
  exact ⟨.inl rfl,_,rfl,rfl⟩
 | cons r t =>
  have hc:(r :: t).length=t.length+1:=rfl; have hg:=vT_at (r :: t) 0 r rfl
  repeat (first | refine wg rfl (sL (qBD _)) ?_ | refine wg rfl (sL (wA1 _)) ?_ | refine wv ?_ | refine wg rfl (sX 0 hg) ?_ | refine wg rfl cF ?_ | refine wz ?_)
  exact ⟨.inl rfl,_,rfl,rfl⟩
theorem wMG (m:MM) (hl:m.2.length≤1099511627776):wD Tryz.prog 107 [vM m] (fun y=>y=.tup [.int .i64 (m.2.length:Nat),.int .i64 (wR m.2:Nat)]):=by
 refine wC wG Tryz.func107 rfl rfl rfl rfl fun w0=>?_
 have q1:=cols_v m.2 hl; obtain ⟨⟨x,l⟩,t⟩:=m
 repeat (first | refine wg rfl (sL (qBD _)) ?_ | refine wv ?_ | refine wc q1 ?_ | refine wz ?_)
 exact ⟨.inl rfl,_,rfl,rfl⟩
theorem qSize_v (m:MM) (hd:okZ m.1) (hl:m.2.length≤1099511627776):wD Tryz.prog 59 [vM m] (fun y=>y=if chk m=0 then .tup [.int .i64 (m.2.length:Nat),.int .i64 (wR m.2:Nat),.int .i64 0] else .tup [.int .i64 0,.int .i64 0,.int .i64 (chk m)]):=by
 refine wC wG Tryz.func59 rfl rfl rfl rfl fun w0=>?_
 have q1:=wUG m hd hl; have q2:=wMG m hl
 obtain ⟨⟨x,l⟩,t⟩:=m; generalize chk ((x,l),t)=c at *
 by_cases h0:c=0
 ·repeat (first | refine wv ?_ | refine wg rfl nF ?_ | refine wc q1 ?_ | refine wc q2 ?_ | refine wz ?_)
  refine ⟨.inl rfl,_,rfl,?_⟩
  rw [if_pos h0]
 ·repeat (first | refine wv ?_ | refine wg rfl nT ?_ | refine wc q1 ?_ | refine wz ?_)
  refine ⟨.inl rfl,_,rfl,?_⟩
  rw [if_neg h0]
end Go.Proofs.YtkjhfnhgefbhhaaGreat
/- The iterators over a grid's entries, told of trees. -/
namespace Go.Proofs.YtkjhfnhgefbhhaaGreat
open Go.RowKit Go.Ev Go.Vl
def vR (rows:List (List (List V))):V:=.list (rows.map fun r=>[V.list r])
def wK4 (rows:List (List (List V))):List (List V):=rows.flatten.map fun e=>[V.agg e]
theorem qA4 (rows:List (List (List V))):(rows.map fun r=>[V.list r]).length=rows.length:=pF ..
theorem qH5 (rows:List (List (List V))) (j:Nat) (r:List (List V)) (h:rows[j]? = some r):(rows.map fun r=>[V.list r])[j]? = some [V.list r]:=by rw [pI,h]; rfl
theorem flat_at {α:Type}:∀ (rows:List (List α)) (i j:Nat) (r:List α) (e:α),rows[i]? = some r→r[j]? = some e→rows.flatten[(rows.take i).flatten.length+j]? = some e
 | [],i,j,r,e,h,_=>by simp at h
 | q :: rows,0,j,r,e,h,h2=>by
  simp only [List.getElem?_cons_zero,Option.some.injEq] at h
  subst h; have:=(pS.1 h2).1
  simp only [List.take_zero,List.flatten_nil,List.length_nil,Nat.zero_add,List.flatten_cons]
  rw [dF this]; exact h2
 | q :: rows,i+1,j,r,e,h,h2=>by
  simp only [List.getElem?_cons_succ] at h
  have ih:=flat_at rows i j r e h h2; simp only [List.take_succ_cons,List.flatten_cons,List.length_append]
  rw [mI (by omega)]
  rw [← ih]
  congr 1
  omega
theorem wW3 {α:Type} (rows:List (List α)) (i:Nat) (r:List α) (h:rows[i]? = some r):(rows.take (i+1)).flatten.length=(rows.take i).flatten.length+r.length:=by
 rw [mO,h]
 simp
theorem qH6 (rows:List (List (List V))) (i j:Nat) (r:List (List V)) (e:List V) (h:rows[i]? = some r) (h2:r[j]? = some e):(wK4 rows)[(rows.take i).flatten.length+j]? = some [V.agg e]:=by
 unfold wK4; rw [pI,flat_at rows i j r e h h2]
 rfl
theorem eachI_v (rows:List (List (List V))) (hk:∀ r∈rows,∀ e∈r,e.length=2) (hl:rows.length≤1099511627776) (hl2:∀ r∈rows,r.length≤1099511627776):VSeq Tryz.prog 225 [] [.ref [vR rows]] (wK4 rows):=by
 refine wTD Tryz.func225 rfl rfl rfl rfl fun l J hR=>?_
 refine kJ ?_
 refine xR hR fun w0=>?_
 repeat (first | refine wg rfl (sL (qA4 _)) ?_ | refine wv ?_ | refine wz ?_)
 refine ⟨_,rfl,fun _ _ h=>h,?_⟩
 refine wA2 ?_
 refine wS3 (fun i:Nat=>[jV 0 (.raw (wDC l)),jV 2 (.ref [vR rows]),jV 14 (vR rows),jI 16 (rows.length),jI 18 i])
  (fun i=>some (rows.take i).flatten.length) (fun i=>i≤rows.length) (fun i=>rows.length - i) 0 (fun _=>rfl) (pH _) rfl ⟨rfl,rfl,rfl,rfl,rfl,trivial⟩ fun i hI=>?_
 refine kJ ?_
 rcases pG i rows.length with hi | hi
 ·obtain ⟨r,hr⟩:=gE hi
  have hg:=qH5 rows i r hr; have hrl:=hl2 r (pD hr)
  have hrk:=hk r (pD hr); have hn:=wW3 rows i r hr
  refine xR hR fun w0=>?_
  repeat (first | refine wg rfl cT ?_ | refine wz ?_)
  refine ⟨_,rfl,fun _ _ h=>h,?_⟩
  refine kJ ?_
  refine xJ rfl (fun _=>?_) (fun h=>by cases h)
  refine wID ?_
  refine kJ ?_
  refine wA2 ?_
  refine kJ ?_
  refine xR hR fun w0=>?_
  repeat (first | refine wv ?_ | refine wg rfl (sX i hg) ?_ | refine wz ?_)
  refine ⟨_,rfl,fun _ _ h=>h,?_⟩
  refine kJ ?_
  refine xR hR fun w0=>?_
  repeat (first | refine wv ?_ | refine wz ?_)
  refine ⟨_,rfl,fun _ _ h=>h,?_⟩
  refine wA2 ?_
  refine wS3 (fun j:Nat=>[jV 0 (.raw (wDC l)),jV 2 (.ref [vR rows]),jV 14 (vR rows),jI 16 (rows.length),jI 18 i,jV 26 (.list r),jI 28 (r.length),jI 30 j])
   (fun j=>some ((rows.take i).flatten.length+j)) (fun j=>j≤r.length) (fun j=>r.length - j) 0 (fun _=>rfl) (pH _) rfl ⟨rfl,rfl,rfl,rfl,rfl,rfl,rfl,rfl,trivial⟩ fun j hJ=>?_
  refine kJ ?_
  rcases pG j r.length with hj | hj
  ·obtain ⟨e,he⟩:=gE hj
   have hek:=hrk e (pD he); have hL:=qH6 rows i j r e hr he
   refine xR hR fun w0=>?_
   repeat (first | refine wg rfl cT ?_ | refine wz ?_)
   refine ⟨_,rfl,fun _ _ h=>h,?_⟩
   refine kJ ?_
   refine xJ rfl (fun _=>?_) (fun h=>by cases h)
   refine wID ?_
   refine kJ ?_
   refine wA2 ?_
   refine kJ ?_
   match e,hek,he,hL with
   | [x,y],_,he,hL =>
   refine xR hR fun w0=>?_
   repeat (first | refine wv ?_ | refine wg rfl (sX j he) ?_ | refine wz ?_)
   refine ⟨[jV 0 (.raw (wDC l)),jV 2 (.ref [vR rows]),jV 12 (.ref [x,y]),jV 14 (vR rows),jI 16 (rows.length),jI 18 i,jV 26 (.list r),jI 28 (r.length),jI 30 j],rfl,imp_frz [.tmp 6] rfl ⟨rfl,rfl,rfl,rfl,rfl,rfl,rfl,rfl,rfl,trivial⟩,?_⟩
   refine kJ ?_
   refine vi_si ?_
   refine si_v wG hR rfl rfl rfl rfl rfl rfl ?_
   refine si_v wG hR rfl rfl rfl rfl rfl rfl ?_
   refine qFA hR rfl rfl rfl rfl rfl rfl hL rfl rfl rfl ?_ ?_
   ·refine si_v wG hR rfl rfl rfl rfl rfl rfl ?_
    refine wS8 rfl ?_
    refine xJ rfl (fun h=>by cases h) (fun _=>?_)
    refine wID ?_
    refine xR hR fun w0=>?_
    repeat (first | refine wv ?_ | refine wg rfl sB ?_ | refine wz ?_)
    refine ⟨_,rfl,fun _ _ h=>h,?_⟩
    exact ⟨j+1,hj,by omega,rfl,rfl,rfl,rfl,rfl,rfl,rfl,rfl,rfl,trivial⟩
   ·refine si_v wG hR rfl rfl rfl rfl rfl rfl ?_
    refine wS8 rfl ?_
    refine xJ rfl (fun _=>?_) (fun h=>by cases h)
    refine vi_ret ?_
    exact ⟨.inl rfl,.inr rfl⟩
  ·refine xR hR fun w0=>?_
   repeat (first | refine wg rfl cF ?_ | refine wz ?_)
   refine ⟨_,rfl,fun _ _ h=>h,?_⟩
   refine kJ ?_
   refine xJ rfl (fun h=>by cases h) (fun _=>?_)
   refine wS4 ?_
   refine xR hR fun w0=>?_
   repeat (first | refine wv ?_ | refine wg rfl sB ?_ | refine wz ?_)
   refine ⟨_,rfl,fun _ _ h=>h,?_⟩
   have hje:j=r.length:=by omega
   subst hje; exact ⟨i+1,hi,by omega,by rw [hn],rfl,rfl,rfl,rfl,rfl,trivial⟩
 ·refine xR hR fun w0=>?_
  repeat (first | refine wg rfl cF ?_ | refine wz ?_)
  refine ⟨_,rfl,fun _ _ h=>h,?_⟩
  refine kJ ?_
  refine xJ rfl (fun h=>by cases h) (fun _=>?_)
  refine wS4 ?_
  have hie:i=rows.length:=by omega
  subst hie; refine ⟨.inr rfl,.inl ?_⟩
  unfold wK4; rw [mH,pF]
theorem eachR_v (rows:List (List (List V))) (hk:∀ r∈rows,∀ e∈r,e.length=4) (hl:rows.length≤1099511627776) (hl2:∀ r∈rows,r.length≤1099511627776):VSeq Tryz.prog 167 [] [.ref [vR rows]] (wK4 rows):=by
 refine wTD Tryz.func167 rfl rfl rfl rfl fun l J hR=>?_
 refine kJ ?_
 refine xR hR fun w0=>?_
 repeat (first | refine wg rfl (sL (qA4 _)) ?_ | refine wv ?_ | refine wz ?_)
 refine ⟨_,rfl,fun _ _ h=>h,?_⟩
 refine wA2 ?_
 refine wS3 (fun i:Nat=>[jV 0 (.raw (wDC l)),jV 2 (.ref [vR rows]),jV 14 (vR rows),jI 16 (rows.length),jI 18 i])
  (fun i=>some (rows.take i).flatten.length) (fun i=>i≤rows.length) (fun i=>rows.length - i) 0 (fun _=>rfl) (pH _) rfl ⟨rfl,rfl,rfl,rfl,rfl,trivial⟩ fun i hI=>?_
 refine kJ ?_
 rcases pG i rows.length with hi | hi
 ·obtain ⟨r,hr⟩:=gE hi
  have hg:=qH5 rows i r hr; have hrl:=hl2 r (pD hr)
  have hrk:=hk r (pD hr); have hn:=wW3 rows i r hr
  refine xR hR fun w0=>?_
  repeat (first | refine wg rfl cT ?_ | refine wz ?_)
  refine ⟨_,rfl,fun _ _ h=>h,?_⟩
  refine kJ ?_
  refine xJ rfl (fun _=>?_) (fun h=>by cases h)
  refine wID ?_
  refine kJ ?_
  refine wA2 ?_
  refine kJ ?_
  refine xR hR fun w0=>?_
  repeat (first | refine wv ?_ | refine wg rfl (sX i hg) ?_ | refine wz ?_)
  refine ⟨_,rfl,fun _ _ h=>h,?_⟩
  refine kJ ?_
  refine xR hR fun w0=>?_
  repeat (first | refine wv ?_ | refine wz ?_)
  refine ⟨_,rfl,fun _ _ h=>h,?_⟩
  refine wA2 ?_
  refine wS3 (fun j:Nat=>[jV 0 (.raw (wDC l)),jV 2 (.ref [vR rows]),jV 14 (vR rows),jI 16 (rows.length),jI 18 i,jV 26 (.list r),jI 28 (r.length),jI 30 j])
   (fun j=>some ((rows.take i).flatten.length+j)) (fun j=>j≤r.length) (fun j=>r.length - j) 0 (fun _=>rfl) (pH _) rfl ⟨rfl,rfl,rfl,rfl,rfl,rfl,rfl,rfl,trivial⟩ fun j hJ=>?_
  refine kJ ?_
  rcases pG j r.length with hj | hj
  ·obtain ⟨e,he⟩:=gE hj
   have hek:=hrk e (pD he); have hL:=qH6 rows i j r e hr he
   refine xR hR fun w0=>?_
   repeat (first | refine wg rfl cT ?_ | refine wz ?_)
   refine ⟨_,rfl,fun _ _ h=>h,?_⟩
   refine kJ ?_
   refine xJ rfl (fun _=>?_) (fun h=>by cases h)
   refine wID ?_
   refine kJ ?_
   refine wA2 ?_
   refine kJ ?_
   match e,hek,he,hL with
   | [x,y,z,u],_,he,hL =>
   refine xR hR fun w0=>?_
   repeat (first | refine wv ?_ | refine wg rfl (sX j he) ?_ | refine wz ?_)
   refine ⟨[jV 0 (.raw (wDC l)),jV 2 (.ref [vR rows]),jV 12 (.ref [x,y,z,u]),jV 14 (vR rows),jI 16 (rows.length),jI 18 i,jV 26 (.list r),jI 28 (r.length),jI 30 j],rfl,imp_frz [.tmp 6] rfl ⟨rfl,rfl,rfl,rfl,rfl,rfl,rfl,rfl,rfl,trivial⟩,?_⟩
   refine kJ ?_
   refine vi_si ?_
   refine si_v wG hR rfl rfl rfl rfl rfl rfl ?_
   refine si_v wG hR rfl rfl rfl rfl rfl rfl ?_
   refine qFA hR rfl rfl rfl rfl rfl rfl hL rfl rfl rfl ?_ ?_
   ·refine si_v wG hR rfl rfl rfl rfl rfl rfl ?_
    refine wS8 rfl ?_
    refine xJ rfl (fun h=>by cases h) (fun _=>?_)
    refine wID ?_
    refine xR hR fun w0=>?_
    repeat (first | refine wv ?_ | refine wg rfl sB ?_ | refine wz ?_)
    refine ⟨_,rfl,fun _ _ h=>h,?_⟩
    exact ⟨j+1,hj,by omega,rfl,rfl,rfl,rfl,rfl,rfl,rfl,rfl,rfl,trivial⟩
   ·refine si_v wG hR rfl rfl rfl rfl rfl rfl ?_
    refine wS8 rfl ?_
    refine xJ rfl (fun _=>?_) (fun h=>by cases h)
    refine vi_ret ?_
    exact ⟨.inl rfl,.inr rfl⟩
  ·refine xR hR fun w0=>?_
   repeat (first | refine wg rfl cF ?_ | refine wz ?_)
   refine ⟨_,rfl,fun _ _ h=>h,?_⟩
   refine kJ ?_
   refine xJ rfl (fun h=>by cases h) (fun _=>?_)
   refine wS4 ?_
   refine xR hR fun w0=>?_
   repeat (first | refine wv ?_ | refine wg rfl sB ?_ | refine wz ?_)
   refine ⟨_,rfl,fun _ _ h=>h,?_⟩
   have hje:j=r.length:=by omega
   subst hje; exact ⟨i+1,hi,by omega,by rw [hn],rfl,rfl,rfl,rfl,rfl,trivial⟩
 ·refine xR hR fun w0=>?_
  repeat (first | refine wg rfl cF ?_ | refine wz ?_)
  refine ⟨_,rfl,fun _ _ h=>h,?_⟩
  refine kJ ?_
  refine xJ rfl (fun h=>by cases h) (fun _=>?_)
  refine wS4 ?_
  have hie:i=rows.length:=by omega
  subst hie; refine ⟨.inr rfl,.inl ?_⟩
  unfold wK4; rw [mH,pF]
end Go.Proofs.YtkjhfnhgefbhhaaGreat
/- qmat.made: a matrix in normal form. Told of trees. -/
namespace Go.Proofs.YtkjhfnhgefbhhaaGreat
open Go.RowKit Go.Ev Go.Vl
theorem qA8:∀ (zs:List ZZ) (x:Int),wE8 zs x∣x∧∀ z∈zs,wE8 zs x∣intOf z
 | [],x=>⟨Int.dvd_refl x,by simp⟩
 | z :: zs,x=>by
  obtain ⟨h1,h2⟩:=qA8 zs ((Int.gcd x (intOf z):Nat):Int); have e:wE8 (z :: zs) x=wE8 zs ((Int.gcd x (intOf z):Nat):Int):=rfl
  rw [e]; exact ⟨pE1 h1 (bT ..),fun q hq=>by
   rcases pQ.1 hq with rfl | hq
   ·exact pE1 h1 (fD ..)
   ·exact h2 q hq⟩
def wHI (t:List (List ZZ)):Int:=wE8 t.flatten 0
def wE2 (d:ZZ) (t:List (List ZZ)):Int :=
 let g:=if wHI t=0 then ((intOf d).natAbs:Int) else (Int.gcd (wHI t) (intOf d):Nat)
 if intOf d<0 then -g else g
def wAA (d:ZZ) (t:List (List ZZ)):MM:=(zn (if wR t=0 then 1 else (intOf d).tdiv (wE2 d t)),t.map fun r=>r.map fun x=>zn ((intOf x).tdiv (wE2 d t)))
def wNH (d:ZZ) (t:List (List ZZ)):Int:=if wHI t=0 then ((intOf d).natAbs:Int) else (Int.gcd (wHI t) (intOf d):Nat)
theorem wVB (d:ZZ) (t:List (List ZZ)) (hd:intOf d≠0):0<wNH d t∧wNH d t∣intOf d∧∀ r∈t,∀ x∈r,wNH d t∣intOf x:=by
 obtain ⟨_,h2⟩:=qA8 t.flatten 0; unfold wNH
 by_cases h0:wHI t=0
 ·rw [if_pos h0]
  refine ⟨by omega,Int.natAbs_dvd.2 (Int.dvd_refl _),fun r hr x hx=>?_⟩
  have:=h2 x (cL.2 ⟨r,hr,hx⟩); unfold wHI at h0
  rw [h0,Int.zero_dvd] at this; rw [this]
  exact Int.dvd_zero _
 ·rw [if_neg h0]
  refine ⟨?_,fD ..,fun r hr x hx=>?_⟩
  ·have:=bC (wHI t) hd
   omega
  ·exact pE1 (bT ..) (h2 x (cL.2 ⟨r,hr,hx⟩))
theorem qGH (d:ZZ) (t:List (List ZZ)):wE2 d t=if intOf d<0 then -wNH d t else wNH d t:=rfl
theorem wFH (d:ZZ) (t:List (List ZZ)) (hd:intOf d≠0):wE2 d t≠0∧wE2 d t∣intOf d∧∀ r∈t,∀ x∈r,wE2 d t∣intOf x:=by
 obtain ⟨h1,h2,h3⟩:=wVB d t hd; rw [qGH]
 split
 ·exact ⟨by omega,pG3.2 h2,fun r hr x hx=>pG3.2 (h3 r hr x hx)⟩
 ·exact ⟨by omega,h2,h3⟩
theorem gridT (t:List (List ZZ)):vR (t.map fun r=>r.map zrow)=vT t:=by
 unfold vR vT vZs; rw [mT]
 rfl
theorem gridTL (t:List (List ZZ)):wK4 (t.map fun r=>r.map zrow)=t.flatten.map fun z=>[vI z]:=by
 unfold wK4; rw [← pE8,mT]
 rfl
theorem eachI2_v (rows:List (List (List V))):wD Tryz.prog 171 [vR rows] (fun y=>y=.clo 225 [] [.ref [vR rows]]):=by
 refine wC wG Tryz.func171 rfl rfl rfl rfl fun w0=>?_
 repeat (first | refine wv ?_ | refine wx ?_ | refine wz ?_)
 exact ⟨.inl rfl,_,rfl,rfl⟩
theorem foldG2' (g:Int) (z:ZZ):wE8 [zn g,z] 0=(Int.gcd g (intOf z):Nat):=by
 show (Int.gcd ((Int.gcd 0 (intOf (zn g)):Nat):Int) (intOf z):Int)=_
 rw [wE,Int.gcd_zero_left]; unfold Int.gcd
 rw [mS]
theorem flat_ok (t:List (List ZZ)) (ht:∀ r∈t,∀ x∈r,okZ x) (z:ZZ) (h:z∈t.flatten):okZ z:=by
 obtain ⟨r,h1,h2⟩:=cL.1 h; exact ht r h1 z h2
theorem zZ {α:Type} (l:List α) (j:Nat) (x:α) (h:l[j]? = some x):l.drop j=x :: l.drop (j+1):=by
 have hj:=(pS.1 h).1; rw [bM hj]
 rw [pU hj] at h; cases h
 rfl
theorem qD5 (d:ZZ) (t:List (List ZZ)) (hd:okZ d) (h0:intOf d≠0) (ht:∀ r∈t,∀ x∈r,okZ x) (hl:t.length≤1099511627776) (hl2:∀ r∈t,r.length≤1099511627776):wD Tryz.prog 113 [vI d,vT t] (fun y=>y=vM (wAA d t)):=by
 refine y6 wG Tryz.func113 rfl rfl rfl rfl fun w0 hmk hro=>?_
 have q0:=eachI2_v (t.map fun r=>r.map zrow)
 rw [gridT] at q0; have hseq:=eachI_v (t.map fun r=>r.map zrow) (fun r hr e he=>by
  obtain ⟨r',_,rfl⟩:=pJ.1 hr; obtain ⟨z,_,rfl⟩:=pJ.1 he
  rfl) (by simpa using hl) (fun r hr=>by
  obtain ⟨r',h1,rfl⟩:=pJ.1 hr
  simpa using hl2 r' h1)
 rw [gridTL,gridT] at hseq; obtain ⟨x,l⟩:=d
 repeat (first | refine wv ?_ | refine wc q0 ?_ | refine wz ?_)
 refine wP6 2 2 rfl rfl fun u2=>?_
 refine wP6 4 4 rfl rfl fun u4=>?_
 refine wP6 5 5 rfl rfl fun u5=>?_
 refine qEE 5 1 rfl rfl rfl ?_
 refine wF4 wG (fun b:ZZ=>[jC 5 [.v (.bool x),.v (vL l)],jC 9 [.v (.bool false),.nils,.nils],jC 11 [.v (.bool b.1),.v (vL b.2)]])
  [jV 2 (vT t),(4,some (.sv (.rp 2 u2 0))),(8,some (.sv (.rp 4 u4 0))),(10,some (.sv (.rp 5 u5 0)))]
  (fun j b=>∃ g:Int,b=zn g∧okZ b∧wE8 (t.flatten.drop j) g=wHI t) (false,[])
  (fun _ e b=>[jB 12 6,jC 13 (match e with | [.agg cs]=>cs.map .v | _=>[]),jC 5 [.v (.bool x),.v (vL l)],jC 9 [.v (.bool false),.nils,.nils],jC 11 [.v (.bool b.1),.v (vL b.2)],jV 2 (vT t),(4,some (.sv (.rp 2 u2 0))),(8,some (.sv (.rp 4 u4 0))),(10,some (.sv (.rp 5 u5 0)))])
  hro hmk rfl rfl hseq rfl (fun e he=>by
   obtain ⟨z,_,rfl⟩:=pJ.1 he
   rfl) rfl (fun _=>rfl) ⟨0,by simp [zn,qB],⟨(fun _ h=>by cases h),pH _⟩,rfl⟩ ⟨rfl,rfl,rfl,rfl,rfl,rfl,rfl,trivial⟩ (fun _ _ _=>rfl) ?_ ?_ ?_
 ·intro j e b he hI w1
  rw [pI] at he; obtain ⟨z,hz,rfl⟩:=bJ.1 he
  obtain ⟨zx,zl⟩:=z
  repeat (first | refine wv ?_ | refine wz ?_)
  exact ⟨rfl,rfl,rfl,rfl,rfl,rfl,rfl,rfl,rfl,rfl,trivial⟩
 ·intro j e b he hI w1
  rw [pI] at he; obtain ⟨z,hz,rfl⟩:=bJ.1 he
  obtain ⟨g,rfl,hgo,hg⟩:=hI; have hzo:=flat_ok t ht z (pD hz)
  rw [zZ _ j z hz] at hg; have hok:=wN5 g z hgo hzo
  have q:=wP3 [zn g,z] (fun y hy=>by
   rcases pQ.1 hy with rfl | hy
   ·exact hgo
   ·rw [pL.1 hy]; exact hzo) (by show 2≤1099511627776; decide)
  rw [foldG2'] at q; obtain ⟨zx,zl⟩:=z
  repeat (first | refine wv ?_ | refine wh q ?_ | refine wz ?_)
  exact ⟨rfl,zn (Int.gcd g (intOf (zx,zl)):Nat),⟨_,rfl,hok,hg⟩,rfl,rfl,rfl,rfl,rfl,rfl,rfl,trivial⟩
 ·intro b hI
  obtain ⟨g,rfl,hgo,hg⟩:=hI; rw [pY (by rw [pF]; exact pE _)] at hg
  have hg':g=wHI t:=hg; subst hg'
  have q1:=vH (zn (wHI t)) hgo; rw [wE] at q1
  show VW _ _ _ _ _ _
  obtain ⟨hG1,hG2,hG3⟩:=wVB (x,l) t h0; obtain ⟨hS1,hS2,hS3⟩:=wFH (x,l) t h0
  have hSe:=qGH (x,l) t; obtain ⟨G,hGe⟩:∃ G,wNH (x,l) t=G:=⟨_,rfl⟩
  obtain ⟨S,hSS⟩:∃ S,wE2 (x,l) t=S:=⟨_,rfl⟩; obtain ⟨D,hDe⟩:∃ D:Int,(if wR t=0 then 1 else (intOf (x,l)).tdiv S)=D:=⟨_,rfl⟩
  rw [hGe] at hG1 hG2 hG3 hSe; rw [hSS] at hS1 hS2 hS3 hSe
  have hGo:okZ (zn G):=okZ_dvd G (intOf (x,l)) (cO (by omega) (pC4.2 hG2)) (wE0 _ hd)
  have hSo:okZ (zn S):=okZ_dvd S (intOf (x,l)) (cO (by omega) (pC4.2 hS2)) (wE0 _ hd)
  refine vw_seq ?_
  repeat (first | refine wv ?_ | refine wg rfl (j0 rfl rfl rfl rfl (rfl) rfl) ?_ | refine wc q1 ?_ | refine wz ?_)
  refine wM3 (fun _:Unit=>[jC 5 [.v (.bool x),.v (vL l)],jC 9 [.v (.bool false),.nils,.nils],jC 11 [.v (.bool (zn G).1),.v (vL (zn G).2)],jV 2 (vT t),(4,some (.sv (.rp 2 u2 0))),(8,some (.sv (.rp 4 u4 0))),(10,some (.sv (.rp 5 u5 0)))]) (fun _=>True) (fun _=>rfl) ?_ fun _ _=>?_
  ·by_cases hz:wHI t=0
   ·have hs:sgn (wHI t)=0:=by rw [hz]; rfl
    have e:((wB l:Nat):Int)=G:=by rw [← hGe]; unfold wNH; rw [if_pos hz,kF]
    have q2:=zabs_v (x,l) hd; dsimp only at q2
    rw [e] at q2; generalize sgn (wHI t)=sg at *
    subst hs
    repeat (first | refine wv ?_ | refine wc q2 ?_ | refine wz ?_)
    exact ⟨(),trivial,rfl,rfl,rfl,rfl,rfl,rfl,rfl,trivial⟩
   ·have hs:sgn (wHI t)≠0:=by rcases xN (wHI t) with h | h | h <;> omega
    have e:((Int.gcd (wHI t) (intOf (x,l)):Nat):Int)=G:=by rw [← hGe]; unfold wNH; rw [if_neg hz]
    have q2:=wP3 [zn (wHI t),(x,l)] (fun y hy=>by
     rcases pQ.1 hy with rfl | hy
     ·exact hgo
     ·rw [pL.1 hy]; exact hd) (by show 2≤1099511627776; decide)
    rw [foldG2',e] at q2; rw [decide_eq_false hs]
    repeat (first | refine wv ?_ | refine wh q2 ?_ | refine wz ?_)
    exact ⟨(),trivial,rfl,rfl,rfl,rfl,rfl,rfl,rfl,trivial⟩
  have q3:=vH (x,l) hd; have q4:=qB8 (zn G) hGo
  rw [wE] at q4
  repeat (first | refine wv ?_ | refine wg rfl (j0 rfl rfl rfl rfl (rfl) rfl) ?_ | refine wc q3 ?_ | refine wz ?_)
  refine wM3 (fun _:Unit=>[jC 5 [.v (.bool x),.v (vL l)],jC 9 [.v (.bool false),.nils,.nils],jC 11 [.v (.bool (zn S).1),.v (vL (zn S).2)],jV 2 (vT t),(4,some (.sv (.rp 2 u2 0))),(8,some (.sv (.rp 4 u4 0))),(10,some (.sv (.rp 5 u5 0)))]) (fun _=>True) (fun _=>rfl) ?_ fun _ _=>?_
  ·by_cases hn:intOf (x,l)<0
   ·have hs:sgn (intOf (x,l))<0:=by rcases xN (intOf (x,l)) with h | h | h <;> omega
    rw [if_pos hn] at hSe; rw [← hSe] at q4
    rw [decide_eq_true hs]
    repeat (first | refine wv ?_ | refine wc q4 ?_ | refine wz ?_)
    exact ⟨(),trivial,rfl,rfl,rfl,rfl,rfl,rfl,rfl,trivial⟩
   ·have hs:¬ sgn (intOf (x,l))<0:=by rcases xN (intOf (x,l)) with h | h | h <;> omega
    rw [if_neg hn] at hSe; subst hSe
    rw [decide_eq_false hs]
    repeat refine wz ?_
    exact ⟨(),trivial,rfl,rfl,rfl,rfl,rfl,rfl,rfl,trivial⟩
  have q5:=x6 (x,l) (zn S) hd hSo (by rw [wE]; exact hS1) (by rw [wE]; exact hS2)
  rw [wE] at q5; refine wTA 4 4 rfl rfl ?_
  have q6:=cols_v t hl; have q7:=wR0 1 (by decide)
  repeat (first | refine wg rfl (wKG wG rfl rfl rfl rfl rfl rfl rfl rfl rfl) ?_ | refine wc q5 ?_ | refine wc q6 ?_ | refine wv ?_ | refine wg rfl (j0 rfl rfl rfl rfl (rfl) rfl) ?_ | refine wz ?_)
  refine wM3 (fun _:Unit=>[jC 5 [.v (.bool x),.v (vL l)],jC 9 [.v (.bool false),.nils,.nils],jC 11 [.v (.bool (zn S).1),.v (vL (zn S).2)],jV 2 (vT t),(4,some (.sv (.rp 2 u2 0))),jB 8 4,(10,some (.sv (.rp 5 u5 0))),
   jB 14 7,jC 15 [.v (.bool (zn D).1),.v (vL (zn D).2),.v (.raw (.slice none 0 0))]]) (fun _=>True) (fun _=>rfl) ?_ fun _ _=>?_
  ·by_cases hc:wR t=0
   ·rw [if_pos hc] at hDe
    subst hDe; rw [decide_eq_true (show ((wR t:Nat):Int)=0 by omega)]
    repeat (first | refine wv ?_ | refine wc q7 ?_ | refine wz ?_)
    exact ⟨(),trivial,rfl,rfl,rfl,rfl,rfl,rfl,rfl,rfl,rfl,trivial⟩
   ·rw [if_neg hc] at hDe
    subst hDe; rw [decide_eq_false (show ¬ ((wR t:Nat):Int)=0 by omega)]
    repeat refine wz ?_
    exact ⟨(),trivial,rfl,rfl,rfl,rfl,rfl,rfl,rfl,rfl,rfl,trivial⟩
  refine wKB 7 2 1 77 rfl rfl rfl ?_
  repeat (first | refine wg rfl (sL (jP t)) ?_ | refine wv ?_ | refine wz ?_)
  refine wJ (fun j:Nat=>[jC 5 [.v (.bool x),.v (vL l)],jC 9 [.v (.bool false),.nils,.nils],jC 11 [.v (.bool (zn S).1),.v (vL (zn S).2)],jV 2 (vT t),(4,some (.sv (.rp 2 u2 0))),jB 8 4,(10,some (.sv (.rp 5 u5 0))),
   jB 14 7,jC 15 [.v (.bool (zn D).1),.v (vL (zn D).2),.own 0 77 1 (kB ((t.take j).map fun r=>r.map fun x=>zn ((intOf x).tdiv S)))],jV 98 (vT t),jI 100 (t.length),jI 102 j])
   (fun j=>j≤t.length) (fun j=>t.length - j) 0 (fun _=>rfl) (pH _) ⟨rfl,rfl,rfl,rfl,rfl,rfl,rfl,rfl,rfl,rfl,rfl,rfl,trivial⟩ fun j hJ=>?_
  rcases pG j t.length with hj | hj
  ·obtain ⟨r,hr⟩:=gE hj
   have hrl:=hl2 r (pD hr); have hro:=ht r (pD hr)
   have hrS:=hS3 r (pD hr); have hg:=wCH t j r hr
   repeat (first | refine wg rfl (sL (vS r)) ?_ | refine wg rfl (sX j hg) ?_ | refine wg rfl (sM 7000 0 r.length 2 32 (es':=[]) rfl) ?_ | refine wv ?_ | refine wg rfl cT ?_ | refine wz ?_)
   refine wJ (fun k:Nat=>[jC 5 [.v (.bool x),.v (vL l)],jC 9 [.v (.bool false),.nils,.nils],jC 11 [.v (.bool (zn S).1),.v (vL (zn S).2)],jV 2 (vT t),(4,some (.sv (.rp 2 u2 0))),jB 8 4,(10,some (.sv (.rp 5 u5 0))),
    jB 14 7,jC 15 [.v (.bool (zn D).1),.v (vL (zn D).2),.own 0 77 1 (kB ((t.take j).map fun r=>r.map fun x=>zn ((intOf x).tdiv S)))],jV 98 (vT t),jI 100 (t.length),jI 102 j,
    jO 20 2 25 2 (((r.take k).map fun x=>zn ((intOf x).tdiv S)).map wS),jV 116 (.list (r.map wS)),jI 118 (r.length),jI 120 k])
    (fun k=>k≤r.length) (fun k=>r.length - k) 0 (fun _=>rfl) (pH _) ⟨rfl,rfl,rfl,rfl,rfl,rfl,rfl,rfl,rfl,rfl,rfl,rfl,⟨_,rfl⟩,rfl,rfl,rfl,trivial⟩ fun k hK=>?_
   rcases pG k r.length with hk | hk
   ·obtain ⟨z,hz⟩:=gE hk
    have hzo:=hro z (pD hz); have hzS:=hrS z (pD hz)
    have hg2:=wG7 r k z hz; have q8:=x6 z (zn S) hzo hSo (by rw [wE]; exact hS1) (by rw [wE]; exact hzS)
    rw [wE] at q8; have hs:((r.take k).map fun x=>zn ((intOf x).tdiv S)).map wS++[wS (zn ((intOf z).tdiv S))]=((r.take (k+1)).map fun x=>zn ((intOf x).tdiv S)).map wS:=by
     rw [mO,hz]
     simp
    have hlen:(((r.take k).map fun x=>zn ((intOf x).tdiv S)).map wS).length=k:=by rw [pF,pF,pM]; omega
    have wJJ:∀ e∈[wS (zn ((intOf z).tdiv S))],e.length=2:=fun e h=>by rw [pL.1 h]; rfl
    obtain ⟨zx,zl⟩:=z
    repeat (first | refine wg rfl (sX k hg2) ?_ | refine wc q8 ?_ | refine wf rfl rfl (sA 7001 [wS (zn ((intOf (zx,zl)).tdiv S))] 2 32 wJJ hs) ?_ | refine wv ?_ | refine wg rfl cT ?_ | refine wg rfl sB ?_ | refine wz ?_)
    exact ⟨k+1,hk,by omega,rfl,rfl,rfl,rfl,rfl,rfl,rfl,rfl,rfl,rfl,rfl,rfl,⟨_,rfl⟩,rfl,rfl,rfl,trivial⟩
   ·have hke:k=r.length:=by omega
    subst hke; rw [mH]
    have hs:kB ((t.take j).map fun r=>r.map fun x=>zn ((intOf x).tdiv S))++[[V.list ((r.map fun x=>zn ((intOf x).tdiv S)).map wS)]]=kB ((t.take (j+1)).map fun r=>r.map fun x=>zn ((intOf x).tdiv S)):=by
     rw [mO,hr]; unfold kB
     simp
    have hlen:(kB ((t.take j).map fun r=>r.map fun x=>zn ((intOf x).tdiv S))).length=j:=by rw [jP,pF,pM]; omega
    have wB2:∀ e∈[[V.list ((r.map fun x=>zn ((intOf x).tdiv S)).map wS)]],e.length=1:=fun e h=>by rw [pL.1 h]; rfl
    repeat (first | refine wv ?_ | refine wf rfl rfl (sA 7002 [[V.list ((r.map fun x=>zn ((intOf x).tdiv S)).map wS)]] 1 24 wB2 hs) ?_ | refine wg rfl cF ?_ | refine wg rfl sB ?_ | refine wx ?_ | refine wz ?_)
    exact ⟨j+1,hj,by omega,rfl,rfl,rfl,rfl,rfl,rfl,rfl,rfl,rfl,rfl,rfl,rfl,trivial⟩
  ·have hje:j=t.length:=by omega
   subst hje; rw [mH]
   repeat (first | refine wv ?_ | refine wg rfl cF ?_ | refine rr_vfx wG [.tmp 7] rfl rfl rfl rfl rfl ?_ | refine wz ?_)
   refine ⟨.inl rfl,_,rfl,?_⟩
   unfold wAA; rw [hSS,hDe]
   exact rfl
end Go.Proofs.YtkjhfnhgefbhhaaGreat
/- simileref05: Add, Mul, Of, Int told of trees. -/
namespace Go.Proofs.YtkjhfnhgefbhhaaGreat
open Go.RowKit Go.Ev Go.Vl
def lm (x:Int):Nat:=(toL x.natAbs).length
theorem qJ (x y:Int):lm (x*y)≤lm x+lm y:=by
 unfold lm; rw [Int.natAbs_mul]
 have:=lenMul (toL x.natAbs) (toL y.natAbs) (zE _) (zE _)
 rwa [wM,wM] at this
theorem wQ5 (x y:Int) (k:Nat) (h1:lm x≤k) (h2:lm y≤k):lm (x+y)≤k+1:=by
 unfold lm at *; have h:=lenAdd (toL x.natAbs) (toL y.natAbs) k (zE _) (zE _) h1 h2
 rw [wM,wM] at h; exact pC (qC (Int.natAbs_add_le x y)) h
theorem wL3 (x:Int):lm (-x)=lm x:=by unfold lm; rw [Int.natAbs_neg]
theorem jF {x y:Int} (h:x.natAbs≤y.natAbs):lm x≤lm y:=qC h
theorem lm_dvd {x y:Int} (h:x∣y) (hy:y≠0):lm x≤lm y:=jF (cO (by omega) (pC4.2 h))
theorem wL (z:ZZ) (h:okL z.2):lm (intOf z)≤z.2.length:=by unfold lm; rw [kF]; exact vJ z.2 h
theorem qF (x:Int) (h:lm x≤1099511627776):okZ (zn x):=wFG x h
theorem zn_lm (x:Int):(zn x).2.length=lm x:=rfl
theorem wD5 (x:Int):okL (zn x).2:=zE _
def okS (q:QQ):Prop:=okL q.1.2∧okL q.2.2∧q.1.2.length≤68719476736∧q.2.2.length≤68719476736∧intOf q.2≠0
theorem okS.ok {q:QQ} (h:okS q):okZ q.1∧okZ q.2:=⟨⟨h.1,pC h.2.2.1 (by decide)⟩,⟨h.2.1,pC h.2.2.2.1 (by decide)⟩⟩
theorem zF (n d:Int) (hd:d≠0):lm (Rat.divInt n d).num≤lm n∧lm ((Rat.divInt n d).den:Int)≤lm d:=by
 rcases pD9 hd with h | h
 ·obtain ⟨h1,h2⟩:=qGG n d h
  rw [h1,h2]; refine ⟨jF ?_,jF ?_⟩
  ·rw [dX]; exact cN ..
  ·rw [dX]; exact cN ..
 ·obtain ⟨h1,h2⟩:=wHE n d h
  rw [h1,h2]; refine ⟨jF ?_,jF ?_⟩
  ·rw [dX]; exact cN ..
  ·rw [dX]; exact cN ..
theorem vV (x:Rat) (h1:lm x.num≤68719476736) (h2:lm (x.den:Int)≤68719476736):okS (qn x):=⟨zE _,zE _,h1,h2,by
 show intOf (zn (x.den:Int))≠0
 rw [wE]; have:=x.den_nz
 omega⟩
theorem wS9 (a b:QQ) (ha:okS a) (hb:okS b):wD Tryz.prog 76 [vQ a,vQ b] (fun y=>y=nR (wI a*wI b)):=by
 refine wC wG Tryz.func76 rfl rfl rfl rfl fun w0=>?_
 have q1:=wKI a.1 b.1 ha.ok.1 hb.ok.1; have q2:=wKI a.2 b.2 ha.ok.2 hb.ok.2
 have l1:=qJ (intOf a.1) (intOf b.1); have l2:=qJ (intOf a.2) (intOf b.2)
 have m1:=wL a.1 ha.1; have m2:=wL a.2 ha.2.1
 have m3:=wL b.1 hb.1; have m4:=wL b.2 hb.2.1
 have n1:=ha.2.2.1; have n2:=ha.2.2.2.1
 have n3:=hb.2.2.1; have n4:=hb.2.2.2.1
 have q3:=wCJ (zn (intOf a.1*intOf b.1)) (zn (intOf a.2*intOf b.2)) (qF _ (by omega)) (qF _ (by omega)) (by rw [wE]; exact cD ha.2.2.2.2 hb.2.2.2.2)
 rw [wE,wE] at q3; have e:wI a*wI b=Rat.divInt (intOf a.1*intOf b.1) (intOf a.2*intOf b.2):=by
  unfold wI; rw [dE]
 rw [e]; obtain ⟨⟨x,l⟩,⟨y,m⟩⟩:=a
 obtain ⟨⟨x',l'⟩,⟨y',m'⟩⟩:=b
 repeat (first | refine wv ?_ | refine wc q1 ?_ | refine wc q2 ?_ | refine wc q3 ?_ | refine wz ?_)
 exact ⟨.inl rfl,_,rfl,rfl⟩
theorem qCG (a b:QQ) (ha:okS a) (hb:okS b):wD Tryz.prog 75 [vQ a,vQ b] (fun y=>y=nR (wI a+wI b)):=by
 refine wC wG Tryz.func75 rfl rfl rfl rfl fun w0=>?_
 have q1:=wKI a.1 b.2 ha.ok.1 hb.ok.2; have q2:=wKI b.1 a.2 hb.ok.1 ha.ok.2
 have q3:=wKI a.2 b.2 ha.ok.2 hb.ok.2; have l1:=qJ (intOf a.1) (intOf b.2)
 have l2:=qJ (intOf b.1) (intOf a.2); have l3:=qJ (intOf a.2) (intOf b.2)
 have m1:=wL a.1 ha.1; have m2:=wL a.2 ha.2.1
 have m3:=wL b.1 hb.1; have m4:=wL b.2 hb.2.1
 have n1:=ha.2.2.1; have n2:=ha.2.2.2.1
 have n3:=hb.2.2.1; have n4:=hb.2.2.2.1
 have q4:=radd_v (zn (intOf a.1*intOf b.2)) (zn (intOf b.1*intOf a.2)) (qF _ (by omega)) (qF _ (by omega))
 rw [wE,wE] at q4; have l4:=wQ5 (intOf a.1*intOf b.2) (intOf b.1*intOf a.2) 137438953472 (by omega) (by omega)
 have q5:=wCJ (zn (intOf a.1*intOf b.2+intOf b.1*intOf a.2)) (zn (intOf a.2*intOf b.2)) (qF _ (by omega)) (qF _ (by omega)) (by rw [wE]; exact cD ha.2.2.2.2 hb.2.2.2.2)
 rw [wE,wE] at q5; have e:wI a+wI b=Rat.divInt (intOf a.1*intOf b.2+intOf b.1*intOf a.2) (intOf a.2*intOf b.2):=by
  unfold wI; rw [Rat.divInt_add_divInt _ _ ha.2.2.2.2 hb.2.2.2.2]
 rw [e]; obtain ⟨⟨x,l⟩,⟨y,m⟩⟩:=a
 obtain ⟨⟨x',l'⟩,⟨y',m'⟩⟩:=b
 repeat (first | refine wv ?_ | refine wc q1 ?_ | refine wc q2 ?_ | refine wc q3 ?_ | refine wc q4 ?_ | refine wc q5 ?_ | refine wz ?_)
 exact ⟨.inl rfl,_,rfl,rfl⟩
theorem wPD (k:Nat) (hk:k<9223372036854775808):wD Tryz.prog 58 [.int .i64 (k:Nat)] (fun y=>y=nR (k:Nat)):=by
 refine wC wG Tryz.func58 rfl rfl rfl rfl fun w0=>?_
 have q1:=rof_v k hk; have q2:=rof_v 1 (by decide)
 repeat (first | refine wv ?_ | refine wc q1 ?_ | refine wc q2 ?_ | refine wz ?_)
 exact ⟨.inl rfl,_,rfl,rfl⟩
theorem rint5_v (z:ZZ) (hz:okZ z):wD Tryz.prog 181 [vI z] (fun y=>y=nR (intOf z:Int)):=by
 refine wC wG Tryz.func181 rfl rfl rfl rfl fun w0=>?_
 have q1:=wB3 z hz.1 (pC hz.2 (by decide))
 have q2:=rof_v 1 (by decide)
 obtain ⟨x,l⟩:=z
 repeat (first | refine wv ?_ | refine wc q1 ?_ | refine wc q2 ?_ | refine wz ?_)
 exact ⟨.inl rfl,_,rfl,rfl⟩
end Go.Proofs.YtkjhfnhgefbhhaaGreat
