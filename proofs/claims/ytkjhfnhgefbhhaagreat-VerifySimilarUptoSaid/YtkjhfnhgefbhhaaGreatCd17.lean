/- Matrices: are the rows equally long? Told of trees. -/
import Derived.Test.YtkjhfnhgefbhhaaGreatCd16
import Derived.Test.YtkjhfnhgefbhhaaGreatRows
import Derived.Test.YtkjhfnhgefbhhaaGreatCd12
import Derived.Carry
import Derived.Lib.SmallJoins
import Derived.ChangeSlices
import Derived.JoinedCond
import Derived.Deep.Slices
import Derived.Deep.Strs
import Derived.ProofKit
import Derived.OpenShut
import Derived.Test.YtkjhfnhgefbhhaaGreatCd08
set_option linter.all false
namespace Go.Proofs.YtkjhfnhgefbhhaaGreat
open Go.RowKit Go.Ev Go.Vl
def vT (num:List (List ZZ)):V:=.list (num.map fun r=>[vZs r])
theorem vT_len (num:List (List ZZ)):(num.map fun r=>[vZs r]).length=num.length:=List.length_map ..
theorem vT_at (num:List (List ZZ)) (j:Nat) (r:List ZZ) (h:num[j]? = some r):(num.map fun r=>[vZs r])[j]? = some [vZs r]:=by rw [List.getElem?_map,h]; rfl
def evenT (num:List (List ZZ)):Bool:=num.all fun r=>decide (r.length=(num.headD []).length)
set_option maxRecDepth 20000 in
set_option maxHeartbeats 1600000 in
theorem even_v (num:List (List ZZ)) (hl:num.length≤1099511627776):wT Tryz.prog 165 [vT num] (fun y=>y=.bool (evenT num)):=by
 refine wK wB Tryz.func165 rfl rfl rfl rfl fun w0=>?_
 repeat (first | refine wG rfl rfl (wR wB rfl rfl rfl rfl rfl rfl (vT_len _) rfl) rfl ?_ | refine wQ wB rfl rfl rfl rfl ?_ | refine wF wI rfl rfl ?_ | refine wJ ?_ | refine wM ?_ | refine wC ?_)
 refine qF (fun j:Nat=>[(0,some (.sv (.v (vT num)))),(10,some (.sv (.v (vT num)))),(12,some (.sv (.v (.int .i64 (num.length:Nat))))),(14,some (.sv (.v (.int .i64 (j:Nat)))))])
  (fun j=>j≤num.length∧((num.drop j).all fun r=>decide (r.length=(num.headD []).length))=evenT num) (fun j=>num.length - j) 0 (fun _=>rfl) ⟨Nat.zero_le _,rfl⟩ ⟨rfl,rfl,rfl,rfl,trivial⟩ fun j hI=>?_
 obtain ⟨h1,h3⟩:=hI
 rcases Nat.lt_or_ge j num.length with hj | hj
 ·obtain ⟨r,hr⟩:∃ r,num[j]? = some r:=⟨_,List.getElem?_eq_getElem hj⟩
  obtain ⟨r0,hr0⟩:∃ r,num[0]? = some r:=⟨_,List.getElem?_eq_getElem (by omega)⟩
  have hh:num.headD []=r0:=by cases num with
   | nil=>simp at hj
   | cons a l=>simpa using hr0
  have hg:=vT_at num j r hr
  have hg0:=vT_at num 0 r0 hr0
  rw [drop_at num j r hr,hh] at h3
  simp only [List.all_cons] at h3
  by_cases he:r.length=r0.length
  ·rw [decide_eq_true he,Bool.true_and] at h3
   repeat (first | refine wG rfl rfl (wR wB rfl rfl rfl rfl rfl rfl (zrow_len r) rfl) rfl ?_ | refine wG rfl rfl (wR wB rfl rfl rfl rfl rfl rfl (zrow_len r0) rfl) rfl ?_ | refine wQ wB rfl rfl rfl rfl ?_ | refine wG rfl rfl (wU wB rfl rfl rfl (i:=j) rfl rfl rfl hg rfl rfl) rfl ?_ | refine wG rfl rfl (wU wB rfl rfl rfl (i:=0) rfl rfl rfl hg0 rfl rfl) rfl ?_ | refine wG rfl rfl (wH rfl rfl rfl rfl (decide_eq_true (by omega)) rfl) rfl ?_ | refine wG rfl rfl (wH rfl rfl rfl rfl (ndF (by omega)) rfl) rfl ?_ | refine wG rfl rfl (wX rfl rfl rfl rfl (qC (by omega) (by omega)) rfl) rfl ?_ | refine wF wI rfl rfl ?_ | refine wJ ?_ | refine wM ?_ | refine wC ?_ | refine wO ?_ | refine wN rfl ?_ | refine wL rfl ?_)
   exact ⟨j+1,⟨hj,by rw [hh]; exact h3⟩,by omega,rfl,rfl,rfl,rfl,trivial⟩
  ·rw [decide_eq_false he,Bool.false_and] at h3
   repeat (first | refine wG rfl rfl (wR wB rfl rfl rfl rfl rfl rfl (zrow_len r) rfl) rfl ?_ | refine wG rfl rfl (wR wB rfl rfl rfl rfl rfl rfl (zrow_len r0) rfl) rfl ?_ | refine wQ wB rfl rfl rfl rfl ?_ | refine wG rfl rfl (wU wB rfl rfl rfl (i:=j) rfl rfl rfl hg rfl rfl) rfl ?_ | refine wG rfl rfl (wU wB rfl rfl rfl (i:=0) rfl rfl rfl hg0 rfl rfl) rfl ?_ | refine wG rfl rfl (wH rfl rfl rfl rfl (decide_eq_true (by omega)) rfl) rfl ?_ | refine wG rfl rfl (wH rfl rfl rfl rfl (ndT (by omega)) rfl) rfl ?_ | refine wF wI rfl rfl ?_ | refine wJ ?_ | refine wM ?_ | refine wC ?_ | refine wP ?_ | refine wO ?_ | refine wN rfl ?_)
   refine ⟨.inl rfl,_,rfl,?_⟩
   rw [← h3]
 ·rw [List.drop_of_length_le hj] at h3
  repeat (first | refine wQ wB rfl rfl rfl rfl ?_ | refine wG rfl rfl (wH rfl rfl rfl rfl (decide_eq_false (by omega)) rfl) rfl ?_ | refine wF wI rfl rfl ?_ | refine wJ ?_ | refine wC ?_ | refine wP ?_ | refine qA ?_ | refine wL rfl ?_)
  refine ⟨.inl rfl,_,rfl,?_⟩
  rw [← h3]
  exact rfl
end Go.Proofs.YtkjhfnhgefbhhaaGreat
/- qmat.Check, told of trees. -/
namespace Go.Proofs.YtkjhfnhgefbhhaaGreat
open Go.RowKit Go.Ev Go.Vl
abbrev MM:=ZZ × List (List ZZ)
def vM (m:MM):V:=.agg [.bool m.1.1,vL m.1.2,vT m.2]
def chk (m:MM):Int:=if intOf m.1=0 then 6 else if evenT m.2=true then 0 else 2
set_option maxRecDepth 20000 in
set_option maxHeartbeats 1600000 in
theorem qcheck_v (m:MM) (hd:okZ m.1) (hl:m.2.length≤1099511627776):wT Tryz.prog 106 [vM m] (fun y=>y=.int .i64 (chk m)):=by
 refine wK wB Tryz.func106 rfl rfl rfl rfl fun w0=>?_
 have q1:=zsign_v m.1 hd
 have q2:=even_v m.2 hl
 have fin:∀ {u v:Int},u=v→V.int .i64 u=V.int .i64 v:=fun h=>by rw [h]
 have hs:=sgn_is (intOf m.1)
 unfold chk
 obtain ⟨⟨x,l⟩,t⟩:=m
 dsimp only at *
 generalize intOf (x,l)=d at *
 generalize sgn d=sd at *
 by_cases h0:d=0
 ·repeat (first | refine wQ wB rfl rfl rfl rfl ?_ | refine wG rfl rfl (wH rfl rfl rfl rfl (decide_eq_true (by omega)) rfl) rfl ?_ | refine wE wB rfl rfl rfl rfl rfl rfl rfl rfl (q1) rfl rfl ?_ | refine wF wI rfl rfl ?_ | refine wJ ?_ | refine wM ?_ | refine wC ?_ | refine wP ?_ | refine wN rfl ?_)
  refine ⟨.inl rfl,_,rfl,fin ?_⟩
  rw [if_pos h0]
 ·rw [if_neg h0]
  generalize evenT t=e at *
  cases e
  ·repeat (first | refine wQ wB rfl rfl rfl rfl ?_ | refine wG rfl rfl (wH rfl rfl rfl rfl (decide_eq_false (by omega)) rfl) rfl ?_ | refine wE wB rfl rfl rfl rfl rfl rfl rfl rfl (q1) rfl rfl ?_ | refine wE wB rfl rfl rfl rfl rfl rfl rfl rfl (q2) rfl rfl ?_ | refine wF wI rfl rfl ?_ | refine wJ ?_ | refine wM ?_ | refine wC ?_ | refine wP ?_ | refine wN rfl ?_ | refine wL rfl ?_)
   exact ⟨.inl rfl,_,rfl,rfl⟩
  ·repeat (first | refine wQ wB rfl rfl rfl rfl ?_ | refine wG rfl rfl (wH rfl rfl rfl rfl (decide_eq_false (by omega)) rfl) rfl ?_ | refine wE wB rfl rfl rfl rfl rfl rfl rfl rfl (q1) rfl rfl ?_ | refine wE wB rfl rfl rfl rfl rfl rfl rfl rfl (q2) rfl rfl ?_ | refine wF wI rfl rfl ?_ | refine wJ ?_ | refine wM ?_ | refine wC ?_ | refine wP ?_ | refine wO ?_ | refine wL rfl ?_)
   exact ⟨.inl rfl,_,rfl,rfl⟩
end Go.Proofs.YtkjhfnhgefbhhaaGreat
/- How the arguments of these laws read, as trees; and that they read so behind the call. -/
namespace Go.Proofs.YtkjhfnhgefbhhaaGreat
open Go.ChangeShapes Go.WideShapes Go.ChangeAt Go.RowKit Go.Deep Go.Vl
theorem own_knob:ownKnob Tryz.prog.godebug=none:=by kernel_rfl
theorem laidOut:laidOutB Tryz.prog=true:=by kernel_rfl
theorem stays {H:Type} {enc:TypeId × Value→H} {t:TypeId} (hr:Tryz.prog.readableRec t=true) (hrow:t<Tryz.prog.types.size) {W W':World} {v:Value} {d:DataW H} {ps:List MemPlace}
  (h:DataW.Trod enc Tryz.prog W 0 (fun _=>true) true t v d ps) (hb:Below W.heap.size W W') (hlt:∀ x∈ps,x.block<W.heap.size) :
  DataW.Trod enc Tryz.prog W' 0 (fun b=>decide (b<W.heap.size)) true t v d ps :=
 Below.trod laidOut hr hrow h hb hlt
theorem post_stays {H:Type} {enc:TypeId × Value→H} {P:Program} {f:Func} {s:ChangeSpec} {apart fresh handsOn:Bool} {W W':World} {args:Array Value} {v:Value} {ds gs:List (DataW H)} {before pa pv:List MemPlace}
  (hW:DataW.Whole enc P f.params.toList s.vars apart W args.toList ds gs before) (hB:Below W.heap.size W W')
  (hres:∀ (b:Nat) (sp:Nat→Bool) (hd:Bool),DataW.TrodAll enc P W' b sp hd f.resultTypes.toList (v.resultList f.resultTypes.size) (s.fn H (ds++gs)).results [])
  (hargs:DataW.TrodAll enc P W' 0 (fun b=>decide (b<W.heap.size)) true f.params.toList args.toList (s.fn H (ds++gs)).args pa)
  (hvars:DataW.TrodVars enc P W' (fun b=>decide (b<W.heap.size)) s.vars (s.fn H (ds++gs)).vars pv) :
  s.post enc P f apart fresh handsOn false W args v W':=by
 have hold:∀ p,p∈before→(fun b=>decide (b<W.heap.size)) p.block=true:=by
  intro p hp
  have:=hW.lt p hp
  simpa using this
 refine ⟨ds,gs,before,[],pa,pv,hW,hres _ _ _,hargs,hvars,hB.frame _,fun h=>?_⟩
 cases h
theorem range_bulk {H:Type} {α:Type} (f:α→Nat) (V:Nat→α) (D:Nat→DataW H) (L:List Nat) (h:∀ i,i∈L→f (V i)≤Rows.uptoBulk (D i)):((L.map V).map f).sum≤Rows.uptoBulkAll (L.map D):=by
 induction L with
 | nil=>simp
 | cons y l ih =>
  have h1:=h y (List.mem_cons_self ..)
  have h2:=ih fun i hi=>h i (List.mem_cons_of_mem _ hi)
  simp only [List.map_cons,List.sum_cons,Rows.uptoBulkAll]
  omega
theorem addr_none {W:World} {a:Addr} {v:Value} (h:W.cell? a=some v):a.spot=none:=by
 obtain ⟨b,off,sp⟩:=a
 unfold World.cell? at h
 split at h
 ·cases sp with
  | none=>rfl
  | some _=>simp at h
 ·cases h
theorem flat_cell {k:Nat} (hk:0<k) {vs:List (List Value)} (hv:∀ c∈vs,c.length=k) {j:Nat} {u:Value} (h:vs.flatten[j]? = some u):∃ c,vs[j / k]? = some c∧c[j % k]? = some u:=by
 have hj:j<vs.length*k:=by
  rw [← flat_len hv]
  exact (List.getElem?_eq_some_iff.1 h).1
 have hd:j / k<vs.length:=(Nat.div_lt_iff_lt_mul hk).2 hj
 refine ⟨vs[j / k],List.getElem?_eq_getElem hd,?_⟩
 have e:=flat_seg hv (j / k) _ (List.getElem?_eq_getElem hd)
 rw [← e,List.getElem?_take,if_pos (Nat.mod_lt _ hk),List.getElem?_drop]
 have:j / k*k+j % k=j:=by rw [Nat.mul_comm]; exact Nat.div_add_mod j k
 rw [this]
 exact h
section
variable {H:Type} {enc:TypeId × Value→H} {W:World} {held:Bool}
theorem open_vslice {t e:TypeId} {k fuel:Nat} {α:Type} [Inhabited α] {v:Value} {x:DataW H × List MemPlace} (f:α→List V) (bk:α→Nat) (ok:α→Prop) (ht:Tryz.prog.underlying t=some (.slice e)) (hk:Tryz.prog.cellsOf e=k) (hk0:0<k) (hf:∀ x,(f x).length=k∧qH (f x)=true)
  (hel:∀ {n:Nat} {cs:List Value} {y:DataW H × List MemPlace},cs.length=k→DataW.trod enc Tryz.prog W 0 (fun _=>true) held n e cs=some y→∃ x,ok x∧RepL (fun _=>True) W (f x) cs∧bk x≤Rows.uptoBulk y.1)
  (h:DataW.trod enc Tryz.prog W 0 (fun _=>true) held fuel t [v]=some x):∃ l:List α,(∀ x∈l,ok x)∧Rep (fun _=>True) W (.list (l.map f)) v∧(l.map bk).sum+1≤Rows.uptoBulk x.1:=by
 rcases open_slice ht h with ⟨h1,rfl⟩ | ⟨a,len,cap,m,n,D,Pl,h1,_,hlc,_,hm,rfl,hx⟩
 ·obtain rfl:v=.slice none 0 0:=by simpa using h1
  exact ⟨[],by simp,.nils,by simp [Rows.uptoBulk]⟩
 ·obtain rfl:v=.slice (some a) len cap:=by simpa using h1
  rw [if_pos rfl] at hm
  subst hm
  rw [hk] at hx
  obtain ⟨V,hV⟩:=choose_lt (n:=len) (α:=α × List Value) (p:=fun i q=>W.cells? 0 (a.add (i*k)) k=some q.2∧q.2.length=k∧ok q.1∧RepL (fun _=>True) W (f q.1) q.2∧bk q.1≤Rows.uptoBulk (D i)) (fun i hi=>by
   obtain ⟨cs',g1,g2⟩:=hx i (by omega)
   obtain ⟨_,hlen,_⟩:=World.cells?_some g1
   obtain ⟨q,k1,k2,k3⟩:=hel hlen g2
   exact ⟨(q,cs'),g1,hlen,k1,k2,k3⟩)
  refine ⟨(List.range len).map fun i=>(V i).1,fun y hy=>?_,?_,?_⟩
  ·obtain ⟨i,hi,rfl⟩:=List.mem_map.1 hy
   exact (hV i (List.mem_range.1 hi)).2.2.1
  ·rcases Nat.eq_zero_or_pos len with h0 | hpos
   ·subst h0
    exact .emp a m
   ·have hsub:a.spot=none:=by
     obtain ⟨g1,g2,_⟩:=hV 0 hpos
     obtain ⟨_,_,g3⟩:=World.cells?_some g1
     have g4:=g3 0 hk0
     rw [Nat.zero_mul] at g4
     exact addr_none (a:=a) (g4.trans (List.getElem?_eq_getElem (by omega)))
    obtain ⟨b,off,sp⟩:=a
    obtain rfl:sp=none:=hsub
    have hes:(((List.range len).map fun i=>(V i).1).map f).length=len:=by simp
    have hvs:∀ c∈(List.range len).map fun i=>(V i).2,c.length=k:=fun c hc=>by
     obtain ⟨i,hi,rfl⟩:=List.mem_map.1 hc
     exact (hV i (List.mem_range.1 hi)).2.1
    have hfl:RepL (fun _=>True) W (((List.range len).map fun i=>(V i).1).map f).flatten ((List.range len).map fun i=>(V i).2).flatten:=RepL.flat (by simp) fun i e u he hu=>by
     rw [List.getElem?_map,List.getElem?_map] at he
     rw [List.getElem?_map] at hu
     cases hr:(List.range len)[i]? with
     | none=>rw [hr] at hu; cases hu
     | some q =>
      rw [hr] at he hu
      cases he
      cases hu
      have hq:=(List.getElem?_eq_some_iff.1 hr)
      obtain ⟨hq1,hq2⟩:=hq
      rw [List.getElem_range] at hq2
      subst hq2
      exact (hV i (by simpa using hq1)).2.2.2.1
    have:=Rep.list (S:=fun _=>True) (w:=W) (k:=k) (es:=((List.range len).map fun i=>(V i).1).map f) (us:=((List.range len).map fun i=>(V i).2).flatten) (b:=b) (off:=off) (cap:=m)
     (fun e he=>by obtain ⟨y,_,rfl⟩:=List.mem_map.1 he; exact (hf y).1) (fun e he=>by obtain ⟨y,_,rfl⟩:=List.mem_map.1 he; exact (hf y).2) (by rw [hes]; exact hlc) hfl (fun _=>⟨trivial,by
      obtain ⟨g1,g2,_⟩:=hV 0 hpos
      obtain ⟨_,_,g3⟩:=World.cells?_some g1
      have g4:=g3 0 hk0
      rw [Nat.zero_mul] at g4
      exact World.block_lt_of_cell? W ⟨b,off,none⟩ (g4.trans (List.getElem?_eq_getElem (by omega)))⟩) (fun j u hj=>by
      obtain ⟨c,c1,c2⟩:=flat_cell hk0 hvs hj
      rw [List.getElem?_map] at c1
      cases hr:(List.range len)[j / k]? with
      | none=>rw [hr] at c1; cases c1
      | some q =>
       rw [hr] at c1
       cases c1
       obtain ⟨hq1,hq2⟩:=(List.getElem?_eq_some_iff.1 hr)
       rw [List.getElem_range] at hq2
       subst hq2
       obtain ⟨g1,g2,_⟩:=hV (j / k) (by simpa using hq1)
       obtain ⟨_,_,g3⟩:=World.cells?_some g1
       have g4:=g3 (j % k) (Nat.mod_lt _ hk0)
       rw [c2] at g4
       have e:off+j / k*k+j % k=off+j:=by
        have:=Nat.div_add_mod j k
        rw [Nat.mul_comm] at this
        omega
       rw [Addr.add_lit,Addr.add_lit,e] at g4
       exact g4)
    rwa [hes] at this
  ·have:=range_bulk (fun q:α × List Value=>bk q.1) V D (List.range len) (fun i hi=>(hV i (by simpa using hi)).2.2.2.2)
   rw [List.map_map] at this ⊢
   simp only [Rows.uptoBulk]
   have e:(List.map (bk ∘ fun i=>(V i).fst) (List.range len))=List.map ((fun q:α × List Value=>bk q.1) ∘ V) (List.range len):=rfl
   rw [e]
   omega
theorem u32_wf (n:Int) (h:(Lit.int .u32 n).wf=true):0≤n∧n<4294967296:=by
 have:0≤n∧n≤4294967295:=by simpa [Lit.wf,IntKind.min,IntKind.max,IntKind.signed,IntKind.bits] using h
 omega
theorem cells_bool:Tryz.prog.cellsOf 4=1:=by kernel_rfl
theorem cells_nat:Tryz.prog.cellsOf 23=1:=by kernel_rfl
theorem cells_u32:Tryz.prog.cellsOf 180=1:=by kernel_rfl
theorem cells_int:Tryz.prog.cellsOf 25=2:=by kernel_rfl
theorem cells_ints:Tryz.prog.cellsOf 77=1:=by kernel_rfl
theorem cells_table:Tryz.prog.cellsOf 26=1:=by kernel_rfl
theorem cells_mat:Tryz.prog.cellsOf 28=3:=by kernel_rfl
theorem one_val {cs:List Value} (h:cs.length=1):∃ v,cs=[v]:=by
 match cs,h with
 | [v],_=>exact ⟨v,rfl⟩
theorem two_val {cs:List Value} (h:cs.length=2):∃ u v,cs=[u,v]:=by
 match cs,h with
 | [u,v],_=>exact ⟨u,v,rfl⟩
theorem three_val {cs:List Value} (h:cs.length=3):∃ u v x,cs=[u,v,x]:=by
 match cs,h with
 | [u,v,x],_=>exact ⟨u,v,x,rfl⟩
theorem sum_const {α:Type} (l:List α):(l.map fun _=>1).sum=l.length:=by
 induction l with
 | nil=>rfl
 | cons a l ih=>simp only [List.map_cons,List.sum_cons,ih,List.length_cons]; omega
theorem open_vlimbs {fuel:Nat} {v:Value} {x:DataW H × List MemPlace} (h:DataW.trod enc Tryz.prog W 0 (fun _=>true) held fuel 23 [v]=some x) :
  ∃ l,okL l∧Rep (fun _=>True) W (vL l) v∧l.length+1≤Rows.uptoBulk x.1:=by
 obtain ⟨l,h1,h2,h3⟩:=open_vslice (k:=1) (fun n:Nat=>[V.int .u32 (n:Nat)]) (fun _=>1) (fun n=>n<4294967296) Tryz.underlying23 cells_u32 (by decide) (fun _=>⟨rfl,rfl⟩) (fun {n cs y} hl hy=>by
  obtain ⟨v,rfl⟩:=one_val hl
  obtain ⟨z,e1,rfl,e3⟩:=DataW.trod_int Tryz.underlying180 hy
  obtain rfl:v=.int .u32 z:=by simpa using e1
  obtain ⟨w1,w2⟩:=u32_wf z e3
  obtain ⟨q,rfl⟩:=Int.eq_ofNat_of_zero_le w1
  exact ⟨q,by omega,.cons (.int _ _) .nil,by simp [Rows.uptoBulk]⟩) h
 refine ⟨l,h1,h2,?_⟩
 rwa [sum_const] at h3
def bkZ (z:ZZ):Nat:=z.2.length+1
theorem open_vint {fuel:Nat} {cs:List Value} (hl:cs.length=2) {x:DataW H × List MemPlace} (h:DataW.trod enc Tryz.prog W 0 (fun _=>true) held fuel 25 cs=some x) :
  ∃ z:ZZ,okL z.2∧RepL (fun _=>True) W (qI z) cs∧bkZ z≤Rows.uptoBulk x.1:=by
 obtain ⟨c0,c1,rfl⟩:=two_val hl
 obtain ⟨y0,y1,n,rfl,_,h0,h1⟩:=trod_struct2 Tryz.underlying25 h
 simp only [cells_bool,cells_nat,List.drop_zero,List.take_succ_cons,List.take_zero,List.drop_succ_cons] at h0 h1
 obtain ⟨neg,e0,rfl⟩:=DataW.trod_bool Tryz.underlying4 h0
 obtain rfl:c0=.bool neg:=by simpa using e0
 obtain ⟨xs,hx,hr,hl⟩:=open_vlimbs h1
 refine ⟨(neg,xs),hx,.cons (.bool _) (.cons hr .nil),?_⟩
 simp only [Rows.uptoBulk,Rows.uptoBulkAll,bkZ]
 omega
def bkR (r:List ZZ):Nat:=(r.map bkZ).sum+1
theorem open_vints {fuel:Nat} {v:Value} {x:DataW H × List MemPlace} (h:DataW.trod enc Tryz.prog W 0 (fun _=>true) held fuel 77 [v]=some x) :
  ∃ l:List ZZ,(∀ z∈l,okL z.2)∧Rep (fun _=>True) W (.list (l.map qI)) v∧bkR l≤Rows.uptoBulk x.1 :=
 open_vslice (k:=2) qI bkZ (fun z=>okL z.2) Tryz.underlying77 cells_int (by decide) (fun _=>⟨rfl,rfl⟩) (fun hl hy=>open_vint hl hy) h
theorem open_vtable {fuel:Nat} {v:Value} {x:DataW H × List MemPlace} (h:DataW.trod enc Tryz.prog W 0 (fun _=>true) held fuel 26 [v]=some x) :
  ∃ t:List (List ZZ),(∀ r∈t,∀ z∈r,okL z.2)∧Rep (fun _=>True) W (tV t) v∧(t.map bkR).sum+1≤Rows.uptoBulk x.1 :=
 open_vslice (k:=1) (fun r:List ZZ=>[V.list (r.map qI)]) bkR (fun r=>∀ z∈r,okL z.2) Tryz.underlying26 cells_ints (by decide) (fun _=>⟨rfl,rfl⟩) (fun {n cs y} hl hy=>by
  obtain ⟨v,rfl⟩:=one_val hl
  obtain ⟨l,h1,h2,h3⟩:=open_vints hy
  exact ⟨l,h1,.cons h2 .nil,h3⟩) h
def bkM (m:MM):Nat:=bkZ m.1+((m.2.map bkR).sum+1)
def limM (m:MM):Prop:=okL m.1.2∧∀ r∈m.2,∀ z∈r,okL z.2
theorem open_vmat {fuel:Nat} {cs:List Value} (hl:cs.length=3) {x:DataW H × List MemPlace} (h:DataW.trod enc Tryz.prog W 0 (fun _=>true) held fuel 28 cs=some x) :
  ∃ m:MM,limM m∧RepL (fun _=>True) W (vM m).cells cs∧bkM m≤Rows.uptoBulk x.1:=by
 obtain ⟨c0,c1,c2,rfl⟩:=three_val hl
 obtain ⟨y0,y1,n,rfl,_,h0,h1⟩:=trod_struct2 Tryz.underlying28 h
 simp only [cells_int,cells_table,List.drop_zero,List.take_succ_cons,List.take_zero,List.drop_succ_cons] at h0 h1
 obtain ⟨z,hz,hr,hl⟩:=open_vint rfl h0
 obtain ⟨t,ht,hrt,hlt⟩:=open_vtable h1
 refine ⟨(z,t),⟨hz,ht⟩,?_,?_⟩
 ·cases hr with
  | cons r0 hr =>
   cases hr with
   | cons r1 hr =>
    cases hr
    exact .cons r0 (.cons r1 (.cons hrt .nil))
 ·simp only [Rows.uptoBulk,Rows.uptoBulkAll,bkM]
  omega
set_option maxRecDepth 100000 in
theorem open_vmatarg {r:Reach} {b0:Nat} {v:Value} {d:DataW H} {p:List MemPlace} (hv:Value.okWide Tryz.prog W r b0 28 v) (h:DataW.Trod enc Tryz.prog W 0 (fun _=>true) held 28 v d p) :
  ∃ m:MM,limM m∧Rep (fun _=>True) W (vM m) v∧bkM m≤Rows.uptoBulk d:=by
 obtain ⟨cs,rfl,hsz⟩:=okWide_struct Tryz.underlying28 hv
 obtain ⟨fuel,hf⟩:=h
 obtain ⟨m,h1,h2,h3⟩:=open_vmat (cs:=cs.toList) (by rw [Array.length_toList,hsz]; exact cells_mat) (x:=(d,p)) (by simpa [Value.cells] using hf)
 refine ⟨m,h1,?_,h3⟩
 have:=Rep.agg (S:=fun _=>True) (w:=W) (cs:=(vM m).cells) rfl h2
 rw [Array.toArray_toList] at this
 exact this
end
theorem sum_mem {α:Type} (f:α→Nat) {l:List α} {x:α} (h:x∈l):f x≤(l.map f).sum:=by
 induction l with
 | nil=>cases h
 | cons a l ih =>
  simp only [List.map_cons,List.sum_cons]
  rcases List.mem_cons.1 h with rfl | h
  ·omega
  ·have:=ih h
   omega
theorem sum_len {α:Type} (f:α→Nat) (hf:∀ x,1≤f x) (l:List α):l.length≤(l.map f).sum:=by
 induction l with
 | nil=>exact Nat.zero_le _
 | cons a l ih =>
  have:=hf a
  simp only [List.map_cons,List.sum_cons,List.length_cons]
  omega
theorem flat_bulk (t:List (List ZZ)):t.flatten.length≤(t.map bkR).sum:=by
 induction t with
 | nil=>exact Nat.zero_le _
 | cons r t ih =>
  have:=sum_len bkZ (fun z=>by unfold bkZ; omega) r
  simp only [List.flatten_cons,List.length_append,List.map_cons,List.sum_cons,bkR]
  omega
end Go.Proofs.YtkjhfnhgefbhhaaGreat
/- simileref05: Add, Mul, Of, Int told of trees. -/
namespace Go.Proofs.YtkjhfnhgefbhhaaGreat
open Go.RowKit Go.Ev Go.Vl
def lm (x:Int):Nat:=(toL x.natAbs).length
theorem lm_mul (x y:Int):lm (x*y)≤lm x+lm y:=by
 unfold lm
 rw [Int.natAbs_mul]
 have:=lenMul (toL x.natAbs) (toL y.natAbs) (zG _) (zG _)
 rwa [wY,wY] at this
theorem lm_add (x y:Int) (k:Nat) (h1:lm x≤k) (h2:lm y≤k):lm (x+y)≤k+1:=by
 unfold lm at *
 have h:=lenAdd (toL x.natAbs) (toL y.natAbs) k (zG _) (zG _) h1 h2
 rw [wY,wY] at h
 exact Nat.le_trans (qN (Int.natAbs_add_le x y)) h
theorem lm_mono {x y:Int} (h:x.natAbs≤y.natAbs):lm x≤lm y:=qN h
theorem lm_dvd {x y:Int} (h:x∣y) (hy:y≠0):lm x≤lm y:=lm_mono (Nat.le_of_dvd (by omega) (Int.natAbs_dvd_natAbs.2 h))
theorem qL (z:ZZ) (h:okL z.2):lm (intOf z)≤z.2.length:=by unfold lm; rw [zX]; exact toL_len z.2 h
theorem kI (x:Int) (h:lm x≤1099511627776):okZ (zn x):=okZ_zn x h
theorem zn_lm (x:Int):(zn x).2.length=lm x:=rfl
theorem zn_okL (x:Int):okL (zn x).2:=zG _
def okS (q:QQ):Prop:=okL q.1.2∧okL q.2.2∧q.1.2.length≤68719476736∧q.2.2.length≤68719476736∧intOf q.2≠0
theorem okS.ok {q:QQ} (h:okS q):okZ q.1∧okZ q.2:=⟨⟨h.1,Nat.le_trans h.2.2.1 (by decide)⟩,⟨h.2.1,Nat.le_trans h.2.2.2.1 (by decide)⟩⟩
theorem kO (n d:Int) (hd:d≠0):lm (Rat.divInt n d).num≤lm n∧lm ((Rat.divInt n d).den:Int)≤lm d:=by
 rcases Int.lt_or_gt_of_ne hd with h | h
 ·obtain ⟨h1,h2⟩:=make_neg n d h
  rw [h1,h2]
  refine ⟨lm_mono ?_,lm_mono ?_⟩
  ·rw [Int.natAbs_tdiv]; exact Nat.div_le_self ..
  ·rw [Int.natAbs_tdiv]; exact Nat.div_le_self ..
 ·obtain ⟨h1,h2⟩:=make_pos n d h
  rw [h1,h2]
  refine ⟨lm_mono ?_,lm_mono ?_⟩
  ·rw [Int.natAbs_tdiv]; exact Nat.div_le_self ..
  ·rw [Int.natAbs_tdiv]; exact Nat.div_le_self ..
theorem okS_qn (x:Rat) (h1:lm x.num≤68719476736) (h2:lm (x.den:Int)≤68719476736):okS (qn x):=⟨zG _,zG _,h1,h2,by
 show intOf (zn (x.den:Int))≠0
 rw [wS]
 have:=x.den_nz
 omega⟩
set_option maxRecDepth 20000 in
set_option maxHeartbeats 1600000 in
theorem rmul5_v (a b:QQ) (ha:okS a) (hb:okS b):wT Tryz.prog 76 [vQ a,vQ b] (fun y=>y=nR (qR a*qR b)):=by
 refine wK wB Tryz.func76 rfl rfl rfl rfl fun w0=>?_
 have q1:=rmul_v a.1 b.1 ha.ok.1 hb.ok.1
 have q2:=rmul_v a.2 b.2 ha.ok.2 hb.ok.2
 have l1:=lm_mul (intOf a.1) (intOf b.1)
 have l2:=lm_mul (intOf a.2) (intOf b.2)
 have m1:=qL a.1 ha.1
 have m2:=qL a.2 ha.2.1
 have m3:=qL b.1 hb.1
 have m4:=qL b.2 hb.2.1
 have n1:=ha.2.2.1
 have n2:=ha.2.2.2.1
 have n3:=hb.2.2.1
 have n4:=hb.2.2.2.1
 have q3:=rmake_v (zn (intOf a.1*intOf b.1)) (zn (intOf a.2*intOf b.2)) (kI _ (by omega)) (kI _ (by omega)) (by rw [wS]; exact Int.mul_ne_zero ha.2.2.2.2 hb.2.2.2.2)
 rw [wS,wS] at q3
 have e:qR a*qR b=Rat.divInt (intOf a.1*intOf b.1) (intOf a.2*intOf b.2):=by
  unfold qR
  rw [Rat.divInt_mul_divInt]
 rw [e]
 obtain ⟨⟨x,l⟩,⟨y,m⟩⟩:=a
 obtain ⟨⟨x',l'⟩,⟨y',m'⟩⟩:=b
 repeat (first | refine wQ wB rfl rfl rfl rfl ?_ | refine wE wB rfl rfl rfl rfl rfl rfl rfl rfl (q1) rfl rfl ?_ | refine wE wB rfl rfl rfl rfl rfl rfl rfl rfl (q2) rfl rfl ?_ | refine wE wB rfl rfl rfl rfl rfl rfl rfl rfl (q3) rfl rfl ?_ | refine wF wI rfl rfl ?_ | refine wJ ?_ | refine wC ?_ | refine wP ?_)
 exact ⟨.inl rfl,_,rfl,rfl⟩
set_option maxRecDepth 20000 in
set_option maxHeartbeats 1600000 in
theorem radd5_v (a b:QQ) (ha:okS a) (hb:okS b):wT Tryz.prog 75 [vQ a,vQ b] (fun y=>y=nR (qR a+qR b)):=by
 refine wK wB Tryz.func75 rfl rfl rfl rfl fun w0=>?_
 have q1:=rmul_v a.1 b.2 ha.ok.1 hb.ok.2
 have q2:=rmul_v b.1 a.2 hb.ok.1 ha.ok.2
 have q3:=rmul_v a.2 b.2 ha.ok.2 hb.ok.2
 have l1:=lm_mul (intOf a.1) (intOf b.2)
 have l2:=lm_mul (intOf b.1) (intOf a.2)
 have l3:=lm_mul (intOf a.2) (intOf b.2)
 have m1:=qL a.1 ha.1
 have m2:=qL a.2 ha.2.1
 have m3:=qL b.1 hb.1
 have m4:=qL b.2 hb.2.1
 have n1:=ha.2.2.1
 have n2:=ha.2.2.2.1
 have n3:=hb.2.2.1
 have n4:=hb.2.2.2.1
 have q4:=radd_v (zn (intOf a.1*intOf b.2)) (zn (intOf b.1*intOf a.2)) (kI _ (by omega)) (kI _ (by omega))
 rw [wS,wS] at q4
 have l4:=lm_add (intOf a.1*intOf b.2) (intOf b.1*intOf a.2) 137438953472 (by omega) (by omega)
 have q5:=rmake_v (zn (intOf a.1*intOf b.2+intOf b.1*intOf a.2)) (zn (intOf a.2*intOf b.2)) (kI _ (by omega)) (kI _ (by omega)) (by rw [wS]; exact Int.mul_ne_zero ha.2.2.2.2 hb.2.2.2.2)
 rw [wS,wS] at q5
 have e:qR a+qR b=Rat.divInt (intOf a.1*intOf b.2+intOf b.1*intOf a.2) (intOf a.2*intOf b.2):=by
  unfold qR
  rw [Rat.divInt_add_divInt _ _ ha.2.2.2.2 hb.2.2.2.2]
 rw [e]
 obtain ⟨⟨x,l⟩,⟨y,m⟩⟩:=a
 obtain ⟨⟨x',l'⟩,⟨y',m'⟩⟩:=b
 repeat (first | refine wQ wB rfl rfl rfl rfl ?_ | refine wE wB rfl rfl rfl rfl rfl rfl rfl rfl (q1) rfl rfl ?_ | refine wE wB rfl rfl rfl rfl rfl rfl rfl rfl (q2) rfl rfl ?_ | refine wE wB rfl rfl rfl rfl rfl rfl rfl rfl (q3) rfl rfl ?_ | refine wE wB rfl rfl rfl rfl rfl rfl rfl rfl (q4) rfl rfl ?_ | refine wE wB rfl rfl rfl rfl rfl rfl rfl rfl (q5) rfl rfl ?_ | refine wF wI rfl rfl ?_ | refine wJ ?_ | refine wC ?_ | refine wP ?_)
 exact ⟨.inl rfl,_,rfl,rfl⟩
set_option maxRecDepth 20000 in
set_option maxHeartbeats 1600000 in
theorem rof5_v (k:Nat) (hk:k<9223372036854775808):wT Tryz.prog 58 [.int .i64 (k:Nat)] (fun y=>y=nR (k:Nat)):=by
 refine wK wB Tryz.func58 rfl rfl rfl rfl fun w0=>?_
 have q1:=rof_v k hk
 have q2:=rof_v 1 (by decide)
 repeat (first | refine wQ wB rfl rfl rfl rfl ?_ | refine wE wB rfl rfl rfl rfl rfl rfl rfl rfl (q1) rfl rfl ?_ | refine wE wB rfl rfl rfl rfl rfl rfl rfl rfl (q2) rfl rfl ?_ | refine wF wI rfl rfl ?_ | refine wJ ?_ | refine wC ?_ | refine wP ?_)
 exact ⟨.inl rfl,_,rfl,rfl⟩
set_option maxRecDepth 20000 in
set_option maxHeartbeats 1600000 in
theorem rint5_v (z:ZZ) (hz:okZ z):wT Tryz.prog 181 [vI z] (fun y=>y=nR (intOf z:Int)):=by
 refine wK wB Tryz.func181 rfl rfl rfl rfl fun w0=>?_
 have q1:=rnorm_v z hz.1 (Nat.le_trans hz.2 (by decide))
 have q2:=rof_v 1 (by decide)
 obtain ⟨x,l⟩:=z
 repeat (first | refine wQ wB rfl rfl rfl rfl ?_ | refine wE wB rfl rfl rfl rfl rfl rfl rfl rfl (q1) rfl rfl ?_ | refine wE wB rfl rfl rfl rfl rfl rfl rfl rfl (q2) rfl rfl ?_ | refine wF wI rfl rfl ?_ | refine wJ ?_ | refine wC ?_ | refine wP ?_)
 exact ⟨.inl rfl,_,rfl,rfl⟩
end Go.Proofs.YtkjhfnhgefbhhaaGreat
/- simileref03.Lcm told of trees. ALLOC -/
namespace Go.Proofs.YtkjhfnhgefbhhaaGreat
open Go.RowKit Go.Ev Go.Vl
def lcmI (a x:Int):Int:=a*((x.natAbs:Int).tdiv (Int.gcd a x:Nat))
theorem lcmI_nat (a x:Nat):lcmI a x=(Nat.lcm a x:Nat):=by
 show (a:Int)*(((x:Int).natAbs:Int).tdiv (Int.gcd a x:Nat))=_
 rw [Int.natAbs_natCast,Int.gcd_natCast_natCast]
 rw [show ((x:Int)).tdiv ((Nat.gcd a x:Nat):Int)=((x / Nat.gcd a x:Nat):Int) from (Int.ofNat_tdiv x (Nat.gcd a x)).symm]
 rw [← Int.natCast_mul]
 congr 1
 rw [Nat.lcm,Nat.mul_div_assoc _ (Nat.gcd_dvd_right a x)]
theorem lcmI_eq (a:Nat) (x:Int):lcmI a x=(Nat.lcm a x.natAbs:Nat):=by
 rw [← lcmI_nat]
 unfold lcmI
 rw [Int.natAbs_natCast]
 rfl
def lcmN (xs:List Int) (a:Nat):Nat:=xs.foldl (fun a x=>Nat.lcm a x.natAbs) a
theorem lcmN_pos (xs:List Int) (a:Nat) (h:0<a) (hx:∀ x∈xs,x≠0):0<lcmN xs a:=by
 induction xs generalizing a with
 | nil=>exact h
 | cons x xs ih=>exact ih _ (Nat.lcm_pos h (by have:=hx x (List.mem_cons_self ..); omega)) fun y hy=>hx y (List.mem_cons_of_mem _ hy)
theorem lcmN_dvd (xs:List Int) (a D:Nat) (h:a∣D) (hx:∀ x∈xs,x.natAbs∣D):lcmN xs a∣D:=by
 induction xs generalizing a with
 | nil=>exact h
 | cons x xs ih=>exact ih _ (Nat.lcm_dvd h (hx x (List.mem_cons_self ..))) fun y hy=>hx y (List.mem_cons_of_mem _ hy)
theorem dvd_lcmN (xs:List Int) (a:Nat):a∣lcmN xs a∧∀ x∈xs,x.natAbs∣lcmN xs a:=by
 induction xs generalizing a with
 | nil=>exact ⟨Nat.dvd_refl _,by simp⟩
 | cons x xs ih =>
  obtain ⟨h1,h2⟩:=ih (Nat.lcm a x.natAbs)
  refine ⟨Nat.dvd_trans (Nat.dvd_lcm_left ..) h1,fun y hy=>?_⟩
  rcases List.mem_cons.1 hy with rfl | hy
  ·exact Nat.dvd_trans (Nat.dvd_lcm_right ..) h1
  ·exact h2 y hy
theorem lm_nat {a b:Nat} (h:a≤b):lm (a:Int)≤lm (b:Int):=qN h
set_option maxRecDepth 20000 in
set_option maxHeartbeats 1600000 in
theorem lcm3_v (zs:List ZZ) (D:Nat) (hD:0<D) (hDl:lm D≤549755813888) (hz:∀ z∈zs,okZ z∧intOf z≠0∧(intOf z).natAbs∣D) (hl:zs.length≤1099511627776):wT Tryz.prog 180 [vZs zs] (fun y=>y=nI (lcmN (zs.map intOf) 1:Nat)):=by
 refine wK wB Tryz.func180 rfl rfl rfl rfl fun w0=>?_
 have q0:=rof_v 1 (by decide)
 repeat (first | refine wG rfl rfl (wR wB rfl rfl rfl rfl rfl rfl (zrow_len _) rfl) rfl ?_ | refine qP wB rfl rfl rfl rfl rfl rfl ?_ | refine wQ wB rfl rfl rfl rfl ?_ | refine wE wB rfl rfl rfl rfl rfl rfl rfl rfl (q0) rfl rfl ?_ | refine wF wI rfl rfl ?_ | refine wJ ?_ | refine wM ?_ | refine wC ?_)
 refine qF (fun b:Nat × Nat=>[(4,some (.sv (.bx 2 0))),(5,some (.bx [.v (.bool false),.nils])),(6,some (.sv (.bx 3 0))),(7,some (.bx [.v (.bool (zn (b.2:Nat)).1),.v (vL (zn (b.2:Nat)).2)])),(18,some (.sv (.v (vZs zs)))),(20,some (.sv (.v (.int .i64 (zs.length:Nat))))),(22,some (.sv (.v (.int .i64 (b.1:Nat)))))])
  (fun b=>b.1≤zs.length∧0<b.2∧b.2∣D∧lcmN ((zs.drop b.1).map intOf) b.2=lcmN (zs.map intOf) 1) (fun b=>zs.length - b.1) (0,1) (fun _=>rfl) ⟨Nat.zero_le _,by decide,Nat.one_dvd _,rfl⟩ ⟨rfl,rfl,rfl,rfl,rfl,rfl,rfl,trivial⟩ fun ⟨j,x⟩ hI=>?_
 obtain ⟨h1,h2,h3,h4⟩:=hI
 dsimp only at h1 h2 h3 h4 ⊢
 rcases Nat.lt_or_ge j zs.length with hj | hj
 ·obtain ⟨z,hze⟩:∃ z,zs[j]? = some z:=⟨_,List.getElem?_eq_getElem hj⟩
  obtain ⟨hzo,hz0,hzD⟩:=hz z (List.mem_of_getElem? hze)
  have hg:(zs.map zrow)[j]? = some [.bool z.1,vL z.2]:=by rw [List.getElem?_map,hze]; rfl
  have hd:zs.drop j=z :: zs.drop (j+1):=by
   rw [List.drop_eq_getElem_cons hj]
   rw [List.getElem?_eq_getElem hj] at hze
   cases hze
   rfl
  rw [hd] at h4
  have hx:=kI (x:Nat) (Nat.le_trans (lm_nat (Nat.le_of_dvd hD h3)) (Nat.le_trans hDl (by decide)))
  have hgp:0<Int.gcd (x:Nat) (intOf z):=Int.gcd_pos_of_ne_zero_right _ hz0
  have hgz:lm (Int.gcd (x:Nat) (intOf z):Nat)≤549755813888:=Nat.le_trans (lm_nat (Nat.le_trans (Nat.le_of_dvd h2 (by
   have:=Int.gcd_dvd_left (x:Int) (intOf z)
   exact Int.natCast_dvd_natCast.1 this)) (Nat.le_of_dvd hD h3))) hDl
  have haz:lm ((intOf z).natAbs:Int)≤549755813888:=Nat.le_trans (lm_nat (Nat.le_of_dvd hD hzD)) hDl
  have q1:=rsign_v z hzo
  have hs:sgn (intOf z)≠0:=by rcases sgn_is (intOf z) with h | h | h <;> omega
  have q2:=rabs_v z hzo
  rw [← zX] at q2
  have q3:=rgcd_v (zn (x:Nat)) z hx hzo
  rw [wS] at q3
  have q4:=rexact_v (zn ((intOf z).natAbs:Int)) (zn (Int.gcd (x:Nat) (intOf z):Nat)) (kI _ (by omega)) (kI _ (by omega)) (by rw [wS]; omega) (by
   rw [wS,wS]
   exact Int.dvd_natAbs.2 (Int.gcd_dvd_right ..))
  rw [wS,wS] at q4
  obtain ⟨p,hp⟩:∃ p:Int,p=((intOf z).natAbs:Int).tdiv (Int.gcd (x:Nat) (intOf z):Nat):=⟨_,rfl⟩
  rw [← hp] at q4
  have hpl:lm p≤549755813888:=by
   rw [hp]
   refine Nat.le_trans (lm_mono ?_) haz
   rw [Int.natAbs_tdiv]
   exact Nat.div_le_self ..
  have q5:=rmul_v (zn (x:Nat)) (zn p) hx (kI _ (by omega))
  rw [wS,wS] at q5
  have hxp:(x:Int)*p=(Nat.lcm x (intOf z).natAbs:Nat):=by
   rw [hp,← lcmI_eq]
   rfl
  rw [hxp] at q5
  have h5:Nat.lcm x (intOf z).natAbs∣D:=Nat.lcm_dvd h3 hzD
  have h6:0<Nat.lcm x (intOf z).natAbs:=Nat.lcm_pos h2 (by omega)
  have h7:lcmN ((zs.drop (j+1)).map intOf) (Nat.lcm x (intOf z).natAbs)=lcmN (zs.map intOf) 1:=h4
  repeat (first | refine qP wB rfl rfl rfl rfl rfl rfl ?_ | refine wQ wB rfl rfl rfl rfl ?_ | refine wG rfl rfl (wH rfl rfl rfl rfl (decide_eq_true (by omega)) rfl) rfl ?_ | refine wG rfl rfl (wH rfl rfl rfl rfl (decide_eq_false (by omega)) rfl) rfl ?_ | refine wG rfl rfl (wX rfl rfl rfl rfl (qC (by omega) (by omega)) rfl) rfl ?_ | refine wG rfl rfl (wU wB rfl rfl rfl (i:=j) rfl rfl rfl hg rfl rfl) rfl ?_ | refine wE wB rfl rfl rfl rfl rfl rfl rfl rfl (q1) rfl rfl ?_ | refine wE wB rfl rfl rfl rfl rfl rfl rfl rfl (q2) rfl rfl ?_ | refine wE wB rfl rfl rfl rfl rfl rfl rfl rfl (q3) rfl rfl ?_ | refine wE wB rfl rfl rfl rfl rfl rfl rfl rfl (q4) rfl rfl ?_ | refine wE wB rfl rfl rfl rfl rfl rfl rfl rfl (q5) rfl rfl ?_ | refine wF wI rfl rfl ?_ | refine wJ ?_ | refine wM ?_ | refine wC ?_ | refine wO ?_ | refine wN rfl ?_ | refine wL rfl ?_)
  exact ⟨(j+1,Nat.lcm x (intOf z).natAbs),⟨hj,h6,h5,h7⟩,by dsimp only; omega,rfl,rfl,rfl,rfl,rfl,rfl,rfl,trivial⟩
 ·rw [List.drop_of_length_le hj] at h4
  repeat (first | refine wQ wB rfl rfl rfl rfl ?_ | refine wG rfl rfl (wH rfl rfl rfl rfl (decide_eq_false (by omega)) rfl) rfl ?_ | refine wF wI rfl rfl ?_ | refine wJ ?_ | refine wC ?_ | refine wP ?_ | refine qA ?_ | refine wL rfl ?_)
  refine ⟨.inl rfl,_,rfl,?_⟩
  rw [← h4]
  exact rfl
end Go.Proofs.YtkjhfnhgefbhhaaGreat
/- qmat.cols, size, Size, checks, told of trees. -/
namespace Go.Proofs.YtkjhfnhgefbhhaaGreat
open Go.RowKit Go.Ev Go.Vl
def qB (t:List (List ZZ)):Nat:=(t.headD []).length
set_option maxRecDepth 20000 in
set_option maxHeartbeats 1600000 in
theorem cols_v (t:List (List ZZ)) (hl:t.length≤1099511627776):wT Tryz.prog 166 [vT t] (fun y=>y=.int .i64 (qB t:Nat)):=by
 refine wK wB Tryz.func166 rfl rfl rfl rfl fun w0=>?_
 cases t with
 | nil =>
  repeat (first | refine wG rfl rfl (wR wB rfl rfl rfl rfl rfl rfl (vT_len _) rfl) rfl ?_ | refine wQ wB rfl rfl rfl rfl ?_ | refine wG rfl rfl (wH rfl rfl rfl rfl (rfl) rfl) rfl ?_ | refine wF wI rfl rfl ?_ | refine wJ ?_ | refine wC ?_ | refine wP ?_ | refine wN rfl ?_)
  exact ⟨.inl rfl,_,rfl,rfl⟩
 | cons r t =>
  have hc:(r :: t).length=t.length+1:=rfl
  have hg:=vT_at (r :: t) 0 r rfl
  repeat (first | refine wG rfl rfl (wR wB rfl rfl rfl rfl rfl rfl (vT_len _) rfl) rfl ?_ | refine wG rfl rfl (wR wB rfl rfl rfl rfl rfl rfl (zrow_len _) rfl) rfl ?_ | refine wQ wB rfl rfl rfl rfl ?_ | refine wG rfl rfl (wU wB rfl rfl rfl (i:=0) rfl rfl rfl hg rfl rfl) rfl ?_ | refine wG rfl rfl (wH rfl rfl rfl rfl (decide_eq_false (by omega)) rfl) rfl ?_ | refine wF wI rfl rfl ?_ | refine wJ ?_ | refine wC ?_ | refine wP ?_ | refine wO ?_ | refine wL rfl ?_)
  exact ⟨.inl rfl,_,rfl,rfl⟩
set_option maxRecDepth 20000 in
set_option maxHeartbeats 1600000 in
theorem qsize_v (m:MM) (hl:m.2.length≤1099511627776):wT Tryz.prog 107 [vM m] (fun y=>y=.tup [.int .i64 (m.2.length:Nat),.int .i64 (qB m.2:Nat)]):=by
 refine wK wB Tryz.func107 rfl rfl rfl rfl fun w0=>?_
 have q1:=cols_v m.2 hl
 obtain ⟨⟨x,l⟩,t⟩:=m
 repeat (first | refine wG rfl rfl (wR wB rfl rfl rfl rfl rfl rfl (vT_len _) rfl) rfl ?_ | refine wQ wB rfl rfl rfl rfl ?_ | refine wE wB rfl rfl rfl rfl rfl rfl rfl rfl (q1) rfl rfl ?_ | refine wF wI rfl rfl ?_ | refine wJ ?_ | refine wC ?_ | refine wP ?_)
 exact ⟨.inl rfl,_,rfl,rfl⟩
set_option maxRecDepth 20000 in
set_option maxHeartbeats 1600000 in
theorem qSize_v (m:MM) (hd:okZ m.1) (hl:m.2.length≤1099511627776):wT Tryz.prog 59 [vM m] (fun y=>y=if chk m=0 then .tup [.int .i64 (m.2.length:Nat),.int .i64 (qB m.2:Nat),.int .i64 0] else .tup [.int .i64 0,.int .i64 0,.int .i64 (chk m)]):=by
 refine wK wB Tryz.func59 rfl rfl rfl rfl fun w0=>?_
 have q1:=qcheck_v m hd hl
 have q2:=qsize_v m hl
 obtain ⟨⟨x,l⟩,t⟩:=m
 generalize chk ((x,l),t)=c at *
 by_cases h0:c=0
 ·repeat (first | refine wQ wB rfl rfl rfl rfl ?_ | refine wG rfl rfl (wH rfl rfl rfl rfl (ndF (by omega)) rfl) rfl ?_ | refine wE wB rfl rfl rfl rfl rfl rfl rfl rfl (q1) rfl rfl ?_ | refine wE wB rfl rfl rfl rfl rfl rfl rfl rfl (q2) rfl rfl ?_ | refine wF wI rfl rfl ?_ | refine wJ ?_ | refine wC ?_ | refine wP ?_ | refine wO ?_ | refine wL rfl ?_)
  refine ⟨.inl rfl,_,rfl,?_⟩
  rw [if_pos h0]
 ·repeat (first | refine wQ wB rfl rfl rfl rfl ?_ | refine wG rfl rfl (wH rfl rfl rfl rfl (ndT (by omega)) rfl) rfl ?_ | refine wE wB rfl rfl rfl rfl rfl rfl rfl rfl (q1) rfl rfl ?_ | refine wF wI rfl rfl ?_ | refine wJ ?_ | refine wC ?_ | refine wP ?_ | refine wN rfl ?_)
  refine ⟨.inl rfl,_,rfl,?_⟩
  rw [if_neg h0]
end Go.Proofs.YtkjhfnhgefbhhaaGreat
