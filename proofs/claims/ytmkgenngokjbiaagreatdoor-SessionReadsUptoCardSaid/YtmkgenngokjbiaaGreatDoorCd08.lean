/- Base of all walks of these claims: what a slice of limbs reads as, and that it reads on while nothing that it lies in is written. Plain definitions; no condition. -/
import Derived.Test.YtmkgenngokjbiaaGreatDoorProg
import Derived.WalkKit
import Derived.WalkSpells
import Derived.WalkLawsBesides
import Derived.Laws.CopyOwn
import Derived.Test.YtmkgenngokjbiaaGreatDoorCd07
import Derived.BigQuiet
import Derived.Deep.QuietTactic
import Derived.Deep.DeepCutAuto
import Derived.Deep.RegionWith
import Derived.Laws.BitsAllLaws
set_option linter.all false
set_option maxRecDepth 20000
set_option maxHeartbeats 6400000
namespace Go.Proofs.YtmkgenngokjbiaaGreatDoor
open Go.RowKit
theorem hid{p:Prop}(h:p):Hid p:=h
def wG(lo hi:Nat)(w:World)(v:Value)(xs:List Nat):Prop:=
 ∃ ad cap,v=.slice ad xs.length cap∧xs.length≤cap∧(ad=none→cap=0)∧(∀x,x∈xs→x<4294967296) ∧
  (xs≠[]→∃b off,ad=some ⟨b,off,none⟩∧lo≤b∧b<hi∧(∀i,i<xs.length→w.cell? ⟨b,off+i,none⟩=some (.int .u32 (xs.getD i 0:Nat))) ∧
   (0<lo→∃row,w.heap[b]? = some (.cells row 66 (0,0))))
theorem wG.nil{lo hi:Nat}{w:World}:wG lo hi w (.slice none 0 0) []:=
 ⟨none,0,rfl,pC _,fun _=>rfl,(by simp),fun h=>absurd rfl h⟩
theorem wG.keep{lo hi:Nat}{w w':World}{v:Value}{xs:List Nat}(h:wG lo hi w v xs)(hk:∀b,lo≤b→b<hi→w'.heap[b]? = w.heap[b]?):wG lo hi w' v xs:=by obtain⟨ad,cap,hv,hc,hn,hx,hne⟩:=h;refine⟨ad,cap,hv,hc,hn,hx,fun h=>?_⟩;obtain⟨b,off,ha,hl,hh,hcell,hu⟩:=hne h;exact⟨b,off,ha,hl,hh,fun i hi=>(World.cell?_of_block (hk b hl hh)).trans (hcell i hi),fun h0=>by rw[hk b hl hh];exact hu h0⟩
theorem wG.below{lo hi B:Nat}{w w':World}{v:Value}{xs:List Nat}(h:wG lo hi w v xs)(hb:Below B w w')(hB:hi≤B):wG lo hi w' v xs:=
 h.keep fun b _ hh=>hb.block b (by omega)
theorem wG.wide{lo hi lo' hi':Nat}{w:World}{v:Value}{xs:List Nat}(h:wG lo hi w v xs)(h1:lo'≤lo)(h2:hi≤hi'):wG lo' hi' w v xs:=by obtain⟨ad,cap,hv,hc,hn,hx,hne⟩:=h;refine⟨ad,cap,hv,hc,hn,hx,fun h=>?_⟩;obtain⟨b,off,ha,hl,hh,hcell,hu⟩:=hne h;exact⟨b,off,ha,by omega,by omega,hcell,fun h0=>hu (by omega)⟩
theorem wG.pre{lo hi:Nat}{w:World}{ad:Option Addr}{n cap:Nat}{xs:List Nat}(h:wG lo hi w (.slice ad n cap) xs)(k:Nat)(hk:k≤xs.length) :
  wG lo hi w (.slice ad k cap) (xs.take k):=by
 obtain⟨ad',cap',hv,hc,hnn,hx,hne⟩:=h;simp only[Value.slice.injEq]at hv;obtain⟨rfl,_,rfl⟩:=hv;refine⟨ad,cap,by rw[mG,dG hk],by rw[mG];omega,hnn,fun x h=>hx x (dE h),fun h=>?_⟩;obtain⟨b,off,ha,hl,hh,hcell,hu⟩:=hne (by intro e;subst e;simp at h);refine⟨b,off,ha,hl,hh,fun i hi=>?_,hu⟩;rw[mG]at hi
 have:(xs.take k).getD i 0=xs.getD i 0:=by simp[List.getD_eq_getElem?_getD,show i<k by omega]
 rw[this];exact hcell i (by omega)
def qE(xs:List Nat):List Nat:=(xs.reverse.dropWhile (·==0)).reverse
theorem xI(xs:List Nat):qE (xs++[0])=qE xs:=by simp[qE]
theorem wL0(xs:List Nat)(x:Nat)(h:x≠0):qE (xs++[x])=xs++[x]:=by simp[qE,h]
theorem qY{α:Type}(xs:List α)(d:α)(m:Nat)(h:m<xs.length):xs.take (m+1)=xs.take m++[xs.getD m d]:=by rw[pA9 h];simp[List.getD_eq_getElem?_getD,h]
theorem jH(xs:List Nat):(qE xs).length≤xs.length:=by have:=(gF (l:=xs.reverse) (·==0)).length_le;simpa[qE]using this
theorem wP5(xs:List Nat)(x:Nat)(h:x∈qE xs):x∈xs:=by have:=(gF (l:=xs.reverse) (·==0)).mem (by simpa[qE]using h);simpa using this
structure Elem(P:Program)(t e:TypeId)(z:Value)(size bytes:Nat):Prop where
 sl:P.underlying t=some (.slice e)
 row:(P.info? e).map (fun i=>(i.zero,i.size,i.bytes))=some (some z,size,bytes)
 zs:z.cells.size=size
 pos:0<size
section laws
variable{P:Program}{w w0:World}{ops:Array Oper}{rest:List Oper}{o:Oper}{a:Act}{Q:Exit→Act→World→Prop}{t e:TypeId}{z:Value}{size bytes:Nat}
theorem wM9(E:Elem P t e z size bytes)(hg:o.guard=none)(l c:Operand)(hop:o.op=.makeSlice t l c)(B:Nat)(L C:Int)(kl kc:IntKind)(n k:Nat)(hl:a.eval l=.int kl L)(hc:a.eval c=.int kc C)(hL:L=(n:Int))(hC:C=(k:Int))(hnk:n≤k)(hb:bytes*k≤281474976710656)(h63:k≤maxLen)(hbl:Below B w0 w)(hB:B≤w.heap.size)(h:∀w',w'.ownsRow B e size (.slice (some ⟨w.heap.size,0,none⟩) n k) n ((madeCells z.cells (k*size)).toList.take (n*size))→Below B w0 w'→w.grownBy w' none→
   wpList P ops Q rest (a.put o.dst (.slice (some ⟨w.heap.size,0,none⟩) n k)) w') :
  wpList P ops Q (o::rest) a w:=by
 refine wpList_plain hg fun K hK=>?_;obtain⟨i,hi,hz,hs,hby⟩:=info_parts E.row;subst hL hC;have h63':(k:Int)≤9223372036854775807:=by have h:=h63;simp[maxLen]at h;omega
 have hb':(i.bytes:Int)*(k:Int)≤281474976710656:=by
  subst hby;have h:((i.bytes*k:Nat):Int)≤281474976710656:=by omega
  rwa [dT]at h
 have hr:=run_make (P:=P) w t e i z E.sl hi hz kl kc n k (by omega) (by omega) hb' h63';simp only[Int.toNat_natCast,hs]at hr;unfold Oper.wp;simp[execOp,hop,hl,hc,hr,Result.andThen];refine hK _ _ (h _ ⟨?_,.inr ⟨w.heap.size,k,_,rfl,hB,heap_alloc_new w _,hnk,h63,size_madeCells _ _,rfl⟩⟩ (hbl.alloc hB _) (World.grownBy_alloc w _ none));rw[mG,mN,size_madeCells,dG (mM _ hnk)]
theorem zO(E:Elem P t e z size bytes)(hg:o.guard=none)(s x:Operand)(ho:o.op=.call { callee:=.builtin .append,args:=#[s,x],argTypes:=#[t,t] })
  (B n m c:Nat) (v:Value) (xs:List Value) (arr:Array Value) (hown:w.ownsRow B e size v n xs) (hs:a.eval s=v) (hx:a.eval x=.slice (some ⟨w.heap.size,0,none⟩) m c)
  (hl:arr.size=m*size) (h1:∀u,u∈arr.toList→u.oneCell'=true)
  (hb:(n+m)*bytes≤140737488355328) (hm:0<m) (h63:n+m≤maxLen) (hbl:Below B w0 w) (hB:B≤w.heap.size)
  (h:∀g' c' w',w'.ownsRow B e size (.slice (some ⟨g',0,none⟩) (n+m) c') (n+m) (xs++arr.toList)→Below B w0 w'→(w.alloc (.cells arr e)).grownBy w' v.ownBlock→
   wpList P ops Q rest (a.put o.dst (.slice (some ⟨g',0,none⟩) (n+m) c')) w') :
  wpList P ops Q (o::rest) a (w.alloc (.cells arr e)):=by
 obtain⟨i,hi,hz,hsz,hby⟩:=info_parts E.row;refine wpList_append_own _ hg s x t ho B e i z size bytes E.sl hi hz hsz hby E.zs E.pos v n xs hs (hown.alloc _) ⟨w.heap.size,0,none⟩ m c arr.toList hx (by simpa using hl) ?_ h1 h63 hb
  (by simp;omega) ?_
 ·intro j u hj;rw[Addr.add_lit];have:=cell_of_row (w.alloc (.cells arr e)) w.heap.size (0+j) arr e (0,0) (heap_alloc_new w _);rw[this];simpa using hj
 ·intro v' w' hown' hgr hnil;have hsh:∃g' c',v'=.slice (some ⟨g',0,none⟩) (n+m) c':=by
   rcases hown'.2 with⟨h1,_⟩|⟨g',c',_,h1,_⟩
   ·have:=(hnil.1 h1).2;omega
   ·exact⟨g',c',h1⟩
  obtain⟨g',c',rfl⟩:=hsh;refine h g' c' w' hown' ((hbl.alloc hB _).grown hgr (by simp;omega) ?_) hgr;intro k hk;exact((hown.lt) k hk).1
theorem qBC(E:Elem P t e z 1 bytes)(hg:o.guard=none)(d s:Operand)(sT:TypeId)(ho:o.op=.call { callee:=.builtin .copy,args:=#[d,s],argTypes:=#[t,sT] })
  (B g n cap sCap:Nat) (ad:Addr) (xs cs:List Value) (hd:a.eval d=.slice (some ⟨g,0,none⟩) n cap) (hs:a.eval s=.slice (some ad) n sCap)
  (hown:w.ownsRow B e 1 (.slice (some ⟨g,0,none⟩) n cap) n xs) (hcs:cs.length=n) (hsrc:∀j v,cs[j]? = some v→w.cell? (ad.add j)=some v) (h1:∀v,v∈cs→v.oneCell'=true)
  (hbl:Below B w0 w)
  (h:∀w',w'.ownsRow B e 1 (.slice (some ⟨g,0,none⟩) n cap) n cs→Below B w0 w'→w.grownBy w' (some g)→wpList P ops Q rest (a.put o.dst (goInt n)) w') :
  wpList P ops Q (o::rest) a w:=by
 have hBg:B≤g:=(hown.lt g rfl).1;obtain⟨i,hi,hz,hsz,hby⟩:=info_parts E.row;rcases hown.2 with⟨h',_⟩|⟨g',cap',cur,h',hbg,hgg,hnc,hcm,hcs',htake⟩
 ·simp at h'
 ·simp only[Value.slice.injEq,Option.some.injEq,Addr.mk.injEq,and_true,true_and]at h';obtain⟨rfl,rfl⟩:=h';have hf:(0:Nat)+cs.length≤cur.size:=by rw[hcs',hcs];omega
  refine wpList_copy_own hg d s t sT ho e E.sl (by simp[hi,hsz]) g 0 n cap ad n sCap hd hs cur e hgg cs (by simp[hcs]) hsrc hf h1 ?_;rw[hcs];refine h _ ⟨by simpa using hcs,.inr ⟨g,cap,_,rfl,hbg,setRow_heap w g cur _ e _ hgg,hnc,hcm,?_,?_⟩⟩ (below_setRow hbl hBg _)
   ⟨rfl,rfl,rfl,by simp[World.setRow],fun k _ hk=>setRow_other w g k _ (fun e=>hk (by simp[e]))⟩
  ·simp;omega
  ·simp[←hcs]
end laws
def zQ(xs:List Nat):List Value:=xs.map fun x=>.int .u32 (x:Nat)
theorem qFG(xs:List Nat):∀v,v∈zQ xs→v.oneCell'=true:=by intro v hv;obtain⟨x,_,rfl⟩:=pR.1 hv;rfl
theorem wG.ofOwn{B:Nat}{w:World}{v:Value}{n:Nat}{xs:List Nat}(h:w.ownsRow B 66 1 v n (zQ xs))(hx:∀x,x∈xs→x<4294967296) :
  wG B w.heap.size w v xs:=by
 have hn:xs.length=n:=by simpa[zQ]using h.1
 rcases h.2 with⟨rfl,rfl⟩|⟨g,cap,cur,rfl,hb,hg,hc,hm,hs,ht⟩
 ·obtain rfl:xs=[]:=pN hn;exact wG.nil
 ·refine⟨_,cap,by rw[hn],by omega,(by simp),hx,fun _=>⟨g,0,rfl,hb,(pU.1 hg).1,fun i hi=>?_,fun _=>⟨cur,hg⟩⟩⟩;rw[cell_of_row w g (0+i) cur 66 (0,0) hg,cL]
  have:(zQ xs)[i]? = some (.int .u32 (xs.getD i 0:Nat)):=by simp[zQ,List.getD_eq_getElem?_getD,hi]
  rw[←this,←ht,dA,if_pos (by omega)];simp
theorem wAC{B:Nat}{w:World}{e:TypeId}{g n cap:Nat}{xs:List Nat}(h:w.ownsRow B e 1 (.slice (some ⟨g,0,none⟩) n cap) n (zQ xs))(i:Nat)(hi:i<n) :
  w.cell? ⟨g,i,none⟩=some (.int .u32 (xs.getD i 0:Nat))∧w.frozen? ⟨g,i,none⟩=false:=by
 have hn:xs.length=n:=by simpa[zQ]using h.1
 refine⟨?_,h.frozenAt i⟩;rw[h.cellAt i (by omega)];simp[zQ,List.getD_eq_getElem?_getD,show i<xs.length by omega]
def wQG(n:Nat):List Nat:=List.replicate n 0
theorem wTA(n k:Nat):(wQG n).getD k 0=0:=by simp[wQG,List.getD_eq_getElem?_getD,List.getElem?_replicate];split<;>rfl
theorem kX{P:Program}{w w0:World}{ops:Array Oper}{rest:List Oper}{o:Oper}{a:Act}{Q:Exit→Act→World→Prop}{t e:TypeId}(E:Elem P t e (.int .u32 0) 1 4)(hg:o.guard=none)(l c:Operand)(hop:o.op=.makeSlice t l c)(B:Nat)(L C:Int)(kl kc:IntKind)(n k:Nat)(hl:a.eval l=.int kl L)(hc:a.eval c=.int kc C)(hL:L=(n:Int))(hC:C=(k:Int))(hnk:n≤k)(hb:k≤70368744177664)(hbl:Below B w0 w)(hB:B≤w.heap.size)(h:∀w',w'.ownsRow B e 1 (.slice (some ⟨w.heap.size,0,none⟩) n k) n (zQ (wQG n))→Below B w0 w'→w.grownBy w' none→
   wpList P ops Q rest (a.put o.dst (.slice (some ⟨w.heap.size,0,none⟩) n k)) w') :
  wpList P ops Q (o::rest) a w:=by
 refine wM9 E hg l c hop B L C kl kc n k hl hc hL hC hnk (by omega) (by unfold maxLen;omega) hbl hB ?_;intro w' h1 h2 h3;refine h w' ?_ h2 h3;have e:(madeCells (Value.int .u32 0).cells (k*1)).toList.take (n*1)=zQ (wQG n):=by
  have:(Value.int .u32 0).cells=#[Value.int .u32 0]:=rfl
  rw[this,toList_madeCells_one];simp[zQ,wQG,Nat.min_eq_left hnk]
 rwa [e]at h1
theorem wCB{B:Nat}{w:World}{e:TypeId}{g n cap:Nat}{cur:List Nat}(h:w.ownsRow B e 1 (.slice (some ⟨g,0,none⟩) n cap) n (zQ cur))(i y:Nat) :
  (w.setCell ⟨g,i,none⟩ (.int .u32 (y:Nat))).ownsRow B e 1 (.slice (some ⟨g,0,none⟩) n cap) n (zQ (cur.set i y))∧w.grownBy (w.setCell ⟨g,i,none⟩ (.int .u32 (y:Nat))) (some g):=by
 have:=h.stored i (.int .u32 (y:Nat));have e:(zQ cur).set i (.int .u32 (y:Nat))=zQ (cur.set i y):=by simp[zQ,List.map_set]
 rwa [e]at this
theorem jN{B:Nat}{w:World}{e:TypeId}{v:Value}{n:Nat}{cur:List Nat}(h:w.ownsRow B e 1 v n (zQ cur)):cur.length=n:=by simpa[zQ]using h.1
theorem wK3{α:Type}(l:List α)(i:Nat)(y:α)(h:i<l.length):(l.set i y).take (i+1)=l.take i++[y]:=by rw[pA9 (by simpa using h)];simp[List.take_set_of_le]
theorem wH0{B:Nat}{w wr:World}(hb:Below B w wr){p:Addr}{v:Value}(hc:w.cell? p=some v)(hB:w.heap.size≤B):wr.cell? p=some v:=
 (hb.cell (pT (World.block_lt_of_cell? w p hc) hB)).trans hc
theorem wG.open{lo hi:Nat}{w:World}{v:Value}{xs:List Nat}(h:wG lo hi w v xs) :
  ∃ad cap,v=.slice ad xs.length cap∧xs.length≤cap∧(ad=none→cap=0)∧(∀x,x∈xs→x<4294967296) ∧
   (∀i,i<xs.length→∃b off,ad=some ⟨b,off,none⟩∧lo≤b∧b<hi∧w.cell? ⟨b,off+i,none⟩=some (.int .u32 (xs.getD i 0:Nat))):=by
 obtain⟨ad,cap,hv,hc,hn,hx,hne⟩:=h;refine⟨ad,cap,hv,hc,hn,hx,fun i hi=>?_⟩;obtain⟨b,off,ha,hl,hh,hcell,_⟩:=hne (by intro e;subst e;simp at hi);exact⟨b,off,ha,hl,hh,hcell i hi⟩
theorem wM4{B:Nat}{a w:World}(h:Below B a w)(n:Nat):Below B a (w.drewN n):=⟨h.os,h.tape,h.output,h.size,h.block⟩
def wO(w:World)(g:Nat)(T:TypeId)(cs:List Value):Prop:=w.heap[g]? = some (.cells cs.toArray T (0,0))
theorem wO.lt{w:World}{g:Nat}{T:TypeId}{cs:List Value}(h:wO w g T cs):g<w.heap.size:=(pU.1 h).1
theorem wO.cell{w:World}{g:Nat}{T:TypeId}{cs:List Value}(h:wO w g T cs)(i:Nat)(v:Value)(hi:cs[i]? = some v):w.cell? ⟨g,i,none⟩=some v:=by rw[cell_of_row w g i cs.toArray T (0,0) h];simpa using hi
theorem wO.frozen{w:World}{g:Nat}{T:TypeId}{cs:List Value}(h:wO w g T cs)(i:Nat):w.frozen? ⟨g,i,none⟩=false:=frozen_of_row w g i cs.toArray T h
theorem wO.keep{w w':World}{g:Nat}{T:TypeId}{cs:List Value}(h:wO w g T cs)(hk:w'.heap[g]? = w.heap[g]?):wO w' g T cs:=hk.trans h
theorem wO.below{B:Nat}{w w':World}{g:Nat}{T:TypeId}{cs:List Value}(h:wO w g T cs)(hb:Below B w w')(hg:g<B):wO w' g T cs:=h.keep (hb.block g hg)
theorem wO.later{w w':World}{g:Nat}{T:TypeId}{cs:List Value}(h:wO w g T cs)(hb:Below w.heap.size w w'):wO w' g T cs:=h.below hb h.lt
theorem wO.new(w:World)(arr:Array Value)(T:TypeId):wO (w.alloc (.cells arr T)) w.heap.size T arr.toList:=heap_alloc_new w _
theorem wO.alloc{w:World}{g:Nat}{T:TypeId}{cs:List Value}(h:wO w g T cs)(o:Obj):wO (w.alloc o) g T cs:=h.keep (Below.heap_alloc w o g h.lt)
theorem wO.set{w:World}{g:Nat}{T:TypeId}{cs:List Value}(h:wO w g T cs)(i:Nat)(v:Value):wO (w.setCell ⟨g,i,none⟩ v) g T (cs.set i v):=by have:=heap_setCell_same w g i cs.toArray T v h;simpa[wO]using this
theorem wO.other{w:World}{g:Nat}{T:TypeId}{cs:List Value}(h:wO w g T cs)(p:Addr)(v:Value)(hp:g≠p.block):wO (w.setCell p v) g T cs:=h.keep (Below.heap_setCell _ _ _ _ hp)
theorem wO.two{w:World}{g:Nat}{T:TypeId}{a b:Value}(h:wO w g T [a,b]) :
  w.cell? ⟨g,0,none⟩=some a∧w.cell? ⟨g,1,none⟩=some b∧w.frozen? ⟨g,0,none⟩=false∧w.frozen? ⟨g,1,none⟩=false:=
 ⟨h.cell 0 a rfl,h.cell 1 b rfl,h.frozen 0,h.frozen 1⟩
theorem wO.four{w:World}{g:Nat}{T:TypeId}{a b c d:Value}(h:wO w g T [a,b,c,d]) :
  (w.cell? ⟨g,0,none⟩=some a∧w.cell? ⟨g,1,none⟩=some b∧w.cell? ⟨g,2,none⟩=some c∧w.cell? ⟨g,3,none⟩=some d) ∧
   w.frozen? ⟨g,0,none⟩=false∧w.frozen? ⟨g,1,none⟩=false∧w.frozen? ⟨g,2,none⟩=false∧w.frozen? ⟨g,3,none⟩=false:=
 ⟨⟨h.cell 0 a rfl,h.cell 1 b rfl,h.cell 2 c rfl,h.cell 3 d rfl⟩,h.frozen 0,h.frozen 1,h.frozen 2,h.frozen 3⟩
theorem wO.one{w:World}{g:Nat}{T:TypeId}{a:Value}(h:wO w g T [a]):w.cell? ⟨g,0,none⟩=some a∧w.frozen? ⟨g,0,none⟩=false:=⟨h.cell 0 a rfl,h.frozen 0⟩
theorem boxA(w:World)(a:Array Value)(T:TypeId):Below w.heap.size w (w.alloc (.cells a T))∧wO (w.alloc (.cells a T)) w.heap.size T a.toList∧(w.alloc (.cells a T)).heap.size=w.heap.size+1:=
 ⟨(Below.refl _ _).alloc (pC _) _,wO.new _ _ _,by simp⟩
theorem boxAB(w:World)(a b:Array Value)(T U:TypeId):Below w.heap.size w ((w.alloc (.cells a T)).alloc (.cells b U))∧wO ((w.alloc (.cells a T)).alloc (.cells b U)) w.heap.size T a.toList ∧
  wO ((w.alloc (.cells a T)).alloc (.cells b U)) (w.heap.size+1) U b.toList∧((w.alloc (.cells a T)).alloc (.cells b U)).heap.size=w.heap.size+2:=by
 refine⟨((Below.refl _ _).alloc (pC _) _).alloc (by simp) _,(wO.new _ _ _).alloc _,?_,by simp⟩;have:=wO.new (w.alloc (.cells a T)) b U;simpa using this
theorem boxABC(w:World)(a b c:Array Value)(T U V:TypeId):Below w.heap.size w (((w.alloc (.cells a T)).alloc (.cells b U)).alloc (.cells c V)) ∧
  wO (((w.alloc (.cells a T)).alloc (.cells b U)).alloc (.cells c V)) w.heap.size T a.toList∧wO (((w.alloc (.cells a T)).alloc (.cells b U)).alloc (.cells c V)) (w.heap.size+1) U b.toList ∧
  wO (((w.alloc (.cells a T)).alloc (.cells b U)).alloc (.cells c V)) (w.heap.size+2) V c.toList∧(((w.alloc (.cells a T)).alloc (.cells b U)).alloc (.cells c V)).heap.size=w.heap.size+3:=by
 obtain⟨h1,h2,h3,h4⟩:=boxAB w a b T U;refine⟨h1.alloc (by simp;omega) _,h2.alloc _,h3.alloc _,?_,by simp⟩;have:=wO.new ((w.alloc (.cells a T)).alloc (.cells b U)) c V;simpa using this
theorem getD_eq(xs:List Nat)(k:Nat)(h:k<xs.length):xs.getD k 0=xs[k]:=by simp[List.getD_eq_getElem?_getD,h]
theorem wW7(xs:List Nat)(k:Nat)(h:k<xs.length):xs.getD k 0∈xs:=by rw[getD_eq xs k h];exact List.getElem_mem h
theorem wW6(xs:List Nat)(k:Nat)(h:xs.length≤k):xs.getD k 0=0:=by rw[pJ,fA h];rfl
theorem wG.shape{lo hi:Nat}{w:World}{v:Value}{xs:List Nat}(h:wG lo hi w v xs):∃ad cap,v=.slice ad xs.length cap:=by obtain⟨ad,cap,hv,_⟩:=h;exact⟨ad,cap,hv⟩
def zA(k:IntKind)(lo hi:Nat)(w:World)(v:Value)(xs:List Nat):Prop:=
 ∃ad cap,v=.slice ad xs.length cap∧xs.length≤cap∧(ad=none→cap=0) ∧
  (xs≠[]→∃b off,ad=some ⟨b,off,none⟩∧lo≤b∧b<hi∧∀i,i<xs.length→w.cell? ⟨b,off+i,none⟩=some (.int k (xs.getD i 0:Nat)))
def zS(k:IntKind)(xs:List Nat):List Value:=xs.map fun x=>.int k (x:Nat)
theorem numsC_one(k:IntKind)(xs:List Nat):∀v,v∈zS k xs→v.oneCell'=true:=by intro v hv;obtain⟨x,_,rfl⟩:=pR.1 hv;rfl
theorem zA.nil{k:IntKind}{lo hi:Nat}{w:World}:zA k lo hi w (.slice none 0 0) []:=⟨none,0,rfl,pC _,fun _=>rfl,fun h=>absurd rfl h⟩
theorem zA.keep{k:IntKind}{lo hi:Nat}{w w':World}{v:Value}{xs:List Nat}(h:zA k lo hi w v xs)(hk:∀b,lo≤b→b<hi→w'.heap[b]? = w.heap[b]?):zA k lo hi w' v xs:=by obtain⟨ad,cap,hv,hc,hn,hne⟩:=h;refine⟨ad,cap,hv,hc,hn,fun h=>?_⟩;obtain⟨b,off,ha,hl,hh,hcell⟩:=hne h;exact⟨b,off,ha,hl,hh,fun i hi=>(World.cell?_of_block (hk b hl hh)).trans (hcell i hi)⟩
theorem zA.below{k:IntKind}{lo hi B:Nat}{w w':World}{v:Value}{xs:List Nat}(h:zA k lo hi w v xs)(hb:Below B w w')(hB:hi≤B):zA k lo hi w' v xs:=
 h.keep fun b _ hh=>hb.block b (by omega)
theorem zA.set{k:IntKind}{lo hi:Nat}{w:World}{v:Value}{xs:List Nat}(h:zA k lo hi w v xs)(p:Addr)(u:Value)(hp:p.block<lo∨hi≤p.block):zA k lo hi (w.setCell p u) v xs:=
 h.keep fun b h1 h2=>Below.heap_setCell _ _ _ _ (by omega)
theorem zA.wide{k:IntKind}{lo hi lo' hi':Nat}{w:World}{v:Value}{xs:List Nat}(h:zA k lo hi w v xs)(h1:lo'≤lo)(h2:hi≤hi'):zA k lo' hi' w v xs:=by obtain⟨ad,cap,hv,hc,hn,hne⟩:=h;refine⟨ad,cap,hv,hc,hn,fun h=>?_⟩;obtain⟨b,off,ha,hl,hh,hcell⟩:=hne h;exact⟨b,off,ha,by omega,by omega,hcell⟩
theorem zA.open{k:IntKind}{lo hi:Nat}{w:World}{v:Value}{xs:List Nat}(h:zA k lo hi w v xs) :
  ∃ad cap,v=.slice ad xs.length cap∧xs.length≤cap ∧
   (∀i,i<xs.length→∃b off,ad=some ⟨b,off,none⟩∧lo≤b∧b<hi∧w.cell? ⟨b,off+i,none⟩=some (.int k (xs.getD i 0:Nat))):=by
 obtain⟨ad,cap,hv,hc,hn,hne⟩:=h;refine⟨ad,cap,hv,hc,fun i hi=>?_⟩;obtain⟨b,off,ha,hl,hh,hcell⟩:=hne (by intro e;subst e;simp at hi);exact⟨b,off,ha,hl,hh,hcell i hi⟩
theorem zA.tail{k:IntKind}{lo hi:Nat}{w:World}{b off cap x:Nat}{xs:List Nat}(h:zA k lo hi w (.slice (some ⟨b,off,none⟩) (x::xs).length cap) (x::xs)) :
  zA k lo hi w (.slice (some (if cap=1 then⟨b,off,none⟩else⟨b,off+1,none⟩)) xs.length (cap-1)) xs:=by
 obtain⟨ad,cap',hv,hc,hn,hne⟩:=h;simp only[Value.slice.injEq]at hv;obtain⟨rfl,_,rfl⟩:=hv;simp only[List.length_cons]at hc;refine⟨_,_,rfl,by omega,by simp,fun h=>?_⟩;obtain⟨b',off',ha,hl,hh,hcell⟩:=hne (by simp);simp only[Option.some.injEq,Addr.mk.injEq,and_true]at ha;obtain⟨rfl,rfl⟩:=ha;have hp:0<xs.length:=cK.2 h;refine⟨b,off+1,by rw[if_neg (by omega)],hl,hh,fun i hi=>?_⟩;have:=hcell (i+1) (by simp;omega);rw[cA,fW 1 i,this];simp
theorem zA.ofOwn{k:IntKind}{B:Nat}{w:World}{e:TypeId}{v:Value}{n:Nat}{xs:List Nat}(h:w.ownsRow B e 1 v n (zS k xs)):zA k B w.heap.size w v xs:=by
 have hn:xs.length=n:=by simpa[zS]using h.1
 rcases h.2 with⟨rfl,rfl⟩|⟨g,cap,cur,rfl,hb,hg,hc,hm,hs,ht⟩
 ·obtain rfl:xs=[]:=pN hn;exact zA.nil
 ·refine⟨_,cap,by rw[hn],by omega,(by simp),fun _=>⟨g,0,rfl,hb,(pU.1 hg).1,fun i hi=>?_⟩⟩;rw[cell_of_row w g (0+i) cur e (0,0) hg,cL]
  have:(zS k xs)[i]? = some (.int k (xs.getD i 0:Nat)):=by simp[zS,List.getD_eq_getElem?_getD,hi]
  rw[←this,←ht,dA,if_pos (by omega)];simp
def wB:List Nat→Nat
 |[]=>0
 |x::xs=>x+4294967296*wB xs
def toL(n:Nat):List Nat:=if h:n=0 then[]else n%4294967296::toL (n/4294967296)
 termination_by n
 decreasing_by exact pE7 (gD h) (by decide)
theorem wT:toL 0=[]:=by rw[toL];simp
theorem wEI{n:Nat}(h:n≠0):toL n=n%4294967296::toL (n/4294967296):=by rw[toL];simp[h]
theorem wI(n:Nat):wB (toL n)=n:=by
 induction n using Nat.strongRecOn with
 |ind n ih=>
  by_cases h:n=0
  ·subst h;rw[wT];rfl
  ·rw[wEI h,wB,ih _ (pE7 (gD h) (by decide))];omega
theorem qL(n:Nat):∀x,x∈toL n→x<4294967296:=by
 induction n using Nat.strongRecOn with
 | ind n ih=>
  by_cases h:n=0
  ·subst h;rw[wT];simp
  ·rw[wEI h];intro x hx;rcases pS.1 hx with rfl|hx
   ·omega
   ·exact ih _ (pE7 (gD h) (by decide)) x hx
theorem wL6(xs:List Nat)(x:Nat):wB (xs++[x])=wB xs+4294967296^xs.length*x:=by
 induction xs with
 |nil=>simp[wB]
 |cons y ys ih=>simp only[List.cons_append,wB,ih,List.length_cons,Nat.pow_succ];rw[mA,cA];congr 2;rw[mH (_^_) 4294967296,mC]
theorem wP3{P:Program}{w w0:World}{ops:Array Oper}{rest:List Oper}{o:Oper}{a:Act}{Q:Exit→Act→World→Prop}{t e:TypeId}(E:Elem P t e (.int .u32 0) 1 4)(hg:o.guard=none)(s x:Operand)(ho:o.op=.call { callee:=.builtin .append,args:=#[s,x],argTypes:=#[t,t] })
  (B n:Nat) (v v2:Value) (cells:List Value) (ys:List Nat) (lo hi:Nat) (hown:w.ownsRow B e 1 v n cells) (hL:wG lo hi w v2 ys) (hs:a.eval s=v) (hx:a.eval x=v2)
  (hb:n+ys.length≤35184372088832) (hbl:Below B w0 w) (hB:B≤w.heap.size)
  (h:∀v' w',w'.ownsRow B e 1 v' (n+ys.length) (cells++zQ ys)→Below B w0 w'→w.grownBy w' v.ownBlock→(v'=.slice none 0 0↔v=.slice none 0 0∧ys=[])→
   wpList P ops Q rest (a.put o.dst v') w') :
  wpList P ops Q (o::rest) a w:=by
 obtain⟨i,hi',hz,hsz,hby⟩:=info_parts E.row;obtain⟨ad,cap,rfl,hc,hn,hlt,hcell⟩:=hL;have hBk:∀k,v.ownBlock=some k→B≤k:=fun k hk=>(hown.lt k hk).1;cases ad with
 |none=>
  have hc0:=hn rfl;have hl0:ys=[]:=pN (by omega);subst hl0;subst hc0;refine wpList_plain hg fun K hK=>?_;have hr:=run_append_owned_none (P:=P) w B t o.type e i 1 E.sl hi' v n cells hown;have hx':a.eval x=.slice none 0 0:=by simpa using hx
  unfold Oper.wp;simp[execOp,ho,resolve,invoke,builtin,hs,hx',hr,Result.andThen];exact hK _ _ (h v w (by simpa[zQ]using hown) hbl (World.grownBy.refl _ _) (by simp))
 | some ad=>
  refine wpList_append_own _ hg s x t ho B e i _ 1 4 E.sl hi' hz hsz hby E.zs E.pos v n cells hs hown ad ys.length cap (zQ ys) hx (by simp[zQ]) ?_ (qFG _) (by unfold maxLen;omega) (by omega) hB ?_
  ·intro j u hj;have hjl:j<ys.length:=by
    have:=(pY.1 hj).1;simpa[zQ]using this
   obtain⟨b,off,ha,_,_,hcc,_⟩:=hcell (by intro e;subst e;simp at hjl);simp only[Option.some.injEq]at ha;subst ha;rw[Addr.add_lit,hcc j hjl,←hj];simp[zQ,List.getD_eq_getElem?_getD,hjl]
  ·intro v' w' h1 h2 h3;refine h v' w' h1 (hbl.grown h2 hB hBk) h2 ?_;rw[h3];constructor
   ·rintro⟨h4,h5⟩;exact⟨h4,pN h5⟩
   ·rintro⟨h4,h5⟩;exact⟨h4,by simp[h5]⟩
theorem vX{w:World}{B:Nat}{e:TypeId}{s n:Nat}{v:Value}{xs:List Value}(h:w.ownsRow B e s v n xs)(p:Addr)(u:Value)(hp:v.ownBlock≠some p.block):(w.setCell p u).ownsRow B e s v n xs:=by
 refine⟨h.1,?_⟩;rcases h.2 with hn|⟨g,cap,cur,rfl,hbg,hgg,rest⟩
 ·exact .inl hn
 ·refine .inr ⟨g,cap,cur,rfl,hbg,?_,rest⟩;rw[Below.heap_setCell _ _ _ _ (by intro e;exact hp (by simp[Value.ownBlock,e]))];exact hgg
theorem qH9{w:World}{B:Nat}{e:TypeId}{s n:Nat}{v:Value}{xs:List Value}(h:w.ownsRow B e s v n xs)(hn:0<n):∃g c,v=.slice (some ⟨g,0,none⟩) n c∧B≤g∧g<w.heap.size:=by
 rcases h.2 with⟨_,h0⟩|⟨g,cap,cur,rfl,hb,hh,_⟩
 ·omega
 ·exact⟨g,cap,rfl,hb,(pU.1 hh).1⟩
theorem vW{w:World}{B:Nat}{e:TypeId}{s n:Nat}{v:Value}{xs:List Value}(h:w.ownsRow B e s v n xs):∃ad c,v=.slice ad n c:=by
 rcases h.2 with⟨rfl,rfl⟩|⟨g,cap,cur,rfl,_⟩
 ·exact⟨_,_,rfl⟩
 ·exact⟨_,_,rfl⟩
theorem qP(xs:List Nat)(hx:∀x,x∈xs→x<4294967296):wB xs<4294967296^xs.length:=by
 induction xs with
 |nil=>simp[wB]
 |cons y ys ih=>have h1:=ih fun x h=>hx x (pO _ h);have h2:=hx y (pQ ..);simp only[wB,List.length_cons,Nat.pow_succ];omega
theorem trimL_cons(x:Nat)(xs:List Nat):qE (x::xs)=if qE xs=[]∧x=0 then[]else x::qE xs:=by
 unfold qE;simp only[List.reverse_cons,List.dropWhile_append];by_cases h:xs.reverse.dropWhile (·==0)=[]
 ·by_cases hx:x=0<;>simp[h,hx]
 ·have:¬(List.dropWhile (fun x=>x==0) xs.reverse).reverse=[]:=by simpa using h
  simp[h]
theorem zG(xs:List Nat)(hx:∀x,x∈xs→x<4294967296):qE xs=toL (wB xs):=by
 induction xs with
 |nil=>simp[wB,wT,qE]
 | cons y ys ih=>
  have h1:=ih fun x h=>hx x (pO _ h);have h2:=hx y (pQ ..);rw[trimL_cons,h1];by_cases h0:y+4294967296*wB ys=0
  ·have hy:wB ys=0:=by omega
   have hy0:y=0:=by omega
   simp[wB,hy,hy0,wT]
  ·rw[wB,wEI h0,show(y+4294967296*wB ys)%4294967296=y from by omega,show(y+4294967296*wB ys)/4294967296=wB ys from by omega];rw[if_neg];rintro⟨h3,h4⟩
   have:wB (toL (wB ys))=0:=by rw[h3];rfl
   rw[wI]at this;omega
theorem zC(n k:Nat)(h:n<4294967296^k):(toL n).length≤k:=by
 induction k generalizing n with
 | zero => obtain rfl:n=0:=by simpa using h
           simp[wT]
 |succ k ih=>
  by_cases h0:n=0
  ·subst h0;simp[wT]
  ·rw[wEI h0,pM];have:=ih (n/4294967296) (by rw[mS]at h;exact pB7 (by rw[mH];exact h));omega
theorem vO(xs:List Nat)(hx:∀x,x∈xs→x<4294967296):(toL (wB xs)).length≤xs.length:=
 zC _ _ (qP xs hx)
theorem wJ3(n:Nat):toL n=[]↔n=0:=by
 constructor
 ·intro h;rw[←wI n,h];rfl
 ·intro h;rw[h,wT]
theorem wQI(n:Nat):decide (n≠0)=decide (0<(toL n).length):=by
 by_cases h0:n=0
 ·simp[h0,wT]
 ·simp[h0,wEI h0]
theorem wHG{w:World}{B B':Nat}{e:TypeId}{s n:Nat}{v:Value}{xs:List Value}(h:w.ownsRow B' e s v n xs)(hb:B≤B'):w.ownsRow B e s v n xs:=by
 refine⟨h.1,?_⟩;rcases h.2 with hn|⟨g,cap,cur,rfl,hbg,rest⟩
 ·exact .inl hn
 ·exact .inr ⟨g,cap,cur,rfl,by omega,rest⟩
theorem wNJ(xs ys:List Nat):wB (xs++ys)=wB xs+4294967296^xs.length*wB ys:=by
 induction xs with
 |nil=>simp[wB]
 |cons x xs ih=>simp only[List.cons_append,wB,ih,List.length_cons,Nat.pow_succ];rw[mA,cA];congr 2;rw[mH (_^_) 4294967296,mC]
theorem qU(xs:List Nat)(i:Nat):wB (xs.take (i+1))=wB (xs.take i)+4294967296^i*xs.getD i 0:=by
 by_cases h:i<xs.length
 ·rw[qY xs 0 i h,wL6,mG,dG (by omega)]
 ·rw[mW (by omega),mW (by omega),wW6 xs i (by omega)];simp
theorem zB(xs:List Nat)(i:Nat)(h:xs.length≤i):wB (xs.take i)=wB xs:=by rw[mW h]
theorem getD_lt(xs:List Nat)(h:∀x,x∈xs→x<4294967296)(i:Nat):xs.getD i 0<4294967296:=by
 by_cases hi:i<xs.length
 ·exact h _ (wW7 xs i hi)
 ·rw[wW6 xs i (by omega)];decide
theorem wXC(P a b c s A Bv x y z:Nat)(h:A+P*c=Bv)(hs:x+y+c=s)(hz:z=s/4294967296)(ha:a=A+P*(s%4294967296))(hb:b=Bv+P*x+P*y) :
  a+P*4294967296*z=b:=by
 subst ha hb hz
 have:s=s%4294967296+4294967296*(s/4294967296):=by omega
 have e:P*s=P*(s%4294967296)+P*4294967296*(s/4294967296):=by
  conv=>lhs;rw[this]
  rw[mA,mC]
 have e2:P*s=P*x+P*y+P*c:=by rw[←hs,mA,mA]
 omega
theorem wJ5(cur:List Nat)(n i y:Nat)(hl:cur.length=n)(hi:i<n):wB ((cur.set i y).take (i+1))=wB (cur.take i)+4294967296^i*y:=by rw[wK3 _ _ _ (by omega),wL6,mG,dG (by omega)]
theorem vB(cur:List Nat)(i y:Nat)(h:∀x,x∈cur→x<4294967296)(hy:y<4294967296):∀x,x∈cur.set i y→x<4294967296:=by
 intro x hx;rcases List.mem_or_eq_of_mem_set hx with h1|h1
 ·exact h x h1
 ·rw[h1];exact hy
theorem wD9(n:Nat):∀x,x∈wQG n→x<4294967296:=by intro x hx;rw[List.eq_of_mem_replicate hx];decide
theorem wG8(P v c:Nat)(h:v<P)(hc:P*c≤v):c=0:=by
 rcases mI c with h0|h0
 ·exact h0
 ·have:P*1≤P*c:=mO _ h0
  omega
theorem sum_lt(n:Nat)(xs ys:List Nat)(h1:xs.length≤n)(h2:ys.length≤n)(hx:∀x,x∈xs→x<4294967296)(hy:∀x,x∈ys→x<4294967296) :
  wB xs+wB ys<4294967296^(n+1):=by
 have p1:=qP xs hx;have p2:=qP ys hy;have q1:4294967296^xs.length≤4294967296^n:=cU (by decide) h1;have q2:4294967296^ys.length≤4294967296^n:=cU (by decide) h2;rw[mS];generalize 4294967296^n=P at *
 omega
theorem prod_lt(xs:List Nat)(d:Nat)(hx:∀x,x∈xs→x<4294967296)(hd:d<4294967296):wB xs*d<4294967296^(xs.length+1):=by have p1:=qP xs hx;rw[mS];exact bY p1 hd
theorem wY(xs:List Nat)(k:Nat):wB (xs.drop k)=xs.getD k 0+4294967296*wB (xs.drop (k+1)):=by
 by_cases h:k<xs.length
 ·rw[cE h,wB,getD_eq xs k h]
 ·rw[mP (by omega),mP (by omega),wW6 xs k (by omega)];simp[wB]
theorem qO(xs:List Nat)(k:Nat):wB xs=wB (xs.take k)+4294967296^k*wB (xs.drop k):=by
 induction k with
 |zero=>simp[wB]
 |succ k ih=>rw[ih,qU,wY xs k,mS,mA,mC,cA]
theorem kJ(xs:List Nat)(k:Nat)(hx:∀x,x∈xs→x<4294967296):wB (xs.take k)<4294967296^k:=by
 have h:=qP (xs.take k) fun x h=>hx x (dE h)
 have:4294967296^(xs.take k).length≤4294967296^k:=cU (by decide) (by rw[mG];omega)
 exact pT h this
theorem wT8(xs ys:List Nat)(k:Nat)(hx:∀x,x∈xs→x<4294967296)(h:wB (xs.drop k)<wB (ys.drop k)):wB xs<wB ys:=by
 rw[qO xs k,qO ys k];have h1:=kJ xs k hx;generalize 4294967296^k=P at *
 generalize wB (xs.drop k)=a at *
 generalize wB (ys.drop k)=b at *
 have:P*(a+1)≤P*b:=mO _ h
 rw[mA]at this;omega
theorem wJE(xs ys:List Nat)(m x y:Nat)(hx:xs.getD m 0=x)(hy:ys.getD m 0=y)(h:wB (xs.drop (m+1))=wB (ys.drop (m+1)))(hlt:x<y):wB (xs.drop m)<wB (ys.drop m):=by rw[wY xs m,wY ys m,hx,hy,h];omega
theorem sub_carry(P a c s A Bv x y z:Nat)(h:A+Bv=a+P*c)(hs:s+y+c=4294967296+x)(hz:z=1-s/4294967296)(hs2:s<8589934592) :
  A+P*(s%4294967296)+(Bv+P*y)=a+P*x+P*4294967296*z:=by
 have e:P*s+P*y+P*c=P*4294967296+P*x:=by have:=congrArg (P * ·) hs;simp only[Nat.mul_add]at this;exact this
 have e2:P*s=P*(s%4294967296)+P*4294967296*(s/4294967296):=by rw[mC,←mA,Nat.mod_add_div]
 generalize P*(s%4294967296)=u at *
 rcases pL s 4294967296 with h1|h1
 ·have h0:s/4294967296=0:=by omega
  rw[h0]at e2 hz;subst hz;rw[dN]at e2;rw[Nat.sub_zero,fV];generalize P*4294967296=PB at *
  generalize P*s=ps at *
  generalize P*y=py at *
  generalize P*c=pc at *
  generalize P*x=px at *
  omega
 ·have h0:s/4294967296=1:=by omega
  rw[h0]at e2 hz;subst hz;rw[fV]at e2;rw[fX,dN];generalize P*4294967296=PB at *
  generalize P*s=ps at *
  generalize P*y=py at *
  generalize P*c=pc at *
  generalize P*x=px at *
  omega
open Go.Ev Go.Vl
def uL(xs:List Nat):List (List V):=xs.map fun x=>[V.int .u32 (x:Nat)]
def vL(xs:List Nat):V:=.list (uL xs)
def vN(n:Nat):V:=vL (toL n)
def okL(xs:List Nat):Prop:=∀x,x∈xs→x<4294967296
theorem qA(xs:List Nat):(uL xs).length=xs.length:=by simp[uL]
theorem qC1(xs:List Nat):∀e∈uL xs,e.length=1:=by intro e he;obtain⟨x,_,rfl⟩:=pR.1 he;rfl
theorem kP(xs:List Nat)(i:Nat)(h:i<xs.length):(uL xs)[i]? = some [V.int .u32 (xs.getD i 0:Nat)]:=by simp[uL,List.getElem?_eq_getElem h,List.getD]
theorem uL_flat(xs:List Nat):(uL xs).flatten=xs.map fun x=>V.int .u32 (x:Nat):=by
 induction xs with
 |nil=>rfl
 |cons x xs ih=>simp only[uL,List.map_cons,List.flatten_cons]at ih ⊢;rw[ih];rfl
section
variable{S:Nat→Prop}{w:World}{v:Value}{xs:List Nat}
theorem ints_rep(xs:List Nat):RepL S w (xs.map fun x=>V.int .u32 (x:Nat)) (xs.map fun x=>Value.int .u32 (x:Nat)):=by
 induction xs with
 |nil=>exact .nil
 |cons x xs ih=>exact .cons (.int _ _) ih
theorem qAA:∀{xs:List Nat}{us:List Value},RepL S w (xs.map fun x=>V.int .u32 (x:Nat)) us→us=xs.map fun x=>Value.int .u32 (x:Nat)
 |[],us,h=>by cases h;rfl
 |x::xs,us,h=>by
  simp only[List.map_cons]at h;cases h with
  |cons h t=>cases h;rw[qAA t];rfl
theorem qR(h:Rep S w (vL xs) v)(hx:okL xs):wG 0 w.heap.size w v xs:=by
 unfold vL at h;generalize hes:uL xs=es at h;cases h with
 |nils=>have:=congrArg List.length hes;rw[qA]at this;obtain rfl:xs=[]:=pN this;exact wG.nil
 |emp p cap=>have:=congrArg List.length hes;rw[qA]at this;obtain rfl:xs=[]:=pN this;exact⟨some p,cap,rfl,pG _,by simp,by simp,fun h=>absurd rfl h⟩
 |@list k _ us b off cap hk ho hc hl hb hu=>subst hes;rw[uL_flat]at hl;have e:=qAA hl;rw[qA]at hc ⊢;refine⟨_,cap,rfl,hc,by simp,hx,fun hne=>?_⟩;have hb':=hb (by intro e;have:=congrArg List.length e;rw[qA]at this;exact hne (pN this));refine⟨b,off,rfl,pG _,hb'.2,fun i hi=>?_,fun h=>by omega⟩;refine hu i _ ?_;rw[e];simp[List.getElem?_eq_getElem hi,List.getD]
theorem zM{lo hi:Nat}(h:wG lo hi w v xs)(hhi:hi≤w.heap.size)(hS:∀b,lo≤b→b<w.heap.size→S b):Rep S w (vL xs) v:=by
 obtain⟨ad,cap,rfl,hc,hn,hx,hne⟩:=h;by_cases he:xs=[]
 ·subst he;cases ad with
  |none=>obtain rfl:=hn rfl;exact .nils
  |some p=>exact .emp p cap
 ·obtain⟨b,off,rfl,hl,hh,hcell,_⟩:=hne he;have:=Rep.list (S:=S) (w:=w) (es:=uL xs) (us:=xs.map fun x=>Value.int .u32 (x:Nat)) (b:=b) (off:=off) (cap:=cap) (k:=1) (qC1 xs) (by
   intro e he;obtain⟨x,_,rfl⟩:=pR.1 he;rfl) (by rw[qA];exact hc) (by rw[uL_flat];exact ints_rep xs) (fun _=>⟨hS b hl (by omega),by omega⟩) (by
   intro j u hj;rw[pW]at hj;cases hq:xs[j]? with
   |none=>rw[hq]at hj;cases hj
   |some q=>rw[hq]at hj;cases hj;have hjl:=(pY.1 hq).1;rw[hcell j hjl];simp[List.getD,hq])
  rw[qA]at this;exact this
end
theorem wDB(lo hi:Nat)(v:Value)(xs:List Nat)(w:World)(h:wG lo hi w v xs)(hl:xs.length≤140737488355328) :
  Calls Tryz.prog 94 #[v] w fun e w'=>∃r,e=.returned r∧wG lo hi w r (qE xs)∧w=w':=by
 have h0:=h;obtain⟨ad,cap,rfl,hc,_,hx,hne⟩:=h
 go_enter Tryz.func94,Tryz.ntmps94
 go_wp2
 go_loop [0] (fun t=>∃k:Nat,t=.slice ad k cap∧k≤xs.length∧qE (xs.take k)=qE xs) (fun t=>match t with|.slice _ k _=>k|_=>0)
 case atStart=>exact⟨xs.length,rfl,pC _,by simp⟩
 case round=>
  obtain⟨k,rfl,hk,ht⟩:=hrel;have HT:=hid ht;clear ht;cases k with
  |zero=>
   go_wp2
   go_ret
   exact⟨_,rfl,by rw[←HT.out];exact h0.pre 0 (pG _),rfl⟩
  | succ m=>
   obtain⟨b,off,rfl,hlo,hhi,hcell,_⟩:=hne (by intro h;subst h;simp at hk);have hcm:=hcell m (by omega);clear hcell
   go_wp2
   ·have h1:((xs[m]?.getD 0:Nat)==(0:Int))=true:=by assumption
    refine⟨⟨m,rfl,by omega,?_⟩,by simp⟩;rw[←HT.out,qY xs 0 m (by omega),pJ,show xs[m]?.getD 0=0 from by simpa using h1,xI]
   ·have h1:((xs[m]?.getD 0:Nat)==(0:Int))=false:=by assumption
    go_ret
    refine⟨_,rfl,?_,rfl⟩;have e:qE xs=xs.take (m+1):=by rw[←HT.out,qY xs 0 m (by omega),pJ,wL0 _ _ (by simpa using h1)]
    rw[e];exact h0.pre (m+1) hk
theorem vY:Elem Tryz.prog 23 66 (.int .u32 0) 1 4:=
 ⟨Tryz.underlying23,by kernel_rfl,rfl,by decide⟩
theorem own_own(lo hi:Nat)(v:Value)(xs:List Nat)(w:World)(h:wG lo hi w v xs)(hl:xs.length≤35184372088832) :
  Calls Tryz.prog 133 #[v] w fun e w'=>∃r,e=.returned r∧w'.ownsRow w.heap.size 66 1 r (qE xs).length (zQ (qE xs))∧(∀x,x∈qE xs→x<4294967296)∧Below w.heap.size w w':=by
 have hle:=jH xs;have hcall:=wDB lo hi v xs w h (by omega);revert hle hcall;generalize qE xs=ys;intro hle hcall
 go_enter Tryz.func133,Tryz.ntmps133
 go_wp2_with fail
 refine hcall.mono ?_;rintro e w' ⟨r,rfl,hr,rfl⟩;clear hcall h;obtain⟨ad,cap,rfl,hc,_,hx,hne⟩:=hr;by_cases hy:ys=[]
 ·subst hy
  go_wp2
  go_ret
  exact⟨_,rfl,World.ownsRow_nil _ _ _ _,by simp,Below.refl _ _⟩
 ·have hpos:0<ys.length:=cK.2 hy;obtain⟨b,off,rfl,hlo,hhi,hcell,_⟩:=hne hy;clear hne;have hml:ys.length≤maxLen:=by unfold maxLen;omega
  have H:=hid hcell;clear hcell
  go_wp2_with (at_make;refine wM9 vY rfl _ _ rfl w.heap.size _ _ _ _ ys.length ys.length rfl rfl rfl rfl (pC _) (by omega) hml (Below.refl _ _) (pC _) ?_)
  intro w1 ho1 hb1 _
  go_wp2_with (with_reducible refine qBC vY rfl _ _ _ rfl w.heap.size w.heap.size ys.length ys.length cap ⟨b,off,none⟩ _ (zQ ys) rfl rfl ho1 (by simp[zQ]) ?c1 (qFG _) hb1 ?_)
  case c1=>
   intro j v hj;have hjl:j<ys.length:=by have:=(pY.1 hj).1;simpa[zQ]using this
   have hc1:=H.out j hjl;have hlt:=World.block_lt_of_cell? w _ hc1;rw[Addr.add_lit,hb1.cell (by exact hlt),hc1];rw[←hj];simp[zQ,List.getD_eq_getElem?_getD,hjl]
  intro w2 ho2 hb2 _
  go_wp2
  go_ret
  exact⟨_,rfl,ho2,hx,hb2⟩
theorem qDD(lo hi:Nat)(v:Value)(xs:List Nat)(w:World)(h:wG lo hi w v xs)(hl:xs.length≤35184372088832) :
  Calls Tryz.prog 133 #[v] w fun e w'=>∃r,e=.returned r∧wG w.heap.size w'.heap.size w' r (qE xs)∧Below w.heap.size w w':=
 (own_own lo hi v xs w h hl).mono fun _ _ ⟨r,h1,h2,h3,h4⟩=>⟨r,h1,wG.ofOwn h2 h3,h4⟩
theorem norm_own(lo hi:Nat)(v:Value)(xs:List Nat)(w:World)(h:wG lo hi w v xs)(hl:xs.length≤35184372088832) :
  Calls Tryz.prog 91 #[v] w fun e w'=>∃r,e=.returned r∧w'.ownsRow w.heap.size 66 1 r (qE xs).length (zQ (qE xs))∧(∀x,x∈qE xs→x<4294967296)∧Below w.heap.size w w':=by
 have hcall:=own_own lo hi v xs w h hl;clear h hl
 go_enter Tryz.func91,Tryz.ntmps91
 go_wp2_with fail
 refine hcall.mono ?_;rintro e w' ⟨r,rfl,hr,hx,hb⟩;clear hcall
 go_wp2
 go_ret
 exact⟨_,rfl,hr,hx,hb⟩
theorem qHG(lo hi:Nat)(v:Value)(xs:List Nat)(w:World)(h:wG lo hi w v xs)(hl:xs.length≤35184372088832) :
  Calls Tryz.prog 91 #[v] w fun e w'=>∃r,e=.returned r∧wG w.heap.size w'.heap.size w' r (qE xs)∧Below w.heap.size w w':=
 (norm_own lo hi v xs w h hl).mono fun _ _ ⟨r,h1,h2,h3,h4⟩=>⟨r,h1,wG.ofOwn h2 h3,h4⟩
theorem x6(lo hi:Nat)(v:Value)(xs:List Nat)(k x:Nat)(w:World)(h:wG lo hi w v xs)(hk:k≤35184372088832)(hx:xs.getD k 0=x) :
  Calls Tryz.prog 135 #[v,.int .i64 k] w fun e w'=>e=.returned (.int .u64 (x:Nat))∧w=w':=by
 obtain⟨ad,cap,rfl,hc,_,hlt,hcell⟩:=h.open;by_cases hkl:k<xs.length
 ·obtain⟨b,off,rfl,_,_,hc1⟩:=hcell k hkl;rw[hx]at hc1;have hx32:x<4294967296:=by rw[←hx];exact hlt _ (by simp[List.getD_eq_getElem?_getD,hkl])
  clear hcell hlt h hx
  go_enter Tryz.func135,Tryz.ntmps135
  go_wp2
  go_ret
  exact⟨rfl,rfl⟩
 ·obtain rfl:x=0:=by rw[←hx,pJ,fA (by omega)];rfl
  clear hcell hlt h hx
  go_enter Tryz.func135,Tryz.ntmps135
  go_wp2
  go_ret
  exact⟨rfl,rfl⟩
theorem wVC(xs:List Nat):wB xs=0↔∀x,x∈xs→x=0:=by
 induction xs with
 |nil=>simp[wB]
 |cons y ys ih=>simp only[wB,List.forall_mem_cons,←ih];omega
theorem zero01_any(lo hi:Nat)(v:Value)(xs:List Nat)(w:World)(h:wG lo hi w v xs)(hl:xs.length≤35184372088832) :
  Calls Tryz.prog 138 #[v] w fun e w'=>e=.returned (.bool (decide (wB xs=0)))∧w=w':=by
 obtain⟨ad,cap,rfl,hc,_,hlt,hcell⟩:=h.open;clear hlt h;have HC:=hid hcell;clear hcell
 go_enter Tryz.func138,Tryz.ntmps138
 go_wp2
 go_loop [7] (fun t=>∃k:Nat,t=.int .i64 k∧k≤xs.length∧∀x,x∈xs.take k→x=0) (fun t=>xs.length-(intOf t).toNat)
 case atStart=>exact⟨0,rfl,pG _,by simp⟩
 case round=>
  obtain⟨k,rfl,hk,hz⟩:=hrel;have HZ:=hid hz;clear hz;by_cases hkl:k<xs.length
  ·obtain⟨b,off,rfl,_,_,hc1⟩:=HC.out k hkl;obtain⟨x,hx⟩:∃x,x=xs.getD k 0:=⟨_,rfl⟩
   rw[←hx]at hc1;have HX:=hid hx;clear hx
   go_wp2
   ·have h1:((x:Int) != 0)=true:=by assumption
    go_ret
    have:decide (wB xs=0)=false:=by rw[decide_eq_false_iff_not,wVC];intro h;have:=h x (by rw[HX.out];exact wW7 xs k hkl);simp[this]at h1
    rw[this];exact⟨rfl,rfl⟩
   ·have h1:((x:Int) != 0)=false:=by assumption
    refine⟨⟨k+1,by go_num,by omega,?_⟩,by simp[intOf];omega⟩;intro y hy;rw[qY xs 0 k hkl,cB]at hy;rcases hy with hy|hy
    ·exact HZ.out y hy
    ·simp only[List.mem_singleton]at hy;rw[hy,←HX.out];simpa using h1
  ·obtain rfl:k=xs.length:=by omega
   go_wp2
   go_ret
   have:decide (wB xs=0)=true:=by rw[decide_eq_true_eq,wVC];intro x hx;exact HZ.out x (by rw[pZ];exact hx)
   rw[this];exact⟨rfl,rfl⟩
theorem same01_any(lo hi lo2 hi2:Nat)(v v2:Value)(xs ys:List Nat)(w:World)(h:wG lo hi w v xs)(h2:wG lo2 hi2 w v2 ys)(hl:xs.length≤35184372088832) :
  Calls Tryz.prog 41 #[v,v2] w fun e w'=>e=.returned (.bool (decide (xs=ys)))∧Below w.heap.size w w':=by
 obtain⟨ad,cap,rfl,hc,_,hlt,hcell⟩:=h.open;obtain⟨ad2,cap2,rfl,hc2,_,hlt2,hcell2⟩:=h2.open;clear hlt h hlt2 h2;have HC:=hid hcell;have HC2:=hid hcell2;clear hcell hcell2;by_cases hlen:xs.length=ys.length
 ·have hb:((xs.length:Int) != ys.length)=false:=by simp[hlen]
  have HL:=hid hlen
  go_enter Tryz.func41,Tryz.ntmps41
  go_wp2
  go_loopw [13] (fun t wr=>∃k:Nat,t=.int .i64 k∧k≤xs.length∧Below w.heap.size w wr∧xs.take k=ys.take k) (fun t _=>xs.length-(intOf t).toNat)
  case atStart=>exact⟨0,rfl,pG _,Below.refl _ _,rfl⟩
  case round=>
   obtain⟨k,rfl,hk,hbel,he⟩:=hrel;have HE:=hid he;clear he hb;by_cases hkl:k<xs.length
   ·have hkl2:k<ys.length:=by omega
    obtain⟨b,off,rfl,_,_,hc1⟩:=HC.out k hkl;obtain⟨b2,off2,rfl,_,_,hc12⟩:=HC2.out k hkl2;obtain⟨x,hx⟩:∃x,x=xs.getD k 0:=⟨_,rfl⟩
    obtain⟨y,hy⟩:∃y,y=ys.getD k 0:=⟨_,rfl⟩
    rw[←hx]at hc1;rw[←hy]at hc12;have HX:=hid hx;have HY:=hid hy;have d1:=wH0 hbel hc1 (pC _);have d2:=wH0 hbel hc12 (pC _);clear hx hy hc1 hc12 hlen;have f1:(k:Int)<(xs.length:Int):=by omega
    have f2:(k:Int)<(ys.length:Int):=by omega
    go_wp2
    go_quiet (fail)
    go_wp2
    ·have h1:((x:Int) != (y:Int))=true:=by assumption
     go_ret
     have:decide (xs=ys)=false:=by rw[decide_eq_false_iff_not];intro e;rw[HX.out,HY.out,e]at h1;simp at h1
     rw[this];exact⟨rfl,wM4 hbel _⟩
    ·have h1:((x:Int) != (y:Int))=false:=by assumption
     refine⟨⟨k+1,by go_num,by omega,wM4 hbel _,?_⟩,by simp[intOf];omega⟩;rw[qY xs 0 k hkl,qY ys 0 k hkl2,HE.out,←HX.out,←HY.out]
     have:x=y:=by
      have h2:(x:Int)=y:=by simpa using h1
      omega
     rw[this]
   ·obtain rfl:k=xs.length:=by omega
    go_wp2
    go_ret
    have:decide (xs=ys)=true:=by
     rw[decide_eq_true_eq];have:=HE.out
     rwa [pZ,HL.out,pZ]at this
    rw[this];exact⟨rfl,hbel⟩
 ·have hb:((xs.length:Int) != ys.length)=true:=by simp[bne_iff_ne];omega
  have hd:decide (xs=ys)=false:=by rw[decide_eq_false_iff_not];intro e;exact hlen (by rw[e])
  have HD:=hid hd;clear hlen hd
  go_enter Tryz.func41,Tryz.ntmps41
  go_wp2
  go_ret
  rw[HD.out];exact⟨rfl,Below.refl _ _⟩
theorem zE(lo hi:Nat)(v:Value)(xs:List Nat)(w:World)(h:wG lo hi w v xs)(hl:xs.length≤35184372088832) :
  Calls Tryz.prog 33 #[v] w fun e w'=>∃r,e=.returned r∧wG w.heap.size w'.heap.size w' r (toL (wB xs))∧Below w.heap.size w w':=by
 obtain⟨ad,cap,rfl,hc,_,hlt,hcell⟩:=h.open;have hT:=zG xs hlt;have hTlt:∀x,x∈qE xs→x<4294967296:=fun x h=>hlt x (wP5 xs x h);have HT:=hid hT;have HTL:=hid hTlt;have HC:=hid hcell;clear hcell hT hlt h hTlt
 go_enter Tryz.func33,Tryz.ntmps33
 go_wp2
 go_loop [3] (fun t=>∃k:Nat,t=.int .i64 k∧k≤xs.length∧qE (xs.take k)=qE xs) (fun t=>(intOf t).toNat)
 case atStart=>exact⟨xs.length,rfl,pC _,by simp⟩
 case round=>
  obtain⟨k,rfl,hk,ht⟩:=hrel;have HK:=hid ht;clear ht;by_cases hz:k≠0∧xs.getD (k-1) 0=0
  ·obtain⟨m,rfl⟩:∃m,k=m+1:=⟨k-1,by omega⟩
   obtain⟨b,off,rfl,_,_,hc1⟩:=HC.out m (by omega);have h0:=hz.2;rw[show m+1-1=m from rfl]at h0;rw[h0]at hc1;have H0:=hid h0;clear hz h0
   go_wp2
   refine⟨⟨m,by go_num,by omega,?_⟩,by simp[intOf]⟩;rw[←HK.out,qY xs 0 m (by omega),H0.out,xI]
  ·have hcond:k=0∨∃m x b off,k=m+1∧x≠0∧xs.getD m 0=x∧ad=some ⟨b,off,none⟩∧w.cell? ⟨b,off+m,none⟩=some (.int .u32 (x:Nat)):=by
    by_cases h0:k=0
    ·exact .inl h0
    ·obtain⟨b,off,h1,_,_,hc1⟩:=HC.out (k-1) (by omega);refine .inr ⟨k-1,xs.getD (k-1) 0,b,off,by omega,fun h=>hz ⟨h0,h⟩,rfl,h1,hc1⟩
   have hk2:qE xs=xs.take k:=by
    rw[←HK.out];rcases hcond with rfl|⟨m,x,_,_,rfl,hx,hx2,_⟩
    ·rfl
    ·rw[qY xs 0 m (by omega),hx2,wL0 _ _ hx]
   have hlen:(qE xs).length=k:=by rw[hk2,mG];omega
   have HK2:=hid hk2;have HLEN:=hid hlen;clear HK hk2 hlen hz;rcases hcond with rfl|⟨m,x,b,off,rfl,hx,hx2,rfl,hc1⟩
   ·go_wp2_with (at_make;refine kX vY rfl _ _ rfl w.heap.size _ _ _ _ 0 0 rfl rfl rfl rfl (pC _) (by decide) (Below.refl _ _) (pC _) ?_)
    intro w1 ho1 hb1 _
    go_wp2
    refine wp_loop_rounds 1 ?_;rw[rounds_succ]
    go_wp2
    go_ret
    refine⟨_,rfl,?_,hb1⟩;rw[←HT.out,HK2.out];exact(wG.ofOwn (xs:=[]) ho1 (by simp)).wide (pC _) (pC _)
   ·have hxi:((x:Int)==0)=false:=by rw[beq_eq_false_iff_ne];omega
    have HX2:=hid hx2;have HX:=hid hx;clear hx hx2
    go_wp2_with (at_make;refine kX vY rfl _ _ rfl w.heap.size _ _ _ _ (m+1) (m+1) rfl rfl (by omega) (by omega) (pC _) (by omega) (Below.refl _ _) (pC _) ?_)
    intro w1 ho1 hb1 _;clear hc1 hxi
    go_wp2
    go_loopw [5] (fun t wr=>∃(i:Nat)(cur:List Nat),t=.int .i64 i∧i≤m+1∧wr.ownsRow w.heap.size 66 1 (.slice (some ⟨w.heap.size,0,none⟩) (m+1) (m+1)) (m+1) (zQ cur) ∧
      Below w.heap.size w wr∧cur.take i=xs.take i) (fun t _=>m+1-(intOf t).toNat)
    case atStart=>exact⟨0,_,rfl,pG _,ho1,hb1,rfl⟩
    case round=>
     obtain⟨i,cur,rfl,hi,hown,hbel,hcur⟩:=hrel;have HCUR:=hid hcur;clear hcur ho1 hb1;by_cases hil:i<m+1
     ·obtain⟨b',off',hba,_,_,hc1⟩:=HC.out i (by omega);simp only[Option.some.injEq,Addr.mk.injEq,and_true]at hba;obtain⟨rfl,rfl⟩:=hba;obtain⟨y,hy⟩:∃y,y=xs.getD i 0:=⟨_,rfl⟩
      rw[←hy]at hc1;have d1:=wH0 hbel hc1 (pC _);obtain⟨c1,c2⟩:=wAC hown i hil;have HY:=hid hy;have f1:(i:Int)<(xs.length:Int):=by omega
      have f2:(i:Int)<(m+1:Nat):=by omega
      clear hy hc1
      go_wp2
      have hs:=wCB hown i y;refine⟨⟨i+1,cur.set i y,by go_num,by omega,hs.1,hbel.setCell (by exact pC _) _,?_⟩,by simp[intOf];omega⟩;have hcl:=jN hown;rw[wK3 _ _ _ (by omega),HCUR.out,qY xs 0 i (by omega),HY.out]
     ·obtain rfl:i=m+1:=by omega
      have hcl:=jN hown;have he:qE xs=cur:=by rw[HK2.out,←HCUR.out,mW (by omega)]
      have HE:=hid he;clear he hcl
      go_wp2
      go_ret
      refine⟨_,rfl,?_,hbel⟩;rw[←HT.out,HE.out];exact wG.ofOwn hown (by rw[←HE.out];exact HTL.out)
theorem wV9(n:Nat)(w:World)(hn:n<18446744073709551616) :
  Calls Tryz.prog 104 #[.int .u64 (n:Nat)] w fun e w'=>∃r,e=.returned r∧wG w.heap.size w'.heap.size w' r (toL n)∧Below w.heap.size w w':=by
 have hv:wB [n%4294967296,n/4294967296]=n:=by simp only[wB];omega
 obtain⟨a,ha⟩:∃a,a=n%4294967296:=⟨_,rfl⟩
 obtain⟨b,hb⟩:∃b,b=n/4294967296:=⟨_,rfl⟩
 have ha2:(n:Int)%4294967296=(a:Nat):=by omega
 have hb2:(n:Int)/4294967296=(b:Nat):=by omega
 rw[←ha,←hb]at hv;have hal:a<4294967296:=by omega
 have hbl:b<4294967296:=by omega
 clear ha hb hn;have HV:=hid hv;clear hv;have hown:(w.alloc (.cells #[.int .u32 (a:Nat),.int .u32 (b:Nat)] 66)).ownsRow w.heap.size 66 1 (.slice (some ⟨w.heap.size,0,none⟩) 2 2) 2 (zQ [a,b]):=
  World.ownsRow_lit w _ 2 (pC _) (by decide) rfl
 have hb1:Below w.heap.size w (w.alloc (.cells #[.int .u32 (a:Nat),.int .u32 (b:Nat)] 66)):=(Below.refl _ _).alloc (pC _) _;have hL:=wG.ofOwn hown (by intro x hx;simp at hx;rcases hx with rfl|rfl<;>assumption);have hN:=zE _ _ _ _ _ hL (by simp);rw[HV.out]at hN;clear hown hL
 go_enter Tryz.func104,Tryz.ntmps104
 go_wp2_with (go_at_call 33;refine hN.mono ?_;rintro e w' ⟨r,rfl,hr,hb2⟩)
 go_ret
 exact⟨_,rfl,hr.wide hb1.size (pC _),hb1.trans (hb2.mono hb1.size)⟩
theorem wQE(lo h1 lo2 h12:Nat)(v v2:Value)(xs ys:List Nat)(w:World)(h:wG lo h1 w v xs)(h2:wG lo2 h12 w v2 ys)(hhi:h1≤w.heap.size)(hhi2:h12≤w.heap.size)(hl:xs.length≤17592186044416)(hl2:ys.length≤17592186044416) :
  Calls Tryz.prog 102 #[v,v2] w fun e w'=>∃r,e=.returned r∧wG w.heap.size w'.heap.size w' r (toL (wB xs+wB ys))∧Below w.heap.size w w':=by
 obtain⟨ad,cap,rfl,hc,_,hlt,_⟩:=h.open;obtain⟨ad2,cap2,rfl,hc2,_,hlt2,_⟩:=h2.open;have HLT:=hid hlt;have HLT2:=hid hlt2;clear hlt hlt2
 go_enter Tryz.func102,Tryz.ntmps102
 go_upto_if 15 with(fail)
 go_cut [5] (fun t w'=>w'=w∧∃n:Nat,t=.int .i64 n∧xs.length≤n∧ys.length≤n∧n≤17592186044416)
 case first=>
  by_cases hle:ys.length≤xs.length
  ·go_wp2
   go_meet
   exact⟨rfl,xs.length,rfl,by omega,by omega,by omega⟩
  ·go_wp2
   go_meet
   exact⟨rfl,ys.length,rfl,by omega,by omega,by omega⟩
 case rest=>
  obtain⟨rfl,n,rfl,hn1,hn2,hn⟩:=hcut
  go_wp2_with (at_make;refine kX vY rfl _ _ rfl wc.heap.size _ _ _ _ (n+1) (n+1) rfl rfl (by omega) (by omega) (pC _) (by omega) (Below.refl _ _) (pC _) ?_)
  intro w1 ho1 hb1 _
  go_wp2
  have h3:=ho1
  go_loopw [7,23] (fun cv t wr=>∃(i c:Nat)(cur:List Nat),t=.int .i64 i∧cv=.int .u64 c∧c≤1∧i≤n+1 ∧
    wr.ownsRow wc.heap.size 66 1 (.slice (some ⟨wc.heap.size,0,none⟩) (n+1) (n+1)) (n+1) (zQ cur)∧Below wc.heap.size wc wr ∧
    (∀x,x∈cur→x<4294967296)∧wB (cur.take i)+4294967296^i*c=wB (xs.take i)+wB (ys.take i)) (fun _ t _=>n+1-(intOf t).toNat)
  case atStart=>exact⟨0,0,_,rfl,rfl,by omega,pG _,ho1,hb1,wD9 _,by simp[wB]⟩
  case round=>
   obtain⟨i,c,cur,rfl,rfl,hc1,hi,hown,hbel,hcl,hval⟩:=hrel;have HV:=hid hval;have HCL:=hid hcl;clear hval hcl ho1 h3 hb1;by_cases hil:i<n+1
   ·obtain⟨x,hx⟩:∃x,xs.getD i 0=x:=⟨_,rfl⟩
    obtain⟨y,hy⟩:∃y,ys.getD i 0=y:=⟨_,rfl⟩
    have hx32:x<4294967296:=by rw[←hx];exact getD_lt xs HLT.out i
    have hy32:y<4294967296:=by rw[←hy];exact getD_lt ys HLT2.out i
    have q1:=x6 lo h1 _ xs i x wr (h.below hbel hhi) (by omega) hx;have q2:=x6 lo2 h12 _ ys i y wr (h2.below hbel hhi2) (by omega) hy;have HX:=hid hx;have HY:=hid hy;have Q1:=hid q1;have Q2:=hid q2;obtain⟨c1,c2⟩:=wAC hown i hil;clear hx hy q1 q2
    go_wp2_with fail
    refine Q1.out.mono ?_;rintro e w' ⟨rfl,rfl⟩
    go_wp2_with fail
    refine Q2.out.mono ?_;rintro e w' ⟨rfl,rfl⟩
    go_wp2
    have hs:=wCB hown i ((x+y+c)%4294967296);have hln:=jN hown;refine⟨⟨i+1,(x+y+c)/4294967296,_,by go_num,by go_num,by omega,by omega,by simpa using hs.1,hbel.setCell (by exact pC _) _,vB _ _ _ HCL.out (by omega),?_⟩,by simp[intOf];omega⟩;rw[wJ5 _ _ _ _ hln hil,qU xs,qU ys,HX.out,HY.out,mS];exact wXC _ _ _ c (x+y+c) _ _ x y _ HV.out rfl rfl rfl (by omega)
   ·obtain rfl:i=n+1:=by omega
    have hln:=jN hown;have hv:wB cur=wB xs+wB ys:=by have:=HV.out;rw[zB cur _ (by omega),zB xs _ (by omega),zB ys _ (by omega)]at this;have hc0:c=0:=wG8 _ _ c (sum_lt n xs ys hn1 hn2 HLT.out HLT2.out) (by rw[←this];exact pE8 _ _);rw[hc0,dN,mJ]at this;exact this
    have hN:=zE _ _ _ cur wr (wG.ofOwn hown HCL.out) (by omega);rw[hv]at hN;clear hv hln
    go_wp2_with (go_at_call 33;refine hN.mono ?_;rintro e w' ⟨r,rfl,hr,hb2⟩)
    go_ret
    exact⟨_,rfl,hr.wide hbel.size (pC _),hbel.trans (hb2.mono hbel.size)⟩
theorem wC8(lo h1:Nat)(v:Value)(xs:List Nat)(d:Nat)(w:World)(h:wG lo h1 w v xs)(hhi:h1≤w.heap.size)(hl:xs.length≤17592186044416)(hd:d<4294967296) :
  Calls Tryz.prog 137 #[v,.int .u32 (d:Nat)] w fun e w'=>∃r,e=.returned r∧wG w.heap.size w'.heap.size w' r (toL (wB xs*d))∧Below w.heap.size w w':=by
 obtain⟨ad,cap,rfl,hc,_,hlt,_⟩:=h.open;have HLT:=hid hlt;clear hlt
 go_enter Tryz.func137,Tryz.ntmps137
 go_wp2_with (at_make;refine kX vY rfl _ _ rfl w.heap.size _ _ _ _ (xs.length+1) (xs.length+1) rfl rfl (by omega) (by omega) (pC _) (by omega) (Below.refl _ _) (pC _) ?_)
 intro w1 ho1 hb1 _
 go_wp2
 go_loopw [6,15] (fun cv t wr=>∃(i c:Nat)(cur:List Nat),t=.int .i64 i∧cv=.int .u64 c∧c<4294967296∧i≤xs.length+1 ∧
   wr.ownsRow w.heap.size 66 1 (.slice (some ⟨w.heap.size,0,none⟩) (xs.length+1) (xs.length+1)) (xs.length+1) (zQ cur)∧Below w.heap.size w wr ∧
   (∀x,x∈cur→x<4294967296)∧wB (cur.take i)+4294967296^i*c=wB (xs.take i)*d) (fun _ t _=>xs.length+1-(intOf t).toNat)
 case atStart=>exact⟨0,0,_,rfl,rfl,by omega,pG _,ho1,hb1,wD9 _,by simp[wB]⟩
 case round=>
  obtain⟨i,c,cur,rfl,rfl,hc1,hi,hown,hbel,hcl,hval⟩:=hrel;have HV:=hid hval;have HCL:=hid hcl;clear hval hcl ho1 hb1;by_cases hil:i<xs.length+1
  ·obtain⟨x,hx⟩:∃x,xs.getD i 0=x:=⟨_,rfl⟩
   have hx32:x<4294967296:=by rw[←hx];exact getD_lt xs HLT.out i
   have hp:x*d≤4294967295*4294967295:=bK (by omega) (by omega);have q1:=x6 lo h1 _ xs i x wr (h.below hbel hhi) (by omega) hx;have HX:=hid hx;have Q1:=hid q1;obtain⟨c1,c2⟩:=wAC hown i hil;clear hx q1
   go_wp2_with fail
   refine Q1.out.mono ?_;rintro e w' ⟨rfl,rfl⟩
   go_wp2
   have hs:=wCB hown i ((x*d+c)%4294967296);have hln:=jN hown;refine⟨⟨i+1,(x*d+c)/4294967296,_,by go_num,by go_num,by omega,by omega,by simpa using hs.1,hbel.setCell (by exact pC _) _,vB _ _ _ HCL.out (by omega),?_⟩,by simp[intOf];omega⟩;rw[wJ5 _ _ _ _ hln hil,qU xs,HX.out,mS];refine wXC _ _ _ c (x*d+c) _ _ (x*d) 0 _ HV.out (by omega) rfl rfl ?_;rw[mY,mC,dN,mJ]
  ·obtain rfl:i=xs.length+1:=by omega
   have hln:=jN hown;have hv:wB cur=wB xs*d:=by have:=HV.out;rw[zB cur _ (by omega),zB xs _ (by omega)]at this;have hc0:c=0:=wG8 _ _ c (prod_lt xs d HLT.out hd) (by rw[←this];exact pE8 _ _);rw[hc0,dN,mJ]at this;exact this
   have hN:=zE _ _ _ cur wr (wG.ofOwn hown HCL.out) (by omega);rw[hv]at hN;clear hv hln
   go_wp2_with (go_at_call 33;refine hN.mono ?_;rintro e w' ⟨r,rfl,hr,hb2⟩)
   go_ret
   exact⟨_,rfl,hr.wide hbel.size (pC _),hbel.trans (hb2.mono hbel.size)⟩
theorem wR2(lo h1:Nat)(v:Value)(xs:List Nat)(d:Nat)(w:World)(h:wG lo h1 w v xs)(hhi:h1≤w.heap.size)(hl:xs.length≤17592186044416)(hd:d<4294967296) :
  Calls Tryz.prog 136 #[v,.int .u32 (d:Nat)] w fun e w'=>∃r,e=.returned r∧wG w.heap.size w'.heap.size w' r (toL (d+4294967296*wB xs))∧Below w.heap.size w w':=by
 have hlt:∀x,x∈d::xs→x<4294967296:=by
  obtain⟨ad,cap,rfl,hc,_,hlt,_⟩:=h.open;intro x hx;rcases pS.1 hx with rfl|hx
  ·exact hd
  ·exact hlt x hx
 have hown:(w.alloc (.cells #[.int .u32 (d:Nat)] 66)).ownsRow w.heap.size 66 1 (.slice (some ⟨w.heap.size,0,none⟩) 1 1) 1 (zQ [d]):=
  World.ownsRow_lit w _ 1 (pC _) (by decide) rfl
 have hb1:Below w.heap.size w (w.alloc (.cells #[.int .u32 (d:Nat)] 66)):=(Below.refl _ _).alloc (pC _) _;have hL:=h.below hb1 hhi;have HLT:=hid hlt;clear hlt
 go_enter Tryz.func136,Tryz.ntmps136
 go_wp2_with (at_builtin;refine wP3 vY rfl _ _ rfl w.heap.size 1 _ _ _ xs _ _ hown hL rfl rfl (by omega) hb1 hb1.size ?_)
 intro v' w1 ho1 hb2 _ _;have hlen:(1+xs.length)=(d::xs).length:=by simp;omega
 rw[hlen]at ho1;have hN:=zE _ _ _ (d::xs) w1 (wG.ofOwn ho1 HLT.out) (by simp;omega);clear hlen
 go_wp2_with (go_at_call 33;refine hN.mono ?_;rintro e w' ⟨r,rfl,hr,hb3⟩)
 go_ret
 exact⟨_,rfl,hr.wide hb2.size (pC _),hb2.trans (hb3.mono hb2.size)⟩
def jD(a b:Nat):Int:=if a<b then -1 else if b<a then 1 else 0
theorem wQB(lo h1 lo2 h12:Nat)(v v2:Value)(xs ys:List Nat)(w:World)(h:wG lo h1 w v xs)(h2:wG lo2 h12 w v2 ys)(hl:xs.length≤17592186044416)(hl2:ys.length≤17592186044416) :
  Calls Tryz.prog 179 #[v,v2] w fun e w'=>e=.returned (.int .i64 (jD (wB xs) (wB ys)))∧w=w':=by
 obtain⟨ad,cap,rfl,hc,_,hlt,_⟩:=h.open;obtain⟨ad2,cap2,rfl,hc2,_,hlt2,_⟩:=h2.open;have HLT:=hid hlt;have HLT2:=hid hlt2;clear hlt hlt2
 go_enter Tryz.func179,Tryz.ntmps179
 go_upto_if 12 with(fail)
 go_cut [5] (fun t w'=>w'=w∧∃n:Nat,t=.int .i64 n∧xs.length≤n∧ys.length≤n∧n≤17592186044416)
 case first=>
  by_cases hle:ys.length≤xs.length
  ·go_wp2
   go_meet
   exact⟨rfl,xs.length,rfl,by omega,by omega,by omega⟩
  ·go_wp2
   go_meet
   exact⟨rfl,ys.length,rfl,by omega,by omega,by omega⟩
 case rest=>
  obtain⟨rfl,n,rfl,hn1,hn2,hn⟩:=hcut
  go_wp2
  go_loop [6] (fun t=>∃k:Nat,t=.int .i64 ((k:Int)-1)∧k≤n∧wB (xs.drop k)=wB (ys.drop k)) (fun t=>(intOf t+1).toNat)
  case atStart=>exact⟨n,rfl,pC _,by rw[mP hn1,mP hn2]⟩
  case round=>
   obtain⟨k,rfl,hk,he⟩:=hrel;have HE:=hid he;clear he;cases k with
   | zero=>
    go_wp2
    go_ret
    have:jD (wB xs) (wB ys)=0:=by have:=HE.out;simp only[List.drop_zero]at this;rw[this];simp[jD]
    rw[this];exact⟨rfl,rfl⟩
   | succ m=>
    obtain⟨x,hx⟩:∃x,xs.getD m 0=x:=⟨_,rfl⟩
    obtain⟨y,hy⟩:∃y,ys.getD m 0=y:=⟨_,rfl⟩
    have hx32:x<4294967296:=by rw[←hx];exact getD_lt xs HLT.out m
    have hy32:y<4294967296:=by rw[←hy];exact getD_lt ys HLT2.out m
    have q1:=x6 lo h1 _ xs m x wc h (by omega) hx;have q2:=x6 lo2 h12 _ ys m y wc h2 (by omega) hy;have HX:=hid hx;have HY:=hid hy;have Q1:=hid q1;have Q2:=hid q2;clear hx hy q1 q2;have c1:wB xs<wB ys→jD (wB xs) (wB ys) = -1:=fun h=>by simp[jD,h]
    have c2:wB ys<wB xs→jD (wB xs) (wB ys)=1:=fun h=>by rw[jD,if_neg (by omega),if_pos h]
    have C1:=hid c1;have C2:=hid c2;clear c1 c2;rcases pA4 x y with hxy|hxy|hxy
    ·go_wp2_with fail
     refine Q1.out.mono ?_;rintro e w' ⟨rfl,rfl⟩
     go_wp2_with fail
     refine Q2.out.mono ?_;rintro e w' ⟨rfl,rfl⟩
     go_wp2
     go_ret
     rw[C1.out (wT8 xs ys m HLT.out (wJE xs ys m x y HX.out HY.out HE.out hxy))];exact⟨rfl,rfl⟩
    ·have hxy2:x≤y:=by omega
     have hxy3:y≤x:=by omega
     have HXY:=hid hxy;clear hxy
     go_wp2_with fail
     refine Q1.out.mono ?_;rintro e w' ⟨rfl,rfl⟩
     go_wp2_with fail
     refine Q2.out.mono ?_;rintro e w' ⟨rfl,rfl⟩
     go_wp2_with fail
     refine Q1.out.mono ?_;rintro e w' ⟨rfl,rfl⟩
     go_wp2_with fail
     refine Q2.out.mono ?_;rintro e w' ⟨rfl,rfl⟩
     go_wp2
     refine⟨⟨m,by go_num,by omega,?_⟩,by simp[intOf]⟩;rw[wY xs m,wY ys m,HX.out,HY.out,HE.out,HXY.out]
    ·go_wp2_with fail
     refine Q1.out.mono ?_;rintro e w' ⟨rfl,rfl⟩
     go_wp2_with fail
     refine Q2.out.mono ?_;rintro e w' ⟨rfl,rfl⟩
     go_wp2_with fail
     refine Q1.out.mono ?_;rintro e w' ⟨rfl,rfl⟩
     go_wp2_with fail
     refine Q2.out.mono ?_;rintro e w' ⟨rfl,rfl⟩
     go_wp2
     go_ret
     rw[C2.out (wT8 ys xs m HLT2.out (wJE ys xs m y x HY.out HX.out HE.out.symm hxy))];exact⟨rfl,rfl⟩
theorem wZD(lo h1 lo2 h12:Nat)(v v2:Value)(xs ys:List Nat)(w:World)(h:wG lo h1 w v xs)(h2:wG lo2 h12 w v2 ys)(hhi:h1≤w.heap.size)(hhi2:h12≤w.heap.size)(hl:xs.length≤17592186044416)(hle:wB ys≤wB xs) :
  Calls Tryz.prog 180 #[v,v2] w fun e w'=>∃r,e=.returned r∧wG w.heap.size w'.heap.size w' r (toL (wB xs-wB ys))∧Below w.heap.size w w':=by
 obtain⟨ad,cap,rfl,hc,_,hlt,_⟩:=h.open;obtain⟨ad2,cap2,rfl,hc2,_,hlt2,_⟩:=h2.open;have HLT:=hid hlt;have HLT2:=hid hlt2;have HLE:=hid hle;clear hlt hlt2 hle
 go_enter Tryz.func180,Tryz.ntmps180
 go_wp2_with (at_make;refine kX vY rfl _ _ rfl w.heap.size _ _ _ _ xs.length xs.length rfl rfl rfl rfl (pC _) (by omega) (Below.refl _ _) (pC _) ?_)
 intro w1 ho1 hb1 _
 go_wp2
 go_loopw [6,14] (fun cv t wr=>∃(i c:Nat)(cur:List Nat),t=.int .i64 i∧cv=.int .u64 c∧c≤1∧i≤xs.length ∧
   wr.ownsRow w.heap.size 66 1 (.slice (some ⟨w.heap.size,0,none⟩) xs.length xs.length) xs.length (zQ cur)∧Below w.heap.size w wr ∧
   (∀x,x∈cur→x<4294967296)∧wB (cur.take i)+wB (ys.take i)=wB (xs.take i)+4294967296^i*c) (fun _ t _=>xs.length-(intOf t).toNat)
 case atStart=>exact⟨0,0,_,rfl,rfl,by omega,pG _,ho1,hb1,wD9 _,by simp[wB]⟩
 case round=>
  obtain⟨i,c,cur,rfl,rfl,hc1,hi,hown,hbel,hcl,hval⟩:=hrel;have HV:=hid hval;have HCL:=hid hcl;clear hval hcl ho1 hb1;by_cases hil:i<xs.length
  ·obtain⟨x,hx⟩:∃x,xs.getD i 0=x:=⟨_,rfl⟩
   obtain⟨y,hy⟩:∃y,ys.getD i 0=y:=⟨_,rfl⟩
   have hx32:x<4294967296:=by rw[←hx];exact getD_lt xs HLT.out i
   have hy32:y<4294967296:=by rw[←hy];exact getD_lt ys HLT2.out i
   have q1:=x6 lo h1 _ xs i x wr (h.below hbel hhi) (by omega) hx;have q2:=x6 lo2 h12 _ ys i y wr (h2.below hbel hhi2) (by omega) hy;have HX:=hid hx;have HY:=hid hy;have Q1:=hid q1;have Q2:=hid q2;obtain⟨c1,c2⟩:=wAC hown i hil;clear hx hy q1 q2
   go_wp2_with fail
   refine Q1.out.mono ?_;rintro e w' ⟨rfl,rfl⟩
   go_wp2_with fail
   refine Q2.out.mono ?_;rintro e w' ⟨rfl,rfl⟩
   go_wp2
   have hs:=wCB hown i ((4294967296+x-y-c)%4294967296);have hln:=jN hown;have e1:(4294967296+(x:Int)-y-c)=((4294967296+x-y-c:Nat):Int):=by omega
   have e2:(1:Int)-(4294967296+(x:Int)-y-c)/4294967296=((1-(4294967296+x-y-c)/4294967296:Nat):Int):=by omega
   refine⟨⟨i+1,1-(4294967296+x-y-c)/4294967296,_,by go_num,by rw[e2],by omega,by omega,by rw[e1];simpa using hs.1,by rw[e1];exact hbel.setCell (by exact pC _) _,vB _ _ _ HCL.out (by omega),?_⟩,by simp[intOf];omega⟩;rw[wJ5 _ _ _ _ hln hil,qU xs,qU ys,HX.out,HY.out,mS];exact sub_carry _ _ c (4294967296+x-y-c) _ _ x y _ HV.out (by omega) rfl (by omega)
  ·obtain rfl:i=xs.length:=by omega
   have hln:=jN hown;have hv:wB cur=wB xs-wB ys:=by
    have:=HV.out;rw[zB cur _ (by omega),zB xs _ (by omega)]at this;have p1:=qP xs HLT.out;have p2:=qP cur HCL.out;have p3:=qO ys xs.length;have p4:=HLE.out;rw[hln]at p2;generalize 4294967296^xs.length=P at *
    have z1:wB (ys.drop xs.length)=0:=wG8 P _ _ p1 (by omega);rw[z1,dN]at p3;have z2:c=0:=wG8 P _ _ p2 (by omega);rw[z2,dN]at this;omega
   have hN:=zE _ _ _ cur wr (wG.ofOwn hown HCL.out) (by omega);rw[hv]at hN;clear hv hln
   go_wp2_with (go_at_call 33;refine hN.mono ?_;rintro e w' ⟨r,rfl,hr,hb2⟩)
   go_ret
   exact⟨_,rfl,hr.wide hbel.size (pC _),hbel.trans (hb2.mono hbel.size)⟩
theorem w8{a b:Nat}(h:a≤b):(toL a).length≤(toL b).length:=by
 refine zC a _ (fM h ?_);have:=qP (toL b) (qL b)
 rwa [wI]at this
theorem cmpN_lt{a b:Nat}(h:a<b):jD a b = -1:=by simp[jD,h]
theorem cmpN_gt{a b:Nat}(h:b<a):jD a b=1:=by rw[jD,if_neg (by omega),if_pos h]
theorem cmpN_eq(a:Nat):jD a a=0:=by simp[jD]
theorem cmp_any(lo h1 lo2 h12:Nat)(v v2:Value)(xs ys:List Nat)(w:World)(h:wG lo h1 w v xs)(h2:wG lo2 h12 w v2 ys)(hl:xs.length≤35184372088832)(hl2:ys.length≤35184372088832) :
  Calls Tryz.prog 173 #[v,v2] w fun e w'=>e=.returned (.int .i64 (jD (wB xs) (wB ys)))∧Below w.heap.size w w':=by
 have t1:=zG xs (by obtain⟨_,_,_,_,_,hlt,_⟩:=h.open;exact hlt);have t2:=zG ys (by obtain⟨_,_,_,_,_,hlt,_⟩:=h2.open;exact hlt);have l1:=jH xs;have l2:=jH ys;have q1:=wDB lo h1 v xs w h (by omega);have q2:=wDB lo2 h12 v2 ys w h2 (by omega);rw[t1]at q1 l1;rw[t2]at q2 l2;obtain⟨X,hX⟩:∃X,wB xs=X:=⟨_,rfl⟩
 obtain⟨Y,hY⟩:∃Y,wB ys=Y:=⟨_,rfl⟩
 rw[hX]at q1 l1 ⊢;rw[hY]at q2 l2 ⊢;have HX:=hid (wI X);have HY:=hid (wI Y);have HL1:=hid (@w8 X Y);have HL2:=hid (@w8 Y X);clear hX hY h h2 t1 t2;generalize toL X=us at *
 generalize toL Y=vs at *
 have Q1:=hid q1;have Q2:=hid q2;clear q1 q2
 go_enter Tryz.func173,Tryz.ntmps173
 go_wp2_with fail
 refine Q1.out.mono ?_;rintro e w' ⟨r1,rfl,hr1,rfl⟩
 go_wp2_with fail
 refine Q2.out.mono ?_;rintro e w' ⟨r2,rfl,hr2,rfl⟩;obtain⟨ad,cap,rfl,_,_,hlt1,hcell⟩:=hr1.open;obtain⟨ad2,cap2,rfl,_,_,hlt2,hcell2⟩:=hr2.open;have HC:=hid hcell;have HC2:=hid hcell2;have HLT1:=hid hlt1;have HLT2:=hid hlt2;clear Q1 Q2 hr1 hr2 hcell hcell2 hlt1 hlt2;rcases pA4 us.length vs.length with hlen|hlen|hlen
 ·have hc:=cmpN_lt (a:=X) (b:=Y) (by
   rcases pL X Y with h|h
   ·exact h
   ·have:=HL2.out h;omega)
  have hb:((us.length:Int) != vs.length)=true:=by simp[bne_iff_ne];omega
  have HH:=hid hc;clear hc
  go_wp2
  go_ret
  rw[HH.out];exact⟨rfl,Below.refl _ _⟩
 ·have hb:((us.length:Int) != vs.length)=false:=by simp[hlen]
  have HLEN:=hid hlen;clear hlen
  go_wp2
  go_loopw [5] (fun t wr=>∃k:Nat,t=.int .i64 ((k:Int)-1)∧k≤us.length∧Below w.heap.size w wr∧wB (us.drop k)=wB (vs.drop k)) (fun t _=>(intOf t+1).toNat)
  case atStart=>exact⟨us.length,rfl,pC _,Below.refl _ _,by rw[bA,HLEN.out,bA]⟩
  case round=>
   obtain⟨k,rfl,hk,hbel,he⟩:=hrel;have HE:=hid he;clear he hb;cases k with
   |zero=>
    go_wp2
    go_ret
    have:=HE.out;rw[dR,dR,HX.out,HY.out]at this;rw[this,cmpN_eq];exact⟨rfl,hbel⟩
   | succ m=>
    have hlv:=HLEN.out;obtain⟨b,off,rfl,_,_,hc1⟩:=HC.out m (by omega);obtain⟨b2,off2,rfl,_,_,hc2⟩:=HC2.out m (by omega);obtain⟨x,hx⟩:∃x,us.getD m 0=x:=⟨_,rfl⟩
    obtain⟨y,hy⟩:∃y,vs.getD m 0=y:=⟨_,rfl⟩
    rw[hx]at hc1;rw[hy]at hc2;have d1:=wH0 hbel hc1 (pC _);have d2:=wH0 hbel hc2 (pC _);have f1:(m:Int)<(us.length:Int):=by omega
    have f2:(m:Int)<(vs.length:Int):=by omega
    have HXX:=hid hx;have HYY:=hid hy;clear hc1 hc2 hx hy hlv;rcases pA4 x y with hxy|hxy|hxy
    ·have e1:((x:Int) != (y:Int))=true:=by simp[bne_iff_ne];omega
     have e2:decide ((x:Int)<(y:Int))=true:=by simp;omega
     go_wp2
     go_quiet (fail)
     go_wp2
     go_quiet (fail)
     go_wp2
     go_ret
     have:=wT8 us vs m HLT1.out (wJE us vs m x y HXX.out HYY.out HE.out hxy);rw[HX.out,HY.out]at this;rw[cmpN_lt this];exact⟨rfl,wM4 (wM4 hbel _) _⟩
    ·subst hxy
     go_wp2
     go_quiet (fail)
     go_wp2
     refine⟨⟨m,by go_num,by omega,wM4 hbel _,?_⟩,by simp[intOf]⟩;rw[wY us m,wY vs m,HXX.out,HYY.out,HE.out]
    ·have e1:((x:Int) != (y:Int))=true:=by simp[bne_iff_ne];omega
     have e2:decide ((x:Int)<(y:Int))=false:=by simp;omega
     go_wp2
     go_quiet (fail)
     go_wp2
     go_quiet (fail)
     go_wp2
     go_ret
     have:=wT8 vs us m HLT2.out (wJE vs us m y x HYY.out HXX.out HE.out.symm hxy);rw[HX.out,HY.out]at this;rw[cmpN_gt this];exact⟨rfl,wM4 (wM4 hbel _) _⟩
 ·have hc:=cmpN_gt (a:=X) (b:=Y) (by
   rcases pL Y X with h|h
   ·exact h
   ·have:=HL1.out h;omega)
  have hb:((us.length:Int) != vs.length)=true:=by simp[bne_iff_ne];omega
  have hb2:decide (us.length<vs.length)=false:=by simp;omega
  have HH:=hid hc;clear hc
  go_wp2
  go_ret
  rw[HH.out];exact⟨rfl,Below.refl _ _⟩
theorem wYI(xs:List Nat)(i:Nat)(hx:∀x,x∈xs→x<4294967296):wB xs/4294967296^i=wB (xs.drop i):=by have h1:=qO xs i;have h2:=kJ xs i hx;rw[h1,fW,Nat.mul_add_div (dU (by decide)),pE1 h2,mJ]
theorem pow32(s:Nat)(hs:s≤32):∃c,4294967296=2^s*c:=⟨2^(32-s),by rw[←fC,show s+(32-s)=32 by omega]⟩
theorem wRJ(xs:List Nat)(i s:Nat)(hs:s≤32)(hx:∀x,x∈xs→x<4294967296) :
  wB xs/2^s/4294967296^i%4294967296=(xs.getD i 0+4294967296*xs.getD (i+1) 0)/2^s%4294967296:=by
 obtain⟨c,hc⟩:=pow32 s hs;rw[Nat.div_div_eq_div_mul,mH,←Nat.div_div_eq_div_mul,wYI xs i hx,wY xs i,wY xs (i+1)];generalize wB (xs.drop (i+1+1))=R;generalize xs.getD i 0=x;generalize xs.getD (i+1) 0=y;have e:x+4294967296*(y+4294967296*R)=x+4294967296*y+2^s*(c*(4294967296*R)):=by rw[mA,←cA,←mC (2^s),←hc]
 rw[e,pB8 _ _ (dU (by decide)),fU,gW]
theorem right_step(N P d:Nat)(hd:N/P%4294967296=d):N%(P*4294967296)=N%P+P*d:=by rw[Nat.mod_mul,hd]
theorem wZI(xs:List Nat)(s:Nat)(hx:∀x,x∈xs→x<4294967296):wB xs/2^s%4294967296^xs.length=wB xs/2^s:=
 mX (fM (cO _ _) (qP xs hx))
theorem left_step(P A c N x s:Nat)(h:A+P*c=N*2^s)(hc:c<2^s)(hs:s<32) :
  A+P*(x*2^s%4294967296+c)+P*4294967296*(x*2^s/4294967296)=(N+P*x)*2^s∧x*2^s%4294967296+c<4294967296∧(x<4294967296→x*2^s/4294967296<2^s):=by
 have h1:=cQ (x*2^s) 4294967296;refine⟨?_,?_,fun hx=>?_⟩
 ·rw[mY,←h,mC P x];have h2:P*(x*2^s)=P*4294967296*(x*2^s/4294967296)+P*(x*2^s%4294967296):=by
   conv=>lhs;rw[←h1]
   rw[mA,mC]
  rw[h2,mA];omega
 ·obtain⟨d,hd⟩:=pow32 s (by omega);have e:x*2^s%4294967296=2^s*(x%d):=by rw[hd,mH x,Nat.mul_mod_mul_left]
  have hd0:0<d:=by
   rcases mI d with h0|h0
   ·subst h0;simp at hd
   ·exact h0
  have hm:=dP x hd0
  have:2^s*(x%d+1)≤2^s*d:=mO _ hm
  rw[mA,fV,←hd]at this;omega
 ·refine pB7 ?_;exact(gO (dU (by decide))).2 hx
theorem or_low(x s c:Nat)(hs:s<32)(hc:c<2^s):(x*2^s%4294967296) ||| c=x*2^s%4294967296+c:=by
 obtain⟨d,hd⟩:=pow32 s (by omega);have e:x*2^s%4294967296=2^s*(x%d):=by rw[hd,mH x,Nat.mul_mod_mul_left]
 rw[e,←gL hc]
theorem qII{a b:Nat}(ha:a%2=0)(hg:Nat.gcd a b%2=1):Nat.gcd (a/2) b=Nat.gcd a b:=by
 obtain⟨c,rfl⟩:=bC ha;have hb:b%2=1:=by
  rcases dJ b with h|h
  ·exfalso;obtain⟨d,rfl⟩:=bC h;rw[Nat.gcd_mul_left]at hg;omega
  ·exact h
 rw[pA2 _ (by decide)];have hc:Nat.Coprime 2 b:=by unfold Nat.Coprime;rw[Nat.gcd_rec,hb];rfl
 exact(Nat.Coprime.gcd_mul_left_cancel c hc).symm
theorem gcd_both{a b:Nat}(ha:a%2=0)(hb:b%2=0):Nat.gcd a b=2*Nat.gcd (a/2) (b/2):=by obtain⟨c,rfl⟩:=bC ha;obtain⟨d,rfl⟩:=bC hb;rw[Nat.gcd_mul_left,pA2 _ (by decide),pA2 _ (by decide)]
theorem gcd_odd{a b:Nat}(h:¬(a%2=0∧b%2=0)):Nat.gcd a b%2=1:=by
 rcases dJ (Nat.gcd a b)with h1|h1
 ·exfalso;have h2:=bC h1;exact h ⟨Nat.mod_eq_zero_of_dvd (gQ h2 (pB0 a b)),Nat.mod_eq_zero_of_dvd (gQ h2 (Nat.gcd_dvd_right a b))⟩
 ·exact h1
theorem qIH{a b:Nat}(h:b≤a):Nat.gcd (a-b) b=Nat.gcd a b:=by rw[fN,fN a];exact Nat.gcd_sub_self_right h
theorem qA5(l:List Nat)(j v:Nat)(h:j<l.length):wB (l.set j v)+4294967296^j*l.getD j 0=wB l+4294967296^j*v:=by
 induction l generalizing j with
 |nil=>simp at h
 | cons x xs ih=>
  cases j with
  |zero=>simp only[List.set_cons_zero,wB,List.getD_cons_zero,Nat.pow_zero];omega
  |succ j=>
   have:=ih j (by simpa using h);simp only[List.set_cons_succ,wB,List.getD_cons_succ,Nat.pow_succ];have e1:4294967296^j*4294967296*xs.getD j 0=4294967296*(4294967296^j*xs.getD j 0):=by rw[mH (4294967296^j),mC]
   have e2:4294967296^j*4294967296*v=4294967296*(4294967296^j*v):=by rw[mH (4294967296^j),mC]
   rw[e1,e2];generalize 4294967296^j*xs.getD j 0=p at *
   generalize 4294967296^j*v=q at *
   omega
theorem wGI(n:Nat):wB (List.replicate n 0)=0:=by
 induction n with
 |zero=>rfl
 |succ n ih=>simp[List.replicate_succ,wB,ih]
theorem mul_step(P O O' o x y c V Yk:Nat)(h:O+P*c=V+x*Yk)(hset:O'+P*o=O+P*((x*y+o+c)%4294967296)) :
  O'+P*4294967296*((x*y+o+c)/4294967296)=V+x*(Yk+P*y):=by
 have h1:=cQ (x*y+o+c) 4294967296;have e1:P*(x*y+o+c)=P*4294967296*((x*y+o+c)/4294967296)+P*((x*y+o+c)%4294967296):=by
  conv=>lhs;rw[←h1]
  rw[mA,mC]
 rw[mA,mA]at e1;rw[mA,fU x P y];omega
theorem qA7(lo h1 lo2 h12:Nat)(v v2:Value)(xs ys:List Nat)(w:World)(h:wG lo h1 w v xs)(h2:wG lo2 h12 w v2 ys)(hhi2:h12≤w.heap.size)(hl:xs.length≤4398046511104)(hl2:ys.length≤4398046511104) :
  Calls Tryz.prog 103 #[v,v2] w fun e w'=>∃r,e=.returned r∧wG w.heap.size w'.heap.size w' r (toL (wB xs*wB ys))∧Below w.heap.size w w':=by
 have q1:=zE _ _ _ _ _ h (by omega);have Q1:=hid q1;clear q1
 go_enter Tryz.func103,Tryz.ntmps103
 go_wp2_with fail
 refine Q1.out.mono ?_;rintro e w1 ⟨r1,rfl,hr1,hb1⟩;have q2:=zE _ _ _ _ _ (h2.below hb1 hhi2) (by omega);have Q2:=hid q2;clear q2
 go_wp2_with fail
 refine Q2.out.mono ?_;rintro e w2 ⟨r2,rfl,hr2,hb2⟩;have hr1':=hr1.below hb2 (pC _);have hbel:=hb1.trans (hb2.mono hb1.size);have hs:=hb2.size;clear hb2 hb1 hr1 Q1 Q2;have hlb:=vO ys (by obtain⟨_,_,_,_,_,hlt,_⟩:=h2.open;exact hlt);have hla:=vO xs (by obtain⟨_,_,_,_,_,hlt,_⟩:=h.open;exact hlt);have hnb:=wI (wB ys);have hna:=wI (wB xs);revert hlb hla hnb hna hr1' hr2;generalize toL (wB ys)=bs;generalize toL (wB xs)=us;generalize hY:wB ys=Y;generalize hX:wB xs=X;have HXX:=hid hX;have HYY:=hid hY;clear hX hY;intro hr2 hr1 hlb hla hnb hna;obtain⟨ad,cap,rfl,hc,_,hlt,hcell⟩:=hr2.open;have HC:=hid hcell;have HLT:=hid hlt;have HNA:=hid hna;have HNB:=hid hnb;clear hcell hlt hna hnb;have hAlt:∀x,x∈us→x<4294967296:=by obtain⟨_,_,_,_,_,hlt,_⟩:=hr1.open;exact hlt
 have HALT:=hid hAlt;clear hAlt
 go_wp2
 go_loopw [5,6] (fun vo t wr=>∃k:Nat,t=.int .i64 ((k:Int)-1)∧k≤bs.length∧Below w.heap.size w wr∧Below w2.heap.size w2 wr∧wG w.heap.size wr.heap.size wr vo (toL (X*wB (bs.drop k))))
  (fun _ t _=>(intOf t+1).toNat)
 case atStart=>exact⟨bs.length,rfl,pC _,hbel,Below.refl _ _,by simp[wB,wT,wG.nil]⟩
 case round=>
  obtain⟨k,rfl,hk,hbr,hb2r,hO⟩:=hrel;cases k with
  | zero=>
   have e:wB (toL (X*wB (bs.drop 0)))=X*Y:=by rw[wI,dR,HNB.out]
   have hol:(toL (X*wB (bs.drop 0))).length≤8796093022208:=by refine pD (zC _ (us.length+bs.length) ?_) (by omega);rw[←HNA.out,fC,dR];exact bY (qP us HALT.out) (qP bs HLT.out)
   have hN:=zE _ _ _ _ wr hO (by omega);rw[e]at hN;clear e hol hO
   go_wp2_with (go_at_call 33;refine hN.mono ?_;rintro e w' ⟨r,rfl,hr,hb⟩)
   go_ret
   rw[HXX.out,HYY.out];exact⟨_,rfl,hr.wide hbr.size (pC _),hbr.trans (hb.mono hbr.size)⟩
  | succ m=>
   have hol:(toL (X*wB (bs.drop (m+1)))).length≤8796093022208:=by refine pD (zC _ (us.length+bs.length) ?_) (by omega);rw[←HNA.out,fC];refine bY (qP us HALT.out) (pT (qP _ fun x hx=>HLT.out x (dL hx)) (cU (by decide) (by simp)))
   obtain⟨b,off,rfl,hlo,hhi,hcb⟩:=HC.out m (by omega);obtain⟨y,hy⟩:∃y,bs.getD m 0=y:=⟨_,rfl⟩
   have hy32:y<4294967296:=by rw[←hy];exact getD_lt bs HLT.out m
   rw[hy]at hcb;have hcr:=wH0 hb2r hcb (pC _);have f1:(m:Int)<(bs.length:Int):=by omega
   have e1:wB us*y=X*y:=by rw[HNA.out]
   have hsh:∀W,Below wr.heap.size wr W→Calls Tryz.prog 136 #[u5,.int .u32 0] W fun e w'=>∃r,e=.returned r∧wG W.heap.size w'.heap.size w' r (toL (4294967296*(X*wB (bs.drop (m+1)))))∧Below W.heap.size W w':=by intro W hW;have:=wR2 _ _ _ _ 0 W (hO.below hW (pC _)) hW.size (by omega) (by decide);rw[wI,cL]at this;exact this
   have hsm:∀W,Below wr.heap.size wr W→Calls Tryz.prog 137 #[r1,.int .u32 y] W fun e w'=>∃r,e=.returned r∧wG W.heap.size w'.heap.size w' r (toL (X*y))∧Below W.heap.size W w':=by intro W hW;have:=wC8 _ _ _ _ y W ((hr1.below hb2r hs).below hW (pD hs hb2r.size)) (pD (pD hs hb2r.size) hW.size) (by omega) hy32;rw[e1]at this;exact this
   have hl1:(toL (4294967296*(X*wB (bs.drop (m+1))))).length≤17592186044416:=by refine pD (zC _ (us.length+bs.length+1) ?_) (by omega);rw[←HNA.out,mS,mH 4294967296];refine pD0 ?_ (by decide);rw[fC];refine bY (qP us HALT.out) (pT (qP _ fun x hx=>HLT.out x (dL hx)) (cU (by decide) (by simp)))
   have hl2:(toL (X*y)).length≤17592186044416:=by refine pD (zC _ (us.length+1) ?_) (by omega);rw[←HNA.out,mS];exact bY (qP us HALT.out) hy32
   have hfin:toL (4294967296*(X*wB (bs.drop (m+1)))+X*y)=toL (X*wB (bs.drop m)):=by rw[wY bs m,hy,mA,fW,←mC,mH 4294967296 X,mC]
   have hadd:∀(W3 W4:World)(r3 r4:Value),wG W3.heap.size W4.heap.size W4 r3 (toL (4294967296*(X*wB (bs.drop (m+1)))))→∀W5 W6:World,Below W4.heap.size W4 W5→wG W5.heap.size W6.heap.size W6 r4 (toL (X*y))→Below W5.heap.size W5 W6→
     Calls Tryz.prog 102 #[r3,r4] W6 fun e w'=>∃r,e=.returned r∧wG W6.heap.size w'.heap.size w' r (toL (X*wB (bs.drop m)))∧Below W6.heap.size W6 w':=by
    intro W3 W4 r3 r4 g1 W5 W6 g2 g3 g4;have:=wQE _ _ _ _ _ _ _ _ W6 ((g1.below g2 (pC _)).below g4 g2.size) g3 (pD g2.size g4.size) (pC _) hl1 hl2;rw[wI,wI,hfin]at this;exact this
   have HSH:=hid hsh;have HSM:=hid hsm;have HADD:=hid hadd;have HO:=hid hO;clear hcb hy e1 hsh hsm hl1 hl2 hfin hadd hO
   go_wp2
   go_region_with (first
    |(go_at_call 136;refine(HSH.out _ (Below.refl _ _).drew).mono ?_;rintro e w3 ⟨r3,rfl,hr3,hb3⟩;have hcr3:=wH0 hb3 hcr (pC _))
    |(go_at_call 137;refine(HSM.out _ ((Below.refl _ _).drew.trans hb3)).mono ?_;rintro e w4 ⟨r4,rfl,hr4,hb4⟩)
    |(go_at_call 102;refine(HADD.out _ _ _ _ hr3 _ _ (Below.refl _ _) hr4 hb4).mono ?_;rintro e w5 ⟨r5,rfl,hr5,hb5⟩))
   all_goals
    go_wp2
    have hA:=(((Below.refl wr.heap.size wr).drew.trans hb3).trans (hb4.mono hb3.size)).trans (hb5.mono (pD hb3.size hb4.size));exact⟨⟨m,by go_num,by omega,hbr.trans (hA.mono hbr.size),hb2r.trans (hA.mono hb2r.size),hr5.wide (pD hbr.size (pD hb3.size hb4.size)) (pC _)⟩,by simp[intOf]⟩
theorem wBB{w w':World}{B:Nat}{e:TypeId}{size:Nat}{v:Value}{n:Nat}{xs:List Value}(h:w.ownsRow B e size v n xs)(hb:Below w.heap.size w w'):w'.ownsRow B e size v n xs:=by
 refine⟨h.1,?_⟩;rcases h.2 with hn|⟨g,cap,cur,rfl,hbg,hgg,rest⟩
 ·exact .inl hn
 ·exact .inr ⟨g,cap,cur,rfl,hbg,(hb.block g (pU.1 hgg).1).trans hgg,rest⟩
theorem wG.set{lo hi:Nat}{w:World}{v:Value}{xs:List Nat}(h:wG lo hi w v xs)(p:Addr)(u:Value)(hp:p.block<lo∨hi≤p.block):wG lo hi (w.setCell p u) v xs:=
 h.keep fun b h1 h2=>Below.heap_setCell _ _ _ _ (by omega)
theorem or_pow(d k:Nat)(h:d%2^(k+1)=0):d ||| 2^k=d+2^k:=by obtain⟨a,ha⟩:=bC h;rw[ha,←gL (Nat.pow_lt_pow_right (by decide) (pE2 k))]
theorem div_of(Y R d:Nat)(h1:d*Y≤R)(h2:R<(d+1)*Y):R/Y=d:=by
 have hY:0<Y:=by
  rcases mI Y with h|h
  ·subst h;simp at h2
  ·exact h
 exact Nat.div_eq_of_lt_le h1 h2
theorem bit_step(d j:Nat)(hj:j<32)(hd:d<4294967296)(hm:d%2^(j+1)=0) :
  d+2^j<4294967296∧bits .or .u32 (d:Nat) ((2:Int)^j%4294967296)=((d+2^j:Nat):Int)∧d%2^j=0∧(d+2^j)%2^j=0∧d+2^(j+1)=d+2^j+2^j:=by
 have hp:2^j<4294967296:=pT (Nat.pow_lt_pow_right (by decide) hj) (by decide);obtain⟨a,ha⟩:=bC hm;have h0:d%2^j=0:=by rw[ha,mS,mC];exact Nat.mul_mod_right _ _
 have hlt:d+2^j<4294967296:=by
  obtain⟨c,hc⟩:∃c,4294967296=2^(j+1)*c:=⟨2^(31-j),by rw[←fC,show j+1+(31-j)=32 from by omega]⟩
  have h1:a<c:=by rw[ha,hc]at hd;exact Nat.lt_of_mul_lt_mul_left hd
  have h2:2^(j+1)*(a+1)≤2^(j+1)*c:=mO _ h1;have h3:0<2^j:=dU (by decide);rw[←hc,mA,←ha,mS]at h2;omega
 refine⟨hlt,?_,h0,by rw[Nat.add_mod_right];exact h0,by rw[mS];omega⟩;have e:((2:Int)^j%4294967296)=((2^j:Nat):Int):=by
  have:((2^j:Nat):Int)=(2:Int)^j:=by simp
  rw[←this];omega
 rw[e,u32_or_nat d _ hd hp,or_pow d j hm]
theorem div01_any(lo h1 lo2 h12:Nat)(v v2:Value)(xs ys:List Nat)(w:World)(h:wG lo h1 w v xs)(h2:wG lo2 h12 w v2 ys)(hhi2:h12≤w.heap.size)(hl:xs.length≤4398046511104)(hl2:ys.length≤4398046511104)(hpos:0<wB ys) :
  Calls Tryz.prog 176 #[v,v2] w fun e w'=>∃r1 r2,e=.returned (.tuple #[r1,r2])∧wG w.heap.size w'.heap.size w' r1 (toL (wB xs/wB ys)) ∧
   wG w.heap.size w'.heap.size w' r2 (toL (wB xs%wB ys))∧Below w.heap.size w w':=by
 have q1:=zE _ _ _ _ _ h (by omega);have Q1:=hid q1;clear q1
 go_enter Tryz.func176,Tryz.ntmps176
 go_wp2_with fail
 refine Q1.out.mono ?_;rintro e w1 ⟨r1,rfl,hr1,hb1⟩;have q2:=zE _ _ _ _ _ (h2.below hb1 hhi2) (by omega);have Q2:=hid q2;clear q2
 go_wp2_with fail
 refine Q2.out.mono ?_;rintro e w2 ⟨r2,rfl,hr2,hb2⟩;have hr1':=hr1.below hb2 (pC _);have hbel:=hb1.trans (hb2.mono hb1.size);have hs:=hb2.size;have hs1:=hb1.size;clear hb2 hb1 hr1 Q1 Q2;have hlb:=vO ys (by obtain⟨_,_,_,_,_,hlt,_⟩:=h2.open;exact hlt);have hla:=vO xs (by obtain⟨_,_,_,_,_,hlt,_⟩:=h.open;exact hlt);have hnb:=wI (wB ys);have hna:=wI (wB xs);revert hlb hla hnb hna hr1' hr2 hpos;generalize toL (wB ys)=bs;generalize toL (wB xs)=us;generalize hY:wB ys=Y;generalize hX:wB xs=X;have HXX:=hid hX;have HYY:=hid hY;clear hX hY;intro hpos hr2 hr1 hlb hla hnb hna;obtain⟨ad,cap,rfl,hc,_,hlt,hcell⟩:=hr1.open;have HC:=hid hcell;have HLT:=hid hlt;have HNA:=hid hna;have HNB:=hid hnb;clear hcell hlt hna hnb h h2;have hBlt:∀x,x∈bs→x<4294967296:=by obtain⟨_,_,_,_,_,hlt,_⟩:=hr2.open;exact hlt
 have hYlt:Y<4294967296^bs.length:=by rw[←HNB.out];exact qP bs hBlt
 have HYL:=hid hYlt;clear hBlt hYlt
 go_wp2_with (at_make;refine kX vY rfl _ _ rfl w.heap.size _ _ _ _ us.length us.length rfl rfl rfl rfl (pC _) (by omega) hbel hbel.size ?_)
 intro w3 ho3 hb3 hg3;have hb23:Below w2.heap.size w2 w3:=(Below.refl _ _).grown hg3 (pC _) (by simp);have hs3:w2.heap.size<w3.heap.size:=(ho3.lt _ rfl).2;have hr13:=hr1.below hb23 hs;have hr23:=hr2.below hb23 (pC _);clear hg3
 go_wp2
 go_loopw [7,8] (fun rv t wr=>∃(k R:Nat)(qs:List Nat),t=.int .i64 ((k:Int)-1)∧k≤us.length∧Below w.heap.size w wr∧Below w2.heap.size w2 wr∧w2.heap.size<wr.heap.size ∧
   wr.ownsRow w.heap.size 66 1 (.slice (some ⟨w2.heap.size,0,none⟩) us.length us.length) us.length (zQ qs)∧(∀x,x∈qs→x<4294967296)∧(∀j,j<k→qs.getD j 0=0) ∧
   wG (w2.heap.size+1) wr.heap.size wr rv (toL R)∧R<Y∧wB (qs.drop k)*Y+R=wB (us.drop k)) (fun _ t _=>(intOf t+1).toNat)
 case atStart=>exact⟨us.length,0,_,rfl,pC _,hb3,hb23,hs3,ho3,wD9 _,fun j _=>wTA _ _,by rw[wT];exact wG.nil,hpos,by simp[wQG,wB]⟩
 case round=>
  obtain⟨k,R,qs,rfl,hk,hbr,hb2r,hsr,hown,hqlt,hq0,hR,hRY,hval⟩:=hrel;have HQL:=hid hqlt;have HQ0:=hid hq0;have HV:=hid hval;clear hqlt hq0 hval ho3 hb3 hb23 hs3 hr13 hr23;cases k with
  | zero=>
   have hln:=jN hown;have hv:wB qs=X/Y∧R=X%Y:=by have:=HV.out;rw[dR,dR,HNA.out]at this;refine⟨(div_of Y X _ (by omega) (by rw[mY];omega)).symm,?_⟩;rw[←this,fW,Nat.add_mul_mod_self_right,mX hRY]
   have hN:=zE _ _ _ _ wr (wG.ofOwn hown HQL.out) (by omega);rw[hv.1]at hN;have HV2:=hid hv.2;clear hv hln
   go_wp2_with (go_at_call 33;refine hN.mono ?_;rintro e w' ⟨r,rfl,hr,hb⟩)
   go_ret2
   rw[HXX.out,HYY.out,←HV2.out];exact⟨_,_,rfl,hr.wide hbr.size (pC _),(hR.below hb (pC _)).wide (pD hbel.size (Nat.le_succ _)) hb.size,hbr.trans (hb.mono hbr.size)⟩
  | succ m=>
   obtain⟨b,off,rfl,hlo,hhi,hcb⟩:=HC.out m (by omega);obtain⟨y,hy⟩:∃y,us.getD m 0=y:=⟨_,rfl⟩
   have hy32:y<4294967296:=by rw[←hy];exact getD_lt us HLT.out m
   rw[hy]at hcb;have hcr:=wH0 hb2r hcb (pC _);have f1:(m:Int)<(us.length:Int):=by omega
   obtain⟨R',hR'⟩:∃R',R'=y+4294967296*R:=⟨_,rfl⟩
   have hRl:(toL R).length≤bs.length:=zC _ _ (Nat.lt_trans hRY HYL.out);have hR'B:R'<4294967296*Y:=by
    have:4294967296*(R+1)≤4294967296*Y:=mO _ hRY
    omega
   have hR'l:(toL R').length≤bs.length+1:=by refine zC _ _ (Nat.lt_trans hR'B ?_);rw[mS,mH];exact pD0 HYL.out (by decide)
   have hsh:=wR2 _ _ _ _ y wr hR (pC _) (by omega) hy32;rw[wI,←hR']at hsh;have hdrop:wB (us.drop m)=wB (qs.drop (m+1))*Y*4294967296+R':=by rw[wY us m,hy,←HV.out,hR',mA];generalize wB (qs.drop (m+1))*Y=t;omega
   have HSH:=hid hsh;have HD:=hid hdrop;have HR:=hid hR';have HRB:=hid hR'B;clear hcb hy hsh hdrop hR' hR hR'B
   go_wp2_with fail
   refine HSH.out.mono ?_;rintro e w4 ⟨r4,rfl,hr4,hb4⟩;have hown4:=wBB hown hb4;have hbr4:=hbr.trans (hb4.mono hbr.size);have hb2r4:=hb2r.trans (hb4.mono hb2r.size);have hs4:w2.heap.size<w4.heap.size:=pT hsr hb4.size;have hr4':=hr4.wide (Nat.succ_le_of_lt hsr) (pC _);have hr24:=hr2.below hb2r4 (pC _);have hcmp:=wQB _ _ _ _ _ _ _ _ w4 hr4' hr24 (by omega) (by omega);rw[wI,HNB.out]at hcmp;clear hcr hown hbr hb2r hsr hr4 hb4;by_cases hlt:R'<Y
   ·have hc1:jD R' Y = -1:=by simp[jD,hlt]
    rw[hc1]at hcmp;have HCMP:=hid hcmp;have HCL:=hid hlt;clear hcmp hc1 hlt
    go_wp2_with fail
    refine HCMP.out.mono ?_;rintro e w' ⟨rfl,rfl⟩
    go_wp2
    refine⟨⟨m,R',qs,by go_num,by omega,hbr4,hb2r4,hs4,hown4,HQL.out,fun j hj=>HQ0.out j (by omega),hr4',HCL.out,?_⟩,by simp[intOf]⟩;rw[wY qs m,HQ0.out m (by omega),HD.out,cL,mC,mH 4294967296]
   ·have hc1:jD R' Y=0∨jD R' Y=1:=by
     unfold jD;rw[if_neg hlt];split<;>simp
    obtain⟨cz,hcz⟩:∃cz,jD R' Y=cz:=⟨_,rfl⟩
    rw[hcz]at hcmp;have hcz0:0≤cz:=by rcases hc1 with h|h<;>omega
    have HCMP:=hid hcmp;clear hcmp hc1 hcz hlt
    go_wp2_with fail
    refine HCMP.out.mono ?_;rintro e w' ⟨rfl,rfl⟩
    go_wp2
    obtain⟨wo,hwo⟩:∃wo:World,wo=w4:=⟨_,rfl⟩
    subst hwo
    go_loopw [9,10] (fun dv t wr=>∃(j d:Nat),t=.int .i64 ((j:Int)-1)∧j≤32∧dv=.int .u32 (d:Nat)∧d<4294967296∧d%2^j=0∧d*Y≤R'∧R'<(d+2^j)*Y∧Below wo.heap.size wo wr) (fun _ t _=>(intOf t+1).toNat)
    case atStart=>exact⟨32,0,rfl,by omega,rfl,by omega,by simp,by omega,by simpa using HRB.out,Below.refl _ _⟩
    case round=>
     obtain⟨j,d,rfl,hj,rfl,hd,hmod,hd1,hd2,hbo⟩:=hrel;have HM:=hid hmod;have HD1:=hid hd1;have HD2:=hid hd2;clear hmod hd1 hd2;have hwr:=hr4'.below hbo (pC _);have hwb:=hr24.below hbo (dK hs4);cases j with
     | zero=>
      have hdv:R'/Y=d∧R' - Y*d=R'%Y:=by have h1:=div_of Y R' d HD1.out (by simpa using HD2.out);refine⟨h1,?_⟩;have:=cQ R' Y;rw[h1]at this;omega
      have hownr:=wBB hown4 hbo;obtain⟨c1,c2⟩:=wAC hownr m (by omega);have hst:=wCB hownr m d;have hlq:=jN hown4;have hbs:Below w2.heap.size wr (wr.setCell ⟨w2.heap.size,m,none⟩ (.int .u32 (d:Nat))):=(Below.refl _ _).setCell (by exact pC _) _;have hsz:wr.heap.size≤(wr.setCell ⟨w2.heap.size,m,none⟩ (.int .u32 (d:Nat))).heap.size:=hbs.size;have hsz2:=pD hbo.size hsz;have hsm:=wC8 _ _ _ _ d (wr.setCell ⟨w2.heap.size,m,none⟩ (.int .u32 (d:Nat))) (hwb.set _ _ (.inr (pC _))) (pD (dK hs4) hsz2) (by omega) hd;rw[HNB.out]at hsm;have hwrs:=hwr.set ⟨w2.heap.size,m,none⟩ (.int .u32 (d:Nat)) (.inl (pE2 _));have hvq:wB ((qs.set m d).drop m)*Y+R'%Y=wB (us.drop m):=by
       rw[wY (qs.set m d) m,HD.out];have e1:(qs.set m d).getD m 0=d:=by rw[pJ,bT (by omega)];rfl
       have e2:(qs.set m d).drop (m+1)=qs.drop (m+1):=by rw[pC4 (pE2 m)]
       have e3:=cQ R' Y;rw[hdv.1]at e3;rw[e1,e2,mY,mC,mH 4294967296,mH d Y];generalize wB (qs.drop (m+1))*Y*4294967296=t at *
       omega
      have hYd:Y*d≤R':=by rw[mH];exact HD1.out
      have hrm:R'%Y<Y:=dP _ hpos;have hlq2:∀j,j<m→(qs.set m d).getD j 0=0:=by intro j hj;rw[pJ,fD (by omega),←pJ];exact HQ0.out j (by omega)
      have HQL2:=hid (vB qs m d HQL.out hd);have HLQ2:=hid hlq2;have HVQ:=hid hvq;have HRM:=hid hrm;have HST:=hid hst.1;have HSM:=hid hsm;clear hsm hst hlq hvq hrm hlq2
      go_wp2_with fail
      refine HSM.out.mono ?_;rintro e w6 ⟨r6,rfl,hr6,hb6⟩;have hsub:=wZD _ _ _ _ _ _ _ _ w6 (hwrs.below hb6 hsz2) hr6 (pD hsz2 hb6.size) (pC _) (by omega) (by rw[wI,wI];exact hYd);rw[wI,wI,hdv.2]at hsub;have hown6:=wBB HST.out hb6;have hA:Below w2.heap.size wo w6:=((hbo.mono (dK hs4)).trans hbs).trans (hb6.mono (pD (dK hs4) hsz2));have HSUB:=hid hsub;have HDV:=hid hdv;clear hsub hdv hYd hr6 hb6 c1 c2
      go_wp2_with fail
      refine HSUB.out.mono ?_;rintro e w7 ⟨r7,rfl,hr7,hb7⟩;have hA7:Below w2.heap.size wo w7:=hA.trans (hb7.mono (pD (dK hs4) hA.size));have hown7:=wBB hown6 hb7
      go_wp2
      refine⟨⟨m,R'%Y,qs.set m d,by go_num,by omega,hbr4.trans (hA7.mono hbel.size),hb2r4.trans hA7,pT hs4 hA7.size,hown7,HQL2.out,HLQ2.out,
       hr7.wide (pD hs4 hA.size) (pC _),HRM.out,HVQ.out⟩,by simp[intOf]⟩
     | succ j=>
      obtain⟨hlt,hbit,hm1,hm2,hpp⟩:=bit_step d j (by omega) hd HM.out;obtain⟨p,hp⟩:∃p,2^j=p:=⟨_,rfl⟩
      rw[hp]at hlt hbit hm1 hm2 hpp;have hsm:=wC8 _ _ _ _ (d+p) wr hwb (pD (dK hs4) hbo.size) (by omega) hlt;rw[HNB.out]at hsm;have hYd:(toL (Y*(d+p))).length≤bs.length+1:=by refine zC _ _ ?_;rw[mS];exact bY HYL.out hlt
      have HSM:=hid hsm;have HB:=hid hbit;have HM1:=hid hm1;have HM2:=hid hm2;have HPP:=hid hpp;have HP:=hid hp;clear hsm hbit hm1 hm2 hpp hp
      go_wp2_with fail
      rw[HB.out];refine HSM.out.mono ?_;rintro e w5 ⟨r5,rfl,hr5,hb5⟩;have hcmp:=wQB _ _ _ _ _ _ _ _ w5 hr5 (hwr.below hb5 hbo.size) (by omega) (by omega);rw[wI,wI]at hcmp;have hbo5:=hbo.trans (hb5.mono hbo.size);by_cases hle:Y*(d+p)≤R'
      ·have hc1:jD (Y*(d+p)) R'≤0:=by unfold jD;split<;>(try split)<;>omega
       obtain⟨cz,hcz⟩:∃cz,jD (Y*(d+p)) R'=cz:=⟨_,rfl⟩
       rw[hcz]at hcmp hc1;have HCMP:=hid hcmp;have HLE:=hid hle;clear hcmp hcz hle hYd hr5 hb5
       go_wp2_with fail
       refine HCMP.out.mono ?_;rintro e w' ⟨rfl,rfl⟩
       go_wp2
       refine⟨⟨j,d+p,by go_num,by omega,by go_num,hlt,by rw[HP.out];exact HM2.out,by rw[mH];exact HLE.out,by rw[HP.out,←HPP.out];exact HD2.out,hbo5⟩,by simp[intOf]⟩
      ·have hc1:1≤jD (Y*(d+p)) R':=by unfold jD;rw[if_neg (by omega),if_pos (by omega)];omega
       obtain⟨cz,hcz⟩:∃cz,jD (Y*(d+p)) R'=cz:=⟨_,rfl⟩
       rw[hcz]at hcmp hc1;have HCMP:=hid hcmp;have HLE:=hid hle;clear hcmp hcz hle hYd hr5 hb5
       go_wp2_with fail
       refine HCMP.out.mono ?_;rintro e w' ⟨rfl,rfl⟩
       go_wp2
       refine⟨⟨j,d,by go_num,by omega,rfl,hd,by rw[HP.out];exact HM1.out,HD1.out,?_,hbo5⟩,by simp[intOf]⟩;have:=HLE.out;rw[mH]at this;rw[HP.out];omega
theorem qHI(x y o c:Nat)(hx:x<4294967296)(hy:y<4294967296)(ho:o<4294967296)(hc:c<4294967296) :
  x*y≤18446744065119617025∧x*y+o+c<18446744073709551616∧(x*y+o+c)/4294967296<4294967296:=by
 have h1:x*y≤4294967295*4294967295:=bK (by omega) (by omega);generalize x*y=p at *
 refine⟨by omega,by omega,by omega⟩
theorem qIG(l:List Nat)(i j y:Nat)(h:i<l.length):(l.set i y).getD j 0=if j=i then y else l.getD j 0:=by
 rw[pJ,pJ,List.getElem?_set];by_cases hj:j=i
 ·subst hj;simp[h]
 ·rw[if_neg (by omega),if_neg hj]
set_option maxRecDepth 100000 in
theorem mul_any(lo h1 lo2 h12:Nat)(v v2:Value)(xs ys:List Nat)(w:World)(h:wG lo h1 w v xs)(h2:wG lo2 h12 w v2 ys)(hl:xs.length≤8796093022208)(hl2:ys.length≤8796093022208) :
  Calls Tryz.prog 98 #[v,v2] w fun e w'=>∃r,e=.returned r∧wG w.heap.size w'.heap.size w' r (toL (wB xs*wB ys))∧Below w.heap.size w w':=by
 have t1:=zG xs (by obtain⟨_,_,_,_,_,hlt,_⟩:=h.open;exact hlt);have t2:=zG ys (by obtain⟨_,_,_,_,_,hlt,_⟩:=h2.open;exact hlt);have l1:=jH xs;have l2:=jH ys;have q1:=wDB lo h1 v xs w h (by omega);have q2:=wDB lo2 h12 v2 ys w h2 (by omega);rw[t1]at q1 l1;rw[t2]at q2 l2;obtain⟨X,hX⟩:∃X,wB xs=X:=⟨_,rfl⟩
 obtain⟨Y,hY⟩:∃Y,wB ys=Y:=⟨_,rfl⟩
 rw[hX]at q1 l1 ⊢;rw[hY]at q2 l2 ⊢;have HX:=hid (wI X);have HY:=hid (wI Y);clear hX hY h h2 t1 t2;generalize toL X=us at *
 generalize toL Y=vs at *
 have Q1:=hid q1;have Q2:=hid q2;clear q1 q2
 go_enter Tryz.func98,Tryz.ntmps98
 go_wp2_with fail
 refine Q1.out.mono ?_;rintro e w' ⟨r1,rfl,hr1,rfl⟩
 go_wp2_with fail
 refine Q2.out.mono ?_;rintro e w' ⟨r2,rfl,hr2,rfl⟩;obtain⟨ad,cap,rfl,_,_,hlt1,hcell⟩:=hr1.open;obtain⟨ad2,cap2,rfl,_,_,hlt2,hcell2⟩:=hr2.open;have HC:=hid hcell;have HC2:=hid hcell2;have HLT1:=hid hlt1;have HLT2:=hid hlt2;clear Q1 Q2 hr1 hr2 hcell hcell2 hlt1 hlt2;by_cases hz:us.length=0∨vs.length=0
 ·have hp:X*Y=0:=by
   rcases hz with h|h
   ·rw[←HX.out,pN h];simp[wB]
   ·rw[←HY.out,pN h];simp[wB]
  have HP:=hid hp;clear hp;by_cases h0:us.length=0
  ·have e1:((us.length:Int)==0)=true:=by simp[h0]
   clear hz h0
   go_wp2
   go_ret
   rw[HP.out,wT];exact⟨_,rfl,wG.nil,Below.refl _ _⟩
  ·have e1:((us.length:Int)==0)=false:=by rw[beq_eq_false_iff_ne];omega
   have e2:((vs.length:Int)==0)=true:=by rw[beq_iff_eq];omega
   clear hz h0
   go_wp2
   go_ret
   rw[HP.out,wT];exact⟨_,rfl,wG.nil,Below.refl _ _⟩
 ·have e1:((us.length:Int)==0)=false:=by rw[beq_eq_false_iff_ne];omega
  have e2:((vs.length:Int)==0)=false:=by rw[beq_eq_false_iff_ne];omega
  have p1:0<us.length:=by omega
  have p2:0<vs.length:=by omega
  clear hz
  go_wp2_with (at_make;refine kX vY rfl _ _ rfl w.heap.size _ _ _ _ (us.length+vs.length) (us.length+vs.length) rfl rfl (by omega) (by omega) (pC _) (by omega) (Below.refl _ _) (pC _) ?_)
  intro w1 ho1 hb1 _;obtain⟨n,hn⟩:∃n,us.length+vs.length=n:=⟨_,rfl⟩
  rw[hn]at ho1 ⊢;have hn':us.length+vs.length≤n:=by omega
  have hn2:n≤us.length+vs.length:=by omega
  clear hn
  go_wp2
  go_loopw [32] (fun t wr=>∃(i:Nat)(out:List Nat),t=.int .i64 i∧i≤us.length∧wr.ownsRow w.heap.size 66 1 (.slice (some ⟨w.heap.size,0,none⟩) n n) n (zQ out)∧Below w.heap.size w wr ∧
    (∀x,x∈out→x<4294967296)∧wB out=wB (us.take i)*Y∧(∀j,i+vs.length≤j→out.getD j 0=0)) (fun t _=>us.length-(intOf t).toNat)
  case atStart=>exact⟨0,_,rfl,pG _,ho1,hb1,wD9 _,by simp[wB,wQG,wGI],fun j _=>wTA _ _⟩
  case round=>
   obtain⟨i,out,rfl,hi,hown,hbel,hol,hval,hzero⟩:=hrel;have HV:=hid hval;have HOL:=hid hol;have HZ:=hid hzero;clear hval hol hzero ho1 hb1;by_cases hil:i<us.length
   ·obtain⟨b,off,rfl,_,_,hc1⟩:=HC.out i hil;obtain⟨x,hx⟩:∃x,us.getD i 0=x:=⟨_,rfl⟩
    have hx32:x<4294967296:=by rw[←hx];exact getD_lt us HLT1.out i
    rw[hx]at hc1;have d1:=wH0 hbel hc1 (pC _);have f1:(i:Int)<(us.length:Int):=by omega
    have HXX:=hid hx;clear hc1 hx
    go_wp2
    go_loopw [8,39] (fun cv t wr=>∃(k c:Nat)(cur:List Nat),t=.int .i64 k∧cv=.int .u64 c∧k≤vs.length∧c<4294967296 ∧
      wr.ownsRow w.heap.size 66 1 (.slice (some ⟨w.heap.size,0,none⟩) n n) n (zQ cur)∧Below w.heap.size w wr∧(∀x,x∈cur→x<4294967296) ∧
      wB cur+4294967296^(i+k)*c=wB (us.take i)*Y*1+x*(4294967296^i*wB (vs.take k))∧(∀j,i+k≤j→cur.getD j 0=out.getD j 0)) (fun _ t _=>vs.length-(intOf t).toNat)
    case atStart=>exact⟨0,0,out,rfl,rfl,pG _,by decide,hown,hbel,HOL.out,by rw[HV.out];simp[wB],fun j _=>rfl⟩
    case round=>
     obtain⟨k,c,cur,rfl,rfl,hk,hc32,hown2,hbel2,hcl,hval2,hsame⟩:=hrel;have HV2:=hid hval2;have HCL:=hid hcl;have HS:=hid hsame;clear hval2 hcl hsame hown hbel d1;by_cases hkl:k<vs.length
     ·obtain⟨b2,off2,rfl,_,_,hc2⟩:=HC2.out k hkl;obtain⟨y,hy⟩:∃y,vs.getD k 0=y:=⟨_,rfl⟩
      have hy32:y<4294967296:=by rw[←hy];exact getD_lt vs HLT2.out k
      rw[hy]at hc2;have d2:=wH0 hbel2 hc2 (pC _);have f2:(k:Int)<(vs.length:Int):=by omega
      have f3:(i:Int)+k<(n:Int):=by omega
      obtain⟨m,hm⟩:∃m,i+k=m:=⟨_,rfl⟩
      have hmi:(i:Int)+k=(m:Int):=by omega
      have hmn:m<n:=by omega
      obtain⟨o,ho⟩:∃o,cur.getD m 0=o:=⟨_,rfl⟩
      have ho32:o<4294967296:=by rw[←ho];exact getD_lt cur HCL.out m
      obtain⟨g1,g2⟩:=wAC hown2 m hmn;rw[ho]at g1;obtain⟨b1,b2',b3⟩:=qHI x y o c hx32 hy32 ho32 hc32;have HYY:=hid hy;have HO:=hid ho;have HM:=hid hm;clear hc2 hy ho hm;rw[HM.out]at HV2
      go_wp2
      have hs:=wCB hown2 m ((x*y+o+c)%4294967296);have hln:=jN hown2;have ec:(((x*y+o+c)%4294967296:Nat):Int)=((x:Int)*y+o+c)%4294967296:=by simp
      have ed:(((x*y+o+c)/4294967296:Nat):Int)=((x:Int)*y+o+c)/4294967296:=by simp
      rw[ec]at hs;refine⟨⟨k+1,(x*y+o+c)/4294967296,cur.set m ((x*y+o+c)%4294967296),by go_num,by rw[ed],by omega,b3,hs.1,hbel2.setCell (by exact pC _) _,vB _ _ _ HCL.out (dP _ (by decide)),?_,?_⟩,by simp[intOf];omega⟩
      ·have hset:=qA5 cur m ((x*y+o+c)%4294967296) (by omega);rw[HO.out]at hset;have hst:=mul_step (4294967296^m) (wB cur) (wB (cur.set m ((x*y+o+c)%4294967296))) o x y c (wB (us.take i)*Y*1) (4294967296^i*wB (vs.take k)) HV2.out hset;have hm1:=HM.out;rw[qU vs,HYY.out,mA,←mC,←fC,hm1,←cA,hm1,mS];exact hst
      ·intro j hj;rw[qIG _ _ _ _ (by omega),if_neg (by omega)];exact HS.out j (by omega)
     ·obtain rfl:k=vs.length:=by omega
      have f3:(i:Int)+vs.length<(n:Int):=by omega
      obtain⟨m,hm⟩:∃m,i+vs.length=m:=⟨_,rfl⟩
      have hmi:(i:Int)+vs.length=(m:Int):=by omega
      have hmn:m<n:=by omega
      obtain⟨g1,g2⟩:=wAC hown2 m hmn;have HM:=hid hm;clear hm
      go_wp2
      have hs:=wCB hown2 m c;have hln:=jN hown2;refine⟨⟨i+1,cur.set m c,by go_num,by omega,hs.1,hbel2.setCell (by exact pC _) _,vB _ _ _ HCL.out hc32,?_,?_⟩,by simp[intOf];omega⟩
      ·have h0:cur.getD m 0=0:=by
        rw[HS.out m (by have:=HM.out;omega)];exact HZ.out m (by have:=HM.out;omega)
       have hset:=qA5 cur m c (by omega);rw[h0,dN,mJ]at hset;have hv:=HV2.out;rw[HM.out,zB vs _ (pC _),HY.out]at hv;rw[hset,hv,qU,HXX.out,fV,mY,fU,mC]
      ·intro j hj;have:=HM.out;rw[qIG _ _ _ _ (by omega),if_neg (by omega),HS.out j (by omega)];exact HZ.out j (by omega)
   ·obtain rfl:i=us.length:=by omega
    have hv:=HV.out;rw[zB us _ (pC _),HX.out]at hv;have hN:=qDD _ _ _ _ wr (wG.ofOwn hown HOL.out) (by have:=jN hown;omega);rw[zG out HOL.out,hv]at hN;have HN:=hid hN;clear hN hv
    go_wp2_with fail
    refine HN.out.mono ?_;rintro e w' ⟨r,rfl,hr,hb⟩
    go_wp2
    go_ret
    exact⟨_,rfl,hr.wide hbel.size (pC _),hbel.trans (hb.mono hbel.size)⟩
def lent(x y b:Nat):Nat:=if x<y+b then 1 else 0
end Go.Proofs.YtmkgenngokjbiaaGreatDoor
