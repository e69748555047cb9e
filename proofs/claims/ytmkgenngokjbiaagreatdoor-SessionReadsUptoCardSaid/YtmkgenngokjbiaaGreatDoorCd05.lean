/- Making: rows of one's own, structs, closures; appends; calls. -/
import Derived.Test.YtmkgenngokjbiaaGreatDoorCd04
import Derived.Laws.OwnMore
import Derived.Orders
import Derived.Scope
import Derived.OrdersIn
import Derived.RangeFuncLeaves
set_option linter.all false
set_option maxRecDepth 20000
set_option maxHeartbeats 6400000
set_option linter.all false
namespace Go.Vl
open Go.RowKit Go.Ev
section
variable{P:Program}{C:Cx}{w0:Base}{w w':World}{n:Nat}{β:Bl}{f st:Fm}{a:Act}{o:Oper}
theorem yS{T:TypeId}{k m B0:Nat}{u:Value}{us:List Value}(h:w.ownsRow B0 T k u m us){B:Nat}(hB:u.ownBlock=some B):B0≤B∧B<w.heap.size:=h.lt B hB
theorem HB.newOwn(h:HB w0 n β f a w){r:Nat}(hd:r<n){id:Nat}(hn0:wC6 f (2*r) 0)(hn:wC6 f (2*r) id)(hw:Below w.heap.size w w'){T:TypeId}{k:Nat}{es:List (List V)}{u:Value}{us:List Value}(ho:w'.ownsRow w0.lo T k u es.length us)(hes:∀e∈es,e.length=k∧wX e=true)(hr:RepL (fun b=>qM β b∧b<w.heap.size) w' es.flatten us)(hb:∀B,u.ownBlock=some B→w.heap.size≤B):Hs w0 n (app [(2*r,some (.sv (.own id T k es)))] f) (a.put (some r) u) w':=by
 have h1:=(h.drop (2*r)).bind (K:=2*r) (o:=u.ownBlock) hw (fun B hB=>⟨hb B hB,(yS ho hB).2⟩) (upd_same _ _ _) (hn0.drop _);have h2:=h1.putO (d:=r) hd (id:=id) (T:=T) (k:=k) (es:=es) (u:=u) (hn.drop _) ⟨hes,(j9 _ _ _ _).symm,us,ho,hr.mono fun b hb' _ k' j' e=>by
  unfold upB at e;split at e
  ·grind
  ·exact hb'.1 _ _ e⟩
 rw[wMD]at h2;rw[app1];exact⟨_,h2⟩
theorem RepL.flatRep{S:Nat→Prop}{x:List V}{v:List Value}(h:RepL S w x v):∀l,RepL S w (List.replicate l x).flatten (List.replicate l v).flatten
 |0=>.nil
 |l+1=>by simp only[List.replicate_succ,List.flatten_cons];exact h.append (RepL.flatRep h l)
theorem sem_make(hC:CxOk P C){t elem:TypeId}{x y:Operand}{kl kc:IntKind}{l c r id:Nat}{i:TypeInfo}{z:Value}{zc:List V}(hop:o.op=.makeSlice t x y)(hx:opv st x=some (.v (.int kl (l:Nat))))(hy:opv st y=some (.v (.int kc (c:Nat))))(ht:C.und t=some (.slice elem))(hi:C.tys.get elem=some i)(hz:i.zero=some z)(hsz:Nat.beq z.cells.size i.size=true)(hzc:toVs z.cells.toList=some zc)(hlc:l≤c)(hb:i.bytes*c≤281474976710656)(h63:c≤maxLen)(hdst:o.dst=some r)(hd:Nat.blt r n=true) :
  wQ P w0 n o (rdO x++rdO y) [(2*r,some (.sv (.own id elem i.size (List.replicate l zc))))] [(2*r,id),(2*r,0)] st:=by
 intro f hf hn a w ⟨β,hh⟩ K Q hK;obtain⟨h1,h2⟩:=qZ hf;have e1:=hh.val (x:=x) (y:=.int kl (l:Nat)) (by simp_all [wN]);have e2:=hh.val (x:=y) (y:=.int kc (c:Nat)) (by simp_all [wN]);generalize hu:a.eval x=u at e1;generalize hv:a.eval y=v at e2;cases e1;cases e2;have hsz':=pV hsz;have hrun:=run_make (P:=P) w t elem i z (hC.und ht) (hC.tys _ _ hi) hz kl kc (l:Nat) (c:Nat) (by omega) (by omega) (by omega) (by grind [maxLen])
 simp only[Int.toNat_natCast]at hrun;unfold Oper.wp;have hrun':(execOp a.eval o).run P w=.ok (.value (.slice (some ⟨w.heap.size,0,none⟩) l c)) (w.alloc (.cells (madeCells z.cells (c*i.size)) elem)):=by simp_all [execOp,Sem.run_bind]
 rw[hrun',Oper.upon_value,hdst];refine hK _ _ ?_;have hal:Below w.heap.size w (w.alloc (.cells (madeCells z.cells (c*i.size)) elem)):=(Below.refl _ _).alloc (pC _) _;obtain⟨g1,g2⟩:=wB5 (S:=fun b=>qM β b∧b<w.heap.size) (w:=w) hzc;have hzl:=g1.length;have hmc:(madeCells z.cells (c*i.size)).toList=(List.replicate c z.cells.toList).flatten:=by grind [madeCells,wEE]
 have hcs:(madeCells z.cells (c*i.size)).size=c*i.size:=size_madeCells _ _;have hlen:(List.replicate l zc).length=l:=by simp
 refine hh.newOwn (by simp_all) (hn (2*r,0) (by simp)) (hn (2*r,id) (by simp)) hal (us:=(List.replicate l z.cells.toList).flatten) ?_ ?_ ((g1.flatRep l).later hal) ?_
 ·rw[hlen];refine⟨by simp[hsz'],.inr ⟨w.heap.size,c,_,rfl,pD w0.lole hh.base,heap_alloc_new w _,hlc,h63,hcs,?_⟩⟩;rw[hmc,←wJB (k:=i.size) (fun e he=>by rw[(fL.1 he).2];simp[hsz'])]
  simp_all
 ·simp_all
 ·intro B hB;cases hB
  simp_all
def wA1(f:Fm):List (Nat×Operand)→Option (List (Nat×V))
 |[]=>some []
 | (i,x)::l=>match opV f x with
  |some y=>match wA1 f l with
   |some r=>some ((i,y)::r)
   |none=>none
  |none=>none
def rdP:List (Nat×Operand)→List Nat
 |[]=>[]
 |(_,x)::l=>rdO x++rdP l
theorem xW{f g:Fm}:∀{l:List (Nat×Operand)},(∀k∈rdP l,f k=g k)→wA1 f l=wA1 g l
 |[],_=>rfl
 |(i,x)::l,h=>by obtain⟨h1,h2⟩:=qZ (x:=x) (l:=rdP l) h;simp only[wA1];rw[yN h1,xW h2]
inductive PRep(S:Nat→Prop)(w:World):List (Nat×V)→List (Nat×Value)→Prop
 |nil:PRep S w [] []
 |cons {i:Nat} {x:V} {v:Value} {xs:List (Nat×V)} {vs:List (Nat×Value)} (h:Rep S w x v) (t:PRep S w xs vs):PRep S w ((i,x)::xs) ((i,v)::vs)
theorem HB.pairs(hh:HB w0 n β f a w):∀{l:List (Nat×Operand)}{r:List (Nat×V)},wA1 f l=some r→PRep (qM β) w r (l.map fun(i,x)=>(i,a.eval x))
 |[],r,e=>by cases e;exact .nil
 | (i,x)::l,r,e=>by
  simp only[wA1]at e;split at e
  ·rename_i y hy;split at e
   ·rename_i q hq;cases e;exact .cons (hh.valV hy) (hh.pairs hq)
   ·cases e
  grind
def wE0:V→Bool
 |.tup _=>false
 |_=>true
theorem wNI{x:V}(h:wE0 x=true):∀cs,x≠.tup cs:=by rintro cs rfl;cases h
def wGB(place:Nat→Option (Nat×Nat)):List V→List (Nat×V)→Option (List V)
 |cs,[]=>some cs
 |cs,(i,v)::rest=>match place i with
  |none=>none
  |some (off,size)=>bif Nat.beq v.cells.length size&&wE0 v&&Nat.ble (off+size) cs.length then wGB place (over cs off v.cells) rest else none
theorem RepL.over{S:Nat→Prop}{cs vs:List V}{us ws:List Value}(h:RepL S w cs us)(k:RepL S w vs ws)(off:Nat):RepL S w (over cs off vs) (over us off ws):=by unfold Vl.over;rw[k.length];exact((h.take off).append k).append (h.drop _)
theorem wS7{cs vs:List V}(h:wX cs=true)(k:wX vs=true)(off:Nat):wX (over cs off vs)=true:=by
 have h1:=wS6 h off;have h2:=wIH h (off+vs.length)
 simp_all [over,wX,List.all_append,Bool.and_eq_true]
theorem wMC{S:Nat→Prop}{place:Nat→Option (Nat×Nat)}:∀{ps:List (Nat×V)}{qs:List (Nat×Value)}{cs r:List V}{ccs:Array Value},PRep S w ps qs→RepL S w cs ccs.toList→wX cs=true→wGB place cs ps=some r→
  ∃rs:Array Value,Instr.fill place ccs qs=some rs∧RepL S w r rs.toList∧wX r=true:=by
 intro ps
 induction ps with
 |nil=>intro qs cs r ccs hp hc ho e;cases hp;cases e;exact⟨ccs,rfl,hc,ho⟩
 | cons p ps ih=>
  intro qs cs r ccs hp hc ho e;cases hp with
  | cons hv ht=>
   rename_i i x v vs;simp only[wGB]at e;simp only[Instr.fill];cases hpl:place i with
   |none=>simp_all
   | some os=>
    obtain⟨off,size⟩:=os;rw[hpl]at e;dsimp only at e ⊢;cases hb:(Nat.beq x.cells.length size&&wE0 x&&Nat.ble (off+size) cs.length)with
    |false=>simp_all
    | true=>
     rw[hb]at e;simp only[cond_true]at e;simp only[Bool.and_eq_true]at hb;have hsz:x.cells.length=size:=pV hb.1.1;have hfit:=pI hb.2;obtain⟨c1,c2⟩:=hv.cells (wNI hb.1.2);have hl:=c1.length;have hcl:=hc.length;simp only[Array.length_toList]at hl hcl;have hcond:(decide (v.cells.size≠size)||decide (off+v.cells.size>ccs.size))=false:=by grind
     rw[hcond];simp only[Bool.false_eq_true,if_false];have hfold:=wQ4 off v.cells.toList 0 ccs (by grind);simp only[Nat.add_zero]at hfold;refine ih ht ?_ (wS7 ho c2 off) e;have h':(v.cells.zipIdx.foldl (fun cs (x:Value×Nat)=>match x with|(c,j)=>cs.setIfInBounds (off+j) c) ccs).toList=ccs.toList.take off++v.cells.toList++ccs.toList.drop (off+v.cells.toList.length):=by grind [Array.toList_zipIdx]
     rw[h'];exact hc.over c1 off
def qBH(C:Cx)(fields:List Field):Option (List (Nat×Nat)):=xA (fun(f:Field)=>match C.size f.type with|some m=>some (f.offset,m)|none=>none) fields
theorem sem_build(hC:CxOk P C){t:TypeId}{ps:Array (Nat×Operand)}{fs:Array Field}{i:TypeInfo}{z:Value}{zc r:List V}{pl:List (Nat×Nat)}{xs:List (Nat×V)}(hop:o.op=.build t ps)(ht:C.und t=some (.struct fs))(hi:C.tys.get t=some i)(hz:i.zero=some z)(hzc:toVs z.cells.toList=some zc)(hpl:qBH C fs.toList=some pl)(hx:wA1 st ps.toList=some xs)(hr:wGB (fun i=>pl[i]?) zc xs=some r)(hd:dLt n o.dst=true):wQ P w0 n o (rdP ps.toList) (dput o.dst (some (.sv (.v (.agg r))))) [] st:=
 qI hd fun f hf β a w hh=>by
  have hp:=hh.pairs (l:=ps.toList) (r:=xs) (by rw[xW hf];exact hx);obtain⟨g1,g2⟩:=wB5 (S:=qM β) (w:=w) hzc;obtain⟨rs,h1,h2,h3⟩:=wMC hp g1 g2 hr;refine⟨.agg rs,?_,by have:=Rep.agg h3 h2;simpa using this⟩;have hm:=wI3 (w:=w) hC _ _ hpl;have hpl':(fs.mapM fun f=>do pure (f.offset,←sizeOf f.type):Sem (Array (Nat×Nat))).run P w=.ok pl.toArray w:=by rw[←dY (xs:=fs),fR];simp only[Sem.run_map,hm,Result.andThen_ok]
  have hzr:(zeroValue t).run P w=.ok z w:=by simp[zeroValue,typeInfo,hC.tys _ _ hi,hz]
  have hfl:Instr.fill (pl.toArray[·]?) z.cells (ps.map fun(i,x)=>(i,a.eval x)).toList=some rs:=by
   rw[←h1];congr 1
   ·funext i;simp
   ·simp
  have hb:(Instr.build t (ps.map fun(i,x)=>(i,a.eval x))).run P w=.ok (.agg rs) w:=by simp only[Instr.build,Sem.run_bind,hzr,Result.andThen_ok,wP hC ht,hpl'];rw[hfl];rfl
  simp_all [execOp,Sem.run_bind]
theorem qCE(hC:CxOk P C){t elem:TypeId}{ps:Array (Nat×Operand)}{len m:Nat}{i:TypeInfo}{z:Value}{zc r:List V}{xs:List (Nat×V)}(hop:o.op=.build t ps)(ht:C.und t=some (.array len elem))(hi:C.tys.get t=some i)(hz:i.zero=some z)(hzc:toVs z.cells.toList=some zc)(hs:C.size elem=some m)(hx:wA1 st ps.toList=some xs)(hr:wGB (fun i=>some (i*m,m)) zc xs=some r)(hd:dLt n o.dst=true):wQ P w0 n o (rdP ps.toList) (dput o.dst (some (.sv (.v (.agg r))))) [] st:=
 qI hd fun f hf β a w hh=>by
  have hp:=hh.pairs (l:=ps.toList) (r:=xs) (by rw[xW hf];exact hx);obtain⟨g1,g2⟩:=wB5 (S:=qM β) (w:=w) hzc;obtain⟨rs,h1,h2,h3⟩:=wMC hp g1 g2 hr;refine⟨.agg rs,?_,by have:=Rep.agg h3 h2;simpa using this⟩;have hzr:(zeroValue t).run P w=.ok z w:=by simp[zeroValue,typeInfo,hC.tys _ _ hi,hz]
  have hfl:Instr.fill (fun i=>some (i*m,m)) z.cells (ps.map fun(i,x)=>(i,a.eval x)).toList=some rs:=by rw[←h1];congr 1;simp
  have hb:(Instr.build t (ps.map fun(i,x)=>(i,a.eval x))).run P w=.ok (.agg rs) w:=by simp only[Instr.build,Sem.run_bind,hzr,Result.andThen_ok,wP hC ht,wZ hC hs];rw[hfl];rfl
  simp_all [execOp,Sem.run_bind]
theorem wUA(hC:CxOk P C){t elem:TypeId}{ps:Array (Nat×Operand)}{len m q id:Nat}{i:TypeInfo}{z:Value}{zc:List V}{xs:List (Nat×V)}{es:List (List V)}(hop:o.op=.buildSlice t len ps)(ht:C.und t=some (.slice elem))(hi:C.tys.get elem=some i)(hz:i.zero=some z)(hzc:toVs z.cells.toList=some zc)(hs:C.size elem=some m)(hsz:Nat.beq z.cells.size m=true)(hm0:Nat.blt 0 m=true)(hsmall:Nat.ble (len*m) 16777216=true)(hx:wA1 st ps.toList=some xs)(hr:wGB (fun i=>some (i*m,m)) (List.replicate len zc).flatten xs=some es.flatten)(hes:es.all (fun e=>Nat.beq e.length m)=true)(hl:Nat.beq es.length len=true)(hdst:o.dst=some q)(hd:Nat.blt q n=true):wQ P w0 n o (rdP ps.toList) [(2*q,some (.sv (.own id elem m es)))] [(2*q,id),(2*q,0)] st:=by
 intro f hf hn a w ⟨β,hh⟩ K Q hK;have hp:=hh.pairs (l:=ps.toList) (r:=xs) (by simp_all [xW]);have hp':PRep (fun b=>qM β b∧b<w.heap.size) w xs (ps.toList.map fun(i,x)=>(i,a.eval x)):=by
  clear hr hx;generalize ps.toList.map (fun(i,x)=>(i,a.eval x))=qs at hp
  induction hp with
  |nil=>exact .nil
  |cons h _ ih=>exact .cons (h.keep fun b hb hl=>⟨⟨hb,hl⟩,rfl⟩) ih
 obtain⟨g1,g2⟩:=wB5 (S:=fun b=>qM β b∧b<w.heap.size) (w:=w) hzc;have hsz':=pV hsz;have hsm:=pI hsmall;have hlen:=pV hl;have hzz:((Array.range (len*m)).map (z.cells[·%z.cells.size]!)).toList=(List.replicate len z.cells.toList).flatten:=by grind [wEE]
 have hall:wX (List.replicate len zc).flatten=true:=by simp_all [wX,List.all_eq_true,List.mem_flatten,List.mem_replicate]
 obtain⟨rs,h1,h2,h3⟩:=wMC (ccs:=(Array.range (len*m)).map (z.cells[·%z.cells.size]!)) hp' (by rw[hzz];exact g1.flatRep len) hall hr;have hrl:=h2.length;have hek:∀e∈es,e.length=m:=fun e he=>pV (mD.1 hes e he);rw[wBF hek,hlen]at hrl;simp only[Array.length_toList]at hrl;have hzr:(zeroValue elem).run P w=.ok z w:=by simp[zeroValue,typeInfo,hC.tys _ _ hi,hz]
 have hrun:(execOp a.eval o).run P w=.ok (.value (.slice (some ⟨w.heap.size,0,none⟩) len len)) (w.alloc (.cells rs elem)):=by
  have hb:(Instr.buildSlice t len (ps.map fun(i,x)=>(i,a.eval x))).run P w=.ok (.slice (some ⟨w.heap.size,0,none⟩) len len) (w.alloc (.cells rs elem)):=by
   have hn':¬(16777216<len*m):=by omega
   have hps:(ps.map fun(i,x)=>(i,a.eval x)).toList=ps.toList.map fun(i,x)=>(i,a.eval x):=by simp
   by_cases h0:len*m=0
   ·have hrange:((Array.range (len*m)).map fun x=>z.cells[x%z.cells.size]!)=#[]:=by rw[h0];simp
    rw[hrange]at h1;have hrz:Array.range 0=#[]:=rfl;rw[←hps]at h1;simp[Instr.buildSlice,wP hC ht,wZ hC hs,h0,newRow,hrz]at h1 ⊢;simp[h1]
   ·simp only[Instr.buildSlice,Sem.run_bind,wP hC ht,Result.andThen_ok,wZ hC hs,hn',hps];simp[h0,hzr,newRow,h1]
  simp_all [execOp,Sem.run_bind]
 unfold Oper.wp;rw[hrun,Oper.upon_value,hdst];refine hK _ _ ?_;have hal:Below w.heap.size w (w.alloc (.cells rs elem)):=(Below.refl _ _).alloc (pC _) _;refine hh.newOwn (by simp_all) (hn (2*q,0) (by simp)) (hn (2*q,id) (by simp)) hal (us:=rs.toList) ?_ (fun e he=>⟨hek e he,?_⟩) (h2.later hal) (fun B hB=>by cases hB;simp_all)
 ·rw[hlen];refine World.ownsRow_lit w rs len (pD w0.lole hh.base) ?_ hrl.symm;simp only[maxLen];have h:0<m:=by simp_all
  have:=Nat.le_mul_of_pos_right len h;omega
 ·have:=mD.1 (show es.flatten.all V.one=true from h3);exact mD.2 fun x hx=>this x (dO.2 ⟨e,he,hx⟩)
end
section
variable{P:Program}{C:Cx}{w0:Base}{w w':World}{n:Nat}{β:Bl}{f st:Fm}{a:Act}{o:Oper}
theorem wK5(base:Nat){t ty e:TypeId}{i:TypeInfo}{z:Value}(ht:P.underlying t=some (.slice e))(hi:P.info? e=some i)(hz:i.zero=some z)(hzs:z.cells.size=i.size)(hsz:0<i.size){v:Value}{m1:Nat}{xs:List Value}(hown:w.ownsRow base e i.size v m1 xs)(ad:Addr)(m c:Nat)(news:List Value)(hl:news.length=m*i.size)(hnews:∀j u,news[j]? = some u→w.cell? (ad.add j)=some u)(h1:∀u∈news,u.oneCell'=true)(h63:m1+m≤maxLen)(hbytes:(m1+m)*i.bytes≤140737488355328)(hbase:base≤w.heap.size) :
  ∃v' w',(Builtin.append_ #[t,t] ty #[v,.slice (some ad) m c]).run P w=.ok v' w'∧w'.ownsRow base e i.size v' (m1+m) (xs++news)∧w.grownBy w' v.ownBlock∧(v'.ownBlock=v.ownBlock∨∀B,v'.ownBlock=some B→w.heap.size≤B):=by
 obtain⟨v',w',h2,h3,h4,h5⟩:=run_append_own (P:=P) w base t ty e i z i.size i.bytes ht hi hz rfl rfl hzs hsz v m1 xs hown ad m c news hl hnews h1 h63 hbytes hbase;refine⟨v',w',h2,h3,h4,?_⟩;have hsmall:m1+m≤9223372036854775807:=by simp_all [maxLen]
 rcases hown.2 with⟨rfl,rfl⟩|⟨g,cap,cur,rfl,hbg,hg,hnc,hcm,hcs,htake⟩
 ·rcases mI m with hm|hm
  ·simp_all
  ·right;have hr:=run_append_nil (P:=P) w t ty e i z ht hi hz ad m c news hl hnews (by omega) (by omega) (by have hb:=hbytes;simp only[Nat.zero_add]at hb;omega);rw[hr]at h2;simp only[Result.ok.injEq]at h2;intro B hB;rw[←h2.1]at hB;cases hB
   simp_all
 ·by_cases hroom:m1+m≤cap
  ·left;have hfit:m1*i.size+news.length≤cur.size:=by rw[hl,hcs,←mY];exact mM _ hroom
   have hr:=run_append_room (P:=P) w t ty e i ht hi g m1 cap cur hg ad m c news hl hnews h1 hroom hfit;rw[hr]at h2;simp only[Result.ok.injEq]at h2;rw[←h2.1];rfl
  ·right;have holds:∀j u,xs[j]? = some u→w.cell? ((⟨g,0,none⟩:Addr).add j)=some u:=hown.cells (g:=g) rfl;have hr:=run_append_grow (P:=P) w t ty e i z ht hi hz ⟨g,0,none⟩ m1 cap xs hown.1 holds ad m c news hl hnews (by omega) (by omega) (growslice_fits (by omega) hbytes);rw[hr]at h2;simp only[Result.ok.injEq]at h2;intro B hB;rw[←h2.1]at hB;cases hB
   simp_all
def ownOf(T:TypeId)(k:Nat)(f:Fm)(x:Operand):Option (Option Nat×List (List V)):=
 match root f x with
 |some (s,_,T',k',es)=>bif Nat.beq T' T&&Nat.beq k' k then some (some s,es)else none
 |none=>match opv f x with
  |some .nils=>some (none,[])
  |_=>none
def clr:Option Nat→St
 |some s=>[(2*s,none)]
 |none=>[]
theorem sem_append(hC:CxOk P C){k:Call}{t elem:TypeId}{x y:Operand}{i:TypeInfo}{z:Value}{q m id:Nat}{so:Option Nat}{es es2:List (List V)}(hop:o.op=.call k)(hk:k.callee=.builtin .append)(hargs:k.args=#[x,y])(hts:k.argTypes=#[t,t])(ht:C.und t=some (.slice elem))(hi:C.tys.get elem=some i)(hz:i.zero=some z)(hsz:(Nat.beq z.cells.size i.size&&Nat.blt 0 i.size)=true)(hm:i.size=m)(hes:ownOf elem m st x=some (so,es))(hy:opV st y=some (.list es2))(hek:∀e∈es2,e.length=m)(h63:es.length+es2.length≤maxLen)(hb:(es.length+es2.length)*i.bytes≤140737488355328)(hdst:o.dst=some q)(hd:Nat.blt q n=true) :
  wQ P w0 n o (rdR st x++rdO y) ((2*q,some (.sv (.own id elem m (es++es2))))::clr so) [(2*q,id),(2*q,0)] st:=by
 intro f hf hn a w ⟨β,hh⟩ K Q hK;have h1:∀j∈rdR st x,f j=st j:=fun j hj=>hf j (cR _ hj);have h2:∀j∈rdO y,f j=st j:=fun j hj=>hf j (cH _ hj);simp only[Bool.and_eq_true]at hsz;have hsz':=pV hsz.1;have hsz0:0<i.size:=by simp_all
 subst hm;have hv:=hh.valV (x:=y) (y:=.list es2) (by simp_all [yN])
 obtain⟨u,us,K1,hu,hown,hrep,hall,hblk,hclr⟩:∃u us K1,a.eval x=u∧w.ownsRow w0.lo elem i.size u es.length us∧RepL (qM β) w es.flatten us∧(∀e∈es,e.length=i.size∧wX e=true)∧(u.ownBlock=none∨u.ownBlock=β K1 0)∧(u.ownBlock≠none→app (clr so) f K1=none):=by
  unfold ownOf at hes;split at hes
  ·rename_i s id' T' k' es' hr;cases hbb:(Nat.beq T' elem&&Nat.beq k' i.size)with
   |false=>simp_all
   |true=>rw[hbb]at hes;cases hes;simp only[Bool.and_eq_true]at hbb;obtain rfl:=pV hbb.1;obtain rfl:=pV hbb.2;obtain⟨r1,r2⟩:=hh.root (x:=x) (by rw[wB9 h1];exact hr);obtain⟨a1,a2,us,a3,a4⟩:=hh.slot s _ r1;exact⟨_,us,2*s,r2,a3,a4,a1,.inr a2,fun _=>by simp[clr,app1,upd]⟩
  ·split at hes
   ·rename_i hx;cases hes;have:=hh.any (x:=x) (y:=.nils) (by rw[wN fun j hj=>h1 j (rdR_O hj)];exact hx) rfl 0 0;exact⟨_,[],0,rfl,by rw[this];exact World.ownsRow_nil _ _ _ _,.nil,by simp,.inl (by rw[this];rfl),fun h=>absurd (by rw[this];rfl) h⟩
   simp_all
 obtain⟨v',w',us2,hrun,hown',hgr,hblk',hrep2,hall2⟩:∃v' w' us2,(execOp a.eval o).run P w=.ok (.value v') w'∧w'.ownsRow w0.lo elem i.size v' (es.length+es2.length) (us++us2)∧w.grownBy w' u.ownBlock∧(v'.ownBlock=u.ownBlock∨∀B,v'.ownBlock=some B→w.heap.size≤B) ∧
   RepL (qM β) w es2.flatten us2∧(∀e∈es2,wX e=true):=by
  have hex:∀v2 r w1,a.eval y=v2→(Builtin.append_ #[t,t] o.type #[u,v2]).run P w=.ok r w1→(execOp a.eval o).run P w=.ok (.value r) w1:=by simp_all [execOp,resolve,invoke,builtin]
  generalize hvy:a.eval y=v2 at hv;cases hv with
  |nils=>have hr:=run_append_owned_none (P:=P) w w0.lo t o.type elem i i.size (hC.und ht) (hC.tys _ _ hi) u es.length us hown;exact⟨u,w,[],hex _ _ _ hvy hr,by simp_all,jP _ _,.inl rfl,.nil,by simp⟩
  |emp p cap=>obtain⟨v',w',r1,r2,r3,r4⟩:=wK5 (P:=P) (ty:=o.type) w0.lo (hC.und ht) (hC.tys _ _ hi) hz hsz' hsz0 hown p 0 cap [] (by simp) (by simp) (by simp) (by omega) (by omega) (pD w0.lole hh.base);exact⟨v',w',[],hex _ _ _ hvy r1,by omega,r3,r4,.nil,by simp⟩
  | @list _ k2 us2 b off cap hk2 ho2 hc2 hl2 hb2 hu2=>
   have hl2':us2.length=es2.length*i.size:=by rw[←hl2.length,wBF hek]
   have hone:∀v∈us2,v.oneCell'=true:=hl2.one (by unfold wX;rw[mD];intro x hx;obtain⟨l,hl,hxl⟩:=dO.1 hx;exact mD.1 (ho2 l hl) x hxl)
   obtain⟨v',w',r1,r2,r3,r4⟩:=wK5 (P:=P) (ty:=o.type) w0.lo (hC.und ht) (hC.tys _ _ hi) hz hsz' hsz0 hown ⟨b,off,none⟩ es2.length cap us2 hl2' (fun j u hj=>by rw[kT];exact hu2 j u hj) hone h63 hb (pD w0.lole hh.base)
   grind
 unfold Oper.wp;rw[hrun,Oper.upon_value,hdst];refine hK _ _ ?_;have hhc:HB w0 n β (app (clr so) f) a w:=by
  cases so with
  |some s=>simp only[clr,app1];exact hh.drop _
  |none=>exact hh
 have hnc:∀j,(2*q,j)∈[(2*q,id),(2*q,0)]→wC6 (app (clr so) f) (2*q) j:=fun j hj=>by
  have:=hn (2*q,j) hj;cases so with
  |some s=>simp only[clr,app1];exact this.drop _
  |none=>exact this
 have hge:∀b,qM β b→b<w.heap.size→w'.heap[b]? = w.heap[b]?:=fun b hb hl=>hgr.block b hl (fun e=>by
  rcases hblk with hblk|hblk
  ·simp_all
  ·rw[hblk]at e;exact hb _ _ e.symm)
 have hes':∀e∈es++es2,e.length=i.size∧wX e=true:=fun e he=>by grind
 have hrep':∀S':Nat→Prop,(∀b,qM β b→b<w.heap.size→S' b)→RepL S' w' (es++es2).flatten (us++us2):=fun S' hS'=>by rw[fZ];exact(hrep.keep fun b hb hl=>⟨hS' b hb hl,hge b hb hl⟩).append (hrep2.keep fun b hb hl=>⟨hS' b hb hl,hge b hb hl⟩)
 have hfin:∀β':Bl,HB w0 n β' (upd (app (clr so) f) (2*q) none) a w'→v'.ownBlock=β' (2*q) 0→(∀b,qM β b→b<w.heap.size→qM β' b)→Hs w0 n (app ((2*q,some (.sv (.own id elem i.size (es++es2))))::clr so) f) (a.put (some q) v') w':=by intro β' h5 h6 h7;have h8:=h5.putO (d:=q) (by simp_all) (id:=id) (T:=elem) (k:=i.size) (es:=es++es2) (u:=v') ((hnc id (by simp)).drop _) ⟨hes',h6,us++us2,by simp_all,hrep' _ h7⟩;rw[wMD]at h8;refine⟨β',?_⟩;rw[yE];exact h8
 by_cases hnone:u.ownBlock=none
 ·
  rw[hnone]at hgr;have hlow:Below w.heap.size w w':=⟨hgr.os,hgr.tape,hgr.output,hgr.size,fun k hk=>hgr.block k hk (by simp)⟩
  have h5:=(hhc.drop (2*q)).bind (K:=2*q) (o:=v'.ownBlock) hlow (fun B hB=>⟨by simp_all,(yS hown' hB).2⟩) (upd_same _ _ _) ((hnc 0 (by simp)).drop _)
  refine hfin _ h5 (j9 _ _ _ _).symm fun b hb hl k j e=>?_;unfold upB at e;split at e
  ·grind
  ·exact hb _ _ e
 ·have hbe:u.ownBlock=β K1 0:=by
   simp_all
  have hdead:=hclr hnone;have h5:=(hhc.drop (2*q)).xfer (K1:=K1) (J1:=0) (K2:=2*q) (J2:=0) (o:=v'.ownBlock) (w':=w') (by simp_all) (by
   rcases hblk' with e|e
   ·simp_all
   ·exact .inr fun B hB=>⟨e B hB,(yS hown' hB).2⟩) (wOC (by
   simp_all [upd])) (wOC (upd_same _ _ _)) (fun _=>(hnc 0 (by simp)).drop _)
  refine hfin _ h5 (j9 _ _ _ _).symm fun b hb hl k j e=>?_;unfold upB at e;split at e
  ·rcases hblk' with e'|e'
   ·rw[e',hbe]at e;exact hb _ _ e
   grind
  ·split at e
   ·cases e
   ·exact hb _ _ e
theorem qJ0{α:Type}{k:Nat}:∀{es:List (List α)},(∀e∈es,e.length=k)→∀(i:Nat)(e':List α),i<es.length→e'.length=k→(es.set i e').flatten=es.flatten.take (i*k)++e'++es.flatten.drop (i*k+k)
 |[],_,i,e',h,_=>by grind
 |d::ds,hk,0,e',_,hl=>by simp_all
 |d::ds,hk,i+1,e',h,hl=>by
  have hd:=hk d (pQ ..);simp only[List.length_cons]at h;rw[List.set_cons_succ,mT,qJ0 (fun e h=>hk e (pO _ h)) i e' (by omega) hl,mT,bS]
  simp_all [List.take_append,List.take_of_length_le,List.drop_append,List.drop_eq_nil_of_le,List.nil_append]
theorem HB.reown{β:Bl}{f:Fm}{a:Act}{w w':World}{d id k:Nat}{T:TypeId}{es es':List (List V)}(h:HB w0 n β (upd f (2*d) none) a w')(h0:HB w0 n β f a w)(hq:f (2*d)=some (.sv (.own id T k es)))(hx:jE w0.lo (qM β) w' β (2*d) 0 (.own id T k es') (a.tmps.getD d undef)) :
  HB w0 n β (upd f (2*d) (some (.sv (.own id T k es')))) a w' where
 size:=h.size
 dfr:=h.dfr
 bel:=h.bel
 inj:=h.inj
 rng:=h.rng
 sp:=h.sp
 spk:=h.spk
 od:=h.od
 al e d' id' T' k' es2 e1 e2:=by
  have n1:e≠d:=by
   rintro rfl
   simp_all [upd_same]
  rw[upd_ne _ _ (by omega)]at e1;by_cases hd:d'=d
  ·subst hd;rw[upd_same]at e2;cases e2;exact h0.al e _ _ _ _ _ e1 hq
  ·rw[upd_ne _ _ (by omega)]at e2;exact h0.al e _ _ _ _ _ e1 e2
 pt e d' id' k' i off T' es2 B e1 e2 e3:=by
  have n1:e≠d:=by
   rintro rfl
   simp_all [upd_same]
  rw[upd_ne _ _ (by omega)]at e1;by_cases hd:d'=d
  ·subst hd;rw[upd_same]at e2;cases e2;exact h0.pt e _ _ _ _ _ _ _ _ e1 hq e3
  ·rw[upd_ne _ _ (by omega)]at e2;exact h0.pt e _ _ _ _ _ _ _ _ e1 e2 e3
 slot e y hy:=by
  by_cases he:e=d
  ·simp_all [upd_same]
  ·rw[upd_ne _ _ (by omega)]at hy;exact h.slot e y (by grind [upd_ne])
 box e cs he:=by rw[upd_ne _ _ (by omega)]at he;exact h.box e cs (by grind [upd_ne])
 fm e T k L he:=by rw[upd_ne _ _ (by omega)]at he;exact h.fm e T k L (by grind [upd_ne])
theorem qG3(hC:CxOk P C){t:TypeId}{p x:Operand}{d id k i off m:Nat}{T:TypeId}{es:List (List V)}{e:List V}{y:V}(hop:o.op=.store t p x)(hp:opv st p=some (.at d id k i off))(hb:st (2*d)=some (.sv (.own id T k es)))(hi:es[i]? = some e)(hx:opV st x=some y)(hnt:wE0 y=true)(hs:C.size t=some m)(hm:y.cells.length=m)(hfit:off+m≤k)(hdst:o.dst=none) :
  wQ P w0 n o (rdO p++(rdO x++[2*d])) [(2*d,some (.sv (.own id T k (es.set i (over e off y.cells)))))] [] st:=by
 intro f hf _ a w ⟨β,hh⟩ K Q hK;obtain⟨h1,h2⟩:=qZ hf;obtain⟨h3,h4⟩:=qZ h2;have hv:=hh.valV (x:=x) (y:=y) (by simp_all [yN]);obtain⟨c1,c2⟩:=hv.cells (wNI hnt);have hil:=(pY.1 hi).1;have hmem:e∈es:=pE hi;have hq:f (2*d)=some (.sv (.own id T k es)):=by simp_all
 obtain⟨a1,a2,us,a3,a4⟩:=hh.slot d _ hq;have hul:us.length=es.length*k:=a3.1;rcases a3.2 with⟨_,h0⟩|⟨g,cap,cur,hval,hbg,hg,hc,hm',hcs,ht⟩
 ·omega
 have hB:β (2*d) 0=some g:=by rw[←a2,hval];rfl
 have e2:=hh.atp (x:=p) (by rw[wN h1];exact hp) hq hB;have hcl:=c1.length;have hik:i*k+k≤es.length*k:=by rw[←bS];exact mM _ hil
 have hck:es.length*k≤cap*k:=mM _ hc;have hst:=run_storeCells_at P g (i*k+off) T (a.eval x).cells.toList 0 cur w hg (by omega) (c1.one c2);simp only[Nat.add_zero]at hst;have hsz:(a.eval x).cells.size=m:=by simp_all
 have hrun:(execOp a.eval o).run P w=.ok .skip (w.setRow g (over cur.toList (i*k+off) (a.eval x).cells.toList).toArray):=by simp[execOp,hop,e2,Instr.storeAt,Instr.sureAddr,storeVar,wZ hC hs,hsz,hst,over]
 unfold Oper.wp;rw[hrun,Oper.upon_skip,hdst];refine hK _ _ ?_;have hgr:=wG1 w g (over cur.toList (i*k+off) (a.eval x).cells.toList).toArray;have h5:=(hh.drop (2*d)).touch (K:=2*d) (w':=w.setRow g (over cur.toList (i*k+off) (a.eval x).cells.toList).toArray) (by simp_all) (upd_same _ _ _);have hel:e.length=k:=(a1 e hmem).1;have hol:(over e off y.cells).length=k:=by simp_all [wHH]
 have hflat:(es.set i (over e off y.cells)).flatten=over es.flatten (i*k+off) y.cells:=by
  rw[qJ0 (fun e he=>(a1 e he).1) i _ hil hol];have hs0:=wO7 (fun e he=>(a1 e he).1) i e hi;unfold over;rw[←hs0];have hfl:es.flatten.length=es.length*k:=wBF fun e he=>(a1 e he).1;rw[gH,dG (by omega)];have t1:List.take (i*k) es.flatten++(List.take off (List.drop (i*k) es.flatten)++y.cells++List.drop (off+y.cells.length) (List.take k (List.drop (i*k) es.flatten)))++List.drop (i*k+k) es.flatten =
    (List.take (i*k) es.flatten++List.take off (List.drop (i*k) es.flatten))++y.cells++(List.drop (off+y.cells.length) (List.take k (List.drop (i*k) es.flatten))++List.drop (i*k+k) es.flatten):=by simp only[List.append_assoc]
  rw[t1];have t2:List.take (i*k) es.flatten++List.take off (List.drop (i*k) es.flatten)=List.take (i*k+off) es.flatten:=by rw[List.take_add]
  have t3:List.drop (off+y.cells.length) (List.take k (List.drop (i*k) es.flatten))++List.drop (i*k+k) es.flatten=List.drop (i*k+off+y.cells.length) es.flatten:=by rw[fJ,mQ,show i*k+k=(i*k+(off+y.cells.length))+(k-(off+y.cells.length)) by omega,←mQ (i:=k-(off+y.cells.length))];rw[bJ,cA]
  grind
 have hkeep:∀b,qM β b→b<w.heap.size→qM β b∧(w.setRow g (over cur.toList (i*k+off) (a.eval x).cells.toList).toArray).heap[b]? = w.heap[b]?:=fun b hb hl=>⟨hb,hgr.block b hl (fun e=>by cases e;exact hb _ _ hB)⟩
 have hall':∀e'∈es.set i (over e off y.cells),e'.length=k∧wX e'=true:=fun e' he'=>by grind [List.mem_or_eq_of_mem_set,wS7]
 have h6:=h5.reown hh hq (es':=es.set i (over e off y.cells)) ⟨hall',a2,over us (i*k+off) (a.eval x).cells.toList,⟨by grind [wHH],.inr ⟨g,cap,_,by simp_all,hbg,setRow_heap w g cur _ T _ hg,by simp_all,hm',?_,?_⟩⟩,?_⟩
 ·refine⟨β,?_⟩;rw[app1];exact h6
 ·grind [List.size_toArray,wHH]
 ·simp only[List.length_set];apply List.ext_getElem?;intro j;rw[dA];by_cases hj:j<es.length*k
  ·rw[if_pos hj,wNB _ _ _ (by simp at hcl ⊢;omega),wNB _ _ _ (by simp at hcl ⊢;omega)]
   grind
  ·rw[if_neg hj]
   grind [List.getElem?_eq_none,wHH]
 ·rw[hflat];exact(a4.over c1 (i*k+off)).keep hkeep
end
section
variable{P:Program}{C:Cx}{w0:Base}{w w':World}{n:Nat}{β:Bl}{f st:Fm}{a:Act}{o:Oper}
set_option linter.unusedVariables false in
theorem Rep.list_part{S:Nat→Prop}{es:List (List V)}{b off len cap k:Nat}(h:Rep S w (.list es) (.slice (some ⟨b,off,none⟩) len cap))(hk:∀e∈es,e.length=k)(l h' m:Nat)(h1:l≤h')(h2:h'≤es.length)(h3:h'≤m)(h4:m≤cap) :
  Rep S w (.list ((es.take h').drop l)) (.slice (some (if m=l then⟨b,off,none⟩else⟨b,off+l*k,none⟩)) (h' - l) (m-l)):=by
 cases h with
 |emp=>
  have e1:((([]:List (List V)).take h').drop l)=[]:=by simp
  simp only[List.length_nil]at h2;rw[e1,show h' - l=0 by omega];exact .emp _ _
 | @list _ k' us _ _ _ hk' ho hc hl hb hu=>
  have hlen:((es.take h').drop l).length=h' - l:=by grind
  by_cases hm:m=l
  ·subst hm
   have:(es.take h').drop m=[]:=pN (by omega)
   rw[if_pos rfl,this];have:=Rep.list (S:=S) (w:=w) (es:=[]) (us:=[]) (b:=b) (off:=off) (cap:=m-m) (k:=0) (by simp) (by simp) (by simp) .nil (fun h=>absurd rfl h) (by simp)
   simp_all
  ·rw[if_neg hm,←hlen];refine .list (k:=k) (us:=(us.take (h'*k)).drop (l*k)) (fun e he=>hk e (dE (dL he))) (fun e he=>ho e (dE (dL he))) (by omega) ?_ (fun hne=>hb ?_) fun j u hj=>?_
   ·have h5:∀e∈es.take h',e.length=k:=fun e he=>hk e (dE he);rw[qAF h5,wJB hk];exact(hl.take _).drop _
   ·intro e;subst e;simp at hne
   grind
def bnd(f:Fm):Option Operand→Option (Option Nat)
 |none=>some none
 |some x=>match opv f x with
  |some (.v (.int _ (.ofNat m)))=>some (some m)
  |_=>none
def rdOO:Option Operand→List Nat
 |none=>[]
 |some x=>rdO x
theorem wZE(hC:CxOk P C){t elem:TypeId}{x:Operand}{lo hi:Option Operand}{es:List (List V)}{l h k:Nat}(hop:o.op=.slice t x lo hi none)(hx:opv st x=some (.v (.list es)))(ht:C.und t=some (.slice elem))(hs:C.size elem=some k)(hk:∀e∈es,e.length=k)(hl:∀g:Fm,(∀j∈rdOO lo,g j=st j)→∀(β:Bl)(a:Act)(w:World),HB w0 n β g a w→intV (if lo.isSome then some l else none) (lo.map a.eval))(hl0:lo=none→l=0)(hh:∀g:Fm,(∀j∈rdOO hi,g j=st j)→∀(β:Bl)(a:Act)(w:World),HB w0 n β g a w→intV (if hi.isSome then some h else none) (hi.map a.eval))(hh0:hi=none→h=es.length)(h1:l≤h)(h2:h≤es.length)(hd:dLt n o.dst=true):wQ P w0 n o (rdO x++(rdOO lo++rdOO hi)) (dput o.dst (some (.sv (.v (.list ((es.take h).drop l)))))) [] st:=
 qI hd fun f hf β a w hb=>by
  obtain⟨f1,f2⟩:=qZ hf;have e1:=hb.val (x:=x) (y:=.list es) (by simp_all [wN]);have e2:=hl f (fun j hj=>f2 j (cR _ hj)) β a w hb;have e3:=hh f (fun j hj=>f2 j (cH _ hj)) β a w hb;have hb3:∀cap,es.length≤cap→(Instr.sliceBounds true es.length cap (lo.map a.eval) (hi.map a.eval) none).run P w=.ok (l,h,cap) w:=by
   intro cap hcap;have:=(yK (P:=P) (w:=w) (len:=es.length) (cap:=cap) (cc:=cap) (lo:=if lo.isSome then some l else none) (hi:=if hi.isSome then some h else none) (mx:=none) (l:=l) (h:=h) (m:=cap) ?_ (pC _) e2 e3 rfl).1
   ·simp_all
   ·unfold yD;have hl':(if lo.isSome=true then some l else none:Option Nat).getD 0=l:=by
     cases lo with
     |none=>simp[hl0 rfl]
     |some _=>rfl
    have hh':(if hi.isSome=true then some h else none:Option Nat).getD es.length=h:=by
     cases hi with
     |none=>simp[hh0 rfl]
     |some _=>rfl
    simp only[Option.getD_none,hl',hh'];have b1:Nat.ble cap cap=true:=by rw[fK];exact pC _
    grind [Nat.ble,Nat.ble_eq]
  generalize hu:a.eval x=u at e1;obtain⟨ad,cap,hsh⟩:=e1.list_shape;subst hsh;cases ad with
  |none=>cases e1;simp only[List.length_nil,Nat.le_zero]at h2;obtain rfl:=h2;simp only[Nat.le_zero]at h1;subst h1;have:=hb3 0 (by simp);refine⟨.slice none 0 0,?_,by simp;exact .nils⟩;simp only[List.length_nil]at this;simp[execOp,hop,hu,Instr.sliceAt,wP hC ht,Instr.slice,this,wZ hC hs]
  | some p=>
   have hcc:es.length≤cap:=by
    cases e1 with
    |list _ _ hc=>exact hc
    |emp=>simp
   have:=hb3 cap hcc;have hs':(if cap=l then(some p:Option Addr)else Option.map (fun(x:Addr)=>x.add (l*k)) (some p))=some (if cap=l then p else p.add (l*k)):=by grind
   refine⟨.slice (some (if cap=l then p else p.add (l*k))) (h-l) (cap-l),?_,?_⟩
   ·simp only[execOp,hop,hu,Option.map_none,Instr.sliceAt,Sem.run_bind,wP hC ht,Result.andThen_ok,Instr.slice,this,wZ hC hs,Sem.run_pure,hs']
   ·generalize hes:es=es' at e1 hk h2;cases e1 with
    |emp=>
     subst hes
     have:(([]:List (List V)).take h).drop l=[]:=by simp
     simp only[List.length_nil]at h2;rw[this,show h-l=0 by omega];exact .emp _ _
    |@list _ k' us b off _ hk' ho hc hl' hb' hu'=>
     subst hes;have e2:=Rep.list_part (S:=qM β) (w:=w) (.list hk' ho hc hl' hb' hu') hk l h cap h1 h2 (by omega) (pC _)
     simp_all [kT]
theorem wXG{x:Option Operand}{m:Option Nat}(h:bnd st x=some m):∀g:Fm,(∀j∈rdOO x,g j=st j)→∀(β:Bl)(a:Act)(w:World),HB w0 n β g a w→intV m (x.map a.eval):=by
 intro g hg β a w hb;cases x with
 |none=>cases h;rfl
 |some x=>
  simp only[bnd]at h;split at h
  ·rename_i k q hq;cases h;have:=hb.val (x:=x) (y:=.int k (.ofNat q)) (by rw[wN hg];exact hq);simp only[Option.map_some];generalize a.eval x=u at this;cases this;exact⟨k,rfl⟩
  grind
def yF(f:Fm):List Operand→Option (List V)
 |[]=>some []
 | x::l=>match opV f x with
  |some y=>match yF f l with
   |some r=>some (y::r)
   |none=>none
  |none=>none
def rdL:List Operand→List Nat
 |[]=>[]
 |x::l=>rdO x++rdL l
theorem yZ{f g:Fm}:∀{l:List Operand},(∀k∈rdL l,f k=g k)→yF f l=yF g l
 |[],_=>rfl
 |x::l,h=>by obtain⟨h1,h2⟩:=qZ (x:=x) (l:=rdL l) h;simp only[yF];rw[yN h1,yZ h2]
theorem HB.args(hh:HB w0 n β f a w):∀{l:List Operand}{r:List V},yF f l=some r→RepL (qM β) w r (l.map a.eval)
 |[],r,e=>by cases e;exact .nil
 | x::l,r,e=>by
  simp only[yF]at e;split at e
  ·rename_i y hy;split at e
   ·rename_i q hq;cases e;exact .cons (hh.valV hy) (hh.args hq)
   ·cases e
  grind
theorem qCD{g:FuncId}{fs cs:Array Operand}{xs ys:List V}(hop:o.op=.makeFunc (.func g) fs cs)(hx:yF st fs.toList=some xs)(hy:yF st cs.toList=some ys)(hd:dLt n o.dst=true):wQ P w0 n o (rdL fs.toList++rdL cs.toList) (dput o.dst (some (.sv (.v (.clo g xs ys))))) [] st:=
 qI hd fun f hf β a w hh=>by
  have h1:∀k∈rdL fs.toList,f k=st k:=fun k hk=>hf k (cR _ hk);have h2:∀k∈rdL cs.toList,f k=st k:=fun k hk=>hf k (cH _ hk);have e1:=hh.args (l:=fs.toList) (r:=xs) (by rw[yZ h1];exact hx);have e2:=hh.args (l:=cs.toList) (r:=ys) (by rw[yZ h2];exact hy);refine⟨.func (.func g) (fs.map a.eval) (cs.map a.eval),by simp[execOp,hop,Instr.makeFunc],?_⟩;have:=Rep.clo (f:=g) e1 e2;have e3:∀l:Array Operand,(l.toList.map a.eval).toArray=l.map a.eval:=fun l=>by apply bU;simp
  simp_all
def wJ(P:Program)(g:FuncId)(xs:List V)(R:V→Prop):Prop:=
 ∀(S:Nat→Prop)(w:World)(us:List Value),RepL S w xs us→Calls P g us.toArray w fun e w'=>∃v y,e=.returned v∧R y∧Rep (fun b=>S b∨w.heap.size≤b) w' y v∧Below w.heap.size w w'
theorem wJ.mono{g:FuncId}{xs:List V}{R R':V→Prop}(h:wJ P g xs R)(hr:∀y,R y→R' y):wJ P g xs R':=
 fun S w us hu=>(h S w us hu).mono fun e w' ⟨v,y,h1,h2,h3⟩=>⟨v,y,h1,hr y h2,h3⟩
theorem sem_callR(hC:CxOk P C){k:Call}{x:Operand}{g:FuncId}{fn:Func}{fs cs args:List V}{R:V→Prop}(hop:o.op=.call k)(hk:k.callee=.value x)(hx:opv st x=some (.v (.clo g fs cs)))(hargs:yF st k.args.toList=some args)(hfn:C.fns.get g=some fn)(hcall:wJ P g (fs++args++cs) R)(hd:dLt n o.dst=true):∀f:Fm,(∀j∈rdO x++rdL k.args.toList,f j=st j)→∀(a:Act)(w:World),Hs w0 n f a w→∀(K:Act→World→Prop)(Q:Exit→Act→World→Prop),
   (∀y,R y→∀a' w',Hs w0 n (app (dput o.dst (some (.sv (.v y)))) f) a' w'→K a' w')→o.wp P a w K Q:=by
 intro f hf a w ⟨β,hh⟩ K Q hK;obtain⟨h1,h2⟩:=qZ hf;have e1:=hh.val (x:=x) (y:=.clo g fs cs) (by simp_all [wN]);have e2:=hh.args (l:=k.args.toList) (r:=args) (by simp_all [yZ]);generalize hu:a.eval x=u at e1;cases e1 with
 | @clo _ _ _ us vs hfs hcs=>
  obtain⟨hf1,hf2⟩:=hC.fns g fn hfn;have hrun:(execOp a.eval o).run P w=.ok (.enter g (us++k.args.toList.map a.eval++vs).toArray) w:=by
   have hm:(us.toArray++k.args.map a.eval)++vs.toArray=(us++k.args.toList.map a.eval++vs).toArray:=by apply bU;simp
   simp only[execOp,hop,resolve,hk,hu,Deferred.ofValue,Sem.run_bind,Sem.run_pure,Result.andThen_ok,invoke]
   simp_all
  unfold Oper.wp;rw[hrun,Oper.upon_enter];refine Calls.mono (hcall (qM β) w _ ((hfs.append e2).append hcs)) ?_;rintro e w' ⟨v,y,rfl,hR,hr,hb⟩;refine hK y hR _ _ ⟨β,(hh.grow hb).dput hd rfl fun K=>?_⟩;exact Rep.mono hr fun b hb' _=>by
   rcases hb' with h|h
   ·exact h
   ·intro k j e;have:=(hh.rng _ _ _ e).2;omega
theorem qGB(hC:CxOk P C){k:Call}{x:Operand}{g:FuncId}{fn:Func}{fs cs args:List V}{y:V}(hop:o.op=.call k)(hk:k.callee=.value x)(hx:opv st x=some (.v (.clo g fs cs)))(hargs:yF st k.args.toList=some args)(hfn:C.fns.get g=some fn)(hcall:wJ P g (fs++args++cs) (fun z=>z=y))(hd:dLt n o.dst=true):wQ P w0 n o (rdO x++rdL k.args.toList) (dput o.dst (some (.sv (.v y)))) [] st:=by
 intro f hf _ a w hh K Q hK;refine sem_callR hC hop hk hx hargs hfn hcall hd f hf a w hh K Q ?_
 simp_all
def wD1(w0:Base)(n:Nat)(rd:List Nat)(u:St)(st:Fm):Prop:=∀f:Fm,(∀k∈rd,f k=st k)→∀(a:Act)(w:World),Hs w0 n f a w→Hs w0 n (app u f) a w
theorem wO4{d id k:Nat}{T:TypeId}{es:List (List V)}(h:st (2*d)=some (.sv (.own id T k es))):wD1 w0 n [2*d] [(2*d,some (.sv (.v (.list es))))] st:=by rintro f hf a w ⟨β,hh⟩;rw[app1];exact⟨_,hh.freeze (by rw[hf _ (by simp)];exact h)⟩
theorem ghost_root{s d id k:Nat}{T:TypeId}{es:List (List V)}(h:root st (.tmp s)=some (d,id,T,k,es)):wD1 w0 n (rdS st s) [(2*s,some (.sv (.v (.list es)))),(2*d,some (.sv (.v (.list es))))] st:=by rintro f hf a w ⟨β,hh⟩;obtain⟨r1,r2⟩:=hh.root (x:=.tmp s) (by rw[wB9 (g:=st) (x:=.tmp s) hf];exact h);have h1:=hh.freeze r1;have h2:=h1.slot d (.v (.list es)) (upd_same _ _ _);have hev:a.tmps.getD s undef=a.tmps.getD d undef:=r2;have h3:=h1.reslot (d:=s) (x:=.v (.list es)) rfl (by rw[hev];exact h2);refine⟨upB β (2*d) 0 none,?_⟩;rw[yE,app1];exact h3
theorem ghost_box{d s:Nat}{cs:List SV}{r:List V}(h:st (2*s)=some (.sv (.bx d 0)))(hb:st (2*d+1)=some (.bx cs))(hr:asVs cs=some r):wD1 w0 n [2*s,2*d+1] [(2*s,some (.sv (.v (.ref r)))),(2*d+1,none)] st:=by
 rintro f hf a w ⟨β,hh⟩;have hq:=hh.slot s _ (by rw[hf _ (by simp)];exact h);obtain⟨B,T,us,g1,g2,g3,g4⟩:=hh.box d cs (by simp_all);have e1:=hq B g1;have h5:=hh.drop (2*d+1);have hval:∀k j B',(if k=2*d+1 then none else β k j)=some B'→β k j=some B'∧k≠2*d+1:=fun k j B' e=>by simp_all
 have h6:HB w0 n (fun k j=>if k=2*d+1 then none else β k j) (upd f (2*d+1) none) a w:=by
  refine h5.chg h5.bel (fun k j k' j' B' a1 a2=>h5.inj _ _ _ _ _ (hval _ _ _ a1).1 (hval _ _ _ a2).1) (fun k j B' a1=>h5.rng _ _ _ (hval _ _ _ a1).1) (fun j b e=>(if_neg (by omega)).trans e) (fun b hb' hl=>⟨fun k j e=>hb' k j (hval _ _ _ e).1,rfl⟩) ?_ (fun d' x e d2 hx B' hB=>(hval _ _ _ hB).1) ?_ ?_ (fun d' T' k' L e B' hB'=>by
   have hne:d'≠d:=by rintro rfl;rw[upd_same]at e;cases e
   grind) (fun _ _=>rfl) (fun k j B' e=>h5.spk _ _ _ (hval _ _ _ e).1)
  ·grind
  ·intro d' cs' e;refine⟨if_neg fun hd=>?_,fun _ _=>rfl⟩;obtain rfl:d'=d:=by omega
   rw[upd_same]at e;cases e
  ·intro d' cs' j id T' k es e hj;refine⟨if_neg fun hd=>?_,fun _ _=>rfl⟩;obtain rfl:d'=d:=by omega
   rw[upd_same]at e;cases e
 have hS:∀b,qM β b→qM (fun k j=>if k=2*d+1 then none else β k j) b:=fun b hb' k j e=>hb' k j (hval _ _ _ e).1;have hB':∀j B',β (2*d+1) j=some B'→qM (fun k j=>if k=2*d+1 then none else β k j) B':=fun j B' hj k' j' e=>by obtain⟨e1,e2⟩:=hval _ _ _ e;exact e2 (hh.inj _ _ _ _ _ e1 hj).1
 obtain⟨k1,k2⟩:=wXI (w:=w) (β:=β) (S':=qM (fun k j=>if k=2*d+1 then none else β k j)) (J:=1) hS hr g3 (fun j x u hx hu=>by have:=g4 j x u hx hu;rwa [fW j 1]at this) (fun j B' hj=>hB' _ B' hj);have h7:=h6.reslot (d:=s) (x:=.v (.ref r)) rfl (by
  rw[e1];refine .ref k2 k1 ⟨hB' 0 B g1,(pU.1 g2).1⟩ fun j u hj=>?_;rw[cell_of_row w B _ _ T (0,0) g2,cL]
  simp_all)
 refine⟨_,h7.less fun K' c e=>?_⟩;rw[yE,app1]at e;exact e
theorem qB9{f g:Fm}(u:St){k:Nat}(h:f k=g k):app u f k=app u g k:=by
 induction u with
 |nil=>exact h
 |cons p u ih=>simp_all [app]
theorem wY1(u g:St)(f:Fm):app (u++g) f=app u (app g f):=by
 funext d
 induction u with
 |nil=>rfl
 |cons p u ih=>simp_all [List.cons_append,app]
def wE1:St→Bool
 |[]=>true
 |(_,some (.sv (.bx _ _)))::_=>false
 |(_,some (.sv (.rp _ _ _)))::_=>false
 |(_,some (.sv (.al _ _)))::_=>false
 |(_,some (.sv (.at _ _ _ _ _)))::_=>false
 |_::l=>wE1 l
theorem noPts_app{g:St}(h:wE1 g=true){f:Fm}{K j:Nat}(hf:wC6 f K j):wC6 (app g f) K j:=by
 induction g with
 |nil=>exact hf
 | cons p g ih=>
  obtain⟨k,x⟩:=p;have h':wE1 g=true:=by
   unfold wE1 at h
   grind
  intro d y e;simp only[app]at e;cases hk:Nat.beq k (2*d)with
  |false=>rw[hk]at e;exact ih h' d y e
  |true=>
   rw[hk]at e;simp only[cond_true]at e;subst e;cases y with
   |bx a b=>cases h
   |rp a b c=>cases h
   |al a b=>cases h
   |«at» a b c d e=>cases h
   |_=>exact id
theorem wQ.ghost{rd rd2:List Nat}{u g:St}{mk:List (Nat×Nat)}(hg:wD1 w0 n rd2 g st)(hn:wE1 g=true)(h:wQ P w0 n o rd u mk (app g st)):wQ P w0 n o (rd++rd2) (u++g) mk st:=by
 intro f hf hmk a w hh K Q hK;refine h (app g f) (fun k hk'=>qB9 g (hf k (cR _ hk'))) (fun K hK=>noPts_app hn (hmk K hK)) a w (hg f (fun k hk=>hf k (cH _ hk)) a w hh) K Q fun a' w' h'=>hK a' w' ?_
 simp_all [wY1]
end
structure Stp where
 rd:List Nat
 u:St
 nw:List (Nat×Nat)
def keys:St→List Nat
 |[]=>[]
 |(k,_)::l=>k::keys l
theorem wB3{u:St}{f:Fm}{q:Nat}(h:q ∉ keys u):app u f q=f q:=by
 induction u with
 |nil=>rfl
 |cons p u ih=>
  obtain⟨k,x⟩:=p;simp only[keys,List.mem_cons,not_or]at h;simp only[app,wC0 (fun e=>h.1 e.symm),cond_false]
  simp_all
theorem app_in{u:St}{f g:Fm}{q:Nat}(h:q∈keys u):app u f q=app u g q:=by
 induction u with
 |nil=>cases h
 | cons p u ih=>
  obtain⟨k,x⟩:=p;simp only[app];by_cases hk:k=q
  ·simp_all
  ·rw[wC0 hk];simp only[cond_false]
   grind [keys,absurd]
theorem qF6{u:St}{f:Fm}{q:Nat}{c:Cell}(h:app u f q=some c):(q,some c)∈u∨f q=some c:=by
 induction u with
 |nil=>exact .inr h
 | cons p u ih=>
  obtain⟨k,x⟩:=p;simp only[app]at h;by_cases hk:k=q
  ·simp_all
  ·rw[wC0 hk]at h
   grind
theorem wBD{u:St}{q:Nat}{c:Cell}(h:lk u q=some c):(q,some c)∈u:=by
 induction u with
 |nil=>cases h
 |cons p u ih=>grind [lk,List.mem_cons_self,wC0,List.mem_cons_of_mem]
def ptK:Option Cell→Option Nat
 |some (.sv (.bx d _))=>some (2*d+1)
 |some (.sv (.rp d _ _))=>some (2*d+1)
 |some (.sv (.al d _))=>some (2*d)
 |some (.sv (.at d _ _ _ _))=>some (2*d)
 |_=>none
theorem pts_ptK{y:SV}{K j:Nat}(h:pts y K j):ptK (some (.sv y))=some K:=by cases y<;>simp[pts,ptK]at h ⊢<;>omega
def leads:Option Cell→Nat→Nat→Bool
 |some (.sv (.bx d _)),K,_=>Nat.beq (2*d+1) K
 |some (.sv (.rp d _ _)),K,_=>Nat.beq (2*d+1) K
 |some (.sv (.al d id)),K,j=>Nat.beq (2*d) K&&Nat.beq id j
 |some (.sv (.at d id _ _ _)),K,j=>Nat.beq (2*d) K&&Nat.beq id j
 |_,_,_=>false
theorem pts_leads{y:SV}{K j:Nat}(h:pts y K j):leads (some (.sv y)) K j=true:=by cases y<;>simp[pts,leads]at h ⊢<;>simp[h]
def y4:St→Nat×Nat→Bool
 |[],_=>true
 |(_,c)::l,K=>bif leads c K.1 K.2 then false else y4 l K
theorem wPH{st:St}{K:Nat×Nat}(h:y4 st K=true){q:Nat}{y:SV}(hm:(q,some (.sv y))∈st):¬pts y K.1 K.2:=by
 induction st with
 |nil=>cases hm
 |cons p st ih=>grind [y4,pts_leads,leads]
theorem wT4{st:St}{K:Nat×Nat}(h:y4 st K=true):wC6 (lk st) K.1 K.2:=fun _ _ e=>wPH h (wBD e)
def meets(a b:List Nat):Bool:=a.any fun x=>b.any fun y=>Nat.beq x y
theorem wVE{a b:List Nat}{q:Nat}(h1:q∈a)(h2:q∈b):meets a b=true:=by unfold meets;rw[dZ];exact⟨q,h1,by simp_all⟩
def wIE(x y:Stp):Bool:=meets (keys x.u) y.rd||meets (keys x.u) (keys y.u)||meets x.rd (keys y.u)
def subN(a b:List Nat):Bool:=a.all fun x=>b.any fun y=>Nat.beq x y
theorem subN_of{a b:List Nat}(h:subN a b=true){q:Nat}(hq:q∈a):q∈b:=by simp_all [subN,List.all_eq_true,List.any_eq_true,Nat.eq_of_beq_eq_true]
def ptsOk(rd:List Nat):St→Bool
 |[]=>true
 |(_,c)::l=>(match ptK c with|some k=>rd.any fun y=>Nat.beq k y|none=>true)&&ptsOk rd l
theorem ptsOk_spec{rd:List Nat}{u:St}(h:ptsOk rd u=true){q:Nat}{y:SV}{K j:Nat}(hm:(q,some (.sv y))∈u)(hp:pts y K j):K∈rd:=by
 induction u with
 |nil=>cases hm
 |cons p u ih=>
  obtain⟨k,c⟩:=p;simp only[ptsOk,Bool.and_eq_true]at h;rcases pS.1 hm with e|hm
  ·cases e;have:=h.1;rw[pts_ptK hp]at this;obtain⟨y,hy,e⟩:=dZ.1 this;rw[pV e];exact hy
  simp_all
def wN3(ops:Array Oper)(l:List Stp):Bool:=
 let T:=wG9 ops.toList 0 .lf
 y7 (fun i=>match ops[i]?,l[i]? with
  | some o,some x=>wJD i o.after.toList&&ptsOk x.rd x.u&&subN (x.nw.map (·.1)) (keys x.u)&&y7 (fun j=>match l[j]? with
    |some y=>Nat.testBit ((T.get i).getD 0) j||!wIE y x
    |none=>false) i
  |_,_=>false) ops.size
section
variable{P:Program}{w0:Base}{n:Nat}{ops:Array Oper}
def wQF(P:Program)(w0:Base)(n:Nat)(ops:Array Oper)(k:Nat)(s:Stp)(st:Fm):Prop:=
 ∀f:Fm,(∀j∈s.rd,f j=st j)→(∀K∈s.nw,wC6 f K.1 K.2)→∀(a:Act)(w:World),Hs w0 n f a w→∀(K:Act→World→Prop)(Q:Exit→Act→World→Prop),(∀a' w',Hs w0 n (app s.u f) a' w'→K a' w')→wpOp P ops Q k K a w
def FL(s:Nat→Stp)(f0:Fm)(L:Nat→Bool):Nat→Fm
 |0=>f0
 |k+1=>if L k then app (s k).u (FL s f0 L k)else FL s f0 L k
variable{s:Nat→Stp}{f0:Fm}{L:Nat→Bool}
theorem FL_all{q:Nat}:∀i,(∀j,j<i→q∈keys (s j).u→L j=true)→FL s f0 L i q=FL s f0 (fun _=>true) i q
 |0,_=>rfl
 |i+1,h=>by
  have ih:=FL_all i fun j hj=>h j (by omega);simp only[FL,if_true];by_cases hq:q∈keys (s i).u
  ·rw[if_pos (h i (by omega) hq)];exact app_in hq
  grind [wB3]
theorem qF7{q i:Nat}:∀k,(∀j,i≤j→j<i+k→L j=true→q ∉ keys (s j).u)→FL s f0 L (i+k) q=FL s f0 L i q
 |0,_=>rfl
 |k+1,h=>by
  have ih:=qF7 k fun j h1 h2=>h j h1 (by omega);rw[←ih];show FL s f0 L (i+k+1) q=_;simp only[FL]
  grind [wB3]
theorem FL_mem{q:Nat}{c:Cell}:∀k,FL s f0 L k q=some c→(∃j,j<k∧L j=true∧(q,some c)∈(s j).u)∨f0 q=some c
 |0,h=>.inr h
 | k+1,h=>by
  simp only[FL]at h;split at h
  ·rename_i hL;rcases qF6 h with h|h
   ·grind
   ·rcases FL_mem k h with⟨j,a,b,c⟩|h
    ·exact .inl ⟨j,by omega,b,c⟩
    simp_all
  ·rcases FL_mem k h with⟨j,a,b,c⟩|h
   ·exact .inl ⟨j,by omega,b,c⟩
   simp_all
theorem qKA{L':Nat→Bool}{q:Nat}:∀k,(∀j,j<k→q∈keys (s j).u→L' j=L j)→FL s f0 L' k q=FL s f0 L k q
 |0,_=>rfl
 |k+1,h=>by
  have ih:=qKA k fun j hj=>h j (by omega);simp only[FL]
  grind [keys,app_in,app,FL,wB3]
structure Traced(P:Program)(w0:Base)(n:Nat)(ops:Array Oper)(s:Nat→Stp)(S:Nat→St):Prop where
 ok:∀i,i<ops.size→wQF P w0 n ops i (s i) (lk (S i))
 np:∀i,i<ops.size→∀K∈(s i).nw,y4 (S i) K=true
 nx:∀i,i<ops.size→S (i+1)=(s i).u++S i
variable{S:Nat→St}
theorem Traced.fl(h:Traced P w0 n ops s S):∀i,i≤ops.size→FL s (lk (S 0)) (fun _=>true) i=lk (S i)
 |0,_=>rfl
 |i+1,hi=>by simp only[FL,if_true];rw[h.fl i (by omega),h.nx i (by omega),zN]
theorem Traced.sub(h:Traced P w0 n ops s S){p:Nat×Option Cell}:∀i,i≤ops.size→(p∈S 0∨∃j,j<i∧p∈(s j).u)→p∈S i
 |0,_,hp=>by simp_all
 | i+1,hi,hp=>by
  rw[h.nx i (by omega)];rcases hp with hp|⟨j,hj,hp⟩
  ·exact cH _ (h.sub i (by omega) (.inl hp))
  ·by_cases e:j=i
   ·simp_all
   ·exact cH _ (h.sub i (by omega) (.inr ⟨j,by omega,hp⟩))
theorem Traced.seq(h:Traced P w0 n ops s S){Q:Exit→Act→World→Prop}(hQ:∀a w,Hs w0 n (lk (S ops.size)) a w→Q .normal a w):∀k i,i+k=ops.size→∀a w,Hs w0 n (lk (S i)) a w→wpOps P ops Q (List.range' i k) a w
 |0,i,hi,a,w,hh=>by
  simp only[List.range'_zero,wpOps];obtain rfl:i=ops.size:=by omega
  exact hQ a w hh
 |k+1,i,hi,a,w,hh=>by rw[pE0,wpOps_cons];refine h.ok i (by omega) (lk (S i)) (fun _ _=>rfl) (fun K hK=>wT4 (h.np i (by omega) K hK)) a w hh _ Q fun a' w' h'=>?_;rw[←zN,←h.nx i (by omega)]at h';exact h.seq hQ k (i+1) (by omega) a' w' h'
theorem xD{l:List Stp}(h:wN3 ops l=true){i:Nat}(hi:i<ops.size):∃o x,ops[i]? = some o∧l[i]? = some x∧(∀e∈o.after,Region.binds .any e=true→e.on<i)∧ptsOk x.rd x.u=true∧subN (x.nw.map (·.1)) (keys x.u)=true ∧
  ∀j,j<i→∃y,l[j]? = some y∧((((wG9 ops.toList 0 .lf).get i).getD 0).testBit j=true∨wIE y x=false):=by
 have:=xG h i hi;split at this
 ·rename_i o x ho hx;simp only[Bool.and_eq_true]at this;obtain⟨⟨⟨a,b⟩,c⟩,d⟩:=this;refine⟨o,x,ho,hx,?_,b,c,fun j hj=>?_⟩
  ·intro e he hb;exact wAE a e (by simpa using he) hb
  ·have:=xG d j hj;split at this
   ·rename_i y hy;refine⟨y,hy,?_⟩;simp only[Bool.or_eq_true,Bool.not_eq_true']at this;exact this
   ·cases this
 simp_all
theorem Traced.any(h:Traced P w0 n ops s S){l:List Stp}(hl:∀i,i<ops.size→l[i]? = some (s i))(hc:wN3 ops l=true){Q:Exit→Act→World→Prop}(hQ:∀a w,Hs w0 n (lk (S ops.size)) a w→Q .normal a w) :
  ∀(fuel:Nat)(listed:Array Bool)(r:List Nat)(L:Nat→Bool),listed.size=ops.size→r.length≤fuel→(∀i,i<ops.size→listed.getD i false=false→i∈r)→(∀i,i<ops.size→L i=listed.getD i false)→
   (∀i o,i<ops.size→L i=true→ops[i]? = some o→∀e∈o.after,Region.binds .any e=true→L e.on=true)→∀a w,Hs w0 n (FL s (lk (S 0)) L ops.size) a w→wpAny P .any ops Q fuel listed a w:=by
 have hmem:∀{listed:Array Bool}{i:Nat},i∈Region.ready .any ops listed↔listed.getD i true=false∧∃o,ops[i]? = some o∧∀e∈o.after,Region.binds .any e=true→listed.getD e.on false=true:=by
  intro listed i;unfold Region.ready;simp only[List.mem_filter,List.mem_range,Bool.and_eq_true,Bool.not_eq_true'];constructor
  ·rintro⟨h1,h2,h3⟩;refine⟨h2,ops[i],cZ h1,fun e he hb=>?_⟩;rw[cZ h1]at h3;simp only[Option.map_some,Option.getD_some]at h3;have:=Array.all_eq_true'.1 h3 e he;simpa[hb]using this
  grind
 have least:∀(listed:Array Bool),listed.size=ops.size→Region.ready .any ops listed=[]→∀i,i<ops.size→listed.getD i false=true:=by
  intro listed hsz hnil i
  induction i using Nat.strongRecOn with
  |_ i ih=>grind [xD,Region.ready,Array.getD_eq_getD_getElem?,Array.getElem?_eq_getElem]
 have done:∀(listed:Array Bool)(L:Nat→Bool),listed.size=ops.size→(∀i,i<ops.size→L i=listed.getD i false)→Region.ready .any ops listed=[]→∀a w,Hs w0 n (FL s (lk (S 0)) L ops.size) a w→Q .normal a w:=by
  intro listed L hsz hL hnil a w hh;refine hQ a w ?_;rw[←h.fl ops.size (pC _)]
  have:FL s (lk (S 0)) L ops.size=FL s (lk (S 0)) (fun _=>true) ops.size:=by funext q;exact FL_all _ fun j hj _=>by rw[hL j hj];exact least listed hsz hnil j hj
  simp_all
 intro fuel
 induction fuel with
 | zero=>
  intro listed r L hsz hlen hleft hL hcl a w hh;have hr:r=[]:=List.length_eq_zero_iff.1 (by omega);subst hr;have hall:∀i,i<ops.size→listed.getD i false=true:=fun i hi=>by simp_all
  have hnil:Region.ready .any ops listed=[]:=by
   cases hr:Region.ready .any ops listed with
   |nil=>rfl
   |cons i xs=>
    have hi:i∈Region.ready .any ops listed:=by rw[hr];exact pQ ..
    grind
  exact⟨hnil,done listed L hsz hL hnil a w hh⟩
 | succ fuel ih=>
  intro listed r L hsz hlen hleft hL hcl a w hh;refine⟨fun hnil=>done listed L hsz hL hnil a w hh,fun i hi=>?_⟩;obtain⟨hun,o,ho,hready⟩:=hmem.1 hi;have hin:i<ops.size:=(pU.1 ho).1;have hilt:i<listed.size:=by omega
  have hfalse:listed.getD i false=false:=by rw[mU,cZ hilt]at hun ⊢;exact hun
  have hLi:L i=false:=by rw[hL i hin];exact hfalse
  obtain⟨o',x,ho',hx,hedge,hpts,hmk,hconf⟩:=xD hc hin;rw[ho]at ho';cases ho';have hxs:x=s i:=by have:=hl i hin;rw[hx]at this;cases this;rfl
  subst hxs
  have hclosed:Closed ops (fun j=>L j=true∧j<ops.size):=by intro j oj hj hoj e he hb;refine⟨hcl j oj hj.2 hj.1 hoj e he hb,?_⟩;obtain⟨o2,_,ho2,_,hedge2,_⟩:=xD hc hj.2;rw[hoj]at ho2;cases ho2;have:=hedge2 e he hb;omega
  have hrdy:Ready ops (fun j=>L j=true∧j<ops.size) i:=by intro oi hoi e he hb;rw[ho]at hoi;cases hoi;have h1:=hready e he hb;have h2:=hedge e he hb;exact⟨by rw[hL e.on (by omega)];exact h1,by omega⟩
  have hfirst:∀j,j<i→wIE (s j) (s i)=true→L j=true:=by
   intro j hj hcf;obtain⟨y,hy,hor⟩:=hconf j hj
   have:y=s j:=by have:=hl j (by omega);rw[hy]at this;cases this;rfl
   subst this;rcases hor with hb|hb
   ·exact(wOE hclosed hrdy hb).1
   ·rw[hcf]at hb;cases hb
  have hlater:∀j,i<j→j<ops.size→L j=true→wIE (s i) (s j)=false:=by
   intro j hj hjn hLj;cases hcf:wIE (s i) (s j)with
   |false=>rfl
   | true=>
    exfalso;obtain⟨oj,xj,hoj,hxj,_,_,_,hcj⟩:=xD hc hjn;obtain⟨y,hy,hor⟩:=hcj i hj;have e1:y=s i:=by rw[hx]at hy;cases hy;rfl
    have e2:xj=s j:=by have:=hl j hjn;rw[hxj]at this;cases this;rfl
    subst e1 e2;rcases hor with hb|hb
    ·have hrj:Ready ops (fun j=>L j=true∧j<ops.size) j:=by
      intro o2 ho2 e he hb2;exact hclosed j o2 ⟨hLj,hjn⟩ ho2 e he hb2
     have:=(wOE hclosed hrj hb).1;rw[hLi]at this;cases this
    ·rw[hcf]at hb;cases hb
  have c1:∀{x y:Stp}{q:Nat},q∈keys x.u→q∈y.rd→wIE x y=true:=fun h1 h2=>by simp[wIE,wVE h1 h2]
  have c2:∀{x y:Stp}{q:Nat},q∈keys x.u→q∈keys y.u→wIE x y=true:=fun h1 h2=>by simp[wIE,wVE h1 h2]
  have c3:∀{x y:Stp}{q:Nat},q∈x.rd→q∈keys y.u→wIE x y=true:=fun h1 h2=>by simp[wIE,wVE h1 h2]
  have hN:ops.size=i+(ops.size-i):=by omega
  have hagree:∀q∈(s i).rd,FL s (lk (S 0)) L ops.size q=lk (S i) q:=by
   intro q hq;rw[←h.fl i (by omega),←FL_all (L:=L) i (fun j hj hk=>hfirst j hj (c1 hk hq)),hN];refine qF7 _ fun j h1 h2 h3 hk=>?_;rcases Nat.lt_or_eq_of_le h1 with h1|h1
   ·have:=hlater j h1 (by omega) h3;rw[c3 hq hk]at this;cases this
   ·subst h1;rw[hLi]at h3;cases h3
  have hnop:∀K∈(s i).nw,wC6 (FL s (lk (S 0)) L ops.size) K.1 K.2:=by
   intro K hK d y e hp;have hKu:=subN_of hmk (gA (f:=(·.1)) hK);have hno:=h.np i hin K hK;rcases FL_mem _ e with⟨j,hj,hLj,hm⟩|e
   ·rcases pA4 j i with hji|hji|hji
    ·exact wPH hno (h.sub i (by omega) (.inr ⟨j,hji,hm⟩)) hp
    ·subst hji;rw[hLi]at hLj;cases hLj
    ·obtain⟨oj,xj,hoj,hxj,_,hpj,_⟩:=xD hc hj;have e2:xj=s j:=by have:=hl j hj;rw[hxj]at this;cases this;rfl
     subst e2;have:=hlater j hji hj hLj;rw[c1 hKu (ptsOk_spec hpj hm hp)]at this;cases this
   ·exact wPH hno (h.sub i (by omega) (.inl (wBD e))) hp
  refine h.ok i hin _ hagree hnop a w hh _ Q fun a' w' h'=>?_;have hget:∀j,(listed.setIfInBounds i true).getD j false=if j=i then true else listed.getD j false:=by
   intro j;by_cases hji:j=i
   ·subst hji;rw[if_pos rfl];simp[hilt]
   ·rw[if_neg hji];simp only[Array.getD_eq_getD_getElem?,Array.getElem?_setIfInBounds_ne (Ne.symm hji)]
  have hfl:app (s i).u (FL s (lk (S 0)) L ops.size)=FL s (lk (S 0)) (fun j=>if j=i then true else L j) ops.size:=by
   funext q;by_cases hq:q∈keys (s i).u
   ·have e1:FL s (lk (S 0)) (fun j=>if j=i then true else L j) ops.size q=FL s (lk (S 0)) (fun j=>if j=i then true else L j) (i+1) q:=by
     rw[show ops.size=i+1+(ops.size-(i+1)) by omega];refine qF7 _ fun j h1 h2 h3 hk=>?_;simp only[if_neg (show ¬j=i by omega)]at h3;have:=hlater j (by omega) (by omega) h3;rw[c2 hq hk]at this;cases this
    rw[e1];simp only[FL,if_true];exact app_in hq
   ·rw[wB3 hq];refine(qKA _ fun j hj hk=>?_).symm;by_cases hji:j=i
    ·subst hji;exact absurd hk hq
    ·rw[if_neg hji]
  rw[hfl]at h';refine ih (listed.setIfInBounds i true) (r.erase i) (fun j=>if j=i then true else L j) (by simpa using hsz) ?_ ?_ ?_ ?_ a' w' h'
  ·rw[List.length_erase_of_mem (hleft i hin hfalse)];omega
  ·intro j hj hjf;rw[hget]at hjf;by_cases hji:j=i
   ·rw[if_pos hji]at hjf;cases hjf
   ·rw[if_neg hji]at hjf;exact(List.mem_erase_of_ne hji).2 (hleft j hj hjf)
  ·intro j hj;rw[hget];by_cases hji:j=i
   ·simp[hji]
   ·simp[hji,hL j hj]
  grind
end
abbrev vH:=Exit→St→Prop
def kq(w0:Base)(n:Nat)(Q:vH):Exit→Act→World→Prop:=fun e a w=>∃st,Q e st∧Hs w0 n (lk st) a w
def Wd(w0:Base):Fence:={ Fence.wide with round:=w0.ro }
def VW(P:Program)(w0:Base)(n:Nat)(c:Code)(Q:vH)(st:St):Prop:=∀a w,Hs w0 n (lk st) a w→c.wpIn (Wd w0) 0 P (kq w0 n Q) a w
theorem wF2{P:Program}{w:World}{r:Nat}{o:Obj}(o':Obj)(ho:∀c e f,o≠.cells c e f)(hb:w.heap[r]? = some o):(setObj r o').run P w=.ok () { w with heap:=w.heap.setIfInBounds r o' }:=by cases o<;>first|exact absurd rfl (ho _ _ _)|simp[setObj,Sem.run,hb]
theorem wB8{P:Program}{w:World}{r:Nat}{o:Obj}(ho:∀c e f,o≠.cells c e f)(hb:w.heap[r]? = some o):(getObj r).run P w=.ok o w:=by cases o<;>first|exact absurd rfl (ho _ _ _)|simp[getObj,Sem.run,hb]
theorem xP{P:Program}{b:Frame}{a:Act}{k:List Item}{cs:List Frame}{w:World}{c:Code}:step P (lone (b.atR a (.code (.scope c)::k)) cs w)=.next (lone (b.atR a (.code c::.inScope c::k)) cs w):=
 step_lone_go (by rfl)
theorem wY8{P:Program}{b:Frame}{a:Act}{k:List Item}{cs:List Frame}{w:World}{c:Code}:step P (lone (b.atR a (.inScope c::k)) cs w)=.next (lone (b.atR a k) cs w):=
 step_lone_go (by rfl)
theorem wJI{P:Program}{F:Fence}{n:Nat}{Q:Exit→Act→World→Prop}{a:Act}{w:World}{c:Code}(h:c.wpIn F n P (Exit.noGoto Q) a w):(Code.scope c).wpIn F n P Q a w:=by
 intro b k cs hro hb hr;have h0:(lone (b.atR a (.code (.scope c)::k)) cs w).fenced P F:=fenced_calm hb hr rfl;obtain⟨e,a₁,w₁,hq,harr⟩:=h b (.inScope c::k) cs hro hb hr;have hx:∀id,exitTo id (.inScope c::k)=exitTo id k:=fun id=>by rfl
 cases e with
 |normal=>exact⟨.normal,a₁,w₁,hq,.head h0 xP (StepsIn.trans harr (.one (fenced_calm hb hr rfl) wY8))⟩
 |exit id=>exact⟨.exit id,a₁,w₁,hq,fun k' hk=>.head h0 xP (harr.1 k' (by simp_all)),fun hr' hk=>let⟨k₁,h1,h2⟩:=harr.2 hr' (by simp_all);⟨k₁,h1,.head h0 xP h2⟩⟩
 |goto l=>exact hq.elim
 |ret=>exact⟨_,a₁,w₁,hq,.of_steps (.one h0 xP) harr⟩
 |panic ch=>exact⟨_,a₁,w₁,hq,.of_steps (.one h0 xP) harr⟩
 |outgrown=>exact⟨_,a₁,w₁,hq,.of_steps (.one h0 xP) harr⟩
def wT5(o:Oper):Bool:=
 match o.op with
 |.defer _=>false
 |_=>true
def wBC(ops:Array Oper):Bool:=ops.toList.all wT5
section
variable{P:Program}{F:Fence}{Q:Exit→Act→World→Prop}
theorem wXD{ro:Option Nat}{n:Nat}{f:FuncId}{args:Array Value}{w:World}{R:Ending→World→Prop}(h:Calls P f args w R):CallsIn { Fence.wide with round:=ro } n P f args w R:=(callsIn_wide (n:=n)).2 h
theorem wTE{ro:Option Nat}(x:Option FuncId):∀f,x=some f→Fence.fn { Fence.wide with round:=ro } f:=fun _ _=>trivial
theorem rows_wd{ro:Option Nat}{n:Nat}{row:String}{args:Array Value}{w:World}{R:Value→World→Prop}(h:Rows P row args w R):RowsIn { Fence.wide with round:=ro } n P row args w R:=fun c cs _=>by obtain⟨v,w',r,s⟩:=h c cs;exact⟨v,w',r,stepsIn_wide.2 s⟩
theorem oper_wd{ro:Option Nat}{n:Nat}{o:Oper}{a:Act}{w:World}{K:Act→World→Prop}(hd:wT5 o=true)(h:o.wp P a w K Q):o.wpIn { Fence.wide with round:=ro } n P a w K Q:=by
 refine⟨wTE _,?_⟩;rw[Oper.semAt_eq _ _ _ (fun c e=>by simp_all [wT5])];unfold Oper.wp at h;generalize (execOp a.eval o).run P w=r at h ⊢;cases r with
 |ok x w'=>
  cases x with
  |value v=>exact h
  |skip=>exact h
  |defer d=>exact h
  |enter f args=>exact⟨(fun h=>by cases h),wXD h⟩
  |row row args=>exact⟨(fun h=>by cases h),rows_wd h⟩
  |round l f tmps assign body=>exact h.elim
  |_=>exact h.elim
 |halt x w'=>cases x<;>first|exact h|exact h.elim
theorem qBD{ro:Option Nat}{n:Nat}{ops:Array Oper}(hd:wBC ops=true)(hQ:¬LetsOut Q){i:Nat}{K:Act→World→Prop}{a:Act}{w:World}(h:wpOp P ops Q i K a w):wpOpIn { Fence.wide with round:=ro } n P ops Q i K a w:=by
 unfold wpOp at h;unfold wpOpIn;cases ho:ops[i]? with
 |none=>simp_all
 | some o=>
  rw[ho]at h;dsimp only at h ⊢;have hdo:wT5 o=true:=mD.1 hd o (by grind)
  split
  ·simp_all [if_pos,oper_wd,absurd]
  ·rename_i hw;rw[if_neg hw]at h;exact⟨wTE _,h⟩
theorem qF9{ro:Option Nat}{n:Nat}{ops:Array Oper}(hd:wBC ops=true)(hQ:¬LetsOut Q):∀(l:List Nat)(a:Act)(w:World),wpOps P ops Q l a w→wpOpsIn { Fence.wide with round:=ro } n P ops Q l a w
 |[],_,_,h=>h
 |i::l,a,w,h=>by rw[wpOps_cons]at h;rw[wpOpsIn_cons];exact wpOpIn_mono (fun a w=>qF9 hd hQ l a w) (qBD hd hQ h)
theorem qFA{ro:Option Nat}{n:Nat}{md:Region.Mode}{ops:Array Oper}(hd:wBC ops=true)(hQ:¬LetsOut Q):∀(fuel:Nat)(listed:Array Bool)(a:Act)(w:World),wpAny P md ops Q fuel listed a w→wpAnyIn { Fence.wide with round:=ro } n P md ops Q fuel listed a w
 |0,_,_,_,h=>h
 |fuel+1,listed,a,w,h=>⟨h.1,fun i hi=>wpOpIn_mono (fun a w=>qFA hd hQ fuel _ a w) (qBD hd hQ (h.2 i hi))⟩
end
def thenV(next:St→Prop)(Q:vH):vH
 |.normal,st=>next st
 |e,st=>Q e st
def qIB(id:Nat)(Q:vH):vH
 |.exit id',st=>if id'=id then Q .normal st else Q (.exit id') st
 |e,st=>Q e st
def same:Option Cell→Option Cell→Prop
 |some (.sv (.own _ T k es)),c=>∃id,c=some (.sv (.own id T k es))
 |c,d=>d=c
def sub:St→Fm→Prop
 |[],_=>True
 |(k,c)::l,f=>same c (f k)∧sub l f
def flat:St→Bool
 |[]=>true
 |(_,some (.sv (.al _ _)))::_=>false
 |(_,some (.sv (.at _ _ _ _ _)))::_=>false
 |_::l=>flat l
section
variable{P:Program}{C:Cx}{w0:Base}{n:Nat}{Q:vH}{st:St}
theorem wDC{t:St}{f:Fm}(h:sub t f){k:Nat}{c:Cell}(e:lk t k=some c):same (some c) (f k):=by
 induction t with
 |nil=>cases e
 |cons p t ih=>
  obtain⟨q,x⟩:=p;simp only[lk]at e;by_cases hk:q=k
  ·subst hk;simp at e;subst e;exact h.1
  ·rw[wC0 hk]at e;exact ih h.2 e
theorem yO{t:St}(h:flat t=true){k:Nat}{c:Cell}(e:(k,some c)∈t):(∀d id,c≠.sv (.al d id))∧∀d id q i off,c≠.sv (.at d id q i off):=by
 induction t with
 |nil=>cases e
 | cons p t ih=>
  obtain⟨q,x⟩:=p;have h':flat t=true:=by
   unfold flat at h;split at h
   ·rename_i he;cases he
   ·cases h
   ·cases h
   ·rename_i he;cases he;exact h
  rcases pS.1 e with e|e
  ·cases e;refine⟨?_,?_⟩
   ·rintro d id rfl;cases h
   ·rintro d id q i off rfl;cases h
  simp_all
theorem Hs.sub{t:St}{f:Fm}{a:Act}{w:World}(h:Hs w0 n f a w)(hs:sub t f)(hfl:flat t=true):Hs w0 n (lk t) a w:=by
 obtain⟨β,h⟩:=h;refine⟨β,h.size,h.dfr,h.bel,h.inj,h.rng,h.sp,h.spk,h.od,fun e d id T k es e1 e2=>absurd rfl ((yO hfl (wBD e1)).1 d id),fun e d id k i off T es B e1 e2 e3=>absurd rfl ((yO hfl (wBD e1)).2 d id k i off),fun d x e=>?_,fun d cs e=>?_,fun d T k L e=>h.fm d T k L (wDC hs e)⟩
 ·have:=wDC hs e;cases x with
  |own id T k es=>obtain⟨id',e'⟩:=this;have q:=h.slot d _ e';exact q
  |_=>exact h.slot d _ this
 ·exact h.box d cs (wDC hs e)
theorem VW.less{c:Code}{t:St}(h:VW P w0 n c Q t)(hs:Vl.sub t (lk st))(hfl:flat t=true):VW P w0 n c Q st:=fun a w hh=>h a w (hh.sub hs hfl)
theorem vw_seq{x y:Code}(h:VW P w0 n x (thenV (fun st'=>VW P w0 n y Q st') Q) st):VW P w0 n (.seq x y) Q st:=fun a w hh=>wpIn_seq (wpIn_mono (h a w hh) fun e a w hq=>by obtain⟨st',h1,h2⟩:=hq;cases e<;>first|exact h1 a w h2|exact⟨st',h1,h2⟩)
theorem vw_cond{c:Operand}{x y:Code}{b:Bool}(hc:opv (lk st) c=some (.v (.bool b)))(ht:b=true→VW P w0 n x Q st)(hf:b=false→VW P w0 n y Q st):VW P w0 n (.cond c x y) Q st:=fun a w hh=>by
 obtain⟨β,hb⟩:=hh;have hv:=hb.val hc;have he:a.eval c=.bool b:=by generalize a.eval c=u at hv;cases hv;rfl
 cases b with
 |true=>exact wpIn_cond_true he (ht rfl a w ⟨β,hb⟩)
 |false=>exact wpIn_cond_false he (hf rfl a w ⟨β,hb⟩)
theorem vw_block{id:Nat}{c:Code}(h:VW P w0 n c (qIB id Q) st):VW P w0 n (.block id c) Q st:=fun a w hh=>
 wpIn_block (wpIn_mono (h a w hh) fun e a w hq=>by
  obtain⟨st',h1,h2⟩:=hq;cases e with
  |exit id'=>
   simp only[qIB]at h1;simp only[Exit.inBlock];split
   ·rename_i hid;rw[if_pos hid]at h1;exact⟨st',h1,h2⟩
   ·rename_i hid;rw[if_neg hid]at h1;exact⟨st',h1,h2⟩
  |_=>exact⟨st',h1,h2⟩)
theorem vw_exit{id:Nat}(h:Q (.exit id) st):VW P w0 n (.exit id) Q st:=fun _ _ hh=>wpIn_exit ⟨st,h,hh⟩
theorem vw_ret(h:Q .ret st):VW P w0 n .ret Q st:=fun _ _ hh=>wpIn_ret ⟨st,h,hh⟩
theorem vw_skip(h:Q .normal st):VW P w0 n .skip Q st:=fun _ _ hh=>wpIn_skip ⟨st,h,hh⟩
theorem vw_label{l:Nat}(h:Q .normal st):VW P w0 n (.label l) Q st:=fun _ _ hh=>wpIn_label ⟨st,h,hh⟩
theorem vw_scope{c:Code}(h:VW P w0 n c (fun e st=>(∀l,e≠.goto l)∧Q e st) st):VW P w0 n (.scope c) Q st:=fun a w hh=>wJI (wpIn_mono (h a w hh) fun e a w hq=>by obtain⟨st',⟨h0,h1⟩,h2⟩:=hq;cases e<;>first|exact⟨st',h1,h2⟩|simp_all)
theorem qF8{F:Fence}{m0:Nat}{c:Code}{Q:Exit→Act→World→Prop}{a:Act}{w:World}(I:Act→World→Nat→Prop)(h₀:∃m,I a w m)(round:∀a w m,I a w m→c.wpIn F m0 P (Exit.then (fun a' w'=>∃m',m'<m∧I a' w' m') Q) a w):(Code.loop c).wpIn F m0 P Q a w:=by
 intro b k cs hro hb hr;have key:∀m a w,I a w m→∃e a' w',Q e a' w'∧ArrivesIn (Machine.fenced P F) P (lone (b.atR a (.code c::.inLoop c::k)) cs w) b k cs e a' w':=by
  intro m
  induction m using Nat.strongRecOn with
  | _ m ih=>
   intro a w hI;obtain⟨e,a₁,w₁,hq,harr⟩:=round a w m hI b (.inLoop c::k) cs hro hb hr;cases e with
   |normal=>obtain⟨m',hlt,hI₁⟩:=hq;obtain⟨e₂,a₂,w₂,hq₂,harr₂⟩:=ih m' hlt a₁ w₁ hI₁;exact⟨e₂,a₂,w₂,hq₂,.of_steps (StepsIn.trans harr (.one (fenced_calm hb hr rfl) stepR_inLoop)) harr₂⟩
   |exit id=>exact⟨_,a₁,w₁,hq,.pass (x:=.inLoop c) rfl (fun _ _=>.inl (by simp)) harr⟩
   |goto l=>exact⟨_,a₁,w₁,hq,.pass (x:=.inLoop c) rfl (fun _ _=>.inl (by simp)) harr⟩
   |ret=>exact⟨_,a₁,w₁,hq,.pass (x:=.inLoop c) rfl (fun _ _=>.inl (by simp)) harr⟩
   |panic ch=>exact⟨_,a₁,w₁,hq,.pass (x:=.inLoop c) rfl (fun _ _=>.inl (by simp)) harr⟩
   |outgrown=>exact⟨_,a₁,w₁,hq,.pass (x:=.inLoop c) rfl (fun _ _=>.inl (by simp)) harr⟩
 obtain⟨m,h₀⟩:=h₀;obtain⟨e,a',w',hq,harr⟩:=key m a w h₀;exact⟨e,a',w',hq,.of_steps (.one (fenced_calm hb hr rfl) stepR_loop) harr⟩
theorem qC{c:Code}{B:Type}(T:B→St)(I:B→Prop)(μ:B→Nat)(b0:B)(hfl:∀b,flat (T b)=true)(h0:I b0)(hs:sub (T b0) (lk st))(h:∀b,I b→VW P w0 n c (thenV (fun st'=>∃b',I b'∧μ b'<μ b∧sub (T b') (lk st')) Q) (T b)):VW P w0 n (.loop c) Q st:=fun a w hh=>
 qF8 (fun a w m=>∃b,I b∧μ b=m∧Hs w0 n (lk (T b)) a w) ⟨_,b0,h0,rfl,hh.sub hs (hfl _)⟩ fun a w m ⟨b,hI,hm,hb⟩=>wpIn_mono (h b hI a w hb) fun e a w hq=>by
  obtain⟨st',h1,h2⟩:=hq;cases e with
  |normal=>obtain⟨b',g1,g2,g3⟩:=h1;exact⟨μ b',by omega,b',g1,rfl,h2.sub g3 (hfl _)⟩
  |_=>exact⟨st',h1,h2⟩
inductive Tr(P:Program)(w0:Base)(n:Nat)(ops:Array Oper)(st0:St):Nat→List Stp→St→Prop
 |nil:Tr P w0 n ops st0 0 [] st0
 |snoc {k:Nat} {acc:List Stp} {st:St} {x:Stp} (h:Tr P w0 n ops st0 k acc st) (h1:wQF P w0 n ops k x (lk st)) (h2:∀K∈x.nw,y4 st K=true):Tr P w0 n ops st0 (k+1) (x::acc) (x.u++st)
theorem Tr.len{ops:Array Oper}{st0 st:St}{k:Nat}{acc:List Stp}(h:Tr P w0 n ops st0 k acc st):acc.length=k:=by
 induction h with
 |nil=>rfl
 |snoc _ _ _ ih=>grind
theorem Tr.fns{ops:Array Oper}{st0 st:St}{k:Nat}{acc:List Stp}(h:Tr P w0 n ops st0 k acc st):∃(s:Nat→Stp)(S:Nat→St),(∀i,i<k→acc.reverse[i]? = some (s i))∧S 0=st0∧S k=st ∧
  (∀i,i<k→wQF P w0 n ops i (s i) (lk (S i)))∧(∀i,i<k→∀K∈(s i).nw,y4 (S i) K=true)∧(∀i,i<k→S (i+1)=(s i).u++S i):=by
 induction h with
 |nil=>exact⟨fun _=>⟨[],[],[]⟩,fun _=>st0,by simp,rfl,rfl,by simp,by simp,by simp⟩
 | @snoc k acc st x h h1 h2 ih=>
  obtain⟨s,S,a1,a2,a3,a4,a5,a6⟩:=ih;have hl:=h.len;obtain⟨s',b1,b2⟩:∃s':Nat→Stp,s' k=x∧∀i,i≠k→s' i=s i:=⟨fun i=>if i=k then x else s i,by simp,fun i hi=>by grind⟩
  obtain⟨S',c1,c2⟩:∃S':Nat→St,S' (k+1)=x.u++st∧∀i,i≠k+1→S' i=S i:=⟨fun i=>if i=k+1 then x.u++st else S i,by simp,fun i hi=>by grind⟩
  refine⟨s',S',fun i hi=>?_,by simp_all,c1,fun i hi=>?_,fun i hi=>?_,fun i hi=>?_⟩
  ·rw[List.reverse_cons];by_cases e:i=k
   ·subst e;rw[b1,cC (by simp[hl])];simp[hl]
   grind
  ·by_cases e:i=k
   ·simp_all
   ·rw[b2 i e,c2 i (by omega)]
    grind
  ·by_cases e:i=k
   ·simp_all
   ·rw[b2 i e,c2 i (by omega)]
    grind
  ·by_cases e:i=k
   ·simp_all
   ·rw[b2 i e,c2 (i+1) (by omega),c2 i (by omega)]
    grind
theorem HB.drew{β:Bl}{f:Fm}{a:Act}{w:World}(h:HB w0 n β f a w):HB w0 n β f a { w with drawn:=w.drawn+1 }:=h.grow (Below.refl _ w).drew
def RR(P:Program)(w0:Base)(n:Nat)(id:Nat)(ops:Array Oper)(dr:Bool)(Q:vH)(st0:St)(k:Nat)(acc:List Stp)(st:St):Prop:=
 Tr P w0 n ops st0 k acc st→VW P w0 n (.region id ops dr) Q st0
theorem vw_region{id:Nat}{ops:Array Oper}{dr:Bool}(h:RR P w0 n id ops dr Q st 0 [] st):VW P w0 n (.region id ops dr) Q st:=h .nil
theorem rr_done(hm:P.follows .mixedOrders=true){id:Nat}{ops:Array Oper}{dr:Bool}{st0:St}{k:Nat}{acc:List Stp}(hk:Nat.beq k ops.size=true)(hc:(wBC ops&&(!dr||wN3 ops acc.reverse))=true)(hQ:Q .normal st):RR P w0 n id ops dr Q st0 k acc st:=by
 intro ht a w hh;obtain rfl:=pV hk;obtain⟨s,S,a1,a2,a3,a4,a5,a6⟩:=ht.fns;have htr:Traced P w0 n ops s S:=⟨a4,a5,a6⟩
 simp only[Bool.and_eq_true]at hc;obtain⟨hnd,hc⟩:=hc;have hQ':∀a w,Hs w0 n (lk (S ops.size)) a w→(fun(e:Exit) a w=>e=.normal∧kq w0 n Q .normal a w) .normal a w:=fun a w h=>⟨rfl,st,hQ,by simp_all⟩
 have hlo:¬LetsOut (fun(e:Exit) a w=>e=.normal∧kq w0 n Q .normal a w):=fun⟨_,_,h⟩=>by grind
 rw[←a2]at hh;refine wpIn_mono (Q:=fun(e:Exit) a w=>e=.normal∧kq w0 n Q .normal a w) ?_ fun e a w h=>by simp_all
 cases dr with
 |false=>refine wpIn_region (qF9 hnd hlo _ _ _ ?_);rw[List.range_eq_range'];exact htr.seq hQ' ops.size 0 (by omega) a w hh
 | true=>
  simp only[Bool.not_true,Bool.false_or]at hc;refine wpIn_region_any hm (qFA hnd hlo _ _ _ _ ?_);refine htr.any a1 hc hQ' ops.size (Array.replicate ops.size false) (List.range ops.size) (fun _=>false) (by simp) (by simp) (fun i hi _=>List.mem_range.2 hi) (fun i hi=>?_) (fun _ _ _ h=>by cases h) a _ ?_
  ·simp_all
  ·have:FL s (lk (S 0)) (fun _=>false) ops.size=lk (S 0):=by
    generalize ops.size=m
    induction m with
    |zero=>rfl
    |succ m ih=>simp_all [FL]
   rw[this];obtain⟨β,hb⟩:=hh;exact⟨β,hb.drew⟩
theorem wMF{ops:Array Oper}{k:Nat}{o:Oper}{rd:List Nat}{nw:List (Nat×Nat)}{u:St}{f:Fm}(ho:ops[k]? = some o)(hg:o.guard=none)(h:wQ P w0 n o rd u nw f):wQF P w0 n ops k ⟨rd,u,nw⟩ f:=by intro g h1 h2 a w hh K Q hK;unfold wpOp;rw[ho];dsimp only;rw[if_pos (by simp[Region.wanted,hg])];exact .inl (h g h1 h2 a w hh K Q hK)
theorem rr_op{id:Nat}{ops:Array Oper}{dr:Bool}{st0:St}{k:Nat}{acc:List Stp}{o:Oper}{rd:List Nat}{nw:List (Nat×Nat)}{u:St}(ho:ops[k]? = some o)(hg:o.guard=none)(h:wQ P w0 n o rd u nw (lk st))(hn:nw.all (y4 st)=true)(hk:RR P w0 n id ops dr Q st0 (k+1) (⟨rd,u,nw⟩::acc) (u++st)) :
  RR P w0 n id ops dr Q st0 k acc st:=fun ht=>hk (ht.snoc (wMF ho hg h) fun K hK=>mD.1 hn K hK)
theorem HB.unput{β:Bl}{f:Fm}{a:Act}{w:World}(h:HB w0 n β f a w){dst:Option Tmp}(hd:dLt n dst=true)(u:Value):HB w0 n β (app (Vl.dput dst none) f) (a.put dst u) w:=by
 cases dst with
 |none=>exact h
 |some d=>
  have:=h.forget (some d) u (dLt_lt hd)
  simp_all [Vl.dput,app1]
def gSlot(ops:Array Oper)(j:Nat):Option Tmp:=
 match ops.toList[j]? with
 |some q=>q.dst
 |none=>none
theorem wEJ{ops:Array Oper}{k j d:Nat}{b c:Bool}{o:Oper}{rd:List Nat}{nw:List (Nat×Nat)}{u:St}{f:Fm}(ho:ops[k]? = some o)(hg:o.guard=some (j,b))(hj:gSlot ops j=some d)(hd:d<n)(hv:f (2*d)=some (.sv (.v (.bool c))))(h1:c=b→wQ P w0 n o rd u nw f)(h2:c≠b→u=dput o.dst none∧dLt n o.dst=true):wQF P w0 n ops k ⟨2*d::rd,u,nw⟩ f:=by
 intro g hr hn a w ⟨β,hh⟩ K Q hK;have hslot:=hh.slot d _ (by rw[hr _ (pQ ..)];exact hv);have hy:yielded ops a.tmps j=some c:=by
  unfold yielded;unfold gSlot at hj;rw[Array.getElem?_toList]at hj;cases hq:ops[j]? with
  |none=>simp_all
  |some q=>
   rw[hq]at hj;dsimp only at hj;simp only[Option.bind_some,hj];have hlt:d<a.tmps.size:=by rw[hh.size];exact hd
   rw[mU,cZ hlt,mL]at hslot;simp only[jE]at hslot;rw[cZ hlt];generalize a.tmps[d]=v at hslot;cases hslot;rfl
 unfold wpOp;rw[ho];dsimp only;by_cases hcb:c=b
 ·rw[if_pos (by simp_all [Region.wanted])];exact .inl (h1 hcb g (fun q hq=>hr q (pO _ hq)) hn a w ⟨β,hh⟩ K Q hK)
 ·rw[if_neg (by simp_all [Region.wanted])];obtain⟨rfl,hd'⟩:=h2 hcb;refine hK _ _ ⟨β,?_⟩;exact hh.unput hd' undef
theorem rr_want{id:Nat}{ops:Array Oper}{dr:Bool}{st0:St}{k j d:Nat}{b:Bool}{acc:List Stp}{o:Oper}{rd:List Nat}{nw:List (Nat×Nat)}{u:St}(ho:ops[k]? = some o)(hg:o.guard=some (j,b))(hj:gSlot ops j=some d)(hd:Nat.blt d n=true)(hv:lk st (2*d)=some (.sv (.v (.bool b))))(h:wQ P w0 n o rd u nw (lk st))(hn:nw.all (y4 st)=true)(hk:RR P w0 n id ops dr Q st0 (k+1) (⟨2*d::rd,u,nw⟩::acc) (u++st)):RR P w0 n id ops dr Q st0 k acc st:=
 fun ht=>hk (ht.snoc (wEJ ho hg hj (by simp_all) hv (fun _=>h) (fun h=>absurd rfl h)) fun K hK=>mD.1 hn K hK)
theorem rr_unwant{id:Nat}{ops:Array Oper}{dr:Bool}{st0:St}{k j d:Nat}{b:Bool}{acc:List Stp}{o:Oper}(ho:ops[k]? = some o)(hg:o.guard=some (j,b))(hj:gSlot ops j=some d)(hd:Nat.blt d n=true)(hv:lk st (2*d)=some (.sv (.v (.bool (!b)))))(hdd:dLt n o.dst=true)(hk:RR P w0 n id ops dr Q st0 (k+1) (⟨[2*d],dput o.dst none,[]⟩::acc) (dput o.dst none++st)):RR P w0 n id ops dr Q st0 k acc st:=
 fun ht=>hk (ht.snoc (x:=⟨[2*d],dput o.dst none,[]⟩) (wEJ (rd:=[]) ho hg hj (by simp_all) hv (fun h=>by simp_all) (fun _=>⟨rfl,hdd⟩)) fun K hK=>by cases hK)
theorem qFD{c:Code}{rd:List Nat}{g:St}(hg:wD1 w0 n rd g (lk st))(h:VW P w0 n c Q (g++st)):VW P w0 n c Q st:=fun a w hh=>h a w (by rw[zN];exact hg _ (fun _ _=>rfl) a w hh)
end
section
variable{P:Program}
def wH1:Nat→List V→St
 |_,[]=>[]
 |i,x::xs=>(2*i,some (.sv (.v x)))::wH1 (i+1) xs
def asF:SV→Option V
 |.v x=>some x
 |.nils=>some (.list [])
 |.own _ _ _ es=>some (.list es)
 |_=>none
def resCell(C:Cx)(t:TypeId)(cs:List SV)(off:Nat):Option V:=
 match C.isAgg t with
 | some true=>match C.size t with
  | some m=>bif Nat.beq ((cs.drop off).take m).length m then
    match asVs ((cs.drop off).take m)with
    |some r=>some (.agg r)
    |none=>none
   else none
  |none=>none
 |some false=>match cs[off]? with
  |some y=>asF y
  |none=>none
 |none=>none
def wD4(C:Cx)(st:St):ResultVar→Option V
 | .tmp t=>match rootS (lk st) t with
  |some (_,_,_,_,es)=>some (.list es)
  |none=>match lk st (2*t)with
   |some (.sv x)=>asF x
   |_=>none
 | .cell c t=>match lk st (2*c)with
  |some (.sv (.bx d off))=>match lk st (2*d+1)with
   |some (.bx cs)=>resCell C t cs off
   |_=>none
  |_=>none
def resL(C:Cx)(st:St):List ResultVar→Option (List V)
 |[]=>some []
 | r::rs=>match wD4 C st r with
  |some x=>match resL C st rs with
   |some xs=>some (x::xs)
   |none=>none
  |none=>none
def resV(C:Cx)(st:St)(l:List ResultVar):Option V:=
 match resL C st l with
 |some [x]=>some x
 |some xs=>some (.tup xs)
 |none=>none
def retQ(C:Cx)(l:List ResultVar)(R:V→Prop):vH:=fun e st=>(e=.ret∨e=.normal)∧∃y,resV C st l=some y∧R y
theorem wB2{xs:List V}:∀{i k:Nat}{c:Cell},lk (wH1 i xs) k=some c→∃j x,k=2*(i+j)∧xs[j]? = some x∧c=.sv (.v x):=by
 induction xs with
 |nil=>intro i k c h;cases h
 |cons x xs ih=>
  intro i k c h;simp only[wH1,lk]at h;by_cases hk:2*i=k
  ·subst hk;simp at h;exact⟨0,x,by omega,rfl,h.symm⟩
  ·rw[wC0 hk]at h;obtain⟨j,y,h1,h2,h3⟩:=ih h;exact⟨j+1,y,by omega,h2,h3⟩
def resFn(tmps:Array Value)(r:ResultVar):Sem Value:=
 match r with
 |.tmp t=>pure (tmps.getD t undef)
 |.cell c t=>do loadVar t (←asAddr (tmps.getD c undef))
theorem wUG(fn:Func)(tmps:Array Value):results fn tmps=(do let vs ←fn.results.mapM (resFn tmps);pure (if h:vs.size=1 then vs[0]else .tuple vs)):=by rfl
theorem res_run{C:Cx}(hC:CxOk P C){S:Nat→Prop}{w0:Base}{n:Nat}{β:Bl}{st:St}{a:Act}{w:World}(hB:HB w0 n β (lk st) a w)(hS:∀b,qM β b∨(∃K J,(J=0∨K%2=1)∧β K J=some b)→S b):∀{l:List ResultVar}{xs:List V},resL C st l=some xs→
  ∃us,(l.mapM (resFn a.tmps)).run P w=.ok us w∧RepL S w xs us
 |[],xs,e=>by cases e;exact⟨[],by simp,.nil⟩
 | r :: l,xs,e=>by
  simp only[resL]at e;split at e
  ·rename_i x hx;split at e
   ·rename_i ys hys;cases e;obtain⟨us,h1,h2⟩:=res_run hC hB hS hys;have hr:∃v,(resFn a.tmps r).run P w=.ok v w∧Rep S w x v:=by
     have hone:∀(K J:Nat)(y:SV)(z:V)(u:Value),(J=0∨K%2=1)→jE w0.lo (qM β) w β K J y u→asF y=some z→Rep S w z u:=by
      intro K J y z u hk hs e;cases y with
      |v z=>cases e;exact Rep.mono hs fun b hb _=>hS b (.inl hb)
      |nils=>cases e;simp only[jE]at hs;rw[hs];exact .nils
      |own id T k es=>cases e;exact wSI hs (fun b hb=>hS b (.inl hb)) fun B hB'=>hS B (.inr ⟨_,_,hk,hB'⟩)
      |_=>cases e
     cases r with
     | tmp t=>
      simp only[wD4]at hx;split at hx
      ·rename_i s id T k es hr;cases hx;obtain⟨r1,r2⟩:=hB.root (x:=.tmp t) hr;refine⟨_,rfl,?_⟩;have r3:a.tmps.getD t undef=a.tmps.getD s undef:=r2;rw[r3];exact hone _ _ _ _ _ (.inl rfl) (hB.slot s _ r1) rfl
      ·split at hx
       ·rename_i y hy;exact⟨_,rfl,hone _ _ _ _ _ (.inl rfl) (hB.slot t _ hy) hx⟩
       ·cases hx
     | cell c t=>
      simp only[wD4]at hx;split at hx
      ·rename_i d off hy;split at hx
       ·rename_i cs hcs;have hp:=hB.slot c _ hy;obtain⟨B,T,us,g1,g2,g3,g4⟩:=hB.box d cs hcs;have e1:=hp B g1;unfold resCell at hx;split at hx
        ·rename_i hag;split at hx
         ·rename_i m hm;cases hbq:Nat.beq ((cs.drop off).take m).length m with
          |false=>rw[hbq]at hx;cases hx
          | true=>
           rw[hbq]at hx;simp only[cond_true]at hx;have hm':=pV hbq;split at hx
           ·rename_i r hr;cases hx;have hml:((us.drop off).take m).length=m:=by simp only[List.length_take,List.length_drop]at hm' ⊢;omega
            have hrun:=wR4 (P:=P) g2 hml;obtain⟨k1,k2⟩:=wXI (w:=w) (β:=β) (S:=qM β) (S':=S) (K:=2*d+1) (J:=off+1) (fun b hb=>hS b (.inl hb)) hr (us:=(us.drop off).take m) (by omega) (fun j z u hz hu=>by
             rw[dA]at hz hu;split at hz
             ·rename_i hj;rw[if_pos hj]at hu;rw[gC]at hz hu;have:=g4 _ _ _ hz hu
              rwa [show off+j+1=off+1+j by omega]at this
             ·cases hz) (fun j B' hB'=>hS B' (.inr ⟨_,_,.inr (by omega),hB'⟩))
            exact⟨.agg ((us.drop off).take m).toArray,by simp only[resFn,e1];simp[asAddr,loadVar,kB hC hag,wZ hC hm,hrun],.agg k2 k1⟩
           ·cases hx
         ·cases hx
        ·rename_i hag;split at hx
         ·rename_i y hy2;obtain⟨u,hu⟩:∃u,us[off]? = some u:=⟨_,pK (by have:=(pY.1 hy2).1;omega)⟩
          have hcell:w.cell? ⟨B,off,none⟩=some u:=by rw[cell_of_row w B _ _ T (0,0) g2];simpa using hu
          exact⟨u,by simp only[resFn,e1];simp[asAddr,loadVar,kB hC hag,hcell],hone _ _ _ _ _ (.inr (by omega)) (g4 off y u hy2 hu).1 hx⟩
         ·cases hx
        ·cases hx
       ·cases hx
      ·cases hx
    obtain⟨v,hv1,hv2⟩:=hr;refine⟨v::us,?_,.cons hv2 h2⟩;simp only[List.mapM_cons,Sem.run_bind,hv1,Result.andThen_ok];rw[h1];rfl
   ·cases e
  grind
theorem HB.shut{w0:Base}{n:Nat}{β:Bl}{f:Fm}{a:Act}{w:World}(h:HB w0 n β f a w){r:Nat}{ds:List Deferred}(hd:a.defers=mark r::ds):(Instr.takeDeferred r).run P w=.ok [] { w with heap:=w.heap.setIfInBounds r (.deferred none) }∧HB w0 n β f { a with defers:=ds } { w with heap:=w.heap.setIfInBounds r (.deferred none) }:=by
 obtain⟨m0,m1,m2⟩:=h.dfr;rw[hd]at m1 m2;have m0':w0.mks=true:=m0.resolve_right (by simp_all);obtain⟨r',e1,e2,e3,e4⟩:=m1 _ (pQ ..);have hrr:r'=r:=by simp_all [congrArg,Deferred.target,mark,Target.collected.injEq]
 subst hrr;have hne:∀b,b≠r'→(w.heap.setIfInBounds r' (.deferred none))[b]? = w.heap[b]?:=fun b hb=>cP (fun e=>hb e.symm);refine⟨by simp[Instr.takeDeferred,wB8 (by simp) e4,wF2 _ (by simp) e4,Result.andThen],?_⟩;have hS:∀b,qM β b→b<w.heap.size→qM β b∧(w.heap.setIfInBounds r' (.deferred none))[b]? = w.heap[b]?:=fun b hb _=>⟨hb,hne b (fun e=>by subst e;exact hb _ _ e2)⟩
 have hk:∀k j B,β k j=some B→j=0∨k%2=1→(w.heap.setIfInBounds r' (.deferred none))[B]? = w.heap[B]?:=fun k j B hB hj=>hne B (fun e=>by subst e;have:=h.inj _ _ _ _ _ hB e2;omega)
 refine⟨h.size,⟨.inl m0',fun d hm=>?_,(pC9.1 m2).2⟩,?_,h.inj,fun k j B e=>⟨(h.rng k j B e).1,by simpa using(h.rng k j B e).2⟩,h.sp,h.spk,h.od,h.al,h.pt,fun d x e=>?_,fun d cs e=>?_,fun d T k L e=>?_⟩
 ·grind [List.mem_cons_of_mem,trans,List.pairwise_cons]
 ·refine⟨h.bel.os,h.bel.tape,h.bel.output,by grind,fun b hb hkp=>(hne b ?_).trans (h.bel.block b hb hkp)⟩;omega
 ·have hs:=h.slot d x e;cases x with
  |own id T k es=>exact jE.keep (x:=.own id T k es) hs hS (fun _=>rfl) (fun _ B hB=>hk _ _ B hB (.inl rfl)) (fun _ _ h=>h.elim)
  |v x=>exact jE.keep (x:=.v x) hs hS (fun hh=>by rfl) (fun hh=>by cases hh) (fun _ _ hh=>hh.elim)
  |_=>exact hs
 ·obtain⟨B,T,us,h1,h2,h3,h4⟩:=h.box d cs e;refine⟨B,T,us,h1,(hk _ _ B h1 (.inl rfl)).trans h2,h3,fun j x u hx hu=>?_⟩;obtain⟨g1,g2,g3⟩:=h4 j x u hx hu;exact⟨g1.keep hS (fun _=>rfl) (fun _ B hB=>hk _ _ B hB (.inr (by omega))) (fun _ _ _ _ e=>e),g2,g3⟩
 ·exact(h.fm d T k L e).keep hS fun _ _ B _ hB=>⟨hB,hk _ _ B hB (.inr (by omega))⟩
theorem HB.leaves{w0:Base}{n m:Nat}{F:Fence}{β:Bl}{f:Fm}{fn:Func}{R:Ending→World→Prop}:∀(ds:List Deferred){a:Act}{w:World},a.defers=ds→HB w0 n β f a w→(∀a' w',a'.tmps=a.tmps→HB w0 n β f a' w'→∃v,(results fn a.tmps).run P w'=.ok v w'∧R (.returned v) w')→
  LeavesInM F m P fn a.tmps R ds .returning w
 |[],a,w,_,h,hk=>hk a w rfl h
 |d::ds,a,w,hd,h,hk=>by obtain⟨r,e1,_⟩:=h.dfr.2.1 d (by simp_all);subst e1;obtain⟨h1,h2⟩:=h.shut (P:=P) hd;exact⟨by simp,.inl ⟨r,_,rfl,h1,HB.leaves ds (a:={ a with defers:=ds }) rfl h2 hk⟩⟩
open Classical in
theorem wS3{g n:Nat}{fn:Func}{c:Code}{xs:List V}{S:Nat→Prop}{w:World}{us:List Value}{R:Ending→World→Prop}(Q:vH)(hf:P.funcs[g]? = some fn)(hb:fn.body=some c)(hnt:fn.ntmps=n)(hn:Nat.ble xs.length n=true)(hus:RepL S w xs us)(h:∀w0:Base,w0.mks=true→w0.ro=none→VW P w0 n c Q (wH1 0 xs))(hR:∀(e:Exit)(st:St),Q e st→(e=.ret∨e=.normal)∧∀(β:Bl)(a:Act)(w':World),HB ⟨w,S,fun _=>True,none,w.heap.size,pC _,true⟩ n β (lk st) a w'→∃v,(results fn a.tmps).run P w'=.ok v w'∧R (.returned v) w'):Calls P g us.toArray w R:=by
 subst hnt;have hn':=pI hn;have hl:=hus.length;let β:Bl:=fun k j=>if k=0∧0<j∧j-1<w.heap.size∧¬S (j-1)then some (j-1)else none
 have hval:∀k j B,β k j=some B→k=0∧j=B+1∧B<w.heap.size∧¬S B:=by grind
 have hsp:∀b,b<w.heap.size→¬S b→β 0 (b+1)=some b:=by grind
 have hNB:∀b,S b→qM β b:=fun b hs k j e=>(hval _ _ _ e).2.2.2 hs;let w0:Base:=⟨w,S,fun _=>True,none,w.heap.size,pC _,true⟩
 have hini:HB w0 fn.ntmps β (lk (wH1 0 xs)) { tmps:=us.toArray++Array.replicate (fn.ntmps-us.toArray.size) undef,defers:=[] } w:=by
  refine⟨by simp;omega,⟨.inr rfl,by simp,.nil⟩,BelP.refl w0,?_,?_,fun b h1 h2 _=>hsp b h1 h2,fun k j B e=>.inr (.inr (by have:=hval _ _ _ e;omega)),fun b _ hs=>hNB b hs,fun e d id T k es e1 _=>(by obtain⟨_,_,_,_,h3⟩:=wB2 e1;cases h3),fun e d id k i off T es B e1 _ _=>(by obtain⟨_,_,_,_,h3⟩:=wB2 e1;cases h3),?_,?_,fun d T k L e=>(by obtain⟨j,y,h1,_⟩:=wB2 e;omega)⟩
  ·intro k j k' j' B e1 e2;have a:=hval _ _ _ e1;have b:=hval _ _ _ e2;omega
  ·intro k j B e;have a:=hval _ _ _ e;exact⟨fun hh=>by omega,a.2.2.1⟩
  ·intro d x e;obtain⟨j,y,h1,h2,h3⟩:=wB2 e;cases h3;obtain rfl:d=j:=by omega
   obtain⟨u,hu,hr⟩:=hus.get d y h2;have hd:d<us.length:=(pY.1 hu).1
   have:(us.toArray++Array.replicate (fn.ntmps-us.toArray.size) undef).getD d undef=u:=by rw[mU,Array.getElem?_append_left (by simpa using hd)];simp[hu]
   rw[this];exact hr.mono fun b hb' _=>hNB b hb'
  grind [wB2]
 refine(callsIn_wide (n:=0)).1 (callsIn_of_wp_marks hf hb trivial (wpIn_mono (h w0 rfl rfl _ w ⟨β,hini⟩) fun e a w' hq=>?_) rfl);obtain⟨st,hq,β',hB⟩:=hq;obtain⟨he,hR⟩:=hR e st hq;have hfin:LeavesInM Fence.wide 0 P fn a.tmps R a.defers .returning w':=HB.leaves a.defers rfl hB fun a' w'' ha hB'=>by grind
 rcases he with rfl|rfl
 ·exact hfin
 ·exact hfin
theorem HB.ends{w:World}{S:Nat→Prop}{n:Nat}{β:Bl}{f:Fm}{a:Act}{w':World}(hB:HB ⟨w,S,fun _=>True,none,w.heap.size,pC _,true⟩ n β f a w'):∀b,qM β b∨(∃K J,(J=0∨K%2=1)∧β K J=some b)→S b∨w.heap.size≤b:=by
 intro b hb;rcases hb with hb|⟨K,J,hj,e⟩
 ·rcases pL b w.heap.size with hlt|hge
  ·left;apply dF;intro hs;exact hb _ _ (hB.sp b hlt hs trivial)
  omega
 ·rcases(hB.rng _ _ _ e).1 hj with h|h
  ·exact .inr h
  simp_all
theorem wD2{C:Cx}(hC:CxOk P C){g n:Nat}{l:List ResultVar}{fn:Func}{c:Code}{xs:List V}{R:V→Prop}(hf:P.funcs[g]? = some fn)(hb:fn.body=some c)(hnt:fn.ntmps=n)(hres:fn.results.toList=l)(hn:Nat.ble xs.length n=true)(h:∀w0:Base,w0.mks=true→w0.ro=none→VW P w0 n c (retQ C l R) (wH1 0 xs)):wJ P g xs R:=by
 subst hres;intro S w us hus;refine wS3 _ hf hb hnt hn hus h fun e st hq=>?_;obtain⟨he,y,hy,hR⟩:=hq;refine⟨he,fun β a w' hB=>?_⟩;have hS:=hB.ends;unfold resV at hy;have key:∀rs,resL C st fn.results.toList=some rs→∃vs:List Value,RepL (fun b=>S b∨w.heap.size≤b) w' rs vs∧(results fn a.tmps).run P w'=.ok (if h:vs.toArray.size=1 then vs.toArray[0]else .tuple vs.toArray) w':=by
  intro rs hrs;obtain⟨us,h1,h2⟩:=res_run hC hB hS hrs;refine⟨us,h2,?_⟩;have h1':(fn.results.mapM (resFn a.tmps)).run P w'=.ok us.toArray w':=by rw[←dY (xs:=fn.results),fR];simp only[Sem.run_map];rw[h1];rfl
  rw[wUG,Sem.run_bind,h1'];rfl
 have hbel:Below w.heap.size w w':=hB.bel.below fun _ _=>trivial;split at hy
 ·rename_i x hx;cases hy;obtain⟨vs,h2,h3⟩:=key _ hx;cases h2 with
  |cons hv ht=>cases ht;exact⟨_,h3,_,y,rfl,hR,hv,hbel⟩
 ·rename_i rs hne hx;cases hy;obtain⟨vs,h2,h3⟩:=key _ hx;have hlen:=h2.length;have hn1:¬vs.toArray.size=1:=by
   intro h1;cases rs with
   |nil=>simp at hlen h1;omega
   |cons r rs=>
    cases rs with
    |nil=>exact hne r rfl
    |cons _ _=>simp at hlen h1;omega
  rw[dif_neg hn1]at h3;exact⟨_,h3,_,.tup rs,rfl,hR,.tup h2,hbel⟩
 grind
theorem wC{C:Cx}(hC:CxOk P C){g n:Nat}{l:List ResultVar}{fn:Func}{c:Code}{xs:List V}{R:V→Prop}(hf:P.funcs[g]? = some fn)(hb:fn.body=some c)(hnt:fn.ntmps=n)(hres:fn.results.toList=l)(hn:Nat.ble xs.length n=true)(h:∀w0,VW P w0 n c (retQ C l R) (wH1 0 xs)):wJ P g xs R:=wD2 hC hf hb hnt hres hn fun w0 _ _=>h w0
end
abbrev Told:=Option (List Nat×St×List (Nat×Nat))
def told(n:Nat)(o:Oper)(rd:List Nat)(y:SV):Told:=bif dLt n o.dst&&plain y then some (rd,dput o.dst (some (.sv y)),[])else none
def vMove(n:Nat)(f:Fm)(o:Oper)(x:Operand):Told:=
 match opv f x with
 |some (.own id _ _ _)=>match x,o.dst with
  |.tmp s,some r=>bif Nat.blt r n&&!Nat.beq r s then some ([2*s],[(2*r,some (.sv (.al s id)))],[])else none
  |_,_=>none
 |some (.al d id)=>match o.dst with
  |some r=>bif Nat.blt r n then some (rdO x++[2*d],[(2*r,some (.sv (.al d id)))],[])else none
  |none=>none
 |some y=>told n o (rdO x) y
 |none=>none
def vAssign(id' n:Nat)(f:Fm)(o:Oper)(x:Operand):Told:=
 match opv f x with
 |some (.own _ T k es)=>match x,o.dst with
  |.tmp s,some r=>bif Nat.blt r n&&!Nat.beq r s then some ([2*s],[(2*r,some (.sv (.own id' T k es))),(2*s,none)],[(2*r,id'),(2*r,0)])else none
  |_,_=>none
 |some (.al d id)=>match o.dst with
  |some r=>bif Nat.blt r n then some (rdO x++[2*d],[(2*r,some (.sv (.al d id)))],[])else none
  |none=>none
 |some y=>told n o (rdO x) y
 |none=>none
def vPick(n:Nat)(f:Fm)(o:Oper)(q x y:Operand):Told:=
 match opv f q with
 |some (.v (.bool true))=>match opv f x with
  |some z=>told n o (rdO q++(rdO x++rdO y)) z
  |none=>none
 |some (.v (.bool false))=>match opv f y with
  |some z=>told n o (rdO q++(rdO x++rdO y)) z
  |none=>none
 |_=>none
def vAlloc(C:Cx)(n:Nat)(o:Oper)(t:TypeId):Told:=
 match C.tys.get t with
 |none=>none
 | some i=>match i.zero with
  |none=>none
  | some z=>match toCs z.cells.toList with
   |none=>none
   |some cs=>match o.dst with
    |none=>none
    |some d=>bif Nat.blt d n then some ([],[(2*d,some (.sv (.bx d 0))),(2*d+1,some (.bx cs))],[(2*d+1,0)])else none
def vBox(n:Nat)(f:Fm)(o:Oper)(x:Operand):Told:=
 match opV f x with
 |none=>none
 | some y=>bif wE0 y then
   match o.dst with
   |none=>none
   |some d=>bif Nat.blt d n then some (rdO x,[(2*d,some (.sv (.bx d 0))),(2*d+1,some (.bx (y.cells.map .v)))],[(2*d+1,0)])else none
  else none
def vBuild(C:Cx)(n:Nat)(f:Fm)(o:Oper)(t:TypeId)(ps:List (Nat×Operand)):Told:=
 match C.tys.get t with
 |none=>none
 | some i=>match i.zero with
  |none=>none
  | some z=>match toVs z.cells.toList with
   |none=>none
   | some zc=>match wA1 f ps with
    |none=>none
    | some xs=>match C.und t with
     | some (.struct fs)=>match qBH C fs.toList with
      |none=>none
      |some pl=>match wGB (fun i=>pl[i]?) zc xs with
       |none=>none
       |some r=>told n o (rdP ps) (.v (.agg r))
     | some (.array _ elem)=>match C.size elem with
      |none=>none
      |some m=>match wGB (fun i=>some (i*m,m)) zc xs with
       |none=>none
       |some r=>told n o (rdP ps) (.v (.agg r))
     |_=>none
def yY(C:Cx)(id n:Nat)(f:Fm)(o:Oper)(t:TypeId)(len:Nat)(ps:List (Nat×Operand)):Told:=
 match C.und t with
 | some (.slice elem)=>match C.tys.get elem with
  |none=>none
  | some i=>match i.zero with
   |none=>none
   | some z=>match toVs z.cells.toList with
    |none=>none
    | some zc=>match C.size elem with
     |none=>none
     | some m=>match wA1 f ps with
      |none=>none
      | some xs=>match o.dst with
       |none=>none
       | some q=>bif Nat.beq z.cells.size m&&Nat.blt 0 m&&Nat.ble (len*m) 16777216&&Nat.blt q n&&Nat.beq xs.length len&&inOrder 0 xs&&(xs.all fun p=>Nat.beq p.2.cells.length m&&wE0 p.2)then
         some (rdP ps,[(2*q,some (.sv (.own id elem m (xs.map fun p=>p.2.cells))))],[(2*q,id),(2*q,0)])
        else none
 |_=>none
where inOrder:Nat→List (Nat×V)→Bool
 |_,[]=>true
 |i,(j,_)::l=>Nat.beq i j&&inOrder (i+1) l
def vLoad(C:Cx)(id' n:Nat)(f:Fm)(o:Oper)(t:TypeId)(x:Operand):Told:=
 match opb f x with
 | some (.bx d off)=>match f (2*d+1)with
  | some (.bx cs)=>match C.isAgg t with
   | some false=>match cs[off]? with
    |some (.own _ T k es)=>match o.dst with
     |some r=>bif Nat.blt r n then some (rdO x++[2*d+1],[(2*r,some (.sv (.own id' T k es))),(2*d+1,some (.bx (cs.set off .junk)))],[(2*r,id'),(2*r,0)])else none
     |none=>none
    |some y=>told n o (rdO x++[2*d+1]) y
    |none=>none
   | some true=>match C.size t with
    | some m=>bif Nat.beq ((cs.drop off).take m).length m then
      match wHF ((cs.drop off).take m)with
      |some r=>told n o (rdO x++[2*d+1]) (.v (.agg r))
      |none=>none
     else none
    |none=>none
   |none=>none
  |_=>none
 | some (.v (.ref (c::cs)))=>match C.isAgg t with
  |some false=>told n o (rdO x) (.v c)
  |some true=>match C.size t with
   |some m=>bif Nat.ble m (c::cs).length then told n o (rdO x) (.v (.agg ((c::cs).take m)))else none
   |none=>none
  |none=>none
 |_=>none
def vStore(C:Cx)(f:Fm)(o:Oper)(t:TypeId)(p x:Operand):Told:=
 match o.dst with
 |some _=>none
 | none=>match opb f p with
  | some (.bx d off)=>match f (2*d+1)with
   | some (.bx cs)=>match opv f x with
    |some (.own _ T k es)=>match x,C.size t with
     |.tmp s,some 1=>bif Nat.blt off cs.length then some (rdO p++[2*s,2*d+1],[(2*d+1,some (.bx (cs.set off (.own 0 T k es)))),(2*s,none)],[])else none
     |_,_=>none
    |some y=>match asV y,C.size t with
     |some y,some m=>bif wE0 y&&Nat.beq y.cells.length m&&Nat.ble (off+m) cs.length then some (rdO p++(rdO x++[2*d+1]),[(2*d+1,some (.bx (over cs off (y.cells.map .v))))],[])else none
     |_,_=>none
    |none=>none
   |_=>none
  |_=>none
def vNil(n:Nat)(f:Fm)(o:Oper)(x:Operand):Told:=
 match opb f x with
 |some (.bx d off)=>match f (2*d+1)with
  |some (.bx _)=>told n o (rdO x++[2*d+1]) (.bx d off)
  |_=>none
 |some (.v (.ref cs))=>told n o (rdO x) (.v (.ref cs))
 |some (.v (.clo g a b))=>told n o (rdO x) (.v (.clo g a b))
 |_=>none
def wU0(C:Cx)(n:Nat)(f:Fm)(o:Oper)(t:TypeId)(x:Operand)(i:Nat):Told:=
 match C.und t with
 | some (.struct fs)=>match fs[i]? with
  |none=>none
  | some fd=>match C.size fd.type with
   | some (_+1)=>match opb f x with
    |some (.bx d off)=>match f (2*d+1)with
     |some (.bx _)=>told n o (rdO x++[2*d+1]) (.bx d (off+fd.offset))
     |_=>none
    |some (.v (.ref cs))=>told n o (rdO x) (.v (.ref (cs.drop fd.offset)))
    |_=>none
   |_=>none
 |_=>none
def vField(C:Cx)(n:Nat)(f:Fm)(o:Oper)(t:TypeId)(x:Operand)(i:Nat):Told:=
 match C.und t with
 | some (.struct fs)=>match fs[i]? with
  |none=>none
  | some fd=>match opv f x with
   |some (.v (.agg cs))=>match vpart C fd.type cs fd.offset with
    |some v=>told n o (rdO x) (.v v)
    |none=>none
   |_=>none
 |_=>none
def qFE(n:Nat)(f:Fm)(o:Oper)(x:Operand)(i:Nat):Told:=
 match opv f x with
 |some (.v (.tup vs))=>match vs[i]? with
  |some y=>told n o (rdO x) (.v y)
  |none=>none
 |_=>none
def vFunc(n:Nat)(f:Fm)(o:Oper)(g:FuncId)(a b:List Operand):Told:=
 match yF f a,yF f b with
 |some xs,some ys=>told n o (rdL a++rdL b) (.v (.clo g xs ys))
 |_,_=>none
def vIface(C:Cx)(n:Nat)(f:Fm)(o:Oper)(t:TypeId)(x:Operand):Told:=
 match C.und t with
 |none=>none
 |some (.interface _)=>none
 |some _=>match opV f x with
  |some y=>told n o (rdO x) (.v (.ifc t y))
  |none=>none
def vLen(C:Cx)(n:Nat)(f:Fm)(o:Oper)(k:Call):Told:=
 match k.callee,k.args.toList,k.argTypes.toList with
 | .builtin .len,[x],[t]=>match C.und t with
  |some (.slice _)=>match lenV f x with
   |some m=>told n o (rdR f x) (.v (.int .i64 (m:Nat)))
   |none=>none
  |_=>none
 |_,_,_=>none
def vNot(n:Nat)(f:Fm)(o:Oper)(x:Operand):Told:=
 match opv f x with
 |some (.v (.bool b))=>told n o (rdO x) (.v (.bool (!b)))
 |_=>none
def vop(C:Cx)(id n:Nat)(f:Fm)(o:Oper):Told:=
 match o.op with
 |.move x=>vMove n f o x
 |.assign x=>vAssign id n f o x
 |.pick q x y=>vPick n f o q x y
 |.alloc t=>vAlloc C n o t
 |.box _ x=>vBox n f o x
 |.build t ps=>vBuild C n f o t ps.toList
 |.buildSlice t len ps=>yY C id n f o t len ps.toList
 |.load t x=>vLoad C id n f o t x
 |.store t p x=>vStore C f o t p x
 |.nilCheck x=>vNil n f o x
 |.fieldAddr t x i=>wU0 C n f o t x i
 |.field t x i=>vField C n f o t x i
 |.extract x i=>qFE n f o x i
 |.makeFunc (.func g) a b=>vFunc n f o g a.toList b.toList
 |.makeInterface t x=>vIface C n f o t x
 |.call k=>vLen C n f o k
 |.unOp .not _ x=>vNot n f o x
 |_=>none
section
variable{P:Program}{C:Cx}{w0:Base}{n id:Nat}{f:Fm}{o:Oper}{rd:List Nat}{nw:List (Nat×Nat)}{u:St}
theorem zV{y:SV}{r:List Nat}(e:told n o r y=some (rd,u,nw)):dLt n o.dst=true∧plain y=true∧rd=r∧u=dput o.dst (some (.sv y))∧nw=[]:=by
 unfold told at e
 grind
theorem wWE{m:Nat}:∀{xs:List (Nat×V)}{i:Nat}{pre:List V}{suf:List V},yY.inOrder i xs=true→(xs.all fun p=>Nat.beq p.2.cells.length m&&wE0 p.2)=true→pre.length=i*m→suf.length=xs.length*m→
  wGB (fun i=>some (i*m,m)) (pre++suf) xs=some (pre++(xs.map fun p=>p.2.cells).flatten)
 |[],i,pre,suf,_,_,_,hs=>by simp_all [List.eq_nil_of_length_eq_zero,wGB]
 | (j,x)::xs,i,pre,suf,ho,ha,hp,hs=>by
  simp only[yY.inOrder,Bool.and_eq_true]at ho;obtain rfl:=pV ho.1;simp only[List.all_cons,Bool.and_eq_true]at ha;have hx:=pV ha.1.1;simp only[List.length_cons,Nat.succ_mul]at hs;simp only[wGB];have hb:(Nat.beq x.cells.length m&&wE0 x&&Nat.ble (i*m+m) (pre++suf).length)=true:=by simp_all
  rw[hb];simp only[cond_true];have ho':over (pre++suf) (i*m) x.cells=(pre++x.cells)++suf.drop m:=by grind [over,List.take_left,List.drop_drop,List.drop_left]
  rw[ho',wWE ho.2 ha.2 (by grind) (by simp_all)];simp
theorem qC9{s:Nat}{y:SV}(hx:opv f (.tmp s)=some y):f (2*s)=some (.sv y):=by grind [opv]
theorem wTJ(hC:CxOk P C)(e:vop C id n f o=some (rd,u,nw)):wQ P w0 n o rd u nw f:=by
 unfold vop at e;split at e
 ·rename_i x hop;unfold vMove at e;split at e
  ·rename_i i T k es hx;split at e
   ·rename_i s r hdst;cases hb:(Nat.blt r n&&!Nat.beq r s)with
    |false=>rw[hb]at e;cases e
    |true=>rw[hb]at e;cases e;simp only[Bool.and_eq_true,Bool.not_eq_true']at hb;exact sem_alias hop (qC9 hx) hdst (fun h=>by subst h;simp at hb) hb.1
   ·cases e
  ·rename_i d i hx;split at e
   ·rename_i r hdst;cases hb:Nat.blt r n with
    |false=>rw[hb]at e;cases e
    |true=>rw[hb]at e;cases e;exact wU7 (.inl hop) hx hdst hb
   ·cases e
  ·rename_i y _ _ hx;obtain⟨h1,h2,rfl,rfl,rfl⟩:=zV e;exact sem_move hop hx h2 h1
  ·cases e
 ·rename_i x hop;unfold vAssign at e;split at e
  ·rename_i i T k es hx;split at e
   ·rename_i s r hdst;cases hb:(Nat.blt r n&&!Nat.beq r s)with
    |false=>rw[hb]at e;cases e
    |true=>rw[hb]at e;cases e;simp only[Bool.and_eq_true,Bool.not_eq_true']at hb;exact qG7 (.inr hop) (qC9 hx) hdst (fun h=>by subst h;simp at hb) hb.1
   ·cases e
  ·rename_i d i hx;split at e
   ·rename_i r hdst;cases hb:Nat.blt r n with
    |false=>rw[hb]at e;cases e
    |true=>rw[hb]at e;cases e;exact wU7 (.inr hop) hx hdst hb
   ·cases e
  ·rename_i y _ _ hx;obtain⟨h1,h2,rfl,rfl,rfl⟩:=zV e;exact sem_assign hop hx h2 h1
  ·cases e
 ·rename_i q x y hop;unfold vPick at e;split at e
  ·rename_i hq;split at e
   ·rename_i z hz;obtain⟨h1,h2,rfl,rfl,rfl⟩:=zV e;exact qG6 hop hq (by simpa using hz) h2 h1
   ·cases e
  ·rename_i hq;split at e
   ·rename_i z hz;obtain⟨h1,h2,rfl,rfl,rfl⟩:=zV e;exact qG6 hop hq (by simpa using hz) h2 h1
   ·cases e
  ·cases e
 ·rename_i t hop;unfold vAlloc at e;split at e
  ·cases e
  ·rename_i i hi;split at e
   ·cases e
   ·rename_i z hz;split at e
    ·cases e
    ·rename_i cs hcs;split at e
     ·cases e
     ·rename_i d hdst;cases hb:Nat.blt d n with
      |false=>rw[hb]at e;cases e
      |true=>rw[hb]at e;cases e;exact sem_alloc hC hop hi hz hcs hdst hb
 ·rename_i t x hop;unfold vBox at e;split at e
  ·cases e
  ·rename_i y hy;cases hnt:wE0 y with
   |false=>rw[hnt]at e;cases e
   | true=>
    rw[hnt]at e;simp only[cond_true]at e;split at e
    ·cases e
    ·rename_i d hdst;cases hb:Nat.blt d n with
     |false=>rw[hb]at e;cases e
     |true=>rw[hb]at e;cases e;exact sem_box hop hy (wNI hnt) hdst hb
 ·rename_i t ps hop;unfold vBuild at e;split at e
  ·cases e
  ·rename_i i hi;split at e
   ·cases e
   ·rename_i z hz;split at e
    ·cases e
    ·rename_i zc hzc;split at e
     ·cases e
     ·rename_i xs hxs;split at e
      ·rename_i fs ht;split at e
       ·cases e
       ·rename_i pl hpl;split at e
        ·cases e
        ·rename_i r hr;obtain⟨h1,h2,rfl,rfl,rfl⟩:=zV e;exact sem_build hC hop ht hi hz hzc hpl hxs hr h1
      ·rename_i len elem ht;split at e
       ·cases e
       ·rename_i m hm;split at e
        ·cases e
        ·rename_i r hr;obtain⟨h1,h2,rfl,rfl,rfl⟩:=zV e;exact qCE hC hop ht hi hz hzc hm hxs hr h1
      ·cases e
 ·rename_i t len ps hop;unfold yY at e;split at e
  ·rename_i elem ht;split at e
   ·cases e
   ·rename_i i hi;split at e
    ·cases e
    ·rename_i z hz;split at e
     ·cases e
     ·rename_i zc hzc;split at e
      ·cases e
      ·rename_i m hm;split at e
       ·cases e
       ·rename_i xs hxs;split at e
        ·cases e
        ·rename_i q hdst;cases hb:(Nat.beq z.cells.size m&&Nat.blt 0 m&&Nat.ble (len*m) 16777216&&Nat.blt q n&&Nat.beq xs.length len&&yY.inOrder 0 xs&&(xs.all fun p=>Nat.beq p.2.cells.length m&&wE0 p.2))with
         |false=>rw[hb]at e;cases e
         | true=>
          rw[hb]at e;cases e;simp only[Bool.and_eq_true]at hb;obtain⟨⟨⟨⟨⟨⟨b1,b2⟩,b3⟩,b4⟩,b5⟩,b6⟩,b7⟩:=hb;have hlen:=pV b5;have hzl:zc.length=m:=by have:=(wB5 (S:=fun _=>True) (w:=default) hzc).1.length;rw[this];have:=pV b1;simpa using this
          have hfl:=wWE (m:=m) (i:=0) (pre:=[]) (suf:=(List.replicate len zc).flatten) b6 b7 (by simp) (by rw[hlen];simp[hzl]);simp only[List.nil_append]at hfl;refine wUA hC hop ht hi hz hzc hm b1 b2 b3 hxs hfl ?_ (by simp[hlen]) hdst b4;rw[List.all_map];rw[mD]at b7 ⊢;intro p hp;have:=b7 p hp;simp only[Bool.and_eq_true]at this;exact this.1
  ·cases e
 ·rename_i t x hop;unfold vLoad at e;split at e
  ·rename_i d off hx;split at e
   ·rename_i cs hcs;split at e
    ·rename_i hag;split at e
     ·rename_i i T k es hy;split at e
      ·rename_i r hdst;cases hb:Nat.blt r n with
       |false=>rw[hb]at e;cases e
       |true=>rw[hb]at e;cases e;exact qG8 hC hop hx hcs hag hy hdst hb
      ·cases e
     ·rename_i y _ hy;obtain⟨h1,h2,rfl,rfl,rfl⟩:=zV e;exact sem_load hC hop hx hcs hag hy h2 h1
     ·cases e
    ·rename_i hag;split at e
     ·rename_i m hm;cases hb:Nat.beq ((cs.drop off).take m).length m with
      |false=>rw[hb]at e;cases e
      |true=>
       rw[hb]at e;simp only[cond_true]at e;split at e
       ·rename_i r hr;obtain⟨h1,h2,rfl,rfl,rfl⟩:=zV e;exact sem_loadA hC hop hx hcs hag hm hb hr h1
       ·cases e
     ·cases e
    ·cases e
   ·cases e
  ·rename_i c cs hx;split at e
   ·rename_i hag;obtain⟨h1,h2,rfl,rfl,rfl⟩:=zV e;exact sem_loadR hC hop (opb_v hx) hag h1
   ·rename_i hag;split at e
    ·rename_i m hm;cases hb:Nat.ble m (c::cs).length with
     |false=>rw[hb]at e;cases e
     |true=>rw[hb]at e;simp only[cond_true]at e;obtain⟨h1,h2,rfl,rfl,rfl⟩:=zV e;exact sem_loadRA hC hop (opb_v hx) hag hm (pI hb) h1
    ·cases e
   ·cases e
  ·cases e
 ·rename_i t p x hop;unfold vStore at e;split at e
  ·cases e
  ·rename_i hdst;split at e
   ·rename_i d off hp;split at e
    ·rename_i cs hcs;split at e
     ·rename_i i T k es hx;split at e
      ·rename_i s hs1;cases hb:Nat.blt off cs.length with
       |false=>rw[hb]at e;cases e
       |true=>
        rw[hb]at e;cases e;have hlt:off<cs.length:=by simpa using hb
        exact qCC hC hop hp hcs (qC9 hx) hs1 (pK hlt) hdst
      ·cases e
     ·rename_i y _ hx;split at e
      ·rename_i y' m hy hm;cases hb:(wE0 y'&&Nat.beq y'.cells.length m&&Nat.ble (off+m) cs.length)with
       |false=>rw[hb]at e;cases e
       |true=>rw[hb]at e;cases e;simp only[Bool.and_eq_true]at hb;exact sem_store hC hop hp hcs (by unfold opV;rw[hx];exact hy) (wNI hb.1.1) hm hb.1.2 hb.2 hdst
      ·cases e
     ·cases e
    ·cases e
   ·cases e
 ·rename_i x hop;unfold vNil at e;split at e
  ·rename_i d off hx;split at e
   ·rename_i cs hcs;obtain⟨h1,h2,rfl,rfl,rfl⟩:=zV e;exact wYC hop hx hcs h1
   ·cases e
  ·rename_i cs hx;obtain⟨h1,h2,rfl,rfl,rfl⟩:=zV e;exact wYA hop (opb_v hx) h1
  ·rename_i g a b hx;obtain⟨h1,h2,rfl,rfl,rfl⟩:=zV e;exact wYB hop (opb_v hx) h1
  ·cases e
 ·rename_i t x i hop;unfold wU0 at e;split at e
  ·rename_i fs ht;split at e
   ·cases e
   ·rename_i fd hfd;split at e
    ·rename_i m hm;split at e
     ·rename_i d off hx;split at e
      ·rename_i cs hcs;obtain⟨h1,h2,rfl,rfl,rfl⟩:=zV e;exact wYE hC hop hx hcs ht hfd hm h1
      ·cases e
     ·rename_i cs hx;obtain⟨h1,h2,rfl,rfl,rfl⟩:=zV e;exact wU8 hC hop (opb_v hx) ht hfd hm h1
     ·cases e
    ·cases e
  ·cases e
 ·rename_i t x i hop;unfold vField at e;split at e
  ·rename_i fs ht;split at e
   ·cases e
   ·rename_i fd hfd;split at e
    ·rename_i cs hx;split at e
     ·rename_i v hv;obtain⟨h1,h2,rfl,rfl,rfl⟩:=zV e;exact sem_field hC hop hx ht hfd hv h1
     ·cases e
    ·cases e
  ·cases e
 ·rename_i x i hop;unfold qFE at e;split at e
  ·rename_i vs hx;split at e
   ·rename_i y hy;obtain⟨h1,h2,rfl,rfl,rfl⟩:=zV e;exact qGA hop hx hy h1
   ·cases e
  ·cases e
 ·rename_i g a b hop;unfold vFunc at e;split at e
  ·rename_i xs ys h3 h4;obtain⟨h1,h2,rfl,rfl,rfl⟩:=zV e;exact qCD hop h3 h4 h1
  ·cases e
 ·rename_i t x hop;unfold vIface at e;split at e
  ·cases e
  ·cases e
  ·rename_i d hd' hd;split at e
   ·rename_i y hy;obtain⟨h1,h2,rfl,rfl,rfl⟩:=zV e;exact sem_iface hC hop hy hd (fun ms h=>hd' ms (by rw[←h])) h1
   ·cases e
 ·rename_i k hop;unfold vLen at e;split at e
  ·rename_i x t hk ha ht';split at e
   ·rename_i elem hu;split at e
    ·rename_i m hm;obtain⟨h1,h2,rfl,rfl,rfl⟩:=zV e;have ha':k.args=#[x]:=by rw[←dY (xs:=k.args),ha]
     have ht2:k.argTypes=#[t]:=by rw[←dY (xs:=k.argTypes),ht']
     exact sem_len hC hop hk ha' ht2 hu hm h1
    ·cases e
   ·cases e
  ·cases e
 ·rename_i t x hop;unfold vNot at e;split at e
  ·rename_i b hx;obtain⟨h1,h2,rfl,rfl,rfl⟩:=zV e;exact sem_not hop hx h1
  ·cases e
 grind
end
section
variable{P:Program}{C:Cx}{w0:Base}{n:Nat}{Q:vH}{st:St}
def frz1(f:Fm):Operand→List Nat×St
 | .tmp s=>match rootS f s with
  |some (d,_,_,_,es)=>(rdS f s,[(2*s,some (.sv (.v (.list es)))),(2*d,some (.sv (.v (.list es))))])
  | none=>match f (2*s)with
   | some (.sv (.bx d 0))=>match f (2*d+1)with
    |some (.bx cs)=>match asVs cs with
     |some r=>([2*s,2*d+1],[(2*s,some (.sv (.v (.ref r)))),(2*d+1,none)])
     |none=>([],[])
    |_=>([],[])
   |_=>([],[])
 |_=>([],[])
theorem wE5{rd:List Nat}{f:Fm}:wD1 w0 n rd [] f:=fun _ _ _ _ h=>h
theorem frz1_ok{f:Fm}{x:Operand}:wD1 w0 n (frz1 f x).1 (frz1 f x).2 f∧wE1 (frz1 f x).2=true:=by
 cases x with
 | tmp s=>
  simp only[frz1];split
  ·rename_i d id T k es h;exact⟨ghost_root h,rfl⟩
  ·split
   ·rename_i d hs;split
    ·rename_i cs hcs;split
     ·rename_i r hr;exact⟨ghost_box hs hcs hr,rfl⟩
     ·exact⟨wE5,rfl⟩
    ·exact⟨wE5,rfl⟩
   ·exact⟨wE5,rfl⟩
 |_=>exact⟨wE5,rfl⟩
def wLB(f:Fm):List Operand→List Nat×St
 |[]=>([],[])
 |x::l=>(frz1 f x |>.1)++(wLB (app (frz1 f x).2 f) l).1 |> fun rd=>(rd,(wLB (app (frz1 f x).2 f) l).2++(frz1 f x).2)
theorem qDF{a b:St}(h1:wE1 a=true)(h2:wE1 b=true):wE1 (a++b)=true:=by
 induction a with
 |nil=>exact h2
 | cons p a ih=>
  obtain⟨k,c⟩:=p;have h':wE1 a=true:=by
   unfold wE1 at h1
   grind
  have:=ih h';cases c with
  |none=>exact this
  | some c=>
   cases c with
   |bx _=>exact this
   |fam _ _ _=>exact this
   |sv y=>
    cases y with
    |bx _ _=>cases h1
    |rp _ _ _=>cases h1
    |al _ _=>cases h1
    |«at» _ _ _ _ _=>cases h1
    |_=>exact this
theorem wO5:∀{l:List Operand}{f:Fm},wD1 w0 n (wLB f l).1 (wLB f l).2 f∧wE1 (wLB f l).2=true
 |[],_=>⟨wE5,rfl⟩
 |x::l,f=>by
  have h1:=frz1_ok (w0:=w0) (n:=n) (f:=f) (x:=x);have h2:=wO5 (l:=l) (f:=app (frz1 f x).2 f);refine⟨fun g hg a w hh=>?_,qDF h2.2 h1.2⟩;have e1:=h1.1 g (fun k hk=>hg k (cR _ hk)) a w hh;have e2:=h2.1 (app (frz1 f x).2 g) (fun k hk=>qB9 _ (hg k (cH _ hk))) a w e1
  simp_all [Hs,app,wLB,frz1,wY1]
theorem frzL_np{l:List Operand}{f:Fm}:wE1 (wLB f l).2=true:=(wO5 (w0:=⟨default,fun _=>True,fun _=>True,none,0,pG _,true⟩) (n:=0)).2
def frzO(o:Oper):List Operand:=
 match o.op with
 |.box _ x=>[x]
 |.build _ ps=>ps.toList.map (·.2)
 |.buildSlice _ _ ps=>ps.toList.map (·.2)
 |.makeInterface _ x=>[x]
 |.makeFunc _ a b=>a.toList++b.toList
 |.call k=>match k.callee with
  |.builtin .append=>k.args.toList.drop 1
  |.builtin _=>[]
  |_=>k.args.toList
 |.store _ _ x=>[x]
 |_=>[]
section
variable{id:Nat}{ops:Array Oper}{dr:Bool}{st0:St}{k:Nat}{acc:List Stp}{o:Oper}{rd:List Nat}{nw:List (Nat×Nat)}{u:St}
def gRd(n:Nat)(ops:Array Oper)(f:Fm)(o:Oper):Option (List Nat):=
 match o.guard with
 |none=>some []
 | some (j,b)=>match gSlot ops j with
  |none=>none
  |some d=>match f (2*d)with
   |some (.sv (.v (.bool c)))=>bif Nat.blt d n&&(c==b)then some [2*d]else none
   |_=>none
theorem rr_g{gr:List Nat}(ho:ops.toList[k]? = some o)(hg:gRd n ops (lk st) o=some gr)(h:wQ P w0 n o rd u nw (lk st))(hn:nw.all (y4 st)=true)(hk:RR P w0 n id ops dr Q st0 (k+1) (⟨gr++rd,u,nw⟩::acc) (u++st)):RR P w0 n id ops dr Q st0 k acc st:=by
 unfold gRd at hg;split at hg
 ·grind [rr_op]
 ·rename_i j b hgd;split at hg
  ·cases hg
  ·rename_i d hd;split at hg
   ·rename_i c hc;cases hb:(Nat.blt d n&&(c==b))with
    |false=>rw[hb]at hg;cases hg
    |true=>rw[hb]at hg;cases hg;simp only[Bool.and_eq_true,beq_iff_eq]at hb;obtain⟨h1,rfl⟩:=hb;exact rr_want (by simpa using ho) hgd hd h1 hc h hn hk
   grind
theorem rr_v(hC:CxOk P C){gr:List Nat}(ho:ops.toList[k]? = some o)(hg:gRd n ops (lk st) o=some gr)(h:vop C (id*1000+k+1) n (lk st) o=some (rd,u,nw))(hn:nw.all (y4 st)=true)(hk:RR P w0 n id ops dr Q st0 (k+1) (⟨gr++rd,u,nw⟩::acc) (u++st)):RR P w0 n id ops dr Q st0 k acc st:=
 rr_g ho hg (wTJ hC h) hn hk
theorem rr_opf{gr:List Nat}{g:List Nat×St}(ho:ops.toList[k]? = some o)(hg:gRd n ops (lk st) o=some gr)(hf:wLB (lk st) (frzO o)=g)(h:wQ P w0 n o rd u nw (lk (g.2++st)))(hn:nw.all (y4 st)=true)(hk:RR P w0 n id ops dr Q st0 (k+1) (⟨gr++(rd++g.1),u++g.2,nw⟩::acc) ((u++g.2)++st)):RR P w0 n id ops dr Q st0 k acc st:=by subst hf;exact rr_g ho hg (wQ.ghost wO5.1 frzL_np (by simp_all [zN])) hn hk
theorem rr_vf(hC:CxOk P C){gr:List Nat}{g:List Nat×St}(ho:ops.toList[k]? = some o)(hg:gRd n ops (lk st) o=some gr)(hf:wLB (lk st) (frzO o)=g)(h:vop C (id*1000+k+1) n (lk (g.2++st)) o=some (rd,u,nw))(hn:nw.all (y4 st)=true)(hk:RR P w0 n id ops dr Q st0 (k+1) (⟨gr++(rd++g.1),u++g.2,nw⟩::acc) ((u++g.2)++st)):RR P w0 n id ops dr Q st0 k acc st:=
 rr_opf ho hg hf (wTJ hC h) hn hk
theorem rr_call(hC:CxOk P C){gr:List Nat}{c:Call}{x:Operand}{f:FuncId}{fn:Func}{fs cs args xs:List V}{y y':V}(ho:ops.toList[k]? = some o)(hg:gRd n ops (lk st) o=some gr)(hop:o.op=.call c)(hk:c.callee=.value x)(hx:opv (lk st) x=some (.v (.clo f fs cs)))(hargs:yF (lk st) c.args.toList=some args)(hfn:C.fns.get f=some fn)(hl:fs++args++cs=xs)(hcall:wJ P f xs (fun z=>z=y))(hy:y=y')(hd:dLt n o.dst=true)(h:RR P w0 n id ops dr Q st0 (k+1) (⟨gr++(rdO x++rdL c.args.toList),dput o.dst (some (.sv (.v y'))),[]⟩::acc) (dput o.dst (some (.sv (.v y')))++st)):RR P w0 n id ops dr Q st0 k acc st:=by subst hl hy;exact rr_g ho hg (qGB hC hop hk hx hargs hfn hcall hd) rfl h
theorem qGG(hC:CxOk P C){gr:List Nat}{c:Call}{x:Operand}{f:FuncId}{fn:Func}{fs cs args xs:List V}{y y':V}{g:List Nat×St}(ho:ops.toList[k]? = some o)(hg:gRd n ops (lk st) o=some gr)(hf:wLB (lk st) (frzO o)=g)(hop:o.op=.call c)(hk:c.callee=.value x)(hx:opv (lk (g.2++st)) x=some (.v (.clo f fs cs)))(hargs:yF (lk (g.2++st)) c.args.toList=some args)(hfn:C.fns.get f=some fn)(hl:fs++args++cs=xs)(hcall:wJ P f xs (fun z=>z=y))(hy:y=y')(hd:dLt n o.dst=true)(h:RR P w0 n id ops dr Q st0 (k+1) (⟨gr++((rdO x++rdL c.args.toList)++g.1),dput o.dst (some (.sv (.v y')))++g.2,[]⟩::acc) ((dput o.dst (some (.sv (.v y')))++g.2)++st)):RR P w0 n id ops dr Q st0 k acc st:=by subst hl hy;exact rr_opf ho hg hf (qGB hC hop hk hx hargs hfn hcall hd) rfl h
theorem qG9(hC:CxOk P C){x:Operand}{c:Call}{t elem:TypeId}{m m':Nat}(hop:o.op=.call c)(hk:c.callee=.builtin .len)(ha:c.args=#[x])(ht:c.argTypes=#[t])(hu:C.und t=some (.slice elem))(hl:lenV (lk st) x=some m)(hm:m=m')(hd:dLt n o.dst=true):wQ P w0 n o (rdR (lk st) x) (dput o.dst (some (.sv (.v (.int .i64 (m':Nat)))))) [] (lk st):=by grind [sem_len]
theorem wA9(hC:CxOk P C){t elem:TypeId}{x y:Operand}{sz i:Nat}{q:Int}{ki:IntKind}{es:List (List V)}{e:List V}(hop:o.op=.indexAddr t x y)(hx:opv (lk st) x=some (.v (.list es)))(hy:opv (lk st) y=some (.v (.int ki q)))(hq:q=(i:Nat))(ht:C.und t=some (.slice elem))(hs:C.size elem=some sz)(hi:es[i]? = some e)(hl:e.length=sz)(hd:dLt n o.dst=true):wQ P w0 n o (rdO x++rdO y) (dput o.dst (some (.sv (.v (.ref e))))) [] (lk st):=by grind [wYD]
theorem zD(hC:CxOk P C){t elem:TypeId}{x y:Operand}{s id k i r:Nat}{q:Int}{ki:IntKind}{T:TypeId}{es:List (List V)}(hop:o.op=.indexAddr t x y)(hx:root (lk st) x=some (s,id,T,k,es))(hy:opv (lk st) y=some (.v (.int ki q)))(hq:q=(i:Nat))(ht:C.und t=some (.slice elem))(hs:C.size elem=some k)(hi:i<es.length)(hdst:o.dst=some r)(hne:Nat.beq r s=false)(hd:Nat.blt r n=true):wQ P w0 n o (rdR (lk st) x++rdO y) [(2*r,some (.sv (.at s id k i 0)))] [] (lk st):=by grind [wP8]
theorem qG4(hC:CxOk P C){t elem:TypeId}{x y:Operand}{es:List (List V)}{h k:Nat}{q:Int}{ki:IntKind}(hop:o.op=.slice t x none (some y) none)(hx:opv (lk st) x=some (.v (.list es)))(hy:opv (lk st) y=some (.v (.int ki q)))(hq:q=(h:Nat))(ht:C.und t=some (.slice elem))(hs:C.size elem=some k)(hk:∀e∈es,e.length=k)(h2:h≤es.length){es':List (List V)}(he:es.take h=es')(hd:dLt n o.dst=true):wQ P w0 n o (rdO x++rdO y) (dput o.dst (some (.sv (.v (.list es'))))) [] (lk st):=by
 subst hq he;have:=wZE (l:=0) (h:=h) hC hop hx ht hs hk (fun _ _ _ _ _ _=>rfl) (fun _=>rfl) (wXG (x:=some y) (m:=some h) (by simp[bnd,hy])) (fun e=>by cases e) (pG _) h2 hd (P:=P) (w0:=w0)
 simp_all [rdOO]
theorem wK4(hC:CxOk P C){t elem:TypeId}{x y:Operand}{es:List (List V)}{l k:Nat}{q:Int}{ki:IntKind}(hop:o.op=.slice t x (some y) none none)(hx:opv (lk st) x=some (.v (.list es)))(hy:opv (lk st) y=some (.v (.int ki q)))(hq:q=(l:Nat))(ht:C.und t=some (.slice elem))(hs:C.size elem=some k)(hk:∀e∈es,e.length=k)(h2:l≤es.length){es':List (List V)}(he:es.drop l=es')(hd:dLt n o.dst=true):wQ P w0 n o (rdO x++rdO y) (dput o.dst (some (.sv (.v (.list es'))))) [] (lk st):=by
 subst hq he;have:=wZE (l:=l) (h:=es.length) hC hop hx ht hs hk (wXG (x:=some y) (m:=some l) (by simp[bnd,hy])) (fun e=>by cases e) (fun _ _ _ _ _ _=>rfl) (fun _=>rfl) h2 (pC _) hd (P:=P) (w0:=w0)
 simp_all [rdOO]
theorem wGE{j d:Nat}{b:Bool}(ho:ops.toList[k]? = some o)(hg:o.guard=some (j,b))(hj:gSlot ops j=some d)(hd:Nat.blt d n=true)(hv:lk st (2*d)=some (.sv (.v (.bool (!b)))))(hdd:dLt n o.dst=true)(hk:RR P w0 n id ops dr Q st0 (k+1) (⟨[2*d],dput o.dst none,[]⟩::acc) (dput o.dst none++st)):RR P w0 n id ops dr Q st0 k acc st:=
 rr_unwant (by simp_all) hg hj hd hv hdd hk
theorem vw_condT{c:Operand}{x y:Code}(hc:opv (lk st) c=some (.v (.bool true)))(h:VW P w0 n x Q st):VW P w0 n (.cond c x y) Q st:=vw_cond hc (fun _=>h) (fun h=>by cases h)
theorem vw_condF{c:Operand}{x y:Code}(hc:opv (lk st) c=some (.v (.bool false)))(h:VW P w0 n y Q st):VW P w0 n (.cond c x y) Q st:=vw_cond hc (fun h=>by cases h) (fun _=>h)
theorem ndT{p:Prop}[Decidable p](h:¬p):(!decide p)=true:=by simp[h]
theorem ndF{p:Prop}[Decidable p](h:p):(!decide p)=false:=by simp[h]
theorem wTC{n:Int}(h1:-9223372036854775808≤n)(h2:n<9223372036854775808):ewrap .i64 n=n:=by grind [jA,IntKind.wrap,IntKind.bits,IntKind.signed]
theorem wKF{n:Int}:ewrap .u64 n=n%18446744073709551616:=by grind [jA,IntKind.wrap,IntKind.bits,IntKind.signed]
theorem wTB{n:Int}:ewrap .u32 n=n%4294967296:=by grind [jA,IntKind.wrap,IntKind.bits,IntKind.signed]
theorem j6{n:Int}(h1:0≤n)(h2:n<18446744073709551616):ewrap .u64 n=n:=by grind [wKF]
theorem wH7{n:Int}(h1:0≤n)(h2:n<4294967296):ewrap .u32 n=n:=by grind [wTB]
end
end
section
variable{P:Program}{C:Cx}{w0:Base}{w w':World}{n:Nat}{β:Bl}{f st:Fm}{a:Act}{o:Oper}
theorem HB.newOwnS(h:HB w0 n β f a w){r:Nat}(hd:r<n){id:Nat}(hn0:wC6 f (2*r) 0)(hn:wC6 f (2*r) id)(hw:Below w.heap.size w w'){T:TypeId}{k:Nat}{es:List (List V)}{u:Value}{us:List Value}(ho:w'.ownsRow w0.lo T k u es.length us)(hes:∀e∈es,e.length=k∧wX e=true){S2:Nat→Prop}(hr:RepL S2 w' es.flatten us)(hS2:∀b,S2 b→qM β b∧u.ownBlock≠some b)(hb:∀B,u.ownBlock=some B→w.heap.size≤B):Hs w0 n (app [(2*r,some (.sv (.own id T k es)))] f) (a.put (some r) u) w':=by
 have h1:=(h.drop (2*r)).bind (K:=2*r) (o:=u.ownBlock) hw (fun B hB=>⟨hb B hB,(yS ho hB).2⟩) (upd_same _ _ _) (hn0.drop _);have h2:=h1.putO (d:=r) hd (id:=id) (T:=T) (k:=k) (es:=es) (u:=u) (hn.drop _) ⟨hes,(j9 _ _ _ _).symm,us,ho,hr.mono fun b hb' _ k' j' e=>by
  unfold upB at e;split at e
  ·grind
  ·exact(hS2 b hb').1 _ _ e⟩
 rw[wMD]at h2;rw[app1];exact⟨_,h2⟩
def wOI(P:Program)(g:FuncId)(xs:List V)(T:TypeId)(k:Nat)(es:List (List V)):Prop:=
 ∀(S:Nat→Prop)(w:World)(us:List Value),RepL S w xs us→Calls P g us.toArray w fun e w'=>∃v vs,e=.returned v∧w'.ownsRow w.heap.size T k v es.length vs∧(∀e∈es,e.length=k∧wX e=true)∧RepL (fun b=>(S b∨w.heap.size≤b)∧v.ownBlock≠some b) w' es.flatten vs∧Below w.heap.size w w'
theorem wOI.v{g:FuncId}{xs:List V}{T:TypeId}{k:Nat}{es:List (List V)}(h:wOI P g xs T k es):wJ P g xs (fun y=>y=.list es):=fun S w us hu=>(h S w us hu).mono fun e w' ⟨v,vs,h1,h2,h3,h4,h5⟩=>by
 refine⟨v,_,h1,rfl,?_,h5⟩
 have:jE w.heap.size (fun b=>(S b∨w.heap.size≤b)∧v.ownBlock≠some b) w' (fun _ _=>v.ownBlock) 0 0 (.own 0 T k es) v:=⟨h3,rfl,vs,h2,h4⟩
 exact wSI this (fun b hb=>hb.1) fun B hB=>.inr (h2.lt B hB).1
theorem sem_callO(hC:CxOk P C){k:Call}{x:Operand}{g:FuncId}{fn:Func}{fs cs args xs:List V}{T:TypeId}{q r id:Nat}{es:List (List V)}(hop:o.op=.call k)(hk:k.callee=.value x)(hx:opv st x=some (.v (.clo g fs cs)))(hargs:yF st k.args.toList=some args)(hfn:C.fns.get g=some fn)(hl:fs++args++cs=xs)(hcall:wOI P g xs T q es)(hdst:o.dst=some r)(hd:Nat.blt r n=true):wQ P w0 n o (rdO x++rdL k.args.toList) [(2*r,some (.sv (.own id T q es)))] [(2*r,id),(2*r,0)] st:=by
 intro f hf hn a w ⟨β,hh⟩ K Q hK;subst hl;obtain⟨h1,h2⟩:=qZ hf;have e1:=hh.val (x:=x) (y:=.clo g fs cs) (by simp_all [wN]);have e2:=hh.args (l:=k.args.toList) (r:=args) (by simp_all [yZ]);generalize hu:a.eval x=u at e1;cases e1 with
 | @clo _ _ _ us vs hfs hcs=>
  obtain⟨hf1,hf2⟩:=hC.fns g fn hfn;have hrun:(execOp a.eval o).run P w=.ok (.enter g (us++k.args.toList.map a.eval++vs).toArray) w:=by
   have hm:(us.toArray++k.args.map a.eval)++vs.toArray=(us++k.args.toList.map a.eval++vs).toArray:=by apply bU;simp
   simp only[execOp,hop,resolve,hk,hu,Deferred.ofValue,Sem.run_bind,Sem.run_pure,Result.andThen_ok,invoke]
   simp_all
  unfold Oper.wp;rw[hrun,Oper.upon_enter];refine Calls.mono (hcall (qM β) w _ ((hfs.append e2).append hcs)) ?_;rintro e w' ⟨v,vs',rfl,ho,hes,hr,hb⟩;dsimp only;rw[hdst];refine hK _ _ ?_;have ho':w'.ownsRow w0.lo T q v es.length vs':=by
   refine⟨ho.1,?_⟩;rcases ho.2 with h|⟨g',cap,cur,e2,e3,e4⟩
   ·simp_all
   ·exact .inr ⟨g',cap,cur,e2,pD (pD w0.lole hh.base) e3,e4⟩
  refine hh.newOwnS (by simp_all) (hn (2*r,0) (by simp)) (hn (2*r,id) (by simp)) hb ho' hes hr (fun b hb'=>⟨?_,hb'.2⟩) (fun B hB=>(ho.lt B hB).1);rcases hb'.1 with h|h
  ·exact h
  ·intro k' j' e;have:=(hh.rng _ _ _ e).2;omega
theorem wU9(hC:CxOk P C){t elem:TypeId}{x y:Operand}{s r id id' k h:Nat}{q:Int}{ki:IntKind}{T:TypeId}{es es':List (List V)}(hop:o.op=.slice t x none (some y) none)(hx:root st x=some (s,id,T,k,es))(hy:opv st y=some (.v (.int ki q)))(hq:q=(h:Nat))(ht:C.und t=some (.slice elem))(hs:C.size elem=some k)(h2:h≤es.length)(he:es.take h=es')(hdst:o.dst=some r)(hne:Nat.beq r s=false)(hd:Nat.blt r n=true):wQ P w0 n o (rdR st x++rdO y) [(2*r,some (.sv (.own id' T k es'))),(2*s,none)] [(2*r,id'),(2*r,0)] st:=by
 subst hq he;intro f hf hn a w ⟨β,hh⟩ K Q hK;have h1:∀j∈rdR st x,f j=st j:=fun j hj=>hf j (cR _ hj);have h3:∀j∈rdO y,f j=st j:=fun j hj=>hf j (cH _ hj);obtain⟨hq,hev⟩:=hh.root (x:=x) (by rw[wB9 h1];exact hx);have e2:=hh.val (x:=y) (y:=.int ki (h:Nat)) (by rw[wN h3];exact hy);generalize hv:a.eval y=v at e2;cases e2;obtain⟨a1,a2,us,a3,a4⟩:=hh.slot s _ hq;have hrs:r≠s:=fun e=>by subst e;simp at hne
 obtain⟨u',hrun,hown,hblk⟩:∃u',(execOp a.eval o).run P w=.ok (.value u') w∧w.ownsRow w0.lo T k u' (es.take h).length (us.take (h*k))∧u'.ownBlock=(a.tmps.getD s undef).ownBlock:=by
  have hlen:(es.take h).length=h:=by simp;omega
  have hsb:∀cap,h≤cap→(Instr.sliceBounds true es.length cap none (some (.int ki (h:Nat))) none).run P w=.ok (0,h,cap) w:=by
   intro cap hcap;have:=(yK (P:=P) (w:=w) (len:=es.length) (cap:=cap) (cc:=cap) (lo:=none) (hi:=some h) (mx:=none) (l:=0) (h:=h) (m:=cap) (by
    unfold yD;simp only[Option.getD_none,Option.getD_some];have b1:Nat.ble cap cap=true:=by rw[fK];exact pC _
    have b2:Nat.ble h cap=true:=by rw[fK];exact hcap
    have b3:Nat.ble 0 h=true:=by rw[fK];exact pG _
    rw[b1,b2,b3];rfl) (pC _) (vl:=none) (vh:=some (.int ki (h:Nat))) (vm:=none) rfl ⟨ki,rfl⟩ rfl).1
   simpa using this
  rcases a3.2 with⟨hval,h0⟩|⟨g,cap,cur,hval,hb,hg,hc,hm,hcs,htk⟩
  ·have h00:h=0:=by omega
   subst h00;have:=hsb 0 (pC _);rw[h0]at this;simp only[Int.natCast_zero]at this hv;refine⟨.slice none 0 0,?_,?_,by rw[hval]⟩
   ·simp[execOp,hop,hev,hval,hv,Instr.sliceAt,wP hC ht,Instr.slice,this,wZ hC hs]
   ·simp only[List.take_zero,List.length_nil,Nat.zero_mul];exact World.ownsRow_nil _ _ _ _
  ·have:=hsb cap (by omega);refine⟨.slice (some ⟨g,0,none⟩) h cap,?_,?_,by rw[hval];rfl⟩
   ·simp[execOp,hop,hev,hval,hv,Instr.sliceAt,wP hC ht,Instr.slice,this,wZ hC hs,Addr.add]
   ·rw[hlen];have hhk:h*k≤es.length*k:=mM _ h2;refine⟨by rw[mG,a3.1];omega,.inr ⟨g,cap,cur,rfl,hb,hg,by omega,hm,hcs,?_⟩⟩;rw[←htk,gH,dG hhk]
 unfold Oper.wp;rw[hrun,Oper.upon_value,hdst];refine hK _ _ ?_;have hS:∀b,qM β b→b<w.heap.size→qM (upB (upB β (2*s) 0 none) (2*r) 0 (β (2*s) 0)) b∧w.heap[b]? = w.heap[b]?:=fun b hb hl=>⟨fun k j e=>by
   unfold upB at e;split at e
   ·exact hb _ _ e
   ·split at e
    ·cases e
    ·exact hb _ _ e,rfl⟩
 have h5:=((hh.drop (2*s)).drop (2*r)).xfer (w':=w) (K1:=2*s) (J1:=0) (K2:=2*r) (J2:=0) (o:=β (2*s) 0) (jP _ _) (.inl rfl) (wOC (by rw[upd_ne _ _ (by omega),upd_same])) (wOC (upd_same _ _ _)) (fun _=>((hn (2*r,0) (by simp)).drop _).drop _);have h7:=h5.putO (d:=r) (by simpa using hd) (id:=id') (T:=T) (k:=k) (es:=es.take h) (u:=u') (((hn (2*r,id') (by simp)).drop _).drop _) ⟨fun e he=>a1 e (dE he),by rw[hblk,a2,j9],_,hown,by rw[wJB fun e he=>(a1 e he).1];exact(a4.take _).keep hS⟩
 refine⟨_,h7.less fun K' c e=>?_⟩;rw[yE,app1]at e
 simp_all [upd,if_pos,if_neg]
def retO(t:Tmp)(T:TypeId)(k:Nat)(es:List (List V)):vH:=fun e st=>(e=.ret∨e=.normal)∧∃s id,rootS (lk st) t=some (s,id,T,k,es)
end
theorem wY7{P:Program}{g n k:Nat}{t:Tmp}{T:TypeId}{fn:Func}{c:Code}{xs:List V}{es:List (List V)}(hf:P.funcs[g]? = some fn)(hb:fn.body=some c)(hnt:fn.ntmps=n)(hres:fn.results.toList=[.tmp t])(hn:Nat.ble xs.length n=true)(h:∀w0,VW P w0 n c (retO t T k es) (wH1 0 xs)):wOI P g xs T k es:=by
 intro S w us hus;refine wS3 _ hf hb hnt hn hus (fun w0 _ _=>h w0) fun e st hq=>?_;obtain⟨he,s,id,hr⟩:=hq;refine⟨he,fun β a w' hB=>?_⟩;obtain⟨r1,r2⟩:=hB.root (x:=.tmp t) hr;obtain⟨a1,a2,vs,a3,a4⟩:=hB.slot s _ r1;have r3:a.tmps.getD t undef=a.tmps.getD s undef:=r2;have hres':fn.results=#[.tmp t]:=by grind
 refine⟨a.tmps.getD t undef,results_tmp hres' a.tmps P w',a.tmps.getD t undef,vs,rfl,by simp_all,a1,a4.mono fun b hb' hlt=>⟨hB.ends b (.inl hb'),?_⟩,hB.bel.below fun _ _=>trivial⟩;rw[r3,a2];exact hb' _ _
theorem ew64(n:Nat):ewrap .u64 (n:Int)=((n%18446744073709551616:Nat):Int):=by rfl
theorem ew32(n:Nat):ewrap .u32 (n:Int)=((n%4294967296:Nat):Int):=by rfl
theorem nAdd64{a b r:Nat}(h:a+b=r)(hr:r<18446744073709551616):ewrap .u64 ((a:Int)+(b:Int))=(r:Int):=by grind [wKF]
theorem nSub64{a b r:Nat}(h:(a+18446744073709551616-b)%18446744073709551616=r)(hb:b≤18446744073709551616):ewrap .u64 ((a:Int)-(b:Int))=(r:Int):=by grind [wKF]
theorem nMul64{a b r:Nat}(h:a*b=r)(hr:r<18446744073709551616):ewrap .u64 ((a:Int)*(b:Int))=(r:Int):=by grind [Int.natCast_mul,ew64,Nat.mod_eq_of_lt]
theorem nQuo64{a b r:Nat}(h:a/b=r)(ha:a<18446744073709551616):ewrap .u64 ((a:Int).tdiv (b:Int))=(r:Int):=by
 subst h;have h2:=cO a b
 grind [Int.natCast_ediv,Int.tdiv_eq_ediv_of_nonneg,Int.natCast_nonneg,ew64,Nat.mod_eq_of_lt]
theorem nRem{a b r:Nat}(h:a%b=r):(a:Int).tmod (b:Int)=(r:Int):=by grind
theorem orW(w a b:Nat):(BitVec.ofInt w (a:Int) ||| BitVec.ofInt w (b:Int)).toNat=(a%2^w) ||| (b%2^w):=by rfl
theorem andW(w a b:Nat):(BitVec.ofInt w (a:Int) &&& BitVec.ofInt w (b:Int)).toNat=(a%2^w) &&& (b%2^w):=by rfl
theorem nOr64{a b r:Nat}(h:a ||| b=r)(ha:a<18446744073709551616)(hb:b<18446744073709551616):ewrap .u64 ((BitVec.ofInt IntKind.u64.bits (a:Int) ||| BitVec.ofInt IntKind.u64.bits (b:Int)).toNat:Int)=(r:Int):=by
 subst h;have hl:a ||| b<18446744073709551616:=Nat.or_lt_two_pow (n:=64) ha hb
 have:(BitVec.ofInt IntKind.u64.bits (a:Int) ||| BitVec.ofInt IntKind.u64.bits (b:Int)).toNat=a ||| b:=by rw[orW];rw[show 2^IntKind.u64.bits=18446744073709551616 from rfl,mX ha,mX hb]
 grind [ew64,Nat.mod_eq_of_lt]
theorem nOr32{a b r:Nat}(h:a ||| b=r)(ha:a<4294967296)(hb:b<4294967296):ewrap .u32 ((BitVec.ofInt IntKind.u32.bits (a:Int) ||| BitVec.ofInt IntKind.u32.bits (b:Int)).toNat:Int)=(r:Int):=by
 subst h;have hl:a ||| b<4294967296:=Nat.or_lt_two_pow (n:=32) ha hb
 have:(BitVec.ofInt IntKind.u32.bits (a:Int) ||| BitVec.ofInt IntKind.u32.bits (b:Int)).toNat=a ||| b:=by rw[orW];rw[show 2^IntKind.u32.bits=4294967296 from rfl,mX ha,mX hb]
 grind [ew32,Nat.mod_eq_of_lt]
theorem nAnd32{a r:Nat}(h:a%4294967296=r)(ha:a<18446744073709551616):ewrap .u64 ((BitVec.ofInt IntKind.u64.bits (a:Int) &&& BitVec.ofInt IntKind.u64.bits (4294967295:Int)).toNat:Int)=(r:Int):=by
 subst h;have hl:a%4294967296<18446744073709551616:=by omega
 have:(BitVec.ofInt IntKind.u64.bits (a:Int) &&& BitVec.ofInt IntKind.u64.bits (4294967295:Int)).toNat=a%4294967296:=by have e:(4294967295:Int)=((4294967295:Nat):Int):=rfl;rw[e,andW];rw[show 2^IntKind.u64.bits=18446744073709551616 from rfl,mX ha,mX (show 4294967295<18446744073709551616 by decide)];exact Nat.and_two_pow_sub_one_eq_mod a 32
 grind [ew64,Nat.mod_eq_of_lt]
section
variable{P:Program}{C:Cx}{w0:Base}{n:Nat}{f:Fm}{st:St}{o:Oper}
theorem wDE{t yt:TypeId}{x y:Operand}{k:IntKind}{m m' r':Int}(hop:o.op=.binOp .quo t x y yt)(hx:opv (lk st) x=some (.v (.int k m)))(hy:opv (lk st) y=some (.v (.int k m')))(h0:m'≠0)(hr:ewrap k (m.tdiv m')=r')(hd:dLt n o.dst=true):wQ P w0 n o (rdO x++rdO y) (dput o.dst (some (.sv (.v (.int k r'))))) [] (lk st):=sem_quo hop hx hy h0 hr hd
theorem kQ{t yt:TypeId}{x y:Operand}{k:IntKind}{m m' r':Int}(hop:o.op=.binOp .rem t x y yt)(hx:opv (lk st) x=some (.v (.int k m)))(hy:opv (lk st) y=some (.v (.int k m')))(h0:m'≠0)(hr:m.tmod m'=r')(hd:dLt n o.dst=true):wQ P w0 n o (rdO x++rdO y) (dput o.dst (some (.sv (.v (.int k r'))))) [] (lk st):=by
 subst hr
 grind [sem_rem]
theorem xX{t yt:TypeId}{x y:Operand}{k k':IntKind}{a s r:Nat}{q:Int}(hop:o.op=.binOp .shl t x y yt)(hx:opv (lk st) x=some (.v (.int k (a:Nat))))(hy:opv (lk st) y=some (.v (.int k' q)))(hq:q=(s:Nat))(hs:s≤k.bits)(hr:ewrap k ((a*2^s:Nat):Int)=(r:Nat))(hd:dLt n o.dst=true):wQ P w0 n o (rdO x++rdO y) (dput o.dst (some (.sv (.v (.int k (r:Nat)))))) [] (lk st):=by
 subst hq;refine wZF hop hx hy (.inl rfl) (r:=ewrap k ((a*2^s:Nat):Int)) ?_ hr hd
 simp_all [wLE,if_neg,Int.toNat_natCast,Nat.min_eq_left,Int.natCast_mul]
theorem y0{t yt:TypeId}{x y:Operand}{k k':IntKind}{a s r:Nat}{q:Int}(hop:o.op=.binOp .shr t x y yt)(hx:opv (lk st) x=some (.v (.int k (a:Nat))))(hy:opv (lk st) y=some (.v (.int k' q)))(hq:q=(s:Nat))(hs:s≤k.bits)(hr:a/2^s=r)(hd:dLt n o.dst=true):wQ P w0 n o (rdO x++rdO y) (dput o.dst (some (.sv (.v (.int k (r:Nat)))))) [] (lk st):=by
 subst hq;refine wZF hop hx hy (.inr rfl) (r:=(r:Nat)) ?_ rfl hd;unfold wLE
 grind
theorem wAG(hC:CxOk P C){t elem:TypeId}{x y:Operand}{kl kc:IntKind}{l c r id:Nat}{ql qc:Int}{i:TypeInfo}{z:Value}{zc:List V}{es':List (List V)}{m:Nat}(hop:o.op=.makeSlice t x y)(hx:opv (lk st) x=some (.v (.int kl ql)))(hy:opv (lk st) y=some (.v (.int kc qc)))(hql:ql=(l:Nat))(hqc:qc=(c:Nat))(ht:C.und t=some (.slice elem))(hi:C.tys.get elem=some i)(hz:i.zero=some z)(hsz:Nat.beq z.cells.size i.size=true)(hzc:toVs z.cells.toList=some zc)(hlc:l≤c){bb:Nat}(hbb:i.bytes=bb)(hb:bb*c≤281474976710656)(h63:c≤maxLen)(hdst:o.dst=some r)(hd:Nat.blt r n=true)(hm:i.size=m)(he:List.replicate l zc=es') :
  wQ P w0 n o (rdO x++rdO y) [(2*r,some (.sv (.own id elem m es')))] [(2*r,id),(2*r,0)] (lk st):=by
 grind [sem_make]
theorem zW(hC:CxOk P C){t:TypeId}{p x:Operand}{d id k i off m:Nat}{T:TypeId}{es es':List (List V)}{e:List V}{y:V}(hop:o.op=.store t p x)(hp:opv (lk st) p=some (.at d id k i off))(hb:lk st (2*d)=some (.sv (.own id T k es)))(hi:es[i]? = some e)(hx:opV (lk st) x=some y)(hnt:wE0 y=true)(hs:C.size t=some m)(hm:y.cells.length=m)(hfit:off+m≤k)(hdst:o.dst=none)(he:es.set i (over e off y.cells)=es') :
  wQ P w0 n o (rdO p++(rdO x++[2*d])) [(2*d,some (.sv (.own id T k es')))] [] (lk st):=by
 grind [qG3]
theorem kH(hC:CxOk P C){t:TypeId}{x:Operand}{d id k i off:Nat}{T:TypeId}{es:List (List V)}{e:List V}{y:V}(hop:o.op=.load t x)(hx:opv (lk st) x=some (.at d id k i off))(hb:lk st (2*d)=some (.sv (.own id T k es)))(hi:es[i]? = some e)(ht:C.isAgg t=some false)(hy:e[off]? = some y)(hd:dLt n o.dst=true):wQ P w0 n o (rdO x++[2*d]) (dput o.dst (some (.sv (.v y)))) [] (lk st):=sem_loadAt hC hop hx hb hi ht hy hd
theorem xQ(hC:CxOk P C){k:Call}{t elem:TypeId}{x y:Operand}{i:TypeInfo}{z:Value}{q m id:Nat}{so:Option Nat}{es es2 es':List (List V)}(hop:o.op=.call k)(hk:k.callee=.builtin .append)(hargs:k.args=#[x,y])(hts:k.argTypes=#[t,t])(ht:C.und t=some (.slice elem))(hi:C.tys.get elem=some i)(hz:i.zero=some z)(hsz:(Nat.beq z.cells.size i.size&&Nat.blt 0 i.size)=true)(hm:i.size=m)(hes:ownOf elem m (lk st) x=some (so,es))(hy:opV (lk st) y=some (.list es2))(hek:∀e∈es2,e.length=m){bb:Nat}(hbb:i.bytes=bb)(h63:es.length+es2.length≤maxLen)(hb:(es.length+es2.length)*bb≤140737488355328)(hdst:o.dst=some q)(hd:Nat.blt q n=true)(he:es++es2=es') :
  wQ P w0 n o (rdR (lk st) x++rdO y) ((2*q,some (.sv (.own id elem m es')))::clr so) [(2*q,id),(2*q,0)] (lk st):=by
 grind [sem_append]
end
section
variable{P:Program}{w0:Base}{n:Nat}{Q:vH}{st:St}
def joinV{B:Type}(l:Nat)(T:B→St)(I:B→Prop)(Q:vH):vH:=fun e st=>
 match e with
 |.exit k=>if k=l then ∃b,I b∧sub (T b) (lk st)else Q (.exit k) st
 |e=>Q e st
theorem wSC{c:Code}{B:Type}(l:Nat)(T:B→St)(I:B→Prop)(hfl:∀b,flat (T b)=true)(h:VW P w0 n c (joinV l T I Q) st)(hk:∀b,I b→Q (.exit l) (T b)):VW P w0 n c Q st:=fun a w hh=>
 wpIn_mono (h a w hh) fun e a w hq=>by
  obtain⟨st',h1,h2⟩:=hq;unfold joinV at h1;cases e with
  |«exit» k=>
   dsimp only at h1;split at h1
   ·rename_i hk';subst hk';obtain⟨b,g1,g2⟩:=h1;exact⟨T b,hk b g1,h2.sub g2 (hfl b)⟩
   ·exact⟨st',h1,h2⟩
  |_=>exact⟨st',h1,h2⟩
def scopeV(Q:vH):vH:=fun e st=>
 match e with
 |.goto _=>False
 |e=>Q e st
theorem vw_scopeN{c:Code}(h:VW P w0 n c (scopeV Q) st):VW P w0 n (.scope c) Q st:=vw_scope fun a w hh=>
 wpIn_mono (h a w hh) fun e a w hq=>by
  obtain⟨st',h1,h2⟩:=hq;cases e with
  |goto l=>simp_all [absurd,scopeV]
  |_=>exact⟨st',⟨(fun _ e=>by cases e),h1⟩,h2⟩
theorem wDF{t yt:TypeId}{x:Operand}{a:Nat}{o:Oper}(hop:o.op=.binOp .sub t x (.const (.int .u64 1)) yt)(hx:opv (lk st) x=some (.v (.int .u64 (a:Nat))))(ha:1≤a)(hl:a<18446744073709551616)(hd:dLt n o.dst=true) :
  wQ P w0 n o (rdO x++rdO (.const (.int .u64 1))) (dput o.dst (some (.sv (.v (.int .u64 (a-1:Nat)))))) [] (lk st):=
 jF hop hx (y:=.const (.int .u64 1)) rfl rfl (nSub64 (b:=1) (by omega) (by omega)) hd
theorem yJ{t yt:TypeId}{x y:Operand}{a b r:Nat}{o:Oper}(hop:o.op=.binOp .add t x y yt)(hx:opv (lk st) x=some (.v (.int .u64 (a:Nat))))(hy:opv (lk st) y=some (.v (.int .u64 (b:Nat))))(h:a+b=r)(hr:r<18446744073709551616)(hd:dLt n o.dst=true) :
  wQ P w0 n o (rdO x++rdO y) (dput o.dst (some (.sv (.v (.int .u64 (r:Nat)))))) [] (lk st):=jF hop hx hy rfl (nAdd64 h hr) hd
theorem wAF{t yt:TypeId}{x y:Operand}{a b r:Nat}{o:Oper}(hop:o.op=.binOp .sub t x y yt)(hx:opv (lk st) x=some (.v (.int .u64 (a:Nat))))(hy:opv (lk st) y=some (.v (.int .u64 (b:Nat))))(h:(a+18446744073709551616-b)%18446744073709551616=r)(hr:b≤18446744073709551616)(hd:dLt n o.dst=true) :
  wQ P w0 n o (rdO x++rdO y) (dput o.dst (some (.sv (.v (.int .u64 (r:Nat)))))) [] (lk st):=jF hop hx hy rfl (nSub64 h hr) hd
theorem wJ6{t yt:TypeId}{x y:Operand}{a b r:Nat}{o:Oper}(hop:o.op=.binOp .mul t x y yt)(hx:opv (lk st) x=some (.v (.int .u64 (a:Nat))))(hy:opv (lk st) y=some (.v (.int .u64 (b:Nat))))(h:a*b=r)(hr:r<18446744073709551616)(hd:dLt n o.dst=true) :
  wQ P w0 n o (rdO x++rdO y) (dput o.dst (some (.sv (.v (.int .u64 (r:Nat)))))) [] (lk st):=jF hop hx hy rfl (nMul64 h hr) hd
theorem wMJ{t yt:TypeId}{x y:Operand}{a b r:Nat}{o:Oper}(hop:o.op=.binOp .or t x y yt)(hx:opv (lk st) x=some (.v (.int .u64 (a:Nat))))(hy:opv (lk st) y=some (.v (.int .u64 (b:Nat))))(h:a ||| b=r)(ha:a<18446744073709551616)(hb:b<18446744073709551616)(hd:dLt n o.dst=true) :
  wQ P w0 n o (rdO x++rdO y) (dput o.dst (some (.sv (.v (.int .u64 (r:Nat)))))) [] (lk st):=jF hop hx hy rfl (nOr64 h ha hb) hd
end
section
variable{P:Program}{w0:Base}{n:Nat}{st:St}
theorem sem_max3{x y z:Operand}{k:Call}{p q r:Nat}{ki:IntKind}{o:Oper}(hop:o.op=.call k)(hk:k.callee=.builtin .max)(ha:k.args=#[x,y,z])(hx:opv (lk st) x=some (.v (.int ki (p:Nat))))(hy:opv (lk st) y=some (.v (.int ki (q:Nat))))(hz:opv (lk st) z=some (.v (.int ki (r:Nat))))(hd:dLt n o.dst=true) :
  wQ P w0 n o (rdO x++(rdO y++rdO z)) (dput o.dst (some (.sv (.v (.int ki (max p (max q r):Nat)))))) [] (lk st):=
 qI hd fun f hf β a w hh=>by
  obtain⟨h1,h23⟩:=qZ hf;obtain⟨h2,h3⟩:=qZ h23;have e1:=hh.val (x:=x) (y:=.int ki (p:Nat)) (by grind [wN]);have e2:=hh.val (x:=y) (y:=.int ki (q:Nat)) (by grind [wN]);have e3:=hh.val (x:=z) (y:=.int ki (r:Nat)) (by grind [wN]);generalize hu:a.eval x=u at e1;generalize hv:a.eval y=v at e2;generalize hw:a.eval z=w' at e3;cases e1;cases e2;cases e3;refine⟨.int ki ((max p (max q r):Nat):Int),?_,.int _ _⟩;have e:((max p (max q r):Nat):Int)=if(r:Int)>(if(q:Int)>p then(q:Int)else p)then(r:Int)else(if(q:Int)>p then(q:Int)else p):=by omega
  rw[e];simp[execOp,hop,resolve,hk,ha,invoke,builtin,Builtin.max_,hu,hv,hw,Builtin.max2]
end
section
variable{P:Program}{w0:Base}{n:Nat}{st:St}{Q:vH}
theorem put_same{a:Act}{d:Nat}(h:d<a.tmps.size):a.put (some d) (a.tmps.getD d undef)=a:=by
 cases a with
 | mk tmps defers=>
  simp only[Act.put]at h ⊢;congr 1;apply Array.ext
  ·simp
  ·intro i h1 h2;by_cases e:d=i
   ·subst e;simp[Array.getD,h2]
   simp_all
theorem qE2{d id k:Nat}{T:TypeId}(hd:Nat.blt d n=true)(h:lk st (2*d)=some (.sv .nils))(hnp:y4 st (2*d,id)=true)(hnp0:y4 st (2*d,0)=true):∀(a:Act)(w:World),Hs w0 n (lk st) a w→Hs w0 n (lk ((2*d,some (.sv (.own id T k [])))::st)) a w:=by
 rintro a w ⟨β,hh⟩;have hs:=hh.slot d _ h;simp only[jE]at hs;have hsz:d<a.tmps.size:=by have:=hh.size;simp at hd;omega
 have:=hh.newOwnS (r:=d) (by simpa using hd) (id:=id) (wT4 hnp0) (wT4 hnp) (Below.refl _ _) (T:=T) (k:=k) (es:=[]) (u:=.slice none 0 0) (us:=[]) (World.ownsRow_nil _ _ _ _) (by simp) (S2:=fun _=>False) .nil (fun _ h=>h.elim) (fun B hB=>by cases hB);rw[←hs,put_same hsz,app1]at this;rw[show lk ((2*d,some (.sv (.own id T k [])))::st)=upd (lk st) (2*d) (some (.sv (.own id T k [])))from by have e:=zN (u:=[(2*d,some (Cell.sv (.own id T k [])))]) (st:=st);rw[app1]at e;exact e]
 omega
theorem yI{c:Code}{d id k:Nat}{T:TypeId}(hd:Nat.blt d n=true)(h:lk st (2*d)=some (.sv .nils))(hnp:y4 st (2*d,id)=true)(hnp0:y4 st (2*d,0)=true)(hv:VW P w0 n c Q ((2*d,some (.sv (.own id T k [])))::st)):VW P w0 n c Q st:=
 fun a w hh=>hv a w (qE2 hd h hnp hnp0 a w hh)
end
end Go.Vl
