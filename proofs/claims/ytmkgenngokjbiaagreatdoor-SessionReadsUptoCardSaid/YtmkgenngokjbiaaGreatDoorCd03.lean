/- A region whose order is drawn: told in one order, it holds in all. -/
import Derived.Test.YtmkgenngokjbiaaGreatDoorCd02
import Derived.Orders
import Derived.Calls
set_option linter.all false
set_option maxRecDepth 20000
set_option maxHeartbeats 6400000
set_option linter.all false
namespace Go.Ev
open Go.RowKit
theorem wFE{α β:Type}{f g:α→Option β}:∀{l:List α},(∀x∈l,f x=g x)→xA f l=xA g l
 |[],_=>rfl
 |x::xs,h=>by simp only[xA];rw[h x (by simp),wFE (l:=xs) fun y hy=>h y (by grind)]
theorem wG4{t t':Tree AV}:∀{l:List (Nat×Operand)},(∀x∈l.map (·.2),opd t x=opd t' x)→wG5 t l=wG5 t' l
 |[],_=>rfl
 |(i,x)::xs,h=>by simp only[wG5];rw[h x (by simp),wG4 (l:=xs) fun y hy=>h y (by simp_all)]
theorem optO_congr{t t':Tree AV}{x:Option Operand}(h:∀y∈x.toArray,opd t y=opd t' y):optO t x=optO t' x:=by
 cases x with
 |none=>rfl
 |some x=>simp_all [optO]
theorem wRI{C:Cx}{ro:Nat}{σ:Hp}{c:Nat}{t t':Tree AV}{k:Call}(h:∀x∈k.operands,opd t x=opd t' x):yB C ro σ c t k=yB C ro σ c t' k:=by
 unfold yB
 grind [wFE,opd,Call.operands,invoke,builtin]
theorem eOp_congr{C:Cx}{ro:Nat}{σ:Hp}{c:Nat}{t t':Tree AV}{o:Oper}(h:∀x∈o.op.operands,opd t x=opd t' x):eOp C ro σ c t o=eOp C ro σ c t' o:=by
 obtain⟨dst,op,ty,pos,after,guard⟩:=o;dsimp only at h;unfold eOp;cases op<;>dsimp only
 case move x=>simp_all [Op.operands]
 case assign x=>simp_all [Op.operands]
 case pick q a b=>simp_all [Op.operands]
 case box ty x=>simp_all [Op.operands]
 case build ty ps=>grind [wG4,Op.operands]
 case buildSlice ty n ps=>grind [wG4,Op.operands]
 case load ty x=>simp_all [Op.operands]
 case store ty a x=>simp_all [Op.operands]
 case nilCheck x=>simp_all [Op.operands]
 case binOp op ty x y yt=>simp_all [Op.operands]
 case unOp op ty x=>simp_all [Op.operands]
 case convert a b x=>simp_all [Op.operands]
 case makeInterface ty x=>simp_all [Op.operands]
 case makeFunc f a b=>
  cases f<;>dsimp only
  grind [wFE,opd,Op.operands]
 case makeSlice ty x y=>simp_all [Op.operands]
 case slice ty x lo hi mx=>grind [Op.operands,optO_congr]
 case fieldAddr s x f=>simp_all [Op.operands]
 case field s x f=>simp_all [Op.operands]
 case indexAddr ty x i=>simp_all [Op.operands]
 case index ty x i=>simp_all [Op.operands]
 case extract x i=>simp_all [Op.operands]
 case makeMap ty r=>grind
 case lookup ty x k ok=>simp_all [Op.operands]
 case mapUpdate ty m k v=>simp_all [Op.operands]
 case insert ty m k v=>simp_all [Op.operands]
 case range ty x=>simp_all [Op.operands]
 case next it s=>simp_all [Op.operands]
 case typeAssert x xt ty ok=>simp_all [Op.operands]
 case call k=>rw[wRI (t:=t) (t':=t') h]
 case defer k=>
  rw[wRI (t:=t) (t':=t') h,wFE (f:=opd t) (g:=opd t') (l:=k.args.toList) fun x hx=>h x (by simp[Op.operands,Call.operands];simp at hx;exact .inr hx)]
  grind [Op.operands,Call.operands,yB,invoke,builtin]
theorem opd_congr{t t':Tree AV}{x:Operand}(h:∀d,x=.tmp d→t.get d=t'.get d):opd t x=opd t' x:=by
 cases x with
 |tmp d=>simp only[opd];rw[h d rfl]
 |_=>rfl
theorem looks_op{ops:Array Oper}{o:Oper}{t t':Tree AV}(h:∀d∈o.looksAt ops,t.get d=t'.get d):∀x∈o.op.operands,opd t x=opd t' x:=by intro x hx;refine opd_congr fun d hd=>h d ?_;subst hd;exact cR _ (List.mem_filterMap.2 ⟨.tmp d,by simp_all,rfl⟩)
theorem wK2{ops:Array Oper}{o:Oper}{t t':Tree AV}(h:∀d∈o.looksAt ops,t.get d=t'.get d):xV ops t o=xV ops t' o:=by
 unfold xV;cases hg:o.guard with
 |none=>rfl
 | some p=>
  obtain⟨j,want⟩:=p;dsimp only;cases hj:ops[j]? with
  |none=>rfl
  | some q=>
   dsimp only;cases hd:q.dst with
   |none=>rfl
   |some d=>dsimp only;rw[h d (cH _ (by simp_all))]
theorem wNC{C:Cx}{H:xU}{rec:Rec}{ro nt:Nat}{round:Option Nat}{t t1:Tree AV}{ops:Array Oper}{i:Nat}{σ:Hp}{c:Nat}{ds:List ADef}{σ':Hp}{c':Nat}{o:Oper}(ho:ops[i]? = some o)(e:opAt C H rec ro nt round t ops i σ c=some (t1,ds,σ',c')) :
  ∃v,t1=xE t o.dst v∧∀t',(∀d∈o.looksAt ops,t.get d=t'.get d)→opAt C H rec ro nt round t' ops i σ c=some (xE t' o.dst v,ds,σ',c'):=by
 unfold opAt at e;rw[ho]at e;dsimp only at e;have hgo:∀t':Tree AV,opAt C H rec ro nt round t' ops i σ c=(bif wX4 nt o.dst then
   bif xV ops t' o then
    match eOp C ro σ c t' o with
    |some (.val v σ' c')=>some (xE t' o.dst v,[],σ',c')
    |some (.call f args)=>match callF C H rec ro f args σ c with
     |some (v,σ',c')=>some (xE t' o.dst v,[],σ',c')
     |none=>none
    |some (.yld L args)=>match qCI rec ro L args σ c with
     |some (v,σ',c')=>some (xE t' o.dst v,[],σ',c')
     |none=>none
    |some .rcv=>match round with
     |none=>some (xE t' o.dst .nili,[],σ,c)
     |some _=>none
    |some (.dfr f caps args)=>match round with
     |none=>some (xE t' o.dst (.tup []),[.call f caps args],σ,c)
     |some _=>none
    |none=>none
   else some (xE t' o.dst (.tup []),[],σ,c)
  else none):=by grind [opAt]
 cases hd:wX4 nt o.dst with
 |false=>simp_all
 | true=>
  rw[hd]at e;simp only[cond_true]at e;cases hw:xV ops t o with
  |false=>
   rw[hw]at e;cases e;refine⟨.tup [],rfl,fun t' h=>?_⟩
   grind [wK2]
  | true=>
   rw[hw]at e;simp only[cond_true]at e;have fin:∀t',(∀d∈o.looksAt ops,t.get d=t'.get d)→∀r,eOp C ro σ c t o=r→xV ops t' o=true∧eOp C ro σ c t' o=r:=fun t' h r hr=>⟨by rw[←wK2 h];exact hw,by rw[←eOp_congr (looks_op h)];exact hr⟩
   split at e
   ·rename_i v σ2 c2 hop;cases e;refine⟨v,rfl,fun t' h=>?_⟩;obtain⟨h1,h2⟩:=fin t' h _ hop;rw[hgo,hd,h1,h2];rfl
   ·rename_i f args hop;split at e
    ·rename_i v σ2 c2 hc;cases e;refine⟨v,rfl,fun t' h=>?_⟩;obtain⟨h1,h2⟩:=fin t' h _ hop;rw[hgo,hd,h1,h2];simp only[cond_true,hc]
    ·cases e
   ·rename_i L args hop;split at e
    ·rename_i v σ2 c2 hc;cases e;refine⟨v,rfl,fun t' h=>?_⟩;obtain⟨h1,h2⟩:=fin t' h _ hop;rw[hgo,hd,h1,h2];simp only[cond_true,hc]
    ·cases e
   ·rename_i hop;split at e
    ·cases e;refine⟨.nili,rfl,fun t' h=>?_⟩;obtain⟨h1,h2⟩:=fin t' h _ hop;rw[hgo,hd,h1,h2];rfl
    ·cases e
   ·rename_i f caps args hop;split at e
    ·cases e;refine⟨.tup [],rfl,fun t' h=>?_⟩;obtain⟨h1,h2⟩:=fin t' h _ hop;rw[hgo,hd,h1,h2];rfl
    ·cases e
   grind
structure Md where
 ap:Bool
 ca:Bool
 st:Bool
 qu:Bool
def wT0(md:Md):Op→Nat
 |.move _|.assign _|.pick ..|.build ..|.nilCheck _|.binOp ..|.unOp ..|.makeInterface ..|.makeFunc ..|.slice ..|.fieldAddr ..|.field ..|.indexAddr ..|.index ..|.extract ..=>0
 |.alloc _|.box ..|.buildSlice ..|.load ..|.convert ..|.makeSlice ..=>1
 |.store ..=>bif md.st then 3 else 2
 |.call k=>match k.callee with
  |.value _=>bif md.ca then 2 else 1
  |.builtin .len=>0
  |.builtin .cap=>0
  |.builtin .max=>0
  |.builtin .min=>0
  |.builtin .append=>bif md.ap then 1 else 2
  |.builtin .copy=>2
  |.builtin .unsafeSliceData=>0
  |.builtin .unsafeString=>2
  |_=>4
 |_=>4
def wVF:List Edge→Tree Nat→Nat→Nat
 |[],_,m=>m
 |e::es,T,m=>bif Region.binds .any e then wVF es T (Nat.lor (Nat.lor m (2^e.on)) ((T.get e.on).getD 0))else wVF es T m
def wG9:List Oper→Nat→Tree Nat→Tree Nat
 |[],_,T=>T
 |o::os,i,T=>wG9 os (i+1) (T.set i (some (wVF o.after.toList T 0)))
def clash(K:Nat→Nat)(ops:Array Oper)(j i:Nat)(a b:Oper):Bool:=
 (match a.dst with
  |some d=>(b.looksAt ops).contains d||b.dst==some d
  |none=>false) ||
 (match b.dst with
  |some d=>(a.looksAt ops).contains d
  |none=>false) ||
 (Nat.beq (K j) 2&&!Nat.beq (K i) 0)||(Nat.beq (K i) 2&&!Nat.beq (K j) 0)
def y7(f:Nat→Bool):Nat→Bool
 |0=>true
 |n+1=>bif f n then y7 f n else false
def wJD(i:Nat):List Edge→Bool
 |[]=>true
 |e::es=>bif Region.binds .any e then bif Nat.blt e.on i then wJD i es else false else wJD i es
def pairOk(K:Nat→Nat)(ops:Array Oper)(T:Tree Nat)(i j:Nat):Bool:=
 bif Nat.testBit ((T.get i).getD 0) j then true
 else match ops[j]?,ops[i]? with
  |some a,some b=>!clash K ops j i a b
  |_,_=>false
def qD3(st:Bool)(K:Nat→Nat)(ops:Array Oper):Bool:=
 let T:=wG9 ops.toList 0 .lf
 y7 (fun i=>match ops[i]? with
  |some o=>wJD i o.after.toList&&Nat.ble (K i) 3&&(!st||!Nat.beq (K i) 2)&&y7 (fun j=>pairOk K ops T i j) i
  |none=>false) ops.size
def loose(md:Md)(ops:Array Oper)(T:Tree Nat)(i:Nat):Bool:=
 !y7 (fun j=>match ops[j]? with
  |some o=>!Nat.beq (wT0 md o.op) 2||Nat.testBit ((T.get i).getD 0) j||Nat.testBit ((T.get j).getD 0) i
  |none=>false) ops.size
def cls(md:Md)(ops:Array Oper)(i:Nat):Nat:=
 match ops[i]? with
 |none=>4
 |some o=>match o.op with
  |.load ..=>bif md.qu&&loose md ops (wG9 ops.toList 0 .lf) i then 0 else 1
  |op=>wT0 md op
mutual
def wA3:AV→AV→Bool
 |.bool a,.bool b=>a==b
 |.int k n,.int k' n'=>decide (k=k')&&decide (n=n')
 |.str s,.str s'=>decide (s.data.toList=s'.data.toList)
 |.ptr A o,.ptr B p=>Nat.beq A B&&Nat.beq o p
 |.nilp,.nilp=>true
 |.sl A o l c e x,.sl A' o' l' c' e' x'=>Nat.beq A A'&&Nat.beq o o'&&Nat.beq l l'&&Nat.beq c c'&&Nat.beq e e'&&x==x'
 |.nils,.nils=>true
 |.sle,.sle=>true
 |.fn f fs cs,.fn f' fs' cs'=>decide (f=f')&&wKE fs fs'&&wKE cs cs'
 |.yld L,.yld L'=>Nat.beq L L'
 |.nilf,.nilf=>true
 |.ifc t v,.ifc t' v'=>Nat.beq t t'&&wA3 v v'
 |.nili,.nili=>true
 |.agg cs,.agg cs'=>wKE cs cs'
 |.tup cs,.tup cs'=>wKE cs cs'
 |.mp M,.mp M'=>Nat.beq M M'
 |.nilm,.nilm=>true
 |_,_=>false
def wKE:List AV→List AV→Bool
 |[],[]=>true
 |a::as,b::bs=>wA3 a b&&wKE as bs
 |_,_=>false
end
mutual
theorem avEq_eq:∀(a b:AV),wA3 a b=true→a=b
 |.bool _,b,h=>by cases b<;>simp_all [wA3]
 |.int _ _,b,h=>by cases b<;>simp_all [wA3]
 | .str s,b,h=>by
  cases b<;>first
   |(simp[wA3]at h;done)
   | (rename_i s'
      simp only[wA3,decide_eq_true_eq]at h;rw[show s=s' from by cases s;simp_all])
 |.ptr _ _,b,h=>by cases b<;>simp_all [wA3]
 |.nilp,b,h=>by grind [wA3]
 |.sl _ _ _ _ _ _,b,h=>by cases b<;>simp_all [wA3]
 |.nils,b,h=>by grind [wA3]
 |.sle,b,h=>by grind [wA3]
 | .fn f fs cs,b,h=>by
  cases b<;>first
   |(simp[wA3]at h;done)
   | (simp only[wA3,Bool.and_eq_true,decide_eq_true_eq]at h
      rw[h.1.1,wEA fs _ h.1.2,wEA cs _ h.2])
 |.yld _,b,h=>by cases b<;>simp_all [wA3]
 |.nilf,b,h=>by grind [wA3]
 | .ifc t v,b,h=>by
  cases b<;>first
   |(simp[wA3]at h;done)
   | (simp only[wA3,Bool.and_eq_true]at h
      rw[pV h.1,avEq_eq v _ h.2])
 |.nili,b,h=>by grind [wA3]
 | .agg cs,b,h=>by
  cases b<;>first
   |(simp[wA3]at h;done)
   | (simp only[wA3]at h
      rw[wEA cs _ h])
 | .tup cs,b,h=>by
  cases b<;>first
   |(simp[wA3]at h;done)
   | (simp only[wA3]at h
      rw[wEA cs _ h])
 |.mp _,b,h=>by cases b<;>simp_all [wA3]
 |.nilm,b,h=>by grind [wA3]
theorem wEA:∀(a b:List AV),wKE a b=true→a=b
 |[],[],_=>rfl
 |[],_::_,h=>by grind [wKE]
 |_::_,[],h=>by grind [wKE]
 |a::as,b::bs,h=>by simp only[wKE,Bool.and_eq_true]at h;rw[avEq_eq a b h.1,wEA as bs h.2]
end
def tyEq:Option TypeId→Option TypeId→Bool
 |some x,some y=>Nat.beq x y
 |none,none=>true
 |_,_=>false
theorem tyEq_eq{a b:Option TypeId}(h:tyEq a b=true):a=b:=by cases a<;>cases b<;>first|rfl|simp_all [tyEq]|simp_all [tyEq,congrArg,Nat.eq_of_beq_eq_true]
def blkEq:ABlk→ABlk→Bool
 |.cells a t,.cells b u=>wKE a b&&tyEq t u
 |_,_=>false
theorem blkEq_eq{a b:ABlk}(h:blkEq a b=true):a=b:=by cases a<;>cases b<;>first|(simp[blkEq]at h;done)|(simp only[blkEq,Bool.and_eq_true]at h;grind [wEA,tyEq_eq])
def qK3:ABlk→List AV
 |.cells cs _=>cs
 |_=>[]
def memK(A:Nat):List (Nat×ABlk)→Bool
 |[]=>false
 |(B,_)::l=>bif Nat.beq A B then true else memK A l
def wA7:Nat→Hp→Nat→Nat→List AV→List (Nat×ABlk)→List (Nat×ABlk)
 |0,_,_,_,_,acc=>acc
 |_+1,_,_,_,[],acc=>acc
 | n+1,σ,lo,hi,a::ws,acc=>
  let go (A:Nat):List (Nat×ABlk):=
   bif Nat.ble lo A&&Nat.blt A hi&&!memK A acc then
    match σ.get A with
    |some b=>wA7 n σ lo hi (qK3 b++ws) ((A,b)::acc)
    |none=>wA7 n σ lo hi ws acc
   else wA7 n σ lo hi ws acc
  match a with
  |.ptr A _=>go A
  |.sl A _ _ _ _ _=>go A
  |.agg cs=>wA7 n σ lo hi (cs++ws) acc
  |.tup cs=>wA7 n σ lo hi (cs++ws) acc
  |.fn _ fs cs=>wA7 n σ lo hi (fs++cs++ws) acc
  |.ifc _ v=>wA7 n σ lo hi (v::ws) acc
  |_=>wA7 n σ lo hi ws acc
structure DS where
 t:Tree AV
 base:Hp
 frs:List (Nat×List (Nat×ABlk))
 c:Nat
 q:List (Nat×ABlk)
 bs:List Hp
def wY4:List (Nat×ABlk)→Hp→Hp
 |[],σ=>σ
 |(A,b)::l,σ=>wY4 l (σ.set A (some b))
def xM(f:Nat→Bool):List (Nat×List (Nat×ABlk))→Hp→Hp
 |[],σ=>σ
 |(j,F)::l,σ=>bif f j then wY4 F (xM f l σ)else xM f l σ
def owns(ro:Nat)(t:Tree AV)(σ:Hp):List Oper→Nat→Option (List (Nat×Nat×ABlk))
 |[],_=>some []
 | o::os,i=>match o.op with
  | .store _ a _=>match opd t a with
   |some (.ptr A _)=>match σ.get A,owns ro t σ os (i+1)with
    |some b,some l=>bif Nat.ble ro A&&!l.any (fun p=>Nat.beq p.2.1 A)then some ((i,A,b)::l)else none
    |_,_=>none
   |_=>none
  |_=>owns ro t σ os (i+1)
def wID:List (Nat×Nat×ABlk)→Hp→Hp
 |[],σ=>σ
 |p::l,σ=>(wID l σ).set p.2.1 none
def look:List (Nat×Nat×ABlk)→Nat→Option (Nat×ABlk)
 |[],_=>none
 |p::l,j=>bif Nat.beq p.1 j then some p.2 else look l j
def qOf(t:Tree AV)(base:Hp)(o:Oper):List (Nat×ABlk):=
 match o.op with
 | .load _ a=>match opd t a with
  |some (.ptr A _)=>match base.get A with
   |some b=>[(A,b)]
   |none=>[]
  |_=>[]
 |_=>[]
theorem qOf_spec{t:Tree AV}{base:Hp}{o:Oper}{A:Nat}{b:ABlk}(h:(A,b)∈qOf t base o):base.get A=some b:=by
 unfold qOf at h
 grind
def dStep(K:Nat→Nat)(ow:List (Nat×Nat×ABlk))(C:Cx)(H:xU)(rec:Rec)(ro nt:Nat)(round:Option Nat)(ops:Array Oper)(T:Tree Nat)(i:Nat)(S:DS):Option DS:=
 match ops[i]? with
 |none=>none
 | some o=>match K i with
  |0=>match opAt C H rec S.c nt round S.t ops i (wY4 (qOf S.t S.base o) .lf) S.c with
   |some (t,[],_,c)=>some { S with t:=t,c:=c,q:=qOf S.t S.base o++S.q }
   |_=>none
  |1=>match opAt C H rec S.c nt round S.t ops i (xM (Nat.testBit ((T.get i).getD 0)) S.frs S.base) S.c with
   |some (t,[],σ,c)=>some { S with t:=t,frs:=(i,match o.dst with|some d=>wA7 100000 σ S.c c [(t.get d).getD (.tup [])] []|none=>[])::S.frs,c:=c }
   |_=>none
  |2=>match opAt C H rec ro nt round S.t ops i (xM (fun _=>true) S.frs S.base) S.c with
   |some (t,[],σ,c)=>some { S with t:=t,base:=σ,frs:=[],c:=c,bs:=σ::S.bs }
   |_=>none
  | 3=>match look ow i with
   | some (A,old)=>match opAt C H rec ro nt round S.t ops i ((Tree.lf:Hp).set A (some old)) S.c with
    |some (t,[],σ,_)=>match σ.get A with
     |some new=>some { S with t:=t,frs:=(i,[(A,new)])::S.frs }
     |none=>none
    |_=>none
   |none=>none
  |_=>none
def dRun(K:Nat→Nat)(ow:List (Nat×Nat×ABlk))(C:Cx)(H:xU)(rec:Rec)(ro nt:Nat)(round:Option Nat)(ops:Array Oper)(T:Tree Nat):Nat→Nat→DS→Option DS
 |0,_,S=>some S
 |k+1,i,S=>match dStep K ow C H rec ro nt round ops T i S with
  |some S'=>dRun K ow C H rec ro nt round ops T k (i+1) S'
  |none=>none
def wOG:List (Nat×ABlk)→List Hp→Bool
 |[],_=>true
 |p::q,bs=>bs.all (fun β=>match β.get p.1 with|some b=>blkEq b p.2|none=>false)&&wOG q bs
theorem wOF:∀{q:List (Nat×ABlk)}{bs:List Hp},wOG q bs=true→∀p∈q,∀β∈bs,β.get p.1=some p.2
 |[],_,_,p,hp,_,_=>nomatch hp
 |x::q,bs,h,p,hp,β,hβ=>by
  simp only[wOG,Bool.and_eq_true,List.all_eq_true]at h;rcases pS.1 hp with rfl|hp
  ·grind [blkEq_eq]
  ·exact wOF h.2 p hp β hβ
def drawnM(md:Md)(C:Cx)(H:xU):Drw:=fun rec ro nt round t ops σ c=>
 bif qD3 md.st (cls md ops) ops then
  match (bif md.st then owns ro t σ ops.toList 0 else some [])with
  |none=>none
  |some ow=>match dRun (cls md ops) ow C H rec ro nt round ops (wG9 ops.toList 0 .lf) ops.size 0 { t:=t,base:=wID ow σ,frs:=[],c:=c,q:=[],bs:=[wID ow σ] }with
   |some S=>bif wOG S.q S.bs then some (S.t,xM (fun _=>true) S.frs S.base,S.c)else none
   |none=>none
 else none
def qE5(C:Cx)(H:xU):List Md→Drw
 |[],_,_,_,_,_,_,_,_=>none
 |md::l,rec,ro,nt,round,t,ops,σ,c=>match drawnM md C H rec ro nt round t ops σ c with
  |some r=>some r
  |none=>qE5 C H l rec ro nt round t ops σ c
def mds:List Md:=[⟨false,false,false,false⟩,⟨true,false,false,false⟩,⟨false,true,false,false⟩,⟨true,true,false,false⟩,⟨false,false,true,false⟩,⟨true,false,true,false⟩,⟨false,false,false,true⟩,⟨false,true,false,true⟩]
def drawn(C:Cx)(H:xU):Drw:=qE5 C H mds
theorem wYH{md:Md}{op:Op}(h:wT0 md op=3):md.st=true∧∃t a v,op=.store t a v:=by
 obtain⟨ap,ca,st,qu⟩:=md;unfold wT0 at h
 grind
theorem qB4{md:Md}{ops:Array Oper}{i:Nat}{o:Oper}(ho:ops[i]? = some o)(h:cls md ops i=3):md.st=true∧∃t a v,o.op=.store t a v:=by grind [cls,loose,wG9,wYH]
theorem wI6:∀{l:List (Nat×Nat×ABlk)}{j A:Nat}{b:ABlk},look l j=some (A,b)→(j,A,b)∈l
 |[],_,_,_,h=>by cases h
 | p::l,j,A,b,h=>by
  simp only[look]at h;cases hb:Nat.beq p.1 j with
  |true=>
   rw[hb]at h;obtain⟨i,x⟩:=p
   simp_all
  |false=>rw[hb]at h;exact pO _ (wI6 h)
theorem wJ9{ro:Nat}{t:Tree AV}{σ:Hp}:∀{os:List Oper}{i:Nat}{l:List (Nat×Nat×ABlk)},owns ro t σ os i=some l→
  (∀p∈l,ro≤p.2.1∧σ.get p.2.1=some p.2.2)∧∀p∈l,∀q∈l,p.2.1=q.2.1→p=q
 |[],_,_,h=>by cases h;simp_all
 | o :: os,i,l,h=>by
  simp only[owns]at h;split at h
  ·split at h
   ·rename_i A off hop;split at h
    ·rename_i b l' hb hl;cases hc:(Nat.ble ro A&&!l'.any (fun p=>Nat.beq p.2.1 A))with
     |false=>rw[hc]at h;cases h
     | true=>
      rw[hc]at h;cases h;simp only[Bool.and_eq_true,Bool.not_eq_true',List.any_eq_false]at hc;obtain⟨h1,h2⟩:=wJ9 hl;have hn:∀p∈l',p.2.1≠A:=fun p hp he=>hc.2 p hp (by rw[he];exact Nat.beq_refl A);refine⟨fun p hp=>?_,fun p hp q hq he=>?_⟩
      ·rcases pS.1 hp with rfl|hp
       ·exact⟨pI hc.1,hb⟩
       ·exact h1 p hp
      ·rcases pS.1 hp with rfl|hp<;>rcases pS.1 hq with rfl|hq
       ·rfl
       ·exact absurd he.symm (hn q hq)
       ·exact absurd he (hn p hp)
       ·exact h2 p hp q hq he
    ·cases h
   grind
  ·exact wJ9 h
theorem wG7:∀{l:List (Nat×Nat×ABlk)}{σ:Hp}{A:Nat}{b:ABlk},(wID l σ).get A=some b→σ.get A=some b∧∀p∈l,p.2.1≠A
 |[],_,_,_,h=>⟨h,(fun p hp=>nomatch hp)⟩
 | q::l,σ,A,b,h=>by
  simp only[wID]at h;rw[Tree.get_set]at h;by_cases hA:A=q.2.1
  ·simp_all
  ·rw[if_neg hA]at h;obtain⟨h1,h2⟩:=wG7 h
   grind
theorem xG{f:Nat→Bool}:∀{n:Nat},y7 f n=true→∀i,i<n→f i=true
 |0,_,i,hi=>by omega
 | n+1,h,i,hi=>by
  simp only[y7]at h;cases hf:f n with
  |false=>simp_all
  |true=>
   rw[hf]at h;by_cases hin:i=n
   ·simp_all
   ·exact xG h i (by omega)
theorem wAE{i:Nat}:∀{l:List Edge},wJD i l=true→∀e∈l,Region.binds .any e=true→e.on<i
 |[],_,e,he,_=>by cases he
 | x::l,h,e,he,hb=>by
  simp only[wJD]at h;rcases pS.1 he with rfl|he
  ·simp_all
  ·cases hx:Region.binds .any x with
   |false=>rw[hx]at h;exact wAE h e he hb
   |true=>
    rw[hx]at h;simp only[cond_true]at h;cases hl:Nat.blt x.on i with
    |false=>simp_all
    |true=>rw[hl]at h;exact wAE h e he hb
section
variable{ops:Array Oper}
def Closed(ops:Array Oper)(D:Nat→Prop):Prop:=∀i o,D i→ops[i]? = some o→∀e∈o.after,Region.binds .any e=true→D e.on
def Ready(ops:Array Oper)(D:Nat→Prop)(i:Nat):Prop:=∀o,ops[i]? = some o→∀e∈o.after,Region.binds .any e=true→D e.on
def Good(ops:Array Oper)(T:Tree Nat):Prop:=∀k m,T.get k=some m→∀D,Closed ops D→Ready ops D k→∀j,m.testBit j=true→D j
theorem wI0{T:Tree Nat}:∀(l:List Edge)(m j:Nat),(wVF l T m).testBit j=true→m.testBit j=true∨∃e∈l,Region.binds .any e=true∧(j=e.on∨((T.get e.on).getD 0).testBit j=true)
 |[],m,j,h=>.inl h
 | e::l,m,j,h=>by
  simp only[wVF]at h;cases hb:Region.binds .any e with
  |false=>
   rw[hb]at h;rcases wI0 l m j h with h|⟨x,hx,h⟩
   ·exact .inl h
   grind
  | true=>
   rw[hb]at h;simp only[cond_true]at h;rcases wI0 l _ j h with h|⟨x,hx,h⟩
   ·have h':((m ||| 2^e.on) ||| (T.get e.on).getD 0).testBit j=true:=h;rw[Nat.testBit_or,Nat.testBit_or,dB,dB,Nat.testBit_two_pow]at h';rcases h' with(h'|h')|h'
    ·exact .inl h'
    ·exact .inr ⟨e,by simp,hb,.inl (by have:=h';simp at this;exact this.symm)⟩
    ·exact .inr ⟨e,by simp,hb,.inr h'⟩
   grind
theorem qB7:∀(l:List Oper)(i:Nat)(T:Tree Nat),(∀k o,l[k]? = some o→ops[i+k]? = some o)→Good ops T→Good ops (wG9 l i T)
 |[],i,T,_,h=>h
 | o :: l,i,T,hl,h=>by
  simp only[wG9];refine qB7 l (i+1) _ (fun k o' ho'=>by have:=hl (k+1) o' (by simpa using ho');grind) ?_;intro k m hm D hD hr j hj;rw[Tree.get_set]at hm;by_cases hk:k=i
  ·subst hk;rw[if_pos rfl]at hm;cases hm;rcases wI0 _ _ _ hj with h0|⟨e,he,hb,h1⟩
   ·grind
   ·have ho:ops[k]? = some o:=by have:=hl 0 o rfl;omega
    have hDe:D e.on:=hr o ho e (by simp_all) hb;rcases h1 with rfl|h1
    ·omega
    ·cases hg:T.get e.on with
     |none=>simp_all
     |some m'=>rw[hg]at h1;exact h _ _ hg D hD (fun o' ho' e' he' hb'=>hD _ o' hDe ho' e' he' hb') j h1
  ·rw[if_neg hk]at hm;exact h k m hm D hD hr j hj
theorem wOE{D:Nat→Prop}(hD:Closed ops D){i:Nat}(hr:Ready ops D i){j:Nat}(h:(((wG9 ops.toList 0 .lf).get i).getD 0).testBit j=true):D j:=by
 have hg:Good ops (wG9 ops.toList 0 .lf):=qB7 _ _ _ (fun k o hk=>by simp_all) (fun k m hm=>by simp_all [Tree.get_lf]);cases hm:(wG9 ops.toList 0 .lf).get i with
 |none=>simp_all
 |some m=>rw[hm]at h;exact hg _ _ hm D hD hr j h
theorem wHE{st:Bool}{K:Nat→Nat}(h:qD3 st K ops=true){i:Nat}(hi:i<ops.size):∃o,ops[i]? = some o∧(∀e∈o.after,Region.binds .any e=true→e.on<i)∧K i≤3∧(st=true→K i≠2) ∧
  ∀j,j<i→(((wG9 ops.toList 0 .lf).get i).getD 0).testBit j=true∨∃a,ops[j]? = some a∧clash K ops j i a o=false:=by
 have:=xG h i hi;split at this
 case h_2=>grind
 case h_1 o ho=>
  simp only[Bool.and_eq_true]at this;obtain⟨⟨⟨h1,h2⟩,hmx⟩,h3⟩:=this;refine⟨o,ho,fun e he=>wAE h1 e (by simpa using he),pI h2,(fun hst hh=>by rw[hst,hh]at hmx;exact absurd hmx (by decide)),fun j hj=>?_⟩;have hp:=xG h3 j hj;unfold pairOk at hp
  grind
end
theorem reach_sub:∀(n:Nat)(σ:Hp)(lo hi:Nat)(ws:List AV)(acc:List (Nat×ABlk)),(∀p∈acc,σ.get p.1=some p.2∧lo≤p.1∧p.1<hi)→∀p∈wA7 n σ lo hi ws acc,σ.get p.1=some p.2∧lo≤p.1∧p.1<hi:=by
 intro n
 induction n with
 |zero=>simp_all [wA7]
 | succ n ih=>
  intro σ lo hi ws acc h p hp;cases ws with
  |nil=>grind [wA7]
  | cons a ws=>
   have go:∀A,p∈(bif Nat.ble lo A&&Nat.blt A hi&&!memK A acc then
    match σ.get A with
    |some b=>wA7 n σ lo hi (qK3 b++ws) ((A,b)::acc)
    |none=>wA7 n σ lo hi ws acc
    else wA7 n σ lo hi ws acc)→σ.get p.1=some p.2∧lo≤p.1∧p.1<hi:=by
    intro A hA;cases hb:(Nat.ble lo A&&Nat.blt A hi&&!memK A acc)with
    |false=>grind
    | true=>
     rw[hb]at hA;simp only[cond_true]at hA;simp only[Bool.and_eq_true]at hb;split at hA
     ·rename_i b hg;refine ih σ lo hi _ _ ?_ p hA;intro q hq;cases hq with
      |head=>exact⟨hg,pI hb.1.1,by simpa using hb.1.2⟩
      |tail _ hq=>exact h q hq
     grind
   cases a<;>simp only[wA7]at hp<;>first|exact ih σ lo hi _ acc h p hp|grind
theorem wM7:∀(F:List (Nat×ABlk))(σ:Hp)(A:Nat)(b:ABlk),(wY4 F σ).get A=some b→σ.get A=some b∨(A,b)∈F
 |[],σ,A,b,h=>.inl h
 | (B,x)::F,σ,A,b,h=>by
  simp only[wY4]at h;rcases wM7 F _ A b h with h|h
  ·rw[Tree.get_set]at h;by_cases hA:A=B
   ·subst hA;rw[if_pos rfl]at h;cases h;exact .inr (by simp)
   ·rw[if_neg hA]at h;exact .inl h
  simp_all
theorem jQ(f:Nat→Bool):∀(l:List (Nat×List (Nat×ABlk)))(σ:Hp)(A:Nat)(b:ABlk),(xM f l σ).get A=some b→σ.get A=some b∨∃p∈l,f p.1=true∧(A,b)∈p.2
 |[],σ,A,b,h=>.inl h
 | (j,F)::l,σ,A,b,h=>by
  simp only[xM]at h;cases hf:f j with
  |false=>
   rw[hf]at h;rcases jQ f l σ A b h with h|⟨p,hp,h⟩
   ·exact .inl h
   grind
  | true=>
   rw[hf]at h;simp only[cond_true]at h;rcases wM7 _ _ _ _ h with h|h
   ·rcases jQ f l σ A b h with h|⟨p,hp,h⟩
    ·exact .inl h
    ·exact .inr ⟨p,by simp[hp],h⟩
   simp_all
structure SRelP(ro n0:Nat)(φ:Ren)(dom:Nat→ABlk→Prop)(w:World):Prop where
 h:∀A b,dom A b→∃x,φ A=some x∧wED φ b x w
 o:∀A b x,dom A b→ro≤A→φ A=some x→n0≤x.1
 d:∀A A' b b' x x',dom A b→dom A' b'→ro≤A→A≠A'→φ A=some x→φ A'=some x'→x.1≠x'.1
 s:n0≤w.heap.size
theorem SRelP.to{ro n0:Nat}{φ:Ren}{dom:Nat→ABlk→Prop}{w:World}(h:SRelP ro n0 φ dom w){σ:Hp}(hs:∀A b,σ.get A=some b→dom A b):SRel ro n0 φ σ w:=by
 refine⟨fun A b e=>h.h A b (hs A b e),fun A x hr hA hx=>?_,fun A A' x x' hr hne hA hA' hx hx'=>?_,h.s⟩
 ·obtain⟨b,hb⟩:=mZ.1 hA;exact h.o A b x (hs A b hb) hr hx
 ·obtain⟨b,hb⟩:=mZ.1 hA;obtain⟨b',hb'⟩:=mZ.1 hA';exact h.d A A' b b' x x' (hs A b hb) (hs A' b' hb') hr hne hx hx'
theorem SRel.toP{ro n0:Nat}{φ:Ren}{σ:Hp}{w:World}(h:SRel ro n0 φ σ w):SRelP ro n0 φ (fun A b=>σ.get A=some b) w:=
 ⟨h.h,fun A b x e hr hx=>h.o A x hr (by grind) hx,fun A A' b b' x x' e e' hr hne hx hx'=>h.d A A' x x' hr hne (by grind) (by simp_all) hx hx',h.s⟩
theorem SRelP.shut{ro n0 c:Nat}{φ:Ren}{dom:Nat→ABlk→Prop}{w:World}(h:SRelP ro n0 φ dom w){σ:Hp}(hs:∀A b,σ.get A=some b→dom A b)(hk:KB c σ):SRel c w.heap.size φ σ w:=
 ⟨fun A b e=>h.h A b (hs A b e),fun A x hr hA _=>absurd (hk A hA) (by omega),fun A A' x x' hr _ hA _ _ _=>absurd (hk A hA) (by omega),pC _⟩
section
variable{P:Program}{K:Nat→Nat}{ow:List (Nat×Nat×ABlk)}{C:Cx}{H:xU}{rec:Rec}{ro nt:Nat}{round:Option Nat}{ops:Array Oper}
structure StepTells(K:Nat→Nat)(ow:List (Nat×Nat×ABlk))(C:Cx)(H:xU)(rec:Rec)(ro nt:Nat)(round:Option Nat)(ops:Array Oper)(i:Nat)(o:Oper)(S S':DS)(v:AV)(F:List (Nat×ABlk)):Prop where
 put:S'.t=xE S.t o.dst v
 qs:∀p∈S.q,p∈S'.q
 bs:∀β∈S.bs,β∈S'.bs
 bb:S.base∈S.bs→S'.base∈S'.bs
 c0:K i=0→S'.base=S.base∧S'.frs=S.frs∧F=[]∧∃Q:Hp,(∀A b,Q.get A=some b→S.base.get A=some b∧(A,b)∈S'.q)∧∀t',(∀d∈o.looksAt ops,S.t.get d=t'.get d)→∃σ,opAt C H rec S.c nt round t' ops i Q S.c=some (xE t' o.dst v,[],σ,S'.c)
 c1:K i=1→S'.base=S.base∧S'.frs=(i,F)::S.frs∧∃σ,(∀p∈F,σ.get p.1=some p.2∧S.c≤p.1∧p.1<S'.c)∧∀t',(∀d∈o.looksAt ops,S.t.get d=t'.get d)→
  opAt C H rec S.c nt round t' ops i (xM (Nat.testBit (((wG9 ops.toList 0 .lf).get i).getD 0)) S.frs S.base) S.c=some (xE t' o.dst v,[],σ,S'.c)
 c2:K i=2→S'.frs=[]∧∀t',(∀d∈o.looksAt ops,S.t.get d=t'.get d)→opAt C H rec ro nt round t' ops i (xM (fun _=>true) S.frs S.base) S.c=some (xE t' o.dst v,[],S'.base,S'.c)
 c3:K i=3→∃A old new,look ow i=some (A,old)∧S'.base=S.base∧S'.frs=(i,F)::S.frs∧S'.c=S.c∧F=[(A,new)]∧∀t',(∀d∈o.looksAt ops,S.t.get d=t'.get d)→
  ∃σ c',opAt C H rec ro nt round t' ops i ((Tree.lf:Hp).set A (some old)) S.c=some (xE t' o.dst v,[],σ,c')∧σ.get A=some new
theorem qJG{i:Nat}{o:Oper}{S S':DS}(ho:ops[i]? = some o)(e:dStep K ow C H rec ro nt round ops (wG9 ops.toList 0 .lf) i S=some S'):K i≤3∧∃v F,StepTells K ow C H rec ro nt round ops i o S S' v F:=by
 unfold dStep at e;rw[ho]at e;dsimp only at e;split at e
 ·rename_i hc;split at e
  ·rename_i t σ c hop;cases e;obtain⟨v,hv,hall⟩:=wNC ho hop;refine⟨by omega,v,[],hv,fun p hp=>cH _ hp,fun _ h=>h,fun h=>h,fun _=>⟨rfl,rfl,rfl,_,fun A b hA=>?_,fun t' ht'=>⟨σ,hall t' ht'⟩⟩,fun h=>by omega,fun h=>by omega,fun h=>by omega⟩;rcases wM7 _ _ _ _ hA with h|h
   ·rw[Tree.get_lf]at h;cases h
   ·exact⟨qOf_spec h,cR _ h⟩
  ·cases e
 ·rename_i hc;split at e
  ·rename_i t σ c hop;cases e;obtain⟨v,hv,hall⟩:=wNC ho hop;refine⟨by omega,v,_,hv,fun _ h=>h,fun _ h=>h,fun h=>h,fun h=>by omega,fun _=>⟨rfl,rfl,σ,?_,fun t' ht'=>hall t' ht'⟩,fun h=>by omega,fun h=>by omega⟩;intro p hp;cases hd:o.dst with
   |none=>rw[hd]at hp;cases hp
   |some d=>rw[hd]at hp;exact reach_sub _ _ _ _ _ _ (fun _ h=>by cases h) p hp
  ·cases e
 ·rename_i hc;split at e
  ·rename_i t σ c hop;cases e;obtain⟨v,hv,hall⟩:=wNC ho hop;exact⟨by omega,v,[],hv,fun _ h=>h,fun β h=>pO _ h,fun _=>pQ,fun h=>by omega,fun h=>by omega,fun _=>⟨rfl,fun t' ht'=>hall t' ht'⟩,fun h=>by omega⟩
  ·cases e
 ·rename_i hc;split at e
  ·rename_i A old hlk;split at e
   ·rename_i t σ c hop;split at e
    ·rename_i new hnew;cases e;obtain⟨v,hv,hall⟩:=wNC ho hop;exact⟨by omega,v,[(A,new)],hv,fun _ h=>h,fun _ h=>h,fun h=>h,fun h=>by omega,fun h=>by omega,fun h=>by omega,fun _=>⟨A,old,new,hlk,rfl,rfl,rfl,rfl,fun t' ht'=>⟨σ,_,hall t' ht',hnew⟩⟩⟩
    ·cases e
   ·cases e
  ·cases e
 grind
structure Canon(K:Nat→Nat)(ow:List (Nat×Nat×ABlk))(C:Cx)(H:xU)(rec:Rec)(ro nt:Nat)(round:Option Nat)(ops:Array Oper)(S:Nat→DS)(op:Nat→Oper)(v:Nat→AV)(F:Nat→List (Nat×ABlk)):Prop where
 here:∀i,i<ops.size→ops[i]? = some (op i)∧K i≤3
 tells:∀i,i<ops.size→StepTells K ow C H rec ro nt round ops i (op i) (S i) (S (i+1)) (v i) (F i)
 frs0:(S 0).frs=[]
 mix:∀i j,i<ops.size→j<ops.size→K i=2→K j=3→False
 own:∀i A old,look ow i=some (A,old)→ro≤A∧(S 0).base.get A=none
 sto:∀i,i<ops.size→K i=3→∃t a v,(op i).op=.store t a v
 quiet:∀p∈(S ops.size).q,∀e,e≤ops.size→(S e).base.get p.1=some p.2
 apart:∀i j A old old',look ow i=some (A,old)→look ow j=some (A,old')→i=j
theorem wS0:∀(k i:Nat)(S S':DS),dRun K ow C H rec ro nt round ops (wG9 ops.toList 0 .lf) k i S=some S'→∃f:Nat→DS,f i=S∧f (i+k)=S'∧∀j,i≤j→j<i+k→dStep K ow C H rec ro nt round ops (wG9 ops.toList 0 .lf) j (f j)=some (f (j+1))
 |0,i,S,S',e=>by cases e;exact⟨fun _=>S,rfl,rfl,fun j h1 h2=>by omega⟩
 | k+1,i,S,S',e=>by
  simp only[dRun]at e;split at e
  ·rename_i S1 h1;obtain⟨f,hf1,hf2,hf3⟩:=wS0 k (i+1) S1 S' e;refine⟨fun j=>if j=i then S else f j,by simp,?_,?_⟩
   ·dsimp only;rw[if_neg (by omega),←hf2];congr 1;omega
   ·intro j h2 h3;dsimp only;by_cases hj:j=i
    ·subst hj;rw[if_pos rfl,if_neg (by omega),hf1];exact h1
    ·rw[if_neg hj,if_neg (by omega)];exact hf3 j (by omega) (by omega)
  grind
variable{S:Nat→DS}{op:Nat→Oper}{v:Nat→AV}{F:Nat→List (Nat×ABlk)}(hcn:Canon K ow C H rec ro nt round ops S op v F)
include hcn
theorem Canon.qmono{i:Nat}:∀k,i+k≤ops.size→∀p∈(S i).q,p∈(S (i+k)).q
 |0,_,p,hp=>hp
 |k+1,h,p,hp=>(hcn.tells (i+k) (by omega)).qs p (Canon.qmono k (by omega) p hp)
theorem Canon.t_none{d:Nat}:∀i,i≤ops.size→(∀j,j<i→(op j).dst≠some d)→(S i).t.get d=(S 0).t.get d
 |0,_,_=>rfl
 | i+1,hi,h=>by
  rw[(hcn.tells i (by omega)).put,←Canon.t_none i (by omega) fun j hj=>h j (by omega)];have:=h i (by omega);cases hd:(op i).dst with
  |none=>rfl
  |some d'=>simp only[xE];rw[Tree.get_set,if_neg];intro hdd;subst hdd;exact this hd
theorem Canon.t_some{d j:Nat}(hj:(op j).dst=some d):∀i,i≤ops.size→j<i→(∀j',j<j'→j'<i→(op j').dst≠some d)→(S i).t.get d=some (v j)
 |0,_,h,_=>by omega
 | i+1,hi,hji,h=>by
  rw[(hcn.tells i (by omega)).put];by_cases hij:j=i
  ·subst hij;rw[hj];simp only[xE];rw[Tree.get_set,if_pos rfl]
  ·rw[←Canon.t_some hj i (by omega) (by omega) fun j' h1 h2=>h j' h1 (by omega)];have:=h i (by omega) (by omega);cases hd:(op i).dst with
   |none=>rfl
   |some d'=>
    simp only[xE];rw[Tree.get_set,if_neg]
    grind
theorem Canon.ground{e:Nat}(he:(S e).frs=[]):∀i,e≤i→i≤ops.size→(∀j,e≤j→j<i→K j≠2)→(S i).base=(S e).base∧∀p∈(S i).frs,e≤p.1∧p.1<i∧(K p.1=1∨K p.1=3)∧p.2=F p.1:=by
 intro i
 induction i with
 |zero=>grind
 | succ i ih=>
  intro hei hi h;by_cases h0:e=i+1
  ·simp_all
  ·obtain⟨h1,h2⟩:=ih (by omega) (by omega) fun j a b=>h j a (by omega);have ht:=hcn.tells i (by omega);have hc:=h i (by omega) (by omega);have h33:=(hcn.here i (by omega)).2;rcases(show K i=0∨K i=1∨K i=3 by omega)with hz|hz|hz
   ·obtain⟨q1,q2,_⟩:=ht.c0 hz
    grind
   ·obtain⟨q1,q2,_⟩:=ht.c1 hz
    grind
   ·obtain⟨_,_,_,_,q1,q2,_⟩:=ht.c3 hz
    grind
theorem Canon.numbers(hC:CxOk P C)(hH:wA6 P H)(hR:wH2 P rec)(hk:KB (S 0).c (S 0).base)(hkA:∀i A old,look ow i=some (A,old)→A<(S 0).c):∀i,i≤ops.size→(∀j,j≤i→(S j).c≤(S i).c)∧KB (S i).c (S i).base∧∀p∈(S i).frs,∀q∈p.2,q.1<(S i).c:=by
 intro i
 induction i with
 |zero=>intro _;exact⟨fun j hj=>by simp_all,hk,fun p hp=>by rw[hcn.frs0]at hp;cases hp⟩
 | succ i ih=>
  intro hi;obtain⟨h1,h2,h3⟩:=ih (by omega);have ht:=hcn.tells i (by omega);have hsel:∀f,KB (S i).c (xM f (S i).frs (S i).base):=by
   intro f A hA;obtain⟨b,hb⟩:=mZ.1 hA;rcases jQ f _ _ _ _ hb with h|⟨p,hp,_,h⟩
   ·exact h2 A (by rw[h];rfl)
   grind
  have hlf:KB (S i).c (Tree.lf:Hp):=fun A hA=>by simp_all [Tree.get_lf]
  have hup:(S i).c≤(S (i+1)).c→(∀j,j≤i+1→(S j).c≤(S (i+1)).c):=fun hle j hj=>by grind
  rcases(show K i=0∨K i=1∨K i=2∨K i=3∨4≤K i by omega)with hz|hz|hz|hz|hz
  ·obtain⟨q1,q2,_,_,_,q3⟩:=ht.c0 hz;obtain⟨σ,q3⟩:=q3 (S i).t (fun _ _=>rfl);have hg:=(yT (P:=P) hC hH hR q3).1;exact⟨hup hg.le,fun A hA=>by rw[q1]at hA;have:=h2 A hA;have:=hg.le;omega,fun p hp q hq=>by rw[q2]at hp;have:=h3 p hp q hq;have:=hg.le;omega⟩
  ·obtain⟨q1,q2,σ,q3,q4⟩:=ht.c1 hz;have hg:=(yT (P:=P) hC hH hR (q4 (S i).t (fun _ _=>rfl))).1;refine⟨hup hg.le,fun A hA=>by rw[q1]at hA;have:=h2 A hA;have:=hg.le;omega,fun p hp q hq=>?_⟩;rw[q2]at hp;rcases pS.1 hp with rfl|hp
   ·grind
   ·have:=h3 p hp q hq;have:=hg.le;omega
  ·obtain⟨q1,q2⟩:=ht.c2 hz;have hg:=(yT (P:=P) hC hH hR (q2 (S i).t (fun _ _=>rfl))).1;exact⟨hup hg.le,hg.kb (hsel _),fun p hp=>by simp_all⟩
  ·obtain⟨A,old,new,q0,q1,q2,q3,q4,_⟩:=ht.c3 hz;refine⟨hup (by omega),fun B hB=>by rw[q1]at hB;have:=h2 B hB;omega,fun p hp q hq=>?_⟩
   grind
  ·exact absurd (hcn.here i (by omega)).2 (by omega)
end
section
variable{P:Program}{K:Nat→Nat}{ow:List (Nat×Nat×ABlk)}{C:Cx}{H:xU}{rec:Rec}{ro nt:Nat}{round:Option Nat}{ops:Array Oper}
variable{S:Nat→DS}{op:Nat→Oper}{v:Nat→AV}{F:Nat→List (Nat×ABlk)}
def Dom(K:Nat→Nat)(ow:List (Nat×Nat×ABlk))(S:Nat→DS)(_:Nat→Oper)(F:Nat→List (Nat×ABlk))(n e:Nat)(L:Nat→Prop)(A:Nat)(b:ABlk):Prop:=
 (S e).base.get A=some b∨(∃j,e≤j∧j<n∧L j∧(K j=1∨K j=3)∧(A,b)∈F j)∨∃j,j<n∧K j=3∧¬L j∧look ow j=some (A,b)
structure Mid(K:Nat→Nat)(ow:List (Nat×Nat×ABlk))(P:Program)(ro n0 nt:Nat)(ops:Array Oper)(S:Nat→DS)(op:Nat→Oper)(v:Nat→AV)(F:Nat→List (Nat×ABlk))(φ0:Ren)(w0:World)(L:Nat→Prop)(tmps:Array Value)(w:World)(φ:Ren)(e:Nat)(tD:Tree AV):Prop where
 slots:xT φ nt tD tmps
 t1:∀d,(∀j,j<ops.size→L j→(op j).dst≠some d)→tD.get d=(S 0).t.get d
 t2:∀j,j<ops.size→L j→∀d,(op j).dst=some d→(∀j',j'<ops.size→L j'→j<j'→(op j').dst≠some d)→tD.get d=some (v j)
 closed:Closed ops L
 inside:∀j,L j→j<ops.size
 e1:∀j,j<e→1≤K j→L j
 e2:∀j,e≤j→j<ops.size→K j=2→¬L j
 e3:(S e).frs=[]
 e4:e≤ops.size
 heap:SRelP ro n0 φ (Dom K ow S op F ops.size e L) w
 free:∀j,j<ops.size→¬L j→vZ (S j).c (S (j+1)).c φ
 ext:Ext (S 0).c (S ops.size).c φ0 φ
 le:φ0.le φ
 below:Below n0 w0 w
theorem wXA{j i:Nat}{a b:Oper}{d:Tmp}(ha:a.dst=some d)(hb:d∈b.looksAt ops):clash K ops j i a b=true:=by simp_all [clash]
theorem wZ5{j i:Nat}{a b:Oper}{d:Tmp}(ha:a.dst=some d)(hb:b.dst=some d):clash K ops j i a b=true:=by simp_all [clash]
theorem wX9{j i:Nat}{a b:Oper}{d:Tmp}(hb:b.dst=some d)(ha:d∈a.looksAt ops):clash K ops j i a b=true:=by simp_all [clash]
theorem wIG{n:Nat}(h:n≠0):Nat.beq n 0=false:=by
 cases n with
 |zero=>omega
 |succ n=>rfl
theorem wD0{j i:Nat}{a b:Oper}(ha:K j=2)(hb:K i≠0):clash K ops j i a b=true:=by simp_all [clash,wIG]
theorem wBI{j i:Nat}{a b:Oper}(hb:K i=2)(ha:K j≠0):clash K ops j i a b=true:=by simp_all [clash,wIG]
variable{st:Bool}(hcn:Canon K ow C H rec ro nt round ops S op v F)(hck:qD3 st K ops=true)
include hcn hck
theorem vE{L:Nat→Prop}(hcl:Closed ops L){i j:Nat}(hji:j<i)(hi:i<ops.size)(hr:Ready ops L i)(hc:clash K ops j i (op j) (op i)=true):L j:=by
 obtain⟨o,ho,_,_,_,h⟩:=wHE hck hi;have hoi:=(hcn.here i hi).1;rw[ho]at hoi;cases hoi;rcases h j hji with h|⟨a,ha,h⟩
 ·grind [wOE]
 ·have haj:=(hcn.here j (by omega)).1
  simp_all
theorem qI2{n0:Nat}{φ0 φ:Ren}{w0 w:World}{L:Nat→Prop}{tmps:Array Value}{e:Nat}{tD:Tree AV}(m:Mid K ow P ro n0 nt ops S op v F φ0 w0 L tmps w φ e tD){i:Nat}(hi:i<ops.size)(hL:¬L i)(hr:Ready ops L i):∀d∈(op i).looksAt ops,(S i).t.get d=tD.get d:=by
 intro d hd;have later:∀j,j<ops.size→i<j→L j→(op j).dst≠some d:=fun j hj hij hLj hdj=>hL (vE hcn hck m.closed hij hj (fun o ho=>m.closed j o hLj ho) (wX9 hdj hd))
 by_cases hw:∃j,j<i∧(op j).dst=some d
 ·
  have hmax:∀k,k≤i→(∃j,j<k∧(op j).dst=some d)→∃j,j<k∧(op j).dst=some d∧∀j',j<j'→j'<k→(op j').dst≠some d:=by
   intro k
   induction k with
   |zero=>intro _ ⟨j,h,_⟩;omega
   | succ k ih=>
    intro hk ⟨j,h,hj⟩;by_cases hkd:(op k).dst=some d
    ·exact⟨k,by omega,hkd,fun j' h1 h2=>by omega⟩
    ·have hjk:j≠k:=fun hh=>by subst hh;exact hkd hj
     obtain⟨q,h1,h2,h3⟩:=ih (by omega) ⟨j,by omega,hj⟩;refine⟨q,by omega,h2,fun j' a b=>?_⟩;by_cases hj':j'=k
     ·subst hj';exact hkd
     ·exact h3 j' a (by omega)
  obtain⟨j,hj,hdj,hlast⟩:=hmax i (pC _) hw;have hLj:L j:=vE hcn hck m.closed hj hi hr (wXA hdj hd);rw[hcn.t_some hdj i (by omega) hj hlast];refine(m.t2 j (by omega) hLj d hdj fun j' h1 h2 h3=>?_).symm
  grind
 ·rw[hcn.t_none i (by omega) fun j hj hdj=>hw ⟨j,hj,hdj⟩];refine(m.t1 d fun j hj hLj=>?_).symm
  grind
theorem slots_next{n0:Nat}{φ0 φ:Ren}{w0 w:World}{L:Nat→Prop}{tmps:Array Value}{e:Nat}{tD:Tree AV}(m:Mid K ow P ro n0 nt ops S op v F φ0 w0 L tmps w φ e tD){i:Nat}(hi:i<ops.size)(hL:¬L i) :
  (∀d,(∀j,j<ops.size→(L j∨j=i)→(op j).dst≠some d)→(xE tD (op i).dst (v i)).get d=(S 0).t.get d) ∧
  (∀j,j<ops.size→(L j∨j=i)→∀d,(op j).dst=some d→(∀j',j'<ops.size→(L j'∨j'=i)→j<j'→(op j').dst≠some d)→(xE tD (op i).dst (v i)).get d=some (v j)):=by
 have hput:∀d,(op i).dst≠some d→(xE tD (op i).dst (v i)).get d=tD.get d:=by
  intro d hd;cases hx:(op i).dst with
  |none=>rfl
  |some d'=>
   simp only[xE];rw[Tree.get_set,if_neg]
   grind
 refine⟨fun d h=>?_,fun j hj hLj d hd hlast=>?_⟩
 ·rw[hput d (h i hi (.inr rfl))];exact m.t1 d fun j hj hLj=>h j hj (.inl hLj)
 ·by_cases hji:j=i
  ·subst hji;rw[hd];simp only[xE];rw[Tree.get_set,if_pos rfl]
  ·have hLj:L j:=hLj.resolve_right hji;have hne:(op i).dst≠some d:=by
    intro hdi;rcases Nat.lt_or_gt_of_ne hji with h|h
    ·simp_all
    ·exact hL (vE hcn hck m.closed h hj (fun o ho=>m.closed j o hLj ho) (wZ5 hdi hd))
   rw[hput d hne];exact m.t2 j hj hLj d hd fun j' h1 h2 h3=>hlast j' h1 (.inl h2) h3
theorem mid_step(hC:CxOk P C)(hH:wA6 P H)(hR:wH2 P rec)(hk:KB (S 0).c (S 0).base)(hkA:∀i A old,look ow i=some (A,old)→A<(S 0).c){n0:Nat}{φ0 φ:Ren}{w0 w:World}{L:Nat→Prop}{tmps:Array Value}{e:Nat}{tD:Tree AV}(m:Mid K ow P ro n0 nt ops S op v F φ0 w0 L tmps w φ e tD){i:Nat}(hi:i<ops.size)(hL:¬L i)(hr:Ready ops L i){fr:Frame}{cs:List Frame}{rest:List Nat}{k:List Item}(hm:fr.mode=.run)(hrd:y9 φ0 round fr.roundOf)(hcalm:Calm fr cs) :
  ∃tmps' w' φ' e' tD',Steps P (lone { fr with tmps:=tmps,todo:=.inRegion ops (i::rest)::k } cs w) (lone { fr with tmps:=tmps',todo:=.inRegion ops rest::k } cs w') ∧
   Mid K ow P ro n0 nt ops S op v F φ0 w0 (fun j=>L j∨j=i) tmps' w' φ' e' tD':=by
 have ht:=hcn.tells i hi;have hoi:=(hcn.here i hi).1;have hcls:=(hcn.here i hi).2;have hag:=qI2 hcn hck m hi hL hr;obtain⟨hs1,hs2⟩:=slots_next hcn hck m hi hL;have hnum:∀j,j≤ops.size→_:=fun j hj=>hcn.numbers hC hH hR hk hkA j hj;have hmono:∀a b,a≤b→b≤ops.size→(S a).c≤(S b).c:=fun a b h1 h2=>(hnum b h2).1 a h1;have hfree:vZ (S i).c (S (i+1)).c φ:=m.free i hi hL;have hclosed':Closed ops (fun j=>L j∨j=i):=by
  intro j o hj ho x hx hb;rcases hj with hj|rfl
  ·exact .inl (m.closed j o hj ho x hx hb)
  ·exact .inl (hr o ho x hx hb)
 have hinside':∀j,(L j∨j=i)→j<ops.size:=fun j hj=>by rcases hj with hj|rfl;exact m.inside j hj;exact hi
 have hrd':y9 φ round fr.roundOf:=by
  cases hround:round with
  |none=>rw[hround]at hrd;exact hrd
  |some l=>rw[hround]at hrd;obtain⟨B,s,n,q1,q2⟩:=hrd;exact⟨B,s,n,m.le _ _ q1,q2⟩
 have hextn:∀φ',Ext (S i).c (S (i+1)).c φ φ'→Ext (S 0).c (S ops.size).c φ0 φ'∧(∀j,j<ops.size→¬(L j∨j=i)→vZ (S j).c (S (j+1)).c φ'):=by
  intro φ' hE;refine⟨⟨m.ext.1,fun A hA=>?_⟩,fun j hj hLj A h1 h2=>?_⟩
  ·have a1:=hmono 0 i (by omega) (by omega);have a2:=hmono (i+1) ops.size (by omega) (by omega);rw[hE.2 A (by omega)];exact m.ext.2 A hA
  ·have hji:j≠i:=fun hh=>hLj (.inr hh);rw[hE.2 A ?_]
   ·exact m.free j hj (fun hh=>hLj (.inl hh)) A h1 h2
   ·rcases Nat.lt_or_gt_of_ne hji with h|h
    ·have:=hmono (j+1) i (by omega) (by omega);omega
    grind
 have hquiet:1≤K i→e≤i∧(∀j,e≤j→j<i→K j≠2):=by intro h1;refine⟨pD8 fun h=>hL (m.e1 i h h1),fun j h2 h3=>?_⟩;exact fun h=>m.e2 j h2 (by omega) h (vE hcn hck m.closed h3 hi hr (wD0 h (by omega)))
 rcases(show K i=0∨K i=1∨K i=2∨K i=3 by omega)with hz|hz|hz|hz
 ·
  obtain⟨q1,q2,hF,Q,hQ,q3⟩:=ht.c0 hz;obtain⟨σx,hop⟩:=q3 tD hag;have hlf:KB (S i).c Q:=fun A hA=>by obtain⟨b,hb⟩:=mZ.1 hA;exact(hnum i (by omega)).2.1 A (by simp_all)
  have hSl:SRel (S i).c w.heap.size φ Q w:=m.heap.shut (fun A b h=>by have h1:=hcn.qmono (i:=i+1) (ops.size-(i+1)) (by omega) _ (hQ A b h).2;rw[show i+1+(ops.size-(i+1))=ops.size by omega]at h1;exact .inl (hcn.quiet _ h1 e m.e4)) hlf
  obtain⟨_,hrun⟩:=yT (P:=P) hC hH hR hop;obtain⟨tmps',es,w',φ',hst,hT,hD,hS',hE,hB⟩:=hrun w.heap.size φ w { fr with tmps:=tmps,todo:=.inRegion ops (i::rest)::k } cs rest k hlf hm rfl m.slots hrd' hcalm hSl hfree;cases hD;have hle:=hE.le hfree;obtain⟨hx,hfr⟩:=hextn φ' hE;refine⟨tmps',w',φ',e,xE tD (op i).dst (v i),hst,⟨hT,hs1,hs2,hclosed',hinside',fun j h1 h2=>.inl (m.e1 j h1 h2),fun j h1 h2 h3 hh=>?_,m.e3,m.e4,?_,hfr,hx,m.le.trans hle,m.below.trans (hB.mono m.heap.s)⟩⟩
  ·rcases hh with hh|rfl
   ·exact m.e2 j h1 h2 h3 hh
   ·omega
  ·have hdom:∀A b,Dom K ow S op F ops.size e (fun j=>L j∨j=i) A b→Dom K ow S op F ops.size e L A b:=by
    rintro A b (h|⟨j,h1,h2,h3|rfl,h4,h5⟩|⟨j,h1,h2,h3,h4⟩)
    ·exact .inl h
    ·exact .inr (.inl ⟨j,h1,h2,h3,h4,h5⟩)
    ·omega
    ·exact .inr (.inr ⟨j,h1,h2,fun hh=>h3 (.inl hh),h4⟩)
   refine⟨fun A b h=>?_,fun A b x h h1 h2=>?_,fun A A' b b' x x' h h' h1 h2 h3 h4=>?_,pD m.heap.s hB.size⟩
   ·obtain⟨x,hx,hr⟩:=m.heap.h A b (hdom A b h);exact⟨x,hle _ _ hx,hr.mono hle (hB.block _ hr.lt)⟩
   ·obtain⟨y,hy,_⟩:=m.heap.h A b (hdom A b h);rw[hle _ _ hy]at h2;cases h2;exact m.heap.o A b _ (hdom A b h) h1 hy
   ·obtain⟨y,hy,_⟩:=m.heap.h A b (hdom A b h);obtain⟨y',hy',_⟩:=m.heap.h A' b' (hdom A' b' h');rw[hle _ _ hy]at h3;cases h3;rw[hle _ _ hy']at h4;cases h4;exact m.heap.d A A' b b' _ _ (hdom A b h) (hdom A' b' h') h1 h2 hy hy'
 ·
  obtain⟨hei,hq⟩:=hquiet (by omega);obtain⟨hbase,hfrs⟩:=hcn.ground m.e3 i hei (by omega) hq;obtain⟨q1,q2,σx,q3,q4⟩:=ht.c1 hz;have hop:=q4 tD hag;have hsub:∀A b,(xM (Nat.testBit (((wG9 ops.toList 0 .lf).get i).getD 0)) (S i).frs (S i).base).get A=some b→Dom K ow S op F ops.size e L A b:=by
   intro A b h;rcases jQ _ _ _ _ _ h with h|⟨p,hp,hb,h⟩
   ·left;simp_all
   ·obtain⟨a1,a2,a3,a4⟩:=hfrs p hp;exact .inr (.inl ⟨p.1,a1,by omega,wOE m.closed hr hb,a3,by simp_all⟩)
  have hkb:KB (S i).c (xM (Nat.testBit (((wG9 ops.toList 0 .lf).get i).getD 0)) (S i).frs (S i).base):=by
   intro A hA;obtain⟨b,hb⟩:=mZ.1 hA;rcases jQ _ _ _ _ _ hb with h|⟨p,hp,_,h⟩
   ·exact(hnum i (by omega)).2.1 A (by rw[h];rfl)
   grind
  have hSl:=m.heap.shut hsub hkb;obtain⟨_,hrun⟩:=yT (P:=P) hC hH hR hop;obtain⟨tmps',es,w',φ',hst,hT,hD,hS',hE,hB⟩:=hrun w.heap.size φ w { fr with tmps:=tmps,todo:=.inRegion ops (i::rest)::k } cs rest k hkb hm rfl m.slots hrd' hcalm hSl hfree;cases hD;have hle:=hE.le hfree;obtain⟨hx,hfr⟩:=hextn φ' hE;refine⟨tmps',w',φ',e,xE tD (op i).dst (v i),hst,⟨hT,hs1,hs2,hclosed',hinside',fun j h1 h2=>.inl (m.e1 j h1 h2),fun j h1 h2 h3 hh=>?_,m.e3,m.e4,?_,hfr,hx,m.le.trans hle,m.below.trans (hB.mono m.heap.s)⟩⟩
  ·rcases hh with hh|rfl
   ·exact m.e2 j h1 h2 h3 hh
   ·omega
  ·have hdom:∀A b,Dom K ow S op F ops.size e (fun j=>L j∨j=i) A b→Dom K ow S op F ops.size e L A b∨(A,b)∈F i:=by
    rintro A b (h|⟨j,h1,h2,h3|rfl,h4,h5⟩|⟨j,h1,h2,h3,h4⟩)
    ·exact .inl (.inl h)
    ·exact .inl (.inr (.inl ⟨j,h1,h2,h3,h4,h5⟩))
    ·simp_all
    ·exact .inl (.inr (.inr ⟨j,h1,h2,fun hh=>h3 (.inl hh),h4⟩))
   have old:∀A b,Dom K ow S op F ops.size e L A b→∃x,φ A=some x∧φ' A=some x∧wED φ' b x w'∧x.1<w.heap.size:=fun A b h=>by obtain⟨x,hx,hr⟩:=m.heap.h A b h;exact⟨x,hx,hle _ _ hx,hr.mono hle (hB.block _ hr.lt),hr.lt⟩
   have new:∀A b,(A,b)∈F i→(S i).c≤A∧(σx.get A).isSome=true∧∃x,φ' A=some x∧wED φ' b x w'∧w.heap.size≤x.1:=fun A b h=>by obtain⟨g1,g2,g3⟩:=q3 _ h;obtain⟨x,hx,hr⟩:=hS'.h A b g1;exact⟨g2,by simp_all,x,hx,hr,hS'.o A x g2 (by simp_all) hx⟩
   refine⟨fun A b h=>?_,fun A b x h h1 h2=>?_,fun A A' b b' x x' h h' h1 h2 h3 h4=>?_,pD m.heap.s hB.size⟩
   ·rcases hdom A b h with h|h
    ·obtain⟨x,_,hx,hr,_⟩:=old A b h;grind
    ·obtain⟨_,_,x,hx,hr,_⟩:=new A b h;grind
   ·rcases hdom A b h with h|h
    ·obtain⟨y,hy,hy',_⟩:=old A b h;rw[hy']at h2;cases h2;exact m.heap.o A b _ h h1 hy
    ·obtain⟨_,_,y,hy,_,hlt⟩:=new A b h;rw[hy]at h2;cases h2;exact pD m.heap.s hlt
   ·rcases hdom A b h with h|h<;>rcases hdom A' b' h' with h'|h'
    ·obtain⟨y,hy,hy2,_⟩:=old A b h;obtain⟨y',hy',hy2',_⟩:=old A' b' h';rw[hy2]at h3;cases h3;rw[hy2']at h4;cases h4;exact m.heap.d A A' b b' _ _ h h' h1 h2 hy hy'
    ·obtain⟨y,hy,hy2,_,hlt⟩:=old A b h;obtain⟨_,_,y',hy',_,hge⟩:=new A' b' h'
     grind
    ·obtain⟨_,_,y,hy,_,hge⟩:=new A b h;obtain⟨y',hy',hy2',_,hlt⟩:=old A' b' h'
     grind
    ·obtain⟨g1,g2,_⟩:=new A b h;obtain⟨_,g2',_⟩:=new A' b' h';exact hS'.d A A' x x' g1 h2 g2 g2' h3 h4
 ·
  obtain⟨hei,hq⟩:=hquiet (by omega);obtain⟨hbase,hfrs⟩:=hcn.ground m.e3 i hei (by omega) hq;obtain⟨q1,q2⟩:=ht.c2 hz;have hop:=q2 tD hag;have hsub:∀A b,(xM (fun _=>true) (S i).frs (S i).base).get A=some b→Dom K ow S op F ops.size e L A b:=by
   intro A b h;rcases jQ _ _ _ _ _ h with h|⟨p,hp,_,h⟩
   ·left;simp_all
   ·obtain⟨a1,a2,a3,a4⟩:=hfrs p hp;exact .inr (.inl ⟨p.1,a1,by omega,vE hcn hck m.closed a2 hi hr (wBI hz (by omega)),a3,by simp_all⟩)
  have hkb:KB (S i).c (xM (fun _=>true) (S i).frs (S i).base):=by
   intro A hA;obtain⟨b,hb⟩:=mZ.1 hA;rcases jQ _ _ _ _ _ hb with h|⟨p,hp,_,h⟩
   ·exact(hnum i (by omega)).2.1 A (by rw[h];rfl)
   grind
  have hSl:=m.heap.to hsub;obtain⟨_,hrun⟩:=yT (P:=P) hC hH hR hop;obtain⟨tmps',es,w',φ',hst,hT,hD,hS',hE,hB⟩:=hrun n0 φ w { fr with tmps:=tmps,todo:=.inRegion ops (i::rest)::k } cs rest k hkb hm rfl m.slots hrd' hcalm hSl hfree;cases hD;have hle:=hE.le hfree;obtain⟨hx,hfr⟩:=hextn φ' hE;have notyet:∀j,i<j→j<ops.size→K j≠0→¬L j:=fun j h1 h2 h3 hLj=>hL (vE hcn hck m.closed h1 h2 (fun o ho=>m.closed j o hLj ho) (wD0 hz h3))
  refine⟨tmps',w',φ',i+1,xE tD (op i).dst (v i),hst,⟨hT,hs1,hs2,hclosed',hinside',fun j h1 h2=>?_,fun j h1 h2 h3 hh=>?_,q1,by omega,?_,hfr,hx,m.le.trans hle,m.below.trans hB⟩⟩
  ·by_cases hji:j=i
   ·omega
   ·exact .inl (vE hcn hck m.closed (by omega) hi hr (wBI hz (by omega)))
  ·rcases hh with hh|rfl
   ·grind
   ·omega
  ·have hdom:∀A b,Dom K ow S op F ops.size (i+1) (fun j=>L j∨j=i) A b→(S (i+1)).base.get A=some b:=by
    rintro A b (h|⟨j,h1,h2,h3|rfl,h4,h5⟩|⟨j,h1,h2,h3,h4⟩)
    ·exact h
    ·exact absurd h3 (notyet j (by omega) h2 (by omega))
    ·omega
    ·exact(hcn.mix i j hi h1 hz h2).elim
   have hP:=hS'.toP;exact⟨fun A b h=>hP.h A b (hdom A b h),fun A b x h=>hP.o A b x (hdom A b h),fun A A' b b' x x' h h'=>hP.d A A' b b' x x' (hdom A b h) (hdom A' b' h'),hP.s⟩
 ·
  obtain⟨hei,hq⟩:=hquiet (by omega);obtain⟨A,old,new,g1,g2,g3,g4,g5,g6⟩:=ht.c3 hz;obtain⟨σx,cx,hop,hnew⟩:=g6 tD hag;obtain⟨ty,ad,va,hsto⟩:=hcn.sto i hi hz;obtain⟨_,_,hrun⟩:=opAt_store (P:=P) hC hoi hsto hop hnew;obtain⟨hro,hbn0⟩:=hcn.own i A old g1;have hAlt:=hkA i A old g1;have hDom:Dom K ow S op F ops.size e L A old:=.inr (.inr ⟨i,hi,hz,hL,g1⟩);obtain⟨x,hφ,hb⟩:=m.heap.h A old hDom;have hn:=m.heap.o A old x hDom hro hφ;obtain⟨tmps',w',hst,hT,hbn,hkeep,hB⟩:=hrun n0 φ w { fr with tmps:=tmps,todo:=.inRegion ops (i::rest)::k } cs rest k x hm rfl m.slots hφ hb hn;have hE:Ext (S i).c (S (i+1)).c φ φ:=⟨by omega,fun _ _=>rfl⟩
  obtain⟨hx,hfr⟩:=hextn φ hE;refine⟨tmps',w',φ,e,xE tD (op i).dst (v i),hst,⟨hT,hs1,hs2,hclosed',hinside',fun j h1 h2=>.inl (m.e1 j h1 h2),fun j h1 h2 h3 hh=>?_,m.e3,m.e4,?_,hfr,hx,m.le,m.below.trans hB⟩⟩
  ·rcases hh with hh|rfl
   ·exact m.e2 j h1 h2 h3 hh
   ·omega
  ·have hbase:(S e).base=(S 0).base:=(hcn.ground hcn.frs0 e (pG _) m.e4 fun j _ h2 h=>hcn.mix j i (by omega) hi h hz).1;have hdom:∀A' b,Dom K ow S op F ops.size e (fun j=>L j∨j=i) A' b→(Dom K ow S op F ops.size e L A' b∧A≠A')∨(A'=A∧b=new):=by
    rintro A' b (h|⟨j,h1,h2,h3|rfl,h4,h5⟩|⟨j,h1,h2,h3,h4⟩)
    ·refine .inl ⟨.inl h,fun hh=>?_⟩
     simp_all
    ·refine .inl ⟨.inr (.inl ⟨j,h1,h2,h3,h4,h5⟩),fun hh=>?_⟩;subst hh;rcases h4 with h4|h4
     ·obtain⟨_,_,_,q3,_⟩:=(hcn.tells j h2).c1 h4;have:=(q3 _ h5).2.1;have:=hmono 0 j (by omega) (by omega);omega
     ·obtain⟨B,old',new',k1,_,_,_,k5,_⟩:=(hcn.tells j h2).c3 h4;rw[k5]at h5;rcases pS.1 h5 with h5|h5
      ·cases h5;have:=hcn.apart i j A old old' g1 k1;subst this;exact hL h3
      grind
    ·simp_all
    ·refine .inl ⟨.inr (.inr ⟨j,h1,h2,fun hh=>h3 (.inl hh),h4⟩),fun hh=>?_⟩;subst hh;exact h3 (.inr (hcn.apart i j A old b g1 h4).symm)
   have far:∀A' b,Dom K ow S op F ops.size e L A' b→A≠A'→∀y,φ A'=some y→y.1≠x.1:=fun A' b h hne y hy=>(m.heap.d A A' old b x y hDom h hro hne hφ hy).symm;refine⟨fun A' b h=>?_,fun A' b y h h1 h2=>?_,fun A' A'' b b' y y' h h' h1 h2 h3 h4=>?_,pD m.heap.s hB.size⟩
   ·rcases hdom A' b h with⟨h,hne⟩|⟨rfl,rfl⟩
    ·obtain⟨y,hy,hr⟩:=m.heap.h A' b h;exact⟨y,hy,hr.mono (Ren.le.refl φ) (hkeep _ (far A' b h hne y hy))⟩
    grind
   ·rcases hdom A' b h with⟨h,hne⟩|⟨rfl,rfl⟩
    ·exact m.heap.o A' b y h h1 h2
    grind
   ·rcases hdom A' b h with⟨h,hne⟩|⟨rfl,rfl⟩<;>rcases hdom A'' b' h' with⟨h',hne'⟩|⟨rfl,rfl⟩
    ·exact m.heap.d A' A'' b b' y y' h h' h1 h2 h3 h4
    ·exact m.heap.d A' A'' b old y y' h hDom h1 h2 h3 h4
    ·exact m.heap.d A' A'' old b' y y' hDom h' h1 h2 h3 h4
    omega
theorem mid_run(hC:CxOk P C)(hH:wA6 P H)(hR:wH2 P rec)(hk:KB (S 0).c (S 0).base)(hkA:∀i A old,look ow i=some (A,old)→A<(S 0).c){n0:Nat}{φ0:Ren}{w0:World}{fr:Frame}{cs:List Frame}{k:List Item}(hm:fr.mode=.run)(hrd:y9 φ0 round fr.roundOf)(hcalm:Calm fr cs) :
  ∀ (fuel t:Nat) (listed:Array Bool) (l:List Nat),listed.size=ops.size→l.length≤fuel→(∀i,i<ops.size→listed.getD i false=false→i∈l)→
   ∀ (L:Nat→Prop),(∀i,L i↔(i<ops.size∧listed.getD i false=true))→∀tmps w φ e tD,Mid K ow P ro n0 nt ops S op v F φ0 w0 L tmps w φ e tD→
    ∃L' tmps' w' φ' e' tD',(∀i,i<ops.size→L' i)∧Mid K ow P ro n0 nt ops S op v F φ0 w0 L' tmps' w' φ' e' tD' ∧
     Steps P (lone { fr with tmps:=tmps,todo:=.inRegion ops (Region.linearise.go .any ops fuel t listed [])::k } cs w) (lone { fr with tmps:=tmps',todo:=.inRegion ops []::k } cs w'):=by
 have least:∀(listed:Array Bool),listed.size=ops.size→Region.ready .any ops listed=[]→∀i,i<ops.size→listed.getD i false=true:=by
  intro listed hsz hnil i
  induction i using Nat.strongRecOn with
  | _ i ih=>
   intro hi;cases hl:listed.getD i false with
   |true=>rfl
   | false=>
    obtain⟨o,ho,hedge,_,_,_⟩:=wHE hck hi;have hmem:i∈Region.ready .any ops listed:=by
     refine mem_ready.2 ⟨?_,o,ho,fun x hx hb=>ih x.on (hedge x hx hb) (by have:=hedge x hx hb;omega)⟩;have hlt:i<listed.size:=by omega
     rw[mU,cZ hlt]at hl ⊢;exact hl
    simp_all
 intro fuel
 induction fuel with
 |zero=>
  intro t listed l hsz hlen hleft L hLL tmps w φ e tD m
  have:l=[]:=List.length_eq_zero_iff.1 (by omega)
  subst this;refine⟨L,tmps,w,φ,e,tD,fun i hi=>(hLL i).2 ⟨hi,?_⟩,m,.refl _ _⟩
  simp_all
 | succ fuel ih=>
  intro t listed l hsz hlen hleft L hLL tmps w φ e tD m;have hgo:Region.linearise.go .any ops (fuel+1) t listed []=(match (Region.ready .any ops listed)[t%(Region.ready .any ops listed).length]? with
   |some i=>i::Region.linearise.go .any ops fuel (t/(Region.ready .any ops listed).length) (listed.setIfInBounds i true) []
   |none=>[]):=by
   grind [Region.linearise.go,Region.ready,linearise_go_acc]
  cases hi:(Region.ready .any ops listed)[t%(Region.ready .any ops listed).length]? with
  | none=>
   have hnil:Region.ready .any ops listed=[]:=by
    cases hr:Region.ready .any ops listed with
    |nil=>rfl
    |cons x xs=>simp_all [Nat.mod_lt,List.getElem?_eq_getElem]
   rw[hgo,hi];exact⟨L,tmps,w,φ,e,tD,fun i hin=>(hLL i).2 ⟨hin,least listed hsz hnil i hin⟩,m,.refl _ _⟩
  | some i=>
   rw[hgo,hi];dsimp only;obtain⟨hun,o,ho,hall⟩:=mem_ready.1 (pE hi);have hin:i<ops.size:=(pU.1 ho).1;have hilt:i<listed.size:=by omega
   have hfalse:listed.getD i false=false:=by simp_all
   have hnL:¬L i:=fun h=>by simp_all
   have hready:Ready ops L i:=by
    intro o' ho' x hx hb
    grind
   obtain⟨tmps1,w1,φ1,e1,tD1,hst,m1⟩:=mid_step hcn hck hC hH hR hk hkA m hin hnL hready (rest:=Region.linearise.go .any ops fuel (t/(Region.ready .any ops listed).length) (listed.setIfInBounds i true) []) (k:=k) hm hrd hcalm;have hget:∀j,(listed.setIfInBounds i true).getD j false=if j=i then true else listed.getD j false:=by
    intro j;by_cases hji:j=i
    ·subst hji;rw[if_pos rfl];simp[hilt]
    simp_all [if_neg,getD_set_ne,Ne.symm]
   obtain⟨L',tmps',w',φ',e',tD',h1,h2,h3⟩:=ih (t/(Region.ready .any ops listed).length) (listed.setIfInBounds i true) (l.erase i) (by simp_all)
    (by simp_all)
    (fun j hj hjf=>by grind)
    (fun j=>L j∨j=i) (fun j=>by grind) tmps1 w1 φ1 e1 tD1 m1
   exact⟨L',tmps',w',φ',e',tD',h1,h2,hst.trans h3⟩
end
section
variable{P:Program}{C:Cx}{H:xU}
theorem xT.congr{φ:Ren}{nt:Nat}{t t':Tree AV}{tmps:Array Value}(h:xT φ nt t tmps)(k:∀d,t.get d=t'.get d):xT φ nt t' tmps:=⟨h.1,fun d=>by rw[←k];exact h.2 d⟩
theorem drawnM_ok(md:Md)(hC:CxOk P C)(hH:wA6 P H):DrwOk P (drawnM md C H):=by
 intro rec hR ro nt round t ops σ c t' σ' c' he;unfold drawnM at he;cases hck:qD3 md.st (cls md ops) ops with
 |false=>simp_all
 | true =>
  rw[hck]at he;simp only[cond_true]at he;split at he
  case h_1=>cases he
  case h_2 ow how=>
  split at he
  case h_2=>cases he
  case h_1 Sn hrun=>
   cases hkp:wOG Sn.q Sn.bs with
   |false=>simp_all
   |true=>
   rw[hkp]at he;cases he;have how1:∀i A old,look ow i=some (A,old)→ro≤A∧σ.get A=some old:=by
    intro i A old h;cases hst:md.st with
    |false=>rw[hst]at how;cases how;cases h
    |true=>rw[hst]at how;exact(wJ9 how).1 _ (wI6 h)
   have how2:∀i j A old old',look ow i=some (A,old)→look ow j=some (A,old')→i=j:=by
    intro i j A old old' h h';cases hst:md.st with
    |false=>rw[hst]at how;cases how;cases h
    |true=>rw[hst]at how;exact congrArg (·.1) ((wJ9 how).2 _ (wI6 h) _ (wI6 h') rfl)
   obtain⟨S,hS0,hSn,hst⟩:=wS0 _ _ _ _ hrun;rw[cL]at hSn
   have hops:∀i,i<ops.size→∃o,ops[i]? = some o:=fun i hi=>⟨_,cZ hi⟩
   let op:Nat→Oper:=fun i=>(ops[i]?).getD default;have hop:∀i,i<ops.size→ops[i]? = some (op i):=fun i hi=>by grind
   have htell:∀i,∃vF:AV×List (Nat×ABlk),i<ops.size→cls md ops i≤3∧StepTells (cls md ops) ow C H rec ro nt round ops i (op i) (S i) (S (i+1)) vF.1 vF.2:=by
    intro i;by_cases hi:i<ops.size
    ·obtain⟨h1,v,F,h2⟩:=qJG (hop i hi) (hst i (pG _) (by omega));exact⟨(v,F),fun _=>⟨h1,h2⟩⟩
    ·exact⟨(.nilp,[]),fun h=>absurd h hi⟩
   obtain⟨vF,hvF⟩:=Classical.axiomOfChoice htell;have hcn:Canon (cls md ops) ow C H rec ro nt round ops S op (fun i=>(vF i).1) (fun i=>(vF i).2):=
    by
    refine⟨fun i hi=>⟨hop i hi,(hvF i hi).1⟩,fun i hi=>(hvF i hi).2,by rw[hS0],?_,?_,?_,?_,how2⟩
    ·grind [wHE,qB4]
    ·intro i A old h;refine⟨(how1 i A old h).1,?_⟩;rw[hS0];cases hg:(wID ow σ).get A with
     |none=>rfl
     |some b=>exact absurd rfl ((wG7 hg).2 _ (wI6 h))
    ·grind [qB4]
    ·intro p hp e he;rw[hSn]at hp;refine wOF hkp p hp _ ?_;have hbs:∀i,i≤ops.size→(S i).base∈(S i).bs:=by
      intro i
      induction i with
      |zero=>intro _;rw[hS0];exact pQ
      |succ i ih=>intro hi;exact(hvF i (by omega)).2.bb (ih (by omega))
     have hup:∀k,e+k≤ops.size→∀β∈(S e).bs,β∈(S (e+k)).bs:=by
      intro k
      induction k with
      |zero=>intro _ β h;exact h
      |succ k ih=>intro hk β h;exact(hvF (e+k) (by omega)).2.bs β (ih (by omega) β h)
     have:=hup (ops.size-e) (by omega) _ (hbs e he)
     simp_all
   have hb0:(S 0).base=wID ow σ:=by rw[hS0]
   have hkbc:∀{k},KB k σ→KB k (wID ow σ):=fun hk A hA=>by obtain⟨b,hb⟩:=mZ.1 hA;exact hk A (by grind [wG7])
   have hkA:KB c σ→∀i A old,look ow i=some (A,old)→A<(S 0).c:=fun hk i A old h=>by rw[hS0];exact hk A (by grind)
   have hc0:(S 0).c=c:=by rw[hS0]
   have ht0:(S 0).t=t:=by rw[hS0]
   have hgrow:Grow c σ (S ops.size).c (xM (fun _=>true) (S ops.size).frs (S ops.size).base):=by
    refine⟨?_,fun hk=>?_⟩
    ·rw[←hc0]
     have:∀i,i≤ops.size→(S 0).c≤(S i).c:=by
      intro i
      induction i with
      |zero=>intro _;exact pC _
      |succ i ih=>
       intro hi;have ht:=hcn.tells i (by omega);have hcl:=(hcn.here i (by omega)).2;refine pD (ih (by omega)) ?_;rcases(show cls md ops i=0∨cls md ops i=1∨cls md ops i=2∨cls md ops i=3 by omega)with hz|hz|hz|hz
       ·obtain⟨_,_,_,_,_,q⟩:=ht.c0 hz;obtain⟨_,q⟩:=q (S i).t (fun _ _=>rfl);exact(yT (P:=P) hC hH hR q).1.le
       ·obtain⟨_,_,_,_,q⟩:=ht.c1 hz;exact(yT (P:=P) hC hH hR (q (S i).t (fun _ _=>rfl))).1.le
       ·obtain⟨_,q⟩:=ht.c2 hz;exact(yT (P:=P) hC hH hR (q (S i).t (fun _ _=>rfl))).1.le
       ·obtain⟨_,_,_,_,_,_,q,_⟩:=ht.c3 hz;omega
     grind
    ·obtain⟨_,h2,h3⟩:=hcn.numbers hC hH hR (by rw[hb0,hc0];exact hkbc hk) (hkA hk) ops.size (pC _);intro A hA;obtain⟨b,hb⟩:=mZ.1 hA;rcases jQ _ _ _ _ _ hb with h|⟨p,hp,_,h⟩
     ·exact h2 A (by rw[h];rfl)
     grind
   rw[←hSn];refine⟨hgrow,fun n0 φ w fr cs id k hkb hm htd hT hrd hcalm hS hf=>?_⟩;have hk0:KB (S 0).c (S 0).base:=by simp_all
   have hmono:∀a b,a≤b→b≤ops.size→(S a).c≤(S b).c:=fun a b h1 h2=>(hcn.numbers hC hH hR hk0 (hkA hkb) b h2).1 a h1;have m0:Mid (cls md ops) ow P ro n0 nt ops S op (fun i=>(vF i).1) (fun i=>(vF i).2) φ w (fun _=>False) fr.tmps w.drew φ 0 t:=by
    refine⟨hT,fun d _=>by rw[ht0],fun j _ h=>h.elim,fun i o h=>h.elim,fun j h=>h.elim,fun j h=>by omega,fun j _ _ _ h=>h,by rw[hS0],pG _,?_,?_,?_,Ren.le.refl φ,(Below.refl n0 w).drew⟩
    ·have hP:=hS.drew.toP;have hdom:∀A b,Dom (cls md ops) ow S op (fun i=>(vF i).2) ops.size 0 (fun _=>False) A b→σ.get A=some b:=by
      rintro A b (h|⟨j,_,_,h,_⟩|⟨j,_,_,_,h⟩)
      ·rw[hb0]at h;exact(wG7 h).1
      ·exact h.elim
      grind
     exact⟨fun A b h=>hP.h A b (hdom A b h),fun A b x h=>hP.o A b x (hdom A b h),fun A A' b b' x x' h h'=>hP.d A A' b b' x x' (hdom A b h) (hdom A' b' h'),hP.s⟩
    ·intro j hj _ A h1 h2;have a1:=hmono 0 j (by omega) (by omega);have a2:=hmono (j+1) ops.size (by omega) (by omega);exact hf A (by omega) (by omega)
    ·rw[hc0];exact⟨hgrow.le,fun A _=>rfl⟩
   obtain⟨L',tmps',w',φ',e',tD',hall,m,hsteps⟩:=mid_run hcn hck hC hH hR hk0 (hkA hkb) (fr:=fr) (cs:=cs) (k:=k) hm hrd hcalm ops.size (w.tape w.drawn (.order fr.fn id)) (Array.replicate ops.size false) (List.range ops.size) (by simp) (by simp)
    (fun i hi _=>List.mem_range.2 hi) (fun _=>False) (fun i=>by simp_all) fr.tmps w.drew φ 0 t m0
   have hd:=st_draw (P:=P) (cs:=cs) (w:=w) hm htd;have hsch:Region.schedule (P.follows .mixedOrders) ops (w.tape w.drawn (.order fr.fn id))=Region.linearise.go .any ops ops.size (w.tape w.drawn (.order fr.fn id)) (Array.replicate ops.size false) []:=by simp only[Region.schedule,hC.mixed,Bool.true_or,if_true];rfl
   rw [hsch]at hd;have hend:=wMG (P:=P) (fr:={ fr with tmps:=tmps',todo:=.inRegion ops []::k }) (cs:=cs) (w:=w') hm rfl;have hsame:∀d,tD'.get d=(S ops.size).t.get d:=by
    intro d;by_cases hw:∃j,j<ops.size∧(op j).dst=some d
    ·have hmax:∀k,k≤ops.size→(∃j,j<k∧(op j).dst=some d)→∃j,j<k∧(op j).dst=some d∧∀j',j<j'→j'<k→(op j').dst≠some d:=by
      intro k
      induction k with
      |zero=>omega
      | succ k ih=>
       intro hk ⟨j,h,hj⟩;by_cases hkd:(op k).dst=some d
       ·grind
       ·have hjk:j≠k:=fun hh=>by subst hh;exact hkd hj
        obtain⟨q,h1,h2,h3⟩:=ih (by omega) ⟨j,by omega,hj⟩
        grind
     obtain⟨j,hj,hdj,hlast⟩:=hmax ops.size (pC _) hw;rw[hcn.t_some hdj ops.size (pC _) hj hlast];exact m.t2 j hj (hall j hj) d hdj fun j' h1 _ h3=>hlast j' h3 h1
    ·rw[hcn.t_none ops.size (pC _) fun j hj hdj=>hw ⟨j,hj,hdj⟩];exact m.t1 d fun j hj _ hdj=>hw ⟨j,hj,hdj⟩
   have hq:∀j,e'≤j→j<ops.size→cls md ops j≠2:=fun j h1 h2 h=>m.e2 j h1 h2 h (hall j h2);obtain⟨hbase,hfrs⟩:=hcn.ground m.e3 ops.size m.e4 (pC _) hq;refine⟨tmps',w',φ',(Steps.one hd).trans (hsteps.trans (.one hend)),m.slots.congr hsame,m.heap.to ?_,by rw[←hc0];exact m.ext,m.below⟩;intro A b h;rcases jQ _ _ _ _ _ h with h|⟨p,hp,_,h⟩
   ·left;simp_all
   ·obtain⟨a1,a2,a3,a4⟩:=hfrs p hp;exact .inr (.inl ⟨p.1,a1,a2,hall _ a2,a3,by simp_all⟩)
theorem qAG(hC:CxOk P C)(hH:wA6 P H):∀l:List Md,DrwOk P (qE5 C H l)
 |[]=>fun rec _ ro nt round t ops σ c t' σ' c' he=>nomatch he
 |md::l=>fun rec hR ro nt round t ops σ c t' σ' c' he=>by
  simp only[qE5]at he;split at he
  ·rename_i r hr;cases he;exact drawnM_ok md hC hH rec hR ro nt round t ops σ c t' σ' c' hr
  ·exact qAG hC hH l rec hR ro nt round t ops σ c t' σ' c' he
theorem qJB(hC:CxOk P C)(hH:wA6 P H):DrwOk P (drawn C H):=qAG hC hH mds
end
def Tree.All{α:Type}:(Nat→α→Prop)→Tree α→Prop
 |_,.lf=>True
 |p,.nd v l r=>(∀x,v=some x→p 0 x)∧Tree.All (fun k=>p (2*k+1)) l∧Tree.All (fun k=>p (2*k+2)) r
theorem Tree.All.get{α:Type}:∀{t:Tree α}{p:Nat→α→Prop},t.All p→∀{k:Nat}{x:α},t.get k=some x→p k x
 |.lf,_,_,k,x,h=>by cases h
 | .nd v l r,p,⟨h0,h1,h2⟩,k,x,h=>by
  simp only[Tree.get]at h;cases hk:Nat.beq k 0 with
  |true=>simp_all
  | false=>
   rw[hk]at h;simp only[cond_false]at h;have hk0:k≠0:=fun hh=>by simp_all
   cases hm:Nat.beq (k%2) 1 with
   |true=>
    rw[hm]at h;have hm':k%2=1:=by simpa using hm
    have:=h1.get h
    grind
   |false=>
    rw[hm]at h;have hm':k%2≠1:=fun hh=>by rw[hh]at hm;cases hm
    have:=h2.get h
    grind
def TyFact(P:Program)(k:Nat)(i:TypeInfo):Prop:=P.types[k]? = some i
def FnFact(P:Program)(k:Nat)(f:Func):Prop:=P.funcs[k]? = some f∧∀args w,(callFunc k args).run P w=.ok (.enter k args) w
def ExFact(P:Program)(k:Nat)(x:ExtK):Prop:=∀args w,(callFunc k args).run P w=((x.sem args).run P w).andThen fun v w'=>.ok (.value v) w'
theorem qE7{P : Program}{f : FuncId}{x : ExtK}(h1 : (P.funcs[f]?).map (fun fn => (fn.name == "runtime.NumGoroutine", fn.body.isNone, (Extern.findNext fn).isNone)) = some (false, true, true))(h2 : (P.funcs[f]?).bind Extern.find = some x.sem) : ExFact P f x := by
 intro args w
 grind [Option.some.injEq,Prod.mk.injEq,run_callFunc_extern,Option.isNone_iff_eq_none]
theorem cxOk_of{P:Program}{C:Cx}(h1:C.tys.All (TyFact P))(h2:C.fns.All (FnFact P))(hm:P.follows .mixedOrders=true)(hx:C.exts.All (ExFact P)):CxOk P C where
 exts:=fun f x h=>hx.get h
 tys:=fun t i h=>by
  have:=h1.get h;unfold TyFact at this;unfold Tables.info?
  grind
 fns:=fun f fn h=>h2.get h
 mixed:=hm
structure Ent where
 f:FuncId
 key:Nat
 m:Nat
 args:List AV
 v:AV
 blks:List (List AV)
abbrev Env:=Tree (Nat×Nat)
def listT:Nat→List (List AV)→Tree (List AV)→Tree (List AV)
 |_,[],t=>t
 |i,b::bs,t=>listT (i+1) bs (t.set i (some b))
def Ent.K(e:Ent):Tree (List AV):=listT 0 e.blks .lf
def Ent.KA(e:Ent):Tree (List AV):=listT 0 (e.blks.take e.m) .lf
def Ent.n(e:Ent):Nat:=e.blks.length
def wC1:Nat→Nat→List (List AV)→Hp→Hp
 |0,_,_,σ=>σ
 |_+1,_,[],σ=>σ
 |m+1,i,b::bs,σ=>wC1 m (i+1) bs (σ.set i (some (.cells b none)))
def idEnv:Nat→Env→Env
 |0,t=>t
 |i+1,t=>idEnv i (t.set i (some (i,0)))
def zipX:List AV→List AV→List (AV×AV)→Option (List (AV×AV))
 |[],[],ps=>some ps
 |a::as,b::bs,ps=>match zipX as bs ps with
  |some r=>some ((a,b)::r)
  |none=>none
 |_,_,_=>none
def mt(σ:Hp)(K:Tree (List AV)):Nat→Env→List (AV×AV)→Option Env
 |0,_,_=>none
 |_+1,E,[]=>some E
 | n+1,E,(a,b)::ps=>
  let link (A off i off':Nat):Option Env:=
   match E.get i with
   |some (A',sh)=>bif Nat.beq A A'&&Nat.beq (sh+off') off then mt σ K n E ps else none
   | none=>bif Nat.ble off' off then
     match K.get i,σ.get A with
     | some kc,some (.cells ac _)=>bif Nat.ble (off-off'+kc.length) ac.length then
       match lsub ac (off-off') kc.length with
       |some seg=>match zipX seg kc ps with
        |some qs=>mt σ K n (E.set i (some (A,off-off'))) qs
        |none=>none
       |none=>none
      else none
     |_,_=>none
    else none
  match b,a with
  |.bool y,.bool x=>bif x==y then mt σ K n E ps else none
  |.int k' y,.int k x=>if k=k'∧x=y then mt σ K n E ps else none
  |.str s',.str s=>if s.data.toList=s'.data.toList then mt σ K n E ps else none
  |.ptr i off',.ptr A off=>link A off i off'
  |.sl i off' len' cap' esz' ex',.sl A off len cap esz ex=>bif Nat.beq len len'&&Nat.beq esz esz'&&Nat.ble cap' cap&&Nat.ble len' cap'&&(!ex'||(ex&&Nat.beq cap cap'))then link A off i off' else none
  |.nilp,.nilp=>mt σ K n E ps
  |.nils,.nils=>mt σ K n E ps
  |.sle,.sle=>mt σ K n E ps
  |.nilf,.nilf=>mt σ K n E ps
  |.nili,.nili=>mt σ K n E ps
  |.nilm,.nilm=>mt σ K n E ps
  | .fn f' fs' cs',.fn f fs cs=>if f=f' then
    match zipX cs cs' ps with
    |some qs=>match zipX fs fs' qs with
     |some rs=>mt σ K n E rs
     |none=>none
    |none=>none
   else none
  |.ifc t' v',.ifc t v=>bif Nat.beq t t' then mt σ K n E ((v,v')::ps)else none
  |.agg cs',.agg cs=>match zipX cs cs' ps with
   |some qs=>mt σ K n E qs
   |none=>none
  |.tup cs',.tup cs=>match zipX cs cs' ps with
   |some qs=>mt σ K n E qs
   |none=>none
  |_,_=>none
mutual
inductive MRel(e:Nat→Option (Nat×Nat)):AV→AV→Prop
 |bool (b:Bool):MRel e (.bool b) (.bool b)
 |int (k:IntKind) (n:Int):MRel e (.int k n) (.int k n)
 |str (s s':ByteArray) (h:s=s'):MRel e (.str s) (.str s')
 |ptr {A i sh off':Nat} (h:e i=some (A,sh)):MRel e (.ptr A (sh+off')) (.ptr i off')
 |sl {A i sh off' len cap cap' esz:Nat} {ex ex':Bool} (h:e i=some (A,sh)) (h1:cap'≤cap) (h2:len≤cap') (h3:ex'=true→ex=true∧cap=cap'):MRel e (.sl A (sh+off') len cap esz ex) (.sl i off' len cap' esz ex')
 |nilp:MRel e .nilp .nilp
 |nils:MRel e .nils .nils
 |sle:MRel e .sle .sle
 |nilf:MRel e .nilf .nilf
 |nili:MRel e .nili .nili
 |nilm:MRel e .nilm .nilm
 |fn {f:Fn} {fs cs fs' cs':List AV} (h:MList e fs fs') (k:MList e cs cs'):MRel e (.fn f fs cs) (.fn f fs' cs')
 |ifc {t:TypeId} {v v':AV} (h:MRel e v v'):MRel e (.ifc t v) (.ifc t v')
 |agg {cs cs':List AV} (h:MList e cs cs'):MRel e (.agg cs) (.agg cs')
 |tup {cs cs':List AV} (h:MList e cs cs'):MRel e (.tup cs) (.tup cs')
inductive MList(e:Nat→Option (Nat×Nat)):List AV→List AV→Prop
 |nil:MList e [] []
 |cons {a b:AV} {as bs:List AV} (h:MRel e a b) (t:MList e as bs):MList e (a::as) (b::bs)
end
theorem yG:∀{as bs:List AV}{ps qs:List (AV×AV)},zipX as bs ps=some qs→∀{e:Nat→Option (Nat×Nat)},(∀p∈qs,MRel e p.1 p.2)→MList e as bs∧∀p∈ps,MRel e p.1 p.2
 |[],[],ps,qs,h,e,k=>by cases h;exact⟨.nil,k⟩
 |[],_::_,_,_,h,_,_=>by cases h
 |_::_,[],_,_,h,_,_=>by cases h
 |a::as,b::bs,ps,qs,h,e,k=>by
  simp only[zipX]at h;split at h
  ·rename_i r hr;cases h;obtain⟨h1,h2⟩:=yG hr fun p hp=>k p (by simp[hp]);exact⟨.cons (k (a,b) (by simp)) h1,h2⟩
  grind
def EnvLe(E E':Env):Prop:=∀i x,E.get i=some x→E'.get i=some x
def BlkOk(σ:Hp)(K:Tree (List AV))(E:Env)(i A sh:Nat):Prop:=
 ∃kc ac seg ty,K.get i=some kc∧σ.get A=some (.cells ac ty)∧sh+kc.length≤ac.length∧lsub ac sh kc.length=some seg∧MList E.get seg kc
theorem mt_spec{σ:Hp}{K:Tree (List AV)}:∀(n:Nat)(E:Env)(ps:List (AV×AV))(E':Env),mt σ K n E ps=some E'→
  EnvLe E E'∧(∀p∈ps,MRel E'.get p.1 p.2)∧∀i A sh,E.get i=none→E'.get i=some (A,sh)→BlkOk σ K E' i A sh:=by
 intro n
 induction n with
 |zero=>intro E ps E' h;cases h
 | succ n ih=>
  intro E ps E' h;cases ps with
  |nil=>simp only[mt]at h;cases h;exact⟨fun _ _ h=>h,(fun p hp=>by cases hp),(fun i A sh h1 h2=>by simp_all)⟩
  | cons p ps =>
   obtain⟨a,b⟩:=p
   have plain:mt σ K n E ps=some E'→MRel E'.get a b→EnvLe E E'∧(∀p∈(a,b)::ps,MRel E'.get p.1 p.2)∧∀i A sh,E.get i=none→E'.get i=some (A,sh)→BlkOk σ K E' i A sh:=by
    intro h hab;obtain⟨h1,h2,h3⟩:=ih _ _ _ h;refine⟨h1,fun p hp=>?_,h3⟩;rcases pS.1 hp with rfl|hp
    ·exact hab
    ·exact h2 p hp
   have zipped:∀qs,mt σ K n E qs=some E'→((∀p∈qs,MRel E'.get p.1 p.2)→MRel E'.get a b∧∀p∈ps,MRel E'.get p.1 p.2)→EnvLe E E'∧(∀p∈(a,b)::ps,MRel E'.get p.1 p.2)∧∀i A sh,E.get i=none→E'.get i=some (A,sh)→BlkOk σ K E' i A sh:=by
    intro qs h hq;obtain⟨h1,h2,h3⟩:=ih _ _ _ h;obtain⟨h4,h5⟩:=hq h2;refine⟨h1,fun p hp=>?_,h3⟩;rcases pS.1 hp with rfl|hp
    ·exact h4
    ·exact h5 p hp
   have link:∀A off i off',(match E.get i with
     |some (A',sh)=>bif Nat.beq A A'&&Nat.beq (sh+off') off then mt σ K n E ps else none
     | none=>bif Nat.ble off' off then
       match K.get i,σ.get A with
       | some kc,some (.cells ac _)=>bif Nat.ble (off-off'+kc.length) ac.length then
         match lsub ac (off-off') kc.length with
         |some seg=>match zipX seg kc ps with
          |some qs=>mt σ K n (E.set i (some (A,off-off'))) qs
          |none=>none
         |none=>none
        else none
       |_,_=>none
      else none)=some E'→(∀sh,E'.get i=some (A,sh)→off=sh+off'→MRel E'.get a b)→EnvLe E E'∧(∀p∈(a,b)::ps,MRel E'.get p.1 p.2)∧∀i A sh,E.get i=none→E'.get i=some (A,sh)→BlkOk σ K E' i A sh:=by
    intro A off i off' h hab;split at h
    ·rename_i A' sh hE;cases hb:(Nat.beq A A'&&Nat.beq (sh+off') off)with
     |false=>rw[hb]at h;cases h
     |true=>
      rw[hb]at h;simp only[cond_true]at h;simp only[Bool.and_eq_true]at hb;have hA:A=A':=by simpa using hb.1
      have ho:sh+off'=off:=by simpa using hb.2
      subst hA;obtain⟨h1,h2,h3⟩:=ih _ _ _ h;refine⟨h1,fun p hp=>?_,h3⟩;rcases pS.1 hp with rfl|hp
      ·exact hab sh (h1 _ _ hE) ho.symm
      ·exact h2 p hp
    ·rename_i hE;cases hb:Nat.ble off' off with
     |false=>rw[hb]at h;cases h
     | true=>
      rw[hb]at h;simp only[cond_true]at h;have hb':=pI hb;split at h
      ·rename_i kc ac ty hK hσ;cases hl:Nat.ble (off-off'+kc.length) ac.length with
       |false=>rw[hl]at h;cases h
       | true=>
        rw[hl]at h;simp only[cond_true]at h;have hl':=pI hl;split at h
        ·rename_i seg hseg;split at h
         ·rename_i qs hqs;obtain⟨h1,h2,h3⟩:=ih _ _ _ h;obtain⟨h4,h5⟩:=yG hqs h2;have hi:E'.get i=some (A,off-off'):=h1 i _ (by rw[Tree.get_set,if_pos rfl]);refine⟨fun j x hj=>h1 j x ?_,fun p hp=>?_,fun j A' sh' hj hj'=>?_⟩
          ·rw[Tree.get_set];by_cases hji:j=i
           ·subst hji;rw[hE]at hj;cases hj
           ·rw[if_neg hji];exact hj
          ·rcases pS.1 hp with rfl|hp
           ·exact hab _ hi (by omega)
           ·exact h5 p hp
          ·by_cases hji:j=i
           ·subst hji;rw[hi]at hj';cases hj';exact⟨kc,ac,seg,ty,hK,hσ,hl',hseg,h4⟩
           ·exact h3 j A' sh' (by rw[Tree.get_set,if_neg hji];exact hj) hj'
         ·cases h
        ·cases h
      ·cases h
   simp only[mt]at h;split at h
   ·rename_i y x;cases hxy:x==y with
    |false=>rw[hxy]at h;cases h
    | true => rw[hxy]at h;have:x=y:=by simpa using hxy
              subst this;exact plain h (.bool _)
   ·rename_i k' y k x;split at h
    ·rename_i hc;obtain⟨rfl,rfl⟩:=hc;exact plain h (.int _ _)
    ·cases h
   ·rename_i s' s;split at h
    ·rename_i hc
     have:s=s':=by cases s;cases s';simp only at hc;congr 1;exact Array.toList_inj.1 hc
     exact plain h (.str _ _ this)
    ·cases h
   ·rename_i i off' A off;exact link A off i off' h fun sh hi ho=>by subst ho;exact .ptr hi
   ·rename_i i off' len' cap' esz' ex' A off len cap esz ex;cases hb:(Nat.beq len len'&&Nat.beq esz esz'&&Nat.ble cap' cap&&Nat.ble len' cap'&&(!ex'||(ex&&Nat.beq cap cap')))with
    |false=>rw[hb]at h;cases h
    |true=>
     rw[hb]at h;simp only[cond_true]at h;simp only[Bool.and_eq_true]at hb;obtain⟨⟨⟨⟨b1,b2⟩,b3⟩,b4⟩,b5⟩:=hb;have e1:len=len':=by simpa using b1
     have e2:esz=esz':=by simpa using b2
     subst e1;subst e2;refine link A off i off' h fun sh hi ho=>?_;subst ho;refine .sl hi (pI b3) (pI b4) fun hex=>?_;rw[hex]at b5;simp only[Bool.not_true,Bool.false_or,Bool.and_eq_true]at b5;exact⟨b5.1,by simpa using b5.2⟩
   ·exact plain h .nilp
   ·exact plain h .nils
   ·exact plain h .sle
   ·exact plain h .nilf
   ·exact plain h .nili
   ·exact plain h .nilm
   ·rename_i f' fs' cs' f fs cs;split at h
    ·rename_i hf;subst hf;split at h
     ·rename_i qs hqs;split at h
      ·rename_i rs hrs;refine zipped rs h fun hall=>?_;obtain⟨k1,k2⟩:=yG hrs hall;obtain⟨k3,k4⟩:=yG hqs k2;exact⟨.fn k1 k3,k4⟩
      ·cases h
     ·cases h
    ·cases h
   ·rename_i t' v' t v;cases hb:Nat.beq t t' with
    |false=>rw[hb]at h;cases h
    |true=>
     rw[hb]at h
     have:t=t':=by simpa using hb
     subst this;refine zipped _ h fun hall=>?_;exact⟨.ifc (hall (v,v') (by simp)),fun p hp=>hall p (by simp[hp])⟩
   ·rename_i cs' cs;split at h
    ·rename_i qs hqs;refine zipped qs h fun hall=>?_;obtain⟨k1,k2⟩:=yG hqs hall;exact⟨.agg k1,k2⟩
    ·cases h
   ·rename_i cs' cs;split at h
    ·rename_i qs hqs;refine zipped qs h fun hall=>?_;obtain⟨k1,k2⟩:=yG hqs hall;exact⟨.tup k1,k2⟩
    ·cases h
   grind
section
variable{P:Program}{φ ψ:Ren}{e:Nat→Option (Nat×Nat)}
def Tied(φ ψ:Ren)(e:Nat→Option (Nat×Nat)):Prop:=∀i A sh,e i=some (A,sh)→∀B s n,φ A=some (B,s,n)→ψ i=some (B,s+sh,n)
mutual
theorem MRel.sem(hT:Tied φ ψ e):∀{a b:AV}{u:Value},MRel e a b→VRel φ a u→VRel ψ b u
 |_,_,_,.bool b,h=>by cases h;exact .bool _
 |_,_,_,.int k n,h=>by cases h;exact .int _ _
 |_,_,_,.str s s' hs,h=>by subst hs;cases h;exact .str _
 |_,_,_,.ptr hi,h=>by
  cases h with
  |ptr hφ=>rw[←cA];exact .ptr (hT _ _ _ hi _ _ _ hφ)
 | _,_,_,.sl hi h1 h2 h3,h=>by
  cases h with
  |sl hφ k1 k2 k3 k4=>
   rename_i off' len cap cap' esz ex' ex B s n c;rw[←cA];refine .sl (hT _ _ _ hi _ _ _ hφ) h2 (pD h1 k2) (fun hex=>?_) (by rw[cA s];exact k4)
   simp_all
 |_,_,_,.nilp,h=>by cases h;exact .nilp
 |_,_,_,.nils,h=>by cases h;exact .nils
 |_,_,_,.sle,h=>by cases h;exact .sle _ _ _
 |_,_,_,.nilf,h=>by cases h;exact .nilf
 |_,_,_,.nili,h=>by cases h;exact .nili
 |_,_,_,.nilm,h=>by cases h;exact .nilm
 |_,_,_,.fn h k,hv=>by cases hv with|fn h' k'=>exact .fn (MList.sem hT h h') (MList.sem hT k k')
 |_,_,_,.ifc h,hv=>by cases hv with|ifc h'=>exact .ifc (MRel.sem hT h h')
 |_,_,_,.agg h,hv=>by cases hv with|agg h'=>exact .agg (MList.sem hT h h')
 |_,_,_,.tup h,hv=>by cases hv with|tup h'=>exact .tup (MList.sem hT h h')
theorem MList.sem(hT:Tied φ ψ e):∀{a b:List AV}{u:List Value},MList e a b→LRel φ a u→LRel ψ b u
 |_,_,_,.nil,h=>by cases h;exact .nil
 |_,_,_,.cons h t,hv=>by cases hv with|cons h' t'=>exact .cons (MRel.sem hT h h') (MList.sem hT t t')
end
theorem BlkOk.sem{σ:Hp}{K:Tree (List AV)}{E:Env}{i A sh:Nat}(h:BlkOk σ K E i A sh)(hT:Tied φ ψ E.get){ro n0:Nat}{w:World}(hS:SRel ro n0 φ σ w) :
  ∃kc B s n,K.get i=some kc∧φ A=some (B,s,n)∧(σ.get A).isSome=true∧wED ψ (.cells kc none) (B,s+sh,n) w:=by
 obtain⟨kc,ac,seg,ty,h1,h2,h3,h4,h5⟩:=h;obtain⟨⟨B,s,n⟩,hφ,ccs,ety,g1,_,g2,g3,g4⟩:=hS.h A _ h2;dsimp only at g1 g2 g3 g4;refine⟨kc,B,s,n,h1,hφ,by simp_all,ccs,ety,g1,wA4.none _ _,g2,by grind,?_⟩;obtain⟨q1,q2,q3⟩:=wFG h4;have hseg:LRel φ seg ((ccs.toList.drop (s+sh)).take kc.length):=by
  have:=(g4.drop sh).take kc.length;rw[fJ,mQ,gH,dG (by omega)]at this
  simp_all
 exact h5.sem hT hseg
end
mutual
def wD5(E:Env)(m c:Nat):AV→AV
 | .ptr i off=>bif Nat.blt i m then
   match E.get i with
   |some (A,sh)=>.ptr A (sh+off)
   |none=>.nilp
  else .ptr (c+(i-m)) off
 | .sl i off len cap esz ex=>bif Nat.blt i m then
   match E.get i with
   |some (A,sh)=>.sl A (sh+off) len cap esz ex
   |none=>.nilp
  else .sl (c+(i-m)) off len cap esz ex
 |.fn f fs cs=>.fn f (wCH E m c fs) (wCH E m c cs)
 |.ifc t v=>.ifc t (wD5 E m c v)
 |.agg cs=>.agg (wCH E m c cs)
 |.tup cs=>.tup (wCH E m c cs)
 | .yld i=>bif Nat.blt i m then
   match E.get i with
   |some (A,_)=>.yld A
   |none=>.nilp
  else .yld (c+(i-m))
 | .mp i=>bif Nat.blt i m then
   match E.get i with
   |some (A,_)=>.mp A
   |none=>.nilp
  else .mp (c+(i-m))
 |.bool b=>.bool b
 |.int k n=>.int k n
 |.str s=>.str s
 |.nilp=>.nilp
 |.nils=>.nils
 |.sle=>.sle
 |.nilf=>.nilf
 |.nili=>.nili
 |.nilm=>.nilm
def wCH(E:Env)(m c:Nat):List AV→List AV
 |[]=>[]
 |a::as=>wD5 E m c a::wCH E m c as
end
structure Back(φ ψ:Ren)(E:Env)(m c:Nat):Prop where
 old:∀i x,i<m→ψ i=some x→∃A sh B s n,E.get i=some (A,sh)∧φ A=some (B,s,n)∧x=(B,s+sh,n)
 new:∀i x,m≤i→ψ i=some x→φ (c+(i-m))=some x
theorem wOD{i m:Nat}(h:i<m):Nat.blt i m=true:=by simp_all
theorem wJG{i m:Nat}(h:m≤i):Nat.blt i m=false:=by
 cases hb:Nat.blt i m with
 |false=>rfl
 | true => have:i<m:=by simp_all
           omega
section
variable{φ ψ:Ren}{E:Env}{m c:Nat}
mutual
theorem wW5(hB:Back φ ψ E m c):∀{b:AV}{u:Value},VRel ψ b u→VRel φ (wD5 E m c b) u
 |_,_,.bool b=>by rw[wD5];exact .bool _
 |_,_,.int k n=>by rw[wD5];exact .int _ _
 |_,_,.str s=>by rw[wD5];exact .str _
 |_,_,.ptr (A:=i) h=>by
  rw[wD5];rcases pL i m with hi|hi
  ·obtain⟨A,sh,B,s,n,h1,h2,h3⟩:=hB.old i _ hi h;rw[wOD hi,h1];cases h3;simp only[cond_true];rw[cA];exact .ptr h2
  ·rw[wJG hi];exact .ptr (hB.new i _ hi h)
 |_,_,.nilp=>by rw[wD5];exact .nilp
 |_,_,.sl (A:=i) h h1 h2 h3 h4=>by
  rw[wD5];rcases pL i m with hi|hi
  ·obtain⟨A,sh,B,s,n,k1,k2,k3⟩:=hB.old i _ hi h;rw[wOD hi,k1];cases k3;simp only[cond_true];rw[cA];exact .sl k2 h1 h2 h3 (by omega)
  ·rw[wJG hi];exact .sl (hB.new i _ hi h) h1 h2 h3 h4
 |_,_,.nils=>by rw[wD5];exact .nils
 |_,_,.sle B o k=>by rw[wD5];exact .sle _ _ _
 |_,_,.fn h k=>by rw[wD5];exact .fn (wAI hB h) (wAI hB k)
 |_,_,.yld (L:=i) h=>by
  rw[wD5];rcases pL i m with hi|hi
  ·obtain⟨A,sh,B,s,n,h1,h2,h3⟩:=hB.old i _ hi h;rw[wOD hi,h1];cases h3;exact .yld h2
  ·rw[wJG hi];exact .yld (hB.new i _ hi h)
 |_,_,.nilf=>by rw[wD5];exact .nilf
 |_,_,.ifc h=>by rw[wD5];exact .ifc (wW5 hB h)
 |_,_,.nili=>by rw[wD5];exact .nili
 |_,_,.agg h=>by rw[wD5];exact .agg (wAI hB h)
 |_,_,.tup h=>by rw[wD5];exact .tup (wAI hB h)
 |_,_,.mp (M:=i) h=>by
  rw[wD5];rcases pL i m with hi|hi
  ·obtain⟨A,sh,B,s,n,h1,h2,h3⟩:=hB.old i _ hi h;rw[wOD hi,h1];cases h3;exact .mp h2
  ·rw[wJG hi];exact .mp (hB.new i _ hi h)
 |_,_,.nilm=>by rw[wD5];exact .nilm
theorem wAI(hB:Back φ ψ E m c):∀{b:List AV}{u:List Value},LRel ψ b u→LRel φ (wCH E m c b) u
 |_,_,.nil=>by rw[wCH];exact .nil
 |_,_,.cons h t=>by rw[wCH];exact .cons (wW5 hB h) (wAI hB t)
end
theorem wFJ(E:Env)(m c:Nat):∀l:List AV,(wCH E m c l).length=l.length
 |[]=>by rfl
 |a::as=>by rw[wCH,pM,pM,wFJ E m c as]
end
def wP1(P:Program)(e:Ent):Prop:=
 ∀ψ w us,(∀i,e.m≤i→ψ i=none)→SRel e.m w.heap.size ψ (wC1 e.m 0 e.blks .lf) w→LRel ψ e.args us→∀cs,∃w' ψ' u fr',
  Steps P (lone (Frame.enter P e.f us.toArray .normal) cs w) (lone fr' cs w')∧Done P (Frame.enter P e.f us.toArray .normal) fr' w' u∧VRel ψ' e.v u ∧
  (∀i,i<e.m→ψ' i=ψ i)∧(∀i,e.m≤i→i<e.n→∃kc x,e.K.get i=some kc∧ψ' i=some x∧wED ψ' (.cells kc none) x w'∧w.heap.size≤x.1) ∧
  (∀i j x y,e.m≤i→e.m≤j→i<e.n→j<e.n→i≠j→ψ' i=some x→ψ' j=some y→x.1≠y.1)∧(∀i,e.n≤i→ψ' i=none)∧e.m≤e.n∧Below w.heap.size w w'
def wT6(E:Env)(m:Nat):Nat→Nat→List Nat→Bool
 |0,_,_=>true
 |k+1,i,used=>match E.get i with
  |some (A,_)=>bif Nat.ble m A&&!used.contains A then wT6 E m k (i+1) (A::used)else false
  |none=>false
def wXB(C:Cx)(H:xU)(D:Drw)(fuel:Nat)(e:Ent):Bool:=
 match enterF C e.f e.args with
 |none=>false
 | some fr=>match ev C H D fuel e.m fr (wC1 e.m 0 e.blks .lf) e.m with
  |none=>false
  |some (v1,σ1,_)=>match mt σ1 e.K 100000 (idEnv e.m .lf) [(v1,e.v)]with
   |none=>false
   |some E=>wT6 E e.m (e.n-e.m) e.m []&&Nat.ble e.m e.n
theorem wJA:∀(m:Nat)(t:Env)(i:Nat),(idEnv m t).get i=if i<m then some (i,0)else t.get i
 |0,t,i=>by rfl
 |m+1,t,i=>by
  rw[idEnv,wJA m,Tree.get_set]
  grind
theorem wM5:∀(m i:Nat)(bs:List (List AV))(σ:Hp)(A:Nat),(wC1 m i bs σ).get A=if i≤A∧A<i+min m bs.length then(bs[A-i]?).map (fun b=>ABlk.cells b none)else σ.get A
 |0,i,bs,σ,A=>by simp only[wC1,Nat.zero_min,Nat.add_zero];grind
 |m+1,i,[],σ,A=>by simp only[wC1,List.length_nil,Nat.min_zero,Nat.add_zero];grind
 |m+1,i,b::bs,σ,A=>by
  rw[wC1,wM5 m (i+1),Tree.get_set]
  grind
theorem wE2:∀(i:Nat)(bs:List (List AV))(t:Tree (List AV))(A:Nat),(listT i bs t).get A=if i≤A∧A<i+bs.length then bs[A-i]? else t.get A
 |i,[],t,A=>by simp only[listT,List.length_nil,Nat.add_zero];grind
 |i,b::bs,t,A=>by
  rw[listT,wE2 (i+1),Tree.get_set]
  grind
theorem wO6{E:Env}{m:Nat}:∀(k i:Nat)(used:List Nat),wT6 E m k i used=true→
  (∀j,i≤j→j<i+k→∃A sh,E.get j=some (A,sh)∧m≤A∧A ∉ used) ∧
  (∀j j' A sh A' sh',i≤j→i≤j'→j<i+k→j'<i+k→j≠j'→E.get j=some (A,sh)→E.get j'=some (A',sh')→A≠A')
 |0,i,used,_=>⟨fun j h1 h2=>by omega,fun j j' A sh A' sh' h1 h2 h3=>by omega⟩
 | k+1,i,used,h=>by
  simp only[wT6]at h;split at h
  case h_2=>cases h
  case h_1 A0 sh0 hE=>
   cases hb:(Nat.ble m A0&&!used.contains A0)with
   |false=>grind
   |true=>
    rw[hb]at h;simp only[cond_true]at h;simp only[Bool.and_eq_true,Bool.not_eq_true']at hb;have hm:=pI hb.1;have hu:A0 ∉ used:=by intro hh;have:=List.contains_iff_mem.2 hh;rw[this]at hb;cases hb.2
    obtain⟨h1,h2⟩:=wO6 k (i+1) (A0::used) h
    grind
theorem kb_base(m:Nat)(bs:List (List AV)):KB m (wC1 m 0 bs .lf):=by
 intro A hA;rw[wM5]at hA;split at hA
 ·omega
 ·rw[Tree.get_lf]at hA;cases hA
theorem wS2{P:Program}{C:Cx}(hC:CxOk P C){H:xU}(hH:wA6 P H){D:Drw}(hD:DrwOk P D){fuel:Nat}{e:Ent}(h:wXB C H D fuel e=true):wP1 P e:=by
 unfold wXB at h;split at h
 ·cases h
 ·rename_i af haf;split at h
  ·cases h
  ·rename_i v1 σ1 c1 hev;split at h
   ·cases h
   ·rename_i E hE;simp only[Bool.and_eq_true]at h;obtain⟨hfr,hmn⟩:=h;have hmn:=pI hmn;obtain⟨hEle,hall,hblk⟩:=mt_spec _ _ _ _ hE;obtain⟨hf1,hf2⟩:=wO6 _ _ _ hfr;obtain⟨hg,hrun⟩:=ev_ok hC hH hD fuel _ _ _ _ _ _ _ hev;intro ψ w us hψ hS hargs cs;obtain⟨hfrm,hro,hfn⟩:=enterF_rel (P:=P) hC haf hargs .normal;obtain⟨w',φ1,u,hend,k1,k2,k3,k4⟩:=hrun w.heap.size ψ w _ cs (kb_base _ _) hfrm hS (fun A h1 _=>hψ A h1) (.inl rfl) (fun _=>rfl);rw[hro]at hend;obtain⟨fr',hst,hdone⟩:=hend
    obtain⟨ψ',hψ'⟩:∃ψ':Ren,ψ'=fun i=>if i<e.n then(match E.get i with|some (A,sh)=>(φ1 A).map (fun x=>(x.1,x.2.1+sh,x.2.2))|none=>none)else none:=⟨_,rfl⟩
    have hin:∀i A sh,E.get i=some (A,sh)→i<e.n:=by
     intro i A sh hi;rcases pL i e.m with h|h
     ·omega
     ·obtain⟨kc,_,_,_,hk,_⟩:=hblk i A sh (by rw[wJA,if_neg (by omega),Tree.get_lf]) hi;unfold Ent.K at hk;rw[wE2]at hk;split at hk
      ·unfold Ent.n;omega
      ·rw[Tree.get_lf]at hk;cases hk
    have hval:∀i A sh,E.get i=some (A,sh)→∀B s n,φ1 A=some (B,s,n)→ψ' i=some (B,s+sh,n):=by intro i A sh hi B s n hφ;rw[hψ'];dsimp only;rw[if_pos (hin i A sh hi),hi];dsimp only;rw[hφ];rfl
    have hold:∀i,i<e.m→ψ' i=ψ i:=by
     intro i hi;have hEi:E.get i=some (i,0):=hEle i _ (by rw[wJA,if_pos hi]);have hx:φ1 i=ψ i:=k3.2 i (.inl hi);rw[hψ'];dsimp only;rw[if_pos (by omega),hEi];dsimp only;rw[hx];cases ψ i with
     |none=>rfl
     |some x=>obtain⟨B,s,n⟩:=x;rfl
    have hnew:∀i,e.m≤i→i<e.n→∃A sh kc x x1,E.get i=some (A,sh)∧e.m≤A∧(σ1.get A).isSome=true∧φ1 A=some x1∧x.1=x1.1∧e.K.get i=some kc∧ψ' i=some x∧wED ψ' (.cells kc none) x w'∧w.heap.size≤x.1:=by intro i h1 h2;obtain⟨A,sh,hEi,hA,_⟩:=hf1 i h1 (by omega);obtain⟨kc,B,s,n,g1,g2,g3,g4⟩:=(hblk i A sh (by rw[wJA,if_neg (by omega),Tree.get_lf]) hEi).sem hval k2;exact⟨A,sh,kc,(B,s+sh,n),(B,s,n),hEi,hA,g3,g2,rfl,g1,hval i A sh hEi B s n g2,g4,(show w.heap.size≤B from k2.o A (B,s,n) hA g3 g2)⟩
    refine⟨w',ψ',u,fr',hst,hdone,(hall (v1,e.v) (by simp)).sem hval k1,hold,fun i h1 h2=>?_,fun i j x y h1 h2 h3 h4 h5 h6 h7=>?_,fun i hi=>?_,hmn,k4⟩
    ·obtain⟨A,sh,kc,x,x1,_,_,_,_,_,g1,g2,g3,g4⟩:=hnew i h1 h2;exact⟨kc,x,g1,g2,g3,g4⟩
    ·obtain⟨A,sh,_,x',x1,q1,q2,q3,q4,q5,_,q6,_⟩:=hnew i h1 h3;obtain⟨A',sh',_,y',y1,r1,r2,r3,r4,r5,_,r6,_⟩:=hnew j h2 h4;rw[h6]at q6;cases q6;rw[h7]at r6;cases r6;rw[q5,r5];exact k2.d A A' x1 y1 q2 (hf2 i j A sh A' sh' h1 h2 (by omega) (by omega) h5 q1 r1) q3 r3 q4 r4
    grind
def allIn(E:Env):Nat→Bool
 |0=>true
 |i+1=>match E.get i with
  |some _=>allIn E i
  |none=>false
def wEB(E:Env)(m c0:Nat):Nat→List (List AV)→Hp→Hp
 |_,[],σ=>σ
 |c,b::bs,σ=>wEB E m c0 (c+1) bs (σ.set c (some (.cells (wCH E m c0 b) none)))
def wXJ(e:Ent)(args:List AV)(σ:Hp)(c:Nat):Res:=
 match zipX args e.args []with
 |none=>none
 |some ps=>match mt σ e.KA 100000 .lf ps with
  |none=>none
  |some E=>bif allIn E e.m&&Nat.ble e.m e.n then some (wD5 E e.m c e.v,wEB E e.m c c (e.blks.drop e.m) σ,c+(e.n-e.m))else none
def qE6:List Ent→List AV→Hp→Nat→Res
 |[],_,_,_=>none
 |e::es,args,σ,c=>match wXJ e args σ c with
  |some r=>some r
  |none=>qE6 es args σ c
def hs(σ:Hp):Nat→List AV→Nat→Nat
 |0,_,h=>h
 |_+1,[],h=>h
 | n+1,a::as,h=>match a with
  |.bool b=>hs σ n as ((h*5+(bif b then 1 else 2))%1048576)
  |.int _ (.ofNat k)=>hs σ n as ((h*31+k+3)%1048576)
  |.int _ (.negSucc k)=>hs σ n as ((h*37+k+5)%1048576)
  |.sl A off len _ esz _=>match jG σ A off (len*esz)with
   |some cs=>hs σ n (cs++as) ((h*41+len+7)%1048576)
   |none=>h
  |.agg cs=>hs σ n (cs++as) ((h*43+11)%1048576)
  |_=>hs σ n as ((h*7+13)%1048576)
def keyOf(σ:Hp)(args:List AV):Nat:=hs σ 60 args 1
abbrev Tab:=Tree (Tree (List Ent))
def hookT(T:Tab):xU:=fun f args σ c=>
 match T.get f with
 |none=>none
 |some T'=>match T'.get (keyOf σ args)with
  |none=>none
  |some l=>qE6 l args σ c
def insE(T:Tab)(e:Ent):Tab:=
 T.set e.f (some (let T':=(T.get e.f).getD .lf;T'.set e.key (some (e::(T'.get e.key).getD []))))
def wM:List Ent→Tab→Tab
 |[],T=>T
 |e::es,T=>wM es (insE T e)
def wF(P:Program)(T:Tab):Prop:=∀f T' k l e,T.get f=some T'→T'.get k=some l→e∈l→e.f=f∧wP1 P e
theorem wF.lf(P:Program):wF P .lf:=fun f T' k l e h=>by rw[Tree.get_lf]at h;cases h
theorem wF.ins{P:Program}{T:Tab}(h:wF P T){e:Ent}(he:wP1 P e):wF P (insE T e):=by
 intro f T' k l x hf hk hx;unfold insE at hf;rw[Tree.get_set]at hf;by_cases hfe:f=e.f
 ·rw [if_pos hfe]at hf;cases hf;rw[Tree.get_set]at hk;by_cases hke:k=e.key
  ·rw[if_pos hke]at hk;cases hk;rcases pS.1 hx with rfl|hx
   ·simp_all
   ·cases hT:T.get e.f with
    |none=>rw[hT]at hx;simp[Tree.get_lf]at hx
    |some T0=>
     rw[hT]at hx;simp only[Option.getD_some]at hx;cases hl:T0.get e.key with
     |none=>simp_all
     |some l0=>rw[hl]at hx;have:=h e.f T0 e.key l0 x hT hl hx;simp_all
  ·rw[if_neg hke]at hk;cases hT:T.get e.f with
   |none=>rw[hT]at hk;simp[Tree.get_lf]at hk
   |some T0=>
    rw[hT]at hk;have:=h e.f T0 k l x hT hk hx
    simp_all
 ·rw[if_neg hfe]at hf;exact h f T' k l x hf hk hx
theorem wF.all{P:Program}:∀(es:List Ent){T:Tab},wF P T→(∀e∈es,wP1 P e)→wF P (wM es T)
 |[],T,h,_=>h
 |e::es,T,h,he=>wF.all es (h.ins (he e (by simp))) fun x hx=>he x (by grind)
theorem wY3{E:Env}:∀(m:Nat),allIn E m=true→∀i,i<m→∃x,E.get i=some x
 |0,_,i,hi=>by omega
 | m+1,h,i,hi=>by
  simp only[allIn]at h;split at h
  ·rename_i x hx;by_cases him:i=m
   ·subst him;exact⟨x,hx⟩
   ·exact wY3 m h i (by omega)
  grind
theorem wOH(E:Env)(m c0:Nat):∀(bs:List (List AV))(c:Nat)(σ:Hp)(A:Nat),(wEB E m c0 c bs σ).get A=if c≤A∧A<c+bs.length then(bs[A-c]?).map (fun b=>ABlk.cells (wCH E m c0 b) none)else σ.get A
 |[],c,σ,A=>by simp only[wEB,List.length_nil,Nat.add_zero];grind
 |b::bs,c,σ,A=>by
  rw[wEB,wOH E m c0 bs,Tree.get_set]
  grind
theorem qK6{P:Program}{e:Ent}(he:wP1 P e){args:List AV}{σ:Hp}{c:Nat}{v:AV}{σ':Hp}{c':Nat}(h:wXJ e args σ c=some (v,σ',c')) :
  Grow c σ c' σ'∧∀ro n0 φ w us,KB c σ→SRel ro n0 φ σ w→vZ c c' φ→LRel φ args us→wT9 P ro n0 c φ w e.f us v σ' c':=by
 unfold wXJ at h;split at h
 ·cases h
 ·rename_i ps hps;split at h
  ·cases h
  ·rename_i E hE;cases hb:(allIn E e.m&&Nat.ble e.m e.n)with
   |false=>simp_all
   | true=>
    rw[hb]at h;cases h;simp only[Bool.and_eq_true]at hb;have hin:=wY3 _ hb.1;have hmn:=pI hb.2;obtain⟨_,hall,hblk⟩:=mt_spec _ _ _ _ hE;obtain⟨hargsM,_⟩:=yG hps hall;have hlen:(e.blks.drop e.m).length=e.n-e.m:=by simp[Ent.n]
    have hget:=wOH E e.m c (e.blks.drop e.m) c σ;rw[hlen]at hget;refine⟨⟨by omega,fun hk A hA=>?_⟩,fun ro n0 φ w us hkb hS hf hargs cs=>?_⟩
    ·rw[hget]at hA;split at hA
     ·omega
     ·have:=hk A hA;omega
    ·
     obtain⟨ψ,hψ⟩:∃ψ:Ren,ψ=fun i=>if i<e.m then(match E.get i with|some (A,sh)=>(φ A).map (fun x=>(x.1,x.2.1+sh,x.2.2))|none=>none)else none:=⟨_,rfl⟩
     have hEm:∀i x,E.get i=some x→i<e.m:=by
      intro i x hi;obtain⟨A,sh⟩:=x;obtain⟨kc,_,_,_,hk,_⟩:=hblk i A sh (Tree.get_lf i) hi;unfold Ent.KA at hk;rw[wE2]at hk;split at hk
      ·grind
      ·rw[Tree.get_lf]at hk;cases hk
     have hT:Tied φ ψ E.get:=by
      intro i A sh hi B s n hφ
      grind
     have hψnone:∀i,e.m≤i→ψ i=none:=by grind
     have hbase:SRel e.m w.heap.size ψ (wC1 e.m 0 e.blks .lf) w:=by
      refine⟨fun A b hA=>?_,fun A x h1 h2=>?_,fun A A' x x' h1 h2 h3=>?_,pC _⟩
      ·rw[wM5]at hA;split at hA
       ·rename_i hh;obtain⟨⟨A',sh⟩,hx⟩:=hin A (by omega);obtain⟨kc,B,s,n,g1,g2,g3,g4⟩:=(hblk A A' sh (Tree.get_lf A) hx).sem hT hS;unfold Ent.KA at g1;rw[wE2]at g1;split at g1
        ·rw[dA,if_pos (by omega)]at g1;rw[g1]at hA;cases hA;exact⟨_,hT A A' sh hx B s n g2,g4⟩
        ·rw[Tree.get_lf]at g1;cases g1
       ·rw[Tree.get_lf]at hA;cases hA
      ·exact absurd (kb_base _ _ A h2) (by omega)
      simp_all
     obtain⟨w',ψ',u,fr',hst,hdone,hv,hold,hnew,hap,habove,_,hbel⟩:=he ψ w us hψnone hbase (hargsM.sem hT hargs) cs;obtain⟨φ',hφ'⟩:∃φ':Ren,φ'=fun A=>if c≤A∧A<c+(e.n-e.m)then ψ' (e.m+(A-c))else φ A:=⟨_,rfl⟩
     have hin':∀A,c≤A→A<c+(e.n-e.m)→φ' A=ψ' (e.m+(A-c)):=by simp_all
     have hout:∀A,A<c∨c+(e.n-e.m)≤A→φ' A=φ A:=by grind
     have hext:Ext c (c+(e.n-e.m)) φ φ':=⟨by omega,hout⟩
     have hle:φ.le φ':=hext.le hf;have hback:Back φ' ψ' E e.m c:=by
      refine⟨fun i x hi hx=>?_,fun i x hi hx=>?_⟩
      ·rw[hold i hi,hψ]at hx;dsimp only at hx;rw[if_pos hi]at hx;obtain⟨⟨A,sh⟩,hE'⟩:=hin i hi;rw[hE']at hx;dsimp only at hx;cases hφA:φ A with
       |none=>rw[hφA]at hx;cases hx
       |some y=>obtain⟨B,s,n⟩:=y;rw[hφA]at hx;cases hx;exact⟨A,sh,B,s,n,hE',hle A _ hφA,rfl⟩
      grind
     have hfresh:∀A,c≤A→A<c+(e.n-e.m)→∃kc x,(e.blks.drop e.m)[A-c]? = some kc∧φ' A=some x∧wED φ' (.cells (wCH E e.m c kc) none) x w'∧w.heap.size≤x.1:=by
      intro A h1 h2;obtain⟨kc,x,g1,g2,g3,g4⟩:=hnew (e.m+(A-c)) (by omega) (by omega);unfold Ent.K at g1;rw[wE2]at g1;split at g1
      ·refine⟨kc,x,by rw[gC];exact g1,by rw[hin' A h1 h2];exact g2,?_,g4⟩;obtain⟨ccs,ety,q1,_,q2,q3,q4⟩:=g3;refine⟨ccs,ety,q1,wA4.none _ _,q2,by rw[wFJ];exact q3,by rw[wFJ];exact wAI hback q4⟩
      grind
     have hsplit:∀A b,(wEB E e.m c c (e.blks.drop e.m) σ).get A=some b→
       (c≤A∧A<c+(e.n-e.m)∧∃kc,(e.blks.drop e.m)[A-c]? = some kc∧b=.cells (wCH E e.m c kc) none)∨(σ.get A=some b∧A<c):=by
      intro A b hA;rw[hget]at hA;split at hA
      ·grind
      ·exact .inr ⟨hA,hkb A (by grind)⟩
     refine⟨w',φ',u,fr',hst,hdone,wW5 hback hv,⟨fun A b hA=>?_,fun A x h1 h2 h3=>?_,fun A A' x x' h1 h2 h3 h4 h5 h6=>?_,?_⟩,hext,hbel.mono hS.s⟩
     ·rcases hsplit A b hA with⟨g1,g2,kc,g3,rfl⟩|⟨g1,g2⟩
      ·grind
      ·obtain⟨x,q1,q2⟩:=hS.h A b g1;exact⟨x,hle A x q1,q2.mono hle (hbel.block _ q2.lt)⟩
     ·obtain⟨b,hb⟩:=mZ.1 h2;rcases hsplit A b hb with⟨g1,g2,_⟩|⟨g1,g2⟩
      ·obtain⟨kc',y,q1,q2,q3,q4⟩:=hfresh A g1 g2;rw[h3]at q2;cases q2;exact pD hS.s q4
      ·obtain⟨y,q1,q2⟩:=hS.h A b g1;rw[hout A (.inl g2)]at h3;exact hS.o A x h1 (by grind) h3
     ·obtain⟨b,hb⟩:=mZ.1 h3;obtain⟨b',hb'⟩:=mZ.1 h4;have oldlt:∀A b x,σ.get A=some b→A<c→φ' A=some x→x.1<w.heap.size:=by
       intro A b x g1 g2 g3;rw[hout A (.inl g2)]at g3;obtain⟨y,q1,q2⟩:=hS.h A b g1;rw[g3]at q1;cases q1;exact q2.lt
      rcases hsplit A b hb with⟨g1,g2,_⟩|⟨g1,g2⟩
      ·grind
      ·rcases hsplit A' b' hb' with⟨k1,k2,_⟩|⟨k1,k2⟩
       ·grind
       ·rw[hout A (.inl g2)]at h5;rw[hout A' (.inl k2)]at h6;exact hS.d A A' x x' h1 h2 (by grind) (by grind) h5 h6
     ·exact pD hS.s hbel.size
theorem qAH{P:Program}:∀{es:List Ent}{f:FuncId},(∀e∈es,e.f=f∧wP1 P e)→∀{args:List AV}{σ:Hp}{c:Nat}{v:AV}{σ':Hp}{c':Nat},qE6 es args σ c=some (v,σ',c')→
  Grow c σ c' σ'∧∀ro n0 φ w us,KB c σ→SRel ro n0 φ σ w→vZ c c' φ→LRel φ args us→wT9 P ro n0 c φ w f us v σ' c'
 |[],_,_,_,_,_,_,_,_,h=>by cases h
 |e::es,f,hes,args,σ,c,v,σ',c',h=>by
  simp only[qE6]at h;split at h
  ·rename_i r hr;cases h;obtain⟨h1,h2⟩:=hes e (by simp);subst h1;exact qK6 h2 hr
  ·exact qAH (fun x hx=>hes x (by grind)) h
theorem wO3{P:Program}{T:Tab}(hT:wF P T):wA6 P (hookT T):=by
 intro f args σ c v σ' c' h;unfold hookT at h;split at h
 ·cases h
 ·rename_i T' hT';split at h
  ·cases h
  ·rename_i l hl;exact qAH (fun e he=>hT f T' _ l e hT' hl he) h
def wH(C:Cx)(T:Tab)(fuel:Nat):List Ent→Bool
 |[]=>true
 |e::es=>wXB C (hookT T) (drawn C (hookT T)) fuel e&&wH C T fuel es
theorem wF.batch{P:Program}{C:Cx}(hC:CxOk P C){T:Tab}(hT:wF P T){fuel:Nat}{es:List Ent}(h:wH C T fuel es=true):wF P (wM es T):=by
 refine hT.all es ?_
 induction es with
 |nil=>simp_all
 |cons e es ih=>
  simp only[wH,Bool.and_eq_true]at h;intro x hx;rcases pS.1 hx with rfl|hx
  ·exact wS2 hC (wO3 hT) (qJB hC (wO3 hT)) h.1
  simp_all
theorem qF3{P:Program}{e:Ent}(he:wP1 P e)(hm:e.m=0)(ha:e.args=[]){b:Bool}(hv:e.v=.bool b)(w:World) :
  Calls P e.f #[] w fun x w'=>x=.returned (.bool b)∧Below w.heap.size w w':=by
 intro cs;have hS:SRel e.m w.heap.size (fun _=>none) (wC1 e.m 0 e.blks .lf) w:=by
  rw[hm];simp only[wC1];refine⟨fun A b h=>?_,fun A x _ h=>?_,fun A A' x x' _ _ h=>?_,pC _⟩
  ·rw[Tree.get_lf]at h;cases h
  ·rw[Tree.get_lf]at h;cases h
  simp_all
 obtain⟨w',ψ',u,fr',hst,hd,hu,_,_,_,_,_,hB⟩:=he (fun _=>none) w [] (fun _ _=>rfl) hS (by rw[ha];exact .nil) cs;rw[hv]at hu;cases hu;refine⟨.returned (.bool b),w',fr',⟨rfl,hB⟩,hst,?_,?_⟩
 ·exact hd.fn
 ·refine⟨hd.mode,hd.defers,hd.kind,?_⟩;have:=hd.res;rw[←hd.fn]at this;omega
theorem wF.ents{P:Program}{C:Cx}(hC:CxOk P C){T:Tab}(hT:wF P T){fuel:Nat}:∀{es:List Ent},wH C T fuel es=true→∀e∈es,wP1 P e
 |[],_,e,he=>nomatch he
 |x::es,h,e,he=>by
  simp only[wH,Bool.and_eq_true]at h;rcases pS.1 he with rfl|he
  ·exact wS2 hC (wO3 hT) (qJB hC (wO3 hT)) h.1
  ·exact wF.ents hC hT h.2 e he
end Go.Ev
