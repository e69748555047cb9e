/- Regions told one operation after the other; rows told by their values: tables. -/
import Derived.Test.YtmkgenngokjbiaaGreatDoorCd05
import Derived.RangeFuncIn
set_option linter.all false
set_option maxRecDepth 20000
set_option maxHeartbeats 6400000
set_option linter.all false
namespace Go.Vl
open Go.RowKit Go.Ev
section
variable{P:Program}{C:Cx}{w0:Base}{w w':World}{n:Nat}{β:Bl}{f:Fm}{st:St}{a:Act}{o:Oper}{Q:vH}{ops:Array Oper}
theorem vw_ex{Z:Type}{c:Code}(g:Z→St)(h0:∀a w,Hs w0 n (lk st) a w→∃z,Hs w0 n (lk (g z)) a w)(h:∀z,VW P w0 n c Q (g z)):VW P w0 n c Q st:=fun a w hh=>let⟨z,hz⟩:=h0 a w hh;h z a w hz
theorem size_of{k:Nat}(ho:ops.toList[k]? = some o):k<ops.size:=by grind
theorem stepOk_g{k:Nat}{rd gr:List Nat}{u:St}{nw:List (Nat×Nat)}(ho:ops.toList[k]? = some o)(hg:gRd n ops (lk st) o=some gr)(h:wQ P w0 n o rd u nw (lk st)):wQF P w0 n ops k ⟨gr++rd,u,nw⟩ (lk st):=by
 unfold gRd at hg;split at hg
 ·simp_all [wMF]
 ·rename_i j b hgd;split at hg
  ·cases hg
  ·rename_i d hd;split at hg
   ·rename_i c hc;cases hb:(Nat.blt d n&&(c==b))with
    |false=>rw[hb]at hg;cases hg
    |true=>rw[hb]at hg;cases hg;simp only[Bool.and_eq_true,beq_iff_eq]at hb;obtain⟨h1,rfl⟩:=hb;exact wEJ (by simpa using ho) hgd hd (by simpa using h1) hc (fun _=>h) (fun h=>absurd rfl h)
   grind
theorem rep_raw{S:Nat→Prop}{u v:Value}(h:Rep S w (.raw u) v):v=u:=by cases h;rfl
section
variable{B0:Nat}{S:Nat→Prop}{K k r i:Nat}{T:TypeId}{L:List (Value×List (List V))}{u:Value}{es:List (List V)}{e:List V}
theorem wEC.own(h:wEC B0 S w β K T k L)(hr:L[r]? = some (u,es)):jE B0 S w (fun _ _=>u.ownBlock) 0 0 (.own 0 T k es) u:=by obtain⟨h1,⟨us,h2,h3⟩,_⟩:=h.1 _ (pE hr);exact⟨h1,rfl,us,h2,h3⟩
theorem wEC.len(h:wEC B0 S w β K T k L)(hr:L[r]? = some (u,es)):∃ad cap,u=.slice ad es.length cap:=qDC (h.own hr)
theorem wEC.cells(h:wEC B0 S w β K T k L)(hr:L[r]? = some (u,es))(hi:es[i]? = some e):∃g us,u.ownBlock=some g∧RepL S w e us∧wX e=true∧e.length=k∧∀j v,us[j]? = some v→w.cell? ⟨g,i*k+j,none⟩=some v:=qA3 (h.own hr) hi
theorem wEC.apart(h:wEC B0 S w β K T k L)(hr:L[r]? = some (u,es)){q:Nat}{p:Value×List (List V)}(hq:L[q]? = some p)(hne:q≠r){B:Nat}(hB:u.ownBlock=some B):p.1.ownBlock≠some B:=by
 have hp:=List.pairwise_iff_getElem.1 h.2
 grind
end
end
section
variable{P:Program}{C:Cx}{w0:Base}{w w':World}{n:Nat}{β:Bl}{f:Fm}{st:St}{a:Act}{o:Oper}{Q:vH}{ops:Array Oper}
def hdr(L:List (Value×List (List V))):List (List V):=L.map fun p=>[V.raw p.1]
end
def Yld(P:Program)(l:Nat)(us:List Value)(w:World)(R:Bool→World→Prop):Prop:=
 ∃f tmps assign body,(Instr.yield l us.toArray).run P w=.ok (.round l f tmps assign body) w∧∀m,RoundIn Fence.wide m P l f tmps assign body w fun e w'=>∃b,e=.returned (.bool b)∧R b w'
structure Rounds(P:Program)(l:Nat)(L:List (List V))(J:Option Nat→(Nat→Prop)→World→Prop):Prop where
 grow:∀{j:Option Nat}{X X':Nat→Prop}{w w':World},J j X w→Below w.heap.size w w'→(∀b,X' b→b<w'.heap.size→X b∨w.heap.size≤b)→J j X' w'
 yld:∀{j:Nat}{e:List V}{X:Nat→Prop}{w:World}{us:List Value},L[j]? = some e→J (some j) X w→RepL X w e us→Yld P l us w fun b w'=>∃j',(b=true→j'=some (j+1))∧(b=false→j'=none)∧J j' (fun q=>X q∧q<w.heap.size) w'∧(∀q,X q→q<w.heap.size→w'.heap[q]? = w.heap[q]?)∧w.heap.size≤w'.heap.size
def wEF(l:Nat):Value:=.func (.yield l) #[] #[]
def VSeq(P:Program)(g:FuncId)(fs cs:List V)(L:List (List V)):Prop:=
 ∀(S:Nat→Prop)(w:World)(us vs:List Value)(l:Nat)(J:Option Nat→(Nat→Prop)→World→Prop),Rounds P l L J→RepL S w fs us→RepL S w cs vs→J (some 0) S w→
  Calls P g ((us++[wEF l])++vs).toArray w fun e w'=>(∃v,e=.returned v)∧∃j X,J j X w'∧(j=some L.length∨j=none)
def bI(w:World)(X:Nat→Prop):Base:=⟨w,X,fun _=>True,none,w.heap.size,pC _,false⟩
def IS(n:Nat)(X:Nat→Prop)(f:Fm)(a:Act)(w:World):Prop:=Hs (bI w X) n f a w
def wCC:St→Bool
 |[]=>true
 |(_,some (.sv (.v _)))::l=>wCC l
 |(_,none)::l=>wCC l
 |_=>false
theorem onlyV_mem{T:St}(h:wCC T=true){k:Nat}{c:Cell}(e:(k,some c)∈T):∃x,c=.sv (.v x):=by
 induction T with
 |nil=>cases e
 |cons p T ih=>
  obtain⟨q,x⟩:=p;unfold wCC at h
  grind
theorem wND{T:St}(h:wCC T=true){k:Nat}{c:Cell}(e:lk T k=some c):∃x,c=.sv (.v x):=onlyV_mem h (wBD e)
section
variable{P:Program}{C:Cx}{n:Nat}{st:St}{o:Oper}{ops:Array Oper}{l:Nat}{L:List (List V)}{J:Option Nat→(Nat→Prop)→World→Prop}
theorem IS.defers{X:Nat→Prop}{f:Fm}{a:Act}{w:World}(h:IS n X f a w):a.defers=[]:=by obtain⟨β,h⟩:=h;exact h.dfr.1.resolve_left (by simp[bI])
open Classical in
theorem IS.mk{X:Nat→Prop}{T:St}{a:Act}{w:World}(hs:a.tmps.size=n)(hd:a.defers=[])(hT:wCC T=true)(h:∀d x,lk T (2*d)=some (.sv (.v x))→Rep X w x (a.tmps.getD d undef)):IS n X (lk T) a w:=by
 let β:Bl:=fun k j=>if k=0∧0<j∧j-1<w.heap.size∧¬X (j-1)then some (j-1)else none
 have hval:∀k j B,β k j=some B→k=0∧j=B+1∧B<w.heap.size∧¬X B:=by grind
 have hsp:∀b,b<w.heap.size→¬X b→β 0 (b+1)=some b:=by grind
 have hNB:∀b,X b→qM β b:=fun b hs k j e=>(hval _ _ _ e).2.2.2 hs;refine⟨β,hs,⟨.inr hd,by grind,by simp_all⟩,BelP.refl (bI w X),?_,?_,fun b h1 h2 _=>hsp b h1 h2,fun k j B e=>.inr (.inr (by grind)),fun b _ hs=>hNB b hs,fun e d id T k es e1 _=>(by grind [wND]),fun e d id k i off T es B e1 _ _=>(by grind),?_,fun d cs e=>(by grind [wND]),fun d T k L e=>(by grind [wND])⟩
 ·grind
 ·grind
 ·intro d x e;obtain⟨y,e'⟩:=wND hT e;cases e';exact(h d y e).mono fun b hb' _=>hNB b hb'
theorem IS.rebase{X:Nat→Prop}{T:St}{β:Bl}{a:Act}{w w':World}(h:HB (bI w X) n β (lk T) a w')(hT:wCC T=true):∃X',IS n X' (lk T) a w'∧Below w.heap.size w w'∧(∀b,X' b→b<w'.heap.size→X b∨w.heap.size≤b):=by
 refine⟨qM β,IS.mk h.size (h.dfr.1.resolve_left (by simp[bI])) hT fun d x e=>h.slot d _ e,h.bel.below fun _ _=>trivial,fun b hb _=>?_⟩;rcases pL b w.heap.size with hlt|hge
 ·left;apply dF;intro hs;exact hb _ _ (h.sp b hlt hs trivial)
 omega
abbrev wOJ:=Exit→St→Option Nat→Prop
def kqI(n:Nat)(J:Option Nat→(Nat→Prop)→World→Prop)(Q:wOJ):Exit→Act→World→Prop:=fun e a w=>∃st j X,Q e st j∧J j X w∧IS n X (lk st) a w
def VI(P:Program)(n:Nat)(J:Option Nat→(Nat→Prop)→World→Prop)(c:Code)(Q:wOJ)(st:St)(j:Option Nat):Prop:=∀a w X,J j X w→IS n X (lk st) a w→c.wpIn Fence.wide 0 P (kqI n J Q) a w
def Imp(w0:Base)(n:Nat)(st T:St):Prop:=∀a w,Hs w0 n (lk st) a w→Hs w0 n (lk T) a w
theorem imp_frz{w0:Base}{T:St}(l:List Operand)(hfl:flat T=true)(hs:sub T (lk ((wLB (lk st) l).2++st))):Imp w0 n st T:=fun a w h=>by have:=(wO5 (w0:=w0) (n:=n) (l:=l) (f:=lk st)).1 (lk st) (fun _ _=>rfl) a w h;rw[←zN]at this;exact this.sub hs hfl
variable{Q:wOJ}{j:Option Nat}
def thenI(next:St→Option Nat→Prop)(Q:wOJ):wOJ
 |.normal,st,j=>next st j
 |e,st,j=>Q e st j
def qIC(id:Nat)(Q:wOJ):wOJ
 |.exit id',st,j=>if id'=id then Q .normal st j else Q (.exit id') st j
 |e,st,j=>Q e st j
theorem xN{c:Code}(hR:Rounds P l L J)(h:∀w0:Base,VW P w0 n c (fun e st'=>∃T,wCC T=true∧Imp w0 n st' T∧Q e T j) st):VI P n J c Q st j:=fun a w X hj hs=>wpIn_mono (h (bI w X) a w hs) fun e a' w' ⟨st',⟨T,hT,him,hQ⟩,hh⟩=>by obtain⟨β,hB⟩:=him a' w' hh;obtain⟨X',g1,g2,g3⟩:=IS.rebase hB hT;exact⟨T,j,X',hQ,hR.grow hj g2 g3,g1⟩
theorem zZ{x y:Code}(h:VI P n J x (thenI (fun st' j'=>VI P n J y Q st' j') Q) st j):VI P n J (.seq x y) Q st j:=fun a w X hj hs=>wpIn_seq (wpIn_mono (h a w X hj hs) fun e a w hq=>by obtain⟨st',j',X',h1,h2,h3⟩:=hq;cases e<;>first|exact h1 a w X' h2 h3|exact⟨st',j',X',h1,h2,h3⟩)
theorem xH{c:Operand}{x y:Code}{b:Bool}(hc:opv (lk st) c=some (.v (.bool b)))(ht:b=true→VI P n J x Q st j)(hf:b=false→VI P n J y Q st j):VI P n J (.cond c x y) Q st j:=fun a w X hj hs=>by
 have he:a.eval c=.bool b:=by obtain⟨β,hb⟩:=hs;have hv:=hb.val hc;generalize a.eval c=u at hv;cases hv;rfl
 cases b with
 |true=>exact wpIn_cond_true he (ht rfl a w X hj hs)
 |false=>exact wpIn_cond_false he (hf rfl a w X hj hs)
theorem yX{id:Nat}{c:Code}(h:VI P n J c (qIC id Q) st j):VI P n J (.block id c) Q st j:=fun a w X hj hs=>
 wpIn_block (wpIn_mono (h a w X hj hs) fun e a w hq=>by
  obtain⟨st',j',X',h1,h2⟩:=hq;cases e with
  |exit id'=>
   simp only[qIC]at h1;simp only[Exit.inBlock];split
   ·rename_i hid;rw[if_pos hid]at h1;exact⟨st',j',X',h1,h2⟩
   ·rename_i hid;rw[if_neg hid]at h1;exact⟨st',j',X',h1,h2⟩
  |_=>exact⟨st',j',X',h1,h2⟩)
theorem wSE{id:Nat}(h:Q (.exit id) st j):VI P n J (.exit id) Q st j:=fun _ _ X hj hs=>wpIn_exit ⟨st,j,X,h,hj,hs⟩
theorem vi_ret(h:Q .ret st j):VI P n J .ret Q st j:=fun _ _ X hj hs=>wpIn_ret ⟨st,j,X,h,hj,hs⟩
theorem wJ2(h:Q .normal st j):VI P n J .skip Q st j:=fun _ _ X hj hs=>wpIn_skip ⟨st,j,X,h,hj,hs⟩
theorem wSD{c:Code}{B:Type}(T:B→St)(ph:B→Option Nat)(I:B→Prop)(μ:B→Nat)(b0:B)(hfl:∀b,flat (T b)=true)(h0:I b0)(hp:j=ph b0)(hs:sub (T b0) (lk st))(h:∀b,I b→VI P n J c (thenI (fun st' j'=>∃b',I b'∧μ b'<μ b∧j'=ph b'∧sub (T b') (lk st')) Q) (T b) (ph b)):VI P n J (.loop c) Q st j:=fun a w X hj hi=>
 qF8 (fun a w m=>∃b X,I b∧μ b=m∧J (ph b) X w∧IS n X (lk (T b)) a w) ⟨_,b0,X,h0,rfl,hp ▸ hj,hi.sub hs (hfl _)⟩ fun a w m ⟨b,X,hI,hm,hj,hb⟩=>wpIn_mono (h b hI a w X hj hb) fun e a w hq=>by
  obtain⟨st',j',X',h1,h2,h3⟩:=hq;cases e with
  |normal=>obtain⟨b',g1,g2,rfl,g3⟩:=h1;exact⟨μ b',by omega,b',X',g1,rfl,h2,h3.sub g3 (hfl _)⟩
  |_=>exact⟨st',j',X',h1,h2,h3⟩
def kqin(n:Nat)(J:Option Nat→(Nat→Prop)→World→Prop)(Q:wOJ):Exit→Act→World→Prop:=fun e a w=>e=.normal∧kqI n J Q .normal a w
def SI(P:Program)(n:Nat)(J:Option Nat→(Nat→Prop)→World→Prop)(ops:Array Oper)(Q:wOJ)(k:Nat)(st:St)(j:Option Nat):Prop:=∀a w X,J j X w→IS n X (lk st) a w→wpOpsIn Fence.wide 0 P ops (kqin n J Q) (List.range' k (ops.size-k)) a w
theorem vi_si{id:Nat}(h:SI P n J ops Q 0 st j):VI P n J (.region id ops false) Q st j:=fun a w X hj hs=>by
 refine wpIn_mono (Q:=kqin n J Q) (wpIn_region ?_) fun e a w h=>by obtain⟨rfl,h⟩:=h;exact h
 rw[List.range_eq_range'];exact h a w X hj hs
theorem wSG{k:Nat}(hk:Nat.beq k ops.size=true)(hQ:Q .normal st j):SI P n J ops Q k st j:=fun a w X hj hs=>by obtain rfl:=pV hk;rw[fX];exact⟨rfl,st,j,X,hQ,hj,hs⟩
theorem si_g{k:Nat}{rd gr:List Nat}{u:St}{nw:List (Nat×Nat)}(hR:Rounds P l L J)(hnd:wBC ops=true)(ho:ops.toList[k]? = some o)(hg:gRd n ops (lk st) o=some gr)(h:∀w0,wQ P w0 n o rd u nw (lk st))(hn:nw.all (y4 st)=true)(hT:wCC (u++st)=true)(hk:SI P n J ops Q (k+1) (u++st) j):SI P n J ops Q k st j:=fun a w X hj hs=>by have hlt:=size_of ho;rw[show ops.size-k=(ops.size-(k+1))+1 by omega,pE0,wpOpsIn_cons];have hst:=stepOk_g (P:=P) (w0:=bI w X) ho hg (h (bI w X));refine qBD (ro:=none) hnd (fun⟨_,_,h⟩=>by cases h.1) (hst (lk st) (fun _ _=>rfl) (fun K hK=>wT4 (mD.1 hn K hK)) a w hs _ _ fun a' w' h'=>?_);dsimp only at h';rw[←zN]at h';obtain⟨β,hB⟩:=h';obtain⟨X',g1,g2,g3⟩:=IS.rebase hB hT;exact hk a' w' X' (hR.grow hj g2 g3) g1
theorem si_v(hC:CxOk P C){k:Nat}{rd gr:List Nat}{u:St}{nw:List (Nat×Nat)}(hR:Rounds P l L J)(hnd:wBC ops=true)(ho:ops.toList[k]? = some o)(hg:gRd n ops (lk st) o=some gr)(h:vop C (k+1) n (lk st) o=some (rd,u,nw))(hn:nw.all (y4 st)=true)(hT:wCC (u++st)=true)(hk:SI P n J ops Q (k+1) (u++st) j):SI P n J ops Q k st j:=
 si_g hR hnd ho hg (fun _=>wTJ hC h) hn hT hk
theorem qG2{k j d:Nat}{c:Call}{x:Operand}{e:List V}(hR:Rounds P l L J)(ho:ops.toList[k]? = some o)(hg:o.guard=none)(hop:o.op=.call c)(hk:c.callee=.value x)(hx:opv (lk st) x=some (.v (.raw (wEF l))))(hargs:yF (lk st) c.args.toList=some e)(hL:L[j]? = some e)(hdst:o.dst=some d)(hd:Nat.blt d n=true)(hT:wCC st=true)(h1:SI P n J ops Q (k+1) ((2*d,some (.sv (.v (.bool true))))::st) (some (j+1)))(h2:SI P n J ops Q (k+1) ((2*d,some (.sv (.v (.bool false))))::st) none):SI P n J ops Q k st (some j):=fun a w X hj hs=>by
 have hlt:=size_of ho;rw[show ops.size-k=(ops.size-(k+1))+1 by omega,pE0,wpOpsIn_cons];unfold wpOpIn;rw[show ops[k]? = some o by simp_all];dsimp only;rw[if_pos (by simp[Region.wanted,hg])];refine⟨wTE _,?_⟩;have hdf:=hs.defers;obtain⟨β,hB⟩:=hs;have hsz:=hB.size;have e1:=rep_raw (hB.val (x:=x) (y:=.raw (wEF l)) hx);have hNX:∀b,qM β b→b<w.heap.size→X b:=fun b hb hlt=>by apply dF;intro hs;exact hb _ _ (hB.sp b hlt hs trivial)
 have e2:=(hB.args (l:=c.args.toList) (r:=e) hargs).mono (S':=X) fun b hb hlt=>hNX b hb hlt;obtain⟨f,tmps,assign,body,hy,hround⟩:=hR.yld hL hj e2;have hrun:((o.semAt Fence.wide.round a.eval).run P w)=.ok (.round l f tmps assign body) w:=by
  rw[show Fence.wide.round=none from rfl,Oper.semAt_none];have hm:(c.args.map a.eval)=(c.args.toList.map a.eval).toArray:=by apply bU;simp
  simp only[execOp,hop,resolve,hk,e1,wEF,Deferred.ofValue,Sem.run_bind,Sem.run_pure,Result.andThen_ok,invoke]
  simp_all
 rw[hrun,Oper.uponIn_round];refine⟨(fun h=>by cases h),RoundIn.mono (hround _) fun e w' he=>?_⟩;obtain⟨b,rfl,j',q1,q2,q3,q4,q5⟩:=he;dsimp only;rw[hdst];have hd':d<n:=by simp_all
 have hIS:IS n (fun q=>X q∧q<w.heap.size) (lk ((2*d,some (.sv (.v (.bool b))))::st)) (a.put (some d) (.bool b)) w':=by
  refine IS.mk (by simp_all [size_put]) (by simp_all [qEH]) (by simp_all [wCC]) fun q y hq=>?_;rw[x9 a (by omega)];simp only[lk]at hq;by_cases hqd:d=q
  ·subst hqd;rw[if_pos rfl];simp at hq;subst hq;exact .bool b
  ·rw[wC0 (show 2*d≠2*q by omega)]at hq;simp only[cond_false]at hq;rw[if_neg (fun h=>hqd h.symm)];exact Rep.keep (fun b hb hlt=>⟨⟨hNX b hb hlt,hlt⟩,q4 b (hNX b hb hlt) hlt⟩) (hB.slot q _ hq)
 cases b with
 |true=>obtain rfl:=q1 rfl;exact h1 _ _ _ q3 hIS
 |false=>obtain rfl:=q2 rfl;exact h2 _ _ _ q3 hIS
theorem wTI{g:FuncId}{fn:Func}{c:Code}{fs cs:List V}(hf:P.funcs[g]? = some fn)(hb:fn.body=some c)(hnt:fn.ntmps=n)(hres:fn.results=#[])(hn:Nat.ble (fs.length+1+cs.length) n=true)(h:∀l J,Rounds P l L J→VI P n J c (fun e st' j=>(e=.ret∨e=.normal)∧(j=some L.length∨j=none)) (wH1 0 ((fs++[.raw (wEF l)])++cs)) (some 0)):VSeq P g fs cs L:=by
 subst hnt;intro S w us vs l J hR hus hvs hj;have hn':=pI hn;have hl:RepL S w ((fs++[.raw (wEF l)])++cs) ((us++[wEF l])++vs):=(hus.append (.cons (.raw rfl) .nil)).append hvs;obtain⟨zs,hzs⟩:∃zs,(us++[wEF l])++vs=zs:=⟨_,rfl⟩
 rw[hzs]at hl ⊢;have hlen:zs.length≤fn.ntmps:=by rw[←hl.length];grind
 obtain⟨xs,hxs⟩:∃xs,(fs++[.raw (wEF l)])++cs=xs:=⟨_,rfl⟩
 have h':=h l J hR;rw[hxs]at hl h';have hov:∀(i:Nat)(xs:List V),wCC (wH1 i xs)=true:=by
  intro i xs
  induction xs generalizing i with
  |nil=>rfl
  |cons x xs ih=>simp_all [wH1,wCC]
 have hIS:IS fn.ntmps S (lk (wH1 0 xs)) { tmps:=zs.toArray++Array.replicate (fn.ntmps-zs.toArray.size) undef,defers:=[] } w:=by
  refine IS.mk (by simp;omega) rfl (hov 0 xs) fun d x e=>?_;obtain⟨q,y,h1,h2,h3⟩:=wB2 e;cases h3;obtain rfl:d=q:=by omega
  obtain⟨u,hu,hr⟩:=hl.get d x h2;have hd:d<zs.length:=(pY.1 hu).1
  have:(zs.toArray++Array.replicate (fn.ntmps-zs.toArray.size) undef).getD d undef=u:=by rw[mU,Array.getElem?_append_left (by simpa using hd)];simp[hu]
  simp_all
 refine calls_of_wp hf hb ((wpIn_wide (n:=0)).1 (wpIn_mono (h' _ w S hj hIS) fun e a w' hq=>?_));obtain⟨st',j',X',⟨he,hj'⟩,h2,h3⟩:=hq;have hfin:a.defers=[]∧∃v,(results fn a.tmps).run P w'=.ok v w'∧(∃v',Ending.returned v=.returned v')∧∃j X,J j X w'∧(j=some L.length∨j=none):=by
  refine⟨h3.defers,.tuple #[],?_,⟨_,rfl⟩,j',X',h2,hj'⟩
  simp_all [wUG]
 rcases he with rfl|rfl
 ·exact hfin
 ·exact hfin
end
def owned(β:Bl)(b:Nat):Prop:=∃K J,(J=0∨K%2=1)∧β K J=some b
def bR(w:World)(β:Bl)(ex:Nat→Prop)(l lo:Nat)(h:lo≤w.heap.size):Base:=⟨w,qM β,fun b=>¬owned β b∧¬ex b,some l,lo,h,false⟩
structure Stg(ex:Nat→Prop)(β:Bl)(w:World)(β':Bl)(w':World):Prop where
 os:w'.os=w.os
 tape:w'.tape=w.tape
 output:w'.output=w.output
 size:w.heap.size≤w'.heap.size
 blk:∀b,b<w.heap.size→¬owned β b→¬ex b→w'.heap[b]? = w.heap[b]?
 nb:∀b,b<w.heap.size→qM β b→qM β' b
 sp:∀b,β 0 (b+1)=some b→b<w.heap.size→¬owned β b→¬ex b→β' 0 (b+1)=some b
 ow:∀b,owned β' b→w.heap.size≤b∨owned β b∨ex b
theorem wNH{β:Bl}{b:Nat}(h:qM β b):¬owned β b:=fun⟨K,J,_,e⟩=>h _ _ e
def okE:St→Bool
 |[]=>true
 |(k,some (.sv (.v _)))::l=>Nat.beq (k%2) 0&&okE l
 |(k,some (.sv (.rp _ _ _)))::l=>Nat.beq (k%2) 0&&okE l
 |_=>false
theorem okE_mem{T:St}(h:okE T=true){k:Nat}{c:Cell}(e:(k,some c)∈T):k%2=0∧((∃x,c=.sv (.v x))∨∃d u off,c=.sv (.rp d u off)):=by
 induction T with
 |nil=>cases e
 | cons p T ih=>
  obtain⟨q,x⟩:=p;unfold okE at h;split at h
  ·rename_i he;cases he
  ·rename_i he;cases he;simp only[Bool.and_eq_true]at h;rcases pS.1 e with e|e
   ·cases e;exact⟨pV h.1,.inl ⟨_,rfl⟩⟩
   ·exact ih h.2 e
  ·rename_i he;cases he;simp only[Bool.and_eq_true]at h;rcases pS.1 e with e|e
   ·cases e;exact⟨pV h.1,.inr ⟨_,_,_,rfl⟩⟩
   ·exact ih h.2 e
  grind
def oddS:St→Bool
 |[]=>true
 |(k,some (.bx _))::l=>Nat.beq (k%2) 1&&oddS l
 |(k,some (.fam _ _ _))::l=>Nat.beq (k%2) 1&&oddS l
 |_=>false
theorem wNF{T:St}(h:oddS T=true){k:Nat}{c:Cell}(e:(k,some c)∈T):k%2=1∧∀x,c≠.sv x:=by
 induction T with
 |nil=>cases e
 | cons p T ih=>
  obtain⟨q,x⟩:=p;unfold oddS at h;split at h
  ·rename_i he;cases he
  ·rename_i he;cases he;simp only[Bool.and_eq_true]at h;rcases pS.1 e with e|e
   ·cases e;exact⟨pV h.1,fun x e=>by cases e⟩
   ·exact ih h.2 e
  ·rename_i he;cases he;simp only[Bool.and_eq_true]at h;rcases pS.1 e with e|e
   ·cases e;exact⟨pV h.1,fun x e=>by cases e⟩
   ·exact ih h.2 e
  grind
theorem lk_oe{O E:St}(hO:oddS O=true)(hE:okE E=true){k:Nat}{c:Cell}(e:lk (O++E) k=some c):(k%2=1∧(k,some c)∈O∧∀x,c≠.sv x)∨(k%2=0∧lk E k=some c∧((∃x,c=.sv (.v x))∨∃d u off,c=.sv (.rp d u off))):=by
 have hm:=wBD e;rcases cB.1 hm with hm|hm
 ·grind [wNF]
 ·have h:=okE_mem hE hm;refine .inr ⟨h.1,?_,h.2⟩;rw[zN]at e
  grind [qF6,wNF]
theorem flat_of:∀{T:St},(∀k c,(k,some c)∈T→(∀d id,c≠.sv (.al d id))∧∀d id q i off,c≠.sv (.at d id q i off))→flat T=true:=by
 intro T
 induction T with
 |nil=>intro _;rfl
 |cons p T ih=>
  intro h;obtain⟨k,c⟩:=p;have hT:=ih fun k c hm=>h k c (pO _ hm);unfold flat
  grind
theorem flat_app{A B:St}(hA:flat A=true)(hB:flat B=true):flat (A++B)=true:=flat_of fun k c hm=>by grind [yO]
theorem qE4{O E:St}(hO:oddS O=true)(hE:okE E=true):flat (O++E)=true:=flat_of fun k c hm=>by
 rcases cB.1 hm with hm|hm
 ·grind [wNF,id]
 ·rcases(okE_mem hE hm).2 with⟨x,rfl⟩|⟨d,u,off,rfl⟩
  ·exact⟨(fun _ _ e=>by cases e),(fun _ _ _ _ _ e=>by cases e)⟩
  simp_all
def xZ:List Nat→List V→St
 |p::ps,x::xs=>(2*p,some (.sv (.v x)))::xZ ps xs
 |_,_=>[]
def keyIn(T:St)(k:Nat):Bool:=T.any fun p=>Nat.beq p.1 k
theorem keyIn_of{T:St}{k:Nat}{c:Cell}(h:lk T k=some c):keyIn T k=true:=by have:=wBD h;unfold keyIn;rw[dZ];exact⟨_,this,by simp⟩
theorem par_lk:∀{ps:List Nat}{e:List V}{k:Nat}{c:Cell},lk (xZ ps e) k=some c→∃p∈ps,k=2*p∧∃x,c=.sv (.v x)
 |[],_,_,_,h=>by simp only[xZ]at h;cases h
 |_::_,[],_,_,h=>by cases h
 | p::ps,x::xs,k,c,h=>by
  simp only[xZ,lk]at h;by_cases hk:2*p=k
  ·subst hk;simp at h
   grind
  ·rw[wC0 hk]at h;obtain⟨q,h1,h2⟩:=par_lk h
   grind
theorem par_get{S:Nat→Prop}{w:World}:∀{ps:List Nat}{e:List V}{us:List Value}(tmps:Array Value),RepL S w e us→ps.length=e.length→ps.Nodup→(∀p∈ps,p<tmps.size)→
  ((ps.zip us).foldl (fun t (x:Nat×Value)=>t.setIfInBounds x.1 x.2) tmps).size=tmps.size∧(∀d,d ∉ ps→((ps.zip us).foldl (fun t (x:Nat×Value)=>t.setIfInBounds x.1 x.2) tmps).getD d undef=tmps.getD d undef) ∧
  (∀d x,lk (xZ ps e) (2*d)=some (.sv (.v x))→Rep S w x (((ps.zip us).foldl (fun t (x:Nat×Value)=>t.setIfInBounds x.1 x.2) tmps).getD d undef))
 |[],e,us,tmps,_,_,_,_=>⟨rfl,fun _ _=>rfl,fun _ _ h=>by simp only[xZ]at h;cases h⟩
 |p::ps,[],us,tmps,_,h,_,_=>by grind
 | p::ps,x::xs,us,tmps,hr,hl,hn,hb=>by
  cases hr with
  | @cons _ u _ us h1 h2=>
   have hp:=hb p (pQ ..);obtain⟨g1,g2,g3⟩:=par_get (tmps.setIfInBounds p u) h2 (by simp_all) (pB6.1 hn).2 (fun q hq=>by simp_all);refine⟨by simp_all,fun d hd=>?_,fun d y hd=>?_⟩
   ·simp only[List.mem_cons,not_or]at hd;have:=g2 d hd.2;simp only[List.zip_cons_cons,List.foldl_cons];rw[this,mU,mU,cP (fun e=>hd.1 e.symm)]
   ·simp only[List.zip_cons_cons,List.foldl_cons];simp only[xZ,lk]at hd;by_cases hk:p=d
    ·subst hk;simp at hd;subst hd;rw[g2 p (pB6.1 hn).1,mU,fH hp];exact h1
    grind [wC0]
section
variable{P:Program}{C:Cx}{w0:Base}{w w':World}{n l:Nat}{β β':Bl}{f:Fm}{a:Act}{ex:Nat→Prop}
theorem HB.subs{t:St}(h:HB w0 n β f a w)(hs:Vl.sub t f)(hfl:flat t=true):HB w0 n β (lk t) a w:=by
 refine⟨h.size,h.dfr,h.bel,h.inj,h.rng,h.sp,h.spk,h.od,fun e d id T k es e1 e2=>absurd rfl ((yO hfl (wBD e1)).1 d id),fun e d id k i off T es B e1 e2 e3=>absurd rfl ((yO hfl (wBD e1)).2 d id k i off),fun d x e=>?_,fun d cs e=>?_,fun d T k L e=>h.fm d T k L (wDC hs e)⟩
 ·have:=wDC hs e;cases x with
  |own id T k es=>obtain⟨id',e'⟩:=this;have q:=h.slot d _ e';exact q
  |_=>exact h.slot d _ this
 ·exact h.box d cs (wDC hs e)
theorem HB.notOwned(h:HB w0 n β f a w){q:Nat}(hq:β 0 (q+1)=some q):¬owned β q:=fun⟨K,J,hj,e⟩=>by have:=h.inj _ _ _ _ _ e hq;omega
theorem HB.stg{lo:Nat}{hlo:lo≤w.heap.size}(h:HB (bR w β ex l lo hlo) n β' f a w'):Stg ex β w β' w' where
 os:=h.bel.os
 tape:=h.bel.tape
 output:=h.bel.output
 size:=h.bel.size
 blk b h1 h2 h3:=h.bel.block b h1 ⟨h2,h3⟩
 nb b h1 h2:=h.od b h1 h2
 sp b h1 h2 h3 h4:=h.sp b h2 (fun hh=>hh _ _ h1) ⟨h3,h4⟩
 ow b hb:=by
  obtain⟨K,J,hj,e⟩:=hb;rcases(h.rng _ _ _ e).1 hj with h1|h1
  ·exact .inl h1
  ·by_cases h2:owned β b
   ·simp_all
   ·by_cases h3:ex b
    ·simp_all
    ·exact absurd ⟨h2,h3⟩ h1
theorem Stg.trans{β2:Bl}{w2:World}(h:Stg ex β w β' w')(k:Stg ex β' w' β2 w2):Stg ex β w β2 w2 where
 os:=k.os.trans h.os
 tape:=k.tape.trans h.tape
 output:=k.output.trans h.output
 size:=pD h.size k.size
 blk b h1 h2 h3:=(k.blk b (pT h1 h.size) (fun ho=>by
  rcases h.ow b ho with h4|h4|h4
  ·omega
  ·exact h2 h4
  simp_all) h3).trans (h.blk b h1 h2 h3)
 nb b h1 h2:=k.nb b (pT h1 h.size) (h.nb b h1 h2)
 sp b h1 h2 h3 h4:=k.sp b (h.sp b h1 h2 h3 h4) (pT h2 h.size) (fun ho=>by
  rcases h.ow b ho with h5|h5|h5
  ·omega
  ·exact h3 h5
  simp_all) h4
 ow b hb:=by
  rcases k.ow b hb with h1|h1|h1
  ·exact .inl (pD h.size h1)
  ·exact h.ow b h1
  simp_all
theorem Stg.weak{ex':Nat→Prop}(h:Stg ex β w β' w')(he:∀b,ex b→ex' b):Stg ex' β w β' w' where
 os:=h.os
 tape:=h.tape
 output:=h.output
 size:=h.size
 blk b h1 h2 h3:=h.blk b h1 h2 fun h4=>h3 (he b h4)
 nb:=h.nb
 sp b h1 h2 h3 h4:=h.sp b h1 h2 h3 fun h5=>h4 (he b h5)
 ow b hb:=(h.ow b hb).imp id fun h1=>h1.imp id (he b)
theorem Stg.turn(o:Obj):Stg (fun b=>b=l) β w β { w with heap:=w.heap.setIfInBounds l o } where
 os:=rfl
 tape:=rfl
 output:=rfl
 size:=by simp
 blk b h1 h2 h3:=cP (fun e=>h3 e.symm)
 nb b h1 h2:=h2
 sp b h1 h2 h3 h4:=h1
 ow b hb:=.inr (.inl hb)
structure Cont(lo n:Nat)(β:Bl)(f:Fm)(a:Act)(w:World):Prop where
 inj:∀k j k' j' B,β k j=some B→β k' j'=some B→k=k'∧j=j'
 rng:∀k j B,β k j=some B→B<w.heap.size
 spk:∀k j B,β k j=some B→j=0∨k%2=1∨(k=0∧j=B+1)
 slot:∀d x,f (2*d)=some (.sv x)→jE lo (qM β) w β (2*d) 0 x (a.tmps.getD d undef)
 box:∀d cs,f (2*d+1)=some (.bx cs)→∃(B:Nat)(T:TypeId)(us:List Value),β (2*d+1) 0=some B∧w.heap[B]? = some (.cells us.toArray T (0,0))∧us.length=cs.length ∧
  ∀j x u,cs[j]? = some x→us[j]? = some u→jE lo (qM β) w β (2*d+1) (j+1) x u∧u.oneCell'=true∧yR x=true
 fm:∀d T k L,f (2*d+1)=some (.fam T k L)→wEC lo (qM β) w β (2*d+1) T k L
theorem HB.cont(h:HB w0 n β f a w):Cont w0.lo n β f a w:=⟨h.inj,fun k j B e=>(h.rng k j B e).2,h.spk,h.slot,h.box,h.fm⟩
theorem Cont.turn{lo:Nat}(h:Cont lo n β f a w){q:Nat}(hq:β 0 (q+1)=some q)(o:Obj):Cont lo n β f a { w with heap:=w.heap.setIfInBounds q o }:=by
 have hne:∀b,b≠q→(w.heap.setIfInBounds q o)[b]? = w.heap[b]?:=fun b hb=>cP (fun e=>hb e.symm);have hS:∀b,qM β b→b<w.heap.size→qM β b∧(w.heap.setIfInBounds q o)[b]? = w.heap[b]?:=fun b hb _=>⟨hb,hne b (fun e=>by subst e;exact hb _ _ hq)⟩
 have hk:∀k j B,β k j=some B→j=0∨k%2=1→(w.heap.setIfInBounds q o)[B]? = w.heap[B]?:=fun k j B hB hj=>hne B (fun e=>by subst e;have:=h.inj _ _ _ _ _ hB hq;omega)
 refine⟨h.inj,fun k j B e=>by simpa using h.rng k j B e,h.spk,fun d x e=>?_,fun d cs e=>?_,fun d T k L e=>?_⟩
 ·have hs:=h.slot d x e;cases x with
  |own id T k es=>exact jE.keep (x:=.own id T k es) hs hS (fun _=>rfl) (fun _ B hB=>hk _ _ B hB (.inl rfl)) (fun _ _ h=>h.elim)
  |v x=>exact jE.keep (x:=.v x) hs hS (fun hh=>by rfl) (fun hh=>by cases hh) (fun _ _ hh=>hh.elim)
  |_=>exact hs
 ·obtain⟨B,T,us,h1,h2,h3,h4⟩:=h.box d cs e;refine⟨B,T,us,h1,(hk _ _ B h1 (.inl rfl)).trans h2,h3,fun j x u hx hu=>?_⟩;obtain⟨g1,g2,g3⟩:=h4 j x u hx hu;exact⟨g1.keep hS (fun _=>rfl) (fun _ B hB=>hk _ _ B hB (.inr (by omega))) (fun _ _ _ _ e=>e),g2,g3⟩
 ·exact(h.fm d T k L e).keep hS fun _ _ B _ hB=>⟨hB,hk _ _ B hB (.inr (by omega))⟩
theorem Cont.round{lo:Nat}(h:Cont lo n β f a w)(hlo:lo≤w.heap.size)(hsz:a.tmps.size=n)(hd:a.defers=[])(hal:∀k d id,f k≠some (.sv (.al d id)))(hat:∀k d id q i off,f k≠some (.sv (.at d id q i off))):HB (bR w β ex l lo hlo) n β f a w:=by
 refine⟨hsz,⟨.inr hd,by simp[hd],by rw[hd];exact .nil⟩,BelP.refl _,h.inj,fun k j B e=>⟨fun hj=>.inr fun hk=>hk.1 ⟨k,j,hj,e⟩,h.rng k j B e⟩,fun b h1 h2 h3=>?_,h.spk,fun b _ hb=>hb,fun e d id T k es e1 _=>absurd e1 (hal _ _ _),fun e d id k i off T es B e1 _ _=>absurd e1 (hat _ _ _ _ _ _),h.slot,h.box,h.fm⟩
 have:∃k j,β k j=some b:=by apply dF;intro hh;exact h2 fun k j e=>hh ⟨k,j,e⟩
 obtain⟨k,j,e⟩:=this;rcases h.spk _ _ _ e with hj|hj|⟨hk,hj⟩
 ·exact absurd ⟨k,j,.inl hj,e⟩ h3.1
 ·exact absurd ⟨k,j,.inr hj,e⟩ h3.1
 simp_all
theorem HB.back{O O' E:St}{a3:Act}(hO:oddS O=true)(hO':oddS O'=true)(hE:okE E=true)(h:HB w0 n β (lk (O++E)) a w)(hs:Stg (fun b=>b=l) β w β' w')(hl:β 0 (l+1)=some l)(hlw:w0.heap.size≤l)(hlm:∀o,w.heap[l]?≠some (.deferred o))(hc:Cont w0.lo n β' (lk (O'++E)) a3 w'):HB w0 n β' (lk (O'++E)) a w':=by
 have hkeep:∀b,qM β b→b<w.heap.size→qM β' b∧w'.heap[b]? = w.heap[b]?:=fun b hb hlt=>⟨hs.nb b hlt hb,hs.blk b hlt (wNH hb) (fun e=>by subst e;exact hb _ _ hl)⟩
 have hspec:∀q,β 0 (q+1)=some q→q≠l→β' 0 (q+1)=some q∧w'.heap[q]? = w.heap[q]?:=fun q hq hne=>⟨hs.sp q hq (h.rng _ _ _ hq).2 (h.notOwned hq) hne,hs.blk q (h.rng _ _ _ hq).2 (h.notOwned hq) hne⟩
 refine⟨h.size,⟨h.dfr.1,fun d hd=>?_,h.dfr.2.2⟩,?_,hc.inj,fun k j B e=>⟨fun hj=>?_,hc.rng k j B e⟩,fun b h1 h2 h3=>?_,hc.spk,fun b h1 h2=>(hkeep b (h.od b h1 h2) (pT h1 h.base)).1,fun e d id T k es e1 _=>?_,fun e d id k i off T es B e1 _ _=>?_,fun d x e=>?_,hc.box,hc.fm⟩
 ·obtain⟨r,h1,h2,h3,h4⟩:=h.dfr.2.1 d hd
  grind
 ·refine⟨hs.os.trans h.bel.os,hs.tape.trans h.bel.tape,hs.output.trans h.bel.output,pD h.base hs.size,fun b h1 h2=>?_⟩;refine(hs.blk b (pT h1 h.base) (fun ho=>?_) (fun e=>by omega)).trans (h.bel.block b h1 h2);obtain⟨K,J,hj,e⟩:=ho;rcases(h.rng _ _ _ e).1 hj with h3|h3
  ·omega
  simp_all
 ·rcases hs.ow B ⟨k,j,hj,e⟩with h1|⟨K,J,hj',e'⟩|h1
  ·exact .inl (pD h.base h1)
  ·exact(h.rng _ _ _ e').1 hj'
  ·subst h1;exact .inl hlw
 ·exact(hspec b (h.sp b h1 h2 h3) (fun e=>by omega)).1
 ·rcases lk_oe hO' hE e1 with⟨_,_,h2⟩|⟨_,_,⟨x,h2⟩|⟨d,u,off,h2⟩⟩
  ·exact absurd rfl (h2 _)
  ·cases h2
  grind
 ·rcases lk_oe hO' hE e1 with⟨_,_,h2⟩|⟨_,_,⟨x,h2⟩|⟨d,u,off,h2⟩⟩
  ·exact absurd rfl (h2 _)
  ·cases h2
  grind
 ·have hnew:=hc.slot d x e;rcases lk_oe hO' hE e with⟨_,_,h2⟩|⟨_,hlk,h2⟩
  ·omega
  ·have hold:lk (O++E) (2*d)=some (.sv x):=by
    rw[zN];cases hq:app O (lk E) (2*d)with
    | none=>
     have:2*d ∉ keys O:=fun hm=>?_
     ·simp_all [wB3]
     ·clear hq;have key:∀O:St,oddS O=true→2*d ∉ keys O:=by
       intro O
       induction O with
       |nil=>intro _ h;cases h
       | cons p O ih=>
        intro ho hm;obtain⟨k,c⟩:=p;simp only[keys,List.mem_cons]at hm;unfold oddS at ho;split at ho
        ·rename_i he;cases he
        ·rename_i he;cases he;simp only[Bool.and_eq_true]at ho;have:=pV ho.1;rcases hm with hm|hm
         ·omega
         ·exact ih ho.2 hm
        ·rename_i he;cases he;simp only[Bool.and_eq_true]at ho;have:=pV ho.1;rcases hm with hm|hm
         ·omega
         ·exact ih ho.2 hm
        ·cases ho
      simp_all
    |some c=>
     rcases qF6 hq with hm|hm
     ·have:=(wNF hO hm).1;omega
     simp_all
   have hs0:=h.slot d x hold;rcases h2 with⟨y,h2⟩|⟨d',u,off,h2⟩
   ·cases h2;exact jE.keep (x:=.v y) hs0 hkeep (fun hh=>by cases hh) (fun hh=>by cases hh) (fun _ _ hh=>hh.elim)
   ·cases h2;exact⟨hs0.1,hnew.2⟩
end
section
variable{P:Program}{C:Cx}{w0:Base}{w w':World}{n l:Nat}{β β':Bl}{f:Fm}{a:Act}{st:St}{Q:vH}
def parOk(n:Nat)(E:St):List Nat→Bool
 |[]=>true
 |p::ps=>Nat.blt p n&&!keyIn E (2*p)&&(ps.all fun q=>!Nat.beq p q)&&parOk n E ps
theorem wV6{E:St}:∀{ps:List Nat},parOk n E ps=true→ps.Nodup∧∀p∈ps,p<n∧keyIn E (2*p)=false
 |[],_=>⟨.nil,by simp⟩
 | p::ps,h=>by
  simp only[parOk,Bool.and_eq_true,Bool.not_eq_true']at h;obtain⟨⟨⟨h1,h2⟩,h3⟩,h4⟩:=h;obtain⟨g1,g2⟩:=wV6 h4;refine⟨pB6.2 ⟨fun hm=>?_,g1⟩,fun q hq=>?_⟩
  ·have:=mD.1 h3 p hm
   simp_all
  ·rcases pS.1 hq with rfl|hq
   ·exact⟨by simpa using h1,h2⟩
   simp_all
theorem wZ6{F:Fence}{c:Code}{Q:Exit→Act→World→Prop}{m m':Nat}(hF:F.depth=none)(h:c.wpIn F m P Q a w):c.wpIn F m' P Q a w:=fun b k cs h1 h2 _=>h b k cs h1 h2 fun d hd=>by simp_all
theorem wT7{T:St}(h:flat T=true):(∀k d id,lk T k≠some (.sv (.al d id)))∧∀k d id q i off,lk T k≠some (.sv (.at d id q i off)):=
 ⟨fun k d id e=>(yO h (wBD e)).1 d id rfl,fun k d id q i off e=>(yO h (wBD e)).2 d id q i off rfl⟩
theorem run_newO(o:Obj):(newObj o).run P w=.ok w.heap.size (w.alloc o):=rfl
theorem qJ1:∀{ps:List Nat}{e:List V},flat (xZ ps e)=true
 |[],_=>rfl
 |_::_,[]=>rfl
 |p::ps,x::xs=>by simp only[xZ,flat];exact qJ1
theorem wMB(hC:CxOk P C){g:Operand}{ps:Array Tmp}{assign body:Code}{gf:FuncId}{fn:Func}{fs cs:List V}{L:List (List V)}{Bt:Type}(O:Bt→St)(E:St)(I:Nat→Bt→Prop)(b0:Bt)(T1:Nat→List V→Bt→St)(hro:w0.ro=none)(hmk:w0.mks=true)(hg:opv (lk st) g=some (.v (.clo gf fs cs)))(hfn:C.fns.get gf=some fn)(hseq:VSeq P gf fs cs L)(hps:parOk n E ps.toList=true)(hpl:∀e∈L,e.length=ps.size)(hE:okE E=true)(hO:∀b,oddS (O b)=true)(h0:I 0 b0)(hs:sub (O b0++E) (lk st))(hT1:∀j e b,flat (T1 j e b)=true)(hA:∀j e b,L[j]? = some e→I j b→∀w0':Base,VW P w0' n assign (fun x st1=>x=.normal∧sub (T1 j e b) (lk st1)) (xZ ps.toList e++(O b++E)))(hB:∀j e b,L[j]? = some e→I j b→∀w0':Base,VW P w0' n body (fun x st2=>x=.normal∧∃b',I (j+1) b'∧sub (O b'++E) (lk st2)) (T1 j e b))(hk:∀b,I L.length b→Q .normal (O b++E)):VW P w0 n (.rangeFunc g ps assign body) Q st:=by
 rintro a w ⟨β,hh⟩;have hv:=hh.val hg;have hh0:=hh.subs hs (qE4 (hO b0) hE);obtain⟨hnd,hpE⟩:=wV6 hps;refine wpIn_rangeFunc fun fnid _=>?_;generalize hu:a.eval g=u at hv;cases hv with
 | @clo _ _ _ us vs hfs hcs=>
  obtain⟨hf1,hf2⟩:=hC.fns gf fn hfn;have hround:(Wd w0).round=none:=hro;obtain⟨r,hr⟩:∃r,w.heap.size=r:=⟨_,rfl⟩
  obtain⟨rec,hrec⟩:∃rec:Loop,{ state:=.ready,pending:=none,fn:=fnid,tmps:=a.tmps,params:=ps,assign:=assign,body:=body,defers:=r }=rec:=⟨_,rfl⟩
  obtain⟨wA,hwA⟩:∃wA,(w.alloc (.deferred (some []))).alloc (.loop rec)=wA:=⟨_,rfl⟩
  have hsA:wA.heap.size=r+2:=by rw[←hwA,←hr];simp
  have hbA:Below w.heap.size w wA:=by rw[←hwA];exact((Below.refl _ _).alloc (pC _) _).alloc (by simp) _
  have hlA:wA.heap[r+1]? = some (.loop rec):=by grind [heap_alloc_new]
  have hrA:wA.heap[r]? = some (.deferred (some [])):=by grind [Below.heap_alloc,heap_alloc_new]
  refine⟨r+1,[mark r],wA,{ target:=.fn (.func gf) vs.toArray,args:=us.toArray++#[wEF (r+1)] },wA,gf,((us++[wEF (r+1)])++vs).toArray,wA,?_,?_,fun _ _=>trivial,?_,(fun h=>by cases h),?_⟩
  ·rw[hround];simp only[Instr.enterLoop,Sem.run_bind,run_newO,Result.andThen_ok,Sem.run_pure]
   simp_all [mark]
  ·show(Deferred.ofValue (a.eval g) (#[Operand.const (wEF (r+1))].map a.eval)).run P wA=_
   simp_all [Deferred.ofValue,Act.eval]
  ·simp_all [wEF,Array.ext',invoke]
  let ao:Act:={ a with defers:=mark r::a.defers }
  let βA:Bl:=fun K J=>if K=0∧(J=r+1∨J=r+2)then some (J-1)else β K J
  have hbase:=hh0.base;have hvalA:∀K J B,βA K J=some B→(K=0∧J=B+1∧(B=r∨B=r+1))∨β K J=some B:=by grind
  have hltr:∀K J B,β K J=some B→B<r:=fun K J B e=>by rw[←hr];exact(hh0.rng _ _ _ e).2
  have hoffA:∀K J,¬(K=0∧(J=r+1∨J=r+2))→βA K J=β K J:=fun K J h=>by grind
  have hspA:βA 0 (r+1+1)=some (r+1):=by grind
  have hspr:βA 0 (r+1)=some r:=by grind
  have hspo:∀q,β 0 (q+1)=some q→βA 0 (q+1)=some q:=fun q e=>by grind
  have hNB:∀b,qM β b→b<w.heap.size→qM βA b∧wA.heap[b]? = w.heap[b]?:=fun b hb hlt=>⟨fun K J e=>by
   rcases hvalA _ _ _ e with h|h
   ·omega
   ·exact hb _ _ h,hbA.block b hlt⟩
  have holdA:∀K J B,β K J=some B→wA.heap[B]? = w.heap[B]?:=fun K J B e=>hbA.block B (hh0.rng _ _ _ e).2;have hHB:HB w0 n βA (lk (O b0++E)) ao wA:=by
   have hc:=hh0.chg (β':=βA) (w':=wA) (hh0.bel.trans hbA) (fun k j k' j' B e1 e2=>by
    rcases hvalA _ _ _ e1 with h1|h1<;>rcases hvalA _ _ _ e2 with h2|h2
    ·omega
    ·grind
    ·grind
    ·exact hh0.inj _ _ _ _ _ h1 h2) (fun k j B e=>by
    rcases hvalA _ _ _ e with h|h
    ·omega
    ·have:=hltr _ _ _ h;exact⟨(hh0.rng _ _ _ h).1,by omega⟩) (fun j b e=>by
    have:=hltr _ _ _ e;have h2:=hh0.spk _ _ _ e
    simp_all) hNB (fun d id T k es e=>⟨hoffA _ _ (by omega),holdA _ _⟩) (fun d x e d' hx B hB=>by simp_all) (fun d cs e=>⟨hoffA _ _ (by omega),holdA _ _⟩)
    (fun d cs j id T k es e _=>⟨hoffA _ _ (by omega),holdA _ _⟩) (fun d T k L e B hB=>⟨by simp_all,holdA _ _ _ hB⟩) (fun q e=>holdA _ _ _ e) (fun k j B e=>by
    rcases hvalA _ _ _ e with h|h
    ·omega
    ·exact hh0.spk _ _ _ h)
   refine⟨hc.size,⟨.inl hmk,fun d hd=>?_,?_⟩,hc.bel,hc.inj,hc.rng,hc.sp,hc.spk,hc.od,hc.al,hc.pt,hc.slot,hc.box,hc.fm⟩
   ·rcases pS.1 hd with rfl|hd
    ·grind
    ·obtain⟨q,h1,h2,h3,h4⟩:=hh0.dfr.2.1 d hd
     grind
   ·refine pC9.2 ⟨fun d hd e=>?_,hh0.dfr.2.2⟩;obtain⟨q,h1,h2,h3,h4⟩:=hh0.dfr.2.1 d hd
    simp_all [mark,Deferred.mk.injEq,Target.collected.injEq]
  obtain⟨J,hJ⟩:∃J:Option Nat→(Nat→Prop)→World→Prop,J=fun j X w1=>∃j' b βb,j=some j'∧I j' b∧HB w0 n βb (lk (O b++E)) ao w1∧βb 0 (r+1+1)=some (r+1)∧w1.heap[r+1]? = some (.loop rec)∧∀q,X q→q<w1.heap.size→qM βb q:=⟨_,rfl⟩
  have hw0r:w0.heap.size≤r+1:=by omega
  have hR:Rounds P (r+1) L J:=by
   rw[hJ];refine⟨?_,?_⟩
   ·rintro j X X' w1 w2 ⟨j',b,βb,rfl,hI,hB1,hl1,hrec1,hX1⟩ hb hX';have hlt:=hB1.rng _ _ _ hl1;refine⟨j',b,βb,rfl,hI,hB1.grow hb,hl1,(hb.block _ hlt.2).trans hrec1,fun q hq hq2=>?_⟩;rcases pL q w1.heap.size with h1|h1
    ·grind
    ·intro K J e;have:=(hB1.rng _ _ _ e).2;omega
   ·rintro j e X w1 us2 hL ⟨j',b,βb,hj,hI,hB1,hl1,hrec1,hX1⟩ hus2;cases hj;have hee:=hpl e (pE hL);have hul:=hus2.length;have hsz:ps.size=us2.length:=by omega
    have haz:a.tmps.size=n:=hh0.size;obtain⟨g1,g2,g3⟩:=par_get (ps:=ps.toList) a.tmps hus2 (by simp_all) hnd (fun p hp=>by simp_all);obtain⟨tm,htm⟩:∃tm,(ps.toList.zip us2).foldl (fun t (x:Nat×Value)=>t.setIfInBounds x.1 x.2) a.tmps=tm:=⟨_,rfl⟩
    rw[htm]at g1 g2 g3;have hfold:(ps.zip us2.toArray).foldl (fun tmps (x:Tmp×Value)=>match x with|(t,a)=>tmps.setIfInBounds t a) a.tmps=tm:=by rw[←htm,←Array.foldl_toList];simp
    refine⟨fnid,tm,assign,body,?_,fun m=>?_⟩
    ·rw[←hrec]at hrec1;rw[←hfold];simp[Instr.yield,Instr.getLoop,wB8 (by simp) hrec1,hsz,Result.andThen]
    ·refine roundIn_of_wpIn (F:=Fence.wide) trivial ?_;have hlo1:w0.lo≤w1.heap.size:=pD w0.lole hB1.base;have hodd:∀(d:Nat)(c:Cell),lk (xZ ps.toList e++(O b++E)) (2*d+1)=some c→lk (O b++E) (2*d+1)=some c:=fun d c hq=>by
      rw[zN]at hq
      rwa [wB3 (fun hm=>by
       have key:∀(qs:List Nat)(xs:List V),2*d+1 ∉ keys (xZ qs xs):=by
        intro qs
        induction qs with
        |nil=>intro xs h;cases h
        | cons q qs ih=>
         intro xs h;cases xs with
         |nil=>cases h
         |cons x xs=>
          simp only[xZ,keys,List.mem_cons]at h;rcases h with h|h
          ·omega
          ·exact ih xs h
       simp_all)]at hq
     have hcA:Cont w0.lo n βb (lk (xZ ps.toList e++(O b++E))) { tmps:=tm,defers:=[] } w1:=by
      refine⟨hB1.inj,fun k j B e=>(hB1.rng k j B e).2,hB1.spk,fun d x hq=>?_,fun d cs hq=>hB1.box d cs (hodd d _ hq),fun d T k L hq=>hB1.fm d T k L (hodd d _ hq)⟩;rw[zN]at hq;have hcase:lk (xZ ps.toList e) (2*d)=some (.sv x)∨lk (O b++E) (2*d)=some (.sv x):=by
       have key:∀(qs:List Nat)(xs:List V)(f:Fm),app (xZ qs xs) f (2*d)=some (.sv x)→lk (xZ qs xs) (2*d)=some (.sv x)∨f (2*d)=some (.sv x):=by
        intro qs
        induction qs with
        |nil=>intro xs f h;exact .inr h
        | cons q qs ih=>
         intro xs f h;cases xs with
         |nil=>exact .inr h
         |cons y ys=>
          simp only[xZ,app,lk]at h ⊢;by_cases hk:2*q=2*d
          ·rw[hk]at h ⊢;simp at h ⊢;exact .inl h
          ·rw[wC0 hk]at h ⊢;exact ih ys f h
       simp_all
      rcases hcase with h1|h1
      ·obtain⟨p,hp,_,y,hy⟩:=par_lk h1;cases hy;exact(g3 d y h1).mono fun q hq hlt=>hX1 q hq hlt
      ·have hs1:=hB1.slot d x h1;have hnp:d ∉ ps.toList:=fun hm=>by
        have:=(hpE d hm).2;rcases lk_oe (hO b) hE h1 with⟨_,_,h2⟩|⟨_,h2,_⟩
        ·exact absurd rfl (h2 _)
        ·rw[keyIn_of h2]at this;cases this
       grind
     have hflA:flat (xZ ps.toList e++(O b++E))=true:=flat_app qJ1 (qE4 (hO b) hE);have hA0:=hcA.round (ex:=fun _=>False) (l:=r+1) hlo1 (by simp_all) rfl (wT7 hflA).1 (wT7 hflA).2;refine wZ6 rfl (wpIn_mono (hA j e b hL hI _ _ _ ⟨βb,hA0⟩) fun x a1 wq hq=>?_);obtain⟨st1,⟨rfl,hsub1⟩,β1,hB2⟩:=hq;have hT:=hB2.subs hsub1 (hT1 j e b);have s1:=hT.stg;have hl2:β1 0 (r+1+1)=some (r+1):=s1.sp _ hl1 (hB1.rng _ _ _ hl1).2 (hB1.notOwned hl1) (fun h=>h);have hrec2:wq.heap[r+1]? = some (.loop rec):=(s1.blk _ (hB1.rng _ _ _ hl1).2 (hB1.notOwned hl1) (fun h=>h)).trans hrec1;obtain⟨recB,hrecB⟩:∃recB:Loop,{ rec with state:=.busy }=recB:=⟨_,rfl⟩
     refine⟨{ wq with heap:=wq.heap.setIfInBounds (r+1) (.loop recB) },?_,?_⟩
     ·rw[←hrecB];rw[←hrec]at hrec2 ⊢;simp[Instr.beginRound,Instr.getLoop,wB8 (by simp) hrec2,wF2 _ (by simp) hrec2,Result.andThen]
     ·have hc2:=hT.cont.turn hl2 (.loop recB);have hszq:r+1<wq.heap.size:=(hT.rng _ _ _ hl2).2;have hrec3:({ wq with heap:=wq.heap.setIfInBounds (r+1) (.loop recB) }:World).heap[r+1]? = some (.loop recB):=fH hszq;have s2:Stg (fun b=>b=r+1) β1 wq β1 { wq with heap:=wq.heap.setIfInBounds (r+1) (.loop recB) }:=Stg.turn _;generalize hw2:({ wq with heap:=wq.heap.setIfInBounds (r+1) (.loop recB) }:World)=wz at hc2 hrec3 s2 ⊢;have hlo2:w0.lo≤wz.heap.size:=pD hlo1 (pD s1.size s2.size);have hB0:=hc2.round (ex:=fun _=>False) (l:=r+1) hlo2 hT.size (hT.dfr.1.resolve_left (by simp[bR])) (wT7 (hT1 j e b)).1 (wT7 (hT1 j e b)).2;refine wZ6 rfl (wpIn_mono (hB j e b hL hI _ _ _ ⟨β1,hB0⟩) fun x a3 w3 hq=>?_);obtain⟨st2,⟨rfl,b',hI',hsub2⟩,β3,hB3⟩:=hq;have hT3:=hB3.subs hsub2 (qE4 (hO b') hE);have s3:=hT3.stg
      have hlz:=(hc2.rng _ _ _ hl2)
      have hno:¬owned β1 (r+1):=hT.notOwned hl2;have hl3:β3 0 (r+1+1)=some (r+1):=s3.sp _ hl2 hlz hno (fun h=>h);have hrec4:w3.heap[r+1]? = some (.loop recB):=(s3.blk _ hlz hno (fun h=>h)).trans hrec3;have hsz3:r+1<w3.heap.size:=(hT3.rng _ _ _ hl3).2;have hrr:({ recB with state:=.ready,pending:=none }:Loop)=rec:=by grind
      refine⟨.bool true,{ w3 with heap:=w3.heap.setIfInBounds (r+1) (.loop rec) },?_,true,rfl,some (j+1),(fun _=>rfl),(fun h=>by cases h),?_,?_,?_⟩
      ·rw[←hrr];simp[Instr.endRound,Instr.getLoop,wB8 (by simp) hrec4,wF2 _ (by simp) hrec4,Result.andThen]
      ·have s4:Stg (fun b=>b=r+1) β3 w3 β3 { w3 with heap:=w3.heap.setIfInBounds (r+1) (.loop rec) }:=Stg.turn _;have hS:=(((s1.weak (ex':=fun b=>b=r+1) (fun _ h=>h.elim)).trans s2).trans (s3.weak (fun _ h=>h.elim))).trans s4;refine⟨j+1,b',β3,rfl,hI',HB.back (hO b) (hO b') hE hB1 hS hl1 hw0r (fun o h=>by simp_all) (hT3.cont.turn hl3 _),hl3,fH hsz3,fun q hq _=>hS.nb q hq.2 (hX1 q hq.1 hq.2)⟩
      ·intro q hq hlt;have s4:Stg (fun b=>b=r+1) β3 w3 β3 { w3 with heap:=w3.heap.setIfInBounds (r+1) (.loop rec) }:=Stg.turn _;have hS:=(((s1.weak (ex':=fun b=>b=r+1) (fun _ h=>h.elim)).trans s2).trans (s3.weak (fun _ h=>h.elim))).trans s4;exact hS.blk q hlt (wNH (hX1 q hq hlt)) (fun h=>by subst h;exact hX1 _ hq hlt _ _ hl1)
      ·have:=s1.size;have:=s2.size;have:=s3.size
       grind
  have hJ0:J (some 0) (qM βA) wA:=by grind
  have hcall:=hseq (qM βA) wA us vs (r+1) J hR (hfs.keep hNB) (hcs.keep hNB) hJ0;refine wXD (ro:=w0.ro) (Calls.mono hcall ?_);rintro e w3 ⟨⟨v,rfl⟩,j,X,hj,hj2⟩;rw[hJ]at hj;obtain⟨j',b,βb,rfl,hI,hB1,hl1,hrec1,_⟩:=hj;obtain rfl:j'=L.length:=by simp_all
  refine⟨none,{ w3 with heap:=w3.heap.setIfInBounds (r+1) (.loop { rec with state:=.exhausted }) },?_,?_⟩
  ·rw[←hrec]at hrec1 ⊢;simp[Instr.endLoop,Instr.getLoop,wB8 (by simp) hrec1,wF2 _ (by simp) hrec1,Result.andThen]
  ·exact⟨O b++E,hk b hI,βb,HB.back (hO b) (hO b) hE hB1 (Stg.turn _) hl1 hw0r (fun o h=>by simp_all) (hB1.cont.turn hl1 _)⟩
end
section
variable{P:Program}{C:Cx}{w0:Base}{n:Nat}{st:St}{Q:vH}{ops:Array Oper}
theorem pin_ok{s d:Nat}{cs:List SV}(h:lk st (2*s)=some (.sv (.bx d 0)))(hb:lk st (2*d+1)=some (.bx cs)):∀a w,Hs w0 n (lk st) a w→∃u,Hs w0 n (lk ((2*s,some (.sv (.rp d u 0)))::st)) a w:=by
 rintro a w ⟨β,hh⟩;obtain⟨B,T,us,g1,_⟩:=hh.box d cs hb;have hs:=hh.slot s _ h;have e1:=hs B g1;refine⟨.pointer (some ⟨B,0,none⟩),β,?_⟩;have h3:=hh.reslot (d:=s) (x:=.rp d (.pointer (some ⟨B,0,none⟩)) 0) rfl ⟨⟨B,rfl,e1⟩,fun B' hB'=>by simp_all⟩;rw[show lk ((2*s,some (.sv (.rp d (.pointer (some ⟨B,0,none⟩)) 0)))::st)=upd (lk st) (2*s) (some (.sv (.rp d (.pointer (some ⟨B,0,none⟩)) 0)))from by
  have e:=zN (u:=[(2*s,some (Cell.sv (.rp d (.pointer (some ⟨B,0,none⟩)) 0)))]) (st:=st)
  simp_all [app1]]
 exact h3
theorem wTH{c:Code}(s d:Nat){cs:List SV}(h:lk st (2*s)=some (.sv (.bx d 0)))(hb:lk st (2*d+1)=some (.bx cs))(hv:∀u,VW P w0 n c Q ((2*s,some (.sv (.rp d u 0)))::st)):VW P w0 n c Q st:=vw_ex _ (pin_ok h hb) hv
end
section
variable{P:Program}{C:Cx}{w0:Base}{n:Nat}{st:Fm}{o:Oper}
end
section
variable{P:Program}{C:Cx}{w0:Base}{n:Nat}{st:St}{Q:vH}{ops:Array Oper}{id k:Nat}{dr:Bool}{st0:St}{acc:List Stp}{o:Oper}
end
section
variable{P:Program}{w0:Base}{n:Nat}{st:St}{Q Q':vH}{c y t:Code}
end
end Go.Vl
