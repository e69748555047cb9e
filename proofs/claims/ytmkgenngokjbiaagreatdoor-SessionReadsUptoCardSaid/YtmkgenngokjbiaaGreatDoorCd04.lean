/- Values as trees, told apart from the blocks in which they lie. -/
import Derived.Test.YtmkgenngokjbiaaGreatDoorCd03
set_option linter.all false
set_option maxRecDepth 20000
set_option maxHeartbeats 6400000
set_option linter.all false
namespace Go.Vl
open Go.RowKit Go.Ev
inductive V where
 |bool (b:Bool)
 |int (k:IntKind) (n:Int)
 |str (s:ByteArray)
 |agg (cs:List V)
 |tup (vs:List V)
 |list (es:List (List V))
 |ref (cs:List V)
 |nilp
 |clo (f:FuncId) (fs cs:List V)
 |nilf
 |ifc (t:TypeId) (v:V)
 |nili
 |raw (u:Value)
def V.one:V→Bool
 |.agg _=>false
 |.tup _=>false
 |_=>true
def V.cells:V→List V
 |.agg cs=>cs
 |v=>[v]
def wX(l:List V):Bool:=l.all V.one
mutual
inductive Rep(S:Nat→Prop)(w:World):V→Value→Prop
 |bool (b:Bool):Rep S w (.bool b) (.bool b)
 |int (k:IntKind) (n:Int):Rep S w (.int k n) (.int k n)
 |str (s:ByteArray):Rep S w (.str s) (.string s)
 |agg {cs:List V} {us:List Value} (ho:wX cs=true) (h:RepL S w cs us):Rep S w (.agg cs) (.agg us.toArray)
 |tup {cs:List V} {us:List Value} (h:RepL S w cs us):Rep S w (.tup cs) (.tuple us.toArray)
 | list {k:Nat} {es:List (List V)} {us:List Value} {b off cap:Nat} (hk:∀e∈es,e.length=k) (ho:∀e∈es,wX e=true) (hc:es.length≤cap) (h:RepL S w es.flatten us) (hb:es≠[]→S b∧b<w.heap.size)
   (hu:∀j u,us[j]? = some u→w.cell? ⟨b,off+j,none⟩=some u):Rep S w (.list es) (.slice (some ⟨b,off,none⟩) es.length cap)
 |nils:Rep S w (.list []) (.slice none 0 0)
 |emp (p:Addr) (cap:Nat):Rep S w (.list []) (.slice (some p) 0 cap)
 |ref {cs:List V} {us:List Value} {b off:Nat} (ho:wX cs=true) (h:RepL S w cs us) (hb:S b∧b<w.heap.size) (hu:∀j u,us[j]? = some u→w.cell? ⟨b,off+j,none⟩=some u):Rep S w (.ref cs) (.pointer (some ⟨b,off,none⟩))
 |nilp:Rep S w .nilp (.pointer none)
 |clo {f:FuncId} {fs cs:List V} {us vs:List Value} (h:RepL S w fs us) (k:RepL S w cs vs):Rep S w (.clo f fs cs) (.func (.func f) us.toArray vs.toArray)
 |nilf:Rep S w .nilf .nilFunc
 |ifc {t:TypeId} {x:V} {v:Value} (h:Rep S w x v):Rep S w (.ifc t x) (.iface t v)
 |nili:Rep S w .nili .nilIface
 |raw {u:Value} (h:u.oneCell'=true):Rep S w (.raw u) u
inductive RepL(S:Nat→Prop)(w:World):List V→List Value→Prop
 |nil:RepL S w [] []
 |cons {x:V} {v:Value} {xs:List V} {vs:List Value} (h:Rep S w x v) (t:RepL S w xs vs):RepL S w (x::xs) (v::vs)
end
theorem RepL.length{S:Nat→Prop}{w:World}:∀{x:List V}{v:List Value},RepL S w x v→x.length=v.length
 |_,_,.nil=>rfl
 |_,_,.cons _ t=>by simp[RepL.length t]
section
variable{S S':Nat→Prop}{w w':World}
theorem cell_kept{b off:Nat}(hb:w'.heap[b]? = w.heap[b]?){u:Value}(h:w.cell? ⟨b,off,none⟩=some u):w'.cell? ⟨b,off,none⟩=some u:=
 (World.cell?_of_block (w:=w) (a:=⟨b,off,none⟩) hb).trans h
theorem lt_kept{b:Nat}(h:b<w.heap.size)(hb:w'.heap[b]? = w.heap[b]?):b<w'.heap.size:=by grind
mutual
theorem Rep.keep(hk:∀b,S b→b<w.heap.size→S' b∧w'.heap[b]? = w.heap[b]?):∀{x:V}{v:Value},Rep S w x v→Rep S' w' x v
 |_,_,.bool b=>.bool b
 |_,_,.int k n=>.int k n
 |_,_,.str s=>.str s
 |_,_,.agg ho h=>.agg ho (RepL.keep hk h)
 |_,_,.tup h=>.tup (RepL.keep hk h)
 | _,_,.list (es:=es) (us:=us) (b:=b) (off:=off) h1 h2 h3 h hb hu=>.list h1 h2 h3 (RepL.keep hk h)
   (fun hn=>let⟨a,l⟩:=hb hn;let⟨a',e⟩:=hk b a l;⟨a',lt_kept l e⟩)
   (fun j u hj=>by
    have hn:es≠[]:=by intro e;subst e;have:=RepL.length h;have hj':=(pY.1 hj).1;simp at this;omega
    grind [cell_kept])
 |_,_,.nils=>.nils
 |_,_,.emp p c=>.emp p c
 |_,_,.ref (b:=b) ho h hb hu=>.ref ho (RepL.keep hk h) (let⟨a',e⟩:=hk b hb.1 hb.2;⟨a',lt_kept hb.2 e⟩) (fun j u hj=>cell_kept (hk b hb.1 hb.2).2 (hu j u hj))
 |_,_,.nilp=>.nilp
 |_,_,.clo h k=>.clo (RepL.keep hk h) (RepL.keep hk k)
 |_,_,.nilf=>.nilf
 |_,_,.ifc h=>.ifc (Rep.keep hk h)
 |_,_,.nili=>.nili
 |_,_,.raw h=>.raw h
theorem RepL.keep(hk:∀b,S b→b<w.heap.size→S' b∧w'.heap[b]? = w.heap[b]?):∀{x:List V}{v:List Value},RepL S w x v→RepL S' w' x v
 |_,_,.nil=>.nil
 |_,_,.cons h t=>.cons (Rep.keep hk h) (RepL.keep hk t)
end
theorem Rep.mono{x:V}{v:Value}(h:Rep S w x v)(hs:∀b,S b→b<w.heap.size→S' b):Rep S' w x v:=h.keep fun b a l=>⟨hs b a l,rfl⟩
theorem RepL.mono{x:List V}{v:List Value}(h:RepL S w x v)(hs:∀b,S b→b<w.heap.size→S' b):RepL S' w x v:=h.keep fun b a l=>⟨hs b a l,rfl⟩
theorem Rep.later{x:V}{v:Value}(h:Rep S w x v)(hb:Below w.heap.size w w'):Rep S w' x v:=h.keep fun b a l=>⟨a,hb.block b l⟩
theorem RepL.later{x:List V}{v:List Value}(h:RepL S w x v)(hb:Below w.heap.size w w'):RepL S w' x v:=h.keep fun b a l=>⟨a,hb.block b l⟩
theorem RepL.get:∀{x:List V}{v:List Value},RepL S w x v→∀(i:Nat)(a:V),x[i]? = some a→∃u,v[i]? = some u∧Rep S w a u
 |_,_,.nil,i,a,h=>by grind
 |_,_,.cons h t,0,a,e=>by simp_all
 |_,_,.cons h t,i+1,a,e=>by simp only[List.getElem?_cons_succ]at e ⊢;exact t.get i a e
theorem RepL.append:∀{x y:List V}{v u:List Value},RepL S w x v→RepL S w y u→RepL S w (x++y) (v++u)
 |_,_,_,_,.nil,h=>h
 |_,_,_,_,.cons h t,k=>.cons h (t.append k)
theorem RepL.take:∀{x:List V}{v:List Value},RepL S w x v→∀n,RepL S w (x.take n) (v.take n)
 |_,_,.nil,n=>by simp;exact .nil
 |_,_,.cons h t,0=>.nil
 |_,_,.cons h t,n+1=>.cons h (t.take n)
theorem RepL.drop:∀{x:List V}{v:List Value},RepL S w x v→∀n,RepL S w (x.drop n) (v.drop n)
 |_,_,.nil,n=>by simp;exact .nil
 |_,_,.cons h t,0=>.cons h t
 |_,_,.cons h t,n+1=>t.drop n
theorem RepL.flat:∀{es:List (List V)}{vs:List (List Value)},es.length=vs.length→(∀(i:Nat)(e:List V)(v:List Value),es[i]? = some e→vs[i]? = some v→RepL S w e v)→RepL S w es.flatten vs.flatten
 |[],[],_,_=>.nil
 |[],_::_,h,_=>by grind
 |_::_,[],h,_=>by grind
 |e::es,v::vs,h,k=>by simp only[List.flatten_cons];exact(k 0 e v rfl rfl).append (RepL.flat (by simp_all) fun i e v a b=>k (i+1) e v (by simp_all) (by simp_all))
theorem RepL.replicate{x:V}{v:Value}(h:Rep S w x v):∀n,RepL S w (List.replicate n x) (List.replicate n v)
 |0=>.nil
 |n+1=>.cons h (RepL.replicate h n)
theorem RepL.seg{x:List V}{v:List Value}(h:RepL S w x v)(o n:Nat):RepL S w ((x.drop o).take n) ((v.drop o).take n):=(h.drop o).take n
theorem Rep.cells{x:V}{v:Value}(h:Rep S w x v)(hx:∀cs,x≠.tup cs):RepL S w x.cells v.cells.toList∧wX x.cells=true:=by
 cases h with
 |agg ho h=>simp_all [V.cells,Value.cells]
 |tup h=>simp_all
 |bool b=>exact⟨.cons (.bool b) .nil,rfl⟩
 |int k n=>exact⟨.cons (.int k n) .nil,rfl⟩
 |str s=>exact⟨.cons (.str s) .nil,rfl⟩
 |list a b c d e f=>exact⟨.cons (.list a b c d e f) .nil,rfl⟩
 |nils=>exact⟨.cons .nils .nil,rfl⟩
 |emp p c=>exact⟨.cons (.emp p c) .nil,rfl⟩
 |ref a b c d=>exact⟨.cons (.ref a b c d) .nil,rfl⟩
 |nilp=>exact⟨.cons .nilp .nil,rfl⟩
 |clo a b=>exact⟨.cons (.clo a b) .nil,rfl⟩
 |nilf=>exact⟨.cons .nilf .nil,rfl⟩
 |ifc a=>exact⟨.cons (.ifc a) .nil,rfl⟩
 |nili=>exact⟨.cons .nili .nil,rfl⟩
 | raw h=>exact⟨by
   have:v.cells.toList=[v]:=by cases v<;>first|rfl|cases h
   rw[this];exact .cons (.raw h) .nil,rfl⟩
theorem Rep.one{x:V}{v:Value}(h:Rep S w x v)(ho:x.one=true):v.oneCell'=true:=by cases h<;>first|rfl|assumption|(simp[V.one]at ho)
theorem RepL.one:∀{x:List V}{v:List Value},RepL S w x v→wX x=true→∀u∈v,u.oneCell'=true
 |_,_,.nil,_,_,hu=>by grind
 | _,_,.cons h t,ho,u,hu=>by
   simp only[wX,List.all_cons,Bool.and_eq_true]at ho;rcases pS.1 hu with rfl|hu
   ·exact h.one ho.1
   ·exact t.one ho.2 u hu
theorem wO7{α:Type}{k:Nat}:∀{es:List (List α)},(∀e∈es,e.length=k)→∀(i:Nat)(e:List α),es[i]? = some e→(es.flatten.drop (i*k)).take k=e
 |[],_,i,e,h=>by grind
 |d::ds,hk,0,e,h=>by simp_all
 |d::ds,hk,i+1,e,h=>by
  simp only[List.getElem?_cons_succ]at h;have hd:=hk d (pQ ..);have ih:=wO7 (fun e h=>hk e (pO _ h)) i e h
  grind [List.flatten_cons,Nat.succ_mul,Nat.add_comm,List.drop_drop,List.drop_left]
theorem wBF{α:Type}{k:Nat}:∀{es:List (List α)},(∀e∈es,e.length=k)→es.flatten.length=es.length*k
 |[],_=>by simp
 |d::ds,hk=>by simp only[List.flatten_cons,List.length_append,List.length_cons,wBF (fun e h=>hk e (List.mem_cons_of_mem _ h)),hk d (List.mem_cons_self ..),Nat.succ_mul];omega
theorem qAF{α:Type}{k:Nat}:∀{es:List (List α)},(∀e∈es,e.length=k)→∀n,(es.drop n).flatten=es.flatten.drop (n*k)
 |[],_,n=>by simp
 |d::ds,hk,0=>by simp
 |d::ds,hk,n+1=>by
  have hd:=hk d (pQ ..);rw[List.drop_succ_cons,qAF (fun e h=>hk e (pO _ h)) n,mT,bS,fW (n*k) k,←mQ]
  simp_all
theorem wJB{α:Type}{k:Nat}:∀{es:List (List α)},(∀e∈es,e.length=k)→∀n,(es.take n).flatten=es.flatten.take (n*k)
 |[],_,n=>by simp
 |d::ds,hk,0=>by simp
 |d::ds,hk,n+1=>by
  have hd:=hk d (pQ ..);rw[pC3,mT,wJB (fun e h=>hk e (pO _ h)) n,mT,bS,gM,mW (l:=d) (by omega)]
  simp_all
theorem Rep.list_shape{es:List (List V)}{v:Value}(h:Rep S w (.list es) v):∃ad cap,v=.slice ad es.length cap:=by
 cases h with
 |list=>simp_all
 |nils=>simp_all
 |emp p c=>simp_all
theorem Rep.list_at{es:List (List V)}{v:Value}(h:Rep S w (.list es) v)(i:Nat)(e:List V)(hi:es[i]? = some e) :
  ∃b off cap,v=.slice (some ⟨b,off,none⟩) es.length cap∧Rep S w (.ref e) (.pointer (some ⟨b,off+i*e.length,none⟩)):=by
 cases h with
 |nils=>grind
 |emp=>grind
 |@list _ _ us b off cap hk ho hc hl hb hu=>
  have hmem:e∈es:=pE hi;rw[hk e hmem];refine⟨b,off,cap,rfl,?_⟩;have hseg:=hl.seg (i*e.length) e.length;rw[hk e hmem,wO7 hk i e hi]at hseg;refine .ref (ho e hmem) hseg (hb (by intro e;subst e;simp at hi)) fun j u hj=>?_
  grind
end
inductive SV where
 |v (x:V)
 |own (id:Nat) (T:TypeId) (k:Nat) (es:List (List V))
 |nils
 |junk
 |bx (d off:Nat)
 |al (d id:Nat)
 |at (d id k i off:Nat)
 |ar (u:Value) (k i off:Nat)
 |rp (d:Nat) (u:Value) (off:Nat)
inductive Cell where
 |sv (x:SV)
 |bx (cs:List SV)
 |fam (T:TypeId) (k:Nat) (L:List (Value×List (List V)))
abbrev St:=List (Nat×Option Cell)
abbrev Fm:=Nat→Option Cell
def lk:St→Nat→Option Cell
 |[],_=>none
 |(k,x)::l,d=>bif Nat.beq k d then x else lk l d
def app:St→Fm→Nat→Option Cell
 |[],f,d=>f d
 |(k,x)::l,f,d=>bif Nat.beq k d then x else app l f d
theorem zN(u st:St):lk (u++st)=app u (lk st):=by
 funext d
 induction u with
 |nil=>rfl
 |cons p u ih=>simp_all [List.cons_append,lk,app]
theorem wC0{k d:Nat}(h:k≠d):Nat.beq k d=false:=by grind [Nat.beq,absurd,Nat.eq_of_beq_eq_true]
theorem yE(k:Nat)(x:Option Cell)(u:St)(f:Fm):app ((k,x)::u) f=fun d=>if d=k then x else app u f d:=by
 funext d;simp only[app];by_cases h:d=k
 ·simp_all
 ·rw[if_neg h];grind [wC0]
def upd(f:Fm)(k:Nat)(x:Option Cell):Fm:=fun d=>if d=k then x else f d
theorem app1(k:Nat)(x:Option Cell)(f:Fm):app [(k,x)] f=upd f k x:=by rw[yE];rfl
theorem upd_same(f:Fm)(k:Nat)(x:Option Cell):upd f k x k=x:=by simp[upd]
theorem upd_ne(f:Fm){k d:Nat}(x:Option Cell)(h:d≠k):upd f k x d=f d:=by simp[upd,h]
def pts:SV→Nat→Nat→Prop
 |.bx d _,K,_=>K=2*d+1
 |.al d id,K,j=>K=2*d∧j=id
 |.at d id _ _ _,K,j=>K=2*d∧j=id
 |.rp d _ _,K,_=>K=2*d+1
 |_,_,_=>False
def plain:SV→Bool
 |.own ..=>false
 |.al ..=>false
 |.at ..=>false
 |_=>true
def wRE:SV→Bool
 |.own ..=>true
 |_=>false
def yR:SV→Bool
 |.v x=>x.one
 |.own ..=>true
 |.nils=>true
 |.junk=>true
 |_=>false
def wC6(f:Fm)(K j:Nat):Prop:=∀d x,f (2*d)=some (.sv x)→¬pts x K j
abbrev Bl:=Nat→Nat→Option Nat
def qM(β:Bl)(b:Nat):Prop:=∀k j,β k j≠some b
def upB(β:Bl)(k j:Nat)(o:Option Nat):Bl:=fun k' j'=>if k'=k∧j'=j then o else β k' j'
theorem j9(β:Bl)(k j:Nat)(o:Option Nat):upB β k j o k j=o:=by simp[upB]
theorem kE(β:Bl){k j k' j':Nat}(o:Option Nat)(h:¬(k'=k∧j'=j)):upB β k j o k' j'=β k' j':=by simp only[upB,if_neg h]
def jE(B0:Nat)(S:Nat→Prop)(w:World)(β:Bl)(key j:Nat):SV→Value→Prop
 |.v x,u=>Rep S w x u
 |.own _ T k es,u=>(∀e∈es,e.length=k∧wX e=true)∧u.ownBlock=β key j∧∃us,w.ownsRow B0 T k u es.length us∧RepL S w es.flatten us
 |.nils,u=>u=.slice none 0 0
 |.junk,_=>True
 |.bx d off,u=>∀B,β (2*d+1) 0=some B→u=.pointer (some ⟨B,off,none⟩)
 |.al _ _,_=>True
 |.at _ _ _ _ _,_=>True
 |.ar r k i off,u=>∃B,r.ownBlock=some B∧u=.pointer (some ⟨B,i*k+off,none⟩)
 |.rp d r off,u=>(∃B,r=.pointer (some ⟨B,0,none⟩)∧u=.pointer (some ⟨B,off,none⟩))∧∀B,β (2*d+1) 0=some B→r=.pointer (some ⟨B,0,none⟩)
def wEC(B0:Nat)(S:Nat→Prop)(w:World)(β:Bl)(K:Nat)(T:TypeId)(k:Nat)(L:List (Value×List (List V))):Prop:=
 (∀p∈L,(∀e∈p.2,e.length=k∧wX e=true)∧(∃us,w.ownsRow B0 T k p.1 p.2.length us∧RepL S w p.2.flatten us)∧∀B,p.1.ownBlock=some B→β K (B+1)=some B) ∧
 L.Pairwise fun p q=>∀B,p.1.ownBlock=some B→q.1.ownBlock≠some B
theorem wN8{w w':World}{B0:Nat}{T:TypeId}{k n:Nat}{v:Value}{us:List Value}(h:w.ownsRow B0 T k v n us)(hg:∀g,v.ownBlock=some g→w'.heap[g]? = w.heap[g]?):w'.ownsRow B0 T k v n us:=by
 refine⟨h.1,?_⟩;rcases h.2 with h|⟨g,cap,cur,rfl,e2,e3,e4⟩
 ·simp_all
 ·exact .inr ⟨g,cap,cur,rfl,e2,(hg g rfl).trans e3,e4⟩
theorem jE.keep{B0:Nat}{S S':Nat→Prop}{w w':World}{β β':Bl}{key j key' j':Nat}{x:SV}{u:Value}(h:jE B0 S w β key j x u)(hS:∀b,S b→b<w.heap.size→S' b∧w'.heap[b]? = w.heap[b]?)(hb:wRE x=true→β' key' j'=β key j)(hw:wRE x=true→∀B,β key j=some B→w'.heap[B]? = w.heap[B]?)(hp:∀K j,pts x K j→∀B,β' K 0=some B→β K 0=some B):jE B0 S' w' β' key' j' x u:=by
 cases x with
 |v x=>exact Rep.keep hS h
 |own id T k es=>obtain⟨h1,h2,us,h3,h4⟩:=h;refine⟨h1,by rw[h2,hb rfl],us,wN8 h3 fun g hg=>hw rfl g (by simp_all),h4.keep hS⟩
 |nils=>exact h
 |junk=>trivial
 |bx d off=>exact fun B hB=>h B (hp _ 0 rfl B hB)
 |al d id=>trivial
 |«at» d id k i off=>trivial
 |ar r k i off=>exact h
 |rp d r off=>exact⟨h.1,fun B hB=>h.2 B (hp _ 0 rfl B hB)⟩
theorem wEC.keep{B0:Nat}{S S':Nat→Prop}{w w':World}{β β':Bl}{K K' k:Nat}{T:TypeId}{L:List (Value×List (List V))}(h:wEC B0 S w β K T k L)(hS:∀b,S b→b<w.heap.size→S' b∧w'.heap[b]? = w.heap[b]?)(hb:∀p∈L,∀B,p.1.ownBlock=some B→β K (B+1)=some B→β' K' (B+1)=some B∧w'.heap[B]? = w.heap[B]?):wEC B0 S' w' β' K' T k L:=by refine⟨fun p hp=>?_,h.2⟩;obtain⟨h1,⟨us,h2,h3⟩,h4⟩:=h.1 p hp;exact⟨h1,⟨us,wN8 h2 fun g hg=>(hb p hp g hg (h4 g hg)).2,h3.keep hS⟩,fun B hB=>(hb p hp B hB (h4 B hB)).1⟩
structure Base extends World where
 old:Nat→Prop
 kp:Nat→Prop
 ro:Option Nat
 lo:Nat
 lole:lo≤heap.size
 mks:Bool
def fresh(w0:Base)(b:Nat):Prop:=w0.heap.size≤b∨¬w0.kp b
structure BelP(w0:Base)(w:World):Prop where
 os:w.os=w0.os
 tape:w.tape=w0.tape
 output:w.output=w0.output
 size:w0.heap.size≤w.heap.size
 block:∀k,k<w0.heap.size→w0.kp k→w.heap[k]? = w0.heap[k]?
theorem BelP.refl(w0:Base):BelP w0 w0.toWorld:=⟨rfl,rfl,rfl,pC _,fun _ _ _=>rfl⟩
theorem BelP.trans{w0:Base}{w w':World}(h:BelP w0 w)(k:Below w.heap.size w w'):BelP w0 w':=
 ⟨k.os.trans h.os,k.tape.trans h.tape,k.output.trans h.output,pD h.size k.size,fun i hi hk=>(k.block i (pT hi h.size)).trans (h.block i hi hk)⟩
theorem BelP.grown{w0:Base}{w w':World}(h:BelP w0 w){row:Option Nat}(hg:w.grownBy w' row)(hr:∀k,row=some k→fresh w0 k):BelP w0 w':=
 ⟨hg.os.trans h.os,hg.tape.trans h.tape,hg.output.trans h.output,pD h.size hg.size,fun i hi hk=>(hg.block i (pT hi h.size) (fun e=>by
  rcases hr i e.symm with h1|h1
  ·omega
  simp_all)).trans (h.block i hi hk)⟩
theorem BelP.below{w0:Base}{w:World}(h:BelP w0 w)(hk:∀b,b<w0.heap.size→w0.kp b):Below w0.heap.size w0.toWorld w:=⟨h.os,h.tape,h.output,h.size,fun k hl=>h.block k hl (hk k hl)⟩
def mark(r:Nat):Deferred:={ target:=.collected r,args:=#[] }
def Mk(w0:Base)(β:Bl)(a:Act)(w:World):Prop:=(w0.mks=true∨a.defers=[])∧(∀d∈a.defers,∃r,d=mark r∧β 0 (r+1)=some r∧w0.heap.size≤r∧w.heap[r]? = some (.deferred (some [])))∧a.defers.Pairwise fun d e=>d≠e
theorem Mk.keep{w0:Base}{β β':Bl}{a a':Act}{w w':World}(h:Mk w0 β a w)(hd:a'.defers=a.defers)(hb:∀r,β 0 (r+1)=some r→w0.heap.size≤r→β' 0 (r+1)=some r∧w'.heap[r]? = w.heap[r]?):Mk w0 β' a' w':=by grind [Mk]
structure HB(w0:Base)(n:Nat)(β:Bl)(f:Fm)(a:Act)(w:World):Prop where
 size:a.tmps.size=n
 dfr:Mk w0 β a w
 bel:BelP w0 w
 inj:∀k j k' j' B,β k j=some B→β k' j'=some B→k=k'∧j=j'
 rng:∀k j B,β k j=some B→(j=0∨k%2=1→fresh w0 B)∧B<w.heap.size
 sp:∀b,b<w0.heap.size→¬w0.old b→w0.kp b→β 0 (b+1)=some b
 spk:∀k j B,β k j=some B→j=0∨k%2=1∨(k=0∧j=B+1)
 od:∀b,b<w0.heap.size→w0.old b→qM β b
 al:∀e d id T k es,f (2*e)=some (.sv (.al d id))→f (2*d)=some (.sv (.own id T k es))→a.tmps.getD e undef=a.tmps.getD d undef
 pt:∀e d id k i off T es B,f (2*e)=some (.sv (.at d id k i off))→f (2*d)=some (.sv (.own id T k es))→β (2*d) 0=some B→a.tmps.getD e undef=.pointer (some ⟨B,i*k+off,none⟩)
 slot:∀d x,f (2*d)=some (.sv x)→jE w0.lo (qM β) w β (2*d) 0 x (a.tmps.getD d undef)
 box:∀d cs,f (2*d+1)=some (.bx cs)→∃(B:Nat)(T:TypeId)(us:List Value),β (2*d+1) 0=some B∧w.heap[B]? = some (.cells us.toArray T (0,0))∧us.length=cs.length ∧
  ∀j x u,cs[j]? = some x→us[j]? = some u→jE w0.lo (qM β) w β (2*d+1) (j+1) x u∧u.oneCell'=true∧yR x=true
 fm:∀d T k L,f (2*d+1)=some (.fam T k L)→wEC w0.lo (qM β) w β (2*d+1) T k L
def Hs(w0:Base)(n:Nat)(f:Fm)(a:Act)(w:World):Prop:=∃β,HB w0 n β f a w
theorem wBA{x:SV}(h:yR x=true)(K j:Nat):¬pts x K j:=by cases x<;>simp[yR,pts]at *
section
variable{w0:Base}{w w':World}{n:Nat}{β:Bl}{f:Fm}{a:Act}
theorem HB.less{f':Fm}(h:HB w0 n β f a w)(hf:∀k c,f' k=some c→f k=some c):HB w0 n β f' a w:=
 ⟨h.size,h.dfr,h.bel,h.inj,h.rng,h.sp,h.spk,h.od,fun e d id T k es e1 e2=>h.al e d id T k es (hf _ _ e1) (hf _ _ e2),fun e d id k i off T es B e1 e2 e3=>h.pt e d id k i off T es B (hf _ _ e1) (hf _ _ e2) e3,fun d x e=>h.slot d x (hf _ _ e),fun d cs e=>h.box d cs (hf _ _ e),fun d T k L e=>h.fm d T k L (hf _ _ e)⟩
theorem HB.base(h:HB w0 n β f a w):w0.heap.size≤w.heap.size:=h.bel.size
theorem HB.grow(h:HB w0 n β f a w)(hw:Below w.heap.size w w'):HB w0 n β f a w' where
 size:=h.size
 dfr:=h.dfr.keep rfl fun r e _=>⟨e,hw.block r (h.rng _ _ _ e).2⟩
 bel:=h.bel.trans hw
 inj:=h.inj
 rng k j B e:=⟨(h.rng k j B e).1,pT (h.rng k j B e).2 hw.size⟩
 sp:=h.sp
 spk:=h.spk
 od:=h.od
 al:=h.al
 pt:=h.pt
 slot d x e:=(h.slot d x e).keep (fun b hb hl=>⟨hb,hw.block b hl⟩) (fun _=>rfl) (fun _ B hB=>hw.block B (h.rng _ _ B hB).2) (fun _ _ _ _ e=>e)
 box d cs e:=by obtain⟨B,T,us,h1,h2,h3,h4⟩:=h.box d cs e;refine⟨B,T,us,h1,(hw.block B (h.rng _ _ B h1).2).trans h2,h3,fun j x u hx hu=>?_⟩;obtain⟨g1,g2,g3⟩:=h4 j x u hx hu;exact⟨g1.keep (fun b hb hl=>⟨hb,hw.block b hl⟩) (fun _=>rfl) (fun _ B hB=>hw.block B (h.rng _ _ B hB).2) (fun _ _ _ _ e=>e),g2,g3⟩
 fm d T k L e:=(h.fm d T k L e).keep (fun b hb hl=>⟨hb,hw.block b hl⟩) fun _ _ B _ hB=>⟨hB,hw.block B (h.rng _ _ B hB).2⟩
theorem x9(a:Act){d:Nat}(hd:d<a.tmps.size)(u:Value)(e:Nat):(a.put (some d) u).tmps.getD e undef=if e=d then u else a.tmps.getD e undef:=by
 simp only[Act.put,Array.getD_eq_getD_getElem?,Array.getElem?_setIfInBounds]
 grind
theorem size_put(a:Act)(d:Option Nat)(u:Value):(a.put d u).tmps.size=a.tmps.size:=by cases d<;>simp[Act.put]
theorem qEH(a:Act)(d:Option Nat)(u:Value):(a.put d u).defers=a.defers:=by cases d<;>rfl
theorem HB.put(h:HB w0 n β f a w){d:Nat}(hd:d<n){x:SV}{u:Value}(hnp:∀id T k es,x=.own id T k es→wC6 f (2*d) id)(hal:∀d' id,x=.al d' id→d'≠d→∀T k es,f (2*d')=some (.sv (.own id T k es))→u=a.tmps.getD d' undef)(hat:∀d' id k i off,x=.at d' id k i off→d'≠d→∀T es B,f (2*d')=some (.sv (.own id T k es))→β (2*d') 0=some B→u=.pointer (some ⟨B,i*k+off,none⟩))(hx:jE w0.lo (qM β) w β (2*d) 0 x u):HB w0 n β (upd f (2*d) (some (.sv x))) (a.put (some d) u) w where
 size:=by rw[size_put,h.size]
 dfr:=h.dfr.keep (qEH _ _ _) fun r e _=>⟨e,rfl⟩
 bel:=h.bel
 inj:=h.inj
 rng:=h.rng
 sp:=h.sp
 spk:=h.spk
 od:=h.od
 al e d' id T k es e1 e2:=by
  rw[x9 a (by rw[h.size];exact hd),x9 a (by rw[h.size];exact hd)];by_cases he:e=d
  ·subst he;rw[upd_same]at e1;cases e1;by_cases hd':d'=e
   ·simp_all
   ·rw[upd_ne _ _ (by omega)]at e2
    simp_all
  ·rw[upd_ne _ _ (by omega)]at e1;by_cases hd':d'=d
   ·subst hd';rw[upd_same]at e2;cases e2;exact absurd ⟨rfl,rfl⟩ (hnp id T k es rfl e _ e1)
   ·rw[upd_ne _ _ (by omega)]at e2;rw[if_neg he,if_neg hd'];exact h.al e d' id T k es e1 e2
 pt e d' id k i off T es B e1 e2 e3:=by
  rw[x9 a (by rw[h.size];exact hd)];by_cases he:e=d
  ·subst he;rw[upd_same]at e1;cases e1;by_cases hd':d'=e
   ·simp_all [absurd,upd_same]
   ·rw[upd_ne _ _ (by omega)]at e2
    grind
  ·rw[upd_ne _ _ (by omega)]at e1;by_cases hd':d'=d
   ·subst hd';rw[upd_same]at e2;cases e2;exact absurd ⟨rfl,rfl⟩ (hnp id T k es rfl e _ e1)
   ·rw[upd_ne _ _ (by omega)]at e2;rw[if_neg he];exact h.pt e d' id k i off T es B e1 e2 e3
 slot e y hy:=by
  rw[x9 a (by rw[h.size];exact hd)];by_cases he:e=d
  ·subst he;rw[upd_same]at hy;cases hy;rw[if_pos rfl];exact hx
  ·rw[upd_ne _ _ (by omega)]at hy;rw[if_neg he];exact h.slot e y hy
 box e cs he:=by rw[upd_ne _ _ (by omega)]at he;exact h.box e cs he
 fm e T k L he:=by rw[upd_ne _ _ (by omega)]at he;exact h.fm e T k L he
theorem HB.putP(h:HB w0 n β f a w){d:Nat}(hd:d<n){x:SV}{u:Value}(hp:plain x=true)(hx:jE w0.lo (qM β) w β (2*d) 0 x u):HB w0 n β (upd f (2*d) (some (.sv x))) (a.put (some d) u) w:=
 h.put hd (by rintro id T k es rfl;cases hp) (by rintro d' id rfl;cases hp) (by rintro d' id k i off rfl;cases hp) hx
theorem HB.putO(h:HB w0 n β f a w){d:Nat}(hd:d<n){id k:Nat}{T:TypeId}{es:List (List V)}{u:Value}(hnp:wC6 f (2*d) id)(hx:jE w0.lo (qM β) w β (2*d) 0 (.own id T k es) u):HB w0 n β (upd f (2*d) (some (.sv (.own id T k es)))) (a.put (some d) u) w:=
 h.put hd (by grind) (by simp_all) (by simp_all) hx
theorem HB.forget(h:HB w0 n β f a w)(d:Option Nat)(u:Value)(hd:∀e,d=some e→e<n):HB w0 n β (match d with|some d=>upd f (2*d) none|none=>f) (a.put d u) w:=by
 cases d with
 |none=>exact h
 | some d=>
  refine⟨by rw[size_put,h.size],h.dfr.keep (qEH _ _ _) fun r e _=>⟨e,rfl⟩,h.bel,h.inj,h.rng,h.sp,h.spk,h.od,fun e d' id T k es e1 e2=>?_,fun e d' id k i off T es B e1 e2 e3=>?_,fun e y hy=>?_,fun e cs he=>?_,fun e T k L he=>?_⟩
  ·dsimp only at e1 e2;rw[x9 a (by rw[h.size];simp_all),x9 a (by rw[h.size];simp_all)];have n1:e≠d:=by rintro rfl;simp_all [upd_same]
   have n2:d'≠d:=by rintro rfl;simp_all [upd_same]
   rw[upd_ne _ _ (by omega)]at e1 e2;rw[if_neg n1,if_neg n2];exact h.al e d' id T k es e1 e2
  ·dsimp only at e1 e2;rw[x9 a (by rw[h.size];simp_all)];have n1:e≠d:=by rintro rfl;simp_all [upd_same]
   have n2:d'≠d:=by rintro rfl;simp_all [upd_same]
   rw[upd_ne _ _ (by omega)]at e1 e2;rw[if_neg n1];exact h.pt e d' id k i off T es B e1 e2 e3
  ·rw[x9 a (by rw[h.size];simp_all)];dsimp only at hy;by_cases he:e=d
   ·simp_all [upd_same]
   ·rw[upd_ne _ _ (by omega)]at hy;rw[if_neg he];exact h.slot e y hy
  ·dsimp only at he;rw[upd_ne _ _ (by omega)]at he;exact h.box e cs he
  ·dsimp only at he;rw[upd_ne _ _ (by omega)]at he;exact h.fm e T k L he
theorem HB.chg{β':Bl}(h:HB w0 n β f a w)(bel:BelP w0 w')(inj:∀k j k' j' B,β' k j=some B→β' k' j'=some B→k=k'∧j=j')(rng:∀k j B,β' k j=some B→(j=0∨k%2=1→fresh w0 B)∧B<w'.heap.size)(sp:∀j b,β 0 (j+1)=some b→β' 0 (j+1)=some b)(hS:∀b,qM β b→b<w.heap.size→qM β' b∧w'.heap[b]? = w.heap[b]?)(ho:∀d id T k es,f (2*d)=some (.sv (.own id T k es))→β' (2*d) 0=β (2*d) 0∧∀B,β (2*d) 0=some B→w'.heap[B]? = w.heap[B]?)(hp:∀d x,f (2*d)=some (.sv x)→∀d',pts x (2*d'+1) 0→∀B,β' (2*d'+1) 0=some B→β (2*d'+1) 0=some B)(hb:∀d cs,f (2*d+1)=some (.bx cs)→β' (2*d+1) 0=β (2*d+1) 0∧∀B,β (2*d+1) 0=some B→w'.heap[B]? = w.heap[B]?)(hc:∀d cs j id T k es,f (2*d+1)=some (.bx cs)→cs[j]? = some (.own id T k es)→β' (2*d+1) (j+1)=β (2*d+1) (j+1)∧∀B,β (2*d+1) (j+1)=some B→w'.heap[B]? = w.heap[B]?)(hm:∀d T k L,f (2*d+1)=some (.fam T k L)→∀B,β (2*d+1) (B+1)=some B→β' (2*d+1) (B+1)=some B∧w'.heap[B]? = w.heap[B]?)(hdf:∀r,β 0 (r+1)=some r→w'.heap[r]? = w.heap[r]?)(spk:∀k j B,β' k j=some B→j=0∨k%2=1∨(k=0∧j=B+1)):HB w0 n β' f a w' where
 size:=h.size
 dfr:=h.dfr.keep rfl fun r e _=>⟨sp r r e,hdf r e⟩
 bel:=bel
 inj:=inj
 rng:=rng
 sp b h1 h2 h3:=sp b b (h.sp b h1 h2 h3)
 spk:=spk
 od b h1 h2:=(hS b (h.od b h1 h2) (pT h1 h.base)).1
 al:=h.al
 pt e d id k i off T es B e1 e2 e3:=h.pt e d id k i off T es B e1 e2 ((ho d id T k es e2).1 ▸ e3)
 slot d x e:=by
  cases x with
  |al d' id=>trivial
  |«at» d' id k i off=>trivial
  |own id T k es=>exact(h.slot d _ e).keep hS (fun _=>(ho d id T k es e).1) (fun _=>(ho d id T k es e).2) (fun _ _ hh=>hh.elim)
  |bx d' off=>exact(h.slot d _ e).keep hS (fun hh=>by cases hh) (fun hh=>by cases hh) (fun K j hh B hB=>by cases hh;exact hp d _ e d' rfl B hB)
  |v x=>exact(h.slot d _ e).keep hS (fun hh=>by cases hh) (fun hh=>by cases hh) (fun _ _ hh=>hh.elim)
  |nils=>exact h.slot d _ e
  |junk=>trivial
  |ar r k i off=>exact h.slot d _ e
  |rp d' r off=>exact(h.slot d _ e).keep hS (fun hh=>by cases hh) (fun hh=>by cases hh) (fun K j hh B hB=>by cases hh;exact hp d _ e d' rfl B hB)
 fm d T k L e:=(h.fm d T k L e).keep hS fun _ _ B _ hB=>hm d T k L e B hB
 box d cs e:=by
  obtain⟨B,T,us,h1,h2,h3,h4⟩:=h.box d cs e;obtain⟨g1,g2⟩:=hb d cs e;refine⟨B,T,us,g1.trans h1,(g2 B h1).trans h2,h3,fun j x u hx hu=>?_⟩;obtain⟨g3,g4,g5⟩:=h4 j x u hx hu;refine⟨g3.keep hS (fun hown=>?_) (fun hown=>?_) (fun K' j' hp=>absurd hp (wBA g5 K' j')),g4,g5⟩
  ·cases x with
   |own id T k es=>grind
   |_=>cases hown
  ·cases x with
   |own id T k es=>grind
   |_=>cases hown
end
def toV1:Value→Option V
 |.bool b=>some (.bool b)
 |.int k n=>some (.int k n)
 |.string s=>some (.str s)
 |.pointer none=>some .nilp
 |.slice none l c=>bif Nat.beq (l+c) 0 then some (.list [])else none
 |.nilFunc=>some .nilf
 |.nilIface=>some .nili
 |_=>none
def toVs:List Value→Option (List V)
 |[]=>some []
 | v::vs=>match toV1 v with
  |none=>none
  |some x=>match toVs vs with
   |none=>none
   |some xs=>some (x::xs)
def toC(v:Value):Option SV:=
 match v with
 |.slice none l c=>bif Nat.beq (l+c) 0 then some .nils else none
 |.agg cs=>match toVs cs.toList with
  |some xs=>some (.v (.agg xs))
  |none=>none
 |v=>match toV1 v with
  |some x=>some (.v x)
  |none=>none
def opv(f:Fm):Operand→Option SV
 |.tmp d=>match f (2*d)with
  |some (.sv x)=>some x
  |_=>none
 |.const v=>toC v
 |.func g=>some (.v (.clo g [] []))
 |.global _=>none
def rdO:Operand→List Nat
 |.tmp d=>[2*d]
 |_=>[]
section
variable{S:Nat→Prop}{w:World}
theorem wU3{v:Value}{x:V}(e:toV1 v=some x):Rep S w x v∧x.one=true:=by
 unfold toV1 at e;split at e<;>first|(cases e;done)|(cases e;exact⟨by constructor,rfl⟩)|skip
 rename_i l c;cases h:Nat.beq (l+c) 0 with
 |false=>simp_all
 |true=>
  rw[h]at e;cases e;have:=pV h;obtain rfl:l=0:=by omega
  obtain rfl:c=0:=by omega
  exact⟨.nils,rfl⟩
theorem wB5:∀{vs:List Value}{xs:List V},toVs vs=some xs→RepL S w xs vs∧wX xs=true
 |[],xs,e=>by cases e;exact⟨.nil,rfl⟩
 | v::vs,xs,e=>by
  simp only[toVs]at e;cases h1:toV1 v with
  |none=>simp_all
  | some x=>
   rw[h1]at e;dsimp only at e;cases h2:toVs vs with
   |none=>simp_all
   |some ys=>rw[h2]at e;cases e;have a:=wU3 (S:=S) (w:=w) h1;have b:=wB5 h2;exact⟨.cons a.1 b.1,by simp_all [wX,List.all_cons,Bool.true_and]⟩
theorem wJ4{v:Value}{x:SV}(e:toC v=some x)(B0:Nat)(β:Bl)(K J:Nat):jE B0 S w β K J x v∧plain x=true:=by
 unfold toC at e;split at e
 ·rename_i l c;cases h:Nat.beq (l+c) 0 with
  |false=>simp_all
  |true=>
   rw[h]at e;cases e;have:=pV h;obtain rfl:l=0:=by omega
   obtain rfl:c=0:=by omega
   exact⟨rfl,rfl⟩
 ·rename_i cs;split at e
  ·rename_i xs h;cases e;obtain⟨h1,h2⟩:=wB5 (S:=S) (w:=w) h;refine⟨?_,rfl⟩;have:=Rep.agg h2 h1;simpa[jE]using this
  grind
 ·split at e
  ·rename_i y h;cases e;exact⟨(wU3 h).1,rfl⟩
  grind
end
theorem wAH{x:SV}(h:plain x=true):wRE x=false:=by cases x<;>first|rfl|cases h
theorem wN{f g:Fm}{x:Operand}(h:∀k∈rdO x,f k=g k):opv f x=opv g x:=by
 cases x with
 |tmp d=>simp_all [opv,rdO]
 |_=>rfl
section
variable{P:Program}{C:Cx}{w0:Base}{w:World}{n:Nat}{β:Bl}{f st:Fm}{a:Act}{o:Oper}
theorem HB.any(h:HB w0 n β f a w){x:Operand}{y:SV}(e:opv f x=some y)(ho:wRE y=false)(K J:Nat):jE w0.lo (qM β) w β K J y (a.eval x):=by
 cases x with
 |tmp d=>
  simp only[opv]at e;split at e
  ·rename_i z hz;cases e;exact(h.slot d _ hz).keep (fun b hb _=>⟨hb,rfl⟩) (fun hh=>by rw[ho]at hh;cases hh) (fun hh=>by rw[ho]at hh;cases hh) (fun _ _ _ _ e=>e)
  grind
 |const v=>exact(wJ4 e _ _ _ _).1
 |func g=>cases e;exact .clo .nil .nil
 |global g=>cases e
theorem HB.val(h:HB w0 n β f a w){x:Operand}{y:V}(e:opv f x=some (.v y)):Rep (qM β) w y (a.eval x):=h.any e rfl 0 0
def asV:SV→Option V
 |.v x=>some x
 |.nils=>some (.list [])
 |_=>none
def opV(f:Fm)(x:Operand):Option V:=
 match opv f x with
 |some y=>asV y
 |none=>none
theorem yN{f g:Fm}{x:Operand}(h:∀k∈rdO x,f k=g k):opV f x=opV g x:=by grind [opV,wN]
theorem HB.valV(h:HB w0 n β f a w){x:Operand}{y:V}(e:opV f x=some y):Rep (qM β) w y (a.eval x):=by
 unfold opV at e;split at e
 ·rename_i z hz;cases z with
  |v x=>cases e;exact h.val hz
  |nils=>cases e;have:=h.any hz rfl 0 0;simp only[jE]at this;rw[this];exact .nils
  |_=>cases e
 grind
def nbx:SV→SV
 |.rp d _ off=>.bx d off
 |x=>x
def opb(f:Fm)(x:Operand):Option SV:=
 match opv f x with
 |some y=>some (nbx y)
 |none=>none
theorem yM{f g:Fm}{x:Operand}(h:∀k∈rdO x,f k=g k):opb f x=opb g x:=by grind [opb,wN]
theorem opb_v{f:Fm}{x:Operand}{y:V}(h:opb f x=some (.v y)):opv f x=some (.v y):=by
 unfold opb at h;split at h
 ·rename_i z hz;cases z<;>first|(cases h;done)|(cases h;exact hz)
 grind
theorem HB.anyb(h:HB w0 n β f a w){x:Operand}{d off:Nat}(e:opb f x=some (.bx d off)):∀B,β (2*d+1) 0=some B→a.eval x=.pointer (some ⟨B,off,none⟩):=by
 unfold opb at e;split at e
 ·rename_i z hz;cases z with
  |bx d' off'=>cases e;exact h.any hz rfl 0 0
  |rp d' r off'=>cases e;obtain⟨⟨B',h1,h2⟩,h3⟩:=h.any hz rfl 0 0;intro B hB;have:=h3 B hB;rw[h1]at this;cases this;exact h2
  |_=>cases e
 grind
def wQ(P:Program)(w0:Base)(n:Nat)(o:Oper)(rd:List Nat)(u:St)(mk:List (Nat×Nat))(st:Fm):Prop:=
 ∀f:Fm,(∀k∈rd,f k=st k)→(∀K∈mk,wC6 f K.1 K.2)→∀(a:Act)(w:World),Hs w0 n f a w→∀(K:Act→World→Prop)(Q:Exit→Act→World→Prop),(∀a' w',Hs w0 n (app u f) a' w'→K a' w')→o.wp P a w K Q
def dput:Option Tmp→Option Cell→St
 |some d,c=>[(2*d,c)]
 |none,_=>[]
def dLt(n:Nat):Option Tmp→Bool
 |some d=>Nat.blt d n
 |none=>true
theorem dLt_lt{n:Nat}{o:Option Tmp}(h:dLt n o=true):∀d,o=some d→d<n:=by
 rintro d rfl
 simp_all [dLt]
theorem HB.dput(h:HB w0 n β f a w){dst:Option Tmp}(hd:dLt n dst=true){x:SV}{u:Value}(ho:plain x=true)(hx:∀K,jE w0.lo (qM β) w β K 0 x u):HB w0 n β (app (dput dst (some (.sv x))) f) (a.put dst u) w:=by
 cases dst with
 |none=>exact h
 |some d=>simp only[Vl.dput,app1];exact h.putP (dLt_lt hd d rfl) ho (hx _)
theorem wF0{rd:List Nat}{x:SV}(hd:dLt n o.dst=true)(ho:plain x=true)(h:∀f:Fm,(∀k∈rd,f k=st k)→∀(β:Bl)(a:Act)(w:World),HB w0 n β f a w→∃u w',(execOp a.eval o).run P w=.ok (.value u) w'∧Below w.heap.size w w'∧∀K,jE w0.lo (qM β) w' β K 0 x u) :
  wQ P w0 n o rd (dput o.dst (some (.sv x))) [] st:=by
 intro f hf _ a w ⟨β,hb⟩ K Q hK;obtain⟨u,w',h1,h2,h3⟩:=h f hf β a w hb;unfold Oper.wp;rw[h1,Oper.upon_value];exact hK _ _ ⟨β,(hb.grow h2).dput hd ho h3⟩
theorem qI{rd:List Nat}{x:V}(hd:dLt n o.dst=true)(h:∀f:Fm,(∀k∈rd,f k=st k)→∀(β:Bl)(a:Act)(w:World),HB w0 n β f a w→∃u,(execOp a.eval o).run P w=.ok (.value u) w∧Rep (qM β) w x u) :
  wQ P w0 n o rd (dput o.dst (some (.sv (.v x)))) [] st:=
 wF0 hd rfl fun f hf β a w hb=>let⟨u,h1,h2⟩:=h f hf β a w hb;⟨u,w,h1,Below.refl _ _,fun _=>h2⟩
theorem qZ{f g:Fm}{x:Operand}{l:List Nat}(h:∀k∈rdO x++l,f k=g k):(∀k∈rdO x,f k=g k)∧∀k∈l,f k=g k:=
 ⟨fun k hk=>h k (cR _ hk),fun k hk=>h k (cH _ hk)⟩
theorem sem_move{x:Operand}{y:SV}(hop:o.op=.move x)(hx:opv st x=some y)(ho:plain y=true)(hd:dLt n o.dst=true):wQ P w0 n o (rdO x) (dput o.dst (some (.sv y))) [] st:=
 wF0 hd ho fun f hf β a w hb=>⟨a.eval x,w,by simp[execOp,hop],Below.refl _ _,fun K=>hb.any (by simp_all [wN]) (wAH ho) K 0⟩
theorem sem_assign{x:Operand}{y:SV}(hop:o.op=.assign x)(hx:opv st x=some y)(ho:plain y=true)(hd:dLt n o.dst=true):wQ P w0 n o (rdO x) (dput o.dst (some (.sv y))) [] st:=
 wF0 hd ho fun f hf β a w hb=>⟨a.eval x,w,by simp[execOp,hop],Below.refl _ _,fun K=>hb.any (by simp_all [wN]) (wAH ho) K 0⟩
theorem jF{op:BinOp}{t yt:TypeId}{x y:Operand}{k:IntKind}{m m' r r':Int}(hop:o.op=.binOp op t x y yt)(hx:opv st x=some (.v (.int k m)))(hy:opv st y=some (.v (.int k m')))(he:wH6 op k m m'=some (.int k r))(hr:r=r')(hd:dLt n o.dst=true):wQ P w0 n o (rdO x++rdO y) (dput o.dst (some (.sv (.v (.int k r'))))) [] st:=
 qI hd fun f hf β a w hb=>by
  obtain⟨h1,h2⟩:=qZ hf;have e1:=hb.val (x:=x) (y:=.int k m) (by simp_all [wN]);have e2:=hb.val (x:=y) (y:=.int k m') (by simp_all [wN]);generalize hu:a.eval x=u at e1;generalize hv:a.eval y=v at e2;cases e1;cases e2;obtain⟨z,hz1,hz2⟩:=wO9 (P:=P) (w:=w) (φ:=fun _=>none) he (by rintro rfl;grind [wH6]) (by rintro rfl;grind [wH6]) t;cases hz2;subst hr;have hg:(eqGuard op t x y (.int k m) (.int k m')).run P w=.ok () w:=by simp_all [eqGuard]
  exact⟨_,by simp_all [execOp],.int _ _⟩
theorem vP{op:BinOp}{t yt:TypeId}{x y:Operand}{k:IntKind}{m m':Int}{b b':Bool}(hop:o.op=.binOp op t x y yt)(hx:opv st x=some (.v (.int k m)))(hy:opv st y=some (.v (.int k m')))(he:wH6 op k m m'=some (.bool b))(hr:b=b')(hd:dLt n o.dst=true):wQ P w0 n o (rdO x++rdO y) (dput o.dst (some (.sv (.v (.bool b'))))) [] st:=
 qI hd fun f hf β a w hb=>by
  obtain⟨h1,h2⟩:=qZ hf;have e1:=hb.val (x:=x) (y:=.int k m) (by simp_all [wN]);have e2:=hb.val (x:=y) (y:=.int k m') (by simp_all [wN]);generalize hu:a.eval x=u at e1;generalize hv:a.eval y=v at e2;cases e1;cases e2;obtain⟨z,hz1,hz2⟩:=wO9 (P:=P) (w:=w) (φ:=fun _=>none) he (by rintro rfl;grind [wH6]) (by rintro rfl;grind [wH6]) t;cases hz2;subst hr;have hg:(eqGuard op t x y (.int k m) (.int k m')).run P w=.ok () w:=by simp_all [eqGuard]
  exact⟨_,by simp_all [execOp],.bool _⟩
theorem sem_quo{t yt:TypeId}{x y:Operand}{k:IntKind}{m m' r':Int}(hop:o.op=.binOp .quo t x y yt)(hx:opv st x=some (.v (.int k m)))(hy:opv st y=some (.v (.int k m')))(h0:m'≠0)(hr:ewrap k (m.tdiv m')=r')(hd:dLt n o.dst=true):wQ P w0 n o (rdO x++rdO y) (dput o.dst (some (.sv (.v (.int k r'))))) [] st:=
 jF hop hx hy (by simp_all [wH6,if_neg]) hr hd
theorem sem_rem{t yt:TypeId}{x y:Operand}{k:IntKind}{m m':Int}(hop:o.op=.binOp .rem t x y yt)(hx:opv st x=some (.v (.int k m)))(hy:opv st y=some (.v (.int k m')))(h0:m'≠0)(hd:dLt n o.dst=true):wQ P w0 n o (rdO x++rdO y) (dput o.dst (some (.sv (.v (.int k (m.tmod m')))))) [] st:=
 jF hop hx hy (by simp_all [wH6,if_neg]) rfl hd
theorem wZF{op:BinOp}{t yt:TypeId}{x y:Operand}{k k':IntKind}{m m' r r':Int}(hop:o.op=.binOp op t x y yt)(hx:opv st x=some (.v (.int k m)))(hy:opv st y=some (.v (.int k' m')))(h:op=.shl∨op=.shr)(he:wLE op k m m'=some (.int k r))(hr:r=r')(hd:dLt n o.dst=true):wQ P w0 n o (rdO x++rdO y) (dput o.dst (some (.sv (.v (.int k r'))))) [] st:=
 qI hd fun f hf β a w hb=>by
  obtain⟨h1,h2⟩:=qZ hf;have e1:=hb.val (x:=x) (y:=.int k m) (by simp_all [wN]);have e2:=hb.val (x:=y) (y:=.int k' m') (by simp_all [wN]);generalize hu:a.eval x=u at e1;generalize hv:a.eval y=v at e2;cases e1;cases e2;obtain⟨z,hz1,hz2⟩:=wQ8 (P:=P) (w:=w) (φ:=fun _=>none) he h t k';cases hz2;subst hr;have hg:(eqGuard op t x y (.int k m) (.int k' m')).run P w=.ok () w:=by simp_all [eqGuard]
  exact⟨_,by simp_all [execOp],.int _ _⟩
theorem vS(hC:CxOk P C){op:BinOp}{t yt:TypeId}{x y:Operand}{p q r:Bool}(hop:o.op=.binOp op t x y yt)(hx:opv st x=some (.v (.bool p)))(hy:opv st y=some (.v (.bool q)))(ht:C.und t=some .bool)(he:(op=.eql∧r=(p==q))∨(op=.neq∧r=!(p==q)))(hd:dLt n o.dst=true):wQ P w0 n o (rdO x++rdO y) (dput o.dst (some (.sv (.v (.bool r))))) [] st:=
 qI hd fun f hf β a w hb=>by
  obtain⟨h1,h2⟩:=qZ hf;have e1:=hb.val (x:=x) (y:=.bool p) (by simp_all [wN]);have e2:=hb.val (x:=y) (y:=.bool q) (by simp_all [wN]);generalize hu:a.eval x=u at e1;generalize hv:a.eval y=v at e2;cases e1;cases e2;have hE:eBin C op t x y (.bool p) (.bool q)=some (.bool r):=by rcases he with⟨rfl,rfl⟩|⟨rfl,rfl⟩<;>simp[eBin,eEq,ht]
  obtain⟨z,hz1,hz2⟩:=eBin_ok (P:=P) (w:=w) (φ:=fun _=>none) hC hE (.bool p) (.bool q);cases hz2;exact⟨.bool r,by simp only[execOp,hop,hu,hv];rw[Sem.run_bind,hz1];rfl,.bool _⟩
theorem sem_not{t:TypeId}{x:Operand}{b:Bool}(hop:o.op=.unOp .not t x)(hx:opv st x=some (.v (.bool b)))(hd:dLt n o.dst=true):wQ P w0 n o (rdO x) (dput o.dst (some (.sv (.v (.bool !b))))) [] st:=
 qI hd fun f hf β a w hb=>by have e1:=hb.val (x:=x) (y:=.bool b) (by simp_all [wN]);generalize hu:a.eval x=u at e1;cases e1;exact⟨.bool !b,by simp_all [execOp,Op.unary],.bool _⟩
theorem qGA{x:Operand}{i:Nat}{vs:List V}{y:V}(hop:o.op=.extract x i)(hx:opv st x=some (.v (.tup vs)))(hi:vs[i]? = some y)(hd:dLt n o.dst=true):wQ P w0 n o (rdO x) (dput o.dst (some (.sv (.v y)))) [] st:=
 qI hd fun f hf β a w hb=>by
  have e1:=hb.val (x:=x) (y:=.tup vs) (by simp_all [wN]);generalize hu:a.eval x=u at e1;cases e1 with
  |tup h=>
   obtain⟨z,h1,h2⟩:=h.get i y hi
   simp_all [execOp,Instr.extract]
theorem sem_iface(hC:CxOk P C){t:TypeId}{d:TypeDesc}{x:Operand}{y:V}(hop:o.op=.makeInterface t x)(hx:opV st x=some y)(ht:C.und t=some d)(hdd:∀ms,d≠.interface ms)(hd:dLt n o.dst=true) :
  wQ P w0 n o (rdO x) (dput o.dst (some (.sv (.v (.ifc t y))))) [] st:=
 qI hd fun f hf β a w hb=>by have e1:=hb.valV (x:=x) (y:=y) (by rw[yN hf];exact hx);refine⟨.iface t (a.eval x),?_,.ifc e1⟩;simp only[execOp,hop,Instr.makeInterface,Sem.run_bind,wP hC ht,Result.andThen_ok];rfl
theorem qJ(hC:CxOk P C){s t:TypeId}{x:Operand}{k k':IntKind}{m r:Int}(hop:o.op=.convert s t x)(hx:opv st x=some (.v (.int k m)))(hs:C.und s=some (.int k))(ht:C.und t=some (.int k'))(hr:ewrap k' m=r)(hd:dLt n o.dst=true):wQ P w0 n o (rdO x) (dput o.dst (some (.sv (.v (.int k' r))))) [] st:=
 qI hd fun f hf β a w hb=>by have e1:=hb.val (x:=x) (y:=.int k m) (by simp_all [wN]);generalize hu:a.eval x=u at e1;cases e1;subst hr;exact⟨.int k' (ewrap k' m),by simp[execOp,hop,hu,convert,wP hC hs,wP hC ht,Conv.intToInt,jA],.int _ _⟩
theorem qG6{q x y:Operand}{b:Bool}{z:SV}(hop:o.op=.pick q x y)(hq:opv st q=some (.v (.bool b)))(hz:opv st (if b then x else y)=some z)(ho:plain z=true)(hd:dLt n o.dst=true) :
  wQ P w0 n o (rdO q++(rdO x++rdO y)) (dput o.dst (some (.sv z))) [] st:=
 wF0 hd ho fun f hf β a w hb=>by
  obtain⟨h1,h2⟩:=qZ hf;obtain⟨h3,h4⟩:=qZ h2;have e1:=hb.val (x:=q) (y:=.bool b) (by rw[wN h1];exact hq);generalize hu:a.eval q=u at e1;cases e1;refine⟨a.eval (if b then x else y),w,?_,Below.refl _ _,fun K=>hb.any ?_ (wAH ho) K 0⟩
  ·cases b<;>simp[execOp,hop,hu,asBool]
  grind [wN]
end
section
variable{P:Program}{C:Cx}{w0:Base}{w w':World}{n:Nat}{β:Bl}{f:Fm}{a:Act}
theorem HB.bind(h:HB w0 n β f a w)(hw:Below w.heap.size w w'){K:Nat}{o:Option Nat}(ho:∀B,o=some B→w.heap.size≤B∧B<w'.heap.size)(hf:f K=none)(hn:wC6 f K 0):HB w0 n (upB β K 0 o) f a w':=by
 have hval:∀k j B,upB β K 0 o k j=some B→(k=K∧j=0∧o=some B)∨β k j=some B:=by grind [upB]
 have hold:∀B,B<w.heap.size→w'.heap[B]? = w.heap[B]?:=fun B hB=>hw.block B hB;refine h.chg (h.bel.trans hw) ?_ ?_ (fun j b e=>(kE _ _ (fun hh=>by omega)).trans e) ?_ ?_ ?_ ?_ ?_ (fun d T k L e B hB=>⟨by simp_all [kE],hold B (h.rng _ _ _ hB).2⟩) (fun r e=>hold r (h.rng _ _ _ e).2) (fun k j B e=>(hval _ _ _ e).elim (fun hh=>.inl hh.2.1) (h.spk _ _ _))
 ·intro k j k' j' B h1 h2;rcases hval _ _ _ h1 with⟨rfl,rfl,e1⟩|e1<;>rcases hval _ _ _ h2 with⟨rfl,rfl,e2⟩|e2
  ·omega
  ·have:=(h.rng _ _ _ e2).2;grind
  ·have:=(h.rng _ _ _ e1).2;grind
  ·exact h.inj _ _ _ _ _ e1 e2
 ·intro k j B h1;rcases hval _ _ _ h1 with⟨rfl,rfl,e1⟩|e1
  ·have:=(ho _ e1);have:=h.base;exact⟨fun _=>.inl (by omega),by omega⟩
  ·have this':=(h.rng _ _ _ e1);grind
 ·intro b hb hl;refine⟨fun k j e=>?_,hold b hl⟩;rcases hval _ _ _ e with⟨rfl,rfl,e1⟩|e1
  ·grind
  ·exact hb k j e1
 ·intro d id T k es e;refine⟨kE _ _ (fun hh=>by simp_all),fun B hB=>hold B (h.rng _ _ _ hB).2⟩
 ·intro d x e d' hx B hB;rcases hval _ _ _ hB with⟨rfl,_,_⟩|e1
  ·exact absurd hx (hn d _ e)
  omega
 ·intro d cs e;refine⟨kE _ _ (fun hh=>by simp_all),fun B hB=>hold B (h.rng _ _ _ hB).2⟩
 ·intro d cs j id T k es e hj;exact⟨kE _ _ (fun hh=>by omega),fun B hB=>hold B (h.rng _ _ _ hB).2⟩
def wD8(f:Fm)(K J:Nat):Prop:=if J=0 then f K=none else(∀cs x,f K=some (.bx cs)→cs[J-1]? = some x→wRE x=false)∧∀T k L,f K≠some (.fam T k L)
theorem wOC{K:Nat}(h:f K=none):wD8 f K 0:=by simp_all [wD8,if_true]
theorem deadS{K J:Nat}(h:f K=none):wD8 f K J:=by simp_all [wD8]
theorem HB.xfer(h:HB w0 n β f a w){K1 J1 K2 J2:Nat}{o:Option Nat}(hg:w.grownBy w' (β K1 J1))(ho:o=β K1 J1∨∀B,o=some B→w.heap.size≤B∧B<w'.heap.size)(hd1:wD8 f K1 J1)(hd2:wD8 f K2 J2)(hn:J2=0→wC6 f K2 0)(hk1:J1=0∨K1%2=1:=by omega)(hk2:J2=0∨K2%2=1:=by omega):HB w0 n (upB (upB β K1 J1 none) K2 J2 o) f a w':=by
 have hval:∀k j B,upB (upB β K1 J1 none) K2 J2 o k j=some B→(k=K2∧j=J2∧o=some B)∨(β k j=some B∧¬(k=K1∧j=J1)∧¬(k=K2∧j=J2)):=by grind [upB]
 have hold:∀k j B,β k j=some B→¬(k=K1∧j=J1)→w'.heap[B]? = w.heap[B]?:=fun k j B hB hne=>hg.block B (h.rng _ _ _ hB).2 (fun e=>hne (h.inj _ _ _ _ _ hB e.symm));have hrow:∀k,β K1 J1=some k→fresh w0 k:=fun k hk=>(h.rng _ _ _ hk).1 hk1;refine h.chg (h.bel.grown hg hrow) ?_ ?_ (fun j b e=>by grind [kE]) ?_ ?_ ?_ ?_ ?_ (fun d T k L e B hB=>by
  have n1:¬(2*d+1=K1∧B+1=J1):=fun hh=>by obtain⟨rfl,rfl⟩:=hh;simp only[wD8,if_neg (show ¬(B+1=0) by omega)]at hd1;exact hd1.2 T k L e
  have n2:¬(2*d+1=K2∧B+1=J2):=fun hh=>by obtain⟨rfl,rfl⟩:=hh;simp only[wD8,if_neg (show ¬(B+1=0) by omega)]at hd2;exact hd2.2 T k L e
  grind [kE]) (fun r e=>hold _ _ r e (by omega)) (fun k j B e=>(hval _ _ _ e).elim (fun hh=>by omega) (fun hh=>h.spk _ _ _ hh.1))
 ·intro k j k' j' B h1 h2;rcases hval _ _ _ h1 with⟨rfl,rfl,e1⟩|⟨e1,n1,_⟩<;>rcases hval _ _ _ h2 with⟨rfl,rfl,e2⟩|⟨e2,n2,_⟩
  ·omega
  ·rcases ho with ho|ho
   ·rw[ho]at e1;exact absurd (h.inj _ _ _ _ _ e2 e1) n2
   grind
  ·rcases ho with ho|ho
   ·rw[ho]at e2;exact absurd (h.inj _ _ _ _ _ e1 e2) n1
   grind
  ·exact h.inj _ _ _ _ _ e1 e2
 ·intro k j B h1;have hsz:=hg.size;rcases hval _ _ _ h1 with⟨rfl,rfl,e1⟩|⟨e1,_⟩
  ·rcases ho with ho|ho
   ·rw[ho]at e1;have:=h.rng _ _ _ e1;grind
   ·have:=(ho _ e1);have:=h.base;exact⟨fun _=>.inl (by omega),by omega⟩
  ·have:=(h.rng _ _ _ e1);grind
 ·intro b hb hl;refine⟨fun k j e=>?_,hg.block b hl (fun e=>hb _ _ e.symm)⟩;rcases hval _ _ _ e with⟨rfl,rfl,e1⟩|⟨e1,_⟩
  ·rcases ho with ho|ho
   ·rw[ho]at e1;exact hb _ _ e1
   grind
  ·exact hb k j e1
 ·intro d id T k es e;have n1:¬(2*d=K1∧0=J1):=fun hh=>by
   obtain⟨rfl,rfl⟩:=hh;simp only[wD8,if_true]at hd1;rw[hd1]at e;cases e
  have n2:¬(2*d=K2∧0=J2):=fun hh=>by obtain⟨rfl,rfl⟩:=hh;simp only[wD8,if_true]at hd2;rw[hd2]at e;cases e
  grind [kE]
 ·intro d x e d' hx B hB;rcases hval _ _ _ hB with⟨rfl,hj,_⟩|⟨e1,_⟩
  ·exact absurd hx (hn hj.symm d _ e)
  omega
 ·intro d cs e;have n1:¬(2*d+1=K1∧0=J1):=fun hh=>by
   obtain⟨rfl,rfl⟩:=hh;simp only[wD8,if_true]at hd1;rw[hd1]at e;cases e
  have n2:¬(2*d+1=K2∧0=J2):=fun hh=>by obtain⟨rfl,rfl⟩:=hh;simp only[wD8,if_true]at hd2;rw[hd2]at e;cases e
  grind [kE]
 ·intro d cs j id T k es e hj;have n1:¬(2*d+1=K1∧j+1=J1):=fun hh=>by
   obtain⟨rfl,rfl⟩:=hh;simp only[wD8,if_neg (show ¬(j+1=0) by omega)]at hd1;have:=hd1.1 cs _ e (by simpa using hj);cases this
  have n2:¬(2*d+1=K2∧j+1=J2):=fun hh=>by obtain⟨rfl,rfl⟩:=hh;simp only[wD8,if_neg (show ¬(j+1=0) by omega)]at hd2;have:=hd2.1 cs _ e (by simpa using hj);cases this
  grind [kE]
theorem HB.touch(h:HB w0 n β f a w){K:Nat}(hg:w.grownBy w' (β K 0))(hf:f K=none):HB w0 n β f a w':=by
 have hold:∀k j B,β k j=some B→¬(k=K∧j=0)→w'.heap[B]? = w.heap[B]?:=fun k j B hB hne=>hg.block B (h.rng _ _ _ hB).2 (fun e=>hne (h.inj _ _ _ _ _ hB e.symm));refine h.chg (h.bel.grown hg fun k hk=>(h.rng _ _ _ hk).1 (.inl rfl)) h.inj (fun k j B e=>⟨(h.rng _ _ _ e).1,pT (h.rng _ _ _ e).2 hg.size⟩) (fun _ _ e=>e)
  (fun b hb hl=>⟨hb,hg.block b hl (fun e=>hb _ _ e.symm)⟩) ?_ (fun _ _ _ _ _ _ e=>e) ?_ ?_ (fun d T k L e B hB=>⟨hB,hold _ _ B hB (fun hh=>by omega)⟩) (fun r e=>hold _ _ r e (fun hh=>by omega)) h.spk
 ·intro d id T k es e;exact⟨rfl,fun B hB=>hold _ _ B hB (fun hh=>by rw[hh.1,hf]at e;cases e)⟩
 ·intro d cs e;exact⟨rfl,fun B hB=>hold _ _ B hB (fun hh=>by rw[hh.1,hf]at e;cases e)⟩
 grind
theorem HB.reslot(h:HB w0 n β f a w){d:Nat}{x:SV}(hp:plain x=true)(hx:jE w0.lo (qM β) w β (2*d) 0 x (a.tmps.getD d undef)):HB w0 n β (upd f (2*d) (some (.sv x))) a w where
 size:=h.size
 dfr:=h.dfr
 bel:=h.bel
 inj:=h.inj
 rng:=h.rng
 sp:=h.sp
 spk:=h.spk
 od:=h.od
 al e d' id T k es e1 e2:=by
  have n1:e≠d:=by rintro rfl;rw[upd_same]at e1;cases e1;cases hp
  have n2:d'≠d:=by rintro rfl;rw[upd_same]at e2;cases e2;cases hp
  rw[upd_ne _ _ (by omega)]at e1 e2;exact h.al e d' id T k es e1 e2
 pt e d' id k i off T es B e1 e2 e3:=by
  have n1:e≠d:=by rintro rfl;rw[upd_same]at e1;cases e1;cases hp
  have n2:d'≠d:=by rintro rfl;rw[upd_same]at e2;cases e2;cases hp
  rw[upd_ne _ _ (by omega)]at e1 e2;exact h.pt e d' id k i off T es B e1 e2 e3
 slot e y hy:=by
  by_cases he:e=d
  ·simp_all [upd_same]
  ·rw[upd_ne _ _ (by omega)]at hy;exact h.slot e y hy
 box e cs he:=by rw[upd_ne _ _ (by omega)]at he;exact h.box e cs he
 fm e T k L he:=by rw[upd_ne _ _ (by omega)]at he;exact h.fm e T k L he
theorem HB.rebox(h:HB w0 n β f a w){d B:Nat}{T:TypeId}{us:List Value}{cs:List SV}(h1:β (2*d+1) 0=some B)(h2:w.heap[B]? = some (.cells us.toArray T (0,0)))(h3:us.length=cs.length)(h4:∀j x u,cs[j]? = some x→us[j]? = some u→jE w0.lo (qM β) w β (2*d+1) (j+1) x u∧u.oneCell'=true∧yR x=true):HB w0 n β (upd f (2*d+1) (some (.bx cs))) a w where
 size:=h.size
 dfr:=h.dfr
 bel:=h.bel
 inj:=h.inj
 rng:=h.rng
 sp:=h.sp
 spk:=h.spk
 od:=h.od
 al e d' id T k es e1 e2:=by rw[upd_ne _ _ (by omega)]at e1 e2;exact h.al e d' id T k es e1 e2
 pt e d' id k i off T es B e1 e2 e3:=by rw[upd_ne _ _ (by omega)]at e1 e2;exact h.pt e d' id k i off T es B e1 e2 e3
 slot e y hy:=by rw[upd_ne _ _ (by omega)]at hy;exact h.slot e y hy
 box e cs' he:=by
  by_cases hed:e=d
  ·grind [upd_same]
  ·rw[upd_ne _ _ (by omega)]at he;exact h.box e cs' he
 fm e T k L he:=by
  by_cases hed:e=d
  ·simp_all [upd_same]
  ·rw[upd_ne _ _ (by omega)]at he;exact h.fm e T k L he
theorem HB.drop(h:HB w0 n β f a w)(K:Nat):HB w0 n β (upd f K none) a w:=h.less fun k c e=>by simp_all [upd]
theorem wC6.drop{K j:Nat}(h:wC6 f K j)(K':Nat):wC6 (upd f K' none) K j:=fun d x e=>by
 unfold upd at e;split at e
 ·cases e
 ·exact h d x e
theorem wMD(f:Fm)(k:Nat)(x y:Option Cell):upd (upd f k x) k y=upd f k y:=by grind [upd]
theorem jP(w:World)(row:Option Nat):w.grownBy w row:=⟨rfl,rfl,rfl,pC _,fun _ _ _=>rfl⟩
theorem wG1(w:World)(g:Nat)(cs:Array Value):w.grownBy (w.setRow g cs) (some g):=⟨rfl,rfl,rfl,by simp,fun k _ hk=>setRow_other w g k _ (fun e=>hk (by simp[e]))⟩
theorem HB.unbind(h:HB w0 n β f a w){K J:Nat}(hd1:wD8 f K J)(hk1:J=0∨K%2=1:=by omega):HB w0 n (upB β K J none) f a w:=by
 have hval:∀k j B,upB β K J none k j=some B→β k j=some B∧¬(k=K∧j=J):=by simp_all [upB]
 refine h.chg h.bel (fun k j k' j' B h1 h2=>h.inj _ _ _ _ _ (hval _ _ _ h1).1 (hval _ _ _ h2).1) (fun k j B h1=>h.rng _ _ _ (hval _ _ _ h1).1) (fun j b e=>(kE _ _ (fun hh=>by omega)).trans e) (fun b hb hl=>⟨fun k j e=>hb k j (hval _ _ _ e).1,rfl⟩) ?_ (fun d x e d' hx B hB=>(hval _ _ _ hB).1) ?_ ?_ (fun d T k L e B hB=>⟨by
   rw[kE _ _ (fun hh=>by obtain⟨rfl,rfl⟩:=hh;simp only[wD8,if_neg (show ¬(B+1=0) by omega)]at hd1;exact hd1.2 T k L e)]
   exact hB,rfl⟩) (fun _ _=>rfl) (fun k j B e=>h.spk _ _ _ (hval _ _ _ e).1)
 ·intro d id T k es e;refine⟨kE _ _ fun hh=>?_,fun _ _=>rfl⟩;obtain⟨rfl,rfl⟩:=hh;simp only[wD8,if_true]at hd1;rw[hd1]at e;cases e
 ·intro d cs e;refine⟨kE _ _ fun hh=>?_,fun _ _=>rfl⟩;obtain⟨rfl,rfl⟩:=hh;simp only[wD8,if_true]at hd1;rw[hd1]at e;cases e
 ·intro d cs j id T k es e hj;refine⟨kE _ _ fun hh=>?_,fun _ _=>rfl⟩;obtain⟨rfl,rfl⟩:=hh;simp only[wD8,if_neg (show ¬(j+1=0) by omega)]at hd1;have:=hd1.1 cs _ e (by simpa using hj);cases this
theorem wSI{B0:Nat}{S S':Nat→Prop}{K J id:Nat}{T:TypeId}{k:Nat}{es:List (List V)}{u:Value}(h:jE B0 S w β K J (.own id T k es) u)(hS:∀b,S b→S' b)(hB:∀B,β K J=some B→S' B):Rep S' w (.list es) u:=by
 obtain⟨h1,h2,us,h3,h4⟩:=h;rcases h3.2 with⟨rfl,h0⟩|⟨g,cap,cur,rfl,hb,hg,hc,hm,hs,ht⟩
 ·obtain rfl:es=[]:=pN h0;exact .nils
 ·refine .list (fun e he=>(h1 e he).1) (fun e he=>(h1 e he).2) hc (h4.mono fun b hb _=>hS b hb) (fun _=>⟨hB g (by rw[←h2];rfl),(pU.1 hg).1⟩) fun j u hu=>?_;rw[cell_of_row w g _ cur T (0,0) hg,cL]
  grind
theorem qDC{B0:Nat}{S:Nat→Prop}{K J id:Nat}{T:TypeId}{k:Nat}{es:List (List V)}{u:Value}(h:jE B0 S w β K J (.own id T k es) u):∃ad cap,u=.slice ad es.length cap:=by
 obtain⟨h1,h2,us,h3,h4⟩:=h;rcases h3.2 with⟨rfl,h0⟩|⟨g,cap,cur,rfl,_⟩
 ·exact⟨none,0,by rw[h0]⟩
 simp_all
theorem HB.freeze(h:HB w0 n β f a w){d id:Nat}{T:TypeId}{k:Nat}{es:List (List V)}(e:f (2*d)=some (.sv (.own id T k es))):HB w0 n (upB β (2*d) 0 none) (upd f (2*d) (some (.sv (.v (.list es))))) a w:=by
 have hs:=h.slot d _ e;have h5:=(h.drop (2*d)).unbind (K:=2*d) (J:=0) (wOC (upd_same _ _ _));have:=h5.reslot (d:=d) (x:=.v (.list es)) rfl (wSI hs (fun b hb k j e=>?_) fun B hB k j e=>?_)
 ·grind [wMD]
 ·unfold upB at e;split at e
  ·cases e
  ·exact hb _ _ e
 ·unfold upB at e;split at e
  ·cases e
  ·rename_i hne;exact hne (h.inj _ _ _ _ _ e hB)
def asVs:List SV→Option (List V)
 |[]=>some []
 |.v x::l=>match asVs l with
  |some r=>some (x::r)
  |none=>none
 |.nils::l=>match asVs l with
  |some r=>some (.list []::r)
  |none=>none
 |.own _ _ _ es::l=>match asVs l with
  |some r=>some (.list es::r)
  |none=>none
 |_::_=>none
theorem wXI{B0:Nat}{S S':Nat→Prop}{K:Nat}(hS:∀b,S b→S' b):∀{cs:List SV}{us:List Value}{r:List V}{J:Nat},asVs cs=some r→us.length=cs.length→
  (∀j x u,cs[j]? = some x→us[j]? = some u→jE B0 S w β K (J+j) x u∧u.oneCell'=true∧yR x=true)→(∀j B,β K (J+j)=some B→S' B)→RepL S' w r us∧wX r=true
 |[],[],r,J,e,_,_,_=>by cases e;exact⟨.nil,rfl⟩
 |[],_::_,_,_,_,h,_,_=>by grind
 |_::_,[],_,_,_,h,_,_=>by grind
 | x::cs,u::us,r,J,e,hl,h,hB=>by
  have h0:=h 0 x u rfl rfl;have ih:∀r',asVs cs=some r'→RepL S' w r' us∧wX r'=true:=fun r' e'=>wXI hS (J:=J+1) e' (by simp_all)
   (fun j x u hx hu=>by have:=h (j+1) x u (by simp_all) (by simp_all);rwa [show J+(j+1)=J+1+j by omega]at this)
   (fun j B hb=>hB (j+1) B (by grind))
  cases x with
  |v x=>
   simp only[asVs]at e;split at e
   ·rename_i r' hr;cases e;obtain⟨g1,g2⟩:=ih r' hr;exact⟨.cons (Rep.mono h0.1 fun b hb _=>hS b hb) g1,by simp only[wX,List.all_cons];rw[show x.one=true from h0.2.2];exact g2⟩
   grind
  |nils=>
   simp only[asVs]at e;split at e
   ·rename_i r' hr;cases e;obtain⟨g1,g2⟩:=ih r' hr;have:=h0.1;simp only[jE]at this;subst this;exact⟨.cons .nils g1,by simp only[wX,List.all_cons,V.one,Bool.true_and];exact g2⟩
   grind
  |own id T k es=>
   simp only[asVs]at e;split at e
   ·rename_i r' hr;cases e;obtain⟨g1,g2⟩:=ih r' hr;exact⟨.cons (wSI h0.1 hS fun B hb=>hB 0 B hb) g1,by simp only[wX,List.all_cons,V.one,Bool.true_and];exact g2⟩
   grind
  |junk=>cases e
  |bx d off=>cases e
  |al d id=>cases e
  |«at» d id k i off=>cases e
  |ar r k i off=>cases e
  |rp d r off=>cases e
end
section
variable{P:Program}{C:Cx}{w0:Base}{w:World}{n:Nat}{β:Bl}{f st:Fm}{a:Act}{o:Oper}
def toCs:List Value→Option (List SV)
 |[]=>some []
 | v::vs=>match toC v with
  |some x=>match toCs vs with
   |some xs=>bif yR x then some (x::xs)else none
   |none=>none
  |none=>none
theorem qFH{S:Nat→Prop}{B0:Nat}{K:Nat}:∀{us:List Value}{cs:List SV},toCs us=some cs→us.length=cs.length∧∀j x u,cs[j]? = some x→us[j]? = some u→jE B0 S w β K (j+1) x u∧u.oneCell'=true∧yR x=true
 |[],cs,e=>by cases e;simp_all
 | v :: vs,cs,e=>by
  simp only[toCs]at e;split at e
  ·rename_i x hx;split at e
   ·rename_i xs hxs;cases hk:yR x with
    |false=>rw[hk]at e;cases e
    | true =>
     rw[hk]at e;cases e;have ih:=qFH (S:=S) (B0:=B0) (K:=K) hxs;refine⟨by simp[ih.1],fun j y u hy hu=>?_⟩;have hone:∀(j:Nat)(u:Value),toC v=some x→v.oneCell'=true:=by
      intro _ _ h;cases v<;>first|rfl|skip
      ·rename_i cs';unfold toC at h;dsimp only at h;split at h
       ·cases h;cases hk
       ·cases h
      ·cases h
     cases j with
     |zero=>cases hy;cases hu;exact⟨(wJ4 hx _ _ _ _).1,hone 0 v hx,hk⟩
     | succ j=>
      obtain⟨g1,g2,g3⟩:=ih.2 j y u hy hu;refine⟨?_,g2,g3⟩;have hno:∀us cs,toCs us=some cs→∀(j:Nat)(y:SV),cs[j]? = some y→wRE y=false∧∀Z z,¬pts y Z z:=by
       intro us
       induction us with
       |nil=>intro cs e j y hy;cases e;simp at hy
       | cons q qs ihq=>
        intro cs e j y hy;simp only[toCs]at e;split at e
        ·rename_i z hz;split at e
         ·rename_i zs hzs;cases hkz:yR z with
          |false=>rw[hkz]at e;cases e
          |true=>
           rw[hkz]at e;cases e;cases j with
           |zero=>cases hy;exact⟨wAH (wJ4 (S:=fun _=>True) (w:=default) hz 0 (fun _ _=>none) 0 0).2,wBA hkz⟩
           |succ j=>exact ihq zs hzs j y (by simpa using hy)
         ·cases e
        ·cases e
      have:=hno vs xs hxs j y hy;exact g1.keep (fun b hb _=>⟨hb,rfl⟩) (fun hh=>by rw[this.1]at hh;cases hh) (fun hh=>by rw[this.1]at hh;cases hh) (fun Z z hZ=>absurd hZ (this.2 Z z))
   ·cases e
  grind
theorem HB.newBox(h:HB w0 n β f a w){d:Nat}(hd:d<n)(hn:wC6 f (2*d+1) 0){us:List Value}{cs:List SV}(T:TypeId)(hl:us.length=cs.length)(hc:∀(j:Nat)(x:SV)(u:Value),cs[j]? = some x→us[j]? = some u→∀β':Bl,jE w0.lo (qM β) w β' (2*d+1) (j+1) x u∧u.oneCell'=true∧yR x=true)(ho:∀(j:Nat)(x:SV),cs[j]? = some x→wRE x=false) :
  Hs w0 n (app [(2*d,some (.sv (.bx d 0))),(2*d+1,some (.bx cs))] f) (a.put (some d) (.pointer (some ⟨w.heap.size,0,none⟩))) (w.alloc (.cells us.toArray T)):=by
 have hal:Below w.heap.size w (w.alloc (.cells us.toArray T)):=(Below.refl _ _).alloc (pC _) _;have h1:=(h.drop (2*d+1)).bind (K:=2*d+1) (o:=some w.heap.size) hal (fun B e=>by cases e;exact⟨pC _,by simp⟩) (upd_same _ _ _) (hn.drop _);have h2:=h1.rebox (d:=d) (B:=w.heap.size) (T:=T) (us:=us) (cs:=cs) (j9 _ _ _ _) (by rw[heap_alloc_new]) hl fun j x u hx hu=>by
  obtain⟨g1,g2,g3⟩:=hc j x u hx hu (upB β (2*d+1) 0 (some w.heap.size));refine⟨g1.keep (fun b hb hl=>⟨fun k j e=>?_,hal.block b hl⟩) (fun _=>rfl) (fun hh=>by rw[ho j x hx]at hh;cases hh) (fun _ _ _ _ e=>e),g2,g3⟩;unfold upB at e;split at e
  ·cases e;omega
  ·exact hb k j e
 have h3:=h2.putP (d:=d) hd (x:=.bx d 0) rfl (u:=.pointer (some ⟨w.heap.size,0,none⟩)) (fun B hB=>by rw[j9]at hB;cases hB;rfl);refine⟨_,h3.less fun k c e=>?_⟩;rw[yE,app1]at e
 simp_all [upd,if_neg,if_pos]
theorem toCs_no:∀{us:List Value}{cs:List SV},toCs us=some cs→∀(j:Nat)(y:SV),cs[j]? = some y→wRE y=false
 |[],cs,e,j,y,hy=>by cases e;grind
 | q :: qs,cs,e,j,y,hy=>by
  simp only[toCs]at e;split at e
  ·rename_i z hz;split at e
   ·rename_i zs hzs;cases hkz:yR z with
    |false=>rw[hkz]at e;cases e
    |true=>
     rw[hkz]at e;cases e;cases j with
     |zero=>cases hy;exact wAH (wJ4 (S:=fun _=>True) (w:=default) hz 0 (fun _ _=>none) 0 0).2
     |succ j=>exact toCs_no hzs j y (by simpa using hy)
   ·cases e
  grind
theorem sem_alloc(hC:CxOk P C){t:TypeId}{i:TypeInfo}{z:Value}{cs:List SV}{d:Nat}(hop:o.op=.alloc t)(hi:C.tys.get t=some i)(hz:i.zero=some z)(hc:toCs z.cells.toList=some cs)(hdst:o.dst=some d)(hd:Nat.blt d n=true) :
  wQ P w0 n o [] [(2*d,some (.sv (.bx d 0))),(2*d+1,some (.bx cs))] [(2*d+1,0)] st:=by
 intro f hf hn a w ⟨β,hb⟩ K Q hK;have hr:=fun β':Bl=>qFH (w:=w) (β:=β') (S:=qM β) (B0:=w0.lo) (K:=2*d+1) hc;have:=hb.newBox (d:=d) (by simpa using hd) (hn (2*d+1,0) (by simp)) t (hr β).1 (fun j x u hx hu β'=>(hr β').2 j x u hx hu) (toCs_no hc);unfold Oper.wp;have hrun:(execOp a.eval o).run P w=.ok (.value (.pointer (some ⟨w.heap.size,0,none⟩))) (w.alloc (.cells z.cells t)):=by simp[execOp,hop,Instr.alloc,zeroValue,typeInfo,hC.tys _ _ hi,hz,newVar,newRow]
 simp_all [Oper.upon_value]
theorem sem_box{t:TypeId}{x:Operand}{y:V}{d:Nat}(hop:o.op=.box t x)(hx:opV st x=some y)(hnt:∀cs,y≠.tup cs)(hdst:o.dst=some d)(hd:Nat.blt d n=true) :
  wQ P w0 n o (rdO x) [(2*d,some (.sv (.bx d 0))),(2*d+1,some (.bx (y.cells.map .v)))] [(2*d+1,0)] st:=by
 intro f hf hn a w ⟨β,hb⟩ K Q hK;have hv:=hb.valV (x:=x) (y:=y) (by rw[yN hf];exact hx);obtain⟨h1,h2⟩:=hv.cells hnt;have hl:=h1.length;have:=hb.newBox (d:=d) (by simpa using hd) (hn (2*d+1,0) (by simp)) t (us:=(a.eval x).cells.toList) (cs:=y.cells.map .v) (by simp[hl]) (fun j z u hz hu β'=>by
   rw[pW]at hz;cases hq:y.cells[j]? with
   |none=>rw[hq]at hz;cases hz
   | some q=>
    rw[hq]at hz;cases hz;obtain⟨u',g1,g2⟩:=h1.get j q hq;rw[hu]at g1;cases g1;have hone:q.one=true:=by have:=mD.1 (show y.cells.all V.one=true from h2);exact this q (pE hq)
    exact⟨g2,g2.one hone,hone⟩) (fun j z hz=>by
   rw[pW]at hz;cases hq:y.cells[j]? with
   |none=>rw[hq]at hz;cases hz
   |some q=>rw[hq]at hz;cases hz;rfl)
 unfold Oper.wp
 simp_all [execOp,Instr.box,newVar,newRow,Oper.upon_value]
def wHF:List SV→Option (List V)
 |[]=>some []
 |.v x::l=>match wHF l with
  |some r=>some (x::r)
  |none=>none
 |.nils::l=>match wHF l with
  |some r=>some (.list []::r)
  |none=>none
 |_::_=>none
theorem wV3{B0:Nat}{S:Nat→Prop}{K:Nat}:∀{cs:List SV}{us:List Value}{r:List V}{J:Nat},wHF cs=some r→us.length=cs.length→
  (∀j x u,cs[j]? = some x→us[j]? = some u→jE B0 S w β K (J+j) x u∧u.oneCell'=true∧yR x=true)→RepL S w r us∧wX r=true
 |[],[],r,J,e,_,_=>by cases e;exact⟨.nil,rfl⟩
 |[],_::_,_,_,_,h,_=>by grind
 |_::_,[],_,_,_,h,_=>by grind
 | x::cs,u::us,r,J,e,hl,h=>by
  have h0:=h 0 x u rfl rfl;have ih:∀r',wHF cs=some r'→RepL S w r' us∧wX r'=true:=fun r' e'=>wV3 (J:=J+1) e' (by simp_all)
   (fun j x u hx hu=>by have:=h (j+1) x u (by simp_all) (by simp_all);rwa [show J+(j+1)=J+1+j by omega]at this)
  cases x with
  |v x=>
   simp only[wHF]at e;split at e
   ·rename_i r' hr;cases e;obtain⟨g1,g2⟩:=ih r' hr;exact⟨.cons h0.1 g1,by simp only[wX,List.all_cons];rw[show x.one=true from h0.2.2];exact g2⟩
   grind
  |nils=>
   simp only[wHF]at e;split at e
   ·rename_i r' hr;cases e;obtain⟨g1,g2⟩:=ih r' hr;have:=h0.1;simp only[jE]at this;subst this;exact⟨.cons .nils g1,by simp only[wX,List.all_cons,V.one,Bool.true_and];exact g2⟩
   grind
  |own id T k es=>cases e
  |junk=>cases e
  |bx d off=>cases e
  |al d id=>cases e
  |«at» d id k i off=>cases e
  |ar r k i off=>cases e
  |rp d r off=>cases e
theorem wR4{B off:Nat}{us:List Value}{T:TypeId}(h:w.heap[B]? = some (.cells us.toArray T (0,0))){m:Nat}(hm:((us.drop off).take m).length=m) :
  (loadCells ⟨B,off,none⟩ m).run P w=.ok ((us.drop off).take m).toArray w:=by
 have:=run_loadCells_list (P:=P) w ⟨B,off,none⟩ ((us.drop off).take m) fun j v hv=>by
  rw[kT,cell_of_row w B _ _ T (0,0) h];rw[dA]at hv;split at hv
  ·rw[gC]at hv;simpa using hv
  ·cases hv
 simp_all
theorem sem_load(hC:CxOk P C){t:TypeId}{x:Operand}{d off:Nat}{cs:List SV}{y:SV}(hop:o.op=.load t x)(hx:opb st x=some (.bx d off))(hb:st (2*d+1)=some (.bx cs))(ht:C.isAgg t=some false)(hy:cs[off]? = some y)(hyo:plain y=true)(hd:dLt n o.dst=true):wQ P w0 n o (rdO x++[2*d+1]) (dput o.dst (some (.sv y))) [] st:=
 wF0 hd hyo fun f hf β a w hh=>by
  obtain⟨h1,h2⟩:=qZ hf;have e1:=hh.anyb (x:=x) (by rw[yM h1];exact hx);obtain⟨B,T,us,g1,g2,g3,g4⟩:=hh.box d cs (by simp_all);have e2:=e1 B g1;obtain⟨u,hu⟩:∃u,us[off]? = some u:=⟨_,pK (by grind)⟩
  obtain⟨k1,k2,k3⟩:=g4 off y u hy hu;have hcell:w.cell? ⟨B,off,none⟩=some u:=by rw[cell_of_row w B _ _ T (0,0) g2];simp_all
  refine⟨u,w,by simp[execOp,hop,e2,Instr.loadAt,Instr.sureAddr,loadVar,kB hC ht,hcell],Below.refl _ _,fun K=>?_⟩;exact k1.keep (fun b hb _=>⟨hb,rfl⟩) (fun hq=>by simp_all [wAH]) (fun hq=>by simp_all) (fun _ _ _ _ e=>e)
theorem sem_loadA(hC:CxOk P C){t:TypeId}{x:Operand}{d off m:Nat}{cs:List SV}{r:List V}(hop:o.op=.load t x)(hx:opb st x=some (.bx d off))(hb:st (2*d+1)=some (.bx cs))(ht:C.isAgg t=some true)(hs:C.size t=some m)(hm:Nat.beq ((cs.drop off).take m).length m=true)(hr:wHF ((cs.drop off).take m)=some r)(hd:dLt n o.dst=true):wQ P w0 n o (rdO x++[2*d+1]) (dput o.dst (some (.sv (.v (.agg r))))) [] st:=
 qI hd fun f hf β a w hh=>by
  obtain⟨h1,h2⟩:=qZ hf;have e1:=hh.anyb (x:=x) (by rw[yM h1];exact hx);obtain⟨B,T,us,g1,g2,g3,g4⟩:=hh.box d cs (by simp_all);have e2:=e1 B g1;have hm':=pV hm;have hml:((us.drop off).take m).length=m:=by simp_all
  have hrun:=wR4 (P:=P) g2 hml;obtain⟨k1,k2⟩:=wV3 (w:=w) (β:=β) (J:=off+1) hr (us:=(us.drop off).take m) (by omega) fun j z u hz hu=>by
   rw[dA]at hz hu;split at hz
   ·rename_i hj;rw[if_pos hj]at hu;rw[gC]at hz hu;have:=g4 _ _ _ hz hu
    rwa [show off+j+1=off+1+j by omega]at this
   grind
  exact⟨.agg ((us.drop off).take m).toArray,by simp[execOp,hop,e2,Instr.loadAt,Instr.sureAddr,loadVar,kB hC ht,wZ hC hs,hrun],.agg k2 k1⟩
theorem sem_loadR(hC:CxOk P C){t:TypeId}{x:Operand}{c:V}{cs:List V}(hop:o.op=.load t x)(hx:opv st x=some (.v (.ref (c::cs))))(ht:C.isAgg t=some false)(hd:dLt n o.dst=true):wQ P w0 n o (rdO x) (dput o.dst (some (.sv (.v c)))) [] st:=
 qI hd fun f hf β a w hh=>by
  have e1:=hh.val (x:=x) (y:=.ref (c::cs)) (by simp_all [wN]);generalize hu:a.eval x=u at e1;cases e1 with
  | @ref _ us b off ho hl hb hc=>
   cases hl with
   |cons hv ht'=>rename_i u us;have:=hc 0 u rfl;exact⟨u,by simp[execOp,hop,hu,Instr.loadAt,Instr.sureAddr,loadVar,kB hC ht,show w.cell? ⟨b,off,none⟩=some u from this],hv⟩
theorem sem_loadRA(hC:CxOk P C){t:TypeId}{x:Operand}{m:Nat}{cs:List V}(hop:o.op=.load t x)(hx:opv st x=some (.v (.ref cs)))(ht:C.isAgg t=some true)(hs:C.size t=some m)(hm:m≤cs.length)(hd:dLt n o.dst=true) :
  wQ P w0 n o (rdO x) (dput o.dst (some (.sv (.v (.agg (cs.take m)))))) [] st:=
 qI hd fun f hf β a w hh=>by
  have e1:=hh.val (x:=x) (y:=.ref cs) (by simp_all [wN]);generalize hu:a.eval x=u at e1;cases e1 with
  | @ref _ us b off ho hl hb hc=>
   have hlen:=hl.length;have hrun:=run_loadCells_list (P:=P) w ⟨b,off,none⟩ (us.take m) fun j v hv=>by
    rw[kT];rw[dA]at hv;split at hv
    ·exact hc j v hv
    ·cases hv
   rw[show(us.take m).length=m by simp;omega]at hrun;refine⟨.agg (us.take m).toArray,by simp[execOp,hop,hu,Instr.loadAt,Instr.sureAddr,loadVar,kB hC ht,wZ hC hs,hrun],.agg ?_ (hl.take m)⟩
   grind [wX,List.all_eq_true,List.mem_of_mem_take]
end
theorem noPt_upd{f:Fm}{K j k:Nat}{c:Option Cell}(h:wC6 f K j)(hk:k%2=1):wC6 (upd f k c) K j:=fun d x e=>by rw[upd_ne _ _ (by omega)]at e;exact h d x e
section
variable{P:Program}{C:Cx}{w0:Base}{w:World}{n:Nat}{β:Bl}{f st:Fm}{a:Act}{o:Oper}
def over{α:Type}(l:List α)(off:Nat)(vs:List α):List α:=l.take off++vs++l.drop (off+vs.length)
theorem wNB{α:Type}(l:List α)(off:Nat)(vs:List α)(h:off+vs.length≤l.length)(j:Nat):(over l off vs)[j]? = if off≤j∧j<off+vs.length then vs[j-off]? else l[j]?:=by
 unfold over;by_cases h1:j<off
 ·rw[if_neg (by omega),cN,cD (by simp;omega),dA,if_pos h1]
 grind
theorem wHH{α:Type}(l:List α)(off:Nat)(vs:List α)(h:off+vs.length≤l.length):(over l off vs).length=l.length:=by grind [over]
theorem allOne_get{l:List V}(h:wX l=true){j:Nat}{x:V}(hj:l[j]? = some x):x.one=true:=
 mD.1 (show l.all V.one=true from h) x (pE hj)
theorem sem_store(hC:CxOk P C){t:TypeId}{p x:Operand}{d off m:Nat}{cs:List SV}{y:V}(hop:o.op=.store t p x)(hp:opb st p=some (.bx d off))(hb:st (2*d+1)=some (.bx cs))(hx:opV st x=some y)(hnt:∀l,y≠.tup l)(hs:C.size t=some m)(hm:Nat.beq y.cells.length m=true)(hfit:Nat.ble (off+m) cs.length=true)(hdst:o.dst=none) :
  wQ P w0 n o (rdO p++(rdO x++[2*d+1])) [(2*d+1,some (.bx (over cs off (y.cells.map .v))))] [] st:=by
 intro f hf _ a w ⟨β,hh⟩ K Q hK;obtain⟨h1,h2⟩:=qZ hf;obtain⟨h3,h4⟩:=qZ h2;have e1:=hh.anyb (x:=p) (by rw[yM h1];exact hp);have hv:=hh.valV (x:=x) (y:=y) (by simp_all [yN]);obtain⟨c1,c2⟩:=hv.cells hnt;obtain⟨B,T,us,g1,g2,g3,g4⟩:=hh.box d cs (by simp_all);have e2:=e1 B g1;have hm':=pV hm;have hfit':=pI hfit;have hcl:=c1.length;have hone:=c1.one c2;have hst:=run_storeCells_at P B off T (a.eval x).cells.toList 0 us.toArray w g2 (by simp_all) hone;simp only[Nat.add_zero]at hst;have hsz:(a.eval x).cells.size=m:=by simp_all
 have hrun:(execOp a.eval o).run P w=.ok .skip (w.setRow B (over us off (a.eval x).cells.toList).toArray):=by simp[execOp,hop,e2,Instr.storeAt,Instr.sureAddr,storeVar,wZ hC hs,hsz,hst,over]
 unfold Oper.wp;rw[hrun,Oper.upon_skip,hdst];refine hK _ _ ?_;have hg:=wG1 w B (over us off (a.eval x).cells.toList).toArray;have h5:=(hh.drop (2*d+1)).touch (K:=2*d+1) (w':=w.setRow B (over us off (a.eval x).cells.toList).toArray) (by simp_all) (upd_same _ _ _);have hcl2:(a.eval x).cells.toList.length=y.cells.length:=hcl.symm;have h6:=h5.rebox (d:=d) (B:=B) (T:=T) (us:=over us off (a.eval x).cells.toList) (cs:=over cs off (y.cells.map .v)) g1 (setRow_heap w B _ _ T _ g2) (by grind [wHH]) fun j z u hz hu=>by
  rw[wNB _ _ _ (by grind)]at hz;rw[wNB _ _ _ (by omega)]at hu;simp only[List.length_map,hcl2]at hz hu;have hkeep:∀b,qM β b→b<w.heap.size→qM β b∧(w.setRow B (over us off (a.eval x).cells.toList).toArray).heap[b]? = w.heap[b]?:=fun b hb hl=>⟨hb,hg.block b hl (fun e=>by cases e;exact hb _ _ g1)⟩
  split at hz
  ·rename_i hj;rw[if_pos hj]at hu;rw[pW]at hz;cases hq:y.cells[j-off]? with
   |none=>grind
   |some q=>rw[hq]at hz;cases hz;obtain⟨u',k1,k2⟩:=c1.get _ q hq;rw[hu]at k1;cases k1;have:=allOne_get c2 hq;exact⟨k2.keep hkeep,k2.one this,this⟩
  ·rename_i hj;rw[if_neg hj]at hu;obtain⟨k1,k2,k3⟩:=g4 j z u hz hu;refine⟨k1.keep hkeep (fun _=>rfl) (fun _ B' hB'=>hg.block B' (hh.rng _ _ _ hB').2 (fun e=>?_)) (fun _ _ _ _ e=>e),k2,k3⟩;cases e;have:=(hh.inj _ _ _ _ _ hB' g1).2;omega
 refine⟨β,?_⟩;rw[app1];rw[wMD]at h6;exact h6
theorem qCC(hC:CxOk P C){t:TypeId}{p:Operand}{d off s k id:Nat}{T:TypeId}{es:List (List V)}{cs:List SV}{z:SV}(hop:o.op=.store t p (.tmp s))(hp:opb st p=some (.bx d off))(hb:st (2*d+1)=some (.bx cs))(hx:st (2*s)=some (.sv (.own id T k es)))(hs:C.size t=some 1)(hz:cs[off]? = some z)(hdst:o.dst=none) :
  wQ P w0 n o (rdO p++[2*s,2*d+1]) [(2*d+1,some (.bx (cs.set off (.own 0 T k es)))),(2*s,none)] [] st:=by
 intro f hf _ a w ⟨β,hh⟩ K Q hK;obtain⟨h1,h2⟩:=qZ hf;have e1:=hh.anyb (x:=p) (by rw[yM h1];exact hp);obtain⟨B,T',us,g1,g2,g3,g4⟩:=hh.box d cs (by rw[h2 _ (by simp)];exact hb);have e2:=e1 B g1;have hs0:=hh.slot s _ (by rw[h2 _ (by simp)];exact hx);obtain⟨ad,cap,hsh⟩:=qDC hs0;obtain⟨q,hq⟩:∃q,a.tmps.getD s undef=q:=⟨_,rfl⟩
 have hev:a.eval (.tmp s)=q:=hq;rw[hq]at hs0 hsh;have hlt:off<cs.length:=(pY.1 hz).1;have hone:q.oneCell'=true:=by rw[hsh];rfl
 have hcells:q.cells=#[q]:=by rw[hsh];rfl
 have hst:=run_storeCells_at P B off T' [q] 0 us.toArray w g2 (by simp;omega) (by intro v hv;simp at hv;subst hv;exact hone);simp only[Nat.add_zero]at hst;have hset:us.take off++[q]++us.drop (off+1)=us.set off (q):=by rw[pA6,if_pos (by omega)];simp
 have hrun:(execOp a.eval o).run P w=.ok .skip (w.setRow B (us.set off (q)).toArray):=by simp only[List.length_cons,List.length_nil,Nat.zero_add]at hst;rw[hset]at hst;simp[execOp,hop,e2,hev,Instr.storeAt,Instr.sureAddr,storeVar,wZ hC hs,hcells,hst]
 unfold Oper.wp;rw[hrun,Oper.upon_skip,hdst];refine hK _ _ ?_;have hg:=wG1 w B (us.set off (q)).toArray;have hne:∀k j B',β k j=some B'→¬(k=2*d+1∧j=0)→(w.setRow B (us.set off (q)).toArray).heap[B']? = w.heap[B']?:=fun k j B' hB' hk=>hg.block B' (hh.rng _ _ _ hB').2 fun e=>by cases e;exact hk (hh.inj _ _ _ _ _ hB' g1)
 have h5:=((hh.drop (2*s)).drop (2*d+1)).touch (K:=2*d+1) (w':=w.setRow B (us.set off (q)).toArray) (by rw[g1];exact hg) (upd_same _ _ _);have hd2:upd (upd f (2*s) none) (2*d+1) none (2*s)=none:=by rw[upd_ne _ _ (by omega),upd_same]
 have h6:=h5.xfer (K1:=2*s) (J1:=0) (K2:=2*d+1) (J2:=off+1) (o:=β (2*s) 0) (jP _ _) (.inl rfl) (wOC hd2) (deadS (upd_same _ _ _)) (fun h=>by omega);have g1':upB (upB β (2*s) 0 none) (2*d+1) (off+1) (β (2*s) 0) (2*d+1) 0=some B:=by rw[kE _ _ (by omega),kE _ _ (by omega)];exact g1
 have hS:∀b,qM β b→b<w.heap.size→qM (upB (upB β (2*s) 0 none) (2*d+1) (off+1) (β (2*s) 0)) b∧(w.setRow B (us.set off (q)).toArray).heap[b]? = w.heap[b]?:=fun b hb hl=>⟨fun k j e=>by
   unfold upB at e;split at e
   ·exact hb _ _ e
   ·split at e
    ·cases e
    ·exact hb _ _ e,hg.block b hl (fun e=>by cases e;exact hb _ _ g1)⟩
 have h7:=h6.rebox (d:=d) (B:=B) (T:=T') (us:=us.set off (q)) (cs:=cs.set off (.own 0 T k es)) g1' (setRow_heap w B _ _ T' _ g2) (by simp[g3]) fun j y u hy hu=>by
  by_cases hj:off=j
  ·subst hj;rw[bT hlt]at hy;rw[bT (by omega)]at hu;cases hy;cases hu;exact⟨jE.keep (x:=.own 0 T k es) hs0 hS (fun _=>j9 _ _ _ _) (fun _ B' hB'=>hne _ _ B' hB' (by omega)) (fun _ _ h=>h.elim),hone,rfl⟩
  ·rw[fD hj]at hy hu;obtain⟨k1,k2,k3⟩:=g4 j y u hy hu;exact⟨k1.keep hS (fun _=>by rw[kE _ _ (by omega),kE _ _ (by omega)]) (fun _ B' hB'=>hne _ _ B' hB' (by omega)) (fun K j hK=>absurd hK (wBA k3 K j)),k2,k3⟩
 refine⟨_,h7.less fun K' c e=>?_⟩;rw[yE,app1]at e
 simp_all [upd,if_pos,if_neg]
theorem qG8(hC:CxOk P C){t:TypeId}{p:Operand}{d off k r id id':Nat}{T:TypeId}{es:List (List V)}{cs:List SV}(hop:o.op=.load t p)(hp:opb st p=some (.bx d off))(hb:st (2*d+1)=some (.bx cs))(ht:C.isAgg t=some false)(hz:cs[off]? = some (.own id T k es))(hdst:o.dst=some r)(hd:Nat.blt r n=true):wQ P w0 n o (rdO p++[2*d+1]) [(2*r,some (.sv (.own id' T k es))),(2*d+1,some (.bx (cs.set off .junk)))] [(2*r,id'),(2*r,0)] st:=by
 intro f hf hn a w ⟨β,hh⟩ K Q hK;obtain⟨h1,h2⟩:=qZ hf;have e1:=hh.anyb (x:=p) (by rw[yM h1];exact hp);obtain⟨B,T',us,g1,g2,g3,g4⟩:=hh.box d cs (by rw[h2 _ (by simp)];exact hb);have e2:=e1 B g1;have hlt:off<cs.length:=(pY.1 hz).1;obtain⟨u,hu⟩:∃u,us[off]? = some u:=⟨_,pK (by omega)⟩
 obtain⟨k1,k2,k3⟩:=g4 off _ u hz hu;have hcell:w.cell? ⟨B,off,none⟩=some u:=by rw[cell_of_row w B _ _ T' (0,0) g2];simpa using hu
 have hrun:(execOp a.eval o).run P w=.ok (.value u) w:=by simp[execOp,hop,e2,Instr.loadAt,Instr.sureAddr,loadVar,kB hC ht,hcell]
 unfold Oper.wp;rw[hrun,Oper.upon_value,hdst];refine hK _ _ ?_;have hS:∀b,qM β b→b<w.heap.size→qM (upB (upB β (2*d+1) (off+1) none) (2*r) 0 (β (2*d+1) (off+1))) b∧w.heap[b]? = w.heap[b]?:=fun b hb hl=>⟨fun k j e=>by
   unfold upB at e;split at e
   ·exact hb _ _ e
   ·split at e
    ·cases e
    ·exact hb _ _ e,rfl⟩
 have hn':wC6 (upd (upd f (2*d+1) none) (2*r) none) (2*r) 0:=((hn (2*r,0) (by simp)).drop _).drop _;have h5:=((hh.drop (2*d+1)).drop (2*r)).xfer (w':=w) (K1:=2*d+1) (J1:=off+1) (K2:=2*r) (J2:=0) (o:=β (2*d+1) (off+1)) (jP _ _) (.inl rfl) (deadS (by rw[upd_ne _ _ (by omega),upd_same])) (wOC (upd_same _ _ _)) (fun _=>hn');have h6:=h5.rebox (d:=d) (B:=B) (T:=T') (us:=us) (cs:=cs.set off .junk) (by rw[kE _ _ (by omega),kE _ _ (by omega)];exact g1) g2 (by simp[g3]) fun j y u' hy hu'=>by
  by_cases hj:off=j
  ·subst hj;rw[bT hlt]at hy;cases hy;rw[hu]at hu';cases hu';exact⟨trivial,k2,rfl⟩
  ·rw[fD hj]at hy;obtain⟨m1,m2,m3⟩:=g4 j y u' hy hu';exact⟨m1.keep hS (fun _=>by rw[kE _ _ (by omega),kE _ _ (by omega)]) (fun _ _ _=>rfl) (fun K j hK=>absurd hK (wBA m3 K j)),m2,m3⟩
 have h7:=h6.putO (d:=r) (by simpa using hd) (id:=id') (T:=T) (k:=k) (es:=es) (u:=u) (noPt_upd (((hn (2*r,id') (by simp)).drop _).drop _) (by omega)) (jE.keep (x:=.own id' T k es) k1 hS (fun _=>j9 _ _ _ _) (fun _ _ _=>rfl) (fun _ _ h=>h.elim));refine⟨_,h7.less fun K' c e=>?_⟩;rw[yE,app1]at e
 simp_all [upd,if_pos,if_neg]
theorem qG7{s r k id id':Nat}{T:TypeId}{es:List (List V)}(hop:o.op=.move (.tmp s)∨o.op=.assign (.tmp s))(hx:st (2*s)=some (.sv (.own id T k es)))(hdst:o.dst=some r)(hne:r≠s)(hd:Nat.blt r n=true) :
  wQ P w0 n o [2*s] [(2*r,some (.sv (.own id' T k es))),(2*s,none)] [(2*r,id'),(2*r,0)] st:=by
 intro f hf hn a w ⟨β,hh⟩ K Q hK;have hs0:=hh.slot s _ (by rw[hf _ (by simp)];exact hx);have hrun:(execOp a.eval o).run P w=.ok (.value (a.tmps.getD s undef)) w:=by rcases hop with hop|hop<;>simp[execOp,hop,Act.eval]
 unfold Oper.wp;rw[hrun,Oper.upon_value,hdst];refine hK _ _ ?_;have hS:∀b,qM β b→b<w.heap.size→qM (upB (upB β (2*s) 0 none) (2*r) 0 (β (2*s) 0)) b∧w.heap[b]? = w.heap[b]?:=fun b hb hl=>⟨fun k j e=>by
   unfold upB at e;split at e
   ·exact hb _ _ e
   ·split at e
    ·cases e
    ·exact hb _ _ e,rfl⟩
 have h5:=((hh.drop (2*s)).drop (2*r)).xfer (w':=w) (K1:=2*s) (J1:=0) (K2:=2*r) (J2:=0) (o:=β (2*s) 0) (jP _ _) (.inl rfl) (wOC (by rw[upd_ne _ _ (by omega),upd_same])) (wOC (upd_same _ _ _)) (fun _=>((hn (2*r,0) (by simp)).drop _).drop _);have h7:=h5.putO (d:=r) (by simpa using hd) (id:=id') (T:=T) (k:=k) (es:=es) (u:=a.tmps.getD s undef) (((hn (2*r,id') (by simp)).drop _).drop _) (jE.keep (x:=.own id' T k es) hs0 hS (fun _=>j9 _ _ _ _) (fun _ _ _=>rfl) (fun _ _ h=>h.elim));refine⟨_,h7.less fun K' c e=>?_⟩;rw[yE,app1]at e
 simp_all [upd,if_pos,if_neg]
theorem sem_alias{s r k id:Nat}{T:TypeId}{es:List (List V)}(hop:o.op=.move (.tmp s))(hx:st (2*s)=some (.sv (.own id T k es)))(hdst:o.dst=some r)(hne:r≠s)(hd:Nat.blt r n=true) :
  wQ P w0 n o [2*s] [(2*r,some (.sv (.al s id)))] [] st:=by
 intro f hf _ a w ⟨β,hh⟩ K Q hK;have hrun:(execOp a.eval o).run P w=.ok (.value (a.tmps.getD s undef)) w:=by simp[execOp,hop,Act.eval]
 unfold Oper.wp;rw[hrun,Oper.upon_value,hdst];refine hK _ _ ⟨β,?_⟩;rw[app1];exact hh.put (by simp_all) (by simp_all) (by simp_all) (by simp_all) trivial
theorem wU7{x:Operand}{d r id:Nat}(hop:o.op=.move x∨o.op=.assign x)(hx:opv st x=some (.al d id))(hdst:o.dst=some r)(hd:Nat.blt r n=true) :
  wQ P w0 n o (rdO x++[2*d]) [(2*r,some (.sv (.al d id)))] [] st:=by
 intro f hf _ a w ⟨β,hh⟩ K Q hK;obtain⟨h1,h2⟩:=qZ hf;have hrun:(execOp a.eval o).run P w=.ok (.value (a.eval x)) w:=by rcases hop with hop|hop<;>simp[execOp,hop]
 unfold Oper.wp;rw[hrun,Oper.upon_value,hdst];refine hK _ _ ⟨β,?_⟩;rw[app1];have hx':opv f x=some (.al d id):=by simp_all [wN]
 refine hh.put (by simp_all) (by simp_all) ?_ (by simp_all) trivial;rintro d' id' ⟨⟩ _ T k es hown;cases x with
 |tmp e=>
  simp only[opv]at hx';split at hx'
  ·rename_i z hz;cases hx';exact hh.al e d id T k es hz hown
  simp_all
 |const v=>have:=(wJ4 (S:=fun _=>True) (w:=w) hx' 0 β 0 0).2;cases this
 |func g=>cases hx'
 |global g=>cases hx'
end
section
variable{P:Program}{C:Cx}{w0:Base}{w:World}{n:Nat}{β:Bl}{f st:Fm}{a:Act}{o:Oper}
theorem wIH{l:List V}(h:wX l=true)(m:Nat):wX (l.drop m)=true:=by grind [wX,List.all_eq_true,List.mem_of_mem_drop]
theorem wS6{l:List V}(h:wX l=true)(m:Nat):wX (l.take m)=true:=by grind [wX,List.all_eq_true,List.mem_of_mem_take]
theorem Rep.ref_drop{S:Nat→Prop}{cs:List V}{b off:Nat}(h:Rep S w (.ref cs) (.pointer (some ⟨b,off,none⟩)))(m:Nat):Rep S w (.ref (cs.drop m)) (.pointer (some ⟨b,off+m,none⟩)):=by
 cases h with
 |ref ho hl hb hu=>
  refine .ref (wIH ho m) (hl.drop m) hb fun j u hj=>?_
  grind
theorem Rep.ref_shape{S:Nat→Prop}{cs:List V}{v:Value}(h:Rep S w (.ref cs) v):∃b off,v=.pointer (some ⟨b,off,none⟩):=by
 cases h with
 |ref=>simp_all
theorem wYE(hC:CxOk P C){t:TypeId}{x:Operand}{i d off m:Nat}{fs:Array Field}{fd:Field}{cs:List SV}(hop:o.op=.fieldAddr t x i)(hx:opb st x=some (.bx d off))(hb:st (2*d+1)=some (.bx cs))(ht:C.und t=some (.struct fs))(hi:fs[i]? = some fd)(hs:C.size fd.type=some (m+1))(hd:dLt n o.dst=true):wQ P w0 n o (rdO x++[2*d+1]) (dput o.dst (some (.sv (.bx d (off+fd.offset))))) [] st:=
 wF0 hd rfl fun f hf β a w hh=>by
  obtain⟨h1,h2⟩:=qZ hf;have e1:=hh.anyb (x:=x) (by rw[yM h1];exact hx);obtain⟨B,T,us,g1,g2,g3,g4⟩:=hh.box d cs (by rw[h2 _ (by simp)];exact hb);have e2:=e1 B g1;refine⟨.pointer (some ⟨B,off+fd.offset,none⟩),w,by simp[execOp,hop,e2,Instr.fieldAt,wP hC ht,hi,Instr.sureAddr,fieldPlace,wZ hC hs,kT],Below.refl _ _,fun K B' hB'=>?_⟩
  simp_all
theorem wU8(hC:CxOk P C){t:TypeId}{x:Operand}{i m:Nat}{fs:Array Field}{fd:Field}{cs:List V}(hop:o.op=.fieldAddr t x i)(hx:opv st x=some (.v (.ref cs)))(ht:C.und t=some (.struct fs))(hi:fs[i]? = some fd)(hs:C.size fd.type=some (m+1))(hd:dLt n o.dst=true):wQ P w0 n o (rdO x) (dput o.dst (some (.sv (.v (.ref (cs.drop fd.offset)))))) [] st:=
 qI hd fun f hf β a w hh=>by have e1:=hh.val (x:=x) (y:=.ref cs) (by simp_all [wN]);obtain⟨b,off,hsh⟩:=e1.ref_shape;rw[hsh]at e1;exact⟨.pointer (some ⟨b,off+fd.offset,none⟩),by simp[execOp,hop,hsh,Instr.fieldAt,wP hC ht,hi,Instr.sureAddr,fieldPlace,wZ hC hs,kT],e1.ref_drop _⟩
theorem HB.atp(hh:HB w0 n β f a w){x:Operand}{d id k i off:Nat}{T:TypeId}{es:List (List V)}(hx:opv f x=some (.at d id k i off))(hb:f (2*d)=some (.sv (.own id T k es))){B:Nat}(hB:β (2*d) 0=some B):a.eval x=.pointer (some ⟨B,i*k+off,none⟩):=by
 cases x with
 |tmp e=>
  simp only[opv]at hx;split at hx
  ·rename_i z hz;cases hx;exact hh.pt e d id k i off T es B hz hb hB
  grind
 |const v=>have:=(wJ4 (S:=fun _=>True) (w:=w) hx 0 β 0 0).2;cases this
 |func g=>cases hx
 |global g=>cases hx
theorem HB.ownB(hh:HB w0 n β f a w){d id k:Nat}{T:TypeId}{es:List (List V)}(hb:f (2*d)=some (.sv (.own id T k es)))(hl:0<es.length):∃B cap,β (2*d) 0=some B∧a.tmps.getD d undef=.slice (some ⟨B,0,none⟩) es.length cap:=by
 obtain⟨_,g2,us,g3,_⟩:=hh.slot d _ hb;rcases g3.2 with⟨_,h0⟩|⟨g,cap,cur,hv,_⟩
 ·omega
 ·exact⟨g,cap,by rw[←g2,hv];rfl,hv⟩
theorem sem_atp{rd:List Nat}{r d id k i off:Nat}(hdst:o.dst=some r)(hd:Nat.blt r n=true)(hne:r≠d)(h:∀f:Fm,(∀q∈rd,f q=st q)→∀(β:Bl)(a:Act)(w:World),HB w0 n β f a w→∃u,(execOp a.eval o).run P w=.ok (.value u) w∧∀T es B,f (2*d)=some (.sv (.own id T k es))→β (2*d) 0=some B→u=.pointer (some ⟨B,i*k+off,none⟩)) :
  wQ P w0 n o rd [(2*r,some (.sv (.at d id k i off)))] [] st:=by
 intro f hf _ a w ⟨β,hb⟩ K Q hK;obtain⟨u,h1,h2⟩:=h f hf β a w hb;unfold Oper.wp;rw[h1,Oper.upon_value,hdst];refine hK _ _ ⟨β,?_⟩;rw[app1];exact hb.put (by simp_all) (by simp_all) (by simp_all) (by grind) trivial
def vpart(C:Cx)(t:TypeId)(cs:List V)(off:Nat):Option V:=
 match C.isAgg t with
 |some true=>match C.size t with
  |some m=>bif Nat.ble (off+m) cs.length then some (.agg ((cs.drop off).take m))else none
  |none=>none
 |some false=>cs[off]?
 |none=>none
theorem vpart_ok(hC:CxOk P C){t:TypeId}{cs:List V}{off:Nat}{v:V}(e:vpart C t cs off=some v){S:Nat→Prop}{us:List Value}(hc:RepL S w cs us)(ho:wX cs=true):∃u,(part t us.toArray off).run P w=.ok u w∧Rep S w v u:=by
 unfold vpart at e;split at e
 ·rename_i hg;split at e
  ·rename_i m hs;cases hb:Nat.ble (off+m) cs.length with
   |false=>rw[hb]at e;cases e
   | true=>
    rw[hb]at e;cases e;refine⟨.agg (us.toArray.extract off (off+m)),by simp[part,kB hC hg,wZ hC hs],?_⟩;have:=Rep.agg (wS6 (wIH ho off) m) ((hc.drop off).take m);have he:((us.drop off).take m).toArray=us.toArray.extract off (off+m):=by apply bU;simp[List.take_drop]
    rw[he]at this;exact this
  ·cases e
 ·rename_i hg;obtain⟨u,hu,hr⟩:=hc.get off v e;exact⟨u,by simp[part,kB hC hg,hu],hr⟩
 grind
theorem sem_field(hC:CxOk P C){t:TypeId}{x:Operand}{i:Nat}{fs:Array Field}{fd:Field}{cs:List V}{v:V}(hop:o.op=.field t x i)(hx:opv st x=some (.v (.agg cs)))(ht:C.und t=some (.struct fs))(hi:fs[i]? = some fd)(hv:vpart C fd.type cs fd.offset=some v)(hd:dLt n o.dst=true):wQ P w0 n o (rdO x) (dput o.dst (some (.sv (.v v)))) [] st:=
 qI hd fun f hf β a w hh=>by
  have e1:=hh.val (x:=x) (y:=.agg cs) (by simp_all [wN]);generalize hu:a.eval x=u at e1;cases e1 with
  |agg ho hl=>obtain⟨r,h1,h2⟩:=vpart_ok (P:=P) hC hv hl ho;exact⟨r,by simp[execOp,hop,hu,Instr.field,wP hC ht,hi,asAgg,h1],h2⟩
theorem run_indexAt(hC:CxOk P C){t elem:TypeId}{sz:Nat}(ht:C.und t=some (.slice elem))(hs:C.size elem=some sz){b off len cap i:Nat}(k:IntKind)(h:i<len) :
  (Instr.indexAt t (.slice (some ⟨b,off,none⟩) len cap) (.int k (i:Nat))).run P w=.ok (.pointer (some ⟨b,off+i*sz,none⟩)) w:=by
 simp[Instr.indexAt,asIntOf,wP hC ht,h,wZ hC hs,kT]
theorem wYD(hC:CxOk P C){t elem:TypeId}{x y:Operand}{sz i:Nat}{k:IntKind}{es:List (List V)}{e:List V}(hop:o.op=.indexAddr t x y)(hx:opv st x=some (.v (.list es)))(hy:opv st y=some (.v (.int k (i:Nat))))(ht:C.und t=some (.slice elem))(hs:C.size elem=some sz)(hi:es[i]? = some e)(hl:e.length=sz)(hd:dLt n o.dst=true):wQ P w0 n o (rdO x++rdO y) (dput o.dst (some (.sv (.v (.ref e))))) [] st:=
 qI hd fun f hf β a w hh=>by
  obtain⟨h1,h2⟩:=qZ hf;have e1:=hh.val (x:=x) (y:=.list es) (by rw[wN h1];exact hx);have e2:=hh.val (x:=y) (y:=.int k (i:Nat)) (by rw[wN h2];exact hy);generalize hu:a.eval x=u at e1;generalize hv:a.eval y=v at e2;cases e2;obtain⟨b,off,cap,rfl,h3⟩:=e1.list_at i e hi;have:=run_indexAt (P:=P) (w:=w) hC ht hs (b:=b) (off:=off) (cap:=cap) k (pY.1 hi).1
  simp_all [execOp,Sem.run_bind]
def rootS(f:Fm)(s:Nat):Option (Nat×Nat×TypeId×Nat×List (List V)):=
 match f (2*s)with
 |some (.sv (.own id T k es))=>some (s,id,T,k,es)
 |some (.sv (.al d id))=>match f (2*d)with
  |some (.sv (.own id' T k es))=>bif Nat.beq id id' then some (d,id,T,k,es)else none
  |_=>none
 |_=>none
def root(f:Fm):Operand→Option (Nat×Nat×TypeId×Nat×List (List V))
 |.tmp s=>rootS f s
 |_=>none
theorem HB.root(hh:HB w0 n β f a w){x:Operand}{s id k:Nat}{T:TypeId}{es:List (List V)}(h:root f x=some (s,id,T,k,es)):f (2*s)=some (.sv (.own id T k es))∧a.eval x=a.tmps.getD s undef:=by
 cases x with
 | tmp e=>
  simp only[Vl.root,rootS]at h;split at h
  ·rename_i hz;cases h;exact⟨hz,rfl⟩
  ·rename_i d id hz;split at h
   ·rename_i id' T' k' es' hd;cases hb:Nat.beq id id' with
    |false=>rw[hb]at h;cases h
    |true=>rw[hb]at h;cases h;obtain rfl:=pV hb;exact⟨hd,hh.al e _ _ _ _ _ hz hd⟩
   ·cases h
  grind
 |_=>cases h
def rdS(f:Fm)(s:Nat):List Nat:=
 match f (2*s)with
 |some (.sv (.al d _))=>[2*s,2*d]
 |_=>[2*s]
def rdR(f:Fm):Operand→List Nat
 |.tmp s=>rdS f s
 |_=>[]
theorem qH1(f:Fm)(s:Nat):2*s∈rdS f s:=by grind [rdS]
theorem wB9{f g:Fm}{x:Operand}(h:∀k∈rdR g x,f k=g k):Vl.root f x=Vl.root g x:=by
 cases x with
 |tmp s=>
  have h1:f (2*s)=g (2*s):=h _ (qH1 g s)
  grind [Vl.root,rootS,id,rdR,rdS]
 |_=>rfl
theorem wP8(hC:CxOk P C){t elem:TypeId}{x y:Operand}{s id k i r:Nat}{ki:IntKind}{T:TypeId}{es:List (List V)}(hop:o.op=.indexAddr t x y)(hx:root st x=some (s,id,T,k,es))(hy:opv st y=some (.v (.int ki (i:Nat))))(ht:C.und t=some (.slice elem))(hs:C.size elem=some k)(hi:i<es.length)(hdst:o.dst=some r)(hne:Nat.beq r s=false)(hd:Nat.blt r n=true):wQ P w0 n o (rdR st x++rdO y) [(2*r,some (.sv (.at s id k i 0)))] [] st:=
 sem_atp hdst hd (fun h=>by simp_all) fun f hf β a w hh=>by
  have h1:∀j∈rdR st x,f j=st j:=fun j hj=>hf j (cR _ hj);have h2:∀j∈rdO y,f j=st j:=fun j hj=>hf j (cH _ hj);have e2:=hh.val (x:=y) (y:=.int ki (i:Nat)) (by rw[wN h2];exact hy);generalize hv:a.eval y=v at e2;cases e2;obtain⟨hq,hev⟩:=hh.root (x:=x) (by rw[wB9 h1];exact hx);obtain⟨B,cap,hB,hsl⟩:=hh.ownB hq (by omega);have:=run_indexAt (P:=P) (w:=w) hC ht hs (b:=B) (off:=0) (cap:=cap) ki hi
  simp_all [execOp,Sem.run_bind]
theorem qA3{B0:Nat}{S:Nat→Prop}{K J id:Nat}{T:TypeId}{k:Nat}{es:List (List V)}{u:Value}(h:jE B0 S w β K J (.own id T k es) u){i:Nat}{e:List V}(hi:es[i]? = some e) :
  ∃g us,β K J=some g∧RepL S w e us∧wX e=true∧e.length=k∧∀j v,us[j]? = some v→w.cell? ⟨g,i*k+j,none⟩=some v:=by
 obtain⟨h1,h2,us,h3,h4⟩:=h;have hm:=h1 e (pE hi);rcases h3.2 with⟨_,h0⟩|⟨g,cap,cur,rfl,hb,hg,hc,hm',hs,ht⟩
 ·simp_all
 ·have hseg:=h4.seg (i*k) k;rw[wO7 (fun e he=>(h1 e he).1) i e hi]at hseg;refine⟨g,_,by rw[←h2];rfl,hseg,hm.2,hm.1,fun j v hv=>?_⟩
  grind [cell_of_row]
theorem sem_loadAt(hC:CxOk P C){t:TypeId}{x:Operand}{d id k i off:Nat}{T:TypeId}{es:List (List V)}{e:List V}{y:V}(hop:o.op=.load t x)(hx:opv st x=some (.at d id k i off))(hb:st (2*d)=some (.sv (.own id T k es)))(hi:es[i]? = some e)(ht:C.isAgg t=some false)(hy:e[off]? = some y)(hd:dLt n o.dst=true):wQ P w0 n o (rdO x++[2*d]) (dput o.dst (some (.sv (.v y)))) [] st:=
 qI hd fun f hf β a w hh=>by
  obtain⟨h1,h2⟩:=qZ hf;have hq:f (2*d)=some (.sv (.own id T k es)):=by simp_all
  obtain⟨g,us,g1,g2,g3,g4,g5⟩:=qA3 (hh.slot d _ hq) hi;have e2:=hh.atp (x:=x) (by rw[wN h1];exact hx) hq g1;obtain⟨u,k1,k2⟩:=g2.get off y hy;have hcell:=g5 off u k1;exact⟨u,by simp[execOp,hop,e2,Instr.loadAt,Instr.sureAddr,loadVar,kB hC ht,hcell],k2⟩
theorem wYC{x:Operand}{d off:Nat}{cs:List SV}(hop:o.op=.nilCheck x)(hx:opb st x=some (.bx d off))(hb:st (2*d+1)=some (.bx cs))(hd:dLt n o.dst=true):wQ P w0 n o (rdO x++[2*d+1]) (dput o.dst (some (.sv (.bx d off)))) [] st:=
 wF0 hd rfl fun f hf β a w hh=>by obtain⟨h1,h2⟩:=qZ hf;have e1:=hh.anyb (x:=x) (by rw[yM h1];exact hx);obtain⟨B,T,us,g1,_⟩:=hh.box d cs (by simp_all);have e2:=e1 B g1;exact⟨_,w,by simp[execOp,hop,e2];rfl,Below.refl _ _,fun K B' hB'=>by simp_all⟩
theorem wYA{x:Operand}{cs:List V}(hop:o.op=.nilCheck x)(hx:opv st x=some (.v (.ref cs)))(hd:dLt n o.dst=true):wQ P w0 n o (rdO x) (dput o.dst (some (.sv (.v (.ref cs))))) [] st:=
 qI hd fun f hf β a w hh=>by
  have e1:=hh.val (x:=x) (y:=.ref cs) (by rw[wN hf];exact hx);obtain⟨b,off,hsh⟩:=e1.ref_shape
  simp_all [execOp]
theorem wYB{x:Operand}{g:FuncId}{fs cs:List V}(hop:o.op=.nilCheck x)(hx:opv st x=some (.v (.clo g fs cs)))(hd:dLt n o.dst=true):wQ P w0 n o (rdO x) (dput o.dst (some (.sv (.v (.clo g fs cs))))) [] st:=
 qI hd fun f hf β a w hh=>by
  have e1:=hh.val (x:=x) (y:=.clo g fs cs) (by simp_all [wN]);generalize hu:a.eval x=u at e1;cases e1 with
  |clo h k=>exact⟨_,by simp_all [execOp],.clo h k⟩
def lenV(f:Fm)(x:Operand):Option Nat:=
 match opv f x with
 |some (.v (.list es))=>some es.length
 |some .nils=>some 0
 |_=>match root f x with
  |some (_,_,_,_,es)=>some es.length
  |none=>none
theorem rdR_O{g:Fm}{x:Operand}{k:Nat}(h:k∈rdO x):k∈rdR g x:=by
 cases x with
 |tmp s=>simp only[rdO,List.mem_singleton]at h;subst h;exact qH1 g s
 |_=>cases h
theorem lenV_congr{f g:Fm}{x:Operand}(h:∀k∈rdR g x,f k=g k):lenV f x=lenV g x:=by grind [lenV,wB9,wN,rdR_O]
theorem HB.len(hh:HB w0 n β f a w){x:Operand}{m:Nat}(hl:lenV f x=some m):∃ad cap,a.eval x=.slice ad m cap:=by
 unfold lenV at hl;split at hl
 ·rename_i hx;cases hl;exact(hh.val hx).list_shape
 ·rename_i hx;cases hl;have:=hh.any hx rfl 0 0;exact⟨none,0,this⟩
 ·split at hl
  ·rename_i s id T k es hr;cases hl;obtain⟨h1,h2⟩:=hh.root hr;rw[h2];exact qDC (hh.slot s _ h1)
  grind
theorem sem_len(hC:CxOk P C){x:Operand}{k:Call}{t elem:TypeId}{m:Nat}(hop:o.op=.call k)(hk:k.callee=.builtin .len)(ha:k.args=#[x])(ht:k.argTypes=#[t])(hu:C.und t=some (.slice elem))(hl:lenV st x=some m)(hd:dLt n o.dst=true):wQ P w0 n o (rdR st x) (dput o.dst (some (.sv (.v (.int .i64 (m:Nat)))))) [] st:=
 qI hd fun f hf β a w hh=>by obtain⟨ad,cap,e⟩:=hh.len (x:=x) (by rw[lenV_congr hf];exact hl);exact⟨_,by simp[execOp,hop,resolve,hk,ha,ht,invoke,builtin,Builtin.len_,e,wP hC hu];rfl,.int _ _⟩
theorem sem_max{x y:Operand}{k:Call}{p q:Int}{ki:IntKind}(hop:o.op=.call k)(hk:k.callee=.builtin .max)(ha:k.args=#[x,y])(hx:opv st x=some (.v (.int ki p)))(hy:opv st y=some (.v (.int ki q)))(hd:dLt n o.dst=true) :
  wQ P w0 n o (rdO x++rdO y) (dput o.dst (some (.sv (.v (.int ki (if q>p then q else p)))))) [] st:=
 qI hd fun f hf β a w hh=>by obtain⟨h1,h2⟩:=qZ hf;have e1:=hh.val (x:=x) (y:=.int ki p) (by simp_all [wN]);have e2:=hh.val (x:=y) (y:=.int ki q) (by simp_all [wN]);generalize hu:a.eval x=u at e1;generalize hv:a.eval y=v at e2;cases e1;cases e2;exact⟨_,by simp[execOp,hop,resolve,hk,ha,invoke,builtin,Builtin.max_,hu,hv,Builtin.max2],.int _ _⟩
end
end Go.Vl
