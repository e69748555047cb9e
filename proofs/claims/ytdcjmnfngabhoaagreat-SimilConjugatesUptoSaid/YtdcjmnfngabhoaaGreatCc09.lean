/- More steps of the walk: empty slices in variables, told as rows of one's own. -/
import Derived.Test.YtdcjmnfngabhoaaGreatCc08
import Derived.Test.YtdcjmnfngabhoaaGreatProg
import Derived.WalkKit
import Derived.WalkSpells
import Derived.WalkLawsBesides
import Derived.Laws.CopyOwn
set_option linter.all false
set_option maxRecDepth 20000
set_option maxHeartbeats 6400000
namespace Go.Vl
open Go.RowKit Go.Ev
section
variable{P:Program}{w0:Base}{n:Nat}{st:St}{Q:kS}{ops:Array Oper}
theorem wT6{d j k:Nat}{T:TypeId}{cs:List SV}(h:lk st (2*d+1)=some (.bx cs))(hj:cs[j]? = some .nils∨cs[j]? = some (.v (.raw (.slice none 0 0)))):∀a w,Hs w0 n (lk st) a w→∃_:Unit,Hs w0 n (lk ((2*d+1,some (.bx (cs.set j (.own 0 T k []))))::st)) a w:=by
 rintro a w ⟨β,hh⟩;refine⟨(),?_⟩;obtain⟨B,T',us,g1,g2,g3,g4⟩:=hh.box d cs h;have hd:wD3 (lk st) (2*d+1) (j+1):=by
  unfold wD3;rw[if_neg (by omega)];refine⟨fun cs' x e hx=>?_,fun T k L e=>?_⟩
  ·rw[h]at e;cases e;rw[show j+1-1=j by omega]at hx;rcases hj with hj|hj<;>(rw[hj]at hx;cases hx;rfl)
  ·rw[h]at e;cases e
 have h5:=hh.unbind hd (.inr (by omega));have hS:∀b,wT β b→wT (upB β (2*d+1) (j+1) none) b:=fun b hb K J e=>by
  unfold upB at e;split at e
  ·cases e
  ·exact hb _ _ e
 have hlt:j<cs.length:=by rcases hj with hj|hj<;>exact(pI.1 hj).1
 have h6:=h5.rebox (d:=d) (B:=B) (T:=T') (us:=us) (cs:=cs.set j (.own 0 T k [])) (by rw[qO _ _ (by omega)];exact g1) g2 (by simp[g3]) fun q y u hy hu=>by
  by_cases hq:j=q
  ·subst hq;rw[dE hlt]at hy;cases hy;have k1:u=.slice none 0 0:=by
    rcases hj with hj|hj
    ·exact(g4 j _ u hj hu).1
    ·have:=(g4 j _ u hj hu).1;generalize hz:Value.slice none 0 0=z at this;cases this;rfl
   subst k1;exact⟨⟨by simp,by rw[zK];rfl,[],World.ownsRow_nil _ _ _ _,.nil⟩,rfl,rfl⟩
  ·rw[dQ hq]at hy;obtain⟨k1,k2,k3⟩:=g4 q y u hy hu;exact⟨k1.keep (fun b hb _=>⟨hS b hb,rfl⟩) (fun _=>by rw[qO _ _ (by omega)]) (fun _ _ _=>rfl) (fun K J hK=>absurd hK (jF k3 K J)),k2,k3⟩
 refine⟨_,h6.less fun K c e=>?_⟩;have e2:=qD (u:=[(2*d+1,some (Cell.bx (cs.set j (.own 0 T k []))))]) (st:=st);rw[app1]at e2;rw[show lk ((2*d+1,some (Cell.bx (cs.set j (.own 0 T k []))))::st)=upd (lk st) (2*d+1) (some (.bx (cs.set j (.own 0 T k []))))from e2]at e;exact e
theorem wK4{c:Code}(d j k:Nat)(T:TypeId){cs cs':List SV}(h:lk st (2*d+1)=some (.bx cs))(hj:cs[j]? = some (.v (.raw (.slice none 0 0))))(hc:cs.set j (.own 0 T k [])=cs')(hv:VW P w0 n c Q ((2*d+1,some (.bx cs'))::st)):VW P w0 n c Q st:=by subst hc;exact wGC _ (wT6 h (.inr hj)) fun _=>hv
theorem vw_nilOwnB{c:Code}(d j k:Nat)(T:TypeId){cs cs':List SV}(h:lk st (2*d+1)=some (.bx cs))(hj:cs[j]? = some .nils)(hc:cs.set j (.own 0 T k [])=cs')(hv:VW P w0 n c Q ((2*d+1,some (.bx cs'))::st)):VW P w0 n c Q st:=by subst hc;exact wGC _ (wT6 h (.inl hj)) fun _=>hv
theorem wYI{c:Code}(s d:Nat){cs:List SV}{r:List V}(h:lk st (2*s)=some (.sv (.bx d 0)))(hb:lk st (2*d+1)=some (.bx cs))(hr:asVs cs=some r)(hv:VW P w0 n c Q ((2*s,some (.sv (.v (.ref r))))::(2*d+1,none)::st)):VW P w0 n c Q st:=wLD (wXJ h hb hr) hv
def toV1N:Value→Option V
 |.slice none 0 0=>some (.raw (.slice none 0 0))
 |v=>toV1 v
def toVsN:List Value→Option (List V)
 |[]=>some []
 | v::vs=>match toV1N v with
  |none=>none
  |some x=>match toVsN vs with
   |none=>none
   |some xs=>some (x::xs)
theorem toV1N_rep{S:Nat→Prop}{w:World}{v:Value}{x:V}(e:toV1N v=some x):Rep S w x v∧x.one=true:=by
 unfold toV1N at e;split at e
 ·cases e;exact⟨.raw rfl,rfl⟩
 ·exact wS1 e
theorem wWA{S:Nat→Prop}{w:World}:∀{vs:List Value}{xs:List V},toVsN vs=some xs→RepL S w xs vs∧wW xs=true
 |[],xs,e=>by cases e;exact⟨.nil,rfl⟩
 | v::vs,xs,e=>by
  simp only[toVsN]at e;cases h1:toV1N v with
  |none=>rw[h1]at e;cases e
  | some x=>
   rw[h1]at e;dsimp only at e;cases h2:toVsN vs with
   |none=>rw[h2]at e;cases e
   |some ys=>rw[h2]at e;cases e;have a:=toV1N_rep (S:=S) (w:=w) h1;have b:=wWA (S:=S) (w:=w) h2;exact⟨.cons a.1 b.1,by simp only[wW,List.all_cons,a.2,Bool.true_and];exact b.2⟩
theorem wF2{C:Cx}{o:Oper}(hC:CxOk P C){t:TypeId}{ps:Array (Nat×Operand)}{fs:Array Field}{i:TypeInfo}{z:Value}{zc r:List V}{pl:List (Nat×Nat)}{xs:List (Nat×V)}(hop:o.op=.build t ps)(ht:C.und t=some (.struct fs))(hi:C.tys.get t=some i)(hz:i.zero=some z)(hzc:toVsN z.cells.toList=some zc)(hpl:wYJ C fs.toList=some pl)(hx:yW (lk st) ps.toList=some xs)(hr:wFI (fun i=>pl[i]?) zc xs=some r)(hd:dLt n o.dst=true):wM P w0 n o (rdP ps.toList) (dput o.dst (some (.sv (.v (.agg r))))) [] (lk st):=
 qE hd fun f hf β a w hh=>by
  have hp:=hh.pairs (l:=ps.toList) (r:=xs) (by rw[xN hf];exact hx);obtain⟨g1,g2⟩:=wWA (S:=wT β) (w:=w) hzc;obtain⟨rs,h1,h2,h3⟩:=wLE hp g1 g2 hr;refine⟨.agg rs,?_,by have:=Rep.agg h3 h2;simpa using this⟩;have hm:=wH6 (w:=w) hC _ _ hpl;have hpl':(fs.mapM fun f=>do pure (f.offset,←sizeOf f.type):Sem (Array (Nat×Nat))).run P w=.ok pl.toArray w:=by rw[←cS (xs:=fs),fW];simp only[Sem.run_map,hm,Result.andThen_ok]
  have hzr:(zeroValue t).run P w=.ok z w:=by simp[zeroValue,typeInfo,hC.tys _ _ hi,hz]
  have hfl:Instr.fill (pl.toArray[·]?) z.cells (ps.map fun(i,x)=>(i,a.eval x)).toList=some rs:=by
   rw[←h1];congr 1
   ·funext i;simp
   ·simp
  have hb:(Instr.build t (ps.map fun(i,x)=>(i,a.eval x))).run P w=.ok (.agg rs) w:=by simp only[Instr.build,Sem.run_bind,hzr,Result.andThen_ok,wO hC ht,hpl'];rw[hfl];rfl
  simp only[execOp,hop];rw[Sem.run_bind,hb];rfl
theorem rr_vfx{C:Cx}{o:Oper}{id k:Nat}{dr:Bool}{st0:St}{acc:List Stp}{rd:List Nat}{nw:List (Nat×Nat)}{u:St}(hC:CxOk P C)(l:List Operand){gr:List Nat}{g:List Nat×St}(ho:ops.toList[k]? = some o)(hg:gRd n ops (lk st) o=some gr)(hf:wJC (lk st) l=g)(h:vop C (id*1000+k+1) n (lk (g.2++st)) o=some (rd,u,nw))(hn:nw.all (kH st)=true)(hk:RR P w0 n id ops dr Q st0 (k+1) (⟨gr++(rd++g.1),u++g.2,nw⟩::acc) ((u++g.2)++st)):RR P w0 n id ops dr Q st0 k acc st:=by subst hf;exact rr_g ho hg (wM.ghost wJ2.1 qAC (by rw[←qD];exact wK5 hC h)) hn hk
theorem wM.more{o:Oper}{rd:List Nat}{nw:List (Nat×Nat)}{u:St}{f:Fm}(ex:List Nat)(h:wM P w0 n o rd u nw f):wM P w0 n o (rd++ex) u nw f:=fun g hg=>h g fun k hk=>hg k (cB _ hk)
theorem rr_alloc{C:Cx}{o:Oper}{id k d:Nat}{dr:Bool}{st0:St}{acc:List Stp}{rd:List Nat}{nw:List (Nat×Nat)}{u:St}{t:TypeId}(hC:CxOk P C){gr:List Nat}(ho:ops.toList[k]? = some o)(hal:o.op=.alloc t)(hd:o.dst=some d)(hg:gRd n ops (lk st) o=some gr)(h:vop C (id*1000+k+1) n (lk st) o=some (rd,u,nw))(hn:nw.all (kH st)=true)(hk:RR P w0 n id ops dr Q st0 (k+1) (⟨gr++(rd++[2*d+1]),u,nw⟩::acc) (u++st)):RR P w0 n id ops dr Q st0 k acc st:=
 rr_g ho hg (wM.more [2*d+1] (wK5 hC h)) hn hk
theorem wYH{x y:Code}{B:Type}(T:B→St)(I:B→Prop)(hfl:∀b,flat (T b)=true)(hx:VW P w0 n x (thenV (fun st'=>∃b,I b∧sub (T b) (lk st')) Q) st)(hy:∀b,I b→VW P w0 n y Q (T b)):VW P w0 n x (thenV (fun st'=>VW P w0 n y Q st') Q) st:=fun a w hh=>
 wpIn_mono (hx a w hh) fun e a w hq=>by
  obtain⟨st',h1,h2⟩:=hq;cases e with
  |normal=>obtain⟨b,g1,g2⟩:=h1;exact⟨T b,hy b g1,h2.sub g2 (hfl _)⟩
  |_=>exact⟨st',h1,h2⟩
theorem nilVB_ok{d j:Nat}{cs:List SV}(h:lk st (2*d+1)=some (.bx cs))(hj:cs[j]? = some .nils):∀a w,Hs w0 n (lk st) a w→∃_:Unit,Hs w0 n (lk ((2*d+1,some (.bx (cs.set j (.v (.list [])))))::st)) a w:=by
 rintro a w ⟨β,hh⟩;refine⟨(),β,?_⟩;obtain⟨B,T',us,g1,g2,g3,g4⟩:=hh.box d cs h;have hlt:j<cs.length:=(pI.1 hj).1;have h6:=hh.rebox (d:=d) (B:=B) (T:=T') (us:=us) (cs:=cs.set j (.v (.list []))) g1 g2 (by simp[g3]) fun q y u hy hu=>by
  by_cases hq:j=q
  ·subst hq;rw[dE hlt]at hy;cases hy;have k1:u=.slice none 0 0:=(g4 j _ u hj hu).1;subst k1;exact⟨Rep.nils,rfl,rfl⟩
  ·rw[dQ hq]at hy;exact g4 q y u hy hu
 have e2:=qD (u:=[(2*d+1,some (Cell.bx (cs.set j (.v (.list [])))))]) (st:=st);rw[app1]at e2;rw[show lk ((2*d+1,some (.bx (cs.set j (.v (.list [])))))::st)=upd (lk st) (2*d+1) (some (.bx (cs.set j (.v (.list [])))))from e2];exact h6
theorem qC4{c:Code}(d j:Nat){cs cs':List SV}(h:lk st (2*d+1)=some (.bx cs))(hj:cs[j]? = some .nils)(hc:cs.set j (.v (.list []))=cs')(hv:VW P w0 n c Q ((2*d+1,some (.bx cs'))::st)):VW P w0 n c Q st:=by subst hc;exact wGC _ (nilVB_ok h hj) fun _=>hv
theorem unpin_ok{s d:Nat}{u0:Value}{cs:List SV}(h:lk st (2*s)=some (.sv (.rp d u0 0)))(hb:lk st (2*d+1)=some (.bx cs)):∀a w,Hs w0 n (lk st) a w→∃_:Unit,Hs w0 n (lk ((2*s,some (.sv (.bx d 0)))::st)) a w:=by
 rintro a w ⟨β,hh⟩;obtain⟨B,T,us,g1,_⟩:=hh.box d cs hb;have hs:=hh.slot s _ h;obtain⟨⟨B',hr,hv⟩,h2⟩:=hs;refine⟨(),β,?_⟩;have h3:=hh.reslot (d:=s) (x:=.bx d 0) rfl (fun B1 hB1=>by rw[g1]at hB1;cases hB1;have:=h2 B g1;rw[hr]at this;cases this;exact hv)
 rw[show lk ((2*s,some (.sv (.bx d 0)))::st)=upd (lk st) (2*s) (some (.sv (.bx d 0)))from by have e:=qD (u:=[(2*s,some (Cell.sv (.bx d 0)))]) (st:=st);rw[app1]at e;exact e]
 exact h3
theorem vw_unpin{c:Code}(s d:Nat){u0:Value}{cs:List SV}(h:lk st (2*s)=some (.sv (.rp d u0 0)))(hb:lk st (2*d+1)=some (.bx cs))(hv:VW P w0 n c Q ((2*s,some (.sv (.bx d 0)))::st)):VW P w0 n c Q st:=wGC _ (unpin_ok h hb) fun _=>hv
theorem vw_to{x:Code}(T:St)(hfl:flat T=true)(hs:sub T (lk st))(h:VW P w0 n x Q T):VW P w0 n x Q st:=fun a w hh=>h a w (hh.sub hs hfl)
theorem vw_toF{ops:Array Oper}{dr:Bool}(id:Nat)(T T':St)(hfl:flat T=true)(hs:sub T (lk st))(hfr:VW P w0 n (.region id ops dr) Q T'→VW P w0 n (.region id ops dr) Q T)(h:RR P w0 n id ops dr Q T' 0 [] T'):VW P w0 n (.region id ops dr) Q st:=vw_to T hfl hs (hfr (wA7 h))
end
end Go.Vl
namespace Go.Proofs.YtdcjmnfngabhoaaGreat
open Go.RowKit Go.Ev Go.Vl
theorem wl{w0:Base}{n:Nat}{st:St}{Q:kS}{ops:Array Oper}{o:Oper}{id k d:Nat}{dr:Bool}{st0:St}{acc:List Stp}{rd:List Nat}{nw:List (Nat×Nat)}{u:St}{t:TypeId}{gr:List Nat}(hk:RR Tryz.prog w0 n id ops dr Q st0 (k+1) (⟨gr++(rd++[2*d+1]),u,nw⟩::acc) (u++st))(ho:ops.toList[k]? = some o:=by exact rfl)(hal:o.op=.alloc t:=by exact rfl)(hd:o.dst=some d:=by exact rfl)(hg:gRd n ops (lk st) o=some gr:=by exact rfl)(h:vop qJ (id*1000+k+1) n (lk st) o=some (rd,u,nw):=by exact rfl)(hn:nw.all (kH st)=true:=by exact rfl):RR Tryz.prog w0 n id ops dr Q st0 k acc st:=rr_alloc wE ho hal hd hg h hn hk
theorem hid{p:Prop}(h:p):Hid p:=h
def wL(lo hi:Nat)(w:World)(v:Value)(xs:List Nat):Prop:=
 ∃ ad cap,v=.slice ad xs.length cap∧xs.length≤cap∧(ad=none→cap=0)∧(∀x,x∈xs→x<4294967296) ∧
  (xs≠[]→∃b off,ad=some ⟨b,off,none⟩∧lo≤b∧b<hi∧(∀i,i<xs.length→w.cell? ⟨b,off+i,none⟩=some (.int .u32 (xs.getD i 0:Nat))) ∧
   (0<lo→∃row,w.heap[b]? = some (.cells row 130 (0,0))))
theorem wL.nil{lo hi:Nat}{w:World}:wL lo hi w (.slice none 0 0) []:=
 ⟨none,0,rfl,pC _,fun _=>rfl,(by simp),fun h=>absurd rfl h⟩
theorem wL.keep{lo hi:Nat}{w w':World}{v:Value}{xs:List Nat}(h:wL lo hi w v xs)(hk:∀b,lo≤b→b<hi→w'.heap[b]? = w.heap[b]?):wL lo hi w' v xs:=by obtain⟨ad,cap,hv,hc,hn,hx,hne⟩:=h;refine⟨ad,cap,hv,hc,hn,hx,fun h=>?_⟩;obtain⟨b,off,ha,hl,hh,hcell,hu⟩:=hne h;exact⟨b,off,ha,hl,hh,fun i hi=>(World.cell?_of_block (hk b hl hh)).trans (hcell i hi),fun h0=>by rw[hk b hl hh];exact hu h0⟩
theorem wL.below{lo hi B:Nat}{w w':World}{v:Value}{xs:List Nat}(h:wL lo hi w v xs)(hb:Below B w w')(hB:hi≤B):wL lo hi w' v xs:=
 h.keep fun b _ hh=>hb.block b (by omega)
theorem wL.wide{lo hi lo' hi':Nat}{w:World}{v:Value}{xs:List Nat}(h:wL lo hi w v xs)(h1:lo'≤lo)(h2:hi≤hi'):wL lo' hi' w v xs:=by obtain⟨ad,cap,hv,hc,hn,hx,hne⟩:=h;refine⟨ad,cap,hv,hc,hn,hx,fun h=>?_⟩;obtain⟨b,off,ha,hl,hh,hcell,hu⟩:=hne h;exact⟨b,off,ha,by omega,by omega,hcell,fun h0=>hu (by omega)⟩
theorem wL.pre{lo hi:Nat}{w:World}{ad:Option Addr}{n cap:Nat}{xs:List Nat}(h:wL lo hi w (.slice ad n cap) xs)(k:Nat)(hk:k≤xs.length) :
  wL lo hi w (.slice ad k cap) (xs.take k):=by
 obtain⟨ad',cap',hv,hc,hnn,hx,hne⟩:=h;simp only[Value.slice.injEq]at hv;obtain⟨rfl,_,rfl⟩:=hv;refine⟨ad,cap,by rw[pV,cQ hk],by rw[pV];omega,hnn,fun x h=>hx x (dP h),fun h=>?_⟩;obtain⟨b,off,ha,hl,hh,hcell,hu⟩:=hne (by intro e;subst e;simp at h);refine⟨b,off,ha,hl,hh,fun i hi=>?_,hu⟩;rw[pV]at hi
 have:(xs.take k).getD i 0=xs.getD i 0:=by simp[List.getD_eq_getElem?_getD,show i<k by omega]
 rw[this];exact hcell i (by omega)
def qF(xs:List Nat):List Nat:=(xs.reverse.dropWhile (·==0)).reverse
theorem vX(xs:List Nat):qF (xs++[0])=qF xs:=by simp[qF]
theorem wK7(xs:List Nat)(x:Nat)(h:x≠0):qF (xs++[x])=xs++[x]:=by simp[qF,h]
theorem j4{α:Type}(xs:List α)(d:α)(m:Nat)(h:m<xs.length):xs.take (m+1)=xs.take m++[xs.getD m d]:=by rw[pD1 h];simp[List.getD_eq_getElem?_getD,h]
theorem zQ(xs:List Nat):(qF xs).length≤xs.length:=by have:=(List.dropWhile_sublist (l:=xs.reverse) (·==0)).length_le;simpa[qF]using this
theorem wO8(xs:List Nat)(x:Nat)(h:x∈qF xs):x∈xs:=by have:=(List.dropWhile_sublist (l:=xs.reverse) (·==0)).mem (by simpa[qF]using h);simpa using this
structure Elem(P:Program)(t e:TypeId)(z:Value)(size bytes:Nat):Prop where
 sl:P.underlying t=some (.slice e)
 row:(P.info? e).map (fun i=>(i.zero,i.size,i.bytes))=some (some z,size,bytes)
 zs:z.cells.size=size
 pos:0<size
section laws
variable{P:Program}{w w0:World}{ops:Array Oper}{rest:List Oper}{o:Oper}{a:Act}{Q:Exit→Act→World→Prop}{t e:TypeId}{z:Value}{size bytes:Nat}
theorem qC1(E:Elem P t e z size bytes)(hg:o.guard=none)(l c:Operand)(hop:o.op=.makeSlice t l c)(B:Nat)(L C:Int)(kl kc:IntKind)(n k:Nat)(hl:a.eval l=.int kl L)(hc:a.eval c=.int kc C)(hL:L=(n:Int))(hC:C=(k:Int))(hnk:n≤k)(hb:bytes*k≤281474976710656)(h63:k≤maxLen)(hbl:Below B w0 w)(hB:B≤w.heap.size)(h:∀w',w'.ownsRow B e size (.slice (some ⟨w.heap.size,0,none⟩) n k) n ((madeCells z.cells (k*size)).toList.take (n*size))→Below B w0 w'→w.grownBy w' none→
   wpList P ops Q rest (a.put o.dst (.slice (some ⟨w.heap.size,0,none⟩) n k)) w') :
  wpList P ops Q (o::rest) a w:=by
 refine wpList_plain hg fun K hK=>?_;obtain⟨i,hi,hz,hs,hby⟩:=info_parts E.row;subst hL hC;have h63':(k:Int)≤9223372036854775807:=by have h:=h63;simp[maxLen]at h;omega
 have hb':(i.bytes:Int)*(k:Int)≤281474976710656:=by
  subst hby;have h:((i.bytes*k:Nat):Int)≤281474976710656:=by omega
  rwa [bC]at h
 have hr:=run_make (P:=P) w t e i z E.sl hi hz kl kc n k (by omega) (by omega) hb' h63';simp only[Int.toNat_natCast,hs]at hr;unfold Oper.wp;simp[execOp,hop,hl,hc,hr,Result.andThen];refine hK _ _ (h _ ⟨?_,.inr ⟨w.heap.size,k,_,rfl,hB,heap_alloc_new w _,hnk,h63,size_madeCells _ _,rfl⟩⟩ (hbl.alloc hB _) (World.grownBy_alloc w _ none));rw[pV,cR,size_madeCells,cQ (mR _ hnk)]
theorem qC2(E:Elem P t e z size bytes)(hg:o.guard=none)(s x:Operand)(ho:o.op=.call { callee:=.builtin .append,args:=#[s,x],argTypes:=#[t,t] })
  (B n m c:Nat) (v:Value) (xs:List Value) (arr:Array Value) (hown:w.ownsRow B e size v n xs) (hs:a.eval s=v) (hx:a.eval x=.slice (some ⟨w.heap.size,0,none⟩) m c)
  (hl:arr.size=m*size) (h1:∀u,u∈arr.toList→u.oneCell'=true)
  (hb:(n+m)*bytes≤140737488355328) (hm:0<m) (h63:n+m≤maxLen) (hbl:Below B w0 w) (hB:B≤w.heap.size)
  (h:∀g' c' w',w'.ownsRow B e size (.slice (some ⟨g',0,none⟩) (n+m) c') (n+m) (xs++arr.toList)→Below B w0 w'→(w.alloc (.cells arr e)).grownBy w' v.ownBlock→
   wpList P ops Q rest (a.put o.dst (.slice (some ⟨g',0,none⟩) (n+m) c')) w') :
  wpList P ops Q (o::rest) a (w.alloc (.cells arr e)):=by
 obtain⟨i,hi,hz,hsz,hby⟩:=info_parts E.row;refine wpList_append_own _ hg s x t ho B e i z size bytes E.sl hi hz hsz hby E.zs E.pos v n xs hs (hown.alloc _) ⟨w.heap.size,0,none⟩ m c arr.toList hx (by simpa using hl) ?_ h1 h63 hb
  (by simp;omega) ?_
 ·intro j u hj;rw[Addr.add_lit];have:=cell_of_row (w.alloc (.cells arr e)) w.heap.size (0+j) arr e (0,0) (heap_alloc_new w _);rw[this];simpa using hj
 ·intro v' w' hown' hgr hnil;have hsh:∃g' c',v'=.slice (some ⟨g',0,none⟩) (n+m) c':=by
   rcases hown'.2 with⟨h1,_⟩|⟨g',c',_,h1,_⟩
   ·have:=(hnil.1 h1).2;omega
   ·exact⟨g',c',h1⟩
  obtain⟨g',c',rfl⟩:=hsh;refine h g' c' w' hown' ((hbl.alloc hB _).grown hgr (by simp;omega) ?_) hgr;intro k hk;exact((hown.lt) k hk).1
theorem wYF(E:Elem P t e z 1 bytes)(hg:o.guard=none)(d s:Operand)(sT:TypeId)(ho:o.op=.call { callee:=.builtin .copy,args:=#[d,s],argTypes:=#[t,sT] })
  (B g n cap sCap:Nat) (ad:Addr) (xs cs:List Value) (hd:a.eval d=.slice (some ⟨g,0,none⟩) n cap) (hs:a.eval s=.slice (some ad) n sCap)
  (hown:w.ownsRow B e 1 (.slice (some ⟨g,0,none⟩) n cap) n xs) (hcs:cs.length=n) (hsrc:∀j v,cs[j]? = some v→w.cell? (ad.add j)=some v) (h1:∀v,v∈cs→v.oneCell'=true)
  (hbl:Below B w0 w)
  (h:∀w',w'.ownsRow B e 1 (.slice (some ⟨g,0,none⟩) n cap) n cs→Below B w0 w'→w.grownBy w' (some g)→wpList P ops Q rest (a.put o.dst (goInt n)) w') :
  wpList P ops Q (o::rest) a w:=by
 have hBg:B≤g:=(hown.lt g rfl).1;obtain⟨i,hi,hz,hsz,hby⟩:=info_parts E.row;rcases hown.2 with⟨h',_⟩|⟨g',cap',cur,h',hbg,hgg,hnc,hcm,hcs',htake⟩
 ·simp at h'
 ·simp only[Value.slice.injEq,Option.some.injEq,Addr.mk.injEq,and_true,true_and]at h';obtain⟨rfl,rfl⟩:=h';have hf:(0:Nat)+cs.length≤cur.size:=by rw[hcs',hcs];omega
  refine wpList_copy_own hg d s t sT ho e E.sl (by simp[hi,hsz]) g 0 n cap ad n sCap hd hs cur e hgg cs (by simp[hcs]) hsrc hf h1 ?_;rw[hcs];refine h _ ⟨by simpa using hcs,.inr ⟨g,cap,_,rfl,hbg,setRow_heap w g cur _ e _ hgg,hnc,hcm,?_,?_⟩⟩ (below_setRow hbl hBg _)
   ⟨rfl,rfl,rfl,by simp[World.setRow],fun k _ hk=>setRow_other w g k _ (fun e=>hk (by simp[e]))⟩
  ·simp;omega
  ·simp[←hcs]
end laws
def zS(xs:List Nat):List Value:=xs.map fun x=>.int .u32 (x:Nat)
theorem qC9(xs:List Nat):∀v,v∈zS xs→v.oneCell'=true:=by intro v hv;obtain⟨x,_,rfl⟩:=pO.1 hv;rfl
theorem wL.ofOwn{B:Nat}{w:World}{v:Value}{n:Nat}{xs:List Nat}(h:w.ownsRow B 130 1 v n (zS xs))(hx:∀x,x∈xs→x<4294967296) :
  wL B w.heap.size w v xs:=by
 have hn:xs.length=n:=by simpa[zS]using h.1
 rcases h.2 with⟨rfl,rfl⟩|⟨g,cap,cur,rfl,hb,hg,hc,hm,hs,ht⟩
 ·obtain rfl:xs=[]:=mM hn;exact wL.nil
 ·refine⟨_,cap,by rw[hn],by omega,(by simp),hx,fun _=>⟨g,0,rfl,hb,(mD.1 hg).1,fun i hi=>?_,fun _=>⟨cur,hg⟩⟩⟩;rw[cell_of_row w g (0+i) cur 130 (0,0) hg,dG]
  have:(zS xs)[i]? = some (.int .u32 (xs.getD i 0:Nat)):=by simp[zS,List.getD_eq_getElem?_getD,hi]
  rw[←this,←ht,mQ,if_pos (by omega)];simp
theorem jP{B:Nat}{w:World}{e:TypeId}{g n cap:Nat}{xs:List Nat}(h:w.ownsRow B e 1 (.slice (some ⟨g,0,none⟩) n cap) n (zS xs))(i:Nat)(hi:i<n) :
  w.cell? ⟨g,i,none⟩=some (.int .u32 (xs.getD i 0:Nat))∧w.frozen? ⟨g,i,none⟩=false:=by
 have hn:xs.length=n:=by simpa[zS]using h.1
 refine⟨?_,h.frozenAt i⟩;rw[h.cellAt i (by omega)];simp[zS,List.getD_eq_getElem?_getD,show i<xs.length by omega]
def wP8(n:Nat):List Nat:=List.replicate n 0
theorem wRA(n k:Nat):(wP8 n).getD k 0=0:=by simp[wP8,List.getD_eq_getElem?_getD,List.getElem?_replicate];split<;>rfl
theorem zM{P:Program}{w w0:World}{ops:Array Oper}{rest:List Oper}{o:Oper}{a:Act}{Q:Exit→Act→World→Prop}{t e:TypeId}(E:Elem P t e (.int .u32 0) 1 4)(hg:o.guard=none)(l c:Operand)(hop:o.op=.makeSlice t l c)(B:Nat)(L C:Int)(kl kc:IntKind)(n k:Nat)(hl:a.eval l=.int kl L)(hc:a.eval c=.int kc C)(hL:L=(n:Int))(hC:C=(k:Int))(hnk:n≤k)(hb:k≤70368744177664)(hbl:Below B w0 w)(hB:B≤w.heap.size)(h:∀w',w'.ownsRow B e 1 (.slice (some ⟨w.heap.size,0,none⟩) n k) n (zS (wP8 n))→Below B w0 w'→w.grownBy w' none→
   wpList P ops Q rest (a.put o.dst (.slice (some ⟨w.heap.size,0,none⟩) n k)) w') :
  wpList P ops Q (o::rest) a w:=by
 refine qC1 E hg l c hop B L C kl kc n k hl hc hL hC hnk (by omega) (by unfold maxLen;omega) hbl hB ?_;intro w' h1 h2 h3;refine h w' ?_ h2 h3;have e:(madeCells (Value.int .u32 0).cells (k*1)).toList.take (n*1)=zS (wP8 n):=by
  have:(Value.int .u32 0).cells=#[Value.int .u32 0]:=rfl
  rw[this,toList_madeCells_one];simp[zS,wP8,Nat.min_eq_left hnk]
 rwa [e]at h1
theorem jQ{B:Nat}{w:World}{e:TypeId}{g n cap:Nat}{cur:List Nat}(h:w.ownsRow B e 1 (.slice (some ⟨g,0,none⟩) n cap) n (zS cur))(i y:Nat) :
  (w.setCell ⟨g,i,none⟩ (.int .u32 (y:Nat))).ownsRow B e 1 (.slice (some ⟨g,0,none⟩) n cap) n (zS (cur.set i y))∧w.grownBy (w.setCell ⟨g,i,none⟩ (.int .u32 (y:Nat))) (some g):=by
 have:=h.stored i (.int .u32 (y:Nat));have e:(zS cur).set i (.int .u32 (y:Nat))=zS (cur.set i y):=by simp[zS,List.map_set]
 rwa [e]at this
theorem zF{B:Nat}{w:World}{e:TypeId}{v:Value}{n:Nat}{cur:List Nat}(h:w.ownsRow B e 1 v n (zS cur)):cur.length=n:=by simpa[zS]using h.1
theorem z7{α:Type}(l:List α)(i:Nat)(y:α)(h:i<l.length):(l.set i y).take (i+1)=l.take i++[y]:=by rw[pD1 (by simpa using h)];simp[List.take_set_of_le]
theorem wJJ{B:Nat}{w wr:World}(hb:Below B w wr){p:Addr}{v:Value}(hc:w.cell? p=some v)(hB:w.heap.size≤B):wr.cell? p=some v:=
 (hb.cell (mN (World.block_lt_of_cell? w p hc) hB)).trans hc
theorem wL.open{lo hi:Nat}{w:World}{v:Value}{xs:List Nat}(h:wL lo hi w v xs) :
  ∃ad cap,v=.slice ad xs.length cap∧xs.length≤cap∧(ad=none→cap=0)∧(∀x,x∈xs→x<4294967296) ∧
   (∀i,i<xs.length→∃b off,ad=some ⟨b,off,none⟩∧lo≤b∧b<hi∧w.cell? ⟨b,off+i,none⟩=some (.int .u32 (xs.getD i 0:Nat))):=by
 obtain⟨ad,cap,hv,hc,hn,hx,hne⟩:=h;refine⟨ad,cap,hv,hc,hn,hx,fun i hi=>?_⟩;obtain⟨b,off,ha,hl,hh,hcell,_⟩:=hne (by intro e;subst e;simp at hi);exact⟨b,off,ha,hl,hh,hcell i hi⟩
theorem wL8{B:Nat}{a w:World}(h:Below B a w)(n:Nat):Below B a (w.drewN n):=⟨h.os,h.tape,h.output,h.size,h.block⟩
def qK(w:World)(g:Nat)(T:TypeId)(cs:List Value):Prop:=w.heap[g]? = some (.cells cs.toArray T (0,0))
theorem qK.lt{w:World}{g:Nat}{T:TypeId}{cs:List Value}(h:qK w g T cs):g<w.heap.size:=(mD.1 h).1
theorem qK.cell{w:World}{g:Nat}{T:TypeId}{cs:List Value}(h:qK w g T cs)(i:Nat)(v:Value)(hi:cs[i]? = some v):w.cell? ⟨g,i,none⟩=some v:=by rw[cell_of_row w g i cs.toArray T (0,0) h];simpa using hi
theorem qK.frozen{w:World}{g:Nat}{T:TypeId}{cs:List Value}(h:qK w g T cs)(i:Nat):w.frozen? ⟨g,i,none⟩=false:=frozen_of_row w g i cs.toArray T h
theorem qK.keep{w w':World}{g:Nat}{T:TypeId}{cs:List Value}(h:qK w g T cs)(hk:w'.heap[g]? = w.heap[g]?):qK w' g T cs:=hk.trans h
theorem qK.below{B:Nat}{w w':World}{g:Nat}{T:TypeId}{cs:List Value}(h:qK w g T cs)(hb:Below B w w')(hg:g<B):qK w' g T cs:=h.keep (hb.block g hg)
theorem qK.later{w w':World}{g:Nat}{T:TypeId}{cs:List Value}(h:qK w g T cs)(hb:Below w.heap.size w w'):qK w' g T cs:=h.below hb h.lt
theorem qK.new(w:World)(arr:Array Value)(T:TypeId):qK (w.alloc (.cells arr T)) w.heap.size T arr.toList:=heap_alloc_new w _
theorem qK.alloc{w:World}{g:Nat}{T:TypeId}{cs:List Value}(h:qK w g T cs)(o:Obj):qK (w.alloc o) g T cs:=h.keep (Below.heap_alloc w o g h.lt)
theorem qK.set{w:World}{g:Nat}{T:TypeId}{cs:List Value}(h:qK w g T cs)(i:Nat)(v:Value):qK (w.setCell ⟨g,i,none⟩ v) g T (cs.set i v):=by have:=heap_setCell_same w g i cs.toArray T v h;simpa[qK]using this
theorem qK.other{w:World}{g:Nat}{T:TypeId}{cs:List Value}(h:qK w g T cs)(p:Addr)(v:Value)(hp:g≠p.block):qK (w.setCell p v) g T cs:=h.keep (Below.heap_setCell _ _ _ _ hp)
theorem qK.two{w:World}{g:Nat}{T:TypeId}{a b:Value}(h:qK w g T [a,b]) :
  w.cell? ⟨g,0,none⟩=some a∧w.cell? ⟨g,1,none⟩=some b∧w.frozen? ⟨g,0,none⟩=false∧w.frozen? ⟨g,1,none⟩=false:=
 ⟨h.cell 0 a rfl,h.cell 1 b rfl,h.frozen 0,h.frozen 1⟩
theorem qK.one{w:World}{g:Nat}{T:TypeId}{a:Value}(h:qK w g T [a]):w.cell? ⟨g,0,none⟩=some a∧w.frozen? ⟨g,0,none⟩=false:=⟨h.cell 0 a rfl,h.frozen 0⟩
theorem boxA(w:World)(a:Array Value)(T:TypeId):Below w.heap.size w (w.alloc (.cells a T))∧qK (w.alloc (.cells a T)) w.heap.size T a.toList∧(w.alloc (.cells a T)).heap.size=w.heap.size+1:=
 ⟨(Below.refl _ _).alloc (pC _) _,qK.new _ _ _,by simp⟩
theorem boxAB(w:World)(a b:Array Value)(T U:TypeId):Below w.heap.size w ((w.alloc (.cells a T)).alloc (.cells b U))∧qK ((w.alloc (.cells a T)).alloc (.cells b U)) w.heap.size T a.toList ∧
  qK ((w.alloc (.cells a T)).alloc (.cells b U)) (w.heap.size+1) U b.toList∧((w.alloc (.cells a T)).alloc (.cells b U)).heap.size=w.heap.size+2:=by
 refine⟨((Below.refl _ _).alloc (pC _) _).alloc (by simp) _,(qK.new _ _ _).alloc _,?_,by simp⟩;have:=qK.new (w.alloc (.cells a T)) b U;simpa using this
theorem boxABC(w:World)(a b c:Array Value)(T U V:TypeId):Below w.heap.size w (((w.alloc (.cells a T)).alloc (.cells b U)).alloc (.cells c V)) ∧
  qK (((w.alloc (.cells a T)).alloc (.cells b U)).alloc (.cells c V)) w.heap.size T a.toList∧qK (((w.alloc (.cells a T)).alloc (.cells b U)).alloc (.cells c V)) (w.heap.size+1) U b.toList ∧
  qK (((w.alloc (.cells a T)).alloc (.cells b U)).alloc (.cells c V)) (w.heap.size+2) V c.toList∧(((w.alloc (.cells a T)).alloc (.cells b U)).alloc (.cells c V)).heap.size=w.heap.size+3:=by
 obtain⟨h1,h2,h3,h4⟩:=boxAB w a b T U;refine⟨h1.alloc (by simp;omega) _,h2.alloc _,h3.alloc _,?_,by simp⟩;have:=qK.new ((w.alloc (.cells a T)).alloc (.cells b U)) c V;simpa using this
theorem getD_eq(xs:List Nat)(k:Nat)(h:k<xs.length):xs.getD k 0=xs[k]:=by simp[List.getD_eq_getElem?_getD,h]
theorem qF6(xs:List Nat)(k:Nat)(h:k<xs.length):xs.getD k 0∈xs:=by rw[getD_eq xs k h];exact fK h
theorem wB8(xs:List Nat)(k:Nat)(h:xs.length≤k):xs.getD k 0=0:=by rw[pE,pW h];rfl
theorem wL.shape{lo hi:Nat}{w:World}{v:Value}{xs:List Nat}(h:wL lo hi w v xs):∃ad cap,v=.slice ad xs.length cap:=by obtain⟨ad,cap,hv,_⟩:=h;exact⟨ad,cap,hv⟩
def wBG(k:IntKind)(lo hi:Nat)(w:World)(v:Value)(xs:List Nat):Prop:=
 ∃ad cap,v=.slice ad xs.length cap∧xs.length≤cap∧(ad=none→cap=0) ∧
  (xs≠[]→∃b off,ad=some ⟨b,off,none⟩∧lo≤b∧b<hi∧∀i,i<xs.length→w.cell? ⟨b,off+i,none⟩=some (.int k (xs.getD i 0:Nat)))
def numsC(k:IntKind)(xs:List Nat):List Value:=xs.map fun x=>.int k (x:Nat)
theorem wBG.nil{k:IntKind}{lo hi:Nat}{w:World}:wBG k lo hi w (.slice none 0 0) []:=⟨none,0,rfl,pC _,fun _=>rfl,fun h=>absurd rfl h⟩
theorem wBG.keep{k:IntKind}{lo hi:Nat}{w w':World}{v:Value}{xs:List Nat}(h:wBG k lo hi w v xs)(hk:∀b,lo≤b→b<hi→w'.heap[b]? = w.heap[b]?):wBG k lo hi w' v xs:=by obtain⟨ad,cap,hv,hc,hn,hne⟩:=h;refine⟨ad,cap,hv,hc,hn,fun h=>?_⟩;obtain⟨b,off,ha,hl,hh,hcell⟩:=hne h;exact⟨b,off,ha,hl,hh,fun i hi=>(World.cell?_of_block (hk b hl hh)).trans (hcell i hi)⟩
theorem wBG.below{k:IntKind}{lo hi B:Nat}{w w':World}{v:Value}{xs:List Nat}(h:wBG k lo hi w v xs)(hb:Below B w w')(hB:hi≤B):wBG k lo hi w' v xs:=
 h.keep fun b _ hh=>hb.block b (by omega)
theorem wBG.set{k:IntKind}{lo hi:Nat}{w:World}{v:Value}{xs:List Nat}(h:wBG k lo hi w v xs)(p:Addr)(u:Value)(hp:p.block<lo∨hi≤p.block):wBG k lo hi (w.setCell p u) v xs:=
 h.keep fun b h1 h2=>Below.heap_setCell _ _ _ _ (by omega)
theorem wBG.wide{k:IntKind}{lo hi lo' hi':Nat}{w:World}{v:Value}{xs:List Nat}(h:wBG k lo hi w v xs)(h1:lo'≤lo)(h2:hi≤hi'):wBG k lo' hi' w v xs:=by obtain⟨ad,cap,hv,hc,hn,hne⟩:=h;refine⟨ad,cap,hv,hc,hn,fun h=>?_⟩;obtain⟨b,off,ha,hl,hh,hcell⟩:=hne h;exact⟨b,off,ha,by omega,by omega,hcell⟩
theorem wBG.open{k:IntKind}{lo hi:Nat}{w:World}{v:Value}{xs:List Nat}(h:wBG k lo hi w v xs) :
  ∃ad cap,v=.slice ad xs.length cap∧xs.length≤cap ∧
   (∀i,i<xs.length→∃b off,ad=some ⟨b,off,none⟩∧lo≤b∧b<hi∧w.cell? ⟨b,off+i,none⟩=some (.int k (xs.getD i 0:Nat))):=by
 obtain⟨ad,cap,hv,hc,hn,hne⟩:=h;refine⟨ad,cap,hv,hc,fun i hi=>?_⟩;obtain⟨b,off,ha,hl,hh,hcell⟩:=hne (by intro e;subst e;simp at hi);exact⟨b,off,ha,hl,hh,hcell i hi⟩
theorem wBG.tail{k:IntKind}{lo hi:Nat}{w:World}{b off cap x:Nat}{xs:List Nat}(h:wBG k lo hi w (.slice (some ⟨b,off,none⟩) (x::xs).length cap) (x::xs)) :
  wBG k lo hi w (.slice (some (if cap=1 then⟨b,off,none⟩else⟨b,off+1,none⟩)) xs.length (cap-1)) xs:=by
 obtain⟨ad,cap',hv,hc,hn,hne⟩:=h;simp only[Value.slice.injEq]at hv;obtain⟨rfl,_,rfl⟩:=hv;simp only[List.length_cons]at hc;refine⟨_,_,rfl,by omega,by simp,fun h=>?_⟩;obtain⟨b',off',ha,hl,hh,hcell⟩:=hne (by simp);simp only[Option.some.injEq,Addr.mk.injEq,and_true]at ha;obtain⟨rfl,rfl⟩:=ha;have hp:0<xs.length:=pE6.2 h;refine⟨b,off+1,by rw[if_neg (by omega)],hl,hh,fun i hi=>?_⟩;have:=hcell (i+1) (by simp;omega);rw[cA,fZ 1 i,this];simp
theorem wBG.ofOwn{k:IntKind}{B:Nat}{w:World}{e:TypeId}{v:Value}{n:Nat}{xs:List Nat}(h:w.ownsRow B e 1 v n (numsC k xs)):wBG k B w.heap.size w v xs:=by
 have hn:xs.length=n:=by simpa[numsC]using h.1
 rcases h.2 with⟨rfl,rfl⟩|⟨g,cap,cur,rfl,hb,hg,hc,hm,hs,ht⟩
 ·obtain rfl:xs=[]:=mM hn;exact wBG.nil
 ·refine⟨_,cap,by rw[hn],by omega,(by simp),fun _=>⟨g,0,rfl,hb,(mD.1 hg).1,fun i hi=>?_⟩⟩;rw[cell_of_row w g (0+i) cur e (0,0) hg,dG]
  have:(numsC k xs)[i]? = some (.int k (xs.getD i 0:Nat)):=by simp[numsC,List.getD_eq_getElem?_getD,hi]
  rw[←this,←ht,mQ,if_pos (by omega)];simp
def wC:List Nat→Nat
 |[]=>0
 |x::xs=>x+4294967296*wC xs
def toL(n:Nat):List Nat:=if h:n=0 then[]else n%4294967296::toL (n/4294967296)
 termination_by n
 decreasing_by exact pH5 (pF3 h) (by decide)
theorem qW:toL 0=[]:=by rw[toL];simp
theorem wLF{n:Nat}(h:n≠0):toL n=n%4294967296::toL (n/4294967296):=by rw[toL];simp[h]
theorem wK(n:Nat):wC (toL n)=n:=by
 induction n using Nat.strongRecOn with
 |ind n ih=>
  by_cases h:n=0
  ·subst h;rw[qW];rfl
  ·rw[wLF h,wC,ih _ (pH5 (pF3 h) (by decide))];omega
theorem qX(n:Nat):∀x,x∈toL n→x<4294967296:=by
 induction n using Nat.strongRecOn with
 | ind n ih=>
  by_cases h:n=0
  ·subst h;rw[qW];simp
  ·rw[wLF h];intro x hx;rcases pU.1 hx with rfl|hx
   ·omega
   ·exact ih _ (pH5 (pF3 h) (by decide)) x hx
theorem wB3(xs:List Nat)(x:Nat):wC (xs++[x])=wC xs+4294967296^xs.length*x:=by
 induction xs with
 |nil=>simp[wC]
 |cons y ys ih=>simp only[List.cons_append,wC,ih,List.length_cons,Nat.pow_succ];rw[mE,cA];congr 2;rw[mL (_^_) 4294967296,mJ]
theorem wO6{P:Program}{w w0:World}{ops:Array Oper}{rest:List Oper}{o:Oper}{a:Act}{Q:Exit→Act→World→Prop}{t e:TypeId}(E:Elem P t e (.int .u32 0) 1 4)(hg:o.guard=none)(s x:Operand)(ho:o.op=.call { callee:=.builtin .append,args:=#[s,x],argTypes:=#[t,t] })
  (B n:Nat) (v v2:Value) (cells:List Value) (ys:List Nat) (lo hi:Nat) (hown:w.ownsRow B e 1 v n cells) (hL:wL lo hi w v2 ys) (hs:a.eval s=v) (hx:a.eval x=v2)
  (hb:n+ys.length≤35184372088832) (hbl:Below B w0 w) (hB:B≤w.heap.size)
  (h:∀v' w',w'.ownsRow B e 1 v' (n+ys.length) (cells++zS ys)→Below B w0 w'→w.grownBy w' v.ownBlock→(v'=.slice none 0 0↔v=.slice none 0 0∧ys=[])→
   wpList P ops Q rest (a.put o.dst v') w') :
  wpList P ops Q (o::rest) a w:=by
 obtain⟨i,hi',hz,hsz,hby⟩:=info_parts E.row;obtain⟨ad,cap,rfl,hc,hn,hlt,hcell⟩:=hL;have hBk:∀k,v.ownBlock=some k→B≤k:=fun k hk=>(hown.lt k hk).1;cases ad with
 |none=>
  have hc0:=hn rfl;have hl0:ys=[]:=mM (by omega);subst hl0;subst hc0;refine wpList_plain hg fun K hK=>?_;have hr:=run_append_owned_none (P:=P) w B t o.type e i 1 E.sl hi' v n cells hown;have hx':a.eval x=.slice none 0 0:=by simpa using hx
  unfold Oper.wp;simp[execOp,ho,resolve,invoke,builtin,hs,hx',hr,Result.andThen];exact hK _ _ (h v w (by simpa[zS]using hown) hbl (World.grownBy.refl _ _) (by simp))
 | some ad=>
  refine wpList_append_own _ hg s x t ho B e i _ 1 4 E.sl hi' hz hsz hby E.zs E.pos v n cells hs hown ad ys.length cap (zS ys) hx (by simp[zS]) ?_ (qC9 _) (by unfold maxLen;omega) (by omega) hB ?_
  ·intro j u hj;have hjl:j<ys.length:=by
    have:=(pI.1 hj).1;simpa[zS]using this
   obtain⟨b,off,ha,_,_,hcc,_⟩:=hcell (by intro e;subst e;simp at hjl);simp only[Option.some.injEq]at ha;subst ha;rw[Addr.add_lit,hcc j hjl,←hj];simp[zS,List.getD_eq_getElem?_getD,hjl]
  ·intro v' w' h1 h2 h3;refine h v' w' h1 (hbl.grown h2 hB hBk) h2 ?_;rw[h3];constructor
   ·rintro⟨h4,h5⟩;exact⟨h4,mM h5⟩
   ·rintro⟨h4,h5⟩;exact⟨h4,by simp[h5]⟩
theorem wMB{w:World}{B:Nat}{e:TypeId}{s n:Nat}{v:Value}{xs:List Value}(h:w.ownsRow B e s v n xs)(p:Addr)(u:Value)(hp:v.ownBlock≠some p.block):(w.setCell p u).ownsRow B e s v n xs:=by
 refine⟨h.1,?_⟩;rcases h.2 with hn|⟨g,cap,cur,rfl,hbg,hgg,rest⟩
 ·exact .inl hn
 ·refine .inr ⟨g,cap,cur,rfl,hbg,?_,rest⟩;rw[Below.heap_setCell _ _ _ _ (by intro e;exact hp (by simp[Value.ownBlock,e]))];exact hgg
theorem qP(xs:List Nat)(hx:∀x,x∈xs→x<4294967296):wC xs<4294967296^xs.length:=by
 induction xs with
 |nil=>simp[wC]
 |cons y ys ih=>have h1:=ih fun x h=>hx x (pZ _ h);have h2:=hx y (pT ..);simp only[wC,List.length_cons,Nat.pow_succ];omega
theorem trimL_cons(x:Nat)(xs:List Nat):qF (x::xs)=if qF xs=[]∧x=0 then[]else x::qF xs:=by
 unfold qF;simp only[List.reverse_cons,List.dropWhile_append];by_cases h:xs.reverse.dropWhile (·==0)=[]
 ·by_cases hx:x=0<;>simp[h,hx]
 ·have:¬(List.dropWhile (fun x=>x==0) xs.reverse).reverse=[]:=by simpa using h
  simp[h]
theorem qT(xs:List Nat)(hx:∀x,x∈xs→x<4294967296):qF xs=toL (wC xs):=by
 induction xs with
 |nil=>simp[wC,qW,qF]
 | cons y ys ih=>
  have h1:=ih fun x h=>hx x (pZ _ h);have h2:=hx y (pT ..);rw[trimL_cons,h1];by_cases h0:y+4294967296*wC ys=0
  ·have hy:wC ys=0:=by omega
   have hy0:y=0:=by omega
   simp[wC,hy,hy0,qW]
  ·rw[wC,wLF h0,show(y+4294967296*wC ys)%4294967296=y from by omega,show(y+4294967296*wC ys)/4294967296=wC ys from by omega];rw[if_neg];rintro⟨h3,h4⟩
   have:wC (toL (wC ys))=0:=by rw[h3];rfl
   rw[wK]at this;omega
theorem zU(n k:Nat)(h:n<4294967296^k):(toL n).length≤k:=by
 induction k generalizing n with
 | zero => obtain rfl:n=0:=by simpa using h
           simp[qW]
 |succ k ih=>
  by_cases h0:n=0
  ·subst h0;simp[qW]
  ·rw[wLF h0,mX];have:=ih (n/4294967296) (by rw[mS]at h;exact pD9 (by rw[mL];exact h));omega
theorem jZ(xs:List Nat)(hx:∀x,x∈xs→x<4294967296):(toL (wC xs)).length≤xs.length:=
 zU _ _ (qP xs hx)
theorem wI7(n:Nat):toL n=[]↔n=0:=by
 constructor
 ·intro h;rw[←wK n,h];rfl
 ·intro h;rw[h,qW]
theorem own_base{w:World}{B B':Nat}{e:TypeId}{s n:Nat}{v:Value}{xs:List Value}(h:w.ownsRow B' e s v n xs)(hb:B≤B'):w.ownsRow B e s v n xs:=by
 refine⟨h.1,?_⟩;rcases h.2 with hn|⟨g,cap,cur,rfl,hbg,rest⟩
 ·exact .inl hn
 ·exact .inr ⟨g,cap,cur,rfl,by omega,rest⟩
theorem wN3(xs ys:List Nat):wC (xs++ys)=wC xs+4294967296^xs.length*wC ys:=by
 induction xs with
 |nil=>simp[wC]
 |cons x xs ih=>simp only[List.cons_append,wC,ih,List.length_cons,Nat.pow_succ];rw[mE,cA];congr 2;rw[mL (_^_) 4294967296,mJ]
theorem qB(xs:List Nat)(i:Nat):wC (xs.take (i+1))=wC (xs.take i)+4294967296^i*xs.getD i 0:=by
 by_cases h:i<xs.length
 ·rw[j4 xs 0 i h,wB3,pV,cQ (by omega)]
 ·rw[pR (by omega),pR (by omega),wB8 xs i (by omega)];simp
theorem zE(xs:List Nat)(i:Nat)(h:xs.length≤i):wC (xs.take i)=wC xs:=by rw[pR h]
theorem getD_lt(xs:List Nat)(h:∀x,x∈xs→x<4294967296)(i:Nat):xs.getD i 0<4294967296:=by
 by_cases hi:i<xs.length
 ·exact h _ (qF6 xs i hi)
 ·rw[wB8 xs i (by omega)];decide
theorem wL7(P a b c s A Bv x y z:Nat)(h:A+P*c=Bv)(hs:x+y+c=s)(hz:z=s/4294967296)(ha:a=A+P*(s%4294967296))(hb:b=Bv+P*x+P*y) :
  a+P*4294967296*z=b:=by
 subst ha hb hz
 have:s=s%4294967296+4294967296*(s/4294967296):=by omega
 have e:P*s=P*(s%4294967296)+P*4294967296*(s/4294967296):=by
  conv=>lhs;rw[this]
  rw[mE,mJ]
 have e2:P*s=P*x+P*y+P*c:=by rw[←hs,mE,mE]
 omega
theorem wIA(cur:List Nat)(n i y:Nat)(hl:cur.length=n)(hi:i<n):wC ((cur.set i y).take (i+1))=wC (cur.take i)+4294967296^i*y:=by rw[z7 _ _ _ (by omega),wB3,pV,cQ (by omega)]
theorem jX(cur:List Nat)(i y:Nat)(h:∀x,x∈cur→x<4294967296)(hy:y<4294967296):∀x,x∈cur.set i y→x<4294967296:=by
 intro x hx;rcases dO hx with h1|h1
 ·exact h x h1
 ·rw[h1];exact hy
theorem wD4(n:Nat):∀x,x∈wP8 n→x<4294967296:=by intro x hx;rw[List.eq_of_mem_replicate hx];decide
theorem wFH(P v c:Nat)(h:v<P)(hc:P*c≤v):c=0:=by
 rcases mO c with h0|h0
 ·exact h0
 ·have:P*1≤P*c:=mK _ h0
  omega
theorem sum_lt(n:Nat)(xs ys:List Nat)(h1:xs.length≤n)(h2:ys.length≤n)(hx:∀x,x∈xs→x<4294967296)(hy:∀x,x∈ys→x<4294967296) :
  wC xs+wC ys<4294967296^(n+1):=by
 have p1:=qP xs hx;have p2:=qP ys hy;have q1:4294967296^xs.length≤4294967296^n:=mT (by decide) h1;have q2:4294967296^ys.length≤4294967296^n:=mT (by decide) h2;rw[mS];generalize 4294967296^n=P at *
 omega
theorem prod_lt(xs:List Nat)(d:Nat)(hx:∀x,x∈xs→x<4294967296)(hd:d<4294967296):wC xs*d<4294967296^(xs.length+1):=by have p1:=qP xs hx;rw[mS];exact fL p1 hd
theorem wZ(xs:List Nat)(k:Nat):wC (xs.drop k)=xs.getD k 0+4294967296*wC (xs.drop (k+1)):=by
 by_cases h:k<xs.length
 ·rw[bM h,wC,getD_eq xs k h]
 ·rw[mA (by omega),mA (by omega),wB8 xs k (by omega)];simp[wC]
theorem qR(xs:List Nat)(k:Nat):wC xs=wC (xs.take k)+4294967296^k*wC (xs.drop k):=by
 induction k with
 |zero=>simp[wC]
 |succ k ih=>rw[ih,qB,wZ xs k,mS,mE,mJ,cA]
theorem kB(xs:List Nat)(k:Nat)(hx:∀x,x∈xs→x<4294967296):wC (xs.take k)<4294967296^k:=by
 have h:=qP (xs.take k) fun x h=>hx x (dP h)
 have:4294967296^(xs.take k).length≤4294967296^k:=mT (by decide) (by rw[pV];omega)
 exact mN h this
theorem wR7(xs ys:List Nat)(k:Nat)(hx:∀x,x∈xs→x<4294967296)(h:wC (xs.drop k)<wC (ys.drop k)):wC xs<wC ys:=by
 rw[qR xs k,qR ys k];have h1:=kB xs k hx;generalize 4294967296^k=P at *
 generalize wC (xs.drop k)=a at *
 generalize wC (ys.drop k)=b at *
 have:P*(a+1)≤P*b:=mK _ h
 rw[mE]at this;omega
theorem wJ5(xs ys:List Nat)(m x y:Nat)(hx:xs.getD m 0=x)(hy:ys.getD m 0=y)(h:wC (xs.drop (m+1))=wC (ys.drop (m+1)))(hlt:x<y):wC (xs.drop m)<wC (ys.drop m):=by rw[wZ xs m,wZ ys m,hx,hy,h];omega
theorem wWF(P a c s A Bv x y z:Nat)(h:A+Bv=a+P*c)(hs:s+y+c=4294967296+x)(hz:z=1-s/4294967296)(hs2:s<8589934592) :
  A+P*(s%4294967296)+(Bv+P*y)=a+P*x+P*4294967296*z:=by
 have e:P*s+P*y+P*c=P*4294967296+P*x:=by have:=congrArg (P * ·) hs;simp only[Nat.mul_add]at this;exact this
 have e2:P*s=P*(s%4294967296)+P*4294967296*(s/4294967296):=by rw[mJ,←mE,Nat.mod_add_div]
 generalize P*(s%4294967296)=u at *
 rcases pK s 4294967296 with h1|h1
 ·have h0:s/4294967296=0:=by omega
  rw[h0]at e2 hz;subst hz;rw[dU]at e2;rw[Nat.sub_zero,pC8];generalize P*4294967296=PB at *
  generalize P*s=ps at *
  generalize P*y=py at *
  generalize P*c=pc at *
  generalize P*x=px at *
  omega
 ·have h0:s/4294967296=1:=by omega
  rw[h0]at e2 hz;subst hz;rw[pC8]at e2;rw[bU,dU];generalize P*4294967296=PB at *
  generalize P*s=ps at *
  generalize P*y=py at *
  generalize P*c=pc at *
  generalize P*x=px at *
  omega
def uL(xs:List Nat):List (List V):=xs.map fun x=>[V.int .u32 (x:Nat)]
def vL(xs:List Nat):V:=.list (uL xs)
def vN(n:Nat):V:=vL (toL n)
def okL(xs:List Nat):Prop:=∀x,x∈xs→x<4294967296
theorem w9(xs:List Nat):(uL xs).length=xs.length:=by simp[uL]
theorem wRJ(xs:List Nat):∀e∈uL xs,e.length=1:=by intro e he;obtain⟨x,_,rfl⟩:=pO.1 he;rfl
theorem kC(xs:List Nat)(i:Nat)(h:i<xs.length):(uL xs)[i]? = some [V.int .u32 (xs.getD i 0:Nat)]:=by simp[uL,List.getElem?_eq_getElem h,List.getD]
theorem uL_flat(xs:List Nat):(uL xs).flatten=xs.map fun x=>V.int .u32 (x:Nat):=by
 induction xs with
 |nil=>rfl
 |cons x xs ih=>simp only[uL,List.map_cons,List.flatten_cons]at ih ⊢;rw[ih];rfl
section
variable{S:Nat→Prop}{w:World}{v:Value}{xs:List Nat}
theorem ints_rep(xs:List Nat):RepL S w (xs.map fun x=>V.int .u32 (x:Nat)) (xs.map fun x=>Value.int .u32 (x:Nat)):=by
 induction xs with
 |nil=>exact .nil
 |cons x xs ih=>exact .cons (.int _ _) ih
theorem wXF:∀{xs:List Nat}{us:List Value},RepL S w (xs.map fun x=>V.int .u32 (x:Nat)) us→us=xs.map fun x=>Value.int .u32 (x:Nat)
 |[],us,h=>by cases h;rfl
 |x::xs,us,h=>by
  simp only[List.map_cons]at h;cases h with
  |cons h t=>cases h;rw[wXF t];rfl
theorem qH(h:Rep S w (vL xs) v)(hx:okL xs):wL 0 w.heap.size w v xs:=by
 unfold vL at h;generalize hes:uL xs=es at h;cases h with
 |nils=>have:=congrArg List.length hes;rw[w9]at this;obtain rfl:xs=[]:=mM this;exact wL.nil
 |emp p cap=>have:=congrArg List.length hes;rw[w9]at this;obtain rfl:xs=[]:=mM this;exact⟨some p,cap,rfl,pN _,by simp,by simp,fun h=>absurd rfl h⟩
 |@list k _ us b off cap hk ho hc hl hb hu=>subst hes;rw[uL_flat]at hl;have e:=wXF hl;rw[w9]at hc ⊢;refine⟨_,cap,rfl,hc,by simp,hx,fun hne=>?_⟩;have hb':=hb (by intro e;have:=congrArg List.length e;rw[w9]at this;exact hne (mM this));refine⟨b,off,rfl,pN _,hb'.2,fun i hi=>?_,fun h=>by omega⟩;refine hu i _ ?_;rw[e];simp[List.getElem?_eq_getElem hi,List.getD]
theorem kO{lo hi:Nat}(h:wL lo hi w v xs)(hhi:hi≤w.heap.size)(hS:∀b,lo≤b→b<w.heap.size→S b):Rep S w (vL xs) v:=by
 obtain⟨ad,cap,rfl,hc,hn,hx,hne⟩:=h;by_cases he:xs=[]
 ·subst he;cases ad with
  |none=>obtain rfl:=hn rfl;exact .nils
  |some p=>exact .emp p cap
 ·obtain⟨b,off,rfl,hl,hh,hcell,_⟩:=hne he;have:=Rep.list (S:=S) (w:=w) (es:=uL xs) (us:=xs.map fun x=>Value.int .u32 (x:Nat)) (b:=b) (off:=off) (cap:=cap) (k:=1) (wRJ xs) (by
   intro e he;obtain⟨x,_,rfl⟩:=pO.1 he;rfl) (by rw[w9];exact hc) (by rw[uL_flat];exact ints_rep xs) (fun _=>⟨hS b hl (by omega),by omega⟩) (by
   intro j u hj;rw[pJ]at hj;cases hq:xs[j]? with
   |none=>rw[hq]at hj;cases hj
   |some q=>rw[hq]at hj;cases hj;have hjl:=(pI.1 hq).1;rw[hcell j hjl];simp[List.getD,hq])
  rw[w9]at this;exact this
end
theorem vC(lo hi:Nat)(v:Value)(xs:List Nat)(w:World)(h:wL lo hi w v xs)(hl:xs.length≤140737488355328) :
  Calls Tryz.prog 143 #[v] w fun e w'=>∃r,e=.returned r∧wL lo hi w r (qF xs)∧w=w':=by
 have h0:=h;obtain⟨ad,cap,rfl,hc,_,hx,hne⟩:=h
 go_enter Tryz.func143,Tryz.ntmps143
 go_wp2
 go_loop [0] (fun t=>∃k:Nat,t=.slice ad k cap∧k≤xs.length∧qF (xs.take k)=qF xs) (fun t=>match t with|.slice _ k _=>k|_=>0)
 case atStart=>exact⟨xs.length,rfl,pC _,by simp⟩
 case round=>
  obtain⟨k,rfl,hk,ht⟩:=hrel;have HT:=hid ht;clear ht;cases k with
  |zero=>
   go_wp2
   go_ret
   exact⟨_,rfl,by rw[←HT.out];exact h0.pre 0 (pN _),rfl⟩
  | succ m=>
   obtain⟨b,off,rfl,hlo,hhi,hcell,_⟩:=hne (by intro h;subst h;simp at hk);have hcm:=hcell m (by omega);clear hcell
   go_wp2
   ·have h1:((xs[m]?.getD 0:Nat)==(0:Int))=true:=by assumption
    refine⟨⟨m,rfl,by omega,?_⟩,by simp⟩;rw[←HT.out,j4 xs 0 m (by omega),pE,show xs[m]?.getD 0=0 from by simpa using h1,vX]
   ·have h1:((xs[m]?.getD 0:Nat)==(0:Int))=false:=by assumption
    go_ret
    refine⟨_,rfl,?_,rfl⟩;have e:qF xs=xs.take (m+1):=by rw[←HT.out,j4 xs 0 m (by omega),pE,wK7 _ _ (by simpa using h1)]
    rw[e];exact h0.pre (m+1) hk
theorem jT:Elem Tryz.prog 23 130 (.int .u32 0) 1 4:=
 ⟨Tryz.underlying23,by kernel_rfl,rfl,by decide⟩
theorem own_own(lo hi:Nat)(v:Value)(xs:List Nat)(w:World)(h:wL lo hi w v xs)(hl:xs.length≤35184372088832) :
  Calls Tryz.prog 144 #[v] w fun e w'=>∃r,e=.returned r∧w'.ownsRow w.heap.size 130 1 r (qF xs).length (zS (qF xs))∧(∀x,x∈qF xs→x<4294967296)∧Below w.heap.size w w':=by
 have hle:=zQ xs;have hcall:=vC lo hi v xs w h (by omega);revert hle hcall;generalize qF xs=ys;intro hle hcall
 go_enter Tryz.func144,Tryz.ntmps144
 go_wp2_with fail
 refine hcall.mono ?_;rintro e w' ⟨r,rfl,hr,rfl⟩;clear hcall h;obtain⟨ad,cap,rfl,hc,_,hx,hne⟩:=hr;by_cases hy:ys=[]
 ·subst hy
  go_wp2
  go_ret
  exact⟨_,rfl,World.ownsRow_nil _ _ _ _,by simp,Below.refl _ _⟩
 ·have hpos:0<ys.length:=pE6.2 hy;obtain⟨b,off,rfl,hlo,hhi,hcell,_⟩:=hne hy;clear hne;have hml:ys.length≤maxLen:=by unfold maxLen;omega
  have H:=hid hcell;clear hcell
  go_wp2_with (at_make;refine qC1 jT rfl _ _ rfl w.heap.size _ _ _ _ ys.length ys.length rfl rfl rfl rfl (pC _) (by omega) hml (Below.refl _ _) (pC _) ?_)
  intro w1 ho1 hb1 _
  go_wp2_with (with_reducible refine wYF jT rfl _ _ _ rfl w.heap.size w.heap.size ys.length ys.length cap ⟨b,off,none⟩ _ (zS ys) rfl rfl ho1 (by simp[zS]) ?c1 (qC9 _) hb1 ?_)
  case c1=>
   intro j v hj;have hjl:j<ys.length:=by have:=(pI.1 hj).1;simpa[zS]using this
   have hc1:=H.out j hjl;have hlt:=World.block_lt_of_cell? w _ hc1;rw[Addr.add_lit,hb1.cell (by exact hlt),hc1];rw[←hj];simp[zS,List.getD_eq_getElem?_getD,hjl]
  intro w2 ho2 hb2 _
  go_wp2
  go_ret
  exact⟨_,rfl,ho2,hx,hb2⟩
theorem wME(lo hi:Nat)(v:Value)(xs:List Nat)(w:World)(h:wL lo hi w v xs)(hl:xs.length≤35184372088832) :
  Calls Tryz.prog 144 #[v] w fun e w'=>∃r,e=.returned r∧wL w.heap.size w'.heap.size w' r (qF xs)∧Below w.heap.size w w':=
 (own_own lo hi v xs w h hl).mono fun _ _ ⟨r,h1,h2,h3,h4⟩=>⟨r,h1,wL.ofOwn h2 h3,h4⟩
theorem norm_own(lo hi:Nat)(v:Value)(xs:List Nat)(w:World)(h:wL lo hi w v xs)(hl:xs.length≤35184372088832) :
  Calls Tryz.prog 140 #[v] w fun e w'=>∃r,e=.returned r∧w'.ownsRow w.heap.size 130 1 r (qF xs).length (zS (qF xs))∧(∀x,x∈qF xs→x<4294967296)∧Below w.heap.size w w':=by
 have hcall:=own_own lo hi v xs w h hl;clear h hl
 go_enter Tryz.func140,Tryz.ntmps140
 go_wp2_with fail
 refine hcall.mono ?_;rintro e w' ⟨r,rfl,hr,hx,hb⟩;clear hcall
 go_wp2
 go_ret
 exact⟨_,rfl,hr,hx,hb⟩
theorem norm_any(lo hi:Nat)(v:Value)(xs:List Nat)(w:World)(h:wL lo hi w v xs)(hl:xs.length≤35184372088832) :
  Calls Tryz.prog 140 #[v] w fun e w'=>∃r,e=.returned r∧wL w.heap.size w'.heap.size w' r (qF xs)∧Below w.heap.size w w':=
 (norm_own lo hi v xs w h hl).mono fun _ _ ⟨r,h1,h2,h3,h4⟩=>⟨r,h1,wL.ofOwn h2 h3,h4⟩
end Go.Proofs.YtdcjmnfngabhoaaGreat
