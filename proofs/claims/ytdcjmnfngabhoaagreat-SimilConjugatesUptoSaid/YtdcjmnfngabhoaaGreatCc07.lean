/- Regions told one operation after the other; rows told by their values: tables. -/
import Derived.Test.YtdcjmnfngabhoaaGreatCc06
import Derived.RangeFuncIn
set_option linter.all false
set_option maxRecDepth 20000
set_option maxHeartbeats 6400000
set_option linter.all false
namespace Go.Vl
open Go.RowKit Go.Ev
section
variable{P:Program}{C:Cx}{w0:Base}{w w':World}{n:Nat}{β:Bl}{f:Fm}{st:St}{a:Act}{o:Oper}{Q:kS}{ops:Array Oper}
def kqn(w0:Base)(n:Nat)(Q:kS):Exit→Act→World→Prop:=fun e a w=>e=.normal∧kq w0 n Q .normal a w
def SQ(P:Program)(w0:Base)(n:Nat)(ops:Array Oper)(Q:kS)(k:Nat)(st:St):Prop:=∀a w,Hs w0 n (lk st) a w→wpOps P ops (kqn w0 n Q) (List.range' k (ops.size-k)) a w
theorem vw_sq{id:Nat}(hnd:vO ops=true)(h:SQ P w0 n ops Q 0 st):VW P w0 n (.region id ops false) Q st:=fun a w hh=>by
 refine wpIn_mono (Q:=kqn w0 n Q) (wpIn_region (wRC hnd (fun⟨_,_,h⟩=>by cases h.1) _ _ _ ?_)) fun e a w h=>by obtain⟨rfl,h⟩:=h;exact h
 rw[pD8];exact h a w hh
theorem wEH{k:Nat}(hk:Nat.beq k ops.size=true)(hQ:Q .normal st):SQ P w0 n ops Q k st:=fun a w hh=>by obtain rfl:=pQ hk;rw[bU];exact⟨rfl,st,hQ,hh⟩
theorem sq_ex{Z:Type}{k:Nat}(g:Z→St)(h0:∀a w,Hs w0 n (lk st) a w→∃z,Hs w0 n (lk (g z)) a w)(h:∀z,SQ P w0 n ops Q k (g z)):SQ P w0 n ops Q k st:=fun a w hh=>let⟨z,hz⟩:=h0 a w hh;h z a w hz
theorem wGC{Z:Type}{c:Code}(g:Z→St)(h0:∀a w,Hs w0 n (lk st) a w→∃z,Hs w0 n (lk (g z)) a w)(h:∀z,VW P w0 n c Q (g z)):VW P w0 n c Q st:=fun a w hh=>let⟨z,hz⟩:=h0 a w hh;h z a w hz
theorem sq_step{k:Nat}{x:Stp}(hk:k<ops.size)(h:wBD P w0 n ops k x (lk st))(hn:x.nw.all (kH st)=true)(hs:SQ P w0 n ops Q (k+1) (x.u++st)):SQ P w0 n ops Q k st:=fun a w hh=>by rw[show ops.size-k=(ops.size-(k+1))+1 by omega,gC,wpOps_cons];refine h (lk st) (fun _ _=>rfl) (fun K hK=>yL (pY.1 hn K hK)) a w hh _ _ fun a' w' h'=>?_;rw[←qD]at h';exact hs a' w' h'
theorem wM2{k:Nat}(ho:ops.toList[k]? = some o):k<ops.size:=by have:=(pI.1 ho).1;simpa using this
theorem wLI{k:Nat}{rd gr:List Nat}{u:St}{nw:List (Nat×Nat)}(ho:ops.toList[k]? = some o)(hg:gRd n ops (lk st) o=some gr)(h:wM P w0 n o rd u nw (lk st)):wBD P w0 n ops k ⟨gr++rd,u,nw⟩ (lk st):=by
 unfold gRd at hg;split at hg
 ·rename_i hgd;cases hg;exact wLH (by simpa using ho) hgd h
 ·rename_i j b hgd;split at hg
  ·cases hg
  ·rename_i d hd;split at hg
   ·rename_i c hc;cases hb:(Nat.blt d n&&(c==b))with
    |false=>rw[hb]at hg;cases hg
    |true=>rw[hb]at hg;cases hg;simp only[Bool.and_eq_true,beq_iff_eq]at hb;obtain⟨h1,rfl⟩:=hb;exact wEG (by simpa using ho) hgd hd (by simpa using h1) hc (fun _=>h) (fun h=>absurd rfl h)
   ·cases hg
theorem sq_g{k:Nat}{rd gr:List Nat}{u:St}{nw:List (Nat×Nat)}(ho:ops.toList[k]? = some o)(hg:gRd n ops (lk st) o=some gr)(h:wM P w0 n o rd u nw (lk st))(hn:nw.all (kH st)=true)(hk:SQ P w0 n ops Q (k+1) (u++st)):SQ P w0 n ops Q k st:=
 sq_step (x:=⟨gr++rd,u,nw⟩) (wM2 ho) (wLI ho hg h) hn hk
theorem sq_v(hC:CxOk P C){k:Nat}{rd gr:List Nat}{u:St}{nw:List (Nat×Nat)}(ho:ops.toList[k]? = some o)(hg:gRd n ops (lk st) o=some gr)(h:vop C (k+1) n (lk st) o=some (rd,u,nw))(hn:nw.all (kH st)=true)(hk:SQ P w0 n ops Q (k+1) (u++st)):SQ P w0 n ops Q k st:=
 sq_g ho hg (wK5 hC h) hn hk
theorem sq_opf{k:Nat}{rd gr:List Nat}{u:St}{nw:List (Nat×Nat)}{g:List Nat×St}(ho:ops.toList[k]? = some o)(hg:gRd n ops (lk st) o=some gr)(hf:wJC (lk st) (frzO o)=g)(h:wM P w0 n o rd u nw (lk (g.2++st)))(hn:nw.all (kH st)=true)(hk:SQ P w0 n ops Q (k+1) ((u++g.2)++st)):SQ P w0 n ops Q k st:=by subst hf;exact sq_g ho hg (wM.ghost wJ2.1 qAC (by rw[←qD];exact h)) hn hk
theorem wBJ{S:Nat→Prop}{u v:Value}(h:Rep S w (.raw u) v):v=u:=by cases h;rfl
section
variable{B0:Nat}{S:Nat→Prop}{K k r i:Nat}{T:TypeId}{L:List (Value×List (List V))}{u:Value}{es:List (List V)}{e:List V}
theorem vV.own(h:vV B0 S w β K T k L)(hr:L[r]? = some (u,es)):zX B0 S w (fun _ _=>u.ownBlock) 0 0 (.own 0 T k es) u:=by obtain⟨h1,⟨us,h2,h3⟩,_⟩:=h.1 _ (pF hr);exact⟨h1,rfl,us,h2,h3⟩
theorem vV.len(h:vV B0 S w β K T k L)(hr:L[r]? = some (u,es)):∃ad cap,u=.slice ad es.length cap:=wMC (h.own hr)
theorem vV.addr(h:vV B0 S w β K T k L)(hr:L[r]? = some (u,es))(hi:i<es.length):∃g cap,u=.slice (some ⟨g,0,none⟩) es.length cap:=by
 obtain⟨_,_,us,h3,_⟩:=h.own hr;rcases h3.2 with⟨_,h0⟩|⟨g,cap,cur,hv,_⟩
 ·omega
 ·exact⟨g,cap,hv⟩
theorem vV.cells(h:vV B0 S w β K T k L)(hr:L[r]? = some (u,es))(hi:es[i]? = some e):∃g us,u.ownBlock=some g∧RepL S w e us∧wW e=true∧e.length=k∧∀j v,us[j]? = some v→w.cell? ⟨g,i*k+j,none⟩=some v:=wX5 (h.own hr) hi
theorem vV.apart(h:vV B0 S w β K T k L)(hr:L[r]? = some (u,es)){q:Nat}{p:Value×List (List V)}(hq:L[q]? = some p)(hne:q≠r){B:Nat}(hB:u.ownBlock=some B):p.1.ownBlock≠some B:=by
 have hp:=List.pairwise_iff_getElem.1 h.2;obtain⟨h1,e1⟩:=pI.1 hr;obtain⟨h2,e2⟩:=pI.1 hq;rcases pB6 hne with hlt|hgt
 ·intro hpB;have:=hp q r h2 h1 hlt B (by rw[e2];exact hpB);rw[e1]at this;exact this hB
 ·have:=hp r q h1 h2 hgt B (by rw[e1];exact hB)
  rwa [e2]at this
end
theorem qG(hC:CxOk P C){x:Operand}{c:Call}{t elem T:TypeId}{u:Value}{j k r m:Nat}{L:List (Value×List (List V))}{es:List (List V)}(hop:o.op=.call c)(hk:c.callee=.builtin .len)(ha:c.args=#[x])(ht:c.argTypes=#[t])(hu:C.und t=some (.slice elem))(hx:opv (lk st) x=some (.v (.raw u)))(hfm:lk st (2*j+1)=some (.fam T k L))(hr:L[r]? = some (u,es))(hm:es.length=m)(hd:dLt n o.dst=true):wM P w0 n o (rdO x++[2*j+1]) (dput o.dst (some (.sv (.v (.int .i64 (m:Nat)))))) [] (lk st):=
 qE hd fun f hf β a w hh=>by obtain⟨h1,h2⟩:=qQ hf;have e1:=wBJ (hh.val (x:=x) (y:=.raw u) (by rw[wJ h1];exact hx));obtain⟨ad,cap,e⟩:=(hh.fm j T k L (by rw[h2 _ (by simp)];exact hfm)).len hr;rw[e,hm]at e1;exact⟨_,by simp[execOp,hop,resolve,hk,ha,ht,invoke,builtin,Builtin.len_,e1,wO hC hu];rfl,.int _ _⟩
theorem wV(hC:CxOk P C){x y:Operand}{t elem T:TypeId}{u:Value}{j k r i:Nat}{q:Int}{ki:IntKind}{L:List (Value×List (List V))}{es:List (List V)}(hop:o.op=.indexAddr t x y)(hx:opv (lk st) x=some (.v (.raw u)))(hy:opv (lk st) y=some (.v (.int ki q)))(hq:q=(i:Nat))(ht:C.und t=some (.slice elem))(hs:C.size elem=some k)(hfm:lk st (2*j+1)=some (.fam T k L))(hr:L[r]? = some (u,es))(hi:i<es.length)(hd:dLt n o.dst=true):wM P w0 n o (rdO x++(rdO y++[2*j+1])) (dput o.dst (some (.sv (.ar u k i 0)))) [] (lk st):=
 wBI hd rfl fun f hf β a w hh=>by subst hq;obtain⟨h1,h2⟩:=qQ hf;obtain⟨h3,h4⟩:=qQ h2;have e1:=wBJ (hh.val (x:=x) (y:=.raw u) (by rw[wJ h1];exact hx));have e2:=hh.val (x:=y) (y:=.int ki (i:Nat)) (by rw[wJ h3];exact hy);generalize hv:a.eval y=v at e2;cases e2;obtain⟨g,cap,e⟩:=(hh.fm j T k L (by rw[h4 _ (by simp)];exact hfm)).addr hr hi;have:=run_indexAt (P:=P) (w:=w) hC ht hs (b:=g) (off:=0) (cap:=cap) ki hi;refine⟨_,w,by simp only[execOp,hop,e1,e,hv];rw[Sem.run_bind,this];rfl,Below.refl _ _,fun K=>?_⟩;exact⟨g,by rw[e];rfl,by simp⟩
theorem HB.arp(hh:HB w0 n β f a w){x:Operand}{u:Value}{k i off:Nat}(hx:opv f x=some (.ar u k i off)):∃B,u.ownBlock=some B∧a.eval x=.pointer (some ⟨B,i*k+off,none⟩):=hh.any hx rfl 0 0
theorem qV(hC:CxOk P C){t T:TypeId}{x:Operand}{j k r i off:Nat}{u:Value}{L:List (Value×List (List V))}{es:List (List V)}{e:List V}{y:V}(hop:o.op=.load t x)(hx:opv (lk st) x=some (.ar u k i off))(hfm:lk st (2*j+1)=some (.fam T k L))(hr:L[r]? = some (u,es))(hi:es[i]? = some e)(ht:C.isAgg t=some false)(hy:e[off]? = some y)(hd:dLt n o.dst=true):wM P w0 n o (rdO x++[2*j+1]) (dput o.dst (some (.sv (.v y)))) [] (lk st):=
 qE hd fun f hf β a w hh=>by obtain⟨h1,h2⟩:=qQ hf;obtain⟨B,e1,e2⟩:=hh.arp (x:=x) (by rw[wJ h1];exact hx);obtain⟨g,us,g1,g2,g3,g4,g5⟩:=(hh.fm j T k L (by rw[h2 _ (by simp)];exact hfm)).cells hr hi;rw[e1]at g1;cases g1;obtain⟨v,k1,k2⟩:=g2.get off y hy;exact⟨v,by simp[execOp,hop,e2,Instr.loadAt,Instr.sureAddr,loadVar,zJ hC ht,g5 off v k1],k2⟩
theorem zG(hC:CxOk P C){t T:TypeId}{x:Operand}{j k r i off m:Nat}{u:Value}{L:List (Value×List (List V))}{es:List (List V)}{e:List V}{y:V}(hop:o.op=.load t x)(hx:opv (lk st) x=some (.ar u k i off))(hfm:lk st (2*j+1)=some (.fam T k L))(hr:L[r]? = some (u,es))(hi:es[i]? = some e)(ht:C.isAgg t=some true)(hs:C.size t=some m)(hm:off+m≤e.length)(hy:V.agg ((e.drop off).take m)=y)(hd:dLt n o.dst=true):wM P w0 n o (rdO x++[2*j+1]) (dput o.dst (some (.sv (.v y)))) [] (lk st):=
 qE hd fun f hf β a w hh=>by
  subst hy;obtain⟨h1,h2⟩:=qQ hf;obtain⟨B,e1,e2⟩:=hh.arp (x:=x) (by rw[wJ h1];exact hx);obtain⟨g,us,g1,g2,g3,g4,g5⟩:=(hh.fm j T k L (by rw[h2 _ (by simp)];exact hfm)).cells hr hi;rw[e1]at g1;cases g1;have hl:=g2.length;have hrun:=run_loadCells_list (P:=P) w ⟨B,i*k+off,none⟩ ((us.drop off).take m) fun j v hv=>by
   rw[zZ,cA];rw[mQ]at hv;split at hv
   ·rw[cW]at hv;exact g5 _ v hv
   ·cases hv
  rw[show((us.drop off).take m).length=m by simp;omega]at hrun;exact⟨.agg ((us.drop off).take m).toArray,by simp[execOp,hop,e2,Instr.loadAt,Instr.sureAddr,loadVar,zJ hC ht,wY hC hs,hrun],.agg (wHJ (wC7 g3 off) m) (g2.seg off m)⟩
theorem kM(hC:CxOk P C){t T:TypeId}{p x:Operand}{j k r i off m:Nat}{u:Value}{L L':List (Value×List (List V))}{es:List (List V)}{e:List V}{y:V}(hop:o.op=.store t p x)(hp:opv (lk st) p=some (.ar u k i off))(hfm:lk st (2*j+1)=some (.fam T k L))(hr:L[r]? = some (u,es))(hi:es[i]? = some e)(hx:opV (lk st) x=some y)(hnt:wB2 y=true)(hs:C.size t=some m)(hm:y.cells.length=m)(hfit:off+m≤k)(hdst:o.dst=none)(hL:L.set r (u,es.set i (over e off y.cells))=L') :
  wM P w0 n o (rdO p++(rdO x++[2*j+1])) [(2*j+1,some (.fam T k L'))] [] (lk st):=by
 subst hL;intro f hf _ a w ⟨β,hh⟩ K Q hK;obtain⟨h1,h2⟩:=qQ hf;obtain⟨h3,h4⟩:=qQ h2;have hv:=hh.valV (x:=x) (y:=y) (by rw[xG h3];exact hx);obtain⟨c1,c2⟩:=hv.cells (wH2 hnt);have hil:=(pI.1 hi).1;have hmem:e∈es:=pF hi;have hrl:=(pI.1 hr).1;have hq:f (2*j+1)=some (.fam T k L):=by rw[h4 _ (by simp)];exact hfm
 have hfo:=hh.fm j T k L hq;obtain⟨a1,⟨us,a3,a4⟩,a5⟩:=hfo.1 _ (pF hr);have hul:us.length=es.length*k:=a3.1;rcases a3.2 with⟨_,h0⟩|⟨g,cap,cur,hval,hbg,hg,hc,hm',hcs,ht⟩
 ·dsimp only at h0;omega
 dsimp only at a1 a4 a5 hval hc ht hul;have hug:u.ownBlock=some g:=by rw[hval];rfl
 have hB:β (2*j+1) (g+1)=some g:=a5 g hug;obtain⟨B,b1,e2⟩:=hh.arp (x:=p) (by rw[wJ h1];exact hp);rw[hug]at b1;cases b1;have hcl:=c1.length;have hik:i*k+k≤es.length*k:=by rw[←dY];exact mR _ hil
 have hck:es.length*k≤cap*k:=mR _ hc;have hst:=run_storeCells_at P g (i*k+off) T (a.eval x).cells.toList 0 cur w hg (by simp at hcl ⊢;omega) (c1.one c2);simp only[Nat.add_zero]at hst;have hsz:(a.eval x).cells.size=m:=by simp at hcl;omega
 have hrun:(execOp a.eval o).run P w=.ok .skip (w.setRow g (over cur.toList (i*k+off) (a.eval x).cells.toList).toArray):=by simp[execOp,hop,e2,Instr.storeAt,Instr.sureAddr,storeVar,wY hC hs,hsz,hst,over]
 unfold Oper.wp;rw[hrun,Oper.upon_skip,hdst];refine hK _ _ ?_;have hgr:=wA3 w g (over cur.toList (i*k+off) (a.eval x).cells.toList).toArray;have h5:=(hh.drop (2*j+1)).xfer (K1:=2*j+1) (J1:=g+1) (K2:=2*j+1) (J2:=g+1) (o:=β (2*j+1) (g+1)) (w':=w.setRow g (over cur.toList (i*k+off) (a.eval x).cells.toList).toArray) (by rw[hB];exact hgr) (.inl rfl) (wQ5 (upd_same _ _ _)) (wQ5 (upd_same _ _ _)) (fun h=>by omega);obtain⟨β',hβ'⟩:∃β',upB (upB β (2*j+1) (g+1) none) (2*j+1) (g+1) (β (2*j+1) (g+1))=β':=⟨_,rfl⟩
 have hsame:∀K J,β' K J=β K J:=fun K J=>by
  rw[←hβ'];unfold upB;split
  ·rename_i hh;rw[hh.1,hh.2]
  ·rfl
 rw[hβ']at h5;have hnb:∀b,wT β b→wT β' b:=fun b hb K J e=>hb K J (by rw[←hsame];exact e);have hel:e.length=k:=(a1 e hmem).1;have hol:(over e off y.cells).length=k:=by rw[vK _ _ _ (by omega)];exact hel
 have hflat:(es.set i (over e off y.cells)).flatten=over es.flatten (i*k+off) y.cells:=by
  rw[wTI (fun e he=>(a1 e he).1) i _ hil hol];have hs0:=wE2 (fun e he=>(a1 e he).1) i e hi;unfold over;rw[←hs0];have hfl:es.flatten.length=es.length*k:=wE3 fun e he=>(a1 e he).1;rw[fY,cQ (by omega)];have t1:List.take (i*k) es.flatten++(List.take off (List.drop (i*k) es.flatten)++y.cells++List.drop (off+y.cells.length) (List.take k (List.drop (i*k) es.flatten)))++List.drop (i*k+k) es.flatten =
    (List.take (i*k) es.flatten++List.take off (List.drop (i*k) es.flatten))++y.cells++(List.drop (off+y.cells.length) (List.take k (List.drop (i*k) es.flatten))++List.drop (i*k+k) es.flatten):=by simp only[List.append_assoc]
  rw[t1];have t2:List.take (i*k) es.flatten++List.take off (List.drop (i*k) es.flatten)=List.take (i*k+off) es.flatten:=by rw[List.take_add]
  have t3:List.drop (off+y.cells.length) (List.take k (List.drop (i*k) es.flatten))++List.drop (i*k+k) es.flatten=List.drop (i*k+off+y.cells.length) es.flatten:=by rw[fI,cM,show i*k+k=(i*k+(off+y.cells.length))+(k-(off+y.cells.length)) by omega,←cM (i:=k-(off+y.cells.length))];rw[fU,cA]
  rw[t2,t3]
 have hkeep:∀b,wT β b→b<w.heap.size→wT β' b∧(w.setRow g (over cur.toList (i*k+off) (a.eval x).cells.toList).toArray).heap[b]? = w.heap[b]?:=fun b hb hl=>⟨hnb b hb,hgr.block b hl (fun e=>by cases e;exact hb _ _ hB)⟩
 have hall':∀e'∈es.set i (over e off y.cells),e'.length=k∧wW e'=true:=fun e' he'=>by
  rcases dO he' with h|h
  ·exact a1 e' h
  ·subst h;exact⟨hol,wI0 (a1 e hmem).2 c2 off⟩
 have hnew:(w.setRow g (over cur.toList (i*k+off) (a.eval x).cells.toList).toArray).ownsRow w0.lo T k u (es.set i (over e off y.cells)).length (over us (i*k+off) (a.eval x).cells.toList):=by
  refine⟨by rw[vK _ _ _ (by simp at hcl ⊢;omega)];simpa using hul,.inr ⟨g,cap,_,by simpa using hval,hbg,setRow_heap w g cur _ T _ hg,by simpa using hc,hm',?_,?_⟩⟩
  ·rw[pC3,vK _ _ _ (by simp at hcl ⊢;omega)];simpa using hcs
  ·simp only[List.length_set];apply mB;intro j;rw[mQ];by_cases hj:j<es.length*k
   ·rw[if_pos hj,wDB _ _ _ (by simp at hcl ⊢;omega),wDB _ _ _ (by simp at hcl ⊢;omega)];split
    ·rfl
    ·rw[←ht,mQ,if_pos hj]
   ·rw[if_neg hj]
    symm
    apply pW;rw[vK _ _ _ (by simp at hcl ⊢;omega),hul];omega
 have h6:=h5.refam (d:=j) (k:=k) (T:=T) (L:=L.set r (u,es.set i (over e off y.cells))) (by
  refine⟨fun p hp=>?_,?_⟩
  ·obtain⟨q,hq'⟩:=cK hp;by_cases hqr:r=q
   ·subst hqr;rw[dE hrl]at hq';cases hq';exact⟨hall',⟨_,hnew,by rw[hflat];exact(a4.over c1 (i*k+off)).keep hkeep⟩,fun B hB'=>by rw[hsame];exact a5 B hB'⟩
   ·rw[dQ hqr]at hq';obtain⟨k1,⟨us2,k2,k3⟩,k4⟩:=hfo.1 p (pF hq');have hap:=hfo.apart hr hq' (fun e=>hqr e.symm) hug;refine⟨k1,⟨us2,wF8 k2 fun g2 hg2=>hgr.block g2 (kT k2 hg2).2 (fun e=>?_),k3.keep hkeep⟩,fun B hB'=>by rw[hsame];exact k4 B hB'⟩;cases e;exact hap hg2
  ·have hmap:(L.set r (u,es.set i (over e off y.cells))).map (·.1)=L.map (·.1):=by
    rw[gD];apply mB;intro q;by_cases hqr:r=q
    ·subst hqr;rw[dE (by simpa using hrl),pJ,hr];rfl
    ·rw[dQ hqr]
   have hp:∀M:List (Value×List (List V)),(M.Pairwise fun p q=>∀B,p.1.ownBlock=some B→q.1.ownBlock≠some B)↔(M.map (·.1)).Pairwise fun p q=>∀B,p.ownBlock=some B→q.ownBlock≠some B:=fun M=>by rw[List.pairwise_map]
   rw[hp,hmap,←hp];exact hfo.2)
 refine⟨β',?_⟩;rw[app1]
 rwa [wI6]at h6
end
section
variable{P:Program}{C:Cx}{w0:Base}{w w':World}{n:Nat}{β:Bl}{f:Fm}{st:St}{a:Act}{o:Oper}{Q:kS}{ops:Array Oper}
theorem qA9(k1 k2:Nat)(x y:Option Cell)(st:St):lk ((k1,x)::(k2,y)::st)=upd (upd (lk st) k2 y) k1 x:=by have:=qD (u:=[(k1,x),(k2,y)]) (st:=st);rw[zL,app1]at this;exact this
theorem name_ok{d j id k:Nat}{T:TypeId}{es:List (List V)}{L:List (Value×List (List V))}(hd:lk st (2*d)=some (.sv (.own id T k es)))(hj:lk st (2*j+1)=some (.fam T k L)∨(lk st (2*j+1)=none∧L=[])) :
  ∀a w,Hs w0 n (lk st) a w→∃u,Hs w0 n (lk ((2*d,some (.sv (.v (.raw u))))::(2*j+1,some (.fam T k (L++[(u,es)])))::st)) a w:=by
 rintro a w ⟨β,hh⟩;have hs:=hh.slot d _ hd;obtain⟨q,hq⟩:∃q,a.tmps.getD d undef=q:=⟨_,rfl⟩
 rw[hq]at hs;refine⟨q,?_⟩;rw[qA9];obtain⟨ad,cap,hsh⟩:=wMC hs;have hone:q.oneCell'=true:=by rw[hsh];rfl
 obtain⟨s1,s2,us,s3,s4⟩:=hs;have hL:vV w0.lo (wT β) w β (2*j+1) T k L:=by
  rcases hj with hj|⟨_,rfl⟩
  ·exact hh.fm j T k L hj
  ·exact⟨by simp,.nil⟩
 have hdd:upd (upd (lk st) (2*d) none) (2*j+1) none (2*d)=none:=by rw[upd_ne _ _ (by omega),upd_same]
 have hfin:∀β':Bl,HB w0 n β' (upd (upd (lk st) (2*d) none) (2*j+1) none) a w→vV w0.lo (wT β') w β' (2*j+1) T k (L++[(q,es)])→Hs w0 n (upd (upd (lk st) (2*j+1) (some (.fam T k (L++[(q,es)])))) (2*d) (some (.sv (.v (.raw q))))) a w:=fun β' h5 h6=>by
  have h7:=(h5.refam (d:=j) h6).reslot (d:=d) (x:=.v (.raw q)) rfl (by rw[hq];exact Rep.raw hone);refine⟨β',h7.less fun K c e=>?_⟩;simp only[upd]at e ⊢;split
  ·rename_i hk;rw[if_pos hk]at e;exact e
  ·rename_i hk;rw[if_neg hk]at e;split
   ·rename_i hk2;rw[if_pos hk2]at e;exact e
   ·rename_i hk2;rw[if_neg hk2]at e;simpa[hk,hk2]using e
 cases hB:q.ownBlock with
 | none=>
  refine hfin β ((hh.drop _).drop _) ⟨fun p hp=>?_,?_⟩
  ·rcases cJ.1 hp with hp|hp
   ·exact hL.1 p hp
   ·rw[pP.1 hp];exact⟨s1,⟨us,s3,s4⟩,fun B e=>by dsimp only at e;rw[hB]at e;cases e⟩
  ·refine pA0.2 ⟨hL.2,gK ..,fun p _ r hr B _=>?_⟩;rw[pP.1 hr];dsimp only;rw[hB];simp
 | some B=>
  rw[hB]at s2;have h5:=((hh.drop (2*d)).drop (2*j+1)).xfer (K1:=2*d) (J1:=0) (K2:=2*j+1) (J2:=B+1) (o:=β (2*d) 0) (zV _ _) (.inl rfl) (xW hdd) (wQ5 (upd_same _ _ _)) (fun h=>by omega);have hnb:∀b,wT β b→wT (upB (upB β (2*d) 0 none) (2*j+1) (B+1) (β (2*d) 0)) b:=fun b hb K J e=>by
   unfold upB at e;split at e
   ·exact hb _ _ e
   ·split at e
    ·cases e
    ·exact hb _ _ e
  have hdis:∀p∈L,p.1.ownBlock≠some B:=fun p hp e=>by have:=(hL.1 p hp).2.2 B e;have:=(hh.inj _ _ _ _ _ this s2.symm).1;omega
  refine hfin _ h5 ⟨fun p hp=>?_,?_⟩
  ·rcases cJ.1 hp with hp|hp
   ·obtain⟨g1,⟨us2,g2,g3⟩,g4⟩:=hL.1 p hp;refine⟨g1,⟨us2,g2,g3.mono fun b hb _=>hnb b hb⟩,fun B' hB'=>?_⟩;have hne:B'≠B:=fun e=>by subst e;exact hdis p hp hB'
    rw[qO _ _ (by omega),qO _ _ (by omega)];exact g4 B' hB'
   ·rw[pP.1 hp];refine⟨s1,⟨us,s3,s4.mono fun b hb _=>hnb b hb⟩,fun B' hB'=>?_⟩;dsimp only at hB';rw[hB]at hB';cases hB';rw[zK];exact s2.symm
  ·refine pA0.2 ⟨hL.2,gK ..,fun p hp r hr B' hB'=>?_⟩;rw[pP.1 hr];dsimp only;rw[hB];intro e;cases e;exact hdis p hp hB'
theorem vw_name{c:Code}(d j:Nat){id k:Nat}{T:TypeId}{es:List (List V)}{L:List (Value×List (List V))}(hd:lk st (2*d)=some (.sv (.own id T k es)))(hj:lk st (2*j+1)=some (.fam T k L)∨(lk st (2*j+1)=none∧L=[]))(h:∀u,VW P w0 n c Q ((2*d,some (.sv (.v (.raw u))))::(2*j+1,some (.fam T k (L++[(u,es)])))::st)):VW P w0 n c Q st:=wGC _ (name_ok hd hj) h
theorem sq_name{q:Nat}(d j:Nat){id k:Nat}{T:TypeId}{es:List (List V)}{L:List (Value×List (List V))}(hd:lk st (2*d)=some (.sv (.own id T k es)))(hj:lk st (2*j+1)=some (.fam T k L)∨(lk st (2*j+1)=none∧L=[]))(h:∀u,SQ P w0 n ops Q q ((2*d,some (.sv (.v (.raw u))))::(2*j+1,some (.fam T k (L++[(u,es)])))::st)):SQ P w0 n ops Q q st:=sq_ex _ (name_ok hd hj) h
def hdr(L:List (Value×List (List V))):List (List V):=L.map fun p=>[V.raw p.1]
def wAH(L:List (Value×List (List V))):List (List V):=L.map fun p=>[V.list p.2]
theorem wN9(L:List (Value×List (List V))):(hdr L).flatten=L.map fun p=>V.raw p.1:=by
 induction L with
 |nil=>rfl
 |cons p L ih=>simp only[hdr,List.map_cons,List.flatten_cons,List.singleton_append];congr 1
theorem wWB(L:List (Value×List (List V))):(wAH L).flatten=L.map fun p=>V.list p.2:=by
 induction L with
 |nil=>rfl
 |cons p L ih=>simp only[wAH,List.map_cons,List.flatten_cons,List.singleton_append];congr 1
theorem yM(L:List (Value×List (List V))):(hdr L).length=L.length:=pH ..
theorem hdr_get{L:List (Value×List (List V))}{i:Nat}{p:Value×List (List V)}(h:L[i]? = some p):(hdr L)[i]? = some [.raw p.1]:=by unfold hdr;rw[pJ,h];rfl
theorem qF1(L:List (Value×List (List V)))(u:Value)(es:List (List V)):hdr L++[[.raw u]]=hdr (L++[(u,es)]):=by simp[hdr]
theorem hdr_set{L:List (Value×List (List V))}{i:Nat}{u:Value}{es es':List (List V)}(h:L[i]? = some (u,es)):hdr (L.set i (u,es'))=hdr L:=by
 unfold hdr;rw[gD];apply mB;intro q;by_cases hqr:i=q
 ·subst hqr;rw[dE (by simpa using(pI.1 h).1),pJ,h];rfl
 ·rw[dQ hqr]
theorem raws{S:Nat→Prop}:∀{L:List (Value×List (List V))}{us:List Value},RepL S w (L.map fun p=>V.raw p.1) us→us=L.map (·.1)
 |[],us,h=>by cases h;rfl
 |p::L,us,h=>by
  cases h with
  |cons h1 h2=>rw[wBJ h1,raws h2];rfl
theorem frzTab_ok{d j id k:Nat}{To T:TypeId}{L:List (Value×List (List V))}(hd:lk st (2*d)=some (.sv (.own id To 1 (hdr L))))(hj:lk st (2*j+1)=some (.fam T k L)) :
  ∀a w,Hs w0 n (lk st) a w→∃_:Unit,Hs w0 n (lk ((2*d,some (.sv (.v (.list (wAH L)))))::(2*j+1,none)::st)) a w:=by
 rintro a w ⟨β,hh⟩;refine⟨(),?_⟩;rw[qA9];obtain⟨s1,s2,us,s3,s4⟩:=hh.slot d _ hd;have hfo:=hh.fm j T k L hj;have h5:=(hh.drop (2*d)).drop (2*j+1);obtain⟨β',hβ'⟩:∃β':Bl,(fun K J=>if K=2*j+1∨(K=2*d∧J=0)then none else β K J)=β':=⟨_,rfl⟩
 have hval:∀K J B',β' K J=some B'→β K J=some B'∧¬(K=2*j+1∨(K=2*d∧J=0)):=fun K J B' e=>by
  rw[←hβ']at e;dsimp only at e;split at e
  ·cases e
  ·rename_i hne;exact⟨e,hne⟩
 have hoff:∀K J,¬(K=2*j+1∨(K=2*d∧J=0))→β' K J=β K J:=fun K J hne=>by rw[←hβ'];dsimp only;rw[if_neg hne]
 have hd0:upd (upd (lk st) (2*d) none) (2*j+1) none (2*d)=none:=by rw[upd_ne _ _ (by omega),upd_same]
 have h6:HB w0 n β' (upd (upd (lk st) (2*d) none) (2*j+1) none) a w:=by
  refine h5.chg h5.bel (fun K J K' J' B' a1 a2=>h5.inj _ _ _ _ _ (hval _ _ _ a1).1 (hval _ _ _ a2).1) (fun K J B' a1=>h5.rng _ _ _ (hval _ _ _ a1).1) (fun J b e=>(hoff _ _ (by omega)).trans e) (fun b hb' hl=>⟨fun K J e=>hb' K J (hval _ _ _ e).1,rfl⟩) ?_ (fun d' x e d2 hx B' hB=>(hval _ _ _ hB).1) ?_ ?_ ?_ (fun _ _=>rfl) (fun K J B' e=>h5.spk _ _ _ (hval _ _ _ e).1)
  ·intro d' id' T' k' es' e;refine⟨hoff _ _ fun h=>?_,fun _ _=>rfl⟩;rcases h with h|h
   ·omega
   ·obtain rfl:d'=d:=by omega
    rw[hd0]at e;cases e
  ·intro d' cs' e;refine⟨hoff _ _ fun h=>?_,fun _ _=>rfl⟩;rcases h with h|h
   ·obtain rfl:d'=j:=by omega
    rw[upd_same]at e;cases e
   ·omega
  ·intro d' cs' q id' T' k' es' e hq;refine⟨hoff _ _ fun h=>?_,fun _ _=>rfl⟩;rcases h with h|h
   ·obtain rfl:d'=j:=by omega
    rw[upd_same]at e;cases e
   ·omega
  ·intro d' T' k' L' e B' hB';refine⟨?_,rfl⟩;rw[hoff _ _ fun h=>?_]
   ·exact hB'
   ·rcases h with h|h
    ·obtain rfl:d'=j:=by omega
     rw[upd_same]at e;cases e
    ·omega
 have hS:∀b,wT β b→wT β' b:=fun b hb K J e=>hb K J (hval _ _ _ e).1;have hB1:∀B,β (2*d) 0=some B→wT β' B:=fun B hB K J e=>by obtain⟨e1,e2⟩:=hval _ _ _ e;have:=hh.inj _ _ _ _ _ e1 hB;exact e2 (.inr this)
 have hB2:∀J B,β (2*j+1) J=some B→wT β' B:=fun J B hB K J' e=>by obtain⟨e1,e2⟩:=hval _ _ _ e;exact e2 (.inl (hh.inj _ _ _ _ _ e1 hB).1)
 rw [wN9]at s4;have hus:=raws s4;have hrl:RepL (wT β') w (L.map fun p=>V.list p.2) us:=by
  rw[hus];have key:∀M:List (Value×List (List V)),(∀p∈M,p∈L)→RepL (wT β') w (M.map fun p=>V.list p.2) (M.map (·.1)):=by
   intro M
   induction M with
   |nil=>intro _;exact .nil
   |cons p M ih=>intro hM;refine .cons ?_ (ih fun q hq=>hM q (pZ _ hq));obtain⟨q,hq⟩:=cK (hM p (pT ..));exact wC0 (hfo.own (u:=p.1) (es:=p.2) hq) hS fun B hB=>hB2 _ B ((hfo.1 p (pF hq)).2.2 B hB)
  exact key L fun p hp=>hp
 have h7:=h6.reslot (d:=d) (x:=.v (.list (wAH L))) rfl (wC0 (B0:=w0.lo) (S:=wT β') (K:=0) (J:=0) (id:=0) (T:=To) (k:=1) (β:=fun _ _=>(a.tmps.getD d undef).ownBlock) ⟨fun e he=>by
   obtain⟨p,_,rfl⟩:=pO.1 he;exact⟨rfl,rfl⟩,rfl,us,by
   rw[yM]at s3;simpa[wAH]using s3,by rw[wWB];exact hrl⟩ (fun b hb=>hb) fun B hB=>hB1 B (by rw[←s2];exact hB))
 refine⟨β',h7.less fun K c e=>?_⟩;simp only[upd]at e ⊢;split
 ·rename_i hk;rw[if_pos hk]at e;exact e
 ·rename_i hk;rw[if_neg hk]at e;split
  ·rename_i hk2;rw[if_pos hk2]at e;cases e
  ·rename_i hk2;rw[if_neg hk2]at e;simpa[hk,hk2]using e
theorem wO7{c:Code}(d j:Nat){id k:Nat}{To T:TypeId}{L:List (Value×List (List V))}(hd:lk st (2*d)=some (.sv (.own id To 1 (hdr L))))(hj:lk st (2*j+1)=some (.fam T k L))(h:VW P w0 n c Q ((2*d,some (.sv (.v (.list (wAH L)))))::(2*j+1,none)::st)):VW P w0 n c Q st:=wGC _ (frzTab_ok hd hj) fun _=>h
def qBH(P:Program)(g:FuncId)(xs:List V)(To T:TypeId)(k:Nat)(rows:List (List (List V))):Prop:=
 ∀(S:Nat→Prop)(w:World)(us:List Value),RepL S w xs us→Calls P g us.toArray w fun e w'=>∃(v:Value)(L:List (Value×List (List V))),e=.returned v∧L.map (·.2)=rows∧w'.ownsRow w.heap.size To 1 v L.length (L.map (·.1))∧(∀p∈L,p.1.oneCell'=true) ∧
  (∀p∈L,(∀e∈p.2,e.length=k∧wW e=true)∧∃us,w'.ownsRow w.heap.size T k p.1 p.2.length us∧RepL (fun b=>(S b∨w.heap.size≤b)∧v.ownBlock≠some b∧∀q∈L,q.1.ownBlock≠some b) w' p.2.flatten us) ∧
  (L.Pairwise fun p q=>∀B,p.1.ownBlock=some B→q.1.ownBlock≠some B)∧(∀p∈L,∀B,v.ownBlock=some B→p.1.ownBlock≠some B)∧Below w.heap.size w w'
def retT(t:Tmp)(To T:TypeId)(k:Nat)(rows:List (List (List V))):kS:=fun e st=>(e=.ret∨e=.normal)∧∃(s id j:Nat)(L:List (Value×List (List V))),wM9 (lk st) t=some (s,id,To,1,hdr L)∧lk st (2*j+1)=some (.fam T k L)∧L.map (·.2)=rows
theorem wV6{g n k:Nat}{t:Tmp}{To T:TypeId}{fn:Func}{c:Code}{xs:List V}{rows:List (List (List V))}(hf:P.funcs[g]? = some fn)(hb:fn.body=some c)(hnt:fn.ntmps=n)(hres:fn.results.toList=[.tmp t])(hn:Nat.ble xs.length n=true)(h:∀w0,VW P w0 n c (retT t To T k rows) (wE7 0 xs)):qBH P g xs To T k rows:=by
 intro S w us hus;refine wHH _ hf hb hnt hn hus (fun w0 _ _=>h w0) fun e st hq=>?_;obtain⟨he,s,id,j,L,hr,hj,hL⟩:=hq;refine⟨he,fun β a w' hB=>?_⟩;obtain⟨r1,r2⟩:=hB.root (x:=.tmp t) hr;obtain⟨a1,a2,vs,a3,a4⟩:=hB.slot s _ r1;have r3:a.tmps.getD t undef=a.tmps.getD s undef:=r2;have hres':fn.results=#[.tmp t]:=by rw[←cS (xs:=fn.results),hres]
 have hfo:=hB.fm j T k L hj;rw[wN9]at a4;have hvs:=raws a4;subst hvs;rw[yM]at a3;have hone:∀p∈L,p.1.oneCell'=true:=fun p hp=>by obtain⟨q,hq⟩:=cK hp;obtain⟨ad,cap,e⟩:=hfo.len (u:=p.1) (es:=p.2) hq;rw[e];rfl
 refine⟨a.tmps.getD t undef,results_tmp hres' a.tmps P w',a.tmps.getD t undef,L,rfl,hL,by rw[r3];exact a3,hone,fun p hp=>?_,hfo.2,fun p hp B hv hpB=>?_,hB.bel.below fun _ _=>trivial⟩
 ·obtain⟨g1,⟨us2,g2,g3⟩,g4⟩:=hfo.1 p hp;refine⟨g1,us2,g2,g3.mono fun b hb' hlt=>⟨hB.ends b (.inl hb'),?_,fun q hq e=>?_⟩⟩
  ·rw[r3,a2];exact hb' _ _
  ·exact hb' _ _ ((hfo.1 q hq).2.2 b e)
 ·rw[r3,a2]at hv;have:=(hfo.1 p hp).2.2 B hpB;have:=(hB.inj _ _ _ _ _ this hv).1;omega
theorem sq_callT(hC:CxOk P C){q:Nat}{gr:List Nat}{k:Call}{x:Operand}{g:FuncId}{fn:Func}{fs cs args xs:List V}{To T:TypeId}{m r:Nat}(id j:Nat){rows:List (List (List V))}(ho:ops.toList[q]? = some o)(hg:gRd n ops (lk st) o=some gr)(hop:o.op=.call k)(hk:k.callee=.value x)(hx:opv (lk st) x=some (.v (.clo g fs cs)))(hargs:xE (lk st) k.args.toList=some args)(hfn:C.fns.get g=some fn)(hl:fs++args++cs=xs)(hcall:qBH P g xs To T m rows)(hdst:o.dst=some r)(hd:Nat.blt r n=true)(hj:lk st (2*j+1)=none)(hn1:kH st (2*r,id)=true)(h:∀L:List (Value×List (List V)),L.map (·.2)=rows→SQ P w0 n ops Q (q+1) ((2*r,some (.sv (.own id To 1 (hdr L))))::(2*j+1,some (.fam T m L))::st)):SQ P w0 n ops Q q st:=by
 intro a w ⟨β,hh⟩;subst hl;have hsz:=wM2 ho;rw[show ops.size-q=(ops.size-(q+1))+1 by omega,gC,wpOps_cons];have e1:=hh.val (x:=x) (y:=.clo g fs cs) hx;have e2:=hh.args (l:=k.args.toList) (r:=args) hargs;have hwant:Region.wanted o (yielded ops a.tmps)=true:=by
  have hst:=wLI (P:=P) (w0:=w0) (o:=o) (k:=q) (rd:=[]) (u:=[]) (nw:=[]) (n:=n) (st:=st) ho hg;unfold gRd at hg;split at hg
  ·rename_i hgd;simp[Region.wanted,hgd]
  ·rename_i j' b hgd;split at hg
   ·cases hg
   ·rename_i d hdd;split at hg
    ·rename_i c hc;cases hb:(Nat.blt d n&&(c==b))with
     |false=>rw[hb]at hg;cases hg
     | true=>
      simp only[Bool.and_eq_true,beq_iff_eq]at hb;obtain⟨h1,rfl⟩:=hb;have hslot:=hh.slot d _ hc;unfold yielded;unfold wPJ at hdd;rw[fT]at hdd;simp only[Region.wanted,hgd];cases hq:ops[j']? with
      |none=>rw[hq]at hdd;cases hdd
      |some q'=>
       rw[hq]at hdd;dsimp only at hdd;have hlt:d<a.tmps.size:=by rw[hh.size];simpa using h1
       rw[pS,mG hlt,mH]at hslot;simp only[zX]at hslot;simp only[Option.bind_some,hdd,Array.getElem?_eq_getElem hlt];generalize a.tmps[d]=v at hslot;cases hslot;simp
    ·cases hg
 generalize hu:a.eval x=u at e1;cases e1 with
 | @clo _ _ _ us vs hfs hcs=>
  obtain⟨hf1,hf2⟩:=hC.fns g fn hfn;have hrun:(execOp a.eval o).run P w=.ok (.enter g (us++k.args.toList.map a.eval++vs).toArray) w:=by
   have hm:(us.toArray++k.args.map a.eval)++vs.toArray=(us++k.args.toList.map a.eval++vs).toArray:=by apply dN;simp
   simp only[execOp,hop,resolve,hk,hu,Deferred.ofValue,Sem.run_bind,Sem.run_pure,Result.andThen_ok,invoke];rw[hm];exact hf2 _ _
  unfold wpOp;rw[show ops[q]? = some o by simpa using ho];dsimp only;rw[if_pos hwant];left;unfold Oper.wp;rw[hrun,Oper.upon_enter];refine Calls.mono (hcall (wT β) w _ ((hfs.append e2).append hcs)) ?_;rintro e w' ⟨v,L,rfl,hL,ho1,hone,hrows,hpw,hvd,hb⟩;dsimp only;rw[hdst];refine h L hL _ _ ?_;rw[qA9];have hlow:∀(T':TypeId)(k' m':Nat)(u':Value)(us':List Value),w'.ownsRow w.heap.size T' k' u' m' us'→w'.ownsRow w0.lo T' k' u' m' us':=fun T' k' m' u' us' h'=>by
   refine⟨h'.1,?_⟩;rcases h'.2 with h|⟨g',cap,cur,e2,e3,e4⟩
   ·exact .inl h
   ·exact .inr ⟨g',cap,cur,e2,pD (pD w0.lole hh.base) e3,e4⟩
  have hge:∀p∈L,∀B,p.1.ownBlock=some B→w.heap.size≤B∧B<w'.heap.size:=fun p hp B hB=>by obtain⟨_,us2,g2,_⟩:=hrows p hp;exact⟨(g2.lt B hB).1,(kT g2 hB).2⟩
  have hgv:∀B,v.ownBlock=some B→w.heap.size≤B∧B<w'.heap.size:=fun B hB=>⟨(ho1.lt B hB).1,(kT ho1 hB).2⟩
  have h5:=(hh.drop (2*r)).drop (2*j+1);let β':Bl:=fun K J=>if K=2*r∧J=0 then v.ownBlock else if K=2*j+1 then(if 0<J∧(L.any fun p=>match p.1.ownBlock with|some B=>Nat.beq B (J-1)|none=>false)=true then some (J-1)else none)else β K J
  have hany:∀J,(L.any fun p=>match p.1.ownBlock with|some B=>Nat.beq B (J-1)|none=>false)=true↔∃p∈L,p.1.ownBlock=some (J-1):=fun J=>by
   rw[bZ];constructor
   ·rintro⟨p,hp,e⟩;refine⟨p,hp,?_⟩;split at e
    ·rename_i B hB;rw[hB,pQ e]
    ·cases e
   ·rintro⟨p,hp,e⟩;exact⟨p,hp,by rw[e];simp⟩
  have hcase:∀K J B,β' K J=some B→(K=2*r∧J=0∧v.ownBlock=some B)∨(K=2*j+1∧J=B+1∧∃p∈L,p.1.ownBlock=some B)∨(β K J=some B∧¬(K=2*r∧J=0)∧K≠2*j+1):=by
   intro K J B e;dsimp only[β']at e;split at e
   ·rename_i hk;exact .inl ⟨hk.1,hk.2,e⟩
   ·rename_i hk;split at e
    ·rename_i hk2;split at e
     ·rename_i hk3;cases e;exact .inr (.inl ⟨hk2,by omega,(hany J).1 hk3.2⟩)
     ·cases e
    ·rename_i hk2;exact .inr (.inr ⟨e,hk,hk2⟩)
  have hoff:∀K J,¬(K=2*r∧J=0)→K≠2*j+1→β' K J=β K J:=fun K J h1 h2=>by dsimp only[β'];rw[if_neg h1,if_neg h2]
  have hd0:upd (upd (lk st) (2*r) none) (2*j+1) none (2*r)=none:=by rw[upd_ne _ _ (by omega),upd_same]
  have hbase:=hh.base;have hold:∀K J B,β K J=some B→w'.heap[B]? = w.heap[B]?:=fun K J B e=>hb.block B (hh.rng _ _ _ e).2;have hS:∀b,wT β b→b<w.heap.size→wT β' b∧w'.heap[b]? = w.heap[b]?:=fun b hb' hl=>⟨fun K J e=>by
   rcases hcase _ _ _ e with⟨x1,x2,x3⟩|⟨x1,x2,p,x3,x4⟩|⟨x1,x2,x3⟩
   ·have:=(hgv b x3).1;omega
   ·have:=(hge p x3 b x4).1;omega
   ·exact hb' _ _ x1,hb.block b hl⟩
  have h6:HB w0 n β' (upd (upd (lk st) (2*r) none) (2*j+1) none) a w':=by
   refine h5.chg (h5.bel.trans hb) ?_ ?_ (fun J b e=>(hoff _ _ (by omega) (by omega)).trans e) hS ?_ ?_ ?_ ?_ ?_ (fun q e=>hold _ _ q e) (fun K J B e=>(hcase _ _ _ e).elim (fun hq=>.inl hq.2.1) fun hq=>hq.elim (fun hq=>.inr (.inl (by omega))) fun hq=>hh.spk _ _ _ hq.1)
   ·intro K J K' J' B c1 c2;rcases hcase _ _ _ c1 with⟨x1,x2,x3⟩|⟨x1,x2,p,x3,x4⟩|⟨x1,x2,x3⟩<;>rcases hcase _ _ _ c2 with⟨y1,y2,y3⟩|⟨y1,y2,p',y3,y4⟩|⟨y1,y2,y3⟩
    ·exact⟨by omega,by omega⟩
    ·exact absurd y4 (hvd p' y3 B x3)
    ·have:=(hh.rng _ _ _ y1).2;have:=(hgv B x3).1;omega
    ·exact absurd x4 (hvd p x3 B y3)
    ·exact⟨by omega,by omega⟩
    ·have:=(hh.rng _ _ _ y1).2;have:=(hge p x3 B x4).1;omega
    ·have:=(hh.rng _ _ _ x1).2;have:=(hgv B y3).1;omega
    ·have:=(hh.rng _ _ _ x1).2;have:=(hge p' y3 B y4).1;omega
    ·exact hh.inj _ _ _ _ _ x1 y1
   ·intro K J B c1;rcases hcase _ _ _ c1 with⟨x1,x2,x3⟩|⟨x1,x2,p,x3,x4⟩|⟨x1,x2,x3⟩
    ·have:=hgv B x3;exact⟨fun _=>.inl (by omega),this.2⟩
    ·have:=hge p x3 B x4;exact⟨fun _=>.inl (by omega),this.2⟩
    ·have q1:=hh.rng _ _ _ x1;have:=hb.size;exact⟨q1.1,by omega⟩
   ·intro d' id' T' k' es' e;refine⟨hoff _ _ (fun hk=>?_) (by omega),fun B hB=>hold _ _ B hB⟩;obtain rfl:d'=r:=by omega
    rw[hd0]at e;cases e
   ·intro d' x e d2 hx B hB;rcases hcase _ _ _ hB with⟨x1,x2,x3⟩|⟨x1,x2,_⟩|⟨x1,_⟩
    ·omega
    ·omega
    ·exact x1
   ·intro d' cs' e;refine⟨hoff _ _ (by omega) fun hk=>?_,fun B hB=>hold _ _ B hB⟩;obtain rfl:d'=j:=by omega
    rw[upd_same]at e;cases e
   ·intro d' cs' q' id' T' k' es' e _;refine⟨hoff _ _ (by omega) fun hk=>?_,fun B hB=>hold _ _ B hB⟩;obtain rfl:d'=j:=by omega
    rw[upd_same]at e;cases e
   ·intro d' T' k' L' e B hB;refine⟨?_,hold _ _ B hB⟩;rw[hoff _ _ (by omega) fun hk=>?_]
    ·exact hB
    ·obtain rfl:d'=j:=by omega
     rw[upd_same]at e;cases e
  have hvB:v.ownBlock=β' (2*r) 0:=by dsimp only[β'];rw[if_pos ⟨rfl,rfl⟩]
  have hLB:∀p∈L,∀B,p.1.ownBlock=some B→β' (2*j+1) (B+1)=some B:=fun p hp B hB=>by dsimp only[β'];rw[if_neg (by omega),if_pos rfl,if_pos ⟨by omega,(hany (B+1)).2 ⟨p,hp,by simpa using hB⟩⟩];rfl
  have hNB:∀b,(wT β b∨w.heap.size≤b)∧v.ownBlock≠some b∧(∀q∈L,q.1.ownBlock≠some b)→wT β' b:=fun b hb' K J e=>by
   rcases hcase _ _ _ e with⟨x1,x2,x3⟩|⟨x1,x2,p,x3,x4⟩|⟨x1,x2,x3⟩
   ·exact hb'.2.1 x3
   ·exact hb'.2.2 p x3 x4
   ·rcases hb'.1 with h|h
    ·exact h _ _ x1
    ·have:=(hh.rng _ _ _ x1).2;omega
  have h7:=h6.putO (d:=r) (by simpa using hd) (id:=id) (T:=To) (k:=1) (es:=hdr L) (u:=v) (((yL hn1).drop _).drop _) ⟨fun e he=>by
   obtain⟨p,_,rfl⟩:=pO.1 he;exact⟨rfl,rfl⟩,hvB,L.map (·.1),by rw[yM];exact hlow _ _ _ _ _ ho1,by
   rw[wN9];have key:∀M:List (Value×List (List V)),(∀p∈M,p∈L)→RepL (wT β') w' (M.map fun p=>V.raw p.1) (M.map (·.1)):=by
    intro M
    induction M with
    |nil=>intro _;exact .nil
    |cons p M ih=>intro hM;exact .cons (.raw (hone p (hM p (pT ..)))) (ih fun q hq=>hM q (pZ _ hq))
   exact key L fun p hp=>hp⟩
  have h8:=h7.refam (d:=j) (k:=m) (T:=T) (L:=L) ⟨fun p hp=>by obtain⟨g1,us2,g2,g3⟩:=hrows p hp;exact⟨g1,⟨us2,hlow _ _ _ _ _ g2,g3.mono fun b hb' _=>hNB b hb'⟩,hLB p hp⟩,hpw⟩
  refine⟨β',h8.less fun K c e=>?_⟩;simp only[upd]at e ⊢;by_cases k1:K=2*r
  ·rw[if_pos k1]at e;rw[if_neg (show ¬K=2*j+1 by omega),if_pos k1];exact e
  ·rw[if_neg k1]at e;by_cases k2:K=2*j+1
   ·rw[if_pos k2]at e ⊢;exact e
   ·rw[if_neg k2]at e;rw[if_neg k2,if_neg k1,if_neg k2,if_neg k1];exact e
end
def Yld(P:Program)(l:Nat)(us:List Value)(w:World)(R:Bool→World→Prop):Prop:=
 ∃f tmps assign body,(Instr.yield l us.toArray).run P w=.ok (.round l f tmps assign body) w∧∀m,RoundIn Fence.wide m P l f tmps assign body w fun e w'=>∃b,e=.returned (.bool b)∧R b w'
structure Rounds(P:Program)(l:Nat)(L:List (List V))(J:Option Nat→(Nat→Prop)→World→Prop):Prop where
 grow:∀{j:Option Nat}{X X':Nat→Prop}{w w':World},J j X w→Below w.heap.size w w'→(∀b,X' b→b<w'.heap.size→X b∨w.heap.size≤b)→J j X' w'
 yld:∀{j:Nat}{e:List V}{X:Nat→Prop}{w:World}{us:List Value},L[j]? = some e→J (some j) X w→RepL X w e us→Yld P l us w fun b w'=>∃j',(b=true→j'=some (j+1))∧(b=false→j'=none)∧J j' (fun q=>X q∧q<w.heap.size) w'∧(∀q,X q→q<w.heap.size→w'.heap[q]? = w.heap[q]?)∧w.heap.size≤w'.heap.size
def wD5(l:Nat):Value:=.func (.yield l) #[] #[]
def VSeq(P:Program)(g:FuncId)(fs cs:List V)(L:List (List V)):Prop:=
 ∀(S:Nat→Prop)(w:World)(us vs:List Value)(l:Nat)(J:Option Nat→(Nat→Prop)→World→Prop),Rounds P l L J→RepL S w fs us→RepL S w cs vs→J (some 0) S w→
  Calls P g ((us++[wD5 l])++vs).toArray w fun e w'=>(∃v,e=.returned v)∧∃j X,J j X w'∧(j=some L.length∨j=none)
def bI(w:World)(X:Nat→Prop):Base:=⟨w,X,fun _=>True,none,w.heap.size,pC _,false⟩
def IS(n:Nat)(X:Nat→Prop)(f:Fm)(a:Act)(w:World):Prop:=Hs (bI w X) n f a w
def wC1:St→Bool
 |[]=>true
 |(_,some (.sv (.v _)))::l=>wC1 l
 |(_,none)::l=>wC1 l
 |_=>false
theorem onlyV_mem{T:St}(h:wC1 T=true){k:Nat}{c:Cell}(e:(k,some c)∈T):∃x,c=.sv (.v x):=by
 induction T with
 |nil=>cases e
 | cons p T ih=>
  obtain⟨q,x⟩:=p;unfold wC1 at h;split at h
  ·rename_i he;cases he
  ·rename_i he;cases he;rcases pU.1 e with e|e
   ·cases e;exact⟨_,rfl⟩
   ·exact ih h e
  ·rename_i he;cases he;rcases pU.1 e with e|e
   ·cases e
   ·exact ih h e
  ·cases h
theorem wH0{T:St}(h:wC1 T=true){k:Nat}{c:Cell}(e:lk T k=some c):∃x,c=.sv (.v x):=onlyV_mem h (yX e)
section
variable{P:Program}{C:Cx}{n:Nat}{st:St}{o:Oper}{ops:Array Oper}{l:Nat}{L:List (List V)}{J:Option Nat→(Nat→Prop)→World→Prop}
theorem IS.defers{X:Nat→Prop}{f:Fm}{a:Act}{w:World}(h:IS n X f a w):a.defers=[]:=by obtain⟨β,h⟩:=h;exact h.dfr.1.resolve_left (by simp[bI])
open Classical in
theorem IS.mk{X:Nat→Prop}{T:St}{a:Act}{w:World}(hs:a.tmps.size=n)(hd:a.defers=[])(hT:wC1 T=true)(h:∀d x,lk T (2*d)=some (.sv (.v x))→Rep X w x (a.tmps.getD d undef)):IS n X (lk T) a w:=by
 let β:Bl:=fun k j=>if k=0∧0<j∧j-1<w.heap.size∧¬X (j-1)then some (j-1)else none
 have hval:∀k j B,β k j=some B→k=0∧j=B+1∧B<w.heap.size∧¬X B:=by
  intro k j B e;dsimp only[β]at e;split at e
  ·rename_i hh;cases e;exact⟨hh.1,by omega,hh.2.2⟩
  ·cases e
 have hsp:∀b,b<w.heap.size→¬X b→β 0 (b+1)=some b:=by intro b h1 h2;dsimp only[β];rw[if_pos ⟨rfl,by omega,by simpa using h1,by simpa using h2⟩];rfl
 have hNB:∀b,X b→wT β b:=fun b hs k j e=>(hval _ _ _ e).2.2.2 hs;refine⟨β,hs,⟨.inr hd,by simp[hd],by rw[hd];exact .nil⟩,BelP.refl (bI w X),?_,?_,fun b h1 h2 _=>hsp b h1 h2,fun k j B e=>.inr (.inr (by have:=hval _ _ _ e;omega)),fun b _ hs=>hNB b hs,fun e d id T k es e1 _=>(by obtain⟨x,e⟩:=wH0 hT e1;cases e),fun e d id k i off T es B e1 _ _=>(by obtain⟨x,e⟩:=wH0 hT e1;cases e),?_,fun d cs e=>(by obtain⟨x,e⟩:=wH0 hT e;cases e),fun d T k L e=>(by obtain⟨x,e⟩:=wH0 hT e;cases e)⟩
 ·intro k j k' j' B e1 e2;have a:=hval _ _ _ e1;have b:=hval _ _ _ e2;omega
 ·intro k j B e;have a:=hval _ _ _ e;exact⟨fun hh=>by omega,a.2.2.1⟩
 ·intro d x e;obtain⟨y,e'⟩:=wH0 hT e;cases e';exact(h d y e).mono fun b hb' _=>hNB b hb'
theorem IS.rebase{X:Nat→Prop}{T:St}{β:Bl}{a:Act}{w w':World}(h:HB (bI w X) n β (lk T) a w')(hT:wC1 T=true):∃X',IS n X' (lk T) a w'∧Below w.heap.size w w'∧(∀b,X' b→b<w'.heap.size→X b∨w.heap.size≤b):=by
 refine⟨wT β,IS.mk h.size (h.dfr.1.resolve_left (by simp[bI])) hT fun d x e=>h.slot d _ e,h.bel.below fun _ _=>trivial,fun b hb _=>?_⟩;rcases pK b w.heap.size with hlt|hge
 ·left;apply cN;intro hs;exact hb _ _ (h.sp b hlt hs trivial)
 ·exact .inr hge
abbrev wO2:=Exit→St→Option Nat→Prop
def kqI(n:Nat)(J:Option Nat→(Nat→Prop)→World→Prop)(Q:wO2):Exit→Act→World→Prop:=fun e a w=>∃st j X,Q e st j∧J j X w∧IS n X (lk st) a w
def VI(P:Program)(n:Nat)(J:Option Nat→(Nat→Prop)→World→Prop)(c:Code)(Q:wO2)(st:St)(j:Option Nat):Prop:=∀a w X,J j X w→IS n X (lk st) a w→c.wpIn Fence.wide 0 P (kqI n J Q) a w
def Imp(w0:Base)(n:Nat)(st T:St):Prop:=∀a w,Hs w0 n (lk st) a w→Hs w0 n (lk T) a w
theorem imp_frz{w0:Base}{T:St}(l:List Operand)(hfl:flat T=true)(hs:sub T (lk ((wJC (lk st) l).2++st))):Imp w0 n st T:=fun a w h=>by have:=(wJ2 (w0:=w0) (n:=n) (l:=l) (f:=lk st)).1 (lk st) (fun _ _=>rfl) a w h;rw[←qD]at this;exact this.sub hs hfl
variable{Q:wO2}{j:Option Nat}
def thenI(next:St→Option Nat→Prop)(Q:wO2):wO2
 |.normal,st,j=>next st j
 |e,st,j=>Q e st j
def qF0(id:Nat)(Q:wO2):wO2
 |.exit id',st,j=>if id'=id then Q .normal st j else Q (.exit id') st j
 |e,st,j=>Q e st j
theorem xD{c:Code}(hR:Rounds P l L J)(h:∀w0:Base,VW P w0 n c (fun e st'=>∃T,wC1 T=true∧Imp w0 n st' T∧Q e T j) st):VI P n J c Q st j:=fun a w X hj hs=>wpIn_mono (h (bI w X) a w hs) fun e a' w' ⟨st',⟨T,hT,him,hQ⟩,hh⟩=>by obtain⟨β,hB⟩:=him a' w' hh;obtain⟨X',g1,g2,g3⟩:=IS.rebase hB hT;exact⟨T,j,X',hQ,hR.grow hj g2 g3,g1⟩
theorem zP{x y:Code}(h:VI P n J x (thenI (fun st' j'=>VI P n J y Q st' j') Q) st j):VI P n J (.seq x y) Q st j:=fun a w X hj hs=>wpIn_seq (wpIn_mono (h a w X hj hs) fun e a w hq=>by obtain⟨st',j',X',h1,h2,h3⟩:=hq;cases e<;>first|exact h1 a w X' h2 h3|exact⟨st',j',X',h1,h2,h3⟩)
theorem vW{c:Operand}{x y:Code}{b:Bool}(hc:opv (lk st) c=some (.v (.bool b)))(ht:b=true→VI P n J x Q st j)(hf:b=false→VI P n J y Q st j):VI P n J (.cond c x y) Q st j:=fun a w X hj hs=>by
 have he:a.eval c=.bool b:=by obtain⟨β,hb⟩:=hs;have hv:=hb.val hc;generalize a.eval c=u at hv;cases hv;rfl
 cases b with
 |true=>exact wpIn_cond_true he (ht rfl a w X hj hs)
 |false=>exact wpIn_cond_false he (hf rfl a w X hj hs)
theorem yP{id:Nat}{c:Code}(h:VI P n J c (qF0 id Q) st j):VI P n J (.block id c) Q st j:=fun a w X hj hs=>
 wpIn_block (wpIn_mono (h a w X hj hs) fun e a w hq=>by
  obtain⟨st',j',X',h1,h2⟩:=hq;cases e with
  |exit id'=>
   simp only[qF0]at h1;simp only[Exit.inBlock];split
   ·rename_i hid;rw[if_pos hid]at h1;exact⟨st',j',X',h1,h2⟩
   ·rename_i hid;rw[if_neg hid]at h1;exact⟨st',j',X',h1,h2⟩
  |_=>exact⟨st',j',X',h1,h2⟩)
theorem wQD{id:Nat}(h:Q (.exit id) st j):VI P n J (.exit id) Q st j:=fun _ _ X hj hs=>wpIn_exit ⟨st,j,X,h,hj,hs⟩
theorem vi_ret(h:Q .ret st j):VI P n J .ret Q st j:=fun _ _ X hj hs=>wpIn_ret ⟨st,j,X,h,hj,hs⟩
theorem wI4(h:Q .normal st j):VI P n J .skip Q st j:=fun _ _ X hj hs=>wpIn_skip ⟨st,j,X,h,hj,hs⟩
theorem wQC{c:Code}{B:Type}(T:B→St)(ph:B→Option Nat)(I:B→Prop)(μ:B→Nat)(b0:B)(hfl:∀b,flat (T b)=true)(h0:I b0)(hp:j=ph b0)(hs:sub (T b0) (lk st))(h:∀b,I b→VI P n J c (thenI (fun st' j'=>∃b',I b'∧μ b'<μ b∧j'=ph b'∧sub (T b') (lk st')) Q) (T b) (ph b)):VI P n J (.loop c) Q st j:=fun a w X hj hi=>
 qC3 (fun a w m=>∃b X,I b∧μ b=m∧J (ph b) X w∧IS n X (lk (T b)) a w) ⟨_,b0,X,h0,rfl,hp ▸ hj,hi.sub hs (hfl _)⟩ fun a w m ⟨b,X,hI,hm,hj,hb⟩=>wpIn_mono (h b hI a w X hj hb) fun e a w hq=>by
  obtain⟨st',j',X',h1,h2,h3⟩:=hq;cases e with
  |normal=>obtain⟨b',g1,g2,rfl,g3⟩:=h1;exact⟨μ b',by omega,b',X',g1,rfl,h2,h3.sub g3 (hfl _)⟩
  |_=>exact⟨st',j',X',h1,h2,h3⟩
def kqin(n:Nat)(J:Option Nat→(Nat→Prop)→World→Prop)(Q:wO2):Exit→Act→World→Prop:=fun e a w=>e=.normal∧kqI n J Q .normal a w
def SI(P:Program)(n:Nat)(J:Option Nat→(Nat→Prop)→World→Prop)(ops:Array Oper)(Q:wO2)(k:Nat)(st:St)(j:Option Nat):Prop:=∀a w X,J j X w→IS n X (lk st) a w→wpOpsIn Fence.wide 0 P ops (kqin n J Q) (List.range' k (ops.size-k)) a w
theorem vi_si{id:Nat}(h:SI P n J ops Q 0 st j):VI P n J (.region id ops false) Q st j:=fun a w X hj hs=>by
 refine wpIn_mono (Q:=kqin n J Q) (wpIn_region ?_) fun e a w h=>by obtain⟨rfl,h⟩:=h;exact h
 rw[pD8];exact h a w X hj hs
theorem wQG{k:Nat}(hk:Nat.beq k ops.size=true)(hQ:Q .normal st j):SI P n J ops Q k st j:=fun a w X hj hs=>by obtain rfl:=pQ hk;rw[bU];exact⟨rfl,st,j,X,hQ,hj,hs⟩
theorem si_g{k:Nat}{rd gr:List Nat}{u:St}{nw:List (Nat×Nat)}(hR:Rounds P l L J)(hnd:vO ops=true)(ho:ops.toList[k]? = some o)(hg:gRd n ops (lk st) o=some gr)(h:∀w0,wM P w0 n o rd u nw (lk st))(hn:nw.all (kH st)=true)(hT:wC1 (u++st)=true)(hk:SI P n J ops Q (k+1) (u++st) j):SI P n J ops Q k st j:=fun a w X hj hs=>by have hlt:=wM2 ho;rw[show ops.size-k=(ops.size-(k+1))+1 by omega,gC,wpOpsIn_cons];have hst:=wLI (P:=P) (w0:=bI w X) ho hg (h (bI w X));refine wYG (ro:=none) hnd (fun⟨_,_,h⟩=>by cases h.1) (hst (lk st) (fun _ _=>rfl) (fun K hK=>yL (pY.1 hn K hK)) a w hs _ _ fun a' w' h'=>?_);dsimp only at h';rw[←qD]at h';obtain⟨β,hB⟩:=h';obtain⟨X',g1,g2,g3⟩:=IS.rebase hB hT;exact hk a' w' X' (hR.grow hj g2 g3) g1
theorem si_v(hC:CxOk P C){k:Nat}{rd gr:List Nat}{u:St}{nw:List (Nat×Nat)}(hR:Rounds P l L J)(hnd:vO ops=true)(ho:ops.toList[k]? = some o)(hg:gRd n ops (lk st) o=some gr)(h:vop C (k+1) n (lk st) o=some (rd,u,nw))(hn:nw.all (kH st)=true)(hT:wC1 (u++st)=true)(hk:SI P n J ops Q (k+1) (u++st) j):SI P n J ops Q k st j:=
 si_g hR hnd ho hg (fun _=>wK5 hC h) hn hT hk
theorem qD0{k j d:Nat}{c:Call}{x:Operand}{e:List V}(hR:Rounds P l L J)(ho:ops.toList[k]? = some o)(hg:o.guard=none)(hop:o.op=.call c)(hk:c.callee=.value x)(hx:opv (lk st) x=some (.v (.raw (wD5 l))))(hargs:xE (lk st) c.args.toList=some e)(hL:L[j]? = some e)(hdst:o.dst=some d)(hd:Nat.blt d n=true)(hT:wC1 st=true)(h1:SI P n J ops Q (k+1) ((2*d,some (.sv (.v (.bool true))))::st) (some (j+1)))(h2:SI P n J ops Q (k+1) ((2*d,some (.sv (.v (.bool false))))::st) none):SI P n J ops Q k st (some j):=fun a w X hj hs=>by
 have hlt:=wM2 ho;rw[show ops.size-k=(ops.size-(k+1))+1 by omega,gC,wpOpsIn_cons];unfold wpOpIn;rw[show ops[k]? = some o by simpa using ho];dsimp only;rw[if_pos (by simp[Region.wanted,hg])];refine⟨wRE _,?_⟩;have hdf:=hs.defers;obtain⟨β,hB⟩:=hs;have hsz:=hB.size;have e1:=wBJ (hB.val (x:=x) (y:=.raw (wD5 l)) hx);have hNX:∀b,wT β b→b<w.heap.size→X b:=fun b hb hlt=>by apply cN;intro hs;exact hb _ _ (hB.sp b hlt hs trivial)
 have e2:=(hB.args (l:=c.args.toList) (r:=e) hargs).mono (S':=X) fun b hb hlt=>hNX b hb hlt;obtain⟨f,tmps,assign,body,hy,hround⟩:=hR.yld hL hj e2;have hrun:((o.semAt Fence.wide.round a.eval).run P w)=.ok (.round l f tmps assign body) w:=by
  rw[show Fence.wide.round=none from rfl,Oper.semAt_none];have hm:(c.args.map a.eval)=(c.args.toList.map a.eval).toArray:=by apply dN;simp
  simp only[execOp,hop,resolve,hk,e1,wD5,Deferred.ofValue,Sem.run_bind,Sem.run_pure,Result.andThen_ok,invoke];rw[hm];simpa using hy
 rw[hrun,Oper.uponIn_round];refine⟨(fun h=>by cases h),RoundIn.mono (hround _) fun e w' he=>?_⟩;obtain⟨b,rfl,j',q1,q2,q3,q4,q5⟩:=he;dsimp only;rw[hdst];have hd':d<n:=by simpa using hd
 have hIS:IS n (fun q=>X q∧q<w.heap.size) (lk ((2*d,some (.sv (.v (.bool b))))::st)) (a.put (some d) (.bool b)) w':=by
  refine IS.mk (by rw[size_put];exact hsz) (by rw[qB7];exact hdf) (by simpa[wC1]using hT) fun q y hq=>?_;rw[xV a (by rw[hsz];exact hd')];simp only[lk]at hq;by_cases hqd:d=q
  ·subst hqd;rw[if_pos rfl];simp at hq;subst hq;exact .bool b
  ·rw[vB (show 2*d≠2*q by omega)]at hq;simp only[cond_false]at hq;rw[if_neg (fun h=>hqd h.symm)];exact Rep.keep (fun b hb hlt=>⟨⟨hNX b hb hlt,hlt⟩,q4 b (hNX b hb hlt) hlt⟩) (hB.slot q _ hq)
 cases b with
 |true=>obtain rfl:=q1 rfl;exact h1 _ _ _ q3 hIS
 |false=>obtain rfl:=q2 rfl;exact h2 _ _ _ q3 hIS
theorem wRH{g:FuncId}{fn:Func}{c:Code}{fs cs:List V}(hf:P.funcs[g]? = some fn)(hb:fn.body=some c)(hnt:fn.ntmps=n)(hres:fn.results=#[])(hn:Nat.ble (fs.length+1+cs.length) n=true)(h:∀l J,Rounds P l L J→VI P n J c (fun e st' j=>(e=.ret∨e=.normal)∧(j=some L.length∨j=none)) (wE7 0 ((fs++[.raw (wD5 l)])++cs)) (some 0)):VSeq P g fs cs L:=by
 subst hnt;intro S w us vs l J hR hus hvs hj;have hn':=pL hn;have hl:RepL S w ((fs++[.raw (wD5 l)])++cs) ((us++[wD5 l])++vs):=(hus.append (.cons (.raw rfl) .nil)).append hvs;obtain⟨zs,hzs⟩:∃zs,(us++[wD5 l])++vs=zs:=⟨_,rfl⟩
 rw[hzs]at hl ⊢;have hlen:zs.length≤fn.ntmps:=by rw[←hl.length];simp;omega
 obtain⟨xs,hxs⟩:∃xs,(fs++[.raw (wD5 l)])++cs=xs:=⟨_,rfl⟩
 have h':=h l J hR;rw[hxs]at hl h';have hov:∀(i:Nat)(xs:List V),wC1 (wE7 i xs)=true:=by
  intro i xs
  induction xs generalizing i with
  |nil=>rfl
  |cons x xs ih=>simp only[wE7,wC1];exact ih _
 have hIS:IS fn.ntmps S (lk (wE7 0 xs)) { tmps:=zs.toArray++Array.replicate (fn.ntmps-zs.toArray.size) undef,defers:=[] } w:=by
  refine IS.mk (by simp;omega) rfl (hov 0 xs) fun d x e=>?_;obtain⟨q,y,h1,h2,h3⟩:=wAC e;cases h3;obtain rfl:d=q:=by omega
  obtain⟨u,hu,hr⟩:=hl.get d x h2;have hd:d<zs.length:=(pI.1 hu).1
  have:(zs.toArray++Array.replicate (fn.ntmps-zs.toArray.size) undef).getD d undef=u:=by rw[pS,bX (by simpa using hd)];simp[hu]
  rw[this];exact hr
 refine calls_of_wp hf hb ((wpIn_wide (n:=0)).1 (wpIn_mono (h' _ w S hj hIS) fun e a w' hq=>?_));obtain⟨st',j',X',⟨he,hj'⟩,h2,h3⟩:=hq;have hfin:a.defers=[]∧∃v,(results fn a.tmps).run P w'=.ok v w'∧(∃v',Ending.returned v=.returned v')∧∃j X,J j X w'∧(j=some L.length∨j=none):=by refine⟨h3.defers,.tuple #[],?_,⟨_,rfl⟩,j',X',h2,hj'⟩;rw[wSG,hres];simp
 rcases he with rfl|rfl
 ·exact hfin
 ·exact hfin
end
def owned(β:Bl)(b:Nat):Prop:=∃K J,(J=0∨K%2=1)∧β K J=some b
def bR(w:World)(β:Bl)(ex:Nat→Prop)(l lo:Nat)(h:lo≤w.heap.size):Base:=⟨w,wT β,fun b=>¬owned β b∧¬ex b,some l,lo,h,false⟩
structure Stg(ex:Nat→Prop)(β:Bl)(w:World)(β':Bl)(w':World):Prop where
 os:w'.os=w.os
 tape:w'.tape=w.tape
 output:w'.output=w.output
 size:w.heap.size≤w'.heap.size
 blk:∀b,b<w.heap.size→¬owned β b→¬ex b→w'.heap[b]? = w.heap[b]?
 nb:∀b,b<w.heap.size→wT β b→wT β' b
 sp:∀b,β 0 (b+1)=some b→b<w.heap.size→¬owned β b→¬ex b→β' 0 (b+1)=some b
 ow:∀b,owned β' b→w.heap.size≤b∨owned β b∨ex b
theorem wN2{β:Bl}{b:Nat}(h:wT β b):¬owned β b:=fun⟨K,J,_,e⟩=>h _ _ e
def okE:St→Bool
 |[]=>true
 |(k,some (.sv (.v _)))::l=>Nat.beq (k%2) 0&&okE l
 |(k,some (.sv (.rp _ _ _)))::l=>Nat.beq (k%2) 0&&okE l
 |_=>false
theorem okE_mem{T:St}(h:okE T=true){k:Nat}{c:Cell}(e:(k,some c)∈T):k%2=0∧((∃x,c=.sv (.v x))∨∃d u off,c=.sv (.rp d u off)):=by
 induction T with
 |nil=>cases e
 | cons p T ih=>
  obtain⟨q,x⟩:=p;unfold okE at h;split at h
  ·rename_i he;cases he
  ·rename_i he;cases he;simp only[Bool.and_eq_true]at h;rcases pU.1 e with e|e
   ·cases e;exact⟨pQ h.1,.inl ⟨_,rfl⟩⟩
   ·exact ih h.2 e
  ·rename_i he;cases he;simp only[Bool.and_eq_true]at h;rcases pU.1 e with e|e
   ·cases e;exact⟨pQ h.1,.inr ⟨_,_,_,rfl⟩⟩
   ·exact ih h.2 e
  ·cases h
def oddS:St→Bool
 |[]=>true
 |(k,some (.bx _))::l=>Nat.beq (k%2) 1&&oddS l
 |(k,some (.fam _ _ _))::l=>Nat.beq (k%2) 1&&oddS l
 |_=>false
theorem wN1{T:St}(h:oddS T=true){k:Nat}{c:Cell}(e:(k,some c)∈T):k%2=1∧∀x,c≠.sv x:=by
 induction T with
 |nil=>cases e
 | cons p T ih=>
  obtain⟨q,x⟩:=p;unfold oddS at h;split at h
  ·rename_i he;cases he
  ·rename_i he;cases he;simp only[Bool.and_eq_true]at h;rcases pU.1 e with e|e
   ·cases e;exact⟨pQ h.1,fun x e=>by cases e⟩
   ·exact ih h.2 e
  ·rename_i he;cases he;simp only[Bool.and_eq_true]at h;rcases pU.1 e with e|e
   ·cases e;exact⟨pQ h.1,fun x e=>by cases e⟩
   ·exact ih h.2 e
  ·cases h
theorem lk_oe{O E:St}(hO:oddS O=true)(hE:okE E=true){k:Nat}{c:Cell}(e:lk (O++E) k=some c):(k%2=1∧(k,some c)∈O∧∀x,c≠.sv x)∨(k%2=0∧lk E k=some c∧((∃x,c=.sv (.v x))∨∃d u off,c=.sv (.rp d u off))):=by
 have hm:=yX e;rcases cJ.1 hm with hm|hm
 ·have:=wN1 hO hm;exact .inl ⟨this.1,hm,this.2⟩
 ·have h:=okE_mem hE hm;refine .inr ⟨h.1,?_,h.2⟩;rw[qD]at e;rcases qBG e with h1|h1
  ·have:=(wN1 hO h1).1;omega
  ·exact h1
theorem flat_of:∀{T:St},(∀k c,(k,some c)∈T→(∀d id,c≠.sv (.al d id))∧∀d id q i off,c≠.sv (.at d id q i off))→flat T=true:=by
 intro T
 induction T with
 |nil=>intro _;rfl
 |cons p T ih=>
  intro h;obtain⟨k,c⟩:=p;have hT:=ih fun k c hm=>h k c (pZ _ hm);unfold flat;split
  ·rename_i he;cases he
  ·rename_i he;cases he;exact absurd rfl ((h _ _ (pT ..)).1 _ _)
  ·rename_i he;cases he;exact absurd rfl ((h _ _ (pT ..)).2 _ _ _ _ _)
  ·rename_i he;cases he;exact hT
theorem flat_app{A B:St}(hA:flat A=true)(hB:flat B=true):flat (A++B)=true:=flat_of fun k c hm=>by
 rcases cJ.1 hm with hm|hm
 ·exact xH hA hm
 ·exact xH hB hm
theorem qAD{O E:St}(hO:oddS O=true)(hE:okE E=true):flat (O++E)=true:=flat_of fun k c hm=>by
 rcases cJ.1 hm with hm|hm
 ·have:=(wN1 hO hm).2;exact⟨fun d id=>this _,fun d id q i off=>this _⟩
 ·rcases(okE_mem hE hm).2 with⟨x,rfl⟩|⟨d,u,off,rfl⟩
  ·exact⟨(fun _ _ e=>by cases e),(fun _ _ _ _ _ e=>by cases e)⟩
  ·exact⟨(fun _ _ e=>by cases e),(fun _ _ _ _ _ e=>by cases e)⟩
def xR:List Nat→List V→St
 |p::ps,x::xs=>(2*p,some (.sv (.v x)))::xR ps xs
 |_,_=>[]
def keyIn(T:St)(k:Nat):Bool:=T.any fun p=>Nat.beq p.1 k
theorem keyIn_of{T:St}{k:Nat}{c:Cell}(h:lk T k=some c):keyIn T k=true:=by have:=yX h;unfold keyIn;rw[bZ];exact⟨_,this,by simp⟩
theorem par_lk:∀{ps:List Nat}{e:List V}{k:Nat}{c:Cell},lk (xR ps e) k=some c→∃p∈ps,k=2*p∧∃x,c=.sv (.v x)
 |[],_,_,_,h=>by simp only[xR]at h;cases h
 |_::_,[],_,_,h=>by cases h
 |p::ps,x::xs,k,c,h=>by
  simp only[xR,lk]at h;by_cases hk:2*p=k
  ·subst hk;simp at h;subst h;exact⟨p,pT ..,rfl,_,rfl⟩
  ·rw[vB hk]at h;obtain⟨q,h1,h2⟩:=par_lk h;exact⟨q,pZ _ h1,h2⟩
theorem par_get{S:Nat→Prop}{w:World}:∀{ps:List Nat}{e:List V}{us:List Value}(tmps:Array Value),RepL S w e us→ps.length=e.length→ps.Nodup→(∀p∈ps,p<tmps.size)→
  ((ps.zip us).foldl (fun t (x:Nat×Value)=>t.setIfInBounds x.1 x.2) tmps).size=tmps.size∧(∀d,d ∉ ps→((ps.zip us).foldl (fun t (x:Nat×Value)=>t.setIfInBounds x.1 x.2) tmps).getD d undef=tmps.getD d undef) ∧
  (∀d x,lk (xR ps e) (2*d)=some (.sv (.v x))→Rep S w x (((ps.zip us).foldl (fun t (x:Nat×Value)=>t.setIfInBounds x.1 x.2) tmps).getD d undef))
 |[],e,us,tmps,_,_,_,_=>⟨rfl,fun _ _=>rfl,fun _ _ h=>by simp only[xR]at h;cases h⟩
 |p::ps,[],us,tmps,_,h,_,_=>by simp at h
 | p::ps,x::xs,us,tmps,hr,hl,hn,hb=>by
  cases hr with
  | @cons _ u _ us h1 h2=>
   have hp:=hb p (pT ..);obtain⟨g1,g2,g3⟩:=par_get (tmps.setIfInBounds p u) h2 (by simpa using hl) (pH4.1 hn).2 (fun q hq=>by simpa using hb q (pZ _ hq));refine⟨by simpa using g1,fun d hd=>?_,fun d y hd=>?_⟩
   ·simp only[List.mem_cons,not_or]at hd;have:=g2 d hd.2;simp only[List.zip_cons_cons,List.foldl_cons];rw[this,pS,pS,cH (fun e=>hd.1 e.symm)]
   ·simp only[List.zip_cons_cons,List.foldl_cons];simp only[xR,lk]at hd;by_cases hk:p=d
    ·subst hk;simp at hd;subst hd;rw[g2 p (pH4.1 hn).1,pS,fH hp];exact h1
    ·rw[vB (show 2*p≠2*d by omega)]at hd;exact g3 d y hd
section
variable{P:Program}{C:Cx}{w0:Base}{w w':World}{n l:Nat}{β β':Bl}{f:Fm}{a:Act}{ex:Nat→Prop}
theorem HB.subs{t:St}(h:HB w0 n β f a w)(hs:Vl.sub t f)(hfl:flat t=true):HB w0 n β (lk t) a w:=by
 refine⟨h.size,h.dfr,h.bel,h.inj,h.rng,h.sp,h.spk,h.od,fun e d id T k es e1 e2=>absurd rfl ((xH hfl (yX e1)).1 d id),fun e d id k i off T es B e1 e2 e3=>absurd rfl ((xH hfl (yX e1)).2 d id k i off),fun d x e=>?_,fun d cs e=>?_,fun d T k L e=>h.fm d T k L (wD7 hs e)⟩
 ·have:=wD7 hs e;cases x with
  |own id T k es=>obtain⟨id',e'⟩:=this;have q:=h.slot d _ e';exact q
  |_=>exact h.slot d _ this
 ·exact h.box d cs (wD7 hs e)
theorem HB.notOwned(h:HB w0 n β f a w){q:Nat}(hq:β 0 (q+1)=some q):¬owned β q:=fun⟨K,J,hj,e⟩=>by have:=h.inj _ _ _ _ _ e hq;omega
theorem HB.stg{lo:Nat}{hlo:lo≤w.heap.size}(h:HB (bR w β ex l lo hlo) n β' f a w'):Stg ex β w β' w' where
 os:=h.bel.os
 tape:=h.bel.tape
 output:=h.bel.output
 size:=h.bel.size
 blk b h1 h2 h3:=h.bel.block b h1 ⟨h2,h3⟩
 nb b h1 h2:=h.od b h1 h2
 sp b h1 h2 h3 h4:=h.sp b h2 (fun hh=>hh _ _ h1) ⟨h3,h4⟩
 ow b hb:=by
  obtain⟨K,J,hj,e⟩:=hb;rcases(h.rng _ _ _ e).1 hj with h1|h1
  ·exact .inl h1
  ·by_cases h2:owned β b
   ·exact .inr (.inl h2)
   ·by_cases h3:ex b
    ·exact .inr (.inr h3)
    ·exact absurd ⟨h2,h3⟩ h1
theorem Stg.trans{β2:Bl}{w2:World}(h:Stg ex β w β' w')(k:Stg ex β' w' β2 w2):Stg ex β w β2 w2 where
 os:=k.os.trans h.os
 tape:=k.tape.trans h.tape
 output:=k.output.trans h.output
 size:=pD h.size k.size
 blk b h1 h2 h3:=(k.blk b (mN h1 h.size) (fun ho=>by
  rcases h.ow b ho with h4|h4|h4
  ·omega
  ·exact h2 h4
  ·exact h3 h4) h3).trans (h.blk b h1 h2 h3)
 nb b h1 h2:=k.nb b (mN h1 h.size) (h.nb b h1 h2)
 sp b h1 h2 h3 h4:=k.sp b (h.sp b h1 h2 h3 h4) (mN h2 h.size) (fun ho=>by
  rcases h.ow b ho with h5|h5|h5
  ·omega
  ·exact h3 h5
  ·exact h4 h5) h4
 ow b hb:=by
  rcases k.ow b hb with h1|h1|h1
  ·exact .inl (pD h.size h1)
  ·exact h.ow b h1
  ·exact .inr (.inr h1)
theorem Stg.weak{ex':Nat→Prop}(h:Stg ex β w β' w')(he:∀b,ex b→ex' b):Stg ex' β w β' w' where
 os:=h.os
 tape:=h.tape
 output:=h.output
 size:=h.size
 blk b h1 h2 h3:=h.blk b h1 h2 fun h4=>h3 (he b h4)
 nb:=h.nb
 sp b h1 h2 h3 h4:=h.sp b h1 h2 h3 fun h5=>h4 (he b h5)
 ow b hb:=(h.ow b hb).imp id fun h1=>h1.imp id (he b)
theorem Stg.turn(o:Obj):Stg (fun b=>b=l) β w β { w with heap:=w.heap.setIfInBounds l o } where
 os:=rfl
 tape:=rfl
 output:=rfl
 size:=by simp
 blk b h1 h2 h3:=cH (fun e=>h3 e.symm)
 nb b h1 h2:=h2
 sp b h1 h2 h3 h4:=h1
 ow b hb:=.inr (.inl hb)
structure Cont(lo n:Nat)(β:Bl)(f:Fm)(a:Act)(w:World):Prop where
 inj:∀k j k' j' B,β k j=some B→β k' j'=some B→k=k'∧j=j'
 rng:∀k j B,β k j=some B→B<w.heap.size
 spk:∀k j B,β k j=some B→j=0∨k%2=1∨(k=0∧j=B+1)
 slot:∀d x,f (2*d)=some (.sv x)→zX lo (wT β) w β (2*d) 0 x (a.tmps.getD d undef)
 box:∀d cs,f (2*d+1)=some (.bx cs)→∃(B:Nat)(T:TypeId)(us:List Value),β (2*d+1) 0=some B∧w.heap[B]? = some (.cells us.toArray T (0,0))∧us.length=cs.length ∧
  ∀j x u,cs[j]? = some x→us[j]? = some u→zX lo (wT β) w β (2*d+1) (j+1) x u∧u.oneCell'=true∧yI x=true
 fm:∀d T k L,f (2*d+1)=some (.fam T k L)→vV lo (wT β) w β (2*d+1) T k L
theorem HB.cont(h:HB w0 n β f a w):Cont w0.lo n β f a w:=⟨h.inj,fun k j B e=>(h.rng k j B e).2,h.spk,h.slot,h.box,h.fm⟩
theorem Cont.turn{lo:Nat}(h:Cont lo n β f a w){q:Nat}(hq:β 0 (q+1)=some q)(o:Obj):Cont lo n β f a { w with heap:=w.heap.setIfInBounds q o }:=by
 have hne:∀b,b≠q→(w.heap.setIfInBounds q o)[b]? = w.heap[b]?:=fun b hb=>cH (fun e=>hb e.symm);have hS:∀b,wT β b→b<w.heap.size→wT β b∧(w.heap.setIfInBounds q o)[b]? = w.heap[b]?:=fun b hb _=>⟨hb,hne b (fun e=>by subst e;exact hb _ _ hq)⟩
 have hk:∀k j B,β k j=some B→j=0∨k%2=1→(w.heap.setIfInBounds q o)[B]? = w.heap[B]?:=fun k j B hB hj=>hne B (fun e=>by subst e;have:=h.inj _ _ _ _ _ hB hq;omega)
 refine⟨h.inj,fun k j B e=>by simpa using h.rng k j B e,h.spk,fun d x e=>?_,fun d cs e=>?_,fun d T k L e=>?_⟩
 ·have hs:=h.slot d x e;cases x with
  |own id T k es=>exact zX.keep (x:=.own id T k es) hs hS (fun _=>rfl) (fun _ B hB=>hk _ _ B hB (.inl rfl)) (fun _ _ h=>h.elim)
  |v x=>exact zX.keep (x:=.v x) hs hS (fun hh=>by cases hh) (fun hh=>by cases hh) (fun _ _ hh=>hh.elim)
  |_=>exact hs
 ·obtain⟨B,T,us,h1,h2,h3,h4⟩:=h.box d cs e;refine⟨B,T,us,h1,(hk _ _ B h1 (.inl rfl)).trans h2,h3,fun j x u hx hu=>?_⟩;obtain⟨g1,g2,g3⟩:=h4 j x u hx hu;exact⟨g1.keep hS (fun _=>rfl) (fun _ B hB=>hk _ _ B hB (.inr (by omega))) (fun _ _ _ _ e=>e),g2,g3⟩
 ·exact(h.fm d T k L e).keep hS fun _ _ B _ hB=>⟨hB,hk _ _ B hB (.inr (by omega))⟩
theorem Cont.round{lo:Nat}(h:Cont lo n β f a w)(hlo:lo≤w.heap.size)(hsz:a.tmps.size=n)(hd:a.defers=[])(hal:∀k d id,f k≠some (.sv (.al d id)))(hat:∀k d id q i off,f k≠some (.sv (.at d id q i off))):HB (bR w β ex l lo hlo) n β f a w:=by
 refine⟨hsz,⟨.inr hd,by simp[hd],by rw[hd];exact .nil⟩,BelP.refl _,h.inj,fun k j B e=>⟨fun hj=>.inr fun hk=>hk.1 ⟨k,j,hj,e⟩,h.rng k j B e⟩,fun b h1 h2 h3=>?_,h.spk,fun b _ hb=>hb,fun e d id T k es e1 _=>absurd e1 (hal _ _ _),fun e d id k i off T es B e1 _ _=>absurd e1 (hat _ _ _ _ _ _),h.slot,h.box,h.fm⟩
 have:∃k j,β k j=some b:=by apply cN;intro hh;exact h2 fun k j e=>hh ⟨k,j,e⟩
 obtain⟨k,j,e⟩:=this;rcases h.spk _ _ _ e with hj|hj|⟨hk,hj⟩
 ·exact absurd ⟨k,j,.inl hj,e⟩ h3.1
 ·exact absurd ⟨k,j,.inr hj,e⟩ h3.1
 ·rw[hk,hj]at e;exact e
theorem HB.back{O O' E:St}{a3:Act}(hO:oddS O=true)(hO':oddS O'=true)(hE:okE E=true)(h:HB w0 n β (lk (O++E)) a w)(hs:Stg (fun b=>b=l) β w β' w')(hl:β 0 (l+1)=some l)(hlw:w0.heap.size≤l)(hlm:∀o,w.heap[l]?≠some (.deferred o))(hc:Cont w0.lo n β' (lk (O'++E)) a3 w'):HB w0 n β' (lk (O'++E)) a w':=by
 have hkeep:∀b,wT β b→b<w.heap.size→wT β' b∧w'.heap[b]? = w.heap[b]?:=fun b hb hlt=>⟨hs.nb b hlt hb,hs.blk b hlt (wN2 hb) (fun e=>by subst e;exact hb _ _ hl)⟩
 have hspec:∀q,β 0 (q+1)=some q→q≠l→β' 0 (q+1)=some q∧w'.heap[q]? = w.heap[q]?:=fun q hq hne=>⟨hs.sp q hq (h.rng _ _ _ hq).2 (h.notOwned hq) hne,hs.blk q (h.rng _ _ _ hq).2 (h.notOwned hq) hne⟩
 refine⟨h.size,⟨h.dfr.1,fun d hd=>?_,h.dfr.2.2⟩,?_,hc.inj,fun k j B e=>⟨fun hj=>?_,hc.rng k j B e⟩,fun b h1 h2 h3=>?_,hc.spk,fun b h1 h2=>(hkeep b (h.od b h1 h2) (mN h1 h.base)).1,fun e d id T k es e1 _=>?_,fun e d id k i off T es B e1 _ _=>?_,fun d x e=>?_,hc.box,hc.fm⟩
 ·obtain⟨r,h1,h2,h3,h4⟩:=h.dfr.2.1 d hd;have hne:r≠l:=fun e=>by subst e;exact hlm _ h4
  exact⟨r,h1,(hspec r h2 hne).1,h3,(hspec r h2 hne).2.trans h4⟩
 ·refine⟨hs.os.trans h.bel.os,hs.tape.trans h.bel.tape,hs.output.trans h.bel.output,pD h.base hs.size,fun b h1 h2=>?_⟩;refine(hs.blk b (mN h1 h.base) (fun ho=>?_) (fun e=>by omega)).trans (h.bel.block b h1 h2);obtain⟨K,J,hj,e⟩:=ho;rcases(h.rng _ _ _ e).1 hj with h3|h3
  ·omega
  ·exact h3 h2
 ·rcases hs.ow B ⟨k,j,hj,e⟩with h1|⟨K,J,hj',e'⟩|h1
  ·exact .inl (pD h.base h1)
  ·exact(h.rng _ _ _ e').1 hj'
  ·subst h1;exact .inl hlw
 ·exact(hspec b (h.sp b h1 h2 h3) (fun e=>by omega)).1
 ·rcases lk_oe hO' hE e1 with⟨_,_,h2⟩|⟨_,_,⟨x,h2⟩|⟨d,u,off,h2⟩⟩
  ·exact absurd rfl (h2 _)
  ·cases h2
  ·cases h2
 ·rcases lk_oe hO' hE e1 with⟨_,_,h2⟩|⟨_,_,⟨x,h2⟩|⟨d,u,off,h2⟩⟩
  ·exact absurd rfl (h2 _)
  ·cases h2
  ·cases h2
 ·have hnew:=hc.slot d x e;rcases lk_oe hO' hE e with⟨_,_,h2⟩|⟨_,hlk,h2⟩
  ·exact absurd rfl (h2 _)
  ·have hold:lk (O++E) (2*d)=some (.sv x):=by
    rw[qD];cases hq:app O (lk E) (2*d)with
    | none=>
     have:2*d ∉ keys O:=fun hm=>?_
     ·rw[j7 this]at hq;rw[hlk]at hq;cases hq
     ·clear hq;have key:∀O:St,oddS O=true→2*d ∉ keys O:=by
       intro O
       induction O with
       |nil=>intro _ h;cases h
       | cons p O ih=>
        intro ho hm;obtain⟨k,c⟩:=p;simp only[keys,List.mem_cons]at hm;unfold oddS at ho;split at ho
        ·rename_i he;cases he
        ·rename_i he;cases he;simp only[Bool.and_eq_true]at ho;have:=pQ ho.1;rcases hm with hm|hm
         ·omega
         ·exact ih ho.2 hm
        ·rename_i he;cases he;simp only[Bool.and_eq_true]at ho;have:=pQ ho.1;rcases hm with hm|hm
         ·omega
         ·exact ih ho.2 hm
        ·cases ho
      exact key O hO hm
    |some c=>
     rcases qBG hq with hm|hm
     ·have:=(wN1 hO hm).1;omega
     ·rw[hlk]at hm;rw[←hm]
   have hs0:=h.slot d x hold;rcases h2 with⟨y,h2⟩|⟨d',u,off,h2⟩
   ·cases h2;exact zX.keep (x:=.v y) hs0 hkeep (fun hh=>by cases hh) (fun hh=>by cases hh) (fun _ _ hh=>hh.elim)
   ·cases h2;exact⟨hs0.1,hnew.2⟩
end
section
variable{P:Program}{C:Cx}{w0:Base}{w w':World}{n l:Nat}{β β':Bl}{f:Fm}{a:Act}{st:St}{Q:kS}
def parOk(n:Nat)(E:St):List Nat→Bool
 |[]=>true
 |p::ps=>Nat.blt p n&&!keyIn E (2*p)&&(ps.all fun q=>!Nat.beq p q)&&parOk n E ps
theorem wT4{E:St}:∀{ps:List Nat},parOk n E ps=true→ps.Nodup∧∀p∈ps,p<n∧keyIn E (2*p)=false
 |[],_=>⟨.nil,by simp⟩
 | p::ps,h=>by
  simp only[parOk,Bool.and_eq_true,Bool.not_eq_true']at h;obtain⟨⟨⟨h1,h2⟩,h3⟩,h4⟩:=h;obtain⟨g1,g2⟩:=wT4 h4;refine⟨pH4.2 ⟨fun hm=>?_,g1⟩,fun q hq=>?_⟩
  ·have:=pY.1 h3 p hm;simp at this
  ·rcases pU.1 hq with rfl|hq
   ·exact⟨by simpa using h1,h2⟩
   ·exact g2 q hq
theorem wW6{F:Fence}{c:Code}{Q:Exit→Act→World→Prop}{m m':Nat}(hF:F.depth=none)(h:c.wpIn F m P Q a w):c.wpIn F m' P Q a w:=fun b k cs h1 h2 _=>h b k cs h1 h2 fun d hd=>by rw[hF]at hd;cases hd
theorem wR5{T:St}(h:flat T=true):(∀k d id,lk T k≠some (.sv (.al d id)))∧∀k d id q i off,lk T k≠some (.sv (.at d id q i off)):=
 ⟨fun k d id e=>(xH h (yX e)).1 d id rfl,fun k d id q i off e=>(xH h (yX e)).2 d id q i off rfl⟩
theorem run_newO(o:Obj):(newObj o).run P w=.ok w.heap.size (w.alloc o):=rfl
theorem qFA:∀{ps:List Nat}{e:List V},flat (xR ps e)=true
 |[],_=>rfl
 |_::_,[]=>rfl
 |p::ps,x::xs=>by simp only[xR,flat];exact qFA
theorem wLC(hC:CxOk P C){g:Operand}{ps:Array Tmp}{assign body:Code}{gf:FuncId}{fn:Func}{fs cs:List V}{L:List (List V)}{Bt:Type}(O:Bt→St)(E:St)(I:Nat→Bt→Prop)(b0:Bt)(T1:Nat→List V→Bt→St)(hro:w0.ro=none)(hmk:w0.mks=true)(hg:opv (lk st) g=some (.v (.clo gf fs cs)))(hfn:C.fns.get gf=some fn)(hseq:VSeq P gf fs cs L)(hps:parOk n E ps.toList=true)(hpl:∀e∈L,e.length=ps.size)(hE:okE E=true)(hO:∀b,oddS (O b)=true)(h0:I 0 b0)(hs:sub (O b0++E) (lk st))(hT1:∀j e b,flat (T1 j e b)=true)(hA:∀j e b,L[j]? = some e→I j b→∀w0':Base,VW P w0' n assign (fun x st1=>x=.normal∧sub (T1 j e b) (lk st1)) (xR ps.toList e++(O b++E)))(hB:∀j e b,L[j]? = some e→I j b→∀w0':Base,VW P w0' n body (fun x st2=>x=.normal∧∃b',I (j+1) b'∧sub (O b'++E) (lk st2)) (T1 j e b))(hk:∀b,I L.length b→Q .normal (O b++E)):VW P w0 n (.rangeFunc g ps assign body) Q st:=by
 rintro a w ⟨β,hh⟩;have hv:=hh.val hg;have hh0:=hh.subs hs (qAD (hO b0) hE);obtain⟨hnd,hpE⟩:=wT4 hps;refine wpIn_rangeFunc fun fnid _=>?_;generalize hu:a.eval g=u at hv;cases hv with
 | @clo _ _ _ us vs hfs hcs=>
  obtain⟨hf1,hf2⟩:=hC.fns gf fn hfn;have hround:(Wd w0).round=none:=hro;obtain⟨r,hr⟩:∃r,w.heap.size=r:=⟨_,rfl⟩
  obtain⟨rec,hrec⟩:∃rec:Loop,{ state:=.ready,pending:=none,fn:=fnid,tmps:=a.tmps,params:=ps,assign:=assign,body:=body,defers:=r }=rec:=⟨_,rfl⟩
  obtain⟨wA,hwA⟩:∃wA,(w.alloc (.deferred (some []))).alloc (.loop rec)=wA:=⟨_,rfl⟩
  have hsA:wA.heap.size=r+2:=by rw[←hwA,←hr];simp
  have hbA:Below w.heap.size w wA:=by rw[←hwA];exact((Below.refl _ _).alloc (pC _) _).alloc (by simp) _
  have hlA:wA.heap[r+1]? = some (.loop rec):=by rw[←hwA,←hr];have:=heap_alloc_new (w.alloc (.deferred (some []))) (.loop rec);simpa using this
  have hrA:wA.heap[r]? = some (.deferred (some [])):=by rw[←hwA,←hr,Below.heap_alloc _ _ _ (by simp)];exact heap_alloc_new w _
  refine⟨r+1,[mark r],wA,{ target:=.fn (.func gf) vs.toArray,args:=us.toArray++#[wD5 (r+1)] },wA,gf,((us++[wD5 (r+1)])++vs).toArray,wA,?_,?_,fun _ _=>trivial,?_,(fun h=>by cases h),?_⟩
  ·rw[hround];simp only[Instr.enterLoop,Sem.run_bind,run_newO,Result.andThen_ok,Sem.run_pure];rw[hr,hrec,hwA];simp[mark,hr]
  ·show(Deferred.ofValue (a.eval g) (#[Operand.const (wD5 (r+1))].map a.eval)).run P wA=_;rw[hu];simp[Deferred.ofValue,Act.eval]
  ·have hm:(us.toArray++#[wD5 (r+1)])++vs.toArray=((us++[wD5 (r+1)])++vs).toArray:=by
    apply dN;simp
   simp only[invoke];rw[hm];exact hf2 _ _
  let ao:Act:={ a with defers:=mark r::a.defers }
  let βA:Bl:=fun K J=>if K=0∧(J=r+1∨J=r+2)then some (J-1)else β K J
  have hbase:=hh0.base;have hvalA:∀K J B,βA K J=some B→(K=0∧J=B+1∧(B=r∨B=r+1))∨β K J=some B:=by
   intro K J B e;dsimp only[βA]at e;split at e
   ·rename_i hk;cases e;exact .inl ⟨hk.1,by omega,by omega⟩
   ·exact .inr e
  have hltr:∀K J B,β K J=some B→B<r:=fun K J B e=>by rw[←hr];exact(hh0.rng _ _ _ e).2
  have hoffA:∀K J,¬(K=0∧(J=r+1∨J=r+2))→βA K J=β K J:=fun K J h=>by dsimp only[βA];rw[if_neg h]
  have hspA:βA 0 (r+1+1)=some (r+1):=by dsimp only[βA];rw[if_pos ⟨rfl,.inr rfl⟩];rfl
  have hspr:βA 0 (r+1)=some r:=by dsimp only[βA];rw[if_pos ⟨rfl,.inl rfl⟩];rfl
  have hspo:∀q,β 0 (q+1)=some q→βA 0 (q+1)=some q:=fun q e=>by have:=hltr _ _ _ e;rw[hoffA _ _ (by omega)];exact e
  have hNB:∀b,wT β b→b<w.heap.size→wT βA b∧wA.heap[b]? = w.heap[b]?:=fun b hb hlt=>⟨fun K J e=>by
   rcases hvalA _ _ _ e with h|h
   ·omega
   ·exact hb _ _ h,hbA.block b hlt⟩
  have holdA:∀K J B,β K J=some B→wA.heap[B]? = w.heap[B]?:=fun K J B e=>hbA.block B (hh0.rng _ _ _ e).2;have hHB:HB w0 n βA (lk (O b0++E)) ao wA:=by
   have hc:=hh0.chg (β':=βA) (w':=wA) (hh0.bel.trans hbA) (fun k j k' j' B e1 e2=>by
    rcases hvalA _ _ _ e1 with h1|h1<;>rcases hvalA _ _ _ e2 with h2|h2
    ·omega
    ·have:=hltr _ _ _ h2;omega
    ·have:=hltr _ _ _ h1;omega
    ·exact hh0.inj _ _ _ _ _ h1 h2) (fun k j B e=>by
    rcases hvalA _ _ _ e with h|h
    ·exact⟨fun hj=>.inl (by omega),by omega⟩
    ·have:=hltr _ _ _ h;exact⟨(hh0.rng _ _ _ h).1,by omega⟩) (fun j b e=>by
    have:=hltr _ _ _ e;have h2:=hh0.spk _ _ _ e;rw[hoffA _ _ (by omega)];exact e) hNB (fun d id T k es e=>⟨hoffA _ _ (by omega),holdA _ _⟩) (fun d x e d' hx B hB=>by rwa [hoffA _ _ (by omega)]at hB) (fun d cs e=>⟨hoffA _ _ (by omega),holdA _ _⟩)
    (fun d cs j id T k es e _=>⟨hoffA _ _ (by omega),holdA _ _⟩) (fun d T k L e B hB=>⟨by rw[hoffA _ _ (by omega)];exact hB,holdA _ _ _ hB⟩) (fun q e=>holdA _ _ _ e) (fun k j B e=>by
    rcases hvalA _ _ _ e with h|h
    ·exact .inr (.inr ⟨h.1,h.2.1⟩)
    ·exact hh0.spk _ _ _ h)
   refine⟨hc.size,⟨.inl hmk,fun d hd=>?_,?_⟩,hc.bel,hc.inj,hc.rng,hc.sp,hc.spk,hc.od,hc.al,hc.pt,hc.slot,hc.box,hc.fm⟩
   ·rcases pU.1 hd with rfl|hd
    ·exact⟨r,rfl,hspr,by omega,hrA⟩
    ·obtain⟨q,h1,h2,h3,h4⟩:=hh0.dfr.2.1 d hd;exact⟨q,h1,hspo q h2,h3,(holdA _ _ _ h2).trans h4⟩
   ·refine pF1.2 ⟨fun d hd e=>?_,hh0.dfr.2.2⟩;obtain⟨q,h1,h2,h3,h4⟩:=hh0.dfr.2.1 d hd;rw[←e]at h1;have:=hltr _ _ _ h2;simp only[mark,Deferred.mk.injEq,Target.collected.injEq]at h1;omega
  obtain⟨J,hJ⟩:∃J:Option Nat→(Nat→Prop)→World→Prop,J=fun j X w1=>∃j' b βb,j=some j'∧I j' b∧HB w0 n βb (lk (O b++E)) ao w1∧βb 0 (r+1+1)=some (r+1)∧w1.heap[r+1]? = some (.loop rec)∧∀q,X q→q<w1.heap.size→wT βb q:=⟨_,rfl⟩
  have hw0r:w0.heap.size≤r+1:=by omega
  have hR:Rounds P (r+1) L J:=by
   rw[hJ];refine⟨?_,?_⟩
   ·rintro j X X' w1 w2 ⟨j',b,βb,rfl,hI,hB1,hl1,hrec1,hX1⟩ hb hX';have hlt:=hB1.rng _ _ _ hl1;refine⟨j',b,βb,rfl,hI,hB1.grow hb,hl1,(hb.block _ hlt.2).trans hrec1,fun q hq hq2=>?_⟩;rcases pK q w1.heap.size with h1|h1
    ·rcases hX' q hq hq2 with h2|h2
     ·exact hX1 q h2 h1
     ·omega
    ·intro K J e;have:=(hB1.rng _ _ _ e).2;omega
   ·rintro j e X w1 us2 hL ⟨j',b,βb,hj,hI,hB1,hl1,hrec1,hX1⟩ hus2;cases hj;have hee:=hpl e (pF hL);have hul:=hus2.length;have hsz:ps.size=us2.length:=by omega
    have haz:a.tmps.size=n:=hh0.size;obtain⟨g1,g2,g3⟩:=par_get (ps:=ps.toList) a.tmps hus2 (by simpa using hee.symm) hnd (fun p hp=>by rw[haz];exact(hpE p hp).1);obtain⟨tm,htm⟩:∃tm,(ps.toList.zip us2).foldl (fun t (x:Nat×Value)=>t.setIfInBounds x.1 x.2) a.tmps=tm:=⟨_,rfl⟩
    rw[htm]at g1 g2 g3;have hfold:(ps.zip us2.toArray).foldl (fun tmps (x:Tmp×Value)=>match x with|(t,a)=>tmps.setIfInBounds t a) a.tmps=tm:=by rw[←htm,←pB3];simp
    refine⟨fnid,tm,assign,body,?_,fun m=>?_⟩
    ·rw[←hrec]at hrec1;rw[←hfold];simp[Instr.yield,Instr.getLoop,wAJ (by simp) hrec1,hsz,Result.andThen]
    ·refine roundIn_of_wpIn (F:=Fence.wide) trivial ?_;have hlo1:w0.lo≤w1.heap.size:=pD w0.lole hB1.base;have hodd:∀(d:Nat)(c:Cell),lk (xR ps.toList e++(O b++E)) (2*d+1)=some c→lk (O b++E) (2*d+1)=some c:=fun d c hq=>by
      rw[qD]at hq
      rwa [j7 (fun hm=>by
       have key:∀(qs:List Nat)(xs:List V),2*d+1 ∉ keys (xR qs xs):=by
        intro qs
        induction qs with
        |nil=>intro xs h;cases h
        | cons q qs ih=>
         intro xs h;cases xs with
         |nil=>cases h
         |cons x xs=>
          simp only[xR,keys,List.mem_cons]at h;rcases h with h|h
          ·omega
          ·exact ih xs h
       exact key _ _ hm)]at hq
     have hcA:Cont w0.lo n βb (lk (xR ps.toList e++(O b++E))) { tmps:=tm,defers:=[] } w1:=by
      refine⟨hB1.inj,fun k j B e=>(hB1.rng k j B e).2,hB1.spk,fun d x hq=>?_,fun d cs hq=>hB1.box d cs (hodd d _ hq),fun d T k L hq=>hB1.fm d T k L (hodd d _ hq)⟩;rw[qD]at hq;have hcase:lk (xR ps.toList e) (2*d)=some (.sv x)∨lk (O b++E) (2*d)=some (.sv x):=by
       have key:∀(qs:List Nat)(xs:List V)(f:Fm),app (xR qs xs) f (2*d)=some (.sv x)→lk (xR qs xs) (2*d)=some (.sv x)∨f (2*d)=some (.sv x):=by
        intro qs
        induction qs with
        |nil=>intro xs f h;exact .inr h
        | cons q qs ih=>
         intro xs f h;cases xs with
         |nil=>exact .inr h
         |cons y ys=>
          simp only[xR,app,lk]at h ⊢;by_cases hk:2*q=2*d
          ·rw[hk]at h ⊢;simp at h ⊢;exact .inl h
          ·rw[vB hk]at h ⊢;exact ih ys f h
       exact key _ _ _ hq
      rcases hcase with h1|h1
      ·obtain⟨p,hp,_,y,hy⟩:=par_lk h1;cases hy;exact(g3 d y h1).mono fun q hq hlt=>hX1 q hq hlt
      ·have hs1:=hB1.slot d x h1;have hnp:d ∉ ps.toList:=fun hm=>by
        have:=(hpE d hm).2;rcases lk_oe (hO b) hE h1 with⟨_,_,h2⟩|⟨_,h2,_⟩
        ·exact absurd rfl (h2 _)
        ·rw[keyIn_of h2]at this;cases this
       have:tm.getD d undef=ao.tmps.getD d undef:=g2 d hnp
       show zX w0.lo (wT βb) w1 βb (2*d) 0 x (tm.getD d undef);rw[this];exact hs1
     have hflA:flat (xR ps.toList e++(O b++E))=true:=flat_app qFA (qAD (hO b) hE);have hA0:=hcA.round (ex:=fun _=>False) (l:=r+1) hlo1 (by show tm.size=n;rw[g1,haz]) rfl (wR5 hflA).1 (wR5 hflA).2;refine wW6 rfl (wpIn_mono (hA j e b hL hI _ _ _ ⟨βb,hA0⟩) fun x a1 wq hq=>?_);obtain⟨st1,⟨rfl,hsub1⟩,β1,hB2⟩:=hq;have hT:=hB2.subs hsub1 (hT1 j e b);have s1:=hT.stg;have hl2:β1 0 (r+1+1)=some (r+1):=s1.sp _ hl1 (hB1.rng _ _ _ hl1).2 (hB1.notOwned hl1) (fun h=>h);have hrec2:wq.heap[r+1]? = some (.loop rec):=(s1.blk _ (hB1.rng _ _ _ hl1).2 (hB1.notOwned hl1) (fun h=>h)).trans hrec1;obtain⟨recB,hrecB⟩:∃recB:Loop,{ rec with state:=.busy }=recB:=⟨_,rfl⟩
     refine⟨{ wq with heap:=wq.heap.setIfInBounds (r+1) (.loop recB) },?_,?_⟩
     ·rw[←hrecB];rw[←hrec]at hrec2 ⊢;simp[Instr.beginRound,Instr.getLoop,wAJ (by simp) hrec2,wF3 _ (by simp) hrec2,Result.andThen]
     ·have hc2:=hT.cont.turn hl2 (.loop recB);have hszq:r+1<wq.heap.size:=(hT.rng _ _ _ hl2).2;have hrec3:({ wq with heap:=wq.heap.setIfInBounds (r+1) (.loop recB) }:World).heap[r+1]? = some (.loop recB):=fH hszq;have s2:Stg (fun b=>b=r+1) β1 wq β1 { wq with heap:=wq.heap.setIfInBounds (r+1) (.loop recB) }:=Stg.turn _;generalize hw2:({ wq with heap:=wq.heap.setIfInBounds (r+1) (.loop recB) }:World)=wz at hc2 hrec3 s2 ⊢;have hlo2:w0.lo≤wz.heap.size:=pD hlo1 (pD s1.size s2.size);have hB0:=hc2.round (ex:=fun _=>False) (l:=r+1) hlo2 hT.size (hT.dfr.1.resolve_left (by simp[bR])) (wR5 (hT1 j e b)).1 (wR5 (hT1 j e b)).2;refine wW6 rfl (wpIn_mono (hB j e b hL hI _ _ _ ⟨β1,hB0⟩) fun x a3 w3 hq=>?_);obtain⟨st2,⟨rfl,b',hI',hsub2⟩,β3,hB3⟩:=hq;have hT3:=hB3.subs hsub2 (qAD (hO b') hE);have s3:=hT3.stg
      have hlz:=(hc2.rng _ _ _ hl2)
      have hno:¬owned β1 (r+1):=hT.notOwned hl2;have hl3:β3 0 (r+1+1)=some (r+1):=s3.sp _ hl2 hlz hno (fun h=>h);have hrec4:w3.heap[r+1]? = some (.loop recB):=(s3.blk _ hlz hno (fun h=>h)).trans hrec3;have hsz3:r+1<w3.heap.size:=(hT3.rng _ _ _ hl3).2;have hrr:({ recB with state:=.ready,pending:=none }:Loop)=rec:=by rw[←hrecB,←hrec]
      refine⟨.bool true,{ w3 with heap:=w3.heap.setIfInBounds (r+1) (.loop rec) },?_,true,rfl,some (j+1),(fun _=>rfl),(fun h=>by cases h),?_,?_,?_⟩
      ·rw[←hrr];simp[Instr.endRound,Instr.getLoop,wAJ (by simp) hrec4,wF3 _ (by simp) hrec4,Result.andThen]
      ·have s4:Stg (fun b=>b=r+1) β3 w3 β3 { w3 with heap:=w3.heap.setIfInBounds (r+1) (.loop rec) }:=Stg.turn _;have hS:=(((s1.weak (ex':=fun b=>b=r+1) (fun _ h=>h.elim)).trans s2).trans (s3.weak (fun _ h=>h.elim))).trans s4;refine⟨j+1,b',β3,rfl,hI',HB.back (hO b) (hO b') hE hB1 hS hl1 hw0r (fun o h=>by rw[hrec1]at h;cases h) (hT3.cont.turn hl3 _),hl3,fH hsz3,fun q hq _=>hS.nb q hq.2 (hX1 q hq.1 hq.2)⟩
      ·intro q hq hlt;have s4:Stg (fun b=>b=r+1) β3 w3 β3 { w3 with heap:=w3.heap.setIfInBounds (r+1) (.loop rec) }:=Stg.turn _;have hS:=(((s1.weak (ex':=fun b=>b=r+1) (fun _ h=>h.elim)).trans s2).trans (s3.weak (fun _ h=>h.elim))).trans s4;exact hS.blk q hlt (wN2 (hX1 q hq hlt)) (fun h=>by subst h;exact hX1 _ hq hlt _ _ hl1)
      ·have:=s1.size;have:=s2.size;have:=s3.size;simp;omega
  have hJ0:J (some 0) (wT βA) wA:=by rw[hJ];exact⟨0,b0,βA,rfl,h0,hHB,hspA,hlA,fun q hq _=>hq⟩
  have hcall:=hseq (wT βA) wA us vs (r+1) J hR (hfs.keep hNB) (hcs.keep hNB) hJ0;refine wUD (ro:=w0.ro) (Calls.mono hcall ?_);rintro e w3 ⟨⟨v,rfl⟩,j,X,hj,hj2⟩;rw[hJ]at hj;obtain⟨j',b,βb,rfl,hI,hB1,hl1,hrec1,_⟩:=hj;obtain rfl:j'=L.length:=by
   rcases hj2 with h|h
   ·cases h;rfl
   ·cases h
  refine⟨none,{ w3 with heap:=w3.heap.setIfInBounds (r+1) (.loop { rec with state:=.exhausted }) },?_,?_⟩
  ·rw[←hrec]at hrec1 ⊢;simp[Instr.endLoop,Instr.getLoop,wAJ (by simp) hrec1,wF3 _ (by simp) hrec1,Result.andThen]
  ·exact⟨O b++E,hk b hI,βb,HB.back (hO b) (hO b) hE hB1 (Stg.turn _) hl1 hw0r (fun o h=>by rw[hrec1]at h;cases h) (hB1.cont.turn hl1 _)⟩
end
section
variable{P:Program}{C:Cx}{w0:Base}{n:Nat}{st:St}{Q:kS}{ops:Array Oper}
theorem pin_ok{s d:Nat}{cs:List SV}(h:lk st (2*s)=some (.sv (.bx d 0)))(hb:lk st (2*d+1)=some (.bx cs)):∀a w,Hs w0 n (lk st) a w→∃u,Hs w0 n (lk ((2*s,some (.sv (.rp d u 0)))::st)) a w:=by
 rintro a w ⟨β,hh⟩;obtain⟨B,T,us,g1,_⟩:=hh.box d cs hb;have hs:=hh.slot s _ h;have e1:=hs B g1;refine⟨.pointer (some ⟨B,0,none⟩),β,?_⟩;have h3:=hh.reslot (d:=s) (x:=.rp d (.pointer (some ⟨B,0,none⟩)) 0) rfl ⟨⟨B,rfl,e1⟩,fun B' hB'=>by rw[g1]at hB';cases hB';rfl⟩;rw[show lk ((2*s,some (.sv (.rp d (.pointer (some ⟨B,0,none⟩)) 0)))::st)=upd (lk st) (2*s) (some (.sv (.rp d (.pointer (some ⟨B,0,none⟩)) 0)))from by have e:=qD (u:=[(2*s,some (Cell.sv (.rp d (.pointer (some ⟨B,0,none⟩)) 0)))]) (st:=st);rw[app1]at e;exact e]
 exact h3
theorem wRG{c:Code}(s d:Nat){cs:List SV}(h:lk st (2*s)=some (.sv (.bx d 0)))(hb:lk st (2*d+1)=some (.bx cs))(hv:∀u,VW P w0 n c Q ((2*s,some (.sv (.rp d u 0)))::st)):VW P w0 n c Q st:=wGC _ (pin_ok h hb) hv
end
section
variable{P:Program}{C:Cx}{w0:Base}{n:Nat}{st:Fm}{o:Oper}
end
section
variable{P:Program}{C:Cx}{w0:Base}{n:Nat}{st:St}{Q:kS}{ops:Array Oper}{id k:Nat}{dr:Bool}{st0:St}{acc:List Stp}{o:Oper}
end
section
variable{P:Program}{w0:Base}{n:Nat}{st:St}{Q Q':kS}{c y t:Code}
end
end Go.Vl
