/- This program's types and functions, and the order of its operations. -/
import Derived.Test.YtkjhfnhgefbhhaaGreatCf06
import Derived.Test.YtkjhfnhgefbhhaaGreatCf07
import Derived.Test.YtkjhfnhgefbhhaaGreatProg
import Derived.WalkKit
import Derived.WalkSpells
import Derived.WalkLawsBesides
import Derived.Laws.CopyOwn
set_option linter.all false
set_option maxRecDepth 20000
set_option maxHeartbeats 6400000
namespace Go.Proofs.YtkjhfnhgefbhhaaGreat
open Go.RowKit Go.Ev Go.Vl
theorem mixedZ:Tryz.prog.follows .mixedOrders=true:=by rfl
theorem wG:CxOk Tryz.prog zV:=cxCx_ok mixedZ
section
variable {w0:Base} {n:Nat} {st:St} {Q:vZ} {ops:Array Oper} {id k:Nat} {dr:Bool} {st0:St} {acc:List Stp} {o:Oper} {rd:List Nat} {nw:List (Nat × Nat)} {u:St} {gr:List Nat}
theorem wg (ho:ops.toList[k]? = some o) (h:wP Tryz.prog w0 n o rd u nw (lk st)) (hk:RR Tryz.prog w0 n id ops dr Q st0 (k+1) (⟨gr++rd,u,nw⟩ :: acc) (u++st)) (hg:gRd n ops (lk st) o=some gr:=by exact rfl) (hn:nw.all (xY st)=true:=by exact rfl):RR Tryz.prog w0 n id ops dr Q st0 k acc st:=rr_g ho hg h hn hk
theorem wf {g:List Nat × St} (ho:ops.toList[k]? = some o) (hf:wL8 (lk st) (frzO o)=g) (h:wP Tryz.prog w0 n o rd u nw (lk (g.2++st))) (hk:RR Tryz.prog w0 n id ops dr Q st0 (k+1) (⟨gr++(rd++g.1),u++g.2,nw⟩ :: acc) ((u++g.2)++st)) (hg:gRd n ops (lk st) o=some gr:=by exact rfl) (hn:nw.all (xY st)=true:=by exact rfl):RR Tryz.prog w0 n id ops dr Q st0 k acc st:=rr_opf ho hg hf h hn hk
theorem wv (hk:RR Tryz.prog w0 n id ops dr Q st0 (k+1) (⟨gr++rd,u,nw⟩ :: acc) (u++st)) (ho:ops.toList[k]? = some o:=by exact rfl) (hg:gRd n ops (lk st) o=some gr:=by exact rfl) (h:vop zV (id*1000+k+1) n (lk st) o=some (rd,u,nw):=by exact rfl) (hn:nw.all (xY st)=true:=by exact rfl):RR Tryz.prog w0 n id ops dr Q st0 k acc st:=rr_v wG ho hg h hn hk
theorem wx {g:List Nat × St} (hk:RR Tryz.prog w0 n id ops dr Q st0 (k+1) (⟨gr++(rd++g.1),u++g.2,nw⟩ :: acc) ((u++g.2)++st)) (ho:ops.toList[k]? = some o:=by exact rfl) (hg:gRd n ops (lk st) o=some gr:=by exact rfl) (hf:wL8 (lk st) (frzO o)=g:=by exact rfl) (h:vop zV (id*1000+k+1) n (lk (g.2++st)) o=some (rd,u,nw):=by exact rfl) (hn:nw.all (xY st)=true:=by exact rfl):RR Tryz.prog w0 n id ops dr Q st0 k acc st:=rr_vf wG ho hg hf h hn hk
theorem wc {c:Call} {x:Operand} {f:FuncId} {fn:Func} {fs cs args xs:List V} {y y':V} (hcall:wD Tryz.prog f xs (fun z=>z=y)) (h:RR Tryz.prog w0 n id ops dr Q st0 (k+1) (⟨gr++(rdO x++rdL c.args.toList),dput o.dst (some (.sv (.v y'))),[]⟩ :: acc) (dput o.dst (some (.sv (.v y')))++st)) (ho:ops.toList[k]? = some o:=by exact rfl) (hg:gRd n ops (lk st) o=some gr:=by exact rfl) (hop:o.op=.call c:=by exact rfl) (hk:c.callee=.value x:=by exact rfl) (hx:opv (lk st) x=some (.v (.clo f fs cs)):=by exact rfl) (hargs:xS (lk st) c.args.toList=some args:=by exact rfl) (hfn:zV.fns.get f=some fn:=by exact rfl)
 (hl:fs++args++cs=xs:=by exact rfl) (hy:y=y':=by exact rfl) (hd:dLt n o.dst=true:=by exact rfl):RR Tryz.prog w0 n id ops dr Q st0 k acc st:=wME wG ho hg hop hk hx hargs hfn hl hcall hy hd h
theorem wh {c:Call} {x:Operand} {f:FuncId} {fn:Func} {fs cs args xs:List V} {y y':V} {g:List Nat × St} (hcall:wD Tryz.prog f xs (fun z=>z=y)) (h:RR Tryz.prog w0 n id ops dr Q st0 (k+1) (⟨gr++((rdO x++rdL c.args.toList)++g.1),dput o.dst (some (.sv (.v y')))++g.2,[]⟩ :: acc) ((dput o.dst (some (.sv (.v y')))++g.2)++st)) (ho:ops.toList[k]? = some o:=by exact rfl) (hg:gRd n ops (lk st) o=some gr:=by exact rfl) (hf:wL8 (lk st) (frzO o)=g:=by exact rfl) (hop:o.op=.call c:=by exact rfl) (hk:c.callee=.value x:=by exact rfl) (hx:opv (lk (g.2++st)) x=some (.v (.clo f fs cs)):=by exact rfl) (hargs:xS (lk (g.2++st)) c.args.toList=some args:=by exact rfl) (hfn:zV.fns.get f=some fn:=by exact rfl)
 (hl:fs++args++cs=xs:=by exact rfl) (hy:y=y':=by exact rfl) (hd:dLt n o.dst=true:=by exact rfl):RR Tryz.prog w0 n id ops dr Q st0 k acc st:=wMD wG ho hg hf hop hk hx hargs hfn hl hcall hy hd h
theorem sL {x:Operand} {c:Call} {t elem:TypeId} {m m':Nat} (hm:m=m') (hop:o.op=.call c:=by exact rfl) (hk:c.callee=.builtin .len:=by exact rfl) (ha:c.args=#[x]:=by exact rfl) (ht:c.argTypes=#[t]:=by exact rfl) (hu:zV.und t=some (.slice elem):=by exact rfl) (hl:lenV (lk st) x=some m:=by exact rfl) (hd:dLt n o.dst=true:=by exact rfl):wP Tryz.prog w0 n o (rdR (lk st) x) (dput o.dst (some (.sv (.v (.int .i64 (m':Nat)))))) [] (lk st):=qFI wG hop hk ha ht hu hl hm hd
end
section
variable {w0:Base} {n:Nat} {st:St} {o:Oper} {op:BinOp} {t yt:TypeId} {x y:Operand} {kk:IntKind} {m m':Int} {p:Prop} {ip:Decidable p}
theorem cT (hop:o.op=.binOp op t x y yt:=by exact rfl) (hx:opv (lk st) x=some (.v (.int kk m)):=by exact rfl) (hy:opv (lk st) y=some (.v (.int kk m')):=by exact rfl) (he:wG2 op kk m m'=some (.bool (decide p)):=by exact rfl) (hp:p:=by omega) (hd:dLt n o.dst=true:=by exact rfl):wP Tryz.prog w0 n o (rdO x++rdO y) (dput o.dst (some (.sv (.v (.bool true))))) [] (lk st):=j0 hop hx hy he (decide_eq_true hp) hd
theorem cF (hop:o.op=.binOp op t x y yt:=by exact rfl) (hx:opv (lk st) x=some (.v (.int kk m)):=by exact rfl) (hy:opv (lk st) y=some (.v (.int kk m')):=by exact rfl) (he:wG2 op kk m m'=some (.bool (decide p)):=by exact rfl) (hp:¬ p:=by omega) (hd:dLt n o.dst=true:=by exact rfl):wP Tryz.prog w0 n o (rdO x++rdO y) (dput o.dst (some (.sv (.v (.bool false))))) [] (lk st):=j0 hop hx hy he (decide_eq_false hp) hd
theorem nT (hop:o.op=.binOp op t x y yt:=by exact rfl) (hx:opv (lk st) x=some (.v (.int kk m)):=by exact rfl) (hy:opv (lk st) y=some (.v (.int kk m')):=by exact rfl) (he:wG2 op kk m m'=some (.bool (!decide p)):=by exact rfl) (hp:¬ p:=by omega) (hd:dLt n o.dst=true:=by exact rfl):wP Tryz.prog w0 n o (rdO x++rdO y) (dput o.dst (some (.sv (.v (.bool true))))) [] (lk st):=j0 hop hx hy he (ndT hp) hd
theorem nF (hop:o.op=.binOp op t x y yt:=by exact rfl) (hx:opv (lk st) x=some (.v (.int kk m)):=by exact rfl) (hy:opv (lk st) y=some (.v (.int kk m')):=by exact rfl) (he:wG2 op kk m m'=some (.bool (!decide p)):=by exact rfl) (hp:p:=by omega) (hd:dLt n o.dst=true:=by exact rfl):wP Tryz.prog w0 n o (rdO x++rdO y) (dput o.dst (some (.sv (.v (.bool false))))) [] (lk st):=j0 hop hx hy he (ndF hp) hd
theorem sB {e:Int} (hop:o.op=.binOp op t x y yt:=by exact rfl) (hx:opv (lk st) x=some (.v (.int .i64 m)):=by exact rfl) (hy:opv (lk st) y=some (.v (.int .i64 m')):=by exact rfl) (he:wG2 op .i64 m m'=some (.int .i64 (ewrap .i64 e)):=by exact rfl) (h1:-9223372036854775808≤e:=by omega) (h2:e<9223372036854775808:=by omega) (hd:dLt n o.dst=true:=by exact rfl):wP Tryz.prog w0 n o (rdO x++rdO y) (dput o.dst (some (.sv (.v (.int .i64 e))))) [] (lk st):=k0 hop hx hy he (wP4 h1 h2) hd
theorem sN {e:Int} (r:Nat) (hop:o.op=.binOp op t x y yt:=by exact rfl) (hx:opv (lk st) x=some (.v (.int .i64 m)):=by exact rfl) (hy:opv (lk st) y=some (.v (.int .i64 m')):=by exact rfl) (he:wG2 op .i64 m m'=some (.int .i64 (ewrap .i64 e)):=by exact rfl) (h1:-9223372036854775808≤e:=by omega) (h2:e<9223372036854775808:=by omega) (h3:e=(r:Nat):=by omega) (hd:dLt n o.dst=true:=by exact rfl):wP Tryz.prog w0 n o (rdO x++rdO y) (dput o.dst (some (.sv (.v (.int .i64 (r:Nat)))))) [] (lk st):=k0 hop hx hy he ((wP4 h1 h2).trans h3) hd
theorem sX (i:Nat) {tt elem:TypeId} {sz:Nat} {q:Int} {es:List (List V)} {e:List V} (hi:es[i]? = some e) (hop:o.op=.indexAddr tt x y:=by exact rfl) (hx:opv (lk st) x=some (.v (.list es)):=by exact rfl) (hy:opv (lk st) y=some (.v (.int kk q)):=by exact rfl) (hq:q=(i:Nat):=by exact rfl) (ht:zV.und tt=some (.slice elem):=by exact rfl) (hs:zV.size elem=some sz:=by exact rfl) (hl:e.length=sz:=by exact rfl) (hd:dLt n o.dst=true:=by exact rfl):wP Tryz.prog w0 n o (rdO x++rdO y) (dput o.dst (some (.sv (.v (.ref e))))) [] (lk st):=wB0 wG hop hx hy hq ht hs hi hl hd
theorem sO (i:Nat) {tt elem T:TypeId} {s id k r:Nat} {q:Int} {es:List (List V)} (hi:i<es.length) (hop:o.op=.indexAddr tt x y:=by exact rfl) (hx:root (lk st) x=some (s,id,T,k,es):=by exact rfl) (hy:opv (lk st) y=some (.v (.int kk q)):=by exact rfl) (hq:q=(i:Nat):=by exact rfl) (ht:zV.und tt=some (.slice elem):=by exact rfl) (hs:zV.size elem=some k:=by exact rfl) (hdst:o.dst=some r:=by exact rfl) (hne:Nat.beq r s=false:=by exact rfl) (hd:Nat.blt r n=true:=by exact rfl):wP Tryz.prog w0 n o (rdR (lk st) x++rdO y) [(2*r,some (.sv (.at s id k i 0)))] [] (lk st):=zJ wG hop hx hy hq ht hs hi hdst hne hd
end
section
variable {w0:Base} {n:Nat} {st:St} {o:Oper}
theorem sA {k:Call} {t elem:TypeId} {x y:Operand} {i:TypeInfo} {z:Value} {q:Nat} {so:Option Nat} {es es':List (List V)} (id:Nat) (es2:List (List V)) (m bb:Nat) (hek:∀ e∈es2,e.length=m) (he:es++es2=es') (hop:o.op=.call k:=by exact rfl) (hk:k.callee=.builtin .append:=by exact rfl) (hargs:k.args=#[x,y]:=by exact rfl) (hts:k.argTypes=#[t,t]:=by exact rfl)
 (ht:zV.und t=some (.slice elem):=by exact rfl) (hi:zV.tys.get elem=some i:=by exact rfl) (hz:i.zero=some z:=by exact rfl) (hsz:(Nat.beq z.cells.size i.size && Nat.blt 0 i.size)=true:=by exact rfl) (hm:i.size=m:=by exact rfl) (hes:ownOf elem m (lk st) x=some (so,es):=by exact rfl) (hy:opV (lk st) y=some (.list es2):=by exact rfl)
 (hbb:i.bytes=bb:=by exact rfl) (h63:es.length+es2.length≤maxLen:=by simp only [maxLen,List.length_singleton]; omega) (hb:(es.length+es2.length)*bb≤140737488355328:=by simp only [List.length_singleton]; omega) (hdst:o.dst=some q:=by exact rfl) (hd:Nat.blt q n=true:=by exact rfl) :
  wP Tryz.prog w0 n o (rdR (lk st) x++rdO y) ((2*q,some (.sv (.own id elem m es'))) :: clr so) [(2*q,id),(2*q,0)] (lk st):=z7 wG hop hk hargs hts ht hi hz hsz hm hes hy hek hbb h63 hb hdst hd he
theorem sM {t elem:TypeId} {x y:Operand} {kl kc:IntKind} {r:Nat} {ql qc:Int} {i:TypeInfo} {z:Value} {zc:List V} {es':List (List V)} (id l c m bb:Nat) (he:List.replicate l zc=es') (hop:o.op=.makeSlice t x y:=by exact rfl) (hx:opv (lk st) x=some (.v (.int kl ql)):=by exact rfl) (hy:opv (lk st) y=some (.v (.int kc qc)):=by exact rfl) (hql:ql=(l:Nat):=by exact rfl) (hqc:qc=(c:Nat):=by exact rfl) (ht:zV.und t=some (.slice elem):=by exact rfl)
 (hi:zV.tys.get elem=some i:=by exact rfl) (hz:i.zero=some z:=by exact rfl) (hsz:Nat.beq z.cells.size i.size=true:=by exact rfl) (hzc:toVs z.cells.toList=some zc:=by exact rfl) (hlc:l≤c:=by omega) (hbb:i.bytes=bb:=by exact rfl) (hb:bb*c≤281474976710656:=by omega) (h63:c≤maxLen:=by simp only [maxLen]; omega) (hdst:o.dst=some r:=by exact rfl) (hd:Nat.blt r n=true:=by exact rfl) (hm:i.size=m:=by exact rfl) :
  wP Tryz.prog w0 n o (rdO x++rdO y) [(2*r,some (.sv (.own id elem m es')))] [(2*r,id),(2*r,0)] (lk st):=yP wG hop hx hy hql hqc ht hi hz hsz hzc hlc hbb hb h63 hdst hd hm he
theorem sS {t:TypeId} {p x:Operand} {d id k i off m:Nat} {T:TypeId} {es es':List (List V)} {e:List V} {y:V} (hi:es[i]? = some e) (hop:o.op=.store t p x:=by exact rfl) (hp:opv (lk st) p=some (.at d id k i off):=by exact rfl) (hb:lk st (2*d)=some (.sv (.own id T k es)):=by exact rfl) (hx:opV (lk st) x=some y:=by exact rfl) (hnt:wC0 y=true:=by exact rfl) (hs:zV.size t=some m:=by exact rfl)
 (hm:y.cells.length=m:=by exact rfl) (hfit:off+m≤k:=by exact pE _) (hdst:o.dst=none:=by exact rfl) (he:es.set i (over e off y.cells)=es'):wP Tryz.prog w0 n o (rdO p++(rdO x++[2*d])) [(2*d,some (.sv (.own id T k es')))] [] (lk st):=zX wG hop hp hb hi hx hnt hs hm hfit hdst he
end
structure Kp (q:Prop):Prop where
 k:q
theorem wz {p q:Prop} (hq:q) (h:Kp q→p:=by intro k; first | exact rr_done mixedZ rfl rfl k.1 | exact vw_seq k.1 | exact vw_block k.1 | exact wDD k.1 | exact vw_ret k.1 | exact vw_exit k.1 | exact vw_skip k.1 | exact vw_label k.1 | exact vw_scopeN k.1 | exact vw_condT rfl k.1 | exact vw_condF rfl k.1):p:=h ⟨hq⟩
abbrev jI (k n:Nat):Nat × Option Cell:=(k,some (.sv (.v (.int .i64 (n:Nat)))))
abbrev jV (k:Nat) (x:V):Nat × Option Cell:=(k,some (.sv (.v x)))
abbrev jB (k d:Nat):Nat × Option Cell:=(k,some (.sv (.bx d 0)))
abbrev jC (k:Nat) (cs:List SV):Nat × Option Cell:=(k,some (.bx cs))
abbrev jO (k id:Nat) (T:TypeId) (q:Nat) (es:List (List V)):Nat × Option Cell:=(k,some (.sv (.own id T q es)))
theorem gE {α:Type} {l:List α} {i:Nat} (h:i<l.length):∃ x,l[i]? = some x:=⟨_,pU h⟩
end Go.Proofs.YtkjhfnhgefbhhaaGreat
/- More steps of the walk: empty slices in variables, told as rows of one's own. -/
namespace Go.Vl
open Go.RowKit Go.Ev
section
variable {P:Program} {w0:Base} {n:Nat} {st:St} {Q:vZ} {ops:Array Oper}
theorem wV3 {d j k:Nat} {T:TypeId} {cs:List SV} (h:lk st (2*d+1)=some (.bx cs)) (hj:cs[j]? = some .nils∨cs[j]? = some (.v (.raw (.slice none 0 0)))):∀ a w,Hs w0 n (lk st) a w→∃ _:Unit,Hs w0 n (lk ((2*d+1,some (.bx (cs.set j (.own 0 T k [])))) :: st)) a w:=by
 rintro a w ⟨β,hh⟩
 refine ⟨(),?_⟩
 obtain ⟨B,T',us,g1,g2,g3,g4⟩:=hh.box d cs h; have hd:wDA (lk st) (2*d+1) (j+1):=by
  unfold wDA; rw [if_neg (by omega)]
  refine ⟨fun cs' x e hx=>?_,fun T k L e=>?_⟩
  ·rw [h] at e
   cases e
   rw [show j+1 - 1=j by omega] at hx
   rcases hj with hj | hj <;> (rw [hj] at hx; cases hx; rfl)
  ·rw [h] at e; cases e
 have h5:=hh.unbind hd (.inr (by omega))
 have hS:∀ b,wZ β b→wZ (upB β (2*d+1) (j+1) none) b:=fun b hb K J e=>by
  unfold upB at e
  split at e
  ·cases e
  ·exact hb _ _ e
 have hlt:j<cs.length:=by
  rcases hj with hj | hj <;> exact (pS.1 hj).1
 have h6:=h5.rebox (d:=d) (B:=B) (T:=T') (us:=us) (cs:=cs.set j (.own 0 T k [])) (by rw [zM _ _ (by omega)]; exact g1) g2 (by simp [g3]) fun q y u hy hu=>by
  by_cases hq:j=q
  ·subst hq
   rw [dH hlt] at hy; cases hy
   have k1:u=.slice none 0 0:=by
    rcases hj with hj | hj
    ·exact (g4 j _ u hj hu).1
    ·have:=(g4 j _ u hj hu).1
     generalize hz:Value.slice none 0 0=z at this; cases this
     rfl
   subst k1; exact ⟨⟨by simp,by rw [jT]; rfl,[],World.ownsRow_nil _ _ _ _,.nil⟩,rfl,rfl⟩
  ·rw [dO hq] at hy
   obtain ⟨k1,k2,k3⟩:=g4 q y u hy hu; exact ⟨k1.keep (fun b hb _=>⟨hS b hb,rfl⟩) (fun _=>by rw [zM _ _ (by omega)]) (fun _ _ _=>rfl) (fun K J hK=>absurd hK (wBJ k3 K J)),k2,k3⟩
 refine ⟨_,h6.less fun K c e=>?_⟩
 have e2:=zG (u:=[(2*d+1,some (Cell.bx (cs.set j (.own 0 T k []))))]) (st:=st); rw [app1] at e2
 rw [show lk ((2*d+1,some (Cell.bx (cs.set j (.own 0 T k [])))) :: st)=upd (lk st) (2*d+1) (some (.bx (cs.set j (.own 0 T k [])))) from e2] at e; exact e
theorem wKB {c:Code} (d j k:Nat) (T:TypeId) {cs cs':List SV} (h:lk st (2*d+1)=some (.bx cs)) (hj:cs[j]? = some (.v (.raw (.slice none 0 0)))) (hc:cs.set j (.own 0 T k [])=cs') (hv:VW P w0 n c Q ((2*d+1,some (.bx cs')) :: st)):VW P w0 n c Q st:=by
 subst hc; exact wK1 _ (wV3 h (.inr hj)) fun _=>hv
theorem wTC {c:Code} (d j k:Nat) (T:TypeId) {cs cs':List SV} (h:lk st (2*d+1)=some (.bx cs)) (hj:cs[j]? = some .nils) (hc:cs.set j (.own 0 T k [])=cs') (hv:VW P w0 n c Q ((2*d+1,some (.bx cs')) :: st)):VW P w0 n c Q st:=by
 subst hc; exact wK1 _ (wV3 h (.inl hj)) fun _=>hv
theorem wCG {c:Code} (s d:Nat) {cs:List SV} {r:List V} (h:lk st (2*s)=some (.sv (.bx d 0))) (hb:lk st (2*d+1)=some (.bx cs)) (hr:asVs cs=some r) (hv:VW P w0 n c Q ((2*s,some (.sv (.v (.ref r)))) :: (2*d+1,none) :: st)):VW P w0 n c Q st:=qEF (qA5 h hb hr) hv
def toV1N:Value→Option V
 | .slice none 0 0=>some (.raw (.slice none 0 0))
 | v=>toV1 v
def toVsN:List Value→Option (List V)
 | []=>some []
 | v :: vs=>match toV1N v with
  | none=>none
  | some x=>match toVsN vs with
   | none=>none
   | some xs=>some (x :: xs)
theorem toV1N_rep {S:Nat→Prop} {w:World} {v:Value} {x:V} (e:toV1N v=some x):Rep S w x v∧x.one=true:=by
 unfold toV1N at e
 split at e
 ·cases e; exact ⟨.raw rfl,rfl⟩
 ·exact wTH e
theorem wZ1 {S:Nat→Prop} {w:World}:∀ {vs:List Value} {xs:List V},toVsN vs=some xs→RepL S w xs vs∧wW xs=true
 | [],xs,e=>by cases e; exact ⟨.nil,rfl⟩
 | v :: vs,xs,e=>by
  simp only [toVsN] at e
  cases h1:toV1N v with
  | none=>rw [h1] at e; cases e
  | some x =>
   rw [h1] at e; dsimp only at e
   cases h2:toVsN vs with
   | none=>rw [h2] at e; cases e
   | some ys =>
    rw [h2] at e; cases e
    have a:=toV1N_rep (S:=S) (w:=w) h1; have b:=wZ1 (S:=S) (w:=w) h2
    exact ⟨.cons a.1 b.1,by simp only [wW,List.all_cons,a.2,Bool.true_and]; exact b.2⟩
theorem wKG {C:Cx} {o:Oper} (hC:CxOk P C) {t:TypeId} {ps:Array (Nat × Operand)} {fs:Array Field} {i:TypeInfo} {z:Value} {zc r:List V} {pl:List (Nat × Nat)} {xs:List (Nat × V)} (hop:o.op=.build t ps) (ht:C.und t=some (.struct fs)) (hi:C.tys.get t=some i) (hz:i.zero=some z)
  (hzc:toVsN z.cells.toList=some zc) (hpl:qBC C fs.toList=some pl) (hx:wAD (lk st) ps.toList=some xs) (hr:wG8 (fun i=>pl[i]?) zc xs=some r) (hd:dLt n o.dst=true):wP P w0 n o (rdP ps.toList) (dput o.dst (some (.sv (.v (.agg r))))) [] (lk st) :=
 qH hd fun f hf β a w hh=>by
  have hp:=hh.pairs (l:=ps.toList) (r:=xs) (by rw [x8 hf]; exact hx)
  obtain ⟨g1,g2⟩:=wZ1 (S:=wZ β) (w:=w) hzc; obtain ⟨rs,h1,h2,h3⟩:=wM4 hp g1 g2 hr
  refine ⟨.agg rs,?_,by have:=Rep.agg h3 h2; simpa using this⟩
  have hm:=wHD (w:=w) hC _ _ hpl; have hpl':(fs.mapM fun f=>do pure (f.offset,← sizeOf f.type):Sem (Array (Nat × Nat))).run P w=.ok pl.toArray w:=by
   rw [← dB (xs:=fs),fO]; simp only [Sem.run_map,hm,Result.andThen_ok]
  have hzr:(zeroValue t).run P w=.ok z w:=by simp [zeroValue,typeInfo,hC.tys _ _ hi,hz]
  have hfl:Instr.fill (pl.toArray[·]?) z.cells (ps.map fun (i,x)=>(i,a.eval x)).toList=some rs:=by
   rw [← h1]
   congr 1
   ·funext i; simp
   ·simp
  have hb:(Instr.build t (ps.map fun (i,x)=>(i,a.eval x))).run P w=.ok (.agg rs) w:=by
   simp only [Instr.build,Sem.run_bind,hzr,Result.andThen_ok,wU hC ht,hpl']
   rw [hfl]
   rfl
  simp only [execOp,hop]
  rw [Sem.run_bind,hb]
  rfl
theorem rr_vfx {C:Cx} {o:Oper} {id k:Nat} {dr:Bool} {st0:St} {acc:List Stp} {rd:List Nat} {nw:List (Nat × Nat)} {u:St} (hC:CxOk P C) (l:List Operand) {gr:List Nat} {g:List Nat × St} (ho:ops.toList[k]? = some o) (hg:gRd n ops (lk st) o=some gr) (hf:wL8 (lk st) l=g) (h:vop C (id*1000+k+1) n (lk (g.2++st)) o=some (rd,u,nw)) (hn:nw.all (xY st)=true) (hk:RR P w0 n id ops dr Q st0 (k+1) (⟨gr++(rd++g.1),u++g.2,nw⟩ :: acc) ((u++g.2)++st)):RR P w0 n id ops dr Q st0 k acc st:=by
 subst hf; exact rr_g ho hg (wP.ghost wO2.1 frzL_np (by rw [← zG]; exact wP7 hC h)) hn hk
theorem wP.more {o:Oper} {rd:List Nat} {nw:List (Nat × Nat)} {u:St} {f:Fm} (ex:List Nat) (h:wP P w0 n o rd u nw f):wP P w0 n o (rd++ex) u nw f:=fun g hg=>h g fun k hk=>hg k (cW _ hk)
theorem rr_alloc {C:Cx} {o:Oper} {id k d:Nat} {dr:Bool} {st0:St} {acc:List Stp} {rd:List Nat} {nw:List (Nat × Nat)} {u:St} {t:TypeId} (hC:CxOk P C) {gr:List Nat} (ho:ops.toList[k]? = some o) (hal:o.op=.alloc t) (hd:o.dst=some d) (hg:gRd n ops (lk st) o=some gr) (h:vop C (id*1000+k+1) n (lk st) o=some (rd,u,nw)) (hn:nw.all (xY st)=true) (hk:RR P w0 n id ops dr Q st0 (k+1) (⟨gr++(rd++[2*d+1]),u,nw⟩ :: acc) (u++st)):RR P w0 n id ops dr Q st0 k acc st :=
 rr_g ho hg (wP.more [2*d+1] (wP7 hC h)) hn hk
theorem wM3 {x y:Code} {B:Type} (T:B→St) (I:B→Prop) (hfl:∀ b,flat (T b)=true) (hx:VW P w0 n x (thenV (fun st'=>∃ b,I b∧sub (T b) (lk st')) Q) st) (hy:∀ b,I b→VW P w0 n y Q (T b)):VW P w0 n x (thenV (fun st'=>VW P w0 n y Q st') Q) st:=fun a w hh =>
 wpIn_mono (hx a w hh) fun e a w hq=>by
  obtain ⟨st',h1,h2⟩:=hq; cases e with
  | normal =>
   obtain ⟨b,g1,g2⟩:=h1; exact ⟨T b,hy b g1,h2.sub g2 (hfl _)⟩
  | _=>exact ⟨st',h1,h2⟩
theorem nilVB_ok {d j:Nat} {cs:List SV} (h:lk st (2*d+1)=some (.bx cs)) (hj:cs[j]? = some .nils):∀ a w,Hs w0 n (lk st) a w→∃ _:Unit,Hs w0 n (lk ((2*d+1,some (.bx (cs.set j (.v (.list []))))) :: st)) a w:=by
 rintro a w ⟨β,hh⟩
 refine ⟨(),β,?_⟩
 obtain ⟨B,T',us,g1,g2,g3,g4⟩:=hh.box d cs h; have hlt:j<cs.length:=(pS.1 hj).1
 have h6:=hh.rebox (d:=d) (B:=B) (T:=T') (us:=us) (cs:=cs.set j (.v (.list []))) g1 g2 (by simp [g3]) fun q y u hy hu=>by
  by_cases hq:j=q
  ·subst hq
   rw [dH hlt] at hy; cases hy
   have k1:u=.slice none 0 0:=(g4 j _ u hj hu).1; subst k1
   exact ⟨Rep.nils,rfl,rfl⟩
  ·rw [dO hq] at hy
   exact g4 q y u hy hu
 have e2:=zG (u:=[(2*d+1,some (Cell.bx (cs.set j (.v (.list [])))))]) (st:=st); rw [app1] at e2
 rw [show lk ((2*d+1,some (.bx (cs.set j (.v (.list []))))) :: st)=upd (lk st) (2*d+1) (some (.bx (cs.set j (.v (.list []))))) from e2]; exact h6
theorem qEE {c:Code} (d j:Nat) {cs cs':List SV} (h:lk st (2*d+1)=some (.bx cs)) (hj:cs[j]? = some .nils) (hc:cs.set j (.v (.list []))=cs') (hv:VW P w0 n c Q ((2*d+1,some (.bx cs')) :: st)):VW P w0 n c Q st:=by
 subst hc; exact wK1 _ (nilVB_ok h hj) fun _=>hv
theorem unpin_ok {s d:Nat} {u0:Value} {cs:List SV} (h:lk st (2*s)=some (.sv (.rp d u0 0))) (hb:lk st (2*d+1)=some (.bx cs)):∀ a w,Hs w0 n (lk st) a w→∃ _:Unit,Hs w0 n (lk ((2*s,some (.sv (.bx d 0))) :: st)) a w:=by
 rintro a w ⟨β,hh⟩
 obtain ⟨B,T,us,g1,_⟩:=hh.box d cs hb; have hs:=hh.slot s _ h
 obtain ⟨⟨B',hr,hv⟩,h2⟩:=hs; refine ⟨(),β,?_⟩
 have h3:=hh.reslot (d:=s) (x:=.bx d 0) rfl (fun B1 hB1=>by
  rw [g1] at hB1; cases hB1
  have:=h2 B g1; rw [hr] at this
  cases this
  exact hv)
 rw [show lk ((2*s,some (.sv (.bx d 0))) :: st)=upd (lk st) (2*s) (some (.sv (.bx d 0))) from by
  have e:=zG (u:=[(2*s,some (Cell.sv (.bx d 0)))]) (st:=st); rw [app1] at e
  exact e]
 exact h3
theorem wTA {c:Code} (s d:Nat) {u0:Value} {cs:List SV} (h:lk st (2*s)=some (.sv (.rp d u0 0))) (hb:lk st (2*d+1)=some (.bx cs)) (hv:VW P w0 n c Q ((2*s,some (.sv (.bx d 0))) :: st)):VW P w0 n c Q st:=wK1 _ (unpin_ok h hb) fun _=>hv
theorem vw_to {x:Code} (T:St) (hfl:flat T=true) (hs:sub T (lk st)) (h:VW P w0 n x Q T):VW P w0 n x Q st:=fun a w hh=>h a w (hh.sub hs hfl)
theorem vw_toF {ops:Array Oper} {dr:Bool} (id:Nat) (T T':St) (hfl:flat T=true) (hs:sub T (lk st)) (hfr:VW P w0 n (.region id ops dr) Q T'→VW P w0 n (.region id ops dr) Q T) (h:RR P w0 n id ops dr Q T' 0 [] T'):VW P w0 n (.region id ops dr) Q st:=vw_to T hfl hs (hfr (wDD h))
end
end Go.Vl
namespace Go.Proofs.YtkjhfnhgefbhhaaGreat
open Go.RowKit Go.Ev Go.Vl
theorem wl {w0:Base} {n:Nat} {st:St} {Q:vZ} {ops:Array Oper} {o:Oper} {id k d:Nat} {dr:Bool} {st0:St} {acc:List Stp} {rd:List Nat} {nw:List (Nat × Nat)} {u:St} {t:TypeId} {gr:List Nat} (hk:RR Tryz.prog w0 n id ops dr Q st0 (k+1) (⟨gr++(rd++[2*d+1]),u,nw⟩ :: acc) (u++st)) (ho:ops.toList[k]? = some o:=by exact rfl) (hal:o.op=.alloc t:=by exact rfl) (hd:o.dst=some d:=by exact rfl) (hg:gRd n ops (lk st) o=some gr:=by exact rfl) (h:vop zV (id*1000+k+1) n (lk st) o=some (rd,u,nw):=by exact rfl) (hn:nw.all (xY st)=true:=by exact rfl):RR Tryz.prog w0 n id ops dr Q st0 k acc st:=rr_alloc wG ho hal hd hg h hn hk
end Go.Proofs.YtkjhfnhgefbhhaaGreat
/- Base of all walks of these claims: what a slice of limbs reads as, and that it reads on while nothing that it lies in is written. Plain definitions; no condition. -/
namespace Go.Proofs.YtkjhfnhgefbhhaaGreat
open Go.RowKit
theorem hid {p:Prop} (h:p):Hid p:=h
def wO (lo hi:Nat) (w:World) (v:Value) (xs:List Nat):Prop :=
 ∃ ad cap,v=.slice ad xs.length cap∧xs.length≤cap∧(ad=none→cap=0)∧(∀ x,x∈xs→x<4294967296) ∧
  (xs≠[]→∃ b off,ad=some ⟨b,off,none⟩∧lo≤b∧b<hi∧(∀ i,i<xs.length→w.cell? ⟨b,off+i,none⟩=some (.int .u32 (xs.getD i 0:Nat))) ∧
   (0<lo→∃ row,w.heap[b]? = some (.cells row 180 (0,0))))
theorem wO.nil {lo hi:Nat} {w:World}:wO lo hi w (.slice none 0 0) [] :=
 ⟨none,0,rfl,pE _,fun _=>rfl,(by simp),fun h=>absurd rfl h⟩
theorem wO.keep {lo hi:Nat} {w w':World} {v:Value} {xs:List Nat} (h:wO lo hi w v xs)
  (hk:∀ b,lo≤b→b<hi→w'.heap[b]? = w.heap[b]?):wO lo hi w' v xs:=by
 obtain ⟨ad,cap,hv,hc,hn,hx,hne⟩:=h; refine ⟨ad,cap,hv,hc,hn,hx,fun h=>?_⟩
 obtain ⟨b,off,ha,hl,hh,hcell,hu⟩:=hne h; exact ⟨b,off,ha,hl,hh,fun i hi=>(World.cell?_of_block (hk b hl hh)).trans (hcell i hi),fun h0=>by rw [hk b hl hh]; exact hu h0⟩
theorem wO.below {lo hi B:Nat} {w w':World} {v:Value} {xs:List Nat} (h:wO lo hi w v xs)
  (hb:Below B w w') (hB:hi≤B):wO lo hi w' v xs :=
 h.keep fun b _ hh=>hb.block b (by omega)
theorem wO.wide {lo hi lo' hi':Nat} {w:World} {v:Value} {xs:List Nat} (h:wO lo hi w v xs)
  (h1:lo'≤lo) (h2:hi≤hi'):wO lo' hi' w v xs:=by
 obtain ⟨ad,cap,hv,hc,hn,hx,hne⟩:=h; refine ⟨ad,cap,hv,hc,hn,hx,fun h=>?_⟩
 obtain ⟨b,off,ha,hl,hh,hcell,hu⟩:=hne h; exact ⟨b,off,ha,by omega,by omega,hcell,fun h0=>hu (by omega)⟩
theorem wO.pre {lo hi:Nat} {w:World} {ad:Option Addr} {n cap:Nat} {xs:List Nat} (h:wO lo hi w (.slice ad n cap) xs) (k:Nat) (hk:k≤xs.length) :
  wO lo hi w (.slice ad k cap) (xs.take k):=by
 obtain ⟨ad',cap',hv,hc,hnn,hx,hne⟩:=h; simp only [Value.slice.injEq] at hv
 obtain ⟨rfl,_,rfl⟩:=hv; refine ⟨ad,cap,by rw [pM,cM hk],by rw [pM]; omega,hnn,fun x h=>hx x (dC h),fun h=>?_⟩
 obtain ⟨b,off,ha,hl,hh,hcell,hu⟩:=hne (by intro e; subst e; simp at h)
 refine ⟨b,off,ha,hl,hh,fun i hi=>?_,hu⟩
 rw [pM] at hi; have:(xs.take k).getD i 0=xs.getD i 0:=by simp [List.getD_eq_getElem?_getD,show i<k by omega]
 rw [this]; exact hcell i (by omega)
def qG (xs:List Nat):List Nat:=(xs.reverse.dropWhile (· == 0)).reverse
theorem xK (xs:List Nat):qG (xs++[0])=qG xs:=by simp [qG]
theorem wKE (xs:List Nat) (x:Nat) (h:x≠0):qG (xs++[x])=xs++[x]:=by simp [qG,h]
theorem vK {α:Type} (xs:List α) (d:α) (m:Nat) (h:m<xs.length):xs.take (m+1)=xs.take m++[xs.getD m d]:=by
 rw [pC1 h]; simp [List.getD_eq_getElem?_getD,h]
theorem kK (xs:List Nat):(qG xs).length≤xs.length:=by
 have:=(List.dropWhile_sublist (l:=xs.reverse) (· == 0)).length_le
 simpa [qG] using this
theorem wP9 (xs:List Nat) (x:Nat) (h:x∈qG xs):x∈xs:=by
 have:=(List.dropWhile_sublist (l:=xs.reverse) (· == 0)).mem (by simpa [qG] using h)
 simpa using this
structure Elem (P:Program) (t e:TypeId) (z:Value) (size bytes:Nat):Prop where
 sl:P.underlying t=some (.slice e)
 row:(P.info? e).map (fun i=>(i.zero,i.size,i.bytes))=some (some z,size,bytes)
 zs:z.cells.size=size
 pos:0<size
section laws
variable {P:Program} {w w0:World} {ops:Array Oper} {rest:List Oper} {o:Oper} {a:Act} {Q:Exit→Act→World→Prop} {t e:TypeId} {z:Value} {size bytes:Nat}
theorem qEA (E:Elem P t e z size bytes) (hg:o.guard=none) (l c:Operand) (hop:o.op=.makeSlice t l c)
  (B:Nat) (L C:Int) (kl kc:IntKind) (n k:Nat) (hl:a.eval l=.int kl L) (hc:a.eval c=.int kc C) (hL:L=(n:Int)) (hC:C=(k:Int)) (hnk:n≤k)
  (hb:bytes*k≤281474976710656) (h63:k≤maxLen) (hbl:Below B w0 w) (hB:B≤w.heap.size)
  (h:∀ w',w'.ownsRow B e size (.slice (some ⟨w.heap.size,0,none⟩) n k) n ((madeCells z.cells (k*size)).toList.take (n*size))→Below B w0 w'→w.grownBy w' none →
   wpList P ops Q rest (a.put o.dst (.slice (some ⟨w.heap.size,0,none⟩) n k)) w') :
  wpList P ops Q (o :: rest) a w:=by
 refine wpList_plain hg fun K hK=>?_
 obtain ⟨i,hi,hz,hs,hby⟩:=info_parts E.row; subst hL hC
 have h63':(k:Int)≤9223372036854775807:=by
  have h:=h63
  simp [maxLen] at h
  omega
 have hb':(i.bytes:Int)*(k:Int)≤281474976710656:=by
  subst hby; have h:((i.bytes*k:Nat):Int)≤281474976710656:=by omega
  rwa [dP] at h
 have hr:=run_make (P:=P) w t e i z E.sl hi hz kl kc n k (by omega) (by omega) hb' h63'
 simp only [Int.toNat_natCast,hs] at hr
 unfold Oper.wp
 simp [execOp,hop,hl,hc,hr,Result.andThen]
 refine hK _ _ (h _ ⟨?_,.inr ⟨w.heap.size,k,_,rfl,hB,heap_alloc_new w _,hnk,h63,size_madeCells _ _,rfl⟩⟩ (hbl.alloc hB _) (World.grownBy_alloc w _ none))
 rw [pM,cV,size_madeCells,cM (mC _ hnk)]
theorem qEB (E:Elem P t e z size bytes) (hg:o.guard=none) (s x:Operand) (ho:o.op=.call { callee:=.builtin .append,args:=#[s,x],argTypes:=#[t,t] })
  (B n m c:Nat) (v:Value) (xs:List Value) (arr:Array Value) (hown:w.ownsRow B e size v n xs) (hs:a.eval s=v) (hx:a.eval x=.slice (some ⟨w.heap.size,0,none⟩) m c)
  (hl:arr.size=m*size) (h1:∀ u,u∈arr.toList→u.oneCell'=true)
  (hb:(n+m)*bytes≤140737488355328) (hm:0<m) (h63:n+m≤maxLen) (hbl:Below B w0 w) (hB:B≤w.heap.size)
  (h:∀ g' c' w',w'.ownsRow B e size (.slice (some ⟨g',0,none⟩) (n+m) c') (n+m) (xs++arr.toList)→Below B w0 w'→(w.alloc (.cells arr e)).grownBy w' v.ownBlock →
   wpList P ops Q rest (a.put o.dst (.slice (some ⟨g',0,none⟩) (n+m) c')) w') :
  wpList P ops Q (o :: rest) a (w.alloc (.cells arr e)):=by
 obtain ⟨i,hi,hz,hsz,hby⟩:=info_parts E.row; refine wpList_append_own _ hg s x t ho B e i z size bytes E.sl hi hz hsz hby E.zs E.pos v n xs hs (hown.alloc _) ⟨w.heap.size,0,none⟩ m c arr.toList hx (by simpa using hl) ?_ h1 h63 hb
  (by simp; omega) ?_
 ·intro j u hj
  rw [Addr.add_lit]; have:=cell_of_row (w.alloc (.cells arr e)) w.heap.size (0+j) arr e (0,0) (heap_alloc_new w _)
  rw [this]
  simpa using hj
 ·intro v' w' hown' hgr hnil
  have hsh:∃ g' c',v'=.slice (some ⟨g',0,none⟩) (n+m) c':=by
   rcases hown'.2 with ⟨h1,_⟩ | ⟨g',c',_,h1,_⟩
   ·have:=(hnil.1 h1).2
    omega
   ·exact ⟨g',c',h1⟩
  obtain ⟨g',c',rfl⟩:=hsh; refine h g' c' w' hown' ((hbl.alloc hB _).grown hgr (by simp; omega) ?_) hgr
  intro k hk
  exact ((hown.lt) k hk).1
theorem qBA (E:Elem P t e z 1 bytes) (hg:o.guard=none) (d s:Operand) (sT:TypeId) (ho:o.op=.call { callee:=.builtin .copy,args:=#[d,s],argTypes:=#[t,sT] })
  (B g n cap sCap:Nat) (ad:Addr) (xs cs:List Value) (hd:a.eval d=.slice (some ⟨g,0,none⟩) n cap) (hs:a.eval s=.slice (some ad) n sCap)
  (hown:w.ownsRow B e 1 (.slice (some ⟨g,0,none⟩) n cap) n xs) (hcs:cs.length=n) (hsrc:∀ j v,cs[j]? = some v→w.cell? (ad.add j)=some v) (h1:∀ v,v∈cs→v.oneCell'=true)
  (hbl:Below B w0 w)
  (h:∀ w',w'.ownsRow B e 1 (.slice (some ⟨g,0,none⟩) n cap) n cs→Below B w0 w'→w.grownBy w' (some g)→wpList P ops Q rest (a.put o.dst (goInt n)) w') :
  wpList P ops Q (o :: rest) a w:=by
 have hBg:B≤g:=(hown.lt g rfl).1; obtain ⟨i,hi,hz,hsz,hby⟩:=info_parts E.row
 rcases hown.2 with ⟨h',_⟩ | ⟨g',cap',cur,h',hbg,hgg,hnc,hcm,hcs',htake⟩
 ·simp at h'
 ·simp only [Value.slice.injEq,Option.some.injEq,Addr.mk.injEq,and_true,true_and] at h'
  obtain ⟨rfl,rfl⟩:=h'; have hf:(0:Nat)+cs.length≤cur.size:=by rw [hcs',hcs]; omega
  refine wpList_copy_own hg d s t sT ho e E.sl (by simp [hi,hsz]) g 0 n cap ad n sCap hd hs cur e hgg cs (by simp [hcs]) hsrc hf h1 ?_
  rw [hcs]; refine h _ ⟨by simpa using hcs,.inr ⟨g,cap,_,rfl,hbg,setRow_heap w g cur _ e _ hgg,hnc,hcm,?_,?_⟩⟩ (below_setRow hbl hBg _)
   ⟨rfl,rfl,rfl,by simp [World.setRow],fun k _ hk=>setRow_other w g k _ (fun e=>hk (by simp [e]))⟩
  ·simp; omega
  ·simp [← hcs]
end laws
def kP (xs:List Nat):List Value:=xs.map fun x=>.int .u32 (x:Nat)
theorem qEJ (xs:List Nat):∀ v,v∈kP xs→v.oneCell'=true:=by
 intro v hv
 obtain ⟨x,_,rfl⟩:=pJ.1 hv
 rfl
theorem wO.ofOwn {B:Nat} {w:World} {v:Value} {n:Nat} {xs:List Nat} (h:w.ownsRow B 180 1 v n (kP xs)) (hx:∀ x,x∈xs→x<4294967296) :
  wO B w.heap.size w v xs:=by
 have hn:xs.length=n:=by simpa [kP] using h.1
 rcases h.2 with ⟨rfl,rfl⟩ | ⟨g,cap,cur,rfl,hb,hg,hc,hm,hs,ht⟩
 ·obtain rfl:xs=[]:=mK hn
  exact wO.nil
 ·refine ⟨_,cap,by rw [hn],by omega,(by simp),hx,fun _=>⟨g,0,rfl,hb,(mW.1 hg).1,fun i hi=>?_,fun _=>⟨cur,hg⟩⟩⟩
  rw [cell_of_row w g (0+i) cur 180 (0,0) hg,dM]; have:(kP xs)[i]? = some (.int .u32 (xs.getD i 0:Nat)):=by
   simp [kP,List.getD_eq_getElem?_getD,hi]
  rw [← this,← ht,pZ,if_pos (by omega)]
  simp
theorem j5 {B:Nat} {w:World} {e:TypeId} {g n cap:Nat} {xs:List Nat} (h:w.ownsRow B e 1 (.slice (some ⟨g,0,none⟩) n cap) n (kP xs)) (i:Nat) (hi:i<n) :
  w.cell? ⟨g,i,none⟩=some (.int .u32 (xs.getD i 0:Nat))∧w.frozen? ⟨g,i,none⟩=false:=by
 have hn:xs.length=n:=by simpa [kP] using h.1
 refine ⟨?_,h.frozenAt i⟩
 rw [h.cellAt i (by omega)]
 simp [kP,List.getD_eq_getElem?_getD,show i<xs.length by omega]
def wR1 (n:Nat):List Nat:=List.replicate n 0
theorem wT7 (n k:Nat):(wR1 n).getD k 0=0:=by simp [wR1,List.getD_eq_getElem?_getD,List.getElem?_replicate]; split <;> rfl
theorem kH {P:Program} {w w0:World} {ops:Array Oper} {rest:List Oper} {o:Oper} {a:Act} {Q:Exit→Act→World→Prop} {t e:TypeId}
  (E:Elem P t e (.int .u32 0) 1 4) (hg:o.guard=none) (l c:Operand) (hop:o.op=.makeSlice t l c)
  (B:Nat) (L C:Int) (kl kc:IntKind) (n k:Nat) (hl:a.eval l=.int kl L) (hc:a.eval c=.int kc C) (hL:L=(n:Int)) (hC:C=(k:Int)) (hnk:n≤k)
  (hb:k≤70368744177664) (hbl:Below B w0 w) (hB:B≤w.heap.size)
  (h:∀ w',w'.ownsRow B e 1 (.slice (some ⟨w.heap.size,0,none⟩) n k) n (kP (wR1 n))→Below B w0 w'→w.grownBy w' none →
   wpList P ops Q rest (a.put o.dst (.slice (some ⟨w.heap.size,0,none⟩) n k)) w') :
  wpList P ops Q (o :: rest) a w:=by
 refine qEA E hg l c hop B L C kl kc n k hl hc hL hC hnk (by omega) (by unfold maxLen; omega) hbl hB ?_
 intro w' h1 h2 h3
 refine h w' ?_ h2 h3
 have e:(madeCells (Value.int .u32 0).cells (k*1)).toList.take (n*1)=kP (wR1 n):=by
  have:(Value.int .u32 0).cells=#[Value.int .u32 0]:=rfl; rw [this,toList_madeCells_one]
  simp [kP,wR1,Nat.min_eq_left hnk]
 rwa [e] at h1
theorem j6 {B:Nat} {w:World} {e:TypeId} {g n cap:Nat} {cur:List Nat} (h:w.ownsRow B e 1 (.slice (some ⟨g,0,none⟩) n cap) n (kP cur)) (i y:Nat) :
  (w.setCell ⟨g,i,none⟩ (.int .u32 (y:Nat))).ownsRow B e 1 (.slice (some ⟨g,0,none⟩) n cap) n (kP (cur.set i y))∧w.grownBy (w.setCell ⟨g,i,none⟩ (.int .u32 (y:Nat))) (some g):=by
 have:=h.stored i (.int .u32 (y:Nat)); have e:(kP cur).set i (.int .u32 (y:Nat))=kP (cur.set i y):=by simp [kP,List.map_set]
 rwa [e] at this
theorem zO {B:Nat} {w:World} {e:TypeId} {v:Value} {n:Nat} {cur:List Nat} (h:w.ownsRow B e 1 v n (kP cur)):cur.length=n:=by simpa [kP] using h.1
theorem kT {α:Type} (l:List α) (i:Nat) (y:α) (h:i<l.length):(l.set i y).take (i+1)=l.take i++[y]:=by
 rw [pC1 (by simpa using h)]
 simp [List.take_set_of_le]
theorem wK7 {B:Nat} {w wr:World} (hb:Below B w wr) {p:Addr} {v:Value} (hc:w.cell? p=some v) (hB:w.heap.size≤B):wr.cell? p=some v :=
 (hb.cell (mR (World.block_lt_of_cell? w p hc) hB)).trans hc
theorem wO.open {lo hi:Nat} {w:World} {v:Value} {xs:List Nat} (h:wO lo hi w v xs) :
  ∃ ad cap,v=.slice ad xs.length cap∧xs.length≤cap∧(ad=none→cap=0)∧(∀ x,x∈xs→x<4294967296) ∧
   (∀ i,i<xs.length→∃ b off,ad=some ⟨b,off,none⟩∧lo≤b∧b<hi∧w.cell? ⟨b,off+i,none⟩=some (.int .u32 (xs.getD i 0:Nat))):=by
 obtain ⟨ad,cap,hv,hc,hn,hx,hne⟩:=h; refine ⟨ad,cap,hv,hc,hn,hx,fun i hi=>?_⟩
 obtain ⟨b,off,ha,hl,hh,hcell,_⟩:=hne (by intro e; subst e; simp at hi)
 exact ⟨b,off,ha,hl,hh,hcell i hi⟩
theorem wLI {B:Nat} {a w:World} (h:Below B a w) (n:Nat):Below B a (w.drewN n):=⟨h.os,h.tape,h.output,h.size,h.block⟩
def zL (w:World) (g:Nat) (T:TypeId) (cs:List Value):Prop:=w.heap[g]? = some (.cells cs.toArray T (0,0))
theorem zL.lt {w:World} {g:Nat} {T:TypeId} {cs:List Value} (h:zL w g T cs):g<w.heap.size:=(mW.1 h).1
theorem zL.cell {w:World} {g:Nat} {T:TypeId} {cs:List Value} (h:zL w g T cs) (i:Nat) (v:Value) (hi:cs[i]? = some v):w.cell? ⟨g,i,none⟩=some v:=by
 rw [cell_of_row w g i cs.toArray T (0,0) h]; simpa using hi
theorem zL.frozen {w:World} {g:Nat} {T:TypeId} {cs:List Value} (h:zL w g T cs) (i:Nat):w.frozen? ⟨g,i,none⟩=false:=frozen_of_row w g i cs.toArray T h
theorem zL.keep {w w':World} {g:Nat} {T:TypeId} {cs:List Value} (h:zL w g T cs) (hk:w'.heap[g]? = w.heap[g]?):zL w' g T cs:=hk.trans h
theorem zL.below {B:Nat} {w w':World} {g:Nat} {T:TypeId} {cs:List Value} (h:zL w g T cs) (hb:Below B w w') (hg:g<B):zL w' g T cs:=h.keep (hb.block g hg)
theorem zL.later {w w':World} {g:Nat} {T:TypeId} {cs:List Value} (h:zL w g T cs) (hb:Below w.heap.size w w'):zL w' g T cs:=h.below hb h.lt
theorem zL.new (w:World) (arr:Array Value) (T:TypeId):zL (w.alloc (.cells arr T)) w.heap.size T arr.toList:=heap_alloc_new w _
theorem zL.alloc {w:World} {g:Nat} {T:TypeId} {cs:List Value} (h:zL w g T cs) (o:Obj):zL (w.alloc o) g T cs:=h.keep (Below.heap_alloc w o g h.lt)
theorem zL.set {w:World} {g:Nat} {T:TypeId} {cs:List Value} (h:zL w g T cs) (i:Nat) (v:Value):zL (w.setCell ⟨g,i,none⟩ v) g T (cs.set i v):=by
 have:=heap_setCell_same w g i cs.toArray T v h
 simpa [zL] using this
theorem zL.other {w:World} {g:Nat} {T:TypeId} {cs:List Value} (h:zL w g T cs) (p:Addr) (v:Value) (hp:g≠p.block):zL (w.setCell p v) g T cs:=h.keep (Below.heap_setCell _ _ _ _ hp)
theorem zL.two {w:World} {g:Nat} {T:TypeId} {a b:Value} (h:zL w g T [a,b]) :
  w.cell? ⟨g,0,none⟩=some a∧w.cell? ⟨g,1,none⟩=some b∧w.frozen? ⟨g,0,none⟩=false∧w.frozen? ⟨g,1,none⟩=false :=
 ⟨h.cell 0 a rfl,h.cell 1 b rfl,h.frozen 0,h.frozen 1⟩
theorem zL.one {w:World} {g:Nat} {T:TypeId} {a:Value} (h:zL w g T [a]):w.cell? ⟨g,0,none⟩=some a∧w.frozen? ⟨g,0,none⟩=false:=⟨h.cell 0 a rfl,h.frozen 0⟩
theorem boxA (w:World) (a:Array Value) (T:TypeId):Below w.heap.size w (w.alloc (.cells a T))∧zL (w.alloc (.cells a T)) w.heap.size T a.toList∧(w.alloc (.cells a T)).heap.size=w.heap.size+1 :=
 ⟨(Below.refl _ _).alloc (pE _) _,zL.new _ _ _,by simp⟩
theorem getD_eq (xs:List Nat) (k:Nat) (h:k<xs.length):xs.getD k 0=xs[k]:=by simp [List.getD_eq_getElem?_getD,h]
theorem qH8 (xs:List Nat) (k:Nat) (h:k<xs.length):xs.getD k 0∈xs:=by rw [getD_eq xs k h]; exact List.getElem_mem h
theorem wC8 (xs:List Nat) (k:Nat) (h:xs.length≤k):xs.getD k 0=0:=by
 rw [pK,cE h]; rfl
theorem wO.shape {lo hi:Nat} {w:World} {v:Value} {xs:List Nat} (h:wO lo hi w v xs):∃ ad cap,v=.slice ad xs.length cap:=by
 obtain ⟨ad,cap,hv,_⟩:=h; exact ⟨ad,cap,hv⟩
def wCE (k:IntKind) (lo hi:Nat) (w:World) (v:Value) (xs:List Nat):Prop :=
 ∃ ad cap,v=.slice ad xs.length cap∧xs.length≤cap∧(ad=none→cap=0) ∧
  (xs≠[]→∃ b off,ad=some ⟨b,off,none⟩∧lo≤b∧b<hi∧∀ i,i<xs.length→w.cell? ⟨b,off+i,none⟩=some (.int k (xs.getD i 0:Nat)))
def numsC (k:IntKind) (xs:List Nat):List Value:=xs.map fun x=>.int k (x:Nat)
theorem wCE.nil {k:IntKind} {lo hi:Nat} {w:World}:wCE k lo hi w (.slice none 0 0) []:=⟨none,0,rfl,pE _,fun _=>rfl,fun h=>absurd rfl h⟩
theorem wCE.keep {k:IntKind} {lo hi:Nat} {w w':World} {v:Value} {xs:List Nat} (h:wCE k lo hi w v xs)
  (hk:∀ b,lo≤b→b<hi→w'.heap[b]? = w.heap[b]?):wCE k lo hi w' v xs:=by
 obtain ⟨ad,cap,hv,hc,hn,hne⟩:=h; refine ⟨ad,cap,hv,hc,hn,fun h=>?_⟩
 obtain ⟨b,off,ha,hl,hh,hcell⟩:=hne h; exact ⟨b,off,ha,hl,hh,fun i hi=>(World.cell?_of_block (hk b hl hh)).trans (hcell i hi)⟩
theorem wCE.below {k:IntKind} {lo hi B:Nat} {w w':World} {v:Value} {xs:List Nat} (h:wCE k lo hi w v xs)
  (hb:Below B w w') (hB:hi≤B):wCE k lo hi w' v xs :=
 h.keep fun b _ hh=>hb.block b (by omega)
theorem wCE.set {k:IntKind} {lo hi:Nat} {w:World} {v:Value} {xs:List Nat} (h:wCE k lo hi w v xs) (p:Addr) (u:Value) (hp:p.block<lo∨hi≤p.block):wCE k lo hi (w.setCell p u) v xs :=
 h.keep fun b h1 h2=>Below.heap_setCell _ _ _ _ (by omega)
theorem wCE.wide {k:IntKind} {lo hi lo' hi':Nat} {w:World} {v:Value} {xs:List Nat} (h:wCE k lo hi w v xs)
  (h1:lo'≤lo) (h2:hi≤hi'):wCE k lo' hi' w v xs:=by
 obtain ⟨ad,cap,hv,hc,hn,hne⟩:=h; refine ⟨ad,cap,hv,hc,hn,fun h=>?_⟩
 obtain ⟨b,off,ha,hl,hh,hcell⟩:=hne h; exact ⟨b,off,ha,by omega,by omega,hcell⟩
theorem wCE.open {k:IntKind} {lo hi:Nat} {w:World} {v:Value} {xs:List Nat} (h:wCE k lo hi w v xs) :
  ∃ ad cap,v=.slice ad xs.length cap∧xs.length≤cap ∧
   (∀ i,i<xs.length→∃ b off,ad=some ⟨b,off,none⟩∧lo≤b∧b<hi∧w.cell? ⟨b,off+i,none⟩=some (.int k (xs.getD i 0:Nat))):=by
 obtain ⟨ad,cap,hv,hc,hn,hne⟩:=h; refine ⟨ad,cap,hv,hc,fun i hi=>?_⟩
 obtain ⟨b,off,ha,hl,hh,hcell⟩:=hne (by intro e; subst e; simp at hi)
 exact ⟨b,off,ha,hl,hh,hcell i hi⟩
theorem wCE.tail {k:IntKind} {lo hi:Nat} {w:World} {b off cap x:Nat} {xs:List Nat} (h:wCE k lo hi w (.slice (some ⟨b,off,none⟩) (x :: xs).length cap) (x :: xs)) :
  wCE k lo hi w (.slice (some (if cap=1 then ⟨b,off,none⟩ else ⟨b,off+1,none⟩)) xs.length (cap - 1)) xs:=by
 obtain ⟨ad,cap',hv,hc,hn,hne⟩:=h; simp only [Value.slice.injEq] at hv
 obtain ⟨rfl,_,rfl⟩:=hv; simp only [List.length_cons] at hc
 refine ⟨_,_,rfl,by omega,by simp,fun h=>?_⟩
 obtain ⟨b',off',ha,hl,hh,hcell⟩:=hne (by simp)
 simp only [Option.some.injEq,Addr.mk.injEq,and_true] at ha
 obtain ⟨rfl,rfl⟩:=ha; have hp:0<xs.length:=List.length_pos_iff.2 h
 refine ⟨b,off+1,by rw [if_neg (by omega)],hl,hh,fun i hi=>?_⟩
 have:=hcell (i+1) (by simp; omega)
 rw [cB,fT 1 i,this]
 simp
theorem wCE.ofOwn {k:IntKind} {B:Nat} {w:World} {e:TypeId} {v:Value} {n:Nat} {xs:List Nat} (h:w.ownsRow B e 1 v n (numsC k xs)):wCE k B w.heap.size w v xs:=by
 have hn:xs.length=n:=by simpa [numsC] using h.1
 rcases h.2 with ⟨rfl,rfl⟩ | ⟨g,cap,cur,rfl,hb,hg,hc,hm,hs,ht⟩
 ·obtain rfl:xs=[]:=mK hn
  exact wCE.nil
 ·refine ⟨_,cap,by rw [hn],by omega,(by simp),fun _=>⟨g,0,rfl,hb,(mW.1 hg).1,fun i hi=>?_⟩⟩
  rw [cell_of_row w g (0+i) cur e (0,0) hg,dM]; have:(numsC k xs)[i]? = some (.int k (xs.getD i 0:Nat)):=by
   simp [numsC,List.getD_eq_getElem?_getD,hi]
  rw [← this,← ht,pZ,if_pos (by omega)]
  simp
def wB:List Nat→Nat
 | []=>0
 | x :: xs=>x+4294967296*wB xs
def toL (n:Nat):List Nat:=if h:n=0 then [] else n % 4294967296 :: toL (n / 4294967296)
 termination_by n
 decreasing_by exact pF6 (pA7 h) (by decide)
theorem qB:toL 0=[]:=by rw [toL]; simp
theorem wM5 {n:Nat} (h:n≠0):toL n=n % 4294967296 :: toL (n / 4294967296):=by rw [toL]; simp [h]
theorem wM (n:Nat):wB (toL n)=n:=by
 induction n using Nat.strongRecOn with
 | ind n ih =>
  by_cases h:n=0
  ·subst h; rw [qB]; rfl
  ·rw [wM5 h,wB,ih _ (pF6 (pA7 h) (by decide))]
   omega
theorem zE (n:Nat):∀ x,x∈toL n→x<4294967296:=by
 induction n using Nat.strongRecOn with
 | ind n ih =>
  by_cases h:n=0
  ·subst h; rw [qB]; simp
  ·rw [wM5 h]
   intro x hx
   rcases pQ.1 hx with rfl | hx
   ·omega
   ·exact ih _ (pF6 (pA7 h) (by decide)) x hx
theorem wC1 (xs:List Nat) (x:Nat):wB (xs++[x])=wB xs+4294967296 ^ xs.length*x:=by
 induction xs with
 | nil=>simp [wB]
 | cons y ys ih=>simp only [List.cons_append,wB,ih,List.length_cons,Nat.pow_succ]; rw [mD,cB]; congr 2; rw [mL (_ ^ _) 4294967296,mJ]
theorem wP5 {P:Program} {w w0:World} {ops:Array Oper} {rest:List Oper} {o:Oper} {a:Act} {Q:Exit→Act→World→Prop} {t e:TypeId}
  (E:Elem P t e (.int .u32 0) 1 4) (hg:o.guard=none) (s x:Operand) (ho:o.op=.call { callee:=.builtin .append,args:=#[s,x],argTypes:=#[t,t] })
  (B n:Nat) (v v2:Value) (cells:List Value) (ys:List Nat) (lo hi:Nat) (hown:w.ownsRow B e 1 v n cells) (hL:wO lo hi w v2 ys) (hs:a.eval s=v) (hx:a.eval x=v2)
  (hb:n+ys.length≤35184372088832) (hbl:Below B w0 w) (hB:B≤w.heap.size)
  (h:∀ v' w',w'.ownsRow B e 1 v' (n+ys.length) (cells++kP ys)→Below B w0 w'→w.grownBy w' v.ownBlock→(v'=.slice none 0 0↔v=.slice none 0 0∧ys=[]) →
   wpList P ops Q rest (a.put o.dst v') w') :
  wpList P ops Q (o :: rest) a w:=by
 obtain ⟨i,hi',hz,hsz,hby⟩:=info_parts E.row; obtain ⟨ad,cap,rfl,hc,hn,hlt,hcell⟩:=hL
 have hBk:∀ k,v.ownBlock=some k→B≤k:=fun k hk=>(hown.lt k hk).1
 cases ad with
 | none =>
  have hc0:=hn rfl; have hl0:ys=[]:=mK (by omega)
  subst hl0; subst hc0
  refine wpList_plain hg fun K hK=>?_
  have hr:=run_append_owned_none (P:=P) w B t o.type e i 1 E.sl hi' v n cells hown; have hx':a.eval x=.slice none 0 0:=by simpa using hx
  unfold Oper.wp
  simp [execOp,ho,resolve,invoke,builtin,hs,hx',hr,Result.andThen]
  exact hK _ _ (h v w (by simpa [kP] using hown) hbl (World.grownBy.refl _ _) (by simp))
 | some ad =>
  refine wpList_append_own _ hg s x t ho B e i _ 1 4 E.sl hi' hz hsz hby E.zs E.pos v n cells hs hown ad ys.length cap (kP ys) hx (by simp [kP]) ?_ (qEJ _) (by unfold maxLen; omega) (by omega) hB ?_
  ·intro j u hj
   have hjl:j<ys.length:=by
    have:=(pS.1 hj).1
    simpa [kP] using this
   obtain ⟨b,off,ha,_,_,hcc,_⟩:=hcell (by intro e; subst e; simp at hjl)
   simp only [Option.some.injEq] at ha
   subst ha; rw [Addr.add_lit,hcc j hjl,← hj]
   simp [kP,List.getD_eq_getElem?_getD,hjl]
  ·intro v' w' h1 h2 h3
   refine h v' w' h1 (hbl.grown h2 hB hBk) h2 ?_
   rw [h3]
   constructor
   ·rintro ⟨h4,h5⟩; exact ⟨h4,mK h5⟩
   ·rintro ⟨h4,h5⟩; exact ⟨h4,by simp [h5]⟩
theorem wN0 {w:World} {B:Nat} {e:TypeId} {s n:Nat} {v:Value} {xs:List Value} (h:w.ownsRow B e s v n xs) (p:Addr) (u:Value) (hp:v.ownBlock≠some p.block):(w.setCell p u).ownsRow B e s v n xs:=by
 refine ⟨h.1,?_⟩
 rcases h.2 with hn | ⟨g,cap,cur,rfl,hbg,hgg,rest⟩
 ·exact .inl hn
 ·refine .inr ⟨g,cap,cur,rfl,hbg,?_,rest⟩
  rw [Below.heap_setCell _ _ _ _ (by intro e; exact hp (by simp [Value.ownBlock,e]))]
  exact hgg
theorem qR (xs:List Nat) (hx:∀ x,x∈xs→x<4294967296):wB xs<4294967296 ^ xs.length:=by
 induction xs with
 | nil=>simp [wB]
 | cons y ys ih =>
  have h1:=ih fun x h=>hx x (pT _ h)
  have h2:=hx y (pO ..); simp only [wB,List.length_cons,Nat.pow_succ]
  omega
theorem trimL_cons (x:Nat) (xs:List Nat):qG (x :: xs)=if qG xs=[]∧x=0 then [] else x :: qG xs:=by
 unfold qG; simp only [List.reverse_cons,List.dropWhile_append]
 by_cases h:xs.reverse.dropWhile (· == 0)=[]
 ·by_cases hx:x=0 <;> simp [h,hx]
 ·have:¬ (List.dropWhile (fun x=>x == 0) xs.reverse).reverse=[]:=by simpa using h
  simp [h]
theorem qT (xs:List Nat) (hx:∀ x,x∈xs→x<4294967296):qG xs=toL (wB xs):=by
 induction xs with
 | nil=>simp [wB,qB,qG]
 | cons y ys ih =>
  have h1:=ih fun x h=>hx x (pT _ h)
  have h2:=hx y (pO ..); rw [trimL_cons,h1]
  by_cases h0:y+4294967296*wB ys=0
  ·have hy:wB ys=0:=by omega
   have hy0:y=0:=by omega
   simp [wB,hy,hy0,qB]
  ·rw [wB,wM5 h0,show (y+4294967296*wB ys) % 4294967296=y from by omega,show (y+4294967296*wB ys) / 4294967296=wB ys from by omega]
   rw [if_neg]
   rintro ⟨h3,h4⟩
   have:wB (toL (wB ys))=0:=by rw [h3]; rfl
   rw [wM] at this; omega
theorem kX (n k:Nat) (h:n<4294967296 ^ k):(toL n).length≤k:=by
 induction k generalizing n with
 | zero => obtain rfl:n=0:=by simpa using h
           simp [qB]
 | succ k ih =>
  by_cases h0:n=0
  ·subst h0; simp [qB]
  ·rw [wM5 h0,mG]
   have:=ih (n / 4294967296) (by rw [mY] at h; exact pC7 (by rw [mL]; exact h))
   omega
theorem vJ (xs:List Nat) (hx:∀ x,x∈xs→x<4294967296):(toL (wB xs)).length≤xs.length :=
 kX _ _ (qR xs hx)
theorem wIG (n:Nat):toL n=[]↔n=0:=by
 constructor
 ·intro h
  rw [← wM n,h]; rfl
 ·intro h
  rw [h,qB]
theorem own_base {w:World} {B B':Nat} {e:TypeId} {s n:Nat} {v:Value} {xs:List Value} (h:w.ownsRow B' e s v n xs) (hb:B≤B'):w.ownsRow B e s v n xs:=by
 refine ⟨h.1,?_⟩
 rcases h.2 with hn | ⟨g,cap,cur,rfl,hbg,rest⟩
 ·exact .inl hn
 ·exact .inr ⟨g,cap,cur,rfl,by omega,rest⟩
end Go.Proofs.YtkjhfnhgefbhhaaGreat
