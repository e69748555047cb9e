/- A map from numbers to things, as a tree over the number's halves. -/
import Derived.Calls
import Derived.Below
import Derived.Laws.Cells
import Derived.Laws.Rows
import Derived.Laws.Append
import Derived.Laws.AppendOwn
import Derived.Laws.MakeOwn
import Derived.Laws.Slices
import Derived.Laws.CopyOwn
import Derived.Laws.Bits64
import Derived.Lib.Builder
import Derived.Laws.Build
import Derived.Laws.BytesArg
set_option linter.all false
set_option maxRecDepth 20000
set_option maxHeartbeats 6400000
set_option linter.all false
def pC:=@Nat.le_refl
def pD:=@Nat.le_trans
def pE:=@List.mem_of_getElem?
def pF:=@List.length_map
def pG:=@Nat.zero_le
def pH:=@Bool.and_eq_true
def pI:=@Nat.le_of_ble_eq_true
def pJ:=@List.getD_eq_getElem?_getD
def pK:=@List.getElem?_eq_getElem
def pL:=@Nat.lt_or_ge
def pM:=@List.length_cons
def pN:=@List.eq_nil_of_length_eq_zero
def pO:=@List.mem_cons_of_mem
def pP:=@List.mem_singleton
def pQ:=@List.mem_cons_self
def pR:=@List.mem_map
def pS:=@List.mem_cons
def pT:=@Nat.lt_of_lt_of_le
def pU:=@Array.getElem?_eq_some_iff
def pV:=@Nat.eq_of_beq_eq_true
def pW:=@List.getElem?_map
def pX:=@List.length_append
def pY:=@List.getElem?_eq_some_iff
def pZ:=@List.take_length
def mA:=@Nat.mul_add
def mB:=@Option.some.injEq
def mC:=@Nat.mul_assoc
def mD:=@List.all_eq_true
def mE:=@List.map_cons
def mF:=@List.nil_append
def mG:=@List.length_take
def mH:=@Nat.mul_comm
def mI:=@Nat.eq_zero_or_pos
def mJ:=@Nat.add_zero
def mK:=@List.length_nil
def mL:=@Option.getD_some
def mM:=@Nat.mul_le_mul_right
def mN:=@Array.length_toList
def mO:=@Nat.mul_le_mul_left
def mP:=@List.drop_of_length_le
def mQ:=@List.drop_drop
def mR:=@List.cons_append
def mS:=@Nat.pow_succ
def mT:=@List.flatten_cons
def mU:=@Array.getD_eq_getD_getElem?
def mW:=@List.take_of_length_le
def mX:=@Nat.mod_eq_of_lt
def mY:=@Nat.add_mul
def mZ:=@Option.isSome_iff_exists
def cA:=@Nat.add_assoc
def cB:=@List.mem_append
def cC:=@List.getElem?_append_right
def cD:=@List.getElem?_append_left
def cE:=@List.drop_eq_getElem_cons
def cG:=@List.append_nil
def cH:=@List.mem_append_right
def cI:=@Option.getD_none
def cJ:=@Int.natAbs_natCast
def cK:=@List.length_pos_iff
def cL:=@Nat.zero_add
def cM:=@ByteArray.size_extract
def cN:=@List.append_assoc
def cO:=@Nat.div_le_self
def cP:=@Array.getElem?_setIfInBounds_ne
def cQ:=@Nat.div_add_mod
def cR:=@List.mem_append_left
def cU:=@Nat.pow_le_pow_right
def cW:=@List.take_add_one
def cX:=@Nat.le_of_dvd
def cY:=@List.foldl_cons
def cZ:=@Array.getElem?_eq_getElem
def dA:=@List.getElem?_take
def dB:=@Bool.or_eq_true
def dC:=@List.length_drop
def dD:=@List.getElem?_cons_zero
def dE:=@List.mem_of_mem_take
def dF:=@Classical.byContradiction
def dG:=@Nat.min_eq_left
def dH:=@List.getD_cons_zero
def dI:=@Ne.symm
def dJ:=@Nat.mod_two_eq_zero_or_one
def dK:=@Nat.le_of_lt
def dL:=@List.mem_of_mem_drop
def dM:=@Option.map_some
def dN:=@Nat.mul_zero
def dO:=@List.mem_flatten
def dP:=@Nat.mod_lt
def dQ:=@Int.toNat_natCast
def dR:=@List.drop_zero
def dS:=@Int.gcd_pos_of_ne_zero_right
def dT:=@Int.natCast_mul
def dU:=@Nat.pow_pos
def dV:=@Bool.false_eq_true
def dW:=@Rat.num_divInt_den
def dX:=@List.getElem?_cons_succ
def dY:=@Array.toArray_toList
def dZ:=@List.any_eq_true
def bA:=@List.drop_length
def bB:=@List.map_map
def bC:=@Nat.dvd_of_mod_eq_zero
def bD:=@Option.map_eq_some_iff
def bG:=@List.map_congr_left
def bH:=@Bool.eq_iff_iff
def bJ:=@List.take_append_drop
def bK:=@Nat.mul_le_mul
def bL:=@List.takeWhile_append_of_pos
def bM:=@Nat.add_sub_cancel_left
def bN:=@Bool.not_eq_true'
def bO:=@Option.map_none
def bP:=@Int.natAbs_tdiv
def bQ:=@List.map_append
def bS:=@Nat.succ_mul
def bT:=@List.getElem?_set_self
def bU:=@Array.ext'
def bV:=@List.all_cons
def bW:=@List.takeWhile_cons_of_neg
def bX:=@Option.ne_none_iff_exists'
def bY:=@Nat.mul_lt_mul''
def bZ:=@Int.gcd_dvd_left
def fA:=@List.getElem?_eq_none
def fB:=@ByteArray.size_append
def fC:=@Nat.pow_add
def fD:=@List.getElem?_set_ne
def fE:=@List.drop_eq_nil_iff
def fF:=@Int.gcd_dvd_right
def fG:=@Prod.mk.injEq
def fH:=@Array.getElem?_setIfInBounds_self_of_lt
def fI:=@List.drop_append_of_le_length
def fJ:=@List.drop_take
def fK:=@Nat.ble_eq
def fL:=@List.mem_replicate
def fM:=@Nat.lt_of_le_of_lt
def fN:=@Nat.gcd_comm
def fO:=@Bool.true_and
def fP:=@List.dropWhile_cons_of_neg
def fQ:=@List.takeWhile_cons_of_pos
def fR:=@List.mapM_toArray
def fS:=@List.size_toArray
def fT:=@List.any_eq_false
def fU:=@Nat.mul_left_comm
def fV:=@Nat.mul_one
def fW:=@Nat.add_comm
def fX:=@Nat.sub_self
def fY:=@List.map_nil
def fZ:=@List.flatten_append
def gA:=@List.mem_map_of_mem
def gB:=@Option.some.inj
def gC:=@List.getElem?_drop
def gD:=@Nat.pos_of_ne_zero
def gF:=@List.dropWhile_sublist
def gG:=@Nat.one_mul
def gH:=@List.take_take
def gI:=@List.length_singleton
def gJ:=@List.dropWhile_append_of_pos
def gK:=@List.singleton_append
def gL:=@Nat.two_pow_add_eq_or_of_lt
def gM:=@List.take_append
def gN:=@Bool.or_eq_false_iff
def gO:=@Nat.mul_lt_mul_right
def gP:=@Int.tdiv_eq_ediv_of_nonneg
def gQ:=@Nat.dvd_trans
def gR:=@List.dropWhile_cons_of_pos
def gS:=@Bool.or_assoc
def gU:=@List.replicate_succ
def gV:=@List.getD_cons_succ
def gW:=@Nat.add_mul_mod_self_left
def gX:=@Rat.num_intCast
def gY:=@List.any_append
def gZ:=@Bool.eq_false_or_eq_true
def pA0:=@List.append_cancel_right
def pA1:=@List.foldl_nil
def pA2:=@Nat.mul_div_cancel_left
def pA3:=@Int.natCast_dvd_natCast
def pA4:=@Nat.lt_trichotomy
def pA5:=@List.flatMap_cons
def pA6:=@List.set_eq_take_append_cons_drop
def pA7:=@List.takeWhile_sublist
def pA8:=@List.any_cons
def pA9:=@List.take_succ_eq_append_getElem
def pB0:=@Nat.gcd_dvd_left
def pB1:=@Nat.div_lt_iff_lt_mul
def pB2:=@Int.natAbs_dvd_natAbs
def pB3:=@Rat.divInt_mul_divInt
def pB4:=@List.takeWhile_append_dropWhile
def pB5:=@Nat.zero_mul
def pB6:=@List.nodup_cons
def pB7:=@Nat.div_lt_of_lt_mul
def pB8:=@Nat.add_mul_div_left
def pB9:=@Rat.den_intCast
def pC0:=@List.mem_of_mem_tail
def pC1:=@List.mem_iff_getElem
def pC2:=@List.cons.injEq
def pC3:=@List.take_succ_cons
def pC4:=@List.drop_set_of_lt
def pC5:=@Nat.add_sub_cancel'
def pC6:=@List.take_zero
def pC7:=@Nat.le_zero
def pC8:=@List.zip_cons_cons
def pC9:=@List.pairwise_cons
def pD0:=@Nat.mul_lt_mul_of_pos_right
def pD1:=@Nat.gcd_zero_right
def pD2:=@Int.lt_or_gt_of_ne
def pD3:=@List.countP_append
def pD4:=@Bool.false_or
def pD5:=@Nat.gcd_zero_left
def pD6:=@Decidable.not_not
def pD7:=@Option.bind_some
def pD8:=@Nat.le_of_not_lt
def pD9:=@Bool.true_or
def pE0:=@List.range'_succ
def pE1:=@Nat.div_eq_of_lt
def pE2:=@Nat.lt_succ_self
def pE3:=@Nat.le_of_eq
def pE4:=@List.map_flatten
def pE5:=@List.any_map
def pE6:=@List.take_left'
def pE7:=@Nat.div_lt_self
def pE8:=@Nat.le_add_left
def pE9:=@Int.neg_dvd
def pF0:=@Nat.lcm_pos
def pF1:=@Nat.lcm_dvd
def pF2:=@Nat.one_dvd
namespace Go.Ev
inductive Tree(α:Type) where
 |lf
 |nd (v:Option α) (l r:Tree α)
variable{α:Type}
def Tree.get:Tree α→Nat→Option α
 |.lf,_=>none
 |.nd v l r,k=>bif Nat.beq k 0 then v else bif Nat.beq (k%2) 1 then l.get (k/2)else r.get (k/2-1)
def Tree.setF(v:Option α):Nat→Nat→Tree α→Tree α
 |0,_,t=>t
 |n+1,k,.lf=>bif Nat.beq k 0 then .nd v .lf .lf else bif Nat.beq (k%2) 1 then .nd none (Tree.setF v n (k/2) .lf) .lf else .nd none .lf (Tree.setF v n (k/2-1) .lf)
 |n+1,k,.nd u l r=>bif Nat.beq k 0 then .nd v l r else bif Nat.beq (k%2) 1 then .nd u (Tree.setF v n (k/2) l) r else .nd u l (Tree.setF v n (k/2-1) r)
def Tree.set(t:Tree α)(k:Nat)(v:Option α):Tree α:=Tree.setF v (k+1) k t
theorem Tree.get_lf(k:Nat):(Tree.lf:Tree α).get k=none:=rfl
theorem Tree.get_setF(v:Option α):∀(n k:Nat)(t:Tree α)(j:Nat),k<n→(Tree.setF v n k t).get j=if j=k then v else t.get j:=by
 intro n
 induction n with
 |zero=>omega
 | succ n ih=>
  intro k t j h;have hk0:Nat.beq k 0=decide (k=0):=by cases k<;>rfl
  have hk1:Nat.beq (k%2) 1=decide (k%2=1):=by rcases dJ k with h|h<;>rw[h]<;>rfl
  have hj0:Nat.beq j 0=decide (j=0):=by cases j<;>rfl
  have hj1:Nat.beq (j%2) 1=decide (j%2=1):=by rcases dJ j with h|h<;>rw[h]<;>rfl
  cases t with
  |lf=>grind [Tree.setF,Tree.get]
  |nd u l r=>grind [Tree.setF,Tree.get]
theorem Tree.get_set(t:Tree α)(k:Nat)(v:Option α)(j:Nat):(t.set k v).get j=if j=k then v else t.get j:=
 Tree.get_setF v (k+1) k t j (by omega)
open Go.RowKit
inductive AV where
 |bool (b:Bool)
 |int (k:IntKind) (n:Int)
 |str (s:ByteArray)
 |ptr (A off:Nat)
 |nilp
 |sl (A off len cap esz:Nat) (ex:Bool)
 |nils
 |sle
 |fn (f:Fn) (fs cs:List AV)
 |yld (L:Nat)
 |nilf
 |ifc (t:TypeId) (v:AV)
 |nili
 |agg (cs:List AV)
 |tup (vs:List AV)
 |mp (M:Nat)
 |nilm
abbrev Ren:=Nat→Option (Nat×Nat×Nat)
def Ren.le(φ ψ:Ren):Prop:=∀A x,φ A=some x→ψ A=some x
theorem Ren.le.refl(φ:Ren):φ.le φ:=fun _ _ h=>h
theorem Ren.le.trans{φ ψ χ:Ren}(h:φ.le ψ)(k:ψ.le χ):φ.le χ:=fun A x e=>k A x (h A x e)
def Ren.ext(φ:Ren)(A:Nat)(x:Nat×Nat×Nat):Ren:=fun B=>if B=A then some x else φ B
theorem Ren.ext_self(φ:Ren)(A:Nat)(x:Nat×Nat×Nat):φ.ext A x A=some x:=by simp[Ren.ext]
theorem Ren.ext_other(φ:Ren){A B:Nat}(x:Nat×Nat×Nat)(h:B≠A):φ.ext A x B=φ B:=by simp[Ren.ext,h]
theorem Ren.le_ext{φ:Ren}{A:Nat}(x:Nat×Nat×Nat)(h:φ A=none):φ.le (φ.ext A x):=by
 intro B y e;unfold Ren.ext
 grind
mutual
inductive VRel(φ:Ren):AV→Value→Prop
 |bool (b:Bool):VRel φ (.bool b) (.bool b)
 |int (k:IntKind) (n:Int):VRel φ (.int k n) (.int k n)
 |str (s:ByteArray):VRel φ (.str s) (.string s)
 |ptr {A off B s n:Nat} (h:φ A=some (B,s,n)):VRel φ (.ptr A off) (.pointer (some ⟨B,s+off,none⟩))
 |nilp:VRel φ .nilp (.pointer none)
 |sle (B o c:Nat):VRel φ .sle (.slice (some ⟨B,o,none⟩) 0 c)
 | sl {A off len cap esz B s n c:Nat} {ex:Bool} (h:φ A=some (B,s,n)) (h1:len≤cap) (h2:cap≤c) (h3:ex=true→c=cap) (h4:s+off+c*esz≤n) :
   VRel φ (.sl A off len cap esz ex) (.slice (some ⟨B,s+off,none⟩) len c)
 |nils:VRel φ .nils (.slice none 0 0)
 |fn {f:Fn} {fs cs:List AV} {us vs:List Value} (h:LRel φ fs us) (k:LRel φ cs vs):VRel φ (.fn f fs cs) (.func f us.toArray vs.toArray)
 |yld {L B s n:Nat} (h:φ L=some (B,s,n)):VRel φ (.yld L) (.func (.yield B) #[] #[])
 |nilf:VRel φ .nilf .nilFunc
 |ifc {t:TypeId} {a:AV} {v:Value} (h:VRel φ a v):VRel φ (.ifc t a) (.iface t v)
 |nili:VRel φ .nili .nilIface
 |agg {cs:List AV} {vs:List Value} (h:LRel φ cs vs):VRel φ (.agg cs) (.agg vs.toArray)
 |tup {cs:List AV} {vs:List Value} (h:LRel φ cs vs):VRel φ (.tup cs) (.tuple vs.toArray)
 |mp {M B s n:Nat} (h:φ M=some (B,s,n)):VRel φ (.mp M) (.map (some B))
 |nilm:VRel φ .nilm (.map none)
inductive LRel(φ:Ren):List AV→List Value→Prop
 |nil:LRel φ [] []
 |cons {a:AV} {v:Value} {as:List AV} {vs:List Value} (h:VRel φ a v) (t:LRel φ as vs):LRel φ (a::as) (v::vs)
end
mutual
theorem VRel.mono{φ ψ:Ren}(hl:φ.le ψ):∀{a:AV}{v:Value},VRel φ a v→VRel ψ a v
 |_,_,.bool b=>.bool b
 |_,_,.int k n=>.int k n
 |_,_,.str s=>.str s
 |_,_,.ptr h=>.ptr (hl _ _ h)
 |_,_,.nilp=>.nilp
 |_,_,.sle B o c=>.sle B o c
 |_,_,.sl h h1 h2 h3 h4=>.sl (hl _ _ h) h1 h2 h3 h4
 |_,_,.nils=>.nils
 |_,_,.fn h k=>.fn (LRel.mono hl h) (LRel.mono hl k)
 |_,_,.yld h=>.yld (hl _ _ h)
 |_,_,.nilf=>.nilf
 |_,_,.ifc h=>.ifc (VRel.mono hl h)
 |_,_,.nili=>.nili
 |_,_,.agg h=>.agg (LRel.mono hl h)
 |_,_,.tup h=>.tup (LRel.mono hl h)
 |_,_,.mp h=>.mp (hl _ _ h)
 |_,_,.nilm=>.nilm
theorem LRel.mono{φ ψ:Ren}(hl:φ.le ψ):∀{a:List AV}{v:List Value},LRel φ a v→LRel ψ a v
 |_,_,.nil=>.nil
 |_,_,.cons h t=>.cons (VRel.mono hl h) (LRel.mono hl t)
end
theorem LRel.length{φ:Ren}:∀{a:List AV}{v:List Value},LRel φ a v→a.length=v.length
 |_,_,.nil=>rfl
 |_,_,.cons _ t=>by simp[LRel.length t]
theorem LRel.append{φ:Ren}:∀{a b:List AV}{v u:List Value},LRel φ a v→LRel φ b u→LRel φ (a++b) (v++u)
 |_,_,_,_,.nil,h=>h
 |_,_,_,_,.cons h t,k=>.cons h (t.append k)
theorem LRel.get{φ:Ren}:∀{a:List AV}{v:List Value},LRel φ a v→∀(i:Nat)(x:AV),a[i]? = some x→∃u,v[i]? = some u∧VRel φ x u
 |_,_,.nil,i,x,h=>by grind
 |_,_,.cons h t,0,x,e=>by simp_all
 |_,_,.cons h t,i+1,x,e=>by simp only[List.getElem?_cons_succ]at e ⊢;exact t.get i x e
theorem LRel.replicate{φ:Ren}{a:AV}{v:Value}(h:VRel φ a v):∀n,LRel φ (List.replicate n a) (List.replicate n v)
 |0=>.nil
 |n+1=>.cons h (LRel.replicate h n)
def AV.cells:AV→List AV
 |.agg cs=>cs
 |v=>[v]
theorem VRel.cells{φ:Ren}{a:AV}{v:Value}(h:VRel φ a v):LRel φ a.cells v.cells.toList:=by
 cases h with
 |agg h=>exact h
 |bool b=>exact .cons (.bool b) .nil
 |int k n=>exact .cons (.int k n) .nil
 |str s=>exact .cons (.str s) .nil
 |ptr h=>exact .cons (.ptr h) .nil
 |nilp=>exact .cons .nilp .nil
 |sl h h1 h2 h3 h4=>exact .cons (.sl h h1 h2 h3 h4) .nil
 |nils=>exact .cons .nils .nil
 |sle B o c=>exact .cons (.sle B o c) .nil
 |fn h k=>exact .cons (.fn h k) .nil
 |yld h=>exact .cons (.yld h) .nil
 |nilf=>exact .cons .nilf .nil
 |ifc h=>exact .cons (.ifc h) .nil
 |nili=>exact .cons .nili .nil
 |tup h=>exact .cons (.tup h) .nil
 |mp h=>exact .cons (.mp h) .nil
 |nilm=>exact .cons .nilm .nil
structure ALoop where
 st:LoopState
 pend:Option Code
 fn:FuncId
 nt:Nat
 tmps:Tree AV
 params:List Tmp
 assign:Code
 body:Code
 dblk:Nat
inductive ABlk where
 |cells (cs:List AV) (ty:Option TypeId)
 |loop (l:ALoop)
 |dfr
 |sit (s:ByteArray) (pos:Nat)
 |mapb (es:List (AV×AV×Nat)) (clock:Nat)
abbrev Hp:=Tree ABlk
def xT(φ:Ren)(nt:Nat)(t:Tree AV)(tmps:Array Value):Prop:=
 tmps.size=nt∧∀d,VRel φ ((t.get d).getD (.tup [])) (tmps.getD d (.tuple #[]))
def CRel(φ:Ren)(cs:List AV)(ccs:Array Value)(s:Nat):Prop:=s+cs.length≤ccs.size∧LRel φ cs ((ccs.toList.drop s).take cs.length)
def yV(φ:Ren)(l:ALoop)(r:Loop):Prop:=
 r.state=l.st∧r.pending=l.pend∧r.fn=l.fn∧xT φ l.nt l.tmps r.tmps∧r.params.toList=l.params∧r.assign=l.assign∧r.body=l.body∧∃s n,φ l.dblk=some (r.defers,s,n)
inductive EsRel(φ:Ren):List (AV×AV×Nat)→List MapEntry→Prop
 |nil:EsRel φ [] []
 |cons {k v:AV} {n:Nat} {e:MapEntry} {as:List (AV×AV×Nat)} {es:List MapEntry} (hk:VRel φ k e.key) (hv:VRel φ v e.val) (hn:e.born=n) (t:EsRel φ as es):EsRel φ ((k,v,n)::as) (e::es)
theorem EsRel.mono{φ ψ:Ren}(hl:φ.le ψ):∀{as:List (AV×AV×Nat)}{es:List MapEntry},EsRel φ as es→EsRel ψ as es
 |_,_,.nil=>.nil
 |_,_,.cons hk hv hn t=>.cons (hk.mono hl) (hv.mono hl) hn (t.mono hl)
def wA4(ty:Option TypeId)(e:TypeId)(s:Nat):Prop:=∀t,ty=some t→e=t∧s=0
theorem wA4.none(e:TypeId)(s:Nat):wA4 .none e s:=fun _ h=>nomatch h
theorem wA4.some(e:TypeId):wA4 (.some e) e 0:=fun _ h=>⟨gB h,rfl⟩
def wED(φ:Ren):ABlk→(Nat×Nat×Nat)→World→Prop
 |.cells cs ty,x,w=>∃ccs e,w.heap[x.1]? = some (.cells ccs e (0,0))∧wA4 ty e x.2.1∧ccs.size=x.2.2∧CRel φ cs ccs x.2.1
 |.loop l,x,w=>∃r,w.heap[x.1]? = some (.loop r)∧yV φ l r
 |.dfr,x,w=>w.heap[x.1]? = some (.deferred (some []))
 |.sit s pos,x,w=>w.heap[x.1]? = some (.stringIter s pos)∧x.2.1=0
 |.mapb es clock,x,w=>∃es',w.heap[x.1]? = some (.map es' clock)∧EsRel φ es es'.toList
theorem xT.mono{φ ψ:Ren}(hl:φ.le ψ){nt:Nat}{t:Tree AV}{tmps:Array Value}(h:xT φ nt t tmps):xT ψ nt t tmps:=⟨h.1,fun d=>(h.2 d).mono hl⟩
theorem CRel.mono{φ ψ:Ren}(hl:φ.le ψ){cs:List AV}{ccs:Array Value}{s:Nat}(h:CRel φ cs ccs s):CRel ψ cs ccs s:=⟨h.1,h.2.mono hl⟩
theorem yV.mono{φ ψ:Ren}(hl:φ.le ψ){l:ALoop}{r:Loop}(h:yV φ l r):yV ψ l r:=by obtain⟨h1,h2,h3,h4,h5,h6,h7,s,n,h8⟩:=h;exact⟨h1,h2,h3,h4.mono hl,h5,h6,h7,s,n,hl _ _ h8⟩
theorem wED.mono{φ ψ:Ren}(hl:φ.le ψ){b:ABlk}{x:Nat×Nat×Nat}{w w':World}(h:wED φ b x w)(hw:w'.heap[x.1]? = w.heap[x.1]?):wED ψ b x w':=by
 cases b with
 |cells cs ty=>obtain⟨ccs,e,h1,h3,h2,h4⟩:=h;exact⟨ccs,e,hw.trans h1,h3,h2,h4.mono hl⟩
 |loop l=>obtain⟨r,h1,h2⟩:=h;exact⟨r,hw.trans h1,h2.mono hl⟩
 |dfr=>exact hw.trans h
 |sit s pos=>exact⟨hw.trans h.1,h.2⟩
 |mapb es clock=>obtain⟨es',h1,h2⟩:=h;exact⟨es',hw.trans h1,h2.mono hl⟩
theorem wED.lt{φ:Ren}{b:ABlk}{x:Nat×Nat×Nat}{w:World}(h:wED φ b x w):x.1<w.heap.size:=by
 have:∃o,w.heap[x.1]? = some o:=by
  cases b with
  |cells cs ty=>obtain⟨ccs,e,h1,_⟩:=h;exact⟨_,h1⟩
  |loop l=>obtain⟨r,h1,_⟩:=h;exact⟨_,h1⟩
  |dfr=>exact⟨_,h⟩
  |sit s pos=>exact⟨_,h.1⟩
  |mapb es clock=>obtain⟨es',h1,_⟩:=h;exact⟨_,h1⟩
 grind
structure SRel(ro n0:Nat)(φ:Ren)(σ:Hp)(w:World):Prop where
 h:∀A b,σ.get A=some b→∃x,φ A=some x∧wED φ b x w
 o:∀A x,ro≤A→(σ.get A).isSome=true→φ A=some x→n0≤x.1
 d:∀A A' x x',ro≤A→A≠A'→(σ.get A).isSome=true→(σ.get A').isSome=true→φ A=some x→φ A'=some x'→x.1≠x'.1
 s:n0≤w.heap.size
def vZ(c c':Nat)(φ:Ren):Prop:=∀A,c≤A→A<c'→φ A=none
def Ext(c c':Nat)(φ φ':Ren):Prop:=c≤c'∧∀A,A<c∨c'≤A→φ' A=φ A
theorem Ext.refl(c:Nat)(φ:Ren):Ext c c φ φ:=⟨pC _,fun _ _=>rfl⟩
theorem Ext.trans{a b c:Nat}{φ ψ χ:Ren}(h:Ext a b φ ψ)(k:Ext b c ψ χ):Ext a c φ χ:=
 ⟨pD h.1 k.1,fun A hA=>(k.2 A (by have:=h.1;omega)).trans (h.2 A (by have:=h.1;have:=k.1;omega))⟩
theorem Ext.le{c c':Nat}{φ ψ:Ren}(h:Ext c c' φ ψ)(f:vZ c c' φ):φ.le ψ:=by
 intro A x e
 have:¬(c≤A∧A<c'):=fun⟨h1,h2⟩=>by rw[f A h1 h2]at e;cases e
 rw[h.2 A (by omega)];exact e
theorem vZ.left{a b c:Nat}{φ:Ren}(h:vZ a c φ)(k:b≤c):vZ a b φ:=fun A h1 h2=>h A h1 (by omega)
theorem vZ.right{a b c:Nat}{φ ψ:Ren}(h:vZ a c φ)(k:Ext a b φ ψ):vZ b c ψ:=fun A h1 h2=>(k.2 A (by omega)).trans (h A (by have:=k.1;omega) h2)
theorem SRel.drew{ro n0:Nat}{φ:Ren}{σ:Hp}{w:World}(h:SRel ro n0 φ σ w):SRel ro n0 φ σ w.drew:=
 ⟨fun A b e=>let⟨x,hx,hb⟩:=h.h A b e;⟨x,hx,hb.mono (Ren.le.refl φ) rfl⟩,h.o,h.d,h.s⟩
theorem SRel.lt{ro n0:Nat}{φ:Ren}{σ:Hp}{w:World}(h:SRel ro n0 φ σ w){A:Nat}{x:Nat×Nat×Nat}(hs:(σ.get A).isSome=true)(hx:φ A=some x):x.1<w.heap.size:=by obtain⟨b,hb⟩:=mZ.1 hs;obtain⟨y,hy,hr⟩:=h.h A b hb;rw[hx]at hy;cases hy;exact hr.lt
theorem SRel.alloc{ro n0:Nat}{φ:Ren}{σ:Hp}{w:World}(h:SRel ro n0 φ σ w){A:Nat}(hA:φ A=none)(b:ABlk)(o:Obj)(n:Nat)(hb:wED (φ.ext A (w.heap.size,0,n)) b (w.heap.size,0,n) (w.alloc o)) :
  SRel ro n0 (φ.ext A (w.heap.size,0,n)) (σ.set A (some b)) (w.alloc o):=by
 have hle:=Ren.le_ext (w.heap.size,0,n) hA;have hold:∀(B:Nat)(b':ABlk),B≠A→σ.get B=some b'→∃x,φ.ext A (w.heap.size,0,n) B=some x∧wED (φ.ext A (w.heap.size,0,n)) b' x (w.alloc o):=by intro B b' hB e;obtain⟨x,hx,hr⟩:=h.h B b' e;exact⟨x,hle _ _ hx,hr.mono hle (heap_alloc_old w o _ hr.lt)⟩
 refine⟨?_,?_,?_,?_⟩
 ·intro B b' e;rw[Tree.get_set]at e;by_cases hB:B=A
  ·subst hB;rw[if_pos rfl]at e;cases e;exact⟨_,Ren.ext_self _ _ _,hb⟩
  simp_all
 ·intro B x hr hs hx;rw[Tree.get_set]at hs;by_cases hB:B=A
  ·subst hB;rw[Ren.ext_self]at hx;cases hx;exact h.s
  ·rw[if_neg hB]at hs;rw[Ren.ext_other _ _ hB]at hx;exact h.o B x hr hs hx
 ·intro B B' x x' hr hne hs hs' hx hx';rw[Tree.get_set]at hs hs';by_cases hB:B=A
  ·subst hB;rw[if_neg (dI hne)]at hs';rw[Ren.ext_self]at hx;cases hx;rw[Ren.ext_other _ _ (dI hne)]at hx';have:=h.lt hs' hx';omega
  ·rw[if_neg hB]at hs;rw[Ren.ext_other _ _ hB]at hx;by_cases hB':B'=A
   ·subst hB';rw[Ren.ext_self]at hx';cases hx';have:=h.lt hs hx;omega
   ·rw[if_neg hB']at hs';rw[Ren.ext_other _ _ hB']at hx';exact h.d B B' x x' hr hne hs hs' hx hx'
 ·have:=h.s;simp;omega
theorem Ext.alloc{c:Nat}{φ:Ren}(x:Nat×Nat×Nat):Ext c (c+1) φ (φ.ext c x):=
 ⟨by omega,fun A hA=>Ren.ext_other _ _ (by omega)⟩
theorem SRel.allocCells{ro n0:Nat}{φ:Ren}{σ:Hp}{w:World}(h:SRel ro n0 φ σ w){A:Nat}(hA:φ A=none){acs:List AV}{ccs:Array Value}(e:TypeId)(hc:LRel φ acs ccs.toList){ty:Option TypeId}(hty:wA4 ty e 0) :
  SRel ro n0 (φ.ext A (w.heap.size,0,ccs.size)) (σ.set A (some (.cells acs ty))) (w.alloc (.cells ccs e)):=by
 have hl:=hc.length;simp only[Array.length_toList]at hl;refine h.alloc hA _ _ _ ⟨ccs,e,heap_alloc_new _ _,hty,rfl,?_,?_⟩
 ·simp_all
 ·show LRel _ acs ((ccs.toList.drop 0).take acs.length);rw[dR,mW (by grind)];exact hc.mono (Ren.le_ext _ hA)
theorem SRel.put{ro n0:Nat}{φ:Ren}{σ:Hp}{w w':World}(h:SRel ro n0 φ σ w){A:Nat}{x:Nat×Nat×Nat}(hA:φ A=some x)(hro:ro≤A)(hsome:(σ.get A).isSome=true)(b:ABlk)(hb:wED φ b x w')(hsz:w.heap.size≤w'.heap.size)(hoth:∀k,k≠x.1→k<w.heap.size→w'.heap[k]? = w.heap[k]?) :
  SRel ro n0 φ (σ.set A (some b)) w':=by
 have key:∀B,((σ.set A (some b)).get B).isSome=(σ.get B).isSome:=by grind [Tree.get_set]
 refine⟨?_,?_,?_,pD h.s hsz⟩
 ·intro B b' e;rw[Tree.get_set]at e;by_cases hB:B=A
  ·simp_all
  ·rw[if_neg hB]at e;obtain⟨y,hy,hr⟩:=h.h B b' e;refine⟨y,hy,hr.mono (Ren.le.refl φ) (hoth _ ?_ hr.lt)⟩;exact fun heq=>h.d A B x y hro (dI hB) hsome (by grind) hA hy heq.symm
 ·intro B y hr hs hy;rw[key]at hs;exact h.o B y hr hs hy
 ·intro B B' y y' hr hne hs hs' hy hy';rw[key]at hs hs';exact h.d B B' y y' hr hne hs hs' hy hy'
theorem SRel.kill{ro n0:Nat}{φ:Ren}{σ:Hp}{w:World}(h:SRel ro n0 φ σ w)(A:Nat):SRel ro n0 φ (σ.set A none) w:=by
 have key:∀B,((σ.set A none).get B).isSome=true→(σ.get B).isSome=true:=by grind [Tree.get_set]
 refine⟨?_,fun B x hr hs hx=>h.o B x hr (key B hs) hx,fun B B' x x' hr hne hs hs' hx hx'=>h.d B B' x x' hr hne (key B hs) (key B' hs') hx hx',h.s⟩;intro B b e;rw[Tree.get_set]at e;by_cases hB:B=A
 ·simp_all
 ·rw[if_neg hB]at e;exact h.h B b e
inductive ExtK where
 |same
 |count
 |index
 |noZero (t:TypeId)
def ExtK.sem:ExtK→Array Value→Sem Value
 |.same=>Extern.AbiNoEscape.same
 |.count=>Extern.BytealgCount.count
 |.index=>Extern.BytealgIndexByte.indexByte
 |.noZero t=>Extern.BytealgMakeNoZero.makeNoZero #[] #[t]
structure Cx where
 tys:Tree TypeInfo
 fns:Tree Func
 exts:Tree ExtK:=.lf
structure CxOk(P:Program)(C:Cx):Prop where
 tys:∀t i,C.tys.get t=some i→P.info? t=some i
 fns:∀f fn,C.fns.get f=some fn→P.funcs[f]? = some fn∧∀args w,(callFunc f args).run P w=.ok (.enter f args) w
 mixed:P.follows .mixedOrders=true
 exts:∀f x,C.exts.get f=some x→∀args w,(callFunc f args).run P w=((x.sem args).run P w).andThen fun v w'=>.ok (.value v) w'
def Cx.und(C:Cx)(t:TypeId):Option TypeDesc:=
 match C.tys.get t with
 | some i=>match i.desc with
  |.named _ u=>match C.tys.get u with
   |some j=>some j.desc
   |none=>none
  |d=>some d
 |none=>none
theorem CxOk.und{P:Program}{C:Cx}(h:CxOk P C){t:TypeId}{d:TypeDesc}(e:C.und t=some d):P.underlying t=some d:=by
 unfold Cx.und at e;unfold Program.underlying;cases h1:C.tys.get t with
 |none=>simp_all
 |some i=>
  rw[h1]at e;rw[h.tys _ _ h1];obtain⟨desc,str,size,bytes,hp,al,fa,zero,cmp,ms⟩:=i;cases desc<;>try exact e
  rename_i n u;dsimp only at e ⊢;cases h2:C.tys.get u with
  |none=>simp_all
  |some j=>rw[h2]at e;rw[h.tys _ _ h2];exact e
def Cx.isAgg(C:Cx)(t:TypeId):Option Bool:=
 match C.und t with
 |some (.struct _)=>some true
 |some (.array _ _)=>some true
 |some _=>some false
 |none=>none
def Cx.size(C:Cx)(t:TypeId):Option Nat:=
 match C.tys.get t with
 |some i=>some i.size
 |none=>none
theorem wP{P:Program}{C:Cx}(h:CxOk P C){t:TypeId}{d:TypeDesc}(e:C.und t=some d)(w:World):(underlying t).run P w=.ok d w:=by simp[underlying,h.und e]
theorem kB{P:Program}{C:Cx}(h:CxOk P C){t:TypeId}{b:Bool}(e:C.isAgg t=some b)(w:World):(isAgg t).run P w=.ok b w:=by
 unfold Cx.isAgg at e;cases hu:C.und t with
 |none=>simp_all
 |some d=>rw[hu]at e;cases d<;>cases e<;>simp[isAgg,wP h hu]
theorem wZ{P:Program}{C:Cx}(h:CxOk P C){t:TypeId}{n:Nat}(e:C.size t=some n)(w:World):(sizeOf t).run P w=.ok n w:=by
 unfold Cx.size at e;cases hu:C.tys.get t with
 |none=>simp_all
 |some i=>rw[hu]at e;cases e;simp[sizeOf,typeInfo,h.tys _ _ hu]
def xA{α β:Type}(f:α→Option β):List α→Option (List β)
 |[]=>some []
 | x::xs=>match f x with
  |none=>none
  |some y=>match xA f xs with
   |none=>none
   |some ys=>some (y::ys)
def wH4:Nat→Value→Option AV
 |0,_=>none
 | n+1,v=>match v with
  |.bool b=>some (.bool b)
  |.int k m=>some (.int k m)
  |.string s=>some (.str s)
  |.pointer none=>some .nilp
  |.slice none l c=>bif Nat.beq (l+c) 0 then some .nils else none
  | .func f a b=>match xA (wH4 n) a.toList with
   |none=>none
   |some x=>match xA (wH4 n) b.toList with
    |none=>none
    |some y=>some (.fn f x y)
  |.nilFunc=>some .nilf
  |.iface t v=>match wH4 n v with
   |none=>none
   |some x=>some (.ifc t x)
  |.nilIface=>some .nili
  |.agg cs=>match xA (wH4 n) cs.toList with
   |none=>none
   |some x=>some (.agg x)
  |.tuple cs=>match xA (wH4 n) cs.toList with
   |none=>none
   |some x=>some (.tup x)
  |.map none=>some .nilm
  |_=>none
theorem wI2{φ:Ren}{f:Value→Option AV}(hf:∀v a,f v=some a→VRel φ a v):∀(l:List Value)(r:List AV),xA f l=some r→LRel φ r l
 |[],r,e=>by cases e;exact .nil
 | v::vs,r,e=>by
  simp only[xA]at e;cases h1:f v with
  |none=>simp_all
  |some a=>
   rw[h1]at e;dsimp only at e;cases h2:xA f vs with
   |none=>simp_all
   |some as=>rw[h2]at e;cases e;exact .cons (hf _ _ h1) (wI2 hf vs as h2)
theorem qFI{φ:Ren}:∀(n:Nat)(v:Value)(a:AV),wH4 n v=some a→VRel φ a v:=by
 intro n
 induction n with
 |zero=>intro v a e;cases e
 | succ n ih=>
  intro v a e;cases v with
  |bool b=>cases e;exact .bool b
  |int k m=>cases e;exact .int k m
  |string s=>cases e;exact .str s
  |float k b=>cases e
  |complex k a b=>cases e
  |chan r=>cases e
  |nilFunc=>cases e;exact .nilf
  |nilIface=>cases e;exact .nili
  |pointer p=>cases p with
   |none=>cases e;exact .nilp
   |some p=>cases e
  | slice p l c=>
   cases p with
   |some p=>cases e
   | none=>
    simp only[wH4]at e;by_cases h:l+c=0
    ·have hl:l=0:=by omega
     have hc:c=0:=by omega
     subst hl;subst hc;cases e;exact .nils
    ·have:Nat.beq (l+c) 0=false:=by cases hh:l+c with
      |zero=>exact absurd hh h
      |succ m=>rfl
     simp_all
  |map r=>cases r with
   |none=>cases e;exact .nilm
   |some r=>cases e
  |iface t v=>
   simp only[wH4]at e;cases h:wH4 n v with
   |none=>simp_all
   |some x=>rw[h]at e;cases e;exact .ifc (ih _ _ h)
  |agg cs=>
   simp only[wH4]at e;cases h:xA (wH4 n) cs.toList with
   |none=>simp_all
   |some x=>rw[h]at e;cases e;have:=VRel.agg (wI2 ih _ _ h);omega
  |tuple cs=>
   simp only[wH4]at e;cases h:xA (wH4 n) cs.toList with
   |none=>simp_all
   |some x=>rw[h]at e;cases e;have:=VRel.tup (wI2 ih _ _ h);omega
  | func f a b=>
   simp only[wH4]at e;cases h:xA (wH4 n) a.toList with
   |none=>simp_all
   |some x=>
    rw[h]at e;dsimp only at e;cases h2:xA (wH4 n) b.toList with
    |none=>simp_all
    |some y=>rw[h2]at e;cases e;have:=VRel.fn (f:=f) (wI2 ih _ _ h) (wI2 ih _ _ h2);omega
def Cx.zero(C:Cx)(t:TypeId):Option AV:=
 match C.tys.get t with
 |some i=>match i.zero with
  |some z=>wH4 3 z
  |none=>none
 |none=>none
theorem xY{P:Program}{C:Cx}(h:CxOk P C){t:TypeId}{a:AV}(e:C.zero t=some a)(φ:Ren)(w:World):∃z,(zeroValue t).run P w=.ok z w∧VRel φ a z∧∃i,C.tys.get t=some i∧P.info? t=some i∧i.zero=some z:=by
 unfold Cx.zero at e;cases hu:C.tys.get t with
 |none=>simp_all
 | some i=>
  rw[hu]at e;dsimp only at e;cases hz:i.zero with
  |none=>simp_all
  |some z=>rw[hz]at e;exact⟨z,by simp[zeroValue,typeInfo,h.tys _ _ hu,hz],qFI _ _ _ e,i,rfl,h.tys _ _ hu,hz⟩
def takeX{α:Type}:Nat→List α→Option (List α)
 |0,_=>some []
 |_+1,[]=>none
 |n+1,x::xs=>match takeX n xs with
  |none=>none
  |some ys=>some (x::ys)
theorem wU4{α:Type}:∀(n:Nat)(l r:List α),takeX n l=some r→r=l.take n∧n≤l.length
 |0,l,r,e=>by cases e;simp
 |n+1,[],r,e=>by cases e
 | n+1,x::xs,r,e=>by
  simp only[takeX]at e;cases h:takeX n xs with
  |none=>simp_all
  |some ys=>
   rw[h]at e;cases e;obtain⟨h1,h2⟩:=wU4 n xs ys h
   simp_all
def lsub{α:Type}(l:List α)(off n:Nat):Option (List α):=takeX n (l.drop off)
theorem wFG{α:Type}{l r:List α}{off n:Nat}(e:lsub l off n=some r):r=(l.drop off).take n∧r.length=n∧(off+n≤l.length∨n=0):=by
 obtain⟨h1,h2⟩:=wU4 _ _ _ e
 grind
def wL2{α:Type}:List α→Nat→List α→Option (List α)
 |l,0,[]=>some l
 |[],0,_::_=>none
 |_::l,0,v::vs=>match wL2 l 0 vs with
  |none=>none
  |some r=>some (v::r)
 |[],_+1,_=>none
 |x::l,k+1,vs=>match wL2 l k vs with
  |none=>none
  |some r=>some (x::r)
theorem wN6{α:Type}:∀(l:List α)(off:Nat)(vs r:List α),wL2 l off vs=some r→r=l.take off++vs++l.drop (off+vs.length)∧off+vs.length≤l.length
 |l,0,[],r,e=>by simp_all [wL2]
 |[],0,_::_,r,e=>by grind [wL2]
 | x::l,0,v::vs,r,e=>by
  simp only[wL2]at e;cases h:wL2 l 0 vs with
  |none=>simp_all
  |some q=>
   rw[h]at e;cases e;obtain⟨h1,h2⟩:=wN6 l 0 vs q h
   simp_all
 |[],k+1,vs,r,e=>by simp_all [wL2]
 | x::l,k+1,vs,r,e=>by
  have e':(match wL2 l k vs with|none=>none|some r=>some (x::r))=some r:=by simp_all [wL2]
  cases h:wL2 l k vs with
  |none=>simp_all
  |some q=>
   rw[h]at e';cases e';obtain⟨h1,h2⟩:=wN6 l k vs q h
   grind
theorem LRel.take{φ:Ren}:∀{a:List AV}{v:List Value},LRel φ a v→∀n,LRel φ (a.take n) (v.take n)
 |_,_,.nil,n=>by simp;exact .nil
 |_,_,.cons h t,0=>by simp;exact .nil
 |_,_,.cons h t,n+1=>by simp;exact .cons h (t.take n)
theorem LRel.drop{φ:Ren}:∀{a:List AV}{v:List Value},LRel φ a v→∀n,LRel φ (a.drop n) (v.drop n)
 |_,_,.nil,n=>by simp;exact .nil
 |_,_,.cons h t,0=>by simp;exact .cons h t
 |_,_,.cons h t,n+1=>by simp;exact t.drop n
theorem LRel.put{φ:Ren}{a vs r:List AV}{c us:List Value}{off:Nat}(h:LRel φ a c)(k:LRel φ vs us)(e:wL2 a off vs=some r) :
  LRel φ r (c.take off++us++c.drop (off+us.length))∧off+us.length≤c.length:=by
 obtain⟨h1,h2⟩:=wN6 _ _ _ _ e;subst h1;rw[←k.length,←h.length];exact⟨((h.take _).append k).append (h.drop _),h2⟩
def AV.one:AV→Bool
 |.agg _=>false
 |.tup _=>false
 |_=>true
theorem VRel.one{φ:Ren}{a:AV}{v:Value}(h:VRel φ a v)(ho:a.one=true):v.oneCell'=true:=by cases h<;>first|rfl|cases ho
def wX:List AV→Bool
 |[]=>true
 |a::as=>bif a.one then wX as else false
theorem LRel.one{φ:Ren}:∀{a:List AV}{v:List Value},LRel φ a v→wX a=true→∀u∈v,u.oneCell'=true
 |_,_,.nil,_,u,hu=>by cases hu
 | _,_,.cons (a:=a) h t,ho,u,hu=>by
  simp only[wX]at ho;cases h1:a.one with
  |false=>simp_all
  |true=>
   rw[h1]at ho;cases hu with
   |head=>exact h.one h1
   |tail _ hu=>exact t.one ho u hu
def jG(σ:Hp)(A off n:Nat):Option (List AV):=
 match σ.get A with
 |some (.cells cs _)=>lsub cs off n
 |_=>none
def wA8(ro:Nat)(σ:Hp)(A off:Nat)(vs:List AV):Option Hp:=
 bif Nat.ble ro A then
  match σ.get A with
  | some (.cells cs ty)=>bif wX vs then
    match wL2 cs off vs with
    |some r=>some (σ.set A (some (.cells r ty)))
    |none=>none
   else none
  |_=>none
 else none
section
variable{P:Program}{ro n0:Nat}{φ:Ren}{σ:Hp}{w:World}
theorem qH0(h:SRel ro n0 φ σ w){A off n:Nat}{r:List AV}(e:jG σ A off n=some r) :
  ∃B s m us,φ A=some (B,s,m)∧LRel φ r us∧us.length=n∧∀j u,us[j]? = some u→w.cell? ⟨B,s+off+j,none⟩=some u:=by
 unfold jG at e;split at e
 case h_2=>cases e
 case h_1 cs ty hA=>
  obtain⟨⟨B,s,m⟩,hφ,ccs,ety,hh,hty,hsz,hle,hc⟩:=h.h A _ hA;dsimp only at hh hsz hle hc;obtain⟨h1,h2,h3⟩:=wFG e;subst h1;have hfit:(cs.drop off).take n=[]∨off+n≤cs.length:=by
   rcases h3 with h3|h3
   ·exact .inr h3
   ·left;subst h3;simp
  have hlist:LRel φ ((cs.drop off).take n) ((ccs.toList.drop (s+off)).take n):=by
   rcases h3 with h3|h3
   ·have:=(hc.drop off).take n;rw[fJ,mQ,gH,dG (by omega)]at this;exact this
   ·subst h3;simp;exact .nil
  grind [World.cell?]
theorem qCF(h:SRel ro n0 φ σ w){A off n:Nat}{r:List AV}(e:jG σ A off n=some r){B s m:Nat}(hφ:φ A=some (B,s,m)) :
  ∃us:List Value,(loadCells ⟨B,s+off,none⟩ n).run P w=.ok us.toArray w∧LRel φ r us∧us.length=n∧∀j u,us[j]? = some u→w.cell? ((⟨B,s+off,none⟩:Addr).add j)=some u:=by
 grind [qH0,Addr.add,run_loadCells_list]
theorem run_wrF(h:SRel ro n0 φ σ w){A off:Nat}{vs:List AV}{us:List Value}{σ':Hp}(hv:LRel φ vs us)(e:wA8 ro σ A off vs=some σ'){B s m:Nat}(hφ:φ A=some (B,s,m)) :
  ∃w',(storeCells ⟨B,s+off,none⟩ us).run P w=.ok () w'∧SRel ro n0 φ σ' w'∧Below n0 w w'∧∀k,k≠B→w'.heap[k]? = w.heap[k]?:=by
 unfold wA8 at e;cases hro:Nat.ble ro A with
 |false=>simp_all
 | true =>
  rw[hro]at e;have hro':ro≤A:=pI hro;simp only[cond_true]at e;split at e
  case h_2=>cases e
  case h_1 cs ty hA=>
   cases ho:wX vs with
   |false=>simp_all
   | true=>
    rw[ho]at e;simp only[cond_true]at e;split at e
    case h_2=>cases e
    case h_1 r hput=>
     cases e;obtain⟨⟨B',s',m'⟩,hφ',ccs,ety,hh,hty,hsz,hle,hc⟩:=h.h A _ hA;rw[hφ]at hφ';cases hφ';dsimp only at hh hsz hle hc;obtain⟨hp1,hp2⟩:=wN6 _ _ _ _ hput;have hvl:=hv.length;have hfit:s+off+us.length≤ccs.size:=by omega
     have hst:=run_storeCells_at P B (s+off) ety us 0 ccs w hh (by omega) (hv.one ho);simp only[Nat.add_zero]at hst;have hrl:r.length=cs.length:=by grind
     refine⟨_,hst,h.put hφ hro' (by simp_all) (.cells r ty) ⟨_,ety,setRow_heap w B ccs _ ety _ hh,hty,?_,?_,?_⟩ (by simp) ?_,?_⟩
     ·grind
     ·grind
     ·have hnew:=(hc.put hv hput).1;have hcut:(((List.take (s+off) ccs.toList++us++List.drop (s+off+us.length) ccs.toList).toArray).toList.drop s).take r.length =
        (((ccs.toList.drop s).take cs.length).take off++us++((ccs.toList.drop s).take cs.length).drop (off+us.length)):=by
       have e1:List.take off ((ccs.toList.drop s).take cs.length)=(ccs.toList.drop s).take off:=by rw[gH,dG (by omega)]
       have e2:List.drop (off+us.length) ((ccs.toList.drop s).take cs.length)=(ccs.toList.drop (s+off+us.length)).take (cs.length-(off+us.length)):=by rw[fJ,mQ,cA]
       rw[e1,e2,hrl];have e3:(List.take (s+off) ccs.toList).drop s=(ccs.toList.drop s).take off:=by rw[fJ,bM]
       have hl1:(List.take (s+off) ccs.toList).length=s+off:=by simp;omega
       have hl2:((ccs.toList.drop s).take off).length=off:=by simp;omega
       show List.take cs.length (List.drop s (List.take (s+off) ccs.toList++us++List.drop (s+off+us.length) ccs.toList))=_;rw[cN,fI (by omega),e3,gM,hl2,gM,cN];rw[mW (by omega),mW (l:=us) (by omega),show cs.length-off-us.length=cs.length-(off+us.length) by omega]
      simp_all
     ·grind [setRow_other]
     ·have hn:n0≤B:=h.o A _ hro' (by rw[hA];rfl) hφ
      simp_all [below_setRow,Below.refl,setRow_other]
theorem run_wr(h:SRel ro n0 φ σ w){A off:Nat}{vs:List AV}{us:List Value}{σ':Hp}(hv:LRel φ vs us)(e:wA8 ro σ A off vs=some σ'){B s m:Nat}(hφ:φ A=some (B,s,m)) :
  ∃w',(storeCells ⟨B,s+off,none⟩ us).run P w=.ok () w'∧SRel ro n0 φ σ' w'∧Below n0 w w':=by
 obtain⟨w',h1,h2,h3,_⟩:=run_wrF (P:=P) h hv e hφ
 simp_all
end
def ewrap(k:IntKind)(n:Int):Int:=
 match k,n with
 |.i64,.ofNat m=>bif Nat.blt m 9223372036854775808 then .ofNat m else k.wrap n
 |.u64,.ofNat m=>.ofNat (m%18446744073709551616)
 |.u32,.ofNat m=>.ofNat (m%4294967296)
 |.u8,.ofNat m=>.ofNat (m%256)
 |.i64,.negSucc m=>bif Nat.blt m 9223372036854775808 then .negSucc m else k.wrap n
 |.u64,.negSucc m=>.ofNat (18446744073709551615-m%18446744073709551616)
 |.u32,.negSucc m=>.ofNat (4294967295-m%4294967296)
 |k,n=>k.wrap n
theorem wRA(m M:Nat)(hM:0<M):((M-1-m%M:Nat):Int)=Int.negSucc m%(M:Int):=by
 have e:Int.negSucc m = -(m:Int)-1:=by omega
 rw[e];have h1:=dP m hM;have h2:=cQ m M
 have:(-(m:Int)-1)=((M-1-m%M:Nat):Int)+(M:Int)*(-((m/M:Nat):Int)-1):=by grind
 rw[this,Int.add_mul_emod_self_left];exact(Int.emod_eq_of_lt (by omega) (by omega)).symm
theorem wZ1(m:Nat):ewrap .i64 (.ofNat m)=IntKind.i64.wrap (.ofNat m):=by
 show(bif Nat.blt m 9223372036854775808 then Int.ofNat m else IntKind.i64.wrap (.ofNat m))=_;cases h:Nat.blt m 9223372036854775808 with
 |false=>rfl
 |true=>
  have hm:m<9223372036854775808:=by simpa using h
  rw[cond_true,IntKind.wrap_i64]
  grind
theorem wZ2(m:Nat):ewrap .i64 (.negSucc m)=IntKind.i64.wrap (.negSucc m):=by
 show(bif Nat.blt m 9223372036854775808 then Int.negSucc m else IntKind.i64.wrap (.negSucc m))=_;cases h:Nat.blt m 9223372036854775808 with
 |false=>rw[cond_false]
 |true=>
  have hm:m<9223372036854775808:=by simpa using h
  have h0:Int.negSucc m = -((m:Int)+1):=Int.negSucc_eq m;rw[cond_true,IntKind.wrap_i64,h0];omega
theorem wYJ(m:Nat):ewrap .u64 (.negSucc m)=IntKind.u64.wrap (.negSucc m):=by rw[IntKind.wrap_u64];exact wRA m 18446744073709551616 (by omega)
theorem wZ0(m:Nat):ewrap .u32 (.negSucc m)=IntKind.u32.wrap (.negSucc m):=by rw[IntKind.wrap_u32];exact wRA m 4294967296 (by omega)
theorem jA(k:IntKind)(n:Int):ewrap k n=k.wrap n:=by
 cases k<;>cases n
 case i64.ofNat m=>exact wZ1 m
 case i64.negSucc m=>exact wZ2 m
 case u64.ofNat m=>rfl
 case u64.negSucc m=>exact wYJ m
 case u32.ofNat m=>rfl
 case u32.negSucc m=>exact wZ0 m
 case u8.ofNat m=>rfl
 all_goals rfl
def wH6(op:BinOp)(k:IntKind)(x y:Int):Option AV:=
 match op with
 |.add=>some (.int k (ewrap k (x+y)))
 |.sub=>some (.int k (ewrap k (x-y)))
 |.mul=>some (.int k (ewrap k (x*y)))
 |.quo=>if y=0 then none else some (.int k (ewrap k (x.tdiv y)))
 |.rem=>if y=0 then none else some (.int k (x.tmod y))
 |.and=>some (.int k (ewrap k ((BitVec.ofInt k.bits x &&& BitVec.ofInt k.bits y).toNat)))
 |.or=>some (.int k (ewrap k ((BitVec.ofInt k.bits x ||| BitVec.ofInt k.bits y).toNat)))
 |.xor=>some (.int k (ewrap k ((BitVec.ofInt k.bits x ^^^ BitVec.ofInt k.bits y).toNat)))
 |.andNot=>some (.int k (ewrap k ((BitVec.ofInt k.bits x &&& ~~~ BitVec.ofInt k.bits y).toNat)))
 |.eql=>some (.bool (decide (x=y)))
 |.neq=>some (.bool (!decide (x=y)))
 |.lss=>some (.bool (decide (x<y)))
 |.leq=>some (.bool (decide (x≤y)))
 |.gtr=>some (.bool (decide (y<x)))
 |.geq=>some (.bool (decide (y≤x)))
 |_=>none
def wLE(op:BinOp)(k:IntKind)(x y:Int):Option AV:=
 if y<0 then none else
 match op with
 |.shl=>some (.int k (ewrap k (x*((2^min y.toNat k.bits:Nat):Int))))
 |.shr=>some (.int k (x.fdiv ((2^min y.toNat k.bits:Nat):Int)))
 |_=>none
def eStr(op:BinOp)(x y:ByteArray):Option AV:=
 match op with
 |.add=>bif Nat.ble (x.size+y.size) 9223372036854775807 then some (.str (x++y))else none
 |.eql=>some (.bool (x.toList==y.toList))
 |.neq=>some (.bool (!(x.toList==y.toList)))
 |_=>none
def eEq(C:Cx)(t:TypeId)(lit:Bool)(a b:AV):Option Bool:=
 match C.und t,a,b with
 |some .bool,.bool x,.bool y=>some (x==y)
 |some (.pointer _),.nilp,.nilp=>some true
 |some (.pointer _),.nilp,.ptr _ _=>some false
 |some (.pointer _),.ptr _ _,.nilp=>some false
 |some (.slice _),.nils,.nils=>some true
 |some (.slice _),.nils,.sl _ _ _ _ _ _=>some false
 |some (.slice _),.nils,.sle=>some false
 |some (.slice _),.sl _ _ _ _ _ _,.nils=>some false
 |some (.slice _),.sle,.nils=>some false
 |some (.func _ _ _),.nilf,.nilf=>some true
 |some (.func _ _ _),.nilf,.fn _ _ _=>some false
 |some (.func _ _ _),.fn _ _ _,.nilf=>some false
 |some (.interface _),.nili,.nili=>bif lit then some true else none
 |some (.interface _),.nili,.ifc _ _=>some false
 |some (.interface _),.ifc _ _,.nili=>some false
 |some (.map _ _),.nilm,.nilm=>some true
 |some (.map _ _),.nilm,.mp _=>some false
 |some (.map _ _),.mp _,.nilm=>some false
 |some (.pointer te),.ptr A o,.ptr A' o'=>match C.tys.get te with
  |some _=>bif Nat.beq A A'&&Nat.beq o o' then some true else none
  |none=>none
 |_,_,_=>none
def isConst:Operand→Bool
 |.const _=>true
 |_=>false
def eBin(C:Cx)(op:BinOp)(t:TypeId)(x y:Operand)(a b:AV):Option AV:=
 match a,b with
 |.int k m,.int k' n=>match op with
  |.shl=>wLE .shl k m n
  |.shr=>wLE .shr k m n
  |op=>if k=k' then wH6 op k m n else none
 |.str s,.str u=>eStr op s u
 | a,b=>match op with
  |.eql=>match eEq C t (isConst x||isConst y) a b with
   |some r=>some (.bool r)
   |none=>none
  |.neq=>match eEq C t (isConst x||isConst y) a b with
   |some r=>some (.bool (!r))
   |none=>none
  |_=>none
section
variable{P:Program}{φ:Ren}{w:World}
theorem wO9{op:BinOp}{k:IntKind}{x y:Int}{v:AV}(e:wH6 op k x y=some v)(h1:op≠.shl)(h2:op≠.shr)(t:TypeId) :
  ∃u,(binOp op t (.int k x) (.int k y)).run P w=.ok u w∧VRel φ v u:=by
 cases op<;>simp only[wH6]at e<;>try (cases e;done)
 case quo=>
  split at e
  ·cases e
  ·rename_i hy;cases e;exact⟨.int k (k.wrap (x.tdiv y)),by simp[binOp,Op.intDiv,hy],by rw[jA];exact .int _ _⟩
 case rem=>
  split at e
  ·cases e
  ·rename_i hy;cases e;exact⟨.int k (x.tmod y),by simp[binOp,Op.intDiv,hy],.int _ _⟩
 case add=>cases e;exact⟨_,by simp[binOp,Op.intArith];rfl,by rw[jA];exact .int _ _⟩
 case sub=>cases e;exact⟨_,by simp[binOp,Op.intArith];rfl,by rw[jA];exact .int _ _⟩
 case mul=>cases e;exact⟨_,by simp[binOp,Op.intArith];rfl,by rw[jA];exact .int _ _⟩
 case and=>cases e;exact⟨.int k (k.wrap ((BitVec.ofInt k.bits x &&& BitVec.ofInt k.bits y).toNat)),by simp[binOp,Op.intBits],by rw[jA];exact .int _ _⟩
 case or=>cases e;exact⟨.int k (k.wrap ((BitVec.ofInt k.bits x ||| BitVec.ofInt k.bits y).toNat)),by simp[binOp,Op.intBits],by rw[jA];exact .int _ _⟩
 case xor=>cases e;exact⟨.int k (k.wrap ((BitVec.ofInt k.bits x ^^^ BitVec.ofInt k.bits y).toNat)),by simp[binOp,Op.intBits],by rw[jA];exact .int _ _⟩
 case andNot=>cases e;exact⟨.int k (k.wrap ((BitVec.ofInt k.bits x &&& ~~~ BitVec.ofInt k.bits y).toNat)),by simp[binOp,Op.intBits],by rw[jA];exact .int _ _⟩
 case eql=>cases e;exact⟨.bool (x==y),by simp[binOp,Op.intCmp],by rw[show(x==y)=decide (x=y)from rfl];exact .bool _⟩
 case neq=>cases e;exact⟨.bool (x != y),by simp[binOp,Op.intCmp],by rw[show(x != y)=!decide (x=y)from rfl];exact .bool _⟩
 case lss=>cases e;exact⟨.bool (decide (x<y)),by simp[binOp,Op.intCmp],.bool _⟩
 case leq=>cases e;exact⟨.bool (decide (x≤y)),by simp[binOp,Op.intCmp],.bool _⟩
 case gtr=>cases e;exact⟨.bool (decide (x>y)),by simp[binOp,Op.intCmp],.bool _⟩
 case geq=>cases e;exact⟨.bool (decide (x≥y)),by simp[binOp,Op.intCmp],.bool _⟩
theorem wQ8{op:BinOp}{k:IntKind}{x y:Int}{v:AV}(e:wLE op k x y=some v)(h:op=.shl∨op=.shr)(t:TypeId)(k':IntKind) :
  ∃u,(binOp op t (.int k x) (.int k' y)).run P w=.ok u w∧VRel φ v u:=by
 unfold wLE at e;split at e
 ·cases e
 ·rename_i hy;rcases h with rfl|rfl
  ·cases e;exact⟨.int k (k.wrap (x*2^min y.toNat k.bits)),by simp[binOp,Op.shift,hy],by rw[jA];simp only[Int.natCast_pow];exact .int _ _⟩
  ·cases e;exact⟨.int k (x.fdiv (2^min y.toNat k.bits)),by simp[binOp,Op.shift,hy],by simp only[Int.natCast_pow];exact .int _ _⟩
theorem eStr_ok{op:BinOp}{x y:ByteArray}{v:AV}(e:eStr op x y=some v)(t:TypeId) :
  ∃u,(binOp op t (.string x) (.string y)).run P w=.ok u w∧VRel φ v u:=by
 cases op<;>simp only[eStr]at e<;>try (cases e;done)
 case add=>
  cases h:Nat.ble (x.size+y.size) 9223372036854775807 with
  |false=>simp_all
  |true=>
   rw[h]at e;cases e;have:=pI h;have hn:¬(9223372036854775807<(x.size:Int)+(y.size:Int)):=by omega
   exact⟨.string (x++y),by simp[binOp,Op.stringOp,IntKind.max,IntKind.signed,IntKind.bits,hn],.str _⟩
 case eql=>cases e;exact⟨.bool (x.toList==y.toList),by rfl,.bool _⟩
 case neq=>cases e;exact⟨.bool (!(x.toList==y.toList)),by rfl,.bool _⟩
theorem eEq_ok{C:Cx}(hC:CxOk P C){t:TypeId}{lit:Bool}{a b:AV}{r:Bool}(e:eEq C t lit a b=some r){u v:Value}(ha:VRel φ a u)(hb:VRel φ b v) :
  (Op.equal t u v).run P w=.ok r w:=by
 obtain⟨d,hd⟩:∃d,Op.maxDepth=d+1:=⟨9999,rfl⟩
 unfold Op.equal;rw[hd];unfold eEq at e;split at e<;>try (cases e;done)
 all_goals (rename_i hu;first|(cases ha;cases hb;cases e;simp[Op.equalIn,wP hC hu];done)|skip)
 ·cases ha;cases hb;cases hl:lit with
  |false=>simp_all
  |true=>rw[hl]at e;cases e;simp[Op.equalIn,wP hC hu]
 ·rename_i te A o A' o';split at e
  case h_2=>cases e
  case h_1 j hj=>
   cases hbq:Nat.beq A A'&&Nat.beq o o' with
   |false=>simp_all
   | true=>
    rw[hbq]at e;cases e;rw[pH]at hbq;have h1:A=A':=by simp_all
    have h2:o=o':=by simp_all
    subst h1;subst h2;cases ha with
    | ptr h3=>cases hb with
     |ptr h4=>rw[h3]at h4;cases h4;simp[Op.equalIn,wP hC hu,sizeOf,typeInfo,hC.tys _ _ hj,run_sameAddr_same]
theorem qE9{op:BinOp}{t:TypeId}{x y:Operand}(h:(isConst x||isConst y)=true):(eqGuard op t x y .nilIface .nilIface).run P w=.ok () w:=by unfold eqGuard;cases x<;>cases y<;>first|(simp[isConst]at h;done)|(split<;>simp)
theorem wWG{C:Cx}{op:BinOp}{t:TypeId}{x y:Operand}{a b:AV}{r:Bool}(e:eEq C t (isConst x||isConst y) a b=some r){u v:Value}(ha:VRel φ a u)(hb:VRel φ b v) :
  (eqGuard op t x y u v).run P w=.ok () w:=by
 unfold eEq at e;split at e<;>try (cases e;done)
 all_goals (cases ha;cases hb;first|(unfold eqGuard;split<;>simp;done)|skip)
 grind [isConst,qE9]
theorem eBin_ok{C:Cx}(hC:CxOk P C){op:BinOp}{t:TypeId}{x y:Operand}{a b v:AV}(e:eBin C op t x y a b=some v){u u':Value}(ha:VRel φ a u)(hb:VRel φ b u') :
  ∃r,(do eqGuard op t x y u u';binOp op t u u':Sem Value).run P w=.ok r w∧VRel φ v r:=by
 unfold eBin at e;split at e
 ·cases ha;cases hb;rename_i k m k' n;have hg:∀op,(eqGuard op t x y (.int k m) (.int k' n)).run P w=.ok () w:=by intro op;unfold eqGuard;split<;>simp
  simp only[Sem.run_bind,hg,Result.andThen_ok];split at e
  ·exact wQ8 e (.inl rfl) t k'
  ·exact wQ8 e (.inr rfl) t k'
  simp_all [wO9]
 ·cases ha;cases hb
  simp_all [eqGuard,Sem.run_bind,Result.andThen_ok,eStr_ok]
 ·rename_i hni hns;split at e
  ·split at e
   ·rename_i r hr;cases e;simp only[Sem.run_bind,wWG hr ha hb,Result.andThen_ok];have hq:=eEq_ok (P:=P) (w:=w) hC hr ha hb;refine⟨.bool r,?_,.bool r⟩
    have:binOp .eql t u u'=(do pure (.bool (←Op.equal t u u')):Sem Value):=by cases ha<;>cases hb<;>first|rfl|(exact absurd rfl (by first|exact(hni _ _ _ _ rfl ·)|exact(hns _ _ rfl ·)))
    rw[this];simp[hq]
   ·cases e
  ·split at e
   ·rename_i r hr;cases e;simp only[Sem.run_bind,wWG hr ha hb,Result.andThen_ok];have hq:=eEq_ok (P:=P) (w:=w) hC hr ha hb;refine⟨.bool (!r),?_,.bool (!r)⟩
    have:binOp .neq t u u'=(do pure (.bool (!(←Op.equal t u u'))):Sem Value):=by cases ha<;>cases hb<;>first|rfl|(exact absurd rfl (by first|exact(hni _ _ _ _ rfl ·)|exact(hns _ _ rfl ·)))
    rw[this];simp[hq]
   ·cases e
  grind
end
def wA5(P:Program)(ro n0 c:Nat)(φ:Ren)(w:World)(s:Sem Value)(v:AV)(σ':Hp)(c':Nat):Prop:=
 ∃u w' φ',s.run P w=.ok u w'∧VRel φ' v u∧SRel ro n0 φ' σ' w'∧Ext c c' φ φ'∧Below n0 w w'
section
variable{P:Program}{ro n0 c:Nat}{φ:Ren}{σ:Hp}{w:World}
theorem wA5.pure{s:Sem Value}{v:AV}(h:SRel ro n0 φ σ w)(k:∃u,s.run P w=.ok u w∧VRel φ v u):wA5 P ro n0 c φ w s v σ c:=
 let⟨u,h1,h2⟩:=k;⟨u,w,φ,h1,h2,h,Ext.refl _ _,Below.refl _ _⟩
theorem wSJ(h:SRel ro n0 φ σ w)(hf:φ c=none){acs:List AV}{ccs:Array Value}(e:TypeId)(hc:LRel φ acs ccs.toList){ty:Option TypeId}(hty:wA4 ty e 0){s:Sem Value}{v:AV}(hv:∀φ',φ' c=some (w.heap.size,0,ccs.size)→∃u,s.run P w=.ok u (w.alloc (.cells ccs e))∧VRel φ' v u) :
  wA5 P ro n0 c φ w s v (σ.set c (some (.cells acs ty))) (c+1):=by
 obtain⟨u,h1,h2⟩:=hv (φ.ext c (w.heap.size,0,ccs.size)) (Ren.ext_self _ _ _);exact⟨u,_,_,h1,h2,h.allocCells hf e hc hty,Ext.alloc _,(Below.refl _ _).alloc h.s _⟩
def qEG(C:Cx)(σ:Hp)(c:Nat)(t:TypeId):Option (AV×Hp×Nat):=
 match C.zero t with
 |some z=>some (.ptr c 0,σ.set c (some (.cells z.cells (some t))),c+1)
 |none=>none
theorem eAlloc_ok{C:Cx}(hC:CxOk P C)(h:SRel ro n0 φ σ w){t:TypeId}{v:AV}{σ':Hp}{c':Nat}(e:qEG C σ c t=some (v,σ',c'))(hf:vZ c c' φ) :
  wA5 P ro n0 c φ w (Instr.alloc t true (.tuple #[])) v σ' c':=by
 unfold qEG at e;cases hz:C.zero t with
 |none=>simp_all
 |some z=>
  rw[hz]at e;cases e;obtain⟨u,h1,h2,_⟩:=xY hC hz φ w;refine wSJ h (hf c (pC _) (by omega)) t h2.cells (wA4.some t) fun φ' hφ'=>?_;refine⟨.pointer (some ⟨w.heap.size,0,none⟩),?_,?_⟩
  ·simp[Instr.alloc,h1,newVar,newRow]
  ·have:=VRel.ptr (φ:=φ') (off:=0) hφ';omega
def eBox(σ:Hp)(c:Nat)(a:AV):AV×Hp×Nat:=(.ptr c 0,σ.set c (some (.cells a.cells none)),c+1)
theorem eBox_ok(h:SRel ro n0 φ σ w){t:TypeId}{a v:AV}{u:Value}{σ':Hp}{c':Nat}(e:eBox σ c a=(v,σ',c'))(hf:vZ c c' φ)(ha:VRel φ a u) :
  wA5 P ro n0 c φ w (Instr.box t u) v σ' c':=by
 unfold eBox at e;cases e;refine wSJ h (hf c (pC _) (by omega)) t ha.cells (wA4.none t 0) fun φ' hφ'=>?_;refine⟨.pointer (some ⟨w.heap.size,0,none⟩),?_,?_⟩
 ·rfl
 ·have:=VRel.ptr (φ:=φ') (off:=0) hφ';omega
def wRH(place:Nat→Option (Nat×Nat)):List AV→List (Nat×AV)→Option (List AV)
 |cs,[]=>some cs
 | cs,(i,v)::rest=>match place i with
  |none=>none
  | some (off,size)=>bif Nat.beq v.cells.length size then
    match wL2 cs off v.cells with
    |some r=>wRH place r rest
    |none=>none
   else none
inductive PRel(φ:Ren):List (Nat×AV)→List (Nat×Value)→Prop
 |nil:PRel φ [] []
 |cons {i:Nat} {a:AV} {v:Value} {as:List (Nat×AV)} {vs:List (Nat×Value)} (h:VRel φ a v) (t:PRel φ as vs):PRel φ ((i,a)::as) ((i,v)::vs)
theorem List.take_append_of_le_length_add{α:Type}(A:List α)(x:α)(D:List α):(A++x::D).take (A.length+1)=A++[x]:=by grind
theorem List.drop_append_of_length_add{α:Type}(A:List α)(x:α)(D:List α)(n:Nat):(A++x::D).drop (A.length+(n+1))=D.drop n:=by simp_all
theorem wQ4(off:Nat):∀(us:List Value)(j:Nat)(cs:Array Value),off+j+us.length≤cs.size→
  ((us.zipIdx j).foldl (fun(cs:Array Value)(x:Value×Nat)=>cs.setIfInBounds (off+x.2) x.1) cs).toList=cs.toList.take (off+j)++us++cs.toList.drop (off+j+us.length)
 |[],j,cs,_=>by simp
 | u::us,j,cs,h=>by
  simp only[List.length_cons]at h;simp only[List.zipIdx_cons,List.foldl_cons];rw[wQ4 off us (j+1) _ (by simp;omega)];have hlt:off+j<cs.toList.length:=by simp;omega
  have e1:(cs.setIfInBounds (off+j) u).toList=cs.toList.take (off+j)++u::cs.toList.drop (off+j+1):=by simp only[Array.toList_setIfInBounds];rw[pA6,if_pos hlt]
  rw[e1];have hl:(cs.toList.take (off+j)).length=off+j:=by simp at hlt ⊢;omega
  generalize hA:cs.toList.take (off+j)=A at hl ⊢;have hd:cs.toList.drop (off+j+(us.length+1))=(cs.toList.drop (off+j+1)).drop us.length:=by rw[mQ];congr 1;omega
  simp only[List.length_cons];rw[hd];generalize cs.toList.drop (off+j+1)=D;rw[show off+(j+1)=A.length+1 by omega,show A.length+1+us.length=A.length+(us.length+1) by omega]
  grind [List.take_append_of_le_length_add,List.drop_append_of_length_add]
theorem wX1{place:Nat→Option (Nat×Nat)}:∀{ps:List (Nat×AV)}{qs:List (Nat×Value)}{cs r:List AV}{ccs:Array Value},PRel φ ps qs→LRel φ cs ccs.toList→wRH place cs ps=some r→
  ∃rs:Array Value,Instr.fill place ccs qs=some rs∧LRel φ r rs.toList:=by
 intro ps
 induction ps with
 |nil=>intro qs cs r ccs hp hc e;cases hp;cases e;exact⟨ccs,rfl,hc⟩
 | cons p ps ih=>
  intro qs cs r ccs hp hc e;cases hp with
  | cons hv ht=>
   rename_i i a v vs;simp only[wRH]at e;simp only[Instr.fill];cases hpl:place i with
   |none=>simp_all
   | some os=>
    obtain⟨off,size⟩:=os;rw[hpl]at e;dsimp only at e ⊢;cases hb:Nat.beq a.cells.length size with
    |false=>simp_all
    | true=>
     rw[hb]at e;simp only[cond_true]at e;have hsz:a.cells.length=size:=by simp_all
     cases hput:wL2 cs off a.cells with
     |none=>simp_all
     |some q=>
      rw[hput]at e;dsimp only at e;obtain⟨h1,h2⟩:=hc.put hv.cells hput;have hl:=hv.cells.length;simp only[Array.length_toList]at hl h2;have hcond:(decide (v.cells.size≠size)||decide (off+v.cells.size>ccs.size))=false:=by simp;omega
      rw[hcond];simp only[Bool.false_eq_true,if_false];have hfold:=wQ4 off v.cells.toList 0 ccs (by simpa using h2);simp only[Nat.add_zero]at hfold
      grind [Array.toList_zipIdx]
def eBuild(C:Cx)(t:TypeId)(ps:List (Nat×AV)):Option AV:=
 match C.zero t with
 |none=>none
 | some z=>match C.und t with
  | some (.struct fields)=>
   match xA (fun(f:Field)=>match C.size f.type with|some n=>some (f.offset,n)|none=>none) fields.toList with
   |none=>none
   |some places=>match wRH (fun i=>places[i]?) z.cells ps with
    |some r=>some (.agg r)
    |none=>none
  | some (.array _ elem)=>match C.size elem with
   |none=>none
   |some n=>match wRH (fun i=>some (i*n,n)) z.cells ps with
    |some r=>some (.agg r)
    |none=>none
  |_=>none
theorem wI3{C:Cx}(hC:CxOk P C):∀(l:List Field)(r:List (Nat×Nat)),xA (fun(f:Field)=>match C.size f.type with|some n=>some (f.offset,n)|none=>none) l=some r→
  (l.mapM fun f=>do pure (f.offset,←sizeOf f.type):Sem (List (Nat×Nat))).run P w=.ok r w:=by
 intro l
 induction l with
 |nil=>intro r e;cases e;simp
 | cons f l ih=>
  intro r e;simp only[xA]at e;cases hs:C.size f.type with
  |none=>simp_all
  | some n=>
   rw[hs]at e;dsimp only at e;cases hm:xA (fun(f:Field)=>match C.size f.type with|some n=>some (f.offset,n)|none=>none) l with
   |none=>simp_all
   |some q=>
    rw[hm]at e;cases e;have:=ih q hm;simp only[List.mapM_cons,Sem.run_bind,wZ hC hs,Result.andThen_ok,Sem.run_pure]
    simp_all
theorem eBuild_ok{C:Cx}(hC:CxOk P C){t:TypeId}{ps:List (Nat×AV)}{v:AV}(e:eBuild C t ps=some v){qs:Array (Nat×Value)}(hp:PRel φ ps qs.toList) :
  ∃u,(Instr.build t qs).run P w=.ok u w∧VRel φ v u:=by
 unfold eBuild at e;cases hz:C.zero t with
 |none=>simp_all
 | some z=>
  rw[hz]at e;obtain⟨zc,h1,h2,_⟩:=xY (w:=w) hC hz φ;dsimp only at e;split at e
  ·rename_i fields hu;cases hm:xA (fun(f:Field)=>match C.size f.type with|some n=>some (f.offset,n)|none=>none) fields.toList with
   |none=>rw[hm]at e;cases e
   | some places=>
    rw[hm]at e;dsimp only at e;split at e
    ·rename_i r hr;cases e;obtain⟨rs,hr1,hr2⟩:=wX1 hp h2.cells hr;refine⟨.agg rs,?_,?_⟩
     ·have hpl:=wI3 (w:=w) hC _ _ hm;have hpl':(fields.mapM fun f=>do pure (f.offset,←sizeOf f.type):Sem (Array (Nat×Nat))).run P w=.ok places.toArray w:=by
       rw[←dY (xs:=fields),fR];simp only[Sem.run_map,hpl,Result.andThen_ok]
      simp only[Instr.build,Sem.run_bind,h1,Result.andThen_ok,wP hC hu,hpl']
      have:Instr.fill (places.toArray[·]?) zc.cells qs.toList=some rs:=by rw[←hr1];congr 1;funext i;simp
      rw[this];rfl
     ·have:=VRel.agg hr2;simpa using this
    ·cases e
  ·rename_i n elem hu;split at e
   ·cases e
   ·rename_i m hs;split at e
    ·rename_i r hr;cases e;obtain⟨rs,hr1,hr2⟩:=wX1 hp h2.cells hr;refine⟨.agg rs,?_,?_⟩
     ·simp only[Instr.build,Sem.run_bind,h1,Result.andThen_ok,wP hC hu,wZ hC hs,hr1,Sem.run_pure]
     ·have:=VRel.agg hr2;simpa using this
    ·cases e
  grind
def repL(n:Nat)(z:List AV):List AV:=
 match n with
 |0=>[]
 |n+1=>z++repL n z
theorem wEE(z:Array Value):∀n,((Array.range (n*z.size)).map (z[·%z.size]!)).toList=(List.replicate n z.toList).flatten:=by
 intro n;apply List.ext_getElem?;intro i;simp only[Array.toList_map,Array.toList_range,List.getElem?_map]
 induction n generalizing i with
 |zero=>simp
 | succ n ih=>
  simp only[List.replicate_succ,List.flatten_cons];by_cases hi:i<z.size
  ·rw[cD (by simpa using hi)]
   grind [Nat.succ_mul,List.getElem?_range,Nat.mod_eq_of_lt]
  ·have hge:z.toList.length≤i:=by simpa using hi
   rw[cC hge,←ih (i-z.toList.length)];simp only[Array.length_toList]at hge ⊢
   grind [Nat.succ_mul,List.getElem?_range,Nat.mod_eq_sub_mod,List.getElem?_eq_none]
theorem wUH{a:List AV}{v:List Value}(h:LRel φ a v):∀n,LRel φ (repL n a) (List.replicate n v).flatten
 |0=>.nil
 |n+1=>by simp only[repL,List.replicate_succ,List.flatten_cons];exact h.append (wUH h n)
theorem wR7(z:List AV):∀n,(repL n z).length=n*z.length
 |0=>by simp[repL]
 |n+1=>by simp only[repL,List.length_append,wR7 z n,Nat.succ_mul];omega
def wCI(C:Cx)(σ:Hp)(c:Nat)(t:TypeId)(len:Nat)(ps:List (Nat×AV)):Option (AV×Hp×Nat):=
 match C.und t with
 | some (.slice elem)=>match C.size elem with
  |none=>none
  | some size=>match C.zero elem with
   |none=>none
   | some z=>bif Nat.ble (len*size) 16777216&&Nat.beq z.cells.length size&&Nat.blt 0 size then
     match wRH (fun i=>some (i*size,size)) (repL len z.cells) ps with
     |some r=>some (.sl c 0 len len size true,σ.set c (some (.cells r none)),c+1)
     |none=>none
    else none
 |_=>none
theorem qAI(place:Nat→Option (Nat×Nat)):∀(ps:List (Nat×AV))(cs r:List AV),wRH place cs ps=some r→r.length=cs.length
 |[],cs,r,e=>by cases e;rfl
 | (i,v)::ps,cs,r,e=>by
  simp only[wRH]at e;split at e
  ·cases e
  ·rename_i off size _;cases hb:Nat.beq v.cells.length size with
   |false=>simp_all
   |true=>
    rw[hb]at e;simp only[cond_true]at e;split at e
    ·rename_i q hq;obtain⟨h1,h2⟩:=wN6 _ _ _ _ hq;rw[qAI place ps q r e,h1];simp;omega
    grind
theorem wX3{C:Cx}(hC:CxOk P C)(h:SRel ro n0 φ σ w){t:TypeId}{len:Nat}{ps:List (Nat×AV)}{v:AV}{σ':Hp}{c':Nat}(e:wCI C σ c t len ps=some (v,σ',c'))(hf:vZ c c' φ){qs:Array (Nat×Value)}(hp:PRel φ ps qs.toList):wA5 P ro n0 c φ w (Instr.buildSlice t len qs) v σ' c':=by
 unfold wCI at e;split at e
 case h_2=>cases e
 case h_1 elem hu=>
  split at e
  ·cases e
  ·rename_i size hs;split at e
   ·cases e
   ·rename_i z hz;cases hb:(Nat.ble (len*size) 16777216&&Nat.beq z.cells.length size&&Nat.blt 0 size)with
    |false=>simp_all
    | true=>
     rw[hb]at e;simp only[cond_true]at e;simp only[Bool.and_eq_true]at hb;obtain⟨⟨hb1,hb2⟩,hb3⟩:=hb;have hb1':=pI hb1;have hb2':z.cells.length=size:=by simp_all
     have hb3':0<size:=by simp_all
     split at e
     case h_2=>cases e
     case h_1 r hr=>
      cases e;obtain⟨zc,h1,h2,_⟩:=xY (w:=w) hC hz φ;have hzl:=h2.cells.length;simp only[Array.length_toList]at hzl;have hcells:LRel φ (repL len z.cells) ((Array.range (len*zc.cells.size)).map (zc.cells[·%zc.cells.size]!)).toList:=by rw[wEE];exact wUH h2.cells len
      rw[show zc.cells.size=size by omega]at hcells;obtain⟨rs,hr1,hr2⟩:=wX1 hp hcells hr;have hrl:=hr2.length;rw[qAI _ _ _ _ hr,wR7,hb2']at hrl;simp only[Array.length_toList]at hrl;refine wSJ h (hf c (pC _) (by omega)) elem hr2 (wA4.none elem 0) fun φ' hφ'=>?_;refine⟨.slice (some ⟨w.heap.size,0,none⟩) len len,?_,?_⟩
      ·have hn:¬(16777216<len*size):=by omega
       have hzs:zc.cells.size=size:=by omega
       by_cases h0:len*size=0
       ·have hrange:((Array.range (len*size)).map fun x=>zc.cells[x%size]!)=#[]:=by simp_all
        rw[hrange]at hr1;have hrz:Array.range 0=#[]:=rfl;simp[Instr.buildSlice,wP hC hu,wZ hC hs,h0,newRow,hr1,hrz]
       ·simp[Instr.buildSlice,wP hC hu,wZ hC hs,hn,h0,h1,newRow,hzs,hr1]
      ·have:=VRel.sl (φ:=φ') (off:=0) (len:=len) (cap:=len) (c:=len) (esz:=size) (ex:=true) hφ' (pC _) (pC _) (fun _=>rfl) (by omega);omega
end
section
variable{P:Program}{ro n0 c:Nat}{φ:Ren}{σ:Hp}{w:World}
theorem kT(B o n:Nat):(⟨B,o,none⟩:Addr).add n=⟨B,o+n,none⟩:=by simp_all [Addr.add]
def eLoad(C:Cx)(σ:Hp)(t:TypeId)(a:AV):Option AV:=
 match a with
 | .ptr A off=>match C.isAgg t with
  | some true=>match C.size t with
   |some n=>match jG σ A off n with
    |some cs=>some (.agg cs)
    |none=>none
   |none=>none
  |some false=>match jG σ A off 1 with
   |some (v::_)=>some v
   |_=>none
  |none=>none
 |_=>none
theorem run_load1{A B s m off:Nat}{v:AV}{cs:List AV}(h:SRel ro n0 φ σ w)(e:jG σ A off 1=some (v::cs))(hφ:φ A=some (B,s,m)) :
  ∃u,w.cell? ⟨B,s+off,none⟩=some u∧VRel φ v u:=by
 obtain⟨B',s',m',us,hφ',hr,hl,hc⟩:=qH0 h e;rw[hφ]at hφ';cases hφ';cases hr with
 |cons hv ht=>
  rename_i u us';have:=hc 0 u rfl
  simp_all
theorem qJ6{C:Cx}(hC:CxOk P C)(h:SRel ro n0 φ σ w){t:TypeId}{a v:AV}(e:eLoad C σ t a=some v){u:Value}(ha:VRel φ a u) :
  ∃r,(Instr.loadAt t u).run P w=.ok r w∧VRel φ v r:=by
 unfold eLoad at e;split at e
 case h_2=>cases e
 case h_1 A off=>
  cases ha with
  | ptr hφ=>
   rename_i B s m;split at e
   ·rename_i hg;split at e
    ·rename_i n hs;split at e
     ·rename_i cs hr;cases e;obtain⟨us,h1,h2,h3,_⟩:=qCF (P:=P) h hr hφ;refine⟨.agg us.toArray,?_,.agg h2⟩;simp[Instr.loadAt,Instr.sureAddr,loadVar,kB hC hg,wZ hC hs,h1]
     ·cases e
    ·cases e
   ·rename_i hg;split at e
    ·rename_i v' cs hr;cases e;obtain⟨u,h1,h2⟩:=run_load1 h hr hφ;refine⟨u,?_,h2⟩;simp[Instr.loadAt,Instr.sureAddr,loadVar,kB hC hg,h1]
    ·cases e
   grind
def wIB(C:Cx)(ro:Nat)(σ:Hp)(t:TypeId)(a v:AV):Option Hp:=
 match a with
 |.ptr A off=>match C.size t with
  |some n=>bif Nat.beq v.cells.length n then wA8 ro σ A off v.cells else none
  |none=>none
 |_=>none
theorem wWH{C:Cx}(hC:CxOk P C)(h:SRel ro n0 φ σ w){t:TypeId}{a v:AV}{σ':Hp}(e:wIB C ro σ t a v=some σ'){u x:Value}(ha:VRel φ a u)(hv:VRel φ v x) :
  ∃w',(Instr.storeAt t u x).run P w=.ok () w'∧SRel ro n0 φ σ' w'∧Below n0 w w'∧∀A off B s m,a=.ptr A off→φ A=some (B,s,m)→∀k,k≠B→w'.heap[k]? = w.heap[k]?:=by
 unfold wIB at e;split at e
 case h_2=>cases e
 case h_1 A off=>
  cases ha with
  | ptr hφ=>
   rename_i B s m;split at e
   ·rename_i n hs;cases hb:Nat.beq v.cells.length n with
    |false=>rw[hb]at e;cases e
    |true=>
     rw[hb]at e;simp only[cond_true]at e;have hl:v.cells.length=n:=by simpa using hb
     obtain⟨w',h1,h2,h3,h4⟩:=run_wrF (P:=P) h hv.cells e hφ;have hc:=hv.cells.length;simp only[Array.length_toList]at hc;have hn:x.cells.size=n:=by omega
     refine⟨w',?_,h2,h3,fun A' off' B' s' m' hA hφ'=>by cases hA;rw[hφ]at hφ';cases hφ';exact h4⟩;simp[Instr.storeAt,Instr.sureAddr,storeVar,wZ hC hs,hn,h1]
   grind
theorem eStore_ok{C:Cx}(hC:CxOk P C)(h:SRel ro n0 φ σ w){t:TypeId}{a v:AV}{σ':Hp}(e:wIB C ro σ t a v=some σ'){u x:Value}(ha:VRel φ a u)(hv:VRel φ v x) :
  ∃w',(Instr.storeAt t u x).run P w=.ok () w'∧SRel ro n0 φ σ' w'∧Below n0 w w':=by
 grind [wWH]
def ePart(C:Cx)(t:TypeId)(cs:List AV)(off:Nat):Option AV:=
 match C.isAgg t with
 | some true=>match C.size t with
  |some n=>match lsub cs off n with
   |some r=>some (.agg r)
   |none=>none
  |none=>none
 |some false=>cs[off]?
 |none=>none
theorem qJ4{C:Cx}(hC:CxOk P C){t:TypeId}{cs:List AV}{off:Nat}{v:AV}(e:ePart C t cs off=some v){ccs:Array Value}(hc:LRel φ cs ccs.toList) :
  ∃u,(part t ccs off).run P w=.ok u w∧VRel φ v u:=by
 unfold ePart at e;split at e
 ·rename_i hg;split at e
  ·rename_i n hs;split at e
   ·rename_i r hr;cases e;obtain⟨h1,h2,h3⟩:=wFG hr;refine⟨.agg (ccs.extract off (off+n)),?_,?_⟩
    ·simp[part,kB hC hg,wZ hC hs]
    ·have:=VRel.agg ((hc.drop off).take n);rw[←h1]at this;have he:((ccs.toList.drop off).take n).toArray=ccs.extract off (off+n):=by
      apply bU;simp[List.take_drop]
     rw[he]at this;exact this
   ·cases e
  ·cases e
 ·rename_i hg;obtain⟨u,hu,hr⟩:=hc.get off v e;refine⟨u,?_,hr⟩
  have:ccs[off]? = some u:=by simpa using hu
  simp[part,kB hC hg,this]
 grind
def eField(C:Cx)(t:TypeId)(a:AV)(f:Nat):Option AV:=
 match C.und t,a with
 |some (.struct fields),.agg cs=>match fields[f]? with
  |some fd=>ePart C fd.type cs fd.offset
  |none=>none
 |_,_=>none
theorem eField_ok{C:Cx}(hC:CxOk P C){t:TypeId}{a v:AV}{f:Nat}(e:eField C t a f=some v){u:Value}(ha:VRel φ a u) :
  ∃r,(Instr.field t u f).run P w=.ok r w∧VRel φ v r:=by
 unfold eField at e;split at e
 case h_2=>cases e
 case h_1 fields cs hu=>
  cases ha with
  |agg hc=>
   rename_i vs;split at e
   ·rename_i fd hfd;obtain⟨r,h1,h2⟩:=qJ4 (w:=w) hC e (ccs:=vs.toArray) (by simpa using hc);refine⟨r,?_,h2⟩;simp[Instr.field,wP hC hu,hfd,asAgg,h1]
   grind
def wLI(C:Cx)(t:TypeId)(a:AV)(f:Nat):Option AV:=
 match C.und t,a with
 | some (.struct fields),.ptr A off=>match fields[f]? with
  |some fd=>match C.size fd.type with
   |some (_+1)=>some (.ptr A (off+fd.offset))
   |_=>none
  |none=>none
 |_,_=>none
theorem wZ4{C:Cx}(hC:CxOk P C){t:TypeId}{a v:AV}{f:Nat}(e:wLI C t a f=some v){u:Value}(ha:VRel φ a u) :
  ∃r,(Instr.fieldAt t u f).run P w=.ok r w∧VRel φ v r:=by
 unfold wLI at e;split at e
 case h_2=>cases e
 case h_1 fields A off hu=>
  cases ha with
  | ptr hφ=>
   rename_i B s m;split at e
   ·rename_i fd hfd;split at e
    ·rename_i n hs;cases e;refine⟨.pointer (some ⟨B,s+(off+fd.offset),none⟩),?_,.ptr hφ⟩;simp[Instr.fieldAt,wP hC hu,hfd,Instr.sureAddr,fieldPlace,wZ hC hs,kT,Nat.add_assoc]
    ·cases e
   grind
def eIndex(C:Cx)(t:TypeId)(a i:AV):Option AV:=
 match C.und t,a,i with
 |some (.array len elem),.agg cs,.int _ (.ofNat n)=>match C.size elem with
  |some sz=>bif Nat.blt n len then ePart C elem cs (n*sz)else none
  |none=>none
 |some .string,.str s,.int _ (.ofNat n)=>match s[n]? with
  |some b=>some (.int .u8 (.ofNat b.toNat))
  |none=>none
 |_,_,_=>none
theorem eIndex_ok{C:Cx}(hC:CxOk P C){t:TypeId}{a i v:AV}(e:eIndex C t a i=some v){u x:Value}(ha:VRel φ a u)(hi:VRel φ i x) :
  ∃r,(Instr.index t u x).run P w=.ok r w∧VRel φ v r:=by
 unfold eIndex at e;split at e
 case h_3=>cases e
 case h_1 len elem cs k n hu=>
  cases hi;cases ha with
  | agg hc=>
   rename_i vs;split at e
   ·rename_i sz hs;cases hb:Nat.blt n len with
    |false=>rw[hb]at e;cases e
    |true=>
     rw[hb]at e;simp only[cond_true]at e;have hlt:n<len:=by simpa using hb
     obtain⟨r,h1,h2⟩:=qJ4 (w:=w) hC e (ccs:=vs.toArray) (by simpa using hc);refine⟨r,?_,h2⟩;simp[Instr.index,asIntOf,wP hC hu,hlt,wZ hC hs,h1]
   grind
 case h_2 s k n hu=>
  cases hi;cases ha;split at e
  ·rename_i b hb;cases e;refine⟨.int .u8 b.toNat,?_,.int _ _⟩;simp[Instr.index,asIntOf,wP hC hu,hb]
  grind
def wLH(C:Cx)(t:TypeId)(a i:AV):Option AV:=
 match C.und t,a,i with
 |some (.slice elem),.sl A off len _ _ _,.int _ (.ofNat n)=>match C.size elem with
  |some sz=>bif Nat.blt n len then some (.ptr A (off+n*sz))else none
  |none=>none
 |some (.array len elem),.ptr A off,.int _ (.ofNat n)=>match C.size elem with
  |some sz=>bif Nat.blt n len then some (.ptr A (off+n*sz))else none
  |none=>none
 |_,_,_=>none
theorem wZ3{C:Cx}(hC:CxOk P C){t:TypeId}{a i v:AV}(e:wLH C t a i=some v){u x:Value}(ha:VRel φ a u)(hi:VRel φ i x) :
  ∃r,(Instr.indexAt t u x).run P w=.ok r w∧VRel φ v r:=by
 unfold wLH at e;split at e
 case h_3=>cases e
 case h_1 elem A off len cap esz ex k n hu=>
  cases hi;cases ha with
  | sl hφ h1 h2 h3 h4=>
   rename_i B s m cc;split at e
   ·rename_i sz hs;cases hb:Nat.blt n len with
    |false=>rw[hb]at e;cases e
    |true=>
     rw[hb]at e;cases e;have hlt:n<len:=by simpa using hb
     refine⟨.pointer (some ⟨B,s+(off+n*sz),none⟩),?_,.ptr hφ⟩;simp[Instr.indexAt,asIntOf,wP hC hu,hlt,wZ hC hs,kT,Nat.add_assoc]
   grind
 case h_2 len elem A off k n hu=>
  cases hi;cases ha with
  | ptr hφ=>
   rename_i B s m;split at e
   ·rename_i sz hs;cases hb:Nat.blt n len with
    |false=>rw[hb]at e;cases e
    |true=>
     rw[hb]at e;cases e;have hlt:n<len:=by simpa using hb
     refine⟨.pointer (some ⟨B,s+(off+n*sz),none⟩),?_,.ptr hφ⟩;simp[Instr.indexAt,asIntOf,wP hC hu,hlt,wZ hC hs,kT,Nat.add_assoc,Instr.sureAddr]
   grind
def bound(x:Option AV):Option (Option Nat):=
 match x with
 |none=>some none
 |some (.int _ (.ofNat n))=>some (some n)
 |_=>none
inductive ORel(φ:Ren):Option AV→Option Value→Prop
 |none:ORel φ none none
 |some {a:AV} {v:Value} (h:VRel φ a v):ORel φ (some a) (some v)
def intV(x:Option Nat)(v:Option Value):Prop:=match x with
 |none=>v=none
 |some n=>∃k,v=some (.int k n)
theorem wXF{x:Option AV}{y:Option Value}{b:Option Nat}(h:ORel φ x y)(e:bound x=some b):intV b y:=by
 unfold bound at e;split at e
 ·cases h;cases e;rfl
 ·rename_i k n;cases h with
  |some h=>cases h;cases e;exact⟨k,rfl⟩
 grind
def yD(len cap:Nat)(lo hi mx:Option Nat):Option (Nat×Nat×Nat):=
 match mx,hi with
 |some _,none=>none
 |mx,hi=>
  let m:=mx.getD cap;let h:=hi.getD len;let l:=lo.getD 0
  bif Nat.ble m cap&&Nat.ble h m&&Nat.ble l h then some (l,h,m)else none
theorem yK{len cap cc:Nat}{lo hi mx:Option Nat}{l h m:Nat}(e:yD len cap lo hi mx=some (l,h,m))(hcap:cap≤cc){vl vh vm:Option Value}(hl:intV lo vl)(hh:intV hi vh)(hm:intV mx vm) :
  (Instr.sliceBounds true len cc vl vh vm).run P w=.ok (l,h,if mx.isSome then m else cc) w∧l≤h∧h≤m∧m≤cap∧(mx=none→m=cap):=by
 have hsb:∀(k:IntKind)(n y:Nat)(code:BoundsCode),n≤y→(Instr.sliceBound (.int k n) y code).run P w=.ok n w:=by simp_all [run_sliceBound]
 unfold yD at e;split at e
 ·cases e
 ·rename_i mx' hi' hne;dsimp only at e;cases hb:(Nat.ble (mx.getD cap) cap&&Nat.ble (hi.getD len) (mx.getD cap)&&Nat.ble (lo.getD 0) (hi.getD len))with
  |false=>simp_all
  | true=>
   rw[hb]at e;cases e;simp only[Bool.and_eq_true]at hb;obtain⟨⟨h1,h2⟩,h3⟩:=hb;have h1:=pI h1;have h2:=pI h2;have h3:=pI h3;refine⟨?_,h3,h2,h1,fun hx=>by simp_all⟩;cases mx with
   | none=>
    simp only[Option.getD_none]at h1 h2;cases hm;cases hi with
    | none=>
     cases hh;cases lo with
     |none=>cases hl;rfl
     |some l=>
      obtain⟨k,rfl⟩:=hl
      simp_all [Option.getD_some,Option.getD_none,Instr.sliceBounds]
    | some hv=>
     obtain⟨k,rfl⟩:=hh;simp only[Option.getD_some]at h2 h3;cases lo with
     |none=>cases hl;simp[Instr.sliceBounds,hsb _ _ _ _ (Nat.le_trans h2 hcap)]
     |some l=>obtain⟨k',rfl⟩:=hl;simp only[Option.getD_some]at h3;simp[Instr.sliceBounds,hsb _ _ _ _ (Nat.le_trans h2 hcap),hsb _ _ _ _ h3]
   | some mv=>
    obtain⟨km,rfl⟩:=hm;simp only[Option.getD_some]at h1 h2;cases hi with
    |none=>simp_all
    | some hv=>
     obtain⟨k,rfl⟩:=hh;simp only[Option.getD_some]at h2 h3;cases lo with
     |none=>cases hl;simp[Instr.sliceBounds,hsb _ _ _ _ (Nat.le_trans h1 hcap),hsb _ _ _ _ h2]
     |some l=>obtain⟨k',rfl⟩:=hl;simp only[Option.getD_some]at h3;simp[Instr.sliceBounds,hsb _ _ _ _ (Nat.le_trans h1 hcap),hsb _ _ _ _ h2,hsb _ _ _ _ h3]
def eSlice(C:Cx)(t:TypeId)(x:AV)(lo hi mx:Option Nat):Option AV:=
 match C.und t,x with
 | some (.slice elem),.sl A off len cap esz ex=>
  match C.size elem with
  |none=>none
  | some sz=>bif Nat.beq sz esz then
    match yD len cap lo hi mx with
    |none=>none
    | some (l,h,m)=>
     bif ex||mx.isSome then
      bif Nat.beq l m then some (.sl A off (h-l) 0 esz true)else some (.sl A (off+l*esz) (h-l) (m-l) esz true)
     else
      bif Nat.blt l m then some (.sl A (off+l*esz) (h-l) (m-l) esz false)
      else bif Nat.beq l 0 then some (.sl A off 0 0 esz false)else some .sle
   else none
 | some (.slice elem),.nils=>match C.size elem with
  |none=>none
  |some _=>match yD 0 0 lo hi mx with
   |some _=>some .nils
   |none=>none
 | some .string,.str s=>match mx with
  |some _=>none
  |none=>match yD s.size s.size lo hi none with
   |some (l,h,_)=>some (.str (s.extract l h))
   |none=>none
 |_,_=>none
theorem qGF{len:Nat}{lo hi:Option Nat}{l h m:Nat}(e:yD len len lo hi none=some (l,h,m)){vl vh:Option Value}(hl:intV lo vl)(hh:intV hi vh) :
  (Instr.sliceBounds false len len vl vh none).run P w=.ok (l,h,len) w:=by
 have hsb:∀(k:IntKind)(n y:Nat)(code:BoundsCode),n≤y→(Instr.sliceBound (.int k n) y code).run P w=.ok n w:=by simp_all [run_sliceBound]
 unfold yD at e;simp only[Option.getD_none]at e;cases hb:(Nat.ble len len&&Nat.ble (hi.getD len) len&&Nat.ble (lo.getD 0) (hi.getD len))with
 |false=>simp_all
 | true=>
  rw[hb]at e;cases e;simp only[Bool.and_eq_true]at hb;obtain⟨⟨h1,h2⟩,h3⟩:=hb;have h2:=pI h2;have h3:=pI h3;cases hi with
  | none=>
   cases hh;cases lo with
   |none=>cases hl;rfl
   |some l=>
    obtain⟨k,rfl⟩:=hl
    simp_all [Option.getD_some,Option.getD_none,Instr.sliceBounds]
  | some hv=>
   obtain⟨k,rfl⟩:=hh;simp only[Option.getD_some]at h2 h3;cases lo with
   |none=>cases hl;simp_all [Instr.sliceBounds]
   |some l=>
    obtain⟨k',rfl⟩:=hl
    simp_all [Option.getD_some,Instr.sliceBounds]
theorem eSlice_ok{C:Cx}(hC:CxOk P C){t:TypeId}{x v:AV}{lo hi mx:Option Nat}(e:eSlice C t x lo hi mx=some v){u:Value}(hx:VRel φ x u){vl vh vm:Option Value}(hl:intV lo vl)(hh:intV hi vh)(hm:intV mx vm) :
  ∃r,(Instr.sliceAt t u vl vh vm).run P w=.ok r w∧VRel φ v r:=by
 unfold eSlice at e;split at e
 case h_4=>cases e
 case h_1 elem A off len cap esz ex hu=>
  cases hx with
  | sl hφ h1 h2 h3 h4=>
   rename_i B s m cc;split at e
   ·cases e
   ·rename_i sz hs;cases hb:Nat.beq sz esz with
    |false=>simp_all
    | true=>
     rw[hb]at e;simp only[cond_true]at e;have hsz:sz=esz:=by simp_all
     subst hsz;split at e
     ·cases e
     ·rename_i l h' m' hb3;obtain⟨hr,hlh,hhm,hmc,hmn⟩:=yK (P:=P) (w:=w) hb3 h2 hl hh hm;have hrun:∀mm,(if mx.isSome=true then m' else cc)=mm→(Instr.sliceAt t (.slice (some ⟨B,s+off,none⟩) len cc) vl vh vm).run P w =
        .ok (.slice (some (if mm=l then⟨B,s+off,none⟩else⟨B,s+off+l*sz,none⟩)) (h' - l) (mm-l)) w:=by
       intro mm hmm;rw[hmm]at hr;have hs':(if mm=l then(some ⟨B,s+off,none⟩:Option Addr)else Option.map (fun(x:Addr)=>x.add (l*sz)) (some (⟨B,s+off,none⟩:Addr)))=some (if mm=l then⟨B,s+off,none⟩else⟨B,s+off+l*sz,none⟩):=by grind [kT]
       simp only[Instr.sliceAt,Sem.run_bind,wP hC hu,Result.andThen_ok,Instr.slice,hr,wZ hC hs,Sem.run_pure,hs']
      cases hex:(ex||mx.isSome)with
      | true=>
       rw[hex]at e;simp only[cond_true]at e;have hmm:(if mx.isSome=true then m' else cc)=m':=by
        cases hmx:mx with
        |some q=>rfl
        |none=>simp_all
       refine⟨_,hrun m' hmm,?_⟩;cases hlm:Nat.beq l m' with
       |true=>
        rw[hlm]at e;cases e;have hlm':l=m':=by simp_all
        rw[if_pos hlm'.symm,show m' - l=0 by omega];exact .sl hφ (by omega) (by omega) (fun _=>rfl) (by omega)
       |false=>
        rw[hlm]at e;cases e;have hlm':¬m'=l:=by intro hh;simp_all
        rw[if_neg hlm',cA];refine .sl hφ (by omega) (by omega) (fun _=>rfl) ?_
        have:l*sz+(m' - l)*sz=m'*sz:=by rw[←mY];grind
        have:m'*sz≤cc*sz:=mM _ (by omega)
        omega
      | false=>
       rw[hex]at e;simp only[cond_false]at e;simp only[Bool.or_eq_false_iff]at hex;have hmm:(if mx.isSome=true then m' else cc)=cc:=by simp_all
       have hmx:mx=none:=by simp_all
       have hmcap:=hmn hmx;refine⟨_,hrun cc hmm,?_⟩;cases hlm:Nat.blt l m' with
       |true=>
        rw[hlm]at e;cases e;have hlm':l<m':=by simp_all
        rw[if_neg (by omega),cA];refine .sl hφ (by omega) (by omega) (fun hh=>by cases hh) ?_
        have:l*sz+(cc-l)*sz=cc*sz:=by rw[←mY];grind
        omega
       | false=>
        rw[hlm]at e;simp only[cond_false]at e;have hlm':¬l<m':=by intro hh;have:Nat.blt l m'=true:=(by simpa using hh);simp_all
        have hl0:h' - l=0:=by omega
        rw[hl0];cases hz:Nat.beq l 0 with
        |true=>
         rw[hz]at e;cases e;have hz':l=0:=by simp_all
         subst hz';simp only[Nat.zero_mul,Nat.add_zero,ite_self,Nat.sub_zero];exact .sl hφ (by omega) (by omega) (fun hh=>by cases hh) (by omega)
        |false=>
         rw[hz]at e;cases e;split
         ·exact .sle _ _ _
         ·exact .sle _ _ _
 case h_2 elem hu=>
  cases hx;split at e
  ·cases e
  ·rename_i sz hs;split at e
   case h_2=>cases e
   case h_1 q hb3=>
    obtain⟨l,h',m'⟩:=q;cases e;obtain⟨hr,hlh,hhm,hmc,hmn⟩:=yK (P:=P) (w:=w) hb3 (pC 0) hl hh hm;have hl0:l=0:=by omega
    have hh0:h'=0:=by omega
    have hm0:m'=0:=by omega
    subst hl0;subst hh0;subst hm0;simp only[ite_self]at hr;refine⟨.slice none 0 0,?_,.nils⟩;simp[Instr.sliceAt,Instr.slice,wP hC hu,hr,wZ hC hs]
 case h_3 s hu=>
  cases hx;split at e
  ·cases e
  ·cases hm;split at e
   case h_2=>cases e
   case h_1 l h' m' hb3=>cases e;have hr:=qGF (P:=P) (w:=w) hb3 hl hh;refine⟨.string (s.extract l h'),?_,.str _⟩;simp[Instr.sliceAt,wP hC hu,Instr.slice,hr]
end
section
variable{P:Program}{ro n0 c:Nat}{φ:Ren}{σ:Hp}{w:World}
def eMake(C:Cx)(σ:Hp)(c:Nat)(t:TypeId)(l m:AV):Option (AV×Hp×Nat):=
 match C.und t,l,m with
 | some (.slice elem),.int _ (.ofNat l),.int _ (.ofNat m)=>
  match C.tys.get elem with
  |none=>none
  | some i=>match C.zero elem with
   |none=>none
   | some z=>bif Nat.ble l m&&Nat.ble (i.bytes*m) 281474976710656&&Nat.ble m 1099511627776&&Nat.beq z.cells.length i.size&&Nat.blt 0 i.size then
     some (.sl c 0 l m i.size true,σ.set c (some (.cells (repL m z.cells) none)),c+1)
    else none
 |_,_,_=>none
theorem eMake_ok{C:Cx}(hC:CxOk P C)(h:SRel ro n0 φ σ w){t:TypeId}{l m v:AV}{σ':Hp}{c':Nat}(e:eMake C σ c t l m=some (v,σ',c'))(hf:vZ c c' φ){x y:Value}(hx:VRel φ l x)(hy:VRel φ m y) :
  wA5 P ro n0 c φ w (Instr.makeSlice t x y) v σ' c':=by
 unfold eMake at e;split at e
 case h_2=>cases e
 case h_1 elem k l k' m hu=>
  cases hx;cases hy;split at e
  ·cases e
  ·rename_i i hi;split at e
   ·cases e
   ·rename_i z hz;cases hb:(Nat.ble l m&&Nat.ble (i.bytes*m) 281474976710656&&Nat.ble m 1099511627776&&Nat.beq z.cells.length i.size&&Nat.blt 0 i.size)with
    |false=>simp_all
    | true=>
     rw[hb]at e;cases e;simp only[Bool.and_eq_true]at hb;obtain⟨⟨⟨⟨h1,h2⟩,h3⟩,h4⟩,h5⟩:=hb;have h1:=pI h1;have h2:=pI h2;have h3:=pI h3;have h4:z.cells.length=i.size:=by simpa using h4
     have h5:0<i.size:=by simpa using h5
     obtain⟨zc,hz1,hz2,i',hi1,hi2,hi3⟩:=xY (w:=w) hC hz φ;rw[hi]at hi1;cases hi1;have hzl:=hz2.cells.length;simp only[Array.length_toList]at hzl;have hzs:zc.cells.size=i.size:=by omega
     have hcells:LRel φ (repL m z.cells) (madeCells zc.cells (m*i.size)).toList:=by unfold madeCells;rw[←hzs,wEE];exact wUH hz2.cells m
     have hb':(i.bytes:Int)*(m:Int)≤281474976710656:=by
      have:((i.bytes*m:Nat):Int)≤281474976710656:=by omega
      rwa [dT]at this
     have hrun:=run_make (P:=P) w t elem i zc (hC.und hu) hi2 hi3 k k' l m (by omega) (by omega) hb' (by omega);simp only[Int.toNat_natCast]at hrun;refine wSJ h (hf c (pC _) (by omega)) elem hcells (wA4.none elem 0) fun φ' hφ'=>?_;refine⟨.slice (some ⟨w.heap.size,0,none⟩) l m,hrun,?_⟩;have:=VRel.sl (φ:=φ') (off:=0) (len:=l) (cap:=m) (c:=m) (esz:=i.size) (ex:=true) hφ' h1 (pC _) (fun _=>rfl) (by rw[size_madeCells];omega);omega
def qF4(s:ByteArray):List AV:=s.data.toList.map fun b=>.int .u8 (.ofNat b.toNat)
def wLG:AV→Option Nat
 |.sl _ _ n _ _ _=>some n
 |.nils=>some 0
 |.sle=>some 0
 |.str s=>some s.size
 |_=>none
def wWJ(σ:Hp)(size n:Nat):AV→Option (List AV)
 |.sl A off _ _ _ _=>jG σ A off (n*size)
 |.nils=>bif Nat.beq n 0 then some []else none
 |.sle=>bif Nat.beq n 0 then some []else none
 |.str s=>bif Nat.beq size 1 then takeX n (qF4 s)else none
 |_=>none
theorem wQ9{a:AV}{n:Nat}(e:wLG a=some n){u:Value}(ha:VRel φ a u):(Builtin.lenOf u).run P w=.ok n w:=by unfold wLG at e;split at e<;>first|(cases e;done)|(cases ha;cases e;rfl)
theorem bytes_rel(s:ByteArray):LRel φ (qF4 s) (s.data.map fun b=>Value.int .u8 b.toNat).toList:=by
 unfold qF4;rw[Array.toList_map]
 induction s.data.toList with
 |nil=>exact .nil
 |cons b bs ih=>exact .cons (.int _ _) ih
theorem wB0(h:SRel ro n0 φ σ w){size n:Nat}{a:AV}{r:List AV}(e:wWJ σ size n a=some r){u:Value}(ha:VRel φ a u) :
  ∃us:List Value,(Builtin.firstCells size n u).run P w=.ok us.toArray w∧LRel φ r us:=by
 unfold wWJ at e;split at e
 ·cases ha with
  |sl hφ h1 h2 h3 h4=>obtain⟨us,hr,hl,_,_⟩:=qCF (P:=P) h e hφ;exact⟨us,by simpa[Builtin.firstCells]using hr,hl⟩
 ·cases ha;cases hb:Nat.beq n 0 with
  |false=>rw[hb]at e;cases e
  |true=>rw[hb]at e;cases e;exact⟨[],by simp[Builtin.firstCells],.nil⟩
 ·cases ha;cases hb:Nat.beq n 0 with
  |false=>rw[hb]at e;cases e
  |true=>
   rw[hb]at e;cases e;have hn:n=0:=by simpa using hb
   subst hn;exact⟨[],by simp[Builtin.firstCells,loadCells,loadCellsFrom],.nil⟩
 ·cases ha;rename_i s;cases hb:Nat.beq size 1 with
  |false=>rw[hb]at e;cases e
  | true=>
   rw[hb]at e;simp only[cond_true]at e;obtain⟨h1,h2⟩:=wU4 _ _ _ e;subst h1;refine⟨((s.data.map fun b=>Value.int .u8 b.toNat).toList).take n,?_,(bytes_rel s).take n⟩;have he:(Array.map (fun b=>Value.int IntKind.u8 ↑b.toNat) (s.extract 0 n).data)=(List.take n (Array.map (fun b=>Value.int IntKind.u8 ↑b.toNat) s.data).toList).toArray:=by apply bU;simp[ByteArray.data_extract]
   simp only[Builtin.firstCells,Sem.run_pure,he]
 grind
theorem SRel.regrow(h:SRel ro n0 φ σ w){A B s m:Nat}(hA:φ A=some (B,s,m))(hro:ro≤A)(hsome:(σ.get A).isSome=true)(hc:φ c=none){ccs:Array Value}{ety:TypeId}(hh:w.heap[B]? = some (.cells ccs ety (0,0)))(hm:ccs.size=m){o:Nat}{old new:List AV}{us:List Value}(hold:LRel φ old ((ccs.toList.drop o).take old.length))(hnew:LRel φ new us)(hfit:o+old.length+us.length≤ccs.size){ty:Option TypeId}(hty:wA4 ty ety o) :
  SRel ro n0 (φ.ext c (B,o,m)) ((σ.set A none).set c (some (.cells (old++new) ty))) (w.setRow B (ccs.toList.take (o+old.length)++us++ccs.toList.drop (o+old.length+us.length)).toArray) ∧
  Below n0 w (w.setRow B (ccs.toList.take (o+old.length)++us++ccs.toList.drop (o+old.length+us.length)).toArray):=by
 obtain⟨row,hrow⟩:∃row,(ccs.toList.take (o+old.length)++us++ccs.toList.drop (o+old.length+us.length)).toArray=row:=⟨_,rfl⟩
 have hcA:c≠A:=fun hh=>by simp_all
 have hB:B<w.heap.size:=h.lt hsome hA;have hrl:row.size=ccs.size:=by grind
 have hn0:n0≤B:=h.o A _ hro hsome hA;rw[hrow];have hle:=Ren.le_ext (B,o,m) hc;refine⟨⟨?_,?_,?_,?_⟩,below_setRow (Below.refl _ _) hn0 _⟩
 ·intro D b e;rw[Tree.get_set]at e;by_cases hD:D=c
  ·subst hD;rw[if_pos rfl]at e;cases e;refine⟨_,Ren.ext_self _ _ _,row,ety,setRow_heap w B ccs _ ety _ hh,hty,by simp_all,?_,?_⟩
   ·have:=hnew.length
    grind
   ·have hl:=hnew.length
    have:(row.toList.drop o).take (old++new).length=(ccs.toList.drop o).take old.length++us:=by
     rw[←hrow];simp only[List.append_assoc];rw[fI (by simp;omega),fJ,bM,pX]
     grind
    show LRel _ (old++new) ((row.toList.drop o).take (old++new).length);rw[this];exact(hold.append hnew).mono hle
  ·rw[if_neg hD,Tree.get_set]at e;by_cases hDA:D=A
   ·simp_all
   ·rw[if_neg hDA]at e;obtain⟨y,hy,hr⟩:=h.h D b e;refine⟨y,hle _ _ hy,hr.mono hle (setRow_other w B y.1 _ ?_)⟩;exact fun heq=>h.d A D _ y hro (dI hDA) hsome (by grind) hA hy heq.symm
 ·intro D x hr hs hx;rw[Tree.get_set]at hs;by_cases hD:D=c
  ·grind [Ren.ext_self]
  ·rw[if_neg hD,Tree.get_set]at hs;rw[Ren.ext_other _ _ hD]at hx;by_cases hDA:D=A
   ·simp_all
   ·rw[if_neg hDA]at hs;exact h.o D x hr hs hx
 ·intro D D' x x' hr hne hs hs' hx hx';have get':∀E,E≠c→(((σ.set A none).set c (some (.cells (old++new) ty))).get E).isSome=true→E≠A∧(σ.get E).isSome=true:=by
   intro E hE hsE;rw[Tree.get_set,if_neg hE,Tree.get_set]at hsE
   grind
  by_cases hD:D=c
  ·subst hD;rw[Ren.ext_self]at hx;cases hx;obtain⟨h1,h2⟩:=get' D' (dI hne) hs';rw[Ren.ext_other _ _ (dI hne)]at hx';exact h.d A D' (B,s,m) x' hro (dI h1) hsome h2 hA hx'
  ·obtain⟨h1,h2⟩:=get' D hD hs;rw[Ren.ext_other _ _ hD]at hx;by_cases hD':D'=c
   ·subst hD';rw[Ren.ext_self]at hx';cases hx';exact h.d D A x (B,s,m) hr h1 h2 hsome hx hA
   ·obtain⟨h3,h4⟩:=get' D' hD' hs';rw[Ren.ext_other _ _ hD']at hx';exact h.d D D' x x' hr hne h2 h4 hx hx'
 ·have:=h.s;simp;omega
theorem rd_len{A off n:Nat}{r:List AV}(e:jG σ A off n=some r):r.length=n:=by
 unfold jG at e;split at e
 ·exact(wFG e).2.1
 grind
def tyAt(σ:Hp)(A off:Nat)(elem:TypeId):Option TypeId:=
 match σ.get A with
 |some (.cells _ (some t))=>bif Nat.beq t elem&&Nat.beq off 0 then some elem else none
 |_=>none
theorem tyAt_elem(σ:Hp)(A off:Nat)(elem:TypeId):wA4 (tyAt σ A off elem) elem 0:=by grind [tyAt,Nat.beq,wA4.some,wA4.none]
theorem tyAt_is{σ:Hp}{A s:Nat}{cs:List AV}{ty:Option TypeId}{ety:TypeId}(h:σ.get A=some (.cells cs ty))(k:wA4 ty ety s)(off:Nat)(elem:TypeId):wA4 (tyAt σ A off elem) ety (s+off):=by
 unfold tyAt;rw[h];cases ty with
 |none=>exact wA4.none _ _
 | some t=>
  obtain⟨ht,hs⟩:=k t rfl;dsimp only;cases hb:Nat.beq t elem&&Nat.beq off 0 with
  |true=>simp_all
  |false=>exact wA4.none _ _
theorem rd_seg(h:SRel ro n0 φ σ w){A off n B s m:Nat}{r:List AV}(e:jG σ A off n=some r)(hφ:φ A=some (B,s,m)) :
  ∃ccs ety,w.heap[B]? = some (.cells ccs ety (0,0))∧ccs.size=m∧LRel φ r ((ccs.toList.drop (s+off)).take r.length)∧(σ.get A).isSome=true∧(∀elem,wA4 (tyAt σ A off elem) ety (s+off)):=by
 unfold jG at e;split at e
 case h_2=>cases e
 case h_1 cs ty hA=>
  obtain⟨x,hφ',ccs,ety,hh,hty,hsz,hle,hc⟩:=h.h A _ hA;rw[hφ]at hφ';cases hφ';dsimp only at hh hsz hle hc;obtain⟨h1,h2,h3⟩:=wFG e;refine⟨ccs,ety,hh,hsz,?_,by simp_all,fun elem=>tyAt_is hA hty off elem⟩;rw[h2,h1];rcases h3 with h3|h3
  ·have:=(hc.drop off).take n
   simp_all [List.drop_take,List.drop_drop,List.take_take,Nat.min_eq_left]
  ·subst h3;simp;exact .nil
def fitsIn(σ:Hp)(A n:Nat):Bool:=
 match σ.get A with
 |some (.cells cs _)=>Nat.ble n cs.length
 |_=>false
def wOA(C:Cx)(ro:Nat)(σ:Hp)(c:Nat)(ts:List TypeId)(s x:AV):Option (AV×Hp×Nat):=
 match ts with
 | t :: u :: _=>
  match C.und t,C.und u with
  |some (.slice _),some (.int _)=>none
  | some (.slice elem),some _=>
   match C.tys.get elem with
   |none=>none
   | some i=>match i.zero with
    |none=>none
    |some z=>match wLG x with
    |none=>none
    |some 0=>match s with
     |.nils=>some (.nils,σ,c)
     |.sl A off len cap esz ex=>some (.sl A off len cap esz ex,σ,c)
     |.sle=>some (.sle,σ,c)
     |_=>none
    | some (n+1)=>match wWJ σ i.size (n+1) x with
     |none=>none
     | some new=>match s with
      | .nils=>bif Nat.ble ((n+1)*i.bytes) 140737488355328&&Nat.ble (n+1) 1099511627776&&Nat.beq new.length ((n+1)*i.size)&&Nat.beq z.cells.size i.size then
        some (.sl c 0 (n+1) (n+1) i.size false,σ.set c (some (.cells new (some elem))),c+1)else none
      | .sl A off len cap esz ex=>
       bif Nat.beq esz i.size then
        bif Nat.ble (len+(n+1)) cap&&fitsIn σ A (off+(len+(n+1))*esz)then
         match wA8 ro σ A (off+len*esz) new with
         |some σ'=>some (.sl A off (len+(n+1)) cap esz ex,σ',c)
         |none=>none
        else bif Nat.ble ((len+(n+1))*i.bytes) 140737488355328&&Nat.ble (len+(n+1)) 1099511627776&&Nat.beq new.length ((n+1)*i.size)&&Nat.beq z.cells.size i.size&&!(ex&&Nat.ble (len+(n+1)) cap)then
         match jG σ A off (len*esz)with
         |none=>none
         |some old=>
          bif ex then some (.sl c 0 (len+(n+1)) (len+(n+1)) esz false,σ.set c (some (.cells (old++new) (tyAt σ A off elem))),c+1)
          else bif Nat.ble ro A&&wX new then some (.sl c 0 (len+(n+1)) (len+(n+1)) esz false,(σ.set A none).set c (some (.cells (old++new) (tyAt σ A off elem))),c+1)
          else none
        else none
       else none
      |_=>none
  |_,_=>none
 |_=>none
theorem wY0{t u ty elem:TypeId}{d:TypeDesc}{i:TypeInfo}(ht:P.underlying t=some (.slice elem))(hu:P.underlying u=some d)(hd:∀k,d≠.int k)(hi:P.info? elem=some i){base:Option Addr}{sLen sCap:Nat}{x:Value}(hl:(Builtin.lenOf x).run P w=.ok 0 w)(hf:∃us:List Value,us=[]∧(Builtin.firstCells i.size 0 x).run P w=.ok us.toArray w)(hcap:sLen≤sCap)(rest:List TypeId)(rest':List Value) :
  (Builtin.append_ (t::u::rest).toArray ty (.slice base sLen sCap::x::rest').toArray).run P w=.ok (.slice base sLen sCap) w:=by
 obtain⟨us,rfl,hf⟩:=hf;cases base with
 |none=>simp[Builtin.append_,run_underlying ht,run_underlying hu,sizeOf,typeInfo,hi,hl,hf,hcap]
 |some a=>simp[Builtin.append_,run_underlying ht,run_underlying hu,sizeOf,typeInfo,hi,hl,hf,hcap,storeCells]
theorem qK7{t u ty elem:TypeId}{d:TypeDesc}{i:TypeInfo}(ht:P.underlying t=some (.slice elem))(hu:P.underlying u=some d)(hd:∀k,d≠.int k)(hi:P.info? elem=some i){a:Addr}{sLen sCap n:Nat}{x:Value}{us:List Value}{w':World}(hl:(Builtin.lenOf x).run P w=.ok n w)(hf:(Builtin.firstCells i.size n x).run P w=.ok us.toArray w)(hcap:sLen+n≤sCap)(hs:(storeCells (a.add (sLen*i.size)) us).run P w=.ok () w')(rest:List TypeId)(rest':List Value) :
  (Builtin.append_ (t::u::rest).toArray ty (.slice (some a) sLen sCap::x::rest').toArray).run P w=.ok (.slice (some a) (sLen+n) sCap) w':=by
 simp[Builtin.append_,run_underlying ht,run_underlying hu,sizeOf,typeInfo,hi,hl,hf,hcap,hs]
theorem qK8{t u ty elem:TypeId}{d:TypeDesc}{i:TypeInfo}{z:Value}(ht:P.underlying t=some (.slice elem))(hu:P.underlying u=some d)(hd:∀k,d≠.int k)(hi:P.info? elem=some i)(hzero:i.zero=some z){base:Option Addr}{sLen sCap n:Nat}{x:Value}{olds us:List Value}(hl:(Builtin.lenOf x).run P w=.ok n w)(ho:(Builtin.firstCells i.size sLen (.slice base sLen sCap)).run P w.drew=.ok olds.toArray w.drew)(hf:(Builtin.firstCells i.size n x).run P w.drew=.ok us.toArray w.drew)(hcap:sCap<sLen+n)(h63:sLen+n≤1099511627776)(h48:(sLen+n)*i.bytes≤140737488355328)(rest:List TypeId)(rest':List Value) :
  (Builtin.append_ (t::u::rest).toArray ty (.slice base sLen sCap::x::rest').toArray).run P w =
   .ok (.slice (some ⟨w.heap.size,0,none⟩) (sLen+n) (grownCap w (sLen+n) sCap elem)) (w.drew.alloc (.cells ((olds++us).toArray++Builtin.zeroCells z.cells (grownCap w (sLen+n) sCap elem-(sLen+n))) elem)):=by
 have hn:¬(sLen+n≤sCap):=by omega
 have h63':¬(9223372036854775807<((sLen:Int)+(n:Int))):=by omega
 have hfit:=growslice_fits (bytes:=i.bytes) hcap h48;have h48':¬(281474976710656<Builtin.nextslicecap (sLen+n) sCap*i.bytes):=by omega
 simp[Builtin.append_,run_underlying ht,run_underlying hu,sizeOf,typeInfo,zeroValue,hi,hzero,hl,hn,h63',h48',Question.forced,ho,hf,newRow,grownCap]
 grind
theorem LRel.take_left{a:List AV}{v:List Value}(h:LRel φ a v)(z:List Value):LRel φ a ((v++z).take a.length):=by
 rw[h.length,pE6]
 ·exact h
 ·rfl
theorem qHA(h:SRel ro n0 φ σ w)(hf:φ c=none){acs:List AV}{ccs:Array Value}{vs zs:List Value}(e:TypeId)(hcc:ccs.toList=vs++zs)(hc:LRel φ acs vs){ty:Option TypeId}(hty:wA4 ty e 0){s:Sem Value}{v:AV}(hv:∀φ',φ' c=some (w.heap.size,0,ccs.size)→∃u,s.run P w=.ok u (w.drew.alloc (.cells ccs e))∧VRel φ' v u) :
  wA5 P ro n0 c φ w s v (σ.set c (some (.cells acs ty))) (c+1):=by
 obtain⟨u,h1,h2⟩:=hv (φ.ext c (w.heap.size,0,ccs.size)) (Ren.ext_self _ _ _);have hl:=hc.length;have hsz:ccs.size=vs.length+zs.length:=by grind [Array.length_toList,List.length_append]
 refine⟨u,_,_,h1,h2,?_,Ext.alloc _,((Below.refl _ _).drew).alloc h.s _⟩;refine SRel.alloc (w:=w.drew) h.drew hf (.cells acs ty) _ ccs.size ⟨ccs,e,heap_alloc_new _ _,hty,rfl,?_,?_⟩
 ·simp_all
 ·show LRel _ acs ((ccs.toList.drop 0).take acs.length);rw[dR,hcc];exact(hc.take_left zs).mono (Ren.le_ext _ hf)
theorem eAppend_ok{C:Cx}(hC:CxOk P C)(h:SRel ro n0 φ σ w){ts:List TypeId}{s x v:AV}{σ':Hp}{c':Nat}(e:wOA C ro σ c ts s x=some (v,σ',c'))(hf:vZ c c' φ){us ux:Value}(hs:VRel φ s us)(hx:VRel φ x ux)(ty:TypeId)(rest':List Value) :
  wA5 P ro n0 c φ w (Builtin.append_ ts.toArray ty (us::ux::rest').toArray) v σ' c':=by
 unfold wOA at e;split at e
 case h_2=>cases e
 case h_1 t u rest=>
  split at e
  ·cases e
  case h_3=>cases e
  case h_2 elem d hni ht hu=>
   have hd:∀k,d≠.int k:=fun k hk=>hni k (by rw[hk]);split at e
   ·cases e
   ·rename_i i hi;split at e
    ·cases e
    ·rename_i z hz;have hi':=hC.tys _ _ hi;have ht':=hC.und ht;have hu':=hC.und hu;split at e
     ·cases e
     ·
      rename_i hl;have hlen:=wQ9 (P:=P) (w:=w) hl hx;have hfirst:∃us:List Value,us=[]∧(Builtin.firstCells i.size 0 ux).run P w=.ok us.toArray w:=by refine⟨[],rfl,?_⟩;cases hx<;>simp[wLG]at hl<;>simp[Builtin.firstCells,loadCells,loadCellsFrom]
      split at e
      ·cases hs;cases e;exact wA5.pure h ⟨_,wY0 ht' hu' hd hi' hlen hfirst (pC 0) rest rest',.nils⟩
      ·cases hs with
       |sl hφ h1 h2 h3 h4=>cases e;exact wA5.pure h ⟨_,wY0 ht' hu' hd hi' hlen hfirst (by omega) rest rest',.sl hφ h1 h2 h3 h4⟩
      ·cases hs with
       |sle B o cc=>cases e;exact wA5.pure h ⟨_,wY0 ht' hu' hd hi' hlen hfirst (by omega) rest rest',.sle _ _ _⟩
      grind
     ·rename_i n hl;have hlen:=wQ9 (P:=P) (w:=w) hl hx;split at e
      ·cases e
      ·rename_i new hnew;split at e
       ·
        cases hs;cases hb:(Nat.ble ((n+1)*i.bytes) 140737488355328&&Nat.ble (n+1) 1099511627776&&Nat.beq new.length ((n+1)*i.size)&&Nat.beq z.cells.size i.size)with
        |false=>rw[hb]at e;cases e
        | true=>
         rw[hb]at e;cases e;simp only[Bool.and_eq_true]at hb;obtain⟨⟨⟨hb1,hb2⟩,hb3⟩,hb4⟩:=hb;have hb1:=pI hb1;have hb2:=pI hb2;have hb3:new.length=(n+1)*i.size:=by simpa using hb3
         have hzs:z.cells.size=i.size:=by simpa using hb4
         obtain⟨vs,hv1,hv2⟩:=wB0 (P:=P) h.drew hnew hx;have hrun:=qK8 (P:=P) (w:=w) ht' hu' hd hi' hz (base:=none) (sLen:=0) (sCap:=0) (olds:=[]) hlen (by simp[Builtin.firstCells]) hv1 (by omega) (by omega) (by simpa using hb1) rest rest' (ty:=ty);rw[mF,cL]at hrun;have hvl:=hv2.length;refine qHA (ccs:=vs.toArray++Builtin.zeroCells z.cells (grownCap w (n+1) 0 elem-(n+1))) (zs:=(Builtin.zeroCells z.cells (grownCap w (n+1) 0 elem-(n+1))).toList) h (hf c (pC _) (by omega)) elem (by simp) hv2 (wA4.some elem) fun φ' hφ'=>?_;refine⟨_,hrun,?_⟩;have hge:=grownCap_ge w (n+1) 0 elem;have hsum:(n+1)*i.size+(grownCap w (n+1) 0 elem-(n+1))*i.size=grownCap w (n+1) 0 elem*i.size:=by rw[←mY];congr 1;omega
         have:=VRel.sl (φ:=φ') (off:=0) (len:=n+1) (cap:=n+1) (c:=grownCap w (n+1) 0 elem) (esz:=i.size) (ex:=false) hφ' (pC _) hge (fun hh=>by cases hh) (by simp only[Array.size_append,List.size_toArray,size_zeroCells,hzs];omega)
         simpa using this
       ·rename_i A off len cap esz ex;cases hs with
        | sl hφ h1 h2 h3 h4=>
         rename_i B s m cc;cases hbe:Nat.beq esz i.size with
         |false=>rw[hbe]at e;cases e
         | true =>
          rw[hbe]at e;simp only[cond_true]at e;have hesz:esz=i.size:=by simpa using hbe
          subst hesz;cases hroom:(Nat.ble (len+(n+1)) cap&&fitsIn σ A (off+(len+(n+1))*i.size))with
          | true=>
           rw[hroom]at e;simp only[cond_true]at e;have hroom':=pI (Bool.and_eq_true_iff.1 hroom).1;split at e
           case h_2=>cases e
           case h_1 σ2 hw=>
            cases e;obtain⟨vs,hv1,hv2⟩:=wB0 (P:=P) h hnew hx;obtain⟨w',hst,hS,hB⟩:=run_wr (P:=P) h hv2 hw hφ;have hst':(storeCells ((⟨B,s+off,none⟩:Addr).add (len*i.size)) vs).run P w=.ok () w':=by rw[kT,cA];exact hst
            have hrun:=qK7 (P:=P) (w:=w) ht' hu' hd hi' hlen hv1 (by omega) hst' rest rest' (ty:=ty) (sCap:=cc);exact⟨_,w',φ,hrun,.sl hφ (by omega) h2 h3 h4,hS,Ext.refl _ _,hB⟩
          | false=>
           rw[hroom]at e;simp only[cond_false]at e;cases hb:(Nat.ble ((len+(n+1))*i.bytes) 140737488355328&&Nat.ble (len+(n+1)) 1099511627776&&Nat.beq new.length ((n+1)*i.size)&&Nat.beq z.cells.size i.size&&!(ex&&Nat.ble (len+(n+1)) cap))with
           |false=>rw[hb]at e;cases e
           | true=>
            rw[hb]at e;simp only[cond_true]at e;rw[pH]at hb;obtain⟨hb,hbx⟩:=hb;simp only[Bool.and_eq_true]at hb;obtain⟨⟨⟨hb1,hb2⟩,hb3⟩,hb4⟩:=hb;have hb1:=pI hb1;have hb2:=pI hb2;have hb3:new.length=(n+1)*i.size:=by simpa using hb3
            have hzs:z.cells.size=i.size:=by simpa using hb4
            have hroom':ex=true→cap<len+(n+1):=by intro hx;apply Nat.lt_of_not_le;intro hh;have:=Nat.ble_eq_true_of_le hh;rw[hx,this]at hbx;cases hbx
            split at e
            ·cases e
            ·rename_i old hold;have ho:wWJ σ i.size len (.sl A off len cap i.size ex)=some old:=hold
             have hgrow:cc<len+(n+1)→∀σ0,SRel ro n0 φ σ0 w→wA5 P ro n0 c φ w (Builtin.append_ (t::u::rest).toArray ty (.slice (some ⟨B,s+off,none⟩) len cc::ux::rest').toArray)
               (.sl c 0 (len+(n+1)) (len+(n+1)) i.size false) (σ0.set c (some (.cells (old++new) (tyAt σ A off elem)))) (c+1):=by
              intro hcc σ0 hσ0;have hfc:φ c=none:=by
               cases hex:ex with
               |true=>rw[hex]at e;cases e;exact hf c (pC _) (by omega)
               |false=>
                rw[hex]at e;simp only[cond_false]at e;cases hro:(Nat.ble ro A&&wX new)with
                |false=>rw[hro]at e;cases e
                |true=>rw[hro]at e;cases e;exact hf c (pC _) (by omega)
              obtain⟨vs,hv1,hv2⟩:=wB0 (P:=P) h.drew hnew hx;obtain⟨os,ho1,ho2⟩:=wB0 (P:=P) h.drew ho (.sl hφ h1 h2 h3 h4);have hrun:=qK8 (P:=P) (w:=w) ht' hu' hd hi' hz hlen ho1 hv1 hcc hb2 hb1 rest rest' (ty:=ty);have hvl:=hv2.length;have hol:=ho2.length;have hol2:=rd_len hold;refine qHA (ccs:=(os++vs).toArray++Builtin.zeroCells z.cells (grownCap w (len+(n+1)) cc elem-(len+(n+1)))) (zs:=(Builtin.zeroCells z.cells (grownCap w (len+(n+1)) cc elem-(len+(n+1)))).toList) hσ0 hfc elem (by simp) (ho2.append hv2) (tyAt_elem σ A off elem) fun φ' hφ'=>?_;refine⟨_,hrun,?_⟩;have hge:=grownCap_ge w (len+(n+1)) cc elem;have hsum:(len+(n+1))*i.size+(grownCap w (len+(n+1)) cc elem-(len+(n+1)))*i.size=grownCap w (len+(n+1)) cc elem*i.size:=by rw[←mY];congr 1;omega
              have hsum2:(len+(n+1))*i.size=len*i.size+(n+1)*i.size:=mY _ _ _;have:=VRel.sl (φ:=φ') (off:=0) (len:=len+(n+1)) (cap:=len+(n+1)) (c:=grownCap w (len+(n+1)) cc elem) (esz:=i.size) (ex:=false) hφ' (pC _) hge (fun hh=>by cases hh) (by simp only[Array.size_append,List.size_toArray,List.length_append,size_zeroCells,hzs];omega)
              simpa using this
             cases hex:ex with
             |true=>rw[hex]at e;cases e;have:=h3 hex;have:=hroom' hex;exact hgrow (by omega) σ h
             | false=>
              rw[hex]at e;simp only[cond_false]at e;cases hro:(Nat.ble ro A&&wX new)with
              |false=>rw[hro]at e;cases e
              | true=>
               rw[hro]at e;cases e;simp only[Bool.and_eq_true]at hro;have hroA:=pI hro.1;rcases pL cc (len+(n+1))with hcc|hcc
               ·exact hgrow hcc _ (h.kill A)
               ·obtain⟨ccs,ety,hh,hm,hseg,hsome,htys⟩:=rd_seg h hold hφ;obtain⟨vs,hv1,hv2⟩:=wB0 (P:=P) h hnew hx;have hfc:φ c=none:=hf c (pC _) (by omega);have hol:=rd_len hold;have hvl:=hv2.length;have hsum:(len+(n+1))*i.size≤cc*i.size:=mM _ hcc;have hsum2:(len+(n+1))*i.size=len*i.size+(n+1)*i.size:=mY _ _ _;have hfit:s+off+old.length+vs.length≤ccs.size:=by omega
                obtain⟨hS,hB⟩:=h.regrow hφ hroA hsome hfc hh hm hseg hv2 hfit (htys elem);have hst:=run_storeCells_at P B (s+off+old.length) ety vs 0 ccs w hh (by simpa using hfit) (hv2.one hro.2);simp only[Nat.add_zero]at hst;have hst':(storeCells ((⟨B,s+off,none⟩:Addr).add (len*i.size)) vs).run P w=.ok () (w.setRow B (ccs.toList.take (s+off+old.length)++vs++ccs.toList.drop (s+off+old.length+vs.length)).toArray):=by rw[kT,←hol];exact hst
                have hrun:=qK7 (P:=P) (w:=w) ht' hu' hd hi' hlen hv1 hcc hst' rest rest' (ty:=ty) (sCap:=cc);refine⟨_,_,_,hrun,?_,hS,Ext.alloc _,hB⟩;have:=VRel.sl (φ:=φ.ext c (B,s+off,m)) (off:=0) (len:=len+(n+1)) (cap:=len+(n+1)) (c:=cc) (esz:=i.size) (ex:=false) (Ren.ext_self _ _ _) (pC _) hcc (fun hh=>by cases hh) (by omega);simpa using this
       grind
end
section
variable{P:Program}{ro n0 c:Nat}{φ:Ren}{σ:Hp}{w:World}
def eLenD:AV→Option Nat
 |.sl _ _ n _ _ _=>some n
 |.nils=>some 0
 |.sle=>some 0
 |_=>none
def eCopy(C:Cx)(ro:Nat)(σ:Hp)(ts:List TypeId)(d x:AV):Option (AV×Hp):=
 match ts with
 | t :: _=>match C.und t with
  | some (.slice elem)=>match C.size elem with
   |none=>none
   | some size=>match wLG x,eLenD d with
    | some m,some l=>match Nat.min m l with
     |0=>some (.int .i64 0,σ)
     | n+1=>match wWJ σ size (n+1) x,d with
      |some cs,.sl A off _ _ _ _=>match wA8 ro σ A off cs with
       |some σ'=>some (.int .i64 (.ofNat (n+1)),σ')
       |none=>none
      |_,_=>none
    |_,_=>none
  |_=>none
 |_=>none
theorem first_zero{x:AV}{u:Value}{size n:Nat}(hl:wLG x=some n)(hx:VRel φ x u):(Builtin.firstCells size 0 u).run P w=.ok #[] w:=by cases hx<;>simp[wLG]at hl<;>simp[Builtin.firstCells,loadCells,loadCellsFrom]
theorem eCopy_ok{C:Cx}(hC:CxOk P C)(h:SRel ro n0 φ σ w){ts:List TypeId}{d x v:AV}{σ':Hp}(e:eCopy C ro σ ts d x=some (v,σ')){ud ux:Value}(hd:VRel φ d ud)(hx:VRel φ x ux)(ty:TypeId)(rest':List Value) :
  wA5 P ro n0 c φ w (Builtin.copy_ ts.toArray ty (ud::ux::rest').toArray) v σ' c:=by
 unfold eCopy at e;split at e
 case h_2=>cases e
 case h_1 t rest=>
  split at e
  case h_2=>cases e
  case h_1 elem ht=>
   split at e
   ·cases e
   ·rename_i size hs;split at e
    case h_2=>cases e
    case h_1 m l hm hl=>
     have hlen:=wQ9 (P:=P) (w:=w) hm hx;have ht':=hC.und ht;have hsz:=wZ (P:=P) hC hs w;split at e
     ·rename_i hmin;cases e;have hf:=first_zero (P:=P) (w:=w) (size:=size) hm hx;refine wA5.pure h ⟨.int .i64 0,?_,.int _ _⟩;cases hd<;>simp[eLenD]at hl<;>subst hl<;>simp[Builtin.copy_,run_underlying ht',hlen,hsz,hmin,hf,storeCells,goInt]
     ·rename_i n hmin;split at e
      case h_2=>cases e
      case h_1 cs A off q1 q2 q3 q4 hcs=>
       split at e
       case h_2=>cases e
       case h_1 σ2 hw=>
        cases e;cases hd with
        |sl hφ h1 h2 h3 h4=>
         simp only[eLenD,Option.some.injEq]at hl;subst hl;obtain⟨vs,hv1,hv2⟩:=wB0 (P:=P) h hcs hx;obtain⟨w',hst,hS,hB⟩:=run_wr (P:=P) h hv2 hw hφ;refine⟨.int .i64 (.ofNat (n+1)),w',φ,?_,.int _ _,hS,Ext.refl _ _,hB⟩
         simp_all [Builtin.copy_,run_underlying,goInt]
def eLen(C:Cx)(ts:List TypeId)(x:AV):Option AV:=
 match ts with
 |t::_=>match C.und t,x with
  |some .string,.str s=>some (.int .i64 (.ofNat s.size))
  |some (.slice _),.sl _ _ n _ _ _=>some (.int .i64 (.ofNat n))
  |some (.slice _),.nils=>some (.int .i64 (.ofNat 0))
  |some (.slice _),.sle=>some (.int .i64 (.ofNat 0))
  |some (.array n _),_=>some (.int .i64 (.ofNat n))
  |_,_=>none
 |_=>none
theorem eLen_ok{C:Cx}(hC:CxOk P C){ts:List TypeId}{x v:AV}(e:eLen C ts x=some v){u:Value}(hx:VRel φ x u)(ty:TypeId)(rest':List Value) :
  ∃r,(Builtin.len_ ts.toArray ty (u::rest').toArray).run P w=.ok r w∧VRel φ v r:=by
 unfold eLen at e;split at e
 case h_2=>cases e
 case h_1 t rest=>
  split at e
  case h_6=>cases e
  case h_5 n el ht=>cases e;exact⟨.int .i64 (.ofNat n),by simp[Builtin.len_,wP hC ht,goInt],.int _ _⟩
  all_goals (rename_i ht;cases hx;cases e;exact⟨.int .i64 (.ofNat _),by simp[Builtin.len_,wP hC ht,goInt],.int _ _⟩)
def eCap(C:Cx)(ts:List TypeId)(x:AV):Option AV:=
 match ts with
 |t::_=>match C.und t,x with
  |some (.slice _),.sl _ _ _ cap _ true=>some (.int .i64 (.ofNat cap))
  |some (.slice _),.nils=>some (.int .i64 (.ofNat 0))
  |_,_=>none
 |_=>none
theorem eCap_ok{C:Cx}(hC:CxOk P C){ts:List TypeId}{x v:AV}(e:eCap C ts x=some v){u:Value}(hx:VRel φ x u)(ty:TypeId)(rest':List Value) :
  ∃r,(Builtin.cap_ ts.toArray ty (u::rest').toArray).run P w=.ok r w∧VRel φ v r:=by
 unfold eCap at e;split at e
 case h_2=>cases e
 case h_1 t rest=>
  split at e
  case h_3=>cases e
  case h_1 ht=>
   cases hx with
   |sl hφ h1 h2 h3 h4=>cases e;have:=h3 rfl;subst this;exact⟨.int .i64 (.ofNat _),by simp[Builtin.cap_,wP hC ht,goInt],.int _ _⟩
  case h_2 ht=>cases hx;cases e;exact⟨.int .i64 (.ofNat _),by simp[Builtin.cap_,wP hC ht,goInt],.int _ _⟩
def eMax:Int→IntKind→List AV→Option AV
 |m,k,[]=>some (.int k m)
 |m,k,.int k' n::xs=>if k=k' then eMax (if n>m then n else m) k xs else none
 |_,_,_=>none
def eMin:Int→IntKind→List AV→Option AV
 |m,k,[]=>some (.int k m)
 |m,k,.int k' n::xs=>if k=k' then eMin (if n<m then n else m) k xs else none
 |_,_,_=>none
theorem eMax_ok:∀(xs:List AV)(m:Int)(k:IntKind)(v:AV),eMax m k xs=some v→∀us,LRel φ xs us→∃r,(us.foldlM Builtin.max2 (.int k m)).run P w=.ok r w∧VRel φ v r
 |[],m,k,v,e,us,h=>by cases h;cases e;exact⟨_,rfl,.int _ _⟩
 | x::xs,m,k,v,e,us,h=>by
  cases x<;>simp only[eMax]at e<;>try (cases e;done)
  rename_i k' n;cases h with
  |cons h1 h2=>
   cases h1;split at e
   ·rename_i hk;subst hk;obtain⟨r,hr,hv⟩:=eMax_ok xs _ _ _ e _ h2;exact⟨r,by simpa[List.foldlM_cons,Builtin.max2]using hr,hv⟩
   grind
theorem eMin_ok:∀(xs:List AV)(m:Int)(k:IntKind)(v:AV),eMin m k xs=some v→∀us,LRel φ xs us→∃r,(us.foldlM Builtin.min2 (.int k m)).run P w=.ok r w∧VRel φ v r
 |[],m,k,v,e,us,h=>by cases h;cases e;exact⟨_,rfl,.int _ _⟩
 | x::xs,m,k,v,e,us,h=>by
  cases x<;>simp only[eMin]at e<;>try (cases e;done)
  rename_i k' n;cases h with
  |cons h1 h2=>
   cases h1;split at e
   ·rename_i hk;subst hk;obtain⟨r,hr,hv⟩:=eMin_ok xs _ _ _ e _ h2;exact⟨r,by simpa[List.foldlM_cons,Builtin.min2]using hr,hv⟩
   grind
def eMM(mx:Bool)(xs:List AV):Option AV:=
 match xs with
 |.int k m::xs=>bif mx then eMax m k xs else eMin m k xs
 |_=>none
theorem eMax'_ok{xs:List AV}{v:AV}(e:eMM true xs=some v){us:List Value}(h:LRel φ xs us)(ts:Array TypeId)(ty:TypeId):∃r,(Builtin.max_ ts ty us.toArray).run P w=.ok r w∧VRel φ v r:=by
 unfold eMM at e;split at e
 ·cases h with
  |cons h1 h2=>cases h1;exact eMax_ok _ _ _ _ e _ h2
 grind
theorem eMin'_ok{xs:List AV}{v:AV}(e:eMM false xs=some v){us:List Value}(h:LRel φ xs us)(ts:Array TypeId)(ty:TypeId):∃r,(Builtin.min_ ts ty us.toArray).run P w=.ok r w∧VRel φ v r:=by
 unfold eMM at e;split at e
 ·cases h with
  |cons h1 h2=>cases h1;exact eMin_ok _ _ _ _ e _ h2
 grind
def bytesOf:List AV→Option (List UInt8)
 |[]=>some []
 |.int .u8 (.ofNat n)::xs=>match bytesOf xs with
  |some bs=>some (UInt8.ofNat n::bs)
  |none=>none
 |_=>none
def eConv(C:Cx)(σ:Hp)(src dst:TypeId)(x:AV):Option AV:=
 match C.und src,C.und dst,x with
 |some _,some (.int k),.int _ n=>some (.int k (ewrap k n))
 |some .string,some .string,.str s=>some (.str s)
 | some (.slice e),some .string,x=>match C.und e with
  | some (.int .u8)=>match x with
   |.nils=>some (.str .empty)
   | .sl A off n _ _ _=>match jG σ A off n with
    |some cs=>match bytesOf cs with
     |some bs=>some (.str ⟨bs.toArray⟩)
     |none=>none
    |none=>none
   |_=>none
  |_=>none
 |some (.pointer t),some .unsafePointer,.ptr A off=>match C.size t,σ.get A with
  |some (_+1),some (.cells cs _)=>bif Nat.blt off cs.length then some (.ptr A off)else none
  |_,_=>none
 |some .unsafePointer,some (.pointer t),.ptr A off=>match C.size t,σ.get A with
  |some (n+1),some (.cells cs (some e))=>bif Nat.beq e t&&Nat.beq off 0&&Nat.ble (n+1) cs.length then some (.ptr A off)else none
  |_,_=>none
 |_,_,_=>none
theorem Cx.size_info(C:Cx){t:TypeId}{n:Nat}(h:C.size t=some n):∃j,C.tys.get t=some j∧j.size=n:=by
 unfold Cx.size at h
 grind
theorem qI4{e:TypeId}{n count:Nat}(hc:P.cellsOf e=n+1)(hn:1≤count):liesAt P P.depth e count 0 e 1=true:=by have hd:P.depth=(2*(P.types.size+Made.depth)+1)+1:=rfl;rw[hd];simp only[liesAt,Bool.or_eq_true];left;rw[hd];simp[rowAt,hc,hn,sameLayout]
theorem wXE:∀{cs:List AV}{bs:List UInt8}{us:List Value},bytesOf cs=some bs→LRel φ cs us→∃ns:List Int,us=ns.map (fun n=>Value.int .u8 n)∧bs=ns.map (fun n=>UInt8.ofNat n.toNat)
 |[],bs,us,e,h=>by cases e;cases h;simp_all
 | x :: xs,bs,us,e,h=>by
  cases x<;>try (simp[bytesOf]at e;done)
  rename_i k n;cases k<;>try (simp[bytesOf]at e;done)
  cases n with
  |negSucc n=>simp[bytesOf]at e
  | ofNat n=>
   simp only[bytesOf]at e;split at e
   ·rename_i bs' hb;cases e;cases h with
    |cons h1 h2=>cases h1;obtain⟨ns,rfl,rfl⟩:=wXE hb h2;exact⟨.ofNat n::ns,rfl,rfl⟩
   grind
theorem eConv_ok{C:Cx}(hC:CxOk P C)(h:SRel ro n0 φ σ w){src dst:TypeId}{x v:AV}(e:eConv C σ src dst x=some v){u:Value}(hx:VRel φ x u) :
  ∃r,(convert src dst u).run P w=.ok r w∧VRel φ v r:=by
 unfold eConv at e;split at e
 ·rename_i d k k' n h1 h2;cases hx;cases e;refine⟨.int k (k.wrap n),?_,by rw[jA];exact .int _ _⟩;simp[convert,wP hC h1,wP hC h2,Conv.intToInt]
 ·rename_i s h1 h2;cases hx;cases e;exact⟨.string s,by simp[convert,wP hC h1,wP hC h2],.str _⟩
 ·rename_i el x' hni hns h1 h2;split at e
  case h_2=>cases e
  case h_1 h3=>
   split at e
   ·cases hx;cases e;exact⟨.string .empty,by simp[convert,wP hC h1,wP hC h2,wP hC h3,Conv.bytesToString],.str _⟩
   ·cases hx with
    | sl hφ k1 k2 k3 k4=>
     split at e
     case h_2=>cases e
     case h_1 cs hcs=>
      split at e
      case h_2=>cases e
      case h_1 bs hbs=>cases e;obtain⟨us,r1,r2,r3,r4⟩:=qCF (P:=P) h hcs hφ;obtain⟨ns,rfl,rfl⟩:=wXE hbs r2;refine⟨.string ⟨(ns.map fun n=>UInt8.ofNat n.toNat).toArray⟩,?_,.str _⟩;rw[run_convert_bytes_string w src dst _ _ _ _ (hC.und h1) (hC.und h3) (hC.und h2),run_bytesToString w _ _ _ ns r1,foldl_push_bytes];simp[ByteArray.empty,ByteArray.emptyWithCapacity];rfl
   ·cases e
 ·rename_i t A off h1 h2;split at e
  case h_2=>cases e
  case h_1 m cs ty hs hA=>
   cases hb:Nat.blt off cs.length with
   |false=>rw[hb]at e;cases e
   | true=>
    rw[hb]at e;cases e;have hb:off<cs.length:=by simpa using hb
    cases hx with
    |ptr hφ=>obtain⟨y,hφ',ccs,ety,hh,hty,hsz,hle,hc⟩:=h.h A _ hA;rw[hφ]at hφ';cases hφ';dsimp only at hh hsz hle;obtain⟨j,hj,hjs⟩:=C.size_info hs;rename_i B s n;exact⟨_,Lib.run_to_unsafe (e:=ety) (cells:=ccs.size) w ⟨B,s+off,none⟩ (hC.und h1) (hC.und h2) (hC.tys _ _ hj) (by omega) (by show w.shape? B=_;simp only[World.shape?,hh]) (by show s+off<ccs.size;omega),.ptr hφ⟩
 ·rename_i t A off h1 h2;split at e
  case h_2=>cases e
  case h_1 m cs ty hs hA=>
   cases hb:(Nat.beq ty t&&Nat.beq off 0&&Nat.ble (m+1) cs.length)with
   |false=>rw[hb]at e;cases e
   | true=>
    rw[hb]at e;cases e;rw[pH,pH]at hb;have hb1:ty=t:=by simpa using hb.1.1
    have hb2:off=0:=by simpa using hb.1.2
    have hb3:=pI hb.2;subst hb1;subst hb2;cases hx with
    |ptr hφ=>
     obtain⟨y,hφ',ccs,ety,hh,hty,hsz,hle,hc⟩:=h.h A _ hA;rw[hφ]at hφ';cases hφ';dsimp only at hh hsz hle hty;obtain⟨hty1,hty2⟩:=hty _ rfl;subst hty1;subst hty2;obtain⟨j,hj,hjs⟩:=C.size_info hs;have hcells:P.cellsOf ety=m+1:=by simp[Program.cellsOf,hC.tys _ _ hj,hjs]
     have hdiv:1≤ccs.size/P.cellsOf ety:=by rw[hcells];exact(Nat.le_div_iff_mul_le (by omega)).2 (by omega)
     rename_i B n;exact⟨_,Lib.run_from_unsafe (e:=ety) (cells:=ccs.size) w ⟨B,0+0,none⟩ (hC.und h1) (hC.und h2) (hC.tys _ _ hj) (by show w.shape? B=_;simp only[World.shape?,hh]) (qI4 hcells hdiv),.ptr hφ⟩
 grind
end
end Go.Ev
