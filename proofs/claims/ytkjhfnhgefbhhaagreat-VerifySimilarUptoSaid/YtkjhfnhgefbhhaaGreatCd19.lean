/- qmat.same, Equal: told of trees. ALLOC -/
import Derived.Test.YtkjhfnhgefbhhaaGreatCd18
set_option linter.all false
namespace Go.Proofs.YtkjhfnhgefbhhaaGreat
open Go.RowKit Go.Ev Go.Vl
def sameM (m m':MM):Bool:=decide (m.2.map (fun r=>r.map fun x=>intOf x*intOf m'.1)=m'.2.map (fun r=>r.map fun x=>intOf x*intOf m.1))
theorem map_take {α β:Type} {f:α→β} {g:α→β} {xs ys:List α} {j:Nat} {x y:α} (h:(xs.map f).take j=(ys.map g).take j) (hx:xs[j]? = some x) (hy:ys[j]? = some y) (he:f x=g y):(xs.map f).take (j+1)=(ys.map g).take (j+1):=by
 rw [List.take_add_one,List.take_add_one,h,List.getElem?_map,List.getElem?_map,hx,hy]
 simp [he]
theorem map_not {α β:Type} {f:α→β} {g:α→β} {xs ys:List α} {j:Nat} {x y:α} (hx:xs[j]? = some x) (hy:ys[j]? = some y) (he:f x≠g y):xs.map f≠ys.map g:=fun h=>by
 have:=congrArg (fun l=>l[j]?) h
 simp only [List.getElem?_map,hx,hy,Option.map_some,Option.some.injEq] at this
 exact he this
set_option maxRecDepth 20000 in
set_option maxHeartbeats 3200000 in
theorem qsame_v (x x':Bool) (l l':List Nat) (t t':List (List ZZ)) (hd:okL l∧l.length≤549755813888) (hd':okL l'∧l'.length≤549755813888) (ht:∀ r∈t,r.length≤1099511627776∧∀ z∈r,okL z.2∧z.2.length≤549755813888) (hl:t.length≤1099511627776)
  (ht':∀ r∈t',r.length≤1099511627776∧∀ z∈r,okL z.2∧z.2.length≤549755813888) (hl':t'.length≤1099511627776) :
  wT Tryz.prog 112 [.agg [.bool x,vL l,vT t],.agg [.bool x',vL l',vT t']] (fun y=>y=.bool (sameM ((x,l),t) ((x',l'),t'))):=by
 refine wK wB Tryz.func112 rfl rfl rfl rfl fun w0=>?_
 have fin:∀ {p:Prop} [Decidable p],¬ p→V.bool false=V.bool (decide p):=fun h=>by rw [decide_eq_false h]
 unfold sameM
 dsimp only
 obtain ⟨d,hde⟩:∃ d,intOf (x,l)=d:=⟨_,rfl⟩
 obtain ⟨d',hde'⟩:∃ d,intOf (x',l')=d:=⟨_,rfl⟩
 have od:okZ (x,l):=⟨hd.1,Nat.le_trans hd.2 (by decide)⟩
 have od':okZ (x',l'):=⟨hd'.1,Nat.le_trans hd'.2 (by decide)⟩
 by_cases hne:t.length=t'.length
 ·repeat (first | refine wG rfl rfl (wR wB rfl rfl rfl rfl rfl rfl (zY t) rfl) rfl ?_ | refine wG rfl rfl (wR wB rfl rfl rfl rfl rfl rfl (zY t') rfl) rfl ?_ | refine wQ wB rfl rfl rfl rfl ?_ | refine wG rfl rfl (wH rfl rfl rfl rfl (ndF (by omega)) rfl) rfl ?_ | refine wF wI rfl rfl ?_ | refine wJ ?_ | refine wM ?_ | refine wC ?_ | refine wO ?_ | refine wL rfl ?_)
  refine qF (fun j:Nat=>[(4,some (.sv (.bx 2 0))),(5,some (.bx [.v (.bool x),.v (vL l),.v (vT t)])),(6,some (.sv (.bx 3 0))),(7,some (.bx [.v (.bool x'),.v (vL l'),.v (vT t')])),(34,some (.sv (.v (vT t)))),(36,some (.sv (.v (.int .i64 (t.length:Nat))))),(38,some (.sv (.v (.int .i64 (j:Nat)))))])
   (fun j=>j≤t.length∧(t.map (fun r=>r.map fun x=>intOf x*intOf (x',l'))).take j=(t'.map (fun r=>r.map fun x'=>intOf x'*intOf (x,l))).take j) (fun j=>t.length - j) 0 (fun _=>rfl) ⟨Nat.zero_le _,rfl⟩ ⟨rfl,rfl,rfl,rfl,rfl,rfl,rfl,trivial⟩ fun j hI=>?_
  obtain ⟨hJ,hq⟩:=hI
  rcases Nat.lt_or_ge j t.length with hj | hj
  ·obtain ⟨r,hr⟩:∃ z,t[j]? = some z:=⟨_,List.getElem?_eq_getElem hj⟩
   obtain ⟨r',hr'⟩:∃ u,t'[j]? = some u:=⟨_,List.getElem?_eq_getElem (by omega)⟩
   have hg:=tv_at t j r hr
   have hg2:=tv_at t' j r' hr'
   obtain ⟨o1,o2⟩:=ht r (List.mem_of_getElem? hr)
   obtain ⟨o1',o2'⟩:=ht' r' (List.mem_of_getElem? hr')
   by_cases hrl:r.length=r'.length
   ·repeat (first | refine wG rfl rfl (wR wB rfl rfl rfl rfl rfl rfl (zc_len r) rfl) rfl ?_ | refine wG rfl rfl (wR wB rfl rfl rfl rfl rfl rfl (zc_len r') rfl) rfl ?_ | refine wG rfl rfl (wU wB rfl rfl rfl (i:=j) rfl rfl rfl hg rfl rfl) rfl ?_ | refine wG rfl rfl (wU wB rfl rfl rfl (i:=j) rfl rfl rfl hg2 rfl rfl) rfl ?_ | refine wQ wB rfl rfl rfl rfl ?_ | refine wG rfl rfl (wH rfl rfl rfl rfl (decide_eq_true (by omega)) rfl) rfl ?_ | refine wG rfl rfl (wH rfl rfl rfl rfl (ndF (by omega)) rfl) rfl ?_ | refine wF wI rfl rfl ?_ | refine wJ ?_ | refine wM ?_ | refine wC ?_ | refine wO ?_ | refine wN rfl ?_ | refine wL rfl ?_)
    refine qF (fun k:Nat=>[(4,some (.sv (.bx 2 0))),(5,some (.bx [.v (.bool x),.v (vL l),.v (vT t)])),(6,some (.sv (.bx 3 0))),(7,some (.bx [.v (.bool x'),.v (vL l'),.v (vT t')])),(34,some (.sv (.v (vT t)))),(36,some (.sv (.v (.int .i64 (t.length:Nat))))),(38,some (.sv (.v (.int .i64 (j:Nat))))),
     (10,some (.sv (.v (.int .i64 (j:Nat))))),(66,some (.sv (.v (.list (r.map qI))))),(68,some (.sv (.v (.int .i64 (r.length:Nat))))),(70,some (.sv (.v (.int .i64 (k:Nat)))))])
     (fun k=>k≤r.length∧(r.map fun x=>intOf x*intOf (x',l')).take k=(r'.map fun x'=>intOf x'*intOf (x,l)).take k) (fun k=>r.length - k) 0 (fun _=>rfl) ⟨Nat.zero_le _,rfl⟩ ⟨rfl,rfl,rfl,rfl,rfl,rfl,rfl,rfl,rfl,rfl,rfl,trivial⟩ fun k hI=>?_
    obtain ⟨hK,hqk⟩:=hI
    rcases Nat.lt_or_ge k r.length with hk | hk
    ·obtain ⟨z,hz⟩:∃ z,r[k]? = some z:=⟨_,List.getElem?_eq_getElem hk⟩
     obtain ⟨z',hz'⟩:∃ z,r'[k]? = some z:=⟨_,List.getElem?_eq_getElem (by omega)⟩
     have hgz:=zc_at r k z hz
     have hgz':=zc_at r' k z' hz'
     have oz:=o2 z (List.mem_of_getElem? hz)
     have oz':=o2' z' (List.mem_of_getElem? hz')
     have q1:=zmul_v z (x',l') ⟨oz.1,Nat.le_trans oz.2 (by decide)⟩ od'
     have q2:=zmul_v z' (x,l) ⟨oz'.1,Nat.le_trans oz'.2 (by decide)⟩ od
     have l1:=lm_mul (intOf z) (intOf (x',l'))
     have l2:=lm_mul (intOf z') (intOf (x,l))
     have m1:=qL z oz.1
     have m2:=qL z' oz'.1
     have m3:=qL (x,l) hd.1
     have m4:=qL (x',l') hd'.1
     dsimp only at m3 m4
     have q3:=zcmp_v (zn (intOf z*intOf (x',l'))) (zn (intOf z'*intOf (x,l))) (kI _ (by omega)) (kI _ (by omega))
     rw [wS,wS] at q3
     have hcm:=cmpI_is (intOf z*intOf (x',l')) (intOf z'*intOf (x,l))
     obtain ⟨c,hce⟩:∃ c,cmpI (intOf z*intOf (x',l')) (intOf z'*intOf (x,l))=c:=⟨_,rfl⟩
     rw [hce] at q3 hcm
     by_cases he:intOf z*intOf (x',l')=intOf z'*intOf (x,l)
     ·have hc0:c=0:=by omega
      have hst:=map_take (f:=fun x=>intOf x*intOf (x',l')) (g:=fun x'=>intOf x'*intOf (x,l)) hqk hz hz' he
      obtain ⟨zx,zl⟩:=z
      obtain ⟨zx',zl'⟩:=z'
      repeat (first | refine wG rfl rfl (wU wB rfl rfl rfl (i:=k) rfl rfl rfl hgz rfl rfl) rfl ?_ | refine wG rfl rfl (wU wB rfl rfl rfl (i:=k) rfl rfl rfl hgz' rfl rfl) rfl ?_ | refine wG rfl rfl (wU wB rfl rfl rfl (i:=j) rfl rfl rfl hg2 rfl rfl) rfl ?_ | refine wE wB rfl rfl rfl rfl rfl rfl rfl rfl (q1) rfl rfl ?_ | refine wE wB rfl rfl rfl rfl rfl rfl rfl rfl (q2) rfl rfl ?_ | refine wE wB rfl rfl rfl rfl rfl rfl rfl rfl (q3) rfl rfl ?_ | refine qP wB rfl rfl rfl rfl rfl rfl ?_ | refine wQ wB rfl rfl rfl rfl ?_ | refine wG rfl rfl (wH rfl rfl rfl rfl (decide_eq_true (by omega)) rfl) rfl ?_ | refine wG rfl rfl (wH rfl rfl rfl rfl (ndF (by omega)) rfl) rfl ?_ | refine wG rfl rfl (wX rfl rfl rfl rfl (qC (by omega) (by omega)) rfl) rfl ?_ | refine wF wI rfl rfl ?_ | refine wJ ?_ | refine wM ?_ | refine wC ?_ | refine wO ?_ | refine wN rfl ?_ | refine wL rfl ?_)
      exact ⟨k+1,⟨hk,hst⟩,by omega,rfl,rfl,rfl,rfl,rfl,rfl,rfl,rfl,rfl,rfl,rfl,trivial⟩
     ·have hc0:c≠0:=by omega
      have hno:(t.map fun r=>r.map fun x=>intOf x*intOf (x',l'))≠t'.map fun r=>r.map fun x'=>intOf x'*intOf (x,l):=map_not hr hr' (map_not hz hz' he)
      obtain ⟨zx,zl⟩:=z
      obtain ⟨zx',zl'⟩:=z'
      repeat (first | refine wG rfl rfl (wU wB rfl rfl rfl (i:=k) rfl rfl rfl hgz rfl rfl) rfl ?_ | refine wG rfl rfl (wU wB rfl rfl rfl (i:=k) rfl rfl rfl hgz' rfl rfl) rfl ?_ | refine wG rfl rfl (wU wB rfl rfl rfl (i:=j) rfl rfl rfl hg2 rfl rfl) rfl ?_ | refine wE wB rfl rfl rfl rfl rfl rfl rfl rfl (q1) rfl rfl ?_ | refine wE wB rfl rfl rfl rfl rfl rfl rfl rfl (q2) rfl rfl ?_ | refine wE wB rfl rfl rfl rfl rfl rfl rfl rfl (q3) rfl rfl ?_ | refine qP wB rfl rfl rfl rfl rfl rfl ?_ | refine wQ wB rfl rfl rfl rfl ?_ | refine wG rfl rfl (wH rfl rfl rfl rfl (decide_eq_true (by omega)) rfl) rfl ?_ | refine wG rfl rfl (wH rfl rfl rfl rfl (ndT (by omega)) rfl) rfl ?_ | refine wF wI rfl rfl ?_ | refine wJ ?_ | refine wM ?_ | refine wC ?_ | refine wP ?_ | refine wO ?_ | refine wN rfl ?_)
      exact ⟨.inl rfl,_,rfl,fin hno⟩
    ·have hke:k=r.length:=by omega
     subst hke
     have hrr:(r.map fun x=>intOf x*intOf (x',l'))=r'.map fun x'=>intOf x'*intOf (x,l):=by
      rw [List.take_of_length_le (by simp),List.take_of_length_le (by simp; omega)] at hqk
      exact hqk
     have hst:=map_take (f:=fun r=>r.map fun x=>intOf x*intOf (x',l')) (g:=fun r=>r.map fun x'=>intOf x'*intOf (x,l)) hq hr hr' hrr
     repeat (first | refine wQ wB rfl rfl rfl rfl ?_ | refine wG rfl rfl (wH rfl rfl rfl rfl (decide_eq_false (by omega)) rfl) rfl ?_ | refine wG rfl rfl (wX rfl rfl rfl rfl (qC (by omega) (by omega)) rfl) rfl ?_ | refine wF wI rfl rfl ?_ | refine wJ ?_ | refine wC ?_ | refine qA ?_ | refine wL rfl ?_)
     exact ⟨j+1,⟨hj,hst⟩,by omega,rfl,rfl,rfl,rfl,rfl,rfl,rfl,trivial⟩
   ·have hno:(t.map fun r=>r.map fun x=>intOf x*intOf (x',l'))≠t'.map fun r=>r.map fun x'=>intOf x'*intOf (x,l):=map_not hr hr' fun h=>hrl (by
     have:=congrArg List.length h
     simpa using this)
    repeat (first | refine wG rfl rfl (wR wB rfl rfl rfl rfl rfl rfl (zc_len r) rfl) rfl ?_ | refine wG rfl rfl (wR wB rfl rfl rfl rfl rfl rfl (zc_len r') rfl) rfl ?_ | refine wG rfl rfl (wU wB rfl rfl rfl (i:=j) rfl rfl rfl hg rfl rfl) rfl ?_ | refine wG rfl rfl (wU wB rfl rfl rfl (i:=j) rfl rfl rfl hg2 rfl rfl) rfl ?_ | refine wQ wB rfl rfl rfl rfl ?_ | refine wG rfl rfl (wH rfl rfl rfl rfl (decide_eq_true (by omega)) rfl) rfl ?_ | refine wG rfl rfl (wH rfl rfl rfl rfl (ndT (by omega)) rfl) rfl ?_ | refine wF wI rfl rfl ?_ | refine wJ ?_ | refine wM ?_ | refine wC ?_ | refine wP ?_ | refine wO ?_ | refine wN rfl ?_)
    exact ⟨.inl rfl,_,rfl,fin hno⟩
  ·have hje:j=t.length:=by omega
   subst hje
   repeat (first | refine wQ wB rfl rfl rfl rfl ?_ | refine wG rfl rfl (wH rfl rfl rfl rfl (decide_eq_false (by omega)) rfl) rfl ?_ | refine wF wI rfl rfl ?_ | refine wJ ?_ | refine wC ?_ | refine wP ?_ | refine qA ?_ | refine wL rfl ?_)
   refine ⟨.inl rfl,_,rfl,?_⟩
   rw [decide_eq_true]
   rw [List.take_of_length_le (by simp),List.take_of_length_le (by simp; omega)] at hq
   exact hq
 ·repeat (first | refine wG rfl rfl (wR wB rfl rfl rfl rfl rfl rfl (zY t) rfl) rfl ?_ | refine wG rfl rfl (wR wB rfl rfl rfl rfl rfl rfl (zY t') rfl) rfl ?_ | refine wQ wB rfl rfl rfl rfl ?_ | refine wG rfl rfl (wH rfl rfl rfl rfl (ndT (by omega)) rfl) rfl ?_ | refine wF wI rfl rfl ?_ | refine wJ ?_ | refine wC ?_ | refine wP ?_ | refine wN rfl ?_)
  exact ⟨.inl rfl,_,rfl,fin fun hh=>hne (by
   have:=congrArg List.length hh
   simpa using this)⟩
set_option maxRecDepth 20000 in
set_option maxHeartbeats 3200000 in
theorem qEqual_v (x x':Bool) (l l':List Nat) (t t':List (List ZZ)) (hc:chk ((x,l),t)=0) (hc':chk ((x',l'),t')=0) (hd:okL l∧l.length≤549755813888) (hd':okL l'∧l'.length≤549755813888) (ht:∀ r∈t,r.length≤1099511627776∧∀ z∈r,okL z.2∧z.2.length≤549755813888) (hl:t.length≤1099511627776)
  (ht':∀ r∈t',r.length≤1099511627776∧∀ z∈r,okL z.2∧z.2.length≤549755813888) (hl':t'.length≤1099511627776) :
  wT Tryz.prog 61 [.agg [.bool x,vL l,vT t],.agg [.bool x',vL l',vT t']] (fun y=>y=.tup [.bool (sameM ((x,l),t) ((x',l'),t')),.int .i64 0]):=by
 refine wK wB Tryz.func61 rfl rfl rfl rfl fun w0=>?_
 have od:okZ (x,l):=⟨hd.1,Nat.le_trans hd.2 (by decide)⟩
 have od':okZ (x',l'):=⟨hd'.1,Nat.le_trans hd'.2 (by decide)⟩
 have q1:=checks_v [((x,l),t),((x',l'),t')] (fun m hm=>by
  rcases List.mem_cons.1 hm with rfl | hm
  ·exact ⟨od,hl⟩
  ·rw [List.mem_singleton.1 hm]; exact ⟨od',hl'⟩) (by show 2≤1099511627776; decide)
 have e:chks [((x,l),t),((x',l'),t')]=0:=by simp only [chks,hc,hc',if_true]
 rw [e] at q1
 have q2:=qsame_v x x' l l' t t' hd hd' ht hl ht' hl'
 repeat (first | refine wQ wB rfl rfl rfl rfl ?_ | refine wG rfl rfl (wH rfl rfl rfl rfl (ndF (by omega)) rfl) rfl ?_ | refine zM wB rfl rfl rfl rfl rfl rfl rfl rfl rfl (q1) rfl rfl ?_ | refine wE wB rfl rfl rfl rfl rfl rfl rfl rfl (q2) rfl rfl ?_ | refine wF wI rfl rfl ?_ | refine wJ ?_ | refine wC ?_ | refine wP ?_ | refine wO ?_ | refine wL rfl ?_)
 exact ⟨.inl rfl,_,rfl,rfl⟩
end Go.Proofs.YtkjhfnhgefbhhaaGreat
/- qmat.Mul: told of trees. ALLOC -/
namespace Go.Proofs.YtkjhfnhgefbhhaaGreat
open Go.RowKit Go.Ev Go.Vl
def ent (t:List (List ZZ)) (i k:Nat):ZZ:=(t.getD i []).getD k (false,[])
def prodI (t t':List (List ZZ)) (i k:Nat):Nat→Int
 | 0=>0
 | h+1=>prodI t t' i k h+intOf (ent t i h)*intOf (ent t' h k)
def okT (t:List (List ZZ)) (K n:Nat):Prop:=t.length≤n∧∀ r∈t,r.length≤n∧∀ z∈r,okL z.2∧z.2.length≤K
theorem ent_at {t:List (List ZZ)} {i k:Nat} {r:List ZZ} {z:ZZ} (h:t[i]? = some r) (h2:r[k]? = some z):ent t i k=z:=by
 unfold ent
 rw [List.getD_eq_getElem?_getD,List.getD_eq_getElem?_getD,h]
 simp only [Option.getD_some]
 rw [h2]
 rfl
theorem lm_prodI (t t':List (List ZZ)) (K n i k:Nat) (h1:∀ i k,lm (intOf (ent t i k))≤K) (h2:∀ i k,lm (intOf (ent t' i k))≤K):∀ h,lm (prodI t t' i k h)≤K+K+h
 | 0=>by
  show (toL (0:Int).natAbs).length≤_
  simp [zL]
 | h+1=>by
  have ih:=lm_prodI t t' K n i k h1 h2 h
  have l1:=lm_mul (intOf (ent t i h)) (intOf (ent t' h k))
  have m1:=h1 i h
  have m2:=h2 h k
  exact lm_add _ _ (K+K+h) ih (by omega)
theorem lm_ent {t:List (List ZZ)} {K n:Nat} (h:okT t K n) (i k:Nat):lm (intOf (ent t i k))≤K:=by
 unfold ent
 rw [List.getD_eq_getElem?_getD,List.getD_eq_getElem?_getD]
 cases hi:t[i]? with
 | none =>
  show lm (intOf (([]:List ZZ)[k]?.getD (false,[])))≤K
  rw [List.getElem?_nil]
  show (toL (intOf (false,[])).natAbs).length≤_
  simp [intOf,wD,zL]
 | some r =>
  simp only [Option.getD_some]
  cases hk:r[k]? with
  | none =>
   show (toL (intOf (false,[])).natAbs).length≤_
   simp [intOf,wD,zL]
  | some z =>
   obtain ⟨g1,g2⟩:=(h.2 r (List.mem_of_getElem? hi)).2 z (List.mem_of_getElem? hk)
   exact Nat.le_trans (qL z g1) g2
set_option maxRecDepth 20000 in
set_option maxHeartbeats 3200000 in
theorem mul1_v (x x':Bool) (l l':List Nat) (t t':List (List ZZ)) (n i k K:Nat) (hn:n≤68719476736) (hK:K≤68719476736) (ht:okT t K 68719476736) (ht':okT t' K 68719476736) (hr:∀ r∈t,r.length=n) (hr':∀ r∈t',k<r.length) (hi:i<t.length) (hn':t'.length=n) :
  wT Tryz.prog 116 [.int .i64 (i:Nat),.int .i64 (k:Nat),.ref [.int .i64 (n:Nat)],.ref [.bool x,vL l,vT t],.ref [.bool x',vL l',vT t']] (fun y=>y=.agg (qI (zn (prodI t t' i k n)))):=by
 refine wK wB Tryz.func116 rfl rfl rfl rfl fun w0=>?_
 have hk1:∀ h,lm (prodI t t' i k h)≤K+K+h:=lm_prodI t t' K n i k (lm_ent ht) (lm_ent ht')
 obtain ⟨r,hr0⟩:∃ r,t[i]? = some r:=⟨_,List.getElem?_eq_getElem hi⟩
 have hrn:=hr r (List.mem_of_getElem? hr0)
 have hro:=(ht.2 r (List.mem_of_getElem? hr0)).2
 have hg:=tv_at t i r hr0
 have hil:i<9223372036854775808:=by have:=ht.1; omega
 repeat (first | refine qP wB rfl rfl rfl rfl rfl rfl ?_ | refine wQ wB rfl rfl rfl rfl ?_ | refine wF wI rfl rfl ?_ | refine wJ ?_ | refine wM ?_ | refine wC ?_)
 refine vw_nilVB 8 1 rfl rfl rfl ?_
 refine qF (fun b:Nat × ZZ=>[(0,some (.sv (.v (.int .i64 (i:Nat))))),(2,some (.sv (.v (.int .i64 (k:Nat))))),(6,some (.sv (.v (.ref [.bool x,vL l,vT t])))),(8,some (.sv (.v (.ref [.bool x',vL l',vT t'])))),(14,some (.sv (.bx 7 0))),(15,some (.bx [.v (.bool false),.nils])),(16,some (.sv (.bx 8 0))),(17,some (.bx [.v (.bool b.2.1),.v (vL b.2.2)])),(20,some (.sv (.v (.int .i64 (n:Nat))))),(22,some (.sv (.v (.int .i64 (b.1:Nat)))))])
  (fun b=>b.1≤n∧b.2=zn (prodI t t' i k b.1)) (fun b=>n - b.1) (0,(false,[])) (fun _=>rfl) ⟨Nat.zero_le _,by simp [prodI,zn,zL]⟩ ⟨rfl,rfl,rfl,rfl,rfl,rfl,rfl,rfl,rfl,rfl,trivial⟩ fun ⟨h,s⟩ hI=>?_
 obtain ⟨hI1,hI2⟩:=hI
 dsimp only at hI1 hI2 ⊢
 subst hI2
 rcases Nat.lt_or_ge h n with hj | hj
 ·obtain ⟨z,hz⟩:∃ z,r[h]? = some z:=⟨_,List.getElem?_eq_getElem (by omega)⟩
  obtain ⟨r',hr1⟩:∃ r,t'[h]? = some r:=⟨_,List.getElem?_eq_getElem (by omega)⟩
  have hk':=hr' r' (List.mem_of_getElem? hr1)
  obtain ⟨z',hz'⟩:∃ z,r'[k]? = some z:=⟨_,List.getElem?_eq_getElem hk'⟩
  have hg1:=zc_at r h z hz
  have hg2:=tv_at t' h r' hr1
  have hg3:=zc_at r' k z' hz'
  have oz:=hro z (List.mem_of_getElem? hz)
  have oz':=(ht'.2 r' (List.mem_of_getElem? hr1)).2 z' (List.mem_of_getElem? hz')
  have e1:=ent_at hr0 hz
  have e2:=ent_at hr1 hz'
  have q1:=zmul_v z z' ⟨oz.1,by omega⟩ ⟨oz'.1,by omega⟩
  have l1:=lm_mul (intOf z) (intOf z')
  have m1:=qL z oz.1
  have m2:=qL z' oz'.1
  have l2:=hk1 h
  have q2:=zadd_v (zn (prodI t t' i k h)) (zn (intOf z*intOf z')) (kI _ (by omega)) (kI _ (by omega))
  rw [wS,wS] at q2
  have e3:prodI t t' i k h+intOf z*intOf z'=prodI t t' i k (h+1):=by
   show _=prodI t t' i k h+intOf (ent t i h)*intOf (ent t' h k)
   rw [e1,e2]
  rw [e3] at q2
  have hkl:=(ht'.2 r' (List.mem_of_getElem? hr1)).1
  obtain ⟨zx,zl⟩:=z
  obtain ⟨zx',zl'⟩:=z'
  repeat (first | refine wG rfl rfl (wU wB rfl rfl rfl (i:=i) rfl rfl rfl hg rfl rfl) rfl ?_ | refine wG rfl rfl (wU wB rfl rfl rfl (i:=h) rfl rfl rfl hg1 rfl rfl) rfl ?_ | refine wG rfl rfl (wU wB rfl rfl rfl (i:=h) rfl rfl rfl hg2 rfl rfl) rfl ?_ | refine wG rfl rfl (wU wB rfl rfl rfl (i:=k) rfl rfl rfl hg3 rfl rfl) rfl ?_ | refine wE wB rfl rfl rfl rfl rfl rfl rfl rfl (q1) rfl rfl ?_ | refine wE wB rfl rfl rfl rfl rfl rfl rfl rfl (q2) rfl rfl ?_ | refine wQ wB rfl rfl rfl rfl ?_ | refine wG rfl rfl (wH rfl rfl rfl rfl (decide_eq_true (by omega)) rfl) rfl ?_ | refine wG rfl rfl (wX rfl rfl rfl rfl (qC (by omega) (by omega)) rfl) rfl ?_ | refine wF wI rfl rfl ?_ | refine wJ ?_ | refine wM ?_ | refine wC ?_ | refine wO ?_ | refine wN rfl ?_)
  exact ⟨(h+1,zn (prodI t t' i k (h+1))),⟨hj,rfl⟩,by dsimp only; omega,rfl,rfl,rfl,rfl,rfl,rfl,rfl,rfl,rfl,rfl,trivial⟩
 ·have hje:h=n:=by omega
  subst hje
  repeat (first | refine wQ wB rfl rfl rfl rfl ?_ | refine wG rfl rfl (wH rfl rfl rfl rfl (decide_eq_false (by omega)) rfl) rfl ?_ | refine wF wI rfl rfl ?_ | refine wJ ?_ | refine wC ?_ | refine wP ?_ | refine qA ?_ | refine wL rfl ?_)
  exact ⟨.inl rfl,_,rfl,rfl⟩
def mulTI (t t':List (List ZZ)):List (List ZZ):=tabF t.length (qB t') fun i k=>zn (prodI t t' i k (qB t))
def mulM (m m':MM):MM:=madeM (zn (intOf m.1*intOf m'.1)) (mulTI m.2 m'.2)
theorem tabF_mem {r c:Nat} {F:Nat→Nat→ZZ} {row:List ZZ} (h:row∈tabF r c F):row.length=c∧∀ z∈row,∃ i k,z=F i k:=by
 unfold tabF at h
 obtain ⟨i,_,rfl⟩:=List.mem_map.1 h
 refine ⟨by simp,fun z hz=>?_⟩
 obtain ⟨k,_,rfl⟩:=List.mem_map.1 hz
 exact ⟨i,k,rfl⟩
set_option maxRecDepth 20000 in
set_option maxHeartbeats 3200000 in
theorem qMul_v (x x':Bool) (l l':List Nat) (t t':List (List ZZ)) (K:Nat) (hK:K≤68719476736) (hc:chk ((x,l),t)=0) (hc':chk ((x',l'),t')=0) (h0:intOf (x,l)≠0) (h0':intOf (x',l')≠0) (hd:okL l∧l.length≤K) (hd':okL l'∧l'.length≤K) (ht:okT t K 68719476736) (ht':okT t' K 68719476736)
  (hr:∀ r∈t,r.length=qB t) (hr':∀ r∈t',r.length=qB t') (hn:t'.length=qB t) :
  wT Tryz.prog 62 [.agg [.bool x,vL l,vT t],.agg [.bool x',vL l',vT t']] (fun y=>y=.tup [vM (mulM ((x,l),t) ((x',l'),t')),.int .i64 0]):=by
 refine wK wB Tryz.func62 rfl rfl rfl rfl fun w0=>?_
 have od:okZ (x,l):=⟨hd.1,Nat.le_trans hd.2 (by omega)⟩
 have od':okZ (x',l'):=⟨hd'.1,Nat.le_trans hd'.2 (by omega)⟩
 have hl:=ht.1
 have hl':=ht'.1
 have hcl:qB t≤68719476736:=by rw [← hn]; exact hl'
 have hcl':qB t'≤68719476736:=by
  unfold qB
  cases t' with
  | nil=>exact Nat.zero_le _
  | cons r t'=>exact (ht'.2 r (List.mem_cons_self ..)).1
 have q1:=checks_v [((x,l),t),((x',l'),t')] (fun m hm=>by
  rcases List.mem_cons.1 hm with rfl | hm
  ·exact ⟨od,by dsimp only; omega⟩
  ·rw [List.mem_singleton.1 hm]; exact ⟨od',by dsimp only; omega⟩) (by show 2≤1099511627776; decide)
 have e:chks [((x,l),t),((x',l'),t')]=0:=by simp only [chks,hc,hc',if_true]
 rw [e] at q1
 have q2:=qsize_v ((x,l),t) (by dsimp only; omega)
 have q3:=qsize_v ((x',l'),t') (by dsimp only; omega)
 dsimp only at q2 q3
 rw [hn] at q3
 have q4:=zmul_v (x,l) (x',l') od od'
 have q5:=table_v t.length (qB t') 116 Tryz.f116 [] [.ref [.int .i64 (qB t:Nat)],.ref [.bool x,vL l,vT t],.ref [.bool x',vL l',vT t']] (fun i k=>zn (prodI t t' i k (qB t))) rfl (fun i k hi hk=>mul1_v x x' l l' t t' (qB t) i k K hcl hK ht ht' hr (fun r h=>by rw [hr' r h]; exact hk) hi hn) (by omega) (by omega)
 have l1:=lm_mul (intOf (x,l)) (intOf (x',l'))
 have m1:=qL (x,l) hd.1
 have m2:=qL (x',l') hd'.1
 dsimp only at m1 m2
 have q6:=made_v (zn (intOf (x,l)*intOf (x',l'))) (mulTI t t') (kI _ (by omega)) (by rw [wS]; exact Int.mul_ne_zero h0 h0') (fun r h z hz=>by
  obtain ⟨i,k,rfl⟩:=(tabF_mem h).2 z hz
  have:=lm_prodI t t' K 0 i k (lm_ent ht) (lm_ent ht') (qB t)
  exact kI _ (by omega)) (by
  show (tabF _ _ _).length≤_
  unfold tabF
  simp only [List.length_map,List.length_range]
  omega) (fun r h=>by rw [(tabF_mem h).1]; omega)
 repeat (first | refine vw_toF 8 [(4,some (.sv (.bx 2 0))),(5,some (.bx [.v (.bool x),.v (vL l),.v (vT t)])),(6,some (.sv (.bx 3 0))),(7,some (.bx [.v (.bool x'),.v (vL l'),.v (vT t')])),(8,some (.sv (.bx 4 0))),(9,some (.bx [.v (.bool false),.nils,.nils])),(14,some (.sv (.v (.int .i64 (t.length:Nat))))),(16,some (.sv (.bx 8 0))),(17,some (.bx [.v (.int .i64 (qB t:Nat))])),(20,some (.sv (.v (.int .i64 (qB t':Nat)))))] [(4,some (.sv (.v (.ref [.bool x,vL l,vT t])))),(6,some (.sv (.v (.ref [.bool x',vL l',vT t'])))),(8,some (.sv (.bx 4 0))),(9,some (.bx [.v (.bool false),.nils,.nils])),(14,some (.sv (.v (.int .i64 (t.length:Nat))))),(16,some (.sv (.v (.ref [.int .i64 (qB t:Nat)])))),(20,some (.sv (.v (.int .i64 (qB t':Nat)))))] rfl ⟨rfl,rfl,rfl,rfl,rfl,rfl,rfl,rfl,rfl,rfl,trivial⟩ (fun h=>vw_frzB 2 2 rfl rfl rfl (vw_frzB 3 3 rfl rfl rfl (vw_frzB 8 8 rfl rfl rfl (vw_to _ (by exact rfl) (by exact ⟨rfl,rfl,rfl,rfl,rfl,rfl,rfl,trivial⟩) h)))) ?_ | refine zM wB rfl rfl rfl rfl rfl rfl rfl rfl rfl (q1) rfl rfl ?_ | refine wE wB rfl rfl rfl rfl rfl rfl rfl rfl (q2) rfl rfl ?_ | refine wE wB rfl rfl rfl rfl rfl rfl rfl rfl (q3) rfl rfl ?_ | refine wE wB rfl rfl rfl rfl rfl rfl rfl rfl (q4) rfl rfl ?_ | refine wE wB rfl rfl rfl rfl rfl rfl rfl rfl (q5) rfl rfl ?_ | refine wE wB rfl rfl rfl rfl rfl rfl rfl rfl (q6) rfl rfl ?_ | refine qP wB rfl rfl rfl rfl rfl rfl ?_ | refine wQ wB rfl rfl rfl rfl ?_ | refine wG rfl rfl (wH rfl rfl rfl rfl (ndF (by omega)) rfl) rfl ?_ | refine wF wI rfl rfl ?_ | refine wJ ?_ | refine wC ?_ | refine wP ?_ | refine wO ?_ | refine wL rfl ?_)
 exact ⟨.inl rfl,_,rfl,rfl⟩
end Go.Proofs.YtkjhfnhgefbhhaaGreat
/- commute.fit, alike, sure: told of trees. ALLOC -/
namespace Go.Proofs.YtkjhfnhgefbhhaaGreat
open Go.RowKit Go.Ev Go.Vl
theorem kJ (x:Rat):qR (qn x)=x:=by
 unfold qR qn
 rw [wS,wS]
 exact Rat.num_divInt_den x
def htM (m:MM):Nat:=htL ((zF m).flatten.map fun q=>qn (qR q)) 0
def fit1 (m:MM):Int:=if chk m=0 then (if m.2.length=qB m.2∧m.2.length≠0 then (if m.2.length≤24∧htM m≤4096 then 0 else 4) else 3) else chk m
def fits:List MM→Int
 | []=>0
 | m :: ms=>if fit1 m=0 then fits ms else fit1 m
def okM (m:MM) (K:Nat):Prop:=okL m.1.2∧m.1.2.length≤K∧okT m.2 K 68719476736∧m.2.flatten.length≤68719476736
theorem chk0 {m:MM} (h:chk m=0):intOf m.1≠0∧evenT m.2=true:=by
 unfold chk at h
 split at h
 ·cases h
 ·rename_i h0
  split at h
  ·rename_i h1
   exact ⟨h0,h1⟩
  ·cases h
theorem ratsT_flat (m:MM):(zF m).flatten=m.2.flatten.map fun x=>qn (Rat.divInt (intOf x) (intOf m.1)):=by
 unfold zF
 rw [List.map_flatten]
theorem ratsT_ok {m:MM} (h:okM m 68719476736) (h0:intOf m.1≠0):∀ q∈(zF m).flatten,okQ q∧intOf q.2≠0∧qn (qR q)=q:=by
 intro q hq
 rw [ratsT_flat] at hq
 obtain ⟨z,hz,rfl⟩:=List.mem_map.1 hq
 obtain ⟨r,hr,hzr⟩:=List.mem_flatten.1 hz
 obtain ⟨g1,g2⟩:=(h.2.2.1.2 r hr).2 z hzr
 obtain ⟨n1,n2⟩:=kO (intOf z) (intOf m.1) h0
 have m1:=qL z g1
 have m2:=qL m.1 h.1
 have m3:=h.2.1
 refine ⟨⟨kI _ (by omega),kI _ (by omega)⟩,?_,by rw [kJ]⟩
 show intOf (zn ((Rat.divInt (intOf z) (intOf m.1)).den:Int))≠0
 rw [wS]
 have:=(Rat.divInt (intOf z) (intOf m.1)).den_nz
 omega
set_option maxRecDepth 20000 in
set_option maxHeartbeats 3200000 in
theorem fit_v (ms:List MM) (h:∀ m∈ms,okM m 68719476736) (hl:ms.length≤1099511627776):wT Tryz.prog 93 [vMs ms] (fun y=>y=.int .i64 (fits ms)):=by
 refine wK wB Tryz.func93 rfl rfl rfl rfl fun w0=>?_
 repeat (first | refine wG rfl rfl (wR wB rfl rfl rfl rfl rfl rfl (mc_len _) rfl) rfl ?_ | refine wQ wB rfl rfl rfl rfl ?_ | refine wF wI rfl rfl ?_ | refine wJ ?_ | refine wM ?_ | refine wC ?_)
 refine qF (fun j:Nat=>[(20,some (.sv (.v (vMs ms)))),(22,some (.sv (.v (.int .i64 (ms.length:Nat))))),(24,some (.sv (.v (.int .i64 (j:Nat)))))])
  (fun j=>j≤ms.length∧fits (ms.drop j)=fits ms) (fun j=>ms.length - j) 0 (fun _=>rfl) ⟨Nat.zero_le _,rfl⟩ ⟨rfl,rfl,rfl,trivial⟩ fun j hI=>?_
 obtain ⟨hJ,hc⟩:=hI
 rcases Nat.lt_or_ge j ms.length with hj | hj
 ·obtain ⟨m,hm⟩:∃ m,ms[j]? = some m:=⟨_,List.getElem?_eq_getElem hj⟩
  have hg:=mc_at ms j m hm
  have hok:=h m (List.mem_of_getElem? hm)
  have od:okZ m.1:=⟨hok.1,Nat.le_trans hok.2.1 (by decide)⟩
  have hml:m.2.length≤68719476736:=hok.2.2.1.1
  have q1:=qSize_v m od (by omega)
  rw [drop_cons' ms j m hm] at hc
  have hc2:(if fit1 m=0 then fits (ms.drop (j+1)) else fit1 m)=fits ms:=hc
  have hf:fit1 m=if chk m=0 then (if m.2.length=qB m.2∧m.2.length≠0 then (if m.2.length≤24∧htM m≤4096 then 0 else 4) else 3) else chk m:=rfl
  by_cases h0:chk m=0
  ·rw [if_pos h0] at q1 hf
   have q2:=qHeight_v m h0 od (chk0 h0).1 (fun r hr=>⟨Nat.le_trans (hok.2.2.1.2 r hr).1 (by decide),fun z hz=>⟨((hok.2.2.1.2 r hr).2 z hz).1,Nat.le_trans ((hok.2.2.1.2 r hr).2 z hz).2 (by decide)⟩⟩) (by omega) (by
    rw [ratsT_flat,List.length_map]
    exact Nat.le_trans hok.2.2.2 (by decide)) (fun q hq=>⟨(ratsT_ok hok (chk0 h0).1 q hq).1,(ratsT_ok hok (chk0 h0).1 q hq).2.1⟩) (fun q hq=>by
    obtain ⟨g1,_,g3⟩:=ratsT_ok hok (chk0 h0).1 q hq
    rw [g3]; exact g1)
   have q2':wT Tryz.prog 60 [vM m] (fun y=>y=.tup [.int .i64 (htM m:Nat),.int .i64 0]):=q2
   clear q2
   obtain ⟨⟨x,l⟩,t⟩:=m
   generalize htM ((x,l),t)=ht at *
   dsimp only at q1 hf hml
   obtain ⟨c,hce⟩:∃ c,qB t=c:=⟨_,rfl⟩
   rw [hce] at q1 hf
   by_cases h1:t.length=c
   ·by_cases h2:t.length=0
    ·rw [if_neg (fun hh=>hh.2 h2)] at hf
     rw [hf,if_neg (by decide)] at hc2
     repeat (first | refine wG rfl rfl (wU wB rfl rfl rfl (i:=j) rfl rfl rfl hg rfl rfl) rfl ?_ | refine wE wB rfl rfl rfl rfl rfl rfl rfl rfl (q1) rfl rfl ?_ | refine qP wB rfl rfl rfl rfl rfl rfl ?_ | refine wQ wB rfl rfl rfl rfl ?_ | refine wG rfl rfl (wH rfl rfl rfl rfl (decide_eq_true (by omega)) rfl) rfl ?_ | refine wG rfl rfl (wH rfl rfl rfl rfl (ndF (by omega)) rfl) rfl ?_ | refine wF wI rfl rfl ?_ | refine wJ ?_ | refine wM ?_ | refine wC ?_ | refine wP ?_ | refine wO ?_ | refine wN rfl ?_ | refine wL rfl ?_)
     refine ⟨.inl rfl,_,rfl,?_⟩
     rw [← hc2]
    ·rw [if_pos ⟨h1,h2⟩] at hf
     by_cases h3:t.length≤24
     ·by_cases h4:ht≤4096
      ·rw [if_pos ⟨h3,h4⟩] at hf
       rw [if_pos hf] at hc2
       repeat (first | refine wG rfl rfl (wU wB rfl rfl rfl (i:=j) rfl rfl rfl hg rfl rfl) rfl ?_ | refine wE wB rfl rfl rfl rfl rfl rfl rfl rfl (q1) rfl rfl ?_ | refine wE wB rfl rfl rfl rfl rfl rfl rfl rfl (q2') rfl rfl ?_ | refine qP wB rfl rfl rfl rfl rfl rfl ?_ | refine wQ wB rfl rfl rfl rfl ?_ | refine wG rfl rfl (wH rfl rfl rfl rfl (decide_eq_true (by omega)) rfl) rfl ?_ | refine wG rfl rfl (wH rfl rfl rfl rfl (decide_eq_false (by omega)) rfl) rfl ?_ | refine wG rfl rfl (wH rfl rfl rfl rfl (ndF (by omega)) rfl) rfl ?_ | refine wG rfl rfl (wX rfl rfl rfl rfl (qC (by omega) (by omega)) rfl) rfl ?_ | refine wF wI rfl rfl ?_ | refine wJ ?_ | refine wM ?_ | refine wC ?_ | refine wO ?_ | refine wN rfl ?_ | refine wL rfl ?_)
       exact ⟨j+1,⟨hj,hc2⟩,by omega,rfl,rfl,rfl,trivial⟩
      ·rw [if_neg (fun hh=>h4 hh.2)] at hf
       rw [hf,if_neg (by decide)] at hc2
       repeat (first | refine wG rfl rfl (wU wB rfl rfl rfl (i:=j) rfl rfl rfl hg rfl rfl) rfl ?_ | refine wE wB rfl rfl rfl rfl rfl rfl rfl rfl (q1) rfl rfl ?_ | refine wE wB rfl rfl rfl rfl rfl rfl rfl rfl (q2') rfl rfl ?_ | refine qP wB rfl rfl rfl rfl rfl rfl ?_ | refine wQ wB rfl rfl rfl rfl ?_ | refine wG rfl rfl (wH rfl rfl rfl rfl (decide_eq_true (by omega)) rfl) rfl ?_ | refine wG rfl rfl (wH rfl rfl rfl rfl (decide_eq_false (by omega)) rfl) rfl ?_ | refine wG rfl rfl (wH rfl rfl rfl rfl (ndF (by omega)) rfl) rfl ?_ | refine wF wI rfl rfl ?_ | refine wJ ?_ | refine wM ?_ | refine wC ?_ | refine wP ?_ | refine wO ?_ | refine wN rfl ?_ | refine wL rfl ?_)
       refine ⟨.inl rfl,_,rfl,?_⟩
       rw [← hc2]
     ·rw [if_neg (fun hh=>h3 hh.1)] at hf
      rw [hf,if_neg (by decide)] at hc2
      repeat (first | refine wG rfl rfl (wU wB rfl rfl rfl (i:=j) rfl rfl rfl hg rfl rfl) rfl ?_ | refine wE wB rfl rfl rfl rfl rfl rfl rfl rfl (q1) rfl rfl ?_ | refine wE wB rfl rfl rfl rfl rfl rfl rfl rfl (q2') rfl rfl ?_ | refine qP wB rfl rfl rfl rfl rfl rfl ?_ | refine wQ wB rfl rfl rfl rfl ?_ | refine wG rfl rfl (wH rfl rfl rfl rfl (decide_eq_true (by omega)) rfl) rfl ?_ | refine wG rfl rfl (wH rfl rfl rfl rfl (decide_eq_false (by omega)) rfl) rfl ?_ | refine wG rfl rfl (wH rfl rfl rfl rfl (ndF (by omega)) rfl) rfl ?_ | refine rr_no rfl rfl rfl rfl rfl rfl ?_ | refine wF wI rfl rfl ?_ | refine wJ ?_ | refine wM ?_ | refine wC ?_ | refine wP ?_ | refine wO ?_ | refine wN rfl ?_ | refine wL rfl ?_)
      refine ⟨.inl rfl,_,rfl,?_⟩
      rw [← hc2]
   ·rw [if_neg (fun hh=>h1 hh.1)] at hf
    rw [hf,if_neg (by decide)] at hc2
    repeat (first | refine wG rfl rfl (wU wB rfl rfl rfl (i:=j) rfl rfl rfl hg rfl rfl) rfl ?_ | refine wE wB rfl rfl rfl rfl rfl rfl rfl rfl (q1) rfl rfl ?_ | refine qP wB rfl rfl rfl rfl rfl rfl ?_ | refine wQ wB rfl rfl rfl rfl ?_ | refine wG rfl rfl (wH rfl rfl rfl rfl (decide_eq_true (by omega)) rfl) rfl ?_ | refine wG rfl rfl (wH rfl rfl rfl rfl (ndT (by omega)) rfl) rfl ?_ | refine wG rfl rfl (wH rfl rfl rfl rfl (ndF (by omega)) rfl) rfl ?_ | refine rr_no rfl rfl rfl rfl rfl rfl ?_ | refine wF wI rfl rfl ?_ | refine wJ ?_ | refine wM ?_ | refine wC ?_ | refine wP ?_ | refine wO ?_ | refine wN rfl ?_ | refine wL rfl ?_)
    refine ⟨.inl rfl,_,rfl,?_⟩
    rw [← hc2]
  ·rw [if_neg h0] at q1 hf
   rw [hf,if_neg h0] at hc2
   obtain ⟨⟨x,l⟩,t⟩:=m
   generalize chk ((x,l),t)=c at *
   repeat (first | refine wG rfl rfl (wU wB rfl rfl rfl (i:=j) rfl rfl rfl hg rfl rfl) rfl ?_ | refine wE wB rfl rfl rfl rfl rfl rfl rfl rfl (q1) rfl rfl ?_ | refine qP wB rfl rfl rfl rfl rfl rfl ?_ | refine wQ wB rfl rfl rfl rfl ?_ | refine wG rfl rfl (wH rfl rfl rfl rfl (decide_eq_true (by omega)) rfl) rfl ?_ | refine wG rfl rfl (wH rfl rfl rfl rfl (ndT (by omega)) rfl) rfl ?_ | refine wF wI rfl rfl ?_ | refine wJ ?_ | refine wM ?_ | refine wC ?_ | refine wP ?_ | refine wO ?_ | refine wN rfl ?_)
   refine ⟨.inl rfl,_,rfl,?_⟩
   rw [← hc2]
 ·rw [List.drop_of_length_le hj] at hc
  repeat (first | refine wQ wB rfl rfl rfl rfl ?_ | refine wG rfl rfl (wH rfl rfl rfl rfl (decide_eq_false (by omega)) rfl) rfl ?_ | refine wF wI rfl rfl ?_ | refine wJ ?_ | refine wC ?_ | refine wP ?_ | refine qA ?_ | refine wL rfl ?_)
  refine ⟨.inl rfl,_,rfl,?_⟩
  rw [← hc]
  exact rfl
def alikeI (m m':MM):Int:=if fits [m,m']=0 then (if m.2.length=m'.2.length then 0 else 2) else fits [m,m']
set_option maxRecDepth 20000 in
set_option maxHeartbeats 3200000 in
theorem alike_v (x x':Bool) (l l':List Nat) (t t':List (List ZZ)) (h:okM ((x,l),t) 68719476736) (h':okM ((x',l'),t') 68719476736):wT Tryz.prog 50 [.agg [.bool x,vL l,vT t],.agg [.bool x',vL l',vT t']] (fun y=>y=.int .i64 (alikeI ((x,l),t) ((x',l'),t'))):=by
 refine wK wB Tryz.func50 rfl rfl rfl rfl fun w0=>?_
 have fin:∀ {u v:Int},u=v→V.int .i64 u=V.int .i64 v:=fun h=>by rw [h]
 have q1:=fit_v [((x,l),t),((x',l'),t')] (fun m hm=>by
  rcases List.mem_cons.1 hm with rfl | hm
  ·exact h
  ·rw [List.mem_singleton.1 hm]; exact h') (by show 2≤1099511627776; decide)
 have hl:t.length≤68719476736:=h.2.2.1.1
 have hl':t'.length≤68719476736:=h'.2.2.1.1
 unfold alikeI
 generalize fits [((x,l),t),((x',l'),t')]=c at *
 dsimp only
 by_cases h0:c=0
 ·by_cases h1:t.length=t'.length
  ·repeat (first | refine wG rfl rfl (wR wB rfl rfl rfl rfl rfl rfl (zY t) rfl) rfl ?_ | refine wG rfl rfl (wR wB rfl rfl rfl rfl rfl rfl (zY t') rfl) rfl ?_ | refine zM wB rfl rfl rfl rfl rfl rfl rfl rfl rfl (q1) rfl rfl ?_ | refine wQ wB rfl rfl rfl rfl ?_ | refine wG rfl rfl (wH rfl rfl rfl rfl (ndF (by omega)) rfl) rfl ?_ | refine wF wI rfl rfl ?_ | refine wJ ?_ | refine wC ?_ | refine wP ?_ | refine wO ?_ | refine wL rfl ?_)
   refine ⟨.inl rfl,_,rfl,fin ?_⟩
   rw [if_pos h0,if_pos h1]
  ·repeat (first | refine wG rfl rfl (wR wB rfl rfl rfl rfl rfl rfl (zY t) rfl) rfl ?_ | refine wG rfl rfl (wR wB rfl rfl rfl rfl rfl rfl (zY t') rfl) rfl ?_ | refine zM wB rfl rfl rfl rfl rfl rfl rfl rfl rfl (q1) rfl rfl ?_ | refine wQ wB rfl rfl rfl rfl ?_ | refine wG rfl rfl (wH rfl rfl rfl rfl (ndT (by omega)) rfl) rfl ?_ | refine wG rfl rfl (wH rfl rfl rfl rfl (ndF (by omega)) rfl) rfl ?_ | refine wF wI rfl rfl ?_ | refine wJ ?_ | refine wC ?_ | refine wP ?_ | refine wO ?_ | refine wN rfl ?_ | refine wL rfl ?_)
   refine ⟨.inl rfl,_,rfl,fin ?_⟩
   rw [if_pos h0,if_neg h1]
 ·repeat (first | refine zM wB rfl rfl rfl rfl rfl rfl rfl rfl rfl (q1) rfl rfl ?_ | refine wQ wB rfl rfl rfl rfl ?_ | refine wG rfl rfl (wH rfl rfl rfl rfl (ndT (by omega)) rfl) rfl ?_ | refine wF wI rfl rfl ?_ | refine wJ ?_ | refine wC ?_ | refine wP ?_ | refine wN rfl ?_)
  refine ⟨.inl rfl,_,rfl,fin ?_⟩
  rw [if_neg h0]
set_option maxRecDepth 20000 in
set_option maxHeartbeats 1600000 in
theorem sureM_v (x:Bool) (l:List Nat) (t:List (List ZZ)):wT Tryz.prog 95 [.agg [.bool x,vL l,vT t],.int .i64 0] (fun y=>y=.agg [.bool x,vL l,vT t]):=by
 refine wK wB Tryz.func95 rfl rfl rfl rfl fun w0=>?_
 repeat (first | refine qP wB rfl rfl rfl rfl rfl rfl ?_ | refine wQ wB rfl rfl rfl rfl ?_ | refine wG rfl rfl (wH rfl rfl rfl rfl (ndF (by omega)) rfl) rfl ?_ | refine wF wI rfl rfl ?_ | refine wJ ?_ | refine wC ?_ | refine wP ?_ | refine wO ?_ | refine wL rfl ?_)
 exact ⟨.inl rfl,_,rfl,rfl⟩
set_option maxRecDepth 20000 in
set_option maxHeartbeats 1600000 in
theorem sureB_v (b:Bool):wT Tryz.prog 94 [.bool b,.int .i64 0] (fun y=>y=.bool b):=by
 refine wK wB Tryz.func94 rfl rfl rfl rfl fun w0=>?_
 repeat (first | refine wQ wB rfl rfl rfl rfl ?_ | refine wG rfl rfl (wH rfl rfl rfl rfl (ndF (by omega)) rfl) rfl ?_ | refine wF wI rfl rfl ?_ | refine wJ ?_ | refine wC ?_ | refine wP ?_ | refine wO ?_ | refine wL rfl ?_)
 exact ⟨.inl rfl,_,rfl,rfl⟩
end Go.Proofs.YtkjhfnhgefbhhaaGreat
/- simileref11.Rows: told of trees. ALLOC -/
namespace Go.Proofs.YtkjhfnhgefbhhaaGreat
open Go.RowKit Go.Ev Go.Vl
def q0:List V:=[.bool false,.list [],.bool false,.list []]
set_option maxRecDepth 20000 in
set_option maxHeartbeats 3200000 in
theorem rows11_aux (x:Bool) (l:List Nat) (t:List (List ZZ)) (hd:okZ (x,l)) (h0:intOf (x,l)≠0) (ht:∀ r∈t,r.length≤1099511627776∧∀ z∈r,okZ z) (hl:t.length≤1099511627776):wT Tryz.prog 74 [.agg [.bool x,vL l,vT t]] (fun y=>y=.list (tabQ (zF ((x,l),t)))):=by
 refine wK wB Tryz.func74 rfl rfl rfl rfl fun w0=>?_
 repeat (first | refine wG rfl rfl (wR wB rfl rfl rfl rfl rfl rfl (zY t) rfl) rfl ?_ | refine wQ wB rfl rfl rfl rfl ?_ | refine wF wI rfl rfl ?_ | refine wJ ?_ | refine wM ?_ | refine wC ?_)
 refine vw_nilOwn (d:=3) (id:=1) (k:=1) (T:=64) rfl rfl rfl rfl ?_
 refine qF (fun j:Nat=>[(2,some (.sv (.bx 1 0))),(3,some (.bx [.v (.bool x),.v (vL l),.v (vT t)])),(6,some (.sv (.own 1 64 1 (tabQ ((t.take j).map fun r=>r.map fun x'=>qn (Rat.divInt (intOf x') (intOf (x,l)))))))),
  (20,some (.sv (.v (vT t)))),(22,some (.sv (.v (.int .i64 (t.length:Nat))))),(24,some (.sv (.v (.int .i64 (j:Nat)))))])
  (fun j=>j≤t.length) (fun j=>t.length - j) 0 (fun _=>rfl) (Nat.zero_le _) ⟨rfl,rfl,⟨_,rfl⟩,rfl,rfl,rfl,trivial⟩ fun j hJ=>?_
 rcases Nat.lt_or_ge j t.length with hj | hj
 ·obtain ⟨r,hr⟩:∃ r,t[j]? = some r:=⟨_,List.getElem?_eq_getElem hj⟩
  obtain ⟨hrl,hro⟩:=ht r (List.mem_of_getElem? hr)
  have hg:=tv_at t j r hr
  obtain ⟨R,hRe⟩:∃ R,(r.map fun x'=>qn (Rat.divInt (intOf x') (intOf (x,l))))=R:=⟨_,rfl⟩
  have hRl:(R.map zN).length=r.length:=by rw [← hRe,List.length_map,List.length_map]
  have hrep:List.replicate r.length q0=(((R.map zN).take 0)++List.replicate ((R.map zN).length - 0) q0):=by rw [hRl]; simp
  repeat (first | refine wG rfl rfl (wR wB rfl rfl rfl rfl rfl rfl (zc_len r) rfl) rfl ?_ | refine wG rfl rfl (wU wB rfl rfl rfl (i:=j) rfl rfl rfl hg rfl rfl) rfl ?_ | refine wG rfl rfl (z8 (id:=7000) (l:=r.length) (c:=r.length) (m:=4) (bb:=64) wB rfl rfl rfl rfl rfl rfl rfl rfl rfl rfl (Nat.le_refl _) rfl (by omega) (by simp only [maxLen]; omega) rfl rfl rfl hrep) rfl ?_ | refine wQ wB rfl rfl rfl rfl ?_ | refine wG rfl rfl (wH rfl rfl rfl rfl (decide_eq_true (by omega)) rfl) rfl ?_ | refine wF wI rfl rfl ?_ | refine wJ ?_ | refine wM ?_ | refine wC ?_ | refine wO ?_ | refine wN rfl ?_)
  refine qF (fun k:Nat=>[(2,some (.sv (.bx 1 0))),(3,some (.bx [.v (.bool x),.v (vL l),.v (vT t)])),(6,some (.sv (.own 1 64 1 (tabQ ((t.take j).map fun r=>r.map fun x'=>qn (Rat.divInt (intOf x') (intOf (x,l)))))))),
   (20,some (.sv (.v (vT t)))),(22,some (.sv (.v (.int .i64 (t.length:Nat))))),(24,some (.sv (.v (.int .i64 (j:Nat))))),
   (12,some (.sv (.own 2 89 4 ((R.map zN).take k++List.replicate ((R.map zN).length - k) q0)))),(38,some (.sv (.v (.list (r.map qI))))),(40,some (.sv (.v (.int .i64 (r.length:Nat))))),(42,some (.sv (.v (.int .i64 (k:Nat)))))])
   (fun k=>k≤r.length) (fun k=>r.length - k) 0 (fun _=>rfl) (Nat.zero_le _) ⟨rfl,rfl,⟨_,rfl⟩,rfl,rfl,rfl,⟨_,rfl⟩,rfl,rfl,rfl,trivial⟩ fun k hK=>?_
  rcases Nat.lt_or_ge k r.length with hk | hk
  ·obtain ⟨z,hz⟩:∃ z,r[k]? = some z:=⟨_,List.getElem?_eq_getElem hk⟩
   have hzo:=hro z (List.mem_of_getElem? hz)
   have hg2:=zc_at r k z hz
   have q2:=rmake_v z (x,l) hzo hd h0
   have hgR:(R.map zN)[k]? = some (zN (qn (Rat.divInt (intOf z) (intOf (x,l))))):=by
    rw [← hRe,List.getElem?_map,List.getElem?_map,hz]
    rfl
   have hset:=set_step (R.map zN) q0 k _ hgR
   have hown:((R.map zN).take k++List.replicate ((R.map zN).length - k) q0)[k]? = some q0:=by
    rw [List.getElem?_append_right (by rw [List.length_take]; omega),List.getElem?_replicate,if_pos (by rw [List.length_take]; omega)]
   have hlen:k<((R.map zN).take k++List.replicate ((R.map zN).length - k) q0).length:=by rw [List.length_append,List.length_take,List.length_replicate]; omega
   generalize (R.map zN).take k++List.replicate ((R.map zN).length - k) q0=row at *
   unfold q0 at hown
   obtain ⟨zx,zl⟩:=z
   repeat (first | refine wG rfl rfl (wU wB rfl rfl rfl (i:=k) rfl rfl rfl hg2 rfl rfl) rfl ?_ | refine wE wB rfl rfl rfl rfl rfl rfl rfl rfl (q2) rfl rfl ?_ | refine wG rfl rfl (qY (i:=k) wB rfl rfl rfl rfl rfl rfl hlen rfl rfl rfl) rfl ?_ | refine wG rfl rfl (zD wB rfl rfl rfl hown rfl rfl rfl rfl (Nat.le_refl _) rfl hset) rfl ?_ | refine qP wB rfl rfl rfl rfl rfl rfl ?_ | refine wQ wB rfl rfl rfl rfl ?_ | refine wG rfl rfl (wH rfl rfl rfl rfl (decide_eq_true (by omega)) rfl) rfl ?_ | refine wG rfl rfl (wX rfl rfl rfl rfl (qC (by omega) (by omega)) rfl) rfl ?_ | refine wF wI rfl rfl ?_ | refine wJ ?_ | refine wM ?_ | refine wC ?_ | refine wO ?_ | refine wN rfl ?_)
   exact ⟨k+1,hk,by omega,rfl,rfl,⟨_,rfl⟩,rfl,rfl,rfl,⟨_,rfl⟩,rfl,rfl,rfl,trivial⟩
  ·have hke:k=r.length:=by omega
   subst hke
   have hfull:(R.map zN).take r.length++List.replicate ((R.map zN).length - r.length) q0=R.map zN:=by
    rw [List.take_of_length_le (by omega),hRl,Nat.sub_self]
    simp
   rw [hfull]
   have hs:tabQ ((t.take j).map fun r=>r.map fun x'=>qn (Rat.divInt (intOf x') (intOf (x,l))))++[[vQs R]]=tabQ ((t.take (j+1)).map fun r=>r.map fun x'=>qn (Rat.divInt (intOf x') (intOf (x,l)))):=by
    rw [List.take_add_one,hr,← hRe]
    unfold tabQ
    simp
   have hlen:(tabQ ((t.take j).map fun r=>r.map fun x'=>qn (Rat.divInt (intOf x') (intOf (x,l))))).length=j:=by rw [tq_len,List.length_map,List.length_take]; omega
   have row1:∀ e∈[[vQs R]],e.length=1:=fun e h=>by rw [List.mem_singleton.1 h]; rfl
   repeat (first | refine wQ wB rfl rfl rfl rfl ?_ | refine kE rfl rfl rfl (qT (id:=7002) (es2:=[[vQs R]]) (m:=1) (bb:=24) wB rfl rfl rfl rfl rfl rfl rfl rfl rfl rfl rfl row1 rfl (by simp only [maxLen,List.length_singleton]; omega) (by simp only [List.length_singleton]; omega) rfl rfl hs) rfl ?_ | refine wG rfl rfl (wH rfl rfl rfl rfl (decide_eq_false (by omega)) rfl) rfl ?_ | refine wG rfl rfl (wX rfl rfl rfl rfl (qC (by omega) (by omega)) rfl) rfl ?_ | refine rr_vf wB rfl rfl rfl rfl rfl ?_ | refine wF wI rfl rfl ?_ | refine wJ ?_ | refine wC ?_ | refine qA ?_ | refine wL rfl ?_)
   exact ⟨j+1,hj,by omega,rfl,rfl,⟨_,rfl⟩,rfl,rfl,rfl,trivial⟩
 ·have hje:j=t.length:=by omega
  subst hje
  rw [List.take_length]
  repeat (first | refine wQ wB rfl rfl rfl rfl ?_ | refine wG rfl rfl (wH rfl rfl rfl rfl (decide_eq_false (by omega)) rfl) rfl ?_ | refine wF wI rfl rfl ?_ | refine wJ ?_ | refine wC ?_ | refine wP ?_ | refine qA ?_ | refine wL rfl ?_)
  exact ⟨.inl rfl,_,rfl,rfl⟩
end Go.Proofs.YtkjhfnhgefbhhaaGreat
