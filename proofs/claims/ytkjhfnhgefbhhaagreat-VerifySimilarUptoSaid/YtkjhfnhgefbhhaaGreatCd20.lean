/- commute.does, Does: told of trees. ALLOC -/
import Derived.Test.YtkjhfnhgefbhhaaGreatCd19
import Derived.Test.YtkjhfnhgefbhhaaGreatCd17
import Derived.Test.YtkjhfnhgefbhhaaGreatCd07
set_option linter.all false
namespace Go.Proofs.YtkjhfnhgefbhhaaGreat
open Go.RowKit Go.Ev Go.Vl
theorem even_of (T:List (List ZZ)) (c:Nat) (h:∀ r∈T,r.length=c):evenT T=true:=by
 unfold evenT
 rw [List.all_eq_true]
 intro r hr
 cases T with
 | nil=>cases hr
 | cons r0 T =>
  rw [decide_eq_true_eq,h r hr]
  exact (h r0 (List.mem_cons_self ..)).symm
theorem of_even (T:List (List ZZ)) (h:evenT T=true):∀ r∈T,r.length=qB T:=by
 unfold evenT at h
 rw [List.all_eq_true] at h
 intro r hr
 have:=h r hr
 rw [decide_eq_true_eq] at this
 exact this
theorem chk_of (m:MM) (h0:intOf m.1≠0) (he:evenT m.2=true):chk m=0:=by
 unfold chk
 rw [if_neg h0,if_pos he]
theorem mulM_ok (m m':MM) (h:okM m 68719476736) (h':okM m' 68719476736) (h0:intOf m.1≠0) (h0':intOf m'.1≠0) (hc':qB m'.2≤68719476736) :
  chk (mulM m m')=0∧(okL (mulM m m').1.2∧(mulM m m').1.2.length≤549755813888)∧(∀ r∈(mulM m m').2,r.length≤1099511627776∧∀ z∈r,okL z.2∧z.2.length≤549755813888)∧(mulM m m').2.length≤1099511627776:=by
 have hd0:intOf (zn (intOf m.1*intOf m'.1))≠0:=by rw [wS]; exact Int.mul_ne_zero h0 h0'
 obtain ⟨hS1,hS2,_⟩:=madeS_spec (zn (intOf m.1*intOf m'.1)) (mulTI m.2 m'.2) hd0
 have l1:=lm_mul (intOf m.1) (intOf m'.1)
 have m1:=qL m.1 h.1
 have m2:=qL m'.1 h'.1
 have m3:=h.2.1
 have m4:=h'.2.1
 have hrow:∀ r∈(mulM m m').2,r.length=qB m'.2∧∀ z∈r,okL z.2∧z.2.length≤549755813888:=by
  intro r hr
  obtain ⟨r',h1,rfl⟩:=List.mem_map.1 hr
  obtain ⟨g1,g2⟩:=tabF_mem h1
  refine ⟨by rw [List.length_map]; exact g1,fun z hz=>?_⟩
  obtain ⟨z',hz',rfl⟩:=List.mem_map.1 hz
  obtain ⟨i,k,rfl⟩:=g2 z' hz'
  have hp:=lm_prodI m.2 m'.2 68719476736 0 i k (lm_ent h.2.2.1) (lm_ent h'.2.2.1) (qB m.2)
  have hcc:qB m.2≤68719476736:=by
   unfold qB
   cases hm:m.2 with
   | nil=>exact Nat.zero_le _
   | cons r t =>
    exact (h.2.2.1.2 r (by rw [hm]; exact List.mem_cons_self ..)).1
  refine ⟨zn_okL _,?_⟩
  rw [zn_lm]
  refine Nat.le_trans (lm_mono (y:=prodI m.2 m'.2 i k (qB m.2)) ?_) (by omega)
  rw [Int.natAbs_tdiv,wS]
  exact Nat.div_le_self ..
 refine ⟨chk_of _ ?_ (even_of _ _ fun r hr=>(hrow r hr).1),⟨zn_okL _,?_⟩,fun r hr=>⟨by rw [(hrow r hr).1]; omega,(hrow r hr).2⟩,?_⟩
 ·show intOf (zn (if qB (mulTI m.2 m'.2)=0 then 1 else (intOf (zn (intOf m.1*intOf m'.1))).tdiv (madeS _ _)))≠0
  rw [wS]
  split
  ·decide
  ·intro hz
   have:=Int.mul_tdiv_cancel' hS2
   rw [hz,Int.mul_zero] at this
   exact hd0 this.symm
 ·show lm (if qB (mulTI m.2 m'.2)=0 then 1 else (intOf (zn (intOf m.1*intOf m'.1))).tdiv (madeS _ _))≤_
  rw [wS] at hd0
  split
  ·exact Nat.le_trans (lm_dvd (Int.one_dvd _) hd0) (by omega)
  ·refine Nat.le_trans (lm_mono (y:=intOf m.1*intOf m'.1) ?_) (by omega)
   rw [Int.natAbs_tdiv,wS]
   exact Nat.div_le_self ..
 ·show (List.map _ (tabF _ _ _)).length≤_
  unfold tabF
  simp only [List.length_map,List.length_range]
  exact Nat.le_trans h.2.2.1.1 (by decide)
set_option maxRecDepth 20000 in
set_option maxHeartbeats 3200000 in
theorem does_v (x x':Bool) (l l':List Nat) (t t':List (List ZZ)) (h:okM ((x,l),t) 68719476736) (h':okM ((x',l'),t') 68719476736) (hc:chk ((x,l),t)=0) (hc':chk ((x',l'),t')=0) (hn:t.length=qB t) (hn':t'.length=qB t') (hnn:t.length=t'.length) :
  wT Tryz.prog 51 [.agg [.bool x,vL l,vT t],.agg [.bool x',vL l',vT t']] (fun y=>y=.bool (sameM (mulM ((x,l),t) ((x',l'),t')) (mulM ((x',l'),t') ((x,l),t)))):=by
 refine wK wB Tryz.func51 rfl rfl rfl rfl fun w0=>?_
 obtain ⟨h0,he⟩:=chk0 hc
 obtain ⟨h0',he'⟩:=chk0 hc'
 have q1:=qMul_v x x' l l' t t' 68719476736 (Nat.le_refl _) hc hc' h0 h0' ⟨h.1,h.2.1⟩ ⟨h'.1,h'.2.1⟩ h.2.2.1 h'.2.2.1 (of_even _ he) (of_even _ he') (by omega)
 have q2:=qMul_v x' x l' l t' t 68719476736 (Nat.le_refl _) hc' hc h0' h0 ⟨h'.1,h'.2.1⟩ ⟨h.1,h.2.1⟩ h'.2.2.1 h.2.2.1 (of_even _ he') (of_even _ he) (by omega)
 have o1:=mulM_ok ((x,l),t) ((x',l'),t') h h' h0 h0' (by have:=h'.2.2.1.1; dsimp only at this ⊢; omega)
 have o2:=mulM_ok ((x',l'),t') ((x,l),t) h' h h0' h0 (by have:=h.2.2.1.1; dsimp only at this ⊢; omega)
 generalize mulM ((x,l),t) ((x',l'),t')=P at *
 generalize mulM ((x',l'),t') ((x,l),t)=R at *
 obtain ⟨⟨y,k⟩,u⟩:=P
 obtain ⟨⟨y',k'⟩,u'⟩:=R
 obtain ⟨a1,a2,a3,a4⟩:=o1
 obtain ⟨b1,b2,b3,b4⟩:=o2
 have q3:=qEqual_v y y' k k' u u' a1 b1 a2 b2 a3 a4 b3 b4
 have q4:=sureM_v y k u
 have q5:=sureM_v y' k' u'
 have q6:=sureB_v (sameM ((y,k),u) ((y',k'),u'))
 repeat (first | refine wQ wB rfl rfl rfl rfl ?_ | refine wE wB rfl rfl rfl rfl rfl rfl rfl rfl (q1) rfl rfl ?_ | refine wE wB rfl rfl rfl rfl rfl rfl rfl rfl (q2) rfl rfl ?_ | refine wE wB rfl rfl rfl rfl rfl rfl rfl rfl (q3) rfl rfl ?_ | refine wE wB rfl rfl rfl rfl rfl rfl rfl rfl (q4) rfl rfl ?_ | refine wE wB rfl rfl rfl rfl rfl rfl rfl rfl (q5) rfl rfl ?_ | refine wE wB rfl rfl rfl rfl rfl rfl rfl rfl (q6) rfl rfl ?_ | refine wF wI rfl rfl ?_ | refine wJ ?_ | refine wC ?_ | refine wP ?_)
 exact ⟨.inl rfl,_,rfl,rfl⟩
theorem fits2 {m m':MM} (h:fits [m,m']=0):fit1 m=0∧fit1 m'=0:=by
 have e:fits [m,m']=if fit1 m=0 then (if fit1 m'=0 then 0 else fit1 m') else fit1 m:=rfl
 rw [e] at h
 split at h
 ·rename_i h1
  split at h
  ·rename_i h2
   exact ⟨h1,h2⟩
  ·rename_i h2
   exact absurd h h2
 ·rename_i h1
  exact absurd h h1
theorem fit10 {m:MM} (h:fit1 m=0):chk m=0∧m.2.length=qB m.2∧m.2.length≠0∧m.2.length≤24∧htM m≤4096:=by
 unfold fit1 at h
 split at h
 ·rename_i h1
  split at h
  ·rename_i h2
   split at h
   ·rename_i h3
    exact ⟨h1,h2.1,h2.2,h3.1,h3.2⟩
   ·cases h
  ·cases h
 ·rename_i h1
  exact absurd h h1
def doesR (m m':MM):Bool:=if alikeI m m'=0 then sameM (mulM m m') (mulM m' m) else false
set_option maxRecDepth 20000 in
set_option maxHeartbeats 3200000 in
theorem Does_v (x x':Bool) (l l':List Nat) (t t':List (List ZZ)) (h:okM ((x,l),t) 68719476736) (h':okM ((x',l'),t') 68719476736) :
  wT Tryz.prog 14 [.agg [.bool x,vL l,vT t],.agg [.bool x',vL l',vT t']] (fun y=>y=.tup [.bool (doesR ((x,l),t) ((x',l'),t')),.int .i64 (alikeI ((x,l),t) ((x',l'),t'))]):=by
 refine wK wB Tryz.func14 rfl rfl rfl rfl fun w0=>?_
 have q1:=alike_v x x' l l' t t' h h'
 unfold doesR
 obtain ⟨c,hce⟩:∃ c,alikeI ((x,l),t) ((x',l'),t')=c:=⟨_,rfl⟩
 rw [hce] at q1 ⊢
 by_cases h0:c=0
 ·subst h0
  have ha:fits [((x,l),t),((x',l'),t')]=0∧t.length=t'.length:=by
   unfold alikeI at hce
   split at hce
   ·rename_i h1
    split at hce
    ·rename_i h2
     exact ⟨h1,h2⟩
    ·cases hce
   ·rename_i h1
    exact absurd hce h1
  obtain ⟨f1,f2⟩:=fits2 ha.1
  obtain ⟨g1,g2,_⟩:=fit10 f1
  obtain ⟨k1,k2,_⟩:=fit10 f2
  have q2:=does_v x x' l l' t t' h h' g1 k1 g2 k2 ha.2
  rw [if_pos rfl]
  repeat (first | refine wQ wB rfl rfl rfl rfl ?_ | refine wG rfl rfl (wH rfl rfl rfl rfl (ndF (by omega)) rfl) rfl ?_ | refine wE wB rfl rfl rfl rfl rfl rfl rfl rfl (q1) rfl rfl ?_ | refine wE wB rfl rfl rfl rfl rfl rfl rfl rfl (q2) rfl rfl ?_ | refine wF wI rfl rfl ?_ | refine wJ ?_ | refine wC ?_ | refine wP ?_ | refine wO ?_ | refine wL rfl ?_)
  exact ⟨.inl rfl,_,rfl,rfl⟩
 ·rw [if_neg h0]
  repeat (first | refine wQ wB rfl rfl rfl rfl ?_ | refine wG rfl rfl (wH rfl rfl rfl rfl (ndT (by omega)) rfl) rfl ?_ | refine wE wB rfl rfl rfl rfl rfl rfl rfl rfl (q1) rfl rfl ?_ | refine wF wI rfl rfl ?_ | refine wJ ?_ | refine wC ?_ | refine wP ?_ | refine wN rfl ?_)
  exact ⟨.inl rfl,_,rfl,rfl⟩
end Go.Proofs.YtkjhfnhgefbhhaaGreat
/- simileref11.Size, Check: told of trees. ALLOC -/
namespace Go.Proofs.YtkjhfnhgefbhhaaGreat
open Go.RowKit Go.Ev Go.Vl
set_option maxRecDepth 20000 in
set_option maxHeartbeats 1600000 in
theorem size11_v (x:Bool) (l:List Nat) (t:List (List ZZ)) (hl:t.length≤1099511627776):wT Tryz.prog 43 [.agg [.bool x,vL l,vT t]] (fun y=>y=.tup [.int .i64 (t.length:Nat),.int .i64 (qB t:Nat)]):=by
 refine wK wB Tryz.func43 rfl rfl rfl rfl fun w0=>?_
 cases t with
 | nil =>
  repeat (first | refine wG rfl rfl (wR wB rfl rfl rfl rfl rfl rfl (zY []) rfl) rfl ?_ | refine wQ wB rfl rfl rfl rfl ?_ | refine wG rfl rfl (wH rfl rfl rfl rfl (rfl) rfl) rfl ?_ | refine wF wI rfl rfl ?_ | refine wJ ?_ | refine wC ?_ | refine wP ?_ | refine wN rfl ?_)
  exact ⟨.inl rfl,_,rfl,rfl⟩
 | cons r t =>
  have hc:(r :: t).length=t.length+1:=rfl
  have hg:=tv_at (r :: t) 0 r rfl
  repeat (first | refine wG rfl rfl (wR wB rfl rfl rfl rfl rfl rfl (zY (r :: t)) rfl) rfl ?_ | refine wG rfl rfl (wR wB rfl rfl rfl rfl rfl rfl (zc_len r) rfl) rfl ?_ | refine wG rfl rfl (wU wB rfl rfl rfl (i:=0) rfl rfl rfl hg rfl rfl) rfl ?_ | refine wQ wB rfl rfl rfl rfl ?_ | refine wG rfl rfl (wH rfl rfl rfl rfl (decide_eq_false (by omega)) rfl) rfl ?_ | refine wF wI rfl rfl ?_ | refine wJ ?_ | refine wC ?_ | refine wP ?_ | refine wO ?_ | refine wL rfl ?_)
  exact ⟨.inl rfl,_,rfl,rfl⟩
set_option maxRecDepth 20000 in
set_option maxHeartbeats 3200000 in
theorem check11_v (x:Bool) (l:List Nat) (t:List (List ZZ)) (hd:okZ (x,l)) (hl:t.length≤1099511627776):wT Tryz.prog 42 [.agg [.bool x,vL l,vT t]] (fun y=>y=.int .i64 (chk ((x,l),t))):=by
 refine wK wB Tryz.func42 rfl rfl rfl rfl fun w0=>?_
 have q1:=rsign_v (x,l) hd
 have fin:∀ {u v:Int},u=v→V.int .i64 u=V.int .i64 v:=fun h=>by rw [h]
 have hs:=sgn_is (intOf (x,l))
 unfold chk
 dsimp only
 generalize intOf (x,l)=d at *
 generalize sgn d=sd at *
 by_cases h0:d=0
 ·repeat (first | refine wE wB rfl rfl rfl rfl rfl rfl rfl rfl (q1) rfl rfl ?_ | refine wQ wB rfl rfl rfl rfl ?_ | refine wG rfl rfl (wH rfl rfl rfl rfl (decide_eq_true (by omega)) rfl) rfl ?_ | refine wF wI rfl rfl ?_ | refine wJ ?_ | refine wC ?_ | refine wP ?_ | refine wN rfl ?_)
  refine ⟨.inl rfl,_,rfl,fin ?_⟩
  rw [if_pos h0]
 ·rw [if_neg h0]
  repeat (first | refine wG rfl rfl (wR wB rfl rfl rfl rfl rfl rfl (zY t) rfl) rfl ?_ | refine wE wB rfl rfl rfl rfl rfl rfl rfl rfl (q1) rfl rfl ?_ | refine wQ wB rfl rfl rfl rfl ?_ | refine wG rfl rfl (wH rfl rfl rfl rfl (decide_eq_false (by omega)) rfl) rfl ?_ | refine wF wI rfl rfl ?_ | refine wJ ?_ | refine wM ?_ | refine wC ?_ | refine wO ?_ | refine wL rfl ?_)
  refine qF (fun j:Nat=>[(2,some (.sv (.bx 1 0))),(3,some (.bx [.v (.bool x),.v (vL l),.v (vT t)])),(20,some (.sv (.v (vT t)))),(22,some (.sv (.v (.int .i64 (t.length:Nat))))),(24,some (.sv (.v (.int .i64 (j:Nat)))))])
   (fun j=>j≤t.length∧∀ r∈t.take j,r.length=qB t) (fun j=>t.length - j) 0 (fun _=>rfl) ⟨Nat.zero_le _,by simp⟩ ⟨rfl,rfl,rfl,rfl,rfl,trivial⟩ fun j hI=>?_
  obtain ⟨hJ,hq⟩:=hI
  rcases Nat.lt_or_ge j t.length with hj | hj
  ·obtain ⟨r,hr⟩:∃ r,t[j]? = some r:=⟨_,List.getElem?_eq_getElem hj⟩
   have hg:=tv_at t j r hr
   obtain ⟨r0,hr0⟩:∃ r,t[0]? = some r:=⟨_,List.getElem?_eq_getElem (by omega)⟩
   have hg0:=tv_at t 0 r0 hr0
   have hc:qB t=r0.length:=by
    unfold qB
    cases t with
    | nil=>simp at hr0
    | cons a t=>simp at hr0; rw [hr0]; rfl
   by_cases he:r.length=r0.length
   ·repeat (first | refine wG rfl rfl (wR wB rfl rfl rfl rfl rfl rfl (zc_len r) rfl) rfl ?_ | refine wG rfl rfl (wR wB rfl rfl rfl rfl rfl rfl (zc_len r0) rfl) rfl ?_ | refine wG rfl rfl (wU wB rfl rfl rfl (i:=j) rfl rfl rfl hg rfl rfl) rfl ?_ | refine wG rfl rfl (wU wB rfl rfl rfl (i:=0) rfl rfl rfl hg0 rfl rfl) rfl ?_ | refine wQ wB rfl rfl rfl rfl ?_ | refine wG rfl rfl (wH rfl rfl rfl rfl (decide_eq_true (by omega)) rfl) rfl ?_ | refine wG rfl rfl (wH rfl rfl rfl rfl (ndF (by omega)) rfl) rfl ?_ | refine wG rfl rfl (wX rfl rfl rfl rfl (qC (by omega) (by omega)) rfl) rfl ?_ | refine wF wI rfl rfl ?_ | refine wJ ?_ | refine wM ?_ | refine wC ?_ | refine wO ?_ | refine wN rfl ?_ | refine wL rfl ?_)
    refine ⟨j+1,⟨hj,fun r' h'=>?_⟩,by omega,rfl,rfl,rfl,rfl,rfl,trivial⟩
    rw [List.take_add_one,hr] at h'
    rcases List.mem_append.1 h' with h' | h'
    ·exact hq r' h'
    ·simp at h'
     rw [h',he,hc]
   ·have hno:evenT t≠true:=fun h=>he (by rw [of_even t h r (List.mem_of_getElem? hr),hc])
    repeat (first | refine wG rfl rfl (wR wB rfl rfl rfl rfl rfl rfl (zc_len r) rfl) rfl ?_ | refine wG rfl rfl (wR wB rfl rfl rfl rfl rfl rfl (zc_len r0) rfl) rfl ?_ | refine wG rfl rfl (wU wB rfl rfl rfl (i:=j) rfl rfl rfl hg rfl rfl) rfl ?_ | refine wG rfl rfl (wU wB rfl rfl rfl (i:=0) rfl rfl rfl hg0 rfl rfl) rfl ?_ | refine wQ wB rfl rfl rfl rfl ?_ | refine wG rfl rfl (wH rfl rfl rfl rfl (decide_eq_true (by omega)) rfl) rfl ?_ | refine wG rfl rfl (wH rfl rfl rfl rfl (ndT (by omega)) rfl) rfl ?_ | refine wF wI rfl rfl ?_ | refine wJ ?_ | refine wM ?_ | refine wC ?_ | refine wP ?_ | refine wO ?_ | refine wN rfl ?_)
    refine ⟨.inl rfl,_,rfl,fin ?_⟩
    rw [if_neg hno]
  ·have hje:j=t.length:=by omega
   subst hje
   rw [List.take_length] at hq
   repeat (first | refine wQ wB rfl rfl rfl rfl ?_ | refine wG rfl rfl (wH rfl rfl rfl rfl (decide_eq_false (by omega)) rfl) rfl ?_ | refine wF wI rfl rfl ?_ | refine wJ ?_ | refine wC ?_ | refine wP ?_ | refine qA ?_ | refine wL rfl ?_)
   refine ⟨.inl rfl,_,rfl,fin ?_⟩
   rw [if_pos (even_of t _ hq)]
end Go.Proofs.YtkjhfnhgefbhhaaGreat
/- simileref11.Height, Fit: told of trees. ALLOC -/
namespace Go.Proofs.YtkjhfnhgefbhhaaGreat
open Go.RowKit Go.Ev Go.Vl
theorem htL_max (qs:List QQ):∀ n,htL qs n=max n (htL qs 0):=by
 induction qs with
 | nil=>intro n; show n=max n 0; omega
 | cons q qs ih =>
  intro n
  show htL qs (max n (htQ q))=max n (htL qs (max 0 (htQ q)))
  rw [ih (max n (htQ q)),ih (max 0 (htQ q))]
  omega
theorem htL_app (a b:List QQ) (n:Nat):htL (a++b) n=htL b (htL a n):=by
 unfold htL
 rw [List.foldl_append]
theorem tq_at (t:List (List QQ)) (j:Nat) (r:List QQ) (h:t[j]? = some r):(tabQ t)[j]? = some [V.list (r.map zN)]:=by unfold tabQ; rw [List.getElem?_map,h]; rfl
set_option maxRecDepth 20000 in
set_option maxHeartbeats 3200000 in
theorem height11_v (x:Bool) (l:List Nat) (t:List (List ZZ)) (h:okM ((x,l),t) 68719476736) (h0:intOf (x,l)≠0):wT Tryz.prog 44 [.agg [.bool x,vL l,vT t]] (fun y=>y=.int .i64 (htM ((x,l),t):Nat)):=by
 refine wK wB Tryz.func44 rfl rfl rfl rfl fun w0=>?_
 have od:okZ (x,l):=⟨h.1,Nat.le_trans h.2.1 (by decide)⟩
 have q1:=rows11_aux x l t od h0 (fun r hr=>⟨Nat.le_trans (h.2.2.1.2 r hr).1 (by decide),fun z hz=>⟨((h.2.2.1.2 r hr).2 z hz).1,Nat.le_trans ((h.2.2.1.2 r hr).2 z hz).2 (by decide)⟩⟩) (Nat.le_trans h.2.2.1.1 (by decide))
 have hRq:=ratsT_ok h h0
 have hRl:(zF ((x,l),t)).length≤1099511627776:=by
  unfold zF
  rw [List.length_map]
  exact Nat.le_trans h.2.2.1.1 (by decide)
 have hRr:∀ r∈zF ((x,l),t),r.length≤1099511627776:=fun r hr=>by
  obtain ⟨r',h1,rfl⟩:=List.mem_map.1 hr
  rw [List.length_map]
  exact Nat.le_trans (h.2.2.1.2 r' h1).1 (by decide)
 unfold htM
 generalize zF ((x,l),t)=R at *
 repeat (first | refine wE wB rfl rfl rfl rfl rfl rfl rfl rfl (q1) rfl rfl ?_ | refine wG rfl rfl (wR wB rfl rfl rfl rfl rfl rfl (tq_len R) rfl) rfl ?_ | refine wQ wB rfl rfl rfl rfl ?_ | refine wF wI rfl rfl ?_ | refine wJ ?_ | refine wM ?_ | refine wC ?_)
 refine qF (fun b:Nat × Nat=>[(6,some (.sv (.v (.int .i64 (b.2:Nat))))),(16,some (.sv (.v (.list (tabQ R))))),(18,some (.sv (.v (.int .i64 (R.length:Nat))))),(20,some (.sv (.v (.int .i64 (b.1:Nat)))))])
  (fun b=>b.1≤R.length∧b.2=htL ((R.take b.1).flatten.map fun q=>qn (qR q)) 0) (fun b=>R.length - b.1) (0,0) (fun _=>rfl) ⟨Nat.zero_le _,rfl⟩ ⟨rfl,rfl,rfl,rfl,trivial⟩ fun ⟨j,n⟩ hI=>?_
 obtain ⟨hJ,hn⟩:=hI
 dsimp only at hJ hn ⊢
 rcases Nat.lt_or_ge j R.length with hj | hj
 ·obtain ⟨r,hr⟩:∃ r,R[j]? = some r:=⟨_,List.getElem?_eq_getElem hj⟩
  have hrm:=List.mem_of_getElem? hr
  have hg:=tq_at R j r hr
  have q2:=rheight_v r (fun q hq=>by
   obtain ⟨g1,g2,_⟩:=hRq q (List.mem_flatten.2 ⟨r,hrm,hq⟩)
   exact ⟨g1,g2⟩) (hRr r hrm) (fun q hq=>by
   obtain ⟨g1,_,g3⟩:=hRq q (List.mem_flatten.2 ⟨r,hrm,hq⟩)
   rw [g3]; exact g1)
  have hst:htL ((R.take (j+1)).flatten.map fun q=>qn (qR q)) 0=max n (htL (r.map fun q=>qn (qR q)) 0):=by
   rw [List.take_add_one,hr]
   simp only [Option.toList_some,List.flatten_append,List.map_append,List.flatten_cons,List.flatten_nil,List.append_nil]
   rw [htL_app,htL_max,← hn]
  generalize htL (r.map fun q=>qn (qR q)) 0=u at *
  by_cases hu:n<u
  ·repeat (first | refine wG rfl rfl (wU wB rfl rfl rfl (i:=j) rfl rfl rfl hg rfl rfl) rfl ?_ | refine wE wB rfl rfl rfl rfl rfl rfl rfl rfl (q2) rfl rfl ?_ | refine wQ wB rfl rfl rfl rfl ?_ | refine wG rfl rfl (wH rfl rfl rfl rfl (decide_eq_true (by omega)) rfl) rfl ?_ | refine wG rfl rfl (wX rfl rfl rfl rfl (qC (by omega) (by omega)) rfl) rfl ?_ | refine wF wI rfl rfl ?_ | refine wJ ?_ | refine wM ?_ | refine wC ?_ | refine wO ?_ | refine wN rfl ?_)
   exact ⟨(j+1,u),⟨hj,by dsimp only; rw [hst]; omega⟩,by dsimp only; omega,rfl,rfl,rfl,rfl,trivial⟩
  ·repeat (first | refine wG rfl rfl (wU wB rfl rfl rfl (i:=j) rfl rfl rfl hg rfl rfl) rfl ?_ | refine wE wB rfl rfl rfl rfl rfl rfl rfl rfl (q2) rfl rfl ?_ | refine wQ wB rfl rfl rfl rfl ?_ | refine wG rfl rfl (wH rfl rfl rfl rfl (decide_eq_true (by omega)) rfl) rfl ?_ | refine wG rfl rfl (wH rfl rfl rfl rfl (decide_eq_false (by omega)) rfl) rfl ?_ | refine wG rfl rfl (wX rfl rfl rfl rfl (qC (by omega) (by omega)) rfl) rfl ?_ | refine wF wI rfl rfl ?_ | refine wJ ?_ | refine wM ?_ | refine wC ?_ | refine wO ?_ | refine wN rfl ?_ | refine wL rfl ?_)
   exact ⟨(j+1,n),⟨hj,by dsimp only; rw [hst]; omega⟩,by dsimp only; omega,rfl,rfl,rfl,rfl,trivial⟩
 ·rw [List.take_of_length_le hj] at hn
  subst hn
  repeat (first | refine wQ wB rfl rfl rfl rfl ?_ | refine wG rfl rfl (wH rfl rfl rfl rfl (decide_eq_false (by omega)) rfl) rfl ?_ | refine wF wI rfl rfl ?_ | refine wJ ?_ | refine wC ?_ | refine wP ?_ | refine qA ?_ | refine wL rfl ?_)
  exact ⟨.inl rfl,_,rfl,rfl⟩
set_option maxRecDepth 20000 in
set_option maxHeartbeats 3200000 in
theorem fit11_v (x:Bool) (l:List Nat) (t:List (List ZZ)) (h:okM ((x,l),t) 68719476736):wT Tryz.prog 11 [.agg [.bool x,vL l,vT t]] (fun y=>y=.int .i64 (fit1 ((x,l),t))):=by
 refine wK wB Tryz.func11 rfl rfl rfl rfl fun w0=>?_
 have fin:∀ {u v:Int},u=v→V.int .i64 u=V.int .i64 v:=fun h=>by rw [h]
 have od:okZ (x,l):=⟨h.1,Nat.le_trans h.2.1 (by decide)⟩
 have hl:t.length≤68719476736:=h.2.2.1.1
 have q1:=check11_v x l t od (by omega)
 have q2:=size11_v x l t (by omega)
 unfold fit1
 by_cases h0:chk ((x,l),t)=0
 ·have q3:=height11_v x l t h (chk0 h0).1
  rw [if_pos h0]
  rw [h0] at q1
  dsimp only
  generalize htM ((x,l),t)=ht at *
  obtain ⟨c,hce⟩:∃ c,qB t=c:=⟨_,rfl⟩
  rw [hce] at q2 ⊢
  by_cases h1:t.length=0
  ·rw [if_neg (fun hh=>hh.2 h1)]
   repeat (first | refine wQ wB rfl rfl rfl rfl ?_ | refine wG rfl rfl (wH rfl rfl rfl rfl (decide_eq_true (by omega)) rfl) rfl ?_ | refine wG rfl rfl (wH rfl rfl rfl rfl (ndF (by omega)) rfl) rfl ?_ | refine wE wB rfl rfl rfl rfl rfl rfl rfl rfl (q1) rfl rfl ?_ | refine wE wB rfl rfl rfl rfl rfl rfl rfl rfl (q2) rfl rfl ?_ | refine rr_no rfl rfl rfl rfl rfl rfl ?_ | refine wF wI rfl rfl ?_ | refine wJ ?_ | refine wC ?_ | refine wP ?_ | refine wO ?_ | refine wN rfl ?_ | refine wL rfl ?_)
   exact ⟨.inl rfl,_,rfl,rfl⟩
  ·by_cases h2:t.length=c
   ·rw [if_pos ⟨h2,h1⟩]
    by_cases h3:t.length≤24
    ·by_cases h4:ht≤4096
     ·rw [if_pos ⟨h3,h4⟩]
      repeat (first | refine wQ wB rfl rfl rfl rfl ?_ | refine wG rfl rfl (wH rfl rfl rfl rfl (decide_eq_false (by omega)) rfl) rfl ?_ | refine wG rfl rfl (wH rfl rfl rfl rfl (ndF (by omega)) rfl) rfl ?_ | refine wE wB rfl rfl rfl rfl rfl rfl rfl rfl (q1) rfl rfl ?_ | refine wE wB rfl rfl rfl rfl rfl rfl rfl rfl (q2) rfl rfl ?_ | refine wE wB rfl rfl rfl rfl rfl rfl rfl rfl (q3) rfl rfl ?_ | refine wF wI rfl rfl ?_ | refine wJ ?_ | refine wC ?_ | refine wP ?_ | refine wO ?_ | refine wL rfl ?_)
      exact ⟨.inl rfl,_,rfl,rfl⟩
     ·rw [if_neg (fun hh=>h4 hh.2)]
      repeat (first | refine wQ wB rfl rfl rfl rfl ?_ | refine wG rfl rfl (wH rfl rfl rfl rfl (decide_eq_true (by omega)) rfl) rfl ?_ | refine wG rfl rfl (wH rfl rfl rfl rfl (decide_eq_false (by omega)) rfl) rfl ?_ | refine wG rfl rfl (wH rfl rfl rfl rfl (ndF (by omega)) rfl) rfl ?_ | refine wE wB rfl rfl rfl rfl rfl rfl rfl rfl (q1) rfl rfl ?_ | refine wE wB rfl rfl rfl rfl rfl rfl rfl rfl (q2) rfl rfl ?_ | refine wE wB rfl rfl rfl rfl rfl rfl rfl rfl (q3) rfl rfl ?_ | refine wF wI rfl rfl ?_ | refine wJ ?_ | refine wC ?_ | refine wP ?_ | refine wO ?_ | refine wN rfl ?_ | refine wL rfl ?_)
      exact ⟨.inl rfl,_,rfl,rfl⟩
    ·rw [if_neg (fun hh=>h3 hh.1)]
     repeat (first | refine wQ wB rfl rfl rfl rfl ?_ | refine wG rfl rfl (wH rfl rfl rfl rfl (decide_eq_true (by omega)) rfl) rfl ?_ | refine wG rfl rfl (wH rfl rfl rfl rfl (decide_eq_false (by omega)) rfl) rfl ?_ | refine wG rfl rfl (wH rfl rfl rfl rfl (ndF (by omega)) rfl) rfl ?_ | refine wE wB rfl rfl rfl rfl rfl rfl rfl rfl (q1) rfl rfl ?_ | refine wE wB rfl rfl rfl rfl rfl rfl rfl rfl (q2) rfl rfl ?_ | refine rr_no rfl rfl rfl rfl rfl rfl ?_ | refine wF wI rfl rfl ?_ | refine wJ ?_ | refine wC ?_ | refine wP ?_ | refine wO ?_ | refine wN rfl ?_ | refine wL rfl ?_)
     exact ⟨.inl rfl,_,rfl,rfl⟩
   ·rw [if_neg (fun hh=>h2 hh.1)]
    repeat (first | refine wQ wB rfl rfl rfl rfl ?_ | refine wG rfl rfl (wH rfl rfl rfl rfl (decide_eq_false (by omega)) rfl) rfl ?_ | refine wG rfl rfl (wH rfl rfl rfl rfl (ndT (by omega)) rfl) rfl ?_ | refine wG rfl rfl (wH rfl rfl rfl rfl (ndF (by omega)) rfl) rfl ?_ | refine wE wB rfl rfl rfl rfl rfl rfl rfl rfl (q1) rfl rfl ?_ | refine wE wB rfl rfl rfl rfl rfl rfl rfl rfl (q2) rfl rfl ?_ | refine wF wI rfl rfl ?_ | refine wJ ?_ | refine wC ?_ | refine wP ?_ | refine wO ?_ | refine wN rfl ?_ | refine wL rfl ?_)
    exact ⟨.inl rfl,_,rfl,rfl⟩
 ·rw [if_neg h0]
  generalize chk ((x,l),t)=c at *
  repeat (first | refine wQ wB rfl rfl rfl rfl ?_ | refine wG rfl rfl (wH rfl rfl rfl rfl (ndT (by omega)) rfl) rfl ?_ | refine wE wB rfl rfl rfl rfl rfl rfl rfl rfl (q1) rfl rfl ?_ | refine wF wI rfl rfl ?_ | refine wJ ?_ | refine wC ?_ | refine wP ?_ | refine wN rfl ?_)
  exact ⟨.inl rfl,_,rfl,rfl⟩
end Go.Proofs.YtkjhfnhgefbhhaaGreat
/- simileref05.Common: told of trees. ALLOC -/
namespace Go.Proofs.YtkjhfnhgefbhhaaGreat
open Go.RowKit Go.Ev Go.Vl
def comD (qs:List QQ):Nat:=lcmN (qs.map fun q=>((qR q).den:Int)) 1
def comF (D:Int) (q:QQ):ZZ:=zn (qR q*(D:Rat)).num
theorem lcmN_app (a b:List Int) (n:Nat):lcmN (a++b) n=lcmN b (lcmN a n):=by
 unfold lcmN
 rw [List.foldl_append]
theorem lcmN_two (a:Nat) (x:Int):lcmN [(a:Int),x] 1=Nat.lcm a x.natAbs:=by
 show Nat.lcm (Nat.lcm 1 (a:Int).natAbs) x.natAbs=_
 rw [Int.natAbs_natCast,Nat.lcm_one_left]
theorem take_snoc' {α:Type} {qs:List α} {j:Nat} {q:α} (h:qs[j]? = some q):qs.take (j+1)=qs.take j++[q]:=by
 rw [List.take_add_one,h]
 rfl
theorem mul_den (q D:Rat) (hD:D.den=1):lm (q*D).num≤lm q.num+lm D.num∧lm ((q*D).den:Int)≤lm (q.den:Int):=by
 have e:q*D=Rat.divInt (q.num*D.num) (q.den*D.den:Nat):=by
  conv=>lhs; rw [← Rat.num_divInt_den q,← Rat.num_divInt_den D]
  rw [Rat.divInt_mul_divInt]
  rfl
 have hne:((q.den*D.den:Nat):Int)≠0:=by
  have:=q.den_nz
  rw [hD,Nat.mul_one]
  omega
 obtain ⟨h1,h2⟩:=kO (q.num*D.num) (q.den*D.den:Nat) hne
 rw [e]
 refine ⟨Nat.le_trans h1 (lm_mul ..),?_⟩
 rw [hD,Nat.mul_one] at h2 ⊢
 exact h2
set_option maxRecDepth 20000 in
set_option maxHeartbeats 3200000 in
theorem common_v (qs:List QQ) (D:Nat) (hD:0<D) (hDl:lm D≤68719476736) (hq:∀ q∈qs,okS q∧(qR q).den∣D) (hl:qs.length≤1099511627776):wT Tryz.prog 121 [vQs qs] (fun y=>y=.tup [nI (comD qs:Nat),.list ((qs.map (comF (comD qs:Nat))).map qI)]):=by
 refine wK wB Tryz.func121 rfl rfl rfl rfl fun w0=>?_
 have q0:=rof_v 1 (by decide)
 repeat (first | refine wE wB rfl rfl rfl rfl rfl rfl rfl rfl (q0) rfl rfl ?_ | refine wG rfl rfl (wR wB rfl rfl rfl rfl rfl rfl (qrow_len qs) rfl) rfl ?_ | refine qP wB rfl rfl rfl rfl rfl rfl ?_ | refine wQ wB rfl rfl rfl rfl ?_ | refine wF wI rfl rfl ?_ | refine wJ ?_ | refine wM ?_ | refine wC ?_)
 refine qF (fun b:Nat × Nat=>[(0,some (.sv (.v (vQs qs)))),(4,some (.sv (.bx 2 0))),(5,some (.bx [.v (.bool false),.nils])),(8,some (.sv (.bx 4 0))),(9,some (.bx [.v (.bool (zn (b.2:Nat)).1),.v (vL (zn (b.2:Nat)).2)])),(22,some (.sv (.v (vQs qs)))),(24,some (.sv (.v (.int .i64 (qs.length:Nat))))),(26,some (.sv (.v (.int .i64 (b.1:Nat)))))])
  (fun b=>b.1≤qs.length∧0<b.2∧b.2∣D∧b.2=comD (qs.take b.1)) (fun b=>qs.length - b.1) (0,1) (fun _=>rfl) ⟨Nat.zero_le _,by decide,Nat.one_dvd _,rfl⟩ ⟨rfl,rfl,rfl,rfl,rfl,rfl,rfl,rfl,trivial⟩ fun ⟨j,a⟩ hI=>?_
 obtain ⟨hJ,ha,had,hae⟩:=hI
 dsimp only at hJ ha had hae ⊢
 rcases Nat.lt_or_ge j qs.length with hj | hj
 ·obtain ⟨q,hqe⟩:∃ q,qs[j]? = some q:=⟨_,List.getElem?_eq_getElem hj⟩
  obtain ⟨o1,o2⟩:=hq q (List.mem_of_getElem? hqe)
  have hg:=qrow_at qs j q hqe
  have q1:=rNorm05_v q o1.ok o1.2.2.2.2
  have hden:=(qR q).den_nz
  have hla:lm (a:Int)≤68719476736:=Nat.le_trans (lm_nat (Nat.le_of_dvd hD had)) hDl
  have hlq:lm ((qR q).den:Int)≤68719476736:=Nat.le_trans (lm_nat (Nat.le_of_dvd hD o2)) hDl
  have q2:=lcm3_v [zn (a:Nat),zn ((qR q).den:Int)] D hD (by omega) (fun z hz=>by
   rcases List.mem_cons.1 hz with rfl | hz
   ·exact ⟨kI _ (by omega),by rw [wS]; omega,by rw [wS]; exact had⟩
   ·rw [List.mem_singleton.1 hz]
    exact ⟨kI _ (by omega),by rw [wS]; omega,by rw [wS]; exact o2⟩) (by show 2≤1099511627776; decide)
  have e1:lcmN ([zn (a:Nat),zn ((qR q).den:Int)].map intOf) 1=Nat.lcm a (qR q).den:=by
   show lcmN [intOf (zn (a:Nat)),intOf (zn ((qR q).den:Int))] 1=_
   rw [wS,wS,lcmN_two,Int.natAbs_natCast]
  rw [e1] at q2
  have e2:Nat.lcm a (qR q).den=comD (qs.take (j+1)):=by
   rw [take_snoc' hqe]
   unfold comD at hae ⊢
   rw [List.map_append,lcmN_app,← hae]
   show _=Nat.lcm a ((qR q).den:Int).natAbs
   rw [Int.natAbs_natCast]
  have e3:0<Nat.lcm a (qR q).den:=Nat.lcm_pos ha (by omega)
  have e4:Nat.lcm a (qR q).den∣D:=Nat.lcm_dvd had o2
  clear hae
  unfold nR qn at q1
  obtain ⟨⟨x,l⟩,⟨y,k⟩⟩:=q
  repeat (first | refine wG rfl rfl (wU wB rfl rfl rfl (i:=j) rfl rfl rfl hg rfl rfl) rfl ?_ | refine wE wB rfl rfl rfl rfl rfl rfl rfl rfl (q1) rfl rfl ?_ | refine zM wB rfl rfl rfl rfl rfl rfl rfl rfl rfl (q2) rfl rfl ?_ | refine qP wB rfl rfl rfl rfl rfl rfl ?_ | refine wQ wB rfl rfl rfl rfl ?_ | refine wG rfl rfl (wH rfl rfl rfl rfl (decide_eq_true (by omega)) rfl) rfl ?_ | refine wG rfl rfl (wX rfl rfl rfl rfl (qC (by omega) (by omega)) rfl) rfl ?_ | refine wF wI rfl rfl ?_ | refine wJ ?_ | refine wM ?_ | refine wC ?_ | refine wO ?_ | refine wN rfl ?_)
  exact ⟨(j+1,_),⟨hj,e3,e4,e2⟩,by dsimp only; omega,rfl,rfl,rfl,rfl,rfl,rfl,rfl,rfl,trivial⟩
 ·rw [List.take_of_length_le hj] at hae
  subst hae
  obtain ⟨C,hCe⟩:∃ C,comD qs=C:=⟨_,rfl⟩
  rw [hCe] at ha had ⊢
  have hCl:lm (C:Int)≤68719476736:=Nat.le_trans (lm_nat (Nat.le_of_dvd hD had)) hDl
  have q3:=rint5_v (zn (C:Nat)) (kI _ (by omega))
  rw [wS] at q3
  repeat (first | refine wG rfl rfl (wR wB rfl rfl rfl rfl rfl rfl (qrow_len qs) rfl) rfl ?_ | refine wQ wB rfl rfl rfl rfl ?_ | refine wG rfl rfl (wH rfl rfl rfl rfl (decide_eq_false (by omega)) rfl) rfl ?_ | refine wF wI rfl rfl ?_ | refine wJ ?_ | refine wM ?_ | refine wC ?_ | refine qA ?_ | refine wL rfl ?_)
  refine vw_nilOwn (d:=7) (id:=1) (k:=2) (T:=25) rfl rfl rfl rfl ?_
  refine qF (fun i:Nat=>[(4,some (.sv (.bx 2 0))),(5,some (.bx [.v (.bool false),.nils])),(8,some (.sv (.bx 4 0))),(9,some (.bx [.v (.bool (zn (C:Nat)).1),.v (vL (zn (C:Nat)).2)])),(14,some (.sv (.own 1 25 2 (((qs.take i).map (comF (C:Nat))).map qI)))),(48,some (.sv (.v (vQs qs)))),(50,some (.sv (.v (.int .i64 (qs.length:Nat))))),(52,some (.sv (.v (.int .i64 (i:Nat)))))])
   (fun i=>i≤qs.length) (fun i=>qs.length - i) 0 (fun _=>rfl) (Nat.zero_le _) ⟨rfl,rfl,rfl,rfl,⟨_,rfl⟩,rfl,rfl,rfl,trivial⟩ fun i hI=>?_
  rcases Nat.lt_or_ge i qs.length with hi | hi
  ·obtain ⟨q,hqe⟩:∃ q,qs[i]? = some q:=⟨_,List.getElem?_eq_getElem hi⟩
   obtain ⟨o1,o2⟩:=hq q (List.mem_of_getElem? hqe)
   have hg:=qrow_at qs i q hqe
   have q4:=rmul5_v q (qn ((C:Int):Rat)) o1 (okS_qn _ (by simpa using hCl) (by
    show lm ((((C:Int):Rat).den:Nat):Int)≤_
    rw [Rat.den_intCast]
    exact Nat.le_trans (lm_dvd (y:=(C:Int)) (Int.one_dvd _) (by omega)) hCl))
   rw [ratOf_qn] at q4
   have hs:((qs.take i).map (comF (C:Nat))).map qI++[qI (comF (C:Nat) q)]=((qs.take (i+1)).map (comF (C:Nat))).map qI:=by
    rw [take_snoc' hqe]
    simp
   have hlen:(((qs.take i).map (comF (C:Nat))).map qI).length=i:=by rw [List.length_map,List.length_map,List.length_take]; omega
   have row2:∀ e∈[qI (comF (C:Nat) q)],e.length=2:=fun e h=>by rw [List.mem_singleton.1 h]; rfl
   unfold nR qn at q3 q4
   unfold comF at hs row2
   obtain ⟨⟨x,l⟩,⟨y,k⟩⟩:=q
   repeat (first | refine wG rfl rfl (wU wB rfl rfl rfl (i:=i) rfl rfl rfl hg rfl rfl) rfl ?_ | refine wE wB rfl rfl rfl rfl rfl rfl rfl rfl (q3) rfl rfl ?_ | refine wE wB rfl rfl rfl rfl rfl rfl rfl rfl (q4) rfl rfl ?_ | refine kE rfl rfl rfl (qT (id:=7001) (es2:=[qI (zn (qR ((x,l),(y,k))*((C:Int):Rat)).num)]) (m:=2) (bb:=32) wB rfl rfl rfl rfl rfl rfl rfl rfl rfl rfl rfl row2 rfl (by simp only [maxLen,List.length_singleton]; omega) (by simp only [List.length_singleton]; omega) rfl rfl hs) rfl ?_ | refine qP wB rfl rfl rfl rfl rfl rfl ?_ | refine wQ wB rfl rfl rfl rfl ?_ | refine wG rfl rfl (wH rfl rfl rfl rfl (decide_eq_true (by omega)) rfl) rfl ?_ | refine wG rfl rfl (wX rfl rfl rfl rfl (qC (by omega) (by omega)) rfl) rfl ?_ | refine wF wI rfl rfl ?_ | refine wJ ?_ | refine wM ?_ | refine wC ?_ | refine wO ?_ | refine wN rfl ?_)
   exact ⟨i+1,hi,by omega,rfl,rfl,rfl,rfl,⟨_,rfl⟩,rfl,rfl,rfl,trivial⟩
  ·have hie:i=qs.length:=by omega
   subst hie
   rw [List.take_length]
   repeat (first | refine wQ wB rfl rfl rfl rfl ?_ | refine wG rfl rfl (wH rfl rfl rfl rfl (decide_eq_false (by omega)) rfl) rfl ?_ | refine wF wI rfl rfl ?_ | refine wJ ?_ | refine wC ?_ | refine wP ?_ | refine qA ?_ | refine wL rfl ?_)
   exact ⟨.inl rfl,_,rfl,rfl⟩
end Go.Proofs.YtkjhfnhgefbhhaaGreat
/- Parts of a list, with three bounds. -/
namespace Go.Vl
open Go.RowKit Go.Ev
section
variable {P:Program} {C:Cx} {w0:Base} {n:Nat} {st:St} {o:Oper}
theorem sem_slice3 (hC:CxOk P C) {t elem:TypeId} {x y z z3:Operand} {es es':List (List V)} {l h k:Nat} {ql qh q3:Int} {kl kh k3:IntKind} (hop:o.op=.slice t x (some y) (some z) (some z3)) (hx:opv (lk st) x=some (.v (.list es))) (hy:opv (lk st) y=some (.v (.int kl ql))) (hz:opv (lk st) z=some (.v (.int kh qh))) (hz3:opv (lk st) z3=some (.v (.int k3 q3)))
  (hql:ql=(l:Nat)) (hqh:qh=(h:Nat)) (hq3:q3=(h:Nat)) (ht:C.und t=some (.slice elem)) (hs:C.size elem=some k) (hk:∀ e∈es,e.length=k) (h1:l≤h) (h2:h≤es.length) (he:(es.take h).drop l=es') (hd:dLt n o.dst=true) :
  qD P w0 n o (rdO x++(rdO y++(rdO z++rdO z3))) (dput o.dst (some (.sv (.v (.list es'))))) [] (lk st):=by
 subst hql hqh hq3 he
 exact qX hd fun f hf β a w hb=>by
  obtain ⟨f1,f2⟩:=zE hf
  obtain ⟨f3,f4⟩:=zE f2
  obtain ⟨f5,f6⟩:=zE f4
  have e1:=hb.val (x:=x) (y:=.list es) (by rw [w8 f1]; exact hx)
  have e2:=bndOk (st:=lk st) (x:=some y) (m:=some l) (by simp [bnd,hy]) f f3 β a w hb
  have e3:=bndOk (st:=lk st) (x:=some z) (m:=some h) (by simp [bnd,hz]) f f5 β a w hb
  have e4:=bndOk (st:=lk st) (x:=some z3) (m:=some h) (by simp [bnd,hz3]) f f6 β a w hb
  have hb3:∀ cap,es.length≤cap→(Instr.sliceBounds true es.length cap (some (a.eval y)) (some (a.eval z)) (some (a.eval z3))).run P w=.ok (l,h,h) w:=by
   intro cap hcap
   have:=(run_bounds (P:=P) (w:=w) (len:=es.length) (cap:=cap) (cc:=cap) (lo:=some l) (hi:=some h) (mx:=some h) (l:=l) (h:=h) (m:=h) ?_ (Nat.le_refl _) e2 e3 e4).1
   ·simpa using this
   ·unfold bounds3
    simp only [Option.getD_some]
    have b1:Nat.ble h cap=true:=by rw [Nat.ble_eq]; omega
    have b2:Nat.ble h h=true:=by rw [Nat.ble_eq]; exact Nat.le_refl _
    have b3:Nat.ble l h=true:=by rw [Nat.ble_eq]; exact h1
    rw [b1,b2,b3]
    rfl
  generalize hu:a.eval x=u at e1
  obtain ⟨ad,cap,hsh⟩:=e1.list_shape
  subst hsh
  cases ad with
  | none =>
   cases e1
   simp only [List.length_nil,Nat.le_zero] at h2
   obtain rfl:=h2
   simp only [Nat.le_zero] at h1
   subst h1
   have:=hb3 0 (by simp)
   refine ⟨.slice none 0 0,?_,by simp; exact .nils⟩
   simp only [List.length_nil] at this
   simp [execOp,hop,hu,Instr.sliceAt,qG hC ht,Instr.slice,this,qK hC hs]
  | some p =>
   have hcc:es.length≤cap:=by
    cases e1 with
    | list _ _ hc=>exact hc
    | emp=>simp
   have:=hb3 cap hcc
   refine ⟨.slice (some (if h=l then p else p.add (l*k))) (h - l) (h - l),?_,?_⟩
   ·simp only [execOp,hop,hu,Option.map_some,Instr.sliceAt,Sem.run_bind,qG hC ht,Result.andThen_ok,Instr.slice,this,qK hC hs,Sem.run_pure]
    split <;> rfl
   ·generalize hes:es=es' at e1 hk h2
    cases e1 with
    | emp =>
     subst hes
     have:(([]:List (List V)).take h).drop l=[]:=by simp
     simp only [List.length_nil] at h2
     rw [this,show h - l=0 by omega]
     exact .emp _ _
    | @list _ k' us b off _ hk' ho hc hl' hb' hu' =>
     subst hes
     have e2:=Rep.list_part (S:=qM β) (w:=w) (.list hk' ho hc hl' hb' hu') hk l h h h1 h2 (Nat.le_refl _) (by omega)
     simp only [kD]
     exact e2
end
end Go.Vl
/- simileref11.From: told of trees. ALLOC -/
namespace Go.Proofs.YtkjhfnhgefbhhaaGreat
open Go.RowKit Go.Ev Go.Vl
theorem flat_part {α β:Type} (f:α→β) (R:List (List α)) (j:Nat) (r:List α) (h:R[j]? = some r):((R.flatten.map f).take ((R.take j).flatten.length+r.length)).drop (R.take j).flatten.length=r.map f:=by
 have e:R=R.take j++r :: R.drop (j+1):=by
  rw [← drop_cons' R j r h,List.take_append_drop]
 rw [← List.map_take,← List.map_drop]
 congr 1
 obtain ⟨A,hA⟩:∃ A,R.take j=A:=⟨_,rfl⟩
 obtain ⟨B,hB⟩:∃ B,R.drop (j+1)=B:=⟨_,rfl⟩
 rw [hA,hB] at e
 rw [hA,e,List.flatten_append,List.flatten_cons]
 generalize A.flatten=a
 generalize B.flatten=b
 rw [← List.append_assoc,List.take_left' (by simp),List.drop_left' rfl]
set_option maxRecDepth 20000 in
set_option maxHeartbeats 3200000 in
theorem from11_v (R:List (List QQ)) (D:Nat) (hD:0<D) (hDl:lm D≤68719476736) (hq:∀ q∈R.flatten,okS q∧(qR q).den∣D) (hl:R.length≤68719476736) (hfl:R.flatten.length≤68719476736) (hrl:∀ r∈R,r.length≤68719476736):wT Tryz.prog 65 [.list (tabQ R)] (fun y=>y=vM (zn (comD R.flatten:Nat),R.map fun r=>r.map (comF (comD R.flatten:Nat)))):=by
 refine wK wB Tryz.func65 rfl rfl rfl rfl fun w0=>?_
 have q1:=common_v R.flatten D hD hDl hq (by omega)
 obtain ⟨C,hCe⟩:∃ C:Int,((comD R.flatten:Nat):Int)=C:=⟨_,rfl⟩
 rw [hCe] at q1 ⊢
 repeat (first | refine wG rfl rfl (wR wB rfl rfl rfl rfl rfl rfl (tq_len R) rfl) rfl ?_ | refine qP wB rfl rfl rfl rfl rfl rfl ?_ | refine wQ wB rfl rfl rfl rfl ?_ | refine wF wI rfl rfl ?_ | refine wJ ?_ | refine wM ?_ | refine wC ?_)
 refine vw_nilOwn (d:=3) (id:=1) (k:=4) (T:=89) rfl rfl rfl rfl ?_
 refine qF (fun j:Nat=>[(0,some (.sv (.v (.list (tabQ R))))),(4,some (.sv (.bx 2 0))),(5,some (.bx [.v (.bool false),.nils,.nils])),(6,some (.sv (.own 1 89 4 ((R.take j).flatten.map zN)))),(24,some (.sv (.v (.list (tabQ R))))),(26,some (.sv (.v (.int .i64 (R.length:Nat))))),(28,some (.sv (.v (.int .i64 (j:Nat)))))])
  (fun j=>j≤R.length) (fun j=>R.length - j) 0 (fun _=>rfl) (Nat.zero_le _) ⟨rfl,rfl,rfl,⟨_,rfl⟩,rfl,rfl,rfl,trivial⟩ fun j hJ=>?_
 rcases Nat.lt_or_ge j R.length with hj | hj
 ·obtain ⟨r,hr⟩:∃ r,R[j]? = some r:=⟨_,List.getElem?_eq_getElem hj⟩
  have hg:=tq_at R j r hr
  have hrr:=hrl r (List.mem_of_getElem? hr)
  have hs:(R.take j).flatten.map zN++r.map zN=(R.take (j+1)).flatten.map zN:=by
   rw [take_snoc' hr]
   simp
  have hlen:((R.take j).flatten.map zN).length≤68719476736:=by
   rw [List.length_map]
   refine Nat.le_trans ?_ hfl
   conv=>rhs; rw [← List.take_append_drop j R,List.flatten_append,List.length_append]
   omega
  have hlen2:(r.map zN).length≤68719476736:=by rw [List.length_map]; exact hrr
  have row4:∀ e∈r.map zN,e.length=4:=fun e h=>by
   obtain ⟨q,_,rfl⟩:=List.mem_map.1 h
   rfl
  repeat (first | refine wG rfl rfl (wU wB rfl rfl rfl (i:=j) rfl rfl rfl hg rfl rfl) rfl ?_ | refine kE rfl rfl rfl (qT (id:=7001) (es2:=r.map zN) (m:=4) (bb:=64) wB rfl rfl rfl rfl rfl rfl rfl rfl rfl rfl rfl row4 rfl (by simp only [maxLen]; omega) (by omega) rfl rfl hs) rfl ?_ | refine wQ wB rfl rfl rfl rfl ?_ | refine wG rfl rfl (wH rfl rfl rfl rfl (decide_eq_true (by omega)) rfl) rfl ?_ | refine wG rfl rfl (wX rfl rfl rfl rfl (qC (by omega) (by omega)) rfl) rfl ?_ | refine wF wI rfl rfl ?_ | refine wJ ?_ | refine wM ?_ | refine wC ?_ | refine wO ?_ | refine wN rfl ?_)
  exact ⟨j+1,hj,by omega,rfl,rfl,rfl,⟨_,rfl⟩,rfl,rfl,rfl,trivial⟩
 ·have hje:j=R.length:=by omega
  subst hje
  rw [List.take_length]
  repeat (first | refine wG rfl rfl (sem_buildN wB rfl rfl rfl rfl rfl rfl rfl rfl rfl) rfl ?_ | refine zM wB rfl rfl rfl rfl rfl rfl rfl rfl rfl (q1) rfl rfl ?_ | refine wG rfl rfl (wR wB rfl rfl rfl rfl rfl rfl (tq_len R) rfl) rfl ?_ | refine qP wB rfl rfl rfl rfl rfl rfl ?_ | refine wQ wB rfl rfl rfl rfl ?_ | refine wG rfl rfl (wH rfl rfl rfl rfl (decide_eq_false (by omega)) rfl) rfl ?_ | refine wF wI rfl rfl ?_ | refine wJ ?_ | refine wM ?_ | refine wC ?_ | refine qA ?_ | refine wL rfl ?_)
  refine vw_nilOwnR 8 2 1 77 rfl rfl rfl ?_
  refine qF (fun b:Nat × Nat=>[(4,some (.sv (.bx 2 0))),(5,some (.bx [.v (.bool false),.nils,.nils])),(14,some (.sv (.v (.list ((R.flatten.map (comF C)).map qI))))),(16,some (.sv (.bx 8 0))),(17,some (.bx [.v (.bool (zn C).1),.v (vL (zn C).2),.own 0 77 1 (tabV' ((R.take b.1).map fun r=>r.map (comF C)))])),(18,some (.sv (.v (.int .i64 (b.2:Nat))))),(58,some (.sv (.v (.list (tabQ R))))),(60,some (.sv (.v (.int .i64 (R.length:Nat))))),(62,some (.sv (.v (.int .i64 (b.1:Nat)))))])
   (fun b=>b.1≤R.length∧b.2=(R.take b.1).flatten.length) (fun b=>R.length - b.1) (0,0) (fun _=>rfl) ⟨Nat.zero_le _,rfl⟩ ⟨rfl,rfl,rfl,rfl,rfl,rfl,rfl,rfl,rfl,trivial⟩ fun ⟨i,a⟩ hI=>?_
  obtain ⟨hI1,hI2⟩:=hI
  dsimp only at hI1 hI2 ⊢
  rcases Nat.lt_or_ge i R.length with hi | hi
  ·obtain ⟨r,hr⟩:∃ r,R[i]? = some r:=⟨_,List.getElem?_eq_getElem hi⟩
   have hg:=tq_at R i r hr
   have hrr:=hrl r (List.mem_of_getElem? hr)
   have hnext:a+r.length=(R.take (i+1)).flatten.length:=by rw [take_snoc' hr,hI2]; simp
   have htot:a+r.length≤R.flatten.length:=by
    rw [hnext]
    conv=>rhs; rw [← List.take_append_drop (i+1) R,List.flatten_append,List.length_append]
    omega
   have hpart:(((R.flatten.map (comF C)).map qI).take (a+r.length)).drop a=(r.map (comF C)).map qI:=by
    rw [hI2,List.map_map,List.map_map]
    exact flat_part _ R i r hr
   have hk2:∀ e∈(R.flatten.map (comF C)).map qI,e.length=2:=fun e h=>by
    obtain ⟨q,_,rfl⟩:=List.mem_map.1 h
    rfl
   have hs:tabV' ((R.take i).map fun r=>r.map (comF C))++[[V.list ((r.map (comF C)).map qI)]]=tabV' ((R.take (i+1)).map fun r=>r.map (comF C)):=by
    rw [take_snoc' hr]
    unfold tabV'
    simp
   have hlen:(tabV' ((R.take i).map fun r=>r.map (comF C))).length=i:=by rw [zY,List.length_map,List.length_take]; omega
   have row1:∀ e∈[[V.list ((r.map (comF C)).map qI)]],e.length=1:=fun e h=>by rw [List.mem_singleton.1 h]; rfl
   have hle:a+r.length≤((R.flatten.map (comF C)).map qI).length:=by rw [List.length_map,List.length_map]; exact htot
   repeat (first | refine wG rfl rfl (wR wB rfl rfl rfl rfl rfl rfl (qrow_len r) rfl) rfl ?_ | refine wG rfl rfl (wU wB rfl rfl rfl (i:=i) rfl rfl rfl hg rfl rfl) rfl ?_ | refine wG rfl rfl (sem_slice3 (l:=a) (h:=a+r.length) wB rfl rfl rfl rfl rfl rfl rfl rfl rfl rfl hk2 (by omega) hle hpart rfl) rfl ?_ | refine kE rfl rfl rfl (qT (id:=7002) (es2:=[[V.list ((r.map (comF C)).map qI)]]) (m:=1) (bb:=24) wB rfl rfl rfl rfl rfl rfl rfl rfl rfl rfl rfl row1 rfl (by simp only [maxLen,List.length_singleton]; omega) (by simp only [List.length_singleton]; omega) rfl rfl hs) rfl ?_ | refine wQ wB rfl rfl rfl rfl ?_ | refine wG rfl rfl (wH rfl rfl rfl rfl (decide_eq_true (by omega)) rfl) rfl ?_ | refine wG rfl rfl (wX rfl rfl rfl rfl (qC (by omega) (by omega)) rfl) rfl ?_ | refine wF wI rfl rfl ?_ | refine wJ ?_ | refine wM ?_ | refine wC ?_ | refine wO ?_ | refine wN rfl ?_)
   exact ⟨(i+1,a+r.length),⟨hi,hnext⟩,by dsimp only; omega,rfl,rfl,rfl,rfl,rfl,rfl,rfl,rfl,rfl,trivial⟩
  ·have hie:i=R.length:=by omega
   subst hie
   rw [List.take_length]
   repeat (first | refine wQ wB rfl rfl rfl rfl ?_ | refine wG rfl rfl (wH rfl rfl rfl rfl (decide_eq_false (by omega)) rfl) rfl ?_ | refine rr_vfx wB [.tmp 8] rfl rfl rfl rfl rfl ?_ | refine wF wI rfl rfl ?_ | refine wJ ?_ | refine wC ?_ | refine wP ?_ | refine qA ?_ | refine wL rfl ?_)
   exact ⟨.inl rfl,_,rfl,rfl⟩
end Go.Proofs.YtkjhfnhgefbhhaaGreat
/- simileref11.Norm: told of trees. ALLOC -/
namespace Go.Proofs.YtkjhfnhgefbhhaaGreat
open Go.RowKit Go.Ev Go.Vl
theorem den_dvd' (n d:Int) (hd:d≠0):(Rat.divInt n d).den∣d.natAbs:=by
 rw [Rat.den_divInt,if_neg hd]
 exact Nat.div_dvd_of_dvd (by unfold Int.gcd; exact Nat.gcd_dvd_left ..)
def normM (m:MM):MM:=(zn (comD (zF m).flatten:Nat),(zF m).map fun r=>r.map (comF (comD (zF m).flatten:Nat)))
set_option maxRecDepth 20000 in
set_option maxHeartbeats 3200000 in
theorem norm11_v (x:Bool) (l:List Nat) (t:List (List ZZ)) (h:okM ((x,l),t) 68719476736) (h0:intOf (x,l)≠0):wT Tryz.prog 73 [.agg [.bool x,vL l,vT t]] (fun y=>y=vM (normM ((x,l),t))):=by
 refine wK wB Tryz.func73 rfl rfl rfl rfl fun w0=>?_
 have od:okZ (x,l):=⟨h.1,Nat.le_trans h.2.1 (by decide)⟩
 have q1:=rows11_aux x l t od h0 (fun r hr=>⟨Nat.le_trans (h.2.2.1.2 r hr).1 (by decide),fun z hz=>⟨((h.2.2.1.2 r hr).2 z hz).1,Nat.le_trans ((h.2.2.1.2 r hr).2 z hz).2 (by decide)⟩⟩) (Nat.le_trans h.2.2.1.1 (by decide))
 have hdl:lm ((intOf (x,l)).natAbs:Nat)≤68719476736:=by
  have:=qL (x,l) h.1
  refine Nat.le_trans (lm_mono (y:=intOf (x,l)) ?_) (Nat.le_trans this h.2.1)
  rw [Int.natAbs_natCast]
  exact Nat.le_refl _
 have q2:=from11_v (zF ((x,l),t)) (intOf (x,l)).natAbs (by omega) hdl (fun q hq=>by
  rw [ratsT_flat] at hq
  obtain ⟨z,hz,rfl⟩:=List.mem_map.1 hq
  obtain ⟨r,hr,hzr⟩:=List.mem_flatten.1 hz
  obtain ⟨g1,g2⟩:=(h.2.2.1.2 r hr).2 z hzr
  obtain ⟨n1,n2⟩:=kO (intOf z) (intOf (x,l)) h0
  have m1:=qL z g1
  have m2:=qL (x,l) h.1
  have m3:=h.2.1
  refine ⟨okS_qn _ (Nat.le_trans n1 (Nat.le_trans m1 g2)) (Nat.le_trans n2 (Nat.le_trans m2 m3)),?_⟩
  rw [ratOf_qn]
  exact den_dvd' _ _ h0) (by unfold zF; rw [List.length_map]; exact h.2.2.1.1) (by rw [ratsT_flat,List.length_map]; exact h.2.2.2) (fun r hr=>by
  obtain ⟨r',h1,rfl⟩:=List.mem_map.1 hr
  rw [List.length_map]
  exact (h.2.2.1.2 r' h1).1)
 unfold normM
 generalize zF ((x,l),t)=R at *
 repeat (first | refine qP wB rfl rfl rfl rfl rfl rfl ?_ | refine wQ wB rfl rfl rfl rfl ?_ | refine wE wB rfl rfl rfl rfl rfl rfl rfl rfl (q1) rfl rfl ?_ | refine wE wB rfl rfl rfl rfl rfl rfl rfl rfl (q2) rfl rfl ?_ | refine wF wI rfl rfl ?_ | refine wJ ?_ | refine wC ?_ | refine wP ?_)
 exact ⟨.inl rfl,_,rfl,rfl⟩
end Go.Proofs.YtkjhfnhgefbhhaaGreat
