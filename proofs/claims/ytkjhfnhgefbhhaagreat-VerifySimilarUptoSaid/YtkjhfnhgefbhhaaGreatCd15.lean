/- zint, told of trees. -/
import Derived.Test.YtkjhfnhgefbhhaaGreatCd14
set_option linter.all false
namespace Go.Proofs.YtkjhfnhgefbhhaaGreat
open Go.RowKit Go.Ev Go.Vl
abbrev ZZ:=Bool × List Nat
def vI (z:ZZ):V:=.agg [.bool z.1,vL z.2]
def intOf (z:ZZ):Int:=if z.1 then -(wD z.2:Int) else wD z.2
def zn (x:Int):ZZ:=(decide (x<0),toL x.natAbs)
def nI (x:Int):V:=vI (zn x)
def okZ (z:ZZ):Prop:=okL z.2∧z.2.length≤1099511627776
theorem wS (x:Int):intOf (zn x)=x:=by
 unfold intOf zn
 rw [wY]
 by_cases h:x<0
 ·simp [h]; omega
 ·simp [h]; omega
def sgn (x:Int):Int:=if x<0 then -1 else if 0<x then 1 else 0
theorem zX (z:ZZ):(intOf z).natAbs=wD z.2:=by
 unfold intOf
 split <;> omega
theorem nI_of (b:Bool) (m:Nat):V.agg [.bool (if b=true then decide ((0:Int)<((toL m).length:Nat)) else false),vN m]=nI (if b then -(m:Int) else m):=by
 unfold nI vI zn vN
 have h:=toL_nil m
 have hm:(if b then -(m:Int) else (m:Int)).natAbs=m:=by split <;> omega
 rw [hm]
 congr 2
 cases b with
 | false=>simp
 | true =>
  simp only [if_true]
  congr 1
  rcases Nat.eq_zero_or_pos m with rfl | hp
  ·simp [h.2 rfl]
  ·have:=kN m hp
   simp; omega
theorem lenN_zero:lenN 0=0:=rfl
theorem lenN_pos (n:Nat) (h:0<n):0<lenN n:=by
 unfold lenN
 rw [if_neg (by omega)]
 obtain ⟨L,h1,h2,_⟩:=lead_spec _ (toL_top n h) (getD_lt _ (zG n) _)
 omega
set_option maxRecDepth 20000 in
set_option maxHeartbeats 1600000 in
theorem make1_v (b:Bool) (m:Nat):wT Tryz.prog 175 [.bool b,vN m] (fun y=>y=nI (if b then -(m:Int) else m)):=by
 rw [← nI_of]
 refine wK wB Tryz.func175 rfl rfl rfl rfl fun w0=>?_
 cases b with
 | true =>
  rcases Nat.eq_zero_or_pos (toL m).length with h0 | h0
  ·repeat (first | refine wG rfl rfl (wR wB rfl rfl rfl rfl rfl rfl (qQ _) rfl) rfl ?_ | refine wQ wB rfl rfl rfl rfl ?_ | refine wG rfl rfl (wH rfl rfl rfl rfl (decide_eq_false (by omega)) rfl) rfl ?_ | refine wF wI rfl rfl ?_ | refine wJ ?_ | refine wC ?_ | refine wP ?_)
   refine ⟨.inl rfl,_,rfl,?_⟩
   show V.agg [.bool false,vN m]=_
   simp [h0]
  ·repeat (first | refine wG rfl rfl (wR wB rfl rfl rfl rfl rfl rfl (qQ _) rfl) rfl ?_ | refine wQ wB rfl rfl rfl rfl ?_ | refine wG rfl rfl (wH rfl rfl rfl rfl (decide_eq_true (by omega)) rfl) rfl ?_ | refine wF wI rfl rfl ?_ | refine wJ ?_ | refine wC ?_ | refine wP ?_)
   refine ⟨.inl rfl,_,rfl,?_⟩
   show V.agg [.bool true,vN m]=_
   rw [if_pos rfl,decide_eq_true (by omega)]
 | false =>
  repeat (first | refine wQ wB rfl rfl rfl rfl ?_ | refine rr_no rfl rfl rfl rfl rfl rfl ?_ | refine wF wI rfl rfl ?_ | refine wJ ?_ | refine wC ?_ | refine wP ?_)
  exact ⟨.inl rfl,_,rfl,rfl⟩
set_option maxRecDepth 20000 in
set_option maxHeartbeats 1600000 in
theorem zabs_v (z:ZZ) (h:okZ z):wT Tryz.prog 173 [vI z] (fun y=>y=nI (wD z.2)):=by
 refine wK wB Tryz.func173 rfl rfl rfl rfl fun w0=>?_
 obtain ⟨b,l⟩:=z
 obtain ⟨h1,h2⟩:=h
 dsimp only at h1 h2
 have q1:=natNorm_v l h1 (by omega)
 have q2:=make1_v false (wD l)
 repeat (first | refine wQ wB rfl rfl rfl rfl ?_ | refine wE wB rfl rfl rfl rfl rfl rfl rfl rfl (q1) rfl rfl ?_ | refine wE wB rfl rfl rfl rfl rfl rfl rfl rfl (q2) rfl rfl ?_ | refine wF wI rfl rfl ?_ | refine wJ ?_ | refine wC ?_ | refine wP ?_)
 exact ⟨.inl rfl,_,rfl,rfl⟩
set_option maxRecDepth 20000 in
set_option maxHeartbeats 1600000 in
theorem zsign_v (z:ZZ) (h:okZ z):wT Tryz.prog 131 [vI z] (fun y=>y=.int .i64 (sgn (intOf z))):=by
 refine wK wB Tryz.func131 rfl rfl rfl rfl fun w0=>?_
 obtain ⟨b,l⟩:=z
 obtain ⟨h1,h2⟩:=h
 dsimp only at h1 h2
 have q1:=natLen_v l h1 (by omega)
 rcases Nat.eq_zero_or_pos (wD l) with h0 | h0
 ·have e:sgn (intOf (b,l))=0:=by unfold sgn intOf; rw [h0]; cases b <;> rfl
  rw [h0,lenN_zero] at q1
  rw [e]
  repeat (first | refine wQ wB rfl rfl rfl rfl ?_ | refine wG rfl rfl (wH rfl rfl rfl rfl (decide_eq_true (by omega)) rfl) rfl ?_ | refine wE wB rfl rfl rfl rfl rfl rfl rfl rfl (q1) rfl rfl ?_ | refine wF wI rfl rfl ?_ | refine wJ ?_ | refine wM ?_ | refine wC ?_ | refine wP ?_ | refine wN rfl ?_)
  exact ⟨.inl rfl,_,rfl,rfl⟩
 ·have hp:=lenN_pos _ h0
  cases b with
  | true =>
   have e:sgn (intOf (true,l)) = -1:=by unfold sgn intOf; rw [if_pos rfl,if_pos (by dsimp only; omega)]
   rw [e]
   repeat (first | refine wQ wB rfl rfl rfl rfl ?_ | refine wG rfl rfl (wH rfl rfl rfl rfl (decide_eq_false (by omega)) rfl) rfl ?_ | refine wE wB rfl rfl rfl rfl rfl rfl rfl rfl (q1) rfl rfl ?_ | refine wF wI rfl rfl ?_ | refine wJ ?_ | refine wM ?_ | refine wC ?_ | refine wP ?_ | refine wN rfl ?_ | refine wL rfl ?_)
   exact ⟨.inl rfl,_,rfl,rfl⟩
  | false =>
   have e:sgn (intOf (false,l))=1:=by unfold sgn intOf; simp; omega
   rw [e]
   repeat (first | refine wQ wB rfl rfl rfl rfl ?_ | refine wG rfl rfl (wH rfl rfl rfl rfl (decide_eq_false (by omega)) rfl) rfl ?_ | refine wE wB rfl rfl rfl rfl rfl rfl rfl rfl (q1) rfl rfl ?_ | refine wF wI rfl rfl ?_ | refine wJ ?_ | refine wM ?_ | refine wC ?_ | refine wP ?_ | refine wO ?_ | refine wL rfl ?_)
   exact ⟨.inl rfl,_,rfl,rfl⟩
set_option maxRecDepth 20000 in
set_option maxHeartbeats 1600000 in
theorem zneg_v (z:ZZ) (h:okZ z):wT Tryz.prog 174 [vI z] (fun y=>y=nI (-intOf z)):=by
 refine wK wB Tryz.func174 rfl rfl rfl rfl fun w0=>?_
 have q0:=zsign_v z h
 obtain ⟨b,l⟩:=z
 obtain ⟨h1,h2⟩:=h
 dsimp only at h1 h2
 have habs:(intOf (b,l)).natAbs=wD l:=zX (b,l)
 have q1:=natNorm_v l h1 (by omega)
 generalize hx:intOf (b,l)=x at *
 generalize wD l=n at *
 by_cases hp:0<x
 ·have e:sgn x=1:=by unfold sgn; rw [if_neg (by omega),if_pos hp]
  have q2:=make1_v true n
  rw [e] at q0
  repeat (first | refine wQ wB rfl rfl rfl rfl ?_ | refine wG rfl rfl (wH rfl rfl rfl rfl (decide_eq_true (by omega)) rfl) rfl ?_ | refine wE wB rfl rfl rfl rfl rfl rfl rfl rfl (q0) rfl rfl ?_ | refine wE wB rfl rfl rfl rfl rfl rfl rfl rfl (q1) rfl rfl ?_ | refine wE wB rfl rfl rfl rfl rfl rfl rfl rfl (q2) rfl rfl ?_ | refine wF wI rfl rfl ?_ | refine wJ ?_ | refine wC ?_ | refine wP ?_)
  refine ⟨.inl rfl,_,rfl,?_⟩
  have e2:-(n:Int) = -x:=by omega
  show nI (-(n:Int))=nI (-x)
  rw [e2]
 ·have e:sgn x≤0:=by unfold sgn; split <;> omega
  have q2:=make1_v false n
  generalize sgn x=sx at *
  repeat (first | refine wQ wB rfl rfl rfl rfl ?_ | refine wG rfl rfl (wH rfl rfl rfl rfl (decide_eq_false (by omega)) rfl) rfl ?_ | refine wE wB rfl rfl rfl rfl rfl rfl rfl rfl (q0) rfl rfl ?_ | refine wE wB rfl rfl rfl rfl rfl rfl rfl rfl (q1) rfl rfl ?_ | refine wE wB rfl rfl rfl rfl rfl rfl rfl rfl (q2) rfl rfl ?_ | refine wF wI rfl rfl ?_ | refine wJ ?_ | refine wC ?_ | refine wP ?_)
  refine ⟨.inl rfl,_,rfl,?_⟩
  have e2:(n:Int) = -x:=by omega
  show nI (n:Int)=nI (-x)
  rw [e2]
def joinI (a b:ZZ):Int:=if wD a.2<wD b.2 then (if b.1 then -((wD b.2 - wD a.2:Nat):Int) else ((wD b.2 - wD a.2:Nat):Int)) else (if a.1 then -((wD a.2 - wD b.2:Nat):Int) else ((wD a.2 - wD b.2:Nat):Int))
theorem joinI_add (a b:ZZ) (h:a.1≠b.1):joinI a b=intOf a+intOf b:=by
 obtain ⟨x,l⟩:=a
 obtain ⟨y,m⟩:=b
 unfold joinI intOf
 dsimp only at h ⊢
 cases x <;> cases y <;> simp at h ⊢ <;> split <;> omega
set_option maxRecDepth 20000 in
set_option maxHeartbeats 1600000 in
theorem joined_v (a b:ZZ) (ha:okZ a) (hb:okZ b):wT Tryz.prog 178 [vI a,vI b] (fun y=>y=nI (joinI a b)):=by
 refine wK wB Tryz.func178 rfl rfl rfl rfl fun w0=>?_
 obtain ⟨x,l⟩:=a
 obtain ⟨y,m⟩:=b
 obtain ⟨h1,h2⟩:=ha
 obtain ⟨h3,h4⟩:=hb
 dsimp only at h1 h2 h3 h4
 have q1:=natCmp_v l m h1 h3 (by omega) (by omega)
 unfold joinI
 dsimp only
 by_cases hlt:wD l<wD m
 ·have hc:cmpN (wD l) (wD m) = -1:=by unfold cmpN; rw [if_pos hlt]
  have q2:=natSub_v m l h3 h1 (by omega) (by omega) (by omega)
  have q3:=make1_v y (wD m - wD l)
  rw [hc] at q1
  rw [if_pos hlt]
  repeat (first | refine wQ wB rfl rfl rfl rfl ?_ | refine wG rfl rfl (wH rfl rfl rfl rfl (decide_eq_true (by omega)) rfl) rfl ?_ | refine wE wB rfl rfl rfl rfl rfl rfl rfl rfl (q1) rfl rfl ?_ | refine wE wB rfl rfl rfl rfl rfl rfl rfl rfl (q2) rfl rfl ?_ | refine wE wB rfl rfl rfl rfl rfl rfl rfl rfl (q3) rfl rfl ?_ | refine wF wI rfl rfl ?_ | refine wJ ?_ | refine wC ?_ | refine wP ?_ | refine wN rfl ?_)
  exact ⟨.inl rfl,_,rfl,rfl⟩
 ·have hc:0≤cmpN (wD l) (wD m):=by unfold cmpN; rw [if_neg hlt]; split <;> decide
  have q2:=natSub_v l m h1 h3 (by omega) (by omega) (by omega)
  have q3:=make1_v x (wD l - wD m)
  rw [if_neg hlt]
  generalize cmpN (wD l) (wD m)=cm at *
  repeat (first | refine wQ wB rfl rfl rfl rfl ?_ | refine wG rfl rfl (wH rfl rfl rfl rfl (decide_eq_false (by omega)) rfl) rfl ?_ | refine wE wB rfl rfl rfl rfl rfl rfl rfl rfl (q1) rfl rfl ?_ | refine wE wB rfl rfl rfl rfl rfl rfl rfl rfl (q2) rfl rfl ?_ | refine wE wB rfl rfl rfl rfl rfl rfl rfl rfl (q3) rfl rfl ?_ | refine wF wI rfl rfl ?_ | refine wJ ?_ | refine wC ?_ | refine wP ?_ | refine wO ?_ | refine wL rfl ?_)
  exact ⟨.inl rfl,_,rfl,rfl⟩
set_option maxRecDepth 20000 in
set_option maxHeartbeats 1600000 in
theorem zadd_v (a b:ZZ) (ha:okZ a) (hb:okZ b):wT Tryz.prog 117 [vI a,vI b] (fun y=>y=nI (intOf a+intOf b)):=by
 refine wK wB Tryz.func117 rfl rfl rfl rfl fun w0=>?_
 have q3:=joined_v a b ha hb
 have hj:=joinI_add a b
 obtain ⟨x,l⟩:=a
 obtain ⟨y,m⟩:=b
 obtain ⟨h1,h2⟩:=ha
 obtain ⟨h3,h4⟩:=hb
 dsimp only at h1 h2 h3 h4 hj
 have q1:=natAdd_v l m h1 h3 (by omega) (by omega)
 have q2:=make1_v x (wD l+wD m)
 have e:intOf (x,l)+intOf (x,m)=if x then -((wD l+wD m:Nat):Int) else ((wD l+wD m:Nat):Int):=by
  unfold intOf
  cases x <;> simp <;> omega
 cases x <;> cases y
 ·repeat (first | refine wQ wB rfl rfl rfl rfl ?_ | refine wG rfl rfl (zZ wB rfl rfl rfl rfl (.inl ⟨rfl,rfl⟩) rfl) rfl ?_ | refine wE wB rfl rfl rfl rfl rfl rfl rfl rfl (q1) rfl rfl ?_ | refine wE wB rfl rfl rfl rfl rfl rfl rfl rfl (q2) rfl rfl ?_ | refine wF wI rfl rfl ?_ | refine wJ ?_ | refine wC ?_ | refine wP ?_ | refine wN rfl ?_)
  refine ⟨.inl rfl,_,rfl,?_⟩
  rw [e]
  exact rfl
 ·repeat (first | refine wQ wB rfl rfl rfl rfl ?_ | refine wG rfl rfl (zZ wB rfl rfl rfl rfl (.inl ⟨rfl,rfl⟩) rfl) rfl ?_ | refine wE wB rfl rfl rfl rfl rfl rfl rfl rfl (q3) rfl rfl ?_ | refine wF wI rfl rfl ?_ | refine wJ ?_ | refine wC ?_ | refine wP ?_ | refine wO ?_ | refine wL rfl ?_)
  refine ⟨.inl rfl,_,rfl,?_⟩
  rw [← hj (by decide)]
  exact rfl
 ·repeat (first | refine wQ wB rfl rfl rfl rfl ?_ | refine wG rfl rfl (zZ wB rfl rfl rfl rfl (.inl ⟨rfl,rfl⟩) rfl) rfl ?_ | refine wE wB rfl rfl rfl rfl rfl rfl rfl rfl (q3) rfl rfl ?_ | refine wF wI rfl rfl ?_ | refine wJ ?_ | refine wC ?_ | refine wP ?_ | refine wO ?_ | refine wL rfl ?_)
  refine ⟨.inl rfl,_,rfl,?_⟩
  rw [← hj (by decide)]
  exact rfl
 ·repeat (first | refine wQ wB rfl rfl rfl rfl ?_ | refine wG rfl rfl (zZ wB rfl rfl rfl rfl (.inl ⟨rfl,rfl⟩) rfl) rfl ?_ | refine wE wB rfl rfl rfl rfl rfl rfl rfl rfl (q1) rfl rfl ?_ | refine wE wB rfl rfl rfl rfl rfl rfl rfl rfl (q2) rfl rfl ?_ | refine wF wI rfl rfl ?_ | refine wJ ?_ | refine wC ?_ | refine wP ?_ | refine wN rfl ?_)
  refine ⟨.inl rfl,_,rfl,?_⟩
  rw [e]
  exact rfl
theorem intOf_mul (x y:Bool) (l m:List Nat):intOf (x,l)*intOf (y,m)=if x != y then -((wD l*wD m:Nat):Int) else ((wD l*wD m:Nat):Int):=by
 unfold intOf
 cases x <;> cases y <;> simp [Int.neg_mul,Int.mul_neg]
set_option maxRecDepth 20000 in
set_option maxHeartbeats 1600000 in
theorem zmul_v (a b:ZZ) (ha:okZ a) (hb:okZ b):wT Tryz.prog 114 [vI a,vI b] (fun y=>y=nI (intOf a*intOf b)):=by
 refine wK wB Tryz.func114 rfl rfl rfl rfl fun w0=>?_
 obtain ⟨x,l⟩:=a
 obtain ⟨y,m⟩:=b
 obtain ⟨h1,h2⟩:=ha
 obtain ⟨h3,h4⟩:=hb
 dsimp only at h1 h2 h3 h4
 have q1:=natMul_v l m h1 h3 (by omega) (by omega)
 have q2:=make1_v (x != y) (wD l*wD m)
 rw [intOf_mul]
 cases x <;> cases y
 all_goals
  repeat (first | refine wQ wB rfl rfl rfl rfl ?_ | refine wG rfl rfl (zZ wB rfl rfl rfl rfl (.inr ⟨rfl,rfl⟩) rfl) rfl ?_ | refine wE wB rfl rfl rfl rfl rfl rfl rfl rfl (q1) rfl rfl ?_ | refine wE wB rfl rfl rfl rfl rfl rfl rfl rfl (q2) rfl rfl ?_ | refine wF wI rfl rfl ?_ | refine wJ ?_ | refine wC ?_ | refine wP ?_)
  exact ⟨.inl rfl,_,rfl,rfl⟩
theorem okZ_zn (x:Int) (h:(toL x.natAbs).length≤1099511627776):okZ (zn x):=⟨zG _,h⟩
theorem len_intOf (z:ZZ) (h:okZ z):(toL (intOf z).natAbs).length≤z.2.length:=by rw [zX]; exact toL_len z.2 h.1
theorem okZ_norm (z:ZZ) (h:okZ z):okZ (zn (intOf z)):=okZ_zn _ (Nat.le_trans (len_intOf z h) h.2)
theorem okZ_neg (z:ZZ) (h:okZ z):okZ (zn (-intOf z)):=okZ_zn _ (by rw [Int.natAbs_neg]; exact Nat.le_trans (len_intOf z h) h.2)
def cmpI (a b:Int):Int:=if a<b then -1 else if b<a then 1 else 0
theorem cmpI_is (a b:Int):(a<b∧cmpI a b = -1)∨(b<a∧cmpI a b=1)∨(a=b∧cmpI a b=0):=by
 unfold cmpI
 repeat' split
 all_goals omega
theorem cmpN_is (a b:Nat):(a<b∧cmpN a b = -1)∨(b<a∧cmpN a b=1)∨(a=b∧cmpN a b=0):=by
 unfold cmpN
 repeat' split
 all_goals omega
theorem sgn_is (x:Int):(x<0∧sgn x = -1)∨(x=0∧sgn x=0)∨(0<x∧sgn x=1):=by
 unfold sgn
 repeat' split
 all_goals omega
set_option maxRecDepth 20000 in
set_option maxHeartbeats 1600000 in
theorem zcmp_v (a b:ZZ) (ha:okZ a) (hb:okZ b):wT Tryz.prog 79 [vI a,vI b] (fun y=>y=.int .i64 (cmpI (intOf a) (intOf b))):=by
 refine wK wB Tryz.func79 rfl rfl rfl rfl fun w0=>?_
 have q1:=zsign_v a ha
 have q2:=zsign_v b hb
 have e1:=zX a
 have e2:=zX b
 obtain ⟨x,l⟩:=a
 obtain ⟨y,m⟩:=b
 obtain ⟨h1,h2⟩:=ha
 obtain ⟨h3,h4⟩:=hb
 dsimp only at h1 h2 h3 h4 e1 e2
 have q3:=natCmp_v l m h1 h3 (by omega) (by omega)
 have q4:=natCmp_v m l h3 h1 (by omega) (by omega)
 have f1:=sgn_is (intOf (x,l))
 have f2:=sgn_is (intOf (y,m))
 have ec:=cmpN_is (wD l) (wD m)
 have ec2:=cmpN_is (wD m) (wD l)
 have ei:=cmpI_is (intOf (x,l)) (intOf (y,m))
 obtain ⟨X,hX⟩:∃ X,intOf (x,l)=X:=⟨_,rfl⟩
 obtain ⟨Y,hY⟩:∃ Y,intOf (y,m)=Y:=⟨_,rfl⟩
 rw [hX] at q1 e1 f1
 rw [hY] at q2 e2 f2
 rw [hX,hY] at ei
 rw [hX,hY]
 generalize cmpI X Y=ci at *
 generalize sgn X=sx at *
 generalize sgn Y=sy at *
 generalize cmpN (wD l) (wD m)=c1 at *
 generalize cmpN (wD m) (wD l)=c2 at *
 have fin:∀ {u v:Int},u=v→V.int .i64 u=V.int .i64 v:=fun h=>by rw [h]
 by_cases hne:sx=sy
 ·by_cases hn:sx<0
  ·repeat (first | refine wQ wB rfl rfl rfl rfl ?_ | refine wG rfl rfl (wH rfl rfl rfl rfl (decide_eq_true (by omega)) rfl) rfl ?_ | refine wG rfl rfl (wH rfl rfl rfl rfl (ndF (by omega)) rfl) rfl ?_ | refine wE wB rfl rfl rfl rfl rfl rfl rfl rfl (q1) rfl rfl ?_ | refine wE wB rfl rfl rfl rfl rfl rfl rfl rfl (q2) rfl rfl ?_ | refine wE wB rfl rfl rfl rfl rfl rfl rfl rfl (q4) rfl rfl ?_ | refine wF wI rfl rfl ?_ | refine wJ ?_ | refine wM ?_ | refine wC ?_ | refine wP ?_ | refine wN rfl ?_ | refine wL rfl ?_)
   refine ⟨.inl rfl,_,rfl,fin ?_⟩
   omega
  ·repeat (first | refine wQ wB rfl rfl rfl rfl ?_ | refine wG rfl rfl (wH rfl rfl rfl rfl (decide_eq_false (by omega)) rfl) rfl ?_ | refine wG rfl rfl (wH rfl rfl rfl rfl (ndF (by omega)) rfl) rfl ?_ | refine wE wB rfl rfl rfl rfl rfl rfl rfl rfl (q1) rfl rfl ?_ | refine wE wB rfl rfl rfl rfl rfl rfl rfl rfl (q2) rfl rfl ?_ | refine wE wB rfl rfl rfl rfl rfl rfl rfl rfl (q3) rfl rfl ?_ | refine wF wI rfl rfl ?_ | refine wJ ?_ | refine wM ?_ | refine wC ?_ | refine wP ?_ | refine wO ?_ | refine wL rfl ?_)
   refine ⟨.inl rfl,_,rfl,fin ?_⟩
   omega
 ·by_cases hn:sx<sy
  ·repeat (first | refine wQ wB rfl rfl rfl rfl ?_ | refine wG rfl rfl (wH rfl rfl rfl rfl (decide_eq_true (by omega)) rfl) rfl ?_ | refine wG rfl rfl (wH rfl rfl rfl rfl (ndT (by omega)) rfl) rfl ?_ | refine wE wB rfl rfl rfl rfl rfl rfl rfl rfl (q1) rfl rfl ?_ | refine wE wB rfl rfl rfl rfl rfl rfl rfl rfl (q2) rfl rfl ?_ | refine wF wI rfl rfl ?_ | refine wJ ?_ | refine wM ?_ | refine wC ?_ | refine wP ?_ | refine wN rfl ?_)
   refine ⟨.inl rfl,_,rfl,fin ?_⟩
   omega
  ·repeat (first | refine wQ wB rfl rfl rfl rfl ?_ | refine wG rfl rfl (wH rfl rfl rfl rfl (decide_eq_false (by omega)) rfl) rfl ?_ | refine wG rfl rfl (wH rfl rfl rfl rfl (ndT (by omega)) rfl) rfl ?_ | refine wE wB rfl rfl rfl rfl rfl rfl rfl rfl (q1) rfl rfl ?_ | refine wE wB rfl rfl rfl rfl rfl rfl rfl rfl (q2) rfl rfl ?_ | refine wF wI rfl rfl ?_ | refine wJ ?_ | refine wM ?_ | refine wC ?_ | refine wP ?_ | refine wO ?_ | refine wN rfl ?_ | refine wL rfl ?_)
   refine ⟨.inl rfl,_,rfl,fin ?_⟩
   omega
theorem intOf_tdiv (x y:Bool) (l m:List Nat):(intOf (x,l)).tdiv (intOf (y,m))=if x != y then -((wD l / wD m:Nat):Int) else ((wD l / wD m:Nat):Int):=by
 have h:∀ a b:Nat,(a:Int).tdiv (b:Int)=((a / b:Nat):Int):=fun a b=>rfl
 unfold intOf
 cases x <;> cases y <;> simp [Int.neg_tdiv,Int.tdiv_neg,h]
theorem intOf_tmod (x y:Bool) (l m:List Nat):(intOf (x,l)).tmod (intOf (y,m))=if x then -((wD l % wD m:Nat):Int) else ((wD l % wD m:Nat):Int):=by
 have h:∀ a b:Nat,(a:Int).tmod (b:Int)=((a % b:Nat):Int):=fun a b=>rfl
 unfold intOf
 cases x <;> cases y <;> simp [Int.neg_tmod,Int.tmod_neg,h]
set_option maxRecDepth 20000 in
set_option maxHeartbeats 1600000 in
theorem ztrunc_v (a b:ZZ) (ha:okZ a) (hb:okZ b) (h0:intOf b≠0):wT Tryz.prog 205 [vI a,vI b] (fun y=>y=.tup [nI ((intOf a).tdiv (intOf b)),nI ((intOf a).tmod (intOf b)),.int .i64 0]):=by
 refine wK wB Tryz.func205 rfl rfl rfl rfl fun w0=>?_
 have e2:=zX b
 obtain ⟨x,l⟩:=a
 obtain ⟨y,m⟩:=b
 obtain ⟨h1,h2⟩:=ha
 obtain ⟨h3,h4⟩:=hb
 dsimp only at h1 h2 h3 h4 e2
 have q1:=div_v l m h1 h3 (by omega) (by omega) (by omega)
 have q2:=make1_v (x != y) (wD l / wD m)
 have q3:=make1_v x (wD l % wD m)
 rw [intOf_tdiv,intOf_tmod]
 cases x <;> cases y
 all_goals
  repeat (first | refine wQ wB rfl rfl rfl rfl ?_ | refine wG rfl rfl (wH rfl rfl rfl rfl (ndF (by omega)) rfl) rfl ?_ | refine wG rfl rfl (zZ wB rfl rfl rfl rfl (.inr ⟨rfl,rfl⟩) rfl) rfl ?_ | refine wE wB rfl rfl rfl rfl rfl rfl rfl rfl (q1) rfl rfl ?_ | refine wE wB rfl rfl rfl rfl rfl rfl rfl rfl (q2) rfl rfl ?_ | refine wE wB rfl rfl rfl rfl rfl rfl rfl rfl (q3) rfl rfl ?_ | refine wF wI rfl rfl ?_ | refine wJ ?_ | refine wC ?_ | refine wP ?_ | refine wO ?_ | refine wL rfl ?_)
  exact ⟨.inl rfl,_,rfl,rfl⟩
set_option maxRecDepth 20000 in
set_option maxHeartbeats 1600000 in
theorem zexact_v (a b:ZZ) (ha:okZ a) (hb:okZ b) (h0:intOf b≠0) (hd:intOf b∣intOf a):wT Tryz.prog 140 [vI a,vI b] (fun y=>y=.tup [nI ((intOf a).tdiv (intOf b)),.int .i64 0]):=by
 refine wK wB Tryz.func140 rfl rfl rfl rfl fun w0=>?_
 have q1:=ztrunc_v a b ha hb h0
 have q2:=zsign_v (zn 0) (okZ_zn 0 (by simp [zL]))
 rw [Int.tmod_eq_zero_of_dvd hd] at q1
 rw [wS] at q2
 obtain ⟨x,l⟩:=a
 obtain ⟨y,m⟩:=b
 repeat (first | refine wQ wB rfl rfl rfl rfl ?_ | refine wG rfl rfl (wH rfl rfl rfl rfl (decide_eq_true (by omega)) rfl) rfl ?_ | refine wG rfl rfl (wH rfl rfl rfl rfl (rfl) rfl) rfl ?_ | refine wE wB rfl rfl rfl rfl rfl rfl rfl rfl (q1) rfl rfl ?_ | refine wE wB rfl rfl rfl rfl rfl rfl rfl rfl (q2) rfl rfl ?_ | refine wF wI rfl rfl ?_ | refine wJ ?_ | refine wC ?_ | refine wP ?_ | refine wO ?_ | refine wL rfl ?_)
 exact ⟨.inl rfl,_,rfl,rfl⟩
set_option maxRecDepth 20000 in
set_option maxHeartbeats 1600000 in
theorem zgcd1_v (a b:ZZ) (ha:okZ a) (hb:okZ b):wT Tryz.prog 227 [vI a,vI b] (fun y=>y=nI (Int.gcd (intOf a) (intOf b))):=by
 refine wK wB Tryz.func227 rfl rfl rfl rfl fun w0=>?_
 have e1:=zX a
 have e2:=zX b
 obtain ⟨x,l⟩:=a
 obtain ⟨y,m⟩:=b
 obtain ⟨h1,h2⟩:=ha
 obtain ⟨h3,h4⟩:=hb
 dsimp only at h1 h2 h3 h4 e1 e2
 have q1:=gcd_v l m h1 h3 (by omega) (by omega)
 have q2:=make1_v false (Nat.gcd (wD l) (wD m))
 have e3:Int.gcd (intOf (x,l)) (intOf (y,m))=Nat.gcd (wD l) (wD m):=by unfold Int.gcd; rw [e1,e2]
 rw [e3]
 repeat (first | refine wQ wB rfl rfl rfl rfl ?_ | refine wE wB rfl rfl rfl rfl rfl rfl rfl rfl (q1) rfl rfl ?_ | refine wE wB rfl rfl rfl rfl rfl rfl rfl rfl (q2) rfl rfl ?_ | refine wF wI rfl rfl ?_ | refine wJ ?_ | refine wC ?_ | refine wP ?_)
 exact ⟨.inl rfl,_,rfl,rfl⟩
end Go.Proofs.YtkjhfnhgefbhhaaGreat
/- simileref03, told of trees. -/
namespace Go.Proofs.YtkjhfnhgefbhhaaGreat
open Go.RowKit Go.Ev Go.Vl
theorem lenAdd (xs ys:List Nat) (k:Nat) (hx:okL xs) (hy:okL ys) (h1:xs.length≤k) (h2:ys.length≤k):(toL (wD xs+wD ys)).length≤k+1:=by
 refine kB _ _ ?_
 have a:=q9 xs hx
 have b:=q9 ys hy
 have c:4294967296 ^ xs.length≤4294967296 ^ k:=Nat.pow_le_pow_right (by decide) h1
 have d:4294967296 ^ ys.length≤4294967296 ^ k:=Nat.pow_le_pow_right (by decide) h2
 rw [Nat.pow_succ]
 generalize 4294967296 ^ k=K at *
 omega
theorem lenMul (xs ys:List Nat) (hx:okL xs) (hy:okL ys):(toL (wD xs*wD ys)).length≤xs.length+ys.length:=by
 refine kB _ _ ?_
 rw [Nat.pow_add]
 exact Nat.mul_lt_mul'' (q9 xs hx) (q9 ys hy)
theorem lenSub (xs ys:List Nat) (hx:okL xs):(toL (wD xs - wD ys)).length≤xs.length:=Nat.le_trans (qN (Nat.sub_le _ _)) (toL_len xs hx)
theorem lenDiv (xs ys:List Nat) (hx:okL xs):(toL (wD xs / wD ys)).length≤xs.length:=Nat.le_trans (qN (Nat.div_le_self _ _)) (toL_len xs hx)
theorem intOf_toL (b:Bool) (n:Nat):intOf (b,toL n)=if b then -(n:Int) else n:=by unfold intOf; rw [wY]
set_option maxRecDepth 20000 in
set_option maxHeartbeats 1600000 in
theorem rnorm_v (z:ZZ) (h1:okL z.2) (h2:z.2.length≤35184372088832):wT Tryz.prog 194 [vI z] (fun y=>y=nI (intOf z)):=by
 obtain ⟨b,l⟩:=z
 dsimp only at h1 h2
 have q1:=norm01_v l h1 (by omega)
 have e:=nI_of b (wD l)
 have e2:intOf (b,l)=if b then -(wD l:Int) else wD l:=rfl
 rw [e2,← e]
 refine wK wB Tryz.func194 rfl rfl rfl rfl fun w0=>?_
 generalize wD l=m at *
 cases b with
 | true =>
  rcases Nat.eq_zero_or_pos (toL m).length with h0 | h0
  ·repeat (first | refine wG rfl rfl (wR wB rfl rfl rfl rfl rfl rfl (qQ _) rfl) rfl ?_ | refine wQ wB rfl rfl rfl rfl ?_ | refine wG rfl rfl (wH rfl rfl rfl rfl (decide_eq_false (by omega)) rfl) rfl ?_ | refine wE wB rfl rfl rfl rfl rfl rfl rfl rfl (q1) rfl rfl ?_ | refine wF wI rfl rfl ?_ | refine wJ ?_ | refine wC ?_ | refine wP ?_)
   refine ⟨.inl rfl,_,rfl,?_⟩
   show V.agg [.bool false,vN m]=_
   simp [h0]
  ·repeat (first | refine wG rfl rfl (wR wB rfl rfl rfl rfl rfl rfl (qQ _) rfl) rfl ?_ | refine wQ wB rfl rfl rfl rfl ?_ | refine wG rfl rfl (wH rfl rfl rfl rfl (decide_eq_true (by omega)) rfl) rfl ?_ | refine wE wB rfl rfl rfl rfl rfl rfl rfl rfl (q1) rfl rfl ?_ | refine wF wI rfl rfl ?_ | refine wJ ?_ | refine wC ?_ | refine wP ?_)
   refine ⟨.inl rfl,_,rfl,?_⟩
   show V.agg [.bool true,vN m]=_
   rw [if_pos rfl,decide_eq_true (by omega)]
 | false =>
  repeat (first | refine wQ wB rfl rfl rfl rfl ?_ | refine wE wB rfl rfl rfl rfl rfl rfl rfl rfl (q1) rfl rfl ?_ | refine rr_no rfl rfl rfl rfl rfl rfl ?_ | refine wF wI rfl rfl ?_ | refine wJ ?_ | refine wC ?_ | refine wP ?_)
  exact ⟨.inl rfl,_,rfl,rfl⟩
set_option maxRecDepth 20000 in
set_option maxHeartbeats 1600000 in
theorem rsignW_v (z:ZZ) (h1:okL z.2) (h2:z.2.length≤35184372088832):wT Tryz.prog 84 [vI z] (fun y=>y=.int .i64 (sgn (intOf z))):=by
 refine wK wB Tryz.func84 rfl rfl rfl rfl fun w0=>?_
 obtain ⟨b,l⟩:=z
 dsimp only at h1 h2
 have q1:=zero01_v l h1 (by omega)
 by_cases h0:wD l=0
 ·have e:sgn (intOf (b,l))=0:=by unfold sgn intOf; rw [h0]; cases b <;> rfl
  rw [decide_eq_true h0] at q1
  rw [e]
  repeat (first | refine wQ wB rfl rfl rfl rfl ?_ | refine wE wB rfl rfl rfl rfl rfl rfl rfl rfl (q1) rfl rfl ?_ | refine wF wI rfl rfl ?_ | refine wJ ?_ | refine wM ?_ | refine wC ?_ | refine wP ?_ | refine wN rfl ?_)
  exact ⟨.inl rfl,_,rfl,rfl⟩
 ·rw [decide_eq_false h0] at q1
  cases b with
  | true =>
   have e:sgn (intOf (true,l)) = -1:=by unfold sgn intOf; rw [if_pos rfl,if_pos (by dsimp only; omega)]
   rw [e]
   repeat (first | refine wQ wB rfl rfl rfl rfl ?_ | refine wE wB rfl rfl rfl rfl rfl rfl rfl rfl (q1) rfl rfl ?_ | refine wF wI rfl rfl ?_ | refine wJ ?_ | refine wM ?_ | refine wC ?_ | refine wP ?_ | refine wN rfl ?_ | refine wL rfl ?_)
   exact ⟨.inl rfl,_,rfl,rfl⟩
  | false =>
   have e:sgn (intOf (false,l))=1:=by unfold sgn intOf; simp; omega
   rw [e]
   repeat (first | refine wQ wB rfl rfl rfl rfl ?_ | refine wE wB rfl rfl rfl rfl rfl rfl rfl rfl (q1) rfl rfl ?_ | refine wF wI rfl rfl ?_ | refine wJ ?_ | refine wM ?_ | refine wC ?_ | refine wP ?_ | refine wO ?_ | refine wL rfl ?_)
   exact ⟨.inl rfl,_,rfl,rfl⟩
theorem rsign_v (z:ZZ) (h:okZ z):wT Tryz.prog 84 [vI z] (fun y=>y=.int .i64 (sgn (intOf z))):=rsignW_v z h.1 (Nat.le_trans h.2 (by decide))
set_option maxRecDepth 20000 in
set_option maxHeartbeats 1600000 in
theorem rneg_v (z:ZZ) (h:okZ z):wT Tryz.prog 191 [vI z] (fun y=>y=nI (-intOf z)):=by
 refine wK wB Tryz.func191 rfl rfl rfl rfl fun w0=>?_
 obtain ⟨b,l⟩:=z
 obtain ⟨h1,h2⟩:=h
 dsimp only at h1 h2
 have q1:=rnorm_v (!b,l) h1 (by dsimp only; omega)
 have e:intOf (!b,l) = -intOf (b,l):=by unfold intOf; cases b <;> simp
 rw [← e]
 cases b
 all_goals
  repeat (first | refine wQ wB rfl rfl rfl rfl ?_ | refine wE wB rfl rfl rfl rfl rfl rfl rfl rfl (q1) rfl rfl ?_ | refine wF wI rfl rfl ?_ | refine wJ ?_ | refine wC ?_ | refine wP ?_)
  exact ⟨.inl rfl,_,rfl,rfl⟩
set_option maxRecDepth 20000 in
set_option maxHeartbeats 1600000 in
theorem rabs_v (z:ZZ) (h:okZ z):wT Tryz.prog 234 [vI z] (fun y=>y=nI (wD z.2)):=by
 refine wK wB Tryz.func234 rfl rfl rfl rfl fun w0=>?_
 obtain ⟨b,l⟩:=z
 obtain ⟨h1,h2⟩:=h
 dsimp only at h1 h2
 have q1:=norm01_v l h1 (by omega)
 repeat (first | refine wQ wB rfl rfl rfl rfl ?_ | refine wE wB rfl rfl rfl rfl rfl rfl rfl rfl (q1) rfl rfl ?_ | refine wF wI rfl rfl ?_ | refine wJ ?_ | refine wC ?_ | refine wP ?_)
 exact ⟨.inl rfl,_,rfl,nI_of false (wD l)⟩
set_option maxRecDepth 20000 in
set_option maxHeartbeats 1600000 in
theorem rmul_v (a b:ZZ) (ha:okZ a) (hb:okZ b):wT Tryz.prog 129 [vI a,vI b] (fun y=>y=nI (intOf a*intOf b)):=by
 refine wK wB Tryz.func129 rfl rfl rfl rfl fun w0=>?_
 obtain ⟨x,l⟩:=a
 obtain ⟨y,m⟩:=b
 obtain ⟨h1,h2⟩:=ha
 obtain ⟨h3,h4⟩:=hb
 dsimp only at h1 h2 h3 h4
 have hl:=lenMul l m h1 h3
 have q1:=mul01_v l m h1 h3 (by omega) (by omega)
 have q2:=rnorm_v (x != y,toL (wD l*wD m)) (zG _) (by dsimp only; omega)
 rw [intOf_toL] at q2
 rw [intOf_mul]
 cases x <;> cases y
 all_goals
  repeat (first | refine wQ wB rfl rfl rfl rfl ?_ | refine wG rfl rfl (zZ wB rfl rfl rfl rfl (.inr ⟨rfl,rfl⟩) rfl) rfl ?_ | refine wE wB rfl rfl rfl rfl rfl rfl rfl rfl (q1) rfl rfl ?_ | refine wE wB rfl rfl rfl rfl rfl rfl rfl rfl (q2) rfl rfl ?_ | refine wF wI rfl rfl ?_ | refine wJ ?_ | refine wC ?_ | refine wP ?_)
  exact ⟨.inl rfl,_,rfl,rfl⟩
set_option maxRecDepth 20000 in
set_option maxHeartbeats 1600000 in
theorem radd_v (a b:ZZ) (ha:okZ a) (hb:okZ b):wT Tryz.prog 128 [vI a,vI b] (fun y=>y=nI (intOf a+intOf b)):=by
 refine wK wB Tryz.func128 rfl rfl rfl rfl fun w0=>?_
 have p1:=rnorm_v a ha.1 (Nat.le_trans ha.2 (by decide))
 have p2:=rnorm_v b hb.1 (Nat.le_trans hb.2 (by decide))
 have ka:=okZ_norm a ha
 have kb:=okZ_norm b hb
 have ia:=wS (intOf a)
 have ib:=wS (intOf b)
 unfold nI at p1 p2
 obtain ⟨a1,a2⟩:=a
 obtain ⟨b1,b2⟩:=b
 generalize intOf (a1,a2)=X at *
 generalize intOf (b1,b2)=Y at *
 generalize zn X=zx at *
 generalize zn Y=zy at *
 obtain ⟨x,l⟩:=zx
 obtain ⟨y,m⟩:=zy
 rw [← ia,← ib]
 have hj:=joinI_add (x,l) (y,m)
 unfold joinI at hj
 obtain ⟨h1,h2⟩:=ka
 obtain ⟨h3,h4⟩:=kb
 dsimp only at h1 h2 h3 h4 hj
 have la:=lenAdd l m _ h1 h3 h2 h4
 have q1:=add01_v l m h1 h3 (by omega) (by omega)
 have q2:=rnorm_v (x,toL (wD l+wD m)) (zG _) (by dsimp only; omega)
 have c1:=cmp01_v l m h1 h3 (by omega) (by omega)
 have e:intOf (x,l)+intOf (x,m)=if x then -((wD l+wD m:Nat):Int) else ((wD l+wD m:Nat):Int):=by
  unfold intOf
  cases x <;> simp <;> omega
 rw [intOf_toL] at q2
 by_cases hxy:x=y
 ·subst hxy
  cases x
  all_goals
   repeat (first | refine wQ wB rfl rfl rfl rfl ?_ | refine wG rfl rfl (zZ wB rfl rfl rfl rfl (.inl ⟨rfl,rfl⟩) rfl) rfl ?_ | refine wE wB rfl rfl rfl rfl rfl rfl rfl rfl (p1) rfl rfl ?_ | refine wE wB rfl rfl rfl rfl rfl rfl rfl rfl (p2) rfl rfl ?_ | refine wE wB rfl rfl rfl rfl rfl rfl rfl rfl (q1) rfl rfl ?_ | refine wE wB rfl rfl rfl rfl rfl rfl rfl rfl (q2) rfl rfl ?_ | refine wF wI rfl rfl ?_ | refine wJ ?_ | refine wC ?_ | refine wP ?_ | refine wN rfl ?_)
   refine ⟨.inl rfl,_,rfl,?_⟩
   rw [e]
   exact rfl
 ·rw [← hj hxy]
  by_cases hlt:wD l<wD m
  ·have hc:cmpN (wD l) (wD m) = -1:=by unfold cmpN; rw [if_pos hlt]
   have s1:=sub01_v m l h3 h1 (by omega) (by omega)
   have ls:=lenSub m l h3
   have s2:=rnorm_v (y,toL (wD m - wD l)) (zG _) (by dsimp only; omega)
   rw [intOf_toL] at s2
   rw [hc] at c1
   rw [if_pos hlt]
   cases x <;> cases y
   ·exact absurd rfl hxy
   ·repeat (first | refine wQ wB rfl rfl rfl rfl ?_ | refine wG rfl rfl (wH rfl rfl rfl rfl (decide_eq_true (by omega)) rfl) rfl ?_ | refine wG rfl rfl (zZ wB rfl rfl rfl rfl (.inl ⟨rfl,rfl⟩) rfl) rfl ?_ | refine wE wB rfl rfl rfl rfl rfl rfl rfl rfl (p1) rfl rfl ?_ | refine wE wB rfl rfl rfl rfl rfl rfl rfl rfl (p2) rfl rfl ?_ | refine wE wB rfl rfl rfl rfl rfl rfl rfl rfl (c1) rfl rfl ?_ | refine wE wB rfl rfl rfl rfl rfl rfl rfl rfl (s1) rfl rfl ?_ | refine wE wB rfl rfl rfl rfl rfl rfl rfl rfl (s2) rfl rfl ?_ | refine wF wI rfl rfl ?_ | refine wJ ?_ | refine wC ?_ | refine wP ?_ | refine wO ?_ | refine wN rfl ?_ | refine wL rfl ?_)
    exact ⟨.inl rfl,_,rfl,rfl⟩
   ·repeat (first | refine wQ wB rfl rfl rfl rfl ?_ | refine wG rfl rfl (wH rfl rfl rfl rfl (decide_eq_true (by omega)) rfl) rfl ?_ | refine wG rfl rfl (zZ wB rfl rfl rfl rfl (.inl ⟨rfl,rfl⟩) rfl) rfl ?_ | refine wE wB rfl rfl rfl rfl rfl rfl rfl rfl (p1) rfl rfl ?_ | refine wE wB rfl rfl rfl rfl rfl rfl rfl rfl (p2) rfl rfl ?_ | refine wE wB rfl rfl rfl rfl rfl rfl rfl rfl (c1) rfl rfl ?_ | refine wE wB rfl rfl rfl rfl rfl rfl rfl rfl (s1) rfl rfl ?_ | refine wE wB rfl rfl rfl rfl rfl rfl rfl rfl (s2) rfl rfl ?_ | refine wF wI rfl rfl ?_ | refine wJ ?_ | refine wC ?_ | refine wP ?_ | refine wO ?_ | refine wN rfl ?_ | refine wL rfl ?_)
    exact ⟨.inl rfl,_,rfl,rfl⟩
   ·exact absurd rfl hxy
  ·have hc:0≤cmpN (wD l) (wD m):=by unfold cmpN; rw [if_neg hlt]; split <;> decide
   have s1:=sub01_v l m h1 h3 (by omega) (by omega)
   have ls:=lenSub l m h1
   have s2:=rnorm_v (x,toL (wD l - wD m)) (zG _) (by dsimp only; omega)
   rw [intOf_toL] at s2
   rw [if_neg hlt]
   generalize cmpN (wD l) (wD m)=cm at *
   cases x <;> cases y
   ·exact absurd rfl hxy
   ·repeat (first | refine wQ wB rfl rfl rfl rfl ?_ | refine wG rfl rfl (wH rfl rfl rfl rfl (decide_eq_false (by omega)) rfl) rfl ?_ | refine wG rfl rfl (zZ wB rfl rfl rfl rfl (.inl ⟨rfl,rfl⟩) rfl) rfl ?_ | refine wE wB rfl rfl rfl rfl rfl rfl rfl rfl (p1) rfl rfl ?_ | refine wE wB rfl rfl rfl rfl rfl rfl rfl rfl (p2) rfl rfl ?_ | refine wE wB rfl rfl rfl rfl rfl rfl rfl rfl (c1) rfl rfl ?_ | refine wE wB rfl rfl rfl rfl rfl rfl rfl rfl (s1) rfl rfl ?_ | refine wE wB rfl rfl rfl rfl rfl rfl rfl rfl (s2) rfl rfl ?_ | refine wF wI rfl rfl ?_ | refine wJ ?_ | refine wC ?_ | refine wP ?_ | refine wO ?_ | refine wL rfl ?_)
    exact ⟨.inl rfl,_,rfl,rfl⟩
   ·repeat (first | refine wQ wB rfl rfl rfl rfl ?_ | refine wG rfl rfl (wH rfl rfl rfl rfl (decide_eq_false (by omega)) rfl) rfl ?_ | refine wG rfl rfl (zZ wB rfl rfl rfl rfl (.inl ⟨rfl,rfl⟩) rfl) rfl ?_ | refine wE wB rfl rfl rfl rfl rfl rfl rfl rfl (p1) rfl rfl ?_ | refine wE wB rfl rfl rfl rfl rfl rfl rfl rfl (p2) rfl rfl ?_ | refine wE wB rfl rfl rfl rfl rfl rfl rfl rfl (c1) rfl rfl ?_ | refine wE wB rfl rfl rfl rfl rfl rfl rfl rfl (s1) rfl rfl ?_ | refine wE wB rfl rfl rfl rfl rfl rfl rfl rfl (s2) rfl rfl ?_ | refine wF wI rfl rfl ?_ | refine wJ ?_ | refine wC ?_ | refine wP ?_ | refine wO ?_ | refine wL rfl ?_)
    exact ⟨.inl rfl,_,rfl,rfl⟩
   ·exact absurd rfl hxy
set_option maxRecDepth 20000 in
set_option maxHeartbeats 1600000 in
theorem rsub_v (a b:ZZ) (ha:okZ a) (hb:okZ b):wT Tryz.prog 279 [vI a,vI b] (fun y=>y=nI (intOf a - intOf b)):=by
 refine wK wB Tryz.func279 rfl rfl rfl rfl fun w0=>?_
 have q1:=rneg_v b hb
 have q2:=radd_v a (zn (-intOf b)) ha (okZ_neg b hb)
 rw [wS] at q2
 obtain ⟨x,l⟩:=a
 obtain ⟨y,m⟩:=b
 repeat (first | refine wQ wB rfl rfl rfl rfl ?_ | refine wE wB rfl rfl rfl rfl rfl rfl rfl rfl (q1) rfl rfl ?_ | refine wE wB rfl rfl rfl rfl rfl rfl rfl rfl (q2) rfl rfl ?_ | refine wF wI rfl rfl ?_ | refine wJ ?_ | refine wC ?_ | refine wP ?_)
 exact ⟨.inl rfl,_,rfl,rfl⟩
set_option maxRecDepth 20000 in
set_option maxHeartbeats 1600000 in
theorem rtrunc_v (a b:ZZ) (ha:okZ a) (hb:okZ b) (h0:intOf b≠0):wT Tryz.prog 244 [vI a,vI b] (fun y=>y=.tup [nI ((intOf a).tdiv (intOf b)),nI ((intOf a).tmod (intOf b))]):=by
 refine wK wB Tryz.func244 rfl rfl rfl rfl fun w0=>?_
 have e1:=zX a
 have e2:=zX b
 have hle:(intOf a).natAbs=wD a.2:=e1
 have hda:=Int.mul_tdiv_add_tmod (intOf a) (intOf b)
 have hq:((intOf a).tdiv (intOf b)).natAbs≤wD a.2:=by rw [Int.natAbs_tdiv,e1]; exact Nat.div_le_self _ _
 have hp:((intOf a).tdiv (intOf b)*intOf b).natAbs≤wD a.2:=by rw [Int.natAbs_mul,Int.natAbs_tdiv,e1]; exact Nat.div_mul_le_self _ _
 have ok1:∀ x:Int,x.natAbs≤wD a.2→okZ (zn x):=fun x h=>okZ_zn x (Nat.le_trans (qN h) (Nat.le_trans (toL_len a.2 ha.1) ha.2))
 have q3:=rmul_v (zn ((intOf a).tdiv (intOf b))) b (ok1 _ hq) hb
 have q4:=rsub_v a (zn ((intOf a).tdiv (intOf b)*intOf b)) ha (ok1 _ hp)
 rw [wS] at q3 q4
 have e5:intOf a - (intOf a).tdiv (intOf b)*intOf b=(intOf a).tmod (intOf b):=by rw [Int.mul_comm] ; omega
 rw [e5] at q4
 obtain ⟨x,l⟩:=a
 obtain ⟨y,m⟩:=b
 obtain ⟨h1,h2⟩:=ha
 obtain ⟨h3,h4⟩:=hb
 dsimp only at h1 h2 h3 h4 e2
 have q1:=div01_v l m h1 h3 (by omega) (by omega) (by omega)
 have ld:=lenDiv l m h1
 have q2:=rnorm_v (x != y,toL (wD l / wD m)) (zG _) (by dsimp only; omega)
 rw [intOf_toL,← intOf_tdiv] at q2
 cases x <;> cases y
 all_goals
  repeat (first | refine wQ wB rfl rfl rfl rfl ?_ | refine wG rfl rfl (zZ wB rfl rfl rfl rfl (.inr ⟨rfl,rfl⟩) rfl) rfl ?_ | refine wE wB rfl rfl rfl rfl rfl rfl rfl rfl (q1) rfl rfl ?_ | refine wE wB rfl rfl rfl rfl rfl rfl rfl rfl (q2) rfl rfl ?_ | refine wE wB rfl rfl rfl rfl rfl rfl rfl rfl (q3) rfl rfl ?_ | refine wE wB rfl rfl rfl rfl rfl rfl rfl rfl (q4) rfl rfl ?_ | refine wF wI rfl rfl ?_ | refine wJ ?_ | refine wC ?_ | refine wP ?_)
  exact ⟨.inl rfl,_,rfl,rfl⟩
set_option maxRecDepth 20000 in
set_option maxHeartbeats 1600000 in
theorem rexact_v (a b:ZZ) (ha:okZ a) (hb:okZ b) (h0:intOf b≠0) (hd:intOf b∣intOf a):wT Tryz.prog 193 [vI a,vI b] (fun y=>y=.tup [nI ((intOf a).tdiv (intOf b)),.bool true]):=by
 refine wK wB Tryz.func193 rfl rfl rfl rfl fun w0=>?_
 have q1:=rtrunc_v a b ha hb h0
 have q2:=rsign_v (zn 0) (okZ_zn 0 (by simp [zL]))
 rw [Int.tmod_eq_zero_of_dvd hd] at q1
 rw [wS] at q2
 obtain ⟨x,l⟩:=a
 obtain ⟨y,m⟩:=b
 repeat (first | refine wQ wB rfl rfl rfl rfl ?_ | refine wG rfl rfl (wH rfl rfl rfl rfl (rfl) rfl) rfl ?_ | refine wE wB rfl rfl rfl rfl rfl rfl rfl rfl (q1) rfl rfl ?_ | refine wE wB rfl rfl rfl rfl rfl rfl rfl rfl (q2) rfl rfl ?_ | refine wF wI rfl rfl ?_ | refine wJ ?_ | refine wC ?_ | refine wP ?_ | refine wO ?_ | refine wL rfl ?_)
 exact ⟨.inl rfl,_,rfl,rfl⟩
end Go.Proofs.YtkjhfnhgefbhhaaGreat
