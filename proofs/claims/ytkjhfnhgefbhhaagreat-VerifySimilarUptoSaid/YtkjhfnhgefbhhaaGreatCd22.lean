/- simileref11.Equal, simileref25.Does: told of trees. ALLOC -/
import Derived.Test.YtkjhfnhgefbhhaaGreatCd21
import Derived.Test.YtkjhfnhgefbhhaaGreatCd20
set_option linter.all false
namespace Go.Proofs.YtkjhfnhgefbhhaaGreat
open Go.RowKit Go.Ev Go.Vl
def equalR (m m':MM):Bool:=decide (m.2.length=m'.2.length) && (decide (qB m.2=qB m'.2) && decide (normM m=normM m'))
theorem comD_pos (qs:List QQ):0<comD qs:=lcmN_pos _ 1 (by decide) fun x hx=>by
 obtain ⟨q,_,rfl⟩:=List.mem_map.1 hx
 have:=(qR q).den_nz
 omega
theorem comD_dvd (qs:List QQ) (D:Nat) (h:∀ q∈qs,(qR q).den∣D):comD qs∣D:=lcmN_dvd _ 1 D (Nat.one_dvd _) fun x hx=>by
 obtain ⟨q,hq,rfl⟩:=List.mem_map.1 hx
 exact h q hq
theorem dvd_comD (qs:List QQ) (q:QQ) (h:q∈qs):(qR q).den∣comD qs:=(dvd_lcmN _ 1).2 _ (List.mem_map.2 ⟨q,h,rfl⟩)
theorem okM0_norm (m:MM) (h:okM m 68719476736) (h0:intOf m.1≠0):okM0 (normM m):=by
 have hDp:0<comD (zF m).flatten∧comD (zF m).flatten∣(intOf m.1).natAbs:=⟨comD_pos _,comD_dvd _ _ fun q hq=>by
  rw [ratsT_flat] at hq
  obtain ⟨z,hz,rfl⟩:=List.mem_map.1 hq
  rw [kJ]
  exact den_dvd' _ _ h0⟩
 have hl:lm ((comD (zF m).flatten:Nat):Int)≤68719476736:=by
  have:=qL m.1 h.1
  refine Nat.le_trans (lm_mono (y:=intOf m.1) ?_) (Nat.le_trans this h.2.1)
  rw [Int.natAbs_natCast]
  exact Nat.le_of_dvd (by omega) hDp.2
 refine ⟨⟨zn_okL _,Nat.le_trans hl (by decide)⟩,fun r hr=>?_,?_⟩
 ·obtain ⟨r',hr',rfl⟩:=List.mem_map.1 hr
  obtain ⟨r2,hr2,rfl⟩:=List.mem_map.1 hr'
  refine ⟨by rw [List.length_map,List.length_map]; exact Nat.le_trans (h.2.2.1.2 r2 hr2).1 (by decide),fun z hz=>?_⟩
  obtain ⟨q,hq,rfl⟩:=List.mem_map.1 hz
  obtain ⟨y,hy,rfl⟩:=List.mem_map.1 hq
  refine ⟨zn_okL _,?_⟩
  obtain ⟨g1,g2⟩:=(h.2.2.1.2 r2 hr2).2 y hy
  have m1:=qL y g1
  obtain ⟨n1,n2⟩:=kO (intOf y) (intOf m.1) h0
  show lm (qR (qn (Rat.divInt (intOf y) (intOf m.1)))*((comD (zF m).flatten:Nat):Rat)).num≤_
  rw [kJ]
  have e:=(mul_den (Rat.divInt (intOf y) (intOf m.1)) ((comD (zF m).flatten:Nat):Rat) rfl).1
  have e2:lm ((comD (zF m).flatten:Nat):Rat).num=lm ((comD (zF m).flatten:Nat):Int):=rfl
  omega
 ·show (List.map _ (List.map _ m.2)).length≤_
  rw [List.length_map,List.length_map]
  exact Nat.le_trans h.2.2.1.1 (by decide)
set_option maxRecDepth 20000 in
set_option maxHeartbeats 3200000 in
theorem equal11_v (x x':Bool) (l l':List Nat) (t t':List (List ZZ)) (h:okM ((x,l),t) 68719476736) (h':okM ((x',l'),t') 68719476736) (h0:intOf (x,l)≠0) (h0':intOf (x',l')≠0) :
  wT Tryz.prog 31 [.agg [.bool x,vL l,vT t],.agg [.bool x',vL l',vT t']] (fun y=>y=.bool (equalR ((x,l),t) ((x',l'),t'))):=by
 refine wK wB Tryz.func31 rfl rfl rfl rfl fun w0=>?_
 have htl:t.length≤68719476736:=h.2.2.1.1
 have htl':t'.length≤68719476736:=h'.2.2.1.1
 have q1:=size11_v x l t (by omega)
 have q2:=size11_v x' l' t' (by omega)
 have q3:=norm11_v x l t h h0
 have q4:=norm11_v x' l' t' h' h0'
 have o1:=okM0_norm ((x,l),t) h h0
 have o2:=okM0_norm ((x',l'),t') h' h0'
 unfold equalR
 dsimp only
 have hcl:qB t≤68719476736:=by
  unfold qB
  cases ht:t with
  | nil=>exact Nat.zero_le _
  | cons r t2=>exact (h.2.2.1.2 r (by rw [ht]; exact List.mem_cons_self ..)).1
 have hcl':qB t'≤68719476736:=by
  unfold qB
  cases ht:t' with
  | nil=>exact Nat.zero_le _
  | cons r t2=>exact (h'.2.2.1.2 r (by rw [ht]; exact List.mem_cons_self ..)).1
 have q5:=same11_v _ _ o1 o2
 generalize normM ((x,l),t)=M at *
 generalize normM ((x',l'),t')=M' at *
 obtain ⟨c,hce⟩:∃ c,qB t=c:=⟨_,rfl⟩
 obtain ⟨c',hce'⟩:∃ c,qB t'=c:=⟨_,rfl⟩
 rw [hce] at q1 hcl ⊢
 rw [hce'] at q2 hcl' ⊢
 obtain ⟨d,hde⟩:∃ d,t.length=d:=⟨_,rfl⟩
 obtain ⟨d',hde'⟩:∃ d,t'.length=d:=⟨_,rfl⟩
 rw [hde] at q1 htl ⊢
 rw [hde'] at q2 htl' ⊢
 obtain ⟨⟨y,k⟩,u⟩:=M
 obtain ⟨⟨y',k'⟩,u'⟩:=M'
 by_cases h1:d=d'
 ·by_cases h2:c=c'
  ·rw [decide_eq_true h1,decide_eq_true h2]
   repeat (first | refine wQ wB rfl rfl rfl rfl ?_ | refine wG rfl rfl (wH rfl rfl rfl rfl (decide_eq_true (by omega)) rfl) rfl ?_ | refine wE wB rfl rfl rfl rfl rfl rfl rfl rfl (q1) rfl rfl ?_ | refine wE wB rfl rfl rfl rfl rfl rfl rfl rfl (q2) rfl rfl ?_ | refine wE wB rfl rfl rfl rfl rfl rfl rfl rfl (q3) rfl rfl ?_ | refine wE wB rfl rfl rfl rfl rfl rfl rfl rfl (q4) rfl rfl ?_ | refine wE wB rfl rfl rfl rfl rfl rfl rfl rfl (q5) rfl rfl ?_ | refine wF wI rfl rfl ?_ | refine wJ ?_ | refine wC ?_ | refine wP ?_)
   exact ⟨.inl rfl,_,rfl,rfl⟩
  ·rw [decide_eq_true h1,decide_eq_false h2]
   repeat (first | refine wQ wB rfl rfl rfl rfl ?_ | refine wG rfl rfl (wH rfl rfl rfl rfl (decide_eq_true (by omega)) rfl) rfl ?_ | refine wG rfl rfl (wH rfl rfl rfl rfl (decide_eq_false (by omega)) rfl) rfl ?_ | refine wE wB rfl rfl rfl rfl rfl rfl rfl rfl (q1) rfl rfl ?_ | refine wE wB rfl rfl rfl rfl rfl rfl rfl rfl (q2) rfl rfl ?_ | refine rr_no rfl rfl rfl rfl rfl rfl ?_ | refine wF wI rfl rfl ?_ | refine wJ ?_ | refine wC ?_ | refine wP ?_)
   exact ⟨.inl rfl,_,rfl,rfl⟩
 ·rw [decide_eq_false h1]
  repeat (first | refine wQ wB rfl rfl rfl rfl ?_ | refine wG rfl rfl (wH rfl rfl rfl rfl (decide_eq_false (by omega)) rfl) rfl ?_ | refine wE wB rfl rfl rfl rfl rfl rfl rfl rfl (q1) rfl rfl ?_ | refine wE wB rfl rfl rfl rfl rfl rfl rfl rfl (q2) rfl rfl ?_ | refine rr_no rfl rfl rfl rfl rfl rfl ?_ | refine wF wI rfl rfl ?_ | refine wJ ?_ | refine wC ?_ | refine wP ?_)
  exact ⟨.inl rfl,_,rfl,rfl⟩
end Go.Proofs.YtkjhfnhgefbhhaaGreat
/- simileref25.Does: told of trees; what the program says of it. ALLOC -/
namespace Go.Proofs.YtkjhfnhgefbhhaaGreat
open Go.RowKit Go.Ev Go.Vl
theorem den_rat_ne (x:Rat):((x.den:Int):Rat)≠0:=fun h=>by
 have:=Rat.intCast_inj.1 (show ((x.den:Int):Rat)=((0:Int):Rat) from h)
 have:=x.den_nz
 omega
theorem mul_over (x:Rat) (e:Nat):x*(((x.den*e:Nat):Int):Rat)=((x.num*(e:Int):Int):Rat):=by
 rw [Int.natCast_mul,Rat.intCast_mul,← Rat.mul_assoc]
 have h:x*((x.den:Int):Rat)=(x.num:Rat):=by
  conv=>lhs; arg 1; rw [← Rat.num_divInt_den x]
  rw [Rat.divInt_eq_div]
  exact Rat.div_mul_cancel (den_rat_ne x)
 rw [h,← Rat.intCast_mul]
theorem comF_back (x:Rat) (D:Nat) (hD:0<D) (h:x.den∣D):Rat.divInt (x*((D:Int):Rat)).num (D:Int)=x:=by
 obtain ⟨e,rfl⟩:=h
 have he:(e:Int)≠0:=by
  intro h
  have:e=0:=by omega
  subst this
  simp at hD
 rw [mul_over,Rat.num_intCast,Int.natCast_mul,Rat.divInt_mul_right he,Rat.num_divInt_den]
def normQ (R:List (List QQ)):Prop:=∀ q∈R.flatten,q=qn (qR q)
theorem rats_from (R:List (List QQ)) (h:normQ R):zF (fromQ R)=R:=by
 unfold zF fromQ
 dsimp only
 rw [List.map_map]
 conv=>rhs; rw [← List.map_id R]
 refine List.map_congr_left fun r hr=>?_
 simp only [Function.comp]
 rw [List.map_map]
 conv=>rhs; rw [id,← List.map_id r]
 refine List.map_congr_left fun q hq=>?_
 have hm:q∈R.flatten:=List.mem_flatten.2 ⟨r,hr,hq⟩
 show qn (Rat.divInt (intOf (zn (qR q*((comD R.flatten:Nat):Int)).num)) (intOf (zn ((comD R.flatten:Nat):Int))))=q
 rw [wS,wS,comF_back _ _ (comD_pos _) (dvd_comD _ _ hm)]
 exact (h q hm).symm
theorem norm_from (R:List (List QQ)) (h:normQ R):normM (fromQ R)=fromQ R:=by
 show fromQ (zF (fromQ R))=fromQ R
 rw [rats_from R h]
theorem equalR_from (R R':List (List QQ)) (h:normQ R) (h':normQ R'):equalR (fromQ R) (fromQ R')=decide (R=R'):=by
 by_cases e:R=R'
 ·subst e
  unfold equalR
  rw [decide_eq_true rfl,decide_eq_true rfl,decide_eq_true rfl,decide_eq_true rfl]
  rfl
 ·unfold equalR
  rw [norm_from R h,norm_from R' h',decide_eq_false (p:=fromQ R=fromQ R') (fun hh=>e (by rw [← rats_from R h,← rats_from R' h',hh])),decide_eq_false e]
  simp
theorem mulQ_norm (m m':MM):normQ (mulQ m m'):=fun q hq=>by
 obtain ⟨a,b,rfl⟩:=mulQ_mem hq
 rw [kJ]
theorem fromQ_den (R:List (List QQ)):intOf (fromQ R).1≠0:=by
 show intOf (zn ((comD R.flatten:Nat):Int))≠0
 rw [wS]
 have:=comD_pos R.flatten
 omega
theorem comD_mul {m m':MM} (h0:intOf m.1≠0) (h0':intOf m'.1≠0):lm ((comD (mulQ m m').flatten:Nat):Int)≤lm (intOf m.1*intOf m'.1):=by
 refine lm_mono ?_
 rw [Int.natAbs_natCast]
 refine Nat.le_of_dvd (by have:=Int.mul_ne_zero h0 h0'; omega) (comD_dvd _ _ fun q hq=>?_)
 obtain ⟨a,b,rfl⟩:=mulQ_mem hq
 rw [kJ]
 exact den_dvd' _ _ (Int.mul_ne_zero h0 h0')
theorem fromQ_ok {m m':MM} {K:Nat} (h:okM m K) (h':okM m' K) (h0:intOf m.1≠0) (h0':intOf m'.1≠0) (hc:qB m'.2≤68719476736) (htc:m.2.length*qB m'.2≤68719476736):okM (fromQ (mulQ m m')) (4*K+qB m.2):=by
 have hD:=comD_mul h0 h0'
 have l2:=lm_mul (intOf m.1) (intOf m'.1)
 have l3:=qL m.1 h.1
 have l4:=qL m'.1 h'.1
 have l5:=h.2.1
 have l6:=h'.2.1
 have hlen:(fromQ (mulQ m m')).2.length=m.2.length:=by
  show (List.map _ (mulQ m m')).length=_
  rw [List.length_map,mulQ_len]
 have hrow:∀ r∈(fromQ (mulQ m m')).2,r.length=qB m'.2:=fun r hr=>by
  obtain ⟨r',hr',rfl⟩:=List.mem_map.1 hr
  rw [List.length_map,mulQ_row hr']
 refine ⟨zn_okL _,?_,⟨by rw [hlen]; exact h.2.2.1.1,fun r hr=>⟨by rw [hrow r hr]; exact hc,fun z hz=>?_⟩⟩,by rw [flat_const hrow,hlen]; exact htc⟩
 ·show lm ((comD (mulQ m m').flatten:Nat):Int)≤_
  omega
 ·obtain ⟨r',hr',rfl⟩:=List.mem_map.1 hr
  obtain ⟨q,hq,rfl⟩:=List.mem_map.1 hz
  refine ⟨zn_okL _,?_⟩
  obtain ⟨a,b,rfl⟩:=mulQ_mem (List.mem_flatten.2 ⟨r',hr',hq⟩)
  show lm (qR (qn (valQ m m' a b (qB m.2)))*((comD (mulQ m m').flatten:Nat):Int)).num≤_
  rw [kJ]
  have e:=(mul_den (valQ m m' a b (qB m.2)) (((comD (mulQ m m').flatten:Nat):Int):Rat) rfl).1
  have e2:lm (((comD (mulQ m m').flatten:Nat):Int):Rat).num=lm ((comD (mulQ m m').flatten:Nat):Int):=rfl
  have e3:=(kO (prodI m.2 m'.2 a b (qB m.2)) (intOf m.1*intOf m'.1) (Int.mul_ne_zero h0 h0')).1
  have e4:=lm_prodI m.2 m'.2 K 0 a b (lm_ent h.2.2.1) (lm_ent h'.2.2.1) (qB m.2)
  unfold valQ at e ⊢
  omega
set_option maxRecDepth 20000 in
set_option maxHeartbeats 3200000 in
theorem does25_v (x x':Bool) (l l':List Nat) (t t':List (List ZZ)) (h:okM ((x,l),t) 4294967296) (h':okM ((x',l'),t') 4294967296) (h0:intOf (x,l)≠0) (h0':intOf (x',l')≠0) (hr:∀ r∈t,r.length=qB t) (hr':∀ r∈t',r.length=qB t') (hn:t.length=qB t) (hn':t'.length=qB t') (hnn:t.length=t'.length) (hp:0<t.length) (hb:t.length≤24) :
  wT Tryz.prog 17 [.agg [.bool x,vL l,vT t],.agg [.bool x',vL l',vT t']] (fun y=>y=.bool (decide (mulQ ((x,l),t) ((x',l'),t')=mulQ ((x',l'),t') ((x,l),t)))):=by
 refine wK wB Tryz.func17 rfl rfl rfl rfl fun w0=>?_
 have k:=okM_mono h (K':=17179869184) (by decide)
 have k':=okM_mono h' (K':=17179869184) (by decide)
 have hq:∀ a b:Nat,a≤24→b≤24→a*b≤68719476736:=fun a b ha hb=>Nat.le_trans (Nat.mul_le_mul ha hb) (by decide)
 have q1:=mul11_v x x' l l' t t' k k' h0 h0' hr hr' (by omega) (by omega) hp (by omega) (hq _ _ (by omega) (by omega))
 have q2:=mul11_v x' x l' l t' t k' k h0' h0 hr' hr (by omega) (by omega) (by omega) (by omega) (hq _ _ (by omega) (by omega))
 have o1:=okM_mono (fromQ_ok h h' h0 h0' (by dsimp only; omega) (hq _ _ (by dsimp only; omega) (by dsimp only; omega))) (K':=68719476736) (by dsimp only; omega)
 have o2:=okM_mono (fromQ_ok h' h h0' h0 (by dsimp only; omega) (hq _ _ (by dsimp only; omega) (by dsimp only; omega))) (K':=68719476736) (by dsimp only; omega)
 have d1:=fromQ_den (mulQ ((x,l),t) ((x',l'),t'))
 have d2:=fromQ_den (mulQ ((x',l'),t') ((x,l),t))
 have e:=equalR_from _ _ (mulQ_norm ((x,l),t) ((x',l'),t')) (mulQ_norm ((x',l'),t') ((x,l),t))
 rw [← e]
 generalize fromQ (mulQ ((x,l),t) ((x',l'),t'))=P at *
 generalize fromQ (mulQ ((x',l'),t') ((x,l),t))=R at *
 obtain ⟨⟨y,k⟩,u⟩:=P
 obtain ⟨⟨y',k'⟩,u'⟩:=R
 have q3:=equal11_v y y' k k' u u' o1 o2 d1 d2
 clear e
 repeat (first | refine wQ wB rfl rfl rfl rfl ?_ | refine wE wB rfl rfl rfl rfl rfl rfl rfl rfl (q1) rfl rfl ?_ | refine wE wB rfl rfl rfl rfl rfl rfl rfl rfl (q2) rfl rfl ?_ | refine wE wB rfl rfl rfl rfl rfl rfl rfl rfl (q3) rfl rfl ?_ | refine wF wI rfl rfl ?_ | refine wJ ?_ | refine wC ?_ | refine wP ?_)
 exact ⟨.inl rfl,_,rfl,rfl⟩
theorem tab_ext {α:Type} {r c:Nat} {F G:Nat→Nat→α}:((List.range r).map fun a=>(List.range c).map fun b=>F a b)=((List.range r).map fun a=>(List.range c).map fun b=>G a b)↔∀ a,a<r→∀ b,b<c→F a b=G a b:=by
 constructor
 ·intro h a ha b hb
  have h1:=congrArg (fun l=>(l[a]?).bind fun x=>x[b]?) h
  simp only [List.getElem?_map,List.getElem?_range ha,Option.map_some,Option.bind_some,List.getElem?_range hb,Option.some.injEq] at h1
  exact h1
 ·intro h
  refine List.map_congr_left fun a ha=>?_
  refine List.map_congr_left fun b hb=>?_
  exact h a (List.mem_range.1 ha) b (List.mem_range.1 hb)
theorem divInt_inj {p q D:Int} (hD:D≠0) (h:Rat.divInt p D=Rat.divInt q D):p=q:=by
 have hD':(D:Rat)≠0:=fun e=>hD (Rat.intCast_inj.1 (show (D:Rat)=((0:Int):Rat) from e))
 rw [Rat.divInt_eq_div,Rat.divInt_eq_div] at h
 have e:=congrArg (fun x:Rat=>x*(D:Rat)) h
 simp only [Rat.div_mul_cancel hD'] at e
 exact Rat.intCast_inj.1 e
theorem mulQ_iff {m m':MM} {n:Nat} (h0:intOf m.1≠0) (h0':intOf m'.1≠0) (h1:m.2.length=n) (h2:qB m.2=n) (h3:m'.2.length=n) (h4:qB m'.2=n) :
  mulQ m m'=mulQ m' m↔∀ a,a<n→∀ b,b<n→prodI m.2 m'.2 a b n=prodI m'.2 m.2 a b n:=by
 unfold mulQ
 rw [h1,h2,h3,h4,tab_ext]
 refine forall_congr' fun a=>forall_congr' fun _=>forall_congr' fun b=>forall_congr' fun _=>?_
 unfold valQ
 rw [Int.mul_comm (intOf m'.1)]
 constructor
 ·intro h
  have:=congrArg qR h
  rw [kJ,kJ] at this
  exact divInt_inj (Int.mul_ne_zero h0 h0') this
 ·intro h
  rw [h]
theorem tabF_cols {r c:Nat} (F:Nat→Nat→ZZ) (hr:0<r):qB (tabF r c F)=c:=by
 unfold qB tabF
 obtain ⟨r,rfl⟩:∃ k,r=k+1:=⟨r - 1,by omega⟩
 rw [List.range_succ_eq_map]
 simp
theorem cross {p q D S1 S2:Int} (h1:S1∣p) (h2:S1∣D) (h3:S2∣q) (h4:S2∣D) (n1:S1≠0) (n2:S2≠0) (hD:D≠0):p.tdiv S1*D.tdiv S2=q.tdiv S2*D.tdiv S1↔p=q:=by
 obtain ⟨p',rfl⟩:=h1
 obtain ⟨q',rfl⟩:=h3
 obtain ⟨d1,hd1⟩:=h2
 obtain ⟨d2,hd2⟩:=h4
 rw [Int.mul_tdiv_cancel_left _ n1,Int.mul_tdiv_cancel_left _ n2]
 have e1:D.tdiv S1=d1:=by rw [hd1]; exact Int.mul_tdiv_cancel_left _ n1
 have e2:D.tdiv S2=d2:=by rw [hd2]; exact Int.mul_tdiv_cancel_left _ n2
 rw [e1,e2]
 constructor
 ·intro h
  have e:(S1*p')*D=(S2*q')*D:=by
   have a1:S1*p'*D=S1*S2*(p'*d2):=by rw [hd2]; simp [Int.mul_comm,Int.mul_left_comm,Int.mul_assoc]
   have a2:S2*q'*D=S1*S2*(q'*d1):=by rw [hd1]; simp [Int.mul_comm,Int.mul_left_comm,Int.mul_assoc]
   rw [a1,a2,h]
  exact Int.eq_of_mul_eq_mul_right hD e
 ·intro h
  have e:S1*S2*(p'*d2)=S1*S2*(q'*d1):=by
   have a1:S1*S2*(p'*d2)=S1*p'*(S2*d2):=by simp [Int.mul_comm,Int.mul_left_comm,Int.mul_assoc]
   have a2:S1*S2*(q'*d1)=S2*q'*(S1*d1):=by simp [Int.mul_comm,Int.mul_left_comm,Int.mul_assoc]
   rw [a1,a2,h,← hd1,← hd2]
  exact Int.eq_of_mul_eq_mul_left (Int.mul_ne_zero n1 n2) e
theorem madeM_snd (d:ZZ) (r c:Nat) (F:Nat→Nat→Int) (k:Int):((madeM d (tabF r c fun i k=>zn (F i k))).2.map fun r=>r.map fun x=>intOf x*k)=(List.range r).map fun a=>(List.range c).map fun b=>(F a b).tdiv (madeS d (tabF r c fun i k=>zn (F i k)))*k:=by
 show List.map _ (List.map _ (tabF r c fun i k=>zn (F i k)))=_
 generalize madeS d (tabF r c fun i k=>zn (F i k))=S
 unfold tabF
 rw [List.map_map,List.map_map]
 refine List.map_congr_left fun a _=>?_
 simp only [Function.comp]
 rw [List.map_map,List.map_map]
 refine List.map_congr_left fun b _=>?_
 simp only [Function.comp]
 rw [wS,wS]
theorem tabF_dvd {d:ZZ} {r c:Nat} {F:Nat→Nat→Int} (h0:intOf d≠0) {a b:Nat} (ha:a<r) (hb:b<c):madeS d (tabF r c fun i k=>zn (F i k))∣F a b:=by
 obtain ⟨_,_,h⟩:=madeS_spec d (tabF r c fun i k=>zn (F i k)) h0
 have:=h ((List.range c).map fun b=>zn (F a b)) (List.mem_map.2 ⟨a,List.mem_range.2 ha,rfl⟩) (zn (F a b)) (List.mem_map.2 ⟨b,List.mem_range.2 hb,rfl⟩)
 rwa [wS] at this
theorem sameM_mul {m m':MM} {n:Nat} (h0:intOf m.1≠0) (h0':intOf m'.1≠0) (h1:m.2.length=n) (h2:qB m.2=n) (h3:m'.2.length=n) (h4:qB m'.2=n) (hn:0<n) :
  sameM (mulM m m') (mulM m' m)=decide (mulQ m m'=mulQ m' m):=by
 have hD:=Int.mul_ne_zero h0 h0'
 have hd:mulM m m'=madeM (zn (intOf m.1*intOf m'.1)) (tabF n n fun i k=>zn (prodI m.2 m'.2 i k n)):=by
  unfold mulM mulTI
  rw [h1,h2,h4]
 have hd':mulM m' m=madeM (zn (intOf m.1*intOf m'.1)) (tabF n n fun i k=>zn (prodI m'.2 m.2 i k n)):=by
  unfold mulM mulTI
  rw [h3,h2,h4,Int.mul_comm]
 have hz:intOf (zn (intOf m.1*intOf m'.1))≠0:=by rw [wS]; exact hD
 obtain ⟨s1,s2,_⟩:=madeS_spec (zn (intOf m.1*intOf m'.1)) (tabF n n fun i k=>zn (prodI m.2 m'.2 i k n)) hz
 obtain ⟨u1,u2,_⟩:=madeS_spec (zn (intOf m.1*intOf m'.1)) (tabF n n fun i k=>zn (prodI m'.2 m.2 i k n)) hz
 have f1:intOf (mulM m m').1=(intOf m.1*intOf m'.1).tdiv (madeS (zn (intOf m.1*intOf m'.1)) (tabF n n fun i k=>zn (prodI m.2 m'.2 i k n))):=by
  rw [hd]
  show intOf (zn (if qB (tabF n n fun i k=>zn (prodI m.2 m'.2 i k n))=0 then 1 else _))=_
  rw [tabF_cols _ hn,if_neg (by omega),wS,wS]
 have f2:intOf (mulM m' m).1=(intOf m.1*intOf m'.1).tdiv (madeS (zn (intOf m.1*intOf m'.1)) (tabF n n fun i k=>zn (prodI m'.2 m.2 i k n))):=by
  rw [hd']
  show intOf (zn (if qB (tabF n n fun i k=>zn (prodI m'.2 m.2 i k n))=0 then 1 else _))=_
  rw [tabF_cols _ hn,if_neg (by omega),wS,wS]
 rw [wS] at s2 u2
 unfold sameM
 rw [f1,f2,hd,hd',madeM_snd,madeM_snd]
 refine decide_eq_decide.2 ?_
 rw [tab_ext,mulQ_iff h0 h0' h1 h2 h3 h4]
 refine forall_congr' fun a=>forall_congr' fun ha=>forall_congr' fun b=>forall_congr' fun hb=>?_
 exact cross (tabF_dvd hz ha hb) s2 (tabF_dvd hz ha hb) u2 s1 u1 hD
end Go.Proofs.YtkjhfnhgefbhhaaGreat
/- simileref25.Fits: told of trees. ALLOC -/
namespace Go.Proofs.YtkjhfnhgefbhhaaGreat
open Go.RowKit Go.Ev Go.Vl
set_option maxRecDepth 20000 in
set_option maxHeartbeats 3200000 in
theorem fits25_v (m0 m1:MM) (h:okM m0 68719476736) (h':okM m1 68719476736):wT Tryz.prog 7 [.bool true,vMs [m0,m1]] (fun y=>y=.int .i64 (alikeI m0 m1)):=by
 refine wK wB Tryz.func7 rfl rfl rfl rfl fun w0=>?_
 have fin:∀ {u v:Int},u=v→V.int .i64 u=V.int .i64 v:=fun h=>by rw [h]
 have hok:∀ m∈[m0,m1],okM m 68719476736:=fun m hm=>by
  rcases List.mem_cons.1 hm with rfl | hm
  ·exact h
  ·rw [List.mem_singleton.1 hm]; exact h'
 obtain ⟨ms,hms⟩:∃ ms,[m0,m1]=ms:=⟨_,rfl⟩
 have hml:ms.length=2:=by rw [← hms]; rfl
 have hm0:ms[0]? = some m0:=by rw [← hms]; rfl
 have hm1:ms[1]? = some m1:=by rw [← hms]; rfl
 unfold alikeI
 rw [hms] at hok ⊢
 repeat (first | refine wG rfl rfl (wR wB rfl rfl rfl rfl rfl rfl (mc_len ms) rfl) rfl ?_ | refine wQ wB rfl rfl rfl rfl ?_ | refine wF wI rfl rfl ?_ | refine wJ ?_ | refine wM ?_ | refine wC ?_)
 refine qF (fun j:Nat=>[(0,some (.sv (.v (.bool true)))),(2,some (.sv (.v (vMs ms)))),(20,some (.sv (.v (vMs ms)))),(22,some (.sv (.v (.int .i64 (ms.length:Nat))))),(24,some (.sv (.v (.int .i64 (j:Nat)))))])
  (fun j=>j≤ms.length∧fits (ms.drop j)=fits ms) (fun j=>ms.length - j) 0 (fun _=>rfl) ⟨Nat.zero_le _,rfl⟩ ⟨rfl,rfl,rfl,rfl,rfl,trivial⟩ fun j hI=>?_
 obtain ⟨hJ,hc⟩:=hI
 rcases Nat.lt_or_ge j ms.length with hj | hj
 ·obtain ⟨m,hm⟩:∃ m,ms[j]? = some m:=⟨_,List.getElem?_eq_getElem hj⟩
  have hg:=mc_at ms j m hm
  have ho:=hok m (List.mem_of_getElem? hm)
  rw [drop_cons' ms j m hm] at hc
  have hc2:(if fit1 m=0 then fits (ms.drop (j+1)) else fit1 m)=fits ms:=hc
  obtain ⟨⟨x,l⟩,t⟩:=m
  have q1:=fit11_v x l t ho
  generalize fit1 ((x,l),t)=c at *
  by_cases h0:c=0
  ·rw [if_pos h0] at hc2
   repeat (first | refine wG rfl rfl (wU wB rfl rfl rfl (i:=j) rfl rfl rfl hg rfl rfl) rfl ?_ | refine wE wB rfl rfl rfl rfl rfl rfl rfl rfl (q1) rfl rfl ?_ | refine qP wB rfl rfl rfl rfl rfl rfl ?_ | refine wQ wB rfl rfl rfl rfl ?_ | refine wG rfl rfl (wH rfl rfl rfl rfl (decide_eq_true (by omega)) rfl) rfl ?_ | refine wG rfl rfl (wH rfl rfl rfl rfl (ndF (by omega)) rfl) rfl ?_ | refine wG rfl rfl (wX rfl rfl rfl rfl (qC (by omega) (by omega)) rfl) rfl ?_ | refine wF wI rfl rfl ?_ | refine wJ ?_ | refine wM ?_ | refine wC ?_ | refine wO ?_ | refine wN rfl ?_ | refine wL rfl ?_)
   exact ⟨j+1,⟨hj,hc2⟩,by omega,rfl,rfl,rfl,rfl,rfl,trivial⟩
  ·rw [if_neg h0] at hc2
   repeat (first | refine wG rfl rfl (wU wB rfl rfl rfl (i:=j) rfl rfl rfl hg rfl rfl) rfl ?_ | refine wE wB rfl rfl rfl rfl rfl rfl rfl rfl (q1) rfl rfl ?_ | refine qP wB rfl rfl rfl rfl rfl rfl ?_ | refine wQ wB rfl rfl rfl rfl ?_ | refine wG rfl rfl (wH rfl rfl rfl rfl (decide_eq_true (by omega)) rfl) rfl ?_ | refine wG rfl rfl (wH rfl rfl rfl rfl (ndT (by omega)) rfl) rfl ?_ | refine wF wI rfl rfl ?_ | refine wJ ?_ | refine wM ?_ | refine wC ?_ | refine wP ?_ | refine wO ?_ | refine wN rfl ?_)
   refine ⟨.inl rfl,_,rfl,fin ?_⟩
   rw [if_neg (by rw [← hc2]; exact h0),hc2]
 ·rw [List.drop_of_length_le hj] at hc
  have hc2:fits ms=0:=hc.symm
  rw [if_pos hc2]
  repeat (first | refine wG rfl rfl (wR wB rfl rfl rfl rfl rfl rfl (mc_len ms) rfl) rfl ?_ | refine wQ wB rfl rfl rfl rfl ?_ | refine wG rfl rfl (wH rfl rfl rfl rfl (decide_eq_false (by omega)) rfl) rfl ?_ | refine wF wI rfl rfl ?_ | refine wJ ?_ | refine wM ?_ | refine wC ?_ | refine qA ?_ | refine wL rfl ?_)
  refine qF (fun j:Nat=>[(0,some (.sv (.v (.bool true)))),(2,some (.sv (.v (vMs ms)))),(44,some (.sv (.v (vMs ms)))),(46,some (.sv (.v (.int .i64 (ms.length:Nat))))),(48,some (.sv (.v (.int .i64 (j:Nat)))))])
   (fun j=>j≤ms.length∧(j=2→m0.2.length=m1.2.length)) (fun j=>ms.length - j) 0 (fun _=>rfl) ⟨Nat.zero_le _,fun h=>by cases h⟩ ⟨rfl,rfl,rfl,rfl,rfl,trivial⟩ fun k hI=>?_
  obtain ⟨hK,hq⟩:=hI
  have hg0:=mc_at ms 0 m0 hm0
  rcases Nat.lt_or_ge k ms.length with hk | hk
  ·obtain ⟨m,hm⟩:∃ m,ms[k]? = some m:=⟨_,List.getElem?_eq_getElem hk⟩
   have hg:=mc_at ms k m hm
   have hkm:(k=0∧m=m0)∨(k=1∧m=m1):=by
    rcases Nat.lt_or_ge k 1 with h1 | h1
    ·have:k=0:=by omega
     subst this
     rw [hm0] at hm; cases hm
     exact .inl ⟨rfl,rfl⟩
    ·have:k=1:=by omega
     subst this
     rw [hm1] at hm; cases hm
     exact .inr ⟨rfl,rfl⟩
   have hml0:=h.2.2.1.1
   have hml1:=(hok m (List.mem_of_getElem? hm)).2.2.1.1
   by_cases he:m.2.length=m0.2.length
   ·have hnext:k+1=2→m0.2.length=m1.2.length:=fun hk2=>by
     rcases hkm with ⟨h1,_⟩ | ⟨_,h2⟩
     ·omega
     ·rw [← h2]; exact he.symm
    clear hkm hm
    obtain ⟨⟨x,l⟩,t⟩:=m
    obtain ⟨⟨x0,l0⟩,t0⟩:=m0
    dsimp only at he hml0 hml1
    repeat (first | refine wG rfl rfl (wR wB rfl rfl rfl rfl rfl rfl (zY t) rfl) rfl ?_ | refine wG rfl rfl (wR wB rfl rfl rfl rfl rfl rfl (zY t0) rfl) rfl ?_ | refine wG rfl rfl (wU wB rfl rfl rfl (i:=k) rfl rfl rfl hg rfl rfl) rfl ?_ | refine wG rfl rfl (wU wB rfl rfl rfl (i:=0) rfl rfl rfl hg0 rfl rfl) rfl ?_ | refine qP wB rfl rfl rfl rfl rfl rfl ?_ | refine wQ wB rfl rfl rfl rfl ?_ | refine wG rfl rfl (wH rfl rfl rfl rfl (decide_eq_true (by omega)) rfl) rfl ?_ | refine wG rfl rfl (wH rfl rfl rfl rfl (ndF (by omega)) rfl) rfl ?_ | refine wG rfl rfl (wX rfl rfl rfl rfl (qC (by omega) (by omega)) rfl) rfl ?_ | refine wF wI rfl rfl ?_ | refine wJ ?_ | refine wM ?_ | refine wC ?_ | refine wO ?_ | refine wN rfl ?_ | refine wL rfl ?_)
    exact ⟨k+1,⟨hk,hnext⟩,by omega,rfl,rfl,rfl,rfl,rfl,trivial⟩
   ·have hno:m0.2.length≠m1.2.length:=fun hh=>by
     rcases hkm with ⟨_,h2⟩ | ⟨_,h2⟩
     ·rw [h2] at he; exact he rfl
     ·rw [h2] at he; exact he hh.symm
    clear hkm hm hq
    obtain ⟨⟨x,l⟩,t⟩:=m
    obtain ⟨⟨x0,l0⟩,t0⟩:=m0
    dsimp only at he hml0 hml1 hno
    repeat (first | refine wG rfl rfl (wR wB rfl rfl rfl rfl rfl rfl (zY t) rfl) rfl ?_ | refine wG rfl rfl (wR wB rfl rfl rfl rfl rfl rfl (zY t0) rfl) rfl ?_ | refine wG rfl rfl (wU wB rfl rfl rfl (i:=k) rfl rfl rfl hg rfl rfl) rfl ?_ | refine wG rfl rfl (wU wB rfl rfl rfl (i:=0) rfl rfl rfl hg0 rfl rfl) rfl ?_ | refine qP wB rfl rfl rfl rfl rfl rfl ?_ | refine wQ wB rfl rfl rfl rfl ?_ | refine wG rfl rfl (wH rfl rfl rfl rfl (decide_eq_true (by omega)) rfl) rfl ?_ | refine wG rfl rfl (wH rfl rfl rfl rfl (ndT (by omega)) rfl) rfl ?_ | refine wF wI rfl rfl ?_ | refine wJ ?_ | refine wM ?_ | refine wC ?_ | refine wP ?_ | refine wO ?_ | refine wN rfl ?_)
    refine ⟨.inl rfl,_,rfl,fin ?_⟩
    rw [if_neg hno]
  ·have hke:k=2:=by omega
   repeat (first | refine wQ wB rfl rfl rfl rfl ?_ | refine wG rfl rfl (wH rfl rfl rfl rfl (decide_eq_false (by omega)) rfl) rfl ?_ | refine wF wI rfl rfl ?_ | refine wJ ?_ | refine wC ?_ | refine wP ?_ | refine qA ?_ | refine wL rfl ?_)
   refine ⟨.inl rfl,_,rfl,fin ?_⟩
   rw [if_pos (hq hke)]
end Go.Proofs.YtkjhfnhgefbhhaaGreat
/- similelaw25.CommuteDoes: told of trees. ALLOC -/
namespace Go.Proofs.YtkjhfnhgefbhhaaGreat
open Go.RowKit Go.Ev Go.Vl
theorem okM_0 {m:MM} (h:okM m 68719476736):okM0 m :=
 ⟨⟨h.1,Nat.le_trans h.2.1 (by decide)⟩,fun r hr=>⟨Nat.le_trans (h.2.2.1.2 r hr).1 (by decide),fun z hz=>⟨((h.2.2.1.2 r hr).2 z hz).1,Nat.le_trans ((h.2.2.1.2 r hr).2 z hz).2 (by decide)⟩⟩,Nat.le_trans h.2.2.1.1 (by decide)⟩
set_option maxRecDepth 20000 in
set_option maxHeartbeats 3200000 in
theorem commuteDoes_v (hlv:wT Tryz.prog 16 [] (fun y=>y=.bool true)) (x x':Bool) (l l':List Nat) (t t':List (List ZZ)) (h:okM ((x,l),t) 4294967296) (h':okM ((x',l'),t') 4294967296) :
  wT Tryz.prog 5 [.agg [.bool x,vL l,vT t],.agg [.bool x',vL l',vT t']] (fun y=>y=.bool true):=by
 refine wK wB Tryz.func5 rfl rfl rfl rfl fun w0=>?_
 have k:=okM_mono h (K':=68719476736) (by decide)
 have k':=okM_mono h' (K':=68719476736) (by decide)
 have q1:=copy11_aux x l t (okM_0 k)
 have q2:=copy11_aux x' l' t' (okM_0 k')
 have q3:=Does_v x x' l l' t t' k k'
 have q4:=same11_aux x x l l t t (okM_0 k) (okM_0 k)
 have q5:=same11_aux x' x' l' l' t' t' (okM_0 k') (okM_0 k')
 have q6:=fits25_v ((x,l),t) ((x',l'),t') k k'
 rw [decide_eq_true rfl] at q4 q5
 by_cases ha:alikeI ((x,l),t) ((x',l'),t')=0
 ·have hs:fits [((x,l),t),((x',l'),t')]=0∧t.length=t'.length:=by
   unfold alikeI at ha
   split at ha
   ·rename_i h1
    split at ha
    ·rename_i h2
     exact ⟨h1,h2⟩
    ·cases ha
   ·rename_i h1
    exact absurd ha h1
  obtain ⟨f1,f2⟩:=fits2 hs.1
  obtain ⟨g1,g2,g3,g4,_⟩:=fit10 f1
  obtain ⟨e1,e2,e3,e4,_⟩:=fit10 f2
  obtain ⟨a1,a2⟩:=chk0 g1
  obtain ⟨b1,b2⟩:=chk0 e1
  have hnn:=hs.2
  dsimp only at g2 g3 g4 e2 e3 e4 a2 b2
  have q7:=does25_v x x' l l' t t' h h' a1 b1 (of_even _ a2) (of_even _ b2) g2 e2 hs.2 (by omega) g4
  have hR:doesR ((x,l),t) ((x',l'),t')=decide (mulQ ((x,l),t) ((x',l'),t')=mulQ ((x',l'),t') ((x,l),t)):=by
   unfold doesR
   rw [if_pos ha,sameM_mul (n:=t.length) a1 b1 rfl g2.symm (by dsimp only; omega) (by dsimp only; omega) (by omega)]
  rw [hR,ha] at q3
  rw [ha] at q6
  generalize decide (mulQ ((x,l),t) ((x',l'),t')=mulQ ((x',l'),t') ((x,l),t))=d at *
  cases d
  ·repeat (first | refine qP wB rfl rfl rfl rfl rfl rfl ?_ | refine wQ wB rfl rfl rfl rfl ?_ | refine wG rfl rfl (wH rfl rfl rfl rfl (decide_eq_true (by omega)) rfl) rfl ?_ | refine wG rfl rfl (wH rfl rfl rfl rfl (ndF (by omega)) rfl) rfl ?_ | refine wG rfl rfl (zZ wB rfl rfl rfl rfl (.inl ⟨rfl,rfl⟩) rfl) rfl ?_ | refine wE wB rfl rfl rfl rfl rfl rfl rfl rfl (q1) rfl rfl ?_ | refine wE wB rfl rfl rfl rfl rfl rfl rfl rfl (q2) rfl rfl ?_ | refine wE wB rfl rfl rfl rfl rfl rfl rfl rfl (q3) rfl rfl ?_ | refine wE wB rfl rfl rfl rfl rfl rfl rfl rfl (q4) rfl rfl ?_ | refine wE wB rfl rfl rfl rfl rfl rfl rfl rfl (q5) rfl rfl ?_ | refine zM wB rfl rfl rfl rfl rfl rfl rfl rfl rfl (q6) rfl rfl ?_ | refine wE wB rfl rfl rfl rfl rfl rfl rfl rfl (q7) rfl rfl ?_ | refine wE wB rfl rfl rfl rfl rfl rfl rfl rfl (hlv) rfl rfl ?_ | refine wF wI rfl rfl ?_ | refine wJ ?_ | refine wC ?_ | refine wP ?_ | refine wO ?_ | refine wL rfl ?_)
   exact ⟨.inl rfl,_,rfl,rfl⟩
  ·repeat (first | refine qP wB rfl rfl rfl rfl rfl rfl ?_ | refine wQ wB rfl rfl rfl rfl ?_ | refine wG rfl rfl (wH rfl rfl rfl rfl (decide_eq_true (by omega)) rfl) rfl ?_ | refine wG rfl rfl (wH rfl rfl rfl rfl (ndF (by omega)) rfl) rfl ?_ | refine wG rfl rfl (zZ wB rfl rfl rfl rfl (.inl ⟨rfl,rfl⟩) rfl) rfl ?_ | refine wE wB rfl rfl rfl rfl rfl rfl rfl rfl (q1) rfl rfl ?_ | refine wE wB rfl rfl rfl rfl rfl rfl rfl rfl (q2) rfl rfl ?_ | refine wE wB rfl rfl rfl rfl rfl rfl rfl rfl (q3) rfl rfl ?_ | refine wE wB rfl rfl rfl rfl rfl rfl rfl rfl (q4) rfl rfl ?_ | refine wE wB rfl rfl rfl rfl rfl rfl rfl rfl (q5) rfl rfl ?_ | refine zM wB rfl rfl rfl rfl rfl rfl rfl rfl rfl (q6) rfl rfl ?_ | refine wE wB rfl rfl rfl rfl rfl rfl rfl rfl (q7) rfl rfl ?_ | refine wE wB rfl rfl rfl rfl rfl rfl rfl rfl (hlv) rfl rfl ?_ | refine wF wI rfl rfl ?_ | refine wJ ?_ | refine wC ?_ | refine wP ?_ | refine wO ?_ | refine wL rfl ?_)
   exact ⟨.inl rfl,_,rfl,rfl⟩
 ·have hR:doesR ((x,l),t) ((x',l'),t')=false:=by
   unfold doesR
   rw [if_neg ha]
  rw [hR] at q3
  generalize alikeI ((x,l),t) ((x',l'),t')=c at *
  repeat (first | refine qP wB rfl rfl rfl rfl rfl rfl ?_ | refine wQ wB rfl rfl rfl rfl ?_ | refine wG rfl rfl (wH rfl rfl rfl rfl (decide_eq_true (by omega)) rfl) rfl ?_ | refine wG rfl rfl (wH rfl rfl rfl rfl (ndT (by omega)) rfl) rfl ?_ | refine wE wB rfl rfl rfl rfl rfl rfl rfl rfl (q1) rfl rfl ?_ | refine wE wB rfl rfl rfl rfl rfl rfl rfl rfl (q2) rfl rfl ?_ | refine wE wB rfl rfl rfl rfl rfl rfl rfl rfl (q3) rfl rfl ?_ | refine wE wB rfl rfl rfl rfl rfl rfl rfl rfl (q4) rfl rfl ?_ | refine wE wB rfl rfl rfl rfl rfl rfl rfl rfl (q5) rfl rfl ?_ | refine zM wB rfl rfl rfl rfl rfl rfl rfl rfl rfl (q6) rfl rfl ?_ | refine wE wB rfl rfl rfl rfl rfl rfl rfl rfl (hlv) rfl rfl ?_ | refine wF wI rfl rfl ?_ | refine wJ ?_ | refine wC ?_ | refine wP ?_ | refine wO ?_ | refine wN rfl ?_ | refine wL rfl ?_)
  exact ⟨.inl rfl,_,rfl,rfl⟩
end Go.Proofs.YtkjhfnhgefbhhaaGreat
