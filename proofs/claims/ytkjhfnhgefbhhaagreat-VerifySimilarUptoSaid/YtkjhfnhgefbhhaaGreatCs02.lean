/- simileref27.square, simileref11.Identity, simileref19.Leads, simileref27.Similar: told of trees. ALLOC -/
import Derived.Test.YtkjhfnhgefbhhaaGreatCs01
import Derived.Test.YtkjhfnhgefbhhaaGreatCd22
set_option linter.all false
namespace Go.Proofs.YtkjhfnhgefbhhaaGreat
open Go.RowKit Go.Ev Go.Vl
def sqB (n:Nat) (m:MM):Bool:=decide (chk m=0∧m.2.length=n∧qB m.2=n)
set_option maxRecDepth 20000 in
set_option maxHeartbeats 3200000 in
theorem square27_v (x:Bool) (l:List Nat) (t:List (List ZZ)) (n:Nat) (hn:n≤68719476736) (h:okM ((x,l),t) 68719476736):wT Tryz.prog 30 [.agg [.bool x,vL l,vT t],.int .i64 (n:Nat)] (fun y=>y=.bool (sqB n ((x,l),t))):=by
 refine wK wB Tryz.func30 rfl rfl rfl rfl fun w0=>?_
 have fin:∀ {p:Prop} [Decidable p],¬ p→V.bool false=V.bool (decide p):=fun h=>by rw [decide_eq_false h]
 have fit:∀ {p:Prop} [Decidable p],p→V.bool true=V.bool (decide p):=fun h=>by rw [decide_eq_true h]
 have od:okZ (x,l):=⟨h.1,Nat.le_trans h.2.1 (by decide)⟩
 have hml:t.length≤68719476736:=h.2.2.1.1
 have hcl:qB t≤68719476736:=by
  unfold qB
  cases ht:t with
  | nil=>exact Nat.zero_le _
  | cons r t2=>exact (h.2.2.1.2 r (by rw [ht]; exact List.mem_cons_self ..)).1
 have q1:=size11_v x l t (by omega)
 have q2:=check11_v x l t od (by omega)
 unfold sqB
 dsimp only
 obtain ⟨c,hce⟩:∃ c,qB t=c:=⟨_,rfl⟩
 rw [hce] at q1 hcl ⊢
 obtain ⟨r,hre⟩:∃ c,t.length=c:=⟨_,rfl⟩
 rw [hre] at q1 hml ⊢
 generalize chk ((x,l),t)=e at *
 by_cases h0:e=0
 ·by_cases h1:r=n
  ·by_cases h2:c=n
   ·repeat (first | refine wQ wB rfl rfl rfl rfl ?_ | refine wG rfl rfl (wH rfl rfl rfl rfl (decide_eq_true (by omega)) rfl) rfl ?_ | refine wE wB rfl rfl rfl rfl rfl rfl rfl rfl (q1) rfl rfl ?_ | refine wE wB rfl rfl rfl rfl rfl rfl rfl rfl (q2) rfl rfl ?_ | refine wF wI rfl rfl ?_ | refine wJ ?_ | refine wC ?_ | refine wP ?_)
    exact ⟨.inl rfl,_,rfl,fit ⟨h0,h1,h2⟩⟩
   ·repeat (first | refine wQ wB rfl rfl rfl rfl ?_ | refine wG rfl rfl (wH rfl rfl rfl rfl (decide_eq_true (by omega)) rfl) rfl ?_ | refine wG rfl rfl (wH rfl rfl rfl rfl (decide_eq_false (by omega)) rfl) rfl ?_ | refine wE wB rfl rfl rfl rfl rfl rfl rfl rfl (q1) rfl rfl ?_ | refine wE wB rfl rfl rfl rfl rfl rfl rfl rfl (q2) rfl rfl ?_ | refine wF wI rfl rfl ?_ | refine wJ ?_ | refine wC ?_ | refine wP ?_)
    exact ⟨.inl rfl,_,rfl,fin fun hh=>h2 hh.2.2⟩
  ·repeat (first | refine wQ wB rfl rfl rfl rfl ?_ | refine wG rfl rfl (wH rfl rfl rfl rfl (decide_eq_true (by omega)) rfl) rfl ?_ | refine wG rfl rfl (wH rfl rfl rfl rfl (decide_eq_false (by omega)) rfl) rfl ?_ | refine wE wB rfl rfl rfl rfl rfl rfl rfl rfl (q1) rfl rfl ?_ | refine wE wB rfl rfl rfl rfl rfl rfl rfl rfl (q2) rfl rfl ?_ | refine rr_no rfl rfl rfl rfl rfl rfl ?_ | refine wF wI rfl rfl ?_ | refine wJ ?_ | refine wC ?_ | refine wP ?_)
   exact ⟨.inl rfl,_,rfl,fin fun hh=>h1 hh.2.1⟩
 ·repeat (first | refine wQ wB rfl rfl rfl rfl ?_ | refine wG rfl rfl (wH rfl rfl rfl rfl (decide_eq_false (by omega)) rfl) rfl ?_ | refine wE wB rfl rfl rfl rfl rfl rfl rfl rfl (q1) rfl rfl ?_ | refine wE wB rfl rfl rfl rfl rfl rfl rfl rfl (q2) rfl rfl ?_ | refine rr_no rfl rfl rfl rfl rfl rfl ?_ | refine wF wI rfl rfl ?_ | refine wJ ?_ | refine wC ?_ | refine wP ?_)
  exact ⟨.inl rfl,_,rfl,fin fun hh=>h0 hh.1⟩
def idG (i:Nat):Nat→Nat→Rat:=fun a b=>if a<i∧a=b then 1 else 0
def idQ (n:Nat):List (List QQ):=(List.range n).map fun a=>(List.range n).map fun b=>qn ((oneI a b:Int):Rat)
theorem idG_next (i:Nat):upd2 (idG i) i i 1=idG (i+1):=by
 funext a b
 unfold upd2 idG
 by_cases h:a=i∧b=i
 ·rw [if_pos h,if_pos (by omega)]
 ·rw [if_neg h]
  by_cases h2:a<i∧a=b
  ·rw [if_pos h2,if_pos (by omega)]
  ·rw [if_neg h2,if_neg (by omega)]
theorem idG_first (a b:Nat):idG 0 a b=0:=by unfold idG; rw [if_neg (by omega)]
theorem idG_last (n a b:Nat) (ha:a<n):idG n a b=((oneI a b:Int):Rat):=by
 unfold idG oneI
 by_cases h:a=b
 ·rw [if_pos ⟨ha,h⟩,if_pos h]; rfl
 ·rw [if_neg fun hh=>h hh.2,if_neg h]; rfl
theorem id_fin {n:Nat} {L:List (Value × List (List V))} (hL:L.map (·.2)=tabG n n (idG n)):tabV L=tabQ (idQ n):=by
 rw [tabV_map,hL]
 unfold tabG rowG tabQ idQ vQs
 rw [List.map_map,List.map_map]
 refine List.map_congr_left fun a ha=>?_
 simp only [Function.comp,List.map_map]
 have e:((List.range n).map fun b=>zN (qn (idG n a b)))=(List.range n).map fun b=>zN (qn ((oneI a b:Int):Rat)):=List.map_congr_left fun b _=>by rw [idG_last n a b (List.mem_range.1 ha)]
 rw [e]
 rfl
theorem idQ_mem {n:Nat} {q:QQ} (h:q∈(idQ n).flatten):∃ a b,q=qn ((oneI a b:Int):Rat):=by
 obtain ⟨r,hr,hq⟩:=List.mem_flatten.1 h
 obtain ⟨a,_,rfl⟩:=List.mem_map.1 hr
 obtain ⟨b,_,rfl⟩:=List.mem_map.1 hq
 exact ⟨a,b,rfl⟩
theorem idQ_len (n:Nat):(idQ n).length=n:=by unfold idQ; rw [List.length_map,List.length_range]
theorem idQ_row {n:Nat} {r:List QQ} (h:r∈idQ n):r.length=n:=by
 obtain ⟨a,_,rfl⟩:=List.mem_map.1 h
 rw [List.length_map,List.length_range]
theorem idQ_norm (n:Nat):normQ (idQ n):=fun q hq=>by
 obtain ⟨a,b,rfl⟩:=idQ_mem hq
 rw [kJ]
theorem lm_1:lm 1≤1:=by have:=lm_one 0 0; unfold oneI at this; rwa [if_pos rfl] at this
set_option maxRecDepth 20000 in
set_option maxHeartbeats 3200000 in
theorem ident11_v (n:Nat) (hn:0<n) (hn':n≤24):wT Tryz.prog 27 [.int .i64 (n:Nat)] (fun y=>y=vM (fromQ (idQ n))):=by
 refine wK wB Tryz.func27 rfl rfl rfl rfl fun w0=>?_
 have q4:=fill11_v n n hn (by omega) (by omega)
 have q5:=rof5_v 1 (by decide)
 rw [tabG_zero] at q4
 have q7:=from11_v (idQ n) 1 (by decide) (Nat.le_trans lm_1 (by decide)) (fun q hq=>by
  obtain ⟨a,b,rfl⟩:=idQ_mem hq
  refine ⟨okS_qn _ (by rw [Rat.num_intCast]; exact Nat.le_trans (lm_one a b) (by decide)) (by rw [Rat.den_intCast]; exact Nat.le_trans lm_1 (by decide)),?_⟩
  rw [kJ,Rat.den_intCast]
  exact Nat.dvd_refl _) (by rw [idQ_len]; omega) (by
  rw [flat_const fun r hr=>idQ_row hr,idQ_len]
  exact Nat.le_trans (Nat.mul_le_mul hn' hn') (by decide)) (fun r hr=>by rw [idQ_row hr]; omega)
 repeat (first | refine vw_sqI 1 rfl ?_ | refine sq_callT wB 1 200 rfl rfl rfl rfl rfl rfl rfl rfl q4 rfl rfl rfl rfl fun L0 hL0=>?_ | refine sq_v wB rfl rfl rfl rfl ?_ | refine sq_done rfl ?_ | refine qP wB rfl rfl rfl rfl rfl rfl ?_ | refine wQ wB rfl rfl rfl rfl ?_ | refine wF wI rfl rfl ?_ | refine wJ ?_ | refine wM ?_ | refine wC ?_)
 have hHl:(hdr L0).length=n:=by
  rw [hdr_len]
  have:=congrArg List.length hL0
  rwa [List.length_map,tabG_len] at this
 rw [hHl]
 obtain ⟨H,hH0⟩:∃ H,hdr L0=H:=⟨_,rfl⟩
 rw [hH0] at hHl ⊢
 have hL1:L0.map (·.2)=tabG n n (idG 0):=by
  rw [hL0]
  exact tabG_congr fun a _ b _=>(idG_first a b).symm
 refine qF (fun b:Nat × List (Value × List (List V))=>[(4,some (.sv (.bx 2 0))),(5,some (.bx [.v (.bool false),.nils,.nils])),(6,some (.sv (.own 1 64 1 H))),(401,some (.fam 89 4 b.2)),(18,some (.sv (.v (.int .i64 (n:Nat))))),(20,some (.sv (.v (.int .i64 (b.1:Nat)))))])
  (fun b=>b.1≤n∧hdr b.2=H∧b.2.map (·.2)=tabG n n (idG b.1)) (fun b=>n - b.1) (0,L0) (fun _=>rfl) ⟨Nat.zero_le _,hH0,hL1⟩ ⟨rfl,rfl,⟨_,rfl⟩,rfl,rfl,rfl,trivial⟩ fun ⟨i,L1⟩ hI=>?_
 obtain ⟨hI1,hI2,hI3⟩:=hI
 dsimp only at hI1 hI2 hI3 ⊢
 rcases Nat.lt_or_ge i n with hi | hi
 ·obtain ⟨u,k1,k2,k3,k4⟩:=tab_turn hI2 hI3 hi hi 1
  rw [idG_next] at k4
  have hHi:i<H.length:=by omega
  have hrow:(rowG n (idG i) i)[i]? = some (zN (qn (idG i i i))):=rowG_at _ _ hi
  have hrl:=rowG_len n (idG i) i
  have hkl:i<(rowG n (idG i) i).length:=by omega
  have ez:((1:Nat):Rat)=1:=rfl
  rw [ez] at q5
  clear hI2 hI3
  generalize rowG n (idG i) i=es at *
  obtain ⟨L4,hL4⟩:∃ L4,L1.set i (u,es.set i (zN (qn 1)))=L4:=⟨_,rfl⟩
  rw [hL4] at k3 k4
  generalize qn (idG i i i)=qz at *
  repeat (first | refine wG rfl rfl (qY (i:=i) wB rfl rfl rfl rfl rfl rfl hHi rfl rfl rfl) rfl ?_ | refine wG rfl rfl (zW wB rfl rfl rfl k2 rfl rfl rfl) rfl ?_ | refine wG rfl rfl (sem_rawIx wB (j:=200) (r:=i) (i:=i) rfl rfl rfl rfl rfl rfl rfl k1 hkl rfl) rfl ?_ | refine wG rfl rfl (sem_arStore wB (j:=200) rfl rfl rfl k1 hrow rfl rfl rfl rfl (Nat.le_refl _) rfl hL4) rfl ?_ | refine wE wB rfl rfl rfl rfl rfl rfl rfl rfl (q5) rfl rfl ?_ | refine wQ wB rfl rfl rfl rfl ?_ | refine wG rfl rfl (wH rfl rfl rfl rfl (decide_eq_true (by omega)) rfl) rfl ?_ | refine wG rfl rfl (wX rfl rfl rfl rfl (qC (by omega) (by omega)) rfl) rfl ?_ | refine wF wI rfl rfl ?_ | refine wJ ?_ | refine wM ?_ | refine wC ?_ | refine wO ?_ | refine wN rfl ?_)
  exact ⟨(i+1,L4),⟨hi,k3,k4⟩,by dsimp only; omega,rfl,rfl,⟨_,rfl⟩,rfl,rfl,rfl,trivial⟩
 ·have hie:i=n:=by omega
  subst hie
  have hfin:tabV L1=tabQ (idQ i):=id_fin hI3
  rw [← hI2]
  repeat (first | refine vw_frzTabR 7 3 200 rfl rfl hfin ?_ | refine wE wB rfl rfl rfl rfl rfl rfl rfl rfl (q7) rfl rfl ?_ | refine wQ wB rfl rfl rfl rfl ?_ | refine wG rfl rfl (wH rfl rfl rfl rfl (decide_eq_false (by omega)) rfl) rfl ?_ | refine wF wI rfl rfl ?_ | refine wJ ?_ | refine wC ?_ | refine wP ?_ | refine qA ?_ | refine wL rfl ?_)
  exact ⟨.inl rfl,_,rfl,rfl⟩
theorem mul11_sq {m m':MM} {n K:Nat} (h:sqM m n K) (h':sqM m' n K) (hn:0<n) (hn':n≤24) (hK:K≤17179869184):wT Tryz.prog 32 [vM m,vM m'] (fun y=>y=vM (fromQ (mulQ m m'))):=by
 have e1:=h.cl hn
 have e2:=h'.cl hn
 have r1:=h.rows
 have r2:=h'.rows
 have c1:=h.cols
 have c2:=h'.cols
 have d1:=h.den
 have d2:=h'.den
 have o1:=okM_mono h.ok hK
 have o2:=okM_mono h'.ok hK
 clear h h'
 obtain ⟨⟨x,l⟩,t⟩:=m
 obtain ⟨⟨x',l'⟩,t'⟩:=m'
 dsimp only at e1 e2 r1 r2 c1 c2
 exact mul11_v x x' l l' t t' o1 o2 d1 d2 (fun r hr=>by rw [c1 r hr,e1]) (fun r hr=>by rw [c2 r hr,e2]) (by omega) (by omega) (by omega) (by omega) (by rw [r1,e2]; exact Nat.le_trans (Nat.mul_le_mul hn' hn') (by decide))
theorem fromQ_sq {m m':MM} {n K:Nat} (h:sqM m n K) (h':sqM m' n K) (hn:0<n) (hn':n≤24):sqM (fromQ (mulQ m m')) n (4*K+24):=by
 have e1:=h.cl hn
 have e2:=h'.cl hn
 have o:=okM_mono (fromQ_ok h.ok h'.ok h.den h'.den (by omega) (by rw [h.rows,e2]; exact Nat.le_trans (Nat.mul_le_mul hn' hn') (by decide))) (K':=4*K+24) (by omega)
 have hr:∀ x∈(fromQ (mulQ m m')).2,x.length=n:=fun x hx=>by
  obtain ⟨r',hr',rfl⟩:=List.mem_map.1 hx
  rw [List.length_map,mulQ_row hr',e2]
 refine ⟨o,chk_of _ (fromQ_den _) (even_of _ _ hr),?_,hr⟩
 show (List.map _ (mulQ m m')).length=_
 rw [List.length_map,mulQ_len,h.rows]
theorem fromI_sq (n:Nat) (hn':n≤24):sqM (fromQ (idQ n)) n 17179869184:=by
 have hr:∀ x∈(fromQ (idQ n)).2,x.length=n:=fun x hx=>by
  obtain ⟨r',hr',rfl⟩:=List.mem_map.1 hx
  rw [List.length_map,idQ_row hr']
 have hlen:(fromQ (idQ n)).2.length=n:=by
  show (List.map _ (idQ n)).length=_
  rw [List.length_map,idQ_len]
 have hD:comD (idQ n).flatten∣1:=comD_dvd _ _ fun q hq=>by
  obtain ⟨a,b,rfl⟩:=idQ_mem hq
  rw [kJ,Rat.den_intCast]
  exact Nat.dvd_refl _
 have hD1:comD (idQ n).flatten=1:=Nat.eq_one_of_dvd_one hD
 refine ⟨⟨zn_okL _,?_,⟨by rw [hlen]; omega,fun x hx=>⟨by rw [hr x hx]; omega,fun z hz=>?_⟩⟩,by rw [flat_const hr,hlen]; exact Nat.le_trans (Nat.mul_le_mul hn' hn') (by decide)⟩,chk_of _ (fromQ_den _) (even_of _ _ hr),hlen,hr⟩
 ·show lm ((comD (idQ n).flatten:Nat):Int)≤_
  rw [hD1]
  exact Nat.le_trans lm_1 (by decide)
 ·obtain ⟨r',hr',rfl⟩:=List.mem_map.1 hx
  obtain ⟨q,hq,rfl⟩:=List.mem_map.1 hz
  refine ⟨zn_okL _,?_⟩
  obtain ⟨a,b,rfl⟩:=idQ_mem (List.mem_flatten.2 ⟨r',hr',hq⟩)
  show lm (qR (qn ((oneI a b:Int):Rat))*((comD (idQ n).flatten:Nat):Int)).num≤_
  rw [kJ,hD1]
  have e:=(mul_den ((oneI a b:Int):Rat) ((1:Nat):Int) rfl).1
  have e2:lm (((1:Nat):Int):Rat).num≤1:=lm_1
  rw [Rat.num_intCast] at e
  have:=lm_one a b
  omega
theorem equal11_sq {m m':MM} {n K:Nat} (h:sqM m n K) (h':sqM m' n K) (hK:K≤68719476736):wT Tryz.prog 31 [vM m,vM m'] (fun y=>y=.bool (equalR m m')):=by
 have d1:=h.den
 have d2:=h'.den
 have o1:=okM_mono h.ok hK
 have o2:=okM_mono h'.ok hK
 clear h h'
 obtain ⟨⟨x,l⟩,t⟩:=m
 obtain ⟨⟨x',l'⟩,t'⟩:=m'
 exact equal11_v x x' l l' t t' o1 o2 d1 d2
set_option maxRecDepth 20000 in
set_option maxHeartbeats 1600000 in
theorem leads19_v (n:Nat) (hn:0<n) (hn':n≤24) (xa xs xi xb:Bool) (la ls li lb:List Nat) (ta ts ti tb:List (List ZZ)) (ha:sqM ((xa,la),ta) n 1073741824) (hs:sqM ((xs,ls),ts) n 1073741824) (hi:sqM ((xi,li),ti) n 1073741824) (hb:sqM ((xb,lb),tb) n 1073741824) :
  wT Tryz.prog 33 [.agg [.bool xa,vL la,vT ta],.agg [.bool xs,vL ls,vT ts],.agg [.bool xi,vL li,vT ti],.agg [.bool xb,vL lb,vT tb]] (fun y=>y=.bool (equalR (fromQ (mulQ (fromQ (mulQ ((xi,li),ti) ((xa,la),ta))) ((xs,ls),ts))) ((xb,lb),tb))):=by
 refine wK wB Tryz.func33 rfl rfl rfl rfl fun w0=>?_
 have q1:=mul11_sq hi ha hn hn' (by decide)
 have s1:=fromQ_sq hi ha hn hn'
 have q2:=mul11_sq s1 (hs.mono (by decide)) hn hn' (by decide)
 have s2:=fromQ_sq s1 (hs.mono (by decide)) hn hn'
 have q3:=equal11_sq s2 (hb.mono (by decide)) (by decide)
 generalize fromQ (mulQ ((xi,li),ti) ((xa,la),ta))=P at *
 generalize fromQ (mulQ P ((xs,ls),ts))=R at *
 generalize equalR R ((xb,lb),tb)=b at *
 clear s1 s2
 obtain ⟨⟨px,pl⟩,pt⟩:=P
 obtain ⟨⟨rx,rl⟩,rt⟩:=R
 repeat (first | refine wQ wB rfl rfl rfl rfl ?_ | refine wE wB rfl rfl rfl rfl rfl rfl rfl rfl (q1) rfl rfl ?_ | refine wE wB rfl rfl rfl rfl rfl rfl rfl rfl (q2) rfl rfl ?_ | refine wE wB rfl rfl rfl rfl rfl rfl rfl rfl (q3) rfl rfl ?_ | refine wF wI rfl rfl ?_ | refine wJ ?_ | refine wC ?_ | refine wP ?_)
 exact ⟨.inl rfl,_,rfl,rfl⟩
def simR (n:Nat) (a b s i:MM):Int:=if sqB n s=true∧sqB n i=true then (if equalR (fromQ (mulQ s i)) (fromQ (idQ n))=true then (if equalR (fromQ (mulQ (fromQ (mulQ i a)) s)) b=true then 0 else 5) else 4) else 1
theorem sqB_sq {m:MM} {n K:Nat} (h:sqB n m=true) (ho:okM m K):sqM m n K:=by
 unfold sqB at h
 rw [decide_eq_true_eq] at h
 exact sqM.of ho h.1 h.2.1 h.2.2
set_option maxRecDepth 20000 in
set_option maxHeartbeats 3200000 in
theorem similar27_v (n:Nat) (hn:0<n) (hn':n≤24) (xa xb xs xi:Bool) (la lb ls li:List Nat) (ta tb ts ti:List (List ZZ)) (ha:sqM ((xa,la),ta) n 1073741824) (hb:sqM ((xb,lb),tb) n 1073741824) (hs:okM ((xs,ls),ts) 1073741824) (hi:okM ((xi,li),ti) 1073741824) :
  wT Tryz.prog 9 [.agg [.bool xa,vL la,vT ta],.agg [.bool xb,vL lb,vT tb],.agg [.bool xs,vL ls,vT ts],.agg [.bool xi,vL li,vT ti]] (fun y=>y=.int .i64 (simR n ((xa,la),ta) ((xb,lb),tb) ((xs,ls),ts) ((xi,li),ti))):=by
 refine wK wB Tryz.func9 rfl rfl rfl rfl fun w0=>?_
 have fin:∀ {u v:Int},u=v→V.int .i64 u=V.int .i64 v:=fun h=>by rw [h]
 have hlen:(tabV' ta).length=n:=(zY ta).trans ha.rows
 have q1:=square27_v xs ls ts n (by omega) (okM_mono hs (by decide))
 have q2:=square27_v xi li ti n (by omega) (okM_mono hi (by decide))
 unfold simR
 by_cases b1:sqB n ((xs,ls),ts)=true
 ·by_cases b2:sqB n ((xi,li),ti)=true
  ·have s1:=sqB_sq b1 hs
   have s2:=sqB_sq b2 hi
   have q3:=mul11_sq s1 s2 hn hn' (by decide)
   have q4:=ident11_v n hn hn'
   have q5:=equal11_sq (K:=17179869184) ((fromQ_sq s1 s2 hn hn').mono (by decide)) (fromI_sq n hn') (by decide)
   have q6:=leads19_v n hn hn' xa xs xi xb la ls li lb ta ts ti tb ha s1 s2 hb
   rw [b1] at q1
   rw [b2] at q2
   rw [if_pos ⟨b1,b2⟩]
   generalize fromQ (mulQ ((xs,ls),ts) ((xi,li),ti))=P at *
   generalize fromQ (idQ n)=I at *
   generalize equalR P I=e1 at *
   generalize equalR (fromQ (mulQ (fromQ (mulQ ((xi,li),ti) ((xa,la),ta))) ((xs,ls),ts))) ((xb,lb),tb)=e2 at *
   clear s1 s2 ha hb b1 b2
   obtain ⟨⟨px,pl⟩,pt⟩:=P
   obtain ⟨⟨ix,il⟩,it⟩:=I
   cases e1 with
   | true =>
    cases e2 with
    | true =>
     repeat (first | refine wG rfl rfl (wR wB rfl rfl rfl rfl rfl rfl hlen rfl) rfl ?_ | refine wE wB rfl rfl rfl rfl rfl rfl rfl rfl (q1) rfl rfl ?_ | refine wE wB rfl rfl rfl rfl rfl rfl rfl rfl (q2) rfl rfl ?_ | refine wE wB rfl rfl rfl rfl rfl rfl rfl rfl (q3) rfl rfl ?_ | refine wE wB rfl rfl rfl rfl rfl rfl rfl rfl (q4) rfl rfl ?_ | refine wE wB rfl rfl rfl rfl rfl rfl rfl rfl (q5) rfl rfl ?_ | refine wE wB rfl rfl rfl rfl rfl rfl rfl rfl (q6) rfl rfl ?_ | refine wQ wB rfl rfl rfl rfl ?_ | refine wF wI rfl rfl ?_ | refine wJ ?_ | refine wM ?_ | refine wC ?_ | refine wP ?_ | refine wO ?_ | refine wL rfl ?_)
     exact ⟨.inl rfl,_,rfl,rfl⟩
    | false =>
     repeat (first | refine wG rfl rfl (wR wB rfl rfl rfl rfl rfl rfl hlen rfl) rfl ?_ | refine wE wB rfl rfl rfl rfl rfl rfl rfl rfl (q1) rfl rfl ?_ | refine wE wB rfl rfl rfl rfl rfl rfl rfl rfl (q2) rfl rfl ?_ | refine wE wB rfl rfl rfl rfl rfl rfl rfl rfl (q3) rfl rfl ?_ | refine wE wB rfl rfl rfl rfl rfl rfl rfl rfl (q4) rfl rfl ?_ | refine wE wB rfl rfl rfl rfl rfl rfl rfl rfl (q5) rfl rfl ?_ | refine wE wB rfl rfl rfl rfl rfl rfl rfl rfl (q6) rfl rfl ?_ | refine wQ wB rfl rfl rfl rfl ?_ | refine wF wI rfl rfl ?_ | refine wJ ?_ | refine wM ?_ | refine wC ?_ | refine wP ?_ | refine wN rfl ?_ | refine wL rfl ?_)
     exact ⟨.inl rfl,_,rfl,rfl⟩
   | false =>
    repeat (first | refine wG rfl rfl (wR wB rfl rfl rfl rfl rfl rfl hlen rfl) rfl ?_ | refine wE wB rfl rfl rfl rfl rfl rfl rfl rfl (q1) rfl rfl ?_ | refine wE wB rfl rfl rfl rfl rfl rfl rfl rfl (q2) rfl rfl ?_ | refine wE wB rfl rfl rfl rfl rfl rfl rfl rfl (q3) rfl rfl ?_ | refine wE wB rfl rfl rfl rfl rfl rfl rfl rfl (q4) rfl rfl ?_ | refine wE wB rfl rfl rfl rfl rfl rfl rfl rfl (q5) rfl rfl ?_ | refine wQ wB rfl rfl rfl rfl ?_ | refine wF wI rfl rfl ?_ | refine wJ ?_ | refine wM ?_ | refine wC ?_ | refine wP ?_ | refine wN rfl ?_ | refine wL rfl ?_)
    exact ⟨.inl rfl,_,rfl,rfl⟩
  ·rw [if_neg fun h=>b2 h.2]
   rw [b1] at q1
   rw [Bool.not_eq_true] at b2
   rw [b2] at q2
   clear ha hb
   repeat (first | refine wG rfl rfl (wR wB rfl rfl rfl rfl rfl rfl hlen rfl) rfl ?_ | refine wE wB rfl rfl rfl rfl rfl rfl rfl rfl (q1) rfl rfl ?_ | refine wE wB rfl rfl rfl rfl rfl rfl rfl rfl (q2) rfl rfl ?_ | refine wQ wB rfl rfl rfl rfl ?_ | refine wF wI rfl rfl ?_ | refine wJ ?_ | refine wM ?_ | refine wC ?_ | refine wP ?_ | refine wN rfl ?_)
   exact ⟨.inl rfl,_,rfl,rfl⟩
 ·rw [if_neg fun h=>b1 h.1]
  rw [Bool.not_eq_true] at b1
  rw [b1] at q1
  clear ha hb
  repeat (first | refine wG rfl rfl (wR wB rfl rfl rfl rfl rfl rfl hlen rfl) rfl ?_ | refine wE wB rfl rfl rfl rfl rfl rfl rfl rfl (q1) rfl rfl ?_ | refine wQ wB rfl rfl rfl rfl ?_ | refine rr_no rfl rfl rfl rfl rfl rfl ?_ | refine wF wI rfl rfl ?_ | refine wJ ?_ | refine wM ?_ | refine wC ?_ | refine wP ?_ | refine wN rfl ?_)
  exact ⟨.inl rfl,_,rfl,rfl⟩
end Go.Proofs.YtkjhfnhgefbhhaaGreat
namespace Go.Proofs.YtkjhfnhgefbhhaaGreat
open Go.RowKit Go.Ev Go.Vl
theorem map2_iff {α β γ δ:Type} {f:α→γ} {g:β→γ} {f':α→δ} {g':β→δ} (h:∀ x y,f x=g y↔f' x=g' y):∀ (l:List α) (l':List β),l.map f=l'.map g↔l.map f'=l'.map g'
 | [],[]=>by simp
 | [],_ :: _=>by simp
 | _ :: _,[]=>by simp
 | a :: l,b :: l'=>by
  simp only [List.map_cons,List.cons.injEq]
  rw [h a b,map2_iff h l l']
theorem frac_eq {x y d d':Int} (hd:d≠0) (hd':d'≠0):x*d'=y*d↔Rat.divInt x d=Rat.divInt y d':=by
 have e1:Rat.divInt (x*d') (d*d')=Rat.divInt x d:=Rat.divInt_mul_right hd'
 have e2:Rat.divInt (y*d) (d'*d)=Rat.divInt y d':=Rat.divInt_mul_right hd
 rw [← e1,← e2,Int.mul_comm d' d]
 exact ⟨fun h=>by rw [h],divInt_inj (Int.mul_ne_zero hd hd')⟩
theorem qn_inj {x y:Rat}:qn x=qn y↔x=y:=⟨fun h=>by
 have:=congrArg qR h
 rwa [kJ,kJ] at this,fun h=>by rw [h]⟩
theorem sameM_rats {m m':MM} (h0:intOf m.1≠0) (h0':intOf m'.1≠0):sameM m m'=decide (zF m=zF m'):=by
 unfold sameM zF
 refine decide_eq_decide.2 (map2_iff (fun r r'=>map2_iff (fun x y=>?_) r r') _ _)
 rw [qn_inj]
 exact frac_eq h0 h0'
theorem rats_norm (m:MM):normQ (zF m):=fun q hq=>by
 rw [ratsT_flat] at hq
 obtain ⟨z,_,rfl⟩:=List.mem_map.1 hq
 rw [kJ]
theorem rats_len (m:MM):(zF m).length=m.2.length:=by unfold zF; rw [List.length_map]
theorem rats_cols (m:MM):((zF m).headD []).length=qB m.2:=by
 unfold zF qB
 cases m.2 with
 | nil=>rfl
 | cons r t=>simp
theorem equalR_rats (m m':MM):equalR m m'=decide (zF m=zF m'):=by
 by_cases e:zF m=zF m'
 ·have e1:m.2.length=m'.2.length:=by rw [← rats_len,← rats_len,e]
  have e2:qB m.2=qB m'.2:=by rw [← rats_cols,← rats_cols,e]
  have e3:normM m=normM m':=by
   show fromQ (zF m)=fromQ (zF m')
   rw [e]
  unfold equalR
  rw [decide_eq_true e1,decide_eq_true e2,decide_eq_true e3,decide_eq_true e]
  rfl
 ·have e3:normM m≠normM m':=fun h=>e (by
   have h2:fromQ (zF m)=fromQ (zF m'):=h
   rw [← rats_from _ (rats_norm m),← rats_from _ (rats_norm m'),h2])
  unfold equalR
  rw [decide_eq_false e3,decide_eq_false e]
  simp
theorem rats_madeF {d:ZZ} {r c:Nat} {F:Nat→Nat→Int} (h0:intOf d≠0) (hr:0<r) (hc:0<c):zF (madeM d (tabF r c fun i k=>zn (F i k)))=(List.range r).map fun a=>(List.range c).map fun b=>qn (Rat.divInt (F a b) (intOf d)):=by
 obtain ⟨s1,s2,_⟩:=madeS_spec d (tabF r c fun i k=>zn (F i k)) h0
 have hd:intOf (madeM d (tabF r c fun i k=>zn (F i k))).1=(intOf d).tdiv (madeS d (tabF r c fun i k=>zn (F i k))):=by
  show intOf (zn (if qB (tabF r c fun i k=>zn (F i k))=0 then 1 else _))=_
  rw [tabF_cols _ hr,if_neg (by omega),wS]
 have hF:∀ a b,a<r→b<c→madeS d (tabF r c fun i k=>zn (F i k))∣F a b:=fun a b ha hb=>tabF_dvd h0 ha hb
 unfold zF
 rw [hd]
 show List.map _ (List.map _ (tabF r c fun i k=>zn (F i k)))=_
 generalize madeS d (tabF r c fun i k=>zn (F i k))=S at *
 unfold tabF
 rw [List.map_map,List.map_map]
 refine List.map_congr_left fun a ha=>?_
 simp only [Function.comp]
 rw [List.map_map,List.map_map]
 refine List.map_congr_left fun b hb=>?_
 simp only [Function.comp]
 rw [wS,wS]
 obtain ⟨p,hp⟩:=hF a b (List.mem_range.1 ha) (List.mem_range.1 hb)
 obtain ⟨q,hq⟩:=s2
 rw [hp,hq,Int.mul_tdiv_cancel_left _ s1,Int.mul_tdiv_cancel_left _ s1,Rat.divInt_mul_left s1]
theorem rats_mulM {m m':MM} (h0:intOf m.1≠0) (h0':intOf m'.1≠0) (hr:0<m.2.length) (hc:0<qB m'.2):zF (mulM m m')=mulQ m m':=by
 have e:=rats_madeF (d:=zn (intOf m.1*intOf m'.1)) (F:=fun i k=>prodI m.2 m'.2 i k (qB m.2)) (by rw [wS]; exact Int.mul_ne_zero h0 h0') hr hc
 rw [wS] at e
 exact e
theorem divInt_1 (x:Int):Rat.divInt x 1=(x:Rat):=by
 have e:=Rat.num_divInt_den (x:Rat)
 rw [Rat.num_intCast,Rat.den_intCast] at e
 exact e
theorem rats_idM {n:Nat} (hn:0<n):zF (idM n)=idQ n:=by
 have e:=rats_madeF (d:=zn 1) (F:=oneI) (by rw [wS]; decide) hn hn
 rw [wS] at e
 refine e.trans ?_
 unfold idQ
 simp only [divInt_1]
def entQ (R:List (List QQ)) (a h:Nat):Rat:=qR ((R.getD a []).getD h (qn 0))
def sumR (X Y:List (List QQ)) (a b:Nat):Nat→Rat
 | 0=>0
 | h+1=>sumR X Y a b h+entQ X a h*entQ Y h b
def mulR (X Y:List (List QQ)):List (List QQ):=(List.range X.length).map fun a=>(List.range (Y.headD []).length).map fun b=>qn (sumR X Y a b (X.headD []).length)
theorem ent_rats (m:MM) (a h:Nat):Rat.divInt (intOf (ent m.2 a h)) (intOf m.1)=entQ (zF m) a h:=by
 unfold ent entQ zF
 rw [List.getD_eq_getElem?_getD,List.getD_eq_getElem?_getD,List.getD_eq_getElem?_getD,List.getD_eq_getElem?_getD,List.getElem?_map]
 have hz:Rat.divInt (intOf ((false,[]):ZZ)) (intOf m.1)=qR (qn 0):=by
  rw [kJ]
  have:intOf ((false,[]):ZZ)=0:=rfl
  rw [this,Rat.zero_divInt]
 cases m.2[a]? with
 | none =>
  simp only [Option.map_none,Option.getD_none,List.getElem?_nil]
  exact hz
 | some r =>
  simp only [Option.map_some,Option.getD_some,List.getElem?_map]
  cases r[h]? with
  | none =>
   simp only [Option.map_none,Option.getD_none]
   exact hz
  | some z =>
   simp only [Option.map_some,Option.getD_some]
   rw [kJ]
theorem valQ_sum (m m':MM) (a b:Nat):∀ h,valQ m m' a b h=sumR (zF m) (zF m') a b h
 | 0=>valQ_zero m m' a b
 | h+1=>by rw [valQ_step,valQ_sum m m' a b h,ent_rats,ent_rats]; rfl
theorem mulQ_rats (m m':MM):mulQ m m'=mulR (zF m) (zF m'):=by
 unfold mulQ mulR
 rw [rats_len,rats_cols,rats_cols]
 refine List.map_congr_left fun a _=>?_
 refine List.map_congr_left fun b _=>?_
 rw [valQ_sum]
theorem mulQ_congr {m m' p p':MM} (h:zF m=zF p) (h':zF m'=zF p'):mulQ m m'=mulQ p p':=by
 rw [mulQ_rats,mulQ_rats,h,h']
theorem sim_two {n K:Nat} {s i:MM} (hn:0<n) (hn':n≤24) (hs:sqM s n K) (hi:sqM i n K):sameM (mulM s i) (idM n)=equalR (fromQ (mulQ s i)) (fromQ (idQ n)):=by
 have k1:=hs.mono (K':=K+1) (by omega)
 have k2:=hi.mono (K':=K+1) (by omega)
 rw [sameM_rats (k1.mul k2 hn hn' (by omega)).den (sqM.id n hn').den,equalR_rats,rats_from _ (mulQ_norm s i),rats_from _ (idQ_norm n),rats_mulM hs.den hi.den (by rw [hs.rows]; exact hn) (by rw [hi.cl hn]; exact hn),rats_idM hn]
theorem sim_three {n K:Nat} {a b s i:MM} (hn:0<n) (hn':n≤24) (ha:sqM a n K) (hb:sqM b n K) (hs:sqM s n K) (hi:sqM i n K):sameM (mulM (mulM i a) s) b=equalR (fromQ (mulQ (fromQ (mulQ i a)) s)) b:=by
 have k1:=hs.mono (K':=K+1) (by omega)
 have k2:=hi.mono (K':=K+1) (by omega)
 have k3:=ha.mono (K':=K+1) (by omega)
 have k4:=k2.mul k3 hn hn' (by omega)
 have k5:=k4.mul (k1.mono (K':=2*(K+1)+24) (by omega)) hn hn' (by omega)
 rw [sameM_rats k5.den hb.den,equalR_rats,rats_from _ (mulQ_norm _ s),rats_mulM k4.den hs.den (by rw [k4.rows]; exact hn) (by rw [hs.cl hn]; exact hn)]
 have e:mulQ (mulM i a) s=mulQ (fromQ (mulQ i a)) s:=mulQ_congr (by rw [rats_from _ (mulQ_norm i a),rats_mulM hi.den ha.den (by rw [hi.rows]; exact hn) (by rw [ha.cl hn]; exact hn)]) rfl
 rw [e]
theorem simC_eq {n K:Nat} {a b s i:MM} (hn:0<n) (hn':n≤24) (ha:sqM a n K) (hb:sqM b n K) (hs:okM s K) (hi:okM i K):firstI (simC n a b s i)=simR n a b s i:=by
 have e:firstI (simC n a b s i)=if sizedB n [s,i]=true then (if sameM (mulM s i) (idM n)=true then (if sameM (mulM (mulM i a) s) b=true then 0 else 5) else 4) else 1:=rfl
 rw [e]
 unfold simR
 have e2:sizedB n [s,i]=true↔sqB n s=true∧sqB n i=true:=by
  unfold sizedB sqB
  simp only [List.all_cons,List.all_nil,Bool.and_true,Bool.and_eq_true]
 by_cases h:sqB n s=true∧sqB n i=true
 ·rw [if_pos (e2.2 h),if_pos h]
  have s1:=sqB_sq h.1 hs
  have s2:=sqB_sq h.2 hi
  rw [sim_two hn hn' s1 s2,sim_three hn hn' ha hb s1 s2]
 ·rw [if_neg fun hh=>h (e2.1 hh),if_neg h]
set_option maxRecDepth 20000 in
set_option maxHeartbeats 6400000 in
theorem verifySimilar_v (hlv:wT Tryz.prog 8 [] (fun y=>y=.bool true)) (xa xb xs xi:Bool) (la lb ls li:List Nat) (ta tb ts ti:List (List ZZ)) (ha:okM ((xa,la),ta) 1073741824) (hb:okM ((xb,lb),tb) 1073741824) (hs:okM ((xs,ls),ts) 1073741824) (hi:okM ((xi,li),ti) 1073741824) :
  wT Tryz.prog 3 [.agg [.bool xa,vL la,vT ta],.agg [.bool xb,vL lb,vT tb],.agg [.bool xs,vL ls,vT ts,.bool xi,vL li,vT ti]] (fun y=>y=.bool true):=by
 refine wK wB Tryz.func3 rfl rfl rfl rfl fun w0=>?_
 have q1:=vsimilar_v xa xb xs xi la lb ls li ta tb ts ti ha hb hs hi
 have q2:=fits25_v ((xa,la),ta) ((xb,lb),tb) (okM_mono ha (by decide)) (okM_mono hb (by decide))
 by_cases h:alikeI ((xa,la),ta) ((xb,lb),tb)=0
 ·have hf:fits [((xa,la),ta),((xb,lb),tb)]=0∧ta.length=tb.length:=by
   unfold alikeI at h
   split at h
   ·rename_i h1
    split at h
    ·rename_i h2
     exact ⟨h1,h2⟩
    ·cases h
   ·rename_i h1
    exact absurd h h1
  obtain ⟨f1,f2⟩:=fits2 hf.1
  obtain ⟨s1,s2,s3⟩:=fit_sq ha f1
  obtain ⟨s4,_,_⟩:=fit_sq hb f2
  have s5:=hf.2
  dsimp only at s1 s2 s3 s4 s5
  rw [← s5] at s4
  rw [if_pos h,h,simC_eq s2 s3 s1 s4 hs hi] at q1
  rw [h] at q2
  have q3:=similar27_v ta.length s2 s3 xa xb xs xi la lb ls li ta tb ts ti s1 s4 hs hi
  generalize simR ta.length ((xa,la),ta) ((xb,lb),tb) ((xs,ls),ts) ((xi,li),ti)=c at *
  repeat (first | refine wQ wB rfl rfl rfl rfl ?_ | refine wG rfl rfl (wH rfl rfl rfl rfl (decide_eq_true (by omega)) rfl) rfl ?_ | refine wG rfl rfl (wH rfl rfl rfl rfl (ndF (by omega)) rfl) rfl ?_ | refine wE wB rfl rfl rfl rfl rfl rfl rfl rfl (q1) rfl rfl ?_ | refine zM wB rfl rfl rfl rfl rfl rfl rfl rfl rfl (q2) rfl rfl ?_ | refine wE wB rfl rfl rfl rfl rfl rfl rfl rfl (q3) rfl rfl ?_ | refine wE wB rfl rfl rfl rfl rfl rfl rfl rfl (hlv) rfl rfl ?_ | refine wF wI rfl rfl ?_ | refine wJ ?_ | refine wC ?_ | refine wP ?_ | refine wO ?_ | refine wL rfl ?_)
  exact ⟨.inl rfl,_,rfl,rfl⟩
 ·rw [if_neg h] at q1
  generalize alikeI ((xa,la),ta) ((xb,lb),tb)=c at *
  repeat (first | refine wQ wB rfl rfl rfl rfl ?_ | refine wG rfl rfl (wH rfl rfl rfl rfl (decide_eq_true (by omega)) rfl) rfl ?_ | refine wG rfl rfl (wH rfl rfl rfl rfl (ndT (by omega)) rfl) rfl ?_ | refine wE wB rfl rfl rfl rfl rfl rfl rfl rfl (q1) rfl rfl ?_ | refine zM wB rfl rfl rfl rfl rfl rfl rfl rfl rfl (q2) rfl rfl ?_ | refine wE wB rfl rfl rfl rfl rfl rfl rfl rfl (hlv) rfl rfl ?_ | refine wF wI rfl rfl ?_ | refine wJ ?_ | refine wC ?_ | refine wP ?_ | refine wN rfl ?_)
  exact ⟨.inl rfl,_,rfl,rfl⟩
end Go.Proofs.YtkjhfnhgefbhhaaGreat
