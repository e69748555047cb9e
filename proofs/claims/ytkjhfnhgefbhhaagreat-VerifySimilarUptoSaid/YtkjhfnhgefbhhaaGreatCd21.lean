/- simileref11.fill: told of trees. ALLOC -/
import Derived.Test.YtkjhfnhgefbhhaaGreatCd20
import Derived.Test.YtkjhfnhgefbhhaaGreatCd12
set_option linter.all false
namespace Go.Vl
open Go.RowKit Go.Ev
def famO (T:TypeId) (k:Nat):List (Value × List (List V))→Option Cell
 | []=>none
 | p :: L=>some (.fam T k (p :: L))
theorem famO_ok (T:TypeId) (k:Nat) (L:List (Value × List (List V))):famO T k L=some (.fam T k L)∨(famO T k L=none∧L=[]):=by
 cases L with
 | nil=>exact .inr ⟨rfl,rfl⟩
 | cons p L=>exact .inl rfl
section
variable {P:Program} {w0:Base} {n:Nat} {st:St} {Q:Post} {ops:Array Oper}
theorem vw_nameR {dr:Bool} (ri d j:Nat) {id k:Nat} {T:TypeId} {es:List (List V)} {L:List (Value × List (List V))} (hd:lk st (2*d)=some (.sv (.own id T k es))) (hj:lk st (2*j+1)=famO T k L)
  (h:∀ u,RR P w0 n ri ops dr Q ((2*d,some (.sv (.v (.raw u)))) :: (2*j+1,some (.fam T k (L++[(u,es)]))) :: st) 0 [] ((2*d,some (.sv (.v (.raw u)))) :: (2*j+1,some (.fam T k (L++[(u,es)]))) :: st)):VW P w0 n (.region ri ops dr) Q st :=
 vw_name d j hd (by rw [hj]; exact famO_ok T k L) fun u=>wC (h u)
end
end Go.Vl
namespace Go.Proofs.YtkjhfnhgefbhhaaGreat
open Go.RowKit Go.Ev Go.Vl
def z4:List V:=zN (qn 0)
def fillR (r c:Nat):List (List (List V)):=List.replicate r (List.replicate c z4)
set_option maxRecDepth 20000 in
set_option maxHeartbeats 3200000 in
theorem fill11_v (r c:Nat) (hr0:0<r) (hr:r≤68719476736) (hc:c≤68719476736):VCallsT Tryz.prog 64 [.int .i64 (r:Nat),.int .i64 (c:Nat)] 64 89 4 (fillR r c):=by
 refine vcallsT_enter Tryz.func64 rfl rfl rfl rfl fun w0=>?_
 have q1:=rof5_v 0 (by decide)
 have ez:((0:Nat):Rat)=0:=rfl
 rw [ez] at q1
 repeat (first | refine wQ wB rfl rfl rfl rfl ?_ | refine wF wI rfl rfl ?_ | refine wJ ?_ | refine wM ?_ | refine wC ?_)
 refine vw_nilOwn (d:=5) (id:=1) (k:=1) (T:=64) rfl rfl rfl rfl ?_
 have hzl:(List.replicate c z4).length=c:=List.length_replicate
 refine qF (fun b:Nat × List (Value × List (List V))=>[(0,some (.sv (.v (.int .i64 (r:Nat))))),(2,some (.sv (.v (.int .i64 (c:Nat))))),(10,some (.sv (.own 1 64 1 (hdr b.2)))),(12,some (.sv (.v (.int .i64 (b.1:Nat))))),(201,famO 89 4 b.2)])
  (fun b=>b.1≤r∧b.2.length=b.1∧∀ p∈b.2,p.2=List.replicate c z4) (fun b=>r - b.1) (0,[]) (fun b=>by obtain ⟨i,L⟩:=b; cases L <;> rfl) ⟨Nat.zero_le _,rfl,fun _ h=>by cases h⟩ ⟨rfl,rfl,⟨_,rfl⟩,rfl,rfl,trivial⟩ fun ⟨i,L⟩ hI=>?_
 obtain ⟨h1,h2,h3⟩:=hI
 dsimp only at h1 h2 h3 ⊢
 rcases Nat.lt_or_ge i r with hi | hi
 ·have hrep:List.replicate c q0=(List.replicate c z4).take 0++List.replicate ((List.replicate c z4).length - 0) q0:=by rw [hzl]; simp
  have hrl:((List.replicate c z4).take 0++List.replicate ((List.replicate c z4).length - 0) q0).length=c:=by rw [← hrep]; simp
  cases L with
  | nil =>
   repeat (first | refine wG rfl rfl (z8 (id:=7000) (l:=c) (c:=c) (m:=4) (bb:=64) wB rfl rfl rfl rfl rfl rfl rfl rfl rfl rfl (Nat.le_refl _) rfl (by omega) (by simp only [maxLen]; omega) rfl rfl rfl hrep) rfl ?_ | refine wG rfl rfl (wR wB rfl rfl rfl rfl rfl rfl hrl rfl) rfl ?_ | refine wQ wB rfl rfl rfl rfl ?_ | refine wG rfl rfl (wH rfl rfl rfl rfl (decide_eq_true (by omega)) rfl) rfl ?_ | refine wF wI rfl rfl ?_ | refine wJ ?_ | refine wM ?_ | refine wC ?_ | refine wO ?_ | refine wN rfl ?_)
   refine qF (fun k:Nat=>[(0,some (.sv (.v (.int .i64 (r:Nat))))),(2,some (.sv (.v (.int .i64 (c:Nat))))),(10,some (.sv (.own 1 64 1 (hdr [])))),(12,some (.sv (.v (.int .i64 (i:Nat))))),(201,famO 89 4 []),(14,some (.sv (.own 2 89 4 ((List.replicate c z4).take k++List.replicate ((List.replicate c z4).length - k) q0)))),(34,some (.sv (.v (.int .i64 (c:Nat))))),(36,some (.sv (.v (.int .i64 (k:Nat)))))])
    (fun k=>k≤c) (fun k=>c - k) 0 (fun _=>rfl) (Nat.zero_le _) ⟨rfl,rfl,⟨_,rfl⟩,rfl,rfl,⟨_,rfl⟩,rfl,rfl,trivial⟩ fun k hK=>?_
   rcases Nat.lt_or_ge k c with hk | hk
   ·have hgz:(List.replicate c z4)[k]? = some z4:=by rw [List.getElem?_replicate,if_pos hk]
    have hset:=set_step (List.replicate c z4) q0 k z4 hgz
    have hown:((List.replicate c z4).take k++List.replicate ((List.replicate c z4).length - k) q0)[k]? = some q0:=by
     rw [List.getElem?_append_right (by rw [List.length_take]; omega),List.getElem?_replicate,if_pos (by rw [List.length_take]; omega)]
    have hlen:k<((List.replicate c z4).take k++List.replicate ((List.replicate c z4).length - k) q0).length:=by rw [List.length_append,List.length_take,List.length_replicate (n:=(List.replicate c z4).length - k)]; omega
    generalize (List.replicate c z4).take k++List.replicate ((List.replicate c z4).length - k) q0=row at *
    unfold q0 at hown
    repeat (first | refine wE wB rfl rfl rfl rfl rfl rfl rfl rfl (q1) rfl rfl ?_ | refine wG rfl rfl (qY (i:=k) wB rfl rfl rfl rfl rfl rfl hlen rfl rfl rfl) rfl ?_ | refine wG rfl rfl (zD wB rfl rfl rfl hown rfl rfl rfl rfl (Nat.le_refl _) rfl hset) rfl ?_ | refine wQ wB rfl rfl rfl rfl ?_ | refine wG rfl rfl (wH rfl rfl rfl rfl (decide_eq_true (by omega)) rfl) rfl ?_ | refine wG rfl rfl (wX rfl rfl rfl rfl (qC (by omega) (by omega)) rfl) rfl ?_ | refine wF wI rfl rfl ?_ | refine wJ ?_ | refine wM ?_ | refine wC ?_ | refine wO ?_ | refine wN rfl ?_)
    exact ⟨k+1,hk,by omega,rfl,rfl,⟨_,rfl⟩,rfl,rfl,⟨_,rfl⟩,rfl,rfl,trivial⟩
   ·have hke:k=c:=by omega
    subst hke
    have hfull:(List.replicate k z4).take k++List.replicate ((List.replicate k z4).length - k) q0=List.replicate k z4:=by
     rw [List.take_of_length_le (by simp),hzl,Nat.sub_self]
     simp
    rw [hfull]
    repeat (first | refine vw_nameR 11 7 100 (L:=[]) rfl rfl fun u=>?_ | refine kE rfl rfl rfl (qT (id:=7002) (es2:=[[V.raw u]]) (m:=1) (bb:=24) wB rfl rfl rfl rfl rfl rfl rfl rfl rfl rfl rfl (fun e h=>by rw [List.mem_singleton.1 h]; rfl) rfl (by rw [hdr_len]; simp only [maxLen,List.length_singleton]; omega) (by rw [hdr_len]; simp only [List.length_singleton]; omega) rfl rfl (hdr_snoc [] u (List.replicate k z4))) rfl ?_ | refine wQ wB rfl rfl rfl rfl ?_ | refine wG rfl rfl (wH rfl rfl rfl rfl (decide_eq_false (by omega)) rfl) rfl ?_ | refine wG rfl rfl (wX rfl rfl rfl rfl (qC (by omega) (by omega)) rfl) rfl ?_ | refine wF wI rfl rfl ?_ | refine wJ ?_ | refine wC ?_ | refine qA ?_ | refine wL rfl ?_)
    exact ⟨(i+1,[]++[(u,List.replicate k z4)]),⟨hi,by rw [List.length_append,h2]; rfl,fun q hq=>by
     rcases List.mem_append.1 hq with hq | hq
     ·exact h3 q hq
     ·rw [List.mem_singleton.1 hq]⟩,by dsimp only; omega,rfl,rfl,⟨_,rfl⟩,rfl,rfl,trivial⟩
  | cons p L =>
   repeat (first | refine wG rfl rfl (z8 (id:=7000) (l:=c) (c:=c) (m:=4) (bb:=64) wB rfl rfl rfl rfl rfl rfl rfl rfl rfl rfl (Nat.le_refl _) rfl (by omega) (by simp only [maxLen]; omega) rfl rfl rfl hrep) rfl ?_ | refine wG rfl rfl (wR wB rfl rfl rfl rfl rfl rfl hrl rfl) rfl ?_ | refine wQ wB rfl rfl rfl rfl ?_ | refine wG rfl rfl (wH rfl rfl rfl rfl (decide_eq_true (by omega)) rfl) rfl ?_ | refine wF wI rfl rfl ?_ | refine wJ ?_ | refine wM ?_ | refine wC ?_ | refine wO ?_ | refine wN rfl ?_)
   refine qF (fun k:Nat=>[(0,some (.sv (.v (.int .i64 (r:Nat))))),(2,some (.sv (.v (.int .i64 (c:Nat))))),(10,some (.sv (.own 1 64 1 (hdr (p :: L))))),(12,some (.sv (.v (.int .i64 (i:Nat))))),(201,famO 89 4 (p :: L)),(14,some (.sv (.own 2 89 4 ((List.replicate c z4).take k++List.replicate ((List.replicate c z4).length - k) q0)))),(34,some (.sv (.v (.int .i64 (c:Nat))))),(36,some (.sv (.v (.int .i64 (k:Nat)))))])
    (fun k=>k≤c) (fun k=>c - k) 0 (fun _=>rfl) (Nat.zero_le _) ⟨rfl,rfl,⟨_,rfl⟩,rfl,rfl,⟨_,rfl⟩,rfl,rfl,trivial⟩ fun k hK=>?_
   rcases Nat.lt_or_ge k c with hk | hk
   ·have hgz:(List.replicate c z4)[k]? = some z4:=by rw [List.getElem?_replicate,if_pos hk]
    have hset:=set_step (List.replicate c z4) q0 k z4 hgz
    have hown:((List.replicate c z4).take k++List.replicate ((List.replicate c z4).length - k) q0)[k]? = some q0:=by
     rw [List.getElem?_append_right (by rw [List.length_take]; omega),List.getElem?_replicate,if_pos (by rw [List.length_take]; omega)]
    have hlen:k<((List.replicate c z4).take k++List.replicate ((List.replicate c z4).length - k) q0).length:=by rw [List.length_append,List.length_take,List.length_replicate (n:=(List.replicate c z4).length - k)]; omega
    generalize (List.replicate c z4).take k++List.replicate ((List.replicate c z4).length - k) q0=row at *
    unfold q0 at hown
    repeat (first | refine wE wB rfl rfl rfl rfl rfl rfl rfl rfl (q1) rfl rfl ?_ | refine wG rfl rfl (qY (i:=k) wB rfl rfl rfl rfl rfl rfl hlen rfl rfl rfl) rfl ?_ | refine wG rfl rfl (zD wB rfl rfl rfl hown rfl rfl rfl rfl (Nat.le_refl _) rfl hset) rfl ?_ | refine wQ wB rfl rfl rfl rfl ?_ | refine wG rfl rfl (wH rfl rfl rfl rfl (decide_eq_true (by omega)) rfl) rfl ?_ | refine wG rfl rfl (wX rfl rfl rfl rfl (qC (by omega) (by omega)) rfl) rfl ?_ | refine wF wI rfl rfl ?_ | refine wJ ?_ | refine wM ?_ | refine wC ?_ | refine wO ?_ | refine wN rfl ?_)
    exact ⟨k+1,hk,by omega,rfl,rfl,⟨_,rfl⟩,rfl,rfl,⟨_,rfl⟩,rfl,rfl,trivial⟩
   ·have hke:k=c:=by omega
    subst hke
    have hfull:(List.replicate k z4).take k++List.replicate ((List.replicate k z4).length - k) q0=List.replicate k z4:=by
     rw [List.take_of_length_le (by simp),hzl,Nat.sub_self]
     simp
    rw [hfull]
    repeat (first | refine vw_nameR 11 7 100 (L:=p :: L) rfl rfl fun u=>?_ | refine kE rfl rfl rfl (qT (id:=7002) (es2:=[[V.raw u]]) (m:=1) (bb:=24) wB rfl rfl rfl rfl rfl rfl rfl rfl rfl rfl rfl (fun e h=>by rw [List.mem_singleton.1 h]; rfl) rfl (by rw [hdr_len]; simp only [maxLen,List.length_singleton]; omega) (by rw [hdr_len]; simp only [List.length_singleton]; omega) rfl rfl (hdr_snoc (p :: L) u (List.replicate k z4))) rfl ?_ | refine wQ wB rfl rfl rfl rfl ?_ | refine wG rfl rfl (wH rfl rfl rfl rfl (decide_eq_false (by omega)) rfl) rfl ?_ | refine wG rfl rfl (wX rfl rfl rfl rfl (qC (by omega) (by omega)) rfl) rfl ?_ | refine wF wI rfl rfl ?_ | refine wJ ?_ | refine wC ?_ | refine qA ?_ | refine wL rfl ?_)
    exact ⟨(i+1,(p :: L)++[(u,List.replicate k z4)]),⟨hi,by rw [List.length_append,h2]; rfl,fun q hq=>by
     rcases List.mem_append.1 hq with hq | hq
     ·exact h3 q hq
     ·rw [List.mem_singleton.1 hq]⟩,by dsimp only; omega,rfl,rfl,⟨_,rfl⟩,rfl,rfl,trivial⟩
 ·have hie:i=r:=by omega
  subst hie
  cases L with
  | nil =>
   simp only [List.length_nil] at h2
   omega
  | cons p L =>
   repeat (first | refine wQ wB rfl rfl rfl rfl ?_ | refine wG rfl rfl (wH rfl rfl rfl rfl (decide_eq_false (by omega)) rfl) rfl ?_ | refine wF wI rfl rfl ?_ | refine wJ ?_ | refine wC ?_ | refine wP ?_ | refine qA ?_ | refine wL rfl ?_)
   refine ⟨.inl rfl,5,1,100,p :: L,rfl,rfl,?_⟩
   unfold fillR
   rw [List.eq_replicate_iff]
   refine ⟨by rw [List.length_map]; exact h2,fun y hy=>?_⟩
   obtain ⟨q,hq,rfl⟩:=List.mem_map.1 hy
   exact h3 q hq
end Go.Proofs.YtkjhfnhgefbhhaaGreat
/- simileref11.Mul: told of trees. ALLOC -/
namespace Go.Vl
open Go.RowKit Go.Ev
section
variable {P:Program} {w0:Base} {n:Nat} {st:St} {Q:Post} {ops:Array Oper}
theorem vw_sqI (id:Nat) (hnd:noDefers ops=true) (h:SQ P w0 n ops Q 0 st):VW P w0 n (.region id ops false) Q st:=vw_sq hnd h
theorem vw_frzTabR {dr:Bool} (ri d j:Nat) {id k:Nat} {To T:TypeId} {L:List (Value × List (List V))} {R:List (List V)} (hd:lk st (2*d)=some (.sv (.own id To 1 (hdr L)))) (hj:lk st (2*j+1)=some (.fam T k L)) (hR:tabV L=R)
  (h:RR P w0 n ri ops dr Q ((2*d,some (.sv (.v (.list R)))) :: (2*j+1,none) :: st) 0 [] ((2*d,some (.sv (.v (.list R)))) :: (2*j+1,none) :: st)):VW P w0 n (.region ri ops dr) Q st:=by
 subst hR
 exact vw_frzTab d j hd hj (wC h)
end
end Go.Vl
namespace Go.Proofs.YtkjhfnhgefbhhaaGreat
open Go.RowKit Go.Ev Go.Vl
def rowG (c:Nat) (G:Nat→Nat→Rat) (a:Nat):List (List V):=(List.range c).map fun b=>zN (qn (G a b))
def tabG (r c:Nat) (G:Nat→Nat→Rat):List (List (List V)):=(List.range r).map (rowG c G)
def upd2 (G:Nat→Nat→Rat) (i k:Nat) (x:Rat):Nat→Nat→Rat:=fun a b=>if a=i∧b=k then x else G a b
theorem tabG_congr {r c:Nat} {G G':Nat→Nat→Rat} (h:∀ a,a<r→∀ b,b<c→G a b=G' a b):tabG r c G=tabG r c G':=by
 refine List.map_congr_left fun a ha=>?_
 refine List.map_congr_left fun b hb=>?_
 rw [h a (List.mem_range.1 ha) b (List.mem_range.1 hb)]
theorem map_rep {α β:Type} (l:List α) (x:β):l.map (fun _=>x)=List.replicate l.length x:=by
 induction l with
 | nil=>rfl
 | cons a l ih=>rw [List.map_cons,ih,List.length_cons,List.replicate_succ]
theorem tabG_zero (r c:Nat):fillR r c=tabG r c fun _ _=>0:=by
 unfold fillR tabG rowG z4
 rw [map_rep,map_rep,List.length_range,List.length_range]
theorem rowG_len (c:Nat) (G:Nat→Nat→Rat) (a:Nat):(rowG c G a).length=c:=by unfold rowG; rw [List.length_map,List.length_range]
theorem tabG_len (r c:Nat) (G:Nat→Nat→Rat):(tabG r c G).length=r:=by unfold tabG; rw [List.length_map,List.length_range]
theorem rowG_at {c:Nat} (G:Nat→Nat→Rat) (a:Nat) {b:Nat} (h:b<c):(rowG c G a)[b]? = some (zN (qn (G a b))):=by
 unfold rowG
 rw [List.getElem?_map,List.getElem?_range h]
 rfl
theorem tabG_at {r:Nat} (c:Nat) (G:Nat→Nat→Rat) {a:Nat} (h:a<r):(tabG r c G)[a]? = some (rowG c G a):=by
 unfold tabG
 rw [List.getElem?_map,List.getElem?_range h]
 rfl
theorem tabG_set {r c i k:Nat} (G:Nat→Nat→Rat) (x:Rat) (hi:i<r) (hk:k<c):(tabG r c G).set i ((rowG c G i).set k (zN (qn x)))=tabG r c (upd2 G i k x):=by
 apply List.ext_getElem?
 intro a
 by_cases ha:a<r
 ·rw [tabG_at c _ ha,List.getElem?_set,tabG_len]
  by_cases hai:i=a
  ·subst hai
   rw [if_pos rfl,if_pos hi]
   congr 1
   apply List.ext_getElem?
   intro b
   by_cases hb:b<c
   ·rw [rowG_at _ _ hb,List.getElem?_set,rowG_len]
    by_cases hbk:k=b
    ·subst hbk
     rw [if_pos rfl,if_pos hk]
     unfold upd2
     rw [if_pos ⟨rfl,rfl⟩]
    ·rw [if_neg hbk,rowG_at _ _ hb]
     unfold upd2
     rw [if_neg fun h=>hbk h.2.symm]
   ·rw [List.getElem?_eq_none (by rw [List.length_set,rowG_len]; omega),List.getElem?_eq_none (by rw [rowG_len]; omega)]
  ·rw [if_neg hai,tabG_at c _ ha]
   congr 1
   unfold rowG
   refine List.map_congr_left fun b _=>?_
   unfold upd2
   rw [if_neg fun h=>hai h.1.symm]
 ·rw [List.getElem?_eq_none (by rw [List.length_set,tabG_len]; omega),List.getElem?_eq_none (by rw [tabG_len]; omega)]
theorem tab_turn {L:List (Value × List (List V))} {H:List (List V)} {r c i k:Nat} {G:Nat→Nat→Rat} (hH:hdr L=H) (hL:L.map (·.2)=tabG r c G) (hi:i<r) (hk:k<c) (x:Rat) :
  ∃ u,L[i]? = some (u,rowG c G i)∧H[i]? = some [V.raw u]∧hdr (L.set i (u,(rowG c G i).set k (zN (qn x))))=H∧(L.set i (u,(rowG c G i).set k (zN (qn x)))).map (·.2)=tabG r c (upd2 G i k x):=by
 have h1:=congrArg (fun l=>l[i]?) hL
 simp only [List.getElem?_map] at h1
 rw [tabG_at c G hi] at h1
 obtain ⟨⟨u,es⟩,h2,h3⟩:=Option.map_eq_some_iff.1 h1
 dsimp only at h3
 subst h3
 refine ⟨u,h2,by rw [← hH]; exact hdr_get h2,by rw [hdr_set h2]; exact hH,?_⟩
 rw [List.map_set,hL]
 exact tabG_set G x hi hk
def valQ (m m':MM) (a b h:Nat):Rat:=Rat.divInt (prodI m.2 m'.2 a b h) (intOf m.1*intOf m'.1)
def mulQ (m m':MM):List (List QQ):=(List.range m.2.length).map fun a=>(List.range (qB m'.2)).map fun b=>qn (valQ m m' a b (qB m.2))
theorem mulQ_mem {m m':MM} {q:QQ} (h:q∈(mulQ m m').flatten):∃ a b,q=qn (valQ m m' a b (qB m.2)):=by
 obtain ⟨r,hr,hq⟩:=List.mem_flatten.1 h
 obtain ⟨a,_,rfl⟩:=List.mem_map.1 hr
 obtain ⟨b,_,rfl⟩:=List.mem_map.1 hq
 exact ⟨a,b,rfl⟩
theorem mulQ_len (m m':MM):(mulQ m m').length=m.2.length:=by unfold mulQ; rw [List.length_map,List.length_range]
theorem mulQ_row {m m':MM} {r:List QQ} (h:r∈mulQ m m'):r.length=qB m'.2:=by
 obtain ⟨a,_,rfl⟩:=List.mem_map.1 h
 rw [List.length_map,List.length_range]
theorem flat_const {α:Type} {c:Nat}:∀ {l:List (List α)},(∀ r∈l,r.length=c)→l.flatten.length=l.length*c
 | [],_=>by simp
 | a :: l,h=>by
  rw [List.flatten_cons,List.length_append,h a (List.mem_cons_self ..),flat_const fun r hr=>h r (List.mem_cons_of_mem _ hr),List.length_cons,Nat.succ_mul]
  omega
theorem mulQ_flat (m m':MM):(mulQ m m').flatten.length=m.2.length*qB m'.2:=by
 rw [flat_const fun r hr=>mulQ_row hr,mulQ_len]
def fromQ (R:List (List QQ)):MM:=(zn (comD R.flatten:Nat),R.map fun r=>r.map (comF (comD R.flatten:Nat)))
def stepG (m m':MM) (i k h:Nat):Nat→Nat→Rat:=fun a b=>if a<i∨(a=i∧b<k) then valQ m m' a b (qB m.2) else if a=i∧b=k then valQ m m' a b h else 0
theorem valQ_zero (m m':MM) (a b:Nat):valQ m m' a b 0=0:=by
 unfold valQ
 show Rat.divInt 0 _=0
 exact Rat.zero_divInt _
theorem stepG_first (m m':MM) (a b:Nat):stepG m m' 0 0 0 a b=0:=by
 unfold stepG
 rw [if_neg (by omega)]
 split
 ·exact valQ_zero ..
 ·rfl
theorem stepG_next (m m':MM) (i k h:Nat):upd2 (stepG m m' i k h) i k (valQ m m' i k (h+1))=stepG m m' i k (h+1):=by
 funext a b
 unfold upd2 stepG
 by_cases h1:a=i∧b=k
 ·obtain ⟨rfl,rfl⟩:=h1
  rw [if_pos ⟨rfl,rfl⟩,if_neg (by omega),if_pos ⟨rfl,rfl⟩]
 ·rw [if_neg h1,if_neg h1,if_neg h1]
theorem stepG_col (m m':MM) (i k:Nat):stepG m m' i k (qB m.2)=stepG m m' i (k+1) 0:=by
 funext a b
 unfold stepG
 by_cases h1:a<i∨(a=i∧b<k)
 ·rw [if_pos h1,if_pos (by omega)]
 ·rw [if_neg h1]
  by_cases h2:a=i∧b=k
  ·rw [if_pos h2,if_pos (by omega)]
  ·rw [if_neg h2,if_neg (by omega)]
   split
   ·exact (valQ_zero ..).symm
   ·rfl
theorem stepG_row (m m':MM) (i c a b:Nat) (hb:b<c):stepG m m' i c 0 a b=stepG m m' (i+1) 0 0 a b:=by
 unfold stepG
 by_cases h1:a<i∨(a=i∧b<c)
 ·rw [if_pos h1,if_pos (by omega)]
 ·rw [if_neg h1,if_neg (by omega),if_neg (by omega)]
  split
  ·exact (valQ_zero ..).symm
  ·rfl
theorem stepG_last (m m':MM) (r a b:Nat) (ha:a<r):stepG m m' r 0 0 a b=valQ m m' a b (qB m.2):=by
 unfold stepG
 rw [if_pos (.inl ha)]
theorem tabV_map (L:List (Value × List (List V))):tabV L=(L.map (·.2)).map fun es=>[V.list es]:=by
 unfold tabV
 rw [List.map_map]
 rfl
theorem tab_fin {m m':MM} {L:List (Value × List (List V))} (hL:L.map (·.2)=tabG m.2.length (qB m'.2) fun a b=>valQ m m' a b (qB m.2)):tabV L=tabQ (mulQ m m'):=by
 rw [tabV_map,hL]
 unfold tabG rowG tabQ mulQ vQs
 rw [List.map_map,List.map_map]
 refine List.map_congr_left fun a _=>?_
 simp [Function.comp]
theorem divInt_step (p q D:Int):Rat.divInt p D+Rat.divInt q D=Rat.divInt (p+q) D:=by
 rw [Rat.divInt_eq_div,Rat.divInt_eq_div,Rat.divInt_eq_div,Rat.div_def,Rat.div_def,Rat.div_def,← Rat.add_mul,Rat.intCast_add]
theorem valQ_step (m m':MM) (i k h:Nat):valQ m m' i k (h+1)=valQ m m' i k h+Rat.divInt (intOf (ent m.2 i h)) (intOf m.1)*Rat.divInt (intOf (ent m'.2 h k)) (intOf m'.1):=by
 unfold valQ
 rw [Rat.divInt_mul_divInt,divInt_step]
 rfl
theorem okM_mono {m:MM} {K K':Nat} (h:okM m K) (hk:K≤K'):okM m K':=⟨h.1,Nat.le_trans h.2.1 hk,⟨h.2.2.1.1,fun r hr=>⟨(h.2.2.1.2 r hr).1,fun z hz=>⟨((h.2.2.1.2 r hr).2 z hz).1,Nat.le_trans ((h.2.2.1.2 r hr).2 z hz).2 hk⟩⟩⟩,h.2.2.2⟩
theorem valQ_ok {m m':MM} (h:okM m 17179869184) (h':okM m' 17179869184) (h0:intOf m.1≠0) (h0':intOf m'.1≠0) (a b k:Nat) (hk:k≤34359738368):okS (qn (valQ m m' a b k)):=by
 unfold valQ
 obtain ⟨n1,n2⟩:=kO (prodI m.2 m'.2 a b k) (intOf m.1*intOf m'.1) (Int.mul_ne_zero h0 h0')
 have l1:=lm_prodI m.2 m'.2 17179869184 0 a b (lm_ent h.2.2.1) (lm_ent h'.2.2.1) k
 have l2:=lm_mul (intOf m.1) (intOf m'.1)
 have l3:=qL m.1 h.1
 have l4:=qL m'.1 h'.1
 have l5:=h.2.1
 have l6:=h'.2.1
 exact okS_qn _ (by omega) (by omega)
theorem ent_ok {m:MM} (h:okM m 17179869184) (h0:intOf m.1≠0) (a b:Nat):okS (qn (Rat.divInt (intOf (ent m.2 a b)) (intOf m.1))):=by
 obtain ⟨n1,n2⟩:=kO (intOf (ent m.2 a b)) (intOf m.1) h0
 have l1:=lm_ent h.2.2.1 a b
 have l3:=qL m.1 h.1
 have l5:=h.2.1
 exact okS_qn _ (by omega) (by omega)
theorem two_ok {m m':MM} (h:okM m 17179869184) (h':okM m' 17179869184) (h0:intOf m.1≠0) (h0':intOf m'.1≠0) (a b c d:Nat):okS (qn (Rat.divInt (intOf (ent m.2 a b)) (intOf m.1)*Rat.divInt (intOf (ent m'.2 c d)) (intOf m'.1))):=by
 rw [Rat.divInt_mul_divInt]
 obtain ⟨n1,n2⟩:=kO (intOf (ent m.2 a b)*intOf (ent m'.2 c d)) (intOf m.1*intOf m'.1) (Int.mul_ne_zero h0 h0')
 have l1:=lm_mul (intOf (ent m.2 a b)) (intOf (ent m'.2 c d))
 have k1:=lm_ent h.2.2.1 a b
 have k2:=lm_ent h'.2.2.1 c d
 have l2:=lm_mul (intOf m.1) (intOf m'.1)
 have l3:=qL m.1 h.1
 have l4:=qL m'.1 h'.1
 have l5:=h.2.1
 have l6:=h'.2.1
 exact okS_qn _ (by omega) (by omega)
theorem rats_at {m:MM} {i k:Nat} {r:List ZZ} {z:ZZ} (h:m.2[i]? = some r) (h2:r[k]? = some z):∃ q,(zF m)[i]? = some q∧q[k]? = some (qn (Rat.divInt (intOf (ent m.2 i k)) (intOf m.1))):=by
 refine ⟨r.map fun x=>qn (Rat.divInt (intOf x) (intOf m.1)),?_,?_⟩
 ·unfold zF
  rw [List.getElem?_map,h]
  rfl
 ·rw [List.getElem?_map,h2,ent_at h h2]
  rfl
set_option maxRecDepth 20000 in
set_option maxHeartbeats 6400000 in
theorem mul11_v (x x':Bool) (l l':List Nat) (t t':List (List ZZ)) (h:okM ((x,l),t) 17179869184) (h':okM ((x',l'),t') 17179869184) (h0:intOf (x,l)≠0) (h0':intOf (x',l')≠0) (hr:∀ r∈t,r.length=qB t) (hr':∀ r∈t',r.length=qB t') (hn:t'.length=qB t) (hnl:qB t≤34359738368) (hne:0<t.length) (hcl:qB t'≤34359738368) (htc:t.length*qB t'≤68719476736) :
  wT Tryz.prog 32 [.agg [.bool x,vL l,vT t],.agg [.bool x',vL l',vT t']] (fun y=>y=vM (fromQ (mulQ ((x,l),t) ((x',l'),t')))):=by
 refine wK wB Tryz.func32 rfl rfl rfl rfl fun w0=>?_
 have hK:=okM_mono h (K':=68719476736) (by decide)
 have hK':=okM_mono h' (K':=68719476736) (by decide)
 have od:okZ (x,l):=⟨h.1,Nat.le_trans h.2.1 (by decide)⟩
 have od':okZ (x',l'):=⟨h'.1,Nat.le_trans h'.2.1 (by decide)⟩
 have htl:t.length≤68719476736:=h.2.2.1.1
 have htl':t'.length≤68719476736:=h'.2.2.1.1
 have q1:=rows11_aux x l t od h0 (fun r hr=>⟨Nat.le_trans (h.2.2.1.2 r hr).1 (by decide),fun z hz=>⟨((h.2.2.1.2 r hr).2 z hz).1,Nat.le_trans ((h.2.2.1.2 r hr).2 z hz).2 (by decide)⟩⟩) (by omega)
 have q2:=rows11_aux x' l' t' od' h0' (fun r hr=>⟨Nat.le_trans (h'.2.2.1.2 r hr).1 (by decide),fun z hz=>⟨((h'.2.2.1.2 r hr).2 z hz).1,Nat.le_trans ((h'.2.2.1.2 r hr).2 z hz).2 (by decide)⟩⟩) (by omega)
 have q3:=size11_v x' l' t' (by omega)
 have q4:=fill11_v t.length (qB t') hne htl (by omega)
 obtain ⟨A,hA⟩:∃ A:MM,((x,l),t)=A:=⟨_,rfl⟩
 obtain ⟨B,hB⟩:∃ B:MM,((x',l'),t')=B:=⟨_,rfl⟩
 have eA1:A.1=(x,l):=by rw [← hA]
 have eA2:A.2=t:=by rw [← hA]
 have eB1:B.1=(x',l'):=by rw [← hB]
 have eB2:B.2=t':=by rw [← hB]
 rw [hA] at q1 h hK ⊢
 rw [hB] at q2 h' hK' ⊢
 have hlA:(tabQ (zF A)).length=t.length:=by rw [tq_len]; unfold zF; rw [List.length_map,eA2]
 have hlB:(tabQ (zF B)).length=qB t:=by rw [tq_len]; unfold zF; rw [List.length_map,eB2,hn]
 have h00:intOf A.1≠0:=by rw [eA1]; exact h0
 have h00':intOf B.1≠0:=by rw [eB1]; exact h0'
 rw [tabG_zero] at q4
 obtain ⟨r,hre⟩:∃ r,t.length=r:=⟨_,rfl⟩
 obtain ⟨c,hce⟩:∃ c,qB t'=c:=⟨_,rfl⟩
 obtain ⟨n,hne'⟩:∃ n,qB t=n:=⟨_,rfl⟩
 rw [hre] at hlA htl q4 hne htc
 rw [hce] at q3 q4 hcl htc
 rw [hne'] at hlB hnl
 have hcA:qB A.2=n:=by rw [eA2]; exact hne'
 have hcB:qB B.2=c:=by rw [eB2]; exact hce
 repeat (first | refine vw_sqI 3 rfl ?_ | refine sq_g rfl rfl (wR wB rfl rfl rfl rfl rfl rfl hlA rfl) rfl ?_ | refine sq_callT wB 1 200 rfl rfl rfl rfl rfl rfl rfl rfl q4 rfl rfl rfl rfl fun L0 hL0=>?_ | refine sq_v wB rfl rfl rfl rfl ?_ | refine sq_done rfl ?_ | refine wG rfl rfl (wR wB rfl rfl rfl rfl rfl rfl hlA rfl) rfl ?_ | refine wE wB rfl rfl rfl rfl rfl rfl rfl rfl (q1) rfl rfl ?_ | refine wE wB rfl rfl rfl rfl rfl rfl rfl rfl (q2) rfl rfl ?_ | refine wE wB rfl rfl rfl rfl rfl rfl rfl rfl (q3) rfl rfl ?_ | refine qP wB rfl rfl rfl rfl rfl rfl ?_ | refine wQ wB rfl rfl rfl rfl ?_ | refine wF wI rfl rfl ?_ | refine wJ ?_ | refine wM ?_ | refine wC ?_)
 obtain ⟨H,hH0⟩:∃ H,hdr L0=H:=⟨_,rfl⟩
 have hHl:H.length=r:=by
  rw [← hH0,hdr_len]
  have:=congrArg List.length hL0
  rwa [List.length_map,tabG_len] at this
 rw [hH0]
 have hL1:L0.map (·.2)=tabG r c (stepG A B 0 0 0):=by
  rw [hL0]
  exact tabG_congr fun a _ b _=>(stepG_first A B a b).symm
 refine qF (fun b:Nat × List (Value × List (List V))=>[(8,some (.sv (.bx 4 0))),(9,some (.bx [.v (.bool false),.nils,.nils])),(10,some (.sv (.v (.list (tabQ (zF A)))))),(12,some (.sv (.v (.list (tabQ (zF B)))))),(16,some (.sv (.v (.int .i64 (c:Nat))))),(18,some (.sv (.own 1 64 1 H))),(401,some (.fam 89 4 b.2)),(54,some (.sv (.v (.int .i64 (r:Nat))))),(56,some (.sv (.v (.int .i64 (b.1:Nat)))))])
  (fun b=>b.1≤r∧hdr b.2=H∧b.2.map (·.2)=tabG r c (stepG A B b.1 0 0)) (fun b=>r - b.1) (0,L0) (fun _=>rfl) ⟨Nat.zero_le _,hH0,hL1⟩ ⟨rfl,rfl,rfl,rfl,rfl,⟨_,rfl⟩,rfl,rfl,rfl,trivial⟩ fun ⟨i,L1⟩ hI=>?_
 obtain ⟨hI1,hI2,hI3⟩:=hI
 dsimp only at hI1 hI2 hI3 ⊢
 rcases Nat.lt_or_ge i r with hi | hi
 ·repeat (first | refine wQ wB rfl rfl rfl rfl ?_ | refine wG rfl rfl (wH rfl rfl rfl rfl (decide_eq_true (by omega)) rfl) rfl ?_ | refine wF wI rfl rfl ?_ | refine wJ ?_ | refine wM ?_ | refine wC ?_ | refine wO ?_ | refine wN rfl ?_)
  refine qF (fun b:Nat × List (Value × List (List V))=>[(8,some (.sv (.bx 4 0))),(9,some (.bx [.v (.bool false),.nils,.nils])),(10,some (.sv (.v (.list (tabQ (zF A)))))),(12,some (.sv (.v (.list (tabQ (zF B)))))),(16,some (.sv (.v (.int .i64 (c:Nat))))),(18,some (.sv (.own 1 64 1 H))),(401,some (.fam 89 4 b.2)),(54,some (.sv (.v (.int .i64 (r:Nat))))),(56,some (.sv (.v (.int .i64 (i:Nat))))),(20,some (.sv (.v (.int .i64 (i:Nat))))),(22,some (.sv (.v (.int .i64 (b.1:Nat)))))])
   (fun b=>b.1≤c∧hdr b.2=H∧b.2.map (·.2)=tabG r c (stepG A B i b.1 0)) (fun b=>c - b.1) (0,L1) (fun _=>rfl) ⟨Nat.zero_le _,hI2,hI3⟩ ⟨rfl,rfl,rfl,rfl,rfl,⟨_,rfl⟩,rfl,rfl,rfl,rfl,rfl,trivial⟩ fun ⟨k,L2⟩ hJ=>?_
  obtain ⟨hJ1,hJ2,hJ3⟩:=hJ
  dsimp only at hJ1 hJ2 hJ3 ⊢
  rcases Nat.lt_or_ge k c with hk | hk
  ·repeat (first | refine wG rfl rfl (wR wB rfl rfl rfl rfl rfl rfl hlB rfl) rfl ?_ | refine wQ wB rfl rfl rfl rfl ?_ | refine wG rfl rfl (wH rfl rfl rfl rfl (decide_eq_true (by omega)) rfl) rfl ?_ | refine wF wI rfl rfl ?_ | refine wJ ?_ | refine wM ?_ | refine wC ?_ | refine wO ?_ | refine wN rfl ?_)
   refine qF (fun b:Nat × List (Value × List (List V))=>[(8,some (.sv (.bx 4 0))),(9,some (.bx [.v (.bool false),.nils,.nils])),(10,some (.sv (.v (.list (tabQ (zF A)))))),(12,some (.sv (.v (.list (tabQ (zF B)))))),(16,some (.sv (.v (.int .i64 (c:Nat))))),(18,some (.sv (.own 1 64 1 H))),(401,some (.fam 89 4 b.2)),(54,some (.sv (.v (.int .i64 (r:Nat))))),(56,some (.sv (.v (.int .i64 (i:Nat))))),(20,some (.sv (.v (.int .i64 (i:Nat))))),(22,some (.sv (.v (.int .i64 (k:Nat))))),(74,some (.sv (.v (.int .i64 (n:Nat))))),(76,some (.sv (.v (.int .i64 (b.1:Nat)))))])
    (fun b=>b.1≤n∧hdr b.2=H∧b.2.map (·.2)=tabG r c (stepG A B i k b.1)) (fun b=>n - b.1) (0,L2) (fun _=>rfl) ⟨Nat.zero_le _,hJ2,hJ3⟩ ⟨rfl,rfl,rfl,rfl,rfl,⟨_,rfl⟩,rfl,rfl,rfl,rfl,rfl,rfl,rfl,trivial⟩ fun ⟨g,L3⟩ hM=>?_
   obtain ⟨hM1,hM2,hM3⟩:=hM
   dsimp only at hM1 hM2 hM3 ⊢
   rcases Nat.lt_or_ge g n with hg | hg
   ·obtain ⟨u,k1,k2,k3,k4⟩:=tab_turn hM2 hM3 hi hk (valQ A B i k (g+1))
    rw [stepG_next] at k4
    obtain ⟨ra,hra⟩:∃ z,t[i]? = some z:=⟨_,List.getElem?_eq_getElem (by omega)⟩
    obtain ⟨za,hza⟩:∃ z,ra[g]? = some z:=⟨_,List.getElem?_eq_getElem (by rw [hr ra (List.mem_of_getElem? hra)]; omega)⟩
    obtain ⟨rb,hrb⟩:∃ z,t'[g]? = some z:=⟨_,List.getElem?_eq_getElem (by omega)⟩
    obtain ⟨zb,hzb⟩:∃ z,rb[k]? = some z:=⟨_,List.getElem?_eq_getElem (by rw [hr' rb (List.mem_of_getElem? hrb)]; omega)⟩
    obtain ⟨qa,a1,a2⟩:=rats_at (m:=A) (by rw [eA2]; exact hra) hza
    obtain ⟨qb,b1,b2⟩:=rats_at (m:=B) (by rw [eB2]; exact hrb) hzb
    have g1:=tq_at (zF A) i qa a1
    have g2:=qrow_at qa g _ a2
    have g3:=tq_at (zF B) g qb b1
    have g4:=qrow_at qb k _ b2
    have q5:=rmul5_v _ _ (ent_ok h h00 i g) (ent_ok h' h00' g k)
    have q6:=radd5_v _ _ (valQ_ok h h' h00 h00' i k g (by omega)) (two_ok h h' h00 h00' i g g k)
    rw [kJ,kJ] at q5 q6
    rw [← valQ_step] at q6
    have hHi:i<H.length:=by omega
    have hrow:(rowG c (stepG A B i k g) i)[k]? = some (zN (qn (valQ A B i k g))):=by
     rw [rowG_at _ _ hk]
     unfold stepG
     rw [if_neg (by omega),if_pos ⟨rfl,rfl⟩]
    have hrl:=rowG_len c (stepG A B i k g) i
    have hkl:k<(rowG c (stepG A B i k g) i).length:=by omega
    clear hI2 hI3 hJ2 hJ3 hM2 hM3 a1 a2 b1 b2
    generalize rowG c (stepG A B i k g) i=es at *
    obtain ⟨L4,hL4⟩:∃ L4,L3.set i (u,es.set k (zN (qn (valQ A B i k (g+1)))))=L4:=⟨_,rfl⟩
    rw [hL4] at k3 k4
    generalize qn (Rat.divInt (intOf (ent A.2 i g)) (intOf A.1))=qx at *
    generalize qn (Rat.divInt (intOf (ent B.2 g k)) (intOf B.1))=qy at *
    generalize qn (valQ A B i k g)=qz at *
    repeat (first | refine wG rfl rfl (wU wB rfl rfl rfl (i:=i) rfl rfl rfl g1 rfl rfl) rfl ?_ | refine wG rfl rfl (wU wB rfl rfl rfl (i:=g) rfl rfl rfl g2 rfl rfl) rfl ?_ | refine wG rfl rfl (wU wB rfl rfl rfl (i:=g) rfl rfl rfl g3 rfl rfl) rfl ?_ | refine wG rfl rfl (wU wB rfl rfl rfl (i:=k) rfl rfl rfl g4 rfl rfl) rfl ?_ | refine wG rfl rfl (qY (i:=i) wB rfl rfl rfl rfl rfl rfl hHi rfl rfl rfl) rfl ?_ | refine wG rfl rfl (zW wB rfl rfl rfl k2 rfl rfl rfl) rfl ?_ | refine wG rfl rfl (sem_rawIx wB (j:=200) (r:=i) (i:=k) rfl rfl rfl rfl rfl rfl rfl k1 hkl rfl) rfl ?_ | refine wG rfl rfl (sem_arLoadA wB (j:=200) rfl rfl rfl k1 hrow rfl rfl (Nat.le_refl _) rfl rfl) rfl ?_ | refine wG rfl rfl (sem_arStore wB (j:=200) rfl rfl rfl k1 hrow rfl rfl rfl rfl (Nat.le_refl _) rfl hL4) rfl ?_ | refine wE wB rfl rfl rfl rfl rfl rfl rfl rfl (q5) rfl rfl ?_ | refine wE wB rfl rfl rfl rfl rfl rfl rfl rfl (q6) rfl rfl ?_ | refine wQ wB rfl rfl rfl rfl ?_ | refine wG rfl rfl (wH rfl rfl rfl rfl (decide_eq_true (by omega)) rfl) rfl ?_ | refine wG rfl rfl (wX rfl rfl rfl rfl (qC (by omega) (by omega)) rfl) rfl ?_ | refine wF wI rfl rfl ?_ | refine wJ ?_ | refine wM ?_ | refine wC ?_ | refine wO ?_ | refine wN rfl ?_)
    exact ⟨(g+1,L4),⟨hg,k3,k4⟩,by dsimp only; omega,rfl,rfl,rfl,rfl,rfl,⟨_,rfl⟩,rfl,rfl,rfl,rfl,rfl,rfl,rfl,trivial⟩
   ·have hge:g=n:=by omega
    subst hge
    repeat (first | refine wQ wB rfl rfl rfl rfl ?_ | refine wG rfl rfl (wH rfl rfl rfl rfl (decide_eq_false (by omega)) rfl) rfl ?_ | refine wG rfl rfl (wX rfl rfl rfl rfl (qC (by omega) (by omega)) rfl) rfl ?_ | refine wF wI rfl rfl ?_ | refine wJ ?_ | refine wC ?_ | refine qA ?_ | refine wL rfl ?_)
    refine ⟨(k+1,L3),⟨hk,hM2,?_⟩,by dsimp only; omega,rfl,rfl,rfl,rfl,rfl,⟨_,rfl⟩,rfl,rfl,rfl,rfl,rfl,trivial⟩
    rw [hM3,← hcA,stepG_col]
  ·have hke:k=c:=by omega
   subst hke
   repeat (first | refine wQ wB rfl rfl rfl rfl ?_ | refine wG rfl rfl (wH rfl rfl rfl rfl (decide_eq_false (by omega)) rfl) rfl ?_ | refine wG rfl rfl (wX rfl rfl rfl rfl (qC (by omega) (by omega)) rfl) rfl ?_ | refine wF wI rfl rfl ?_ | refine wJ ?_ | refine wC ?_ | refine qA ?_ | refine wL rfl ?_)
   refine ⟨(i+1,L2),⟨hi,hJ2,?_⟩,by dsimp only; omega,rfl,rfl,rfl,rfl,rfl,⟨_,rfl⟩,rfl,rfl,rfl,trivial⟩
   rw [hJ3]
   exact tabG_congr fun a _ b hb=>stepG_row A B i k a b hb
 ·have hie:i=r:=by omega
  subst hie
  have hfin:tabV L1=tabQ (mulQ A B):=tab_fin (by
   rw [hI3,hcB,hcA,eA2,hre]
   exact tabG_congr fun a ha b _=>by rw [stepG_last A B i a b ha,hcA])
  have q7:=from11_v (mulQ A B) (intOf A.1*intOf B.1).natAbs (by
   have:=Int.mul_ne_zero h00 h00'
   omega) (by
   have l1:=lm_mul (intOf A.1) (intOf B.1)
   have l3:=qL A.1 h.1
   have l4:=qL B.1 h'.1
   have l5:=h.2.1
   have l6:=h'.2.1
   refine Nat.le_trans (lm_mono (y:=intOf A.1*intOf B.1) ?_) (by omega)
   rw [Int.natAbs_natCast]
   exact Nat.le_refl _) (fun q hq=>by
   obtain ⟨a,b,rfl⟩:=mulQ_mem hq
   refine ⟨valQ_ok h h' h00 h00' a b _ (by omega),?_⟩
   rw [kJ]
   exact den_dvd' _ _ (Int.mul_ne_zero h00 h00')) (by rw [mulQ_len,eA2,hre]; exact htl) (by
   rw [mulQ_flat,eA2,hre,hcB]
   exact htc) (fun y hy=>by
   rw [mulQ_row hy,hcB]
   omega)
  rw [← hI2]
  repeat (first | refine vw_frzTabR 16 9 200 rfl rfl hfin ?_ | refine wE wB rfl rfl rfl rfl rfl rfl rfl rfl (q7) rfl rfl ?_ | refine wQ wB rfl rfl rfl rfl ?_ | refine wG rfl rfl (wH rfl rfl rfl rfl (decide_eq_false (by omega)) rfl) rfl ?_ | refine wF wI rfl rfl ?_ | refine wJ ?_ | refine wC ?_ | refine wP ?_ | refine qA ?_ | refine wL rfl ?_)
  exact ⟨.inl rfl,_,rfl,rfl⟩
end Go.Proofs.YtkjhfnhgefbhhaaGreat
/- simileref03.SameAll, simileref11.Copy, Same: told of trees. -/
namespace Go.Proofs.YtkjhfnhgefbhhaaGreat
open Go.RowKit Go.Ev Go.Vl
def okZ0 (z:Z0):Prop:=okL z.2∧z.2.length≤1099511627776
theorem take_eq {α:Type} {xs ys:List α} {j:Nat} {x y:α} (h:xs.take j=ys.take j) (hx:xs[j]? = some x) (hy:ys[j]? = some y):xs.take (j+1)=ys.take (j+1)↔x=y:=by
 rw [List.take_add_one,List.take_add_one,hx,hy,h]
 simp
set_option maxRecDepth 20000 in
set_option maxHeartbeats 1600000 in
theorem sameAll3_v (zs ws:List Z0) (h:∀ z∈zs,okZ0 z) (h':∀ z∈ws,okZ0 z) (hl:zs.length≤1099511627776) (hl':ws.length≤1099511627776):wT Tryz.prog 53 [.list (zs.map qI),.list (ws.map qI)] (fun y=>y=.bool (decide (zs=ws))):=by
 refine wK wB Tryz.func53 rfl rfl rfl rfl fun w0=>?_
 have fin:∀ {p:Prop} [Decidable p],¬ p→V.bool false=V.bool (decide p):=fun h=>by rw [decide_eq_false h]
 by_cases hne:zs.length=ws.length
 ·repeat (first | refine wG rfl rfl (wR wB rfl rfl rfl rfl rfl rfl (zc_len _) rfl) rfl ?_ | refine wQ wB rfl rfl rfl rfl ?_ | refine wG rfl rfl (wH rfl rfl rfl rfl (ndF (by omega)) rfl) rfl ?_ | refine wF wI rfl rfl ?_ | refine wJ ?_ | refine wM ?_ | refine wC ?_ | refine wO ?_ | refine wL rfl ?_)
  refine qF (fun j:Nat=>[(0,some (.sv (.v (.list (zs.map qI))))),(2,some (.sv (.v (.list (ws.map qI))))),(24,some (.sv (.v (.int .i64 (zs.length:Nat))))),(26,some (.sv (.v (.int .i64 (j:Nat)))))])
   (fun j=>j≤zs.length∧zs.take j=ws.take j) (fun j=>zs.length - j) 0 (fun _=>rfl) ⟨Nat.zero_le _,rfl⟩ ⟨rfl,rfl,rfl,rfl,trivial⟩ fun j hI=>?_
  obtain ⟨hJ,ht⟩:=hI
  rcases Nat.lt_or_ge j zs.length with hj | hj
  ·obtain ⟨z,hz⟩:∃ z,zs[j]? = some z:=⟨_,List.getElem?_eq_getElem hj⟩
   obtain ⟨u,hu⟩:∃ u,ws[j]? = some u:=⟨_,List.getElem?_eq_getElem (by omega)⟩
   have hg:=zc_at zs j z hz
   have hg2:=zc_at ws j u hu
   have oz:=h z (List.mem_of_getElem? hz)
   have ou:=h' u (List.mem_of_getElem? hu)
   have q1:=same3_v z u oz.1 ou.1 oz.2
   have hte:=take_eq ht hz hu
   by_cases he:z=u
   ·rw [decide_eq_true he] at q1
    repeat (first | refine wQ wB rfl rfl rfl rfl ?_ | refine wG rfl rfl (wU wB rfl rfl rfl (i:=j) rfl rfl rfl hg rfl rfl) rfl ?_ | refine wG rfl rfl (wU wB rfl rfl rfl (i:=j) rfl rfl rfl hg2 rfl rfl) rfl ?_ | refine wE wB rfl rfl rfl rfl rfl rfl rfl rfl (q1) rfl rfl ?_ | refine wG rfl rfl (wH rfl rfl rfl rfl (decide_eq_true (by omega)) rfl) rfl ?_ | refine wG rfl rfl (wX rfl rfl rfl rfl (qC (by omega) (by omega)) rfl) rfl ?_ | refine wF wI rfl rfl ?_ | refine wJ ?_ | refine wM ?_ | refine wC ?_ | refine wO ?_ | refine wN rfl ?_ | refine wL rfl ?_)
    exact ⟨j+1,⟨hj,hte.2 he⟩,by omega,rfl,rfl,rfl,rfl,trivial⟩
   ·rw [decide_eq_false he] at q1
    repeat (first | refine wQ wB rfl rfl rfl rfl ?_ | refine wG rfl rfl (wU wB rfl rfl rfl (i:=j) rfl rfl rfl hg rfl rfl) rfl ?_ | refine wG rfl rfl (wU wB rfl rfl rfl (i:=j) rfl rfl rfl hg2 rfl rfl) rfl ?_ | refine wE wB rfl rfl rfl rfl rfl rfl rfl rfl (q1) rfl rfl ?_ | refine wG rfl rfl (wH rfl rfl rfl rfl (decide_eq_true (by omega)) rfl) rfl ?_ | refine wF wI rfl rfl ?_ | refine wJ ?_ | refine wM ?_ | refine wC ?_ | refine wP ?_ | refine wO ?_ | refine wN rfl ?_)
    exact ⟨.inl rfl,_,rfl,fin fun hh=>he (by rw [hh,hu] at hz; cases hz; rfl)⟩
  ·have hje:j=zs.length:=by omega
   subst hje
   repeat (first | refine wQ wB rfl rfl rfl rfl ?_ | refine wG rfl rfl (wH rfl rfl rfl rfl (decide_eq_false (by omega)) rfl) rfl ?_ | refine wF wI rfl rfl ?_ | refine wJ ?_ | refine wC ?_ | refine wP ?_ | refine qA ?_ | refine wL rfl ?_)
   refine ⟨.inl rfl,_,rfl,?_⟩
   rw [List.take_length] at ht
   rw [decide_eq_true]
   rw [ht,hne,List.take_length]
 ·repeat (first | refine wG rfl rfl (wR wB rfl rfl rfl rfl rfl rfl (zc_len _) rfl) rfl ?_ | refine wQ wB rfl rfl rfl rfl ?_ | refine wG rfl rfl (wH rfl rfl rfl rfl (ndT (by omega)) rfl) rfl ?_ | refine wF wI rfl rfl ?_ | refine wJ ?_ | refine wC ?_ | refine wP ?_ | refine wN rfl ?_)
  exact ⟨.inl rfl,_,rfl,fin fun hh=>hne (by rw [hh])⟩
def okM0 (m:M0):Prop:=okZ0 m.1∧(∀ r∈m.2,r.length≤1099511627776∧∀ z∈r,okZ0 z)∧m.2.length≤1099511627776
set_option maxRecDepth 20000 in
set_option maxHeartbeats 3200000 in
theorem same11_aux (x x':Bool) (l l':List Nat) (t t':List (List Z0)) (h:okM0 ((x,l),t)) (h':okM0 ((x',l'),t')):wT Tryz.prog 15 [.agg [.bool x,vL l,tV t],.agg [.bool x',vL l',tV t']] (fun y=>y=.bool (decide (((x,l),t)=((x',l'),t')))):=by
 refine wK wB Tryz.func15 rfl rfl rfl rfl fun w0=>?_
 have fin:∀ {p:Prop} [Decidable p],¬ p→V.bool false=V.bool (decide p):=fun h=>by rw [decide_eq_false h]
 obtain ⟨h1,h2,h3⟩:=h
 obtain ⟨g1,g2,g3⟩:=h'
 dsimp only at h1 h2 h3 g1 g2 g3
 have q1:=same3_v (x,l) (x',l') h1.1 g1.1 h1.2
 have hp:((x,l),t)=((x',l'),t')↔(x,l)=(x',l')∧t=t':=by simp
 by_cases hd:(x,l)=(x',l')
 ·rw [decide_eq_true hd] at q1
  by_cases hne:t.length=t'.length
  ·repeat (first | refine wG rfl rfl (wR wB rfl rfl rfl rfl rfl rfl (zY _) rfl) rfl ?_ | refine wQ wB rfl rfl rfl rfl ?_ | refine wE wB rfl rfl rfl rfl rfl rfl rfl rfl (q1) rfl rfl ?_ | refine wG rfl rfl (wH rfl rfl rfl rfl (ndF (by omega)) rfl) rfl ?_ | refine wF wI rfl rfl ?_ | refine wJ ?_ | refine wM ?_ | refine wC ?_ | refine wO ?_ | refine wL rfl ?_)
   refine qF (fun j:Nat=>[(4,some (.sv (.bx 2 0))),(5,some (.bx [.v (.bool x),.v (vL l),.v (tV t)])),(6,some (.sv (.bx 3 0))),(7,some (.bx [.v (.bool x'),.v (vL l'),.v (tV t')])),(46,some (.sv (.v (.int .i64 (t.length:Nat))))),(48,some (.sv (.v (.int .i64 (j:Nat)))))])
    (fun j=>j≤t.length∧t.take j=t'.take j) (fun j=>t.length - j) 0 (fun _=>rfl) ⟨Nat.zero_le _,rfl⟩ ⟨rfl,rfl,rfl,rfl,rfl,rfl,trivial⟩ fun j hI=>?_
   obtain ⟨hJ,ht⟩:=hI
   rcases Nat.lt_or_ge j t.length with hj | hj
   ·obtain ⟨z,hz⟩:∃ z,t[j]? = some z:=⟨_,List.getElem?_eq_getElem hj⟩
    obtain ⟨u,hu⟩:∃ u,t'[j]? = some u:=⟨_,List.getElem?_eq_getElem (by omega)⟩
    have hg:=tv_at t j z hz
    have hg2:=tv_at t' j u hu
    have oz:=h2 z (List.mem_of_getElem? hz)
    have ou:=g2 u (List.mem_of_getElem? hu)
    have q2:=sameAll3_v z u oz.2 ou.2 oz.1 ou.1
    have hte:=take_eq ht hz hu
    by_cases he:z=u
    ·rw [decide_eq_true he] at q2
     repeat (first | refine wQ wB rfl rfl rfl rfl ?_ | refine wG rfl rfl (wU wB rfl rfl rfl (i:=j) rfl rfl rfl hg rfl rfl) rfl ?_ | refine wG rfl rfl (wU wB rfl rfl rfl (i:=j) rfl rfl rfl hg2 rfl rfl) rfl ?_ | refine wE wB rfl rfl rfl rfl rfl rfl rfl rfl (q2) rfl rfl ?_ | refine wG rfl rfl (wH rfl rfl rfl rfl (decide_eq_true (by omega)) rfl) rfl ?_ | refine wG rfl rfl (wX rfl rfl rfl rfl (qC (by omega) (by omega)) rfl) rfl ?_ | refine wF wI rfl rfl ?_ | refine wJ ?_ | refine wM ?_ | refine wC ?_ | refine wO ?_ | refine wN rfl ?_ | refine wL rfl ?_)
     exact ⟨j+1,⟨hj,hte.2 he⟩,by omega,rfl,rfl,rfl,rfl,rfl,rfl,trivial⟩
    ·rw [decide_eq_false he] at q2
     repeat (first | refine wQ wB rfl rfl rfl rfl ?_ | refine wG rfl rfl (wU wB rfl rfl rfl (i:=j) rfl rfl rfl hg rfl rfl) rfl ?_ | refine wG rfl rfl (wU wB rfl rfl rfl (i:=j) rfl rfl rfl hg2 rfl rfl) rfl ?_ | refine wE wB rfl rfl rfl rfl rfl rfl rfl rfl (q2) rfl rfl ?_ | refine wG rfl rfl (wH rfl rfl rfl rfl (decide_eq_true (by omega)) rfl) rfl ?_ | refine wF wI rfl rfl ?_ | refine wJ ?_ | refine wM ?_ | refine wC ?_ | refine wP ?_ | refine wO ?_ | refine wN rfl ?_)
     exact ⟨.inl rfl,_,rfl,fin fun hh=>he (by
      have:=(hp.1 hh).2
      rw [this,hu] at hz; cases hz; rfl)⟩
   ·have hje:j=t.length:=by omega
    subst hje
    repeat (first | refine wQ wB rfl rfl rfl rfl ?_ | refine wG rfl rfl (wH rfl rfl rfl rfl (decide_eq_false (by omega)) rfl) rfl ?_ | refine wF wI rfl rfl ?_ | refine wJ ?_ | refine wC ?_ | refine wP ?_ | refine qA ?_ | refine wL rfl ?_)
    refine ⟨.inl rfl,_,rfl,?_⟩
    rw [List.take_length] at ht
    rw [decide_eq_true]
    rw [hp]
    exact ⟨hd,by rw [ht,hne,List.take_length]⟩
  ·repeat (first | refine wG rfl rfl (wR wB rfl rfl rfl rfl rfl rfl (zY _) rfl) rfl ?_ | refine wQ wB rfl rfl rfl rfl ?_ | refine wE wB rfl rfl rfl rfl rfl rfl rfl rfl (q1) rfl rfl ?_ | refine wG rfl rfl (wH rfl rfl rfl rfl (ndT (by omega)) rfl) rfl ?_ | refine wF wI rfl rfl ?_ | refine wJ ?_ | refine wC ?_ | refine wP ?_ | refine wN rfl ?_)
   exact ⟨.inl rfl,_,rfl,fin fun hh=>hne (by rw [(hp.1 hh).2])⟩
 ·rw [decide_eq_false hd] at q1
  repeat (first | refine wQ wB rfl rfl rfl rfl ?_ | refine wE wB rfl rfl rfl rfl rfl rfl rfl rfl (q1) rfl rfl ?_ | refine rr_no rfl rfl rfl rfl rfl rfl ?_ | refine wF wI rfl rfl ?_ | refine wJ ?_ | refine wC ?_ | refine wP ?_ | refine wN rfl ?_)
  exact ⟨.inl rfl,_,rfl,fin fun hh=>hd (hp.1 hh).1⟩
theorem same11_v (m m':M0) (h:okM0 m) (h':okM0 m'):wT Tryz.prog 15 [mV m,mV m'] (fun y=>y=.bool (decide (m=m'))):=same11_aux m.1.1 m'.1.1 m.1.2 m'.1.2 m.2 m'.2 h h'
set_option maxRecDepth 20000 in
set_option maxHeartbeats 3200000 in
theorem copy11_aux (x:Bool) (l:List Nat) (t:List (List Z0)) (h:okM0 ((x,l),t)):wT Tryz.prog 13 [.agg [.bool x,vL l,tV t]] (fun y=>y=.agg [.bool x,vL l,tV t]):=by
 refine wK wB Tryz.func13 rfl rfl rfl rfl fun w0=>?_
 obtain ⟨h1,h2,h3⟩:=h
 dsimp only at h1 h2 h3
 have q1:=copy3_v (x,l) h1.2
 repeat (first | refine wG rfl rfl (sem_buildN wB rfl rfl rfl rfl rfl rfl rfl rfl rfl) rfl ?_ | refine wG rfl rfl (wR wB rfl rfl rfl rfl rfl rfl (zY _) rfl) rfl ?_ | refine wE wB rfl rfl rfl rfl rfl rfl rfl rfl (q1) rfl rfl ?_ | refine wQ wB rfl rfl rfl rfl ?_ | refine wF wI rfl rfl ?_ | refine wJ ?_ | refine wM ?_ | refine wC ?_)
 refine vw_nilOwnR 3 2 1 77 rfl rfl rfl ?_
 refine qF (fun j:Nat=>[(2,some (.sv (.bx 1 0))),(3,some (.bx [.v (.bool x),.v (vL l),.v (tV t)])),(4,some (.sv (.bx 2 0))),(5,some (.bx [.v (.bool false),.nils,.nils])),(6,some (.sv (.bx 3 0))),(7,some (.bx [.v (.bool x),.v (vL l),.own 0 77 1 (tabV' (t.take j))])),(22,some (.sv (.v (tV t)))),(24,some (.sv (.v (.int .i64 (t.length:Nat))))),(26,some (.sv (.v (.int .i64 (j:Nat)))))])
  (fun j=>j≤t.length) (fun j=>t.length - j) 0 (fun _=>rfl) (Nat.zero_le _) ⟨rfl,rfl,rfl,rfl,rfl,rfl,rfl,rfl,rfl,trivial⟩ fun j hJ=>?_
 rcases Nat.lt_or_ge j t.length with hj | hj
 ·obtain ⟨z,hz⟩:∃ z,t[j]? = some z:=⟨_,List.getElem?_eq_getElem hj⟩
  have hg:=tv_at t j z hz
  have oz:=h2 z (List.mem_of_getElem? hz)
  have q2:=copyAll3_v z (fun w hw=>(oz.2 w hw).2) oz.1
  have hs:tabV' (t.take j)++[[V.list (z.map qI)]]=tabV' (t.take (j+1)):=by
   rw [List.take_add_one,hz]
   unfold tabV'
   simp
  have hlen:(tabV' (t.take j)).length=j:=by rw [zY,List.length_take]; omega
  have row1:∀ e∈[[V.list (z.map qI)]],e.length=1:=fun e h=>by rw [List.mem_singleton.1 h]; rfl
  repeat (first | refine wQ wB rfl rfl rfl rfl ?_ | refine wG rfl rfl (wU wB rfl rfl rfl (i:=j) rfl rfl rfl hg rfl rfl) rfl ?_ | refine wE wB rfl rfl rfl rfl rfl rfl rfl rfl (q2) rfl rfl ?_ | refine kE rfl rfl rfl (qT (id:=7002) (es2:=[[V.list (z.map qI)]]) (m:=1) (bb:=24) wB rfl rfl rfl rfl rfl rfl rfl rfl rfl rfl rfl row1 rfl (by simp only [maxLen,List.length_singleton]; omega) (by simp only [List.length_singleton]; omega) rfl rfl hs) rfl ?_ | refine wG rfl rfl (wH rfl rfl rfl rfl (decide_eq_true (by omega)) rfl) rfl ?_ | refine wG rfl rfl (wX rfl rfl rfl rfl (qC (by omega) (by omega)) rfl) rfl ?_ | refine wF wI rfl rfl ?_ | refine wJ ?_ | refine wM ?_ | refine wC ?_ | refine wO ?_ | refine wN rfl ?_)
  exact ⟨j+1,hj,by omega,rfl,rfl,rfl,rfl,rfl,rfl,rfl,rfl,rfl,trivial⟩
 ·have hje:j=t.length:=by omega
  subst hje
  rw [List.take_length]
  repeat (first | refine wQ wB rfl rfl rfl rfl ?_ | refine wG rfl rfl (wH rfl rfl rfl rfl (decide_eq_false (by omega)) rfl) rfl ?_ | refine rr_vfx wB [.tmp 3] rfl rfl rfl rfl rfl ?_ | refine wF wI rfl rfl ?_ | refine wJ ?_ | refine wC ?_ | refine wP ?_ | refine qA ?_ | refine wL rfl ?_)
  exact ⟨.inl rfl,_,rfl,rfl⟩
end Go.Proofs.YtkjhfnhgefbhhaaGreat
