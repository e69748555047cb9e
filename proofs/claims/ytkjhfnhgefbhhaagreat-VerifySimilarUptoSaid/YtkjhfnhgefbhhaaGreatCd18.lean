/- The iterators over a grid's entries, told of trees. -/
import Derived.Test.YtkjhfnhgefbhhaaGreatCd07
import Derived.Test.YtkjhfnhgefbhhaaGreatCd17
import Derived.Test.YtkjhfnhgefbhhaaGreatCd12
set_option linter.all false
namespace Go.Proofs.YtkjhfnhgefbhhaaGreat
open Go.RowKit Go.Ev Go.Vl
def gridV (rows:List (List (List V))):V:=.list (rows.map fun r=>[V.list r])
def gridL (rows:List (List (List V))):List (List V):=rows.flatten.map fun e=>[V.agg e]
theorem gridV_len (rows:List (List (List V))):(rows.map fun r=>[V.list r]).length=rows.length:=List.length_map ..
theorem gridV_at (rows:List (List (List V))) (j:Nat) (r:List (List V)) (h:rows[j]? = some r):(rows.map fun r=>[V.list r])[j]? = some [V.list r]:=by rw [List.getElem?_map,h]; rfl
theorem flat_at {α:Type}:∀ (rows:List (List α)) (i j:Nat) (r:List α) (e:α),rows[i]? = some r→r[j]? = some e→rows.flatten[(rows.take i).flatten.length+j]? = some e
 | [],i,j,r,e,h,_=>by simp at h
 | q :: rows,0,j,r,e,h,h2=>by
  simp only [List.getElem?_cons_zero,Option.some.injEq] at h
  subst h
  have:=(List.getElem?_eq_some_iff.1 h2).1
  simp only [List.take_zero,List.flatten_nil,List.length_nil,Nat.zero_add,List.flatten_cons]
  rw [List.getElem?_append_left this]
  exact h2
 | q :: rows,i+1,j,r,e,h,h2=>by
  simp only [List.getElem?_cons_succ] at h
  have ih:=flat_at rows i j r e h h2
  simp only [List.take_succ_cons,List.flatten_cons,List.length_append]
  rw [List.getElem?_append_right (by omega)]
  rw [← ih]
  congr 1
  omega
theorem flat_take1 {α:Type} (rows:List (List α)) (i:Nat) (r:List α) (h:rows[i]? = some r):(rows.take (i+1)).flatten.length=(rows.take i).flatten.length+r.length:=by
 rw [List.take_add_one,h]
 simp
theorem gridL_at (rows:List (List (List V))) (i j:Nat) (r:List (List V)) (e:List V) (h:rows[i]? = some r) (h2:r[j]? = some e):(gridL rows)[(rows.take i).flatten.length+j]? = some [V.agg e]:=by
 unfold gridL
 rw [List.getElem?_map,flat_at rows i j r e h h2]
 rfl
set_option maxRecDepth 20000 in
set_option maxHeartbeats 1600000 in
theorem eachI_v (rows:List (List (List V))) (hk:∀ r∈rows,∀ e∈r,e.length=2) (hl:rows.length≤1099511627776) (hl2:∀ r∈rows,r.length≤1099511627776):VSeq Tryz.prog 225 [] [.ref [gridV rows]] (gridL rows):=by
 refine vseq_enter Tryz.func225 rfl rfl rfl rfl fun l J hR=>?_
 refine zU ?_
 refine vi_vw hR fun w0=>?_
 repeat (first | refine wG rfl rfl (wR wB rfl rfl rfl rfl rfl rfl (gridV_len _) rfl) rfl ?_ | refine wQ wB rfl rfl rfl rfl ?_ | refine wF wI rfl rfl ?_ | refine wC ?_)
 refine ⟨_,rfl,fun _ _ h=>h,?_⟩
 refine vi_block ?_
 refine vi_loop (fun i:Nat=>[(0,some (.sv (.v (.raw (yldV l))))),(2,some (.sv (.v (.ref [gridV rows])))),(14,some (.sv (.v (gridV rows)))),(16,some (.sv (.v (.int .i64 (rows.length:Nat))))),(18,some (.sv (.v (.int .i64 (i:Nat)))))])
  (fun i=>some (rows.take i).flatten.length) (fun i=>i≤rows.length) (fun i=>rows.length - i) 0 (fun _=>rfl) (Nat.zero_le _) rfl ⟨rfl,rfl,rfl,rfl,rfl,trivial⟩ fun i hI=>?_
 refine zU ?_
 rcases Nat.lt_or_ge i rows.length with hi | hi
 ·obtain ⟨r,hr⟩:∃ r,rows[i]? = some r:=⟨_,List.getElem?_eq_getElem hi⟩
  have hg:=gridV_at rows i r hr
  have hrl:=hl2 r (List.mem_of_getElem? hr)
  have hrk:=hk r (List.mem_of_getElem? hr)
  have hn:=flat_take1 rows i r hr
  refine vi_vw hR fun w0=>?_
  repeat (first | refine wG rfl rfl (wH rfl rfl rfl rfl (decide_eq_true (by omega)) rfl) rfl ?_ | refine wF wI rfl rfl ?_ | refine wC ?_)
  refine ⟨_,rfl,fun _ _ h=>h,?_⟩
  refine zU ?_
  refine vi_cond rfl (fun _=>?_) (fun h=>by cases h)
  refine vi_skip ?_
  refine zU ?_
  refine vi_block ?_
  refine zU ?_
  refine vi_vw hR fun w0=>?_
  repeat (first | refine wQ wB rfl rfl rfl rfl ?_ | refine wG rfl rfl (wU wB rfl rfl rfl (i:=i) rfl rfl rfl hg rfl rfl) rfl ?_ | refine wF wI rfl rfl ?_ | refine wC ?_)
  refine ⟨_,rfl,fun _ _ h=>h,?_⟩
  refine zU ?_
  refine vi_vw hR fun w0=>?_
  repeat (first | refine wQ wB rfl rfl rfl rfl ?_ | refine wF wI rfl rfl ?_ | refine wC ?_)
  refine ⟨_,rfl,fun _ _ h=>h,?_⟩
  refine vi_block ?_
  refine vi_loop (fun j:Nat=>[(0,some (.sv (.v (.raw (yldV l))))),(2,some (.sv (.v (.ref [gridV rows])))),(14,some (.sv (.v (gridV rows)))),(16,some (.sv (.v (.int .i64 (rows.length:Nat))))),(18,some (.sv (.v (.int .i64 (i:Nat))))),(26,some (.sv (.v (.list r)))),(28,some (.sv (.v (.int .i64 (r.length:Nat))))),(30,some (.sv (.v (.int .i64 (j:Nat)))))])
   (fun j=>some ((rows.take i).flatten.length+j)) (fun j=>j≤r.length) (fun j=>r.length - j) 0 (fun _=>rfl) (Nat.zero_le _) rfl ⟨rfl,rfl,rfl,rfl,rfl,rfl,rfl,rfl,trivial⟩ fun j hJ=>?_
  refine zU ?_
  rcases Nat.lt_or_ge j r.length with hj | hj
  ·obtain ⟨e,he⟩:∃ e,r[j]? = some e:=⟨_,List.getElem?_eq_getElem hj⟩
   have hek:=hrk e (List.mem_of_getElem? he)
   have hL:=gridL_at rows i j r e hr he
   refine vi_vw hR fun w0=>?_
   repeat (first | refine wG rfl rfl (wH rfl rfl rfl rfl (decide_eq_true (by omega)) rfl) rfl ?_ | refine wF wI rfl rfl ?_ | refine wC ?_)
   refine ⟨_,rfl,fun _ _ h=>h,?_⟩
   refine zU ?_
   refine vi_cond rfl (fun _=>?_) (fun h=>by cases h)
   refine vi_skip ?_
   refine zU ?_
   refine vi_block ?_
   refine zU ?_
   match e,hek,he,hL with
   | [x,y],_,he,hL =>
   refine vi_vw hR fun w0=>?_
   repeat (first | refine wQ wB rfl rfl rfl rfl ?_ | refine wG rfl rfl (wU wB rfl rfl rfl (i:=j) rfl rfl rfl he rfl rfl) rfl ?_ | refine wF wI rfl rfl ?_ | refine wC ?_)
   refine ⟨[(0,some (.sv (.v (.raw (yldV l))))),(2,some (.sv (.v (.ref [gridV rows])))),(12,some (.sv (.v (.ref [x,y])))),(14,some (.sv (.v (gridV rows)))),(16,some (.sv (.v (.int .i64 (rows.length:Nat))))),(18,some (.sv (.v (.int .i64 (i:Nat))))),(26,some (.sv (.v (.list r)))),(28,some (.sv (.v (.int .i64 (r.length:Nat))))),(30,some (.sv (.v (.int .i64 (j:Nat)))))],rfl,imp_frz [.tmp 6] rfl ⟨rfl,rfl,rfl,rfl,rfl,rfl,rfl,rfl,rfl,trivial⟩,?_⟩
   refine zU ?_
   refine vi_si ?_
   refine si_v wB hR rfl rfl rfl rfl rfl rfl ?_
   refine si_v wB hR rfl rfl rfl rfl rfl rfl ?_
   refine si_yield hR rfl rfl rfl rfl rfl rfl hL rfl rfl rfl ?_ ?_
   ·refine si_v wB hR rfl rfl rfl rfl rfl rfl ?_
    refine si_done rfl ?_
    refine vi_cond rfl (fun h=>by cases h) (fun _=>?_)
    refine vi_skip ?_
    refine vi_vw hR fun w0=>?_
    repeat (first | refine wQ wB rfl rfl rfl rfl ?_ | refine wG rfl rfl (wX rfl rfl rfl rfl (qC (by omega) (by omega)) rfl) rfl ?_ | refine wF wI rfl rfl ?_ | refine wC ?_)
    refine ⟨_,rfl,fun _ _ h=>h,?_⟩
    exact ⟨j+1,hj,by omega,rfl,rfl,rfl,rfl,rfl,rfl,rfl,rfl,rfl,trivial⟩
   ·refine si_v wB hR rfl rfl rfl rfl rfl rfl ?_
    refine si_done rfl ?_
    refine vi_cond rfl (fun _=>?_) (fun h=>by cases h)
    refine vi_ret ?_
    exact ⟨.inl rfl,.inr rfl⟩
  ·refine vi_vw hR fun w0=>?_
   repeat (first | refine wG rfl rfl (wH rfl rfl rfl rfl (decide_eq_false (by omega)) rfl) rfl ?_ | refine wF wI rfl rfl ?_ | refine wC ?_)
   refine ⟨_,rfl,fun _ _ h=>h,?_⟩
   refine zU ?_
   refine vi_cond rfl (fun h=>by cases h) (fun _=>?_)
   refine vi_exit ?_
   refine vi_vw hR fun w0=>?_
   repeat (first | refine wQ wB rfl rfl rfl rfl ?_ | refine wG rfl rfl (wX rfl rfl rfl rfl (qC (by omega) (by omega)) rfl) rfl ?_ | refine wF wI rfl rfl ?_ | refine wC ?_)
   refine ⟨_,rfl,fun _ _ h=>h,?_⟩
   have hje:j=r.length:=by omega
   subst hje
   exact ⟨i+1,hi,by omega,by rw [hn],rfl,rfl,rfl,rfl,rfl,trivial⟩
 ·refine vi_vw hR fun w0=>?_
  repeat (first | refine wG rfl rfl (wH rfl rfl rfl rfl (decide_eq_false (by omega)) rfl) rfl ?_ | refine wF wI rfl rfl ?_ | refine wC ?_)
  refine ⟨_,rfl,fun _ _ h=>h,?_⟩
  refine zU ?_
  refine vi_cond rfl (fun h=>by cases h) (fun _=>?_)
  refine vi_exit ?_
  have hie:i=rows.length:=by omega
  subst hie
  refine ⟨.inr rfl,.inl ?_⟩
  unfold gridL
  rw [List.take_length,List.length_map]
set_option maxRecDepth 20000 in
set_option maxHeartbeats 1600000 in
theorem eachR_v (rows:List (List (List V))) (hk:∀ r∈rows,∀ e∈r,e.length=4) (hl:rows.length≤1099511627776) (hl2:∀ r∈rows,r.length≤1099511627776):VSeq Tryz.prog 167 [] [.ref [gridV rows]] (gridL rows):=by
 refine vseq_enter Tryz.func167 rfl rfl rfl rfl fun l J hR=>?_
 refine zU ?_
 refine vi_vw hR fun w0=>?_
 repeat (first | refine wG rfl rfl (wR wB rfl rfl rfl rfl rfl rfl (gridV_len _) rfl) rfl ?_ | refine wQ wB rfl rfl rfl rfl ?_ | refine wF wI rfl rfl ?_ | refine wC ?_)
 refine ⟨_,rfl,fun _ _ h=>h,?_⟩
 refine vi_block ?_
 refine vi_loop (fun i:Nat=>[(0,some (.sv (.v (.raw (yldV l))))),(2,some (.sv (.v (.ref [gridV rows])))),(14,some (.sv (.v (gridV rows)))),(16,some (.sv (.v (.int .i64 (rows.length:Nat))))),(18,some (.sv (.v (.int .i64 (i:Nat)))))])
  (fun i=>some (rows.take i).flatten.length) (fun i=>i≤rows.length) (fun i=>rows.length - i) 0 (fun _=>rfl) (Nat.zero_le _) rfl ⟨rfl,rfl,rfl,rfl,rfl,trivial⟩ fun i hI=>?_
 refine zU ?_
 rcases Nat.lt_or_ge i rows.length with hi | hi
 ·obtain ⟨r,hr⟩:∃ r,rows[i]? = some r:=⟨_,List.getElem?_eq_getElem hi⟩
  have hg:=gridV_at rows i r hr
  have hrl:=hl2 r (List.mem_of_getElem? hr)
  have hrk:=hk r (List.mem_of_getElem? hr)
  have hn:=flat_take1 rows i r hr
  refine vi_vw hR fun w0=>?_
  repeat (first | refine wG rfl rfl (wH rfl rfl rfl rfl (decide_eq_true (by omega)) rfl) rfl ?_ | refine wF wI rfl rfl ?_ | refine wC ?_)
  refine ⟨_,rfl,fun _ _ h=>h,?_⟩
  refine zU ?_
  refine vi_cond rfl (fun _=>?_) (fun h=>by cases h)
  refine vi_skip ?_
  refine zU ?_
  refine vi_block ?_
  refine zU ?_
  refine vi_vw hR fun w0=>?_
  repeat (first | refine wQ wB rfl rfl rfl rfl ?_ | refine wG rfl rfl (wU wB rfl rfl rfl (i:=i) rfl rfl rfl hg rfl rfl) rfl ?_ | refine wF wI rfl rfl ?_ | refine wC ?_)
  refine ⟨_,rfl,fun _ _ h=>h,?_⟩
  refine zU ?_
  refine vi_vw hR fun w0=>?_
  repeat (first | refine wQ wB rfl rfl rfl rfl ?_ | refine wF wI rfl rfl ?_ | refine wC ?_)
  refine ⟨_,rfl,fun _ _ h=>h,?_⟩
  refine vi_block ?_
  refine vi_loop (fun j:Nat=>[(0,some (.sv (.v (.raw (yldV l))))),(2,some (.sv (.v (.ref [gridV rows])))),(14,some (.sv (.v (gridV rows)))),(16,some (.sv (.v (.int .i64 (rows.length:Nat))))),(18,some (.sv (.v (.int .i64 (i:Nat))))),(26,some (.sv (.v (.list r)))),(28,some (.sv (.v (.int .i64 (r.length:Nat))))),(30,some (.sv (.v (.int .i64 (j:Nat)))))])
   (fun j=>some ((rows.take i).flatten.length+j)) (fun j=>j≤r.length) (fun j=>r.length - j) 0 (fun _=>rfl) (Nat.zero_le _) rfl ⟨rfl,rfl,rfl,rfl,rfl,rfl,rfl,rfl,trivial⟩ fun j hJ=>?_
  refine zU ?_
  rcases Nat.lt_or_ge j r.length with hj | hj
  ·obtain ⟨e,he⟩:∃ e,r[j]? = some e:=⟨_,List.getElem?_eq_getElem hj⟩
   have hek:=hrk e (List.mem_of_getElem? he)
   have hL:=gridL_at rows i j r e hr he
   refine vi_vw hR fun w0=>?_
   repeat (first | refine wG rfl rfl (wH rfl rfl rfl rfl (decide_eq_true (by omega)) rfl) rfl ?_ | refine wF wI rfl rfl ?_ | refine wC ?_)
   refine ⟨_,rfl,fun _ _ h=>h,?_⟩
   refine zU ?_
   refine vi_cond rfl (fun _=>?_) (fun h=>by cases h)
   refine vi_skip ?_
   refine zU ?_
   refine vi_block ?_
   refine zU ?_
   match e,hek,he,hL with
   | [x,y,z,u],_,he,hL =>
   refine vi_vw hR fun w0=>?_
   repeat (first | refine wQ wB rfl rfl rfl rfl ?_ | refine wG rfl rfl (wU wB rfl rfl rfl (i:=j) rfl rfl rfl he rfl rfl) rfl ?_ | refine wF wI rfl rfl ?_ | refine wC ?_)
   refine ⟨[(0,some (.sv (.v (.raw (yldV l))))),(2,some (.sv (.v (.ref [gridV rows])))),(12,some (.sv (.v (.ref [x,y,z,u])))),(14,some (.sv (.v (gridV rows)))),(16,some (.sv (.v (.int .i64 (rows.length:Nat))))),(18,some (.sv (.v (.int .i64 (i:Nat))))),(26,some (.sv (.v (.list r)))),(28,some (.sv (.v (.int .i64 (r.length:Nat))))),(30,some (.sv (.v (.int .i64 (j:Nat)))))],rfl,imp_frz [.tmp 6] rfl ⟨rfl,rfl,rfl,rfl,rfl,rfl,rfl,rfl,rfl,trivial⟩,?_⟩
   refine zU ?_
   refine vi_si ?_
   refine si_v wB hR rfl rfl rfl rfl rfl rfl ?_
   refine si_v wB hR rfl rfl rfl rfl rfl rfl ?_
   refine si_yield hR rfl rfl rfl rfl rfl rfl hL rfl rfl rfl ?_ ?_
   ·refine si_v wB hR rfl rfl rfl rfl rfl rfl ?_
    refine si_done rfl ?_
    refine vi_cond rfl (fun h=>by cases h) (fun _=>?_)
    refine vi_skip ?_
    refine vi_vw hR fun w0=>?_
    repeat (first | refine wQ wB rfl rfl rfl rfl ?_ | refine wG rfl rfl (wX rfl rfl rfl rfl (qC (by omega) (by omega)) rfl) rfl ?_ | refine wF wI rfl rfl ?_ | refine wC ?_)
    refine ⟨_,rfl,fun _ _ h=>h,?_⟩
    exact ⟨j+1,hj,by omega,rfl,rfl,rfl,rfl,rfl,rfl,rfl,rfl,rfl,trivial⟩
   ·refine si_v wB hR rfl rfl rfl rfl rfl rfl ?_
    refine si_done rfl ?_
    refine vi_cond rfl (fun _=>?_) (fun h=>by cases h)
    refine vi_ret ?_
    exact ⟨.inl rfl,.inr rfl⟩
  ·refine vi_vw hR fun w0=>?_
   repeat (first | refine wG rfl rfl (wH rfl rfl rfl rfl (decide_eq_false (by omega)) rfl) rfl ?_ | refine wF wI rfl rfl ?_ | refine wC ?_)
   refine ⟨_,rfl,fun _ _ h=>h,?_⟩
   refine zU ?_
   refine vi_cond rfl (fun h=>by cases h) (fun _=>?_)
   refine vi_exit ?_
   refine vi_vw hR fun w0=>?_
   repeat (first | refine wQ wB rfl rfl rfl rfl ?_ | refine wG rfl rfl (wX rfl rfl rfl rfl (qC (by omega) (by omega)) rfl) rfl ?_ | refine wF wI rfl rfl ?_ | refine wC ?_)
   refine ⟨_,rfl,fun _ _ h=>h,?_⟩
   have hje:j=r.length:=by omega
   subst hje
   exact ⟨i+1,hi,by omega,by rw [hn],rfl,rfl,rfl,rfl,rfl,trivial⟩
 ·refine vi_vw hR fun w0=>?_
  repeat (first | refine wG rfl rfl (wH rfl rfl rfl rfl (decide_eq_false (by omega)) rfl) rfl ?_ | refine wF wI rfl rfl ?_ | refine wC ?_)
  refine ⟨_,rfl,fun _ _ h=>h,?_⟩
  refine zU ?_
  refine vi_cond rfl (fun h=>by cases h) (fun _=>?_)
  refine vi_exit ?_
  have hie:i=rows.length:=by omega
  subst hie
  refine ⟨.inr rfl,.inl ?_⟩
  unfold gridL
  rw [List.take_length,List.length_map]
end Go.Proofs.YtkjhfnhgefbhhaaGreat
/- qmat.made: a matrix in normal form. Told of trees. -/
namespace Go.Proofs.YtkjhfnhgefbhhaaGreat
open Go.RowKit Go.Ev Go.Vl
theorem foldG_dvd:∀ (zs:List ZZ) (x:Int),foldG zs x∣x∧∀ z∈zs,foldG zs x∣intOf z
 | [],x=>⟨Int.dvd_refl x,by simp⟩
 | z :: zs,x=>by
  obtain ⟨h1,h2⟩:=foldG_dvd zs ((Int.gcd x (intOf z):Nat):Int)
  have e:foldG (z :: zs) x=foldG zs ((Int.gcd x (intOf z):Nat):Int):=rfl
  rw [e]
  exact ⟨Int.dvd_trans h1 (Int.gcd_dvd_left ..),fun q hq=>by
   rcases List.mem_cons.1 hq with rfl | hq
   ·exact Int.dvd_trans h1 (Int.gcd_dvd_right ..)
   ·exact h2 q hq⟩
def gcdT (t:List (List ZZ)):Int:=foldG t.flatten 0
def madeS (d:ZZ) (t:List (List ZZ)):Int :=
 let g:=if gcdT t=0 then ((intOf d).natAbs:Int) else (Int.gcd (gcdT t) (intOf d):Nat)
 if intOf d<0 then -g else g
def madeM (d:ZZ) (t:List (List ZZ)):MM:=(zn (if qB t=0 then 1 else (intOf d).tdiv (madeS d t)),t.map fun r=>r.map fun x=>zn ((intOf x).tdiv (madeS d t)))
def madeG (d:ZZ) (t:List (List ZZ)):Int:=if gcdT t=0 then ((intOf d).natAbs:Int) else (Int.gcd (gcdT t) (intOf d):Nat)
theorem madeG_spec (d:ZZ) (t:List (List ZZ)) (hd:intOf d≠0):0<madeG d t∧madeG d t∣intOf d∧∀ r∈t,∀ x∈r,madeG d t∣intOf x:=by
 obtain ⟨_,h2⟩:=foldG_dvd t.flatten 0
 unfold madeG
 by_cases h0:gcdT t=0
 ·rw [if_pos h0]
  refine ⟨by omega,Int.natAbs_dvd.2 (Int.dvd_refl _),fun r hr x hx=>?_⟩
  have:=h2 x (List.mem_flatten.2 ⟨r,hr,hx⟩)
  unfold gcdT at h0
  rw [h0,Int.zero_dvd] at this
  rw [this]
  exact Int.dvd_zero _
 ·rw [if_neg h0]
  refine ⟨?_,Int.gcd_dvd_right ..,fun r hr x hx=>?_⟩
  ·have:=Int.gcd_pos_of_ne_zero_right (gcdT t) hd
   omega
  ·exact Int.dvd_trans (Int.gcd_dvd_left ..) (h2 x (List.mem_flatten.2 ⟨r,hr,hx⟩))
theorem madeS_eq (d:ZZ) (t:List (List ZZ)):madeS d t=if intOf d<0 then -madeG d t else madeG d t:=rfl
theorem madeS_spec (d:ZZ) (t:List (List ZZ)) (hd:intOf d≠0):madeS d t≠0∧madeS d t∣intOf d∧∀ r∈t,∀ x∈r,madeS d t∣intOf x:=by
 obtain ⟨h1,h2,h3⟩:=madeG_spec d t hd
 rw [madeS_eq]
 split
 ·exact ⟨by omega,Int.neg_dvd.2 h2,fun r hr x hx=>Int.neg_dvd.2 (h3 r hr x hx)⟩
 ·exact ⟨by omega,h2,h3⟩
theorem gridT (t:List (List ZZ)):gridV (t.map fun r=>r.map zrow)=vT t:=by
 unfold gridV vT vZs
 rw [List.map_map]
 rfl
theorem gridTL (t:List (List ZZ)):gridL (t.map fun r=>r.map zrow)=t.flatten.map fun z=>[vI z]:=by
 unfold gridL
 rw [← List.map_flatten,List.map_map]
 rfl
set_option maxRecDepth 20000 in
set_option maxHeartbeats 1600000 in
theorem eachI2_v (rows:List (List (List V))):wT Tryz.prog 171 [gridV rows] (fun y=>y=.clo 225 [] [.ref [gridV rows]]):=by
 refine wK wB Tryz.func171 rfl rfl rfl rfl fun w0=>?_
 repeat (first | refine wQ wB rfl rfl rfl rfl ?_ | refine rr_vf wB rfl rfl rfl rfl rfl ?_ | refine wF wI rfl rfl ?_ | refine wJ ?_ | refine wC ?_ | refine wP ?_)
 exact ⟨.inl rfl,_,rfl,rfl⟩
theorem foldG2' (g:Int) (z:ZZ):foldG [zn g,z] 0=(Int.gcd g (intOf z):Nat):=by
 show (Int.gcd ((Int.gcd 0 (intOf (zn g)):Nat):Int) (intOf z):Int)=_
 rw [wS,Int.gcd_zero_left]
 unfold Int.gcd
 rw [Int.natAbs_natCast]
theorem flat_ok (t:List (List ZZ)) (ht:∀ r∈t,∀ x∈r,okZ x) (z:ZZ) (h:z∈t.flatten):okZ z:=by
 obtain ⟨r,h1,h2⟩:=List.mem_flatten.1 h
 exact ht r h1 z h2
theorem drop_cons' {α:Type} (l:List α) (j:Nat) (x:α) (h:l[j]? = some x):l.drop j=x :: l.drop (j+1):=by
 have hj:=(List.getElem?_eq_some_iff.1 h).1
 rw [List.drop_eq_getElem_cons hj]
 rw [List.getElem?_eq_getElem hj] at h
 cases h
 rfl
set_option maxRecDepth 20000 in
set_option maxHeartbeats 3200000 in
theorem made_v (d:ZZ) (t:List (List ZZ)) (hd:okZ d) (h0:intOf d≠0) (ht:∀ r∈t,∀ x∈r,okZ x) (hl:t.length≤1099511627776) (hl2:∀ r∈t,r.length≤1099511627776):wT Tryz.prog 113 [vI d,vT t] (fun y=>y=vM (madeM d t)):=by
 refine vcalls_enterM wB Tryz.func113 rfl rfl rfl rfl fun w0 hmk hro=>?_
 have q0:=eachI2_v (t.map fun r=>r.map zrow)
 rw [gridT] at q0
 have hseq:=eachI_v (t.map fun r=>r.map zrow) (fun r hr e he=>by
  obtain ⟨r',_,rfl⟩:=List.mem_map.1 hr
  obtain ⟨z,_,rfl⟩:=List.mem_map.1 he
  rfl) (by simpa using hl) (fun r hr=>by
  obtain ⟨r',h1,rfl⟩:=List.mem_map.1 hr
  simpa using hl2 r' h1)
 rw [gridTL,gridT] at hseq
 obtain ⟨x,l⟩:=d
 repeat (first | refine wQ wB rfl rfl rfl rfl ?_ | refine wE wB rfl rfl rfl rfl rfl rfl rfl rfl (q0) rfl rfl ?_ | refine wF wI rfl rfl ?_ | refine wJ ?_ | refine wM ?_ | refine wC ?_)
 refine vw_pin 2 2 rfl rfl fun u2=>?_
 refine vw_pin 4 4 rfl rfl fun u4=>?_
 refine vw_pin 5 5 rfl rfl fun u5=>?_
 refine vw_nilVB 5 1 rfl rfl rfl ?_
 refine vw_rangeFunc wB (fun b:ZZ=>[(5,some (.bx [.v (.bool x),.v (vL l)])),(9,some (.bx [.v (.bool false),.nils,.nils])),(11,some (.bx [.v (.bool b.1),.v (vL b.2)]))])
  [(2,some (.sv (.v (vT t)))),(4,some (.sv (.rp 2 u2 0))),(8,some (.sv (.rp 4 u4 0))),(10,some (.sv (.rp 5 u5 0)))]
  (fun j b=>∃ g:Int,b=zn g∧okZ b∧foldG (t.flatten.drop j) g=gcdT t) (false,[])
  (fun _ e b=>[(12,some (.sv (.bx 6 0))),(13,some (.bx (match e with | [.agg cs]=>cs.map .v | _=>[]))),(5,some (.bx [.v (.bool x),.v (vL l)])),(9,some (.bx [.v (.bool false),.nils,.nils])),(11,some (.bx [.v (.bool b.1),.v (vL b.2)])),(2,some (.sv (.v (vT t)))),(4,some (.sv (.rp 2 u2 0))),(8,some (.sv (.rp 4 u4 0))),(10,some (.sv (.rp 5 u5 0)))])
  hro hmk rfl rfl hseq rfl (fun e he=>by
   obtain ⟨z,_,rfl⟩:=List.mem_map.1 he
   rfl) rfl (fun _=>rfl) ⟨0,by simp [zn,zL],⟨(fun _ h=>by cases h),Nat.zero_le _⟩,rfl⟩ ⟨rfl,rfl,rfl,rfl,rfl,rfl,rfl,trivial⟩ (fun _ _ _=>rfl) ?_ ?_ ?_
 ·intro j e b he hI w1
  rw [List.getElem?_map] at he
  obtain ⟨z,hz,rfl⟩:=Option.map_eq_some_iff.1 he
  obtain ⟨zx,zl⟩:=z
  repeat (first | refine wQ wB rfl rfl rfl rfl ?_ | refine wF wI rfl rfl ?_ | refine wC ?_)
  exact ⟨rfl,rfl,rfl,rfl,rfl,rfl,rfl,rfl,rfl,rfl,trivial⟩
 ·intro j e b he hI w1
  rw [List.getElem?_map] at he
  obtain ⟨z,hz,rfl⟩:=Option.map_eq_some_iff.1 he
  obtain ⟨g,rfl,hgo,hg⟩:=hI
  have hzo:=flat_ok t ht z (List.mem_of_getElem? hz)
  rw [drop_cons' _ j z hz] at hg
  have hok:=okZ_gcd g z hgo hzo
  have q:=zgcdAll_v [zn g,z] (fun y hy=>by
   rcases List.mem_cons.1 hy with rfl | hy
   ·exact hgo
   ·rw [List.mem_singleton.1 hy]; exact hzo) (by show 2≤1099511627776; decide)
  rw [foldG2'] at q
  obtain ⟨zx,zl⟩:=z
  repeat (first | refine wQ wB rfl rfl rfl rfl ?_ | refine zM wB rfl rfl rfl rfl rfl rfl rfl rfl rfl (q) rfl rfl ?_ | refine wF wI rfl rfl ?_ | refine wM ?_ | refine wC ?_)
  exact ⟨rfl,zn (Int.gcd g (intOf (zx,zl)):Nat),⟨_,rfl,hok,hg⟩,rfl,rfl,rfl,rfl,rfl,rfl,rfl,trivial⟩
 ·intro b hI
  obtain ⟨g,rfl,hgo,hg⟩:=hI
  rw [List.drop_of_length_le (by rw [List.length_map]; exact Nat.le_refl _)] at hg
  have hg':g=gcdT t:=hg
  subst hg'
  have q1:=zsign_v (zn (gcdT t)) hgo
  rw [wS] at q1
  show VW _ _ _ _ _ _
  obtain ⟨hG1,hG2,hG3⟩:=madeG_spec (x,l) t h0
  obtain ⟨hS1,hS2,hS3⟩:=madeS_spec (x,l) t h0
  have hSe:=madeS_eq (x,l) t
  obtain ⟨G,hGe⟩:∃ G,madeG (x,l) t=G:=⟨_,rfl⟩
  obtain ⟨S,hSS⟩:∃ S,madeS (x,l) t=S:=⟨_,rfl⟩
  obtain ⟨D,hDe⟩:∃ D:Int,(if qB t=0 then 1 else (intOf (x,l)).tdiv S)=D:=⟨_,rfl⟩
  rw [hGe] at hG1 hG2 hG3 hSe
  rw [hSS] at hS1 hS2 hS3 hSe
  have hGo:okZ (zn G):=okZ_dvd G (intOf (x,l)) (Nat.le_of_dvd (by omega) (Int.natAbs_dvd_natAbs.2 hG2)) (okZ_norm _ hd)
  have hSo:okZ (zn S):=okZ_dvd S (intOf (x,l)) (Nat.le_of_dvd (by omega) (Int.natAbs_dvd_natAbs.2 hS2)) (okZ_norm _ hd)
  refine wJ ?_
  repeat (first | refine wQ wB rfl rfl rfl rfl ?_ | refine wG rfl rfl (wH rfl rfl rfl rfl (rfl) rfl) rfl ?_ | refine wE wB rfl rfl rfl rfl rfl rfl rfl rfl (q1) rfl rfl ?_ | refine wF wI rfl rfl ?_ | refine wJ ?_ | refine wC ?_)
  refine vw_meet (fun _:Unit=>[(5,some (.bx [.v (.bool x),.v (vL l)])),(9,some (.bx [.v (.bool false),.nils,.nils])),(11,some (.bx [.v (.bool (zn G).1),.v (vL (zn G).2)])),(2,some (.sv (.v (vT t)))),(4,some (.sv (.rp 2 u2 0))),(8,some (.sv (.rp 4 u4 0))),(10,some (.sv (.rp 5 u5 0)))]) (fun _=>True) (fun _=>rfl) ?_ fun _ _=>?_
  ·by_cases hz:gcdT t=0
   ·have hs:sgn (gcdT t)=0:=by rw [hz]; rfl
    have e:((wD l:Nat):Int)=G:=by rw [← hGe]; unfold madeG; rw [if_pos hz,zX]
    have q2:=zabs_v (x,l) hd
    dsimp only at q2
    rw [e] at q2
    generalize sgn (gcdT t)=sg at *
    subst hs
    repeat (first | refine wQ wB rfl rfl rfl rfl ?_ | refine wE wB rfl rfl rfl rfl rfl rfl rfl rfl (q2) rfl rfl ?_ | refine wF wI rfl rfl ?_ | refine wC ?_ | refine wN rfl ?_)
    exact ⟨(),trivial,rfl,rfl,rfl,rfl,rfl,rfl,rfl,trivial⟩
   ·have hs:sgn (gcdT t)≠0:=by rcases sgn_is (gcdT t) with h | h | h <;> omega
    have e:((Int.gcd (gcdT t) (intOf (x,l)):Nat):Int)=G:=by rw [← hGe]; unfold madeG; rw [if_neg hz]
    have q2:=zgcdAll_v [zn (gcdT t),(x,l)] (fun y hy=>by
     rcases List.mem_cons.1 hy with rfl | hy
     ·exact hgo
     ·rw [List.mem_singleton.1 hy]; exact hd) (by show 2≤1099511627776; decide)
    rw [foldG2',e] at q2
    rw [decide_eq_false hs]
    repeat (first | refine wQ wB rfl rfl rfl rfl ?_ | refine zM wB rfl rfl rfl rfl rfl rfl rfl rfl rfl (q2) rfl rfl ?_ | refine wF wI rfl rfl ?_ | refine wC ?_ | refine wL rfl ?_)
    exact ⟨(),trivial,rfl,rfl,rfl,rfl,rfl,rfl,rfl,trivial⟩
  have q3:=zsign_v (x,l) hd
  have q4:=zneg_v (zn G) hGo
  rw [wS] at q4
  repeat (first | refine wQ wB rfl rfl rfl rfl ?_ | refine wG rfl rfl (wH rfl rfl rfl rfl (rfl) rfl) rfl ?_ | refine wE wB rfl rfl rfl rfl rfl rfl rfl rfl (q3) rfl rfl ?_ | refine wF wI rfl rfl ?_ | refine wJ ?_ | refine wC ?_)
  refine vw_meet (fun _:Unit=>[(5,some (.bx [.v (.bool x),.v (vL l)])),(9,some (.bx [.v (.bool false),.nils,.nils])),(11,some (.bx [.v (.bool (zn S).1),.v (vL (zn S).2)])),(2,some (.sv (.v (vT t)))),(4,some (.sv (.rp 2 u2 0))),(8,some (.sv (.rp 4 u4 0))),(10,some (.sv (.rp 5 u5 0)))]) (fun _=>True) (fun _=>rfl) ?_ fun _ _=>?_
  ·by_cases hn:intOf (x,l)<0
   ·have hs:sgn (intOf (x,l))<0:=by rcases sgn_is (intOf (x,l)) with h | h | h <;> omega
    rw [if_pos hn] at hSe
    rw [← hSe] at q4
    rw [decide_eq_true hs]
    repeat (first | refine wQ wB rfl rfl rfl rfl ?_ | refine wE wB rfl rfl rfl rfl rfl rfl rfl rfl (q4) rfl rfl ?_ | refine wF wI rfl rfl ?_ | refine wC ?_ | refine wN rfl ?_)
    exact ⟨(),trivial,rfl,rfl,rfl,rfl,rfl,rfl,rfl,trivial⟩
   ·have hs:¬ sgn (intOf (x,l))<0:=by rcases sgn_is (intOf (x,l)) with h | h | h <;> omega
    rw [if_neg hn] at hSe
    subst hSe
    rw [decide_eq_false hs]
    repeat (first | refine wO ?_ | refine wL rfl ?_)
    exact ⟨(),trivial,rfl,rfl,rfl,rfl,rfl,rfl,rfl,trivial⟩
  have q5:=zexact_v (x,l) (zn S) hd hSo (by rw [wS]; exact hS1) (by rw [wS]; exact hS2)
  rw [wS] at q5
  refine vw_unpin 4 4 rfl rfl ?_
  have q6:=cols_v t hl
  have q7:=zof_v 1 (by decide)
  repeat (first | refine wG rfl rfl (sem_buildN wB rfl rfl rfl rfl rfl rfl rfl rfl rfl) rfl ?_ | refine wE wB rfl rfl rfl rfl rfl rfl rfl rfl (q5) rfl rfl ?_ | refine wE wB rfl rfl rfl rfl rfl rfl rfl rfl (q6) rfl rfl ?_ | refine wQ wB rfl rfl rfl rfl ?_ | refine wG rfl rfl (wH rfl rfl rfl rfl (rfl) rfl) rfl ?_ | refine wF wI rfl rfl ?_ | refine wJ ?_ | refine wC ?_)
  refine vw_meet (fun _:Unit=>[(5,some (.bx [.v (.bool x),.v (vL l)])),(9,some (.bx [.v (.bool false),.nils,.nils])),(11,some (.bx [.v (.bool (zn S).1),.v (vL (zn S).2)])),(2,some (.sv (.v (vT t)))),(4,some (.sv (.rp 2 u2 0))),(8,some (.sv (.bx 4 0))),(10,some (.sv (.rp 5 u5 0))),
   (14,some (.sv (.bx 7 0))),(15,some (.bx [.v (.bool (zn D).1),.v (vL (zn D).2),.v (.raw (.slice none 0 0))]))]) (fun _=>True) (fun _=>rfl) ?_ fun _ _=>?_
  ·by_cases hc:qB t=0
   ·rw [if_pos hc] at hDe
    subst hDe
    rw [decide_eq_true (show ((qB t:Nat):Int)=0 by omega)]
    repeat (first | refine wQ wB rfl rfl rfl rfl ?_ | refine wE wB rfl rfl rfl rfl rfl rfl rfl rfl (q7) rfl rfl ?_ | refine wF wI rfl rfl ?_ | refine wC ?_ | refine wN rfl ?_)
    exact ⟨(),trivial,rfl,rfl,rfl,rfl,rfl,rfl,rfl,rfl,rfl,trivial⟩
   ·rw [if_neg hc] at hDe
    subst hDe
    rw [decide_eq_false (show ¬ ((qB t:Nat):Int)=0 by omega)]
    repeat (first | refine wO ?_ | refine wL rfl ?_)
    exact ⟨(),trivial,rfl,rfl,rfl,rfl,rfl,rfl,rfl,rfl,rfl,trivial⟩
  refine vw_nilOwnR 7 2 1 77 rfl rfl rfl ?_
  repeat (first | refine wG rfl rfl (wR wB rfl rfl rfl rfl rfl rfl (zY t) rfl) rfl ?_ | refine wQ wB rfl rfl rfl rfl ?_ | refine wF wI rfl rfl ?_ | refine wJ ?_ | refine wM ?_ | refine wC ?_)
  refine qF (fun j:Nat=>[(5,some (.bx [.v (.bool x),.v (vL l)])),(9,some (.bx [.v (.bool false),.nils,.nils])),(11,some (.bx [.v (.bool (zn S).1),.v (vL (zn S).2)])),(2,some (.sv (.v (vT t)))),(4,some (.sv (.rp 2 u2 0))),(8,some (.sv (.bx 4 0))),(10,some (.sv (.rp 5 u5 0))),
   (14,some (.sv (.bx 7 0))),(15,some (.bx [.v (.bool (zn D).1),.v (vL (zn D).2),.own 0 77 1 (tabV' ((t.take j).map fun r=>r.map fun x=>zn ((intOf x).tdiv S)))])),(98,some (.sv (.v (vT t)))),(100,some (.sv (.v (.int .i64 (t.length:Nat))))),(102,some (.sv (.v (.int .i64 (j:Nat)))))])
   (fun j=>j≤t.length) (fun j=>t.length - j) 0 (fun _=>rfl) (Nat.zero_le _) ⟨rfl,rfl,rfl,rfl,rfl,rfl,rfl,rfl,rfl,rfl,rfl,rfl,trivial⟩ fun j hJ=>?_
  rcases Nat.lt_or_ge j t.length with hj | hj
  ·obtain ⟨r,hr⟩:∃ r,t[j]? = some r:=⟨_,List.getElem?_eq_getElem hj⟩
   have hrl:=hl2 r (List.mem_of_getElem? hr)
   have hro:=ht r (List.mem_of_getElem? hr)
   have hrS:=hS3 r (List.mem_of_getElem? hr)
   have hg:=tv_at t j r hr
   repeat (first | refine wG rfl rfl (wR wB rfl rfl rfl rfl rfl rfl (zc_len r) rfl) rfl ?_ | refine wG rfl rfl (wU wB rfl rfl rfl (i:=j) rfl rfl rfl hg rfl rfl) rfl ?_ | refine wG rfl rfl (z8 (id:=7000) (l:=0) (c:=r.length) (m:=2) (bb:=32) wB rfl rfl rfl rfl rfl rfl rfl rfl rfl rfl (Nat.zero_le _) rfl (by omega) (by simp only [maxLen]; omega) rfl rfl rfl (es':=[]) rfl) rfl ?_ | refine wQ wB rfl rfl rfl rfl ?_ | refine wG rfl rfl (wH rfl rfl rfl rfl (decide_eq_true (by omega)) rfl) rfl ?_ | refine wF wI rfl rfl ?_ | refine wJ ?_ | refine wM ?_ | refine wC ?_ | refine wO ?_ | refine wN rfl ?_)
   refine qF (fun k:Nat=>[(5,some (.bx [.v (.bool x),.v (vL l)])),(9,some (.bx [.v (.bool false),.nils,.nils])),(11,some (.bx [.v (.bool (zn S).1),.v (vL (zn S).2)])),(2,some (.sv (.v (vT t)))),(4,some (.sv (.rp 2 u2 0))),(8,some (.sv (.bx 4 0))),(10,some (.sv (.rp 5 u5 0))),
    (14,some (.sv (.bx 7 0))),(15,some (.bx [.v (.bool (zn D).1),.v (vL (zn D).2),.own 0 77 1 (tabV' ((t.take j).map fun r=>r.map fun x=>zn ((intOf x).tdiv S)))])),(98,some (.sv (.v (vT t)))),(100,some (.sv (.v (.int .i64 (t.length:Nat))))),(102,some (.sv (.v (.int .i64 (j:Nat))))),
    (20,some (.sv (.own 2 25 2 (((r.take k).map fun x=>zn ((intOf x).tdiv S)).map qI)))),(116,some (.sv (.v (.list (r.map qI))))),(118,some (.sv (.v (.int .i64 (r.length:Nat))))),(120,some (.sv (.v (.int .i64 (k:Nat)))))])
    (fun k=>k≤r.length) (fun k=>r.length - k) 0 (fun _=>rfl) (Nat.zero_le _) ⟨rfl,rfl,rfl,rfl,rfl,rfl,rfl,rfl,rfl,rfl,rfl,rfl,⟨_,rfl⟩,rfl,rfl,rfl,trivial⟩ fun k hK=>?_
   rcases Nat.lt_or_ge k r.length with hk | hk
   ·obtain ⟨z,hz⟩:∃ z,r[k]? = some z:=⟨_,List.getElem?_eq_getElem hk⟩
    have hzo:=hro z (List.mem_of_getElem? hz)
    have hzS:=hrS z (List.mem_of_getElem? hz)
    have hg2:=zc_at r k z hz
    have q8:=zexact_v z (zn S) hzo hSo (by rw [wS]; exact hS1) (by rw [wS]; exact hzS)
    rw [wS] at q8
    have hs:((r.take k).map fun x=>zn ((intOf x).tdiv S)).map qI++[qI (zn ((intOf z).tdiv S))]=((r.take (k+1)).map fun x=>zn ((intOf x).tdiv S)).map qI:=by
     rw [List.take_add_one,hz]
     simp
    have hlen:(((r.take k).map fun x=>zn ((intOf x).tdiv S)).map qI).length=k:=by rw [List.length_map,List.length_map,List.length_take]; omega
    have row2:∀ e∈[qI (zn ((intOf z).tdiv S))],e.length=2:=fun e h=>by rw [List.mem_singleton.1 h]; rfl
    obtain ⟨zx,zl⟩:=z
    repeat (first | refine wG rfl rfl (wU wB rfl rfl rfl (i:=k) rfl rfl rfl hg2 rfl rfl) rfl ?_ | refine wE wB rfl rfl rfl rfl rfl rfl rfl rfl (q8) rfl rfl ?_ | refine kE rfl rfl rfl (qT (id:=7001) (es2:=[qI (zn ((intOf (zx,zl)).tdiv S))]) (m:=2) (bb:=32) wB rfl rfl rfl rfl rfl rfl rfl rfl rfl rfl rfl row2 rfl (by simp only [maxLen,List.length_singleton]; omega) (by simp only [List.length_singleton]; omega) rfl rfl hs) rfl ?_ | refine wQ wB rfl rfl rfl rfl ?_ | refine wG rfl rfl (wH rfl rfl rfl rfl (decide_eq_true (by omega)) rfl) rfl ?_ | refine wG rfl rfl (wX rfl rfl rfl rfl (qC (by omega) (by omega)) rfl) rfl ?_ | refine wF wI rfl rfl ?_ | refine wJ ?_ | refine wM ?_ | refine wC ?_ | refine wO ?_ | refine wN rfl ?_)
    exact ⟨k+1,hk,by omega,rfl,rfl,rfl,rfl,rfl,rfl,rfl,rfl,rfl,rfl,rfl,rfl,⟨_,rfl⟩,rfl,rfl,rfl,trivial⟩
   ·have hke:k=r.length:=by omega
    subst hke
    rw [List.take_length]
    have hs:tabV' ((t.take j).map fun r=>r.map fun x=>zn ((intOf x).tdiv S))++[[V.list ((r.map fun x=>zn ((intOf x).tdiv S)).map qI)]]=tabV' ((t.take (j+1)).map fun r=>r.map fun x=>zn ((intOf x).tdiv S)):=by
     rw [List.take_add_one,hr]
     unfold tabV'
     simp
    have hlen:(tabV' ((t.take j).map fun r=>r.map fun x=>zn ((intOf x).tdiv S))).length=j:=by rw [zY,List.length_map,List.length_take]; omega
    have row1:∀ e∈[[V.list ((r.map fun x=>zn ((intOf x).tdiv S)).map qI)]],e.length=1:=fun e h=>by rw [List.mem_singleton.1 h]; rfl
    repeat (first | refine wQ wB rfl rfl rfl rfl ?_ | refine kE rfl rfl rfl (qT (id:=7002) (es2:=[[V.list ((r.map fun x=>zn ((intOf x).tdiv S)).map qI)]]) (m:=1) (bb:=24) wB rfl rfl rfl rfl rfl rfl rfl rfl rfl rfl rfl row1 rfl (by simp only [maxLen,List.length_singleton]; omega) (by simp only [List.length_singleton]; omega) rfl rfl hs) rfl ?_ | refine wG rfl rfl (wH rfl rfl rfl rfl (decide_eq_false (by omega)) rfl) rfl ?_ | refine wG rfl rfl (wX rfl rfl rfl rfl (qC (by omega) (by omega)) rfl) rfl ?_ | refine rr_vf wB rfl rfl rfl rfl rfl ?_ | refine wF wI rfl rfl ?_ | refine wJ ?_ | refine wC ?_ | refine qA ?_ | refine wL rfl ?_)
    exact ⟨j+1,hj,by omega,rfl,rfl,rfl,rfl,rfl,rfl,rfl,rfl,rfl,rfl,rfl,rfl,trivial⟩
  ·have hje:j=t.length:=by omega
   subst hje
   rw [List.take_length]
   repeat (first | refine wQ wB rfl rfl rfl rfl ?_ | refine wG rfl rfl (wH rfl rfl rfl rfl (decide_eq_false (by omega)) rfl) rfl ?_ | refine rr_vfx wB [.tmp 7] rfl rfl rfl rfl rfl ?_ | refine wF wI rfl rfl ?_ | refine wJ ?_ | refine wC ?_ | refine wP ?_ | refine qA ?_ | refine wL rfl ?_)
   refine ⟨.inl rfl,_,rfl,?_⟩
   unfold madeM
   rw [hSS,hDe]
   exact rfl
end Go.Proofs.YtkjhfnhgefbhhaaGreat
/- qmat.checks, Rows, Height: told of trees. ALLOC -/
namespace Go.Proofs.YtkjhfnhgefbhhaaGreat
open Go.RowKit Go.Ev Go.Vl
def mcell (m:MM):List V:=[.bool m.1.1,vL m.1.2,vT m.2]
def vMs (ms:List MM):V:=.list (ms.map mcell)
def chks:List MM→Int
 | []=>0
 | m :: ms=>if chk m=0 then chks ms else chk m
theorem mc_len (ms:List MM):(ms.map mcell).length=ms.length:=List.length_map ..
theorem mc_at (ms:List MM) (j:Nat) (m:MM) (h:ms[j]? = some m):(ms.map mcell)[j]? = some [.bool m.1.1,vL m.1.2,vT m.2]:=by rw [List.getElem?_map,h]; rfl
set_option maxRecDepth 20000 in
set_option maxHeartbeats 1600000 in
theorem checks_v (ms:List MM) (h:∀ m∈ms,okZ m.1∧m.2.length≤1099511627776) (hl:ms.length≤1099511627776):wT Tryz.prog 111 [vMs ms] (fun y=>y=.int .i64 (chks ms)):=by
 refine wK wB Tryz.func111 rfl rfl rfl rfl fun w0=>?_
 repeat (first | refine wG rfl rfl (wR wB rfl rfl rfl rfl rfl rfl (mc_len _) rfl) rfl ?_ | refine wQ wB rfl rfl rfl rfl ?_ | refine wF wI rfl rfl ?_ | refine wJ ?_ | refine wM ?_ | refine wC ?_)
 refine qF (fun j:Nat=>[(12,some (.sv (.v (vMs ms)))),(14,some (.sv (.v (.int .i64 (ms.length:Nat))))),(16,some (.sv (.v (.int .i64 (j:Nat)))))])
  (fun j=>j≤ms.length∧chks (ms.drop j)=chks ms) (fun j=>ms.length - j) 0 (fun _=>rfl) ⟨Nat.zero_le _,rfl⟩ ⟨rfl,rfl,rfl,trivial⟩ fun j hI=>?_
 obtain ⟨hJ,hc⟩:=hI
 rcases Nat.lt_or_ge j ms.length with hj | hj
 ·obtain ⟨m,hm⟩:∃ m,ms[j]? = some m:=⟨_,List.getElem?_eq_getElem hj⟩
  have hg:=mc_at ms j m hm
  obtain ⟨o1,o2⟩:=h m (List.mem_of_getElem? hm)
  have q1:=qcheck_v m o1 o2
  rw [drop_cons' ms j m hm] at hc
  have hc2:(if chk m=0 then chks (ms.drop (j+1)) else chk m)=chks ms:=hc
  obtain ⟨⟨x,l⟩,t⟩:=m
  generalize chk ((x,l),t)=c at *
  by_cases h0:c=0
  ·rw [if_pos h0] at hc2
   repeat (first | refine wG rfl rfl (wU wB rfl rfl rfl (i:=j) rfl rfl rfl hg rfl rfl) rfl ?_ | refine wE wB rfl rfl rfl rfl rfl rfl rfl rfl (q1) rfl rfl ?_ | refine qP wB rfl rfl rfl rfl rfl rfl ?_ | refine wQ wB rfl rfl rfl rfl ?_ | refine wG rfl rfl (wH rfl rfl rfl rfl (decide_eq_true (by omega)) rfl) rfl ?_ | refine wG rfl rfl (wH rfl rfl rfl rfl (ndF (by omega)) rfl) rfl ?_ | refine wG rfl rfl (wX rfl rfl rfl rfl (qC (by omega) (by omega)) rfl) rfl ?_ | refine wF wI rfl rfl ?_ | refine wJ ?_ | refine wM ?_ | refine wC ?_ | refine wO ?_ | refine wN rfl ?_ | refine wL rfl ?_)
   exact ⟨j+1,⟨hj,hc2⟩,by omega,rfl,rfl,rfl,trivial⟩
  ·rw [if_neg h0] at hc2
   repeat (first | refine wG rfl rfl (wU wB rfl rfl rfl (i:=j) rfl rfl rfl hg rfl rfl) rfl ?_ | refine wE wB rfl rfl rfl rfl rfl rfl rfl rfl (q1) rfl rfl ?_ | refine qP wB rfl rfl rfl rfl rfl rfl ?_ | refine wQ wB rfl rfl rfl rfl ?_ | refine wG rfl rfl (wH rfl rfl rfl rfl (decide_eq_true (by omega)) rfl) rfl ?_ | refine wG rfl rfl (wH rfl rfl rfl rfl (ndT (by omega)) rfl) rfl ?_ | refine wF wI rfl rfl ?_ | refine wJ ?_ | refine wM ?_ | refine wC ?_ | refine wP ?_ | refine wO ?_ | refine wN rfl ?_)
   refine ⟨.inl rfl,_,rfl,?_⟩
   rw [← hc2]
 ·rw [List.drop_of_length_le hj] at hc
  repeat (first | refine wQ wB rfl rfl rfl rfl ?_ | refine wG rfl rfl (wH rfl rfl rfl rfl (decide_eq_false (by omega)) rfl) rfl ?_ | refine wF wI rfl rfl ?_ | refine wJ ?_ | refine wC ?_ | refine wP ?_ | refine qA ?_ | refine wL rfl ?_)
  refine ⟨.inl rfl,_,rfl,?_⟩
  rw [← hc]
  exact rfl
def tabQ (t:List (List QQ)):List (List V):=t.map fun r=>[vQs r]
theorem tq_len (t:List (List QQ)):(tabQ t).length=t.length:=List.length_map ..
def zF (m:MM):List (List QQ):=m.2.map fun r=>r.map fun x=>qn (Rat.divInt (intOf x) (intOf m.1))
set_option maxRecDepth 20000 in
set_option maxHeartbeats 3200000 in
theorem qRows_v (m:MM) (hc:chk m=0) (hd:okZ m.1) (h0:intOf m.1≠0) (ht:∀ r∈m.2,r.length≤1099511627776∧∀ x∈r,okZ x) (hl:m.2.length≤1099511627776):wT Tryz.prog 108 [vM m] (fun y=>y=.tup [.list (tabQ (zF m)),.int .i64 0]):=by
 refine wK wB Tryz.func108 rfl rfl rfl rfl fun w0=>?_
 have q1:=qcheck_v m hd hl
 rw [hc] at q1
 obtain ⟨⟨x,l⟩,t⟩:=m
 dsimp only at hd h0 ht hl
 repeat (first | refine wG rfl rfl (wR wB rfl rfl rfl rfl rfl rfl (zY t) rfl) rfl ?_ | refine wE wB rfl rfl rfl rfl rfl rfl rfl rfl (q1) rfl rfl ?_ | refine wQ wB rfl rfl rfl rfl ?_ | refine wG rfl rfl (wH rfl rfl rfl rfl (ndF (by omega)) rfl) rfl ?_ | refine wF wI rfl rfl ?_ | refine wJ ?_ | refine wM ?_ | refine wC ?_ | refine wO ?_ | refine wL rfl ?_)
 refine vw_nilOwn (d:=5) (id:=1) (k:=1) (T:=64) rfl rfl rfl rfl ?_
 refine qF (fun j:Nat=>[(2,some (.sv (.bx 1 0))),(3,some (.bx [.v (.bool x),.v (vL l),.v (vT t)])),(10,some (.sv (.own 1 64 1 (tabQ ((t.take j).map fun r=>r.map fun x'=>qn (Rat.divInt (intOf x') (intOf (x,l)))))))),
  (38,some (.sv (.v (vT t)))),(40,some (.sv (.v (.int .i64 (t.length:Nat))))),(42,some (.sv (.v (.int .i64 (j:Nat)))))])
  (fun j=>j≤t.length) (fun j=>t.length - j) 0 (fun _=>rfl) (Nat.zero_le _) ⟨rfl,rfl,⟨_,rfl⟩,rfl,rfl,rfl,trivial⟩ fun j hJ=>?_
 rcases Nat.lt_or_ge j t.length with hj | hj
 ·obtain ⟨r,hr⟩:∃ r,t[j]? = some r:=⟨_,List.getElem?_eq_getElem hj⟩
  obtain ⟨hrl,hro⟩:=ht r (List.mem_of_getElem? hr)
  have hg:=tv_at t j r hr
  repeat (first | refine wG rfl rfl (wR wB rfl rfl rfl rfl rfl rfl (zc_len r) rfl) rfl ?_ | refine wG rfl rfl (wU wB rfl rfl rfl (i:=j) rfl rfl rfl hg rfl rfl) rfl ?_ | refine wG rfl rfl (z8 (id:=7000) (l:=0) (c:=r.length) (m:=4) (bb:=64) wB rfl rfl rfl rfl rfl rfl rfl rfl rfl rfl (Nat.zero_le _) rfl (by omega) (by simp only [maxLen]; omega) rfl rfl rfl (es':=[]) rfl) rfl ?_ | refine wQ wB rfl rfl rfl rfl ?_ | refine wG rfl rfl (wH rfl rfl rfl rfl (decide_eq_true (by omega)) rfl) rfl ?_ | refine wF wI rfl rfl ?_ | refine wJ ?_ | refine wM ?_ | refine wC ?_ | refine wO ?_ | refine wN rfl ?_)
  refine qF (fun k:Nat=>[(2,some (.sv (.bx 1 0))),(3,some (.bx [.v (.bool x),.v (vL l),.v (vT t)])),(10,some (.sv (.own 1 64 1 (tabQ ((t.take j).map fun r=>r.map fun x'=>qn (Rat.divInt (intOf x') (intOf (x,l)))))))),
   (38,some (.sv (.v (vT t)))),(40,some (.sv (.v (.int .i64 (t.length:Nat))))),(42,some (.sv (.v (.int .i64 (j:Nat))))),
   (16,some (.sv (.own 2 89 4 (((r.take k).map fun x'=>qn (Rat.divInt (intOf x') (intOf (x,l)))).map zN)))),(56,some (.sv (.v (.list (r.map qI))))),(58,some (.sv (.v (.int .i64 (r.length:Nat))))),(60,some (.sv (.v (.int .i64 (k:Nat)))))])
   (fun k=>k≤r.length) (fun k=>r.length - k) 0 (fun _=>rfl) (Nat.zero_le _) ⟨rfl,rfl,⟨_,rfl⟩,rfl,rfl,rfl,⟨_,rfl⟩,rfl,rfl,rfl,trivial⟩ fun k hK=>?_
  rcases Nat.lt_or_ge k r.length with hk | hk
  ·obtain ⟨z,hz⟩:∃ z,r[k]? = some z:=⟨_,List.getElem?_eq_getElem hk⟩
   have hzo:=hro z (List.mem_of_getElem? hz)
   have hg2:=zc_at r k z hz
   have q2:=make_v z (x,l) hzo hd h0
   have hs:((r.take k).map fun x'=>qn (Rat.divInt (intOf x') (intOf (x,l)))).map zN++[zN (qn (Rat.divInt (intOf z) (intOf (x,l))))]=((r.take (k+1)).map fun x'=>qn (Rat.divInt (intOf x') (intOf (x,l)))).map zN:=by
    rw [List.take_add_one,hz]
    simp
   have hlen:(((r.take k).map fun x'=>qn (Rat.divInt (intOf x') (intOf (x,l)))).map zN).length=k:=by rw [List.length_map,List.length_map,List.length_take]; omega
   have row2:∀ e∈[zN (qn (Rat.divInt (intOf z) (intOf (x,l))))],e.length=4:=fun e h=>by rw [List.mem_singleton.1 h]; rfl
   obtain ⟨zx,zl⟩:=z
   repeat (first | refine wG rfl rfl (wU wB rfl rfl rfl (i:=k) rfl rfl rfl hg2 rfl rfl) rfl ?_ | refine wE wB rfl rfl rfl rfl rfl rfl rfl rfl (q2) rfl rfl ?_ | refine kE rfl rfl rfl (qT (id:=7001) (es2:=[zN (qn (Rat.divInt (intOf (zx,zl)) (intOf (x,l))))]) (m:=4) (bb:=64) wB rfl rfl rfl rfl rfl rfl rfl rfl rfl rfl rfl row2 rfl (by simp only [maxLen,List.length_singleton]; omega) (by simp only [List.length_singleton]; omega) rfl rfl hs) rfl ?_ | refine qP wB rfl rfl rfl rfl rfl rfl ?_ | refine wQ wB rfl rfl rfl rfl ?_ | refine wG rfl rfl (wH rfl rfl rfl rfl (decide_eq_true (by omega)) rfl) rfl ?_ | refine wG rfl rfl (wX rfl rfl rfl rfl (qC (by omega) (by omega)) rfl) rfl ?_ | refine wF wI rfl rfl ?_ | refine wJ ?_ | refine wM ?_ | refine wC ?_ | refine wO ?_ | refine wN rfl ?_)
   exact ⟨k+1,hk,by omega,rfl,rfl,⟨_,rfl⟩,rfl,rfl,rfl,⟨_,rfl⟩,rfl,rfl,rfl,trivial⟩
  ·have hke:k=r.length:=by omega
   subst hke
   rw [List.take_length]
   have hs:tabQ ((t.take j).map fun r=>r.map fun x'=>qn (Rat.divInt (intOf x') (intOf (x,l))))++[[vQs (r.map fun x'=>qn (Rat.divInt (intOf x') (intOf (x,l))))]]=tabQ ((t.take (j+1)).map fun r=>r.map fun x'=>qn (Rat.divInt (intOf x') (intOf (x,l)))):=by
    rw [List.take_add_one,hr]
    unfold tabQ
    simp
   have hlen:(tabQ ((t.take j).map fun r=>r.map fun x'=>qn (Rat.divInt (intOf x') (intOf (x,l))))).length=j:=by rw [tq_len,List.length_map,List.length_take]; omega
   have row1:∀ e∈[[vQs (r.map fun x'=>qn (Rat.divInt (intOf x') (intOf (x,l))))]],e.length=1:=fun e h=>by rw [List.mem_singleton.1 h]; rfl
   repeat (first | refine wQ wB rfl rfl rfl rfl ?_ | refine kE rfl rfl rfl (qT (id:=7002) (es2:=[[vQs (r.map fun x'=>qn (Rat.divInt (intOf x') (intOf (x,l))))]]) (m:=1) (bb:=24) wB rfl rfl rfl rfl rfl rfl rfl rfl rfl rfl rfl row1 rfl (by simp only [maxLen,List.length_singleton]; omega) (by simp only [List.length_singleton]; omega) rfl rfl hs) rfl ?_ | refine wG rfl rfl (wH rfl rfl rfl rfl (decide_eq_false (by omega)) rfl) rfl ?_ | refine wG rfl rfl (wX rfl rfl rfl rfl (qC (by omega) (by omega)) rfl) rfl ?_ | refine rr_vf wB rfl rfl rfl rfl rfl ?_ | refine wF wI rfl rfl ?_ | refine wJ ?_ | refine wC ?_ | refine qA ?_ | refine wL rfl ?_)
   exact ⟨j+1,hj,by omega,rfl,rfl,⟨_,rfl⟩,rfl,rfl,rfl,trivial⟩
 ·have hje:j=t.length:=by omega
  subst hje
  rw [List.take_length]
  repeat (first | refine wQ wB rfl rfl rfl rfl ?_ | refine wG rfl rfl (wH rfl rfl rfl rfl (decide_eq_false (by omega)) rfl) rfl ?_ | refine wF wI rfl rfl ?_ | refine wJ ?_ | refine wC ?_ | refine wP ?_ | refine qA ?_ | refine wL rfl ?_)
  exact ⟨.inl rfl,_,rfl,rfl⟩
end Go.Proofs.YtkjhfnhgefbhhaaGreat
/- qmat.Height: told of trees. ALLOC -/
namespace Go.Proofs.YtkjhfnhgefbhhaaGreat
open Go.RowKit Go.Ev Go.Vl
theorem gridQ (t:List (List QQ)):gridV (t.map fun r=>r.map zN)=.list (tabQ t):=by
 unfold gridV tabQ vQs
 rw [List.map_map]
 rfl
theorem gridQL (t:List (List QQ)):gridL (t.map fun r=>r.map zN)=t.flatten.map fun q=>[V.agg (zN q)]:=by
 unfold gridL
 rw [← List.map_flatten,List.map_map]
 rfl
set_option maxRecDepth 20000 in
set_option maxHeartbeats 1600000 in
theorem eachR2_v (rows:List (List (List V))):wT Tryz.prog 109 [gridV rows] (fun y=>y=.clo 167 [] [.ref [gridV rows]]):=by
 refine wK wB Tryz.func109 rfl rfl rfl rfl fun w0=>?_
 repeat (first | refine wQ wB rfl rfl rfl rfl ?_ | refine rr_vf wB rfl rfl rfl rfl rfl ?_ | refine wF wI rfl rfl ?_ | refine wJ ?_ | refine wC ?_ | refine wP ?_)
 exact ⟨.inl rfl,_,rfl,rfl⟩
set_option maxRecDepth 20000 in
set_option maxHeartbeats 3200000 in
theorem qHeight_v (m:MM) (hc:chk m=0) (hd:okZ m.1) (h0:intOf m.1≠0) (ht:∀ r∈m.2,r.length≤1099511627776∧∀ x∈r,okZ x) (hl:m.2.length≤1099511627776) (hfl:(zF m).flatten.length≤1099511627776)
  (hq:∀ q∈(zF m).flatten,okQ q∧intOf q.2≠0) (hn:∀ q∈(zF m).flatten,okQ (qn (qR q))):wT Tryz.prog 60 [vM m] (fun y=>y=.tup [.int .i64 (htL ((zF m).flatten.map fun q=>qn (qR q)) 0:Nat),.int .i64 0]):=by
 refine vcalls_enterM wB Tryz.func60 rfl rfl rfl rfl fun w0 hmk hro=>?_
 have q1:=qRows_v m hc hd h0 ht hl
 have hrl:∀ r∈zF m,r.length≤1099511627776:=fun r hr=>by
  obtain ⟨r',h1,rfl⟩:=List.mem_map.1 hr
  rw [List.length_map]
  exact (ht r' h1).1
 have hrt:(zF m).length≤1099511627776:=by unfold zF; rw [List.length_map]; exact hl
 generalize zF m=R at *
 obtain ⟨⟨x,l⟩,t⟩:=m
 have q2:=eachR2_v (R.map fun r=>r.map zN)
 rw [gridQ] at q2
 have hseq:=eachR_v (R.map fun r=>r.map zN) (fun r hr e he=>by
  obtain ⟨r',_,rfl⟩:=List.mem_map.1 hr
  obtain ⟨z,_,rfl⟩:=List.mem_map.1 he
  rfl) (by simpa using hrt) (fun r hr=>by
  obtain ⟨r',h1,rfl⟩:=List.mem_map.1 hr
  simpa using hrl r' h1)
 rw [gridQL,gridQ] at hseq
 have q3:=ratHeight_v R.flatten hq hfl hn
 repeat (first | refine qP wB rfl rfl rfl rfl rfl rfl ?_ | refine wQ wB rfl rfl rfl rfl ?_ | refine wG rfl rfl (wH rfl rfl rfl rfl (ndF (by omega)) rfl) rfl ?_ | refine wE wB rfl rfl rfl rfl rfl rfl rfl rfl (q1) rfl rfl ?_ | refine wE wB rfl rfl rfl rfl rfl rfl rfl rfl (q2) rfl rfl ?_ | refine wF wI rfl rfl ?_ | refine wJ ?_ | refine wM ?_ | refine wC ?_ | refine wO ?_ | refine wL rfl ?_)
 refine vw_pin 6 6 rfl rfl fun u6=>?_
 refine vw_nilOwnB 6 0 4 89 rfl rfl rfl ?_
 refine vw_rangeFunc wB (fun b:List QQ=>[(13,some (.bx [.own 0 89 4 (b.map zN)]))])
  [(12,some (.sv (.rp 6 u6 0)))]
  (fun j b=>b=R.flatten.take j) []
  (fun _ e b=>[(14,some (.sv (.bx 7 0))),(15,some (.bx (match e with | [.agg cs]=>cs.map .v | _=>[]))),(13,some (.bx [.own 0 89 4 (b.map zN)])),(12,some (.sv (.rp 6 u6 0)))])
  hro hmk rfl rfl hseq rfl (fun e he=>by
   obtain ⟨z,_,rfl⟩:=List.mem_map.1 he
   rfl) rfl (fun _=>rfl) rfl ⟨rfl,rfl,trivial⟩ (fun _ _ _=>rfl) ?_ ?_ ?_
 ·intro j e b he hI w1
  rw [List.getElem?_map] at he
  obtain ⟨z,hz,rfl⟩:=Option.map_eq_some_iff.1 he
  obtain ⟨⟨zx,zl⟩,⟨zy,zk⟩⟩:=z
  repeat (first | refine qP wB rfl rfl rfl rfl rfl rfl ?_ | refine wQ wB rfl rfl rfl rfl ?_ | refine wF wI rfl rfl ?_ | refine wC ?_)
  exact ⟨rfl,rfl,rfl,rfl,rfl,trivial⟩
 ·intro j e b he hI w1
  rw [List.getElem?_map] at he
  obtain ⟨z,hz,rfl⟩:=Option.map_eq_some_iff.1 he
  subst hI
  have hs:(R.flatten.take j).map zN++[zN z]=(R.flatten.take (j+1)).map zN:=by
   rw [List.take_add_one,hz]
   simp
  have hlen:((R.flatten.take j).map zN).length≤1099511627776:=by
   rw [List.length_map,List.length_take]
   omega
  have row2:∀ e∈[zN z],e.length=4:=fun e h=>by rw [List.mem_singleton.1 h]; rfl
  obtain ⟨⟨zx,zl⟩,⟨zy,zk⟩⟩:=z
  repeat (first | refine kE rfl rfl rfl (qT (id:=7001) (es2:=[zN ((zx,zl),(zy,zk))]) (m:=4) (bb:=64) wB rfl rfl rfl rfl rfl rfl rfl rfl rfl rfl rfl row2 rfl (by simp only [maxLen,List.length_singleton]; omega) (by simp only [List.length_singleton]; omega) rfl rfl hs) rfl ?_ | refine wQ wB rfl rfl rfl rfl ?_ | refine wF wI rfl rfl ?_ | refine wM ?_ | refine wC ?_)
  exact ⟨rfl,_,rfl,rfl,rfl,trivial⟩
 ·intro b hI
  rw [List.length_map,List.take_length] at hI
  subst hI
  show VW _ _ _ _ _ _
  repeat (first | refine wQ wB rfl rfl rfl rfl ?_ | refine zM wB rfl rfl rfl rfl rfl rfl rfl rfl rfl (q3) rfl rfl ?_ | refine wF wI rfl rfl ?_ | refine wJ ?_ | refine wC ?_ | refine wP ?_)
  exact ⟨.inl rfl,_,rfl,rfl⟩
end Go.Proofs.YtkjhfnhgefbhhaaGreat
