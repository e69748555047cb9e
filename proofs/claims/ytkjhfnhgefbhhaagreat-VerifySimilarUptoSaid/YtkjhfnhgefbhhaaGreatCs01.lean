/- Arguments of small bulk; closed calls out of the evaluator, told of trees. -/
import Derived.Test.YtkjhfnhgefbhhaaGreatCd17
import Derived.Test.YtkjhfnhgefbhhaaGreatCd19
import Derived.Test.YtkjhfnhgefbhhaaGreatCd20
import Derived.Test.YtkjhfnhgefbhhaaGreatCd22
set_option linter.all false
namespace Go.Proofs.YtkjhfnhgefbhhaaGreat
open Go.ChangeShapes Go.WideShapes Go.ChangeAt Go.RowKit Go.Deep Go.Ev Go.Vl
theorem okM_small {m:MM} (h:limM m) (hb:bkM m≤1048576):okM m 1048576:=by
 obtain ⟨h1,h2⟩:=h
 have e1:=flat_bulk m.2
 have e2:=sum_len bkR (fun r=>by unfold bkR; omega) m.2
 unfold bkM at hb
 have e0:bkZ m.1=m.1.2.length+1:=rfl
 refine ⟨h1,by omega,⟨by omega,fun r hr=>?_⟩,by omega⟩
 have e3:=sum_mem bkR hr
 have e4:=sum_len bkZ (fun z=>by unfold bkZ; omega) r
 have e5:bkR r=(r.map bkZ).sum+1:=rfl
 refine ⟨by omega,fun z hz=>⟨h2 r hr z hz,?_⟩⟩
 have e6:=sum_mem bkZ hz
 have e7:bkZ z=z.2.length+1:=rfl
 omega
theorem vcalls_ent {P:Program} {e:Ent} (he:EntOk P e) (hm:e.m=0) (ha:e.args=[]) {b:Bool} (hv:e.v=.bool b):wT P e.f [] (fun y=>y=.bool b):=fun S w us hu=>by
 cases hu
 exact (calls_of_ent he hm ha hv w).mono fun x w' ⟨h1,h2⟩=>⟨_,_,h1,rfl,.bool b,h2⟩
theorem cells_conj:Tryz.prog.cellsOf 30=6:=by kernel_rfl
section
variable {H:Type} {enc:TypeId × Value→H} {W:World} {held:Bool}
set_option maxRecDepth 100000 in
theorem open_vconj {r:Reach} {b0:Nat} {v:Value} {d:DataW H} {p:List MemPlace} (hv:Value.okWide Tryz.prog W r b0 30 v) (h:DataW.Trod enc Tryz.prog W 0 (fun _=>true) held 30 v d p) :
  ∃ m m':MM,limM m∧limM m'∧Rep (fun _=>True) W (.agg ((vM m).cells++(vM m').cells)) v∧bkM m+bkM m'≤Rows.uptoBulk d:=by
 obtain ⟨cs,rfl,hsz⟩:=okWide_struct Tryz.underlying30 hv
 obtain ⟨fuel,hf⟩:=h
 have hl:cs.toList.length=6:=by rw [Array.length_toList,hsz]; exact cells_conj
 obtain ⟨y0,y1,n,hx,_,h0,h1⟩:=trod_struct2 Tryz.underlying30 (x:=(d,p)) (cs:=cs.toList) (by simpa [Value.cells] using hf)
 simp only [cells_mat] at h0 h1
 obtain ⟨m,a1,a2,a3⟩:=open_vmat (by simp; omega) h0
 obtain ⟨m',b1,b2,b3⟩:=open_vmat (by simp; omega) h1
 have hd:d=.agg [y0.1,y1.1]:=congrArg Prod.fst hx
 refine ⟨m,m',a1,b1,?_,?_⟩
 ·have e:cs.toList=(cs.toList.drop 0).take 3++(cs.toList.drop 3).take 3:=by
   rw [List.drop_zero,List.take_of_length_le (l:=cs.toList.drop 3) (by simp; omega),List.take_append_drop]
  have:=Rep.agg (S:=fun _=>True) (w:=W) (cs:=(vM m).cells++(vM m').cells) rfl (RepL.append a2 b2)
  rw [← e,Array.toArray_toList] at this
  exact this
 ·rw [hd]
  simp only [Rows.uptoBulk,Rows.uptoBulkAll]
  omega
end
end Go.Proofs.YtkjhfnhgefbhhaaGreat
namespace Go.Proofs.YtkjhfnhgefbhhaaGreat
open Go.RowKit Go.Ev Go.Vl
set_option maxRecDepth 20000 in
set_option maxHeartbeats 3200000 in
theorem vfit_v (x:Bool) (l:List Nat) (t:List (List ZZ)) (h:okM ((x,l),t) 68719476736):wT Tryz.prog 18 [.agg [.bool x,vL l,vT t]] (fun y=>y=.int .i64 (fit1 ((x,l),t))):=by
 refine wK wB Tryz.func18 rfl rfl rfl rfl fun w0=>?_
 have fin:∀ {u v:Int},u=v→V.int .i64 u=V.int .i64 v:=fun h=>by rw [h]
 have od:okZ (x,l):=⟨h.1,Nat.le_trans h.2.1 (by decide)⟩
 have hml:t.length≤68719476736:=h.2.2.1.1
 have q1:=qSize_v ((x,l),t) od (by dsimp only; omega)
 have hf:fit1 ((x,l),t)=if chk ((x,l),t)=0 then (if t.length=qB t∧t.length≠0 then (if t.length≤24∧htM ((x,l),t)≤4096 then 0 else 4) else 3) else chk ((x,l),t):=rfl
 by_cases h0:chk ((x,l),t)=0
 ·rw [if_pos h0] at q1 hf
  have q2:=qHeight_v ((x,l),t) h0 od (chk0 h0).1 (fun r hr=>⟨Nat.le_trans (h.2.2.1.2 r hr).1 (by decide),fun z hz=>⟨((h.2.2.1.2 r hr).2 z hz).1,Nat.le_trans ((h.2.2.1.2 r hr).2 z hz).2 (by decide)⟩⟩) (by dsimp only; omega) (by
   rw [ratsT_flat,List.length_map]
   exact Nat.le_trans h.2.2.2 (by decide)) (fun q hq=>⟨(ratsT_ok h (chk0 h0).1 q hq).1,(ratsT_ok h (chk0 h0).1 q hq).2.1⟩) (fun q hq=>by
   obtain ⟨g1,_,g3⟩:=ratsT_ok h (chk0 h0).1 q hq
   rw [g3]; exact g1)
  have q2':wT Tryz.prog 60 [vM ((x,l),t)] (fun y=>y=.tup [.int .i64 (htM ((x,l),t):Nat),.int .i64 0]):=q2
  clear q2
  generalize htM ((x,l),t)=ht at *
  dsimp only at q1
  obtain ⟨c,hce⟩:∃ c,qB t=c:=⟨_,rfl⟩
  rw [hce] at q1 hf
  by_cases h1:t.length=c
  ·by_cases h2:t.length=0
   ·rw [if_neg (fun hh=>hh.2 h2)] at hf
    rw [hf]
    repeat (first | refine wE wB rfl rfl rfl rfl rfl rfl rfl rfl (q1) rfl rfl ?_ | refine wQ wB rfl rfl rfl rfl ?_ | refine wG rfl rfl (wH rfl rfl rfl rfl (decide_eq_true (by omega)) rfl) rfl ?_ | refine wG rfl rfl (wH rfl rfl rfl rfl (ndF (by omega)) rfl) rfl ?_ | refine wF wI rfl rfl ?_ | refine wJ ?_ | refine wC ?_ | refine wP ?_ | refine wO ?_ | refine wN rfl ?_ | refine wL rfl ?_)
    exact ⟨.inl rfl,_,rfl,rfl⟩
   ·rw [if_pos ⟨h1,h2⟩] at hf
    by_cases h3:t.length≤24
    ·by_cases h4:ht≤4096
     ·rw [if_pos ⟨h3,h4⟩] at hf
      rw [hf]
      repeat (first | refine wE wB rfl rfl rfl rfl rfl rfl rfl rfl (q1) rfl rfl ?_ | refine wE wB rfl rfl rfl rfl rfl rfl rfl rfl (q2') rfl rfl ?_ | refine wQ wB rfl rfl rfl rfl ?_ | refine wG rfl rfl (wH rfl rfl rfl rfl (decide_eq_false (by omega)) rfl) rfl ?_ | refine wG rfl rfl (wH rfl rfl rfl rfl (ndF (by omega)) rfl) rfl ?_ | refine wF wI rfl rfl ?_ | refine wJ ?_ | refine wC ?_ | refine wP ?_ | refine wO ?_ | refine wL rfl ?_)
      exact ⟨.inl rfl,_,rfl,rfl⟩
     ·rw [if_neg (fun hh=>h4 hh.2)] at hf
      rw [hf]
      repeat (first | refine wE wB rfl rfl rfl rfl rfl rfl rfl rfl (q1) rfl rfl ?_ | refine wE wB rfl rfl rfl rfl rfl rfl rfl rfl (q2') rfl rfl ?_ | refine wQ wB rfl rfl rfl rfl ?_ | refine wG rfl rfl (wH rfl rfl rfl rfl (decide_eq_true (by omega)) rfl) rfl ?_ | refine wG rfl rfl (wH rfl rfl rfl rfl (decide_eq_false (by omega)) rfl) rfl ?_ | refine wG rfl rfl (wH rfl rfl rfl rfl (ndF (by omega)) rfl) rfl ?_ | refine wF wI rfl rfl ?_ | refine wJ ?_ | refine wC ?_ | refine wP ?_ | refine wO ?_ | refine wN rfl ?_ | refine wL rfl ?_)
      exact ⟨.inl rfl,_,rfl,rfl⟩
    ·rw [if_neg (fun hh=>h3 hh.1)] at hf
     rw [hf]
     repeat (first | refine wE wB rfl rfl rfl rfl rfl rfl rfl rfl (q1) rfl rfl ?_ | refine wE wB rfl rfl rfl rfl rfl rfl rfl rfl (q2') rfl rfl ?_ | refine wQ wB rfl rfl rfl rfl ?_ | refine wG rfl rfl (wH rfl rfl rfl rfl (decide_eq_true (by omega)) rfl) rfl ?_ | refine wG rfl rfl (wH rfl rfl rfl rfl (decide_eq_false (by omega)) rfl) rfl ?_ | refine wG rfl rfl (wH rfl rfl rfl rfl (ndF (by omega)) rfl) rfl ?_ | refine rr_no rfl rfl rfl rfl rfl rfl ?_ | refine wF wI rfl rfl ?_ | refine wJ ?_ | refine wC ?_ | refine wP ?_ | refine wO ?_ | refine wN rfl ?_ | refine wL rfl ?_)
     exact ⟨.inl rfl,_,rfl,rfl⟩
  ·rw [if_neg (fun hh=>h1 hh.1)] at hf
   rw [hf]
   repeat (first | refine wE wB rfl rfl rfl rfl rfl rfl rfl rfl (q1) rfl rfl ?_ | refine wQ wB rfl rfl rfl rfl ?_ | refine wG rfl rfl (wH rfl rfl rfl rfl (ndT (by omega)) rfl) rfl ?_ | refine wG rfl rfl (wH rfl rfl rfl rfl (ndF (by omega)) rfl) rfl ?_ | refine rr_no rfl rfl rfl rfl rfl rfl ?_ | refine wF wI rfl rfl ?_ | refine wJ ?_ | refine wC ?_ | refine wP ?_ | refine wO ?_ | refine wN rfl ?_ | refine wL rfl ?_)
   exact ⟨.inl rfl,_,rfl,rfl⟩
 ·rw [if_neg h0] at q1 hf
  rw [hf]
  generalize chk ((x,l),t)=c at *
  repeat (first | refine wE wB rfl rfl rfl rfl rfl rfl rfl rfl (q1) rfl rfl ?_ | refine wQ wB rfl rfl rfl rfl ?_ | refine wG rfl rfl (wH rfl rfl rfl rfl (ndT (by omega)) rfl) rfl ?_ | refine wF wI rfl rfl ?_ | refine wJ ?_ | refine wC ?_ | refine wP ?_ | refine wN rfl ?_)
  exact ⟨.inl rfl,_,rfl,rfl⟩
structure Chk where
 c:Int
 f:FuncId
 cs:List V
 b:Bool
def chkV (k:Chk):List V:=[.int .i64 k.c,.clo k.f [] k.cs]
def firstI:List Chk→Int
 | []=>0
 | k :: ks=>if k.b=true then firstI ks else k.c
theorem chkV_len (ks:List Chk):(ks.map chkV).length=ks.length:=List.length_map ..
theorem chkV_at (ks:List Chk) (j:Nat) (k:Chk) (h:ks[j]? = some k):(ks.map chkV)[j]? = some [.int .i64 k.c,.clo k.f [] k.cs]:=by rw [List.getElem?_map,h]; rfl
set_option maxRecDepth 20000 in
set_option maxHeartbeats 3200000 in
theorem first_v (ks:List Chk) (hl:ks.length≤1099511627776) (h:∀ (j:Nat) (k:Chk),ks[j]? = some k→(∀ (i:Nat) (k':Chk),i<j→ks[i]? = some k'→k'.b=true)→(∃ fn,zH.fns.get k.f=some fn)∧wT Tryz.prog k.f k.cs (fun y=>y=.bool k.b)) :
  wT Tryz.prog 19 [.list (ks.map chkV)] (fun y=>y=.int .i64 (firstI ks)):=by
 refine wK wB Tryz.func19 rfl rfl rfl rfl fun w0=>?_
 repeat (first | refine wG rfl rfl (wR wB rfl rfl rfl rfl rfl rfl (chkV_len _) rfl) rfl ?_ | refine wQ wB rfl rfl rfl rfl ?_ | refine wF wI rfl rfl ?_ | refine wJ ?_ | refine wM ?_ | refine wC ?_)
 refine qF (fun j:Nat=>[(10,some (.sv (.v (.list (ks.map chkV))))),(12,some (.sv (.v (.int .i64 (ks.length:Nat))))),(14,some (.sv (.v (.int .i64 (j:Nat)))))])
  (fun j=>j≤ks.length∧firstI (ks.drop j)=firstI ks∧∀ (i:Nat) (k':Chk),i<j→ks[i]? = some k'→k'.b=true) (fun j=>ks.length - j) 0 (fun _=>rfl) ⟨Nat.zero_le _,rfl,fun _ _ h=>by omega⟩ ⟨rfl,rfl,rfl,trivial⟩ fun j hI=>?_
 obtain ⟨hJ,hc,hb⟩:=hI
 rcases Nat.lt_or_ge j ks.length with hj | hj
 ·obtain ⟨k,hk⟩:∃ m,ks[j]? = some m:=⟨_,List.getElem?_eq_getElem hj⟩
  have hg:=chkV_at ks j k hk
  obtain ⟨⟨fn,hfn⟩,q1⟩:=h j k hk hb
  rw [drop_cons' ks j k hk] at hc
  have hc2:(if k.b=true then firstI (ks.drop (j+1)) else k.c)=firstI ks:=hc
  have hb2:k.b=true→∀ (i:Nat) (k':Chk),i<j+1→ks[i]? = some k'→k'.b=true:=fun hkb i k' hi hk'=>by
   rcases Nat.lt_or_ge i j with h1 | h1
   ·exact hb i k' h1 hk'
   ·obtain rfl:i=j:=by omega
    rw [hk] at hk'; cases hk'
    exact hkb
  obtain ⟨c,f,cs,b⟩:=k
  dsimp only at hfn q1 hg hc2 hb2
  cases b with
  | true =>
   rw [if_pos rfl] at hc2
   repeat (first | refine wG rfl rfl (wU wB rfl rfl rfl (i:=j) rfl rfl rfl hg rfl rfl) rfl ?_ | refine wE wB rfl rfl rfl rfl rfl rfl hfn rfl (by simpa using q1) rfl rfl ?_ | refine qP wB rfl rfl rfl rfl rfl rfl ?_ | refine wQ wB rfl rfl rfl rfl ?_ | refine wG rfl rfl (wH rfl rfl rfl rfl (decide_eq_true (by omega)) rfl) rfl ?_ | refine wG rfl rfl (wX rfl rfl rfl rfl (qC (by omega) (by omega)) rfl) rfl ?_ | refine wF wI rfl rfl ?_ | refine wJ ?_ | refine wM ?_ | refine wC ?_ | refine wO ?_ | refine wN rfl ?_ | refine wL rfl ?_)
   exact ⟨j+1,⟨hj,hc2,hb2 rfl⟩,by omega,rfl,rfl,rfl,trivial⟩
  | false =>
   rw [if_neg (by decide)] at hc2
   repeat (first | refine wG rfl rfl (wU wB rfl rfl rfl (i:=j) rfl rfl rfl hg rfl rfl) rfl ?_ | refine wE wB rfl rfl rfl rfl rfl rfl hfn rfl (by simpa using q1) rfl rfl ?_ | refine qP wB rfl rfl rfl rfl rfl rfl ?_ | refine wQ wB rfl rfl rfl rfl ?_ | refine wG rfl rfl (wH rfl rfl rfl rfl (decide_eq_true (by omega)) rfl) rfl ?_ | refine wF wI rfl rfl ?_ | refine wJ ?_ | refine wM ?_ | refine wC ?_ | refine wP ?_ | refine wO ?_ | refine wN rfl ?_)
   refine ⟨.inl rfl,_,rfl,?_⟩
   rw [← hc2]
 ·rw [List.drop_of_length_le hj] at hc
  repeat (first | refine wQ wB rfl rfl rfl rfl ?_ | refine wG rfl rfl (wH rfl rfl rfl rfl (decide_eq_false (by omega)) rfl) rfl ?_ | refine wF wI rfl rfl ?_ | refine wJ ?_ | refine wC ?_ | refine wP ?_ | refine qA ?_ | refine wL rfl ?_)
  refine ⟨.inl rfl,_,rfl,?_⟩
  rw [← hc]
  exact rfl
def sizedB (n:Nat) (ms:List MM):Bool:=ms.all fun m=>decide (chk m=0∧m.2.length=n∧qB m.2=n)
set_option maxRecDepth 20000 in
set_option maxHeartbeats 3200000 in
theorem sized_v (n:Nat) (ms:List MM) (hn:n≤68719476736) (h:∀ m∈ms,okM m 68719476736) (hl:ms.length≤1099511627776):wT Tryz.prog 21 [.int .i64 (n:Nat),vMs ms] (fun y=>y=.bool (sizedB n ms)):=by
 refine wK wB Tryz.func21 rfl rfl rfl rfl fun w0=>?_
 repeat (first | refine wG rfl rfl (wR wB rfl rfl rfl rfl rfl rfl (mc_len _) rfl) rfl ?_ | refine wQ wB rfl rfl rfl rfl ?_ | refine wF wI rfl rfl ?_ | refine wJ ?_ | refine wM ?_ | refine wC ?_)
 refine qF (fun j:Nat=>[(0,some (.sv (.v (.int .i64 (n:Nat))))),(20,some (.sv (.v (vMs ms)))),(22,some (.sv (.v (.int .i64 (ms.length:Nat))))),(24,some (.sv (.v (.int .i64 (j:Nat)))))])
  (fun j=>j≤ms.length∧sizedB n (ms.drop j)=sizedB n ms) (fun j=>ms.length - j) 0 (fun _=>rfl) ⟨Nat.zero_le _,rfl⟩ ⟨rfl,rfl,rfl,rfl,trivial⟩ fun j hI=>?_
 obtain ⟨hJ,hc⟩:=hI
 rcases Nat.lt_or_ge j ms.length with hj | hj
 ·obtain ⟨m,hm⟩:∃ m,ms[j]? = some m:=⟨_,List.getElem?_eq_getElem hj⟩
  have hg:=mc_at ms j m hm
  have hok:=h m (List.mem_of_getElem? hm)
  have od:okZ m.1:=⟨hok.1,Nat.le_trans hok.2.1 (by decide)⟩
  have hml:m.2.length≤68719476736:=hok.2.2.1.1
  have hcl:qB m.2≤68719476736:=by
   unfold qB
   cases ht:m.2 with
   | nil=>exact Nat.zero_le _
   | cons r t2=>exact (hok.2.2.1.2 r (by rw [ht]; exact List.mem_cons_self ..)).1
  have q1:=qSize_v m od (by omega)
  rw [drop_cons' ms j m hm] at hc
  have hc2:(decide (chk m=0∧m.2.length=n∧qB m.2=n) && sizedB n (ms.drop (j+1)))=sizedB n ms:=hc
  obtain ⟨⟨x,l⟩,t⟩:=m
  dsimp only at hml hcl hc2 q1
  obtain ⟨c,hce⟩:∃ c,qB t=c:=⟨_,rfl⟩
  rw [hce] at q1 hc2 hcl
  obtain ⟨r,hre⟩:∃ c,t.length=c:=⟨_,rfl⟩
  rw [hre] at q1 hc2 hml
  generalize chk ((x,l),t)=e at *
  by_cases h0:e=0
  ·rw [if_pos h0] at q1
   by_cases h1:r=n
   ·by_cases h2:c=n
    ·rw [decide_eq_true ⟨h0,h1,h2⟩,Bool.true_and] at hc2
     repeat (first | refine wG rfl rfl (wU wB rfl rfl rfl (i:=j) rfl rfl rfl hg rfl rfl) rfl ?_ | refine wE wB rfl rfl rfl rfl rfl rfl rfl rfl (q1) rfl rfl ?_ | refine qP wB rfl rfl rfl rfl rfl rfl ?_ | refine wQ wB rfl rfl rfl rfl ?_ | refine wG rfl rfl (wH rfl rfl rfl rfl (decide_eq_true (by omega)) rfl) rfl ?_ | refine wG rfl rfl (wH rfl rfl rfl rfl (ndF (by omega)) rfl) rfl ?_ | refine wG rfl rfl (wX rfl rfl rfl rfl (qC (by omega) (by omega)) rfl) rfl ?_ | refine wF wI rfl rfl ?_ | refine wJ ?_ | refine wM ?_ | refine wC ?_ | refine wO ?_ | refine wN rfl ?_ | refine wL rfl ?_)
     exact ⟨j+1,⟨hj,hc2⟩,by omega,rfl,rfl,rfl,rfl,trivial⟩
    ·rw [decide_eq_false fun hh=>h2 hh.2.2,Bool.false_and] at hc2
     repeat (first | refine wG rfl rfl (wU wB rfl rfl rfl (i:=j) rfl rfl rfl hg rfl rfl) rfl ?_ | refine wE wB rfl rfl rfl rfl rfl rfl rfl rfl (q1) rfl rfl ?_ | refine qP wB rfl rfl rfl rfl rfl rfl ?_ | refine wQ wB rfl rfl rfl rfl ?_ | refine wG rfl rfl (wH rfl rfl rfl rfl (decide_eq_true (by omega)) rfl) rfl ?_ | refine wG rfl rfl (wH rfl rfl rfl rfl (ndT (by omega)) rfl) rfl ?_ | refine wG rfl rfl (wH rfl rfl rfl rfl (ndF (by omega)) rfl) rfl ?_ | refine wF wI rfl rfl ?_ | refine wJ ?_ | refine wM ?_ | refine wC ?_ | refine wP ?_ | refine wO ?_ | refine wN rfl ?_)
     refine ⟨.inl rfl,_,rfl,?_⟩
     rw [← hc2]
   ·rw [decide_eq_false fun hh=>h1 hh.2.1,Bool.false_and] at hc2
    repeat (first | refine wG rfl rfl (wU wB rfl rfl rfl (i:=j) rfl rfl rfl hg rfl rfl) rfl ?_ | refine wE wB rfl rfl rfl rfl rfl rfl rfl rfl (q1) rfl rfl ?_ | refine qP wB rfl rfl rfl rfl rfl rfl ?_ | refine wQ wB rfl rfl rfl rfl ?_ | refine wG rfl rfl (wH rfl rfl rfl rfl (decide_eq_true (by omega)) rfl) rfl ?_ | refine wG rfl rfl (wH rfl rfl rfl rfl (ndT (by omega)) rfl) rfl ?_ | refine wG rfl rfl (wH rfl rfl rfl rfl (ndF (by omega)) rfl) rfl ?_ | refine rr_no rfl rfl rfl rfl rfl rfl ?_ | refine wF wI rfl rfl ?_ | refine wJ ?_ | refine wM ?_ | refine wC ?_ | refine wP ?_ | refine wO ?_ | refine wN rfl ?_)
    refine ⟨.inl rfl,_,rfl,?_⟩
    rw [← hc2]
  ·rw [decide_eq_false fun hh=>h0 hh.1,Bool.false_and] at hc2
   rw [if_neg h0] at q1
   repeat (first | refine wG rfl rfl (wU wB rfl rfl rfl (i:=j) rfl rfl rfl hg rfl rfl) rfl ?_ | refine wE wB rfl rfl rfl rfl rfl rfl rfl rfl (q1) rfl rfl ?_ | refine qP wB rfl rfl rfl rfl rfl rfl ?_ | refine wQ wB rfl rfl rfl rfl ?_ | refine wG rfl rfl (wH rfl rfl rfl rfl (decide_eq_true (by omega)) rfl) rfl ?_ | refine wG rfl rfl (wH rfl rfl rfl rfl (ndT (by omega)) rfl) rfl ?_ | refine rr_no rfl rfl rfl rfl rfl rfl ?_ | refine wF wI rfl rfl ?_ | refine wJ ?_ | refine wM ?_ | refine wC ?_ | refine wP ?_ | refine wO ?_ | refine wN rfl ?_)
   refine ⟨.inl rfl,_,rfl,?_⟩
   rw [← hc2]
 ·rw [List.drop_of_length_le hj] at hc
  repeat (first | refine wQ wB rfl rfl rfl rfl ?_ | refine wG rfl rfl (wH rfl rfl rfl rfl (decide_eq_false (by omega)) rfl) rfl ?_ | refine wF wI rfl rfl ?_ | refine wJ ?_ | refine wC ?_ | refine wP ?_ | refine qA ?_ | refine wL rfl ?_)
  refine ⟨.inl rfl,_,rfl,?_⟩
  rw [← hc]
  exact rfl
set_option maxRecDepth 20000 in
set_option maxHeartbeats 3200000 in
theorem vequal_v (x x':Bool) (l l':List Nat) (t t':List (List ZZ)) (hc:chk ((x,l),t)=0) (hc':chk ((x',l'),t')=0) (hd:okL l∧l.length≤549755813888) (hd':okL l'∧l'.length≤549755813888) (ht:∀ r∈t,r.length≤1099511627776∧∀ z∈r,okL z.2∧z.2.length≤549755813888) (hl:t.length≤1099511627776)
  (ht':∀ r∈t',r.length≤1099511627776∧∀ z∈r,okL z.2∧z.2.length≤549755813888) (hl':t'.length≤1099511627776) :
  wT Tryz.prog 23 [.agg [.bool x,vL l,vT t],.agg [.bool x',vL l',vT t']] (fun y=>y=.bool (sameM ((x,l),t) ((x',l'),t'))):=by
 refine wK wB Tryz.func23 rfl rfl rfl rfl fun w0=>?_
 have q1:=qEqual_v x x' l l' t t' hc hc' hd hd' ht hl ht' hl'
 generalize sameM ((x,l),t) ((x',l'),t')=b at *
 cases b
 ·repeat (first | refine wQ wB rfl rfl rfl rfl ?_ | refine wE wB rfl rfl rfl rfl rfl rfl rfl rfl (q1) rfl rfl ?_ | refine rr_no rfl rfl rfl rfl rfl rfl ?_ | refine wF wI rfl rfl ?_ | refine wJ ?_ | refine wC ?_ | refine wP ?_)
  exact ⟨.inl rfl,_,rfl,rfl⟩
 ·repeat (first | refine wQ wB rfl rfl rfl rfl ?_ | refine wG rfl rfl (wH rfl rfl rfl rfl (decide_eq_true (by omega)) rfl) rfl ?_ | refine wE wB rfl rfl rfl rfl rfl rfl rfl rfl (q1) rfl rfl ?_ | refine wF wI rfl rfl ?_ | refine wJ ?_ | refine wC ?_ | refine wP ?_)
  exact ⟨.inl rfl,_,rfl,rfl⟩
end Go.Proofs.YtkjhfnhgefbhhaaGreat
namespace Go.Proofs.YtkjhfnhgefbhhaaGreat
open Go.RowKit Go.Ev Go.Vl
set_option maxRecDepth 20000 in
set_option maxHeartbeats 3200000 in
theorem product_v (m0:MM) (ms:List MM) (P:Nat→MM) (hP:P 0=m0) (hl:ms.length≤1099511627776) (h:∀ (j:Nat) (m:MM),ms[j]? = some m→wT Tryz.prog 62 [vM (P j),vM m] (fun y=>y=.tup [vM (P (j+1)),.int .i64 0])) :
  wT Tryz.prog 24 [vMs (m0 :: ms)] (fun y=>y=vM (P ms.length)):=by
 refine wK wB Tryz.func24 rfl rfl rfl rfl fun w0=>?_
 unfold vMs
 have hg0:=mc_at (m0 :: ms) 0 m0 rfl
 have hk3:∀ e∈(m0 :: ms).map mcell,e.length=3:=fun e h=>by
  obtain ⟨q,_,rfl⟩:=List.mem_map.1 h
  rfl
 have hle:1≤((m0 :: ms).map mcell).length:=by rw [mc_len]; show 1≤ms.length+1; omega
 have hdr:((m0 :: ms).map mcell).drop 1=ms.map mcell:=rfl
 have hl0:=mc_len ms
 have e00:=congrArg (fun m:MM=>m.1.1) hP
 have e01:=congrArg (fun m:MM=>m.1.2) hP
 have e02:=congrArg (fun m:MM=>m.2) hP
 obtain ⟨⟨x0,l0⟩,t0⟩:=m0
 dsimp only at e00 e01 e02
 generalize (((x0,l0),t0) :: ms).map mcell=L at *
 generalize hL1:ms.map mcell=L1 at *
 repeat (first | refine wG rfl rfl (wU wB rfl rfl rfl (i:=0) rfl rfl rfl hg0 rfl rfl) rfl ?_ | refine wG rfl rfl (sem_sliceFrom wB (l:=1) rfl rfl rfl rfl rfl rfl hk3 hle hdr rfl) rfl ?_ | refine wG rfl rfl (wR wB rfl rfl rfl rfl rfl rfl hl0 rfl) rfl ?_ | refine qP wB rfl rfl rfl rfl rfl rfl ?_ | refine wQ wB rfl rfl rfl rfl ?_ | refine wF wI rfl rfl ?_ | refine wJ ?_ | refine wM ?_ | refine wC ?_)
 refine qF (fun j:Nat=>[(4,some (.sv (.bx 2 0))),(5,some (.bx [.v (.bool false),.nils,.nils])),(6,some (.sv (.bx 3 0))),(7,some (.bx [.v (.bool (P j).1.1),.v (vL (P j).1.2),.v (vT (P j).2)])),(20,some (.sv (.v (.list L1)))),(22,some (.sv (.v (.int .i64 (ms.length:Nat))))),(24,some (.sv (.v (.int .i64 (j:Nat)))))])
  (fun j=>j≤ms.length) (fun j=>ms.length - j) 0 (fun _=>rfl) (Nat.zero_le _) ⟨rfl,rfl,rfl,by rw [e00,e01,e02]; exact rfl,rfl,rfl,rfl,trivial⟩ fun j hJ=>?_
 rcases Nat.lt_or_ge j ms.length with hj | hj
 ·obtain ⟨m,hm⟩:∃ m,ms[j]? = some m:=⟨_,List.getElem?_eq_getElem hj⟩
  have hg:=mc_at ms j m hm
  rw [hL1] at hg
  have q1:=h j m hm
  obtain ⟨⟨x,l⟩,t⟩:=m
  generalize P j=p at *
  generalize hpn:P (j+1)=p' at *
  obtain ⟨⟨px,pl⟩,pt⟩:=p
  obtain ⟨⟨px',pl'⟩,pt'⟩:=p'
  repeat (first | refine wG rfl rfl (wU wB rfl rfl rfl (i:=j) rfl rfl rfl hg rfl rfl) rfl ?_ | refine wE wB rfl rfl rfl rfl rfl rfl rfl rfl (q1) rfl rfl ?_ | refine qP wB rfl rfl rfl rfl rfl rfl ?_ | refine wQ wB rfl rfl rfl rfl ?_ | refine wG rfl rfl (wH rfl rfl rfl rfl (decide_eq_true (by omega)) rfl) rfl ?_ | refine wG rfl rfl (wX rfl rfl rfl rfl (qC (by omega) (by omega)) rfl) rfl ?_ | refine wF wI rfl rfl ?_ | refine wJ ?_ | refine wM ?_ | refine wC ?_ | refine wO ?_ | refine wN rfl ?_)
  exact ⟨j+1,hj,by omega,rfl,rfl,rfl,by rw [hpn]; exact rfl,rfl,rfl,rfl,trivial⟩
 ·have hje:j=ms.length:=by omega
  subst hje
  generalize P ms.length=p at *
  obtain ⟨⟨px,pl⟩,pt⟩:=p
  repeat (first | refine wQ wB rfl rfl rfl rfl ?_ | refine wG rfl rfl (wH rfl rfl rfl rfl (decide_eq_false (by omega)) rfl) rfl ?_ | refine wF wI rfl rfl ?_ | refine wJ ?_ | refine wC ?_ | refine wP ?_ | refine qA ?_ | refine wL rfl ?_)
  exact ⟨.inl rfl,_,rfl,rfl⟩
set_option maxRecDepth 20000 in
set_option maxHeartbeats 1600000 in
theorem qsized_v (n:Nat) (hn:n≤1000):wT Tryz.prog 118 [.list [[.int .i64 (n:Nat)]]] (fun y=>y=.int .i64 0):=by
 refine wK wB Tryz.func118 rfl rfl rfl rfl fun w0=>?_
 obtain ⟨L,hL⟩:∃ L:List (List V),[[V.int .i64 (n:Nat)]]=L:=⟨_,rfl⟩
 have hl:L.length=1:=by rw [← hL]; rfl
 have hg:L[0]? = some [V.int .i64 (n:Nat)]:=by rw [← hL]; rfl
 rw [hL]
 repeat (first | refine wG rfl rfl (wR wB rfl rfl rfl rfl rfl rfl hl rfl) rfl ?_ | refine wQ wB rfl rfl rfl rfl ?_ | refine wF wI rfl rfl ?_ | refine wJ ?_ | refine wM ?_ | refine wC ?_)
 refine qF (fun j:Nat=>[(0,some (.sv (.v (.list L)))),(14,some (.sv (.v (.list L)))),(16,some (.sv (.v (.int .i64 (1:Nat))))),(18,some (.sv (.v (.int .i64 (j:Nat)))))])
  (fun j=>j≤1) (fun j=>1 - j) 0 (fun _=>rfl) (Nat.zero_le _) ⟨rfl,rfl,rfl,rfl,trivial⟩ fun j hJ=>?_
 rcases Nat.lt_or_ge j 1 with hj | hj
 ·obtain rfl:j=0:=by omega
  repeat (first | refine wG rfl rfl (wU wB rfl rfl rfl (i:=0) rfl rfl rfl hg rfl rfl) rfl ?_ | refine wQ wB rfl rfl rfl rfl ?_ | refine wG rfl rfl (wH rfl rfl rfl rfl (decide_eq_true (by omega)) rfl) rfl ?_ | refine wG rfl rfl (wH rfl rfl rfl rfl (decide_eq_false (by omega)) rfl) rfl ?_ | refine wG rfl rfl (wX rfl rfl rfl rfl (qC (by omega) (by omega)) rfl) rfl ?_ | refine wF wI rfl rfl ?_ | refine wJ ?_ | refine wM ?_ | refine wC ?_ | refine wO ?_ | refine wN rfl ?_ | refine wL rfl ?_)
  exact ⟨1,Nat.le_refl _,by decide,rfl,rfl,rfl,rfl,trivial⟩
 ·obtain rfl:j=1:=by omega
  repeat (first | refine wG rfl rfl (wR wB rfl rfl rfl rfl rfl rfl hl rfl) rfl ?_ | refine wQ wB rfl rfl rfl rfl ?_ | refine wG rfl rfl (wH rfl rfl rfl rfl (decide_eq_false (by omega)) rfl) rfl ?_ | refine wF wI rfl rfl ?_ | refine wJ ?_ | refine wM ?_ | refine wC ?_ | refine qA ?_ | refine wL rfl ?_)
  refine qF (fun j:Nat=>[(32,some (.sv (.v (.list L)))),(34,some (.sv (.v (.int .i64 (1:Nat))))),(36,some (.sv (.v (.int .i64 (j:Nat)))))])
   (fun j=>j≤1) (fun j=>1 - j) 0 (fun _=>rfl) (Nat.zero_le _) ⟨rfl,rfl,rfl,trivial⟩ fun j hJ=>?_
  rcases Nat.lt_or_ge j 1 with hj | hj
  ·obtain rfl:j=0:=by omega
   repeat (first | refine wG rfl rfl (wU wB rfl rfl rfl (i:=0) rfl rfl rfl hg rfl rfl) rfl ?_ | refine wQ wB rfl rfl rfl rfl ?_ | refine wG rfl rfl (wH rfl rfl rfl rfl (decide_eq_true (by omega)) rfl) rfl ?_ | refine wG rfl rfl (wH rfl rfl rfl rfl (decide_eq_false (by omega)) rfl) rfl ?_ | refine wG rfl rfl (wX rfl rfl rfl rfl (qC (by omega) (by omega)) rfl) rfl ?_ | refine wF wI rfl rfl ?_ | refine wJ ?_ | refine wM ?_ | refine wC ?_ | refine wO ?_ | refine wN rfl ?_ | refine wL rfl ?_)
   exact ⟨1,Nat.le_refl _,by decide,rfl,rfl,rfl,trivial⟩
  ·obtain rfl:j=1:=by omega
   repeat (first | refine wQ wB rfl rfl rfl rfl ?_ | refine wG rfl rfl (wH rfl rfl rfl rfl (decide_eq_false (by omega)) rfl) rfl ?_ | refine wF wI rfl rfl ?_ | refine wJ ?_ | refine wC ?_ | refine wP ?_ | refine qA ?_ | refine wL rfl ?_)
   exact ⟨.inl rfl,_,rfl,rfl⟩
def oneI (i k:Nat):Int:=if i=k then 1 else 0
set_option maxRecDepth 20000 in
set_option maxHeartbeats 1600000 in
theorem ident1_v (i k:Nat) (hi:i<9223372036854775808) (hk:k<9223372036854775808):wT Tryz.prog 120 [.int .i64 (i:Nat),.int .i64 (k:Nat)] (fun y=>y=.agg (qI (zn (oneI i k)))):=by
 refine wK wB Tryz.func120 rfl rfl rfl rfl fun w0=>?_
 have q1:=zof_v 1 (by decide)
 have hz:qI (zn 0)=[V.bool false,V.list []]:=by
  unfold qI zn vL uL
  simp [zL]
 unfold oneI
 by_cases h:i=k
 ·rw [if_pos h]
  repeat (first | refine qP wB rfl rfl rfl rfl rfl rfl ?_ | refine wQ wB rfl rfl rfl rfl ?_ | refine wG rfl rfl (wH rfl rfl rfl rfl (decide_eq_true (by omega)) rfl) rfl ?_ | refine wE wB rfl rfl rfl rfl rfl rfl rfl rfl (q1) rfl rfl ?_ | refine wF wI rfl rfl ?_ | refine wJ ?_ | refine wC ?_ | refine wP ?_ | refine wN rfl ?_)
  exact ⟨.inl rfl,_,rfl,rfl⟩
 ·rw [if_neg h,hz]
  repeat (first | refine qP wB rfl rfl rfl rfl rfl rfl ?_ | refine wQ wB rfl rfl rfl rfl ?_ | refine wG rfl rfl (wH rfl rfl rfl rfl (decide_eq_false (by omega)) rfl) rfl ?_ | refine wF wI rfl rfl ?_ | refine wJ ?_ | refine wC ?_ | refine wP ?_ | refine wO ?_ | refine wL rfl ?_)
  exact ⟨.inl rfl,_,rfl,rfl⟩
def idM (n:Nat):MM:=madeM (zn 1) (tabF n n fun i k=>zn (oneI i k))
theorem lm_one (i k:Nat):lm (oneI i k)≤1:=by
 have h1:lm 1=1:=by unfold lm; simp [toL,zL]
 unfold oneI
 split
 ·omega
 ·unfold lm; simp [zL]
set_option maxRecDepth 20000 in
set_option maxHeartbeats 3200000 in
theorem qIdentity_v (n:Nat) (hn:n≤1000):wT Tryz.prog 63 [.int .i64 (n:Nat)] (fun y=>y=.tup [vM (idM n),.int .i64 0]):=by
 refine wK wB Tryz.func63 rfl rfl rfl rfl fun w0=>?_
 have q1:=qsized_v n hn
 have q2:=zof_v 1 (by decide)
 have q3:=table_v n n 120 Tryz.f120 [] [] (fun i k=>zn (oneI i k)) rfl (fun i k hi hk=>ident1_v i k (by omega) (by omega)) (by omega) (by omega)
 have q4:=made_v (zn 1) (tabF n n fun i k=>zn (oneI i k)) (kI _ (by have:=lm_one 0 0; unfold oneI at this; rw [if_pos rfl] at this; omega)) (by rw [wS]; decide) (fun r h z hz=>by
  obtain ⟨i,k,rfl⟩:=(tabF_mem h).2 z hz
  have:=lm_one i k
  exact kI _ (by omega)) (by unfold tabF; simp only [List.length_map,List.length_range]; omega) (fun r h=>by rw [(tabF_mem h).1]; omega)
 repeat (first | refine qP wB rfl rfl rfl rfl rfl rfl ?_ | refine wQ wB rfl rfl rfl rfl ?_ | refine wG rfl rfl (wH rfl rfl rfl rfl (ndF (by omega)) rfl) rfl ?_ | refine zM wB rfl rfl rfl rfl rfl rfl rfl rfl rfl (q1) rfl rfl ?_ | refine wE wB rfl rfl rfl rfl rfl rfl rfl rfl (q2) rfl rfl ?_ | refine wE wB rfl rfl rfl rfl rfl rfl rfl rfl (q3) rfl rfl ?_ | refine wE wB rfl rfl rfl rfl rfl rfl rfl rfl (q4) rfl rfl ?_ | refine wF wI rfl rfl ?_ | refine wJ ?_ | refine wC ?_ | refine wP ?_ | refine wO ?_ | refine wL rfl ?_)
 exact ⟨.inl rfl,_,rfl,rfl⟩
set_option maxRecDepth 20000 in
set_option maxHeartbeats 1600000 in
theorem identity_v (n:Nat) (hn:n≤1000):wT Tryz.prog 25 [.int .i64 (n:Nat)] (fun y=>y=vM (idM n)):=by
 refine wK wB Tryz.func25 rfl rfl rfl rfl fun w0=>?_
 have q1:=qIdentity_v n hn
 generalize idM n=m at *
 obtain ⟨⟨x,l⟩,t⟩:=m
 repeat (first | refine qP wB rfl rfl rfl rfl rfl rfl ?_ | refine wQ wB rfl rfl rfl rfl ?_ | refine wE wB rfl rfl rfl rfl rfl rfl rfl rfl (q1) rfl rfl ?_ | refine wF wI rfl rfl ?_ | refine wJ ?_ | refine wC ?_ | refine wP ?_)
 exact ⟨.inl rfl,_,rfl,rfl⟩
end Go.Proofs.YtkjhfnhgefbhhaaGreat
namespace Go.Proofs.YtkjhfnhgefbhhaaGreat
open Go.RowKit Go.Ev Go.Vl
theorem madeM_ok {d:ZZ} {r c K:Nat} {F:Nat→Nat→Int} (h0:intOf d≠0) (hd:lm (intOf d)≤K) (hK:1≤K) (hF:∀ i k,lm (F i k)≤K) (hr:r≤68719476736) (hc:c≤68719476736) (hrc:r*c≤68719476736) :
  okM (madeM d (tabF r c fun i k=>zn (F i k))) K∧chk (madeM d (tabF r c fun i k=>zn (F i k)))=0∧(madeM d (tabF r c fun i k=>zn (F i k))).2.length=r∧∀ x∈(madeM d (tabF r c fun i k=>zn (F i k))).2,x.length=c:=by
 obtain ⟨hS1,hS2,_⟩:=madeS_spec d (tabF r c fun i k=>zn (F i k)) h0
 have hlen:(madeM d (tabF r c fun i k=>zn (F i k))).2.length=r:=by
  show (List.map _ (tabF r c fun i k=>zn (F i k))).length=r
  unfold tabF
  simp only [List.length_map,List.length_range]
 have hrow:∀ x∈(madeM d (tabF r c fun i k=>zn (F i k))).2,x.length=c∧∀ z∈x,okL z.2∧z.2.length≤K:=by
  intro x hx
  obtain ⟨r',h1,rfl⟩:=List.mem_map.1 hx
  obtain ⟨g1,g2⟩:=tabF_mem h1
  refine ⟨by rw [List.length_map]; exact g1,fun z hz=>?_⟩
  obtain ⟨z',hz',rfl⟩:=List.mem_map.1 hz
  obtain ⟨i,k,rfl⟩:=g2 z' hz'
  refine ⟨zn_okL _,?_⟩
  rw [zn_lm]
  refine Nat.le_trans (lm_mono (y:=F i k) ?_) (hF i k)
  rw [Int.natAbs_tdiv,wS]
  exact Nat.div_le_self ..
 have hden:lm (if qB (tabF r c fun i k=>zn (F i k))=0 then 1 else (intOf d).tdiv (madeS d (tabF r c fun i k=>zn (F i k))))≤K:=by
  split
  ·exact Nat.le_trans (lm_dvd (Int.one_dvd _) h0) hd
  ·refine Nat.le_trans (lm_mono (y:=intOf d) ?_) hd
   rw [Int.natAbs_tdiv]
   exact Nat.div_le_self ..
 refine ⟨⟨zn_okL _,hden,⟨by rw [hlen]; exact hr,fun x hx=>⟨by rw [(hrow x hx).1]; exact hc,(hrow x hx).2⟩⟩,by rw [flat_const fun x hx=>(hrow x hx).1,hlen]; exact hrc⟩,chk_of _ ?_ (even_of _ _ fun x hx=>(hrow x hx).1),hlen,fun x hx=>(hrow x hx).1⟩
 show intOf (zn (if qB (tabF r c fun i k=>zn (F i k))=0 then 1 else (intOf d).tdiv (madeS d (tabF r c fun i k=>zn (F i k)))))≠0
 rw [wS]
 split
 ·decide
 ·intro hz
  have:=Int.mul_tdiv_cancel' hS2
  rw [hz,Int.mul_zero] at this
  exact h0 this.symm
structure sqM (m:MM) (n K:Nat):Prop where
 ok:okM m K
 ch:chk m=0
 rows:m.2.length=n
 cols:∀ x∈m.2,x.length=n
theorem sqM.den {m:MM} {n K:Nat} (h:sqM m n K):intOf m.1≠0:=(chk0 h.ch).1
theorem sqM.cl {m:MM} {n K:Nat} (h:sqM m n K) (hn:0<n):qB m.2=n:=by
 unfold qB
 cases hm:m.2 with
 | nil=>have:=h.rows; rw [hm] at this; simp at this; omega
 | cons r t=>exact h.cols r (by rw [hm]; exact List.mem_cons_self ..)
theorem sqM.mono {m:MM} {n K K':Nat} (h:sqM m n K) (hk:K≤K'):sqM m n K':=⟨okM_mono h.ok hk,h.ch,h.rows,h.cols⟩
theorem sqM.of {m:MM} {n K:Nat} (h:okM m K) (hc:chk m=0) (hr:m.2.length=n) (hl:qB m.2=n):sqM m n K:=⟨h,hc,hr,fun x hx=>by rw [of_even _ (chk0 hc).2 x hx,hl]⟩
theorem sqM.mul {m m':MM} {n K:Nat} (h:sqM m n K) (h':sqM m' n K) (hn:0<n) (hn':n≤24) (hK:1≤K):sqM (mulM m m') n (2*K+24):=by
 have e1:=h.cl hn
 have e2:=h'.cl hn
 have l1:=lm_mul (intOf m.1) (intOf m'.1)
 have l3:=qL m.1 h.ok.1
 have l4:=qL m'.1 h'.ok.1
 have l5:=h.ok.2.1
 have l6:=h'.ok.2.1
 obtain ⟨g1,g2,g3,g4⟩:=madeM_ok (d:=zn (intOf m.1*intOf m'.1)) (r:=m.2.length) (c:=qB m'.2) (K:=2*K+24) (F:=fun i k=>prodI m.2 m'.2 i k (qB m.2)) (by rw [wS]; exact Int.mul_ne_zero h.den h'.den) (by rw [wS]; omega) (by omega) (fun i k=>by
  have:=lm_prodI m.2 m'.2 K 0 i k (lm_ent h.ok.2.2.1) (lm_ent h'.ok.2.2.1) (qB m.2)
  show lm (prodI m.2 m'.2 i k (qB m.2))≤_
  omega) (by rw [h.rows]; omega) (by omega) (by rw [h.rows,e2]; exact Nat.le_trans (Nat.mul_le_mul hn' hn') (by decide))
 exact ⟨g1,g2,g3.trans h.rows,fun x hx=>(g4 x hx).trans e2⟩
theorem sqM.id (n:Nat) (hn':n≤24):sqM (idM n) n 1:=by
 have h1:lm 1≤1:=by have:=lm_one 0 0; unfold oneI at this; rwa [if_pos rfl] at this
 obtain ⟨g1,g2,g3,g4⟩:=madeM_ok (d:=zn 1) (r:=n) (c:=n) (K:=1) (F:=oneI) (by rw [wS]; decide) (by rw [wS]; exact h1) (Nat.le_refl _) lm_one (by omega) (by omega) (Nat.le_trans (Nat.mul_le_mul hn' hn') (by decide))
 exact ⟨g1,g2,g3,g4⟩
theorem qMul_sq {m m':MM} {n K:Nat} (h:sqM m n K) (h':sqM m' n K) (hn:0<n) (hK:K≤68719476736):wT Tryz.prog 62 [vM m,vM m'] (fun y=>y=.tup [vM (mulM m m'),.int .i64 0]):=by
 have e1:=h.cl hn
 have e2:=h'.cl hn
 have r1:=h.rows
 have r2:=h'.rows
 have c1:=h.cols
 have c2:=h'.cols
 have d1:=h.den
 have d2:=h'.den
 have o1:=h.ok
 have o2:=h'.ok
 have k1:=h.ch
 have k2:=h'.ch
 clear h h'
 obtain ⟨⟨x,l⟩,t⟩:=m
 obtain ⟨⟨x',l'⟩,t'⟩:=m'
 dsimp only at e1 e2 r1 r2 c1 c2
 exact qMul_v x x' l l' t t' K hK k1 k2 d1 d2 ⟨o1.1,o1.2.1⟩ ⟨o2.1,o2.2.1⟩ o1.2.2.1 o2.2.2.1 (fun r hr=>by rw [c1 r hr,e1]) (fun r hr=>by rw [c2 r hr,e2]) (by omega)
theorem vequal_sq {m m':MM} {n K:Nat} (h:sqM m n K) (h':sqM m' n K) (hK:K≤68719476736):wT Tryz.prog 23 [vM m,vM m'] (fun y=>y=.bool (sameM m m')):=by
 have o1:=h.ok
 have o2:=h'.ok
 have k1:=h.ch
 have k2:=h'.ch
 clear h h'
 obtain ⟨⟨x,l⟩,t⟩:=m
 obtain ⟨⟨x',l'⟩,t'⟩:=m'
 exact vequal_v x x' l l' t t' k1 k2 ⟨o1.1,Nat.le_trans o1.2.1 (by omega)⟩ ⟨o2.1,Nat.le_trans o2.2.1 (by omega)⟩ (fun r hr=>⟨Nat.le_trans (o1.2.2.1.2 r hr).1 (by decide),fun z hz=>⟨((o1.2.2.1.2 r hr).2 z hz).1,Nat.le_trans ((o1.2.2.1.2 r hr).2 z hz).2 (by omega)⟩⟩) (Nat.le_trans o1.2.2.1.1 (by decide))
  (fun r hr=>⟨Nat.le_trans (o2.2.2.1.2 r hr).1 (by decide),fun z hz=>⟨((o2.2.2.1.2 r hr).2 z hz).1,Nat.le_trans ((o2.2.2.1.2 r hr).2 z hz).2 (by omega)⟩⟩) (Nat.le_trans o2.2.2.1.1 (by decide))
theorem product2_v {m m':MM} {n K:Nat} (h:sqM m n K) (h':sqM m' n K) (hn:0<n) (hK:K≤68719476736):wT Tryz.prog 24 [vMs [m,m']] (fun y=>y=vM (mulM m m')) :=
 product_v m [m'] (fun j=>match j with | 0=>m | _=>mulM m m') rfl (by show 1≤1099511627776; decide) fun j x hx=>by
  match j,hx with
  | 0,hx =>
   cases hx
   exact qMul_sq h h' hn hK
theorem product3_v {m m' m2:MM} {n K:Nat} (h:sqM m n K) (h':sqM m' n K) (h2:sqM m2 n K) (hn:0<n) (hn':n≤24) (hK1:1≤K) (hK:K≤1073741824):wT Tryz.prog 24 [vMs [m,m',m2]] (fun y=>y=vM (mulM (mulM m m') m2)) :=
 product_v m [m',m2] (fun j=>match j with | 0=>m | 1=>mulM m m' | _=>mulM (mulM m m') m2) rfl (by show 2≤1099511627776; decide) fun j x hx=>by
  match j,hx with
  | 0,hx =>
   cases hx
   exact qMul_sq h h' hn (by omega)
  | 1,hx =>
   cases hx
   exact qMul_sq (K:=2*K+24) (h.mul h' hn hn' hK1) (h2.mono (by omega)) hn (by omega)
set_option maxRecDepth 20000 in
set_option maxHeartbeats 1600000 in
theorem vsim1_v (n:Nat) (hn:n≤68719476736) (x x':Bool) (l l':List Nat) (t t':List (List ZZ)) (h:okM ((x,l),t) 68719476736) (h':okM ((x',l'),t') 68719476736) :
  wT Tryz.prog 20 [.ref [.int .i64 (n:Nat)],.ref [.bool x,vL l,vT t],.ref [.bool x',vL l',vT t']] (fun y=>y=.bool (sizedB n [((x,l),t),((x',l'),t')])):=by
 refine wK wB Tryz.func20 rfl rfl rfl rfl fun w0=>?_
 have q1:=sized_v n [((x,l),t),((x',l'),t')] hn (fun m hm=>by
  rcases List.mem_cons.1 hm with rfl | hm
  ·exact h
  ·rw [List.mem_singleton.1 hm]; exact h') (by show 2≤1099511627776; decide)
 repeat (first | refine wQ wB rfl rfl rfl rfl ?_ | refine zM wB rfl rfl rfl rfl rfl rfl rfl rfl rfl (q1) rfl rfl ?_ | refine wF wI rfl rfl ?_ | refine wJ ?_ | refine wC ?_ | refine wP ?_)
 exact ⟨.inl rfl,_,rfl,rfl⟩
set_option maxRecDepth 20000 in
set_option maxHeartbeats 1600000 in
theorem vsim2_v (n:Nat) (hn:0<n) (hn':n≤24) (x x':Bool) (l l':List Nat) (t t':List (List ZZ)) (h:sqM ((x,l),t) n 1073741824) (h':sqM ((x',l'),t') n 1073741824) :
  wT Tryz.prog 22 [.ref [.bool x,vL l,vT t],.ref [.bool x',vL l',vT t'],.ref [.int .i64 (n:Nat)]] (fun y=>y=.bool (sameM (mulM ((x,l),t) ((x',l'),t')) (idM n))):=by
 refine wK wB Tryz.func22 rfl rfl rfl rfl fun w0=>?_
 have q1:=product2_v h h' hn (by decide)
 have q2:=identity_v n (by omega)
 have q3:=vequal_sq (K:=2147483672) (h.mul h' hn hn' (by decide)) ((sqM.id n hn').mono (by decide)) (by decide)
 generalize mulM ((x,l),t) ((x',l'),t')=P at *
 generalize idM n=I at *
 generalize sameM P I=b at *
 obtain ⟨⟨px,pl⟩,pt⟩:=P
 obtain ⟨⟨ix,il⟩,it⟩:=I
 repeat (first | refine wQ wB rfl rfl rfl rfl ?_ | refine zM wB rfl rfl rfl rfl rfl rfl rfl rfl rfl (q1) rfl rfl ?_ | refine wE wB rfl rfl rfl rfl rfl rfl rfl rfl (q2) rfl rfl ?_ | refine wE wB rfl rfl rfl rfl rfl rfl rfl rfl (q3) rfl rfl ?_ | refine wF wI rfl rfl ?_ | refine wJ ?_ | refine wC ?_ | refine wP ?_)
 exact ⟨.inl rfl,_,rfl,rfl⟩
set_option maxRecDepth 20000 in
set_option maxHeartbeats 1600000 in
theorem vsim3_v (n:Nat) (hn:0<n) (hn':n≤24) (x x' x2 x3:Bool) (l l' l2 l3:List Nat) (t t' t2 t3:List (List ZZ)) (h:sqM ((x,l),t) n 1073741824) (h':sqM ((x',l'),t') n 1073741824) (h2:sqM ((x2,l2),t2) n 1073741824) (h3:sqM ((x3,l3),t3) n 1073741824) :
  wT Tryz.prog 26 [.ref [.bool x,vL l,vT t],.ref [.bool x',vL l',vT t'],.ref [.bool x2,vL l2,vT t2],.ref [.bool x3,vL l3,vT t3]] (fun y=>y=.bool (sameM (mulM (mulM ((x,l),t) ((x',l'),t')) ((x2,l2),t2)) ((x3,l3),t3))):=by
 refine wK wB Tryz.func26 rfl rfl rfl rfl fun w0=>?_
 have q1:=product3_v h h' h2 hn hn' (by decide) (by decide)
 have q3:=vequal_sq (K:=4294967368) (sqM.mul (K:=2147483672) (h.mul h' hn hn' (by decide)) (h2.mono (by decide)) hn hn' (by decide)) (h3.mono (by decide)) (by decide)
 generalize mulM (mulM ((x,l),t) ((x',l'),t')) ((x2,l2),t2)=P at *
 generalize hb:sameM P ((x3,l3),t3)=b at *
 obtain ⟨⟨px,pl⟩,pt⟩:=P
 repeat (first | refine wQ wB rfl rfl rfl rfl ?_ | refine zM wB rfl rfl rfl rfl rfl rfl rfl rfl rfl (q1) rfl rfl ?_ | refine wE wB rfl rfl rfl rfl rfl rfl rfl rfl (q3) rfl rfl ?_ | refine wF wI rfl rfl ?_ | refine wJ ?_ | refine wC ?_ | refine wP ?_)
 exact ⟨.inl rfl,_,rfl,rfl⟩
end Go.Proofs.YtkjhfnhgefbhhaaGreat
namespace Go.Proofs.YtkjhfnhgefbhhaaGreat
open Go.RowKit Go.Ev Go.Vl
def rM (m:MM):V:=.ref [.bool m.1.1,vL m.1.2,vT m.2]
def simC (n:Nat) (a b s i:MM):List Chk:=[⟨1,20,[.ref [.int .i64 (n:Nat)],rM s,rM i],sizedB n [s,i]⟩,⟨4,22,[rM s,rM i,.ref [.int .i64 (n:Nat)]],sameM (mulM s i) (idM n)⟩,⟨5,26,[rM i,rM a,rM s,rM b],sameM (mulM (mulM i a) s) b⟩]
theorem sized_two {n K:Nat} {s i:MM} (h:sizedB n [s,i]=true) (hs:okM s K) (hi:okM i K):sqM s n K∧sqM i n K:=by
 simp only [sizedB,List.all_cons,List.all_nil,Bool.and_true,Bool.and_eq_true,decide_eq_true_eq] at h
 exact ⟨sqM.of hs h.1.1 h.1.2.1 h.1.2.2,sqM.of hi h.2.1 h.2.2.1 h.2.2.2⟩
set_option maxRecDepth 20000 in
theorem simC_first {n:Nat} {a b s i:MM} (hn:0<n) (hn':n≤24) (ha:sqM a n 1073741824) (hb:sqM b n 1073741824) (hs:okM s 1073741824) (hi:okM i 1073741824):wT Tryz.prog 19 [.list ((simC n a b s i).map chkV)] (fun y=>y=.int .i64 (firstI (simC n a b s i))):=by
 refine first_v _ (by show 3≤1099511627776; decide) fun j k hk hall=>?_
 match j,hk with
 | 0,hk =>
  cases hk
  obtain ⟨⟨x,l⟩,t⟩:=s
  obtain ⟨⟨x',l'⟩,t'⟩:=i
  exact ⟨⟨Tryz.f20,(rfl:zH.fns.get 20=some Tryz.f20)⟩,vsim1_v n (by omega) x x' l l' t t' (okM_mono hs (by decide)) (okM_mono hi (by decide))⟩
 | 1,hk =>
  cases hk
  obtain ⟨g1,g2⟩:=sized_two (hall 0 _ (by decide) rfl) hs hi
  obtain ⟨⟨x,l⟩,t⟩:=s
  obtain ⟨⟨x',l'⟩,t'⟩:=i
  exact ⟨⟨Tryz.f22,(rfl:zH.fns.get 22=some Tryz.f22)⟩,vsim2_v n hn hn' x x' l l' t t' g1 g2⟩
 | 2,hk =>
  cases hk
  obtain ⟨g1,g2⟩:=sized_two (hall 0 _ (by decide) rfl) hs hi
  obtain ⟨⟨x,l⟩,t⟩:=s
  obtain ⟨⟨x',l'⟩,t'⟩:=i
  obtain ⟨⟨x2,l2⟩,t2⟩:=a
  obtain ⟨⟨x3,l3⟩,t3⟩:=b
  exact ⟨⟨Tryz.f26,(rfl:zH.fns.get 26=some Tryz.f26)⟩,vsim3_v n hn hn' x' x2 x x3 l' l2 l l3 t' t2 t t3 g2 ha g1 hb⟩
theorem fit_sq {m:MM} {K:Nat} (h:okM m K) (hf:fit1 m=0):sqM m m.2.length K∧0<m.2.length∧m.2.length≤24:=by
 obtain ⟨g1,g2,g3,g4,_⟩:=fit10 hf
 exact ⟨sqM.of h g1 rfl g2.symm,by omega,g4⟩
set_option maxRecDepth 20000 in
set_option maxHeartbeats 6400000 in
theorem vsimilar_v (xa xb xs xi:Bool) (la lb ls li:List Nat) (ta tb ts ti:List (List ZZ)) (ha:okM ((xa,la),ta) 1073741824) (hb:okM ((xb,lb),tb) 1073741824) (hs:okM ((xs,ls),ts) 1073741824) (hi:okM ((xi,li),ti) 1073741824) :
  wT Tryz.prog 6 [.agg [.bool xa,vL la,vT ta],.agg [.bool xb,vL lb,vT tb],.agg [.bool xs,vL ls,vT ts],.agg [.bool xi,vL li,vT ti]] (fun y=>y=.tup [.int .i64 (if alikeI ((xa,la),ta) ((xb,lb),tb)=0 then firstI (simC ta.length ((xa,la),ta) ((xb,lb),tb) ((xs,ls),ts) ((xi,li),ti)) else 0),.int .i64 (alikeI ((xa,la),ta) ((xb,lb),tb))]):=by
 refine wK wB Tryz.func6 rfl rfl rfl rfl fun w0=>?_
 have q1:=vfit_v xa la ta (okM_mono ha (by decide))
 have q2:=vfit_v xb lb tb (okM_mono hb (by decide))
 have hla:ta.length≤68719476736:=ha.2.2.1.1
 have hlb:tb.length≤68719476736:=hb.2.2.1.1
 have e0:alikeI ((xa,la),ta) ((xb,lb),tb)=if fit1 ((xa,la),ta)=0 then (if fit1 ((xb,lb),tb)=0 then (if ta.length=tb.length then 0 else 2) else fit1 ((xb,lb),tb)) else fit1 ((xa,la),ta):=by
  have e:fits [((xa,la),ta),((xb,lb),tb)]=if fit1 ((xa,la),ta)=0 then (if fit1 ((xb,lb),tb)=0 then 0 else fit1 ((xb,lb),tb)) else fit1 ((xa,la),ta):=rfl
  unfold alikeI
  rw [e]
  dsimp only
  by_cases f1:fit1 ((xa,la),ta)=0
  ·by_cases f2:fit1 ((xb,lb),tb)=0
   ·simp only [if_pos f1,if_pos f2,if_true]
   ·simp only [if_pos f1,if_neg f2]
  ·simp only [if_neg f1]
 have q3:fit1 ((xa,la),ta)=0→fit1 ((xb,lb),tb)=0→ta.length=tb.length→wT Tryz.prog 19 [.list ((simC ta.length ((xa,la),ta) ((xb,lb),tb) ((xs,ls),ts) ((xi,li),ti)).map chkV)] (fun y=>y=.int .i64 (firstI (simC ta.length ((xa,la),ta) ((xb,lb),tb) ((xs,ls),ts) ((xi,li),ti)))):=fun f1 f2 f3=>by
  obtain ⟨s1,s2,s3⟩:=fit_sq ha f1
  obtain ⟨s4,_,_⟩:=fit_sq hb f2
  dsimp only at s1 s2 s3 s4
  rw [← f3] at s4
  exact simC_first s2 s3 s1 s4 hs hi
 rw [e0]
 generalize hF:firstI (simC ta.length ((xa,la),ta) ((xb,lb),tb) ((xs,ls),ts) ((xi,li),ti))=F at *
 generalize fit1 ((xa,la),ta)=fa at *
 generalize fit1 ((xb,lb),tb)=fb at *
 clear e0
 repeat (first | refine wQ wB rfl rfl rfl rfl ?_ | refine wF wI rfl rfl ?_ | refine wJ ?_ | refine wM ?_ | refine wC ?_)
 refine qF (fun j:Nat=>[(8,some (.sv (.bx 4 0))),(9,some (.bx [.v (.bool xa),.v (vL la),.v (vT ta)])),(10,some (.sv (.bx 5 0))),(11,some (.bx [.v (.bool xb),.v (vL lb),.v (vT tb)])),(12,some (.sv (.bx 6 0))),(13,some (.bx [.v (.bool xs),.v (vL ls),.v (vT ts)])),(14,some (.sv (.bx 7 0))),(15,some (.bx [.v (.bool xi),.v (vL li),.v (vT ti)])),(32,some (.sv (.v (.agg [.bool xa,vL la,vT ta,.bool xb,vL lb,vT tb])))),(34,some (.sv (.v (.int .i64 (j:Nat)))))])
  (fun j=>j≤2∧(1≤j→fa=0)∧(2≤j→fb=0)) (fun j=>2 - j) 0 (fun _=>rfl) ⟨by decide,fun h=>by omega,fun h=>by omega⟩ ⟨rfl,rfl,rfl,rfl,rfl,rfl,rfl,rfl,rfl,rfl,trivial⟩ fun j hI=>?_
 obtain ⟨hJ,h1,h2⟩:=hI
 have hj:j=0∨j=1∨j=2:=by omega
 rcases hj with rfl | rfl | rfl
 ·by_cases f1:fa=0
  ·repeat (first | refine qP wB rfl rfl rfl rfl rfl rfl ?_ | refine wQ wB rfl rfl rfl rfl ?_ | refine wG rfl rfl (wH rfl rfl rfl rfl (decide_eq_true (by omega)) rfl) rfl ?_ | refine wG rfl rfl (wH rfl rfl rfl rfl (ndF (by omega)) rfl) rfl ?_ | refine wG rfl rfl (wX rfl rfl rfl rfl (qC (by omega) (by omega)) rfl) rfl ?_ | refine wG rfl rfl (sem_index wB (i:=0) rfl rfl rfl rfl rfl (by decide) rfl rfl) rfl ?_ | refine wE wB rfl rfl rfl rfl rfl rfl rfl rfl (q1) rfl rfl ?_ | refine wF wI rfl rfl ?_ | refine wJ ?_ | refine wM ?_ | refine wC ?_ | refine wO ?_ | refine wN rfl ?_ | refine wL rfl ?_)
   exact ⟨1,⟨by decide,fun _=>f1,fun h=>by omega⟩,by decide,rfl,rfl,rfl,rfl,rfl,rfl,rfl,rfl,rfl,rfl,trivial⟩
  ·repeat (first | refine qP wB rfl rfl rfl rfl rfl rfl ?_ | refine wQ wB rfl rfl rfl rfl ?_ | refine wG rfl rfl (wH rfl rfl rfl rfl (decide_eq_true (by omega)) rfl) rfl ?_ | refine wG rfl rfl (wH rfl rfl rfl rfl (ndT (by omega)) rfl) rfl ?_ | refine wG rfl rfl (sem_index wB (i:=0) rfl rfl rfl rfl rfl (by decide) rfl rfl) rfl ?_ | refine wE wB rfl rfl rfl rfl rfl rfl rfl rfl (q1) rfl rfl ?_ | refine wF wI rfl rfl ?_ | refine wJ ?_ | refine wM ?_ | refine wC ?_ | refine wP ?_ | refine wO ?_ | refine wN rfl ?_)
   refine ⟨.inl rfl,_,rfl,?_⟩
   simp only [if_neg f1]
 ·have f1:=h1 (Nat.le_refl _)
  by_cases f2:fb=0
  ·repeat (first | refine qP wB rfl rfl rfl rfl rfl rfl ?_ | refine wQ wB rfl rfl rfl rfl ?_ | refine wG rfl rfl (wH rfl rfl rfl rfl (decide_eq_true (by omega)) rfl) rfl ?_ | refine wG rfl rfl (wH rfl rfl rfl rfl (ndF (by omega)) rfl) rfl ?_ | refine wG rfl rfl (wX rfl rfl rfl rfl (qC (by omega) (by omega)) rfl) rfl ?_ | refine wG rfl rfl (sem_index wB (i:=1) rfl rfl rfl rfl rfl (by decide) rfl rfl) rfl ?_ | refine wE wB rfl rfl rfl rfl rfl rfl rfl rfl (q2) rfl rfl ?_ | refine wF wI rfl rfl ?_ | refine wJ ?_ | refine wM ?_ | refine wC ?_ | refine wO ?_ | refine wN rfl ?_ | refine wL rfl ?_)
   exact ⟨2,⟨by decide,fun _=>f1,fun _=>f2⟩,by decide,rfl,rfl,rfl,rfl,rfl,rfl,rfl,rfl,rfl,rfl,trivial⟩
  ·repeat (first | refine qP wB rfl rfl rfl rfl rfl rfl ?_ | refine wQ wB rfl rfl rfl rfl ?_ | refine wG rfl rfl (wH rfl rfl rfl rfl (decide_eq_true (by omega)) rfl) rfl ?_ | refine wG rfl rfl (wH rfl rfl rfl rfl (ndT (by omega)) rfl) rfl ?_ | refine wG rfl rfl (sem_index wB (i:=1) rfl rfl rfl rfl rfl (by decide) rfl rfl) rfl ?_ | refine wE wB rfl rfl rfl rfl rfl rfl rfl rfl (q2) rfl rfl ?_ | refine wF wI rfl rfl ?_ | refine wJ ?_ | refine wM ?_ | refine wC ?_ | refine wP ?_ | refine wO ?_ | refine wN rfl ?_)
   refine ⟨.inl rfl,_,rfl,?_⟩
   simp only [if_pos f1,if_neg f2]
 ·have f1:=h1 (by decide)
  have f2:=h2 (Nat.le_refl _)
  by_cases f3:ta.length=tb.length
  ·have q4:=q3 f1 f2 f3
   simp only [if_pos f1,if_pos f2,if_pos f3,if_true]
   repeat (first | refine wG rfl rfl (wR wB rfl rfl rfl rfl rfl rfl (zY ta) rfl) rfl ?_ | refine wG rfl rfl (wR wB rfl rfl rfl rfl rfl rfl (zY tb) rfl) rfl ?_ | refine vw_toF 11 [(8,some (.sv (.bx 4 0))),(9,some (.bx [.v (.bool xa),.v (vL la),.v (vT ta)])),(10,some (.sv (.bx 5 0))),(11,some (.bx [.v (.bool xb),.v (vL lb),.v (vT tb)])),(12,some (.sv (.bx 6 0))),(13,some (.bx [.v (.bool xs),.v (vL ls),.v (vT ts)])),(14,some (.sv (.bx 7 0))),(15,some (.bx [.v (.bool xi),.v (vL li),.v (vT ti)])),(26,some (.sv (.bx 13 0))),(27,some (.bx [.v (.int .i64 (ta.length:Nat))]))] [(8,some (.sv (.v (rM ((xa,la),ta))))),(10,some (.sv (.v (rM ((xb,lb),tb))))),(12,some (.sv (.v (rM ((xs,ls),ts))))),(14,some (.sv (.v (rM ((xi,li),ti))))),(26,some (.sv (.v (.ref [.int .i64 (ta.length:Nat)]))))] rfl ⟨rfl,rfl,rfl,rfl,rfl,rfl,rfl,rfl,rfl,rfl,trivial⟩ (fun h=>vw_frzB 4 4 rfl rfl rfl (vw_frzB 5 5 rfl rfl rfl (vw_frzB 6 6 rfl rfl rfl (vw_frzB 7 7 rfl rfl rfl (vw_frzB 13 13 rfl rfl rfl (vw_to _ (by exact rfl) (by exact ⟨rfl,rfl,rfl,rfl,rfl,trivial⟩) h)))))) ?_ | refine zM wB rfl rfl rfl rfl rfl rfl rfl rfl rfl (q4) rfl rfl ?_ | refine qP wB rfl rfl rfl rfl rfl rfl ?_ | refine wQ wB rfl rfl rfl rfl ?_ | refine wG rfl rfl (wH rfl rfl rfl rfl (decide_eq_false (by omega)) rfl) rfl ?_ | refine wG rfl rfl (wH rfl rfl rfl rfl (ndF (by omega)) rfl) rfl ?_ | refine wF wI rfl rfl ?_ | refine wJ ?_ | refine wC ?_ | refine wP ?_ | refine qA ?_ | refine wO ?_ | refine wL rfl ?_)
   exact ⟨.inl rfl,_,rfl,rfl⟩
  ·simp only [if_pos f1,if_pos f2,if_neg f3]
   repeat (first | refine wG rfl rfl (wR wB rfl rfl rfl rfl rfl rfl (zY ta) rfl) rfl ?_ | refine wG rfl rfl (wR wB rfl rfl rfl rfl rfl rfl (zY tb) rfl) rfl ?_ | refine qP wB rfl rfl rfl rfl rfl rfl ?_ | refine wQ wB rfl rfl rfl rfl ?_ | refine wG rfl rfl (wH rfl rfl rfl rfl (decide_eq_false (by omega)) rfl) rfl ?_ | refine wG rfl rfl (wH rfl rfl rfl rfl (ndT (by omega)) rfl) rfl ?_ | refine wF wI rfl rfl ?_ | refine wJ ?_ | refine wC ?_ | refine wP ?_ | refine qA ?_ | refine wN rfl ?_ | refine wL rfl ?_)
   refine ⟨.inl rfl,_,rfl,?_⟩
   rfl
end Go.Proofs.YtkjhfnhgefbhhaaGreat
