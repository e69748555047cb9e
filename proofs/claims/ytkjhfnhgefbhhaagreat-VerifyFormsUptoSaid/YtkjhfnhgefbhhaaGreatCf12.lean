/- qmat.table: rows of integers, told by their places. Told of trees. -/
import Derived.Test.YtkjhfnhgefbhhaaGreatCf08
import Derived.Test.YtkjhfnhgefbhhaaGreatCf11
import Derived.Test.YtkjhfnhgefbhhaaGreatCf09
set_option linter.all false
set_option maxRecDepth 20000
set_option maxHeartbeats 6400000
namespace Go.Proofs.YtkjhfnhgefbhhaaGreat
open Go.RowKit Go.Ev Go.Vl
def wS (z:Bool × List Nat):List V:=[.bool z.1,vL z.2]
def kC (r c:Nat) (F:Nat→Nat→Bool × List Nat):List (List (Bool × List Nat)):=(List.range r).map fun i=>(List.range c).map fun k=>F i k
def kB (t:List (List (Bool × List Nat))):List (List V):=t.map fun r=>[V.list (r.map wS)]
theorem table_v (r c:Nat) (g:FuncId) (fn:Func) (fs cs:List V) (F:Nat→Nat→Bool × List Nat) (hfn:zV.fns.get g=some fn) (hF:∀ i k,i<r→k<c→wD Tryz.prog g (fs++[.int .i64 (i:Nat),.int .i64 (k:Nat)]++cs) (fun y=>y=.agg (wS (F i k))))
  (hr:r≤1099511627776) (hc:c≤1099511627776):wD Tryz.prog 115 [.int .i64 (r:Nat),.int .i64 (c:Nat),.clo g fs cs] (fun y=>y=.list (kB (kC r c F))):=by
 refine wC wG Tryz.func115 rfl rfl rfl rfl fun w0=>?_
 repeat (first | refine wv ?_ | refine wz ?_)
 refine zR (d:=7) (id:=1) (k:=1) (T:=77) rfl rfl rfl rfl ?_
 refine wJ (fun i:Nat=>[jI 0 r,jI 2 c,jV 4 (.clo g fs cs),jO 14 1 77 1 (kB (kC i c F)),jI 22 r,jI 24 i])
  (fun i=>i≤r) (fun i=>r - i) 0 (fun _=>rfl) (pH _) ⟨rfl,rfl,rfl,⟨_,rfl⟩,rfl,rfl,trivial⟩ fun i hI=>?_
 rcases pG i r with hi | hi
 ·repeat (first | refine wv ?_ | refine wg rfl cT ?_ | refine wg rfl (sM 7000 0 c 2 32 (es':=[]) rfl) ?_ | refine wz ?_)
  have hq1:∀ j,(List.range j).map (fun k=>wS (F i k))++[wS (F i j)]=(List.range (j+1)).map fun k=>wS (F i k):=fun j=>by rw [gZ]; simp
  refine wJ (fun j:Nat=>[jI 0 r,jI 2 c,jV 4 (.clo g fs cs),jO 14 1 77 1 (kB (kC i c F)),jI 16 i,jO 18 2 25 2 ((List.range j).map fun k=>wS (F i k)),jI 22 r,jI 24 i,jI 34 c,jI 36 j])
   (fun j=>j≤c) (fun j=>c - j) 0 (fun _=>rfl) (pH _) ⟨rfl,rfl,rfl,⟨_,rfl⟩,rfl,⟨_,rfl⟩,rfl,rfl,rfl,rfl,trivial⟩ fun j hJ=>?_
  rcases pG j c with hj | hj
  ·have hz:=hF i j hi hj
   have hs:=hq1 j; have hlen:((List.range j).map fun k=>wS (F i k)).length=j:=by simp
   have wJJ:∀ e∈[wS (F i j)],e.length=2:=fun e h=>by rw [pL.1 h]; rfl
   repeat (first | refine wv ?_ | refine wg rfl cT ?_ | refine wg rfl sB ?_ | refine wME wG rfl rfl rfl rfl rfl rfl hfn rfl hz rfl rfl ?_ | refine wf rfl rfl (sA 7001 [wS (F i j)] 2 32 wJJ hs) ?_ | refine wz ?_)
   exact ⟨j+1,hj,by omega,rfl,rfl,rfl,⟨_,rfl⟩,rfl,⟨_,rfl⟩,rfl,rfl,rfl,rfl,trivial⟩
  ·have hje:j=c:=by omega
   subst hje; have hs:kB (kC i j F)++[[V.list ((List.range j).map fun k=>wS (F i k))]]=kB (kC (i+1) j F):=by
    unfold kB kC; rw [gZ]
    simp [List.map_map]
   have hlen:(kB (kC i j F)).length=i:=by simp [kB,kC]
   have wB2:∀ e∈[[V.list ((List.range j).map fun k=>wS (F i k))]],e.length=1:=fun e h=>by rw [pL.1 h]; rfl
   repeat (first | refine wv ?_ | refine wg rfl cF ?_ | refine wg rfl sB ?_ | refine wf rfl rfl (sA 7002 [[V.list ((List.range j).map fun k=>wS (F i k))]] 1 24 wB2 hs) ?_ | refine wx ?_ | refine wz ?_)
   exact ⟨i+1,hi,by omega,rfl,rfl,rfl,⟨_,rfl⟩,rfl,rfl,trivial⟩
 ·have hie:i=r:=by omega
  subst hie
  repeat (first | refine wv ?_ | refine wg rfl cF ?_ | refine wz ?_)
  exact ⟨.inl rfl,_,rfl,rfl⟩
end Go.Proofs.YtkjhfnhgefbhhaaGreat
/- simileref03.Copy, CopyAll, Same, SameAll, simileref11.Copy, Same: told of trees. -/
namespace Go.Proofs.YtkjhfnhgefbhhaaGreat
open Go.RowKit Go.Ev Go.Vl
abbrev Z0:=Bool × List Nat
abbrev M0:=Z0 × List (List Z0)
def tV (t:List (List Z0)):V:=.list (kB t)
def mV (m:M0):V:=.agg [.bool m.1.1,vL m.1.2,tV m.2]
theorem vS (zs:List Z0):(zs.map wS).length=zs.length:=pF ..
theorem wG7 (zs:List Z0) (j:Nat) (z:Z0) (h:zs[j]? = some z):(zs.map wS)[j]? = some (wS z):=by rw [pI,h]; rfl
theorem jP (t:List (List Z0)):(kB t).length=t.length:=pF ..
theorem wCH (t:List (List Z0)) (j:Nat) (r:List Z0) (h:t[j]? = some r):(kB t)[j]? = some [V.list (r.map wS)]:=by unfold kB; rw [pI,h]; rfl
theorem v7 {α:Type} (xs:List α) (z:α) (j:Nat) (x:α) (h:xs[j]? = some x):(xs.take j++List.replicate (xs.length - j) z).set j x=xs.take (j+1)++List.replicate (xs.length - (j+1)) z:=by
 have hj:=(pS.1 h).1
 apply bA
 intro i
 by_cases hij:j=i
 ·subst hij
  rw [dH (by simp; omega),dF (by simp; omega),pZ,if_pos (by omega),h]
 ·rw [dO hij]
  by_cases hlt:i<j
  ·rw [dF (by simp; omega),dF (by simp; omega),pZ,pZ,if_pos hlt,if_pos (by omega)]
  ·rw [mI (by simp; omega),mI (by simp; omega)]
   simp only [List.length_take,List.getElem?_replicate]
   rw [cM (by omega),cM (by omega)]
   by_cases h3:i - j<xs.length - j
   ·rw [if_pos h3,if_pos (by omega)]
   ·rw [if_neg h3,if_neg (by omega)]
theorem same3_v (z z':Z0) (h:okL z.2) (h':okL z'.2) (hl:z.2.length≤1099511627776):wD Tryz.prog 52 [.agg (wS z),.agg (wS z')] (fun y=>y=.bool (decide (z=z'))):=by
 refine wC wG Tryz.func52 rfl rfl rfl rfl fun w0=>?_
 have q1:=same01_v z.2 z'.2 h h' (pC hl (by decide))
 obtain ⟨b,l⟩:=z; obtain ⟨b',l'⟩:=z'
 have e1:∀ c:Bool,decide ((c,l)=(c,l'))=decide (l=l'):=fun c=>by simp
 cases b <;> cases b'
 ·rw [e1]
  repeat (first | refine wv ?_ | refine wg rfl (jD wG rfl rfl rfl rfl (.inl ⟨rfl,rfl⟩) rfl) ?_ | refine wc q1 ?_ | refine wz ?_)
  exact ⟨.inl rfl,_,rfl,rfl⟩
 ·repeat (first | refine wv ?_ | refine wg rfl (jD wG rfl rfl rfl rfl (.inl ⟨rfl,rfl⟩) rfl) ?_ | refine kZ rfl rfl rfl rfl rfl rfl ?_ | refine wz ?_)
  refine ⟨.inl rfl,_,rfl,?_⟩
  simp
 ·repeat (first | refine wv ?_ | refine wg rfl (jD wG rfl rfl rfl rfl (.inl ⟨rfl,rfl⟩) rfl) ?_ | refine kZ rfl rfl rfl rfl rfl rfl ?_ | refine wz ?_)
  refine ⟨.inl rfl,_,rfl,?_⟩
  simp
 ·rw [e1]
  repeat (first | refine wv ?_ | refine wg rfl (jD wG rfl rfl rfl rfl (.inl ⟨rfl,rfl⟩) rfl) ?_ | refine wc q1 ?_ | refine wz ?_)
  exact ⟨.inl rfl,_,rfl,rfl⟩
end Go.Proofs.YtkjhfnhgefbhhaaGreat
/- nat.trim, short: told of trees. -/
namespace Go.Proofs.YtkjhfnhgefbhhaaGreat
open Go.RowKit Go.Ev Go.Vl
theorem qBF (ys:List Nat) (x:Nat):uL (ys++[x])=uL ys++[[V.int .u32 (x:Nat)]]:=by simp [uL]
theorem qBE (xs:List Nat) (k:Nat):(uL xs).take k=uL (xs.take k):=by simp [uL,List.map_take]
theorem uL_last (ys:List Nat) (x:Nat):(uL (ys++[x]))[ys.length]? = some [V.int .u32 (x:Nat)]:=by
 rw [qBF,← qE ys]
 simp
theorem qBJ (xs:List Nat) (hl:xs.length≤140737488355328):wD Tryz.prog 199 [vL xs] (fun y=>y=vL (qG xs)):=by
 refine wC wG Tryz.func199 rfl rfl rfl rfl fun w0=>?_
 repeat (first | refine wv ?_ | refine wz ?_)
 refine wJ (fun ys:List Nat=>[jV 0 (vL ys)]) (fun ys=>ys.length≤xs.length∧qG ys=qG xs) (fun ys=>ys.length) xs (fun _=>rfl) ⟨pE _,rfl⟩ ⟨rfl,trivial⟩ fun ys hI=>?_
 obtain ⟨h1,h2⟩:=hI; have hu:=qE ys
 rcases List.eq_nil_or_concat ys with rfl | ⟨zs,x,rfl⟩
 ·repeat (first | refine wg rfl (sL (qE _)) ?_ | refine wv ?_ | refine wg rfl (j0 rfl rfl rfl rfl (rfl) rfl) ?_ | refine kZ rfl rfl rfl rfl rfl rfl ?_ | refine wz ?_)
  refine ⟨.inl rfl,_,rfl,?_⟩
  rw [← h2]
  rfl
 ·simp only [List.concat_eq_append] at *
  have hz:(zs++[x]).length=zs.length+1:=by simp
  by_cases hx:x=0
  ·subst hx
   repeat (first | refine wg rfl (sL (qE _)) ?_ | refine wv ?_ | refine wg rfl cT ?_ | refine wg rfl sB ?_ | refine wg rfl (wB0 wG rfl rfl rfl (i:=zs.length) (by omega) rfl rfl (uL_last zs 0) rfl rfl) ?_ | refine wg rfl (qFD wG rfl rfl rfl (h:=zs.length) (by omega) rfl rfl (qBH _) (by omega) (es':=uL zs) (by rw [qBE]; simp) rfl) ?_ | refine wz ?_)
   refine ⟨zs,⟨by omega,by rw [← h2,xK]⟩,by omega,rfl,trivial⟩
  ·repeat (first | refine wg rfl (sL (qE _)) ?_ | refine wv ?_ | refine wg rfl cT ?_ | refine wg rfl cF ?_ | refine wg rfl sB ?_ | refine wg rfl (wB0 wG rfl rfl rfl (i:=zs.length) (by omega) rfl rfl (uL_last zs x) rfl rfl) ?_ | refine wz ?_)
   refine ⟨.inl rfl,_,rfl,?_⟩
   rw [← h2,wKE _ _ hx]
end Go.Proofs.YtkjhfnhgefbhhaaGreat
/- nat.short, told of trees. -/
namespace Go.Proofs.YtkjhfnhgefbhhaaGreat
open Go.RowKit Go.Ev Go.Vl
theorem wKD (xs:List Nat) (i v:Nat):(uL xs).set i [V.int .u32 (v:Nat)]=uL (xs.set i v):=by simp [uL,List.map_set]
theorem qBG (n:Nat):List.replicate n [V.int .u32 0]=uL (List.replicate n 0):=by simp [uL]
theorem short_step (x r d N B:Nat) (hd:0<d) (hr:r=N % d) (hB:0<B):(x+B*N) / d=(r*B+x) / d+B*(N / d)∧(x+B*N) % d=(r*B+x) % d:=by
 have h1:=cX N d; have e:x+B*N=(r*B+x)+d*(B*(N / d)):=by
  have:B*N=B*(d*(N / d))+B*(N % d):=by rw [← mD,h1]
  rw [this,hr,mL B (N % d),fP B d]; omega
 rw [e,pC8 _ _ hd,gY]; exact ⟨rfl,rfl⟩
theorem wMA (r x:Nat) (hx:x<4294967296):(r*2 ^ 32) ||| x=r*4294967296+x:=by
 rw [mL,← gI (i:=32) hx]
theorem wK5 (out:List Nat) (k v:Nat) (h:k<out.length):wB ((out.set k v).drop k)=v+4294967296*wB (out.drop (k+1)):=by
 rw [w9]; have h1:(out.set k v).getD k 0=v:=by simp [List.getD,h]
 have h2:(out.set k v).drop (k+1)=out.drop (k+1):=by rw [pD1 (by omega)]
 rw [h1,h2]
theorem short_v (xs:List Nat) (d:Nat) (hx:okL xs) (hl:xs.length≤8796093022208) (hd0:0<d) (hd:d<4294967296):wD Tryz.prog 283 [vL xs,.int .u32 (d:Nat)] (fun y=>y=.tup [vN (wB xs / d),.int .u32 (wB xs % d:Nat)]):=by
 refine wC wG Tryz.func283 rfl rfl rfl rfl fun w0=>?_
 have hu:=qE xs
 repeat (first | refine wg rfl (sL (qE _)) ?_ | refine wv ?_ | refine wg rfl sB ?_ | refine wg rfl (yP (id:=7000) (m:=1) (bb:=4) wG rfl rfl rfl rfl rfl rfl rfl rfl rfl rfl (pE _) rfl (by omega) (by simp only [maxLen]; omega) rfl rfl rfl (qBG _)) ?_ | refine wz ?_)
 refine wJ (fun b:Nat × Int × List Nat × Nat=>[jV 0 (vL xs),jV 2 (.int .u32 (d:Nat)),jO 12 1004 180 1 (uL b.2.2.1),jV 14 (.int .u64 (b.2.2.2:Nat)),jV 16 (.int .i64 b.2.1)])
  (fun b=>b.1≤xs.length∧b.2.1=(b.1:Int) - 1∧b.2.2.1.length=xs.length∧okL b.2.2.1∧wB (xs.drop b.1) / d=wB (b.2.2.1.drop b.1)∧b.2.2.2=wB (xs.drop b.1) % d)
  (fun b=>b.1) (xs.length,(xs.length:Int) - 1,List.replicate xs.length 0,0) (fun _=>rfl) ⟨pE _,rfl,by simp,fun x h=>by rw [(bU.1 h).2]; decide,by simp [List.drop_of_length_le,wB],by simp [wB]⟩ ⟨rfl,rfl,⟨_,rfl⟩,rfl,rfl,trivial⟩ fun ⟨j,i,out,rest⟩ hI=>?_
 obtain ⟨h1,h2,h3,h4,h5,h6⟩:=hI; dsimp only at h1 h2 h3 h4 h5 h6 ⊢
 have ho:=qE out; have hro:rest<d:=by rw [h6]; exact dJ _ hd0
 rcases mF j with rfl | hj
 ·have hc:=wR9 out h4 (by omega)
  have hov:Ev.ewrap .u32 (rest:Int)=(rest:Nat):=wGE (by omega) (by omega)
  repeat (first | refine wv ?_ | refine wg rfl cF ?_ | refine wg rfl (qI wG rfl rfl rfl rfl (wGE (by omega) (by omega)) rfl) ?_ | refine wh (wR9 out h4 (by omega)) ?_ | refine wz ?_)
  refine ⟨.inl rfl,_,rfl,?_⟩
  simp only [List.drop_zero] at h5 h6
  rw [h5,h6]
 ·obtain ⟨k,rfl⟩:∃ k,j=k+1:=⟨j - 1,by omega⟩
  have hxk:=getD_lt xs hx k; have hg:=kW xs k (by omega)
  have hog:=kW out k (by omega)
  have hstep:=short_step (xs.getD k 0) rest d (wB (xs.drop (k+1))) 4294967296 hd0 h6 (by decide)
  rw [← w9] at hstep; have hset:=wKD out k
  have hds:=wK5 out k; generalize hxe:xs.getD k 0=x at *
  have hor:=wMA rest x hxk; generalize ht:rest*4294967296+x=t at *
  have htl:t<d*4294967296:=by
   have:(rest+1)*4294967296≤d*4294967296:=mC _ hro; omega
  have hq:t / d<4294967296:=pC7 htl; have hrl:=dJ t hd0
  generalize hqe:t / d=q at *; generalize hre:t % d=r at *
  repeat (first | refine wv ?_ | refine wg rfl cT ?_ | refine wg rfl sB ?_ | refine wg rfl (qI wG rfl rfl rfl rfl (jZ (by omega) (by omega)) rfl) ?_ | refine wg rfl (qI wG rfl rfl rfl rfl (wGE (by omega) (by omega)) rfl) ?_ | refine wg rfl (x9 (s:=32) rfl rfl rfl rfl (by decide) (by rw [ew64,cA (by omega)]) rfl) ?_ | refine wg rfl (wB0 wG rfl rfl rfl (i:=k) (by omega) rfl rfl hg rfl rfl) ?_ | refine wg rfl (k0 rfl rfl rfl rfl (nOr64 hor (by omega) (by omega)) rfl) ?_ | refine wg rfl (wDF rfl rfl rfl (by omega) (nQuo64 hqe (by omega)) rfl) ?_ | refine wg rfl (kY rfl rfl rfl (by omega) (nRem hre) rfl) ?_ | refine wg rfl (zJ wG rfl rfl rfl (i:=k) (by omega) rfl rfl (by omega) rfl rfl rfl) ?_ | refine wg rfl (zX wG rfl rfl rfl hog rfl rfl rfl rfl (by decide) rfl (hset _)) ?_ | refine wz ?_)
  refine ⟨(k,_,out.set k q,r),⟨by omega,?_,by simp [h3],vA out k _ h4 hq,?_,?_⟩,by omega,rfl,rfl,⟨_,rfl⟩,rfl,rfl,trivial⟩
  ·dsimp only; omega
  ·rw [hds _ (by omega),hstep.1,h5]
  ·exact hstep.2.symm
end Go.Proofs.YtkjhfnhgefbhhaaGreat
/- nat.left, told of trees. -/
namespace Go.Proofs.YtkjhfnhgefbhhaaGreat
open Go.RowKit Go.Ev Go.Vl
theorem wB2 (v:V):∀ e∈[[v]],e.length=1:=by simp
def qS:List Nat→Nat→Nat→List Nat
 | [],_,c=>if c=0 then [] else [c]
 | x :: xs,s,c=>(x*2 ^ s % 4294967296+c) :: qS xs s (x*2 ^ s / 4294967296)
theorem wZJ (xs:List Nat) (s c:Nat) (hs:s<32):wB (qS xs s c)=wB xs*2 ^ s+c:=by
 induction xs generalizing c with
 | nil=>unfold qS; split <;> simp_all [wB]
 | cons x xs ih =>
  simp only [qS,wB,ih]
  have:=cX (x*2 ^ s) 4294967296; rw [cY,mJ 4294967296,mD]
  omega
theorem qH1 (xs:List Nat) (s c:Nat) (hs:s<32) (hx:okL xs) (hc:c<2 ^ s):okL (qS xs s c):=by
 have hp:2 ^ s≤2 ^ 31:=dD (by decide) (by omega)
 induction xs generalizing c with
 | nil =>
  unfold qS
  split
  ·intro x h; simp at h
  ·intro x h; simp at h; omega
 | cons x xs ih =>
  have h3:=left_step 0 0 c 0 x s (by simp) hc hs
  intro y hy
  simp only [qS,List.mem_cons] at hy
  rcases hy with rfl | hy
  ·exact h3.2.1
  ·exact ih _ (fun z hz=>hx z (pT _ hz)) (h3.2.2 (hx x (pO ..))) y hy
theorem wQ8 (xs:List Nat) (s c:Nat):xs.length≤(qS xs s c).length∧(qS xs s c).length≤xs.length+1:=by
 induction xs generalizing c with
 | nil=>unfold qS; split <;> simp
 | cons x xs ih=>simp only [qS,List.length_cons]; have:=ih (x*2 ^ s / 4294967296); omega
theorem left_v (xs:List Nat) (s:Nat) (hx:okL xs) (hl:xs.length≤8796093022208) (hs:s<32):wP1 Tryz.prog 302 [vL xs,.int .i64 (s:Nat)] 180 1 (uL (qS (qG xs) s 0)):=by
 refine wY0 (t:=4) Tryz.func302 rfl rfl rfl rfl fun w0=>?_
 have hq:Ev.ewrap .i64 ((s:Int).tdiv 32)=0:=by
  have:(s:Int).tdiv 32=0:=by rw [gO (by omega)]; omega
  rw [this]; rfl
 have hr:(s:Int).tmod 32=(s:Nat):=by rw [gR (by omega)]; omega
 have htl:=kK xs
 repeat (first | refine wg rfl (sL (qE _)) ?_ | refine wv ?_ | refine wg rfl sB ?_ | refine wc (qBJ xs (by omega)) ?_ | refine wg rfl (wDF rfl rfl rfl (by decide) hq rfl) ?_ | refine wg rfl (yP (id:=7000) (m:=1) (bb:=4) (l:=0) (c:=(qG xs).length+3) wG rfl rfl rfl rfl (by omega) rfl rfl rfl rfl rfl (by omega) rfl (by omega) (by simp only [maxLen]; omega) rfl rfl rfl (es':=uL []) rfl) ?_ | refine wz ?_)
 refine wJ (fun b:Nat × List Nat × Nat=>[jV 0 (vL (qG xs)),jI 2 s,jO 10 2011 180 1 (uL b.2.1),jV 12 (.int .u32 (b.2.2:Nat)),jV 40 (vL (qG xs)),jI 42 ((qG xs).length),jI 44 (b.1)])
  (fun b=>b.1≤(qG xs).length∧b.2.1.length=b.1∧b.2.2<2 ^ s∧qS (qG xs) s 0=b.2.1++qS ((qG xs).drop b.1) s b.2.2)
  (fun b=>(qG xs).length - b.1) (0,[],0) (fun _=>rfl) ⟨pH _,rfl,bD (by decide),by simp⟩ ⟨rfl,rfl,⟨_,rfl⟩,rfl,rfl,rfl,rfl,trivial⟩ fun ⟨j,out,c⟩ hI=>?_
 obtain ⟨h1,h2,h3,h4⟩:=hI; dsimp only at h1 h2 h3 h4 ⊢
 have ho:=qE out; have hp:2 ^ s≤2147483648:=(dD (by decide) (show s≤31 by omega):2 ^ s≤2 ^ 31)
 rcases pG j (qG xs).length with hj | hj
 ·have hxk:=getD_lt (qG xs) (fun x h=>hx x (wP9 xs x h)) j
  have hg:=kW (qG xs) j hj; have hstep:=left_step 0 0 c 0 ((qG xs).getD j 0) s (by simp) h3 hs
  have hor:=or_low ((qG xs).getD j 0) s c hs h3; have hd:(qG xs).drop j=(qG xs).getD j 0 :: (qG xs).drop (j+1):=by
   rw [bM hj]
   simp [List.getD,hj]
  rw [hd] at h4; simp only [qS] at h4
  generalize (qG xs).getD j 0=x at *; have hm:x*2 ^ s≤x*2147483648:=mQ _ hp
  have hl3:=hstep.2.2 hxk; obtain ⟨pr,hpe⟩:∃ pr,x*2 ^ s=pr:=⟨_,rfl⟩
  rw [hpe] at hm hl3 hor h4; have hor2:ewrap .u32 ((BitVec.ofInt IntKind.u32.bits ((pr % 4294967296:Nat):Int) ||| BitVec.ofInt IntKind.u32.bits (c:Int)).toNat:Int)=((pr % 4294967296+c:Nat):Int):=nOr32 hor (by omega) (by omega)
  have hsn:=qBF out (pr % 4294967296+c); have hqd:pr / 2 ^ 32=pr / 4294967296:=rfl
  have h32:ewrap .u32 ((pr / 4294967296:Nat):Int)=((pr / 4294967296:Nat):Int):=wGE (by omega) (by omega)
  repeat (first | refine wv ?_ | refine wg rfl cT ?_ | refine wg rfl sB ?_ | refine wg rfl (qI wG rfl rfl rfl rfl (jZ (by omega) (by omega)) rfl) ?_ | refine wg rfl (qI wG rfl rfl rfl rfl (wGE (by omega) (by omega)) rfl) ?_ | refine wg rfl (wB0 wG rfl rfl rfl (i:=j) (by omega) rfl rfl hg rfl rfl) ?_ | refine wg rfl (kY rfl rfl rfl (by decide) hr rfl) ?_ | refine wg rfl (x9 (s:=s) (r:=pr % 4294967296) rfl rfl rfl rfl (by simp only [IntKind.bits]; omega) (by rw [hpe,ew32]) rfl) ?_ | refine wg rfl (x9 (s:=s) (r:=pr) rfl rfl rfl rfl (by simp only [IntKind.bits]; omega) (by rw [hpe,ew64,cA (by omega)]) rfl) ?_ | refine wg rfl (k0 rfl rfl rfl rfl hor2 rfl) ?_ | refine wg rfl (wA5 (s:=32) rfl rfl rfl rfl (by decide) hqd rfl) ?_ | refine wf rfl rfl (z7 (id:=7001) (es2:=[[_]]) (m:=1) (bb:=4) wG rfl rfl rfl rfl rfl rfl rfl rfl rfl rfl rfl (wB2 _) rfl (by simp only [maxLen]; simp; omega) (by simp; omega) rfl rfl hsn.symm) ?_ | refine wz ?_)
  refine ⟨(j+1,out++[pr % 4294967296+c],pr / 4294967296),⟨hj,by simp [h2],hl3,by rw [h4]; simp⟩,by dsimp only; omega,rfl,rfl,⟨_,rfl⟩,rfl,rfl,rfl,rfl,trivial⟩
 ·have hd:(qG xs).drop j=[]:=pY hj
  rw [hd] at h4; have hcb:c<2147483648:=by omega
  rcases mF c with rfl | hc
  ·simp only [qS,if_true,List.append_nil] at h4
   repeat (first | refine wv ?_ | refine wg rfl cF ?_ | refine wg rfl nF ?_ | refine wz ?_)
   exact ⟨.inl rfl,5,_,by rw [h4]; rfl⟩
  ·have hc0:c≠0:=by omega
   simp only [qS,if_neg hc0] at h4
   have hsn:=qBF out c
   repeat (first | refine wv ?_ | refine wg rfl cF ?_ | refine wg rfl nT ?_ | refine wf rfl rfl (z7 (id:=7001) (es2:=[[_]]) (m:=1) (bb:=4) wG rfl rfl rfl rfl rfl rfl rfl rfl rfl rfl rfl (wB2 _) rfl (by simp only [maxLen]; simp; omega) (by simp; omega) rfl rfl hsn.symm) ?_ | refine wz ?_)
   exact ⟨.inl rfl,5,_,by rw [h4]; rfl⟩
end Go.Proofs.YtkjhfnhgefbhhaaGreat
/- nat.Right, told of trees. -/
namespace Go.Proofs.YtkjhfnhgefbhhaaGreat
open Go.RowKit Go.Ev Go.Vl
theorem right_v (xs:List Nat) (s:Nat) (hx:okL xs) (hl:xs.length≤8796093022208) (hs:s<32):wD Tryz.prog 303 [vL xs,.int .i64 (s:Nat)] (fun y=>y=.tup [vN (wB xs / 2 ^ s),.int .i64 0]):=by
 refine wC wG Tryz.func303 rfl rfl rfl rfl fun w0=>?_
 have hq:Ev.ewrap .i64 ((s:Int).tdiv 32)=0:=by
  have:(s:Int).tdiv 32=0:=by rw [gO (by omega)]; omega
  rw [this]; rfl
 have hr:(s:Int).tmod 32=(s:Nat):=by rw [gR (by omega)]; omega
 have htl:=kK xs; have htn:wB (qG xs)=wB xs:=by rw [qT xs hx,wM]
 have hy:okL (qG xs):=fun x h=>hx x (wP9 xs x h)
 rw [← htn]; have htr:=qBJ xs (by omega)
 generalize qG xs=ys at *; have hyl:=qE ys
 rcases mF ys.length with h0 | hp
 ·obtain rfl:=mK h0
  repeat (first | refine wg rfl (sL (qE _)) ?_ | refine wv ?_ | refine wg rfl cT ?_ | refine wg rfl cF ?_ | refine wc htr ?_ | refine wg rfl (wDF rfl rfl rfl (by decide) hq rfl) ?_ | refine wz ?_)
  refine ⟨.inl rfl,_,rfl,?_⟩
  simp [wB,vN,toL,vL,uL]
 ·have hdr:(uL ys).drop 0=uL ys:=rfl
  repeat (first | refine wg rfl (sL (qE _)) ?_ | refine wv ?_ | refine wg rfl cF ?_ | refine wc htr ?_ | refine wg rfl (wDF rfl rfl rfl (by decide) hq rfl) ?_ | refine wg rfl (wD6 wG rfl rfl rfl (l:=0) rfl rfl rfl (qBH _) (by omega) hdr rfl) ?_ | refine wg rfl (yP (id:=7000) (m:=1) (bb:=4) wG rfl rfl rfl rfl rfl rfl rfl rfl rfl rfl (pE _) rfl (by omega) (by simp only [maxLen]; omega) rfl rfl rfl (qBG _)) ?_ | refine wz ?_)
  refine wJ (fun b:Nat × List Nat=>[jV 0 (vL ys),jI 2 s,jO 12 0 180 1 (uL b.2),jV 52 (vL ys),jI 54 (ys.length),jI 56 (b.1)])
   (fun b=>b.1≤ys.length∧b.2.length=ys.length∧okL b.2∧wB (b.2.take b.1)=wB ys / 2 ^ s % 4294967296 ^ b.1)
   (fun b=>ys.length - b.1) (0,List.replicate ys.length 0) (fun _=>rfl) ⟨pH _,by simp,fun x h=>by rw [(bU.1 h).2]; decide,by simp [wB,Nat.mod_one]⟩ ⟨rfl,rfl,⟨_,rfl⟩,rfl,rfl,rfl,trivial⟩ fun ⟨j,out⟩ hI=>?_
  obtain ⟨h1,h2,h3,h4⟩:=hI; dsimp only at h1 h2 h3 h4 ⊢
  have ho:=qE out; rcases pG j ys.length with hj | hj
  ·have hxk:=getD_lt ys hy j
   have hxk2:=getD_lt ys hy (j+1); have hg:=kW ys j hj
   have hog:=kW out j (by omega)
   have hset:=wKD out j; have hdg:=wRI ys j s (by omega) hy
   have hor:=wMA (ys.getD (j+1) 0) (ys.getD j 0) hxk; have h1v:ys.length≤j+1→ys.getD (j+1) 0=0:=fun h=>by simp [List.getD,h]
   have hg2:=fun h=>kW ys (j+1) h
   generalize ys.getD j 0=x at *; generalize ys.getD (j+1) 0=y at *
   rw [Nat.or_comm] at hor; rw [fT x,mL 4294967296 y] at hdg
   obtain ⟨t,ht⟩:∃ t,y*4294967296+x=t:=⟨_,rfl⟩; rw [ht] at hor hdg
   obtain ⟨q,hqe⟩:∃ q,t / 2 ^ s=q:=⟨_,rfl⟩; rw [hqe] at hdg
   have hql:q≤t:=by rw [← hqe]; exact cN _ _
   have hset2:=wIJ out ys.length j (q % 4294967296) h2 hj; have hse:=right_step (wB ys / 2 ^ s) (4294967296 ^ j) _ hdg
   have hsv:∀ Y,wB (Y:List Nat)=wB (out.take j)+4294967296 ^ j*(q % 4294967296)→wB Y=wB ys / 2 ^ s % 4294967296 ^ (j+1):=fun Y h=>by rw [h,h4,mY,hse]
   rcases pG (j+1) ys.length with hj1 | hj1
   ·have hg3:=hg2 hj1
    repeat (first | refine wg rfl (sL (qE _)) ?_ | refine wv ?_ | refine wg rfl cT ?_ | refine wg rfl sB ?_ | refine wg rfl (qI wG rfl rfl rfl rfl (jZ (by omega) (by omega)) rfl) ?_ | refine wg rfl (sX j hg) ?_ | refine wg rfl (wB0 wG rfl rfl rfl (i:=j+1) (by omega) rfl rfl hg3 rfl rfl) ?_ | refine wg rfl (kY rfl rfl rfl (by decide) hr rfl) ?_ | refine wg rfl (x9 (s:=32) rfl rfl rfl rfl (by decide) (by rw [ew64,cA (by omega)]) rfl) ?_ | refine wg rfl (k0 rfl rfl rfl rfl (nOr64 hor (by omega) (by omega)) rfl) ?_ | refine wg rfl (wA5 (s:=s) rfl rfl rfl rfl (by simp only [IntKind.bits]; omega) hqe rfl) ?_ | refine wg rfl (qI wG rfl rfl rfl rfl (ew32 q) rfl) ?_ | refine wg rfl (zJ wG rfl rfl rfl (i:=j) rfl rfl rfl (by omega) rfl rfl rfl) ?_ | refine wg rfl (zX wG rfl rfl rfl hog rfl rfl rfl rfl (by decide) rfl (hset _)) ?_ | refine wz ?_)
    exact ⟨(j+1,out.set j (q % 4294967296)),⟨hj,by simp [h2],vA out j _ h3 (dJ _ (by decide)),hsv _ hset2⟩,by dsimp only; omega,rfl,rfl,⟨_,rfl⟩,rfl,rfl,rfl,trivial⟩
   ·have hy0:=h1v hj1
    subst hy0; have hxt:x=t:=by omega
    subst hxt; have hqm:q % 4294967296=q:=cA (by omega)
    rw [hqm] at hsv hset2
    repeat (first | refine wg rfl (sL (qE _)) ?_ | refine wv ?_ | refine wg rfl cT ?_ | refine wg rfl cF ?_ | refine wg rfl sB ?_ | refine wg rfl (qI wG rfl rfl rfl rfl (jZ (by omega) (by omega)) rfl) ?_ | refine wg rfl (qI wG rfl rfl rfl rfl (wGE (by omega) (by omega)) rfl) ?_ | refine wg rfl (sX j hg) ?_ | refine wg rfl (kY rfl rfl rfl (by decide) hr rfl) ?_ | refine wg rfl (wA5 (s:=s) rfl rfl rfl rfl (by simp only [IntKind.bits]; omega) hqe rfl) ?_ | refine wg rfl (zJ wG rfl rfl rfl (i:=j) rfl rfl rfl (by omega) rfl rfl rfl) ?_ | refine wg rfl (zX wG rfl rfl rfl hog rfl rfl rfl rfl (by decide) rfl (hset _)) ?_ | refine wz ?_)
    exact ⟨(j+1,out.set j q),⟨hj,by simp [h2],vA out j _ h3 (by omega),hsv _ hset2⟩,by dsimp only; omega,rfl,rfl,⟨_,rfl⟩,rfl,rfl,rfl,trivial⟩
  ·repeat (first | refine wv ?_ | refine wg rfl cF ?_ | refine wh (wR9 out h3 (by omega)) ?_ | refine wz ?_)
   refine ⟨.inl rfl,_,rfl,?_⟩
   have hje:j=ys.length:=by omega
   subst hje; rw [wZB ys s hy,pN (by omega)] at h4
   rw [h4]
end Go.Proofs.YtkjhfnhgefbhhaaGreat
/- Knuth's long division, in numbers: a guessed digit, what is taken away, what is added back. Plain; no condition. -/
namespace Go.Proofs.YtkjhfnhgefbhhaaGreat
open Go.RowKit
structure Guess (top next u2 t Q q r:Nat):Prop where
 eq:q*top+r=t
 rB:r<4294967296
 ge:Q≤q
 le:q≤4294967297
 far:4294967297≤q→r+top<4294967296
structure Digit (top next u2 t Q:Nat):Prop where
 top1:2147483648≤top
 top2:top<4294967296
 next2:next<4294967296
 u22:u2<4294967296
 big:∀ q,4294967296≤q→Q<q
 fit:∀ q,t*4294967296+u2<q*(top*4294967296+next)→Q<q
 tle:t<top*4294967296+4294967296
theorem Digit.start {top next u2 t Q:Nat} (d:Digit top next u2 t Q):Guess top next u2 t Q (t / top) (t % top):=by
 have h1:=d.top1; have h2:=d.top2
 have h3:=cX t top; have h4:=dJ t (show 0<top by omega)
 have h5:=d.tle; have hc:t / top*top=top*(t / top):=mL _ _
 refine ⟨by omega,by omega,?_,?_,?_⟩
 ·rcases pG (t / top) Q with h | h
  ·exfalso
   have:=d.fit (t / top+1) (by
    have e:(t / top+1)*(top*4294967296+next)=(top*(t / top)+top)*4294967296+(t / top+1)*next:=by
     rw [mD,← mJ,cY (t / top) 1 top,gT,hc]
    have h6:t+1≤top*(t / top)+top:=by omega
    have h7:(t+1)*4294967296≤(top*(t / top)+top)*4294967296:=mC _ h6; have h8:=d.u22
    rw [e]; omega)
   omega
  ·exact h
 ·rcases pG (t / top) 4294967298 with h | h
  ·omega
  ·exfalso
   have:top*4294967298≤top*(t / top):=mQ _ h; omega
 ·intro h
  have:top*4294967297≤top*(t / top):=mQ _ h; omega
theorem Guess.down {top next u2 t Q q r:Nat} (d:Digit top next u2 t Q) (g:Guess top next u2 t Q q r) (h:4294967296≤q∨r*4294967296+u2<q*next) :
  Q≤q - 1∧1≤q∧(q - 1)*top+(r+top)=t∧(r+top<4294967296→Guess top next u2 t Q (q - 1) (r+top)) ∧
   (4294967296≤r+top→q - 1<4294967296∧(q - 1)*(top*4294967296+next)≤t*4294967296+u2):=by
 have hq:Q<q:=by
  rcases h with h | h
  ·exact d.big q h
  ·refine d.fit q ?_
   have e:q*(top*4294967296+next)=q*top*4294967296+q*next:=by rw [mD,← mJ]
   have h5:t*4294967296=q*top*4294967296+r*4294967296:=by rw [← g.eq,cY]
   rw [e,h5,cB]; exact Nat.add_lt_add_left h _
 obtain ⟨p,rfl⟩:∃ p,q=p+1:=⟨q - 1,by omega⟩
 have he:p*top+(r+top)=t:=by
  have:=g.eq; rw [cY,gT] at this
  omega
 refine ⟨by omega,by omega,by simpa using he,fun hr=>⟨by simpa using he,hr,by omega,by have:=g.le; omega,fun h2=>by have:=g.le; omega⟩,fun hr=>?_⟩
 have hp:p<4294967296:=by
  have h1:=g.le; rcases pG p 4294967296 with h2 | h2
  ·exact h2
  ·have:=g.far (by omega)
   omega
 refine ⟨by omega,?_⟩
 rw [Nat.add_sub_cancel]; have e:p*(top*4294967296+next)=p*top*4294967296+p*next:=by rw [mD,← mJ]
 have h5:t*4294967296=p*top*4294967296+(r+top)*4294967296:=by rw [← he,cY]
 have h6:p*next≤4294967296*4294967296:=dA (by omega) (bX d.next2)
 have h7:4294967296*4294967296≤(r+top)*4294967296:=mC _ hr; rw [e]
 omega
theorem Guess.end {top next u2 t Q q r:Nat} (g:Guess top next u2 t Q q r) (h:¬ (4294967296≤q∨r*4294967296+u2<q*next)) :
  q<4294967296∧q*(top*4294967296+next)≤t*4294967296+u2:=by
 have e:q*(top*4294967296+next)=q*top*4294967296+q*next:=by rw [mD,← mJ]
 have h5:t*4294967296=q*top*4294967296+r*4294967296:=by rw [← g.eq,cY]
 rw [e]; omega
theorem digit_of (P W V top next u2 t:Nat) (hP:0<P) (h1:2147483648≤top) (h2:top<4294967296) (h3:next<4294967296) (h4:u2<4294967296)
  (hV:(top*4294967296+next)*P≤V) (hW1:W<(t*4294967296+u2+1)*P) (hWV:W<V*4294967296) (ht:t<top*4294967296+4294967296):Digit top next u2 t (W / V):=by
 have hV0:0<V:=mR (Nat.mul_pos (by omega) hP) hV
 refine ⟨h1,h2,h3,h4,fun q hq=>?_,fun q hq=>?_,ht⟩
 ·exact mR ((gH hV0).2 (by rw [mL]; exact hWV)) hq
 ·refine (gH hV0).2 (mR hW1 ?_)
  refine pC (mC P hq) ?_
  rw [mJ]; exact mQ q hV
theorem guess_le (P W V top next u2 t q:Nat) (hP:0<P) (hPV:4294967296*P≤V) (hV:V<(top*4294967296+next+1)*P) (hW:(t*4294967296+u2)*P≤W) (hq:q<4294967296)
  (h:q*(top*4294967296+next)≤t*4294967296+u2):q≤W / V+1:=by
 have hV0:0<V:=mR (Nat.mul_pos (by decide) hP) hPV
 rcases pG (W / V+1) q with hlt | hge
 ·exfalso
  have a1:(W / V+2)*V≤q*V:=mC _ hlt; have a2:q*V≤q*((top*4294967296+next+1)*P):=mQ _ (bX hV)
  have a3:q*((top*4294967296+next+1)*P)=q*(top*4294967296+next)*P+q*P:=by
   rw [← mJ,mD q,gC,cY]
  have a4:q*(top*4294967296+next)*P≤(t*4294967296+u2)*P:=mC _ h; have a5:q*P<4294967296*P:=(gL hP).2 hq
  have a6:=cX W V; have a7:=dJ W hV0
  have a8:(W / V+2)*V=V*(W / V)+2*V:=by rw [cY,mL (W / V)]
  omega
 ·exact hge
theorem take_limb (u q v carry borrow:Nat) (hu:u<4294967296) (hq:q<4294967296) (hv:v<4294967296) (hc:carry<4294967296) (hb:borrow≤1) :
  q*v+carry<18446744073709551616∧(q*v+carry) / 4294967296<4294967296 ∧
  (u+18446744073709551616 - (q*v+carry) % 4294967296 - borrow) % 18446744073709551616 / 9223372036854775808≤1 ∧
  (u+18446744073709551616 - (q*v+carry) % 4294967296 - borrow) % 18446744073709551616 % 4294967296+(q*v+carry) % 4294967296+borrow =
   u+4294967296*((u+18446744073709551616 - (q*v+carry) % 4294967296 - borrow) % 18446744073709551616 / 9223372036854775808):=by
 have h1:q*v≤4294967295*4294967295:=dA (by omega) (by omega)
 generalize q*v=p at *; refine ⟨by omega,by omega,by omega,by omega⟩
theorem take_sum (Pi A U Vi q u v c b d' c' b' lo:Nat) (h:A+q*Vi=U+Pi*(c+b)) (hp:q*v+c=4294967296*c'+lo) (hd:d'+lo+b=u+4294967296*b') :
  (A+Pi*d')+q*(Vi+Pi*v)=(U+Pi*u)+Pi*4294967296*(c'+b'):=by
 have e1:q*(Vi+Pi*v)=q*Vi+Pi*(q*v):=by rw [mD,fP]
 have e2:Pi*(q*v)+Pi*c=Pi*4294967296*c'+Pi*lo:=by
  rw [← mD,hp,mD,← mJ]
 have e3:Pi*d'+Pi*lo+Pi*b=Pi*u+Pi*4294967296*b':=by
  rw [← mD,← mD,hd,mD,← mJ]
 rw [e1,mD (Pi*4294967296)]; rw [mD] at h
 omega
theorem take_fits (Pn A U V W q un c b:Nat) (hV:0<V) (hVP:V≤Pn) (h:A+q*V=U+Pn*(c+b)) (hW:W=U+Pn*un) (hge:W / V≤q) (hle:c+b≤un) :
  q=W / V∧A=W % V∧un - c - b=0:=by
 have e1:Pn*un=Pn*(c+b)+Pn*(un - (c+b)):=by rw [← mD]; congr 1; omega
 have e2:A+Pn*(un - (c+b))+q*V=W:=by omega
 have hq:q≤W / V:=(Nat.le_div_iff_mul_le hV).2 (by omega)
 have hqe:q=W / V:=by omega
 have e3:=cX W V; have e4:=dJ W hV
 have e5:q*V=V*(W / V):=by rw [hqe,mL]
 have hz:un - (c+b)=0:=by
  rcases mF (un - (c+b)) with h0 | h0
  ·exact h0
  ·exfalso
   have:Pn*1≤Pn*(un - (c+b)):=mQ _ h0; omega
 rw [hz,dN] at e2; exact ⟨hqe,by omega,by omega⟩
theorem take_lent (Pn A U V W q un c b:Nat) (hV:0<V) (hVP:V<Pn) (hA:A<Pn) (h:A+q*V=U+Pn*(c+b)) (hW:W=U+Pn*un) (hle:q≤W / V+1) (hlt:un<c+b) :
  q=W / V+1∧c+b=un+1∧A+V=W % V+Pn:=by
 have e1:Pn*(c+b)=Pn*un+Pn*(c+b - un):=by rw [← mD]; congr 1; omega
 have e2:A+q*V=W+Pn*(c+b - un):=by omega
 have e3:=cX W V; have e4:=dJ W hV
 have hm:Pn*1≤Pn*(c+b - un):=mQ _ (by omega)
 have hqW:W<q*V:=by omega
 have hq:W / V<q:=(gH hV).2 hqW; have hqe:q=W / V+1:=by omega
 have e5:q*V=V*(W / V)+V:=by rw [hqe,cY,gT,mL]
 have hz:c+b - un=1:=by
  rcases pG (c+b - un) 2 with h0 | h0
  ·omega
  ·exfalso
   have:Pn*2≤Pn*(c+b - un):=mQ _ h0; omega
 rw [hz] at e2; exact ⟨hqe,by omega,by omega⟩
end Go.Proofs.YtkjhfnhgefbhhaaGreat
/- Knuth's long division, on lists. Plain. -/
namespace Go.Proofs.YtkjhfnhgefbhhaaGreat
open Go.RowKit
theorem getD_drop (us:List Nat) (j i:Nat):(us.drop j).getD i 0=us.getD (j+i) 0:=by simp [List.getD]
theorem win_split (us:List Nat) (j n:Nat) (hn:2≤n) (hx:∀ x,x∈us→x<4294967296) (hhi:wB (us.drop (j+1+n))=0) :
  ∃ lo,lo<4294967296 ^ (n - 2)∧wB (us.drop j)=lo+4294967296 ^ (n - 2)*(us.getD (j+(n - 2)) 0+4294967296*(us.getD (j+(n - 1)) 0+4294967296*us.getD (j+n) 0)):=by
 refine ⟨wB ((us.drop j).take (n - 2)),kU _ _ fun x h=>hx x (bF h),?_⟩
 rw [qQ (us.drop j) (n - 2),cC,w9 us (j+(n - 2)),w9 us (j+(n - 2)+1),w9 us (j+(n - 2)+1+1)]; rw [show j+(n - 2)+1=j+(n - 1) by omega,show j+(n - 1)+1=j+n by omega,show j+n+1=j+1+n by omega,hhi]
 simp
theorem hi_zero (us:List Nat) (k n V:Nat) (h:wB (us.drop k)<V) (hV:V<4294967296 ^ n):wB (us.drop (k+n))=0:=by
 have h1:=qQ (us.drop k) n; rw [cC] at h1
 rcases mF (wB (us.drop (k+n))) with h0 | h0
 ·exact h0
 ·have:4294967296 ^ n*1≤4294967296 ^ n*wB (us.drop (k+n)):=mQ _ h0
  omega
theorem top_split (vs:List Nat) (n:Nat) (hn:2≤n) (hl:vs.length=n) (hx:∀ x,x∈vs→x<4294967296) :
  ∃ lo,lo<4294967296 ^ (n - 2)∧wB vs=lo+4294967296 ^ (n - 2)*(vs.getD (n - 2) 0+4294967296*vs.getD (n - 1) 0):=by
 refine ⟨wB (vs.take (n - 2)),kU _ _ hx,?_⟩
 rw [qQ vs (n - 2),w9 vs (n - 2),w9 vs (n - 2+1)]; rw [show n - 2+1=n - 1 by omega,show n - 1+1=n by omega,pY (pE6 hl)]
 simp [wB]
theorem long_digit (us vs:List Nat) (j n:Nat) (hn:2≤n) (hl:vs.length=n) (hu:∀ x,x∈us→x<4294967296) (hv:∀ x,x∈vs→x<4294967296)
  (htop:2147483648≤vs.getD (n - 1) 0) (hW:wB (us.drop (j+1))<wB vs) {t:Nat} (ht:us.getD (j+n) 0*4294967296+us.getD (j+(n - 1)) 0=t) :
  Digit (vs.getD (n - 1) 0) (vs.getD (n - 2) 0) (us.getD (j+(n - 2)) 0) t (wB (us.drop j) / wB vs) ∧
  (∀ q,q<4294967296→q*(vs.getD (n - 1) 0*4294967296+vs.getD (n - 2) 0)≤t*4294967296+us.getD (j+(n - 2)) 0→q≤wB (us.drop j) / wB vs+1):=by
 have hVB:wB vs<4294967296 ^ n:=by rw [← hl]; exact qR vs hv
 have hhi:=hi_zero us (j+1) n _ hW hVB; obtain ⟨lo,hlo,e1⟩:=win_split us j n hn hu hhi
 obtain ⟨lv,hlv,e2⟩:=top_split vs n hn hl hv; have h2:=getD_lt us hu (j+(n - 2))
 have hnx:=getD_lt vs hv (n - 2); have htp:=getD_lt vs hv (n - 1)
 have e3:wB (us.drop j)=us.getD j 0+4294967296*wB (us.drop (j+1)):=w9 us j; have hj:=getD_lt us hu j
 have htl:t<vs.getD (n - 1) 0*4294967296+4294967296:=by
  have hs:=qQ (us.drop (j+1)) (n - 2); rw [cC,w9 us (j+1+(n - 2)),w9 us (j+1+(n - 2)+1)] at hs
  rw [show j+1+(n - 2)+1=j+n by omega,show j+1+(n - 2)=j+(n - 1) by omega,show j+n+1=j+1+n by omega,hhi] at hs
  have hP:0<4294967296 ^ (n - 2):=bD (by decide)
  have hc:us.getD (j+(n - 1)) 0+4294967296*(us.getD (j+n) 0+4294967296*0)=t:=by rw [← ht]; omega
  rw [hc] at hs; generalize 4294967296 ^ (n - 2)=P at *
  rcases pG t (vs.getD (n - 1) 0*4294967296+4294967296) with h | h
  ·exact h
  ·exfalso
   have h5:P*(vs.getD (n - 2) 0+4294967296*vs.getD (n - 1) 0+1)≤P*t:=mQ _ (by omega)
   rw [mD,gC] at h5; omega
 have hP:0<4294967296 ^ (n - 2):=bD (by decide)
 have e1':wB (us.drop j)=lo+4294967296 ^ (n - 2)*(t*4294967296+us.getD (j+(n - 2)) 0):=by
  rw [e1,← ht]
  congr 2
  omega
 have e2':wB vs=lv+4294967296 ^ (n - 2)*(vs.getD (n - 1) 0*4294967296+vs.getD (n - 2) 0):=by
  rw [e2]
  congr 2
  omega
 generalize 4294967296 ^ (n - 2)=P at *; generalize us.getD (j+(n - 2)) 0=u2 at *
 generalize vs.getD (n - 2) 0=nx at *; generalize vs.getD (n - 1) 0=tp at *
 have f1:(tp*4294967296+nx)*P≤wB vs:=by rw [e2',mL]; omega
 have f2:wB (us.drop j)<(t*4294967296+u2+1)*P:=by rw [e1',cY _ 1 P,gT,mL P]; omega
 have f3:wB (us.drop j)<wB vs*4294967296:=by rw [e3]; omega
 refine ⟨digit_of P _ _ tp nx u2 t hP htop htp hnx h2 f1 f2 f3 htl,fun q hq hle=>?_⟩
 refine guess_le P _ _ tp nx u2 t q hP ?_ ?_ ?_ hq hle
 ·refine pC ?_ f1
  exact mC _ (by omega)
 ·rw [e2',cY _ 1 P,gT,mL P]; omega
 ·rw [e1',mL]; omega
theorem wIB (us:List Nat) (j i d:Nat) (h:j+i<us.length) :
  (us.set (j+i) d).take j=us.take j∧(us.set (j+i) d).drop (j+i+1)=us.drop (j+i+1)∧wB (((us.set (j+i) d).drop j).take (i+1))=wB ((us.drop j).take i)+4294967296 ^ i*d:=by
 refine ⟨by rw [List.take_set_of_le (by omega)],by rw [pD1 (by omega)],?_⟩
 have e:(us.set (j+i) d).drop j=(us.drop j).set i d:=by
  rw [List.drop_set,if_neg (by omega)]
  simp
 rw [e]; exact wIJ (us.drop j) (us.length - j) i d (by simp) (by omega)
theorem qA0 (x:Nat) (h0:0<x) (h:x<4294967296):∃ L,Lib.bitLen x=L∧1≤L∧L≤32∧x<2 ^ L∧2 ^ (L - 1)≤x:=by
 refine ⟨_,rfl,?_⟩
 have h32:=Lib.bitLen_le x 32 (by decide) (by simpa using h)
 have hpos:∀ y,0<y→y<2 ^ 64→1≤Lib.bitLen y:=fun y hy hl=>by rw [Lib.bitLen_half y (by omega) hl]; omega
 have h64:x<2 ^ 64:=mR h (by decide)
 have h1:=hpos x h0 h64; refine ⟨h1,h32,?_,?_⟩
 ·rcases pG x (2 ^ Lib.bitLen x) with hh | hh
  ·exact hh
  ·exfalso
   have e:=Lib.bitLen_shift (Lib.bitLen x) x hh h64; have hq:0<x / 2 ^ Lib.bitLen x:=Nat.div_pos hh (bD (by decide))
   have:=hpos _ hq (pA8 (cN _ _) h64); omega
 ·rcases pG x (2 ^ (Lib.bitLen x - 1)) with hh | hh
  ·exfalso
   have:=Lib.bitLen_le x (Lib.bitLen x - 1) (by omega) hh
   omega
  ·exact hh
theorem leftG_more (xs:List Nat) (s c:Nat) (h:(qS xs s c).length=xs.length+1):4294967296 ^ xs.length≤wB (qS xs s c):=by
 induction xs generalizing c with
 | nil =>
  unfold qS at h ⊢
  split
  ·simp_all
  ·simp [wB]; omega
 | cons x xs ih =>
  simp only [qS,List.length_cons,wB] at h ⊢
  have:=ih _ (by omega:(qS xs s (x*2 ^ s / 4294967296)).length=xs.length+1)
  rw [mY,mL]; have h2:=mQ 4294967296 this
  omega
theorem long_start (ys:List Nat) (n s:Nat) (hn:2≤n) (hl:ys.length=n) (hy:∀ x,x∈ys→x<4294967296) (h0:0<ys.getD (n - 1) 0) (hs:Lib.bitLen (ys.getD (n - 1) 0)+s=32) :
  s<32∧(qS ys s 0).length=n∧(∀ x,x∈qS ys s 0→x<4294967296)∧wB (qS ys s 0)=wB ys*2 ^ s∧2147483648≤(qS ys s 0).getD (n - 1) 0:=by
 have htl:=getD_lt ys hy (n - 1); obtain ⟨L,hL,l1,l2,l3,l4⟩:=qA0 _ h0 htl
 rw [hL] at hs; have hs32:s<32:=by omega
 have hnat:=wZJ ys s 0 hs32; rw [cJ] at hnat
 have hok:=qH1 ys s 0 hs32 hy (bD (by decide))
 have hlen:=wQ8 ys s 0
 have e1:=qQ ys (n - 1); rw [w9 ys (n - 1),show n - 1+1=n by omega,pY (pE6 hl)] at e1
 have e2:=kU ys (n - 1) hy; have hPn:4294967296 ^ n=4294967296 ^ (n - 1)*4294967296:=by rw [← mY]; congr 1; omega
 have hP:0<4294967296 ^ (n - 1):=bD (by decide)
 have p1:2 ^ L*2 ^ s=4294967296:=by rw [← bW,hs]
 have p2:2 ^ (L - 1)*2 ^ s=2147483648:=by rw [← bW,show L - 1+s=31 by omega]
 simp only [wB,Nat.mul_zero,Nat.add_zero] at e1
 generalize ys.getD (n - 1) 0=tp at *; have q1:wB ys<4294967296 ^ (n - 1)*(tp+1):=by rw [mD]; omega
 have q2:wB ys*2 ^ s<4294967296 ^ n:=by
  refine mR ((gL (bD (by decide):0<2 ^ s)).2 q1) ?_
  rw [hPn,mJ]; refine mQ _ ?_
  rw [← p1]; exact mC _ l3
 have q3:4294967296 ^ (n - 1)*2147483648≤wB ys*2 ^ s:=by
  have:4294967296 ^ (n - 1)*tp≤wB ys:=by omega
  refine pC ?_ (mC _ this)
  rw [mJ,← p2]; exact mQ _ (mC _ l4)
 have hln:(qS ys s 0).length=n:=by
  rcases pG n (qS ys s 0).length with h | h
  ·exfalso
   have:=leftG_more ys s 0 (by omega)
   rw [hnat,hl] at this; omega
  ·omega
 refine ⟨hs32,hln,hok,hnat,?_⟩
 have f1:=qQ (qS ys s 0) (n - 1); rw [w9 _ (n - 1),show n - 1+1=n by omega,pY (pE6 hln)] at f1
 have f2:=kU (qS ys s 0) (n - 1) hok; simp only [wB,Nat.mul_zero,Nat.add_zero] at f1
 rw [hnat] at f1; generalize (qS ys s 0).getD (n - 1) 0=z at *
 rcases pG z 2147483648 with h | h
 ·exfalso
  have:4294967296 ^ (n - 1)*(z+1)≤4294967296 ^ (n - 1)*2147483648:=mQ _ h; rw [mD] at this
  omega
 ·exact h
def wNJ (xs:List Nat) (s:Nat):List Nat:=(qS xs s 0++[0,0]).take (xs.length+1)
theorem wVD (xs:List Nat) (s:Nat) (hs:s<32) (hx:∀ x,x∈xs→x<4294967296):(wNJ xs s).length=xs.length+1∧(∀ x,x∈wNJ xs s→x<4294967296)∧wB (wNJ xs s)=wB xs*2 ^ s:=by
 have hnat:=wZJ xs s 0 hs; rw [cJ] at hnat
 have hok:=qH1 xs s 0 hs hx (bD (by decide))
 have hlen:=wQ8 xs s 0; unfold wNJ
 refine ⟨by simp; omega,fun x h=>?_,?_⟩
 ·have:=dC h
  simp only [List.mem_append,List.mem_cons] at this
  rcases this with h | h | h | h
  ·exact hok x h
  ·omega
  ·omega
  ·cases h
 ·rcases pG xs.length (qS xs s 0).length with h | h
  ·rw [List.take_append_of_le_length (by omega),pN (by omega),hnat]
  ·have e:xs.length=(qS xs s 0).length:=by omega
   rw [e,fI]
   simp [wN9,wB]
   rw [pN (by omega),hnat]
theorem longU_top (xs vs:List Nat) (n s:Nat) (hs:s<32) (hx:∀ x,x∈xs→x<4294967296) (hn:2≤n) (hnx:n≤xs.length) (hvn:vs.length=n) (hv:∀ x,x∈vs→x<4294967296) (htop:2147483648≤vs.getD (n - 1) 0) :
  wB ((wNJ xs s).drop (xs.length - n+1))<wB vs:=by
 obtain ⟨h1,h2,h3⟩:=wVD xs s hs hx; have e1:=qQ vs (n - 1)
 rw [w9 vs (n - 1),show n - 1+1=n by omega,pY (pE6 hvn)] at e1
 simp only [wB,Nat.mul_zero,Nat.add_zero] at e1
 have e2:=qQ (wNJ xs s) (xs.length - n+1); have e3:=qR xs hx
 have hp:2 ^ s≤2147483648:=(dD (by decide) (show s≤31 by omega):2 ^ s≤2 ^ 31)
 have e4:4294967296 ^ xs.length=4294967296 ^ (xs.length - n+1)*4294967296 ^ (n - 1):=by rw [← bW]; congr 1; omega
 have hP:0<4294967296 ^ (xs.length - n+1):=bD (by decide)
 rw [h3] at e2; have e5:wB xs*2 ^ s<4294967296 ^ (xs.length - n+1)*(4294967296 ^ (n - 1)*2 ^ s):=by
  rw [← mJ,← e4]; exact (gL (bD (by decide))).2 e3
 have e6:4294967296 ^ (xs.length - n+1)*wB ((wNJ xs s).drop (xs.length - n+1))<4294967296 ^ (xs.length - n+1)*(4294967296 ^ (n - 1)*2 ^ s):=by omega
 have e7:=(Nat.mul_lt_mul_left hP).1 e6; have e8:4294967296 ^ (n - 1)*2 ^ s≤4294967296 ^ (n - 1)*vs.getD (n - 1) 0:=mQ _ (by omega)
 omega
theorem long_round (us us' out:List Nat) (V U0 j q:Nat) (hj:j<out.length) (h1:us'.take j=us.take j) (h2:wB (us'.drop j)=wB (us.drop j) % V) (hq:q=wB (us.drop j) / V)
  (h:wB us+V*(4294967296 ^ (j+1)*wB (out.drop (j+1)))=U0):wB us'+V*(4294967296 ^ j*wB ((out.set j q).drop j))=U0:=by
 rw [wK5 out j q hj,qQ us' j,h1,h2]; rw [qQ us j] at h
 have h3:=cX (wB (us.drop j)) V; rw [← hq] at h3
 have e1:4294967296 ^ j*wB (us.drop j)=4294967296 ^ j*(V*q)+4294967296 ^ j*(wB (us.drop j) % V):=by rw [← mD,h3]
 have e2:V*(4294967296 ^ j*(q+4294967296*wB (out.drop (j+1))))=4294967296 ^ j*(V*q)+V*(4294967296 ^ (j+1)*wB (out.drop (j+1))):=by
  rw [mD,mD,fP V,mY,mJ (4294967296 ^ j)]
 rw [e1] at h; rw [e2]
 omega
theorem long_end (us out:List Nat) (A B n s:Nat) (hu:∀ x,x∈us→x<4294967296) (hV:B*2 ^ s<4294967296 ^ n) (h:wB us+B*2 ^ s*(4294967296 ^ 0*wB (out.drop 0))=A*2 ^ s) (hlt:wB us<B*2 ^ s) :
  wB out=A / B∧wB (us.take n) / 2 ^ s=A % B:=by
 simp only [Nat.pow_zero,Nat.one_mul,List.drop_zero] at h
 have hp:0<2 ^ s:=bD (by decide)
 have hq:A*2 ^ s / (B*2 ^ s)=wB out:=by
  rw [← h,pC8 _ _ (by omega),pE5 hlt,dM]
 have hr:A*2 ^ s % (B*2 ^ s)=wB us:=by
  rw [← h,gY,cA hlt]
 rw [Nat.mul_div_mul_right _ _ hp] at hq; rw [Nat.mul_mod_mul_right] at hr
 have ht:wB (us.take n)=wB us:=by
  have h1:=qQ us n; have h0:wB (us.drop n)=0:=by
   rcases mF (wB (us.drop n)) with h0 | h0
   ·exact h0
   ·have:4294967296 ^ n*1≤4294967296 ^ n*wB (us.drop n):=mQ _ h0
    omega
  rw [h0] at h1; omega
 refine ⟨hq.symm,?_⟩
 rw [ht,← hr,Nat.mul_div_cancel _ hp]
theorem win_end (us:List Nat) (j n A v:Nat) (h:wB ((us.drop j).take n)=A) (h2:wB (us.drop (j+n+1))=0) (hl:j+n<us.length):wB ((us.set (j+n) v).drop j)=A+4294967296 ^ n*v:=by
 obtain ⟨_,e2,e3⟩:=wIB us j n v hl; rw [qQ _ (n+1),cC,show j+(n+1)=j+n+1 by omega,e2,h2,e3,h,dN,cJ]
theorem back_step (P R A Vi c u v:Nat) (h:R+P*c=A+Vi):R+P*((u+v+c) % 4294967296)+P*4294967296*((u+v+c) / 4294967296)=A+P*u+(Vi+P*v):=by
 have h1:=cX (u+v+c) 4294967296; have e:P*(u+v+c)=P*4294967296*((u+v+c) / 4294967296)+P*((u+v+c) % 4294967296):=by
  conv=>lhs; rw [← h1]
  rw [mD,mJ]
 rw [mD,mD] at e; omega
theorem back_end (P R A V M c:Nat) (h:R+P*c=A+V) (h2:A+V=M+P) (hR:R<P) (hM:M<P):c=1∧R=M:=by
 have hP:0<P:=by omega
 rcases pG c 1 with h0 | h0
 ·have:c=0:=by omega
  subst this; omega
 ·rcases pG c 2 with h1 | h1
  ·have:c=1:=by omega
   subst this; omega
  ·have:P*2≤P*c:=mQ _ h1
   omega
end Go.Proofs.YtkjhfnhgefbhhaaGreat
