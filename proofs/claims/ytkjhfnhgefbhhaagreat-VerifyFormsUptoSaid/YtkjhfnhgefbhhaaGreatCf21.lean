/- Direct sums of tables; chains, as the program goes through them: plain laws. -/
import Derived.Test.YtkjhfnhgefbhhaaGreatCf20
import Derived.Below
set_option linter.all false
set_option maxRecDepth 20000
set_option maxHeartbeats 6400000
namespace Go.Proofs.YtkjhfnhgefbhhaaGreat
open Go.RowKit Go.Ev Go.Vl
def dsA {α:Type} (z:α):List (Nat × (Nat→Nat→α))→Nat→Nat→α
 | [],_,_=>z
 | p :: l,a,b=>if a<p.1∧b<p.1 then p.2 a b else if p.1≤a∧p.1≤b then dsA z l (a - p.1) (b - p.1) else z
def dsN {α:Type}:List (Nat × (Nat→Nat→α))→Nat
 | []=>0
 | p :: l=>p.1+dsN l
theorem xG {α:Type} (z:α) (p:Nat × (Nat→Nat→α)) (l:List (Nat × (Nat→Nat→α))) (a b:Nat):dsA z (p :: l) a b=if a<p.1∧b<p.1 then p.2 a b else if p.1≤a∧p.1≤b then dsA z l (a - p.1) (b - p.1) else z:=rfl
theorem xF {α:Type} (p:Nat × (Nat→Nat→α)) (l:List (Nat × (Nat→Nat→α))):dsN (p :: l)=p.1+dsN l:=rfl
theorem qHJ {α:Type} (z:α) (p:Nat × (Nat→Nat→α)):∀ (l:List (Nat × (Nat→Nat→α))) (a b:Nat),dsA z (l++[p]) a b=if dsN l≤a∧dsN l≤b∧a - dsN l<p.1∧b - dsN l<p.1 then p.2 (a - dsN l) (b - dsN l) else dsA z l a b
 | [],a,b=>by
  have e0:dsN ([]:List (Nat × (Nat→Nat→α)))=0:=rfl; rw [gW,xG,e0,pA5,pA5]
  by_cases h:a<p.1∧b<p.1
  ·rw [if_pos h,if_pos ⟨pH _,pH _,h⟩]
  ·have h':¬ (0≤a∧0≤b∧a<p.1∧b<p.1):=fun k=>h k.2.2
   rw [if_neg h,if_neg h']
   split <;> rfl
 | q :: l,a,b=>by
  have ih:=qHJ z p l (a - q.1) (b - q.1); rw [fU,xG,xG,xF]
  have e1:a - q.1 - dsN l=a - (q.1+dsN l):=by omega
  have e2:b - q.1 - dsN l=b - (q.1+dsN l):=by omega
  rw [e1,e2] at ih
  by_cases h1:a<q.1∧b<q.1
  ·rw [if_pos h1,if_neg (by omega),if_pos h1]
  ·rw [if_neg h1,if_neg h1]
   by_cases h2:q.1≤a∧q.1≤b
   ·rw [if_pos h2,if_pos h2,ih]
    by_cases h3:dsN l≤a - q.1∧dsN l≤b - q.1∧a - (q.1+dsN l)<p.1∧b - (q.1+dsN l)<p.1
    ·rw [if_pos h3,if_pos (by omega)]
    ·rw [if_neg h3,if_neg (by omega)]
   ·rw [if_neg h2,if_neg h2,if_neg (by omega)]
theorem qHI {α:Type} (p:Nat × (Nat→Nat→α)):∀ l:List (Nat × (Nat→Nat→α)),dsN (l++[p])=dsN l+p.1
 | []=>by simp [dsN]
 | q :: l=>by simp only [List.cons_append,dsN]; rw [qHI p l]; omega
theorem wED {α:Type} {l:List (Nat × (Nat→Nat→α))} {j:Nat} {p:Nat × (Nat→Nat→α)} (h:l[j]? = some p):dsN (l.take (j+1))=dsN (l.take j)+p.1:=by
 rw [mO,h]; exact qHI p _
theorem wWC {α:Type}:∀ (l:List (Nat × (Nat→Nat→α))) (j:Nat),dsN (l.take j)≤dsN l
 | [],j=>by simp [dsN]
 | p :: l,0=>by simp [dsN]
 | p :: l,j+1=>by
  simp only [List.take_succ_cons,dsN]
  have:=wWC l j; omega
theorem dsA_row {α:Type} (z:α):∀ (l:List (Nat × (Nat→Nat→α))) (j:Nat) (p:Nat × (Nat→Nat→α)),l[j]? = some p→∀ r b:Nat,r<p.1→dsA z l (dsN (l.take j)+r) b=if dsN (l.take j)≤b∧b - dsN (l.take j)<p.1 then p.2 r (b - dsN (l.take j)) else z
 | [],j,p,h,_,_,_=>by simp at h
 | q :: l,0,p,h,r,b,hr=>by
  simp only [List.getElem?_cons_zero,Option.some.injEq] at h
  subst h; have e0:dsN ((q :: l).take 0)=0:=rfl
  rw [e0,xG,dM,pA5]
  by_cases hb:b<q.1
  ·rw [if_pos ⟨hr,hb⟩,if_pos ⟨pH _,hb⟩]
  ·rw [if_neg (by omega),if_neg (by omega),if_neg (by omega)]
 | q :: l,j+1,p,h,r,b,hr=>by
  simp only [List.getElem?_cons_succ] at h
  have ih:=dsA_row z l j p h r (b - q.1) hr; rw [bQ,xF,xG,if_neg (by omega)]
  have e1:q.1+dsN (l.take j)+r - q.1=dsN (l.take j)+r:=by omega
  have e2:b - q.1 - dsN (l.take j)=b - (q.1+dsN (l.take j)):=by omega
  rw [e1,ih,e2]
  by_cases h1:q.1≤b
  ·rw [if_pos (by omega)]
   by_cases h2:dsN (l.take j)≤b - q.1∧b - (q.1+dsN (l.take j))<p.1
   ·rw [if_pos h2,if_pos (by omega)]
   ·rw [if_neg h2,if_neg (by omega)]
  ·rw [if_neg (by omega),if_neg (by omega)]
theorem dsA_map {α β:Type} (f:α→β) (z:α):∀ (l:List (Nat × (Nat→Nat→α))) (a b:Nat),f (dsA z l a b)=dsA (f z) (l.map fun p=>(p.1,fun a b=>f (p.2 a b))) a b
 | [],_,_=>rfl
 | p :: l,a,b=>by
  rw [dL,xG,xG,← dsA_map f z l]
  split
  ·rfl
  ·split <;> rfl
inductive dsEq {α:Type}:List (Nat × (Nat→Nat→α))→List (Nat × (Nat→Nat→α))→Prop
 | nil:dsEq [] []
 | cons {p q:Nat × (Nat→Nat→α)} {l l':List (Nat × (Nat→Nat→α))} (h:p.1=q.1) (he:∀ a b,a<p.1→b<p.1→p.2 a b=q.2 a b) (ht:dsEq l l'):dsEq (p :: l) (q :: l')
theorem dsEq.eq {α:Type} (z:α) {l l':List (Nat × (Nat→Nat→α))} (h:dsEq l l'):∀ a b,dsA z l a b=dsA z l' a b:=by
 induction h with
 | nil=>exact fun _ _=>rfl
 | cons h he ht ih =>
  intro a b
  rw [xG,xG,← h,ih]
  split
  ·rename_i hh
   exact he a b hh.1 hh.2
  ·rfl
theorem dsEq.len {α:Type} {l l':List (Nat × (Nat→Nat→α))} (h:dsEq l l'):dsN l=dsN l':=by
 induction h with
 | nil=>rfl
 | cons h he ht ih=>simp only [dsN]; rw [h,ih]
theorem dsEq.maps {α ι:Type} {f g:ι→Nat × (Nat→Nat→α)}:∀ {l:List ι},(∀ x∈l,(f x).1=(g x).1∧∀ a b,a<(f x).1→b<(f x).1→(f x).2 a b=(g x).2 a b)→dsEq (l.map f) (l.map g)
 | [],_=>.nil
 | x :: l,h=>.cons (h x (pO ..)).1 (h x (pO ..)).2 (dsEq.maps fun y hy=>h y (pT _ hy))
theorem wT2 {α:Type} {z:α} (R:α→Prop) (hz:R z):∀ {l:List (Nat × (Nat→Nat→α))},(∀ p∈l,∀ a b,a<p.1→b<p.1→R (p.2 a b))→∀ a b,R (dsA z l a b)
 | [],_,_,_=>hz
 | p :: l,h,a,b=>by
  rw [xG]
  split
  ·rename_i hh
   exact h p (pO ..) a b hh.1 hh.2
  ·split
   ·exact wT2 R hz (fun q hq=>h q (pT _ hq)) _ _
   ·exact hz
def wrG (H:Nat→Nat→Rat) (o n:Nat) (X:Nat→Nat→Rat) (a b:Nat):Nat→Nat→Rat:=fun r c=>if o≤r∧o≤c∧c - o<n∧(r - o<a∨(r - o=a∧c - o<b)) then X (r - o) (c - o) else H r c
theorem wrG_first (H:Nat→Nat→Rat) (o n:Nat) (X:Nat→Nat→Rat):wrG H o n X 0 0=H:=by
 funext r c
 unfold wrG; rw [if_neg (by omega)]
theorem wrG_next (H:Nat→Nat→Rat) (o n:Nat) (X:Nat→Nat→Rat) (a b:Nat) (hb:b<n):wBA (wrG H o n X a b) (o+a) (o+b) (X a b)=wrG H o n X a (b+1):=by
 funext r c
 unfold wBA wrG
 by_cases h:r=o+a∧c=o+b
 ·obtain ⟨rfl,rfl⟩:=h
  rw [if_pos ⟨rfl,rfl⟩,if_pos (by omega)]
  congr 1 <;> omega
 ·rw [if_neg h]
  by_cases h2:o≤r∧o≤c∧c - o<n∧(r - o<a∨(r - o=a∧c - o<b))
  ·rw [if_pos h2,if_pos (by omega)]
  ·rw [if_neg h2,if_neg (by omega)]
theorem wrG_row (H:Nat→Nat→Rat) (o n:Nat) (X:Nat→Nat→Rat) (a:Nat):wrG H o n X a n=wrG H o n X (a+1) 0:=by
 funext r c
 unfold wrG
 by_cases h2:o≤r∧o≤c∧c - o<n∧(r - o<a∨(r - o=a∧c - o<n))
 ·rw [if_pos h2,if_pos (by omega)]
 ·rw [if_neg h2,if_neg (by omega)]
theorem wrG_last (l:List (Nat × (Nat→Nat→Rat))) (j:Nat) (p:Nat × (Nat→Nat→Rat)) (h:l[j]? = some p):wrG (dsA 0 (l.take j)) (dsN (l.take j)) p.1 p.2 p.1 0=dsA 0 (l.take (j+1)):=by
 funext r c
 rw [mO,h]; rw [show (some p).toList=[p] from rfl,qHJ]
 unfold wrG
 by_cases h2:dsN (l.take j)≤r∧dsN (l.take j)≤c∧r - dsN (l.take j)<p.1∧c - dsN (l.take j)<p.1
 ·rw [if_pos h2,if_pos (by omega)]
 ·rw [if_neg h2,if_neg (by omega)]
def yA (n:Nat):Nat→Option (List Rat)→List (List Rat)→Bool
 | s,_,[]=>decide (s=n)
 | s,o,f :: fs=>if wV f≤1 then false else if atR f (wV f - 1)≠1 then false else if n<s+(wV f - 1) then false else (match o with | none=>true | some p=>wO9 p f) && yA n (s+(wV f - 1)) (some f) fs
theorem wUI (n:Nat):∀ (l:List (List Rat)) (s:Nat) (o:Option (List Rat)),yA n s o l=(yH n s l && (match o with | none=>vX l | some p=>vX (p :: l)))
 | [],s,o=>by cases o <;> simp [yA,yH,vX]
 | f :: fs,s,o=>by
  have ih:=wUI n fs (s+(wV f - 1)) (some f); simp only [yA,yH]
  split
  ·simp
  ·split
   ·simp
   ·split
    ·simp
    ·rw [ih]
     cases o with
     | none=>simp
     | some p =>
      simp only [vX]
      rw [Bool.and_left_comm]
end Go.Proofs.YtkjhfnhgefbhhaaGreat
/- rat.made of fractions, Of, Neg, Mul, Sub, Quo, told of trees. ALLOC -/
namespace Go.Proofs.YtkjhfnhgefbhhaaGreat
open Go.RowKit Go.Ev Go.Vl
theorem rofP_v (k:Nat) (hk:k<9223372036854775808):wD Tryz.prog 138 [.int .i64 (k:Nat)] (fun y=>y=nR (k:Nat)):=by
 refine wC wG Tryz.func138 rfl rfl rfl rfl fun w0=>?_
 have q1:=wR0 k hk; have q2:=wR0 1 (by decide)
 repeat (first | refine wl ?_ | refine wv ?_ | refine wc q1 ?_ | refine wc q2 ?_ | refine wz ?_)
 exact ⟨.inl rfl,_,rfl,rfl⟩
def clN (q:QQ):QQ:=qn (wI q)
theorem wSI (g:FuncId) (fn:Func) (hfn:zV.fns.get g=some fn) (qs:List QQ) (z:Rat) (hq:∀ q∈qs,okQ q∧intOf q.2≠0) (hl:qs.length≤1099511627776) (hg:wD Tryz.prog g [vQs (qs.map clN)] (fun y=>y=.tup [nR z,.int .i64 0])) :
  wD Tryz.prog 201 [.clo g [] [],vQs qs] (fun y=>y=.tup [nR z,.int .i64 0]):=by
 refine wC wG Tryz.func201 rfl rfl rfl rfl fun w0=>?_
 repeat (first | refine wg rfl (sL (qW _)) ?_ | refine wl ?_ | refine wv ?_ | refine wg rfl (sM 7000 0 qs.length 4 64 (es':=[]) rfl) ?_ | refine wz ?_)
 refine wJ (fun b:Nat × List QQ=>[jV 0 (.clo g [] []),jB 8 4,jC 9 [.v (.bool false),.nils,.v (.bool false),.nils],jB 12 6,jC 13 [.v (.bool false),.nils,.v (.bool false),.nils],jO 14 1 89 4 (b.2.map wH),jV 30 (vQs qs),jI 32 (qs.length),jI 34 (b.1)])
  (fun b=>b.1≤qs.length∧b.2=(qs.take b.1).map clN) (fun b=>qs.length - b.1) (0,[]) (fun _=>rfl) ⟨pH _,rfl⟩ ⟨rfl,rfl,rfl,rfl,rfl,⟨_,rfl⟩,rfl,rfl,rfl,trivial⟩ fun ⟨j,out⟩ hI=>?_
 obtain ⟨h1,h3⟩:=hI; dsimp only at h1 h3 ⊢
 have hol:(out.map wH).length=out.length:=qW _; have hol2:out.length=j:=by rw [h3]; simp; omega
 rcases pG j qs.length with hj | hj
 ·obtain ⟨q,hqe⟩:=gE hj
  have hqo:=hq q (pD hqe); have hgq:=kO qs j q hqe
  have q1:=wJ3 q hqo.1 hqo.2; have hs:=wPI out (clN q)
  have hnew:out++[clN q]=(qs.take (j+1)).map clN:=by
   rw [h3,mO,hqe]
   simp
  unfold nR at q1; rw [show qn (wI q)=clN q from rfl] at q1
  generalize clN q=p at *; obtain ⟨⟨x,l⟩,⟨y,k⟩⟩:=q
  obtain ⟨⟨x',l'⟩,⟨y',k'⟩⟩:=p; clear hg
  have row4:∀ e∈[wH ((x',l'),(y',k'))],e.length=4:=fun e h=>by rw [pL.1 h]; rfl
  repeat (first | refine wl ?_ | refine wv ?_ | refine wg rfl (sX j hgq) ?_ | refine wc q1 ?_ | refine wf rfl rfl (sA 7001 [wH ((x',l'),(y',k'))] 4 64 row4 hs) ?_ | refine wg rfl cT ?_ | refine wg rfl nF ?_ | refine wg rfl sB ?_ | refine wz ?_)
  exact ⟨(j+1,out++[((x',l'),(y',k'))]),⟨hj,hnew⟩,by dsimp only; omega,rfl,rfl,rfl,rfl,rfl,⟨_,rfl⟩,rfl,rfl,rfl,trivial⟩
 ·have hje:j=qs.length:=by omega
  subst hje; rw [mH] at h3
  rw [← h3] at hg; unfold nR at hg ⊢
  generalize qn z=zq at *; obtain ⟨⟨x,l⟩,⟨y,k⟩⟩:=zq
  repeat (first | refine wv ?_ | refine wg rfl cF ?_ | refine wMD wG rfl rfl rfl rfl rfl rfl rfl hfn rfl hg rfl rfl ?_ | refine wz ?_)
  exact ⟨.inl rfl,_,rfl,rfl⟩
theorem wN6 {a:QQ} (h:okS a):okQ a∧intOf a.2≠0:=⟨h.ok,h.2.2.2.2⟩
theorem wG4 {a:QQ} (h:okS a):okS (clN a):=vV _ (qD1 h).1 (qD1 h).2
theorem vC (a:QQ):wI (clN a)=wI a:=wUF _
theorem negc_v (z:Rat) (h:okS (qn z)):wD Tryz.prog 202 [vQs [qn z]] (fun y=>y=.tup [nR (-z),.int .i64 0]):=by
 refine wC wG Tryz.func202 rfl rfl rfl rfl fun w0=>?_
 have q1:=qB8 (qn z).1 h.ok.1; have e1:intOf (qn z).1=z.num:=wE _
 rw [e1] at q1; have e2:nR (-z)=.agg [.bool (zn (-z.num)).1,vL (zn (-z.num)).2,.bool (qn z).2.1,vL (qn z).2.2]:=by
  unfold nR vQ qn; rw [Rat.neg_num,Rat.neg_den]
 rw [e2]; unfold vQs
 have hg0:([qn z].map wH)[0]? = some (wH (qn z)):=rfl; generalize [qn z].map wH=L at *
 generalize qn z=q at *; obtain ⟨⟨x,l⟩,⟨y,m⟩⟩:=q
 repeat (first | refine wl ?_ | refine wv ?_ | refine wg rfl (sX 0 hg0) ?_ | refine wc q1 ?_ | refine wz ?_)
 exact ⟨.inl rfl,_,rfl,rfl⟩
theorem rnegP_v (a:QQ) (ha:okS a):wD Tryz.prog 137 [vQ a] (fun y=>y=.tup [nR (-wI a),.int .i64 0]):=by
 refine wC wG Tryz.func137 rfl rfl rfl rfl fun w0=>?_
 have q1:=wSI 202 Tryz.f202 rfl [a] (-wI a) (fun q hq=>by rw [pL.1 hq]; exact wN6 ha) (by show 1≤_; decide) (negc_v _ (wG4 ha))
 unfold nR at q1 ⊢; generalize qn (-wI a)=r at *
 obtain ⟨⟨x,l⟩,⟨y,m⟩⟩:=a; obtain ⟨⟨x',l'⟩,⟨y',m'⟩⟩:=r
 repeat (first | refine wl ?_ | refine wv ?_ | refine wh q1 ?_ | refine wz ?_)
 exact ⟨.inl rfl,_,rfl,rfl⟩
theorem mulc_v (a b:QQ) (ha:okS a) (hb:okS b):wD Tryz.prog 281 [vQs [a,b]] (fun y=>y=.tup [nR (wI a*wI b),.int .i64 0]):=by
 refine wC wG Tryz.func281 rfl rfl rfl rfl fun w0=>?_
 have q1:=xL a.1 b.1 ha.ok.1 hb.ok.1; have q2:=xL a.2 b.2 ha.ok.2 hb.ok.2
 have l1:=qJ (intOf a.1) (intOf b.1); have l2:=qJ (intOf a.2) (intOf b.2)
 have m1:=wL a.1 ha.1; have m2:=wL a.2 ha.2.1
 have m3:=wL b.1 hb.1; have m4:=wL b.2 hb.2.1
 have n1:=ha.2.2.1; have n2:=ha.2.2.2.1
 have n3:=hb.2.2.1; have n4:=hb.2.2.2.1
 have q3:=wVA (zn (intOf a.1*intOf b.1)) (zn (intOf a.2*intOf b.2)) (qF _ (by omega)) (qF _ (by omega)) (by rw [wE]; exact cD ha.2.2.2.2 hb.2.2.2.2)
 rw [wE,wE] at q3; have e:wI a*wI b=Rat.divInt (intOf a.1*intOf b.1) (intOf a.2*intOf b.2):=by
  unfold wI; rw [dE]
 rw [e]; unfold vQs
 have hg0:([a,b].map wH)[0]? = some (wH a):=rfl; have hg1:([a,b].map wH)[1]? = some (wH b):=rfl
 generalize [a,b].map wH=L at *; unfold nR at q3 ⊢
 generalize qn (Rat.divInt (intOf a.1*intOf b.1) (intOf a.2*intOf b.2))=r at *; obtain ⟨⟨x,l⟩,⟨y,m⟩⟩:=a
 obtain ⟨⟨x',l'⟩,⟨y',m'⟩⟩:=b; obtain ⟨⟨x2,l2⟩,⟨y2,m2⟩⟩:=r
 repeat (first | refine wl ?_ | refine wv ?_ | refine wg rfl (sX 0 hg0) ?_ | refine wg rfl (sX 1 hg1) ?_ | refine wc q1 ?_ | refine wc q2 ?_ | refine wc q3 ?_ | refine wz ?_)
 exact ⟨.inl rfl,_,rfl,rfl⟩
theorem rmulP_v (a b:QQ) (ha:okS a) (hb:okS b):wD Tryz.prog 249 [vQ a,vQ b] (fun y=>y=.tup [nR (wI a*wI b),.int .i64 0]):=by
 refine wC wG Tryz.func249 rfl rfl rfl rfl fun w0=>?_
 have q0:=mulc_v (clN a) (clN b) (wG4 ha) (wG4 hb); rw [vC,vC] at q0
 have q1:=wSI 281 Tryz.f281 rfl [a,b] (wI a*wI b) (fun q hq=>by rcases pQ.1 hq with rfl | hq; exact wN6 ha; rw [pL.1 hq]; exact wN6 hb) (by show 2≤_; decide) q0
 clear q0; unfold nR at q1 ⊢
 generalize qn (wI a*wI b)=r at *; obtain ⟨⟨x,l⟩,⟨y,m⟩⟩:=a
 obtain ⟨⟨x',l'⟩,⟨y',m'⟩⟩:=b; obtain ⟨⟨x2,l2⟩,⟨y2,m2⟩⟩:=r
 repeat (first | refine wl ?_ | refine wv ?_ | refine wh q1 ?_ | refine wz ?_)
 exact ⟨.inl rfl,_,rfl,rfl⟩
theorem subc_v (a b:QQ) (ha:okS a) (hb:okS b):wD Tryz.prog 282 [vQs [a,b]] (fun y=>y=.tup [nR (wI a - wI b),.int .i64 0]):=by
 refine wC wG Tryz.func282 rfl rfl rfl rfl fun w0=>?_
 have q1:=xL a.1 b.2 ha.ok.1 hb.ok.2; have q2:=xL b.1 a.2 hb.ok.1 ha.ok.2
 have q3:=xL a.2 b.2 ha.ok.2 hb.ok.2; have l1:=qJ (intOf a.1) (intOf b.2)
 have l2:=qJ (intOf b.1) (intOf a.2); have l3:=qJ (intOf a.2) (intOf b.2)
 have m1:=wL a.1 ha.1; have m2:=wL a.2 ha.2.1
 have m3:=wL b.1 hb.1; have m4:=wL b.2 hb.2.1
 have n1:=ha.2.2.1; have n2:=ha.2.2.2.1
 have n3:=hb.2.2.1; have n4:=hb.2.2.2.1
 have q4:=zsub_v (zn (intOf a.1*intOf b.2)) (zn (intOf b.1*intOf a.2)) (qF _ (by omega)) (qF _ (by omega))
 rw [wE,wE] at q4; have l4:=wQ5 (intOf a.1*intOf b.2) (-(intOf b.1*intOf a.2)) 137438953472 (by omega) (by rw [wL3]; omega)
 rw [← Int.sub_eq_add_neg] at l4; have q5:=wVA (zn (intOf a.1*intOf b.2 - intOf b.1*intOf a.2)) (zn (intOf a.2*intOf b.2)) (qF _ (by omega)) (qF _ (by omega)) (by rw [wE]; exact cD ha.2.2.2.2 hb.2.2.2.2)
 rw [wE,wE] at q5; have e:wI a - wI b=Rat.divInt (intOf a.1*intOf b.2 - intOf b.1*intOf a.2) (intOf a.2*intOf b.2):=by
  unfold wI; rw [Rat.divInt_sub_divInt _ _ ha.2.2.2.2 hb.2.2.2.2]
 rw [e]; unfold vQs
 have hg0:([a,b].map wH)[0]? = some (wH a):=rfl; have hg1:([a,b].map wH)[1]? = some (wH b):=rfl
 generalize [a,b].map wH=L at *; unfold nR at q5 ⊢
 generalize qn (Rat.divInt (intOf a.1*intOf b.2 - intOf b.1*intOf a.2) (intOf a.2*intOf b.2))=r at *; obtain ⟨⟨x,l⟩,⟨y,m⟩⟩:=a
 obtain ⟨⟨x',l'⟩,⟨y',m'⟩⟩:=b; obtain ⟨⟨x2,l2⟩,⟨y2,m2⟩⟩:=r
 repeat (first | refine wl ?_ | refine wv ?_ | refine wg rfl (sX 0 hg0) ?_ | refine wg rfl (sX 1 hg1) ?_ | refine wc q1 ?_ | refine wc q2 ?_ | refine wc q3 ?_ | refine wc q4 ?_ | refine wc q5 ?_ | refine wz ?_)
 exact ⟨.inl rfl,_,rfl,rfl⟩
theorem rsubP_v (a b:QQ) (ha:okS a) (hb:okS b):wD Tryz.prog 250 [vQ a,vQ b] (fun y=>y=.tup [nR (wI a - wI b),.int .i64 0]):=by
 refine wC wG Tryz.func250 rfl rfl rfl rfl fun w0=>?_
 have q0:=subc_v (clN a) (clN b) (wG4 ha) (wG4 hb); rw [vC,vC] at q0
 have q1:=wSI 282 Tryz.f282 rfl [a,b] (wI a - wI b) (fun q hq=>by rcases pQ.1 hq with rfl | hq; exact wN6 ha; rw [pL.1 hq]; exact wN6 hb) (by show 2≤_; decide) q0
 clear q0; unfold nR at q1 ⊢
 generalize qn (wI a - wI b)=r at *; obtain ⟨⟨x,l⟩,⟨y,m⟩⟩:=a
 obtain ⟨⟨x',l'⟩,⟨y',m'⟩⟩:=b; obtain ⟨⟨x2,l2⟩,⟨y2,m2⟩⟩:=r
 repeat (first | refine wl ?_ | refine wv ?_ | refine wh q1 ?_ | refine wz ?_)
 exact ⟨.inl rfl,_,rfl,rfl⟩
theorem quoc_v (a b:QQ) (ha:okS a) (hb:okS b) (h0:intOf b.1≠0):wD Tryz.prog 280 [vQs [a,b]] (fun y=>y=.tup [nR (wI a / wI b),.int .i64 0]):=by
 refine wC wG Tryz.func280 rfl rfl rfl rfl fun w0=>?_
 have q0:=vH b.1 hb.ok.1; have hs:=xN (intOf b.1)
 have q1:=xL a.1 b.2 ha.ok.1 hb.ok.2; have q2:=xL a.2 b.1 ha.ok.2 hb.ok.1
 have l1:=qJ (intOf a.1) (intOf b.2); have l2:=qJ (intOf a.2) (intOf b.1)
 have m1:=wL a.1 ha.1; have m2:=wL a.2 ha.2.1
 have m3:=wL b.1 hb.1; have m4:=wL b.2 hb.2.1
 have n1:=ha.2.2.1; have n2:=ha.2.2.2.1
 have n3:=hb.2.2.1; have n4:=hb.2.2.2.1
 have q3:=wVA (zn (intOf a.1*intOf b.2)) (zn (intOf a.2*intOf b.1)) (qF _ (by omega)) (qF _ (by omega)) (by rw [wE]; exact cD ha.2.2.2.2 h0)
 rw [wE,wE] at q3; have e:wI a / wI b=Rat.divInt (intOf a.1*intOf b.2) (intOf a.2*intOf b.1):=by
  unfold wI; rw [gU,pB0,dE]
 rw [e]; unfold vQs
 have hg0:([a,b].map wH)[0]? = some (wH a):=rfl; have hg1:([a,b].map wH)[1]? = some (wH b):=rfl
 generalize [a,b].map wH=L at *; unfold nR at q3 ⊢
 generalize qn (Rat.divInt (intOf a.1*intOf b.2) (intOf a.2*intOf b.1))=r at *; obtain ⟨⟨x,l⟩,⟨y,m⟩⟩:=a
 obtain ⟨⟨x',l'⟩,⟨y',m'⟩⟩:=b; obtain ⟨⟨x2,l2⟩,⟨y2,m2⟩⟩:=r
 generalize sgn (intOf (x',l'))=sg at *; have hs0:sg≠0:=by
  dsimp only at h0 hs; omega
 repeat (first | refine wl ?_ | refine wv ?_ | refine wg rfl cF ?_ | refine wg rfl (sX 0 hg0) ?_ | refine wg rfl (sX 1 hg1) ?_ | refine wc q0 ?_ | refine wc q1 ?_ | refine wc q2 ?_ | refine wc q3 ?_ | refine wz ?_)
 exact ⟨.inl rfl,_,rfl,rfl⟩
theorem rquoP_v (a b:QQ) (ha:okS a) (hb:okS b) (h0:wI b≠0):wD Tryz.prog 248 [vQ a,vQ b] (fun y=>y=.tup [nR (wI a / wI b),.int .i64 0]):=by
 refine wC wG Tryz.func248 rfl rfl rfl rfl fun w0=>?_
 have q0:=quoc_v (clN a) (clN b) (wG4 ha) (wG4 hb) (by
  show intOf (zn (wI b).num)≠0
  rw [wE]; exact fun e=>h0 (Rat.num_eq_zero.1 e))
 rw [vC,vC] at q0; have q1:=wSI 280 Tryz.f280 rfl [a,b] (wI a / wI b) (fun q hq=>by rcases pQ.1 hq with rfl | hq; exact wN6 ha; rw [pL.1 hq]; exact wN6 hb) (by show 2≤_; decide) q0
 clear q0 h0; unfold nR at q1 ⊢
 generalize qn (wI a / wI b)=r at *; obtain ⟨⟨x,l⟩,⟨y,m⟩⟩:=a
 obtain ⟨⟨x',l'⟩,⟨y',m'⟩⟩:=b; obtain ⟨⟨x2,l2⟩,⟨y2,m2⟩⟩:=r
 repeat (first | refine wl ?_ | refine wv ?_ | refine wh q1 ?_ | refine wz ?_)
 exact ⟨.inl rfl,_,rfl,rfl⟩
end Go.Proofs.YtkjhfnhgefbhhaaGreat
/- qpoly.trim, Norm of the program, told of trees. ALLOC -/
namespace Go.Vl
open Go.RowKit Go.Ev
section
variable {P:Program} {C:Cx} {w0:Base} {n:Nat} {st:St} {o:Oper}
theorem wR5 (hC:CxOk P C) {t elem:TypeId} {x z z3:Operand} {es es':List (List V)} {h k:Nat} {qh q3:Int} {kh k3:IntKind} (hop:o.op=.slice t x none (some z) (some z3)) (hx:opv (lk st) x=some (.v (.list es))) (hz:opv (lk st) z=some (.v (.int kh qh))) (hz3:opv (lk st) z3=some (.v (.int k3 q3)))
  (hqh:qh=(h:Nat)) (hq3:q3=(h:Nat)) (ht:C.und t=some (.slice elem)) (hs:C.size elem=some k) (hk:∀ e∈es,e.length=k) (h2:h≤es.length) (he:es.take h=es') (hd:dLt n o.dst=true) :
  wP P w0 n o (rdO x++(rdO z++rdO z3)) (dput o.dst (some (.sv (.v (.list es'))))) [] (lk st):=by
 subst hqh hq3 he; exact qH hd fun f hf β a w hb=>by
  obtain ⟨f1,f2⟩:=qO hf; obtain ⟨f5,f6⟩:=qO f2
  have e1:=hb.val (x:=x) (y:=.list es) (by rw [wK f1]; exact hx)
  have e3:=wX5 (st:=lk st) (x:=some z) (m:=some h) (by simp [bnd,hz]) f f5 β a w hb
  have e4:=wX5 (st:=lk st) (x:=some z3) (m:=some h) (by simp [bnd,hz3]) f f6 β a w hb
  have hb3:∀ cap,es.length≤cap→(Instr.sliceBounds true es.length cap none (some (a.eval z)) (some (a.eval z3))).run P w=.ok (0,h,h) w:=by
   intro cap hcap
   have:=(yR (P:=P) (w:=w) (len:=es.length) (cap:=cap) (cc:=cap) (lo:=none) (hi:=some h) (mx:=some h) (l:=0) (h:=h) (m:=h) ?_ (pE _) (vl:=none) rfl e3 e4).1
   ·simpa using this
   ·unfold yI
    simp only [Option.getD_some,Option.getD_none]
    have b1:Nat.ble h cap=true:=by rw [bS]; omega
    have b2:Nat.ble h h=true:=by rw [bS]; exact pE _
    have b3:Nat.ble 0 h=true:=by rw [bS]; exact pH _
    rw [b1,b2,b3]
    rfl
  generalize hu:a.eval x=u at e1; obtain ⟨ad,cap,hsh⟩:=e1.list_shape
  subst hsh; cases ad with
  | none =>
   cases e1
   simp only [List.length_nil,Nat.le_zero] at h2
   obtain rfl:=h2; have:=hb3 0 (by simp)
   refine ⟨.slice none 0 0,?_,by simp; exact .nils⟩
   simp only [List.length_nil] at this
   simp [execOp,hop,hu,Instr.sliceAt,wU hC ht,Instr.slice,this,wY hC hs]
  | some p =>
   have hcc:es.length≤cap:=by
    cases e1 with
    | list _ _ hc=>exact hc
    | emp=>simp
   have:=hb3 cap hcc; refine ⟨.slice (some (if h=0 then p else p.add (0*k))) (h - 0) (h - 0),?_,?_⟩
   ·simp only [execOp,hop,hu,Option.map_some,Option.map_none,Instr.sliceAt,Sem.run_bind,wU hC ht,Result.andThen_ok,Instr.slice,this,wY hC hs,Sem.run_pure]
    split <;> rfl
   ·generalize hes:es=es' at e1 hk h2
    cases e1 with
    | emp =>
     subst hes; have:(([]:List (List V)).take h)=[]:=by simp
     simp only [List.length_nil] at h2
     rw [this,show h - 0=0 by omega]
     exact .emp _ _
    | @list _ k' us b off _ hk' ho hc hl' hb' hu' =>
     subst hes; have e2:=Rep.list_part (S:=wZ β) (w:=w) (.list hk' ho hc hl' hb' hu') hk 0 h h (pH _) h2 (pE _) (by omega)
     simp only [kQ]
     simpa using e2
end
end Go.Vl
namespace Go.Proofs.YtkjhfnhgefbhhaaGreat
open Go.RowKit Go.Ev Go.Vl
theorem qrow_k {qs:List QQ}:∀ e∈qs.map wH,e.length=4:=fun e he=>by
 obtain ⟨q,_,rfl⟩:=pJ.1 he
 rfl
theorem qFB {q:QQ} (h:intOf q.2≠0):sgn (intOf q.1)=0↔wI q=0:=by
 rw [wUE h]; have:=xN (intOf q.1)
 omega
theorem qBI (qs:List QQ) (h:∀ q∈qs,okQ q∧intOf q.2≠0) (hl:qs.length≤68719476736):wD Tryz.prog 78 [vQs qs] (fun y=>y=vQs (qs.take (wV (wF qs)))):=by
 refine wC wG Tryz.func78 rfl rfl rfl rfl fun w0=>?_
 have hLl:(wF qs).length=qs.length:=by unfold wF; rw [pF]
 have hle:=kS (wF qs)
 repeat (first | refine wg rfl (sL (qW qs)) ?_ | refine wv ?_ | refine wz ?_)
 obtain ⟨N,hN⟩:∃ N,wV (wF qs)=N:=⟨_,rfl⟩; rw [hN]
 refine wIC 0 (fun _:Unit=>[jV 0 (vQs qs),(4,some (.sv .nils)),jI 6 N]) (fun _=>True) (fun _=>rfl) ?_ fun _ _=>?_
 ·refine wJ (fun n:Nat=>[jV 0 (vQs qs),(4,some (.sv .nils)),jI 6 n])
   (fun n=>n≤qs.length∧N≤n) (fun n=>n) qs.length (fun _=>rfl) ⟨pE _,by omega⟩ ⟨rfl,rfl,rfl,trivial⟩ fun n hI=>?_
  obtain ⟨h1,h2⟩:=hI; cases n with
  | zero =>
   obtain rfl:N=0:=by omega
   repeat (first | refine wv ?_ | refine wg rfl cF ?_ | refine kZ rfl rfl rfl rfl rfl rfl ?_ | refine wz ?_)
   exact ⟨(),trivial,rfl,rfl,rfl,trivial⟩
  | succ m =>
   obtain ⟨q,hq⟩:=gE (l:=qs) (i:=m) (by omega)
   have hg:=kO qs m q hq; have ho:=h q (pD hq)
   have q1:=vH q.1 ho.1.1; have hz:=qFB ho.2
   have hr:(wF qs)[m]? = some (wI q):=by unfold wF; rw [pI,hq]; rfl
   generalize sgn (intOf q.1)=sg at *
   by_cases h3:N=m+1
   ·have h4:sg≠0:=fun e=>wC5 _ m _ (by omega) hr (hz.1 e)
    obtain ⟨⟨x,l⟩,⟨y,k⟩⟩:=q; subst h3
    repeat (first | refine wg rfl (sN m) ?_ | refine wg rfl (sX m hg) ?_ | refine wc q1 ?_ | refine wv ?_ | refine wg rfl cT ?_ | refine wg rfl cF ?_ | refine wz ?_)
    exact ⟨(),trivial,rfl,rfl,rfl,trivial⟩
   ·have h4:sg=0:=hz.2 (wE5 _ m _ (by omega) hr)
    obtain ⟨⟨x,l⟩,⟨y,k⟩⟩:=q
    repeat (first | refine wg rfl (sN m) ?_ | refine wg rfl (sX m hg) ?_ | refine wc q1 ?_ | refine wv ?_ | refine wg rfl cT ?_ | refine wz ?_)
    exact ⟨m,⟨by omega,by omega⟩,bN m,rfl,rfl,rfl,trivial⟩
 ·show VW _ _ _ _ _ _
  have hln:=qW qs; have hk:=qrow_k (qs:=qs)
  have ht:(qs.map wH).take N=(qs.take N).map wH:=by rw [fN]
  rcases mF N with h0 | h0
  ·subst h0
   repeat (first | refine wv ?_ | refine wg rfl cT ?_ | refine wz ?_)
   exact ⟨.inl rfl,_,rfl,rfl⟩
  ·repeat (first | refine wg rfl (wR5 wG rfl rfl rfl rfl rfl rfl rfl rfl hk (by omega) ht rfl) ?_ | refine wv ?_ | refine wg rfl cF ?_ | refine wz ?_)
   exact ⟨.inl rfl,_,rfl,rfl⟩
end Go.Proofs.YtkjhfnhgefbhhaaGreat
/- qpoly.Norm of the program, told of trees; trim, in place. ALLOC -/
namespace Go.Proofs.YtkjhfnhgefbhhaaGreat
open Go.RowKit Go.Ev Go.Vl
def z4L:V:=.agg [.bool false,.list [],.bool false,.list []]
theorem makeBad_v (a b:ZZ) (hb:okZ b) (h0:intOf b=0):wD Tryz.prog 130 [vI a,vI b] (fun y=>y=.tup [z4L,.int .i64 6]):=by
 refine wC wG Tryz.func130 rfl rfl rfl rfl fun w0=>?_
 have q1:=vH b hb; have e:sgn (intOf b)=0:=by unfold sgn; rw [if_neg (by omega),if_neg (by omega)]
 rw [e] at q1; obtain ⟨x,l⟩:=a
 obtain ⟨y,m⟩:=b
 repeat (first | refine wl ?_ | refine wv ?_ | refine wg rfl cT ?_ | refine wc q1 ?_ | refine wz ?_)
 exact ⟨.inl rfl,_,rfl,rfl⟩
theorem normBad_v (q:QQ) (h:okZ q.2) (h0:intOf q.2=0):wD Tryz.prog 77 [vQ q] (fun y=>y=.tup [z4L,.int .i64 6]):=by
 refine wC wG Tryz.func77 rfl rfl rfl rfl fun w0=>?_
 have q1:=makeBad_v q.1 q.2 h h0; unfold z4L at q1 ⊢
 obtain ⟨⟨x,l⟩,⟨y,m⟩⟩:=q
 repeat (first | refine wl ?_ | refine wv ?_ | refine wc q1 ?_ | refine wz ?_)
 exact ⟨.inl rfl,_,rfl,rfl⟩
def okP (q:QQ):Prop:=okL q.1.2∧okL q.2.2∧q.1.2.length≤68719476736∧q.2.2.length≤68719476736
theorem okP.z {q:QQ} (h:okP q):okZ q.1∧okZ q.2:=⟨⟨h.1,pC h.2.2.1 (by decide)⟩,⟨h.2.1,pC h.2.2.2 (by decide)⟩⟩
theorem okP.s {q:QQ} (h:okP q) (h0:intOf q.2≠0):okS q:=⟨h.1,h.2.1,h.2.2.1,h.2.2.2,h0⟩
def wRB (qs:List QQ):Int:=if qs.all yW then 0 else 6
def wRA (qs:List QQ):List QQ:=if qs.all yW then pn (wF qs) else []
theorem ratsL_cl (qs:List QQ):wF (qs.map clN)=wF qs:=by
 unfold wF; rw [mT]
 exact mE fun q _=>vC q
theorem take_cl (qs:List QQ):(qs.map clN).take (wV (wF qs))=pn (wF qs):=by
 unfold pn w8; generalize wV (wF qs)=N
 have e:(wF qs).take N=(qs.take N).map wI:=by unfold wF; rw [fN]
 rw [e,mT,← fN]
 rfl
theorem normP_v (qs:List QQ) (h:∀ q∈qs,okP q) (hl:qs.length≤68719476736):wD Tryz.prog 35 [vQs qs] (fun y=>y=.tup [vQs (wRA qs),.int .i64 (wRB qs)]):=by
 refine wC wG Tryz.func35 rfl rfl rfl rfl fun w0=>?_
 repeat (first | refine wg rfl (sL (qW qs)) ?_ | refine wv ?_ | refine wz ?_)
 refine zR (d:=4) (id:=1) (k:=4) (T:=89) rfl rfl rfl rfl ?_
 refine wJ (fun j:Nat=>[(4,some (.sv .nils)),jV 6 (.int .i64 0),jO 8 1 89 4 (((qs.take j).map clN).map wH),jV 18 (vQs qs),jI 20 (qs.length),jI 22 j])
  (fun j=>j≤qs.length∧∀ i q,i<j→qs[i]? = some q→yW q=true) (fun j=>qs.length - j) 0 (fun _=>rfl) ⟨pH _,fun _ _ h=>absurd h (pG1 _)⟩ ⟨rfl,rfl,⟨_,rfl⟩,rfl,rfl,rfl,trivial⟩ fun j hI=>?_
 obtain ⟨h1,h2⟩:=hI; rcases pG j qs.length with hj | hj
 ·obtain ⟨q,hq⟩:=gE hj
  have hg:=kO qs j q hq; have ho:=h q (pD hq)
  have hs:((qs.take j).map clN).map wH++[wH (clN q)]=((qs.take (j+1)).map clN).map wH:=by
   rw [mO,hq]
   simp
  have hlen:(((qs.take j).map clN).map wH).length=j:=by rw [pF,pF,pM]; omega
  by_cases h0:intOf q.2=0
  ·have q1:=normBad_v q ho.z.2 h0
   unfold z4L at q1; have hall:qs.all yW=false:=by
    rw [Bool.eq_false_iff]; intro hh
    have:=mN.1 hh q (pD hq); unfold yW at this
    exact of_decide_eq_true this h0
   have e1:wRA qs=[]:=by unfold wRA; rw [hall]; rfl
   have e2:wRB qs=6:=by unfold wRB; rw [hall]; rfl
   rw [e1,e2]; obtain ⟨⟨x,l⟩,⟨y,k⟩⟩:=q
   clear h h2 hs
   repeat (first | refine wg rfl (sX j hg) ?_ | refine wc q1 ?_ | refine wl ?_ | refine wv ?_ | refine wg rfl cT ?_ | refine wg rfl nT ?_ | refine wz ?_)
   exact ⟨.inl rfl,_,rfl,rfl⟩
  ·have q1:=wJ3 q ho.z h0
   have hm:∀ i q',i<j+1→qs[i]? = some q'→yW q'=true:=fun i q' hi hq'=>by
    rcases pG i j with h3 | h3
    ·exact h2 i q' h3 hq'
    ·obtain rfl:i=j:=by omega
     rw [hq] at hq'; cases hq'
     unfold yW; exact decide_eq_true h0
   unfold nR at q1; rw [show qn (wI q)=clN q from rfl] at q1
   generalize clN q=p at *; obtain ⟨⟨x,l⟩,⟨y,k⟩⟩:=q
   obtain ⟨⟨x',l'⟩,⟨y',k'⟩⟩:=p; have row4:∀ e∈[wH ((x',l'),(y',k'))],e.length=4:=fun e h=>by rw [pL.1 h]; rfl
   clear h h2
   repeat (first | refine wl ?_ | refine wv ?_ | refine wg rfl (sX j hg) ?_ | refine wc q1 ?_ | refine wf rfl rfl (sA 7001 [wH ((x',l'),(y',k'))] 4 64 row4 hs) ?_ | refine wg rfl cT ?_ | refine wg rfl nF ?_ | refine wg rfl sB ?_ | refine wz ?_)
   exact ⟨j+1,⟨hj,hm⟩,by omega,rfl,rfl,⟨_,rfl⟩,rfl,rfl,rfl,trivial⟩
 ·have hje:j=qs.length:=by omega
  subst hje; rw [mH]
  have hall:qs.all yW=true:=mN.2 fun q hq=>by
   obtain ⟨i,hi⟩:=dW hq; exact h2 i q (pS.1 hi).1 hi
  have e1:wRA qs=pn (wF qs):=by unfold wRA; rw [hall]; rfl
  have e2:wRB qs=0:=by unfold wRB; rw [hall]; rfl
  have q1:=qBI (qs.map clN) (fun q hq=>by
   obtain ⟨p,hp,rfl⟩:=pJ.1 hq; have hm:=mN.1 hall p hp
   unfold yW at hm; exact wN6 (wG4 ((h p hp).s (of_decide_eq_true hm)))) (by rw [pF]; exact hl)
  rw [ratsL_cl,take_cl] at q1; rw [e1,e2]
  clear h h2
  repeat (first | refine wv ?_ | refine wh q1 ?_ | refine wg rfl cF ?_ | refine wz ?_)
  exact ⟨.inl rfl,_,rfl,rfl⟩
theorem wV2 (qs:List QQ) (h:∀ q∈qs,okS q) (hl:qs.length≤68719476736):wD Tryz.prog 35 [vQs qs] (fun y=>y=.tup [vQs (pn (wF qs)),.int .i64 0]):=by
 have q1:=normP_v qs (fun q hq=>⟨(h q hq).1,(h q hq).2.1,(h q hq).2.2.1,(h q hq).2.2.2.1⟩) hl
 have hall:qs.all yW=true:=mN.2 fun q hq=>by
  unfold yW; exact decide_eq_true (h q hq).2.2.2.2
 have e1:wRA qs=pn (wF qs):=by unfold wRA; rw [hall]; rfl
 have e2:wRB qs=0:=by unfold wRB; rw [hall]; rfl
 rwa [e1,e2] at q1
end Go.Proofs.YtkjhfnhgefbhhaaGreat
/- qpoly.trim, in place: it hands back the first elements of the row that it is handed. -/
namespace Go.Proofs.YtkjhfnhgefbhhaaGreat
open Go.RowKit Go.Ev Go.Vl
theorem trim_cells {S:Nat→Prop} {w wr:World} {B0:Nat} {u:Value} {ea:List (List V)} {qs:List QQ} (hS:jA B0 S w (fun _ _=>u.ownBlock) 0 0 (.own 0 89 4 ea) u) (hea:ea.take qs.length=qs.map wH) (hok:∀ q∈qs,okQ q∧intOf q.2≠0) {g:Nat} (hu:u.ownBlock=some g)
  (hb:Below w.heap.size w wr) {k:Nat} {q:QQ} (hq:qs[k]? = some q):∃ v0 v1,wr.cell? ⟨g,k*4,none⟩=some v0∧wr.cell? ⟨g,k*4+1,none⟩=some v1 ∧
   Calls Tryz.prog 131 #[.agg #[v0,v1]] wr fun e w'=>e=.returned (.int .i64 (sgn (intOf q.1)))∧Below wr.heap.size wr w':=by
 have hk:ea[k]? = some (wH q):=by
  have h1:(ea.take qs.length)[k]? = some (wH q):=by rw [hea]; exact kO qs k q hq
  rw [pZ] at h1
  split at h1
  ·exact h1
  ·cases h1
 obtain ⟨g',us,e1,e2,e3,e4,e5⟩:=wQ2 hS hk; rw [hu] at e1
 cases e1
 obtain ⟨⟨x,l⟩,⟨y,m⟩⟩:=q; have ho:=hok _ (pD hq)
 cases e2 with
 | @cons _ v0 _ vs0 r0 r1 =>
  cases r1 with
  | @cons _ v1 _ vs1 r1 r2 =>
   have c0:=e5 0 v0 rfl; have c1:=e5 1 v1 rfl
   have hlt:g<w.heap.size:=World.block_lt_of_cell? w _ c0; refine ⟨v0,v1,(hb.cell (p:=⟨g,k*4,none⟩) hlt).trans c0,(hb.cell (p:=⟨g,k*4+1,none⟩) hlt).trans c1,?_⟩
   have hz:=vH (x,l) ho.1.1; have hrep:RepL S wr [vI (x,l)] [.agg #[v0,v1]]:=by
    have hkeep:∀ b,S b→b<w.heap.size→S b∧wr.heap[b]? = w.heap[b]?:=fun b hs hl=>⟨hs,hb.block b hl⟩
    exact .cons (Rep.agg rfl (.cons (Rep.keep hkeep r0) (.cons (Rep.keep hkeep r1) .nil))) .nil
   refine (hz S wr _ hrep).mono fun e w' ⟨v,yv,he,hy,hr,hb'⟩=>?_
   subst he hy; cases hr
   exact ⟨rfl,hb'⟩
theorem trim_p (qs:List QQ) (hok:∀ q∈qs,okQ q∧intOf q.2≠0) (hl:qs.length≤68719476736):VCallsP Tryz.prog 78 89 4 (qs.map wH) (wV (wF qs)):=by
 intro S w B0 u u' ea hS hp hle hea
 rw [qW] at hp hea; have hLl:(wF qs).length=qs.length:=by unfold wF; rw [pF]
 have hN:=kS (wF qs); rw [hLl] at hN
 have hover:=wE5 (wF qs); have htop:=wC5 (wF qs)
 generalize wV (wF qs)=N at *; have HS:=hid hS
 have HEA:=hid hea; have HOK:=hid hok
 have HOV:=hid hover; have HTOP:=hid htop
 obtain ⟨ad,cap,hsh⟩:=hp.shape; have HP:=hid hp
 subst hsh; clear hS hea hok hover htop hp hle
 go_enter Tryz.func78,Tryz.ntmps78
 go_wp2
 go_loopw [3] (fun nv wr=>∃ k:Nat,nv=.int .i64 k∧k≤qs.length∧N≤k∧Below w.heap.size w wr) (fun nv _=>(Go.RowKit.intOf nv).toNat)
 case atStart=>exact ⟨qs.length,rfl,pE _,hN,Below.refl _ _⟩
 case round =>
  obtain ⟨k,rfl,hk,hNk,hbel⟩:=hrel; have HBEL:=hid hbel
  clear hbel; cases k with
  | zero =>
   obtain rfl:N=0:=by omega
   go_wp2
   go_ret
   exact ⟨rfl,HBEL.out⟩
  | succ m =>
   obtain ⟨q,hq⟩:=gE (l:=qs) (i:=m) (by omega)
   have hr:(wF qs)[m]? = some (wI q):=by unfold wF; rw [pI,hq]; rfl
   have hz:=qFB (HOK.out q (pD hq)).2; obtain ⟨g,n',c,c',eu,eu',h3,h4,h5⟩:∃ g n c c',u=.slice (some ⟨g,0,none⟩) n c∧Value.slice ad qs.length cap=.slice (some ⟨g,0,none⟩) qs.length c'∧qs.length≤n∧qs.length≤c'∧c'≤c:=by
    rcases HP.out with ⟨_,h0⟩ | h
    ·omega
    ·exact h
   cases eu'
   obtain ⟨v0,v1,c0,c1,hc⟩:=trim_cells HS.out HEA.out HOK.out (g:=g) (by rw [eu]; rfl) HBEL.out hq
   have HQ:=hid hq; have HR:=hid hr
   have HZ:=hid hz; have HU:=hid eu
   clear hq hr hz eu; generalize sgn (intOf q.1)=sg at *
   have Q:=hid hc; clear hc
   go_wp2_with fail
   refine Q.out.mono ?_
   clear Q
   rintro e w2 ⟨rfl,hb2⟩
   have HB3:=hid (HBEL.out.trans (hb2.mono HBEL.out.size)); clear hb2
   by_cases h0:sg=0
   ·subst h0
    have hne:N≠m+1:=fun e=>HTOP.out m _ (by omega) HR.out (HZ.out.1 rfl)
    go_wp2
    go_roundw
    case rel=>exact ⟨m,by go_num,by omega,by omega,HB3.out⟩
    case measure=>simp [Go.RowKit.intOf]
   ·have hN1:N=m+1:=by
     rcases pG m N with h | h
     ·omega
     ·exact absurd (HZ.out.2 (HOV.out m _ h HR.out)) h0
    subst hN1
    go_wp2
    go_ret
    exact ⟨rfl,HB3.out⟩
end Go.Proofs.YtkjhfnhgefbhhaaGreat
