/- qmat.checks, Rows, Height: told of trees. ALLOC -/
import Derived.Test.YtkjhfnhgefbhhaaGreatCf15
import Derived.Test.YtkjhfnhgefbhhaaGreatCf08
set_option linter.all false
set_option maxRecDepth 20000
set_option maxHeartbeats 6400000
namespace Go.Proofs.YtkjhfnhgefbhhaaGreat
open Go.RowKit Go.Ev Go.Vl
def vD (m:MM):List V:=[.bool m.1.1,vL m.1.2,vT m.2]
def vMs (ms:List MM):V:=.list (ms.map vD)
def chks:List MM→Int
 | []=>0
 | m :: ms=>if chk m=0 then chks ms else chk m
theorem wH9 (ms:List MM):(ms.map vD).length=ms.length:=pF ..
theorem wRD (ms:List MM) (j:Nat) (m:MM) (h:ms[j]? = some m):(ms.map vD)[j]? = some [.bool m.1.1,vL m.1.2,vT m.2]:=by rw [pI,h]; rfl
theorem wX0 (ms:List MM) (h:∀ m∈ms,okZ m.1∧m.2.length≤1099511627776) (hl:ms.length≤1099511627776):wD Tryz.prog 111 [vMs ms] (fun y=>y=.int .i64 (chks ms)):=by
 refine wC wG Tryz.func111 rfl rfl rfl rfl fun w0=>?_
 repeat (first | refine wg rfl (sL (wH9 _)) ?_ | refine wv ?_ | refine wz ?_)
 refine wJ (fun j:Nat=>[jV 12 (vMs ms),jI 14 (ms.length),jI 16 j])
  (fun j=>j≤ms.length∧chks (ms.drop j)=chks ms) (fun j=>ms.length - j) 0 (fun _=>rfl) ⟨pH _,rfl⟩ ⟨rfl,rfl,rfl,trivial⟩ fun j hI=>?_
 obtain ⟨hJ,hc⟩:=hI; rcases pG j ms.length with hj | hj
 ·obtain ⟨m,hm⟩:=gE hj
  have hg:=wRD ms j m hm; obtain ⟨o1,o2⟩:=h m (pD hm)
  have q1:=wUG m o1 o2; rw [zZ ms j m hm] at hc
  have hc2:(if chk m=0 then chks (ms.drop (j+1)) else chk m)=chks ms:=hc
  obtain ⟨⟨x,l⟩,t⟩:=m; generalize chk ((x,l),t)=c at *
  by_cases h0:c=0
  ·rw [if_pos h0] at hc2
   repeat (first | refine wg rfl (sX j hg) ?_ | refine wc q1 ?_ | refine wl ?_ | refine wv ?_ | refine wg rfl cT ?_ | refine wg rfl nF ?_ | refine wg rfl sB ?_ | refine wz ?_)
   exact ⟨j+1,⟨hj,hc2⟩,by omega,rfl,rfl,rfl,trivial⟩
  ·rw [if_neg h0] at hc2
   repeat (first | refine wg rfl (sX j hg) ?_ | refine wc q1 ?_ | refine wl ?_ | refine wv ?_ | refine wg rfl cT ?_ | refine wg rfl nT ?_ | refine wz ?_)
   refine ⟨.inl rfl,_,rfl,?_⟩
   rw [← hc2]
 ·rw [pY hj] at hc
  repeat (first | refine wv ?_ | refine wg rfl cF ?_ | refine wz ?_)
  refine ⟨.inl rfl,_,rfl,?_⟩
  rw [← hc]; exact rfl
def qU (t:List (List QQ)):List (List V):=t.map fun r=>[vQs r]
theorem kR (t:List (List QQ)):(qU t).length=t.length:=pF ..
def wT (m:MM):List (List QQ):=m.2.map fun r=>r.map fun x=>qn (Rat.divInt (intOf x) (intOf m.1))
theorem qRows_v (m:MM) (hc:chk m=0) (hd:okZ m.1) (h0:intOf m.1≠0) (ht:∀ r∈m.2,r.length≤1099511627776∧∀ x∈r,okZ x) (hl:m.2.length≤1099511627776):wD Tryz.prog 108 [vM m] (fun y=>y=.tup [.list (qU (wT m)),.int .i64 0]):=by
 refine wC wG Tryz.func108 rfl rfl rfl rfl fun w0=>?_
 have q1:=wUG m hd hl; rw [hc] at q1
 obtain ⟨⟨x,l⟩,t⟩:=m; dsimp only at hd h0 ht hl
 repeat (first | refine wg rfl (sL (jP t)) ?_ | refine wc q1 ?_ | refine wv ?_ | refine wg rfl nF ?_ | refine wz ?_)
 refine zR (d:=5) (id:=1) (k:=1) (T:=64) rfl rfl rfl rfl ?_
 refine wJ (fun j:Nat=>[jB 2 1,jC 3 [.v (.bool x),.v (vL l),.v (vT t)],jO 10 1 64 1 (qU ((t.take j).map fun r=>r.map fun x'=>qn (Rat.divInt (intOf x') (intOf (x,l))))),
  jV 38 (vT t),jI 40 (t.length),jI 42 j])
  (fun j=>j≤t.length) (fun j=>t.length - j) 0 (fun _=>rfl) (pH _) ⟨rfl,rfl,⟨_,rfl⟩,rfl,rfl,rfl,trivial⟩ fun j hJ=>?_
 rcases pG j t.length with hj | hj
 ·obtain ⟨r,hr⟩:=gE hj
  obtain ⟨hrl,hro⟩:=ht r (pD hr); have hg:=wCH t j r hr
  repeat (first | refine wg rfl (sL (vS r)) ?_ | refine wg rfl (sX j hg) ?_ | refine wg rfl (sM 7000 0 r.length 4 64 (es':=[]) rfl) ?_ | refine wv ?_ | refine wg rfl cT ?_ | refine wz ?_)
  refine wJ (fun k:Nat=>[jB 2 1,jC 3 [.v (.bool x),.v (vL l),.v (vT t)],jO 10 1 64 1 (qU ((t.take j).map fun r=>r.map fun x'=>qn (Rat.divInt (intOf x') (intOf (x,l))))),
   jV 38 (vT t),jI 40 (t.length),jI 42 j,
   jO 16 2 89 4 (((r.take k).map fun x'=>qn (Rat.divInt (intOf x') (intOf (x,l)))).map wH),jV 56 (.list (r.map wS)),jI 58 (r.length),jI 60 k])
   (fun k=>k≤r.length) (fun k=>r.length - k) 0 (fun _=>rfl) (pH _) ⟨rfl,rfl,⟨_,rfl⟩,rfl,rfl,rfl,⟨_,rfl⟩,rfl,rfl,rfl,trivial⟩ fun k hK=>?_
  rcases pG k r.length with hk | hk
  ·obtain ⟨z,hz⟩:=gE hk
   have hzo:=hro z (pD hz); have hg2:=wG7 r k z hz
   have q2:=wVA z (x,l) hzo hd h0; have hs:((r.take k).map fun x'=>qn (Rat.divInt (intOf x') (intOf (x,l)))).map wH++[wH (qn (Rat.divInt (intOf z) (intOf (x,l))))]=((r.take (k+1)).map fun x'=>qn (Rat.divInt (intOf x') (intOf (x,l)))).map wH:=by
    rw [mO,hz]
    simp
   have hlen:(((r.take k).map fun x'=>qn (Rat.divInt (intOf x') (intOf (x,l)))).map wH).length=k:=by rw [pF,pF,pM]; omega
   have wJJ:∀ e∈[wH (qn (Rat.divInt (intOf z) (intOf (x,l))))],e.length=4:=fun e h=>by rw [pL.1 h]; rfl
   obtain ⟨zx,zl⟩:=z
   repeat (first | refine wg rfl (sX k hg2) ?_ | refine wc q2 ?_ | refine wf rfl rfl (sA 7001 [wH (qn (Rat.divInt (intOf (zx,zl)) (intOf (x,l))))] 4 64 wJJ hs) ?_ | refine wl ?_ | refine wv ?_ | refine wg rfl cT ?_ | refine wg rfl sB ?_ | refine wz ?_)
   exact ⟨k+1,hk,by omega,rfl,rfl,⟨_,rfl⟩,rfl,rfl,rfl,⟨_,rfl⟩,rfl,rfl,rfl,trivial⟩
  ·have hke:k=r.length:=by omega
   subst hke; rw [mH]
   have hs:qU ((t.take j).map fun r=>r.map fun x'=>qn (Rat.divInt (intOf x') (intOf (x,l))))++[[vQs (r.map fun x'=>qn (Rat.divInt (intOf x') (intOf (x,l))))]]=qU ((t.take (j+1)).map fun r=>r.map fun x'=>qn (Rat.divInt (intOf x') (intOf (x,l)))):=by
    rw [mO,hr]; unfold qU
    simp
   have hlen:(qU ((t.take j).map fun r=>r.map fun x'=>qn (Rat.divInt (intOf x') (intOf (x,l))))).length=j:=by rw [kR,pF,pM]; omega
   have wB2:∀ e∈[[vQs (r.map fun x'=>qn (Rat.divInt (intOf x') (intOf (x,l))))]],e.length=1:=fun e h=>by rw [pL.1 h]; rfl
   repeat (first | refine wv ?_ | refine wf rfl rfl (sA 7002 [[vQs (r.map fun x'=>qn (Rat.divInt (intOf x') (intOf (x,l))))]] 1 24 wB2 hs) ?_ | refine wg rfl cF ?_ | refine wg rfl sB ?_ | refine wx ?_ | refine wz ?_)
   exact ⟨j+1,hj,by omega,rfl,rfl,⟨_,rfl⟩,rfl,rfl,rfl,trivial⟩
 ·have hje:j=t.length:=by omega
  subst hje; rw [mH]
  repeat (first | refine wv ?_ | refine wg rfl cF ?_ | refine wz ?_)
  exact ⟨.inl rfl,_,rfl,rfl⟩
end Go.Proofs.YtkjhfnhgefbhhaaGreat
/- qmat.Height: told of trees. ALLOC -/
namespace Go.Proofs.YtkjhfnhgefbhhaaGreat
open Go.RowKit Go.Ev Go.Vl
theorem gridQ (t:List (List QQ)):vR (t.map fun r=>r.map wH)=.list (qU t):=by
 unfold vR qU vQs; rw [mT]
 rfl
theorem gridQL (t:List (List QQ)):wK4 (t.map fun r=>r.map wH)=t.flatten.map fun q=>[V.agg (wH q)]:=by
 unfold wK4; rw [← pE8,mT]
 rfl
theorem qHD (rows:List (List (List V))):wD Tryz.prog 109 [vR rows] (fun y=>y=.clo 167 [] [.ref [vR rows]]):=by
 refine wC wG Tryz.func109 rfl rfl rfl rfl fun w0=>?_
 repeat (first | refine wv ?_ | refine wx ?_ | refine wz ?_)
 exact ⟨.inl rfl,_,rfl,rfl⟩
theorem qHeight_v (m:MM) (hc:chk m=0) (hd:okZ m.1) (h0:intOf m.1≠0) (ht:∀ r∈m.2,r.length≤1099511627776∧∀ x∈r,okZ x) (hl:m.2.length≤1099511627776) (hfl:(wT m).flatten.length≤1099511627776)
  (hq:∀ q∈(wT m).flatten,okQ q∧intOf q.2≠0) (hn:∀ q∈(wT m).flatten,okQ (qn (wI q))):wD Tryz.prog 60 [vM m] (fun y=>y=.tup [.int .i64 (htL ((wT m).flatten.map fun q=>qn (wI q)) 0:Nat),.int .i64 0]):=by
 refine y6 wG Tryz.func60 rfl rfl rfl rfl fun w0 hmk hro=>?_
 have q1:=qRows_v m hc hd h0 ht hl; have hrl:∀ r∈wT m,r.length≤1099511627776:=fun r hr=>by
  obtain ⟨r',h1,rfl⟩:=pJ.1 hr; rw [pF]
  exact (ht r' h1).1
 have hrt:(wT m).length≤1099511627776:=by unfold wT; rw [pF]; exact hl
 generalize wT m=R at *; obtain ⟨⟨x,l⟩,t⟩:=m
 have q2:=qHD (R.map fun r=>r.map wH)
 rw [gridQ] at q2; have hseq:=eachR_v (R.map fun r=>r.map wH) (fun r hr e he=>by
  obtain ⟨r',_,rfl⟩:=pJ.1 hr; obtain ⟨z,_,rfl⟩:=pJ.1 he
  rfl) (by simpa using hrt) (fun r hr=>by
  obtain ⟨r',h1,rfl⟩:=pJ.1 hr
  simpa using hrl r' h1)
 rw [gridQL,gridQ] at hseq; have q3:=qG6 R.flatten hq hfl hn
 repeat (first | refine wl ?_ | refine wv ?_ | refine wg rfl nF ?_ | refine wc q1 ?_ | refine wc q2 ?_ | refine wz ?_)
 refine wP6 6 6 rfl rfl fun u6=>?_
 refine wTC 6 0 4 89 rfl rfl rfl ?_
 refine wF4 wG (fun b:List QQ=>[jC 13 [.own 0 89 4 (b.map wH)]])
  [(12,some (.sv (.rp 6 u6 0)))]
  (fun j b=>b=R.flatten.take j) []
  (fun _ e b=>[jB 14 7,jC 15 (match e with | [.agg cs]=>cs.map .v | _=>[]),jC 13 [.own 0 89 4 (b.map wH)],(12,some (.sv (.rp 6 u6 0)))])
  hro hmk rfl rfl hseq rfl (fun e he=>by
   obtain ⟨z,_,rfl⟩:=pJ.1 he
   rfl) rfl (fun _=>rfl) rfl ⟨rfl,rfl,trivial⟩ (fun _ _ _=>rfl) ?_ ?_ ?_
 ·intro j e b he hI w1
  rw [pI] at he; obtain ⟨z,hz,rfl⟩:=bJ.1 he
  obtain ⟨⟨zx,zl⟩,⟨zy,zk⟩⟩:=z
  repeat (first | refine wl ?_ | refine wv ?_ | refine wz ?_)
  exact ⟨rfl,rfl,rfl,rfl,rfl,trivial⟩
 ·intro j e b he hI w1
  rw [pI] at he; obtain ⟨z,hz,rfl⟩:=bJ.1 he
  subst hI; have hs:(R.flatten.take j).map wH++[wH z]=(R.flatten.take (j+1)).map wH:=by
   rw [mO,hz]
   simp
  have hlen:((R.flatten.take j).map wH).length≤1099511627776:=by
   rw [pF,pM]; omega
  have wJJ:∀ e∈[wH z],e.length=4:=fun e h=>by rw [pL.1 h]; rfl
  obtain ⟨⟨zx,zl⟩,⟨zy,zk⟩⟩:=z
  repeat (first | refine wf rfl rfl (sA 7001 [wH ((zx,zl),(zy,zk))] 4 64 wJJ hs) ?_ | refine wv ?_ | refine wz ?_)
  exact ⟨rfl,_,rfl,rfl,rfl,trivial⟩
 ·intro b hI
  rw [pF,mH] at hI; subst hI
  show VW _ _ _ _ _ _
  repeat (first | refine wv ?_ | refine wh q3 ?_ | refine wz ?_)
  exact ⟨.inl rfl,_,rfl,rfl⟩
end Go.Proofs.YtkjhfnhgefbhhaaGreat
/- qmat.same, Equal: told of trees. ALLOC -/
namespace Go.Proofs.YtkjhfnhgefbhhaaGreat
open Go.RowKit Go.Ev Go.Vl
def vB (m m':MM):Bool:=decide (m.2.map (fun r=>r.map fun x=>intOf x*intOf m'.1)=m'.2.map (fun r=>r.map fun x=>intOf x*intOf m.1))
theorem map_take {α β:Type} {f:α→β} {g:α→β} {xs ys:List α} {j:Nat} {x y:α} (h:(xs.map f).take j=(ys.map g).take j) (hx:xs[j]? = some x) (hy:ys[j]? = some y) (he:f x=g y):(xs.map f).take (j+1)=(ys.map g).take (j+1):=by
 rw [mO,mO,h,pI,pI,hx,hy]
 simp [he]
theorem qD4 {α β:Type} {f:α→β} {g:α→β} {xs ys:List α} {j:Nat} {x y:α} (hx:xs[j]? = some x) (hy:ys[j]? = some y) (he:f x≠g y):xs.map f≠ys.map g:=fun h=>by
 have:=congrArg (fun l=>l[j]?) h
 simp only [List.getElem?_map,hx,hy,Option.map_some,Option.some.injEq] at this
 exact he this
theorem qsame_v (x x':Bool) (l l':List Nat) (t t':List (List ZZ)) (hd:okL l∧l.length≤549755813888) (hd':okL l'∧l'.length≤549755813888) (ht:∀ r∈t,r.length≤1099511627776∧∀ z∈r,okL z.2∧z.2.length≤549755813888) (hl:t.length≤1099511627776)
  (ht':∀ r∈t',r.length≤1099511627776∧∀ z∈r,okL z.2∧z.2.length≤549755813888) (hl':t'.length≤1099511627776) :
  wD Tryz.prog 112 [.agg [.bool x,vL l,vT t],.agg [.bool x',vL l',vT t']] (fun y=>y=.bool (vB ((x,l),t) ((x',l'),t'))):=by
 refine wC wG Tryz.func112 rfl rfl rfl rfl fun w0=>?_
 have fin:∀ {p:Prop} [Decidable p],¬ p→V.bool false=V.bool (decide p):=fun h=>by rw [decide_eq_false h]
 unfold vB; dsimp only
 obtain ⟨d,hde⟩:∃ d,intOf (x,l)=d:=⟨_,rfl⟩; obtain ⟨d',hde'⟩:∃ d,intOf (x',l')=d:=⟨_,rfl⟩
 have od:okZ (x,l):=⟨hd.1,pC hd.2 (by decide)⟩
 have od':okZ (x',l'):=⟨hd'.1,pC hd'.2 (by decide)⟩
 by_cases hne:t.length=t'.length
 ·repeat (first | refine wg rfl (sL (jP t)) ?_ | refine wg rfl (sL (jP t')) ?_ | refine wv ?_ | refine wg rfl nF ?_ | refine wz ?_)
  refine wJ (fun j:Nat=>[jB 4 2,jC 5 [.v (.bool x),.v (vL l),.v (vT t)],jB 6 3,jC 7 [.v (.bool x'),.v (vL l'),.v (vT t')],jV 34 (vT t),jI 36 (t.length),jI 38 j])
   (fun j=>j≤t.length∧(t.map (fun r=>r.map fun x=>intOf x*intOf (x',l'))).take j=(t'.map (fun r=>r.map fun x'=>intOf x'*intOf (x,l))).take j) (fun j=>t.length - j) 0 (fun _=>rfl) ⟨pH _,rfl⟩ ⟨rfl,rfl,rfl,rfl,rfl,rfl,rfl,trivial⟩ fun j hI=>?_
  obtain ⟨hJ,hq⟩:=hI; rcases pG j t.length with hj | hj
  ·obtain ⟨r,hr⟩:=gE hj
   obtain ⟨r',hr'⟩:=gE (l:=t') (i:=j) (by omega)
   have hg:=wCH t j r hr; have hg2:=wCH t' j r' hr'
   obtain ⟨o1,o2⟩:=ht r (pD hr); obtain ⟨o1',o2'⟩:=ht' r' (pD hr')
   by_cases hrl:r.length=r'.length
   ·repeat (first | refine wg rfl (sL (vS r)) ?_ | refine wg rfl (sL (vS r')) ?_ | refine wg rfl (sX j hg) ?_ | refine wg rfl (sX j hg2) ?_ | refine wv ?_ | refine wg rfl cT ?_ | refine wg rfl nF ?_ | refine wz ?_)
    refine wJ (fun k:Nat=>[jB 4 2,jC 5 [.v (.bool x),.v (vL l),.v (vT t)],jB 6 3,jC 7 [.v (.bool x'),.v (vL l'),.v (vT t')],jV 34 (vT t),jI 36 (t.length),jI 38 j,
     jI 10 j,jV 66 (.list (r.map wS)),jI 68 (r.length),jI 70 k])
     (fun k=>k≤r.length∧(r.map fun x=>intOf x*intOf (x',l')).take k=(r'.map fun x'=>intOf x'*intOf (x,l)).take k) (fun k=>r.length - k) 0 (fun _=>rfl) ⟨pH _,rfl⟩ ⟨rfl,rfl,rfl,rfl,rfl,rfl,rfl,rfl,rfl,rfl,rfl,trivial⟩ fun k hI=>?_
    obtain ⟨hK,hqk⟩:=hI; rcases pG k r.length with hk | hk
    ·obtain ⟨z,hz⟩:=gE hk
     obtain ⟨z',hz'⟩:=gE (l:=r') (i:=k) (by omega)
     have hgz:=wG7 r k z hz; have hgz':=wG7 r' k z' hz'
     have oz:=o2 z (pD hz); have oz':=o2' z' (pD hz')
     have q1:=xL z (x',l') ⟨oz.1,pC oz.2 (by decide)⟩ od'
     have q2:=xL z' (x,l) ⟨oz'.1,pC oz'.2 (by decide)⟩ od
     have l1:=qJ (intOf z) (intOf (x',l')); have l2:=qJ (intOf z') (intOf (x,l))
     have m1:=wL z oz.1; have m2:=wL z' oz'.1
     have m3:=wL (x,l) hd.1; have m4:=wL (x',l') hd'.1
     dsimp only at m3 m4; have q3:=zcmp_v (zn (intOf z*intOf (x',l'))) (zn (intOf z'*intOf (x,l))) (qF _ (by omega)) (qF _ (by omega))
     rw [wE,wE] at q3; have hcm:=wT4 (intOf z*intOf (x',l')) (intOf z'*intOf (x,l))
     obtain ⟨c,hce⟩:∃ c,cmpI (intOf z*intOf (x',l')) (intOf z'*intOf (x,l))=c:=⟨_,rfl⟩; rw [hce] at q3 hcm
     by_cases he:intOf z*intOf (x',l')=intOf z'*intOf (x,l)
     ·have hc0:c=0:=by omega
      have hst:=map_take (f:=fun x=>intOf x*intOf (x',l')) (g:=fun x'=>intOf x'*intOf (x,l)) hqk hz hz' he
      obtain ⟨zx,zl⟩:=z; obtain ⟨zx',zl'⟩:=z'
      repeat (first | refine wg rfl (sX k hgz) ?_ | refine wg rfl (sX k hgz') ?_ | refine wg rfl (sX j hg2) ?_ | refine wc q1 ?_ | refine wc q2 ?_ | refine wc q3 ?_ | refine wl ?_ | refine wv ?_ | refine wg rfl cT ?_ | refine wg rfl nF ?_ | refine wg rfl sB ?_ | refine wz ?_)
      exact ⟨k+1,⟨hk,hst⟩,by omega,rfl,rfl,rfl,rfl,rfl,rfl,rfl,rfl,rfl,rfl,rfl,trivial⟩
     ·have hc0:c≠0:=by omega
      have hno:(t.map fun r=>r.map fun x=>intOf x*intOf (x',l'))≠t'.map fun r=>r.map fun x'=>intOf x'*intOf (x,l):=qD4 hr hr' (qD4 hz hz' he)
      obtain ⟨zx,zl⟩:=z; obtain ⟨zx',zl'⟩:=z'
      repeat (first | refine wg rfl (sX k hgz) ?_ | refine wg rfl (sX k hgz') ?_ | refine wg rfl (sX j hg2) ?_ | refine wc q1 ?_ | refine wc q2 ?_ | refine wc q3 ?_ | refine wl ?_ | refine wv ?_ | refine wg rfl cT ?_ | refine wg rfl nT ?_ | refine wz ?_)
      exact ⟨.inl rfl,_,rfl,fin hno⟩
    ·have hke:k=r.length:=by omega
     subst hke; have hrr:(r.map fun x=>intOf x*intOf (x',l'))=r'.map fun x'=>intOf x'*intOf (x,l):=by
      rw [pN (by simp),pN (by simp; omega)] at hqk
      exact hqk
     have hst:=map_take (f:=fun r=>r.map fun x=>intOf x*intOf (x',l')) (g:=fun r=>r.map fun x'=>intOf x'*intOf (x,l)) hq hr hr' hrr
     repeat (first | refine wv ?_ | refine wg rfl cF ?_ | refine wg rfl sB ?_ | refine wz ?_)
     exact ⟨j+1,⟨hj,hst⟩,by omega,rfl,rfl,rfl,rfl,rfl,rfl,rfl,trivial⟩
   ·have hno:(t.map fun r=>r.map fun x=>intOf x*intOf (x',l'))≠t'.map fun r=>r.map fun x'=>intOf x'*intOf (x,l):=qD4 hr hr' fun h=>hrl (by
     have:=congrArg List.length h
     simpa using this)
    repeat (first | refine wg rfl (sL (vS r)) ?_ | refine wg rfl (sL (vS r')) ?_ | refine wg rfl (sX j hg) ?_ | refine wg rfl (sX j hg2) ?_ | refine wv ?_ | refine wg rfl cT ?_ | refine wg rfl nT ?_ | refine wz ?_)
    exact ⟨.inl rfl,_,rfl,fin hno⟩
  ·have hje:j=t.length:=by omega
   subst hje
   repeat (first | refine wv ?_ | refine wg rfl cF ?_ | refine wz ?_)
   refine ⟨.inl rfl,_,rfl,?_⟩
   rw [decide_eq_true]; rw [pN (by simp),pN (by simp; omega)] at hq
   exact hq
 ·repeat (first | refine wg rfl (sL (jP t)) ?_ | refine wg rfl (sL (jP t')) ?_ | refine wv ?_ | refine wg rfl nT ?_ | refine wz ?_)
  exact ⟨.inl rfl,_,rfl,fin fun hh=>hne (by
   have:=congrArg List.length hh
   simpa using this)⟩
theorem qEqual_v (x x':Bool) (l l':List Nat) (t t':List (List ZZ)) (hc:chk ((x,l),t)=0) (hc':chk ((x',l'),t')=0) (hd:okL l∧l.length≤549755813888) (hd':okL l'∧l'.length≤549755813888) (ht:∀ r∈t,r.length≤1099511627776∧∀ z∈r,okL z.2∧z.2.length≤549755813888) (hl:t.length≤1099511627776)
  (ht':∀ r∈t',r.length≤1099511627776∧∀ z∈r,okL z.2∧z.2.length≤549755813888) (hl':t'.length≤1099511627776) :
  wD Tryz.prog 61 [.agg [.bool x,vL l,vT t],.agg [.bool x',vL l',vT t']] (fun y=>y=.tup [.bool (vB ((x,l),t) ((x',l'),t')),.int .i64 0]):=by
 refine wC wG Tryz.func61 rfl rfl rfl rfl fun w0=>?_
 have od:okZ (x,l):=⟨hd.1,pC hd.2 (by decide)⟩
 have od':okZ (x',l'):=⟨hd'.1,pC hd'.2 (by decide)⟩
 have q1:=wX0 [((x,l),t),((x',l'),t')] (fun m hm=>by
  rcases pQ.1 hm with rfl | hm
  ·exact ⟨od,hl⟩
  ·rw [pL.1 hm]; exact ⟨od',hl'⟩) (by show 2≤1099511627776; decide)
 have e:chks [((x,l),t),((x',l'),t')]=0:=by simp only [chks,hc,hc',if_true]
 rw [e] at q1; have q2:=qsame_v x x' l l' t t' hd hd' ht hl ht' hl'
 repeat (first | refine wv ?_ | refine wg rfl nF ?_ | refine wh q1 ?_ | refine wc q2 ?_ | refine wz ?_)
 exact ⟨.inl rfl,_,rfl,rfl⟩
end Go.Proofs.YtkjhfnhgefbhhaaGreat
/- qmat.Mul: told of trees. ALLOC -/
namespace Go.Proofs.YtkjhfnhgefbhhaaGreat
open Go.RowKit Go.Ev Go.Vl
def ent (t:List (List ZZ)) (i k:Nat):ZZ:=(t.getD i []).getD k (false,[])
def yB (t t':List (List ZZ)) (i k:Nat):Nat→Int
 | 0=>0
 | h+1=>yB t t' i k h+intOf (ent t i h)*intOf (ent t' h k)
def okT (t:List (List ZZ)) (K n:Nat):Prop:=t.length≤n∧∀ r∈t,r.length≤n∧∀ z∈r,okL z.2∧z.2.length≤K
theorem ent_at {t:List (List ZZ)} {i k:Nat} {r:List ZZ} {z:ZZ} (h:t[i]? = some r) (h2:r[k]? = some z):ent t i k=z:=by
 unfold ent; rw [pK,pK,h]
 simp only [Option.getD_some]
 rw [h2]
 rfl
theorem wE3 (t t':List (List ZZ)) (K n i k:Nat) (h1:∀ i k,lm (intOf (ent t i k))≤K) (h2:∀ i k,lm (intOf (ent t' i k))≤K):∀ h,lm (yB t t' i k h)≤K+K+h
 | 0=>by
  show (toL (0:Int).natAbs).length≤_
  simp [qB]
 | h+1=>by
  have ih:=wE3 t t' K n i k h1 h2 h; have l1:=qJ (intOf (ent t i h)) (intOf (ent t' h k))
  have m1:=h1 i h; have m2:=h2 h k
  exact wQ5 _ _ (K+K+h) ih (by omega)
theorem yX {t:List (List ZZ)} {K n:Nat} (h:okT t K n) (i k:Nat):lm (intOf (ent t i k))≤K:=by
 unfold ent; rw [pK,pK]
 cases hi:t[i]? with
 | none =>
  show lm (intOf (([]:List ZZ)[k]?.getD (false,[])))≤K
  rw [List.getElem?_nil]; show (toL (intOf (false,[])).natAbs).length≤_
  simp [intOf,wB,qB]
 | some r =>
  simp only [Option.getD_some]
  cases hk:r[k]? with
  | none =>
   show (toL (intOf (false,[])).natAbs).length≤_
   simp [intOf,wB,qB]
  | some z =>
   obtain ⟨g1,g2⟩:=(h.2 r (pD hi)).2 z (pD hk); exact pC (wL z g1) g2
theorem mul1_v (x x':Bool) (l l':List Nat) (t t':List (List ZZ)) (n i k K:Nat) (hn:n≤68719476736) (hK:K≤68719476736) (ht:okT t K 68719476736) (ht':okT t' K 68719476736) (hr:∀ r∈t,r.length=n) (hr':∀ r∈t',k<r.length) (hi:i<t.length) (hn':t'.length=n) :
  wD Tryz.prog 116 [.int .i64 (i:Nat),.int .i64 (k:Nat),.ref [.int .i64 (n:Nat)],.ref [.bool x,vL l,vT t],.ref [.bool x',vL l',vT t']] (fun y=>y=.agg (wS (zn (yB t t' i k n)))):=by
 refine wC wG Tryz.func116 rfl rfl rfl rfl fun w0=>?_
 have hk1:∀ h,lm (yB t t' i k h)≤K+K+h:=wE3 t t' K n i k (yX ht) (yX ht'); obtain ⟨r,hr0⟩:=gE hi
 have hrn:=hr r (pD hr0); have hro:=(ht.2 r (pD hr0)).2
 have hg:=wCH t i r hr0; have hil:i<9223372036854775808:=by have:=ht.1; omega
 repeat (first | refine wl ?_ | refine wv ?_ | refine wz ?_)
 refine qEE 8 1 rfl rfl rfl ?_
 refine wJ (fun b:Nat × ZZ=>[jI 0 i,jI 2 k,jV 6 (.ref [.bool x,vL l,vT t]),jV 8 (.ref [.bool x',vL l',vT t']),jB 14 7,jC 15 [.v (.bool false),.nils],jB 16 8,jC 17 [.v (.bool b.2.1),.v (vL b.2.2)],jI 20 n,jI 22 (b.1)])
  (fun b=>b.1≤n∧b.2=zn (yB t t' i k b.1)) (fun b=>n - b.1) (0,(false,[])) (fun _=>rfl) ⟨pH _,by simp [yB,zn,qB]⟩ ⟨rfl,rfl,rfl,rfl,rfl,rfl,rfl,rfl,rfl,rfl,trivial⟩ fun ⟨h,s⟩ hI=>?_
 obtain ⟨hI1,hI2⟩:=hI; dsimp only at hI1 hI2 ⊢
 subst hI2; rcases pG h n with hj | hj
 ·obtain ⟨z,hz⟩:=gE (l:=r) (i:=h) (by omega)
  obtain ⟨r',hr1⟩:=gE (l:=t') (i:=h) (by omega)
  have hk':=hr' r' (pD hr1); obtain ⟨z',hz'⟩:=gE hk'
  have hg1:=wG7 r h z hz; have hg2:=wCH t' h r' hr1
  have hg3:=wG7 r' k z' hz'; have oz:=hro z (pD hz)
  have oz':=(ht'.2 r' (pD hr1)).2 z' (pD hz'); have e1:=ent_at hr0 hz
  have e2:=ent_at hr1 hz'; have q1:=xL z z' ⟨oz.1,by omega⟩ ⟨oz'.1,by omega⟩
  have l1:=qJ (intOf z) (intOf z'); have m1:=wL z oz.1
  have m2:=wL z' oz'.1; have l2:=hk1 h
  have q2:=zadd_v (zn (yB t t' i k h)) (zn (intOf z*intOf z')) (qF _ (by omega)) (qF _ (by omega))
  rw [wE,wE] at q2; have e3:yB t t' i k h+intOf z*intOf z'=yB t t' i k (h+1):=by
   show _=yB t t' i k h+intOf (ent t i h)*intOf (ent t' h k)
   rw [e1,e2]
  rw [e3] at q2; have hkl:=(ht'.2 r' (pD hr1)).1
  obtain ⟨zx,zl⟩:=z; obtain ⟨zx',zl'⟩:=z'
  repeat (first | refine wg rfl (sX i hg) ?_ | refine wg rfl (sX h hg1) ?_ | refine wg rfl (sX h hg2) ?_ | refine wg rfl (sX k hg3) ?_ | refine wc q1 ?_ | refine wc q2 ?_ | refine wv ?_ | refine wg rfl cT ?_ | refine wg rfl sB ?_ | refine wz ?_)
  exact ⟨(h+1,zn (yB t t' i k (h+1))),⟨hj,rfl⟩,by dsimp only; omega,rfl,rfl,rfl,rfl,rfl,rfl,rfl,rfl,rfl,rfl,trivial⟩
 ·have hje:h=n:=by omega
  subst hje
  repeat (first | refine wv ?_ | refine wg rfl cF ?_ | refine wz ?_)
  exact ⟨.inl rfl,_,rfl,rfl⟩
def mulTI (t t':List (List ZZ)):List (List ZZ):=kC t.length (wR t') fun i k=>zn (yB t t' i k (wR t))
def yV (m m':MM):MM:=wAA (zn (intOf m.1*intOf m'.1)) (mulTI m.2 m'.2)
theorem wBE {r c:Nat} {F:Nat→Nat→ZZ} {row:List ZZ} (h:row∈kC r c F):row.length=c∧∀ z∈row,∃ i k,z=F i k:=by
 unfold kC at h; obtain ⟨i,_,rfl⟩:=pJ.1 h
 refine ⟨by simp,fun z hz=>?_⟩
 obtain ⟨k,_,rfl⟩:=pJ.1 hz; exact ⟨i,k,rfl⟩
theorem qMul_v (x x':Bool) (l l':List Nat) (t t':List (List ZZ)) (K:Nat) (hK:K≤68719476736) (hc:chk ((x,l),t)=0) (hc':chk ((x',l'),t')=0) (h0:intOf (x,l)≠0) (h0':intOf (x',l')≠0) (hd:okL l∧l.length≤K) (hd':okL l'∧l'.length≤K) (ht:okT t K 68719476736) (ht':okT t' K 68719476736)
  (hr:∀ r∈t,r.length=wR t) (hr':∀ r∈t',r.length=wR t') (hn:t'.length=wR t) :
  wD Tryz.prog 62 [.agg [.bool x,vL l,vT t],.agg [.bool x',vL l',vT t']] (fun y=>y=.tup [vM (yV ((x,l),t) ((x',l'),t')),.int .i64 0]):=by
 refine wC wG Tryz.func62 rfl rfl rfl rfl fun w0=>?_
 have od:okZ (x,l):=⟨hd.1,pC hd.2 (by omega)⟩
 have od':okZ (x',l'):=⟨hd'.1,pC hd'.2 (by omega)⟩
 have hl:=ht.1; have hl':=ht'.1
 have hcl:wR t≤68719476736:=by rw [← hn]; exact hl'
 have hcl':wR t'≤68719476736:=by
  unfold wR; cases t' with
  | nil=>exact pH _
  | cons r t'=>exact (ht'.2 r (pO ..)).1
 have q1:=wX0 [((x,l),t),((x',l'),t')] (fun m hm=>by
  rcases pQ.1 hm with rfl | hm
  ·exact ⟨od,by dsimp only; omega⟩
  ·rw [pL.1 hm]; exact ⟨od',by dsimp only; omega⟩) (by show 2≤1099511627776; decide)
 have e:chks [((x,l),t),((x',l'),t')]=0:=by simp only [chks,hc,hc',if_true]
 rw [e] at q1; have q2:=wMG ((x,l),t) (by dsimp only; omega)
 have q3:=wMG ((x',l'),t') (by dsimp only; omega)
 dsimp only at q2 q3; rw [hn] at q3
 have q4:=xL (x,l) (x',l') od od'; have q5:=table_v t.length (wR t') 116 Tryz.f116 [] [.ref [.int .i64 (wR t:Nat)],.ref [.bool x,vL l,vT t],.ref [.bool x',vL l',vT t']] (fun i k=>zn (yB t t' i k (wR t))) rfl (fun i k hi hk=>mul1_v x x' l l' t t' (wR t) i k K hcl hK ht ht' hr (fun r h=>by rw [hr' r h]; exact hk) hi hn) (by omega) (by omega)
 have l1:=qJ (intOf (x,l)) (intOf (x',l')); have m1:=wL (x,l) hd.1
 have m2:=wL (x',l') hd'.1; dsimp only at m1 m2
 have q6:=qD5 (zn (intOf (x,l)*intOf (x',l'))) (mulTI t t') (qF _ (by omega)) (by rw [wE]; exact cD h0 h0') (fun r h z hz=>by
  obtain ⟨i,k,rfl⟩:=(wBE h).2 z hz; have:=wE3 t t' K 0 i k (yX ht) (yX ht') (wR t)
  exact qF _ (by omega)) (by
  show (kC _ _ _).length≤_
  unfold kC; simp only [List.length_map,List.length_range]
  omega) (fun r h=>by rw [(wBE h).1]; omega)
 repeat (first | refine vw_toF 8 [jB 4 2,jC 5 [.v (.bool x),.v (vL l),.v (vT t)],jB 6 3,jC 7 [.v (.bool x'),.v (vL l'),.v (vT t')],jB 8 4,jC 9 [.v (.bool false),.nils,.nils],jI 14 (t.length),jB 16 8,jC 17 [.v (.int .i64 (wR t:Nat))],jI 20 (wR t')] [jV 4 (.ref [.bool x,vL l,vT t]),jV 6 (.ref [.bool x',vL l',vT t']),jB 8 4,jC 9 [.v (.bool false),.nils,.nils],jI 14 (t.length),jV 16 (.ref [.int .i64 (wR t:Nat)]),jI 20 (wR t')] rfl ⟨rfl,rfl,rfl,rfl,rfl,rfl,rfl,rfl,rfl,rfl,trivial⟩ (fun h=>wCG 2 2 rfl rfl rfl (wCG 3 3 rfl rfl rfl (wCG 8 8 rfl rfl rfl (vw_to _ (by exact rfl) (by exact ⟨rfl,rfl,rfl,rfl,rfl,rfl,rfl,trivial⟩) h)))) ?_ | refine wh q1 ?_ | refine wc q2 ?_ | refine wc q3 ?_ | refine wc q4 ?_ | refine wc q5 ?_ | refine wc q6 ?_ | refine wl ?_ | refine wv ?_ | refine wg rfl nF ?_ | refine wz ?_)
 exact ⟨.inl rfl,_,rfl,rfl⟩
end Go.Proofs.YtkjhfnhgefbhhaaGreat
/- commute.fit, alike, sure: told of trees. ALLOC -/
namespace Go.Proofs.YtkjhfnhgefbhhaaGreat
open Go.RowKit Go.Ev Go.Vl
theorem wN (x:Rat):wI (qn x)=x:=by
 unfold wI qn; rw [wE,wE]
 exact cU x
def htM (m:MM):Nat:=htL ((wT m).flatten.map fun q=>qn (wI q)) 0
def wL9 (m:MM):Int:=if chk m=0 then (if m.2.length=wR m.2∧m.2.length≠0 then (if m.2.length≤24∧htM m≤4096 then 0 else 4) else 3) else chk m
def fits:List MM→Int
 | []=>0
 | m :: ms=>if wL9 m=0 then fits ms else wL9 m
def okM (m:MM) (K:Nat):Prop:=okL m.1.2∧m.1.2.length≤K∧okT m.2 K 68719476736∧m.2.flatten.length≤68719476736
theorem chk0 {m:MM} (h:chk m=0):intOf m.1≠0∧wI1 m.2=true:=by
 unfold chk at h
 split at h
 ·cases h
 ·rename_i h0
  split at h
  ·rename_i h1
   exact ⟨h0,h1⟩
  ·cases h
theorem yS (m:MM):(wT m).flatten=m.2.flatten.map fun x=>qn (Rat.divInt (intOf x) (intOf m.1)):=by
 unfold wT; rw [pE8]
theorem wMF {m:MM} (h:okM m 68719476736) (h0:intOf m.1≠0):∀ q∈(wT m).flatten,okQ q∧intOf q.2≠0∧qn (wI q)=q:=by
 intro q hq
 rw [yS] at hq; obtain ⟨z,hz,rfl⟩:=pJ.1 hq
 obtain ⟨r,hr,hzr⟩:=cL.1 hz; obtain ⟨g1,g2⟩:=(h.2.2.1.2 r hr).2 z hzr
 obtain ⟨n1,n2⟩:=zF (intOf z) (intOf m.1) h0; have m1:=wL z g1
 have m2:=wL m.1 h.1; have m3:=h.2.1
 refine ⟨⟨qF _ (by omega),qF _ (by omega)⟩,?_,by rw [wN]⟩
 show intOf (zn ((Rat.divInt (intOf z) (intOf m.1)).den:Int))≠0
 rw [wE]; have:=(Rat.divInt (intOf z) (intOf m.1)).den_nz
 omega
end Go.Proofs.YtkjhfnhgefbhhaaGreat
/- Arguments of small bulk; closed calls out of the evaluator, told of trees. -/
namespace Go.Proofs.YtkjhfnhgefbhhaaGreat
open Go.ChangeShapes Go.WideShapes Go.ChangeAt Go.RowKit Go.Deep Go.Ev Go.Vl
theorem wJ8 {m:MM} (h:limM m) (hb:bkM m≤1048576):okM m 1048576:=by
 obtain ⟨h1,h2⟩:=h; have e1:=flat_bulk m.2
 have e2:=wM6 bkR (fun r=>by unfold bkR; omega) m.2
 unfold bkM at hb; have e0:bkZ m.1=m.1.2.length+1:=rfl
 refine ⟨h1,by omega,⟨by omega,fun r hr=>?_⟩,by omega⟩
 have e3:=wS5 bkR hr; have e4:=wM6 bkZ (fun z=>by unfold bkZ; omega) r
 have e5:bkR r=(r.map bkZ).sum+1:=rfl; refine ⟨by omega,fun z hz=>⟨h2 r hr z hz,?_⟩⟩
 have e6:=wS5 bkZ hz; have e7:bkZ z=z.2.length+1:=rfl
 omega
theorem vcalls_ent {P:Program} {e:Ent} (he:wK9 P e) (hm:e.m=0) (ha:e.args=[]) {b:Bool} (hv:e.v=.bool b):wD P e.f [] (fun y=>y=.bool b):=fun S w us hu=>by
 cases hu
 exact (qE5 he hm ha hv w).mono fun x w' ⟨h1,h2⟩=>⟨_,_,h1,rfl,.bool b,h2⟩
section
variable {H:Type} {enc:TypeId × Value→H} {W:World} {held:Bool}
end
end Go.Proofs.YtkjhfnhgefbhhaaGreat
/- simileref03.Lcm told of trees. ALLOC -/
namespace Go.Proofs.YtkjhfnhgefbhhaaGreat
open Go.RowKit Go.Ev Go.Vl
def lcmI (a x:Int):Int:=a*((x.natAbs:Int).tdiv (Int.gcd a x:Nat))
theorem lcmI_nat (a x:Nat):lcmI a x=(Nat.lcm a x:Nat):=by
 show (a:Int)*(((x:Int).natAbs:Int).tdiv (Int.gcd a x:Nat))=_
 rw [mS,Int.gcd_natCast_natCast]; rw [show ((x:Int)).tdiv ((Nat.gcd a x:Nat):Int)=((x / Nat.gcd a x:Nat):Int) from (Int.ofNat_tdiv x (Nat.gcd a x)).symm]
 rw [← dP]
 congr 1
 rw [Nat.lcm,Nat.mul_div_assoc _ (Nat.gcd_dvd_right a x)]
theorem lcmI_eq (a:Nat) (x:Int):lcmI a x=(Nat.lcm a x.natAbs:Nat):=by
 rw [← lcmI_nat]; unfold lcmI
 rw [mS]
 rfl
def wHH (xs:List Int) (a:Nat):Nat:=xs.foldl (fun a x=>Nat.lcm a x.natAbs) a
theorem lcmN_pos (xs:List Int) (a:Nat) (h:0<a) (hx:∀ x∈xs,x≠0):0<wHH xs a:=by
 induction xs generalizing a with
 | nil=>exact h
 | cons x xs ih=>exact ih _ (pG4 h (by have:=hx x (pO ..); omega)) fun y hy=>hx y (pT _ hy)
theorem lcmN_dvd (xs:List Int) (a D:Nat) (h:a∣D) (hx:∀ x∈xs,x.natAbs∣D):wHH xs a∣D:=by
 induction xs generalizing a with
 | nil=>exact h
 | cons x xs ih=>exact ih _ (pG5 h (hx x (pO ..))) fun y hy=>hx y (pT _ hy)
theorem qHG (xs:List Int) (a:Nat):a∣wHH xs a∧∀ x∈xs,x.natAbs∣wHH xs a:=by
 induction xs generalizing a with
 | nil=>exact ⟨pC9 _,by simp⟩
 | cons x xs ih =>
  obtain ⟨h1,h2⟩:=ih (Nat.lcm a x.natAbs); refine ⟨gS (Nat.dvd_lcm_left ..) h1,fun y hy=>?_⟩
  rcases pQ.1 hy with rfl | hy
  ·exact gS (Nat.dvd_lcm_right ..) h1
  ·exact h2 y hy
theorem xO {a b:Nat} (h:a≤b):lm (a:Int)≤lm (b:Int):=qC h
theorem lcm3_v (zs:List ZZ) (D:Nat) (hD:0<D) (hDl:lm D≤549755813888) (hz:∀ z∈zs,okZ z∧intOf z≠0∧(intOf z).natAbs∣D) (hl:zs.length≤1099511627776):wD Tryz.prog 180 [vZs zs] (fun y=>y=nI (wHH (zs.map intOf) 1:Nat)):=by
 refine wC wG Tryz.func180 rfl rfl rfl rfl fun w0=>?_
 have q0:=rof_v 1 (by decide)
 repeat (first | refine wg rfl (sL (wA1 _)) ?_ | refine wl ?_ | refine wv ?_ | refine wc q0 ?_ | refine wz ?_)
 refine wJ (fun b:Nat × Nat=>[jB 4 2,jC 5 [.v (.bool false),.nils],jB 6 3,jC 7 [.v (.bool (zn (b.2:Nat)).1),.v (vL (zn (b.2:Nat)).2)],jV 18 (vZs zs),jI 20 (zs.length),jI 22 (b.1)])
  (fun b=>b.1≤zs.length∧0<b.2∧b.2∣D∧wHH ((zs.drop b.1).map intOf) b.2=wHH (zs.map intOf) 1) (fun b=>zs.length - b.1) (0,1) (fun _=>rfl) ⟨pH _,by decide,gD _,rfl⟩ ⟨rfl,rfl,rfl,rfl,rfl,rfl,rfl,trivial⟩ fun ⟨j,x⟩ hI=>?_
 obtain ⟨h1,h2,h3,h4⟩:=hI; dsimp only at h1 h2 h3 h4 ⊢
 rcases pG j zs.length with hj | hj
 ·obtain ⟨z,hze⟩:=gE hj
  obtain ⟨hzo,hz0,hzD⟩:=hz z (pD hze); have hg:(zs.map zrow)[j]? = some [.bool z.1,vL z.2]:=by rw [pI,hze]; rfl
  have hd:zs.drop j=z :: zs.drop (j+1):=by
   rw [bM hj]; rw [pU hj] at hze
   cases hze
   rfl
  rw [hd] at h4; have hx:=qF (x:Nat) (pC (xO (cO hD h3)) (pC hDl (by decide)))
  have hgp:0<Int.gcd (x:Nat) (intOf z):=bC _ hz0; have hgz:lm (Int.gcd (x:Nat) (intOf z):Nat)≤549755813888:=pC (xO (pC (cO h2 (by
   have:=bT (x:Int) (intOf z); exact pB2.1 this)) (cO hD h3))) hDl
  have haz:lm ((intOf z).natAbs:Int)≤549755813888:=pC (xO (cO hD hzD)) hDl; have q1:=wF8 z hzo
  have hs:sgn (intOf z)≠0:=by rcases xN (intOf z) with h | h | h <;> omega
  have q2:=rabs_v z hzo; rw [← kF] at q2
  have q3:=rgcd_v (zn (x:Nat)) z hx hzo; rw [wE] at q3
  have q4:=wH1 (zn ((intOf z).natAbs:Int)) (zn (Int.gcd (x:Nat) (intOf z):Nat)) (qF _ (by omega)) (qF _ (by omega)) (by rw [wE]; omega) (by
   rw [wE,wE]; exact Int.dvd_natAbs.2 (fD ..))
  rw [wE,wE] at q4; obtain ⟨p,hp⟩:∃ p:Int,p=((intOf z).natAbs:Int).tdiv (Int.gcd (x:Nat) (intOf z):Nat):=⟨_,rfl⟩
  rw [← hp] at q4; have hpl:lm p≤549755813888:=by
   rw [hp]; refine pC (jF ?_) haz
   rw [dX]; exact cN ..
  have q5:=wKI (zn (x:Nat)) (zn p) hx (qF _ (by omega))
  rw [wE,wE] at q5; have hxp:(x:Int)*p=(Nat.lcm x (intOf z).natAbs:Nat):=by
   rw [hp,← lcmI_eq]
   rfl
  rw [hxp] at q5; have h5:Nat.lcm x (intOf z).natAbs∣D:=pG5 h3 hzD
  have h6:0<Nat.lcm x (intOf z).natAbs:=pG4 h2 (by omega)
  have h7:wHH ((zs.drop (j+1)).map intOf) (Nat.lcm x (intOf z).natAbs)=wHH (zs.map intOf) 1:=h4
  repeat (first | refine wl ?_ | refine wv ?_ | refine wg rfl cT ?_ | refine wg rfl cF ?_ | refine wg rfl sB ?_ | refine wg rfl (sX j hg) ?_ | refine wc q1 ?_ | refine wc q2 ?_ | refine wc q3 ?_ | refine wc q4 ?_ | refine wc q5 ?_ | refine wz ?_)
  exact ⟨(j+1,Nat.lcm x (intOf z).natAbs),⟨hj,h6,h5,h7⟩,by dsimp only; omega,rfl,rfl,rfl,rfl,rfl,rfl,rfl,trivial⟩
 ·rw [pY hj] at h4
  repeat (first | refine wv ?_ | refine wg rfl cF ?_ | refine wz ?_)
  refine ⟨.inl rfl,_,rfl,?_⟩
  rw [← h4]; exact rfl
end Go.Proofs.YtkjhfnhgefbhhaaGreat
/- simileref11.Rows: told of trees. ALLOC -/
namespace Go.Proofs.YtkjhfnhgefbhhaaGreat
open Go.RowKit Go.Ev Go.Vl
def q0:List V:=[.bool false,.list [],.bool false,.list []]
theorem wBH (x:Bool) (l:List Nat) (t:List (List ZZ)) (hd:okZ (x,l)) (h0:intOf (x,l)≠0) (ht:∀ r∈t,r.length≤1099511627776∧∀ z∈r,okZ z) (hl:t.length≤1099511627776):wD Tryz.prog 74 [.agg [.bool x,vL l,vT t]] (fun y=>y=.list (qU (wT ((x,l),t)))):=by
 refine wC wG Tryz.func74 rfl rfl rfl rfl fun w0=>?_
 repeat (first | refine wg rfl (sL (jP t)) ?_ | refine wv ?_ | refine wz ?_)
 refine zR (d:=3) (id:=1) (k:=1) (T:=64) rfl rfl rfl rfl ?_
 refine wJ (fun j:Nat=>[jB 2 1,jC 3 [.v (.bool x),.v (vL l),.v (vT t)],jO 6 1 64 1 (qU ((t.take j).map fun r=>r.map fun x'=>qn (Rat.divInt (intOf x') (intOf (x,l))))),
  jV 20 (vT t),jI 22 (t.length),jI 24 j])
  (fun j=>j≤t.length) (fun j=>t.length - j) 0 (fun _=>rfl) (pH _) ⟨rfl,rfl,⟨_,rfl⟩,rfl,rfl,rfl,trivial⟩ fun j hJ=>?_
 rcases pG j t.length with hj | hj
 ·obtain ⟨r,hr⟩:=gE hj
  obtain ⟨hrl,hro⟩:=ht r (pD hr); have hg:=wCH t j r hr
  obtain ⟨R,hRe⟩:∃ R,(r.map fun x'=>qn (Rat.divInt (intOf x') (intOf (x,l))))=R:=⟨_,rfl⟩
  have hRl:(R.map wH).length=r.length:=by rw [← hRe,pF,pF]
  have hrep:List.replicate r.length q0=(((R.map wH).take 0)++List.replicate ((R.map wH).length - 0) q0):=by rw [hRl]; simp
  repeat (first | refine wg rfl (sL (vS r)) ?_ | refine wg rfl (sX j hg) ?_ | refine wg rfl (sM 7000 r.length r.length 4 64 hrep) ?_ | refine wv ?_ | refine wg rfl cT ?_ | refine wz ?_)
  refine wJ (fun k:Nat=>[jB 2 1,jC 3 [.v (.bool x),.v (vL l),.v (vT t)],jO 6 1 64 1 (qU ((t.take j).map fun r=>r.map fun x'=>qn (Rat.divInt (intOf x') (intOf (x,l))))),
   jV 20 (vT t),jI 22 (t.length),jI 24 j,
   jO 12 2 89 4 ((R.map wH).take k++List.replicate ((R.map wH).length - k) q0),jV 38 (.list (r.map wS)),jI 40 (r.length),jI 42 k])
   (fun k=>k≤r.length) (fun k=>r.length - k) 0 (fun _=>rfl) (pH _) ⟨rfl,rfl,⟨_,rfl⟩,rfl,rfl,rfl,⟨_,rfl⟩,rfl,rfl,rfl,trivial⟩ fun k hK=>?_
  rcases pG k r.length with hk | hk
  ·obtain ⟨z,hz⟩:=gE hk
   have hzo:=hro z (pD hz); have hg2:=wG7 r k z hz
   have q2:=wCJ z (x,l) hzo hd h0; have hgR:(R.map wH)[k]? = some (wH (qn (Rat.divInt (intOf z) (intOf (x,l))))):=by
    rw [← hRe,pI,pI,hz]
    rfl
   have hset:=v7 (R.map wH) q0 k _ hgR; have hown:((R.map wH).take k++List.replicate ((R.map wH).length - k) q0)[k]? = some q0:=by
    rw [mI (by rw [pM]; omega),mU,if_pos (by rw [pM]; omega)]
   have hlen:k<((R.map wH).take k++List.replicate ((R.map wH).length - k) q0).length:=by rw [pW,pM,mP]; omega
   generalize (R.map wH).take k++List.replicate ((R.map wH).length - k) q0=row at *; unfold q0 at hown
   obtain ⟨zx,zl⟩:=z
   repeat (first | refine wg rfl (sX k hg2) ?_ | refine wc q2 ?_ | refine wg rfl (sO k hlen) ?_ | refine wg rfl (sS hown (he:=by exact hset)) ?_ | refine wl ?_ | refine wv ?_ | refine wg rfl cT ?_ | refine wg rfl sB ?_ | refine wz ?_)
   exact ⟨k+1,hk,by omega,rfl,rfl,⟨_,rfl⟩,rfl,rfl,rfl,⟨_,rfl⟩,rfl,rfl,rfl,trivial⟩
  ·have hke:k=r.length:=by omega
   subst hke; have hfull:(R.map wH).take r.length++List.replicate ((R.map wH).length - r.length) q0=R.map wH:=by
    rw [pN (by omega),hRl,dV]
    simp
   rw [hfull]; have hs:qU ((t.take j).map fun r=>r.map fun x'=>qn (Rat.divInt (intOf x') (intOf (x,l))))++[[vQs R]]=qU ((t.take (j+1)).map fun r=>r.map fun x'=>qn (Rat.divInt (intOf x') (intOf (x,l)))):=by
    rw [mO,hr,← hRe]; unfold qU
    simp
   have hlen:(qU ((t.take j).map fun r=>r.map fun x'=>qn (Rat.divInt (intOf x') (intOf (x,l))))).length=j:=by rw [kR,pF,pM]; omega
   have wB2:∀ e∈[[vQs R]],e.length=1:=fun e h=>by rw [pL.1 h]; rfl
   repeat (first | refine wv ?_ | refine wf rfl rfl (sA 7002 [[vQs R]] 1 24 wB2 hs) ?_ | refine wg rfl cF ?_ | refine wg rfl sB ?_ | refine wx ?_ | refine wz ?_)
   exact ⟨j+1,hj,by omega,rfl,rfl,⟨_,rfl⟩,rfl,rfl,rfl,trivial⟩
 ·have hje:j=t.length:=by omega
  subst hje; rw [mH]
  repeat (first | refine wv ?_ | refine wg rfl cF ?_ | refine wz ?_)
  exact ⟨.inl rfl,_,rfl,rfl⟩
end Go.Proofs.YtkjhfnhgefbhhaaGreat
/- commute.does, Does: told of trees. ALLOC -/
namespace Go.Proofs.YtkjhfnhgefbhhaaGreat
open Go.RowKit Go.Ev Go.Vl
theorem wO5 (T:List (List ZZ)) (c:Nat) (h:∀ r∈T,r.length=c):wI1 T=true:=by
 unfold wI1; rw [mN]
 intro r hr
 cases T with
 | nil=>cases hr
 | cons r0 T =>
  rw [decide_eq_true_eq,h r hr]; exact (h r0 (pO ..)).symm
theorem of_even (T:List (List ZZ)) (h:wI1 T=true):∀ r∈T,r.length=wR T:=by
 unfold wI1 at h; rw [mN] at h
 intro r hr
 have:=h r hr; rw [decide_eq_true_eq] at this
 exact this
theorem qE4 (m:MM) (h0:intOf m.1≠0) (he:wI1 m.2=true):chk m=0:=by
 unfold chk; rw [if_neg h0,if_pos he]
theorem fit10 {m:MM} (h:wL9 m=0):chk m=0∧m.2.length=wR m.2∧m.2.length≠0∧m.2.length≤24∧htM m≤4096:=by
 unfold wL9 at h
 split at h
 ·rename_i h1
  split at h
  ·rename_i h2
   split at h
   ·rename_i h3
    exact ⟨h1,h2.1,h2.2,h3.1,h3.2⟩
   ·cases h
  ·cases h
 ·rename_i h1
  exact absurd h h1
end Go.Proofs.YtkjhfnhgefbhhaaGreat
/- simileref11.Size, Check: told of trees. ALLOC -/
namespace Go.Proofs.YtkjhfnhgefbhhaaGreat
open Go.RowKit Go.Ev Go.Vl
theorem wBF (x:Bool) (l:List Nat) (t:List (List ZZ)) (hl:t.length≤1099511627776):wD Tryz.prog 43 [.agg [.bool x,vL l,vT t]] (fun y=>y=.tup [.int .i64 (t.length:Nat),.int .i64 (wR t:Nat)]):=by
 refine wC wG Tryz.func43 rfl rfl rfl rfl fun w0=>?_
 cases t with
 | nil =>
  repeat (first | refine wg rfl (sL (jP [])) ?_ | refine wv ?_ | refine wg rfl (j0 rfl rfl rfl rfl (rfl) rfl) ?_ | refine wz ?_)
  exact ⟨.inl rfl,_,rfl,rfl⟩
 | cons r t =>
  have hc:(r :: t).length=t.length+1:=rfl; have hg:=wCH (r :: t) 0 r rfl
  repeat (first | refine wg rfl (sL (jP (r :: t))) ?_ | refine wg rfl (sL (vS r)) ?_ | refine wg rfl (sX 0 hg) ?_ | refine wv ?_ | refine wg rfl cF ?_ | refine wz ?_)
  exact ⟨.inl rfl,_,rfl,rfl⟩
theorem qAI (x:Bool) (l:List Nat) (t:List (List ZZ)) (hd:okZ (x,l)) (hl:t.length≤1099511627776):wD Tryz.prog 42 [.agg [.bool x,vL l,vT t]] (fun y=>y=.int .i64 (chk ((x,l),t))):=by
 refine wC wG Tryz.func42 rfl rfl rfl rfl fun w0=>?_
 have q1:=wF8 (x,l) hd; have fin:∀ {u v:Int},u=v→V.int .i64 u=V.int .i64 v:=fun h=>by rw [h]
 have hs:=xN (intOf (x,l)); unfold chk
 dsimp only; generalize intOf (x,l)=d at *
 generalize sgn d=sd at *
 by_cases h0:d=0
 ·repeat (first | refine wc q1 ?_ | refine wv ?_ | refine wg rfl cT ?_ | refine wz ?_)
  refine ⟨.inl rfl,_,rfl,fin ?_⟩
  rw [if_pos h0]
 ·rw [if_neg h0]
  repeat (first | refine wg rfl (sL (jP t)) ?_ | refine wc q1 ?_ | refine wv ?_ | refine wg rfl cF ?_ | refine wz ?_)
  refine wJ (fun j:Nat=>[jB 2 1,jC 3 [.v (.bool x),.v (vL l),.v (vT t)],jV 20 (vT t),jI 22 (t.length),jI 24 j])
   (fun j=>j≤t.length∧∀ r∈t.take j,r.length=wR t) (fun j=>t.length - j) 0 (fun _=>rfl) ⟨pH _,by simp⟩ ⟨rfl,rfl,rfl,rfl,rfl,trivial⟩ fun j hI=>?_
  obtain ⟨hJ,hq⟩:=hI; rcases pG j t.length with hj | hj
  ·obtain ⟨r,hr⟩:=gE hj
   have hg:=wCH t j r hr; obtain ⟨r0,hr0⟩:=gE (l:=t) (i:=0) (by omega)
   have hg0:=wCH t 0 r0 hr0; have hc:wR t=r0.length:=by
    unfold wR; cases t with
    | nil=>simp at hr0
    | cons a t=>simp at hr0; rw [hr0]; rfl
   by_cases he:r.length=r0.length
   ·repeat (first | refine wg rfl (sL (vS r)) ?_ | refine wg rfl (sL (vS r0)) ?_ | refine wg rfl (sX j hg) ?_ | refine wg rfl (sX 0 hg0) ?_ | refine wv ?_ | refine wg rfl cT ?_ | refine wg rfl nF ?_ | refine wg rfl sB ?_ | refine wz ?_)
    refine ⟨j+1,⟨hj,fun r' h'=>?_⟩,by omega,rfl,rfl,rfl,rfl,rfl,trivial⟩
    rw [mO,hr] at h'; rcases cH.1 h' with h' | h'
    ·exact hq r' h'
    ·simp at h'
     rw [h',he,hc]
   ·have hno:wI1 t≠true:=fun h=>he (by rw [of_even t h r (pD hr),hc])
    repeat (first | refine wg rfl (sL (vS r)) ?_ | refine wg rfl (sL (vS r0)) ?_ | refine wg rfl (sX j hg) ?_ | refine wg rfl (sX 0 hg0) ?_ | refine wv ?_ | refine wg rfl cT ?_ | refine wg rfl nT ?_ | refine wz ?_)
    refine ⟨.inl rfl,_,rfl,fin ?_⟩
    rw [if_neg hno]
  ·have hje:j=t.length:=by omega
   subst hje; rw [mH] at hq
   repeat (first | refine wv ?_ | refine wg rfl cF ?_ | refine wz ?_)
   refine ⟨.inl rfl,_,rfl,fin ?_⟩
   rw [if_pos (wO5 t _ hq)]
end Go.Proofs.YtkjhfnhgefbhhaaGreat
/- simileref11.Height, Fit: told of trees. ALLOC -/
namespace Go.Proofs.YtkjhfnhgefbhhaaGreat
open Go.RowKit Go.Ev Go.Vl
theorem htL_max (qs:List QQ):∀ n,htL qs n=max n (htL qs 0):=by
 induction qs with
 | nil=>intro n; show n=max n 0; omega
 | cons q qs ih =>
  intro n
  show htL qs (max n (htQ q))=max n (htL qs (max 0 (htQ q)))
  rw [ih (max n (htQ q)),ih (max 0 (htQ q))]; omega
theorem htL_app (a b:List QQ) (n:Nat):htL (a++b) n=htL b (htL a n):=by
 unfold htL; rw [pE4]
theorem j9 (t:List (List QQ)) (j:Nat) (r:List QQ) (h:t[j]? = some r):(qU t)[j]? = some [V.list (r.map wH)]:=by unfold qU; rw [pI,h]; rfl
theorem height11_v (x:Bool) (l:List Nat) (t:List (List ZZ)) (h:okM ((x,l),t) 68719476736) (h0:intOf (x,l)≠0):wD Tryz.prog 44 [.agg [.bool x,vL l,vT t]] (fun y=>y=.int .i64 (htM ((x,l),t):Nat)):=by
 refine wC wG Tryz.func44 rfl rfl rfl rfl fun w0=>?_
 have od:okZ (x,l):=⟨h.1,pC h.2.1 (by decide)⟩
 have q1:=wBH x l t od h0 (fun r hr=>⟨pC (h.2.2.1.2 r hr).1 (by decide),fun z hz=>⟨((h.2.2.1.2 r hr).2 z hz).1,pC ((h.2.2.1.2 r hr).2 z hz).2 (by decide)⟩⟩) (pC h.2.2.1.1 (by decide))
 have hRq:=wMF h h0; have hRl:(wT ((x,l),t)).length≤1099511627776:=by
  unfold wT; rw [pF]
  exact pC h.2.2.1.1 (by decide)
 have hRr:∀ r∈wT ((x,l),t),r.length≤1099511627776:=fun r hr=>by
  obtain ⟨r',h1,rfl⟩:=pJ.1 hr; rw [pF]
  exact pC (h.2.2.1.2 r' h1).1 (by decide)
 unfold htM; generalize wT ((x,l),t)=R at *
 repeat (first | refine wc q1 ?_ | refine wg rfl (sL (kR R)) ?_ | refine wv ?_ | refine wz ?_)
 refine wJ (fun b:Nat × Nat=>[jI 6 (b.2),jV 16 (.list (qU R)),jI 18 (R.length),jI 20 (b.1)])
  (fun b=>b.1≤R.length∧b.2=htL ((R.take b.1).flatten.map fun q=>qn (wI q)) 0) (fun b=>R.length - b.1) (0,0) (fun _=>rfl) ⟨pH _,rfl⟩ ⟨rfl,rfl,rfl,rfl,trivial⟩ fun ⟨j,n⟩ hI=>?_
 obtain ⟨hJ,hn⟩:=hI; dsimp only at hJ hn ⊢
 rcases pG j R.length with hj | hj
 ·obtain ⟨r,hr⟩:=gE hj
  have hrm:=pD hr; have hg:=j9 R j r hr
  have q2:=rheight_v r (fun q hq=>by
   obtain ⟨g1,g2,_⟩:=hRq q (cL.2 ⟨r,hrm,hq⟩); exact ⟨g1,g2⟩) (hRr r hrm) (fun q hq=>by
   obtain ⟨g1,_,g3⟩:=hRq q (cL.2 ⟨r,hrm,hq⟩); rw [g3]; exact g1)
  have hst:htL ((R.take (j+1)).flatten.map fun q=>qn (wI q)) 0=max n (htL (r.map fun q=>qn (wI q)) 0):=by
   rw [mO,hr]; simp only [Option.toList_some,List.flatten_append,List.map_append,List.flatten_cons,List.flatten_nil,List.append_nil]
   rw [htL_app,htL_max,← hn]
  generalize htL (r.map fun q=>qn (wI q)) 0=u at *
  by_cases hu:n<u
  ·repeat (first | refine wg rfl (sX j hg) ?_ | refine wc q2 ?_ | refine wv ?_ | refine wg rfl cT ?_ | refine wg rfl sB ?_ | refine wz ?_)
   exact ⟨(j+1,u),⟨hj,by dsimp only; rw [hst]; omega⟩,by dsimp only; omega,rfl,rfl,rfl,rfl,trivial⟩
  ·repeat (first | refine wg rfl (sX j hg) ?_ | refine wc q2 ?_ | refine wv ?_ | refine wg rfl cT ?_ | refine wg rfl cF ?_ | refine wg rfl sB ?_ | refine wz ?_)
   exact ⟨(j+1,n),⟨hj,by dsimp only; rw [hst]; omega⟩,by dsimp only; omega,rfl,rfl,rfl,rfl,trivial⟩
 ·rw [pN hj] at hn
  subst hn
  repeat (first | refine wv ?_ | refine wg rfl cF ?_ | refine wz ?_)
  exact ⟨.inl rfl,_,rfl,rfl⟩
theorem fit11_v (x:Bool) (l:List Nat) (t:List (List ZZ)) (h:okM ((x,l),t) 68719476736):wD Tryz.prog 11 [.agg [.bool x,vL l,vT t]] (fun y=>y=.int .i64 (wL9 ((x,l),t))):=by
 refine wC wG Tryz.func11 rfl rfl rfl rfl fun w0=>?_
 have fin:∀ {u v:Int},u=v→V.int .i64 u=V.int .i64 v:=fun h=>by rw [h]
 have od:okZ (x,l):=⟨h.1,pC h.2.1 (by decide)⟩
 have hl:t.length≤68719476736:=h.2.2.1.1; have q1:=qAI x l t od (by omega)
 have q2:=wBF x l t (by omega)
 unfold wL9
 by_cases h0:chk ((x,l),t)=0
 ·have q3:=height11_v x l t h (chk0 h0).1
  rw [if_pos h0]; rw [h0] at q1
  dsimp only; generalize htM ((x,l),t)=ht at *
  obtain ⟨c,hce⟩:∃ c,wR t=c:=⟨_,rfl⟩; rw [hce] at q2 ⊢
  by_cases h1:t.length=0
  ·rw [if_neg (fun hh=>hh.2 h1)]
   repeat (first | refine wv ?_ | refine wg rfl cT ?_ | refine wg rfl nF ?_ | refine wc q1 ?_ | refine wc q2 ?_ | refine kZ rfl rfl rfl rfl rfl rfl ?_ | refine wz ?_)
   exact ⟨.inl rfl,_,rfl,rfl⟩
  ·by_cases h2:t.length=c
   ·rw [if_pos ⟨h2,h1⟩]
    by_cases h3:t.length≤24
    ·by_cases h4:ht≤4096
     ·rw [if_pos ⟨h3,h4⟩]
      repeat (first | refine wv ?_ | refine wg rfl cF ?_ | refine wg rfl nF ?_ | refine wc q1 ?_ | refine wc q2 ?_ | refine wc q3 ?_ | refine wz ?_)
      exact ⟨.inl rfl,_,rfl,rfl⟩
     ·rw [if_neg (fun hh=>h4 hh.2)]
      repeat (first | refine wv ?_ | refine wg rfl cT ?_ | refine wg rfl cF ?_ | refine wg rfl nF ?_ | refine wc q1 ?_ | refine wc q2 ?_ | refine wc q3 ?_ | refine wz ?_)
      exact ⟨.inl rfl,_,rfl,rfl⟩
    ·rw [if_neg (fun hh=>h3 hh.1)]
     repeat (first | refine wv ?_ | refine wg rfl cT ?_ | refine wg rfl cF ?_ | refine wg rfl nF ?_ | refine wc q1 ?_ | refine wc q2 ?_ | refine kZ rfl rfl rfl rfl rfl rfl ?_ | refine wz ?_)
     exact ⟨.inl rfl,_,rfl,rfl⟩
   ·rw [if_neg (fun hh=>h2 hh.1)]
    repeat (first | refine wv ?_ | refine wg rfl cF ?_ | refine wg rfl nT ?_ | refine wg rfl nF ?_ | refine wc q1 ?_ | refine wc q2 ?_ | refine wz ?_)
    exact ⟨.inl rfl,_,rfl,rfl⟩
 ·rw [if_neg h0]
  generalize chk ((x,l),t)=c at *
  repeat (first | refine wv ?_ | refine wg rfl nT ?_ | refine wc q1 ?_ | refine wz ?_)
  exact ⟨.inl rfl,_,rfl,rfl⟩
end Go.Proofs.YtkjhfnhgefbhhaaGreat
