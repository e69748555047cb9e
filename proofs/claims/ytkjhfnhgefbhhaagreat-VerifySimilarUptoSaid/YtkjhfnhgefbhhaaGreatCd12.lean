/- Natural numbers: what the program's functions and the document's make of them, told of trees. -/
import Derived.Test.YtkjhfnhgefbhhaaGreatCd08
import Derived.Test.YtkjhfnhgefbhhaaGreatCd11
import Derived.Test.YtkjhfnhgefbhhaaGreatCd10
import Derived.Test.YtkjhfnhgefbhhaaGreatCd09
set_option linter.all false
namespace Go.Proofs.YtkjhfnhgefbhhaaGreat
open Go.RowKit Go.Ev Go.Vl
theorem vc1 {P:Program} {g:FuncId} {xs ys:List Nat} (hx:okL xs) (h:∀ v w,wZ 0 w.heap.size w v xs→Calls P g #[v] w fun e w'=>∃ r,e=.returned r∧wZ w.heap.size w'.heap.size w' r ys∧Below w.heap.size w w'):wT P g [vL xs] (fun y=>y=vL ys):=by
 intro S w us hus
 cases hus with
 | cons h1 t =>
  cases t
  refine (h _ w (qU h1 hx)).mono ?_
  rintro e w' ⟨r,rfl,hr,hb⟩
  exact ⟨r,_,rfl,rfl,kF hr (Nat.le_refl _) fun b hb _=>.inr hb,hb⟩
theorem vc2 {P:Program} {g:FuncId} {xs ys zs:List Nat} (hx:okL xs) (hy:okL ys) (h:∀ v v2 w,wZ 0 w.heap.size w v xs→wZ 0 w.heap.size w v2 ys→Calls P g #[v,v2] w fun e w'=>∃ r,e=.returned r∧wZ w.heap.size w'.heap.size w' r zs∧Below w.heap.size w w'):wT P g [vL xs,vL ys] (fun y=>y=vL zs):=by
 intro S w us hus
 cases hus with
 | cons h1 t =>
  cases t with
  | cons h2 t =>
   cases t
   refine (h _ _ w (qU h1 hx) (qU h2 hy)).mono ?_
   rintro e w' ⟨r,rfl,hr,hb⟩
   exact ⟨r,_,rfl,rfl,kF hr (Nat.le_refl _) fun b hb _=>.inr hb,hb⟩
theorem own_v (xs:List Nat) (hx:okL xs) (hl:xs.length≤35184372088832):wT Tryz.prog 229 [vL xs] (fun y=>y=vN (wD xs)) :=
 vc1 hx fun v w h=>by rw [← zB xs hx]; exact own_any _ _ v xs w h hl
theorem natNorm_v (xs:List Nat) (hx:okL xs) (hl:xs.length≤35184372088832):wT Tryz.prog 228 [vL xs] (fun y=>y=vN (wD xs)) :=
 vc1 hx fun v w h=>by rw [← zB xs hx]; exact norm_any _ _ v xs w h hl
theorem natAdd_v (xs ys:List Nat) (hx:okL xs) (hy:okL ys) (hl:xs.length≤17592186044416) (hl2:ys.length≤17592186044416):wT Tryz.prog 177 [vL xs,vL ys] (fun y=>y=vN (wD xs+wD ys)) :=
 vc2 hx hy fun v v2 w h h2=>add_any _ _ _ _ v v2 xs ys w h h2 (Nat.le_refl _) (Nat.le_refl _) hl hl2
theorem natMul_v (xs ys:List Nat) (hx:okL xs) (hy:okL ys) (hl:xs.length≤8796093022208) (hl2:ys.length≤8796093022208):wT Tryz.prog 176 [vL xs,vL ys] (fun y=>y=vN (wD xs*wD ys)) :=
 vc2 hx hy fun v v2 w h h2=>mul_any _ _ _ _ v v2 xs ys w h h2 hl hl2
theorem natSub_v (xs ys:List Nat) (hx:okL xs) (hy:okL ys) (hl:xs.length≤17592186044416) (hl2:ys.length≤17592186044416) (hle:wD ys≤wD xs):wT Tryz.prog 233 [vL xs,vL ys] (fun y=>y=.tup [vN (wD xs - wD ys),.int .i64 0]):=by
 intro S w us hus
 cases hus with
 | cons h1 t =>
  cases t with
  | cons h2 t =>
   cases t
   refine (natsub_any _ _ _ _ _ _ xs ys w (qU h1 hx) (qU h2 hy) (Nat.le_refl _) (Nat.le_refl _) hl hl2 hle).mono ?_
   rintro e w' ⟨r,rfl,hr,hb⟩
   exact ⟨_,_,rfl,rfl,.tup (us:=[r,.int .i64 0]) (.cons (kF hr (Nat.le_refl _) fun b hb _=>.inr hb) (.cons (.int _ _) .nil)),hb⟩
theorem natCmp_v (xs ys:List Nat) (hx:okL xs) (hy:okL ys) (hl:xs.length≤35184372088832) (hl2:ys.length≤35184372088832):wT Tryz.prog 132 [vL xs,vL ys] (fun y=>y=.int .i64 (cmpN (wD xs) (wD ys))):=by
 intro S w us hus
 cases hus with
 | cons h1 t =>
  cases t with
  | cons h2 t =>
   cases t
   refine (cmp_any _ _ _ _ _ _ xs ys w (qU h1 hx) (qU h2 hy) hl hl2).mono ?_
   rintro e w' ⟨rfl,hb⟩
   exact ⟨_,_,rfl,rfl,.int _ _,hb⟩
theorem natLen_v (xs:List Nat) (hx:okL xs) (hl:xs.length≤35184372088832):wT Tryz.prog 170 [vL xs] (fun y=>y=.int .i64 (lenN (wD xs):Nat)):=by
 intro S w us hus
 cases hus with
 | cons h1 t =>
  cases t
  refine (len_any _ _ _ xs w (qU h1 hx) hl).mono ?_
  rintro e w' ⟨rfl,rfl⟩
  exact ⟨_,_,rfl,rfl,.int _ _,Below.refl _ _⟩
theorem natOf_v (n:Nat) (hn:n<18446744073709551616):wT Tryz.prog 179 [.int .u64 (n:Nat)] (fun y=>y=vN n):=by
 intro S w us hus
 cases hus with
 | cons h1 t =>
  cases t
  cases h1
  refine (natof_any n w hn).mono ?_
  rintro e w' ⟨r,rfl,hr,hb⟩
  exact ⟨_,_,rfl,rfl,kF hr (Nat.le_refl _) fun b hb _=>.inr hb,hb⟩
theorem norm01_v (xs:List Nat) (hx:okL xs) (hl:xs.length≤35184372088832):wT Tryz.prog 206 [vL xs] (fun y=>y=vN (wD xs)) :=
 vc1 hx fun v w h=>zQ _ _ v xs w h hl
theorem add01_v (xs ys:List Nat) (hx:okL xs) (hy:okL ys) (hl:xs.length≤17592186044416) (hl2:ys.length≤17592186044416):wT Tryz.prog 195 [vL xs,vL ys] (fun y=>y=vN (wD xs+wD ys)) :=
 vc2 hx hy fun v v2 w h h2=>add01_any _ _ _ _ v v2 xs ys w h h2 (Nat.le_refl _) (Nat.le_refl _) hl hl2
theorem sub01_v (xs ys:List Nat) (hx:okL xs) (hy:okL ys) (hl:xs.length≤17592186044416) (hle:wD ys≤wD xs):wT Tryz.prog 197 [vL xs,vL ys] (fun y=>y=vN (wD xs - wD ys)) :=
 vc2 hx hy fun v v2 w h h2=>sub01_any _ _ _ _ v v2 xs ys w h h2 (Nat.le_refl _) (Nat.le_refl _) hl hle
theorem mul01_v (xs ys:List Nat) (hx:okL xs) (hy:okL ys) (hl:xs.length≤4398046511104) (hl2:ys.length≤4398046511104):wT Tryz.prog 198 [vL xs,vL ys] (fun y=>y=vN (wD xs*wD ys)) :=
 vc2 hx hy fun v v2 w h h2=>mul01_any _ _ _ _ v v2 xs ys w h h2 (Nat.le_refl _) hl hl2
theorem small01_v (xs:List Nat) (d:Nat) (hx:okL xs) (hl:xs.length≤17592186044416) (hd:d<4294967296):wT Tryz.prog 247 [vL xs,.int .u32 (d:Nat)] (fun y=>y=vN (wD xs*d)):=by
 intro S w us hus
 cases hus with
 | cons h1 t =>
  cases t with
  | cons h2 t =>
   cases t
   cases h2
   refine (small01_any _ _ _ xs d w (qU h1 hx) (Nat.le_refl _) hl hd).mono ?_
   rintro e w' ⟨r,rfl,hr,hb⟩
   exact ⟨_,_,rfl,rfl,kF hr (Nat.le_refl _) fun b hb _=>.inr hb,hb⟩
theorem div01_v (xs ys:List Nat) (hx:okL xs) (hy:okL ys) (hl:xs.length≤4398046511104) (hl2:ys.length≤4398046511104) (hp:0<wD ys):wT Tryz.prog 278 [vL xs,vL ys] (fun y=>y=.tup [vN (wD xs / wD ys),vN (wD xs % wD ys)]):=by
 intro S w us hus
 cases hus with
 | cons h1 t =>
  cases t with
  | cons h2 t =>
   cases t
   refine (div01_any _ _ _ _ _ _ xs ys w (qU h1 hx) (qU h2 hy) (Nat.le_refl _) hl hl2 hp).mono ?_
   rintro e w' ⟨r1,r2,rfl,hr1,hr2,hb⟩
   exact ⟨_,_,rfl,rfl,.tup (us:=[r1,r2]) (.cons (kF hr1 (Nat.le_refl _) fun b hb _=>.inr hb) (.cons (kF hr2 (Nat.le_refl _) fun b hb _=>.inr hb) .nil)),hb⟩
theorem cmp01_v (xs ys:List Nat) (hx:okL xs) (hy:okL ys) (hl:xs.length≤17592186044416) (hl2:ys.length≤17592186044416):wT Tryz.prog 196 [vL xs,vL ys] (fun y=>y=.int .i64 (cmpN (wD xs) (wD ys))):=by
 intro S w us hus
 cases hus with
 | cons h1 t =>
  cases t with
  | cons h2 t =>
   cases t
   refine (cmp01_any _ _ _ _ _ _ xs ys w (qU h1 hx) (qU h2 hy) hl hl2).mono ?_
   rintro e w' ⟨rfl,rfl⟩
   exact ⟨_,_,rfl,rfl,.int _ _,Below.refl _ _⟩
theorem same01_v (xs ys:List Nat) (hx:okL xs) (hy:okL ys) (hl:xs.length≤35184372088832):wT Tryz.prog 96 [vL xs,vL ys] (fun y=>y=.bool (decide (xs=ys))):=by
 intro S w us hus
 cases hus with
 | cons h1 t =>
  cases t with
  | cons h2 t =>
   cases t
   refine (same01_any _ _ _ _ _ _ xs ys w (qU h1 hx) (qU h2 hy) hl).mono ?_
   rintro e w' ⟨rfl,hb⟩
   exact ⟨_,_,rfl,rfl,.bool _,hb⟩
theorem zero01_v (xs:List Nat) (hx:okL xs) (hl:xs.length≤35184372088832):wT Tryz.prog 141 [vL xs] (fun y=>y=.bool (decide (wD xs=0))):=by
 intro S w us hus
 cases hus with
 | cons h1 t =>
  cases t
  refine (zero01_any _ _ _ xs w (qU h1 hx) hl).mono ?_
  rintro e w' ⟨rfl,rfl⟩
  exact ⟨_,_,rfl,rfl,.bool _,Below.refl _ _⟩
theorem len01_v (xs:List Nat) (hx:okL xs) (hl:xs.length≤35184372088832):wT Tryz.prog 143 [vL xs] (fun y=>y=.int .i64 (lenN (wD xs):Nat)):=by
 intro S w us hus
 cases hus with
 | cons h1 t =>
  cases t
  refine (len01_any _ _ _ xs w (qU h1 hx) hl).mono ?_
  rintro e w' ⟨rfl,hb⟩
  exact ⟨_,_,rfl,rfl,.int _ _,hb⟩
theorem of01_v (n:Nat) (hn:n<18446744073709551616):wT Tryz.prog 151 [.int .u64 (n:Nat)] (fun y=>y=vN n):=by
 intro S w us hus
 cases hus with
 | cons h1 t =>
  cases t
  cases h1
  refine (of01_any n w hn).mono ?_
  rintro e w' ⟨r,rfl,hr,hb⟩
  exact ⟨_,_,rfl,rfl,kF hr (Nat.le_refl _) fun b hb _=>.inr hb,hb⟩
theorem half01_v (xs:List Nat) (hx:okL xs) (hl:xs.length≤17592186044416):wT Tryz.prog 276 [vL xs] (fun y=>y=vN (wD xs / 2)) :=
 vc1 hx fun v w h=>half01_any _ _ v xs w h (Nat.le_refl _) hl
end Go.Proofs.YtkjhfnhgefbhhaaGreat
/- qmat.table: rows of integers, told by their places. Told of trees. -/
namespace Go.Proofs.YtkjhfnhgefbhhaaGreat
open Go.RowKit Go.Ev Go.Vl
def qI (z:Bool × List Nat):List V:=[.bool z.1,vL z.2]
def tabF (r c:Nat) (F:Nat→Nat→Bool × List Nat):List (List (Bool × List Nat)):=(List.range r).map fun i=>(List.range c).map fun k=>F i k
def tabV' (t:List (List (Bool × List Nat))):List (List V):=t.map fun r=>[V.list (r.map qI)]
set_option maxRecDepth 20000 in
set_option maxHeartbeats 1600000 in
theorem table_v (r c:Nat) (g:FuncId) (fn:Func) (fs cs:List V) (F:Nat→Nat→Bool × List Nat) (hfn:zH.fns.get g=some fn) (hF:∀ i k,i<r→k<c→wT Tryz.prog g (fs++[.int .i64 (i:Nat),.int .i64 (k:Nat)]++cs) (fun y=>y=.agg (qI (F i k))))
  (hr:r≤1099511627776) (hc:c≤1099511627776):wT Tryz.prog 115 [.int .i64 (r:Nat),.int .i64 (c:Nat),.clo g fs cs] (fun y=>y=.list (tabV' (tabF r c F))):=by
 refine wK wB Tryz.func115 rfl rfl rfl rfl fun w0=>?_
 repeat (first | refine wQ wB rfl rfl rfl rfl ?_ | refine wF wI rfl rfl ?_ | refine wJ ?_ | refine wM ?_ | refine wC ?_)
 refine vw_nilOwn (d:=7) (id:=1) (k:=1) (T:=77) rfl rfl rfl rfl ?_
 refine qF (fun i:Nat=>[(0,some (.sv (.v (.int .i64 (r:Nat))))),(2,some (.sv (.v (.int .i64 (c:Nat))))),(4,some (.sv (.v (.clo g fs cs)))),(14,some (.sv (.own 1 77 1 (tabV' (tabF i c F))))),(22,some (.sv (.v (.int .i64 (r:Nat))))),(24,some (.sv (.v (.int .i64 (i:Nat)))))])
  (fun i=>i≤r) (fun i=>r - i) 0 (fun _=>rfl) (Nat.zero_le _) ⟨rfl,rfl,rfl,⟨_,rfl⟩,rfl,rfl,trivial⟩ fun i hI=>?_
 rcases Nat.lt_or_ge i r with hi | hi
 ·repeat (first | refine wQ wB rfl rfl rfl rfl ?_ | refine wG rfl rfl (wH rfl rfl rfl rfl (decide_eq_true (by omega)) rfl) rfl ?_ | refine wG rfl rfl (z8 (id:=7000) (l:=0) (c:=c) (m:=2) (bb:=32) wB rfl rfl rfl rfl rfl rfl rfl rfl rfl rfl (Nat.zero_le _) rfl (by omega) (by simp only [maxLen]; omega) rfl rfl rfl (es':=[]) rfl) rfl ?_ | refine wF wI rfl rfl ?_ | refine wJ ?_ | refine wM ?_ | refine wC ?_ | refine wO ?_ | refine wN rfl ?_)
  have hq1:∀ j,(List.range j).map (fun k=>qI (F i k))++[qI (F i j)]=(List.range (j+1)).map fun k=>qI (F i k):=fun j=>by rw [List.range_succ]; simp
  refine qF (fun j:Nat=>[(0,some (.sv (.v (.int .i64 (r:Nat))))),(2,some (.sv (.v (.int .i64 (c:Nat))))),(4,some (.sv (.v (.clo g fs cs)))),(14,some (.sv (.own 1 77 1 (tabV' (tabF i c F))))),(16,some (.sv (.v (.int .i64 (i:Nat))))),(18,some (.sv (.own 2 25 2 ((List.range j).map fun k=>qI (F i k))))),(22,some (.sv (.v (.int .i64 (r:Nat))))),(24,some (.sv (.v (.int .i64 (i:Nat))))),(34,some (.sv (.v (.int .i64 (c:Nat))))),(36,some (.sv (.v (.int .i64 (j:Nat)))))])
   (fun j=>j≤c) (fun j=>c - j) 0 (fun _=>rfl) (Nat.zero_le _) ⟨rfl,rfl,rfl,⟨_,rfl⟩,rfl,⟨_,rfl⟩,rfl,rfl,rfl,rfl,trivial⟩ fun j hJ=>?_
  rcases Nat.lt_or_ge j c with hj | hj
  ·have hz:=hF i j hi hj
   have hs:=hq1 j
   have hlen:((List.range j).map fun k=>qI (F i k)).length=j:=by simp
   have row2:∀ e∈[qI (F i j)],e.length=2:=fun e h=>by rw [List.mem_singleton.1 h]; rfl
   repeat (first | refine wQ wB rfl rfl rfl rfl ?_ | refine wG rfl rfl (wH rfl rfl rfl rfl (decide_eq_true (by omega)) rfl) rfl ?_ | refine wG rfl rfl (wX rfl rfl rfl rfl (qC (by omega) (by omega)) rfl) rfl ?_ | refine wE wB rfl rfl rfl rfl rfl rfl hfn rfl hz rfl rfl ?_ | refine kE rfl rfl rfl (qT (id:=7001) (es2:=[qI (F i j)]) (m:=2) (bb:=32) wB rfl rfl rfl rfl rfl rfl rfl rfl rfl rfl rfl row2 rfl (by simp only [maxLen,List.length_singleton]; omega) (by simp only [List.length_singleton]; omega) rfl rfl hs) rfl ?_ | refine wF wI rfl rfl ?_ | refine wJ ?_ | refine wM ?_ | refine wC ?_ | refine wO ?_ | refine wN rfl ?_)
   exact ⟨j+1,hj,by omega,rfl,rfl,rfl,⟨_,rfl⟩,rfl,⟨_,rfl⟩,rfl,rfl,rfl,rfl,trivial⟩
  ·have hje:j=c:=by omega
   subst hje
   have hs:tabV' (tabF i j F)++[[V.list ((List.range j).map fun k=>qI (F i k))]]=tabV' (tabF (i+1) j F):=by
    unfold tabV' tabF
    rw [List.range_succ]
    simp [List.map_map]
   have hlen:(tabV' (tabF i j F)).length=i:=by simp [tabV',tabF]
   have row1:∀ e∈[[V.list ((List.range j).map fun k=>qI (F i k))]],e.length=1:=fun e h=>by rw [List.mem_singleton.1 h]; rfl
   repeat (first | refine wQ wB rfl rfl rfl rfl ?_ | refine wG rfl rfl (wH rfl rfl rfl rfl (decide_eq_false (by omega)) rfl) rfl ?_ | refine wG rfl rfl (wX rfl rfl rfl rfl (qC (by omega) (by omega)) rfl) rfl ?_ | refine kE rfl rfl rfl (qT (id:=7002) (es2:=[[V.list ((List.range j).map fun k=>qI (F i k))]]) (m:=1) (bb:=24) wB rfl rfl rfl rfl rfl rfl rfl rfl rfl rfl rfl row1 rfl (by simp only [maxLen,List.length_singleton]; omega) (by simp only [List.length_singleton]; omega) rfl rfl hs) rfl ?_ | refine rr_vf wB rfl rfl rfl rfl rfl ?_ | refine wF wI rfl rfl ?_ | refine wJ ?_ | refine wC ?_ | refine qA ?_ | refine wL rfl ?_)
   exact ⟨i+1,hi,by omega,rfl,rfl,rfl,⟨_,rfl⟩,rfl,rfl,trivial⟩
 ·have hie:i=r:=by omega
  subst hie
  repeat (first | refine wQ wB rfl rfl rfl rfl ?_ | refine wG rfl rfl (wH rfl rfl rfl rfl (decide_eq_false (by omega)) rfl) rfl ?_ | refine wF wI rfl rfl ?_ | refine wJ ?_ | refine wC ?_ | refine wP ?_ | refine qA ?_ | refine wL rfl ?_)
  exact ⟨.inl rfl,_,rfl,rfl⟩
end Go.Proofs.YtkjhfnhgefbhhaaGreat
/- simileref03.Copy, CopyAll, Same, SameAll, simileref11.Copy, Same: told of trees. -/
namespace Go.Proofs.YtkjhfnhgefbhhaaGreat
open Go.RowKit Go.Ev Go.Vl
abbrev Z0:=Bool × List Nat
abbrev M0:=Z0 × List (List Z0)
def tV (t:List (List Z0)):V:=.list (tabV' t)
def mV (m:M0):V:=.agg [.bool m.1.1,vL m.1.2,tV m.2]
theorem zc_len (zs:List Z0):(zs.map qI).length=zs.length:=List.length_map ..
theorem zc_at (zs:List Z0) (j:Nat) (z:Z0) (h:zs[j]? = some z):(zs.map qI)[j]? = some (qI z):=by rw [List.getElem?_map,h]; rfl
theorem zY (t:List (List Z0)):(tabV' t).length=t.length:=List.length_map ..
theorem tv_at (t:List (List Z0)) (j:Nat) (r:List Z0) (h:t[j]? = some r):(tabV' t)[j]? = some [V.list (r.map qI)]:=by unfold tabV'; rw [List.getElem?_map,h]; rfl
set_option maxRecDepth 20000 in
set_option maxHeartbeats 1600000 in
theorem copy3_v (z:Z0) (h:z.2.length≤1099511627776):wT Tryz.prog 48 [.agg (qI z)] (fun y=>y=.agg (qI z)):=by
 refine wK wB Tryz.func48 rfl rfl rfl rfl fun w0=>?_
 obtain ⟨b,l⟩:=z
 dsimp only at h
 have hl:=qQ l
 repeat (first | refine wQ wB rfl rfl rfl rfl ?_ | refine kE rfl rfl rfl (qT (id:=7001) (es2:=uL l) (m:=1) (bb:=4) wB rfl rfl rfl rfl rfl rfl rfl rfl rfl rfl rfl (uL_one l) rfl (by show 0+(uL l).length≤maxLen; simp only [maxLen]; omega) (by show (0+(uL l).length)*4≤140737488355328; omega) rfl rfl rfl) rfl ?_ | refine rr_vf wB rfl rfl rfl rfl rfl ?_ | refine wF wI rfl rfl ?_ | refine wJ ?_ | refine wC ?_ | refine wP ?_)
 exact ⟨.inl rfl,_,rfl,rfl⟩
theorem set_step {α:Type} (xs:List α) (z:α) (j:Nat) (x:α) (h:xs[j]? = some x):(xs.take j++List.replicate (xs.length - j) z).set j x=xs.take (j+1)++List.replicate (xs.length - (j+1)) z:=by
 have hj:=(List.getElem?_eq_some_iff.1 h).1
 apply List.ext_getElem?
 intro i
 by_cases hij:j=i
 ·subst hij
  rw [List.getElem?_set_self (by simp; omega),List.getElem?_append_left (by simp; omega),List.getElem?_take,if_pos (by omega),h]
 ·rw [List.getElem?_set_ne hij]
  by_cases hlt:i<j
  ·rw [List.getElem?_append_left (by simp; omega),List.getElem?_append_left (by simp; omega),List.getElem?_take,List.getElem?_take,if_pos hlt,if_pos (by omega)]
  ·rw [List.getElem?_append_right (by simp; omega),List.getElem?_append_right (by simp; omega)]
   simp only [List.length_take,List.getElem?_replicate]
   rw [Nat.min_eq_left (by omega),Nat.min_eq_left (by omega)]
   by_cases h3:i - j<xs.length - j
   ·rw [if_pos h3,if_pos (by omega)]
   ·rw [if_neg h3,if_neg (by omega)]
set_option maxRecDepth 20000 in
set_option maxHeartbeats 1600000 in
theorem copyAll3_v (zs:List Z0) (h:∀ z∈zs,z.2.length≤1099511627776) (hl:zs.length≤1099511627776):wT Tryz.prog 49 [.list (zs.map qI)] (fun y=>y=.list (zs.map qI)):=by
 refine wK wB Tryz.func49 rfl rfl rfl rfl fun w0=>?_
 have hrep:List.replicate zs.length [V.bool false,V.list []]=(((zs.map qI).take 0)++List.replicate ((zs.map qI).length - 0) [V.bool false,V.list []]):=by rw [zc_len]; simp
 repeat (first | refine wG rfl rfl (wR wB rfl rfl rfl rfl rfl rfl (zc_len _) rfl) rfl ?_ | refine wQ wB rfl rfl rfl rfl ?_ | refine wG rfl rfl (z8 (id:=7000) (l:=zs.length) (c:=zs.length) (m:=2) (bb:=32) wB rfl rfl rfl rfl rfl rfl rfl rfl rfl rfl (Nat.le_refl _) rfl (by omega) (by simp only [maxLen]; omega) rfl rfl rfl hrep) rfl ?_ | refine wF wI rfl rfl ?_ | refine wJ ?_ | refine wM ?_ | refine wC ?_)
 refine qF (fun j:Nat=>[(0,some (.sv (.v (.list (zs.map qI))))),(6,some (.sv (.own 1 25 2 ((zs.map qI).take j++List.replicate ((zs.map qI).length - j) [V.bool false,V.list []])))),(18,some (.sv (.v (.list (zs.map qI))))),(20,some (.sv (.v (.int .i64 (zs.length:Nat))))),(22,some (.sv (.v (.int .i64 (j:Nat)))))])
  (fun j=>j≤zs.length) (fun j=>zs.length - j) 0 (fun _=>rfl) (Nat.zero_le _) ⟨rfl,⟨_,rfl⟩,rfl,rfl,rfl,trivial⟩ fun j hJ=>?_
 rcases Nat.lt_or_ge j zs.length with hj | hj
 ·obtain ⟨z,hz⟩:∃ z,zs[j]? = some z:=⟨_,List.getElem?_eq_getElem hj⟩
  have hg:=zc_at zs j z hz
  have q1:=copy3_v z (h z (List.mem_of_getElem? hz))
  have hset:=set_step (zs.map qI) [V.bool false,V.list []] j (qI z) hg
  have hown:((zs.map qI).take j++List.replicate ((zs.map qI).length - j) [V.bool false,V.list []])[j]? = some [V.bool false,V.list []]:=by
   rw [List.getElem?_append_right (by rw [List.length_take]; omega),List.getElem?_replicate,if_pos (by rw [List.length_take,zc_len]; omega)]
  have hlen:j<((zs.map qI).take j++List.replicate ((zs.map qI).length - j) [V.bool false,V.list []]).length:=by rw [List.length_append,List.length_take,List.length_replicate,zc_len]; omega
  generalize (zs.map qI).take j++List.replicate ((zs.map qI).length - j) [V.bool false,V.list []]=row at *
  obtain ⟨b,l⟩:=z
  repeat (first | refine wQ wB rfl rfl rfl rfl ?_ | refine wG rfl rfl (wU wB rfl rfl rfl (i:=j) rfl rfl rfl hg rfl rfl) rfl ?_ | refine wE wB rfl rfl rfl rfl rfl rfl rfl rfl (q1) rfl rfl ?_ | refine wG rfl rfl (qY (i:=j) wB rfl rfl rfl rfl rfl rfl hlen rfl rfl rfl) rfl ?_ | refine wG rfl rfl (zD wB rfl rfl rfl hown rfl rfl rfl rfl (Nat.le_refl _) rfl hset) rfl ?_ | refine wG rfl rfl (wH rfl rfl rfl rfl (decide_eq_true (by omega)) rfl) rfl ?_ | refine wG rfl rfl (wX rfl rfl rfl rfl (qC (by omega) (by omega)) rfl) rfl ?_ | refine wF wI rfl rfl ?_ | refine wJ ?_ | refine wM ?_ | refine wC ?_ | refine wO ?_ | refine wN rfl ?_)
  exact ⟨j+1,hj,by omega,rfl,⟨_,rfl⟩,rfl,rfl,rfl,trivial⟩
 ·have hje:j=zs.length:=by omega
  subst hje
  repeat (first | refine wQ wB rfl rfl rfl rfl ?_ | refine wG rfl rfl (wH rfl rfl rfl rfl (decide_eq_false (by omega)) rfl) rfl ?_ | refine wF wI rfl rfl ?_ | refine wJ ?_ | refine wC ?_ | refine wP ?_ | refine qA ?_ | refine wL rfl ?_)
  refine ⟨.inl rfl,_,rfl,?_⟩
  rw [← zc_len zs,List.take_length,Nat.sub_self]
  simp
set_option maxRecDepth 20000 in
set_option maxHeartbeats 1600000 in
theorem same3_v (z z':Z0) (h:okL z.2) (h':okL z'.2) (hl:z.2.length≤1099511627776):wT Tryz.prog 52 [.agg (qI z),.agg (qI z')] (fun y=>y=.bool (decide (z=z'))):=by
 refine wK wB Tryz.func52 rfl rfl rfl rfl fun w0=>?_
 have q1:=same01_v z.2 z'.2 h h' (Nat.le_trans hl (by decide))
 obtain ⟨b,l⟩:=z
 obtain ⟨b',l'⟩:=z'
 have e1:∀ c:Bool,decide ((c,l)=(c,l'))=decide (l=l'):=fun c=>by simp
 cases b <;> cases b'
 ·rw [e1]
  repeat (first | refine wQ wB rfl rfl rfl rfl ?_ | refine wG rfl rfl (zZ wB rfl rfl rfl rfl (.inl ⟨rfl,rfl⟩) rfl) rfl ?_ | refine wE wB rfl rfl rfl rfl rfl rfl rfl rfl (q1) rfl rfl ?_ | refine wF wI rfl rfl ?_ | refine wJ ?_ | refine wC ?_ | refine wP ?_)
  exact ⟨.inl rfl,_,rfl,rfl⟩
 ·repeat (first | refine wQ wB rfl rfl rfl rfl ?_ | refine wG rfl rfl (zZ wB rfl rfl rfl rfl (.inl ⟨rfl,rfl⟩) rfl) rfl ?_ | refine rr_no rfl rfl rfl rfl rfl rfl ?_ | refine wF wI rfl rfl ?_ | refine wJ ?_ | refine wC ?_ | refine wP ?_)
  refine ⟨.inl rfl,_,rfl,?_⟩
  simp
 ·repeat (first | refine wQ wB rfl rfl rfl rfl ?_ | refine wG rfl rfl (zZ wB rfl rfl rfl rfl (.inl ⟨rfl,rfl⟩) rfl) rfl ?_ | refine rr_no rfl rfl rfl rfl rfl rfl ?_ | refine wF wI rfl rfl ?_ | refine wJ ?_ | refine wC ?_ | refine wP ?_)
  refine ⟨.inl rfl,_,rfl,?_⟩
  simp
 ·rw [e1]
  repeat (first | refine wQ wB rfl rfl rfl rfl ?_ | refine wG rfl rfl (zZ wB rfl rfl rfl rfl (.inl ⟨rfl,rfl⟩) rfl) rfl ?_ | refine wE wB rfl rfl rfl rfl rfl rfl rfl rfl (q1) rfl rfl ?_ | refine wF wI rfl rfl ?_ | refine wJ ?_ | refine wC ?_ | refine wP ?_)
  exact ⟨.inl rfl,_,rfl,rfl⟩
end Go.Proofs.YtkjhfnhgefbhhaaGreat
/- nat.trim, short: told of trees. -/
namespace Go.Proofs.YtkjhfnhgefbhhaaGreat
open Go.RowKit Go.Ev Go.Vl
theorem uL_snoc (ys:List Nat) (x:Nat):uL (ys++[x])=uL ys++[[V.int .u32 (x:Nat)]]:=by simp [uL]
theorem uL_take (xs:List Nat) (k:Nat):(uL xs).take k=uL (xs.take k):=by simp [uL,List.map_take]
theorem uL_last (ys:List Nat) (x:Nat):(uL (ys++[x]))[ys.length]? = some [V.int .u32 (x:Nat)]:=by
 rw [uL_snoc,← qQ ys]
 simp
set_option maxRecDepth 20000 in
theorem trim_v (xs:List Nat) (hl:xs.length≤140737488355328):wT Tryz.prog 199 [vL xs] (fun y=>y=vL (qS xs)):=by
 refine wK wB Tryz.func199 rfl rfl rfl rfl fun w0=>?_
 repeat (first | refine wQ wB rfl rfl rfl rfl ?_ | refine wF wI rfl rfl ?_ | refine wJ ?_ | refine wM ?_ | refine wC ?_)
 refine qF (fun ys:List Nat=>[(0,some (.sv (.v (vL ys))))]) (fun ys=>ys.length≤xs.length∧qS ys=qS xs) (fun ys=>ys.length) xs (fun _=>rfl) ⟨Nat.le_refl _,rfl⟩ ⟨rfl,trivial⟩ fun ys hI=>?_
 obtain ⟨h1,h2⟩:=hI
 have hu:=qQ ys
 rcases List.eq_nil_or_concat ys with rfl | ⟨zs,x,rfl⟩
 ·repeat (first | refine wG rfl rfl (wR wB rfl rfl rfl rfl rfl rfl (qQ _) rfl) rfl ?_ | refine wQ wB rfl rfl rfl rfl ?_ | refine wG rfl rfl (wH rfl rfl rfl rfl (rfl) rfl) rfl ?_ | refine rr_no rfl rfl rfl rfl rfl rfl ?_ | refine wF wI rfl rfl ?_ | refine wJ ?_ | refine wC ?_ | refine wP ?_ | refine qA ?_ | refine wL rfl ?_)
  refine ⟨.inl rfl,_,rfl,?_⟩
  rw [← h2]
  rfl
 ·simp only [List.concat_eq_append] at *
  have hz:(zs++[x]).length=zs.length+1:=by simp
  by_cases hx:x=0
  ·subst hx
   repeat (first | refine wG rfl rfl (wR wB rfl rfl rfl rfl rfl rfl (qQ _) rfl) rfl ?_ | refine wQ wB rfl rfl rfl rfl ?_ | refine wG rfl rfl (wH rfl rfl rfl rfl (decide_eq_true (by omega)) rfl) rfl ?_ | refine wG rfl rfl (wX rfl rfl rfl rfl (qC (by omega) (by omega)) rfl) rfl ?_ | refine wG rfl rfl (wU wB rfl rfl rfl (i:=zs.length) (by omega) rfl rfl (uL_last zs 0) rfl rfl) rfl ?_ | refine wG rfl rfl (sem_sliceTo wB rfl rfl rfl (h:=zs.length) (by omega) rfl rfl (uL_one _) (by omega) (es':=uL zs) (by rw [uL_take]; simp) rfl) rfl ?_ | refine wF wI rfl rfl ?_ | refine wJ ?_ | refine wM ?_ | refine wC ?_ | refine wO ?_ | refine wN rfl ?_)
   refine ⟨zs,⟨by omega,by rw [← h2,trimL_snoc_zero]⟩,by omega,rfl,trivial⟩
  ·repeat (first | refine wG rfl rfl (wR wB rfl rfl rfl rfl rfl rfl (qQ _) rfl) rfl ?_ | refine wQ wB rfl rfl rfl rfl ?_ | refine wG rfl rfl (wH rfl rfl rfl rfl (decide_eq_true (by omega)) rfl) rfl ?_ | refine wG rfl rfl (wH rfl rfl rfl rfl (decide_eq_false (by omega)) rfl) rfl ?_ | refine wG rfl rfl (wX rfl rfl rfl rfl (qC (by omega) (by omega)) rfl) rfl ?_ | refine wG rfl rfl (wU wB rfl rfl rfl (i:=zs.length) (by omega) rfl rfl (uL_last zs x) rfl rfl) rfl ?_ | refine wF wI rfl rfl ?_ | refine wJ ?_ | refine wC ?_ | refine wP ?_ | refine qA ?_ | refine wL rfl ?_)
   refine ⟨.inl rfl,_,rfl,?_⟩
   rw [← h2,trimL_snoc _ _ hx]
end Go.Proofs.YtkjhfnhgefbhhaaGreat
/- nat.short, told of trees. -/
namespace Go.Proofs.YtkjhfnhgefbhhaaGreat
open Go.RowKit Go.Ev Go.Vl
theorem uL_set (xs:List Nat) (i v:Nat):(uL xs).set i [V.int .u32 (v:Nat)]=uL (xs.set i v):=by simp [uL,List.map_set]
theorem uL_rep (n:Nat):List.replicate n [V.int .u32 0]=uL (List.replicate n 0):=by simp [uL]
theorem short_step (x r d N B:Nat) (hd:0<d) (hr:r=N % d) (hB:0<B):(x+B*N) / d=(r*B+x) / d+B*(N / d)∧(x+B*N) % d=(r*B+x) % d:=by
 have h1:=Nat.div_add_mod N d
 have e:x+B*N=(r*B+x)+d*(B*(N / d)):=by
  have:B*N=B*(d*(N / d))+B*(N % d):=by rw [← Nat.mul_add,h1]
  rw [this,hr,Nat.mul_comm B (N % d),Nat.mul_left_comm B d]
  omega
 rw [e,Nat.add_mul_div_left _ _ hd,Nat.add_mul_mod_self_left]
 exact ⟨rfl,rfl⟩
theorem short_or (r x:Nat) (hx:x<4294967296):(r*2 ^ 32) ||| x=r*4294967296+x:=by
 rw [Nat.mul_comm,← Nat.two_pow_add_eq_or_of_lt (i:=32) hx]
theorem drop_set_getD (out:List Nat) (k v:Nat) (h:k<out.length):wD ((out.set k v).drop k)=v+4294967296*wD (out.drop (k+1)):=by
 rw [qJ]
 have h1:(out.set k v).getD k 0=v:=by simp [List.getD,h]
 have h2:(out.set k v).drop (k+1)=out.drop (k+1):=by rw [List.drop_set_of_lt (by omega)]
 rw [h1,h2]
set_option maxRecDepth 20000 in
set_option maxHeartbeats 1600000 in
theorem short_v (xs:List Nat) (d:Nat) (hx:okL xs) (hl:xs.length≤8796093022208) (hd0:0<d) (hd:d<4294967296):wT Tryz.prog 283 [vL xs,.int .u32 (d:Nat)] (fun y=>y=.tup [vN (wD xs / d),.int .u32 (wD xs % d:Nat)]):=by
 refine wK wB Tryz.func283 rfl rfl rfl rfl fun w0=>?_
 have hu:=qQ xs
 repeat (first | refine wG rfl rfl (wR wB rfl rfl rfl rfl rfl rfl (qQ _) rfl) rfl ?_ | refine wQ wB rfl rfl rfl rfl ?_ | refine wG rfl rfl (wX rfl rfl rfl rfl (qC (by omega) (by omega)) rfl) rfl ?_ | refine wG rfl rfl (z8 (id:=7000) (m:=1) (bb:=4) wB rfl rfl rfl rfl rfl rfl rfl rfl rfl rfl (Nat.le_refl _) rfl (by omega) (by simp only [maxLen]; omega) rfl rfl rfl (uL_rep _)) rfl ?_ | refine wF wI rfl rfl ?_ | refine wJ ?_ | refine wM ?_ | refine wC ?_)
 refine qF (fun b:Nat × Int × List Nat × Nat=>[(0,some (.sv (.v (vL xs)))),(2,some (.sv (.v (.int .u32 (d:Nat))))),(12,some (.sv (.own 1004 180 1 (uL b.2.2.1)))),(14,some (.sv (.v (.int .u64 (b.2.2.2:Nat))))),(16,some (.sv (.v (.int .i64 b.2.1))))])
  (fun b=>b.1≤xs.length∧b.2.1=(b.1:Int) - 1∧b.2.2.1.length=xs.length∧okL b.2.2.1∧wD (xs.drop b.1) / d=wD (b.2.2.1.drop b.1)∧b.2.2.2=wD (xs.drop b.1) % d)
  (fun b=>b.1) (xs.length,(xs.length:Int) - 1,List.replicate xs.length 0,0) (fun _=>rfl) ⟨Nat.le_refl _,rfl,by simp,fun x h=>by rw [(List.mem_replicate.1 h).2]; decide,by simp [List.drop_of_length_le,wD],by simp [wD]⟩ ⟨rfl,rfl,⟨_,rfl⟩,rfl,rfl,trivial⟩ fun ⟨j,i,out,rest⟩ hI=>?_
 obtain ⟨h1,h2,h3,h4,h5,h6⟩:=hI
 dsimp only at h1 h2 h3 h4 h5 h6 ⊢
 have ho:=qQ out
 have hro:rest<d:=by rw [h6]; exact Nat.mod_lt _ hd0
 rcases Nat.eq_zero_or_pos j with rfl | hj
 ·have hc:=own_v out h4 (by omega)
  have hov:Ev.ewrap .u32 (rest:Int)=(rest:Nat):=wr_u32 (by omega) (by omega)
  repeat (first | refine wQ wB rfl rfl rfl rfl ?_ | refine wG rfl rfl (wH rfl rfl rfl rfl (decide_eq_false (by omega)) rfl) rfl ?_ | refine wG rfl rfl (qW wB rfl rfl rfl rfl (wr_u32 (by omega) (by omega)) rfl) rfl ?_ | refine zM wB rfl rfl rfl rfl rfl rfl rfl rfl rfl (own_v out h4 (by omega)) rfl rfl ?_ | refine wF wI rfl rfl ?_ | refine wJ ?_ | refine wC ?_ | refine wP ?_ | refine qA ?_ | refine wL rfl ?_)
  refine ⟨.inl rfl,_,rfl,?_⟩
  simp only [List.drop_zero] at h5 h6
  rw [h5,h6]
 ·obtain ⟨k,rfl⟩:∃ k,j=k+1:=⟨j - 1,by omega⟩
  have hxk:=getD_lt xs hx k
  have hg:=kA xs k (by omega)
  have hog:=kA out k (by omega)
  have hstep:=short_step (xs.getD k 0) rest d (wD (xs.drop (k+1))) 4294967296 hd0 h6 (by decide)
  rw [← qJ] at hstep
  have hset:=uL_set out k
  have hds:=drop_set_getD out k
  generalize hxe:xs.getD k 0=x at *
  have hor:=short_or rest x hxk
  generalize ht:rest*4294967296+x=t at *
  have htl:t<d*4294967296:=by
   have:(rest+1)*4294967296≤d*4294967296:=Nat.mul_le_mul_right _ hro
   omega
  have hq:t / d<4294967296:=Nat.div_lt_of_lt_mul htl
  have hrl:=Nat.mod_lt t hd0
  generalize hqe:t / d=q at *
  generalize hre:t % d=r at *
  repeat (first | refine wQ wB rfl rfl rfl rfl ?_ | refine wG rfl rfl (wH rfl rfl rfl rfl (decide_eq_true (by omega)) rfl) rfl ?_ | refine wG rfl rfl (wX rfl rfl rfl rfl (qC (by omega) (by omega)) rfl) rfl ?_ | refine wG rfl rfl (qW wB rfl rfl rfl rfl (wr_u64 (by omega) (by omega)) rfl) rfl ?_ | refine wG rfl rfl (qW wB rfl rfl rfl rfl (wr_u32 (by omega) (by omega)) rfl) rfl ?_ | refine wG rfl rfl (sem_shlE (s:=32) rfl rfl rfl rfl (by decide) (by rw [ew64,Nat.mod_eq_of_lt (by omega)]) rfl) rfl ?_ | refine wG rfl rfl (wU wB rfl rfl rfl (i:=k) (by omega) rfl rfl hg rfl rfl) rfl ?_ | refine wG rfl rfl (wX rfl rfl rfl rfl (nOr64 hor (by omega) (by omega)) rfl) rfl ?_ | refine wG rfl rfl (sem_quoE rfl rfl rfl (by omega) (nQuo64 hqe (by omega)) rfl) rfl ?_ | refine wG rfl rfl (kC rfl rfl rfl (by omega) (nRem hre) rfl) rfl ?_ | refine wG rfl rfl (qY wB rfl rfl rfl (i:=k) (by omega) rfl rfl (by omega) rfl rfl rfl) rfl ?_ | refine wG rfl rfl (zD wB rfl rfl rfl hog rfl rfl rfl rfl (by decide) rfl (hset _)) rfl ?_ | refine wF wI rfl rfl ?_ | refine wJ ?_ | refine wM ?_ | refine wC ?_ | refine wO ?_ | refine wN rfl ?_)
  refine ⟨(k,_,out.set k q,r),⟨by omega,?_,by simp [h3],set_lt out k _ h4 hq,?_,?_⟩,by omega,rfl,rfl,⟨_,rfl⟩,rfl,rfl,trivial⟩
  ·dsimp only; omega
  ·rw [hds _ (by omega),hstep.1,h5]
  ·exact hstep.2.symm
end Go.Proofs.YtkjhfnhgefbhhaaGreat
/- nat.left, told of trees. -/
namespace Go.Proofs.YtkjhfnhgefbhhaaGreat
open Go.RowKit Go.Ev Go.Vl
theorem row1 (v:V):∀ e∈[[v]],e.length=1:=by simp
def zA:List Nat→Nat→Nat→List Nat
 | [],_,c=>if c=0 then [] else [c]
 | x :: xs,s,c=>(x*2 ^ s % 4294967296+c) :: zA xs s (x*2 ^ s / 4294967296)
theorem leftG_nat (xs:List Nat) (s c:Nat) (hs:s<32):wD (zA xs s c)=wD xs*2 ^ s+c:=by
 induction xs generalizing c with
 | nil=>unfold zA; split <;> simp_all [wD]
 | cons x xs ih =>
  simp only [zA,wD,ih]
  have:=Nat.div_add_mod (x*2 ^ s) 4294967296
  rw [Nat.add_mul,Nat.mul_assoc 4294967296,Nat.mul_add]
  omega
theorem leftG_ok (xs:List Nat) (s c:Nat) (hs:s<32) (hx:okL xs) (hc:c<2 ^ s):okL (zA xs s c):=by
 have hp:2 ^ s≤2 ^ 31:=Nat.pow_le_pow_right (by decide) (by omega)
 induction xs generalizing c with
 | nil =>
  unfold zA
  split
  ·intro x h; simp at h
  ·intro x h; simp at h; omega
 | cons x xs ih =>
  have h3:=left_step 0 0 c 0 x s (by simp) hc hs
  intro y hy
  simp only [zA,List.mem_cons] at hy
  rcases hy with rfl | hy
  ·exact h3.2.1
  ·exact ih _ (fun z hz=>hx z (List.mem_cons_of_mem _ hz)) (h3.2.2 (hx x (List.mem_cons_self ..))) y hy
theorem leftG_len (xs:List Nat) (s c:Nat):xs.length≤(zA xs s c).length∧(zA xs s c).length≤xs.length+1:=by
 induction xs generalizing c with
 | nil=>unfold zA; split <;> simp
 | cons x xs ih=>simp only [zA,List.length_cons]; have:=ih (x*2 ^ s / 4294967296); omega
set_option maxRecDepth 20000 in
set_option maxHeartbeats 1600000 in
theorem left_v (xs:List Nat) (s:Nat) (hx:okL xs) (hl:xs.length≤8796093022208) (hs:s<32):VCallsO Tryz.prog 302 [vL xs,.int .i64 (s:Nat)] 180 1 (uL (zA (qS xs) s 0)):=by
 refine vcallsO_enter (t:=4) Tryz.func302 rfl rfl rfl rfl fun w0=>?_
 have hq:Ev.ewrap .i64 ((s:Int).tdiv 32)=0:=by
  have:(s:Int).tdiv 32=0:=by rw [Int.tdiv_eq_ediv_of_nonneg (by omega)]; omega
  rw [this]; rfl
 have hr:(s:Int).tmod 32=(s:Nat):=by rw [Int.tmod_eq_emod_of_nonneg (by omega)]; omega
 have htl:=zV xs
 repeat (first | refine wG rfl rfl (wR wB rfl rfl rfl rfl rfl rfl (qQ _) rfl) rfl ?_ | refine wQ wB rfl rfl rfl rfl ?_ | refine wG rfl rfl (wX rfl rfl rfl rfl (qC (by omega) (by omega)) rfl) rfl ?_ | refine wE wB rfl rfl rfl rfl rfl rfl rfl rfl (trim_v xs (by omega)) rfl rfl ?_ | refine wG rfl rfl (sem_quoE rfl rfl rfl (by decide) hq rfl) rfl ?_ | refine wG rfl rfl (z8 (id:=7000) (m:=1) (bb:=4) (l:=0) (c:=(qS xs).length+3) wB rfl rfl rfl rfl (by omega) rfl rfl rfl rfl rfl (by omega) rfl (by omega) (by simp only [maxLen]; omega) rfl rfl rfl (es':=uL []) rfl) rfl ?_ | refine wF wI rfl rfl ?_ | refine wJ ?_ | refine wM ?_ | refine wC ?_)
 refine qF (fun b:Nat × List Nat × Nat=>[(0,some (.sv (.v (vL (qS xs))))),(2,some (.sv (.v (.int .i64 (s:Nat))))),(10,some (.sv (.own 2011 180 1 (uL b.2.1)))),(12,some (.sv (.v (.int .u32 (b.2.2:Nat))))),(40,some (.sv (.v (vL (qS xs))))),(42,some (.sv (.v (.int .i64 ((qS xs).length:Nat))))),(44,some (.sv (.v (.int .i64 (b.1:Nat)))))])
  (fun b=>b.1≤(qS xs).length∧b.2.1.length=b.1∧b.2.2<2 ^ s∧zA (qS xs) s 0=b.2.1++zA ((qS xs).drop b.1) s b.2.2)
  (fun b=>(qS xs).length - b.1) (0,[],0) (fun _=>rfl) ⟨Nat.zero_le _,rfl,Nat.pow_pos (by decide),by simp⟩ ⟨rfl,rfl,⟨_,rfl⟩,rfl,rfl,rfl,rfl,trivial⟩ fun ⟨j,out,c⟩ hI=>?_
 obtain ⟨h1,h2,h3,h4⟩:=hI
 dsimp only at h1 h2 h3 h4 ⊢
 have ho:=qQ out
 have hp:2 ^ s≤2147483648:=(Nat.pow_le_pow_right (by decide) (show s≤31 by omega):2 ^ s≤2 ^ 31)
 rcases Nat.lt_or_ge j (qS xs).length with hj | hj
 ·have hxk:=getD_lt (qS xs) (fun x h=>hx x (trimL_mem xs x h)) j
  have hg:=kA (qS xs) j hj
  have hstep:=left_step 0 0 c 0 ((qS xs).getD j 0) s (by simp) h3 hs
  have hor:=or_low ((qS xs).getD j 0) s c hs h3
  have hd:(qS xs).drop j=(qS xs).getD j 0 :: (qS xs).drop (j+1):=by
   rw [List.drop_eq_getElem_cons hj]
   simp [List.getD,hj]
  rw [hd] at h4
  simp only [zA] at h4
  generalize (qS xs).getD j 0=x at *
  have hm:x*2 ^ s≤x*2147483648:=Nat.mul_le_mul_left _ hp
  have hl3:=hstep.2.2 hxk
  obtain ⟨pr,hpe⟩:∃ pr,x*2 ^ s=pr:=⟨_,rfl⟩
  rw [hpe] at hm hl3 hor h4
  have hor2:ewrap .u32 ((BitVec.ofInt IntKind.u32.bits ((pr % 4294967296:Nat):Int) ||| BitVec.ofInt IntKind.u32.bits (c:Int)).toNat:Int)=((pr % 4294967296+c:Nat):Int):=nOr32 hor (by omega) (by omega)
  have hsn:=uL_snoc out (pr % 4294967296+c)
  have hqd:pr / 2 ^ 32=pr / 4294967296:=rfl
  have h32:ewrap .u32 ((pr / 4294967296:Nat):Int)=((pr / 4294967296:Nat):Int):=wr_u32 (by omega) (by omega)
  repeat (first | refine wQ wB rfl rfl rfl rfl ?_ | refine wG rfl rfl (wH rfl rfl rfl rfl (decide_eq_true (by omega)) rfl) rfl ?_ | refine wG rfl rfl (wX rfl rfl rfl rfl (qC (by omega) (by omega)) rfl) rfl ?_ | refine wG rfl rfl (qW wB rfl rfl rfl rfl (wr_u64 (by omega) (by omega)) rfl) rfl ?_ | refine wG rfl rfl (qW wB rfl rfl rfl rfl (wr_u32 (by omega) (by omega)) rfl) rfl ?_ | refine wG rfl rfl (wU wB rfl rfl rfl (i:=j) (by omega) rfl rfl hg rfl rfl) rfl ?_ | refine wG rfl rfl (kC rfl rfl rfl (by decide) hr rfl) rfl ?_ | refine wG rfl rfl (sem_shlE (s:=s) (r:=pr % 4294967296) rfl rfl rfl rfl (by simp only [IntKind.bits]; omega) (by rw [hpe,ew32]) rfl) rfl ?_ | refine wG rfl rfl (sem_shlE (s:=s) (r:=pr) rfl rfl rfl rfl (by simp only [IntKind.bits]; omega) (by rw [hpe,ew64,Nat.mod_eq_of_lt (by omega)]) rfl) rfl ?_ | refine wG rfl rfl (wX rfl rfl rfl rfl hor2 rfl) rfl ?_ | refine wG rfl rfl (sem_shrE (s:=32) rfl rfl rfl rfl (by decide) hqd rfl) rfl ?_ | refine kE rfl rfl rfl (qT (id:=7001) (es2:=[[_]]) (m:=1) (bb:=4) wB rfl rfl rfl rfl rfl rfl rfl rfl rfl rfl rfl (row1 _) rfl (by simp only [maxLen]; simp; omega) (by simp; omega) rfl rfl hsn.symm) rfl ?_ | refine wF wI rfl rfl ?_ | refine wJ ?_ | refine wM ?_ | refine wC ?_ | refine wO ?_ | refine wN rfl ?_)
  refine ⟨(j+1,out++[pr % 4294967296+c],pr / 4294967296),⟨hj,by simp [h2],hl3,by rw [h4]; simp⟩,by dsimp only; omega,rfl,rfl,⟨_,rfl⟩,rfl,rfl,rfl,rfl,trivial⟩
 ·have hd:(qS xs).drop j=[]:=List.drop_of_length_le hj
  rw [hd] at h4
  have hcb:c<2147483648:=by omega
  rcases Nat.eq_zero_or_pos c with rfl | hc
  ·simp only [zA,if_true,List.append_nil] at h4
   repeat (first | refine wQ wB rfl rfl rfl rfl ?_ | refine wG rfl rfl (wH rfl rfl rfl rfl (decide_eq_false (by omega)) rfl) rfl ?_ | refine wG rfl rfl (wH rfl rfl rfl rfl (ndF (by omega)) rfl) rfl ?_ | refine wF wI rfl rfl ?_ | refine wJ ?_ | refine wC ?_ | refine wP ?_ | refine qA ?_ | refine wO ?_ | refine wL rfl ?_)
   exact ⟨.inl rfl,5,_,by rw [h4]; rfl⟩
  ·have hc0:c≠0:=by omega
   simp only [zA,if_neg hc0] at h4
   have hsn:=uL_snoc out c
   repeat (first | refine wQ wB rfl rfl rfl rfl ?_ | refine wG rfl rfl (wH rfl rfl rfl rfl (decide_eq_false (by omega)) rfl) rfl ?_ | refine wG rfl rfl (wH rfl rfl rfl rfl (ndT (by omega)) rfl) rfl ?_ | refine kE rfl rfl rfl (qT (id:=7001) (es2:=[[_]]) (m:=1) (bb:=4) wB rfl rfl rfl rfl rfl rfl rfl rfl rfl rfl rfl (row1 _) rfl (by simp only [maxLen]; simp; omega) (by simp; omega) rfl rfl hsn.symm) rfl ?_ | refine wF wI rfl rfl ?_ | refine wJ ?_ | refine wC ?_ | refine wP ?_ | refine qA ?_ | refine wN rfl ?_ | refine wL rfl ?_)
   exact ⟨.inl rfl,5,_,by rw [h4]; rfl⟩
end Go.Proofs.YtkjhfnhgefbhhaaGreat
/- nat.Right, told of trees. -/
namespace Go.Proofs.YtkjhfnhgefbhhaaGreat
open Go.RowKit Go.Ev Go.Vl
set_option maxRecDepth 20000 in
set_option maxHeartbeats 1600000 in
theorem right_v (xs:List Nat) (s:Nat) (hx:okL xs) (hl:xs.length≤8796093022208) (hs:s<32):wT Tryz.prog 303 [vL xs,.int .i64 (s:Nat)] (fun y=>y=.tup [vN (wD xs / 2 ^ s),.int .i64 0]):=by
 refine wK wB Tryz.func303 rfl rfl rfl rfl fun w0=>?_
 have hq:Ev.ewrap .i64 ((s:Int).tdiv 32)=0:=by
  have:(s:Int).tdiv 32=0:=by rw [Int.tdiv_eq_ediv_of_nonneg (by omega)]; omega
  rw [this]; rfl
 have hr:(s:Int).tmod 32=(s:Nat):=by rw [Int.tmod_eq_emod_of_nonneg (by omega)]; omega
 have htl:=zV xs
 have htn:wD (qS xs)=wD xs:=by rw [zB xs hx,wY]
 have hy:okL (qS xs):=fun x h=>hx x (trimL_mem xs x h)
 rw [← htn]
 have htr:=trim_v xs (by omega)
 generalize qS xs=ys at *
 have hyl:=qQ ys
 rcases Nat.eq_zero_or_pos ys.length with h0 | hp
 ·obtain rfl:=List.eq_nil_of_length_eq_zero h0
  repeat (first | refine wG rfl rfl (wR wB rfl rfl rfl rfl rfl rfl (qQ _) rfl) rfl ?_ | refine wQ wB rfl rfl rfl rfl ?_ | refine wG rfl rfl (wH rfl rfl rfl rfl (decide_eq_true (by omega)) rfl) rfl ?_ | refine wG rfl rfl (wH rfl rfl rfl rfl (decide_eq_false (by omega)) rfl) rfl ?_ | refine wE wB rfl rfl rfl rfl rfl rfl rfl rfl (htr) rfl rfl ?_ | refine wG rfl rfl (sem_quoE rfl rfl rfl (by decide) hq rfl) rfl ?_ | refine wF wI rfl rfl ?_ | refine wJ ?_ | refine wC ?_ | refine wP ?_ | refine wO ?_ | refine wN rfl ?_ | refine wL rfl ?_)
  refine ⟨.inl rfl,_,rfl,?_⟩
  simp [wD,vN,toL,vL,uL]
 ·have hdr:(uL ys).drop 0=uL ys:=rfl
  repeat (first | refine wG rfl rfl (wR wB rfl rfl rfl rfl rfl rfl (qQ _) rfl) rfl ?_ | refine wQ wB rfl rfl rfl rfl ?_ | refine wG rfl rfl (wH rfl rfl rfl rfl (decide_eq_false (by omega)) rfl) rfl ?_ | refine wE wB rfl rfl rfl rfl rfl rfl rfl rfl (htr) rfl rfl ?_ | refine wG rfl rfl (sem_quoE rfl rfl rfl (by decide) hq rfl) rfl ?_ | refine wG rfl rfl (sem_sliceFrom wB rfl rfl rfl (l:=0) rfl rfl rfl (uL_one _) (by omega) hdr rfl) rfl ?_ | refine wG rfl rfl (z8 (id:=7000) (m:=1) (bb:=4) wB rfl rfl rfl rfl rfl rfl rfl rfl rfl rfl (Nat.le_refl _) rfl (by omega) (by simp only [maxLen]; omega) rfl rfl rfl (uL_rep _)) rfl ?_ | refine wF wI rfl rfl ?_ | refine wJ ?_ | refine wM ?_ | refine wC ?_ | refine wO ?_ | refine wL rfl ?_)
  refine qF (fun b:Nat × List Nat=>[(0,some (.sv (.v (vL ys)))),(2,some (.sv (.v (.int .i64 (s:Nat))))),(12,some (.sv (.own 0 180 1 (uL b.2)))),(52,some (.sv (.v (vL ys)))),(54,some (.sv (.v (.int .i64 (ys.length:Nat))))),(56,some (.sv (.v (.int .i64 (b.1:Nat)))))])
   (fun b=>b.1≤ys.length∧b.2.length=ys.length∧okL b.2∧wD (b.2.take b.1)=wD ys / 2 ^ s % 4294967296 ^ b.1)
   (fun b=>ys.length - b.1) (0,List.replicate ys.length 0) (fun _=>rfl) ⟨Nat.zero_le _,by simp,fun x h=>by rw [(List.mem_replicate.1 h).2]; decide,by simp [wD,Nat.mod_one]⟩ ⟨rfl,rfl,⟨_,rfl⟩,rfl,rfl,rfl,trivial⟩ fun ⟨j,out⟩ hI=>?_
  obtain ⟨h1,h2,h3,h4⟩:=hI
  dsimp only at h1 h2 h3 h4 ⊢
  have ho:=qQ out
  rcases Nat.lt_or_ge j ys.length with hj | hj
  ·have hxk:=getD_lt ys hy j
   have hxk2:=getD_lt ys hy (j+1)
   have hg:=kA ys j hj
   have hog:=kA out j (by omega)
   have hset:=uL_set out j
   have hdg:=digit_right ys j s (by omega) hy
   have hor:=short_or (ys.getD (j+1) 0) (ys.getD j 0) hxk
   have h1v:ys.length≤j+1→ys.getD (j+1) 0=0:=fun h=>by simp [List.getD,h]
   have hg2:=fun h=>kA ys (j+1) h
   generalize ys.getD j 0=x at *
   generalize ys.getD (j+1) 0=y at *
   rw [Nat.or_comm] at hor
   rw [Nat.add_comm x,Nat.mul_comm 4294967296 y] at hdg
   obtain ⟨t,ht⟩:∃ t,y*4294967296+x=t:=⟨_,rfl⟩
   rw [ht] at hor hdg
   obtain ⟨q,hqe⟩:∃ q,t / 2 ^ s=q:=⟨_,rfl⟩
   rw [hqe] at hdg
   have hql:q≤t:=by rw [← hqe]; exact Nat.div_le_self _ _
   have hset2:=set_val out ys.length j (q % 4294967296) h2 hj
   have hse:=right_step (wD ys / 2 ^ s) (4294967296 ^ j) _ hdg
   have hsv:∀ Y,wD (Y:List Nat)=wD (out.take j)+4294967296 ^ j*(q % 4294967296)→wD Y=wD ys / 2 ^ s % 4294967296 ^ (j+1):=fun Y h=>by rw [h,h4,Nat.pow_succ,hse]
   rcases Nat.lt_or_ge (j+1) ys.length with hj1 | hj1
   ·have hg3:=hg2 hj1
    repeat (first | refine wG rfl rfl (wR wB rfl rfl rfl rfl rfl rfl (qQ _) rfl) rfl ?_ | refine wQ wB rfl rfl rfl rfl ?_ | refine wG rfl rfl (wH rfl rfl rfl rfl (decide_eq_true (by omega)) rfl) rfl ?_ | refine wG rfl rfl (wX rfl rfl rfl rfl (qC (by omega) (by omega)) rfl) rfl ?_ | refine wG rfl rfl (qW wB rfl rfl rfl rfl (wr_u64 (by omega) (by omega)) rfl) rfl ?_ | refine wG rfl rfl (wU wB rfl rfl rfl (i:=j) rfl rfl rfl hg rfl rfl) rfl ?_ | refine wG rfl rfl (wU wB rfl rfl rfl (i:=j+1) (by omega) rfl rfl hg3 rfl rfl) rfl ?_ | refine wG rfl rfl (kC rfl rfl rfl (by decide) hr rfl) rfl ?_ | refine wG rfl rfl (sem_shlE (s:=32) rfl rfl rfl rfl (by decide) (by rw [ew64,Nat.mod_eq_of_lt (by omega)]) rfl) rfl ?_ | refine wG rfl rfl (wX rfl rfl rfl rfl (nOr64 hor (by omega) (by omega)) rfl) rfl ?_ | refine wG rfl rfl (sem_shrE (s:=s) rfl rfl rfl rfl (by simp only [IntKind.bits]; omega) hqe rfl) rfl ?_ | refine wG rfl rfl (qW wB rfl rfl rfl rfl (ew32 q) rfl) rfl ?_ | refine wG rfl rfl (qY wB rfl rfl rfl (i:=j) rfl rfl rfl (by omega) rfl rfl rfl) rfl ?_ | refine wG rfl rfl (zD wB rfl rfl rfl hog rfl rfl rfl rfl (by decide) rfl (hset _)) rfl ?_ | refine wF wI rfl rfl ?_ | refine wJ ?_ | refine wM ?_ | refine wC ?_ | refine wO ?_ | refine wN rfl ?_)
    exact ⟨(j+1,out.set j (q % 4294967296)),⟨hj,by simp [h2],set_lt out j _ h3 (Nat.mod_lt _ (by decide)),hsv _ hset2⟩,by dsimp only; omega,rfl,rfl,⟨_,rfl⟩,rfl,rfl,rfl,trivial⟩
   ·have hy0:=h1v hj1
    subst hy0
    have hxt:x=t:=by omega
    subst hxt
    have hqm:q % 4294967296=q:=Nat.mod_eq_of_lt (by omega)
    rw [hqm] at hsv hset2
    repeat (first | refine wG rfl rfl (wR wB rfl rfl rfl rfl rfl rfl (qQ _) rfl) rfl ?_ | refine wQ wB rfl rfl rfl rfl ?_ | refine wG rfl rfl (wH rfl rfl rfl rfl (decide_eq_true (by omega)) rfl) rfl ?_ | refine wG rfl rfl (wH rfl rfl rfl rfl (decide_eq_false (by omega)) rfl) rfl ?_ | refine wG rfl rfl (wX rfl rfl rfl rfl (qC (by omega) (by omega)) rfl) rfl ?_ | refine wG rfl rfl (qW wB rfl rfl rfl rfl (wr_u64 (by omega) (by omega)) rfl) rfl ?_ | refine wG rfl rfl (qW wB rfl rfl rfl rfl (wr_u32 (by omega) (by omega)) rfl) rfl ?_ | refine wG rfl rfl (wU wB rfl rfl rfl (i:=j) rfl rfl rfl hg rfl rfl) rfl ?_ | refine wG rfl rfl (kC rfl rfl rfl (by decide) hr rfl) rfl ?_ | refine wG rfl rfl (sem_shrE (s:=s) rfl rfl rfl rfl (by simp only [IntKind.bits]; omega) hqe rfl) rfl ?_ | refine wG rfl rfl (qY wB rfl rfl rfl (i:=j) rfl rfl rfl (by omega) rfl rfl rfl) rfl ?_ | refine wG rfl rfl (zD wB rfl rfl rfl hog rfl rfl rfl rfl (by decide) rfl (hset _)) rfl ?_ | refine wF wI rfl rfl ?_ | refine wJ ?_ | refine wM ?_ | refine wC ?_ | refine wO ?_ | refine wN rfl ?_ | refine wL rfl ?_)
    exact ⟨(j+1,out.set j q),⟨hj,by simp [h2],set_lt out j _ h3 (by omega),hsv _ hset2⟩,by dsimp only; omega,rfl,rfl,⟨_,rfl⟩,rfl,rfl,rfl,trivial⟩
  ·repeat (first | refine wQ wB rfl rfl rfl rfl ?_ | refine wG rfl rfl (wH rfl rfl rfl rfl (decide_eq_false (by omega)) rfl) rfl ?_ | refine zM wB rfl rfl rfl rfl rfl rfl rfl rfl rfl (own_v out h3 (by omega)) rfl rfl ?_ | refine wF wI rfl rfl ?_ | refine wJ ?_ | refine wC ?_ | refine wP ?_ | refine qA ?_ | refine wL rfl ?_)
   refine ⟨.inl rfl,_,rfl,?_⟩
   have hje:j=ys.length:=by omega
   subst hje
   rw [right_all ys s hy,List.take_of_length_le (by omega)] at h4
   rw [h4]
end Go.Proofs.YtkjhfnhgefbhhaaGreat
