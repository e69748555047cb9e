/- Limbs and the numbers that they make. Plain; no condition. -/
import Derived.Test.YtkjhfnhgefbhhaaGreatCf08
import Derived.BigQuiet
import Derived.Deep.QuietTactic
import Derived.Deep.DeepCutAuto
set_option linter.all false
set_option maxRecDepth 20000
set_option maxHeartbeats 6400000
namespace Go.Proofs.YtkjhfnhgefbhhaaGreat
open Go.RowKit
theorem wN9 (xs ys:List Nat):wB (xs++ys)=wB xs+4294967296 ^ xs.length*wB ys:=by
 induction xs with
 | nil=>simp [wB]
 | cons x xs ih=>simp only [List.cons_append,wB,ih,List.length_cons,Nat.pow_succ]; rw [mD,cB]; congr 2; rw [mL (_ ^ _) 4294967296,mJ]
theorem qD (xs:List Nat) (i:Nat):wB (xs.take (i+1))=wB (xs.take i)+4294967296 ^ i*xs.getD i 0:=by
 by_cases h:i<xs.length
 ·rw [vK xs 0 i h,wC1,pM,cM (by omega)]
 ·rw [pN (by omega),pN (by omega),wC8 xs i (by omega)]; simp
theorem zN (xs:List Nat) (i:Nat) (h:xs.length≤i):wB (xs.take i)=wB xs:=by rw [pN h]
theorem getD_lt (xs:List Nat) (h:∀ x,x∈xs→x<4294967296) (i:Nat):xs.getD i 0<4294967296:=by
 by_cases hi:i<xs.length
 ·exact h _ (qH8 xs i hi)
 ·rw [wC8 xs i (by omega)]; decide
theorem wLG (P a b c s A Bv x y z:Nat) (h:A+P*c=Bv) (hs:x+y+c=s) (hz:z=s / 4294967296) (ha:a=A+P*(s % 4294967296)) (hb:b=Bv+P*x+P*y) :
  a+P*4294967296*z=b:=by
 subst ha hb hz; have:s=s % 4294967296+4294967296*(s / 4294967296):=by omega
 have e:P*s=P*(s % 4294967296)+P*4294967296*(s / 4294967296):=by
  conv=>lhs; rw [this]
  rw [mD,mJ]
 have e2:P*s=P*x+P*y+P*c:=by rw [← hs,mD,mD]
 omega
theorem wIJ (cur:List Nat) (n i y:Nat) (hl:cur.length=n) (hi:i<n):wB ((cur.set i y).take (i+1))=wB (cur.take i)+4294967296 ^ i*y:=by
 rw [kT _ _ _ (by omega),wC1,pM,cM (by omega)]
theorem vA (cur:List Nat) (i y:Nat) (h:∀ x,x∈cur→x<4294967296) (hy:y<4294967296):∀ x,x∈cur.set i y→x<4294967296:=by
 intro x hx
 rcases gX hx with h1 | h1
 ·exact h x h1
 ·rw [h1]; exact hy
theorem wDB (n:Nat):∀ x,x∈wR1 n→x<4294967296:=by
 intro x hx
 rw [fW hx]; decide
theorem wG5 (P v c:Nat) (h:v<P) (hc:P*c≤v):c=0:=by
 rcases mF c with h0 | h0
 ·exact h0
 ·have:P*1≤P*c:=mQ _ h0
  omega
theorem sum_lt (n:Nat) (xs ys:List Nat) (h1:xs.length≤n) (h2:ys.length≤n) (hx:∀ x,x∈xs→x<4294967296) (hy:∀ x,x∈ys→x<4294967296) :
  wB xs+wB ys<4294967296 ^ (n+1):=by
 have p1:=qR xs hx; have p2:=qR ys hy
 have q1:4294967296 ^ xs.length≤4294967296 ^ n:=dD (by decide) h1
 have q2:4294967296 ^ ys.length≤4294967296 ^ n:=dD (by decide) h2
 rw [mY]; generalize 4294967296 ^ n=P at *
 omega
theorem prod_lt (xs:List Nat) (d:Nat) (hx:∀ x,x∈xs→x<4294967296) (hd:d<4294967296):wB xs*d<4294967296 ^ (xs.length+1):=by
 have p1:=qR xs hx; rw [mY]
 exact fJ p1 hd
theorem w9 (xs:List Nat) (k:Nat):wB (xs.drop k)=xs.getD k 0+4294967296*wB (xs.drop (k+1)):=by
 by_cases h:k<xs.length
 ·rw [bM h,wB,getD_eq xs k h]
 ·rw [pY (by omega),pY (by omega),wC8 xs k (by omega)]; simp [wB]
theorem qQ (xs:List Nat) (k:Nat):wB xs=wB (xs.take k)+4294967296 ^ k*wB (xs.drop k):=by
 induction k with
 | zero=>simp [wB]
 | succ k ih =>
  rw [ih,qD,w9 xs k,mY,mD,mJ,cB]
theorem kU (xs:List Nat) (k:Nat) (hx:∀ x,x∈xs→x<4294967296):wB (xs.take k)<4294967296 ^ k:=by
 have h:=qR (xs.take k) fun x h=>hx x (dC h)
 have:4294967296 ^ (xs.take k).length≤4294967296 ^ k:=dD (by decide) (by rw [pM]; omega)
 exact mR h this
theorem wT3 (xs ys:List Nat) (k:Nat) (hx:∀ x,x∈xs→x<4294967296) (h:wB (xs.drop k)<wB (ys.drop k)):wB xs<wB ys:=by
 rw [qQ xs k,qQ ys k]; have h1:=kU xs k hx
 generalize 4294967296 ^ k=P at *; generalize wB (xs.drop k)=a at *
 generalize wB (ys.drop k)=b at *; have:P*(a+1)≤P*b:=mQ _ h
 rw [mD] at this; omega
theorem wJF (xs ys:List Nat) (m x y:Nat) (hx:xs.getD m 0=x) (hy:ys.getD m 0=y) (h:wB (xs.drop (m+1))=wB (ys.drop (m+1))) (hlt:x<y):wB (xs.drop m)<wB (ys.drop m):=by
 rw [w9 xs m,w9 ys m,hx,hy,h]; omega
theorem wZ3 (P a c s A Bv x y z:Nat) (h:A+Bv=a+P*c) (hs:s+y+c=4294967296+x) (hz:z=1 - s / 4294967296) (hs2:s<8589934592) :
  A+P*(s % 4294967296)+(Bv+P*y)=a+P*x+P*4294967296*z:=by
 have e:P*s+P*y+P*c=P*4294967296+P*x:=by
  have:=congrArg (P * ·) hs; simp only [Nat.mul_add] at this
  exact this
 have e2:P*s=P*(s % 4294967296)+P*4294967296*(s / 4294967296):=by
  rw [mJ,← mD,Nat.mod_add_div]
 generalize P*(s % 4294967296)=u at *; rcases pG s 4294967296 with h1 | h1
 ·have h0:s / 4294967296=0:=by omega
  rw [h0] at e2 hz; subst hz
  rw [dN] at e2; rw [pA5,gC]
  generalize P*4294967296=PB at *; generalize P*s=ps at *
  generalize P*y=py at *; generalize P*c=pc at *
  generalize P*x=px at *; omega
 ·have h0:s / 4294967296=1:=by omega
  rw [h0] at e2 hz; subst hz
  rw [gC] at e2; rw [dV,dN]
  generalize P*4294967296=PB at *; generalize P*s=ps at *
  generalize P*y=py at *; generalize P*c=pc at *
  generalize P*x=px at *; omega
end Go.Proofs.YtkjhfnhgefbhhaaGreat
/- Data as trees: limbs. -/
namespace Go.Proofs.YtkjhfnhgefbhhaaGreat
open Go.RowKit Go.Ev Go.Vl
def uL (xs:List Nat):List (List V):=xs.map fun x=>[V.int .u32 (x:Nat)]
def vL (xs:List Nat):V:=.list (uL xs)
def vN (n:Nat):V:=vL (toL n)
def okL (xs:List Nat):Prop:=∀ x,x∈xs→x<4294967296
theorem qE (xs:List Nat):(uL xs).length=xs.length:=by simp [uL]
theorem qBH (xs:List Nat):∀ e∈uL xs,e.length=1:=by
 intro e he
 obtain ⟨x,_,rfl⟩:=pJ.1 he
 rfl
theorem kW (xs:List Nat) (i:Nat) (h:i<xs.length):(uL xs)[i]? = some [V.int .u32 (xs.getD i 0:Nat)]:=by
 simp [uL,List.getElem?_eq_getElem h,List.getD]
theorem uL_flat (xs:List Nat):(uL xs).flatten=xs.map fun x=>V.int .u32 (x:Nat):=by
 induction xs with
 | nil=>rfl
 | cons x xs ih=>simp only [uL,List.map_cons,List.flatten_cons] at ih ⊢; rw [ih]; rfl
section
variable {S:Nat→Prop} {w:World} {v:Value} {xs:List Nat}
theorem ints_rep (xs:List Nat):RepL S w (xs.map fun x=>V.int .u32 (x:Nat)) (xs.map fun x=>Value.int .u32 (x:Nat)):=by
 induction xs with
 | nil=>exact .nil
 | cons x xs ih=>exact .cons (.int _ _) ih
theorem qA2:∀ {xs:List Nat} {us:List Value},RepL S w (xs.map fun x=>V.int .u32 (x:Nat)) us→us=xs.map fun x=>Value.int .u32 (x:Nat)
 | [],us,h=>by cases h; rfl
 | x :: xs,us,h=>by
  simp only [List.map_cons] at h
  cases h with
  | cons h t=>cases h; rw [qA2 t]; rfl
theorem qK (h:Rep S w (vL xs) v) (hx:okL xs):wO 0 w.heap.size w v xs:=by
 unfold vL at h; generalize hes:uL xs=es at h
 cases h with
 | nils =>
  have:=congrArg List.length hes; rw [qE] at this
  obtain rfl:xs=[]:=mK this; exact wO.nil
 | emp p cap =>
  have:=congrArg List.length hes; rw [qE] at this
  obtain rfl:xs=[]:=mK this; exact ⟨some p,cap,rfl,pH _,by simp,by simp,fun h=>absurd rfl h⟩
 | @list k _ us b off cap hk ho hc hl hb hu =>
  subst hes; rw [uL_flat] at hl
  have e:=qA2 hl; rw [qE] at hc ⊢
  refine ⟨_,cap,rfl,hc,by simp,hx,fun hne=>?_⟩
  have hb':=hb (by intro e; have:=congrArg List.length e; rw [qE] at this; exact hne (mK this))
  refine ⟨b,off,rfl,pH _,hb'.2,fun i hi=>?_,fun h=>by omega⟩
  refine hu i _ ?_
  rw [e]
  simp [List.getElem?_eq_getElem hi,List.getD]
theorem jE {lo hi:Nat} (h:wO lo hi w v xs) (hhi:hi≤w.heap.size) (hS:∀ b,lo≤b→b<w.heap.size→S b):Rep S w (vL xs) v:=by
 obtain ⟨ad,cap,rfl,hc,hn,hx,hne⟩:=h
 by_cases he:xs=[]
 ·subst he
  cases ad with
  | none =>
   obtain rfl:=hn rfl; exact .nils
  | some p=>exact .emp p cap
 ·obtain ⟨b,off,rfl,hl,hh,hcell,_⟩:=hne he
  have:=Rep.list (S:=S) (w:=w) (es:=uL xs) (us:=xs.map fun x=>Value.int .u32 (x:Nat)) (b:=b) (off:=off) (cap:=cap) (k:=1) (qBH xs) (by
   intro e he
   obtain ⟨x,_,rfl⟩:=pJ.1 he
   rfl) (by rw [qE]; exact hc) (by rw [uL_flat]; exact ints_rep xs) (fun _=>⟨hS b hl (by omega),by omega⟩) (by
   intro j u hj
   rw [pI] at hj; cases hq:xs[j]? with
   | none=>rw [hq] at hj; cases hj
   | some q =>
    rw [hq] at hj; cases hj
    have hjl:=(pS.1 hq).1; rw [hcell j hjl]
    simp [List.getD,hq])
  rw [qE] at this; exact this
end
end Go.Proofs.YtkjhfnhgefbhhaaGreat
/- nat.trim, nat.own, nat.Norm: what they hand back, at every slice. -/
namespace Go.Proofs.YtkjhfnhgefbhhaaGreat
open Go.RowKit
theorem v6 (lo hi:Nat) (v:Value) (xs:List Nat) (w:World) (h:wO lo hi w v xs) (hl:xs.length≤140737488355328) :
  Calls Tryz.prog 199 #[v] w fun e w'=>∃ r,e=.returned r∧wO lo hi w r (qG xs)∧w=w':=by
 have h0:=h; obtain ⟨ad,cap,rfl,hc,_,hx,hne⟩:=h
 go_enter Tryz.func199,Tryz.ntmps199
 go_wp2
 go_loop [0] (fun t=>∃ k:Nat,t=.slice ad k cap∧k≤xs.length∧qG (xs.take k)=qG xs) (fun t=>match t with | .slice _ k _=>k | _=>0)
 case atStart=>exact ⟨xs.length,rfl,pE _,by simp⟩
 case round =>
  obtain ⟨k,rfl,hk,ht⟩:=hrel; have HT:=hid ht
  clear ht; cases k with
  | zero =>
   go_wp2
   go_ret
   exact ⟨_,rfl,by rw [← HT.out]; exact h0.pre 0 (pH _),rfl⟩
  | succ m =>
   obtain ⟨b,off,rfl,hlo,hhi,hcell,_⟩:=hne (by intro h; subst h; simp at hk)
   have hcm:=hcell m (by omega)
   clear hcell
   go_wp2
   ·have h1:((xs[m]?.getD 0:Nat) == (0:Int))=true:=by assumption
    refine ⟨⟨m,rfl,by omega,?_⟩,by simp⟩
    rw [← HT.out,vK xs 0 m (by omega),pK,show xs[m]?.getD 0=0 from by simpa using h1,xK]
   ·have h1:((xs[m]?.getD 0:Nat) == (0:Int))=false:=by assumption
    go_ret
    refine ⟨_,rfl,?_,rfl⟩
    have e:qG xs=xs.take (m+1):=by
     rw [← HT.out,vK xs 0 m (by omega),pK,wKE _ _ (by simpa using h1)]
    rw [e]; exact h0.pre (m+1) hk
theorem j7:Elem Tryz.prog 23 180 (.int .u32 0) 1 4 :=
 ⟨Tryz.underlying23,by kernel_rfl,rfl,by decide⟩
theorem own_own (lo hi:Nat) (v:Value) (xs:List Nat) (w:World) (h:wO lo hi w v xs) (hl:xs.length≤35184372088832) :
  Calls Tryz.prog 229 #[v] w fun e w'=>∃ r,e=.returned r∧w'.ownsRow w.heap.size 180 1 r (qG xs).length (kP (qG xs))∧(∀ x,x∈qG xs→x<4294967296)∧Below w.heap.size w w':=by
 have hle:=kK xs; have hcall:=v6 lo hi v xs w h (by omega)
 revert hle hcall
 generalize qG xs=ys; intro hle hcall
 go_enter Tryz.func229,Tryz.ntmps229
 go_wp2_with fail
 refine hcall.mono ?_
 rintro e w' ⟨r,rfl,hr,rfl⟩
 clear hcall h; obtain ⟨ad,cap,rfl,hc,_,hx,hne⟩:=hr
 by_cases hy:ys=[]
 ·subst hy
  go_wp2
  go_ret
  exact ⟨_,rfl,World.ownsRow_nil _ _ _ _,by simp,Below.refl _ _⟩
 ·have hpos:0<ys.length:=List.length_pos_iff.2 hy
  obtain ⟨b,off,rfl,hlo,hhi,hcell,_⟩:=hne hy; clear hne
  have hml:ys.length≤maxLen:=by unfold maxLen; omega
  have H:=hid hcell; clear hcell
  go_wp2_with (at_make; refine qEA j7 rfl _ _ rfl w.heap.size _ _ _ _ ys.length ys.length rfl rfl rfl rfl (pE _) (by omega) hml (Below.refl _ _) (pE _) ?_)
  intro w1 ho1 hb1 _
  go_wp2_with (with_reducible refine qBA j7 rfl _ _ _ rfl w.heap.size w.heap.size ys.length ys.length cap ⟨b,off,none⟩ _ (kP ys) rfl rfl ho1 (by simp [kP]) ?c1 (qEJ _) hb1 ?_)
  case c1 =>
   intro j v hj
   have hjl:j<ys.length:=by
    have:=(pS.1 hj).1
    simpa [kP] using this
   have hc1:=H.out j hjl; have hlt:=World.block_lt_of_cell? w _ hc1
   rw [Addr.add_lit,hb1.cell (by exact hlt),hc1]
   rw [← hj]
   simp [kP,List.getD_eq_getElem?_getD,hjl]
  intro w2 ho2 hb2 _
  go_wp2
  go_ret
  exact ⟨_,rfl,ho2,hx,hb2⟩
theorem wN2 (lo hi:Nat) (v:Value) (xs:List Nat) (w:World) (h:wO lo hi w v xs) (hl:xs.length≤35184372088832) :
  Calls Tryz.prog 229 #[v] w fun e w'=>∃ r,e=.returned r∧wO w.heap.size w'.heap.size w' r (qG xs)∧Below w.heap.size w w' :=
 (own_own lo hi v xs w h hl).mono fun _ _ ⟨r,h1,h2,h3,h4⟩=>⟨r,h1,wO.ofOwn h2 h3,h4⟩
theorem norm_own (lo hi:Nat) (v:Value) (xs:List Nat) (w:World) (h:wO lo hi w v xs) (hl:xs.length≤35184372088832) :
  Calls Tryz.prog 228 #[v] w fun e w'=>∃ r,e=.returned r∧w'.ownsRow w.heap.size 180 1 r (qG xs).length (kP (qG xs))∧(∀ x,x∈qG xs→x<4294967296)∧Below w.heap.size w w':=by
 have hcall:=own_own lo hi v xs w h hl; clear h hl
 go_enter Tryz.func228,Tryz.ntmps228
 go_wp2_with fail
 refine hcall.mono ?_
 rintro e w' ⟨r,rfl,hr,hx,hb⟩
 clear hcall
 go_wp2
 go_ret
 exact ⟨_,rfl,hr,hx,hb⟩
theorem norm_any (lo hi:Nat) (v:Value) (xs:List Nat) (w:World) (h:wO lo hi w v xs) (hl:xs.length≤35184372088832) :
  Calls Tryz.prog 228 #[v] w fun e w'=>∃ r,e=.returned r∧wO w.heap.size w'.heap.size w' r (qG xs)∧Below w.heap.size w w' :=
 (norm_own lo hi v xs w h hl).mono fun _ _ ⟨r,h1,h2,h3,h4⟩=>⟨r,h1,wO.ofOwn h2 h3,h4⟩
end Go.Proofs.YtkjhfnhgefbhhaaGreat
/- simileref01's limb, Zero, Same, Norm, Of: what they hand back. -/
namespace Go.Proofs.YtkjhfnhgefbhhaaGreat
open Go.RowKit
theorem yF (lo hi:Nat) (v:Value) (xs:List Nat) (k x:Nat) (w:World) (h:wO lo hi w v xs) (hk:k≤35184372088832) (hx:xs.getD k 0=x) :
  Calls Tryz.prog 245 #[v,.int .i64 k] w fun e w'=>e=.returned (.int .u64 (x:Nat))∧w=w':=by
 obtain ⟨ad,cap,rfl,hc,_,hlt,hcell⟩:=h.open
 by_cases hkl:k<xs.length
 ·obtain ⟨b,off,rfl,_,_,hc1⟩:=hcell k hkl
  rw [hx] at hc1; have hx32:x<4294967296:=by rw [← hx]; exact hlt _ (by simp [List.getD_eq_getElem?_getD,hkl])
  clear hcell hlt h hx
  go_enter Tryz.func245,Tryz.ntmps245
  go_wp2
  go_ret
  exact ⟨rfl,rfl⟩
 ·obtain rfl:x=0:=by rw [← hx,pK,cE (by omega)]; rfl
  clear hcell hlt h hx
  go_enter Tryz.func245,Tryz.ntmps245
  go_wp2
  go_ret
  exact ⟨rfl,rfl⟩
theorem wV4 (xs:List Nat):wB xs=0↔∀ x,x∈xs→x=0:=by
 induction xs with
 | nil=>simp [wB]
 | cons y ys ih=>simp only [wB,List.forall_mem_cons,← ih]; omega
theorem zero01_any (lo hi:Nat) (v:Value) (xs:List Nat) (w:World) (h:wO lo hi w v xs) (hl:xs.length≤35184372088832) :
  Calls Tryz.prog 141 #[v] w fun e w'=>e=.returned (.bool (decide (wB xs=0)))∧w=w':=by
 obtain ⟨ad,cap,rfl,hc,_,hlt,hcell⟩:=h.open; clear hlt h
 have HC:=hid hcell; clear hcell
 go_enter Tryz.func141,Tryz.ntmps141
 go_wp2
 go_loop [7] (fun t=>∃ k:Nat,t=.int .i64 k∧k≤xs.length∧∀ x,x∈xs.take k→x=0) (fun t=>xs.length - (intOf t).toNat)
 case atStart=>exact ⟨0,rfl,pH _,by simp⟩
 case round =>
  obtain ⟨k,rfl,hk,hz⟩:=hrel; have HZ:=hid hz
  clear hz
  by_cases hkl:k<xs.length
  ·obtain ⟨b,off,rfl,_,_,hc1⟩:=HC.out k hkl
   obtain ⟨x,hx⟩:∃ x,x=xs.getD k 0:=⟨_,rfl⟩; rw [← hx] at hc1
   have HX:=hid hx; clear hx
   go_wp2
   ·have h1:((x:Int) != 0)=true:=by assumption
    go_ret
    have:decide (wB xs=0)=false:=by
     rw [decide_eq_false_iff_not,wV4]; intro h
     have:=h x (by rw [HX.out]; exact qH8 xs k hkl)
     simp [this] at h1
    rw [this]; exact ⟨rfl,rfl⟩
   ·have h1:((x:Int) != 0)=false:=by assumption
    refine ⟨⟨k+1,by go_num,by omega,?_⟩,by simp [intOf]; omega⟩
    intro y hy
    rw [vK xs 0 k hkl,cH] at hy; rcases hy with hy | hy
    ·exact HZ.out y hy
    ·simp only [List.mem_singleton] at hy
     rw [hy,← HX.out]
     simpa using h1
  ·obtain rfl:k=xs.length:=by omega
   go_wp2
   go_ret
   have:decide (wB xs=0)=true:=by
    rw [decide_eq_true_eq,wV4]; intro x hx
    exact HZ.out x (by rw [mH]; exact hx)
   rw [this]; exact ⟨rfl,rfl⟩
theorem same01_any (lo hi lo2 hi2:Nat) (v v2:Value) (xs ys:List Nat) (w:World) (h:wO lo hi w v xs) (h2:wO lo2 hi2 w v2 ys) (hl:xs.length≤35184372088832) :
  Calls Tryz.prog 96 #[v,v2] w fun e w'=>e=.returned (.bool (decide (xs=ys)))∧Below w.heap.size w w':=by
 obtain ⟨ad,cap,rfl,hc,_,hlt,hcell⟩:=h.open; obtain ⟨ad2,cap2,rfl,hc2,_,hlt2,hcell2⟩:=h2.open
 clear hlt h hlt2 h2; have HC:=hid hcell
 have HC2:=hid hcell2; clear hcell hcell2
 by_cases hlen:xs.length=ys.length
 ·have hb:((xs.length:Int) != ys.length)=false:=by simp [hlen]
  have HL:=hid hlen
  go_enter Tryz.func96,Tryz.ntmps96
  go_wp2
  go_loopw [13] (fun t wr=>∃ k:Nat,t=.int .i64 k∧k≤xs.length∧Below w.heap.size w wr∧xs.take k=ys.take k) (fun t _=>xs.length - (intOf t).toNat)
  case atStart=>exact ⟨0,rfl,pH _,Below.refl _ _,rfl⟩
  case round =>
   obtain ⟨k,rfl,hk,hbel,he⟩:=hrel; have HE:=hid he
   clear he hb
   by_cases hkl:k<xs.length
   ·have hkl2:k<ys.length:=by omega
    obtain ⟨b,off,rfl,_,_,hc1⟩:=HC.out k hkl; obtain ⟨b2,off2,rfl,_,_,hc12⟩:=HC2.out k hkl2
    obtain ⟨x,hx⟩:∃ x,x=xs.getD k 0:=⟨_,rfl⟩; obtain ⟨y,hy⟩:∃ y,y=ys.getD k 0:=⟨_,rfl⟩
    rw [← hx] at hc1; rw [← hy] at hc12
    have HX:=hid hx; have HY:=hid hy
    have d1:=wK7 hbel hc1 (pE _); have d2:=wK7 hbel hc12 (pE _)
    clear hx hy hc1 hc12 hlen; have f1:(k:Int)<(xs.length:Int):=by omega
    have f2:(k:Int)<(ys.length:Int):=by omega
    go_wp2
    go_quiet (fail)
    go_wp2
    ·have h1:((x:Int) != (y:Int))=true:=by assumption
     go_ret
     have:decide (xs=ys)=false:=by
      rw [decide_eq_false_iff_not]; intro e
      rw [HX.out,HY.out,e] at h1
      simp at h1
     rw [this]; exact ⟨rfl,wLI hbel _⟩
    ·have h1:((x:Int) != (y:Int))=false:=by assumption
     refine ⟨⟨k+1,by go_num,by omega,wLI hbel _,?_⟩,by simp [intOf]; omega⟩
     rw [vK xs 0 k hkl,vK ys 0 k hkl2,HE.out,← HX.out,← HY.out]; have:x=y:=by
      have h2:(x:Int)=y:=by simpa using h1
      omega
     rw [this]
   ·obtain rfl:k=xs.length:=by omega
    go_wp2
    go_ret
    have:decide (xs=ys)=true:=by
     rw [decide_eq_true_eq]; have:=HE.out
     rwa [mH,HL.out,mH] at this
    rw [this]; exact ⟨rfl,hbel⟩
 ·have hb:((xs.length:Int) != ys.length)=true:=by simp [bne_iff_ne]; omega
  have hd:decide (xs=ys)=false:=by rw [decide_eq_false_iff_not]; intro e; exact hlen (by rw [e])
  have HD:=hid hd; clear hlen hd
  go_enter Tryz.func96,Tryz.ntmps96
  go_wp2
  go_ret
  rw [HD.out]; exact ⟨rfl,Below.refl _ _⟩
theorem zY (lo hi:Nat) (v:Value) (xs:List Nat) (w:World) (h:wO lo hi w v xs) (hl:xs.length≤35184372088832) :
  Calls Tryz.prog 206 #[v] w fun e w'=>∃ r,e=.returned r∧wO w.heap.size w'.heap.size w' r (toL (wB xs))∧Below w.heap.size w w':=by
 obtain ⟨ad,cap,rfl,hc,_,hlt,hcell⟩:=h.open; have hT:=qT xs hlt
 have hTlt:∀ x,x∈qG xs→x<4294967296:=fun x h=>hlt x (wP9 xs x h)
 have HT:=hid hT; have HTL:=hid hTlt
 have HC:=hid hcell; clear hcell hT hlt h hTlt
 go_enter Tryz.func206,Tryz.ntmps206
 go_wp2
 go_loop [3] (fun t=>∃ k:Nat,t=.int .i64 k∧k≤xs.length∧qG (xs.take k)=qG xs) (fun t=>(intOf t).toNat)
 case atStart=>exact ⟨xs.length,rfl,pE _,by simp⟩
 case round =>
  obtain ⟨k,rfl,hk,ht⟩:=hrel; have HK:=hid ht
  clear ht
  by_cases hz:k≠0∧xs.getD (k - 1) 0=0
  ·obtain ⟨m,rfl⟩:∃ m,k=m+1:=⟨k - 1,by omega⟩
   obtain ⟨b,off,rfl,_,_,hc1⟩:=HC.out m (by omega)
   have h0:=hz.2; rw [show m+1 - 1=m from rfl] at h0
   rw [h0] at hc1; have H0:=hid h0
   clear hz h0
   go_wp2
   refine ⟨⟨m,by go_num,by omega,?_⟩,by simp [intOf]⟩
   rw [← HK.out,vK xs 0 m (by omega),H0.out,xK]
  ·have hcond:k=0∨∃ m x b off,k=m+1∧x≠0∧xs.getD m 0=x∧ad=some ⟨b,off,none⟩∧w.cell? ⟨b,off+m,none⟩=some (.int .u32 (x:Nat)):=by
    by_cases h0:k=0
    ·exact .inl h0
    ·obtain ⟨b,off,h1,_,_,hc1⟩:=HC.out (k - 1) (by omega)
     refine .inr ⟨k - 1,xs.getD (k - 1) 0,b,off,by omega,fun h=>hz ⟨h0,h⟩,rfl,h1,hc1⟩
   have hk2:qG xs=xs.take k:=by
    rw [← HK.out]; rcases hcond with rfl | ⟨m,x,_,_,rfl,hx,hx2,_⟩
    ·rfl
    ·rw [vK xs 0 m (by omega),hx2,wKE _ _ hx]
   have hlen:(qG xs).length=k:=by rw [hk2,pM]; omega
   have HK2:=hid hk2; have HLEN:=hid hlen
   clear HK hk2 hlen hz; rcases hcond with rfl | ⟨m,x,b,off,rfl,hx,hx2,rfl,hc1⟩
   ·go_wp2_with (at_make; refine kH j7 rfl _ _ rfl w.heap.size _ _ _ _ 0 0 rfl rfl rfl rfl (pE _) (by decide) (Below.refl _ _) (pE _) ?_)
    intro w1 ho1 hb1 _
    go_wp2
    refine wp_loop_rounds 1 ?_
    rw [rounds_succ]
    go_wp2
    go_ret
    refine ⟨_,rfl,?_,hb1⟩
    rw [← HT.out,HK2.out]; exact (wO.ofOwn (xs:=[]) ho1 (by simp)).wide (pE _) (pE _)
   ·have hxi:((x:Int) == 0)=false:=by rw [beq_eq_false_iff_ne]; omega
    have HX2:=hid hx2; have HX:=hid hx
    clear hx hx2
    go_wp2_with (at_make; refine kH j7 rfl _ _ rfl w.heap.size _ _ _ _ (m+1) (m+1) rfl rfl (by omega) (by omega) (pE _) (by omega) (Below.refl _ _) (pE _) ?_)
    intro w1 ho1 hb1 _
    clear hc1 hxi
    go_wp2
    go_loopw [5] (fun t wr=>∃ (i:Nat) (cur:List Nat),t=.int .i64 i∧i≤m+1∧wr.ownsRow w.heap.size 180 1 (.slice (some ⟨w.heap.size,0,none⟩) (m+1) (m+1)) (m+1) (kP cur) ∧
      Below w.heap.size w wr∧cur.take i=xs.take i) (fun t _=>m+1 - (intOf t).toNat)
    case atStart=>exact ⟨0,_,rfl,pH _,ho1,hb1,rfl⟩
    case round =>
     obtain ⟨i,cur,rfl,hi,hown,hbel,hcur⟩:=hrel; have HCUR:=hid hcur
     clear hcur ho1 hb1
     by_cases hil:i<m+1
     ·obtain ⟨b',off',hba,_,_,hc1⟩:=HC.out i (by omega)
      simp only [Option.some.injEq,Addr.mk.injEq,and_true] at hba
      obtain ⟨rfl,rfl⟩:=hba; obtain ⟨y,hy⟩:∃ y,y=xs.getD i 0:=⟨_,rfl⟩
      rw [← hy] at hc1; have d1:=wK7 hbel hc1 (pE _)
      obtain ⟨c1,c2⟩:=j5 hown i hil; have HY:=hid hy
      have f1:(i:Int)<(xs.length:Int):=by omega
      have f2:(i:Int)<(m+1:Nat):=by omega
      clear hy hc1
      go_wp2
      have hs:=j6 hown i y; refine ⟨⟨i+1,cur.set i y,by go_num,by omega,hs.1,hbel.setCell (by exact pE _) _,?_⟩,by simp [intOf]; omega⟩
      have hcl:=zO hown; rw [kT _ _ _ (by omega),HCUR.out,vK xs 0 i (by omega),HY.out]
     ·obtain rfl:i=m+1:=by omega
      have hcl:=zO hown; have he:qG xs=cur:=by rw [HK2.out,← HCUR.out,pN (by omega)]
      have HE:=hid he; clear he hcl
      go_wp2
      go_ret
      refine ⟨_,rfl,?_,hbel⟩
      rw [← HT.out,HE.out]; exact wO.ofOwn hown (by rw [← HE.out]; exact HTL.out)
theorem of01_any (n:Nat) (w:World) (hn:n<18446744073709551616) :
  Calls Tryz.prog 151 #[.int .u64 (n:Nat)] w fun e w'=>∃ r,e=.returned r∧wO w.heap.size w'.heap.size w' r (toL n)∧Below w.heap.size w w':=by
 have hv:wB [n % 4294967296,n / 4294967296]=n:=by simp only [wB]; omega
 obtain ⟨a,ha⟩:∃ a,a=n % 4294967296:=⟨_,rfl⟩; obtain ⟨b,hb⟩:∃ b,b=n / 4294967296:=⟨_,rfl⟩
 have ha2:(n:Int) % 4294967296=(a:Nat):=by omega
 have hb2:(n:Int) / 4294967296=(b:Nat):=by omega
 rw [← ha,← hb] at hv; have hal:a<4294967296:=by omega
 have hbl:b<4294967296:=by omega
 clear ha hb hn; have HV:=hid hv
 clear hv; have hown:(w.alloc (.cells #[.int .u32 (a:Nat),.int .u32 (b:Nat)] 180)).ownsRow w.heap.size 180 1 (.slice (some ⟨w.heap.size,0,none⟩) 2 2) 2 (kP [a,b]) :=
  World.ownsRow_lit w _ 2 (pE _) (by decide) rfl
 have hb1:Below w.heap.size w (w.alloc (.cells #[.int .u32 (a:Nat),.int .u32 (b:Nat)] 180)):=(Below.refl _ _).alloc (pE _) _; have hL:=wO.ofOwn hown (by intro x hx; simp at hx; rcases hx with rfl | rfl <;> assumption)
 have hN:=zY _ _ _ _ _ hL (by simp)
 rw [HV.out] at hN; clear hown hL
 go_enter Tryz.func151,Tryz.ntmps151
 go_wp2_with (go_at_call 206; refine hN.mono ?_; rintro e w' ⟨r,rfl,hr,hb2⟩)
 go_ret
 exact ⟨_,rfl,hr.wide hb1.size (pE _),hb1.trans (hb2.mono hb1.size)⟩
end Go.Proofs.YtkjhfnhgefbhhaaGreat
/- simileref01's Add, Small, shift, Sub, Cmp: what they hand back. -/
namespace Go.Proofs.YtkjhfnhgefbhhaaGreat
open Go.RowKit
theorem qB7 (lo h1 lo2 h12:Nat) (v v2:Value) (xs ys:List Nat) (w:World) (h:wO lo h1 w v xs) (h2:wO lo2 h12 w v2 ys) (hhi:h1≤w.heap.size) (hhi2:h12≤w.heap.size) (hl:xs.length≤17592186044416) (hl2:ys.length≤17592186044416) :
  Calls Tryz.prog 195 #[v,v2] w fun e w'=>∃ r,e=.returned r∧wO w.heap.size w'.heap.size w' r (toL (wB xs+wB ys))∧Below w.heap.size w w':=by
 obtain ⟨ad,cap,rfl,hc,_,hlt,_⟩:=h.open; obtain ⟨ad2,cap2,rfl,hc2,_,hlt2,_⟩:=h2.open
 have HLT:=hid hlt; have HLT2:=hid hlt2
 clear hlt hlt2
 go_enter Tryz.func195,Tryz.ntmps195
 go_upto_if 15 with (fail)
 go_cut [5] (fun t w'=>w'=w∧∃ n:Nat,t=.int .i64 n∧xs.length≤n∧ys.length≤n∧n≤17592186044416)
 case first =>
  by_cases hle:ys.length≤xs.length
  ·go_wp2
   go_meet
   exact ⟨rfl,xs.length,rfl,by omega,by omega,by omega⟩
  ·go_wp2
   go_meet
   exact ⟨rfl,ys.length,rfl,by omega,by omega,by omega⟩
 case rest =>
  obtain ⟨rfl,n,rfl,hn1,hn2,hn⟩:=hcut
  go_wp2_with (at_make; refine kH j7 rfl _ _ rfl wc.heap.size _ _ _ _ (n+1) (n+1) rfl rfl (by omega) (by omega) (pE _) (by omega) (Below.refl _ _) (pE _) ?_)
  intro w1 ho1 hb1 _
  go_wp2
  have h3:=ho1
  go_loopw [7,23] (fun cv t wr=>∃ (i c:Nat) (cur:List Nat),t=.int .i64 i∧cv=.int .u64 c∧c≤1∧i≤n+1 ∧
    wr.ownsRow wc.heap.size 180 1 (.slice (some ⟨wc.heap.size,0,none⟩) (n+1) (n+1)) (n+1) (kP cur)∧Below wc.heap.size wc wr ∧
    (∀ x,x∈cur→x<4294967296)∧wB (cur.take i)+4294967296 ^ i*c=wB (xs.take i)+wB (ys.take i)) (fun _ t _=>n+1 - (intOf t).toNat)
  case atStart=>exact ⟨0,0,_,rfl,rfl,by omega,pH _,ho1,hb1,wDB _,by simp [wB]⟩
  case round =>
   obtain ⟨i,c,cur,rfl,rfl,hc1,hi,hown,hbel,hcl,hval⟩:=hrel; have HV:=hid hval
   have HCL:=hid hcl; clear hval hcl ho1 h3 hb1
   by_cases hil:i<n+1
   ·obtain ⟨x,hx⟩:∃ x,xs.getD i 0=x:=⟨_,rfl⟩
    obtain ⟨y,hy⟩:∃ y,ys.getD i 0=y:=⟨_,rfl⟩; have hx32:x<4294967296:=by rw [← hx]; exact getD_lt xs HLT.out i
    have hy32:y<4294967296:=by rw [← hy]; exact getD_lt ys HLT2.out i
    have q1:=yF lo h1 _ xs i x wr (h.below hbel hhi) (by omega) hx
    have q2:=yF lo2 h12 _ ys i y wr (h2.below hbel hhi2) (by omega) hy
    have HX:=hid hx; have HY:=hid hy
    have Q1:=hid q1; have Q2:=hid q2
    obtain ⟨c1,c2⟩:=j5 hown i hil; clear hx hy q1 q2
    go_wp2_with fail
    refine Q1.out.mono ?_
    rintro e w' ⟨rfl,rfl⟩
    go_wp2_with fail
    refine Q2.out.mono ?_
    rintro e w' ⟨rfl,rfl⟩
    go_wp2
    have hs:=j6 hown i ((x+y+c) % 4294967296); have hln:=zO hown
    refine ⟨⟨i+1,(x+y+c) / 4294967296,_,by go_num,by go_num,by omega,by omega,by simpa using hs.1,hbel.setCell (by exact pE _) _,vA _ _ _ HCL.out (by omega),?_⟩,by simp [intOf]; omega⟩
    rw [wIJ _ _ _ _ hln hil,qD xs,qD ys,HX.out,HY.out,mY]; exact wLG _ _ _ c (x+y+c) _ _ x y _ HV.out rfl rfl rfl (by omega)
   ·obtain rfl:i=n+1:=by omega
    have hln:=zO hown; have hv:wB cur=wB xs+wB ys:=by
     have:=HV.out; rw [zN cur _ (by omega),zN xs _ (by omega),zN ys _ (by omega)] at this
     have hc0:c=0:=wG5 _ _ c (sum_lt n xs ys hn1 hn2 HLT.out HLT2.out) (by rw [← this]; exact pF7 _ _)
     rw [hc0,dN,cJ] at this; exact this
    have hN:=zY _ _ _ cur wr (wO.ofOwn hown HCL.out) (by omega)
    rw [hv] at hN; clear hv hln
    go_wp2_with (go_at_call 206; refine hN.mono ?_; rintro e w' ⟨r,rfl,hr,hb2⟩)
    go_ret
    exact ⟨_,rfl,hr.wide hbel.size (pE _),hbel.trans (hb2.mono hbel.size)⟩
theorem wCI (lo h1:Nat) (v:Value) (xs:List Nat) (d:Nat) (w:World) (h:wO lo h1 w v xs) (hhi:h1≤w.heap.size) (hl:xs.length≤17592186044416) (hd:d<4294967296) :
  Calls Tryz.prog 247 #[v,.int .u32 (d:Nat)] w fun e w'=>∃ r,e=.returned r∧wO w.heap.size w'.heap.size w' r (toL (wB xs*d))∧Below w.heap.size w w':=by
 obtain ⟨ad,cap,rfl,hc,_,hlt,_⟩:=h.open; have HLT:=hid hlt
 clear hlt
 go_enter Tryz.func247,Tryz.ntmps247
 go_wp2_with (at_make; refine kH j7 rfl _ _ rfl w.heap.size _ _ _ _ (xs.length+1) (xs.length+1) rfl rfl (by omega) (by omega) (pE _) (by omega) (Below.refl _ _) (pE _) ?_)
 intro w1 ho1 hb1 _
 go_wp2
 go_loopw [6,15] (fun cv t wr=>∃ (i c:Nat) (cur:List Nat),t=.int .i64 i∧cv=.int .u64 c∧c<4294967296∧i≤xs.length+1 ∧
   wr.ownsRow w.heap.size 180 1 (.slice (some ⟨w.heap.size,0,none⟩) (xs.length+1) (xs.length+1)) (xs.length+1) (kP cur)∧Below w.heap.size w wr ∧
   (∀ x,x∈cur→x<4294967296)∧wB (cur.take i)+4294967296 ^ i*c=wB (xs.take i)*d) (fun _ t _=>xs.length+1 - (intOf t).toNat)
 case atStart=>exact ⟨0,0,_,rfl,rfl,by omega,pH _,ho1,hb1,wDB _,by simp [wB]⟩
 case round =>
  obtain ⟨i,c,cur,rfl,rfl,hc1,hi,hown,hbel,hcl,hval⟩:=hrel; have HV:=hid hval
  have HCL:=hid hcl; clear hval hcl ho1 hb1
  by_cases hil:i<xs.length+1
  ·obtain ⟨x,hx⟩:∃ x,xs.getD i 0=x:=⟨_,rfl⟩
   have hx32:x<4294967296:=by rw [← hx]; exact getD_lt xs HLT.out i
   have hp:x*d≤4294967295*4294967295:=dA (by omega) (by omega)
   have q1:=yF lo h1 _ xs i x wr (h.below hbel hhi) (by omega) hx
   have HX:=hid hx; have Q1:=hid q1
   obtain ⟨c1,c2⟩:=j5 hown i hil; clear hx q1
   go_wp2_with fail
   refine Q1.out.mono ?_
   rintro e w' ⟨rfl,rfl⟩
   go_wp2
   have hs:=j6 hown i ((x*d+c) % 4294967296); have hln:=zO hown
   refine ⟨⟨i+1,(x*d+c) / 4294967296,_,by go_num,by go_num,by omega,by omega,by simpa using hs.1,hbel.setCell (by exact pE _) _,vA _ _ _ HCL.out (by omega),?_⟩,by simp [intOf]; omega⟩
   rw [wIJ _ _ _ _ hln hil,qD xs,HX.out,mY]; refine wLG _ _ _ c (x*d+c) _ _ (x*d) 0 _ HV.out (by omega) rfl rfl ?_
   rw [cY,mJ,dN,cJ]
  ·obtain rfl:i=xs.length+1:=by omega
   have hln:=zO hown; have hv:wB cur=wB xs*d:=by
    have:=HV.out; rw [zN cur _ (by omega),zN xs _ (by omega)] at this
    have hc0:c=0:=wG5 _ _ c (prod_lt xs d HLT.out hd) (by rw [← this]; exact pF7 _ _)
    rw [hc0,dN,cJ] at this; exact this
   have hN:=zY _ _ _ cur wr (wO.ofOwn hown HCL.out) (by omega)
   rw [hv] at hN; clear hv hln
   go_wp2_with (go_at_call 206; refine hN.mono ?_; rintro e w' ⟨r,rfl,hr,hb2⟩)
   go_ret
   exact ⟨_,rfl,hr.wide hbel.size (pE _),hbel.trans (hb2.mono hbel.size)⟩
theorem wR4 (lo h1:Nat) (v:Value) (xs:List Nat) (d:Nat) (w:World) (h:wO lo h1 w v xs) (hhi:h1≤w.heap.size) (hl:xs.length≤17592186044416) (hd:d<4294967296) :
  Calls Tryz.prog 246 #[v,.int .u32 (d:Nat)] w fun e w'=>∃ r,e=.returned r∧wO w.heap.size w'.heap.size w' r (toL (d+4294967296*wB xs))∧Below w.heap.size w w':=by
 have hlt:∀ x,x∈d :: xs→x<4294967296:=by
  obtain ⟨ad,cap,rfl,hc,_,hlt,_⟩:=h.open; intro x hx
  rcases pQ.1 hx with rfl | hx
  ·exact hd
  ·exact hlt x hx
 have hown:(w.alloc (.cells #[.int .u32 (d:Nat)] 180)).ownsRow w.heap.size 180 1 (.slice (some ⟨w.heap.size,0,none⟩) 1 1) 1 (kP [d]) :=
  World.ownsRow_lit w _ 1 (pE _) (by decide) rfl
 have hb1:Below w.heap.size w (w.alloc (.cells #[.int .u32 (d:Nat)] 180)):=(Below.refl _ _).alloc (pE _) _; have hL:=h.below hb1 hhi
 have HLT:=hid hlt; clear hlt
 go_enter Tryz.func246,Tryz.ntmps246
 go_wp2_with (at_builtin; refine wP5 j7 rfl _ _ rfl w.heap.size 1 _ _ _ xs _ _ hown hL rfl rfl (by omega) hb1 hb1.size ?_)
 intro v' w1 ho1 hb2 _ _
 have hlen:(1+xs.length)=(d :: xs).length:=by simp; omega
 rw [hlen] at ho1; have hN:=zY _ _ _ (d :: xs) w1 (wO.ofOwn ho1 HLT.out) (by simp; omega)
 clear hlen
 go_wp2_with (go_at_call 206; refine hN.mono ?_; rintro e w' ⟨r,rfl,hr,hb3⟩)
 go_ret
 exact ⟨_,rfl,hr.wide hb2.size (pE _),hb2.trans (hb3.mono hb2.size)⟩
end Go.Proofs.YtkjhfnhgefbhhaaGreat
/- simileref01's Cmp, Sub: what they hand back. -/
namespace Go.Proofs.YtkjhfnhgefbhhaaGreat
open Go.RowKit
def kA (a b:Nat):Int:=if a<b then -1 else if b<a then 1 else 0
theorem wQF (lo h1 lo2 h12:Nat) (v v2:Value) (xs ys:List Nat) (w:World) (h:wO lo h1 w v xs) (h2:wO lo2 h12 w v2 ys) (hl:xs.length≤17592186044416) (hl2:ys.length≤17592186044416) :
  Calls Tryz.prog 196 #[v,v2] w fun e w'=>e=.returned (.int .i64 (kA (wB xs) (wB ys)))∧w=w':=by
 obtain ⟨ad,cap,rfl,hc,_,hlt,_⟩:=h.open; obtain ⟨ad2,cap2,rfl,hc2,_,hlt2,_⟩:=h2.open
 have HLT:=hid hlt; have HLT2:=hid hlt2
 clear hlt hlt2
 go_enter Tryz.func196,Tryz.ntmps196
 go_upto_if 12 with (fail)
 go_cut [5] (fun t w'=>w'=w∧∃ n:Nat,t=.int .i64 n∧xs.length≤n∧ys.length≤n∧n≤17592186044416)
 case first =>
  by_cases hle:ys.length≤xs.length
  ·go_wp2
   go_meet
   exact ⟨rfl,xs.length,rfl,by omega,by omega,by omega⟩
  ·go_wp2
   go_meet
   exact ⟨rfl,ys.length,rfl,by omega,by omega,by omega⟩
 case rest =>
  obtain ⟨rfl,n,rfl,hn1,hn2,hn⟩:=hcut
  go_wp2
  go_loop [6] (fun t=>∃ k:Nat,t=.int .i64 ((k:Int) - 1)∧k≤n∧wB (xs.drop k)=wB (ys.drop k)) (fun t=>(intOf t+1).toNat)
  case atStart=>exact ⟨n,rfl,pE _,by rw [pY hn1,pY hn2]⟩
  case round =>
   obtain ⟨k,rfl,hk,he⟩:=hrel; have HE:=hid he
   clear he; cases k with
   | zero =>
    go_wp2
    go_ret
    have:kA (wB xs) (wB ys)=0:=by
     have:=HE.out; simp only [List.drop_zero] at this
     rw [this]; simp [kA]
    rw [this]; exact ⟨rfl,rfl⟩
   | succ m =>
    obtain ⟨x,hx⟩:∃ x,xs.getD m 0=x:=⟨_,rfl⟩; obtain ⟨y,hy⟩:∃ y,ys.getD m 0=y:=⟨_,rfl⟩
    have hx32:x<4294967296:=by rw [← hx]; exact getD_lt xs HLT.out m
    have hy32:y<4294967296:=by rw [← hy]; exact getD_lt ys HLT2.out m
    have q1:=yF lo h1 _ xs m x wc h (by omega) hx
    have q2:=yF lo2 h12 _ ys m y wc h2 (by omega) hy
    have HX:=hid hx; have HY:=hid hy
    have Q1:=hid q1; have Q2:=hid q2
    clear hx hy q1 q2; have c1:wB xs<wB ys→kA (wB xs) (wB ys) = -1:=fun h=>by simp [kA,h]
    have c2:wB ys<wB xs→kA (wB xs) (wB ys)=1:=fun h=>by rw [kA,if_neg (by omega),if_pos h]
    have C1:=hid c1; have C2:=hid c2
    clear c1 c2; rcases pB4 x y with hxy | hxy | hxy
    ·go_wp2_with fail
     refine Q1.out.mono ?_
     rintro e w' ⟨rfl,rfl⟩
     go_wp2_with fail
     refine Q2.out.mono ?_
     rintro e w' ⟨rfl,rfl⟩
     go_wp2
     go_ret
     rw [C1.out (wT3 xs ys m HLT.out (wJF xs ys m x y HX.out HY.out HE.out hxy))]; exact ⟨rfl,rfl⟩
    ·have hxy2:x≤y:=by omega
     have hxy3:y≤x:=by omega
     have HXY:=hid hxy; clear hxy
     go_wp2_with fail
     refine Q1.out.mono ?_
     rintro e w' ⟨rfl,rfl⟩
     go_wp2_with fail
     refine Q2.out.mono ?_
     rintro e w' ⟨rfl,rfl⟩
     go_wp2_with fail
     refine Q1.out.mono ?_
     rintro e w' ⟨rfl,rfl⟩
     go_wp2_with fail
     refine Q2.out.mono ?_
     rintro e w' ⟨rfl,rfl⟩
     go_wp2
     refine ⟨⟨m,by go_num,by omega,?_⟩,by simp [intOf]⟩
     rw [w9 xs m,w9 ys m,HX.out,HY.out,HE.out,HXY.out]
    ·go_wp2_with fail
     refine Q1.out.mono ?_
     rintro e w' ⟨rfl,rfl⟩
     go_wp2_with fail
     refine Q2.out.mono ?_
     rintro e w' ⟨rfl,rfl⟩
     go_wp2_with fail
     refine Q1.out.mono ?_
     rintro e w' ⟨rfl,rfl⟩
     go_wp2_with fail
     refine Q2.out.mono ?_
     rintro e w' ⟨rfl,rfl⟩
     go_wp2
     go_ret
     rw [C2.out (wT3 ys xs m HLT2.out (wJF ys xs m y x HY.out HX.out HE.out.symm hxy))]; exact ⟨rfl,rfl⟩
theorem wZ4 (lo h1 lo2 h12:Nat) (v v2:Value) (xs ys:List Nat) (w:World) (h:wO lo h1 w v xs) (h2:wO lo2 h12 w v2 ys) (hhi:h1≤w.heap.size) (hhi2:h12≤w.heap.size) (hl:xs.length≤17592186044416)
  (hle:wB ys≤wB xs) :
  Calls Tryz.prog 197 #[v,v2] w fun e w'=>∃ r,e=.returned r∧wO w.heap.size w'.heap.size w' r (toL (wB xs - wB ys))∧Below w.heap.size w w':=by
 obtain ⟨ad,cap,rfl,hc,_,hlt,_⟩:=h.open; obtain ⟨ad2,cap2,rfl,hc2,_,hlt2,_⟩:=h2.open
 have HLT:=hid hlt; have HLT2:=hid hlt2
 have HLE:=hid hle; clear hlt hlt2 hle
 go_enter Tryz.func197,Tryz.ntmps197
 go_wp2_with (at_make; refine kH j7 rfl _ _ rfl w.heap.size _ _ _ _ xs.length xs.length rfl rfl rfl rfl (pE _) (by omega) (Below.refl _ _) (pE _) ?_)
 intro w1 ho1 hb1 _
 go_wp2
 go_loopw [6,14] (fun cv t wr=>∃ (i c:Nat) (cur:List Nat),t=.int .i64 i∧cv=.int .u64 c∧c≤1∧i≤xs.length ∧
   wr.ownsRow w.heap.size 180 1 (.slice (some ⟨w.heap.size,0,none⟩) xs.length xs.length) xs.length (kP cur)∧Below w.heap.size w wr ∧
   (∀ x,x∈cur→x<4294967296)∧wB (cur.take i)+wB (ys.take i)=wB (xs.take i)+4294967296 ^ i*c) (fun _ t _=>xs.length - (intOf t).toNat)
 case atStart=>exact ⟨0,0,_,rfl,rfl,by omega,pH _,ho1,hb1,wDB _,by simp [wB]⟩
 case round =>
  obtain ⟨i,c,cur,rfl,rfl,hc1,hi,hown,hbel,hcl,hval⟩:=hrel; have HV:=hid hval
  have HCL:=hid hcl; clear hval hcl ho1 hb1
  by_cases hil:i<xs.length
  ·obtain ⟨x,hx⟩:∃ x,xs.getD i 0=x:=⟨_,rfl⟩
   obtain ⟨y,hy⟩:∃ y,ys.getD i 0=y:=⟨_,rfl⟩; have hx32:x<4294967296:=by rw [← hx]; exact getD_lt xs HLT.out i
   have hy32:y<4294967296:=by rw [← hy]; exact getD_lt ys HLT2.out i
   have q1:=yF lo h1 _ xs i x wr (h.below hbel hhi) (by omega) hx
   have q2:=yF lo2 h12 _ ys i y wr (h2.below hbel hhi2) (by omega) hy
   have HX:=hid hx; have HY:=hid hy
   have Q1:=hid q1; have Q2:=hid q2
   obtain ⟨c1,c2⟩:=j5 hown i hil; clear hx hy q1 q2
   go_wp2_with fail
   refine Q1.out.mono ?_
   rintro e w' ⟨rfl,rfl⟩
   go_wp2_with fail
   refine Q2.out.mono ?_
   rintro e w' ⟨rfl,rfl⟩
   go_wp2
   have hs:=j6 hown i ((4294967296+x - y - c) % 4294967296); have hln:=zO hown
   have e1:(4294967296+(x:Int) - y - c)=((4294967296+x - y - c:Nat):Int):=by omega
   have e2:(1:Int) - (4294967296+(x:Int) - y - c) / 4294967296=((1 - (4294967296+x - y - c) / 4294967296:Nat):Int):=by omega
   refine ⟨⟨i+1,1 - (4294967296+x - y - c) / 4294967296,_,by go_num,by rw [e2],by omega,by omega,by rw [e1]; simpa using hs.1,by rw [e1]; exact hbel.setCell (by exact pE _) _,vA _ _ _ HCL.out (by omega),?_⟩,by simp [intOf]; omega⟩
   rw [wIJ _ _ _ _ hln hil,qD xs,qD ys,HX.out,HY.out,mY]; exact wZ3 _ _ c (4294967296+x - y - c) _ _ x y _ HV.out (by omega) rfl (by omega)
  ·obtain rfl:i=xs.length:=by omega
   have hln:=zO hown; have hv:wB cur=wB xs - wB ys:=by
    have:=HV.out; rw [zN cur _ (by omega),zN xs _ (by omega)] at this
    have p1:=qR xs HLT.out; have p2:=qR cur HCL.out
    have p3:=qQ ys xs.length; have p4:=HLE.out
    rw [hln] at p2; generalize 4294967296 ^ xs.length=P at *
    have z1:wB (ys.drop xs.length)=0:=wG5 P _ _ p1 (by omega)
    rw [z1,dN] at p3; have z2:c=0:=wG5 P _ _ p2 (by omega)
    rw [z2,dN] at this; omega
   have hN:=zY _ _ _ cur wr (wO.ofOwn hown HCL.out) (by omega)
   rw [hv] at hN; clear hv hln
   go_wp2_with (go_at_call 206; refine hN.mono ?_; rintro e w' ⟨r,rfl,hr,hb2⟩)
   go_ret
   exact ⟨_,rfl,hr.wide hbel.size (pE _),hbel.trans (hb2.mono hbel.size)⟩
end Go.Proofs.YtkjhfnhgefbhhaaGreat
/- nat.Cmp: which one is greater. -/
namespace Go.Proofs.YtkjhfnhgefbhhaaGreat
open Go.RowKit
theorem qC {a b:Nat} (h:a≤b):(toL a).length≤(toL b).length:=by
 refine kX a _ (pA8 h ?_)
 have:=qR (toL b) (zE b)
 rwa [wM] at this
theorem cmpN_lt {a b:Nat} (h:a<b):kA a b = -1:=by simp [kA,h]
theorem cmpN_gt {a b:Nat} (h:b<a):kA a b=1:=by rw [kA,if_neg (by omega),if_pos h]
theorem cmpN_eq (a:Nat):kA a a=0:=by simp [kA]
theorem cmp_any (lo h1 lo2 h12:Nat) (v v2:Value) (xs ys:List Nat) (w:World) (h:wO lo h1 w v xs) (h2:wO lo2 h12 w v2 ys) (hl:xs.length≤35184372088832) (hl2:ys.length≤35184372088832) :
  Calls Tryz.prog 132 #[v,v2] w fun e w'=>e=.returned (.int .i64 (kA (wB xs) (wB ys)))∧Below w.heap.size w w':=by
 have t1:=qT xs (by obtain ⟨_,_,_,_,_,hlt,_⟩:=h.open; exact hlt)
 have t2:=qT ys (by obtain ⟨_,_,_,_,_,hlt,_⟩:=h2.open; exact hlt)
 have l1:=kK xs; have l2:=kK ys
 have q1:=v6 lo h1 v xs w h (by omega)
 have q2:=v6 lo2 h12 v2 ys w h2 (by omega)
 rw [t1] at q1 l1; rw [t2] at q2 l2
 obtain ⟨X,hX⟩:∃ X,wB xs=X:=⟨_,rfl⟩; obtain ⟨Y,hY⟩:∃ Y,wB ys=Y:=⟨_,rfl⟩
 rw [hX] at q1 l1 ⊢; rw [hY] at q2 l2 ⊢
 have HX:=hid (wM X); have HY:=hid (wM Y)
 have HL1:=hid (@qC X Y); have HL2:=hid (@qC Y X)
 clear hX hY h h2 t1 t2; generalize toL X=us at *
 generalize toL Y=vs at *; have Q1:=hid q1
 have Q2:=hid q2; clear q1 q2
 go_enter Tryz.func132,Tryz.ntmps132
 go_wp2_with fail
 refine Q1.out.mono ?_
 rintro e w' ⟨r1,rfl,hr1,rfl⟩
 go_wp2_with fail
 refine Q2.out.mono ?_
 rintro e w' ⟨r2,rfl,hr2,rfl⟩
 obtain ⟨ad,cap,rfl,_,_,hlt1,hcell⟩:=hr1.open; obtain ⟨ad2,cap2,rfl,_,_,hlt2,hcell2⟩:=hr2.open
 have HC:=hid hcell; have HC2:=hid hcell2
 have HLT1:=hid hlt1; have HLT2:=hid hlt2
 clear Q1 Q2 hr1 hr2 hcell hcell2 hlt1 hlt2; rcases pB4 us.length vs.length with hlen | hlen | hlen
 ·have hc:=cmpN_lt (a:=X) (b:=Y) (by
   rcases pG X Y with h | h
   ·exact h
   ·have:=HL2.out h; omega)
  have hb:((us.length:Int) != vs.length)=true:=by simp [bne_iff_ne]; omega
  have HH:=hid hc; clear hc
  go_wp2
  go_ret
  rw [HH.out]; exact ⟨rfl,Below.refl _ _⟩
 ·have hb:((us.length:Int) != vs.length)=false:=by simp [hlen]
  have HLEN:=hid hlen; clear hlen
  go_wp2
  go_loopw [5] (fun t wr=>∃ k:Nat,t=.int .i64 ((k:Int) - 1)∧k≤us.length∧Below w.heap.size w wr∧wB (us.drop k)=wB (vs.drop k)) (fun t _=>(intOf t+1).toNat)
  case atStart=>exact ⟨us.length,rfl,pE _,Below.refl _ _,by rw [List.drop_length,HLEN.out,List.drop_length]⟩
  case round =>
   obtain ⟨k,rfl,hk,hbel,he⟩:=hrel; have HE:=hid he
   clear he hb; cases k with
   | zero =>
    go_wp2
    go_ret
    have:=HE.out; rw [dG,dG,HX.out,HY.out] at this
    rw [this,cmpN_eq]; exact ⟨rfl,hbel⟩
   | succ m =>
    have hlv:=HLEN.out; obtain ⟨b,off,rfl,_,_,hc1⟩:=HC.out m (by omega)
    obtain ⟨b2,off2,rfl,_,_,hc2⟩:=HC2.out m (by omega)
    obtain ⟨x,hx⟩:∃ x,us.getD m 0=x:=⟨_,rfl⟩; obtain ⟨y,hy⟩:∃ y,vs.getD m 0=y:=⟨_,rfl⟩
    rw [hx] at hc1; rw [hy] at hc2
    have d1:=wK7 hbel hc1 (pE _); have d2:=wK7 hbel hc2 (pE _)
    have f1:(m:Int)<(us.length:Int):=by omega
    have f2:(m:Int)<(vs.length:Int):=by omega
    have HXX:=hid hx; have HYY:=hid hy
    clear hc1 hc2 hx hy hlv; rcases pB4 x y with hxy | hxy | hxy
    ·have e1:((x:Int) != (y:Int))=true:=by simp [bne_iff_ne]; omega
     have e2:decide ((x:Int)<(y:Int))=true:=by simp; omega
     go_wp2
     go_quiet (fail)
     go_wp2
     go_quiet (fail)
     go_wp2
     go_ret
     have:=wT3 us vs m HLT1.out (wJF us vs m x y HXX.out HYY.out HE.out hxy); rw [HX.out,HY.out] at this
     rw [cmpN_lt this]; exact ⟨rfl,wLI (wLI hbel _) _⟩
    ·subst hxy
     go_wp2
     go_quiet (fail)
     go_wp2
     refine ⟨⟨m,by go_num,by omega,wLI hbel _,?_⟩,by simp [intOf]⟩
     rw [w9 us m,w9 vs m,HXX.out,HYY.out,HE.out]
    ·have e1:((x:Int) != (y:Int))=true:=by simp [bne_iff_ne]; omega
     have e2:decide ((x:Int)<(y:Int))=false:=by simp; omega
     go_wp2
     go_quiet (fail)
     go_wp2
     go_quiet (fail)
     go_wp2
     go_ret
     have:=wT3 vs us m HLT2.out (wJF vs us m y x HYY.out HXX.out HE.out.symm hxy); rw [HX.out,HY.out] at this
     rw [cmpN_gt this]; exact ⟨rfl,wLI (wLI hbel _) _⟩
 ·have hc:=cmpN_gt (a:=X) (b:=Y) (by
   rcases pG Y X with h | h
   ·exact h
   ·have:=HL1.out h; omega)
  have hb:((us.length:Int) != vs.length)=true:=by simp [bne_iff_ne]; omega
  have hb2:decide (us.length<vs.length)=false:=by simp; omega
  have HH:=hid hc; clear hc
  go_wp2
  go_ret
  rw [HH.out]; exact ⟨rfl,Below.refl _ _⟩
end Go.Proofs.YtkjhfnhgefbhhaaGreat
/- Limbs shifted; common divisors by halves. Plain; no condition. -/
namespace Go.Proofs.YtkjhfnhgefbhhaaGreat
open Go.RowKit
theorem wY9 (xs:List Nat) (i:Nat) (hx:∀ x,x∈xs→x<4294967296):wB xs / 4294967296 ^ i=wB (xs.drop i):=by
 have h1:=qQ xs i; have h2:=kU xs i hx
 rw [h1,fT,Nat.mul_add_div (bD (by decide)),pE5 h2,cJ]
theorem pow32 (s:Nat) (hs:s≤32):∃ c,4294967296=2 ^ s*c:=⟨2 ^ (32 - s),by rw [← bW,show s+(32 - s)=32 by omega]⟩
theorem wRI (xs:List Nat) (i s:Nat) (hs:s≤32) (hx:∀ x,x∈xs→x<4294967296) :
  wB xs / 2 ^ s / 4294967296 ^ i % 4294967296=(xs.getD i 0+4294967296*xs.getD (i+1) 0) / 2 ^ s % 4294967296:=by
 obtain ⟨c,hc⟩:=pow32 s hs; rw [Nat.div_div_eq_div_mul,mL,← Nat.div_div_eq_div_mul,wY9 xs i hx,w9 xs i,w9 xs (i+1)]
 generalize wB (xs.drop (i+1+1))=R; generalize xs.getD i 0=x
 generalize xs.getD (i+1) 0=y; have e:x+4294967296*(y+4294967296*R)=x+4294967296*y+2 ^ s*(c*(4294967296*R)):=by
  rw [mD,← cB,← mJ (2 ^ s),← hc]
 rw [e,pC8 _ _ (bD (by decide)),fP,gY]
theorem right_step (N P d:Nat) (hd:N / P % 4294967296=d):N % (P*4294967296)=N % P+P*d:=by
 rw [Nat.mod_mul,hd]
theorem wZB (xs:List Nat) (s:Nat) (hx:∀ x,x∈xs→x<4294967296):wB xs / 2 ^ s % 4294967296 ^ xs.length=wB xs / 2 ^ s :=
 cA (pA8 (cN _ _) (qR xs hx))
theorem left_step (P A c N x s:Nat) (h:A+P*c=N*2 ^ s) (hc:c<2 ^ s) (hs:s<32) :
  A+P*(x*2 ^ s % 4294967296+c)+P*4294967296*(x*2 ^ s / 4294967296)=(N+P*x)*2 ^ s∧x*2 ^ s % 4294967296+c<4294967296∧(x<4294967296→x*2 ^ s / 4294967296<2 ^ s):=by
 have h1:=cX (x*2 ^ s) 4294967296; refine ⟨?_,?_,fun hx=>?_⟩
 ·rw [cY,← h,mJ P x]
  have h2:P*(x*2 ^ s)=P*4294967296*(x*2 ^ s / 4294967296)+P*(x*2 ^ s % 4294967296):=by
   conv=>lhs; rw [← h1]
   rw [mD,mJ]
  rw [h2,mD]; omega
 ·obtain ⟨d,hd⟩:=pow32 s (by omega)
  have e:x*2 ^ s % 4294967296=2 ^ s*(x % d):=by rw [hd,mL x,Nat.mul_mod_mul_left]
  have hd0:0<d:=by
   rcases mF d with h0 | h0
   ·subst h0; simp at hd
   ·exact h0
  have hm:=dJ x hd0; have:2 ^ s*(x % d+1)≤2 ^ s*d:=mQ _ hm
  rw [mD,gC,← hd] at this; omega
 ·refine pC7 ?_
  exact (gL (bD (by decide))).2 hx
theorem or_low (x s c:Nat) (hs:s<32) (hc:c<2 ^ s):(x*2 ^ s % 4294967296) ||| c=x*2 ^ s % 4294967296+c:=by
 obtain ⟨d,hd⟩:=pow32 s (by omega)
 have e:x*2 ^ s % 4294967296=2 ^ s*(x % d):=by rw [hd,mL x,Nat.mul_mod_mul_left]
 rw [e,← gI hc]
theorem qHA {a b:Nat} (ha:a % 2=0) (hg:Nat.gcd a b % 2=1):Nat.gcd (a / 2) b=Nat.gcd a b:=by
 obtain ⟨c,rfl⟩:=bG ha; have hb:b % 2=1:=by
  rcases dS b with h | h
  ·exfalso
   obtain ⟨d,rfl⟩:=bG h; rw [Nat.gcd_mul_left] at hg
   omega
  ·exact h
 rw [pB1 _ (by decide)]
 have hc:Nat.Coprime 2 b:=by
  unfold Nat.Coprime; rw [Nat.gcd_rec,hb]
  rfl
 exact (Nat.Coprime.gcd_mul_left_cancel c hc).symm
theorem gcd_both {a b:Nat} (ha:a % 2=0) (hb:b % 2=0):Nat.gcd a b=2*Nat.gcd (a / 2) (b / 2):=by
 obtain ⟨c,rfl⟩:=bG ha; obtain ⟨d,rfl⟩:=bG hb
 rw [Nat.gcd_mul_left,pB1 _ (by decide),pB1 _ (by decide)]
theorem gcd_odd {a b:Nat} (h:¬ (a % 2=0∧b % 2=0)):Nat.gcd a b % 2=1:=by
 rcases dS (Nat.gcd a b) with h1 | h1
 ·exfalso
  have h2:=bG h1; exact h ⟨Nat.mod_eq_zero_of_dvd (gS h2 (pC2 a b)),Nat.mod_eq_zero_of_dvd (gS h2 (Nat.gcd_dvd_right a b))⟩
 ·exact h1
theorem qH9 {a b:Nat} (h:b≤a):Nat.gcd (a - b) b=Nat.gcd a b:=by
 rw [fK,fK a]; exact Nat.gcd_sub_self_right h
theorem wZG (l:List Nat) (j v:Nat) (h:j<l.length):wB (l.set j v)+4294967296 ^ j*l.getD j 0=wB l+4294967296 ^ j*v:=by
 induction l generalizing j with
 | nil=>simp at h
 | cons x xs ih =>
  cases j with
  | zero=>simp only [List.set_cons_zero,wB,List.getD_cons_zero,Nat.pow_zero]; omega
  | succ j =>
   have:=ih j (by simpa using h)
   simp only [List.set_cons_succ,wB,List.getD_cons_succ,Nat.pow_succ]
   have e1:4294967296 ^ j*4294967296*xs.getD j 0=4294967296*(4294967296 ^ j*xs.getD j 0):=by rw [mL (4294967296 ^ j),mJ]
   have e2:4294967296 ^ j*4294967296*v=4294967296*(4294967296 ^ j*v):=by rw [mL (4294967296 ^ j),mJ]
   rw [e1,e2]; generalize 4294967296 ^ j*xs.getD j 0=p at *
   generalize 4294967296 ^ j*v=q at *; omega
theorem wGA (n:Nat):wB (List.replicate n 0)=0:=by
 induction n with
 | zero=>rfl
 | succ n ih=>simp [List.replicate_succ,wB,ih]
theorem mul_step (P O O' o x y c V Yk:Nat) (h:O+P*c=V+x*Yk) (hset:O'+P*o=O+P*((x*y+o+c) % 4294967296)) :
  O'+P*4294967296*((x*y+o+c) / 4294967296)=V+x*(Yk+P*y):=by
 have h1:=cX (x*y+o+c) 4294967296; have e1:P*(x*y+o+c)=P*4294967296*((x*y+o+c) / 4294967296)+P*((x*y+o+c) % 4294967296):=by
  conv=>lhs; rw [← h1]
  rw [mD,mJ]
 rw [mD,mD] at e1; rw [mD,fP x P y]
 omega
end Go.Proofs.YtkjhfnhgefbhhaaGreat
