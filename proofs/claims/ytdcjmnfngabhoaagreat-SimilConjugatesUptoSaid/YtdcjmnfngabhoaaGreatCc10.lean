/- simileref01's limb, Zero, Same, Norm, Of: what they hand back. -/
import Derived.Test.YtdcjmnfngabhoaaGreatCc09
import Derived.BigQuiet
import Derived.Deep.QuietTactic
import Derived.Deep.DeepCutAuto
import Derived.Deep.RegionWith
set_option linter.all false
set_option maxRecDepth 20000
set_option maxHeartbeats 6400000
namespace Go.Proofs.YtdcjmnfngabhoaaGreat
open Go.RowKit
theorem xU(lo hi:Nat)(v:Value)(xs:List Nat)(k x:Nat)(w:World)(h:wL lo hi w v xs)(hk:k≤35184372088832)(hx:xs.getD k 0=x) :
  Calls Tryz.prog 171 #[v,.int .i64 k] w fun e w'=>e=.returned (.int .u64 (x:Nat))∧w=w':=by
 obtain⟨ad,cap,rfl,hc,_,hlt,hcell⟩:=h.open;by_cases hkl:k<xs.length
 ·obtain⟨b,off,rfl,_,_,hc1⟩:=hcell k hkl;rw[hx]at hc1;have hx32:x<4294967296:=by rw[←hx];exact hlt _ (by simp[List.getD_eq_getElem?_getD,hkl])
  clear hcell hlt h hx
  go_enter Tryz.func171,Tryz.ntmps171
  go_wp2
  go_ret
  exact⟨rfl,rfl⟩
 ·obtain rfl:x=0:=by rw[←hx,pE,pW (by omega)];rfl
  clear hcell hlt h hx
  go_enter Tryz.func171,Tryz.ntmps171
  go_wp2
  go_ret
  exact⟨rfl,rfl⟩
theorem wT7(xs:List Nat):wC xs=0↔∀x,x∈xs→x=0:=by
 induction xs with
 |nil=>simp[wC]
 |cons y ys ih=>simp only[wC,List.forall_mem_cons,←ih];omega
theorem zero01_any(lo hi:Nat)(v:Value)(xs:List Nat)(w:World)(h:wL lo hi w v xs)(hl:xs.length≤35184372088832) :
  Calls Tryz.prog 100 #[v] w fun e w'=>e=.returned (.bool (decide (wC xs=0)))∧w=w':=by
 obtain⟨ad,cap,rfl,hc,_,hlt,hcell⟩:=h.open;clear hlt h;have HC:=hid hcell;clear hcell
 go_enter Tryz.func100,Tryz.ntmps100
 go_wp2
 go_loop [7] (fun t=>∃k:Nat,t=.int .i64 k∧k≤xs.length∧∀x,x∈xs.take k→x=0) (fun t=>xs.length-(intOf t).toNat)
 case atStart=>exact⟨0,rfl,pN _,by simp⟩
 case round=>
  obtain⟨k,rfl,hk,hz⟩:=hrel;have HZ:=hid hz;clear hz;by_cases hkl:k<xs.length
  ·obtain⟨b,off,rfl,_,_,hc1⟩:=HC.out k hkl;obtain⟨x,hx⟩:∃x,x=xs.getD k 0:=⟨_,rfl⟩
   rw[←hx]at hc1;have HX:=hid hx;clear hx
   go_wp2
   ·have h1:((x:Int) != 0)=true:=by assumption
    go_ret
    have:decide (wC xs=0)=false:=by rw[decide_eq_false_iff_not,wT7];intro h;have:=h x (by rw[HX.out];exact qF6 xs k hkl);simp[this]at h1
    rw[this];exact⟨rfl,rfl⟩
   ·have h1:((x:Int) != 0)=false:=by assumption
    refine⟨⟨k+1,by go_num,by omega,?_⟩,by simp[intOf];omega⟩;intro y hy;rw[j4 xs 0 k hkl,cJ]at hy;rcases hy with hy|hy
    ·exact HZ.out y hy
    ·simp only[List.mem_singleton]at hy;rw[hy,←HX.out];simpa using h1
  ·obtain rfl:k=xs.length:=by omega
   go_wp2
   go_ret
   have:decide (wC xs=0)=true:=by rw[decide_eq_true_eq,wT7];intro x hx;exact HZ.out x (by rw[mZ];exact hx)
   rw[this];exact⟨rfl,rfl⟩
theorem same01_any(lo hi lo2 hi2:Nat)(v v2:Value)(xs ys:List Nat)(w:World)(h:wL lo hi w v xs)(h2:wL lo2 hi2 w v2 ys)(hl:xs.length≤35184372088832) :
  Calls Tryz.prog 43 #[v,v2] w fun e w'=>e=.returned (.bool (decide (xs=ys)))∧Below w.heap.size w w':=by
 obtain⟨ad,cap,rfl,hc,_,hlt,hcell⟩:=h.open;obtain⟨ad2,cap2,rfl,hc2,_,hlt2,hcell2⟩:=h2.open;clear hlt h hlt2 h2;have HC:=hid hcell;have HC2:=hid hcell2;clear hcell hcell2;by_cases hlen:xs.length=ys.length
 ·have hb:((xs.length:Int) != ys.length)=false:=by simp[hlen]
  have HL:=hid hlen
  go_enter Tryz.func43,Tryz.ntmps43
  go_wp2
  go_loopw [13] (fun t wr=>∃k:Nat,t=.int .i64 k∧k≤xs.length∧Below w.heap.size w wr∧xs.take k=ys.take k) (fun t _=>xs.length-(intOf t).toNat)
  case atStart=>exact⟨0,rfl,pN _,Below.refl _ _,rfl⟩
  case round=>
   obtain⟨k,rfl,hk,hbel,he⟩:=hrel;have HE:=hid he;clear he hb;by_cases hkl:k<xs.length
   ·have hkl2:k<ys.length:=by omega
    obtain⟨b,off,rfl,_,_,hc1⟩:=HC.out k hkl;obtain⟨b2,off2,rfl,_,_,hc12⟩:=HC2.out k hkl2;obtain⟨x,hx⟩:∃x,x=xs.getD k 0:=⟨_,rfl⟩
    obtain⟨y,hy⟩:∃y,y=ys.getD k 0:=⟨_,rfl⟩
    rw[←hx]at hc1;rw[←hy]at hc12;have HX:=hid hx;have HY:=hid hy;have d1:=wJJ hbel hc1 (pC _);have d2:=wJJ hbel hc12 (pC _);clear hx hy hc1 hc12 hlen;have f1:(k:Int)<(xs.length:Int):=by omega
    have f2:(k:Int)<(ys.length:Int):=by omega
    go_wp2
    go_quiet (fail)
    go_wp2
    ·have h1:((x:Int) != (y:Int))=true:=by assumption
     go_ret
     have:decide (xs=ys)=false:=by rw[decide_eq_false_iff_not];intro e;rw[HX.out,HY.out,e]at h1;simp at h1
     rw[this];exact⟨rfl,wL8 hbel _⟩
    ·have h1:((x:Int) != (y:Int))=false:=by assumption
     refine⟨⟨k+1,by go_num,by omega,wL8 hbel _,?_⟩,by simp[intOf];omega⟩;rw[j4 xs 0 k hkl,j4 ys 0 k hkl2,HE.out,←HX.out,←HY.out]
     have:x=y:=by
      have h2:(x:Int)=y:=by simpa using h1
      omega
     rw[this]
   ·obtain rfl:k=xs.length:=by omega
    go_wp2
    go_ret
    have:decide (xs=ys)=true:=by
     rw[decide_eq_true_eq];have:=HE.out
     rwa [mZ,HL.out,mZ]at this
    rw[this];exact⟨rfl,hbel⟩
 ·have hb:((xs.length:Int) != ys.length)=true:=by simp[bne_iff_ne];omega
  have hd:decide (xs=ys)=false:=by rw[decide_eq_false_iff_not];intro e;exact hlen (by rw[e])
  have HD:=hid hd;clear hlen hd
  go_enter Tryz.func43,Tryz.ntmps43
  go_wp2
  go_ret
  rw[HD.out];exact⟨rfl,Below.refl _ _⟩
theorem zI(lo hi:Nat)(v:Value)(xs:List Nat)(w:World)(h:wL lo hi w v xs)(hl:xs.length≤35184372088832) :
  Calls Tryz.prog 107 #[v] w fun e w'=>∃r,e=.returned r∧wL w.heap.size w'.heap.size w' r (toL (wC xs))∧Below w.heap.size w w':=by
 obtain⟨ad,cap,rfl,hc,_,hlt,hcell⟩:=h.open;have hT:=qT xs hlt;have hTlt:∀x,x∈qF xs→x<4294967296:=fun x h=>hlt x (wO8 xs x h);have HT:=hid hT;have HTL:=hid hTlt;have HC:=hid hcell;clear hcell hT hlt h hTlt
 go_enter Tryz.func107,Tryz.ntmps107
 go_wp2
 go_loop [3] (fun t=>∃k:Nat,t=.int .i64 k∧k≤xs.length∧qF (xs.take k)=qF xs) (fun t=>(intOf t).toNat)
 case atStart=>exact⟨xs.length,rfl,pC _,by simp⟩
 case round=>
  obtain⟨k,rfl,hk,ht⟩:=hrel;have HK:=hid ht;clear ht;by_cases hz:k≠0∧xs.getD (k-1) 0=0
  ·obtain⟨m,rfl⟩:∃m,k=m+1:=⟨k-1,by omega⟩
   obtain⟨b,off,rfl,_,_,hc1⟩:=HC.out m (by omega);have h0:=hz.2;rw[show m+1-1=m from rfl]at h0;rw[h0]at hc1;have H0:=hid h0;clear hz h0
   go_wp2
   refine⟨⟨m,by go_num,by omega,?_⟩,by simp[intOf]⟩;rw[←HK.out,j4 xs 0 m (by omega),H0.out,vX]
  ·have hcond:k=0∨∃m x b off,k=m+1∧x≠0∧xs.getD m 0=x∧ad=some ⟨b,off,none⟩∧w.cell? ⟨b,off+m,none⟩=some (.int .u32 (x:Nat)):=by
    by_cases h0:k=0
    ·exact .inl h0
    ·obtain⟨b,off,h1,_,_,hc1⟩:=HC.out (k-1) (by omega);refine .inr ⟨k-1,xs.getD (k-1) 0,b,off,by omega,fun h=>hz ⟨h0,h⟩,rfl,h1,hc1⟩
   have hk2:qF xs=xs.take k:=by
    rw[←HK.out];rcases hcond with rfl|⟨m,x,_,_,rfl,hx,hx2,_⟩
    ·rfl
    ·rw[j4 xs 0 m (by omega),hx2,wK7 _ _ hx]
   have hlen:(qF xs).length=k:=by rw[hk2,pV];omega
   have HK2:=hid hk2;have HLEN:=hid hlen;clear HK hk2 hlen hz;rcases hcond with rfl|⟨m,x,b,off,rfl,hx,hx2,rfl,hc1⟩
   ·go_wp2_with (at_make;refine zM jT rfl _ _ rfl w.heap.size _ _ _ _ 0 0 rfl rfl rfl rfl (pC _) (by decide) (Below.refl _ _) (pC _) ?_)
    intro w1 ho1 hb1 _
    go_wp2
    refine wp_loop_rounds 1 ?_;rw[rounds_succ]
    go_wp2
    go_ret
    refine⟨_,rfl,?_,hb1⟩;rw[←HT.out,HK2.out];exact(wL.ofOwn (xs:=[]) ho1 (by simp)).wide (pC _) (pC _)
   ·have hxi:((x:Int)==0)=false:=by rw[beq_eq_false_iff_ne];omega
    have HX2:=hid hx2;have HX:=hid hx;clear hx hx2
    go_wp2_with (at_make;refine zM jT rfl _ _ rfl w.heap.size _ _ _ _ (m+1) (m+1) rfl rfl (by omega) (by omega) (pC _) (by omega) (Below.refl _ _) (pC _) ?_)
    intro w1 ho1 hb1 _;clear hc1 hxi
    go_wp2
    go_loopw [5] (fun t wr=>∃(i:Nat)(cur:List Nat),t=.int .i64 i∧i≤m+1∧wr.ownsRow w.heap.size 130 1 (.slice (some ⟨w.heap.size,0,none⟩) (m+1) (m+1)) (m+1) (zS cur) ∧
      Below w.heap.size w wr∧cur.take i=xs.take i) (fun t _=>m+1-(intOf t).toNat)
    case atStart=>exact⟨0,_,rfl,pN _,ho1,hb1,rfl⟩
    case round=>
     obtain⟨i,cur,rfl,hi,hown,hbel,hcur⟩:=hrel;have HCUR:=hid hcur;clear hcur ho1 hb1;by_cases hil:i<m+1
     ·obtain⟨b',off',hba,_,_,hc1⟩:=HC.out i (by omega);simp only[Option.some.injEq,Addr.mk.injEq,and_true]at hba;obtain⟨rfl,rfl⟩:=hba;obtain⟨y,hy⟩:∃y,y=xs.getD i 0:=⟨_,rfl⟩
      rw[←hy]at hc1;have d1:=wJJ hbel hc1 (pC _);obtain⟨c1,c2⟩:=jP hown i hil;have HY:=hid hy;have f1:(i:Int)<(xs.length:Int):=by omega
      have f2:(i:Int)<(m+1:Nat):=by omega
      clear hy hc1
      go_wp2
      have hs:=jQ hown i y;refine⟨⟨i+1,cur.set i y,by go_num,by omega,hs.1,hbel.setCell (by exact pC _) _,?_⟩,by simp[intOf];omega⟩;have hcl:=zF hown;rw[z7 _ _ _ (by omega),HCUR.out,j4 xs 0 i (by omega),HY.out]
     ·obtain rfl:i=m+1:=by omega
      have hcl:=zF hown;have he:qF xs=cur:=by rw[HK2.out,←HCUR.out,pR (by omega)]
      have HE:=hid he;clear he hcl
      go_wp2
      go_ret
      refine⟨_,rfl,?_,hbel⟩;rw[←HT.out,HE.out];exact wL.ofOwn hown (by rw[←HE.out];exact HTL.out)
theorem of01_any(n:Nat)(w:World)(hn:n<18446744073709551616) :
  Calls Tryz.prog 61 #[.int .u64 (n:Nat)] w fun e w'=>∃r,e=.returned r∧wL w.heap.size w'.heap.size w' r (toL n)∧Below w.heap.size w w':=by
 have hv:wC [n%4294967296,n/4294967296]=n:=by simp only[wC];omega
 obtain⟨a,ha⟩:∃a,a=n%4294967296:=⟨_,rfl⟩
 obtain⟨b,hb⟩:∃b,b=n/4294967296:=⟨_,rfl⟩
 have ha2:(n:Int)%4294967296=(a:Nat):=by omega
 have hb2:(n:Int)/4294967296=(b:Nat):=by omega
 rw[←ha,←hb]at hv;have hal:a<4294967296:=by omega
 have hbl:b<4294967296:=by omega
 clear ha hb hn;have HV:=hid hv;clear hv;have hown:(w.alloc (.cells #[.int .u32 (a:Nat),.int .u32 (b:Nat)] 130)).ownsRow w.heap.size 130 1 (.slice (some ⟨w.heap.size,0,none⟩) 2 2) 2 (zS [a,b]):=
  World.ownsRow_lit w _ 2 (pC _) (by decide) rfl
 have hb1:Below w.heap.size w (w.alloc (.cells #[.int .u32 (a:Nat),.int .u32 (b:Nat)] 130)):=(Below.refl _ _).alloc (pC _) _;have hL:=wL.ofOwn hown (by intro x hx;simp at hx;rcases hx with rfl|rfl<;>assumption);have hN:=zI _ _ _ _ _ hL (by simp);rw[HV.out]at hN;clear hown hL
 go_enter Tryz.func61,Tryz.ntmps61
 go_wp2_with (go_at_call 107;refine hN.mono ?_;rintro e w' ⟨r,rfl,hr,hb2⟩)
 go_ret
 exact⟨_,rfl,hr.wide hb1.size (pC _),hb1.trans (hb2.mono hb1.size)⟩
theorem wYC(lo h1 lo2 h12:Nat)(v v2:Value)(xs ys:List Nat)(w:World)(h:wL lo h1 w v xs)(h2:wL lo2 h12 w v2 ys)(hhi:h1≤w.heap.size)(hhi2:h12≤w.heap.size)(hl:xs.length≤17592186044416)(hl2:ys.length≤17592186044416) :
  Calls Tryz.prog 126 #[v,v2] w fun e w'=>∃r,e=.returned r∧wL w.heap.size w'.heap.size w' r (toL (wC xs+wC ys))∧Below w.heap.size w w':=by
 obtain⟨ad,cap,rfl,hc,_,hlt,_⟩:=h.open;obtain⟨ad2,cap2,rfl,hc2,_,hlt2,_⟩:=h2.open;have HLT:=hid hlt;have HLT2:=hid hlt2;clear hlt hlt2
 go_enter Tryz.func126,Tryz.ntmps126
 go_upto_if 15 with(fail)
 go_cut [5] (fun t w'=>w'=w∧∃n:Nat,t=.int .i64 n∧xs.length≤n∧ys.length≤n∧n≤17592186044416)
 case first=>
  by_cases hle:ys.length≤xs.length
  ·go_wp2
   go_meet
   exact⟨rfl,xs.length,rfl,by omega,by omega,by omega⟩
  ·go_wp2
   go_meet
   exact⟨rfl,ys.length,rfl,by omega,by omega,by omega⟩
 case rest=>
  obtain⟨rfl,n,rfl,hn1,hn2,hn⟩:=hcut
  go_wp2_with (at_make;refine zM jT rfl _ _ rfl wc.heap.size _ _ _ _ (n+1) (n+1) rfl rfl (by omega) (by omega) (pC _) (by omega) (Below.refl _ _) (pC _) ?_)
  intro w1 ho1 hb1 _
  go_wp2
  have h3:=ho1
  go_loopw [7,23] (fun cv t wr=>∃(i c:Nat)(cur:List Nat),t=.int .i64 i∧cv=.int .u64 c∧c≤1∧i≤n+1 ∧
    wr.ownsRow wc.heap.size 130 1 (.slice (some ⟨wc.heap.size,0,none⟩) (n+1) (n+1)) (n+1) (zS cur)∧Below wc.heap.size wc wr ∧
    (∀x,x∈cur→x<4294967296)∧wC (cur.take i)+4294967296^i*c=wC (xs.take i)+wC (ys.take i)) (fun _ t _=>n+1-(intOf t).toNat)
  case atStart=>exact⟨0,0,_,rfl,rfl,by omega,pN _,ho1,hb1,wD4 _,by simp[wC]⟩
  case round=>
   obtain⟨i,c,cur,rfl,rfl,hc1,hi,hown,hbel,hcl,hval⟩:=hrel;have HV:=hid hval;have HCL:=hid hcl;clear hval hcl ho1 h3 hb1;by_cases hil:i<n+1
   ·obtain⟨x,hx⟩:∃x,xs.getD i 0=x:=⟨_,rfl⟩
    obtain⟨y,hy⟩:∃y,ys.getD i 0=y:=⟨_,rfl⟩
    have hx32:x<4294967296:=by rw[←hx];exact getD_lt xs HLT.out i
    have hy32:y<4294967296:=by rw[←hy];exact getD_lt ys HLT2.out i
    have q1:=xU lo h1 _ xs i x wr (h.below hbel hhi) (by omega) hx;have q2:=xU lo2 h12 _ ys i y wr (h2.below hbel hhi2) (by omega) hy;have HX:=hid hx;have HY:=hid hy;have Q1:=hid q1;have Q2:=hid q2;obtain⟨c1,c2⟩:=jP hown i hil;clear hx hy q1 q2
    go_wp2_with fail
    refine Q1.out.mono ?_;rintro e w' ⟨rfl,rfl⟩
    go_wp2_with fail
    refine Q2.out.mono ?_;rintro e w' ⟨rfl,rfl⟩
    go_wp2
    have hs:=jQ hown i ((x+y+c)%4294967296);have hln:=zF hown;refine⟨⟨i+1,(x+y+c)/4294967296,_,by go_num,by go_num,by omega,by omega,by simpa using hs.1,hbel.setCell (by exact pC _) _,jX _ _ _ HCL.out (by omega),?_⟩,by simp[intOf];omega⟩;rw[wIA _ _ _ _ hln hil,qB xs,qB ys,HX.out,HY.out,mS];exact wL7 _ _ _ c (x+y+c) _ _ x y _ HV.out rfl rfl rfl (by omega)
   ·obtain rfl:i=n+1:=by omega
    have hln:=zF hown;have hv:wC cur=wC xs+wC ys:=by have:=HV.out;rw[zE cur _ (by omega),zE xs _ (by omega),zE ys _ (by omega)]at this;have hc0:c=0:=wFH _ _ c (sum_lt n xs ys hn1 hn2 HLT.out HLT2.out) (by rw[←this];exact pH6 _ _);rw[hc0,dU,cG]at this;exact this
    have hN:=zI _ _ _ cur wr (wL.ofOwn hown HCL.out) (by omega);rw[hv]at hN;clear hv hln
    go_wp2_with (go_at_call 107;refine hN.mono ?_;rintro e w' ⟨r,rfl,hr,hb2⟩)
    go_ret
    exact⟨_,rfl,hr.wide hbel.size (pC _),hbel.trans (hb2.mono hbel.size)⟩
theorem wBH(lo h1:Nat)(v:Value)(xs:List Nat)(d:Nat)(w:World)(h:wL lo h1 w v xs)(hhi:h1≤w.heap.size)(hl:xs.length≤17592186044416)(hd:d<4294967296) :
  Calls Tryz.prog 173 #[v,.int .u32 (d:Nat)] w fun e w'=>∃r,e=.returned r∧wL w.heap.size w'.heap.size w' r (toL (wC xs*d))∧Below w.heap.size w w':=by
 obtain⟨ad,cap,rfl,hc,_,hlt,_⟩:=h.open;have HLT:=hid hlt;clear hlt
 go_enter Tryz.func173,Tryz.ntmps173
 go_wp2_with (at_make;refine zM jT rfl _ _ rfl w.heap.size _ _ _ _ (xs.length+1) (xs.length+1) rfl rfl (by omega) (by omega) (pC _) (by omega) (Below.refl _ _) (pC _) ?_)
 intro w1 ho1 hb1 _
 go_wp2
 go_loopw [6,15] (fun cv t wr=>∃(i c:Nat)(cur:List Nat),t=.int .i64 i∧cv=.int .u64 c∧c<4294967296∧i≤xs.length+1 ∧
   wr.ownsRow w.heap.size 130 1 (.slice (some ⟨w.heap.size,0,none⟩) (xs.length+1) (xs.length+1)) (xs.length+1) (zS cur)∧Below w.heap.size w wr ∧
   (∀x,x∈cur→x<4294967296)∧wC (cur.take i)+4294967296^i*c=wC (xs.take i)*d) (fun _ t _=>xs.length+1-(intOf t).toNat)
 case atStart=>exact⟨0,0,_,rfl,rfl,by omega,pN _,ho1,hb1,wD4 _,by simp[wC]⟩
 case round=>
  obtain⟨i,c,cur,rfl,rfl,hc1,hi,hown,hbel,hcl,hval⟩:=hrel;have HV:=hid hval;have HCL:=hid hcl;clear hval hcl ho1 hb1;by_cases hil:i<xs.length+1
  ·obtain⟨x,hx⟩:∃x,xs.getD i 0=x:=⟨_,rfl⟩
   have hx32:x<4294967296:=by rw[←hx];exact getD_lt xs HLT.out i
   have hp:x*d≤4294967295*4294967295:=dR (by omega) (by omega);have q1:=xU lo h1 _ xs i x wr (h.below hbel hhi) (by omega) hx;have HX:=hid hx;have Q1:=hid q1;obtain⟨c1,c2⟩:=jP hown i hil;clear hx q1
   go_wp2_with fail
   refine Q1.out.mono ?_;rintro e w' ⟨rfl,rfl⟩
   go_wp2
   have hs:=jQ hown i ((x*d+c)%4294967296);have hln:=zF hown;refine⟨⟨i+1,(x*d+c)/4294967296,_,by go_num,by go_num,by omega,by omega,by simpa using hs.1,hbel.setCell (by exact pC _) _,jX _ _ _ HCL.out (by omega),?_⟩,by simp[intOf];omega⟩;rw[wIA _ _ _ _ hln hil,qB xs,HX.out,mS];refine wL7 _ _ _ c (x*d+c) _ _ (x*d) 0 _ HV.out (by omega) rfl rfl ?_;rw[cV,mJ,dU,cG]
  ·obtain rfl:i=xs.length+1:=by omega
   have hln:=zF hown;have hv:wC cur=wC xs*d:=by have:=HV.out;rw[zE cur _ (by omega),zE xs _ (by omega)]at this;have hc0:c=0:=wFH _ _ c (prod_lt xs d HLT.out hd) (by rw[←this];exact pH6 _ _);rw[hc0,dU,cG]at this;exact this
   have hN:=zI _ _ _ cur wr (wL.ofOwn hown HCL.out) (by omega);rw[hv]at hN;clear hv hln
   go_wp2_with (go_at_call 107;refine hN.mono ?_;rintro e w' ⟨r,rfl,hr,hb2⟩)
   go_ret
   exact⟨_,rfl,hr.wide hbel.size (pC _),hbel.trans (hb2.mono hbel.size)⟩
theorem wPC(lo h1:Nat)(v:Value)(xs:List Nat)(d:Nat)(w:World)(h:wL lo h1 w v xs)(hhi:h1≤w.heap.size)(hl:xs.length≤17592186044416)(hd:d<4294967296) :
  Calls Tryz.prog 172 #[v,.int .u32 (d:Nat)] w fun e w'=>∃r,e=.returned r∧wL w.heap.size w'.heap.size w' r (toL (d+4294967296*wC xs))∧Below w.heap.size w w':=by
 have hlt:∀x,x∈d::xs→x<4294967296:=by
  obtain⟨ad,cap,rfl,hc,_,hlt,_⟩:=h.open;intro x hx;rcases pU.1 hx with rfl|hx
  ·exact hd
  ·exact hlt x hx
 have hown:(w.alloc (.cells #[.int .u32 (d:Nat)] 130)).ownsRow w.heap.size 130 1 (.slice (some ⟨w.heap.size,0,none⟩) 1 1) 1 (zS [d]):=
  World.ownsRow_lit w _ 1 (pC _) (by decide) rfl
 have hb1:Below w.heap.size w (w.alloc (.cells #[.int .u32 (d:Nat)] 130)):=(Below.refl _ _).alloc (pC _) _;have hL:=h.below hb1 hhi;have HLT:=hid hlt;clear hlt
 go_enter Tryz.func172,Tryz.ntmps172
 go_wp2_with (at_builtin;refine wO6 jT rfl _ _ rfl w.heap.size 1 _ _ _ xs _ _ hown hL rfl rfl (by omega) hb1 hb1.size ?_)
 intro v' w1 ho1 hb2 _ _;have hlen:(1+xs.length)=(d::xs).length:=by simp;omega
 rw[hlen]at ho1;have hN:=zI _ _ _ (d::xs) w1 (wL.ofOwn ho1 HLT.out) (by simp;omega);clear hlen
 go_wp2_with (go_at_call 107;refine hN.mono ?_;rintro e w' ⟨r,rfl,hr,hb3⟩)
 go_ret
 exact⟨_,rfl,hr.wide hb2.size (pC _),hb2.trans (hb3.mono hb2.size)⟩
def zW(a b:Nat):Int:=if a<b then -1 else if b<a then 1 else 0
theorem wP4(lo h1 lo2 h12:Nat)(v v2:Value)(xs ys:List Nat)(w:World)(h:wL lo h1 w v xs)(h2:wL lo2 h12 w v2 ys)(hl:xs.length≤17592186044416)(hl2:ys.length≤17592186044416) :
  Calls Tryz.prog 127 #[v,v2] w fun e w'=>e=.returned (.int .i64 (zW (wC xs) (wC ys)))∧w=w':=by
 obtain⟨ad,cap,rfl,hc,_,hlt,_⟩:=h.open;obtain⟨ad2,cap2,rfl,hc2,_,hlt2,_⟩:=h2.open;have HLT:=hid hlt;have HLT2:=hid hlt2;clear hlt hlt2
 go_enter Tryz.func127,Tryz.ntmps127
 go_upto_if 12 with(fail)
 go_cut [5] (fun t w'=>w'=w∧∃n:Nat,t=.int .i64 n∧xs.length≤n∧ys.length≤n∧n≤17592186044416)
 case first=>
  by_cases hle:ys.length≤xs.length
  ·go_wp2
   go_meet
   exact⟨rfl,xs.length,rfl,by omega,by omega,by omega⟩
  ·go_wp2
   go_meet
   exact⟨rfl,ys.length,rfl,by omega,by omega,by omega⟩
 case rest=>
  obtain⟨rfl,n,rfl,hn1,hn2,hn⟩:=hcut
  go_wp2
  go_loop [6] (fun t=>∃k:Nat,t=.int .i64 ((k:Int)-1)∧k≤n∧wC (xs.drop k)=wC (ys.drop k)) (fun t=>(intOf t+1).toNat)
  case atStart=>exact⟨n,rfl,pC _,by rw[mA hn1,mA hn2]⟩
  case round=>
   obtain⟨k,rfl,hk,he⟩:=hrel;have HE:=hid he;clear he;cases k with
   | zero=>
    go_wp2
    go_ret
    have:zW (wC xs) (wC ys)=0:=by have:=HE.out;simp only[List.drop_zero]at this;rw[this];simp[zW]
    rw[this];exact⟨rfl,rfl⟩
   | succ m=>
    obtain⟨x,hx⟩:∃x,xs.getD m 0=x:=⟨_,rfl⟩
    obtain⟨y,hy⟩:∃y,ys.getD m 0=y:=⟨_,rfl⟩
    have hx32:x<4294967296:=by rw[←hx];exact getD_lt xs HLT.out m
    have hy32:y<4294967296:=by rw[←hy];exact getD_lt ys HLT2.out m
    have q1:=xU lo h1 _ xs m x wc h (by omega) hx;have q2:=xU lo2 h12 _ ys m y wc h2 (by omega) hy;have HX:=hid hx;have HY:=hid hy;have Q1:=hid q1;have Q2:=hid q2;clear hx hy q1 q2;have c1:wC xs<wC ys→zW (wC xs) (wC ys) = -1:=fun h=>by simp[zW,h]
    have c2:wC ys<wC xs→zW (wC xs) (wC ys)=1:=fun h=>by rw[zW,if_neg (by omega),if_pos h]
    have C1:=hid c1;have C2:=hid c2;clear c1 c2;rcases bH x y with hxy|hxy|hxy
    ·go_wp2_with fail
     refine Q1.out.mono ?_;rintro e w' ⟨rfl,rfl⟩
     go_wp2_with fail
     refine Q2.out.mono ?_;rintro e w' ⟨rfl,rfl⟩
     go_wp2
     go_ret
     rw[C1.out (wR7 xs ys m HLT.out (wJ5 xs ys m x y HX.out HY.out HE.out hxy))];exact⟨rfl,rfl⟩
    ·have hxy2:x≤y:=by omega
     have hxy3:y≤x:=by omega
     have HXY:=hid hxy;clear hxy
     go_wp2_with fail
     refine Q1.out.mono ?_;rintro e w' ⟨rfl,rfl⟩
     go_wp2_with fail
     refine Q2.out.mono ?_;rintro e w' ⟨rfl,rfl⟩
     go_wp2_with fail
     refine Q1.out.mono ?_;rintro e w' ⟨rfl,rfl⟩
     go_wp2_with fail
     refine Q2.out.mono ?_;rintro e w' ⟨rfl,rfl⟩
     go_wp2
     refine⟨⟨m,by go_num,by omega,?_⟩,by simp[intOf]⟩;rw[wZ xs m,wZ ys m,HX.out,HY.out,HE.out,HXY.out]
    ·go_wp2_with fail
     refine Q1.out.mono ?_;rintro e w' ⟨rfl,rfl⟩
     go_wp2_with fail
     refine Q2.out.mono ?_;rintro e w' ⟨rfl,rfl⟩
     go_wp2_with fail
     refine Q1.out.mono ?_;rintro e w' ⟨rfl,rfl⟩
     go_wp2_with fail
     refine Q2.out.mono ?_;rintro e w' ⟨rfl,rfl⟩
     go_wp2
     go_ret
     rw[C2.out (wR7 ys xs m HLT2.out (wJ5 ys xs m y x HY.out HX.out HE.out.symm hxy))];exact⟨rfl,rfl⟩
theorem wWG(lo h1 lo2 h12:Nat)(v v2:Value)(xs ys:List Nat)(w:World)(h:wL lo h1 w v xs)(h2:wL lo2 h12 w v2 ys)(hhi:h1≤w.heap.size)(hhi2:h12≤w.heap.size)(hl:xs.length≤17592186044416)(hle:wC ys≤wC xs) :
  Calls Tryz.prog 128 #[v,v2] w fun e w'=>∃r,e=.returned r∧wL w.heap.size w'.heap.size w' r (toL (wC xs-wC ys))∧Below w.heap.size w w':=by
 obtain⟨ad,cap,rfl,hc,_,hlt,_⟩:=h.open;obtain⟨ad2,cap2,rfl,hc2,_,hlt2,_⟩:=h2.open;have HLT:=hid hlt;have HLT2:=hid hlt2;have HLE:=hid hle;clear hlt hlt2 hle
 go_enter Tryz.func128,Tryz.ntmps128
 go_wp2_with (at_make;refine zM jT rfl _ _ rfl w.heap.size _ _ _ _ xs.length xs.length rfl rfl rfl rfl (pC _) (by omega) (Below.refl _ _) (pC _) ?_)
 intro w1 ho1 hb1 _
 go_wp2
 go_loopw [6,14] (fun cv t wr=>∃(i c:Nat)(cur:List Nat),t=.int .i64 i∧cv=.int .u64 c∧c≤1∧i≤xs.length ∧
   wr.ownsRow w.heap.size 130 1 (.slice (some ⟨w.heap.size,0,none⟩) xs.length xs.length) xs.length (zS cur)∧Below w.heap.size w wr ∧
   (∀x,x∈cur→x<4294967296)∧wC (cur.take i)+wC (ys.take i)=wC (xs.take i)+4294967296^i*c) (fun _ t _=>xs.length-(intOf t).toNat)
 case atStart=>exact⟨0,0,_,rfl,rfl,by omega,pN _,ho1,hb1,wD4 _,by simp[wC]⟩
 case round=>
  obtain⟨i,c,cur,rfl,rfl,hc1,hi,hown,hbel,hcl,hval⟩:=hrel;have HV:=hid hval;have HCL:=hid hcl;clear hval hcl ho1 hb1;by_cases hil:i<xs.length
  ·obtain⟨x,hx⟩:∃x,xs.getD i 0=x:=⟨_,rfl⟩
   obtain⟨y,hy⟩:∃y,ys.getD i 0=y:=⟨_,rfl⟩
   have hx32:x<4294967296:=by rw[←hx];exact getD_lt xs HLT.out i
   have hy32:y<4294967296:=by rw[←hy];exact getD_lt ys HLT2.out i
   have q1:=xU lo h1 _ xs i x wr (h.below hbel hhi) (by omega) hx;have q2:=xU lo2 h12 _ ys i y wr (h2.below hbel hhi2) (by omega) hy;have HX:=hid hx;have HY:=hid hy;have Q1:=hid q1;have Q2:=hid q2;obtain⟨c1,c2⟩:=jP hown i hil;clear hx hy q1 q2
   go_wp2_with fail
   refine Q1.out.mono ?_;rintro e w' ⟨rfl,rfl⟩
   go_wp2_with fail
   refine Q2.out.mono ?_;rintro e w' ⟨rfl,rfl⟩
   go_wp2
   have hs:=jQ hown i ((4294967296+x-y-c)%4294967296);have hln:=zF hown;have e1:(4294967296+(x:Int)-y-c)=((4294967296+x-y-c:Nat):Int):=by omega
   have e2:(1:Int)-(4294967296+(x:Int)-y-c)/4294967296=((1-(4294967296+x-y-c)/4294967296:Nat):Int):=by omega
   refine⟨⟨i+1,1-(4294967296+x-y-c)/4294967296,_,by go_num,by rw[e2],by omega,by omega,by rw[e1];simpa using hs.1,by rw[e1];exact hbel.setCell (by exact pC _) _,jX _ _ _ HCL.out (by omega),?_⟩,by simp[intOf];omega⟩;rw[wIA _ _ _ _ hln hil,qB xs,qB ys,HX.out,HY.out,mS];exact wWF _ _ c (4294967296+x-y-c) _ _ x y _ HV.out (by omega) rfl (by omega)
  ·obtain rfl:i=xs.length:=by omega
   have hln:=zF hown;have hv:wC cur=wC xs-wC ys:=by
    have:=HV.out;rw[zE cur _ (by omega),zE xs _ (by omega)]at this;have p1:=qP xs HLT.out;have p2:=qP cur HCL.out;have p3:=qR ys xs.length;have p4:=HLE.out;rw[hln]at p2;generalize 4294967296^xs.length=P at *
    have z1:wC (ys.drop xs.length)=0:=wFH P _ _ p1 (by omega);rw[z1,dU]at p3;have z2:c=0:=wFH P _ _ p2 (by omega);rw[z2,dU]at this;omega
   have hN:=zI _ _ _ cur wr (wL.ofOwn hown HCL.out) (by omega);rw[hv]at hN;clear hv hln
   go_wp2_with (go_at_call 107;refine hN.mono ?_;rintro e w' ⟨r,rfl,hr,hb2⟩)
   go_ret
   exact⟨_,rfl,hr.wide hbel.size (pC _),hbel.trans (hb2.mono hbel.size)⟩
theorem qA{a b:Nat}(h:a≤b):(toL a).length≤(toL b).length:=by
 refine zU a _ (fQ h ?_);have:=qP (toL b) (qX b)
 rwa [wK]at this
theorem cmpN_lt{a b:Nat}(h:a<b):zW a b = -1:=by simp[zW,h]
theorem cmpN_gt{a b:Nat}(h:b<a):zW a b=1:=by rw[zW,if_neg (by omega),if_pos h]
theorem cmpN_eq(a:Nat):zW a a=0:=by simp[zW]
theorem cmp_any(lo h1 lo2 h12:Nat)(v v2:Value)(xs ys:List Nat)(w:World)(h:wL lo h1 w v xs)(h2:wL lo2 h12 w v2 ys)(hl:xs.length≤35184372088832)(hl2:ys.length≤35184372088832) :
  Calls Tryz.prog 148 #[v,v2] w fun e w'=>e=.returned (.int .i64 (zW (wC xs) (wC ys)))∧Below w.heap.size w w':=by
 have t1:=qT xs (by obtain⟨_,_,_,_,_,hlt,_⟩:=h.open;exact hlt);have t2:=qT ys (by obtain⟨_,_,_,_,_,hlt,_⟩:=h2.open;exact hlt);have l1:=zQ xs;have l2:=zQ ys;have q1:=vC lo h1 v xs w h (by omega);have q2:=vC lo2 h12 v2 ys w h2 (by omega);rw[t1]at q1 l1;rw[t2]at q2 l2;obtain⟨X,hX⟩:∃X,wC xs=X:=⟨_,rfl⟩
 obtain⟨Y,hY⟩:∃Y,wC ys=Y:=⟨_,rfl⟩
 rw[hX]at q1 l1 ⊢;rw[hY]at q2 l2 ⊢;have HX:=hid (wK X);have HY:=hid (wK Y);have HL1:=hid (@qA X Y);have HL2:=hid (@qA Y X);clear hX hY h h2 t1 t2;generalize toL X=us at *
 generalize toL Y=vs at *
 have Q1:=hid q1;have Q2:=hid q2;clear q1 q2
 go_enter Tryz.func148,Tryz.ntmps148
 go_wp2_with fail
 refine Q1.out.mono ?_;rintro e w' ⟨r1,rfl,hr1,rfl⟩
 go_wp2_with fail
 refine Q2.out.mono ?_;rintro e w' ⟨r2,rfl,hr2,rfl⟩;obtain⟨ad,cap,rfl,_,_,hlt1,hcell⟩:=hr1.open;obtain⟨ad2,cap2,rfl,_,_,hlt2,hcell2⟩:=hr2.open;have HC:=hid hcell;have HC2:=hid hcell2;have HLT1:=hid hlt1;have HLT2:=hid hlt2;clear Q1 Q2 hr1 hr2 hcell hcell2 hlt1 hlt2;rcases bH us.length vs.length with hlen|hlen|hlen
 ·have hc:=cmpN_lt (a:=X) (b:=Y) (by
   rcases pK X Y with h|h
   ·exact h
   ·have:=HL2.out h;omega)
  have hb:((us.length:Int) != vs.length)=true:=by simp[bne_iff_ne];omega
  have HH:=hid hc;clear hc
  go_wp2
  go_ret
  rw[HH.out];exact⟨rfl,Below.refl _ _⟩
 ·have hb:((us.length:Int) != vs.length)=false:=by simp[hlen]
  have HLEN:=hid hlen;clear hlen
  go_wp2
  go_loopw [5] (fun t wr=>∃k:Nat,t=.int .i64 ((k:Int)-1)∧k≤us.length∧Below w.heap.size w wr∧wC (us.drop k)=wC (vs.drop k)) (fun t _=>(intOf t+1).toNat)
  case atStart=>exact⟨us.length,rfl,pC _,Below.refl _ _,by rw[List.drop_length,HLEN.out,List.drop_length]⟩
  case round=>
   obtain⟨k,rfl,hk,hbel,he⟩:=hrel;have HE:=hid he;clear he hb;cases k with
   |zero=>
    go_wp2
    go_ret
    have:=HE.out;rw[dH,dH,HX.out,HY.out]at this;rw[this,cmpN_eq];exact⟨rfl,hbel⟩
   | succ m=>
    have hlv:=HLEN.out;obtain⟨b,off,rfl,_,_,hc1⟩:=HC.out m (by omega);obtain⟨b2,off2,rfl,_,_,hc2⟩:=HC2.out m (by omega);obtain⟨x,hx⟩:∃x,us.getD m 0=x:=⟨_,rfl⟩
    obtain⟨y,hy⟩:∃y,vs.getD m 0=y:=⟨_,rfl⟩
    rw[hx]at hc1;rw[hy]at hc2;have d1:=wJJ hbel hc1 (pC _);have d2:=wJJ hbel hc2 (pC _);have f1:(m:Int)<(us.length:Int):=by omega
    have f2:(m:Int)<(vs.length:Int):=by omega
    have HXX:=hid hx;have HYY:=hid hy;clear hc1 hc2 hx hy hlv;rcases bH x y with hxy|hxy|hxy
    ·have e1:((x:Int) != (y:Int))=true:=by simp[bne_iff_ne];omega
     have e2:decide ((x:Int)<(y:Int))=true:=by simp;omega
     go_wp2
     go_quiet (fail)
     go_wp2
     go_quiet (fail)
     go_wp2
     go_ret
     have:=wR7 us vs m HLT1.out (wJ5 us vs m x y HXX.out HYY.out HE.out hxy);rw[HX.out,HY.out]at this;rw[cmpN_lt this];exact⟨rfl,wL8 (wL8 hbel _) _⟩
    ·subst hxy
     go_wp2
     go_quiet (fail)
     go_wp2
     refine⟨⟨m,by go_num,by omega,wL8 hbel _,?_⟩,by simp[intOf]⟩;rw[wZ us m,wZ vs m,HXX.out,HYY.out,HE.out]
    ·have e1:((x:Int) != (y:Int))=true:=by simp[bne_iff_ne];omega
     have e2:decide ((x:Int)<(y:Int))=false:=by simp;omega
     go_wp2
     go_quiet (fail)
     go_wp2
     go_quiet (fail)
     go_wp2
     go_ret
     have:=wR7 vs us m HLT2.out (wJ5 vs us m y x HYY.out HXX.out HE.out.symm hxy);rw[HX.out,HY.out]at this;rw[cmpN_gt this];exact⟨rfl,wL8 (wL8 hbel _) _⟩
 ·have hc:=cmpN_gt (a:=X) (b:=Y) (by
   rcases pK Y X with h|h
   ·exact h
   ·have:=HL1.out h;omega)
  have hb:((us.length:Int) != vs.length)=true:=by simp[bne_iff_ne];omega
  have hb2:decide (us.length<vs.length)=false:=by simp;omega
  have HH:=hid hc;clear hc
  go_wp2
  go_ret
  rw[HH.out];exact⟨rfl,Below.refl _ _⟩
theorem wVF(xs:List Nat)(i:Nat)(hx:∀x,x∈xs→x<4294967296):wC xs/4294967296^i=wC (xs.drop i):=by have h1:=qR xs i;have h2:=kB xs i hx;rw[h1,fZ,Nat.mul_add_div (cX (by decide)),pG6 h2,cG]
theorem pow32(s:Nat)(hs:s≤32):∃c,4294967296=2^s*c:=⟨2^(32-s),by rw[←fC,show s+(32-s)=32 by omega]⟩
theorem wQ3(xs:List Nat)(i s:Nat)(hs:s≤32)(hx:∀x,x∈xs→x<4294967296) :
  wC xs/2^s/4294967296^i%4294967296=(xs.getD i 0+4294967296*xs.getD (i+1) 0)/2^s%4294967296:=by
 obtain⟨c,hc⟩:=pow32 s hs;rw[Nat.div_div_eq_div_mul,mL,←Nat.div_div_eq_div_mul,wVF xs i hx,wZ xs i,wZ xs (i+1)];generalize wC (xs.drop (i+1+1))=R;generalize xs.getD i 0=x;generalize xs.getD (i+1) 0=y;have e:x+4294967296*(y+4294967296*R)=x+4294967296*y+2^s*(c*(4294967296*R)):=by rw[mE,←cA,←mJ (2^s),←hc]
 rw[e,pE0 _ _ (cX (by decide)),fX,pB2]
theorem right_step(N P d:Nat)(hd:N/P%4294967296=d):N%(P*4294967296)=N%P+P*d:=by rw[Nat.mod_mul,hd]
theorem wWJ(xs:List Nat)(s:Nat)(hx:∀x,x∈xs→x<4294967296):wC xs/2^s%4294967296^xs.length=wC xs/2^s:=
 mY (fQ (cP _ _) (qP xs hx))
theorem left_step(P A c N x s:Nat)(h:A+P*c=N*2^s)(hc:c<2^s)(hs:s<32) :
  A+P*(x*2^s%4294967296+c)+P*4294967296*(x*2^s/4294967296)=(N+P*x)*2^s∧x*2^s%4294967296+c<4294967296∧(x<4294967296→x*2^s/4294967296<2^s):=by
 have h1:=cU (x*2^s) 4294967296;refine⟨?_,?_,fun hx=>?_⟩
 ·rw[cV,←h,mJ P x];have h2:P*(x*2^s)=P*4294967296*(x*2^s/4294967296)+P*(x*2^s%4294967296):=by
   conv=>lhs;rw[←h1]
   rw[mE,mJ]
  rw[h2,mE];omega
 ·obtain⟨d,hd⟩:=pow32 s (by omega);have e:x*2^s%4294967296=2^s*(x%d):=by rw[hd,mL x,Nat.mul_mod_mul_left]
  have hd0:0<d:=by
   rcases mO d with h0|h0
   ·subst h0;simp at hd
   ·exact h0
  have hm:=dI x hd0
  have:2^s*(x%d+1)≤2^s*d:=mK _ hm
  rw[mE,pC8,←hd]at this;omega
 ·refine pD9 ?_;exact(pA1 (cX (by decide))).2 hx
theorem or_low(x s c:Nat)(hs:s<32)(hc:c<2^s):(x*2^s%4294967296) ||| c=x*2^s%4294967296+c:=by
 obtain⟨d,hd⟩:=pow32 s (by omega);have e:x*2^s%4294967296=2^s*(x%d):=by rw[hd,mL x,Nat.mul_mod_mul_left]
 rw[e,←gX hc]
theorem qF8{a b:Nat}(ha:a%2=0)(hg:Nat.gcd a b%2=1):Nat.gcd (a/2) b=Nat.gcd a b:=by
 obtain⟨c,rfl⟩:=bF ha;have hb:b%2=1:=by
  rcases dW b with h|h
  ·exfalso;obtain⟨d,rfl⟩:=bF h;rw[Nat.gcd_mul_left]at hg;omega
  ·exact h
 rw[pC2 _ (by decide)];have hc:Nat.Coprime 2 b:=by unfold Nat.Coprime;rw[Nat.gcd_rec,hb];rfl
 exact(Nat.Coprime.gcd_mul_left_cancel c hc).symm
theorem gcd_both{a b:Nat}(ha:a%2=0)(hb:b%2=0):Nat.gcd a b=2*Nat.gcd (a/2) (b/2):=by obtain⟨c,rfl⟩:=bF ha;obtain⟨d,rfl⟩:=bF hb;rw[Nat.gcd_mul_left,pC2 _ (by decide),pC2 _ (by decide)]
theorem gcd_odd{a b:Nat}(h:¬(a%2=0∧b%2=0)):Nat.gcd a b%2=1:=by
 rcases dW (Nat.gcd a b)with h1|h1
 ·exfalso;have h2:=bF h1;exact h ⟨Nat.mod_eq_zero_of_dvd (pF8 h2 (pG7 a b)),Nat.mod_eq_zero_of_dvd (pF8 h2 (Nat.gcd_dvd_right a b))⟩
 ·exact h1
theorem qF7{a b:Nat}(h:b≤a):Nat.gcd (a-b) b=Nat.gcd a b:=by rw[fS,fS a];exact Nat.gcd_sub_self_right h
theorem wX9(l:List Nat)(j v:Nat)(h:j<l.length):wC (l.set j v)+4294967296^j*l.getD j 0=wC l+4294967296^j*v:=by
 induction l generalizing j with
 |nil=>simp at h
 | cons x xs ih=>
  cases j with
  |zero=>simp only[List.set_cons_zero,wC,List.getD_cons_zero,Nat.pow_zero];omega
  |succ j=>
   have:=ih j (by simpa using h);simp only[List.set_cons_succ,wC,List.getD_cons_succ,Nat.pow_succ];have e1:4294967296^j*4294967296*xs.getD j 0=4294967296*(4294967296^j*xs.getD j 0):=by rw[mL (4294967296^j),mJ]
   have e2:4294967296^j*4294967296*v=4294967296*(4294967296^j*v):=by rw[mL (4294967296^j),mJ]
   rw[e1,e2];generalize 4294967296^j*xs.getD j 0=p at *
   generalize 4294967296^j*v=q at *
   omega
theorem wG2(n:Nat):wC (List.replicate n 0)=0:=by
 induction n with
 |zero=>rfl
 |succ n ih=>simp[List.replicate_succ,wC,ih]
theorem mul_step(P O O' o x y c V Yk:Nat)(h:O+P*c=V+x*Yk)(hset:O'+P*o=O+P*((x*y+o+c)%4294967296)) :
  O'+P*4294967296*((x*y+o+c)/4294967296)=V+x*(Yk+P*y):=by
 have h1:=cU (x*y+o+c) 4294967296;have e1:P*(x*y+o+c)=P*4294967296*((x*y+o+c)/4294967296)+P*((x*y+o+c)%4294967296):=by
  conv=>lhs;rw[←h1]
  rw[mE,mJ]
 rw[mE,mE]at e1;rw[mE,fX x P y];omega
theorem mul01_any(lo h1 lo2 h12:Nat)(v v2:Value)(xs ys:List Nat)(w:World)(h:wL lo h1 w v xs)(h2:wL lo2 h12 w v2 ys)(hhi2:h12≤w.heap.size)(hl:xs.length≤4398046511104)(hl2:ys.length≤4398046511104) :
  Calls Tryz.prog 129 #[v,v2] w fun e w'=>∃r,e=.returned r∧wL w.heap.size w'.heap.size w' r (toL (wC xs*wC ys))∧Below w.heap.size w w':=by
 have q1:=zI _ _ _ _ _ h (by omega);have Q1:=hid q1;clear q1
 go_enter Tryz.func129,Tryz.ntmps129
 go_wp2_with fail
 refine Q1.out.mono ?_;rintro e w1 ⟨r1,rfl,hr1,hb1⟩;have q2:=zI _ _ _ _ _ (h2.below hb1 hhi2) (by omega);have Q2:=hid q2;clear q2
 go_wp2_with fail
 refine Q2.out.mono ?_;rintro e w2 ⟨r2,rfl,hr2,hb2⟩;have hr1':=hr1.below hb2 (pC _);have hbel:=hb1.trans (hb2.mono hb1.size);have hs:=hb2.size;clear hb2 hb1 hr1 Q1 Q2;have hlb:=jZ ys (by obtain⟨_,_,_,_,_,hlt,_⟩:=h2.open;exact hlt);have hla:=jZ xs (by obtain⟨_,_,_,_,_,hlt,_⟩:=h.open;exact hlt);have hnb:=wK (wC ys);have hna:=wK (wC xs);revert hlb hla hnb hna hr1' hr2;generalize toL (wC ys)=bs;generalize toL (wC xs)=us;generalize hY:wC ys=Y;generalize hX:wC xs=X;have HXX:=hid hX;have HYY:=hid hY;clear hX hY;intro hr2 hr1 hlb hla hnb hna;obtain⟨ad,cap,rfl,hc,_,hlt,hcell⟩:=hr2.open;have HC:=hid hcell;have HLT:=hid hlt;have HNA:=hid hna;have HNB:=hid hnb;clear hcell hlt hna hnb;have hAlt:∀x,x∈us→x<4294967296:=by obtain⟨_,_,_,_,_,hlt,_⟩:=hr1.open;exact hlt
 have HALT:=hid hAlt;clear hAlt
 go_wp2
 go_loopw [5,6] (fun vo t wr=>∃k:Nat,t=.int .i64 ((k:Int)-1)∧k≤bs.length∧Below w.heap.size w wr∧Below w2.heap.size w2 wr∧wL w.heap.size wr.heap.size wr vo (toL (X*wC (bs.drop k))))
  (fun _ t _=>(intOf t+1).toNat)
 case atStart=>exact⟨bs.length,rfl,pC _,hbel,Below.refl _ _,by simp[wC,qW,wL.nil]⟩
 case round=>
  obtain⟨k,rfl,hk,hbr,hb2r,hO⟩:=hrel;cases k with
  | zero=>
   have e:wC (toL (X*wC (bs.drop 0)))=X*Y:=by rw[wK,dH,HNB.out]
   have hol:(toL (X*wC (bs.drop 0))).length≤8796093022208:=by refine pD (zU _ (us.length+bs.length) ?_) (by omega);rw[←HNA.out,fC,dH];exact fL (qP us HALT.out) (qP bs HLT.out)
   have hN:=zI _ _ _ _ wr hO (by omega);rw[e]at hN;clear e hol hO
   go_wp2_with (go_at_call 107;refine hN.mono ?_;rintro e w' ⟨r,rfl,hr,hb⟩)
   go_ret
   rw[HXX.out,HYY.out];exact⟨_,rfl,hr.wide hbr.size (pC _),hbr.trans (hb.mono hbr.size)⟩
  | succ m=>
   have hol:(toL (X*wC (bs.drop (m+1)))).length≤8796093022208:=by refine pD (zU _ (us.length+bs.length) ?_) (by omega);rw[←HNA.out,fC];refine fL (qP us HALT.out) (mN (qP _ fun x hx=>HLT.out x (dF hx)) (mT (by decide) (by simp)))
   obtain⟨b,off,rfl,hlo,hhi,hcb⟩:=HC.out m (by omega);obtain⟨y,hy⟩:∃y,bs.getD m 0=y:=⟨_,rfl⟩
   have hy32:y<4294967296:=by rw[←hy];exact getD_lt bs HLT.out m
   rw[hy]at hcb;have hcr:=wJJ hb2r hcb (pC _);have f1:(m:Int)<(bs.length:Int):=by omega
   have e1:wC us*y=X*y:=by rw[HNA.out]
   have hsh:∀W,Below wr.heap.size wr W→Calls Tryz.prog 172 #[u5,.int .u32 0] W fun e w'=>∃r,e=.returned r∧wL W.heap.size w'.heap.size w' r (toL (4294967296*(X*wC (bs.drop (m+1)))))∧Below W.heap.size W w':=by intro W hW;have:=wPC _ _ _ _ 0 W (hO.below hW (pC _)) hW.size (by omega) (by decide);rw[wK,dG]at this;exact this
   have hsm:∀W,Below wr.heap.size wr W→Calls Tryz.prog 173 #[r1,.int .u32 y] W fun e w'=>∃r,e=.returned r∧wL W.heap.size w'.heap.size w' r (toL (X*y))∧Below W.heap.size W w':=by intro W hW;have:=wBH _ _ _ _ y W ((hr1.below hb2r hs).below hW (pD hs hb2r.size)) (pD (pD hs hb2r.size) hW.size) (by omega) hy32;rw[e1]at this;exact this
   have hl1:(toL (4294967296*(X*wC (bs.drop (m+1))))).length≤17592186044416:=by refine pD (zU _ (us.length+bs.length+1) ?_) (by omega);rw[←HNA.out,mS,mL 4294967296];refine pF4 ?_ (by decide);rw[fC];refine fL (qP us HALT.out) (mN (qP _ fun x hx=>HLT.out x (dF hx)) (mT (by decide) (by simp)))
   have hl2:(toL (X*y)).length≤17592186044416:=by refine pD (zU _ (us.length+1) ?_) (by omega);rw[←HNA.out,mS];exact fL (qP us HALT.out) hy32
   have hfin:toL (4294967296*(X*wC (bs.drop (m+1)))+X*y)=toL (X*wC (bs.drop m)):=by rw[wZ bs m,hy,mE,fZ,←mJ,mL 4294967296 X,mJ]
   have hadd:∀(W3 W4:World)(r3 r4:Value),wL W3.heap.size W4.heap.size W4 r3 (toL (4294967296*(X*wC (bs.drop (m+1)))))→∀W5 W6:World,Below W4.heap.size W4 W5→wL W5.heap.size W6.heap.size W6 r4 (toL (X*y))→Below W5.heap.size W5 W6→
     Calls Tryz.prog 126 #[r3,r4] W6 fun e w'=>∃r,e=.returned r∧wL W6.heap.size w'.heap.size w' r (toL (X*wC (bs.drop m)))∧Below W6.heap.size W6 w':=by
    intro W3 W4 r3 r4 g1 W5 W6 g2 g3 g4;have:=wYC _ _ _ _ _ _ _ _ W6 ((g1.below g2 (pC _)).below g4 g2.size) g3 (pD g2.size g4.size) (pC _) hl1 hl2;rw[wK,wK,hfin]at this;exact this
   have HSH:=hid hsh;have HSM:=hid hsm;have HADD:=hid hadd;have HO:=hid hO;clear hcb hy e1 hsh hsm hl1 hl2 hfin hadd hO
   go_wp2
   go_region_with (first
    |(go_at_call 172;refine(HSH.out _ (Below.refl _ _).drew).mono ?_;rintro e w3 ⟨r3,rfl,hr3,hb3⟩;have hcr3:=wJJ hb3 hcr (pC _))
    |(go_at_call 173;refine(HSM.out _ ((Below.refl _ _).drew.trans hb3)).mono ?_;rintro e w4 ⟨r4,rfl,hr4,hb4⟩)
    |(go_at_call 126;refine(HADD.out _ _ _ _ hr3 _ _ (Below.refl _ _) hr4 hb4).mono ?_;rintro e w5 ⟨r5,rfl,hr5,hb5⟩))
   all_goals
    go_wp2
    have hA:=(((Below.refl wr.heap.size wr).drew.trans hb3).trans (hb4.mono hb3.size)).trans (hb5.mono (pD hb3.size hb4.size));exact⟨⟨m,by go_num,by omega,hbr.trans (hA.mono hbr.size),hb2r.trans (hA.mono hb2r.size),hr5.wide (pD hbr.size (pD hb3.size hb4.size)) (pC _)⟩,by simp[intOf]⟩
end Go.Proofs.YtdcjmnfngabhoaaGreat
