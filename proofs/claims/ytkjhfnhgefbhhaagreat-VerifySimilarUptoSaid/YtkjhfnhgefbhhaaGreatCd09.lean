/- nat.trim, nat.own, nat.Norm: what they hand back, at every slice. -/
import Derived.Test.YtkjhfnhgefbhhaaGreatCd08
import Derived.BigQuiet
import Derived.Deep.QuietTactic
import Derived.Deep.DeepCutAuto
set_option linter.all false
namespace Go.Proofs.YtkjhfnhgefbhhaaGreat
open Go.RowKit
set_option maxHeartbeats 400000 in
theorem trim_any (lo hi:Nat) (v:Value) (xs:List Nat) (w:World) (h:wZ lo hi w v xs) (hl:xs.length≤140737488355328) :
  Calls Tryz.prog 199 #[v] w fun e w'=>∃ r,e=.returned r∧wZ lo hi w r (qS xs)∧w=w':=by
 have h0:=h
 obtain ⟨ad,cap,rfl,hc,_,hx,hne⟩:=h
 go_enter Tryz.func199,Tryz.ntmps199
 go_wp2
 go_loop [0] (fun t=>∃ k:Nat,t=.slice ad k cap∧k≤xs.length∧qS (xs.take k)=qS xs) (fun t=>match t with | .slice _ k _=>k | _=>0)
 case atStart=>exact ⟨xs.length,rfl,Nat.le_refl _,by simp⟩
 case round =>
  obtain ⟨k,rfl,hk,ht⟩:=hrel
  have HT:=hid ht
  clear ht
  cases k with
  | zero =>
   go_wp2
   go_ret
   exact ⟨_,rfl,by rw [← HT.out]; exact h0.pre 0 (Nat.zero_le _),rfl⟩
  | succ m =>
   obtain ⟨b,off,rfl,hlo,hhi,hcell,_⟩:=hne (by intro h; subst h; simp at hk)
   have hcm:=hcell m (by omega)
   clear hcell
   go_wp2
   ·have h1:((xs[m]?.getD 0:Nat) == (0:Int))=true:=by assumption
    refine ⟨⟨m,rfl,by omega,?_⟩,by simp⟩
    rw [← HT.out,take_snoc xs 0 m (by omega),List.getD_eq_getElem?_getD,show xs[m]?.getD 0=0 from by simpa using h1,trimL_snoc_zero]
   ·have h1:((xs[m]?.getD 0:Nat) == (0:Int))=false:=by assumption
    go_ret
    refine ⟨_,rfl,?_,rfl⟩
    have e:qS xs=xs.take (m+1):=by
     rw [← HT.out,take_snoc xs 0 m (by omega),List.getD_eq_getElem?_getD,trimL_snoc _ _ (by simpa using h1)]
    rw [e]
    exact h0.pre (m+1) hk
theorem elemNat:Elem Tryz.prog 23 180 (.int .u32 0) 1 4 :=
 ⟨Tryz.underlying23,by kernel_rfl,rfl,by decide⟩
set_option maxHeartbeats 400000 in
theorem own_own (lo hi:Nat) (v:Value) (xs:List Nat) (w:World) (h:wZ lo hi w v xs) (hl:xs.length≤35184372088832) :
  Calls Tryz.prog 229 #[v] w fun e w'=>∃ r,e=.returned r∧w'.ownsRow w.heap.size 180 1 r (qS xs).length (u32s (qS xs))∧(∀ x,x∈qS xs→x<4294967296)∧Below w.heap.size w w':=by
 have hle:=zV xs
 have hcall:=trim_any lo hi v xs w h (by omega)
 revert hle hcall
 generalize qS xs=ys
 intro hle hcall
 go_enter Tryz.func229,Tryz.ntmps229
 go_wp2_with fail
 refine hcall.mono ?_
 rintro e w' ⟨r,rfl,hr,rfl⟩
 clear hcall h
 obtain ⟨ad,cap,rfl,hc,_,hx,hne⟩:=hr
 by_cases hy:ys=[]
 ·subst hy
  go_wp2
  go_ret
  exact ⟨_,rfl,World.ownsRow_nil _ _ _ _,by simp,Below.refl _ _⟩
 ·have hpos:0<ys.length:=List.length_pos_iff.2 hy
  obtain ⟨b,off,rfl,hlo,hhi,hcell,_⟩:=hne hy
  clear hne
  have hml:ys.length≤maxLen:=by unfold maxLen; omega
  have H:=hid hcell
  clear hcell
  go_wp2_with (at_make; refine wpl_make elemNat rfl _ _ rfl w.heap.size _ _ _ _ ys.length ys.length rfl rfl rfl rfl (Nat.le_refl _) (by omega) hml (Below.refl _ _) (Nat.le_refl _) ?_)
  intro w1 ho1 hb1 _
  go_wp2_with (with_reducible refine wpl_copy_all elemNat rfl _ _ _ rfl w.heap.size w.heap.size ys.length ys.length cap ⟨b,off,none⟩ _ (u32s ys) rfl rfl ho1 (by simp [u32s]) ?c1 (u32s_one _) hb1 ?_)
  case c1 =>
   intro j v hj
   have hjl:j<ys.length:=by
    have:=(List.getElem?_eq_some_iff.1 hj).1
    simpa [u32s] using this
   have hc1:=H.out j hjl
   have hlt:=World.block_lt_of_cell? w _ hc1
   rw [Addr.add_lit,hb1.cell (by exact hlt),hc1]
   rw [← hj]
   simp [u32s,List.getD_eq_getElem?_getD,hjl]
  intro w2 ho2 hb2 _
  go_wp2
  go_ret
  exact ⟨_,rfl,ho2,hx,hb2⟩
theorem own_any (lo hi:Nat) (v:Value) (xs:List Nat) (w:World) (h:wZ lo hi w v xs) (hl:xs.length≤35184372088832) :
  Calls Tryz.prog 229 #[v] w fun e w'=>∃ r,e=.returned r∧wZ w.heap.size w'.heap.size w' r (qS xs)∧Below w.heap.size w w' :=
 (own_own lo hi v xs w h hl).mono fun _ _ ⟨r,h1,h2,h3,h4⟩=>⟨r,h1,wZ.ofOwn h2 h3,h4⟩
set_option maxHeartbeats 400000 in
theorem norm_own (lo hi:Nat) (v:Value) (xs:List Nat) (w:World) (h:wZ lo hi w v xs) (hl:xs.length≤35184372088832) :
  Calls Tryz.prog 228 #[v] w fun e w'=>∃ r,e=.returned r∧w'.ownsRow w.heap.size 180 1 r (qS xs).length (u32s (qS xs))∧(∀ x,x∈qS xs→x<4294967296)∧Below w.heap.size w w':=by
 have hcall:=own_own lo hi v xs w h hl
 clear h hl
 go_enter Tryz.func228,Tryz.ntmps228
 go_wp2_with fail
 refine hcall.mono ?_
 rintro e w' ⟨r,rfl,hr,hx,hb⟩
 clear hcall
 go_wp2
 go_ret
 exact ⟨_,rfl,hr,hx,hb⟩
theorem norm_any (lo hi:Nat) (v:Value) (xs:List Nat) (w:World) (h:wZ lo hi w v xs) (hl:xs.length≤35184372088832) :
  Calls Tryz.prog 228 #[v] w fun e w'=>∃ r,e=.returned r∧wZ w.heap.size w'.heap.size w' r (qS xs)∧Below w.heap.size w w' :=
 (norm_own lo hi v xs w h hl).mono fun _ _ ⟨r,h1,h2,h3,h4⟩=>⟨r,h1,wZ.ofOwn h2 h3,h4⟩
end Go.Proofs.YtkjhfnhgefbhhaaGreat
/- simileref01's limb, Zero, Same, Norm, Of: what they hand back. -/
namespace Go.Proofs.YtkjhfnhgefbhhaaGreat
open Go.RowKit
set_option maxHeartbeats 400000 in
theorem limb_any (lo hi:Nat) (v:Value) (xs:List Nat) (k x:Nat) (w:World) (h:wZ lo hi w v xs) (hk:k≤35184372088832) (hx:xs.getD k 0=x) :
  Calls Tryz.prog 245 #[v,.int .i64 k] w fun e w'=>e=.returned (.int .u64 (x:Nat))∧w=w':=by
 obtain ⟨ad,cap,rfl,hc,_,hlt,hcell⟩:=h.open
 by_cases hkl:k<xs.length
 ·obtain ⟨b,off,rfl,_,_,hc1⟩:=hcell k hkl
  rw [hx] at hc1
  have hx32:x<4294967296:=by rw [← hx]; exact hlt _ (by simp [List.getD_eq_getElem?_getD,hkl])
  clear hcell hlt h hx
  go_enter Tryz.func245,Tryz.ntmps245
  go_wp2
  go_ret
  exact ⟨rfl,rfl⟩
 ·obtain rfl:x=0:=by rw [← hx,List.getD_eq_getElem?_getD,List.getElem?_eq_none (by omega)]; rfl
  clear hcell hlt h hx
  go_enter Tryz.func245,Tryz.ntmps245
  go_wp2
  go_ret
  exact ⟨rfl,rfl⟩
theorem natOf_zero (xs:List Nat):wD xs=0↔∀ x,x∈xs→x=0:=by
 induction xs with
 | nil=>simp [wD]
 | cons y ys ih=>simp only [wD,List.forall_mem_cons,← ih]; omega
set_option maxHeartbeats 400000 in
theorem zero01_any (lo hi:Nat) (v:Value) (xs:List Nat) (w:World) (h:wZ lo hi w v xs) (hl:xs.length≤35184372088832) :
  Calls Tryz.prog 141 #[v] w fun e w'=>e=.returned (.bool (decide (wD xs=0)))∧w=w':=by
 obtain ⟨ad,cap,rfl,hc,_,hlt,hcell⟩:=h.open
 clear hlt h
 have HC:=hid hcell
 clear hcell
 go_enter Tryz.func141,Tryz.ntmps141
 go_wp2
 go_loop [7] (fun t=>∃ k:Nat,t=.int .i64 k∧k≤xs.length∧∀ x,x∈xs.take k→x=0) (fun t=>xs.length - (intOf t).toNat)
 case atStart=>exact ⟨0,rfl,Nat.zero_le _,by simp⟩
 case round =>
  obtain ⟨k,rfl,hk,hz⟩:=hrel
  have HZ:=hid hz
  clear hz
  by_cases hkl:k<xs.length
  ·obtain ⟨b,off,rfl,_,_,hc1⟩:=HC.out k hkl
   obtain ⟨x,hx⟩:∃ x,x=xs.getD k 0:=⟨_,rfl⟩
   rw [← hx] at hc1
   have HX:=hid hx
   clear hx
   go_wp2
   ·have h1:((x:Int) != 0)=true:=by assumption
    go_ret
    have:decide (wD xs=0)=false:=by
     rw [decide_eq_false_iff_not,natOf_zero]
     intro h
     have:=h x (by rw [HX.out]; exact getD_mem xs k hkl)
     simp [this] at h1
    rw [this]
    exact ⟨rfl,rfl⟩
   ·have h1:((x:Int) != 0)=false:=by assumption
    refine ⟨⟨k+1,by go_num,by omega,?_⟩,by simp [intOf]; omega⟩
    intro y hy
    rw [take_snoc xs 0 k hkl,List.mem_append] at hy
    rcases hy with hy | hy
    ·exact HZ.out y hy
    ·simp only [List.mem_singleton] at hy
     rw [hy,← HX.out]
     simpa using h1
  ·obtain rfl:k=xs.length:=by omega
   go_wp2
   go_ret
   have:decide (wD xs=0)=true:=by
    rw [decide_eq_true_eq,natOf_zero]
    intro x hx
    exact HZ.out x (by rw [List.take_length]; exact hx)
   rw [this]
   exact ⟨rfl,rfl⟩
set_option maxHeartbeats 400000 in
theorem same01_any (lo hi lo2 hi2:Nat) (v v2:Value) (xs ys:List Nat) (w:World) (h:wZ lo hi w v xs) (h2:wZ lo2 hi2 w v2 ys) (hl:xs.length≤35184372088832) :
  Calls Tryz.prog 96 #[v,v2] w fun e w'=>e=.returned (.bool (decide (xs=ys)))∧Below w.heap.size w w':=by
 obtain ⟨ad,cap,rfl,hc,_,hlt,hcell⟩:=h.open
 obtain ⟨ad2,cap2,rfl,hc2,_,hlt2,hcell2⟩:=h2.open
 clear hlt h hlt2 h2
 have HC:=hid hcell
 have HC2:=hid hcell2
 clear hcell hcell2
 by_cases hlen:xs.length=ys.length
 ·have hb:((xs.length:Int) != ys.length)=false:=by simp [hlen]
  have HL:=hid hlen
  go_enter Tryz.func96,Tryz.ntmps96
  go_wp2
  go_loopw [13] (fun t wr=>∃ k:Nat,t=.int .i64 k∧k≤xs.length∧Below w.heap.size w wr∧xs.take k=ys.take k) (fun t _=>xs.length - (intOf t).toNat)
  case atStart=>exact ⟨0,rfl,Nat.zero_le _,Below.refl _ _,rfl⟩
  case round =>
   obtain ⟨k,rfl,hk,hbel,he⟩:=hrel
   have HE:=hid he
   clear he hb
   by_cases hkl:k<xs.length
   ·have hkl2:k<ys.length:=by omega
    obtain ⟨b,off,rfl,_,_,hc1⟩:=HC.out k hkl
    obtain ⟨b2,off2,rfl,_,_,hc12⟩:=HC2.out k hkl2
    obtain ⟨x,hx⟩:∃ x,x=xs.getD k 0:=⟨_,rfl⟩
    obtain ⟨y,hy⟩:∃ y,y=ys.getD k 0:=⟨_,rfl⟩
    rw [← hx] at hc1
    rw [← hy] at hc12
    have HX:=hid hx
    have HY:=hid hy
    have d1:=cellB hbel hc1 (Nat.le_refl _)
    have d2:=cellB hbel hc12 (Nat.le_refl _)
    clear hx hy hc1 hc12 hlen
    have f1:(k:Int)<(xs.length:Int):=by omega
    have f2:(k:Int)<(ys.length:Int):=by omega
    go_wp2
    go_quiet (fail)
    go_wp2
    ·have h1:((x:Int) != (y:Int))=true:=by assumption
     go_ret
     have:decide (xs=ys)=false:=by
      rw [decide_eq_false_iff_not]
      intro e
      rw [HX.out,HY.out,e] at h1
      simp at h1
     rw [this]
     exact ⟨rfl,belowN hbel _⟩
    ·have h1:((x:Int) != (y:Int))=false:=by assumption
     refine ⟨⟨k+1,by go_num,by omega,belowN hbel _,?_⟩,by simp [intOf]; omega⟩
     rw [take_snoc xs 0 k hkl,take_snoc ys 0 k hkl2,HE.out,← HX.out,← HY.out]
     have:x=y:=by
      have h2:(x:Int)=y:=by simpa using h1
      omega
     rw [this]
   ·obtain rfl:k=xs.length:=by omega
    go_wp2
    go_ret
    have:decide (xs=ys)=true:=by
     rw [decide_eq_true_eq]
     have:=HE.out
     rwa [List.take_length,HL.out,List.take_length] at this
    rw [this]
    exact ⟨rfl,hbel⟩
 ·have hb:((xs.length:Int) != ys.length)=true:=by simp [bne_iff_ne]; omega
  have hd:decide (xs=ys)=false:=by rw [decide_eq_false_iff_not]; intro e; exact hlen (by rw [e])
  have HD:=hid hd
  clear hlen hd
  go_enter Tryz.func96,Tryz.ntmps96
  go_wp2
  go_ret
  rw [HD.out]
  exact ⟨rfl,Below.refl _ _⟩
set_option maxHeartbeats 400000 in
theorem zQ (lo hi:Nat) (v:Value) (xs:List Nat) (w:World) (h:wZ lo hi w v xs) (hl:xs.length≤35184372088832) :
  Calls Tryz.prog 206 #[v] w fun e w'=>∃ r,e=.returned r∧wZ w.heap.size w'.heap.size w' r (toL (wD xs))∧Below w.heap.size w w':=by
 obtain ⟨ad,cap,rfl,hc,_,hlt,hcell⟩:=h.open
 have hT:=zB xs hlt
 have hTlt:∀ x,x∈qS xs→x<4294967296:=fun x h=>hlt x (trimL_mem xs x h)
 have HT:=hid hT
 have HTL:=hid hTlt
 have HC:=hid hcell
 clear hcell hT hlt h hTlt
 go_enter Tryz.func206,Tryz.ntmps206
 go_wp2
 go_loop [3] (fun t=>∃ k:Nat,t=.int .i64 k∧k≤xs.length∧qS (xs.take k)=qS xs) (fun t=>(intOf t).toNat)
 case atStart=>exact ⟨xs.length,rfl,Nat.le_refl _,by simp⟩
 case round =>
  obtain ⟨k,rfl,hk,ht⟩:=hrel
  have HK:=hid ht
  clear ht
  by_cases hz:k≠0∧xs.getD (k - 1) 0=0
  ·obtain ⟨m,rfl⟩:∃ m,k=m+1:=⟨k - 1,by omega⟩
   obtain ⟨b,off,rfl,_,_,hc1⟩:=HC.out m (by omega)
   have h0:=hz.2
   rw [show m+1 - 1=m from rfl] at h0
   rw [h0] at hc1
   have H0:=hid h0
   clear hz h0
   go_wp2
   refine ⟨⟨m,by go_num,by omega,?_⟩,by simp [intOf]⟩
   rw [← HK.out,take_snoc xs 0 m (by omega),H0.out,trimL_snoc_zero]
  ·have hcond:k=0∨∃ m x b off,k=m+1∧x≠0∧xs.getD m 0=x∧ad=some ⟨b,off,none⟩∧w.cell? ⟨b,off+m,none⟩=some (.int .u32 (x:Nat)):=by
    by_cases h0:k=0
    ·exact .inl h0
    ·obtain ⟨b,off,h1,_,_,hc1⟩:=HC.out (k - 1) (by omega)
     refine .inr ⟨k - 1,xs.getD (k - 1) 0,b,off,by omega,fun h=>hz ⟨h0,h⟩,rfl,h1,hc1⟩
   have hk2:qS xs=xs.take k:=by
    rw [← HK.out]
    rcases hcond with rfl | ⟨m,x,_,_,rfl,hx,hx2,_⟩
    ·rfl
    ·rw [take_snoc xs 0 m (by omega),hx2,trimL_snoc _ _ hx]
   have hlen:(qS xs).length=k:=by rw [hk2,List.length_take]; omega
   have HK2:=hid hk2
   have HLEN:=hid hlen
   clear HK hk2 hlen hz
   rcases hcond with rfl | ⟨m,x,b,off,rfl,hx,hx2,rfl,hc1⟩
   ·go_wp2_with (at_make; refine zS elemNat rfl _ _ rfl w.heap.size _ _ _ _ 0 0 rfl rfl rfl rfl (Nat.le_refl _) (by decide) (Below.refl _ _) (Nat.le_refl _) ?_)
    intro w1 ho1 hb1 _
    go_wp2
    refine wp_loop_rounds 1 ?_
    rw [rounds_succ]
    go_wp2
    go_ret
    refine ⟨_,rfl,?_,hb1⟩
    rw [← HT.out,HK2.out]
    exact (wZ.ofOwn (xs:=[]) ho1 (by simp)).wide (Nat.le_refl _) (Nat.le_refl _)
   ·have hxi:((x:Int) == 0)=false:=by rw [beq_eq_false_iff_ne]; omega
    have HX2:=hid hx2
    have HX:=hid hx
    clear hx hx2
    go_wp2_with (at_make; refine zS elemNat rfl _ _ rfl w.heap.size _ _ _ _ (m+1) (m+1) rfl rfl (by omega) (by omega) (Nat.le_refl _) (by omega) (Below.refl _ _) (Nat.le_refl _) ?_)
    intro w1 ho1 hb1 _
    clear hc1 hxi
    go_wp2
    go_loopw [5] (fun t wr=>∃ (i:Nat) (cur:List Nat),t=.int .i64 i∧i≤m+1∧wr.ownsRow w.heap.size 180 1 (.slice (some ⟨w.heap.size,0,none⟩) (m+1) (m+1)) (m+1) (u32s cur) ∧
      Below w.heap.size w wr∧cur.take i=xs.take i) (fun t _=>m+1 - (intOf t).toNat)
    case atStart=>exact ⟨0,_,rfl,Nat.zero_le _,ho1,hb1,rfl⟩
    case round =>
     obtain ⟨i,cur,rfl,hi,hown,hbel,hcur⟩:=hrel
     have HCUR:=hid hcur
     clear hcur ho1 hb1
     by_cases hil:i<m+1
     ·obtain ⟨b',off',hba,_,_,hc1⟩:=HC.out i (by omega)
      simp only [Option.some.injEq,Addr.mk.injEq,and_true] at hba
      obtain ⟨rfl,rfl⟩:=hba
      obtain ⟨y,hy⟩:∃ y,y=xs.getD i 0:=⟨_,rfl⟩
      rw [← hy] at hc1
      have d1:=cellB hbel hc1 (Nat.le_refl _)
      obtain ⟨c1,c2⟩:=own_u32 hown i hil
      have HY:=hid hy
      have f1:(i:Int)<(xs.length:Int):=by omega
      have f2:(i:Int)<(m+1:Nat):=by omega
      clear hy hc1
      go_wp2
      have hs:=own_set hown i y
      refine ⟨⟨i+1,cur.set i y,by go_num,by omega,hs.1,hbel.setCell (by exact Nat.le_refl _) _,?_⟩,by simp [intOf]; omega⟩
      have hcl:=zP hown
      rw [z0 _ _ _ (by omega),HCUR.out,take_snoc xs 0 i (by omega),HY.out]
     ·obtain rfl:i=m+1:=by omega
      have hcl:=zP hown
      have he:qS xs=cur:=by rw [HK2.out,← HCUR.out,List.take_of_length_le (by omega)]
      have HE:=hid he
      clear he hcl
      go_wp2
      go_ret
      refine ⟨_,rfl,?_,hbel⟩
      rw [← HT.out,HE.out]
      exact wZ.ofOwn hown (by rw [← HE.out]; exact HTL.out)
set_option maxHeartbeats 400000 in
theorem of01_any (n:Nat) (w:World) (hn:n<18446744073709551616) :
  Calls Tryz.prog 151 #[.int .u64 (n:Nat)] w fun e w'=>∃ r,e=.returned r∧wZ w.heap.size w'.heap.size w' r (toL n)∧Below w.heap.size w w':=by
 have hv:wD [n % 4294967296,n / 4294967296]=n:=by simp only [wD]; omega
 obtain ⟨a,ha⟩:∃ a,a=n % 4294967296:=⟨_,rfl⟩
 obtain ⟨b,hb⟩:∃ b,b=n / 4294967296:=⟨_,rfl⟩
 have ha2:(n:Int) % 4294967296=(a:Nat):=by omega
 have hb2:(n:Int) / 4294967296=(b:Nat):=by omega
 rw [← ha,← hb] at hv
 have hal:a<4294967296:=by omega
 have hbl:b<4294967296:=by omega
 clear ha hb hn
 have HV:=hid hv
 clear hv
 have hown:(w.alloc (.cells #[.int .u32 (a:Nat),.int .u32 (b:Nat)] 180)).ownsRow w.heap.size 180 1 (.slice (some ⟨w.heap.size,0,none⟩) 2 2) 2 (u32s [a,b]) :=
  World.ownsRow_lit w _ 2 (Nat.le_refl _) (by decide) rfl
 have hb1:Below w.heap.size w (w.alloc (.cells #[.int .u32 (a:Nat),.int .u32 (b:Nat)] 180)):=(Below.refl _ _).alloc (Nat.le_refl _) _
 have hL:=wZ.ofOwn hown (by intro x hx; simp at hx; rcases hx with rfl | rfl <;> assumption)
 have hN:=zQ _ _ _ _ _ hL (by simp)
 rw [HV.out] at hN
 clear hown hL
 go_enter Tryz.func151,Tryz.ntmps151
 go_wp2_with (go_at_call 206; refine hN.mono ?_; rintro e w' ⟨r,rfl,hr,hb2⟩)
 go_ret
 exact ⟨_,rfl,hr.wide hb1.size (Nat.le_refl _),hb1.trans (hb2.mono hb1.size)⟩
end Go.Proofs.YtkjhfnhgefbhhaaGreat
/- simileref01's Add, Small, shift, Sub, Cmp: what they hand back. -/
namespace Go.Proofs.YtkjhfnhgefbhhaaGreat
open Go.RowKit
set_option maxHeartbeats 800000 in
theorem add01_any (lo h1 lo2 h12:Nat) (v v2:Value) (xs ys:List Nat) (w:World) (h:wZ lo h1 w v xs) (h2:wZ lo2 h12 w v2 ys) (hhi:h1≤w.heap.size) (hhi2:h12≤w.heap.size) (hl:xs.length≤17592186044416) (hl2:ys.length≤17592186044416) :
  Calls Tryz.prog 195 #[v,v2] w fun e w'=>∃ r,e=.returned r∧wZ w.heap.size w'.heap.size w' r (toL (wD xs+wD ys))∧Below w.heap.size w w':=by
 obtain ⟨ad,cap,rfl,hc,_,hlt,_⟩:=h.open
 obtain ⟨ad2,cap2,rfl,hc2,_,hlt2,_⟩:=h2.open
 have HLT:=hid hlt
 have HLT2:=hid hlt2
 clear hlt hlt2
 go_enter Tryz.func195,Tryz.ntmps195
 go_upto_if 15 with (fail)
 go_cut [5] (fun t w'=>w'=w∧∃ n:Nat,t=.int .i64 n∧xs.length≤n∧ys.length≤n∧n≤17592186044416)
 case first =>
  by_cases hle:ys.length≤xs.length
  ·go_wp2
   go_meet
   exact ⟨rfl,xs.length,rfl,by omega,by omega,by omega⟩
  ·go_wp2
   go_meet
   exact ⟨rfl,ys.length,rfl,by omega,by omega,by omega⟩
 case rest =>
  obtain ⟨rfl,n,rfl,hn1,hn2,hn⟩:=hcut
  go_wp2_with (at_make; refine zS elemNat rfl _ _ rfl wc.heap.size _ _ _ _ (n+1) (n+1) rfl rfl (by omega) (by omega) (Nat.le_refl _) (by omega) (Below.refl _ _) (Nat.le_refl _) ?_)
  intro w1 ho1 hb1 _
  go_wp2
  have h3:=ho1
  go_loopw [7,23] (fun cv t wr=>∃ (i c:Nat) (cur:List Nat),t=.int .i64 i∧cv=.int .u64 c∧c≤1∧i≤n+1 ∧
    wr.ownsRow wc.heap.size 180 1 (.slice (some ⟨wc.heap.size,0,none⟩) (n+1) (n+1)) (n+1) (u32s cur)∧Below wc.heap.size wc wr ∧
    (∀ x,x∈cur→x<4294967296)∧wD (cur.take i)+4294967296 ^ i*c=wD (xs.take i)+wD (ys.take i)) (fun _ t _=>n+1 - (intOf t).toNat)
  case atStart=>exact ⟨0,0,_,rfl,rfl,by omega,Nat.zero_le _,ho1,hb1,zeroL_lt _,by simp [wD]⟩
  case round =>
   obtain ⟨i,c,cur,rfl,rfl,hc1,hi,hown,hbel,hcl,hval⟩:=hrel
   have HV:=hid hval
   have HCL:=hid hcl
   clear hval hcl ho1 h3 hb1
   by_cases hil:i<n+1
   ·obtain ⟨x,hx⟩:∃ x,xs.getD i 0=x:=⟨_,rfl⟩
    obtain ⟨y,hy⟩:∃ y,ys.getD i 0=y:=⟨_,rfl⟩
    have hx32:x<4294967296:=by rw [← hx]; exact getD_lt xs HLT.out i
    have hy32:y<4294967296:=by rw [← hy]; exact getD_lt ys HLT2.out i
    have q1:=limb_any lo h1 _ xs i x wr (h.below hbel hhi) (by omega) hx
    have q2:=limb_any lo2 h12 _ ys i y wr (h2.below hbel hhi2) (by omega) hy
    have HX:=hid hx
    have HY:=hid hy
    have Q1:=hid q1
    have Q2:=hid q2
    obtain ⟨c1,c2⟩:=own_u32 hown i hil
    clear hx hy q1 q2
    go_wp2_with fail
    refine Q1.out.mono ?_
    rintro e w' ⟨rfl,rfl⟩
    go_wp2_with fail
    refine Q2.out.mono ?_
    rintro e w' ⟨rfl,rfl⟩
    go_wp2
    have hs:=own_set hown i ((x+y+c) % 4294967296)
    have hln:=zP hown
    refine ⟨⟨i+1,(x+y+c) / 4294967296,_,by go_num,by go_num,by omega,by omega,by simpa using hs.1,hbel.setCell (by exact Nat.le_refl _) _,set_lt _ _ _ HCL.out (by omega),?_⟩,by simp [intOf]; omega⟩
    rw [set_val _ _ _ _ hln hil,qO xs,qO ys,HX.out,HY.out,Nat.pow_succ]
    exact carry_step _ _ _ c (x+y+c) _ _ x y _ HV.out rfl rfl rfl (by omega)
   ·obtain rfl:i=n+1:=by omega
    have hln:=zP hown
    have hv:wD cur=wD xs+wD ys:=by
     have:=HV.out
     rw [zO cur _ (by omega),zO xs _ (by omega),zO ys _ (by omega)] at this
     have hc0:c=0:=carry_zero _ _ c (sum_lt n xs ys hn1 hn2 HLT.out HLT2.out) (by rw [← this]; exact Nat.le_add_left _ _)
     rw [hc0,Nat.mul_zero,Nat.add_zero] at this
     exact this
    have hN:=zQ _ _ _ cur wr (wZ.ofOwn hown HCL.out) (by omega)
    rw [hv] at hN
    clear hv hln
    go_wp2_with (go_at_call 206; refine hN.mono ?_; rintro e w' ⟨r,rfl,hr,hb2⟩)
    go_ret
    exact ⟨_,rfl,hr.wide hbel.size (Nat.le_refl _),hbel.trans (hb2.mono hbel.size)⟩
set_option maxHeartbeats 800000 in
theorem small01_any (lo h1:Nat) (v:Value) (xs:List Nat) (d:Nat) (w:World) (h:wZ lo h1 w v xs) (hhi:h1≤w.heap.size) (hl:xs.length≤17592186044416) (hd:d<4294967296) :
  Calls Tryz.prog 247 #[v,.int .u32 (d:Nat)] w fun e w'=>∃ r,e=.returned r∧wZ w.heap.size w'.heap.size w' r (toL (wD xs*d))∧Below w.heap.size w w':=by
 obtain ⟨ad,cap,rfl,hc,_,hlt,_⟩:=h.open
 have HLT:=hid hlt
 clear hlt
 go_enter Tryz.func247,Tryz.ntmps247
 go_wp2_with (at_make; refine zS elemNat rfl _ _ rfl w.heap.size _ _ _ _ (xs.length+1) (xs.length+1) rfl rfl (by omega) (by omega) (Nat.le_refl _) (by omega) (Below.refl _ _) (Nat.le_refl _) ?_)
 intro w1 ho1 hb1 _
 go_wp2
 go_loopw [6,15] (fun cv t wr=>∃ (i c:Nat) (cur:List Nat),t=.int .i64 i∧cv=.int .u64 c∧c<4294967296∧i≤xs.length+1 ∧
   wr.ownsRow w.heap.size 180 1 (.slice (some ⟨w.heap.size,0,none⟩) (xs.length+1) (xs.length+1)) (xs.length+1) (u32s cur)∧Below w.heap.size w wr ∧
   (∀ x,x∈cur→x<4294967296)∧wD (cur.take i)+4294967296 ^ i*c=wD (xs.take i)*d) (fun _ t _=>xs.length+1 - (intOf t).toNat)
 case atStart=>exact ⟨0,0,_,rfl,rfl,by omega,Nat.zero_le _,ho1,hb1,zeroL_lt _,by simp [wD]⟩
 case round =>
  obtain ⟨i,c,cur,rfl,rfl,hc1,hi,hown,hbel,hcl,hval⟩:=hrel
  have HV:=hid hval
  have HCL:=hid hcl
  clear hval hcl ho1 hb1
  by_cases hil:i<xs.length+1
  ·obtain ⟨x,hx⟩:∃ x,xs.getD i 0=x:=⟨_,rfl⟩
   have hx32:x<4294967296:=by rw [← hx]; exact getD_lt xs HLT.out i
   have hp:x*d≤4294967295*4294967295:=Nat.mul_le_mul (by omega) (by omega)
   have q1:=limb_any lo h1 _ xs i x wr (h.below hbel hhi) (by omega) hx
   have HX:=hid hx
   have Q1:=hid q1
   obtain ⟨c1,c2⟩:=own_u32 hown i hil
   clear hx q1
   go_wp2_with fail
   refine Q1.out.mono ?_
   rintro e w' ⟨rfl,rfl⟩
   go_wp2
   have hs:=own_set hown i ((x*d+c) % 4294967296)
   have hln:=zP hown
   refine ⟨⟨i+1,(x*d+c) / 4294967296,_,by go_num,by go_num,by omega,by omega,by simpa using hs.1,hbel.setCell (by exact Nat.le_refl _) _,set_lt _ _ _ HCL.out (by omega),?_⟩,by simp [intOf]; omega⟩
   rw [set_val _ _ _ _ hln hil,qO xs,HX.out,Nat.pow_succ]
   refine carry_step _ _ _ c (x*d+c) _ _ (x*d) 0 _ HV.out (by omega) rfl rfl ?_
   rw [Nat.add_mul,Nat.mul_assoc,Nat.mul_zero,Nat.add_zero]
  ·obtain rfl:i=xs.length+1:=by omega
   have hln:=zP hown
   have hv:wD cur=wD xs*d:=by
    have:=HV.out
    rw [zO cur _ (by omega),zO xs _ (by omega)] at this
    have hc0:c=0:=carry_zero _ _ c (prod_lt xs d HLT.out hd) (by rw [← this]; exact Nat.le_add_left _ _)
    rw [hc0,Nat.mul_zero,Nat.add_zero] at this
    exact this
   have hN:=zQ _ _ _ cur wr (wZ.ofOwn hown HCL.out) (by omega)
   rw [hv] at hN
   clear hv hln
   go_wp2_with (go_at_call 206; refine hN.mono ?_; rintro e w' ⟨r,rfl,hr,hb2⟩)
   go_ret
   exact ⟨_,rfl,hr.wide hbel.size (Nat.le_refl _),hbel.trans (hb2.mono hbel.size)⟩
set_option maxHeartbeats 800000 in
theorem shift01_any (lo h1:Nat) (v:Value) (xs:List Nat) (d:Nat) (w:World) (h:wZ lo h1 w v xs) (hhi:h1≤w.heap.size) (hl:xs.length≤17592186044416) (hd:d<4294967296) :
  Calls Tryz.prog 246 #[v,.int .u32 (d:Nat)] w fun e w'=>∃ r,e=.returned r∧wZ w.heap.size w'.heap.size w' r (toL (d+4294967296*wD xs))∧Below w.heap.size w w':=by
 have hlt:∀ x,x∈d :: xs→x<4294967296:=by
  obtain ⟨ad,cap,rfl,hc,_,hlt,_⟩:=h.open
  intro x hx
  rcases List.mem_cons.1 hx with rfl | hx
  ·exact hd
  ·exact hlt x hx
 have hown:(w.alloc (.cells #[.int .u32 (d:Nat)] 180)).ownsRow w.heap.size 180 1 (.slice (some ⟨w.heap.size,0,none⟩) 1 1) 1 (u32s [d]) :=
  World.ownsRow_lit w _ 1 (Nat.le_refl _) (by decide) rfl
 have hb1:Below w.heap.size w (w.alloc (.cells #[.int .u32 (d:Nat)] 180)):=(Below.refl _ _).alloc (Nat.le_refl _) _
 have hL:=h.below hb1 hhi
 have HLT:=hid hlt
 clear hlt
 go_enter Tryz.func246,Tryz.ntmps246
 go_wp2_with (at_builtin; refine wpl_append_limbs elemNat rfl _ _ rfl w.heap.size 1 _ _ _ xs _ _ hown hL rfl rfl (by omega) hb1 hb1.size ?_)
 intro v' w1 ho1 hb2 _ _
 have hlen:(1+xs.length)=(d :: xs).length:=by simp; omega
 rw [hlen] at ho1
 have hN:=zQ _ _ _ (d :: xs) w1 (wZ.ofOwn ho1 HLT.out) (by simp; omega)
 clear hlen
 go_wp2_with (go_at_call 206; refine hN.mono ?_; rintro e w' ⟨r,rfl,hr,hb3⟩)
 go_ret
 exact ⟨_,rfl,hr.wide hb2.size (Nat.le_refl _),hb2.trans (hb3.mono hb2.size)⟩
end Go.Proofs.YtkjhfnhgefbhhaaGreat
/- simileref01's Cmp, Sub: what they hand back. -/
namespace Go.Proofs.YtkjhfnhgefbhhaaGreat
open Go.RowKit
def cmpN (a b:Nat):Int:=if a<b then -1 else if b<a then 1 else 0
set_option maxHeartbeats 1600000 in
theorem cmp01_any (lo h1 lo2 h12:Nat) (v v2:Value) (xs ys:List Nat) (w:World) (h:wZ lo h1 w v xs) (h2:wZ lo2 h12 w v2 ys) (hl:xs.length≤17592186044416) (hl2:ys.length≤17592186044416) :
  Calls Tryz.prog 196 #[v,v2] w fun e w'=>e=.returned (.int .i64 (cmpN (wD xs) (wD ys)))∧w=w':=by
 obtain ⟨ad,cap,rfl,hc,_,hlt,_⟩:=h.open
 obtain ⟨ad2,cap2,rfl,hc2,_,hlt2,_⟩:=h2.open
 have HLT:=hid hlt
 have HLT2:=hid hlt2
 clear hlt hlt2
 go_enter Tryz.func196,Tryz.ntmps196
 go_upto_if 12 with (fail)
 go_cut [5] (fun t w'=>w'=w∧∃ n:Nat,t=.int .i64 n∧xs.length≤n∧ys.length≤n∧n≤17592186044416)
 case first =>
  by_cases hle:ys.length≤xs.length
  ·go_wp2
   go_meet
   exact ⟨rfl,xs.length,rfl,by omega,by omega,by omega⟩
  ·go_wp2
   go_meet
   exact ⟨rfl,ys.length,rfl,by omega,by omega,by omega⟩
 case rest =>
  obtain ⟨rfl,n,rfl,hn1,hn2,hn⟩:=hcut
  go_wp2
  go_loop [6] (fun t=>∃ k:Nat,t=.int .i64 ((k:Int) - 1)∧k≤n∧wD (xs.drop k)=wD (ys.drop k)) (fun t=>(intOf t+1).toNat)
  case atStart=>exact ⟨n,rfl,Nat.le_refl _,by rw [List.drop_of_length_le hn1,List.drop_of_length_le hn2]⟩
  case round =>
   obtain ⟨k,rfl,hk,he⟩:=hrel
   have HE:=hid he
   clear he
   cases k with
   | zero =>
    go_wp2
    go_ret
    have:cmpN (wD xs) (wD ys)=0:=by
     have:=HE.out
     simp only [List.drop_zero] at this
     rw [this]; simp [cmpN]
    rw [this]
    exact ⟨rfl,rfl⟩
   | succ m =>
    obtain ⟨x,hx⟩:∃ x,xs.getD m 0=x:=⟨_,rfl⟩
    obtain ⟨y,hy⟩:∃ y,ys.getD m 0=y:=⟨_,rfl⟩
    have hx32:x<4294967296:=by rw [← hx]; exact getD_lt xs HLT.out m
    have hy32:y<4294967296:=by rw [← hy]; exact getD_lt ys HLT2.out m
    have q1:=limb_any lo h1 _ xs m x wc h (by omega) hx
    have q2:=limb_any lo2 h12 _ ys m y wc h2 (by omega) hy
    have HX:=hid hx
    have HY:=hid hy
    have Q1:=hid q1
    have Q2:=hid q2
    clear hx hy q1 q2
    have c1:wD xs<wD ys→cmpN (wD xs) (wD ys) = -1:=fun h=>by simp [cmpN,h]
    have c2:wD ys<wD xs→cmpN (wD xs) (wD ys)=1:=fun h=>by rw [cmpN,if_neg (by omega),if_pos h]
    have C1:=hid c1
    have C2:=hid c2
    clear c1 c2
    rcases Nat.lt_trichotomy x y with hxy | hxy | hxy
    ·go_wp2_with fail
     refine Q1.out.mono ?_
     rintro e w' ⟨rfl,rfl⟩
     go_wp2_with fail
     refine Q2.out.mono ?_
     rintro e w' ⟨rfl,rfl⟩
     go_wp2
     go_ret
     rw [C1.out (drop_lt xs ys m HLT.out (drop_step xs ys m x y HX.out HY.out HE.out hxy))]
     exact ⟨rfl,rfl⟩
    ·have hxy2:x≤y:=by omega
     have hxy3:y≤x:=by omega
     have HXY:=hid hxy
     clear hxy
     go_wp2_with fail
     refine Q1.out.mono ?_
     rintro e w' ⟨rfl,rfl⟩
     go_wp2_with fail
     refine Q2.out.mono ?_
     rintro e w' ⟨rfl,rfl⟩
     go_wp2_with fail
     refine Q1.out.mono ?_
     rintro e w' ⟨rfl,rfl⟩
     go_wp2_with fail
     refine Q2.out.mono ?_
     rintro e w' ⟨rfl,rfl⟩
     go_wp2
     refine ⟨⟨m,by go_num,by omega,?_⟩,by simp [intOf]⟩
     rw [qJ xs m,qJ ys m,HX.out,HY.out,HE.out,HXY.out]
    ·go_wp2_with fail
     refine Q1.out.mono ?_
     rintro e w' ⟨rfl,rfl⟩
     go_wp2_with fail
     refine Q2.out.mono ?_
     rintro e w' ⟨rfl,rfl⟩
     go_wp2_with fail
     refine Q1.out.mono ?_
     rintro e w' ⟨rfl,rfl⟩
     go_wp2_with fail
     refine Q2.out.mono ?_
     rintro e w' ⟨rfl,rfl⟩
     go_wp2
     go_ret
     rw [C2.out (drop_lt ys xs m HLT2.out (drop_step ys xs m y x HY.out HX.out HE.out.symm hxy))]
     exact ⟨rfl,rfl⟩
set_option maxHeartbeats 1600000 in
theorem sub01_any (lo h1 lo2 h12:Nat) (v v2:Value) (xs ys:List Nat) (w:World) (h:wZ lo h1 w v xs) (h2:wZ lo2 h12 w v2 ys) (hhi:h1≤w.heap.size) (hhi2:h12≤w.heap.size) (hl:xs.length≤17592186044416)
  (hle:wD ys≤wD xs) :
  Calls Tryz.prog 197 #[v,v2] w fun e w'=>∃ r,e=.returned r∧wZ w.heap.size w'.heap.size w' r (toL (wD xs - wD ys))∧Below w.heap.size w w':=by
 obtain ⟨ad,cap,rfl,hc,_,hlt,_⟩:=h.open
 obtain ⟨ad2,cap2,rfl,hc2,_,hlt2,_⟩:=h2.open
 have HLT:=hid hlt
 have HLT2:=hid hlt2
 have HLE:=hid hle
 clear hlt hlt2 hle
 go_enter Tryz.func197,Tryz.ntmps197
 go_wp2_with (at_make; refine zS elemNat rfl _ _ rfl w.heap.size _ _ _ _ xs.length xs.length rfl rfl rfl rfl (Nat.le_refl _) (by omega) (Below.refl _ _) (Nat.le_refl _) ?_)
 intro w1 ho1 hb1 _
 go_wp2
 go_loopw [6,14] (fun cv t wr=>∃ (i c:Nat) (cur:List Nat),t=.int .i64 i∧cv=.int .u64 c∧c≤1∧i≤xs.length ∧
   wr.ownsRow w.heap.size 180 1 (.slice (some ⟨w.heap.size,0,none⟩) xs.length xs.length) xs.length (u32s cur)∧Below w.heap.size w wr ∧
   (∀ x,x∈cur→x<4294967296)∧wD (cur.take i)+wD (ys.take i)=wD (xs.take i)+4294967296 ^ i*c) (fun _ t _=>xs.length - (intOf t).toNat)
 case atStart=>exact ⟨0,0,_,rfl,rfl,by omega,Nat.zero_le _,ho1,hb1,zeroL_lt _,by simp [wD]⟩
 case round =>
  obtain ⟨i,c,cur,rfl,rfl,hc1,hi,hown,hbel,hcl,hval⟩:=hrel
  have HV:=hid hval
  have HCL:=hid hcl
  clear hval hcl ho1 hb1
  by_cases hil:i<xs.length
  ·obtain ⟨x,hx⟩:∃ x,xs.getD i 0=x:=⟨_,rfl⟩
   obtain ⟨y,hy⟩:∃ y,ys.getD i 0=y:=⟨_,rfl⟩
   have hx32:x<4294967296:=by rw [← hx]; exact getD_lt xs HLT.out i
   have hy32:y<4294967296:=by rw [← hy]; exact getD_lt ys HLT2.out i
   have q1:=limb_any lo h1 _ xs i x wr (h.below hbel hhi) (by omega) hx
   have q2:=limb_any lo2 h12 _ ys i y wr (h2.below hbel hhi2) (by omega) hy
   have HX:=hid hx
   have HY:=hid hy
   have Q1:=hid q1
   have Q2:=hid q2
   obtain ⟨c1,c2⟩:=own_u32 hown i hil
   clear hx hy q1 q2
   go_wp2_with fail
   refine Q1.out.mono ?_
   rintro e w' ⟨rfl,rfl⟩
   go_wp2_with fail
   refine Q2.out.mono ?_
   rintro e w' ⟨rfl,rfl⟩
   go_wp2
   have hs:=own_set hown i ((4294967296+x - y - c) % 4294967296)
   have hln:=zP hown
   have e1:(4294967296+(x:Int) - y - c)=((4294967296+x - y - c:Nat):Int):=by omega
   have e2:(1:Int) - (4294967296+(x:Int) - y - c) / 4294967296=((1 - (4294967296+x - y - c) / 4294967296:Nat):Int):=by omega
   refine ⟨⟨i+1,1 - (4294967296+x - y - c) / 4294967296,_,by go_num,by rw [e2],by omega,by omega,by rw [e1]; simpa using hs.1,by rw [e1]; exact hbel.setCell (by exact Nat.le_refl _) _,set_lt _ _ _ HCL.out (by omega),?_⟩,by simp [intOf]; omega⟩
   rw [set_val _ _ _ _ hln hil,qO xs,qO ys,HX.out,HY.out,Nat.pow_succ]
   exact sub_carry _ _ c (4294967296+x - y - c) _ _ x y _ HV.out (by omega) rfl (by omega)
  ·obtain rfl:i=xs.length:=by omega
   have hln:=zP hown
   have hv:wD cur=wD xs - wD ys:=by
    have:=HV.out
    rw [zO cur _ (by omega),zO xs _ (by omega)] at this
    have p1:=q9 xs HLT.out
    have p2:=q9 cur HCL.out
    have p3:=qZ ys xs.length
    have p4:=HLE.out
    rw [hln] at p2
    generalize 4294967296 ^ xs.length=P at *
    have z1:wD (ys.drop xs.length)=0:=carry_zero P _ _ p1 (by omega)
    rw [z1,Nat.mul_zero] at p3
    have z2:c=0:=carry_zero P _ _ p2 (by omega)
    rw [z2,Nat.mul_zero] at this
    omega
   have hN:=zQ _ _ _ cur wr (wZ.ofOwn hown HCL.out) (by omega)
   rw [hv] at hN
   clear hv hln
   go_wp2_with (go_at_call 206; refine hN.mono ?_; rintro e w' ⟨r,rfl,hr,hb2⟩)
   go_ret
   exact ⟨_,rfl,hr.wide hbel.size (Nat.le_refl _),hbel.trans (hb2.mono hbel.size)⟩
end Go.Proofs.YtkjhfnhgefbhhaaGreat
/- nat.Cmp: which one is greater. -/
namespace Go.Proofs.YtkjhfnhgefbhhaaGreat
open Go.RowKit
theorem qN {a b:Nat} (h:a≤b):(toL a).length≤(toL b).length:=by
 refine kB a _ (Nat.lt_of_le_of_lt h ?_)
 have:=q9 (toL b) (zG b)
 rwa [wY] at this
theorem cmpN_lt {a b:Nat} (h:a<b):cmpN a b = -1:=by simp [cmpN,h]
theorem cmpN_gt {a b:Nat} (h:b<a):cmpN a b=1:=by rw [cmpN,if_neg (by omega),if_pos h]
theorem cmpN_eq (a:Nat):cmpN a a=0:=by simp [cmpN]
set_option maxHeartbeats 800000 in
theorem cmp_any (lo h1 lo2 h12:Nat) (v v2:Value) (xs ys:List Nat) (w:World) (h:wZ lo h1 w v xs) (h2:wZ lo2 h12 w v2 ys) (hl:xs.length≤35184372088832) (hl2:ys.length≤35184372088832) :
  Calls Tryz.prog 132 #[v,v2] w fun e w'=>e=.returned (.int .i64 (cmpN (wD xs) (wD ys)))∧Below w.heap.size w w':=by
 have t1:=zB xs (by obtain ⟨_,_,_,_,_,hlt,_⟩:=h.open; exact hlt)
 have t2:=zB ys (by obtain ⟨_,_,_,_,_,hlt,_⟩:=h2.open; exact hlt)
 have l1:=zV xs
 have l2:=zV ys
 have q1:=trim_any lo h1 v xs w h (by omega)
 have q2:=trim_any lo2 h12 v2 ys w h2 (by omega)
 rw [t1] at q1 l1
 rw [t2] at q2 l2
 obtain ⟨X,hX⟩:∃ X,wD xs=X:=⟨_,rfl⟩
 obtain ⟨Y,hY⟩:∃ Y,wD ys=Y:=⟨_,rfl⟩
 rw [hX] at q1 l1 ⊢
 rw [hY] at q2 l2 ⊢
 have HX:=hid (wY X)
 have HY:=hid (wY Y)
 have HL1:=hid (@qN X Y)
 have HL2:=hid (@qN Y X)
 clear hX hY h h2 t1 t2
 generalize toL X=us at *
 generalize toL Y=vs at *
 have Q1:=hid q1
 have Q2:=hid q2
 clear q1 q2
 go_enter Tryz.func132,Tryz.ntmps132
 go_wp2_with fail
 refine Q1.out.mono ?_
 rintro e w' ⟨r1,rfl,hr1,rfl⟩
 go_wp2_with fail
 refine Q2.out.mono ?_
 rintro e w' ⟨r2,rfl,hr2,rfl⟩
 obtain ⟨ad,cap,rfl,_,_,hlt1,hcell⟩:=hr1.open
 obtain ⟨ad2,cap2,rfl,_,_,hlt2,hcell2⟩:=hr2.open
 have HC:=hid hcell
 have HC2:=hid hcell2
 have HLT1:=hid hlt1
 have HLT2:=hid hlt2
 clear Q1 Q2 hr1 hr2 hcell hcell2 hlt1 hlt2
 rcases Nat.lt_trichotomy us.length vs.length with hlen | hlen | hlen
 ·have hc:=cmpN_lt (a:=X) (b:=Y) (by
   rcases Nat.lt_or_ge X Y with h | h
   ·exact h
   ·have:=HL2.out h; omega)
  have hb:((us.length:Int) != vs.length)=true:=by simp [bne_iff_ne]; omega
  have HH:=hid hc
  clear hc
  go_wp2
  go_ret
  rw [HH.out]
  exact ⟨rfl,Below.refl _ _⟩
 ·have hb:((us.length:Int) != vs.length)=false:=by simp [hlen]
  have HLEN:=hid hlen
  clear hlen
  go_wp2
  go_loopw [5] (fun t wr=>∃ k:Nat,t=.int .i64 ((k:Int) - 1)∧k≤us.length∧Below w.heap.size w wr∧wD (us.drop k)=wD (vs.drop k)) (fun t _=>(intOf t+1).toNat)
  case atStart=>exact ⟨us.length,rfl,Nat.le_refl _,Below.refl _ _,by rw [List.drop_length,HLEN.out,List.drop_length]⟩
  case round =>
   obtain ⟨k,rfl,hk,hbel,he⟩:=hrel
   have HE:=hid he
   clear he hb
   cases k with
   | zero =>
    go_wp2
    go_ret
    have:=HE.out
    rw [List.drop_zero,List.drop_zero,HX.out,HY.out] at this
    rw [this,cmpN_eq]
    exact ⟨rfl,hbel⟩
   | succ m =>
    have hlv:=HLEN.out
    obtain ⟨b,off,rfl,_,_,hc1⟩:=HC.out m (by omega)
    obtain ⟨b2,off2,rfl,_,_,hc2⟩:=HC2.out m (by omega)
    obtain ⟨x,hx⟩:∃ x,us.getD m 0=x:=⟨_,rfl⟩
    obtain ⟨y,hy⟩:∃ y,vs.getD m 0=y:=⟨_,rfl⟩
    rw [hx] at hc1
    rw [hy] at hc2
    have d1:=cellB hbel hc1 (Nat.le_refl _)
    have d2:=cellB hbel hc2 (Nat.le_refl _)
    have f1:(m:Int)<(us.length:Int):=by omega
    have f2:(m:Int)<(vs.length:Int):=by omega
    have HXX:=hid hx
    have HYY:=hid hy
    clear hc1 hc2 hx hy hlv
    rcases Nat.lt_trichotomy x y with hxy | hxy | hxy
    ·have e1:((x:Int) != (y:Int))=true:=by simp [bne_iff_ne]; omega
     have e2:decide ((x:Int)<(y:Int))=true:=by simp; omega
     go_wp2
     go_quiet (fail)
     go_wp2
     go_quiet (fail)
     go_wp2
     go_ret
     have:=drop_lt us vs m HLT1.out (drop_step us vs m x y HXX.out HYY.out HE.out hxy)
     rw [HX.out,HY.out] at this
     rw [cmpN_lt this]
     exact ⟨rfl,belowN (belowN hbel _) _⟩
    ·subst hxy
     go_wp2
     go_quiet (fail)
     go_wp2
     refine ⟨⟨m,by go_num,by omega,belowN hbel _,?_⟩,by simp [intOf]⟩
     rw [qJ us m,qJ vs m,HXX.out,HYY.out,HE.out]
    ·have e1:((x:Int) != (y:Int))=true:=by simp [bne_iff_ne]; omega
     have e2:decide ((x:Int)<(y:Int))=false:=by simp; omega
     go_wp2
     go_quiet (fail)
     go_wp2
     go_quiet (fail)
     go_wp2
     go_ret
     have:=drop_lt vs us m HLT2.out (drop_step vs us m y x HYY.out HXX.out HE.out.symm hxy)
     rw [HX.out,HY.out] at this
     rw [cmpN_gt this]
     exact ⟨rfl,belowN (belowN hbel _) _⟩
 ·have hc:=cmpN_gt (a:=X) (b:=Y) (by
   rcases Nat.lt_or_ge Y X with h | h
   ·exact h
   ·have:=HL1.out h; omega)
  have hb:((us.length:Int) != vs.length)=true:=by simp [bne_iff_ne]; omega
  have hb2:decide (us.length<vs.length)=false:=by simp; omega
  have HH:=hid hc
  clear hc
  go_wp2
  go_ret
  rw [HH.out]
  exact ⟨rfl,Below.refl _ _⟩
end Go.Proofs.YtkjhfnhgefbhhaaGreat
/- Limbs shifted; common divisors by halves. Plain; no condition. -/
namespace Go.Proofs.YtkjhfnhgefbhhaaGreat
open Go.RowKit
theorem natOf_div_pow (xs:List Nat) (i:Nat) (hx:∀ x,x∈xs→x<4294967296):wD xs / 4294967296 ^ i=wD (xs.drop i):=by
 have h1:=qZ xs i
 have h2:=z7 xs i hx
 rw [h1,Nat.add_comm,Nat.mul_add_div (Nat.pow_pos (by decide)),Nat.div_eq_of_lt h2,Nat.add_zero]
theorem pow32 (s:Nat) (hs:s≤32):∃ c,4294967296=2 ^ s*c:=⟨2 ^ (32 - s),by rw [← Nat.pow_add,show s+(32 - s)=32 by omega]⟩
theorem digit_right (xs:List Nat) (i s:Nat) (hs:s≤32) (hx:∀ x,x∈xs→x<4294967296) :
  wD xs / 2 ^ s / 4294967296 ^ i % 4294967296=(xs.getD i 0+4294967296*xs.getD (i+1) 0) / 2 ^ s % 4294967296:=by
 obtain ⟨c,hc⟩:=pow32 s hs
 rw [Nat.div_div_eq_div_mul,Nat.mul_comm,← Nat.div_div_eq_div_mul,natOf_div_pow xs i hx,qJ xs i,qJ xs (i+1)]
 generalize wD (xs.drop (i+1+1))=R
 generalize xs.getD i 0=x
 generalize xs.getD (i+1) 0=y
 have e:x+4294967296*(y+4294967296*R)=x+4294967296*y+2 ^ s*(c*(4294967296*R)):=by
  rw [Nat.mul_add,← Nat.add_assoc,← Nat.mul_assoc (2 ^ s),← hc]
 rw [e,Nat.add_mul_div_left _ _ (Nat.pow_pos (by decide)),Nat.mul_left_comm,Nat.add_mul_mod_self_left]
theorem right_step (N P d:Nat) (hd:N / P % 4294967296=d):N % (P*4294967296)=N % P+P*d:=by
 rw [Nat.mod_mul,hd]
theorem right_all (xs:List Nat) (s:Nat) (hx:∀ x,x∈xs→x<4294967296):wD xs / 2 ^ s % 4294967296 ^ xs.length=wD xs / 2 ^ s :=
 Nat.mod_eq_of_lt (Nat.lt_of_le_of_lt (Nat.div_le_self _ _) (q9 xs hx))
theorem left_step (P A c N x s:Nat) (h:A+P*c=N*2 ^ s) (hc:c<2 ^ s) (hs:s<32) :
  A+P*(x*2 ^ s % 4294967296+c)+P*4294967296*(x*2 ^ s / 4294967296)=(N+P*x)*2 ^ s∧x*2 ^ s % 4294967296+c<4294967296∧(x<4294967296→x*2 ^ s / 4294967296<2 ^ s):=by
 have h1:=Nat.div_add_mod (x*2 ^ s) 4294967296
 refine ⟨?_,?_,fun hx=>?_⟩
 ·rw [Nat.add_mul,← h,Nat.mul_assoc P x]
  have h2:P*(x*2 ^ s)=P*4294967296*(x*2 ^ s / 4294967296)+P*(x*2 ^ s % 4294967296):=by
   conv=>lhs; rw [← h1]
   rw [Nat.mul_add,Nat.mul_assoc]
  rw [h2,Nat.mul_add]
  omega
 ·obtain ⟨d,hd⟩:=pow32 s (by omega)
  have e:x*2 ^ s % 4294967296=2 ^ s*(x % d):=by rw [hd,Nat.mul_comm x,Nat.mul_mod_mul_left]
  have hd0:0<d:=by
   rcases Nat.eq_zero_or_pos d with h0 | h0
   ·subst h0; simp at hd
   ·exact h0
  have hm:=Nat.mod_lt x hd0
  have:2 ^ s*(x % d+1)≤2 ^ s*d:=Nat.mul_le_mul_left _ hm
  rw [Nat.mul_add,Nat.mul_one,← hd] at this
  omega
 ·refine Nat.div_lt_of_lt_mul ?_
  exact (Nat.mul_lt_mul_right (Nat.pow_pos (by decide))).2 hx
theorem or_low (x s c:Nat) (hs:s<32) (hc:c<2 ^ s):(x*2 ^ s % 4294967296) ||| c=x*2 ^ s % 4294967296+c:=by
 obtain ⟨d,hd⟩:=pow32 s (by omega)
 have e:x*2 ^ s % 4294967296=2 ^ s*(x % d):=by rw [hd,Nat.mul_comm x,Nat.mul_mod_mul_left]
 rw [e,← Nat.two_pow_add_eq_or_of_lt hc]
theorem gcd_half {a b:Nat} (ha:a % 2=0) (hg:Nat.gcd a b % 2=1):Nat.gcd (a / 2) b=Nat.gcd a b:=by
 obtain ⟨c,rfl⟩:=Nat.dvd_of_mod_eq_zero ha
 have hb:b % 2=1:=by
  rcases Nat.mod_two_eq_zero_or_one b with h | h
  ·exfalso
   obtain ⟨d,rfl⟩:=Nat.dvd_of_mod_eq_zero h
   rw [Nat.gcd_mul_left] at hg
   omega
  ·exact h
 rw [Nat.mul_div_cancel_left _ (by decide)]
 have hc:Nat.Coprime 2 b:=by
  unfold Nat.Coprime
  rw [Nat.gcd_rec,hb]
  rfl
 exact (Nat.Coprime.gcd_mul_left_cancel c hc).symm
theorem gcd_both {a b:Nat} (ha:a % 2=0) (hb:b % 2=0):Nat.gcd a b=2*Nat.gcd (a / 2) (b / 2):=by
 obtain ⟨c,rfl⟩:=Nat.dvd_of_mod_eq_zero ha
 obtain ⟨d,rfl⟩:=Nat.dvd_of_mod_eq_zero hb
 rw [Nat.gcd_mul_left,Nat.mul_div_cancel_left _ (by decide),Nat.mul_div_cancel_left _ (by decide)]
theorem gcd_odd {a b:Nat} (h:¬ (a % 2=0∧b % 2=0)):Nat.gcd a b % 2=1:=by
 rcases Nat.mod_two_eq_zero_or_one (Nat.gcd a b) with h1 | h1
 ·exfalso
  have h2:=Nat.dvd_of_mod_eq_zero h1
  exact h ⟨Nat.mod_eq_zero_of_dvd (Nat.dvd_trans h2 (Nat.gcd_dvd_left a b)),Nat.mod_eq_zero_of_dvd (Nat.dvd_trans h2 (Nat.gcd_dvd_right a b))⟩
 ·exact h1
theorem gcd_less {a b:Nat} (h:b≤a):Nat.gcd (a - b) b=Nat.gcd a b:=by
 rw [Nat.gcd_comm,Nat.gcd_comm a]
 exact Nat.gcd_sub_self_right h
theorem natOf_set (l:List Nat) (j v:Nat) (h:j<l.length):wD (l.set j v)+4294967296 ^ j*l.getD j 0=wD l+4294967296 ^ j*v:=by
 induction l generalizing j with
 | nil=>simp at h
 | cons x xs ih =>
  cases j with
  | zero=>simp only [List.set_cons_zero,wD,List.getD_cons_zero,Nat.pow_zero]; omega
  | succ j =>
   have:=ih j (by simpa using h)
   simp only [List.set_cons_succ,wD,List.getD_cons_succ,Nat.pow_succ]
   have e1:4294967296 ^ j*4294967296*xs.getD j 0=4294967296*(4294967296 ^ j*xs.getD j 0):=by rw [Nat.mul_comm (4294967296 ^ j),Nat.mul_assoc]
   have e2:4294967296 ^ j*4294967296*v=4294967296*(4294967296 ^ j*v):=by rw [Nat.mul_comm (4294967296 ^ j),Nat.mul_assoc]
   rw [e1,e2]
   generalize 4294967296 ^ j*xs.getD j 0=p at *
   generalize 4294967296 ^ j*v=q at *
   omega
theorem natOf_replicate (n:Nat):wD (List.replicate n 0)=0:=by
 induction n with
 | zero=>rfl
 | succ n ih=>simp [List.replicate_succ,wD,ih]
theorem mul_step (P O O' o x y c V Yk:Nat) (h:O+P*c=V+x*Yk) (hset:O'+P*o=O+P*((x*y+o+c) % 4294967296)) :
  O'+P*4294967296*((x*y+o+c) / 4294967296)=V+x*(Yk+P*y):=by
 have h1:=Nat.div_add_mod (x*y+o+c) 4294967296
 have e1:P*(x*y+o+c)=P*4294967296*((x*y+o+c) / 4294967296)+P*((x*y+o+c) % 4294967296):=by
  conv=>lhs; rw [← h1]
  rw [Nat.mul_add,Nat.mul_assoc]
 rw [Nat.mul_add,Nat.mul_add] at e1
 rw [Nat.mul_add,Nat.mul_left_comm x P y]
 omega
end Go.Proofs.YtkjhfnhgefbhhaaGreat
