/- nat.Add, nat.less, nat.Sub: sums and differences, limb by limb. -/
import Derived.Test.YtkjhfnhgefbhhaaGreatCf10
import Derived.Shelf.Small.Bits
import Derived.Shelf.Strconv.Itoa0
import Derived.Shelf.Slices.Turned
import Derived.Test.YtkjhfnhgefbhhaaGreatProg
import Derived.Lib.BitFns
import Derived.Test.YtkjhfnhgefbhhaaGreatCf09
set_option linter.all false
set_option maxRecDepth 20000
set_option maxHeartbeats 6400000
namespace Go.Proofs.YtkjhfnhgefbhhaaGreat
open Go.RowKit
theorem add1_any (x y c g:Nat) (w:World) (hx:x<4294967296) (hy:y<4294967296) (hc:c≤1) (hb:zL w g 180 [.int .u32 (c:Nat)]) :
  Calls Tryz.prog 231 #[.int .u32 (x:Nat),.int .u32 (y:Nat),.pointer (some ⟨g,0,none⟩)] w fun e w' =>
   e=.returned (.int .u32 (((x+y+c) % 4294967296:Nat):Int))∧w'=w.setCell ⟨g,0,none⟩ (.int .u32 (((x+y+c) / 4294967296:Nat):Int)):=by
 obtain ⟨d0,f0⟩:=hb.one; have Q1:=hid (add32_any x y c w hx hy hc)
 clear hb
 go_enter Tryz.func231,Tryz.ntmps231
 go_wp2_with fail
 refine Q1.out.mono ?_
 rintro e w' ⟨rfl,rfl⟩
 go_wp2
 go_ret
 exact ⟨rfl,rfl⟩
theorem less1_any (x y c g:Nat) (w:World) (hx:x<4294967296) (hy:y<4294967296) (hc:c≤1) (hb:zL w g 180 [.int .u32 (c:Nat)]) :
  Calls Tryz.prog 294 #[.int .u32 (x:Nat),.int .u32 (y:Nat),.pointer (some ⟨g,0,none⟩)] w fun e w' =>
   e=.returned (.int .u32 (((x+8589934592 - y - c) % 4294967296:Nat):Int))∧w'=w.setCell ⟨g,0,none⟩ (.int .u32 ((lent x y c:Nat):Int)):=by
 obtain ⟨d0,f0⟩:=hb.one; have Q1:=hid (sub32_any x y c w hx hy hc)
 clear hb
 go_enter Tryz.func294,Tryz.ntmps294
 go_wp2_with fail
 refine Q1.out.mono ?_
 rintro e w' ⟨rfl,rfl⟩
 go_wp2
 go_ret
 exact ⟨rfl,rfl⟩
def qE8 (f:Nat) (F:Nat→Nat→Nat→Nat × Nat):Prop:=∀ (x y c g:Nat) (w:World),x<4294967296→y<4294967296→c≤1→zL w g 180 [.int .u32 (c:Nat)] →
 Calls Tryz.prog f #[.int .u32 (x:Nat),.int .u32 (y:Nat),.pointer (some ⟨g,0,none⟩)] w fun e w'=>e=.returned (.int .u32 ((F x y c).1:Nat))∧w'=w.setCell ⟨g,0,none⟩ (.int .u32 ((F x y c).2:Nat))
def qL (F:Nat→Nat→Nat→Nat × Nat) (us vs:List Nat):Nat→List Nat × Nat
 | 0=>([],0)
 | i+1=>((qL F us vs i).1++[(F (us.getD i 0) (vs.getD i 0) (qL F us vs i).2).1],(F (us.getD i 0) (vs.getD i 0) (qL F us vs i).2).2)
theorem wVF (F:Nat→Nat→Nat→Nat × Nat) (us vs:List Nat) (i:Nat):(qL F us vs i).1.length=i:=by
 induction i with
 | zero=>rfl
 | succ i ih=>simp [qL,ih]
set_option maxRecDepth 100000 in
theorem each_add (F:Nat→Nat→Nat→Nat × Nat) (hF:qE8 231 F) (hF1:∀ x y c,x<4294967296→y<4294967296→c≤1→(F x y c).1<4294967296∧(F x y c).2≤1)
  (lo h1 lo2 h12 g0:Nat) (v v2:Value) (us vs:List Nat) (w:World) (h:wO lo h1 w v us) (h2:wO lo2 h12 w v2 vs) (hh:h1≤g0) (hh2:h12≤g0) (hb:zL w g0 180 [.int .u32 0])
  (hl:us.length≤17592186044416) (hl2:vs.length≤17592186044416) :
  Calls Tryz.prog 230 #[v,v2,.func (.func 231) #[] #[.pointer (some ⟨g0,0,none⟩)]] w fun e w'=>∃ n g,e=.returned (.slice (some ⟨g,0,none⟩) n (n+1))∧n=max us.length vs.length ∧
   w'.ownsRow w.heap.size 180 1 (.slice (some ⟨g,0,none⟩) n (n+1)) n (kP (qL F us vs n).1)∧(∀ x,x∈(qL F us vs n).1→x<4294967296)∧(qL F us vs n).2≤1∧zL w' g0 180 [.int .u32 ((qL F us vs n).2:Nat)]∧Below g0 w w':=by
 have hg0:=hb.lt; obtain ⟨ad,cap,rfl,_,_,hlt1,hcell⟩:=h.open
 obtain ⟨ad2,cap2,rfl,_,_,hlt2,hcell2⟩:=h2.open; obtain ⟨n,hn⟩:∃ n,max us.length vs.length=n:=⟨_,rfl⟩
 rw [hn]; have n1:us.length≤n:=by omega
 have n2:vs.length≤n:=by omega
 have n3:n≤17592186044416:=by omega
 have hni:max (us.length:Int) (vs.length:Int)=(n:Int):=by omega
 have HC:=hid hcell; have HC2:=hid hcell2
 have HLT1:=hid hlt1; have HLT2:=hid hlt2
 have HFN:=hid hF; have HF1:=hid hF1
 have HB0:=hid hb; have hn3:n≤us.length∨n≤vs.length:=by omega
 clear h h2 hcell hcell2 hlt1 hlt2 hF hF1 hb hn; clear hni
 go_enter Tryz.func230,Tryz.ntmps230
 go_upto_region 1 with (fail)
 go_cut [7] (fun t w'=>w'=w∧t=.int .i64 (n:Nat))
 case first =>
  go_wp2
  all_goals
   go_meet
   case rel=>exact ⟨rfl,by congr 1; omega⟩
 case rest =>
  obtain ⟨rfl,rfl⟩:=hcut
  go_wp2_with (at_make; refine kH j7 rfl _ _ rfl wc.heap.size _ _ _ _ n (n+1) rfl rfl rfl (by omega) (by omega) (by omega) (Below.refl _ _) (pE _) ?_)
  intro w1 ho1 hb1 _
  go_wp2
  go_loopw [23] (fun t wr=>∃ (i:Nat) (cur:List Nat),t=.int .i64 i∧i≤n∧wr.ownsRow wc.heap.size 180 1 (.slice (some ⟨wc.heap.size,0,none⟩) n (n+1)) n (kP cur)∧Below g0 wc wr∧wc.heap.size≤wr.heap.size ∧
    cur.take i=(qL F us vs i).1∧(∀ x,x∈(qL F us vs i).1→x<4294967296)∧(qL F us vs i).2≤1∧zL wr g0 180 [.int .u32 ((qL F us vs i).2:Nat)]) (fun t _=>n - (intOf t).toNat)
  case atStart=>exact ⟨0,_,rfl,pH _,ho1,hb1.mono (by omega),hb1.size,rfl,by simp [qL],by simp [qL],HB0.out.below hb1 hg0⟩
  case round =>
   obtain ⟨i,cur,rfl,hi,hown,hbel,hsz,htk,hlo,hc1,hbox⟩:=hrel; obtain ⟨A,hA⟩:∃ A,qL F us vs i=A:=⟨_,rfl⟩
   rw [hA] at htk hlo hc1 hbox; obtain ⟨al,c⟩:=A
   dsimp only at htk hlo hc1 hbox; have HA:=hid hA
   have HTK:=hid htk; have HLO:=hid hlo
   have HOWN:=hid hown; have HBEL:=hid hbel
   have HBOX:=hid hbox; clear hA htk hlo hown hbel hbox ho1 hb1
   by_cases hil:i<n
   ·obtain ⟨x,hx⟩:∃ x,us.getD i 0=x:=⟨_,rfl⟩
    obtain ⟨y,hy⟩:∃ y,vs.getD i 0=y:=⟨_,rfl⟩; have hx32:x<4294967296:=by rw [← hx]; exact getD_lt us HLT1.out i
    have hy32:y<4294967296:=by rw [← hy]; exact getD_lt vs HLT2.out i
    have Q:=hid (HFN.out x y c g0 wr hx32 hy32 hc1 HBOX.out); obtain ⟨s1,s2⟩:=HF1.out x y c hx32 hy32 hc1
    have hA2:=HA.out; have hgo:qL F us vs (i+1)=(al++[(F x y c).1],(F x y c).2):=by simp only [qL,hA2,hx,hy]
    have HGO:=hid hgo; have HX:=hid hx
    have HY:=hid hy; obtain ⟨r1,hr1⟩:∃ r1,(F x y c).1=r1:=⟨_,rfl⟩
    obtain ⟨r2,hr2⟩:∃ r2,(F x y c).2=r2:=⟨_,rfl⟩; rw [hr1,hr2] at Q HGO
    rw [hr1] at s1; rw [hr2] at s2
    clear hA2 hgo hx hy hr1 hr2; have fin:∀ W,W=wr.setCell ⟨g0,0,none⟩ (.int .u32 (r2:Nat))→W.ownsRow wc.heap.size 180 1 (.slice (some ⟨wc.heap.size,0,none⟩) n (n+1)) n (kP cur)∧Below g0 wc W∧zL W g0 180 [.int .u32 (r2:Nat)]∧W.heap.size=wr.heap.size:=by
     rintro W rfl
     refine ⟨wN0 HOWN.out _ _ (by simp [Value.ownBlock]; omega),HBEL.out.setCell (by exact pE _) _,HBOX.out.set 0 _,by simp [World.setCell]⟩
    have HFIN:=hid fin; clear fin
    have hci:∀ (b off:Nat) (u:Value),b<g0→wc.cell? ⟨b,off,none⟩=some u→wr.cell? ⟨b,off,none⟩=some u:=fun b off u hb hu=>(HBEL.out.cell (p:=⟨b,off,none⟩) hb).trans hu
    have HCI:=hid hci; clear hci
    by_cases hu:i<us.length
    ·obtain ⟨b,off,rfl,_,hbl,hc1'⟩:=HC.out i hu
     rw [HX.out] at hc1'; have d1:=HCI.out _ _ _ (by omega) hc1'
     clear hc1'
     by_cases hv:i<vs.length
     ·obtain ⟨b2,off2,rfl,_,hbl2,hc2'⟩:=HC2.out i hv
      rw [HY.out] at hc2'; have d2:=HCI.out _ _ _ (by omega) hc2'
      clear hc2'
      go_wp2_with fail
      refine Q.out.mono ?_
      rintro e w2 ⟨rfl,hw2⟩
      obtain ⟨o2,b2',x2,z2⟩:=HFIN.out w2 hw2; obtain ⟨g1,g2⟩:=j5 o2 i hil
      have hs:=j6 o2 i r1; have hln:=zO o2
      have O2:=hid o2; have B2:=hid b2'
      have X2:=hid x2; clear hw2 o2 b2' x2
      go_wp2
      go_roundw
      case measure=>simp [intOf]; omega
      case rel =>
       refine ⟨i+1,cur.set i r1,by go_num,by omega,hs.1,B2.out.setCell (by show g0≤wc.heap.size; omega) _,by simp [World.setCell]; omega,?_,?_,?_,?_⟩
       ·rw [HGO.out,kT _ _ _ (by omega),HTK.out]
       ·rw [HGO.out]
        intro z hz
        rcases cH.1 hz with h | h
        ·exact HLO.out z h
        ·simp only [List.mem_singleton] at h
         omega
       ·rw [HGO.out]; exact s2
       ·rw [HGO.out]
        exact X2.out.other _ _ (by show g0≠wc.heap.size; omega)
     ·obtain rfl:y=0:=by rw [← HY.out]; exact wC8 vs i (by omega)
      go_wp2_with fail
      refine Q.out.mono ?_
      rintro e w2 ⟨rfl,hw2⟩
      obtain ⟨o2,b2',x2,z2⟩:=HFIN.out w2 hw2; obtain ⟨g1,g2⟩:=j5 o2 i hil
      have hs:=j6 o2 i r1; have hln:=zO o2
      have O2:=hid o2; have B2:=hid b2'
      have X2:=hid x2; clear hw2 o2 b2' x2
      go_wp2
      go_roundw
      case measure=>simp [intOf]; omega
      case rel =>
       refine ⟨i+1,cur.set i r1,by go_num,by omega,hs.1,B2.out.setCell (by show g0≤wc.heap.size; omega) _,by simp [World.setCell]; omega,?_,?_,?_,?_⟩
       ·rw [HGO.out,kT _ _ _ (by omega),HTK.out]
       ·rw [HGO.out]
        intro z hz
        rcases cH.1 hz with h | h
        ·exact HLO.out z h
        ·simp only [List.mem_singleton] at h
         omega
       ·rw [HGO.out]; exact s2
       ·rw [HGO.out]
        exact X2.out.other _ _ (by show g0≠wc.heap.size; omega)
    ·obtain rfl:x=0:=by rw [← HX.out]; exact wC8 us i (by omega)
     by_cases hv:i<vs.length
     ·obtain ⟨b2,off2,rfl,_,hbl2,hc2'⟩:=HC2.out i hv
      rw [HY.out] at hc2'; have d2:=HCI.out _ _ _ (by omega) hc2'
      clear hc2'
      go_wp2_with fail
      refine Q.out.mono ?_
      rintro e w2 ⟨rfl,hw2⟩
      obtain ⟨o2,b2',x2,z2⟩:=HFIN.out w2 hw2; obtain ⟨g1,g2⟩:=j5 o2 i hil
      have hs:=j6 o2 i r1; have hln:=zO o2
      have O2:=hid o2; have B2:=hid b2'
      have X2:=hid x2; clear hw2 o2 b2' x2
      go_wp2
      go_roundw
      case measure=>simp [intOf]; omega
      case rel =>
       refine ⟨i+1,cur.set i r1,by go_num,by omega,hs.1,B2.out.setCell (by show g0≤wc.heap.size; omega) _,by simp [World.setCell]; omega,?_,?_,?_,?_⟩
       ·rw [HGO.out,kT _ _ _ (by omega),HTK.out]
       ·rw [HGO.out]
        intro z hz
        rcases cH.1 hz with h | h
        ·exact HLO.out z h
        ·simp only [List.mem_singleton] at h
         omega
       ·rw [HGO.out]; exact s2
       ·rw [HGO.out]
        exact X2.out.other _ _ (by show g0≠wc.heap.size; omega)
     ·exfalso
      omega
   ·obtain rfl:i=n:=by omega
    have hln:=zO HOWN.out; have e:cur=al:=by rw [← HTK.out,pN (by omega)]
    have HE:=hid e; clear hln e
    go_wp2
    go_ret
    refine ⟨i,_,rfl,rfl,?_⟩
    rw [HA.out]; refine ⟨by rw [← HE.out]; exact HOWN.out,HLO.out,hc1,HBOX.out,HBEL.out⟩
set_option maxRecDepth 100000 in
theorem each_less (F:Nat→Nat→Nat→Nat × Nat) (hF:qE8 294 F) (hF1:∀ x y c,x<4294967296→y<4294967296→c≤1→(F x y c).1<4294967296∧(F x y c).2≤1)
  (lo h1 lo2 h12 g0:Nat) (v v2:Value) (us vs:List Nat) (w:World) (h:wO lo h1 w v us) (h2:wO lo2 h12 w v2 vs) (hh:h1≤g0) (hh2:h12≤g0) (hb:zL w g0 180 [.int .u32 0])
  (hl:us.length≤17592186044416) (hl2:vs.length≤17592186044416) :
  Calls Tryz.prog 230 #[v,v2,.func (.func 294) #[] #[.pointer (some ⟨g0,0,none⟩)]] w fun e w'=>∃ n g,e=.returned (.slice (some ⟨g,0,none⟩) n (n+1))∧n=max us.length vs.length ∧
   w'.ownsRow w.heap.size 180 1 (.slice (some ⟨g,0,none⟩) n (n+1)) n (kP (qL F us vs n).1)∧(∀ x,x∈(qL F us vs n).1→x<4294967296)∧(qL F us vs n).2≤1∧zL w' g0 180 [.int .u32 ((qL F us vs n).2:Nat)]∧Below g0 w w':=by
 have hg0:=hb.lt; obtain ⟨ad,cap,rfl,_,_,hlt1,hcell⟩:=h.open
 obtain ⟨ad2,cap2,rfl,_,_,hlt2,hcell2⟩:=h2.open; obtain ⟨n,hn⟩:∃ n,max us.length vs.length=n:=⟨_,rfl⟩
 rw [hn]; have n1:us.length≤n:=by omega
 have n2:vs.length≤n:=by omega
 have n3:n≤17592186044416:=by omega
 have hni:max (us.length:Int) (vs.length:Int)=(n:Int):=by omega
 have HC:=hid hcell; have HC2:=hid hcell2
 have HLT1:=hid hlt1; have HLT2:=hid hlt2
 have HFN:=hid hF; have HF1:=hid hF1
 have HB0:=hid hb; have hn3:n≤us.length∨n≤vs.length:=by omega
 clear h h2 hcell hcell2 hlt1 hlt2 hF hF1 hb hn; clear hni
 go_enter Tryz.func230,Tryz.ntmps230
 go_upto_region 1 with (fail)
 go_cut [7] (fun t w'=>w'=w∧t=.int .i64 (n:Nat))
 case first =>
  go_wp2
  all_goals
   go_meet
   case rel=>exact ⟨rfl,by congr 1; omega⟩
 case rest =>
  obtain ⟨rfl,rfl⟩:=hcut
  go_wp2_with (at_make; refine kH j7 rfl _ _ rfl wc.heap.size _ _ _ _ n (n+1) rfl rfl rfl (by omega) (by omega) (by omega) (Below.refl _ _) (pE _) ?_)
  intro w1 ho1 hb1 _
  go_wp2
  go_loopw [23] (fun t wr=>∃ (i:Nat) (cur:List Nat),t=.int .i64 i∧i≤n∧wr.ownsRow wc.heap.size 180 1 (.slice (some ⟨wc.heap.size,0,none⟩) n (n+1)) n (kP cur)∧Below g0 wc wr∧wc.heap.size≤wr.heap.size ∧
    cur.take i=(qL F us vs i).1∧(∀ x,x∈(qL F us vs i).1→x<4294967296)∧(qL F us vs i).2≤1∧zL wr g0 180 [.int .u32 ((qL F us vs i).2:Nat)]) (fun t _=>n - (intOf t).toNat)
  case atStart=>exact ⟨0,_,rfl,pH _,ho1,hb1.mono (by omega),hb1.size,rfl,by simp [qL],by simp [qL],HB0.out.below hb1 hg0⟩
  case round =>
   obtain ⟨i,cur,rfl,hi,hown,hbel,hsz,htk,hlo,hc1,hbox⟩:=hrel; obtain ⟨A,hA⟩:∃ A,qL F us vs i=A:=⟨_,rfl⟩
   rw [hA] at htk hlo hc1 hbox; obtain ⟨al,c⟩:=A
   dsimp only at htk hlo hc1 hbox; have HA:=hid hA
   have HTK:=hid htk; have HLO:=hid hlo
   have HOWN:=hid hown; have HBEL:=hid hbel
   have HBOX:=hid hbox; clear hA htk hlo hown hbel hbox ho1 hb1
   by_cases hil:i<n
   ·obtain ⟨x,hx⟩:∃ x,us.getD i 0=x:=⟨_,rfl⟩
    obtain ⟨y,hy⟩:∃ y,vs.getD i 0=y:=⟨_,rfl⟩; have hx32:x<4294967296:=by rw [← hx]; exact getD_lt us HLT1.out i
    have hy32:y<4294967296:=by rw [← hy]; exact getD_lt vs HLT2.out i
    have Q:=hid (HFN.out x y c g0 wr hx32 hy32 hc1 HBOX.out); obtain ⟨s1,s2⟩:=HF1.out x y c hx32 hy32 hc1
    have hA2:=HA.out; have hgo:qL F us vs (i+1)=(al++[(F x y c).1],(F x y c).2):=by simp only [qL,hA2,hx,hy]
    have HGO:=hid hgo; have HX:=hid hx
    have HY:=hid hy; obtain ⟨r1,hr1⟩:∃ r1,(F x y c).1=r1:=⟨_,rfl⟩
    obtain ⟨r2,hr2⟩:∃ r2,(F x y c).2=r2:=⟨_,rfl⟩; rw [hr1,hr2] at Q HGO
    rw [hr1] at s1; rw [hr2] at s2
    clear hA2 hgo hx hy hr1 hr2; have fin:∀ W,W=wr.setCell ⟨g0,0,none⟩ (.int .u32 (r2:Nat))→W.ownsRow wc.heap.size 180 1 (.slice (some ⟨wc.heap.size,0,none⟩) n (n+1)) n (kP cur)∧Below g0 wc W∧zL W g0 180 [.int .u32 (r2:Nat)]∧W.heap.size=wr.heap.size:=by
     rintro W rfl
     refine ⟨wN0 HOWN.out _ _ (by simp [Value.ownBlock]; omega),HBEL.out.setCell (by exact pE _) _,HBOX.out.set 0 _,by simp [World.setCell]⟩
    have HFIN:=hid fin; clear fin
    have hci:∀ (b off:Nat) (u:Value),b<g0→wc.cell? ⟨b,off,none⟩=some u→wr.cell? ⟨b,off,none⟩=some u:=fun b off u hb hu=>(HBEL.out.cell (p:=⟨b,off,none⟩) hb).trans hu
    have HCI:=hid hci; clear hci
    by_cases hu:i<us.length
    ·obtain ⟨b,off,rfl,_,hbl,hc1'⟩:=HC.out i hu
     rw [HX.out] at hc1'; have d1:=HCI.out _ _ _ (by omega) hc1'
     clear hc1'
     by_cases hv:i<vs.length
     ·obtain ⟨b2,off2,rfl,_,hbl2,hc2'⟩:=HC2.out i hv
      rw [HY.out] at hc2'; have d2:=HCI.out _ _ _ (by omega) hc2'
      clear hc2'
      go_wp2_with fail
      refine Q.out.mono ?_
      rintro e w2 ⟨rfl,hw2⟩
      obtain ⟨o2,b2',x2,z2⟩:=HFIN.out w2 hw2; obtain ⟨g1,g2⟩:=j5 o2 i hil
      have hs:=j6 o2 i r1; have hln:=zO o2
      have O2:=hid o2; have B2:=hid b2'
      have X2:=hid x2; clear hw2 o2 b2' x2
      go_wp2
      go_roundw
      case measure=>simp [intOf]; omega
      case rel =>
       refine ⟨i+1,cur.set i r1,by go_num,by omega,hs.1,B2.out.setCell (by show g0≤wc.heap.size; omega) _,by simp [World.setCell]; omega,?_,?_,?_,?_⟩
       ·rw [HGO.out,kT _ _ _ (by omega),HTK.out]
       ·rw [HGO.out]
        intro z hz
        rcases cH.1 hz with h | h
        ·exact HLO.out z h
        ·simp only [List.mem_singleton] at h
         omega
       ·rw [HGO.out]; exact s2
       ·rw [HGO.out]
        exact X2.out.other _ _ (by show g0≠wc.heap.size; omega)
     ·obtain rfl:y=0:=by rw [← HY.out]; exact wC8 vs i (by omega)
      go_wp2_with fail
      refine Q.out.mono ?_
      rintro e w2 ⟨rfl,hw2⟩
      obtain ⟨o2,b2',x2,z2⟩:=HFIN.out w2 hw2; obtain ⟨g1,g2⟩:=j5 o2 i hil
      have hs:=j6 o2 i r1; have hln:=zO o2
      have O2:=hid o2; have B2:=hid b2'
      have X2:=hid x2; clear hw2 o2 b2' x2
      go_wp2
      go_roundw
      case measure=>simp [intOf]; omega
      case rel =>
       refine ⟨i+1,cur.set i r1,by go_num,by omega,hs.1,B2.out.setCell (by show g0≤wc.heap.size; omega) _,by simp [World.setCell]; omega,?_,?_,?_,?_⟩
       ·rw [HGO.out,kT _ _ _ (by omega),HTK.out]
       ·rw [HGO.out]
        intro z hz
        rcases cH.1 hz with h | h
        ·exact HLO.out z h
        ·simp only [List.mem_singleton] at h
         omega
       ·rw [HGO.out]; exact s2
       ·rw [HGO.out]
        exact X2.out.other _ _ (by show g0≠wc.heap.size; omega)
    ·obtain rfl:x=0:=by rw [← HX.out]; exact wC8 us i (by omega)
     by_cases hv:i<vs.length
     ·obtain ⟨b2,off2,rfl,_,hbl2,hc2'⟩:=HC2.out i hv
      rw [HY.out] at hc2'; have d2:=HCI.out _ _ _ (by omega) hc2'
      clear hc2'
      go_wp2_with fail
      refine Q.out.mono ?_
      rintro e w2 ⟨rfl,hw2⟩
      obtain ⟨o2,b2',x2,z2⟩:=HFIN.out w2 hw2; obtain ⟨g1,g2⟩:=j5 o2 i hil
      have hs:=j6 o2 i r1; have hln:=zO o2
      have O2:=hid o2; have B2:=hid b2'
      have X2:=hid x2; clear hw2 o2 b2' x2
      go_wp2
      go_roundw
      case measure=>simp [intOf]; omega
      case rel =>
       refine ⟨i+1,cur.set i r1,by go_num,by omega,hs.1,B2.out.setCell (by show g0≤wc.heap.size; omega) _,by simp [World.setCell]; omega,?_,?_,?_,?_⟩
       ·rw [HGO.out,kT _ _ _ (by omega),HTK.out]
       ·rw [HGO.out]
        intro z hz
        rcases cH.1 hz with h | h
        ·exact HLO.out z h
        ·simp only [List.mem_singleton] at h
         omega
       ·rw [HGO.out]; exact s2
       ·rw [HGO.out]
        exact X2.out.other _ _ (by show g0≠wc.heap.size; omega)
     ·exfalso
      omega
   ·obtain rfl:i=n:=by omega
    have hln:=zO HOWN.out; have e:cur=al:=by rw [← HTK.out,pN (by omega)]
    have HE:=hid e; clear hln e
    go_wp2
    go_ret
    refine ⟨i,_,rfl,rfl,?_⟩
    rw [HA.out]; refine ⟨by rw [← HE.out]; exact HOWN.out,HLO.out,hc1,HBOX.out,HBEL.out⟩
end Go.Proofs.YtkjhfnhgefbhhaaGreat
/- nat.Add, nat.less, nat.Sub: what they hand back. -/
namespace Go.Proofs.YtkjhfnhgefbhhaaGreat
open Go.RowKit
def addF (x y c:Nat):Nat × Nat:=((x+y+c) % 4294967296,(x+y+c) / 4294967296)
def wGB (x y c:Nat):Nat × Nat:=((x+8589934592 - y - c) % 4294967296,lent x y c)
theorem addF_fn:qE8 231 addF:=fun x y c g w hx hy hc hb=>add1_any x y c g w hx hy hc hb
theorem lessF_fn:qE8 294 wGB:=fun x y c g w hx hy hc hb=>less1_any x y c g w hx hy hc hb
theorem addF_le:∀ x y c,x<4294967296→y<4294967296→c≤1→(addF x y c).1<4294967296∧(addF x y c).2≤1:=by
 intro x y c hx hy hc
 simp only [addF]
 omega
theorem qGJ:∀ x y c,x<4294967296→y<4294967296→c≤1→(wGB x y c).1<4294967296∧(wGB x y c).2≤1:=by
 intro x y c hx hy hc
 simp only [wGB,lent]
 refine ⟨dJ _ (by decide),?_⟩
 split <;> omega
theorem add_val (us vs:List Nat) (i:Nat):wB (qL addF us vs i).1+4294967296 ^ i*(qL addF us vs i).2=wB (us.take i)+wB (vs.take i):=by
 induction i with
 | zero=>simp [qL,wB]
 | succ i ih =>
  have hl:=wVF addF us vs i; simp only [qL]
  rw [wC1,hl,qD us,qD vs]
  revert ih
  generalize qL addF us vs i=A; intro ih
  simp only [addF]
  rw [mY]; exact wLG _ _ _ A.2 _ _ _ _ _ _ ih rfl rfl rfl (by omega)
theorem less_val (us vs:List Nat) (hu:∀ x,x∈us→x<4294967296) (hv:∀ x,x∈vs→x<4294967296) (i:Nat) :
  wB (qL wGB us vs i).1+wB (vs.take i)=wB (us.take i)+4294967296 ^ i*(qL wGB us vs i).2∧(qL wGB us vs i).2≤1:=by
 induction i with
 | zero=>simp [qL,wB]
 | succ i ih =>
  have hl:=wVF wGB us vs i; have hx:=getD_lt us hu i
  have hy:=getD_lt vs hv i; simp only [qL]
  rw [wC1,hl,qD us,qD vs]
  revert ih
  generalize qL wGB us vs i=A; generalize us.getD i 0=x at *
  generalize vs.getD i 0=y at *; intro ih
  obtain ⟨ih,hc⟩:=ih; refine ⟨?_,(qGJ x y A.2 hx hy hc).2⟩
  simp only [wGB]
  rw [mY]; have e:(x+8589934592 - y - A.2) % 4294967296=(4294967296+x - y - A.2) % 4294967296:=by omega
  have e2:lent x y A.2=1 - (4294967296+x - y - A.2) / 4294967296:=by
   unfold lent
   split <;> omega
  rw [e,e2]; exact wZ3 _ _ A.2 (4294967296+x - y - A.2) _ _ x y _ ih (by omega) rfl (by omega)
theorem wNF (us:List Nat) (n:Nat) (h:us.length≤n):us.take n=us:=pN h
theorem add_any (lo h1 lo2 h12:Nat) (v v2:Value) (xs ys:List Nat) (w:World) (h:wO lo h1 w v xs) (h2:wO lo2 h12 w v2 ys) (hh:h1≤w.heap.size) (hh2:h12≤w.heap.size) (hl:xs.length≤17592186044416) (hl2:ys.length≤17592186044416) :
  Calls Tryz.prog 177 #[v,v2] w fun e w'=>∃ r,e=.returned r∧wO w.heap.size w'.heap.size w' r (toL (wB xs+wB ys))∧Below w.heap.size w w':=by
 have t1:=qT xs (by obtain ⟨_,_,_,_,_,hlt,_⟩:=h.open; exact hlt)
 have t2:=qT ys (by obtain ⟨_,_,_,_,_,hlt,_⟩:=h2.open; exact hlt)
 have l1:=kK xs; have l2:=kK ys
 obtain ⟨hb0,bx,hs0⟩:=boxA w #[.int .u32 0] 180; have q1:=v6 lo h1 v xs _ (h.below hb0 hh) (by omega)
 have q2:=v6 lo2 h12 v2 ys _ (h2.below hb0 hh2) (by omega)
 rw [t1] at q1 l1; rw [t2] at q2 l2
 obtain ⟨X,hX⟩:∃ X,wB xs=X:=⟨_,rfl⟩; obtain ⟨Y,hY⟩:∃ Y,wB ys=Y:=⟨_,rfl⟩
 rw [hX] at q1 l1 ⊢; rw [hY] at q2 l2 ⊢
 have HX:=hid (wM X); have HY:=hid (wM Y)
 clear hX hY h h2 t1 t2; generalize toL X=us at *
 generalize toL Y=vs at *; have Q1:=hid q1
 have Q2:=hid q2; have BX:=hid bx
 have HB0:=hid hb0; have HS0:=hid hs0
 clear q1 q2 bx hb0 hs0
 go_enter Tryz.func177,Tryz.ntmps177
 go_wp2_with fail
 refine Q1.out.mono ?_
 rintro e w' ⟨r1,rfl,hr1,rfl⟩
 go_wp2_with fail
 refine Q2.out.mono ?_
 rintro e w' ⟨r2,rfl,hr2,rfl⟩
 have Q3:=hid (each_add addF addF_fn addF_le lo h1 lo2 h12 w.heap.size r1 r2 us vs _ hr1 hr2 hh hh2 BX.out (by omega) (by omega))
 have hu32:∀ x,x∈us→x<4294967296:=by obtain ⟨_,_,_,_,_,hlt,_⟩:=hr1.open; exact hlt
 have hv32:∀ x,x∈vs→x<4294967296:=by obtain ⟨_,_,_,_,_,hlt,_⟩:=hr2.open; exact hlt
 have HU:=hid hu32; have HV:=hid hv32
 clear Q1 Q2 hr1 hr2 hu32 hv32
 go_wp2_with fail
 refine Q3.out.mono ?_
 rintro e w3 ⟨n,gr,rfl,hn,hown,hlt,hc1,hbox,hbel⟩
 have hval:=add_val us vs n; rw [wNF us n (by omega),wNF vs n (by omega),HX.out,HY.out] at hval
 have hln:=zO hown
 revert hown hlt hc1 hbox hval hln
 generalize qL addF us vs n=A; obtain ⟨al,c⟩:=A
 dsimp only; intro hown hlt hc1 hbox hval hln
 obtain ⟨d0,f0⟩:=hbox.one; have hnl:n≤17592186044416:=by omega
 have hbW:Below w.heap.size w w3:=HB0.out.trans hbel; have hs3:=hbW.size
 have hs4:w.heap.size+1≤w3.heap.size:=by
  have:=hbel.size; rw [HS0.out] at this
  exact this
 have HOWN:=hid hown; have HLT:=hid hlt
 have HVAL:=hid hval; have HLN:=hid hln
 have HBW:=hid hbW; clear Q3 hn hown hlt hbox hval hln hbel hbW
 go_wp2_with (at_builtin; go_loud (refine qEB j7 rfl _ _ rfl w.heap.size n 1 1 _ (kP al) #[.int .u32 (c:Nat)] (own_base HOWN.out HB0.out.size) rfl rfl rfl (by simp [Value.oneCell']) (by omega) (by decide) (by unfold maxLen; omega) HBW.out hs3 ?_))
 intro g c' w4 ho4 hb4 _
 have e4:kP al++(#[Value.int .u32 (c:Nat)]).toList=kP (al++[c]):=by simp [kP]
 rw [e4] at ho4; have hv4:wB (al++[c])=X+Y:=by rw [wC1,HLN.out]; exact HVAL.out
 have hlt4:∀ x,x∈al++[c]→x<4294967296:=by
  intro x hx
  rcases cH.1 hx with h | h
  ·exact HLT.out x h
  ·simp only [List.mem_singleton] at h; omega
 have hN:=wN2 _ _ _ (al++[c]) w4 (wO.ofOwn ho4 hlt4) (by rw [pW,HLN.out]; simp; omega)
 rw [qT _ hlt4,hv4] at hN; have HN:=hid hN
 have HB4:=hid hb4; clear hN ho4 hb4 e4 hv4 hlt4
 go_wp2_with fail
 refine HN.out.mono ?_
 rintro e w5 ⟨r5,rfl,hr5,hb5⟩
 go_wp2
 go_ret
 exact ⟨_,rfl,hr5.wide HB4.out.size (pE _),HB4.out.trans (hb5.mono HB4.out.size)⟩
theorem less_any (lo h1 lo2 h12:Nat) (v v2:Value) (xs ys:List Nat) (w:World) (h:wO lo h1 w v xs) (h2:wO lo2 h12 w v2 ys) (hh:h1≤w.heap.size) (hh2:h12≤w.heap.size) (hl:xs.length≤17592186044416) (hl2:ys.length≤17592186044416) (hle:wB ys≤wB xs) :
  Calls Tryz.prog 271 #[v,v2] w fun e w'=>∃ r,e=.returned r∧wO w.heap.size w'.heap.size w' r (toL (wB xs - wB ys))∧Below w.heap.size w w':=by
 have t1:=qT xs (by obtain ⟨_,_,_,_,_,hlt,_⟩:=h.open; exact hlt)
 have t2:=qT ys (by obtain ⟨_,_,_,_,_,hlt,_⟩:=h2.open; exact hlt)
 have l1:=kK xs; have l2:=kK ys
 obtain ⟨hb0,bx,hs0⟩:=boxA w #[.int .u32 0] 180; have q1:=v6 lo h1 v xs _ (h.below hb0 hh) (by omega)
 have q2:=v6 lo2 h12 v2 ys _ (h2.below hb0 hh2) (by omega)
 rw [t1] at q1 l1; rw [t2] at q2 l2
 obtain ⟨X,hX⟩:∃ X,wB xs=X:=⟨_,rfl⟩; obtain ⟨Y,hY⟩:∃ Y,wB ys=Y:=⟨_,rfl⟩
 rw [hX,hY] at hle; rw [hX] at q1 l1 ⊢
 rw [hY] at q2 l2 ⊢; have HX:=hid (wM X)
 have HY:=hid (wM Y); have HLE:=hid hle
 clear hX hY h h2 t1 t2 hle; generalize toL X=us at *
 generalize toL Y=vs at *; have Q1:=hid q1
 have Q2:=hid q2; have BX:=hid bx
 have HB0:=hid hb0; have HS0:=hid hs0
 clear q1 q2 bx hb0 hs0
 go_enter Tryz.func271,Tryz.ntmps271
 go_wp2_with fail
 refine Q1.out.mono ?_
 rintro e w' ⟨r1,rfl,hr1,rfl⟩
 go_wp2_with fail
 refine Q2.out.mono ?_
 rintro e w' ⟨r2,rfl,hr2,rfl⟩
 have Q3:=hid (each_less wGB lessF_fn qGJ lo h1 lo2 h12 w.heap.size r1 r2 us vs _ hr1 hr2 hh hh2 BX.out (by omega) (by omega))
 have hu32:∀ x,x∈us→x<4294967296:=by obtain ⟨_,_,_,_,_,hlt,_⟩:=hr1.open; exact hlt
 have hv32:∀ x,x∈vs→x<4294967296:=by obtain ⟨_,_,_,_,_,hlt,_⟩:=hr2.open; exact hlt
 have HU:=hid hu32; have HV:=hid hv32
 clear Q1 Q2 hr1 hr2 hu32 hv32
 go_wp2_with fail
 refine Q3.out.mono ?_
 rintro e w3 ⟨n,gr,rfl,hn,hown,hlt,hc1,hbox,hbel⟩
 have hval:=(less_val us vs HU.out HV.out n).1; rw [wNF us n (by omega),wNF vs n (by omega),HX.out,HY.out] at hval
 have hln:=zO hown
 revert hown hlt hc1 hbox hval hln
 generalize qL wGB us vs n=A; obtain ⟨al,c⟩:=A
 dsimp only; intro hown hlt hc1 hbox hval hln
 have hv:wB al=X - Y:=by
  have hA:=qR al hlt; rw [hln] at hA
  have:=HLE.out; have hc0:c=0:=by
   rcases mF c with h | h
   ·exact h
   ·exfalso
    have:4294967296 ^ n*1≤4294967296 ^ n*c:=mQ _ h; omega
  rw [hc0,dN] at hval; omega
 have hbW:Below w.heap.size w w3:=HB0.out.trans hbel; have hN:=wN2 _ _ _ al w3 (wO.ofOwn hown hlt) (by omega)
 rw [qT _ hlt,hv] at hN; have HN:=hid hN
 clear Q3 hn hown hlt hbox hval hln hbel hN hv
 go_wp2_with fail
 refine HN.out.mono ?_
 rintro e w5 ⟨r5,rfl,hr5,hb5⟩
 go_wp2
 go_ret
 exact ⟨_,rfl,hr5.wide hbW.size (pE _),hbW.trans (hb5.mono hbW.size)⟩
theorem natsub_any (lo h1 lo2 h12:Nat) (v v2:Value) (xs ys:List Nat) (w:World) (h:wO lo h1 w v xs) (h2:wO lo2 h12 w v2 ys) (hh:h1≤w.heap.size) (hh2:h12≤w.heap.size) (hl:xs.length≤17592186044416) (hl2:ys.length≤17592186044416) (hle:wB ys≤wB xs) :
  Calls Tryz.prog 233 #[v,v2] w fun e w'=>∃ r,e=.returned (.tuple #[r,.int .i64 0])∧wO w.heap.size w'.heap.size w' r (toL (wB xs - wB ys))∧Below w.heap.size w w':=by
 have Q1:=hid (cmp_any lo h1 lo2 h12 v v2 xs ys w h h2 (by omega) (by omega))
 have hc:0≤kA (wB xs) (wB ys):=by
  unfold kA; rw [if_neg (by omega)]
  split <;> decide
 obtain ⟨z,hz⟩:∃ z,kA (wB xs) (wB ys)=z:=⟨_,rfl⟩; rw [hz] at Q1 hc
 have H1:=hid h; have H2:=hid h2
 clear hz h h2
 go_enter Tryz.func233,Tryz.ntmps233
 go_wp2_with fail
 refine Q1.out.mono ?_
 rintro e w1 ⟨rfl,hb1⟩
 have Q2:=hid (less_any lo h1 lo2 h12 v v2 xs ys w1 (H1.out.below hb1 hh) (H2.out.below hb1 hh2) (pC hh hb1.size) (pC hh2 hb1.size) hl hl2 hle); have HB1:=hid hb1
 clear Q1 hb1
 go_wp2_with fail
 refine Q2.out.mono ?_
 rintro e w2 ⟨r,rfl,hr,hb2⟩
 go_wp2
 go_ret2
 exact ⟨_,rfl,hr.wide HB1.out.size (pE _),HB1.out.trans (hb2.mono HB1.out.size)⟩
end Go.Proofs.YtkjhfnhgefbhhaaGreat
/-
  DERIVED: THE SHELF's CONTRACTS AT THIS DUMP, IN PLAIN WORDS (tools/lay-plain.mjs out of 'TryzShelf.lean', which tools/lay-shelf.mjs wrote): THE SAME DECLARATIONS UNDER THE SAME NAMES: 'import', 'namespace', 'open', 'def', 'theorem' AND NOTHING ELSE: no command of the shelf's: FOR A HAND-IN. Each laying: the table of numbers ('.._ren') and one theorem, a field a fact of the dump's own or the kernel's comparison; each contract: ONE APPLICATION.
-/
namespace Go.Proofs
open Go.Shelf
def Tryz.lays128_ren:Go.Shelf.Ren:=⟨fun | 128=>224 | n=>n,fun | 51=>180 | 3=>3 | 4=>4 | 46=>256 | 5=>5 | 9=>9 | n=>n,fun | n=>n⟩
theorem Tryz.lays128:Go.Proofs.Lays.n128 Tryz.prog Tryz.lays128_ren:={
 mixed:=by kernel_rfl
 f128:=Tryz.func224.trans (congrArg some (by kernel_rfl))
 t3:=Tryz.underlying3
 a3:=Tryz.isAgg3
 z3:=Tryz.sizeOf3
 v3:=Tryz.zeroValue3
 t4:=Tryz.underlying4
 a4:=Tryz.isAgg4
 z4:=Tryz.sizeOf4
 v4:=Tryz.zeroValue4
 t5:=Tryz.underlying5
 a5:=Tryz.isAgg5
 z5:=Tryz.sizeOf5
 v5:=Tryz.zeroValue5
 t9:=Tryz.underlying9
 a9:=Tryz.isAgg9
 z9:=Tryz.sizeOf9
 v9:=Tryz.zeroValue9
 t46:=Tryz.underlying256
 a46:=Tryz.isAgg256
 z46:=Tryz.sizeOf256
 v46:=Tryz.zeroValue256
 t51:=Tryz.underlying180
 a51:=Tryz.isAgg180
 z51:=Tryz.sizeOf180
 v51:=Tryz.zeroValue180 }
theorem Tryz.bits_Len32 (x:Int) (w:World) (h0:0≤x) (h1:x≤4294967295) :
  Calls Tryz.prog 224 #[.int .u32 x] w fun e w'=>e=.returned (.int .i64 (Lib.bitLen x.toNat))∧w'=w:=Any.bits_Len32 Tryz.lays128 x w h0 h1
def Tryz.lays133_ren:Go.Shelf.Ren:=⟨fun | 133=>301 | 128=>224 | n=>n,fun | 51=>180 | 3=>3 | 4=>4 | 46=>256 | 5=>5 | 9=>9 | n=>n,fun | n=>n⟩
theorem Tryz.lays133:Go.Proofs.Lays.n133 Tryz.prog Tryz.lays133_ren:={
 mixed:=by kernel_rfl
 f128:=Tryz.func224.trans (congrArg some (by kernel_rfl))
 f133:=Tryz.func301.trans (congrArg some (by kernel_rfl))
 t3:=Tryz.underlying3
 a3:=Tryz.isAgg3
 z3:=Tryz.sizeOf3
 v3:=Tryz.zeroValue3
 t4:=Tryz.underlying4
 a4:=Tryz.isAgg4
 z4:=Tryz.sizeOf4
 v4:=Tryz.zeroValue4
 t5:=Tryz.underlying5
 a5:=Tryz.isAgg5
 z5:=Tryz.sizeOf5
 v5:=Tryz.zeroValue5
 t9:=Tryz.underlying9
 a9:=Tryz.isAgg9
 z9:=Tryz.sizeOf9
 v9:=Tryz.zeroValue9
 t46:=Tryz.underlying256
 a46:=Tryz.isAgg256
 z46:=Tryz.sizeOf256
 v46:=Tryz.zeroValue256
 t51:=Tryz.underlying180
 a51:=Tryz.isAgg180
 z51:=Tryz.sizeOf180
 v51:=Tryz.zeroValue180 }
theorem Tryz.bits_LeadingZeros32 (x:Int) (w:World) (h0:0≤x) (h1:x≤4294967295) :
  Calls Tryz.prog 301 #[.int .u32 x] w fun e w'=>e=.returned (.int .i64 (32 - (Lib.bitLen x.toNat:Int)))∧w'=w:=Any.bits_LeadingZeros32 Tryz.lays133 x w h0 h1
end Go.Proofs
/- How many bits: nat.Len, simileref01.Len; nat.Of; nat.short. -/
namespace Go.Proofs.YtkjhfnhgefbhhaaGreat
open Go.RowKit
def wHG (n:Nat):Nat:=if n=0 then 0 else 32*((toL n).length - 1)+Lib.bitLen ((toL n).getD ((toL n).length - 1) 0)
theorem qG2 {a b:Int} (h:a=b):Ending.returned (.int .i64 a)=Ending.returned (.int .i64 b):=by rw [h]
theorem wS1:Lib.bitLen 0=0:=by decide
theorem bitLen_le32 (x:Nat) (h:x<4294967296):Lib.bitLen x≤32:=by
 have key:∀ k x:Nat,x<2 ^ k→k≤64→Lib.bitLen x≤k:=by
  intro k
  induction k with
  | zero => intro x hx _; obtain rfl:x=0:=by simpa using hx
            decide
  | succ k ih =>
   intro x hx hk
   by_cases h0:x=0
   ·subst h0; rw [wS1]; omega
   ·have hx64:x<2 ^ 64:=mR hx (dD (by decide) hk)
    rw [Lib.bitLen_half x h0 hx64]; have:=ih (x / 2) (by rw [mY] at hx; omega) (by omega)
    omega
 exact key 32 x (by simpa using h) (by decide)
theorem len_any (lo h1:Nat) (v:Value) (xs:List Nat) (w:World) (h:wO lo h1 w v xs) (hl:xs.length≤35184372088832) :
  Calls Tryz.prog 170 #[v] w fun e w'=>e=.returned (.int .i64 (wHG (wB xs):Nat))∧w=w':=by
 have t1:=qT xs (by obtain ⟨_,_,_,_,_,hlt,_⟩:=h.open; exact hlt)
 have l1:=kK xs; have q1:=v6 lo h1 v xs w h (by omega)
 rw [t1] at q1 l1; obtain ⟨X,hX⟩:∃ X,wB xs=X:=⟨_,rfl⟩
 rw [hX] at q1 l1 ⊢; have hn:=wIG X
 have hLen:wHG X=if X=0 then 0 else 32*((toL X).length - 1)+Lib.bitLen ((toL X).getD ((toL X).length - 1) 0):=rfl
 generalize wHG X=K at *; clear hX h t1
 generalize toL X=us at *; have Q1:=hid q1
 have HN:=hid hn; have HL:=hid hLen
 clear q1 hn hLen
 go_enter Tryz.func170,Tryz.ntmps170
 go_wp2_with fail
 refine Q1.out.mono ?_
 rintro e w' ⟨r1,rfl,hr1,rfl⟩
 obtain ⟨ad,cap,rfl,_,_,hlt1,hcell⟩:=hr1.open; have HC:=hid hcell
 have HLT:=hid hlt1; clear Q1 hr1 hcell hlt1
 by_cases hz:us.length=0
 ·have e1:((us.length:Int) == 0)=true:=by rw [beq_iff_eq]; omega
  have hX:=HN.out.1 (mK hz); have hk:=HL.out
  rw [if_pos hX] at hk; have HK:=hid hk
  clear hk hX hz
  go_wp2
  go_ret
  rw [HK.out]; exact ⟨rfl,rfl⟩
 ·have e1:((us.length:Int) == 0)=false:=by rw [beq_eq_false_iff_ne]; omega
  obtain ⟨b,off,rfl,_,_,hc1⟩:=HC.out (us.length - 1) (by omega)
  obtain ⟨x,hx⟩:∃ x,us.getD (us.length - 1) 0=x:=⟨_,rfl⟩; have hx32:x<4294967296:=by rw [← hx]; exact getD_lt us HLT.out _
  rw [hx] at hc1; have hk:=HL.out
  rw [if_neg (fun h=>hz (by rw [HN.out.2 h]; rfl)),hx] at hk
  have Q2:=hid (Tryz.bits_Len32 x w (by omega) (by omega))
  have hb32:=bitLen_le32 x hx32; rw [fB] at Q2
  have hp:0<us.length:=by omega
  have HK:=hid hk; generalize Lib.bitLen x=z at *
  clear hk hx hz
  go_wp2_with fail
  refine Q2.out.mono ?_
  rintro e w' ⟨rfl,rfl⟩
  go_wp2
  go_ret
  rw [HK.out]; exact ⟨qG2 (by omega),rfl⟩
theorem len01_any (lo h1:Nat) (v:Value) (xs:List Nat) (w:World) (h:wO lo h1 w v xs) (hl:xs.length≤35184372088832) :
  Calls Tryz.prog 143 #[v] w fun e w'=>e=.returned (.int .i64 (wHG (wB xs):Nat))∧Below w.heap.size w w':=by
 have l1:=vJ xs (by obtain ⟨_,_,_,_,_,hlt,_⟩:=h.open; exact hlt)
 have q1:=zY lo h1 v xs w h hl; obtain ⟨X,hX⟩:∃ X,wB xs=X:=⟨_,rfl⟩
 rw [hX] at q1 l1 ⊢; have hn:=wIG X
 have hLen:wHG X=if X=0 then 0 else 32*((toL X).length - 1)+Lib.bitLen ((toL X).getD ((toL X).length - 1) 0):=rfl
 generalize wHG X=K at *; clear hX h
 generalize toL X=us at *; have Q1:=hid q1
 have HN:=hid hn; have HL:=hid hLen
 clear q1 hn hLen
 go_enter Tryz.func143,Tryz.ntmps143
 go_wp2_with fail
 refine Q1.out.mono ?_
 rintro e w1 ⟨r1,rfl,hr1,hb1⟩
 obtain ⟨ad,cap,rfl,_,_,hlt1,hcell⟩:=hr1.open; have HC:=hid hcell
 have HLT:=hid hlt1; have HB:=hid hb1
 clear Q1 hr1 hcell hlt1 hb1
 by_cases hz:us.length=0
 ·have e1:((us.length:Int) == 0)=true:=by rw [beq_iff_eq]; omega
  have hX:=HN.out.1 (mK hz); have hk:=HL.out
  rw [if_pos hX] at hk; have HK:=hid hk
  clear hk hX hz
  go_wp2
  go_ret
  rw [HK.out]; exact ⟨rfl,HB.out⟩
 ·have e1:((us.length:Int) == 0)=false:=by rw [beq_eq_false_iff_ne]; omega
  obtain ⟨b,off,rfl,_,_,hc1⟩:=HC.out (us.length - 1) (by omega)
  obtain ⟨x,hx⟩:∃ x,us.getD (us.length - 1) 0=x:=⟨_,rfl⟩; have hx32:x<4294967296:=by rw [← hx]; exact getD_lt us HLT.out _
  rw [hx] at hc1; have hk:=HL.out
  rw [if_neg (fun h=>hz (by rw [HN.out.2 h]; rfl)),hx] at hk
  have hb32:=bitLen_le32 x hx32; have hp:0<us.length:=by omega
  have HK:=hid hk; clear hk hx hz
  go_wp2
  go_loop [3,4] (fun n t=>∃ (i y:Nat),n=.int .i64 ((32*((us.length:Int) - 1))+(i:Nat))∧t=.int .u32 (y:Nat)∧y<4294967296∧i+Lib.bitLen y=Lib.bitLen x) (fun _ t=>(intOf t).toNat)
  case atStart=>exact ⟨0,x,by simp,rfl,hx32,by simp⟩
  case round =>
   obtain ⟨i,y,rfl,rfl,hy,hiy⟩:=hrel
   by_cases h0:y=0
   ·subst h0
    rw [wS1] at hiy; have HI:=hid hiy
    have hi32:i≤32:=by omega
    clear hiy
    go_wp2
    go_ret
    rw [HK.out,← HI.out]; exact ⟨qG2 (by omega),HB.out⟩
   ·have hyb:=Lib.bitLen_half y h0 (Nat.lt_trans hy (by decide))
    rw [hyb] at hiy; have e2:decide ((y:Int) > 0)=true:=by simp; omega
    have hi32:i+1≤32:=by omega
    have HI:=hid hiy; clear hiy hyb
    go_wp2
    refine ⟨⟨i+1,y / 2,by congr 1; omega,by go_num,by omega,by have:=HI.out; omega⟩,by simp [intOf]; omega⟩
theorem natof_any (n:Nat) (w:World) (hn:n<18446744073709551616) :
  Calls Tryz.prog 179 #[.int .u64 (n:Nat)] w fun e w'=>∃ r,e=.returned r∧wO w.heap.size w'.heap.size w' r (toL n)∧Below w.heap.size w w':=by
 have hv:wB [n % 4294967296,n / 4294967296]=n:=by simp only [wB]; omega
 obtain ⟨a,ha⟩:∃ a,a=n % 4294967296:=⟨_,rfl⟩; obtain ⟨b,hb⟩:∃ b,b=n / 4294967296:=⟨_,rfl⟩
 have ha2:(n:Int) % 4294967296=(a:Nat):=by omega
 have hb2:(n:Int) / 4294967296=(b:Nat):=by omega
 rw [← ha,← hb] at hv; have hal:a<4294967296:=by omega
 have hbl:b<4294967296:=by omega
 have hown:(w.alloc (.cells #[.int .u32 (a:Nat),.int .u32 (b:Nat)] 180)).ownsRow w.heap.size 180 1 (.slice (some ⟨w.heap.size,0,none⟩) 2 2) 2 (kP [a,b]) :=
  World.ownsRow_lit w _ 2 (pE _) (by decide) rfl
 have hb1:Below w.heap.size w (w.alloc (.cells #[.int .u32 (a:Nat),.int .u32 (b:Nat)] 180)):=(Below.refl _ _).alloc (pE _) _; have hl2:∀ x,x∈[a,b]→x<4294967296:=by intro x hx; simp at hx; rcases hx with rfl | rfl <;> assumption
 have hL:=wO.ofOwn hown hl2; have hN:=wN2 _ _ _ _ _ hL (by simp)
 rw [qT _ hl2,hv] at hN; clear hown hL hv ha hb hn
 go_enter Tryz.func179,Tryz.ntmps179
 go_wp2_with (go_at_call 229; refine hN.mono ?_; rintro e w' ⟨r,rfl,hr,hb2⟩)
 go_ret
 exact ⟨_,rfl,hr.wide hb1.size (pE _),hb1.trans (hb2.mono hb1.size)⟩
end Go.Proofs.YtkjhfnhgefbhhaaGreat
/- simileref01's half, Left, Gcd. -/
namespace Go.Proofs.YtkjhfnhgefbhhaaGreat
open Go.RowKit
theorem half01_any (lo h1:Nat) (v:Value) (xs:List Nat) (w:World) (h:wO lo h1 w v xs) (hh:h1≤w.heap.size) (hl:xs.length≤17592186044416) :
  Calls Tryz.prog 276 #[v] w fun e w'=>∃ r,e=.returned r∧wO w.heap.size w'.heap.size w' r (toL (wB xs / 2))∧Below w.heap.size w w':=by
 obtain ⟨ad,cap,rfl,_,_,hlt,_⟩:=h.open; have HLT:=hid hlt
 clear hlt
 go_enter Tryz.func276,Tryz.ntmps276
 go_wp2_with (at_make; refine kH j7 rfl _ _ rfl w.heap.size _ _ _ _ xs.length xs.length rfl rfl rfl rfl (pE _) (by omega) (Below.refl _ _) (pE _) ?_)
 intro w1 ho1 hb1 _
 go_wp2
 go_loopw [10] (fun t wr=>∃ (i:Nat) (cur:List Nat),t=.int .i64 i∧i≤xs.length∧wr.ownsRow w.heap.size 180 1 (.slice (some ⟨w.heap.size,0,none⟩) xs.length xs.length) xs.length (kP cur)∧Below w.heap.size w wr ∧
   (∀ x,x∈cur→x<4294967296)∧wB (cur.take i)=wB xs / 2 ^ 1 % 4294967296 ^ i) (fun t _=>xs.length - (intOf t).toNat)
 case atStart=>exact ⟨0,_,rfl,pH _,ho1,hb1,wDB _,by simp [wB,Nat.mod_one]⟩
 case round =>
  obtain ⟨i,cur,rfl,hi,hown,hbel,hcl,hval⟩:=hrel; have HV:=hid hval
  have HCL:=hid hcl; clear hval hcl ho1 hb1
  by_cases hil:i<xs.length
  ·obtain ⟨x,hx⟩:∃ x,xs.getD i 0=x:=⟨_,rfl⟩
   obtain ⟨y,hy⟩:∃ y,xs.getD (i+1) 0=y:=⟨_,rfl⟩; have hx32:x<4294967296:=by rw [← hx]; exact getD_lt xs HLT.out i
   have hy32:y<4294967296:=by rw [← hy]; exact getD_lt xs HLT.out (i+1)
   have Q1:=hid (yF lo h1 _ xs i x wr (h.below hbel hh) (by omega) hx)
   have Q2:=hid (yF lo h1 _ xs (i+1) y wr (h.below hbel hh) (by omega) hy)
   have hi1:(i:Int)+1=((i+1:Nat):Int):=by omega
   have HX:=hid hx; have HY:=hid hy
   have HI:=hid hi1; obtain ⟨c1,c2⟩:=j5 hown i hil
   clear hx hy hi1
   go_wp2_with fail
   refine Q1.out.mono ?_
   rintro e w' ⟨rfl,rfl⟩
   go_wp2_with fail
   rw [HI.out]; refine Q2.out.mono ?_
   rintro e w' ⟨rfl,rfl⟩
   go_wp2
   have hs:=j6 hown i ((x+4294967296*y) / 2 % 4294967296); have hln:=zO hown
   have e1:(x:Int) / 2+(y:Int) % 2*2147483648=(((x+4294967296*y) / 2 % 4294967296:Nat):Int):=by omega
   refine ⟨⟨i+1,cur.set i ((x+4294967296*y) / 2 % 4294967296),by go_num,by omega,by rw [e1]; exact hs.1,hbel.setCell (by exact pE _) _,vA _ _ _ HCL.out (dJ _ (by decide)),?_⟩,by simp [intOf]; omega⟩
   rw [wIJ _ _ _ _ hln hil,HV.out,mY]; exact (right_step _ _ _ (by rw [wRI xs i 1 (by decide) HLT.out,HX.out,HY.out])).symm
  ·obtain rfl:i=xs.length:=by omega
   have hln:=zO hown; have hv:wB cur=wB xs / 2:=by
    have:=HV.out
    rwa [zN cur _ (by omega),wZB xs 1 HLT.out] at this
   have hN:=zY _ _ _ cur wr (wO.ofOwn hown HCL.out) (by omega)
   rw [hv] at hN; clear hv hln
   go_wp2_with (go_at_call 206; refine hN.mono ?_; rintro e w' ⟨r,rfl,hr,hb2⟩)
   go_ret
   exact ⟨_,rfl,hr.wide hbel.size (pE _),hbel.trans (hb2.mono hbel.size)⟩
end Go.Proofs.YtkjhfnhgefbhhaaGreat
/- Natural numbers: what the program's functions and the document's make of them, told of trees. -/
namespace Go.Proofs.YtkjhfnhgefbhhaaGreat
open Go.RowKit Go.Ev Go.Vl
theorem vc1 {P:Program} {g:FuncId} {xs ys:List Nat} (hx:okL xs) (h:∀ v w,wO 0 w.heap.size w v xs→Calls P g #[v] w fun e w'=>∃ r,e=.returned r∧wO w.heap.size w'.heap.size w' r ys∧Below w.heap.size w w'):wD P g [vL xs] (fun y=>y=vL ys):=by
 intro S w us hus
 cases hus with
 | cons h1 t =>
  cases t
  refine (h _ w (qK h1 hx)).mono ?_
  rintro e w' ⟨r,rfl,hr,hb⟩
  exact ⟨r,_,rfl,rfl,jE hr (pE _) fun b hb _=>.inr hb,hb⟩
theorem vc2 {P:Program} {g:FuncId} {xs ys zs:List Nat} (hx:okL xs) (hy:okL ys) (h:∀ v v2 w,wO 0 w.heap.size w v xs→wO 0 w.heap.size w v2 ys→Calls P g #[v,v2] w fun e w'=>∃ r,e=.returned r∧wO w.heap.size w'.heap.size w' r zs∧Below w.heap.size w w'):wD P g [vL xs,vL ys] (fun y=>y=vL zs):=by
 intro S w us hus
 cases hus with
 | cons h1 t =>
  cases t with
  | cons h2 t =>
   cases t
   refine (h _ _ w (qK h1 hx) (qK h2 hy)).mono ?_
   rintro e w' ⟨r,rfl,hr,hb⟩
   exact ⟨r,_,rfl,rfl,jE hr (pE _) fun b hb _=>.inr hb,hb⟩
theorem wR9 (xs:List Nat) (hx:okL xs) (hl:xs.length≤35184372088832):wD Tryz.prog 229 [vL xs] (fun y=>y=vN (wB xs)) :=
 vc1 hx fun v w h=>by rw [← qT xs hx]; exact wN2 _ _ v xs w h hl
theorem wZH (xs:List Nat) (hx:okL xs) (hl:xs.length≤35184372088832):wD Tryz.prog 228 [vL xs] (fun y=>y=vN (wB xs)) :=
 vc1 hx fun v w h=>by rw [← qT xs hx]; exact norm_any _ _ v xs w h hl
theorem natAdd_v (xs ys:List Nat) (hx:okL xs) (hy:okL ys) (hl:xs.length≤17592186044416) (hl2:ys.length≤17592186044416):wD Tryz.prog 177 [vL xs,vL ys] (fun y=>y=vN (wB xs+wB ys)) :=
 vc2 hx hy fun v v2 w h h2=>add_any _ _ _ _ v v2 xs ys w h h2 (pE _) (pE _) hl hl2
theorem natMul_v (xs ys:List Nat) (hx:okL xs) (hy:okL ys) (hl:xs.length≤8796093022208) (hl2:ys.length≤8796093022208):wD Tryz.prog 176 [vL xs,vL ys] (fun y=>y=vN (wB xs*wB ys)) :=
 vc2 hx hy fun v v2 w h h2=>mul_any _ _ _ _ v v2 xs ys w h h2 hl hl2
theorem qGE (xs ys:List Nat) (hx:okL xs) (hy:okL ys) (hl:xs.length≤17592186044416) (hl2:ys.length≤17592186044416) (hle:wB ys≤wB xs):wD Tryz.prog 233 [vL xs,vL ys] (fun y=>y=.tup [vN (wB xs - wB ys),.int .i64 0]):=by
 intro S w us hus
 cases hus with
 | cons h1 t =>
  cases t with
  | cons h2 t =>
   cases t
   refine (natsub_any _ _ _ _ _ _ xs ys w (qK h1 hx) (qK h2 hy) (pE _) (pE _) hl hl2 hle).mono ?_
   rintro e w' ⟨r,rfl,hr,hb⟩
   exact ⟨_,_,rfl,rfl,.tup (us:=[r,.int .i64 0]) (.cons (jE hr (pE _) fun b hb _=>.inr hb) (.cons (.int _ _) .nil)),hb⟩
theorem wNA (xs ys:List Nat) (hx:okL xs) (hy:okL ys) (hl:xs.length≤35184372088832) (hl2:ys.length≤35184372088832):wD Tryz.prog 132 [vL xs,vL ys] (fun y=>y=.int .i64 (kA (wB xs) (wB ys))):=by
 intro S w us hus
 cases hus with
 | cons h1 t =>
  cases t with
  | cons h2 t =>
   cases t
   refine (cmp_any _ _ _ _ _ _ xs ys w (qK h1 hx) (qK h2 hy) hl hl2).mono ?_
   rintro e w' ⟨rfl,hb⟩
   exact ⟨_,_,rfl,rfl,.int _ _,hb⟩
theorem wV5 (xs:List Nat) (hx:okL xs) (hl:xs.length≤35184372088832):wD Tryz.prog 170 [vL xs] (fun y=>y=.int .i64 (wHG (wB xs):Nat)):=by
 intro S w us hus
 cases hus with
 | cons h1 t =>
  cases t
  refine (len_any _ _ _ xs w (qK h1 hx) hl).mono ?_
  rintro e w' ⟨rfl,rfl⟩
  exact ⟨_,_,rfl,rfl,.int _ _,Below.refl _ _⟩
theorem natOf_v (n:Nat) (hn:n<18446744073709551616):wD Tryz.prog 179 [.int .u64 (n:Nat)] (fun y=>y=vN n):=by
 intro S w us hus
 cases hus with
 | cons h1 t =>
  cases t
  cases h1
  refine (natof_any n w hn).mono ?_
  rintro e w' ⟨r,rfl,hr,hb⟩
  exact ⟨_,_,rfl,rfl,jE hr (pE _) fun b hb _=>.inr hb,hb⟩
theorem wH7 (xs:List Nat) (hx:okL xs) (hl:xs.length≤35184372088832):wD Tryz.prog 206 [vL xs] (fun y=>y=vN (wB xs)) :=
 vc1 hx fun v w h=>zY _ _ v xs w h hl
theorem add01_v (xs ys:List Nat) (hx:okL xs) (hy:okL ys) (hl:xs.length≤17592186044416) (hl2:ys.length≤17592186044416):wD Tryz.prog 195 [vL xs,vL ys] (fun y=>y=vN (wB xs+wB ys)) :=
 vc2 hx hy fun v v2 w h h2=>qB7 _ _ _ _ v v2 xs ys w h h2 (pE _) (pE _) hl hl2
theorem wS6 (xs ys:List Nat) (hx:okL xs) (hy:okL ys) (hl:xs.length≤17592186044416) (hle:wB ys≤wB xs):wD Tryz.prog 197 [vL xs,vL ys] (fun y=>y=vN (wB xs - wB ys)) :=
 vc2 hx hy fun v v2 w h h2=>wZ4 _ _ _ _ v v2 xs ys w h h2 (pE _) (pE _) hl hle
theorem mul01_v (xs ys:List Nat) (hx:okL xs) (hy:okL ys) (hl:xs.length≤4398046511104) (hl2:ys.length≤4398046511104):wD Tryz.prog 198 [vL xs,vL ys] (fun y=>y=vN (wB xs*wB ys)) :=
 vc2 hx hy fun v v2 w h h2=>mul01_any _ _ _ _ v v2 xs ys w h h2 (pE _) hl hl2
theorem small01_v (xs:List Nat) (d:Nat) (hx:okL xs) (hl:xs.length≤17592186044416) (hd:d<4294967296):wD Tryz.prog 247 [vL xs,.int .u32 (d:Nat)] (fun y=>y=vN (wB xs*d)):=by
 intro S w us hus
 cases hus with
 | cons h1 t =>
  cases t with
  | cons h2 t =>
   cases t
   cases h2
   refine (wCI _ _ _ xs d w (qK h1 hx) (pE _) hl hd).mono ?_
   rintro e w' ⟨r,rfl,hr,hb⟩
   exact ⟨_,_,rfl,rfl,jE hr (pE _) fun b hb _=>.inr hb,hb⟩
theorem div01_v (xs ys:List Nat) (hx:okL xs) (hy:okL ys) (hl:xs.length≤4398046511104) (hl2:ys.length≤4398046511104) (hp:0<wB ys):wD Tryz.prog 278 [vL xs,vL ys] (fun y=>y=.tup [vN (wB xs / wB ys),vN (wB xs % wB ys)]):=by
 intro S w us hus
 cases hus with
 | cons h1 t =>
  cases t with
  | cons h2 t =>
   cases t
   refine (div01_any _ _ _ _ _ _ xs ys w (qK h1 hx) (qK h2 hy) (pE _) hl hl2 hp).mono ?_
   rintro e w' ⟨r1,r2,rfl,hr1,hr2,hb⟩
   exact ⟨_,_,rfl,rfl,.tup (us:=[r1,r2]) (.cons (jE hr1 (pE _) fun b hb _=>.inr hb) (.cons (jE hr2 (pE _) fun b hb _=>.inr hb) .nil)),hb⟩
theorem cmp01_v (xs ys:List Nat) (hx:okL xs) (hy:okL ys) (hl:xs.length≤17592186044416) (hl2:ys.length≤17592186044416):wD Tryz.prog 196 [vL xs,vL ys] (fun y=>y=.int .i64 (kA (wB xs) (wB ys))):=by
 intro S w us hus
 cases hus with
 | cons h1 t =>
  cases t with
  | cons h2 t =>
   cases t
   refine (wQF _ _ _ _ _ _ xs ys w (qK h1 hx) (qK h2 hy) hl hl2).mono ?_
   rintro e w' ⟨rfl,rfl⟩
   exact ⟨_,_,rfl,rfl,.int _ _,Below.refl _ _⟩
theorem same01_v (xs ys:List Nat) (hx:okL xs) (hy:okL ys) (hl:xs.length≤35184372088832):wD Tryz.prog 96 [vL xs,vL ys] (fun y=>y=.bool (decide (xs=ys))):=by
 intro S w us hus
 cases hus with
 | cons h1 t =>
  cases t with
  | cons h2 t =>
   cases t
   refine (same01_any _ _ _ _ _ _ xs ys w (qK h1 hx) (qK h2 hy) hl).mono ?_
   rintro e w' ⟨rfl,hb⟩
   exact ⟨_,_,rfl,rfl,.bool _,hb⟩
theorem zero01_v (xs:List Nat) (hx:okL xs) (hl:xs.length≤35184372088832):wD Tryz.prog 141 [vL xs] (fun y=>y=.bool (decide (wB xs=0))):=by
 intro S w us hus
 cases hus with
 | cons h1 t =>
  cases t
  refine (zero01_any _ _ _ xs w (qK h1 hx) hl).mono ?_
  rintro e w' ⟨rfl,rfl⟩
  exact ⟨_,_,rfl,rfl,.bool _,Below.refl _ _⟩
theorem len01_v (xs:List Nat) (hx:okL xs) (hl:xs.length≤35184372088832):wD Tryz.prog 143 [vL xs] (fun y=>y=.int .i64 (wHG (wB xs):Nat)):=by
 intro S w us hus
 cases hus with
 | cons h1 t =>
  cases t
  refine (len01_any _ _ _ xs w (qK h1 hx) hl).mono ?_
  rintro e w' ⟨rfl,hb⟩
  exact ⟨_,_,rfl,rfl,.int _ _,hb⟩
theorem of01_v (n:Nat) (hn:n<18446744073709551616):wD Tryz.prog 151 [.int .u64 (n:Nat)] (fun y=>y=vN n):=by
 intro S w us hus
 cases hus with
 | cons h1 t =>
  cases t
  cases h1
  refine (of01_any n w hn).mono ?_
  rintro e w' ⟨r,rfl,hr,hb⟩
  exact ⟨_,_,rfl,rfl,jE hr (pE _) fun b hb _=>.inr hb,hb⟩
theorem half01_v (xs:List Nat) (hx:okL xs) (hl:xs.length≤17592186044416):wD Tryz.prog 276 [vL xs] (fun y=>y=vN (wB xs / 2)) :=
 vc1 hx fun v w h=>half01_any _ _ v xs w h (pE _) hl
end Go.Proofs.YtkjhfnhgefbhhaaGreat
