/- nat.Add, nat.less, nat.Sub: what they hand back. -/
import Derived.Test.YtdcjmnfngabhoaaGreatCc11
import Derived.Shelf.Strings.Builder1
import Derived.Shelf.Small.Bits
import Derived.Shelf.Strings.BuilderF
import Derived.Shelf.Strings.BuilderK
import Derived.Shelf.Strconv.Itoa0
import Derived.Shelf.Slices.Turned
import Derived.Test.YtdcjmnfngabhoaaGreatProg
import Derived.Lib.BitFns
set_option linter.all false
set_option maxRecDepth 20000
set_option maxHeartbeats 6400000
namespace Go.Proofs.YtdcjmnfngabhoaaGreat
open Go.RowKit
def addF(x y c:Nat):Nat×Nat:=((x+y+c)%4294967296,(x+y+c)/4294967296)
def wG3(x y c:Nat):Nat×Nat:=((x+8589934592-y-c)%4294967296,lent x y c)
theorem addF_fn:qBI 146 addF:=fun x y c g w hx hy hc hb=>add1_any x y c g w hx hy hc hb
theorem lessF_fn:qBI 191 wG3:=fun x y c g w hx hy hc hb=>less1_any x y c g w hx hy hc hb
theorem addF_le:∀x y c,x<4294967296→y<4294967296→c≤1→(addF x y c).1<4294967296∧(addF x y c).2≤1:=by intro x y c hx hy hc;simp only[addF];omega
theorem qEE:∀x y c,x<4294967296→y<4294967296→c≤1→(wG3 x y c).1<4294967296∧(wG3 x y c).2≤1:=by intro x y c hx hy hc;simp only[wG3,lent];refine⟨dI _ (by decide),?_⟩;split<;>omega
theorem add_val(us vs:List Nat)(i:Nat):wC (qI addF us vs i).1+4294967296^i*(qI addF us vs i).2=wC (us.take i)+wC (vs.take i):=by
 induction i with
 |zero=>simp[qI,wC]
 |succ i ih=>have hl:=wTC addF us vs i;simp only[qI];rw[wB3,hl,qB us,qB vs];revert ih;generalize qI addF us vs i=A;intro ih;simp only[addF];rw[mS];exact wL7 _ _ _ A.2 _ _ _ _ _ _ ih rfl rfl rfl (by omega)
theorem less_val(us vs:List Nat)(hu:∀x,x∈us→x<4294967296)(hv:∀x,x∈vs→x<4294967296)(i:Nat) :
  wC (qI wG3 us vs i).1+wC (vs.take i)=wC (us.take i)+4294967296^i*(qI wG3 us vs i).2∧(qI wG3 us vs i).2≤1:=by
 induction i with
 |zero=>simp[qI,wC]
 | succ i ih=>
  have hl:=wTC wG3 us vs i;have hx:=getD_lt us hu i;have hy:=getD_lt vs hv i;simp only[qI];rw[wB3,hl,qB us,qB vs];revert ih;generalize qI wG3 us vs i=A;generalize us.getD i 0=x at *
  generalize vs.getD i 0=y at *
  intro ih;obtain⟨ih,hc⟩:=ih;refine⟨?_,(qEE x y A.2 hx hy hc).2⟩;simp only[wG3];rw[mS];have e:(x+8589934592-y-A.2)%4294967296=(4294967296+x-y-A.2)%4294967296:=by omega
  have e2:lent x y A.2=1-(4294967296+x-y-A.2)/4294967296:=by unfold lent;split<;>omega
  rw[e,e2];exact wWF _ _ A.2 (4294967296+x-y-A.2) _ _ x y _ ih (by omega) rfl (by omega)
theorem wN5(us:List Nat)(n:Nat)(h:us.length≤n):us.take n=us:=pR h
theorem add_any(lo h1 lo2 h12:Nat)(v v2:Value)(xs ys:List Nat)(w:World)(h:wL lo h1 w v xs)(h2:wL lo2 h12 w v2 ys)(hh:h1≤w.heap.size)(hh2:h12≤w.heap.size)(hl:xs.length≤17592186044416)(hl2:ys.length≤17592186044416) :
  Calls Tryz.prog 94 #[v,v2] w fun e w'=>∃r,e=.returned r∧wL w.heap.size w'.heap.size w' r (toL (wC xs+wC ys))∧Below w.heap.size w w':=by
 have t1:=qT xs (by obtain⟨_,_,_,_,_,hlt,_⟩:=h.open;exact hlt);have t2:=qT ys (by obtain⟨_,_,_,_,_,hlt,_⟩:=h2.open;exact hlt);have l1:=zQ xs;have l2:=zQ ys;obtain⟨hb0,bx,hs0⟩:=boxA w #[.int .u32 0] 130;have q1:=vC lo h1 v xs _ (h.below hb0 hh) (by omega);have q2:=vC lo2 h12 v2 ys _ (h2.below hb0 hh2) (by omega);rw[t1]at q1 l1;rw[t2]at q2 l2;obtain⟨X,hX⟩:∃X,wC xs=X:=⟨_,rfl⟩
 obtain⟨Y,hY⟩:∃Y,wC ys=Y:=⟨_,rfl⟩
 rw[hX]at q1 l1 ⊢;rw[hY]at q2 l2 ⊢;have HX:=hid (wK X);have HY:=hid (wK Y);clear hX hY h h2 t1 t2;generalize toL X=us at *
 generalize toL Y=vs at *
 have Q1:=hid q1;have Q2:=hid q2;have BX:=hid bx;have HB0:=hid hb0;have HS0:=hid hs0;clear q1 q2 bx hb0 hs0
 go_enter Tryz.func94,Tryz.ntmps94
 go_wp2_with fail
 refine Q1.out.mono ?_;rintro e w' ⟨r1,rfl,hr1,rfl⟩
 go_wp2_with fail
 refine Q2.out.mono ?_;rintro e w' ⟨r2,rfl,hr2,rfl⟩;have Q3:=hid (each_add addF addF_fn addF_le lo h1 lo2 h12 w.heap.size r1 r2 us vs _ hr1 hr2 hh hh2 BX.out (by omega) (by omega));have hu32:∀x,x∈us→x<4294967296:=by obtain⟨_,_,_,_,_,hlt,_⟩:=hr1.open;exact hlt
 have hv32:∀x,x∈vs→x<4294967296:=by obtain⟨_,_,_,_,_,hlt,_⟩:=hr2.open;exact hlt
 have HU:=hid hu32;have HV:=hid hv32;clear Q1 Q2 hr1 hr2 hu32 hv32
 go_wp2_with fail
 refine Q3.out.mono ?_;rintro e w3 ⟨n,gr,rfl,hn,hown,hlt,hc1,hbox,hbel⟩;have hval:=add_val us vs n;rw[wN5 us n (by omega),wN5 vs n (by omega),HX.out,HY.out]at hval;have hln:=zF hown;revert hown hlt hc1 hbox hval hln;generalize qI addF us vs n=A;obtain⟨al,c⟩:=A;dsimp only;intro hown hlt hc1 hbox hval hln;obtain⟨d0,f0⟩:=hbox.one;have hnl:n≤17592186044416:=by omega
 have hbW:Below w.heap.size w w3:=HB0.out.trans hbel;have hs3:=hbW.size;have hs4:w.heap.size+1≤w3.heap.size:=by have:=hbel.size;rw[HS0.out]at this;exact this
 have HOWN:=hid hown;have HLT:=hid hlt;have HVAL:=hid hval;have HLN:=hid hln;have HBW:=hid hbW;clear Q3 hn hown hlt hbox hval hln hbel hbW
 go_wp2_with (at_builtin;go_loud (refine qC2 jT rfl _ _ rfl w.heap.size n 1 1 _ (zS al) #[.int .u32 (c:Nat)] (own_base HOWN.out HB0.out.size) rfl rfl rfl (by simp[Value.oneCell']) (by omega) (by decide) (by unfold maxLen;omega) HBW.out hs3 ?_))
 intro g c' w4 ho4 hb4 _;have e4:zS al++(#[Value.int .u32 (c:Nat)]).toList=zS (al++[c]):=by simp[zS]
 rw[e4]at ho4;have hv4:wC (al++[c])=X+Y:=by rw[wB3,HLN.out];exact HVAL.out
 have hlt4:∀x,x∈al++[c]→x<4294967296:=by
  intro x hx;rcases cJ.1 hx with h|h
  ·exact HLT.out x h
  ·simp only[List.mem_singleton]at h;omega
 have hN:=wME _ _ _ (al++[c]) w4 (wL.ofOwn ho4 hlt4) (by rw[mC,HLN.out];simp;omega);rw[qT _ hlt4,hv4]at hN;have HN:=hid hN;have HB4:=hid hb4;clear hN ho4 hb4 e4 hv4 hlt4
 go_wp2_with fail
 refine HN.out.mono ?_;rintro e w5 ⟨r5,rfl,hr5,hb5⟩
 go_wp2
 go_ret
 exact⟨_,rfl,hr5.wide HB4.out.size (pC _),HB4.out.trans (hb5.mono HB4.out.size)⟩
theorem less_any(lo h1 lo2 h12:Nat)(v v2:Value)(xs ys:List Nat)(w:World)(h:wL lo h1 w v xs)(h2:wL lo2 h12 w v2 ys)(hh:h1≤w.heap.size)(hh2:h12≤w.heap.size)(hl:xs.length≤17592186044416)(hl2:ys.length≤17592186044416)(hle:wC ys≤wC xs) :
  Calls Tryz.prog 177 #[v,v2] w fun e w'=>∃r,e=.returned r∧wL w.heap.size w'.heap.size w' r (toL (wC xs-wC ys))∧Below w.heap.size w w':=by
 have t1:=qT xs (by obtain⟨_,_,_,_,_,hlt,_⟩:=h.open;exact hlt);have t2:=qT ys (by obtain⟨_,_,_,_,_,hlt,_⟩:=h2.open;exact hlt);have l1:=zQ xs;have l2:=zQ ys;obtain⟨hb0,bx,hs0⟩:=boxA w #[.int .u32 0] 130;have q1:=vC lo h1 v xs _ (h.below hb0 hh) (by omega);have q2:=vC lo2 h12 v2 ys _ (h2.below hb0 hh2) (by omega);rw[t1]at q1 l1;rw[t2]at q2 l2;obtain⟨X,hX⟩:∃X,wC xs=X:=⟨_,rfl⟩
 obtain⟨Y,hY⟩:∃Y,wC ys=Y:=⟨_,rfl⟩
 rw[hX,hY]at hle;rw[hX]at q1 l1 ⊢;rw[hY]at q2 l2 ⊢;have HX:=hid (wK X);have HY:=hid (wK Y);have HLE:=hid hle;clear hX hY h h2 t1 t2 hle;generalize toL X=us at *
 generalize toL Y=vs at *
 have Q1:=hid q1;have Q2:=hid q2;have BX:=hid bx;have HB0:=hid hb0;have HS0:=hid hs0;clear q1 q2 bx hb0 hs0
 go_enter Tryz.func177,Tryz.ntmps177
 go_wp2_with fail
 refine Q1.out.mono ?_;rintro e w' ⟨r1,rfl,hr1,rfl⟩
 go_wp2_with fail
 refine Q2.out.mono ?_;rintro e w' ⟨r2,rfl,hr2,rfl⟩;have Q3:=hid (each_less wG3 lessF_fn qEE lo h1 lo2 h12 w.heap.size r1 r2 us vs _ hr1 hr2 hh hh2 BX.out (by omega) (by omega));have hu32:∀x,x∈us→x<4294967296:=by obtain⟨_,_,_,_,_,hlt,_⟩:=hr1.open;exact hlt
 have hv32:∀x,x∈vs→x<4294967296:=by obtain⟨_,_,_,_,_,hlt,_⟩:=hr2.open;exact hlt
 have HU:=hid hu32;have HV:=hid hv32;clear Q1 Q2 hr1 hr2 hu32 hv32
 go_wp2_with fail
 refine Q3.out.mono ?_;rintro e w3 ⟨n,gr,rfl,hn,hown,hlt,hc1,hbox,hbel⟩;have hval:=(less_val us vs HU.out HV.out n).1;rw[wN5 us n (by omega),wN5 vs n (by omega),HX.out,HY.out]at hval;have hln:=zF hown;revert hown hlt hc1 hbox hval hln;generalize qI wG3 us vs n=A;obtain⟨al,c⟩:=A;dsimp only;intro hown hlt hc1 hbox hval hln;have hv:wC al=X-Y:=by
  have hA:=qP al hlt;rw[hln]at hA;have:=HLE.out;have hc0:c=0:=by
   rcases mO c with h|h
   ·exact h
   ·exfalso
    have:4294967296^n*1≤4294967296^n*c:=mK _ h
    omega
  rw[hc0,dU]at hval;omega
 have hbW:Below w.heap.size w w3:=HB0.out.trans hbel;have hN:=wME _ _ _ al w3 (wL.ofOwn hown hlt) (by omega);rw[qT _ hlt,hv]at hN;have HN:=hid hN;clear Q3 hn hown hlt hbox hval hln hbel hN hv
 go_wp2_with fail
 refine HN.out.mono ?_;rintro e w5 ⟨r5,rfl,hr5,hb5⟩
 go_wp2
 go_ret
 exact⟨_,rfl,hr5.wide hbW.size (pC _),hbW.trans (hb5.mono hbW.size)⟩
theorem natsub_any(lo h1 lo2 h12:Nat)(v v2:Value)(xs ys:List Nat)(w:World)(h:wL lo h1 w v xs)(h2:wL lo2 h12 w v2 ys)(hh:h1≤w.heap.size)(hh2:h12≤w.heap.size)(hl:xs.length≤17592186044416)(hl2:ys.length≤17592186044416)(hle:wC ys≤wC xs) :
  Calls Tryz.prog 149 #[v,v2] w fun e w'=>∃r,e=.returned (.tuple #[r,.int .i64 0])∧wL w.heap.size w'.heap.size w' r (toL (wC xs-wC ys))∧Below w.heap.size w w':=by
 have Q1:=hid (cmp_any lo h1 lo2 h12 v v2 xs ys w h h2 (by omega) (by omega));have hc:0≤zW (wC xs) (wC ys):=by unfold zW;rw[if_neg (by omega)];split<;>decide
 obtain⟨z,hz⟩:∃z,zW (wC xs) (wC ys)=z:=⟨_,rfl⟩
 rw[hz]at Q1 hc;have H1:=hid h;have H2:=hid h2;clear hz h h2
 go_enter Tryz.func149,Tryz.ntmps149
 go_wp2_with fail
 refine Q1.out.mono ?_;rintro e w1 ⟨rfl,hb1⟩;have Q2:=hid (less_any lo h1 lo2 h12 v v2 xs ys w1 (H1.out.below hb1 hh) (H2.out.below hb1 hh2) (pD hh hb1.size) (pD hh2 hb1.size) hl hl2 hle);have HB1:=hid hb1;clear Q1 hb1
 go_wp2_with fail
 refine Q2.out.mono ?_;rintro e w2 ⟨r,rfl,hr,hb2⟩
 go_wp2
 go_ret2
 exact⟨_,rfl,hr.wide HB1.out.size (pC _),HB1.out.trans (hb2.mono HB1.out.size)⟩
end Go.Proofs.YtdcjmnfngabhoaaGreat
/-
  DERIVED: THE SHELF's CONTRACTS AT THIS DUMP, IN PLAIN WORDS (tools/lay-plain.mjs out of 'TryzShelf.lean', which tools/lay-shelf.mjs wrote): THE SAME DECLARATIONS UNDER THE SAME NAMES: 'import', 'namespace', 'open', 'def', 'theorem' AND NOTHING ELSE: no command of the shelf's: FOR A HAND-IN. Each laying: the table of numbers ('.._ren') and one theorem, a field a fact of the dump's own or the kernel's comparison; each contract: ONE APPLICATION.
-/
namespace Go.Proofs
open Go.Shelf
def Tryz.lays128_ren:Go.Shelf.Ren:=⟨fun|128=>174|n=>n,fun|51=>130|3=>3|4=>4|46=>201|5=>5|9=>9|n=>n,fun|n=>n⟩
theorem Tryz.lays128:Go.Proofs.Lays.n128 Tryz.prog Tryz.lays128_ren:={
 mixed:=by kernel_rfl
 f128:=Tryz.func174.trans (congrArg some (by kernel_rfl))
 t3:=Tryz.underlying3
 a3:=Tryz.isAgg3
 z3:=Tryz.sizeOf3
 v3:=Tryz.zeroValue3
 t4:=Tryz.underlying4
 a4:=Tryz.isAgg4
 z4:=Tryz.sizeOf4
 v4:=Tryz.zeroValue4
 t5:=Tryz.underlying5
 a5:=Tryz.isAgg5
 z5:=Tryz.sizeOf5
 v5:=Tryz.zeroValue5
 t9:=Tryz.underlying9
 a9:=Tryz.isAgg9
 z9:=Tryz.sizeOf9
 v9:=Tryz.zeroValue9
 t46:=Tryz.underlying201
 a46:=Tryz.isAgg201
 z46:=Tryz.sizeOf201
 v46:=Tryz.zeroValue201
 t51:=Tryz.underlying130
 a51:=Tryz.isAgg130
 z51:=Tryz.sizeOf130
 v51:=Tryz.zeroValue130 }
theorem Tryz.bits_Len32(x:Int)(w:World)(h0:0≤x)(h1:x≤4294967295) :
  Calls Tryz.prog 174 #[.int .u32 x] w fun e w'=>e=.returned (.int .i64 (Lib.bitLen x.toNat))∧w'=w:=Any.bits_Len32 Tryz.lays128 x w h0 h1
def Tryz.lays133_ren:Go.Shelf.Ren:=⟨fun|133=>203|128=>174|n=>n,fun|51=>130|3=>3|4=>4|46=>201|5=>5|9=>9|n=>n,fun|n=>n⟩
theorem Tryz.lays133:Go.Proofs.Lays.n133 Tryz.prog Tryz.lays133_ren:={
 mixed:=by kernel_rfl
 f128:=Tryz.func174.trans (congrArg some (by kernel_rfl))
 f133:=Tryz.func203.trans (congrArg some (by kernel_rfl))
 t3:=Tryz.underlying3
 a3:=Tryz.isAgg3
 z3:=Tryz.sizeOf3
 v3:=Tryz.zeroValue3
 t4:=Tryz.underlying4
 a4:=Tryz.isAgg4
 z4:=Tryz.sizeOf4
 v4:=Tryz.zeroValue4
 t5:=Tryz.underlying5
 a5:=Tryz.isAgg5
 z5:=Tryz.sizeOf5
 v5:=Tryz.zeroValue5
 t9:=Tryz.underlying9
 a9:=Tryz.isAgg9
 z9:=Tryz.sizeOf9
 v9:=Tryz.zeroValue9
 t46:=Tryz.underlying201
 a46:=Tryz.isAgg201
 z46:=Tryz.sizeOf201
 v46:=Tryz.zeroValue201
 t51:=Tryz.underlying130
 a51:=Tryz.isAgg130
 z51:=Tryz.sizeOf130
 v51:=Tryz.zeroValue130 }
theorem Tryz.bits_LeadingZeros32(x:Int)(w:World)(h0:0≤x)(h1:x≤4294967295) :
  Calls Tryz.prog 203 #[.int .u32 x] w fun e w'=>e=.returned (.int .i64 (32-(Lib.bitLen x.toNat:Int)))∧w'=w:=Any.bits_LeadingZeros32 Tryz.lays133 x w h0 h1
end Go.Proofs
/- How many bits: nat.Len, simileref01.Len; nat.Of; nat.short. -/
namespace Go.Proofs.YtdcjmnfngabhoaaGreat
open Go.RowKit
def wHA(n:Nat):Nat:=if n=0 then 0 else 32*((toL n).length-1)+Lib.bitLen ((toL n).getD ((toL n).length-1) 0)
theorem qDD{a b:Int}(h:a=b):Ending.returned (.int .i64 a)=Ending.returned (.int .i64 b):=by rw[h]
theorem wQ9:Lib.bitLen 0=0:=by decide
theorem bitLen_le32(x:Nat)(h:x<4294967296):Lib.bitLen x≤32:=by
 have key:∀ k x:Nat,x<2^k→k≤64→Lib.bitLen x≤k:=by
  intro k
  induction k with
  | zero => intro x hx _;obtain rfl:x=0:=by simpa using hx
            decide
  |succ k ih=>
   intro x hx hk;by_cases h0:x=0
   ·subst h0;rw[wQ9];omega
   ·have hx64:x<2^64:=mN hx (mT (by decide) hk);rw[Lib.bitLen_half x h0 hx64];have:=ih (x/2) (by rw[mS]at hx;omega) (by omega);omega
 exact key 32 x (by simpa using h) (by decide)
theorem len_any(lo h1:Nat)(v:Value)(xs:List Nat)(w:World)(h:wL lo h1 w v xs)(hl:xs.length≤35184372088832) :
  Calls Tryz.prog 136 #[v] w fun e w'=>e=.returned (.int .i64 (wHA (wC xs):Nat))∧w=w':=by
 have t1:=qT xs (by obtain⟨_,_,_,_,_,hlt,_⟩:=h.open;exact hlt);have l1:=zQ xs;have q1:=vC lo h1 v xs w h (by omega);rw[t1]at q1 l1;obtain⟨X,hX⟩:∃X,wC xs=X:=⟨_,rfl⟩
 rw[hX]at q1 l1 ⊢;have hn:=wI7 X;have hLen:wHA X=if X=0 then 0 else 32*((toL X).length-1)+Lib.bitLen ((toL X).getD ((toL X).length-1) 0):=rfl
 generalize wHA X=K at *
 clear hX h t1;generalize toL X=us at *
 have Q1:=hid q1;have HN:=hid hn;have HL:=hid hLen;clear q1 hn hLen
 go_enter Tryz.func136,Tryz.ntmps136
 go_wp2_with fail
 refine Q1.out.mono ?_;rintro e w' ⟨r1,rfl,hr1,rfl⟩;obtain⟨ad,cap,rfl,_,_,hlt1,hcell⟩:=hr1.open;have HC:=hid hcell;have HLT:=hid hlt1;clear Q1 hr1 hcell hlt1;by_cases hz:us.length=0
 ·have e1:((us.length:Int)==0)=true:=by rw[beq_iff_eq];omega
  have hX:=HN.out.1 (mM hz);have hk:=HL.out;rw[if_pos hX]at hk;have HK:=hid hk;clear hk hX hz
  go_wp2
  go_ret
  rw[HK.out];exact⟨rfl,rfl⟩
 ·have e1:((us.length:Int)==0)=false:=by rw[beq_eq_false_iff_ne];omega
  obtain⟨b,off,rfl,_,_,hc1⟩:=HC.out (us.length-1) (by omega);obtain⟨x,hx⟩:∃x,us.getD (us.length-1) 0=x:=⟨_,rfl⟩
  have hx32:x<4294967296:=by rw[←hx];exact getD_lt us HLT.out _
  rw[hx]at hc1;have hk:=HL.out;rw[if_neg (fun h=>hz (by rw[HN.out.2 h];rfl)),hx]at hk;have Q2:=hid (Tryz.bits_Len32 x w (by omega) (by omega));have hb32:=bitLen_le32 x hx32;rw[fF]at Q2;have hp:0<us.length:=by omega
  have HK:=hid hk;generalize Lib.bitLen x=z at *
  clear hk hx hz
  go_wp2_with fail
  refine Q2.out.mono ?_;rintro e w' ⟨rfl,rfl⟩
  go_wp2
  go_ret
  rw[HK.out];exact⟨qDD (by omega),rfl⟩
theorem len01_any(lo h1:Nat)(v:Value)(xs:List Nat)(w:World)(h:wL lo h1 w v xs)(hl:xs.length≤35184372088832) :
  Calls Tryz.prog 101 #[v] w fun e w'=>e=.returned (.int .i64 (wHA (wC xs):Nat))∧Below w.heap.size w w':=by
 have l1:=jZ xs (by obtain⟨_,_,_,_,_,hlt,_⟩:=h.open;exact hlt);have q1:=zI lo h1 v xs w h hl;obtain⟨X,hX⟩:∃X,wC xs=X:=⟨_,rfl⟩
 rw[hX]at q1 l1 ⊢;have hn:=wI7 X;have hLen:wHA X=if X=0 then 0 else 32*((toL X).length-1)+Lib.bitLen ((toL X).getD ((toL X).length-1) 0):=rfl
 generalize wHA X=K at *
 clear hX h;generalize toL X=us at *
 have Q1:=hid q1;have HN:=hid hn;have HL:=hid hLen;clear q1 hn hLen
 go_enter Tryz.func101,Tryz.ntmps101
 go_wp2_with fail
 refine Q1.out.mono ?_;rintro e w1 ⟨r1,rfl,hr1,hb1⟩;obtain⟨ad,cap,rfl,_,_,hlt1,hcell⟩:=hr1.open;have HC:=hid hcell;have HLT:=hid hlt1;have HB:=hid hb1;clear Q1 hr1 hcell hlt1 hb1;by_cases hz:us.length=0
 ·have e1:((us.length:Int)==0)=true:=by rw[beq_iff_eq];omega
  have hX:=HN.out.1 (mM hz);have hk:=HL.out;rw[if_pos hX]at hk;have HK:=hid hk;clear hk hX hz
  go_wp2
  go_ret
  rw[HK.out];exact⟨rfl,HB.out⟩
 ·have e1:((us.length:Int)==0)=false:=by rw[beq_eq_false_iff_ne];omega
  obtain⟨b,off,rfl,_,_,hc1⟩:=HC.out (us.length-1) (by omega);obtain⟨x,hx⟩:∃x,us.getD (us.length-1) 0=x:=⟨_,rfl⟩
  have hx32:x<4294967296:=by rw[←hx];exact getD_lt us HLT.out _
  rw[hx]at hc1;have hk:=HL.out;rw[if_neg (fun h=>hz (by rw[HN.out.2 h];rfl)),hx]at hk;have hb32:=bitLen_le32 x hx32;have hp:0<us.length:=by omega
  have HK:=hid hk;clear hk hx hz
  go_wp2
  go_loop [3,4] (fun n t=>∃(i y:Nat),n=.int .i64 ((32*((us.length:Int)-1))+(i:Nat))∧t=.int .u32 (y:Nat)∧y<4294967296∧i+Lib.bitLen y=Lib.bitLen x) (fun _ t=>(intOf t).toNat)
  case atStart=>exact⟨0,x,by simp,rfl,hx32,by simp⟩
  case round=>
   obtain⟨i,y,rfl,rfl,hy,hiy⟩:=hrel;by_cases h0:y=0
   ·subst h0;rw[wQ9]at hiy;have HI:=hid hiy;have hi32:i≤32:=by omega
    clear hiy
    go_wp2
    go_ret
    rw[HK.out,←HI.out];exact⟨qDD (by omega),HB.out⟩
   ·have hyb:=Lib.bitLen_half y h0 (Nat.lt_trans hy (by decide));rw[hyb]at hiy;have e2:decide ((y:Int)>0)=true:=by simp;omega
    have hi32:i+1≤32:=by omega
    have HI:=hid hiy;clear hiy hyb
    go_wp2
    refine⟨⟨i+1,y/2,by congr 1;omega,by go_num,by omega,by have:=HI.out;omega⟩,by simp[intOf];omega⟩
theorem natof_any(n:Nat)(w:World)(hn:n<18446744073709551616) :
  Calls Tryz.prog 142 #[.int .u64 (n:Nat)] w fun e w'=>∃r,e=.returned r∧wL w.heap.size w'.heap.size w' r (toL n)∧Below w.heap.size w w':=by
 have hv:wC [n%4294967296,n/4294967296]=n:=by simp only[wC];omega
 obtain⟨a,ha⟩:∃a,a=n%4294967296:=⟨_,rfl⟩
 obtain⟨b,hb⟩:∃b,b=n/4294967296:=⟨_,rfl⟩
 have ha2:(n:Int)%4294967296=(a:Nat):=by omega
 have hb2:(n:Int)/4294967296=(b:Nat):=by omega
 rw[←ha,←hb]at hv;have hal:a<4294967296:=by omega
 have hbl:b<4294967296:=by omega
 have hown:(w.alloc (.cells #[.int .u32 (a:Nat),.int .u32 (b:Nat)] 130)).ownsRow w.heap.size 130 1 (.slice (some ⟨w.heap.size,0,none⟩) 2 2) 2 (zS [a,b]):=
  World.ownsRow_lit w _ 2 (pC _) (by decide) rfl
 have hb1:Below w.heap.size w (w.alloc (.cells #[.int .u32 (a:Nat),.int .u32 (b:Nat)] 130)):=(Below.refl _ _).alloc (pC _) _;have hl2:∀x,x∈[a,b]→x<4294967296:=by intro x hx;simp at hx;rcases hx with rfl|rfl<;>assumption
 have hL:=wL.ofOwn hown hl2;have hN:=wME _ _ _ _ _ hL (by simp);rw[qT _ hl2,hv]at hN;clear hown hL hv ha hb hn
 go_enter Tryz.func142,Tryz.ntmps142
 go_wp2_with (go_at_call 144;refine hN.mono ?_;rintro e w' ⟨r,rfl,hr,hb2⟩)
 go_ret
 exact⟨_,rfl,hr.wide hb1.size (pC _),hb1.trans (hb2.mono hb1.size)⟩
theorem half01_any(lo h1:Nat)(v:Value)(xs:List Nat)(w:World)(h:wL lo h1 w v xs)(hh:h1≤w.heap.size)(hl:xs.length≤17592186044416) :
  Calls Tryz.prog 167 #[v] w fun e w'=>∃r,e=.returned r∧wL w.heap.size w'.heap.size w' r (toL (wC xs/2))∧Below w.heap.size w w':=by
 obtain⟨ad,cap,rfl,_,_,hlt,_⟩:=h.open;have HLT:=hid hlt;clear hlt
 go_enter Tryz.func167,Tryz.ntmps167
 go_wp2_with (at_make;refine zM jT rfl _ _ rfl w.heap.size _ _ _ _ xs.length xs.length rfl rfl rfl rfl (pC _) (by omega) (Below.refl _ _) (pC _) ?_)
 intro w1 ho1 hb1 _
 go_wp2
 go_loopw [10] (fun t wr=>∃(i:Nat)(cur:List Nat),t=.int .i64 i∧i≤xs.length∧wr.ownsRow w.heap.size 130 1 (.slice (some ⟨w.heap.size,0,none⟩) xs.length xs.length) xs.length (zS cur)∧Below w.heap.size w wr ∧
   (∀x,x∈cur→x<4294967296)∧wC (cur.take i)=wC xs/2^1%4294967296^i) (fun t _=>xs.length-(intOf t).toNat)
 case atStart=>exact⟨0,_,rfl,pN _,ho1,hb1,wD4 _,by simp[wC,Nat.mod_one]⟩
 case round=>
  obtain⟨i,cur,rfl,hi,hown,hbel,hcl,hval⟩:=hrel;have HV:=hid hval;have HCL:=hid hcl;clear hval hcl ho1 hb1;by_cases hil:i<xs.length
  ·obtain⟨x,hx⟩:∃x,xs.getD i 0=x:=⟨_,rfl⟩
   obtain⟨y,hy⟩:∃y,xs.getD (i+1) 0=y:=⟨_,rfl⟩
   have hx32:x<4294967296:=by rw[←hx];exact getD_lt xs HLT.out i
   have hy32:y<4294967296:=by rw[←hy];exact getD_lt xs HLT.out (i+1)
   have Q1:=hid (xU lo h1 _ xs i x wr (h.below hbel hh) (by omega) hx);have Q2:=hid (xU lo h1 _ xs (i+1) y wr (h.below hbel hh) (by omega) hy);have hi1:(i:Int)+1=((i+1:Nat):Int):=by omega
   have HX:=hid hx;have HY:=hid hy;have HI:=hid hi1;obtain⟨c1,c2⟩:=jP hown i hil;clear hx hy hi1
   go_wp2_with fail
   refine Q1.out.mono ?_;rintro e w' ⟨rfl,rfl⟩
   go_wp2_with fail
   rw[HI.out];refine Q2.out.mono ?_;rintro e w' ⟨rfl,rfl⟩
   go_wp2
   have hs:=jQ hown i ((x+4294967296*y)/2%4294967296);have hln:=zF hown;have e1:(x:Int)/2+(y:Int)%2*2147483648=(((x+4294967296*y)/2%4294967296:Nat):Int):=by omega
   refine⟨⟨i+1,cur.set i ((x+4294967296*y)/2%4294967296),by go_num,by omega,by rw[e1];exact hs.1,hbel.setCell (by exact pC _) _,jX _ _ _ HCL.out (dI _ (by decide)),?_⟩,by simp[intOf];omega⟩;rw[wIA _ _ _ _ hln hil,HV.out,mS];exact(right_step _ _ _ (by rw[wQ3 xs i 1 (by decide) HLT.out,HX.out,HY.out])).symm
  ·obtain rfl:i=xs.length:=by omega
   have hln:=zF hown;have hv:wC cur=wC xs/2:=by
    have:=HV.out
    rwa [zE cur _ (by omega),wWJ xs 1 HLT.out]at this
   have hN:=zI _ _ _ cur wr (wL.ofOwn hown HCL.out) (by omega);rw[hv]at hN;clear hv hln
   go_wp2_with (go_at_call 107;refine hN.mono ?_;rintro e w' ⟨r,rfl,hr,hb2⟩)
   go_ret
   exact⟨_,rfl,hr.wide hbel.size (pC _),hbel.trans (hb2.mono hbel.size)⟩
open Go.Ev Go.Vl
theorem vc1{P:Program}{g:FuncId}{xs ys:List Nat}(hx:okL xs)(h:∀v w,wL 0 w.heap.size w v xs→Calls P g #[v] w fun e w'=>∃r,e=.returned r∧wL w.heap.size w'.heap.size w' r ys∧Below w.heap.size w w'):wG P g [vL xs] (fun y=>y=vL ys):=by
 intro S w us hus;cases hus with
 |cons h1 t=>cases t;refine(h _ w (qH h1 hx)).mono ?_;rintro e w' ⟨r,rfl,hr,hb⟩;exact⟨r,_,rfl,rfl,kO hr (pC _) fun b hb _=>.inr hb,hb⟩
theorem vc2{P:Program}{g:FuncId}{xs ys zs:List Nat}(hx:okL xs)(hy:okL ys)(h:∀v v2 w,wL 0 w.heap.size w v xs→wL 0 w.heap.size w v2 ys→Calls P g #[v,v2] w fun e w'=>∃r,e=.returned r∧wL w.heap.size w'.heap.size w' r zs∧Below w.heap.size w w'):wG P g [vL xs,vL ys] (fun y=>y=vL zs):=by
 intro S w us hus;cases hus with
 | cons h1 t=>
  cases t with
  |cons h2 t=>cases t;refine(h _ _ w (qH h1 hx) (qH h2 hy)).mono ?_;rintro e w' ⟨r,rfl,hr,hb⟩;exact⟨r,_,rfl,rfl,kO hr (pC _) fun b hb _=>.inr hb,hb⟩
theorem wPH(xs:List Nat)(hx:okL xs)(hl:xs.length≤35184372088832):wG Tryz.prog 144 [vL xs] (fun y=>y=vN (wC xs)):=
 vc1 hx fun v w h=>by rw[←qT xs hx];exact wME _ _ v xs w h hl
theorem wXA(xs:List Nat)(hx:okL xs)(hl:xs.length≤35184372088832):wG Tryz.prog 140 [vL xs] (fun y=>y=vN (wC xs)):=
 vc1 hx fun v w h=>by rw[←qT xs hx];exact norm_any _ _ v xs w h hl
theorem natAdd_v(xs ys:List Nat)(hx:okL xs)(hy:okL ys)(hl:xs.length≤17592186044416)(hl2:ys.length≤17592186044416):wG Tryz.prog 94 [vL xs,vL ys] (fun y=>y=vN (wC xs+wC ys)):=
 vc2 hx hy fun v v2 w h h2=>add_any _ _ _ _ v v2 xs ys w h h2 (pC _) (pC _) hl hl2
theorem natMul_v(xs ys:List Nat)(hx:okL xs)(hy:okL ys)(hl:xs.length≤8796093022208)(hl2:ys.length≤8796093022208):wG Tryz.prog 93 [vL xs,vL ys] (fun y=>y=vN (wC xs*wC ys)):=
 vc2 hx hy fun v v2 w h h2=>mul_any _ _ _ _ v v2 xs ys w h h2 hl hl2
theorem qE4(xs ys:List Nat)(hx:okL xs)(hy:okL ys)(hl:xs.length≤17592186044416)(hl2:ys.length≤17592186044416)(hle:wC ys≤wC xs):wG Tryz.prog 149 [vL xs,vL ys] (fun y=>y=.tup [vN (wC xs-wC ys),.int .i64 0]):=by
 intro S w us hus;cases hus with
 | cons h1 t=>
  cases t with
  |cons h2 t=>cases t;refine(natsub_any _ _ _ _ _ _ xs ys w (qH h1 hx) (qH h2 hy) (pC _) (pC _) hl hl2 hle).mono ?_;rintro e w' ⟨r,rfl,hr,hb⟩;exact⟨_,_,rfl,rfl,.tup (us:=[r,.int .i64 0]) (.cons (kO hr (pC _) fun b hb _=>.inr hb) (.cons (.int _ _) .nil)),hb⟩
theorem qE5(xs ys:List Nat)(hx:okL xs)(hy:okL ys)(hl:xs.length≤35184372088832)(hl2:ys.length≤35184372088832):wG Tryz.prog 148 [vL xs,vL ys] (fun y=>y=.int .i64 (zW (wC xs) (wC ys))):=by
 intro S w us hus;cases hus with
 | cons h1 t=>
  cases t with
  |cons h2 t=>cases t;refine(cmp_any _ _ _ _ _ _ xs ys w (qH h1 hx) (qH h2 hy) hl hl2).mono ?_;rintro e w' ⟨rfl,hb⟩;exact⟨_,_,rfl,rfl,.int _ _,hb⟩
theorem wT8(xs:List Nat)(hx:okL xs)(hl:xs.length≤35184372088832):wG Tryz.prog 136 [vL xs] (fun y=>y=.int .i64 (wHA (wC xs):Nat)):=by
 intro S w us hus;cases hus with
 |cons h1 t=>cases t;refine(len_any _ _ _ xs w (qH h1 hx) hl).mono ?_;rintro e w' ⟨rfl,rfl⟩;exact⟨_,_,rfl,rfl,.int _ _,Below.refl _ _⟩
theorem natOf_v(n:Nat)(hn:n<18446744073709551616):wG Tryz.prog 142 [.int .u64 (n:Nat)] (fun y=>y=vN n):=by
 intro S w us hus;cases hus with
 |cons h1 t=>cases t;cases h1;refine(natof_any n w hn).mono ?_;rintro e w' ⟨r,rfl,hr,hb⟩;exact⟨_,_,rfl,rfl,kO hr (pC _) fun b hb _=>.inr hb,hb⟩
theorem wH1(xs:List Nat)(hx:okL xs)(hl:xs.length≤35184372088832):wG Tryz.prog 107 [vL xs] (fun y=>y=vN (wC xs)):=
 vc1 hx fun v w h=>zI _ _ v xs w h hl
theorem add01_v(xs ys:List Nat)(hx:okL xs)(hy:okL ys)(hl:xs.length≤17592186044416)(hl2:ys.length≤17592186044416):wG Tryz.prog 126 [vL xs,vL ys] (fun y=>y=vN (wC xs+wC ys)):=
 vc2 hx hy fun v v2 w h h2=>wYC _ _ _ _ v v2 xs ys w h h2 (pC _) (pC _) hl hl2
theorem wQF(xs ys:List Nat)(hx:okL xs)(hy:okL ys)(hl:xs.length≤17592186044416)(hle:wC ys≤wC xs):wG Tryz.prog 128 [vL xs,vL ys] (fun y=>y=vN (wC xs-wC ys)):=
 vc2 hx hy fun v v2 w h h2=>wWG _ _ _ _ v v2 xs ys w h h2 (pC _) (pC _) hl hle
theorem mul01_v(xs ys:List Nat)(hx:okL xs)(hy:okL ys)(hl:xs.length≤4398046511104)(hl2:ys.length≤4398046511104):wG Tryz.prog 129 [vL xs,vL ys] (fun y=>y=vN (wC xs*wC ys)):=
 vc2 hx hy fun v v2 w h h2=>mul01_any _ _ _ _ v v2 xs ys w h h2 (pC _) hl hl2
theorem small01_v(xs:List Nat)(d:Nat)(hx:okL xs)(hl:xs.length≤17592186044416)(hd:d<4294967296):wG Tryz.prog 173 [vL xs,.int .u32 (d:Nat)] (fun y=>y=vN (wC xs*d)):=by
 intro S w us hus;cases hus with
 | cons h1 t=>
  cases t with
  |cons h2 t=>cases t;cases h2;refine(wBH _ _ _ xs d w (qH h1 hx) (pC _) hl hd).mono ?_;rintro e w' ⟨r,rfl,hr,hb⟩;exact⟨_,_,rfl,rfl,kO hr (pC _) fun b hb _=>.inr hb,hb⟩
theorem div01_v(xs ys:List Nat)(hx:okL xs)(hy:okL ys)(hl:xs.length≤4398046511104)(hl2:ys.length≤4398046511104)(hp:0<wC ys):wG Tryz.prog 169 [vL xs,vL ys] (fun y=>y=.tup [vN (wC xs/wC ys),vN (wC xs%wC ys)]):=by
 intro S w us hus;cases hus with
 | cons h1 t=>
  cases t with
  |cons h2 t=>cases t;refine(div01_any _ _ _ _ _ _ xs ys w (qH h1 hx) (qH h2 hy) (pC _) hl hl2 hp).mono ?_;rintro e w' ⟨r1,r2,rfl,hr1,hr2,hb⟩;exact⟨_,_,rfl,rfl,.tup (us:=[r1,r2]) (.cons (kO hr1 (pC _) fun b hb _=>.inr hb) (.cons (kO hr2 (pC _) fun b hb _=>.inr hb) .nil)),hb⟩
theorem cmp01_v(xs ys:List Nat)(hx:okL xs)(hy:okL ys)(hl:xs.length≤17592186044416)(hl2:ys.length≤17592186044416):wG Tryz.prog 127 [vL xs,vL ys] (fun y=>y=.int .i64 (zW (wC xs) (wC ys))):=by
 intro S w us hus;cases hus with
 | cons h1 t=>
  cases t with
  |cons h2 t=>cases t;refine(wP4 _ _ _ _ _ _ xs ys w (qH h1 hx) (qH h2 hy) hl hl2).mono ?_;rintro e w' ⟨rfl,rfl⟩;exact⟨_,_,rfl,rfl,.int _ _,Below.refl _ _⟩
theorem same01_v(xs ys:List Nat)(hx:okL xs)(hy:okL ys)(hl:xs.length≤35184372088832):wG Tryz.prog 43 [vL xs,vL ys] (fun y=>y=.bool (decide (xs=ys))):=by
 intro S w us hus;cases hus with
 | cons h1 t=>
  cases t with
  |cons h2 t=>cases t;refine(same01_any _ _ _ _ _ _ xs ys w (qH h1 hx) (qH h2 hy) hl).mono ?_;rintro e w' ⟨rfl,hb⟩;exact⟨_,_,rfl,rfl,.bool _,hb⟩
theorem zero01_v(xs:List Nat)(hx:okL xs)(hl:xs.length≤35184372088832):wG Tryz.prog 100 [vL xs] (fun y=>y=.bool (decide (wC xs=0))):=by
 intro S w us hus;cases hus with
 |cons h1 t=>cases t;refine(zero01_any _ _ _ xs w (qH h1 hx) hl).mono ?_;rintro e w' ⟨rfl,rfl⟩;exact⟨_,_,rfl,rfl,.bool _,Below.refl _ _⟩
theorem len01_v(xs:List Nat)(hx:okL xs)(hl:xs.length≤35184372088832):wG Tryz.prog 101 [vL xs] (fun y=>y=.int .i64 (wHA (wC xs):Nat)):=by
 intro S w us hus;cases hus with
 |cons h1 t=>cases t;refine(len01_any _ _ _ xs w (qH h1 hx) hl).mono ?_;rintro e w' ⟨rfl,hb⟩;exact⟨_,_,rfl,rfl,.int _ _,hb⟩
theorem of01_v(n:Nat)(hn:n<18446744073709551616):wG Tryz.prog 61 [.int .u64 (n:Nat)] (fun y=>y=vN n):=by
 intro S w us hus;cases hus with
 |cons h1 t=>cases t;cases h1;refine(of01_any n w hn).mono ?_;rintro e w' ⟨r,rfl,hr,hb⟩;exact⟨_,_,rfl,rfl,kO hr (pC _) fun b hb _=>.inr hb,hb⟩
theorem half01_v(xs:List Nat)(hx:okL xs)(hl:xs.length≤17592186044416):wG Tryz.prog 167 [vL xs] (fun y=>y=vN (wC xs/2)):=
 vc1 hx fun v w h=>half01_any _ _ v xs w h (pC _) hl
def qL(z:Bool×List Nat):List V:=[.bool z.1,vL z.2]
def kZ(r c:Nat)(F:Nat→Nat→Bool×List Nat):List (List (Bool×List Nat)):=(List.range r).map fun i=>(List.range c).map fun k=>F i k
def jW(t:List (List (Bool×List Nat))):List (List V):=t.map fun r=>[V.list (r.map qL)]
theorem table_v(r c:Nat)(g:FuncId)(fn:Func)(fs cs:List V)(F:Nat→Nat→Bool×List Nat)(hfn:qJ.fns.get g=some fn)(hF:∀i k,i<r→k<c→wG Tryz.prog g (fs++[.int .i64 (i:Nat),.int .i64 (k:Nat)]++cs) (fun y=>y=.agg (qL (F i k))))(hr:r≤1099511627776)(hc:c≤1099511627776):wG Tryz.prog 50 [.int .i64 (r:Nat),.int .i64 (c:Nat),.clo g fs cs] (fun y=>y=.list (jW (kZ r c F))):=by
 refine wD wE Tryz.func50 rfl rfl rfl rfl fun w0=>?_;repeat (first|refine wv ?_|refine wz ?_)
 refine jL (d:=7) (id:=1) (k:=1) (T:=59) rfl rfl rfl rfl ?_;refine wP (fun i:Nat=>[jI 0 r,jI 2 c,jV 4 (.clo g fs cs),jO 14 1 59 1 (jW (kZ i c F)),jI 22 r,jI 24 i])
  (fun i=>i≤r) (fun i=>r-i) 0 (fun _=>rfl) (pN _) ⟨rfl,rfl,rfl,⟨_,rfl⟩,rfl,rfl,trivial⟩ fun i hI=>?_
 rcases pK i r with hi|hi
 ·repeat (first|refine wv ?_|refine wg rfl cT ?_|refine wg rfl (sM 7000 0 c 2 32 (es':=[]) rfl) ?_|refine wz ?_)
  have hq1:∀j,(List.range j).map (fun k=>qL (F i k))++[qL (F i j)]=(List.range (j+1)).map fun k=>qL (F i k):=fun j=>by rw[pB1];simp
  refine wP (fun j:Nat=>[jI 0 r,jI 2 c,jV 4 (.clo g fs cs),jO 14 1 59 1 (jW (kZ i c F)),jI 16 i,jO 18 2 25 2 ((List.range j).map fun k=>qL (F i k)),jI 22 r,jI 24 i,jI 34 c,jI 36 j])
   (fun j=>j≤c) (fun j=>c-j) 0 (fun _=>rfl) (pN _) ⟨rfl,rfl,rfl,⟨_,rfl⟩,rfl,⟨_,rfl⟩,rfl,rfl,rfl,rfl,trivial⟩ fun j hJ=>?_
  rcases pK j c with hj|hj
  ·have hz:=hF i j hi hj;have hs:=hq1 j;have hlen:((List.range j).map fun k=>qL (F i k)).length=j:=by simp
   have row2:∀e∈[qL (F i j)],e.length=2:=fun e h=>by rw[pP.1 h];rfl
   repeat (first|refine wv ?_|refine wg rfl cT ?_|refine wg rfl sB ?_|refine rr_call wE rfl rfl rfl rfl rfl rfl hfn rfl hz rfl rfl ?_|refine wf rfl rfl (sA 7001 [qL (F i j)] 2 32 row2 hs) ?_|refine wz ?_)
   exact⟨j+1,hj,by omega,rfl,rfl,rfl,⟨_,rfl⟩,rfl,⟨_,rfl⟩,rfl,rfl,rfl,rfl,trivial⟩
  ·have hje:j=c:=by omega
   subst hje;have hs:jW (kZ i j F)++[[V.list ((List.range j).map fun k=>qL (F i k))]]=jW (kZ (i+1) j F):=by unfold jW kZ;rw[pB1];simp[List.map_map]
   have hlen:(jW (kZ i j F)).length=i:=by simp[jW,kZ]
   have wKB:∀e∈[[V.list ((List.range j).map fun k=>qL (F i k))]],e.length=1:=fun e h=>by rw[pP.1 h];rfl
   repeat (first|refine wv ?_|refine wg rfl cF ?_|refine wg rfl sB ?_|refine wf rfl rfl (sA 7002 [[V.list ((List.range j).map fun k=>qL (F i k))]] 1 24 wKB hs) ?_|refine wx ?_|refine wz ?_)
   exact⟨i+1,hi,by omega,rfl,rfl,rfl,⟨_,rfl⟩,rfl,rfl,trivial⟩
 ·have hie:i=r:=by omega
  subst hie;repeat (first|refine wv ?_|refine wg rfl cF ?_|refine wz ?_)
  exact⟨.inl rfl,_,rfl,rfl⟩
abbrev Z0:=Bool×List Nat
abbrev M0:=Z0×List (List Z0)
def tV(t:List (List Z0)):V:=.list (jW t)
theorem wCA(zs:List Z0):(zs.map qL).length=zs.length:=pH ..
theorem wRB(zs:List Z0)(j:Nat)(z:Z0)(h:zs[j]? = some z):(zs.map qL)[j]? = some (qL z):=by rw[pJ,h];rfl
theorem wCE(t:List (List Z0)):(jW t).length=t.length:=pH ..
theorem wJE(t:List (List Z0))(j:Nat)(r:List Z0)(h:t[j]? = some r):(jW t)[j]? = some [V.list (r.map qL)]:=by unfold jW;rw[pJ,h];rfl
theorem copy3_v(z:Z0)(h:z.2.length≤1099511627776):wG Tryz.prog 121 [.agg (qL z)] (fun y=>y=.agg (qL z)):=by
 refine wD wE Tryz.func121 rfl rfl rfl rfl fun w0=>?_;obtain⟨b,l⟩:=z;dsimp only at h;have hl:=w9 l;repeat (first|refine wv ?_|refine wf rfl rfl (qZ (id:=7001) (es2:=uL l) (m:=1) (bb:=4) wE rfl rfl rfl rfl rfl rfl rfl rfl rfl rfl rfl (wRJ l) rfl (by show 0+(uL l).length≤maxLen;simp only[maxLen];omega) (by show(0+(uL l).length)*4≤140737488355328;omega) rfl rfl rfl) ?_|refine wx ?_|refine wz ?_)
 exact⟨.inl rfl,_,rfl,rfl⟩
theorem wM5{α:Type}(xs:List α)(z:α)(j:Nat)(x:α)(h:xs[j]? = some x):(xs.take j++List.replicate (xs.length-j) z).set j x=xs.take (j+1)++List.replicate (xs.length-(j+1)) z:=by
 have hj:=(pI.1 h).1;apply mB;intro i;by_cases hij:j=i
 ·subst hij;rw[dE (by simp;omega),cE (by simp;omega),mQ,if_pos (by omega),h]
 ·rw[dQ hij];by_cases hlt:i<j
  ·rw[cE (by simp;omega),cE (by simp;omega),mQ,mQ,if_pos hlt,if_pos (by omega)]
  ·rw[mI (by simp;omega),mI (by simp;omega)];simp only[List.length_take,List.getElem?_replicate];rw[cQ (by omega),cQ (by omega)];by_cases h3:i-j<xs.length-j
   ·rw[if_pos h3,if_pos (by omega)]
   ·rw[if_neg h3,if_neg (by omega)]
theorem same3_v(z z':Z0)(h:okL z.2)(h':okL z'.2)(hl:z.2.length≤1099511627776):wG Tryz.prog 23 [.agg (qL z),.agg (qL z')] (fun y=>y=.bool (decide (z=z'))):=by
 refine wD wE Tryz.func23 rfl rfl rfl rfl fun w0=>?_;have q1:=same01_v z.2 z'.2 h h' (pD hl (by decide));obtain⟨b,l⟩:=z;obtain⟨b',l'⟩:=z';have e1:∀c:Bool,decide ((c,l)=(c,l'))=decide (l=l'):=fun c=>by simp
 cases b<;>cases b'
 ·rw[e1];repeat (first|refine wv ?_|refine wg rfl (kL wE rfl rfl rfl rfl (.inl ⟨rfl,rfl⟩) rfl) ?_|refine wc q1 ?_|refine wz ?_)
  exact⟨.inl rfl,_,rfl,rfl⟩
 ·repeat (first|refine wv ?_|refine wg rfl (kL wE rfl rfl rfl rfl (.inl ⟨rfl,rfl⟩) rfl) ?_|refine vD rfl rfl rfl rfl rfl rfl ?_|refine wz ?_)
  refine⟨.inl rfl,_,rfl,?_⟩;simp
 ·repeat (first|refine wv ?_|refine wg rfl (kL wE rfl rfl rfl rfl (.inl ⟨rfl,rfl⟩) rfl) ?_|refine vD rfl rfl rfl rfl rfl rfl ?_|refine wz ?_)
  refine⟨.inl rfl,_,rfl,?_⟩;simp
 ·rw[e1];repeat (first|refine wv ?_|refine wg rfl (kL wE rfl rfl rfl rfl (.inl ⟨rfl,rfl⟩) rfl) ?_|refine wc q1 ?_|refine wz ?_)
  exact⟨.inl rfl,_,rfl,rfl⟩
theorem wZ1(ys:List Nat)(x:Nat):uL (ys++[x])=uL ys++[[V.int .u32 (x:Nat)]]:=by simp[uL]
theorem wZ0(xs:List Nat)(k:Nat):(uL xs).take k=uL (xs.take k):=by simp[uL,List.map_take]
theorem uL_last(ys:List Nat)(x:Nat):(uL (ys++[x]))[ys.length]? = some [V.int .u32 (x:Nat)]:=by rw[wZ1,←w9 ys];simp
theorem wZ3(xs:List Nat)(hl:xs.length≤140737488355328):wG Tryz.prog 143 [vL xs] (fun y=>y=vL (qF xs)):=by
 refine wD wE Tryz.func143 rfl rfl rfl rfl fun w0=>?_;repeat (first|refine wv ?_|refine wz ?_)
 refine wP (fun ys:List Nat=>[jV 0 (vL ys)]) (fun ys=>ys.length≤xs.length∧qF ys=qF xs) (fun ys=>ys.length) xs (fun _=>rfl) ⟨pC _,rfl⟩ ⟨rfl,trivial⟩ fun ys hI=>?_;obtain⟨h1,h2⟩:=hI;have hu:=w9 ys;rcases List.eq_nil_or_concat ys with rfl|⟨zs,x,rfl⟩
 ·repeat (first|refine wg rfl (sL (w9 _)) ?_|refine wv ?_|refine wg rfl (jE rfl rfl rfl rfl (rfl) rfl) ?_|refine vD rfl rfl rfl rfl rfl rfl ?_|refine wz ?_)
  refine⟨.inl rfl,_,rfl,?_⟩;rw[←h2];rfl
 ·simp only[List.concat_eq_append]at *
  have hz:(zs++[x]).length=zs.length+1:=by simp
  by_cases hx:x=0
  ·subst hx;repeat (first|refine wg rfl (sL (w9 _)) ?_|refine wv ?_|refine wg rfl cT ?_|refine wg rfl sB ?_|refine wg rfl (wA0 wE rfl rfl rfl (i:=zs.length) (by omega) rfl rfl (uL_last zs 0) rfl rfl) ?_|refine wg rfl (wPD wE rfl rfl rfl (h:=zs.length) (by omega) rfl rfl (wRJ _) (by omega) (es':=uL zs) (by rw[wZ0];simp) rfl) ?_|refine wz ?_)
   refine⟨zs,⟨by omega,by rw[←h2,vX]⟩,by omega,rfl,trivial⟩
  ·repeat (first|refine wg rfl (sL (w9 _)) ?_|refine wv ?_|refine wg rfl cT ?_|refine wg rfl cF ?_|refine wg rfl sB ?_|refine wg rfl (wA0 wE rfl rfl rfl (i:=zs.length) (by omega) rfl rfl (uL_last zs x) rfl rfl) ?_|refine wz ?_)
   refine⟨.inl rfl,_,rfl,?_⟩;rw[←h2,wK7 _ _ hx]
theorem wK6(xs:List Nat)(i v:Nat):(uL xs).set i [V.int .u32 (v:Nat)]=uL (xs.set i v):=by simp[uL,List.map_set]
theorem wZ2(n:Nat):List.replicate n [V.int .u32 0]=uL (List.replicate n 0):=by simp[uL]
theorem short_step(x r d N B:Nat)(hd:0<d)(hr:r=N%d)(hB:0<B):(x+B*N)/d=(r*B+x)/d+B*(N/d)∧(x+B*N)%d=(r*B+x)%d:=by
 have h1:=cU N d;have e:x+B*N=(r*B+x)+d*(B*(N/d)):=by
  have:B*N=B*(d*(N/d))+B*(N%d):=by rw[←mE,h1]
  rw[this,hr,mL B (N%d),fX B d];omega
 rw[e,pE0 _ _ hd,pB2];exact⟨rfl,rfl⟩
theorem wM4(r x:Nat)(hx:x<4294967296):(r*2^32) ||| x=r*4294967296+x:=by rw[mL,←gX (i:=32) hx]
theorem wJI(out:List Nat)(k v:Nat)(h:k<out.length):wC ((out.set k v).drop k)=v+4294967296*wC (out.drop (k+1)):=by
 rw[wZ];have h1:(out.set k v).getD k 0=v:=by simp[List.getD,h]
 have h2:(out.set k v).drop (k+1)=out.drop (k+1):=by rw[pE8 (by omega)]
 rw[h1,h2]
theorem short_v(xs:List Nat)(d:Nat)(hx:okL xs)(hl:xs.length≤8796093022208)(hd0:0<d)(hd:d<4294967296):wG Tryz.prog 189 [vL xs,.int .u32 (d:Nat)] (fun y=>y=.tup [vN (wC xs/d),.int .u32 (wC xs%d:Nat)]):=by
 refine wD wE Tryz.func189 rfl rfl rfl rfl fun w0=>?_;have hu:=w9 xs;repeat (first|refine wg rfl (sL (w9 _)) ?_|refine wv ?_|refine wg rfl sB ?_|refine wg rfl (x8 (id:=7000) (m:=1) (bb:=4) wE rfl rfl rfl rfl rfl rfl rfl rfl rfl rfl (pC _) rfl (by omega) (by simp only[maxLen];omega) rfl rfl rfl (wZ2 _)) ?_|refine wz ?_)
 refine wP (fun b:Nat×Int×List Nat×Nat=>[jV 0 (vL xs),jV 2 (.int .u32 (d:Nat)),jO 12 1004 130 1 (uL b.2.2.1),jV 14 (.int .u64 (b.2.2.2:Nat)),jV 16 (.int .i64 b.2.1)])
  (fun b=>b.1≤xs.length∧b.2.1=(b.1:Int)-1∧b.2.2.1.length=xs.length∧okL b.2.2.1∧wC (xs.drop b.1)/d=wC (b.2.2.1.drop b.1)∧b.2.2.2=wC (xs.drop b.1)%d)
  (fun b=>b.1) (xs.length,(xs.length:Int)-1,List.replicate xs.length 0,0) (fun _=>rfl) ⟨pC _,rfl,by simp,fun x h=>by rw[(fA.1 h).2];decide,by simp[List.drop_of_length_le,wC],by simp[wC]⟩ ⟨rfl,rfl,⟨_,rfl⟩,rfl,rfl,trivial⟩ fun⟨j,i,out,rest⟩ hI=>?_
 obtain⟨h1,h2,h3,h4,h5,h6⟩:=hI;dsimp only at h1 h2 h3 h4 h5 h6 ⊢;have ho:=w9 out;have hro:rest<d:=by rw[h6];exact dI _ hd0
 rcases mO j with rfl|hj
 ·have hc:=wPH out h4 (by omega);have hov:Ev.ewrap .u32 (rest:Int)=(rest:Nat):=wGA (by omega) (by omega);repeat (first|refine wv ?_|refine wg rfl cF ?_|refine wg rfl (qN wE rfl rfl rfl rfl (wGA (by omega) (by omega)) rfl) ?_|refine wh (wPH out h4 (by omega)) ?_|refine wz ?_)
  refine⟨.inl rfl,_,rfl,?_⟩;simp only[List.drop_zero]at h5 h6;rw[h5,h6]
 ·obtain⟨k,rfl⟩:∃k,j=k+1:=⟨j-1,by omega⟩
  have hxk:=getD_lt xs hx k;have hg:=kC xs k (by omega);have hog:=kC out k (by omega);have hstep:=short_step (xs.getD k 0) rest d (wC (xs.drop (k+1))) 4294967296 hd0 h6 (by decide);rw[←wZ]at hstep;have hset:=wK6 out k;have hds:=wJI out k;generalize hxe:xs.getD k 0=x at *
  have hor:=wM4 rest x hxk;generalize ht:rest*4294967296+x=t at *
  have htl:t<d*4294967296:=by
   have:(rest+1)*4294967296≤d*4294967296:=mR _ hro
   omega
  have hq:t/d<4294967296:=pD9 htl;have hrl:=dI t hd0;generalize hqe:t/d=q at *
  generalize hre:t%d=r at *
  repeat (first|refine wv ?_|refine wg rfl cT ?_|refine wg rfl sB ?_|refine wg rfl (qN wE rfl rfl rfl rfl (jU (by omega) (by omega)) rfl) ?_|refine wg rfl (qN wE rfl rfl rfl rfl (wGA (by omega) (by omega)) rfl) ?_|refine wg rfl (xP (s:=32) rfl rfl rfl rfl (by decide) (by rw[ew64,mY (by omega)]) rfl) ?_|refine wg rfl (wA0 wE rfl rfl rfl (i:=k) (by omega) rfl rfl hg rfl rfl) ?_|refine wg rfl (kK rfl rfl rfl rfl (nOr64 hor (by omega) (by omega)) rfl) ?_|refine wg rfl (wD8 rfl rfl rfl (by omega) (nQuo64 hqe (by omega)) rfl) ?_|refine wg rfl (kD rfl rfl rfl (by omega) (nRem hre) rfl) ?_|refine wg rfl (zB wE rfl rfl rfl (i:=k) (by omega) rfl rfl (by omega) rfl rfl rfl) ?_|refine wg rfl (zH wE rfl rfl rfl hog rfl rfl rfl rfl (by decide) rfl (hset _)) ?_|refine wz ?_)
  refine⟨(k,_,out.set k q,r),⟨by omega,?_,by simp[h3],jX out k _ h4 hq,?_,?_⟩,by omega,rfl,rfl,⟨_,rfl⟩,rfl,rfl,trivial⟩
  ·dsimp only;omega
  ·rw[hds _ (by omega),hstep.1,h5]
  ·exact hstep.2.symm
theorem wKB(v:V):∀e∈[[v]],e.length=1:=by simp
def qS:List Nat→Nat→Nat→List Nat
 |[],_,c=>if c=0 then[]else[c]
 |x::xs,s,c=>(x*2^s%4294967296+c)::qS xs s (x*2^s/4294967296)
theorem wXB(xs:List Nat)(s c:Nat)(hs:s<32):wC (qS xs s c)=wC xs*2^s+c:=by
 induction xs generalizing c with
 |nil=>unfold qS;split<;>simp_all [wC]
 |cons x xs ih=>simp only[qS,wC,ih];have:=cU (x*2^s) 4294967296;rw[cV,mJ 4294967296,mE];omega
theorem qEF(xs:List Nat)(s c:Nat)(hs:s<32)(hx:okL xs)(hc:c<2^s):okL (qS xs s c):=by
 have hp:2^s≤2^31:=mT (by decide) (by omega)
 induction xs generalizing c with
 |nil=>
  unfold qS;split
  ·intro x h;simp at h
  ·intro x h;simp at h;omega
 |cons x xs ih=>
  have h3:=left_step 0 0 c 0 x s (by simp) hc hs;intro y hy;simp only[qS,List.mem_cons]at hy;rcases hy with rfl|hy
  ·exact h3.2.1
  ·exact ih _ (fun z hz=>hx z (pZ _ hz)) (h3.2.2 (hx x (pT ..))) y hy
theorem wOH(xs:List Nat)(s c:Nat):xs.length≤(qS xs s c).length∧(qS xs s c).length≤xs.length+1:=by
 induction xs generalizing c with
 |nil=>unfold qS;split<;>simp
 |cons x xs ih=>simp only[qS,List.length_cons];have:=ih (x*2^s/4294967296);omega
theorem left_v(xs:List Nat)(s:Nat)(hx:okL xs)(hl:xs.length≤8796093022208)(hs:s<32):wC8 Tryz.prog 204 [vL xs,.int .i64 (s:Nat)] 130 1 (uL (qS (qF xs) s 0)):=by
 refine wCC (t:=4) Tryz.func204 rfl rfl rfl rfl fun w0=>?_;have hq:Ev.ewrap .i64 ((s:Int).tdiv 32)=0:=by
  have:(s:Int).tdiv 32=0:=by rw[pA4 (by omega)];omega
  rw[this];rfl
 have hr:(s:Int).tmod 32=(s:Nat):=by rw[pA5 (by omega)];omega
 have htl:=zQ xs;repeat (first|refine wg rfl (sL (w9 _)) ?_|refine wv ?_|refine wg rfl sB ?_|refine wc (wZ3 xs (by omega)) ?_|refine wg rfl (wD8 rfl rfl rfl (by decide) hq rfl) ?_|refine wg rfl (x8 (id:=7000) (m:=1) (bb:=4) (l:=0) (c:=(qF xs).length+3) wE rfl rfl rfl rfl (by omega) rfl rfl rfl rfl rfl (by omega) rfl (by omega) (by simp only[maxLen];omega) rfl rfl rfl (es':=uL []) rfl) ?_|refine wz ?_)
 refine wP (fun b:Nat×List Nat×Nat=>[jV 0 (vL (qF xs)),jI 2 s,jO 10 2011 130 1 (uL b.2.1),jV 12 (.int .u32 (b.2.2:Nat)),jV 40 (vL (qF xs)),jI 42 ((qF xs).length),jI 44 (b.1)])
  (fun b=>b.1≤(qF xs).length∧b.2.1.length=b.1∧b.2.2<2^s∧qS (qF xs) s 0=b.2.1++qS ((qF xs).drop b.1) s b.2.2)
  (fun b=>(qF xs).length-b.1) (0,[],0) (fun _=>rfl) ⟨pN _,rfl,cX (by decide),by simp⟩ ⟨rfl,rfl,⟨_,rfl⟩,rfl,rfl,rfl,rfl,trivial⟩ fun⟨j,out,c⟩ hI=>?_
 obtain⟨h1,h2,h3,h4⟩:=hI;dsimp only at h1 h2 h3 h4 ⊢;have ho:=w9 out;have hp:2^s≤2147483648:=(mT (by decide) (show s≤31 by omega):2^s≤2^31)
 rcases pK j (qF xs).length with hj|hj
 ·have hxk:=getD_lt (qF xs) (fun x h=>hx x (wO8 xs x h)) j;have hg:=kC (qF xs) j hj;have hstep:=left_step 0 0 c 0 ((qF xs).getD j 0) s (by simp) h3 hs;have hor:=or_low ((qF xs).getD j 0) s c hs h3;have hd:(qF xs).drop j=(qF xs).getD j 0::(qF xs).drop (j+1):=by
   rw[bM hj];simp[List.getD,hj]
  rw[hd]at h4;simp only[qS]at h4;generalize (qF xs).getD j 0=x at *
  have hm:x*2^s≤x*2147483648:=mK _ hp;have hl3:=hstep.2.2 hxk;obtain⟨pr,hpe⟩:∃pr,x*2^s=pr:=⟨_,rfl⟩
  rw[hpe]at hm hl3 hor h4;have hor2:ewrap .u32 ((BitVec.ofInt IntKind.u32.bits ((pr%4294967296:Nat):Int) ||| BitVec.ofInt IntKind.u32.bits (c:Int)).toNat:Int)=((pr%4294967296+c:Nat):Int):=nOr32 hor (by omega) (by omega);have hsn:=wZ1 out (pr%4294967296+c);have hqd:pr/2^32=pr/4294967296:=rfl;have h32:ewrap .u32 ((pr/4294967296:Nat):Int)=((pr/4294967296:Nat):Int):=wGA (by omega) (by omega);repeat (first|refine wv ?_|refine wg rfl cT ?_|refine wg rfl sB ?_|refine wg rfl (qN wE rfl rfl rfl rfl (jU (by omega) (by omega)) rfl) ?_|refine wg rfl (qN wE rfl rfl rfl rfl (wGA (by omega) (by omega)) rfl) ?_|refine wg rfl (wA0 wE rfl rfl rfl (i:=j) (by omega) rfl rfl hg rfl rfl) ?_|refine wg rfl (kD rfl rfl rfl (by decide) hr rfl) ?_|refine wg rfl (xP (s:=s) (r:=pr%4294967296) rfl rfl rfl rfl (by simp only[IntKind.bits];omega) (by rw[hpe,ew32]) rfl) ?_|refine wg rfl (xP (s:=s) (r:=pr) rfl rfl rfl rfl (by simp only[IntKind.bits];omega) (by rw[hpe,ew64,mY (by omega)]) rfl) ?_|refine wg rfl (kK rfl rfl rfl rfl hor2 rfl) ?_|refine wg rfl (yS (s:=32) rfl rfl rfl rfl (by decide) hqd rfl) ?_|refine wf rfl rfl (qZ (id:=7001) (es2:=[[_]]) (m:=1) (bb:=4) wE rfl rfl rfl rfl rfl rfl rfl rfl rfl rfl rfl (wKB _) rfl (by simp only[maxLen];simp;omega) (by simp;omega) rfl rfl hsn.symm) ?_|refine wz ?_)
  refine⟨(j+1,out++[pr%4294967296+c],pr/4294967296),⟨hj,by simp[h2],hl3,by rw[h4];simp⟩,by dsimp only;omega,rfl,rfl,⟨_,rfl⟩,rfl,rfl,rfl,rfl,trivial⟩
 ·have hd:(qF xs).drop j=[]:=mA hj;rw[hd]at h4;have hcb:c<2147483648:=by omega
  rcases mO c with rfl|hc
  ·simp only[qS,if_true,List.append_nil]at h4;repeat (first|refine wv ?_|refine wg rfl cF ?_|refine wg rfl nF ?_|refine wz ?_)
   exact⟨.inl rfl,5,_,by rw[h4];rfl⟩
  ·have hc0:c≠0:=by omega
   simp only[qS,if_neg hc0]at h4;have hsn:=wZ1 out c;repeat (first|refine wv ?_|refine wg rfl cF ?_|refine wg rfl nT ?_|refine wf rfl rfl (qZ (id:=7001) (es2:=[[_]]) (m:=1) (bb:=4) wE rfl rfl rfl rfl rfl rfl rfl rfl rfl rfl rfl (wKB _) rfl (by simp only[maxLen];simp;omega) (by simp;omega) rfl rfl hsn.symm) ?_|refine wz ?_)
   exact⟨.inl rfl,5,_,by rw[h4];rfl⟩
end Go.Proofs.YtdcjmnfngabhoaaGreat
