/- simileref02's value, all, signed, FromBase, Int: what texts say. -/
import Derived.Test.YtmkgenngokjbiaaGreatDoorCd10
import Derived.Deep.DeepCutAuto
import Derived.Deep.CutBlock
import Derived.Defers
import Derived.Recover
import Derived.Lib.RuneBytes
import Derived.Deep.RegionLaw
set_option linter.all false
set_option maxRecDepth 20000
set_option maxHeartbeats 6400000
namespace Go.Proofs.YtmkgenngokjbiaaGreatDoor
open Go.RowKit
theorem wQH(r:Nat):(∃d,r=d+48∧0≤d∧d<10∧wU r=d)∨(∃d,r=d+87∧10≤d∧d<36∧wU r=d)∨(∃d,r=d+55∧10≤d∧d<36∧wU r=d) ∨
  ((r<48∨57<r)∧(r<97∨122<r)∧(r<65∨90<r)∧wU r=99):=by
 unfold wU zY;simp only[Bool.and_eq_true,decide_eq_true_eq];by_cases h1:48≤r∧r≤57
 ·rw[if_pos h1];exact .inl ⟨r-48,by omega,by omega,by omega,rfl⟩
 ·rw[if_neg h1];by_cases h2:97≤r∧r≤122
  ·rw[if_pos h2];exact .inr (.inl ⟨r-87,by omega,by omega,by omega,rfl⟩)
  ·rw[if_neg h2];by_cases h3:65≤r∧r≤90
   ·rw[if_pos h3];exact .inr (.inr (.inl ⟨r-55,by omega,by omega,by omega,rfl⟩))
   ·rw[if_neg h3];exact .inr (.inr (.inr ⟨by omega,by omega,by omega,rfl⟩))
theorem qIJ(b:Nat):∀(ds:List Nat)(acc:Nat),(∀d,d∈ds→d<b)→ds.foldl (fun n d=>n*b+d) acc<(acc+1)*b^ds.length
 |[],acc,_=>by simp
 |d::ds,acc,h=>by have ih:=qIJ b ds (acc*b+d) fun x hx=>h x (pO _ hx);have hd:=h d (pQ ..);simp only[List.foldl_cons,List.length_cons,Nat.pow_succ];have h1:(acc*b+d+1)*b^ds.length≤((acc+1)*b)*b^ds.length:=mM _ (by rw[mY];omega);rw[mC,mH b]at h1;exact pT ih h1
theorem qHC(b:Nat)(ds:List Nat)(h:∀d,d∈ds→d<b):wS b ds<b^ds.length:=by have:=qIJ b ds 0 h;simpa[wS]using this
theorem worth_int(r:Nat):(48≤r∧r≤57∧zY r=true∧(if wU r=99 then(-1:Int)else(wU r:Nat))=(r:Int)-48) ∨
  (97≤r∧r≤122∧zY r=false∧(if wU r=99 then(-1:Int)else(wU r:Nat))=(r:Int)-97+10) ∨
  (65≤r∧r≤90∧zY r=false∧(if wU r=99 then(-1:Int)else(wU r:Nat))=(r:Int)-65+10) ∨
  ((r<48∨57<r)∧(r<97∨122<r)∧(r<65∨90<r)∧zY r=false∧(if wU r=99 then(-1:Int)else(wU r:Nat)) = -1):=by
 have hf:∀r,(r<48∨57<r)→zY r=false:=by
  intro r h;rcases gZ (zY r)with h1|h1
  ·simp[zY]at h1;omega
  ·exact h1
 rcases wQH r with⟨d,rfl,h1,h2,h3⟩|⟨d,rfl,h1,h2,h3⟩|⟨d,rfl,h1,h2,h3⟩|⟨h1,h2,h3,h4⟩
 ·exact .inl ⟨by omega,by omega,by simp[zY]<;>omega,by rw[h3,if_neg (by omega)];omega⟩
 ·exact .inr (.inl ⟨by omega,by omega,hf _ (by omega),by rw[h3,if_neg (by omega)];omega⟩)
 ·exact .inr (.inr (.inl ⟨by omega,by omega,hf _ (by omega),by rw[h3,if_neg (by omega)];omega⟩))
 ·exact .inr (.inr (.inr ⟨h1,h2,h3,hf _ h1,by rw[h4,if_pos rfl]⟩))
theorem wFB(b:Nat)(ds:List Nat)(hb:b≤36)(h:∀d,d∈ds→d<b):(toL (wS b ds)).length≤ds.length:=by refine zC _ _ (pT (qHC b ds h) (Nat.pow_le_pow_left (by omega) _))
def wH3(b:Nat)(L:List Nat):Prop:=∀r,r∈L→wU r<b
theorem wAJ(L:List Nat)(k r:Nat)(hk:k<L.length)(h:L.getD k 0=r):r∈L:=by rw[←h];exact wW7 L k hk
theorem wH9(lo h1:Nat)(v:Value)(L:List Nat)(b:Nat)(w:World)(h:zA .i32 lo h1 w v L)(hl:L.length≤1000000000)(hrl:∀r,r∈L→r<2097152)(hbb:2≤b)(hb36:b≤36) :
  Calls Tryz.prog 67 #[v,.int .i64 (b:Nat)] w fun e w'=>Below w.heap.size w w' ∧
   ((wH3 b L∧∃q,e=.returned (.tuple #[q,.bool (decide (0<L.length))])∧wG w.heap.size w'.heap.size w' q (toL (wS b (L.map wU)))) ∨
    (¬wH3 b L∧e=.returned (.tuple #[.slice none 0 0,.bool false]))):=by
 obtain⟨ad,cap,rfl,hc,hcell⟩:=h.open;have HC:=hid hcell;have HRL:=hid hrl;clear hcell h hrl
 go_enter Tryz.func67,Tryz.ntmps67
 go_wp2
 go_loopg [6,12] L.length (fun gk nv t wr=>∃k:Nat,gk=L.length-k∧t=.int .i64 k∧k≤L.length∧Below w.heap.size w wr∧(∀r,r∈L.take k→wU r<b)∧wG w.heap.size wr.heap.size wr nv (toL (wS b ((L.take k).map wU))))
 case atStart=>exact⟨0,rfl,rfl,pG _,Below.refl _ _,by simp,by simp[wS,wT,wG.nil]⟩
 case round=>
  obtain⟨k,hgk,rfl,hk,hbel,hok,hL⟩:=hrel;have HOK:=hid hok;have HGK:=hid hgk;clear hok hgk;by_cases hkl:k<L.length
  ·obtain⟨bb,off,rfl,_,_,hc1⟩:=HC.out k hkl;obtain⟨r,hr⟩:∃r,L.getD k 0=r:=⟨_,rfl⟩
   rw[hr]at hc1;have hrb:=HRL.out r (wAJ L k r hkl hr);have hcr:=wH0 hbel hc1 (pC _);have HR:=hid hr;have f1:(k:Int)<(L.length:Int):=by omega
   have hdl:(toL (wS b ((L.take k).map wU))).length≤1000000000:=by refine pD (wFB b _ hb36 ?_) (by simp;omega);intro d hd;obtain⟨r',hr',rfl⟩:=pR.1 hd;exact HOK.out r' hr'
   have hdig:=digit_any r wr;obtain⟨N,hN⟩:∃N,wS b ((L.take k).map wU)=N:=⟨_,rfl⟩
   rw[hN]at hL hdl;have HN:=hid hN;have HDIG:=hid hdig;clear hc1 hr hN hdig
   have hadd:∀d,d<b→wU r=d→wB (toL N)*wB (toL b)+wB (toL d)=wS b ((L.take (k+1)).map wU)∧(∀r,r∈L.take (k+1)→wU r<b):=by
    intro d hd hw;refine⟨?_,?_⟩
    ·rw[wI,wI,wI,qY L 0 k hkl,bQ,mE,fY,wK6,HN.out,HR.out,hw]
    ·intro r' hr';rw[qY L 0 k hkl,cB]at hr';rcases hr' with h|h
     ·exact HOK.out r' h
     ·simp only[List.mem_singleton]at h;rw[h,HR.out,hw];exact hd
   have hbad:b≤wU r→¬wH3 b L:=by intro hb h;have:=h r (wAJ L k r hkl HR.out);omega
   have HADD:=hid hadd;have HBAD:=hid hbad;clear hadd hbad
   go_upto_block 2 with(fail)
   go_cut [9] (fun dv w'=>w'=wr∧dv=.int .i64 (if wU r=99 then -1 else(wU r:Nat)))
   case first=>
    rcases worth_int r with⟨hn1,hn2,hdg,hwi⟩|⟨hn1,hn2,hdg,hwi⟩|⟨hn1,hn2,hdg,hwi⟩|⟨hn1,hn2,hn3,hdg,hwi⟩
    case inr.inr.inr=>
     rw[hdg]at HDIG;have HWI:=hid hwi;clear hdg hwi HADD HBAD
     go_wp2_with fail
     refine HDIG.out.mono ?_;rintro e w' ⟨rfl,rfl⟩;rcases hn2 with hn2|hn2<;>rcases hn3 with hn3|hn3;all_goals first
      |(exfalso;omega)
      | (go_wp2
         go_meet
         case rel=>exact⟨rfl,by rw[HWI.out]⟩)
    all_goals
     rw[hdg]at HDIG;have HWI:=hid hwi;clear hdg hwi HADD HBAD
     go_wp2_with fail
     refine HDIG.out.mono ?_;rintro e w' ⟨rfl,rfl⟩
     go_wp2
     go_meet
     case rel=>exact⟨rfl,by rw[HWI.out]⟩
   case rest=>
    obtain⟨rfl,hdv⟩:=hcut;obtain⟨d,hd⟩:∃d,wU r=d:=⟨_,rfl⟩
    rw[hd]at hdv;by_cases hdb:d<b
    ·obtain⟨hval,hok2⟩:=HADD.out d hdb hd;rw[if_neg (by omega)]at hdv;subst hdv;have HVAL:=hid hval;have HOK2:=hid hok2;have hq1:=hid (wV9 b wc (by omega));clear hval hok2 hd HADD HBAD
     go_wp2_with fail
     refine hq1.out.mono ?_;rintro e w1 ⟨r1,rfl,hr1,hb1⟩;have q2:=qA7 _ _ _ _ _ _ _ _ w1 (hL.below hb1 (pC _)) hr1 (pC _) (by omega) (pD (zC b 1 (by omega)) (by omega));have Q2:=hid q2;clear q2
     go_wp2_with fail
     refine Q2.out.mono ?_;rintro e w2 ⟨r2,rfl,hr2,hb2⟩;have Q3:=hid (wV9 d w2 (by omega))
     go_wp2_with fail
     refine Q3.out.mono ?_;rintro e w3 ⟨r3,rfl,hr3,hb3⟩;have hml:(toL (wB (toL N)*wB (toL b))).length≤17592186044416:=by rw[wI,wI];refine pD (zC _ ((toL N).length+1) ?_) (by omega);rw[mS];have h1:=qP (toL N) (qL N);rw[wI]at h1;exact bY h1 (by omega)
     have q4:=wQE _ _ _ _ _ _ _ _ w3 (hr2.below hb3 (pC _)) hr3 hb3.size (pC _) hml (pD (zC d 1 (by omega)) (by omega));rw[wI (wB (toL N)*wB (toL b)),HVAL.out]at q4;have Q4:=hid q4;clear q4 hml
     go_wp2_with fail
     refine Q4.out.mono ?_;rintro e w4 ⟨r4,rfl,hr4,hb4⟩;have hA:=hb1.trans ((hb2.mono hb1.size).trans ((hb3.mono (pD hb1.size hb2.size)).trans (hb4.mono (pD hb1.size (pD hb2.size hb3.size)))));have hA2:=hbel.trans (hA.mono hbel.size);have hsz:=pD hbel.size (pD hb1.size (pD hb2.size hb3.size))
     go_wp2
     go_roundg (L.length-(k+1))
     case measure=>have:=HGK.out;omega
     case rel=>exact⟨k+1,rfl,by go_num,by omega,hA2,HOK2.out,hr4.wide hsz (pC _)⟩
    ·have HB:=hid (HBAD.out (by omega));by_cases h99:d=99
     ·rw[if_pos h99]at hdv;subst hdv;clear hd HADD HBAD
      go_wp2
      go_ret2
      exact⟨hbel,.inr ⟨HB.out,rfl⟩⟩
     ·rw[if_neg h99]at hdv;subst hdv;clear hd HADD HBAD
      go_wp2
      go_ret2
      exact⟨hbel,.inr ⟨HB.out,rfl⟩⟩
  ·obtain rfl:k=L.length:=by omega
   rw[pZ]at HOK hL
   go_wp2
   go_ret2
   exact⟨hbel,.inl ⟨HOK.out,_,rfl,hL⟩⟩
theorem qBA(lo h1:Nat)(v:Value)(L:List Nat)(b:Nat)(w:World)(h:zA .i32 lo h1 w v L)(hl:L.length≤1000000000)(hrl:∀r,r∈L→r<2097152)(hbb:2≤b)(hb36:b≤36) :
  Calls Tryz.prog 66 #[v,.int .i64 (b:Nat)] w fun e w'=>Below w.heap.size w w'∧((wH3 b L∧e=.returned (.bool (decide (0<L.length))))∨(¬wH3 b L∧e=.returned (.bool false))):=by
 obtain⟨ad,cap,rfl,hc,hcell⟩:=h.open;have HC:=hid hcell;have HRL:=hid hrl;clear hcell h hrl
 go_enter Tryz.func66,Tryz.ntmps66
 go_wp2
 go_loopw [11] (fun t wr=>∃k:Nat,t=.int .i64 k∧k≤L.length∧Below w.heap.size w wr∧(∀r,r∈L.take k→wU r<b)) (fun t _=>L.length-(RowKit.intOf t).toNat)
 case atStart=>exact⟨0,rfl,pG _,Below.refl _ _,by simp⟩
 case round=>
  obtain⟨k,rfl,hk,hbel,hok⟩:=hrel;have HOK:=hid hok;clear hok;by_cases hkl:k<L.length
  ·obtain⟨bb,off,rfl,_,_,hc1⟩:=HC.out k hkl;obtain⟨r,hr⟩:∃r,L.getD k 0=r:=⟨_,rfl⟩
   rw[hr]at hc1;have hrb:=HRL.out r (wAJ L k r hkl hr);have hcr:=wH0 hbel hc1 (pC _);have HR:=hid hr;have f1:(k:Int)<(L.length:Int):=by omega
   have hown:(wr.alloc (.cells #[.int .i32 (r:Nat)] 21)).ownsRow wr.heap.size 21 1 (.slice (some ⟨wr.heap.size,0,none⟩) 1 1) 1 (zS .i32 [r]):=
    World.ownsRow_lit wr _ 1 (pC _) (by decide) rfl
   have hb1:Below w.heap.size w (wr.alloc (.cells #[.int .i32 (r:Nat)] 21)):=hbel.alloc hbel.size _;have q1:=wH9 _ _ _ [r] b _ (zA.ofOwn hown) (by simp) (by intro x hx;simp at hx;rw[hx];exact hrb) hbb hb36;have Q1:=hid q1;clear hc1 hr q1 hown
   go_wp2_with fail
   refine Q1.out.mono ?_;rintro e w2 ⟨hb2,hq⟩;have hbel2:=hb1.trans (hb2.mono hb1.size);rcases hq with⟨hq1,q,rfl,hq2⟩|⟨hq1,rfl⟩
   ·have h1:wU r<b:=hq1 r (by simp);have hok2:∀r,r∈L.take (k+1)→wU r<b:=by
     intro r' hr';rw[qY L 0 k hkl,cB]at hr';rcases hr' with h|h
     ·exact HOK.out r' h
     ·simp only[List.mem_singleton]at h;rw[h,HR.out];exact h1
    have HOK2:=hid hok2;clear hok2 hq1 hq2 hb2 Q1
    go_wp2
    exact⟨⟨k+1,by go_num,by omega,hbel2,HOK2.out⟩,by simp[RowKit.intOf];omega⟩
   ·have hbad:¬wH3 b L:=by
     intro h;refine hq1 ?_;intro x hx;simp at hx;rw[hx];exact h r (wAJ L k r hkl HR.out)
    have HBAD:=hid hbad;clear hbad hq1 hb2 Q1
    go_wp2
    go_ret
    exact⟨hbel2,.inr ⟨HBAD.out,rfl⟩⟩
  ·obtain rfl:k=L.length:=by omega
   rw[pZ]at HOK
   go_wp2
   go_ret
   exact⟨hbel,.inl ⟨HOK.out,by simp⟩⟩
def kR(L:List Nat):Bool:=match L with|[]=>false|r::_=>zI r
theorem qCA(lo h1:Nat)(v:Value)(L:List Nat)(w:World)(h:zA .i32 lo h1 w v L)(hl:L.length≤1000000000) :
  Calls Tryz.prog 65 #[v] w fun e w'=>w=w'∧∃r,e=.returned (.tuple #[r,.bool (kR L)])∧zA .i32 lo h1 w r (if kR L then L.tail else L):=by
 have h0:=h;cases L with
 |nil=>
  obtain⟨ad,cap,rfl,hc,hcell⟩:=h.open;clear hcell
  go_enter Tryz.func65,Tryz.ntmps65
  go_wp2
  go_ret2
  exact⟨rfl,_,rfl,h0⟩
 | cons r L=>
  obtain⟨ad,cap,rfl,hc,hcell⟩:=h.open;obtain⟨b,off,rfl,_,_,hc0⟩:=hcell 0 (by simp);simp only[List.getD_cons_zero,Nat.add_zero]at hc0;have q1:=minus_any r w;have Q1:=hid q1;have ht:=h0.tail;have hn:kR (r::L)=zI r:=rfl;rw[hn];clear hcell q1 hn;obtain⟨z,hz⟩:∃z,zI r=z:=⟨_,rfl⟩
  rw[hz]at Q1 ⊢;clear hz;simp only[List.length_cons]at hc hl
  go_enter Tryz.func65,Tryz.ntmps65
  go_wp2_with fail
  refine Q1.out.mono ?_;rintro e w' ⟨rfl,rfl⟩;cases z
  ·go_wp2
   go_ret2
   exact⟨rfl,_,rfl,h0⟩
  ·by_cases hc1:cap=1
   ·rw[if_pos hc1]at ht;subst hc1;obtain rfl:L=[]:=pN (by omega)
    go_wp2
    go_ret2
    exact⟨rfl,_,rfl,ht⟩
   ·rw[if_neg hc1]at ht
    go_wp2
    go_ret2
    exact⟨rfl,_,rfl,ht⟩
theorem allOk_iff(b:Nat)(L:List Nat):wH3 b L↔L.all (fun r=>decide (wU r<b))=true:=by simp[wH3]
def body(L:List Nat):List Nat:=if kR L then L.tail else L
theorem elemU32:Elem Tryz.prog 22 66 (.int .u32 0) 1 4:=
 ⟨Tryz.underlying22,by kernel_rfl,rfl,by decide⟩
theorem wLA{w:World}{g:Nat}{T:TypeId}{cs:List Value}(h:wO w g T cs){k:Nat}{s:ByteArray}{pos:Nat}(hk:w.heap[k]? = some (.stringIter s pos))(pos':Nat):wO (w.iterAt k s pos') g T cs:=by refine h.keep (Lib.iterAt_other w k g s pos' ?_);intro e;subst e;unfold wO at h;rw[hk]at h;cases h
theorem qE1(r:Nat):(kindOf r=2)↔zI r=true:=by
 unfold kindOf;constructor
 ·intro h;cases hm:zI r
  ·rw[hm]at h
   repeat' split at h
   all_goals simp_all
  ·rfl
 ·intro h;rw[if_pos h]
theorem jP(w:World)(row:Option Nat):w.grownBy w row:=⟨rfl,rfl,rfl,pC _,fun _ _ _=>rfl⟩
theorem jL{a b c:World}{row:Option Nat}(h:a.grownBy b row)(k:b.grownBy c row):a.grownBy c row:=
 ⟨k.os.trans h.os,k.tape.trans h.tape,k.output.trans h.output,pD h.size k.size,fun i hi hr=>(k.block i (pT hi h.size) hr).trans (h.block i hi hr)⟩
theorem qID{a b:World}{row:Option Nat}(h:Below a.heap.size a b):a.grownBy b row:=⟨h.os,h.tape,h.output,h.size,fun i hi _=>h.block i hi⟩
theorem xR(w:World)(p:Addr)(v:Value):w.grownBy (w.setCell p v) (some p.block):=
 ⟨rfl,rfl,rfl,by simp[World.setCell],fun i _ hr=>Below.heap_setCell _ _ _ _ (fun e=>hr (by rw[e]))⟩
theorem below_grown{B:Nat}{a w w':World}{g:Nat}(h:Below B a w)(hg:w.grownBy w' (some g))(hB:B≤w.heap.size)(hr:B≤g):Below B a w':=
 h.grown hg hB (fun k hk=>by cases hk;exact hr)
theorem wI8{lo hi g:Nat}{w w':World}{v:Value}{xs:List Nat}(h:wG lo hi w v xs)(hg:w.grownBy w' (some g))(h1:hi≤g∨g<lo)(h2:hi≤w.heap.size):wG lo hi w' v xs:=
 h.keep fun b _ _=>hg.block b (by omega) (fun e=>by cases e;omega)
theorem jZ{g g':Nat}{w w':World}{T:TypeId}{cs:List Value}(h:wO w g T cs)(hg:w.grownBy w' (some g'))(hne:g≠g'):wO w' g T cs:=
 h.keep (hg.block g h.lt (fun e=>by cases e;exact hne rfl))
def qV(L:List Nat):Bool:=L.all fun r=>r==48
theorem zeros_any(lo hi:Nat)(v:Value)(L:List Nat)(w:World)(h:zA .i32 lo hi w v L)(hl:L.length≤1000000000)(hrl:∀r,r∈L→r<2097152) :
  Calls Tryz.prog 130 #[v] w fun e w'=>e=.returned (.bool (qV L))∧w'=w:=by
 obtain⟨ad,cap,rfl,hc,hcell⟩:=h.open;have HC:=hid hcell;have HRL:=hid hrl;clear hcell h hrl
 go_enter Tryz.func130,Tryz.ntmps130
 go_wp2
 go_loopw [7] (fun t wr=>∃k:Nat,t=.int .i64 k∧k≤L.length∧wr=w∧(∀r,r∈L.take k→r=48)) (fun t _=>L.length-(RowKit.intOf t).toNat)
 case atStart=>exact⟨0,rfl,pG _,by simp,by simp⟩
 case round=>
  obtain⟨k,rfl,hk,rfl,hok⟩:=hrel;have HOK:=hid hok;clear hok;by_cases hkl:k<L.length
  ·obtain⟨bb,off,rfl,_,_,hc1⟩:=HC.out k hkl;obtain⟨r,hr⟩:∃r,L.getD k 0=r:=⟨_,rfl⟩
   rw[hr]at hc1;have hrb:=HRL.out r (wAJ L k r hkl hr);have HR:=hid hr;have f1:(k:Int)<(L.length:Int):=by omega
   clear hr;by_cases h48:r=48
   ·subst h48;have hok2:∀r,r∈L.take (k+1)→r=48:=by
     intro r' hr';rw[qY L 0 k hkl,cB]at hr';rcases hr' with h|h
     ·exact HOK.out r' h
     ·simp only[List.mem_singleton]at h;rw[h,HR.out]
    have HOK2:=hid hok2;clear hok2
    go_wp2
    exact⟨⟨k+1,by go_num,by omega,trivial,HOK2.out⟩,by simp[RowKit.intOf];omega⟩
   ·have hbad:qV L=false:=by
     unfold qV;rw[List.all_eq_false];exact⟨r,wAJ L k r hkl HR.out,by simpa using h48⟩
    have HBAD:=hid hbad;have h48b:(((r:Nat):Int) != 48)=true:=by simp;omega
    clear hbad
    go_wp2
    go_ret
    exact⟨by rw[HBAD.out];rfl,rfl⟩
  ·obtain rfl:k=L.length:=by omega
   rw[pZ]at HOK;have hgood:qV L=true:=by unfold qV;rw[mD];intro r hr;simpa using HOK.out r hr
   have HG:=hid hgood;clear hgood
   go_wp2
   go_ret
   exact⟨by rw[HG.out];rfl,rfl⟩
def ahead(k:Nat)(L:List Nat):Bool:=match L with|[]=>false|r::_=>kindOf r==k
def behind(k:Nat)(L:List Nat):List Nat:=if ahead k L then L.tail else L
theorem qHH(g lo hi:Nat)(v d:Value)(L:List Nat)(k:Nat)(w:World)(hb:wO w g 185 [v,d])(h:zA .i32 lo hi w v L)(hg:hi≤g)(hl:L.length≤1000000000)(hk:k≤6) :
  Calls Tryz.prog 129 #[.pointer (some ⟨g,0,none⟩),.int .i64 (k:Nat)] w fun e w'=>
   e=.returned (.bool (ahead k L))∧∃v',wO w' g 185 [v',d]∧zA .i32 lo hi w' v' (behind k L)∧w.grownBy w' (some g):=by
 obtain⟨d0,d1,g0,g1⟩:=hb.two;have HB:=hid hb;have HH:=hid h;cases L with
 |nil=>
  obtain⟨ad,cap,rfl,hc,hcell⟩:=h.open;clear hcell h hb
  go_enter Tryz.func129,Tryz.ntmps129
  go_wp2
  go_ret
  exact⟨rfl,_,HB.out,HH.out,jP _ _⟩
 | cons r L=>
  obtain⟨ad,cap,rfl,hc,hcell⟩:=h.open;obtain⟨b,off,rfl,_,_,hc0⟩:=hcell 0 (by simp);simp only[List.getD_cons_zero,Nat.add_zero]at hc0;have Q1:=hid (wMA r w);have HT:=hid h.tail;have hn:ahead k (r::L)=(kindOf r==k):=rfl;have hbe:behind k (r::L)=if(kindOf r==k)then L else r::L:=rfl
  rw[hn,hbe];clear hcell hn hbe h hb;obtain⟨z,hz⟩:∃z,kindOf r=z:=⟨_,rfl⟩
  rw[hz]at Q1 ⊢;clear hz;simp only[List.length_cons]at hc hl;obtain⟨t,ht⟩:∃t,(z==k)=t:=⟨_,rfl⟩
  rw[ht];have HTT:=hid ht;clear ht
  go_enter Tryz.func129,Tryz.ntmps129
  go_wp2_with fail
  refine Q1.out.mono ?_;rintro e w' ⟨rfl,rfl⟩;cases t
  ·have hzi:(((z:Nat):Int)==((k:Nat):Int))=false:=by
    have:=HTT.out;simp at this ⊢;omega
   clear HT
   go_wp2
   go_ret
   exact⟨rfl,_,HB.out,HH.out,jP _ _⟩
  ·obtain rfl:z=k:=by simpa using HTT.out
   by_cases hc1:cap=1
   ·rw[if_pos hc1]at HT;subst hc1;obtain rfl:L=[]:=pN (by omega)
    go_wp2
    all_goals
     go_ret
     exact⟨rfl,_,HB.out.set 0 _,HT.out.set _ _ (.inr hg),xR _ _ _⟩
   ·rw[if_neg hc1]at HT
    go_wp2
    all_goals
     go_ret
     exact⟨rfl,_,HB.out.set 0 _,HT.out.set _ _ (.inr hg),xR _ _ _⟩
def wAD(r:Nat):Bool:=kindOf r==1
def jK(L:List Nat):List Nat:=L.takeWhile wAD
def past(L:List Nat):List Nat:=L.dropWhile wAD
theorem wO2(r:Nat):wAD r=true↔48≤r∧r≤57:=by
 unfold wAD kindOf zI jW x8 zY;constructor
 ·intro h
  repeat' split at h
  all_goals simp_all
 ·intro h;have h1:∀k,(k<48∨57<k)→(r==k)=false:=by intro k hk;simp;omega
  simp only[h1 45 (by omega),h1 8722 (by omega),h1 47 (by omega),h1 8260 (by omega),h1 8725 (by omega),h1 32 (by omega),h1 9 (by omega),h1 160 (by omega),h1 8201 (by omega),Bool.or_self,Bool.false_eq_true,if_false];rw[if_neg (by omega),if_neg (by omega)];simp[h]
theorem wDA(r:Nat)(h:wAD r=true):wU r=r-48∧wU r<10:=by
 rw[wO2]at h;have hd:zY r=true:=by simp[zY,h]
 unfold wU;rw[if_pos hd];omega
theorem digs_split(L:List Nat)(k:Nat)(hk:k<L.length)(h:∀r,r∈L.take k→wAD r=true)(hn:wAD (L.getD k 0)=false):jK L=L.take k∧past L=L.drop k:=by
 have e:L=L.take k++L.drop k:=(bJ k L).symm;have e2:L.drop k=L.getD k 0::L.drop (k+1):=by rw[cE hk];simp[List.getD,hk]
 unfold jK past;constructor
 ·conv=>lhs;rw[e,e2]
  rw[bL h,bW (by rw[hn];simp),cG]
 ·conv=>lhs;rw[e,e2]
  rw[gJ h,fP (by rw[hn];simp),e2]
theorem qJD(L:List Nat)(h:∀r,r∈L→wAD r=true):jK L=L∧past L=[]:=by
 unfold jK past;have e:L=L++[]:=(cG L).symm;constructor
 ·conv=>lhs;rw[e]
  rw[bL h];simp
 ·conv=>lhs;rw[e]
  rw[gJ h];simp
def wQ3(n:Int):Ending:=.panicked [{ v:=.iface 190 (.agg #[.int .i64 n]),recovered:=false }]
theorem wG0{a b c:World}{row:Option Nat}(h:a.grownBy b row)(k:Below a.heap.size b c):a.grownBy c row:=
 ⟨k.os.trans h.os,k.tape.trans h.tape,k.output.trans h.output,pD h.size k.size,fun i hi hr=>(k.block i hi).trans (h.block i hi hr)⟩
theorem wRB(g lo hi:Nat)(v:Value)(D:Nat)(L:List Nat)(w:World)(hb:wO w g 185 [v,.int .i64 (D:Nat)])(h:zA .i32 lo hi w v L)(hg:hi≤g)(hl:L.length≤1000000000)(hD:D≤1000000000) :
  Calls Tryz.prog 131 #[.pointer (some ⟨g,0,none⟩)] w fun e w'=>w.grownBy w' (some g) ∧
   ((jK L=[]∧e=wQ3 20)∨(jK L≠[]∧∃v',wO w' g 185 [v',.int .i64 ((D+(jK L).length:Nat):Nat)]∧zA .i32 lo hi w' v' (past L) ∧
     ((10000<D+(jK L).length∧e=.returned (.slice none 0 0))∨(D+(jK L).length≤10000∧∃q,e=.returned q∧wG w.heap.size w'.heap.size w' q (toL (wS 10 ((jK L).map wU))))))):=by
 have hgw:=hb.lt
 go_enter Tryz.func131,Tryz.ntmps131
 go_wp2
 go_loopg [3] L.length (fun gk lv wr=>∃(k:Nat)(v':Value),gk=L.length-k∧k≤L.length∧wO wr g 185 [v',.int .i64 (D:Nat)]∧zA .i32 lo hi wr v' (L.drop k) ∧
   wr.ownsRow w.heap.size 66 1 lv k (zQ ((L.take k).map wU))∧w.grownBy wr (some g)∧(∀r,r∈L.take k→wAD r=true))
 case atStart=>exact⟨0,v,by omega,pG _,hb,by simpa using h,by simpa[zQ]using World.ownsRow_nil _ _ _ _,jP _ _,by simp⟩
 case round=>
  obtain⟨k,v',hgk,hkl,hbx,hn,hown,hgr,hok⟩:=hrel;have HGK:=hid hgk;have HOK:=hid hok;clear hgk hok;obtain⟨d0,d1,g0,g1⟩:=hbx.two;by_cases hlt:k<L.length
  ·have e2:L.drop k=L.getD k 0::L.drop (k+1):=by rw[cE hlt];simp[List.getD,hlt]
   obtain⟨r,hr⟩:∃r,L.getD k 0=r:=⟨_,rfl⟩
   rw[hr]at e2;rw[e2]at hn;obtain⟨ad,cap,rfl,hc,hcell⟩:=hn.open;obtain⟨b,off,rfl,_,_,hc0⟩:=hcell 0 (by simp);simp only[List.getD_cons_zero,Nat.add_zero]at hc0;have Q1:=hid (wMA r wr);have HT:=hid hn.tail;have hlen:(L.drop (k+1)).length=L.length-(k+1):=by simp
   have HR:=hid hr;have HLEN:=hid hlen;have hcl:(r::L.drop (k+1)).length=L.length-k:=by simp;omega
   have hn':=hn;rw[hcl]at hc d0 hn' hbx;obtain⟨m,hm⟩:∃m,L.length-k=m+1:=⟨L.length-k-1,by omega⟩
   rw[hm]at hc d0 hn' hbx;rw[←e2]at hn';have HN:=hid hn';have HM:=hid hm;clear hn' hcell e2 hn hr hlen hcl hm;obtain⟨kd,hkd⟩:∃kd,kindOf r=kd:=⟨_,rfl⟩
   rw[hkd]at Q1;obtain⟨t,ht⟩:∃t,(kd==1)=t:=⟨_,rfl⟩
   have hdg:wAD r=t:=by unfold wAD;rw[hkd];exact ht
   have HDG:=hid hdg;have HTT:=hid ht;clear hkd ht hdg
   go_wp2_with fail
   refine Q1.out.mono ?_;rintro e w' ⟨rfl,rfl⟩;cases t
   ·have hzi:(((kd:Nat):Int)==1)=false:=by
     have:=HTT.out;simp at this ⊢;omega
    have HSP:=hid (digs_split L k hlt HOK.out (by rw[HR.out];exact HDG.out));have hnp:zA .i32 lo hi wr (.slice (some ⟨b,off,none⟩) (m+1) cap) (past L):=by rw[HSP.out.2];exact HN.out
    have hgk0:=HGK.out;clear HT Q1;have hds:=wG.ofOwn hown fun x hx=>by obtain⟨r',hr',rfl⟩:=pR.1 hx;have:=(wDA r' (HOK.out r' hr')).2;omega
    have hdx:∀x,x∈(L.take k).map wU→x<10:=by intro x hx;obtain⟨r',hr',rfl⟩:=pR.1 hx;exact(wDA r' (HOK.out r' hr')).2
    have hkl9:((L.take k).map wU).length=k:=by simp;omega
    obtain⟨ad9,cap9,hsh⟩:=hds.shape;rw[hkl9]at hsh;subst hsh;rw[←HSP.out.1]at hds hdx hkl9;have hkT:(jK L).length=k:=by simpa using hkl9
    have HDS:=hid hds;have HDX:=hid hdx;have HKT:=hid hkT;have HGR:=hid hgr;have HBX:=hid hbx;have HNP:=hid hnp;have hsz9:=hgr.size;clear hds hdx hkl9 hkT hown hgr hbx hnp;by_cases hk0:k=0
    ·subst hk0;clear hgk0
     go_wp2
     exact⟨rfl,HGR.out,.inl ⟨pN HKT.out,rfl⟩⟩
    ·have hne:jK L≠[]:=by
      intro h;have:=HKT.out;rw[h]at this;exact hk0 this.symm
     have HNE:=hid hne;have hsum:((D:Int)+(k:Int))=((D+k:Nat):Int):=by omega
     obtain⟨s,hs⟩:∃s,D+k=s:=⟨_,rfl⟩
     rw[hs]at hsum;have HS:=hid hs;have hsl:s≤2000000000:=by omega
     have hkp:0<k:=by omega
     clear hs hne hgk0 hk0;by_cases hbig:10000<s
     ·go_wp2
      go_ret
      rw[HKT.out,HS.out];exact⟨jL HGR.out (xR _ _ _),.inr ⟨HNE.out,_,HBX.out.set 1 _,HNP.out.set _ _ (.inr hg),.inl ⟨hbig,rfl⟩⟩⟩
     ·have q1:=hid (wVA _ _ _ _ 10 (wr.setCell ⟨g,1,none⟩ (.int .i64 (s:Nat))) (HDS.out.set _ _ (.inl hgw)) (by have:=HKT.out;simp;omega) (by decide) (by decide) HDX.out)
      go_wp2_with fail
      refine q1.out.mono ?_;rintro e w1 ⟨r1,rfl,hr1,hb1⟩;have h1:=(HBX.out.set 1 (.int .i64 (s:Nat))).later hb1;have hsz2:(wr.setCell ⟨g,1,none⟩ (.int .i64 (s:Nat))).heap.size=wr.heap.size:=by simp[World.setCell]
      rw[hsz2]at hb1 hr1;have h2:=wG0 (jL HGR.out (xR wr ⟨g,1,none⟩ (.int .i64 (s:Nat)))) (hb1.mono hsz9);have h3:=(HNP.out.set ⟨g,1,none⟩ (.int .i64 (s:Nat)) (.inr hg)).below hb1 (by omega);have h4:=hr1.wide hsz9 (pC _);have H1:=hid h1;have H2:=hid h2;have H3:=hid h3;have H4:=hid h4;clear h1 h2 h3 h4 hb1 hr1 q1 hsz2
      go_wp2
      go_ret
      rw[HKT.out,HS.out];exact⟨H2.out,.inr ⟨HNE.out,_,H1.out,H3.out,.inr ⟨by omega,_,rfl,H4.out⟩⟩⟩
   ·obtain rfl:kd=1:=by simpa using HTT.out
    have hrr:=(wO2 r).1 HDG.out;have hww:=(wDA r HDG.out).1;have HWW:=hid hww;have hb1:Below w.heap.size wr wr:=Below.refl _ _;have hsz:=hgr.size;have hd48:((r:Int)-48)=((r-48:Nat):Int):=by omega
    obtain⟨d,hd⟩:∃d,r-48=d:=⟨_,rfl⟩
    rw[hd]at hd48 hww;have hd10:d<10:=by omega
    have HD:=hid hd;clear hww hd
    go_wp2_with (at_builtin;go_loud (refine zO elemU32 rfl _ _ rfl w.heap.size k 1 1 _ (zQ ((L.take k).map wU)) _ hown rfl rfl rfl (by simp[Value.oneCell']) (by omega) (by decide) (by unfold maxLen;omega) hb1 hsz ?_))
    intro g6 c6 w6 ho6 hb6 hg6;have hbx6:=hbx.below hb6 hgw;obtain⟨d0',d1',g0',g1'⟩:=hbx6.two;have HT6:=hid (HT.out.below hb6 (pD hg (dK hgw)));have hgr6:=wG0 hgr hb6;have HO:=hid ho6;have HGR6:=hid hgr6;have HBX6:=hid hbx6;have hok2:∀r',r'∈L.take (k+1)→wAD r'=true:=by
     intro r' hr';rw[qY L 0 k hlt,cB]at hr';rcases hr' with h|h
     ·exact HOK.out r' h
     ·simp only[List.mem_singleton]at h;rw[h,HR.out];exact HDG.out
    have HOK2:=hid hok2;have he:zQ ((L.take (k+1)).map wU)=zQ (List.take k (List.map wU L))++[Value.int IntKind.u32 (d:Nat)]:=by rw[qY L 0 k hlt,bQ,HR.out,mE,fY,HWW.out];simp[zQ,HD.out]
    have HE:=hid he;have hnw:Value.ownBlock (.slice (some ⟨g6,0,none⟩) (k+1) c6)≠some g:=by intro h;have:=(ho6.lt g h).1;omega
    clear hg6 HT hgr hb6 hbx hown Q1 ho6 hgr6 hbx6 hok2 he d0 d1 g0 g1;by_cases hc1:cap=1
    ·subst hc1;rw[if_pos rfl]at HT6;obtain rfl:m=0:=by omega
     go_wp2
     all_goals
      go_roundg (L.length-(k+1))
      case measure=>have:=HGK.out;omega
      case rel=>
       refine⟨k+1,_,rfl,by omega,HBX6.out.set 0 _,?_,?_,jL HGR6.out (xR _ _ _),HOK2.out⟩
       ·have h9:=HT6.out;rw[HLEN.out,show L.length-(k+1)=0 by have:=HM.out;omega]at h9;exact h9.set ⟨g,0,none⟩ _ (.inr hg)
       ·rw[HE.out];exact vX HO.out _ _ hnw
    ·rw[if_neg hc1]at HT6
     go_wp2
     all_goals
      go_roundg (L.length-(k+1))
      case measure=>have:=HGK.out;omega
      case rel=>
       refine⟨k+1,_,rfl,by omega,HBX6.out.set 0 _,?_,?_,jL HGR6.out (xR _ _ _),HOK2.out⟩
       ·have h9:=HT6.out;rw[HLEN.out,show L.length-(k+1)=m by have:=HM.out;omega]at h9;exact h9.set ⟨g,0,none⟩ _ (.inr hg)
       ·rw[HE.out];exact vX HO.out _ _ hnw
  ·obtain rfl:k=L.length:=by omega
   have HSP:Hid (jK L=L.take L.length∧past L=L.drop L.length):=by rw[pZ,bA];rw[pZ]at HOK;exact qJD L HOK.out
   have hnp:zA .i32 lo hi wr v' (past L):=by rw[HSP.out.2];exact hn
   have hgk0:=HGK.out;obtain⟨ad,cap,rfl,hc,hcell⟩:=hn.open;clear hcell hn;simp only[List.length_drop,Nat.sub_self]at hc d0;obtain⟨k,hk⟩:∃k,L.length=k:=⟨_,rfl⟩
   rw[hk]at hown HOK HSP hgk0;simp only[List.length_drop,Nat.sub_self]at hbx hnp;have hds:=wG.ofOwn hown fun x hx=>by obtain⟨r',hr',rfl⟩:=pR.1 hx;have:=(wDA r' (HOK.out r' hr')).2;omega
   have hdx:∀x,x∈(L.take k).map wU→x<10:=by intro x hx;obtain⟨r',hr',rfl⟩:=pR.1 hx;exact(wDA r' (HOK.out r' hr')).2
   have hkl9:((L.take k).map wU).length=k:=by simp;omega
   obtain⟨ad9,cap9,hsh⟩:=hds.shape;rw[hkl9]at hsh;subst hsh;rw[←HSP.out.1]at hds hdx hkl9;have hkT:(jK L).length=k:=by simpa using hkl9
   have HDS:=hid hds;have HDX:=hid hdx;have HKT:=hid hkT;have HGR:=hid hgr;have HBX:=hid hbx;have HNP:=hid hnp;have hsz9:=hgr.size;clear hds hdx hkl9 hkT hown hgr hbx hnp;by_cases hk0:k=0
   ·subst hk0;clear hgk0
    go_wp2
    exact⟨rfl,HGR.out,.inl ⟨pN HKT.out,rfl⟩⟩
   ·have hne:jK L≠[]:=by
     intro h;have:=HKT.out;rw[h]at this;exact hk0 this.symm
    have HNE:=hid hne;have hsum:((D:Int)+(k:Int))=((D+k:Nat):Int):=by omega
    obtain⟨s,hs⟩:∃s,D+k=s:=⟨_,rfl⟩
    rw[hs]at hsum;have HS:=hid hs;have hsl:s≤2000000000:=by omega
    have hkp:0<k:=by omega
    clear hs hne hgk0 hk0;by_cases hbig:10000<s
    ·go_wp2
     go_ret
     rw[HKT.out,HS.out];exact⟨jL HGR.out (xR _ _ _),.inr ⟨HNE.out,_,HBX.out.set 1 _,HNP.out.set _ _ (.inr hg),.inl ⟨hbig,rfl⟩⟩⟩
    ·have q1:=hid (wVA _ _ _ _ 10 (wr.setCell ⟨g,1,none⟩ (.int .i64 (s:Nat))) (HDS.out.set _ _ (.inl hgw)) (by have:=HKT.out;simp;omega) (by decide) (by decide) HDX.out)
     go_wp2_with fail
     refine q1.out.mono ?_;rintro e w1 ⟨r1,rfl,hr1,hb1⟩;have h1:=(HBX.out.set 1 (.int .i64 (s:Nat))).later hb1;have hsz2:(wr.setCell ⟨g,1,none⟩ (.int .i64 (s:Nat))).heap.size=wr.heap.size:=by simp[World.setCell]
     rw[hsz2]at hb1 hr1;have h2:=wG0 (jL HGR.out (xR wr ⟨g,1,none⟩ (.int .i64 (s:Nat)))) (hb1.mono hsz9);have h3:=(HNP.out.set ⟨g,1,none⟩ (.int .i64 (s:Nat)) (.inr hg)).below hb1 (by omega);have h4:=hr1.wide hsz9 (pC _);have H1:=hid h1;have H2:=hid h2;have H3:=hid h3;have H4:=hid h4;clear h1 h2 h3 h4 hb1 hr1 q1 hsz2
     go_wp2
     go_ret
     rw[HKT.out,HS.out];exact⟨H2.out,.inr ⟨HNE.out,_,H1.out,H3.out,.inr ⟨by omega,_,rfl,H4.out⟩⟩⟩
def neg1(L:List Nat):Bool:=ahead 2 L
def wDJ(L:List Nat):List Nat:=jK (behind 2 L)
def end1(L:List Nat):List Nat:=past (behind 2 L)
theorem qIA(g lo hi:Nat)(v:Value)(L:List Nat)(w:World)(hb:wO w g 185 [v,.int .i64 0])(h:zA .i32 lo hi w v L)(hg:hi≤g)(hl:L.length≤1000000000) :
  Calls Tryz.prog 128 #[.pointer (some ⟨g,0,none⟩)] w fun e w'=>w.grownBy w' (some g) ∧
   ((wDJ L=[]∧e=wQ3 20)∨(wDJ L≠[]∧∃v',wO w' g 185 [v',.int .i64 ((wDJ L).length:Nat)]∧zA .i32 lo hi w' v' (end1 L) ∧
     ((10000<(wDJ L).length∧∃x,e=.returned (.agg #[.bool false,x])∧x=.slice none 0 0)∨((wDJ L).length≤10000∧∃q,e=.returned (.agg #[.bool (neg1 L&&decide (wS 10 ((wDJ L).map wU)≠0)),q])∧wG w.heap.size w'.heap.size w' q (toL (wS 10 ((wDJ L).map wU))))))):=by
 obtain⟨hb0,b0,hsz⟩:=boxA w #[.bool false,.slice none 0 0] 25;have hgw:=hb.lt;have q1:=hid (qHH g lo hi v (.int .i64 0) L 2 _ (hb.alloc (.cells #[.bool false,.slice none 0 0] 25)) (h.below hb0 (by omega)) hg hl (by decide));have hbl:(behind 2 L).length≤1000000000:=by unfold behind;split<;>(try rw[List.length_tail])<;>omega
 obtain⟨T,hT⟩:∃T,wDJ L=T:=⟨_,rfl⟩
 obtain⟨R,hR⟩:∃R,end1 L=R:=⟨_,rfl⟩
 obtain⟨z,hz⟩:∃z,neg1 L=z:=⟨_,rfl⟩
 have hT':jK (behind 2 L)=T:=hT;have hR':past (behind 2 L)=R:=hR;have hz':ahead 2 L=z:=hz;rw[hT,hR,hz];rw[hz']at q1;have HT:=hid hT';have HR:=hid hR';clear hT hR hz hT' hR' hz' h
 go_enter Tryz.func128,Tryz.ntmps128
 go_wp2_with fail
 refine q1.out.mono ?_;rintro e w1 ⟨rfl,v1,hb1,hn1,hg1⟩;have q2:=wRB g lo hi v1 0 _ w1 hb1 hn1 hg hbl (by omega);rw[HT.out,HR.out]at q2;have Q2:=hid q2;have hbx1:=jZ b0 hg1 (by omega);have hgr1:=jL (qID (row:=some g) hb0) hg1;have hs1:=hg1.size;rw[hsz]at hs1;clear q1 q2 hb1 hn1 hg1 b0 hb0
 go_wp2_with fail
 refine Q2.out.mono ?_;rintro e w2 ⟨hg2,hq⟩;have hbx2:=jZ hbx1 hg2 (by omega);have hgr2:=jL hgr1 hg2;have hs2:=hg2.size;have HGR:=hid hgr2;obtain⟨d0,d1,g0,g1⟩:=hbx2.two;rcases hq with⟨hq1,he⟩|⟨hq1,v2,hb2,hn2,hq2⟩
 ·unfold wQ3 at he;subst he;clear hg2 hgr1 hgr2 hbx1 Q2
  go_wp2
  exact⟨rfl,HGR.out,.inl ⟨hq1,rfl⟩⟩
 ·rw[cL]at hq2 hb2;have fin:∀(b:Bool)(x:Value),w.grownBy ((w2.setCell ⟨w.heap.size,0,none⟩ (.bool b)).setCell ⟨w.heap.size,1,none⟩ x) (some g)∧wO ((w2.setCell ⟨w.heap.size,0,none⟩ (.bool b)).setCell ⟨w.heap.size,1,none⟩ x) g 185 [v2,.int .i64 (T.length:Nat)]∧zA .i32 lo hi ((w2.setCell ⟨w.heap.size,0,none⟩ (.bool b)).setCell ⟨w.heap.size,1,none⟩ x) v2 R:=by
   intro b x;have hA:Below w.heap.size w2 ((w2.setCell ⟨w.heap.size,0,none⟩ (.bool b)).setCell ⟨w.heap.size,1,none⟩ x):=((Below.refl _ _).setCell (by simp) _).setCell (by simp) _;exact⟨wG0 hgr2 hA,hb2.below hA hgw,hn2.below hA (by omega)⟩
  have FIN:=hid fin;clear hg2 hgr1 hgr2 hbx1 Q2 hb2 hn2 fin;rcases hq2 with⟨hq3,he⟩|⟨hq3,q,he,hq4⟩
  ·subst he;obtain⟨f1,f2,f3⟩:=FIN.out false (.slice none 0 0);have F1:=hid f1;have F2:=hid f2;have F3:=hid f3;clear f1 f2 f3;cases z;all_goals
    go_wp2
    refine bodyPost_ret (v:=.agg #[.bool false,.slice none 0 0]) (by simp[results,Tryz.results128,go_sem,d0,d1]) rfl ?_;exact⟨F1.out,.inr ⟨hq1,_,F2.out,F3.out,.inl ⟨hq3,_,rfl,rfl⟩⟩⟩
  ·subst he;obtain⟨ad3,cap3,rfl⟩:=hq4.shape;have hz:=wQI (wS 10 (T.map wU));have hlim:∀b:Bool,wG w.heap.size ((w2.setCell ⟨w.heap.size,0,none⟩ (.bool b)).setCell ⟨w.heap.size,1,none⟩ (.slice ad3 (toL (wS 10 (T.map wU))).length cap3)).heap.size ((w2.setCell ⟨w.heap.size,0,none⟩ (.bool b)).setCell ⟨w.heap.size,1,none⟩ (.slice ad3 (toL (wS 10 (T.map wU))).length cap3)) (.slice ad3 (toL (wS 10 (T.map wU))).length cap3) (toL (wS 10 (T.map wU))):=by
    intro b;exact((hq4.set _ _ (.inl (show w.heap.size<w1.heap.size by omega))).set _ _ (.inl (show w.heap.size<w1.heap.size by omega))).wide (by omega) (by simp[World.setCell])
   have HL:=hid hlim;have HZ:=hid hz;clear hz hlim hq4;cases z
   ·obtain⟨f1,f2,f3⟩:=FIN.out false (.slice ad3 (toL (wS 10 (T.map wU))).length cap3);have F1:=hid f1;have F2:=hid f2;have F3:=hid f3;clear f1 f2 f3
    go_wp2
    refine bodyPost_ret (v:=.agg #[.bool false,.slice ad3 (toL (wS 10 (T.map wU))).length cap3]) (by simp[results,Tryz.results128,go_sem,d0,d1]) rfl ?_;exact⟨F1.out,.inr ⟨hq1,_,F2.out,F3.out,.inr ⟨hq3,_,rfl,HL.out _⟩⟩⟩
   ·obtain⟨f1,f2,f3⟩:=FIN.out (decide (0<(toL (wS 10 (T.map wU))).length)) (.slice ad3 (toL (wS 10 (T.map wU))).length cap3);have F1:=hid f1;have F2:=hid f2;have F3:=hid f3;clear f1 f2 f3
    go_wp2
    refine bodyPost_ret (v:=.agg #[.bool (decide (0<(toL (wS 10 (T.map wU))).length)),.slice ad3 (toL (wS 10 (T.map wU))).length cap3]) (by simp[results,Tryz.results128,go_sem,d0,d1]) rfl ?_;exact⟨F1.out,.inr ⟨hq1,_,F2.out,F3.out,.inr ⟨hq3,_,by rw[HZ.out,fO],HL.out _⟩⟩⟩
theorem qF5(W:World)(v:Value):(Instr.typeAssert (.iface 190 v) 20 190 true).run Tryz.prog W=.ok (.tuple #[v,.bool true]) W:=by kernel_rfl
set_option maxRecDepth 10000 in
theorem wQC(p:Addr)(x n:Int)(older:List PanicEntry)(w:World)(hc:w.cell? p=some (.int .i64 x))(hz:w.frozen? p=false)(hb:p.block<w.heap.size) :
  CallsD Tryz.prog 126 #[.pointer (some p)] (.panicking ({ v:=.iface 190 (.agg #[.int .i64 n]),recovered:=false }::older)) w fun e u' w'=>
   e=.returned (.tuple #[])∧u'=.panicking ({ v:=.iface 190 (.agg #[.int .i64 n]),recovered:=true }::older)∧w'=(w.alloc (.cells #[.int .i64 n] 190)).setCell p (.int .i64 n):=by
 have hk:(w.alloc (.cells #[.int .i64 n] 190)).heap[p.block]? = w.heap[p.block]?:=Below.heap_alloc _ _ _ hb;have hc2:(w.alloc (.cells #[.int .i64 n] 190)).cell? p=some (.int .i64 x):=(World.cell?_of_block hk).trans hc;have hz2:(w.alloc (.cells #[.int .i64 n] 190)).frozen? p=false:=(World.frozen?_of_block hk).trans hz;refine callsD_of_wpS Tryz.func126 rfl fun c₀ cs hu=>?_;apply wpS_seq;apply wpS_region;simp[wpOpsS,go_sem,recoverD,hu,Tryz.ntmps126,Exit.thenS];apply wpS_seq;apply wpS_region;simp[wpOpsS,go_sem,Exit.thenS];refine wpS_cond (t:=true) (by simp[Act.eval,Array.replicate]) ?_;simp only[if_true];apply wpS_seq;apply wpS_region;simp[wpOpsS,go_sem,qF5,Exit.thenS];apply wpS_seq;apply wpS_seq;apply wpS_region;simp[wpOpsS,go_sem,Exit.thenS];refine wpS_cond (t:=false) (by simp[Act.eval,Array.replicate]) ?_;simp only[Bool.false_eq_true,if_false]
 refine wpS_of_wp (wp_skip ?_);apply wpS_region;simp[wpOpsS,go_sem,hc2,hz2,bodyPostS,results,Tryz.results126]
theorem qK0(p:Addr)(w:World) :
  CallsD Tryz.prog 126 #[.pointer (some p)] .returning w fun e u' w'=>e=.returned (.tuple #[])∧u'=.returning∧w'=w:=by
 refine callsD_of_wpS Tryz.func126 rfl fun c₀ cs hu=>?_;apply wpS_seq;apply wpS_region;simp[wpOpsS,go_sem,recoverD,hu,Tryz.ntmps126,Exit.thenS];apply wpS_seq;apply wpS_region;simp[wpOpsS,go_sem,Exit.thenS];refine wpS_cond (t:=false) (by simp[Act.eval,Array.replicate]) ?_;simp only[Bool.false_eq_true,if_false];refine wpS_of_wp (wp_skip ?_);cases c₀
 simp_all [bodyPostS,results,Tryz.results126]
theorem wZA(a b:Nat)(x y u v:Value)(n:Int)(u0:FrameMode)(w:World)(ha:wO w a 29 [.int .i64 n])(hb:wO w b 43 [x,y,u,v]) :
  CallsD Tryz.prog 125 #[.pointer (some ⟨a,0,none⟩),.pointer (some ⟨b,0,none⟩)] u0 w fun e u' w'=>u'=u0∧e=.returned (.tuple #[]) ∧
   w'=if n=0 then w else((((w.setCell ⟨b,0,none⟩ (.bool false)).setCell ⟨b,1,none⟩ (.slice none 0 0)).setCell ⟨b,2,none⟩ (.bool false)).setCell ⟨b,3,none⟩ (.slice none 0 0)):=by
 obtain⟨c0,f0⟩:=ha.one;obtain⟨⟨d0,d1,d2,d3⟩,g0,g1,g2,g3⟩:=hb.four;refine(callsD_of_wp Tryz.func125 rfl (R:=fun e w'=>e=.returned (.tuple #[]) ∧
   w'=if n=0 then w else((((w.setCell ⟨b,0,none⟩ (.bool false)).setCell ⟨b,1,none⟩ (.slice none 0 0)).setCell ⟨b,2,none⟩ (.bool false)).setCell ⟨b,3,none⟩ (.slice none 0 0))) ?_)
 simp only[Tryz.ntmps125];by_cases hn:n=0
 ·subst hn
  go_wp2
  go_end0
  exact⟨rfl,rfl⟩
 ·have hn2:(n != 0)=true:=by simp[hn]
  rw[if_neg hn]
  go_wp2
  go_end0
  exact⟨rfl,rfl⟩
def v6(frac:Bool)(L:List Nat):Bool×Nat×Nat×Nat:=
 if wDJ L=[]then(false,0,0,20)
 else if frac&&ahead 3 (end1 L)then
  if qV (end1 L).tail&&!(end1 L).tail.isEmpty then(false,0,0,20)
  else if jK (end1 L).tail=[]then(false,0,0,20)
  else if past (end1 L).tail≠[]then(false,0,0,20)
  else if 10000<(wDJ L).length+(jK (end1 L).tail).length then(false,0,0,4)
  else(neg1 L&&decide (wS 10 ((wDJ L).map wU)≠0),wS 10 ((wDJ L).map wU),wS 10 ((jK (end1 L).tail).map wU),0)
 else if end1 L≠[]then(false,0,0,20)
 else if 10000<(wDJ L).length then(false,0,0,4)
 else(neg1 L&&decide (wS 10 ((wDJ L).map wU)≠0),wS 10 ((wDJ L).map wU),1,0)
def wC3(w w':World)(e:Ending)(x:Bool×Nat×Nat×Nat):Prop:=
 ∃q1 q2,e=.returned (.tuple #[.agg #[.bool x.1,q1,.bool false,q2],.int .i64 (x.2.2.2:Nat)])∧wG w.heap.size w'.heap.size w' q1 (toL x.2.1)∧wG w.heap.size w'.heap.size w' q2 (toL x.2.2.1)
def wV1(w:World):List Deferred:=[{ target:=Target.fn (Fn.func 126) #[],args:=#[.pointer (some ⟨w.heap.size+1,0,none⟩)] },
 { target:=Target.fn (Fn.func 125) #[.pointer (some ⟨w.heap.size+1,0,none⟩),.pointer (some ⟨w.heap.size,0,none⟩)],args:=#[] }]
theorem xJ(n:Nat)(hn:n≠0)(tmps:Array Value)(w W:World)(h4:tmps[4]?.getD undef=.pointer (some ⟨w.heap.size,0,none⟩))(h5:tmps[5]?.getD undef=.pointer (some ⟨w.heap.size+1,0,none⟩))(x y u v:Value)(hB:Below w.heap.size w W)(hF:wO W w.heap.size 43 [x,y,u,v])(hE:wO W (w.heap.size+1) 29 [.int .i64 0]) :
  Leaves Tryz.prog Tryz.f86 tmps (fun e w'=>Below w.heap.size w w'∧wC3 w w' e (false,0,0,n)) (wV1 w) (.panicking [{ v:=.iface 190 (.agg #[.int .i64 (n:Nat)]),recovered:=false }]) W:=by
 unfold wV1;refine leaves_cons (f:=126) (args:=#[.pointer (some ⟨w.heap.size+1,0,none⟩)]) (by simp) (by simp[go_sem]) ?_;refine(wQC ⟨w.heap.size+1,0,none⟩ 0 n [] W hE.one.1 hE.one.2 hE.lt).mono ?_;rintro e u' w'' ⟨rfl,rfl,hw⟩;have hB2:Below w.heap.size w w'':=by rw[hw];exact(hB.alloc hB.size _).setCell (by simp) _
 have hE2:wO w'' (w.heap.size+1) 29 [.int .i64 (n:Nat)]:=by rw[hw];exact(hE.alloc _).set 0 _
 have hF2:wO w'' w.heap.size 43 [x,y,u,v]:=by rw[hw];exact(hF.alloc _).other _ _ (by simp)
 clear hw hB hE hF;refine leaves_cons (f:=125) (args:=#[.pointer (some ⟨w.heap.size+1,0,none⟩),.pointer (some ⟨w.heap.size,0,none⟩)]) (by simp[settle]) (by simp[go_sem]) ?_;refine(wZA (w.heap.size+1) w.heap.size x y u v n _ w'' hE2 hF2).mono ?_;rintro e u' w3 ⟨rfl,rfl,hw⟩;rw[if_neg (by omega)]at hw;have hB3:Below w.heap.size w w3:=by rw[hw];exact(((hB2.setCell (by simp) _).setCell (by simp) _).setCell (by simp) _).setCell (by simp) _
 have hE3:wO w3 (w.heap.size+1) 29 [.int .i64 (n:Nat)]:=by rw[hw];exact(((hE2.other _ _ (by simp)).other _ _ (by simp)).other _ _ (by simp)).other _ _ (by simp)
 have hF3:wO w3 w.heap.size 43 [.bool false,.slice none 0 0,.bool false,.slice none 0 0]:=by rw[hw];exact(((hF2.set 0 _).set 1 _).set 2 _).set 3 _
 obtain⟨c0,f0⟩:=hE3.one;obtain⟨⟨d0,d1,d2,d3⟩,g0,g1,g2,g3⟩:=hF3.four;clear hw hB2 hE2 hF2;simp[Leaves,settle,results,Tryz.results86,go_sem,h4,h5,c0,d0,d1,d2,d3];exact⟨hB3,_,_,rfl,by rw[wT];exact wG.nil,by rw[wT];exact wG.nil⟩
theorem read_back(x:Bool×Nat×Nat×Nat)(hx:x.2.2.2=0)(tmps:Array Value)(w W:World)(h4:tmps[4]?.getD undef=.pointer (some ⟨w.heap.size,0,none⟩))(h5:tmps[5]?.getD undef=.pointer (some ⟨w.heap.size+1,0,none⟩))(q1 q2:Value)(hB:Below w.heap.size w W)(hF:wO W w.heap.size 43 [.bool x.1,q1,.bool false,q2])(hE:wO W (w.heap.size+1) 29 [.int .i64 0])(hq1:wG w.heap.size W.heap.size W q1 (toL x.2.1))(hq2:wG w.heap.size W.heap.size W q2 (toL x.2.2.1)) :
  Leaves Tryz.prog Tryz.f86 tmps (fun e w'=>Below w.heap.size w w'∧wC3 w w' e x) (wV1 w) .returning W:=by
 unfold wV1;refine leaves_cons (f:=126) (args:=#[.pointer (some ⟨w.heap.size+1,0,none⟩)]) (by simp) (by simp[go_sem]) ?_;refine(qK0 ⟨w.heap.size+1,0,none⟩ W).mono ?_;rintro e u' w'' ⟨rfl,rfl,rfl⟩;refine leaves_cons (f:=125) (args:=#[.pointer (some ⟨w.heap.size+1,0,none⟩),.pointer (some ⟨w.heap.size,0,none⟩)]) (by simp[settle]) (by simp[go_sem]) ?_;refine(wZA (w.heap.size+1) w.heap.size _ _ _ _ 0 _ w'' hE hF).mono ?_;rintro e u' w3 ⟨rfl,rfl,hw⟩;rw[if_pos rfl]at hw;subst hw;obtain⟨c0,f0⟩:=hE.one;obtain⟨⟨d0,d1,d2,d3⟩,g0,g1,g2,g3⟩:=hF.four;simp[Leaves,settle,results,Tryz.results86,go_sem,h4,h5,c0,d0,d1,d2,d3];exact⟨hB,_,_,by rw[hx];rfl,hq1,hq2⟩
theorem wJ7(x:Bool×Nat×Nat×Nat)(b:Bool)(N M:Nat)(hx:(b,N,M,0)=x)(lo:Nat)(tmps:Array Value)(w W:World)(h4:tmps[4]?.getD undef=.pointer (some ⟨w.heap.size,0,none⟩))(h5:tmps[5]?.getD undef=.pointer (some ⟨w.heap.size+1,0,none⟩))(q1 q2:Value)(u1 u2 u3 u4 u5:Value)(hB:Below w.heap.size w W)(hF:wO W w.heap.size 43 [u1,u2,u3,u4])(hE:wO W (w.heap.size+1) 29 [u5])(hq1:wG lo W.heap.size W q1 (toL N))(hlo:w.heap.size+2≤lo)(hq2:wG lo W.heap.size W q2 (toL M)) :
  Leaves Tryz.prog Tryz.f86 tmps (fun e w'=>Below w.heap.size w w'∧wC3 w w' e x) (wV1 w) .returning
   (((((W.setCell ⟨w.heap.size,0,none⟩ (.bool b)).setCell ⟨w.heap.size,1,none⟩ q1).setCell ⟨w.heap.size,2,none⟩ (.bool false)).setCell ⟨w.heap.size,3,none⟩ q2).setCell ⟨w.heap.size+1,0,none⟩ (.int .i64 0)):=by
 subst hx;refine read_back _ rfl tmps w _ h4 h5 q1 q2 ?_ ?_ ?_ ?_ ?_
 ·exact(((((hB.setCell (by simp) _).setCell (by simp) _).setCell (by simp) _).setCell (by simp) _).setCell (by simp) _)
 ·exact((((hF.set 0 _).set 1 _).set 2 _).set 3 _).other _ _ (by simp)
 ·exact((((hE.other _ _ (by simp)).other _ _ (by simp)).other _ _ (by simp)).other _ _ (by simp)).set 0 _
 ·refine(((((hq1.set _ _ (.inl ?_)).set _ _ (.inl ?_)).set _ _ (.inl ?_)).set _ _ (.inl ?_)).set _ _ (.inl ?_)).wide (by omega) (by simp[World.setCell])<;>(simp;omega)
 ·refine(((((hq2.set _ _ (.inl ?_)).set _ _ (.inl ?_)).set _ _ (.inl ?_)).set _ _ (.inl ?_)).set _ _ (.inl ?_)).wide (by omega) (by simp[World.setCell])<;>(simp;omega)
theorem read_any(s:ByteArray)(frac:Bool)(w:World)(hs:s.size≤1000000000) :
  Calls Tryz.prog 86 #[.string s,.bool frac] w fun e w'=>Below w.heap.size w w'∧wC3 w w' e (v6 frac (wD s)):=by
 have hmf:∀(fn:Fn)(first cap:Array Value)(w:World),(Instr.makeFunc fn first cap).run Tryz.prog w=.ok (.func fn first cap) w:=fun _ _ _ _=>rfl;obtain⟨hb0,bF,bE,hsz⟩:=boxAB w #[.bool false,.slice none 0 0,.bool false,.slice none 0 0] #[.int .i64 0] 43 29;have q1:=hid (runes_any s ((w.alloc (.cells #[.bool false,.slice none 0 0,.bool false,.slice none 0 0] 43)).alloc (.cells #[.int .i64 0] 29)) (by omega));have hrl:=wUE s 0;have hlen:=y2 s 0;obtain⟨L,hL⟩:∃L,wD s=L:=⟨_,rfl⟩
 have hL':zR s 0=L:=hL;rw[hL]at q1 ⊢;rw[hL']at hrl hlen;have hll:L.length≤1000000000:=by omega
 have HRL:=hid hrl;obtain⟨X,hX⟩:∃X,v6 frac L=X:=⟨_,rfl⟩
 rw[hX];have HX:=hid hX;clear hL hL' hrl hlen hX
 go_enter_defers Tryz.func86,Tryz.ntmps86
 go_wp2_with fail
 refine q1.out.mono ?_;rintro e w1 ⟨r1,rfl,hr1,hb1⟩;obtain⟨ad1,cap1,hsh,_⟩:=hr1.open;subst hsh;have hbel1:=hb0.trans (hb1.mono hb0.size);have hs1:=hb1.size;rw[hsz]at hs1;have hF1:=(bF.later hb1).alloc (.cells #[.slice ad1 L.length cap1,.int .i64 0] 185);have hE1:=(bE.later hb1).alloc (.cells #[.slice ad1 L.length cap1,.int .i64 0] 185);have hN1:=hr1.below ((Below.refl w1.heap.size w1).alloc (pC _) (.cells #[.slice ad1 L.length cap1,.int .i64 0] 185)) (pC _);rw[hsz]at hN1;have hG1:wO (w1.alloc (.cells #[.slice ad1 L.length cap1,.int .i64 0] 185)) w1.heap.size 185 [.slice ad1 L.length cap1,.int .i64 0]:=wO.new _ _ _;have hbel2:=hbel1.alloc hbel1.size (.cells #[.slice ad1 L.length cap1,.int .i64 0] 185);have q2:=qIA w1.heap.size _ _ (.slice ad1 L.length cap1) L (w1.alloc (.cells #[.slice ad1 L.length cap1,.int .i64 0] 185)) hG1 hN1 (pC _) hll
 obtain⟨T,hT⟩:∃T,wDJ L=T:=⟨_,rfl⟩
 obtain⟨R,hR⟩:∃R,end1 L=R:=⟨_,rfl⟩
 rw[hT,hR]at q2;have Q2:=hid q2;have HT:=hid hT;have HR:=hid hR;clear q1 q2 hb0 hb1 hr1 bF bE hG1 hN1 hT hR hbel1
 go_wp2_with fail
 refine Q2.out.mono ?_;rintro e w2 ⟨hg2,hq⟩;have hF2:=jZ hF1 hg2 (by omega);have hE2:=jZ hE1 hg2 (by omega);have hbel3:=below_grown hbel2 hg2 (by simp;omega) (by omega);have hs2:=hg2.size;simp only[World.size_alloc]at hs2;clear hbel2 hF1 hE1 hg2 Q2;rcases hq with⟨hq1,he⟩|⟨hq1,v2,hG2,hN2,hq2⟩
 ·unfold wQ3 at he;subst he;have hu:=hid fun(tmps:Array Value) h4 h5=>xJ 20 (by decide) tmps w w2 h4 h5 _ _ _ _ hbel3 hF2 hE2;have hrf:(false,0,0,20)=X:=by rw[←HX.out];unfold v6;rw[HT.out,if_pos hq1]
  rw[hrf]at hu
  go_wp2
  exact hu.out _ (by simp) (by simp)
 ·
  have hRl:R.length≤1000000000:=by
   have h1:R.length≤L.length:=by rw[←HR.out];unfold end1 past behind;refine pD (gF _).length_le ?_;split<;>simp
   omega
  have hRs:∀r,r∈R→r<2097152:=by
   intro r hr;rw[←HR.out]at hr;have h1:=(gF _).subset hr;unfold behind at h1;split at h1
   ·exact HRL.out r (pC0 h1)
   ·exact HRL.out r h1
  have hTl:T.length≤1000000000:=by
   have h1:T.length≤L.length:=by rw[←HT.out];unfold wDJ jK behind;refine pD (pA7 _).length_le ?_;split<;>simp
   omega
  have HRS:=hid hRs;clear hRs;have hneq:wDJ L≠[]:=by rw[HT.out];exact hq1
  obtain⟨qa,b,N,he,hl2,hNb⟩:∃(qa:Value)(b:Bool)(N:Nat),e=.returned (.agg #[.bool b,qa])∧wG (w1.heap.size+1) w2.heap.size w2 qa (toL N) ∧
    (T.length≤10000→b=(neg1 L&&decide (wS 10 (T.map wU)≠0))∧N=wS 10 (T.map wU)):=by
   rcases hq2 with⟨h1,x,h2,h3⟩|⟨h1,q,h2,h3⟩
   ·exact⟨x,false,0,h2,by rw[h3,wT];exact wG.nil,fun h=>absurd h (by omega)⟩
   ·exact⟨q,_,_,h2,h3.wide (by simp) (pC _),fun _=>⟨rfl,rfl⟩⟩
  have HNB:=hid hNb;subst he;obtain⟨ad2,cap2,hsh2⟩:=hl2.shape;subst hsh2;clear hq2 hNb;have hFa:=hF2.alloc (.cells #[.int .u32 1] 66);obtain⟨⟨d0,d1,d2,d3⟩,g0,g1,g2,g3⟩:=hFa.four;have hsz2:(w2.alloc (.cells #[.int .u32 1] 66)).heap.size=w2.heap.size+1:=by simp
  obtain⟨W,hW⟩:∃W,((((w2.alloc (.cells #[.int .u32 1] 66)).setCell ⟨w.heap.size,0,none⟩ (.bool b)).setCell ⟨w.heap.size,1,none⟩ (.slice ad2 (toL N).length cap2)).setCell ⟨w.heap.size,2,none⟩ (.bool false)).setCell ⟨w.heap.size,3,none⟩ (.slice (some ⟨w2.heap.size,0,none⟩) 1 1)=W:=⟨_,rfl⟩
  have hBW:Below w.heap.size w W:=by rw[←hW];exact((((hbel3.alloc hbel3.size _).setCell (by simp) _).setCell (by simp) _).setCell (by simp) _).setCell (by simp) _
  have hFW:wO W w.heap.size 43 [.bool b,.slice ad2 (toL N).length cap2,.bool false,.slice (some ⟨w2.heap.size,0,none⟩) 1 1]:=by rw[←hW];exact(((hFa.set 0 _).set 1 _).set 2 _).set 3 _
  have hEW:wO W (w.heap.size+1) 29 [.int .i64 0]:=by rw[←hW];exact((((hE2.alloc _).other _ _ (by simp)).other _ _ (by simp)).other _ _ (by simp)).other _ _ (by simp)
  have hGW:wO W w1.heap.size 185 [v2,.int .i64 (T.length:Nat)]:=by rw[←hW];exact((((hG2.alloc _).other _ _ (by simp;omega)).other _ _ (by simp;omega)).other _ _ (by simp;omega)).other _ _ (by simp;omega)
  have hNW:zA .i32 (w.heap.size+2) w1.heap.size W v2 R:=by rw[←hW];refine((((hN2.below ((Below.refl w2.heap.size w2).alloc (pC _) _) (by omega)).set _ _ (.inl ?_)).set _ _ (.inl ?_)).set _ _ (.inl ?_)).set _ _ (.inl ?_)<;>simp
  have hlW:wG (w1.heap.size+1) W.heap.size W (.slice ad2 (toL N).length cap2) (toL N):=by rw[←hW];refine(((((hl2.below ((Below.refl w2.heap.size w2).alloc (pC _) _) (pC _)).set _ _ (.inl ?_)).set _ _ (.inl ?_)).set _ _ (.inl ?_)).set _ _ (.inl ?_)).wide (by omega) (by simp[World.setCell])<;>(simp;omega)
  have hoW:wG (w1.heap.size+1) W.heap.size W (.slice (some ⟨w2.heap.size,0,none⟩) 1 1) (toL 1):=by
   rw[←hW];have h1:wG w2.heap.size (w2.alloc (.cells #[.int .u32 1] 66)).heap.size (w2.alloc (.cells #[.int .u32 1] 66)) (.slice (some ⟨w2.heap.size,0,none⟩) 1 1) (toL 1):=by have h9:(w2.alloc (.cells #[.int .u32 1] 66)).ownsRow w2.heap.size 66 1 (.slice (some ⟨w2.heap.size,0,none⟩) 1 1) 1 (zQ [1]):=World.ownsRow_lit w2 _ 1 (pC _) (by decide) rfl;have h8:=wG.ofOwn h9 (by simp);rw[show toL 1=[1] by rw[wEI (by decide)];simp[wT]];exact h8
   refine((((h1.set _ _ (.inl ?_)).set _ _ (.inl ?_)).set _ _ (.inl ?_)).set _ _ (.inl ?_)).wide (by omega) (by simp[World.setCell])<;>(simp;omega)
  have hsW:w1.heap.size<W.heap.size:=by rw[←hW];simp[World.setCell];omega
  obtain⟨ad5,cap5,hsh5,hc5,hcell5⟩:=hNW.open;have HBW:=hid hBW;have HFW:=hid hFW;have HEW:=hid hEW;have HGW:=hid hGW;have HNW:=hid hNW;have HLW:=hid hlW;have HOW:=hid hoW;have HW:=hid hW;subst hsh5;clear hBW hFW hEW hNW hlW hoW hFa hF2 hE2 hG2 hN2 hl2 hbel3 hcell5 hW;have hG3:(((((w2.alloc (.cells #[.int .u32 1] 66)).setCell ⟨w.heap.size,0,none⟩ (.bool b)).setCell ⟨w.heap.size,1,none⟩ (.slice ad2 (toL N).length cap2)).setCell ⟨w.heap.size,2,none⟩ (.bool false)).setCell ⟨w.heap.size,3,none⟩ (.slice (some ⟨w2.heap.size,0,none⟩) 1 1))=W:=HW.out;cases frac
  ·go_upto_block 0 with fail
   clear hG3 d0 d1 d2 d3 g0 g1 g2 g3;obtain⟨n0,n1,k0,k1⟩:=HGW.out.two;by_cases hR0:R=[]
   ·have hrl0:R.length=0:=by rw[hR0];rfl
    rw[hrl0]at n0;by_cases hbig:10000<T.length
    ·have hu:=hid fun(tmps:Array Value) h4 h5=>xJ 4 (by decide) tmps w W h4 h5 _ _ _ _ HBW.out HFW.out HEW.out;have hrf:(false,0,0,4)=X:=by
      rw[←HX.out];unfold v6;rw[if_neg hneq,HR.out,HT.out];simp[hR0,hbig]
     rw[hrf]at hu;try rw[hrl0]
     clear hrf hrl0
     go_wp2
     exact hu.out _ (by simp) (by simp)
    ·obtain⟨⟨d0,d1,d2,d3⟩,g0,g1,g2,g3⟩:=HFW.out.four;obtain⟨c0,f0⟩:=HEW.out.one;have hrf:(b,N,1,0)=X:=by
      rw[←HX.out,(HNB.out (by omega)).1,(HNB.out (by omega)).2];unfold v6;rw[if_neg hneq,HR.out,HT.out];simp[hR0,hbig]
     have hu:=hid fun(tmps:Array Value) h4 h5=>wJ7 X _ _ _ hrf (w1.heap.size+1) tmps w W h4 h5 (.slice ad2 (toL N).length cap2) (.slice (some ⟨w2.heap.size,0,none⟩) 1 1) _ _ _ _ _ HBW.out HFW.out HEW.out HLW.out (by omega) HOW.out;try rw[hrl0]
     clear hrf hrl0
     go_wp2
     exact hu.out _ (by simp) (by simp)
   ·have hrl0:0<R.length:=cK.2 hR0;have hu:=hid fun(tmps:Array Value) h4 h5=>xJ 20 (by decide) tmps w W h4 h5 _ _ _ _ HBW.out HFW.out HEW.out;have hrf:(false,0,0,20)=X:=by
     rw[←HX.out];unfold v6;rw[if_neg hneq,HR.out];simp[hR0]
    rw[hrf]at hu;clear hrf
    go_wp2
    exact hu.out _ (by simp) (by simp)
  ·have q3:=qHH w1.heap.size (w.heap.size+2) w1.heap.size _ (.int .i64 (T.length:Nat)) R 3 W HGW.out HNW.out (pC _) hRl (by decide);obtain⟨z,hz⟩:∃z,ahead 3 R=z:=⟨_,rfl⟩
   rw[hz]at q3;have HZ:=hid hz;have Q3:=hid q3;clear q3 hz
   go_wp2_with fail
   clear hG3 d0 d1 d2 d3 g0 g1 g2 g3;refine Q3.out.mono ?_;rintro e W3 ⟨rfl,v3,hg3b,hn3,hg3⟩;have hF3:=jZ HFW.out hg3 (by omega);have hE3:=jZ HEW.out hg3 (by omega);have hB3:=below_grown HBW.out hg3 (by omega) (by omega);have hs3:=hg3.size;have hk3:∀q xs,wG (w1.heap.size+1) W.heap.size W q xs→wG (w1.heap.size+1) W3.heap.size W3 q xs:=fun q xs h=>(wI8 h hg3 (.inr (by omega)) (pC _)).wide (pC _) hs3
   have HL3:=hid (hk3 _ _ HLW.out);have HO3:=hid (hk3 _ _ HOW.out);have HB3:=hid hB3;have HF3:=hid hF3;have HE3:=hid hE3;have HG3:=hid hg3b;obtain⟨ad6,cap6,hsh6,hc6,hcell6⟩:=hn3.open;have HN3:=hid hn3;subst hsh6;clear hF3 hE3 hB3 hk3 hn3 hg3 hcell6 hg3b Q3;cases z
   ·rw [show behind 3 R=R by unfold behind;rw[HZ.out];rfl]at HG3 hc6 HN3
    go_upto_block 0 with fail
    obtain⟨n0,n1,k0,k1⟩:=HG3.out.two;by_cases hR0:R=[]
    ·have hrl0:R.length=0:=by rw[hR0];rfl
     rw[hrl0]at n0;by_cases hbig:10000<T.length
     ·have hu:=hid fun(tmps:Array Value) h4 h5=>xJ 4 (by decide) tmps w W3 h4 h5 _ _ _ _ HB3.out HF3.out HE3.out;have hrf:(false,0,0,4)=X:=by
       rw[←HX.out];unfold v6;rw[if_neg hneq,HR.out,HT.out,HZ.out];simp[hR0,hbig]
      rw[hrf]at hu;try rw[hrl0]
      clear hrf hrl0
      go_wp2
      exact hu.out _ (by simp) (by simp)
     ·obtain⟨⟨d0,d1,d2,d3⟩,g0,g1,g2,g3⟩:=HF3.out.four;obtain⟨c0,f0⟩:=HE3.out.one;have hrf:(b,N,1,0)=X:=by
       rw[←HX.out,(HNB.out (by omega)).1,(HNB.out (by omega)).2];unfold v6;rw[if_neg hneq,HR.out,HT.out,HZ.out];simp[hR0,hbig]
      have hu:=hid fun(tmps:Array Value) h4 h5=>wJ7 X _ _ _ hrf (w1.heap.size+1) tmps w W3 h4 h5 (.slice ad2 (toL N).length cap2) (.slice (some ⟨w2.heap.size,0,none⟩) 1 1) _ _ _ _ _ HB3.out HF3.out HE3.out HL3.out (by omega) HO3.out;try rw[hrl0]
      clear hrf hrl0
      go_wp2
      exact hu.out _ (by simp) (by simp)
    ·have hrl0:0<R.length:=cK.2 hR0;have hu:=hid fun(tmps:Array Value) h4 h5=>xJ 20 (by decide) tmps w W3 h4 h5 _ _ _ _ HB3.out HF3.out HE3.out;have hrf:(false,0,0,20)=X:=by
      rw[←HX.out];unfold v6;rw[if_neg hneq,HR.out,HZ.out];simp[hR0]
     rw[hrf]at hu;clear hrf
     go_wp2
     exact hu.out _ (by simp) (by simp)
   ·have hbe:behind 3 R=R.tail:=by unfold behind;rw[HZ.out];rfl
    rw[hbe]at HG3 hc6 HN3;obtain⟨B,hB⟩:∃B,R.tail=B:=⟨_,rfl⟩
    rw[hB]at HG3 hc6 HN3;have hBl:B.length≤1000000000:=by rw[←hB,List.length_tail];omega
    have hBs:∀r,r∈B→r<2097152:=by intro r hr;rw[←hB]at hr;exact HRS.out r (pC0 hr)
    have HBB:=hid hB;have q4:=hid (zeros_any _ _ _ B W3 HN3.out hBl hBs);obtain⟨n0,n1,k0,k1⟩:=HG3.out.two;obtain⟨nz,hnz⟩:∃nz,qV B=nz:=⟨_,rfl⟩
    rw[hnz]at q4;have HNZ0:=hid hnz;clear hbe hB hBs hnz
    go_wp2_with fail
    refine q4.out.mono ?_;rintro e w' ⟨rfl,rfl⟩;by_cases hzz:nz=true∧B≠[]
    ·obtain⟨rfl,hBne⟩:=hzz;have hBp:0<B.length:=cK.2 hBne;have hu:=hid fun(tmps:Array Value) h4 h5=>xJ 20 (by decide) tmps w w' h4 h5 _ _ _ _ HB3.out HF3.out HE3.out;have hrf:(false,0,0,20)=X:=by
      rw[←HX.out];unfold v6;rw[if_neg hneq,HR.out,HZ.out,HBB.out,HNZ0.out]
      have:B.isEmpty=false:=by simp[hBne]
      simp[this]
     rw[hrf]at hu;clear hrf hBne q4
     go_wp2
     exact hu.out _ (by simp) (by simp)
    ·have HNZ:Hid ((nz && !B.isEmpty)=false):=by
      unfold Hid;cases nz
      ·rfl
      ·have:B=[]:=dF fun h=>hzz ⟨rfl,h⟩
       rw[this];rfl
     have hdz:nz=false∨B.length=0:=by
      cases nz
      ·exact .inl rfl
      · exact .inr (by have:B=[]:=dF fun h=>hzz ⟨rfl,h⟩
                       rw[this];rfl)
     have q5:=hid (wRB w1.heap.size _ _ _ T.length B w' HG3.out HN3.out (pC _) hBl hTl);clear hzz q4;have HNZ1:Hid ((qV B&&!B.isEmpty)=false):=by rw[HNZ0.out];exact HNZ
     have hwalk:nz=false∨(nz=true∧B.length=0):=by
      cases nz
      ·exact .inl rfl
      ·exact .inr ⟨rfl,hdz.resolve_left (by simp)⟩
     clear hdz;rcases hwalk with rfl|⟨rfl,hB0⟩
     ·go_wp2_with fail
      refine q5.out.mono ?_;rintro e W4 ⟨hg4,hq4⟩;have hF4:=jZ HF3.out hg4 (by omega);have hE4:=jZ HE3.out hg4 (by omega);have hB4:=below_grown HB3.out hg4 (by omega) (by omega);have hs4:=hg4.size;have hL4:=(wI8 HL3.out hg4 (.inr (by omega)) (pC _)).wide (pC _) hs4;clear hg4 q5;rcases hq4 with⟨hd4,he4⟩|⟨hd4,v5,hG4,hN4,hq5⟩
      ·unfold wQ3 at he4;subst he4;have hu:=hid fun(tmps:Array Value) h4 h5=>xJ 20 (by decide) tmps w W4 h4 h5 _ _ _ _ hB4 hF4 hE4;have hrf:(false,0,0,20)=X:=by
        rw[←HX.out];unfold v6;rw[if_neg hneq,HR.out,HZ.out,HBB.out,HNZ1.out];simp[hd4]
       rw[hrf]at hu;clear hrf
       go_wp2
       exact hu.out _ (by simp) (by simp)
      ·have hdg:=hd4;obtain⟨qm,M,he,hlm,hMm⟩:∃(qm:Value)(M:Nat),e=.returned qm∧wG (w1.heap.size+1) W4.heap.size W4 qm (toL M) ∧
         (T.length+(jK B).length≤10000→M=wS 10 ((jK B).map wU)):=by
        rcases hq5 with⟨h1,h2⟩|⟨h1,q,h2,h3⟩
        ·exact⟨_,0,h2,by rw[wT];exact wG.nil,fun h=>absurd h (by omega)⟩
        ·exact⟨q,_,h2,h3.wide (by omega) (pC _),fun _=>rfl⟩
       have HMM:=hid hMm;subst he;obtain⟨ad7,cap7,hsh7⟩:=hlm.shape;subst hsh7;clear hq5 hMm;obtain⟨⟨d0,d1,d2,d3⟩,g0,g1,g2,g3⟩:=hF4.four;obtain⟨W5,hW5⟩:∃W5,(W4.setCell ⟨w.heap.size,2,none⟩ (.bool false)).setCell ⟨w.heap.size,3,none⟩ (.slice ad7 (toL M).length cap7)=W5:=⟨_,rfl⟩
       have hsz5:W5.heap.size=W4.heap.size:=by rw[←hW5];simp[World.setCell]
       have HB5:Hid (Below w.heap.size w W5):=by rw[←hW5];exact(hB4.setCell (by simp) _).setCell (by simp) _
       have HF5:Hid (wO W5 w.heap.size 43 [.bool b,.slice ad2 (toL N).length cap2,.bool false,.slice ad7 (toL M).length cap7]):=by rw[←hW5];exact(hF4.set 2 _).set 3 _
       have HE5:Hid (wO W5 (w.heap.size+1) 29 [.int .i64 0]):=by rw[←hW5];exact(hE4.other _ _ (by simp)).other _ _ (by simp)
       have HG5:Hid (wO W5 w1.heap.size 185 [v5,.int .i64 ((T.length+(jK B).length:Nat):Nat)]):=by rw[←hW5];exact(hG4.other _ _ (by simp;omega)).other _ _ (by simp;omega)
       have HN5:Hid (zA .i32 (w.heap.size+2) w1.heap.size W5 v5 (past B)):=by rw[←hW5];refine(hN4.set _ _ (.inl ?_)).set _ _ (.inl ?_)<;>simp
       have HL5:Hid (wG (w1.heap.size+1) W5.heap.size W5 (.slice ad2 (toL N).length cap2) (toL N)):=by rw[hsz5,←hW5];refine(hL4.set _ _ (.inl ?_)).set _ _ (.inl ?_)<;>(simp;omega)
       have HM5:Hid (wG (w1.heap.size+1) W5.heap.size W5 (.slice ad7 (toL M).length cap7) (toL M)):=by rw[hsz5,←hW5];refine(hlm.set _ _ (.inl ?_)).set _ _ (.inl ?_)<;>(simp;omega)
       obtain⟨P,hP⟩:∃P,past B=P:=⟨_,rfl⟩
       rw[hP]at HN5;obtain⟨ad8,cap8,hsh8,hc8,_⟩:=HN5.out.open;have HPP:=hid hP;have HNZ:=HNZ1;have hlo5:w1.heap.size+1≤W5.heap.size:=by omega
       subst hsh8;clear hF4 hE4 hB4 hL4 hG4 hN4 hlm hP hd4 n0 n1 k0 k1;have HW5:=hid hW5
       go_upto_block 0 with fail
       clear hW5 d0 d1 d2 d3 g0 g1 g2 g3;obtain⟨n0,n1,k0,k1⟩:=HG5.out.two;by_cases hR0:P=[]
       ·have hrl0:P.length=0:=by rw[hR0];rfl
        rw[hrl0]at n0;by_cases hbig:10000<(T.length+(jK B).length)
        ·have hu:=hid fun(tmps:Array Value) h4 h5=>xJ 4 (by decide) tmps w W5 h4 h5 _ _ _ _ HB5.out HF5.out HE5.out;have hrf:(false,0,0,4)=X:=by
          rw[←HX.out];unfold v6;rw[if_neg hneq,HR.out,HZ.out,HBB.out,HT.out,HPP.out,HNZ.out];simp[hR0,hdg,hbig]
         rw[hrf]at hu;try rw[hrl0]
         clear hrf hrl0
         go_wp2
         exact hu.out _ (by simp) (by simp)
        ·obtain⟨⟨d0,d1,d2,d3⟩,g0,g1,g2,g3⟩:=HF5.out.four;obtain⟨c0,f0⟩:=HE5.out.one;have hrf:(b,N,M,0)=X:=by
          rw[←HX.out,(HNB.out (by omega)).1,(HNB.out (by omega)).2,HMM.out (by omega)];unfold v6;rw[if_neg hneq,HR.out,HZ.out,HBB.out,HT.out,HPP.out,HNZ.out];simp[hR0,hdg,hbig]
         have hu:=hid fun(tmps:Array Value) h4 h5=>wJ7 X _ _ _ hrf (w1.heap.size+1) tmps w W5 h4 h5 (.slice ad2 (toL N).length cap2) (.slice ad7 (toL M).length cap7) _ _ _ _ _ HB5.out HF5.out HE5.out HL5.out (by omega) HM5.out;try rw[hrl0]
         clear hrf hrl0
         go_wp2
         exact hu.out _ (by simp) (by simp)
       ·have hrl0:0<P.length:=cK.2 hR0;have hu:=hid fun(tmps:Array Value) h4 h5=>xJ 20 (by decide) tmps w W5 h4 h5 _ _ _ _ HB5.out HF5.out HE5.out;have hrf:(false,0,0,20)=X:=by
         rw[←HX.out];unfold v6;rw[if_neg hneq,HR.out,HZ.out,HBB.out,HT.out,HPP.out,HNZ.out];simp[hR0,hdg]
        rw[hrf]at hu;clear hrf
        go_wp2
        exact hu.out _ (by simp) (by simp)
     ·try rw[hB0]
      rw[hB0]at n0
      go_wp2_with fail
      refine q5.out.mono ?_;rintro e W4 ⟨hg4,hq4⟩;have hF4:=jZ HF3.out hg4 (by omega);have hE4:=jZ HE3.out hg4 (by omega);have hB4:=below_grown HB3.out hg4 (by omega) (by omega);have hs4:=hg4.size;have hL4:=(wI8 HL3.out hg4 (.inr (by omega)) (pC _)).wide (pC _) hs4;clear hg4 q5;rcases hq4 with⟨hd4,he4⟩|⟨hd4,v5,hG4,hN4,hq5⟩
      ·unfold wQ3 at he4;subst he4;have hu:=hid fun(tmps:Array Value) h4 h5=>xJ 20 (by decide) tmps w W4 h4 h5 _ _ _ _ hB4 hF4 hE4;have hrf:(false,0,0,20)=X:=by
        rw[←HX.out];unfold v6;rw[if_neg hneq,HR.out,HZ.out,HBB.out,HNZ1.out];simp[hd4]
       rw[hrf]at hu;clear hrf
       go_wp2
       exact hu.out _ (by simp) (by simp)
      ·have hdg:=hd4;obtain⟨qm,M,he,hlm,hMm⟩:∃(qm:Value)(M:Nat),e=.returned qm∧wG (w1.heap.size+1) W4.heap.size W4 qm (toL M) ∧
         (T.length+(jK B).length≤10000→M=wS 10 ((jK B).map wU)):=by
        rcases hq5 with⟨h1,h2⟩|⟨h1,q,h2,h3⟩
        ·exact⟨_,0,h2,by rw[wT];exact wG.nil,fun h=>absurd h (by omega)⟩
        ·exact⟨q,_,h2,h3.wide (by omega) (pC _),fun _=>rfl⟩
       have HMM:=hid hMm;subst he;obtain⟨ad7,cap7,hsh7⟩:=hlm.shape;subst hsh7;clear hq5 hMm;obtain⟨⟨d0,d1,d2,d3⟩,g0,g1,g2,g3⟩:=hF4.four;obtain⟨W5,hW5⟩:∃W5,(W4.setCell ⟨w.heap.size,2,none⟩ (.bool false)).setCell ⟨w.heap.size,3,none⟩ (.slice ad7 (toL M).length cap7)=W5:=⟨_,rfl⟩
       have hsz5:W5.heap.size=W4.heap.size:=by rw[←hW5];simp[World.setCell]
       have HB5:Hid (Below w.heap.size w W5):=by rw[←hW5];exact(hB4.setCell (by simp) _).setCell (by simp) _
       have HF5:Hid (wO W5 w.heap.size 43 [.bool b,.slice ad2 (toL N).length cap2,.bool false,.slice ad7 (toL M).length cap7]):=by rw[←hW5];exact(hF4.set 2 _).set 3 _
       have HE5:Hid (wO W5 (w.heap.size+1) 29 [.int .i64 0]):=by rw[←hW5];exact(hE4.other _ _ (by simp)).other _ _ (by simp)
       have HG5:Hid (wO W5 w1.heap.size 185 [v5,.int .i64 ((T.length+(jK B).length:Nat):Nat)]):=by rw[←hW5];exact(hG4.other _ _ (by simp;omega)).other _ _ (by simp;omega)
       have HN5:Hid (zA .i32 (w.heap.size+2) w1.heap.size W5 v5 (past B)):=by rw[←hW5];refine(hN4.set _ _ (.inl ?_)).set _ _ (.inl ?_)<;>simp
       have HL5:Hid (wG (w1.heap.size+1) W5.heap.size W5 (.slice ad2 (toL N).length cap2) (toL N)):=by rw[hsz5,←hW5];refine(hL4.set _ _ (.inl ?_)).set _ _ (.inl ?_)<;>(simp;omega)
       have HM5:Hid (wG (w1.heap.size+1) W5.heap.size W5 (.slice ad7 (toL M).length cap7) (toL M)):=by rw[hsz5,←hW5];refine(hlm.set _ _ (.inl ?_)).set _ _ (.inl ?_)<;>(simp;omega)
       obtain⟨P,hP⟩:∃P,past B=P:=⟨_,rfl⟩
       rw[hP]at HN5;obtain⟨ad8,cap8,hsh8,hc8,_⟩:=HN5.out.open;have HPP:=hid hP;have HNZ:=HNZ1;have hlo5:w1.heap.size+1≤W5.heap.size:=by omega
       subst hsh8;clear hF4 hE4 hB4 hL4 hG4 hN4 hlm hP hd4 n0 n1 k0 k1;have HW5:=hid hW5
       go_upto_block 0 with fail
       clear hW5 d0 d1 d2 d3 g0 g1 g2 g3;obtain⟨n0,n1,k0,k1⟩:=HG5.out.two;by_cases hR0:P=[]
       ·have hrl0:P.length=0:=by rw[hR0];rfl
        rw[hrl0]at n0;by_cases hbig:10000<(T.length+(jK B).length)
        ·have hu:=hid fun(tmps:Array Value) h4 h5=>xJ 4 (by decide) tmps w W5 h4 h5 _ _ _ _ HB5.out HF5.out HE5.out;have hrf:(false,0,0,4)=X:=by
          rw[←HX.out];unfold v6;rw[if_neg hneq,HR.out,HZ.out,HBB.out,HT.out,HPP.out,HNZ.out];simp[hR0,hdg,hbig]
         rw[hrf]at hu;try rw[hrl0]
         clear hrf hrl0
         go_wp2
         exact hu.out _ (by simp) (by simp)
        ·obtain⟨⟨d0,d1,d2,d3⟩,g0,g1,g2,g3⟩:=HF5.out.four;obtain⟨c0,f0⟩:=HE5.out.one;have hrf:(b,N,M,0)=X:=by
          rw[←HX.out,(HNB.out (by omega)).1,(HNB.out (by omega)).2,HMM.out (by omega)];unfold v6;rw[if_neg hneq,HR.out,HZ.out,HBB.out,HT.out,HPP.out,HNZ.out];simp[hR0,hdg,hbig]
         have hu:=hid fun(tmps:Array Value) h4 h5=>wJ7 X _ _ _ hrf (w1.heap.size+1) tmps w W5 h4 h5 (.slice ad2 (toL N).length cap2) (.slice ad7 (toL M).length cap7) _ _ _ _ _ HB5.out HF5.out HE5.out HL5.out (by omega) HM5.out;try rw[hrl0]
         clear hrf hrl0
         go_wp2
         exact hu.out _ (by simp) (by simp)
       ·have hrl0:0<P.length:=cK.2 hR0;have hu:=hid fun(tmps:Array Value) h4 h5=>xJ 20 (by decide) tmps w W5 h4 h5 _ _ _ _ HB5.out HF5.out HE5.out;have hrf:(false,0,0,20)=X:=by
         rw[←HX.out];unfold v6;rw[if_neg hneq,HR.out,HZ.out,HBB.out,HT.out,HPP.out,HNZ.out];simp[hR0,hdg]
        rw[hrf]at hu;clear hrf
        go_wp2
        exact hu.out _ (by simp) (by simp)
def Iters(w w':World):Prop:=∀(k:Nat)(s:ByteArray)(pos:Nat),w.heap[k]? = some (Obj.stringIter s pos)→w'.heap[k]? = some (Obj.stringIter s pos)
def encB(L:List Nat):List UInt8:=L.flatMap fun(r:Nat)=>Lib.encodeRune (r:Int)
def txt(L:List Nat):ByteArray:=⟨(encB L).toArray⟩
theorem encB_len(L:List Nat):(encB L).length≤4*L.length:=by
 induction L with
 |nil=>simp[encB]
 |cons r L ih=>
  have h:=Lib.runeCells_le (r:Int);rw[←Lib.byteCells_encodeRune]at h
  have:encB (r::L)=Lib.encodeRune (r:Int)++encB L:=by simp[encB]
  rw[this,pX,pM];simp[Lib.byteCells]at h;omega
theorem wW3(r:Nat):kindOf r=3↔zI r=false∧jW r=true:=by
 unfold kindOf;cases zI r<;>cases jW r<;>simp;all_goals repeat' split
 all_goals simp
theorem frac_any(s:ByteArray)(w:World)(hs:s.size≤1000000000) :
  Calls Tryz.prog 45 #[.string s] w fun e w'=>Below w.heap.size w w'∧wC3 w w' e (v6 true (wD s)):=by
 obtain⟨hb0,b0,hsz⟩:=boxA w #[.bool false,.slice none 0 0,.bool false,.slice none 0 0] 43;have q0:=read_any s true (w.alloc (.cells #[.bool false,.slice none 0 0,.bool false,.slice none 0 0] 43)) hs;obtain⟨⟨ng,N,M,cd⟩,hx⟩:∃x,v6 true (wD s)=x:=⟨_,rfl⟩
 rw[hx]at q0;have q1:=hid q0;have HX:=hid hx;clear q0 hx
 go_enter Tryz.func45,Tryz.ntmps45
 go_wp2_with fail
 refine q1.out.mono ?_;rintro e w1 ⟨hb1,q,p,rfl,hq,hp⟩;obtain⟨⟨d0,d1,d2,d3⟩,g0,g1,g2,g3⟩:=(b0.later hb1).four;obtain⟨ad,cap,rfl⟩:=hq.shape;obtain⟨ad2,cap2,rfl⟩:=hp.shape;have hbel:=hb0.trans (hb1.mono hb0.size);have hlt:w.heap.size<(w.alloc (.cells #[.bool false,.slice none 0 0,.bool false,.slice none 0 0] 43)).heap.size:=by omega
 have hk:∀v xs,wG (w.alloc (.cells #[.bool false,.slice none 0 0,.bool false,.slice none 0 0] 43)).heap.size w1.heap.size w1 v xs→∀(a b c d:Value),wG w.heap.size ((((w1.setCell ⟨w.heap.size,0,none⟩ a).setCell ⟨w.heap.size,1,none⟩ b).setCell ⟨w.heap.size,2,none⟩ c).setCell ⟨w.heap.size,3,none⟩ d).heap.size ((((w1.setCell ⟨w.heap.size,0,none⟩ a).setCell ⟨w.heap.size,1,none⟩ b).setCell ⟨w.heap.size,2,none⟩ c).setCell ⟨w.heap.size,3,none⟩ d) v xs:=fun v xs h a b c d=>((((h.set _ _ (.inl hlt)).set _ _ (.inl hlt)).set _ _ (.inl hlt)).set _ _ (.inl hlt)).wide hb0.size (by simp[World.setCell])
 have HK:=hid hk;clear q1 hb1 b0 hsz hk
 go_wp2
 refine bodyPost_ret (v:=.tuple #[.agg #[.bool ng,.slice ad (toL N).length cap,.bool false,.slice ad2 (toL M).length cap2],.int .i64 (cd:Nat)]) (by simp[results,Tryz.results45,go_sem,d0,d1,d2,d3]) rfl ?_;rw[HX.out];exact⟨(((hbel.setCell (by simp) _).setCell (by simp) _).setCell (by simp) _).setCell (by simp) _,_,_,rfl,HK.out _ _ hq _ _ _ _,HK.out _ _ hp _ _ _ _⟩
def kK{α:Type}(sz:Nat)(R:World→α→List Value→Prop)(lo hi:Nat)(w:World)(v:Value)(l:List α):Prop:=
 ∃ ad cap,v=.slice ad l.length cap∧l.length≤cap∧(ad=none→cap=0) ∧
  (l≠[]→∃b off,ad=some ⟨b,off,none⟩∧lo≤b∧b<hi ∧
   ∀(i:Nat)(x:α),l[i]? = some x→∃cs:List Value,cs.length=sz∧R w x cs∧∀j,j<sz→w.cell? ⟨b,off+i*sz+j,none⟩=cs[j]?)
theorem kK.nil{α:Type}{sz:Nat}{R:World→α→List Value→Prop}{lo hi:Nat}{w:World}:kK sz R lo hi w (.slice none 0 0) ([]:List α):=
 ⟨none,0,rfl,pC _,fun _=>rfl,fun h=>absurd rfl h⟩
theorem kK.shape{α:Type}{sz:Nat}{R:World→α→List Value→Prop}{lo hi:Nat}{w:World}{v:Value}{l:List α}(h:kK sz R lo hi w v l):∃ad cap,v=.slice ad l.length cap:=by obtain⟨ad,cap,hv,_⟩:=h;exact⟨ad,cap,hv⟩
theorem kK.keep{α:Type}{sz:Nat}{R:World→α→List Value→Prop}{lo hi:Nat}{w w':World}{v:Value}{l:List α}(h:kK sz R lo hi w v l)(hk:∀b,lo≤b→b<hi→w'.heap[b]? = w.heap[b]?)(hR:∀x cs,R w x cs→R w' x cs):kK sz R lo hi w' v l:=by obtain⟨ad,cap,hv,hc,hn,hne⟩:=h;refine⟨ad,cap,hv,hc,hn,fun h=>?_⟩;obtain⟨b,off,ha,hl,hh,hel⟩:=hne h;refine⟨b,off,ha,hl,hh,fun i x hx=>?_⟩;obtain⟨cs,h1,h2,h3⟩:=hel i x hx;exact⟨cs,h1,hR x cs h2,fun j hj=>(World.cell?_of_block (hk b hl hh)).trans (h3 j hj)⟩
theorem kK.wide{α:Type}{sz:Nat}{R R':World→α→List Value→Prop}{lo hi lo' hi':Nat}{w:World}{v:Value}{l:List α}(h:kK sz R lo hi w v l)(h1:lo'≤lo)(h2:hi≤hi')(hR:∀x cs,R w x cs→R' w x cs):kK sz R' lo' hi' w v l:=by obtain⟨ad,cap,hv,hc,hn,hne⟩:=h;refine⟨ad,cap,hv,hc,hn,fun h=>?_⟩;obtain⟨b,off,ha,hl,hh,hel⟩:=hne h;refine⟨b,off,ha,by omega,by omega,fun i x hx=>?_⟩;obtain⟨cs,h1,h2,h3⟩:=hel i x hx;exact⟨cs,h1,hR x cs h2,h3⟩
theorem kK.at{α:Type}{sz:Nat}{R:World→α→List Value→Prop}{lo hi:Nat}{w:World}{v:Value}{l:List α}(h:kK sz R lo hi w v l)(i:Nat)(x:α)(hx:l[i]? = some x) :
  ∃b off cap cs,v=.slice (some ⟨b,off,none⟩) l.length cap∧l.length≤cap∧lo≤b∧b<hi∧cs.length=sz∧R w x cs∧∀j,j<sz→w.cell? ⟨b,off+i*sz+j,none⟩=cs[j]?:=by
 obtain⟨ad,cap,rfl,hc,hn,hne⟩:=h;obtain⟨b,off,rfl,hl,hh,hel⟩:=hne (by intro e;subst e;simp at hx);obtain⟨cs,h1,h2,h3⟩:=hel i x hx;exact⟨b,off,cap,cs,rfl,hc,hl,hh,h1,h2,h3⟩
theorem flat_get{sz:Nat}:∀(cs:List (List Value))(i j:Nat)(c:List Value),(∀x,x∈cs→x.length=sz)→cs[i]? = some c→j<sz→cs.flatten[i*sz+j]? = c[j]?:=by
 intro cs
 induction cs with
 |nil=>intro i j c _ h;simp at h
 | cons x cs ih=>
  intro i j c hx h hj;have h0:=hx x (pQ ..);rw[mT];cases i with
  |zero=>simp only[List.getElem?_cons_zero,Option.some.injEq]at h;subst h;rw[pB5,cL,cD (by omega)]
  |succ i=>simp only[List.getElem?_cons_succ]at h;rw[cC (by rw[h0,mY];omega),h0,show(i+1)*sz+j-sz=i*sz+j by rw[mY];omega];exact ih i j c (fun y hy=>hx y (pO _ hy)) h hj
theorem kK.ofOwn{α:Type}{sz:Nat}{R:World→α→List Value→Prop}{B n:Nat}{w:World}{e:TypeId}{v:Value}{l:List α}{cs:List (List Value)}(hsz:0<sz)(h:w.ownsRow B e sz v n cs.flatten)(hl:cs.length=l.length)(hc:∀x,x∈cs→x.length=sz)(hR:∀(i:Nat)(x:α)(c:List Value),l[i]? = some x→cs[i]? = some c→R w x c):kK sz R B w.heap.size w v l:=by
 have hlen:cs.flatten.length=cs.length*sz:=by
  clear h hl hR
  induction cs with
  |nil=>simp
  |cons x cs ih=>rw[mT,pX,hc x (pQ ..),ih (fun y hy=>hc y (pO _ hy)),pM,mY];omega
 have hn:l.length=n:=by have:=h.1;rw[hlen,hl]at this;exact Nat.eq_of_mul_eq_mul_right hsz this
 subst hn;rcases h.2 with⟨rfl,h0⟩|⟨g,cap,cur,rfl,hb,hg,hcap,hm,hs,ht⟩
 ·obtain rfl:l=[]:=pN h0;exact kK.nil
 ·refine⟨_,cap,rfl,by omega,(by simp),fun _=>⟨g,0,rfl,hb,(pU.1 hg).1,fun i x hx=>?_⟩⟩;have hi:=(pY.1 hx).1;have hci:cs[i]? = some (cs[i]'(by omega)):=pK _;refine⟨cs[i]'(by omega),hc _ (List.getElem_mem _),hR i x _ hx hci,fun j hj=>?_⟩;have h1:=flat_get cs i j _ hc hci hj;rw[←ht,dA]at h1;rw[cell_of_row w g _ cur e (0,0) hg,cL];split at h1
  ·rw[←h1];simp
  ·rename_i hnlt;exfalso;apply hnlt
   have:(i+1)*sz≤l.length*sz:=mM _ hi
   rw[mY]at this;omega
def kN(lo hi:Nat)(w:World)(x:Bool×List Nat×Bool×List Nat)(cs:List Value):Prop:=
 ∃q p,cs=[.bool x.1,q,.bool x.2.2.1,p]∧wG lo hi w q x.2.1∧wG lo hi w p x.2.2.2
theorem kN.keep{lo hi:Nat}{w w':World}(hk:∀b,lo≤b→b<hi→w'.heap[b]? = w.heap[b]?)(x:Bool×List Nat×Bool×List Nat)(cs:List Value)(h:kN lo hi w x cs):kN lo hi w' x cs:=by obtain⟨q,p,rfl,hq,hp⟩:=h;exact⟨q,p,rfl,hq.keep hk,hp.keep hk⟩
theorem kN.wide{lo hi lo' hi':Nat}{w:World}(h1:lo'≤lo)(h2:hi≤hi')(x:Bool×List Nat×Bool×List Nat)(cs:List Value)(h:kN lo hi w x cs):kN lo' hi' w x cs:=by obtain⟨q,p,rfl,hq,hp⟩:=h;exact⟨q,p,rfl,hq.wide h1 h2,hp.wide h1 h2⟩
def wA0(lo hi:Nat)(w:World)(v:Value)(l:List (Bool×List Nat×Bool×List Nat)):Prop:=kK 4 (kN lo hi) lo hi w v l
theorem wA0.keep{lo hi:Nat}{w w':World}{v:Value}{l:List (Bool×List Nat×Bool×List Nat)}(h:wA0 lo hi w v l)(hk:∀b,lo≤b→b<hi→w'.heap[b]? = w.heap[b]?):wA0 lo hi w' v l:=
 kK.keep h hk (kN.keep hk)
theorem wA0.below{lo hi B:Nat}{w w':World}{v:Value}{l:List (Bool×List Nat×Bool×List Nat)}(h:wA0 lo hi w v l)(hb:Below B w w')(hB:hi≤B):wA0 lo hi w' v l:=
 h.keep fun b _ hh=>hb.block b (by omega)
theorem wA0.wide{lo hi lo' hi':Nat}{w:World}{v:Value}{l:List (Bool×List Nat×Bool×List Nat)}(h:wA0 lo hi w v l)(h1:lo'≤lo)(h2:hi≤hi'):wA0 lo' hi' w v l:=
 kK.wide h h1 h2 (kN.wide h1 h2)
theorem wA0.at{lo hi:Nat}{w:World}{v:Value}{l:List (Bool×List Nat×Bool×List Nat)}(h:wA0 lo hi w v l)(i:Nat)(x:Bool×List Nat×Bool×List Nat)(hx:l[i]? = some x) :
  ∃b off cap q p,v=.slice (some ⟨b,off,none⟩) l.length cap∧l.length≤cap∧lo≤b∧b<hi∧wG lo hi w q x.2.1∧wG lo hi w p x.2.2.2 ∧
   w.cell? ⟨b,off+i*4,none⟩=some (.bool x.1)∧w.cell? ⟨b,off+i*4+1,none⟩=some q∧w.cell? ⟨b,off+i*4+2,none⟩=some (.bool x.2.2.1)∧w.cell? ⟨b,off+i*4+3,none⟩=some p:=by
 obtain⟨b,off,cap,cs,rfl,hc,hl,hh,_,⟨q,p,rfl,hq,hp⟩,hcell⟩:=kK.at h i x hx;exact⟨b,off,cap,q,p,rfl,hc,hl,hh,hq,hp,hcell 0 (by decide),hcell 1 (by decide),hcell 2 (by decide),hcell 3 (by decide)⟩
theorem wG.grown{lo hi:Nat}{w w':World}{v:Value}{xs:List Nat}{row:Option Nat}(h:wG lo hi w v xs)(h0:0<lo)(hg:w.grownBy w' row)(hr:∀g,row=some g→∃c T f,w.heap[g]? = some (.cells c T f)∧T≠66):wG lo hi w' v xs:=by
 obtain⟨ad,cap,hv,hc,hn,hx,hne⟩:=h;refine⟨ad,cap,hv,hc,hn,hx,fun hp=>?_⟩;obtain⟨b,off,ha,hl,hh,hcell,hu⟩:=hne hp;obtain⟨cur,hb⟩:=hu h0;have hk:w'.heap[b]? = w.heap[b]?:=by refine hg.block b (pU.1 hb).1 fun e=>?_;obtain⟨c,T,f,h1,h2⟩:=hr b e.symm;rw[hb]at h1;simp only[Option.some.injEq,Obj.cells.injEq]at h1;exact h2 h1.2.1.symm
 exact⟨b,off,ha,hl,hh,fun i hi=>(World.cell?_of_block hk).trans (hcell i hi),fun _=>⟨cur,hk.trans hb⟩⟩
theorem qAJ:Elem Tryz.prog 101 104 (.agg #[.string ⟨#[]⟩,.bool false]) 2 24:=
 ⟨Tryz.underlying101,by kernel_rfl,rfl,by decide⟩
theorem step_own{P:Program}{w w0:World}{ops:Array Oper}{o:Oper}{a:Act}{K:Act→World→Prop}{Q:Exit→Act→World→Prop}{E0:Prop}{t e:TypeId}{z:Value}{size bytes:Nat}(E:Elem P t e z size bytes)(hg:o.guard=none)(s x:Operand)(ho:o.op=.call { callee:=.builtin .append,args:=#[s,x],argTypes:=#[t,t] })
  (B n m c:Nat) (v:Value) (xs:List Value) (arr:Array Value) (hown:w.ownsRow B e size v n xs) (hs:a.eval s=v) (hx:a.eval x=.slice (some ⟨w.heap.size,0,none⟩) m c)
  (hl:arr.size=m*size) (h1:∀u,u∈arr.toList→u.oneCell'=true)
  (hb:(n+m)*bytes≤140737488355328) (hm:0<m) (h63:n+m≤maxLen) (hbl:Below B w0 w) (hB:B≤w.heap.size)
  (h:∀g' c' w',w'.ownsRow B e size (.slice (some ⟨g',0,none⟩) (n+m) c') (n+m) (xs++arr.toList)→Below B w0 w'→(w.alloc (.cells arr e)).grownBy w' v.ownBlock→
   K (a.put o.dst (.slice (some ⟨g',0,none⟩) (n+m) c')) w') :
  if Region.wanted o (yielded ops a.tmps)=true then Oper.wp P o a (w.alloc (.cells arr e)) K Q else E0:=by
 have hw:Region.wanted o (yielded ops a.tmps)=true:=by simp[Region.wanted,hg]
 rw[if_pos hw];obtain⟨i,hi,hz,hsz,hby⟩:=info_parts E.row;refine wp_append_own _ s x t ho B e i z size bytes E.sl hi hz hsz hby E.zs E.pos v n xs hs (hown.alloc _) ⟨w.heap.size,0,none⟩ m c arr.toList hx (by simpa using hl) ?_ h1 h63 hb
  (by simp;omega) ?_
 ·intro j u hj;rw[Addr.add_lit];have:=cell_of_row (w.alloc (.cells arr e)) w.heap.size (0+j) arr e (0,0) (heap_alloc_new w _);rw[this];simpa using hj
 ·intro v' w' hown' hgr hnil;have hsh:∃g' c',v'=.slice (some ⟨g',0,none⟩) (n+m) c':=by
   rcases hown'.2 with⟨h1,_⟩|⟨g',c',_,h1,_⟩
   ·have:=(hnil.1 h1).2;omega
   ·exact⟨g',c',h1⟩
  obtain⟨g',c',rfl⟩:=hsh;refine h g' c' w' hown' ((hbl.alloc hB _).grown hgr (by simp;omega) ?_) hgr;intro k hk;exact((hown.lt) k hk).1
theorem wO.grown{w w':World}{g:Nat}{T:TypeId}{cs:List Value}{row:Option Nat}(h:wO w g T cs)(hg:w.grownBy w' row)(hr:∀k,row=some k→∃c T' f,w.heap[k]? = some (.cells c T' f)∧T'≠T):wO w' g T cs:=by refine h.keep (hg.block g h.lt fun e=>?_);obtain⟨c,T',f,h1,h2⟩:=hr g e.symm;have h3:w.heap[g]? = some (.cells cs.toArray T (0,0)):=h;rw[h3]at h1;simp only[Option.some.injEq,Obj.cells.injEq]at h1;exact h2 h1.2.1.symm
theorem jT{w:World}{B:Nat}{e:TypeId}{size n:Nat}{v:Value}{xs:List Value}(h:w.ownsRow B e size v n xs)(T:TypeId)(hne:e≠T):∀g,v.ownBlock=some g→∃c T' f,w.heap[g]? = some (.cells c T' f)∧T'≠T:=by
 intro g hg;rcases h.2 with⟨rfl,_⟩|⟨g',cap,cur,rfl,_,hgg,_⟩
 ·simp[Value.ownBlock]at hg
 ·simp[Value.ownBlock]at hg;subst hg;exact⟨_,_,_,hgg,hne⟩
theorem end_none(i:Int)(bf bl bs:Nat)(w:World)(hf:w.cell? ⟨bf,0,none⟩=some (.int .i64 (-1))) :
  Calls Tryz.prog 84 #[.int .i64 i,.pointer (some ⟨bf,0,none⟩),.pointer (some ⟨bl,0,none⟩),.pointer (some ⟨bs,0,none⟩)] w fun e w'=>e=.returned (.tuple #[])∧w=w':=by
 go_enter Tryz.func84,Tryz.ntmps84
 go_wp2
 go_end0
 exact⟨rfl,rfl⟩
structure PieceSt(B:Nat)(w0 w:World)(bs bl bf:Nat)(s:ByteArray)(from_:Int)(n:Nat)(cells:List Value):Prop where
 bs:wO w bs 9 [.string s]
 bf:wO w bf 3 [.int .i64 from_]
 row:∃v,wO w bl 101 [v]∧w.ownsRow B 104 2 v n cells
 below:Below B w0 w
theorem end_some(i a:Nat)(s:ByteArray)(B bs bl bf n:Nat)(cells:List Value)(w0 w:World)(h:PieceSt B w0 w bs bl bf s (a:Nat) n cells)(hB1:B≤bl)(hB2:B≤bf)(hai:a≤i)(his:i≤s.size)(hs:s.size≤1000000000)(hn:n≤1000000000) :
  Calls Tryz.prog 84 #[.int .i64 (i:Nat),.pointer (some ⟨bf,0,none⟩),.pointer (some ⟨bl,0,none⟩),.pointer (some ⟨bs,0,none⟩)] w fun e w'=>e=.returned (.tuple #[]) ∧
   PieceSt B w0 w' bs bl bf s (-1) (n+1) (cells++[.string (s.extract a i),.bool false])∧Iters w w':=by
 obtain⟨hbs,hbf,⟨v,hbl,hown⟩,hbel⟩:=h;obtain⟨c0,f0⟩:=hbs.one;obtain⟨c1,f1⟩:=hbf.one;obtain⟨c2,f2⟩:=hbl.one
 go_enter Tryz.func84,Tryz.ntmps84
 go_wp2
 have hownD:w.drew.ownsRow B 104 2 v n cells:=hown;have hbelD:Below B w0 w.drew:=hbel.drew;have hBw:B≤w.drew.heap.size:=dK (fM hB1 hbl.lt);obtain⟨c3,f3⟩:=(hbl.alloc (.cells #[.string (s.extract a i),.bool false] 104)).one;have HBS:=hid hbs;have HBF:=hid hbf;have HBL:=hid hbl;have i1:(a:Int)≤(i:Int):=by omega
 have i2:(i:Int)≤(s.size:Int):=by omega
 clear hbs hbf hbl hown hbel
 go_region_law ((refine step_own qAJ rfl _ _ rfl B n 1 1 v cells #[.string (s.extract a i),.bool false] hownD rfl rfl rfl (by simp[Value.oneCell']) (by omega) (by decide) (by unfold maxLen;omega) hbelD hBw ?_;intro g6 c6 w6 ho6 hb6 hg6;obtain⟨e0,k0⟩:=wO.one (wO.grown (wO.alloc (w:=w.drew) HBL.out (.cells #[.string (s.extract a i),.bool false] 104)) hg6 (jT (hownD.alloc _) _ (by decide)))))
 all_goals
  have P1:=wO.grown (wO.alloc (w:=w.drew) HBS.out (.cells #[.string (s.extract a i),.bool false] 104)) hg6 (jT (hownD.alloc _) _ (by decide));have P2:=wO.grown (wO.alloc (w:=w.drew) HBF.out (.cells #[.string (s.extract a i),.bool false] 104)) hg6 (jT (hownD.alloc _) _ (by decide));have P3:=wO.grown (wO.alloc (w:=w.drew) HBL.out (.cells #[.string (s.extract a i),.bool false] 104)) hg6 (jT (hownD.alloc _) _ (by decide));have n1:bl≠bs:=by intro e;have:=HBL.out;rw[e]at this;have h2:=HBS.out;simp only[wO]at this h2;rw[h2]at this;simp at this
  have n2:bl≠bf:=by intro e;have:=HBL.out;rw[e]at this;have h2:=HBF.out;simp only[wO]at this h2;rw[h2]at this;simp at this
  have n3:bf≠bs:=by intro e;have:=HBF.out;rw[e]at this;have h2:=HBS.out;simp only[wO]at this h2;rw[h2]at this;simp at this
  have n4:g6≠bl:=by intro e;obtain⟨c,T',f,h1,h2⟩:=jT ho6 101 (by decide) g6 rfl;rw[e]at h1;have h3:w6.heap[bl]? = some _:=P3;rw[h3]at h1;simp only[Option.some.injEq,Obj.cells.injEq]at h1;exact h2 h1.2.1.symm
  have n5:g6≠bf:=by intro e;obtain⟨c,T',f,h1,h2⟩:=jT ho6 3 (by decide) g6 rfl;rw[e]at h1;have h3:w6.heap[bf]? = some _:=P2;rw[h3]at h1;simp only[Option.some.injEq,Obj.cells.injEq]at h1;exact h2 h1.2.1.symm
  have hit:Iters w w6:=by
   intro k s' pos hk;refine wG2 (hg6) ?_ ?_
   ·exact(Below.heap_alloc w.drew _ k (pU.1 hk).1).trans hk
   ·exact wN9 (hownD.alloc _)
  have P1':=(P1.other ⟨bl,0,none⟩ (.slice (some ⟨g6,0,none⟩) (n+1) c6) (dI n1)).other ⟨bf,0,none⟩ (.int .i64 (-1)) (dI n3);have P2':=(P2.other ⟨bl,0,none⟩ (.slice (some ⟨g6,0,none⟩) (n+1) c6) (dI n2))
  have P2'':=P2'.set 0 (.int .i64 (-1));have P3':=(P3.set 0 (.slice (some ⟨g6,0,none⟩) (n+1) c6)).other ⟨bf,0,none⟩ (.int .i64 (-1)) n2;have O':=vX (vX ho6 ⟨bl,0,none⟩ (.slice (some ⟨g6,0,none⟩) (n+1) c6) (by simp[Value.ownBlock];exact n4)) ⟨bf,0,none⟩ (.int .i64 (-1)) (by simp[Value.ownBlock];exact n5);have D':=(hb6.setCell (p:=⟨bl,0,none⟩) hB1 (.slice (some ⟨g6,0,none⟩) (n+1) c6)).setCell (p:=⟨bf,0,none⟩) hB2 (.int .i64 (-1));have FIN:Hid (PieceSt B w0 ((w6.setCell ⟨bl,0,none⟩ (.slice (some ⟨g6,0,none⟩) (n+1) c6)).setCell ⟨bf,0,none⟩ (.int .i64 (-1))) bs bl bf s (-1) (n+1) (cells++[.string (s.extract a i),.bool false])):=
   ⟨P1',P2'',⟨_,P3',O'⟩,D'⟩
  have IT:Hid (Iters w ((w6.setCell ⟨bl,0,none⟩ (.slice (some ⟨g6,0,none⟩) (n+1) c6)).setCell ⟨bf,0,none⟩ (.int .i64 (-1)))):=by
   intro k s' pos hk;have h6:=hit k s' pos hk;have e1:bl≠k:=by intro e;subst e;have h3:w6.heap[bl]? = some _:=P3;rw[h3]at h6;cases h6
   have e2:bf≠k:=by intro e;subst e;have h3:w6.heap[bf]? = some _:=P2;rw[h3]at h6;cases h6
   rw[Below.heap_setCell _ _ _ _ (dI e2),Below.heap_setCell _ _ _ _ (dI e1)];exact h6
  obtain⟨m0,l0⟩:=P2'.one;clear P1 P2 P3 n1 n2 n3 n4 n5 P1' P2'' P3' O' D' P2' hit ho6 hb6 hg6 hownD hbelD
  go_wp2
  go_end0
  exact⟨rfl,FIN.out,IT.out⟩
def kV(s:ByteArray):Nat→Nat→List (Nat×Nat)
 |0,_=>[]
 |f+1,pos=>if pos<s.size then(pos,(Utf8.decode s pos).1)::kV s f (pos+(Utf8.decode s pos).2)else[]
def qN(s:ByteArray)(pos:Nat):List (Nat×Nat):=kV s (s.size-pos) pos
theorem qD7(s:ByteArray):∀f pos,s.size-pos≤f→kV s (f+1) pos=kV s f pos:=by
 intro f
 induction f with
 |zero=>intro pos h;simp[kV];omega
 | succ f ih=>
  intro pos h;by_cases hp:pos<s.size
  ·have hw:=(qD s pos).1;have h1:kV s (f+1+1) pos=(pos,(Utf8.decode s pos).1)::kV s (f+1) (pos+(Utf8.decode s pos).2):=by rw[kV,if_pos hp]
   have h2:kV s (f+1) pos=(pos,(Utf8.decode s pos).1)::kV s f (pos+(Utf8.decode s pos).2):=by rw[kV,if_pos hp]
   rw[h1,h2,ih _ (by omega)]
  ·have h1:kV s (f+1+1) pos=[]:=by rw[kV,if_neg hp]
   have h2:kV s (f+1) pos=[]:=by rw[kV,if_neg hp]
   rw[h1,h2]
theorem qD8(s:ByteArray)(pos n d:Nat)(h:s.size-pos≤n):kV s (n+d) pos=kV s n pos:=by
 induction d with
 |zero=>rfl
 |succ d ih=>rw[←cA,qD7 s _ _ (by omega),ih]
theorem vV(s:ByteArray)(pos:Nat)(h:¬pos<s.size):qN s pos=[]:=by unfold qN;rw[show s.size-pos=0 from by omega];rfl
theorem jY(s:ByteArray)(pos:Nat)(h:pos<s.size):qN s pos=(pos,(Utf8.decode s pos).1)::qN s (pos+(Utf8.decode s pos).2):=by
 unfold qN;obtain⟨m,hm⟩:∃m,s.size-pos=m+1:=⟨s.size-pos-1,by omega⟩
 have hw:=(qD s pos).1;rw[hm,kV,if_pos h];obtain⟨d,hd⟩:∃d,m=(s.size-(pos+(Utf8.decode s pos).2))+d:=⟨m-(s.size-(pos+(Utf8.decode s pos).2)),by omega⟩
 rw[hd,qD8 s _ _ d (pC _)]
def yA(s:ByteArray)(fr:Option Nat)(i:Nat):List (ByteArray×Bool):=match fr with|none=>[]|some a=>[(s.extract a i,false)]
def pcs(s:ByteArray):Option Nat→List (Nat×Nat)→List (ByteArray×Bool)
 |fr,[]=>yA s fr s.size
 |fr,(i,r)::L=>if kindOf r=4 then yA s fr i++pcs s none L else if kindOf r=5 then yA s fr i++(⟨#[]⟩,true)::pcs s none L else pcs s (some (fr.getD i)) L
def y3(s:ByteArray):List (ByteArray×Bool):=pcs s none (qN s 0)
def frI(fr:Option Nat):Int:=match fr with|none=>-1|some a=>(a:Nat)
def wL3(x:ByteArray×Bool):List Value:=[.string x.1,.bool x.2]
def PieceR(_w:World)(x:ByteArray×Bool)(cs:List Value):Prop:=cs=wL3 x
def wBJ(l:List (ByteArray×Bool)):List Value:=(l.map wL3).flatten
theorem wKD(a b:List (ByteArray×Bool)):wBJ (a++b)=wBJ a++wBJ b:=by simp[wBJ]
theorem end_any(i:Nat)(fr:Option Nat)(s:ByteArray)(B bs bl bf:Nat)(l:List (ByteArray×Bool))(w0 w:World)(h:PieceSt B w0 w bs bl bf s (frI fr) l.length (wBJ l))(hB1:B≤bl)(hB2:B≤bf)(hai:∀a,fr=some a→a≤i)(his:i≤s.size)(hs:s.size≤1000000000)(hn:l.length≤1000000000) :
  Calls Tryz.prog 84 #[.int .i64 (i:Nat),.pointer (some ⟨bf,0,none⟩),.pointer (some ⟨bl,0,none⟩),.pointer (some ⟨bs,0,none⟩)] w fun e w'=>e=.returned (.tuple #[]) ∧
   PieceSt B w0 w' bs bl bf s (-1) (l++yA s fr i).length (wBJ (l++yA s fr i))∧Iters w w':=by
 cases fr with
 |none=>refine(end_none _ bf bl bs w h.bf.one.1).mono ?_;rintro e w' ⟨rfl,rfl⟩;exact⟨rfl,by simpa[yA,frI]using h,fun _ _ _ h=>h⟩
 |some a=>refine(end_some i a s B bs bl bf _ _ w0 w h hB1 hB2 (hai a rfl) his hs hn).mono ?_;rintro e w' ⟨rfl,h1,h2⟩;refine⟨rfl,?_,h2⟩;rw[wKD,pX];simpa[yA,wBJ,wL3]using h1
theorem PieceSt.iter{B:Nat}{w0 w:World}{bs bl bf:Nat}{s:ByteArray}{f:Int}{n:Nat}{cells:List Value}(h:PieceSt B w0 w bs bl bf s f n cells){k:Nat}{t:ByteArray}{pos:Nat}(hk:w.heap[k]? = some (.stringIter t pos))(hkb:B≤k)(pos':Nat) :
  PieceSt B w0 (w.iterAt k t pos') bs bl bf s f n cells:=by
 obtain⟨h1,h2,⟨v,h3,h4⟩,h5⟩:=h;exact⟨wLA h1 hk _,wLA h2 hk _,⟨v,wLA h3 hk _,wL9 h4 hk _⟩,Lib.below_iterAt h5 hkb t pos'⟩
theorem cellsP_one(l:List (ByteArray×Bool)):∀x,x∈l.map wL3→x.length=2:=by intro x hx;obtain⟨y,_,rfl⟩:=pR.1 hx;rfl
theorem wQ5(s:ByteArray)(fr:Option Nat)(i:Nat):(yA s fr i).length≤1:=by cases fr<;>simp[yA]
theorem pieces_any(s:ByteArray)(w:World)(hs:s.size≤400000000) :
  Calls Tryz.prog 44 #[.string s] w fun e w'=>Below w.heap.size w w'∧∃r,e=.returned r∧kK 2 PieceR w.heap.size w'.heap.size w' r (y3 s):=by
 obtain⟨hbel0,bs0,bl0,bf0,hsz⟩:=boxABC w #[.string s] #[.slice none 0 0] #[.int .i64 (-1)] 9 101 3;obtain⟨P,hP⟩:∃P,y3 s=P:=⟨_,rfl⟩
 have HP:=hid hP;rw[hP];clear hP
 go_enter Tryz.func44,Tryz.ntmps44
 go_wp2
 revert hbel0 bs0 bl0 bf0 hsz;generalize ((w.alloc (.cells #[.string s] 9)).alloc (.cells #[.slice none 0 0] 101)).alloc (.cells #[.int .i64 (-1)] 3)=W0;intro hbel0 bs0 bl0 bf0 hsz;have hk0:=World.iter_heap W0 s 0;have hst0:PieceSt w.heap.size w (W0.iter s 0) w.heap.size (w.heap.size+1) (w.heap.size+1+1) s (-1) 0 []:=
  ⟨bs0.alloc _,bf0.alloc _,⟨_,bl0.alloc _,World.ownsRow_nil _ _ _ _⟩,hbel0.alloc hbel0.size _⟩
 rw[hsz]at hk0;obtain⟨B,hB⟩:∃B,w.heap.size=B:=⟨_,rfl⟩
 obtain⟨W1,hW1⟩:∃W1,W0.iter s 0=W1:=⟨_,rfl⟩
 rw[hB]at hst0 hk0 ⊢;rw[hW1]at hst0 hk0 ⊢;have HB:=hid hB;clear hW1 hB hsz bs0 bl0 bf0 hbel0;obtain⟨kb,hkb⟩:∃kb,B+1+1+1=kb:=⟨_,rfl⟩
 rw[hkb];have hk1:W1.heap[kb]? = some (.stringIter s 0):=by rw[←hkb];exact hk0
 have hkB:B≤kb:=by omega
 obtain⟨bf,hbf⟩:∃bf,B+1+1=bf:=⟨_,rfl⟩
 rw[hbf]at hst0 ⊢;have hB2:B≤bf:=by omega
 obtain⟨bl,hbl⟩:∃bl,B+1=bl:=⟨_,rfl⟩
 rw[hbl]at hst0 ⊢;have hB1:B≤bl:=by omega
 clear hkb hbf hbl hk0
 go_loopg [6] s.size (fun gk u wr=>∃(pos:Nat)(fr:Option Nat)(l:List (ByteArray×Bool)),gk=s.size-pos∧wr.heap[kb]? = some (.stringIter s pos)∧PieceSt B w wr B bl bf s (frI fr) l.length (wBJ l) ∧
   (∀a,fr=some a→a≤pos∧a≤s.size)∧l++pcs s fr (qN s pos)=P∧l.length≤2*pos∧pos≤s.size+3)
 case atStart=>exact⟨0,none,[],by omega,hk1,hst0,by simp,by rw[←HP.out];rfl,pC _,by omega⟩
 case round=>
  obtain⟨pos,fr,l,hgk,hk,hst,hfr,hpc,hll,hps⟩:=hrel;have HPC:=hid hpc;have HGK:=hid hgk;have HFR:=hid hfr;clear hpc hgk hfr hk1 hst0;by_cases hp:pos<s.size
  ·have hnx:=fun ty=>Lib.run_next_any_at (P:=Tryz.prog) wr kb s pos ty hk hp;have hw:=qD s pos;obtain⟨rn,hrn⟩:∃rn,(Utf8.decode s pos).1=rn:=⟨_,rfl⟩
   obtain⟨wd,hwd⟩:∃wd,(Utf8.decode s pos).2=wd:=⟨_,rfl⟩
   have hstp:=jY s pos hp;rw[hrn,hwd]at hstp hnx;rw[hwd]at hw;obtain⟨p2,hp2⟩:∃p2,pos+wd=p2:=⟨_,rfl⟩
   rw[hp2]at hnx hstp;have hlp:pos<p2:=by omega
   have hp23:p2≤s.size+3:=by omega
   clear hp2 hw;have hk2:=Lib.iterAt_heap wr kb s pos p2 hk;have HST:=hid (hst.iter hk hkB p2);have HK:=hid hk2;have HSTP:=hid hstp;have Q1:=hid (wMA rn (wr.iterAt kb s p2));obtain⟨kd,hkd⟩:∃kd,kindOf rn=kd:=⟨_,rfl⟩
   rw[hkd]at Q1;have HKD:=hid hkd;have QE:=hid (end_any pos fr s B B bl bf l w _ HST.out hB1 hB2 (fun a h=>(HFR.out a h).1) (by omega) (by omega) (by omega));have hpcs:pcs s fr (qN s pos)=if kd=4 then yA s fr pos++pcs s none (qN s p2)else if kd=5 then yA s fr pos++(⟨#[]⟩,true)::pcs s none (qN s p2)else pcs s (some (fr.getD pos)) (qN s p2):=by rw[HSTP.out,pcs,HKD.out]
   have HPCS:=hid hpcs;have HFL:=hid (wQ5 s fr pos);clear hstp hrn hwd hk2 hk hst hkd hpcs
   go_wp2_with fail
   refine Q1.out.mono ?_;rintro e w' ⟨rfl,rfl⟩;by_cases c4:kd=4
   ·subst c4;have hp4:=HPCS.out;rw[if_pos rfl]at hp4;have HP4:=hid hp4;clear Q1 hp4 HPCS
    go_wp2_with fail
    refine QE.out.mono ?_;rintro e w2 ⟨rfl,hst2,hit⟩;have hk2:=hit _ _ _ HK.out;have HST2:=hid hst2;have HK2:=hid hk2;clear QE hst2 hk2 hit
    go_wp2
    go_roundg (s.size-p2)
    case measure=>have:=HGK.out;omega
    case rel=>
     refine⟨p2,none,_,rfl,HK2.out,HST2.out,by simp,?_,?_,hp23⟩
     ·rw[←HPC.out,HP4.out,cN]
     ·have:=HFL.out;rw[pX];omega
   ·have n4:(((kd:Nat):Int)==4)=false:=by simp;omega
    by_cases c5:kd=5
    ·subst c5;have hp5:=HPCS.out;rw[if_neg (by decide),if_pos rfl]at hp5;have HP5:=hid hp5;clear Q1 n4 hp5 HPCS
     go_wp2_with fail
     refine QE.out.mono ?_;rintro e w2 ⟨rfl,hst2,hit⟩;have hk2:=hit _ _ _ HK.out;obtain⟨hbs2,hbf2,⟨v,hbl2,hown⟩,hbel2⟩:=hst2;obtain⟨d0,g0⟩:=hbl2.one;have HK2:=hid hk2;have HBS:=hid hbs2;have HBF:=hid hbf2;have HBL:=hid hbl2;obtain⟨l2,hl2⟩:∃l2,l++yA s fr pos=l2:=⟨_,rfl⟩
     rw[hl2]at hown;have hll2:l2.length≤2*pos+1:=by rw[←hl2,pX];have:=HFL.out;omega
     have HL2:=hid hl2;have hBw:B≤w2.heap.size:=dK (fM hB1 hbl2.lt);clear QE hk2 hit hbs2 hbf2 hbl2 hl2
     go_wp2_with (at_builtin;refine zO qAJ rfl _ _ rfl B l2.length 1 1 v (wBJ l2) #[.string ⟨#[]⟩,.bool true] hown rfl rfl rfl (by simp[Value.oneCell']) (by omega) (by decide) (by unfold maxLen;omega) hbel2 hBw ?_)
     intro g6 c6 w6 ho6 hb6 hg6;have P1:=wO.grown (wO.alloc HBS.out (.cells #[.string ⟨#[]⟩,.bool true] 104)) hg6 (jT (hown.alloc _) _ (by decide));have P2:=wO.grown (wO.alloc HBF.out (.cells #[.string ⟨#[]⟩,.bool true] 104)) hg6 (jT (hown.alloc _) _ (by decide));have P3:=wO.grown (wO.alloc HBL.out (.cells #[.string ⟨#[]⟩,.bool true] 104)) hg6 (jT (hown.alloc _) _ (by decide));have h6:w6.heap[kb]? = some (.stringIter s p2):=by refine wG2 hg6 ?_ (wN9 (hown.alloc _));exact(Below.heap_alloc w2 _ kb (pU.1 HK2.out).1).trans HK2.out
     have n1:bl≠B:=by intro e;have h1:w6.heap[bl]? = some _:=P3;have h2:w6.heap[B]? = some _:=P1;rw[e,h2]at h1;simp at h1
     have n2:bl≠bf:=by intro e;have h1:w6.heap[bl]? = some _:=P3;have h2:w6.heap[bf]? = some _:=P2;rw[e,h2]at h1;simp at h1
     have n4:g6≠bl:=by intro e;obtain⟨c,T',f,h1,h2⟩:=jT ho6 101 (by decide) g6 rfl;have h3:w6.heap[bl]? = some _:=P3;rw[e,h3]at h1;simp only[Option.some.injEq,Obj.cells.injEq]at h1;exact h2 h1.2.1.symm
     have n5:bl≠kb:=by intro e;have h3:w6.heap[bl]? = some _:=P3;rw[e,h6]at h3;cases h3
     have FIN:Hid (PieceSt B w (w6.setCell ⟨bl,0,none⟩ (.slice (some ⟨g6,0,none⟩) (l2.length+1) c6)) B bl bf s (-1) (l2++[((⟨#[]⟩:ByteArray),true)]).length (wBJ (l2++[((⟨#[]⟩:ByteArray),true)]))):=by refine⟨P1.other _ _ (dI n1),P2.other _ _ (dI n2),⟨_,P3.set 0 _,?_⟩,hb6.setCell (p:=⟨bl,0,none⟩) hB1 _⟩;rw[wKD,pX];exact vX ho6 _ _ (by simp[Value.ownBlock];exact n4)
     have HK6:Hid ((w6.setCell ⟨bl,0,none⟩ (.slice (some ⟨g6,0,none⟩) (l2.length+1) c6)).heap[kb]? = some (.stringIter s p2)):=by show(w6.setCell ⟨bl,0,none⟩ _).heap[kb]? = _;rw[Below.heap_setCell _ _ _ _ (dI n5)];exact h6
     obtain⟨m0,q0⟩:=P3.one;clear P1 P2 P3 h6 n1 n2 n4 n5 ho6 hb6 hg6 hown hbel2 d0 g0 HK2 HBS HBF HBL
     go_wp2
     go_roundg (s.size-p2)
     case measure=>have:=HGK.out;omega
     case rel=>
      refine⟨p2,none,_,rfl,HK6.out,FIN.out,by simp,?_,?_,hp23⟩
      ·rw[←HPC.out,HP5.out,←HL2.out];simp
      ·rw[pX];simp;omega
    ·have n5:(((kd:Nat):Int)==5)=false:=by simp;omega
     have hpcs:=HPCS.out;rw[if_neg c4,if_neg c5]at hpcs;have HPCS2:=hid hpcs;clear Q1 QE HPCS hpcs;obtain⟨e0,k0⟩:=HST.out.bf.one;cases fr with
     | none=>
      simp only[frI]at e0;have n6:bf≠B:=by intro e;have h1:(wr.iterAt kb s p2).heap[bf]? = some _:=HST.out.bf;have h2:(wr.iterAt kb s p2).heap[B]? = some _:=HST.out.bs;rw[e,h2]at h1;simp at h1
      have n7:bf≠bl:=by intro e;obtain⟨v,h2,_⟩:=HST.out.row;have h1:(wr.iterAt kb s p2).heap[bf]? = some _:=HST.out.bf;have h2:(wr.iterAt kb s p2).heap[bl]? = some _:=h2;rw[e,h2]at h1;simp at h1
      have n8:bf≠kb:=by intro e;have h1:(wr.iterAt kb s p2).heap[bf]? = some _:=HST.out.bf;rw[e,HK.out]at h1;cases h1
      have FIN:Hid (PieceSt B w ((wr.iterAt kb s p2).setCell ⟨bf,0,none⟩ (.int .i64 (pos:Nat))) B bl bf s (frI (some pos)) l.length (wBJ l)):=by obtain⟨h1,h2,⟨v,h3,h4⟩,h5⟩:=HST.out;refine⟨h1.other _ _ (dI n6),h2.set 0 _,⟨v,h3.other _ _ (dI n7),vX h4 _ _ ?_⟩,h5.setCell (p:=⟨bf,0,none⟩) hB2 _⟩;intro e;obtain⟨c,T',f,h6,h7⟩:=jT h4 3 (by decide) _ e;have h8:(wr.iterAt kb s p2).heap[bf]? = some _:=h2;rw[h8]at h6;simp only[Option.some.injEq,Obj.cells.injEq]at h6;exact h7 h6.2.1.symm
      have HK6:Hid (((wr.iterAt kb s p2).setCell ⟨bf,0,none⟩ (.int .i64 (pos:Nat))).heap[kb]? = some (.stringIter s p2)):=by show((wr.iterAt kb s p2).setCell ⟨bf,0,none⟩ _).heap[kb]? = _;rw[Below.heap_setCell _ _ _ _ (dI n8)];exact HK.out
      clear n6 n7 n8
      go_wp2
      go_roundg (s.size-p2)
      case measure=>have:=HGK.out;omega
      case rel=>
       refine⟨p2,some pos,l,rfl,HK6.out,FIN.out,?_,?_,by omega,hp23⟩
       ·intro a ha;cases ha;omega
       ·rw[←HPC.out,HPCS2.out];rfl
     | some a=>
      have ha:=HFR.out a rfl;have hA:=hid ha;clear ha;simp only[frI]at e0;have na:¬((a:Int)<0):=by omega
      go_wp2
      go_roundg (s.size-p2)
      case measure=>have:=HGK.out;omega
      case rel=>
       refine⟨p2,some a,l,rfl,HK.out,HST.out,?_,?_,by omega,hp23⟩
       ·intro a' ha';cases ha';have:=hA.out;omega
       ·rw[←HPC.out,HPCS2.out];rfl
  ·have hnx:=fun ty=>Lib.run_next_end_at (P:=Tryz.prog) wr kb s pos ty hk hp;have hpe:=vV s pos hp;have hpc2:=HPC.out;rw[hpe,pcs]at hpc2;have QE:=hid (end_any s.size fr s B B bl bf l w _ hst hB1 hB2 (fun a h=>(HFR.out a h).2) (pC _) (by omega) (by omega));rw[hpc2]at QE;obtain⟨c0,f0⟩:=hst.bs.one;clear hpe hpc2 hst HPC
   go_wp2_with fail
   refine QE.out.mono ?_;rintro e w2 ⟨rfl,⟨hbs2,hbf2,⟨v,hbl2,hown⟩,hbel2⟩,hit⟩;obtain⟨d0,g0⟩:=hbl2.one;clear QE hbs2 hbf2 hbl2 hit c0 f0 hnx
   go_wp2
   go_ret
   rw[←HB.out]at hown hbel2 ⊢;refine⟨hbel2,v,rfl,kK.ofOwn (cs:=P.map wL3) (by decide) hown (by simp) (cellsP_one P) ?_⟩;intro i x c hx hc;rw[pW,hx]at hc;simp only[Option.map_some,Option.some.injEq]at hc;exact hc.symm
end Go.Proofs.YtmkgenngokjbiaaGreatDoor
