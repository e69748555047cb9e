/-
  DERIVED: THE SHELF's CONTRACTS AT THIS DUMP, IN PLAIN WORDS (tools/lay-plain.mjs out of 'TryzShelf.lean', which tools/lay-shelf.mjs wrote): THE SAME DECLARATIONS UNDER THE SAME NAMES: 'import', 'namespace', 'open', 'def', 'theorem' AND NOTHING ELSE: no command of the shelf's: FOR A HAND-IN. Each laying: the table of numbers ('.._ren') and one theorem, a field a fact of the dump's own or the kernel's comparison; each contract: ONE APPLICATION.
-/
import Derived.Shelf.Strings.Builder1
import Derived.Shelf.Strings.Builder2
import Derived.Shelf.Strings.OnBuilder
import Derived.Shelf.Strings.Trim
import Derived.Shelf.Small.Utf8
import Derived.Shelf.Small.Bits
import Derived.Shelf.Small.Strs
import Derived.Shelf.Strings.BuilderF
import Derived.Shelf.Strings.BuilderK
import Derived.Shelf.Strings.BuilderRune
import Derived.Shelf.Utf8.AppendRunePlain
import Derived.Shelf.Utf8.RuneCount
import Derived.Shelf.Strings.Builder2Cap
import Derived.Shelf.Strconv.Itoa0
import Derived.Shelf.Strconv.Itoa1
import Derived.Shelf.LaysM
import Derived.Shelf.Strconv.Itoa2
import Derived.Shelf.Strconv.Itoa3
import Derived.Shelf.Strings.Search1
import Derived.Shelf.Strings.Search2
import Derived.Shelf.Strings.Search3
import Derived.Shelf.Strings.Cut
import Derived.Shelf.Strings.Count
import Derived.Shelf.Strings.Shaped
import Derived.Shelf.Strings.Prefix
import Derived.Shelf.Strings.Split
import Derived.Shelf.Strings.Replace
import Derived.Shelf.Strings.SplitShaped
import Derived.Shelf.Unicode.Decode
import Derived.Shelf.Strings.Runes
import Derived.Shelf.Strings.RuneCount
import Derived.Shelf.Strings.AsciiSet
import Derived.Shelf.Strings.Explode
import Derived.Shelf.Unicode.DecodeSlow
import Derived.Shelf.Unicode.DecodeAny
import Derived.Shelf.Unicode.DecodeLast
import Derived.Shelf.Strings.BuilderCap
import Derived.Test.YtmkgenngokjbiaaGreatDoorProg
import Derived.Test.YtmkgenngokjbiaaGreatDoorCd08
import Derived.Lib.BitFns
set_option linter.all false
set_option maxRecDepth 20000
set_option maxHeartbeats 6400000
namespace Go.Proofs
open Go.Shelf
def Tryz.lays128_ren:Go.Shelf.Ren:=⟨fun|128=>95|n=>n,fun|51=>66|3=>3|4=>4|46=>194|5=>5|9=>9|n=>n,fun|n=>n⟩
theorem Tryz.lays128:Go.Proofs.Lays.n128 Tryz.prog Tryz.lays128_ren:={
 mixed:=by kernel_rfl
 f128:=Tryz.func95.trans (congrArg some (by kernel_rfl))
 t3:=Tryz.underlying3
 a3:=Tryz.isAgg3
 z3:=Tryz.sizeOf3
 v3:=Tryz.zeroValue3
 t4:=Tryz.underlying4
 a4:=Tryz.isAgg4
 z4:=Tryz.sizeOf4
 v4:=Tryz.zeroValue4
 t5:=Tryz.underlying5
 a5:=Tryz.isAgg5
 z5:=Tryz.sizeOf5
 v5:=Tryz.zeroValue5
 t9:=Tryz.underlying9
 a9:=Tryz.isAgg9
 z9:=Tryz.sizeOf9
 v9:=Tryz.zeroValue9
 t46:=Tryz.underlying194
 a46:=Tryz.isAgg194
 z46:=Tryz.sizeOf194
 v46:=Tryz.zeroValue194
 t51:=Tryz.underlying66
 a51:=Tryz.isAgg66
 z51:=Tryz.sizeOf66
 v51:=Tryz.zeroValue66 }
theorem Tryz.bits_Len32(x:Int)(w:World)(h0:0≤x)(h1:x≤4294967295) :
  Calls Tryz.prog 95 #[.int .u32 x] w fun e w'=>e=.returned (.int .i64 (Lib.bitLen x.toNat))∧w'=w:=Any.bits_Len32 Tryz.lays128 x w h0 h1
def Tryz.lays133_ren:Go.Shelf.Ren:=⟨fun|133=>214|128=>95|n=>n,fun|51=>66|3=>3|4=>4|46=>194|5=>5|9=>9|n=>n,fun|n=>n⟩
theorem Tryz.lays133:Go.Proofs.Lays.n133 Tryz.prog Tryz.lays133_ren:={
 mixed:=by kernel_rfl
 f128:=Tryz.func95.trans (congrArg some (by kernel_rfl))
 f133:=Tryz.func214.trans (congrArg some (by kernel_rfl))
 t3:=Tryz.underlying3
 a3:=Tryz.isAgg3
 z3:=Tryz.sizeOf3
 v3:=Tryz.zeroValue3
 t4:=Tryz.underlying4
 a4:=Tryz.isAgg4
 z4:=Tryz.sizeOf4
 v4:=Tryz.zeroValue4
 t5:=Tryz.underlying5
 a5:=Tryz.isAgg5
 z5:=Tryz.sizeOf5
 v5:=Tryz.zeroValue5
 t9:=Tryz.underlying9
 a9:=Tryz.isAgg9
 z9:=Tryz.sizeOf9
 v9:=Tryz.zeroValue9
 t46:=Tryz.underlying194
 a46:=Tryz.isAgg194
 z46:=Tryz.sizeOf194
 v46:=Tryz.zeroValue194
 t51:=Tryz.underlying66
 a51:=Tryz.isAgg66
 z51:=Tryz.sizeOf66
 v51:=Tryz.zeroValue66 }
theorem Tryz.bits_LeadingZeros32(x:Int)(w:World)(h0:0≤x)(h1:x≤4294967295) :
  Calls Tryz.prog 214 #[.int .u32 x] w fun e w'=>e=.returned (.int .i64 (32-(Lib.bitLen x.toNat:Int)))∧w'=w:=Any.bits_LeadingZeros32 Tryz.lays133 x w h0 h1
def Tryz.lays146_ren:Go.Shelf.Ren:=⟨fun|146=>19|221=>42|268=>79|138=>80|143=>81|195=>120|197=>83|218=>121|219=>122|260=>124|217=>167|225=>168|224=>169|267=>170|266=>212|314=>213|n=>n,fun|9=>9|31=>49|3=>3|4=>4|0=>0|105=>147|21=>21|5=>5|46=>194|119=>216|139=>219|138=>218|146=>276|51=>66|n=>n,fun|1=>0|3=>1|4=>2|n=>n⟩
theorem Tryz.lays146:Go.Proofs.Lays.n146 Tryz.prog Tryz.lays146_ren:={
 mixed:=by kernel_rfl
 f138:=Tryz.func80.trans (congrArg some (by kernel_rfl))
 f143:=Tryz.func81.trans (congrArg some (by kernel_rfl))
 f146:=Tryz.func19.trans (congrArg some (by kernel_rfl))
 f195:=Tryz.func120.trans (congrArg some (by kernel_rfl))
 f197:=Tryz.func83.trans (congrArg some (by kernel_rfl))
 f217:=Tryz.func167.trans (congrArg some (by kernel_rfl))
 f218:=Tryz.func121.trans (congrArg some (by kernel_rfl))
 f219:=Tryz.func122.trans (congrArg some (by kernel_rfl))
 f221:=Tryz.func42.trans (congrArg some (by kernel_rfl))
 f224:=Tryz.func169.trans (congrArg some (by kernel_rfl))
 f225:=Tryz.func168.trans (congrArg some (by kernel_rfl))
 f260:=Tryz.func124.trans (congrArg some (by kernel_rfl))
 f266:=Tryz.func212.trans (congrArg some (by kernel_rfl))
 f267:=Tryz.func170.trans (congrArg some (by kernel_rfl))
 f268:=Tryz.func79.trans (congrArg some (by kernel_rfl))
 f314:=Tryz.func213.trans (congrArg some (by kernel_rfl))
 t0:=Tryz.underlying0
 a0:=Tryz.isAgg0
 z0:=Tryz.sizeOf0
 v0:=Tryz.zeroValue0
 t3:=Tryz.underlying3
 a3:=Tryz.isAgg3
 z3:=Tryz.sizeOf3
 v3:=Tryz.zeroValue3
 t4:=Tryz.underlying4
 a4:=Tryz.isAgg4
 z4:=Tryz.sizeOf4
 v4:=Tryz.zeroValue4
 t5:=Tryz.underlying5
 a5:=Tryz.isAgg5
 z5:=Tryz.sizeOf5
 v5:=Tryz.zeroValue5
 t9:=Tryz.underlying9
 a9:=Tryz.isAgg9
 z9:=Tryz.sizeOf9
 v9:=Tryz.zeroValue9
 t21:=Tryz.underlying21
 a21:=Tryz.isAgg21
 z21:=Tryz.sizeOf21
 v21:=Tryz.zeroValue21
 t31:=Tryz.underlying49
 a31:=Tryz.isAgg49
 z31:=Tryz.sizeOf49
 v31:=Tryz.zeroValue49
 t46:=Tryz.underlying194
 a46:=Tryz.isAgg194
 z46:=Tryz.sizeOf194
 v46:=Tryz.zeroValue194
 t51:=Tryz.underlying66
 a51:=Tryz.isAgg66
 z51:=Tryz.sizeOf66
 v51:=Tryz.zeroValue66
 t105:=Tryz.underlying147
 a105:=Tryz.isAgg147
 z105:=Tryz.sizeOf147
 v105:=Tryz.zeroValue147
 t119:=Tryz.underlying216
 a119:=Tryz.isAgg216
 z119:=Tryz.sizeOf216
 t138:=Tryz.underlying218
 a138:=Tryz.isAgg218
 z138:=Tryz.sizeOf218
 v138:=Tryz.zeroValue218
 t139:=Tryz.underlying219
 a139:=Tryz.isAgg219
 z139:=Tryz.sizeOf219
 v139:=Tryz.zeroValue219
 t146:=Tryz.underlying276
 a146:=Tryz.isAgg276
 z146:=Tryz.sizeOf276
 v146:=Tryz.zeroValue276
 g1:=by kernel_rfl
 g3:=by kernel_rfl
 g4:=by kernel_rfl }
open Go.RowKit Go.Lib in
theorem Tryz.strings_Split(s sep:ByteArray)(m:Int)(w:World)(hs:s.size<4294967281)(hm:w.cell? ⟨0,0,none⟩=some (.int .i64 m))(h1:1≤sep.size) :
  Calls Tryz.prog 19 #[.string s,.string sep] w fun e w'=>e=.returned (.slice (some ⟨w.heap.size,0,none⟩) (Lib.countB s sep+1) (Lib.countB s sep+1))∧w'=w.alloc (.cells ((Lib.splitB sep 0 (Lib.countB s sep) s).map Value.string).toArray 9):=Any.strings_Split Tryz.lays146 (by kernel_rfl) s sep m w hs hm h1
def Tryz.lays155_ren:Go.Shelf.Ren:=⟨fun|155=>20|154=>43|138=>80|165=>82|143=>81|166=>38|197=>83|169=>40|195=>120|218=>121|240=>77|241=>123|219=>122|260=>124|276=>118|277=>171|217=>167|225=>168|224=>169|267=>170|266=>212|314=>213|n=>n,fun|9=>9|3=>3|4=>4|72=>89|0=>0|76=>93|105=>147|21=>21|5=>5|70=>86|20=>20|37=>87|75=>92|127=>143|164=>176|46=>194|119=>216|139=>219|138=>218|146=>276|51=>66|80=>97|n=>n,fun|1=>0|3=>1|4=>2|n=>n⟩
theorem Tryz.lays155:Go.Proofs.Lays.n155 Tryz.prog Tryz.lays155_ren:={
 mixed:=by kernel_rfl
 f138:=Tryz.func80.trans (congrArg some (by kernel_rfl))
 f143:=Tryz.func81.trans (congrArg some (by kernel_rfl))
 f154:=Tryz.func43.trans (congrArg some (by kernel_rfl))
 f155:=Tryz.func20.trans (congrArg some (by kernel_rfl))
 f165:=Tryz.func82.trans (congrArg some (by kernel_rfl))
 f166:=Tryz.func38.trans (congrArg some (by kernel_rfl))
 f169:=Tryz.func40.trans (congrArg some (by kernel_rfl))
 f195:=Tryz.func120.trans (congrArg some (by kernel_rfl))
 f197:=Tryz.func83.trans (congrArg some (by kernel_rfl))
 f217:=Tryz.func167.trans (congrArg some (by kernel_rfl))
 f218:=Tryz.func121.trans (congrArg some (by kernel_rfl))
 f219:=Tryz.func122.trans (congrArg some (by kernel_rfl))
 f224:=Tryz.func169.trans (congrArg some (by kernel_rfl))
 f225:=Tryz.func168.trans (congrArg some (by kernel_rfl))
 f240:=Tryz.func77.trans (congrArg some (by kernel_rfl))
 f241:=Tryz.func123.trans (congrArg some (by kernel_rfl))
 f260:=Tryz.func124.trans (congrArg some (by kernel_rfl))
 f266:=Tryz.func212.trans (congrArg some (by kernel_rfl))
 f267:=Tryz.func170.trans (congrArg some (by kernel_rfl))
 f276:=Tryz.func118.trans (congrArg some (by kernel_rfl))
 f277:=Tryz.func171.trans (congrArg some (by kernel_rfl))
 f314:=Tryz.func213.trans (congrArg some (by kernel_rfl))
 t0:=Tryz.underlying0
 a0:=Tryz.isAgg0
 z0:=Tryz.sizeOf0
 v0:=Tryz.zeroValue0
 t3:=Tryz.underlying3
 a3:=Tryz.isAgg3
 z3:=Tryz.sizeOf3
 v3:=Tryz.zeroValue3
 t4:=Tryz.underlying4
 a4:=Tryz.isAgg4
 z4:=Tryz.sizeOf4
 v4:=Tryz.zeroValue4
 t5:=Tryz.underlying5
 a5:=Tryz.isAgg5
 z5:=Tryz.sizeOf5
 v5:=Tryz.zeroValue5
 t9:=Tryz.underlying9
 a9:=Tryz.isAgg9
 z9:=Tryz.sizeOf9
 v9:=Tryz.zeroValue9
 t20:=Tryz.underlying20
 a20:=Tryz.isAgg20
 z20:=Tryz.sizeOf20
 v20:=Tryz.zeroValue20
 t21:=Tryz.underlying21
 a21:=Tryz.isAgg21
 z21:=Tryz.sizeOf21
 v21:=Tryz.zeroValue21
 t37:=Tryz.underlying87
 a37:=Tryz.isAgg87
 z37:=Tryz.sizeOf87
 v37:=Tryz.zeroValue87
 t46:=Tryz.underlying194
 a46:=Tryz.isAgg194
 z46:=Tryz.sizeOf194
 v46:=Tryz.zeroValue194
 t51:=Tryz.underlying66
 a51:=Tryz.isAgg66
 z51:=Tryz.sizeOf66
 v51:=Tryz.zeroValue66
 t70:=Tryz.underlying86
 a70:=Tryz.isAgg86
 z70:=Tryz.sizeOf86
 v70:=Tryz.zeroValue86
 t72:=Tryz.underlying89
 a72:=Tryz.isAgg89
 z72:=Tryz.sizeOf89
 v72:=Tryz.zeroValue89
 t75:=Tryz.underlying92
 a75:=Tryz.isAgg92
 z75:=Tryz.sizeOf92
 v75:=Tryz.zeroValue92
 t76:=Tryz.underlying93
 a76:=Tryz.isAgg93
 z76:=Tryz.sizeOf93
 v76:=Tryz.zeroValue93
 t105:=Tryz.underlying147
 a105:=Tryz.isAgg147
 z105:=Tryz.sizeOf147
 v105:=Tryz.zeroValue147
 t119:=Tryz.underlying216
 a119:=Tryz.isAgg216
 z119:=Tryz.sizeOf216
 t127:=Tryz.underlying143
 a127:=Tryz.isAgg143
 z127:=Tryz.sizeOf143
 v127:=Tryz.zeroValue143
 t138:=Tryz.underlying218
 a138:=Tryz.isAgg218
 z138:=Tryz.sizeOf218
 v138:=Tryz.zeroValue218
 t139:=Tryz.underlying219
 a139:=Tryz.isAgg219
 z139:=Tryz.sizeOf219
 v139:=Tryz.zeroValue219
 t146:=Tryz.underlying276
 a146:=Tryz.isAgg276
 z146:=Tryz.sizeOf276
 v146:=Tryz.zeroValue276
 t164:=Tryz.underlying176
 a164:=Tryz.isAgg176
 z164:=Tryz.sizeOf176
 v164:=Tryz.zeroValue176
 g1:=by kernel_rfl
 g3:=by kernel_rfl
 g4:=by kernel_rfl }
theorem Tryz.Builder_Extra_155:Builder.Extra Tryz.prog Tryz.lays155_ren:={
 sizeBuilder:=by kernel_rfl
 liesBuilder:=by kernel_rfl
 t5:=Tryz.underlying5
 a5:=Tryz.isAgg5
 z5:=Tryz.sizeOf5
 v5:=Tryz.zeroValue5
 infoByte:=by kernel_rfl
 cellsByte:=by kernel_rfl
 sizeByte:=by kernel_rfl
 neB5:=by decide }
open Go.RowKit Go.Lib in
theorem Tryz.strings_ReplaceAll(s old new:ByteArray)(m:Int)(w:World)(hs:s.size<4294967281)(hm:w.cell? ⟨0,0,none⟩=some (.int .i64 m))(h1:1≤old.size)(hlen:s.size+Lib.countB s old*new.size≤140737488355328) :
  Calls Tryz.prog 20 #[.string s,.string old,.string new] w fun e w'=>e=.returned (.string ⟨(Lib.replaceAll s.data.toList old.data.toList new.data.toList).toArray⟩)∧Below w.heap.size w w':=Any.strings_ReplaceAll Tryz.lays155 Tryz.Builder_Extra_155 s old new m w hs hm h1 hlen
def Tryz.lays260_ren:Go.Shelf.Ren:=⟨fun|260=>124|n=>n,fun|9=>9|21=>21|3=>3|4=>4|5=>5|119=>216|0=>0|46=>194|139=>219|138=>218|n=>n,fun|3=>1|4=>2|n=>n⟩
theorem Tryz.lays260:Go.Proofs.Lays.n260 Tryz.prog Tryz.lays260_ren:={
 mixed:=by kernel_rfl
 f260:=Tryz.func124.trans (congrArg some (by kernel_rfl))
 t0:=Tryz.underlying0
 a0:=Tryz.isAgg0
 z0:=Tryz.sizeOf0
 v0:=Tryz.zeroValue0
 t3:=Tryz.underlying3
 a3:=Tryz.isAgg3
 z3:=Tryz.sizeOf3
 v3:=Tryz.zeroValue3
 t4:=Tryz.underlying4
 a4:=Tryz.isAgg4
 z4:=Tryz.sizeOf4
 v4:=Tryz.zeroValue4
 t5:=Tryz.underlying5
 a5:=Tryz.isAgg5
 z5:=Tryz.sizeOf5
 v5:=Tryz.zeroValue5
 t9:=Tryz.underlying9
 a9:=Tryz.isAgg9
 z9:=Tryz.sizeOf9
 v9:=Tryz.zeroValue9
 t21:=Tryz.underlying21
 a21:=Tryz.isAgg21
 z21:=Tryz.sizeOf21
 v21:=Tryz.zeroValue21
 t46:=Tryz.underlying194
 a46:=Tryz.isAgg194
 z46:=Tryz.sizeOf194
 v46:=Tryz.zeroValue194
 t119:=Tryz.underlying216
 a119:=Tryz.isAgg216
 z119:=Tryz.sizeOf216
 t138:=Tryz.underlying218
 a138:=Tryz.isAgg218
 z138:=Tryz.sizeOf218
 v138:=Tryz.zeroValue218
 t139:=Tryz.underlying219
 a139:=Tryz.isAgg219
 z139:=Tryz.sizeOf219
 v139:=Tryz.zeroValue219
 g3:=by kernel_rfl
 g4:=by kernel_rfl }
open Go.RowKit Go.Lib in
theorem Tryz.utf8_decodeRuneInStringSlow(s:ByteArray)(w:World)(hT:Lib.Utf8Tabs 1 2 w) :
  Calls Tryz.prog 124 #[.string s] w fun e w'=>e=.returned (.tuple #[.int .i32 (Lib.decodeGo s).1,.int .i64 (Lib.decodeGo s).2])∧Below w.heap.size w w':=Any.utf8_decodeRuneInStringSlow Tryz.lays260 s w hT
end Go.Proofs
/- How many bits: nat.Len, simileref01.Len; nat.Of; nat.short. -/
namespace Go.Proofs.YtmkgenngokjbiaaGreatDoor
open Go.RowKit
def x7(n:Nat):Nat:=if n=0 then 0 else 32*((toL n).length-1)+Lib.bitLen ((toL n).getD ((toL n).length-1) 0)
theorem qGI{a b:Int}(h:a=b):Ending.returned (.int .i64 a)=Ending.returned (.int .i64 b):=by rw[h]
theorem wS5:Lib.bitLen 0=0:=by decide
theorem bitLen_le32(x:Nat)(h:x<4294967296):Lib.bitLen x≤32:=by
 have key:∀ k x:Nat,x<2^k→k≤64→Lib.bitLen x≤k:=by
  intro k
  induction k with
  | zero => intro x hx _;obtain rfl:x=0:=by simpa using hx
            decide
  |succ k ih=>
   intro x hx hk;by_cases h0:x=0
   ·subst h0;rw[wS5];omega
   ·have hx64:x<2^64:=pT hx (cU (by decide) hk);rw[Lib.bitLen_half x h0 hx64];have:=ih (x/2) (by rw[mS]at hx;omega) (by omega);omega
 exact key 32 x (by simpa using h) (by decide)
theorem len_any(lo h1:Nat)(v:Value)(xs:List Nat)(w:World)(h:wG lo h1 w v xs)(hl:xs.length≤35184372088832) :
  Calls Tryz.prog 53 #[v] w fun e w'=>e=.returned (.int .i64 (x7 (wB xs):Nat))∧w=w':=by
 have t1:=zG xs (by obtain⟨_,_,_,_,_,hlt,_⟩:=h.open;exact hlt);have l1:=jH xs;have q1:=wDB lo h1 v xs w h (by omega);rw[t1]at q1 l1;obtain⟨X,hX⟩:∃X,wB xs=X:=⟨_,rfl⟩
 rw[hX]at q1 l1 ⊢;have hn:=wJ3 X;have hLen:x7 X=if X=0 then 0 else 32*((toL X).length-1)+Lib.bitLen ((toL X).getD ((toL X).length-1) 0):=rfl
 generalize x7 X=K at *
 clear hX h t1;generalize toL X=us at *
 have Q1:=hid q1;have HN:=hid hn;have HL:=hid hLen;clear q1 hn hLen
 go_enter Tryz.func53,Tryz.ntmps53
 go_wp2_with fail
 refine Q1.out.mono ?_;rintro e w' ⟨r1,rfl,hr1,rfl⟩;obtain⟨ad,cap,rfl,_,_,hlt1,hcell⟩:=hr1.open;have HC:=hid hcell;have HLT:=hid hlt1;clear Q1 hr1 hcell hlt1;by_cases hz:us.length=0
 ·have e1:((us.length:Int)==0)=true:=by rw[beq_iff_eq];omega
  have hX:=HN.out.1 (pN hz);have hk:=HL.out;rw[if_pos hX]at hk;have HK:=hid hk;clear hk hX hz
  go_wp2
  go_ret
  rw[HK.out];exact⟨rfl,rfl⟩
 ·have e1:((us.length:Int)==0)=false:=by rw[beq_eq_false_iff_ne];omega
  obtain⟨b,off,rfl,_,_,hc1⟩:=HC.out (us.length-1) (by omega);obtain⟨x,hx⟩:∃x,us.getD (us.length-1) 0=x:=⟨_,rfl⟩
  have hx32:x<4294967296:=by rw[←hx];exact getD_lt us HLT.out _
  rw[hx]at hc1;have hk:=HL.out;rw[if_neg (fun h=>hz (by rw[HN.out.2 h];rfl)),hx]at hk;have Q2:=hid (Tryz.bits_Len32 x w (by omega) (by omega));have hb32:=bitLen_le32 x hx32;rw[dQ]at Q2;have hp:0<us.length:=by omega
  have HK:=hid hk;generalize Lib.bitLen x=z at *
  clear hk hx hz
  go_wp2_with fail
  refine Q2.out.mono ?_;rintro e w' ⟨rfl,rfl⟩
  go_wp2
  go_ret
  rw[HK.out];exact⟨qGI (by omega),rfl⟩
theorem len01_any(lo h1:Nat)(v:Value)(xs:List Nat)(w:World)(h:wG lo h1 w v xs)(hl:xs.length≤35184372088832) :
  Calls Tryz.prog 14 #[v] w fun e w'=>e=.returned (.int .i64 (x7 (wB xs):Nat))∧Below w.heap.size w w':=by
 have l1:=vO xs (by obtain⟨_,_,_,_,_,hlt,_⟩:=h.open;exact hlt);have q1:=zE lo h1 v xs w h hl;obtain⟨X,hX⟩:∃X,wB xs=X:=⟨_,rfl⟩
 rw[hX]at q1 l1 ⊢;have hn:=wJ3 X;have hLen:x7 X=if X=0 then 0 else 32*((toL X).length-1)+Lib.bitLen ((toL X).getD ((toL X).length-1) 0):=rfl
 generalize x7 X=K at *
 clear hX h;generalize toL X=us at *
 have Q1:=hid q1;have HN:=hid hn;have HL:=hid hLen;clear q1 hn hLen
 go_enter Tryz.func14,Tryz.ntmps14
 go_wp2_with fail
 refine Q1.out.mono ?_;rintro e w1 ⟨r1,rfl,hr1,hb1⟩;obtain⟨ad,cap,rfl,_,_,hlt1,hcell⟩:=hr1.open;have HC:=hid hcell;have HLT:=hid hlt1;have HB:=hid hb1;clear Q1 hr1 hcell hlt1 hb1;by_cases hz:us.length=0
 ·have e1:((us.length:Int)==0)=true:=by rw[beq_iff_eq];omega
  have hX:=HN.out.1 (pN hz);have hk:=HL.out;rw[if_pos hX]at hk;have HK:=hid hk;clear hk hX hz
  go_wp2
  go_ret
  rw[HK.out];exact⟨rfl,HB.out⟩
 ·have e1:((us.length:Int)==0)=false:=by rw[beq_eq_false_iff_ne];omega
  obtain⟨b,off,rfl,_,_,hc1⟩:=HC.out (us.length-1) (by omega);obtain⟨x,hx⟩:∃x,us.getD (us.length-1) 0=x:=⟨_,rfl⟩
  have hx32:x<4294967296:=by rw[←hx];exact getD_lt us HLT.out _
  rw[hx]at hc1;have hk:=HL.out;rw[if_neg (fun h=>hz (by rw[HN.out.2 h];rfl)),hx]at hk;have hb32:=bitLen_le32 x hx32;have hp:0<us.length:=by omega
  have HK:=hid hk;clear hk hx hz
  go_wp2
  go_loop [3,4] (fun n t=>∃(i y:Nat),n=.int .i64 ((32*((us.length:Int)-1))+(i:Nat))∧t=.int .u32 (y:Nat)∧y<4294967296∧i+Lib.bitLen y=Lib.bitLen x) (fun _ t=>(intOf t).toNat)
  case atStart=>exact⟨0,x,by simp,rfl,hx32,by simp⟩
  case round=>
   obtain⟨i,y,rfl,rfl,hy,hiy⟩:=hrel;by_cases h0:y=0
   ·subst h0;rw[wS5]at hiy;have HI:=hid hiy;have hi32:i≤32:=by omega
    clear hiy
    go_wp2
    go_ret
    rw[HK.out,←HI.out];exact⟨qGI (by omega),HB.out⟩
   ·have hyb:=Lib.bitLen_half y h0 (Nat.lt_trans hy (by decide));rw[hyb]at hiy;have e2:decide ((y:Int)>0)=true:=by simp;omega
    have hi32:i+1≤32:=by omega
    have HI:=hid hiy;clear hiy hyb
    go_wp2
    refine⟨⟨i+1,y/2,by congr 1;omega,by go_num,by omega,by have:=HI.out;omega⟩,by simp[intOf];omega⟩
theorem natof_any(n:Nat)(w:World)(hn:n<18446744073709551616) :
  Calls Tryz.prog 96 #[.int .u64 (n:Nat)] w fun e w'=>∃r,e=.returned r∧wG w.heap.size w'.heap.size w' r (toL n)∧Below w.heap.size w w':=by
 have hv:wB [n%4294967296,n/4294967296]=n:=by simp only[wB];omega
 obtain⟨a,ha⟩:∃a,a=n%4294967296:=⟨_,rfl⟩
 obtain⟨b,hb⟩:∃b,b=n/4294967296:=⟨_,rfl⟩
 have ha2:(n:Int)%4294967296=(a:Nat):=by omega
 have hb2:(n:Int)/4294967296=(b:Nat):=by omega
 rw[←ha,←hb]at hv;have hal:a<4294967296:=by omega
 have hbl:b<4294967296:=by omega
 have hown:(w.alloc (.cells #[.int .u32 (a:Nat),.int .u32 (b:Nat)] 66)).ownsRow w.heap.size 66 1 (.slice (some ⟨w.heap.size,0,none⟩) 2 2) 2 (zQ [a,b]):=
  World.ownsRow_lit w _ 2 (pC _) (by decide) rfl
 have hb1:Below w.heap.size w (w.alloc (.cells #[.int .u32 (a:Nat),.int .u32 (b:Nat)] 66)):=(Below.refl _ _).alloc (pC _) _;have hl2:∀x,x∈[a,b]→x<4294967296:=by intro x hx;simp at hx;rcases hx with rfl|rfl<;>assumption
 have hL:=wG.ofOwn hown hl2;have hN:=qDD _ _ _ _ _ hL (by simp);rw[zG _ hl2,hv]at hN;clear hown hL hv ha hb hn
 go_enter Tryz.func96,Tryz.ntmps96
 go_wp2_with (go_at_call 133;refine hN.mono ?_;rintro e w' ⟨r,rfl,hr,hb2⟩)
 go_ret
 exact⟨_,rfl,hr.wide hb1.size (pC _),hb1.trans (hb2.mono hb1.size)⟩
theorem half01_any(lo h1:Nat)(v:Value)(xs:List Nat)(w:World)(h:wG lo h1 w v xs)(hh:h1≤w.heap.size)(hl:xs.length≤17592186044416) :
  Calls Tryz.prog 178 #[v] w fun e w'=>∃r,e=.returned r∧wG w.heap.size w'.heap.size w' r (toL (wB xs/2))∧Below w.heap.size w w':=by
 obtain⟨ad,cap,rfl,_,_,hlt,_⟩:=h.open;have HLT:=hid hlt;clear hlt
 go_enter Tryz.func178,Tryz.ntmps178
 go_wp2_with (at_make;refine kX vY rfl _ _ rfl w.heap.size _ _ _ _ xs.length xs.length rfl rfl rfl rfl (pC _) (by omega) (Below.refl _ _) (pC _) ?_)
 intro w1 ho1 hb1 _
 go_wp2
 go_loopw [10] (fun t wr=>∃(i:Nat)(cur:List Nat),t=.int .i64 i∧i≤xs.length∧wr.ownsRow w.heap.size 66 1 (.slice (some ⟨w.heap.size,0,none⟩) xs.length xs.length) xs.length (zQ cur)∧Below w.heap.size w wr ∧
   (∀x,x∈cur→x<4294967296)∧wB (cur.take i)=wB xs/2^1%4294967296^i) (fun t _=>xs.length-(intOf t).toNat)
 case atStart=>exact⟨0,_,rfl,pG _,ho1,hb1,wD9 _,by simp[wB,Nat.mod_one]⟩
 case round=>
  obtain⟨i,cur,rfl,hi,hown,hbel,hcl,hval⟩:=hrel;have HV:=hid hval;have HCL:=hid hcl;clear hval hcl ho1 hb1;by_cases hil:i<xs.length
  ·obtain⟨x,hx⟩:∃x,xs.getD i 0=x:=⟨_,rfl⟩
   obtain⟨y,hy⟩:∃y,xs.getD (i+1) 0=y:=⟨_,rfl⟩
   have hx32:x<4294967296:=by rw[←hx];exact getD_lt xs HLT.out i
   have hy32:y<4294967296:=by rw[←hy];exact getD_lt xs HLT.out (i+1)
   have Q1:=hid (x6 lo h1 _ xs i x wr (h.below hbel hh) (by omega) hx);have Q2:=hid (x6 lo h1 _ xs (i+1) y wr (h.below hbel hh) (by omega) hy);have hi1:(i:Int)+1=((i+1:Nat):Int):=by omega
   have HX:=hid hx;have HY:=hid hy;have HI:=hid hi1;obtain⟨c1,c2⟩:=wAC hown i hil;clear hx hy hi1
   go_wp2_with fail
   refine Q1.out.mono ?_;rintro e w' ⟨rfl,rfl⟩
   go_wp2_with fail
   rw[HI.out];refine Q2.out.mono ?_;rintro e w' ⟨rfl,rfl⟩
   go_wp2
   have hs:=wCB hown i ((x+4294967296*y)/2%4294967296);have hln:=jN hown;have e1:(x:Int)/2+(y:Int)%2*2147483648=(((x+4294967296*y)/2%4294967296:Nat):Int):=by omega
   refine⟨⟨i+1,cur.set i ((x+4294967296*y)/2%4294967296),by go_num,by omega,by rw[e1];exact hs.1,hbel.setCell (by exact pC _) _,vB _ _ _ HCL.out (dP _ (by decide)),?_⟩,by simp[intOf];omega⟩;rw[wJ5 _ _ _ _ hln hil,HV.out,mS];exact(right_step _ _ _ (by rw[wRJ xs i 1 (by decide) HLT.out,HX.out,HY.out])).symm
  ·obtain rfl:i=xs.length:=by omega
   have hln:=jN hown;have hv:wB cur=wB xs/2:=by
    have:=HV.out
    rwa [zB cur _ (by omega),wZI xs 1 HLT.out]at this
   have hN:=zE _ _ _ cur wr (wG.ofOwn hown HCL.out) (by omega);rw[hv]at hN;clear hv hln
   go_wp2_with (go_at_call 33;refine hN.mono ?_;rintro e w' ⟨r,rfl,hr,hb2⟩)
   go_ret
   exact⟨_,rfl,hr.wide hbel.size (pC _),hbel.trans (hb2.mono hbel.size)⟩
open Go.Ev Go.Vl
theorem vc1{P:Program}{g:FuncId}{xs ys:List Nat}(hx:okL xs)(h:∀v w,wG 0 w.heap.size w v xs→Calls P g #[v] w fun e w'=>∃r,e=.returned r∧wG w.heap.size w'.heap.size w' r ys∧Below w.heap.size w w'):wJ P g [vL xs] (fun y=>y=vL ys):=by
 intro S w us hus;cases hus with
 |cons h1 t=>cases t;refine(h _ w (qR h1 hx)).mono ?_;rintro e w' ⟨r,rfl,hr,hb⟩;exact⟨r,_,rfl,rfl,zM hr (pC _) fun b hb _=>.inr hb,hb⟩
theorem vc2{P:Program}{g:FuncId}{xs ys zs:List Nat}(hx:okL xs)(hy:okL ys)(h:∀v v2 w,wG 0 w.heap.size w v xs→wG 0 w.heap.size w v2 ys→Calls P g #[v,v2] w fun e w'=>∃r,e=.returned r∧wG w.heap.size w'.heap.size w' r zs∧Below w.heap.size w w'):wJ P g [vL xs,vL ys] (fun y=>y=vL zs):=by
 intro S w us hus;cases hus with
 | cons h1 t=>
  cases t with
  |cons h2 t=>cases t;refine(h _ _ w (qR h1 hx) (qR h2 hy)).mono ?_;rintro e w' ⟨r,rfl,hr,hb⟩;exact⟨r,_,rfl,rfl,zM hr (pC _) fun b hb _=>.inr hb,hb⟩
theorem wR9(xs:List Nat)(hx:okL xs)(hl:xs.length≤35184372088832):wJ Tryz.prog 133 [vL xs] (fun y=>y=vN (wB xs)):=
 vc1 hx fun v w h=>by rw[←zG xs hx];exact qDD _ _ v xs w h hl
theorem qA6(xs:List Nat)(hx:okL xs)(hl:xs.length≤35184372088832):wJ Tryz.prog 91 [vL xs] (fun y=>y=vN (wB xs)):=
 vc1 hx fun v w h=>by rw[←zG xs hx];exact qHG _ _ v xs w h hl
theorem natMul_v(xs ys:List Nat)(hx:okL xs)(hy:okL ys)(hl:xs.length≤8796093022208)(hl2:ys.length≤8796093022208):wJ Tryz.prog 98 [vL xs,vL ys] (fun y=>y=vN (wB xs*wB ys)):=
 vc2 hx hy fun v v2 w h h2=>mul_any _ _ _ _ v v2 xs ys w h h2 hl hl2
theorem natCmp_v(xs ys:List Nat)(hx:okL xs)(hy:okL ys)(hl:xs.length≤35184372088832)(hl2:ys.length≤35184372088832):wJ Tryz.prog 173 [vL xs,vL ys] (fun y=>y=.int .i64 (jD (wB xs) (wB ys))):=by
 intro S w us hus;cases hus with
 | cons h1 t=>
  cases t with
  |cons h2 t=>cases t;refine(cmp_any _ _ _ _ _ _ xs ys w (qR h1 hx) (qR h2 hy) hl hl2).mono ?_;rintro e w' ⟨rfl,hb⟩;exact⟨_,_,rfl,rfl,.int _ _,hb⟩
theorem wVD(xs:List Nat)(hx:okL xs)(hl:xs.length≤35184372088832):wJ Tryz.prog 53 [vL xs] (fun y=>y=.int .i64 (x7 (wB xs):Nat)):=by
 intro S w us hus;cases hus with
 |cons h1 t=>cases t;refine(len_any _ _ _ xs w (qR h1 hx) hl).mono ?_;rintro e w' ⟨rfl,rfl⟩;exact⟨_,_,rfl,rfl,.int _ _,Below.refl _ _⟩
theorem natOf_v(n:Nat)(hn:n<18446744073709551616):wJ Tryz.prog 96 [.int .u64 (n:Nat)] (fun y=>y=vN n):=by
 intro S w us hus;cases hus with
 |cons h1 t=>cases t;cases h1;refine(natof_any n w hn).mono ?_;rintro e w' ⟨r,rfl,hr,hb⟩;exact⟨_,_,rfl,rfl,zM hr (pC _) fun b hb _=>.inr hb,hb⟩
theorem wHJ(xs:List Nat)(hx:okL xs)(hl:xs.length≤35184372088832):wJ Tryz.prog 33 [vL xs] (fun y=>y=vN (wB xs)):=
 vc1 hx fun v w h=>zE _ _ v xs w h hl
theorem add01_v(xs ys:List Nat)(hx:okL xs)(hy:okL ys)(hl:xs.length≤17592186044416)(hl2:ys.length≤17592186044416):wJ Tryz.prog 102 [vL xs,vL ys] (fun y=>y=vN (wB xs+wB ys)):=
 vc2 hx hy fun v v2 w h h2=>wQE _ _ _ _ v v2 xs ys w h h2 (pC _) (pC _) hl hl2
theorem wSF(xs ys:List Nat)(hx:okL xs)(hy:okL ys)(hl:xs.length≤17592186044416)(hle:wB ys≤wB xs):wJ Tryz.prog 180 [vL xs,vL ys] (fun y=>y=vN (wB xs-wB ys)):=
 vc2 hx hy fun v v2 w h h2=>wZD _ _ _ _ v v2 xs ys w h h2 (pC _) (pC _) hl hle
theorem mul01_v(xs ys:List Nat)(hx:okL xs)(hy:okL ys)(hl:xs.length≤4398046511104)(hl2:ys.length≤4398046511104):wJ Tryz.prog 103 [vL xs,vL ys] (fun y=>y=vN (wB xs*wB ys)):=
 vc2 hx hy fun v v2 w h h2=>qA7 _ _ _ _ v v2 xs ys w h h2 (pC _) hl hl2
theorem small01_v(xs:List Nat)(d:Nat)(hx:okL xs)(hl:xs.length≤17592186044416)(hd:d<4294967296):wJ Tryz.prog 137 [vL xs,.int .u32 (d:Nat)] (fun y=>y=vN (wB xs*d)):=by
 intro S w us hus;cases hus with
 | cons h1 t=>
  cases t with
  |cons h2 t=>cases t;cases h2;refine(wC8 _ _ _ xs d w (qR h1 hx) (pC _) hl hd).mono ?_;rintro e w' ⟨r,rfl,hr,hb⟩;exact⟨_,_,rfl,rfl,zM hr (pC _) fun b hb _=>.inr hb,hb⟩
theorem div01_v(xs ys:List Nat)(hx:okL xs)(hy:okL ys)(hl:xs.length≤4398046511104)(hl2:ys.length≤4398046511104)(hp:0<wB ys):wJ Tryz.prog 176 [vL xs,vL ys] (fun y=>y=.tup [vN (wB xs/wB ys),vN (wB xs%wB ys)]):=by
 intro S w us hus;cases hus with
 | cons h1 t=>
  cases t with
  |cons h2 t=>cases t;refine(div01_any _ _ _ _ _ _ xs ys w (qR h1 hx) (qR h2 hy) (pC _) hl hl2 hp).mono ?_;rintro e w' ⟨r1,r2,rfl,hr1,hr2,hb⟩;exact⟨_,_,rfl,rfl,.tup (us:=[r1,r2]) (.cons (zM hr1 (pC _) fun b hb _=>.inr hb) (.cons (zM hr2 (pC _) fun b hb _=>.inr hb) .nil)),hb⟩
theorem cmp01_v(xs ys:List Nat)(hx:okL xs)(hy:okL ys)(hl:xs.length≤17592186044416)(hl2:ys.length≤17592186044416):wJ Tryz.prog 179 [vL xs,vL ys] (fun y=>y=.int .i64 (jD (wB xs) (wB ys))):=by
 intro S w us hus;cases hus with
 | cons h1 t=>
  cases t with
  |cons h2 t=>cases t;refine(wQB _ _ _ _ _ _ xs ys w (qR h1 hx) (qR h2 hy) hl hl2).mono ?_;rintro e w' ⟨rfl,rfl⟩;exact⟨_,_,rfl,rfl,.int _ _,Below.refl _ _⟩
theorem same01_v(xs ys:List Nat)(hx:okL xs)(hy:okL ys)(hl:xs.length≤35184372088832):wJ Tryz.prog 41 [vL xs,vL ys] (fun y=>y=.bool (decide (xs=ys))):=by
 intro S w us hus;cases hus with
 | cons h1 t=>
  cases t with
  |cons h2 t=>cases t;refine(same01_any _ _ _ _ _ _ xs ys w (qR h1 hx) (qR h2 hy) hl).mono ?_;rintro e w' ⟨rfl,hb⟩;exact⟨_,_,rfl,rfl,.bool _,hb⟩
theorem zero01_v(xs:List Nat)(hx:okL xs)(hl:xs.length≤35184372088832):wJ Tryz.prog 138 [vL xs] (fun y=>y=.bool (decide (wB xs=0))):=by
 intro S w us hus;cases hus with
 |cons h1 t=>cases t;refine(zero01_any _ _ _ xs w (qR h1 hx) hl).mono ?_;rintro e w' ⟨rfl,rfl⟩;exact⟨_,_,rfl,rfl,.bool _,Below.refl _ _⟩
theorem len01_v(xs:List Nat)(hx:okL xs)(hl:xs.length≤35184372088832):wJ Tryz.prog 14 [vL xs] (fun y=>y=.int .i64 (x7 (wB xs):Nat)):=by
 intro S w us hus;cases hus with
 |cons h1 t=>cases t;refine(len01_any _ _ _ xs w (qR h1 hx) hl).mono ?_;rintro e w' ⟨rfl,hb⟩;exact⟨_,_,rfl,rfl,.int _ _,hb⟩
theorem of01_v(n:Nat)(hn:n<18446744073709551616):wJ Tryz.prog 104 [.int .u64 (n:Nat)] (fun y=>y=vN n):=by
 intro S w us hus;cases hus with
 |cons h1 t=>cases t;cases h1;refine(wV9 n w hn).mono ?_;rintro e w' ⟨r,rfl,hr,hb⟩;exact⟨_,_,rfl,rfl,zM hr (pC _) fun b hb _=>.inr hb,hb⟩
theorem half01_v(xs:List Nat)(hx:okL xs)(hl:xs.length≤17592186044416):wJ Tryz.prog 178 [vL xs] (fun y=>y=vN (wB xs/2)):=
 vc1 hx fun v w h=>half01_any _ _ v xs w h (pC _) hl
theorem qBJ(ys:List Nat)(x:Nat):uL (ys++[x])=uL ys++[[V.int .u32 (x:Nat)]]:=by simp[uL]
theorem qBI(xs:List Nat)(k:Nat):(uL xs).take k=uL (xs.take k):=by simp[uL,List.map_take]
theorem uL_last(ys:List Nat)(x:Nat):(uL (ys++[x]))[ys.length]? = some [V.int .u32 (x:Nat)]:=by rw[qBJ,←qA ys];simp
theorem qC2(xs:List Nat)(hl:xs.length≤140737488355328):wJ Tryz.prog 94 [vL xs] (fun y=>y=vL (qE xs)):=by
 refine wC wL Tryz.func94 rfl rfl rfl rfl fun w0=>?_;repeat (first|refine wv ?_|refine wz ?_)
 refine qC (fun ys:List Nat=>[jV 0 (vL ys)]) (fun ys=>ys.length≤xs.length∧qE ys=qE xs) (fun ys=>ys.length) xs (fun _=>rfl) ⟨pC _,rfl⟩ ⟨rfl,trivial⟩ fun ys hI=>?_;obtain⟨h1,h2⟩:=hI;have hu:=qA ys;rcases List.eq_nil_or_concat ys with rfl|⟨zs,x,rfl⟩
 ·repeat (first|refine wg rfl (sL (qA _)) ?_|refine wv ?_|refine wg rfl (vP rfl rfl rfl rfl (rfl) rfl) ?_|refine wGE rfl rfl rfl rfl rfl rfl ?_|refine wz ?_)
  refine⟨.inl rfl,_,rfl,?_⟩;rw[←h2];rfl
 ·simp only[List.concat_eq_append]at *
  have hz:(zs++[x]).length=zs.length+1:=by simp
  by_cases hx:x=0
  ·subst hx;repeat (first|refine wg rfl (sL (qA _)) ?_|refine wv ?_|refine wg rfl cT ?_|refine wg rfl sB ?_|refine wg rfl (wA9 wL rfl rfl rfl (i:=zs.length) (by omega) rfl rfl (uL_last zs 0) rfl rfl) ?_|refine wg rfl (qG4 wL rfl rfl rfl (h:=zs.length) (by omega) rfl rfl (qC1 _) (by omega) (es':=uL zs) (by rw[qBI];simp) rfl) ?_|refine wz ?_)
   refine⟨zs,⟨by omega,by rw[←h2,xI]⟩,by omega,rfl,trivial⟩
  ·repeat (first|refine wg rfl (sL (qA _)) ?_|refine wv ?_|refine wg rfl cT ?_|refine wg rfl cF ?_|refine wg rfl sB ?_|refine wg rfl (wA9 wL rfl rfl rfl (i:=zs.length) (by omega) rfl rfl (uL_last zs x) rfl rfl) ?_|refine wz ?_)
   refine⟨.inl rfl,_,rfl,?_⟩;rw[←h2,wL0 _ _ hx]
theorem wKJ(xs:List Nat)(i v:Nat):(uL xs).set i [V.int .u32 (v:Nat)]=uL (xs.set i v):=by simp[uL,List.map_set]
theorem qC0(n:Nat):List.replicate n [V.int .u32 0]=uL (List.replicate n 0):=by simp[uL]
theorem short_step(x r d N B:Nat)(hd:0<d)(hr:r=N%d)(hB:0<B):(x+B*N)/d=(r*B+x)/d+B*(N/d)∧(x+B*N)%d=(r*B+x)%d:=by
 have h1:=cQ N d;have e:x+B*N=(r*B+x)+d*(B*(N/d)):=by
  have:B*N=B*(d*(N/d))+B*(N%d):=by rw[←mA,h1]
  rw[this,hr,mH B (N%d),fU B d];omega
 rw[e,pB8 _ _ hd,gW];exact⟨rfl,rfl⟩
theorem wMH(r x:Nat)(hx:x<4294967296):(r*2^32) ||| x=r*4294967296+x:=by rw[mH,←gL (i:=32) hx]
theorem wKC(out:List Nat)(k v:Nat)(h:k<out.length):wB ((out.set k v).drop k)=v+4294967296*wB (out.drop (k+1)):=by
 rw[wY];have h1:(out.set k v).getD k 0=v:=by simp[List.getD,h]
 have h2:(out.set k v).drop (k+1)=out.drop (k+1):=by rw[pC4 (by omega)]
 rw[h1,h2]
theorem short_v(xs:List Nat)(d:Nat)(hx:okL xs)(hl:xs.length≤8796093022208)(hd0:0<d)(hd:d<4294967296):wJ Tryz.prog 174 [vL xs,.int .u32 (d:Nat)] (fun y=>y=.tup [vN (wB xs/d),.int .u32 (wB xs%d:Nat)]):=by
 refine wC wL Tryz.func174 rfl rfl rfl rfl fun w0=>?_;have hu:=qA xs;repeat (first|refine wg rfl (sL (qA _)) ?_|refine wv ?_|refine wg rfl sB ?_|refine wg rfl (wAG (id:=7000) (m:=1) (bb:=4) wL rfl rfl rfl rfl rfl rfl rfl rfl rfl rfl (pC _) rfl (by omega) (by simp only[maxLen];omega) rfl rfl rfl (qC0 _)) ?_|refine wz ?_)
 refine qC (fun b:Nat×Int×List Nat×Nat=>[jV 0 (vL xs),jV 2 (.int .u32 (d:Nat)),jO 12 1004 66 1 (uL b.2.2.1),jV 14 (.int .u64 (b.2.2.2:Nat)),jV 16 (.int .i64 b.2.1)])
  (fun b=>b.1≤xs.length∧b.2.1=(b.1:Int)-1∧b.2.2.1.length=xs.length∧okL b.2.2.1∧wB (xs.drop b.1)/d=wB (b.2.2.1.drop b.1)∧b.2.2.2=wB (xs.drop b.1)%d)
  (fun b=>b.1) (xs.length,(xs.length:Int)-1,List.replicate xs.length 0,0) (fun _=>rfl) ⟨pC _,rfl,by simp,fun x h=>by rw[(fL.1 h).2];decide,by simp[List.drop_of_length_le,wB],by simp[wB]⟩ ⟨rfl,rfl,⟨_,rfl⟩,rfl,rfl,trivial⟩ fun⟨j,i,out,rest⟩ hI=>?_
 obtain⟨h1,h2,h3,h4,h5,h6⟩:=hI;dsimp only at h1 h2 h3 h4 h5 h6 ⊢;have ho:=qA out;have hro:rest<d:=by rw[h6];exact dP _ hd0
 rcases mI j with rfl|hj
 ·have hc:=wR9 out h4 (by omega);have hov:Ev.ewrap .u32 (rest:Int)=(rest:Nat):=wH7 (by omega) (by omega);repeat (first|refine wv ?_|refine wg rfl cF ?_|refine wg rfl (qJ wL rfl rfl rfl rfl (wH7 (by omega) (by omega)) rfl) ?_|refine wh (wR9 out h4 (by omega)) ?_|refine wz ?_)
  refine⟨.inl rfl,_,rfl,?_⟩;simp only[List.drop_zero]at h5 h6;rw[h5,h6]
 ·obtain⟨k,rfl⟩:∃k,j=k+1:=⟨j-1,by omega⟩
  have hxk:=getD_lt xs hx k;have hg:=kP xs k (by omega);have hog:=kP out k (by omega);have hstep:=short_step (xs.getD k 0) rest d (wB (xs.drop (k+1))) 4294967296 hd0 h6 (by decide);rw[←wY]at hstep;have hset:=wKJ out k;have hds:=wKC out k;generalize hxe:xs.getD k 0=x at *
  have hor:=wMH rest x hxk;generalize ht:rest*4294967296+x=t at *
  have htl:t<d*4294967296:=by
   have:(rest+1)*4294967296≤d*4294967296:=mM _ hro
   omega
  have hq:t/d<4294967296:=pB7 htl;have hrl:=dP t hd0;generalize hqe:t/d=q at *
  generalize hre:t%d=r at *
  repeat (first|refine wv ?_|refine wg rfl cT ?_|refine wg rfl sB ?_|refine wg rfl (qJ wL rfl rfl rfl rfl (j6 (by omega) (by omega)) rfl) ?_|refine wg rfl (qJ wL rfl rfl rfl rfl (wH7 (by omega) (by omega)) rfl) ?_|refine wg rfl (xX (s:=32) rfl rfl rfl rfl (by decide) (by rw[ew64,mX (by omega)]) rfl) ?_|refine wg rfl (wA9 wL rfl rfl rfl (i:=k) (by omega) rfl rfl hg rfl rfl) ?_|refine wg rfl (jF rfl rfl rfl rfl (nOr64 hor (by omega) (by omega)) rfl) ?_|refine wg rfl (wDE rfl rfl rfl (by omega) (nQuo64 hqe (by omega)) rfl) ?_|refine wg rfl (kQ rfl rfl rfl (by omega) (nRem hre) rfl) ?_|refine wg rfl (zD wL rfl rfl rfl (i:=k) (by omega) rfl rfl (by omega) rfl rfl rfl) ?_|refine wg rfl (zW wL rfl rfl rfl hog rfl rfl rfl rfl (by decide) rfl (hset _)) ?_|refine wz ?_)
  refine⟨(k,_,out.set k q,r),⟨by omega,?_,by simp[h3],vB out k _ h4 hq,?_,?_⟩,by omega,rfl,rfl,⟨_,rfl⟩,rfl,rfl,trivial⟩
  ·dsimp only;omega
  ·rw[hds _ (by omega),hstep.1,h5]
  ·exact hstep.2.symm
theorem wN1(v:V):∀e∈[[v]],e.length=1:=by simp
def qQ:List Nat→Nat→Nat→List Nat
 |[],_,c=>if c=0 then[]else[c]
 |x::xs,s,c=>(x*2^s%4294967296+c)::qQ xs s (x*2^s/4294967296)
theorem qA8(xs:List Nat)(s c:Nat)(hs:s<32):wB (qQ xs s c)=wB xs*2^s+c:=by
 induction xs generalizing c with
 |nil=>unfold qQ;split<;>simp_all [wB]
 |cons x xs ih=>simp only[qQ,wB,ih];have:=cQ (x*2^s) 4294967296;rw[mY,mC 4294967296,mA];omega
theorem qI6(xs:List Nat)(s c:Nat)(hs:s<32)(hx:okL xs)(hc:c<2^s):okL (qQ xs s c):=by
 have hp:2^s≤2^31:=cU (by decide) (by omega)
 induction xs generalizing c with
 |nil=>
  unfold qQ;split
  ·intro x h;simp at h
  ·intro x h;simp at h;omega
 |cons x xs ih=>
  have h3:=left_step 0 0 c 0 x s (by simp) hc hs;intro y hy;simp only[qQ,List.mem_cons]at hy;rcases hy with rfl|hy
  ·exact h3.2.1
  ·exact ih _ (fun z hz=>hx z (pO _ hz)) (h3.2.2 (hx x (pQ ..))) y hy
theorem wQ2(xs:List Nat)(s c:Nat):xs.length≤(qQ xs s c).length∧(qQ xs s c).length≤xs.length+1:=by
 induction xs generalizing c with
 |nil=>unfold qQ;split<;>simp
 |cons x xs ih=>simp only[qQ,List.length_cons];have:=ih (x*2^s/4294967296);omega
theorem left_v(xs:List Nat)(s:Nat)(hx:okL xs)(hl:xs.length≤8796093022208)(hs:s<32):wOI Tryz.prog 215 [vL xs,.int .i64 (s:Nat)] 66 1 (uL (qQ (qE xs) s 0)):=by
 refine wY7 (t:=4) Tryz.func215 rfl rfl rfl rfl fun w0=>?_;have hq:Ev.ewrap .i64 ((s:Int).tdiv 32)=0:=by
  have:(s:Int).tdiv 32=0:=by rw[gP (by omega)];omega
  rw[this];rfl
 have hr:(s:Int).tmod 32=(s:Nat):=by rw[Int.tmod_eq_emod_of_nonneg (by omega)];omega
 have htl:=jH xs;repeat (first|refine wg rfl (sL (qA _)) ?_|refine wv ?_|refine wg rfl sB ?_|refine wc (qC2 xs (by omega)) ?_|refine wg rfl (wDE rfl rfl rfl (by decide) hq rfl) ?_|refine wg rfl (wAG (id:=7000) (m:=1) (bb:=4) (l:=0) (c:=(qE xs).length+3) wL rfl rfl rfl rfl (by omega) rfl rfl rfl rfl rfl (by omega) rfl (by omega) (by simp only[maxLen];omega) rfl rfl rfl (es':=uL []) rfl) ?_|refine wz ?_)
 refine qC (fun b:Nat×List Nat×Nat=>[jV 0 (vL (qE xs)),jI 2 s,jO 10 2011 66 1 (uL b.2.1),jV 12 (.int .u32 (b.2.2:Nat)),jV 40 (vL (qE xs)),jI 42 ((qE xs).length),jI 44 (b.1)])
  (fun b=>b.1≤(qE xs).length∧b.2.1.length=b.1∧b.2.2<2^s∧qQ (qE xs) s 0=b.2.1++qQ ((qE xs).drop b.1) s b.2.2)
  (fun b=>(qE xs).length-b.1) (0,[],0) (fun _=>rfl) ⟨pG _,rfl,dU (by decide),by simp⟩ ⟨rfl,rfl,⟨_,rfl⟩,rfl,rfl,rfl,rfl,trivial⟩ fun⟨j,out,c⟩ hI=>?_
 obtain⟨h1,h2,h3,h4⟩:=hI;dsimp only at h1 h2 h3 h4 ⊢;have ho:=qA out;have hp:2^s≤2147483648:=(cU (by decide) (show s≤31 by omega):2^s≤2^31)
 rcases pL j (qE xs).length with hj|hj
 ·have hxk:=getD_lt (qE xs) (fun x h=>hx x (wP5 xs x h)) j;have hg:=kP (qE xs) j hj;have hstep:=left_step 0 0 c 0 ((qE xs).getD j 0) s (by simp) h3 hs;have hor:=or_low ((qE xs).getD j 0) s c hs h3;have hd:(qE xs).drop j=(qE xs).getD j 0::(qE xs).drop (j+1):=by
   rw[cE hj];simp[List.getD,hj]
  rw[hd]at h4;simp only[qQ]at h4;generalize (qE xs).getD j 0=x at *
  have hm:x*2^s≤x*2147483648:=mO _ hp;have hl3:=hstep.2.2 hxk;obtain⟨pr,hpe⟩:∃pr,x*2^s=pr:=⟨_,rfl⟩
  rw[hpe]at hm hl3 hor h4;have hor2:ewrap .u32 ((BitVec.ofInt IntKind.u32.bits ((pr%4294967296:Nat):Int) ||| BitVec.ofInt IntKind.u32.bits (c:Int)).toNat:Int)=((pr%4294967296+c:Nat):Int):=nOr32 hor (by omega) (by omega);have hsn:=qBJ out (pr%4294967296+c);have hqd:pr/2^32=pr/4294967296:=rfl;have h32:ewrap .u32 ((pr/4294967296:Nat):Int)=((pr/4294967296:Nat):Int):=wH7 (by omega) (by omega);repeat (first|refine wv ?_|refine wg rfl cT ?_|refine wg rfl sB ?_|refine wg rfl (qJ wL rfl rfl rfl rfl (j6 (by omega) (by omega)) rfl) ?_|refine wg rfl (qJ wL rfl rfl rfl rfl (wH7 (by omega) (by omega)) rfl) ?_|refine wg rfl (wA9 wL rfl rfl rfl (i:=j) (by omega) rfl rfl hg rfl rfl) ?_|refine wg rfl (kQ rfl rfl rfl (by decide) hr rfl) ?_|refine wg rfl (xX (s:=s) (r:=pr%4294967296) rfl rfl rfl rfl (by simp only[IntKind.bits];omega) (by rw[hpe,ew32]) rfl) ?_|refine wg rfl (xX (s:=s) (r:=pr) rfl rfl rfl rfl (by simp only[IntKind.bits];omega) (by rw[hpe,ew64,mX (by omega)]) rfl) ?_|refine wg rfl (jF rfl rfl rfl rfl hor2 rfl) ?_|refine wg rfl (y0 (s:=32) rfl rfl rfl rfl (by decide) hqd rfl) ?_|refine wf rfl rfl (xQ (id:=7001) (es2:=[[_]]) (m:=1) (bb:=4) wL rfl rfl rfl rfl rfl rfl rfl rfl rfl rfl rfl (wN1 _) rfl (by simp only[maxLen];simp;omega) (by simp;omega) rfl rfl hsn.symm) ?_|refine wz ?_)
  refine⟨(j+1,out++[pr%4294967296+c],pr/4294967296),⟨hj,by simp[h2],hl3,by rw[h4];simp⟩,by dsimp only;omega,rfl,rfl,⟨_,rfl⟩,rfl,rfl,rfl,rfl,trivial⟩
 ·have hd:(qE xs).drop j=[]:=mP hj;rw[hd]at h4;have hcb:c<2147483648:=by omega
  rcases mI c with rfl|hc
  ·simp only[qQ,if_true,List.append_nil]at h4;repeat (first|refine wv ?_|refine wg rfl cF ?_|refine wg rfl nF ?_|refine wz ?_)
   exact⟨.inl rfl,5,_,by rw[h4];rfl⟩
  ·have hc0:c≠0:=by omega
   simp only[qQ,if_neg hc0]at h4;have hsn:=qBJ out c;repeat (first|refine wv ?_|refine wg rfl cF ?_|refine wg rfl nT ?_|refine wf rfl rfl (xQ (id:=7001) (es2:=[[_]]) (m:=1) (bb:=4) wL rfl rfl rfl rfl rfl rfl rfl rfl rfl rfl rfl (wN1 _) rfl (by simp only[maxLen];simp;omega) (by simp;omega) rfl rfl hsn.symm) ?_|refine wz ?_)
   exact⟨.inl rfl,5,_,by rw[h4];rfl⟩
theorem right_v(xs:List Nat)(s:Nat)(hx:okL xs)(hl:xs.length≤8796093022208)(hs:s<32):wJ Tryz.prog 216 [vL xs,.int .i64 (s:Nat)] (fun y=>y=.tup [vN (wB xs/2^s),.int .i64 0]):=by
 refine wC wL Tryz.func216 rfl rfl rfl rfl fun w0=>?_;have hq:Ev.ewrap .i64 ((s:Int).tdiv 32)=0:=by
  have:(s:Int).tdiv 32=0:=by rw[gP (by omega)];omega
  rw[this];rfl
 have hr:(s:Int).tmod 32=(s:Nat):=by rw[Int.tmod_eq_emod_of_nonneg (by omega)];omega
 have htl:=jH xs;have htn:wB (qE xs)=wB xs:=by rw[zG xs hx,wI]
 have hy:okL (qE xs):=fun x h=>hx x (wP5 xs x h);rw[←htn];have htr:=qC2 xs (by omega);generalize qE xs=ys at *
 have hyl:=qA ys;rcases mI ys.length with h0|hp
 ·obtain rfl:=pN h0;repeat (first|refine wg rfl (sL (qA _)) ?_|refine wv ?_|refine wg rfl cT ?_|refine wg rfl cF ?_|refine wc htr ?_|refine wg rfl (wDE rfl rfl rfl (by decide) hq rfl) ?_|refine wz ?_)
  refine⟨.inl rfl,_,rfl,?_⟩;simp[wB,vN,toL,vL,uL]
 ·have hdr:(uL ys).drop 0=uL ys:=rfl;repeat (first|refine wg rfl (sL (qA _)) ?_|refine wv ?_|refine wg rfl cF ?_|refine wc htr ?_|refine wg rfl (wDE rfl rfl rfl (by decide) hq rfl) ?_|refine wg rfl (wK4 wL rfl rfl rfl (l:=0) rfl rfl rfl (qC1 _) (by omega) hdr rfl) ?_|refine wg rfl (wAG (id:=7000) (m:=1) (bb:=4) wL rfl rfl rfl rfl rfl rfl rfl rfl rfl rfl (pC _) rfl (by omega) (by simp only[maxLen];omega) rfl rfl rfl (qC0 _)) ?_|refine wz ?_)
  refine qC (fun b:Nat×List Nat=>[jV 0 (vL ys),jI 2 s,jO 12 0 66 1 (uL b.2),jV 52 (vL ys),jI 54 (ys.length),jI 56 (b.1)])
   (fun b=>b.1≤ys.length∧b.2.length=ys.length∧okL b.2∧wB (b.2.take b.1)=wB ys/2^s%4294967296^b.1)
   (fun b=>ys.length-b.1) (0,List.replicate ys.length 0) (fun _=>rfl) ⟨pG _,by simp,fun x h=>by rw[(fL.1 h).2];decide,by simp[wB,Nat.mod_one]⟩ ⟨rfl,rfl,⟨_,rfl⟩,rfl,rfl,rfl,trivial⟩ fun⟨j,out⟩ hI=>?_
  obtain⟨h1,h2,h3,h4⟩:=hI;dsimp only at h1 h2 h3 h4 ⊢;have ho:=qA out;rcases pL j ys.length with hj|hj
  ·have hxk:=getD_lt ys hy j;have hxk2:=getD_lt ys hy (j+1);have hg:=kP ys j hj;have hog:=kP out j (by omega);have hset:=wKJ out j;have hdg:=wRJ ys j s (by omega) hy;have hor:=wMH (ys.getD (j+1) 0) (ys.getD j 0) hxk;have h1v:ys.length≤j+1→ys.getD (j+1) 0=0:=fun h=>by simp[List.getD,h]
   have hg2:=fun h=>kP ys (j+1) h;generalize ys.getD j 0=x at *
   generalize ys.getD (j+1) 0=y at *
   rw[Nat.or_comm]at hor;rw[fW x,mH 4294967296 y]at hdg;obtain⟨t,ht⟩:∃t,y*4294967296+x=t:=⟨_,rfl⟩
   rw[ht]at hor hdg;obtain⟨q,hqe⟩:∃q,t/2^s=q:=⟨_,rfl⟩
   rw[hqe]at hdg;have hql:q≤t:=by rw[←hqe];exact cO _ _
   have hset2:=wJ5 out ys.length j (q%4294967296) h2 hj;have hse:=right_step (wB ys/2^s) (4294967296^j) _ hdg;have hsv:∀Y,wB (Y:List Nat)=wB (out.take j)+4294967296^j*(q%4294967296)→wB Y=wB ys/2^s%4294967296^(j+1):=fun Y h=>by rw[h,h4,mS,hse]
   rcases pL (j+1) ys.length with hj1|hj1
   ·have hg3:=hg2 hj1;repeat (first|refine wg rfl (sL (qA _)) ?_|refine wv ?_|refine wg rfl cT ?_|refine wg rfl sB ?_|refine wg rfl (qJ wL rfl rfl rfl rfl (j6 (by omega) (by omega)) rfl) ?_|refine wg rfl (sX j hg) ?_|refine wg rfl (wA9 wL rfl rfl rfl (i:=j+1) (by omega) rfl rfl hg3 rfl rfl) ?_|refine wg rfl (kQ rfl rfl rfl (by decide) hr rfl) ?_|refine wg rfl (xX (s:=32) rfl rfl rfl rfl (by decide) (by rw[ew64,mX (by omega)]) rfl) ?_|refine wg rfl (jF rfl rfl rfl rfl (nOr64 hor (by omega) (by omega)) rfl) ?_|refine wg rfl (y0 (s:=s) rfl rfl rfl rfl (by simp only[IntKind.bits];omega) hqe rfl) ?_|refine wg rfl (qJ wL rfl rfl rfl rfl (ew32 q) rfl) ?_|refine wg rfl (zD wL rfl rfl rfl (i:=j) rfl rfl rfl (by omega) rfl rfl rfl) ?_|refine wg rfl (zW wL rfl rfl rfl hog rfl rfl rfl rfl (by decide) rfl (hset _)) ?_|refine wz ?_)
    exact⟨(j+1,out.set j (q%4294967296)),⟨hj,by simp[h2],vB out j _ h3 (dP _ (by decide)),hsv _ hset2⟩,by dsimp only;omega,rfl,rfl,⟨_,rfl⟩,rfl,rfl,rfl,trivial⟩
   ·have hy0:=h1v hj1;subst hy0;have hxt:x=t:=by omega
    subst hxt;have hqm:q%4294967296=q:=mX (by omega);rw[hqm]at hsv hset2;repeat (first|refine wg rfl (sL (qA _)) ?_|refine wv ?_|refine wg rfl cT ?_|refine wg rfl cF ?_|refine wg rfl sB ?_|refine wg rfl (qJ wL rfl rfl rfl rfl (j6 (by omega) (by omega)) rfl) ?_|refine wg rfl (qJ wL rfl rfl rfl rfl (wH7 (by omega) (by omega)) rfl) ?_|refine wg rfl (sX j hg) ?_|refine wg rfl (kQ rfl rfl rfl (by decide) hr rfl) ?_|refine wg rfl (y0 (s:=s) rfl rfl rfl rfl (by simp only[IntKind.bits];omega) hqe rfl) ?_|refine wg rfl (zD wL rfl rfl rfl (i:=j) rfl rfl rfl (by omega) rfl rfl rfl) ?_|refine wg rfl (zW wL rfl rfl rfl hog rfl rfl rfl rfl (by decide) rfl (hset _)) ?_|refine wz ?_)
    exact⟨(j+1,out.set j q),⟨hj,by simp[h2],vB out j _ h3 (by omega),hsv _ hset2⟩,by dsimp only;omega,rfl,rfl,⟨_,rfl⟩,rfl,rfl,rfl,trivial⟩
  ·repeat (first|refine wv ?_|refine wg rfl cF ?_|refine wh (wR9 out h3 (by omega)) ?_|refine wz ?_)
   refine⟨.inl rfl,_,rfl,?_⟩;have hje:j=ys.length:=by omega
   subst hje;rw[wZI ys s hy,mW (by omega)]at h4;rw[h4]
structure Guess(top next u2 t Q q r:Nat):Prop where
 eq:q*top+r=t
 rB:r<4294967296
 ge:Q≤q
 le:q≤4294967297
 far:4294967297≤q→r+top<4294967296
structure Digit(top next u2 t Q:Nat):Prop where
 top1:2147483648≤top
 top2:top<4294967296
 next2:next<4294967296
 u22:u2<4294967296
 big:∀q,4294967296≤q→Q<q
 fit:∀q,t*4294967296+u2<q*(top*4294967296+next)→Q<q
 tle:t<top*4294967296+4294967296
theorem Digit.start{top next u2 t Q:Nat}(d:Digit top next u2 t Q):Guess top next u2 t Q (t/top) (t%top):=by
 have h1:=d.top1;have h2:=d.top2;have h3:=cQ t top;have h4:=dP t (show 0<top by omega);have h5:=d.tle;have hc:t/top*top=top*(t/top):=mH _ _;refine⟨by omega,by omega,?_,?_,?_⟩
 ·rcases pL (t/top) Q with h|h
  ·exfalso;have:=d.fit (t/top+1) (by
    have e:(t/top+1)*(top*4294967296+next)=(top*(t/top)+top)*4294967296+(t/top+1)*next:=by rw[mA,←mC,mY (t/top) 1 top,gG,hc]
    have h6:t+1≤top*(t/top)+top:=by omega
    have h7:(t+1)*4294967296≤(top*(t/top)+top)*4294967296:=mM _ h6;have h8:=d.u22;rw[e];omega)
   omega
  ·exact h
 ·rcases pL (t/top) 4294967298 with h|h
  ·omega
  ·exfalso
   have:top*4294967298≤top*(t/top):=mO _ h
   omega
 ·intro h
  have:top*4294967297≤top*(t/top):=mO _ h
  omega
theorem Guess.down{top next u2 t Q q r:Nat}(d:Digit top next u2 t Q)(g:Guess top next u2 t Q q r)(h:4294967296≤q∨r*4294967296+u2<q*next) :
  Q≤q-1∧1≤q∧(q-1)*top+(r+top)=t∧(r+top<4294967296→Guess top next u2 t Q (q-1) (r+top)) ∧
   (4294967296≤r+top→q-1<4294967296∧(q-1)*(top*4294967296+next)≤t*4294967296+u2):=by
 have hq:Q<q:=by
  rcases h with h|h
  ·exact d.big q h
  ·refine d.fit q ?_;have e:q*(top*4294967296+next)=q*top*4294967296+q*next:=by rw[mA,←mC]
   have h5:t*4294967296=q*top*4294967296+r*4294967296:=by rw[←g.eq,mY]
   rw[e,h5,cA];exact Nat.add_lt_add_left h _
 obtain⟨p,rfl⟩:∃p,q=p+1:=⟨q-1,by omega⟩
 have he:p*top+(r+top)=t:=by have:=g.eq;rw[mY,gG]at this;omega
 refine⟨by omega,by omega,by simpa using he,fun hr=>⟨by simpa using he,hr,by omega,by have:=g.le;omega,fun h2=>by have:=g.le;omega⟩,fun hr=>?_⟩;have hp:p<4294967296:=by
  have h1:=g.le;rcases pL p 4294967296 with h2|h2
  ·exact h2
  ·have:=g.far (by omega);omega
 refine⟨by omega,?_⟩;rw[Nat.add_sub_cancel];have e:p*(top*4294967296+next)=p*top*4294967296+p*next:=by rw[mA,←mC]
 have h5:t*4294967296=p*top*4294967296+(r+top)*4294967296:=by rw[←he,mY]
 have h6:p*next≤4294967296*4294967296:=bK (by omega) (dK d.next2)
 have h7:4294967296*4294967296≤(r+top)*4294967296:=mM _ hr;rw[e];omega
theorem Guess.end{top next u2 t Q q r:Nat}(g:Guess top next u2 t Q q r)(h:¬(4294967296≤q∨r*4294967296+u2<q*next)) :
  q<4294967296∧q*(top*4294967296+next)≤t*4294967296+u2:=by
 have e:q*(top*4294967296+next)=q*top*4294967296+q*next:=by rw[mA,←mC]
 have h5:t*4294967296=q*top*4294967296+r*4294967296:=by rw[←g.eq,mY]
 rw[e];omega
theorem digit_of(P W V top next u2 t:Nat)(hP:0<P)(h1:2147483648≤top)(h2:top<4294967296)(h3:next<4294967296)(h4:u2<4294967296)(hV:(top*4294967296+next)*P≤V)(hW1:W<(t*4294967296+u2+1)*P)(hWV:W<V*4294967296)(ht:t<top*4294967296+4294967296):Digit top next u2 t (W/V):=by
 have hV0:0<V:=pT (Nat.mul_pos (by omega) hP) hV;refine⟨h1,h2,h3,h4,fun q hq=>?_,fun q hq=>?_,ht⟩
 ·exact pT ((pB1 hV0).2 (by rw[mH];exact hWV)) hq
 ·refine(pB1 hV0).2 (pT hW1 ?_);refine pD (mM P hq) ?_;rw[mC];exact mO q hV
theorem guess_le(P W V top next u2 t q:Nat)(hP:0<P)(hPV:4294967296*P≤V)(hV:V<(top*4294967296+next+1)*P)(hW:(t*4294967296+u2)*P≤W)(hq:q<4294967296)(h:q*(top*4294967296+next)≤t*4294967296+u2):q≤W/V+1:=by
 have hV0:0<V:=pT (Nat.mul_pos (by decide) hP) hPV;rcases pL (W/V+1) q with hlt|hge
 ·exfalso;have a1:(W/V+2)*V≤q*V:=mM _ hlt;have a2:q*V≤q*((top*4294967296+next+1)*P):=mO _ (dK hV);have a3:q*((top*4294967296+next+1)*P)=q*(top*4294967296+next)*P+q*P:=by
   rw[←mC,mA q,fV,mY]
  have a4:q*(top*4294967296+next)*P≤(t*4294967296+u2)*P:=mM _ h;have a5:q*P<4294967296*P:=(gO hP).2 hq;have a6:=cQ W V;have a7:=dP W hV0;have a8:(W/V+2)*V=V*(W/V)+2*V:=by rw[mY,mH (W/V)]
  omega
 ·exact hge
theorem take_limb(u q v carry borrow:Nat)(hu:u<4294967296)(hq:q<4294967296)(hv:v<4294967296)(hc:carry<4294967296)(hb:borrow≤1) :
  q*v+carry<18446744073709551616∧(q*v+carry)/4294967296<4294967296 ∧
  (u+18446744073709551616-(q*v+carry)%4294967296-borrow)%18446744073709551616/9223372036854775808≤1 ∧
  (u+18446744073709551616-(q*v+carry)%4294967296-borrow)%18446744073709551616%4294967296+(q*v+carry)%4294967296+borrow =
   u+4294967296*((u+18446744073709551616-(q*v+carry)%4294967296-borrow)%18446744073709551616/9223372036854775808):=by
 have h1:q*v≤4294967295*4294967295:=bK (by omega) (by omega);generalize q*v=p at *
 refine⟨by omega,by omega,by omega,by omega⟩
theorem take_sum(Pi A U Vi q u v c b d' c' b' lo:Nat)(h:A+q*Vi=U+Pi*(c+b))(hp:q*v+c=4294967296*c'+lo)(hd:d'+lo+b=u+4294967296*b') :
  (A+Pi*d')+q*(Vi+Pi*v)=(U+Pi*u)+Pi*4294967296*(c'+b'):=by
 have e1:q*(Vi+Pi*v)=q*Vi+Pi*(q*v):=by rw[mA,fU]
 have e2:Pi*(q*v)+Pi*c=Pi*4294967296*c'+Pi*lo:=by rw[←mA,hp,mA,←mC]
 have e3:Pi*d'+Pi*lo+Pi*b=Pi*u+Pi*4294967296*b':=by rw[←mA,←mA,hd,mA,←mC]
 rw[e1,mA (Pi*4294967296)];rw[mA]at h;omega
theorem take_fits(Pn A U V W q un c b:Nat)(hV:0<V)(hVP:V≤Pn)(h:A+q*V=U+Pn*(c+b))(hW:W=U+Pn*un)(hge:W/V≤q)(hle:c+b≤un) :
  q=W/V∧A=W%V∧un-c-b=0:=by
 have e1:Pn*un=Pn*(c+b)+Pn*(un-(c+b)):=by rw[←mA];congr 1;omega
 have e2:A+Pn*(un-(c+b))+q*V=W:=by omega
 have hq:q≤W/V:=(Nat.le_div_iff_mul_le hV).2 (by omega);have hqe:q=W/V:=by omega
 have e3:=cQ W V;have e4:=dP W hV;have e5:q*V=V*(W/V):=by rw[hqe,mH]
 have hz:un-(c+b)=0:=by
  rcases mI (un-(c+b))with h0|h0
  ·exact h0
  ·exfalso
   have:Pn*1≤Pn*(un-(c+b)):=mO _ h0
   omega
 rw[hz,dN]at e2;exact⟨hqe,by omega,by omega⟩
theorem take_lent(Pn A U V W q un c b:Nat)(hV:0<V)(hVP:V<Pn)(hA:A<Pn)(h:A+q*V=U+Pn*(c+b))(hW:W=U+Pn*un)(hle:q≤W/V+1)(hlt:un<c+b) :
  q=W/V+1∧c+b=un+1∧A+V=W%V+Pn:=by
 have e1:Pn*(c+b)=Pn*un+Pn*(c+b-un):=by rw[←mA];congr 1;omega
 have e2:A+q*V=W+Pn*(c+b-un):=by omega
 have e3:=cQ W V;have e4:=dP W hV;have hm:Pn*1≤Pn*(c+b-un):=mO _ (by omega);have hqW:W<q*V:=by omega
 have hq:W/V<q:=(pB1 hV).2 hqW;have hqe:q=W/V+1:=by omega
 have e5:q*V=V*(W/V)+V:=by rw[hqe,mY,gG,mH]
 have hz:c+b-un=1:=by
  rcases pL (c+b-un) 2 with h0|h0
  ·omega
  ·exfalso
   have:Pn*2≤Pn*(c+b-un):=mO _ h0
   omega
 rw[hz]at e2;exact⟨hqe,by omega,by omega⟩
theorem getD_drop(us:List Nat)(j i:Nat):(us.drop j).getD i 0=us.getD (j+i) 0:=by simp[List.getD]
theorem win_split(us:List Nat)(j n:Nat)(hn:2≤n)(hx:∀x,x∈us→x<4294967296)(hhi:wB (us.drop (j+1+n))=0) :
  ∃lo,lo<4294967296^(n-2)∧wB (us.drop j)=lo+4294967296^(n-2)*(us.getD (j+(n-2)) 0+4294967296*(us.getD (j+(n-1)) 0+4294967296*us.getD (j+n) 0)):=by
 refine⟨wB ((us.drop j).take (n-2)),kJ _ _ fun x h=>hx x (dL h),?_⟩;rw[qO (us.drop j) (n-2),mQ,wY us (j+(n-2)),wY us (j+(n-2)+1),wY us (j+(n-2)+1+1)];rw[show j+(n-2)+1=j+(n-1) by omega,show j+(n-1)+1=j+n by omega,show j+n+1=j+1+n by omega,hhi];simp
theorem hi_zero(us:List Nat)(k n V:Nat)(h:wB (us.drop k)<V)(hV:V<4294967296^n):wB (us.drop (k+n))=0:=by
 have h1:=qO (us.drop k) n;rw[mQ]at h1;rcases mI (wB (us.drop (k+n)))with h0|h0
 ·exact h0
 ·have:4294967296^n*1≤4294967296^n*wB (us.drop (k+n)):=mO _ h0
  omega
theorem top_split(vs:List Nat)(n:Nat)(hn:2≤n)(hl:vs.length=n)(hx:∀x,x∈vs→x<4294967296) :
  ∃lo,lo<4294967296^(n-2)∧wB vs=lo+4294967296^(n-2)*(vs.getD (n-2) 0+4294967296*vs.getD (n-1) 0):=by
 refine⟨wB (vs.take (n-2)),kJ _ _ hx,?_⟩;rw[qO vs (n-2),wY vs (n-2),wY vs (n-2+1)];rw[show n-2+1=n-1 by omega,show n-1+1=n by omega,mP (pE3 hl)];simp[wB]
theorem long_digit(us vs:List Nat)(j n:Nat)(hn:2≤n)(hl:vs.length=n)(hu:∀x,x∈us→x<4294967296)(hv:∀x,x∈vs→x<4294967296)(htop:2147483648≤vs.getD (n-1) 0)(hW:wB (us.drop (j+1))<wB vs){t:Nat}(ht:us.getD (j+n) 0*4294967296+us.getD (j+(n-1)) 0=t) :
  Digit (vs.getD (n-1) 0) (vs.getD (n-2) 0) (us.getD (j+(n-2)) 0) t (wB (us.drop j)/wB vs) ∧
  (∀q,q<4294967296→q*(vs.getD (n-1) 0*4294967296+vs.getD (n-2) 0)≤t*4294967296+us.getD (j+(n-2)) 0→q≤wB (us.drop j)/wB vs+1):=by
 have hVB:wB vs<4294967296^n:=by rw[←hl];exact qP vs hv
 have hhi:=hi_zero us (j+1) n _ hW hVB;obtain⟨lo,hlo,e1⟩:=win_split us j n hn hu hhi;obtain⟨lv,hlv,e2⟩:=top_split vs n hn hl hv;have h2:=getD_lt us hu (j+(n-2));have hnx:=getD_lt vs hv (n-2);have htp:=getD_lt vs hv (n-1);have e3:wB (us.drop j)=us.getD j 0+4294967296*wB (us.drop (j+1)):=wY us j;have hj:=getD_lt us hu j
 have htl:t<vs.getD (n-1) 0*4294967296+4294967296:=by
  have hs:=qO (us.drop (j+1)) (n-2);rw[mQ,wY us (j+1+(n-2)),wY us (j+1+(n-2)+1)]at hs;rw[show j+1+(n-2)+1=j+n by omega,show j+1+(n-2)=j+(n-1) by omega,show j+n+1=j+1+n by omega,hhi]at hs;have hP:0<4294967296^(n-2):=dU (by decide);have hc:us.getD (j+(n-1)) 0+4294967296*(us.getD (j+n) 0+4294967296*0)=t:=by rw[←ht];omega
  rw[hc]at hs;generalize 4294967296^(n-2)=P at *
  rcases pL t (vs.getD (n-1) 0*4294967296+4294967296)with h|h
  ·exact h
  ·exfalso;have h5:P*(vs.getD (n-2) 0+4294967296*vs.getD (n-1) 0+1)≤P*t:=mO _ (by omega);rw[mA,fV]at h5;omega
 have hP:0<4294967296^(n-2):=dU (by decide);have e1':wB (us.drop j)=lo+4294967296^(n-2)*(t*4294967296+us.getD (j+(n-2)) 0):=by rw[e1,←ht];congr 2;omega
 have e2':wB vs=lv+4294967296^(n-2)*(vs.getD (n-1) 0*4294967296+vs.getD (n-2) 0):=by rw[e2];congr 2;omega
 generalize 4294967296^(n-2)=P at *
 generalize us.getD (j+(n-2)) 0=u2 at *
 generalize vs.getD (n-2) 0=nx at *
 generalize vs.getD (n-1) 0=tp at *
 have f1:(tp*4294967296+nx)*P≤wB vs:=by rw[e2',mH];omega
 have f2:wB (us.drop j)<(t*4294967296+u2+1)*P:=by rw[e1',mY _ 1 P,gG,mH P];omega
 have f3:wB (us.drop j)<wB vs*4294967296:=by rw[e3];omega
 refine⟨digit_of P _ _ tp nx u2 t hP htop htp hnx h2 f1 f2 f3 htl,fun q hq hle=>?_⟩;refine guess_le P _ _ tp nx u2 t q hP ?_ ?_ ?_ hq hle
 ·refine pD ?_ f1;exact mM _ (by omega)
 ·rw[e2',mY _ 1 P,gG,mH P];omega
 ·rw[e1',mH];omega
theorem wJ0(us:List Nat)(j i d:Nat)(h:j+i<us.length) :
  (us.set (j+i) d).take j=us.take j∧(us.set (j+i) d).drop (j+i+1)=us.drop (j+i+1)∧wB (((us.set (j+i) d).drop j).take (i+1))=wB ((us.drop j).take i)+4294967296^i*d:=by
 refine⟨by rw[List.take_set_of_le (by omega)],by rw[pC4 (by omega)],?_⟩;have e:(us.set (j+i) d).drop j=(us.drop j).set i d:=by rw[List.drop_set,if_neg (by omega)];simp
 rw[e];exact wJ5 (us.drop j) (us.length-j) i d (by simp) (by omega)
theorem qA9(x:Nat)(h0:0<x)(h:x<4294967296):∃L,Lib.bitLen x=L∧1≤L∧L≤32∧x<2^L∧2^(L-1)≤x:=by
 refine⟨_,rfl,?_⟩;have h32:=Lib.bitLen_le x 32 (by decide) (by simpa using h);have hpos:∀y,0<y→y<2^64→1≤Lib.bitLen y:=fun y hy hl=>by rw[Lib.bitLen_half y (by omega) hl];omega
 have h64:x<2^64:=pT h (by decide);have h1:=hpos x h0 h64;refine⟨h1,h32,?_,?_⟩
 ·rcases pL x (2^Lib.bitLen x)with hh|hh
  ·exact hh
  ·exfalso;have e:=Lib.bitLen_shift (Lib.bitLen x) x hh h64;have hq:0<x/2^Lib.bitLen x:=Nat.div_pos hh (dU (by decide));have:=hpos _ hq (fM (cO _ _) h64);omega
 ·rcases pL x (2^(Lib.bitLen x-1))with hh|hh
  ·exfalso;have:=Lib.bitLen_le x (Lib.bitLen x-1) (by omega) hh;omega
  ·exact hh
theorem leftG_more(xs:List Nat)(s c:Nat)(h:(qQ xs s c).length=xs.length+1):4294967296^xs.length≤wB (qQ xs s c):=by
 induction xs generalizing c with
 |nil=>
  unfold qQ at h ⊢;split
  ·simp_all
  ·simp[wB];omega
 |cons x xs ih=>simp only[qQ,List.length_cons,wB]at h ⊢;have:=ih _ (by omega:(qQ xs s (x*2^s/4294967296)).length=xs.length+1);rw[mS,mH];have h2:=mO 4294967296 this;omega
theorem long_start(ys:List Nat)(n s:Nat)(hn:2≤n)(hl:ys.length=n)(hy:∀x,x∈ys→x<4294967296)(h0:0<ys.getD (n-1) 0)(hs:Lib.bitLen (ys.getD (n-1) 0)+s=32) :
  s<32∧(qQ ys s 0).length=n∧(∀x,x∈qQ ys s 0→x<4294967296)∧wB (qQ ys s 0)=wB ys*2^s∧2147483648≤(qQ ys s 0).getD (n-1) 0:=by
 have htl:=getD_lt ys hy (n-1);obtain⟨L,hL,l1,l2,l3,l4⟩:=qA9 _ h0 htl;rw[hL]at hs;have hs32:s<32:=by omega
 have hnat:=qA8 ys s 0 hs32;rw[mJ]at hnat;have hok:=qI6 ys s 0 hs32 hy (dU (by decide));have hlen:=wQ2 ys s 0
 have e1:=qO ys (n-1);rw[wY ys (n-1),show n-1+1=n by omega,mP (pE3 hl)]at e1;have e2:=kJ ys (n-1) hy;have hPn:4294967296^n=4294967296^(n-1)*4294967296:=by rw[←mS];congr 1;omega
 have hP:0<4294967296^(n-1):=dU (by decide);have p1:2^L*2^s=4294967296:=by rw[←fC,hs]
 have p2:2^(L-1)*2^s=2147483648:=by rw[←fC,show L-1+s=31 by omega]
 simp only[wB,Nat.mul_zero,Nat.add_zero]at e1;generalize ys.getD (n-1) 0=tp at *
 have q1:wB ys<4294967296^(n-1)*(tp+1):=by rw[mA];omega
 have q2:wB ys*2^s<4294967296^n:=by refine pT ((gO (dU (by decide):0<2^s)).2 q1) ?_;rw[hPn,mC];refine mO _ ?_;rw[←p1];exact mM _ l3
 have q3:4294967296^(n-1)*2147483648≤wB ys*2^s:=by
  have:4294967296^(n-1)*tp≤wB ys:=by omega
  refine pD ?_ (mM _ this);rw[mC,←p2];exact mO _ (mM _ l4)
 have hln:(qQ ys s 0).length=n:=by
  rcases pL n (qQ ys s 0).length with h|h
  ·exfalso;have:=leftG_more ys s 0 (by omega);rw[hnat,hl]at this;omega
  ·omega
 refine⟨hs32,hln,hok,hnat,?_⟩;have f1:=qO (qQ ys s 0) (n-1);rw[wY _ (n-1),show n-1+1=n by omega,mP (pE3 hln)]at f1;have f2:=kJ (qQ ys s 0) (n-1) hok;simp only[wB,Nat.mul_zero,Nat.add_zero]at f1;rw[hnat]at f1;generalize (qQ ys s 0).getD (n-1) 0=z at *
 rcases pL z 2147483648 with h|h
 ·exfalso
  have:4294967296^(n-1)*(z+1)≤4294967296^(n-1)*2147483648:=mO _ h
  rw[mA]at this;omega
 ·exact h
def wO1(xs:List Nat)(s:Nat):List Nat:=(qQ xs s 0++[0,0]).take (xs.length+1)
theorem wVJ(xs:List Nat)(s:Nat)(hs:s<32)(hx:∀x,x∈xs→x<4294967296):(wO1 xs s).length=xs.length+1∧(∀x,x∈wO1 xs s→x<4294967296)∧wB (wO1 xs s)=wB xs*2^s:=by
 have hnat:=qA8 xs s 0 hs;rw[mJ]at hnat;have hok:=qI6 xs s 0 hs hx (dU (by decide));have hlen:=wQ2 xs s 0;unfold wO1;refine⟨by simp;omega,fun x h=>?_,?_⟩
 ·have:=dE h;simp only[List.mem_append,List.mem_cons]at this;rcases this with h|h|h|h
  ·exact hok x h
  ·omega
  ·omega
  ·cases h
 ·rcases pL xs.length (qQ xs s 0).length with h|h
  ·rw[List.take_append_of_le_length (by omega),mW (by omega),hnat]
  ·have e:xs.length=(qQ xs s 0).length:=by omega
   rw[e,gM];simp[wNJ,wB];rw[mW (by omega),hnat]
theorem longU_top(xs vs:List Nat)(n s:Nat)(hs:s<32)(hx:∀x,x∈xs→x<4294967296)(hn:2≤n)(hnx:n≤xs.length)(hvn:vs.length=n)(hv:∀x,x∈vs→x<4294967296)(htop:2147483648≤vs.getD (n-1) 0) :
  wB ((wO1 xs s).drop (xs.length-n+1))<wB vs:=by
 obtain⟨h1,h2,h3⟩:=wVJ xs s hs hx;have e1:=qO vs (n-1);rw[wY vs (n-1),show n-1+1=n by omega,mP (pE3 hvn)]at e1;simp only[wB,Nat.mul_zero,Nat.add_zero]at e1;have e2:=qO (wO1 xs s) (xs.length-n+1);have e3:=qP xs hx;have hp:2^s≤2147483648:=(cU (by decide) (show s≤31 by omega):2^s≤2^31)
 have e4:4294967296^xs.length=4294967296^(xs.length-n+1)*4294967296^(n-1):=by rw[←fC];congr 1;omega
 have hP:0<4294967296^(xs.length-n+1):=dU (by decide);rw[h3]at e2;have e5:wB xs*2^s<4294967296^(xs.length-n+1)*(4294967296^(n-1)*2^s):=by rw[←mC,←e4];exact(gO (dU (by decide))).2 e3
 have e6:4294967296^(xs.length-n+1)*wB ((wO1 xs s).drop (xs.length-n+1))<4294967296^(xs.length-n+1)*(4294967296^(n-1)*2^s):=by omega
 have e7:=(Nat.mul_lt_mul_left hP).1 e6;have e8:4294967296^(n-1)*2^s≤4294967296^(n-1)*vs.getD (n-1) 0:=mO _ (by omega);omega
theorem long_round(us us' out:List Nat)(V U0 j q:Nat)(hj:j<out.length)(h1:us'.take j=us.take j)(h2:wB (us'.drop j)=wB (us.drop j)%V)(hq:q=wB (us.drop j)/V)(h:wB us+V*(4294967296^(j+1)*wB (out.drop (j+1)))=U0):wB us'+V*(4294967296^j*wB ((out.set j q).drop j))=U0:=by
 rw[wKC out j q hj,qO us' j,h1,h2];rw[qO us j]at h;have h3:=cQ (wB (us.drop j)) V;rw[←hq]at h3;have e1:4294967296^j*wB (us.drop j)=4294967296^j*(V*q)+4294967296^j*(wB (us.drop j)%V):=by rw[←mA,h3]
 have e2:V*(4294967296^j*(q+4294967296*wB (out.drop (j+1))))=4294967296^j*(V*q)+V*(4294967296^(j+1)*wB (out.drop (j+1))):=by rw[mA,mA,fU V,mS,mC (4294967296^j)]
 rw[e1]at h;rw[e2];omega
theorem long_end(us out:List Nat)(A B n s:Nat)(hu:∀x,x∈us→x<4294967296)(hV:B*2^s<4294967296^n)(h:wB us+B*2^s*(4294967296^0*wB (out.drop 0))=A*2^s)(hlt:wB us<B*2^s) :
  wB out=A/B∧wB (us.take n)/2^s=A%B:=by
 simp only[Nat.pow_zero,Nat.one_mul,List.drop_zero]at h;have hp:0<2^s:=dU (by decide);have hq:A*2^s/(B*2^s)=wB out:=by rw[←h,pB8 _ _ (by omega),pE1 hlt,cL]
 have hr:A*2^s%(B*2^s)=wB us:=by rw[←h,gW,mX hlt]
 rw [Nat.mul_div_mul_right _ _ hp]at hq;rw[Nat.mul_mod_mul_right]at hr;have ht:wB (us.take n)=wB us:=by
  have h1:=qO us n;have h0:wB (us.drop n)=0:=by
   rcases mI (wB (us.drop n))with h0|h0
   ·exact h0
   ·have:4294967296^n*1≤4294967296^n*wB (us.drop n):=mO _ h0
    omega
  rw[h0]at h1;omega
 refine⟨hq.symm,?_⟩;rw[ht,←hr,Nat.mul_div_cancel _ hp]
theorem win_end(us:List Nat)(j n A v:Nat)(h:wB ((us.drop j).take n)=A)(h2:wB (us.drop (j+n+1))=0)(hl:j+n<us.length):wB ((us.set (j+n) v).drop j)=A+4294967296^n*v:=by obtain⟨_,e2,e3⟩:=wJ0 us j n v hl;rw[qO _ (n+1),mQ,show j+(n+1)=j+n+1 by omega,e2,h2,e3,h,dN,mJ]
theorem back_step(P R A Vi c u v:Nat)(h:R+P*c=A+Vi):R+P*((u+v+c)%4294967296)+P*4294967296*((u+v+c)/4294967296)=A+P*u+(Vi+P*v):=by
 have h1:=cQ (u+v+c) 4294967296;have e:P*(u+v+c)=P*4294967296*((u+v+c)/4294967296)+P*((u+v+c)%4294967296):=by
  conv=>lhs;rw[←h1]
  rw[mA,mC]
 rw[mA,mA]at e;omega
theorem back_end(P R A V M c:Nat)(h:R+P*c=A+V)(h2:A+V=M+P)(hR:R<P)(hM:M<P):c=1∧R=M:=by
 have hP:0<P:=by omega
 rcases pL c 1 with h0|h0
 ·have:c=0:=by omega
  subst this;omega
 ·rcases pL c 2 with h1|h1
  ·have:c=1:=by omega
   subst this;omega
  ·have:P*2≤P*c:=mO _ h1
   omega
theorem lz_v(x s:Nat)(hx:x<4294967296)(hs:Lib.bitLen x+s=32):wJ Tryz.prog 214 [.int .u32 (x:Nat)] (fun y=>y=.int .i64 (s:Nat)):=by
 intro S w us hus;cases hus with
 |cons h1 t=>
  cases t;cases h1;refine(Tryz.bits_LeadingZeros32 x w (by omega) (by omega)).mono ?_;rintro e w' ⟨rfl,rfl⟩
  have:(32:Int)-((Lib.bitLen (x:Int).toNat:Nat):Int)=(s:Nat):=by simp only[Int.toNat_natCast];omega
  rw[this];exact⟨_,_,rfl,rfl,.int _ _,Below.refl _ _⟩
theorem row2(v v2:V):∀e∈[[v],[v2]],e.length=1:=by simp
theorem uL_app(xs ys:List Nat):uL xs++uL ys=uL (xs++ys):=by simp[uL]
set_option maxRecDepth 200000 in
theorem long_vc(xs ys:List Nat)(n m:Nat)(hx:okL xs)(hy:okL ys)(hl:xs.length≤8796093022208)(htx:qE xs=xs)(hty:qE ys=ys)(hn:2≤n)(hyn:ys.length=n)(h0:0<ys.getD (n-1) 0)(hm:xs.length=m+n) :
  wJ Tryz.prog 175 [vL xs,vL ys] (fun y=>y=.tup [vN (wB xs/wB ys),vN (wB xs%wB ys)]):=by
 refine wC wL Tryz.func175 rfl rfl rfl rfl fun w0=>?_;have hb32:=bitLen_le32 _ (getD_lt ys hy (n-1));obtain⟨s,hs⟩:∃s,Lib.bitLen (ys.getD (n-1) 0)+s=32:=⟨32-Lib.bitLen (ys.getD (n-1) 0),by omega⟩
 obtain⟨hs32,hvn,hvok,hvnat,htop⟩:=long_start ys n s hn hyn hy h0 hs;obtain⟨hun,huok,hunat⟩:=wVJ xs s hs32 hx;have hut:=longU_top xs (qQ ys s 0) n s hs32 hx hn (by omega) hvn hvok htop;have hlz:=lz_v (ys.getD (n-1) 0) s (getD_lt ys hy _) hs;have hlb:=left_v ys s hy (by omega) hs32;have hla:=left_v xs s hx hl hs32;rw[hty]at hlb;rw[htx]at hla;have hla2:=wQ2 xs s 0;have hlU:(uL (qQ xs s 0++[0,0])).take (xs.length+1)=uL (wO1 xs s):=qBI _ _;have hV1:=kP ys (n-1) (by omega);have hT1:=kP (qQ ys s 0) (n-1) (by omega);have hT2:=kP (qQ ys s 0) (n-2) (by omega);have happ:=uL_app (qQ xs s 0) [0,0];have hvl:=qA (qQ ys s 0);have hul:=qA (qQ xs s 0);have hul2:=qA (qQ xs s 0++[0,0]);have hla3:(qQ xs s 0++[0,0]).length=(qQ xs s 0).length+2:=by simp
 have hsub:Ev.ewrap .i64 ((xs.length:Int)-(n:Int))=(m:Nat):=by rw[wTC (by omega) (by omega)];omega
 have hadd:Ev.ewrap .i64 ((xs.length:Int)+1)=((xs.length+1:Nat):Int):=by rw[wTC (by omega) (by omega)];omega
 have hadm:Ev.ewrap .i64 ((m:Int)+1)=((m+1:Nat):Int):=by rw[wTC (by omega) (by omega)];omega
 have hVpos:0<wB (qQ ys s 0):=by omega
 have hVB:wB (qQ ys s 0)<4294967296^n:=by rw[←hvn];exact qP _ hvok
 rw[show xs.length-n+1=m+1 by omega]at hut;have hdig:=fun(us:List Nat)(j t:Nat)(hu:okL us)=>long_digit us (qQ ys s 0) j n hn hvn hu hvok htop (t:=t);have htpl:=getD_lt _ hvok (n-1);have hnxl:=getD_lt _ hvok (n-2);have hvg:=fun i (h:i<n)=>kP (qQ ys s 0) i (by omega);have hvt:=qU (qQ ys s 0);have hvall:wB ((qQ ys s 0).take n)=wB (qQ ys s 0):=by rw[mW (by omega)]
 generalize hvs:qQ ys s 0=vs at *
 generalize hlx:qQ xs s 0=lx at *
 generalize hu0:wO1 xs s=u0 at *
 generalize htpe:vs.getD (n-1) 0=tp at *
 generalize hnxe:vs.getD (n-2) 0=nx at *
 generalize ys.getD (n-1) 0=yt at *
 repeat (first|refine wg rfl (sL (hvl.trans hvn)) ?_|refine wg rfl (sL ((qA ys).trans hyn)) ?_|refine wg rfl (sL (qA _)) ?_|refine wv ?_|refine wg rfl (jF rfl rfl rfl rfl hsub rfl) ?_|refine wg rfl (jF rfl rfl rfl rfl hadd rfl) ?_|refine wg rfl (jF rfl rfl rfl rfl hadm rfl) ?_|refine wg rfl (wA9 wL rfl rfl rfl (i:=n-1) (by omega) rfl rfl hV1 rfl rfl) ?_|refine wg rfl (wA9 wL rfl rfl rfl (i:=n-1) (by omega) rfl rfl hT1 rfl rfl) ?_|refine wg rfl (wA9 wL rfl rfl rfl (i:=n-2) (by omega) rfl rfl hT2 rfl rfl) ?_|refine wc hlz ?_|refine wc hlb.v ?_|refine wg rfl (sem_callO (id:=7002) wL rfl rfl rfl rfl rfl rfl hla rfl rfl) ?_|refine wf rfl rfl (xQ (id:=7003) (es2:=[[_],[_]]) (m:=1) (bb:=4) wL rfl rfl rfl rfl rfl rfl rfl rfl rfl rfl rfl (row2 _ _) rfl (by simp only[maxLen];simp;omega) (by simp;omega) rfl rfl happ) ?_|refine wg rfl (wU9 (id':=7004) wL rfl rfl rfl (h:=xs.length+1) rfl rfl rfl (by omega) hlU rfl rfl rfl) ?_|refine wg rfl (wAG (id:=7000) (l:=m+1) (c:=m+1) (m:=1) (bb:=4) wL rfl rfl rfl rfl rfl rfl rfl rfl rfl rfl (pC _) rfl (by omega) (by simp only[maxLen];omega) rfl rfl rfl (qC0 _)) ?_|refine wg rfl sB ?_|refine wg rfl (qJ wL rfl rfl rfl rfl (j6 (by omega) (by omega)) rfl) ?_|refine wz ?_)
 refine qC (fun b:Nat×Int×List Nat×List Nat=>[jI 12 s,jV 14 (vL vs),jO 16 0 66 1 (uL b.2.2.1),jI 18 n,jO 22 0 66 1 (uL b.2.2.2),jV 24 (.int .u64 (tp:Nat)),jV 26 (.int .u64 (nx:Nat)),jV 28 (.int .i64 b.2.1)])
  (fun b=>b.1≤m+1∧b.2.1=(b.1:Int)-1∧b.2.2.1.length=m+n+1∧okL b.2.2.1∧b.2.2.2.length=m+1∧okL b.2.2.2∧wB b.2.2.1+wB vs*(4294967296^b.1*wB (b.2.2.2.drop b.1))=wB u0∧wB (b.2.2.1.drop b.1)<wB vs)
  (fun b=>b.1) (m+1,(m:Nat),u0,List.replicate (m+1) 0) (fun _=>rfl) ⟨pC _,by simp only;omega,by simp only;omega,huok,by simp,fun x h=>by rw[(fL.1 h).2];decide,by simp[List.drop_of_length_le,wB],hut⟩ ⟨rfl,rfl,⟨_,rfl⟩,rfl,⟨_,rfl⟩,rfl,rfl,rfl,trivial⟩ fun⟨J,i,us,out⟩ hI=>?_
 obtain⟨h1,h2,h3,h4,h5,h6,h7,h8⟩:=hI;dsimp only at h1 h2 h3 h4 h5 h6 h7 h8 ⊢;have hlu:=qA us;have hlo:=qA out;rcases mI J with rfl|hJ
 ·rw[hvnat,hunat]at h7;rw[hvnat]at h8 hVB;obtain⟨g1,g2⟩:=long_end us out (wB xs) (wB ys) n s h4 hVB h7 h8;have hcut:=qBI us n;have hrt:=right_v (us.take n) s (fun x h=>h4 x (dE h)) (by simp;omega) hs32;repeat (first|refine wv ?_|refine wg rfl (wU9 (id':=7005) wL rfl rfl rfl (h:=n) rfl rfl rfl (by omega) hcut rfl rfl rfl) ?_|refine wh hrt ?_|refine wh (wR9 out h6 (by omega)) ?_|refine wg rfl cF ?_|refine wz ?_)
  refine⟨.inl rfl,_,rfl,?_⟩;rw[g1,g2]
 ·obtain⟨k,rfl⟩:∃k,J=k+1:=⟨J-1,by omega⟩
  obtain rfl:i=(k:Nat):=by omega
  obtain⟨hd1,hd2⟩:=hdig us k _ h4 h8 rfl;have ga:=kP us (k+n) (by omega);have gb:=kP us (k+(n-1)) (by omega);have gc:=kP us (k+(n-2)) (by omega);have la:=getD_lt us h4 (k+n);have lb:=getD_lt us h4 (k+(n-1));have lc:=getD_lt us h4 (k+(n-2));have hor:=wMH (us.getD (k+n) 0) (us.getD (k+(n-1)) 0) lb;generalize hua:us.getD (k+n) 0=ua at *
  generalize us.getD (k+(n-1)) 0=ub at *
  generalize us.getD (k+(n-2)) 0=uc at *
  have hhi:=hi_zero us (k+1) n _ h8 hVB;obtain⟨t,ht⟩:∃t,ua*4294967296+ub=t:=⟨_,rfl⟩
  rw[ht]at hd1 hd2 hor;have htle:=hd1.tle;have hst:=hd1.start;obtain⟨q0,hq0⟩:∃q,t/tp=q:=⟨_,rfl⟩
  obtain⟨r0,hr0⟩:∃r,t%tp=r:=⟨_,rfl⟩
  rw[hq0,hr0]at hst;obtain⟨W,hW⟩:∃W,wB (us.drop k)=W:=⟨_,rfl⟩
  rw[hW]at hd1 hd2 hst;repeat (first|refine wv ?_|refine wg rfl (zD wL rfl rfl rfl (i:=k+n) (by omega) rfl rfl (by omega) rfl rfl rfl) ?_|refine wg rfl (zD wL rfl rfl rfl (i:=k+(n-1)) (by omega) rfl rfl (by omega) rfl rfl rfl) ?_|refine wg rfl (kH wL rfl rfl rfl ga rfl rfl rfl) ?_|refine wg rfl (kH wL rfl rfl rfl gb rfl rfl rfl) ?_|refine wg rfl (xX (s:=32) rfl rfl rfl rfl (by decide) (by rw[ew64,mX (by omega)]) rfl) ?_|refine wg rfl (wMJ  rfl rfl rfl hor (by omega) (by omega) rfl) ?_|refine wg rfl (wDE rfl rfl rfl (by omega) (nQuo64 hq0 (by omega)) rfl) ?_|refine wg rfl (kQ rfl rfl rfl (by omega) (nRem hr0) rfl) ?_|refine wg rfl cT ?_|refine wg rfl sB ?_|refine wg rfl (qJ wL rfl rfl rfl rfl (j6 (by omega) (by omega)) rfl) ?_|refine wz ?_)
  refine wSC 2 (fun q:Nat=>[jI 12 s,jV 14 (vL vs),jO 16 0 66 1 (uL us),jI 18 n,jO 22 0 66 1 (uL out),jV 24 (.int .u64 (tp:Nat)),jV 26 (.int .u64 (nx:Nat)),jI 28 k,jV 32 (.int .u64 (q:Nat))]) (fun q=>q<4294967296∧W/wB vs≤q∧q≤W/wB vs+1) (fun _=>rfl) ?_ ?_
  ·refine qC (fun b:Nat×Nat=>[jI 12 s,jV 14 (vL vs),jO 16 0 66 1 (uL us),jI 18 n,jO 22 0 66 1 (uL out),jV 24 (.int .u64 (tp:Nat)),jV 26 (.int .u64 (nx:Nat)),jI 28 k,jV 32 (.int .u64 (b.1:Nat)),jV 34 (.int .u64 (b.2:Nat))]) (fun b=>Guess tp nx uc t (W/wB vs) b.1 b.2) (fun b=>b.1) (q0,r0) (fun _=>rfl) hst ⟨rfl,rfl,⟨_,rfl⟩,rfl,⟨_,rfl⟩,rfl,rfl,rfl,rfl,rfl,trivial⟩ fun⟨q,r⟩ hg=>?_;dsimp only at hg ⊢;have hqle:=hg.le;have hrB:=hg.rB;by_cases hq:4294967296≤q
   ·have hdn:=hg.down hd1 (.inl hq);by_cases hr:4294967296≤r+tp
    ·repeat (first|refine wv ?_|refine wg rfl (wDF rfl rfl (by omega) (by omega) rfl) ?_|refine wg rfl (yJ (r:=r+tp) rfl rfl rfl rfl (by omega) rfl) ?_|refine wg rfl cT ?_|refine wGE rfl rfl rfl rfl rfl rfl ?_|refine wz ?_)
     have h9:=hdn.2.2.2.2 hr;exact⟨q-1,⟨h9.1,hdn.1,hd2 _ h9.1 h9.2⟩,rfl,rfl,⟨_,rfl⟩,rfl,⟨_,rfl⟩,rfl,rfl,rfl,rfl,trivial⟩
    ·repeat (first|refine wv ?_|refine wg rfl (wDF rfl rfl (by omega) (by omega) rfl) ?_|refine wg rfl (yJ (r:=r+tp) rfl rfl rfl rfl (by omega) rfl) ?_|refine wg rfl cT ?_|refine wg rfl cF ?_|refine wGE rfl rfl rfl rfl rfl rfl ?_|refine wz ?_)
     exact⟨(q-1,r+tp),hdn.2.2.2.1 (by omega),by dsimp only;omega,rfl,rfl,⟨_,rfl⟩,rfl,⟨_,rfl⟩,rfl,rfl,rfl,rfl,rfl,trivial⟩
   ·have hmul:q*nx≤4294967295*4294967295:=bK (by omega) (by omega);have hor2:=wMH r uc lc;have hr32:r*2^32<18446744073709551616:=by omega
    have huc64:uc<18446744073709551616:=by omega
    have hsh:Ev.ewrap .u64 ((r*2^32:Nat):Int)=((r*2^32:Nat):Int):=by rw[ew64,mX hr32]
    have hend:=hg.end;have hdw:=hg.down hd1;obtain⟨pm,hpm⟩:∃p,q*nx=p:=⟨_,rfl⟩
    rw[hpm]at hmul hend hdw;by_cases hc:r*4294967296+uc<pm
    ·have hdn:=hdw (.inr hc);by_cases hr:4294967296≤r+tp
     ·repeat (first|refine wv ?_|refine wg rfl (zD wL rfl rfl rfl (i:=k+(n-2)) (by omega) rfl rfl (by omega) rfl rfl rfl) ?_|refine wg rfl (kH wL rfl rfl rfl gc rfl rfl rfl) ?_|refine wg rfl (wJ6  rfl rfl rfl hpm (by omega) rfl) ?_|refine wg rfl (xX (s:=32) rfl rfl rfl rfl (by decide) hsh rfl) ?_|refine wg rfl (wMJ rfl rfl rfl hor2 hr32 huc64 rfl) ?_|refine wg rfl (wDF rfl rfl (by omega) (by omega) rfl) ?_|refine wg rfl (yJ (r:=r+tp) rfl rfl rfl rfl (by omega) rfl) ?_|refine wg rfl cT ?_|refine wg rfl cF ?_|refine wg rfl sB ?_|refine wg rfl (qJ wL rfl rfl rfl rfl (j6 (by omega) (by omega)) rfl) ?_|refine wz ?_)
      have h9:=hdn.2.2.2.2 hr;exact⟨q-1,⟨h9.1,hdn.1,hd2 _ h9.1 h9.2⟩,rfl,rfl,⟨_,rfl⟩,rfl,⟨_,rfl⟩,rfl,rfl,rfl,rfl,trivial⟩
     ·repeat (first|refine wv ?_|refine wg rfl (zD wL rfl rfl rfl (i:=k+(n-2)) (by omega) rfl rfl (by omega) rfl rfl rfl) ?_|refine wg rfl (kH wL rfl rfl rfl gc rfl rfl rfl) ?_|refine wg rfl (wJ6  rfl rfl rfl hpm (by omega) rfl) ?_|refine wg rfl (xX (s:=32) rfl rfl rfl rfl (by decide) hsh rfl) ?_|refine wg rfl (wMJ rfl rfl rfl hor2 hr32 huc64 rfl) ?_|refine wg rfl (wDF rfl rfl (by omega) (by omega) rfl) ?_|refine wg rfl (yJ (r:=r+tp) rfl rfl rfl rfl (by omega) rfl) ?_|refine wg rfl cT ?_|refine wg rfl cF ?_|refine wg rfl sB ?_|refine wg rfl (qJ wL rfl rfl rfl rfl (j6 (by omega) (by omega)) rfl) ?_|refine wz ?_)
      exact⟨(q-1,r+tp),hdn.2.2.2.1 (by omega),by dsimp only;omega,rfl,rfl,⟨_,rfl⟩,rfl,⟨_,rfl⟩,rfl,rfl,rfl,rfl,rfl,trivial⟩
    ·have h9:=hend (by omega);repeat (first|refine wv ?_|refine wg rfl (zD wL rfl rfl rfl (i:=k+(n-2)) (by omega) rfl rfl (by omega) rfl rfl rfl) ?_|refine wg rfl (kH wL rfl rfl rfl gc rfl rfl rfl) ?_|refine wg rfl (wJ6  rfl rfl rfl hpm (by omega) rfl) ?_|refine wg rfl (xX (s:=32) rfl rfl rfl rfl (by decide) hsh rfl) ?_|refine wg rfl (wMJ rfl rfl rfl hor2 hr32 huc64 rfl) ?_|refine wg rfl cF ?_|refine wg rfl sB ?_|refine wg rfl (qJ wL rfl rfl rfl rfl (j6 (by omega) (by omega)) rfl) ?_|refine wz ?_)
     exact⟨q,⟨h9.1,hg.ge,hd2 _ h9.1 h9.2⟩,rfl,rfl,⟨_,rfl⟩,rfl,⟨_,rfl⟩,rfl,rfl,rfl,rfl,trivial⟩
  ·intro q hq;obtain⟨hq1,hq2,hq3⟩:=hq;have hgk:=kP out k (by omega);have hset0:=wKJ out k;repeat (first|refine wv ?_|refine wz ?_)
   refine qC (fun b:Nat×List Nat×Nat×Nat=>[jI 12 s,jV 14 (vL vs),jO 16 0 66 1 (uL b.2.1),jI 18 n,jO 22 0 66 1 (uL out),jV 24 (.int .u64 (tp:Nat)),jV 26 (.int .u64 (nx:Nat)),jI 28 k,jV 32 (.int .u64 (q:Nat)),jV 36 (.int .u64 (b.2.2.1:Nat)),jV 38 (.int .u64 (b.2.2.2:Nat)),jI 248 n,jI 250 (b.1)])
    (fun b=>b.1≤n∧b.2.1.length=m+n+1∧okL b.2.1∧b.2.1.take k=us.take k∧b.2.1.drop (k+b.1)=us.drop (k+b.1)∧b.2.2.1≤1∧b.2.2.2<4294967296∧wB ((b.2.1.drop k).take b.1)+q*wB (vs.take b.1)=wB ((us.drop k).take b.1)+4294967296^b.1*(b.2.2.2+b.2.2.1))
    (fun b=>n-b.1) (0,us,0,0) (fun _=>rfl) ⟨pG _,h3,h4,rfl,rfl,by dsimp only;decide,by dsimp only;decide,by simp[wB]⟩ ⟨rfl,rfl,⟨_,rfl⟩,rfl,⟨_,rfl⟩,rfl,rfl,rfl,rfl,rfl,rfl,rfl,rfl,trivial⟩ fun⟨i,ws,bo,ca⟩ hI=>?_
   obtain⟨i1,i2,i3,i4,i5,i6,i7,i8⟩:=hI;dsimp only at i1 i2 i3 i4 i5 i6 i7 i8 ⊢;have hwl:=qA ws;rcases pL i n with hi|hi
   ·have gv:=hvg i hi;have gw:=kP ws (k+i) (by omega);have lv:=getD_lt vs hvok i;have lw:=getD_lt ws i3 (k+i);have hset:=wKJ ws (k+i);have huw:us.getD (k+i) 0=ws.getD (k+i) 0:=by
     have:=congrArg (fun l=>l.getD 0 0) i5;simpa[getD_drop]using this.symm
    have hwin:=fun d=>wJ0 ws k i d (by omega);have hut2:=qU (us.drop k) i;rw[getD_drop,huw]at hut2;have hvt2:=hvt i;have hi5:us.drop (k+i+1)=ws.drop (k+i+1):=by have:=congrArg (fun l=>l.drop 1) i5;simpa[List.drop_drop]using this.symm
    generalize ws.getD (k+i) 0=u at *
    generalize vs.getD i 0=v at *
    have htk:=take_limb u q v ca bo lw hq1 lv i7 i6;have hqv:q*v≤4294967295*4294967295:=bK (by omega) (by omega);obtain⟨qv,hqve⟩:∃x,q*v=x:=⟨_,rfl⟩
    have hts:=take_sum (4294967296^i) _ _ _ q u v ca bo _ _ _ _ i8 (cQ (q*v+ca) 4294967296).symm htk.2.2.2;rw[hqve]at htk hts hqv;obtain⟨p,hp⟩:∃p,qv+ca=p:=⟨_,rfl⟩
    rw[hp]at htk hts;have hpl:p/2^32=p/4294967296:=rfl;have hd0:((u+18446744073709551616-p%4294967296)%18446744073709551616+18446744073709551616-bo)%18446744073709551616=(u+18446744073709551616-p%4294967296-bo)%18446744073709551616:=by omega
    obtain⟨d1,hd1e⟩:∃x,(u+18446744073709551616-p%4294967296)%18446744073709551616=x:=⟨_,rfl⟩
    rw[hd1e]at hd0;obtain⟨d,hde⟩:∃x,(u+18446744073709551616-p%4294967296-bo)%18446744073709551616=x:=⟨_,rfl⟩
    rw[hde]at hd0 htk hts;have hdl:d<18446744073709551616:=by omega
    have hd63:d/2^63=d/9223372036854775808:=rfl;repeat (first|refine wv ?_|refine wg rfl (sX i gv) ?_|refine wg rfl (zD wL rfl rfl rfl (i:=k+i) (by omega) rfl rfl (by omega) rfl rfl rfl) ?_|refine wg rfl (kH wL rfl rfl rfl gw rfl rfl rfl) ?_|refine wg rfl (wJ6  rfl rfl rfl hqve (by omega) rfl) ?_|refine wg rfl (yJ  rfl rfl rfl hp (by omega) rfl) ?_|refine wg rfl (y0 (s:=32) rfl rfl rfl rfl (by decide) hpl rfl) ?_|refine wg rfl (jF rfl rfl rfl rfl (nAnd32 (r:=p%4294967296) rfl (by omega)) rfl) ?_|refine wg rfl (wAF  rfl rfl rfl hd1e (by omega) rfl) ?_|refine wg rfl (wAF  rfl rfl rfl hd0 (by omega) rfl) ?_|refine wg rfl (qJ wL rfl rfl rfl rfl (ew32 d) rfl) ?_|refine wg rfl (zW wL rfl rfl rfl gw rfl rfl rfl rfl (by decide) rfl (hset _)) ?_|refine wg rfl (y0 (s:=63) rfl rfl rfl rfl (by decide) hd63 rfl) ?_|refine wg rfl cT ?_|refine wg rfl sB ?_|refine wg rfl (qJ wL rfl rfl rfl rfl (j6 (by omega) (by omega)) rfl) ?_|refine wz ?_)
    obtain⟨w1,w2,w3⟩:=hwin (d%4294967296);refine⟨(i+1,ws.set (k+i) (d%4294967296),d/9223372036854775808,p/4294967296),⟨hi,by simp[i2],vB ws _ _ i3 (by omega),by rw[w1,i4],?_,htk.2.2.1,htk.2.1,?_⟩,by dsimp only;omega,rfl,rfl,⟨_,rfl⟩,rfl,⟨_,rfl⟩,rfl,rfl,rfl,rfl,rfl,rfl,rfl,rfl,trivial⟩
    ·dsimp only;rw[←cA,w2,hi5]
    ·dsimp only;rw[w3,hut2,hvt2,mS];exact hts
   ·obtain rfl:i=n:=by omega
    rw[hvall]at i8;have gw:=kP ws (k+i) (by omega);have hset:=wKJ ws (k+i);have hwk:us.getD (k+i) 0=ws.getD (k+i) 0:=by have:=congrArg (fun l=>l.getD 0 0) i5;simpa[getD_drop]using this.symm
    rw[hua]at hwk;rw[←hwk]at gw;have hi5:ws.drop (k+i+1)=us.drop (k+i+1):=by have:=congrArg (fun l=>l.drop 1) i5;simpa[List.drop_drop]using this
    have hz:wB (ws.drop (k+i+1))=0:=by rw[hi5,show k+i+1=k+1+i by omega];exact hhi
    have hWs:W=wB ((us.drop k).take i)+4294967296^i*ua:=by rw[←hW,qO (us.drop k) i,mQ,wY us (k+i),hua,show k+i+1=k+1+i by omega,hhi];simp
    have hAlt:=kJ (ws.drop k) i fun x h=>i3 x (dL h);have hWm:=dP W hVpos;have hround:=fun ws' hA hB=>long_round us ws' out (wB vs) (wB u0) k (W/wB vs) (by omega) hA hB (by rw[hW]) h7;rw[hW]at hround;generalize hPn:4294967296^i=Pn at *
    by_cases hc:ca+bo≤ua
    ·obtain⟨f1,f2,f3⟩:=take_fits Pn _ _ _ W q ua ca bo hVpos (by omega) i8 hWs hq2 hc;have s1:(ua+18446744073709551616-ca)%18446744073709551616=ua-ca:=by omega
     have s2:(ua-ca+18446744073709551616-bo)%18446744073709551616=0:=by omega
     have s3:0/2^63=0:=by decide
     repeat (first|refine wv ?_|refine wg rfl (zD wL rfl rfl rfl (i:=k+i) (by omega) rfl rfl (by omega) rfl rfl rfl) ?_|refine wg rfl (zD wL rfl rfl rfl (i:=k) (by omega) rfl rfl (by omega) rfl rfl rfl) ?_|refine wg rfl (kH wL rfl rfl rfl gw rfl rfl rfl) ?_|refine wg rfl (wAF  rfl rfl rfl s1 (by omega) rfl) ?_|refine wg rfl (wAF  rfl rfl rfl s2 (by omega) rfl) ?_|refine wg rfl (qJ wL rfl rfl rfl rfl (ew32 0) rfl) ?_|refine wg rfl (zW wL rfl rfl rfl gw rfl rfl rfl rfl (by decide) rfl (hset _)) ?_|refine wg rfl (zW wL rfl rfl rfl hgk rfl rfl rfl rfl (by decide) rfl (hset0 _)) ?_|refine wg rfl (y0 (s:=63) rfl rfl rfl rfl (by decide) s3 rfl) ?_|refine wg rfl cF ?_|refine wg rfl sB ?_|refine wg rfl (qJ wL rfl rfl rfl rfl (j6 (by omega) (by omega)) rfl) ?_|refine wg rfl (qJ wL rfl rfl rfl rfl (wH7 (by omega) (by omega)) rfl) ?_|refine wz ?_)
     have hws':=(wJ0 ws k i 0 (by omega)).1.trans i4;have hwe:=win_end ws k i _ 0 rfl hz (by omega);rw[dN,mJ,f2]at hwe;have hr2:=hround _ hws' hwe;rw[←f1]at hr2;exact⟨(k,_,ws.set (k+i) 0,out.set k q),⟨by dsimp only;omega,rfl,by simp[i2],vB ws _ _ i3 (by decide),by simp[h5],vB out _ _ h6 hq1,hr2,by dsimp only;rw[hwe];exact hWm⟩,by dsimp only;omega,rfl,rfl,⟨_,rfl⟩,rfl,⟨_,rfl⟩,rfl,rfl,rfl,trivial⟩
    ·obtain⟨f1,f2,f3⟩:=take_lent Pn _ _ _ W q ua ca bo hVpos (by omega) hAlt i8 hWs hq3 (by omega);obtain⟨x1,s1⟩:∃x,(ua+18446744073709551616-ca)%18446744073709551616=x:=⟨_,rfl⟩
     have s2:(x1+18446744073709551616-bo)%18446744073709551616=18446744073709551615:=by omega
     have s3:18446744073709551615/2^63=1:=by decide
     have s4:Ev.ewrap .u32 ((18446744073709551615:Nat):Int)=((4294967295:Nat):Int):=by rw[ew32]
     have hset9:=hset 4294967295;obtain⟨z1,z2,_⟩:=wJ0 ws k i 4294967295 (by omega);have z3:(ws.set (k+i) 4294967295).length=m+i+1:=by simp[i2]
     have z4:okL (ws.set (k+i) 4294967295):=vB ws _ _ i3 (by decide);have z5:(ws.set (k+i) 4294967295).getD (k+i) 0=4294967295:=by simp[List.getD,show k+i<ws.length by omega]
     have z6:∀e,e<i→(ws.set (k+i) 4294967295).getD (k+e) 0=ws.getD (k+e) 0:=fun e he=>by simp only[List.getD];rw[fD (by omega)]
     rw[←z2]at hz;rw[i4]at z1;have hqs:1≤q:=by rw[f1];exact pE8 _ _
     have s5:Ev.ewrap .u32 (((4294967295:Nat):Int)+((1:Nat):Int))=((0:Nat):Int):=by rw[wTB];rfl
     generalize hzs:ws.set (k+i) 4294967295=zs at *
     repeat (first|refine wv ?_|refine wg rfl (wDF rfl rfl hqs (by omega) rfl) ?_|refine wg rfl (zD wL rfl rfl rfl (i:=k+i) (by omega) rfl rfl (by omega) rfl rfl rfl) ?_|refine wg rfl (kH wL rfl rfl rfl gw rfl rfl rfl) ?_|refine wg rfl (wAF  rfl rfl rfl s1 (by omega) rfl) ?_|refine wg rfl (wAF  rfl rfl rfl s2 (by omega) rfl) ?_|refine wg rfl (qJ wL rfl rfl rfl rfl s4 rfl) ?_|refine wg rfl (zW wL rfl rfl rfl gw rfl rfl rfl rfl (by decide) rfl hset9) ?_|refine wg rfl (y0 (s:=63) rfl rfl rfl rfl (by decide) s3 rfl) ?_|refine wg rfl cT ?_|refine wg rfl cF ?_|refine wg rfl sB ?_|refine wg rfl (qJ wL rfl rfl rfl rfl (j6 (by omega) (by omega)) rfl) ?_|refine wz ?_)
     refine qC (fun b:Nat×List Nat×Nat=>[jI 12 s,jV 14 (vL vs),jO 16 0 66 1 (uL b.2.1),jI 18 i,jO 22 0 66 1 (uL out),jV 24 (.int .u64 (tp:Nat)),jV 26 (.int .u64 (nx:Nat)),jI 28 k,jV 32 (.int .u64 (q-1:Nat)),jV 48 (.int .u64 (b.2.2:Nat)),jI 368 i,jI 370 (b.1)])
      (fun b=>b.1≤i∧b.2.1.length=m+i+1∧okL b.2.1∧b.2.1.take k=us.take k∧b.2.1.drop (k+b.1)=zs.drop (k+b.1)∧b.2.2≤1∧wB ((b.2.1.drop k).take b.1)+4294967296^b.1*b.2.2=wB ((ws.drop k).take b.1)+wB (vs.take b.1))
      (fun b=>i-b.1) (0,zs,0) (fun _=>rfl) ⟨pG _,z3,z4,z1,rfl,by dsimp only;decide,by simp[wB]⟩ ⟨rfl,rfl,⟨_,rfl⟩,rfl,⟨_,rfl⟩,rfl,rfl,rfl,rfl,rfl,rfl,rfl,trivial⟩ fun⟨e,rs,c⟩ hI=>?_
     obtain⟨e1,e2,e3,e4,e5,e6,e7⟩:=hI;dsimp only at e1 e2 e3 e4 e5 e6 e7 ⊢;have hrl:=qA rs;rcases pL e i with he|he
     ·have gv:=hvg e he;have gr:=kP rs (k+e) (by omega);have lv:=getD_lt vs hvok e;have lr:=getD_lt rs e3 (k+e);have hsetr:=wKJ rs (k+e);have hur:ws.getD (k+e) 0=rs.getD (k+e) 0:=by
       rw[←z6 e he];have:=congrArg (fun l=>l.getD 0 0) e5;simpa[getD_drop]using this.symm
      have hut3:=qU (ws.drop k) e;rw[getD_drop,hur]at hut3;have hvt3:=hvt e;have he5:zs.drop (k+e+1)=rs.drop (k+e+1):=by have:=congrArg (fun l=>l.drop 1) e5;simpa[List.drop_drop]using this.symm
      generalize rs.getD (k+e) 0=u at *
      generalize vs.getD e 0=v at *
      have hbs:=back_step (4294967296^e) _ _ _ c u v e7;obtain⟨sm,hsm⟩:∃x,u+v+c=x:=⟨_,rfl⟩
      rw[hsm]at hbs;have hs32:sm/2^32=sm/4294967296:=rfl;obtain⟨w1,w2,w3⟩:=wJ0 rs k e (sm%4294967296) (by omega);repeat (first|refine wv ?_|refine wg rfl (sX e gv) ?_|refine wg rfl (zD wL rfl rfl rfl (i:=k+e) (by omega) rfl rfl (by omega) rfl rfl rfl) ?_|refine wg rfl (kH wL rfl rfl rfl gr rfl rfl rfl) ?_|refine wg rfl (yJ  rfl rfl rfl hsm (by omega) rfl) ?_|refine wg rfl (yJ (a:=u) (b:=v) (r:=u+v) rfl rfl rfl rfl (by omega) rfl) ?_|refine wg rfl (qJ wL rfl rfl rfl rfl (ew32 sm) rfl) ?_|refine wg rfl (zW wL rfl rfl rfl gr rfl rfl rfl rfl (by decide) rfl (hsetr _)) ?_|refine wg rfl (y0 (s:=32) rfl rfl rfl rfl (by decide) hs32 rfl) ?_|refine wg rfl cT ?_|refine wg rfl sB ?_|refine wg rfl (qJ wL rfl rfl rfl rfl (j6 (by omega) (by omega)) rfl) ?_|refine wz ?_)
      refine⟨(e+1,rs.set (k+e) (sm%4294967296),sm/4294967296),⟨he,by simp[e2],vB rs _ _ e3 (by omega),by rw[w1,e4],?_,by dsimp only;omega,?_⟩,by dsimp only;omega,rfl,rfl,⟨_,rfl⟩,rfl,⟨_,rfl⟩,rfl,rfl,rfl,rfl,rfl,rfl,rfl,trivial⟩
      ·dsimp only;rw[←cA,w2,he5]
      ·dsimp only;rw[w3,hut3,hvt3,mS];exact hbs
     ·obtain rfl:e=i:=by omega
      rw[hvall,hPn]at e7;have hRlt:=kJ (rs.drop k) e fun x h=>e3 x (dL h);rw[hPn]at hRlt;obtain⟨rfl,hR⟩:=back_end Pn _ _ _ _ c e7 f3 hRlt (by omega);have gr:=kP rs (k+e) (by omega);have hur:rs.getD (k+e) 0=4294967295:=by rw[←z5];have:=congrArg (fun l=>l.getD 0 0) e5;simpa[getD_drop]using this
      rw[hur]at gr;have hz9:wB (rs.drop (k+e+1))=0:=by rw[←hz];have:=congrArg (fun l=>l.drop 1) e5;simp only[List.drop_drop]at this;rw[this]
      have hset8:=wKJ rs (k+e) 0;have hws':=(wJ0 rs k e 0 (by omega)).1.trans e4;have hwe:=win_end rs k e _ 0 hR hz9 (by omega);rw[dN,mJ]at hwe;have hr2:=hround _ hws' hwe;rw[show W/wB vs=q-1 by omega]at hr2;repeat (first|refine wv ?_|refine wg rfl (zD wL rfl rfl rfl (i:=k+e) (by omega) rfl rfl (by omega) rfl rfl rfl) ?_|refine wg rfl (zD wL rfl rfl rfl (i:=k) (by omega) rfl rfl (by omega) rfl rfl rfl) ?_|refine wg rfl (kH wL rfl rfl rfl gr rfl rfl rfl) ?_|refine wg rfl (jF rfl rfl rfl rfl s5 rfl) ?_|refine wg rfl (zW wL rfl rfl rfl gr rfl rfl rfl rfl (by decide) rfl hset8) ?_|refine wg rfl (zW wL rfl rfl rfl hgk rfl rfl rfl rfl (by decide) rfl (hset0 _)) ?_|refine wg rfl cF ?_|refine wg rfl sB ?_|refine wg rfl (qJ wL rfl rfl rfl rfl (wH7 (by omega) (by omega)) rfl) ?_|refine wz ?_)
      exact⟨(k,_,rs.set (k+e) 0,out.set k (q-1)),⟨by dsimp only;omega,rfl,by simp[e2],vB rs _ _ e3 (by decide),by simp[h5],vB out _ _ h6 (by omega),hr2,by dsimp only;rw[hwe];exact hWm⟩,by dsimp only;omega,rfl,rfl,⟨_,rfl⟩,rfl,⟨_,rfl⟩,rfl,rfl,rfl,trivial⟩
theorem wU1(n:Nat):qE (toL n)=toL n:=by rw[zG _ (qL n),wI]
theorem jS(n:Nat)(h:0<n):0<(toL n).length:=by
 rcases mI (toL n).length with h0|h0
 ·have:=(wJ3 n).1 (pN h0);omega
 ·exact h0
theorem toL_top(n:Nat)(h:0<n):0<(toL n).getD ((toL n).length-1) 0:=by
 have h1:=wU1 n;have h2:=jS n h;generalize toL n=xs at *
 rcases List.eq_nil_or_concat xs with rfl|⟨zs,x,rfl⟩
 ·simp at h2
 ·simp only[List.concat_eq_append]at *
  simp only[List.length_append,List.length_singleton,Nat.add_sub_cancel,List.getD];rcases mI x with rfl|h3
  ·rw[xI]at h1;have:=jH zs;rw[h1]at this;simp only[List.length_append,List.length_singleton]at this;omega
  ·simpa using h3
theorem div_v(xs ys:List Nat)(hx:okL xs)(hy:okL ys)(hl:xs.length≤8796093022208)(hl2:ys.length≤8796093022208)(hp:0<wB ys):wJ Tryz.prog 134 [vL xs,vL ys] (fun y=>y=.tup [vN (wB xs/wB ys),vN (wB xs%wB ys),.int .i64 0]):=by
 refine wC wL Tryz.func134 rfl rfl rfl rfl fun w0=>?_;have hta:=qC2 xs (by omega);have htb:=qC2 ys (by omega);have la:=jH xs;have lb:=jH ys;rw[zG xs hx]at hta la;rw[zG ys hy]at htb lb;generalize wB xs=A at *
 generalize wB ys=B at *
 have hpos:=jS B hp;have hcmp:=natCmp_v (toL A) (toL B) (qL A) (qL B) (by omega) (by omega);have hown:=wR9 (toL A) (qL A) (by omega);rw[wI]at hown;simp only[wI]at hcmp;by_cases hlt:A<B
 ·have hc:jD A B = -1:=by unfold jD;rw[if_pos hlt]
  rw[hc]at hcmp;repeat (first|refine wg rfl (sL (qA _)) ?_|refine wv ?_|refine wg rfl cT ?_|refine wg rfl cF ?_|refine wc hta ?_|refine wc htb ?_|refine wc hcmp ?_|refine wc hown ?_|refine wz ?_)
  refine⟨.inl rfl,_,rfl,?_⟩;rw[pE1 hlt,mX hlt];simp[vN,(wJ3 0).2 rfl,vL,uL]
 ·have hc:0≤jD A B:=by unfold jD;rw[if_neg hlt];split<;>decide
  generalize jD A B=cm at *
  by_cases h1:(toL B).length=1
  ·have hB:toL B=[B]:=by
    have h2:=wI B;obtain⟨b,hb⟩:=List.length_eq_one_iff.1 h1;rw[hb]at h2 ⊢;simp only[wB]at h2
    have:b=B:=by omega
    rw[this]
   have hB2:B<4294967296:=qL B B (by rw[hB];exact pP.2 rfl);have hg:=kP (toL B) 0 (by omega);have hgB:(toL B).getD 0 0=B:=by rw[hB];rfl
   rw[hgB]at hg;have hsh:=short_v (toL A) B (qL A) (by omega) hp hB2;rw[wI]at hsh;have hm:=dP A hp;obtain⟨r,hr⟩:∃r,A%B=r:=⟨_,rfl⟩
   rw[hr]at hsh hm;have hof:=natOf_v r (by omega);repeat (first|refine wg rfl (sL (qA _)) ?_|refine wv ?_|refine wg rfl cT ?_|refine wg rfl cF ?_|refine wg rfl (qJ wL rfl rfl rfl rfl (j6 (by omega) (by omega)) rfl) ?_|refine wc hta ?_|refine wc htb ?_|refine wc hcmp ?_|refine wg rfl (sX 0 hg) ?_|refine wc hsh ?_|refine wc hof ?_|refine wz ?_)
   refine⟨.inl rfl,_,rfl,?_⟩;rw[hr]
  ·have hle:=w8 (Nat.not_lt.1 hlt);have hlg:=long_vc (toL A) (toL B) (toL B).length ((toL A).length-(toL B).length) (qL A) (qL B) (by omega) (wU1 A) (wU1 B) (by omega) rfl (toL_top B hp) (by omega);simp only[wI]at hlg;repeat (first|refine wg rfl (sL (qA _)) ?_|refine wv ?_|refine wg rfl cF ?_|refine wc hta ?_|refine wc htb ?_|refine wc hcmp ?_|refine wc hlg ?_|refine wz ?_)
   exact⟨.inl rfl,_,rfl,rfl⟩
theorem gcd_v(xs ys:List Nat)(hx:okL xs)(hy:okL ys)(hl:xs.length≤8796093022208)(hl2:ys.length≤8796093022208):wJ Tryz.prog 132 [vL xs,vL ys] (fun y=>y=vN (Nat.gcd (wB xs) (wB ys))):=by
 refine wC wL Tryz.func132 rfl rfl rfl rfl fun w0=>?_;have ha:=wR9 xs hx (by omega);have hb:=wR9 ys hy (by omega);have la:=jH xs;have lb:=jH ys;rw[zG xs hx]at la;rw[zG ys hy]at lb;generalize wB xs=A at *
 generalize wB ys=B at *
 repeat (first|refine wv ?_|refine wc ha ?_|refine wc hb ?_|refine wz ?_)
 refine qC (fun b:Nat×Nat=>[jV 0 (vN b.1),jV 2 (vN b.2)])
  (fun b=>(toL b.1).length≤8796093022208∧(toL b.2).length≤8796093022208∧Nat.gcd b.1 b.2=Nat.gcd A B) (fun b=>b.2) (A,B) (fun _=>rfl) ⟨by dsimp only;omega,by dsimp only;omega,rfl⟩ ⟨rfl,rfl,trivial⟩ fun⟨a,b⟩ hI=>?_
 obtain⟨h1,h2,h3⟩:=hI;dsimp only at h1 h2 h3 ⊢;rcases mI b with rfl|hb0
 ·have hz:(toL 0).length=0:=by rw[(wJ3 0).2 rfl];rfl
  have hown:=wR9 (toL a) (qL a) (by omega);rw[wI]at hown;repeat (first|refine wg rfl (sL (qA _)) ?_|refine wv ?_|refine wg rfl cF ?_|refine wc hown ?_|refine wz ?_)
  refine⟨.inl rfl,_,rfl,?_⟩;rw[←h3,pD1]
 ·have hpos:=jS b hb0;have hd:=div_v (toL a) (toL b) (qL a) (qL b) h1 h2 (by rw[wI];exact hb0);simp only[wI]at hd;repeat (first|refine wg rfl (sL (qA _)) ?_|refine wv ?_|refine wg rfl cT ?_|refine wc hd ?_|refine wz ?_)
  have hm:=dP a hb0;have hmono:=w8 (dK hm);refine⟨(b,a%b),⟨h2,by dsimp only;omega,?_⟩,hm,rfl,rfl,trivial⟩;dsimp only;rw[←h3,fN b,←Nat.gcd_rec,fN]
abbrev ZZ:=Bool×List Nat
def vI(z:ZZ):V:=.agg [.bool z.1,vL z.2]
def intOf(z:ZZ):Int:=if z.1 then -(wB z.2:Int)else wB z.2
def zn(x:Int):ZZ:=(decide (x<0),toL x.natAbs)
def nI(x:Int):V:=vI (zn x)
def okZ(z:ZZ):Prop:=okL z.2∧z.2.length≤1099511627776
theorem wE(x:Int):intOf (zn x)=x:=by
 unfold intOf zn;rw[wI];by_cases h:x<0
 ·simp[h];omega
 ·simp[h];omega
def sgn(x:Int):Int:=if x<0 then -1 else if 0<x then 1 else 0
theorem zT(z:ZZ):(intOf z).natAbs=wB z.2:=by unfold intOf;split<;>omega
theorem nI_of(b:Bool)(m:Nat):V.agg [.bool (if b=true then decide ((0:Int)<((toL m).length:Nat))else false),vN m]=nI (if b then -(m:Int)else m):=by
 unfold nI vI zn vN;have h:=wJ3 m;have hm:(if b then -(m:Int)else(m:Int)).natAbs=m:=by split<;>omega
 rw[hm];congr 2;cases b with
 |false=>simp
 |true=>
  simp only[if_true];congr 1;rcases mI m with rfl|hp
  ·simp[h.2 rfl]
  ·have:=jS m hp;simp;omega
theorem lenN_zero:x7 0=0:=rfl
theorem lenN_pos(n:Nat)(h:0<n):0<x7 n:=by unfold x7;rw[if_neg (by omega)];obtain⟨L,h1,h2,_⟩:=qA9 _ (toL_top n h) (getD_lt _ (qL n) _);omega
theorem wCD(b:Bool)(m:Nat):wJ Tryz.prog 90 [.bool b,vN m] (fun y=>y=nI (if b then -(m:Int)else m)):=by
 rw[←nI_of];refine wC wL Tryz.func90 rfl rfl rfl rfl fun w0=>?_;cases b with
 | true=>
  rcases mI (toL m).length with h0|h0
  ·repeat (first|refine wg rfl (sL (qA _)) ?_|refine wv ?_|refine wg rfl cF ?_|refine wz ?_)
   refine⟨.inl rfl,_,rfl,?_⟩;show V.agg [.bool false,vN m]=_;simp[h0]
  ·repeat (first|refine wg rfl (sL (qA _)) ?_|refine wv ?_|refine wg rfl cT ?_|refine wz ?_)
   refine⟨.inl rfl,_,rfl,?_⟩;show V.agg [.bool true,vN m]=_;rw[if_pos rfl,decide_eq_true (by omega)]
 |false=>
  repeat (first|refine wv ?_|refine wGE rfl rfl rfl rfl rfl rfl ?_|refine wz ?_)
  exact⟨.inl rfl,_,rfl,rfl⟩
theorem zabs_v(z:ZZ)(h:okZ z):wJ Tryz.prog 61 [vI z] (fun y=>y=nI (wB z.2)):=by
 refine wC wL Tryz.func61 rfl rfl rfl rfl fun w0=>?_;obtain⟨b,l⟩:=z;obtain⟨h1,h2⟩:=h;dsimp only at h1 h2;have q1:=qA6 l h1 (by omega);have q2:=wCD false (wB l);repeat (first|refine wv ?_|refine wc q1 ?_|refine wc q2 ?_|refine wz ?_)
 exact⟨.inl rfl,_,rfl,rfl⟩
theorem wII(z:ZZ)(h:okZ z):wJ Tryz.prog 47 [vI z] (fun y=>y=.int .i64 (sgn (intOf z))):=by
 refine wC wL Tryz.func47 rfl rfl rfl rfl fun w0=>?_;obtain⟨b,l⟩:=z;obtain⟨h1,h2⟩:=h;dsimp only at h1 h2;have q1:=wVD l h1 (by omega);rcases mI (wB l)with h0|h0
 ·have e:sgn (intOf (b,l))=0:=by unfold sgn intOf;rw[h0];cases b<;>rfl
  rw[h0,lenN_zero]at q1;rw[e];repeat (first|refine wv ?_|refine wg rfl cT ?_|refine wc q1 ?_|refine wz ?_)
  exact⟨.inl rfl,_,rfl,rfl⟩
 ·have hp:=lenN_pos _ h0;cases b with
  |true=>
   have e:sgn (intOf (true,l)) = -1:=by unfold sgn intOf;rw[if_pos rfl,if_pos (by dsimp only;omega)]
   rw[e];repeat (first|refine wv ?_|refine wg rfl cF ?_|refine wc q1 ?_|refine wz ?_)
   exact⟨.inl rfl,_,rfl,rfl⟩
  |false=>
   have e:sgn (intOf (false,l))=1:=by unfold sgn intOf;simp;omega
   rw[e];repeat (first|refine wv ?_|refine wg rfl cF ?_|refine wc q1 ?_|refine wz ?_)
   exact⟨.inl rfl,_,rfl,rfl⟩
theorem zneg_v(z:ZZ)(h:okZ z):wJ Tryz.prog 49 [vI z] (fun y=>y=nI (-intOf z)):=by
 refine wC wL Tryz.func49 rfl rfl rfl rfl fun w0=>?_;have q0:=wII z h;obtain⟨b,l⟩:=z;obtain⟨h1,h2⟩:=h;dsimp only at h1 h2;have habs:(intOf (b,l)).natAbs=wB l:=zT (b,l);have q1:=qA6 l h1 (by omega);generalize hx:intOf (b,l)=x at *
 generalize wB l=n at *
 by_cases hp:0<x
 ·have e:sgn x=1:=by unfold sgn;rw[if_neg (by omega),if_pos hp]
  have q2:=wCD true n;rw[e]at q0;repeat (first|refine wv ?_|refine wg rfl cT ?_|refine wc q0 ?_|refine wc q1 ?_|refine wc q2 ?_|refine wz ?_)
  refine⟨.inl rfl,_,rfl,?_⟩;have e2:-(n:Int) = -x:=by omega
  show nI (-(n:Int))=nI (-x);rw[e2]
 ·have e:sgn x≤0:=by unfold sgn;split<;>omega
  have q2:=wCD false n;generalize sgn x=sx at *
  repeat (first|refine wv ?_|refine wg rfl cF ?_|refine wc q0 ?_|refine wc q1 ?_|refine wc q2 ?_|refine wz ?_)
  refine⟨.inl rfl,_,rfl,?_⟩;have e2:(n:Int) = -x:=by omega
  show nI (n:Int)=nI (-x);rw[e2]
def joinI(a b:ZZ):Int:=if wB a.2<wB b.2 then(if b.1 then -((wB b.2-wB a.2:Nat):Int)else((wB b.2-wB a.2:Nat):Int))else(if a.1 then -((wB a.2-wB b.2:Nat):Int)else((wB a.2-wB b.2:Nat):Int))
theorem joinI_add(a b:ZZ)(h:a.1≠b.1):joinI a b=intOf a+intOf b:=by obtain⟨x,l⟩:=a;obtain⟨y,m⟩:=b;unfold joinI intOf;dsimp only at h ⊢;cases x<;>cases y<;>simp at h ⊢<;>split<;>omega
theorem qAB(x y:Bool)(l m:List Nat):intOf (x,l)*intOf (y,m)=if x != y then -((wB l*wB m:Nat):Int)else((wB l*wB m:Nat):Int):=by unfold intOf;cases x<;>cases y<;>simp[Int.neg_mul,Int.mul_neg]
theorem zmul_v(a b:ZZ)(ha:okZ a)(hb:okZ b):wJ Tryz.prog 59 [vI a,vI b] (fun y=>y=nI (intOf a*intOf b)):=by
 refine wC wL Tryz.func59 rfl rfl rfl rfl fun w0=>?_;obtain⟨x,l⟩:=a;obtain⟨y,m⟩:=b;obtain⟨h1,h2⟩:=ha;obtain⟨h3,h4⟩:=hb;dsimp only at h1 h2 h3 h4;have q1:=natMul_v l m h1 h3 (by omega) (by omega);have q2:=wCD (x != y) (wB l*wB m);rw[qAB];cases x<;>cases y;all_goals
  repeat (first|refine wv ?_|refine wg rfl (vS wL rfl rfl rfl rfl (.inr ⟨rfl,rfl⟩) rfl) ?_|refine wc q1 ?_|refine wc q2 ?_|refine wz ?_)
  exact⟨.inl rfl,_,rfl,rfl⟩
theorem wFA(x:Int)(h:(toL x.natAbs).length≤1099511627776):okZ (zn x):=⟨qL _,h⟩
theorem wQ1(z:ZZ)(h:okZ z):(toL (intOf z).natAbs).length≤z.2.length:=by rw[zT];exact vO z.2 h.1
theorem wDI(z:ZZ)(h:okZ z):okZ (zn (intOf z)):=wFA _ (pD (wQ1 z h) h.2)
theorem wT1(z:ZZ)(h:okZ z):okZ (zn (-intOf z)):=wFA _ (by rw[Int.natAbs_neg];exact pD (wQ1 z h) h.2)
theorem qCB(x:Int):(x<0∧sgn x = -1)∨(x=0∧sgn x=0)∨(0<x∧sgn x=1):=by
 unfold sgn
 repeat' split
 all_goals omega
theorem wW4(x y:Bool)(l m:List Nat):(intOf (x,l)).tdiv (intOf (y,m))=if x != y then -((wB l/wB m:Nat):Int)else((wB l/wB m:Nat):Int):=by have h:∀a b:Nat,(a:Int).tdiv (b:Int)=((a/b:Nat):Int):=fun a b=>rfl;unfold intOf;cases x<;>cases y<;>simp[Int.neg_tdiv,Int.tdiv_neg,h]
theorem intOf_tmod(x y:Bool)(l m:List Nat):(intOf (x,l)).tmod (intOf (y,m))=if x then -((wB l%wB m:Nat):Int)else((wB l%wB m:Nat):Int):=by have h:∀a b:Nat,(a:Int).tmod (b:Int)=((a%b:Nat):Int):=fun a b=>rfl;unfold intOf;cases x<;>cases y<;>simp[Int.neg_tmod,Int.tmod_neg,h]
theorem ztrunc_v(a b:ZZ)(ha:okZ a)(hb:okZ b)(h0:intOf b≠0):wJ Tryz.prog 92 [vI a,vI b] (fun y=>y=.tup [nI ((intOf a).tdiv (intOf b)),nI ((intOf a).tmod (intOf b)),.int .i64 0]):=by
 refine wC wL Tryz.func92 rfl rfl rfl rfl fun w0=>?_;have e2:=zT b;obtain⟨x,l⟩:=a;obtain⟨y,m⟩:=b;obtain⟨h1,h2⟩:=ha;obtain⟨h3,h4⟩:=hb;dsimp only at h1 h2 h3 h4 e2;have q1:=div_v l m h1 h3 (by omega) (by omega) (by omega);have q2:=wCD (x != y) (wB l/wB m);have q3:=wCD x (wB l%wB m);rw[wW4,intOf_tmod];cases x<;>cases y;all_goals
  repeat (first|refine wv ?_|refine wg rfl nF ?_|refine wg rfl (vS wL rfl rfl rfl rfl (.inr ⟨rfl,rfl⟩) rfl) ?_|refine wc q1 ?_|refine wc q2 ?_|refine wc q3 ?_|refine wz ?_)
  exact⟨.inl rfl,_,rfl,rfl⟩
theorem yW(a b:ZZ)(ha:okZ a)(hb:okZ b)(h0:intOf b≠0)(hd:intOf b∣intOf a):wJ Tryz.prog 50 [vI a,vI b] (fun y=>y=.tup [nI ((intOf a).tdiv (intOf b)),.int .i64 0]):=by
 refine wC wL Tryz.func50 rfl rfl rfl rfl fun w0=>?_;have q1:=ztrunc_v a b ha hb h0;have q2:=wII (zn 0) (wFA 0 (by simp[wT]));rw[Int.tmod_eq_zero_of_dvd hd]at q1;rw[wE]at q2;obtain⟨x,l⟩:=a;obtain⟨y,m⟩:=b;repeat (first|refine wv ?_|refine wg rfl cT ?_|refine wg rfl (vP rfl rfl rfl rfl (rfl) rfl) ?_|refine wc q1 ?_|refine wc q2 ?_|refine wz ?_)
 exact⟨.inl rfl,_,rfl,rfl⟩
theorem zgcd1_v(a b:ZZ)(ha:okZ a)(hb:okZ b):wJ Tryz.prog 89 [vI a,vI b] (fun y=>y=nI (Int.gcd (intOf a) (intOf b))):=by
 refine wC wL Tryz.func89 rfl rfl rfl rfl fun w0=>?_;have e1:=zT a;have e2:=zT b;obtain⟨x,l⟩:=a;obtain⟨y,m⟩:=b;obtain⟨h1,h2⟩:=ha;obtain⟨h3,h4⟩:=hb;dsimp only at h1 h2 h3 h4 e1 e2;have q1:=gcd_v l m h1 h3 (by omega) (by omega);have q2:=wCD false (Nat.gcd (wB l) (wB m));have e3:Int.gcd (intOf (x,l)) (intOf (y,m))=Nat.gcd (wB l) (wB m):=by unfold Int.gcd;rw[e1,e2]
 rw[e3];repeat (first|refine wv ?_|refine wc q1 ?_|refine wc q2 ?_|refine wz ?_)
 exact⟨.inl rfl,_,rfl,rfl⟩
end Go.Proofs.YtmkgenngokjbiaaGreatDoor
