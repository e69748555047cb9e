/- session.nought: a row's text with a 0 for one of its words. -/
import Derived.Test.YtmkgenngokjbiaaGreatDoorCd12
import Derived.IntWalk
set_option linter.all false
set_option maxRecDepth 20000
set_option maxHeartbeats 6400000
namespace Go.Proofs.YtmkgenngokjbiaaGreatDoor
open Go.RowKit Go.Shelf
attribute [local go_sem] Oper.semAt_some
theorem words_in(s:ByteArray)(w:World) :
  Calls Tryz.prog 46 #[.string s] w fun e w'=>e=.returned (.func (.func 87) #[] #[.pointer (some ⟨w.heap.size,0,none⟩)])∧w'=w.alloc (.cells #[.string s] 9):=by
 go_enter Tryz.func46,Tryz.ntmps46
 go_wp2
 go_ret
 exact⟨rfl,rfl⟩
theorem wds_len(s:ByteArray):∀(L:List (Nat×Nat))(fr:Option Nat),(wds s fr L).length≤L.length+(if fr=none then 0 else 1):=by
 intro L
 induction L with
 |nil=>intro fr;cases fr<;>simp[wds,kS]
 |cons p L ih=>
  intro fr;obtain⟨i,r⟩:=p;rw[wds];split
  ·have:=ih none;cases fr<;>simp[kS]at this ⊢<;>omega
  ·have:=ih (some (fr.getD i));simp at this ⊢;omega
theorem qFC(s:ByteArray):(zU s).length≤s.size:=by have h1:=wds_len s (qN s 0) none;have h2:=wN7 s 0;simp at h1;unfold zU;omega
def mark(D:Nat):Deferred:={ target:=.collected D,args:=#[] }
theorem qDJ{F:Fence}{n:Nat}{P:Program}{fn:Func}{tmps:Array Value}{R:Ending→World→Prop}:∀(Ds:List Nat)(W:World)(lo:Nat),lo≤W.heap.size→Ds.Nodup→
  (∀D,D∈Ds→lo≤D∧W.heap[D]? = some (.deferred (some [])))→(∀W',Below lo W W'→∃v,(results fn tmps).run P W'=.ok v W'∧R (.returned v) W')→LeavesInM F n P fn tmps R (Ds.map mark) .returning W:=by
 intro Ds
 induction Ds with
 |nil=>intro W lo _ _ _ h;exact h W (Below.refl _ _)
 |cons D Ds ih=>intro W lo hlo hnd hD h;obtain⟨h1,h2⟩:=hD D (pQ ..);obtain⟨h3,h4⟩:=pB6.1 hnd;have hb:Below lo W (W.putObj D (.deferred none)):=(Below.refl lo W).grown (grownBy_putObj' W D _) hlo (fun k e=>by cases e;exact h1);refine⟨by simp,.inl ⟨D,_,rfl,run_takeDeferred h2,?_⟩⟩;refine ih _ lo (pD hlo hb.size) h4 (fun D' hD'=>?_) (fun W' hW'=>h W' (hb.trans hW'));obtain⟨h5,h6⟩:=hD D' (pO _ hD');exact⟨h5,((grownBy_putObj' W D (.deferred none)).block D' (pU.1 h6).1 (fun e=>h3 (by cases e;exact hD'))).trans h6⟩
theorem qC3{w:World}(h:Lib.Utf8Tabs 1 2 w):TabLo w.heap.size:=
 ⟨World.block_lt_of_cell? w ⟨1,0,none⟩ (h.1 0 (by decide)),World.block_lt_of_cell? w ⟨2,2*0,none⟩ (h.2 0 (by decide)).1⟩
def wS8(Q:Exit→Act→World→Prop):Exit→Act→World→Prop
 |.panic _,_,_=>False
 |e,a,w=>Q e a w
theorem wS8.normal{Q:Exit→Act→World→Prop}{a:Act}{w:World}(h:Q .normal a w):wS8 Q .normal a w:=h
theorem wS8.imp{Q:Exit→Act→World→Prop}:∀(e:Exit)(a:Act)(w:World),wS8 Q e a w→Q e a w:=fun e a w h=>by cases e<;>first|exact h|exact(h:False).elim
theorem qBE{F:Fence}{n:Nat}{P:Program}{ops:Array Oper}{Q:Exit→Act→World→Prop}{i:Nat}{K:Act→World→Prop}{a:Act}{w:World}(l:Nat)(hro:F.round=none)(hnd:∀(i:Nat)(o:Oper),ops[i]? = some o→∀c,o.op≠.defer c)(h:wpOpIn F n P ops Q i K a w):wpOpIn (F.inRound l) n P ops Q i K a w:=by
 unfold wpOpIn at h ⊢;split
 ·rename_i ho;simp only[ho]at h;exact h
 ·rename_i o ho;simp only[ho]at h;split
  ·rename_i hw;simp only[hw,if_true]at h;unfold Oper.wpIn at h ⊢;rw[hro,Oper.semAt_none]at h;rw[Fence.inRound_round,Oper.semAt_some l _ _ (hnd i o ho)];exact h
  ·rename_i hw;simp only[hw]at h;exact h
theorem wK1{F:Fence}{n:Nat}{P:Program}{md:Region.Mode}{ops:Array Oper}{Q:Exit→Act→World→Prop}(l:Nat)(hro:F.round=none)(hnd:∀(i:Nat)(o:Oper),ops[i]? = some o→∀c,o.op≠.defer c) :
  ∀(fuel:Nat)(listed:Array Bool)(a:Act)(w:World),wpAnyIn F n P md ops Q fuel listed a w→wpAnyIn (F.inRound l) n P md ops Q fuel listed a w
 |0,_,_,_,h=>h
 |fuel+1,listed,a,w,h=>⟨h.1,fun i hi=>qBE l hro hnd (wpOpIn_mono (fun a' w' h'=>wK1 l hro hnd fuel _ a' w' h') (h.2 i hi))⟩
abbrev WdIn(s:ByteArray):={ x:Nat×ByteArray // x.1+x.2.size≤s.size }
def encX(s:ByteArray)(x:WdIn s):Array Value:=encB2 x.1
theorem qBF(n:Nat)(hn:1≤n)(Bs n0:Nat)(s:ByteArray)(hs:s.size≤400000000)(w:World)(hBs:Bs<w.heap.size)(hn2:TabLo n0)(hn0:n0≤w.heap.size)(hc:w.cell? ⟨Bs,0,none⟩=some (.string s))(hT:Lib.Utf8Tabs 1 2 w) :
  SeqStopsK Fence.wide n Tryz.prog 87 #[.pointer (some ⟨Bs,0,none⟩)] (encX s) (KpB n0 Bs) (fun ys=>ys.map (·.1)=zU s) (fun pre=>pre.map (·.1) <+: zU s) (zU s).length w:=fun l J Jx W hW hJ _ hY h0=>by
 have hc':=(hW.cell (p:=⟨Bs,0,none⟩) (by show Bs<w.heap.size;omega)).trans hc;refine(words1_inB n hn l Bs n0 s hs hn2 (fun pre W=>∃p:List (WdIn s),p.map (·.1)=pre∧J p W) (fun pre W=>∃p:List (WdIn s),p.map (·.1)=pre∧Jx p W) W (pT hBs hW.size) (pD hn0 hW.size) ?_ ?_ hc' (Tabs.below hT hW ⟨pT hn2.1 hn0,pT hn2.2 hn0⟩) ⟨[],rfl,h0⟩).mono ?_
 ·rintro pre W1 W2 row ⟨p,e,hp⟩ hg hr;exact⟨p,e,hJ p W1 W2 row hp hg hr⟩
 ·rintro pre x W1 ⟨p,rfl,hp⟩ hlen hpx;obtain⟨fn,tmps,assign,body,hy,hR⟩:=hY p ⟨x,(words_at s _ x hpx).2⟩ W1 hp (by simpa using hlen);refine⟨fn,tmps,assign,body,hy,hR.mono ?_⟩;rintro e W' (⟨h1,h2,h3⟩|⟨h1,h2⟩)
  ·exact .inl ⟨h1,⟨_,by simp,h2⟩,h3⟩
  ·exact .inr ⟨h1,⟨_,by simp,h2⟩⟩
 ·rintro e W' ⟨hv,⟨ys,rfl,p,e1,hp⟩|⟨pre,hpre,p,rfl,hp⟩⟩
  ·exact⟨hv,.inl ⟨p,e1,hp⟩⟩
  ·exact⟨hv,.inr ⟨p,hpre,hp⟩⟩
set_option maxRecDepth 100000 in
theorem nought_any(s:ByteArray)(n k:Nat)(hk:k=n+1)(w:World)(hs:s.size≤400000000)(hn:n<(zU s).length)(hT:Lib.Utf8Tabs 1 2 w) :
  Calls Tryz.prog 22 #[.string s,.int .i64 (k:Nat)] w fun e w'=>Below w.heap.size w w'∧∀x,(zU s)[n]? = some x→e=.returned (.string (kC s x)):=by
 have h2:=qC3 hT;have hwl:=qFC s;have Q2:=hid fun w=>words_in s w;have HT:=hid hT;have HK:=hid hk;clear hT hk;refine(callsIn_wide (n:=3)).1 ?_;refine callsIn_of_wp_marks Tryz.func22 rfl trivial ?_ rfl;simp only[Tryz.ntmps22,List.size_toArray,List.length_cons,List.length_nil,Nat.reduceAdd,Nat.reduceSub,Array.replicate_succ,Array.replicate_zero,List.push_toArray,List.append_toArray,List.nil_append,List.cons_append]
 gi_wp2_with (refine⟨trivial,?_⟩;gi_at_call 46;refine(callsIn_wide.2 (Q2.out _)).mono ?_;clear Q2;rintro e w2 ⟨rfl,rfl⟩)
 obtain⟨Wb,hWb⟩:∃Wb,(((w.alloc (.cells #[.string s] 9)).alloc (.cells #[.int .i64 (k:Nat)] 3)).alloc (.cells #[.string ⟨#[]⟩] 9)).alloc (.cells #[.string s] 9)=Wb:=⟨_,rfl⟩
 have hN:Wb.heap.size=w.heap.size+4:=by rw[←hWb];simp
 have gl:Boxed Wb w.heap.size 9 (.string s):=by rw[←hWb];exact Boxed.alloc (Boxed.alloc (Boxed.alloc (Boxed.new w _ _) _) _) _
 have gn:Boxed Wb (w.heap.size+1) 3 (.int .i64 (k:Nat)):=by have:=Boxed.new (w.alloc (.cells #[.string s] 9)) 3 (.int .i64 (k:Nat));rw[World.size_alloc]at this;rw[←hWb];exact Boxed.alloc (Boxed.alloc this _) _
 have gr:Boxed Wb (w.heap.size+1+1) 9 (.string ⟨#[]⟩):=by have:=Boxed.new ((w.alloc (.cells #[.string s] 9)).alloc (.cells #[.int .i64 (k:Nat)] 3)) 9 (.string ⟨#[]⟩);rw[World.size_alloc,World.size_alloc]at this;rw[←hWb];exact Boxed.alloc this _
 have gb:Boxed Wb (w.heap.size+1+1+1) 9 (.string s):=by have:=Boxed.new (((w.alloc (.cells #[.string s] 9)).alloc (.cells #[.int .i64 (k:Nat)] 3)).alloc (.cells #[.string ⟨#[]⟩] 9)) 9 (.string s);rw[World.size_alloc,World.size_alloc,World.size_alloc]at this;rw[←hWb];exact this
 have hbl:Below w.heap.size w Wb:=by rw[←hWb];exact((((Below.refl _ _).alloc (pC _) _).alloc (by simp) _).alloc (by simp;omega) _).alloc (by simp;omega) _
 have gT:Lib.Utf8Tabs 1 2 Wb:=Tabs.below HT.out hbl h2;have hcb:=gb.cell
 gi_wp2
 rw[hWb];clear hWb;revert gl gn gr gb hcb;generalize hb3:w.heap.size+1+1+1=b3;generalize hb2:w.heap.size+1+1=b2;generalize hb1:w.heap.size+1=b1;generalize hb0:w.heap.size=b0 at *
 intro gl gn gr gb hcb;refine wpIn_rangeFunc_ownF rfl (by omega) (gf:=87) (lb:=#[.pointer (some ⟨b3,0,none⟩)]) rfl trivial (enters_of Tryz.func87 (by kernel_rfl) rfl)
  (qBF 2 (by omega) b3 b0 s hs Wb (by omega) h2 (by omega) hcb gT) KpB.trans (kpB_b (by omega) (by omega)) (Below.refl _ _) (fun _=>rfl)
  (fun pre W=>(Boxed W b0 9 (.string s)∧Boxed W b1 3 (.int .i64 ((k:Int)-(pre.length:Nat))))∧(Boxed W b2 9 (.string ⟨#[]⟩)∧(Below b0 w W∧pre.length≤n)))
  (fun c pre W=>(Boxed W b2 9 (.string (match pre.getLast? with|none=>⟨#[]⟩|some x=>kC s x.1))∧Below b0 w W)∧(c=.ret∧pre.length=n+1))
  (OwnFrom.and (OwnFrom.and (Own.from (boxed_own _ _ _) _) (Own.from (boxed_own _ _ _) _)) (OwnFrom.and (Own.from (boxed_own _ _ _) _) (OwnFrom.and (ownFrom_below (by omega) (by omega)) (ownFrom_pure _ _))))
  (fun c=>OwnFrom.and (OwnFrom.and (Own.from (boxed_own _ _ _) _) (ownFrom_below (by omega) (by omega))) (ownFrom_pure _ _))
  ⟨⟨gl,by simpa using gn⟩,gr,hbl,pG _⟩ (fun x=>{ tmps:=#[Value.string s,.int .i64 (k:Nat),.pointer (some ⟨b0,0,none⟩),.pointer (some ⟨b1,0,none⟩),.pointer (some ⟨b2,0,none⟩),.int .i64 (x.1.1:Nat),.string x.1.2,.string s,Value.func (Fn.func 87) #[] #[Value.pointer (some ⟨b3,0,none⟩)],
   .int .i64 (x.1.1:Nat),.string x.1.2,undef,undef,undef,undef,undef,undef,undef,undef,undef,undef,undef,undef,undef,undef,undef],defers:=[] }) ?assign ?body ?done ?stop
 case assign=>
  intro l x W K hK;dsimp only[encX,encB2]
  gi_wp2
  exact hK
 case body=>
  as_aux_lemma=>
  rintro l pre ⟨x,hx⟩ W ⟨⟨hl,hn1⟩,hr,hBW,hle⟩ hlen;dsimp only at hx ⊢;have hk:=HK.out;have dl:=hl.cell;have dn:=hn1.cell;have dnf:=hn1.frozen;have dr:=hr.cell;have drf:=hr.frozen;have hs0:=hl.lt;have hs1:=hn1.lt;have hs2:=hr.lt;have hw:IntKind.i64.wrap (((k:Int)-(pre.length:Nat))-1)=(k:Int)-(pre.length:Nat)-1:=IntWalk.i64_in _ (by omega);have e:(((pre++[(⟨x,hx⟩:WdIn s)]).length:Nat):Int)=(pre.length:Int)+1:=by simp
  have n1:b1≠b0:=by omega
  have n2:b2≠b0:=by omega
  have n3:b2≠b1:=by omega
  have hset:Boxed (W.setCell ⟨b1,0,none⟩ (.int .i64 ((k:Int)-(pre.length:Nat)-1))) b1 3 (.int .i64 ((k:Int)-(pre.length:Nat)-1)):=hn1.set _;have hset0:Boxed (W.setCell ⟨b1,0,none⟩ (.int .i64 ((k:Int)-(pre.length:Nat)-1))) b0 9 (.string s):=(Below.heap_setCell W ⟨b1,0,none⟩ _ b0 (by show b0≠b1;omega)).trans hl;have hset2:Boxed (W.setCell ⟨b1,0,none⟩ (.int .i64 ((k:Int)-(pre.length:Nat)-1))) b2 9 (.string ⟨#[]⟩):=(Below.heap_setCell W ⟨b1,0,none⟩ _ b2 (by show b2≠b1;omega)).trans hr;have hbs:Below b0 w (W.setCell ⟨b1,0,none⟩ (.int .i64 ((k:Int)-(pre.length:Nat)-1))):=hBW.setCell (p:=⟨b1,0,none⟩) (by show b0≤b1;omega) _;by_cases hz:pre.length=n
  ·have f0:(k:Int)-(pre.length:Nat)-1=0:=by omega
   have g1:(x.1:Int)≤(s.size:Int):=by omega
   have g2:(x.1:Int)+(x.2.size:Int)≤(s.size:Int):=by omega
   have g3:(x.1:Int)+(x.2.size:Int)≤400000000:=by omega
   have g4:(0:Int)≤(x.1:Int)+(x.2.size:Int):=by omega
   have g5:¬((x.1:Int)+(x.2.size:Int)<0):=by omega
   have g6:¬((s.size:Int)<(x.1:Int)+(x.2.size:Int)):=by omega
   have g7:IntKind.i64.wrap ((x.1:Int)+(x.2.size:Int))=(x.1:Int)+(x.2.size:Int):=IntWalk.i64_in _ (by omega);have c0:=hset0.cell;have c1:=hset.cell;have c2:=hset2.cell;have c2f:=hset2.frozen;have HBS:=hid hbs;have HSET2:=hid hset2;have HZ:=hid hz;have HBW:=hid hBW;clear hset hset0 hset2 hbs hk e hz
   gi_wp2
   have hnat:((x.1:Int)+(x.2.size:Int)).toNat=x.1+x.2.size:=by omega
   refine wpIn_mono (Q:=wS8 _) ?_ wS8.imp;refine wpIn_region_any (by kernel_rfl) ?_;change wpAnyIn _ _ _ _ _ _ _ _ _ (World.drew _);refine wK1 l rfl (fun i o ho c hc=>?_) _ _ _ _ ?_
   ·have:=Array.mem_of_getElem? ho;simp only[List.mem_toArray,List.mem_cons,List.not_mem_nil,or_false]at this;rcases this with rfl|rfl|rfl|rfl|rfl|rfl|rfl|rfl|rfl|rfl|rfl|rfl<;>cases hc
   refine wpAnyIn_take (i:=1) (v:=.int .i64 (x.1:Nat)) rfl rfl (by kernel_rfl) (by kernel_rfl) (by kernel_rfl) (fun _ _ _ h=>h) ⟨.inl ⟨rfl,fun w=>by go_simp⟩,fun w=>rfl⟩ ?_;refine wpAnyIn_take (i:=5) (v:=.int .i64 (x.1:Nat)) rfl rfl (by kernel_rfl) (by kernel_rfl) (by kernel_rfl) (fun _ _ _ h=>h) ⟨.inl ⟨rfl,fun w=>by go_simp⟩,fun w=>rfl⟩ ?_;refine wpAnyIn_take (i:=6) (v:=.string x.2) rfl rfl (by kernel_rfl) (by kernel_rfl) (by kernel_rfl) (fun _ _ _ h=>h) ⟨.inl ⟨rfl,fun w=>by go_simp⟩,fun w=>rfl⟩ ?_;refine wpAnyIn_take (i:=7) (v:=.int .i64 (x.2.size:Nat)) rfl rfl (by kernel_rfl) (by kernel_rfl) (by kernel_rfl) (fun _ _ _ h=>h) ⟨.inl ⟨rfl,fun w=>by go_simp⟩,fun w=>rfl⟩ ?_;refine wpAnyIn_take (i:=8) (v:=.int .i64 ((x.1:Int)+(x.2.size:Int))) rfl rfl (by kernel_rfl) (by kernel_rfl) (by kernel_rfl) (fun _ _ _ h=>h) ⟨.inl ⟨rfl,fun w=>by go_simp⟩,fun w=>rfl⟩ ?_
   refine wpAnyIn_ready (rs:=[0,4]) (by kernel_rfl) (by simp) (.cons rfl (fun K' hK=>?_) (.cons rfl (fun K' hK=>?_) .nil))
   ·go_simp
    refine hK _ _ ?_;refine wpAnyIn_take (i:=2) (v:=.string (s.extract 0 x.1)) rfl rfl (by kernel_rfl) (by kernel_rfl) (by kernel_rfl) (fun _ _ _ h=>h) ⟨.inl ⟨rfl,fun w=>by go_simp⟩,fun w=>rfl⟩ ?_;refine wpAnyIn_take (i:=3) (v:=.string (s.extract 0 x.1++⟨#[48]⟩)) rfl rfl (by kernel_rfl) (by kernel_rfl) (by kernel_rfl) (fun _ _ _ h=>h) ⟨.inl ⟨rfl,fun w=>by(go_simp;omega)⟩,fun w=>rfl⟩ ?_;refine wpAnyIn_ready (rs:=[4]) (by kernel_rfl) (by simp) (.cons rfl (fun K' hK=>?_) .nil)
    go_simp
    refine hK _ _ ?_;refine wpAnyIn_take (i:=9) (v:=.string (s.extract (x.1+x.2.size) s.size)) rfl rfl (by kernel_rfl) (by kernel_rfl) (by kernel_rfl) (fun _ _ _ h=>h) ⟨.inl ⟨rfl,fun w=>by(go_simp;try simp only[hnat,kC];try (simp[ByteArray.size_extract,ByteArray.size_append];omega))⟩,fun w=>rfl⟩ ?_;refine wpAnyIn_take (i:=10) (v:=.string (kC s x)) rfl rfl (by kernel_rfl) (by kernel_rfl) (by kernel_rfl) (fun _ _ _ h=>h) ⟨.inl ⟨rfl,fun w=>by(go_simp;try simp only[hnat,kC];try (simp[ByteArray.size_extract,ByteArray.size_append];omega))⟩,fun w=>rfl⟩ ?_;refine wpAnyIn_ready (rs:=[11]) (by kernel_rfl) (by simp) (.cons rfl (fun K' hK=>?_) .nil)
    go_simp
    refine hK _ _ ?_;refine wpAnyIn_done (by kernel_rfl) ?_ _;refine wS8.normal ?_
    gi_wp2
    have hq:Boxed (W.setCell ⟨b1,0,none⟩ (.int .i64 0)).drew b2 9 (.string ⟨#[]⟩):=(Below.heap_setCell W ⟨b1,0,none⟩ (.int .i64 0) b2 (by show b2≠b1;omega)).trans hr;refine⟨(KeepsOthers.setCell W _ _).trans ((KeepsOthers.drew _).trans (KeepsOthers.setCell _ _ _)),⟨?_,(HBW.out.setCell (p:=⟨b1,0,none⟩) (by show b0≤b1;omega) _).drew.setCell (p:=⟨b2,0,none⟩) (by show b0≤b2;omega) _⟩,rfl,by simp;exact HZ.out⟩;rw[List.getLast?_concat];exact hq.set _
   ·go_simp
    refine hK _ _ ?_;refine wpAnyIn_take (i:=9) (v:=.string (s.extract (x.1+x.2.size) s.size)) rfl rfl (by kernel_rfl) (by kernel_rfl) (by kernel_rfl) (fun _ _ _ h=>h) ⟨.inl ⟨rfl,fun w=>by(go_simp;try simp only[hnat,kC];try (simp[ByteArray.size_extract,ByteArray.size_append];omega))⟩,fun w=>rfl⟩ ?_;refine wpAnyIn_ready (rs:=[0]) (by kernel_rfl) (by simp) (.cons rfl (fun K' hK=>?_) .nil)
    go_simp
    refine hK _ _ ?_;refine wpAnyIn_take (i:=2) (v:=.string (s.extract 0 x.1)) rfl rfl (by kernel_rfl) (by kernel_rfl) (by kernel_rfl) (fun _ _ _ h=>h) ⟨.inl ⟨rfl,fun w=>by go_simp⟩,fun w=>rfl⟩ ?_;refine wpAnyIn_take (i:=3) (v:=.string (s.extract 0 x.1++⟨#[48]⟩)) rfl rfl (by kernel_rfl) (by kernel_rfl) (by kernel_rfl) (fun _ _ _ h=>h) ⟨.inl ⟨rfl,fun w=>by(go_simp;omega)⟩,fun w=>rfl⟩ ?_;refine wpAnyIn_take (i:=10) (v:=.string (kC s x)) rfl rfl (by kernel_rfl) (by kernel_rfl) (by kernel_rfl) (fun _ _ _ h=>h) ⟨.inl ⟨rfl,fun w=>by(go_simp;try simp only[hnat,kC];try (simp[ByteArray.size_extract,ByteArray.size_append];omega))⟩,fun w=>rfl⟩ ?_;refine wpAnyIn_ready (rs:=[11]) (by kernel_rfl) (by simp) (.cons rfl (fun K' hK=>?_) .nil)
    go_simp
    refine hK _ _ ?_;refine wpAnyIn_done (by kernel_rfl) ?_ _;refine wS8.normal ?_
    gi_wp2
    have hq:Boxed (W.setCell ⟨b1,0,none⟩ (.int .i64 0)).drew b2 9 (.string ⟨#[]⟩):=(Below.heap_setCell W ⟨b1,0,none⟩ (.int .i64 0) b2 (by show b2≠b1;omega)).trans hr;refine⟨(KeepsOthers.setCell W _ _).trans ((KeepsOthers.drew _).trans (KeepsOthers.setCell _ _ _)),⟨?_,(HBW.out.setCell (p:=⟨b1,0,none⟩) (by show b0≤b1;omega) _).drew.setCell (p:=⟨b2,0,none⟩) (by show b0≤b2;omega) _⟩,rfl,by simp;exact HZ.out⟩;rw[List.getLast?_concat];exact hq.set _
  ·have f0:¬((k:Int)-(pre.length:Nat)-1=0):=by omega
   have c1:=hset.cell;have HBS:=hid hbs;have HSET:=hid hset;have HSET0:=hid hset0;have HSET2:=hid hset2;clear hset hset0 hset2 hbs hk
   gi_wp2
   refine⟨KeepsOthers.setCell _ _ _,⟨(Below.refl _ _).setCell (p:=⟨b1,0,none⟩) (by show b0≤b1;omega) _,Below.heap_setCell W ⟨b1,0,none⟩ _ b3 (by show b3≠b1;omega)⟩,⟨HSET0.out,?_⟩,HSET2.out,HBS.out,by simp;omega⟩;have:=HSET.out;rw[e]
   rwa [show(k:Int)-((pre.length:Int)+1)=(k:Int)-(pre.length:Nat)-1 by omega]
 case done=>
  as_aux_lemma=>
  rintro D ys W hD hys ⟨_,_,_,hle⟩ hK;have:=congrArg List.length hys;rw[pF]at this;omega
 case stop=>
  as_aux_lemma=>
  rintro D c pre W hD hpre ⟨⟨hr,hBW⟩,rfl,hpl⟩ hK;obtain⟨z,hz⟩:∃z,pre[n]? = some z:=⟨_,pK (by omega)⟩
  have hgl:pre.getLast? = some z:=by rw[List.getLast?_eq_getElem?,hpl];exact hz
  have hw:(zU s)[n]? = some z.1:=by obtain⟨t,ht⟩:=hpre;rw[←ht,cD (by rw[pF];omega),pW,hz];rfl
  rw[hgl]at hr;dsimp only at hr
  gi_wp2
  refine qDJ [D] W Wb.heap.size (by have:=(pU.1 hK).1;omega) (by simp) (fun D' h=>by rw[pP.1 h];exact⟨hD,hK⟩) (fun W' hW'=>⟨.string (kC s z.1),?_,?_,fun x hx=>?_⟩)
  ·have c5:W'.cell? ⟨b2,0,none⟩=some (.string (kC s z.1)):=(hW'.cell (p:=⟨b2,0,none⟩) (by show b2<Wb.heap.size;omega)).trans hr.cell;simp[results,Tryz.f22,go_sem,c5]
  ·exact(hb0 ▸ hBW).trans (hW'.mono (by omega))
  ·rw[hw]at hx;cases hx;rfl
theorem wRF:Elem Tryz.prog 76 78 (.slice none 0 0) 1 24 :=
 ⟨Tryz.underlying76,by kernel_rfl,rfl,by decide⟩
theorem own_none0 (w:World) (B:Nat) (T:TypeId) (hB:B≤w.heap.size):(w.alloc (.cells #[] T)).ownsRow B T 1 (.slice (some ⟨w.heap.size,0,none⟩) 0 0) 0 [] :=
 World.ownsRow_made w #[] 0 hB (pG _) rfl
theorem wS9 {P:Program} {w w0:World} {ops:Array Oper} {rest:List Oper} {o:Oper} {a:Act} {Q:Exit→Act→World→Prop} {t e:TypeId} {k:IntKind}
  (E:Elem P t e (.int k 0) 1 4) (hg:o.guard=none) (s x:Operand) (ho:o.op=.call { callee:=.builtin .append,args:=#[s,x],argTypes:=#[t,t] })
  (B n:Nat) (v v2:Value) (cells:List Value) (ys:List Nat) (lo hi:Nat) (hown:w.ownsRow B e 1 v n cells) (hL:zA k lo hi w v2 ys) (hs:a.eval s=v) (hx:a.eval x=v2)
  (hb:n+ys.length≤35184372088832) (hbl:Below B w0 w) (hB:B≤w.heap.size)
  (h:∀ v' w',w'.ownsRow B e 1 v' (n+ys.length) (cells++zS k ys)→Below B w0 w'→w.grownBy w' v.ownBlock→wpList P ops Q rest (a.put o.dst v') w') :
  wpList P ops Q (o :: rest) a w:=by
 obtain ⟨i,hi',hz,hsz,hby⟩:=info_parts E.row; obtain ⟨ad,cap,rfl,hc,hn,hcell⟩:=hL; have hBk:∀ k,v.ownBlock=some k→B≤k:=fun k hk=>(hown.lt k hk).1; cases ad with
 | none =>
  have hc0:=hn rfl; have hl0:ys=[]:=pN (by omega); subst hl0; subst hc0; refine wpList_plain hg fun K hK=>?_; have hr:=run_append_owned_none (P:=P) w B t o.type e i 1 E.sl hi' v n cells hown; have hx':a.eval x=.slice none 0 0:=by simpa using hx
  unfold Oper.wp; simp [execOp,ho,resolve,invoke,builtin,hs,hx',hr,Result.andThen]; exact hK _ _ (h v w (by simpa [zS] using hown) hbl (World.grownBy.refl _ _))
 | some ad =>
  refine wpList_append_own _ hg s x t ho B e i _ 1 4 E.sl hi' hz hsz hby E.zs E.pos v n cells hs hown ad ys.length cap (zS k ys) hx (by simp [zS]) ?_ (numsC_one k _) (by unfold maxLen; omega) (by omega) hB ?_
  ·intro j u hj; have hjl:j<ys.length:=by
    have:=(pY.1 hj).1; simpa [zS] using this
   obtain ⟨b,off,ha,_,_,hcc⟩:=hcell (by intro e; subst e; simp at hjl); simp only [Option.some.injEq] at ha; subst ha; rw [Addr.add_lit,hcc j hjl,← hj]; simp [zS,List.getD_eq_getElem?_getD,hjl]
  ·intro v' w' h1 h2 h3; exact h v' w' h1 (hbl.grown h2 hB hBk) h2
def wD7 (lo hi:Nat) (w:World) (r:Value) (l:List Nat):Prop:=w.ownsRow lo 21 1 r l.length (zS .i32 l)∧∀ b,r.ownBlock=some b→b<hi
theorem wD7.grown {lo hi:Nat} {w w':World} {r:Value} {l:List Nat} {row:Option Nat} (h:wD7 lo hi w r l) (hg:w.grownBy w' row)
  (hr:∀ g,row=some g→hi≤g∨∃ c T f,w.heap[g]? = some (.cells c T f)∧T≠21):wD7 lo hi w' r l:=by
 obtain ⟨h1,h2⟩:=h; refine ⟨h1.kept hg ?_,h2⟩; by_cases hv:r.ownBlock=none
 ·exact .inl hv
 ·right; intro e; obtain ⟨g,hgg⟩:=bX.1 hv; rcases hr g (e ▸ hgg) with h3 | ⟨c,T,f,h5,h6⟩
  ·have:=h2 g hgg; omega
  ·rcases h1.2 with ⟨rfl,_⟩ | ⟨g',cap,cur,rfl,_,h7,_⟩
   ·simp [Value.ownBlock] at hgg
   ·simp [Value.ownBlock] at hgg; subst hgg; rw [h5] at h7; simp at h7; exact h6 h7.2.1
theorem wD7.nums {lo hi:Nat} {w:World} {r:Value} {l:List Nat} (h:wD7 lo hi w r l):zA .i32 lo w.heap.size w r l:=zA.ofOwn h.1
theorem wD7.shape {lo hi:Nat} {w:World} {r:Value} {l:List Nat} (h:wD7 lo hi w r l):∃ ad cap,r=.slice ad l.length cap:=vW h.1
theorem wD7.wide {lo hi lo' hi':Nat} {w:World} {r:Value} {l:List Nat} (h:wD7 lo hi w r l) (h1:lo'≤lo) (h2:hi≤hi'):wD7 lo' hi' w r l :=
 ⟨wHG h.1 h1,fun b hb=>pT (h.2 b hb) h2⟩
theorem wD7.one {lo hi:Nat} {w:World} {r:Value} {l:List Nat} (h:wD7 lo hi w r l):r.oneCell'=true:=by
 obtain ⟨ad,cap,rfl⟩:=h.shape; rfl
theorem wD7.ofOwn {lo:Nat} {w:World} {r:Value} {l:List Nat} (h:w.ownsRow lo 21 1 r l.length (zS .i32 l)):wD7 lo w.heap.size w r l:=⟨h,fun b hb=>(h.lt b hb).2⟩
def q9 (lo hi:Nat) (w:World) (rs:List Value) (rows:List (List Nat)):Prop :=
 rs.length=rows.length∧∀ (i:Nat) (x:List Nat) (r:Value),rows[i]? = some x→rs[i]? = some r→wD7 lo hi w r x
theorem q9.nil {lo hi:Nat} {w:World}:q9 lo hi w [] []:=⟨rfl,by simp⟩
theorem q9.grown {lo hi:Nat} {w w':World} {rs:List Value} {rows:List (List Nat)} {row:Option Nat} (h:q9 lo hi w rs rows) (hg:w.grownBy w' row)
  (hr:∀ g,row=some g→hi≤g∨∃ c T f,w.heap[g]? = some (.cells c T f)∧T≠21):q9 lo hi w' rs rows :=
 ⟨h.1,fun i x r hx hrr=>(h.2 i x r hx hrr).grown hg hr⟩
theorem q9.wide {lo hi hi':Nat} {w:World} {rs:List Value} {rows:List (List Nat)} (h:q9 lo hi w rs rows) (h2:hi≤hi'):q9 lo hi' w rs rows :=
 ⟨h.1,fun i x r hx hrr=>(h.2 i x r hx hrr).wide (pC _) h2⟩
theorem q9.snoc {lo hi:Nat} {w:World} {rs:List Value} {rows:List (List Nat)} {r:Value} {x:List Nat} (h:q9 lo hi w rs rows) (hr:wD7 lo hi w r x):q9 lo hi w (rs++[r]) (rows++[x]):=by
 refine ⟨by simp [h.1],fun i y u hy hu=>?_⟩; have hl:=h.1; rcases pL i rows.length with hi | hi
 ·rw [cD hi] at hy; rw [cD (by omega)] at hu; exact h.2 i y u hy hu
 ·rw [cC hi] at hy; rw [cC (by omega),hl] at hu; obtain ⟨j,hj⟩:∃ j,i - rows.length=j:=⟨_,rfl⟩
  rw [hj] at hy hu; cases j with
  | zero =>
   simp only [List.getElem?_cons_zero,Option.some.injEq] at hy hu; subst hy hu; exact hr
  | succ j=>simp at hy
theorem q9.one {lo hi:Nat} {w:World} {rs:List Value} {rows:List (List Nat)} (h:q9 lo hi w rs rows):∀ u,u∈rs→u.oneCell'=true:=by
 intro u hu; obtain ⟨i,hi,rfl⟩:=pC1.1 hu; have h1:=h.1; exact (h.2 i _ _ (pK (by omega)) (pK hi)).one
def RuneCell (lo hi:Nat) (w:World) (l:List Nat) (cs:List Value):Prop:=∃ r,cs=[r]∧zA .i32 lo hi w r l
def kU (lo hi:Nat) (w:World) (v:Value) (m:List (List Nat)):Prop:=kK 1 (RuneCell lo hi) lo hi w v m
theorem kU.keep {lo hi:Nat} {w w':World} {v:Value} {m:List (List Nat)} (h:kU lo hi w v m) (hk:∀ b,lo≤b→b<hi→w'.heap[b]? = w.heap[b]?):kU lo hi w' v m :=
 kK.keep h hk (fun _ _ ⟨r,e,hr⟩=>⟨r,e,hr.keep hk⟩)
theorem kU.below {lo hi B:Nat} {w w':World} {v:Value} {m:List (List Nat)} (h:kU lo hi w v m) (hb:Below B w w') (hB:hi≤B):kU lo hi w' v m :=
 h.keep fun b _ hh=>hb.block b (by omega)
theorem kU.wide {lo hi lo' hi':Nat} {w:World} {v:Value} {m:List (List Nat)} (h:kU lo hi w v m) (h1:lo'≤lo) (h2:hi≤hi'):kU lo' hi' w v m :=
 kK.wide h h1 h2 (fun _ _ ⟨r,e,hr⟩=>⟨r,e,hr.wide h1 h2⟩)
theorem kU.at {lo hi:Nat} {w:World} {v:Value} {m:List (List Nat)} (h:kU lo hi w v m) (i:Nat) (x:List Nat) (hx:m[i]? = some x) :
  ∃ b off cap r,v=.slice (some ⟨b,off,none⟩) m.length cap∧m.length≤cap∧lo≤b∧b<hi∧zA .i32 lo hi w r x∧w.cell? ⟨b,off+i,none⟩=some r:=by
 obtain ⟨b,off,cap,cs,rfl,hc,hl,hh,_,⟨r,rfl,hr⟩,hcell⟩:=kK.at h i x hx; have:=hcell 0 (by decide); exact ⟨b,off,cap,r,rfl,hc,hl,hh,hr,by simpa using this⟩
theorem q9.rows {B hi:Nat} {w:World} {v:Value} {rs:List Value} {rows:List (List Nat)} (h1:w.ownsRow B 78 1 v rows.length rs) (h:q9 B hi w rs rows):kU B w.heap.size w v rows:=by
 have h1':w.ownsRow B 78 1 v rows.length (rs.map fun r=>[r]).flatten:=by
  have:(rs.map fun r=>[r]).flatten=rs:=by
   clear h1 h
   induction rs with
   | nil=>rfl
   | cons x r ih=>simp [ih]
  rw [this]; exact h1
 refine kK.ofOwn (by decide) h1' (by simpa using h.1) (by intro x hx; obtain ⟨y,_,rfl⟩:=pR.1 hx; rfl) ?_; intro i x c hx hc; rw [pW] at hc; obtain ⟨r,hr,rfl⟩:=bD.1 hc; exact ⟨r,rfl,(h.2 i x r hx hr).nums⟩
def wGA (B:Nat) (w:World) (vo vw:Value) (rows:List (List Nat)) (cur:List Nat):Prop :=
 ∃ rs m,w.ownsRow B 78 1 vo rows.length rs∧q9 B m w rs rows∧B≤m∧m≤w.heap.size∧w.ownsRow m 21 1 vw cur.length (zS .i32 cur)
theorem yL {w:World} {B:Nat} {e:TypeId} {size n:Nat} {v:Value} {xs:List Value} (h:w.ownsRow B e size v n xs) (k:Nat) (hk:v.ownBlock=some k):∃ c,w.heap[k]? = some (.cells c e (0,0)):=by
 rcases h.2 with ⟨rfl,_⟩ | ⟨g,cap,cur,rfl,hb,hg,_⟩
 ·cases hk
 ·cases hk; exact ⟨cur,hg⟩
theorem wGA.rune {B:Nat} {w w6:World} {vo vw v':Value} {rows:List (List Nat)} {cur:List Nat} {r:Nat} {rs:List Value} {m:Nat}
  (h1:w.ownsRow B 78 1 vo rows.length rs) (h2:q9 B m w rs rows) (h3:B≤m) (h4:m≤w.heap.size) (h5:w.ownsRow m 21 1 vw cur.length (zS .i32 cur))
  (ho:w6.ownsRow m 21 1 v' (cur.length+1) (zS .i32 cur++[.int .i32 (r:Nat)])) (hg:(w.alloc (.cells #[.int .i32 (r:Nat)] 21)).grownBy w6 vw.ownBlock):wGA B w6 vo v' rows (cur++[r]):=by
 have hal:w.grownBy (w.alloc (.cells #[.int .i32 (r:Nat)] 21)) none:=World.grownBy_alloc w _ none; have hlt:=h5.lt; refine ⟨rs,m,?_,?_,h3,?_,by simpa [zS] using ho⟩
 ·refine (h1.alloc _).kept hg ?_; by_cases hv:vo.ownBlock=none
  ·exact .inl hv
  ·right; intro e; obtain ⟨g,hgg⟩:=bX.1 hv; obtain ⟨c1,e1⟩:=yL h1 g hgg; obtain ⟨c2,e2⟩:=yL h5 g (e ▸ hgg); rw [e1] at e2; simp at e2
 ·refine (h2.grown hal (fun g e=>by cases e)).grown hg fun g e=>.inl ?_; exact (hlt g e).1
 ·have:=hg.size; simp at this; omega
theorem wGA.word {B:Nat} {w w6:World} {vo vw v':Value} {rows:List (List Nat)} {cur:List Nat} {rs:List Value} {m:Nat}
  (h1:w.ownsRow B 78 1 vo rows.length rs) (h2:q9 B m w rs rows) (h3:B≤m) (h4:m≤w.heap.size) (h5:w.ownsRow m 21 1 vw cur.length (zS .i32 cur))
  (ho:w6.ownsRow B 78 1 v' (rows.length+1) (rs++[vw])) (hg:(w.alloc (.cells #[vw] 78)).grownBy w6 vo.ownBlock):wGA B w6 v' (.slice none 0 0) (rows++[cur]) []:=by
 have hal:w.grownBy (w.alloc (.cells #[vw] 78)) none:=World.grownBy_alloc w _ none; have hty:∀ g,vo.ownBlock=some g→w.heap.size≤g∨∃ c T f,(w.alloc (.cells #[vw] 78)).heap[g]? = some (.cells c T f)∧T≠21:=fun g e=>by
  obtain ⟨c,hc⟩:=yL (h1.alloc _) g e; exact .inr ⟨c,_,_,hc,by decide⟩
 have hsz:w.heap.size≤w6.heap.size:=by have:=hg.size; simp at this; omega
 have hf:wD7 B w.heap.size w vw cur:=(wD7.ofOwn h5).wide h3 (pC _); have hrows:=((h2.wide h4).snoc hf).grown hal (fun g e=>by cases e); exact ⟨rs++[vw],w6.heap.size,by simpa using ho,(hrows.grown hg hty).wide hsz,by omega,pC _,World.ownsRow_nil _ _ _ _⟩
theorem wKH (L:List Nat):(zJ L).1.length+(zJ L).2.length≤L.length:=by
 have h:∀ (L:List Nat) (st:List (List Nat) × List Nat),(L.foldl j8 st).1.length+(L.foldl j8 st).2.length≤st.1.length+st.2.length+L.length:=by
  intro L
  induction L with
  | nil=>intro st; simp
  | cons r L ih =>
   intro st; rw [cY]; have h1:=ih (j8 st r); have h2:(j8 st r).1.length+(j8 st r).2.length≤st.1.length+st.2.length+1:=by
    unfold j8; split
    ·split
     ·simp; omega
     ·simp
    ·simp; omega
   simp only [List.length_cons]; omega
 have:=h L ([],[]); simpa [zJ] using this
def jR (B:Nat) (w:World) (v:Value) (rows:List (List Nat)):Prop:=∃ rs m,w.ownsRow B 78 1 v rows.length rs∧q9 B m w rs rows
theorem jR.rows {B:Nat} {w:World} {v:Value} {rows:List (List Nat)} (h:jR B w v rows):kU B w.heap.size w v rows:=by
 obtain ⟨rs,m,h1,h2⟩:=h; exact q9.rows h1 h2
theorem jR.grown {B:Nat} {w w':World} {v:Value} {rows:List (List Nat)} {row:Option Nat} (h:jR B w v rows) (hg:w.grownBy w' row)
  (hr:∀ g,row=some g→∃ c T f,w.heap[g]? = some (.cells c T f)∧T≠21∧T≠78):jR B w' v rows:=by
 obtain ⟨rs,m,h1,h2⟩:=h; refine ⟨rs,m,h1.kept hg ?_,h2.grown hg fun g e=>?_⟩
 ·by_cases hv:v.ownBlock=none
  ·exact .inl hv
  ·right; intro e; obtain ⟨g,hgg⟩:=bX.1 hv; obtain ⟨c1,e1⟩:=yL h1 g hgg; obtain ⟨c,T,f,e2,_,e3⟩:=hr g (e ▸ hgg); rw [e1] at e2; simp at e2; exact e3 e2.2.1.symm
 ·obtain ⟨c,T,f,e2,e3,_⟩:=hr g e; exact .inr ⟨c,T,f,e2,e3⟩
theorem jR.later {B:Nat} {w w':World} {v:Value} {rows:List (List Nat)} (h:jR B w v rows) (hb:Below w.heap.size w w'):jR B w' v rows :=
 h.grown (row:=none) ⟨hb.os,hb.tape,hb.output,hb.size,fun k hk _=>hb.block k hk⟩ (fun g e=>by cases e)
theorem jR.shape {B:Nat} {w:World} {v:Value} {rows:List (List Nat)} (h:jR B w v rows):∃ ad cap,v=.slice ad rows.length cap:=by
 obtain ⟨rs,m,h1,_⟩:=h; exact vW h1
theorem jR.base {B B':Nat} {w:World} {v:Value} {rows:List (List Nat)} (h:jR B w v rows) (hB:B'≤B):jR B' w v rows:=by
 obtain ⟨rs,m,h1,h2⟩:=h; exact ⟨rs,m,wHG h1 hB,h2.1,fun i x r hx hr=>(h2.2 i x r hx hr).wide hB (pC _)⟩
theorem words_any (lo h1:Nat) (v:Value) (L:List Nat) (w:World) (h:zA .i32 lo h1 w v L) (hh1:h1≤w.heap.size) (hl:L.length≤1000000000) :
  Calls Tryz.prog 31 #[v] w fun e w'=>Below w.heap.size w w'∧∃ r,e=.returned r∧jR w.heap.size w' r (kO L):=by
 obtain ⟨ad,cap,hsh,hc,hcell⟩:=h.open; subst hsh; have HH:=hid h; clear h hcell
 go_enter Tryz.func31,Tryz.ntmps31
 have hal:=(Below.refl w.heap.size w).alloc (pC _) (.cells #[] 21)
 go_wp2_with (at_builtin; first
  | (refine wS9 (o:=⟨some 9,_,_,_,_,_⟩) (w0:=w) yP rfl _ _ rfl w.heap.size 0 (.slice (some ⟨w.heap.size,0,none⟩) 0 0) _ [] L lo h1 (own_none0 w w.heap.size 21 (pC _)) (HH.out.below hal hh1) rfl rfl (by omega) hal hal.size ?_; intro v2 w2 ho2 hb2 hg2; simp only [Nat.zero_add,List.nil_append] at ho2; obtain ⟨ad2,c2,rfl⟩:=vW ho2; clear hg2)
  | (refine zO (o:=⟨some 11,_,_,_,_,_⟩) yP rfl _ _ rfl w.heap.size L.length 1 1 _ _ #[.int .i32 32] ho2 rfl rfl rfl (by simp [Value.oneCell']) (by omega) (by decide) (by unfold maxLen; omega) hb2 hb2.size ?_))
 intro g3 c3 w3 ho3 hb3 hg3
 go_wp2
 obtain ⟨M,hM⟩:∃ M,L++[32]=M:=⟨_,rfl⟩
 have hml:M.length=L.length+1:=by rw [← hM]; simp
 have hl3:zA .i32 w.heap.size w3.heap.size w3 (.slice (some ⟨g3,0,none⟩) (L.length+1) c3) M:=by
  rw [← hM]; exact zA.ofOwn (by simpa [zS] using ho3)
 have hfin:kO L=(zJ M).1:=by rw [← hM]; rfl
 have HL3:=hid hl3; have HB3:=hid hb3; have HFIN:=hid hfin; have HML:=hid hml; have hM2:M.length≤1000000001:=by omega
 clear hM hl3 hfin ho3 ho2 hb2 hg3 hb3 hml hal
 go_loopw [3,4,13] (fun vo vw iv wr=>∃ k:Nat,iv=.int .i64 k∧k≤M.length∧Below w3.heap.size w3 wr∧wGA w3.heap.size wr vo vw (zJ (M.take k)).1 (zJ (M.take k)).2) (fun _ _ iv _=>M.length - (RowKit.intOf iv).toNat)
 case atStart=>exact ⟨0,rfl,pG _,Below.refl _ _,[],w3.heap.size,World.ownsRow_nil _ _ _ _,q9.nil,pC _,pC _,World.ownsRow_nil _ _ _ _⟩
 case round =>
  obtain ⟨k,rfl,hk,hbel,rs,m,o1,o2,o3,o4,o5⟩:=hrel; obtain ⟨adw,cw,rfl⟩:=vW o5; obtain ⟨ado,co,rfl⟩:=vW o1; have hlen1:(zJ (M.take k)).1.length+(zJ (M.take k)).2.length≤k:=by
   have:=wKH (M.take k); rw [mG] at this; omega
  by_cases hkl:k<M.length
  ·have hmk:=HML.out; obtain ⟨r,hr⟩:∃ r,M[k]? = some r:=⟨_,pK hkl⟩
   have hs1:zJ (M.take (k+1))=j8 (zJ (M.take k)) r:=by
    rw [cW,hr]; exact wH8 _ r
   obtain ⟨⟨rows,cur⟩,hst⟩:∃ st,zJ (M.take k)=st:=⟨_,rfl⟩
   rw [hst] at o1 o2 o5 hlen1 hs1 ⊢; dsimp only at o1 o2 o5 hlen1 hs1 ⊢; obtain ⟨b,off,_,hsh,_,hbl,hbh,hc9⟩:∃ b off c,(Value.slice (some ⟨g3,0,none⟩) (L.length+1) c3=.slice (some ⟨b,off,none⟩) M.length c)∧True∧w.heap.size≤b∧b<w3.heap.size∧w3.cell? ⟨b,off+k,none⟩=some (.int .i32 (r:Nat)):=by
    obtain ⟨ad',c',e',_,hcell⟩:=HL3.out.open; obtain ⟨b,off,hb1,hb2,hb3,hb4⟩:=hcell k hkl; have hrr:M.getD k 0=r:=by rw [pJ,hr]; rfl
    rw [hrr] at hb4; exact ⟨b,off,c',by rw [e',hb1],trivial,hb2,hb3,hb4⟩
   simp only [Value.slice.injEq,Option.some.injEq,Addr.mk.injEq,and_true] at hsh; obtain ⟨⟨rfl,rfl⟩,hz9,rfl⟩:=hsh; clear hz9; have hcr:wr.cell? ⟨g3,0+k,none⟩=some (.int .i32 (r:Nat)):=(hbel.cell (p:=⟨g3,0+k,none⟩) hbh).trans hc9; rw [cL] at hcr; have f1:(k:Int)<(L.length:Int)+1:=by omega
   have q:=gap_any r wr; have HS1:=hid hs1; have HBEL:=hid hbel; have HSZ:=hid hbel.size; clear hs1 hst hr hmk hc9 hbel; by_cases hgp:x8 r=true
   ·rw [hgp] at q; have Q:=hid q; have hs2:j8 (rows,cur) r=(if cur=[] then rows else rows++[cur],[]):=if_pos hgp; have HS2:=hid hs2; clear q hs2 hgp; by_cases hcur:cur.length=0
    ·obtain rfl:cur=[]:=pN hcur; clear hcur
     go_wp2_with (go_at_call 63; refine Q.out.mono ?_; rintro e w' ⟨rfl,rfl⟩)
     go_roundw
     case rel =>
      refine ⟨k+1,by go_num,by omega,HBEL.out,?_⟩; rw [HS1.out,HS2.out]; exact ⟨rs,m,o1,o2,o3,o4,World.ownsRow_nil _ _ _ _⟩
     case measure=>simp [RowKit.intOf]; omega
    ·have hne:¬ cur=[]:=fun e=>hcur (by rw [e]; rfl); have f2:(0:Int)<(cur.length:Int):=by omega
     have HNE:=hid hne; have O2:=hid o2; clear hne hcur o2
     go_wp2_with (first
      | (go_at_call 63; refine Q.out.mono ?_; rintro e w' ⟨rfl,rfl⟩)
      | (at_builtin; refine zO (o:=⟨some 30,_,_,_,_,_⟩) wRF rfl _ _ rfl w3.heap.size rows.length 1 1 _ rs #[.slice adw cur.length cw] o1 rfl rfl rfl (by simp [Value.oneCell']) (by omega) (by decide) (by unfold maxLen; omega) HBEL.out HSZ.out ?_; intro g6 c6 w6 ho6 hb6 hg6))
     have FIN:=hid (wGA.word o1 O2.out o3 o4 o5 (by simpa using ho6) hg6); have HB6:=hid hb6; clear ho6 hb6 hg6
     go_wp2
     go_roundw
     case rel =>
      refine ⟨k+1,by go_num,by omega,HB6.out,?_⟩; rw [HS1.out,HS2.out,if_neg HNE.out]; exact FIN.out
     case measure=>simp [RowKit.intOf]; omega
   ·have hgf:x8 r=false:=by simpa using hgp
    rw [hgf] at q; have Q:=hid q; have hs2:j8 (rows,cur) r=(rows,cur++[r]):=if_neg hgp; have HS2:=hid hs2; have O2:=hid o2; have O1:=hid o1; clear q hs2 hgp hgf o1 o2
    go_wp2_with (first
     | (go_at_call 63; refine Q.out.mono ?_; rintro e w' ⟨rfl,rfl⟩)
     | (at_builtin; refine zO (o:=⟨some 23,_,_,_,_,_⟩) (w0:=wr) yP rfl _ _ rfl m cur.length 1 1 _ (zS .i32 cur) #[.int .i32 (r:Nat)] o5 rfl rfl rfl (by simp [Value.oneCell']) (by omega) (by decide) (by unfold maxLen; omega) (Below.refl _ _) o4 ?_; intro g6 c6 w6 ho6 hb6 hg6))
    have FIN:=hid (wGA.rune O1.out O2.out o3 o4 o5 (by simpa using ho6) hg6); have HB6:=hid (HBEL.out.trans (hb6.mono o3)); clear ho6 hb6 hg6
    go_wp2
    go_roundw
    case rel =>
     refine ⟨k+1,by go_num,by omega,HB6.out,?_⟩; rw [HS1.out,HS2.out]; exact FIN.out
    case measure=>simp [RowKit.intOf]; omega
  ·obtain rfl:k=M.length:=by omega
   have hmk:=HML.out; have f1:¬ ((M.length:Int)<(L.length:Int)+1):=by omega
   rw [pZ] at o1 o2; clear hmk
   go_wp2
   go_ret
   refine ⟨HB3.out.trans (hbel.mono HB3.out.size),_,rfl,?_⟩; rw [HFIN.out]; exact jR.base ⟨rs,m,o1,o2⟩ HB3.out.size
theorem own_atV{B:Nat}{w:World}{e:TypeId}{g n cap:Nat}{xs:List Value}(h:w.ownsRow B e 1 (.slice (some ⟨g,0,none⟩) n cap) n xs)(j:Nat)(u:Value)(hj:xs[j]? = some u):w.cell? ⟨g,j,none⟩=some u∧w.frozen? ⟨g,j,none⟩=false:=by
 rcases h.2 with⟨h1,_⟩|⟨g',cap',cur,h1,hb,hg,hcap,hm,hs,ht⟩
 ·cases h1
 ·simp only[Value.slice.injEq,Option.some.injEq,Addr.mk.injEq,and_true,true_and]at h1;obtain⟨rfl,rfl⟩:=h1;refine⟨?_,frozen_of_row w g j cur e hg⟩;rw[cell_of_row w g _ cur e (0,0) hg];rw[←ht,dA]at hj;split at hj
  ·rw[←hj];simp
  ·cases hj
def vJ(B:Nat)(w:World)(vo:Value)(rows:List (List Nat))(cur:List Nat):Prop:=
 ∃rs vl m,w.ownsRow B 78 1 vo (rows.length+1) (rs++[vl])∧q9 B m w rs rows∧B≤m∧m≤w.heap.size∧w.ownsRow m 21 1 vl cur.length (zS .i32 cur)
theorem grown_none{w w':World}(h:Below w.heap.size w w'):w.grownBy w' none:=⟨h.os,h.tape,h.output,h.size,fun k hk _=>h.block k hk⟩
theorem vJ.later{B:Nat}{w w':World}{vo:Value}{rows:List (List Nat)}{cur:List Nat}(h:vJ B w vo rows cur)(hb:Below w.heap.size w w'):vJ B w' vo rows cur:=by obtain⟨rs,vl,m,h1,h2,h3,h4,h5⟩:=h;exact⟨rs,vl,m,wBB h1 hb,h2.grown (grown_none hb) (fun g e=>by cases e),h3,pD h4 hb.size,wBB h5 hb⟩
theorem vJ.sep{B:Nat}{w w6:World}{vo vl v':Value}{rows:List (List Nat)}{cur:List Nat}{rs:List Value}{m:Nat}(h1:w.ownsRow B 78 1 vo (rows.length+1) (rs++[vl]))(h2:q9 B m w rs rows)(h3:B≤m)(h4:m≤w.heap.size)(h5:w.ownsRow m 21 1 vl cur.length (zS .i32 cur))(ho:w6.ownsRow B 78 1 v' (rows.length+1+1) (rs++[vl]++[.slice none 0 0]))(hg:(w.alloc (.cells #[.slice none 0 0] 78)).grownBy w6 vo.ownBlock):vJ B w6 v' (rows++[cur]) []:=by
 have hal:w.grownBy (w.alloc (.cells #[.slice none 0 0] 78)) none:=World.grownBy_alloc w _ none;have hty:∀g,vo.ownBlock=some g→w.heap.size≤g∨∃c T f,(w.alloc (.cells #[.slice none 0 0] 78)).heap[g]? = some (.cells c T f)∧T≠21:=fun g e=>by obtain⟨c,hc⟩:=yL (h1.alloc _) g e;exact .inr ⟨c,_,_,hc,by decide⟩
 have hsz:w.heap.size≤w6.heap.size:=by have:=hg.size;simp at this;omega
 have hf:wD7 B w.heap.size w vl cur:=(wD7.ofOwn h5).wide h3 (pC _);have hrows:=((h2.wide h4).snoc hf).grown hal (fun g e=>by cases e);exact⟨rs++[vl],.slice none 0 0,w6.heap.size,by simpa using ho,(hrows.grown hg hty).wide hsz,by omega,pC _,World.ownsRow_nil _ _ _ _⟩
theorem vJ.rune{B:Nat}{w w6:World}{g c:Nat}{vl v':Value}{rows:List (List Nat)}{cur:List Nat}{r:Nat}{rs:List Value}{m:Nat}(h1:w.ownsRow B 78 1 (.slice (some ⟨g,0,none⟩) (rows.length+1) c) (rows.length+1) (rs++[vl]))(h2:q9 B m w rs rows)(h3:B≤m)(h4:m≤w.heap.size)(h5:w.ownsRow m 21 1 vl cur.length (zS .i32 cur))(ho:w6.ownsRow m 21 1 v' (cur.length+1) (zS .i32 cur++[.int .i32 (r:Nat)]))(hg:(w.alloc (.cells #[.int .i32 (r:Nat)] 21)).grownBy w6 vl.ownBlock) :
  (w6.cell? ⟨g,rows.length,none⟩=some vl∧w6.frozen? ⟨g,rows.length,none⟩=false)∧vJ B (w6.setCell ⟨g,rows.length,none⟩ v') (.slice (some ⟨g,0,none⟩) (rows.length+1) c) rows (cur++[r]):=by
 have hal:w.grownBy (w.alloc (.cells #[.int .i32 (r:Nat)] 21)) none:=World.grownBy_alloc w _ none;have hlt:=h5.lt;have hrl:=h2.1;have k1:w6.ownsRow B 78 1 (.slice (some ⟨g,0,none⟩) (rows.length+1) c) (rows.length+1) (rs++[vl]):=by refine(h1.alloc _).kept hg (.inr ?_);intro e;obtain⟨c1,e1⟩:=yL h1 g rfl;obtain⟨c2,e2⟩:=yL h5 g e.symm;rw[e1]at e2;simp at e2
 have hfin:=(h2.grown hal (fun g e=>by cases e)).grown hg fun g e=>.inl (hlt g e).1;have hs6:m≤w6.heap.size:=by have:=hg.size;simp at this;omega
 have hat:=own_atV k1 rows.length vl (by rw[←hrl];simp);have hst:=k1.stored rows.length v';have hset:(rs++[vl]).set rows.length v'=rs++[v']:=by rw[←hrl];simp
 rw[hset]at hst;have hgt:∀g',some g=some g'→m≤g'∨∃c T f,w6.heap[g']? = some (.cells c T f)∧T≠21:=fun g' e=>by cases e;obtain⟨c1,e1⟩:=yL k1 g rfl;exact .inr ⟨c1,_,_,e1,by decide⟩
 refine⟨hat,rs,v',m,hst.1,hfin.grown hst.2 hgt,h3,?_,?_⟩
 ·have:=hst.2.size;omega
 ·have hoo:w6.ownsRow m 21 1 v' (cur++[r]).length (zS .i32 (cur++[r])):=by simpa[zS]using ho
  refine hoo.kept hst.2 ?_;by_cases hv:v'.ownBlock=none
  ·exact .inl hv
  ·right;intro e;obtain⟨c1,e1⟩:=yL k1 g rfl;obtain⟨c2,e2⟩:=yL hoo g e;rw[e1]at e2;simp at e2
theorem qH8(p:Nat→Bool)(L:List Nat)(r:Nat):qG p [] (L++[r])=wCA p (qG p [] L) r:=by simp[qG]
theorem partSt_le(p:Nat→Bool)(L:List Nat):(qG p [] L).1.length+(qG p [] L).2.length≤L.length:=by
 have h:∀(L:List Nat)(st:List (List Nat)×List Nat),(L.foldl (wCA p) st).1.length+(L.foldl (wCA p) st).2.length≤st.1.length+st.2.length+L.length:=by
  intro L
  induction L with
  |nil=>intro st;simp
  | cons r L ih=>
   intro st;rw[cY];have h1:=ih (wCA p st r);have h2:(wCA p st r).1.length+(wCA p st r).2.length≤st.1.length+st.2.length+1:=by
    unfold wCA;split
    ·simp
    ·simp;omega
   simp only[List.length_cons];omega
 have:=h L ([],[]);simpa[qG]using this
theorem parted_any(lo h1:Nat)(v:Value)(L:List Nat)(parts:ByteArray)(w:World)(h:zA .i32 lo h1 w v L)(hh1:h1≤w.heap.size)(hl:L.length≤1000000000)(hps:parts.size≤1000) :
  Calls Tryz.prog 29 #[v,.string parts] w fun e w'=>Below w.heap.size w w'∧∃r,e=.returned r∧kU w.heap.size w'.heap.size w' r (wR (fun r=>(wD parts).contains r) L):=by
 obtain⟨p,hp⟩:∃p:Nat→Bool,(fun r=>(wD parts).contains r)=p:=⟨_,rfl⟩
 rw[hp];obtain⟨ad,cap,hsh,hc,hcell⟩:=h.open;subst hsh;have HH:=hid h;have HP:=hid hp;clear h hcell hp
 go_enter Tryz.func29,Tryz.ntmps29
 go_wp2
 have hb1:=(Below.refl w.heap.size w).alloc (pC _) (.cells #[.slice none 0 0] 78);have ho1:(w.alloc (.cells #[.slice none 0 0] 78)).ownsRow w.heap.size 78 1 (.slice (some ⟨w.heap.size,0,none⟩) 1 1) 1 [.slice none 0 0]:=⟨rfl,.inr ⟨w.heap.size,1,#[.slice none 0 0],rfl,pC _,heap_alloc_new w _,pC _,by decide,rfl,rfl⟩⟩
 have hst0:vJ w.heap.size (w.alloc (.cells #[.slice none 0 0] 78)) (.slice (some ⟨w.heap.size,0,none⟩) 1 1) [] []:=
  ⟨[],.slice none 0 0,(w.alloc (.cells #[.slice none 0 0] 78)).heap.size,ho1,q9.nil,hb1.size,pC _,World.ownsRow_nil _ _ _ _⟩
 obtain⟨w1,hw1⟩:∃w1,w.alloc (.cells #[.slice none 0 0] 78)=w1:=⟨_,rfl⟩
 rw[hw1]at hb1 hst0 ⊢;clear hw1 ho1;have HB1:=hid hb1;clear hb1
 go_loopw [5,14] (fun vo iv wr=>∃k:Nat,iv=.int .i64 k∧k≤L.length∧Below w.heap.size w wr∧vJ w.heap.size wr vo (qG p [] (L.take k)).1 (qG p [] (L.take k)).2) (fun _ iv _=>L.length-(RowKit.intOf iv).toNat)
 case atStart=>exact⟨0,rfl,pG _,HB1.out,hst0⟩
 case round=>
  obtain⟨wo,hwo⟩:∃wo,wo=wr:=⟨_,rfl⟩
  subst hwo;obtain⟨k,rfl,hk,hbel,hps1⟩:=hrel;have hlen1:(qG p [] (L.take k)).1.length+(qG p [] (L.take k)).2.length≤k:=by have:=partSt_le p (L.take k);rw[mG]at this;omega
  by_cases hkl:k<L.length
  ·obtain⟨r,hr⟩:∃r,L[k]? = some r:=⟨_,pK hkl⟩
   have hs1:qG p [] (L.take (k+1))=wCA p (qG p [] (L.take k)) r:=by rw[cW,hr];exact qH8 p _ r
   obtain⟨⟨rows,cur⟩,hst⟩:∃st,qG p [] (L.take k)=st:=⟨_,rfl⟩
   rw[hst]at hps1 hlen1 hs1;dsimp only at hps1 hlen1 hs1;obtain⟨b,off,hsh,hbl,hbh,hc9⟩:∃b off,ad=some ⟨b,off,none⟩∧lo≤b∧b<h1∧w.cell? ⟨b,off+k,none⟩=some (.int .i32 (r:Nat)):=by
    obtain⟨ad',c',e',_,hcell⟩:=HH.out.open;obtain⟨b,off,hb1,hb2,hb3,hb4⟩:=hcell k hkl;have hrr:L.getD k 0=r:=by rw[pJ,hr];rfl
    rw[hrr]at hb4;simp only[Value.slice.injEq,true_and]at e';exact⟨b,off,by rw[e'.1,hb1],hb2,hb3,hb4⟩
   subst hsh;have hcr:wo.cell? ⟨b,off+k,none⟩=some (.int .i32 (r:Nat)):=(hbel.cell (p:=⟨b,off+k,none⟩) (by show b<w.heap.size;omega)).trans hc9;have f1:(k:Int)<(L.length:Int):=by omega
   have HS1:=hid hs1;have HBEL:=hid hbel;have HSZ:=hid hbel.size;have HST:=hid hps1;clear hs1 hst hr hc9 hbel hps1 hst0
   go_wp2
   have hk0:=World.iter_heap wo parts 0;have hbi:Below wo.heap.size wo (wo.iter parts 0):=(Below.refl _ _).alloc (pC _) _;obtain⟨kb,hkb⟩:∃kb,wo.heap.size=kb:=⟨_,rfl⟩
   obtain⟨wi,hwi⟩:∃wi,wo.iter parts 0=wi:=⟨_,rfl⟩
   rw[hwi]at hk0 hbi ⊢;have HKB:=hid hkb;rw[hkb]at hk0 hbi ⊢;clear hwi hkb
   go_loopg [8] parts.size (fun gk isv wr=>∃(pos:Nat)(pre:List Nat),gk=parts.size-pos∧wr.heap[kb]? = some (.stringIter parts pos)∧isv=.bool (pre.contains r)∧Below kb wo wr∧wD parts=pre++zR parts pos)
   case atStart=>exact⟨0,[],by omega,hk0,rfl,hbi,rfl⟩
   case round=>
    obtain⟨pos,pre,hgk,hki,rfl,hbx,hru⟩:=hrel;have HRU:=hid hru;have HGK:=hid hgk;clear hru hgk hk0 hbi;by_cases hpp:pos<parts.size
    ·have hnx:=fun ty=>Lib.run_next_any_at (P:=Tryz.prog) wr kb parts pos ty hki hpp;have hw:=qD parts pos;obtain⟨rn,hrn⟩:∃rn,(Utf8.decode parts pos).1=rn:=⟨_,rfl⟩
     obtain⟨wd,hwd⟩:∃wd,(Utf8.decode parts pos).2=wd:=⟨_,rfl⟩
     have hst:=zX parts pos hpp;rw[hrn,hwd]at hst hnx;rw[hwd]at hw;have hk2:=Lib.iterAt_heap wr kb parts pos (pos+wd) hki;have hbel2:=Lib.below_iterAt hbx (pC kb) parts (pos+wd);have hru2:wD parts=(pre++[rn])++zR parts (pos+wd):=by rw[HRU.out,hst];simp
     have hct:(pre++[rn]).contains r=(pre.contains r||r==rn):=by rw[bH];simp
     have HCT:=hid hct;have HRU2:=hid hru2;have HK2:=hid hk2;have HBEL2:=hid hbel2;obtain⟨cb,hcb⟩:∃cb,pre.contains r=cb:=⟨_,rfl⟩
     rw[hcb]at HCT ⊢;clear hst hrn hwd hk2 hbel2 hru2 hct hcb hbx hki;cases cb
     ·by_cases hrr:r=rn
      ·subst hrr
       go_wp2
       go_roundg (parts.size-(pos+wd))
       case measure=>have:=HGK.out;omega
       case rel=>exact⟨pos+wd,pre++[r],rfl,HK2.out,by rw[HCT.out];simp,HBEL2.out,HRU2.out⟩
      ·have nrr:((r:Int)==(rn:Int))=false:=by simp;omega
       have HNE:=hid hrr;clear hrr
       go_wp2
       go_roundg (parts.size-(pos+wd))
       case measure=>have:=HGK.out;omega
       case rel=>exact⟨pos+wd,pre++[rn],rfl,HK2.out,by rw[HCT.out];have:=HNE.out;simp[this],HBEL2.out,HRU2.out⟩
     ·go_wp2
      go_roundg (parts.size-(pos+wd))
      case measure=>have:=HGK.out;omega
      case rel=>exact⟨pos+wd,pre++[rn],rfl,HK2.out,by rw[HCT.out];simp,HBEL2.out,HRU2.out⟩
    ·have hnx:=fun ty=>Lib.run_next_end_at (P:=Tryz.prog) wr kb parts pos ty hki hpp;have he:=z7 parts pos hpp;have hcn:pre.contains r=p r:=by
      have e2:=HRU.out;rw[he,cG]at e2;rw[←HP.out,←e2]
     rw[hcn];have hbo:Below wo.heap.size wo wr:=by rw[HKB.out];exact hbx
     have hbw:Below w.heap.size w wr:=HBEL.out.trans (hbo.mono HBEL.out.size);obtain⟨rs,vl,m,o1,o2,o3,o4,o5⟩:=HST.out.later hbo;obtain⟨go,co,rfl,hgl,hgh⟩:=qH9 o1 (Nat.succ_pos _);obtain⟨adl,cl,rfl⟩:=vW o5;obtain⟨m0,m1⟩:=own_atV o1 rows.length (.slice adl cur.length cl) (by rw[←o2.1];simp);have HBW:=hid hbw;have O2:=hid o2;have O5:=hid o5;have HSZ2:=hid hbw.size;clear he hcn hbo hbw hbx hki HRU;obtain⟨pr,hpr⟩:∃pr,p r=pr:=⟨_,rfl⟩
     rw[hpr];cases pr
     ·have hs2:wCA p (rows,cur) r=(rows,cur++[r]):=if_neg (by rw[hpr];decide);have HS2:=hid hs2;have O1:=hid o1;have f2:((rows.length:Nat):Int)<((rows.length:Nat):Int)+1:=by omega
      clear hs2 hpr o1
      go_wp2_with (at_builtin;refine zO (o:=⟨some 45,_,_,_,_,_⟩) (w0:=wr) yP rfl _ _ rfl m cur.length 1 1 _ (zS .i32 cur) #[.int .i32 (r:Nat)] o5 rfl rfl rfl (by simp[Value.oneCell']) (by omega) (by decide) (by unfold maxLen;omega) (Below.refl _ _) o4 ?_;intro g6 c6 w6 ho6 hb6 hg6;obtain⟨⟨k0,k1⟩,hfin⟩:=vJ.rune O1.out O2.out o3 o4 O5.out (by simpa using ho6) hg6;have HFIN:=hid hfin;have HB6:=hid ((HBW.out.trans (hb6.mono o3)).setCell (p:=⟨go,rows.length,none⟩) hgl (.slice (some ⟨g6,0,none⟩) (cur.length+1) c6));clear ho6 hb6 hg6 hfin)
      refine⟨⟨k+1,by go_num,by omega,HB6.out,?_⟩,by simp[RowKit.intOf];omega⟩;rw[HS1.out,HS2.out];exact HFIN.out
     ·have hs2:wCA p (rows,cur) r=(rows++[cur],[]):=if_pos hpr;have HS2:=hid hs2;clear hs2 hpr m0 m1
      go_wp2_with (at_builtin;refine zO (o:=⟨some 32,_,_,_,_,_⟩) wRF rfl _ _ rfl w.heap.size (rows.length+1) 1 1 _ _ #[.slice none 0 0] o1 rfl rfl rfl (by simp[Value.oneCell']) (by omega) (by decide) (by unfold maxLen;omega) HBW.out HSZ2.out ?_;intro g6 c6 w6 ho6 hb6 hg6)
      have HFIN:=hid (vJ.sep o1 O2.out o3 o4 O5.out (by simpa using ho6) hg6);have HB6:=hid hb6;clear ho6 hb6 hg6;refine⟨⟨k+1,by go_num,by omega,HB6.out,?_⟩,by simp[RowKit.intOf];omega⟩;rw[HS1.out,HS2.out];exact HFIN.out
  ·obtain rfl:k=L.length:=by omega
   have f1:¬((L.length:Int)<(L.length:Int)):=by omega
   rw[pZ]at hps1;obtain⟨rs,vl,m,o1,o2,o3,o4,o5⟩:=hps1
   go_wp2
   go_ret
   refine⟨hbel,_,rfl,?_⟩;have hf:=(o2.wide o4).snoc ((wD7.ofOwn o5).wide o3 (pC _));have hpl:(wR p L).length=(qG p [] L).1.length+1:=by simp[wR]
   rw[←hpl]at o1;exact q9.rows o1 hf
theorem wA0.len{lo hi:Nat}{w:World}{v:Value}{l:List (Bool×List Nat×Bool×List Nat)}(h:wA0 lo hi w v l)(k:Nat)(hk:k<l.length):∃b off cap,v=.slice (some ⟨b,off,none⟩) l.length cap∧l.length≤cap:=by obtain⟨b,off,cap,q,p,hv,hc,_⟩:=h.at k _ (pK hk);exact⟨b,off,cap,hv,hc⟩
structure Spoiled(S:Nat→Prop)(w w':World):Prop where
 os:w'.os=w.os
 tape:w'.tape=w.tape
 output:w'.output=w.output
 size:w.heap.size≤w'.heap.size
 block:∀b,b<w.heap.size→¬S b→w'.heap[b]? = w.heap[b]?
theorem Spoiled.refl(S:Nat→Prop)(w:World):Spoiled S w w:=⟨rfl,rfl,rfl,pC _,fun _ _ _=>rfl⟩
theorem Spoiled.alloc{S:Nat→Prop}{w w':World}(h:Spoiled S w w')(o:Obj):Spoiled S w (w'.alloc o):=
 ⟨h.os,h.tape,h.output,pD h.size (by simp),fun b hb hS=>(Below.heap_alloc _ _ _ (pT hb h.size)).trans (h.block b hb hS)⟩
theorem Spoiled.below{S:Nat→Prop}{w w':World}{B:Nat}(h:Spoiled S w w')(hB:B≤w.heap.size)(hS:∀b,S b→B≤b):Below B w w':=
 ⟨h.os,h.tape,h.output,h.size,fun b hb=>h.block b (by omega) fun hs=>by have:=hS b hs;omega⟩
def wP0(S:Nat→Prop)(w:World)(v:Value):Prop:=
 ∃ad n cap,v=.slice ad n cap∧n≤cap∧n≤140737488355328∧(0<n→∃b off row T,ad=some ⟨b,off,none⟩∧S b∧w.heap[b]? = some (.cells row T (0,0))∧off+n≤row.size)
theorem wP0.keep{S:Nat→Prop}{w w':World}{v:Value}(h:wP0 S w v)(hk:∀b,S b→b<w.heap.size→w'.heap[b]? = w.heap[b]?):wP0 S w' v:=by obtain⟨ad,n,cap,hv,hc,hm,hn⟩:=h;refine⟨ad,n,cap,hv,hc,hm,fun h=>?_⟩;obtain⟨b,off,row,T,ha,hs,hb,hz⟩:=hn h;exact⟨b,off,row,T,ha,hs,by rw[hk b hs (pU.1 hb).1];exact hb,hz⟩
theorem wP0.set{S:Nat→Prop}{w:World}{v:Value}(h:wP0 S w v)(g i:Nat)(u:Value):wP0 S (w.setCell ⟨g,i,none⟩ u) v:=by
 obtain⟨ad,n,cap,hv,hc,hm,hn⟩:=h;refine⟨ad,n,cap,hv,hc,hm,fun h=>?_⟩;obtain⟨b,off,row,T,ha,hs,hb,hz⟩:=hn h;by_cases hbg:b=g
 ·subst hbg;have:=heap_setCell_same w b i row T u hb;exact⟨b,off,_,T,ha,hs,this,by simpa using hz⟩
 ·exact⟨b,off,row,T,ha,hs,by rw[Below.heap_setCell _ _ _ _ (by intro e;exact hbg e)];exact hb,hz⟩
theorem wG.loose{S:Nat→Prop}{lo hi:Nat}{w:World}{v:Value}{xs:List Nat}(h:wG lo hi w v xs)(h0:0<lo)(hS:∀b,lo≤b→b<hi→S b)(hl:xs.length≤140737488355328):wP0 S w v:=by obtain⟨ad,cap,hv,hc,hn,hx,hne⟩:=h;refine⟨ad,xs.length,cap,hv,hc,hl,fun hp=>?_⟩;obtain⟨b,off,ha,hlb,hbh,hcell,hu⟩:=hne (by intro e;subst e;simp at hp);obtain⟨row,hb⟩:=hu h0;refine⟨b,off,row,_,ha,hS b hlb hbh,hb,?_⟩;have:=hcell (xs.length-1) (by omega);rw[cell_of_row w b _ row _ (0,0) hb]at this;have:=(pU.1 this).1;omega
theorem wP0.open{S:Nat→Prop}{w:World}{v:Value}(h:wP0 S w v):∃ad n cap,v=.slice ad n cap∧n≤cap∧n≤140737488355328 ∧
  ∀i,i<n→∃b off,ad=some ⟨b,off,none⟩∧S b∧∃u,w.cell? ⟨b,off+i,none⟩=some u∧w.frozen? ⟨b,off+i,none⟩=false:=by
 obtain⟨ad,n,cap,hv,hc,hm,hn⟩:=h;refine⟨ad,n,cap,hv,hc,hm,fun i hi=>?_⟩;obtain⟨b,off,row,T,ha,hs,hb,hz⟩:=hn (by omega);refine⟨b,off,ha,hs,row[off+i]'(by omega),?_,frozen_of_row w b (off+i) row T hb⟩;rw[cell_of_row w b _ row T (0,0) hb];exact cZ _
def IntRow(w:World)(g:Nat)(vs:List (Bool×Value)):Prop:=
 ∀i,i<vs.length→w.cell? ⟨g,i*2,none⟩=some (.bool (vs.getD i (false,.slice none 0 0)).1)∧w.cell? ⟨g,i*2+1,none⟩=some (vs.getD i (false,.slice none 0 0)).2
theorem IntRow.keep{w w':World}{g:Nat}{vs:List (Bool×Value)}(h:IntRow w g vs)(hk:w'.heap[g]? = w.heap[g]?):IntRow w' g vs:=
 fun i hi=>⟨(World.cell?_of_block hk).trans (h i hi).1,(World.cell?_of_block hk).trans (h i hi).2⟩
theorem badB_no(L:List Nat)(h:¬wK0 L=true):∀d,d∈L.map wU→d<10:=by
 intro d hd;obtain⟨r,hr,rfl⟩:=pR.1 hd;rw[jX]at h;rcases pL (wU r) 10 with h1|h1
 ·exact h1
 ·exact absurd (.inr fun h2=>by have:=h2 r hr;omega) h
theorem wX5(L:List Nat)(h:¬wK0 L=true):(toL (wS 10 (L.map wU))).length≤L.length:=by have:=wFB 10 (L.map wU) (by decide) (badB_no L h);simpa using this
theorem lower_len(L:List Nat):(lower L).length≤L.length+1:=by
 unfold lower;split
 ·simp;omega
 ·simp
theorem upS_len(L:List Nat):(upS L).length≤L.length:=by
 have h:=qFF L;unfold upS;split
 ·simp;omega
 ·exact h
theorem qAD(L:List Nat):(toL (qK L).2.1).length≤L.length+1∧(toL (qK L).2.2.1).length≤L.length+1:=by
 have h1:=upS_len L;have h2:=lower_len L;unfold qK;by_cases c1:wK0 (upS L)=true
 ·simp[c1,wT]
 ·by_cases c2:wK0 (lower L)=true
  ·simp[c1,c2,wT]
  ·have h3:=wX5 _ c1;have h4:=wX5 _ c2;rw[if_neg c1,if_neg c2];split
   ·simp[wT]
   ·split
    ·simp[wT]
    ·exact⟨pD h3 (by omega),pD h4 (by omega)⟩
theorem Spoiled.box{S:Nat→Prop}{w w':World}(h:Spoiled S w w'){g:Nat}{T:TypeId}{cs:List Value}(hb:wO w g T cs)(hS:¬S g):wO w' g T cs:=hb.keep (h.block g hb.lt hS)
theorem Spoiled.limbs{S:Nat→Prop}{w w':World}(h:Spoiled S w w'){lo hi:Nat}{v:Value}{xs:List Nat}(hx:wG lo hi w v xs)(hh:hi≤w.heap.size)(hS:∀b,lo≤b→b<hi→¬S b):wG lo hi w' v xs:=
 hx.keep fun b h1 h2=>h.block b (by omega) (hS b h1 h2)
theorem txt_size(L:List Nat):(txt L).size≤4*L.length:=encB_len L
theorem kF.base1{B B':Nat}{w:World}{v:Value}{out:List (Bool×List Nat×Bool×List Nat)}(h:kF B w v out)(hB:B'≤B):kF B' w v out:=by obtain⟨cs,h1,h2,h3,h4⟩:=h;exact⟨cs,wHG h1 hB,h2,h3,fun i x c hx hc=>(h4 i x c hx hc).wide hB (pC _)⟩
def RowOwn(w w':World)(e:Ending)(x:List (Bool×List Nat×Bool×List Nat)×Nat×Nat):Prop:=
 ∃r,e=.returned (.tuple #[r,.int .i64 (x.2.1:Nat),.int .i64 (x.2.2:Nat)])∧kF w.heap.size w' r x.1
theorem row_own(s:ByteArray)(w:World)(hs:s.size≤400000000) :
  Calls Tryz.prog 21 #[.string s] w fun e w'=>Below w.heap.size w w'∧RowOwn w w' e (rowOf s):=by
 have q0:=pieces_any s w hs;have hpl:=qD9 s;have hps:=wF7 s (qN s 0) none;have hP0:pcs s none (qN s 0)=y3 s:=rfl;rw[hP0]at hps;unfold rowOf;revert q0 hpl hps;generalize y3 s=P;intro q0 hpl hps;obtain⟨X,hX⟩:∃X,wGF true [] P=X:=⟨_,rfl⟩
 have HX:=hid hX;have HPS:=hid hps;have Q0:=hid q0;rw[hX];clear hX hP0 q0 hps
 go_enter Tryz.func21,Tryz.ntmps21
 go_wp2_with fail
 refine Q0.out.mono ?_;rintro e w1 ⟨hb1,r,rfl,hrow⟩;obtain⟨ad,cap,rfl⟩:=hrow.shape;have HROW:=hid hrow;clear Q0 hrow
 go_wp2
 go_loopg [5,15] P.length (fun gk ov t wr=>∃(k:Nat)(out:List (Bool×List Nat×Bool×List Nat)),gk=P.length-k∧t=.int .i64 k∧k≤P.length∧kF w1.heap.size wr ov out∧Below w1.heap.size w1 wr ∧
   wGF (wXH P k) out (P.drop k)=X∧out.length≤k)
 case atStart=>exact⟨0,[],by omega,rfl,pG _,kF.nil,Below.refl _ _,HX.out,pC _⟩
 case round=>
  obtain⟨k,out,hgk,rfl,hk,hout,hbel,hgo,hol⟩:=hrel;have HGK:=hid hgk;have HGO:=hid hgo;have HOUT:=hid hout;clear hgk hgo hout;by_cases hkl:k<P.length
  ·obtain⟨⟨wd,cm⟩,hx⟩:∃x,P[k]? = some x:=⟨_,pK hkl⟩
   obtain⟨b,off,cap',cs,hsh,hcap,_,hbw,_,hcs,hcell⟩:=HROW.out.at k _ hx;simp only[Value.slice.injEq,true_and]at hsh;obtain⟨rfl,rfl⟩:=hsh;have hcs:cs=wL3 (wd,cm):=hcs;subst hcs;have d0:wr.cell? ⟨b,off+k*2,none⟩=some (.string wd):=(hbel.cell (p:=⟨b,off+k*2,none⟩) hbw).trans (hcell 0 (by decide));have d1:wr.cell? ⟨b,off+k*2+1,none⟩=some (.bool cm):=(hbel.cell (p:=⟨b,off+k*2+1,none⟩) hbw).trans (hcell 1 (by decide));have hB0:0<w1.heap.size:=by omega
   have hdrop:=drop_at P k _ hx;have hgo:=HGO.out;rw[hdrop]at hgo;have f1:(k:Int)<(P.length:Int):=by omega
   have hwd:wd.size≤s.size:=HPS.out _ (pE hx);have HX1:=hid hx;have hB:=hbel.alloc hbel.size (.cells #[.string wd,.bool cm] 104);obtain⟨hal,bp,hsz⟩:=boxA wr #[.string wd,.bool cm] 104;clear hcell hdrop hx HX;cases cm
   ·rw [wGF]at hgo;obtain⟨⟨ng,N,M,ce⟩,hy⟩:∃x,qK (wD wd)=x:=⟨_,rfl⟩
    rw[hy]at hgo;have q1:∀w,Calls Tryz.prog 45 #[.string wd] w fun e w'=>Below w.heap.size w w'∧qK9 w w' e ng N M ce:=fun w=>readsFracB wd w (by omega) ng N M ce hy;have Q1:=hid q1;obtain⟨e0,e1,j0,j1⟩:=bp.two;have HG:=hid hgo;clear q1 hy hgo HGO
    go_wp2_with fail
    refine(Q1.out _).mono ?_;rintro e w2 ⟨hb2,ad4,cap4,ae4,cbp4,rfl,hq,hp⟩;have hC:=hB.trans (hb2.mono (pD hbel.size hal.size));have hs2:=hb2.size;have hout2:=(HOUT.out.later hal).later hb2;obtain⟨hal2,bf2,hsz2⟩:=boxA w2 #[.bool ng,.slice ad4 (toL N).length cap4,.bool false,.slice ae4 (toL M).length cbp4] 43;have hD:=hC.alloc hC.size (.cells #[.bool ng,.slice ad4 (toL N).length cap4,.bool false,.slice ae4 (toL M).length cbp4] 43);have hq2:=(hq.below hal2 (pC _)).wide (lo':=w1.heap.size) (hi':=(w2.alloc (.cells #[.bool ng,.slice ad4 (toL N).length cap4,.bool false,.slice ae4 (toL M).length cbp4] 43)).heap.size) (pD hbel.size hal.size) (by rw[hsz2];omega);have hp2:=(hp.below hal2 (pC _)).wide (lo':=w1.heap.size) (hi':=(w2.alloc (.cells #[.bool ng,.slice ad4 (toL N).length cap4,.bool false,.slice ae4 (toL M).length cbp4] 43)).heap.size) (pD hbel.size hal.size) (by rw[hsz2];omega)
    obtain⟨ad5,cap5,rfl⟩:=HOUT.out.shape;obtain⟨cs,hown,hcl,hc4,hR⟩:=hout2.later hal2;obtain⟨W3,hW3⟩:∃W,w2.alloc (.cells #[.bool ng,.slice ad4 (toL N).length cap4,.bool false,.slice ae4 (toL M).length cbp4] 43)=W:=⟨_,rfl⟩
    rw[hW3]at hD hq2 hp2 bf2 hown hR;obtain⟨⟨m0,m1,m2,m3⟩,n0,n1,n2,n3⟩:=bf2.four;clear Q1 hq hp bp bf2 e0 e1 j0 j1 HOUT hout2 hb2 hB hC hal2 hsz2;by_cases hce:ce=0
    ·subst hce;have hg2:=HG.out;rw[if_neg (by simp)]at hg2;have HG2:=hid hg2;have HOWN:=hid hown;have HQ:=hid hq2;have HP:=hid hp2;have HR:=hid hR;clear HG hg2 hown hq2 hp2 hR
     go_wp2_with (at_builtin;go_loud (refine zO elemRat rfl _ _ rfl w1.heap.size out.length 1 1 _ cs.flatten #[.bool ng,.slice ad4 (toL N).length cap4,.bool false,.slice ae4 (toL M).length cbp4] HOWN.out rfl rfl rfl (by simp[Value.oneCell']) (by omega) (by decide) (by unfold maxLen;omega) hD hD.size ?_))
     intro g6 c6 w6 ho6 hb6 hg6;have hsn:=kF.snoc (x:=xS (ng,N,M,0)) hB0 HOWN.out hcl hc4 HR.out HQ.out HP.out ho6 hg6;have HSN:=hid hsn;clear hsn ho6 hg6
     go_wp2
     go_roundg (P.length-(k+1))
     case measure=>have:=HGK.out;omega
     case rel=>
      refine⟨k+1,_,rfl,by go_num,by omega,HSN.out,hb6,?_,by simp;omega⟩;rw[←HG2.out]
      have:wXH P (k+1)=false:=by unfold wXH;simp[List.getD_eq_getElem?_getD,HX1.out]
      rw[this]
    ·have hg2:=HG.out;rw[if_pos hce]at hg2;have hne:(((ce:Nat):Int)==0)=false:=by simp;omega
     have HG2:=hid hg2;have HD:=hid hD;clear HG hg2 hD hown hR hq2 hp2
     go_wp2
     go_ret3
     rw[←HG2.out];exact⟨hb1.trans (HD.out.mono hb1.size),_,rfl,kF.nil⟩
   ·rw [wGF]at hgo;have HG:=hid hgo;obtain⟨e0,e1,j0,j1⟩:=bp.two;have HB:=hid hB;clear hgo HGO bp hal hB hsz;rcases mI k with hk0|hk0
    ·subst hk0;have hg2:=HG.out;rw[if_pos (.inl (by rfl))]at hg2;have HG2:=hid hg2;clear HG hg2;obtain⟨ad5,cap5,rfl⟩:=HOUT.out.shape;simp only[Nat.zero_mul,Nat.add_zero]at d0 d1
     go_wp2
     go_ret3
     rw[←HG2.out];exact⟨hb1.trans (HB.out.mono hb1.size),_,rfl,kF.nil⟩
    ·obtain⟨j,rfl⟩:∃j,k=j+1:=⟨k-1,by omega⟩
     obtain⟨⟨wd2,cm2⟩,hx2⟩:∃x,P[j]? = some x:=⟨_,pK (by omega)⟩
     obtain⟨b',off',cap'',cs2,hsh2,_,_,hbw2,_,hcs2,hcell2⟩:=HROW.out.at j _ hx2;simp only[Value.slice.injEq,true_and,Option.some.injEq,Addr.mk.injEq,and_true]at hsh2;obtain⟨⟨rfl,rfl⟩,rfl⟩:=hsh2;have hcs2:cs2=wL3 (wd2,cm2):=hcs2;subst hcs2;have d2:wr.cell? ⟨b,off+j*2+1,none⟩=some (.bool cm2):=(hbel.cell (p:=⟨b,off+j*2+1,none⟩) hbw2).trans (hcell2 1 (by decide));have d3:(wr.alloc (.cells #[.string wd,.bool true] 104)).cell? ⟨b,off+j*2+1,none⟩=some (.bool cm2):=by rw[World.cell?_of_block (Below.heap_alloc wr _ b (pT hbw2 hbel.size))];exact d2
     have hbad:wXH P (j+1)=cm2:=by unfold wXH;simp[List.getD_eq_getElem?_getD,hx2]
     rw[hbad]at HG;clear hcell2 hx2 hbad;cases cm2
     ·by_cases hlast:j+2=P.length
      ·have hg2:=HG.out;rw[if_pos (.inr (by rw[fE];omega))]at hg2;have HG2:=hid hg2;have hl1:((j:Int)+1==(P.length:Int)-1)=true:=by simp;omega
       clear HG hg2 hlast;obtain⟨ad5,cap5,rfl⟩:=HOUT.out.shape
       go_wp2
       go_ret3
       rw[←HG2.out];exact⟨hb1.trans (HB.out.mono hb1.size),_,rfl,kF.nil⟩
      ·have hg2:=HG.out;rw[if_neg (by simp[List.drop_eq_nil_iff];omega)]at hg2;have HG2:=hid hg2;have hl1:((j:Int)+1==(P.length:Int)-1)=false:=by simp;omega
       have hout2:=hid (HOUT.out.later ((boxA wr #[.string wd,.bool true] 104).1));clear HG hg2
       go_wp2
       go_roundg (P.length-(j+2))
       case measure=>have:=HGK.out;omega
       case rel=>
        refine⟨j+2,out,rfl,by go_num,by omega,hout2.out,HB.out,?_,by omega⟩;rw[←HG2.out]
        have:wXH P (j+2)=true:=by unfold wXH;simp[List.getD_eq_getElem?_getD,HX1.out]
        rw[this]
     ·have hg2:=HG.out;rw[if_pos (.inl (by rfl))]at hg2;have HG2:=hid hg2;clear HG hg2;obtain⟨ad5,cap5,rfl⟩:=HOUT.out.shape
      go_wp2
      go_ret3
      rw[←HG2.out];exact⟨hb1.trans (HB.out.mono hb1.size),_,rfl,kF.nil⟩
  ·obtain rfl:k=P.length:=by omega
   have hgo:=HGO.out;rw[bA,wGF]at hgo;obtain⟨ad5,cap5,rfl⟩:=HOUT.out.shape;have HG:=hid hgo;clear hgo
   go_wp2
   go_ret3
   rw[←HG.out];exact⟨hb1.trans (hbel.mono hb1.size),_,rfl,kF.base1 HOUT.out hb1.size⟩
theorem runes_44:wD ⟨#[44]⟩=[44]:=by rw[vU];decide
theorem runes_59:wD ⟨#[59,10]⟩=[59,10]:=by rw[vU];decide
theorem qH6:(fun r=>(wD ⟨#[44]⟩).contains r)=qX:=by funext r;rw[runes_44];unfold qX;rw[bH];simp
theorem parts_end:(fun r=>(wD ⟨#[59,10]⟩).contains r)=zH:=by funext r;rw[runes_59];unfold zH;rw[bH];simp
theorem wordsL_mem(L x:List Nat)(h:x∈kO L):(∀r,r∈x→r∈L)∧x.length≤L.length:=by
 have key:∀(L:List Nat)(st:List (List Nat)×List Nat)(P:Nat→Prop)(n:Nat),(∀y,y∈st.1→(∀r,r∈y→P r)∧y.length≤n)→(∀r,r∈st.2→P r)→st.2.length+L.length≤n→(∀r,r∈L→x8 r=false→P r)→
   (∀y,y∈(L.foldl j8 st).1→(∀r,r∈y→P r)∧y.length≤n):=by
  intro L
  induction L with
  |nil=>intro st P n h1 _ _ _;exact h1
  | cons r L ih=>
   intro st P n h1 h2 h3 h4;rw[cY];simp only[List.length_cons]at h3;by_cases hg:x8 r=true
   ·have e:j8 st r=(if st.2=[]then st.1 else st.1++[st.2],[]):=if_pos hg;rw[e];refine ih _ P n ?_ (by simp) (by simp;omega) (fun x hx=>h4 x (pO _ hx));dsimp only;intro y hy;split at hy
    ·exact h1 y hy
    ·rcases cB.1 hy with h|h
     ·exact h1 y h
     ·simp only[List.mem_singleton]at h;rw[h];exact⟨h2,by omega⟩
   ·have e:j8 st r=(st.1,st.2++[r]):=if_neg hg;rw[e];refine ih _ P n h1 ?_ (by simp;omega) (fun x hx=>h4 x (pO _ hx));dsimp only;intro x hx;rcases cB.1 hx with h|h
    ·exact h2 x h
    ·simp only[List.mem_singleton]at h;rw[h];exact h4 r (pQ ..) (by simpa using hg)
 have hh:∀y,y∈((L++[32]).foldl j8 ([],[])).1→(∀r,r∈y→r∈L)∧y.length≤L.length+1:=by
  refine key (L++[32]) ([],[]) (fun r=>r∈L) (L.length+1) (by simp) (by simp) (by simp) ?_;intro r hr hg;rcases cB.1 hr with h|h
  ·exact h
  ·simp only[List.mem_singleton]at h;subst h;exact absurd hg (by decide)
 have h0:x∈((L++[32]).foldl j8 ([],[])).1:=h;obtain⟨h1,h2⟩:=hh x h0;refine⟨h1,?_⟩;have key2:∀y,y∈((L++[32]).foldl j8 ([],[])).1→y.length≤L.length:=by
  rw[List.foldl_append];intro y hy;have h3:=wKH L;have e:List.foldl j8 (L.foldl j8 ([],[])) [32]=j8 (zJ L) 32:=rfl;rw[e]at hy;have hk:=key L ([],[]) (fun _=>True) L.length (by simp) (by simp) (by simp) (by simp);have e2:j8 (zJ L) 32=(if(zJ L).2=[]then(zJ L).1 else(zJ L).1++[(zJ L).2],[]):=if_pos (by decide);rw[e2]at hy;dsimp only at hy;split at hy
  ·exact(hk y hy).2
  ·rcases cB.1 hy with h|h
   ·exact(hk y h).2
   ·simp only[List.mem_singleton]at h;rw[h];omega
 exact key2 x h0
theorem wTD(L:List Nat):(kO L).length≤L.length+1:=by have:=wKH (L++[32]);simp only[List.length_append,List.length_cons,List.length_nil]at this;unfold kO;omega
theorem qJ2:Elem Tryz.prog 38 41 (.slice none 0 0) 1 24:=
 ⟨Tryz.underlying38,by kernel_rfl,rfl,by decide⟩
def y8(lo hi:Nat)(w:World)(v:Value)(out:List Fr):Prop:=
 ∃cs:List (List Value),w.ownsRow lo 43 4 v out.length cs.flatten∧(∀b,v.ownBlock=some b→b<hi)∧cs.length=out.length∧(∀c,c∈cs→c.length=4) ∧
  ∀(i:Nat)(x:Fr)(c:List Value),out[i]? = some x→cs[i]? = some c→kN lo hi w x c
theorem y8.ofOut{B:Nat}{w:World}{v:Value}{out:List Fr}(h:kF B w v out):y8 B w.heap.size w v out:=by obtain⟨cs,h1,h2,h3,h4⟩:=h;exact⟨cs,h1,fun b hb=>(h1.lt b hb).2,h2,h3,h4⟩
theorem y8.wide{lo hi lo' hi':Nat}{w:World}{v:Value}{out:List Fr}(h:y8 lo hi w v out)(h1:lo'≤lo)(h2:hi≤hi'):y8 lo' hi' w v out:=by obtain⟨cs,g1,g2,g3,g4,g5⟩:=h;exact⟨cs,wHG g1 h1,fun b hb=>pT (g2 b hb) h2,g3,g4,fun i x c hx hc=>(g5 i x c hx hc).wide h1 h2⟩
theorem y8.shape{lo hi:Nat}{w:World}{v:Value}{out:List Fr}(h:y8 lo hi w v out):∃ad cap,v=.slice ad out.length cap:=by obtain⟨cs,h1,_⟩:=h;exact vW h1
theorem y8.grown{lo hi:Nat}{w w':World}{v:Value}{out:List Fr}{row:Option Nat}(h:y8 lo hi w v out)(h0:0<lo)(hg:w.grownBy w' row)(hr:∀g,row=some g→hi≤g∨∃c T f,w.heap[g]? = some (.cells c T f)∧T≠66∧T≠43):y8 lo hi w' v out:=by
 obtain⟨cs,g1,g2,g3,g4,g5⟩:=h;refine⟨cs,g1.kept hg ?_,g2,g3,g4,fun i x c hx hc=>?_⟩
 ·by_cases hv:v.ownBlock=none
  ·exact .inl hv
  ·right;intro e;obtain⟨g,hgg⟩:=bX.1 hv;obtain⟨c1,e1⟩:=yL g1 g hgg;rcases hr g (e ▸ hgg)with h3|⟨c,T,f,e2,_,e3⟩
   ·have:=g2 g hgg;omega
   ·rw[e1]at e2;simp at e2;exact e3 e2.2.1.symm
 ·obtain⟨q,p,rfl,hq,hp⟩:=g5 i x c hx hc;have hl:∀{u:Value}{xs:List Nat},wG lo hi w u xs→wG lo hi w' u xs:=fun {u xs} h=>by
   obtain⟨ad,cap,hv,hc,hn,hx,hne⟩:=h;refine⟨ad,cap,hv,hc,hn,hx,fun hp=>?_⟩;obtain⟨b,off,ha,hlb,hhb,hcell,hu⟩:=hne hp;obtain⟨cur,hb⟩:=hu h0;have hk:w'.heap[b]? = w.heap[b]?:=by
    refine hg.block b (pU.1 hb).1 fun e=>?_;rcases hr b e.symm with h3|⟨c,T,f,e2,e3,_⟩
    ·omega
    ·rw[hb]at e2;simp at e2;exact e3 e2.2.1.symm
   exact⟨b,off,ha,hlb,hhb,fun i hi=>(World.cell?_of_block hk).trans (hcell i hi),fun _=>⟨cur,hk.trans hb⟩⟩
  exact⟨q,p,rfl,hl hq,hl hp⟩
theorem y8.later{lo hi:Nat}{w w':World}{v:Value}{out:List Fr}(h:y8 lo hi w v out)(h0:0<lo)(hb:Below w.heap.size w w'):y8 lo hi w' v out:=
 h.grown (row:=none) h0 ⟨hb.os,hb.tape,hb.output,hb.size,fun k hk _=>hb.block k hk⟩ (fun g e=>by cases e)
theorem y8.fracs{lo hi:Nat}{w:World}{v:Value}{out:List Fr}(h:y8 lo hi w v out)(hh:hi≤w.heap.size):wA0 lo w.heap.size w v out:=by obtain⟨cs,g1,g2,g3,g4,g5⟩:=h;exact kK.ofOwn (by decide) g1 g3 g4 (fun i x c hx hc=>(g5 i x c hx hc).wide (pC _) hh)
def kA(B:Nat)(w:World)(v:Value)(m:List (List Fr))(rs:List Value)(f:Nat→Nat):Prop:=
 w.ownsRow B 41 1 v m.length rs∧rs.length=m.length∧B≤f 0∧(∀i,f i≤f (i+1))∧f m.length≤w.heap.size ∧
  ∀(i:Nat)(x:List Fr)(r:Value),m[i]? = some x→rs[i]? = some r→y8 (f i) (f (i+1)) w r x
theorem kA.mono{B:Nat}{w:World}{v:Value}{m:List (List Fr)}{rs:List Value}{f:Nat→Nat}(h:kA B w v m rs f):∀i j,i≤j→f i≤f j:=by
 intro i j hij;obtain⟨d,rfl⟩:=Nat.exists_eq_add_of_le hij
 induction d with
 |zero=>exact pC _
 |succ d ih=>exact pD (ih (by omega)) (h.2.2.2.1 _)
theorem kA.nil{B:Nat}{w:World}(hB:B≤w.heap.size):kA B w (.slice none 0 0) [] [] (fun _=>B):=
 ⟨World.ownsRow_nil _ _ _ _,rfl,pC _,fun _=>pC _,hB,by simp⟩
theorem kA.grown{B:Nat}{w w':World}{v:Value}{m:List (List Fr)}{rs:List Value}{f:Nat→Nat}{row:Option Nat}(h:kA B w v m rs f)(h0:0<B)(hg:w.grownBy w' row)(hr:∀g,row=some g→∃c T f,w.heap[g]? = some (.cells c T f)∧T≠66∧T≠43∧T≠41):kA B w' v m rs f:=by
 have hm:=h.mono;obtain⟨h1,h2,h3,h4,h5,h6⟩:=h;refine⟨h1.kept hg ?_,h2,h3,h4,pD h5 hg.size,fun i x r hx hrr=>(h6 i x r hx hrr).grown (by have:=hm 0 i (pG _);omega) hg fun g e=>?_⟩
 ·by_cases hv:v.ownBlock=none
  ·exact .inl hv
  ·right;intro e;obtain⟨g,hgg⟩:=bX.1 hv;obtain⟨c1,e1⟩:=yL h1 g hgg;obtain⟨c,T,f,e2,_,_,e3⟩:=hr g (e ▸ hgg);rw[e1]at e2;simp at e2;exact e3 e2.2.1.symm
 ·obtain⟨c,T,f,e2,e3,e4,_⟩:=hr g e;exact .inr ⟨c,T,f,e2,e3,e4⟩
theorem kA.later{B:Nat}{w w':World}{v:Value}{m:List (List Fr)}{rs:List Value}{f:Nat→Nat}(h:kA B w v m rs f)(h0:0<B)(hb:Below w.heap.size w w'):kA B w' v m rs f:=
 h.grown (row:=none) h0 ⟨hb.os,hb.tape,hb.output,hb.size,fun k hk _=>hb.block k hk⟩ (fun g e=>by cases e)
theorem kA.one{B:Nat}{w:World}{v:Value}{m:List (List Fr)}{rs:List Value}{f:Nat→Nat}(h:kA B w v m rs f):∀u,u∈rs→u.oneCell'=true:=by intro u hu;obtain⟨i,hi,rfl⟩:=pC1.1 hu;have h1:=h.2.1;obtain⟨ad,cap,e⟩:=(h.2.2.2.2.2 i _ _ (pK (by omega)) (pK hi)).shape;rw[e];rfl
theorem kA.snoc{B:Nat}{w w2 w6:World}{vo v' r:Value}{m:List (List Fr)}{x:List Fr}{rs:List Value}{f:Nat→Nat}(h:kA B w vo m rs f)(h0:0<B)(hb:Below w.heap.size w w2)(hr:kF w.heap.size w2 r x)(ho:w6.ownsRow B 41 1 v' (m.length+1) (rs++[r]))(hg:(w2.alloc (.cells #[r] 41)).grownBy w6 vo.ownBlock) :
  ∃f',kA B w6 v' (m++[x]) (rs++[r]) f':=by
 have hm:=h.mono;have hl2:=h.later h0 hb;have hal:Below w2.heap.size w2 (w2.alloc (.cells #[r] 41)):=(Below.refl _ _).alloc (pC _) _;have hl3:=hl2.later h0 hal;have hty:∀g,vo.ownBlock=some g→∃c T f,(w2.alloc (.cells #[r] 41)).heap[g]? = some (.cells c T f)∧T≠66∧T≠43:=fun g e=>by obtain⟨c,hc⟩:=yL hl3.1 g e;exact⟨c,_,_,hc,by decide,by decide⟩
 have hs6:w2.heap.size≤w6.heap.size:=pD hal.size hg.size;obtain⟨h1,h2,h3,h4,h5,h6⟩:=h;have hfm:f m.length≤w2.heap.size:=pD h5 hb.size;refine⟨fun i=>if i≤m.length then f i else w2.heap.size,by simpa using ho,by simp[h2],?_,?_,?_,?_⟩
 ·simpa using h3
 ·intro i;dsimp only;split
  ·split
   ·exact h4 i
   ·exact pD (hm i m.length (by omega)) hfm
  ·split
   ·omega
   ·exact pC _
 ·simp only[List.length_append,List.length_cons,List.length_nil];rw[if_neg (by omega)];exact hs6
 ·intro i y u hy hu;dsimp only;rcases pL i m.length with hi|hi
  ·rw[cD hi]at hy;rw[cD (by omega)]at hu;rw[if_pos (by omega),if_pos (by omega)];exact(hl3.2.2.2.2.2 i y u hy hu).grown (by have:=hm 0 i (pG _);omega) hg fun g e=>.inr (hty g e)
  ·rw[cC hi]at hy;rw[cC (by omega),h2]at hu;obtain⟨j,hj⟩:∃j,i-m.length=j:=⟨_,rfl⟩
   rw[hj]at hy hu;cases j with
   |zero=>
    simp only[List.getElem?_cons_zero,Option.some.injEq]at hy hu;subst hy hu;have e:i=m.length:=by omega
    subst e;rw[if_pos (pC _),if_neg (by omega)];have hw0:0<w.heap.size:=by have:=hm 0 m.length (pG _);omega
    exact(((y8.ofOut hr).later hw0 hal).grown hw0 hg fun g e=>.inr (hty g e)).wide h5 (pC _)
   |succ j=>simp at hy
def vK(B:Nat)(w:World)(v:Value)(m:List (List Fr)):Prop:=∃rs f,kA B w v m rs f
theorem vK.shape{B:Nat}{w:World}{v:Value}{m:List (List Fr)}(h:vK B w v m):∃ad cap,v=.slice ad m.length cap:=by obtain⟨rs,f,h1,_⟩:=h;exact vW h1
theorem vK.later{B:Nat}{w w':World}{v:Value}{m:List (List Fr)}(h:vK B w v m)(h0:0<B)(hb:Below w.heap.size w w'):vK B w' v m:=by obtain⟨rs,f,h1⟩:=h;exact⟨rs,f,h1.later h0 hb⟩
theorem vK.base{B B':Nat}{w:World}{v:Value}{m:List (List Fr)}(h:vK B w v m)(hB:B'≤B):vK B' w v m:=by obtain⟨rs,f,h1,h2,h3,h4⟩:=h;exact⟨rs,f,wHG h1 hB,h2,pD hB h3,h4⟩
theorem vK.nil{B:Nat}{w:World}(hB:B≤w.heap.size):vK B w (.slice none 0 0) []:=⟨_,_,kA.nil hB⟩
def SesTold(w w':World)(e:Ending)(x:List (List Fr)×Bool×Bool):Prop:=∃r,e=.returned (.tuple #[r,.bool x.2.1,.bool x.2.2])∧vK w.heap.size w' r x.1
theorem lines_at(s:ByteArray)(k:Nat)(t:ByteArray)(h:(wI7 s)[k]? = some t):(wR zH (wD s))[k]? = some (wD t)∧t.size≤s.size:=by refine⟨?_,lines_size s t (pE h)⟩;rw[←wRD,pW,h];rfl
set_option maxRecDepth 100000 in
theorem cells_any(s:ByteArray)(w:World)(hs:s.size≤1048576)(m:Int)(hm:w.cell? ⟨0,0,none⟩=some (.int .i64 m))(hT:Lib.Utf8Tabs 1 2 w) :
  Calls Tryz.prog 9 #[.string s] w fun e w'=>Below w.heap.size w w'∧SesTold w w' e (wGD [] false (wR zH (wD s))):=by
 have h20:0<w.heap.size:=World.block_lt_of_cell? w ⟨0,0,none⟩ hm;have hlo:=qC3 hT;have hFt:=lines_at s;have hLl:=lines_len s;have hRe:=fun c hc=>wC9 zH (wD s) c hc;have hCl:(wI7 s).length=(wR zH (wD s)).length:=by rw[←wRD,pF]
 obtain⟨C,hC⟩:∃C,wR zH (wD s)=C:=⟨_,rfl⟩
 rw[hC]at hFt hCl hRe ⊢;obtain⟨X,hX⟩:∃X,wGD [] false C=X:=⟨_,rfl⟩
 rw[hX];have c1:Lib.countB s ⟨#[10]⟩≤s.size:=Lib.countB_le ⟨#[10]⟩ (by decide) s.size s (pC _);have Q1:=hid (Tryz.strings_ReplaceAll s ⟨#[10]⟩ ⟨#[59]⟩ m w (by omega) hm (by decide) (by show _+_*1≤_;omega));obtain⟨s1,hs1⟩:∃s1,(⟨(Lib.replaceAll s.data.toList (⟨#[10]⟩:ByteArray).data.toList (⟨#[59]⟩:ByteArray).data.toList).toArray⟩:ByteArray)=s1:=⟨_,rfl⟩
 rw[hs1]at Q1;have hl1:s1.size=s.size:=by rw[←hs1];show((Lib.replaceAll s.data.toList [10] [59]).toArray).size=_;rw[wHD,fS,put_len,mN];rfl
 obtain⟨FL,hFL⟩:∃FL,wI7 s=FL:=⟨_,rfl⟩
 have hsp:Lib.splitB ⟨#[59]⟩ 0 (Lib.countB s1 ⟨#[59]⟩) s1=FL:=by rw[←hFL,←hs1];rfl
 have hcn:Lib.countB s1 ⟨#[59]⟩ + 1=FL.length:=by rw[←hsp,Lib.splitB_all ⟨#[59]⟩ (by decide) 0 _ s1 rfl]
 rw[hFL]at hFt hLl hCl;have Q2:=hid fun(w1:World)(hm1:w1.cell? ⟨0,0,none⟩=some (.int .i64 m))=>Tryz.strings_Split s1 ⟨#[59]⟩ m w1 (by omega) hm1 (by decide);rw[hsp,hcn]at Q2;have HX:=hid hX;have HFT:=hid hFt;have HRE:=hid hRe;have HM:=hid hm;have HT:=hid hT;have HCL:=hid hCl;have hFle:FL.length≤1048577:=by omega
 clear hC hX hFt hRe hm hT hs1 hl1 hsp hcn hFL c1 hLl hCl
 go_enter Tryz.func9,Tryz.ntmps9
 go_wp2_with fail
 refine Q1.out.mono ?_;clear Q1;rintro e w0 ⟨rfl,hb0⟩;have Q2':=hid (Q2.out w0 ((hb0.cell (p:=⟨0,0,none⟩) h20).trans HM.out));clear Q2
 go_wp2_with fail
 refine Q2'.out.mono ?_;clear Q2';rintro e w1 ⟨rfl,hw1⟩;have hrow:w1.heap[w0.heap.size]? = some (.cells (FL.map Value.string).toArray 9 (0,0)):=by rw[hw1];exact heap_alloc_new w0 _
 have hb1:Below w.heap.size w w1:=by rw[hw1];exact hb0.alloc hb0.size _
 have hlt1:w0.heap.size<w1.heap.size:=(pU.1 hrow).1;generalize w0.heap.size=A at *
 have HROW:=hid hrow;have HB:=hid hb1;clear hb0 hw1 hrow hb1
 go_wp2
 have hB0:0<w1.heap.size:=by omega
 go_loopw [2,3,15] (fun ov lv iv wr=>∃(k:Nat)(out:List (List Fr))(lg:Bool),iv=.int .i64 k∧lv=.bool lg∧k≤FL.length∧vK w1.heap.size wr ov out∧Below w1.heap.size w1 wr∧wGD out lg (C.drop k)=X∧out.length=k)
  (fun _ _ iv _=>FL.length-(RowKit.intOf iv).toNat)
 case atStart=>exact⟨0,[],false,rfl,rfl,pG _,vK.nil (pC _),Below.refl _ _,HX.out,rfl⟩
 case round=>
  obtain⟨wo,hwo⟩:∃wo,wo=wr:=⟨_,rfl⟩
  subst hwo;obtain⟨k,out,lg,rfl,rfl,hk,hout,hbel,hgo,hol⟩:=hrel;have HGO:=hid hgo;have HOUT:=hid hout;have HOL:=hid hol;have hol2:out.length≤1048577:=by omega
  clear hgo hout hol;obtain⟨ado,co,hos⟩:=HOUT.out.shape;subst hos;by_cases hkl:k<FL.length
  ·obtain⟨t0,ht0⟩:∃t,FL[k]? = some t:=⟨_,pK hkl⟩
   obtain⟨hc,htz⟩:=HFT.out k t0 ht0;have hce:=HRE.out _ (pE hc);have d0:w1.cell? ⟨A,k,none⟩=some (.string t0):=by rw[cell_of_row w1 A k _ _ (0,0) HROW.out,List.getElem?_toArray,pW,ht0];rfl
   have d1:wo.cell? ⟨A,k,none⟩=some (.string t0):=(hbel.cell (p:=⟨A,k,none⟩) hlt1).trans d0;have hdrop:=drop_at C k _ hc;have hgo:=HGO.out;rw[hdrop,wGD]at hgo;obtain⟨c,hcc⟩:∃c,wD t0=c:=⟨_,rfl⟩
   rw[hcc]at hgo hce;have HGO1:=hid hgo;have HBEL:=hid hbel;have HCC:=hid hcc;have HCE:=hid hce;have f1:(k:Int)<(FL.length:Int):=by omega
   have hsb:=hbel.size;clear d0 hdrop hgo hc hce ht0 hcc hbel HGO
   go_wp2
   go_loopg [2,3,6] (wRC (qW none (wD t0))) (fun gk ov lv tv w3=>∃(t:ByteArray)(lg2:Bool),gk=wRC (qW none (wD t))∧ov=.slice ado out.length co∧tv=.string t∧lv=.bool lg2∧t.size≤1048576∧(∀r,r∈wD t→zH r=false) ∧
    (qW none (wD t)).map wLD=(qW none c).map wLD∧(lg2||anyL (qW none (wD t)))=(lg||longR c)∧Below wo.heap.size wo w3)
   case atStart=>exact⟨t0,lg,rfl,rfl,rfl,rfl,by omega,by rw[HCC.out];exact HCE.out,by rw[HCC.out],by rw[HCC.out];rfl,Below.refl _ _⟩
   case round=>
    obtain⟨t,lg2,hgk,rfl,rfl,rfl,htz2,hte,hfx,hany,hb3⟩:=hrel;have q1:=row_own t wr (by omega);rw[rowOf_R]at q1;obtain⟨⟨RL,RN,RC⟩,hy⟩:∃y,rowR (wD t)=y:=⟨_,rfl⟩
    rw[hy]at q1;have hdone:RC≠4→y5 c=(RL,RN,RC):=fun h=>by have:=line_done hfx (by rw[hy];exact h);rw[this,hy]
    have hnone:RC=0→anyL (qW none (wD t))=false:=fun h=>wY2 _ true [] (by show(rowR (wD t)).2.2=0;rw[hy];exact h)
    have hlong:=fun h:RC=4=>line_long hte (by rw[hy];exact h);rw[hy]at hlong;have HDONE:=hid hdone;have HNONE:=hid hnone;have HLONG:=hid hlong;have HTE:=hid hte;have HFX:=hid hfx;have HANY:=hid hany;have HGK:=hid hgk;have HB3:=hid hb3;have Q1:=hid q1;have hs3:=hb3.size;clear hy hdone hnone hlong hte hfx hany hgk hb3 q1
    go_wp2_with fail
    refine Q1.out.mono ?_;clear Q1;rintro e w3 ⟨hb4,r2,rfl,hr2⟩;obtain⟨ad2,cap2,rfl⟩:=hr2.shape;have HR2:=hid hr2;have HB4:=hid hb4;have HB34:=hid (HB3.out.trans (hb4.mono HB3.out.size));have HC:=hid (HBEL.out.trans (HB34.out.mono HBEL.out.size));clear hr2 hb4;by_cases hc0:RC=0
    ·subst hc0;have hgo:=HGO1.out;rw[HDONE.out (by decide),if_neg (by simp)]at hgo;have hlg:=HANY.out;rw[HNONE.out rfl,Bool.or_false]at hlg;rw[←hlg]at hgo;obtain⟨rs,f,hparts⟩:=HOUT.out.later hB0 HB3.out;have HG5:=hid hgo;have HPARTS:=hid hparts;have HOWN:=hid (hparts.later hB0 HB4.out).1;clear HGO1 HDONE HANY HNONE HLONG HFX HTE HGK hgo hlg hparts
     go_wp2_with (at_builtin;refine zO qJ2 rfl _ _ rfl w1.heap.size out.length 1 1 _ rs #[.slice ad2 RL.length cap2] HOWN.out rfl rfl rfl (by simp[Value.oneCell']) (by omega) (by decide) (by unfold maxLen;omega) HC.out HC.out.size ?_)
     intro g6 c6 w6 ho6 hb6 hg6;have hsn:=HPARTS.out.snoc hB0 HB4.out HR2.out (by simpa using ho6) hg6;have HSN:=hid hsn;have HB6:=hid hb6;clear hsn ho6 hb6 hg6
     go_wp2
     go_roundw
     case rel=>obtain⟨f',hf'⟩:=HSN.out;exact⟨k+1,out++[RL],lg2,by go_num,rfl,by omega,⟨_,_,by simpa using hf'⟩,HB6.out,HG5.out,by have:=HOL.out;simp;omega⟩
     case measure=>simp[RowKit.intOf];omega
    ·by_cases hc4:RC=4
     ·subst hc4;obtain⟨n,x,hn1,hx,g,ha,hfx2,hlt⟩:=HLONG.out rfl;have hnl:n<(zU t).length:=(pY.1 hx).1;have hT3:=Tabs.below HT.out (HB.out.trans (HC.out.mono HB.out.size)) hlo;have Q5:=hid (nought_any t n RN hn1 w3 (by omega) hnl hT3);have HA:=hid ha;have HN1:=hid hn1;have HFX2:=hid hfx2;have HLT:=hid hlt;have HX2:=hid hx;have HG:=hid g;clear hT3 ha hn1 hfx2 hlt hx g hnl HLONG HDONE HNONE HGO1
      go_wp2_with fail
      refine Q5.out.mono ?_;clear Q5;rintro e w4 ⟨hb5,he⟩;obtain rfl:=he x HX2.out;have HB5:=hid hb5;clear he hb5
      go_wp2
      go_roundg (wRC (qW none (wD (kC t x))))
      case measure=>have:=HGK.out;have:=HLT.out;omega
      case rel=>exact⟨kC t x,true,rfl,rfl,rfl,rfl,pD (qHE HG.out) htz2,qHF HG.out HTE.out,HFX2.out.trans HFX.out,by rw[pD9,←HANY.out,HA.out,Bool.or_true],HB34.out.trans (HB5.out.mono HB34.out.size)⟩
     ·have hgo:=HGO1.out;rw[HDONE.out hc4,if_pos hc0]at hgo;have HG5:=hid hgo;have hne:(((RC:Nat):Int)==0)=false:=by simp;omega
      have hne4:(((RC:Nat):Int) != 4)=true:=by simp;omega
      clear HGO1 HDONE HANY HNONE HLONG HFX HTE HGK hgo
      go_wp2
      go_ret3
      refine⟨HB.out.trans (HC.out.mono HB.out.size),?_⟩;rw[←HG5.out];exact⟨_,rfl,vK.nil (pD HB.out.size HC.out.size)⟩
  ·obtain rfl:k=FL.length:=by omega
   have hgo:=HGO.out;rw[HCL.out,bA,wGD]at hgo;have HG:=hid hgo;have HBEL:=hid hbel;clear hgo hbel
   go_wp2
   go_ret3
   refine⟨HB.out.trans (HBEL.out.mono HB.out.size),?_⟩;rw[←HG.out];exact⟨_,rfl,HOUT.out.base HB.out.size⟩
open Go.Ev Go.Vl
def rC(r:Nat):List V:=[V.int .i32 (r:Nat)]
def vR(L:List Nat):V:=.list (L.map rC)
def vRs(C:List (List Nat)):V:=.list (C.map fun L=>[vR L])
theorem qD4(L:List Nat):(L.map rC).length=L.length:=pF ..
theorem wN5(C:List (List Nat)):(C.map fun L=>[vR L]).length=C.length:=pF ..
theorem rC_flat(xs:List Nat):(xs.map rC).flatten=xs.map fun x=>V.int .i32 (x:Nat):=by
 induction xs with
 |nil=>rfl
 |cons x xs ih=>rw[mE,mT,ih];rfl
section
variable{S:Nat→Prop}{w:World}{v:Value}
theorem ints32:∀{xs:List Nat}{us:List Value},RepL S w (xs.map fun x=>V.int .i32 (x:Nat)) us→us=xs.map fun x=>Value.int .i32 (x:Nat)
 |[],us,h=>by cases h;rfl
 |x::xs,us,h=>by
  simp only[List.map_cons]at h;cases h with
  |cons h t=>cases h;rw[ints32 t];rfl
theorem wHI{xs:List Nat}(h:Rep S w (vR xs) v):zA .i32 0 w.heap.size w v xs:=by
 unfold vR at h;generalize hes:xs.map rC=es at h;cases h with
 |nils=>have:=congrArg List.length hes;rw[qD4]at this;obtain rfl:xs=[]:=pN this;exact zA.nil
 |emp p cap=>have:=congrArg List.length hes;rw[qD4]at this;obtain rfl:xs=[]:=pN this;exact⟨some p,cap,rfl,pG _,by simp,fun h=>absurd rfl h⟩
 |@list k _ us b off cap hk ho hc hl hb hu=>subst hes;rw[rC_flat]at hl;have e:=ints32 hl;rw[qD4]at hc ⊢;refine⟨_,cap,rfl,hc,by simp,fun hne=>?_⟩;have hb':=hb (by intro e;have:=congrArg List.length e;rw[qD4]at this;exact hne (pN this));refine⟨b,off,rfl,pG _,hb'.2,fun i hi=>?_⟩;refine hu i _ ?_;rw[e];simp[List.getElem?_eq_getElem hi,List.getD]
theorem qB5{α:Type}(f:α→List V)(sz b:Nat):∀(l:List α)(off:Nat),(∀(i:Nat)(x:α),l[i]? = some x→∃cs:List Value,cs.length=sz∧RepL S w (f x) cs∧∀j,j<sz→w.cell? ⟨b,off+i*sz+j,none⟩=cs[j]?)→
  ∃us,RepL S w (l.map f).flatten us∧∀j u,us[j]? = some u→w.cell? ⟨b,off+j,none⟩=some u
 |[],off,_=>⟨[],.nil,by simp⟩
 | x::l,off,h=>by
  obtain⟨cs,h1,h2,h3⟩:=h 0 x rfl;obtain⟨us,k1,k2⟩:=qB5 f sz b l (off+sz) fun i y hy=>by obtain⟨cs,h1,h2,h3⟩:=h (i+1) y hy;refine⟨cs,h1,h2,fun j hj=>?_⟩;rw[←h3 j hj,mY,gG];congr 2;omega
  refine⟨cs++us,by rw[mE,mT];exact h2.append k1,fun j u hj=>?_⟩;rcases pL j sz with hlt|hge
  ·rw[cD (by omega)]at hj;have:=h3 j hlt;rw[pB5,mJ]at this;rw[this,hj]
  ·rw[cC (by omega),h1]at hj;have:=k2 _ u hj
   rwa [show off+sz+(j-sz)=off+j by omega]at this
theorem wF5{α:Type}{sz:Nat}{R:World→α→List Value→Prop}{lo hi:Nat}{l:List α}(f:α→List V)(h:kK sz R lo hi w v l)(hhi:hi≤w.heap.size)(hS:∀b,lo≤b→b<w.heap.size→S b)(hf:∀x,(f x).length=sz)(ho:∀x,wX (f x)=true)(hR:∀x cs,R w x cs→RepL S w (f x) cs):Rep S w (.list (l.map f)) v:=by
 obtain⟨ad,cap,rfl,hc,hn,hne⟩:=h;by_cases he:l=[]
 ·subst he;cases ad with
  |none=>obtain rfl:=hn rfl;exact .nils
  |some p=>exact .emp p cap
 ·obtain⟨b,off,rfl,hl,hh,hcell⟩:=hne he;obtain⟨us,k1,k2⟩:=qB5 (S:=S) (w:=w) f sz b l off fun i x hx=>by
   obtain⟨cs,h1,h2,h3⟩:=hcell i x hx;exact⟨cs,h1,hR x cs h2,h3⟩
  have:=Rep.list (S:=S) (w:=w) (k:=sz) (es:=l.map f) (us:=us) (b:=b) (off:=off) (cap:=cap) (fun e he=>by
   obtain⟨x,_,rfl⟩:=pR.1 he;exact hf x) (fun e he=>by
   obtain⟨x,_,rfl⟩:=pR.1 he;exact ho x) (by rw[pF];exact hc) k1 (fun _=>⟨hS b hl (by omega),by omega⟩) k2
  rw[pF]at this;exact this
theorem wR5{lo hi:Nat}{xs:List Nat}(h:zA .i32 lo hi w v xs)(hhi:hi≤w.heap.size)(hS:∀b,lo≤b→b<w.heap.size→S b):Rep S w (vR xs) v:=by
 obtain⟨ad,cap,rfl,hc,hn,hne⟩:=h;refine wF5 (sz:=1) (R:=fun _ x cs=>cs=[Value.int .i32 (x:Nat)]) (lo:=lo) (hi:=hi) rC ⟨ad,cap,rfl,hc,hn,fun he=>?_⟩ hhi hS (fun _=>rfl) (fun _=>rfl) (fun x cs e=>by rw[e];exact .cons (.int _ _) .nil);obtain⟨b,off,rfl,hl,hh,hcell⟩:=hne he;refine⟨b,off,rfl,hl,hh,fun i x hx=>⟨_,rfl,rfl,fun j hj=>?_⟩⟩;obtain rfl:j=0:=by omega
 obtain⟨hi,rfl⟩:=pY.1 hx;rw[fV,mJ,hcell i hi];simp[List.getD,hi]
theorem wGH{lo hi:Nat}{C:List (List Nat)}(h:kU lo hi w v C)(hhi:hi≤w.heap.size)(hS:∀b,lo≤b→b<w.heap.size→S b):Rep S w (vRs C) v:=
 wF5 (fun L=>[vR L]) h hhi hS (fun _=>rfl) (fun _=>rfl) fun x cs ⟨r,e,hr⟩=>by rw[e];exact .cons (wR5 hr hhi hS) .nil
def qF(x:Fr):QQ:=((x.1,x.2.1),(x.2.2.1,x.2.2.2))
def qT(m:List (List Fr)):List (List QQ):=m.map fun r=>r.map qF
theorem wR6{lo hi:Nat}{x:Fr}{cs:List Value}(h:kN lo hi w x cs)(hhi:hi≤w.heap.size)(hS:∀b,lo≤b→b<w.heap.size→S b):RepL S w (kL (qF x)) cs:=by obtain⟨q,p,rfl,hq,hp⟩:=h;exact .cons (.bool _) (.cons (zM hq hhi hS) (.cons (.bool _) (.cons (zM hp hhi hS) .nil)))
theorem qD0{lo hi:Nat}{l:List Fr}(h:wA0 lo hi w v l)(hhi:hi≤w.heap.size)(hS:∀b,lo≤b→b<w.heap.size→S b):Rep S w (vQs (l.map qF)) v:=by
 have:=wF5 (fun x=>kL (qF x)) h hhi hS (fun _=>rfl) (fun _=>rfl) fun x cs h=>wR6 h hhi hS;unfold vQs
 rwa [bB]
theorem vK.rowOf{B:Nat}{m:List (List Fr)}(h:vK B w v m):kK 1 (fun w x cs=>∃r lo,cs=[r]∧B≤lo∧wA0 lo w.heap.size w r x) B w.heap.size w v m:=by
 obtain⟨rs,f,h⟩:=h;have hm:=h.mono;obtain⟨h1,h2,h3,h4,h5,h6⟩:=h;refine kK.ofOwn (cs:=rs.map fun r=>[r]) (by decide) (by
  have:(rs.map fun r=>[r]).flatten=rs:=by
   clear h1 h2 h6
   induction rs with
   |nil=>rfl
   |cons r rs ih=>rw[mE,mT,ih];rfl
  rw[this];exact h1) (by rw[pF,h2]) (fun x hx=>by
  obtain⟨r,_,rfl⟩:=pR.1 hx;rfl) fun i x c hx hc=>?_
 rw[pW]at hc;obtain⟨r,hr,rfl⟩:=bD.1 hc;have hfi:=hm 0 i (pG _);have hfe:=hm (i+1) m.length (pY.1 hx).1;exact⟨r,f i,rfl,by omega,(h6 i x r hx hr).fracs (by omega)⟩
theorem rep_of_mat{B:Nat}{m:List (List Fr)}(h:vK B w v m)(hS:∀b,B≤b→b<w.heap.size→S b):Rep S w (.list (wB6 (qT m))) v:=by
 have:=wF5 (S:=S) (fun r:List Fr=>[vQs (r.map qF)]) h.rowOf (pC _) hS (fun _=>rfl) (fun _=>rfl) fun x cs ⟨r,lo,e,hl,hr⟩=>by rw[e];exact .cons (qD0 hr (pC _) fun b h1 h2=>hS b (by omega) h2) .nil
 unfold wB6 qT
 rwa [bB]
end
theorem runes02_v(s:ByteArray)(hs:s.size≤1000000000):wJ Tryz.prog 30 [.str s] (fun y=>y=vR (wD s)):=by
 intro S w us hus;cases hus with
 |cons h1 t=>cases t;cases h1;refine(wR3 s w (pD hs (by decide))).mono ?_;rintro e w' ⟨r,rfl,hn,hb⟩;exact⟨_,_,rfl,rfl,wR5 hn (pC _) fun b hb _=>.inr hb,hb⟩
theorem qH7(L:List Nat)(parts:ByteArray)(hl:L.length≤1000000000)(hps:parts.size≤1000):wJ Tryz.prog 29 [vR L,.str parts] (fun y=>y=vRs (wR (fun r=>(wD parts).contains r) L)):=by
 intro S w us hus;cases hus with
 | cons h1 t=>
  cases t with
  |cons h2 t=>cases t;cases h2;refine(parted_any _ _ _ L parts w (wHI h1) (pC _) hl hps).mono ?_;rintro e w' ⟨hb,r,rfl,hr⟩;exact⟨_,_,rfl,rfl,wGH hr (pC _) fun b hb _=>.inr hb,hb⟩
theorem words_v(L:List Nat)(hl:L.length≤1000000000):wJ Tryz.prog 31 [vR L] (fun y=>y=vRs (kO L)):=by
 intro S w us hus;cases hus with
 |cons h1 t=>cases t;refine(words_any _ _ _ L w (wHI h1) (pC _) hl).mono ?_;rintro e w' ⟨hb,r,rfl,hr⟩;exact⟨_,_,rfl,rfl,wGH hr.rows (pC _) fun b hb _=>.inr hb,hb⟩
theorem frac02_v(s:ByteArray)(hs:s.size≤1000000000):wJ Tryz.prog 13 [.str s] (fun y=>y=.tup [.agg (kL (qF (xS (qK (wD s))))),.int .i64 ((qK (wD s)).2.2.2:Nat)]):=by
 intro S w us hus;cases hus with
 | cons h1 t=>
  cases t;cases h1;refine(wW8 s w hs).mono ?_;rintro e w' ⟨hb,q1,q2,rfl,h1,h2⟩;exact⟨_,_,rfl,rfl,.tup (us:=[.agg #[.bool (qK (wD s)).1,q1,.bool false,q2],.int .i64 ((qK (wD s)).2.2.2:Nat)]) (.cons (.agg (us:=[.bool (qK (wD s)).1,q1,.bool false,q2]) rfl
   (.cons (.bool _) (.cons (zM h1 (pC _) fun b hb _=>.inr hb) (.cons (.bool _) (.cons (zM h2 (pC _) fun b hb _=>.inr hb) .nil))))) (.cons (.int _ _) .nil)),hb⟩
theorem sem_runes{w0:Base}{n:Nat}{o:Oper}{st:Fm}{x:Operand}{L:List Nat}(hop:o.op=.convert 78 9 x)(hx:opv st x=some (.v (vR L)))(hd:dLt n o.dst=true) :
  wQ Tryz.prog w0 n o (rdO x) (dput o.dst (some (.sv (.v (.str (txt L)))))) [] st:=
 qI hd fun f hf β a w hb=>by
  have e1:=hb.val (x:=x) (y:=vR L) (by simp_all [wN]);generalize hu:a.eval x=u at e1;refine⟨.string (txt L),?_,.str _⟩;obtain⟨ad,cap,rfl,hc,hn,hne⟩:=wHI e1;have hrun:(convert 78 9 (.slice ad L.length cap)).run Tryz.prog w=.ok (.string (txt L)) w:=by
   by_cases he:L=[]
   ·subst he;cases ad with
    |none=>exact run_convert_runes_nil (P:=Tryz.prog) w 78 9 21 0 cap Tryz.underlying78 Tryz.underlying21 Tryz.underlying9
    |some p=>exact run_convert_runes (P:=Tryz.prog) w 78 9 21 p 0 cap [] (by simp) Tryz.underlying78 Tryz.underlying21 Tryz.underlying9 (by intro j hj;simp at hj)
   ·obtain⟨b,off,rfl,_,_,hcell⟩:=hne he;exact wUC w b off L.length cap L rfl hcell
  simp only[execOp,hop,hu,Sem.run_bind,hrun,Result.andThen_ok];rfl
def zF(P:List (List Nat×Bool)):List (List Nat):=(P.filter fun x=>!x.2).map (·.1)
def okC:Bool→List (List Nat×Bool)→Bool
 |_,[]=>true
 |bad,(_,true)::rest=>!bad&&!rest.isEmpty&&okC true rest
 |_,(_,false)::rest=>okC false rest
def wC5(ws:List (List Nat)):List Fr:=ws.map fun u=>xS (qK u)
theorem xB(u:List Nat)(P:List (List Nat×Bool)):zF ((u,false)::P)=u::zF P:=by simp[zF]
theorem j7(u:List Nat)(P:List (List Nat×Bool)):zF ((u,true)::P)=zF P:=by simp[zF]
theorem wSA(P Q:List (List Nat×Bool)):zF (P++Q)=zF P++zF Q:=by simp[zF]
theorem wPA:∀(P:List (List Nat×Bool))(bad:Bool)(out:List Fr),((zK bad out P).2.2=0↔(okC bad P=true∧∀u∈zF P,kD u=0))∧((zK bad out P).2.2=0→zK bad out P=(out++wC5 (zF P),0,0))
 |[],bad,out=>by simp[zK,okC,zF,wC5]
 | (u,true)::P,bad,out=>by
  rw[zK,okC,j7];by_cases c:bad=true∨P=[]
  ·rw[if_pos c]
   have:(!bad&&!P.isEmpty)=false:=by rcases c with rfl|rfl<;>simp
   rw[this];simp
  ·rw[if_neg c]
   have:(!bad&&!P.isEmpty)=true:=by cases bad<;>simp_all
   rw[this,fO];exact wPA P true out
 | (u,false)::P,bad,out=>by
  rw[zK,okC,xB];have e:(qK u).2.2.2=kD u:=rfl;rw[e];by_cases c:kD u≠0
  ·rw[if_pos c];refine⟨⟨fun h=>absurd h c,fun h=>absurd (h.2 u (pQ ..)) c⟩,fun h=>absurd h c⟩
  ·rw[if_neg c];obtain⟨h1,h2⟩:=wPA P false (out++[xS (qK u)]);refine⟨h1.trans ⟨fun h=>⟨h.1,fun x hx=>?_⟩,fun h=>⟨h.1,fun x hx=>h.2 x (pO _ hx)⟩⟩,fun h=>?_⟩
   ·rcases pS.1 hx with rfl|hx
    ·exact pD6.1 c
    ·exact h.2 x hx
   ·rw[h2 h];simp[wC5]
theorem qDE:∀(P:List (List Nat×Bool))(bad:Bool),okC bad (P.map wLD)=okC bad P
 |[],_=>rfl
 |(u,true)::P,bad=>by rw[mE,wLC,okC,okC,qDE P,List.isEmpty_map]
 |(u,false)::P,bad=>by rw[mE,wE7,okC,okC,qDE P]
theorem wIJ:∀(P:List (List Nat×Bool)),zF (P.map wLD)=(zF P).map wG3
 |[]=>rfl
 |(u,true)::P=>by rw[mE,wLC,j7,j7,wIJ P]
 |(u,false)::P=>by rw[mE,wE7,xB,xB,wIJ P,mE]
theorem wM6:∀(P:List (List Nat×Bool)),anyL P=(zF P).any wA2
 |[]=>rfl
 |(u,true)::P=>by rw[j7,←wM6 P];simp[anyL]
 |(u,false)::P=>by rw[xB,pA8,←wM6 P];simp[anyL]
theorem wT2:∀(ws:List (List Nat))(bad:Bool)(rest:List (List Nat×Bool)),okC bad (ws.map (fun u=>(u,false))++rest)=okC (if ws=[]then bad else false) rest
 |[],_,_=>rfl
 |u::ws,bad,rest=>by
  have e:(if ws=[]then false else false)=false:=by split<;>rfl
  rw[mE,mR,okC,wT2 ws false rest,e,if_neg (by simp:¬(u::ws=[]))]
theorem wZ8(ws:List (List Nat)):zF (ws.map fun u=>(u,false))=ws:=by
 induction ws with
 |nil=>rfl
 |cons u ws ih=>rw[mE,xB,ih]
theorem wKG:∀cs:List (List Nat),zF (wCG cs)=(cs.map kO).flatten
 |[]=>rfl
 |[c]=>by show zF (yH c)=_;unfold yH;rw[wZ8];simp
 |c::d::cs=>by rw[wCG,wSA,j7,wKG (d::cs)];unfold yH;rw[wZ8];simp
theorem qHB:∀cs:List (List Nat),cs≠[]→(!(wCG cs).isEmpty&&okC true (wCG cs))=cs.all fun c=>!(kO c).isEmpty
 |[],h=>absurd rfl h
 |[c],_=>by show(!(yH c).isEmpty&&okC true (yH c))=_;have h:=wT2 (kO c) true [];rw[cG]at h;unfold yH;rw[h,List.isEmpty_map];simp[okC]
 |c::d::cs,_=>by
  have ih:=qHB (d::cs) (by simp);rw[wCG];unfold yH;rw[wT2,okC,bV,←ih];cases hw:kO c with
  |nil=>simp
  |cons u ws=>simp
theorem okC_cells(cs:List (List Nat))(h:cs≠[]):okC true (wCG cs)=(!decide (1<cs.length)||cs.all fun c=>!(kO c).isEmpty):=by
 match cs,h with
 |[c],_=>have h:=wT2 (kO c) true [];rw[cG]at h;show okC true (yH c)=_;unfold yH;rw[h];simp[okC]
 |c::d::cs,_=>
  rw[←qHB (c::d::cs) (by simp)]
  have:wCG (c::d::cs)≠[]:=by rw[wCG];simp
  simp[this]
def wIF(many:Bool):List (List Nat)→List (List Nat)→Option (List (List Nat))
 |row,[]=>some row
 |row,c::cs=>if kO c=[]∧many=true then none else wIF many (row++kO c) cs
theorem qB6(many:Bool):∀(cs row:List (List Nat)),wIF many row cs=if(!many||cs.all fun c=>!(kO c).isEmpty)=true then some (row++(cs.map kO).flatten)else none
 |[],row=>by simp[wIF]
 |c::cs,row=>by
  rw[wIF,qB6 many cs];cases hw:kO c with
  |nil=>cases many<;>simp[hw]
  |cons u ws=>cases many<;>simp[hw]
def cellL(c:List Nat):Option (List (List Nat)):=wIF (decide (1<(wR qX c).length)) [] (wR qX c)
def xF(c:List Nat):List (List Nat):=zF (qW none c)
theorem qJI(u:List Nat):kD (wG3 u)=0↔kD u≠20:=by
 by_cases h:kD u=4
 ·rw[show wG3 u=[48]from if_pos h,qF1,h]
  decide
 ·rw[wQ6 u h];rcases wM2 u with h2|h2|h2<;>omega
theorem wBE(c:List Nat):(cellL c=if okC true (qW none c)=true then some (xF c)else none) ∧
  ((y5 c).2.2=0↔(okC true (qW none c)=true∧∀u∈xF c,kD u≠20))∧((y5 c).2.2=0→(y5 c).1=wC5 ((xF c).map wG3))∧longR c=(xF c).any wA2:=by
 have hne:wR qX c≠[]:=by simp[wR]
 have hj:=qA2 c;obtain⟨h1,h2⟩:=wPA ((qW none c).map wLD) true [];rw[qDE,wIJ]at h1;refine⟨?_,h1.trans ⟨fun h=>⟨h.1,fun u hu=>(qJI u).1 (h.2 _ (gA hu))⟩,fun h=>⟨h.1,fun u hu=>?_⟩⟩,fun h=>?_,wM6 _⟩
 ·unfold cellL xF;rw[qB6,hj,okC_cells _ hne,wKG];rfl
 ·obtain⟨v,hv,rfl⟩:=pR.1 hu;exact(qJI v).2 (h.2 v hv)
 ·have:=h2 h;rw[wIJ]at this;unfold y5;rw[this];rfl
def kZ:List (List (List Nat))→List (List Nat)→Option (List (List (List Nat)))
 |out,[]=>some out
 |out,c::cs=>match cellL c with|none=>none|some r=>kZ (out++[r]) cs
def vG(f:Fr):Nat:=max (x7 (wB f.2.1)) (x7 (wB f.2.2.2))
def wUJ(ws:List (List (List Nat))):Nat×List (List Fr):=
 if(ws.any fun r=>r.any fun u=>kD u==20)=true then(20,[])
 else if(ws.any fun r=>r.length != ws.length)=true then(3,[])
 else if(decide (24<ws.length)||ws.any fun r=>r.any fun u=>wA2 u||decide (4096<vG (xS (qK u))))=true then(4,[])
 else(0,ws.map wC5)
def xK(L:List Nat):Nat×List (List Fr):=match kZ [] (wR zH L)with|none=>(20,[])|some ws=>wUJ ws
def readS(x:List (List Fr)×Bool×Bool):Nat×List (List Fr):=
 if x.2.2=true then(20,[])
 else if(x.1.any fun r=>r.length != x.1.length)=true then(3,[])
 else if(x.2.1||decide (24<x.1.length)||x.1.any fun r=>r.any fun f=>decide (4096<vG f))=true then(4,[])
 else(0,x.1)
def qD2(L:List Nat):Nat×List (List Fr):=readS (wGD [] false (wR zH L))
theorem wU6:∀(C:List (List Nat))(out:List (List Fr))(lg:Bool),wGD out lg C=if(C.all fun c=>(y5 c).2.2==0)=true then(out++C.map fun c=>(y5 c).1,lg||C.any longR,false)else([],false,true)
 |[],out,lg=>by simp[wGD]
 |c::C,out,lg=>by
  rw[wGD,wU6 C];by_cases h:(y5 c).2.2=0
  ·rw[if_neg (by simp[h])];simp[h,Bool.or_assoc]
  ·rw[if_pos h];simp[h]
theorem wFI:∀(C:List (List Nat))(out:List (List (List Nat))),kZ out C=if(C.all fun c=>okC true (qW none c))=true then some (out++C.map xF)else none
 |[],out=>by simp[kZ]
 |c::C,out=>by
  rw[kZ,(wBE c).1];by_cases h:okC true (qW none c)=true
  ·rw[if_pos h];show kZ (out++[xF c]) C=_;rw[wFI C];simp[h]
  ·rw[if_neg h];simp[h]
theorem wJH{α:Type}{l:List α}{p q:α→Bool}(h:∀x∈l,p x=q x):l.any p=l.any q:=by
 induction l with
 |nil=>rfl
 |cons x l ih=>rw[pA8,pA8,h x (pQ ..),ih fun y hy=>h y (pO _ hy)]
theorem num_fix(ws:List (List Nat))(h:ws.any wA2=false):wC5 (ws.map wG3)=wC5 ws:=by
 unfold wC5;rw[bB];refine bG fun u hu=>?_
 have:wA2 u=false:=by rw[fT]at h;simpa using h u hu
 show xS (qK (wG3 u))=_;rw[wQ6 u (by simpa[wA2]using this)]
theorem wT3(ws:List (List Nat)):(wC5 ws).length=ws.length:=pF ..
theorem read_law(L:List Nat):qD2 L=xK L:=by
 unfold qD2 xK;rw[wU6,wFI];generalize wR zH L=C;by_cases hC:(C.all fun c=>okC true (qW none c))=true
 ·rw [if_pos hC];show _=wUJ ([]++C.map xF);rw[mF,mF,pD4];have hok:∀c∈C,okC true (qW none c)=true:=mD.1 hC;have hbad:(C.all fun c=>(y5 c).2.2==0)=!((C.map xF).any fun r=>r.any fun u=>kD u==20):=by
   rw[bH];simp only[List.all_eq_true,beq_iff_eq,Bool.not_eq_true',List.any_eq_false,List.any_eq_true,List.mem_map,not_exists,not_and,forall_exists_index,and_imp,forall_apply_eq_imp_iff₂];refine⟨fun h c hc u hu=>((wBE c).2.1.1 (h c hc)).2 u hu,fun h c hc=>(wBE c).2.1.2 ⟨hok c hc,fun u hu=>h c hc u hu⟩⟩
  unfold wUJ;by_cases h20:((C.map xF).any fun r=>r.any fun u=>kD u==20)=true
  ·rw[hbad,h20,if_neg (by decide),if_pos rfl];rfl
  ·have h20f:((C.map xF).any fun r=>r.any fun u=>kD u==20)=false:=by simpa using h20
   rw[h20f]at hbad;rw[hbad,Bool.not_false,if_pos rfl,if_neg h20];have hgood:∀c∈C,(y5 c).2.2=0:=fun c hc=>by simpa using mD.1 hbad c hc
   have hrow:(C.map fun c=>(y5 c).1)=(C.map xF).map fun ws=>wC5 (ws.map wG3):=by rw[bB];exact bG fun c hc=>(wBE c).2.2.1 (hgood c hc)
   have hlong:C.any longR=(C.map xF).any fun r=>r.any wA2:=by rw[pE5];exact wJH fun c _=>(wBE c).2.2.2
   rw[hrow,hlong];generalize C.map xF=ws;unfold readS;dsimp only;rw[if_neg (by decide),pF,pE5];have e1:(ws.any ((fun r:List Fr=>r.length != ws.length)∘fun ws=>wC5 (ws.map wG3)))=ws.any fun r=>r.length != ws.length:=wJH fun r _=>by show((wC5 (r.map wG3)).length != ws.length)=_;rw[wT3,pF]
   rw[e1];by_cases h3:(ws.any fun r=>r.length != ws.length)=true
   ·rw[if_pos h3,if_pos h3]
   ·rw [if_neg h3,if_neg h3];by_cases hl:(ws.any fun r=>r.any wA2)=true
    ·have hr:(ws.any fun r=>r.any fun u=>wA2 u||decide (4096<vG (xS (qK u))))=true:=by
      obtain⟨r,hr,h⟩:=dZ.1 hl;obtain⟨u,hu,h⟩:=dZ.1 h;exact dZ.2 ⟨r,hr,dZ.2 ⟨u,hu,by rw[h];rfl⟩⟩
     rw[hl,hr,pD9,pD9,Bool.or_true,if_pos rfl,if_pos rfl]
    ·have hlf:∀r∈ws,r.any wA2=false:=fun r hr=>by
      have:=(fT.1 (Bool.eq_false_iff.2 hl)) r hr;simpa using this
     have hn:(ws.map fun ws=>wC5 (ws.map wG3))=ws.map wC5:=bG fun r hr=>num_fix r (hlf r hr);have hb:(ws.map wC5).any (fun r=>r.any fun f=>decide (4096<vG f))=ws.any fun r=>r.any fun u=>wA2 u||decide (4096<vG (xS (qK u))):=by
      rw[pE5];refine wJH fun r hr=>?_;show(wC5 r).any _=_;unfold wC5;rw[pE5];refine wJH fun u hu=>?_
      have:wA2 u=false:=by have:=(fT.1 (hlf r hr)) u hu;simpa using this
      rw[this];rfl
     rw[hn,hb,Bool.eq_false_iff.2 hl,pD4]
 ·have hbad:¬(C.all fun c=>(y5 c).2.2==0)=true:=fun h=>hC (mD.2 fun c hc=>((wBE c).2.1.1 (by simpa using mD.1 h c hc)).1);rw[if_neg hC,if_neg hbad];rfl
theorem read_rows(L:List Nat)(rows:List (List Fr))(h:xK L=(0,rows)):rows.length≤24∧0<rows.length∧(∀r∈rows,r.length=rows.length)∧∀r∈rows,∀f∈r,vG f≤4096∧∃u,kD u=0∧f=xS (qK u):=by
 unfold xK at h;rw[wFI]at h;by_cases hC:((wR zH L).all fun c=>okC true (qW none c))=true
 ·rw [if_pos hC]at h;have h:wUJ ([]++(wR zH L).map xF)=(0,rows):=h;have hne:0<([]++(wR zH L).map xF).length:=by simp[wR]
  generalize []++(wR zH L).map xF=ws at h hne;unfold wUJ at h;split at h
  ·cases h
  ·rename_i h20;split at h
   ·cases h
   ·rename_i h3;split at h
    ·cases h
    ·rename_i h4;simp only[Prod.mk.injEq,true_and]at h;subst h;simp only[Bool.or_eq_true,decide_eq_true_eq,not_or,Bool.not_eq_true,List.any_eq_false,Bool.or_eq_false_iff,decide_eq_false_iff_not,bne_iff_ne,ne_eq,Decidable.not_not,beq_iff_eq]at h20 h3 h4;refine⟨by rw[pF];omega,by rw[pF];exact hne,fun r hr=>?_,fun r hr f hf=>?_⟩
     ·obtain⟨u,hu,rfl⟩:=pR.1 hr;rw[wT3,pF];exact h3 u hu
     ·obtain⟨u,hu,rfl⟩:=pR.1 hr;obtain⟨v,hv,rfl⟩:=pR.1 hf;have k1:=h4.2 u hu v hv;have k2:=h20 u hu v hv;refine⟨by omega,v,?_,rfl⟩;have k3:kD v≠4:=by simpa[wA2]using k1.1
      rcases wM2 v with h|h|h
      ·exact h
      ·exact absurd h k3
      ·exact absurd h k2
 ·rw[if_neg hC]at h;cases h
def wV(u:List Nat):List V:=[V.str (txt u)]
def cV(ws:List (List Nat)):List V:=[V.list (ws.map wV)]
def vCells:Option (List (List (List Nat)))→V
 |none=>.tup [.list [],.bool false]
 |some ws=>.tup [.list (ws.map cV),.bool true]
theorem wV_len(ws:List (List Nat)):(ws.map wV).length=ws.length:=pF ..
theorem cV_len(ws:List (List (List Nat))):(ws.map cV).length=ws.length:=pF ..
theorem qDH{out:List (List (List Nat))}{c:List Nat}{cs:List (List Nat)}{r:List (List Nat)}(h:cellL c=some r):kZ out (c::cs)=kZ (out++[r]) cs:=by rw[kZ,h]
theorem qDI{out:List (List (List Nat))}{c:List Nat}{cs:List (List Nat)}(h:cellL c=none):kZ out (c::cs)=none:=by rw[kZ,h]
theorem dropV{α:Type}(l:List α)(k:Nat)(x:α)(h:l[k]? = some x):l.drop k=x::l.drop (k+1):=by obtain⟨hj,rfl⟩:=pY.1 h;exact cE hj
theorem wQJ{α:Type}(l:List α)(k:Nat)(x:α)(h:l[k]? = some x):l.take (k+1)=l.take k++[x]:=by rw[cW,h];rfl
theorem wDH(p:Nat→Bool)(L:List Nat):(wR p L).length≤L.length+1∧∀c∈wR p L,c.length≤L.length:=by have h1:=parted_len p L;have h2:=sumLen_len (wR p L);refine⟨by omega,fun c hc=>?_⟩;have:=sumLen_mem _ c hc;omega
theorem cells02_v(s:ByteArray)(hs:s.size≤1048576):wJ Tryz.prog 12 [.str s] (fun y=>y=vCells (kZ [] (wR zH (wD s)))):=by
 refine wC wL Tryz.func12 rfl rfl rfl rfl fun w0=>?_;have hrl:(wD s).length≤1048576:=by have:=y2 s 0;unfold wD;omega
 have q1:=runes02_v s (by omega);have q2:=qH7 (wD s) ⟨#[59,10]⟩ (by omega) (by decide);rw[parts_end]at q2;obtain⟨hCl,hCm⟩:=wDH zH (wD s);have hCl:(wR zH (wD s)).length≤1048577:=by omega
 have hCm:∀c∈wR zH (wD s),c.length≤1048576:=fun c hc=>pD (hCm c hc) hrl;generalize wR zH (wD s)=C at *
 obtain⟨X,hX⟩:∃X,kZ [] C=X:=⟨_,rfl⟩
 rw[hX];repeat (first|refine wc q1 ?_|refine wc q2 ?_|refine wg rfl (sL (wN5 C)) ?_|refine wv ?_|refine wz ?_)
 refine yI (d:=4) (id:=1) (k:=1) (T:=49) rfl rfl rfl rfl ?_;refine qC (fun b:Nat×List (List (List Nat))=>[(8,some (.sv (.own 1 49 1 (b.2.map cV)))),(32,some (.sv (.v (vRs C)))),(34,some (.sv (.v (.int .i64 (C.length:Nat))))),(36,some (.sv (.v (.int .i64 (b.1:Nat)))))])
  (fun b=>b.1≤C.length∧b.2.length=b.1∧kZ b.2 (C.drop b.1)=X) (fun b=>C.length-b.1) (0,[]) (fun _=>rfl) ⟨pG _,rfl,hX⟩ ⟨⟨_,rfl⟩,rfl,rfl,rfl,trivial⟩ fun⟨j,out⟩ hI=>?_
 obtain⟨hJ,hol,hgo⟩:=hI;dsimp only at hJ hol hgo ⊢;rcases pL j C.length with hj|hj
 ·obtain⟨c,hc⟩:∃c,C[j]? = some c:=⟨_,pK hj⟩
  have hg:(C.map fun L=>[vR L])[j]? = some [vR c]:=by rw[pW,hc];rfl
  have hcl:=hCm c (pE hc);rw[dropV C j c hc]at hgo;have q3:=qH7 c ⟨#[44]⟩ (by omega) (by decide);rw[qH6]at q3;obtain⟨hDl,hDm⟩:=wDH qX c;have hDl:(wR qX c).length≤1048577:=by omega
  have hDm:∀d∈wR qX c,d.length≤1048576:=fun d hd=>pD (hDm d hd) hcl;obtain⟨Y,hY⟩:∃Y,cellL c=Y:=⟨_,rfl⟩
  have hY2:=hY;unfold cellL at hY2;generalize wR qX c=D at *
  repeat (first|refine wg rfl (sX j hg) ?_|refine wc q3 ?_|refine wg rfl (sL (wN5 D)) ?_|refine wv ?_|refine wg rfl cT ?_|refine wz ?_)
  refine yI (d:=8) (id:=2) (k:=1) (T:=9) rfl rfl rfl rfl ?_;refine qC (fun b:Nat×List (List Nat)=>[(8,some (.sv (.own 1 49 1 (out.map cV)))),(32,some (.sv (.v (vRs C)))),(34,some (.sv (.v (.int .i64 (C.length:Nat))))),(36,some (.sv (.v (.int .i64 (j:Nat))))),
   (14,some (.sv (.v (vRs D)))),(16,some (.sv (.own 2 9 1 (b.2.map wV)))),(48,some (.sv (.v (vRs D)))),(50,some (.sv (.v (.int .i64 (D.length:Nat))))),(52,some (.sv (.v (.int .i64 (b.1:Nat)))))])
   (fun b=>b.1≤D.length∧b.2.length≤b.1*1048577∧wIF (decide (1<D.length)) b.2 (D.drop b.1)=Y) (fun b=>D.length-b.1) (0,[]) (fun _=>rfl) ⟨pG _,pG _,hY2⟩ ⟨⟨_,rfl⟩,rfl,rfl,rfl,rfl,⟨_,rfl⟩,rfl,rfl,rfl,trivial⟩ fun⟨i,row⟩ hI=>?_
  obtain⟨hi0,hrow,hcg⟩:=hI;dsimp only at hi0 hrow hcg ⊢;rcases pL i D.length with hi|hi
  ·obtain⟨d,hd⟩:∃d,D[i]? = some d:=⟨_,pK hi⟩
   have hg2:(D.map fun L=>[vR L])[i]? = some [vR d]:=by rw[pW,hd];rfl
   have hdl:=hDm d (pE hd);rw[dropV D i d hd,wIF]at hcg;have q4:=words_v d (by omega);have hwl:=wTD d;have hwl:(kO d).length≤1048577:=by omega
   have hrow2:row.length≤1099512676352:=by
    have:i*1048577≤1048576*1048577:=mM _ (by omega)
    omega
   generalize kO d=ws at *
   have hlw:=wN5 ws;clear hY2 hX hg hCm hDm q1 q2 q3;by_cases hm:ws=[]∧1<D.length
   ·obtain⟨hm1,hm2⟩:=hm;rw[if_pos ⟨hm1,decide_eq_true hm2⟩]at hcg;rw[qDI (hY.trans hcg.symm)]at hgo;subst hm1 hgo;have f1:¬(D.length≤1):=by omega
    clear hcg hY;repeat (first|refine wg rfl (sX i hg2) ?_|refine wc q4 ?_|refine wg rfl (sL hlw) ?_|refine wg rfl (sL (wN5 D)) ?_|refine wv ?_|refine wg rfl cT ?_|refine wg rfl (vP rfl rfl rfl rfl (rfl) rfl) ?_|refine wz ?_)
    exact⟨.inl rfl,_,rfl,rfl⟩
   ·rw [if_neg (fun h=>hm ⟨h.1,of_decide_eq_true h.2⟩)]at hcg;have hcase:(ws.length=0∧D.length≤1)∨0<ws.length:=by
     rcases mI ws.length with h|h
     ·exact .inl ⟨h,pD8 fun h2=>hm ⟨pN h,h2⟩⟩
     ·exact .inr h
    clear hm hY;rcases hcase with⟨hw0,f1⟩|hw0
    all_goals
     repeat (first|refine wg rfl (sX i hg2) ?_|refine wc q4 ?_|refine wg rfl (sL hlw) ?_|refine wg rfl (sL (wN5 D)) ?_|refine wv ?_|refine wg rfl cT ?_|refine wg rfl cF ?_|refine wGE rfl rfl rfl rfl rfl rfl ?_|refine wz ?_)
     refine qC (fun m:Nat=>[(8,some (.sv (.own 1 49 1 (out.map cV)))),(32,some (.sv (.v (vRs C)))),(34,some (.sv (.v (.int .i64 (C.length:Nat))))),(36,some (.sv (.v (.int .i64 (j:Nat))))),
      (14,some (.sv (.v (vRs D)))),(16,some (.sv (.own 2 9 1 ((row++ws.take m).map wV)))),(48,some (.sv (.v (vRs D)))),(50,some (.sv (.v (.int .i64 (D.length:Nat))))),(52,some (.sv (.v (.int .i64 (i:Nat))))),
      (80,some (.sv (.v (vRs ws)))),(82,some (.sv (.v (.int .i64 (ws.length:Nat))))),(84,some (.sv (.v (.int .i64 (m:Nat)))))])
      (fun m=>m≤ws.length) (fun m=>ws.length-m) 0 (fun _=>rfl) (pG _) ⟨⟨_,rfl⟩,rfl,rfl,rfl,rfl,⟨_,by rw[pC6,cG];rfl⟩,rfl,rfl,rfl,rfl,rfl,rfl,trivial⟩ fun m hM=>?_
     rcases pL m ws.length with hml|hml
     ·obtain⟨u,hu⟩:∃u,ws[m]? = some u:=⟨_,pK hml⟩
      have hg3:(ws.map fun L=>[vR L])[m]? = some [vR u]:=by rw[pW,hu];rfl
      have hs3:(row++ws.take m).map wV++[wV u]=(row++ws.take (m+1)).map wV:=by rw[wQJ ws m u hu];simp
      have hlen:((row++ws.take m).map wV).length≤1099513724929:=by rw[pF,pX,mG];omega
      have wN1:∀e∈[wV u],e.length=1:=fun e h=>by rw[pP.1 h];rfl
      repeat (first|refine wg rfl (sX m hg3) ?_|refine wg rfl (sem_runes rfl rfl rfl) ?_|refine wf rfl rfl (sA 7003 [wV u] 1 16 wN1 hs3) ?_|refine wv ?_|refine wg rfl cT ?_|refine wg rfl sB ?_|refine wz ?_)
      exact⟨m+1,hml,by omega,⟨_,rfl⟩,rfl,rfl,rfl,rfl,⟨_,rfl⟩,rfl,rfl,rfl,rfl,rfl,rfl,trivial⟩
     ·have hme:m=ws.length:=by omega
      subst hme;rw[pZ];repeat (first|refine wv ?_|refine wg rfl cF ?_|refine wg rfl sB ?_|refine wz ?_)
      exact⟨(i+1,row++ws),⟨hi,by dsimp only;rw[pX,mY];omega,hcg⟩,by dsimp only;omega,⟨_,rfl⟩,rfl,rfl,rfl,rfl,⟨_,rfl⟩,rfl,rfl,rfl,trivial⟩
  ·have hie:i=D.length:=by omega
   subst hie;rw[bA,wIF]at hcg;have hs2:out.map cV++[cV row]=(out++[row]).map cV:=by simp
   rw[qDH (hY.trans hcg.symm)]at hgo;have hlen:=cV_len out;have wN1:∀e∈[cV row],e.length=1:=fun e h=>by rw[pP.1 h];rfl
   clear hg hCm hDm q1 q2 q3 hY hY2;repeat (first|refine wv ?_|refine wf rfl rfl (sA 7002 [cV row] 1 24 wN1 hs2) ?_|refine wg rfl cF ?_|refine wg rfl sB ?_|refine wx ?_|refine wz ?_)
   exact⟨(j+1,out++[row]),⟨hj,by rw[pX,hol];rfl,hgo⟩,by dsimp only;omega,⟨_,rfl⟩,rfl,rfl,rfl,trivial⟩
 ·have hje:j=C.length:=by omega
  subst hje;rw[bA,kZ]at hgo;subst hgo;repeat (first|refine wv ?_|refine wg rfl cF ?_|refine wz ?_)
  exact⟨.inl rfl,_,rfl,rfl⟩
end Go.Proofs.YtmkgenngokjbiaaGreatDoor
