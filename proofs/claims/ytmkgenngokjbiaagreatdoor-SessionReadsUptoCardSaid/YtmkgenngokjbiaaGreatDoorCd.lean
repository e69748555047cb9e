/- The law similelaw28.SessionReads returns true and leaves all as it was, where what it reads is of bulk at most 1048576. Condition: none beyond the statement's own. -/
import Derived.Test.YtmkgenngokjbiaaGreatDoorCards
import Derived.Test.YtmkgenngokjbiaaGreatDoorCd17
import Derived.Test.YtmkgenngokjbiaaGreatDoorCd16
import Derived.Test.YtmkgenngokjbiaaGreatDoorCd18
import Derived.Lib.LaidIn
import Derived.Lib.LaidU8
import Derived.Deep.DeepHandedRow
import Derived.Deep.DeepWitnessRowRef
import Derived.ProofKit
import Derived.OpenShut
import Derived.Shelf.Vars
set_option linter.all false
set_option maxRecDepth 20000
set_option maxHeartbeats 6400000
namespace Go.Proofs.YtmkgenngokjbiaaGreatDoor
open Go.ChangeShapes Go.WideShapes Go.ChangeAt Go.RowKit Go.Lib Go.Ev
def flat:DataW Unit→List Value
 | .agg ps=>ps.flatMap fun
  |.lit (.int k n)=>[Value.int k n]
  |.agg qs=>qs.flatMap fun
   |.lit (.int k n)=>[Value.int k n]
   |_=>[]
  |_=>[]
 |_=>[]
noncomputable def wE3(os:Os):World:=
 let w0:=World.holding Tryz.prog os ⟨#[],#[],[]⟩;let put (h:Array Obj) (g:Nat) (d:DataW Unit):Array Obj:=h.modify g fun
  |.cells _ t frozen=>.cells (flat d).toArray t frozen
  |o=>o
 let h1:=put w0.heap 1 Rows.laid_unicode_utf8_first;let h2:=put h1 2 Rows.laid_unicode_utf8_acceptRanges;let h3:=put h2 3 Rows.laid_internal_strconv_uint64pow10;let h4:=put h3 4 Rows.laid_math_bits_deBruijn32tab;let h5:=put h4 5 Rows.laid_math_bits_deBruijn64tab
 { w0 with heap:=h5 }
theorem laid_met(os:Os)(args:Array Value):laidMet Tryz.prog Rows.sessionReadsUptoRow.laid ((wE3 os).forCall (fun _ _=>0) ⟨#[],args,[]⟩).memory:=
 (LaidIn.of_run (P:=Tryz.prog) (w:=((wE3 os).forCall (fun _ _=>0) ⟨#[],args,[]⟩).memory) (l:=Rows.sessionReadsUptoRow.laid) [1,2,3,4,5] 8 (by kernel_rfl) (by kernel_rfl) (by kernel_rfl) (by kernel_rfl)).met
theorem own_knob:ownKnob Tryz.prog.godebug=none:=by kernel_rfl
theorem post_below{H:Type}{enc:TypeId×Value→H}{P:Program}{f:Func}{s:ChangeSpec}{apart fresh handsOn:Bool}{W W':World}{args:Array Value}{v:Value}{ds gs:List (DataW H)}{before pa pv:List MemPlace}(hW:DataW.Whole enc P f.params.toList s.vars apart W args.toList ds gs before)(hB:Below W.heap.size W W')(hres:∀(b:Nat)(sp:Nat→Bool)(hd:Bool),DataW.TrodAll enc P W' b sp hd f.resultTypes.toList (v.resultList f.resultTypes.size) (s.fn H (ds++gs)).results [])(hargs:∀sp:Nat→Bool,(∀p,p∈before→sp p.block=true)→DataW.TrodAll enc P W' 0 sp true f.params.toList args.toList (s.fn H (ds++gs)).args pa)(hvars:∀sp:Nat→Bool,(∀p,p∈before→sp p.block=true)→DataW.TrodVars enc P W' sp s.vars (s.fn H (ds++gs)).vars pv) :
  s.post enc P f apart fresh handsOn false W args v W':=by
 have hold:∀p,p∈before→(fun b=>decide (b<W.heap.size)) p.block=true:=by intro p hp;have:=hW.lt p hp;simpa using this
 refine⟨ds,gs,before,[],pa,pv,hW,hres _ _ _,hargs _ hold,hvars _ hold,hB.frame _,fun h=>?_⟩;cases h
theorem max_len{W:World}(h:W.ShapedOpen Tryz.prog):∃m,W.cell? ⟨0,0,none⟩=some (.int .i64 m):=
 cell_of_shapedOpen_int (g:=0) (t:=3) (zero:=#[.int .i64 0]) h (of_decide_eq_true (by kernel_rfl)) (by kernel_rfl) rfl (by kernel_rfl) (by kernel_rfl) Tryz.underlying3
theorem acc_eq:(Rows.laid_unicode_utf8_acceptRanges:DataW Unit)=Lib.acceptData:=by kernel_rfl
theorem first_eq:Rows.laid_unicode_utf8_first=Lib.firstData:=by kernel_rfl
theorem tabs_of{W:World}(hL:laidMet Tryz.prog Rows.sessionReadsUptoRow.laid W):Lib.Utf8Tabs 1 2 W:=by
 have h : laidMet Tryz.prog (("unicode/utf8.first", Lib.firstData) :: ("unicode/utf8.acceptRanges", Lib.acceptData) :: Rows.sessionReadsUptoRow.laid.drop 2) W := by rw[←acc_eq,←first_eq];exact hL
 exact utf8Tabs_of_reads Tryz.lays260 ⟨by kernel_rfl,by kernel_rfl,by kernel_rfl,by kernel_rfl,by kernel_rfl,by kernel_rfl,by kernel_rfl⟩ (Lib.laidMet.reads h (.head _)) (Lib.laidMet.reads h (.tail _ (.head _)))
set_option maxRecDepth 100000 in
theorem wUI{base:Nat}(H:Type)(enc:TypeId×Value→H)(W:World)(args:Array Value)(ds gs:List (DataW H))(before:List MemPlace)(hsh:W.ShapedOpen Tryz.prog)(hval:∀(j:Nat) t v,Tryz.f3.params[j]? = some t→args[j]? = some v→Value.okWide Tryz.prog W .any base t v)(hW:DataW.Whole enc Tryz.prog Tryz.f3.params.toList Rows.sessionReadsSpec.vars false W args.toList ds gs before)(hk:Rows.uptoSmall H (ds++gs)=true)(hT:Lib.Utf8Tabs 1 2 W) :
  Calls Tryz.prog 3 args W fun e W'=>∃v,e=.returned v∧Rows.sessionReadsSpec.post enc Tryz.prog Tryz.f3 false true false false W args v W':=by
 have hW':=hW;obtain⟨p,q,hA0,hV,rfl,hfz,hnd⟩:=hW;have hA:DataW.TrodAll enc Tryz.prog W 0 (fun _=>true) true Tryz.f3.params.toList args.toList ds p:=hA0;rw[Tryz.params3]at hA hval;obtain⟨v0,d0,rfl,rfl,h0⟩:=trodAll_one hA;obtain⟨rfl,rfl⟩:=trodVars_none hV;obtain⟨s,rfl,rfl,rfl,hs⟩:=Go.ChangeMaps.open_string Tryz.underlying9 (hval 0 9 v0 rfl rfl) h0;clear hA0;simp only[List.append_nil]at hW' hk;have hb:Rows.uptoBulkAll [(.lit (.string s.data.toList):DataW H)]≤1048576:=of_decide_eq_true hk;simp only[Rows.uptoBulkAll,Rows.uptoBulk]at hb;have hsz:s.data.toList.length=s.size:=by rw[mN];rfl
 obtain⟨m,hm⟩:=max_len hsh;refine(reads_walk s W (by omega) m hm hT).mono fun e W' ⟨he,hg⟩=>?_;subst he;exact⟨_,rfl,post_below (pv:=[]) hW' hg (fun _ _ _=>(trodAll_cons_mk (shut_bool Tryz.underlying4 _) trodAll_mk0))
  (fun _ _=>trodAll_mk1 (Go.ChangeMaps.shut_string Tryz.underlying9 hs)) (fun _ _=>rfl)⟩
theorem wYG(os:Os){H:Type}(enc:TypeId×Value→H) :
  (Rows.OpenSpec.upto Rows.sessionReadsSpec).preRow enc Tryz.prog Tryz.f3 Rows.sessionReadsUptoRow.domain false Rows.sessionReadsUptoRow.laid ((wE3 os).forCall (fun _ _=>0) ⟨#[],#[.string ⟨#[]⟩],[]⟩).memory #[.string ⟨#[]⟩]:=by
 have hw:(DataW.whole enc Tryz.prog ((wE3 os).forCall (fun _ _=>0) ⟨#[],#[.string ⟨#[]⟩],[]⟩).memory Tryz.f3.params.toList Rows.sessionReadsSpec.vars false #[Value.string ⟨#[]⟩].toList 8).map (fun x=>(x.1,x.2.1)) =
   some ([.lit (.string [])],[]):=by kernel_rfl
 obtain⟨⟨x1,x2,x3⟩,hx,hx1⟩:=bD.1 hw;simp only[Prod.mk.injEq]at hx1;obtain⟨rfl,rfl⟩:=hx1;exact OpenSpec.preRow_of_cond 8 hx (by kernel_rfl) (fun k hk=>by cases hk;kernel_rfl) (by kernel_rfl) (laid_met os _)
set_option maxRecDepth 100000 in
theorem qD1(os:Os)(started:os.Started)(H:Type)(enc:TypeId×Value→H)(F:Stop.Interp) :
  ReturnsInHanded {} Tryz.checked os 3 .any ((Rows.OpenSpec.upto Rows.sessionReadsSpec).preRow enc Tryz.prog Tryz.f3 Rows.sessionReadsUptoRow.domain false Rows.sessionReadsUptoRow.laid) (((Rows.OpenSpec.upto Rows.sessionReadsSpec).at F).post enc Tryz.prog Tryz.f3 false true false false):=by
 refine returnsInHanded_of_row (C:=Tryz.checked) (s:=Rows.OpenSpec.upto Rows.sessionReadsSpec) own_knob started (by kernel_rfl) Tryz.func3
  (witness_row_atRef (enc:=enc) (C:=Tryz.checked) false (wE3 os) #[.string ⟨#[]⟩] rfl (by kernel_rfl) (by kernel_rfl) (by kernel_rfl) (wYG os enc)) ?_
 intro W base args ds gs before hval hW _ hc _ hL hsh _;exact wUI H enc W args ds gs before hsh hval hW (hc _ rfl) (tabs_of hL)
theorem wMI:Rows.SessionReadsUptoSaid:=
 leaving.holds_of_cond_leaving 3 Tryz.f3 rfl rfl rfl rfl rfl rfl rfl ⟨rfl,rfl,rfl,rfl,rfl⟩ rfl rfl rfl rfl rfl Qr_fn Tryz.func3 Qr_facts
  (of_decide_eq_true (by kernel_rfl)) (by unfold Func.isWrapper;first|(rw[if_pos (by decide +kernel)];kernel_rfl)|(rw[if_neg (by decide +kernel)];exact⟨rfl,rfl⟩))
  (fun os started H enc _ F=>by rw[OpenClaim.pre_eq_preRow];exact leaving.leaving_of_handed (qD1 os started H enc F))
theorem qGJ(f : FuncId)(fn : Func)(hf : Tryz.pinned.checked.prog.funcNamed "simile/similelaw28.SessionReads" = some f)(hfn : Tryz.pinned.checked.prog.funcs[f]? = some fn) :
  true=Tryz.pinned.checked.prog.looks []∧∀(j:Nat) t,fn.params[j]? = some t→Tryz.pinned.checked.prog.wantsStandIn t=false:=by
 obtain rfl:f=3:=gB (Qr_fn.symm.trans hf) |>.symm;obtain rfl:fn=Tryz.f3:=(gB (Tryz.func3.symm.trans hfn)).symm;refine⟨by kernel_rfl,fun j t ht=>?_⟩;rw[Tryz.params3]at ht
 match j,ht with
 | 0, ht => obtain rfl:9=t:=by simpa using ht
            exact(show Tryz.prog.wantsStandIn 9=false by kernel_rfl)
 |j+1,ht=>simp at ht
theorem sessionReads_card:Rows.SessionReadsUptoCardSaid:=
 leaving.holds_tied_goes .later [] _ _ _ _ true wMI (fun _ h=>by cases h) (by kernel_rfl) (fun _ h=>by cases h) wH5 rfl ⟨rfl,rfl⟩ (by kernel_rfl) rfl qGJ Qr_goes
#print axioms sessionReads_card
end Go.Proofs.YtmkgenngokjbiaaGreatDoor
