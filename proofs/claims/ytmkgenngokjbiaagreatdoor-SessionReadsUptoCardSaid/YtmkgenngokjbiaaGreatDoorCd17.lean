/- The program's tie, in parts. -/
import Derived.Test.YtmkgenngokjbiaaGreatDoorCdTy1
import Derived.Test.YtmkgenngokjbiaaGreatDoorCdTy2
import Derived.Test.YtmkgenngokjbiaaGreatDoorCdTy3
import Derived.Test.YtmkgenngokjbiaaGreatDoorCdTy4
import Derived.Test.YtmkgenngokjbiaaGreatDoorCdTy5
import Derived.Test.YtmkgenngokjbiaaGreatDoorCdTy6
import Derived.Test.YtmkgenngokjbiaaGreatDoorCdTy7
import Derived.Test.YtmkgenngokjbiaaGreatDoorCdTy8
import Derived.Test.YtmkgenngokjbiaaGreatDoorCdTy9
import Derived.JoinedCond
import Derived.Conc.LeavingOf
import Derived.Leaving
import Derived.Deep.DeepHandedRow
import Derived.SevenTiedAt
set_option linter.all false
set_option maxRecDepth 20000
set_option maxHeartbeats 6400000
namespace Go.Proofs.YtmkgenngokjbiaaGreatDoor
open Go
theorem tTie:Tryz.prog.laidByTextLater tLaid [.data,.data,.data,.data] true:=Program.laidByTextLater_by_run 400 8 tw1 tw2 tw3 tk tg tn td t1 t2
theorem wH5:Rows.sessionReadsUptoRow.laidByTextAt .later Tryz.pinned [.pinned,.data,.data,.data,.data] true:=
 OpenClaim.laidByTextAt_pinned rfl rfl tTie rfl rfl rfl rfl (fun y hy _e=>by
  simp only[Rows.sessionReadsUptoRow,List.zip_cons_cons,List.zip_nil_right,List.mem_cons,List.mem_nil_iff,or_false]at hy;rcases hy with rfl|rfl|rfl|rfl|rfl
  ·exact⟨pin_first,by kernel_rfl⟩
  ·cases _e
  ·cases _e
  ·cases _e
  ·cases _e) tFits
end Go.Proofs.YtmkgenngokjbiaaGreatDoor
/- From a call that starts no goroutine to a row that says 'leaving': what is quiet at the return is only leaving. The closing is the page's on leaving statements, turned to rows that list variables. -/
namespace Go.Proofs.YtmkgenngokjbiaaGreatDoor.leaving
open Go Go.Conc Go.ChangeShapes
theorem leaving_of_handed{a:Assume}{C:Checked}{os:Os}{f:FuncId}{r:Reach}{Pre:World→Array Value→Prop}{vH:World→Array Value→Value→World→Prop}(h:ReturnsInHanded a C os f r Pre vH):ReturnsInLeavingWide a C os f r Pre vH:=fun enter=>by obtain⟨e,o,s,wit,run⟩:=h enter;refine⟨e,o,s,wit,fun w tape i hf=>?_⟩;obtain⟨n,v,w',h1,h2,h3,h4,⟨j,last,h5,h6,hq,hh,hear⟩,h7⟩:=run w tape i hf;exact⟨n,v,w',h1,h2,h3,h4,⟨j,last,h5,h6,hh,onlyLeaving_of_quiet hq,hear⟩,h7⟩
theorem holds_of_cond_leaving{p:Pinned}{s:OpenSpec}{c:OpenClaim}(f:FuncId)(fn:Func)(hn:c.program=p.name)(hs:c.sum=p.sum)(hsp:c.spec=s.name)(hstart:c.start=.entering)(hout:c.outside=[])(hin:c.inits=[])(hun:c.under=none)(hi4:c.initsInPlace=[]∧c.initsUnfollowed=false∧c.initsRecurse=false∧c.initsNamed=[]∧c.initsPassed=[])(hnb:c.noBlocks=false)(hlv:c.leaving=true)(hfo:c.followed=none)(hnar:c.narrowed=s.cond.isSome)(hstill:c.still=false)(hfn:p.checked.prog.funcNamed c.func=some f)(hf:p.checked.prog.funcs[f]? = some fn)(closed:joinedFacts p.checked.prog f fn s.bare c=true)(hinst:fn.isInstance p.checked.prog c.origin c.targs)(hwrap:fn.isWrapper p.checked.prog c.wrapper c.mainSum)(h:∀os:Os,os.Started→∀(H:Type)(enc:TypeId×Value→H),(∀a b,enc a=enc b→a=b)→∀F:Stop.Interp,
   ReturnsInLeavingWide c.assume p.checked os f .any (c.pre enc p.checked.prog fn s) ((s.at F).post enc p.checked.prog fn c.apart c.fresh c.handsOn c.again)):c.holds p s:=by
 simp only[joinedFacts,Bool.and_eq_true,beq_iff_eq,Array.all_eq_true_iff_forall_mem,List.all_eq_true,decide_eq_true_eq]at closed;obtain⟨⟨⟨⟨⟨⟨⟨⟨⟨⟨⟨⟨⟨⟨⟨⟨⟨⟨⟨⟨⟨⟨⟨⟨⟨⟨⟨⟨⟨⟨⟨k1,k2⟩,k3⟩,k4⟩,k5⟩,k6⟩,k7⟩,k8⟩,k9⟩,k10⟩,k11⟩,k12⟩,k13⟩,k14⟩,k15⟩,k16⟩,k17⟩,k17b⟩,k18⟩,k19⟩,k20⟩,k21⟩,k22⟩,k23⟩,k23b⟩,k24⟩,k24b⟩,k24c⟩,k25⟩,k26⟩,k27⟩,k28⟩:=closed;have hq:∀os:Os,Stop.quiet p.checked.prog os:=fun os k hk=>by rw[k9]at hk;cases hk
 refine⟨k1,hn,hs,hsp,k2,k3,by unfold OpenClaim.startFits;rw[hstart];exact k24,by unfold OpenClaim.startTold;rw[hstart];exact⟨hin,hun,hi4⟩,f,fn,hfn,hf,⟨k4,k19⟩,(fun hb=>by rw[hnb]at hb;cases hb),by unfold OpenClaim.namedList;rw[hfo];exact k5,hinst,hwrap,
  k6.trans k7.symm,⟨k8.trans k9.symm,by unfold Program.envWorded;rw[k9];rfl,k23b⟩,k10,k11,k12,k13,k14,⟨k15,k27,k28⟩,⟨k16,k20⟩,⟨k17,k21,k25,k26⟩,⟨k22,k24b,k24c,k17b⟩,(by rw[hout,hnar];cases hsh:c.shortTexts with|none=>simp|some _=>rw[hsh]at k23;cases k23),fun n hn'=>varReadable_some (k18 n hn'),
  ⟨_,by unfold OpenClaim.world;rw[hout,hstart];exact WideRow.started_initial,hq _⟩,[],by unfold OpenClaim.lists;rw[hfo],fun os st _ H enc inj=>?_⟩
 have st':os.Started:=by unfold OpenClaim.world at st;rw[hout,hstart]at st;exact st
 rw[OpenClaim.post_not_still hstill];unfold OpenClaim.form;rw[hstart,k6];intro F;have e1:c.okInput=Input.okWide:=by unfold OpenClaim.okInput;rw[hnb]
 have e2:c.atReturn p.checked.prog=leavingAtReturn p.checked.prog:=by unfold OpenClaim.atReturn;rw[hlv]
 have e3:c.always p.checked.prog []=nothingAlways:=by unfold OpenClaim.always;rw[hfo]
 have e4:s.post enc p.checked.prog fn F c.outside c.apart c.fresh c.handsOn c.again=(s.at F).post enc p.checked.prog fn c.apart c.fresh c.handsOn c.again:=by rw[hout];rfl
 rw[e1,e2,e3];show ReturnsInOpen _ _ _ _ _ _ _ _ (s.post enc p.checked.prog fn F c.outside c.apart c.fresh c.handsOn c.again) _ _;rw[e4];exact h os st' H enc inj F k24
theorem holds_tied_goes(Lk:Looks){p:Pinned}{s:OpenSpec}{c:OpenClaim}(al:List (List PathCond))(kinds:List LaidKind)(tests:Bool)(har:Bool×String)(lk go:Bool)(hc:c.holds p s)(hal:∀D∈al,(c.withDomain D).holds p s)(hw:c.wfByText s=true)(hwal:∀D∈al,(c.withDomain D).wfByText s=true)(htie:c.laidByTextAt Lk p kinds tests)(hst:c.start=.entering)(hnb:c.noBlocks=false∧c.again=false)(hm:p.checked.prog.mainIs=some (har.1,har.2.toList))(hn:(!har.1&&har.2.isEmpty&&!lk)=false)(hl:∀f fn,p.checked.prog.funcNamed c.func=some f→p.checked.prog.funcs[f]? = some fn→lk=p.checked.prog.looks []∧∀(j:Nat) t,fn.params[j]? = some t→p.checked.prog.wantsStandIn t=false)(hg:go=c.goesBy p.checked.prog) :
  Claim7.holds p (.plain s) { stood:={ row:=c,standIns:=[],harness:=har,looks:=lk },kinds:=[],alts:=al,goes:=go,laidByText:=true,laidKinds:=kinds,laidTests:=tests,laidLooks:=Lk }:=by
 have h6:∀r:OpenClaim,Claim7.isSixth { stood:={ row:=r,standIns:=[],harness:=har,looks:=lk },kinds:=[] }=false:=fun r=>by simpa[Claim7.isSixth]using hn
 refine⟨Claim7.tied_new_at Lk kinds tests (Claim7.new_of_sixth hc har lk hst hnb hm (h6 c) hl) hw,fun D hD=>?_,htie,(fun h=>by cases h),hg⟩;exact Claim7.tied_new_at Lk kinds tests (Claim7.new_of_sixth (hal D hD) har lk hst hnb hm (h6 _) hl) (hwal D hD)
end Go.Proofs.YtmkgenngokjbiaaGreatDoor.leaving
