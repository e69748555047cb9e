/- The law similelaw24.SimilConjugates, where its arguments are of bulk at most 1048576, returns true and leaves all as it was. -/
import Derived.Test.YtdcjmnfngabhoaaGreatCc23
import Derived.Test.YtdcjmnfngabhoaaGreatCc25
set_option linter.all false
set_option maxRecDepth 20000
set_option maxHeartbeats 6400000
namespace Go.Proofs.YtdcjmnfngabhoaaGreat
open Go.ChangeShapes Go.WideShapes Go.ChangeAt Go.RowKit Go.Ev Go.Vl
theorem awake24_v:wG Tryz.prog 8 [] (fun y=>y=.bool true):=vcalls_ent (by exact en142_ok) rfl rfl rfl
set_option maxRecDepth 100000 in
theorem wCF{base:Nat}(H:Type)(enc:TypeId×Value→H)(W:World)(args:Array Value)(ds gs:List (DataW H))(before:List MemPlace)(hval:∀(j:Nat) t v,Tryz.f3.params[j]? = some t→args[j]? = some v→Value.okWide Tryz.prog W .any base t v)(hW:DataW.Whole enc Tryz.prog Tryz.f3.params.toList Rows.similConjugatesSpec.vars false W args.toList ds gs before)(hk:Rows.uptoSmall H (ds++gs)=true) :
  Calls Tryz.prog 3 args W fun e W'=>∃v,e=.returned v∧Rows.similConjugatesSpec.post enc Tryz.prog Tryz.f3 false true false false W args v W':=by
 have hW':=hW;obtain⟨p,q,hA0,hV,rfl,hfz,hnd⟩:=hW;have hA:DataW.TrodAll enc Tryz.prog W 0 (fun _=>true) true Tryz.f3.params.toList args.toList ds p:=hA0;rw[Tryz.params3]at hA hval;obtain⟨v0,v1,d0,d1,p0,p1,rfl,rfl,rfl,h0,h1⟩:=trodAll_two hA;obtain⟨rfl,rfl⟩:=trodVars_none hV;have hlt:=hW'.lt;obtain⟨m0,hm0,r0,b0⟩:=wMG (hval 0 28 v0 rfl rfl) h0;obtain⟨m1,hm1,r1,b1⟩:=wMG (hval 1 28 v1 rfl rfl) h1;clear hA0;simp only[List.append_nil]at hW' hk hlt;have hb:Rows.uptoBulkAll [d0,d1]≤1048576:=of_decide_eq_true hk;simp only[Rows.uptoBulkAll]at hb;have o0:bkM m0≤1048576:=by omega
 have o1:bkM m1≤1048576:=by omega
 have hc:=wM3 awake24_v m0.1.1 m1.1.1 m0.1.2 m1.1.2 m0.2 m1.2 (kP (wX7 hm0 o0) (by decide)) (kP (wX7 hm1 o1) (by decide));refine(hc (fun _=>True) W [v0,v1] (.cons r0 (.cons r1 .nil))).mono fun e W' ⟨v,y,he,hy,hr,hg⟩=>?_;subst he hy;cases hr;exact⟨_,rfl,post_stays (pv:=[]) hW' hg (fun _ _ _=>(trodAll_cons_mk (shut_bool Tryz.underlying4 _) trodAll_mk0))
  (trodAll_mk2 (stays (by kernel_rfl) (of_decide_eq_true (by kernel_rfl)) h0 hg (fun x hx=>hlt x (cB _ hx))) (stays (by kernel_rfl) (of_decide_eq_true (by kernel_rfl)) h1 hg (fun x hx=>hlt x (cC _ hx)))) rfl⟩
set_option maxRecDepth 100000 in
theorem wEJ(os:Os)(started:os.Started)(H:Type)(enc:TypeId×Value→H)(F:Stop.Interp) :
  ReturnsInHanded {} Tryz.checked os 3 .any ((Rows.OpenSpec.upto Rows.similConjugatesSpec).pre6 enc Tryz.prog Tryz.f3 Rows.similConjugatesUptoRow.domain false) (((Rows.OpenSpec.upto Rows.similConjugatesSpec).at F).post enc Tryz.prog Tryz.f3 false true false false):=by
 refine returnsInHanded_of_cond (C:=Tryz.checked) (s:=Rows.OpenSpec.upto Rows.similConjugatesSpec) (k:=Rows.uptoSmall) rfl own_knob started (by kernel_rfl) Tryz.func3
  (OpenSpec.witness (enc:=enc) (C:=Tryz.checked) (s:=Rows.OpenSpec.upto Rows.similConjugatesSpec) (k:=Rows.uptoSmall) rfl false ⟨#[],#[.agg #[.bool false,.slice none 0 0,.slice none 0 0],.agg #[.bool false,.slice none 0 0,.slice none 0 0]],[]⟩ 8 (by kernel_rfl) (by kernel_rfl) (by kernel_rfl)
   (x:=([.agg [.agg [.lit (.bool false),.nil],.nil],.agg [.agg [.lit (.bool false),.nil],.nil]],[],[])) (by kernel_rfl) rfl (by kernel_rfl)) ?_
 intro W base args ds gs before hval hW _ hk _;exact wCF H enc W args ds gs before hval hW hk
theorem scUnf:Tryz.prog.unfollowed 3=true:=by kernel_rfl
theorem scRec:Tryz.prog.recurses 3=true:=by unfold Program.recurses;rw[scUnf];rfl
theorem scInp : Tryz.prog.inPlace 3 = ["internal/abi.NoEscape", "internal/bytealg.MakeNoZero"] := by kernel_rfl
theorem scNam:Tryz.prog.varsNamed 3=[]:=by kernel_rfl
theorem scFacts:joinedFacts Tryz.prog 3 Tryz.f3 (Rows.OpenSpec.upto Rows.similConjugatesSpec).bare Rows.similConjugatesUptoRow=true:=by
 unfold joinedFacts;rw[scUnf,scRec,scInp,scNam]
 kernel_rfl
theorem similConjugates_holds:Rows.SimilConjugatesUptoSaid:=
 OpenClaim.holds_of_cond 3 Tryz.f3 rfl rfl rfl rfl rfl rfl rfl ⟨rfl,rfl,rfl,rfl,rfl⟩ rfl rfl rfl rfl rfl (by kernel_rfl) Tryz.func3 scFacts
  (of_decide_eq_true (by kernel_rfl)) (by unfold Func.isWrapper;first|(rw[if_pos (by decide +kernel)];kernel_rfl)|(rw[if_neg (by decide +kernel)];exact⟨rfl,rfl⟩))
  (fun os started H enc _ F=>wEJ os started H enc F)
#print axioms similConjugates_holds
end Go.Proofs.YtdcjmnfngabhoaaGreat
