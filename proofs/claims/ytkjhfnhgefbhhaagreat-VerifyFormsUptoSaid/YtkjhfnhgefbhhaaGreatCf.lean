/- The law similelaw27.VerifyForms, where its arguments are of bulk at most 1048576, returns true and leaves all as it was. -/
import Derived.Test.YtkjhfnhgefbhhaaGreatCf24
import Derived.Test.YtkjhfnhgefbhhaaGreatCf25
import Derived.Test.YtkjhfnhgefbhhaaGreatCf27
set_option linter.all false
set_option maxRecDepth 20000
set_option maxHeartbeats 6400000
namespace Go.Proofs.YtkjhfnhgefbhhaaGreat
open Go.ChangeShapes Go.WideShapes Go.ChangeAt Go.RowKit Go.Ev Go.Vl
theorem lives27f_v:wD Tryz.prog 8 [] (fun y=>y=.bool true):=vcalls_ent (by exact en122_ok) rfl rfl rfl
set_option maxRecDepth 100000 in
theorem wGF {base:Nat} (H:Type) (enc:TypeId × Value→H) (W:World) (args:Array Value) (ds gs:List (DataW H)) (before:List MemPlace)
  (hval:∀ (j:Nat) t v,Tryz.f4.params[j]? = some t→args[j]? = some v→Value.okWide Tryz.prog W .any base t v)
  (hW:DataW.Whole enc Tryz.prog Tryz.f4.params.toList Rows.verifyFormsSpec.vars false W args.toList ds gs before) (hk:Rows.uptoSmall H (ds++gs)=true) :
  Calls Tryz.prog 4 args W fun e W'=>∃ v,e=.returned v∧Rows.verifyFormsSpec.post enc Tryz.prog Tryz.f4 false true false false W args v W':=by
 have hW':=hW; obtain ⟨p,q,hA0,hV,rfl,hfz,hnd⟩:=hW
 have hA:DataW.TrodAll enc Tryz.prog W 0 (fun _=>true) true Tryz.f4.params.toList args.toList ds p:=hA0
 rw [Tryz.params4] at hA hval; obtain ⟨v0,v1,d0,d1,p0,p1,rfl,rfl,rfl,h0,h1⟩:=trodAll_two hA
 obtain ⟨rfl,rfl⟩:=trodVars_none hV; have hlt:=hW'.lt
 obtain ⟨m0,hm0,r0,b0⟩:=qD0 (hval 0 28 v0 rfl rfl) h0; obtain ⟨ps,f,t,i,hps,hf,ht,hi,r1,b1⟩:=open_vform (hval 1 41 v1 rfl rfl) h1
 clear hA0; simp only [List.append_nil] at hW' hk hlt
 have hb:Rows.uptoBulkAll [d0,d1]≤1048576:=of_decide_eq_true hk; simp only [Rows.uptoBulkAll] at hb
 have o0:bkM m0≤1048576:=by omega
 have o1:bkM f≤1048576:=by omega
 have o2:bkM t≤1048576:=by omega
 have o3:bkM i≤1048576:=by omega
 have hpsl:ps.length≤1048576:=by have:=wM6 bkP (fun p=>by unfold bkP; omega) ps; omega
 have hpw:∀ p∈ps,polW 1048576 p:=fun p hp=>polW_small (hps p hp) (by have:=wS5 bkP hp; omega)
 have hc:=wXJ lives27f_v m0.1.1 f.1.1 t.1.1 i.1.1 m0.1.2 f.1.2 t.1.2 i.1.2 m0.2 f.2 t.2 i.2 ps (zS (wJ8 hm0 o0) (by decide)) (zS (wJ8 hf o1) (by decide)) (zS (wJ8 ht o2) (by decide)) (zS (wJ8 hi o3) (by decide)) hpw hpsl
 refine (hc (fun _=>True) W [v0,v1] (.cons r0 (.cons r1 .nil))).mono fun e W' ⟨v,y,he,hy,hr,hg⟩=>?_
 subst he hy; cases hr
 exact ⟨_,rfl,post_stays (pv:=[]) hW' hg (fun _ _ _=>(trodAll_cons_mk (shut_bool Tryz.underlying4 _) trodAll_mk0))
  (trodAll_mk2 (stays (by kernel_rfl) (of_decide_eq_true (by kernel_rfl)) h0 hg (fun x hx=>hlt x (cW _ hx))) (stays (by kernel_rfl) (of_decide_eq_true (by kernel_rfl)) h1 hg (fun x hx=>hlt x (cS _ hx)))) rfl⟩
set_option maxRecDepth 100000 in
theorem wKC (os:Os) (started:os.Started) (H:Type) (enc:TypeId × Value→H) (F:Stop.Interp) :
  ReturnsInHanded {} Tryz.checked os 4 .any ((Rows.OpenSpec.upto Rows.verifyFormsSpec).pre6 enc Tryz.prog Tryz.f4 Rows.verifyFormsUptoRow.domain false) (((Rows.OpenSpec.upto Rows.verifyFormsSpec).at F).post enc Tryz.prog Tryz.f4 false true false false):=by
 refine returnsInHanded_of_cond (C:=Tryz.checked) (s:=Rows.OpenSpec.upto Rows.verifyFormsSpec) (k:=Rows.uptoSmall) rfl own_knob started (by kernel_rfl) Tryz.func4
  (OpenSpec.witness (enc:=enc) (C:=Tryz.checked) (s:=Rows.OpenSpec.upto Rows.verifyFormsSpec) (k:=Rows.uptoSmall) rfl false ⟨#[],#[.agg #[.bool false,.slice none 0 0,.slice none 0 0],.agg #[.slice none 0 0,.bool false,.slice none 0 0,.slice none 0 0,.bool false,.slice none 0 0,.slice none 0 0,.bool false,.slice none 0 0,.slice none 0 0]],[]⟩ 8 (by kernel_rfl) (by kernel_rfl) (by kernel_rfl)
   (x:=([.agg [.agg [.lit (.bool false),.nil],.nil],.agg [.nil,.agg [.agg [.lit (.bool false),.nil],.nil],.agg [.agg [.lit (.bool false),.nil],.nil],.agg [.agg [.lit (.bool false),.nil],.nil]]],[],[])) (by kernel_rfl) rfl (by kernel_rfl)) ?_
 intro W base args ds gs before hval hW _ hk _
 exact wGF H enc W args ds gs before hval hW hk
theorem vfUnf:Tryz.prog.unfollowed 4=true:=by kernel_rfl
theorem vfRec:Tryz.prog.recurses 4=true:=by unfold Program.recurses; rw [vfUnf]; rfl
theorem vfInp:Tryz.prog.inPlace 4=[]:=by kernel_rfl
theorem vfNam:Tryz.prog.varsNamed 4=[]:=by kernel_rfl
theorem vfFacts:joinedFacts Tryz.prog 4 Tryz.f4 (Rows.OpenSpec.upto Rows.verifyFormsSpec).bare Rows.verifyFormsUptoRow=true:=by
 unfold joinedFacts; rw [vfUnf,vfRec,vfInp,vfNam]
 kernel_rfl
theorem verifyForms_holds:Rows.VerifyFormsUptoSaid :=
 OpenClaim.holds_of_cond 4 Tryz.f4 rfl rfl rfl rfl rfl rfl rfl ⟨rfl,rfl,rfl,rfl,rfl⟩ rfl rfl rfl rfl rfl (by kernel_rfl) Tryz.func4 vfFacts
  (of_decide_eq_true (by kernel_rfl)) (by unfold Func.isWrapper; first | (rw [if_pos (by decide +kernel)]; kernel_rfl) | (rw [if_neg (by decide +kernel)]; exact ⟨rfl,rfl⟩))
  (fun os started H enc _ F=>wKC os started H enc F)
#print axioms verifyForms_holds
end Go.Proofs.YtkjhfnhgefbhhaaGreat
