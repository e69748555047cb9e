/- The law similelaw25.CommuteDoes, where its arguments are of bulk at most 1048576, returns true and leaves all as it was. -/
import Derived.Test.YtkjhfnhgefbhhaaGreatCd17
import Derived.Test.YtkjhfnhgefbhhaaGreatCd22
import Derived.Test.YtkjhfnhgefbhhaaGreatCd24
set_option linter.all false
namespace Go.Proofs.YtkjhfnhgefbhhaaGreat
open Go.ChangeShapes Go.WideShapes Go.ChangeAt Go.RowKit Go.Ev Go.Vl
theorem okM_bulk {m:MM} (h:limM m) (hb:bkM m≤1048576):okM m 4294967296:=by
 obtain ⟨h1,h2⟩:=h
 have e1:=flat_bulk m.2
 have e2:=sum_len bkR (fun r=>by unfold bkR; omega) m.2
 unfold bkM at hb
 have e0:bkZ m.1=m.1.2.length+1:=rfl
 refine ⟨h1,by omega,⟨by omega,fun r hr=>?_⟩,by omega⟩
 have e3:=sum_mem bkR hr
 have e4:=sum_len bkZ (fun z=>by unfold bkZ; omega) r
 have e5:bkR r=(r.map bkZ).sum+1:=rfl
 refine ⟨by omega,fun z hz=>⟨h2 r hr z hz,?_⟩⟩
 have e6:=sum_mem bkZ hz
 have e7:bkZ z=z.2.length+1:=rfl
 omega
theorem vcalls_of_ent {P:Program} {e:Ent} (he:EntOk P e) (hm:e.m=0) (ha:e.args=[]) {b:Bool} (hv:e.v=.bool b):wT P e.f [] (fun y=>y=.bool b):=fun S w us hu=>by
 cases hu
 exact (calls_of_ent he hm ha hv w).mono fun x w' ⟨h1,h2⟩=>⟨_,_,h1,rfl,.bool b,h2⟩
theorem lives25_v:wT Tryz.prog 16 [] (fun y=>y=.bool true):=vcalls_of_ent (by exact en502_ok) rfl rfl rfl
set_option maxRecDepth 100000 in
theorem commuteDoes_contract {base:Nat} (H:Type) (enc:TypeId × Value→H) (W:World) (args:Array Value) (ds gs:List (DataW H)) (before:List MemPlace)
  (hval:∀ (j:Nat) t v,Tryz.f5.params[j]? = some t→args[j]? = some v→Value.okWide Tryz.prog W .any base t v)
  (hW:DataW.Whole enc Tryz.prog Tryz.f5.params.toList Rows.commuteDoesSpec.vars false W args.toList ds gs before) (hk:Rows.uptoSmall H (ds++gs)=true) :
  Calls Tryz.prog 5 args W fun e W'=>∃ v,e=.returned v∧Rows.commuteDoesSpec.post enc Tryz.prog Tryz.f5 false true false false W args v W':=by
 have hW':=hW
 obtain ⟨p,q,hA0,hV,rfl,hfz,hnd⟩:=hW
 have hA:DataW.TrodAll enc Tryz.prog W 0 (fun _=>true) true Tryz.f5.params.toList args.toList ds p:=hA0
 rw [Tryz.params5] at hA hval
 obtain ⟨v0,v1,d0,d1,p0,p1,rfl,rfl,rfl,h0,h1⟩:=trodAll_two hA
 obtain ⟨rfl,rfl⟩:=trodVars_none hV
 have hlt:=hW'.lt
 obtain ⟨m0,hm0,r0,b0⟩:=open_vmatarg (hval 0 28 v0 rfl rfl) h0
 obtain ⟨m1,hm1,r1,b1⟩:=open_vmatarg (hval 1 28 v1 rfl rfl) h1
 clear hA0
 simp only [List.append_nil] at hW' hk hlt
 have hb:Rows.uptoBulkAll [d0,d1]≤1048576:=of_decide_eq_true hk
 simp only [Rows.uptoBulkAll] at hb
 have o0:bkM m0≤1048576:=by omega
 have o1:bkM m1≤1048576:=by omega
 have hc:=commuteDoes_v lives25_v m0.1.1 m1.1.1 m0.1.2 m1.1.2 m0.2 m1.2 (okM_bulk hm0 o0) (okM_bulk hm1 o1)
 refine (hc (fun _=>True) W [v0,v1] (.cons r0 (.cons r1 .nil))).mono fun e W' ⟨v,y,he,hy,hr,hg⟩=>?_
 subst he hy
 cases hr
 exact ⟨_,rfl,post_stays (pv:=[]) hW' hg (fun _ _ _=>(trodAll_cons_mk (shut_bool Tryz.underlying4 _) trodAll_mk0))
  (trodAll_mk2 (stays (by kernel_rfl) (of_decide_eq_true (by kernel_rfl)) h0 hg (fun x hx=>hlt x (List.mem_append_left _ hx))) (stays (by kernel_rfl) (of_decide_eq_true (by kernel_rfl)) h1 hg (fun x hx=>hlt x (List.mem_append_right _ hx)))) rfl⟩
set_option maxRecDepth 100000 in
theorem commuteDoes_lifted (os:Os) (started:os.Started) (H:Type) (enc:TypeId × Value→H) (F:Stop.Interp) :
  ReturnsInHanded {} Tryz.checked os 5 .any ((Rows.OpenSpec.upto Rows.commuteDoesSpec).pre6 enc Tryz.prog Tryz.f5 Rows.commuteDoesUptoRow.domain false) (((Rows.OpenSpec.upto Rows.commuteDoesSpec).at F).post enc Tryz.prog Tryz.f5 false true false false):=by
 refine returnsInHanded_of_cond (C:=Tryz.checked) (s:=Rows.OpenSpec.upto Rows.commuteDoesSpec) (k:=Rows.uptoSmall) rfl own_knob started (by kernel_rfl) Tryz.func5
  (OpenSpec.witness (enc:=enc) (C:=Tryz.checked) (s:=Rows.OpenSpec.upto Rows.commuteDoesSpec) (k:=Rows.uptoSmall) rfl false ⟨#[],#[.agg #[.bool false,.slice none 0 0,.slice none 0 0],.agg #[.bool false,.slice none 0 0,.slice none 0 0]],[]⟩ 8 (by kernel_rfl) (by kernel_rfl) (by kernel_rfl)
   (x:=([.agg [.agg [.lit (.bool false),.nil],.nil],.agg [.agg [.lit (.bool false),.nil],.nil]],[],[])) (by kernel_rfl) rfl (by kernel_rfl)) ?_
 intro W base args ds gs before hval hW _ hk _
 exact commuteDoes_contract H enc W args ds gs before hval hW hk
theorem cdUnf:Tryz.prog.unfollowed 5=true:=by kernel_rfl
theorem cdRec:Tryz.prog.recurses 5=true:=by unfold Program.recurses; rw [cdUnf]; rfl
theorem cdInp:Tryz.prog.inPlace 5=[]:=by kernel_rfl
theorem cdNam:Tryz.prog.varsNamed 5=[]:=by kernel_rfl
theorem cdFacts:joinedFacts Tryz.prog 5 Tryz.f5 (Rows.OpenSpec.upto Rows.commuteDoesSpec).bare Rows.commuteDoesUptoRow=true:=by
 unfold joinedFacts
 rw [cdUnf,cdRec,cdInp,cdNam]
 kernel_rfl
theorem commuteDoes_holds:Rows.CommuteDoesUptoSaid :=
 OpenClaim.holds_of_cond 5 Tryz.f5 rfl rfl rfl rfl rfl rfl rfl ⟨rfl,rfl,rfl,rfl,rfl⟩ rfl rfl rfl rfl rfl (by kernel_rfl) Tryz.func5 cdFacts
  (of_decide_eq_true (by kernel_rfl)) (by unfold Func.isWrapper; first | (rw [if_pos (by decide +kernel)]; kernel_rfl) | (rw [if_neg (by decide +kernel)]; exact ⟨rfl,rfl⟩))
  (fun os started H enc _ F=>commuteDoes_lifted os started H enc F)
#print axioms commuteDoes_holds
end Go.Proofs.YtkjhfnhgefbhhaaGreat
