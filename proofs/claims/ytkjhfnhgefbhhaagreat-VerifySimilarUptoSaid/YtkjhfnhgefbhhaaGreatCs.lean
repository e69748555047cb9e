/- The law similelaw27.VerifySimilar, where its arguments are of bulk at most 1048576, returns true and leaves all as it was. -/
import Derived.Test.YtkjhfnhgefbhhaaGreatCs01
import Derived.Test.YtkjhfnhgefbhhaaGreatCs02
import Derived.Test.YtkjhfnhgefbhhaaGreatCs04
set_option linter.all false
namespace Go.Proofs.YtkjhfnhgefbhhaaGreat
open Go.ChangeShapes Go.WideShapes Go.ChangeAt Go.RowKit Go.Ev Go.Vl
theorem lives27_v:wT Tryz.prog 8 [] (fun y=>y=.bool true):=vcalls_ent (by exact en304_ok) rfl rfl rfl
set_option maxRecDepth 100000 in
theorem verifySimilar_contract {base:Nat} (H:Type) (enc:TypeId × Value→H) (W:World) (args:Array Value) (ds gs:List (DataW H)) (before:List MemPlace)
  (hval:∀ (j:Nat) t v,Tryz.f3.params[j]? = some t→args[j]? = some v→Value.okWide Tryz.prog W .any base t v)
  (hW:DataW.Whole enc Tryz.prog Tryz.f3.params.toList Rows.verifySimilarSpec.vars false W args.toList ds gs before) (hk:Rows.uptoSmall H (ds++gs)=true) :
  Calls Tryz.prog 3 args W fun e W'=>∃ v,e=.returned v∧Rows.verifySimilarSpec.post enc Tryz.prog Tryz.f3 false true false false W args v W':=by
 have hW':=hW
 obtain ⟨p,q,hA0,hV,rfl,hfz,hnd⟩:=hW
 have hA:DataW.TrodAll enc Tryz.prog W 0 (fun _=>true) true Tryz.f3.params.toList args.toList ds p:=hA0
 rw [Tryz.params3] at hA hval
 obtain ⟨v0,v1,v2,d0,d1,d2,p0,p1,p2,rfl,rfl,rfl,h0,h1,h2⟩:=trodAll_three hA
 obtain ⟨rfl,rfl⟩:=trodVars_none hV
 have hlt:=hW'.lt
 obtain ⟨m0,hm0,r0,b0⟩:=open_vmatarg (hval 0 28 v0 rfl rfl) h0
 obtain ⟨m1,hm1,r1,b1⟩:=open_vmatarg (hval 1 28 v1 rfl rfl) h1
 obtain ⟨m2,m3,hm2,hm3,r2,b2⟩:=open_vconj (hval 2 30 v2 rfl rfl) h2
 clear hA0
 simp only [List.append_nil] at hW' hk hlt
 have hb:Rows.uptoBulkAll [d0,d1,d2]≤1048576:=of_decide_eq_true hk
 simp only [Rows.uptoBulkAll] at hb
 have o0:bkM m0≤1048576:=by omega
 have o1:bkM m1≤1048576:=by omega
 have o2:bkM m2≤1048576:=by omega
 have o3:bkM m3≤1048576:=by omega
 have hc:=verifySimilar_v lives27_v m0.1.1 m1.1.1 m2.1.1 m3.1.1 m0.1.2 m1.1.2 m2.1.2 m3.1.2 m0.2 m1.2 m2.2 m3.2 (okM_mono (okM_small hm0 o0) (by decide)) (okM_mono (okM_small hm1 o1) (by decide)) (okM_mono (okM_small hm2 o2) (by decide)) (okM_mono (okM_small hm3 o3) (by decide))
 refine (hc (fun _=>True) W [v0,v1,v2] (.cons r0 (.cons r1 (.cons r2 .nil)))).mono fun e W' ⟨v,y,he,hy,hr,hg⟩=>?_
 subst he hy
 cases hr
 have hl0:∀ x∈p0,x.block<W.heap.size:=fun x hx=>hlt x (List.mem_append_left _ (List.mem_append_left _ hx))
 have hl1:∀ x∈p1,x.block<W.heap.size:=fun x hx=>hlt x (List.mem_append_left _ (List.mem_append_right _ hx))
 have hl2:∀ x∈p2,x.block<W.heap.size:=fun x hx=>hlt x (List.mem_append_right _ hx)
 exact ⟨_,rfl,post_stays (pv:=[]) hW' hg (fun _ _ _=>(trodAll_cons_mk (shut_bool Tryz.underlying4 _) trodAll_mk0))
  (trodAll_mk3 (stays (by kernel_rfl) (of_decide_eq_true (by kernel_rfl)) h0 hg hl0) (stays (by kernel_rfl) (of_decide_eq_true (by kernel_rfl)) h1 hg hl1) (stays (by kernel_rfl) (of_decide_eq_true (by kernel_rfl)) h2 hg hl2)) rfl⟩
set_option maxRecDepth 100000 in
theorem verifySimilar_lifted (os:Os) (started:os.Started) (H:Type) (enc:TypeId × Value→H) (F:Stop.Interp) :
  ReturnsInHanded {} Tryz.checked os 3 .any ((Rows.OpenSpec.upto Rows.verifySimilarSpec).pre6 enc Tryz.prog Tryz.f3 Rows.verifySimilarUptoRow.domain false) (((Rows.OpenSpec.upto Rows.verifySimilarSpec).at F).post enc Tryz.prog Tryz.f3 false true false false):=by
 refine returnsInHanded_of_cond (C:=Tryz.checked) (s:=Rows.OpenSpec.upto Rows.verifySimilarSpec) (k:=Rows.uptoSmall) rfl own_knob started (by kernel_rfl) Tryz.func3
  (OpenSpec.witness (enc:=enc) (C:=Tryz.checked) (s:=Rows.OpenSpec.upto Rows.verifySimilarSpec) (k:=Rows.uptoSmall) rfl false ⟨#[],#[.agg #[.bool false,.slice none 0 0,.slice none 0 0],.agg #[.bool false,.slice none 0 0,.slice none 0 0],.agg #[.bool false,.slice none 0 0,.slice none 0 0,.bool false,.slice none 0 0,.slice none 0 0]],[]⟩ 8 (by kernel_rfl) (by kernel_rfl) (by kernel_rfl)
   (x:=([.agg [.agg [.lit (.bool false),.nil],.nil],.agg [.agg [.lit (.bool false),.nil],.nil],.agg [.agg [.agg [.lit (.bool false),.nil],.nil],.agg [.agg [.lit (.bool false),.nil],.nil]]],[],[])) (by kernel_rfl) rfl (by kernel_rfl)) ?_
 intro W base args ds gs before hval hW _ hk _
 exact verifySimilar_contract H enc W args ds gs before hval hW hk
theorem vsUnf:Tryz.prog.unfollowed 3=true:=by kernel_rfl
theorem vsRec:Tryz.prog.recurses 3=true:=by unfold Program.recurses; rw [vsUnf]; rfl
theorem vsInp:Tryz.prog.inPlace 3=[]:=by kernel_rfl
theorem vsNam:Tryz.prog.varsNamed 3=[]:=by kernel_rfl
theorem vsFacts:joinedFacts Tryz.prog 3 Tryz.f3 (Rows.OpenSpec.upto Rows.verifySimilarSpec).bare Rows.verifySimilarUptoRow=true:=by
 unfold joinedFacts
 rw [vsUnf,vsRec,vsInp,vsNam]
 kernel_rfl
theorem verifySimilar_holds:Rows.VerifySimilarUptoSaid :=
 OpenClaim.holds_of_cond 3 Tryz.f3 rfl rfl rfl rfl rfl rfl rfl ⟨rfl,rfl,rfl,rfl,rfl⟩ rfl rfl rfl rfl rfl (by kernel_rfl) Tryz.func3 vsFacts
  (of_decide_eq_true (by kernel_rfl)) (by unfold Func.isWrapper; first | (rw [if_pos (by decide +kernel)]; kernel_rfl) | (rw [if_neg (by decide +kernel)]; exact ⟨rfl,rfl⟩))
  (fun os started H enc _ F=>verifySimilar_lifted os started H enc F)
#print axioms verifySimilar_holds
end Go.Proofs.YtkjhfnhgefbhhaaGreat
