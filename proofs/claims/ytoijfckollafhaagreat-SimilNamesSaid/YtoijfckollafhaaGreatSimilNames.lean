/- The law similelaw24.SimilNames returns true and leaves all as it was. Conditions: none. -/
import Derived.Test.YtoijfckollafhaaGreatRows
import Derived.Test.YtoijfckollafhaaGreatSmZ
import Derived.ProofKit
import Derived.OpenShut
namespace Go.Proofs.YtoijfckollafhaaGreat
open Go.ChangeShapes Go.WideShapes Go.ChangeAt Go.RowKit Go.Ev

theorem own_knob : ownKnob Tryz.prog.godebug = none := by kernel_rfl

/-- the row's last step, where nothing of what was there has turned -/
theorem post_below {H : Type} {enc : TypeId × Value → H} {P : Program} {f : Func} {s : ChangeSpec} {apart fresh handsOn : Bool} {W W' : World} {args : Array Value} {v : Value} {ds gs : List (DataW H)} {before pa pv : List MemPlace}
    (hW : DataW.Whole enc P f.params.toList s.vars apart W args.toList ds gs before) (hB : Below W.heap.size W W')
    (hres : ∀ (b : Nat) (sp : Nat → Bool) (hd : Bool), DataW.TrodAll enc P W' b sp hd f.resultTypes.toList (v.resultList f.resultTypes.size) (s.fn H (ds ++ gs)).results [])
    (hargs : ∀ sp : Nat → Bool, (∀ p, p ∈ before → sp p.block = true) → DataW.TrodAll enc P W' 0 sp true f.params.toList args.toList (s.fn H (ds ++ gs)).args pa)
    (hvars : ∀ sp : Nat → Bool, (∀ p, p ∈ before → sp p.block = true) → DataW.TrodVars enc P W' sp s.vars (s.fn H (ds ++ gs)).vars pv) :
    s.post enc P f apart fresh handsOn false W args v W' := by
  have hold : ∀ p, p ∈ before → (fun b => decide (b < W.heap.size)) p.block = true := by
    intro p hp
    have := hW.lt p hp
    simpa using this
  refine ⟨ds, gs, before, [], pa, pv, hW, hres _ _ _, hargs _ hold, hvars _ hold, hB.frame _, fun h => ?_⟩
  cases h

theorem similNames_walk (w : World) : Calls Tryz.prog 5 #[] w fun e w' => e = .returned (.bool true) ∧ Below w.heap.size w w' := calls_of_ent en459_ok rfl rfl rfl w

set_option maxRecDepth 100000 in
theorem similNames_lifted (os : Os) (started : os.Started) (H : Type) (enc : TypeId × Value → H) :
    ReturnsInHanded {} Tryz.checked os 5 .any (Rows.similNamesSpec.pre6 enc Tryz.prog Tryz.f5 Rows.similNamesRow.domain false) (Rows.similNamesSpec.post enc Tryz.prog Tryz.f5 false true false false) := by
  refine returnsInHanded_of_change (C := Tryz.checked) own_knob started (by kernel_rfl) Tryz.func5
    (ChangeSpec.witness6 (enc := enc) (C := Tryz.checked) false ⟨#[], #[], []⟩ 8 (by kernel_rfl) (by kernel_rfl) (by kernel_rfl) (by kernel_rfl)) ?_
  intro W base args ds gs before hval0 hW hcnd _
  have hW' := hW
  obtain ⟨p, q, hA0, hV, rfl, hfz, hnd⟩ := hW
  have hA : DataW.TrodAll enc Tryz.prog W 0 (fun _ => true) true Tryz.f5.params.toList args.toList ds p := hA0
  rw [Tryz.params5] at hA
  obtain ⟨rfl, rfl, rfl⟩ := trodAll_none hA
  obtain ⟨rfl, rfl⟩ := trodVars_none hV
  clear hA0 hval0
  simp only [List.append_nil] at hW'
  refine (similNames_walk W).mono fun e W' ⟨he, hg⟩ => ?_
  subst he
  exact ⟨_, rfl, post_below (pa := []) (pv := []) hW' hg (fun _ _ _ => (trodAll_cons_mk (shut_bool Tryz.underlying4 _) trodAll_mk0)) (fun sp _ => rfl) (fun _ _ => rfl)⟩

theorem unf5 : Tryz.prog.unfollowed 5 = true := by kernel_rfl
theorem rec5 : Tryz.prog.recurses 5 = true := by unfold Program.recurses; rw [unf5]; rfl
theorem inp5 : Tryz.prog.inPlace 5 = ["internal/abi.NoEscape", "internal/bytealg.MakeNoZero"] := by kernel_rfl
theorem nam5 : Tryz.prog.varsNamed 5 = [] := by kernel_rfl
theorem facts5 : joinedFacts Tryz.prog 5 Tryz.f5 Rows.similNamesSpec Rows.similNamesRow = true := by
  unfold joinedFacts
  rw [unf5, rec5, inp5, nam5]
  kernel_rfl

/-- The law similelaw24.SimilNames: on every start it returns true and nothing that was there turns. Conditions: none. -/
theorem similNames_holds : Rows.SimilNamesSaid :=
  OpenClaim.holds_of_wide 5 Tryz.f5 rfl rfl rfl rfl rfl rfl rfl ⟨rfl, rfl, rfl, rfl, rfl⟩ rfl rfl rfl rfl rfl (by kernel_rfl) Tryz.func5 facts5
    (of_decide_eq_true (by kernel_rfl)) (by unfold Func.isWrapper; first | (rw [if_pos (by decide +kernel)]; kernel_rfl) | (rw [if_neg (by decide +kernel)]; exact ⟨rfl, rfl⟩))
    (fun os started H enc _ => similNames_lifted os started H enc)
#print axioms similNames_holds
end Go.Proofs.YtoijfckollafhaaGreat
