/- The law similelaw27.VerifyNames returns true for every input and leaves all as it was. Conditions: none. -/
import Derived.Test.YtoijfckollafhaaGreatVn1
import Derived.Test.YtoijfckollafhaaGreatEvZ
namespace Go.Proofs.YtoijfckollafhaaGreat
open Go.ChangeShapes Go.WideShapes Go.ChangeAt Go.RowKit Go.Ev

theorem hid {p : Prop} (h : p) : Hid p := h

theorem own_knob : ownKnob Tryz.prog.godebug = none := by kernel_rfl

/-- the row's last step, where nothing of what was there has turned -/
theorem post_below {H : Type} {enc : TypeId × Value → H} {P : Program} {f : Func} {s : ChangeSpec} {apart fresh handsOn : Bool} {W W' : World} {args : Array Value} {v : Value} {ds gs : List (DataW H)} {before pa pv : List MemPlace}
    (hW : DataW.Whole enc P f.params.toList s.vars apart W args.toList ds gs before) (hB : Below W.heap.size W W')
    (hres : ∀ (b : Nat) (sp : Nat → Bool) (hd : Bool), DataW.TrodAll enc P W' b sp hd f.resultTypes.toList (v.resultList f.resultTypes.size) (s.fn H (ds ++ gs)).results [])
    (hargs : ∀ sp : Nat → Bool, (∀ p, p ∈ before → sp p.block = true) → DataW.TrodAll enc P W' 0 sp true f.params.toList args.toList (s.fn H (ds ++ gs)).args pa)
    (hvars : ∀ sp : Nat → Bool, (∀ p, p ∈ before → sp p.block = true) → DataW.TrodVars enc P W' sp s.vars (s.fn H (ds ++ gs)).vars pv) :
    s.post enc P f apart fresh handsOn false W args v W' := by
  have hold : ∀ p, p ∈ before → (fun b => decide (b < W.heap.size)) p.block = true := by
    intro p hp
    have := hW.lt p hp
    simpa using this
  refine ⟨ds, gs, before, [], pa, pv, hW, hres _ _ _, hargs _ hold, hvars _ hold, hB.frame _, fun h => ?_⟩
  cases h

theorem lives_any (w : World) : Calls Tryz.prog 12 #[] w fun e w' => e = .returned (.bool true) ∧ Below w.heap.size w w' := calls_of_ent en377_ok rfl rfl rfl w

set_option maxHeartbeats 800000 in
theorem verify_walk (n : Int) (w : World) : Calls Tryz.prog 4 #[.int .i64 n] w fun e w' => e = .returned (.bool true) ∧ Below w.heap.size w w' := by
  by_cases h : n < 0 ∨ 14 < n
  · have Q1 := hid fun w => vname_none n w h
    have Q2 := hid fun w => rname_none n w h
    have Q3 := hid fun w => lives_any w
    clear h
    go_enter Tryz.func4, Tryz.ntmps4
    go_wp2_with fail
    refine (Q1.out _).mono ?_
    rintro e w' ⟨rfl, rfl⟩
    go_wp2_with fail
    refine (Q2.out _).mono ?_
    rintro e w1 ⟨rfl, hb1⟩
    go_wp2_with fail
    refine (Q3.out _).mono ?_
    rintro e w2 ⟨rfl, hb2⟩
    go_wp2
    go_ret
    exact ⟨rfl, hb1.trans (hb2.mono hb1.size)⟩
  · have hn : n = 0 ∨ n = 1 ∨ n = 2 ∨ n = 3 ∨ n = 4 ∨ n = 5 ∨ n = 6 ∨ n = 7 ∨ n = 8 ∨ n = 9 ∨ n = 10 ∨ n = 11 ∨ n = 12 ∨ n = 13 ∨ n = 14 := by omega
    rcases hn with rfl | rfl | rfl | rfl | rfl | rfl | rfl | rfl | rfl | rfl | rfl | rfl | rfl | rfl | rfl
    · exact calls_of_ent1 en378_ok rfl rfl rfl w
    · exact calls_of_ent1 en379_ok rfl rfl rfl w
    · exact calls_of_ent1 en380_ok rfl rfl rfl w
    · exact calls_of_ent1 en381_ok rfl rfl rfl w
    · exact calls_of_ent1 en382_ok rfl rfl rfl w
    · exact calls_of_ent1 en384_ok rfl rfl rfl w
    · exact calls_of_ent1 en386_ok rfl rfl rfl w
    · exact calls_of_ent1 en388_ok rfl rfl rfl w
    · exact calls_of_ent1 en390_ok rfl rfl rfl w
    · exact calls_of_ent1 en392_ok rfl rfl rfl w
    · exact calls_of_ent1 en394_ok rfl rfl rfl w
    · exact calls_of_ent1 en396_ok rfl rfl rfl w
    · exact calls_of_ent1 en398_ok rfl rfl rfl w
    · exact calls_of_ent1 en400_ok rfl rfl rfl w
    · exact calls_of_ent1 en401_ok rfl rfl rfl w

set_option maxRecDepth 100000 in
theorem verifyNames_lifted (os : Os) (started : os.Started) (H : Type) (enc : TypeId × Value → H) :
    ReturnsInHanded {} Tryz.checked os 4 .any (Rows.verifyNamesSpec.pre6 enc Tryz.prog Tryz.f4 Rows.verifyNamesRow.domain false) (Rows.verifyNamesSpec.post enc Tryz.prog Tryz.f4 false true false false) := by
  refine returnsInHanded_of_change (C := Tryz.checked) own_knob started (by kernel_rfl) Tryz.func4
    (ChangeSpec.witness6 (enc := enc) (C := Tryz.checked) false ⟨#[], #[.int .i64 0], []⟩ 8 (by kernel_rfl) (by kernel_rfl) (by kernel_rfl) (by kernel_rfl)) ?_
  intro W base args ds gs before hval0 hW hcnd _
  have hW' := hW
  obtain ⟨p, q, hA0, hV, rfl, hfz, hnd⟩ := hW
  have hA : DataW.TrodAll enc Tryz.prog W 0 (fun _ => true) true Tryz.f4.params.toList args.toList ds p := hA0
  rw [Tryz.params4] at hA hval0
  obtain ⟨v0, d0, rfl, rfl, h0⟩ := trodAll_one hA
  obtain ⟨rfl, rfl⟩ := trodVars_none hV
  obtain ⟨n, rfl, rfl, rfl, wb⟩ := open_int Tryz.underlying3 (hval0 0 3 v0 rfl rfl) h0
  clear hA0
  simp only [List.append_nil] at hW'
  refine (verify_walk n W).mono fun e W' ⟨he, hg⟩ => ?_
  subst he
  exact ⟨_, rfl, post_below (pa := []) (pv := []) hW' hg (fun _ _ _ => (trodAll_cons_mk (shut_bool Tryz.underlying4 _) trodAll_mk0)) (fun sp _ => trodAll_mk1 (shut_int Tryz.underlying3 wb)) (fun _ _ => rfl)⟩

theorem unf4 : Tryz.prog.unfollowed 4 = true := by kernel_rfl
theorem rec4 : Tryz.prog.recurses 4 = true := by unfold Program.recurses; rw [unf4]; rfl
theorem inp4 : Tryz.prog.inPlace 4 = [] := by kernel_rfl
theorem nam4 : Tryz.prog.varsNamed 4 = [] := by kernel_rfl
theorem facts4 : joinedFacts Tryz.prog 4 Tryz.f4 Rows.verifyNamesSpec Rows.verifyNamesRow = true := by
  unfold joinedFacts
  rw [unf4, rec4, inp4, nam4]
  kernel_rfl

/-- The law similelaw27.VerifyNames: on every start, for every input, it returns true and nothing that was there turns. Conditions: none. -/
theorem verifyNames_holds : Rows.VerifyNamesSaid :=
  OpenClaim.holds_of_wide 4 Tryz.f4 rfl rfl rfl rfl rfl rfl rfl ⟨rfl, rfl, rfl, rfl, rfl⟩ rfl rfl rfl rfl rfl (by kernel_rfl) Tryz.func4 facts4
    (of_decide_eq_true (by kernel_rfl)) (by unfold Func.isWrapper; first | (rw [if_pos (by decide +kernel)]; kernel_rfl) | (rw [if_neg (by decide +kernel)]; exact ⟨rfl, rfl⟩))
    (fun os started H enc _ => verifyNames_lifted os started H enc)
#print axioms verifyNames_holds
end Go.Proofs.YtoijfckollafhaaGreat
