/- The law similelaw28.SessionNames returns true and leaves all as it was. Condition: none beyond the statement's own. -/
import Derived.Test.YtinmoligjcajmaaGreatDoorCards
import Derived.Test.YtinmoligjcajmaaGreatDoorTyZ
import Derived.Test.YtinmoligjcajmaaGreatDoorSnZ
import Derived.Test.YtinmoligjcajmaaGreatDoorLeav
import Derived.Test.YtinmoligjcajmaaGreatDoorSqZ
import Derived.Lib.LaidIn
import Derived.Lib.LaidU8
import Derived.Deep.DeepHandedRow
import Derived.Deep.DeepWitnessRowRef
import Derived.ProofKit
import Derived.OpenShut
namespace Go.Proofs.YtinmoligjcajmaaGreatDoor
open Go.ChangeShapes Go.WideShapes Go.ChangeAt Go.RowKit Go.Lib Go.Ev

/-- the cells of a listed table: its numbers, row by row -/
def flat : DataW Unit → List Value
  | .agg ps => ps.flatMap fun
    | .lit (.int k n) => [Value.int k n]
    | .agg qs => qs.flatMap fun
      | .lit (.int k n) => [Value.int k n]
      | _ => []
    | _ => []
  | _ => []

/-- a world for the witness: the settled one, the tables as their initialisers lay them -/
noncomputable def laidWorld (os : Os) : World :=
  let w0 := World.holding Tryz.prog os ⟨#[], #[], []⟩
  let put (h : Array Obj) (g : Nat) (d : DataW Unit) : Array Obj := h.modify g fun
    | .cells _ t frozen => .cells (flat d).toArray t frozen
    | o => o
  let h1 := put w0.heap 2 Rows.laid_unicode_utf8_first
  let h2 := put h1 3 Rows.laid_unicode_utf8_acceptRanges
  let h3 := put h2 0 Rows.laid_internal_strconv_uint64pow10
  let h4 := put h3 4 Rows.laid_math_bits_deBruijn32tab
  let h5 := put h4 5 Rows.laid_math_bits_deBruijn64tab
  { w0 with heap := h5 }

theorem laid_met (os : Os) (args : Array Value) : laidMet Tryz.prog Rows.sessionNamesRow.laid ((laidWorld os).forCall (fun _ _ => 0) ⟨#[], args, []⟩).memory :=
  (LaidIn.of_run (P := Tryz.prog) (w := ((laidWorld os).forCall (fun _ _ => 0) ⟨#[], args, []⟩).memory) (l := Rows.sessionNamesRow.laid) [2, 3, 0, 4, 5] 8 (by kernel_rfl) (by kernel_rfl) (by kernel_rfl) (by kernel_rfl)).met

theorem own_knob : ownKnob Tryz.prog.godebug = none := by kernel_rfl

theorem post_below {H : Type} {enc : TypeId × Value → H} {P : Program} {f : Func} {s : ChangeSpec} {apart fresh handsOn : Bool} {W W' : World} {args : Array Value} {v : Value} {ds gs : List (DataW H)} {before pa pv : List MemPlace}
    (hW : DataW.Whole enc P f.params.toList s.vars apart W args.toList ds gs before) (hB : Below W.heap.size W W')
    (hres : ∀ (b : Nat) (sp : Nat → Bool) (hd : Bool), DataW.TrodAll enc P W' b sp hd f.resultTypes.toList (v.resultList f.resultTypes.size) (s.fn H (ds ++ gs)).results [])
    (hargs : ∀ sp : Nat → Bool, (∀ p, p ∈ before → sp p.block = true) → DataW.TrodAll enc P W' 0 sp true f.params.toList args.toList (s.fn H (ds ++ gs)).args pa)
    (hvars : ∀ sp : Nat → Bool, (∀ p, p ∈ before → sp p.block = true) → DataW.TrodVars enc P W' sp s.vars (s.fn H (ds ++ gs)).vars pv) :
    s.post enc P f apart fresh handsOn false W args v W' := by
  have hold : ∀ p, p ∈ before → (fun b => decide (b < W.heap.size)) p.block = true := by
    intro p hp
    have := hW.lt p hp
    simpa using this
  refine ⟨ds, gs, before, [], pa, pv, hW, hres _ _ _, hargs _ hold, hvars _ hold, hB.frame _, fun h => ?_⟩
  cases h

theorem names_walk (w : World) : Calls Tryz.prog 3 #[] w fun e w' => e = .returned (.bool true) ∧ Below w.heap.size w w' := calls_of_ent en498_ok rfl rfl rfl w

theorem names_witness (os : Os) {H : Type} (enc : TypeId × Value → H) :
    (OpenSpec.ofChange Rows.sessionNamesSpec).preRow enc Tryz.prog Tryz.f3 Rows.sessionNamesRow.domain false Rows.sessionNamesRow.laid ((laidWorld os).forCall (fun _ _ => 0) ⟨#[], #[], []⟩).memory #[] := by
  have hw : (DataW.whole enc Tryz.prog ((laidWorld os).forCall (fun _ _ => 0) ⟨#[], #[], []⟩).memory Tryz.f3.params.toList Rows.sessionNamesSpec.vars false (#[] : Array Value).toList 8).map (fun x => (x.1, x.2.1)) =
      some ([], []) := by kernel_rfl
  obtain ⟨⟨x1, x2, x3⟩, hx, hx1⟩ := Option.map_eq_some_iff.1 hw
  simp only [Prod.mk.injEq] at hx1
  obtain ⟨rfl, rfl⟩ := hx1
  exact OpenSpec.preRow_of_cond 8 hx (by kernel_rfl) (fun k hk => by cases hk) (by kernel_rfl) (laid_met os _)

set_option maxRecDepth 100000 in
theorem names_lifted (os : Os) (started : os.Started) (H : Type) (enc : TypeId × Value → H) (F : Stop.Interp) :
    ReturnsInHanded {} Tryz.checked os 3 .any ((OpenSpec.ofChange Rows.sessionNamesSpec).preRow enc Tryz.prog Tryz.f3 Rows.sessionNamesRow.domain false Rows.sessionNamesRow.laid) (((OpenSpec.ofChange Rows.sessionNamesSpec).at F).post enc Tryz.prog Tryz.f3 false true false false) := by
  refine returnsInHanded_of_row (C := Tryz.checked) (s := OpenSpec.ofChange Rows.sessionNamesSpec) own_knob started (by kernel_rfl) Tryz.func3
    (witness_row_atRef (enc := enc) (C := Tryz.checked) false (laidWorld os) #[] rfl (by kernel_rfl) (by kernel_rfl) (by kernel_rfl) (names_witness os enc)) ?_
  intro W base args ds gs before hval0 hW _ hc _ hL _ _
  have hW' := hW
  obtain ⟨p, q, hA0, hV, rfl, hfz, hnd⟩ := hW
  have hA : DataW.TrodAll enc Tryz.prog W 0 (fun _ => true) true Tryz.f3.params.toList args.toList ds p := hA0
  rw [Tryz.params3] at hA
  obtain ⟨rfl, rfl, rfl⟩ := trodAll_none hA
  obtain ⟨rfl, rfl⟩ := trodVars_none hV
  clear hA0 hval0
  simp only [List.append_nil] at hW'
  refine (names_walk W).mono fun e W' ⟨he, hg⟩ => ?_
  subst he
  exact ⟨_, rfl, post_below (pa := []) (pv := []) hW' hg (fun _ _ _ => (trodAll_cons_mk (shut_bool Tryz.underlying4 _) trodAll_mk0)) (fun sp _ => rfl) (fun _ _ => rfl)⟩

theorem sessionNames_said : Rows.SessionNamesSaid :=
  leaving.holds_of_cond_leaving 3 Tryz.f3 rfl rfl rfl rfl rfl rfl rfl ⟨rfl, rfl, rfl, rfl, rfl⟩ rfl rfl rfl rfl rfl Sq_fn Tryz.func3 Sq_facts
    (of_decide_eq_true (by kernel_rfl)) (by unfold Func.isWrapper; first | (rw [if_pos (by decide +kernel)]; kernel_rfl) | (rw [if_neg (by decide +kernel)]; exact ⟨rfl, rfl⟩))
    (fun os started H enc _ F => by rw [OpenClaim.pre_eq_preRow]; exact leaving.leaving_of_handed (names_lifted os started H enc F))

theorem names_plain (f : FuncId) (fn : Func) (hf : Tryz.pinned.checked.prog.funcNamed "simile/similelaw28.SessionNames" = some f) (hfn : Tryz.pinned.checked.prog.funcs[f]? = some fn) :
    true = Tryz.pinned.checked.prog.looks [] ∧ ∀ (j : Nat) t, fn.params[j]? = some t → Tryz.pinned.checked.prog.wantsStandIn t = false := by
  obtain rfl : f = 3 := Option.some.inj (Sq_fn.symm.trans hf) |>.symm
  obtain rfl : fn = Tryz.f3 := (Option.some.inj (Tryz.func3.symm.trans hfn)).symm
  refine ⟨by kernel_rfl, fun j t ht => ?_⟩
  rw [Tryz.params3] at ht
  simp at ht

/-- The law similelaw28.SessionNames, tied to the program's text: on every start it returns true and nothing that was there turns. -/
theorem sessionNames_card : Rows.SessionNamesCardSaid :=
  leaving.holds_tied_goes .later [] _ _ _ _ true sessionNames_said (fun _ h => by cases h) (by kernel_rfl) (fun _ h => by cases h) sessionNames_tied rfl ⟨rfl, rfl⟩ (by kernel_rfl) rfl names_plain Sq_goes
#print axioms sessionNames_card
end Go.Proofs.YtinmoligjcajmaaGreatDoor
