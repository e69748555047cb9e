/- The law similelaw02.NumeralNames returns true and leaves all as it was. -/
import Derived.Test.YtjjidmgeladicaaDoorAwake
import Derived.Test.YtjjidmgeladicaaDoorRows
import Derived.ProofKit
import Derived.OpenShut
namespace Go.Proofs.YtjjidmgeladicaaDoor
open Go.ChangeShapes Go.WideShapes Go.ChangeAt Go.RowKit

theorem own_knob : ownKnob Tryd.prog.godebug = none := by kernel_rfl

/-- the row's last step, where nothing of what was there has turned -/
theorem post_below {H : Type} {enc : TypeId × Value → H} {P : Program} {f : Func} {s : ChangeSpec} {apart fresh handsOn : Bool} {W W' : World} {args : Array Value} {v : Value} {ds gs : List (DataW H)} {before pa pv : List MemPlace}
    (hW : DataW.Whole enc P f.params.toList s.vars apart W args.toList ds gs before) (hB : Below W.heap.size W W')
    (hres : ∀ (b : Nat) (sp : Nat → Bool) (hd : Bool), DataW.TrodAll enc P W' b sp hd f.resultTypes.toList (v.resultList f.resultTypes.size) (s.fn H (ds ++ gs)).results [])
    (hargs : ∀ sp : Nat → Bool, (∀ p, p ∈ before → sp p.block = true) → DataW.TrodAll enc P W' 0 sp true f.params.toList args.toList (s.fn H (ds ++ gs)).args pa)
    (hvars : ∀ sp : Nat → Bool, (∀ p, p ∈ before → sp p.block = true) → DataW.TrodVars enc P W' sp s.vars (s.fn H (ds ++ gs)).vars pv) :
    s.post enc P f apart fresh handsOn false W args v W' := by
  have hold : ∀ p, p ∈ before → (fun b => decide (b < W.heap.size)) p.block = true := by
    intro p hp
    have := hW.lt p hp
    simpa using this
  refine ⟨ds, gs, before, [], pa, pv, hW, hres _ _ _, hargs _ hold, hvars _ hold, hB.frame _, fun h => ?_⟩
  cases h

end Go.Proofs.YtjjidmgeladicaaDoor
