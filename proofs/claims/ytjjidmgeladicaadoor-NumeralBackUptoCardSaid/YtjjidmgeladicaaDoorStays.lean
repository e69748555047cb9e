/- That what was read reads so behind the call. -/
import Derived.Test.YtjjidmgeladicaaDoorRows
import Derived.Carry
import Derived.Lib.SmallJoins
import Derived.ChangeSlices
import Derived.JoinedCond
import Derived.WalkKit
import Derived.OwnWalk
namespace Go.Proofs.YtjjidmgeladicaaDoor
open Go.ChangeShapes Go.WideShapes Go.ChangeAt Go.RowKit

theorem laidOut : laidOutB Tryd.prog = true := by kernel_rfl

/-- a reading carried on, where nothing that was there has turned -/
theorem stays {H : Type} {enc : TypeId × Value → H} {t : TypeId} (hr : Tryd.prog.readableRec t = true) (hrow : t < Tryd.prog.types.size) {W W' : World} {v : Value} {d : DataW H} {ps : List MemPlace}
    (h : DataW.Trod enc Tryd.prog W 0 (fun _ => true) true t v d ps) (hb : Below W.heap.size W W') (hlt : ∀ x ∈ ps, x.block < W.heap.size) :
    DataW.Trod enc Tryd.prog W' 0 (fun b => decide (b < W.heap.size)) true t v d ps :=
  Below.trod laidOut hr hrow h hb hlt

/-- the row's last step, where nothing of what was there has turned -/
theorem post_stays {H : Type} {enc : TypeId × Value → H} {P : Program} {f : Func} {s : ChangeSpec} {apart fresh handsOn : Bool} {W W' : World} {args : Array Value} {v : Value} {ds gs : List (DataW H)} {before pa pv : List MemPlace}
    (hW : DataW.Whole enc P f.params.toList s.vars apart W args.toList ds gs before) (hB : Below W.heap.size W W')
    (hres : ∀ (b : Nat) (sp : Nat → Bool) (hd : Bool), DataW.TrodAll enc P W' b sp hd f.resultTypes.toList (v.resultList f.resultTypes.size) (s.fn H (ds ++ gs)).results [])
    (hargs : DataW.TrodAll enc P W' 0 (fun b => decide (b < W.heap.size)) true f.params.toList args.toList (s.fn H (ds ++ gs)).args pa)
    (hvars : DataW.TrodVars enc P W' (fun b => decide (b < W.heap.size)) s.vars (s.fn H (ds ++ gs)).vars pv) :
    s.post enc P f apart fresh handsOn false W args v W' := by
  have hold : ∀ p, p ∈ before → (fun b => decide (b < W.heap.size)) p.block = true := by
    intro p hp
    have := hW.lt p hp
    simpa using this
  refine ⟨ds, gs, before, [], pa, pv, hW, hres _ _ _, hargs, hvars, hB.frame _, fun h => ?_⟩
  cases h

end Go.Proofs.YtjjidmgeladicaaDoor
