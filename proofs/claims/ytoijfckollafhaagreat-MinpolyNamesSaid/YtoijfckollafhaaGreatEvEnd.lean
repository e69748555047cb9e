/- What is known of a call without arguments, in the kit's words. -/
import Derived.Test.YtoijfckollafhaaGreatEvMemo
import Derived.Calls
namespace Go.Ev
open Go.RowKit

theorem calls_of_ent {P : Program} {e : Ent} (he : EntOk P e) (hm : e.m = 0) (ha : e.args = []) {b : Bool} (hv : e.v = .bool b) (w : World) :
    Calls P e.f #[] w fun x w' => x = .returned (.bool b) ∧ Below w.heap.size w w' := by
  intro cs
  have hS : SRel e.m w.heap.size (fun _ => none) (baseHp e.m 0 e.blks .lf) w := by
    rw [hm]
    simp only [baseHp]
    refine ⟨fun A b h => ?_, fun A x _ h => ?_, fun A A' x x' _ _ h => ?_, Nat.le_refl _⟩
    · rw [Tree.get_lf] at h; cases h
    · rw [Tree.get_lf] at h; cases h
    · rw [Tree.get_lf] at h; cases h
  obtain ⟨w', ψ', u, fr', hst, hd, hu, _, _, _, _, _, hB⟩ := he (fun _ => none) w [] (fun _ _ => rfl) hS (by rw [ha]; exact .nil) cs
  rw [hv] at hu
  cases hu
  refine ⟨.returned (.bool b), w', fr', ⟨rfl, hB⟩, hst, ?_, ?_⟩
  · exact hd.fn
  · refine ⟨hd.mode, hd.defers, hd.kind, ?_⟩
    have := hd.res
    rw [← hd.fn] at this
    exact this

theorem calls_of_ent1 {P : Program} {e : Ent} (he : EntOk P e) (hm : e.m = 0) {k : IntKind} {n : Int} (ha : e.args = [.int k n]) {b : Bool} (hv : e.v = .bool b) (w : World) :
    Calls P e.f #[.int k n] w fun x w' => x = .returned (.bool b) ∧ Below w.heap.size w w' := by
  intro cs
  have hS : SRel e.m w.heap.size (fun _ => none) (baseHp e.m 0 e.blks .lf) w := by
    rw [hm]
    simp only [baseHp]
    refine ⟨fun A b h => ?_, fun A x _ h => ?_, fun A A' x x' _ _ h => ?_, Nat.le_refl _⟩
    · rw [Tree.get_lf] at h; cases h
    · rw [Tree.get_lf] at h; cases h
    · rw [Tree.get_lf] at h; cases h
  obtain ⟨w', ψ', u, fr', hst, hd, hu, _, _, _, _, _, hB⟩ := he (fun _ => none) w [.int k n] (fun _ _ => rfl) hS (by rw [ha]; exact .cons (.int _ _) .nil) cs
  rw [hv] at hu
  cases hu
  refine ⟨.returned (.bool b), w', fr', ⟨rfl, hB⟩, hst, ?_, ?_⟩
  · exact hd.fn
  · refine ⟨hd.mode, hd.defers, hd.kind, ?_⟩
    have := hd.res
    rw [← hd.fn] at this
    exact this

theorem TabOk.ents {P : Program} {C : Cx} (hC : CxOk P C) {T : Tab} (hT : TabOk P T) {fuel : Nat} : ∀ {es : List Ent}, checkAll C T fuel es = true → ∀ e ∈ es, EntOk P e
  | [], _, e, he => nomatch he
  | x :: es, h, e, he => by
    simp only [checkAll, Bool.and_eq_true] at h
    rcases List.mem_cons.1 he with rfl | he
    · exact checkEnt_ok hC (hookT_ok hT) (drawn_ok hC (hookT_ok hT)) h.1
    · exact TabOk.ents hC hT h.2 e he
end Go.Ev
