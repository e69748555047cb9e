/- numeral.runes, simileref02.Runes: the runes of a text. -/
import Derived.Test.YtoijfckollafhaaGreatText
namespace Go.Proofs.YtoijfckollafhaaGreat
open Go.RowKit

theorem iterAt_own {w : World} {B : Nat} {e : TypeId} {size n : Nat} {v : Value} {xs : List Value} (h : w.ownsRow B e size v n xs) {k : Nat} {s : ByteArray} {pos : Nat} (hk : w.heap[k]? = some (.stringIter s pos)) (pos' : Nat) :
    (w.iterAt k s pos').ownsRow B e size v n xs := by
  refine ⟨h.1, ?_⟩
  rcases h.2 with hn | ⟨g, cap, cur, rfl, hbg, hgg, rest⟩
  · exact .inl hn
  · refine .inr ⟨g, cap, cur, rfl, hbg, ?_, rest⟩
    rw [Lib.iterAt_other w k g s pos' (by intro e; subst e; rw [hgg] at hk; cases hk)]
    exact hgg

theorem grown_iter {w w' : World} {row : Option Nat} {k : Nat} {s : ByteArray} {pos : Nat} (hg : w.grownBy w' row) (hk : w.heap[k]? = some (.stringIter s pos)) (hr : ∀ g, row = some g → ∃ c T f, w.heap[g]? = some (.cells c T f)) :
    w'.heap[k]? = some (.stringIter s pos) := by
  rw [hg.block k (Array.getElem?_eq_some_iff.1 hk).1 ?_, hk]
  intro e
  obtain ⟨c, T, f, h⟩ := hr k e.symm
  rw [hk] at h
  cases h

theorem own_kind {w : World} {B : Nat} {e : TypeId} {size n : Nat} {v : Value} {xs : List Value} (h : w.ownsRow B e size v n xs) : ∀ g, v.ownBlock = some g → ∃ c T f, w.heap[g]? = some (.cells c T f) := by
  intro g hg
  rcases h.2 with ⟨rfl, _⟩ | ⟨g', cap, cur, rfl, _, hgg, _⟩
  · simp [Value.ownBlock] at hg
  · simp [Value.ownBlock] at hg
    subst hg
    exact ⟨_, _, _, hgg⟩

end Go.Proofs.YtoijfckollafhaaGreat
