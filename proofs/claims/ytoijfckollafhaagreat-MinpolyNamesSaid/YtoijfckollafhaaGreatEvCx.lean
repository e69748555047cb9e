/- Trees of what a program's types and functions are. -/
import Derived.Test.YtoijfckollafhaaGreatEvDraw4
namespace Go.Ev
def Tree.All {α : Type} : (Nat → α → Prop) → Tree α → Prop
  | _, .lf => True
  | p, .nd v l r => (∀ x, v = some x → p 0 x) ∧ Tree.All (fun k => p (2 * k + 1)) l ∧ Tree.All (fun k => p (2 * k + 2)) r
theorem Tree.All.get {α : Type} : ∀ {t : Tree α} {p : Nat → α → Prop}, t.All p → ∀ {k : Nat} {x : α}, t.get k = some x → p k x
  | .lf, _, _, k, x, h => by cases h
  | .nd v l r, p, ⟨h0, h1, h2⟩, k, x, h => by
    simp only [Tree.get] at h
    cases hk : Nat.beq k 0 with
    | true =>
      rw [hk] at h
      have : k = 0 := by simpa using hk
      subst this
      exact h0 x h
    | false =>
      rw [hk] at h
      simp only [cond_false] at h
      have hk0 : k ≠ 0 := fun hh => by subst hh; cases hk
      cases hm : Nat.beq (k % 2) 1 with
      | true =>
        rw [hm] at h
        have hm' : k % 2 = 1 := by simpa using hm
        have := h1.get h
        rwa [show 2 * (k / 2) + 1 = k by omega] at this
      | false =>
        rw [hm] at h
        have hm' : k % 2 ≠ 1 := fun hh => by rw [hh] at hm; cases hm
        have := h2.get h
        rwa [show 2 * (k / 2 - 1) + 2 = k by omega] at this
def TyFact (P : Program) (k : Nat) (i : TypeInfo) : Prop := P.types[k]? = some i
def FnFact (P : Program) (k : Nat) (f : Func) : Prop := P.funcs[k]? = some f ∧ ∀ args w, (callFunc k args).run P w = .ok (.enter k args) w
theorem cxOk_of {P : Program} {C : Cx} (h1 : C.tys.All (TyFact P)) (h2 : C.fns.All (FnFact P)) (hm : P.follows .mixedOrders = true) : CxOk P C where
  tys := fun t i h => by
    have := h1.get h
    unfold TyFact at this
    unfold Tables.info?
    rw [if_pos (Array.getElem?_eq_some_iff.1 this).1]
    exact this
  fns := fun f fn h => h2.get h
  mixed := hm
end Go.Ev
