/- numeral.FromBase: what a text says in a base. -/
import Derived.Test.YtoijfckollafhaaGreatRefTxt
namespace Go.Proofs.YtoijfckollafhaaGreat
open Go.RowKit

/-- the digits' runes of a text -/
def body (L : List Nat) : List Nat := if negative L then L.tail else L

theorem negative_append (pre l : List Nat) (h : pre ≠ []) : negative (pre ++ l) = negative pre := by
  cases pre with
  | nil => exact absurd rfl h
  | cons x xs => rfl

theorem body_append (pre l : List Nat) (h : pre ≠ []) : body (pre ++ l) = body pre ++ l := by
  unfold body
  rw [negative_append pre l h]
  cases pre with
  | nil => exact absurd rfl h
  | cons x xs => split <;> simp

theorem body_one (r : Nat) : body [r] = if isMinus r then [] else [r] := by
  unfold body negative
  split <;> simp_all

theorem allOk_append (b : Nat) (a c : List Nat) : AllOk b (a ++ c) ↔ AllOk b a ∧ AllOk b c := by
  simp only [AllOk, List.mem_append]
  constructor
  · intro h
    exact ⟨fun r hr => h r (.inl hr), fun r hr => h r (.inr hr)⟩
  · rintro ⟨h1, h2⟩ r (hr | hr)
    · exact h1 r hr
    · exact h2 r hr

theorem allOk_one (b r : Nat) : AllOk b [r] ↔ worth r < b := by simp [AllOk]

theorem elemU32 : Elem Tryz.prog 28 208 (.int .u32 0) 1 4 :=
  ⟨Tryz.underlying28, by kernel_rfl, rfl, by decide⟩

theorem ofOwn_mono {B : Nat} {w : World} {v : Value} {n : Nat} {xs : List Nat} (h : w.ownsRow B 208 1 v n (u32s xs)) (hx : ∀ x, x ∈ xs → x < 4294967296) : Limbs B w.heap.size w v xs := Limbs.ofOwn h hx

theorem iterAt_box {w : World} {g : Nat} {T : TypeId} {cs : List Value} (h : BoxIs w g T cs) {k : Nat} {s : ByteArray} {pos : Nat} (hk : w.heap[k]? = some (.stringIter s pos)) (pos' : Nat) : BoxIs (w.iterAt k s pos') g T cs := by
  refine h.keep (Lib.iterAt_other w k g s pos' ?_)
  intro e
  subst e
  unfold BoxIs at h
  rw [hk] at h
  cases h

theorem kindOf_minus (r : Nat) : (kindOf r = 2) ↔ isMinus r = true := by
  unfold kindOf
  constructor
  · intro h
    cases hm : isMinus r
    · rw [hm] at h
      repeat' split at h
      all_goals simp_all
    · rfl
  · intro h; rw [if_pos h]

end Go.Proofs.YtoijfckollafhaaGreat
