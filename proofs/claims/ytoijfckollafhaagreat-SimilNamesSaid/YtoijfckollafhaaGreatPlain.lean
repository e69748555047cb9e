/- numeral.Plain: a text with plain runes. -/
import Derived.Test.YtoijfckollafhaaGreatBuild
namespace Go.Proofs.YtoijfckollafhaaGreat
open Go.RowKit

/-- a rune, plain -/
def plainR (r : Nat) : Nat := if isMinus r then 45 else if isBar r then 47 else if isGap r then 32 else r
/-- runes' bytes -/
def encB (L : List Nat) : List UInt8 := L.flatMap fun (r : Nat) => Lib.encodeRune (r : Int)
def txt (L : List Nat) : ByteArray := ⟨(encB L).toArray⟩

theorem encB_snoc (L : List Nat) (r : Nat) : encB (L ++ [r]) = encB L ++ Lib.encodeRune (r : Int) := by simp [encB]

theorem encB_len (L : List Nat) : (encB L).length ≤ 4 * L.length := by
  induction L with
  | nil => simp [encB]
  | cons r L ih =>
    have h := Lib.runeCells_le (r : Int)
    rw [← Lib.byteCells_encodeRune] at h
    have : encB (r :: L) = Lib.encodeRune (r : Int) ++ encB L := by simp [encB]
    rw [this, List.length_append, List.length_cons]
    simp [Lib.byteCells] at h
    omega

theorem byteCells_append (a b : List UInt8) : Lib.byteCells (a ++ b) = Lib.byteCells a ++ Lib.byteCells b := by simp [Lib.byteCells]

theorem builder_iterAt {T e : TypeId} {B b : Nat} {bs : List Value} {w : World} (h : Lib.IsBuilder T e B b bs w) {k : Nat} {s : ByteArray} {pos : Nat} (hk : w.heap[k]? = some (.stringIter s pos)) (pos' : Nat) : Lib.IsBuilder T e B b bs (w.iterAt k s pos') := by
  have hh : ∀ p, Lib.BuilderAt T e B b p bs w → Lib.BuilderAt T e B b p bs (w.iterAt k s pos') := by
    rintro p ⟨h1, v, h2, h3, h4⟩
    refine ⟨h1, v, ?_, iterAt_own h3 hk pos', h4⟩
    rw [Lib.iterAt_other w k b s pos' (by intro e; subst e; rw [h2] at hk; cases hk)]
    exact h2
  exact h.elim (fun x => .inl (hh _ x)) (fun x => .inr (hh _ x))

theorem kindOf_bar (r : Nat) : kindOf r = 3 ↔ isMinus r = false ∧ isBar r = true := by
  unfold kindOf
  cases isMinus r <;> cases isBar r <;> simp
  all_goals repeat' split
  all_goals simp
theorem kindOf_gap (r : Nat) : kindOf r = 4 ↔ isMinus r = false ∧ isBar r = false ∧ isGap r = true := by
  unfold kindOf
  cases isMinus r <;> cases isBar r <;> cases isGap r <;> simp
  all_goals repeat' split
  all_goals simp

theorem plainR_kind (r : Nat) : plainR r = if kindOf r = 2 then 45 else if kindOf r = 3 then 47 else if kindOf r = 4 then 32 else r := by
  have h2 := kindOf_minus r
  have h3 := kindOf_bar r
  have h4 := kindOf_gap r
  unfold plainR
  by_cases c2 : kindOf r = 2
  · rw [if_pos c2, if_pos (h2.1 c2)]
  · rw [if_neg c2, if_neg (fun h => c2 (h2.2 h))]
    have m : isMinus r = false := by cases h : isMinus r; rfl; exact absurd (h2.2 h) c2
    by_cases c3 : kindOf r = 3
    · rw [if_pos c3, if_pos (h3.1 c3).2]
    · rw [if_neg c3, if_neg (fun h => c3 (h3.2 ⟨m, h⟩))]
      have b : isBar r = false := by cases h : isBar r; rfl; exact absurd (h3.2 ⟨m, h⟩) c3
      by_cases c4 : kindOf r = 4
      · rw [if_pos c4, if_pos (h4.1 c4).2.2]
      · rw [if_neg c4, if_neg (fun h => c4 (h4.2 ⟨m, b, h⟩))]

end Go.Proofs.YtoijfckollafhaaGreat
