/- the digits of a number in a base, as text: plain; and simileref02.Digits. -/
import Derived.Test.YtoijfckollafhaaGreatRef6
import Derived.Deep.LoopGhost
namespace Go.Proofs.YtoijfckollafhaaGreat
open Go.RowKit

/-- a text of bytes -/
def strOf (l : List UInt8) : ByteArray := ⟨l.toArray⟩

/-- a number's digits in a base, none of 0 -/
def dig0 (b n : Nat) : List Nat := if _h : n = 0 ∨ b < 2 then [] else dig0 b (n / b) ++ [n % b]
  termination_by n
  decreasing_by
  have : n ≠ 0 ∧ ¬ b < 2 := by omega
  exact Nat.div_lt_self (Nat.pos_of_ne_zero this.1) (by omega)

theorem dig0_zero (b : Nat) : dig0 b 0 = [] := by rw [dig0]; simp
theorem dig0_pos (b n : Nat) (hb : 2 ≤ b) (h : n ≠ 0) : dig0 b n = dig0 b (n / b) ++ [n % b] := by
  rw [dig0]; simp [h, show ¬ b < 2 by omega]

/-- a digit's letter -/
def chr (d : Nat) : UInt8 := if d < 10 then UInt8.ofNat (48 + d) else UInt8.ofNat (87 + d)

/-- a number's text in a base -/
def digS (b n : Nat) : List UInt8 := if n = 0 then [48] else (dig0 b n).map chr

def abc : List UInt8 := [48, 49, 50, 51, 52, 53, 54, 55, 56, 57, 97, 98, 99, 100, 101, 102, 103, 104, 105, 106, 107, 108, 109, 110, 111, 112, 113, 114, 115, 116, 117, 118, 119, 120, 121, 122]

theorem abc_chr : ∀ d, d < 36 → (strOf abc).extract d (d + 1) = strOf [chr d] := by decide

theorem strOf_toList (l : List UInt8) : (strOf l).toList = l := by rw [ByteArray.toList_eq]; rfl
theorem strOf_size (l : List UInt8) : (strOf l).size = l.length := rfl
theorem strOf_append (a b : List UInt8) : strOf a ++ strOf b = strOf (a ++ b) := by
  apply ByteArray.ext
  simp [strOf]

theorem toL_small (n : Nat) (h : n ≠ 0) (h2 : n < 4294967296) : toL n = [n] := by
  rw [toL_pos h, show n / 4294967296 = 0 from by omega, toL_zero, Nat.mod_eq_of_lt h2]

theorem digS_step (b m N : Nat) (ds : List UInt8) (hb : 2 ≤ b) (h1 : ds = [] → m = N) (h2 : ds ≠ [] → digS b N = (dig0 b m).map chr ++ ds) (h : ¬(m = 0 ∧ ds ≠ [])) :
    digS b N = (dig0 b (m / b)).map chr ++ (chr (m % b) :: ds) := by
  by_cases hm : m = 0
  · have hds : ds = [] := by
      rcases Classical.em (ds = []) with h0 | h0
      · exact h0
      · exact absurd ⟨hm, h0⟩ h
    subst hds
    have := h1 rfl
    subst this
    subst hm
    simp [digS, dig0_zero, chr]
  · by_cases hds : ds = []
    · subst hds
      have := h1 rfl
      subst this
      rw [digS, if_neg hm, dig0_pos b m hb hm]
      simp
    · rw [h2 hds, dig0_pos b m hb hm]
      simp

theorem dig0_len (b n k : Nat) (hb : 2 ≤ b) (h : n < 2 ^ k) : (dig0 b n).length ≤ k := by
  induction k generalizing n with
  | zero => obtain rfl : n = 0 := by simpa using h
            simp [dig0_zero]
  | succ k ih =>
    by_cases h0 : n = 0
    · subst h0; simp [dig0_zero]
    · rw [dig0_pos b n hb h0, List.length_append]
      have h1 : n / b ≤ n / 2 := Nat.div_le_div_left hb (by decide)
      have := ih (n / b) (by rw [Nat.pow_succ] at h; omega)
      simp
      exact this

end Go.Proofs.YtoijfckollafhaaGreat
