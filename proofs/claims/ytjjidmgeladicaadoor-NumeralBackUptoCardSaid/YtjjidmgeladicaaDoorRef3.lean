/- simileref01's Cmp, Sub: what they hand back. -/
import Derived.Test.YtjjidmgeladicaaDoorRef2
namespace Go.Proofs.YtjjidmgeladicaaDoor
open Go.RowKit

/-- -1, 0, 1 -/
def cmpN (a b : Nat) : Int := if a < b then -1 else if b < a then 1 else 0

theorem natOf_drop (xs : List Nat) (k : Nat) : natOf (xs.drop k) = xs.getD k 0 + 4294967296 * natOf (xs.drop (k + 1)) := by
  by_cases h : k < xs.length
  · rw [List.drop_eq_getElem_cons h, natOf, getD_eq xs k h]
  · rw [List.drop_of_length_le (by omega), List.drop_of_length_le (by omega), getD_out xs k (by omega)]; simp [natOf]

theorem natOf_split (xs : List Nat) (k : Nat) : natOf xs = natOf (xs.take k) + 4294967296 ^ k * natOf (xs.drop k) := by
  induction k with
  | zero => simp [natOf]
  | succ k ih =>
    rw [ih, natOf_take_succ, natOf_drop xs k, Nat.pow_succ, Nat.mul_add, Nat.mul_assoc, Nat.add_assoc]

theorem natOf_take_lt (xs : List Nat) (k : Nat) (hx : ∀ x, x ∈ xs → x < 4294967296) : natOf (xs.take k) < 4294967296 ^ k := by
  have h := natOf_lt (xs.take k) fun x h => hx x (List.mem_of_mem_take h)
  have : 4294967296 ^ (xs.take k).length ≤ 4294967296 ^ k := Nat.pow_le_pow_right (by decide) (by rw [List.length_take]; omega)
  exact Nat.lt_of_lt_of_le h this

theorem drop_lt (xs ys : List Nat) (k : Nat) (hx : ∀ x, x ∈ xs → x < 4294967296) (h : natOf (xs.drop k) < natOf (ys.drop k)) : natOf xs < natOf ys := by
  rw [natOf_split xs k, natOf_split ys k]
  have h1 := natOf_take_lt xs k hx
  generalize 4294967296 ^ k = P at *
  generalize natOf (xs.drop k) = a at *
  generalize natOf (ys.drop k) = b at *
  have : P * (a + 1) ≤ P * b := Nat.mul_le_mul_left _ h
  rw [Nat.mul_add] at this
  omega

theorem drop_step (xs ys : List Nat) (m x y : Nat) (hx : xs.getD m 0 = x) (hy : ys.getD m 0 = y) (h : natOf (xs.drop (m + 1)) = natOf (ys.drop (m + 1))) (hlt : x < y) : natOf (xs.drop m) < natOf (ys.drop m) := by
  rw [natOf_drop xs m, natOf_drop ys m, hx, hy, h]
  omega

theorem sub_carry (P a c s A Bv x y z : Nat) (h : A + Bv = a + P * c) (hs : s + y + c = 4294967296 + x) (hz : z = 1 - s / 4294967296) (hs2 : s < 8589934592) :
    A + P * (s % 4294967296) + (Bv + P * y) = a + P * x + P * 4294967296 * z := by
  have e : P * s + P * y + P * c = P * 4294967296 + P * x := by
    have := congrArg (P * ·) hs
    simp only [Nat.mul_add] at this
    exact this
  have e2 : P * s = P * (s % 4294967296) + P * 4294967296 * (s / 4294967296) := by
    rw [Nat.mul_assoc, ← Nat.mul_add, Nat.mod_add_div]
  generalize P * (s % 4294967296) = u at *
  rcases Nat.lt_or_ge s 4294967296 with h1 | h1
  · have h0 : s / 4294967296 = 0 := by omega
    rw [h0] at e2 hz
    subst hz
    rw [Nat.mul_zero] at e2
    rw [Nat.sub_zero, Nat.mul_one]
    generalize P * 4294967296 = PB at *
    generalize P * s = ps at *
    generalize P * y = py at *
    generalize P * c = pc at *
    generalize P * x = px at *
    omega
  · have h0 : s / 4294967296 = 1 := by omega
    rw [h0] at e2 hz
    subst hz
    rw [Nat.mul_one] at e2
    rw [Nat.sub_self, Nat.mul_zero]
    generalize P * 4294967296 = PB at *
    generalize P * s = ps at *
    generalize P * y = py at *
    generalize P * c = pc at *
    generalize P * x = px at *
    omega

end Go.Proofs.YtjjidmgeladicaaDoor
