/- numeral.number: the digits of a base make one number. -/
import Derived.Test.YtoijfckollafhaaGreatNat1
namespace Go.Proofs.YtoijfckollafhaaGreat
open Go.RowKit

/-- limbs times a word, and a carry -/
def mac (base : Nat) : List Nat → Nat → List Nat × Nat
  | [], c => ([], c)
  | x :: xs, c => ((c + x * base) % 4294967296 :: (mac base xs ((c + x * base) / 4294967296)).1, (mac base xs ((c + x * base) / 4294967296)).2)

theorem mac_snoc (base : Nat) (xs : List Nat) (x c : Nat) :
    mac base (xs ++ [x]) c = ((mac base xs c).1 ++ [((mac base xs c).2 + x * base) % 4294967296], ((mac base xs c).2 + x * base) / 4294967296) := by
  induction xs generalizing c with
  | nil => simp [mac]
  | cons y ys ih => simp [mac, ih]

theorem mac_len (base : Nat) (xs : List Nat) (c : Nat) : (mac base xs c).1.length = xs.length := by
  induction xs generalizing c with
  | nil => rfl
  | cons y ys ih => simp [mac, ih]

theorem mac_val (base : Nat) (xs : List Nat) (c : Nat) : natOf (mac base xs c).1 + 4294967296 ^ xs.length * (mac base xs c).2 = natOf xs * base + c := by
  induction xs generalizing c with
  | nil => simp [mac, natOf]
  | cons x xs ih =>
    have h := ih ((c + x * base) / 4294967296)
    have hd := Nat.div_add_mod (c + x * base) 4294967296
    simp only [mac, natOf, List.length_cons, Nat.pow_succ]
    generalize (mac base xs ((c + x * base) / 4294967296)).1 = A at *
    generalize (mac base xs ((c + x * base) / 4294967296)).2 = C at *
    generalize (c + x * base) / 4294967296 = q at *
    generalize (c + x * base) % 4294967296 = r at *
    have e1 : 4294967296 ^ xs.length * 4294967296 * C = 4294967296 * (4294967296 ^ xs.length * C) := by rw [Nat.mul_comm (4294967296 ^ xs.length), Nat.mul_assoc]
    rw [e1, Nat.add_assoc, ← Nat.mul_add, h, Nat.add_mul, Nat.mul_add, Nat.mul_assoc]
    omega

theorem mac_lt (base : Nat) (xs : List Nat) (c : Nat) : ∀ y, y ∈ (mac base xs c).1 → y < 4294967296 := by
  induction xs generalizing c with
  | nil => simp [mac]
  | cons x xs ih =>
    intro y hy
    simp only [mac, List.mem_cons] at hy
    rcases hy with rfl | hy
    · exact Nat.mod_lt _ (by decide)
    · exact ih _ y hy

/-- the number that digits of a base make -/
def ofDigits (base : Nat) (ds : List Nat) : Nat := ds.foldl (fun n d => n * base + d) 0

theorem ofDigits_snoc (base : Nat) (ds : List Nat) (d : Nat) : ofDigits base (ds ++ [d]) = ofDigits base ds * base + d := by simp [ofDigits]

/-- what the round does to the limbs -/
def macPush (base : Nat) (xs : List Nat) (d : Nat) : List Nat := if (mac base xs d).2 = 0 then (mac base xs d).1 else (mac base xs d).1 ++ [(mac base xs d).2]

theorem macPush_val (base : Nat) (xs : List Nat) (d : Nat) : natOf (macPush base xs d) = natOf xs * base + d := by
  have h := mac_val base xs d
  unfold macPush
  split
  · rename_i h0
    rw [h0] at h
    simpa using h
  · rw [natOf_snoc, mac_len, h]

end Go.Proofs.YtoijfckollafhaaGreat
