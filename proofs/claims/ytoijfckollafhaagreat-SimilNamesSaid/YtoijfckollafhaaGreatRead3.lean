/- numeral.read: a text as a number. -/
import Derived.Test.YtoijfckollafhaaGreatRead2
namespace Go.Proofs.YtoijfckollafhaaGreat
open Go.RowKit

/-- what a text's runes say: the sign, the number, the denominator, the error -/
def readF (frac : Bool) (L : List Nat) : Bool × Nat × Nat × Nat :=
  if num1 L = [] then (false, 0, 0, 20)
  else if frac && ahead 3 (end1 L) then
    if allNought (end1 L).tail && !(end1 L).tail.isEmpty then (false, 0, 0, 20)
    else if digs (end1 L).tail = [] then (false, 0, 0, 20)
    else if past (end1 L).tail ≠ [] then (false, 0, 0, 20)
    else if 10000 < (num1 L).length + (digs (end1 L).tail).length then (false, 0, 0, 4)
    else (neg1 L && decide (ofDigits 10 ((num1 L).map worth) ≠ 0), ofDigits 10 ((num1 L).map worth), ofDigits 10 ((digs (end1 L).tail).map worth), 0)
  else if end1 L ≠ [] then (false, 0, 0, 20)
  else if 10000 < (num1 L).length then (false, 0, 0, 4)
  else (neg1 L && decide (ofDigits 10 ((num1 L).map worth) ≠ 0), ofDigits 10 ((num1 L).map worth), 1, 0)

/-- a fraction's value -/
def FracSays (w w' : World) (e : Ending) (x : Bool × Nat × Nat × Nat) : Prop :=
  ∃ q1 q2, e = .returned (.tuple #[.agg #[.bool x.1, q1, .bool false, q2], .int .i64 (x.2.2.2 : Nat)]) ∧ Limbs w.heap.size w'.heap.size w' q1 (toL x.2.1) ∧ Limbs w.heap.size w'.heap.size w' q2 (toL x.2.2.1)

end Go.Proofs.YtoijfckollafhaaGreat
