/- numeral.Int, numeral.Frac; the law's num, same. -/
import Derived.Test.YtoijfckollafhaaGreatPlain
namespace Go.Proofs.YtoijfckollafhaaGreat
open Go.RowKit

/-- a fraction with its limbs -/
def IsFrac (lo hi : Nat) (w : World) (v : Value) (x : Bool × List Nat × Bool × List Nat) : Prop :=
  ∃ q p, v = .agg #[.bool x.1, q, .bool x.2.2.1, p] ∧ Limbs lo hi w q x.2.1 ∧ Limbs lo hi w p x.2.2.2

end Go.Proofs.YtoijfckollafhaaGreat
