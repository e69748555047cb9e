/- simileref02's Norm, Sign, Neg, Of, Same, May. -/
import Derived.Test.YtoijfckollafhaaGreatRef5
namespace Go.Proofs.YtoijfckollafhaaGreat
open Go.RowKit

end Go.Proofs.YtoijfckollafhaaGreat
