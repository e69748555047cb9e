/- numeral's reader: what is deferred. -/
import Derived.Test.YtoijfckollafhaaGreatRead1
import Derived.Defers
import Derived.Recover
namespace Go.Proofs.YtoijfckollafhaaGreat
open Go.RowKit

end Go.Proofs.YtoijfckollafhaaGreat
