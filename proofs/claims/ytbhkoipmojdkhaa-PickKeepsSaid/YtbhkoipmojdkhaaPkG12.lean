/- What functions of the pick seat return, part 12. No condition. -/
import Derived.Test.YtbhkoipmojdkhaaPkG11
import Derived.Test.YtbhkoipmojdkhaaPkLaw
set_option linter.all false
namespace Go.Proofs.Ytbhkoipmojdkhaa
open Go Go.Gx Go.RowKit
end Go.Proofs.Ytbhkoipmojdkhaa
