/- What functions of the pick seat return, part 10. No condition. -/
import Derived.Test.YtbhkoipmojdkhaaPkG9
set_option linter.all false
namespace Go.Proofs.Ytbhkoipmojdkhaa
open Go Go.Gx Go.RowKit
end Go.Proofs.Ytbhkoipmojdkhaa
