/- What functions of the pick seat return, part 9. No condition. -/
import Derived.Test.YtbhkoipmojdkhaaPkG8
set_option linter.all false
namespace Go.Proofs.Ytbhkoipmojdkhaa
open Go Go.Gx Go.RowKit
end Go.Proofs.Ytbhkoipmojdkhaa
