/- What functions of the pick seat return, part 20. No condition. -/
import Derived.Test.YtbhkoipmojdkhaaPkG19
set_option linter.all false
namespace Go.Proofs.Ytbhkoipmojdkhaa
open Go Go.Gx Go.RowKit
end Go.Proofs.Ytbhkoipmojdkhaa
