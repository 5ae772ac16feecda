/- What functions of the pick seat return, part 13. No condition. -/
import Derived.Test.YtbhkoipmojdkhaaPkG12
set_option linter.all false
namespace Go.Proofs.Ytbhkoipmojdkhaa
open Go Go.Gx Go.RowKit
theorem so58 : structOk Try.prog 58 [(0, 1), (1, 32), (33, 1)] = true := by kernel_rfl
end Go.Proofs.Ytbhkoipmojdkhaa
