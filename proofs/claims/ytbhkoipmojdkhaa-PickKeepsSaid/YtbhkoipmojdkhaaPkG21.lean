/- What functions of the pick seat return, part 21. No condition. -/
import Derived.Test.YtbhkoipmojdkhaaPkG20
set_option linter.all false
namespace Go.Proofs.Ytbhkoipmojdkhaa
open Go Go.Gx Go.RowKit
theorem co12 : callOk Try.prog 12 = true := by kernel_rfl
end Go.Proofs.Ytbhkoipmojdkhaa
