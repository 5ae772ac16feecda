/- What functions of the marks seat return, part 10. No condition. -/
import Derived.Test.YtbmanooiphghmaaMkG9
import Derived.Test.YtbmanooiphghmaaMkRel
set_option linter.all false
namespace Go.Proofs.Ytbmanooiphghmaa
open Go Go.Gx Go.RowKit
theorem co20 : callOk Try.prog 20 = true := by kernel_rfl
theorem co21 : callOk Try.prog 21 = true := by kernel_rfl
theorem ub4 : Try.prog.underlying 4 = some .bool := by kernel_rfl
theorem co23 : callOk Try.prog 23 = true := by kernel_rfl
theorem co22 : callOk Try.prog 22 = true := by kernel_rfl
theorem co24 : callOk Try.prog 24 = true := by kernel_rfl
end Go.Proofs.Ytbmanooiphghmaa
