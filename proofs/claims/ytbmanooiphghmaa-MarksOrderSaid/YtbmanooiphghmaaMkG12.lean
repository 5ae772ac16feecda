/- What functions of the marks seat return, part 12. No condition. -/
import Derived.Test.YtbmanooiphghmaaMkG11
set_option linter.all false
namespace Go.Proofs.Ytbmanooiphghmaa
open Go Go.Gx Go.RowKit
theorem co17 : callOk Try.prog 17 = true := by kernel_rfl
theorem co11 : callOk Try.prog 11 = true := by kernel_rfl
end Go.Proofs.Ytbmanooiphghmaa
