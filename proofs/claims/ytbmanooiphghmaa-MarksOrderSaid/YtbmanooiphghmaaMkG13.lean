/- What functions of the marks seat return, part 13. No condition. -/
import Derived.Test.YtbmanooiphghmaaMkG12
import Derived.Test.YtbmanooiphghmaaMkLaws
set_option linter.all false
namespace Go.Proofs.Ytbmanooiphghmaa
open Go Go.Gx Go.RowKit
theorem isl45 : isSlice Try.prog 45 = true := by kernel_rfl
theorem slo45 : sliceOk Try.prog 45 48 3 = true := by kernel_rfl
theorem fo48_0 : fieldOk Try.prog 48 0 0 = true := by kernel_rfl
theorem fo48_2 : fieldOk Try.prog 48 2 2 = true := by kernel_rfl
theorem fo48_1 : fieldOk Try.prog 48 1 1 = true := by kernel_rfl
end Go.Proofs.Ytbmanooiphghmaa
