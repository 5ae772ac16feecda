/- What functions of the slots seat return, part 6. No condition. -/
import Derived.Test.YtljcgggflgbenaaDoorSlG5
import Derived.Test.YtljcgggflgbenaaDoorSlLaw2
set_option linter.all false
namespace Go.Proofs.YtljcgggflgbenaaDoor
open Go Go.Gx Go.RowKit
theorem ub4 : Tryd.prog.underlying 4 = some .bool := by kernel_rfl
theorem co21 : callOk Tryd.prog 21 = true := by kernel_rfl
end Go.Proofs.YtljcgggflgbenaaDoor
