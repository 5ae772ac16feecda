/- What functions of the slots seat return, part 5. No condition. -/
import Derived.Test.YtljcgggflgbenaaDoorSlG4
import Derived.Test.YtljcgggflgbenaaDoorSlLaw
set_option linter.all false
namespace Go.Proofs.YtljcgggflgbenaaDoor
open Go Go.Gx Go.RowKit
theorem co16 : callOk Tryd.prog 16 = true := by kernel_rfl
end Go.Proofs.YtljcgggflgbenaaDoor
