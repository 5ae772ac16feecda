/- What functions of the slots seat return, part 8. No condition. -/
import Derived.Test.YtljcgggflgbenaaDoorSlG7
import Derived.Test.YtljcgggflgbenaaDoorSlLaw3
set_option linter.all false
namespace Go.Proofs.YtljcgggflgbenaaDoor
open Go Go.Gx Go.RowKit
end Go.Proofs.YtljcgggflgbenaaDoor
