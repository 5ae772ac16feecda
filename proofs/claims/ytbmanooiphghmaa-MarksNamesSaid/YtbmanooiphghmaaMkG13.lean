/- What functions of the marks seat return, part 13. No condition. -/
import Derived.Test.YtbmanooiphghmaaMkG12
import Derived.Test.YtbmanooiphghmaaMkLaws
set_option linter.all false
namespace Go.Proofs.Ytbmanooiphghmaa
open Go Go.Gx Go.RowKit
end Go.Proofs.Ytbmanooiphghmaa
