/- What functions of the marks seat return, part 16. No condition. -/
import Derived.Test.YtbmanooiphghmaaMkG15
import Derived.Test.YtbmanooiphghmaaMkOrd
set_option linter.all false
namespace Go.Proofs.Ytbmanooiphghmaa
open Go Go.Gx Go.RowKit
end Go.Proofs.Ytbmanooiphghmaa
