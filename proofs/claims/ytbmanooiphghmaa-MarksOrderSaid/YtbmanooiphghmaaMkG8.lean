/- What functions of the marks seat return, part 8. No condition. -/
import Derived.Test.YtbmanooiphghmaaMkG7
set_option linter.all false
namespace Go.Proofs.Ytbmanooiphghmaa
open Go Go.Gx Go.RowKit
end Go.Proofs.Ytbmanooiphghmaa
