/- What functions of the marks seat return, part 15. No condition. -/
import Derived.Test.YtbmanooiphghmaaMkG14
import Derived.Test.YtbmanooiphghmaaMkRais
set_option linter.all false
namespace Go.Proofs.Ytbmanooiphghmaa
open Go Go.Gx Go.RowKit
end Go.Proofs.Ytbmanooiphghmaa
