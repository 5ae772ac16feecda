/- What functions of the marks seat return, part 14. No condition. -/
import Derived.Test.YtbmanooiphghmaaMkG13
import Derived.Test.YtbmanooiphghmaaMkFour
set_option linter.all false
namespace Go.Proofs.Ytbmanooiphghmaa
open Go Go.Gx Go.RowKit
end Go.Proofs.Ytbmanooiphghmaa
