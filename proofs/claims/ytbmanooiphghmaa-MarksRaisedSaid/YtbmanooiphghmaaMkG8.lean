/- What functions of the marks seat return, part 8. No condition. -/
import Derived.Test.YtbmanooiphghmaaMkG7
set_option linter.all false
namespace Go.Proofs.Ytbmanooiphghmaa
open Go Go.Gx Go.RowKit
theorem sz54 : (Try.prog.info? 54).map (·.size) = some 1 := by kernel_rfl
end Go.Proofs.Ytbmanooiphghmaa
