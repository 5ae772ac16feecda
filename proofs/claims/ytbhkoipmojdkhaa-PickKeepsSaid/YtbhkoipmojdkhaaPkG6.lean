/- What functions of the pick seat return, part 6. No condition. -/
import Derived.Test.YtbhkoipmojdkhaaPkG5
set_option linter.all false
namespace Go.Proofs.Ytbhkoipmojdkhaa
open Go Go.Gx Go.RowKit
def rhasB (c : Crew) (n : Int) : Bool := (check c == 0) && c.nodes.any (fun y => y == n)
end Go.Proofs.Ytbhkoipmojdkhaa
