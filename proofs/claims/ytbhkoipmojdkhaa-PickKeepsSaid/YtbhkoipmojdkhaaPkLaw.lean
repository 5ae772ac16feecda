/- Laws on plain lists: comparing bytes. No condition. -/
import Derived.Test.YtbhkoipmojdkhaaPkG0
set_option linter.all false
namespace Go.Proofs.Ytbhkoipmojdkhaa
open Go Go.Gx
end Go.Proofs.Ytbhkoipmojdkhaa
