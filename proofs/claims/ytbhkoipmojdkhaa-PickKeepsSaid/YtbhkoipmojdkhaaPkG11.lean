/- What functions of the pick seat return, part 11. No condition. -/
import Derived.Test.YtbhkoipmojdkhaaPkG10
set_option linter.all false
namespace Go.Proofs.Ytbhkoipmojdkhaa
open Go Go.Gx Go.RowKit
theorem low12B_eq (m : Mark) (x : Change) : low12B m x = x.marks.any (fun y => decide (y = m)) := by
  unfold low12B; congr 1; funext y; rw [Bool.eq_iff_iff]; simp [eq_comm]
end Go.Proofs.Ytbhkoipmojdkhaa
