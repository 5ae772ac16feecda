/- What functions of the pick seat return, part 26. No condition. -/
import Derived.Test.YtbhkoipmojdkhaaPkG25
set_option linter.all false
namespace Go.Proofs.Ytbhkoipmojdkhaa
open Go Go.Gx Go.RowKit
theorem f12 (n : Int) : IntKind.wrap .i64 (1 + bringI n 2) = 1 ∨ IntKind.wrap .i64 (1 + bringI n 2) = 2 := by
  have h : 0 ≤ bringI n 2 ∧ bringI n 2 < 2 := bring_rng n (m := 2) (by decide) (by decide)
  rw [IntWalk.i64_in _ (by omega)]; omega
theorem n3 {f : Int} (h : f = 1 ∨ f = 2) : IntKind.wrap .i64 (IntKind.wrap .i64 (3 * f) + 1) = 3 * f + 1 := by
  rcases h with rfl | rfl <;> rfl
theorem has_crew {f n : Int} (hf : f = 1 ∨ f = 2) (h1 : 1 ≤ n) (h2 : n ≤ 3 * f + 1) : has (crewI f) n = true := by
  rw [has_rhas]
  rcases hf with rfl | rfl
  · have : n = 1 ∨ n = 2 ∨ n = 3 ∨ n = 4 := by omega
    rcases this with rfl | rfl | rfl | rfl <;> decide
  · have : n = 1 ∨ n = 2 ∨ n = 3 ∨ n = 4 ∨ n = 5 ∨ n = 6 ∨ n = 7 := by omega
    rcases this with rfl | rfl | rfl | rfl | rfl | rfl | rfl <;> decide
theorem crew_nums {f : Int} (hf : f = 1 ∨ f = 2) : (check (crewI f) != 0) = false ∧ most (crewI f) = 2 * f + 1 ∧ some_ (crewI f) = f + 1 := by
  rcases hf with rfl | rfl <;> decide
theorem isl44 : isSlice Try.prog 44 = true := by kernel_rfl
theorem slo44 : sliceOk Try.prog 44 5 1 = true := by kernel_rfl
end Go.Proofs.Ytbhkoipmojdkhaa
