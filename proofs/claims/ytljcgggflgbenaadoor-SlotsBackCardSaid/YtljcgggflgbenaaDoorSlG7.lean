/- What functions of the slots seat return, part 7. No condition. -/
import Derived.Test.YtljcgggflgbenaaDoorSlG6
set_option linter.all false
namespace Go.Proofs.YtljcgggflgbenaaDoor
open Go Go.Gx Go.RowKit
theorem nk1_1 : newOk (crewI 1) 1 0 = true := by kernel_rfl
theorem isl22 : isSlice Tryd.prog 22 = true := by kernel_rfl
theorem co10 : callOk Tryd.prog 10 = true := by kernel_rfl
theorem slo22 : sliceOk Tryd.prog 22 27 5 = true := by kernel_rfl
theorem row27 : rowOk Tryd.prog 27 5 = true := by kernel_rfl
theorem co9 : callOk Tryd.prog 9 = true := by kernel_rfl
theorem zero27 : (Tryd.prog.info? 27).bind (fun i => i.zero.map Value.cells) = some ([(.int .i64 0), (.int .i64 0), (.int .i64 0), (.bool false), (.int .u8 0)] : List Value).toArray := by kernel_rfl
theorem sz27 : (Tryd.prog.info? 27).map (·.size) = some 5 := by kernel_rfl
end Go.Proofs.YtljcgggflgbenaaDoor
