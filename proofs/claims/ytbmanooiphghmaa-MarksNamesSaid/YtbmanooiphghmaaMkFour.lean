/- The laws of MarksFour. No condition. -/
import Derived.Test.YtbmanooiphghmaaMkLaws
set_option linter.all false
set_option linter.unusedSimpArgs false
namespace Go.Proofs.Ytbmanooiphghmaa
open Go Go.Gx
/-! ### A node that tells ever greater ones -/
def f4b : MSt := (voteM (voteM (voteM ⟨crewI 1, ⟨0, Dig.zero⟩, []⟩ 1 (markI 1 (0 : UInt8))).1 2 (markI 1 (0 : UInt8))).1 4 (markI 1 (0 : UInt8))).1
def f4 : Nat → MSt
  | 0 => f4b
  | k + 1 => (voteM (f4 k) 3 (markI ((k + 1 : Nat) : Int) 0)).1
end Go.Proofs.Ytbmanooiphghmaa
