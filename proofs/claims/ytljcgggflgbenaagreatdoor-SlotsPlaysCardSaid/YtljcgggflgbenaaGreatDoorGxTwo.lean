/- More operations: differences of naturals, remainders that are naturals. No condition. -/
import Derived.Test.YtljcgggflgbenaaGreatDoorGxMap
set_option linter.all false
namespace Go.Gx
open Go Go.RowKit
variable {M : Mu}
section
variable {P : Program} {N : Nat} {e : Env} {w : World} {d : Option Tmp} {ty : TypeId} {pos : String} {af : Array Edge} {gd : Option (Nat × Bool)}
end
end Go.Gx
