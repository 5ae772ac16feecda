/- What comes in, as it reads, is data over memory that stays; and the row's last step. No condition. -/
import Derived.Test.YtbhkoipmojdkhaaGxMap
import Derived.ChangeArms
import Derived.ProofKit
import Derived.SizedLaws
import Derived.ChangeOld
import Derived.OpenShut
import Derived.Below
set_option linter.all false
namespace Go.Gx
open Go Go.RowKit Go.ChangeShapes Go.WideShapes

/-- The whole heap stays. -/
def hG (W : World) : Gh := fun b => W.heap[b]?
theorem hG_holds (W : World) : Holds (hG W) W := fun _ _ h => h
section
variable {P : Program} {T : Nat}
def fieldsOf (P : Program) (t : Nat) (L : List (Nat × Nat)) : Bool := match P.underlying t with | some (.struct fs) => fs.toList.map (fun f => (f.type, f.offset)) == L | _ => false
end
end Go.Gx
