/- The laws of marks: what the code has and what the document has, call by call. No condition. -/
import Derived.Test.YtbmanooiphghmaaMkG9
set_option linter.all false
set_option linter.unusedSimpArgs false
namespace Go.Proofs.Ytbmanooiphghmaa
open Go Go.Gx
/-! ### Rising lists -/
abbrev Ris (l : List Mark) : Prop := l.Pairwise (fun a b => a.seq < b.seq)
abbrev bI (l : List Mark) (t : Int) : Nat := bfI (fun a => decide (cmpI a.seq t < 0)) l
/-! ### Both tell the same -/
structure Rel (m : MSt) (r : RSt) : Prop where
  crew : m.crew = r.crew
  low : m.low = r.mark
  ok : check r.crew = 0
  nd : (m.list.map (·.1)).Nodup
  im : MInv m
  ir : RInv r
  of : ∀ n, (mget m.list n).getD [] = rofL r n
  ris : ∀ n, Ris (rofL r n)
end Go.Proofs.Ytbmanooiphghmaa
