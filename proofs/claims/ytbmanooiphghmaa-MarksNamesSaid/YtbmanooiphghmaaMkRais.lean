/- The laws of MarksRaised. No condition. -/
import Derived.Test.YtbmanooiphghmaaMkFour
set_option linter.all false
set_option linter.unusedSimpArgs false
namespace Go.Proofs.Ytbmanooiphghmaa
open Go Go.Gx
/-! ### Behind Raise -/
structure RsJ (m : MSt) : Prop where
  crew : m.crew = crewI 1
  low : m.low = ⟨0, Dig.zero⟩
end Go.Proofs.Ytbmanooiphghmaa
