/- The laws of MarksOrder. No condition. -/
import Derived.Test.YtbmanooiphghmaaMkRais
set_option linter.all false
set_option linter.unusedSimpArgs false
namespace Go.Proofs.Ytbmanooiphghmaa
open Go Go.Gx
/-! ### In which order nodes are heard -/
def ofM (m : MSt) (n : Int) : List Mark := (mget m.list n).getD []
def wM (w : Word) : Mark := markI w.seq w.b
structure OkW (w : Word) : Prop where
  n : 1 ≤ w.node ∧ w.node ≤ 4
  s : 1 ≤ w.seq ∧ w.seq ≤ 4
structure OrdJ (m : MSt) (L : List Word) : Prop where
  crew : m.crew = crewI 1
  low : m.low = ⟨0, Dig.zero⟩
  good : MGood m
  ok : ∀ w ∈ L, OkW w
  of : ∀ n y, y ∈ ofM m n ↔ ∃ w ∈ L, w.node = n ∧ y = wM w
theorem OrdJ.ext {m : MSt} {L L' : List Word} (h : OrdJ m L) (he : ∀ w, w ∈ L ↔ w ∈ L') : OrdJ m L' :=
  ⟨h.crew, h.low, h.good, fun w hw => h.ok w ((he w).2 hw), fun n y => by
    rw [h.of n y]
    exact ⟨fun ⟨w, hw, r⟩ => ⟨w, (he w).1 hw, r⟩, fun ⟨w, hw, r⟩ => ⟨w, (he w).2 hw, r⟩⟩⟩
section
variable {a b : MSt} {fit : List Word} {q : Nat} {w : Word}
end
end Go.Proofs.Ytbmanooiphghmaa
