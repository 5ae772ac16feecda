/- What comes in, as it reads, is data over memory that stays; and the row's last step. No condition. -/
import Derived.Test.YtljcgggflgbenaaGreatDoorGxMap
import Derived.ChangeArms
import Derived.ProofKit
import Derived.SizedLaws
import Derived.ChangeOld
import Derived.OpenShut
import Derived.Below
set_option linter.all false
namespace Go.Gx
open Go Go.RowKit Go.ChangeShapes Go.WideShapes

/-- The whole heap stays. -/
def hG (W : World) : Gh := fun b => W.heap[b]?
theorem hG_holds (W : World) : Holds (hG W) W := fun _ _ h => h
section
variable {P : Program} {T : Nat}
theorem cells_row {W : World} {base n : Nat} {a : Addr} {cs : List Value} (h : W.cells? base a n = some cs) (hn : 0 < n) : a.spot = none ∧ cs.length = n ∧ RowG (hG W) a.block a.off cs := by
  unfold World.cells? at h
  split at h
  · have hl := mapM_some_length h
    have hg := mapM_some_get h
    have h0 := hg 0 0 (by simp [hn])
    have hlen : cs.length = n := by simpa using hl
    have hc0 : cs[0]? = some cs[0] := List.getElem?_eq_getElem (by omega)
    rw [hc0] at h0
    have ha0 : a.add 0 = a := by simp [Addr.add]
    rw [ha0] at h0
    unfold World.cell? at h0
    split at h0
    · rename_i c T fz hb
      split at h0
      · cases h0
      · rename_i hsp
        have hs : a.spot = none := by simpa using hsp
        refine ⟨hs, hlen, ⟨c, T, fz, hb, fun j u hj => ?_⟩⟩
        have hjn : j < n := by have := (List.getElem?_eq_some_iff.1 hj).1; omega
        have hj' := hg j j (by simp [hjn])
        rw [hj] at hj'
        by_cases hz : j = 0
        · subst hz
          rw [ha0] at hj'
          unfold World.cell? at hj'
          rw [hb] at hj'
          simpa [hs] using hj'
        · unfold World.cell? at hj'
          simpa [Addr.add, hz, hb] using hj'
    · cases h0
  · cases h
def fieldsOf (P : Program) (t : Nat) (L : List (Nat × Nat)) : Bool := match P.underlying t with | some (.struct fs) => fs.toList.map (fun f => (f.type, f.offset)) == L | _ => false
end
end Go.Gx

namespace Go.Gx
open Go Go.RowKit
variable {M : Mu}
section
variable {P : Program} {N : Nat} {e : Env} {w : World} {d : Option Tmp} {ty : TypeId} {pos : String} {af : Array Edge} {gd : Option (Nat × Bool)}
end
end Go.Gx

namespace Go.Gx
open Go Go.RowKit
section
variable {P : Program} {N : Nat} {e : Env} {w : World} {d : Option Tmp} {ty : TypeId} {pos : String} {af : Array Edge} {gd : Option (Nat × Bool)}
end
end Go.Gx
