/- The laws of marks: what the code has and what the document has, call by call. No condition. -/
import Derived.Test.YtbmanooiphghmaaMkG9
set_option linter.all false
set_option linter.unusedSimpArgs false
namespace Go.Proofs.Ytbmanooiphghmaa
open Go Go.Gx
/-! ### Rising lists -/
abbrev Ris (l : List Mark) : Prop := l.Pairwise (fun a b => a.seq < b.seq)
abbrev bI (l : List Mark) (t : Int) : Nat := bfI (fun a => decide (cmpI a.seq t < 0)) l
/-! ### Both tell the same -/
structure Rel (m : MSt) (r : RSt) : Prop where
  crew : m.crew = r.crew
  low : m.low = r.mark
  ok : check r.crew = 0
  nd : (m.list.map (·.1)).Nodup
  im : MInv m
  ir : RInv r
  of : ∀ n, (mget m.list n).getD [] = rofL r n
  ris : ∀ n, Ris (rofL r n)
theorem mget_map {l : List (Int × List Mark)} {f : List Mark → List Mark} {n : Int} : mget (l.map (fun p => (p.1, f p.2))) n = (mget l n).map f := by
  induction l with
  | nil => rfl
  | cons p r ih =>
    by_cases hp : p.1 = n
    · simp [mget, hp]
    · simp only [List.map_cons, mget, hp, if_false]; exact ih
theorem filt_rfilt (x : Mark) (l : List Mark) : filt x l = rfilt x l := by
  unfold filt rfilt
  apply List.filter_congr
  intro a _
  rw [Bool.eq_iff_iff]; simp
end Go.Proofs.Ytbmanooiphghmaa
