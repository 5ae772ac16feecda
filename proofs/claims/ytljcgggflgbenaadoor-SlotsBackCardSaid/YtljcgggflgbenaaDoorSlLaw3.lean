/- The laws of slots: safety, and what is restored. No condition. -/
import Derived.Test.YtljcgggflgbenaaDoorSlLaw2
set_option linter.all false
namespace Go.Proofs.YtljcgggflgbenaaDoor
open Go Go.Gx Go.RowKit
/-! ### SlotsSafe -/
structure SSlot (f : Int) (t u : SlotS) : Prop where
  l1 : t.last.view = 0
  l2 : u.last.view = 0
  n1 : (t.pre.map (·.1)).Nodup
  n2 : (u.pre.map (·.1)).Nodup
  k1 : ∀ k ∈ t.pre.map (·.1), k ∈ (crewI f).nodes
  k2 : ∀ k ∈ u.pre.map (·.1), k ∈ (crewI f).nodes
  same : ∀ n, f < n → mget t.pre n = mget u.pre n
theorem SSlot.swap {f : Int} {t u : SlotS} (h : SSlot f t u) : SSlot f u t := ⟨h.l2, h.l1, h.n2, h.n1, h.k2, h.k1, fun n hn => (h.same n hn).symm⟩
structure SJ (f : Int) (s s' : SlS) : Prop where
  c1 : s.crew = crewI f
  c2 : s'.crew = crewI f
  at_ : ∀ j, 1 ≤ j → j ≤ 8 → ∃ t u, s.f j = some t ∧ s'.f j = some u ∧ SSlot f t u
theorem SJ.swap {f : Int} {s s' : SlS} (h : SJ f s s') : SJ f s' s := ⟨h.c2, h.c1, fun j a b => by obtain ⟨t, u, h1, h2, h3⟩ := h.at_ j a b; exact ⟨u, t, h2, h1, h3.swap⟩⟩
def ind (b : Bool) : Nat := if b then 1 else 0
theorem f12 (faults : Int) : IntKind.wrap .i64 (1 + bringI faults 2) = 1 ∨ IntKind.wrap .i64 (1 + bringI faults 2) = 2 := by
  have := bring_in (n := faults) (m := 2) (by decide) (by decide)
  rw [IntWalk.i64_in _ (by omega)]; omega
end Go.Proofs.YtljcgggflgbenaaDoor
