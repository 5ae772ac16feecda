/- Own slices opened to their cells: copies within and between them, zeros appended, the library's look for what overlaps. No condition. -/
import Derived.Test.YtljcgggflgbenaaGreatDoorGxLend
import Derived.Laws.Externs
set_option linter.all false
namespace Go.Gx
open Go Go.RowKit
variable {M : Mu}
section
variable {P : Program} {ops : Array Oper} {Q : Exit → Act → World → Prop} {N : Nat} {e : Env} {w w0 : World} {G0 G : Gh} {rest : List Oper} {d : Option Tmp} {ty : TypeId} {pos : String} {af : Array Edge} {gd : Option (Nat × Bool)} {bl : List Bx}
end
section
variable {α : Type} [Rp α] {G : Gh}
theorem Rows2.drop : ∀ {rs : List (List Value)} {xs : List α}, Rows2 G rs xs → ∀ m, Rows2 G (rs.drop m) (xs.drop m)
  | [], [], _, m => by simp; trivial
  | r :: rs, x :: xs, h, 0 => h
  | r :: rs, x :: xs, h, m + 1 => Rows2.drop h.2 m
  | [], _ :: _, h, _ => h.elim
  | _ :: _, [], h, _ => h.elim
theorem Ow.ofRaw {T g n cap : Nat} {cs : List Value} {rows : List (List Value)} {ys : List α} (hR : Rows2 G rows ys) (hn : n = ys.length) (hc : n ≤ cap) (hm : cap ≤ maxLen) (hl : cs.length = cap * Rp.sz α) (ht : cs.take (n * Rp.sz α) = rows.flatten) :
    Ow G (some (g, T, cs)) T (.slice (some ⟨g, 0, none⟩) n cap) ys := by
  subst hn
  have hrl := hR.length
  exact ⟨rows, ⟨fun r hr => (hR.len r hr).1, rfl, 0, cap, by rw [hrl], by omega, hm, by rw [hl, Nat.zero_add], by rw [List.drop_zero, hrl]; exact ht⟩, hR⟩
end
section
variable {cs rest2 : List Value} {rows : List (List Value)} {n i sz cap cap2 : Nat} {xc : List Value}
end
end Go.Gx
