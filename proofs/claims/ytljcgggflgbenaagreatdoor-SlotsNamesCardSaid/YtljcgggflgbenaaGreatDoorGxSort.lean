/- An element of a constant string. No condition. -/
import Derived.Test.YtljcgggflgbenaaGreatDoorGxTail
set_option linter.all false
namespace Go.Gx
open Go Go.RowKit
section
variable {P : Program} {N : Nat} {e : Env} {w : World} {d : Option Tmp} {ty : TypeId} {pos : String} {af : Array Edge} {gd : Option (Nat × Bool)}
theorem opIndexStr {t : Nat} {x y : Operand} {s : ByteArray} {i m : Nat} {k : IntKind} (ht : P.underlying t = some .string) (hx : opv e x = some (.string s)) (hy : opv e y = some (.int k (i : Int))) (h : ∃ u, s[i]? = some u ∧ u.toNat = m) :
    OpVal P N e w ⟨d, .index t x y, ty, pos, af, gd⟩ (.int .u8 (m : Int)) := fun a ha => by
  obtain ⟨u, h1, h2⟩ := h
  simp [execOp, ha.eval hx, ha.eval hy, Instr.index, asIntOf, run_underlying ht, h1, h2]
theorem opPtrNe {x y : Operand} {t yt : TypeId} {p : Option Addr} (ht : isPtr P t = true) (hx : opv e x = some (.pointer p)) (hy : opv e y = some (.pointer none)) : OpVal P N e w ⟨d, .binOp .neq t x y yt, ty, pos, af, gd⟩ (.bool (!p.isNone)) := fun a ha => by
  have := run_neq_pointer_nil (P := P) w t p (ptr_of ht)
  have hg : (eqGuard .neq t x y (.pointer p) (.pointer none)).run P w = .ok () w := rfl
  simp [execOp, ha.eval hx, ha.eval hy, this, hg]
theorem wrap_u8_nat {a : Nat} (h : a < 256) : IntKind.u8.wrap (a : Int) = (a : Int) := by
  simp only [IntKind.wrap, IntKind.bits, IntKind.signed]; simp; omega
end
end Go.Gx
