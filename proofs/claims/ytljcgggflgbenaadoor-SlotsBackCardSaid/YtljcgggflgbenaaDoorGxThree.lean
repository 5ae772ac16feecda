/- More operations: bits. No condition. -/
import Derived.Test.YtljcgggflgbenaaDoorGxTwo
set_option linter.all false
namespace Go.Gx
open Go Go.RowKit
def shrI (a b : Int) : Int := a.fdiv (2 ^ (min b.toNat 64))
def andI (a b : Int) : Int := IntKind.wrap .i64 ((BitVec.ofInt 64 a &&& BitVec.ofInt 64 b).toNat : Int)
section
variable {P : Program} {N : Nat} {e : Env} {w : World} {d : Option Tmp} {ty : TypeId} {pos : String} {af : Array Edge} {gd : Option (Nat × Bool)}
theorem opShrI {t yt : TypeId} {x y : Operand} {k : IntKind} {a b : Int} (hx : opv e x = some (.int .i64 a)) (hy : opv e y = some (.int k b)) (h0 : 0 ≤ b) :
    OpVal P N e w ⟨d, .binOp .shr t x y yt, ty, pos, af, gd⟩ (.int .i64 (shrI a b)) := opBin hx hy (by
    have : ¬ b < 0 := by omega
    simp [binOp, Op.shift, IntKind.bits, this, shrI])
theorem opAndI {t yt : TypeId} {x y : Operand} {a b : Int} (hx : opv e x = some (.int .i64 a)) (hy : opv e y = some (.int .i64 b)) :
    OpVal P N e w ⟨d, .binOp .and t x y yt, ty, pos, af, gd⟩ (.int .i64 (andI a b)) := opBin hx hy rfl
theorem wrap_u8 {m : Nat} (h : m < 256) : IntKind.wrap .u8 (m : Int) = m := by
  simp only [IntKind.wrap, IntKind.signed, IntKind.bits]; simp; omega
theorem u8_and (a b : UInt8) : IntKind.wrap .u8 ((BitVec.ofInt 8 (a.toNat : Int) &&& BitVec.ofInt 8 (b.toNat : Int)).toNat : Int) = ((a &&& b).toNat : Int) := by
  have h1 : BitVec.ofInt 8 (a.toNat : Int) = a.toBitVec := by rw [BitVec.ofInt_natCast]; simp
  have h2 : BitVec.ofInt 8 (b.toNat : Int) = b.toBitVec := by rw [BitVec.ofInt_natCast]; simp
  rw [h1, h2]
  have h3 : (a.toBitVec &&& b.toBitVec).toNat = (a &&& b).toNat := rfl
  rw [h3]
  have h4 := (a &&& b).toNat_lt
  exact wrap_u8 h4
theorem opAndU8 {t yt : TypeId} {x y : Operand} {a b : UInt8} (hx : opv e x = some (.int .u8 (a.toNat : Int))) (hy : opv e y = some (.int .u8 (b.toNat : Int))) :
    OpVal P N e w ⟨d, .binOp .and t x y yt, ty, pos, af, gd⟩ (.int .u8 ((a &&& b).toNat : Int)) := opBin hx hy ((show _ = Result.ok (Value.int .u8 (IntKind.wrap .u8 ((BitVec.ofInt 8 (a.toNat : Int) &&& BitVec.ofInt 8 (b.toNat : Int)).toNat : Int))) w from rfl).trans (by rw [u8_and]))
theorem opAddU8 {t yt : TypeId} {x y : Operand} {a b : UInt8} (hx : opv e x = some (.int .u8 (a.toNat : Int))) (hy : opv e y = some (.int .u8 (b.toNat : Int))) :
    OpVal P N e w ⟨d, .binOp .add t x y yt, ty, pos, af, gd⟩ (.int .u8 ((a + b).toNat : Int)) := opBin hx hy (by
    have h5 : IntKind.wrap .u8 ((a.toNat : Int) + (b.toNat : Int)) = ((a + b).toNat : Int) := by
      rw [UInt8.toNat_add]
      simp only [IntKind.wrap, IntKind.signed, IntKind.bits]; simp
    simp [binOp, Op.intArith, h5])
end
end Go.Gx
