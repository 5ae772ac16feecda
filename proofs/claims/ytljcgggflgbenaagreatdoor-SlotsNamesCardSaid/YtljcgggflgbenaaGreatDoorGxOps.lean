/- One lemma an operation, for the calculus of GxCore. No condition. -/
import Derived.Test.YtljcgggflgbenaaGreatDoorGxCore
import Derived.Deep.MidRow
set_option linter.all false
namespace Go.Gx
open Go Go.RowKit

/-! ### Facts on types, each a closed test -/
def fieldOk (P : Program) (s i off : Nat) : Bool :=
  match P.underlying s with
  | some (.struct fs) => match fs[i]? with
    | some f => Nat.beq f.offset off && (match P.info? f.type with | some t => !(Nat.beq t.size 0) | none => false)
    | none => false
  | _ => false
/-- A struct or an array of n cells. -/
def rowOk (P : Program) (t n : Nat) : Bool :=
  (match P.underlying t with | some (.struct _) => true | some (.array _ _) => true | _ => false) && (match P.info? t with | some i => Nat.beq i.size n | none => false)
/-- A type of one cell. -/
def oneOk (P : Program) (t : Nat) : Bool := (match P.underlying t with | some (.struct _) => false | some (.array _ _) => false | some _ => true | none => false)
def sliceOk (P : Program) (t e n : Nat) : Bool :=
  (match P.underlying t with | some (.slice e') => Nat.beq e e' | _ => false) && (match P.info? e with | some i => Nat.beq i.size n | none => false)
def isSlice (P : Program) (t : Nat) : Bool := match P.underlying t with | some (.slice _) => true | _ => false
def callOk (P : Program) (f : Nat) : Bool := match P.funcs[f]? with | some fn => fn.body.isSome && !(fn.name == "runtime.NumGoroutine") | none => false

theorem rowOk_of {P : Program} {t n : Nat} (h : rowOk P t n = true) : (∃ d, P.underlying t = some d ∧ d.isRow = true) ∧ (P.info? t).map (·.size) = some n := by
  unfold rowOk at h
  rw [Bool.and_eq_true] at h
  obtain ⟨h1, h2⟩ := h
  constructor
  · revert h1
    split
    · rename_i fs hu; intro _; exact ⟨_, hu, rfl⟩
    · rename_i n e hu; intro _; exact ⟨_, hu, rfl⟩
    · intro h; cases h
  · revert h2
    cases hq : P.info? t with
    | none => intro h; cases h
    | some i => intro h; simp at h ⊢; exact h
theorem sizeOf_of {P : Program} {t n : Nat} (h : (P.info? t).map (·.size) = some n) (w : World) : (sizeOf t).run P w = .ok n w := by
  cases hq : P.info? t with
  | none => simp [hq] at h
  | some i => simp [hq] at h; simp [sizeOf, typeInfo, hq, h]
theorem run_isAgg {P : Program} {t : Nat} {d : TypeDesc} (hu : P.underlying t = some d) (w : World) : (isAgg t).run P w = .ok d.isRow w := by
  unfold isAgg
  rw [Sem.run_bind, run_underlying hu w]
  cases d <;> simp [TypeDesc.isRow]

section
variable {P : Program} {N : Nat} {e : Env} {w : World} {d : Option Tmp} {ty : TypeId} {pos : String} {af : Array Edge} {gd : Option (Nat × Bool)}

/-! ### Values alone -/
theorem opMove {x : Operand} {v : Value} (hx : opv e x = some v) : OpVal P N e w ⟨d, .move x, ty, pos, af, gd⟩ v := fun a ha => by
  simp [execOp, ha.eval hx]
theorem opAssign {x : Operand} {v : Value} (hx : opv e x = some v) : OpVal P N e w ⟨d, .assign x, ty, pos, af, gd⟩ v := fun a ha => by
  simp [execOp, ha.eval hx]
theorem opPickT {c x y : Operand} {v : Value} (hc : opv e c = some (.bool true)) (hx : opv e x = some v) : OpVal P N e w ⟨d, .pick c x y, ty, pos, af, gd⟩ v := fun a ha => by
  simp [execOp, ha.eval hc, ha.eval hx, asBool]
theorem opPickF {c x y : Operand} {v : Value} (hc : opv e c = some (.bool false)) (hy : opv e y = some v) : OpVal P N e w ⟨d, .pick c x y, ty, pos, af, gd⟩ v := fun a ha => by
  simp [execOp, ha.eval hc, ha.eval hy, asBool]
theorem run_eqGuard_int {op : BinOp} {t : TypeId} {x y : Operand} {k k' : IntKind} {a b : Int} : (eqGuard op t x y (.int k a) (.int k' b)).run P w = .ok () w := by
  unfold eqGuard
  cases op <;> simp <;> rfl
theorem opBin {op : BinOp} {t yt : TypeId} {x y : Operand} {k k' : IntKind} {a b : Int} {v : Value} (hx : opv e x = some (.int k a)) (hy : opv e y = some (.int k' b))
    (hr : (binOp op t (.int k a) (.int k' b)).run P w = .ok v w) : OpVal P N e w ⟨d, .binOp op t x y yt, ty, pos, af, gd⟩ v := fun s hs => by
  simp only [execOp, hs.eval hx, hs.eval hy, Sem.run_bind, run_eqGuard_int, Result.andThen_ok, hr]
  rfl
theorem opLss {t yt : TypeId} {x y : Operand} {k : IntKind} {a b : Int} (hx : opv e x = some (.int k a)) (hy : opv e y = some (.int k b)) :
    OpVal P N e w ⟨d, .binOp .lss t x y yt, ty, pos, af, gd⟩ (.bool (decide (a < b))) := opBin hx hy (by simp [binOp, Op.intCmp])
theorem opLeq {t yt : TypeId} {x y : Operand} {k : IntKind} {a b : Int} (hx : opv e x = some (.int k a)) (hy : opv e y = some (.int k b)) :
    OpVal P N e w ⟨d, .binOp .leq t x y yt, ty, pos, af, gd⟩ (.bool (decide (a ≤ b))) := opBin hx hy (by simp [binOp, Op.intCmp])
theorem opGtr {t yt : TypeId} {x y : Operand} {k : IntKind} {a b : Int} (hx : opv e x = some (.int k a)) (hy : opv e y = some (.int k b)) :
    OpVal P N e w ⟨d, .binOp .gtr t x y yt, ty, pos, af, gd⟩ (.bool (decide (b < a))) := opBin hx hy (by simp [binOp, Op.intCmp])
theorem opGeq {t yt : TypeId} {x y : Operand} {k : IntKind} {a b : Int} (hx : opv e x = some (.int k a)) (hy : opv e y = some (.int k b)) :
    OpVal P N e w ⟨d, .binOp .geq t x y yt, ty, pos, af, gd⟩ (.bool (decide (b ≤ a))) := opBin hx hy (by simp [binOp, Op.intCmp])
theorem opEql {t yt : TypeId} {x y : Operand} {k : IntKind} {a b : Int} (hx : opv e x = some (.int k a)) (hy : opv e y = some (.int k b)) :
    OpVal P N e w ⟨d, .binOp .eql t x y yt, ty, pos, af, gd⟩ (.bool (a == b)) := opBin hx hy (by simp [binOp, Op.intCmp])
theorem opNeq {t yt : TypeId} {x y : Operand} {k : IntKind} {a b : Int} (hx : opv e x = some (.int k a)) (hy : opv e y = some (.int k b)) :
    OpVal P N e w ⟨d, .binOp .neq t x y yt, ty, pos, af, gd⟩ (.bool (a != b)) := opBin hx hy (by simp [binOp, Op.intCmp])
theorem opAdd {t yt : TypeId} {x y : Operand} {k : IntKind} {a b : Int} (hx : opv e x = some (.int k a)) (hy : opv e y = some (.int k b)) :
    OpVal P N e w ⟨d, .binOp .add t x y yt, ty, pos, af, gd⟩ (.int k (k.wrap (a + b))) := opBin hx hy (by simp [binOp, Op.intArith])
theorem opSub {t yt : TypeId} {x y : Operand} {k : IntKind} {a b : Int} (hx : opv e x = some (.int k a)) (hy : opv e y = some (.int k b)) :
    OpVal P N e w ⟨d, .binOp .sub t x y yt, ty, pos, af, gd⟩ (.int k (k.wrap (a - b))) := opBin hx hy (by simp [binOp, Op.intArith])
theorem opMul {t yt : TypeId} {x y : Operand} {k : IntKind} {a b : Int} (hx : opv e x = some (.int k a)) (hy : opv e y = some (.int k b)) :
    OpVal P N e w ⟨d, .binOp .mul t x y yt, ty, pos, af, gd⟩ (.int k (k.wrap (a * b))) := opBin hx hy (by simp [binOp, Op.intArith])
theorem opLssN {t yt : TypeId} {x y : Operand} {k : IntKind} {a b : Nat} (hx : opv e x = some (.int k (a : Int))) (hy : opv e y = some (.int k (b : Int))) :
    OpVal P N e w ⟨d, .binOp .lss t x y yt, ty, pos, af, gd⟩ (.bool (decide (a < b))) := opBin hx hy (by simp [binOp, Op.intCmp])
theorem opIncr {t yt : TypeId} {x y : Operand} {a : Nat} (hx : opv e x = some (.int .i64 (a : Int))) (hy : opv e y = some (.int .i64 1)) (h : a < 4611686018427387904) :
    OpVal P N e w ⟨d, .binOp .add t x y yt, ty, pos, af, gd⟩ (.int .i64 ((a + 1 : Nat) : Int)) := opBin hx hy (by
    have : IntKind.i64.wrap ((a : Int) + 1) = ((a + 1 : Nat) : Int) := by rw [IntWalk.i64_in _ (by omega)]; rfl
    simp [binOp, Op.intArith, this])
theorem opNot {t : TypeId} {x : Operand} {b : Bool} (hx : opv e x = some (.bool b)) : OpVal P N e w ⟨d, .unOp .not t x, ty, pos, af, gd⟩ (.bool (!b)) := fun a ha => by
  simp [execOp, ha.eval hx, Op.unary]
theorem opExtract {x : Operand} {i : Nat} {vs : Array Value} {v : Value} (hx : opv e x = some (.tuple vs)) (hv : vs[i]? = some v) : OpVal P N e w ⟨d, .extract x i, ty, pos, af, gd⟩ v := fun a ha => by
  simp [execOp, ha.eval hx, Instr.extract, hv]
theorem opConv {s t : TypeId} {x : Operand} {k k' : IntKind} {n : Int} (hx : opv e x = some (.int k n)) (hs : (P.underlying s).isSome = true) (ht : P.underlying t = some (.int k')) :
    OpVal P N e w ⟨d, .convert s t x, ty, pos, af, gd⟩ (.int k' (k'.wrap n)) := fun a ha => by
  obtain ⟨d', hd'⟩ := Option.isSome_iff_exists.1 hs
  simp [execOp, ha.eval hx, convert, run_underlying hd', run_underlying ht, Conv.intToInt]
theorem opMakeFunc {fn : Fn} {x y : Array Operand} {vs us : Array Value} (hx : ∀ a, Fr N a e → x.map a.eval = vs) (hy : ∀ a, Fr N a e → y.map a.eval = us) :
    OpVal P N e w ⟨d, .makeFunc fn x y, ty, pos, af, gd⟩ (.func fn vs us) := fun a ha => by
  simp [execOp, hx a ha, hy a ha, Instr.makeFunc]

/-! ### Addresses -/
theorem opFieldAddr {s i off : Nat} {x : Operand} {b o : Nat} (hx : opv e x = some (.pointer (some ⟨b, o, none⟩))) (hf : fieldOk P s i off = true) :
    OpVal P N e w ⟨d, .fieldAddr s x i, ty, pos, af, gd⟩ (.pointer (some ⟨b, o + off, none⟩)) := fun a ha => by
  unfold fieldOk at hf
  revert hf
  cases hu : P.underlying s with
  | none => intro h; cases h
  | some dd =>
    cases dd <;> (try (intro h; cases h; done))
    rename_i fs
    cases hfi : fs[i]? with
    | none => intro h; simp [hfi] at h
    | some f =>
      simp only [hfi, Bool.and_eq_true]
      rintro ⟨h1, h2⟩
      have h1' := Nat.eq_of_beq_eq_true h1
      cases hq : P.info? f.type with
      | none => simp [hq] at h2
      | some tinf =>
        have hz : tinf.size ≠ 0 := by
          intro h0
          rw [hq] at h2
          simp only [h0] at h2
          cases h2
        have hadd : (⟨b, o, none⟩ : Addr).add f.offset = ⟨b, o + off, none⟩ := by rw [Addr.add_mid, h1']
        simp [execOp, ha.eval hx, Instr.fieldAt, run_underlying hu, hfi, Instr.sureAddr, fieldPlace, sizeOf, typeInfo, hq, hz, hadd]
theorem opIndexAddr {t el sz : Nat} {x y : Operand} {b o len cap i : Nat} {k : IntKind} (hx : opv e x = some (.slice (some ⟨b, o, none⟩) len cap)) (hy : opv e y = some (.int k (i : Int)))
    (ht : sliceOk P t el sz = true) (hi : i < len) : OpVal P N e w ⟨d, .indexAddr t x y, ty, pos, af, gd⟩ (.pointer (some ⟨b, o + i * sz, none⟩)) := fun a ha => by
  unfold sliceOk at ht
  rw [Bool.and_eq_true] at ht
  obtain ⟨h1, h2⟩ := ht
  revert h1
  split
  · rename_i e' hu
    intro h1
    have h1' := Nat.eq_of_beq_eq_true h1
    subst h1'
    cases hq : P.info? el with
    | none => simp [hq] at h2
    | some tinf =>
      rw [hq] at h2
      have hz := Nat.eq_of_beq_eq_true h2
      simp [execOp, ha.eval hx, ha.eval hy, Instr.indexAt, asIntOf, run_underlying hu, hi, sizeOf, typeInfo, hq, hz, Addr.add_mid]
  · intro h; cases h
theorem opLen {x : Operand} {A : Option Addr} {len cap : Nat} {t rt : TypeId} (hx : opv e x = some (.slice A len cap)) (ht : isSlice P t = true) :
    OpVal P N e w ⟨d, .call ⟨.builtin .len, #[x], #[t]⟩, rt, pos, af, gd⟩ (.int .i64 (len : Int)) := fun a ha => by
  unfold isSlice at ht
  revert ht
  split
  · rename_i el hu
    intro _
    simp [execOp, resolve, invoke, builtin, Builtin.len_, ha.eval hx, run_underlying hu, goInt]
  · intro h; cases h

/-! ### Loads and stores -/
theorem opLoadRow {t n : Nat} {x : Operand} {b o : Nat} {cs : List Value} (hx : opv e x = some (.pointer (some ⟨b, o, none⟩))) (hc : w.rangeAt b o cs) (ht : rowOk P t n = true) (hn : cs.length = n) :
    OpVal P N e w ⟨d, .load t x, ty, pos, af, gd⟩ (.agg cs.toArray) := fun a ha => by
  obtain ⟨⟨dd, hu, hr⟩, hi⟩ := rowOk_of ht
  simp [execOp, ha.eval hx, run_loadAt_mid w b o t cs dd hc hu hr (by rw [hi, hn])]
theorem opLoadOne {t : Nat} {x : Operand} {b o : Nat} {v : Value} (hx : opv e x = some (.pointer (some ⟨b, o, none⟩))) (hc : w.cell? ⟨b, o, none⟩ = some v) (ht : oneOk P t = true) :
    OpVal P N e w ⟨d, .load t x, ty, pos, af, gd⟩ v := fun a ha => by
  unfold oneOk at ht
  cases hu : P.underlying t with
  | none => simp [hu] at ht
  | some dd =>
    have hr : dd.isRow = false := by
      rw [hu] at ht
      cases dd <;> simp_all [TypeDesc.isRow]
    simp [execOp, ha.eval hx, Instr.loadAt, Instr.sureAddr, loadVar, run_isAgg hu, hr, run_load, hc]
end
end Go.Gx
