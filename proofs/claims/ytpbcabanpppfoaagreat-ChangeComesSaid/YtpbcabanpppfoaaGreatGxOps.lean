/- The calculus that the walks of this seat are written in: frames as partial maps, a ghost heap of what stays, operations one by one. No condition. -/
import Derived.WalkKit
import Derived.Deep.MidRow
set_option linter.all false
namespace Go.Gx
open Go

/-! ### Frames -/
def Env := Nat → Option Value
def Env.nil : Env := fun _ => none
def Env.put (e : Env) (d : Nat) (v : Value) : Env := fun t => bif Nat.beq t d then some v else e t
def Env.putO (e : Env) (d : Option Nat) (v : Value) : Env := match d with | some d => e.put d v | none => e

theorem beq_false {a b : Nat} (h : ¬ a = b) : Nat.beq a b = false := by
  cases hb : Nat.beq a b with
  | false => rfl
  | true => exact absurd (Nat.eq_of_beq_eq_true hb) h

structure Fr (N : Nat) (a : Act) (e : Env) : Prop where
  sz : a.tmps.size = N
  df : a.defers = []
  at_ : ∀ t v, e t = some v → a.tmps[t]? = some v

def okD (N : Nat) (d : Option Nat) : Bool := match d with | some d => Nat.blt d N | none => true

theorem Fr.put {N : Nat} {a : Act} {e : Env} (h : Fr N a e) {d : Option Nat} (hd : okD N d = true) (v : Value) : Fr N (a.put d v) (e.putO d v) := by
  cases d with
  | none => exact h
  | some d =>
    have hlt : d < N := Nat.le_of_ble_eq_true hd
    refine ⟨by simp [Act.put, h.sz], h.df, fun t u ht => ?_⟩
    simp only [Env.putO, Env.put] at ht
    by_cases htd : t = d
    · subst htd
      simp [Nat.beq_refl] at ht
      subst ht
      simp [Act.put, h.sz, hlt]
    · have hb : Nat.beq t d = false := beq_false htd
      rw [hb] at ht
      have := h.at_ t u ht
      simp only [Act.put]
      rw [Array.getElem?_setIfInBounds_ne (Ne.symm htd)]
      exact this

theorem Fr.nil {N : Nat} {a : Act} (hs : a.tmps.size = N) (hd : a.defers = []) : Fr N a Env.nil := ⟨hs, hd, fun _ _ h => by simp [Env.nil] at h⟩
/-- A frame with one slot more, read off another one. -/
theorem Fr.cons {N : Nat} {a : Act} {e e' : Env} {t : Nat} {v : Value} (h : Fr N a e') (hf : Fr N a e) (ht : e t = some v) : Fr N a (e'.put t v) := by
  refine ⟨h.sz, h.df, fun u x hu => ?_⟩
  simp only [Env.put] at hu
  by_cases hut : u = t
  · subst hut
    simp [Nat.beq_refl] at hu
    subst hu
    exact hf.at_ _ _ ht
  · have hb : Nat.beq u t = false := beq_false hut
    rw [hb] at hu
    exact h.at_ _ _ hu
theorem Fr.start {N : Nat} {a : Act} {e : Env} (hf : Fr N a e) : Fr N a Env.nil := Fr.nil hf.sz hf.df

/-- What an operand is. -/
def opv (e : Env) : Operand → Option Value
  | .tmp t => e t
  | .const v => some v
  | .global g => some (.pointer (some ⟨g, 0, none⟩))
  | .func f => some (.func (.func f) #[] #[])
theorem Fr.eval {N : Nat} {a : Act} {e : Env} (h : Fr N a e) {x : Operand} {v : Value} (hx : opv e x = some v) : a.eval x = v := by
  cases x with
  | tmp t => have := h.at_ t v hx; simp [Act.eval, Array.getD_eq_getD_getElem?, this]
  | const u => simpa [opv, Act.eval] using hx
  | global g => simpa [opv, Act.eval] using hx
  | func f => simpa [opv, Act.eval] using hx

/-! ### Operations -/
/-- What an operation may come to: a value, nothing, or a call that returns. -/
@[irreducible] def OpR (P : Program) (o : Oper) (a : Act) (w : World) (R : Value → World → Prop) : Prop :=
  match (execOp a.eval o).run P w with
  | .ok (.value v) w' => R v w'
  | .ok .skip w' => R undef w'
  | .ok (.enter f args) w' => Calls P f args w' fun e w'' => ∃ v, e = .returned v ∧ R v w''
  | _ => False
theorem OpR.wp {P : Program} {o : Oper} {a : Act} {w : World} {R : Value → World → Prop} (h : OpR P o a w R)
    {K : Act → World → Prop} {Q : Exit → Act → World → Prop} (hK : ∀ v w', R v w' → K (a.put o.dst v) w') : o.wp P a w K Q := by
  unfold OpR at h
  unfold Oper.wp
  generalize (execOp a.eval o).run P w = r at h
  cases r with
  | halt x w' => exact h.elim
  | ok n w' =>
    cases n with
    | value v => exact hK _ _ h
    | skip => exact hK _ _ h
    | enter f args => exact h.mono fun e w'' ⟨v, he, hR⟩ => by subst he; exact hK _ _ hR
    | _ => exact h.elim
theorem OpR.mono {P : Program} {o : Oper} {a : Act} {w : World} {R R' : Value → World → Prop} (h : OpR P o a w R) (hR : ∀ v w', R v w' → R' v w') : OpR P o a w R' := by
  unfold OpR at *
  generalize (execOp a.eval o).run P w = r at *
  cases r with
  | halt x w' => exact h.elim
  | ok n w' =>
    cases n with
    | value v => exact hR _ _ h
    | skip => exact hR _ _ h
    | enter f args => exact h.mono fun e w'' ⟨v, he, h'⟩ => ⟨v, he, hR _ _ h'⟩
    | _ => exact h.elim

/-- In every frame that has these slots. -/
def OpRun (P : Program) (N : Nat) (e : Env) (w : World) (o : Oper) (R : Value → World → Prop) : Prop := ∀ a, Fr N a e → OpR P o a w R
theorem OpRun.mono {P : Program} {N : Nat} {e : Env} {w : World} {o : Oper} {R R' : Value → World → Prop} (h : OpRun P N e w o R) (hR : ∀ v w', R v w' → R' v w') : OpRun P N e w o R' :=
  fun a ha => (h a ha).mono hR
/-- One value, the world as it was. -/
def OpVal (P : Program) (N : Nat) (e : Env) (w : World) (o : Oper) (v : Value) : Prop := ∀ a, Fr N a e → (execOp a.eval o).run P w = .ok (.value v) w
theorem OpVal.run {P : Program} {N : Nat} {e : Env} {w : World} {o : Oper} {v : Value} (h : OpVal P N e w o v) : OpRun P N e w o fun u w' => u = v ∧ w' = w :=
  fun a ha => by unfold OpR; rw [h a ha]; exact ⟨rfl, rfl⟩

/-! ### Lists of operations, code -/
def WL (P : Program) (ops : Array Oper) (Q : Exit → Act → World → Prop) (N : Nat) (l : List Oper) (e : Env) (w : World) : Prop := ∀ a, Fr N a e → wpList P ops Q l a w
def WC (P : Program) (Q : Exit → Act → World → Prop) (N : Nat) (c : Code) (e : Env) (w : World) : Prop := ∀ a, Fr N a e → c.wp P Q a w

section
variable {P : Program} {ops : Array Oper} {Q : Exit → Act → World → Prop} {N : Nat} {e : Env} {w : World} {rest : List Oper}

theorem wlNil (h : ∀ a, Fr N a e → Q .normal a w) : WL P ops Q N [] e w := h
theorem wlStep {d : Option Tmp} {op : Op} {ty : TypeId} {pos : String} {af : Array Edge} {R : Value → World → Prop} (hd : okD N d = true)
    (hop : OpRun P N e w ⟨d, op, ty, pos, af, none⟩ R) (h : ∀ v w', R v w' → WL P ops Q N rest (e.putO d v) w') : WL P ops Q N (⟨d, op, ty, pos, af, none⟩ :: rest) e w := by
  intro a ha
  refine wpList_plain rfl fun K hK => (hop a ha).wp fun v w' hR => hK _ _ ?_
  exact h v w' hR _ (ha.put hd v)
theorem wlVal {d : Option Tmp} {op : Op} {ty : TypeId} {pos : String} {af : Array Edge} {v : Value} (hop : OpVal P N e w ⟨d, op, ty, pos, af, none⟩ v) (hd : okD N d = true)
    (h : WL P ops Q N rest (e.putO d v) w) : WL P ops Q N (⟨d, op, ty, pos, af, none⟩ :: rest) e w :=
  wlStep hd hop.run fun _ _ ⟨h1, h2⟩ => by subst h1; subst h2; exact h

def gslot (ops : Array Oper) (j : Nat) : Option Nat := (ops[j]?).bind (·.dst)
theorem yielded_of {a : Act} (hf : Fr N a e) {j d : Nat} {b : Bool} (hj : gslot ops j = some d) (hb : e d = some (.bool b)) : yielded ops a.tmps j = some b := by
  have := hf.at_ d _ hb
  simp only [gslot] at hj
  simp [yielded, hj, this]
/-- The guard says yes. -/
theorem wlOn {d : Option Tmp} {op : Op} {ty : TypeId} {pos : String} {af : Array Edge} {j k : Nat} {b : Bool} (hj : gslot ops j = some k) (hb : e k = some (.bool b))
    (h : WL P ops Q N (⟨d, op, ty, pos, af, none⟩ :: rest) e w) : WL P ops Q N (⟨d, op, ty, pos, af, some (j, b)⟩ :: rest) e w := by
  intro a ha
  have h1 := h a ha
  have hw : Region.wanted ⟨d, op, ty, pos, af, some (j, b)⟩ (yielded ops a.tmps) = true := by
    simp only [Region.wanted]; rw [yielded_of ha hj hb]; simp
  unfold wpList at h1 ⊢
  rw [if_pos hw]
  rw [if_pos (by rfl)] at h1
  exact h1
/-- The guard says no. -/
theorem wlOff {d : Option Tmp} {op : Op} {ty : TypeId} {pos : String} {af : Array Edge} {j k : Nat} {b b' : Bool} (hj : gslot ops j = some k) (hb : e k = some (.bool b')) (hne : (b' == b) = false)
    (hd : okD N d = true) (h : WL P ops Q N rest (e.putO d undef) w) : WL P ops Q N (⟨d, op, ty, pos, af, some (j, b)⟩ :: rest) e w := by
  intro a ha
  have h1 := h _ (ha.put hd undef)
  have hw : Region.wanted ⟨d, op, ty, pos, af, some (j, b)⟩ (yielded ops a.tmps) = false := by
    simp only [Region.wanted]; rw [yielded_of ha hj hb]; simpa using hne
  unfold wpList
  rw [if_neg (by rw [hw]; simp)]
  exact h1

/-- The guard was passed over itself. -/
theorem wlOffU {d : Option Tmp} {op : Op} {ty : TypeId} {pos : String} {af : Array Edge} {j k : Nat} {b : Bool} (hj : gslot ops j = some k) (hb : e k = some undef)
    (hd : okD N d = true) (h : WL P ops Q N rest (e.putO d undef) w) : WL P ops Q N (⟨d, op, ty, pos, af, some (j, b)⟩ :: rest) e w := by
  intro a ha
  have h1 := h _ (ha.put hd undef)
  have h2 := ha.at_ k _ hb
  have hy : yielded ops a.tmps j = none := by
    simp only [gslot] at hj
    simp [yielded, hj, h2, undef]
  have hw : Region.wanted ⟨d, op, ty, pos, af, some (j, b)⟩ (yielded ops a.tmps) = false := by
    simp only [Region.wanted, hy]; rfl
  unfold wpList
  rw [if_neg (by rw [hw]; simp)]
  exact h1

theorem wcRegion {id : Nat} {l : List Oper} (h : WL P l.toArray Q N l e w) : WC P Q N (.region id l.toArray false) e w := fun a ha => wp_region_lit (h a ha)
theorem wcSeq {x y : Code} (h : WC P (Exit.then (fun a w => y.wp P Q a w) Q) N x e w) : WC P Q N (.seq x y) e w := fun a ha => wp_seq (h a ha)
theorem wcThen {y : Code} (h : WC P Q N y e w) : ∀ a, Fr N a e → (Exit.then (fun a w => y.wp P Q a w) Q) .normal a w := fun a ha => h a ha
theorem wcSkip (h : ∀ a, Fr N a e → Q .normal a w) : WC P Q N .skip e w := fun a ha => wp_skip (h a ha)
theorem wcExit {id : Nat} (h : ∀ a, Fr N a e → Q (.exit id) a w) : WC P Q N (.exit id) e w := fun a ha => wp_exit (h a ha)
theorem wcRet (h : ∀ a, Fr N a e → Q .ret a w) : WC P Q N .ret e w := fun a ha => wp_ret (h a ha)
theorem wcBlock {id : Nat} {c : Code} (h : WC P (Exit.inBlock id Q) N c e w) : WC P Q N (.block id c) e w := fun a ha => wp_block (h a ha)
theorem wcCond {x : Operand} {c1 c2 : Code} {b : Bool} (hx : opv e x = some (.bool b)) (h1 : b = true → WC P Q N c1 e w) (h2 : b = false → WC P Q N c2 e w) : WC P Q N (.cond x c1 c2) e w := by
  intro a ha
  refine wp_cond (ha.eval hx) ?_
  cases b with
  | true => exact h1 rfl a ha
  | false => exact h2 rfl a ha
theorem wcCondT {x : Operand} {c1 c2 : Code} (hx : opv e x = some (.bool true)) (h : WC P Q N c1 e w) : WC P Q N (.cond x c1 c2) e w := wcCond hx (fun _ => h) (fun h => by cases h)
theorem wcCondF {x : Operand} {c1 c2 : Code} (hx : opv e x = some (.bool false)) (h : WC P Q N c2 e w) : WC P Q N (.cond x c1 c2) e w := wcCond hx (fun h => by cases h) (fun _ => h)
/-- A loop, round by round. -/
def WR (P : Program) (Q : Exit → Act → World → Prop) (N : Nat) (c : Code) (n : Nat) (e : Env) (w : World) : Prop := ∀ a, Fr N a e → Code.rounds P c Q n a w
theorem wcLoop {c : Code} (n : Nat) (h : WR P Q N c n e w) : WC P Q N (.loop c) e w := fun a ha => wp_loop_rounds n (h a ha)
theorem wrSucc {c : Code} {n : Nat} (h : WC P (Exit.then (Code.rounds P c Q n) Q) N c e w) : WR P Q N c (n + 1) e w := fun a ha => by rw [rounds_succ]; exact h a ha
/-- A frame's slots may be forgotten. -/
theorem WC.sub {c : Code} {e' : Env} (h : WC P Q N c e' w) (hs : ∀ a, Fr N a e → Fr N a e') : WC P Q N c e w := fun a ha => h a (hs a ha)
theorem WR.sub {c : Code} {n : Nat} {e' : Env} (h : WR P Q N c n e' w) (hs : ∀ a, Fr N a e → Fr N a e') : WR P Q N c n e w := fun a ha => h a (hs a ha)
theorem WL.sub {l : List Oper} {e' : Env} (h : WL P ops Q N l e' w) (hs : ∀ a, Fr N a e → Fr N a e') : WL P ops Q N l e w := fun a ha => h a (hs a ha)
end

/-! ### Entry and return -/
end Go.Gx

namespace Go.Gx
open Go Go.RowKit

/-! ### Facts on types, each a closed test -/
def fieldOk (P : Program) (s i off : Nat) : Bool :=
  match P.underlying s with
  | some (.struct fs) => match fs[i]? with
    | some f => Nat.beq f.offset off && (match P.info? f.type with | some t => !(Nat.beq t.size 0) | none => false)
    | none => false
  | _ => false
/-- A struct or an array of n cells. -/
def rowOk (P : Program) (t n : Nat) : Bool :=
  (match P.underlying t with | some (.struct _) => true | some (.array _ _) => true | _ => false) && (match P.info? t with | some i => Nat.beq i.size n | none => false)
/-- A type of one cell. -/
def oneOk (P : Program) (t : Nat) : Bool := (match P.underlying t with | some (.struct _) => false | some (.array _ _) => false | some _ => true | none => false)
def sliceOk (P : Program) (t e n : Nat) : Bool :=
  (match P.underlying t with | some (.slice e') => Nat.beq e e' | _ => false) && (match P.info? e with | some i => Nat.beq i.size n | none => false)
def isSlice (P : Program) (t : Nat) : Bool := match P.underlying t with | some (.slice _) => true | _ => false
def callOk (P : Program) (f : Nat) : Bool := match P.funcs[f]? with | some fn => fn.body.isSome && !(fn.name == "runtime.NumGoroutine") | none => false

theorem rowOk_of {P : Program} {t n : Nat} (h : rowOk P t n = true) : (∃ d, P.underlying t = some d ∧ d.isRow = true) ∧ (P.info? t).map (·.size) = some n := by
  unfold rowOk at h
  rw [Bool.and_eq_true] at h
  obtain ⟨h1, h2⟩ := h
  constructor
  · revert h1
    split
    · rename_i fs hu; intro _; exact ⟨_, hu, rfl⟩
    · rename_i n e hu; intro _; exact ⟨_, hu, rfl⟩
    · intro h; cases h
  · revert h2
    cases hq : P.info? t with
    | none => intro h; cases h
    | some i => intro h; simp at h ⊢; exact h
theorem sizeOf_of {P : Program} {t n : Nat} (h : (P.info? t).map (·.size) = some n) (w : World) : (sizeOf t).run P w = .ok n w := by
  cases hq : P.info? t with
  | none => simp [hq] at h
  | some i => simp [hq] at h; simp [sizeOf, typeInfo, hq, h]
theorem run_isAgg {P : Program} {t : Nat} {d : TypeDesc} (hu : P.underlying t = some d) (w : World) : (isAgg t).run P w = .ok d.isRow w := by
  unfold isAgg
  rw [Sem.run_bind, run_underlying hu w]
  cases d <;> simp [TypeDesc.isRow]

section
variable {P : Program} {N : Nat} {e : Env} {w : World} {d : Option Tmp} {ty : TypeId} {pos : String} {af : Array Edge} {gd : Option (Nat × Bool)}

/-! ### Values alone -/
theorem opMove {x : Operand} {v : Value} (hx : opv e x = some v) : OpVal P N e w ⟨d, .move x, ty, pos, af, gd⟩ v := fun a ha => by
  simp [execOp, ha.eval hx]
theorem opAssign {x : Operand} {v : Value} (hx : opv e x = some v) : OpVal P N e w ⟨d, .assign x, ty, pos, af, gd⟩ v := fun a ha => by
  simp [execOp, ha.eval hx]
theorem opPickT {c x y : Operand} {v : Value} (hc : opv e c = some (.bool true)) (hx : opv e x = some v) : OpVal P N e w ⟨d, .pick c x y, ty, pos, af, gd⟩ v := fun a ha => by
  simp [execOp, ha.eval hc, ha.eval hx, asBool]
theorem opPickF {c x y : Operand} {v : Value} (hc : opv e c = some (.bool false)) (hy : opv e y = some v) : OpVal P N e w ⟨d, .pick c x y, ty, pos, af, gd⟩ v := fun a ha => by
  simp [execOp, ha.eval hc, ha.eval hy, asBool]
theorem run_eqGuard_int {op : BinOp} {t : TypeId} {x y : Operand} {k k' : IntKind} {a b : Int} : (eqGuard op t x y (.int k a) (.int k' b)).run P w = .ok () w := by
  unfold eqGuard
  cases op <;> simp <;> rfl
theorem opBin {op : BinOp} {t yt : TypeId} {x y : Operand} {k k' : IntKind} {a b : Int} {v : Value} (hx : opv e x = some (.int k a)) (hy : opv e y = some (.int k' b))
    (hr : (binOp op t (.int k a) (.int k' b)).run P w = .ok v w) : OpVal P N e w ⟨d, .binOp op t x y yt, ty, pos, af, gd⟩ v := fun s hs => by
  simp only [execOp, hs.eval hx, hs.eval hy, Sem.run_bind, run_eqGuard_int, Result.andThen_ok, hr]
  rfl
theorem opLss {t yt : TypeId} {x y : Operand} {k : IntKind} {a b : Int} (hx : opv e x = some (.int k a)) (hy : opv e y = some (.int k b)) :
    OpVal P N e w ⟨d, .binOp .lss t x y yt, ty, pos, af, gd⟩ (.bool (decide (a < b))) := opBin hx hy (by simp [binOp, Op.intCmp])
theorem opLeq {t yt : TypeId} {x y : Operand} {k : IntKind} {a b : Int} (hx : opv e x = some (.int k a)) (hy : opv e y = some (.int k b)) :
    OpVal P N e w ⟨d, .binOp .leq t x y yt, ty, pos, af, gd⟩ (.bool (decide (a ≤ b))) := opBin hx hy (by simp [binOp, Op.intCmp])
theorem opGtr {t yt : TypeId} {x y : Operand} {k : IntKind} {a b : Int} (hx : opv e x = some (.int k a)) (hy : opv e y = some (.int k b)) :
    OpVal P N e w ⟨d, .binOp .gtr t x y yt, ty, pos, af, gd⟩ (.bool (decide (b < a))) := opBin hx hy (by simp [binOp, Op.intCmp])
theorem opGeq {t yt : TypeId} {x y : Operand} {k : IntKind} {a b : Int} (hx : opv e x = some (.int k a)) (hy : opv e y = some (.int k b)) :
    OpVal P N e w ⟨d, .binOp .geq t x y yt, ty, pos, af, gd⟩ (.bool (decide (b ≤ a))) := opBin hx hy (by simp [binOp, Op.intCmp])
theorem opEql {t yt : TypeId} {x y : Operand} {k : IntKind} {a b : Int} (hx : opv e x = some (.int k a)) (hy : opv e y = some (.int k b)) :
    OpVal P N e w ⟨d, .binOp .eql t x y yt, ty, pos, af, gd⟩ (.bool (a == b)) := opBin hx hy (by simp [binOp, Op.intCmp])
theorem opNeq {t yt : TypeId} {x y : Operand} {k : IntKind} {a b : Int} (hx : opv e x = some (.int k a)) (hy : opv e y = some (.int k b)) :
    OpVal P N e w ⟨d, .binOp .neq t x y yt, ty, pos, af, gd⟩ (.bool (a != b)) := opBin hx hy (by simp [binOp, Op.intCmp])
theorem opAdd {t yt : TypeId} {x y : Operand} {k : IntKind} {a b : Int} (hx : opv e x = some (.int k a)) (hy : opv e y = some (.int k b)) :
    OpVal P N e w ⟨d, .binOp .add t x y yt, ty, pos, af, gd⟩ (.int k (k.wrap (a + b))) := opBin hx hy (by simp [binOp, Op.intArith])
theorem opSub {t yt : TypeId} {x y : Operand} {k : IntKind} {a b : Int} (hx : opv e x = some (.int k a)) (hy : opv e y = some (.int k b)) :
    OpVal P N e w ⟨d, .binOp .sub t x y yt, ty, pos, af, gd⟩ (.int k (k.wrap (a - b))) := opBin hx hy (by simp [binOp, Op.intArith])
theorem opMul {t yt : TypeId} {x y : Operand} {k : IntKind} {a b : Int} (hx : opv e x = some (.int k a)) (hy : opv e y = some (.int k b)) :
    OpVal P N e w ⟨d, .binOp .mul t x y yt, ty, pos, af, gd⟩ (.int k (k.wrap (a * b))) := opBin hx hy (by simp [binOp, Op.intArith])
theorem opNot {t : TypeId} {x : Operand} {b : Bool} (hx : opv e x = some (.bool b)) : OpVal P N e w ⟨d, .unOp .not t x, ty, pos, af, gd⟩ (.bool (!b)) := fun a ha => by
  simp [execOp, ha.eval hx, Op.unary]
theorem opExtract {x : Operand} {i : Nat} {vs : Array Value} {v : Value} (hx : opv e x = some (.tuple vs)) (hv : vs[i]? = some v) : OpVal P N e w ⟨d, .extract x i, ty, pos, af, gd⟩ v := fun a ha => by
  simp [execOp, ha.eval hx, Instr.extract, hv]
theorem opConv {s t : TypeId} {x : Operand} {k k' : IntKind} {n : Int} (hx : opv e x = some (.int k n)) (hs : (P.underlying s).isSome = true) (ht : P.underlying t = some (.int k')) :
    OpVal P N e w ⟨d, .convert s t x, ty, pos, af, gd⟩ (.int k' (k'.wrap n)) := fun a ha => by
  obtain ⟨d', hd'⟩ := Option.isSome_iff_exists.1 hs
  simp [execOp, ha.eval hx, convert, run_underlying hd', run_underlying ht, Conv.intToInt]
theorem opMakeFunc {fn : Fn} {x y : Array Operand} {vs us : Array Value} (hx : ∀ a, Fr N a e → x.map a.eval = vs) (hy : ∀ a, Fr N a e → y.map a.eval = us) :
    OpVal P N e w ⟨d, .makeFunc fn x y, ty, pos, af, gd⟩ (.func fn vs us) := fun a ha => by
  simp [execOp, hx a ha, hy a ha, Instr.makeFunc]

/-! ### Addresses -/
theorem opFieldAddr {s i off : Nat} {x : Operand} {b o : Nat} (hx : opv e x = some (.pointer (some ⟨b, o, none⟩))) (hf : fieldOk P s i off = true) :
    OpVal P N e w ⟨d, .fieldAddr s x i, ty, pos, af, gd⟩ (.pointer (some ⟨b, o + off, none⟩)) := fun a ha => by
  unfold fieldOk at hf
  revert hf
  cases hu : P.underlying s with
  | none => intro h; cases h
  | some dd =>
    cases dd <;> (try (intro h; cases h; done))
    rename_i fs
    cases hfi : fs[i]? with
    | none => intro h; simp [hfi] at h
    | some f =>
      simp only [hfi, Bool.and_eq_true]
      rintro ⟨h1, h2⟩
      have h1' := Nat.eq_of_beq_eq_true h1
      cases hq : P.info? f.type with
      | none => simp [hq] at h2
      | some tinf =>
        have hz : tinf.size ≠ 0 := by
          intro h0
          rw [hq] at h2
          simp only [h0] at h2
          cases h2
        have hadd : (⟨b, o, none⟩ : Addr).add f.offset = ⟨b, o + off, none⟩ := by rw [Addr.add_mid, h1']
        simp [execOp, ha.eval hx, Instr.fieldAt, run_underlying hu, hfi, Instr.sureAddr, fieldPlace, sizeOf, typeInfo, hq, hz, hadd]
theorem opIndexAddr {t el sz : Nat} {x y : Operand} {b o len cap i : Nat} {k : IntKind} (hx : opv e x = some (.slice (some ⟨b, o, none⟩) len cap)) (hy : opv e y = some (.int k (i : Int)))
    (ht : sliceOk P t el sz = true) (hi : i < len) : OpVal P N e w ⟨d, .indexAddr t x y, ty, pos, af, gd⟩ (.pointer (some ⟨b, o + i * sz, none⟩)) := fun a ha => by
  unfold sliceOk at ht
  rw [Bool.and_eq_true] at ht
  obtain ⟨h1, h2⟩ := ht
  revert h1
  split
  · rename_i e' hu
    intro h1
    have h1' := Nat.eq_of_beq_eq_true h1
    subst h1'
    cases hq : P.info? el with
    | none => simp [hq] at h2
    | some tinf =>
      rw [hq] at h2
      have hz := Nat.eq_of_beq_eq_true h2
      simp [execOp, ha.eval hx, ha.eval hy, Instr.indexAt, asIntOf, run_underlying hu, hi, sizeOf, typeInfo, hq, hz, Addr.add_mid]
  · intro h; cases h
theorem opLen {x : Operand} {A : Option Addr} {len cap : Nat} {t rt : TypeId} (hx : opv e x = some (.slice A len cap)) (ht : isSlice P t = true) :
    OpVal P N e w ⟨d, .call ⟨.builtin .len, #[x], #[t]⟩, rt, pos, af, gd⟩ (.int .i64 (len : Int)) := fun a ha => by
  unfold isSlice at ht
  revert ht
  split
  · rename_i el hu
    intro _
    simp [execOp, resolve, invoke, builtin, Builtin.len_, ha.eval hx, run_underlying hu, goInt]
  · intro h; cases h

/-! ### Loads and stores -/
theorem opLoadRow {t n : Nat} {x : Operand} {b o : Nat} {cs : List Value} (hx : opv e x = some (.pointer (some ⟨b, o, none⟩))) (hc : w.rangeAt b o cs) (ht : rowOk P t n = true) (hn : cs.length = n) :
    OpVal P N e w ⟨d, .load t x, ty, pos, af, gd⟩ (.agg cs.toArray) := fun a ha => by
  obtain ⟨⟨dd, hu, hr⟩, hi⟩ := rowOk_of ht
  simp [execOp, ha.eval hx, run_loadAt_mid w b o t cs dd hc hu hr (by rw [hi, hn])]
theorem opLoadOne {t : Nat} {x : Operand} {b o : Nat} {v : Value} (hx : opv e x = some (.pointer (some ⟨b, o, none⟩))) (hc : w.cell? ⟨b, o, none⟩ = some v) (ht : oneOk P t = true) :
    OpVal P N e w ⟨d, .load t x, ty, pos, af, gd⟩ v := fun a ha => by
  unfold oneOk at ht
  cases hu : P.underlying t with
  | none => simp [hu] at ht
  | some dd =>
    have hr : dd.isRow = false := by
      rw [hu] at ht
      cases dd <;> simp_all [TypeDesc.isRow]
    simp [execOp, ha.eval hx, Instr.loadAt, Instr.sureAddr, loadVar, run_isAgg hu, hr, run_load, hc]
end
end Go.Gx
