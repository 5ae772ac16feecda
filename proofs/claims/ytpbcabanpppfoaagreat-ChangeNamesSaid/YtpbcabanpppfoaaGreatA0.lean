/- A part of the proof. No condition. -/
import Derived.Test.YtpbcabanpppfoaaGreatA
import Derived.WalkKit
import Derived.Deep.MidRow
import Derived.ChangeKeysEq
import Derived.Orders
import Derived.MapKept
import Derived.ChangeArms
import Derived.ProofKit
import Derived.SizedLaws
import Derived.ChangeOld
import Derived.OpenShut
import Derived.Below
set_option linter.all false
namespace Go.Gx
open Go
def Env := Nat -> Option Value
def Env.put (e : Env) (d : Nat) (v : Value) : Env := fun t => bif Nat.beq t d then some v else e t
def Env.putO (e : Env) (d : Option Nat) (v : Value) : Env := match d with | some d => e.put d v | none => e
def beq_false {a b : Nat} (h : ¬ a = b) : Nat.beq a b = false := by
 cases hb : Nat.beq a b with
 | false => rfl
 | true => exact absurd (A8 hb) h
structure Fr (N : Nat) (a : Act) (e : Env) : Prop where
  sz : a.tmps.size = N
  df : a.defers = []
  at_ : ∀ t v, e t = some v -> a.tmps[t]? = some v
def okD (N : Nat) (d : Option Nat) : Bool := match d with | some d => Nat.blt d N | none => true
def Fr.put {N : Nat} {a : Act} {e : Env} (h : Fr N a e) {d : Option Nat} (hd : okD N d = true) (v : Value) : Fr N (a.put d v) (e.putO d v) := by
 cases d with
 | none => exact h
 | some d =>
  have hlt : d < N := C2 hd; refine ⟨by simp [Act.put, h.sz], h.df, fun t u ht => ?_⟩; simp only [Env.putO, Env.put] at ht; by_cases htd : t = d
  ·subst htd; simp [T9] at ht; subst ht; simp [Act.put, h.sz, hlt]
  ·have hb : Nat.beq t d = false := beq_false htd; rw [hb] at ht; have := h.at_ t u ht; simp only [Act.put]; rw [Array.getElem?_setIfInBounds_ne (Ne.symm htd)]; exact this
def opv (e : Env) : Operand -> Option Value
 | .tmp t => e t
 | .const v => some v
 | .global g => some (.pointer (some ⟨g, 0, none⟩))
 | .func f => some (.func (.func f) #[] #[])
def Fr.eval {N : Nat} {a : Act} {e : Env} (h : Fr N a e) {x : Operand} {v : Value} (hx : opv e x = some v) : a.eval x = v := by
 cases x with
 | tmp t => have := h.at_ t v hx; simp [Act.eval, J8, this]
 | const u => simpa [opv, Act.eval] using hx
 | global g => simpa [opv, Act.eval] using hx
 | func f => simpa [opv, Act.eval] using hx
@[irreducible] def OpR (P : Program) (o : Oper) (a : Act) (w : World) (R : Value -> World -> Prop) : Prop :=
 match (execOp a.eval o).run P w with
 | .ok (.value v) w' => R v w'
 | .ok .skip w' => R undef w'
 | .ok (.enter f args) w' => Calls P f args w' fun e w'' => ∃ v, e = .returned v /\ R v w''
 | _ => False
def OpR.wp {P : Program} {o : Oper} {a : Act} {w : World} {R : Value -> World -> Prop} (h : OpR P o a w R)
  {K : Act -> World -> Prop} {Q : Exit -> Act -> World -> Prop} (hK : ∀ v w', R v w' -> K (a.put o.dst v) w') : o.wp P a w K Q := by
 unfold OpR at h
 unfold Oper.wp
 generalize (execOp a.eval o).run P w = r at h
 cases r with
 | halt x w' => exact h.elim
 | ok n w' =>
  cases n with
  | value v => exact hK _ _ h
  | skip => exact hK _ _ h
  | enter f args => exact h.mono fun e w'' ⟨v, he, hR⟩ => by subst he; exact hK _ _ hR
  | _ => exact h.elim
def c2m (P : Program) (N : Nat) (e : Env) (w : World) (o : Oper) (R : Value -> World -> Prop) : Prop := ∀ a, Fr N a e -> OpR P o a w R
def j9 (P : Program) (N : Nat) (e : Env) (w : World) (o : Oper) (v : Value) : Prop := ∀ a, Fr N a e -> (execOp a.eval o).run P w = .ok (.value v) w
def j9.run {P : Program} {N : Nat} {e : Env} {w : World} {o : Oper} {v : Value} (h : j9 P N e w o v) : c2m P N e w o fun u w' => u = v /\ w' = w :=
 fun a ha => by unfold OpR; rw [h a ha]; exact ⟨rfl, rfl⟩
def WL (P : Program) (ops : Array Oper) (Q : Exit -> Act -> World -> Prop) (N : Nat) (l : List Oper) (e : Env) (w : World) : Prop := ∀ a, Fr N a e -> wpList P ops Q l a w
def WC (P : Program) (Q : Exit -> Act -> World -> Prop) (N : Nat) (c : Code) (e : Env) (w : World) : Prop := ∀ a, Fr N a e -> c.wp P Q a w
section
variable {P : Program} {ops : Array Oper} {Q : Exit -> Act -> World -> Prop} {N : Nat} {e : Env} {w : World} {rest : List Oper}
def g1e (h : ∀ a, Fr N a e -> Q .normal a w) : WL P ops Q N [] e w := h
def x5 {d : Option Tmp} {op : Op} {ty : TypeId} {pos : String} {af : Array Edge} {R : Value -> World -> Prop} (hd : okD N d = true)
  (hop : c2m P N e w ⟨d, op, ty, pos, af, none⟩ R) (h : ∀ v w', R v w' -> WL P ops Q N rest (e.putO d v) w') : WL P ops Q N (⟨d, op, ty, pos, af, none⟩ :: rest) e w := by
 intro a ha
 refine wpList_plain rfl fun K hK => (hop a ha).wp fun v w' hR => hK _ _ ?_
 exact h v w' hR _ (ha.put hd v)
def a3b {d : Option Tmp} {op : Op} {ty : TypeId} {pos : String} {af : Array Edge} {v : Value} (hop : j9 P N e w ⟨d, op, ty, pos, af, none⟩ v) (hd : okD N d = true)
  (h : WL P ops Q N rest (e.putO d v) w) : WL P ops Q N (⟨d, op, ty, pos, af, none⟩ :: rest) e w :=
 x5 hd hop.run fun _ _ ⟨h1, h2⟩ => by subst h1; subst h2; exact h
def a4s (ops : Array Oper) (j : Nat) : Option Nat := (ops[j]?).bind (·.dst)
def a7y {a : Act} (hf : Fr N a e) {j d : Nat} {b : Bool} (hj : a4s ops j = some d) (hb : e d = some (.bool b)) : yielded ops a.tmps j = some b := by
 have := hf.at_ d _ hb
 simp only [a4s] at hj
 simp [yielded, hj, this]
def f4f {d : Option Tmp} {op : Op} {ty : TypeId} {pos : String} {af : Array Edge} {j k : Nat} {b : Bool} (hj : a4s ops j = some k) (hb : e k = some (.bool b))
  (h : WL P ops Q N (⟨d, op, ty, pos, af, none⟩ :: rest) e w) : WL P ops Q N (⟨d, op, ty, pos, af, some (j, b)⟩ :: rest) e w := by
 intro a ha
 have h1 := h a ha
 have hw : Region.wanted ⟨d, op, ty, pos, af, some (j, b)⟩ (yielded ops a.tmps) = true := by
  simp only [Region.wanted]; rw [a7y ha hj hb]; simp
 unfold wpList at h1 ⊢
 rw [F8 hw]
 rw [F8 (by rfl)] at h1
 exact h1
def d9k {d : Option Tmp} {op : Op} {ty : TypeId} {pos : String} {af : Array Edge} {j k : Nat} {b b' : Bool} (hj : a4s ops j = some k) (hb : e k = some (.bool b')) (hne : (b' == b) = false)
  (hd : okD N d = true) (h : WL P ops Q N rest (e.putO d undef) w) : WL P ops Q N (⟨d, op, ty, pos, af, some (j, b)⟩ :: rest) e w := by
 intro a ha
 have h1 := h _ (ha.put hd undef)
 have hw : Region.wanted ⟨d, op, ty, pos, af, some (j, b)⟩ (yielded ops a.tmps) = false := by
  simp only [Region.wanted]; rw [a7y ha hj hb]; simpa using hne
 unfold wpList
 rw [F7 (by rw [hw]; simp)]
 exact h1
def f4g {d : Option Tmp} {op : Op} {ty : TypeId} {pos : String} {af : Array Edge} {j k : Nat} {b : Bool} (hj : a4s ops j = some k) (hb : e k = some undef)
  (hd : okD N d = true) (h : WL P ops Q N rest (e.putO d undef) w) : WL P ops Q N (⟨d, op, ty, pos, af, some (j, b)⟩ :: rest) e w := by
 intro a ha
 have h1 := h _ (ha.put hd undef)
 have h2 := ha.at_ k _ hb
 have hy : yielded ops a.tmps j = none := by
  simp only [a4s] at hj; simp [yielded, hj, h2, undef]
 have hw : Region.wanted ⟨d, op, ty, pos, af, some (j, b)⟩ (yielded ops a.tmps) = false := by
  simp only [Region.wanted, hy]; rfl
 unfold wpList
 rw [F7 (by rw [hw]; simp)]
 exact h1
def d9l {id : Nat} {l : List Oper} (h : WL P l.toArray Q N l e w) : WC P Q N (.region id l.toArray false) e w := fun a ha => wp_region_lit (h a ha)
def g1f {x y : Code} (h : WC P (Exit.then (fun a w => y.wp P Q a w) Q) N x e w) : WC P Q N (.seq x y) e w := fun a ha => wp_seq (h a ha)
def f4h {y : Code} (h : WC P Q N y e w) : ∀ a, Fr N a e -> (Exit.then (fun a w => y.wp P Q a w) Q) .normal a w := fun a ha => h a ha
def f4i (h : ∀ a, Fr N a e -> Q .normal a w) : WC P Q N .skip e w := fun a ha => wp_skip (h a ha)
def f4j {id : Nat} (h : ∀ a, Fr N a e -> Q (.exit id) a w) : WC P Q N (.exit id) e w := fun a ha => wp_exit (h a ha)
def g1g (h : ∀ a, Fr N a e -> Q .ret a w) : WC P Q N .ret e w := fun a ha => wp_ret (h a ha)
def e7r {id : Nat} {c : Code} (h : WC P (Exit.inBlock id Q) N c e w) : WC P Q N (.block id c) e w := fun a ha => wp_block (h a ha)
def d9m {x : Operand} {c1 c2 : Code} {b : Bool} (hx : opv e x = some (.bool b)) (h1 : b = true -> WC P Q N c1 e w) (h2 : b = false -> WC P Q N c2 e w) : WC P Q N (.cond x c1 c2) e w := by
 intro a ha
 refine wp_cond (ha.eval hx) ?_
 cases b with
 | true => exact h1 rfl a ha
 | false => exact h2 rfl a ha
def c4r {x : Operand} {c1 c2 : Code} (hx : opv e x = some (.bool true)) (h : WC P Q N c1 e w) : WC P Q N (.cond x c1 c2) e w := d9m hx (fun _ => h) (fun h => by cases h)
def c4s {x : Operand} {c1 c2 : Code} (hx : opv e x = some (.bool false)) (h : WC P Q N c2 e w) : WC P Q N (.cond x c1 c2) e w := d9m hx (fun h => by cases h) (fun _ => h)
def WR (P : Program) (Q : Exit -> Act -> World -> Prop) (N : Nat) (c : Code) (n : Nat) (e : Env) (w : World) : Prop := ∀ a, Fr N a e -> Code.rounds P c Q n a w
def f4k {c : Code} (n : Nat) (h : WR P Q N c n e w) : WC P Q N (.loop c) e w := fun a ha => wp_loop_rounds n (h a ha)
def f4l {c : Code} {n : Nat} (h : WC P (Exit.then (Code.rounds P c Q n) Q) N c e w) : WR P Q N c (n + 1) e w := fun a ha => by rw [rounds_succ]; exact h a ha
end
end Go.Gx
namespace Go.Gx
open Go Go.RowKit
def a6f (P : Program) (s i off : Nat) : Bool :=
 match P.underlying s with
 | some (.struct fs) => match fs[i]? with
  | some f => Nat.beq f.offset off && (match P.info? f.type with | some t => !(Nat.beq t.size 0) | none => false)
  | none => false
 | _ => false
def a5k (P : Program) (t n : Nat) : Bool :=
 (match P.underlying t with | some (.struct _) => true | some (.array _ _) => true | _ => false) && (match P.info? t with | some i => Nat.beq i.size n | none => false)
def a0h (P : Program) (t : Nat) : Bool := (match P.underlying t with | some (.struct _) => false | some (.array _ _) => false | some _ => true | none => false)
def x6 (P : Program) (t e n : Nat) : Bool :=
 (match P.underlying t with | some (.slice e') => Nat.beq e e' | _ => false) && (match P.info? e with | some i => Nat.beq i.size n | none => false)
def a3c (P : Program) (t : Nat) : Bool := match P.underlying t with | some (.slice _) => true | _ => false
def a1h (P : Program) (f : Nat) : Bool := match P.funcs[f]? with | some fn => fn.body.isSome && !(fn.name == "runtime.NumGoroutine") | none => false
def b8o {P : Program} {t n : Nat} (h : a5k P t n = true) : (∃ d, P.underlying t = some d /\ d.isRow = true) /\ (P.info? t).map (·.size) = some n := by
 unfold a5k at h
 rw [A7] at h
 obtain ⟨h1, h2⟩ := h
 constructor
 ·revert h1
  split
  ·rename_i fs hu; intro _; exact ⟨_, hu, rfl⟩
  ·rename_i n e hu; intro _; exact ⟨_, hu, rfl⟩
  ·intro h; cases h
 ·revert h2
  cases hq : P.info? t with
  | none => intro h; cases h
  | some i => intro h; simp at h ⊢; exact h
def a3l {P : Program} {t n : Nat} (h : (P.info? t).map (·.size) = some n) (w : World) : (sizeOf t).run P w = .ok n w := by
 cases hq : P.info? t with
 | none => simp [hq] at h
 | some i => simp [hq] at h; simp [sizeOf, typeInfo, hq, h]
def b4y {P : Program} {t : Nat} {d : TypeDesc} (hu : P.underlying t = some d) (w : World) : (isAgg t).run P w = .ok d.isRow w := by
 unfold isAgg
 rw [Sem.run_bind, run_underlying hu w]
 cases d <;> simp [TypeDesc.isRow]
section
variable {P : Program} {N : Nat} {e : Env} {w : World} {d : Option Tmp} {ty : TypeId} {pos : String} {af : Array Edge} {gd : Option (Nat × Bool)}
def f4m {x : Operand} {v : Value} (hx : opv e x = some v) : j9 P N e w ⟨d, .move x, ty, pos, af, gd⟩ v := fun a ha => by
 simp [execOp, ha.eval hx]
def d9n {x : Operand} {v : Value} (hx : opv e x = some v) : j9 P N e w ⟨d, .assign x, ty, pos, af, gd⟩ v := fun a ha => by
 simp [execOp, ha.eval hx]
def c4t {c x y : Operand} {v : Value} (hc : opv e c = some (.bool true)) (hx : opv e x = some v) : j9 P N e w ⟨d, .pick c x y, ty, pos, af, gd⟩ v := fun a ha => by
 simp [execOp, ha.eval hc, ha.eval hx, asBool]
def c4u {c x y : Operand} {v : Value} (hc : opv e c = some (.bool false)) (hy : opv e y = some v) : j9 P N e w ⟨d, .pick c x y, ty, pos, af, gd⟩ v := fun a ha => by
 simp [execOp, ha.eval hc, ha.eval hy, asBool]
def b7g {op : BinOp} {t : TypeId} {x y : Operand} {k k' : IntKind} {a b : Int} : (eqGuard op t x y (.int k a) (.int k' b)).run P w = .ok () w := by
 unfold eqGuard
 cases op <;> simp <;> rfl
def a3y {op : BinOp} {t yt : TypeId} {x y : Operand} {k k' : IntKind} {a b : Int} {v : Value} (hx : opv e x = some (.int k a)) (hy : opv e y = some (.int k' b))
  (hr : (binOp op t (.int k a) (.int k' b)).run P w = .ok v w) : j9 P N e w ⟨d, .binOp op t x y yt, ty, pos, af, gd⟩ v := fun s hs => by
 simp only [execOp, hs.eval hx, hs.eval hy, Sem.run_bind, b7g, Result.andThen_ok, hr]
 rfl
def g1h {t yt : TypeId} {x y : Operand} {k : IntKind} {a b : Int} (hx : opv e x = some (.int k a)) (hy : opv e y = some (.int k b)) :
 j9 P N e w ⟨d, .binOp .lss t x y yt, ty, pos, af, gd⟩ (.bool (decide (a < b))) := a3y hx hy (by simp [binOp, Op.intCmp])
def g1i {t yt : TypeId} {x y : Operand} {k : IntKind} {a b : Int} (hx : opv e x = some (.int k a)) (hy : opv e y = some (.int k b)) :
 j9 P N e w ⟨d, .binOp .leq t x y yt, ty, pos, af, gd⟩ (.bool (decide (a <= b))) := a3y hx hy (by simp [binOp, Op.intCmp])
def g1j {t yt : TypeId} {x y : Operand} {k : IntKind} {a b : Int} (hx : opv e x = some (.int k a)) (hy : opv e y = some (.int k b)) :
 j9 P N e w ⟨d, .binOp .gtr t x y yt, ty, pos, af, gd⟩ (.bool (decide (b < a))) := a3y hx hy (by simp [binOp, Op.intCmp])
def g1k {t yt : TypeId} {x y : Operand} {k : IntKind} {a b : Int} (hx : opv e x = some (.int k a)) (hy : opv e y = some (.int k b)) :
 j9 P N e w ⟨d, .binOp .geq t x y yt, ty, pos, af, gd⟩ (.bool (decide (b <= a))) := a3y hx hy (by simp [binOp, Op.intCmp])
def g1l {t yt : TypeId} {x y : Operand} {k : IntKind} {a b : Int} (hx : opv e x = some (.int k a)) (hy : opv e y = some (.int k b)) :
 j9 P N e w ⟨d, .binOp .eql t x y yt, ty, pos, af, gd⟩ (.bool (a == b)) := a3y hx hy (by simp [binOp, Op.intCmp])
def g1m {t yt : TypeId} {x y : Operand} {k : IntKind} {a b : Int} (hx : opv e x = some (.int k a)) (hy : opv e y = some (.int k b)) :
 j9 P N e w ⟨d, .binOp .neq t x y yt, ty, pos, af, gd⟩ (.bool (a != b)) := a3y hx hy (by simp [binOp, Op.intCmp])
def g1n {t yt : TypeId} {x y : Operand} {k : IntKind} {a b : Int} (hx : opv e x = some (.int k a)) (hy : opv e y = some (.int k b)) :
 j9 P N e w ⟨d, .binOp .add t x y yt, ty, pos, af, gd⟩ (.int k (k.wrap (a + b))) := a3y hx hy (by simp [binOp, Op.intArith])
def g1o {t yt : TypeId} {x y : Operand} {k : IntKind} {a b : Int} (hx : opv e x = some (.int k a)) (hy : opv e y = some (.int k b)) :
 j9 P N e w ⟨d, .binOp .sub t x y yt, ty, pos, af, gd⟩ (.int k (k.wrap (a - b))) := a3y hx hy (by simp [binOp, Op.intArith])
def g1p {t yt : TypeId} {x y : Operand} {k : IntKind} {a b : Int} (hx : opv e x = some (.int k a)) (hy : opv e y = some (.int k b)) :
 j9 P N e w ⟨d, .binOp .mul t x y yt, ty, pos, af, gd⟩ (.int k (k.wrap (a * b))) := a3y hx hy (by simp [binOp, Op.intArith])
def g1q {t : TypeId} {x : Operand} {b : Bool} (hx : opv e x = some (.bool b)) : j9 P N e w ⟨d, .unOp .not t x, ty, pos, af, gd⟩ (.bool (!b)) := fun a ha => by
 simp [execOp, ha.eval hx, Op.unary]
def c2n {x : Operand} {i : Nat} {vs : Array Value} {v : Value} (hx : opv e x = some (.tuple vs)) (hv : vs[i]? = some v) : j9 P N e w ⟨d, .extract x i, ty, pos, af, gd⟩ v := fun a ha => by
 simp [execOp, ha.eval hx, Instr.extract, hv]
def f4n {s t : TypeId} {x : Operand} {k k' : IntKind} {n : Int} (hx : opv e x = some (.int k n)) (hs : (P.underlying s).isSome = true) (ht : P.underlying t = some (.int k')) :
  j9 P N e w ⟨d, .convert s t x, ty, pos, af, gd⟩ (.int k' (k'.wrap n)) := fun a ha => by
 obtain ⟨d', hd'⟩ := S2.1 hs
 simp [execOp, ha.eval hx, convert, run_underlying hd', run_underlying ht, Conv.intToInt]
def b8p {fn : Fn} {x y : Array Operand} {vs us : Array Value} (hx : ∀ a, Fr N a e -> x.map a.eval = vs) (hy : ∀ a, Fr N a e -> y.map a.eval = us) :
  j9 P N e w ⟨d, .makeFunc fn x y, ty, pos, af, gd⟩ (.func fn vs us) := fun a ha => by
 simp [execOp, hx a ha, hy a ha, Instr.makeFunc]
def a9f {s i off : Nat} {x : Operand} {b o : Nat} (hx : opv e x = some (.pointer (some ⟨b, o, none⟩))) (hf : a6f P s i off = true) :
  j9 P N e w ⟨d, .fieldAddr s x i, ty, pos, af, gd⟩ (.pointer (some ⟨b, o + off, none⟩)) := fun a ha => by
 unfold a6f at hf
 revert hf
 cases hu : P.underlying s with
 | none => intro h; cases h
 | some dd =>
  cases dd <;> (try (intro h; cases h; done))
  rename_i fs; cases hfi : fs[i]? with
  | none => intro h; simp [hfi] at h
  | some f =>
   simp only [hfi, A7]; rintro ⟨h1, h2⟩; have h1' := A8 h1; cases hq : P.info? f.type with
   | none => simp [hq] at h2
   | some tinf =>
    have hz : tinf.size ≠ 0 := by
     intro h0; rw [hq] at h2; simp only [h0] at h2; cases h2
    have hadd : (⟨b, o, none⟩ : Addr).add f.offset = ⟨b, o + off, none⟩ := by rw [Addr.add_mid, h1']
    simp [execOp, ha.eval hx, Instr.fieldAt, run_underlying hu, hfi, Instr.sureAddr, fieldPlace, sizeOf, typeInfo, hq, hz, hadd]
def a6g {t el sz : Nat} {x y : Operand} {b o len cap i : Nat} {k : IntKind} (hx : opv e x = some (.slice (some ⟨b, o, none⟩) len cap)) (hy : opv e y = some (.int k (i : Int)))
  (ht : x6 P t el sz = true) (hi : i < len) : j9 P N e w ⟨d, .indexAddr t x y, ty, pos, af, gd⟩ (.pointer (some ⟨b, o + i * sz, none⟩)) := fun a ha => by
 unfold x6 at ht
 rw [A7] at ht
 obtain ⟨h1, h2⟩ := ht
 revert h1
 split
 ·rename_i e' hu; intro h1; have h1' := A8 h1; subst h1'; cases hq : P.info? el with
  | none => simp [hq] at h2
  | some tinf =>
   rw [hq] at h2; have hz := A8 h2; simp [execOp, ha.eval hx, ha.eval hy, Instr.indexAt, asIntOf, run_underlying hu, hi, sizeOf, typeInfo, hq, hz, Addr.add_mid]
 ·intro h; cases h
def f2f {x : Operand} {A : Option Addr} {len cap : Nat} {t rt : TypeId} (hx : opv e x = some (.slice A len cap)) (ht : a3c P t = true) :
  j9 P N e w ⟨d, .call ⟨.builtin .len, #[x], #[t]⟩, rt, pos, af, gd⟩ (.int .i64 (len : Int)) := fun a ha => by
 unfold a3c at ht
 revert ht
 split
 ·rename_i el hu; intro _; simp [execOp, resolve, invoke, builtin, Builtin.len_, ha.eval hx, run_underlying hu, goInt]
 ·intro h; cases h
def b4z {t n : Nat} {x : Operand} {b o : Nat} {cs : List Value} (hx : opv e x = some (.pointer (some ⟨b, o, none⟩))) (hc : w.rangeAt b o cs) (ht : a5k P t n = true) (hn : cs.length = n) :
  j9 P N e w ⟨d, .load t x, ty, pos, af, gd⟩ (.agg cs.toArray) := fun a ha => by
 obtain ⟨⟨dd, hu, hr⟩, hi⟩ := b8o ht
 simp [execOp, ha.eval hx, run_loadAt_mid w b o t cs dd hc hu hr (by rw [hi, hn])]
def a5g {t : Nat} {x : Operand} {b o : Nat} {v : Value} (hx : opv e x = some (.pointer (some ⟨b, o, none⟩))) (hc : w.cell? ⟨b, o, none⟩ = some v) (ht : a0h P t = true) :
  j9 P N e w ⟨d, .load t x, ty, pos, af, gd⟩ v := fun a ha => by
 unfold a0h at ht
 cases hu : P.underlying t with
 | none => simp [hu] at ht
 | some dd =>
  have hr : dd.isRow = false := by
   rw [hu] at ht; cases dd <;> simp_all [TypeDesc.isRow]
  simp [execOp, ha.eval hx, Instr.loadAt, Instr.sureAddr, loadVar, b4y hu, hr, run_load, hc]
end
structure Mu where
  may : List Nat := []
  held : List (Nat × Obj) := []
instance : Coe (List Nat) Mu := ⟨fun l => ⟨l, []⟩⟩
variable {M : Mu}
abbrev Gh := Nat -> Option Obj
def Holds (G : Gh) (w : World) : Prop := ∀ b o, G b = some o -> w.heap[b]? = some o
def Holds.lt {G : Gh} {w : World} (h : Holds G w) {b : Nat} {o : Obj} (hb : G b = some o) : b < w.heap.size := (E4.1 (h b o hb)).1
def Holds.none_ {G : Gh} {w : World} (h : Holds G w) {b : Nat} (hb : w.heap.size <= b) : G b = none := by
 cases hg : G b with
 | none => rfl
 | some o => have := h.lt hg; omega
structure Cx (w0 : World) (G0 G : Gh) (w : World) (M : Mu := {}) : Prop where
  holds : Holds G w
  os : w.os = w0.os
  tape : w.tape = w0.tape
  output : w.output = w0.output
  size : w0.heap.size <= w.heap.size
  old' : ∀ b, b < w0.heap.size -> b ∉ M.may -> w.heap[b]? = w0.heap[b]?
  gle : ∀ b o, G0 b = some o -> G b = some o
  fresh : ∀ b o, G b = some o -> G0 b = some o ∨ w0.heap.size <= b
  held : ∀ x ∈ M.held, w.heap[x.1]? = some x.2 /\ G x.1 = none /\ (w0.heap.size <= x.1 ∨ x.1 ∈ M.may)
  hnd : (M.held.map (·.1)).Nodup
section
variable {w0 w w' : World} {G0 G G' : Gh}
def Cx.old (h : Cx w0 G0 G w) (b : Nat) (hb : b < w0.heap.size) : w.heap[b]? = w0.heap[b]? := h.old' b hb (by simp)
def Cx.heldLt (h : Cx w0 G0 G w M) : ∀ x ∈ M.held, x.1 < w.heap.size := fun x hx => (E4.1 (h.held x hx).1).1
def Cx.refl (h : Holds G w) : Cx w G G w := ⟨h, rfl, rfl, rfl, B9 _, fun _ _ _ => rfl, fun _ _ h => h, fun _ _ h => .inl h, fun _ h => (H4 h).elim, U0⟩
def Cx.none' (k : Cx w G G' w' M) {b : Nat} (hb : b < w.heap.size) (hg : G b = none) : G' b = none := by
 cases hg' : G' b with
 | none => rfl
 | some o =>
  rcases k.fresh b o hg' with h6 | h6
  ·rw [hg] at h6; cases h6
  ·omega
def Cx.trans (h : Cx w0 G0 G w M) (k : Cx w G G' w') : Cx w0 G0 G' w' M :=
  ⟨k.holds, k.os.trans h.os, k.tape.trans h.tape, k.output.trans h.output, D5 h.size k.size, fun b hb hm => (k.old b (C3 hb h.size)).trans (h.old' b hb hm),
   fun b o hg => k.gle b o (h.gle b o hg), fun b o hg => by
    rcases k.fresh b o hg with h1 | h1
    · exact h.fresh b o h1
    · exact .inr (D5 h.size h1), fun x hx => ⟨(k.old x.1 (h.heldLt x hx)).trans (h.held x hx).1, k.none' (h.heldLt x hx) (h.held x hx).2.1, (h.held x hx).2.2⟩, h.hnd⟩
def Cx.alloc (h : Holds G w) (o : Obj) : Cx w G G (w.alloc o) :=
 ⟨fun b u hb => (Below.heap_alloc w o b (h.lt hb)).trans (h b u hb), rfl, rfl, rfl, by simp, fun b hb _ => Below.heap_alloc w o b hb, fun _ _ h => h, fun _ _ h => .inl h, fun _ h => (H4 h).elim, U0⟩
def Cx.drew (h : Cx w0 G0 G w M) : Cx w0 G0 G w.drew M := ⟨h.holds, h.os, h.tape, h.output, h.size, h.old', h.gle, h.fresh, h.held, h.hnd⟩
def Cx.below (h : Cx w0 G0 G w) : Below w0.heap.size w0 w := ⟨h.os, h.tape, h.output, h.size, h.old⟩
def Gh.add (G : Gh) (b : Nat) (o : Obj) : Gh := fun x => if x = b then some o else G x
def Gh.add_le {b : Nat} {o : Obj} (hb : G b = none) : ∀ x u, G x = some u -> G.add b o x = some u := by
 intro x u hx
 unfold Gh.add
 by_cases hxb : x = b
 ·subst hxb; rw [hb] at hx; cases hx
 ·rw [F7 hxb]; exact hx
def Gh.add_self {b : Nat} {o : Obj} : G.add b o b = some o := by simp [Gh.add]
def Cx.freeze (h : Cx w0 G0 G w M) {b : Nat} {o : Obj} (hb : w.heap[b]? = some o) (hg : G b = none) (hn : w0.heap.size <= b) (hh : b ∉ M.held.map (·.1)) : Cx w0 G0 (G.add b o) w M :=
  ⟨fun x u hx => by
    unfold Gh.add at hx; by_cases hxb : x = b
    · rw [F8 hxb] at hx; subst hxb; rw [hb]; exact hx
    · rw [F7 hxb] at hx; exact h.holds x u hx,
   h.os, h.tape, h.output, h.size, h.old', fun x u hx => Gh.add_le hg x u (h.gle x u hx), fun x u hx => by
    unfold Gh.add at hx; by_cases hxb : x = b
    · subst hxb; exact .inr hn
    · rw [F7 hxb] at hx; exact h.fresh x u hx, fun x hx => ⟨(h.held x hx).1, by
    have : x.1 ≠ b := fun e => hh (E1.2 ⟨x, hx, e⟩)
    unfold Gh.add; rw [F7 this]; exact (h.held x hx).2.1, (h.held x hx).2.2⟩, h.hnd⟩
def Cx.setRow' (h : Cx w0 G0 G w M) {b : Nat} (hg : G b = none) (hn : w0.heap.size <= b ∨ b ∈ M.may) (hh : b ∉ M.held.map (·.1)) (cs : Array Value) : Cx w0 G0 G (w.setRow b cs) M :=
  ⟨fun x u hx => by
    have : x ≠ b := by rintro rfl; rw [hg] at hx; cases hx
    rw [setRow_other w b x cs this]; exact h.holds x u hx,
   h.os, h.tape, h.output, by simpa using h.size, fun x hx hm => by rw [setRow_other w b x cs (by rintro rfl; exact hn.elim (fun h1 => by omega) (fun h1 => hm h1))]; exact h.old' x hx hm, h.gle, h.fresh, fun x hx => ⟨by
    have : x.1 ≠ b := fun e => hh (E1.2 ⟨x, hx, e⟩)
    rw [setRow_other w b x.1 cs this]; exact (h.held x hx).1, (h.held x hx).2⟩, h.hnd⟩
end
abbrev Bx := Nat × TypeId × List Value
structure Bxs (G : Gh) (w : World) (n : Nat) (l : List Bx) (M : Mu := {}) : Prop where
  at_ : ∀ x ∈ l, w.heap[x.1]? = some (.cells x.2.2.toArray x.2.1 (0, 0)) /\ G x.1 = none /\ (n <= x.1 ∨ x.1 ∈ M.may)
  nodup : (l.map (·.1)).Nodup
  apart : ∀ x ∈ l, x.1 ∉ M.held.map (·.1)
section
variable {w0 w w' : World} {G0 G G' : Gh} {n : Nat}
def Bxs.nil (G : Gh) (w : World) (n : Nat) : Bxs G w n [] M := ⟨fun x h => by simp at h, by simp, fun x h => by simp at h⟩
def Bxs.get {l : List Bx} (h : Bxs G w n l M) {i : Nat} {b : Nat} {T : TypeId} {cs : List Value} (hi : l[i]? = some (b, T, cs)) : w.heap[b]? = some (.cells cs.toArray T (0, 0)) /\ G b = none /\ (n <= b ∨ b ∈ M.may) :=
 h.at_ _ (I1 hi)
def Bxs.off {l : List Bx} (h : Bxs G w n l M) {i : Nat} {b : Nat} {T : TypeId} {cs : List Value} (hi : l[i]? = some (b, T, cs)) : b ∉ M.held.map (·.1) := h.apart _ (I1 hi)
def Bxs.range {l : List Bx} (h : Bxs G w n l M) {i : Nat} {b : Nat} {T : TypeId} {cs : List Value} (hi : l[i]? = some (b, T, cs)) {o m : Nat} {row : List Value} (hr : (cs.drop o).take m = row) : w.rangeAt b o row := by
 intro j v hv
 have h1 := (h.get hi).1
 subst hr
 rw [World.cell?, h1]
 simp only [Option.isSome, N2]
 rw [J2] at hv
 split at hv
 ·rw [I7] at hv; exact hv
 ·cases hv
def Bxs.cell {l : List Bx} (h : Bxs G w n l M) {i : Nat} {b : Nat} {T : TypeId} {cs : List Value} (hi : l[i]? = some (b, T, cs)) {o : Nat} {v : Value} (hr : cs[o]? = some v) : w.cell? ⟨b, o, none⟩ = some v := by
 have h1 := (h.get hi).1
 rw [World.cell?, h1]
 simpa using hr
def Bxs.lt {l : List Bx} (h : Bxs G w n l M) : ∀ x ∈ l, x.1 < w.heap.size := fun x hx => (E4.1 (h.at_ x hx).1).1
def Bxs.ext {l : List Bx} (h : Bxs G w n l M) (k : Cx w G G' w') : Bxs G' w' n l M := by
 refine ⟨fun x hx => ?_, h.nodup, h.apart⟩
 obtain ⟨h1, h2, h3⟩ := h.at_ x hx
 have hlt := h.lt x hx
 refine ⟨(k.old x.1 hlt).trans h1, ?_, h3⟩
 cases hg : G' x.1 with
 | none => rfl
 | some o =>
  rcases k.fresh x.1 o hg with h6 | h6
  ·rw [h2] at h6; cases h6
  ·omega
def Bxs.drew {l : List Bx} (h : Bxs G w n l M) : Bxs G w.drew n l M := ⟨h.at_, h.nodup, h.apart⟩
def Bxs.push {l : List Bx} (h : Bxs G w n l M) (hh : Holds G w) (hn : n <= w.heap.size) (hM : ∀ x ∈ M.held, x.1 < w.heap.size) (T : TypeId) (cs : List Value) : Bxs G (w.alloc (.cells cs.toArray T)) n ((w.heap.size, T, cs) :: l) M := by
 have h1 := h.ext (Cx.alloc hh (.cells cs.toArray T))
 refine ⟨fun x hx => ?_, ?_, fun x hx => ?_⟩
 ·rcases D2.1 hx with rfl | hx
  ·exact ⟨heap_alloc_new w _, hh.none_ (B9 _), .inl hn⟩
  ·exact h1.at_ x hx
 ·rw [C9, L5]; refine ⟨?_, h.nodup⟩; rw [E1]; rintro ⟨x, hx, he⟩; have := h.lt x hx; omega
 ·rcases D2.1 hx with rfl | hx
  ·intro hm; obtain ⟨y, hy, he⟩ := E1.1 hm; have := hM y hy; simp only [] at he; omega
  ·exact h1.apart x hx
def Bxs.sub {l l' : List Bx} (h : Bxs G w n l M) (hs : l'.Sublist l) : Bxs G w n l' M := ⟨fun x hx => h.at_ x (hs.subset hx), (hs.map (·.1)).nodup h.nodup, fun x hx => h.apart x (hs.subset hx)⟩
def Bxs.perm {l l' : List Bx} (h : Bxs G w n l M) (hp : l.Perm l') : Bxs G w n l' M := ⟨fun x hx => h.at_ x (hp.mem_iff.2 hx), (hp.map (·.1)).nodup_iff.1 h.nodup, fun x hx => h.apart x (hp.mem_iff.2 hx)⟩
def Bxs.set0 {b : Nat} {T : TypeId} {cs : List Value} {l : List Bx} (h : Bxs G w n ((b, T, cs) :: l) M) (cs' : List Value) : Bxs G (w.setRow b cs'.toArray) n ((b, T, cs') :: l) M := by
 have hnd := h.nodup
 rw [C9, L5] at hnd
 refine ⟨fun x hx => ?_, by rw [C9, L5]; exact hnd, fun x hx => (D2.1 hx).elim (fun e => by rw [e]; exact h.apart (b, T, cs) (by simp)) (fun hx => h.apart x (by simp [hx]))⟩
 obtain ⟨h1, h2, h3⟩ := h.at_ (b, T, cs) (by simp)
 rcases D2.1 hx with rfl | hx
 ·exact ⟨setRow_heap w _ _ _ _ _ h1, h2, h3⟩
 ·obtain ⟨k1, k2, k3⟩ := h.at_ x (by simp [hx]); have hne : x.1 ≠ b := fun he => hnd.1 (by rw [E1]; exact ⟨x, hx, he⟩)
  exact ⟨(setRow_other w b x.1 _ hne).trans k1, k2, k3⟩
def b8q {l : List Bx} {i : Nat} {x : Bx} (hi : l[i]? = some x) : l.Perm (x :: l.eraseIdx i) := by
 obtain ⟨hlt, rfl⟩ := C8.1 hi
 induction l generalizing i with
 | nil => simp at hlt
 | cons y r ih =>
  cases i with
  | zero => simp
  | succ i =>
   have hlt' : i < r.length := by simpa using hlt
   simp only [List.getElem_cons_succ, List.eraseIdx_cons_succ]; exact ((ih hlt' (B2 hlt')).cons y).trans (List.Perm.swap _ _ _)
def d9o {l : List Bx} {i : Nat} (x : Bx) (hi : i < l.length) : (l.set i x).Perm (x :: l.eraseIdx i) := by
 have := b8q (l := l.set i x) (i := i) (x := x) (by simp [hi])
 rwa [List.eraseIdx_set_eq] at this
def Bxs.set {l : List Bx} (h : Bxs G w n l M) {i b : Nat} {T : TypeId} {cs : List Value} (hi : l[i]? = some (b, T, cs)) (cs' : List Value) : Bxs G (w.setRow b cs'.toArray) n (l.set i (b, T, cs')) M := by
 have hlt := (C8.1 hi).1
 exact ((h.perm (b8q hi)).set0 cs').perm (d9o (b, T, cs') hlt).symm
end
variable {M : Mu}
def g6t (P : Program) (f : FuncId) (args : Array Value) (G : Gh) (w : World) (R : Gh -> Value -> Prop) : Prop := Calls P f args w fun e w' => ∃ v G', e = .returned v /\ Cx w G G' w' /\ R G' v
def a4w (e : Env) : List Operand -> Option (List Value)
 | [] => some []
 | x :: r => match opv e x, a4w e r with | some v, some vs => some (v :: vs) | _, _ => none
def Fr.evals {N : Nat} {a : Act} {e : Env} (h : Fr N a e) : ∀ {xs : List Operand} {vs : List Value}, a4w e xs = some vs -> xs.toArray.map a.eval = vs.toArray
 | [], vs, hv => by simp [a4w] at hv; subst hv; simp
 | x :: r, vs, hv => by
  simp only [a4w] at hv; cases hx : opv e x with
  | none => simp [hx] at hv
  | some v =>
   cases hr : a4w e r with
   | none => simp [hx, hr] at hv
   | some us =>
    simp [hx, hr] at hv; subst hv; have := h.evals hr; simp only [K8] at this ⊢; simp only [C9, h.eval hx]
    congr 2
    have h2 := congrArg Array.toList this; simpa using h2
def b5a (v : Value) (h : v.oneCell' = true) : v.cells = #[v] := by
 cases v <;> first | rfl | (simp [Value.oneCell'] at h)
section
variable {P : Program} {ops : Array Oper} {Q : Exit -> Act -> World -> Prop} {N : Nat} {e : Env} {w w0 : World} {G0 G : Gh} {rest : List Oper} {d : Option Tmp} {ty : TypeId} {pos : String} {af : Array Edge} {bl : List Bx}
def g1r {T : TypeId} {x : Operand} {v : Value} {cs : List Value} (hC : Cx w0 G0 G w M) (hB : Bxs G w w0.heap.size bl M) (hx : opv e x = some v) (hcs : v.cells = cs.toArray) (hd : okD N d = true)
  (h : ∀ b w', Cx w G G w' -> Cx w0 G0 G w' M -> Bxs G w' w0.heap.size ((b, T, cs) :: bl) M -> WL P ops Q N rest (e.putO d (.pointer (some ⟨b, 0, none⟩))) w') :
  WL P ops Q N (⟨d, .box T x, ty, pos, af, none⟩ :: rest) e w := by
 refine x5 (R := fun v w' => v = .pointer (some ⟨w.heap.size, 0, none⟩) /\ w' = w.alloc (.cells cs.toArray T)) hd (fun a ha => ?_) ?_
 ·unfold OpR; simp [execOp, ha.eval hx, Instr.box, newVar, newRow, newObj, hcs]; exact ⟨rfl, rfl⟩
 ·rintro v w' ⟨rfl, rfl⟩; have hk := Cx.alloc hC.holds (.cells cs.toArray T); exact h _ _ hk (hC.trans hk) (hB.push hC.holds hC.size hC.heldLt T cs)
def e7s {T : TypeId} {cs : List Value} (hC : Cx w0 G0 G w M) (hB : Bxs G w w0.heap.size bl M) (hz : (P.info? T).bind (fun i => i.zero.map Value.cells) = some cs.toArray) (hd : okD N d = true)
  (h : ∀ b w', Cx w G G w' -> Cx w0 G0 G w' M -> Bxs G w' w0.heap.size ((b, T, cs) :: bl) M -> WL P ops Q N rest (e.putO d (.pointer (some ⟨b, 0, none⟩))) w') :
  WL P ops Q N (⟨d, .alloc T, ty, pos, af, none⟩ :: rest) e w := by
 refine x5 (R := fun v w' => v = .pointer (some ⟨w.heap.size, 0, none⟩) /\ w' = w.alloc (.cells cs.toArray T)) hd (fun a ha => ?_) ?_
 ·unfold OpR; cases hq : P.info? T with
  | none => simp [hq] at hz
  | some i =>
   cases hi : i.zero with
   | none => simp [hq, hi] at hz
   | some z =>
    simp [hq, hi] at hz; simp [execOp, Instr.alloc, zeroValue, typeInfo, hq, hi, newVar, newRow, newObj, hz]; exact ⟨rfl, rfl⟩
 ·rintro v w' ⟨rfl, rfl⟩; have hk := Cx.alloc hC.holds (.cells cs.toArray T); exact h _ _ hk (hC.trans hk) (hB.push hC.holds hC.size hC.heldLt T cs)
def d3v {t n : Nat} {x y : Operand} {b o : Nat} {T : TypeId} {v : Value} {vs cs cs' : List Value} (i : Nat) (hC : Cx w0 G0 G w M) (hB : Bxs G w w0.heap.size bl M) (hi : bl[i]? = some (b, T, cs))
  (hx : opv e x = some (.pointer (some ⟨b, o, none⟩))) (hy : opv e y = some v) (ht : (P.info? t).map (·.size) = some n) (hv : v.cells = vs.toArray) (hn : vs.length = n) (hone : vs.all Value.oneCell' = true) (hle : o + n <= cs.length)
  (hcs : cs.take o ++ vs ++ cs.drop (o + n) = cs') (hd : okD N d = true)
  (h : ∀ w', Cx w0 G0 G w' M -> Bxs G w' w0.heap.size (bl.set i (b, T, cs')) M -> WL P ops Q N rest (e.putO d undef) w') :
  WL P ops Q N (⟨d, .store t x y, ty, pos, af, none⟩ :: rest) e w := by
 have hg := hB.get hi
 subst hn
 refine x5 (R := fun v w' => v = undef /\ w' = w.setRow b cs'.toArray) hd (fun a ha => ?_) ?_
 ·unfold OpR; have hst := run_storeCells_at (P := P) b o T vs 0 cs.toArray w hg.1 (by simpa using hle) (by simpa using hone); have hsz := a3l ht w; have hrun : (Instr.storeAt t (.pointer (some ⟨b, o, none⟩)) v).run P w = .ok () (w.setRow b cs'.toArray) := by
   simp only [Instr.storeAt, Instr.sureAddr, storeVar, Sem.run_bind, Sem.run_pure, Result.andThen_ok, hsz, hv, S9, ne_eq, not_true_eq_false, Aq]; simp only [N5] at hst; simp only [hst, hcs]
  simp [execOp, ha.eval hx, ha.eval hy, hrun]
 ·rintro v w' ⟨rfl, rfl⟩; exact h _ (hC.setRow' hg.2.1 hg.2.2 (hB.off hi) _) (hB.set hi cs')
def a4x {f : FuncId} (hf : a1h P f = true) (args : Array Value) (w : World) : (callFunc f args).run P w = .ok (.enter f args) w := by
 unfold a1h at hf
 cases hq : P.funcs[f]? with
 | none => simp [hq] at hf
 | some fn =>
  rw [hq] at hf; simp only [A7] at hf; obtain ⟨h1, h2⟩ := hf; have h4 : (fn.name == "runtime.NumGoroutine") = false := by simpa using h2
  have h5 : fn.name ≠ "runtime.NumGoroutine" := by simpa using h4
  have h6 : fn.body ≠ none := by intro h; rw [h] at h1; cases h1
  simp [callFunc, hq, h5, h6]
def d9p {gd : Option (Nat × Bool)} {x : Operand} {f : FuncId} {xs : List Operand} {vs caps first : List Value} {ats : Array TypeId} (hx : opv e x = some (.func (.func f) first.toArray caps.toArray)) (hf : a1h P f = true) (hvs : a4w e xs = some vs)
  {R : Value -> World -> Prop} (hc : Calls P f (first ++ vs ++ caps).toArray w fun e w' => ∃ v, e = .returned v /\ R v w') :
  c2m P N e w ⟨d, .call ⟨.value x, xs.toArray, ats⟩, ty, pos, af, gd⟩ R := by
 intro a ha
 unfold OpR
 have hev := ha.evals hvs
 have h1 : (execOp a.eval ⟨d, .call ⟨.value x, xs.toArray, ats⟩, ty, pos, af, gd⟩).run P w = .ok (.enter f (first ++ vs ++ caps).toArray) w := by
  simp only [execOp, resolve, ha.eval hx, hev, Deferred.ofValue, Sem.run_bind, Sem.run_pure, Result.andThen_ok, invoke]; rw [a4x hf]; simp
 rw [h1]
 exact hc
def RV (P : Program) (e : Env) (w : World) : ResultVar -> Value -> Prop
 | .tmp t, v => e t = some v
 | .cell t ty, v => ∃ b n cs, e t = some (.pointer (some ⟨b, 0, none⟩)) /\ a5k P ty n = true /\ cs.length = n /\ w.rangeAt b 0 cs /\ v = .agg cs.toArray
def d0z (tmps : Array Value) : ResultVar -> Sem Value
 | .tmp t => pure (tmps.getD t undef)
 | .cell a t => do loadVar t (<- asAddr (tmps.getD a undef))
def b8r (fn : Func) (tmps : Array Value) : results fn tmps = (do let vs <- fn.results.mapM (d0z tmps); pure (if h : vs.size = 1 then vs[0] else .tuple vs)) := by
 unfold results
 congr 1
def b1s {a : Act} {r : ResultVar} {v : Value} (ha : Fr N a e) (h : RV P e w r v) : (d0z a.tmps r).run P w = .ok v w := by
 cases r with
 | tmp t =>
  have h1 := ha.at_ t v h; simp [d0z, J8, h1]
 | cell t ty =>
  obtain ⟨b, n, cs, h1, h2, h3, h4, rfl⟩ := h; have h5 := ha.at_ t _ h1; obtain ⟨⟨dd, hu, hr⟩, hi⟩ := b8o h2; simp [d0z, J8, h5, asAddr, run_loadVar_mid w b 0 ty cs dd h4 hu hr (by rw [hi, h3])]
def f2g {ι : Type} {c : Code} (μ : ι -> Nat) (I : ι -> Gh -> World -> Prop) (env : ι -> Env)
  (h : ∀ i G w n, (∀ j G' w', I j G' w' -> μ j < μ i -> WR P Q N c n (env j) w') -> I i G w -> WC P (Exit.then (Code.rounds P c Q n) Q) N c (env i) w) :
  ∀ i G w, I i G w -> WC P Q N (.loop c) (env i) w := by
 have key : ∀ n i G w, μ i < n -> I i G w -> WR P Q N c n (env i) w := by
  intro n
  induction n with
  | zero => intro i G w hm _; omega
  | succ n ih =>
   intro i G w hm hi; exact f4l (h i G w n (fun j G' w' hj hlt => ih j G' w' (by omega) hj) hi)
 intro i G w hi
 exact f4k (μ i + 1) (key _ i G w (by omega) hi)
def g1s {c : Code} {n : Nat} (h : WR P Q N c n e w) : ∀ a, Fr N a e -> Code.rounds P c Q n a w := h
end
variable {M : Mu}
abbrev GLe (G G' : Gh) : Prop := ∀ b o, G b = some o -> G' b = some o
class Rp (α : Type) where
  sz : Nat
  Is : Gh -> List Value -> α -> Prop
  len : ∀ {G cs x}, Is G cs x -> cs.length = sz
  one : ∀ {G cs x}, Is G cs x -> ∀ u ∈ cs, u.oneCell' = true
  mono : ∀ {G G' : Gh} {cs x}, GLe G G' -> Is G cs x -> Is G' cs x
def d4 : Nat := 140737488355328
def a4k (G : Gh) (b o : Nat) (row : List Value) : Prop := ∃ cs T fz, G b = some (.cells cs T fz) /\ ∀ j u, row[j]? = some u -> cs[o + j]? = some u
def a4k.mono {G G' : Gh} {b o : Nat} {row : List Value} (hg : GLe G G') (h : a4k G b o row) : a4k G' b o row := by
 obtain ⟨cs, T, fz, h1, h2⟩ := h
 exact ⟨cs, T, fz, hg _ _ h1, h2⟩
def a4k.range {G : Gh} {w : World} (hw : Holds G w) {b o : Nat} {row : List Value} (h : a4k G b o row) : w.rangeAt b o row := by
 obtain ⟨cs, T, fz, h1, h2⟩ := h
 intro j v hv
 rw [World.cell?, hw _ _ h1]
 simpa using h2 j v hv
def a4k.cell {G : Gh} {w : World} (hw : Holds G w) {b o : Nat} {row : List Value} (h : a4k G b o row) {j : Nat} {v : Value} (hj : row[j]? = some v) : w.cell? ⟨b, o + j, none⟩ = some v := h.range hw j v hj
def a4k.part {G : Gh} {b o : Nat} {row part : List Value} (h : a4k G b o row) {i m : Nat} (hp : (row.drop i).take m = part) : a4k G b (o + i) part := by
 obtain ⟨cs, T, fz, h1, h2⟩ := h
 subst hp
 refine ⟨cs, T, fz, h1, fun j u hu => ?_⟩
 rw [J2] at hu
 split at hu
 ·rw [I7] at hu; rw [I6]; exact h2 _ _ hu
 ·cases hu
def Sl {α : Type} [Rp α] (G : Gh) (v : Value) (xs : List α) : Prop :=
 ∃ A cap, v = .slice A xs.length cap /\ xs.length <= cap /\ xs.length <= d4 /\
  ∀ k x, xs[k]? = some x -> ∃ b o row, A = some ⟨b, o, none⟩ /\ a4k G b (o + k * Rp.sz α) row /\ Rp.Is G row x
def Sl.mono {α : Type} [Rp α] {G G' : Gh} {v : Value} {xs : List α} (hg : GLe G G') (h : Sl G v xs) : Sl G' v xs := by
 obtain ⟨A, cap, h1, h2, h3, h4⟩ := h
 refine ⟨A, cap, h1, h2, h3, fun k x hk => ?_⟩
 obtain ⟨b, o, row, e1, e2, e3⟩ := h4 k x hk
 exact ⟨b, o, row, e1, e2.mono hg, Rp.mono hg e3⟩
def Sl.form {α : Type} [Rp α] {G : Gh} {v : Value} {xs : List α} (h : Sl G v xs) : ∃ A cap, v = .slice A xs.length cap := by
 obtain ⟨A, cap, h1, _⟩ := h
 exact ⟨A, cap, h1⟩
def Sl.le {α : Type} [Rp α] {G : Gh} {v : Value} {xs : List α} (h : Sl G v xs) : xs.length <= d4 := by
 obtain ⟨A, cap, _, h2, h3, _⟩ := h
 exact h3
def Sl.elem {α : Type} [Rp α] {G : Gh} {A : Option Addr} {n cap k : Nat} {xs : List α} {x : α} (h : Sl G (.slice A n cap) xs) (hk : xs[k]? = some x) :
  ∃ b o row, A = some ⟨b, o, none⟩ /\ a4k G b (o + k * Rp.sz α) row /\ Rp.Is G row x := by
 obtain ⟨A', cap', h1, _, _, h4⟩ := h
 injection h1 with e1 e2 e3
 subst e1
 exact h4 k x hk
def Sl.nil_ {α : Type} [Rp α] (G : Gh) : Sl G (.slice none 0 0) ([] : List α) := ⟨none, 0, rfl, B9 _, C0 _, fun k x h => by simp at h⟩
instance : Rp Int := ⟨1, fun _ cs n => cs = [.int .i64 n], fun h => by rw [h]; rfl, fun h => by rw [h]; simp [Value.oneCell'], fun _ h => h⟩
instance : Rp Bool := ⟨1, fun _ cs b => cs = [.bool b], fun h => by rw [h]; rfl, fun h => by rw [h]; simp [Value.oneCell'], fun _ h => h⟩
instance : Rp UInt8 := ⟨1, fun _ cs b => cs = [.int .u8 (b.toNat : Int)], fun h => by rw [h]; rfl, fun h => by rw [h]; simp [Value.oneCell'], fun _ h => h⟩
instance {α : Type} [Rp α] : Rp (List α) := ⟨1, fun G cs xs => ∃ v, cs = [v] /\ Sl G v xs, fun ⟨_, h, _⟩ => by rw [h]; rfl, fun ⟨v, h, A, cap, h1, _⟩ => by rw [h, h1]; simp [Value.oneCell'], fun hg ⟨v, h, hs⟩ => ⟨v, h, hs.mono hg⟩⟩
def d9q {α : Type} {xs : List α} {k : Nat} {x : α} (h : xs[k]? = some x) : xs.drop k = x :: xs.drop (k + 1) := by
 obtain ⟨hk, he⟩ := C8.1 h
 rw [G9 hk, he]
structure Dig where
  l : List UInt8
  h : l.length = 32
  deriving DecidableEq
def Dig.cells (d : Dig) : List Value := d.l.map fun b => .int .u8 (b.toNat : Int)
@[simp] theorem Dig.length_cells (d : Dig) : d.cells.length = 32 := by simp [Dig.cells, d.h]
@[simp] theorem a0p (d : Dig) : ∀ v ∈ d.cells, v.oneCell' = true := by simp [Dig.cells, Value.oneCell']
def Dig.zero : Dig := ⟨List.replicate 32 0, rfl⟩
instance : Inhabited Dig := ⟨Dig.zero⟩
instance : Rp Dig := ⟨32, fun _ cs d => cs = d.cells, fun h => by rw [h]; exact Dig.length_cells _, fun h => by rw [h]; exact a0p _, fun _ h => h⟩
def d3w {w0 w : World} {G0 G : Gh} {n b : Nat} {T : TypeId} {cs : List Value} {bl : List Bx} (hC : Cx w0 G0 G w M) (hn : w0.heap.size <= n) (hB : Bxs G w n ((b, T, cs) :: bl) M) (hm : ∀ m ∈ M.may, m ∈ bl.map (·.1) ∨ m ∈ M.held.map (·.1) := by simp) :
  GLe G (G.add b (.cells cs.toArray T (0, 0))) /\ Cx w0 G0 (G.add b (.cells cs.toArray T (0, 0))) w M /\ Bxs (G.add b (.cells cs.toArray T (0, 0))) w n bl M := by
 obtain ⟨h1, h2, h3⟩ := hB.at_ (b, T, cs) (by simp)
 have hnd := hB.nodup
 rw [C9, L5] at hnd
 have hap := hB.apart (b, T, cs) (by simp)
 have hne : b ∉ M.may := fun hb => (hm b hb).elim (fun h => hnd.1 h) (fun h => hap h)
 refine ⟨Gh.add_le h2, hC.freeze h1 h2 (D5 hn (h3.elim id (fun h => (hne h).elim))) hap, ⟨fun x hx => ?_, hnd.2, fun x hx => hB.apart x (by simp [hx])⟩⟩
 obtain ⟨k1, k2, k3⟩ := hB.at_ x (by simp [hx])
 have hne : x.1 ≠ b := fun he => hnd.1 (by rw [E1]; exact ⟨x, hx, he⟩)
 exact ⟨k1, by unfold Gh.add; rw [F7 hne]; exact k2, k3⟩
end Go.Gx
namespace Go.Gx
open Go Go.RowKit
section
variable {P : Program}
def o8 {t off : Nat} {cs : Array Value} {v : Value} (ht : a0h P t = true) (hc : cs[off]? = some v) (w : World) : (part t cs off).run P w = .ok v w := by
 unfold a0h at ht
 cases hu : P.underlying t with
 | none => simp [hu] at ht
 | some dd =>
  have hr : dd.isRow = false := by rw [hu] at ht; cases dd <;> simp_all [TypeDesc.isRow]
  simp [part, b4y hu, hr, hc]
def a3d {t off n : Nat} {cs : Array Value} (ht : a5k P t n = true) (w : World) : (part t cs off).run P w = .ok (.agg (cs.extract off (off + n))) w := by
 obtain ⟨⟨dd, hu, hr⟩, hi⟩ := b8o ht
 simp [part, b4y hu, hr, a3l hi]
def eqP (P : Program) (d : Nat) (xs ys : Array Value) : List (Nat × Nat) -> Bool -> Prop
 | [], r => r = true
 | (t, off) :: L, r => ∃ a b r1 r2, (∀ w, (part t xs off).run P w = .ok a w) /\ (∀ w, (part t ys off).run P w = .ok b w) /\ (∀ w, (Op.equalIn d t a b).run P w = .ok r1 w) /\ eqP P d xs ys L r2 /\ r = (r1 && r2)
def a9g {d : Nat} {xs ys : Array Value} : ∀ (L : List (Nat × Nat)) (fs : List Field) (r : Bool), fs.map (fun f => (f.name == "_", f.type, f.offset)) = L.map (fun p => (false, p.1, p.2)) -> eqP P d xs ys L r ->
  ∀ w, (Op.eqFields d xs ys fs).run P w = .ok r w
 | [], fs, r, hL, h, w => by
  have : fs = [] := by simpa using hL
  subst this; simp only [eqP] at h; subst h; simp [Op.eqFields]
 | (t, off) :: L, [], r, hL, h, w => by simp at hL
 | (t, off) :: L, f :: fs, r, hL, h, w => by
  simp only [C9, K7, I4] at hL; obtain ⟨⟨h1, h2, h3⟩, hL⟩ := hL; subst h2; subst h3; obtain ⟨a, b, r1, r2, ha, hb, he, hr, rfl⟩ := h; have ih := a9g L fs r2 hL hr w; have hn : f.name ≠ "_" := by simpa using h1
  unfold Op.eqFields; rw [F8 hn]; simp only [Sem.run_bind, ha, hb, he, Result.andThen_ok]; cases r1
  ·simp
  ·simp [ih]
def a2e (P : Program) (t : Nat) (L : List (Nat × Nat)) : Bool :=
 match P.underlying t with
 | some (.struct fs) => (fs.toList.map (fun f => (f.name == "_", f.type, f.offset)) == L.map (fun p => (false, p.1, p.2))) && !P.stoodInHeld t
 | _ => false
def b2f {d t : Nat} {xs ys : Array Value} {L : List (Nat × Nat)} {r : Bool} (hf : a2e P t L = true) (h : eqP P d xs ys L r) (w : World) :
  (Op.equalIn (d + 1) t (.agg xs) (.agg ys)).run P w = .ok r w := by
 unfold a2e at hf
 revert hf
 split
 ·rename_i fs hu; intro hf; simp only [A7, J4, K4] at hf; have hfo : P.fieldsOf t = fs := by simp [Program.fieldsOf, hu]
  rw [run_equalIn_struct w d t xs ys (by rw [hfo]; exact hu) hf.2, hfo]; exact a9g L fs.toList r hf.1 h w
 ·intro h; cases h
def q0 (P : Program) (t : Nat) : Bool :=
 match P.underlying t with
 | some (.array 32 e) => (match P.underlying e with | some (.int .u8) => true | _ => false) && (match P.info? e with | some i => Nat.beq i.size 1 | none => false)
 | _ => false
def a6h {d e : Nat} (hu : P.underlying e = some (.int .u8)) (as bs : List UInt8) : ∀ (is : List Nat), (∀ i ∈ is, i < as.length /\ i < bs.length) -> ∀ w,
  (Op.eqItems (d + 1) e 1 (as.map fun b => Value.int .u8 (b.toNat : Int)).toArray (bs.map fun b => Value.int .u8 (b.toNat : Int)).toArray is).run P w = .ok (is.all fun i => as[i]? == bs[i]?) w
 | [], _, w => by simp [Op.eqItems]
 | i :: is, hi, w => by
  obtain ⟨h1, h2⟩ := hi i (by simp); have ho : a0h P e = true := by simp [a0h, hu]
  have e1 := o8 (P := P) (t := e) (off := i * 1) (cs := (as.map fun b => Value.int .u8 (b.toNat : Int)).toArray) (v := .int .u8 (as[i].toNat : Int)) ho (by simp [h1]) w; have e2 := o8 (P := P) (t := e) (off := i * 1) (cs := (bs.map fun b => Value.int .u8 (b.toNat : Int)).toArray) (v := .int .u8 (bs[i].toNat : Int)) ho (by simp [h2]) w; have e3 : (Op.equalIn (d + 1) e (.int .u8 (as[i].toNat : Int)) (.int .u8 (bs[i].toNat : Int))).run P w = .ok ((as[i].toNat : Int) == (bs[i].toNat : Int)) w := run_equalIn_int w d e .u8 .u8 _ _ hu; have ih := a6h (d := d) hu as bs is (fun j hj => hi j (by simp [hj])) w; simp only [Op.eqItems, Sem.run_bind, e1, e2, e3, Result.andThen_ok]; have hb : ((as[i].toNat : Int) == (bs[i].toNat : Int)) = (as[i]? == bs[i]?) := by
   rw [B2 h1, B2 h2, J9]; simp only [J4, Int.ofNat_inj, A3]; exact ⟨fun h => W8.1 h, fun h => by rw [h]⟩
  rw [N6, <- hb]; cases hc : ((as[i].toNat : Int) == (bs[i].toNat : Int))
  ·simp
  ·simp [ih]
def a2p {d t : Nat} (ht : q0 P t = true) (x y : Dig) (w : World) : (Op.equalIn (d + 2) t (.agg x.cells.toArray) (.agg y.cells.toArray)).run P w = .ok (decide (x = y)) w := by
 unfold q0 at ht
 revert ht
 split
 ·rename_i e hu; intro ht; rw [A7] at ht; obtain ⟨h1, h2⟩ := ht; have hue : P.underlying e = some (.int .u8) := by revert h1; split <;> simp_all
  cases hi : P.info? e with
  | none => simp [hi] at h2
  | some i =>
   rw [hi] at h2; have hz : P.cellsOf e = 1 := by
    have := A8 h2; simp [Program.cellsOf, hi, this]
   rw [run_equalIn_array w (d + 1) _ _ hu hi, hz]; have := a6h (P := P) (d := d) hue x.l y.l (List.range 32) (by intro i hi; simp at hi; rw [x.h, y.h]; exact ⟨hi, hi⟩) w; refine this.trans ?_
   congr 1
   rw [J9]; simp only [J6, T0, J4, C6]; constructor
   ·intro h; cases x with | mk xl xh => cases y with | mk yl yh =>
    simp only [Dig.mk.injEq]; apply J1; intro i; by_cases hlt : i < 32
    ·exact h i hlt
    ·rw [I0 (by omega), I0 (by omega)]
   ·rintro rfl i _; rfl
 ·intro h; cases h
section
variable {N : Nat} {e : Env} {w : World} {d : Option Tmp} {ty : TypeId} {pos : String} {af : Array Edge} {gd : Option (Nat × Bool)}
def c4v {t yt : TypeId} {x y : Operand} {cx cy : Array Value} {r : Bool} (heq : ∀ w, (Op.equalIn 10000 t (.agg cx) (.agg cy)).run P w = .ok r w) (hg : P.eqGuardType P.depth t = false)
  (hx : opv e x = some (.agg cx)) (hy : opv e y = some (.agg cy)) : j9 P N e w ⟨d, .binOp .eql t x y yt, ty, pos, af, gd⟩ (.bool r) := fun a ha => by
 simp only [execOp, ha.eval hx, ha.eval hy, Sem.run_bind, run_eqGuard_agg w .eql t x y cx cy hg, Result.andThen_ok, run_eql_struct, heq]
 rfl
def d3x {t yt : TypeId} {x y : Operand} {cx cy : Array Value} {r : Bool} (heq : ∀ w, (Op.equalIn 10000 t (.agg cx) (.agg cy)).run P w = .ok r w) (hg : P.eqGuardType P.depth t = false)
  (hx : opv e x = some (.agg cx)) (hy : opv e y = some (.agg cy)) : j9 P N e w ⟨d, .binOp .neq t x y yt, ty, pos, af, gd⟩ (.bool (!r)) := fun a ha => by
 simp only [execOp, ha.eval hx, ha.eval hy, Sem.run_bind, run_eqGuard_agg w .neq t x y cx cy hg, Result.andThen_ok, run_neq_struct, heq]
 rfl
def c4w {a : Nat} (h : a < 9223372036854775808) : IntKind.u64.wrap (a : Int) = (a : Int) := by
 simp only [IntKind.wrap, IntKind.bits, IntKind.signed]; simp; omega
def n9 {a : Nat} (h : a < 9223372036854775808) : IntKind.i64.wrap (a : Int) = (a : Int) := IntWalk.i64_in _ (by omega)
end
end
variable {M : Mu}
abbrev g1t := Nat -> Bool
section
variable {P : Program} {l : List Oper} {N : Nat} {e : Env} {V : Nat -> Gh -> Value -> Prop} {done : g1t} {G : Gh} {a : Act} {w : World}
end
section
variable {P : Program} {l : List Oper} {N : Nat} {e : Env} {V : Nat -> Gh -> Value -> Prop} {C : g1t -> Act -> Gh -> World -> Prop} {i : Nat} {d : Option Tmp} {op : Op} {ty : TypeId} {pos : String} {af : Array Edge} {r : List Oper}
end
variable {M : Mu}
def g1u (o : Option Bx) (T sz : Nat) (v : Value) (rows : List (List Value)) : Prop :=
 (∀ r ∈ rows, r.length = sz) /\
 match o with
 | none => rows = [] /\ v = .slice none 0 0
 | some (g, T', cs) => T' = T /\ ∃ off cap, v = .slice (some ⟨g, off, none⟩) rows.length cap /\ rows.length <= cap /\ cap <= maxLen /\ cs.length = off + cap * sz /\ (cs.drop off).take (rows.length * sz) = rows.flatten
def p5 {α : Type} [Rp α] (G : Gh) : List (List Value) -> List α -> Prop
 | [], [] => True
 | r :: rs, x :: xs => Rp.Is G r x /\ p5 G rs xs
 | _, _ => False
section
variable {α : Type} [Rp α] {G G' : Gh}
def p5.length : ∀ {rs : List (List Value)} {xs : List α}, p5 G rs xs -> rs.length = xs.length
 | [], [], _ => rfl
 | _ :: _, _ :: _, h => by simp [p5.length h.2]
 | [], _ :: _, h => h.elim
 | _ :: _, [], h => h.elim
def p5.mono (hg : GLe G G') : ∀ {rs : List (List Value)} {xs : List α}, p5 G rs xs -> p5 G' rs xs
 | [], [], _ => trivial
 | _ :: _, _ :: _, h => ⟨Rp.mono hg h.1, p5.mono hg h.2⟩
 | [], _ :: _, h => h.elim
 | _ :: _, [], h => h.elim
def p5.append : ∀ {rs : List (List Value)} {xs : List α} {rs' : List (List Value)} {xs' : List α}, p5 G rs xs -> p5 G rs' xs' -> p5 G (rs ++ rs') (xs ++ xs')
 | [], [], _, _, _, h => h
 | _ :: _, _ :: _, _, _, h, h' => ⟨h.1, p5.append h.2 h'⟩
 | [], _ :: _, _, _, h, _ => h.elim
 | _ :: _, [], _, _, h, _ => h.elim
def p5.get : ∀ {rs : List (List Value)} {xs : List α}, p5 G rs xs -> ∀ {k : Nat} {x : α}, xs[k]? = some x -> ∃ r, rs[k]? = some r /\ Rp.Is G r x
 | [], [], _, k, x, hk => by simp at hk
 | r :: rs, y :: xs, h, k, x, hk => by
  cases k with
  | zero => simp at hk; subst hk; exact ⟨r, by simp, h.1⟩
  | succ k => obtain ⟨r', h1, h2⟩ := p5.get h.2 (k := k) (by simpa using hk); exact ⟨r', by simpa using h1, h2⟩
 | [], _ :: _, h, _, _, _ => h.elim
 | _ :: _, [], h, _, _, _ => h.elim
def p5.len : ∀ {rs : List (List Value)} {xs : List α}, p5 G rs xs -> ∀ r ∈ rs, r.length = Rp.sz α /\ ∀ u ∈ r, u.oneCell' = true
 | [], [], _, r, hr => by simp at hr
 | a :: rs, y :: xs, h, r, hr => by
  rcases D2.1 hr with rfl | hr
  ·exact ⟨Rp.len h.1, Rp.one h.1⟩
  ·exact p5.len h.2 r hr
 | [], _ :: _, h, _, _ => h.elim
 | _ :: _, [], h, _, _ => h.elim
def Ow (G : Gh) (o : Option Bx) (T : Nat) (v : Value) (xs : List α) : Prop := ∃ rows, g1u o T (Rp.sz α) v rows /\ p5 G rows xs
def Ow.mono {o : Option Bx} {T : Nat} {v : Value} {xs : List α} (hg : GLe G G') (h : Ow G o T v xs) : Ow G' o T v xs := by
 obtain ⟨rows, h1, h2⟩ := h
 exact ⟨rows, h1, h2.mono hg⟩
def Ow.nil_ (G : Gh) (T : Nat) : Ow G none T (.slice none 0 0) ([] : List α) := ⟨[], ⟨by simp, rfl, rfl⟩, trivial⟩
def Ow.form {o : Option Bx} {T : Nat} {v : Value} {xs : List α} (h : Ow G o T v xs) : ∃ A cap, v = .slice A xs.length cap := by
 obtain ⟨rows, ⟨_, h2⟩, h3⟩ := h
 have hl := h3.length
 cases o with
 | none => obtain ⟨rfl, rfl⟩ := h2; simp at hl; rw [H6.1 hl.symm]; exact ⟨_, _, rfl⟩
 | some x => obtain ⟨g, T', cs⟩ := x; obtain ⟨_, off, cap, rfl, _⟩ := h2; exact ⟨_, cap, by rw [hl]⟩
def Ow.len {o : Option Bx} {T : Nat} {A : Option Addr} {n cap : Nat} {xs : List α} (h : Ow G o T (.slice A n cap) xs) : n = xs.length := by
 obtain ⟨A', cap', h1⟩ := h.form
 injection h1
def a9h {sz : Nat} : ∀ {rows : List (List Value)}, (∀ r ∈ rows, r.length = sz) -> ∀ {k : Nat} {r : List Value}, rows[k]? = some r -> ∀ {j : Nat} {u : Value}, r[j]? = some u -> rows.flatten[k * sz + j]? = some u
 | [], _, k, r, hk, _, _, _ => by simp at hk
 | a :: rows, h, k, r, hk, j, u, hj => by
  have ha := h a (by simp); cases k with
  | zero =>
   simp at hk; subst hk; rw [Q9, Nat.zero_mul, F2, F4 (C8.1 hj).1]; exact hj
  | succ k =>
   have ih := a9h (fun r hr => h r (D7 _ hr)) (k := k) (by simpa using hk) hj; rw [Q9, G7 (by rw [ha, N0, U8]; omega)]
   rw [ha, show (k + 1) * sz + j - sz = k * sz + j from by rw [N0, U8]; omega]
   exact ih
def t6 {sz : Nat} : ∀ {rows : List (List Value)}, (∀ r ∈ rows, r.length = sz) -> rows.flatten.length = rows.length * sz
 | [], _ => by simp
 | a :: rows, h => by
  rw [Q9, B7, h a (by simp), t6 (fun r hr => h r (D7 _ hr))]; simp [N0, Q6]
def Ow.freeze {w0 w : World} {G0 : Gh} {n T : Nat} {o : Option Bx} {v : Value} {xs : List α} {bl : List Bx} (h : Ow G o T v xs) (hC : Cx w0 G0 G w M) (hn : w0.heap.size <= n) (hB : Bxs G w n (o.toList ++ bl) M) (hm : xs.length <= d4) (hmay : ∀ m ∈ M.may, m ∈ bl.map (·.1) ∨ m ∈ M.held.map (·.1) := by simp) :
  ∃ G', GLe G G' /\ Cx w0 G0 G' w M /\ Bxs G' w n bl M /\ Sl G' v xs := by
 obtain ⟨rows, ⟨hr, h2⟩, h3⟩ := h
 have hl := h3.length
 cases o with
 | none =>
  obtain ⟨rfl, rfl⟩ := h2; have : xs = [] := H6.1 (by simpa using hl.symm); subst this; exact ⟨G, fun _ _ h => h, hC, by simpa using hB, Sl.nil_ G⟩
 | some x =>
  obtain ⟨g, T', cs⟩ := x; obtain ⟨rfl, off, cap, rfl, hle, hcap, hcs, htake⟩ := h2; obtain ⟨k1, k2, k3⟩ := d3w hC hn (by simpa using hB) hmay; refine ⟨_, k1, k2, k3, ⟨some ⟨g, off, none⟩, cap, by rw [hl], by omega, hm, fun k x hk => ?_⟩⟩; obtain ⟨r, hrk, hrx⟩ := h3.get hk; refine ⟨g, off, r, rfl, ⟨_, _, _, Gh.add_self, fun j u hu => ?_⟩, Rp.mono k1 hrx⟩; have hf := a9h hr hrk hu; rw [<- htake, J2] at hf; split at hf
  ·rw [I7, <- I6] at hf; simpa using hf
  ·cases hf
def b6h {sz : Nat} : ∀ {rows : List (List Value)}, (∀ r ∈ rows, r.length = sz) -> ∀ {j : Nat} {u : Value}, rows.flatten[j]? = some u -> ∃ k r j', rows[k]? = some r /\ r[j']? = some u /\ j = k * sz + j'
 | [], _, j, u, h => by simp at h
 | a :: rows, hl, j, u, h => by
  have ha := hl a (by simp); rw [Q9] at h; by_cases hj : j < a.length
  ·rw [F4 hj] at h; exact ⟨0, a, j, by simp, h, by simp⟩
  ·rw [G7 (by omega)] at h; obtain ⟨k, r, j', h1, h2, h3⟩ := b6h (fun r hr => hl r (D7 _ hr)) h; exact ⟨k + 1, r, j', by simpa using h1, h2, by rw [N0, U8]; omega⟩
def Sl.rows {v : Value} {xs : List α} (h : Sl G v xs) : ∃ rows, p5 G rows xs /\ ∃ A cap, v = .slice A xs.length cap /\ ∀ b o, A = some ⟨b, o, none⟩ -> ∀ j u, rows.flatten[j]? = some u -> ∃ cs T fz, G b = some (.cells cs T fz) /\ cs[o + j]? = some u := by
 obtain ⟨A, cap, h1, h2, h3, h4⟩ := h
 have : ∃ rows : List (List Value), p5 G rows xs /\ ∀ k x, xs[k]? = some x -> ∃ b o r, A = some ⟨b, o, none⟩ /\ rows[k]? = some r /\ a4k G b (o + k * Rp.sz α) r := by
  clear h1 h2 h3; have gen : ∀ (ys : List α) (m : Nat), (∀ k x, ys[k]? = some x -> ∃ b o row, A = some ⟨b, o, none⟩ /\ a4k G b (o + (m + k) * Rp.sz α) row /\ Rp.Is G row x) ->
    ∃ rows : List (List Value), p5 G rows ys /\ ∀ k x, ys[k]? = some x -> ∃ b o r, A = some ⟨b, o, none⟩ /\ rows[k]? = some r /\ a4k G b (o + (m + k) * Rp.sz α) r := by
   intro ys
   induction ys with
   | nil => intro m _; exact ⟨[], trivial, fun k x hk => by simp at hk⟩
   | cons y ys ih =>
    intro m hm; obtain ⟨b, o, row, hA, hrow, his⟩ := hm 0 y (by simp); obtain ⟨rows, hr, hg⟩ := ih (m + 1) (fun k x hk => by
     obtain ⟨b', o', row', hA', hrow', his'⟩ := hm (k + 1) x (by simpa using hk); exact ⟨b', o', row', hA', by rwa [show m + 1 + k = m + (k + 1) from by omega], his'⟩)
    refine ⟨row :: rows, ⟨his, hr⟩, fun k x hk => ?_⟩; cases k with
    | zero => exact ⟨b, o, row, hA, by simp, by simpa using hrow⟩
    | succ k =>
     obtain ⟨b', o', r', hA', hr', hrow'⟩ := hg k x (by simpa using hk); exact ⟨b', o', r', hA', by simpa using hr', by rwa [show m + (k + 1) = m + 1 + k from by omega]⟩
  obtain ⟨rows, hr, hg⟩ := gen xs 0 (fun k x hk => by
   obtain ⟨b, o, row, e1, e2, e3⟩ := h4 k x hk; exact ⟨b, o, row, e1, by rwa [F2], e3⟩)
  exact ⟨rows, hr, fun k x hk => by
   obtain ⟨b, o, r, e1, e2, e3⟩ := hg k x hk; exact ⟨b, o, r, e1, e2, by rwa [F2] at e3⟩⟩
 obtain ⟨rows, hr, hg⟩ := this
 refine ⟨rows, hr, A, cap, h1, fun b o hA j u hj => ?_⟩
 obtain ⟨k, r, j', hk, hj', rfl⟩ := b6h (fun r hr' => (hr.len r hr').1) hj
 have hkl : k < xs.length := by rw [<- hr.length]; exact (C8.1 hk).1
 obtain ⟨b', o', r', e1, e2, ⟨cs, T, fz, hG, hc⟩⟩ := hg k xs[k] (B2 hkl)
 rw [hA] at e1
 injection e1 with e1
 injection e1 with e1 e1'
 subst e1; subst e1'
 rw [hk] at e2
 injection e2 with e2
 subst e2
 exact ⟨cs, T, fz, hG, by rw [<- I6]; exact hc j' u hj'⟩
section
variable {P : Program} {w w0 : World} {G0 : Gh}
def a1i (P : Program) (t e sz bytes : Nat) : Bool :=
 (match P.underlying t with | some (.slice e') => Nat.beq e e' | _ => false) &&
 (match P.info? e with | some i => Nat.beq i.size sz && Nat.beq i.bytes bytes && (match i.zero with | some z => Nat.beq z.cells.size sz | none => false) | none => false)
def c2o {t e sz bytes : Nat} (h : a1i P t e sz bytes = true) : P.underlying t = some (.slice e) /\ ∃ i z, P.info? e = some i /\ i.zero = some z /\ i.size = sz /\ i.bytes = bytes /\ z.cells.size = sz := by
 unfold a1i at h
 rw [A7] at h
 obtain ⟨h1, h2⟩ := h
 constructor
 ·revert h1
  split
  ·rename_i e' hu; intro h1; rw [hu, A8 h1]
  ·intro h; cases h
 ·cases hi : P.info? e with
  | none => simp [hi] at h2
  | some i =>
   cases hz : i.zero with
   | none => simp [hi, hz] at h2
   | some z =>
    simp only [hi, hz, A7] at h2; exact ⟨i, z, rfl, hz, A8 h2.1.1, A8 h2.1.2, A8 h2.2⟩
def a7g {t ty e : Nat} {i : TypeInfo} (ht : P.underlying t = some (.slice e)) (hi : P.info? e = some i) {A B : Option Addr} {n c cap : Nat} (hc : n <= cap) :
  (Builtin.append_ #[t, t] ty #[.slice A n cap, .slice B 0 c]).run P w = .ok (.slice A n cap) w := by
 cases A <;> cases B <;> simp [Builtin.append_, run_underlying ht, sizeOf, typeInfo, hi, Builtin.lenOf, Builtin.firstCells, hc, loadCells, loadCellsFrom, storeCells]
def c7w {e sz : Nat} {z : Value} {rows news : List (List Value)} (n old : Nat) (hz : z.cells.size = sz) (hr : ∀ r ∈ rows ++ news, r.length = sz) (hn : n = (rows ++ news).length) (hm : n <= maxLen) :
  g1u (some (w.heap.size, e, (rows.flatten.toArray ++ news.flatten.toArray ++ Builtin.zeroCells z.cells (grownCap w n old e - n)).toList)) e sz (.slice (some ⟨w.heap.size, 0, none⟩) n (grownCap w n old e)) (rows ++ news) := by
 have hge := grownCap_ge w n old e
 have h1 := t6 (rows := rows) (fun r h => hr r (by simp [h]))
 have h2 := t6 (rows := news) (fun r h => hr r (by simp [h]))
 have hlen : rows.length + news.length = n := by rw [hn, B7]
 refine ⟨hr, rfl, 0, _, by rw [<- hn], by rw [<- hn]; exact hge, grownCap_le_maxLen w n old e hm, ?_, ?_⟩
 ·simp only [Array.toList_append, B7, h1, h2, S0, size_zeroCells, hz, <- N0, F2]
  congr 1; omega
 ·simp only [Array.toList_append, B6, N8]; rw [<- B6, R8, B7, N0, <- h1, <- h2, <- B7]; exact K5
def c1w {P : Program} (w : World) {t ty e : TypeId} {i : TypeInfo} (ht : P.underlying t = some (.slice e)) (hi : P.info? e = some i) {g off sLen sCap : Nat} {cur : List Value} (hg : w.heap[g]? = some (.cells cur.toArray e (0, 0)))
  {a : Addr} {m c : Nat} {news : List Value} (hl : news.length = m * i.size) (hnews : ∀ j u, news[j]? = some u -> w.cell? (a.add j) = some u) (h1 : ∀ u ∈ news, u.oneCell' = true)
  (hroom : sLen + m <= sCap) (hfit : off + sLen * i.size + news.length <= cur.length) :
  (Builtin.append_ #[t, t] ty #[.slice (some ⟨g, off, none⟩) sLen sCap, .slice (some a) m c]).run P w =
   .ok (.slice (some ⟨g, off, none⟩) (sLen + m) sCap) (w.setRow g (cur.take (off + sLen * i.size) ++ news ++ cur.drop (off + sLen * i.size + news.length)).toArray) := by
 have hf := run_firstCells_some (P := P) w i.size m a m c news hl hnews
 have hst := run_storeCells_at P g (off + sLen * i.size) e news 0 cur.toArray w hg (by simpa using hfit) h1
 simp only [N5] at hst
 simp [Builtin.append_, run_underlying ht, sizeOf, typeInfo, hi, Builtin.lenOf, hroom, hf, Addr.add_mid, hst]
def b1t {t ty e bytes n : Nat} {o : Option Bx} {v v2 : Value} {xs ys : List α} {bl : List Bx} (he : a1i P t e (Rp.sz α) bytes = true) (hC : Cx w0 G0 G w M) (hn : w0.heap.size <= n) (hnw : n <= w.heap.size) (hB : Bxs G w n (o.toList ++ bl) M)
  (hO : Ow G o e v xs) (hS : Sl G v2 ys) (hm : xs.length + ys.length <= maxLen) (hb : (xs.length + ys.length) * bytes <= 140737488355328) :
  ∃ v' o' w', (Builtin.append_ #[t, t] ty #[v, v2]).run P w = .ok v' w' /\ Cx w0 G0 G w' M /\ Bxs G w' n (o'.toList ++ bl) M /\ Ow G o' e v' (xs ++ ys) /\ (∀ b, b < w.heap.size -> (∀ x, o = some x -> b ≠ x.1) -> w'.heap[b]? = w.heap[b]?) /\ w.heap.size <= w'.heap.size := by
 obtain ⟨ht, i, z, hi, hz, hsz, hby, hzs⟩ := c2o he
 obtain ⟨rows, ⟨hrl, hrest⟩, hrx⟩ := hO
 obtain ⟨news, hnx, A, c, rfl, hcell⟩ := hS.rows
 have hl1 := hrx.length
 have hl2 := hnx.length
 have hone : ∀ u ∈ news.flatten, u.oneCell' = true := by
  intro u hu; obtain ⟨r, hr, hur⟩ := List.mem_flatten.1 hu; exact (hnx.len r hr).2 u hur
 have hnl := fun r hr => (hnx.len r hr).1
 have hnf := t6 (rows := news) hnl
 have hall : ∀ r ∈ rows ++ news, r.length = Rp.sz α := by
  intro r hr; rcases D4.1 hr with h | h
  ·exact hrl r h
  ·exact hnl r h
 by_cases hy : ys.length = 0
 ·have hy' : ys = [] := H6.1 hy; subst hy'; refine ⟨v, o, w, ?_, hC, hB, by rw [D6]; exact ⟨rows, ⟨hrl, hrest⟩, hrx⟩, fun _ _ _ => rfl, B9 _⟩; cases o with
  | none => obtain ⟨_, rfl⟩ := hrest; exact a7g ht hi (B9 _)
  | some x => obtain ⟨g, T', cs⟩ := x; obtain ⟨_, off, cap, rfl, hcap, _⟩ := hrest; exact a7g ht hi hcap
 ·
  have hA : ∃ b oo, A = some ⟨b, oo, none⟩ := by
   obtain ⟨A', c', e1, _, _, e4⟩ := hS; injection e1 with e1
   obtain ⟨b, oo, _, e5, _⟩ := e4 0 ys[0] (B2 (by omega)); exact ⟨b, oo, by rw [e1, e5]⟩
  obtain ⟨sb, so, rfl⟩ := hA; have hnews : ∀ j u, news.flatten[j]? = some u -> w.cell? ((⟨sb, so, none⟩ : Addr).add j) = some u := by
   intro j u hj; obtain ⟨cs, T, fz, hG, hc⟩ := hcell sb so rfl j u hj; rw [Addr.add_mid, World.cell?, hC.holds _ _ hG]; exact hc
  have hnl' : news.flatten.length = ys.length * i.size := by rw [hnf, hl2, hsz]
  cases o with
  | none =>
   obtain ⟨rfl, rfl⟩ := hrest; have hx : xs = [] := H6.1 (by simpa using hl1.symm); subst hx; simp only [List.length_nil, F2] at hm hb; have hr := run_append_nil (P := P) w t ty e i z ht hi hz ⟨sb, so, none⟩ ys.length c news.flatten hnl' hnews (by omega) (by simp only [maxLen] at hm; omega) (by rw [hby]; omega)
   have hk := Cx.alloc hC.drew.holds (.cells (news.flatten.toArray ++ Builtin.zeroCells z.cells (grownCap w ys.length 0 e - ys.length)) e); refine ⟨_, some (w.heap.size, e, (news.flatten.toArray ++ Builtin.zeroCells z.cells (grownCap w ys.length 0 e - ys.length)).toList), _, hr, hC.drew.trans hk, ?_, ?_, fun b hb _ => Below.heap_alloc w.drew _ b hb, by simp⟩
   ·have := (hB.drew).push hC.drew.holds hnw hC.drew.heldLt e (news.flatten.toArray ++ Builtin.zeroCells z.cells (grownCap w ys.length 0 e - ys.length)).toList; rw [Array.toArray_toList] at this; exact this
   ·refine ⟨news, ?_, by simpa using hnx⟩; have := c7w (w := w) (e := e) (sz := Rp.sz α) (z := z) (rows := []) (news := news) ys.length 0 hzs (by simpa using hnl) (by simp [hl2]) hm; simpa using this
  | some x =>
   obtain ⟨g, T', cs⟩ := x; obtain ⟨rfl, off, cap, rfl, hcap, hcm, hcs, htake⟩ := hrest; have hg := (hB.at_ (g, T', cs) (by simp)).1; by_cases hroom : rows.length + ys.length <= cap
   ·have hfit : off + rows.length * i.size + news.flatten.length <= cs.length := by
     have := M4 (Rp.sz α) hroom; rw [N0] at this; rw [hnl', hsz, hcs]; omega
    have hr := c1w (P := P) (ty := ty) (off := off) w ht hi hg hnl' hnews hone hroom (by simpa using hfit) (c := c); refine ⟨_, some (g, T', cs.take (off + rows.length * i.size) ++ news.flatten ++ cs.drop (off + rows.length * i.size + news.flatten.length)), _, hr, hC.setRow' (hB.at_ (g, T', cs) (by simp)).2.1 ((hB.at_ (g, T', cs) (by simp)).2.2.imp (D5 hn) id) (hB.apart (g, T', cs) (by simp)) _, ?_, ?_, ?_, by simp⟩
    ·have hB' : Bxs G w n ((g, T', cs) :: bl) M := by simpa using hB
     simpa using hB'.set0 (cs.take (off + rows.length * i.size) ++ news.flatten ++ cs.drop (off + rows.length * i.size + news.flatten.length))
    ·refine ⟨rows ++ news, ⟨hall, rfl, off, cap, by rw [B7, hl2], by rw [B7]; omega, hcm, ?_, ?_⟩, hrx.append hnx⟩
     ·simp only [B7, C4, H7]; omega
     ·have e1 := t6 hrl; have hlo : off <= cs.length := by omega
      have hd : (cs.take (off + rows.length * i.size) ++ news.flatten ++ cs.drop (off + rows.length * i.size + news.flatten.length)).drop off = rows.flatten ++ (news.flatten ++ cs.drop (off + rows.length * i.size + news.flatten.length)) := by
       rw [B6, V8, List.drop_take, I2, hsz, htake, C4, Nat.sub_eq_zero_of_le (by omega), N8]
      rw [hd, <- B6, R8, B7, N0, <- e1, <- hnf, <- B7]; exact K5
    ·intro b hb hne; exact setRow_other w g b _ (by have := hne _ rfl; simpa using this)
   ·have holds : ∀ j u, rows.flatten[j]? = some u -> w.cell? ((⟨g, off, none⟩ : Addr).add j) = some u := by
     intro j u hj; rw [Addr.add_mid, World.cell?, hg]; rw [<- htake, J2] at hj; split at hj
     ·rw [I7] at hj; simpa using hj
     ·cases hj
    have hr := run_append_grow (P := P) w t ty T' i z ht hi hz ⟨g, off, none⟩ rows.length cap rows.flatten (by rw [t6 hrl, hsz]) holds ⟨sb, so, none⟩ ys.length c news.flatten hnl' hnews (by omega)
     (by simp only [maxLen] at hm; omega) (growslice_fits (by omega) (by rw [hby, hl1]; exact hb))
    have hk := Cx.alloc hC.drew.holds (.cells (rows.flatten.toArray ++ news.flatten.toArray ++ Builtin.zeroCells z.cells (grownCap w (rows.length + ys.length) cap T' - (rows.length + ys.length))) T'); refine ⟨_, some (w.heap.size, T', (rows.flatten.toArray ++ news.flatten.toArray ++ Builtin.zeroCells z.cells (grownCap w (rows.length + ys.length) cap T' - (rows.length + ys.length))).toList), _, hr, hC.drew.trans hk, ?_, ⟨rows ++ news, c7w (w := w) (rows.length + ys.length) cap hzs hall (by rw [B7, hl2]) (by rw [hl1]; exact hm), hrx.append hnx⟩, fun b hb _ => Below.heap_alloc w.drew _ b hb, by simp⟩; have hB' : Bxs G w n bl M := (hB.sub (N1 _ _)); have := (hB'.drew).push hC.drew.holds hnw hC.drew.heldLt T' (rows.flatten.toArray ++ news.flatten.toArray ++ Builtin.zeroCells z.cells (grownCap w (rows.length + ys.length) cap T' - (rows.length + ys.length))).toList; rw [Array.toArray_toList] at this; exact this
end
end
variable {M : Mu}
def c2p (off : Nat) : ∀ (r A B C : List Value) (j : Nat) (cs : Array Value), cs.toList = A ++ B ++ C -> A.length = off + j -> B.length = r.length ->
  ((r.zipIdx j).foldl (fun cs (p : Value × Nat) => cs.setIfInBounds (off + p.2) p.1) cs).toList = A ++ r ++ C
 | [], A, B, C, j, cs, h, hA, hB => by
  have : B = [] := H6.1 (by simpa using hB); subst this; simpa using h
 | x :: r, A, B, C, j, cs, h, hA, hB => by
  cases B with
  | nil => simp at hB
  | cons b B =>
   have h2 : (cs.setIfInBounds (off + j) x).toList = (A ++ [x]) ++ B ++ C := by
    rw [Array.toList_setIfInBounds, h, B6, B6, <- hA]; rw [G4 _ _ (B9 _)]; simp
   have ih := c2p off r (A ++ [x]) B C (j + 1) (cs.setIfInBounds (off + j) x) h2 (by simp [hA]; omega) (by simpa using hB)
   simp only [List.zipIdx_cons, X0]; rw [ih]; simp
def b2g (off : Nat) (v : Value) (A B C : List Value) (cs : Array Value) (h : cs.toList = A ++ B ++ C) (hA : A.length = off) (hB : B.length = v.cells.size) :
  v.cells.zipIdx.foldl (fun cs (p : Value × Nat) => cs.setIfInBounds (off + p.2) p.1) cs = (A ++ v.cells.toList ++ C).toArray := by
 apply J5
 rw [<- Array.foldl_toList]
 have := c2p off v.cells.toList A B C 0 cs h (by simpa using hA) (by simpa using hB)
 simpa using this
def b6i {sz : Nat} {place : Nat -> Option (Nat × Nat)} (hp : ∀ i, place i = some (i * sz, sz)) : ∀ (ps : List (Nat × Value)) (k : Nat) (cs : Array Value) (A B : List Value),
  cs.toList = A ++ B -> A.length = k * sz -> B.length = ps.length * sz -> ps.map (·.1) = List.range' k ps.length -> (∀ p ∈ ps, p.2.cells.size = sz) ->
  Instr.fill place cs ps = some (A ++ (ps.map (fun p => p.2.cells.toList)).flatten).toArray
 | [], k, cs, A, B, h, hA, hB, _, _ => by
  have : B = [] := H6.1 (by simpa using hB); subst this; simp only [Instr.fill, L0, List.flatten_nil, D6]; rw [D6] at h; rw [<- h]
 | (i, v) :: ps, k, cs, A, B, h, hA, hB, hi, hz => by
  simp only [C9, I3, List.range'_succ, K7] at hi; obtain ⟨rfl, hi⟩ := hi; have hv := hz (i, v) (by simp); simp only at hv; have hsz : cs.size = i * sz + (ps.length + 1) * sz := by
   have := congrArg List.length h; simp only [S0, B7, hA, hB, I3] at this; exact this
  have hB2 : B.length = sz + ps.length * sz := by rw [hB]; simp [N0, Q6]
  unfold Instr.fill; rw [hp i]; simp only []; rw [F7 (by rw [hv, hsz, N0, U8]; simp)]
  have h3 := b2g (i * sz) v A (B.take sz) (B.drop sz) cs (by rw [h, B6, E6]) hA (by rw [hv, C4]; omega)
  rw [h3]; rw [b6i hp ps (i + 1) _ (A ++ v.cells.toList) (B.drop sz) (by simp) (by simp [hA, hv, N0]) (by simp; omega) hi (fun p hp' => hz p (by simp [hp']))]
  simp
section
variable {P : Program} {ops : Array Oper} {Q : Exit -> Act -> World -> Prop} {N : Nat} {e : Env} {w w0 : World} {G0 G : Gh} {rest : List Oper} {d : Option Tmp} {ty : TypeId} {pos : String} {af : Array Edge} {bl : List Bx} {gd : Option (Nat × Bool)}
def Fr.parts {a : Act} (h : Fr N a e) : ∀ {ps : List (Nat × Operand)} {vs : List Value}, a4w e (ps.map (·.2)) = some vs -> (ps.toArray.map fun (p : Nat × Operand) => (p.1, a.eval p.2)).toList = (ps.map (·.1)).zip vs
 | [], vs, hv => by simp [a4w] at hv; subst hv; simp
 | (i, x) :: ps, vs, hv => by
  simp only [C9, a4w] at hv; cases hx : opv e x with
  | none => simp [hx] at hv
  | some v =>
   cases hr : a4w e (ps.map (·.2)) with
   | none => simp [hx, hr] at hv
   | some us =>
    simp [hx, hr] at hv; subst hv; have := h.parts hr; simp only [K8] at this ⊢; simp [h.eval hx, this]
def b8s : ∀ {xs : List Operand} {vs : List Value}, a4w e xs = some vs -> vs.length = xs.length
 | [], vs, h => by simp [a4w] at h; subst h; rfl
 | x :: r, vs, h => by
  simp only [a4w] at h; cases hx : opv e x with
  | none => simp [hx] at h
  | some v =>
   cases hr : a4w e r with
   | none => simp [hx, hr] at h
   | some us => simp [hx, hr] at h; subst h; simp [b8s hr]
def a9i {t el sz bytes n : Nat} {ps : List (Nat × Value)} {rows : List (List Value)} (he : a1i P t el sz bytes = true) (hsz : 0 < sz) (hn : ps.length = n) (hsm : n * sz <= 16777216) (hi : ps.map (·.1) = List.range' 0 n)
  (hr : ps.map (fun p => p.2.cells.toList) = rows) (hrl : ∀ r ∈ rows, r.length = sz) :
  (Instr.buildSlice t n ps.toArray).run P w = .ok (.slice (some ⟨w.heap.size, 0, none⟩) n n) (w.alloc (.cells rows.flatten.toArray el)) := by
 obtain ⟨ht, i, z, hi', hz, hs, hby, hzs⟩ := c2o he
 have hps : ∀ p ∈ ps, p.2.cells.size = sz := by
  intro p hp; have := hrl p.2.cells.toList (by rw [<- hr]; exact List.mem_map_of_mem hp); simpa using this
 have hfill : ∀ (cs : Array Value), cs.size = n * sz -> Instr.fill (fun i => some (i * sz, sz)) cs ps = some rows.flatten.toArray := by
  intro cs hcs; have := b6i (sz := sz) (place := fun i => some (i * sz, sz)) (fun _ => rfl) ps 0 cs [] cs.toList (by simp) (by simp) (by simp [hcs, hn]) (by rw [hn]; exact hi) hps; rw [this, hr]; simp
 have h24 : ¬ (16777216 < n * sz) := by omega
 unfold Instr.buildSlice
 simp only [Sem.run_bind, run_underlying ht, Result.andThen_ok, sizeOf, typeInfo, run_program, hi', hs]
 by_cases hz0 : n * sz = 0
 ·have hf := hfill #[] (by simp [hz0]); have h0 : Array.range 0 = #[] := rfl; simp [hi', hs, h24, hz0, hf, newRow, newObj, h0]
  rfl
 ·have hf := hfill ((Array.range (n * sz)).map (fun i => z.cells[i % z.cells.size]!)) (by simp); simp [hi', hs, h24, hz0, hf, zeroValue, typeInfo, hz, newRow, newObj]
  rfl
def g6s {α : Type} [Rp α] {a : Act} {R : Value -> World -> Prop} {t el n bytes : Nat} {ps : List (Nat × Operand)} {vs : List Value} {rows : List (List Value)} {xs : List α} (ha : Fr N a e) (he : a1i P t el (Rp.sz α) bytes = true) (hsz : Nat.blt 0 (Rp.sz α) = true) (hsm : Nat.ble (n * Rp.sz α) 16777216 = true)
  (hh : Holds G w) (hi : ps.map (·.1) = List.range' 0 n) (hvs : a4w e (ps.map (·.2)) = some vs) (hrows : vs.map (fun v => v.cells.toList) = rows) (hR : p5 G rows xs)
  (h : ∀ b G' w', Cx w G G' w' -> Sl G' (.slice (some ⟨b, 0, none⟩) n n) xs -> R (.slice (some ⟨b, 0, none⟩) n n) w') :
  OpR P ⟨d, .buildSlice t n ps.toArray, ty, pos, af, gd⟩ a w R := by
 have hn : ps.length = n := by have := congrArg List.length hi; simpa using this
 have hvl := b8s hvs
 have hxl : xs.length = n := by rw [<- hR.length, <- hrows, C5, hvl, C5, hn]
 have hrl : ∀ r ∈ rows, r.length = Rp.sz α := fun r hr => (hR.len r hr).1
 have hle := C2 hsm
 unfold OpR
 have hp := ha.parts hvs
 have hrun := a9i (P := P) (w := w) (ps := (ps.map (·.1)).zip vs) (rows := rows) (n := n) he (C2 hsz) (by simp [hvl, hn]) (by omega) (by rw [List.map_fst_zip (by simp [hvl])]; exact hi)
  (by rw [<- hrows, <- List.map_snd_zip (l₁ := ps.map (·.1)) (l₂ := vs) (by simp [hvl]), O1, List.map_snd_zip (by simp [hvl])]; rfl) hrl
 have hx : (execOp a.eval ⟨d, .buildSlice t n ps.toArray, ty, pos, af, gd⟩).run P w = .ok (.value (.slice (some ⟨w.heap.size, 0, none⟩) n n)) (w.alloc (.cells rows.flatten.toArray el)) := by
  have hpa : (ps.toArray.map fun (p : Nat × Operand) => (p.1, a.eval p.2)) = ((ps.map (·.1)).zip vs).toArray := J5 (by rw [hp]); simp only [execOp, Sem.run_bind]; rw [show (Array.map (fun x : Nat × Operand => match x with | (i, x) => (i, a.eval x)) ps.toArray) = ((ps.map (·.1)).zip vs).toArray from hpa, hrun]
  rfl
 rw [hx]
 have hk := Cx.alloc hh (.cells rows.flatten.toArray el)
 have h1 : n <= n * Rp.sz α := S6 n (C2 hsz)
 have hO : Ow G (some (w.heap.size, el, rows.flatten)) el (.slice (some ⟨w.heap.size, 0, none⟩) n n) xs :=
  ⟨rows, ⟨hrl, rfl, 0, n, by rw [hR.length, hxl], by rw [hR.length, hxl]; exact B9 _, by simp only [maxLen]; omega, by rw [t6 hrl, hR.length, hxl, F2], by rw [N8, <- t6 hrl]; exact D1⟩, hR⟩
 have hB1 := (Bxs.nil (M := {}) G w w.heap.size).push hh (B9 _) (fun _ h => (H4 h).elim) el rows.flatten
 obtain ⟨G', k1, k2, _, k4⟩ := hO.freeze (bl := []) hk (B9 _) hB1 (by rw [hxl]; unfold d4; omega)
 exact h w.heap.size G' _ k2 k4
def Sl.take {α : Type} [Rp α] {A : Option Addr} {n cap h : Nat} {xs : List α} (hs : Sl G (.slice A n cap) xs) (hh : h <= xs.length) : Sl G (.slice A h cap) (xs.take h) := by
 obtain ⟨A', cap', e1, e2, e3, e4⟩ := hs
 injection e1 with e1 e1' e1''
 subst e1; subst e1''
 refine ⟨A, cap, by rw [C4, J0 hh], by rw [C4]; omega, by rw [C4]; omega, fun k x hk => ?_⟩
 rw [J2] at hk
 split at hk
 ·exact e4 k x hk
 ·cases hk
def Sl.capOf {α : Type} [Rp α] {A : Option Addr} {n cap h : Nat} {xs : List α} (hs : Sl G (.slice A n cap) xs) (hh : h <= xs.length) : h <= cap := by
 obtain ⟨A', cap', e1, e2, e3, e4⟩ := hs
 injection e1 with e1 e1' e1''
 omega
def Sl.drop {α : Type} [Rp α] {A : Option Addr} {n cap l : Nat} {xs : List α} (hs : Sl G (.slice A n cap) xs) (hl : l <= xs.length) : Sl G (.slice (if cap = l then A else A.map (·.add (l * Rp.sz α))) (n - l) (cap - l)) (xs.drop l) := by
 obtain ⟨A', cap', e1, e2, e3, e4⟩ := hs
 injection e1 with e1 e1' e1''
 subst e1; subst e1''
 refine ⟨_, cap - l, by rw [H7, e1'], by rw [H7]; omega, by rw [H7]; omega, fun k x hk => ?_⟩
 rw [I7] at hk
 obtain ⟨b, o, row, rfl, h2, h3⟩ := e4 _ x hk
 have hlt : l + k < xs.length := (C8.1 hk).1
 rw [F7 (by omega)]
 exact ⟨b, o + l * Rp.sz α, row, by rw [H8, Addr.add_mid], by rwa [I6, <- N0], h3⟩
def a2s (pl : List (Nat × Nat)) : List Value -> List (Nat × List Value) -> Option (List Value)
 | cs, [] => some cs
 | cs, (i, r) :: ps => match pl[i]? with
  | some (off, sz) => if r.length = sz /\ off + sz <= cs.length then a2s pl (cs.take off ++ r ++ cs.drop (off + sz)) ps else none
  | none => none
def b3b (P : Program) (t : Nat) (pl : List (Nat × Nat)) : Bool :=
 match P.underlying t with
 | some (.struct fs) => fs.toList.map (fun f => (f.offset, (P.info? f.type).map (·.size))) == pl.map (fun p => (p.1, some p.2))
 | _ => false
def d3y {pl : List (Nat × Nat)} : ∀ (ps : List (Nat × Value)) (cs cs' : List Value), a2s pl cs (ps.map fun p => (p.1, p.2.cells.toList)) = some cs' -> Instr.fill (fun i => pl[i]?) cs.toArray ps = some cs'.toArray
 | [], cs, cs', h => by simp [a2s] at h; subst h; rfl
 | (i, v) :: ps, cs, cs', h => by
  simp only [C9, a2s] at h; unfold Instr.fill; cases hp : pl[i]? with
  | none => simp [hp] at h
  | some q =>
   obtain ⟨off, sz⟩ := q; rw [hp] at h; simp only [S0] at h; split at h
   ·rename_i hc; simp only []; rw [F7 (by simp; omega)]
    have := b2g off v (cs.take off) ((cs.drop off).take sz) (cs.drop (off + sz)) cs.toArray (by
     rw [B6, <- K6, E6, E6]) (by simp; omega) (by simp; omega)
    rw [this]; exact d3y ps _ cs' h
   ·cases h
def e7t {t : Nat} {pl : List (Nat × Nat)} {ps : List (Nat × Operand)} {vs : List Value} {rows : List (Nat × List Value)} {z cs : List Value} (hs : b3b P t pl = true) (hz : (P.info? t).bind (fun i => i.zero.map Value.cells) = some z.toArray)
  (hvs : a4w e (ps.map (·.2)) = some vs) (hr : ((ps.map (·.1)).zip vs).map (fun p => (p.1, p.2.cells.toList)) = rows) (hb : a2s pl z rows = some cs) :
  j9 P N e w ⟨d, .build t ps.toArray, ty, pos, af, gd⟩ (.agg cs.toArray) := fun a ha => by
 have hp := ha.parts hvs
 have hpa : (ps.toArray.map fun (p : Nat × Operand) => (p.1, a.eval p.2)) = ((ps.map (·.1)).zip vs).toArray := J5 (by rw [hp])
 subst hr
 have hf := d3y _ z cs hb
 unfold b3b at hs
 revert hs
 split
 ·rename_i fs hu; intro hs; simp only [J4] at hs; cases hq : P.info? t with
  | none => simp [hq] at hz
  | some i =>
   cases hzz : i.zero with
   | none => simp [hq, hzz] at hz
   | some zv =>
    simp [hq, hzz] at hz; have hmap : ∀ (l : List Field) (pl : List (Nat × Nat)), l.map (fun f => (f.offset, (P.info? f.type).map (·.size))) = pl.map (fun p => (p.1, some p.2)) ->
      (l.mapM (fun f => Prod.mk f.offset <$> sizeOf f.type)).run P w = .ok pl w := by
     intro l
     induction l with
     | nil => intro pl h; cases pl <;> simp at h ⊢
     | cons f l ih =>
      intro pl h; cases pl with
      | nil => simp at h
      | cons q pl =>
       simp only [C9, K7, I4] at h; obtain ⟨⟨h1, h2⟩, h3⟩ := h; have h4 := a3l h2 w; simp [Aj, h4, ih pl h3, h1]
    have hm := hmap fs.toList pl hs; have o6 : (fun i : Nat => pl.toArray[i]?) = (fun i : Nat => pl[i]?) := by funext i; simp
    have hrun : (Instr.build t ((ps.map (·.1)).zip vs).toArray).run P w = .ok (.agg cs.toArray) w := by
     unfold Instr.build; simp only [Sem.run_bind, zeroValue, typeInfo, run_program, Result.andThen_ok, hq, hzz, Sem.run_pure, run_underlying hu, Array.mapM_eq_mapM_toList]; simp [hm, o6, hz, hf]
    simp only [execOp, Sem.run_bind]; rw [show (Array.map (fun x : Nat × Operand => match x with | (i, x) => (i, a.eval x)) ps.toArray) = ((ps.map (·.1)).zip vs).toArray from hpa, hrun]
    rfl
 ·intro h; cases h
end
variable {M : Mu}
def b1l (a b : List UInt8) : Int := Extern.BytealgCompare.cmp ⟨a.toArray⟩ ⟨b.toArray⟩
section
variable {P : Program} {N : Nat} {e : Env} {w : World} {G : Gh} {d : Option Tmp} {ty : TypeId} {pos : String} {af : Array Edge} {gd : Option (Nat × Bool)}
def a5l : ∀ (l : List UInt8) (b o : Nat) (acc : ByteArray), (∀ j x, l[j]? = some x -> w.cell? ⟨b, o + j, none⟩ = some (.int .u8 (x.toNat : Int))) ->
  (Extern.Bytes.loadBytes ⟨b, o, none⟩ l.length acc).run P w = .ok ⟨acc.data ++ l.toArray⟩ w
 | [], b, o, acc, _ => by simp [Extern.Bytes.loadBytes]
 | x :: l, b, o, acc, h => by
  have h0 : w.cell? ⟨b, o, none⟩ = some (.int .u8 (x.toNat : Int)) := by simpa using h 0 x rfl
  have ih := a5l l b (o + 1) (acc.push x) (fun j y hy => by rw [I6, Q6 1 j]; exact h (j + 1) y (by simpa using hy)); have hx : (x.toNat : Int).toNat.toUInt8 = x := by simp
  simp only [I3, Extern.Bytes.loadBytes, Sem.run_bind, run_load, h0, Result.andThen_ok, Addr.add_mid]; rw [hx, ih]
  congr 1
  apply Bj; simp [ByteArray.push]
def b6j {v : Value} {xs : List UInt8} (hh : Holds G w) (h : Sl G v xs) : (Extern.Bytes.bytesOf v).run P w = .ok ⟨xs.toArray⟩ w := by
 obtain ⟨A, cap, rfl, _, _, h4⟩ := h
 cases A with
 | none =>
  cases xs with
  | nil => simp [Extern.Bytes.bytesOf]; rfl
  | cons x xs => obtain ⟨b, o, row, hA, _⟩ := h4 0 x (by simp); cases hA
 | some a =>
  cases xs with
  | nil => simp [Extern.Bytes.bytesOf, Extern.Bytes.loadBytes]; rfl
  | cons x xs =>
   obtain ⟨b, o, row, hA, _⟩ := h4 0 x (by simp); injection hA with hA
   subst hA; have := a5l (P := P) (w := w) (x :: xs) b o .empty (fun j y hy => by
    obtain ⟨b', o', row', hA', hr, his⟩ := h4 j y hy; injection hA' with hA'
    injection hA' with e1 e2
    subst e1; subst e2; have his : row' = [.int .u8 (y.toNat : Int)] := his; subst his; have := hr.range hh 0 (.int .u8 (y.toNat : Int)) rfl; simpa [Rp.sz] using this)
   simp only [Extern.Bytes.bytesOf]; rw [this]
   congr 1
   apply Bj; simp
def c1x {t off n : Nat} {cs r : List Value} (ht : a5k P t n = true) (hr : (cs.drop off).take n = r) (w : World) : (part t cs.toArray off).run P w = .ok (.agg r.toArray) w := by
 rw [a3d ht]
 subst hr
 congr 2
 apply J5
 simp
def d1a {t : Nat} {x y : Operand} {v : Dig} {i : Nat} {k : IntKind} (ht : q0 P t = true) (hx : opv e x = some (.agg v.cells.toArray)) (hy : opv e y = some (.int k (i : Int))) (hi : i < 32) :
  j9 P N e w ⟨d, .index t x y, ty, pos, af, gd⟩ (.int .u8 ((v.l.getD i 0).toNat : Int)) := fun a ha => by
 unfold q0 at ht
 revert ht
 split
 ·rename_i el hu; intro ht; rw [A7] at ht; obtain ⟨h1, h2⟩ := ht; have hue : P.underlying el = some (.int .u8) := by revert h1; split <;> simp_all
  cases hq : P.info? el with
  | none => simp [hq] at h2
  | some inf =>
   rw [hq] at h2; have hz := A8 h2; have ho : a0h P el = true := by simp [a0h, hue]
   have hlt : i < v.l.length := by rw [v.h]; exact hi
   have hp := o8 (P := P) (t := el) (off := i) (cs := v.cells.toArray) (v := .int .u8 ((v.l.getD i 0).toNat : Int)) ho (by
    simp [Dig.cells, hlt]) w
   have hi' : ¬ 32 <= i := by omega
   simp [execOp, ha.eval hx, ha.eval hy, Instr.index, asIntOf, run_underlying hu, sizeOf, typeInfo, hq, hz, hp]; intro h; exact absurd h hi'
 ·intro h; cases h
def g1v {x y : Operand} {a b : Int} {ats : Array TypeId} {rt : TypeId} {k : IntKind} (hx : opv e x = some (.int k a)) (hy : opv e y = some (.int k b)) :
  j9 P N e w ⟨d, .call ⟨.builtin .min, #[x, y], ats⟩, rt, pos, af, gd⟩ (.int k (min a b)) := fun s hs => by
 have h : (if b < a then b else a) = min a b := by split <;> omega
 simp only [execOp, resolve, Sem.run_bind, Sem.run_pure, Result.andThen_ok, invoke, builtin, K8, C9, L0, hs.eval hx, hs.eval hy, run_min_int2, h]
def Ow.freeze' {α : Type} [Rp α] {w0 : World} {G0 : Gh} {n T : Nat} {o : Option Bx} {v : Value} {xs : List α} {bl r : List Bx} (h : Ow G o T v xs) (hC : Cx w0 G0 G w M) (hn : w0.heap.size <= n) (hB : Bxs G w n (bl ++ (o.toList ++ r)) M) (hm : xs.length <= d4) (hmay : ∀ m ∈ M.may, m ∈ (bl ++ r).map (·.1) ∨ m ∈ M.held.map (·.1) := by simp) :
  ∃ G', GLe G G' /\ Cx w0 G0 G' w M /\ Bxs G' w n (bl ++ r) M /\ Sl G' v xs :=
 h.freeze hC hn (hB.perm (by rw [<- B6, <- B6]; exact List.perm_append_comm.append_right r)) hm hmay
end
variable {M : Mu}
def a2y (P : Program) (t len el sz : Nat) : Bool :=
 (match P.underlying t with | some (.array n e') => Nat.beq n len && Nat.beq el e' | _ => false) && (match P.info? el with | some i => Nat.beq i.size sz | none => false)
section
variable {P : Program} {N : Nat} {e : Env} {w : World} {d : Option Tmp} {ty : TypeId} {pos : String} {af : Array Edge} {gd : Option (Nat × Bool)}
def d1b {t len el sz : Nat} {x y : Operand} {b o i : Nat} {k : IntKind} (hx : opv e x = some (.pointer (some ⟨b, o, none⟩))) (hy : opv e y = some (.int k (i : Int)))
  (ht : a2y P t len el sz = true) (hi : i < len) : j9 P N e w ⟨d, .indexAddr t x y, ty, pos, af, gd⟩ (.pointer (some ⟨b, o + i * sz, none⟩)) := fun a ha => by
 unfold a2y at ht
 rw [A7] at ht
 obtain ⟨h1, h2⟩ := ht
 revert h1
 split
 ·rename_i n e' hu; intro h1; rw [A7] at h1; have h3 := A8 h1.1; have h4 := A8 h1.2; subst h3; subst h4; cases hq : P.info? el with
  | none => simp [hq] at h2
  | some tinf =>
   rw [hq] at h2; have hz := A8 h2; simp [execOp, ha.eval hx, ha.eval hy, Instr.indexAt, asIntOf, run_underlying hu, hi, sizeOf, typeInfo, hq, hz, Addr.add_mid, Instr.sureAddr]
 ·intro h; cases h
def g1w {t yt : TypeId} {x y : Operand} {k : IntKind} {a b : Int} (hx : opv e x = some (.int k a)) (hy : opv e y = some (.int k b)) (h0 : b ≠ 0) :
 j9 P N e w ⟨d, .binOp .rem t x y yt, ty, pos, af, gd⟩ (.int k (a.tmod b)) := a3y hx hy (by simp [binOp, Op.intDiv, h0])
def a5m (sz : Nat) : List Value -> List (Nat × List Value) -> Option (List Value)
 | cs, [] => some cs
 | cs, (i, r) :: ps => if r.length = sz /\ i * sz + sz <= cs.length then a5m sz (cs.take (i * sz) ++ r ++ cs.drop (i * sz + sz)) ps else none
def c7x {sz : Nat} : ∀ (ps : List (Nat × Value)) (cs cs' : List Value), a5m sz cs (ps.map fun p => (p.1, p.2.cells.toList)) = some cs' -> Instr.fill (fun i => some (i * sz, sz)) cs.toArray ps = some cs'.toArray
 | [], cs, cs', h => by simp [a5m] at h; subst h; rfl
 | (i, v) :: ps, cs, cs', h => by
  simp only [C9, a5m] at h; unfold Instr.fill; simp only [S0] at h; split at h
  ·rename_i hc; simp only []; rw [F7 (by simp; omega)]
   have := b2g (i * sz) v (cs.take (i * sz)) ((cs.drop (i * sz)).take sz) (cs.drop (i * sz + sz)) cs.toArray (by
    rw [B6, <- K6, E6, E6]) (by simp; omega) (by simp; omega)
   rw [this]; exact c7x ps _ cs' h
  ·cases h
def b2h {t len el sz : Nat} {ps : List (Nat × Operand)} {vs : List Value} {rows : List (Nat × List Value)} {z cs : List Value} (ht : a2y P t len el sz = true) (hz : (P.info? t).bind (fun i => i.zero.map Value.cells) = some z.toArray)
  (hvs : a4w e (ps.map (·.2)) = some vs) (hr : ((ps.map (·.1)).zip vs).map (fun p => (p.1, p.2.cells.toList)) = rows) (hb : a5m sz z rows = some cs) :
  j9 P N e w ⟨d, .build t ps.toArray, ty, pos, af, gd⟩ (.agg cs.toArray) := fun a ha => by
 have hp := ha.parts hvs
 have hpa : (ps.toArray.map fun (p : Nat × Operand) => (p.1, a.eval p.2)) = ((ps.map (·.1)).zip vs).toArray := J5 (by rw [hp])
 subst hr
 have hf := c7x _ z cs hb
 unfold a2y at ht
 rw [A7] at ht
 obtain ⟨h1, h2⟩ := ht
 revert h1
 split
 ·rename_i n e' hu; intro h1; rw [A7] at h1; have h4 := A8 h1.2; subst h4; cases hq : P.info? t with
  | none => simp [hq] at hz
  | some i =>
   cases hzz : i.zero with
   | none => simp [hq, hzz] at hz
   | some zv =>
    simp [hq, hzz] at hz; cases hqe : P.info? el with
    | none => simp [hqe] at h2
    | some tinf =>
     rw [hqe] at h2; have hzs := A8 h2; have hsz := a3l (P := P) (t := el) (n := sz) (by simp [hqe, hzs]) w; simp [execOp, Instr.build, zeroValue, typeInfo, hq, hzz, run_underlying hu, hsz, hpa, hz, hf]
 ·intro h; cases h
end
variable {M : Mu}
section
variable {w0 w w' : World} {G0 G G' : Gh} {n b : Nat} {kvs : List (Int × Value)}
def World.setO (w : World) (r : Nat) (o : Obj) : World := { w with heap := w.heap.setIfInBounds r o }
def a7z (w : World) (r b : Nat) (o : Obj) (h : b ≠ r) : (World.setO w r o).heap[b]? = w.heap[b]? := by simp [World.setO, Ne.symm h]
end
section
variable {P : Program} {ops : Array Oper} {Q : Exit -> Act -> World -> Prop} {N : Nat} {e : Env} {w w0 : World} {G0 G : Gh} {rest : List Oper} {d : Option Tmp} {ty : TypeId} {pos : String} {af : Array Edge} {bl : List Bx} {kvs : List (Int × Value)}
end
section
variable {α : Type} [Rp α] {P : Program} {w w0 : World} {G0 G : Gh} {n T : Nat} {o : Option Bx} {v : Value} {xs : List α} {bl r : List Bx}
def p5.take : ∀ {rs : List (List Value)} {xs : List α}, p5 G rs xs -> ∀ m, p5 G (rs.take m) (xs.take m)
 | [], [], _, m => by simp; trivial
 | r :: rs, x :: xs, h, 0 => trivial
 | r :: rs, x :: xs, h, m + 1 => ⟨h.1, p5.take h.2 m⟩
 | [], _ :: _, h, _ => h.elim
 | _ :: _, [], h, _ => h.elim
def Ow.capLe {A : Option Addr} {k cap : Nat} (h : Ow G o T (.slice A k cap) xs) : k <= cap := by
 obtain ⟨rows, ⟨h1, h2⟩, h3⟩ := h
 cases o with
 | none => obtain ⟨rfl, h2⟩ := h2; injection h2 with e1 e2 e3; omega
 | some x =>
  obtain ⟨g, T', cs⟩ := x; obtain ⟨rfl, off, cap', e, h4, _⟩ := h2; injection e with e1 e2 e3
  omega
def Ow.addr {A : Option Addr} {k cap : Nat} (h : Ow G o T (.slice A k cap) xs) {i : Nat} (hi : i < xs.length) : ∃ g off cs, o = some (g, T, cs) /\ A = some ⟨g, off, none⟩ := by
 obtain ⟨rows, ⟨h1, h2⟩, h3⟩ := h
 have hl := h3.length
 cases o with
 | none => obtain ⟨rfl, _⟩ := h2; simp at hl; omega
 | some x =>
  obtain ⟨g, T', cs⟩ := x; obtain ⟨rfl, off, cap', e, _⟩ := h2; injection e with e1 e2 e3
  exact ⟨g, off, cs, rfl, e1⟩
end
section
variable {P : Program} {ops : Array Oper} {Q : Exit -> Act -> World -> Prop} {N : Nat} {e : Env} {w w0 : World} {G0 G : Gh} {rest : List Oper} {d : Option Tmp} {ty : TypeId} {pos : String} {af : Array Edge} {bl r : List Bx}
end
section
variable {P : Program} {N : Nat} {e : Env} {w w0 : World} {G0 G : Gh} {d : Option Tmp} {ty : TypeId} {pos : String} {af : Array Edge} {gd : Option (Nat × Bool)} {bl : List Bx} {a : Act}
def Bxs.setX {n : Nat} {X r : List Bx} {b : Nat} {T : TypeId} {cs : List Value} (h : Bxs G w n (X ++ ([(b, T, cs)] ++ r)) M) (cs' : List Value) : Bxs G (w.setRow b cs'.toArray) n (X ++ ([(b, T, cs')] ++ r)) M :=
 ((h.perm (l' := (b, T, cs) :: (X ++ r)) V5).set0 cs').perm List.perm_middle.symm
end
section
variable {α : Type} [Rp α] {P : Program} {ops : Array Oper} {Q : Exit -> Act -> World -> Prop} {N : Nat} {e : Env} {w w0 : World} {G0 G : Gh} {rest : List Oper} {d : Option Tmp} {ty : TypeId} {pos : String} {af : Array Edge} {bl r : List Bx}
def p5.set : ∀ {rs : List (List Value)} {xs : List α}, p5 G rs xs -> ∀ (i : Nat) {row : List Value} {y : α}, Rp.Is G row y -> p5 G (rs.set i row) (xs.set i y)
 | [], [], _, i, _, _, _ => by simp; trivial
 | a :: rs, x :: xs, h, 0, _, _, hy => ⟨hy, h.2⟩
 | a :: rs, x :: xs, h, i + 1, _, _, hy => ⟨h.1, p5.set h.2 i hy⟩
 | [], _ :: _, h, _, _, _, _ => h.elim
 | _ :: _, [], h, _, _, _, _ => h.elim
def c1y {sz : Nat} {rows : List (List Value)} (h : ∀ r ∈ rows, r.length = sz) {i : Nat} {row : List Value} (hi : rows[i]? = some row) (row' : List Value) :
  rows.flatten = (rows.take i).flatten ++ (row ++ (rows.drop (i + 1)).flatten) /\ (rows.set i row').flatten = (rows.take i).flatten ++ (row' ++ (rows.drop (i + 1)).flatten) /\ (rows.take i).flatten.length = i * sz := by
 have hlt := (C8.1 hi).1
 have e1 : rows = rows.take i ++ (row :: rows.drop (i + 1)) := by
  conv => lhs; rw [<- E6 i rows]
  rw [d9q hi]
 have e2 : rows.set i row' = rows.take i ++ (row' :: rows.drop (i + 1)) := List.set_eq_take_append_cons_drop.trans (F8 hlt)
 refine ⟨?_, ?_, ?_⟩
 ·conv => lhs; rw [e1]
  simp
 ·rw [e2]; simp
 ·rw [t6 (fun r hr => h r (T5 hr)), C4, J0 (by omega)]
def c7y {gd : Option (Nat × Bool)} {a : Act} {R : Value -> World -> Prop} (ha : Fr N a e) {t m off i g T k cap ad so : Nat} {x y0 : Operand} {v : Value} {vs cs : List Value} {xs : List α} {xi y : α} (hC : Cx w0 G0 G w M) (hB : Bxs G w w0.heap.size (bl ++ (Option.toList (some (g, T, cs)) ++ r)) M)
  (hO : Ow G (some (g, T, cs)) T (.slice (some ⟨g, so, none⟩) k cap) xs) (hi : xs[i]? = some xi) (hx : opv e x = some (.pointer (some ⟨g, ad, none⟩))) (had : ad = so + i * Rp.sz α + off) (hy : opv e y0 = some v)
  (ht : (P.info? t).map (·.size) = some m) (hv : v.cells = vs.toArray) (hn : vs.length = m) (hone : vs.all Value.oneCell' = true) (hle : off + m <= Rp.sz α)
  (hnew : ∀ row, Rp.Is G row xi -> Rp.Is G (row.take off ++ vs ++ row.drop (off + m)) y)
  (h : ∀ cs' w', Cx w0 G0 G w' M -> Bxs G w' w0.heap.size (bl ++ (Option.toList (some (g, T, cs')) ++ r)) M -> Ow G (some (g, T, cs')) T (.slice (some ⟨g, so, none⟩) k cap) (xs.set i y) -> R undef w') :
  OpR P ⟨d, .store t x y0, ty, pos, af, gd⟩ a w R := by
 subst hn
 obtain ⟨rows, ⟨h1, h2⟩, h3⟩ := hO
 obtain ⟨row, hrow, hrx⟩ := h3.get hi
 have hrl := h1 row (I1 hrow)
 obtain ⟨_, so', cap', hsl, h4, h5, h6, h7⟩ := h2
 obtain rfl : so = so' := by injection hsl with e1; injection e1 with e1; injection e1
 have hlt := (C8.1 hrow).1
 obtain ⟨s1, s2, s3⟩ := c1y h1 hrow (row.take off ++ vs ++ row.drop (off + vs.length))
 have hrl' : (row.take off ++ vs ++ row.drop (off + vs.length)).length = Rp.sz α := by simp; omega
 have hg := hB.at_ (g, T, cs) (by simp)
 have hmul : i * Rp.sz α + Rp.sz α <= rows.length * Rp.sz α := by rw [<- Nat.succ_mul]; exact M4 _ hlt
 have hcap : rows.length * Rp.sz α <= cap' * Rp.sz α := M4 _ h4
 have hfit : ad + vs.length <= cs.length := by omega
 have hcs' : ∀ z, (cs.drop so).take (rows.length * Rp.sz α) = z -> cs = cs.take so ++ (z ++ (cs.drop so).drop (rows.length * Rp.sz α)) := by rintro z rfl; rw [E6, E6]
 have e0 := hcs' _ h7
 have hst := run_storeCells_at (P := P) g ad T vs 0 cs.toArray w hg.1 (by simpa using hfit) (by simpa using hone)
 have hsz := a3l ht w
 have hrun : (Instr.storeAt t (.pointer (some ⟨g, ad, none⟩)) v).run P w = .ok () (w.setRow g (cs.take ad ++ vs ++ cs.drop (ad + vs.length)).toArray) := by
  simp only [Instr.storeAt, Instr.sureAddr, storeVar, Sem.run_bind, Sem.run_pure, Result.andThen_ok, hsz, hv, S9, ne_eq, not_true_eq_false, Aq]; simp only [N5] at hst; simp only [hst]
 have hex : (execOp a.eval ⟨d, .store t x y0, ty, pos, af, gd⟩).run P w = .ok .skip (w.setRow g (cs.take ad ++ vs ++ cs.drop (ad + vs.length)).toArray) := by
  simp [execOp, ha.eval hx, ha.eval hy, hrun]
 unfold OpR
 rw [hex]
 show R undef _
 skip
 refine h _ _ (hC.setRow' hg.2.1 hg.2.2 (hB.apart (g, T, cs) (by simp)) _) (Bxs.setX (X := bl) hB _) ⟨rows.set i (row.take off ++ vs ++ row.drop (off + vs.length)), ⟨?_, rfl, so, cap', by rw [P1]; exact hsl, by rw [P1]; exact h4, h5, ?_, ?_⟩, h3.set i (hnew row hrx)⟩
 ·intro q hq; rcases U5 hq with hq | rfl
  ·exact h1 q hq
  ·exact hrl'
 ·simp; omega
 ·rw [P1, s2]; have hsl : (cs.take so).length = so := by rw [C4]; omega
  have e5 : cs = cs.take so ++ ((rows.take i).flatten ++ (row.take off ++ ((row.drop off).take vs.length ++ (row.drop (off + vs.length) ++ ((rows.drop (i + 1)).flatten ++ (cs.drop so).drop (rows.length * Rp.sz α)))))) := by
   have hr3 : ∀ Z : List Value, row ++ Z = row.take off ++ ((row.drop off).take vs.length ++ (row.drop (off + vs.length) ++ Z)) := by
    intro Z; have : row = row.take off ++ ((row.drop off).take vs.length ++ row.drop (off + vs.length)) := by rw [<- K6, E6, E6]
    conv => lhs; rw [this]
    simp only [B6]
   conv => lhs; rw [e0, s1]
   rw [<- hr3]; simp only [B6]
  generalize hP : cs.take so = P0 at hsl e5; generalize hR : (cs.drop so).drop (rows.length * Rp.sz α) = R0 at e5; have l1 : (row.take off).length = off := by simp; omega
  have l2 : ((row.drop off).take vs.length).length = vs.length := by simp; omega
  have t1 : cs.take ad = P0 ++ ((rows.take i).flatten ++ row.take off) := by
   rw [e5, had, <- s3, show so + (rows.take i).flatten.length + off = (P0 ++ ((rows.take i).flatten ++ row.take off)).length by simp only [B7, hsl, l1]; omega,
    show P0 ++ ((rows.take i).flatten ++ (row.take off ++ ((row.drop off).take vs.length ++ (row.drop (off + vs.length) ++ ((rows.drop (i + 1)).flatten ++ R0))))) = (P0 ++ ((rows.take i).flatten ++ row.take off)) ++ ((row.drop off).take vs.length ++ (row.drop (off + vs.length) ++ ((rows.drop (i + 1)).flatten ++ R0))) by simp only [B6]]
   exact K5
  have t2 : cs.drop (ad + vs.length) = row.drop (off + vs.length) ++ ((rows.drop (i + 1)).flatten ++ R0) := by
   rw [e5, had, <- s3, show so + (rows.take i).flatten.length + off + vs.length = (P0 ++ ((rows.take i).flatten ++ (row.take off ++ (row.drop off).take vs.length))).length by simp only [B7, hsl, l1, l2]; omega,
    show P0 ++ ((rows.take i).flatten ++ (row.take off ++ ((row.drop off).take vs.length ++ (row.drop (off + vs.length) ++ ((rows.drop (i + 1)).flatten ++ R0))))) = (P0 ++ ((rows.take i).flatten ++ (row.take off ++ (row.drop off).take vs.length))) ++ (row.drop (off + vs.length) ++ ((rows.drop (i + 1)).flatten ++ R0)) by simp only [B6]]
   exact N9
  rw [t1, t2]; have hfl := t6 h1; rw [show P0 ++ ((rows.take i).flatten ++ row.take off) ++ vs ++ (row.drop (off + vs.length) ++ ((rows.drop (i + 1)).flatten ++ R0)) = P0 ++ (((rows.take i).flatten ++ (row.take off ++ vs ++ row.drop (off + vs.length) ++ (rows.drop (i + 1)).flatten)) ++ R0) by simp only [B6]]; have hl : ((rows.take i).flatten ++ (row.take off ++ vs ++ row.drop (off + vs.length) ++ (rows.drop (i + 1)).flatten)).length = rows.length * Rp.sz α := by
   have := hfl; rw [s1] at this; simp only [B7] at this hrl' ⊢; omega
  rw [show (P0 ++ (((rows.take i).flatten ++ (row.take off ++ vs ++ row.drop (off + vs.length) ++ (rows.drop (i + 1)).flatten)) ++ R0)).drop so = ((rows.take i).flatten ++ (row.take off ++ vs ++ row.drop (off + vs.length) ++ (rows.drop (i + 1)).flatten)) ++ R0 by rw [<- hsl]; exact N9, <- hl, K5]
def d7t {t m off i g T k cap ad so : Nat} {x y0 : Operand} {v : Value} {vs cs : List Value} {xs : List α} {xi y : α} (hC : Cx w0 G0 G w M) (hB : Bxs G w w0.heap.size (bl ++ (Option.toList (some (g, T, cs)) ++ r)) M)
  (hO : Ow G (some (g, T, cs)) T (.slice (some ⟨g, so, none⟩) k cap) xs) (hi : xs[i]? = some xi) (hx : opv e x = some (.pointer (some ⟨g, ad, none⟩))) (had : ad = so + i * Rp.sz α + off) (hy : opv e y0 = some v)
  (ht : (P.info? t).map (·.size) = some m) (hv : v.cells = vs.toArray) (hn : vs.length = m) (hone : vs.all Value.oneCell' = true) (hle : off + m <= Rp.sz α)
  (hnew : ∀ row, Rp.Is G row xi -> Rp.Is G (row.take off ++ vs ++ row.drop (off + m)) y) (hd : okD N d = true)
  (h : ∀ cs' w', Cx w0 G0 G w' M -> Bxs G w' w0.heap.size (bl ++ (Option.toList (some (g, T, cs')) ++ r)) M -> Ow G (some (g, T, cs')) T (.slice (some ⟨g, so, none⟩) k cap) (xs.set i y) -> WL P ops Q N rest (e.putO d undef) w') :
  WL P ops Q N (⟨d, .store t x y0, ty, pos, af, none⟩ :: rest) e w := by
 refine x5 (R := fun v w' => v = undef /\ ∃ cs', Cx w0 G0 G w' M /\ Bxs G w' w0.heap.size (bl ++ (Option.toList (some (g, T, cs')) ++ r)) M /\ Ow G (some (g, T, cs')) T (.slice (some ⟨g, so, none⟩) k cap) (xs.set i y)) hd (fun a ha =>
  c7y ha hC hB hO hi hx had hy ht hv hn hone hle hnew fun cs' w' k1 k2 k3 => ⟨rfl, cs', k1, k2, k3⟩) ?_
 rintro v w' ⟨rfl, cs', k1, k2, k3⟩
 exact h cs' w' k1 k2 k3
end
end Go.Gx
namespace Go.Gx
open Go Go.RowKit Go.ChangeShapes Go.WideShapes
def hG (W : World) : Gh := fun b => W.heap[b]?
def d9r (W : World) : Holds (hG W) W := fun _ _ h => h
section
variable {P : Program} {T : Nat}
end
end Go.Gx
namespace Go.Gx
open Go Go.RowKit
variable {M : Mu}
section
variable {P : Program} {N : Nat} {e : Env} {w : World} {d : Option Tmp} {ty : TypeId} {pos : String} {af : Array Edge} {gd : Option (Nat × Bool)}
end
end Go.Gx
