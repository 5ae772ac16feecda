/- '==' on arrays of bytes and on structs of such; arithmetic on counts. No condition. -/
import Derived.Test.YtpbcabanpppfoaaGreatGxData
import Derived.ChangeKeysEq
import Derived.Orders
set_option linter.all false
namespace Go.Gx
open Go Go.RowKit

section
variable {P : Program}
theorem run_part_one {t off : Nat} {cs : Array Value} {v : Value} (ht : oneOk P t = true) (hc : cs[off]? = some v) (w : World) : (part t cs off).run P w = .ok v w := by
  unfold oneOk at ht
  cases hu : P.underlying t with
  | none => simp [hu] at ht
  | some dd =>
    have hr : dd.isRow = false := by rw [hu] at ht; cases dd <;> simp_all [TypeDesc.isRow]
    simp [part, run_isAgg hu, hr, hc]
theorem run_part_row {t off n : Nat} {cs : Array Value} (ht : rowOk P t n = true) (w : World) : (part t cs off).run P w = .ok (.agg (cs.extract off (off + n))) w := by
  obtain ⟨⟨dd, hu, hr⟩, hi⟩ := rowOk_of ht
  simp [part, run_isAgg hu, hr, sizeOf_of hi]

/-- The fields of two structs, by type and offset. -/
def eqP (P : Program) (d : Nat) (xs ys : Array Value) : List (Nat × Nat) → Bool → Prop
  | [], r => r = true
  | (t, off) :: L, r => ∃ a b r1 r2, (∀ w, (part t xs off).run P w = .ok a w) ∧ (∀ w, (part t ys off).run P w = .ok b w) ∧ (∀ w, (Op.equalIn d t a b).run P w = .ok r1 w) ∧ eqP P d xs ys L r2 ∧ r = (r1 && r2)
theorem run_eqFields_L {d : Nat} {xs ys : Array Value} : ∀ (L : List (Nat × Nat)) (fs : List Field) (r : Bool), fs.map (fun f => (f.name == "_", f.type, f.offset)) = L.map (fun p => (false, p.1, p.2)) → eqP P d xs ys L r →
    ∀ w, (Op.eqFields d xs ys fs).run P w = .ok r w
  | [], fs, r, hL, h, w => by
    have : fs = [] := by simpa using hL
    subst this
    simp only [eqP] at h
    subst h
    simp [Op.eqFields]
  | (t, off) :: L, [], r, hL, h, w => by simp at hL
  | (t, off) :: L, f :: fs, r, hL, h, w => by
    simp only [List.map_cons, List.cons.injEq, Prod.mk.injEq] at hL
    obtain ⟨⟨h1, h2, h3⟩, hL⟩ := hL
    subst h2; subst h3
    obtain ⟨a, b, r1, r2, ha, hb, he, hr, rfl⟩ := h
    have ih := run_eqFields_L L fs r2 hL hr w
    have hn : f.name ≠ "_" := by simpa using h1
    unfold Op.eqFields
    rw [if_pos hn]
    simp only [Sem.run_bind, ha, hb, he, Result.andThen_ok]
    cases r1
    · simp
    · simp [ih]
def fieldsAre (P : Program) (t : Nat) (L : List (Nat × Nat)) : Bool :=
  match P.underlying t with
  | some (.struct fs) => (fs.toList.map (fun f => (f.name == "_", f.type, f.offset)) == L.map (fun p => (false, p.1, p.2))) && !P.stoodInHeld t
  | _ => false
theorem run_equalIn_fields {d t : Nat} {xs ys : Array Value} {L : List (Nat × Nat)} {r : Bool} (hf : fieldsAre P t L = true) (h : eqP P d xs ys L r) (w : World) :
    (Op.equalIn (d + 1) t (.agg xs) (.agg ys)).run P w = .ok r w := by
  unfold fieldsAre at hf
  revert hf
  split
  · rename_i fs hu
    intro hf
    simp only [Bool.and_eq_true, beq_iff_eq, Bool.not_eq_true'] at hf
    have hfo : P.fieldsOf t = fs := by simp [Program.fieldsOf, hu]
    rw [run_equalIn_struct w d t xs ys (by rw [hfo]; exact hu) hf.2, hfo]
    exact run_eqFields_L L fs.toList r hf.1 h w
  · intro h; cases h
def bytes32 (P : Program) (t : Nat) : Bool :=
  match P.underlying t with
  | some (.array 32 e) => (match P.underlying e with | some (.int .u8) => true | _ => false) && (match P.info? e with | some i => Nat.beq i.size 1 | none => false)
  | _ => false
theorem run_eqItems_bytes {d e : Nat} (hu : P.underlying e = some (.int .u8)) (as bs : List UInt8) : ∀ (is : List Nat), (∀ i ∈ is, i < as.length ∧ i < bs.length) → ∀ w,
    (Op.eqItems (d + 1) e 1 (as.map fun b => Value.int .u8 (b.toNat : Int)).toArray (bs.map fun b => Value.int .u8 (b.toNat : Int)).toArray is).run P w = .ok (is.all fun i => as[i]? == bs[i]?) w
  | [], _, w => by simp [Op.eqItems]
  | i :: is, hi, w => by
    obtain ⟨h1, h2⟩ := hi i (by simp)
    have ho : oneOk P e = true := by simp [oneOk, hu]
    have e1 := run_part_one (P := P) (t := e) (off := i * 1) (cs := (as.map fun b => Value.int .u8 (b.toNat : Int)).toArray) (v := .int .u8 (as[i].toNat : Int)) ho (by simp [h1]) w
    have e2 := run_part_one (P := P) (t := e) (off := i * 1) (cs := (bs.map fun b => Value.int .u8 (b.toNat : Int)).toArray) (v := .int .u8 (bs[i].toNat : Int)) ho (by simp [h2]) w
    have e3 : (Op.equalIn (d + 1) e (.int .u8 (as[i].toNat : Int)) (.int .u8 (bs[i].toNat : Int))).run P w = .ok ((as[i].toNat : Int) == (bs[i].toNat : Int)) w := run_equalIn_int w d e .u8 .u8 _ _ hu
    have ih := run_eqItems_bytes (d := d) hu as bs is (fun j hj => hi j (by simp [hj])) w
    simp only [Op.eqItems, Sem.run_bind, e1, e2, e3, Result.andThen_ok]
    have hb : ((as[i].toNat : Int) == (bs[i].toNat : Int)) = (as[i]? == bs[i]?) := by
      rw [List.getElem?_eq_getElem h1, List.getElem?_eq_getElem h2, Bool.eq_iff_iff]
      simp only [beq_iff_eq, Int.ofNat_inj, Option.some.injEq]
      exact ⟨fun h => UInt8.toNat_inj.1 h, fun h => by rw [h]⟩
    rw [List.all_cons, ← hb]
    cases hc : ((as[i].toNat : Int) == (bs[i].toNat : Int))
    · simp
    · simp [ih]
theorem run_equalIn_dig {d t : Nat} (ht : bytes32 P t = true) (x y : Dig) (w : World) : (Op.equalIn (d + 2) t (.agg x.cells.toArray) (.agg y.cells.toArray)).run P w = .ok (decide (x = y)) w := by
  unfold bytes32 at ht
  revert ht
  split
  · rename_i e hu
    intro ht
    rw [Bool.and_eq_true] at ht
    obtain ⟨h1, h2⟩ := ht
    have hue : P.underlying e = some (.int .u8) := by revert h1; split <;> simp_all
    cases hi : P.info? e with
    | none => simp [hi] at h2
    | some i =>
      rw [hi] at h2
      have hz : P.cellsOf e = 1 := by
        have := Nat.eq_of_beq_eq_true h2
        simp [Program.cellsOf, hi, this]
      rw [run_equalIn_array w (d + 1) _ _ hu hi, hz]
      have := run_eqItems_bytes (P := P) (d := d) hue x.l y.l (List.range 32) (by intro i hi; simp at hi; rw [x.h, y.h]; exact ⟨hi, hi⟩) w
      refine this.trans ?_
      congr 1
      rw [Bool.eq_iff_iff]
      simp only [List.all_eq_true, List.mem_range, beq_iff_eq, decide_eq_true_eq]
      constructor
      · intro h
        cases x with | mk xl xh => cases y with | mk yl yh =>
        simp only [Dig.mk.injEq]
        apply List.ext_getElem?
        intro i
        by_cases hlt : i < 32
        · exact h i hlt
        · rw [List.getElem?_eq_none (by omega), List.getElem?_eq_none (by omega)]
      · rintro rfl i _; rfl
  · intro h; cases h

section
variable {N : Nat} {e : Env} {w : World} {d : Option Tmp} {ty : TypeId} {pos : String} {af : Array Edge} {gd : Option (Nat × Bool)}
theorem opEqRow {t yt : TypeId} {x y : Operand} {cx cy : Array Value} {r : Bool} (heq : ∀ w, (Op.equalIn 10000 t (.agg cx) (.agg cy)).run P w = .ok r w) (hg : P.eqGuardType P.depth t = false)
    (hx : opv e x = some (.agg cx)) (hy : opv e y = some (.agg cy)) : OpVal P N e w ⟨d, .binOp .eql t x y yt, ty, pos, af, gd⟩ (.bool r) := fun a ha => by
  simp only [execOp, ha.eval hx, ha.eval hy, Sem.run_bind, run_eqGuard_agg w .eql t x y cx cy hg, Result.andThen_ok, run_eql_struct, heq]
  rfl
theorem opNeRow {t yt : TypeId} {x y : Operand} {cx cy : Array Value} {r : Bool} (heq : ∀ w, (Op.equalIn 10000 t (.agg cx) (.agg cy)).run P w = .ok r w) (hg : P.eqGuardType P.depth t = false)
    (hx : opv e x = some (.agg cx)) (hy : opv e y = some (.agg cy)) : OpVal P N e w ⟨d, .binOp .neq t x y yt, ty, pos, af, gd⟩ (.bool (!r)) := fun a ha => by
  simp only [execOp, ha.eval hx, ha.eval hy, Sem.run_bind, run_eqGuard_agg w .neq t x y cx cy hg, Result.andThen_ok, run_neq_struct, heq]
  rfl
/-! ### Counts -/
theorem wrap_u64_nat {a : Nat} (h : a < 9223372036854775808) : IntKind.u64.wrap (a : Int) = (a : Int) := by
  simp only [IntKind.wrap, IntKind.bits, IntKind.signed]; simp; omega
theorem wrap_i64_nat {a : Nat} (h : a < 9223372036854775808) : IntKind.i64.wrap (a : Int) = (a : Int) := IntWalk.i64_in _ (by omega)
end
end
end Go.Gx

namespace Go.Gx
open Go Go.RowKit
variable {M : Mu}

abbrev Done := Nat → Bool
def Done.set (done : Done) (i : Nat) : Done := fun j => if j = i then true else done j

def dstsOk (N : Nat) : List Oper → Bool
  | [] => true
  | o :: r => okD N o.dst && (match o.dst with | some d => r.all (fun x => !(x.dst == some d)) | none => true) && dstsOk N r
/-- The frame in the midst of a region. -/
structure Mid (l : List Oper) (N : Nat) (e : Env) (V : Nat → Gh → Value → Prop) (done : Done) (G : Gh) (a : Act) : Prop where
  sz : a.tmps.size = N
  df : a.defers = []
  old : ∀ s v, e s = some v → (∀ j o, l[j]? = some o → o.dst = some s → done j = false) → a.tmps[s]? = some v
  new : ∀ j o d, l[j]? = some o → done j = true → o.dst = some d → ∃ v, a.tmps[d]? = some v ∧ V j G v
  dk : dstsOk N l = true

/-- What is asked of operation k. -/
def DStep (P : Program) (l : List Oper) (N : Nat) (e : Env) (V : Nat → Gh → Value → Prop) (C : Done → Act → Gh → World → Prop) (k : Nat) (o : Oper) : Prop :=
  ∀ (done : Done) (G : Gh) (w : World) (a : Act), done k = false → (∀ x ∈ o.after.toList, Region.binds .any x = true → done x.on = true) →
    (∀ j oj, l[j]? = some oj → (∃ x ∈ oj.after.toList, Region.binds .any x = true ∧ x.on = k) → done j = false) → C done a G w → Mid l N e V done G a →
    if Region.wanted o (yielded l.toArray a.tmps) then OpR P o a w (fun v w' => ∃ G', GLe G G' ∧ C (done.set k) (a.put o.dst v) G' w' ∧ V k G' v)
    else C (done.set k) (a.put o.dst undef) G w ∧ V k G undef
def DSteps (P : Program) (l : List Oper) (N : Nat) (e : Env) (V : Nat → Gh → Value → Prop) (C : Done → Act → Gh → World → Prop) : Nat → List Oper → Prop
  | _, [] => True
  | k, o :: r => DStep P l N e V C k o ∧ DSteps P l N e V C (k + 1) r
theorem DSteps.get {P : Program} {l : List Oper} {N : Nat} {e : Env} {V : Nat → Gh → Value → Prop} {C : Done → Act → Gh → World → Prop} : ∀ {r : List Oper} {k : Nat}, DSteps P l N e V C k r → ∀ {i : Nat} {o : Oper}, r[i]? = some o → DStep P l N e V C (k + i) o
  | [], _, _, i, o, h => by simp at h
  | x :: r, k, ⟨h1, h2⟩, i, o, h => by
    cases i with
    | zero => simp at h; subst h; exact h1
    | succ i => have := DSteps.get h2 (i := i) (o := o) (by simpa using h); rwa [show k + 1 + i = k + (i + 1) from by omega] at this

/-! ### What the steps are shown by -/
section
variable {P : Program} {l : List Oper} {N : Nat} {e : Env} {V : Nat → Gh → Value → Prop} {done : Done} {G : Gh} {a : Act} {w : World}
theorem Fr.add {e' : Env} {t : Nat} {v : Value} (h : Fr N a e') (hv : a.tmps[t]? = some v) : Fr N a (e'.put t v) := by
  refine ⟨h.sz, h.df, fun u x hu => ?_⟩
  simp only [Env.put] at hu
  by_cases hut : u = t
  · subst hut
    simp [Nat.beq_refl] at hu
    subst hu
    exact hv
  · rw [beq_false hut] at hu
    exact h.at_ _ _ hu
theorem OpVal.draw {o : Oper} {v : Value} {R : Value → World → Prop} (hF : Fr N a e) (h : OpVal P N e w o v) (hR : R v w) : OpR P o a w R := by unfold OpR; rw [h a hF]; exact hR
theorem OpRun.draw {o : Oper} {R R' : Value → World → Prop} (hF : Fr N a e) (h : OpRun P N e w o R) (hR : ∀ v w', R v w' → R' v w') : OpR P o a w R' := (h a hF).mono hR
end

/-! ### Steps, whole -/
def waits (o : Oper) (k : Nat) : Bool := o.after.toList.any fun x => Nat.beq x.on k && Region.binds .any x
section
variable {P : Program} {l : List Oper} {N : Nat} {e : Env} {V : Nat → Gh → Value → Prop} {C : Done → Act → Gh → World → Prop} {i : Nat} {d : Option Tmp} {op : Op} {ty : TypeId} {pos : String} {af : Array Edge} {r : List Oper}
end
end Go.Gx
