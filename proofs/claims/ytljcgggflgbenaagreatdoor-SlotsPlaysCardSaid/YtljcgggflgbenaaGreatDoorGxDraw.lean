/- A region whose order Go leaves open: each operation shown in whatever order the edges allow. No condition. -/
import Derived.Test.YtljcgggflgbenaaGreatDoorGxEq
import Derived.Orders
set_option linter.all false
namespace Go.Gx
open Go Go.RowKit
variable {M : Mu}

abbrev Done := Nat → Bool
def Done.set (done : Done) (i : Nat) : Done := fun j => if j = i then true else done j

def dstsOk (N : Nat) : List Oper → Bool
  | [] => true
  | o :: r => okD N o.dst && (match o.dst with | some d => r.all (fun x => !(x.dst == some d)) | none => true) && dstsOk N r
/-- The frame in the midst of a region. -/
structure Mid (l : List Oper) (N : Nat) (e : Env) (V : Nat → Gh → Value → Prop) (done : Done) (G : Gh) (a : Act) : Prop where
  sz : a.tmps.size = N
  df : a.defers = []
  old : ∀ s v, e s = some v → (∀ j o, l[j]? = some o → o.dst = some s → done j = false) → a.tmps[s]? = some v
  new : ∀ j o d, l[j]? = some o → done j = true → o.dst = some d → ∃ v, a.tmps[d]? = some v ∧ V j G v
  dk : dstsOk N l = true

/-- What is asked of operation k. -/
def DStep (P : Program) (l : List Oper) (N : Nat) (e : Env) (V : Nat → Gh → Value → Prop) (C : Done → Act → Gh → World → Prop) (k : Nat) (o : Oper) : Prop :=
  ∀ (done : Done) (G : Gh) (w : World) (a : Act), done k = false → (∀ x ∈ o.after.toList, Region.binds .any x = true → done x.on = true) →
    (∀ j oj, l[j]? = some oj → (∃ x ∈ oj.after.toList, Region.binds .any x = true ∧ x.on = k) → done j = false) → C done a G w → Mid l N e V done G a →
    if Region.wanted o (yielded l.toArray a.tmps) then OpR P o a w (fun v w' => ∃ G', GLe G G' ∧ C (done.set k) (a.put o.dst v) G' w' ∧ V k G' v)
    else C (done.set k) (a.put o.dst undef) G w ∧ V k G undef
def DSteps (P : Program) (l : List Oper) (N : Nat) (e : Env) (V : Nat → Gh → Value → Prop) (C : Done → Act → Gh → World → Prop) : Nat → List Oper → Prop
  | _, [] => True
  | k, o :: r => DStep P l N e V C k o ∧ DSteps P l N e V C (k + 1) r
theorem DSteps.get {P : Program} {l : List Oper} {N : Nat} {e : Env} {V : Nat → Gh → Value → Prop} {C : Done → Act → Gh → World → Prop} : ∀ {r : List Oper} {k : Nat}, DSteps P l N e V C k r → ∀ {i : Nat} {o : Oper}, r[i]? = some o → DStep P l N e V C (k + i) o
  | [], _, _, i, o, h => by simp at h
  | x :: r, k, ⟨h1, h2⟩, i, o, h => by
    cases i with
    | zero => simp at h; subst h; exact h1
    | succ i => have := DSteps.get h2 (i := i) (o := o) (by simpa using h); rwa [show k + 1 + i = k + (i + 1) from by omega] at this

/-! ### What the steps are shown by -/
section
variable {P : Program} {l : List Oper} {N : Nat} {e : Env} {V : Nat → Gh → Value → Prop} {done : Done} {G : Gh} {a : Act} {w : World}
theorem Fr.add {e' : Env} {t : Nat} {v : Value} (h : Fr N a e') (hv : a.tmps[t]? = some v) : Fr N a (e'.put t v) := by
  refine ⟨h.sz, h.df, fun u x hu => ?_⟩
  simp only [Env.put] at hu
  by_cases hut : u = t
  · subst hut
    simp [Nat.beq_refl] at hu
    subst hu
    exact hv
  · rw [beq_false hut] at hu
    exact h.at_ _ _ hu
end

/-! ### Steps, whole -/
def waits (o : Oper) (k : Nat) : Bool := o.after.toList.any fun x => Nat.beq x.on k && Region.binds .any x
section
variable {P : Program} {l : List Oper} {N : Nat} {e : Env} {V : Nat → Gh → Value → Prop} {C : Done → Act → Gh → World → Prop} {i : Nat} {d : Option Tmp} {op : Op} {ty : TypeId} {pos : String} {af : Array Edge} {r : List Oper}
end
end Go.Gx
