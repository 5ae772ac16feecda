/- Short names for what the printed walks say most often. No condition. -/
import Derived.Test.YtljcgggflgbenaaGreatDoorGxSched
import Derived.Test.YtljcgggflgbenaaGreatDoorGxSort
set_option linter.all false
namespace Go.Gx
open Go Go.RowKit
set_option linter.unusedSectionVars false
variable {M : Mu}
section
variable {P : Program} {N : Nat} {e : Env} {w : World} {ops : Array Oper} {rest : List Oper} {Q : Exit → Act → World → Prop}
theorem V_ {d : Option Tmp} {op : Op} {ty : TypeId} {pos : String} {af : Array Edge} {v : Value} (hop : OpVal P N e w ⟨d, op, ty, pos, af, none⟩ v)
    (h : WL P ops Q N rest (e.putO d v) w) (hd : okD N d = true := by rfl) : WL P ops Q N (⟨d, op, ty, pos, af, none⟩ :: rest) e w := wlVal hop hd h
theorem M_ {d : Option Tmp} {x : Operand} {ty : TypeId} {pos : String} {af : Array Edge} {v : Value} (hx : opv e x = some v)
    (h : WL P ops Q N rest (e.putO d v) w) (hd : okD N d = true := by rfl) : WL P ops Q N (⟨d, .move x, ty, pos, af, none⟩ :: rest) e w := wlVal (opMove hx) hd h
theorem A_ {d : Option Tmp} {x : Operand} {ty : TypeId} {pos : String} {af : Array Edge} {v : Value} (hx : opv e x = some v)
    (h : WL P ops Q N rest (e.putO d v) w) (hd : okD N d = true := by rfl) : WL P ops Q N (⟨d, .assign x, ty, pos, af, none⟩ :: rest) e w := wlVal (opAssign hx) hd h
end
section
variable {P : Program} {l : List Oper} {A : List Nat} {Q : Act → World → Prop} {N n done done' : Nat} {T : Tk} {e : Env} {w : World} {d : Option Tmp} {op : Op} {ty : TypeId} {pos : String} {af : Array Edge} {v : Value}
theorem D_ (i : Nat) (hi : l[i]? = some ⟨d, op, ty, pos, af, none⟩) (hd' : done ||| (1 <<< i) = done') (hop : ∀ w, OpVal P N e w ⟨d, op, ty, pos, af, none⟩ v)
    (h : WD P l A Q N n done' T (e.putO d v) w) (hk : tkB l A done i = true := by kernel_rfl) (hd : okD N d = true := by rfl) : WD P l A Q N (n + 1) done T e w := wdRo i hi hk hd' hop hd h
theorem DG_ (i : Nat) {j k : Nat} {b : Bool} (hi : l[i]? = some ⟨d, op, ty, pos, af, some (j, b)⟩) (hd' : done ||| (1 <<< i) = done') (hj : gslot l.toArray j = some k) (hb : e k = some (.bool b)) (hop : ∀ w, OpVal P N e w ⟨d, op, ty, pos, af, none⟩ v)
    (h : WD P l A Q N n done' T (e.putO d v) w) (hk : tkB l A done i = true := by kernel_rfl) (hd : okD N d = true := by rfl) : WD P l A Q N (n + 1) done T e w := wdRoG i hi hk hd' hj hb hop hd h
theorem E_ (i : Nat) (hi : l[i]? = some ⟨d, op, ty, pos, af, none⟩) (hd' : done ||| (1 <<< i) = done') (hop : OpVal P N e w ⟨d, op, ty, pos, af, none⟩ v)
    (h : WD P l A Q N n done' ((i, fun w => OpVal P N e w ⟨d, op, ty, pos, af, none⟩ v) :: T) (e.putO d v) w) (hk : tkB l A done i = true := by kernel_rfl) (hd : okD N d = true := by rfl) : WD P l A Q N (n + 1) done T e w := wdTake i hi hk hd' hop hd h
theorem EG_ (i : Nat) {j k : Nat} {b : Bool} (hi : l[i]? = some ⟨d, op, ty, pos, af, some (j, b)⟩) (hd' : done ||| (1 <<< i) = done') (hj : gslot l.toArray j = some k) (hb : e k = some (.bool b)) (hop : OpVal P N e w ⟨d, op, ty, pos, af, none⟩ v)
    (h : WD P l A Q N n done' ((i, fun w => OpVal P N e w ⟨d, op, ty, pos, af, none⟩ v) :: T) (e.putO d v) w) (hk : tkB l A done i = true := by kernel_rfl) (hd : okD N d = true := by rfl) : WD P l A Q N (n + 1) done T e w := wdTakeG i hi hk hd' hj hb hop hd h
theorem O_ (i : Nat) {j k : Nat} {b b' : Bool} (hi : l[i]? = some ⟨d, op, ty, pos, af, some (j, b)⟩) (hd' : done ||| (1 <<< i) = done') (hj : gslot l.toArray j = some k) (hb : e k = some (.bool b')) (hne : (b' == b) = false)
    (h : WD P l A Q N n done' T (e.putO d undef) w) (hk : tkB l A done i = true := by kernel_rfl) (hd : okD N d = true := by rfl) : WD P l A Q N (n + 1) done T e w := wdOff i hi hk hd' hj hb hne hd h
theorem OU_ (i : Nat) {j k : Nat} {b : Bool} (hi : l[i]? = some ⟨d, op, ty, pos, af, some (j, b)⟩) (hd' : done ||| (1 <<< i) = done') (hj : gslot l.toArray j = some k) (hb : e k = some undef)
    (h : WD P l A Q N n done' T (e.putO d undef) w) (hk : tkB l A done i = true := by kernel_rfl) (hd : okD N d = true := by rfl) : WD P l A Q N (n + 1) done T e w := wdOffU i hi hk hd' hj hb hd h
end
theorem ta_ : (∀ {α : Type} {a b : α}, cond true a b = a) ∧ (∀ {α : Type} {a b : α}, cond false a b = b) ∧ (!true) = false ∧ (!false) = true ∧ (∀ b, (b && true) = b) ∧ (∀ b, (b && false) = false) ∧ (∀ b, (true && b) = b) ∧ (∀ b, (false && b) = false) ∧
    (∀ b, (b || true) = true) ∧ (∀ b, (true || b) = true) ∧ (∀ b, (b || false) = b) ∧ (∀ b, (false || b) = b) :=
  ⟨rfl, rfl, rfl, rfl, Bool.and_true, Bool.and_false, Bool.true_and, Bool.false_and, Bool.or_true, Bool.true_or, Bool.or_false, Bool.false_or⟩
theorem r1_ {P : Program} {N : Nat} {e : Env} {w : World} {fn : Func} {r : ResultVar} {v : Value} {Q0 : Exit → Act → World → Prop} {C : World → Value → Prop}
    (hQ : ∀ (a : Act) (w : World) (v : Value), (results fn a.tmps).run P w = .ok v w → a.defers = [] → C w v → Q0 .ret a w) (hr : fn.results = #[r]) (h : RV P e w r v) (hC : C w v) : ∀ a, Fr N a e → Q0 .ret a w :=
  fun _ ha => hQ _ _ _ (results1 ha hr h) ha.df hC
theorem r2_ {P : Program} {N : Nat} {e : Env} {w : World} {fn : Func} {r r2 : ResultVar} {v v2 : Value} {Q0 : Exit → Act → World → Prop} {C : World → Value → Prop}
    (hQ : ∀ (a : Act) (w : World) (v : Value), (results fn a.tmps).run P w = .ok v w → a.defers = [] → C w v → Q0 .ret a w) (hr : fn.results = #[r, r2]) (h : RV P e w r v) (h2 : RV P e w r2 v2) (hC : C w (.tuple #[v, v2])) : ∀ a, Fr N a e → Q0 .ret a w :=
  fun _ ha => hQ _ _ _ (results2 ha hr h h2) ha.df hC
theorem re2 {w0 : World} {G0 G : Gh} {w : World} {n : Nat} (l : List Bx) (M : Mu) (hC : Cx w0 G0 G w M) (hB : Bxs G w n l M) : Cx w0 G0 G w M ∧ Bxs G w n l M := ⟨hC, hB⟩
theorem Fr.c {N : Nat} {a : Act} {e e' : Env} {v : Value} (h : Fr N a e') (hf : Fr N a e) (t : Nat) (ht : e t = some v) : Fr N a (e'.put t v) := h.cons hf ht
end Go.Gx
