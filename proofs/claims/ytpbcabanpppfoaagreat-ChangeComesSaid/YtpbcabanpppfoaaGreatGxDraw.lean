/- The operations that make or write memory, and calls, for the calculus of GxCore. No condition. -/
import Derived.Test.YtpbcabanpppfoaaGreatGxMem
import Derived.ChangeKeysEq
import Derived.Orders
set_option linter.all false
namespace Go.Gx
open Go Go.RowKit
variable {M : Mu}

/-! ### What a function hands back -/
/-- It returns a value of which R holds, over what stays behind it. -/
def RetG (P : Program) (f : FuncId) (args : Array Value) (G : Gh) (w : World) (R : Gh → Value → Prop) : Prop := Calls P f args w fun e w' => ∃ v G', e = .returned v ∧ Cx w G G' w' ∧ R G' v
theorem RetG.mono {P : Program} {f : FuncId} {args : Array Value} {G : Gh} {w : World} {R R' : Gh → Value → Prop} (h : RetG P f args G w R) (hR : ∀ G v, R G v → R' G v) : RetG P f args G w R' :=
  Calls.mono h fun _ _ ⟨v, G', h1, h2, h3⟩ => ⟨v, G', h1, h2, hR _ _ h3⟩

/-- Operands as values. -/
def opvs (e : Env) : List Operand → Option (List Value)
  | [] => some []
  | x :: r => match opv e x, opvs e r with | some v, some vs => some (v :: vs) | _, _ => none
theorem Fr.evals {N : Nat} {a : Act} {e : Env} (h : Fr N a e) : ∀ {xs : List Operand} {vs : List Value}, opvs e xs = some vs → xs.toArray.map a.eval = vs.toArray
  | [], vs, hv => by simp [opvs] at hv; subst hv; simp
  | x :: r, vs, hv => by
    simp only [opvs] at hv
    cases hx : opv e x with
    | none => simp [hx] at hv
    | some v =>
      cases hr : opvs e r with
      | none => simp [hx, hr] at hv
      | some us =>
        simp [hx, hr] at hv
        subst hv
        have := h.evals hr
        simp only [List.map_toArray] at this ⊢
        simp only [List.map_cons, h.eval hx]
        congr 2
        have h2 := congrArg Array.toList this
        simpa using h2

theorem oneCell_of_cells (v : Value) (h : v.oneCell' = true) : v.cells = #[v] := by
  cases v <;> first | rfl | (simp [Value.oneCell'] at h)

section
variable {P : Program} {ops : Array Oper} {Q : Exit → Act → World → Prop} {N : Nat} {e : Env} {w w0 : World} {G0 G : Gh} {rest : List Oper} {d : Option Tmp} {ty : TypeId} {pos : String} {af : Array Edge} {bl : List Bx}

/-- A variable in memory, with its value. -/
theorem wlBox {T : TypeId} {x : Operand} {v : Value} {cs : List Value} (hC : Cx w0 G0 G w M) (hB : Bxs G w w0.heap.size bl M) (hx : opv e x = some v) (hcs : v.cells = cs.toArray) (hd : okD N d = true)
    (h : ∀ b w', Cx w G G w' → Cx w0 G0 G w' M → Bxs G w' w0.heap.size ((b, T, cs) :: bl) M → WL P ops Q N rest (e.putO d (.pointer (some ⟨b, 0, none⟩))) w') :
    WL P ops Q N (⟨d, .box T x, ty, pos, af, none⟩ :: rest) e w := by
  refine wlStep (R := fun v w' => v = .pointer (some ⟨w.heap.size, 0, none⟩) ∧ w' = w.alloc (.cells cs.toArray T)) hd (fun a ha => ?_) ?_
  · unfold OpR
    simp [execOp, ha.eval hx, Instr.box, newVar, newRow, newObj, hcs]
    exact ⟨rfl, rfl⟩
  · rintro v w' ⟨rfl, rfl⟩
    have hk := Cx.alloc hC.holds (.cells cs.toArray T)
    exact h _ _ hk (hC.trans hk) (hB.push hC.holds hC.size hC.heldLt T cs)
/-- A variable in memory, zero. -/
theorem wlAlloc {T : TypeId} {cs : List Value} (hC : Cx w0 G0 G w M) (hB : Bxs G w w0.heap.size bl M) (hz : (P.info? T).bind (fun i => i.zero.map Value.cells) = some cs.toArray) (hd : okD N d = true)
    (h : ∀ b w', Cx w G G w' → Cx w0 G0 G w' M → Bxs G w' w0.heap.size ((b, T, cs) :: bl) M → WL P ops Q N rest (e.putO d (.pointer (some ⟨b, 0, none⟩))) w') :
    WL P ops Q N (⟨d, .alloc T, ty, pos, af, none⟩ :: rest) e w := by
  refine wlStep (R := fun v w' => v = .pointer (some ⟨w.heap.size, 0, none⟩) ∧ w' = w.alloc (.cells cs.toArray T)) hd (fun a ha => ?_) ?_
  · unfold OpR
    cases hq : P.info? T with
    | none => simp [hq] at hz
    | some i =>
      cases hi : i.zero with
      | none => simp [hq, hi] at hz
      | some z =>
        simp [hq, hi] at hz
        simp [execOp, Instr.alloc, zeroValue, typeInfo, hq, hi, newVar, newRow, newObj, hz]
        exact ⟨rfl, rfl⟩
  · rintro v w' ⟨rfl, rfl⟩
    have hk := Cx.alloc hC.holds (.cells cs.toArray T)
    exact h _ _ hk (hC.trans hk) (hB.push hC.holds hC.size hC.heldLt T cs)
/-- A store into a box: 'n' cells from 'o' on. -/
theorem wlStore {t n : Nat} {x y : Operand} {b o : Nat} {T : TypeId} {v : Value} {vs cs cs' : List Value} (i : Nat) (hC : Cx w0 G0 G w M) (hB : Bxs G w w0.heap.size bl M) (hi : bl[i]? = some (b, T, cs))
    (hx : opv e x = some (.pointer (some ⟨b, o, none⟩))) (hy : opv e y = some v) (ht : (P.info? t).map (·.size) = some n) (hv : v.cells = vs.toArray) (hn : vs.length = n) (hone : vs.all Value.oneCell' = true) (hle : o + n ≤ cs.length)
    (hcs : cs.take o ++ vs ++ cs.drop (o + n) = cs') (hd : okD N d = true)
    (h : ∀ w', Cx w0 G0 G w' M → Bxs G w' w0.heap.size (bl.set i (b, T, cs')) M → WL P ops Q N rest (e.putO d undef) w') :
    WL P ops Q N (⟨d, .store t x y, ty, pos, af, none⟩ :: rest) e w := by
  have hg := hB.get hi
  subst hn
  refine wlStep (R := fun v w' => v = undef ∧ w' = w.setRow b cs'.toArray) hd (fun a ha => ?_) ?_
  · unfold OpR
    have hst := run_storeCells_at (P := P) b o T vs 0 cs.toArray w hg.1 (by simpa using hle) (by simpa using hone)
    have hsz := sizeOf_of ht w
    have hrun : (Instr.storeAt t (.pointer (some ⟨b, o, none⟩)) v).run P w = .ok () (w.setRow b cs'.toArray) := by
      simp only [Instr.storeAt, Instr.sureAddr, storeVar, Sem.run_bind, Sem.run_pure, Result.andThen_ok, hsz, hv, List.size_toArray, ne_eq, not_true_eq_false, if_false]
      simp only [Nat.add_zero] at hst
      simp only [hst, hcs]
    simp [execOp, ha.eval hx, ha.eval hy, hrun]
  · rintro v w' ⟨rfl, rfl⟩
    exact h _ (hC.setRow' hg.2.1 hg.2.2 (hB.off hi) _) (hB.set hi cs')

/-! ### Calls -/
theorem run_callFunc {f : FuncId} (hf : callOk P f = true) (args : Array Value) (w : World) : (callFunc f args).run P w = .ok (.enter f args) w := by
  unfold callOk at hf
  cases hq : P.funcs[f]? with
  | none => simp [hq] at hf
  | some fn =>
    rw [hq] at hf
    simp only [Bool.and_eq_true] at hf
    obtain ⟨h1, h2⟩ := hf
    have h4 : (fn.name == "runtime.NumGoroutine") = false := by simpa using h2
    have h5 : fn.name ≠ "runtime.NumGoroutine" := by simpa using h4
    have h6 : fn.body ≠ none := by intro h; rw [h] at h1; cases h1
    simp [callFunc, hq, h5, h6]
theorem opCall {gd : Option (Nat × Bool)} {x : Operand} {f : FuncId} {xs : List Operand} {vs caps first : List Value} {ats : Array TypeId} (hx : opv e x = some (.func (.func f) first.toArray caps.toArray)) (hf : callOk P f = true) (hvs : opvs e xs = some vs)
    {R : Value → World → Prop} (hc : Calls P f (first ++ vs ++ caps).toArray w fun e w' => ∃ v, e = .returned v ∧ R v w') :
    OpRun P N e w ⟨d, .call ⟨.value x, xs.toArray, ats⟩, ty, pos, af, gd⟩ R := by
  intro a ha
  unfold OpR
  have hev := ha.evals hvs
  have h1 : (execOp a.eval ⟨d, .call ⟨.value x, xs.toArray, ats⟩, ty, pos, af, gd⟩).run P w = .ok (.enter f (first ++ vs ++ caps).toArray) w := by
    simp only [execOp, resolve, ha.eval hx, hev, Deferred.ofValue, Sem.run_bind, Sem.run_pure, Result.andThen_ok, invoke]
    rw [run_callFunc hf]
    simp
  rw [h1]
  exact hc
/-! ### The end -/
/-- What a result variable holds. -/
def RV (P : Program) (e : Env) (w : World) : ResultVar → Value → Prop
  | .tmp t, v => e t = some v
  | .cell t ty, v => ∃ b n cs, e t = some (.pointer (some ⟨b, 0, none⟩)) ∧ rowOk P ty n = true ∧ cs.length = n ∧ w.rangeAt b 0 cs ∧ v = .agg cs.toArray
def rvar (tmps : Array Value) : ResultVar → Sem Value
  | .tmp t => pure (tmps.getD t undef)
  | .cell a t => do loadVar t (← asAddr (tmps.getD a undef))
theorem results_eq (fn : Func) (tmps : Array Value) : results fn tmps = (do let vs ← fn.results.mapM (rvar tmps); pure (if h : vs.size = 1 then vs[0] else .tuple vs)) := by
  unfold results
  congr 1
theorem run_resultVar {a : Act} {r : ResultVar} {v : Value} (ha : Fr N a e) (h : RV P e w r v) : (rvar a.tmps r).run P w = .ok v w := by
  cases r with
  | tmp t =>
    have h1 := ha.at_ t v h
    simp [rvar, Array.getD_eq_getD_getElem?, h1]
  | cell t ty =>
    obtain ⟨b, n, cs, h1, h2, h3, h4, rfl⟩ := h
    have h5 := ha.at_ t _ h1
    obtain ⟨⟨dd, hu, hr⟩, hi⟩ := rowOk_of h2
    simp [rvar, Array.getD_eq_getD_getElem?, h5, asAddr, run_loadVar_mid w b 0 ty cs dd h4 hu hr (by rw [hi, h3])]
theorem results1 {fn : Func} {a : Act} {r : ResultVar} {v : Value} (ha : Fr N a e) (hr : fn.results = #[r]) (h : RV P e w r v) : (results fn a.tmps).run P w = .ok v w := by
  have h1 := run_resultVar ha h
  rw [results_eq, hr]
  simp [h1]
theorem results2 {fn : Func} {a : Act} {r r2 : ResultVar} {v v2 : Value} (ha : Fr N a e) (hr : fn.results = #[r, r2]) (h : RV P e w r v) (h2 : RV P e w r2 v2) : (results fn a.tmps).run P w = .ok (.tuple #[v, v2]) w := by
  have h1 := run_resultVar ha h
  have h2 := run_resultVar ha h2
  rw [results_eq, hr]
  simp [h1, h2]
/-- The return. -/
theorem ret1 {fn : Func} {R : Ending → World → Prop} {r : ResultVar} {v : Value} (hr : fn.results = #[r]) (h : RV P e w r v) (hR : R (.returned v) w) : ∀ a, Fr N a e → bodyPost P fn R .ret a w :=
  fun _ ha => bodyPost_ret (results1 ha hr h) ha.df hR
/-! ### Loops by a measure -/
theorem wrInd {ι : Type} {c : Code} (μ : ι → Nat) (I : ι → Gh → World → Prop) (env : ι → Env)
    (h : ∀ i G w n, (∀ j G' w', I j G' w' → μ j < μ i → WR P Q N c n (env j) w') → I i G w → WC P (Exit.then (Code.rounds P c Q n) Q) N c (env i) w) :
    ∀ i G w, I i G w → WC P Q N (.loop c) (env i) w := by
  have key : ∀ n i G w, μ i < n → I i G w → WR P Q N c n (env i) w := by
    intro n
    induction n with
    | zero => intro i G w hm _; omega
    | succ n ih =>
      intro i G w hm hi
      exact wrSucc (h i G w n (fun j G' w' hj hlt => ih j G' w' (by omega) hj) hi)
  intro i G w hi
  exact wcLoop (μ i + 1) (key _ i G w (by omega) hi)
theorem wrOf {c : Code} {n : Nat} (h : WR P Q N c n e w) : ∀ a, Fr N a e → Code.rounds P c Q n a w := h

end
end Go.Gx

namespace Go.Gx
open Go Go.RowKit
variable {M : Mu}

abbrev GLe (G G' : Gh) : Prop := ∀ b o, G b = some o → G' b = some o

/-- Data of a type lie in a row of cells. -/
class Rp (α : Type) where
  sz : Nat
  Is : Gh → List Value → α → Prop
  len : ∀ {G cs x}, Is G cs x → cs.length = sz
  one : ∀ {G cs x}, Is G cs x → ∀ u ∈ cs, u.oneCell' = true
  mono : ∀ {G G' : Gh} {cs x}, GLe G G' → Is G cs x → Is G' cs x

def maxL : Nat := 140737488355328

/-- A row of cells in a block that stays. -/
def RowG (G : Gh) (b o : Nat) (row : List Value) : Prop := ∃ cs T fz, G b = some (.cells cs T fz) ∧ ∀ j u, row[j]? = some u → cs[o + j]? = some u
theorem RowG.mono {G G' : Gh} {b o : Nat} {row : List Value} (hg : GLe G G') (h : RowG G b o row) : RowG G' b o row := by
  obtain ⟨cs, T, fz, h1, h2⟩ := h
  exact ⟨cs, T, fz, hg _ _ h1, h2⟩
theorem RowG.range {G : Gh} {w : World} (hw : Holds G w) {b o : Nat} {row : List Value} (h : RowG G b o row) : w.rangeAt b o row := by
  obtain ⟨cs, T, fz, h1, h2⟩ := h
  intro j v hv
  rw [World.cell?, hw _ _ h1]
  simpa using h2 j v hv
theorem RowG.cell {G : Gh} {w : World} (hw : Holds G w) {b o : Nat} {row : List Value} (h : RowG G b o row) {j : Nat} {v : Value} (hj : row[j]? = some v) : w.cell? ⟨b, o + j, none⟩ = some v := h.range hw j v hj
theorem RowG.part {G : Gh} {b o : Nat} {row part : List Value} (h : RowG G b o row) {i m : Nat} (hp : (row.drop i).take m = part) : RowG G b (o + i) part := by
  obtain ⟨cs, T, fz, h1, h2⟩ := h
  subst hp
  refine ⟨cs, T, fz, h1, fun j u hu => ?_⟩
  rw [List.getElem?_take] at hu
  split at hu
  · rw [List.getElem?_drop] at hu
    rw [Nat.add_assoc]; exact h2 _ _ hu
  · cases hu

/-- A slice that reads as a list. -/
def Sl {α : Type} [Rp α] (G : Gh) (v : Value) (xs : List α) : Prop :=
  ∃ A cap, v = .slice A xs.length cap ∧ xs.length ≤ cap ∧ xs.length ≤ maxL ∧
    ∀ k x, xs[k]? = some x → ∃ b o row, A = some ⟨b, o, none⟩ ∧ RowG G b (o + k * Rp.sz α) row ∧ Rp.Is G row x
theorem Sl.mono {α : Type} [Rp α] {G G' : Gh} {v : Value} {xs : List α} (hg : GLe G G') (h : Sl G v xs) : Sl G' v xs := by
  obtain ⟨A, cap, h1, h2, h3, h4⟩ := h
  refine ⟨A, cap, h1, h2, h3, fun k x hk => ?_⟩
  obtain ⟨b, o, row, e1, e2, e3⟩ := h4 k x hk
  exact ⟨b, o, row, e1, e2.mono hg, Rp.mono hg e3⟩
theorem Sl.form {α : Type} [Rp α] {G : Gh} {v : Value} {xs : List α} (h : Sl G v xs) : ∃ A cap, v = .slice A xs.length cap := by
  obtain ⟨A, cap, h1, _⟩ := h
  exact ⟨A, cap, h1⟩
theorem Sl.le {α : Type} [Rp α] {G : Gh} {v : Value} {xs : List α} (h : Sl G v xs) : xs.length ≤ maxL := by
  obtain ⟨A, cap, _, h2, h3, _⟩ := h
  exact h3
theorem Sl.elem {α : Type} [Rp α] {G : Gh} {A : Option Addr} {n cap k : Nat} {xs : List α} {x : α} (h : Sl G (.slice A n cap) xs) (hk : xs[k]? = some x) :
    ∃ b o row, A = some ⟨b, o, none⟩ ∧ RowG G b (o + k * Rp.sz α) row ∧ Rp.Is G row x := by
  obtain ⟨A', cap', h1, _, _, h4⟩ := h
  injection h1 with e1 e2 e3
  subst e1
  exact h4 k x hk
theorem Sl.len {α : Type} [Rp α] {G : Gh} {A : Option Addr} {n cap : Nat} {xs : List α} (h : Sl G (.slice A n cap) xs) : n = xs.length := by
  obtain ⟨A', cap', h1, _⟩ := h
  injection h1
theorem Sl.nil_ {α : Type} [Rp α] (G : Gh) : Sl G (.slice none 0 0) ([] : List α) := ⟨none, 0, rfl, Nat.le_refl _, Nat.zero_le _, fun k x h => by simp at h⟩

instance : Rp Int := ⟨1, fun _ cs n => cs = [.int .i64 n], fun h => by rw [h]; rfl, fun h => by rw [h]; simp [Value.oneCell'], fun _ h => h⟩
instance : Rp Bool := ⟨1, fun _ cs b => cs = [.bool b], fun h => by rw [h]; rfl, fun h => by rw [h]; simp [Value.oneCell'], fun _ h => h⟩
instance : Rp UInt8 := ⟨1, fun _ cs b => cs = [.int .u8 (b.toNat : Int)], fun h => by rw [h]; rfl, fun h => by rw [h]; simp [Value.oneCell'], fun _ h => h⟩
instance {α : Type} [Rp α] : Rp (List α) := ⟨1, fun G cs xs => ∃ v, cs = [v] ∧ Sl G v xs, fun ⟨_, h, _⟩ => by rw [h]; rfl, fun ⟨v, h, A, cap, h1, _⟩ => by rw [h, h1]; simp [Value.oneCell'], fun hg ⟨v, h, hs⟩ => ⟨v, h, hs.mono hg⟩⟩

theorem drop_get {α : Type} {xs : List α} {k : Nat} {x : α} (h : xs[k]? = some x) : xs.drop k = x :: xs.drop (k + 1) := by
  obtain ⟨hk, he⟩ := List.getElem?_eq_some_iff.1 h
  rw [List.drop_eq_getElem_cons hk, he]
/-- Thirty-two bytes. -/
structure Dig where
  l : List UInt8
  h : l.length = 32
  deriving DecidableEq
def Dig.cells (d : Dig) : List Value := d.l.map fun b => .int .u8 (b.toNat : Int)
@[simp] theorem Dig.length_cells (d : Dig) : d.cells.length = 32 := by simp [Dig.cells, d.h]
@[simp] theorem take_cells (d : Dig) (r : List Value) (n : Nat) (h : 32 ≤ n) : (d.cells ++ r).take n = d.cells ++ r.take (n - 32) := by
  rw [List.take_append]; simp [List.take_of_length_le, h]
@[simp] theorem take_cells0 (d : Dig) (n : Nat) (h : 32 ≤ n) : d.cells.take n = d.cells := List.take_of_length_le (by simpa using h)
@[simp] theorem drop_cells (d : Dig) (r : List Value) (n : Nat) (h : 32 ≤ n) : (d.cells ++ r).drop n = r.drop (n - 32) := by
  rw [List.drop_append]; simp [List.drop_of_length_le, h]
@[simp] theorem drop_cells0 (d : Dig) (n : Nat) (h : 32 ≤ n) : d.cells.drop n = [] := List.drop_of_length_le (by simpa using h)
@[simp] theorem get_cells (d : Dig) (r : List Value) (n : Nat) (h : 32 ≤ n) : (d.cells ++ r)[n]? = r[n - 32]? := by
  rw [List.getElem?_append_right (by simpa using h)]; simp
@[simp] theorem all_cells (d : Dig) : d.cells.all Value.oneCell' = true := by simp [Dig.cells, Value.oneCell']
@[simp] theorem mem_cells (d : Dig) : ∀ v ∈ d.cells, v.oneCell' = true := by simp [Dig.cells, Value.oneCell']
def Dig.zero : Dig := ⟨List.replicate 32 0, rfl⟩
instance : Inhabited Dig := ⟨Dig.zero⟩
instance : Rp Dig := ⟨32, fun _ cs d => cs = d.cells, fun h => by rw [h]; exact Dig.length_cells _, fun h => by rw [h]; exact mem_cells _, fun _ h => h⟩

/-! ### A box that is let stay -/
theorem freeze0 {w0 w : World} {G0 G : Gh} {n b : Nat} {T : TypeId} {cs : List Value} {bl : List Bx} (hC : Cx w0 G0 G w M) (hn : w0.heap.size ≤ n) (hB : Bxs G w n ((b, T, cs) :: bl) M) (hm : ∀ m ∈ M.may, m ∈ bl.map (·.1) ∨ m ∈ M.held.map (·.1) := by simp) :
    GLe G (G.add b (.cells cs.toArray T (0, 0))) ∧ Cx w0 G0 (G.add b (.cells cs.toArray T (0, 0))) w M ∧ Bxs (G.add b (.cells cs.toArray T (0, 0))) w n bl M := by
  obtain ⟨h1, h2, h3⟩ := hB.at_ (b, T, cs) (by simp)
  have hnd := hB.nodup
  rw [List.map_cons, List.nodup_cons] at hnd
  have hap := hB.apart (b, T, cs) (by simp)
  have hne : b ∉ M.may := fun hb => (hm b hb).elim (fun h => hnd.1 h) (fun h => hap h)
  refine ⟨Gh.add_le h2, hC.freeze h1 h2 (Nat.le_trans hn (h3.elim id (fun h => (hne h).elim))) hap, ⟨fun x hx => ?_, hnd.2, fun x hx => hB.apart x (by simp [hx])⟩⟩
  obtain ⟨k1, k2, k3⟩ := hB.at_ x (by simp [hx])
  have hne : x.1 ≠ b := fun he => hnd.1 (by rw [List.mem_map]; exact ⟨x, hx, he⟩)
  exact ⟨k1, by unfold Gh.add; rw [if_neg hne]; exact k2, k3⟩
end Go.Gx

namespace Go.Gx
open Go Go.RowKit

section
variable {P : Program}
theorem run_part_one {t off : Nat} {cs : Array Value} {v : Value} (ht : oneOk P t = true) (hc : cs[off]? = some v) (w : World) : (part t cs off).run P w = .ok v w := by
  unfold oneOk at ht
  cases hu : P.underlying t with
  | none => simp [hu] at ht
  | some dd =>
    have hr : dd.isRow = false := by rw [hu] at ht; cases dd <;> simp_all [TypeDesc.isRow]
    simp [part, run_isAgg hu, hr, hc]
theorem run_part_row {t off n : Nat} {cs : Array Value} (ht : rowOk P t n = true) (w : World) : (part t cs off).run P w = .ok (.agg (cs.extract off (off + n))) w := by
  obtain ⟨⟨dd, hu, hr⟩, hi⟩ := rowOk_of ht
  simp [part, run_isAgg hu, hr, sizeOf_of hi]

/-- The fields of two structs, by type and offset. -/
def eqP (P : Program) (d : Nat) (xs ys : Array Value) : List (Nat × Nat) → Bool → Prop
  | [], r => r = true
  | (t, off) :: L, r => ∃ a b r1 r2, (∀ w, (part t xs off).run P w = .ok a w) ∧ (∀ w, (part t ys off).run P w = .ok b w) ∧ (∀ w, (Op.equalIn d t a b).run P w = .ok r1 w) ∧ eqP P d xs ys L r2 ∧ r = (r1 && r2)
theorem run_eqFields_L {d : Nat} {xs ys : Array Value} : ∀ (L : List (Nat × Nat)) (fs : List Field) (r : Bool), fs.map (fun f => (f.name == "_", f.type, f.offset)) = L.map (fun p => (false, p.1, p.2)) → eqP P d xs ys L r →
    ∀ w, (Op.eqFields d xs ys fs).run P w = .ok r w
  | [], fs, r, hL, h, w => by
    have : fs = [] := by simpa using hL
    subst this
    simp only [eqP] at h
    subst h
    simp [Op.eqFields]
  | (t, off) :: L, [], r, hL, h, w => by simp at hL
  | (t, off) :: L, f :: fs, r, hL, h, w => by
    simp only [List.map_cons, List.cons.injEq, Prod.mk.injEq] at hL
    obtain ⟨⟨h1, h2, h3⟩, hL⟩ := hL
    subst h2; subst h3
    obtain ⟨a, b, r1, r2, ha, hb, he, hr, rfl⟩ := h
    have ih := run_eqFields_L L fs r2 hL hr w
    have hn : f.name ≠ "_" := by simpa using h1
    unfold Op.eqFields
    rw [if_pos hn]
    simp only [Sem.run_bind, ha, hb, he, Result.andThen_ok]
    cases r1
    · simp
    · simp [ih]
def fieldsAre (P : Program) (t : Nat) (L : List (Nat × Nat)) : Bool :=
  match P.underlying t with
  | some (.struct fs) => (fs.toList.map (fun f => (f.name == "_", f.type, f.offset)) == L.map (fun p => (false, p.1, p.2))) && !P.stoodInHeld t
  | _ => false
theorem run_equalIn_fields {d t : Nat} {xs ys : Array Value} {L : List (Nat × Nat)} {r : Bool} (hf : fieldsAre P t L = true) (h : eqP P d xs ys L r) (w : World) :
    (Op.equalIn (d + 1) t (.agg xs) (.agg ys)).run P w = .ok r w := by
  unfold fieldsAre at hf
  revert hf
  split
  · rename_i fs hu
    intro hf
    simp only [Bool.and_eq_true, beq_iff_eq, Bool.not_eq_true'] at hf
    have hfo : P.fieldsOf t = fs := by simp [Program.fieldsOf, hu]
    rw [run_equalIn_struct w d t xs ys (by rw [hfo]; exact hu) hf.2, hfo]
    exact run_eqFields_L L fs.toList r hf.1 h w
  · intro h; cases h
def bytes32 (P : Program) (t : Nat) : Bool :=
  match P.underlying t with
  | some (.array 32 e) => (match P.underlying e with | some (.int .u8) => true | _ => false) && (match P.info? e with | some i => Nat.beq i.size 1 | none => false)
  | _ => false
theorem run_eqItems_bytes {d e : Nat} (hu : P.underlying e = some (.int .u8)) (as bs : List UInt8) : ∀ (is : List Nat), (∀ i ∈ is, i < as.length ∧ i < bs.length) → ∀ w,
    (Op.eqItems (d + 1) e 1 (as.map fun b => Value.int .u8 (b.toNat : Int)).toArray (bs.map fun b => Value.int .u8 (b.toNat : Int)).toArray is).run P w = .ok (is.all fun i => as[i]? == bs[i]?) w
  | [], _, w => by simp [Op.eqItems]
  | i :: is, hi, w => by
    obtain ⟨h1, h2⟩ := hi i (by simp)
    have ho : oneOk P e = true := by simp [oneOk, hu]
    have e1 := run_part_one (P := P) (t := e) (off := i * 1) (cs := (as.map fun b => Value.int .u8 (b.toNat : Int)).toArray) (v := .int .u8 (as[i].toNat : Int)) ho (by simp [h1]) w
    have e2 := run_part_one (P := P) (t := e) (off := i * 1) (cs := (bs.map fun b => Value.int .u8 (b.toNat : Int)).toArray) (v := .int .u8 (bs[i].toNat : Int)) ho (by simp [h2]) w
    have e3 : (Op.equalIn (d + 1) e (.int .u8 (as[i].toNat : Int)) (.int .u8 (bs[i].toNat : Int))).run P w = .ok ((as[i].toNat : Int) == (bs[i].toNat : Int)) w := run_equalIn_int w d e .u8 .u8 _ _ hu
    have ih := run_eqItems_bytes (d := d) hu as bs is (fun j hj => hi j (by simp [hj])) w
    simp only [Op.eqItems, Sem.run_bind, e1, e2, e3, Result.andThen_ok]
    have hb : ((as[i].toNat : Int) == (bs[i].toNat : Int)) = (as[i]? == bs[i]?) := by
      rw [List.getElem?_eq_getElem h1, List.getElem?_eq_getElem h2, Bool.eq_iff_iff]
      simp only [beq_iff_eq, Int.ofNat_inj, Option.some.injEq]
      exact ⟨fun h => UInt8.toNat_inj.1 h, fun h => by rw [h]⟩
    rw [List.all_cons, ← hb]
    cases hc : ((as[i].toNat : Int) == (bs[i].toNat : Int))
    · simp
    · simp [ih]
theorem run_equalIn_dig {d t : Nat} (ht : bytes32 P t = true) (x y : Dig) (w : World) : (Op.equalIn (d + 2) t (.agg x.cells.toArray) (.agg y.cells.toArray)).run P w = .ok (decide (x = y)) w := by
  unfold bytes32 at ht
  revert ht
  split
  · rename_i e hu
    intro ht
    rw [Bool.and_eq_true] at ht
    obtain ⟨h1, h2⟩ := ht
    have hue : P.underlying e = some (.int .u8) := by revert h1; split <;> simp_all
    cases hi : P.info? e with
    | none => simp [hi] at h2
    | some i =>
      rw [hi] at h2
      have hz : P.cellsOf e = 1 := by
        have := Nat.eq_of_beq_eq_true h2
        simp [Program.cellsOf, hi, this]
      rw [run_equalIn_array w (d + 1) _ _ hu hi, hz]
      have := run_eqItems_bytes (P := P) (d := d) hue x.l y.l (List.range 32) (by intro i hi; simp at hi; rw [x.h, y.h]; exact ⟨hi, hi⟩) w
      refine this.trans ?_
      congr 1
      rw [Bool.eq_iff_iff]
      simp only [List.all_eq_true, List.mem_range, beq_iff_eq, decide_eq_true_eq]
      constructor
      · intro h
        cases x with | mk xl xh => cases y with | mk yl yh =>
        simp only [Dig.mk.injEq]
        apply List.ext_getElem?
        intro i
        by_cases hlt : i < 32
        · exact h i hlt
        · rw [List.getElem?_eq_none (by omega), List.getElem?_eq_none (by omega)]
      · rintro rfl i _; rfl
  · intro h; cases h

section
variable {N : Nat} {e : Env} {w : World} {d : Option Tmp} {ty : TypeId} {pos : String} {af : Array Edge} {gd : Option (Nat × Bool)}
theorem opEqRow {t yt : TypeId} {x y : Operand} {cx cy : Array Value} {r : Bool} (heq : ∀ w, (Op.equalIn 10000 t (.agg cx) (.agg cy)).run P w = .ok r w) (hg : P.eqGuardType P.depth t = false)
    (hx : opv e x = some (.agg cx)) (hy : opv e y = some (.agg cy)) : OpVal P N e w ⟨d, .binOp .eql t x y yt, ty, pos, af, gd⟩ (.bool r) := fun a ha => by
  simp only [execOp, ha.eval hx, ha.eval hy, Sem.run_bind, run_eqGuard_agg w .eql t x y cx cy hg, Result.andThen_ok, run_eql_struct, heq]
  rfl
theorem opNeRow {t yt : TypeId} {x y : Operand} {cx cy : Array Value} {r : Bool} (heq : ∀ w, (Op.equalIn 10000 t (.agg cx) (.agg cy)).run P w = .ok r w) (hg : P.eqGuardType P.depth t = false)
    (hx : opv e x = some (.agg cx)) (hy : opv e y = some (.agg cy)) : OpVal P N e w ⟨d, .binOp .neq t x y yt, ty, pos, af, gd⟩ (.bool (!r)) := fun a ha => by
  simp only [execOp, ha.eval hx, ha.eval hy, Sem.run_bind, run_eqGuard_agg w .neq t x y cx cy hg, Result.andThen_ok, run_neq_struct, heq]
  rfl
/-! ### Counts -/
theorem wrap_u64_nat {a : Nat} (h : a < 9223372036854775808) : IntKind.u64.wrap (a : Int) = (a : Int) := by
  simp only [IntKind.wrap, IntKind.bits, IntKind.signed]; simp; omega
theorem wrap_i64_nat {a : Nat} (h : a < 9223372036854775808) : IntKind.i64.wrap (a : Int) = (a : Int) := IntWalk.i64_in _ (by omega)
end
end
end Go.Gx

namespace Go.Gx
open Go Go.RowKit
variable {M : Mu}

abbrev Done := Nat → Bool
def Done.set (done : Done) (i : Nat) : Done := fun j => if j = i then true else done j

def dstsOk (N : Nat) : List Oper → Bool
  | [] => true
  | o :: r => okD N o.dst && (match o.dst with | some d => r.all (fun x => !(x.dst == some d)) | none => true) && dstsOk N r
/-- The frame in the midst of a region. -/
structure Mid (l : List Oper) (N : Nat) (e : Env) (V : Nat → Gh → Value → Prop) (done : Done) (G : Gh) (a : Act) : Prop where
  sz : a.tmps.size = N
  df : a.defers = []
  old : ∀ s v, e s = some v → (∀ j o, l[j]? = some o → o.dst = some s → done j = false) → a.tmps[s]? = some v
  new : ∀ j o d, l[j]? = some o → done j = true → o.dst = some d → ∃ v, a.tmps[d]? = some v ∧ V j G v
  dk : dstsOk N l = true

/-- What is asked of operation k. -/
def DStep (P : Program) (l : List Oper) (N : Nat) (e : Env) (V : Nat → Gh → Value → Prop) (C : Done → Act → Gh → World → Prop) (k : Nat) (o : Oper) : Prop :=
  ∀ (done : Done) (G : Gh) (w : World) (a : Act), done k = false → (∀ x ∈ o.after.toList, Region.binds .any x = true → done x.on = true) →
    (∀ j oj, l[j]? = some oj → (∃ x ∈ oj.after.toList, Region.binds .any x = true ∧ x.on = k) → done j = false) → C done a G w → Mid l N e V done G a →
    if Region.wanted o (yielded l.toArray a.tmps) then OpR P o a w (fun v w' => ∃ G', GLe G G' ∧ C (done.set k) (a.put o.dst v) G' w' ∧ V k G' v)
    else C (done.set k) (a.put o.dst undef) G w ∧ V k G undef
def DSteps (P : Program) (l : List Oper) (N : Nat) (e : Env) (V : Nat → Gh → Value → Prop) (C : Done → Act → Gh → World → Prop) : Nat → List Oper → Prop
  | _, [] => True
  | k, o :: r => DStep P l N e V C k o ∧ DSteps P l N e V C (k + 1) r
theorem DSteps.get {P : Program} {l : List Oper} {N : Nat} {e : Env} {V : Nat → Gh → Value → Prop} {C : Done → Act → Gh → World → Prop} : ∀ {r : List Oper} {k : Nat}, DSteps P l N e V C k r → ∀ {i : Nat} {o : Oper}, r[i]? = some o → DStep P l N e V C (k + i) o
  | [], _, _, i, o, h => by simp at h
  | x :: r, k, ⟨h1, h2⟩, i, o, h => by
    cases i with
    | zero => simp at h; subst h; exact h1
    | succ i => have := DSteps.get h2 (i := i) (o := o) (by simpa using h); rwa [show k + 1 + i = k + (i + 1) from by omega] at this

/-! ### What the steps are shown by -/
section
variable {P : Program} {l : List Oper} {N : Nat} {e : Env} {V : Nat → Gh → Value → Prop} {done : Done} {G : Gh} {a : Act} {w : World}
theorem Fr.add {e' : Env} {t : Nat} {v : Value} (h : Fr N a e') (hv : a.tmps[t]? = some v) : Fr N a (e'.put t v) := by
  refine ⟨h.sz, h.df, fun u x hu => ?_⟩
  simp only [Env.put] at hu
  by_cases hut : u = t
  · subst hut
    simp [Nat.beq_refl] at hu
    subst hu
    exact hv
  · rw [beq_false hut] at hu
    exact h.at_ _ _ hu
theorem OpVal.draw {o : Oper} {v : Value} {R : Value → World → Prop} (hF : Fr N a e) (h : OpVal P N e w o v) (hR : R v w) : OpR P o a w R := by unfold OpR; rw [h a hF]; exact hR
theorem OpRun.draw {o : Oper} {R R' : Value → World → Prop} (hF : Fr N a e) (h : OpRun P N e w o R) (hR : ∀ v w', R v w' → R' v w') : OpR P o a w R' := (h a hF).mono hR
end

/-! ### Steps, whole -/
def waits (o : Oper) (k : Nat) : Bool := o.after.toList.any fun x => Nat.beq x.on k && Region.binds .any x
section
variable {P : Program} {l : List Oper} {N : Nat} {e : Env} {V : Nat → Gh → Value → Prop} {C : Done → Act → Gh → World → Prop} {i : Nat} {d : Option Tmp} {op : Op} {ty : TypeId} {pos : String} {af : Array Edge} {r : List Oper}
end
end Go.Gx
