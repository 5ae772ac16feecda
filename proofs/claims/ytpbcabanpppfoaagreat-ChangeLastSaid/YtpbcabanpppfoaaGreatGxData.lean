/- The operations that make or write memory, and calls, for the calculus of GxCore. No condition. -/
import Derived.Test.YtpbcabanpppfoaaGreatGxMem
set_option linter.all false
namespace Go.Gx
open Go Go.RowKit
variable {M : Mu}

/-! ### What a function hands back -/
/-- It returns a value of which R holds, over what stays behind it. -/
def RetG (P : Program) (f : FuncId) (args : Array Value) (G : Gh) (w : World) (R : Gh → Value → Prop) : Prop := Calls P f args w fun e w' => ∃ v G', e = .returned v ∧ Cx w G G' w' ∧ R G' v
theorem RetG.mono {P : Program} {f : FuncId} {args : Array Value} {G : Gh} {w : World} {R R' : Gh → Value → Prop} (h : RetG P f args G w R) (hR : ∀ G v, R G v → R' G v) : RetG P f args G w R' :=
  Calls.mono h fun _ _ ⟨v, G', h1, h2, h3⟩ => ⟨v, G', h1, h2, hR _ _ h3⟩

/-- Operands as values. -/
def opvs (e : Env) : List Operand → Option (List Value)
  | [] => some []
  | x :: r => match opv e x, opvs e r with | some v, some vs => some (v :: vs) | _, _ => none
theorem Fr.evals {N : Nat} {a : Act} {e : Env} (h : Fr N a e) : ∀ {xs : List Operand} {vs : List Value}, opvs e xs = some vs → xs.toArray.map a.eval = vs.toArray
  | [], vs, hv => by simp [opvs] at hv; subst hv; simp
  | x :: r, vs, hv => by
    simp only [opvs] at hv
    cases hx : opv e x with
    | none => simp [hx] at hv
    | some v =>
      cases hr : opvs e r with
      | none => simp [hx, hr] at hv
      | some us =>
        simp [hx, hr] at hv
        subst hv
        have := h.evals hr
        simp only [List.map_toArray] at this ⊢
        simp only [List.map_cons, h.eval hx]
        congr 2
        have h2 := congrArg Array.toList this
        simpa using h2

theorem oneCell_of_cells (v : Value) (h : v.oneCell' = true) : v.cells = #[v] := by
  cases v <;> first | rfl | (simp [Value.oneCell'] at h)

section
variable {P : Program} {ops : Array Oper} {Q : Exit → Act → World → Prop} {N : Nat} {e : Env} {w w0 : World} {G0 G : Gh} {rest : List Oper} {d : Option Tmp} {ty : TypeId} {pos : String} {af : Array Edge} {bl : List Bx}

/-- A variable in memory, with its value. -/
theorem wlBox {T : TypeId} {x : Operand} {v : Value} {cs : List Value} (hC : Cx w0 G0 G w M) (hB : Bxs G w w0.heap.size bl M) (hx : opv e x = some v) (hcs : v.cells = cs.toArray) (hd : okD N d = true)
    (h : ∀ b w', Cx w G G w' → Cx w0 G0 G w' M → Bxs G w' w0.heap.size ((b, T, cs) :: bl) M → WL P ops Q N rest (e.putO d (.pointer (some ⟨b, 0, none⟩))) w') :
    WL P ops Q N (⟨d, .box T x, ty, pos, af, none⟩ :: rest) e w := by
  refine wlStep (R := fun v w' => v = .pointer (some ⟨w.heap.size, 0, none⟩) ∧ w' = w.alloc (.cells cs.toArray T)) hd (fun a ha => ?_) ?_
  · unfold OpR
    simp [execOp, ha.eval hx, Instr.box, newVar, newRow, newObj, hcs]
    exact ⟨rfl, rfl⟩
  · rintro v w' ⟨rfl, rfl⟩
    have hk := Cx.alloc hC.holds (.cells cs.toArray T)
    exact h _ _ hk (hC.trans hk) (hB.push hC.holds hC.size hC.heldLt T cs)
/-- A variable in memory, zero. -/
theorem wlAlloc {T : TypeId} {cs : List Value} (hC : Cx w0 G0 G w M) (hB : Bxs G w w0.heap.size bl M) (hz : (P.info? T).bind (fun i => i.zero.map Value.cells) = some cs.toArray) (hd : okD N d = true)
    (h : ∀ b w', Cx w G G w' → Cx w0 G0 G w' M → Bxs G w' w0.heap.size ((b, T, cs) :: bl) M → WL P ops Q N rest (e.putO d (.pointer (some ⟨b, 0, none⟩))) w') :
    WL P ops Q N (⟨d, .alloc T, ty, pos, af, none⟩ :: rest) e w := by
  refine wlStep (R := fun v w' => v = .pointer (some ⟨w.heap.size, 0, none⟩) ∧ w' = w.alloc (.cells cs.toArray T)) hd (fun a ha => ?_) ?_
  · unfold OpR
    cases hq : P.info? T with
    | none => simp [hq] at hz
    | some i =>
      cases hi : i.zero with
      | none => simp [hq, hi] at hz
      | some z =>
        simp [hq, hi] at hz
        simp [execOp, Instr.alloc, zeroValue, typeInfo, hq, hi, newVar, newRow, newObj, hz]
        exact ⟨rfl, rfl⟩
  · rintro v w' ⟨rfl, rfl⟩
    have hk := Cx.alloc hC.holds (.cells cs.toArray T)
    exact h _ _ hk (hC.trans hk) (hB.push hC.holds hC.size hC.heldLt T cs)
/-- A store into a box: 'n' cells from 'o' on. -/
theorem wlStore {t n : Nat} {x y : Operand} {b o : Nat} {T : TypeId} {v : Value} {vs cs cs' : List Value} (i : Nat) (hC : Cx w0 G0 G w M) (hB : Bxs G w w0.heap.size bl M) (hi : bl[i]? = some (b, T, cs))
    (hx : opv e x = some (.pointer (some ⟨b, o, none⟩))) (hy : opv e y = some v) (ht : (P.info? t).map (·.size) = some n) (hv : v.cells = vs.toArray) (hn : vs.length = n) (hone : vs.all Value.oneCell' = true) (hle : o + n ≤ cs.length)
    (hcs : cs.take o ++ vs ++ cs.drop (o + n) = cs') (hd : okD N d = true)
    (h : ∀ w', Cx w0 G0 G w' M → Bxs G w' w0.heap.size (bl.set i (b, T, cs')) M → WL P ops Q N rest (e.putO d undef) w') :
    WL P ops Q N (⟨d, .store t x y, ty, pos, af, none⟩ :: rest) e w := by
  have hg := hB.get hi
  subst hn
  refine wlStep (R := fun v w' => v = undef ∧ w' = w.setRow b cs'.toArray) hd (fun a ha => ?_) ?_
  · unfold OpR
    have hst := run_storeCells_at (P := P) b o T vs 0 cs.toArray w hg.1 (by simpa using hle) (by simpa using hone)
    have hsz := sizeOf_of ht w
    have hrun : (Instr.storeAt t (.pointer (some ⟨b, o, none⟩)) v).run P w = .ok () (w.setRow b cs'.toArray) := by
      simp only [Instr.storeAt, Instr.sureAddr, storeVar, Sem.run_bind, Sem.run_pure, Result.andThen_ok, hsz, hv, List.size_toArray, ne_eq, not_true_eq_false, if_false]
      simp only [Nat.add_zero] at hst
      simp only [hst, hcs]
    simp [execOp, ha.eval hx, ha.eval hy, hrun]
  · rintro v w' ⟨rfl, rfl⟩
    exact h _ (hC.setRow' hg.2.1 hg.2.2 (hB.off hi) _) (hB.set hi cs')

/-! ### Calls -/
theorem run_callFunc {f : FuncId} (hf : callOk P f = true) (args : Array Value) (w : World) : (callFunc f args).run P w = .ok (.enter f args) w := by
  unfold callOk at hf
  cases hq : P.funcs[f]? with
  | none => simp [hq] at hf
  | some fn =>
    rw [hq] at hf
    simp only [Bool.and_eq_true] at hf
    obtain ⟨h1, h2⟩ := hf
    have h4 : (fn.name == "runtime.NumGoroutine") = false := by simpa using h2
    have h5 : fn.name ≠ "runtime.NumGoroutine" := by simpa using h4
    have h6 : fn.body ≠ none := by intro h; rw [h] at h1; cases h1
    simp [callFunc, hq, h5, h6]
theorem opCall {gd : Option (Nat × Bool)} {x : Operand} {f : FuncId} {xs : List Operand} {vs caps first : List Value} {ats : Array TypeId} (hx : opv e x = some (.func (.func f) first.toArray caps.toArray)) (hf : callOk P f = true) (hvs : opvs e xs = some vs)
    {R : Value → World → Prop} (hc : Calls P f (first ++ vs ++ caps).toArray w fun e w' => ∃ v, e = .returned v ∧ R v w') :
    OpRun P N e w ⟨d, .call ⟨.value x, xs.toArray, ats⟩, ty, pos, af, gd⟩ R := by
  intro a ha
  unfold OpR
  have hev := ha.evals hvs
  have h1 : (execOp a.eval ⟨d, .call ⟨.value x, xs.toArray, ats⟩, ty, pos, af, gd⟩).run P w = .ok (.enter f (first ++ vs ++ caps).toArray) w := by
    simp only [execOp, resolve, ha.eval hx, hev, Deferred.ofValue, Sem.run_bind, Sem.run_pure, Result.andThen_ok, invoke]
    rw [run_callFunc hf]
    simp
  rw [h1]
  exact hc
/-! ### The end -/
/-- What a result variable holds. -/
def RV (P : Program) (e : Env) (w : World) : ResultVar → Value → Prop
  | .tmp t, v => e t = some v
  | .cell t ty, v => ∃ b n cs, e t = some (.pointer (some ⟨b, 0, none⟩)) ∧ rowOk P ty n = true ∧ cs.length = n ∧ w.rangeAt b 0 cs ∧ v = .agg cs.toArray
def rvar (tmps : Array Value) : ResultVar → Sem Value
  | .tmp t => pure (tmps.getD t undef)
  | .cell a t => do loadVar t (← asAddr (tmps.getD a undef))
theorem results_eq (fn : Func) (tmps : Array Value) : results fn tmps = (do let vs ← fn.results.mapM (rvar tmps); pure (if h : vs.size = 1 then vs[0] else .tuple vs)) := by
  unfold results
  congr 1
theorem run_resultVar {a : Act} {r : ResultVar} {v : Value} (ha : Fr N a e) (h : RV P e w r v) : (rvar a.tmps r).run P w = .ok v w := by
  cases r with
  | tmp t =>
    have h1 := ha.at_ t v h
    simp [rvar, Array.getD_eq_getD_getElem?, h1]
  | cell t ty =>
    obtain ⟨b, n, cs, h1, h2, h3, h4, rfl⟩ := h
    have h5 := ha.at_ t _ h1
    obtain ⟨⟨dd, hu, hr⟩, hi⟩ := rowOk_of h2
    simp [rvar, Array.getD_eq_getD_getElem?, h5, asAddr, run_loadVar_mid w b 0 ty cs dd h4 hu hr (by rw [hi, h3])]
theorem results1 {fn : Func} {a : Act} {r : ResultVar} {v : Value} (ha : Fr N a e) (hr : fn.results = #[r]) (h : RV P e w r v) : (results fn a.tmps).run P w = .ok v w := by
  have h1 := run_resultVar ha h
  rw [results_eq, hr]
  simp [h1]
theorem results2 {fn : Func} {a : Act} {r r2 : ResultVar} {v v2 : Value} (ha : Fr N a e) (hr : fn.results = #[r, r2]) (h : RV P e w r v) (h2 : RV P e w r2 v2) : (results fn a.tmps).run P w = .ok (.tuple #[v, v2]) w := by
  have h1 := run_resultVar ha h
  have h2 := run_resultVar ha h2
  rw [results_eq, hr]
  simp [h1, h2]
/-- The return. -/
theorem ret1 {fn : Func} {R : Ending → World → Prop} {r : ResultVar} {v : Value} (hr : fn.results = #[r]) (h : RV P e w r v) (hR : R (.returned v) w) : ∀ a, Fr N a e → bodyPost P fn R .ret a w :=
  fun _ ha => bodyPost_ret (results1 ha hr h) ha.df hR
/-! ### Loops by a measure -/
theorem wrInd {ι : Type} {c : Code} (μ : ι → Nat) (I : ι → Gh → World → Prop) (env : ι → Env)
    (h : ∀ i G w n, (∀ j G' w', I j G' w' → μ j < μ i → WR P Q N c n (env j) w') → I i G w → WC P (Exit.then (Code.rounds P c Q n) Q) N c (env i) w) :
    ∀ i G w, I i G w → WC P Q N (.loop c) (env i) w := by
  have key : ∀ n i G w, μ i < n → I i G w → WR P Q N c n (env i) w := by
    intro n
    induction n with
    | zero => intro i G w hm _; omega
    | succ n ih =>
      intro i G w hm hi
      exact wrSucc (h i G w n (fun j G' w' hj hlt => ih j G' w' (by omega) hj) hi)
  intro i G w hi
  exact wcLoop (μ i + 1) (key _ i G w (by omega) hi)
theorem wrOf {c : Code} {n : Nat} (h : WR P Q N c n e w) : ∀ a, Fr N a e → Code.rounds P c Q n a w := h

end
end Go.Gx

namespace Go.Gx
open Go Go.RowKit
variable {M : Mu}

abbrev GLe (G G' : Gh) : Prop := ∀ b o, G b = some o → G' b = some o

/-- Data of a type lie in a row of cells. -/
class Rp (α : Type) where
  sz : Nat
  Is : Gh → List Value → α → Prop
  len : ∀ {G cs x}, Is G cs x → cs.length = sz
  one : ∀ {G cs x}, Is G cs x → ∀ u ∈ cs, u.oneCell' = true
  mono : ∀ {G G' : Gh} {cs x}, GLe G G' → Is G cs x → Is G' cs x

def maxL : Nat := 140737488355328

/-- A row of cells in a block that stays. -/
def RowG (G : Gh) (b o : Nat) (row : List Value) : Prop := ∃ cs T fz, G b = some (.cells cs T fz) ∧ ∀ j u, row[j]? = some u → cs[o + j]? = some u
theorem RowG.mono {G G' : Gh} {b o : Nat} {row : List Value} (hg : GLe G G') (h : RowG G b o row) : RowG G' b o row := by
  obtain ⟨cs, T, fz, h1, h2⟩ := h
  exact ⟨cs, T, fz, hg _ _ h1, h2⟩
theorem RowG.range {G : Gh} {w : World} (hw : Holds G w) {b o : Nat} {row : List Value} (h : RowG G b o row) : w.rangeAt b o row := by
  obtain ⟨cs, T, fz, h1, h2⟩ := h
  intro j v hv
  rw [World.cell?, hw _ _ h1]
  simpa using h2 j v hv
theorem RowG.cell {G : Gh} {w : World} (hw : Holds G w) {b o : Nat} {row : List Value} (h : RowG G b o row) {j : Nat} {v : Value} (hj : row[j]? = some v) : w.cell? ⟨b, o + j, none⟩ = some v := h.range hw j v hj
theorem RowG.part {G : Gh} {b o : Nat} {row part : List Value} (h : RowG G b o row) {i m : Nat} (hp : (row.drop i).take m = part) : RowG G b (o + i) part := by
  obtain ⟨cs, T, fz, h1, h2⟩ := h
  subst hp
  refine ⟨cs, T, fz, h1, fun j u hu => ?_⟩
  rw [List.getElem?_take] at hu
  split at hu
  · rw [List.getElem?_drop] at hu
    rw [Nat.add_assoc]; exact h2 _ _ hu
  · cases hu

/-- A slice that reads as a list. -/
def Sl {α : Type} [Rp α] (G : Gh) (v : Value) (xs : List α) : Prop :=
  ∃ A cap, v = .slice A xs.length cap ∧ xs.length ≤ cap ∧ xs.length ≤ maxL ∧
    ∀ k x, xs[k]? = some x → ∃ b o row, A = some ⟨b, o, none⟩ ∧ RowG G b (o + k * Rp.sz α) row ∧ Rp.Is G row x
theorem Sl.mono {α : Type} [Rp α] {G G' : Gh} {v : Value} {xs : List α} (hg : GLe G G') (h : Sl G v xs) : Sl G' v xs := by
  obtain ⟨A, cap, h1, h2, h3, h4⟩ := h
  refine ⟨A, cap, h1, h2, h3, fun k x hk => ?_⟩
  obtain ⟨b, o, row, e1, e2, e3⟩ := h4 k x hk
  exact ⟨b, o, row, e1, e2.mono hg, Rp.mono hg e3⟩
theorem Sl.form {α : Type} [Rp α] {G : Gh} {v : Value} {xs : List α} (h : Sl G v xs) : ∃ A cap, v = .slice A xs.length cap := by
  obtain ⟨A, cap, h1, _⟩ := h
  exact ⟨A, cap, h1⟩
theorem Sl.le {α : Type} [Rp α] {G : Gh} {v : Value} {xs : List α} (h : Sl G v xs) : xs.length ≤ maxL := by
  obtain ⟨A, cap, _, h2, h3, _⟩ := h
  exact h3
theorem Sl.elem {α : Type} [Rp α] {G : Gh} {A : Option Addr} {n cap k : Nat} {xs : List α} {x : α} (h : Sl G (.slice A n cap) xs) (hk : xs[k]? = some x) :
    ∃ b o row, A = some ⟨b, o, none⟩ ∧ RowG G b (o + k * Rp.sz α) row ∧ Rp.Is G row x := by
  obtain ⟨A', cap', h1, _, _, h4⟩ := h
  injection h1 with e1 e2 e3
  subst e1
  exact h4 k x hk
theorem Sl.len {α : Type} [Rp α] {G : Gh} {A : Option Addr} {n cap : Nat} {xs : List α} (h : Sl G (.slice A n cap) xs) : n = xs.length := by
  obtain ⟨A', cap', h1, _⟩ := h
  injection h1
theorem Sl.nil_ {α : Type} [Rp α] (G : Gh) : Sl G (.slice none 0 0) ([] : List α) := ⟨none, 0, rfl, Nat.le_refl _, Nat.zero_le _, fun k x h => by simp at h⟩

instance : Rp Int := ⟨1, fun _ cs n => cs = [.int .i64 n], fun h => by rw [h]; rfl, fun h => by rw [h]; simp [Value.oneCell'], fun _ h => h⟩
instance : Rp Bool := ⟨1, fun _ cs b => cs = [.bool b], fun h => by rw [h]; rfl, fun h => by rw [h]; simp [Value.oneCell'], fun _ h => h⟩
instance : Rp UInt8 := ⟨1, fun _ cs b => cs = [.int .u8 (b.toNat : Int)], fun h => by rw [h]; rfl, fun h => by rw [h]; simp [Value.oneCell'], fun _ h => h⟩
instance {α : Type} [Rp α] : Rp (List α) := ⟨1, fun G cs xs => ∃ v, cs = [v] ∧ Sl G v xs, fun ⟨_, h, _⟩ => by rw [h]; rfl, fun ⟨v, h, A, cap, h1, _⟩ => by rw [h, h1]; simp [Value.oneCell'], fun hg ⟨v, h, hs⟩ => ⟨v, h, hs.mono hg⟩⟩

theorem drop_get {α : Type} {xs : List α} {k : Nat} {x : α} (h : xs[k]? = some x) : xs.drop k = x :: xs.drop (k + 1) := by
  obtain ⟨hk, he⟩ := List.getElem?_eq_some_iff.1 h
  rw [List.drop_eq_getElem_cons hk, he]
/-- Thirty-two bytes. -/
structure Dig where
  l : List UInt8
  h : l.length = 32
  deriving DecidableEq
def Dig.cells (d : Dig) : List Value := d.l.map fun b => .int .u8 (b.toNat : Int)
@[simp] theorem Dig.length_cells (d : Dig) : d.cells.length = 32 := by simp [Dig.cells, d.h]
@[simp] theorem take_cells (d : Dig) (r : List Value) (n : Nat) (h : 32 ≤ n) : (d.cells ++ r).take n = d.cells ++ r.take (n - 32) := by
  rw [List.take_append]; simp [List.take_of_length_le, h]
@[simp] theorem take_cells0 (d : Dig) (n : Nat) (h : 32 ≤ n) : d.cells.take n = d.cells := List.take_of_length_le (by simpa using h)
@[simp] theorem drop_cells (d : Dig) (r : List Value) (n : Nat) (h : 32 ≤ n) : (d.cells ++ r).drop n = r.drop (n - 32) := by
  rw [List.drop_append]; simp [List.drop_of_length_le, h]
@[simp] theorem drop_cells0 (d : Dig) (n : Nat) (h : 32 ≤ n) : d.cells.drop n = [] := List.drop_of_length_le (by simpa using h)
@[simp] theorem get_cells (d : Dig) (r : List Value) (n : Nat) (h : 32 ≤ n) : (d.cells ++ r)[n]? = r[n - 32]? := by
  rw [List.getElem?_append_right (by simpa using h)]; simp
@[simp] theorem all_cells (d : Dig) : d.cells.all Value.oneCell' = true := by simp [Dig.cells, Value.oneCell']
@[simp] theorem mem_cells (d : Dig) : ∀ v ∈ d.cells, v.oneCell' = true := by simp [Dig.cells, Value.oneCell']
def Dig.zero : Dig := ⟨List.replicate 32 0, rfl⟩
instance : Inhabited Dig := ⟨Dig.zero⟩
instance : Rp Dig := ⟨32, fun _ cs d => cs = d.cells, fun h => by rw [h]; exact Dig.length_cells _, fun h => by rw [h]; exact mem_cells _, fun _ h => h⟩

/-! ### A box that is let stay -/
theorem freeze0 {w0 w : World} {G0 G : Gh} {n b : Nat} {T : TypeId} {cs : List Value} {bl : List Bx} (hC : Cx w0 G0 G w M) (hn : w0.heap.size ≤ n) (hB : Bxs G w n ((b, T, cs) :: bl) M) (hm : ∀ m ∈ M.may, m ∈ bl.map (·.1) ∨ m ∈ M.held.map (·.1) := by simp) :
    GLe G (G.add b (.cells cs.toArray T (0, 0))) ∧ Cx w0 G0 (G.add b (.cells cs.toArray T (0, 0))) w M ∧ Bxs (G.add b (.cells cs.toArray T (0, 0))) w n bl M := by
  obtain ⟨h1, h2, h3⟩ := hB.at_ (b, T, cs) (by simp)
  have hnd := hB.nodup
  rw [List.map_cons, List.nodup_cons] at hnd
  have hap := hB.apart (b, T, cs) (by simp)
  have hne : b ∉ M.may := fun hb => (hm b hb).elim (fun h => hnd.1 h) (fun h => hap h)
  refine ⟨Gh.add_le h2, hC.freeze h1 h2 (Nat.le_trans hn (h3.elim id (fun h => (hne h).elim))) hap, ⟨fun x hx => ?_, hnd.2, fun x hx => hB.apart x (by simp [hx])⟩⟩
  obtain ⟨k1, k2, k3⟩ := hB.at_ x (by simp [hx])
  have hne : x.1 ≠ b := fun he => hnd.1 (by rw [List.mem_map]; exact ⟨x, hx, he⟩)
  exact ⟨k1, by unfold Gh.add; rw [if_neg hne]; exact k2, k3⟩
end Go.Gx
