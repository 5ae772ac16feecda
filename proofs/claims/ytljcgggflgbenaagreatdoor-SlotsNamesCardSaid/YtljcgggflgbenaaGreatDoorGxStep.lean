/- The operations that make or write memory, and calls, for the calculus of GxCore. No condition. -/
import Derived.Test.YtljcgggflgbenaaGreatDoorGxMem
set_option linter.all false
namespace Go.Gx
open Go Go.RowKit
variable {M : Mu}

/-! ### What a function hands back -/
/-- It returns v; nothing new stays that a reading would look at. -/
def RetS (P : Program) (f : FuncId) (args : Array Value) (G : Gh) (w : World) (v : Value) : Prop := Calls P f args w fun e w' => e = .returned v ∧ Cx w G G w'
/-- It returns a value of which R holds, over what stays behind it. -/
def RetG (P : Program) (f : FuncId) (args : Array Value) (G : Gh) (w : World) (R : Gh → Value → Prop) : Prop := Calls P f args w fun e w' => ∃ v G', e = .returned v ∧ Cx w G G' w' ∧ R G' v
theorem RetG.mono {P : Program} {f : FuncId} {args : Array Value} {G : Gh} {w : World} {R R' : Gh → Value → Prop} (h : RetG P f args G w R) (hR : ∀ G v, R G v → R' G v) : RetG P f args G w R' :=
  Calls.mono h fun _ _ ⟨v, G', h1, h2, h3⟩ => ⟨v, G', h1, h2, hR _ _ h3⟩

/-- Operands as values. -/
def opvs (e : Env) : List Operand → Option (List Value)
  | [] => some []
  | x :: r => match opv e x, opvs e r with | some v, some vs => some (v :: vs) | _, _ => none
theorem Fr.evals {N : Nat} {a : Act} {e : Env} (h : Fr N a e) : ∀ {xs : List Operand} {vs : List Value}, opvs e xs = some vs → xs.toArray.map a.eval = vs.toArray
  | [], vs, hv => by simp [opvs] at hv; subst hv; simp
  | x :: r, vs, hv => by
    simp only [opvs] at hv
    cases hx : opv e x with
    | none => simp [hx] at hv
    | some v =>
      cases hr : opvs e r with
      | none => simp [hx, hr] at hv
      | some us =>
        simp [hx, hr] at hv
        subst hv
        have := h.evals hr
        simp only [List.map_toArray] at this ⊢
        simp only [List.map_cons, h.eval hx]
        congr 2
        have h2 := congrArg Array.toList this
        simpa using h2

section
variable {P : Program} {ops : Array Oper} {Q : Exit → Act → World → Prop} {N : Nat} {e : Env} {w w0 : World} {G0 G : Gh} {rest : List Oper} {d : Option Tmp} {ty : TypeId} {pos : String} {af : Array Edge} {bl : List Bx}

/-- A variable in memory, with its value. -/
theorem wlBox {T : TypeId} {x : Operand} {v : Value} {cs : List Value} (hC : Cx w0 G0 G w M) (hB : Bxs G w w0.heap.size bl M) (hx : opv e x = some v) (hcs : v.cells = cs.toArray) (hd : okD N d = true)
    (h : ∀ b w', Cx w G G w' → Cx w0 G0 G w' M → Bxs G w' w0.heap.size ((b, T, cs) :: bl) M → WL P ops Q N rest (e.putO d (.pointer (some ⟨b, 0, none⟩))) w') :
    WL P ops Q N (⟨d, .box T x, ty, pos, af, none⟩ :: rest) e w := by
  refine wlStep (R := fun v w' => v = .pointer (some ⟨w.heap.size, 0, none⟩) ∧ w' = w.alloc (.cells cs.toArray T)) hd (fun a ha => ?_) ?_
  · unfold OpR
    simp [execOp, ha.eval hx, Instr.box, newVar, newRow, newObj, hcs]
    exact ⟨rfl, rfl⟩
  · rintro v w' ⟨rfl, rfl⟩
    have hk := Cx.alloc hC.holds (.cells cs.toArray T)
    exact h _ _ hk (hC.trans hk) (hB.push hC.holds hC.size hC.heldLt T cs)
/-- A variable in memory, zero. -/
theorem wlAlloc {T : TypeId} {cs : List Value} (hC : Cx w0 G0 G w M) (hB : Bxs G w w0.heap.size bl M) (hz : (P.info? T).bind (fun i => i.zero.map Value.cells) = some cs.toArray) (hd : okD N d = true)
    (h : ∀ b w', Cx w G G w' → Cx w0 G0 G w' M → Bxs G w' w0.heap.size ((b, T, cs) :: bl) M → WL P ops Q N rest (e.putO d (.pointer (some ⟨b, 0, none⟩))) w') :
    WL P ops Q N (⟨d, .alloc T, ty, pos, af, none⟩ :: rest) e w := by
  refine wlStep (R := fun v w' => v = .pointer (some ⟨w.heap.size, 0, none⟩) ∧ w' = w.alloc (.cells cs.toArray T)) hd (fun a ha => ?_) ?_
  · unfold OpR
    cases hq : P.info? T with
    | none => simp [hq] at hz
    | some i =>
      cases hi : i.zero with
      | none => simp [hq, hi] at hz
      | some z =>
        simp [hq, hi] at hz
        simp [execOp, Instr.alloc, zeroValue, typeInfo, hq, hi, newVar, newRow, newObj, hz]
        exact ⟨rfl, rfl⟩
  · rintro v w' ⟨rfl, rfl⟩
    have hk := Cx.alloc hC.holds (.cells cs.toArray T)
    exact h _ _ hk (hC.trans hk) (hB.push hC.holds hC.size hC.heldLt T cs)
/-- A store into a box: 'n' cells from 'o' on. -/
theorem wlStore {t n : Nat} {x y : Operand} {b o : Nat} {T : TypeId} {v : Value} {vs cs cs' : List Value} (i : Nat) (hC : Cx w0 G0 G w M) (hB : Bxs G w w0.heap.size bl M) (hi : bl[i]? = some (b, T, cs))
    (hx : opv e x = some (.pointer (some ⟨b, o, none⟩))) (hy : opv e y = some v) (ht : (P.info? t).map (·.size) = some n) (hv : v.cells = vs.toArray) (hn : vs.length = n) (hone : vs.all Value.oneCell' = true) (hle : o + n ≤ cs.length)
    (hcs : cs.take o ++ vs ++ cs.drop (o + n) = cs') (hd : okD N d = true)
    (h : ∀ w', Cx w0 G0 G w' M → Bxs G w' w0.heap.size (bl.set i (b, T, cs')) M → WL P ops Q N rest (e.putO d undef) w') :
    WL P ops Q N (⟨d, .store t x y, ty, pos, af, none⟩ :: rest) e w := by
  have hg := hB.get hi
  subst hn
  refine wlStep (R := fun v w' => v = undef ∧ w' = w.setRow b cs'.toArray) hd (fun a ha => ?_) ?_
  · unfold OpR
    have hst := run_storeCells_at (P := P) b o T vs 0 cs.toArray w hg.1 (by simpa using hle) (by simpa using hone)
    have hsz := sizeOf_of ht w
    have hrun : (Instr.storeAt t (.pointer (some ⟨b, o, none⟩)) v).run P w = .ok () (w.setRow b cs'.toArray) := by
      simp only [Instr.storeAt, Instr.sureAddr, storeVar, Sem.run_bind, Sem.run_pure, Result.andThen_ok, hsz, hv, List.size_toArray, ne_eq, not_true_eq_false, if_false]
      simp only [Nat.add_zero] at hst
      simp only [hst, hcs]
    simp [execOp, ha.eval hx, ha.eval hy, hrun]
  · rintro v w' ⟨rfl, rfl⟩
    exact h _ (hC.setRow' hg.2.1 hg.2.2 (hB.off hi) _) (hB.set hi cs')

/-! ### Calls -/
theorem run_callFunc {f : FuncId} (hf : callOk P f = true) (args : Array Value) (w : World) : (callFunc f args).run P w = .ok (.enter f args) w := by
  unfold callOk at hf
  cases hq : P.funcs[f]? with
  | none => simp [hq] at hf
  | some fn =>
    rw [hq] at hf
    simp only [Bool.and_eq_true] at hf
    obtain ⟨h1, h2⟩ := hf
    have h4 : (fn.name == "runtime.NumGoroutine") = false := by simpa using h2
    have h5 : fn.name ≠ "runtime.NumGoroutine" := by simpa using h4
    have h6 : fn.body ≠ none := by intro h; rw [h] at h1; cases h1
    simp [callFunc, hq, h5, h6]
theorem opCall {gd : Option (Nat × Bool)} {x : Operand} {f : FuncId} {xs : List Operand} {vs caps first : List Value} {ats : Array TypeId} (hx : opv e x = some (.func (.func f) first.toArray caps.toArray)) (hf : callOk P f = true) (hvs : opvs e xs = some vs)
    {R : Value → World → Prop} (hc : Calls P f (first ++ vs ++ caps).toArray w fun e w' => ∃ v, e = .returned v ∧ R v w') :
    OpRun P N e w ⟨d, .call ⟨.value x, xs.toArray, ats⟩, ty, pos, af, gd⟩ R := by
  intro a ha
  unfold OpR
  have hev := ha.evals hvs
  have h1 : (execOp a.eval ⟨d, .call ⟨.value x, xs.toArray, ats⟩, ty, pos, af, gd⟩).run P w = .ok (.enter f (first ++ vs ++ caps).toArray) w := by
    simp only [execOp, resolve, ha.eval hx, hev, Deferred.ofValue, Sem.run_bind, Sem.run_pure, Result.andThen_ok, invoke]
    rw [run_callFunc hf]
    simp
  rw [h1]
  exact hc
/-- A call that hands back a number, a bool, or whatever has no memory. -/
theorem wlCallS {x : Operand} {f : FuncId} {xs : List Operand} {vs caps first : List Value} {ats : Array TypeId} {v : Value} (hC : Cx w0 G0 G w M) (hB : Bxs G w w0.heap.size bl M)
    (hx : opv e x = some (.func (.func f) first.toArray caps.toArray)) (hf : callOk P f = true) (hvs : opvs e xs = some vs) (hd : okD N d = true) (hc : RetS P f (first ++ vs ++ caps).toArray G w v)
    (h : ∀ w', Cx w G G w' → Cx w0 G0 G w' M → Bxs G w' w0.heap.size bl M → WL P ops Q N rest (e.putO d v) w') :
    WL P ops Q N (⟨d, .call ⟨.value x, xs.toArray, ats⟩, ty, pos, af, none⟩ :: rest) e w := by
  refine wlStep (R := fun u w' => u = v ∧ Cx w G G w') hd (opCall hx hf hvs (Calls.mono hc fun _ _ ⟨h1, h2⟩ => ⟨v, h1, rfl, h2⟩)) ?_
  rintro u w' ⟨rfl, hk⟩
  exact h w' hk (hC.trans hk) (hB.ext hk)
/-- A call that hands back something of which R holds. -/
theorem wlCallG {x : Operand} {f : FuncId} {xs : List Operand} {vs caps first : List Value} {ats : Array TypeId} {R : Gh → Value → Prop} (hC : Cx w0 G0 G w M) (hB : Bxs G w w0.heap.size bl M)
    (hx : opv e x = some (.func (.func f) first.toArray caps.toArray)) (hf : callOk P f = true) (hvs : opvs e xs = some vs) (hd : okD N d = true) (hc : RetG P f (first ++ vs ++ caps).toArray G w R)
    (h : ∀ v G' w', Cx w G G' w' → Cx w0 G0 G' w' M → Bxs G' w' w0.heap.size bl M → R G' v → WL P ops Q N rest (e.putO d v) w') :
    WL P ops Q N (⟨d, .call ⟨.value x, xs.toArray, ats⟩, ty, pos, af, none⟩ :: rest) e w := by
  refine wlStep (R := fun u w' => ∃ G', Cx w G G' w' ∧ R G' u) hd (opCall hx hf hvs (Calls.mono hc fun _ _ ⟨v, G', h1, h2, h3⟩ => ⟨v, h1, G', h2, h3⟩)) ?_
  rintro u w' ⟨G', hk, hR⟩
  exact h u G' w' hk (hC.trans hk) (hB.ext hk) hR

/-! ### The end -/
/-- What a result variable holds. -/
def RV (P : Program) (e : Env) (w : World) : ResultVar → Value → Prop
  | .tmp t, v => e t = some v
  | .cell t ty, v => ∃ b n cs, e t = some (.pointer (some ⟨b, 0, none⟩)) ∧ rowOk P ty n = true ∧ cs.length = n ∧ w.rangeAt b 0 cs ∧ v = .agg cs.toArray
def rvar (tmps : Array Value) : ResultVar → Sem Value
  | .tmp t => pure (tmps.getD t undef)
  | .cell a t => do loadVar t (← asAddr (tmps.getD a undef))
theorem results_eq (fn : Func) (tmps : Array Value) : results fn tmps = (do let vs ← fn.results.mapM (rvar tmps); pure (if h : vs.size = 1 then vs[0] else .tuple vs)) := by
  unfold results
  congr 1
theorem run_resultVar {a : Act} {r : ResultVar} {v : Value} (ha : Fr N a e) (h : RV P e w r v) : (rvar a.tmps r).run P w = .ok v w := by
  cases r with
  | tmp t =>
    have h1 := ha.at_ t v h
    simp [rvar, Array.getD_eq_getD_getElem?, h1]
  | cell t ty =>
    obtain ⟨b, n, cs, h1, h2, h3, h4, rfl⟩ := h
    have h5 := ha.at_ t _ h1
    obtain ⟨⟨dd, hu, hr⟩, hi⟩ := rowOk_of h2
    simp [rvar, Array.getD_eq_getD_getElem?, h5, asAddr, run_loadVar_mid w b 0 ty cs dd h4 hu hr (by rw [hi, h3])]
theorem results1 {fn : Func} {a : Act} {r : ResultVar} {v : Value} (ha : Fr N a e) (hr : fn.results = #[r]) (h : RV P e w r v) : (results fn a.tmps).run P w = .ok v w := by
  have h1 := run_resultVar ha h
  rw [results_eq, hr]
  simp [h1]
theorem results2 {fn : Func} {a : Act} {r r2 : ResultVar} {v v2 : Value} (ha : Fr N a e) (hr : fn.results = #[r, r2]) (h : RV P e w r v) (h2 : RV P e w r2 v2) : (results fn a.tmps).run P w = .ok (.tuple #[v, v2]) w := by
  have h1 := run_resultVar ha h
  have h2 := run_resultVar ha h2
  rw [results_eq, hr]
  simp [h1, h2]
/-- What is kept track of is forgotten. -/
theorem Cx.forget {m : List Nat} {L : List (Nat × Obj)} (h : Cx w0 G0 G w ⟨m, L⟩) : Cx w0 G0 G w ⟨m, []⟩ :=
  ⟨h.holds, h.os, h.tape, h.output, h.size, h.old', h.gle, h.fresh, fun _ h => (List.not_mem_nil h).elim, List.nodup_nil⟩
theorem Cx.down {L : List (Nat × Obj)} (h' : Cx w0 G0 G w ⟨[], L⟩) (hh : Holds G0 w0) : Cx w0 G0 G0 w :=
  have h := h'.forget
  ⟨fun b o hb => (h.old b (hh.lt hb)).trans (hh b o hb), h.os, h.tape, h.output, h.size, h.old', fun _ _ h => h, fun _ _ h => .inl h, fun _ h => (List.not_mem_nil h).elim, List.nodup_nil⟩
theorem endS {v v' : Value} {L : List (Nat × Obj)} (hC : Cx w0 G0 G w ⟨[], L⟩) (hh : Holds G0 w0) (hv : v = v') : (fun e w' => e = Ending.returned v' ∧ Cx w0 G0 G0 w') (.returned v) w := ⟨by rw [hv], hC.down hh⟩
theorem endG {v : Value} {R : Gh → Value → Prop} {L : List (Nat × Obj)} (hC : Cx w0 G0 G w ⟨[], L⟩) (hR : R G v) : (fun e w' => ∃ v G', e = Ending.returned v ∧ Cx w0 G0 G' w' ∧ R G' v) (.returned v) w := ⟨v, G, rfl, hC.forget, hR⟩

/-! ### Loops by a measure -/
theorem wrInd {ι : Type} {c : Code} (μ : ι → Nat) (I : ι → Gh → World → Prop) (env : ι → Env)
    (h : ∀ i G w n, (∀ j G' w', I j G' w' → μ j < μ i → WR P Q N c n (env j) w') → I i G w → WC P (Exit.then (Code.rounds P c Q n) Q) N c (env i) w) :
    ∀ i G w, I i G w → WC P Q N (.loop c) (env i) w := by
  have key : ∀ n i G w, μ i < n → I i G w → WR P Q N c n (env i) w := by
    intro n
    induction n with
    | zero => intro i G w hm _; omega
    | succ n ih =>
      intro i G w hm hi
      exact wrSucc (h i G w n (fun j G' w' hj hlt => ih j G' w' (by omega) hj) hi)
  intro i G w hi
  exact wcLoop (μ i + 1) (key _ i G w (by omega) hi)
theorem wcOf {y : Code} (h : WC P Q N y e w) : ∀ a, Fr N a e → y.wp P Q a w := h
theorem wrOf {c : Code} {n : Nat} (h : WR P Q N c n e w) : ∀ a, Fr N a e → Code.rounds P c Q n a w := h

end
end Go.Gx
