/- Literals of slices and structs, slices of slices, and append as operations. No condition. -/
import Derived.Test.YtljcgggflgbenaaGreatDoorGxOwn
set_option linter.all false
namespace Go.Gx
open Go Go.RowKit
variable {M : Mu}

theorem foldl_set (off : Nat) : ∀ (r A B C : List Value) (j : Nat) (cs : Array Value), cs.toList = A ++ B ++ C → A.length = off + j → B.length = r.length →
    ((r.zipIdx j).foldl (fun cs (p : Value × Nat) => cs.setIfInBounds (off + p.2) p.1) cs).toList = A ++ r ++ C
  | [], A, B, C, j, cs, h, hA, hB => by
    have : B = [] := List.length_eq_zero_iff.1 (by simpa using hB)
    subst this
    simpa using h
  | x :: r, A, B, C, j, cs, h, hA, hB => by
    cases B with
    | nil => simp at hB
    | cons b B =>
      have h2 : (cs.setIfInBounds (off + j) x).toList = (A ++ [x]) ++ B ++ C := by
        rw [Array.toList_setIfInBounds, h, List.append_assoc, List.append_assoc, ← hA]
        rw [List.set_append_right _ _ (Nat.le_refl _)]
        simp
      have ih := foldl_set off r (A ++ [x]) B C (j + 1) (cs.setIfInBounds (off + j) x) h2 (by simp [hA]; omega) (by simpa using hB)
      simp only [List.zipIdx_cons, List.foldl_cons]
      rw [ih]
      simp
theorem fold_cells (off : Nat) (v : Value) (A B C : List Value) (cs : Array Value) (h : cs.toList = A ++ B ++ C) (hA : A.length = off) (hB : B.length = v.cells.size) :
    v.cells.zipIdx.foldl (fun cs (p : Value × Nat) => cs.setIfInBounds (off + p.2) p.1) cs = (A ++ v.cells.toList ++ C).toArray := by
  apply Array.ext'
  rw [← Array.foldl_toList]
  have := foldl_set off v.cells.toList A B C 0 cs h (by simpa using hA) (by simpa using hB)
  simpa using this

/-- The parts of a literal, laid one behind the other from the k-th place on. -/
theorem fill_consec {sz : Nat} {place : Nat → Option (Nat × Nat)} (hp : ∀ i, place i = some (i * sz, sz)) : ∀ (ps : List (Nat × Value)) (k : Nat) (cs : Array Value) (A B : List Value),
    cs.toList = A ++ B → A.length = k * sz → B.length = ps.length * sz → ps.map (·.1) = List.range' k ps.length → (∀ p ∈ ps, p.2.cells.size = sz) →
    Instr.fill place cs ps = some (A ++ (ps.map (fun p => p.2.cells.toList)).flatten).toArray
  | [], k, cs, A, B, h, hA, hB, _, _ => by
    have : B = [] := List.length_eq_zero_iff.1 (by simpa using hB)
    subst this
    simp only [Instr.fill, List.map_nil, List.flatten_nil, List.append_nil]
    rw [List.append_nil] at h
    rw [← h]
  | (i, v) :: ps, k, cs, A, B, h, hA, hB, hi, hz => by
    simp only [List.map_cons, List.length_cons, List.range'_succ, List.cons.injEq] at hi
    obtain ⟨rfl, hi⟩ := hi
    have hv := hz (i, v) (by simp)
    simp only at hv
    have hsz : cs.size = i * sz + (ps.length + 1) * sz := by
      have := congrArg List.length h
      simp only [Array.length_toList, List.length_append, hA, hB, List.length_cons] at this
      exact this
    have hB2 : B.length = sz + ps.length * sz := by rw [hB]; simp [Nat.add_mul, Nat.add_comm]
    unfold Instr.fill
    rw [hp i]
    simp only []
    rw [if_neg (by rw [hv, hsz, Nat.add_mul, Nat.one_mul]; simp)]
    have h3 := fold_cells (i * sz) v A (B.take sz) (B.drop sz) cs (by rw [h, List.append_assoc, List.take_append_drop]) hA (by rw [hv, List.length_take]; omega)
    rw [h3]
    rw [fill_consec hp ps (i + 1) _ (A ++ v.cells.toList) (B.drop sz) (by simp) (by simp [hA, hv, Nat.add_mul]) (by simp; omega) hi (fun p hp' => hz p (by simp [hp']))]
    simp

section
variable {P : Program} {ops : Array Oper} {Q : Exit → Act → World → Prop} {N : Nat} {e : Env} {w w0 : World} {G0 G : Gh} {rest : List Oper} {d : Option Tmp} {ty : TypeId} {pos : String} {af : Array Edge} {bl : List Bx} {gd : Option (Nat × Bool)}

theorem Fr.parts {a : Act} (h : Fr N a e) : ∀ {ps : List (Nat × Operand)} {vs : List Value}, opvs e (ps.map (·.2)) = some vs → (ps.toArray.map fun (p : Nat × Operand) => (p.1, a.eval p.2)).toList = (ps.map (·.1)).zip vs
  | [], vs, hv => by simp [opvs] at hv; subst hv; simp
  | (i, x) :: ps, vs, hv => by
    simp only [List.map_cons, opvs] at hv
    cases hx : opv e x with
    | none => simp [hx] at hv
    | some v =>
      cases hr : opvs e (ps.map (·.2)) with
      | none => simp [hx, hr] at hv
      | some us =>
        simp [hx, hr] at hv
        subst hv
        have := h.parts hr
        simp only [List.map_toArray] at this ⊢
        simp [h.eval hx, this]

theorem opvs_len : ∀ {xs : List Operand} {vs : List Value}, opvs e xs = some vs → vs.length = xs.length
  | [], vs, h => by simp [opvs] at h; subst h; rfl
  | x :: r, vs, h => by
    simp only [opvs] at h
    cases hx : opv e x with
    | none => simp [hx] at h
    | some v =>
      cases hr : opvs e r with
      | none => simp [hx, hr] at h
      | some us => simp [hx, hr] at h; subst h; simp [opvs_len hr]

theorem run_buildSlice {t el sz bytes n : Nat} {ps : List (Nat × Value)} {rows : List (List Value)} (he : elemOk P t el sz bytes = true) (hsz : 0 < sz) (hn : ps.length = n) (hsm : n * sz ≤ 16777216) (hi : ps.map (·.1) = List.range' 0 n)
    (hr : ps.map (fun p => p.2.cells.toList) = rows) (hrl : ∀ r ∈ rows, r.length = sz) :
    (Instr.buildSlice t n ps.toArray).run P w = .ok (.slice (some ⟨w.heap.size, 0, none⟩) n n) (w.alloc (.cells rows.flatten.toArray el)) := by
  obtain ⟨ht, i, z, hi', hz, hs, hby, hzs⟩ := elemOk_of he
  have hps : ∀ p ∈ ps, p.2.cells.size = sz := by
    intro p hp
    have := hrl p.2.cells.toList (by rw [← hr]; exact List.mem_map_of_mem hp)
    simpa using this
  have hfill : ∀ (cs : Array Value), cs.size = n * sz → Instr.fill (fun i => some (i * sz, sz)) cs ps = some rows.flatten.toArray := by
    intro cs hcs
    have := fill_consec (sz := sz) (place := fun i => some (i * sz, sz)) (fun _ => rfl) ps 0 cs [] cs.toList (by simp) (by simp) (by simp [hcs, hn]) (by rw [hn]; exact hi) hps
    rw [this, hr]
    simp
  have h24 : ¬ (16777216 < n * sz) := by omega
  unfold Instr.buildSlice
  simp only [Sem.run_bind, run_underlying ht, Result.andThen_ok, sizeOf, typeInfo, run_program, hi', hs]
  by_cases hz0 : n * sz = 0
  · have hf := hfill #[] (by simp [hz0])
    have h0 : Array.range 0 = #[] := rfl
    simp [hi', hs, h24, hz0, hf, newRow, newObj, h0]
    rfl
  · have hf := hfill ((Array.range (n * sz)).map (fun i => z.cells[i % z.cells.size]!)) (by simp)
    simp [hi', hs, h24, hz0, hf, zeroValue, typeInfo, hz, newRow, newObj]
    rfl

/-- A slice literal, in a region that draws. -/
theorem drawBsl {α : Type} [Rp α] {a : Act} {R : Value → World → Prop} {t el n bytes : Nat} {ps : List (Nat × Operand)} {vs : List Value} {rows : List (List Value)} {xs : List α} (ha : Fr N a e) (he : elemOk P t el (Rp.sz α) bytes = true) (hsz : Nat.blt 0 (Rp.sz α) = true) (hsm : Nat.ble (n * Rp.sz α) 16777216 = true)
    (hh : Holds G w) (hi : ps.map (·.1) = List.range' 0 n) (hvs : opvs e (ps.map (·.2)) = some vs) (hrows : vs.map (fun v => v.cells.toList) = rows) (hR : Rows2 G rows xs)
    (h : ∀ b G' w', Cx w G G' w' → Sl G' (.slice (some ⟨b, 0, none⟩) n n) xs → R (.slice (some ⟨b, 0, none⟩) n n) w') :
    OpR P ⟨d, .buildSlice t n ps.toArray, ty, pos, af, gd⟩ a w R := by
  have hn : ps.length = n := by have := congrArg List.length hi; simpa using this
  have hvl := opvs_len hvs
  have hxl : xs.length = n := by rw [← hR.length, ← hrows, List.length_map, hvl, List.length_map, hn]
  have hrl : ∀ r ∈ rows, r.length = Rp.sz α := fun r hr => (hR.len r hr).1
  have hle := Nat.le_of_ble_eq_true hsm
  unfold OpR
  have hp := ha.parts hvs
  have hrun := run_buildSlice (P := P) (w := w) (ps := (ps.map (·.1)).zip vs) (rows := rows) (n := n) he (Nat.le_of_ble_eq_true hsz) (by simp [hvl, hn]) (by omega) (by rw [List.map_fst_zip (by simp [hvl])]; exact hi)
    (by rw [← hrows, ← List.map_snd_zip (l₁ := ps.map (·.1)) (l₂ := vs) (by simp [hvl]), List.map_map, List.map_snd_zip (by simp [hvl])]; rfl) hrl
  have hx : (execOp a.eval ⟨d, .buildSlice t n ps.toArray, ty, pos, af, gd⟩).run P w = .ok (.value (.slice (some ⟨w.heap.size, 0, none⟩) n n)) (w.alloc (.cells rows.flatten.toArray el)) := by
    have hpa : (ps.toArray.map fun (p : Nat × Operand) => (p.1, a.eval p.2)) = ((ps.map (·.1)).zip vs).toArray := Array.ext' (by rw [hp])
    simp only [execOp, Sem.run_bind]
    rw [show (Array.map (fun x : Nat × Operand => match x with | (i, x) => (i, a.eval x)) ps.toArray) = ((ps.map (·.1)).zip vs).toArray from hpa, hrun]
    rfl
  rw [hx]
  have hk := Cx.alloc hh (.cells rows.flatten.toArray el)
  have h1 : n ≤ n * Rp.sz α := Nat.le_mul_of_pos_right n (Nat.le_of_ble_eq_true hsz)
  have hO : Ow G (some (w.heap.size, el, rows.flatten)) el (.slice (some ⟨w.heap.size, 0, none⟩) n n) xs :=
    ⟨rows, ⟨hrl, rfl, 0, n, by rw [hR.length, hxl], by rw [hR.length, hxl]; exact Nat.le_refl _, by simp only [maxLen]; omega, by rw [flatten_len hrl, hR.length, hxl, Nat.zero_add], by rw [List.drop_zero, ← flatten_len hrl]; exact List.take_length⟩, hR⟩
  have hB1 := (Bxs.nil (M := {}) G w w.heap.size).push hh (Nat.le_refl _) (fun _ h => (List.not_mem_nil h).elim) el rows.flatten
  obtain ⟨G', k1, k2, _, k4⟩ := hO.freeze (bl := []) hk (Nat.le_refl _) hB1 (by rw [hxl]; unfold maxL; omega)
  exact h w.heap.size G' _ k2 k4
/-- A slice literal: it stays. -/
theorem wlBuildSlice {α : Type} [Rp α] {t el n bytes : Nat} {ps : List (Nat × Operand)} {vs : List Value} {rows : List (List Value)} {xs : List α} (he : elemOk P t el (Rp.sz α) bytes = true) (hsz : Nat.blt 0 (Rp.sz α) = true) (hsm : Nat.ble (n * Rp.sz α) 16777216 = true)
    (hC : Cx w0 G0 G w M) (hB : Bxs G w w0.heap.size bl M) (hi : ps.map (·.1) = List.range' 0 n) (hvs : opvs e (ps.map (·.2)) = some vs) (hrows : vs.map (fun v => v.cells.toList) = rows) (hR : Rows2 G rows xs) (hd : okD N d = true)
    (h : ∀ b G' w', Cx w G G' w' → Cx w0 G0 G' w' M → Bxs G' w' w0.heap.size bl M → Sl G' (.slice (some ⟨b, 0, none⟩) n n) xs → WL P ops Q N rest (e.putO d (.slice (some ⟨b, 0, none⟩) n n)) w') :
    WL P ops Q N (⟨d, .buildSlice t n ps.toArray, ty, pos, af, none⟩ :: rest) e w := by
  refine wlStep (R := fun v w' => ∃ b G', v = .slice (some ⟨b, 0, none⟩) n n ∧ Cx w G G' w' ∧ Sl G' (.slice (some ⟨b, 0, none⟩) n n) xs) hd (fun a ha => drawBsl ha he hsz hsm hC.holds hi hvs hrows hR fun b G' w' k1 k2 => ⟨b, G', rfl, k1, k2⟩) ?_
  rintro v w' ⟨b, G', rfl, k1, k2⟩
  exact h b G' w' k1 (hC.trans k1) (hB.ext k1) k2

/-- append, onto the first of the call's own slices. -/
theorem wlAppend {α : Type} [Rp α] {x y : Operand} {t el bytes : Nat} {rt : TypeId} {o : Option Bx} {v v2 : Value} {xs ys : List α} {r : List Bx} (he : elemOk P t el (Rp.sz α) bytes = true) (hC : Cx w0 G0 G w M) (hB : Bxs G w w0.heap.size (bl ++ (o.toList ++ r)) M)
    (hx : opv e x = some v) (hy : opv e y = some v2) (hO : Ow G o el v xs) (hS : Sl G v2 ys) (hb : xs.length + ys.length ≤ 1073741824) (hby : Nat.ble bytes 131072 = true) (hd : okD N d = true)
    (h : ∀ A cap o' w', Cx w0 G0 G w' M → Bxs G w' w0.heap.size (bl ++ (o'.toList ++ r)) M → Ow G o' el (.slice A (xs ++ ys).length cap) (xs ++ ys) → WL P ops Q N rest (e.putO d (.slice A (xs ++ ys).length cap)) w') :
    WL P ops Q N (⟨d, .call ⟨.builtin .append, #[x, y], #[t, t]⟩, rt, pos, af, none⟩ :: rest) e w := by
  have hby := Nat.le_of_ble_eq_true hby
  have hp : (bl ++ (o.toList ++ r)).Perm (o.toList ++ (bl ++ r)) := by
    rw [← List.append_assoc, ← List.append_assoc]; exact List.perm_append_comm.append_right r
  obtain ⟨v', o', w', hr, k1, k2, k3, _, _⟩ := run_append_ow (P := P) (ty := rt) he hC (Nat.le_refl _) hC.size (hB.perm hp) hO hS (by simp only [maxLen]; omega) (by
    calc (xs.length + ys.length) * bytes ≤ 1073741824 * 131072 := Nat.mul_le_mul hb hby
      _ = 140737488355328 := by decide)
  have hp' : (o'.toList ++ (bl ++ r)).Perm (bl ++ (o'.toList ++ r)) := by
    rw [← List.append_assoc, ← List.append_assoc]; exact List.perm_append_comm.append_right r
  obtain ⟨A, cap, rfl⟩ := k3.form
  refine wlStep (R := fun u w2 => u = .slice A (xs ++ ys).length cap ∧ w2 = w') hd (fun a ha => ?_) ?_
  · unfold OpR
    have : (execOp a.eval ⟨d, .call ⟨.builtin .append, #[x, y], #[t, t]⟩, rt, pos, af, none⟩).run P w = .ok (.value (.slice A (xs ++ ys).length cap)) w' := by
      simp only [execOp, resolve, Sem.run_bind, Sem.run_pure, Result.andThen_ok, invoke, builtin, List.map_toArray, List.map_cons, List.map_nil, ha.eval hx, ha.eval hy, hr]
    rw [this]; exact ⟨rfl, rfl⟩
  · rintro u w2 ⟨rfl, rfl⟩
    exact h A cap o' w2 k1 (k2.perm hp') k3

/-! ### Slices of slices -/
theorem Sl.take {α : Type} [Rp α] {A : Option Addr} {n cap h : Nat} {xs : List α} (hs : Sl G (.slice A n cap) xs) (hh : h ≤ xs.length) : Sl G (.slice A h cap) (xs.take h) := by
  obtain ⟨A', cap', e1, e2, e3, e4⟩ := hs
  injection e1 with e1 e1' e1''
  subst e1; subst e1''
  refine ⟨A, cap, by rw [List.length_take, Nat.min_eq_left hh], by rw [List.length_take]; omega, by rw [List.length_take]; omega, fun k x hk => ?_⟩
  rw [List.getElem?_take] at hk
  split at hk
  · exact e4 k x hk
  · cases hk
theorem Sl.capOf {α : Type} [Rp α] {A : Option Addr} {n cap h : Nat} {xs : List α} (hs : Sl G (.slice A n cap) xs) (hh : h ≤ xs.length) : h ≤ cap := by
  obtain ⟨A', cap', e1, e2, e3, e4⟩ := hs
  injection e1 with e1 e1' e1''
  omega
theorem Sl.drop {α : Type} [Rp α] {A : Option Addr} {n cap l : Nat} {xs : List α} (hs : Sl G (.slice A n cap) xs) (hl : l ≤ xs.length) : Sl G (.slice (if cap = l then A else A.map (·.add (l * Rp.sz α))) (n - l) (cap - l)) (xs.drop l) := by
  obtain ⟨A', cap', e1, e2, e3, e4⟩ := hs
  injection e1 with e1 e1' e1''
  subst e1; subst e1''
  refine ⟨_, cap - l, by rw [List.length_drop, e1'], by rw [List.length_drop]; omega, by rw [List.length_drop]; omega, fun k x hk => ?_⟩
  rw [List.getElem?_drop] at hk
  obtain ⟨b, o, row, rfl, h2, h3⟩ := e4 _ x hk
  have hlt : l + k < xs.length := (List.getElem?_eq_some_iff.1 hk).1
  rw [if_neg (by omega)]
  exact ⟨b, o + l * Rp.sz α, row, by rw [Option.map_some, Addr.add_mid], by rwa [Nat.add_assoc, ← Nat.add_mul], h3⟩
theorem opSliceTo {t el sz : Nat} {x y : Operand} {A : Option Addr} {n cap h : Nat} {k : IntKind} (ht : sliceOk P t el sz = true) (hx : opv e x = some (.slice A n cap)) (hy : opv e y = some (.int k (h : Int))) (hh : h ≤ cap) :
    OpVal P N e w ⟨d, .slice t x none (some y) none, ty, pos, af, gd⟩ (.slice A h cap) := fun a ha => by
  unfold sliceOk at ht
  rw [Bool.and_eq_true] at ht
  obtain ⟨h1, h2⟩ := ht
  revert h1
  split
  · rename_i e' hu
    intro h1
    rw [← Nat.eq_of_beq_eq_true h1] at hu
    cases hq : P.info? el with
    | none => simp [hq] at h2
    | some tinf =>
      have hb : (0 : Int) ≤ (h : Int) ∧ (h : Int) ≤ (cap : Int) := by omega
      have hA : (A.map fun x => x.add 0) = A := by cases A <;> simp [Addr.add]
      simp [execOp, ha.eval hx, ha.eval hy, Instr.sliceAt, Instr.slice, run_underlying hu, Instr.sliceBounds, Instr.sliceBound, asIntOf, hb, hh, sizeOf, typeInfo, hq, hA]
  · intro h; cases h
theorem opSliceFrom {t el sz : Nat} {x y : Operand} {A : Option Addr} {n cap l : Nat} {k : IntKind} (ht : sliceOk P t el sz = true) (hx : opv e x = some (.slice A n cap)) (hy : opv e y = some (.int k (l : Int))) (hh : l ≤ n) :
    OpVal P N e w ⟨d, .slice t x (some y) none none, ty, pos, af, gd⟩ (.slice (if cap = l then A else A.map (·.add (l * sz))) (n - l) (cap - l)) := fun a ha => by
  unfold sliceOk at ht
  rw [Bool.and_eq_true] at ht
  obtain ⟨h1, h2⟩ := ht
  revert h1
  split
  · rename_i e' hu
    intro h1
    rw [← Nat.eq_of_beq_eq_true h1] at hu
    cases hq : P.info? el with
    | none => simp [hq] at h2
    | some tinf =>
      rw [hq] at h2
      have hz := Nat.eq_of_beq_eq_true h2
      simp [execOp, ha.eval hx, ha.eval hy, Instr.sliceAt, Instr.slice, run_underlying hu, Instr.sliceBounds, Instr.sliceBound, asIntOf, hh, sizeOf, typeInfo, hq, hz]
  · intro h; cases h
/-! ### Struct literals, min, max -/
def buildCells (pl : List (Nat × Nat)) : List Value → List (Nat × List Value) → Option (List Value)
  | cs, [] => some cs
  | cs, (i, r) :: ps => match pl[i]? with
    | some (off, sz) => if r.length = sz ∧ off + sz ≤ cs.length then buildCells pl (cs.take off ++ r ++ cs.drop (off + sz)) ps else none
    | none => none
def structOk (P : Program) (t : Nat) (pl : List (Nat × Nat)) : Bool :=
  match P.underlying t with
  | some (.struct fs) => fs.toList.map (fun f => (f.offset, (P.info? f.type).map (·.size))) == pl.map (fun p => (p.1, some p.2))
  | _ => false
theorem fill_of {pl : List (Nat × Nat)} : ∀ (ps : List (Nat × Value)) (cs cs' : List Value), buildCells pl cs (ps.map fun p => (p.1, p.2.cells.toList)) = some cs' → Instr.fill (fun i => pl[i]?) cs.toArray ps = some cs'.toArray
  | [], cs, cs', h => by simp [buildCells] at h; subst h; rfl
  | (i, v) :: ps, cs, cs', h => by
    simp only [List.map_cons, buildCells] at h
    unfold Instr.fill
    cases hp : pl[i]? with
    | none => simp [hp] at h
    | some q =>
      obtain ⟨off, sz⟩ := q
      rw [hp] at h
      simp only [Array.length_toList] at h
      split at h
      · rename_i hc
        simp only []
        rw [if_neg (by simp; omega)]
        have := fold_cells off v (cs.take off) ((cs.drop off).take sz) (cs.drop (off + sz)) cs.toArray (by
          rw [List.append_assoc, ← List.drop_drop, List.take_append_drop, List.take_append_drop]) (by simp; omega) (by simp; omega)
        rw [this]
        exact fill_of ps _ cs' h
      · cases h
theorem opBuild {t : Nat} {pl : List (Nat × Nat)} {ps : List (Nat × Operand)} {vs : List Value} {rows : List (Nat × List Value)} {z cs : List Value} (hs : structOk P t pl = true) (hz : (P.info? t).bind (fun i => i.zero.map Value.cells) = some z.toArray)
    (hvs : opvs e (ps.map (·.2)) = some vs) (hr : ((ps.map (·.1)).zip vs).map (fun p => (p.1, p.2.cells.toList)) = rows) (hb : buildCells pl z rows = some cs) :
    OpVal P N e w ⟨d, .build t ps.toArray, ty, pos, af, gd⟩ (.agg cs.toArray) := fun a ha => by
  have hp := ha.parts hvs
  have hpa : (ps.toArray.map fun (p : Nat × Operand) => (p.1, a.eval p.2)) = ((ps.map (·.1)).zip vs).toArray := Array.ext' (by rw [hp])
  subst hr
  have hf := fill_of _ z cs hb
  unfold structOk at hs
  revert hs
  split
  · rename_i fs hu
    intro hs
    simp only [beq_iff_eq] at hs
    cases hq : P.info? t with
    | none => simp [hq] at hz
    | some i =>
      cases hzz : i.zero with
      | none => simp [hq, hzz] at hz
      | some zv =>
        simp [hq, hzz] at hz
        have hmap : ∀ (l : List Field) (pl : List (Nat × Nat)), l.map (fun f => (f.offset, (P.info? f.type).map (·.size))) = pl.map (fun p => (p.1, some p.2)) →
            (l.mapM (fun f => Prod.mk f.offset <$> sizeOf f.type)).run P w = .ok pl w := by
          intro l
          induction l with
          | nil => intro pl h; cases pl <;> simp at h ⊢
          | cons f l ih =>
            intro pl h
            cases pl with
            | nil => simp at h
            | cons q pl =>
              simp only [List.map_cons, List.cons.injEq, Prod.mk.injEq] at h
              obtain ⟨⟨h1, h2⟩, h3⟩ := h
              have h4 := sizeOf_of h2 w
              simp [List.mapM_cons, h4, ih pl h3, h1]
        have hm := hmap fs.toList pl hs
        have hget : (fun i : Nat => pl.toArray[i]?) = (fun i : Nat => pl[i]?) := by funext i; simp
        have hrun : (Instr.build t ((ps.map (·.1)).zip vs).toArray).run P w = .ok (.agg cs.toArray) w := by
          unfold Instr.build
          simp only [Sem.run_bind, zeroValue, typeInfo, run_program, Result.andThen_ok, hq, hzz, Sem.run_pure, run_underlying hu, Array.mapM_eq_mapM_toList]
          simp [hm, hget, hz, hf]
        simp only [execOp, Sem.run_bind]
        rw [show (Array.map (fun x : Nat × Operand => match x with | (i, x) => (i, a.eval x)) ps.toArray) = ((ps.map (·.1)).zip vs).toArray from hpa, hrun]
        rfl
  · intro h; cases h
end
end Go.Gx
