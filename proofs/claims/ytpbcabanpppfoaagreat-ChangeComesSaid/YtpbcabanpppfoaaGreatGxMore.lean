/- Literals of slices and structs, slices of slices, and append as operations. No condition. -/
import Derived.Test.YtpbcabanpppfoaaGreatGxOwn
set_option linter.all false
namespace Go.Gx
open Go Go.RowKit
variable {M : Mu}

theorem foldl_set (off : Nat) : ∀ (r A B C : List Value) (j : Nat) (cs : Array Value), cs.toList = A ++ B ++ C → A.length = off + j → B.length = r.length →
    ((r.zipIdx j).foldl (fun cs (p : Value × Nat) => cs.setIfInBounds (off + p.2) p.1) cs).toList = A ++ r ++ C
  | [], A, B, C, j, cs, h, hA, hB => by
    have : B = [] := List.length_eq_zero_iff.1 (by simpa using hB)
    subst this
    simpa using h
  | x :: r, A, B, C, j, cs, h, hA, hB => by
    cases B with
    | nil => simp at hB
    | cons b B =>
      have h2 : (cs.setIfInBounds (off + j) x).toList = (A ++ [x]) ++ B ++ C := by
        rw [Array.toList_setIfInBounds, h, List.append_assoc, List.append_assoc, ← hA]
        rw [List.set_append_right _ _ (Nat.le_refl _)]
        simp
      have ih := foldl_set off r (A ++ [x]) B C (j + 1) (cs.setIfInBounds (off + j) x) h2 (by simp [hA]; omega) (by simpa using hB)
      simp only [List.zipIdx_cons, List.foldl_cons]
      rw [ih]
      simp
theorem fold_cells (off : Nat) (v : Value) (A B C : List Value) (cs : Array Value) (h : cs.toList = A ++ B ++ C) (hA : A.length = off) (hB : B.length = v.cells.size) :
    v.cells.zipIdx.foldl (fun cs (p : Value × Nat) => cs.setIfInBounds (off + p.2) p.1) cs = (A ++ v.cells.toList ++ C).toArray := by
  apply Array.ext'
  rw [← Array.foldl_toList]
  have := foldl_set off v.cells.toList A B C 0 cs h (by simpa using hA) (by simpa using hB)
  simpa using this

/-- The parts of a literal, laid one behind the other from the k-th place on. -/
theorem fill_consec {sz : Nat} {place : Nat → Option (Nat × Nat)} (hp : ∀ i, place i = some (i * sz, sz)) : ∀ (ps : List (Nat × Value)) (k : Nat) (cs : Array Value) (A B : List Value),
    cs.toList = A ++ B → A.length = k * sz → B.length = ps.length * sz → ps.map (·.1) = List.range' k ps.length → (∀ p ∈ ps, p.2.cells.size = sz) →
    Instr.fill place cs ps = some (A ++ (ps.map (fun p => p.2.cells.toList)).flatten).toArray
  | [], k, cs, A, B, h, hA, hB, _, _ => by
    have : B = [] := List.length_eq_zero_iff.1 (by simpa using hB)
    subst this
    simp only [Instr.fill, List.map_nil, List.flatten_nil, List.append_nil]
    rw [List.append_nil] at h
    rw [← h]
  | (i, v) :: ps, k, cs, A, B, h, hA, hB, hi, hz => by
    simp only [List.map_cons, List.length_cons, List.range'_succ, List.cons.injEq] at hi
    obtain ⟨rfl, hi⟩ := hi
    have hv := hz (i, v) (by simp)
    simp only at hv
    have hsz : cs.size = i * sz + (ps.length + 1) * sz := by
      have := congrArg List.length h
      simp only [Array.length_toList, List.length_append, hA, hB, List.length_cons] at this
      exact this
    have hB2 : B.length = sz + ps.length * sz := by rw [hB]; simp [Nat.add_mul, Nat.add_comm]
    unfold Instr.fill
    rw [hp i]
    simp only []
    rw [if_neg (by rw [hv, hsz, Nat.add_mul, Nat.one_mul]; simp)]
    have h3 := fold_cells (i * sz) v A (B.take sz) (B.drop sz) cs (by rw [h, List.append_assoc, List.take_append_drop]) hA (by rw [hv, List.length_take]; omega)
    rw [h3]
    rw [fill_consec hp ps (i + 1) _ (A ++ v.cells.toList) (B.drop sz) (by simp) (by simp [hA, hv, Nat.add_mul]) (by simp; omega) hi (fun p hp' => hz p (by simp [hp']))]
    simp

section
variable {P : Program} {ops : Array Oper} {Q : Exit → Act → World → Prop} {N : Nat} {e : Env} {w w0 : World} {G0 G : Gh} {rest : List Oper} {d : Option Tmp} {ty : TypeId} {pos : String} {af : Array Edge} {bl : List Bx} {gd : Option (Nat × Bool)}

theorem Fr.parts {a : Act} (h : Fr N a e) : ∀ {ps : List (Nat × Operand)} {vs : List Value}, opvs e (ps.map (·.2)) = some vs → (ps.toArray.map fun (p : Nat × Operand) => (p.1, a.eval p.2)).toList = (ps.map (·.1)).zip vs
  | [], vs, hv => by simp [opvs] at hv; subst hv; simp
  | (i, x) :: ps, vs, hv => by
    simp only [List.map_cons, opvs] at hv
    cases hx : opv e x with
    | none => simp [hx] at hv
    | some v =>
      cases hr : opvs e (ps.map (·.2)) with
      | none => simp [hx, hr] at hv
      | some us =>
        simp [hx, hr] at hv
        subst hv
        have := h.parts hr
        simp only [List.map_toArray] at this ⊢
        simp [h.eval hx, this]

theorem opvs_len : ∀ {xs : List Operand} {vs : List Value}, opvs e xs = some vs → vs.length = xs.length
  | [], vs, h => by simp [opvs] at h; subst h; rfl
  | x :: r, vs, h => by
    simp only [opvs] at h
    cases hx : opv e x with
    | none => simp [hx] at h
    | some v =>
      cases hr : opvs e r with
      | none => simp [hx, hr] at h
      | some us => simp [hx, hr] at h; subst h; simp [opvs_len hr]

theorem run_buildSlice {t el sz bytes n : Nat} {ps : List (Nat × Value)} {rows : List (List Value)} (he : elemOk P t el sz bytes = true) (hsz : 0 < sz) (hn : ps.length = n) (hsm : n * sz ≤ 16777216) (hi : ps.map (·.1) = List.range' 0 n)
    (hr : ps.map (fun p => p.2.cells.toList) = rows) (hrl : ∀ r ∈ rows, r.length = sz) :
    (Instr.buildSlice t n ps.toArray).run P w = .ok (.slice (some ⟨w.heap.size, 0, none⟩) n n) (w.alloc (.cells rows.flatten.toArray el)) := by
  obtain ⟨ht, i, z, hi', hz, hs, hby, hzs⟩ := elemOk_of he
  have hps : ∀ p ∈ ps, p.2.cells.size = sz := by
    intro p hp
    have := hrl p.2.cells.toList (by rw [← hr]; exact List.mem_map_of_mem hp)
    simpa using this
  have hfill : ∀ (cs : Array Value), cs.size = n * sz → Instr.fill (fun i => some (i * sz, sz)) cs ps = some rows.flatten.toArray := by
    intro cs hcs
    have := fill_consec (sz := sz) (place := fun i => some (i * sz, sz)) (fun _ => rfl) ps 0 cs [] cs.toList (by simp) (by simp) (by simp [hcs, hn]) (by rw [hn]; exact hi) hps
    rw [this, hr]
    simp
  have h24 : ¬ (16777216 < n * sz) := by omega
  unfold Instr.buildSlice
  simp only [Sem.run_bind, run_underlying ht, Result.andThen_ok, sizeOf, typeInfo, run_program, hi', hs]
  by_cases hz0 : n * sz = 0
  · have hf := hfill #[] (by simp [hz0])
    have h0 : Array.range 0 = #[] := rfl
    simp [hi', hs, h24, hz0, hf, newRow, newObj, h0]
    rfl
  · have hf := hfill ((Array.range (n * sz)).map (fun i => z.cells[i % z.cells.size]!)) (by simp)
    simp [hi', hs, h24, hz0, hf, zeroValue, typeInfo, hz, newRow, newObj]
    rfl

/-! ### Slices of slices -/
theorem Sl.take {α : Type} [Rp α] {A : Option Addr} {n cap h : Nat} {xs : List α} (hs : Sl G (.slice A n cap) xs) (hh : h ≤ xs.length) : Sl G (.slice A h cap) (xs.take h) := by
  obtain ⟨A', cap', e1, e2, e3, e4⟩ := hs
  injection e1 with e1 e1' e1''
  subst e1; subst e1''
  refine ⟨A, cap, by rw [List.length_take, Nat.min_eq_left hh], by rw [List.length_take]; omega, by rw [List.length_take]; omega, fun k x hk => ?_⟩
  rw [List.getElem?_take] at hk
  split at hk
  · exact e4 k x hk
  · cases hk
theorem Sl.capOf {α : Type} [Rp α] {A : Option Addr} {n cap h : Nat} {xs : List α} (hs : Sl G (.slice A n cap) xs) (hh : h ≤ xs.length) : h ≤ cap := by
  obtain ⟨A', cap', e1, e2, e3, e4⟩ := hs
  injection e1 with e1 e1' e1''
  omega
theorem Sl.drop {α : Type} [Rp α] {A : Option Addr} {n cap l : Nat} {xs : List α} (hs : Sl G (.slice A n cap) xs) (hl : l ≤ xs.length) : Sl G (.slice (if cap = l then A else A.map (·.add (l * Rp.sz α))) (n - l) (cap - l)) (xs.drop l) := by
  obtain ⟨A', cap', e1, e2, e3, e4⟩ := hs
  injection e1 with e1 e1' e1''
  subst e1; subst e1''
  refine ⟨_, cap - l, by rw [List.length_drop, e1'], by rw [List.length_drop]; omega, by rw [List.length_drop]; omega, fun k x hk => ?_⟩
  rw [List.getElem?_drop] at hk
  obtain ⟨b, o, row, rfl, h2, h3⟩ := e4 _ x hk
  have hlt : l + k < xs.length := (List.getElem?_eq_some_iff.1 hk).1
  rw [if_neg (by omega)]
  exact ⟨b, o + l * Rp.sz α, row, by rw [Option.map_some, Addr.add_mid], by rwa [Nat.add_assoc, ← Nat.add_mul], h3⟩
/-! ### Struct literals, min, max -/
def buildCells (pl : List (Nat × Nat)) : List Value → List (Nat × List Value) → Option (List Value)
  | cs, [] => some cs
  | cs, (i, r) :: ps => match pl[i]? with
    | some (off, sz) => if r.length = sz ∧ off + sz ≤ cs.length then buildCells pl (cs.take off ++ r ++ cs.drop (off + sz)) ps else none
    | none => none
def structOk (P : Program) (t : Nat) (pl : List (Nat × Nat)) : Bool :=
  match P.underlying t with
  | some (.struct fs) => fs.toList.map (fun f => (f.offset, (P.info? f.type).map (·.size))) == pl.map (fun p => (p.1, some p.2))
  | _ => false
theorem fill_of {pl : List (Nat × Nat)} : ∀ (ps : List (Nat × Value)) (cs cs' : List Value), buildCells pl cs (ps.map fun p => (p.1, p.2.cells.toList)) = some cs' → Instr.fill (fun i => pl[i]?) cs.toArray ps = some cs'.toArray
  | [], cs, cs', h => by simp [buildCells] at h; subst h; rfl
  | (i, v) :: ps, cs, cs', h => by
    simp only [List.map_cons, buildCells] at h
    unfold Instr.fill
    cases hp : pl[i]? with
    | none => simp [hp] at h
    | some q =>
      obtain ⟨off, sz⟩ := q
      rw [hp] at h
      simp only [Array.length_toList] at h
      split at h
      · rename_i hc
        simp only []
        rw [if_neg (by simp; omega)]
        have := fold_cells off v (cs.take off) ((cs.drop off).take sz) (cs.drop (off + sz)) cs.toArray (by
          rw [List.append_assoc, ← List.drop_drop, List.take_append_drop, List.take_append_drop]) (by simp; omega) (by simp; omega)
        rw [this]
        exact fill_of ps _ cs' h
      · cases h
theorem opBuild {t : Nat} {pl : List (Nat × Nat)} {ps : List (Nat × Operand)} {vs : List Value} {rows : List (Nat × List Value)} {z cs : List Value} (hs : structOk P t pl = true) (hz : (P.info? t).bind (fun i => i.zero.map Value.cells) = some z.toArray)
    (hvs : opvs e (ps.map (·.2)) = some vs) (hr : ((ps.map (·.1)).zip vs).map (fun p => (p.1, p.2.cells.toList)) = rows) (hb : buildCells pl z rows = some cs) :
    OpVal P N e w ⟨d, .build t ps.toArray, ty, pos, af, gd⟩ (.agg cs.toArray) := fun a ha => by
  have hp := ha.parts hvs
  have hpa : (ps.toArray.map fun (p : Nat × Operand) => (p.1, a.eval p.2)) = ((ps.map (·.1)).zip vs).toArray := Array.ext' (by rw [hp])
  subst hr
  have hf := fill_of _ z cs hb
  unfold structOk at hs
  revert hs
  split
  · rename_i fs hu
    intro hs
    simp only [beq_iff_eq] at hs
    cases hq : P.info? t with
    | none => simp [hq] at hz
    | some i =>
      cases hzz : i.zero with
      | none => simp [hq, hzz] at hz
      | some zv =>
        simp [hq, hzz] at hz
        have hmap : ∀ (l : List Field) (pl : List (Nat × Nat)), l.map (fun f => (f.offset, (P.info? f.type).map (·.size))) = pl.map (fun p => (p.1, some p.2)) →
            (l.mapM (fun f => Prod.mk f.offset <$> sizeOf f.type)).run P w = .ok pl w := by
          intro l
          induction l with
          | nil => intro pl h; cases pl <;> simp at h ⊢
          | cons f l ih =>
            intro pl h
            cases pl with
            | nil => simp at h
            | cons q pl =>
              simp only [List.map_cons, List.cons.injEq, Prod.mk.injEq] at h
              obtain ⟨⟨h1, h2⟩, h3⟩ := h
              have h4 := sizeOf_of h2 w
              simp [List.mapM_cons, h4, ih pl h3, h1]
        have hm := hmap fs.toList pl hs
        have hget : (fun i : Nat => pl.toArray[i]?) = (fun i : Nat => pl[i]?) := by funext i; simp
        have hrun : (Instr.build t ((ps.map (·.1)).zip vs).toArray).run P w = .ok (.agg cs.toArray) w := by
          unfold Instr.build
          simp only [Sem.run_bind, zeroValue, typeInfo, run_program, Result.andThen_ok, hq, hzz, Sem.run_pure, run_underlying hu, Array.mapM_eq_mapM_toList]
          simp [hm, hget, hz, hf]
        simp only [execOp, Sem.run_bind]
        rw [show (Array.map (fun x : Nat × Operand => match x with | (i, x) => (i, a.eval x)) ps.toArray) = ((ps.map (·.1)).zip vs).toArray from hpa, hrun]
        rfl
  · intro h; cases h
end
end Go.Gx

namespace Go.Gx
open Go Go.RowKit
variable {M : Mu}

def cmpB (a b : List UInt8) : Int := Extern.BytealgCompare.cmp ⟨a.toArray⟩ ⟨b.toArray⟩
section
variable {P : Program} {N : Nat} {e : Env} {w : World} {G : Gh} {d : Option Tmp} {ty : TypeId} {pos : String} {af : Array Edge} {gd : Option (Nat × Bool)}
theorem run_loadBytes8 : ∀ (l : List UInt8) (b o : Nat) (acc : ByteArray), (∀ j x, l[j]? = some x → w.cell? ⟨b, o + j, none⟩ = some (.int .u8 (x.toNat : Int))) →
    (Extern.Bytes.loadBytes ⟨b, o, none⟩ l.length acc).run P w = .ok ⟨acc.data ++ l.toArray⟩ w
  | [], b, o, acc, _ => by simp [Extern.Bytes.loadBytes]
  | x :: l, b, o, acc, h => by
    have h0 : w.cell? ⟨b, o, none⟩ = some (.int .u8 (x.toNat : Int)) := by simpa using h 0 x rfl
    have ih := run_loadBytes8 l b (o + 1) (acc.push x) (fun j y hy => by rw [Nat.add_assoc, Nat.add_comm 1 j]; exact h (j + 1) y (by simpa using hy))
    have hx : (x.toNat : Int).toNat.toUInt8 = x := by simp
    simp only [List.length_cons, Extern.Bytes.loadBytes, Sem.run_bind, run_load, h0, Result.andThen_ok, Addr.add_mid]
    rw [hx, ih]
    congr 1
    apply ByteArray.ext
    simp [ByteArray.push]
theorem run_bytesOf {v : Value} {xs : List UInt8} (hh : Holds G w) (h : Sl G v xs) : (Extern.Bytes.bytesOf v).run P w = .ok ⟨xs.toArray⟩ w := by
  obtain ⟨A, cap, rfl, _, _, h4⟩ := h
  cases A with
  | none =>
    cases xs with
    | nil => simp [Extern.Bytes.bytesOf]; rfl
    | cons x xs => obtain ⟨b, o, row, hA, _⟩ := h4 0 x (by simp); cases hA
  | some a =>
    cases xs with
    | nil => simp [Extern.Bytes.bytesOf, Extern.Bytes.loadBytes]; rfl
    | cons x xs =>
      obtain ⟨b, o, row, hA, _⟩ := h4 0 x (by simp)
      injection hA with hA
      subst hA
      have := run_loadBytes8 (P := P) (w := w) (x :: xs) b o .empty (fun j y hy => by
        obtain ⟨b', o', row', hA', hr, his⟩ := h4 j y hy
        injection hA' with hA'
        injection hA' with e1 e2
        subst e1; subst e2
        have his : row' = [.int .u8 (y.toNat : Int)] := his
        subst his
        have := hr.range hh 0 (.int .u8 (y.toNat : Int)) rfl
        simpa [Rp.sz] using this)
      simp only [Extern.Bytes.bytesOf]
      rw [this]
      congr 1
      apply ByteArray.ext
      simp
theorem run_compare {v1 v2 : Value} {a b : List UInt8} (hh : Holds G w) (ha : Sl G v1 a) (hb : Sl G v2 b) : (Extern.BytealgCompare.compare #[v1, v2]).run P w = .ok (.int .i64 (cmpB a b)) w := by
  show (do pure (goInt (Extern.BytealgCompare.cmp (← Extern.Bytes.bytesOf v1) (← Extern.Bytes.bytesOf v2))) : Sem Value).run P w = _
  simp only [Sem.run_bind, run_bytesOf hh ha, run_bytesOf hh hb, Result.andThen_ok, Sem.run_pure]
  rfl
theorem run_part_row' {t off n : Nat} {cs r : List Value} (ht : rowOk P t n = true) (hr : (cs.drop off).take n = r) (w : World) : (part t cs.toArray off).run P w = .ok (.agg r.toArray) w := by
  rw [run_part_row ht]
  subst hr
  congr 2
  apply Array.ext'
  simp
theorem opIndexDig {t : Nat} {x y : Operand} {v : Dig} {i : Nat} {k : IntKind} (ht : bytes32 P t = true) (hx : opv e x = some (.agg v.cells.toArray)) (hy : opv e y = some (.int k (i : Int))) (hi : i < 32) :
    OpVal P N e w ⟨d, .index t x y, ty, pos, af, gd⟩ (.int .u8 ((v.l.getD i 0).toNat : Int)) := fun a ha => by
  unfold bytes32 at ht
  revert ht
  split
  · rename_i el hu
    intro ht
    rw [Bool.and_eq_true] at ht
    obtain ⟨h1, h2⟩ := ht
    have hue : P.underlying el = some (.int .u8) := by revert h1; split <;> simp_all
    cases hq : P.info? el with
    | none => simp [hq] at h2
    | some inf =>
      rw [hq] at h2
      have hz := Nat.eq_of_beq_eq_true h2
      have ho : oneOk P el = true := by simp [oneOk, hue]
      have hlt : i < v.l.length := by rw [v.h]; exact hi
      have hp := run_part_one (P := P) (t := el) (off := i) (cs := v.cells.toArray) (v := .int .u8 ((v.l.getD i 0).toNat : Int)) ho (by
        simp [Dig.cells, hlt]) w
      have hi' : ¬ 32 ≤ i := by omega
      simp [execOp, ha.eval hx, ha.eval hy, Instr.index, asIntOf, run_underlying hu, sizeOf, typeInfo, hq, hz, hp]
      intro h; exact absurd h hi'
  · intro h; cases h
theorem opMin {x y : Operand} {a b : Int} {ats : Array TypeId} {rt : TypeId} {k : IntKind} (hx : opv e x = some (.int k a)) (hy : opv e y = some (.int k b)) :
    OpVal P N e w ⟨d, .call ⟨.builtin .min, #[x, y], ats⟩, rt, pos, af, gd⟩ (.int k (min a b)) := fun s hs => by
  have h : (if b < a then b else a) = min a b := by split <;> omega
  simp only [execOp, resolve, Sem.run_bind, Sem.run_pure, Result.andThen_ok, invoke, builtin, List.map_toArray, List.map_cons, List.map_nil, hs.eval hx, hs.eval hy, run_min_int2, h]
/-- It is let stay, wherever it stands among the boxes. -/
theorem Ow.freeze' {α : Type} [Rp α] {w0 : World} {G0 : Gh} {n T : Nat} {o : Option Bx} {v : Value} {xs : List α} {bl r : List Bx} (h : Ow G o T v xs) (hC : Cx w0 G0 G w M) (hn : w0.heap.size ≤ n) (hB : Bxs G w n (bl ++ (o.toList ++ r)) M) (hm : xs.length ≤ maxL) (hmay : ∀ m ∈ M.may, m ∈ (bl ++ r).map (·.1) ∨ m ∈ M.held.map (·.1) := by simp) :
    ∃ G', GLe G G' ∧ Cx w0 G0 G' w M ∧ Bxs G' w n (bl ++ r) M ∧ Sl G' v xs :=
  h.freeze hC hn (hB.perm (by rw [← List.append_assoc, ← List.append_assoc]; exact List.perm_append_comm.append_right r)) hm hmay
end
end Go.Gx

namespace Go.Gx
open Go Go.RowKit
variable {M : Mu}
def arrOk (P : Program) (t len el sz : Nat) : Bool :=
  (match P.underlying t with | some (.array n e') => Nat.beq n len && Nat.beq el e' | _ => false) && (match P.info? el with | some i => Nat.beq i.size sz | none => false)
section
variable {P : Program} {N : Nat} {e : Env} {w : World} {d : Option Tmp} {ty : TypeId} {pos : String} {af : Array Edge} {gd : Option (Nat × Bool)}
theorem opIndexArr {t len el sz : Nat} {x y : Operand} {b o i : Nat} {k : IntKind} (hx : opv e x = some (.pointer (some ⟨b, o, none⟩))) (hy : opv e y = some (.int k (i : Int)))
    (ht : arrOk P t len el sz = true) (hi : i < len) : OpVal P N e w ⟨d, .indexAddr t x y, ty, pos, af, gd⟩ (.pointer (some ⟨b, o + i * sz, none⟩)) := fun a ha => by
  unfold arrOk at ht
  rw [Bool.and_eq_true] at ht
  obtain ⟨h1, h2⟩ := ht
  revert h1
  split
  · rename_i n e' hu
    intro h1
    rw [Bool.and_eq_true] at h1
    have h3 := Nat.eq_of_beq_eq_true h1.1
    have h4 := Nat.eq_of_beq_eq_true h1.2
    subst h3; subst h4
    cases hq : P.info? el with
    | none => simp [hq] at h2
    | some tinf =>
      rw [hq] at h2
      have hz := Nat.eq_of_beq_eq_true h2
      simp [execOp, ha.eval hx, ha.eval hy, Instr.indexAt, asIntOf, run_underlying hu, hi, sizeOf, typeInfo, hq, hz, Addr.add_mid, Instr.sureAddr]
  · intro h; cases h
theorem opRem {t yt : TypeId} {x y : Operand} {k : IntKind} {a b : Int} (hx : opv e x = some (.int k a)) (hy : opv e y = some (.int k b)) (h0 : b ≠ 0) :
    OpVal P N e w ⟨d, .binOp .rem t x y yt, ty, pos, af, gd⟩ (.int k (a.tmod b)) := opBin hx hy (by simp [binOp, Op.intDiv, h0])
def buildA (sz : Nat) : List Value → List (Nat × List Value) → Option (List Value)
  | cs, [] => some cs
  | cs, (i, r) :: ps => if r.length = sz ∧ i * sz + sz ≤ cs.length then buildA sz (cs.take (i * sz) ++ r ++ cs.drop (i * sz + sz)) ps else none
theorem fillA_of {sz : Nat} : ∀ (ps : List (Nat × Value)) (cs cs' : List Value), buildA sz cs (ps.map fun p => (p.1, p.2.cells.toList)) = some cs' → Instr.fill (fun i => some (i * sz, sz)) cs.toArray ps = some cs'.toArray
  | [], cs, cs', h => by simp [buildA] at h; subst h; rfl
  | (i, v) :: ps, cs, cs', h => by
    simp only [List.map_cons, buildA] at h
    unfold Instr.fill
    simp only [Array.length_toList] at h
    split at h
    · rename_i hc
      simp only []
      rw [if_neg (by simp; omega)]
      have := fold_cells (i * sz) v (cs.take (i * sz)) ((cs.drop (i * sz)).take sz) (cs.drop (i * sz + sz)) cs.toArray (by
        rw [List.append_assoc, ← List.drop_drop, List.take_append_drop, List.take_append_drop]) (by simp; omega) (by simp; omega)
      rw [this]
      exact fillA_of ps _ cs' h
    · cases h
theorem opBuildArr {t len el sz : Nat} {ps : List (Nat × Operand)} {vs : List Value} {rows : List (Nat × List Value)} {z cs : List Value} (ht : arrOk P t len el sz = true) (hz : (P.info? t).bind (fun i => i.zero.map Value.cells) = some z.toArray)
    (hvs : opvs e (ps.map (·.2)) = some vs) (hr : ((ps.map (·.1)).zip vs).map (fun p => (p.1, p.2.cells.toList)) = rows) (hb : buildA sz z rows = some cs) :
    OpVal P N e w ⟨d, .build t ps.toArray, ty, pos, af, gd⟩ (.agg cs.toArray) := fun a ha => by
  have hp := ha.parts hvs
  have hpa : (ps.toArray.map fun (p : Nat × Operand) => (p.1, a.eval p.2)) = ((ps.map (·.1)).zip vs).toArray := Array.ext' (by rw [hp])
  subst hr
  have hf := fillA_of _ z cs hb
  unfold arrOk at ht
  rw [Bool.and_eq_true] at ht
  obtain ⟨h1, h2⟩ := ht
  revert h1
  split
  · rename_i n e' hu
    intro h1
    rw [Bool.and_eq_true] at h1
    have h4 := Nat.eq_of_beq_eq_true h1.2
    subst h4
    cases hq : P.info? t with
    | none => simp [hq] at hz
    | some i =>
      cases hzz : i.zero with
      | none => simp [hq, hzz] at hz
      | some zv =>
        simp [hq, hzz] at hz
        cases hqe : P.info? el with
        | none => simp [hqe] at h2
        | some tinf =>
          rw [hqe] at h2
          have hzs := Nat.eq_of_beq_eq_true h2
          have hsz := sizeOf_of (P := P) (t := el) (n := sz) (by simp [hqe, hzs]) w
          simp [execOp, Instr.build, zeroValue, typeInfo, hq, hzz, run_underlying hu, hsz, hpa, hz, hf]
  · intro h; cases h
end
end Go.Gx
