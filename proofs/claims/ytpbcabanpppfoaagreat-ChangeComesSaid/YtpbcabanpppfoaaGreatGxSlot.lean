/- Boxes lent to a call; slices of an array within a box. No condition. -/
import Derived.Test.YtpbcabanpppfoaaGreatGxPtr
import Derived.Laws.Externs
import Derived.Orders
import Derived.Laws.MakeOwn
set_option linter.all false
namespace Go.Gx
open Go Go.RowKit
variable {M : Mu}
theorem ItO.mono {κ : Type} {enc : κ → Value} {o it : Obj} {b : Nat} {l : List κ} {G G' : Gh} (_ : GLe G G') (h : ItO enc o it b l) : ItO enc o it b l := h
section
variable {P : Program} {N : Nat} {e : Env} {w : World} {d : Option Tmp} {ty : TypeId} {pos : String} {af : Array Edge} {gd : Option (Nat × Bool)}
theorem opSliceArrO {t : Nat} {x : Operand} {b o : Nat} (ht : bytes32 P t = true) (hx : opv e x = some (.pointer (some ⟨b, o, none⟩))) : OpVal P N e w ⟨d, .slice t x none none none, ty, pos, af, gd⟩ (.slice (some ⟨b, o, none⟩) 32 32) := fun a ha => by
  unfold bytes32 at ht
  revert ht
  split
  · rename_i el hu
    intro ht
    rw [Bool.and_eq_true] at ht
    cases hq : P.info? el with
    | none => simp [hq] at ht
    | some tinf => simp [execOp, ha.eval hx, Instr.sliceAt, run_underlying hu, Instr.sureAddr, Instr.sliceBounds, sizeOf, typeInfo, hq, Addr.add]
  · intro h; cases h
end
section
variable {P : Program} {N : Nat} {e : Env} {w w0 : World} {G0 G : Gh} {d : Option Tmp} {ty : TypeId} {pos : String} {af : Array Edge} {gd : Option (Nat × Bool)} {bl : List Bx}
  {m : List Nat} {L : List (Nat × Obj)} {b i : Nat} {o o' : Obj} {x y z : Operand} {k v u : Value} {t : Nat} {a : Act} {R : Value → World → Prop}
end
end Go.Gx

namespace Go.Gx
open Go Go.RowKit
variable {M : Mu}
theorem sliceOk_of' {P : Program} {t el sz : Nat} (h : sliceOk P t el sz = true) : P.underlying t = some (.slice el) ∧ (P.info? el).map (·.size) = some sz := by
  unfold sliceOk at h
  rw [Bool.and_eq_true] at h
  obtain ⟨h1, h2⟩ := h
  constructor
  · revert h1
    split
    · rename_i e' hu; intro h1; rw [hu, Nat.eq_of_beq_eq_true h1]
    · intro h; cases h
  · cases hq : P.info? el with
    | none => simp [hq] at h2
    | some i => simp only [hq] at h2; simp [Nat.eq_of_beq_eq_true h2]
theorem loads_of {w : World} {b o : Nat} {row : List Value} (h : w.rangeAt b o row) : ∀ j v, row[j]? = some v → w.cell? ((⟨b, o, none⟩ : Addr).add j) = some v := by
  intro j v hj
  rw [Addr.add_mid]; exact h j v hj
theorem run_copy_rows {P : Program} (w : World) {dT sT ty elem sz : Nat} {g o dLen dCap b2 o2 sLen sCap : Nat} {cur row : List Value} {t : TypeId}
    (hs : sliceOk P dT elem sz = true) (hg : w.heap[g]? = some (.cells cur.toArray t (0, 0))) (hn : row.length = Nat.min sLen dLen * sz)
    (hsrc : w.rangeAt b2 o2 row) (hfit : o + row.length ≤ cur.length) (h1 : ∀ v ∈ row, v.oneCell' = true) :
    (Builtin.copy_ #[dT, sT] ty #[.slice (some ⟨g, o, none⟩) dLen dCap, .slice (some ⟨b2, o2, none⟩) sLen sCap]).run P w =
      .ok (goInt (Nat.min sLen dLen)) (w.setRow g (cur.take o ++ row ++ cur.drop (o + row.length)).toArray) := by
  obtain ⟨hu, hz⟩ := sliceOk_of' hs
  have hl := run_loadCells_list (P := P) w ⟨b2, o2, none⟩ row (loads_of hsrc)
  have hst := run_storeCells_at (P := P) g o t row 0 cur.toArray w hg (by simpa using hfit) h1
  cases hq : P.info? elem with
  | none => simp [hq] at hz
  | some i =>
    have hi : i.size = sz := by simpa [hq] using hz
    simp only [Nat.add_zero] at hst
    simp [Builtin.copy_, run_underlying hu, Builtin.lenOf, Builtin.firstCells, sizeOf, typeInfo, hq, hi, ← hn, hl, hst]
section
variable {P : Program} {ops : Array Oper} {Q : Exit → Act → World → Prop} {N : Nat} {e : Env} {w w0 : World} {G0 G : Gh} {rest : List Oper} {d : Option Tmp} {ty : TypeId} {pos : String} {af : Array Edge} {gd : Option (Nat × Bool)} {bl : List Bx}
theorem drawCopyB {a : Act} {R : Value → World → Prop} {x y : Operand} {t1 t2 rt el sz g T o n1 c1 b2 o2 n2 c2 : Nat} {cs cs' row : List Value} (ha : Fr N a e) (i : Nat) (hC : Cx w0 G0 G w M) (hB : Bxs G w w0.heap.size bl M) (hi : bl[i]? = some (g, T, cs))
    (hx : opv e x = some (.slice (some ⟨g, o, none⟩) n1 c1)) (hy : opv e y = some (.slice (some ⟨b2, o2, none⟩) n2 c2)) (hs : sliceOk P t1 el sz = true) (hsrc : w.rangeAt b2 o2 row) (hn : row.length = Nat.min n2 n1 * sz)
    (hfit : o + row.length ≤ cs.length) (h1 : ∀ v ∈ row, v.oneCell' = true) (he : cs.take o ++ row ++ cs.drop (o + row.length) = cs')
    (h : ∀ w', Cx w0 G0 G w' M → Bxs G w' w0.heap.size (bl.set i (g, T, cs')) M → R (goInt (Nat.min n2 n1)) w') :
    OpR P ⟨d, .call ⟨.builtin .copy, #[x, y], #[t1, t2]⟩, rt, pos, af, gd⟩ a w R := by
  have hg := hB.get hi
  have hr := run_copy_rows (P := P) (ty := rt) (sT := t2) (dCap := c1) (sCap := c2) w hs hg.1 hn hsrc hfit h1
  unfold OpR
  have : (execOp a.eval ⟨d, .call ⟨.builtin .copy, #[x, y], #[t1, t2]⟩, rt, pos, af, gd⟩).run P w = .ok (.value (goInt (Nat.min n2 n1))) (w.setRow g cs'.toArray) := by
    simp only [execOp, resolve, Sem.run_bind, Sem.run_pure, Result.andThen_ok, invoke, builtin, List.map_toArray, List.map_cons, List.map_nil, ha.eval hx, ha.eval hy, hr, he]
  rw [this]
  exact h _ (hC.setRow' hg.2.1 hg.2.2 (hB.off hi) _) (hB.set hi cs')
theorem wlCopyB {x y : Operand} {t1 t2 rt el sz g T o n1 c1 b2 o2 n2 c2 : Nat} {cs cs' row : List Value} (i : Nat) (hC : Cx w0 G0 G w M) (hB : Bxs G w w0.heap.size bl M) (hi : bl[i]? = some (g, T, cs))
    (hx : opv e x = some (.slice (some ⟨g, o, none⟩) n1 c1)) (hy : opv e y = some (.slice (some ⟨b2, o2, none⟩) n2 c2)) (hs : sliceOk P t1 el sz = true) (hsrc : w.rangeAt b2 o2 row) (hn : row.length = Nat.min n2 n1 * sz)
    (hfit : o + row.length ≤ cs.length) (h1 : ∀ v ∈ row, v.oneCell' = true) (he : cs.take o ++ row ++ cs.drop (o + row.length) = cs') (hd : okD N d = true)
    (h : ∀ w', Cx w0 G0 G w' M → Bxs G w' w0.heap.size (bl.set i (g, T, cs')) M → WL P ops Q N rest (e.putO d (goInt (Nat.min n2 n1))) w') :
    WL P ops Q N (⟨d, .call ⟨.builtin .copy, #[x, y], #[t1, t2]⟩, rt, pos, af, none⟩ :: rest) e w := by
  refine wlStep (R := fun v w' => v = goInt (Nat.min n2 n1) ∧ Cx w0 G0 G w' M ∧ Bxs G w' w0.heap.size (bl.set i (g, T, cs')) M) hd (fun a ha => drawCopyB ha i hC hB hi hx hy hs hsrc hn hfit h1 he fun w' k1 k2 => ⟨rfl, k1, k2⟩) ?_
  rintro v w' ⟨rfl, k1, k2⟩
  exact h w' k1 k2
end
section
variable {α : Type} [Rp α] {G : Gh}
theorem Rows2.drop : ∀ {rs : List (List Value)} {xs : List α}, Rows2 G rs xs → ∀ m, Rows2 G (rs.drop m) (xs.drop m)
  | [], [], _, m => by simp; trivial
  | r :: rs, x :: xs, h, 0 => h
  | r :: rs, x :: xs, h, m + 1 => Rows2.drop h.2 m
  | [], _ :: _, h, _ => h.elim
  | _ :: _, [], h, _ => h.elim
end
section
variable {cs rest2 : List Value} {rows : List (List Value)} {n i sz cap cap2 : Nat} {xc : List Value}
end
end Go.Gx

namespace Go.Gx
open Go Go.RowKit
variable {M : Mu}
section
variable {P : Program} {N : Nat} {e : Env} {w w0 : World} {G0 G : Gh} {d : Option Tmp} {ty : TypeId} {pos : String} {af : Array Edge} {gd : Option (Nat × Bool)} {bl r : List Bx}
end
section
variable {P : Program} {N : Nat} {e : Env} {w : World} {d : Option Tmp} {pos : String} {af : Array Edge} {gd : Option (Nat × Bool)}
theorem opMax {x y : Operand} {a b : Int} {ats : Array TypeId} {rt : TypeId} {k : IntKind} (hx : opv e x = some (.int k a)) (hy : opv e y = some (.int k b)) :
    OpVal P N e w ⟨d, .call ⟨.builtin .max, #[x, y], ats⟩, rt, pos, af, gd⟩ (.int k (max a b)) := fun s hs => by
  have h : (if a < b then b else a) = max a b := by split <;> omega
  simp only [execOp, resolve, Sem.run_bind, Sem.run_pure, Result.andThen_ok, invoke, builtin, List.map_toArray, List.map_cons, List.map_nil, hs.eval hx, hs.eval hy, run_max_int2, gt_iff_lt, h]
end
section
variable {P : Program} {N : Nat} {e : Env} {w w0 : World} {G0 G : Gh} {d : Option Tmp} {ty : TypeId} {pos : String} {af : Array Edge} {gd : Option (Nat × Bool)} {bl r : List Bx} {o : Option Bx}
end
section
variable {α : Type} [Rp α] {P : Program} {ops : Array Oper} {Q : Exit → Act → World → Prop} {N : Nat} {e : Env} {w w0 : World} {G0 G : Gh} {rest : List Oper} {d : Option Tmp} {ty : TypeId} {pos : String} {af : Array Edge} {bl r : List Bx}
end
/-- A field of a struct at hand. -/
def fieldIs (P : Program) (s i ft off : Nat) : Bool :=
  match P.underlying s with
  | some (.struct fs) => match fs[i]? with
    | some f => Nat.beq f.type ft && Nat.beq f.offset off
    | none => false
  | _ => false
section
variable {P : Program} {N : Nat} {e : Env} {w : World} {d : Option Tmp} {ty : TypeId} {pos : String} {af : Array Edge} {gd : Option (Nat × Bool)}
theorem run_field {s i ft off : Nat} {cs : Array Value} {v : Value} (hf : fieldIs P s i ft off = true) (h : (part ft cs off).run P w = .ok v w) : (Instr.field s (.agg cs) i).run P w = .ok v w := by
  unfold fieldIs at hf
  revert hf
  cases hu : P.underlying s with
  | none => intro h; cases h
  | some dd =>
    cases dd <;> (try (intro h; cases h; done))
    rename_i fs
    simp only []
    cases hfi : fs[i]? with
    | none => intro h; cases h
    | some f =>
      simp only [Bool.and_eq_true]
      rintro ⟨h1, h2⟩
      have h1 := Nat.eq_of_beq_eq_true h1
      have h2 := Nat.eq_of_beq_eq_true h2
      subst h1; subst h2
      simp [Instr.field, run_underlying hu, hfi, asAgg, h]
theorem opFieldRow {s i ft off n : Nat} {x : Operand} {cs r : List Value} (hx : opv e x = some (.agg cs.toArray)) (hf : fieldIs P s i ft off = true) (hr : rowOk P ft n = true) (hp : (cs.drop off).take n = r) :
    OpVal P N e w ⟨d, .field s x i, ty, pos, af, gd⟩ (.agg r.toArray) := fun a ha => by
  have := run_field (w := w) hf (run_part_row' hr hp w)
  simp [execOp, ha.eval hx, this]
theorem opFieldOne {s i ft off : Nat} {x : Operand} {cs : List Value} {v : Value} (hx : opv e x = some (.agg cs.toArray)) (hf : fieldIs P s i ft off = true) (hr : oneOk P ft = true) (hp : cs[off]? = some v) :
    OpVal P N e w ⟨d, .field s x i, ty, pos, af, gd⟩ v := fun a ha => by
  have := run_field (w := w) hf (run_part_one (cs := cs.toArray) hr (by simpa using hp) w)
  simp [execOp, ha.eval hx, this]
end
/-! ### Functions without results -/
theorem callsOfN {P : Program} {f : FuncId} {fn : Func} {c : Code} {args : Array Value} {w : World} {R : Ending → World → Prop}
    (hf : P.funcs[f]? = some fn) (hb : fn.body = some c) (N : Nat) (hN : fn.ntmps = N) (hle0 : Nat.ble args.size N = true) (e : Env) (he : ∀ t v, e t = some v → args[t]? = some v)
    (h : ∀ Q0 : Exit → Act → World → Prop, (∀ a w v, (results fn a.tmps).run P w = .ok v w → a.defers = [] → R (.returned v) w → Q0 .ret a w) →
      (∀ a w v, (results fn a.tmps).run P w = .ok v w → a.defers = [] → R (.returned v) w → Q0 .normal a w) → WC P Q0 N c e w) : Calls P f args w R := by
  have hle : args.size ≤ N := Nat.le_of_ble_eq_true hle0
  refine calls_of_wp hf hb (h _ (fun a w v h1 h2 h3 => ⟨h2, v, h1, h3⟩) (fun a w v h1 h2 h3 => ⟨h2, v, h1, h3⟩) _ ⟨?_, rfl, fun t v ht => ?_⟩)
  · simp; omega
  · have := he t v ht
    have hlt : t < args.size := by
      rcases Nat.lt_or_ge t args.size with h | h
      · exact h
      · rw [Array.getElem?_eq_none h] at this; cases this
    simp only []
    rw [Array.getElem?_append_left hlt]
    exact this
end Go.Gx

namespace Go.Gx
open Go Go.RowKit
section
variable {P : Program} {N : Nat} {e : Env} {w : World} {d : Option Tmp} {ty : TypeId} {pos : String} {af : Array Edge} {gd : Option (Nat × Bool)}
theorem opIndexStr {t : Nat} {x y : Operand} {s : ByteArray} {i m : Nat} {k : IntKind} (ht : P.underlying t = some .string) (hx : opv e x = some (.string s)) (hy : opv e y = some (.int k (i : Int))) (h : ∃ u, s[i]? = some u ∧ u.toNat = m) :
    OpVal P N e w ⟨d, .index t x y, ty, pos, af, gd⟩ (.int .u8 (m : Int)) := fun a ha => by
  obtain ⟨u, h1, h2⟩ := h
  simp [execOp, ha.eval hx, ha.eval hy, Instr.index, asIntOf, run_underlying ht, h1, h2]
theorem opPtrNe {x y : Operand} {t yt : TypeId} {p : Option Addr} (ht : isPtr P t = true) (hx : opv e x = some (.pointer p)) (hy : opv e y = some (.pointer none)) : OpVal P N e w ⟨d, .binOp .neq t x y yt, ty, pos, af, gd⟩ (.bool (!p.isNone)) := fun a ha => by
  have := run_neq_pointer_nil (P := P) w t p (ptr_of ht)
  have hg : (eqGuard .neq t x y (.pointer p) (.pointer none)).run P w = .ok () w := rfl
  simp [execOp, ha.eval hx, ha.eval hy, this, hg]
end
end Go.Gx

namespace Go.Gx
open Go Go.RowKit
set_option linter.unusedSectionVars false
variable {M : Mu}
section
variable {w0 w w' : World} {G0 G G' : Gh} {n b i : Nat} {m : List Nat} {A B O O' L : List (Nat × Obj)} {bl r : List Bx} {o : Option Bx}
section
variable {P : Program} {ops : Array Oper} {Q : Exit → Act → World → Prop} {N : Nat} {e : Env} {rest : List Oper} {d : Option Tmp} {ty : TypeId} {pos : String} {af : Array Edge}
  {f : FuncId} {x : Operand} {xs : List Operand} {vs caps first : List Value} {ats : Array TypeId} {R : Gh → List (Nat × Obj) → Value → Prop}
end
/-! ### Own slices among the blocks that are kept track of -/
def ob (o : Option Bx) : List (Nat × Obj) := o.toList.map (fun x => (x.1, .cells x.2.2.toArray x.2.1 (0, 0)))
end
/-! ### Pointers -/
structure Pt where
  b : Option Nat
  deriving DecidableEq
def Pt.v (p : Pt) : Value := .pointer (p.b.map (fun b => ⟨b, 0, none⟩))
instance : Rl Pt := ⟨fun _ v p => v = p.v, fun _ h => h⟩
section
variable {κ : Type} [DecidableEq κ] {β : Type} [Rl β] {G : Gh} {P : Program} {enc : κ → Value} {o : Obj} {D : List (κ × β)} {t kt et : Nat}
/-- m[k], and whether it is there. -/
theorem MpO.lookupOk {z : Value} {zb : β} (hM : MpO enc G o D) (hK : KeyL P kt enc) (ht : mapKV P t kt et = true) (hz : (P.info? et).bind (fun i => i.zero) = some z) (hzb : Rl.Is1 G z zb) (k : κ) :
    ∃ v, Rl.Is1 G v ((mget D k).getD zb) ∧ ∀ (w : World) (b : Nat), w.heap[b]? = some o → (Instr.lookup t (.map (some b)) (enc k) true).run P w = .ok (.tuple #[v, .bool (mget D k).isSome]) w := by
  obtain ⟨es, c, kvs, rfl, hE, hR, _⟩ := hM
  have hu := mapKV_of ht
  cases hq : P.info? et with
  | none => simp [hq] at hz
  | some i =>
    have hz' : i.zero = some z := by simpa [hq] using hz
    have hzv : ∀ w, (zeroValue et).run P w = .ok z w := fun w => by simp [zeroValue, typeInfo, hq, hz']
    rcases hK.find k es.toList (kvs.map (·.1)) hE.keys with ⟨g1, g2⟩ | ⟨j, e', g1, g2, g3, g4⟩
    · refine ⟨z, ?_, fun w b hb => ?_⟩
      · rw [hR.keys] at g1; rw [mget_none g1]; exact hzb
      · have hc := hK.chk es.isEmpty k w
        rw [hR.keys] at g1
        simp [Instr.lookup, run_underlying hu, MapKept.run_getObj_map hb, hc, g2, hzv, mget_none g1]
    · have hkv : kvs[j]? = some (k, e'.val) := by
        have := congrArg (·[j]?) hE.kv
        simp only [List.getElem?_map, g3, Option.map_some] at this
        rw [List.getElem?_map] at g1
        cases hj : kvs[j]? with
        | none => rw [hj] at g1; cases g1
        | some p =>
          rw [hj] at this g1
          simp only [Option.map_some, Option.some.injEq, Prod.mk.injEq] at this g1
          obtain ⟨p1, p2⟩ := p
          simp only [] at this g1
          rw [← g1, this.2]
      have hg := mget_at hkv rfl g2
      refine ⟨e'.val, ?_, fun w b hb => ?_⟩
      · rcases hR.get k with ⟨h1, _⟩ | ⟨v, y, h1, h2, h3⟩
        · rw [hg] at h1; cases h1
        · rw [hg] at h1; cases h1; rw [h2]; exact h3
      · have hc := hK.chk es.isEmpty k w
        have hs : ∃ y, mget D k = some y := by
          rcases hR.get k with ⟨h1, _⟩ | ⟨v, y, _, h2, _⟩
          · rw [hg] at h1; cases h1
          · exact ⟨y, h2⟩
        obtain ⟨y, hy⟩ := hs
        simp [Instr.lookup, run_underlying hu, MapKept.run_getObj_map hb, hc, g4, hy]
end
section
variable {P : Program} {N : Nat} {e : Env} {w : World} {d : Option Tmp} {ty : TypeId} {pos : String} {af : Array Edge} {gd : Option (Nat × Bool)} {x y : Operand} {b t : Nat} {k v : Value}
theorem opLookup2H (hx : opv e x = some (.map (some b))) (hy : opv e y = some k) (hr : (Instr.lookup t (.map (some b)) k true).run P w = .ok v w) : OpVal P N e w ⟨d, .lookup t x y true, ty, pos, af, gd⟩ v := fun a ha => by
  simp [execOp, ha.eval hx, ha.eval hy, hr]
end
end Go.Gx
