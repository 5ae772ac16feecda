/- Own slices opened to their cells: copies within and between them, zeros appended, the library's look for what overlaps. No condition. -/
import Derived.Test.YtljcgggflgbenaaDoorGxLend
import Derived.Laws.Externs
set_option linter.all false
namespace Go.Gx
open Go Go.RowKit
variable {M : Mu}
theorem sliceOk_of' {P : Program} {t el sz : Nat} (h : sliceOk P t el sz = true) : P.underlying t = some (.slice el) ∧ (P.info? el).map (·.size) = some sz := by
  unfold sliceOk at h
  rw [Bool.and_eq_true] at h
  obtain ⟨h1, h2⟩ := h
  constructor
  · revert h1
    split
    · rename_i e' hu; intro h1; rw [hu, Nat.eq_of_beq_eq_true h1]
    · intro h; cases h
  · cases hq : P.info? el with
    | none => simp [hq] at h2
    | some i => simp only [hq] at h2; simp [Nat.eq_of_beq_eq_true h2]
theorem loads_of {w : World} {b o : Nat} {row : List Value} (h : w.rangeAt b o row) : ∀ j v, row[j]? = some v → w.cell? ((⟨b, o, none⟩ : Addr).add j) = some v := by
  intro j v hj
  rw [Addr.add_mid]; exact h j v hj
theorem run_copy_rows {P : Program} (w : World) {dT sT ty elem sz : Nat} {g o dLen dCap b2 o2 sLen sCap : Nat} {cur row : List Value} {t : TypeId}
    (hs : sliceOk P dT elem sz = true) (hg : w.heap[g]? = some (.cells cur.toArray t (0, 0))) (hn : row.length = Nat.min sLen dLen * sz)
    (hsrc : w.rangeAt b2 o2 row) (hfit : o + row.length ≤ cur.length) (h1 : ∀ v ∈ row, v.oneCell' = true) :
    (Builtin.copy_ #[dT, sT] ty #[.slice (some ⟨g, o, none⟩) dLen dCap, .slice (some ⟨b2, o2, none⟩) sLen sCap]).run P w =
      .ok (goInt (Nat.min sLen dLen)) (w.setRow g (cur.take o ++ row ++ cur.drop (o + row.length)).toArray) := by
  obtain ⟨hu, hz⟩ := sliceOk_of' hs
  have hl := run_loadCells_list (P := P) w ⟨b2, o2, none⟩ row (loads_of hsrc)
  have hst := run_storeCells_at (P := P) g o t row 0 cur.toArray w hg (by simpa using hfit) h1
  cases hq : P.info? elem with
  | none => simp [hq] at hz
  | some i =>
    have hi : i.size = sz := by simpa [hq] using hz
    simp only [Nat.add_zero] at hst
    simp [Builtin.copy_, run_underlying hu, Builtin.lenOf, Builtin.firstCells, sizeOf, typeInfo, hq, hi, ← hn, hl, hst]
section
variable {P : Program} {ops : Array Oper} {Q : Exit → Act → World → Prop} {N : Nat} {e : Env} {w w0 : World} {G0 G : Gh} {rest : List Oper} {d : Option Tmp} {ty : TypeId} {pos : String} {af : Array Edge} {gd : Option (Nat × Bool)} {bl : List Bx}
theorem drawCopyB {a : Act} {R : Value → World → Prop} {x y : Operand} {t1 t2 rt el sz g T o n1 c1 b2 o2 n2 c2 : Nat} {cs cs' row : List Value} (ha : Fr N a e) (i : Nat) (hC : Cx w0 G0 G w M) (hB : Bxs G w w0.heap.size bl M) (hi : bl[i]? = some (g, T, cs))
    (hx : opv e x = some (.slice (some ⟨g, o, none⟩) n1 c1)) (hy : opv e y = some (.slice (some ⟨b2, o2, none⟩) n2 c2)) (hs : sliceOk P t1 el sz = true) (hsrc : w.rangeAt b2 o2 row) (hn : row.length = Nat.min n2 n1 * sz)
    (hfit : o + row.length ≤ cs.length) (h1 : ∀ v ∈ row, v.oneCell' = true) (he : cs.take o ++ row ++ cs.drop (o + row.length) = cs')
    (h : ∀ w', Cx w0 G0 G w' M → Bxs G w' w0.heap.size (bl.set i (g, T, cs')) M → R (goInt (Nat.min n2 n1)) w') :
    OpR P ⟨d, .call ⟨.builtin .copy, #[x, y], #[t1, t2]⟩, rt, pos, af, gd⟩ a w R := by
  have hg := hB.get hi
  have hr := run_copy_rows (P := P) (ty := rt) (sT := t2) (dCap := c1) (sCap := c2) w hs hg.1 hn hsrc hfit h1
  unfold OpR
  have : (execOp a.eval ⟨d, .call ⟨.builtin .copy, #[x, y], #[t1, t2]⟩, rt, pos, af, gd⟩).run P w = .ok (.value (goInt (Nat.min n2 n1))) (w.setRow g cs'.toArray) := by
    simp only [execOp, resolve, Sem.run_bind, Sem.run_pure, Result.andThen_ok, invoke, builtin, List.map_toArray, List.map_cons, List.map_nil, ha.eval hx, ha.eval hy, hr, he]
  rw [this]
  exact h _ (hC.setRow' hg.2.1 hg.2.2 (hB.off hi) _) (hB.set hi cs')
theorem wlCopyB {x y : Operand} {t1 t2 rt el sz g T o n1 c1 b2 o2 n2 c2 : Nat} {cs cs' row : List Value} (i : Nat) (hC : Cx w0 G0 G w M) (hB : Bxs G w w0.heap.size bl M) (hi : bl[i]? = some (g, T, cs))
    (hx : opv e x = some (.slice (some ⟨g, o, none⟩) n1 c1)) (hy : opv e y = some (.slice (some ⟨b2, o2, none⟩) n2 c2)) (hs : sliceOk P t1 el sz = true) (hsrc : w.rangeAt b2 o2 row) (hn : row.length = Nat.min n2 n1 * sz)
    (hfit : o + row.length ≤ cs.length) (h1 : ∀ v ∈ row, v.oneCell' = true) (he : cs.take o ++ row ++ cs.drop (o + row.length) = cs') (hd : okD N d = true)
    (h : ∀ w', Cx w0 G0 G w' M → Bxs G w' w0.heap.size (bl.set i (g, T, cs')) M → WL P ops Q N rest (e.putO d (goInt (Nat.min n2 n1))) w') :
    WL P ops Q N (⟨d, .call ⟨.builtin .copy, #[x, y], #[t1, t2]⟩, rt, pos, af, none⟩ :: rest) e w := by
  refine wlStep (R := fun v w' => v = goInt (Nat.min n2 n1) ∧ Cx w0 G0 G w' M ∧ Bxs G w' w0.heap.size (bl.set i (g, T, cs')) M) hd (fun a ha => drawCopyB ha i hC hB hi hx hy hs hsrc hn hfit h1 he fun w' k1 k2 => ⟨rfl, k1, k2⟩) ?_
  rintro v w' ⟨rfl, k1, k2⟩
  exact h w' k1 k2
/-- cap -/
theorem opCap {x : Operand} {A : Option Addr} {len cap : Nat} {t rt : TypeId} (hx : opv e x = some (.slice A len cap)) (ht : isSlice P t = true) :
    OpVal P N e w ⟨d, .call ⟨.builtin .cap, #[x], #[t]⟩, rt, pos, af, gd⟩ (.int .i64 (cap : Int)) := fun a ha => by
  unfold isSlice at ht
  revert ht
  split
  · rename_i el hu
    intro _
    simp [execOp, resolve, invoke, builtin, Builtin.cap_, ha.eval hx, run_underlying hu, goInt]
  · intro h; cases h
theorem opSliceFromR {t el sz : Nat} {x y : Operand} {g o n cap l : Nat} {k : IntKind} (ht : sliceOk P t el sz = true) (hx : opv e x = some (.slice (some ⟨g, o, none⟩) n cap)) (hy : opv e y = some (.int k (l : Int))) (hh : l ≤ n) (hc : l < cap) :
    OpVal P N e w ⟨d, .slice t x (some y) none none, ty, pos, af, gd⟩ (.slice (some ⟨g, o + l * sz, none⟩) (n - l) (cap - l)) := by
  have h := opSliceFrom (P := P) (N := N) (e := e) (w := w) (d := d) (ty := ty) (pos := pos) (af := af) (gd := gd) ht hx hy hh
  rw [if_neg (by omega), Option.map_some, Addr.add_mid] at h
  exact h
/-- append(s, make([]T, k)...), beyond the capacity. -/
theorem wlAppendZ {x y : Operand} {t tn el sz bytes g o n cap k : Nat} {rt : TypeId} {row : List Value} (he : elemOk P t el sz bytes = true) (hti : P.underlying tn = some (.int .i64)) (hC : Cx w0 G0 G w M) (hB : Bxs G w w0.heap.size bl M)
    (hx : opv e x = some (.slice (some ⟨g, o, none⟩) n cap)) (hy : opv e y = some (.int .i64 (k : Int))) (hsrc : w.rangeAt g o row) (hn : row.length = n * sz) (hone : ∀ v ∈ row, v.oneCell' = true) (hgr : cap < n + k) (hk : 0 < k) (hs0 : Nat.blt 0 sz = true) (hm : n + k ≤ 1073741824) (hby : Nat.ble bytes 131072 = true) (hd : okD N d = true)
    (h : ∀ b c cs w', Cx w0 G0 G w' M → Bxs G w' w0.heap.size ((b, el, cs) :: bl) M → n + k ≤ c → c ≤ maxLen → cs.length = c * sz → cs.take (n * sz) = row → WL P ops Q N rest (e.putO d (.slice (some ⟨b, 0, none⟩) (n + k) c)) w') :
    WL P ops Q N (⟨d, .call ⟨.builtin .append, #[x, y], #[t, tn]⟩, rt, pos, af, none⟩ :: rest) e w := by
  obtain ⟨ht, i, z, hi, hz, hsz, hby2, hzs⟩ := elemOk_of he
  have hb2 := Nat.le_of_ble_eq_true hby
  have hs1 : 0 < sz := Nat.le_of_ble_eq_true hs0
  have hbb : (n + k) * bytes ≤ 140737488355328 := by
    calc (n + k) * bytes ≤ 1073741824 * 131072 := Nat.mul_le_mul hm hb2
      _ = 140737488355328 := by decide
  have hl := run_loadCells_list (P := P) w.drew ⟨g, o, none⟩ row (fun j v hj => loads_of hsrc j v hj)
  have hf : (Builtin.firstCells i.size n (.slice (some ⟨g, o, none⟩) n cap)).run P w.drew = .ok row.toArray w.drew := by
    unfold Builtin.firstCells
    simp only [hsz, ← hn]
    exact hl
  have hfit := growslice_fits (need := n + k) (old := cap) (by omega) hbb
  have a1 : ¬ (281474976710656 < Builtin.nextslicecap (n + k) cap * i.bytes) := by rw [hby2]; omega
  have a2 : ¬ (281474976710656 < (k : Int) * (i.bytes : Int)) := by
    have : k * bytes ≤ (n + k) * bytes := Nat.mul_le_mul_right _ (by omega)
    rw [hby2, ← Int.natCast_mul]; omega
  have a3 : ¬ ((k : Int) < 0) := by omega
  have a4 : ¬ (k * i.size = 0) := Nat.mul_ne_zero (by omega) (by omega)
  have a5 : IntKind.i64.wrap (k : Int) = k := by rw [IntKind.wrap_i64]; omega
  have a6 : ¬ (n + k ≤ cap) := by omega
  have a7 : ¬ (9223372036854775807 < ((n : Int) + (k : Int))) := by omega
  have a8 : k ≠ 0 := by omega
  have hr : (Builtin.append_ #[t, tn] rt #[.slice (some ⟨g, o, none⟩) n cap, .int .i64 k]).run P w =
      .ok (.slice (some ⟨w.heap.size, 0, none⟩) (n + k) (grownCap w (n + k) cap el)) (w.drew.alloc (.cells (row.toArray ++ Builtin.zeroCells z.cells k ++ Builtin.zeroCells z.cells (grownCap w (n + k) cap el - (n + k))) el)) := by
    simp [Builtin.append_, run_underlying ht, run_underlying hti, sizeOf, typeInfo, zeroValue, hi, hz, asInt, asIntOf, a1, a2, a3, a4, a5, a6, a7, a8, Question.forced, hf, newRow, grownCap]
  refine wlStep (R := fun v w' => v = .slice (some ⟨w.heap.size, 0, none⟩) (n + k) (grownCap w (n + k) cap el) ∧ w' = w.drew.alloc (.cells (row.toArray ++ Builtin.zeroCells z.cells k ++ Builtin.zeroCells z.cells (grownCap w (n + k) cap el - (n + k))) el)) hd (fun a ha => ?_) ?_
  · unfold OpR
    have : (execOp a.eval ⟨d, .call ⟨.builtin .append, #[x, y], #[t, tn]⟩, rt, pos, af, none⟩).run P w = .ok (.value (.slice (some ⟨w.heap.size, 0, none⟩) (n + k) (grownCap w (n + k) cap el))) (w.drew.alloc (.cells (row.toArray ++ Builtin.zeroCells z.cells k ++ Builtin.zeroCells z.cells (grownCap w (n + k) cap el - (n + k))) el)) := by
      simp only [execOp, resolve, Sem.run_bind, Sem.run_pure, Result.andThen_ok, invoke, builtin, List.map_toArray, List.map_cons, List.map_nil, ha.eval hx, ha.eval hy, hr]
    rw [this]; exact ⟨rfl, rfl⟩
  · rintro v w' ⟨rfl, rfl⟩
    have hk2 := Cx.alloc hC.drew.holds (.cells (row.toArray ++ Builtin.zeroCells z.cells k ++ Builtin.zeroCells z.cells (grownCap w (n + k) cap el - (n + k))) el)
    have hge := grownCap_ge w (n + k) cap el
    have hB2 := hB.drew.push hC.drew.holds hC.size hC.heldLt el (row.toArray ++ Builtin.zeroCells z.cells k ++ Builtin.zeroCells z.cells (grownCap w (n + k) cap el - (n + k))).toList
    rw [Array.toArray_toList] at hB2
    refine h _ _ _ _ (hC.drew.trans hk2) hB2 hge (grownCap_le_maxLen _ _ _ _ (by unfold maxLen; omega)) ?_ ?_
    · simp only [Array.toList_append, List.length_append, Array.length_toList, List.size_toArray, size_zeroCells, hzs, hn]
      rw [← Nat.add_mul, ← Nat.add_mul]; congr 1; omega
    · rw [Array.toList_append, Array.toList_append, List.append_assoc, ← hn]
      exact List.take_left
end
theorem run_overlaps_own {P : Program} {w : World} {tS tR el sz : Nat} {a b : Addr} {la ca lb cb : Nat} {cA cB : Array Value} {tA tB : TypeId} {fz : Nat × Nat} (ht : sliceOk P tS el sz = true) (hne : a.block ≠ b.block)
    (hA : w.heap[a.block]? = some (.cells cA tA fz)) (hB : w.heap[b.block]? = some (.cells cB tB (0, 0))) (hk : cB.size ≠ 0) (hkA : cA.size ≠ 0) :
    (Extern.SlicesOverlaps.overlaps #[tS, tS] #[tR] #[.slice (some a) la ca, .slice (some b) lb cb]).run P w = .ok (.bool false) w := by
  obtain ⟨hu, hz⟩ := sliceOk_of' ht
  have hz' : ∀ w, (Go.sizeOf el).run P w = .ok sz w := fun w => sizeOf_of hz w
  have hnb : (a.block != b.block) = true := by simpa using hne
  have hnb' : (a.block == b.block) = false := by simpa using hne
  have hsa : w.shape? a.block = some (tA, cA.size) := by simp [World.shape?, hA]
  have hsb : w.shape? b.block = some (tB, cB.size) := by simp [World.shape?, hB]
  have hfb : w.frozen? b = false := by simp [World.frozen?, hB]
  have hfb2 : ∀ k, w.frozen? { block := b.block, off := k } = false := fun k => by simp [World.frozen?, hB]
  change Sem.run P (α := Value) (do
    let some t := (#[tS, tS] : Array TypeId)[0]? | stuck "slices.overlaps: no parameter types"
    let .slice elem ← underlying t | stuck "slices.overlaps: slice type expected"
    let size ← sizeOf elem
    match (some a : Option Addr), (some b : Option Addr) with
    | some a, some b =>
      if la = 0 ∨ lb = 0 ∨ size = 0 then pure (Value.bool false)
      else if a.block != b.block && (← frozen a) && (← frozen b) then unsupported .addressObserved
      else do
        if a.block != b.block then do
          noView a; noView b
          if ← mayBeOne a b then return Value.bool ((← choose (.extern "sameAddr.stringBytes" 2)) == 1)
        pure (Value.bool (a.block == b.block && a.off < b.off + lb * size && b.off < a.off + la * size))
    | _, _ => pure (Value.bool false)) w = _
  by_cases h0 : la = 0 ∨ lb = 0 ∨ sz = 0
  · simp [run_underlying hu, hz', h0]
  · obtain ⟨k, hk⟩ : ∃ k, cB.size = k + 1 := ⟨cB.size - 1, by omega⟩
    obtain ⟨k2, hkA⟩ : ∃ k, cA.size = k + 1 := ⟨cA.size - 1, by omega⟩
    rw [hk] at hsb
    rw [hkA] at hsa
    cases hfa : w.frozen? a <;> simp [run_underlying hu, hz', h0, hnb, hnb', frozen, noView, viewAt, mayBeOne, stringish, shape, Sem.run, hsa, hsb, hfb, hfb2, hfa]
section
variable {α : Type} [Rp α] {G : Gh}
theorem Rows2.drop : ∀ {rs : List (List Value)} {xs : List α}, Rows2 G rs xs → ∀ m, Rows2 G (rs.drop m) (xs.drop m)
  | [], [], _, m => by simp; trivial
  | r :: rs, x :: xs, h, 0 => h
  | r :: rs, x :: xs, h, m + 1 => Rows2.drop h.2 m
  | [], _ :: _, h, _ => h.elim
  | _ :: _, [], h, _ => h.elim
/-- An own slice's cells. -/
theorem Ow.raw {T T' g n cap so : Nat} {cs : List Value} {xs : List α} (h : Ow G (some (g, T', cs)) T (.slice (some ⟨g, so, none⟩) n cap) xs) :
    ∃ rows, Rows2 G rows xs ∧ xs.length ≤ cap ∧ cap ≤ maxLen ∧ cs.length = so + cap * Rp.sz α ∧ (cs.drop so).take (xs.length * Rp.sz α) = rows.flatten := by
  obtain ⟨rows, ⟨h1, h2⟩, h3⟩ := h
  obtain ⟨_, so', cap', hv, h4, h5, h6, h7⟩ := h2
  injection hv with e1 e2 e3
  injection e1 with e1
  injection e1 with e0 e1
  subst e3; subst e1
  have hl := h3.length
  exact ⟨rows, h3, by omega, h5, h6, by rw [← hl]; exact h7⟩
theorem Ow.ofRaw {T g n cap : Nat} {cs : List Value} {rows : List (List Value)} {ys : List α} (hR : Rows2 G rows ys) (hn : n = ys.length) (hc : n ≤ cap) (hm : cap ≤ maxLen) (hl : cs.length = cap * Rp.sz α) (ht : cs.take (n * Rp.sz α) = rows.flatten) :
    Ow G (some (g, T, cs)) T (.slice (some ⟨g, 0, none⟩) n cap) ys := by
  subst hn
  have hrl := hR.length
  exact ⟨rows, ⟨fun r hr => (hR.len r hr).1, rfl, 0, cap, by rw [hrl], by omega, hm, by rw [hl, Nat.zero_add], by rw [List.drop_zero, hrl]; exact ht⟩, hR⟩
theorem raw_one {rows : List (List Value)} {xs : List α} {cs : List Value} (hR : Rows2 G rows xs) (ht : cs.take (xs.length * Rp.sz α) = rows.flatten) {k m : Nat} (hkm : k + m ≤ xs.length * Rp.sz α) : ∀ v ∈ (cs.drop k).take m, v.oneCell' = true := by
  intro v hv
  have : v ∈ cs.take (xs.length * Rp.sz α) := by
    rw [List.take_drop] at hv
    exact (List.take_prefix_take_left hkm).subset (List.mem_of_mem_drop hv)
  rw [ht] at this
  obtain ⟨r, hr, hv⟩ := List.mem_flatten.1 this
  exact (hR.len r hr).2 v hv
theorem run_overlaps_sl {P : Program} {w : World} {tS tR el sz g T o n c : Nat} {v : Value} {y : α} {ys : List α} {cs : List Value} (hh : Holds G w) (hv : Sl G v (y :: ys)) (hB : w.heap[g]? = some (.cells cs.toArray T (0, 0))) (hg : G g = none)
    (hc : cs.length ≠ 0) (hs : sliceOk P tS el sz = true) (hsz : Nat.blt 0 (Rp.sz α) = true) : (Extern.SlicesOverlaps.overlaps #[tS, tS] #[tR] #[v, .slice (some ⟨g, o, none⟩) n c]).run P w = .ok (.bool false) w := by
  obtain ⟨A, cap, rfl, _, _, h4⟩ := hv
  obtain ⟨b, o2, row, rfl, ⟨ca, Ta, fz, h5, h6⟩, h7⟩ := h4 0 y rfl
  have hl := Rp.len h7
  have h0 : 0 < Rp.sz α := Nat.le_of_ble_eq_true hsz
  refine run_overlaps_own (a := ⟨b, o2, none⟩) (b := ⟨g, o, none⟩) hs (fun e => ?_) (hh _ _ h5) hB (by simpa using hc) (fun e => ?_)
  · simp only [] at e; rw [e, hg] at h5; cases h5
  · have := h6 0 row[0] (List.getElem?_eq_getElem (by omega))
    have := (Array.getElem?_eq_some_iff.1 this).1
    omega
end
section
variable {cs rest2 : List Value} {rows : List (List Value)} {n i sz cap cap2 : Nat} {xc : List Value}
theorem raw_len {cs row : List Value} {o : Nat} (h : o + row.length ≤ cs.length) : (cs.take o ++ row ++ cs.drop (o + row.length)).length = cs.length := by
  simp only [List.length_append, List.length_take, List.length_drop]; omega
theorem raw_split (hrl : ∀ r ∈ rows, r.length = sz) (hlen : rows.length = n) (hi : i ≤ n) (ht : cs.take (n * sz) = rows.flatten) :
    ∃ R, cs = (rows.take i).flatten ++ ((rows.drop i).flatten ++ R) ∧ (rows.take i).flatten.length = i * sz ∧ (rows.drop i).flatten.length = (n - i) * sz := by
  refine ⟨cs.drop (n * sz), ?_, ?_, ?_⟩
  · rw [← List.append_assoc, ← List.flatten_append, List.take_append_drop, ← ht, List.take_append_drop]
  · rw [flatten_len (fun r hr => hrl r (List.mem_of_mem_take hr)), List.length_take, hlen, Nat.min_eq_left hi]
  · rw [flatten_len (fun r hr => hrl r (List.mem_of_mem_drop hr)), List.length_drop, hlen]
theorem ins_cells {A Z B R : List Value} {a z b : Nat} (hA : A.length = a) (hZ : Z.length = z) (hB : B.length = b) (hx : xc.length = z) : ((A ++ (Z ++ (B ++ R))).take a ++ xc ++ (A ++ (Z ++ (B ++ R))).drop (a + xc.length)).take (a + z + b) = A ++ (xc ++ B) := by
  subst hA; subst hZ; subst hB
  rw [List.take_left, hx, List.drop_append, List.drop_of_length_le (by omega), List.nil_append, Nat.add_sub_cancel_left, List.drop_left, List.append_assoc, List.take_append, List.take_of_length_le (by omega), ← hx]
  congr 1
  rw [show A.length + xc.length + B.length - A.length = xc.length + B.length by omega, List.take_append, List.take_of_length_le (by omega), Nat.add_sub_cancel_left, List.take_left]
/-- In place. -/
theorem ins_in (hrl : ∀ r ∈ rows, r.length = sz) (hlen : rows.length = n) (hi : i ≤ n) (hc : n + 1 ≤ cap) (hcs : cs.length = cap * sz) (ht : cs.take (n * sz) = rows.flatten) (hx : xc.length = sz) {cs1 row : List Value}
    (hrow : row = (cs.drop (0 + i * sz)).take ((n - i) * sz)) (h1 : cs1 = cs.take (0 + (i + 1) * sz) ++ row ++ cs.drop (0 + (i + 1) * sz + row.length)) :
    (cs1.take (0 + i * sz) ++ xc ++ cs1.drop (0 + i * sz + xc.length)).take ((n + 1) * sz) = (rows.take i ++ [xc] ++ rows.drop i).flatten := by
  obtain ⟨R, e, hA, hB⟩ := raw_split hrl hlen hi ht
  simp only [Nat.zero_add] at *
  generalize hAd : (rows.take i).flatten = A at *
  generalize hBd : (rows.drop i).flatten = B at *
  have hge : (n + 1) * sz ≤ cap * sz := Nat.mul_le_mul_right _ hc
  have e1 : (i + 1) * sz = i * sz + sz := by rw [Nat.add_mul, Nat.one_mul]
  have e2 : (n + 1) * sz = i * sz + sz + (n - i) * sz := by rw [Nat.add_mul, Nat.one_mul, show n * sz = i * sz + (n - i) * sz by rw [← Nat.add_mul]; congr 1; omega]; omega
  have hr : row = B := by rw [hrow, e, ← hA, List.drop_left, ← hB, List.take_left]
  subst hr
  have hlB : (row ++ R).length = cap * sz - i * sz := by have := congrArg List.length e; simp only [List.length_append] at this ⊢; omega
  have e3 : cs.take ((i + 1) * sz) = A ++ (row ++ R).take sz := by rw [e, e1, List.take_append, List.take_of_length_le (by omega), hA, Nat.add_sub_cancel_left]
  have hZ : ((row ++ R).take sz).length = sz := by rw [List.length_take, hlB]; omega
  rw [e2, h1, e3]
  have := ins_cells (R := cs.drop ((i + 1) * sz + row.length)) hA hZ hB hx
  simp only [List.append_assoc] at this ⊢
  rw [this, List.flatten_append, List.flatten_append, hAd, hBd]
  simp
/-- Into a new block. -/
theorem ins_new (hrl : ∀ r ∈ rows, r.length = sz) (hlen : rows.length = n) (hi : i ≤ n) (hc : n + 1 ≤ cap2) (hcs : rest2.length = cap2 * sz) (ht : cs.take (n * sz) = rows.flatten) (hx : xc.length = sz) (h2 : rest2.take (i * sz) = (cs.drop 0).take (i * sz)) {cs1 row : List Value}
    (hrow : row = (cs.drop (0 + i * sz)).take ((n - i) * sz)) (h1 : cs1 = rest2.take (0 + i * sz) ++ xc ++ rest2.drop (0 + i * sz + xc.length)) :
    (cs1.take (0 + (i + 1) * sz) ++ row ++ cs1.drop (0 + (i + 1) * sz + row.length)).take ((n + 1) * sz) = (rows.take i ++ [xc] ++ rows.drop i).flatten := by
  obtain ⟨R, e, hA, hB⟩ := raw_split hrl hlen hi ht
  simp only [Nat.zero_add, List.drop_zero] at *
  generalize hAd : (rows.take i).flatten = A at *
  generalize hBd : (rows.drop i).flatten = B at *
  have e1 : (i + 1) * sz = i * sz + sz := by rw [Nat.add_mul, Nat.one_mul]
  have e2 : (n + 1) * sz = i * sz + sz + (n - i) * sz := by rw [Nat.add_mul, Nat.one_mul, show n * sz = i * sz + (n - i) * sz by rw [← Nat.add_mul]; congr 1; omega]; omega
  have hr : row = B := by rw [hrow, e, ← hA, List.drop_left, ← hB, List.take_left]
  subst hr
  have hta : rest2.take (i * sz) = A := by rw [h2, e, ← hA, List.take_left]
  rw [e2, h1, hta, e1]
  have h5 : (A ++ xc ++ rest2.drop (i * sz + xc.length)).take (i * sz + sz) = A ++ xc := by
    rw [← hA, ← hx, ← List.length_append, List.take_left]
  rw [h5, List.flatten_append, List.flatten_append, hAd, hBd]
  have : i * sz + sz + (n - i) * sz = (A ++ xc ++ row).length := by simp only [List.length_append]; omega
  rw [this, List.take_left]
  simp
end
end Go.Gx
