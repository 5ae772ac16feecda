/- The document's slots, in blocks. No condition. -/
import Derived.Test.YtljcgggflgbenaaGreatDoorZlG4
import Derived.Test.YtljcgggflgbenaaGreatDoorGxApp
set_option linter.all false
namespace Go.Proofs.YtljcgggflgbenaaGreatDoor
open Go Go.Gx Go.RowKit
structure RfS where
  crew : Crew
  self : Int
  low : Int
  l : List RSlot
  deriving DecidableEq, Inhabited
/-- A slice of a block of its own. -/
structure Vs where
  b : Nat
  n : Nat
def Vs.v (x : Vs) : Value := .slice (some ⟨x.b, 0, none⟩) x.n x.n
/-- A slice, as it stands. -/
structure Qv where
  A : Option Addr
  n : Nat
  cap : Nat
def Qv.v (x : Qv) : Value := .slice x.A x.n x.cap
structure RowR where
  last : RVt
  pv : Vs
  cv : Vs
  p : RVt
  qv : Qv
def RowR.cells (x : RowR) : List Value := (.bool x.last.has :: (.int .i64 x.last.view :: (x.last.dig.cells ++ (x.pv.v :: (x.cv.v :: (.bool x.p.has :: (.int .i64 x.p.view :: (x.p.dig.cells ++ (x.qv.v :: [])))))))))
instance : Rp RowR := ⟨71, fun _ cs x => cs = x.cells, fun h => by rw [h]; simp [RowR.cells],
  fun h => by
    rw [h]; intro u hu
    simp only [RowR.cells, List.mem_cons, List.mem_append, List.not_mem_nil, or_false] at hu
    rcases hu with rfl | rfl | hu | rfl | rfl | rfl | rfl | hu | rfl <;> first | rfl | exact mem_cells _ _ hu,
  fun _ h => h⟩
structure Rw where
  r : RowR
  c1 : List Value
  c2 : List Value
  oq : Option Bx
def Rw.blocks (x : Rw) : List (Nat × Obj) := (x.r.pv.b, .cells x.c1.toArray 66 (0, 0)) :: (x.r.cv.b, .cells x.c2.toArray 66 (0, 0)) :: ob x.oq
/-- A row and its two blocks, as they read. -/
structure RwO (G : Gh) (x : Rw) (t : RSlot) : Prop where
  last : x.r.last = t.last
  p : x.r.p = t.p
  q : Ow G x.oq 44 x.r.qv.v t.q
  pre : Ow G (some (x.r.pv.b, 66, x.c1)) 66 x.r.pv.v t.pre
  com : Ow G (some (x.r.cv.b, 66, x.c2)) 66 x.r.cv.v t.com
theorem RwO.mono {G G' : Gh} {x : Rw} {t : RSlot} (hg : GLe G G') (h : RwO G x t) : RwO G' x t := ⟨h.last, h.p, h.q.mono hg, h.pre.mono hg, h.com.mono hg⟩
/-- All rows, and their blocks. -/
def RfL (G : Gh) (R : List RowR) (H : List (Nat × Obj)) (l : List RSlot) : Prop :=
  ∃ (rs : List (Rw × RSlot)) (J : List (Nat × Obj)), H.Perm (rs.flatMap (fun x => x.1.blocks) ++ J) ∧ R = rs.map (·.1.r) ∧ l = rs.map (·.2) ∧ ∀ x ∈ rs, RwO G x.1 x.2
theorem RfL.mono {G G' : Gh} {R : List RowR} {H : List (Nat × Obj)} {l : List RSlot} (hg : GLe G G') (h : RfL G R H l) : RfL G' R H l := by
  obtain ⟨rs, J, h1, h2, h3, h4⟩ := h
  exact ⟨rs, J, h1, h2, h3, fun x hx => (h4 x hx).mono hg⟩
theorem RfL.length {G : Gh} {R : List RowR} {H : List (Nat × Obj)} {l : List RSlot} (h : RfL G R H l) : R.length = l.length := by
  obtain ⟨rs, J, h1, rfl, rfl, h4⟩ := h; simp
/-- All rows but the i-th one, whose blocks are apart. -/
def RfR (G : Gh) (R : List RowR) (H : List (Nat × Obj)) (l : List RSlot) (i : Nat) (pv cv : Vs) : Prop :=
  ∀ G' (x : Rw) (t : RSlot), GLe G G' → x.r.pv = pv → x.r.cv = cv → RwO G' x t → RfL G' (R.set i x.r) (x.blocks ++ H) (l.set i t)
theorem RfR.mono {G G' : Gh} {R : List RowR} {H : List (Nat × Obj)} {l : List RSlot} {i : Nat} {pv cv : Vs} (hg : GLe G G') (h : RfR G R H l i pv cv) : RfR G' R H l i pv cv :=
  fun G'' x t hg' h1 h2 h3 => h G'' x t (fun b o hb => hg' b o (hg b o hb)) h1 h2 h3
theorem RfL.at_ {G : Gh} {R : List RowR} {H : List (Nat × Obj)} {l : List RSlot} {i : Nat} {t : RSlot} (h : RfL G R H l) (hi : l[i]? = some t) :
    ∃ x H', R[i]? = some x.r ∧ RwO G x t ∧ H.Perm (Rw.blocks x ++ H') ∧ RfR G R H' l i x.r.pv x.r.cv := by
  obtain ⟨rs, J, h1, rfl, rfl, h4⟩ := h
  rw [List.getElem?_map] at hi
  cases hr : rs[i]? with
  | none => rw [hr] at hi; cases hi
  | some y =>
    rw [hr] at hi; obtain ⟨x, t'⟩ := y
    simp only [Option.map_some, Option.some.injEq] at hi; subst hi
    obtain ⟨hlt, hx⟩ := List.getElem?_eq_some_iff.1 hr
    have hsp : rs = rs.take i ++ (x, t') :: rs.drop (i + 1) := by rw [← hx]; simp
    refine ⟨x, (rs.take i).flatMap (fun x => x.1.blocks) ++ ((rs.drop (i + 1)).flatMap (fun x => x.1.blocks) ++ J), by rw [List.getElem?_map, hr]; rfl, h4 (x, t') (List.mem_of_getElem? hr), h1.trans ?_, fun G' x' t2 hg hp hc ht => ⟨rs.set i (x', t2), J, ?_, ?_, ?_, fun z hz => ?_⟩⟩
    · rw [hsp]
      simp only [List.flatMap_append, List.flatMap_cons, List.append_assoc]
      rw [← hsp]
      exact List.perm_append_comm_assoc _ _ _
    · rw [List.set_eq_take_append_cons_drop, if_pos hlt]
      simp only [List.flatMap_append, List.flatMap_cons, List.append_assoc]
      exact List.perm_append_comm_assoc _ _ _
    · rw [List.map_set]
    · rw [List.map_set]
    · rcases List.mem_or_eq_of_mem_set hz with hz | rfl
      · exact (h4 z hz).mono hg
      · exact ht
/-- What holds of slots at all times. -/
structure RfOk (m : RfS) : Prop where
  crew : check m.crew = 0
  low : 0 ≤ m.low ∧ m.low ≤ 9007199254740983
  len : m.l.length = 8
  pre : ∀ (i : Nat) (t : RSlot), m.l[i]? = some t → t.pre.length = m.crew.nodes.length
  com : ∀ (i : Nat) (t : RSlot), m.l[i]? = some t → t.com.length = m.crew.nodes.length
  q4 : ∀ (i : Nat) (t : RSlot), m.l[i]? = some t → t.q.length ≤ 4
abbrev rootR (m : RfS) (vn vl : Value) : Obj := .cells [.int .i64 m.crew.faults, vn, .int .i64 m.self, .int .i64 m.low, vl].toArray 64 (0, 0)
/-- The blocks of slots, as they read; b is the first one. -/
def RfO (G : Gh) (b : Nat) (O : List (Nat × Obj)) (m : RfS) : Prop :=
  RfOk m ∧ ∃ vn vl lb lc R H, O = (b, rootR m vn vl) :: (lb, .cells (List.toArray lc) 69 (0, 0)) :: H ∧ Sl G vn m.crew.nodes ∧ Ow G (some (lb, 69, lc)) 69 vl R ∧ RfL G R H m.l
theorem RfO.mono {G G' : Gh} {b : Nat} {O : List (Nat × Obj)} {m : RfS} (hg : GLe G G') (h : RfO G b O m) : RfO G' b O m := by
  obtain ⟨ok, vn, vl, lb, lc, R, H, h1, h2, h3, h4⟩ := h
  exact ⟨ok, vn, vl, lb, lc, R, H, h1, h2.mono hg, h3.mono hg, h4.mono hg⟩
theorem slTurn {α β : Type} [Rp α] [Rp β] {G : Gh} {v : Value} {xs : List α} {ys : List β} (hz : Rp.sz α = Rp.sz β) (hl : xs.length = ys.length) (h : Sl G v xs)
    (hR : ∀ (k : Nat) (y : β), ys[k]? = some y → ∃ x, xs[k]? = some x ∧ ∀ row, Rp.Is G row x → Rp.Is G row y) : Sl G v ys := by
  obtain ⟨A, cap, h1, h2, h3, h4⟩ := h
  refine ⟨A, cap, by rw [h1, hl], by omega, by omega, fun k y hk => ?_⟩
  obtain ⟨x, hx, hr⟩ := hR k y hk
  obtain ⟨b, o, row, e1, e2, e3⟩ := h4 k x hx
  exact ⟨b, o, row, e1, by rw [← hz]; exact e2, hr row e3⟩
theorem RwO.is {G : Gh} {x : Rw} {t : RSlot} (h : RwO G x t) (hl : HasL G x.blocks) (hm1 : t.pre.length ≤ maxL) (hm2 : t.com.length ≤ maxL) (hm3 : t.q.length ≤ maxL) {row : List Value} (hr : Rp.Is G row x.r) : Rp.Is G row t := by
  obtain rfl : row = x.r.cells := hr
  have h1 := h.pre.frozen (T' := 66) (hl (x.r.pv.b, .cells x.c1.toArray 66 (0, 0)) (by simp [Rw.blocks])) hm1
  have h2 := h.com.frozen (T' := 66) (hl (x.r.cv.b, .cells x.c2.toArray 66 (0, 0)) (by simp [Rw.blocks])) hm2
  have hq := h.q.frozenO (fun y hy => hl y (by simp [Rw.blocks, hy])) hm3
  obtain ⟨r, c1, c2, oq⟩ := x; obtain ⟨l1, pv, cv, p1, q1⟩ := r; obtain ⟨l2, a1, a2, p2, q2⟩ := t
  obtain ⟨e1, e2, e3, _, _⟩ := h
  simp only at e1 e2 e3 h1 h2 hq; subst e1; subst e2
  exact ⟨_, _, _, rfl, h1, h2, hq⟩
theorem RfO.look {G : Gh} {b : Nat} {O : List (Nat × Obj)} {m : RfS} (h : RfO G b O m) (hl : HasL G O) :
    RfOk m ∧ ∃ vn vl, HasO G b (rootR m vn vl) ∧ Sl G vn m.crew.nodes ∧ Sl G vl m.l := by
  obtain ⟨ok, vn, vl, lb, lc, R, H, rfl, h2, h3, h4⟩ := h
  refine ⟨ok, vn, vl, hl (b, rootR m vn vl) (by simp), h2, ?_⟩
  have hm := h2.le
  have hR := h4.length
  have hS := h3.frozen (T' := 69) (hl (lb, .cells (List.toArray lc) 69 (0, 0)) (by simp)) (by rw [hR, ok.len]; unfold maxL; omega)
  refine slTurn (α := RowR) (β := RSlot) rfl hR hS fun k t hk => ?_
  obtain ⟨x, H', e1, e2, e3, _⟩ := h4.at_ hk
  exact ⟨x.r, e1, fun row hr => e2.is (fun y hy => hl y (List.mem_cons_of_mem _ (List.mem_cons_of_mem _ (e3.mem_iff.2 (List.mem_append_left _ hy))))) (by rw [ok.pre k t hk]; exact hm) (by rw [ok.com k t hk]; exact hm) (Nat.le_trans (ok.q4 k t hk) (by decide)) hr⟩
/-- .. with its parts named. -/
structure RfN (G : Gh) (b : Nat) (O : List (Nat × Obj)) (m : RfS) (vn : Value) (lb so cap : Nat) (lc : List Value) (R : List RowR) (H : List (Nat × Obj)) : Prop where
  ok : RfOk m
  e : O = (b, rootR m vn (.slice (some ⟨lb, so, none⟩) 8 cap)) :: (lb, .cells (List.toArray lc) 69 (0, 0)) :: H
  n : Sl G vn m.crew.nodes
  o : Ow G (some (lb, 69, lc)) 69 (.slice (some ⟨lb, so, none⟩) 8 cap) R
  l : RfL G R H m.l
theorem RfO.names {G : Gh} {b : Nat} {O : List (Nat × Obj)} {m : RfS} (h : RfO G b O m) : ∃ vn lb so cap lc R H, RfN G b O m vn lb so cap lc R H := by
  obtain ⟨ok, vn, vl, lb, lc, R, H, h1, h2, h3, h4⟩ := h
  obtain ⟨so, cap, rfl⟩ := h3.formH
  have e : R.length = 8 := h4.length.trans ok.len
  rw [e] at h1 h3
  exact ⟨vn, lb, so, cap, lc, R, H, ok, h1, h2, h3, h4⟩
section
variable {G G' : Gh} {b : Nat} {O : List (Nat × Obj)} {m : RfS} {vn : Value} {lb so cap : Nat} {lc : List Value} {R : List RowR} {H : List (Nat × Obj)}
theorem RfN.rfo (h : RfN G b O m vn lb so cap lc R H) : RfO G b O m := ⟨h.ok, vn, _, lb, lc, R, H, h.e, h.n, h.o, h.l⟩
theorem RfN.mono (hg : GLe G G') (h : RfN G b O m vn lb so cap lc R H) : RfN G' b O m vn lb so cap lc R H := ⟨h.ok, h.e, h.n.mono hg, h.o.mono hg, h.l.mono hg⟩
abbrev Hd (w : World) (O : List (Nat × Obj)) : Prop := ∀ x ∈ O, w.heap[x.1]? = some x.2
theorem cells_at {w : World} {b o : Nat} {cs : List Value} {T : TypeId} {v : Value} (hw : w.heap[b]? = some (.cells cs.toArray T (0, 0))) (hv : cs[o]? = some v) : w.cell? ⟨b, o, none⟩ = some v := by
  rw [World.cell?, hw]; simpa using hv
/-- The first block's cells. -/
theorem RfN.cell (h : RfN G b O m vn lb so cap lc R H) {w : World} (hw : Hd w O) {o : Nat} {v : Value} (hv : [.int .i64 m.crew.faults, vn, .int .i64 m.self, .int .i64 m.low, .slice (some ⟨lb, so, none⟩) 8 cap][o]? = some v) : w.cell? ⟨b, o, none⟩ = some v :=
  cells_at (hw _ (by rw [h.e]; exact List.mem_cons_self ..)) hv
theorem cells_row {w : World} {b : Nat} {cs : List Value} {T : TypeId} (hw : w.heap[b]? = some (.cells cs.toArray T (0, 0))) {o n : Nat} {row : List Value} (hr : (cs.drop o).take n = row) : w.rangeAt b o row := by
  intro j v hv
  subst hr
  rw [List.getElem?_take] at hv
  split at hv
  · rw [List.getElem?_drop] at hv; exact cells_at hw hv
  · cases hv
theorem RfN.crew (h : RfN G b O m vn lb so cap lc R H) {w : World} (hw : Hd w O) : w.rangeAt b 0 [.int .i64 m.crew.faults, vn] :=
  cells_row (hw _ (by rw [h.e]; exact List.mem_cons_self ..)) (n := 2) rfl
theorem Ow.rowAt {α : Type} [Rp α] {g T so k cap i : Nat} {cs : List Value} {xs : List α} {x : α} (h : Ow G (some (g, T, cs)) T (.slice (some ⟨g, so, none⟩) k cap) xs) (hx : xs[i]? = some x) :
    ∃ row, Rp.Is G row x ∧ ∀ w : World, w.heap[g]? = some (.cells cs.toArray T (0, 0)) → w.rangeAt g (so + i * Rp.sz α) row := by
  obtain ⟨rows, ⟨h1, h2⟩, h3⟩ := h
  obtain ⟨row, hrow, hrx⟩ := h3.get hx
  obtain ⟨_, so', cap', hsl, h4, h5, h6, h7⟩ := h2
  obtain rfl : so = so' := by injection hsl with e1; injection e1 with e1; injection e1
  refine ⟨row, hrx, fun w hw j v hj => cells_at hw ?_⟩
  have hf := flatten_get h1 hrow hj
  rw [← h7, List.getElem?_take] at hf
  split at hf
  · rw [List.getElem?_drop] at hf
    rw [← hf]; congr 1; omega
  · cases hf
/-- A row of the list, as it reads. -/
structure RfE (G : Gh) (O : List (Nat × Obj)) (R : List RowR) (lb so i : Nat) (t : RSlot) (pv cv : Vs) (qv : Qv) : Prop where
  row : ∀ w : World, Hd w O → w.rangeAt lb (so + i * 71) (RowR.cells ⟨t.last, pv, cv, t.p, qv⟩)
  q : ∀ G', GLe G G' → HasL G' O → Sl G' qv.v t.q
  rv : ∀ r, R[i]? = some r → r.pv = pv ∧ r.cv = cv ∧ r.qv = qv
  pn : pv.n = t.pre.length
  cn : cv.n = t.com.length
  qn : qv.n = t.q.length
  pre : ∀ k y, t.pre[k]? = some y → ∀ w : World, Hd w O → w.rangeAt pv.b (0 + k * 34) y.cells
  com : ∀ k y, t.com[k]? = some y → ∀ w : World, Hd w O → w.rangeAt cv.b (0 + k * 34) y.cells
theorem RfE.mono {i : Nat} {t : RSlot} {pv cv : Vs} {qv : Qv} (hg : GLe G G') (h : RfE G O R lb so i t pv cv qv) : RfE G' O R lb so i t pv cv qv := ⟨h.row, fun G2 h2 h3 => h.q G2 (fun b o hb => h2 b o (hg b o hb)) h3, h.rv, h.pn, h.cn, h.qn, h.pre, h.com⟩
/-- .. looked at, where its blocks are lent. -/
theorem RfE.qs {i : Nat} {t : RSlot} {pv cv : Vs} {qv : Qv} (h : RfE G O R lb so i t pv cv qv) (hl : HasL G O) : Sl G (.slice qv.A qv.n qv.cap) t.q := h.q G (fun _ _ h => h) hl
theorem ow_q {o : Option Bx} {T : Nat} {x : Qv} {l : List Stand} (h : Ow G o T x.v l) : x.n = l.length := by
  obtain ⟨A, cap, e⟩ := h.form; injection e
theorem ow_n {g T : Nat} {x : Vs} {cs : List Value} {l : List RVt} (h : Ow G (some (g, T, cs)) T x.v l) : x.n = l.length := by
  obtain ⟨A, cap, e⟩ := h.form; injection e
theorem RfN.row (h : RfN G b O m vn lb so cap lc R H) {i : Nat} {t : RSlot} (hi : m.l[i]? = some t) : ∃ pv cv qv, RfE G O R lb so i t pv cv qv := by
  obtain ⟨x, H', e1, e2, e3, _⟩ := h.l.at_ hi
  obtain ⟨row, hrow, hr⟩ := Ow.rowAt h.o e1
  obtain rfl : row = x.r.cells := hrow
  have hH : ∀ y ∈ x.blocks, y ∈ O := fun y hy => by
    rw [h.e]; exact List.mem_cons_of_mem _ (List.mem_cons_of_mem _ (e3.mem_iff.2 (List.mem_append_left _ hy)))
  refine ⟨x.r.pv, x.r.cv, x.r.qv, fun w hw => ?_, fun G2 h1 h2 => (e2.q.mono h1).frozenO (fun y hy => h2 y (hH y (by simp [Rw.blocks, hy]))) (Nat.le_trans (h.ok.q4 i t hi) (by decide)), fun r hr => by rw [e1] at hr; injection hr with hr; subst hr; exact ⟨rfl, rfl, rfl⟩, ow_n e2.pre, ow_n e2.com, ow_q e2.q, fun k y hk w hw => ?_, fun k y hk w hw => ?_⟩
  · have := hr w (hw (lb, .cells (List.toArray lc) 69 (0, 0)) (by rw [h.e]; simp))
    rw [show (⟨t.last, x.r.pv, x.r.cv, t.p, x.r.qv⟩ : RowR) = x.r from by rw [← e2.last, ← e2.p]]
    exact this
  · obtain ⟨row, rfl, hr⟩ := Ow.rowAt (so := 0) e2.pre hk
    exact hr w (hw (x.r.pv.b, .cells x.c1.toArray 66 (0, 0)) (hH _ (by simp [Rw.blocks])))
  · obtain ⟨row, rfl, hr⟩ := Ow.rowAt (so := 0) e2.com hk
    exact hr w (hw (x.r.cv.b, .cells x.c2.toArray 66 (0, 0)) (hH _ (by simp [Rw.blocks])))
theorem RfN.lt (h : RfN G b O m vn lb so cap lc R H) {i : Nat} {t : RSlot} (hi : m.l[i]? = some t) : i < 8 := by
  have := (List.getElem?_eq_some_iff.1 hi).1; rw [h.ok.len] at this; exact this
section
variable {i : Nat} {t : RSlot} {pv cv : Vs} {vq : Qv} {w : World}
theorem rowcells (t : RSlot) (pv cv : Vs) (vq : Qv) : RowR.cells ⟨t.last, pv, cv, t.p, vq⟩ = t.last.cells ++ (pv.v :: cv.v :: (t.p.cells ++ [vq.v])) := by simp [RowR.cells, RVt.cells]
theorem rangePart {b o k : Nat} {row part : List Value} (h : w.rangeAt b o row) (hp : ∀ j v, part[j]? = some v → row[k + j]? = some v) : w.rangeAt b (o + k) part := by
  intro j v hv
  have := h (k + j) v (hp j v hv)
  rw [Nat.add_assoc]; exact this
theorem RfE.last (h : RfE G O R lb so i t pv cv vq) (hw : Hd w O) : w.rangeAt lb (so + i * 71) t.last.cells := by
  have := h.row w hw
  rw [rowcells] at this
  exact rangePart (k := 0) this fun j v hv => by rw [Nat.zero_add, List.getElem?_append_left (List.getElem?_eq_some_iff.1 hv).1]; exact hv
theorem rangeCell {b o k : Nat} {row : List Value} {v : Value} (h : w.rangeAt b o row) (hv : row[k]? = some v) : w.cell? ⟨b, o + k, none⟩ = some v := h k v hv
theorem RfE.pvc (h : RfE G O R lb so i t pv cv vq) (hw : Hd w O) : w.cell? ⟨lb, so + i * 71 + 34, none⟩ = some pv.v := by
  have := h.row w hw
  rw [rowcells] at this
  exact rangeCell this (by rw [List.getElem?_append_right (by simp)]; simp)
theorem RfE.cvc (h : RfE G O R lb so i t pv cv vq) (hw : Hd w O) : w.cell? ⟨lb, so + i * 71 + 35, none⟩ = some cv.v := by
  have := h.row w hw
  rw [rowcells] at this
  exact rangeCell this (by rw [List.getElem?_append_right (by simp)]; simp)
theorem RfE.qc (h : RfE G O R lb so i t pv cv vq) (hw : Hd w O) : w.cell? ⟨lb, so + i * 71 + 70, none⟩ = some (.slice vq.A vq.n vq.cap) := by
  have := h.row w hw
  rw [rowcells, show t.last.cells ++ (pv.v :: cv.v :: (t.p.cells ++ [vq.v])) = (t.last.cells ++ (pv.v :: cv.v :: t.p.cells)) ++ [vq.v] from by simp] at this
  exact rangeCell this (by rw [List.getElem?_append_right (by simp)]; simp; rfl)
end
end
end Go.Proofs.YtljcgggflgbenaaGreatDoor
