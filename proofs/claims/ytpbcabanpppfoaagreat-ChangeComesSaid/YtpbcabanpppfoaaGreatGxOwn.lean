/- Slices that the call itself makes and appends to; literals; slices of slices. No condition. -/
import Derived.Test.YtpbcabanpppfoaaGreatGxDraw
set_option linter.all false
namespace Go.Gx
open Go Go.RowKit
variable {M : Mu}

/-- A slice of the call's own: nil, or the head of a block o. -/
def OwnV (o : Option Bx) (T sz : Nat) (v : Value) (rows : List (List Value)) : Prop :=
  (∀ r ∈ rows, r.length = sz) ∧
  match o with
  | none => rows = [] ∧ v = .slice none 0 0
  | some (g, T', cs) => T' = T ∧ ∃ off cap, v = .slice (some ⟨g, off, none⟩) rows.length cap ∧ rows.length ≤ cap ∧ cap ≤ maxLen ∧ cs.length = off + cap * sz ∧ (cs.drop off).take (rows.length * sz) = rows.flatten
def Rows2 {α : Type} [Rp α] (G : Gh) : List (List Value) → List α → Prop
  | [], [] => True
  | r :: rs, x :: xs => Rp.Is G r x ∧ Rows2 G rs xs
  | _, _ => False
section
variable {α : Type} [Rp α] {G G' : Gh}
theorem Rows2.length : ∀ {rs : List (List Value)} {xs : List α}, Rows2 G rs xs → rs.length = xs.length
  | [], [], _ => rfl
  | _ :: _, _ :: _, h => by simp [Rows2.length h.2]
  | [], _ :: _, h => h.elim
  | _ :: _, [], h => h.elim
theorem Rows2.mono (hg : GLe G G') : ∀ {rs : List (List Value)} {xs : List α}, Rows2 G rs xs → Rows2 G' rs xs
  | [], [], _ => trivial
  | _ :: _, _ :: _, h => ⟨Rp.mono hg h.1, Rows2.mono hg h.2⟩
  | [], _ :: _, h => h.elim
  | _ :: _, [], h => h.elim
theorem Rows2.append : ∀ {rs : List (List Value)} {xs : List α} {rs' : List (List Value)} {xs' : List α}, Rows2 G rs xs → Rows2 G rs' xs' → Rows2 G (rs ++ rs') (xs ++ xs')
  | [], [], _, _, _, h => h
  | _ :: _, _ :: _, _, _, h, h' => ⟨h.1, Rows2.append h.2 h'⟩
  | [], _ :: _, _, _, h, _ => h.elim
  | _ :: _, [], _, _, h, _ => h.elim
theorem Rows2.get : ∀ {rs : List (List Value)} {xs : List α}, Rows2 G rs xs → ∀ {k : Nat} {x : α}, xs[k]? = some x → ∃ r, rs[k]? = some r ∧ Rp.Is G r x
  | [], [], _, k, x, hk => by simp at hk
  | r :: rs, y :: xs, h, k, x, hk => by
    cases k with
    | zero => simp at hk; subst hk; exact ⟨r, by simp, h.1⟩
    | succ k => obtain ⟨r', h1, h2⟩ := Rows2.get h.2 (k := k) (by simpa using hk); exact ⟨r', by simpa using h1, h2⟩
  | [], _ :: _, h, _, _, _ => h.elim
  | _ :: _, [], h, _, _, _ => h.elim
theorem Rows2.len : ∀ {rs : List (List Value)} {xs : List α}, Rows2 G rs xs → ∀ r ∈ rs, r.length = Rp.sz α ∧ ∀ u ∈ r, u.oneCell' = true
  | [], [], _, r, hr => by simp at hr
  | a :: rs, y :: xs, h, r, hr => by
    rcases List.mem_cons.1 hr with rfl | hr
    · exact ⟨Rp.len h.1, Rp.one h.1⟩
    · exact Rows2.len h.2 r hr
  | [], _ :: _, h, _, _ => h.elim
  | _ :: _, [], h, _, _ => h.elim
/-- .. that reads as a list. -/
def Ow (G : Gh) (o : Option Bx) (T : Nat) (v : Value) (xs : List α) : Prop := ∃ rows, OwnV o T (Rp.sz α) v rows ∧ Rows2 G rows xs
theorem Ow.mono {o : Option Bx} {T : Nat} {v : Value} {xs : List α} (hg : GLe G G') (h : Ow G o T v xs) : Ow G' o T v xs := by
  obtain ⟨rows, h1, h2⟩ := h
  exact ⟨rows, h1, h2.mono hg⟩
theorem Ow.nil_ (G : Gh) (T : Nat) : Ow G none T (.slice none 0 0) ([] : List α) := ⟨[], ⟨by simp, rfl, rfl⟩, trivial⟩
theorem Ow.form {o : Option Bx} {T : Nat} {v : Value} {xs : List α} (h : Ow G o T v xs) : ∃ A cap, v = .slice A xs.length cap := by
  obtain ⟨rows, ⟨_, h2⟩, h3⟩ := h
  have hl := h3.length
  cases o with
  | none => obtain ⟨rfl, rfl⟩ := h2; simp at hl; rw [List.length_eq_zero_iff.1 hl.symm]; exact ⟨_, _, rfl⟩
  | some x => obtain ⟨g, T', cs⟩ := x; obtain ⟨_, off, cap, rfl, _⟩ := h2; exact ⟨_, cap, by rw [hl]⟩
theorem Ow.len {o : Option Bx} {T : Nat} {A : Option Addr} {n cap : Nat} {xs : List α} (h : Ow G o T (.slice A n cap) xs) : n = xs.length := by
  obtain ⟨A', cap', h1⟩ := h.form
  injection h1

theorem flatten_get {sz : Nat} : ∀ {rows : List (List Value)}, (∀ r ∈ rows, r.length = sz) → ∀ {k : Nat} {r : List Value}, rows[k]? = some r → ∀ {j : Nat} {u : Value}, r[j]? = some u → rows.flatten[k * sz + j]? = some u
  | [], _, k, r, hk, _, _, _ => by simp at hk
  | a :: rows, h, k, r, hk, j, u, hj => by
    have ha := h a (by simp)
    cases k with
    | zero =>
      simp at hk; subst hk
      rw [List.flatten_cons, Nat.zero_mul, Nat.zero_add, List.getElem?_append_left (List.getElem?_eq_some_iff.1 hj).1]
      exact hj
    | succ k =>
      have ih := flatten_get (fun r hr => h r (List.mem_cons_of_mem _ hr)) (k := k) (by simpa using hk) hj
      rw [List.flatten_cons, List.getElem?_append_right (by rw [ha, Nat.add_mul, Nat.one_mul]; omega)]
      rw [ha, show (k + 1) * sz + j - sz = k * sz + j from by rw [Nat.add_mul, Nat.one_mul]; omega]
      exact ih
theorem flatten_len {sz : Nat} : ∀ {rows : List (List Value)}, (∀ r ∈ rows, r.length = sz) → rows.flatten.length = rows.length * sz
  | [], _ => by simp
  | a :: rows, h => by
    rw [List.flatten_cons, List.length_append, h a (by simp), flatten_len (fun r hr => h r (List.mem_cons_of_mem _ hr))]
    simp [Nat.add_mul, Nat.add_comm]
/-- It is let stay. -/
theorem Ow.freeze {w0 w : World} {G0 : Gh} {n T : Nat} {o : Option Bx} {v : Value} {xs : List α} {bl : List Bx} (h : Ow G o T v xs) (hC : Cx w0 G0 G w M) (hn : w0.heap.size ≤ n) (hB : Bxs G w n (o.toList ++ bl) M) (hm : xs.length ≤ maxL) (hmay : ∀ m ∈ M.may, m ∈ bl.map (·.1) ∨ m ∈ M.held.map (·.1) := by simp) :
    ∃ G', GLe G G' ∧ Cx w0 G0 G' w M ∧ Bxs G' w n bl M ∧ Sl G' v xs := by
  obtain ⟨rows, ⟨hr, h2⟩, h3⟩ := h
  have hl := h3.length
  cases o with
  | none =>
    obtain ⟨rfl, rfl⟩ := h2
    have : xs = [] := List.length_eq_zero_iff.1 (by simpa using hl.symm)
    subst this
    exact ⟨G, fun _ _ h => h, hC, by simpa using hB, Sl.nil_ G⟩
  | some x =>
    obtain ⟨g, T', cs⟩ := x
    obtain ⟨rfl, off, cap, rfl, hle, hcap, hcs, htake⟩ := h2
    obtain ⟨k1, k2, k3⟩ := freeze0 hC hn (by simpa using hB) hmay
    refine ⟨_, k1, k2, k3, ⟨some ⟨g, off, none⟩, cap, by rw [hl], by omega, hm, fun k x hk => ?_⟩⟩
    obtain ⟨r, hrk, hrx⟩ := h3.get hk
    refine ⟨g, off, r, rfl, ⟨_, _, _, Gh.add_self, fun j u hu => ?_⟩, Rp.mono k1 hrx⟩
    have hf := flatten_get hr hrk hu
    rw [← htake, List.getElem?_take] at hf
    split at hf
    · rw [List.getElem?_drop, ← Nat.add_assoc] at hf; simpa using hf
    · cases hf

theorem flatten_inv {sz : Nat} : ∀ {rows : List (List Value)}, (∀ r ∈ rows, r.length = sz) → ∀ {j : Nat} {u : Value}, rows.flatten[j]? = some u → ∃ k r j', rows[k]? = some r ∧ r[j']? = some u ∧ j = k * sz + j'
  | [], _, j, u, h => by simp at h
  | a :: rows, hl, j, u, h => by
    have ha := hl a (by simp)
    rw [List.flatten_cons] at h
    by_cases hj : j < a.length
    · rw [List.getElem?_append_left hj] at h
      exact ⟨0, a, j, by simp, h, by simp⟩
    · rw [List.getElem?_append_right (by omega)] at h
      obtain ⟨k, r, j', h1, h2, h3⟩ := flatten_inv (fun r hr => hl r (List.mem_cons_of_mem _ hr)) h
      exact ⟨k + 1, r, j', by simpa using h1, h2, by rw [Nat.add_mul, Nat.one_mul]; omega⟩
/-- The rows behind a slice that stays. -/
theorem Sl.rows {v : Value} {xs : List α} (h : Sl G v xs) : ∃ rows, Rows2 G rows xs ∧ ∃ A cap, v = .slice A xs.length cap ∧ ∀ b o, A = some ⟨b, o, none⟩ → ∀ j u, rows.flatten[j]? = some u → ∃ cs T fz, G b = some (.cells cs T fz) ∧ cs[o + j]? = some u := by
  obtain ⟨A, cap, h1, h2, h3, h4⟩ := h
  -- the rows, one by one
  have : ∃ rows : List (List Value), Rows2 G rows xs ∧ ∀ k x, xs[k]? = some x → ∃ b o r, A = some ⟨b, o, none⟩ ∧ rows[k]? = some r ∧ RowG G b (o + k * Rp.sz α) r := by
    clear h1 h2 h3
    -- by the list's end
    have gen : ∀ (ys : List α) (m : Nat), (∀ k x, ys[k]? = some x → ∃ b o row, A = some ⟨b, o, none⟩ ∧ RowG G b (o + (m + k) * Rp.sz α) row ∧ Rp.Is G row x) →
        ∃ rows : List (List Value), Rows2 G rows ys ∧ ∀ k x, ys[k]? = some x → ∃ b o r, A = some ⟨b, o, none⟩ ∧ rows[k]? = some r ∧ RowG G b (o + (m + k) * Rp.sz α) r := by
      intro ys
      induction ys with
      | nil => intro m _; exact ⟨[], trivial, fun k x hk => by simp at hk⟩
      | cons y ys ih =>
        intro m hm
        obtain ⟨b, o, row, hA, hrow, his⟩ := hm 0 y (by simp)
        obtain ⟨rows, hr, hg⟩ := ih (m + 1) (fun k x hk => by
          obtain ⟨b', o', row', hA', hrow', his'⟩ := hm (k + 1) x (by simpa using hk)
          exact ⟨b', o', row', hA', by rwa [show m + 1 + k = m + (k + 1) from by omega], his'⟩)
        refine ⟨row :: rows, ⟨his, hr⟩, fun k x hk => ?_⟩
        cases k with
        | zero => exact ⟨b, o, row, hA, by simp, by simpa using hrow⟩
        | succ k =>
          obtain ⟨b', o', r', hA', hr', hrow'⟩ := hg k x (by simpa using hk)
          exact ⟨b', o', r', hA', by simpa using hr', by rwa [show m + (k + 1) = m + 1 + k from by omega]⟩
    obtain ⟨rows, hr, hg⟩ := gen xs 0 (fun k x hk => by
      obtain ⟨b, o, row, e1, e2, e3⟩ := h4 k x hk
      exact ⟨b, o, row, e1, by rwa [Nat.zero_add], e3⟩)
    exact ⟨rows, hr, fun k x hk => by
      obtain ⟨b, o, r, e1, e2, e3⟩ := hg k x hk
      exact ⟨b, o, r, e1, e2, by rwa [Nat.zero_add] at e3⟩⟩
  obtain ⟨rows, hr, hg⟩ := this
  refine ⟨rows, hr, A, cap, h1, fun b o hA j u hj => ?_⟩
  obtain ⟨k, r, j', hk, hj', rfl⟩ := flatten_inv (fun r hr' => (hr.len r hr').1) hj
  have hkl : k < xs.length := by rw [← hr.length]; exact (List.getElem?_eq_some_iff.1 hk).1
  obtain ⟨b', o', r', e1, e2, ⟨cs, T, fz, hG, hc⟩⟩ := hg k xs[k] (List.getElem?_eq_getElem hkl)
  rw [hA] at e1
  injection e1 with e1
  injection e1 with e1 e1'
  subst e1; subst e1'
  rw [hk] at e2
  injection e2 with e2
  subst e2
  exact ⟨cs, T, fz, hG, by rw [← Nat.add_assoc]; exact hc j' u hj'⟩

/-! ### append -/
section
variable {P : Program} {w w0 : World} {G0 : Gh}
def elemOk (P : Program) (t e sz bytes : Nat) : Bool :=
  (match P.underlying t with | some (.slice e') => Nat.beq e e' | _ => false) &&
  (match P.info? e with | some i => Nat.beq i.size sz && Nat.beq i.bytes bytes && (match i.zero with | some z => Nat.beq z.cells.size sz | none => false) | none => false)
theorem elemOk_of {t e sz bytes : Nat} (h : elemOk P t e sz bytes = true) : P.underlying t = some (.slice e) ∧ ∃ i z, P.info? e = some i ∧ i.zero = some z ∧ i.size = sz ∧ i.bytes = bytes ∧ z.cells.size = sz := by
  unfold elemOk at h
  rw [Bool.and_eq_true] at h
  obtain ⟨h1, h2⟩ := h
  constructor
  · revert h1
    split
    · rename_i e' hu; intro h1; rw [hu, Nat.eq_of_beq_eq_true h1]
    · intro h; cases h
  · cases hi : P.info? e with
    | none => simp [hi] at h2
    | some i =>
      cases hz : i.zero with
      | none => simp [hi, hz] at h2
      | some z =>
        simp only [hi, hz, Bool.and_eq_true] at h2
        exact ⟨i, z, rfl, hz, Nat.eq_of_beq_eq_true h2.1.1, Nat.eq_of_beq_eq_true h2.1.2, Nat.eq_of_beq_eq_true h2.2⟩
theorem run_append_empty {t ty e : Nat} {i : TypeInfo} (ht : P.underlying t = some (.slice e)) (hi : P.info? e = some i) {A B : Option Addr} {n c cap : Nat} (hc : n ≤ cap) :
    (Builtin.append_ #[t, t] ty #[.slice A n cap, .slice B 0 c]).run P w = .ok (.slice A n cap) w := by
  cases A <;> cases B <;> simp [Builtin.append_, run_underlying ht, sizeOf, typeInfo, hi, Builtin.lenOf, Builtin.firstCells, hc, loadCells, loadCellsFrom, storeCells]
theorem grown_ow {e sz : Nat} {z : Value} {rows news : List (List Value)} (n old : Nat) (hz : z.cells.size = sz) (hr : ∀ r ∈ rows ++ news, r.length = sz) (hn : n = (rows ++ news).length) (hm : n ≤ maxLen) :
    OwnV (some (w.heap.size, e, (rows.flatten.toArray ++ news.flatten.toArray ++ Builtin.zeroCells z.cells (grownCap w n old e - n)).toList)) e sz (.slice (some ⟨w.heap.size, 0, none⟩) n (grownCap w n old e)) (rows ++ news) := by
  have hge := grownCap_ge w n old e
  have h1 := flatten_len (rows := rows) (fun r h => hr r (by simp [h]))
  have h2 := flatten_len (rows := news) (fun r h => hr r (by simp [h]))
  have hlen : rows.length + news.length = n := by rw [hn, List.length_append]
  refine ⟨hr, rfl, 0, _, by rw [← hn], by rw [← hn]; exact hge, grownCap_le_maxLen w n old e hm, ?_, ?_⟩
  · simp only [Array.toList_append, List.length_append, h1, h2, Array.length_toList, size_zeroCells, hz, ← Nat.add_mul, Nat.zero_add]
    congr 1; omega
  · simp only [Array.toList_append, List.append_assoc, List.drop_zero]
    rw [← List.append_assoc, List.flatten_append, List.length_append, Nat.add_mul, ← h1, ← h2, ← List.length_append]
    exact List.take_left
theorem run_append_at {P : Program} (w : World) {t ty e : TypeId} {i : TypeInfo} (ht : P.underlying t = some (.slice e)) (hi : P.info? e = some i) {g off sLen sCap : Nat} {cur : List Value} (hg : w.heap[g]? = some (.cells cur.toArray e (0, 0)))
    {a : Addr} {m c : Nat} {news : List Value} (hl : news.length = m * i.size) (hnews : ∀ j u, news[j]? = some u → w.cell? (a.add j) = some u) (h1 : ∀ u ∈ news, u.oneCell' = true)
    (hroom : sLen + m ≤ sCap) (hfit : off + sLen * i.size + news.length ≤ cur.length) :
    (Builtin.append_ #[t, t] ty #[.slice (some ⟨g, off, none⟩) sLen sCap, .slice (some a) m c]).run P w =
      .ok (.slice (some ⟨g, off, none⟩) (sLen + m) sCap) (w.setRow g (cur.take (off + sLen * i.size) ++ news ++ cur.drop (off + sLen * i.size + news.length)).toArray) := by
  have hf := run_firstCells_some (P := P) w i.size m a m c news hl hnews
  have hst := run_storeCells_at P g (off + sLen * i.size) e news 0 cur.toArray w hg (by simpa using hfit) h1
  simp only [Nat.add_zero] at hst
  simp [Builtin.append_, run_underlying ht, sizeOf, typeInfo, hi, Builtin.lenOf, hroom, hf, Addr.add_mid, hst]
/-- append of a slice that stays, onto one of the call's own. -/
theorem run_append_ow {t ty e bytes n : Nat} {o : Option Bx} {v v2 : Value} {xs ys : List α} {bl : List Bx} (he : elemOk P t e (Rp.sz α) bytes = true) (hC : Cx w0 G0 G w M) (hn : w0.heap.size ≤ n) (hnw : n ≤ w.heap.size) (hB : Bxs G w n (o.toList ++ bl) M)
    (hO : Ow G o e v xs) (hS : Sl G v2 ys) (hm : xs.length + ys.length ≤ maxLen) (hb : (xs.length + ys.length) * bytes ≤ 140737488355328) :
    ∃ v' o' w', (Builtin.append_ #[t, t] ty #[v, v2]).run P w = .ok v' w' ∧ Cx w0 G0 G w' M ∧ Bxs G w' n (o'.toList ++ bl) M ∧ Ow G o' e v' (xs ++ ys) ∧ (∀ b, b < w.heap.size → (∀ x, o = some x → b ≠ x.1) → w'.heap[b]? = w.heap[b]?) ∧ w.heap.size ≤ w'.heap.size := by
  obtain ⟨ht, i, z, hi, hz, hsz, hby, hzs⟩ := elemOk_of he
  obtain ⟨rows, ⟨hrl, hrest⟩, hrx⟩ := hO
  obtain ⟨news, hnx, A, c, rfl, hcell⟩ := hS.rows
  have hl1 := hrx.length
  have hl2 := hnx.length
  have hone : ∀ u ∈ news.flatten, u.oneCell' = true := by
    intro u hu
    obtain ⟨r, hr, hur⟩ := List.mem_flatten.1 hu
    exact (hnx.len r hr).2 u hur
  have hnl := fun r hr => (hnx.len r hr).1
  have hnf := flatten_len (rows := news) hnl
  have hall : ∀ r ∈ rows ++ news, r.length = Rp.sz α := by
    intro r hr
    rcases List.mem_append.1 hr with h | h
    · exact hrl r h
    · exact hnl r h
  by_cases hy : ys.length = 0
  · have hy' : ys = [] := List.length_eq_zero_iff.1 hy
    subst hy'
    refine ⟨v, o, w, ?_, hC, hB, by rw [List.append_nil]; exact ⟨rows, ⟨hrl, hrest⟩, hrx⟩, fun _ _ _ => rfl, Nat.le_refl _⟩
    cases o with
    | none => obtain ⟨_, rfl⟩ := hrest; exact run_append_empty ht hi (Nat.le_refl _)
    | some x => obtain ⟨g, T', cs⟩ := x; obtain ⟨_, off, cap, rfl, hcap, _⟩ := hrest; exact run_append_empty ht hi hcap
  · -- the source has an address
    have hA : ∃ b oo, A = some ⟨b, oo, none⟩ := by
      obtain ⟨A', c', e1, _, _, e4⟩ := hS
      injection e1 with e1
      obtain ⟨b, oo, _, e5, _⟩ := e4 0 ys[0] (List.getElem?_eq_getElem (by omega))
      exact ⟨b, oo, by rw [e1, e5]⟩
    obtain ⟨sb, so, rfl⟩ := hA
    have hnews : ∀ j u, news.flatten[j]? = some u → w.cell? ((⟨sb, so, none⟩ : Addr).add j) = some u := by
      intro j u hj
      obtain ⟨cs, T, fz, hG, hc⟩ := hcell sb so rfl j u hj
      rw [Addr.add_mid, World.cell?, hC.holds _ _ hG]
      exact hc
    have hnl' : news.flatten.length = ys.length * i.size := by rw [hnf, hl2, hsz]
    cases o with
    | none =>
      obtain ⟨rfl, rfl⟩ := hrest
      have hx : xs = [] := List.length_eq_zero_iff.1 (by simpa using hl1.symm)
      subst hx
      simp only [List.length_nil, Nat.zero_add] at hm hb
      have hr := run_append_nil (P := P) w t ty e i z ht hi hz ⟨sb, so, none⟩ ys.length c news.flatten hnl' hnews (by omega) (by simp only [maxLen] at hm; omega) (by rw [hby]; omega)
      have hk := Cx.alloc hC.drew.holds (.cells (news.flatten.toArray ++ Builtin.zeroCells z.cells (grownCap w ys.length 0 e - ys.length)) e)
      refine ⟨_, some (w.heap.size, e, (news.flatten.toArray ++ Builtin.zeroCells z.cells (grownCap w ys.length 0 e - ys.length)).toList), _, hr, hC.drew.trans hk, ?_, ?_, fun b hb _ => Below.heap_alloc w.drew _ b hb, by simp⟩
      · have := (hB.drew).push hC.drew.holds hnw hC.drew.heldLt e (news.flatten.toArray ++ Builtin.zeroCells z.cells (grownCap w ys.length 0 e - ys.length)).toList
        rw [Array.toArray_toList] at this
        exact this
      · refine ⟨news, ?_, by simpa using hnx⟩
        have := grown_ow (w := w) (e := e) (sz := Rp.sz α) (z := z) (rows := []) (news := news) ys.length 0 hzs (by simpa using hnl) (by simp [hl2]) hm
        simpa using this
    | some x =>
      obtain ⟨g, T', cs⟩ := x
      obtain ⟨rfl, off, cap, rfl, hcap, hcm, hcs, htake⟩ := hrest
      have hg := (hB.at_ (g, T', cs) (by simp)).1
      by_cases hroom : rows.length + ys.length ≤ cap
      · have hfit : off + rows.length * i.size + news.flatten.length ≤ cs.length := by
          have := Nat.mul_le_mul_right (Rp.sz α) hroom
          rw [Nat.add_mul] at this
          rw [hnl', hsz, hcs]; omega
        have hr := run_append_at (P := P) (ty := ty) (off := off) w ht hi hg hnl' hnews hone hroom (by simpa using hfit) (c := c)
        refine ⟨_, some (g, T', cs.take (off + rows.length * i.size) ++ news.flatten ++ cs.drop (off + rows.length * i.size + news.flatten.length)), _, hr, hC.setRow' (hB.at_ (g, T', cs) (by simp)).2.1 ((hB.at_ (g, T', cs) (by simp)).2.2.imp (Nat.le_trans hn) id) (hB.apart (g, T', cs) (by simp)) _, ?_, ?_, ?_, by simp⟩
        · have hB' : Bxs G w n ((g, T', cs) :: bl) M := by simpa using hB
          simpa using hB'.set0 (cs.take (off + rows.length * i.size) ++ news.flatten ++ cs.drop (off + rows.length * i.size + news.flatten.length))
        · refine ⟨rows ++ news, ⟨hall, rfl, off, cap, by rw [List.length_append, hl2], by rw [List.length_append]; omega, hcm, ?_, ?_⟩, hrx.append hnx⟩
          · simp only [List.length_append, List.length_take, List.length_drop]
            omega
          · have e1 := flatten_len hrl
            have hlo : off ≤ cs.length := by omega
            have hd : (cs.take (off + rows.length * i.size) ++ news.flatten ++ cs.drop (off + rows.length * i.size + news.flatten.length)).drop off = rows.flatten ++ (news.flatten ++ cs.drop (off + rows.length * i.size + news.flatten.length)) := by
              rw [List.append_assoc, List.drop_append, List.drop_take, Nat.add_sub_cancel_left, hsz, htake, List.length_take, Nat.sub_eq_zero_of_le (by omega), List.drop_zero]
            rw [hd, ← List.append_assoc, List.flatten_append, List.length_append, Nat.add_mul, ← e1, ← hnf, ← List.length_append]
            exact List.take_left
        · intro b hb hne
          exact setRow_other w g b _ (by have := hne _ rfl; simpa using this)
      · have holds : ∀ j u, rows.flatten[j]? = some u → w.cell? ((⟨g, off, none⟩ : Addr).add j) = some u := by
          intro j u hj
          rw [Addr.add_mid, World.cell?, hg]
          rw [← htake, List.getElem?_take] at hj
          split at hj
          · rw [List.getElem?_drop] at hj; simpa using hj
          · cases hj
        have hr := run_append_grow (P := P) w t ty T' i z ht hi hz ⟨g, off, none⟩ rows.length cap rows.flatten (by rw [flatten_len hrl, hsz]) holds ⟨sb, so, none⟩ ys.length c news.flatten hnl' hnews (by omega)
          (by simp only [maxLen] at hm; omega) (growslice_fits (by omega) (by rw [hby, hl1]; exact hb))
        have hk := Cx.alloc hC.drew.holds (.cells (rows.flatten.toArray ++ news.flatten.toArray ++ Builtin.zeroCells z.cells (grownCap w (rows.length + ys.length) cap T' - (rows.length + ys.length))) T')
        refine ⟨_, some (w.heap.size, T', (rows.flatten.toArray ++ news.flatten.toArray ++ Builtin.zeroCells z.cells (grownCap w (rows.length + ys.length) cap T' - (rows.length + ys.length))).toList), _, hr, hC.drew.trans hk, ?_, ⟨rows ++ news, grown_ow (w := w) (rows.length + ys.length) cap hzs hall (by rw [List.length_append, hl2]) (by rw [hl1]; exact hm), hrx.append hnx⟩, fun b hb _ => Below.heap_alloc w.drew _ b hb, by simp⟩
        have hB' : Bxs G w n bl M := (hB.sub (List.sublist_append_right _ _))
        have := (hB'.drew).push hC.drew.holds hnw hC.drew.heldLt T' (rows.flatten.toArray ++ news.flatten.toArray ++ Builtin.zeroCells z.cells (grownCap w (rows.length + ys.length) cap T' - (rows.length + ys.length))).toList
        rw [Array.toArray_toList] at this
        exact this
end
end
end Go.Gx
