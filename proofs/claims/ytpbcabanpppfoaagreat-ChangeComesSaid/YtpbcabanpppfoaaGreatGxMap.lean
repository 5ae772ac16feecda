/- A map of integer keys that the call itself makes; results that are the caller's to write; slices of the call's own lent, cut and written. No condition. -/
import Derived.Test.YtpbcabanpppfoaaGreatGxMore
import Derived.MapKept
set_option linter.all false
namespace Go.Gx
open Go Go.RowKit
variable {M : Mu}

/-! ### Maps of integers that the call makes -/
def MapG (G : Gh) (w : World) (n b : Nat) (kvs : List (Int × Value)) : Prop :=
  ∃ es clock, w.heap[b]? = some (.map es clock) ∧ G b = none ∧ n ≤ b ∧ es.toList.map (fun e => (e.key, e.val)) = kvs.map (fun p => (Value.int .i64 p.1, p.2))
/-- A set: every element 1. -/
def ones (ks : List Int) : List (Int × Value) := ks.map (fun k => (k, .int .i64 1))
section
variable {w0 w w' : World} {G0 G G' : Gh} {n b : Nat} {kvs : List (Int × Value)}
theorem MapG.lt (h : MapG G w n b kvs) : b < w.heap.size := by obtain ⟨es, c, h1, _⟩ := h; exact (Array.getElem?_eq_some_iff.1 h1).1
theorem MapG.ext (h : MapG G w n b kvs) (k : Cx w G G' w') : MapG G' w' n b kvs := by
  have hlt := h.lt
  obtain ⟨es, c, h1, h2, h3, h4⟩ := h
  refine ⟨es, c, (k.old b hlt).trans h1, ?_, h3, h4⟩
  cases hg : G' b with
  | none => rfl
  | some o =>
    rcases k.fresh b o hg with h6 | h6
    · rw [h2] at h6; cases h6
    · omega
theorem MapG.other (h : MapG G w n b kvs) {bl : List Bx} (hB : Bxs G w n bl M) {i bb : Nat} {T : TypeId} {cs : List Value} (hi : bl[i]? = some (bb, T, cs)) (ho : ∀ b', b' ≠ bb → w'.heap[b']? = w.heap[b']?) : MapG G w' n b kvs := by
  obtain ⟨es, c, h1, h2, h3, h4⟩ := h
  have hne : b ≠ bb := by
    rintro rfl
    have := (hB.get hi).1
    rw [h1] at this
    cases this
  exact ⟨es, c, (ho b hne).trans h1, h2, h3, h4⟩
def World.setO (w : World) (r : Nat) (o : Obj) : World := { w with heap := w.heap.setIfInBounds r o }
theorem setO_other (w : World) (r b : Nat) (o : Obj) (h : b ≠ r) : (World.setO w r o).heap[b]? = w.heap[b]? := by simp [World.setO, Ne.symm h]
theorem Cx.setO' (h : Cx w0 G0 G w M) {b : Nat} (hg : G b = none) (hn : w0.heap.size ≤ b ∨ b ∈ M.may) (hh : b ∉ M.held.map (·.1)) (o : Obj) : Cx w0 G0 G (World.setO w b o) M :=
  ⟨fun x u hx => by
    have : x ≠ b := by rintro rfl; rw [hg] at hx; cases hx
    rw [setO_other w b x o this]; exact h.holds x u hx,
   h.os, h.tape, h.output, by simpa [World.setO] using h.size, fun x hx hm => by rw [setO_other w b x o (by rintro rfl; exact hn.elim (fun h1 => by omega) (fun h1 => hm h1))]; exact h.old' x hx hm, h.gle, h.fresh, fun x hx => ⟨by
    have : x.1 ≠ b := fun e => hh (List.mem_map.2 ⟨x, hx, e⟩)
    rw [setO_other w b x.1 o this]; exact (h.held x hx).1, (h.held x hx).2⟩, h.hnd⟩
theorem Cx.setO (h : Cx w0 G0 G w M) {b : Nat} (hg : G b = none) (hn : w0.heap.size ≤ b) (hh : b ∉ M.held.map (·.1)) (o : Obj) : Cx w0 G0 G (World.setO w b o) M := h.setO' hg (.inl hn) hh o
theorem Bxs.setO {bl : List Bx} (h : Bxs G w n bl M) {b : Nat} (hb : ∀ x ∈ bl, x.1 ≠ b) (o : Obj) : Bxs G (World.setO w b o) n bl M :=
  ⟨fun x hx => by rw [setO_other w b x.1 o (hb x hx)]; exact h.at_ x hx, h.nodup, h.apart⟩

end
section
variable {P : Program} {ops : Array Oper} {Q : Exit → Act → World → Prop} {N : Nat} {e : Env} {w w0 : World} {G0 G : Gh} {rest : List Oper} {d : Option Tmp} {ty : TypeId} {pos : String} {af : Array Edge} {bl : List Bx} {kvs : List (Int × Value)}
end

/-! ### Own slices: lent, cut -/
section
variable {α : Type} [Rp α] {P : Program} {w w0 : World} {G0 G : Gh} {n T : Nat} {o : Option Bx} {v : Value} {xs : List α} {bl r : List Bx}
/-- It may be looked at as if it stayed. -/
theorem Ow.look (h : Ow G o T v xs) (hh : Holds G w) (hB : Bxs G w n (bl ++ (o.toList ++ r)) M) (hm : xs.length ≤ maxL) : ∃ G', GLe G G' ∧ Holds G' w ∧ Sl G' v xs := by
  have hC : Cx { w with heap := #[] } (fun _ => none) G w := ⟨hh, rfl, rfl, rfl, Nat.zero_le _, fun b hb _ => absurd hb (by simp), fun b o h => (by cases h), fun b o _ => .inr (Nat.zero_le _), fun _ h => (List.not_mem_nil h).elim, List.nodup_nil⟩
  have hB' : Bxs G w 0 (bl ++ (o.toList ++ r)) := ⟨fun x hx => by obtain ⟨a, b, _⟩ := hB.at_ x hx; exact ⟨a, b, .inl (Nat.zero_le _)⟩, hB.nodup, fun _ _ h => List.not_mem_nil h⟩
  obtain ⟨G', hg, hC', _, hS⟩ := h.freeze' hC (Nat.le_refl _) hB' hm
  exact ⟨G', hg, hC'.holds, hS⟩
theorem Rows2.take : ∀ {rs : List (List Value)} {xs : List α}, Rows2 G rs xs → ∀ m, Rows2 G (rs.take m) (xs.take m)
  | [], [], _, m => by simp; trivial
  | r :: rs, x :: xs, h, 0 => trivial
  | r :: rs, x :: xs, h, m + 1 => ⟨h.1, Rows2.take h.2 m⟩
  | [], _ :: _, h, _ => h.elim
  | _ :: _, [], h, _ => h.elim
theorem Ow.take {A : Option Addr} {k cap : Nat} (h : Ow G o T (.slice A k cap) xs) {m : Nat} (hm : m ≤ xs.length) : Ow G o T (.slice A m cap) (xs.take m) := by
  obtain ⟨rows, ⟨h1, h2⟩, h3⟩ := h
  have hl := h3.length
  refine ⟨rows.take m, ⟨fun r hr => h1 r (List.mem_of_mem_take hr), ?_⟩, h3.take m⟩
  cases o with
  | none =>
    obtain ⟨rfl, h2⟩ := h2
    injection h2 with e1 e2 e3
    subst e1; subst e3
    have : xs = [] := List.length_eq_zero_iff.1 (by simpa using hl.symm)
    subst this
    have : m = 0 := by simpa using hm
    subst this
    exact ⟨rfl, rfl⟩
  | some x =>
    obtain ⟨g, T', cs⟩ := x
    obtain ⟨rfl, off, cap', e, h4, h5, h6, h7⟩ := h2
    injection e with e1 e2 e3
    subst e1; subst e3
    have hlm : (rows.take m).length = m := by rw [List.length_take]; omega
    refine ⟨rfl, off, cap, by rw [hlm], by omega, h5, h6, ?_⟩
    rw [hlm]
    have hf := flatten_len (rows := rows.take m) (fun r hr => h1 r (List.mem_of_mem_take hr))
    rw [hlm] at hf
    have : rows.flatten = (rows.take m).flatten ++ (rows.drop m).flatten := by rw [← List.flatten_append, List.take_append_drop]
    have h8 : (cs.drop off).take (m * Rp.sz α) = ((cs.drop off).take (rows.length * Rp.sz α)).take (m * Rp.sz α) := by
      rw [List.take_take, Nat.min_eq_left (Nat.mul_le_mul_right _ (by omega))]
    rw [h8, h7, this, ← hf, List.take_left]
theorem Ow.capLe {A : Option Addr} {k cap : Nat} (h : Ow G o T (.slice A k cap) xs) : k ≤ cap := by
  obtain ⟨rows, ⟨h1, h2⟩, h3⟩ := h
  cases o with
  | none => obtain ⟨rfl, h2⟩ := h2; injection h2 with e1 e2 e3; omega
  | some x =>
    obtain ⟨g, T', cs⟩ := x
    obtain ⟨rfl, off, cap', e, h4, _⟩ := h2
    injection e with e1 e2 e3
    omega
theorem Ow.addr {A : Option Addr} {k cap : Nat} (h : Ow G o T (.slice A k cap) xs) {i : Nat} (hi : i < xs.length) : ∃ g off cs, o = some (g, T, cs) ∧ A = some ⟨g, off, none⟩ := by
  obtain ⟨rows, ⟨h1, h2⟩, h3⟩ := h
  have hl := h3.length
  cases o with
  | none => obtain ⟨rfl, _⟩ := h2; simp at hl; omega
  | some x =>
    obtain ⟨g, T', cs⟩ := x
    obtain ⟨rfl, off, cap', e, _⟩ := h2
    injection e with e1 e2 e3
    exact ⟨g, off, cs, rfl, e1⟩
end

/-! ### Results that are the caller's -/
section
variable {P : Program} {ops : Array Oper} {Q : Exit → Act → World → Prop} {N : Nat} {e : Env} {w w0 : World} {G0 G : Gh} {rest : List Oper} {d : Option Tmp} {ty : TypeId} {pos : String} {af : Array Edge} {bl r : List Bx}
end
/-! ### Drawn regions that make boxes -/
section
variable {P : Program} {N : Nat} {e : Env} {w w0 : World} {G0 G : Gh} {d : Option Tmp} {ty : TypeId} {pos : String} {af : Array Edge} {gd : Option (Nat × Bool)} {bl : List Bx} {a : Act}
theorem Bxs.setX {n : Nat} {X r : List Bx} {b : Nat} {T : TypeId} {cs : List Value} (h : Bxs G w n (X ++ ([(b, T, cs)] ++ r)) M) (cs' : List Value) : Bxs G (w.setRow b cs'.toArray) n (X ++ ([(b, T, cs')] ++ r)) M :=
  ((h.perm (l' := (b, T, cs) :: (X ++ r)) List.perm_middle).set0 cs').perm List.perm_middle.symm
end

/-! ### A store into an own slice's element -/
section
variable {α : Type} [Rp α] {P : Program} {ops : Array Oper} {Q : Exit → Act → World → Prop} {N : Nat} {e : Env} {w w0 : World} {G0 G : Gh} {rest : List Oper} {d : Option Tmp} {ty : TypeId} {pos : String} {af : Array Edge} {bl r : List Bx}
theorem Rows2.set : ∀ {rs : List (List Value)} {xs : List α}, Rows2 G rs xs → ∀ (i : Nat) {row : List Value} {y : α}, Rp.Is G row y → Rows2 G (rs.set i row) (xs.set i y)
  | [], [], _, i, _, _, _ => by simp; trivial
  | a :: rs, x :: xs, h, 0, _, _, hy => ⟨hy, h.2⟩
  | a :: rs, x :: xs, h, i + 1, _, _, hy => ⟨h.1, Rows2.set h.2 i hy⟩
  | [], _ :: _, h, _, _, _, _ => h.elim
  | _ :: _, [], h, _, _, _, _ => h.elim
theorem flatten_split {sz : Nat} {rows : List (List Value)} (h : ∀ r ∈ rows, r.length = sz) {i : Nat} {row : List Value} (hi : rows[i]? = some row) (row' : List Value) :
    rows.flatten = (rows.take i).flatten ++ (row ++ (rows.drop (i + 1)).flatten) ∧ (rows.set i row').flatten = (rows.take i).flatten ++ (row' ++ (rows.drop (i + 1)).flatten) ∧ (rows.take i).flatten.length = i * sz := by
  have hlt := (List.getElem?_eq_some_iff.1 hi).1
  have e1 : rows = rows.take i ++ (row :: rows.drop (i + 1)) := by
    conv => lhs; rw [← List.take_append_drop i rows]
    rw [drop_get hi]
  have e2 : rows.set i row' = rows.take i ++ (row' :: rows.drop (i + 1)) := List.set_eq_take_append_cons_drop.trans (if_pos hlt)
  refine ⟨?_, ?_, ?_⟩
  · conv => lhs; rw [e1]
    simp
  · rw [e2]; simp
  · rw [flatten_len (fun r hr => h r (List.mem_of_mem_take hr)), List.length_take, Nat.min_eq_left (by omega)]
theorem drawStoreOw {gd : Option (Nat × Bool)} {a : Act} {R : Value → World → Prop} (ha : Fr N a e) {t m off i g T k cap ad so : Nat} {x y0 : Operand} {v : Value} {vs cs : List Value} {xs : List α} {xi y : α} (hC : Cx w0 G0 G w M) (hB : Bxs G w w0.heap.size (bl ++ (Option.toList (some (g, T, cs)) ++ r)) M)
    (hO : Ow G (some (g, T, cs)) T (.slice (some ⟨g, so, none⟩) k cap) xs) (hi : xs[i]? = some xi) (hx : opv e x = some (.pointer (some ⟨g, ad, none⟩))) (had : ad = so + i * Rp.sz α + off) (hy : opv e y0 = some v)
    (ht : (P.info? t).map (·.size) = some m) (hv : v.cells = vs.toArray) (hn : vs.length = m) (hone : vs.all Value.oneCell' = true) (hle : off + m ≤ Rp.sz α)
    (hnew : ∀ row, Rp.Is G row xi → Rp.Is G (row.take off ++ vs ++ row.drop (off + m)) y) 
    (h : ∀ cs' w', Cx w0 G0 G w' M → Bxs G w' w0.heap.size (bl ++ (Option.toList (some (g, T, cs')) ++ r)) M → Ow G (some (g, T, cs')) T (.slice (some ⟨g, so, none⟩) k cap) (xs.set i y) → R undef w') :
    OpR P ⟨d, .store t x y0, ty, pos, af, gd⟩ a w R := by
  subst hn
  obtain ⟨rows, ⟨h1, h2⟩, h3⟩ := hO
  obtain ⟨row, hrow, hrx⟩ := h3.get hi
  have hrl := h1 row (List.mem_of_getElem? hrow)
  obtain ⟨_, so', cap', hsl, h4, h5, h6, h7⟩ := h2
  obtain rfl : so = so' := by injection hsl with e1; injection e1 with e1; injection e1
  have hlt := (List.getElem?_eq_some_iff.1 hrow).1
  obtain ⟨s1, s2, s3⟩ := flatten_split h1 hrow (row.take off ++ vs ++ row.drop (off + vs.length))
  have hrl' : (row.take off ++ vs ++ row.drop (off + vs.length)).length = Rp.sz α := by simp; omega
  have hg := hB.at_ (g, T, cs) (by simp)
  have hmul : i * Rp.sz α + Rp.sz α ≤ rows.length * Rp.sz α := by rw [← Nat.succ_mul]; exact Nat.mul_le_mul_right _ hlt
  have hcap : rows.length * Rp.sz α ≤ cap' * Rp.sz α := Nat.mul_le_mul_right _ h4
  have hfit : ad + vs.length ≤ cs.length := by omega
  have hcs' : ∀ z, (cs.drop so).take (rows.length * Rp.sz α) = z → cs = cs.take so ++ (z ++ (cs.drop so).drop (rows.length * Rp.sz α)) := by rintro z rfl; rw [List.take_append_drop, List.take_append_drop]
  have e0 := hcs' _ h7
  have hst := run_storeCells_at (P := P) g ad T vs 0 cs.toArray w hg.1 (by simpa using hfit) (by simpa using hone)
  have hsz := sizeOf_of ht w
  have hrun : (Instr.storeAt t (.pointer (some ⟨g, ad, none⟩)) v).run P w = .ok () (w.setRow g (cs.take ad ++ vs ++ cs.drop (ad + vs.length)).toArray) := by
    simp only [Instr.storeAt, Instr.sureAddr, storeVar, Sem.run_bind, Sem.run_pure, Result.andThen_ok, hsz, hv, List.size_toArray, ne_eq, not_true_eq_false, if_false]
    simp only [Nat.add_zero] at hst
    simp only [hst]
  have hex : (execOp a.eval ⟨d, .store t x y0, ty, pos, af, gd⟩).run P w = .ok .skip (w.setRow g (cs.take ad ++ vs ++ cs.drop (ad + vs.length)).toArray) := by
    simp [execOp, ha.eval hx, ha.eval hy, hrun]
  unfold OpR
  rw [hex]
  show R undef _
  skip
  refine h _ _ (hC.setRow' hg.2.1 hg.2.2 (hB.apart (g, T, cs) (by simp)) _) (Bxs.setX (X := bl) hB _) ⟨rows.set i (row.take off ++ vs ++ row.drop (off + vs.length)), ⟨?_, rfl, so, cap', by rw [List.length_set]; exact hsl, by rw [List.length_set]; exact h4, h5, ?_, ?_⟩, h3.set i (hnew row hrx)⟩
  · intro q hq
    rcases List.mem_or_eq_of_mem_set hq with hq | rfl
    · exact h1 q hq
    · exact hrl'
  · simp; omega
  · rw [List.length_set, s2]
    -- the cells, in six parts
    have hsl : (cs.take so).length = so := by rw [List.length_take]; omega
    have e5 : cs = cs.take so ++ ((rows.take i).flatten ++ (row.take off ++ ((row.drop off).take vs.length ++ (row.drop (off + vs.length) ++ ((rows.drop (i + 1)).flatten ++ (cs.drop so).drop (rows.length * Rp.sz α)))))) := by
      have hr3 : ∀ Z : List Value, row ++ Z = row.take off ++ ((row.drop off).take vs.length ++ (row.drop (off + vs.length) ++ Z)) := by
        intro Z
        have : row = row.take off ++ ((row.drop off).take vs.length ++ row.drop (off + vs.length)) := by rw [← List.drop_drop, List.take_append_drop, List.take_append_drop]
        conv => lhs; rw [this]
        simp only [List.append_assoc]
      conv => lhs; rw [e0, s1]
      rw [← hr3]
      simp only [List.append_assoc]
    generalize hP : cs.take so = P0 at hsl e5
    generalize hR : (cs.drop so).drop (rows.length * Rp.sz α) = R0 at e5
    have l1 : (row.take off).length = off := by simp; omega
    have l2 : ((row.drop off).take vs.length).length = vs.length := by simp; omega
    have t1 : cs.take ad = P0 ++ ((rows.take i).flatten ++ row.take off) := by
      rw [e5, had, ← s3, show so + (rows.take i).flatten.length + off = (P0 ++ ((rows.take i).flatten ++ row.take off)).length by simp only [List.length_append, hsl, l1]; omega,
        show P0 ++ ((rows.take i).flatten ++ (row.take off ++ ((row.drop off).take vs.length ++ (row.drop (off + vs.length) ++ ((rows.drop (i + 1)).flatten ++ R0))))) = (P0 ++ ((rows.take i).flatten ++ row.take off)) ++ ((row.drop off).take vs.length ++ (row.drop (off + vs.length) ++ ((rows.drop (i + 1)).flatten ++ R0))) by simp only [List.append_assoc]]
      exact List.take_left
    have t2 : cs.drop (ad + vs.length) = row.drop (off + vs.length) ++ ((rows.drop (i + 1)).flatten ++ R0) := by
      rw [e5, had, ← s3, show so + (rows.take i).flatten.length + off + vs.length = (P0 ++ ((rows.take i).flatten ++ (row.take off ++ (row.drop off).take vs.length))).length by simp only [List.length_append, hsl, l1, l2]; omega,
        show P0 ++ ((rows.take i).flatten ++ (row.take off ++ ((row.drop off).take vs.length ++ (row.drop (off + vs.length) ++ ((rows.drop (i + 1)).flatten ++ R0))))) = (P0 ++ ((rows.take i).flatten ++ (row.take off ++ (row.drop off).take vs.length))) ++ (row.drop (off + vs.length) ++ ((rows.drop (i + 1)).flatten ++ R0)) by simp only [List.append_assoc]]
      exact List.drop_left
    rw [t1, t2]
    have hfl := flatten_len h1
    rw [show P0 ++ ((rows.take i).flatten ++ row.take off) ++ vs ++ (row.drop (off + vs.length) ++ ((rows.drop (i + 1)).flatten ++ R0)) = P0 ++ (((rows.take i).flatten ++ (row.take off ++ vs ++ row.drop (off + vs.length) ++ (rows.drop (i + 1)).flatten)) ++ R0) by simp only [List.append_assoc]]
    have hl : ((rows.take i).flatten ++ (row.take off ++ vs ++ row.drop (off + vs.length) ++ (rows.drop (i + 1)).flatten)).length = rows.length * Rp.sz α := by
      have := hfl
      rw [s1] at this
      simp only [List.length_append] at this hrl' ⊢
      omega
    rw [show (P0 ++ (((rows.take i).flatten ++ (row.take off ++ vs ++ row.drop (off + vs.length) ++ (rows.drop (i + 1)).flatten)) ++ R0)).drop so = ((rows.take i).flatten ++ (row.take off ++ vs ++ row.drop (off + vs.length) ++ (rows.drop (i + 1)).flatten)) ++ R0 by rw [← hsl]; exact List.drop_left, ← hl, List.take_left]
theorem wlStoreOw {t m off i g T k cap ad so : Nat} {x y0 : Operand} {v : Value} {vs cs : List Value} {xs : List α} {xi y : α} (hC : Cx w0 G0 G w M) (hB : Bxs G w w0.heap.size (bl ++ (Option.toList (some (g, T, cs)) ++ r)) M)
    (hO : Ow G (some (g, T, cs)) T (.slice (some ⟨g, so, none⟩) k cap) xs) (hi : xs[i]? = some xi) (hx : opv e x = some (.pointer (some ⟨g, ad, none⟩))) (had : ad = so + i * Rp.sz α + off) (hy : opv e y0 = some v)
    (ht : (P.info? t).map (·.size) = some m) (hv : v.cells = vs.toArray) (hn : vs.length = m) (hone : vs.all Value.oneCell' = true) (hle : off + m ≤ Rp.sz α)
    (hnew : ∀ row, Rp.Is G row xi → Rp.Is G (row.take off ++ vs ++ row.drop (off + m)) y) (hd : okD N d = true)
    (h : ∀ cs' w', Cx w0 G0 G w' M → Bxs G w' w0.heap.size (bl ++ (Option.toList (some (g, T, cs')) ++ r)) M → Ow G (some (g, T, cs')) T (.slice (some ⟨g, so, none⟩) k cap) (xs.set i y) → WL P ops Q N rest (e.putO d undef) w') :
    WL P ops Q N (⟨d, .store t x y0, ty, pos, af, none⟩ :: rest) e w := by
  refine wlStep (R := fun v w' => v = undef ∧ ∃ cs', Cx w0 G0 G w' M ∧ Bxs G w' w0.heap.size (bl ++ (Option.toList (some (g, T, cs')) ++ r)) M ∧ Ow G (some (g, T, cs')) T (.slice (some ⟨g, so, none⟩) k cap) (xs.set i y)) hd (fun a ha =>
    drawStoreOw ha hC hB hO hi hx had hy ht hv hn hone hle hnew fun cs' w' k1 k2 k3 => ⟨rfl, cs', k1, k2, k3⟩) ?_
  rintro v w' ⟨rfl, cs', k1, k2, k3⟩
  exact h cs' w' k1 k2 k3
end
end Go.Gx
