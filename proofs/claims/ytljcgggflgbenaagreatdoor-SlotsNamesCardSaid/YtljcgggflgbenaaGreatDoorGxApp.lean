/- append, and what is left behind. No condition. -/
import Derived.Test.YtljcgggflgbenaaGreatDoorGxRows
set_option linter.all false
namespace Go.Gx
open Go Go.RowKit
variable {M : Mu}
section
variable {α : Type} [Rp α] {G G' : Gh}
section
variable {P : Program} {w w0 : World} {G0 : Gh}
/-- append of a slice that stays, onto one of the call's own. -/
theorem run_append_two {t ty e bytes n : Nat} {o : Option Bx} {v v2 : Value} {xs ys : List α} {bl : List Bx} (he : elemOk P t e (Rp.sz α) bytes = true) (hC : Cx w0 G0 G w M) (hn : w0.heap.size ≤ n) (hnw : n ≤ w.heap.size) (hB : Bxs G w n (o.toList ++ bl) M)
    (hO : Ow G o e v xs) (hS : Sl G v2 ys) (hm : xs.length + ys.length ≤ maxLen) (hb : (xs.length + ys.length) * bytes ≤ 140737488355328) :
    ∃ v' o' w', (Builtin.append_ #[t, t] ty #[v, v2]).run P w = .ok v' w' ∧ Cx w0 G0 G w' M ∧ Ow G o' e v' (xs ++ ys) ∧ ((Bxs G w' n (o'.toList ++ bl) M ∧ Ow G o' e v xs ∧ o'.map (fun x => x.1) = o.map (fun x => x.1)) ∨ Bxs G w' n (o'.toList ++ (o.toList ++ bl)) M) := by
  obtain ⟨ht, i, z, hi, hz, hsz, hby, hzs⟩ := elemOk_of he
  obtain ⟨rows, ⟨hrl, hrest⟩, hrx⟩ := hO
  obtain ⟨news, hnx, A, c, rfl, hcell⟩ := hS.rows
  have hl1 := hrx.length
  have hl2 := hnx.length
  have hone : ∀ u ∈ news.flatten, u.oneCell' = true := by
    intro u hu
    obtain ⟨r, hr, hur⟩ := List.mem_flatten.1 hu
    exact (hnx.len r hr).2 u hur
  have hnl := fun r hr => (hnx.len r hr).1
  have hnf := flatten_len (rows := news) hnl
  have hall : ∀ r ∈ rows ++ news, r.length = Rp.sz α := by
    intro r hr
    rcases List.mem_append.1 hr with h | h
    · exact hrl r h
    · exact hnl r h
  by_cases hy : ys.length = 0
  · have hy' : ys = [] := List.length_eq_zero_iff.1 hy
    subst hy'
    refine ⟨v, o, w, ?_, hC, by rw [List.append_nil]; exact ⟨rows, ⟨hrl, hrest⟩, hrx⟩, .inl ⟨hB, ⟨rows, ⟨hrl, hrest⟩, hrx⟩, rfl⟩⟩
    cases o with
    | none => obtain ⟨_, rfl⟩ := hrest; exact run_append_empty ht hi (Nat.le_refl _)
    | some x => obtain ⟨g, T', cs⟩ := x; obtain ⟨_, off, cap, rfl, hcap, _⟩ := hrest; exact run_append_empty ht hi hcap
  · -- the source has an address
    have hA : ∃ b oo, A = some ⟨b, oo, none⟩ := by
      obtain ⟨A', c', e1, _, _, e4⟩ := hS
      injection e1 with e1
      obtain ⟨b, oo, _, e5, _⟩ := e4 0 ys[0] (List.getElem?_eq_getElem (by omega))
      exact ⟨b, oo, by rw [e1, e5]⟩
    obtain ⟨sb, so, rfl⟩ := hA
    have hnews : ∀ j u, news.flatten[j]? = some u → w.cell? ((⟨sb, so, none⟩ : Addr).add j) = some u := by
      intro j u hj
      obtain ⟨cs, T, fz, hG, hc⟩ := hcell sb so rfl j u hj
      rw [Addr.add_mid, World.cell?, hC.holds _ _ hG]
      exact hc
    have hnl' : news.flatten.length = ys.length * i.size := by rw [hnf, hl2, hsz]
    cases o with
    | none =>
      obtain ⟨rfl, rfl⟩ := hrest
      have hx : xs = [] := List.length_eq_zero_iff.1 (by simpa using hl1.symm)
      subst hx
      simp only [List.length_nil, Nat.zero_add] at hm hb
      have hr := run_append_nil (P := P) w t ty e i z ht hi hz ⟨sb, so, none⟩ ys.length c news.flatten hnl' hnews (by omega) (by simp only [maxLen] at hm; omega) (by rw [hby]; omega)
      have hk := Cx.alloc hC.drew.holds (.cells (news.flatten.toArray ++ Builtin.zeroCells z.cells (grownCap w ys.length 0 e - ys.length)) e)
      refine ⟨_, some (w.heap.size, e, (news.flatten.toArray ++ Builtin.zeroCells z.cells (grownCap w ys.length 0 e - ys.length)).toList), _, hr, hC.drew.trans hk, ?_, .inr ?_⟩
      rotate_left
      · have := (hB.drew).push hC.drew.holds hnw hC.drew.heldLt e (news.flatten.toArray ++ Builtin.zeroCells z.cells (grownCap w ys.length 0 e - ys.length)).toList
        rw [Array.toArray_toList] at this
        exact this
      · refine ⟨news, ?_, by simpa using hnx⟩
        have := grown_ow (w := w) (e := e) (sz := Rp.sz α) (z := z) (rows := []) (news := news) ys.length 0 hzs (by simpa using hnl) (by simp [hl2]) hm
        simpa using this
    | some x =>
      obtain ⟨g, T', cs⟩ := x
      obtain ⟨rfl, off, cap, rfl, hcap, hcm, hcs, htake⟩ := hrest
      have hg := (hB.at_ (g, T', cs) (by simp)).1
      by_cases hroom : rows.length + ys.length ≤ cap
      · have hfit : off + rows.length * i.size + news.flatten.length ≤ cs.length := by
          have := Nat.mul_le_mul_right (Rp.sz α) hroom
          rw [Nat.add_mul] at this
          rw [hnl', hsz, hcs]; omega
        have hr := run_append_at (P := P) (ty := ty) (off := off) w ht hi hg hnl' hnews hone hroom (by simpa using hfit) (c := c)
        refine ⟨_, some (g, T', cs.take (off + rows.length * i.size) ++ news.flatten ++ cs.drop (off + rows.length * i.size + news.flatten.length)), _, hr, hC.setRow' (hB.at_ (g, T', cs) (by simp)).2.1 ((hB.at_ (g, T', cs) (by simp)).2.2.imp (Nat.le_trans hn) id) (hB.apart (g, T', cs) (by simp)) _, ?_, .inl ⟨?_, ?_, rfl⟩⟩
        rotate_left
        · have hB' : Bxs G w n ((g, T', cs) :: bl) M := by simpa using hB
          simpa using hB'.set0 (cs.take (off + rows.length * i.size) ++ news.flatten ++ cs.drop (off + rows.length * i.size + news.flatten.length))
        · refine ⟨rows, ⟨hrl, rfl, off, cap, rfl, hcap, hcm, ?_, ?_⟩, hrx⟩
          · simp only [List.length_append, List.length_take, List.length_drop]
            omega
          · have e1 := flatten_len hrl
            have hlo : off ≤ cs.length := by omega
            have hd : (cs.take (off + rows.length * i.size) ++ news.flatten ++ cs.drop (off + rows.length * i.size + news.flatten.length)).drop off = rows.flatten ++ (news.flatten ++ cs.drop (off + rows.length * i.size + news.flatten.length)) := by
              rw [List.append_assoc, List.drop_append, List.drop_take, Nat.add_sub_cancel_left, hsz, htake, List.length_take, Nat.sub_eq_zero_of_le (by omega), List.drop_zero]
            rw [hd, ← e1]
            exact List.take_left
        · refine ⟨rows ++ news, ⟨hall, rfl, off, cap, by rw [List.length_append, hl2], by rw [List.length_append]; omega, hcm, ?_, ?_⟩, hrx.append hnx⟩
          · simp only [List.length_append, List.length_take, List.length_drop]
            omega
          · have e1 := flatten_len hrl
            have hlo : off ≤ cs.length := by omega
            have hd : (cs.take (off + rows.length * i.size) ++ news.flatten ++ cs.drop (off + rows.length * i.size + news.flatten.length)).drop off = rows.flatten ++ (news.flatten ++ cs.drop (off + rows.length * i.size + news.flatten.length)) := by
              rw [List.append_assoc, List.drop_append, List.drop_take, Nat.add_sub_cancel_left, hsz, htake, List.length_take, Nat.sub_eq_zero_of_le (by omega), List.drop_zero]
            rw [hd, ← List.append_assoc, List.flatten_append, List.length_append, Nat.add_mul, ← e1, ← hnf, ← List.length_append]
            exact List.take_left
      · have holds : ∀ j u, rows.flatten[j]? = some u → w.cell? ((⟨g, off, none⟩ : Addr).add j) = some u := by
          intro j u hj
          rw [Addr.add_mid, World.cell?, hg]
          rw [← htake, List.getElem?_take] at hj
          split at hj
          · rw [List.getElem?_drop] at hj; simpa using hj
          · cases hj
        have hr := run_append_grow (P := P) w t ty T' i z ht hi hz ⟨g, off, none⟩ rows.length cap rows.flatten (by rw [flatten_len hrl, hsz]) holds ⟨sb, so, none⟩ ys.length c news.flatten hnl' hnews (by omega)
          (by simp only [maxLen] at hm; omega) (growslice_fits (by omega) (by rw [hby, hl1]; exact hb))
        have hk := Cx.alloc hC.drew.holds (.cells (rows.flatten.toArray ++ news.flatten.toArray ++ Builtin.zeroCells z.cells (grownCap w (rows.length + ys.length) cap T' - (rows.length + ys.length))) T')
        refine ⟨_, some (w.heap.size, T', (rows.flatten.toArray ++ news.flatten.toArray ++ Builtin.zeroCells z.cells (grownCap w (rows.length + ys.length) cap T' - (rows.length + ys.length))).toList), _, hr, hC.drew.trans hk, ⟨rows ++ news, grown_ow (w := w) (rows.length + ys.length) cap hzs hall (by rw [List.length_append, hl2]) (by rw [hl1]; exact hm), hrx.append hnx⟩, .inr ?_⟩
        have := (hB.drew).push hC.drew.holds hnw hC.drew.heldLt T' (rows.flatten.toArray ++ news.flatten.toArray ++ Builtin.zeroCells z.cells (grownCap w (rows.length + ys.length) cap T' - (rows.length + ys.length))).toList
        rw [Array.toArray_toList] at this
        exact this
end
end
/-! ### .. onto a slice whose block is kept track of -/
section
variable {P : Program} {ops : Array Oper} {Q : Exit → Act → World → Prop} {N : Nat} {e : Env} {w w0 : World} {G0 G : Gh} {rest : List Oper} {d : Option Tmp} {ty : TypeId} {pos : String} {af : Array Edge} {bl : List Bx} {m : List Nat} {L : List (Nat × Obj)}
/-- append onto a slice whose block is held: the slice stays as it was, the new one may be told from the same blocks. -/
theorem wlAppendH {α : Type} [Rp α] {x y : Operand} {t el bytes : Nat} {rt : TypeId} {o : Option Bx} {v v2 : Value} {xs ys : List α} (he : elemOk P t el (Rp.sz α) bytes = true) (hC : Cx w0 G0 G w ⟨m, ob o ++ L⟩) (hB : Bxs G w w0.heap.size bl ⟨m, ob o ++ L⟩)
    (hx : opv e x = some v) (hy : opv e y = some v2) (hO : Ow G o el v xs) (hS : Sl G v2 ys) (hb : xs.length + ys.length ≤ 1073741824) (hby : Nat.ble bytes 131072 = true) (hd : okD N d = true)
    (h : ∀ A cap o1 o2 J w', Cx w0 G0 G w' ⟨m, ob o1 ++ (J ++ L)⟩ → Bxs G w' w0.heap.size bl ⟨m, ob o1 ++ (J ++ L)⟩ → (∃ J', (ob o1 ++ J).Perm (ob o2 ++ J')) → (∀ k ∈ (ob o).map (fun x => x.1), k ∈ (ob o1).map (fun x => x.1)) → Ow G o1 el v xs → Ow G o2 el (.slice A (xs ++ ys).length cap) (xs ++ ys) → WL P ops Q N rest (e.putO d (.slice A (xs ++ ys).length cap)) w') :
    WL P ops Q N (⟨d, .call ⟨.builtin .append, #[x, y], #[t, t]⟩, rt, pos, af, none⟩ :: rest) e w := by
  have hby := Nat.le_of_ble_eq_true hby
  obtain ⟨hC1, hB1⟩ := unholdO (bl := []) hC hB
  obtain ⟨v', o', w', hr, k1, k3, k2⟩ := run_append_two (P := P) (ty := rt) he hC1 (Nat.le_refl _) hC1.size hB1 hO hS (by simp only [maxLen]; omega) (by
    calc (xs.length + ys.length) * bytes ≤ 1073741824 * 131072 := Nat.mul_le_mul hb hby
      _ = 140737488355328 := by decide)
  obtain ⟨A, cap, rfl⟩ := k3.form
  refine wlStep (R := fun u w2 => u = .slice A (xs ++ ys).length cap ∧ w2 = w') hd (fun a ha => ?_) ?_
  · unfold OpR
    have : (execOp a.eval ⟨d, .call ⟨.builtin .append, #[x, y], #[t, t]⟩, rt, pos, af, none⟩).run P w = .ok (.value (.slice A (xs ++ ys).length cap)) w' := by
      simp only [execOp, resolve, Sem.run_bind, Sem.run_pure, Result.andThen_ok, invoke, builtin, List.map_toArray, List.map_cons, List.map_nil, ha.eval hx, ha.eval hy, hr]
    rw [this]; exact ⟨rfl, rfl⟩
  · rintro u w2 ⟨rfl, rfl⟩
    rcases k2 with ⟨k2, k4, k5⟩ | k2
    · obtain ⟨hC2, hB2⟩ := holdO (bl := []) k1 k2
      exact h A cap o' o' [] w2 hC2 hB2 ⟨[], .refl _⟩ (fun k hk => by cases o <;> cases o' <;> simp [ob] at k5 hk ⊢; rw [k5]; exact hk) k4 k3
    · obtain ⟨hC2, hB2⟩ := holdO (bl := []) k1 k2
      obtain ⟨hC3, hB3⟩ := holdO (bl := []) hC2 hB2
      exact h A cap o o' (ob o') w2 hC3 hB3 ⟨ob o, List.perm_append_comm⟩ (fun _ h => h) hO k3
end
/-- An own slice, of blocks that stay. -/
theorem Ow.frozenO {α : Type} [Rp α] {G : Gh} {o : Option Bx} {T : Nat} {v : Value} {xs : List α} (h : Ow G o T v xs) (hg : ∀ y ∈ ob o, HasO G y.1 y.2) (hm : xs.length ≤ maxL) : Sl G v xs := by
  cases o with
  | none =>
    obtain ⟨rows, ⟨hr, h2, rfl⟩, h3⟩ := h
    subst h2
    cases xs with
    | nil => exact Sl.nil_ G
    | cons y l => exact h3.elim
  | some x => obtain ⟨g, T', cs⟩ := x; exact Ow.frozen (T' := T') h (hg (g, .cells cs.toArray T' (0, 0)) (by simp [ob])) hm
end Go.Gx
