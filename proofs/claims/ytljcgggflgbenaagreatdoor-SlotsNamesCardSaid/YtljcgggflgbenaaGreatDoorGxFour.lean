/- Literals that the call goes on to write; append onto a slice that is full. No condition. -/
import Derived.Test.YtljcgggflgbenaaGreatDoorGxThree
set_option linter.all false
namespace Go.Gx
open Go Go.RowKit
variable {M : Mu}
section
variable {α : Type} [Rp α] {P : Program} {ops : Array Oper} {Q : Exit → Act → World → Prop} {N : Nat} {e : Env} {w w0 : World} {G0 G : Gh} {rest : List Oper} {d : Option Tmp} {ty : TypeId} {pos : String} {af : Array Edge} {gd : Option (Nat × Bool)} {bl r : List Bx}
theorem wlBuildOwn {t el n bytes : Nat} {ps : List (Nat × Operand)} {vs : List Value} {rows : List (List Value)} {xs : List α} (he : elemOk P t el (Rp.sz α) bytes = true) (hsz : Nat.blt 0 (Rp.sz α) = true) (hsm : Nat.ble (n * Rp.sz α) 16777216 = true)
    (hC : Cx w0 G0 G w M) (hB : Bxs G w w0.heap.size (bl ++ r) M) (hi : ps.map (·.1) = List.range' 0 n) (hvs : opvs e (ps.map (·.2)) = some vs) (hrows : vs.map (fun v => v.cells.toList) = rows) (hR : Rows2 G rows xs) (hd : okD N d = true)
    (h : ∀ b cs w', Cx w G G w' → Cx w0 G0 G w' M → Bxs G w' w0.heap.size (bl ++ (Option.toList (some (b, el, cs)) ++ r)) M → Ow G (some (b, el, cs)) el (.slice (some ⟨b, 0, none⟩) n n) xs → WL P ops Q N rest (e.putO d (.slice (some ⟨b, 0, none⟩) n n)) w') :
    WL P ops Q N (⟨d, .buildSlice t n ps.toArray, ty, pos, af, none⟩ :: rest) e w := by
  have hn : ps.length = n := by have := congrArg List.length hi; simpa using this
  have hvl := opvs_len hvs
  have hxl : xs.length = n := by rw [← hR.length, ← hrows, List.length_map, hvl, List.length_map, hn]
  have hrl : ∀ r ∈ rows, r.length = Rp.sz α := fun r hr => (hR.len r hr).1
  have hle := Nat.le_of_ble_eq_true hsm
  have h1 : n ≤ n * Rp.sz α := Nat.le_mul_of_pos_right n (Nat.le_of_ble_eq_true hsz)
  have hO : Ow G (some (w.heap.size, el, rows.flatten)) el (.slice (some ⟨w.heap.size, 0, none⟩) n n) xs :=
    ⟨rows, ⟨hrl, rfl, 0, n, by rw [hR.length, hxl], by rw [hR.length, hxl]; exact Nat.le_refl _, by simp only [maxLen]; omega, by rw [flatten_len hrl, hR.length, hxl, Nat.zero_add], by rw [List.drop_zero, ← flatten_len hrl]; exact List.take_length⟩, hR⟩
  refine wlStep (R := fun v w' => v = .slice (some ⟨w.heap.size, 0, none⟩) n n ∧ w' = w.alloc (.cells rows.flatten.toArray el)) hd (fun a ha => ?_) ?_
  · unfold OpR
    have hp := ha.parts hvs
    have hrun := run_buildSlice (P := P) (w := w) (ps := (ps.map (·.1)).zip vs) (rows := rows) (n := n) he (Nat.le_of_ble_eq_true hsz) (by simp [hvl, hn]) (by omega) (by rw [List.map_fst_zip (by simp [hvl])]; exact hi)
      (by rw [← hrows, ← List.map_snd_zip (l₁ := ps.map (·.1)) (l₂ := vs) (by simp [hvl]), List.map_map, List.map_snd_zip (by simp [hvl])]; rfl) hrl
    have hx : (execOp a.eval ⟨d, .buildSlice t n ps.toArray, ty, pos, af, none⟩).run P w = .ok (.value (.slice (some ⟨w.heap.size, 0, none⟩) n n)) (w.alloc (.cells rows.flatten.toArray el)) := by
      have hpa : (ps.toArray.map fun (p : Nat × Operand) => (p.1, a.eval p.2)) = ((ps.map (·.1)).zip vs).toArray := Array.ext' (by rw [hp])
      simp only [execOp, Sem.run_bind]
      rw [show (Array.map (fun x : Nat × Operand => match x with | (i, x) => (i, a.eval x)) ps.toArray) = ((ps.map (·.1)).zip vs).toArray from hpa, hrun]
      rfl
    rw [hx]
    exact ⟨rfl, rfl⟩
  · rintro v w' ⟨rfl, rfl⟩
    have hk := Cx.alloc hC.holds (.cells rows.flatten.toArray el)
    refine h w.heap.size rows.flatten _ hk (hC.trans hk) ?_ hO
    exact (hB.push hC.holds hC.size hC.heldLt el rows.flatten).perm (by simpa using List.perm_middle.symm)
/-- append onto a slice that is full: a new block, let stay. -/
theorem run_append_full {t ty e bytes n cap : Nat} {A : Option Addr} {v2 : Value} {xs ys : List α} (he : elemOk P t e (Rp.sz α) bytes = true) (hh : Holds G w) (hS : Sl G (.slice A n cap) xs) (hS2 : Sl G v2 ys) (hcap : cap ≤ n) (h0 : 0 < xs.length) (h1 : 0 < ys.length)
    (hm : xs.length + ys.length ≤ 1073741824) (hby : Nat.ble bytes 131072 = true) :
    ∃ A' cap' G' w', (Builtin.append_ #[t, t] ty #[.slice A n cap, v2]).run P w = .ok (.slice A' (xs ++ ys).length cap') w' ∧ Cx w G G' w' ∧ Sl G' (.slice A' (xs ++ ys).length cap') (xs ++ ys) := by
  obtain ⟨ht, i, z, hi, hz, hsz, hby2, hzs⟩ := elemOk_of he
  obtain ⟨rows, hrx, A1, c1, e1, hcell1⟩ := hS.rows
  obtain ⟨news, hnx, A2, c2, rfl, hcell2⟩ := hS2.rows
  injection e1 with e1 e2 e3
  subst e1; subst e2; subst e3
  have hl1 := hrx.length
  have hl2 := hnx.length
  have hA : ∃ b oo, A = some ⟨b, oo, none⟩ := by
    obtain ⟨A', c', q1, _, _, q4⟩ := hS
    injection q1 with q1
    obtain ⟨b, oo, _, q5, _⟩ := q4 0 xs[0] (List.getElem?_eq_getElem h0)
    exact ⟨b, oo, by rw [q1, q5]⟩
  have hA2 : ∃ b oo, A2 = some ⟨b, oo, none⟩ := by
    obtain ⟨A', c', q1, _, _, q4⟩ := hS2
    injection q1 with q1
    obtain ⟨b, oo, _, q5, _⟩ := q4 0 ys[0] (List.getElem?_eq_getElem h1)
    exact ⟨b, oo, by rw [q1, q5]⟩
  obtain ⟨b1, o1, rfl⟩ := hA
  obtain ⟨b2, o2, rfl⟩ := hA2
  have hr1 : ∀ r ∈ rows, r.length = Rp.sz α := fun r hr => (hrx.len r hr).1
  have hr2 : ∀ r ∈ news, r.length = Rp.sz α := fun r hr => (hnx.len r hr).1
  have holds : ∀ j u, rows.flatten[j]? = some u → w.cell? ((⟨b1, o1, none⟩ : Addr).add j) = some u := by
    intro j u hj
    obtain ⟨cs, T, fz, hG, hc⟩ := hcell1 b1 o1 rfl j u hj
    rw [Addr.add_mid, World.cell?, hh _ _ hG]; exact hc
  have hnews : ∀ j u, news.flatten[j]? = some u → w.cell? ((⟨b2, o2, none⟩ : Addr).add j) = some u := by
    intro j u hj
    obtain ⟨cs, T, fz, hG, hc⟩ := hcell2 b2 o2 rfl j u hj
    rw [Addr.add_mid, World.cell?, hh _ _ hG]; exact hc
  have hby3 := Nat.le_of_ble_eq_true hby
  have hbb : (xs.length + ys.length) * bytes ≤ 140737488355328 := by
    calc (xs.length + ys.length) * bytes ≤ 1073741824 * 131072 := Nat.mul_le_mul hm hby3
      _ = 140737488355328 := by decide
  have hr := run_append_grow (P := P) w t ty e i z ht hi hz ⟨b1, o1, none⟩ xs.length cap rows.flatten (by rw [flatten_len hr1, hsz, hl1]) holds ⟨b2, o2, none⟩ ys.length c2 news.flatten (by rw [flatten_len hr2, hsz, hl2]) hnews (by omega)
    (by omega) (growslice_fits (by omega) (by rw [hby2]; exact hbb))
  have hall : ∀ r ∈ rows ++ news, r.length = Rp.sz α := by
    intro r hr
    rcases List.mem_append.1 hr with h | h
    · exact hr1 r h
    · exact hr2 r h
  have hk := Cx.alloc (Cx.refl hh).drew.holds (.cells (rows.flatten.toArray ++ news.flatten.toArray ++ Builtin.zeroCells z.cells (grownCap w (xs.length + ys.length) cap e - (xs.length + ys.length))) e)
  have hO : Ow G (some (w.heap.size, e, (rows.flatten.toArray ++ news.flatten.toArray ++ Builtin.zeroCells z.cells (grownCap w (xs.length + ys.length) cap e - (xs.length + ys.length))).toList)) e (.slice (some ⟨w.heap.size, 0, none⟩) (xs.length + ys.length) (grownCap w (xs.length + ys.length) cap e)) (xs ++ ys) :=
    ⟨rows ++ news, grown_ow (w := w) (xs.length + ys.length) cap hzs hall (by rw [List.length_append, hl1, hl2]) (by simp only [maxLen]; omega), hrx.append hnx⟩
  have hB1 := (Bxs.nil (M := {}) G w.drew w.heap.size).push (Cx.refl hh).drew.holds (Nat.le_refl _) (fun _ h => (List.not_mem_nil h).elim) e (rows.flatten.toArray ++ news.flatten.toArray ++ Builtin.zeroCells z.cells (grownCap w (xs.length + ys.length) cap e - (xs.length + ys.length))).toList
  rw [Array.toArray_toList] at hB1
  obtain ⟨G', k1, k2, _, k4⟩ := hO.freeze (bl := []) ((Cx.refl hh).drew.trans hk) (Nat.le_refl _) hB1 (by rw [List.length_append]; unfold maxL; omega)
  refine ⟨_, _, G', _, by rw [List.length_append]; exact hr, k2, ?_⟩
  rw [List.length_append]; exact k4
theorem drawAppendFull {a : Act} {R : Value → World → Prop} {x y : Operand} {t el bytes n cap : Nat} {rt : TypeId} {A : Option Addr} {v2 : Value} {xs ys : List α} (ha : Fr N a e) (he : elemOk P t el (Rp.sz α) bytes = true) (hh : Holds G w)
    (hx : opv e x = some (.slice A n cap)) (hy : opv e y = some v2) (hS : Sl G (.slice A n cap) xs) (hS2 : Sl G v2 ys) (hcap : cap ≤ n) (h0 : 0 < xs.length) (h1 : 0 < ys.length) (hm : xs.length + ys.length ≤ 1073741824) (hby : Nat.ble bytes 131072 = true)
    (h : ∀ v G' w', Cx w G G' w' → (∃ A' cap', v = .slice A' (xs ++ ys).length cap' ∧ Sl G' (.slice A' (xs ++ ys).length cap') (xs ++ ys)) → R v w') :
    OpR P ⟨d, .call ⟨.builtin .append, #[x, y], #[t, t]⟩, rt, pos, af, gd⟩ a w R := by
  obtain ⟨A', cap', G', w', hr, k1, k2⟩ := run_append_full (P := P) (ty := rt) he hh hS hS2 hcap h0 h1 hm hby
  unfold OpR
  have : (execOp a.eval ⟨d, .call ⟨.builtin .append, #[x, y], #[t, t]⟩, rt, pos, af, gd⟩).run P w = .ok (.value (.slice A' (xs ++ ys).length cap')) w' := by
    simp only [execOp, resolve, Sem.run_bind, Sem.run_pure, Result.andThen_ok, invoke, builtin, List.map_toArray, List.map_cons, List.map_nil, ha.eval hx, ha.eval hy, hr]
  rw [this]
  exact h _ G' w' k1 ⟨A', cap', rfl, k2⟩
end
end Go.Gx
