/- Literals that the call goes on to write; append onto a slice that is full. No condition. -/
import Derived.Test.YtljcgggflgbenaaGreatDoorGxThree
set_option linter.all false
namespace Go.Gx
open Go Go.RowKit
variable {M : Mu}
section
variable {α : Type} [Rp α] {P : Program} {ops : Array Oper} {Q : Exit → Act → World → Prop} {N : Nat} {e : Env} {w w0 : World} {G0 G : Gh} {rest : List Oper} {d : Option Tmp} {ty : TypeId} {pos : String} {af : Array Edge} {gd : Option (Nat × Bool)} {bl r : List Bx}
theorem wlBuildOwn {t el n bytes : Nat} {ps : List (Nat × Operand)} {vs : List Value} {rows : List (List Value)} {xs : List α} (he : elemOk P t el (Rp.sz α) bytes = true) (hsz : Nat.blt 0 (Rp.sz α) = true) (hsm : Nat.ble (n * Rp.sz α) 16777216 = true)
    (hC : Cx w0 G0 G w M) (hB : Bxs G w w0.heap.size (bl ++ r) M) (hi : ps.map (·.1) = List.range' 0 n) (hvs : opvs e (ps.map (·.2)) = some vs) (hrows : vs.map (fun v => v.cells.toList) = rows) (hR : Rows2 G rows xs) (hd : okD N d = true)
    (h : ∀ b cs w', Cx w G G w' → Cx w0 G0 G w' M → Bxs G w' w0.heap.size (bl ++ (Option.toList (some (b, el, cs)) ++ r)) M → Ow G (some (b, el, cs)) el (.slice (some ⟨b, 0, none⟩) n n) xs → WL P ops Q N rest (e.putO d (.slice (some ⟨b, 0, none⟩) n n)) w') :
    WL P ops Q N (⟨d, .buildSlice t n ps.toArray, ty, pos, af, none⟩ :: rest) e w := by
  have hn : ps.length = n := by have := congrArg List.length hi; simpa using this
  have hvl := opvs_len hvs
  have hxl : xs.length = n := by rw [← hR.length, ← hrows, List.length_map, hvl, List.length_map, hn]
  have hrl : ∀ r ∈ rows, r.length = Rp.sz α := fun r hr => (hR.len r hr).1
  have hle := Nat.le_of_ble_eq_true hsm
  have h1 : n ≤ n * Rp.sz α := Nat.le_mul_of_pos_right n (Nat.le_of_ble_eq_true hsz)
  have hO : Ow G (some (w.heap.size, el, rows.flatten)) el (.slice (some ⟨w.heap.size, 0, none⟩) n n) xs :=
    ⟨rows, ⟨hrl, rfl, 0, n, by rw [hR.length, hxl], by rw [hR.length, hxl]; exact Nat.le_refl _, by simp only [maxLen]; omega, by rw [flatten_len hrl, hR.length, hxl, Nat.zero_add], by rw [List.drop_zero, ← flatten_len hrl]; exact List.take_length⟩, hR⟩
  refine wlStep (R := fun v w' => v = .slice (some ⟨w.heap.size, 0, none⟩) n n ∧ w' = w.alloc (.cells rows.flatten.toArray el)) hd (fun a ha => ?_) ?_
  · unfold OpR
    have hp := ha.parts hvs
    have hrun := run_buildSlice (P := P) (w := w) (ps := (ps.map (·.1)).zip vs) (rows := rows) (n := n) he (Nat.le_of_ble_eq_true hsz) (by simp [hvl, hn]) (by omega) (by rw [List.map_fst_zip (by simp [hvl])]; exact hi)
      (by rw [← hrows, ← List.map_snd_zip (l₁ := ps.map (·.1)) (l₂ := vs) (by simp [hvl]), List.map_map, List.map_snd_zip (by simp [hvl])]; rfl) hrl
    have hx : (execOp a.eval ⟨d, .buildSlice t n ps.toArray, ty, pos, af, none⟩).run P w = .ok (.value (.slice (some ⟨w.heap.size, 0, none⟩) n n)) (w.alloc (.cells rows.flatten.toArray el)) := by
      have hpa : (ps.toArray.map fun (p : Nat × Operand) => (p.1, a.eval p.2)) = ((ps.map (·.1)).zip vs).toArray := Array.ext' (by rw [hp])
      simp only [execOp, Sem.run_bind]
      rw [show (Array.map (fun x : Nat × Operand => match x with | (i, x) => (i, a.eval x)) ps.toArray) = ((ps.map (·.1)).zip vs).toArray from hpa, hrun]
      rfl
    rw [hx]
    exact ⟨rfl, rfl⟩
  · rintro v w' ⟨rfl, rfl⟩
    have hk := Cx.alloc hC.holds (.cells rows.flatten.toArray el)
    refine h w.heap.size rows.flatten _ hk (hC.trans hk) ?_ hO
    exact (hB.push hC.holds hC.size hC.heldLt el rows.flatten).perm (by simpa using List.perm_middle.symm)
end
end Go.Gx
