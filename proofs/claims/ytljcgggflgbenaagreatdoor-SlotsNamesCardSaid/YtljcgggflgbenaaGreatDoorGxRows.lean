/- make([]T, n), T of several cells. No condition. -/
import Derived.Test.YtljcgggflgbenaaGreatDoorGxChunk
set_option linter.all false
namespace Go.Gx
open Go Go.RowKit
set_option linter.unusedSectionVars false
variable {M : Mu}
section
variable {α : Type} [Rp α] {P : Program} {ops : Array Oper} {Q : Exit → Act → World → Prop} {N : Nat} {e : Env} {w w0 : World} {G0 G : Gh} {rest : List Oper} {d : Option Tmp} {ty : TypeId} {pos : String} {af : Array Edge} {bl r : List Bx}
theorem made_rows (zc : List Value) (n : Nat) : madeCells zc.toArray (n * zc.length) = ((List.replicate n zc).flatten).toArray := by
  have h := zeros_flat zc n
  unfold Builtin.zeroCells at h
  unfold madeCells
  rw [← h]
  apply Array.toList_inj.1
  simp
theorem wlMakeRows {t el bytes n : Nat} {x y : Operand} {z : α} {zv : Value} {zc : List Value} (he : elemOk P t el (Rp.sz α) bytes = true) (hz : (P.info? el).bind (fun i => i.zero) = some zv) (hzc : zv.cells = zc.toArray) (hzi : ∀ G, Rp.Is G zc z)
    (hC : Cx w0 G0 G w M) (hB : Bxs G w w0.heap.size (bl ++ r) M) (hx : opv e x = some (.int .i64 (n : Int))) (hy : opv e y = some (.int .i64 (n : Int))) (hm : n ≤ 1073741824) (hby : Nat.ble bytes 1024 = true) (hd : okD N d = true)
    (h : ∀ b w', Cx w0 G0 G w' M → Bxs G w' w0.heap.size (bl ++ (Option.toList (some (b, el, (List.replicate n zc).flatten)) ++ r)) M → Ow G (some (b, el, (List.replicate n zc).flatten)) el (.slice (some ⟨b, 0, none⟩) n n) (List.replicate n z) →
      WL P ops Q N rest (e.putO d (.slice (some ⟨b, 0, none⟩) n n)) w') :
    WL P ops Q N (⟨d, .makeSlice t x y, ty, pos, af, none⟩ :: rest) e w := by
  obtain ⟨ht, i, z', hi, hz', hsz, hby2, hzs⟩ := elemOk_of he
  have hzz : z' = zv := by simpa [hi, hz'] using hz
  subst hzz
  have hb2 := Nat.le_of_ble_eq_true hby
  have hmul : bytes * n ≤ 1024 * n := Nat.mul_le_mul_right _ hb2
  have hr := run_make (P := P) w t el i z' ht hi hz' .i64 .i64 (n : Int) (n : Int) (Int.natCast_nonneg _) (Int.le_refl _) (by rw [hby2, ← Int.natCast_mul]; omega) (by omega)
  simp only [Int.toNat_natCast] at hr
  have hl : zc.length = Rp.sz α := Rp.len (hzi G)
  rw [hsz, hzc, ← hl, made_rows] at hr
  refine wlStep (R := fun v w' => v = .slice (some ⟨w.heap.size, 0, none⟩) n n ∧ w' = w.alloc (.cells ((List.replicate n zc).flatten).toArray el)) hd (fun a ha => ?_) ?_
  · unfold OpR
    have : (execOp a.eval ⟨d, .makeSlice t x y, ty, pos, af, none⟩).run P w = .ok (.value (.slice (some ⟨w.heap.size, 0, none⟩) n n)) (w.alloc (.cells ((List.replicate n zc).flatten).toArray el)) := by
      simp [execOp, ha.eval hx, ha.eval hy, hr]
    rw [this]; exact ⟨rfl, rfl⟩
  · rintro v w' ⟨rfl, rfl⟩
    have hk := Cx.alloc hC.holds (.cells ((List.replicate n zc).flatten).toArray el)
    refine h w.heap.size _ (hC.trans hk) ((hB.push hC.holds hC.size hC.heldLt el ((List.replicate n zc).flatten)).perm (by simpa using List.perm_middle.symm)) ?_
    have hR : Rows2 G (List.replicate n zc) (List.replicate n z) := by
      clear hr hm hmul hk hx hy h
      induction n with
      | zero => trivial
      | succ n ih => exact ⟨hzi G, ih⟩
    have hfl : ((List.replicate n zc).flatten).length = n * Rp.sz α := by rw [flatten_len (sz := Rp.sz α) (fun r hr => by rw [List.eq_of_mem_replicate hr]; exact hl), List.length_replicate]
    exact Ow.ofRaw hR (by simp) (Nat.le_refl _) (by unfold maxLen; omega) hfl (by rw [← hfl, List.take_length])
end
end Go.Gx
