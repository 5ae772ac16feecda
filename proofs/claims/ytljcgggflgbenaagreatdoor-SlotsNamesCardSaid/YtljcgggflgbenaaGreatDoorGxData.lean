/- How data lie in memory that stays: cells, slices. No condition. -/
import Derived.Test.YtljcgggflgbenaaGreatDoorGxStep
set_option linter.all false
namespace Go.Gx
open Go Go.RowKit
variable {M : Mu}

abbrev GLe (G G' : Gh) : Prop := ∀ b o, G b = some o → G' b = some o

/-- Data of a type lie in a row of cells. -/
class Rp (α : Type) where
  sz : Nat
  Is : Gh → List Value → α → Prop
  len : ∀ {G cs x}, Is G cs x → cs.length = sz
  one : ∀ {G cs x}, Is G cs x → ∀ u ∈ cs, u.oneCell' = true
  mono : ∀ {G G' : Gh} {cs x}, GLe G G' → Is G cs x → Is G' cs x

def maxL : Nat := 140737488355328

/-- A row of cells in a block that stays. -/
def RowG (G : Gh) (b o : Nat) (row : List Value) : Prop := ∃ cs T fz, G b = some (.cells cs T fz) ∧ ∀ j u, row[j]? = some u → cs[o + j]? = some u
theorem RowG.mono {G G' : Gh} {b o : Nat} {row : List Value} (hg : GLe G G') (h : RowG G b o row) : RowG G' b o row := by
  obtain ⟨cs, T, fz, h1, h2⟩ := h
  exact ⟨cs, T, fz, hg _ _ h1, h2⟩
theorem RowG.range {G : Gh} {w : World} (hw : Holds G w) {b o : Nat} {row : List Value} (h : RowG G b o row) : w.rangeAt b o row := by
  obtain ⟨cs, T, fz, h1, h2⟩ := h
  intro j v hv
  rw [World.cell?, hw _ _ h1]
  simpa using h2 j v hv
theorem RowG.cell {G : Gh} {w : World} (hw : Holds G w) {b o : Nat} {row : List Value} (h : RowG G b o row) {j : Nat} {v : Value} (hj : row[j]? = some v) : w.cell? ⟨b, o + j, none⟩ = some v := h.range hw j v hj
theorem RowG.cell0 {G : Gh} {w : World} (hw : Holds G w) {b o : Nat} {row : List Value} (h : RowG G b o row) {v : Value} (hj : row[0]? = some v) : w.cell? ⟨b, o, none⟩ = some v := h.range hw 0 v hj
theorem RowG.part {G : Gh} {b o : Nat} {row part : List Value} (h : RowG G b o row) {i m : Nat} (hp : (row.drop i).take m = part) : RowG G b (o + i) part := by
  obtain ⟨cs, T, fz, h1, h2⟩ := h
  subst hp
  refine ⟨cs, T, fz, h1, fun j u hu => ?_⟩
  rw [List.getElem?_take] at hu
  split at hu
  · rw [List.getElem?_drop] at hu
    rw [Nat.add_assoc]; exact h2 _ _ hu
  · cases hu

/-- A slice that reads as a list. -/
def Sl {α : Type} [Rp α] (G : Gh) (v : Value) (xs : List α) : Prop :=
  ∃ A cap, v = .slice A xs.length cap ∧ xs.length ≤ cap ∧ xs.length ≤ maxL ∧
    ∀ k x, xs[k]? = some x → ∃ b o row, A = some ⟨b, o, none⟩ ∧ RowG G b (o + k * Rp.sz α) row ∧ Rp.Is G row x
theorem Sl.mono {α : Type} [Rp α] {G G' : Gh} {v : Value} {xs : List α} (hg : GLe G G') (h : Sl G v xs) : Sl G' v xs := by
  obtain ⟨A, cap, h1, h2, h3, h4⟩ := h
  refine ⟨A, cap, h1, h2, h3, fun k x hk => ?_⟩
  obtain ⟨b, o, row, e1, e2, e3⟩ := h4 k x hk
  exact ⟨b, o, row, e1, e2.mono hg, Rp.mono hg e3⟩
theorem Sl.form {α : Type} [Rp α] {G : Gh} {v : Value} {xs : List α} (h : Sl G v xs) : ∃ A cap, v = .slice A xs.length cap := by
  obtain ⟨A, cap, h1, _⟩ := h
  exact ⟨A, cap, h1⟩
theorem Sl.le {α : Type} [Rp α] {G : Gh} {v : Value} {xs : List α} (h : Sl G v xs) : xs.length ≤ maxL := by
  obtain ⟨A, cap, _, h2, h3, _⟩ := h
  exact h3
theorem Sl.elem {α : Type} [Rp α] {G : Gh} {A : Option Addr} {n cap k : Nat} {xs : List α} {x : α} (h : Sl G (.slice A n cap) xs) (hk : xs[k]? = some x) :
    ∃ b o row, A = some ⟨b, o, none⟩ ∧ RowG G b (o + k * Rp.sz α) row ∧ Rp.Is G row x := by
  obtain ⟨A', cap', h1, _, _, h4⟩ := h
  injection h1 with e1 e2 e3
  subst e1
  exact h4 k x hk
theorem Sl.elem' {α : Type} [Rp α] {G : Gh} {b o n cap k : Nat} {xs : List α} {x : α} (h : Sl G (.slice (some ⟨b, o, none⟩) n cap) xs) (hk : xs[k]? = some x) :
    ∃ row, RowG G b (o + k * Rp.sz α) row ∧ Rp.Is G row x := by
  obtain ⟨b', o', row, e, h1, h2⟩ := h.elem hk
  injection e with e
  injection e with e1 e2
  subst e1; subst e2
  exact ⟨row, h1, h2⟩
theorem Sl.len {α : Type} [Rp α] {G : Gh} {A : Option Addr} {n cap : Nat} {xs : List α} (h : Sl G (.slice A n cap) xs) : n = xs.length := by
  obtain ⟨A', cap', h1, _⟩ := h
  injection h1
theorem Sl.nil_ {α : Type} [Rp α] (G : Gh) : Sl G (.slice none 0 0) ([] : List α) := ⟨none, 0, rfl, Nat.le_refl _, Nat.zero_le _, fun k x h => by simp at h⟩

instance : Rp Int := ⟨1, fun _ cs n => cs = [.int .i64 n], fun h => by rw [h]; rfl, fun h => by rw [h]; simp [Value.oneCell'], fun _ h => h⟩
instance : Rp Bool := ⟨1, fun _ cs b => cs = [.bool b], fun h => by rw [h]; rfl, fun h => by rw [h]; simp [Value.oneCell'], fun _ h => h⟩
instance : Rp UInt8 := ⟨1, fun _ cs b => cs = [.int .u8 (b.toNat : Int)], fun h => by rw [h]; rfl, fun h => by rw [h]; simp [Value.oneCell'], fun _ h => h⟩
instance {α : Type} [Rp α] : Rp (List α) := ⟨1, fun G cs xs => ∃ v, cs = [v] ∧ Sl G v xs, fun ⟨_, h, _⟩ => by rw [h]; rfl, fun ⟨v, h, A, cap, h1, _⟩ => by rw [h, h1]; simp [Value.oneCell'], fun hg ⟨v, h, hs⟩ => ⟨v, h, hs.mono hg⟩⟩

theorem drop_get {α : Type} {xs : List α} {k : Nat} {x : α} (h : xs[k]? = some x) : xs.drop k = x :: xs.drop (k + 1) := by
  obtain ⟨hk, he⟩ := List.getElem?_eq_some_iff.1 h
  rw [List.drop_eq_getElem_cons hk, he]
theorem incr_ok {k n : Nat} (h : k < n) (h2 : n ≤ maxL) : k < 4611686018427387904 := by unfold maxL at h2; omega

/-- Thirty-two bytes. -/
structure Dig where
  l : List UInt8
  h : l.length = 32
  deriving DecidableEq
def Dig.cells (d : Dig) : List Value := d.l.map fun b => .int .u8 (b.toNat : Int)
@[simp] theorem Dig.length_cells (d : Dig) : d.cells.length = 32 := by simp [Dig.cells, d.h]
@[simp] theorem take_cells (d : Dig) (r : List Value) (n : Nat) (h : 32 ≤ n) : (d.cells ++ r).take n = d.cells ++ r.take (n - 32) := by
  rw [List.take_append]; simp [List.take_of_length_le, h]
@[simp] theorem take_cells0 (d : Dig) (n : Nat) (h : 32 ≤ n) : d.cells.take n = d.cells := List.take_of_length_le (by simpa using h)
@[simp] theorem drop_cells (d : Dig) (r : List Value) (n : Nat) (h : 32 ≤ n) : (d.cells ++ r).drop n = r.drop (n - 32) := by
  rw [List.drop_append]; simp [List.drop_of_length_le, h]
@[simp] theorem drop_cells0 (d : Dig) (n : Nat) (h : 32 ≤ n) : d.cells.drop n = [] := List.drop_of_length_le (by simpa using h)
@[simp] theorem get_cells (d : Dig) (r : List Value) (n : Nat) (h : 32 ≤ n) : (d.cells ++ r)[n]? = r[n - 32]? := by
  rw [List.getElem?_append_right (by simpa using h)]; simp
@[simp] theorem all_cells (d : Dig) : d.cells.all Value.oneCell' = true := by simp [Dig.cells, Value.oneCell']
@[simp] theorem mem_cells (d : Dig) : ∀ v ∈ d.cells, v.oneCell' = true := by simp [Dig.cells, Value.oneCell']
def Dig.zero : Dig := ⟨List.replicate 32 0, rfl⟩
instance : Inhabited Dig := ⟨Dig.zero⟩
instance : Rp Dig := ⟨32, fun _ cs d => cs = d.cells, fun h => by rw [h]; exact Dig.length_cells _, fun h => by rw [h]; exact mem_cells _, fun _ h => h⟩

/-! ### A box that is let stay -/
theorem freeze0 {w0 w : World} {G0 G : Gh} {n b : Nat} {T : TypeId} {cs : List Value} {bl : List Bx} (hC : Cx w0 G0 G w M) (hn : w0.heap.size ≤ n) (hB : Bxs G w n ((b, T, cs) :: bl) M) (hm : ∀ m ∈ M.may, m ∈ bl.map (·.1) ∨ m ∈ M.held.map (·.1) := by simp) :
    GLe G (G.add b (.cells cs.toArray T (0, 0))) ∧ Cx w0 G0 (G.add b (.cells cs.toArray T (0, 0))) w M ∧ Bxs (G.add b (.cells cs.toArray T (0, 0))) w n bl M := by
  obtain ⟨h1, h2, h3⟩ := hB.at_ (b, T, cs) (by simp)
  have hnd := hB.nodup
  rw [List.map_cons, List.nodup_cons] at hnd
  have hap := hB.apart (b, T, cs) (by simp)
  have hne : b ∉ M.may := fun hb => (hm b hb).elim (fun h => hnd.1 h) (fun h => hap h)
  refine ⟨Gh.add_le h2, hC.freeze h1 h2 (Nat.le_trans hn (h3.elim id (fun h => (hne h).elim))) hap, ⟨fun x hx => ?_, hnd.2, fun x hx => hB.apart x (by simp [hx])⟩⟩
  obtain ⟨k1, k2, k3⟩ := hB.at_ x (by simp [hx])
  have hne : x.1 ≠ b := fun he => hnd.1 (by rw [List.mem_map]; exact ⟨x, hx, he⟩)
  exact ⟨k1, by unfold Gh.add; rw [if_neg hne]; exact k2, k3⟩
theorem freezeBox {w0 w : World} {G0 G : Gh} {n i b : Nat} {T : TypeId} {cs : List Value} {bl : List Bx} (hC : Cx w0 G0 G w M) (hn : w0.heap.size ≤ n) (hB : Bxs G w n bl M) (hi : bl[i]? = some (b, T, cs)) (hm : ∀ m ∈ M.may, m ∈ (bl.eraseIdx i).map (·.1) ∨ m ∈ M.held.map (·.1) := by simp) :
    ∃ G', GLe G G' ∧ Cx w0 G0 G' w M ∧ Bxs G' w n (bl.eraseIdx i) M ∧ RowG G' b 0 cs := by
  obtain ⟨h1, h2, h3⟩ := freeze0 hC hn (hB.perm (perm_front hi)) hm
  exact ⟨_, h1, h2, h3, ⟨_, _, _, Gh.add_self, fun j u hu => by simpa using hu⟩⟩
end Go.Gx
