/- The ghost heap (blocks that stay as they are), the call's own boxes, and what a function leaves behind. No condition. -/
import Derived.Test.YtpbcabanpppfoaaGreatGxOps
set_option linter.all false
namespace Go.Gx
open Go Go.RowKit
/-- What may turn: the old blocks that may, and the blocks whose contents are kept track of apart. -/
structure Mu where
  may : List Nat := []
  held : List (Nat × Obj) := []
instance : Coe (List Nat) Mu := ⟨fun l => ⟨l, []⟩⟩
variable {M : Mu}

/-- Blocks that stay as they are. -/
abbrev Gh := Nat → Option Obj
def Holds (G : Gh) (w : World) : Prop := ∀ b o, G b = some o → w.heap[b]? = some o
theorem Holds.lt {G : Gh} {w : World} (h : Holds G w) {b : Nat} {o : Obj} (hb : G b = some o) : b < w.heap.size := (Array.getElem?_eq_some_iff.1 (h b o hb)).1
theorem Holds.none_ {G : Gh} {w : World} (h : Holds G w) {b : Nat} (hb : w.heap.size ≤ b) : G b = none := by
  cases hg : G b with
  | none => rfl
  | some o => have := h.lt hg; omega

/-- From w0 and G0 on: what was there is as it was; G has the old ones, and new blocks. -/
structure Cx (w0 : World) (G0 G : Gh) (w : World) (M : Mu := {}) : Prop where
  holds : Holds G w
  os : w.os = w0.os
  tape : w.tape = w0.tape
  output : w.output = w0.output
  size : w0.heap.size ≤ w.heap.size
  old' : ∀ b, b < w0.heap.size → b ∉ M.may → w.heap[b]? = w0.heap[b]?
  gle : ∀ b o, G0 b = some o → G b = some o
  fresh : ∀ b o, G b = some o → G0 b = some o ∨ w0.heap.size ≤ b
  held : ∀ x ∈ M.held, w.heap[x.1]? = some x.2 ∧ G x.1 = none ∧ (w0.heap.size ≤ x.1 ∨ x.1 ∈ M.may)
  hnd : (M.held.map (·.1)).Nodup

section
variable {w0 w w' : World} {G0 G G' : Gh}
theorem Cx.old (h : Cx w0 G0 G w) (b : Nat) (hb : b < w0.heap.size) : w.heap[b]? = w0.heap[b]? := h.old' b hb (by simp)
theorem Cx.heldLt (h : Cx w0 G0 G w M) : ∀ x ∈ M.held, x.1 < w.heap.size := fun x hx => (Array.getElem?_eq_some_iff.1 (h.held x hx).1).1
theorem Cx.refl (h : Holds G w) : Cx w G G w := ⟨h, rfl, rfl, rfl, Nat.le_refl _, fun _ _ _ => rfl, fun _ _ h => h, fun _ _ h => .inl h, fun _ h => (List.not_mem_nil h).elim, List.nodup_nil⟩
theorem Cx.none' (k : Cx w G G' w' M) {b : Nat} (hb : b < w.heap.size) (hg : G b = none) : G' b = none := by
  cases hg' : G' b with
  | none => rfl
  | some o =>
    rcases k.fresh b o hg' with h6 | h6
    · rw [hg] at h6; cases h6
    · omega
theorem Cx.trans (h : Cx w0 G0 G w M) (k : Cx w G G' w') : Cx w0 G0 G' w' M :=
  ⟨k.holds, k.os.trans h.os, k.tape.trans h.tape, k.output.trans h.output, Nat.le_trans h.size k.size, fun b hb hm => (k.old b (Nat.lt_of_lt_of_le hb h.size)).trans (h.old' b hb hm),
   fun b o hg => k.gle b o (h.gle b o hg), fun b o hg => by
    rcases k.fresh b o hg with h1 | h1
    · exact h.fresh b o h1
    · exact .inr (Nat.le_trans h.size h1), fun x hx => ⟨(k.old x.1 (h.heldLt x hx)).trans (h.held x hx).1, k.none' (h.heldLt x hx) (h.held x hx).2.1, (h.held x hx).2.2⟩, h.hnd⟩
/-- .. behind which some blocks may have turned that are new, or that may turn; what is kept track of behind it is said. -/
theorem Cx.transM' {K : Mu} {H : List (Nat × Obj)} (h : Cx w0 G0 G w M) (k : Cx w G G' w' K) (hK : ∀ b ∈ K.may, w0.heap.size ≤ b ∨ b ∈ M.may)
    (hH : ∀ x ∈ H, (x ∈ M.held ∧ x.1 ∉ K.may) ∨ x ∈ K.held) (hn : (H.map (·.1)).Nodup) : Cx w0 G0 G' w' ⟨M.may, H⟩ :=
  ⟨k.holds, k.os.trans h.os, k.tape.trans h.tape, k.output.trans h.output, Nat.le_trans h.size k.size, fun b hb hm => (k.old' b (Nat.lt_of_lt_of_le hb h.size) (fun hk => by
      rcases hK b hk with h1 | h1
      · omega
      · exact hm h1)).trans (h.old' b hb hm),
   fun b o hg => k.gle b o (h.gle b o hg), fun b o hg => by
    rcases k.fresh b o hg with h1 | h1
    · exact h.fresh b o h1
    · exact .inr (Nat.le_trans h.size h1), fun x hx => by
    rcases hH x hx with ⟨h1, h2⟩ | h1
    · exact ⟨(k.old' x.1 (h.heldLt x h1) h2).trans (h.held x h1).1, k.none' (h.heldLt x h1) (h.held x h1).2.1, (h.held x h1).2.2⟩
    · obtain ⟨a, b, c⟩ := k.held x h1
      refine ⟨a, b, ?_⟩
      rcases c with c | c
      · exact .inl (Nat.le_trans h.size c)
      · exact hK _ c, hn⟩
theorem Cx.alloc (h : Holds G w) (o : Obj) : Cx w G G (w.alloc o) :=
  ⟨fun b u hb => (Below.heap_alloc w o b (h.lt hb)).trans (h b u hb), rfl, rfl, rfl, by simp, fun b hb _ => Below.heap_alloc w o b hb, fun _ _ h => h, fun _ _ h => .inl h, fun _ h => (List.not_mem_nil h).elim, List.nodup_nil⟩
theorem Cx.drew (h : Cx w0 G0 G w M) : Cx w0 G0 G w.drew M := ⟨h.holds, h.os, h.tape, h.output, h.size, h.old', h.gle, h.fresh, h.held, h.hnd⟩
theorem Cx.below (h : Cx w0 G0 G w) : Below w0.heap.size w0 w := ⟨h.os, h.tape, h.output, h.size, h.old⟩
/-- A new block is let stay. -/
def Gh.add (G : Gh) (b : Nat) (o : Obj) : Gh := fun x => if x = b then some o else G x
theorem Gh.add_le {b : Nat} {o : Obj} (hb : G b = none) : ∀ x u, G x = some u → G.add b o x = some u := by
  intro x u hx
  unfold Gh.add
  by_cases hxb : x = b
  · subst hxb; rw [hb] at hx; cases hx
  · rw [if_neg hxb]; exact hx
theorem Gh.add_self {b : Nat} {o : Obj} : G.add b o b = some o := by simp [Gh.add]
theorem Cx.freeze (h : Cx w0 G0 G w M) {b : Nat} {o : Obj} (hb : w.heap[b]? = some o) (hg : G b = none) (hn : w0.heap.size ≤ b) (hh : b ∉ M.held.map (·.1)) : Cx w0 G0 (G.add b o) w M :=
  ⟨fun x u hx => by
    unfold Gh.add at hx
    by_cases hxb : x = b
    · rw [if_pos hxb] at hx; subst hxb; rw [hb]; exact hx
    · rw [if_neg hxb] at hx; exact h.holds x u hx,
   h.os, h.tape, h.output, h.size, h.old', fun x u hx => Gh.add_le hg x u (h.gle x u hx), fun x u hx => by
    unfold Gh.add at hx
    by_cases hxb : x = b
    · subst hxb; exact .inr hn
    · rw [if_neg hxb] at hx; exact h.fresh x u hx, fun x hx => ⟨(h.held x hx).1, by
    have : x.1 ≠ b := fun e => hh (List.mem_map.2 ⟨x, hx, e⟩)
    unfold Gh.add; rw [if_neg this]; exact (h.held x hx).2.1, (h.held x hx).2.2⟩, h.hnd⟩
theorem Cx.setRow' (h : Cx w0 G0 G w M) {b : Nat} (hg : G b = none) (hn : w0.heap.size ≤ b ∨ b ∈ M.may) (hh : b ∉ M.held.map (·.1)) (cs : Array Value) : Cx w0 G0 G (w.setRow b cs) M :=
  ⟨fun x u hx => by
    have : x ≠ b := by rintro rfl; rw [hg] at hx; cases hx
    rw [setRow_other w b x cs this]; exact h.holds x u hx,
   h.os, h.tape, h.output, by simpa using h.size, fun x hx hm => by rw [setRow_other w b x cs (by rintro rfl; exact hn.elim (fun h1 => by omega) (fun h1 => hm h1))]; exact h.old' x hx hm, h.gle, h.fresh, fun x hx => ⟨by
    have : x.1 ≠ b := fun e => hh (List.mem_map.2 ⟨x, hx, e⟩)
    rw [setRow_other w b x.1 cs this]; exact (h.held x hx).1, (h.held x hx).2⟩, h.hnd⟩
end

/-! ### The call's own boxes -/
abbrev Bx := Nat × TypeId × List Value
structure Bxs (G : Gh) (w : World) (n : Nat) (l : List Bx) (M : Mu := {}) : Prop where
  at_ : ∀ x ∈ l, w.heap[x.1]? = some (.cells x.2.2.toArray x.2.1 (0, 0)) ∧ G x.1 = none ∧ (n ≤ x.1 ∨ x.1 ∈ M.may)
  nodup : (l.map (·.1)).Nodup
  apart : ∀ x ∈ l, x.1 ∉ M.held.map (·.1)
section
variable {w0 w w' : World} {G0 G G' : Gh} {n : Nat}
theorem Bxs.nil (G : Gh) (w : World) (n : Nat) : Bxs G w n [] M := ⟨fun x h => by simp at h, by simp, fun x h => by simp at h⟩
theorem Bxs.get {l : List Bx} (h : Bxs G w n l M) {i : Nat} {b : Nat} {T : TypeId} {cs : List Value} (hi : l[i]? = some (b, T, cs)) : w.heap[b]? = some (.cells cs.toArray T (0, 0)) ∧ G b = none ∧ (n ≤ b ∨ b ∈ M.may) :=
  h.at_ _ (List.mem_of_getElem? hi)
theorem Bxs.off {l : List Bx} (h : Bxs G w n l M) {i : Nat} {b : Nat} {T : TypeId} {cs : List Value} (hi : l[i]? = some (b, T, cs)) : b ∉ M.held.map (·.1) := h.apart _ (List.mem_of_getElem? hi)
theorem Bxs.range {l : List Bx} (h : Bxs G w n l M) {i : Nat} {b : Nat} {T : TypeId} {cs : List Value} (hi : l[i]? = some (b, T, cs)) {o m : Nat} {row : List Value} (hr : (cs.drop o).take m = row) : w.rangeAt b o row := by
  intro j v hv
  have h1 := (h.get hi).1
  subst hr
  rw [World.cell?, h1]
  simp only [Option.isSome, List.getElem?_toArray]
  rw [List.getElem?_take] at hv
  split at hv
  · rw [List.getElem?_drop] at hv
    exact hv
  · cases hv
theorem Bxs.cell {l : List Bx} (h : Bxs G w n l M) {i : Nat} {b : Nat} {T : TypeId} {cs : List Value} (hi : l[i]? = some (b, T, cs)) {o : Nat} {v : Value} (hr : cs[o]? = some v) : w.cell? ⟨b, o, none⟩ = some v := by
  have h1 := (h.get hi).1
  rw [World.cell?, h1]
  simpa using hr
theorem Bxs.lt {l : List Bx} (h : Bxs G w n l M) : ∀ x ∈ l, x.1 < w.heap.size := fun x hx => (Array.getElem?_eq_some_iff.1 (h.at_ x hx).1).1
theorem Bxs.ext {l : List Bx} (h : Bxs G w n l M) (k : Cx w G G' w') : Bxs G' w' n l M := by
  refine ⟨fun x hx => ?_, h.nodup, h.apart⟩
  obtain ⟨h1, h2, h3⟩ := h.at_ x hx
  have hlt := h.lt x hx
  refine ⟨(k.old x.1 hlt).trans h1, ?_, h3⟩
  cases hg : G' x.1 with
  | none => rfl
  | some o =>
    rcases k.fresh x.1 o hg with h6 | h6
    · rw [h2] at h6; cases h6
    · omega
theorem Bxs.drew {l : List Bx} (h : Bxs G w n l M) : Bxs G w.drew n l M := ⟨h.at_, h.nodup, h.apart⟩
theorem Bxs.push {l : List Bx} (h : Bxs G w n l M) (hh : Holds G w) (hn : n ≤ w.heap.size) (hM : ∀ x ∈ M.held, x.1 < w.heap.size) (T : TypeId) (cs : List Value) : Bxs G (w.alloc (.cells cs.toArray T)) n ((w.heap.size, T, cs) :: l) M := by
  have h1 := h.ext (Cx.alloc hh (.cells cs.toArray T))
  refine ⟨fun x hx => ?_, ?_, fun x hx => ?_⟩
  · rcases List.mem_cons.1 hx with rfl | hx
    · exact ⟨heap_alloc_new w _, hh.none_ (Nat.le_refl _), .inl hn⟩
    · exact h1.at_ x hx
  · rw [List.map_cons, List.nodup_cons]
    refine ⟨?_, h.nodup⟩
    rw [List.mem_map]
    rintro ⟨x, hx, he⟩
    have := h.lt x hx
    omega
  · rcases List.mem_cons.1 hx with rfl | hx
    · intro hm
      obtain ⟨y, hy, he⟩ := List.mem_map.1 hm
      have := hM y hy
      simp only [] at he
      omega
    · exact h1.apart x hx
theorem Bxs.sub {l l' : List Bx} (h : Bxs G w n l M) (hs : l'.Sublist l) : Bxs G w n l' M := ⟨fun x hx => h.at_ x (hs.subset hx), (hs.map (·.1)).nodup h.nodup, fun x hx => h.apart x (hs.subset hx)⟩
theorem Bxs.perm {l l' : List Bx} (h : Bxs G w n l M) (hp : l.Perm l') : Bxs G w n l' M := ⟨fun x hx => h.at_ x (hp.mem_iff.2 hx), (hp.map (·.1)).nodup_iff.1 h.nodup, fun x hx => h.apart x (hp.mem_iff.2 hx)⟩
theorem Bxs.tail {x : Bx} {l : List Bx} (h : Bxs G w n (x :: l) M) : Bxs G w n l M := h.sub (List.sublist_cons_self x l)
/-- The head is written. -/
theorem Bxs.set0 {b : Nat} {T : TypeId} {cs : List Value} {l : List Bx} (h : Bxs G w n ((b, T, cs) :: l) M) (cs' : List Value) : Bxs G (w.setRow b cs'.toArray) n ((b, T, cs') :: l) M := by
  have hnd := h.nodup
  rw [List.map_cons, List.nodup_cons] at hnd
  refine ⟨fun x hx => ?_, by rw [List.map_cons, List.nodup_cons]; exact hnd, fun x hx => (List.mem_cons.1 hx).elim (fun e => by rw [e]; exact h.apart (b, T, cs) (by simp)) (fun hx => h.apart x (by simp [hx]))⟩
  obtain ⟨h1, h2, h3⟩ := h.at_ (b, T, cs) (by simp)
  rcases List.mem_cons.1 hx with rfl | hx
  · exact ⟨setRow_heap w _ _ _ _ _ h1, h2, h3⟩
  · obtain ⟨k1, k2, k3⟩ := h.at_ x (by simp [hx])
    have hne : x.1 ≠ b := fun he => hnd.1 (by rw [List.mem_map]; exact ⟨x, hx, he⟩)
    exact ⟨(setRow_other w b x.1 _ hne).trans k1, k2, k3⟩
theorem perm_front {l : List Bx} {i : Nat} {x : Bx} (hi : l[i]? = some x) : l.Perm (x :: l.eraseIdx i) := by
  obtain ⟨hlt, rfl⟩ := List.getElem?_eq_some_iff.1 hi
  induction l generalizing i with
  | nil => simp at hlt
  | cons y r ih =>
    cases i with
    | zero => simp
    | succ i =>
      have hlt' : i < r.length := by simpa using hlt
      simp only [List.getElem_cons_succ, List.eraseIdx_cons_succ]
      exact ((ih hlt' (List.getElem?_eq_getElem hlt')).cons y).trans (List.Perm.swap _ _ _)
theorem perm_set {l : List Bx} {i : Nat} (x : Bx) (hi : i < l.length) : (l.set i x).Perm (x :: l.eraseIdx i) := by
  have := perm_front (l := l.set i x) (i := i) (x := x) (by simp [hi])
  rwa [List.eraseIdx_set_eq] at this
theorem Bxs.set {l : List Bx} (h : Bxs G w n l M) {i b : Nat} {T : TypeId} {cs : List Value} (hi : l[i]? = some (b, T, cs)) (cs' : List Value) : Bxs G (w.setRow b cs'.toArray) n (l.set i (b, T, cs')) M := by
  have hlt := (List.getElem?_eq_some_iff.1 hi).1
  exact ((h.perm (perm_front hi)).set0 cs').perm (perm_set (b, T, cs') hlt).symm
end
end Go.Gx
