/- The laws of marks: what the code has and what the document has, call by call. No condition. -/
import Derived.Test.YtbmanooiphghmaaMkG9
set_option linter.all false
set_option linter.unusedSimpArgs false
namespace Go.Proofs.Ytbmanooiphghmaa
open Go Go.Gx
theorem getD_mono {α : Type} {d : α} {f : α → Int} {xs : List α} (hp : xs.Pairwise (fun a b => f a < f b)) {m m' : Nat} (h : m ≤ m') (h' : m' < xs.length) : f (xs.getD m d) ≤ f (xs.getD m' d) := by
  rw [List.getD_eq_getElem?_getD, List.getD_eq_getElem?_getD, List.getElem?_eq_getElem h', List.getElem?_eq_getElem (by omega)]
  simp only [Option.getD_some]
  by_cases he : m = m'
  · subst he; omega
  · have := (List.pairwise_iff_getElem.1 hp) m m' (by omega) h' (by omega); omega
/-! ### Rising lists -/
abbrev Ris (l : List Mark) : Prop := l.Pairwise (fun a b => a.seq < b.seq)
theorem bfGo_law {xs : List Mark} (hp : Ris xs) (t : Int) : ∀ (f i j : Nat), i ≤ j → j ≤ xs.length → j ≤ i + f → (∀ m, m < i → (xs.getD m default).seq < t) → (∀ m, j ≤ m → m < xs.length → t ≤ (xs.getD m default).seq) →
    bfGo (fun a => decide (cmpI a.seq t < 0)) xs f i j ≤ xs.length ∧ (∀ m, m < bfGo (fun a => decide (cmpI a.seq t < 0)) xs f i j → (xs.getD m default).seq < t) ∧ (∀ m, bfGo (fun a => decide (cmpI a.seq t < 0)) xs f i j ≤ m → m < xs.length → t ≤ (xs.getD m default).seq)
  | 0, i, j, h1, h2, h3, h4, h5 => by
    have : i = j := by omega
    subst this
    exact ⟨h2, h4, h5⟩
  | f + 1, i, j, h1, h2, h3, h4, h5 => by
    simp only [bfGo]
    cases hij : decide (i < j) with
    | false =>
      have : i = j := by have := of_decide_eq_false hij; omega
      subst this
      exact ⟨h2, h4, h5⟩
    | true =>
      have hij := of_decide_eq_true hij
      simp only [cond_true]
      cases hc : decide (cmpI (xs.getD ((i + j) / 2) default).seq t < 0) with
      | true =>
        have hc : (xs.getD ((i + j) / 2) default).seq < t := by
          have := of_decide_eq_true hc; unfold cmpI at this; split at this
          · assumption
          · split at this <;> omega
        simp only [cond_true]
        exact bfGo_law hp t f _ j (by omega) h2 (by omega) (fun m hm => by have := getD_mono (d := default) hp (m := m) (m' := (i + j) / 2) (by omega) (by omega); omega) h5
      | false =>
        have hc : t ≤ (xs.getD ((i + j) / 2) default).seq := by
          have := of_decide_eq_false hc; unfold cmpI at this; split at this
          · omega
          · omega
        simp only [cond_false]
        exact bfGo_law hp t f i _ (by omega) (by omega) (by omega) h4 (fun m hm hl => by have := getD_mono (d := default) hp (m := (i + j) / 2) (m' := m) hm hl; omega)
abbrev bI (l : List Mark) (t : Int) : Nat := bfI (fun a => decide (cmpI a.seq t < 0)) l
theorem bI_split {l : List Mark} (hp : Ris l) (t : Int) : (∀ y ∈ l.take (bI l t), y.seq < t) ∧ (∀ y ∈ l.drop (bI l t), t ≤ y.seq) ∧ bI l t ≤ l.length := by
  obtain ⟨h1, h2, h3⟩ := bfGo_law hp t l.length 0 l.length (Nat.zero_le _) (Nat.le_refl _) (by omega) (fun m hm => by omega) (fun m hm hl => by omega)
  have key : ∀ m (hm : m < l.length), l.getD m default = l[m] := fun m hm => by rw [List.getD_eq_getElem?_getD, List.getElem?_eq_getElem hm]; rfl
  refine ⟨fun y hy => ?_, fun y hy => ?_, h1⟩
  · obtain ⟨m, hm, rfl⟩ := List.mem_iff_getElem.1 hy
    rw [List.length_take] at hm
    rw [List.getElem_take, ← key m (by omega)]
    exact h2 m (by show m < bI l t; omega)
  · obtain ⟨m, hm, rfl⟩ := List.mem_iff_getElem.1 hy
    rw [List.length_drop] at hm
    rw [List.getElem_drop, ← key (bI l t + m) (by omega)]
    exact h3 _ (by show bI l t ≤ bI l t + m; omega) (by omega)
theorem insA_ris {l : List Mark} (hp : Ris l) {x : Mark} (hb : bfF (fun g_x0 g_x1 => cmpI g_x0.seq g_x1) l x.seq = false) : Ris (insA l (bI l x.seq) x) := by
  obtain ⟨h1, h2, h3⟩ := bI_split hp x.seq
  have hne : ∀ y ∈ l.drop (bI l x.seq), x.seq < y.seq := by
    cases hd : l.drop (bI l x.seq) with
    | nil => simp
    | cons y r =>
      have hl : bI l x.seq < l.length := by
        rcases Nat.lt_or_ge (bI l x.seq) l.length with h | h
        · exact h
        · rw [List.drop_eq_nil_of_le h] at hd; cases hd
      have hy : l.getD (bI l x.seq) default = y := by
        have : (l.drop (bI l x.seq))[0]? = some y := by rw [hd]; rfl
        rw [List.getElem?_drop, Nat.add_zero] at this
        simp [List.getD_eq_getElem?_getD, this]
      have hge : x.seq ≤ y.seq := h2 y (by rw [hd]; simp)
      have hr : Ris (y :: r) := by rw [← hd]; exact hp.sublist (List.drop_sublist _ _)
      have hrest : ∀ z ∈ r, y.seq < z.seq := (List.pairwise_cons.1 hr).1
      have hney : y.seq ≠ x.seq := by
        intro he
        unfold bfF at hb
        rw [show bfI (fun a => decide (cmpI a.seq x.seq < 0)) l = bI l x.seq from rfl, hy] at hb
        simp [hl, he, cmpI] at hb
      intro z hz
      rcases List.mem_cons.1 hz with rfl | hz
      · omega
      · have := hrest z hz; omega
  unfold insA Ris
  rw [List.pairwise_append, List.cons_append, List.nil_append, List.pairwise_cons]
  refine ⟨hp.sublist (List.take_sublist _ _), ⟨hne, hp.sublist (List.drop_sublist _ _)⟩, fun a ha b hb => ?_⟩
  have := h1 a ha
  rcases List.mem_cons.1 hb with rfl | hb
  · exact this
  · have := hne b hb; omega
/-! ### Both tell the same -/
structure Rel (m : MSt) (r : RSt) : Prop where
  crew : m.crew = r.crew
  low : m.low = r.mark
  ok : check r.crew = 0
  nd : (m.list.map (·.1)).Nodup
  im : MInv m
  ir : RInv r
  of : ∀ n, (mget m.list n).getD [] = rofL r n
  ris : ∀ n, Ris (rofL r n)
theorem ris_cut4 {l : List Mark} (h : Ris l) : Ris (cut4 l) := h.sublist (List.drop_sublist _ _)
end Go.Proofs.Ytbmanooiphghmaa
