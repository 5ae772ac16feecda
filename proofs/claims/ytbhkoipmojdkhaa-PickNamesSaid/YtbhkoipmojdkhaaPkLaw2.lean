/- Laws on plain lists: what is selected does not hang on the order of the list. No condition. -/
import Derived.Test.YtbhkoipmojdkhaaPkG22
set_option linter.all false
namespace Go.Proofs.Ytbhkoipmojdkhaa
open Go Go.Gx
/-- The best of a list, said without an order. -/
structure IsBest {α : Type} (may : α → Bool) (cmp : α → α → Int) (l : List α) (o : α) (k : Bool) (r : α × Bool) : Prop where
  no : r.2 = false → (∀ x ∈ l, may x = false) ∧ k = false ∧ r.1 = o
  ok : r.2 = true → may r.1 = true ∧ (r.1 ∈ l ∨ (k = true ∧ r.1 = o)) ∧ (∀ x ∈ l, may x = true → ¬ 0 < cmp x r.1) ∧ (k = true → ¬ 0 < cmp o r.1)
theorem badB_iff (p : Int → Bool) : ∀ (l : List Change) (pre : List Int), badB p pre l = false ↔ (∀ x ∈ l, p x.node = true) ∧ (∀ x ∈ l, x.node ∉ pre) ∧ (l.map (·.node)).Nodup
  | [], pre => by simp [badB]
  | x :: r, pre => by
    simp only [badB]
    have ih := badB_iff p r (pre ++ [x.node])
    cases hx : !p x.node || pre.any (fun y => y == x.node) with
    | true =>
      simp only [cond_true]
      constructor
      · intro h; cases h
      · rintro ⟨h1, h2, _⟩
        have a1 := h1 x (by simp)
        have a2 := h2 x (by simp)
        rw [a1] at hx
        simp at hx
        exact absurd hx a2
    | false =>
      simp only [cond_false]
      rw [ih]
      simp only [Bool.or_eq_false_iff, Bool.not_eq_false'] at hx
      obtain ⟨g1, g2⟩ := hx
      have g3 : x.node ∉ pre := by
        intro h
        have : pre.any (fun y => y == x.node) = true := List.any_eq_true.2 ⟨_, h, by simp⟩
        rw [this] at g2; cases g2
      simp only [List.map_cons, List.nodup_cons, List.mem_cons, List.mem_map]
      constructor
      · rintro ⟨h1, h2, h3⟩
        refine ⟨?_, ?_, ?_, h3⟩
        · rintro y (rfl | hy)
          · exact g1
          · exact h1 y hy
        · rintro y (rfl | hy)
          · exact g3
          · exact fun h => h2 y hy (List.mem_append.2 (.inl h))
        · rintro ⟨y, hy, he⟩; exact h2 y hy (List.mem_append.2 (.inr (by rw [he]; simp)))
      · rintro ⟨h1, h2, h3, h4⟩
        refine ⟨fun y hy => h1 y (.inr hy), fun y hy h => ?_, h4⟩
        rcases List.mem_append.1 h with h | h
        · exact h2 y (.inr hy) h
        · exact h3 ⟨y, hy, by simpa using h⟩
end Go.Proofs.Ytbhkoipmojdkhaa
