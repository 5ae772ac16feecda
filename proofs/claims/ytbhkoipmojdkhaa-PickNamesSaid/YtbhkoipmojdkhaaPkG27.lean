/- What functions of the pick seat return, part 27. No condition. -/
import Derived.Test.YtbhkoipmojdkhaaPkG26
set_option linter.all false
namespace Go.Proofs.Ytbhkoipmojdkhaa
open Go Go.Gx Go.RowKit
theorem pickGo_spec (co : Council) (lo : Mark) : ∀ (f : Nat) (n : Int) (out : List Mark) (m : Nat), m ≤ out.length → (0 < m → ∃ x, out[m - 1]? = some x ∧ x.dig ≠ Dig.zero) → (∀ (i : Nat) (x : Mark), out[i]? = some x → m ≤ i → x.dig = Dig.zero) →
    pickGo co lo f n out m = (Mark.mk 0 Dig.zero, [], 210) ∨ ∃ (outs : List Mark) (m' : Nat), pickGo co lo f n out m = (lo, outs.take m', 0) ∧ outs.length = out.length + f ∧ (∀ i, i < out.length → outs[i]? = out[i]?) ∧
      (∀ (i : Nat) (x : Mark), out.length ≤ i → outs[i]? = some x → x = (atI co (n + ((i - out.length : Nat) : Int))).1 ∧ (atI co (n + ((i - out.length : Nat) : Int))).2 = true) ∧ m' ≤ outs.length ∧ (0 < m' → ∃ x, outs[m' - 1]? = some x ∧ x.dig ≠ Dig.zero) ∧ (∀ (i : Nat) (x : Mark), outs[i]? = some x → m' ≤ i → x.dig = Dig.zero)
  | 0, n, out, m, h1, h2, h3 => .inr ⟨out, m, rfl, rfl, fun _ _ => rfl, fun i x hi hx => by have := (List.getElem?_eq_some_iff.1 hx).1; omega, h1, h2, h3⟩
  | f + 1, n, out, m, h1, h2, h3 => by
    simp only [pickGo]
    cases hok : (atI co n).2 with
    | false => exact .inl rfl
    | true =>
      simp only [Bool.not_true, cond_false]
      have hz : (bif decide ((atI co n).1.dig = Dig.zero) then m else out.length + 1) ≤ (out ++ [(atI co n).1]).length := by cases decide ((atI co n).1.dig = Dig.zero) <;> simp; omega
      rcases pickGo_spec co lo f (n + 1) (out ++ [(atI co n).1]) (bif decide ((atI co n).1.dig = Dig.zero) then m else out.length + 1) hz (fun h0 => by
          cases hd : decide ((atI co n).1.dig = Dig.zero) with
          | true =>
            rw [hd] at h0
            obtain ⟨x, hx, hx2⟩ := h2 h0
            exact ⟨x, by simp only [cond_true]; rw [List.getElem?_append_left (List.getElem?_eq_some_iff.1 hx).1]; exact hx, hx2⟩
          | false => exact ⟨(atI co n).1, by simp, of_decide_eq_false hd⟩) (fun i x hx hm => by
          by_cases hi : i < out.length
          · rw [List.getElem?_append_left hi] at hx
            cases hd : decide ((atI co n).1.dig = Dig.zero) with
            | true => rw [hd] at hm; exact h3 i x hx hm
            | false => rw [hd] at hm; simp at hm; omega
          · rw [List.getElem?_append_right (by omega)] at hx
            have hi0 : i - out.length = 0 := by
              rcases Nat.eq_zero_or_pos (i - out.length) with h | h
              · exact h
              · rw [List.getElem?_eq_none (by simp; omega)] at hx; cases hx
            rw [hi0] at hx
            simp at hx
            subst hx
            cases hd : decide ((atI co n).1.dig = Dig.zero) with
            | true => exact of_decide_eq_true hd
            | false => rw [hd] at hm; simp at hm; omega) with h | ⟨outs, m', g1, g2, g3, g4, g5⟩
      · exact .inl h
      · refine .inr ⟨outs, m', g1, by simp at g2; omega, fun i hi => ?_, fun i x hi hx => ?_, g5⟩
        · rw [g3 i (by simp; omega), List.getElem?_append_left hi]
        · by_cases hi2 : i = out.length
          · subst hi2
            rw [g3 _ (by simp), List.getElem?_append_right (Nat.le_refl _)] at hx
            simp at hx
            subst hx
            simp [hok]
          · have := g4 i x (by simp; omega) hx
            have e : n + 1 + ((i - (out ++ [(atI co n).1]).length : Nat) : Int) = n + ((i - out.length : Nat) : Int) := by simp; omega
            rw [e] at this
            exact this
theorem sel_struct {f : Int} (hf : f = 1 ∨ f = 2) {l : List Change} (hb : badB (has (crewI f)) [] l = false) : selI (has (crewI f)) (crewI f) l = (Mark.mk 0 Dig.zero, [], 210) ∨
    (2 * f + 1 ≤ (l.length : Int) ∧ (lowI ⟨most (crewI f), some_ (crewI f), l⟩).2 = true ∧ ∃ (outs : List Mark) (m : Nat), selI (has (crewI f)) (crewI f) l = ((lowI ⟨most (crewI f), some_ (crewI f), l⟩).1, outs.take m, 0) ∧ outs.length = 8 ∧
      (∀ (i : Nat) (x : Mark), outs[i]? = some x → x = (atI ⟨most (crewI f), some_ (crewI f), l⟩ ((lowI ⟨most (crewI f), some_ (crewI f), l⟩).1.seq + 1 + (i : Int))).1 ∧ (atI ⟨most (crewI f), some_ (crewI f), l⟩ ((lowI ⟨most (crewI f), some_ (crewI f), l⟩).1.seq + 1 + (i : Int))).2 = true) ∧
      m ≤ outs.length ∧ (0 < m → ∃ x, outs[m - 1]? = some x ∧ x.dig ≠ Dig.zero) ∧ (∀ (i : Nat) (x : Mark), outs[i]? = some x → m ≤ i → x.dig = Dig.zero)) := by
  obtain ⟨c1, c2, c3⟩ := crew_nums hf
  unfold selI
  rw [c1, hb]
  simp only [cond_false]
  cases h1 : decide (((l.length : Nat) : Int) < most (crewI f)) with
  | true => simp
  | false =>
    have h1 := of_decide_eq_false h1
    cases h2 : (lowI ⟨most (crewI f), some_ (crewI f), l⟩).2 with
    | false => simp
    | true =>
      simp only [Bool.not_true, Bool.or_false, cond_false]
      rcases pickGo_spec ⟨most (crewI f), some_ (crewI f), l⟩ (lowI ⟨most (crewI f), some_ (crewI f), l⟩).1 8 ((lowI ⟨most (crewI f), some_ (crewI f), l⟩).1.seq + 1) [] 0 (Nat.le_refl _) (by intro h; omega) (by intro i x h; simp at h) with h | ⟨outs, m, g1, g2, _, g4, g5⟩
      · exact .inl h
      · exact .inr ⟨by omega, trivial, outs, m, g1, by simpa using g2, fun i x hx => by have := g4 i x (Nat.zero_le _) hx; simpa using this, g5⟩
end Go.Proofs.Ytbhkoipmojdkhaa
