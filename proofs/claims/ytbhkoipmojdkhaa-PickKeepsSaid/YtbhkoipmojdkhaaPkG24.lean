/- What functions of the pick seat return, part 24. No condition. -/
import Derived.Test.YtbhkoipmojdkhaaPkG23
set_option linter.all false
namespace Go.Proofs.Ytbhkoipmojdkhaa
open Go Go.Gx Go.RowKit
theorem rises_pw : ∀ (xs : List Int) (l : Int), risesB l xs = true → (∀ x ∈ xs, l < x) ∧ xs.Pairwise (· < ·)
  | [], _, _ => ⟨by simp, .nil⟩
  | x :: r, l, h => by
    simp only [risesB] at h
    cases hx : decide (x ≤ l) || !nodeB x with
    | true => rw [hx] at h; cases h
    | false =>
      rw [hx] at h
      obtain ⟨h1, h2⟩ := rises_pw r x h
      have hlx : l < x := by simp at hx; omega
      refine ⟨fun y hy => ?_, .cons h1 h2⟩
      rcases List.mem_cons.1 hy with rfl | hy
      · exact hlx
      · have := h1 y hy; omega
theorem getD_mono {xs : List Int} (hp : xs.Pairwise (· < ·)) {m m' : Nat} (h : m ≤ m') (h' : m' < xs.length) : xs.getD m 0 ≤ xs.getD m' 0 := by
  rw [List.getD_eq_getElem?_getD, List.getD_eq_getElem?_getD, List.getElem?_eq_getElem h', List.getElem?_eq_getElem (by omega)]
  simp only [Option.getD_some]
  by_cases he : m = m'
  · subst he; omega
  · have := (List.pairwise_iff_getElem.1 hp) m m' (by omega) h' (by omega); omega
theorem bsGo_law {xs : List Int} (hp : xs.Pairwise (· < ·)) (t : Int) : ∀ (f i j : Nat), i ≤ j → j ≤ xs.length → j ≤ i + f → (∀ m, m < i → xs.getD m 0 < t) → (∀ m, j ≤ m → m < xs.length → t ≤ xs.getD m 0) →
    bsGo xs t f i j ≤ xs.length ∧ (∀ m, m < bsGo xs t f i j → xs.getD m 0 < t) ∧ (∀ m, bsGo xs t f i j ≤ m → m < xs.length → t ≤ xs.getD m 0)
  | 0, i, j, h1, h2, h3, h4, h5 => by
    have : i = j := by omega
    subst this
    exact ⟨h2, h4, h5⟩
  | f + 1, i, j, h1, h2, h3, h4, h5 => by
    simp only [bsGo]
    cases hij : decide (i < j) with
    | false =>
      have : i = j := by have := of_decide_eq_false hij; omega
      subst this
      exact ⟨h2, h4, h5⟩
    | true =>
      have hij := of_decide_eq_true hij
      simp only [cond_true]
      cases hc : decide (xs.getD ((i + j) / 2) 0 < t) with
      | true =>
        have hc := of_decide_eq_true hc
        simp only [cond_true]
        exact bsGo_law hp t f _ j (by omega) h2 (by omega) (fun m hm => by have := getD_mono hp (m := m) (m' := (i + j) / 2) (by omega) (by omega); omega) h5
      | false =>
        have hc := of_decide_eq_false hc
        simp only [cond_false]
        exact bsGo_law hp t f i _ (by omega) (by omega) (by omega) h4 (fun m hm hl => by have := getD_mono hp (m := (i + j) / 2) (m' := m) hm hl; omega)
theorem bsF_any {xs : List Int} (hp : xs.Pairwise (· < ·)) (t : Int) : bsF xs t = xs.any (fun y => y == t) := by
  obtain ⟨h1, h2, h3⟩ := bsGo_law hp t xs.length 0 xs.length (Nat.zero_le _) (Nat.le_refl _) (by omega) (fun m hm => by omega) (fun m hm hl => by omega)
  rw [Bool.eq_iff_iff]
  simp only [bsF, bsI, Bool.and_eq_true, decide_eq_true_eq, beq_iff_eq, List.any_eq_true]
  constructor
  · rintro ⟨g1, g2⟩
    refine ⟨_, ?_, g2⟩
    rw [List.getD_eq_getElem?_getD, List.getElem?_eq_getElem (of_decide_eq_true g1)]
    simp
  · rintro ⟨x, hx, rfl⟩
    obtain ⟨m, hm, rfl⟩ := List.mem_iff_getElem.1 hx
    have hg : xs.getD m 0 = xs[m] := by rw [List.getD_eq_getElem?_getD, List.getElem?_eq_getElem hm]; rfl
    have hle : bsGo xs xs[m] xs.length 0 xs.length ≤ m := by
      rcases Nat.lt_or_ge m (bsGo xs xs[m] xs.length 0 xs.length) with h | h
      · have := h2 m h; omega
      · exact h
    have hr : bsGo xs xs[m] xs.length 0 xs.length < xs.length := by omega
    refine ⟨decide_eq_true hr, ?_⟩
    have e1 := h3 _ (Nat.le_refl _) hr
    have e2 := getD_mono hp hle hm
    omega
theorem has_rhas (c : Crew) : has c = rhasB c := by
  funext n
  unfold has rhasB
  cases h : check c == 0 with
  | false => rfl
  | true =>
    have hc : risesB 0 c.nodes = true := by
      cases hr : risesB 0 c.nodes with
      | true => rfl
      | false =>
        have h := of_decide_eq_true h
        unfold check at h
        rw [hr] at h
        revert h
        cases (decide (c.faults < 0) || (decide (2 < c.faults) || ((c.nodes.length : Int) != IntKind.wrap .i64 (IntKind.wrap .i64 (3 * c.faults) + 1)))) <;> simp
    rw [bsF_any (rises_pw _ _ hc).2]
theorem co9 : callOk Try.prog 9 = true := by kernel_rfl
theorem co14 : callOk Try.prog 14 = true := by kernel_rfl
theorem sz3 : (Try.prog.info? 3).map (·.size) = some 1 := by kernel_rfl
end Go.Proofs.Ytbhkoipmojdkhaa
