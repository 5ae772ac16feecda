/- The laws of the statements on marks that do not ask the document. No condition. -/
import Derived.Test.YtbmanooiphghmaaMkRel
set_option linter.all false
set_option linter.unusedSimpArgs false
namespace Go.Proofs.Ytbmanooiphghmaa
open Go Go.Gx
theorem bring_rng (n : Int) {m : Nat} (h0 : 0 < m) (h : m < 1000000) : 0 ≤ bringI n m ∧ bringI n m < m := by
  unfold bringI
  have h1 : decide ((m : Int) ≤ 0) = false := by simp; omega
  rw [h1]
  simp only [cond_false]
  have h2 := Int.tmod_lt_of_pos n (b := (m : Int)) (by omega)
  have h3 : -(m : Int) < Int.tmod n m := Int.lt_tmod_of_pos n (by omega)
  cases h4 : decide (Int.tmod n (m : Int) < 0) with
  | true =>
    have := of_decide_eq_true h4
    simp only [cond_true]
    rw [IntWalk.i64_in _ (by omega)]; omega
  | false =>
    have := of_decide_eq_false h4
    simp only [cond_false]; omega
theorem f12 (n : Int) : IntKind.wrap .i64 (1 + bringI n 2) = 1 ∨ IntKind.wrap .i64 (1 + bringI n 2) = 2 := by
  have h : 0 ≤ bringI n 2 ∧ bringI n 2 < 2 := bring_rng n (m := 2) (by decide) (by decide)
  rw [IntWalk.i64_in _ (by omega)]; omega
theorem n3 {f : Int} (h : f = 1 ∨ f = 2) : IntKind.wrap .i64 (IntKind.wrap .i64 (3 * f) + 1) = 3 * f + 1 := by
  rcases h with rfl | rfl <;> rfl
/-! ### What most tell -/
structure MGood (m : MSt) : Prop where
  im : MInv m
  nd : (m.list.map (·.1)).Nodup
  ris : ∀ p ∈ m.list, Ris p.2
theorem MGood.get {m : MSt} (h : MGood m) (n : Int) : Ris ((mget m.list n).getD []) := by
  cases hg : mget m.list n with
  | none => exact .nil
  | some y => exact h.ris _ (mget_mem hg)
/-! ### If f at most lie -/
structure TrJ (f : Int) (m : MSt) : Prop where
  crew : m.crew = crewI f
  good : MGood m
  so : ∀ k l y, (k, l) ∈ m.list → y ∈ l → f < k → y.dig = dig7 0
end Go.Proofs.Ytbmanooiphghmaa
