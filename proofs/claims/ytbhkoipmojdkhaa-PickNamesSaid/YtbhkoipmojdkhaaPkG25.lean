/- What functions of the pick seat return, part 25. No condition. -/
import Derived.Test.YtbhkoipmojdkhaaPkG24
import Derived.Test.YtbhkoipmojdkhaaPkLaw2
import Derived.Test.YtbhkoipmojdkhaaGxTwo
set_option linter.all false
namespace Go.Proofs.Ytbhkoipmojdkhaa
open Go Go.Gx Go.RowKit
theorem bring_rng (n : Int) {m : Nat} (h0 : 0 < m) (h : m < 1000000) : 0 ≤ bringI n m ∧ bringI n m < m := by
  unfold bringI
  have h1 : decide ((m : Int) ≤ 0) = false := by simp; omega
  rw [h1]
  simp only [cond_false]
  have h2 := Int.tmod_lt_of_pos n (b := (m : Int)) (by omega)
  have h3 : -(m : Int) < Int.tmod n m := Int.lt_tmod_of_pos n (by omega)
  cases h4 : decide (Int.tmod n (m : Int) < 0) with
  | true =>
    have := of_decide_eq_true h4
    simp only [cond_true]
    rw [IntWalk.i64_in _ (by omega)]; omega
  | false =>
    have := of_decide_eq_false h4
    simp only [cond_false]; omega
theorem co15 : callOk Try.prog 15 = true := by kernel_rfl
end Go.Proofs.Ytbhkoipmojdkhaa
