/- The laws of MarksFour. No condition. -/
import Derived.Test.YtbmanooiphghmaaMkLaws
set_option linter.all false
set_option linter.unusedSimpArgs false
namespace Go.Proofs.Ytbmanooiphghmaa
open Go Go.Gx
/-! ### A node that tells ever greater ones -/
def f4b : MSt := (voteM (voteM (voteM ⟨crewI 1, ⟨0, Dig.zero⟩, []⟩ 1 (markI 1 (0 : UInt8))).1 2 (markI 1 (0 : UInt8))).1 4 (markI 1 (0 : UInt8))).1
def f4 : Nat → MSt
  | 0 => f4b
  | k + 1 => (voteM (f4 k) 3 (markI ((k + 1 : Nat) : Int) 0)).1
def f4ok (i : Nat) : Bool := (voteM (f4 i) 3 (markI ((i + 1 : Nat) : Int) 0)).2 == 0 && decide (((mget (f4 (i + 1)).list 3).getD []).length ≤ 4)
def f4end (n : Nat) : Bool :=
  (gR (lists (f4 n)) (most (f4 n).crew)).2 && decide ((gR (lists (f4 n)) (most (f4 n).crew)).1 = markI 1 0) && Nat.beq ((mget (f4 n).list 3).getD []).length (min n 4) &&
  (Nat.beq n 0 || decide (((mget (f4 n).list 3).getD []).getD (((mget (f4 n).list 3).getD []).length - 1) default = markI (n : Int) 0))
theorem f4_ok : (List.range 40).all f4ok = true := by kernel_rfl
theorem f4_end : (List.range 41).all f4end = true := by kernel_rfl
theorem f4_vote {ms : MSt} {i : Nat} (h1 : 1 ≤ i) (hm : ms = f4 (i - 1)) (hi : i ≤ 40) : (voteM ms 3 (markI ((i : Nat) : Int) 0)).2 = 0 ∧ ((mget (voteM ms 3 (markI ((i : Nat) : Int) 0)).1.list 3).getD []).length ≤ 4 ∧ (voteM ms 3 (markI ((i : Nat) : Int) 0)).1 = f4 i := by
  obtain ⟨k, rfl⟩ : ∃ k, i = k + 1 := ⟨i - 1, by omega⟩
  have := List.all_eq_true.1 f4_ok k (List.mem_range.2 (by omega))
  simp only [f4ok, Bool.and_eq_true, beq_iff_eq, decide_eq_true_eq] at this
  rw [hm]
  exact ⟨this.1, this.2, rfl⟩
theorem f4_fin {ms : MSt} {i : Nat} {many : Int} (h1 : 1 ≤ i) (hm : ms = f4 (i - 1)) (hi : ((i : Nat) : Int) ≤ bringI many 41 + 1) (h : decide (((i : Nat) : Int) ≤ bringI many 41) = false) :
    (gR (lists ms) (most ms.crew)).2 = true ∧ (gR (lists ms) (most ms.crew)).1 = markI 1 0 ∧ ((((mget ms.list 3).getD []).length : Nat) : Int) = min (bringI many 41) 4 ∧
    (bringI many 41 ≠ 0 → 0 < ((mget ms.list 3).getD []).length ∧ ∀ x, ((mget ms.list 3).getD [])[((mget ms.list 3).getD []).length - 1]? = some x → x = markI (bringI many 41) 0) := by
  have hr : 0 ≤ bringI many 41 ∧ bringI many 41 < 41 := bring_rng many (m := 41) (by decide) (by decide)
  have h := of_decide_eq_false h
  have hb : bringI many 41 = ((i - 1 : Nat) : Int) := by omega
  have := List.all_eq_true.1 f4_end (i - 1) (List.mem_range.2 (by omega))
  simp only [f4end, Bool.and_eq_true, Bool.or_eq_true, decide_eq_true_eq] at this
  obtain ⟨⟨⟨a, b⟩, c⟩, d⟩ := this
  have c := Nat.eq_of_beq_eq_true c
  rw [hm, hb]
  refine ⟨a, b, by rw [c]; omega, fun h0 => ?_⟩
  have d := d.resolve_left (fun hz => h0 (by have := Nat.eq_of_beq_eq_true hz; omega))
  refine ⟨by rw [c]; omega, fun x hx => ?_⟩
  rw [← d, List.getD_eq_getElem?_getD, hx]; rfl
theorem f4_le {i : Nat} {many : Int} (_ : ((i : Nat) : Int) ≤ bringI many 41 + 1) (h : decide (((i : Nat) : Int) ≤ bringI many 41) = true) : i ≤ 40 := by
  have hr : 0 ≤ bringI many 41 ∧ bringI many 41 < 41 := bring_rng many (m := 41) (by decide) (by decide)
  have := of_decide_eq_true h
  omega
theorem f4_in (many : Int) : ((1 : Nat) : Int) ≤ bringI many 41 + 1 := by
  have hr : 0 ≤ bringI many 41 ∧ bringI many 41 < 41 := bring_rng many (m := 41) (by decide) (by decide)
  omega
end Go.Proofs.Ytbmanooiphghmaa
