/- Laws on plain lists: comparing bytes. No condition. -/
import Derived.Test.YtbhkoipmojdkhaaPkG0
set_option linter.all false
namespace Go.Proofs.Ytbhkoipmojdkhaa
open Go Go.Gx
theorem ba_size (l : List UInt8) : ByteArray.size ⟨l.toArray⟩ = l.length := rfl
theorem ba_get0 (x : UInt8) (l : List UInt8) : (ByteArray.mk (x :: l).toArray)[0]! = x := rfl
theorem ba_getS (x : UInt8) (l : List UInt8) (i : Nat) : (ByteArray.mk (x :: l).toArray)[i + 1]! = (ByteArray.mk l.toArray)[i]! := by
  simp only [getElem!_def, getElem?_def, ba_size]
  by_cases h : i < l.length
  · simp [h]; rfl
  · simp [h]
theorem cmpB_nil : cmpB [] [] = 0 := rfl
theorem cmpB_cons (x y : UInt8) (a b : List UInt8) : cmpB (x :: a) (y :: b) = if x != y then (if x < y then -1 else 1) else cmpB a b := by
  unfold cmpB Extern.BytealgCompare.cmp
  simp only [ba_size, List.length_cons, Nat.succ_min_succ, List.range_succ_eq_map, List.find?_cons, ba_get0, List.find?_map, Function.comp_def, ba_getS]
  by_cases h : x = y
  · subst h
    simp only [bne_self_eq_false]
    cases List.find? (fun i => (ByteArray.mk a.toArray)[i]! != (ByteArray.mk b.toArray)[i]!) (List.range (min a.length b.length)) with
    | none => simp
    | some i => simp [ba_getS]
  · have : (x != y) = true := by simpa using h
    simp [this, ba_get0]; rfl
theorem lessB_cmp : ∀ (a b : List UInt8), a.length = b.length → decide (0 < cmpB b a) = lessB a b
  | [], [], _ => by simp [cmpB_nil, lessB]
  | x :: a, y :: b, h => by
    have ih := lessB_cmp a b (by simpa using h)
    rw [cmpB_cons]
    simp only [lessB]
    by_cases hxy : x = y
    · subst hxy; simp [ih]
    · have h1 : (y != x) = true := by simp; exact fun h => hxy h.symm
      have h2 : ¬ x.toNat = y.toNat := fun h => hxy (UInt8.toNat_inj.1 h)
      have h3 : ((x.toNat : Int) != (y.toNat : Int)) = true := by simp; omega
      rw [if_pos h1, h3]
      simp only [cond_true]
      by_cases hlt : y < x
      · rw [if_pos hlt]; have : y.toNat < x.toNat := UInt8.lt_iff_toNat_lt.1 hlt; simp; omega
      · rw [if_neg hlt]; have : ¬ y.toNat < x.toNat := fun h => hlt (UInt8.lt_iff_toNat_lt.2 h); simp; omega
theorem orI2 (p q : Int) : decide (0 < orI [p, q]) = (decide (0 < p) || ((p == 0) && decide (0 < q))) := by
  unfold orI orI orI
  rw [Bool.eq_iff_iff]
  by_cases hp : p = 0
  · subst hp; by_cases hq : q = 0
    · subst hq; simp
    · have : (q != 0) = true := by simpa using hq
      simp [this]
  · have : (p != 0) = true := by simpa using hp
    simp [this, hp]
theorem cmpI_pos (x y : Int) : decide (0 < cmpI x y) = decide (y < x) := by
  unfold cmpI; split
  · rw [Bool.eq_iff_iff]; simp; omega
  · split <;> rw [Bool.eq_iff_iff] <;> simp <;> omega
theorem cmpI_zero (x y : Int) : (cmpI x y == 0) = (x == y) := by
  unfold cmpI; split
  · rw [Bool.eq_iff_iff]; simp; omega
  · split <;> rw [Bool.eq_iff_iff] <;> simp <;> omega
theorem better (x y : Int) (a b : Dig) : decide (0 < orI [cmpI x y, cmpB b.l a.l]) = (decide (y < x) || ((x == y) && lessB a.l b.l)) := by
  rw [orI2, cmpI_pos, cmpI_zero, lessB_cmp _ _ (by rw [a.h, b.h])]
end Go.Proofs.Ytbhkoipmojdkhaa
