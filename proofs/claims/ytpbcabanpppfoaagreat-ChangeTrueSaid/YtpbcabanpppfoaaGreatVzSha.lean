/- Insertion sort, of numbers: sorted, and the same ones. No condition. -/
import Derived.Test.YtpbcabanpppfoaaGreatVzOnce
set_option linter.all false
namespace Go.Vz
open Go Go.Gx
def swp (l : List Int) (j : Nat) : List Int := (l.set (j + 1) (l.getD j 0)).set j (l.getD (j + 1) 0)
def insJ : Nat → List Int → List Int
  | 0, l => l
  | j + 1, l => bif decide (l.getD (j + 1) 0 < l.getD j 0) then insJ j (swp l j) else l
def isI (l : List Int) : Nat → List Int
  | 0 => l
  | i + 1 => insJ (i + 1) (isI l i)
def isort (l : List Int) : List Int := isI l (l.length - 1)
theorem swp_at (p q : List Int) (y x : Int) : swp (p ++ y :: x :: q) p.length = p ++ x :: y :: q := by
  have e1 : (p ++ y :: x :: q).getD p.length 0 = y := by simp [List.getD_eq_getElem?_getD]
  have e2 : (p ++ y :: x :: q).getD (p.length + 1) 0 = x := by simp [List.getD_eq_getElem?_getD]
  unfold swp
  rw [e1, e2, List.set_append_right _ _ (by omega), List.set_append_right _ _ (by omega)]
  simp
theorem insJ_split : ∀ (n : Nat) (p : List Int) (x : Int) (q : List Int), p.length = n → ∃ p1 p2, p = p1 ++ p2 ∧ insJ n (p ++ x :: q) = p1 ++ x :: (p2 ++ q) ∧ (∀ y ∈ p2, x < y) ∧ (∀ y, p1.getLast? = some y → y ≤ x)
  | 0, p, x, q, h => by
    have : p = [] := List.length_eq_zero_iff.1 h
    subst this
    exact ⟨[], [], rfl, rfl, by simp, by simp⟩
  | n + 1, p, x, q, h => by
    obtain ⟨p', y, rfl⟩ : ∃ p' y, p = p' ++ [y] := ⟨p.dropLast, p.getLast (by intro e; subst e; simp at h), (List.dropLast_concat_getLast _).symm⟩
    have hp : p'.length = n := by simpa using h
    subst hp
    have e0 : p' ++ [y] ++ x :: q = p' ++ y :: x :: q := by simp
    have e1 : (p' ++ y :: x :: q).getD p'.length 0 = y := by simp [List.getD_eq_getElem?_getD]
    have e2 : (p' ++ y :: x :: q).getD (p'.length + 1) 0 = x := by simp [List.getD_eq_getElem?_getD]
    rw [e0]
    unfold insJ
    rw [e1, e2]
    by_cases hxy : x < y
    · simp only [hxy, decide_true, cond_true]
      rw [swp_at]
      obtain ⟨p1, p2, g1, g2, g3, g4⟩ := insJ_split p'.length p' x (y :: q) rfl
      refine ⟨p1, p2 ++ [y], by rw [g1, List.append_assoc], by rw [g2]; simp, ?_, g4⟩
      intro z hz
      rcases List.mem_append.1 hz with hz | hz
      · exact g3 z hz
      · rw [List.mem_singleton] at hz; rw [hz]; exact hxy
    · simp only [hxy, decide_false, cond_false]
      refine ⟨p' ++ [y], [], by simp, by simp, by simp, ?_⟩
      intro z hz
      simp at hz
      subst hz; omega
theorem insJ_perm : ∀ (n : Nat) (l : List Int), n < l.length → (insJ n l).Perm l := by
  intro n l h
  obtain ⟨p, x, q, rfl, hp⟩ : ∃ p x q, l = p ++ x :: q ∧ p.length = n := ⟨l.take n, l[n], l.drop (n + 1), by rw [List.getElem_cons_drop, List.take_append_drop], by rw [List.length_take]; omega⟩
  obtain ⟨p1, p2, g1, g2, _, _⟩ := insJ_split n p x q hp
  rw [g2, g1]
  have : (p1 ++ x :: (p2 ++ q)).Perm (x :: (p1 ++ (p2 ++ q))) := List.perm_middle
  refine this.trans ?_
  rw [List.append_assoc]
  have h2 : (p1 ++ (p2 ++ x :: q)).Perm (x :: (p1 ++ (p2 ++ q))) := by
    rw [← List.append_assoc, ← List.append_assoc]; exact List.perm_middle
  exact h2.symm
theorem isI_inv (l : List Int) : ∀ k, k < l.length → (isI l k).Perm l ∧ ((isI l k).take (k + 1)).Pairwise (· ≤ ·) ∧ (isI l k).drop (k + 1) = l.drop (k + 1)
  | 0, h => by
    refine ⟨.refl _, ?_, rfl⟩
    show (l.take 1).Pairwise _
    cases l with
    | nil => exact .nil
    | cons a l => simp
  | k + 1, h => by
    obtain ⟨h1, h2, h3⟩ := isI_inv l k (by omega)
    have hl : (isI l k).length = l.length := h1.length_eq
    obtain ⟨p, x, q, e, hp⟩ : ∃ p x q, isI l k = p ++ x :: q ∧ p.length = k + 1 := ⟨(isI l k).take (k + 1), (isI l k)[k + 1]'(by omega), (isI l k).drop (k + 2), by rw [List.getElem_cons_drop, List.take_append_drop], by rw [List.length_take]; omega⟩
    obtain ⟨p1, p2, g1, g2, g3, g4⟩ := insJ_split (k + 1) p x q hp
    have hps : p.Pairwise (· ≤ ·) := by
      rw [e, ← hp, List.take_left] at h2; exact h2
    show (insJ (k + 1) (isI l k)).Perm l ∧ ((insJ (k + 1) (isI l k)).take (k + 1 + 1)).Pairwise (· ≤ ·) ∧ (insJ (k + 1) (isI l k)).drop (k + 1 + 1) = l.drop (k + 1 + 1)
    refine ⟨(insJ_perm (k + 1) _ (by omega)).trans h1, ?_, ?_⟩
    · rw [e, g2]
      have hl2 : (p1 ++ x :: p2).length = k + 1 + 1 := by
        have := congrArg List.length g1; simp at this ⊢; omega
      rw [show p1 ++ x :: (p2 ++ q) = (p1 ++ x :: p2) ++ q by simp, ← hl2, List.take_left]
      rw [g1] at hps
      obtain ⟨a1, a2, a3⟩ := List.pairwise_append.1 hps
      refine List.pairwise_append.2 ⟨a1, List.pairwise_cons.2 ⟨fun y hy => Int.le_of_lt (g3 y hy), a2⟩, ?_⟩
      intro y hy z hz
      have hyx : y ≤ x := by
        cases hL : p1.getLast? with
        | none => rw [List.getLast?_eq_none_iff] at hL; subst hL; cases hy
        | some w =>
          have hw := g4 w hL
          obtain ⟨p1', rfl⟩ := List.getLast?_eq_some_iff.1 hL
          rcases List.mem_append.1 hy with hy | hy
          · exact Int.le_trans ((List.pairwise_append.1 a1).2.2 y hy w (by simp)) hw
          · rw [List.mem_singleton] at hy; rw [hy]; exact hw
      rcases List.mem_cons.1 hz with rfl | hz
      · exact hyx
      · exact a3 y hy z hz
    · rw [e, g2]
      have hl2 : (p1 ++ x :: p2).length = k + 1 + 1 := by
        have := congrArg List.length g1; simp at this ⊢; omega
      rw [show p1 ++ x :: (p2 ++ q) = (p1 ++ x :: p2) ++ q by simp, ← hl2, List.drop_left]
      rw [hl2]
      have h4 : (isI l k).drop (k + 2) = l.drop (k + 2) := by
        have := congrArg (List.drop 1) h3
        rw [List.drop_drop, List.drop_drop] at this
        simpa using this
      rw [e] at h4
      rw [← h4, show p ++ x :: q = (p ++ [x]) ++ q by simp, show k + 2 = (p ++ [x]).length by simp [hp], List.drop_left]
theorem isort_perm (l : List Int) : (isort l).Perm l := by
  cases l with
  | nil => exact .nil
  | cons a l => exact (isI_inv (a :: l) l.length (by simp)).1
theorem isort_sorted (l : List Int) : (isort l).Pairwise (· ≤ ·) := by
  cases l with
  | nil => exact .nil
  | cons a l =>
    have h := (isI_inv (a :: l) l.length (by simp)).2.1
    have hl : (isI (a :: l) l.length).length = l.length + 1 := (isI_inv (a :: l) l.length (by simp)).1.length_eq
    rw [List.take_of_length_le (by omega)] at h
    exact h
theorem isort_length (l : List Int) : (isort l).length = l.length := (isort_perm l).length_eq
theorem isort_eq {l k : List Int} (h : l.Perm k) : isort l = isort k :=
  List.Perm.eq_of_pairwise (le := (· ≤ ·)) (fun _ _ _ _ h1 h2 => Int.le_antisymm h1 h2) (isort_sorted l) (isort_sorted k) (((isort_perm l).trans h).trans (isort_perm k).symm)
theorem isort_uniq {l k : List Int} (h : l.Perm k) (hk : k.Pairwise (· ≤ ·)) : isort l = k :=
  List.Perm.eq_of_pairwise (le := (· ≤ ·)) (fun _ _ _ _ h1 h2 => Int.le_antisymm h1 h2) (isort_sorted l) hk ((isort_perm l).trans h)
end Go.Vz

namespace Go.Vz
open Go Go.Gx
abbrev u8s (l : List UInt8) : List Int := l.map fun x => (x.toNat : Int)
section
variable (tk : List Int → List Int → List Int)
def wrF : Nat → List UInt8 → List Int → List Int → Nat → List Int × List Int × Nat
  | 0, _, st, bl, h => (st, bl, h)
  | f + 1, b, st, bl, h => bif decide (0 < b.length) then
      (bif Nat.beq (h + Nat.min b.length (64 - h)) 64 then wrF f (b.drop (Nat.min b.length (64 - h))) (tk st (lput bl h (u8s (b.take (64 - h))))) (lput bl h (u8s (b.take (64 - h)))) 0
        else wrF f (b.drop (Nat.min b.length (64 - h))) st (lput bl h (u8s (b.take (64 - h)))) (h + Nat.min b.length (64 - h)))
    else (st, bl, h)
def foldB : Nat → List Int → List Int → List Int
  | 0, st, _ => st
  | k + 1, st, xs => foldB k (tk st (xs.take 64)) (xs.drop 64)
def putL (lb : Nat → Int) (bl : List Int) : Nat → List Int
  | 0 => bl
  | i + 1 => (putL lb bl i).set (63 - i) (lb i)
def clrB (bl : List Int) (h : Nat) : List Int := (lput bl h (List.replicate (64 - h) 0)).set h 128
def sumF (lb : Nat → Int) (st bl : List Int) (h : Nat) : List Int := bif decide (56 ≤ h) then tk (tk st (clrB bl h)) (putL lb (lput (clrB bl h) 0 (List.replicate 64 0)) 8) else tk st (putL lb (clrB bl h) 8)
def lbs (lb : Nat → Int) : List Int := [lb 7, lb 6, lb 5, lb 4, lb 3, lb 2, lb 1, lb 0]
theorem putL_at (lb : Nat → Int) (p q : List Int) (hp : p.length = 56) (hq : q.length = 8) : putL lb (p ++ q) 8 = p ++ lbs lb := by
  match q, hq with
  | [a, b, c, d, e, f, g, h], _ =>
    simp only [putL, lbs]
    rw [List.set_append_right _ _ (by omega)]
    rw [List.set_append_right _ _ (by omega)]
    rw [List.set_append_right _ _ (by omega)]
    rw [List.set_append_right _ _ (by omega)]
    rw [List.set_append_right _ _ (by omega)]
    rw [List.set_append_right _ _ (by omega)]
    rw [List.set_append_right _ _ (by omega)]
    rw [List.set_append_right _ _ (by omega)]
    simp [hp]
theorem clrB_at (p q : List Int) (hl : (p ++ q).length = 64) (hp : p.length < 64) : clrB (p ++ q) p.length = p ++ 128 :: List.replicate (63 - p.length) 0 := by
  unfold clrB lput
  rw [List.take_left, List.length_replicate, List.drop_eq_nil_of_le (by omega), List.append_nil, List.set_append_right _ _ (Nat.le_refl _), Nat.sub_self]
  obtain ⟨k, hk⟩ : ∃ k, 64 - p.length = k + 1 := ⟨63 - p.length, by omega⟩
  rw [hk, show 63 - p.length = k by omega]
  rfl
theorem foldB_add : ∀ (k j : Nat) (st xs : List Int), foldB tk (k + j) st xs = foldB tk j (foldB tk k st xs) (xs.drop (64 * k))
  | 0, j, st, xs => by simp [foldB]
  | k + 1, j, st, xs => by
    rw [Nat.add_right_comm]
    show foldB tk (k + j) (tk st (xs.take 64)) (xs.drop 64) = _
    rw [foldB_add k j, List.drop_drop]
    show _ = foldB tk j (foldB tk k (tk st (xs.take 64)) (xs.drop 64)) _
    rw [show 64 + 64 * k = 64 * (k + 1) by omega]
theorem foldB_take : ∀ (k : Nat) (st xs ys : List Int), 64 * k ≤ xs.length → foldB tk k st (xs ++ ys) = foldB tk k st xs
  | 0, st, xs, ys, _ => rfl
  | k + 1, st, xs, ys, h => by
    show foldB tk k (tk st ((xs ++ ys).take 64)) ((xs ++ ys).drop 64) = foldB tk k (tk st (xs.take 64)) (xs.drop 64)
    rw [List.take_append_of_le_length (by omega), List.drop_append_of_le_length (by omega), foldB_take k _ _ _ (by rw [List.length_drop]; omega)]
theorem wrF_eq : ∀ (f : Nat) (b : List UInt8) (st bl : List Int), b.length < f → bl.length = 64 →
    ∃ bl', wrF tk f b st bl 0 = (foldB tk (b.length / 64) st (u8s b), u8s (b.drop (64 * (b.length / 64))) ++ bl', b.length % 64) ∧ (u8s (b.drop (64 * (b.length / 64))) ++ bl').length = 64
  | 0, b, st, bl, h, _ => by omega
  | f + 1, b, st, bl, h, hb => by
    unfold wrF
    by_cases h0 : b.length = 0
    · have : b = [] := List.length_eq_zero_iff.1 h0
      subst this
      exact ⟨bl, rfl, hb⟩
    · have h1 : decide (0 < b.length) = true := by simp; omega
      rw [h1, cond_true, Nat.zero_add, Nat.sub_zero]
      have e0 : lput bl 0 (u8s (b.take 64)) = u8s (b.take 64) ++ bl.drop (b.take 64).length := by
        unfold lput; simp
      rw [e0]
      by_cases h64 : b.length < 64
      · have hm : Nat.min b.length 64 = b.length := Nat.min_eq_left (by omega)
        have hne : Nat.beq b.length 64 = false := by
          cases hq : Nat.beq b.length 64 with
          | false => rfl
          | true => have := Nat.eq_of_beq_eq_true hq; omega
        rw [hm, hne, cond_false, List.drop_length, List.take_of_length_le (by omega)]
        have hd : b.length / 64 = 0 := by omega
        have hmod : b.length % 64 = b.length := by omega
        rw [hd, hmod, Nat.mul_zero, List.drop_zero]
        refine ⟨bl.drop b.length, ?_, by simp; omega⟩
        cases f with
        | zero => omega
        | succ f => rfl
      · have hm : Nat.min b.length 64 = 64 := Nat.min_eq_right (by omega)
        rw [hm, show Nat.beq 64 64 = true from rfl, cond_true]
        have e2 : bl.drop (b.take 64).length = [] := List.drop_eq_nil_of_le (by rw [List.length_take]; omega)
        rw [e2, List.append_nil]
        obtain ⟨bl', g1, g2⟩ := wrF_eq f (b.drop 64) (tk st (u8s (b.take 64))) (u8s (b.take 64)) (by rw [List.length_drop]; omega) (by simp; omega)
        rw [g1]
        have hk : b.length / 64 = (b.drop 64).length / 64 + 1 := by rw [List.length_drop]; omega
        have hm2 : b.length % 64 = (b.drop 64).length % 64 := by rw [List.length_drop]; omega
        have hdd : b.drop (64 * (b.length / 64)) = (b.drop 64).drop (64 * ((b.drop 64).length / 64)) := by rw [List.drop_drop, hk]; congr 1; omega
        rw [hdd]
        refine ⟨bl', ?_, g2⟩
        rw [hm2, hk]
        show _ = (foldB tk ((b.drop 64).length / 64) (tk st ((u8s b).take 64)) ((u8s b).drop 64), _)
        simp only [u8s, List.map_take, List.map_drop]
/-- The bytes as they are taken in. -/
def padI (lb : Nat → Int) (b : List UInt8) : List Int := u8s b ++ 128 :: List.replicate (63 - (b.length + 8) % 64) 0 ++ lbs lb
theorem padI_len (lb : Nat → Int) (b : List UInt8) : (padI lb b).length = 64 * ((b.length + 8) / 64 + 1) := by
  unfold padI lbs; simp; omega
theorem sum_eq (lb : Nat → Int) (b : List UInt8) (st : List Int) {f : Nat} {bl : List Int} (hf : b.length < f) (hb : bl.length = 64) :
    sumF tk lb (wrF tk f b st bl 0).1 (wrF tk f b st bl 0).2.1 (wrF tk f b st bl 0).2.2 = foldB tk ((padI lb b).length / 64) st (padI lb b) := by
  obtain ⟨bl', g1, g2⟩ := wrF_eq tk f b st bl hf hb
  rw [g1]
  simp only []
  have hr : (u8s (b.drop (64 * (b.length / 64)))).length = b.length % 64 := by simp; omega
  have hlt : b.length % 64 < 64 := Nat.mod_lt _ (by omega)
  have hc : clrB (u8s (b.drop (64 * (b.length / 64))) ++ bl') (b.length % 64) = u8s (b.drop (64 * (b.length / 64))) ++ 128 :: List.replicate (63 - b.length % 64) 0 := by
    have := clrB_at (u8s (b.drop (64 * (b.length / 64)))) bl' g2 (by omega)
    rw [hr] at this; exact this
  unfold sumF
  rw [hc]
  have hsplit : u8s b = u8s (b.take (64 * (b.length / 64))) ++ u8s (b.drop (64 * (b.length / 64))) := by
    rw [← List.map_append, List.take_append_drop]
  have hl1 : (u8s (b.take (64 * (b.length / 64)))).length = 64 * (b.length / 64) := by simp; omega
  generalize hX : u8s (b.drop (64 * (b.length / 64))) = X at *
  generalize hY : u8s (b.take (64 * (b.length / 64))) = Y at *
  have hfold : foldB tk (b.length / 64) st (u8s b) = foldB tk (b.length / 64) st Y := by rw [hsplit, foldB_take _ _ _ _ _ (by omega)]
  rw [hfold, padI_len]
  by_cases h56 : 56 ≤ b.length % 64
  · have hq : (b.length + 8) / 64 + 1 = b.length / 64 + 2 := by omega
    have hz : (63 - (b.length + 8) % 64) = (63 - b.length % 64) + 56 := by omega
    rw [Nat.mul_div_cancel_left _ (by omega : 0 < 64), hq, foldB_add]
    simp only [h56, decide_true, cond_true]
    have hp : padI lb b = Y ++ ((X ++ 128 :: List.replicate (63 - b.length % 64) 0) ++ (List.replicate 56 0 ++ lbs lb)) := by
      unfold padI
      rw [hsplit, hz, ← List.replicate_append_replicate]
      simp [List.append_assoc]
    rw [hp, foldB_take _ _ _ _ _ (by omega)]
    rw [← hl1, List.drop_left]
    have hA : (X ++ 128 :: List.replicate (63 - b.length % 64) 0).length = 64 := by simp; omega
    show _ = tk (tk _ (List.take 64 _)) (List.take 64 (List.drop 64 _))
    have t1 : ∀ A B : List Int, A.length = 64 → (A ++ B).take 64 = A ∧ (A ++ B).drop 64 = B := fun A B h => by rw [← h, List.take_left, List.drop_left]; exact ⟨rfl, rfl⟩
    rw [(t1 _ _ hA).1, (t1 _ _ hA).2, List.take_of_length_le (by simp [lbs])]
    congr 1
    have : lput (X ++ 128 :: List.replicate (63 - b.length % 64) 0) 0 (List.replicate 64 0) = List.replicate 56 0 ++ List.replicate 8 0 := by
      unfold lput
      rw [List.take_zero, List.length_replicate, Nat.zero_add, List.drop_eq_nil_of_le (by omega)]; rfl
    rw [this, putL_at lb _ _ (by simp) (by simp)]
  · have hq : (b.length + 8) / 64 + 1 = b.length / 64 + 1 := by omega
    have hz : (63 - (b.length + 8) % 64) = 55 - b.length % 64 := by omega
    rw [Nat.mul_div_cancel_left _ (by omega : 0 < 64), hq, foldB_add]
    simp only [h56, decide_false, cond_false]
    have hp : padI lb b = Y ++ ((X ++ 128 :: List.replicate (55 - b.length % 64) 0) ++ lbs lb) := by
      unfold padI
      rw [hsplit, hz]
      simp [List.append_assoc]
    rw [hp, foldB_take _ _ _ _ _ (by omega)]
    rw [← hl1, List.drop_left]
    show _ = tk _ (List.take 64 _)
    rw [List.take_of_length_le (by simp [lbs]; omega)]
    congr 1
    rw [show 63 - b.length % 64 = (55 - b.length % 64) + 8 by omega, ← List.replicate_append_replicate, ← List.cons_append, ← List.append_assoc, putL_at lb _ _ (by simp; omega) (by simp)]
end
end Go.Vz
