/- Laws on plain lists: comparing bytes, the best of a list. No condition. -/
import Derived.Test.YtbmanooiphghmaaMkG0
set_option linter.all false
namespace Go.Proofs.Ytbmanooiphghmaa
open Go Go.Gx
theorem ba_size (l : List UInt8) : ByteArray.size ⟨l.toArray⟩ = l.length := rfl
theorem ba_get0 (x : UInt8) (l : List UInt8) : (ByteArray.mk (x :: l).toArray)[0]! = x := rfl
theorem ba_getS (x : UInt8) (l : List UInt8) (i : Nat) : (ByteArray.mk (x :: l).toArray)[i + 1]! = (ByteArray.mk l.toArray)[i]! := by
  simp only [getElem!_def, getElem?_def, ba_size]
  by_cases h : i < l.length
  · simp [h]; rfl
  · simp [h]
theorem cmpB_nil : cmpB [] [] = 0 := rfl
theorem cmpB_cons (x y : UInt8) (a b : List UInt8) : cmpB (x :: a) (y :: b) = if x != y then (if x < y then -1 else 1) else cmpB a b := by
  unfold cmpB Extern.BytealgCompare.cmp
  simp only [ba_size, List.length_cons, Nat.succ_min_succ, List.range_succ_eq_map, List.find?_cons, ba_get0, List.find?_map, Function.comp_def, ba_getS]
  by_cases h : x = y
  · subst h
    simp only [bne_self_eq_false]
    cases List.find? (fun i => (ByteArray.mk a.toArray)[i]! != (ByteArray.mk b.toArray)[i]!) (List.range (min a.length b.length)) with
    | none => simp
    | some i => simp [ba_getS]
  · have : (x != y) = true := by simpa using h
    simp [this, ba_get0]; rfl
theorem lessB_cmp : ∀ (a b : List UInt8), a.length = b.length → decide (0 < cmpB b a) = lessB a b
  | [], [], _ => by simp [cmpB_nil, lessB]
  | x :: a, y :: b, h => by
    have ih := lessB_cmp a b (by simpa using h)
    rw [cmpB_cons]
    simp only [lessB]
    by_cases hxy : x = y
    · subst hxy; simp [ih]
    · have h1 : (y != x) = true := by simp; exact fun h => hxy h.symm
      have h2 : ¬ x.toNat = y.toNat := fun h => hxy (UInt8.toNat_inj.1 h)
      have h3 : ((x.toNat : Int) != (y.toNat : Int)) = true := by simp; omega
      rw [if_pos h1, h3]
      simp only [cond_true]
      by_cases hlt : y < x
      · rw [if_pos hlt]; have : y.toNat < x.toNat := UInt8.lt_iff_toNat_lt.1 hlt; simp; omega
      · rw [if_neg hlt]; have : ¬ y.toNat < x.toNat := fun h => hlt (UInt8.lt_iff_toNat_lt.2 h); simp; omega
theorem orI2 (p q : Int) : decide (0 < orI [p, q]) = (decide (0 < p) || ((p == 0) && decide (0 < q))) := by
  unfold orI orI orI
  rw [Bool.eq_iff_iff]
  by_cases hp : p = 0
  · subst hp; by_cases hq : q = 0
    · subst hq; simp
    · have : (q != 0) = true := by simpa using hq
      simp [this]
  · have : (p != 0) = true := by simpa using hp
    simp [this, hp]
theorem cmpI_pos (x y : Int) : decide (0 < cmpI x y) = decide (y < x) := by
  unfold cmpI; split
  · rw [Bool.eq_iff_iff]; simp; omega
  · split <;> rw [Bool.eq_iff_iff] <;> simp <;> omega
theorem cmpI_zero (x y : Int) : (cmpI x y == 0) = (x == y) := by
  unfold cmpI; split
  · rw [Bool.eq_iff_iff]; simp; omega
  · split <;> rw [Bool.eq_iff_iff] <;> simp <;> omega
theorem better (x y : Int) (a b : Dig) : decide (0 < orI [cmpI x y, cmpB b.l a.l]) = (decide (y < x) || ((x == y) && lessB a.l b.l)) := by
  rw [orI2, cmpI_pos, cmpI_zero, lessB_cmp _ _ (by rw [a.h, b.h])]
def bestG {α : Type} (may : α → Bool) (cmp : α → α → Int) : List α → α → Bool → α × Bool
  | [], o, k => (o, k)
  | x :: r, o, k => bif may x && (!k || decide (0 < cmp x o)) then bestG may cmp r x true else bestG may cmp r o k
def valB : List UInt8 → Nat
  | [] => 0
  | x :: r => x.toNat * 256 ^ r.length + valB r
theorem valB_lt : ∀ l : List UInt8, valB l < 256 ^ l.length
  | [] => by simp [valB]
  | x :: r => by
    have := valB_lt r
    have hx : x.toNat < 256 := x.toNat_lt
    simp only [valB, List.length_cons, Nat.pow_succ]
    have h1 : (x.toNat + 1) * 256 ^ r.length ≤ 256 * 256 ^ r.length := Nat.mul_le_mul_right _ (by omega)
    rw [Nat.add_mul, Nat.one_mul] at h1
    rw [Nat.mul_comm (256 ^ r.length) 256]
    omega
theorem lessB_val : ∀ (a b : List UInt8), a.length = b.length → lessB a b = decide (valB a < valB b)
  | [], [], _ => by simp [lessB, valB]
  | x :: a, y :: b, h => by
    have hl : a.length = b.length := by simpa using h
    have ih := lessB_val a b hl
    have ha := valB_lt a
    have hb := valB_lt b
    simp only [lessB, valB, hl] at *
    by_cases hxy : x = y
    · subst hxy; simp [ih]
    · have h2 : ¬ x.toNat = y.toNat := fun h => hxy (UInt8.toNat_inj.1 h)
      have h3 : ((x.toNat : Int) != (y.toNat : Int)) = true := by simp; omega
      rw [h3]
      simp only [cond_true]
      rw [Bool.eq_iff_iff, decide_eq_true_eq, decide_eq_true_eq]
      rcases Nat.lt_or_gt_of_ne h2 with hlt | hlt
      · have : (x.toNat + 1) * 256 ^ b.length ≤ y.toNat * 256 ^ b.length := Nat.mul_le_mul_right _ hlt
        rw [Nat.add_mul, Nat.one_mul] at this
        constructor <;> intro <;> omega
      · have : (y.toNat + 1) * 256 ^ b.length ≤ x.toNat * 256 ^ b.length := Nat.mul_le_mul_right _ hlt
        rw [Nat.add_mul, Nat.one_mul] at this
        constructor <;> intro <;> omega
theorem valB_inj : ∀ (a b : List UInt8), a.length = b.length → valB a = valB b → a = b
  | [], [], _, _ => rfl
  | x :: a, y :: b, h, hv => by
    have hl : a.length = b.length := by simpa using h
    have ha := valB_lt a
    have hb := valB_lt b
    rw [hl] at ha
    simp only [valB, hl] at hv
    have hxy : x.toNat = y.toNat := by
      rcases Nat.lt_trichotomy x.toNat y.toNat with hlt | he | hlt
      · have : (x.toNat + 1) * 256 ^ b.length ≤ y.toNat * 256 ^ b.length := Nat.mul_le_mul_right _ hlt
        rw [Nat.add_mul, Nat.one_mul] at this; omega
      · exact he
      · have : (y.toNat + 1) * 256 ^ b.length ≤ x.toNat * 256 ^ b.length := Nat.mul_le_mul_right _ hlt
        rw [Nat.add_mul, Nat.one_mul] at this; omega
    rw [hxy] at hv
    rw [UInt8.toNat_inj.1 hxy, valB_inj a b hl (by omega)]
theorem dig_eq {a b : Dig} (h : valB a.l = valB b.l) : a = b := by
  have := valB_inj a.l b.l (by rw [a.h, b.h]) h
  cases a; cases b; simp at this; subst this; rfl
theorem better2 (x y : Int) (a b : Dig) : 0 < orI [cmpI x y, cmpB b.l a.l] ↔ (y < x ∨ (x = y ∧ valB a.l < valB b.l)) := by
  rw [← decide_eq_true_iff (p := 0 < orI [cmpI x y, cmpB b.l a.l]), better, lessB_val _ _ (by rw [a.h, b.h])]
  simp

/-- The best of a list, said without an order. -/
structure IsBest {α : Type} (may : α → Bool) (cmp : α → α → Int) (l : List α) (o : α) (k : Bool) (r : α × Bool) : Prop where
  no : r.2 = false → (∀ x ∈ l, may x = false) ∧ k = false ∧ r.1 = o
  ok : r.2 = true → may r.1 = true ∧ (r.1 ∈ l ∨ (k = true ∧ r.1 = o)) ∧ (∀ x ∈ l, may x = true → ¬ 0 < cmp x r.1) ∧ (k = true → ¬ 0 < cmp o r.1)
theorem bestG_is {α : Type} {may : α → Bool} {cmp : α → α → Int} (irr : ∀ a, ¬ 0 < cmp a a) (tr : ∀ a b c, ¬ 0 < cmp a b → ¬ 0 < cmp b c → ¬ 0 < cmp a c) (asym : ∀ a b, 0 < cmp a b → ¬ 0 < cmp b a) :
    ∀ (l : List α) (o : α) (k : Bool), (k = true → may o = true) → IsBest may cmp l o k (bestG may cmp l o k)
  | [], o, k, hk => ⟨fun h => ⟨by simp, h, rfl⟩, fun h => ⟨hk h, .inr ⟨h, rfl⟩, by simp, fun _ => irr o⟩⟩
  | x :: r, o, k, hk => by
    simp only [bestG]
    cases hx : may x && (!k || decide (0 < cmp x o)) with
    | true =>
      simp only [cond_true]
      have hm : may x = true := by simp at hx; exact hx.1
      have hx2 : k = true → 0 < cmp x o := by intro h; subst h; simp at hx; exact hx.2
      have ih := bestG_is (may := may) irr tr asym r x true (fun _ => hm)
      refine ⟨fun h => ?_, fun h => ?_⟩
      · have := (ih.no h).2.1; cases this
      · obtain ⟨h1, h2, h3, h4⟩ := ih.ok h
        refine ⟨h1, .inl ?_, fun y hy hmy => ?_, fun hk' => tr _ _ _ (asym _ _ (hx2 hk')) (h4 rfl)⟩
        · rcases h2 with h2 | ⟨_, h2⟩
          · exact List.mem_cons_of_mem _ h2
          · rw [h2]; exact List.mem_cons_self
        · rcases List.mem_cons.1 hy with rfl | hy
          · exact h4 rfl
          · exact h3 y hy hmy
    | false =>
      simp only [cond_false]
      have ih := bestG_is (may := may) irr tr asym r o k hk
      refine ⟨fun h => ?_, fun h => ?_⟩
      · obtain ⟨h1, h2, h3⟩ := ih.no h
        refine ⟨fun y hy => ?_, h2, h3⟩
        rcases List.mem_cons.1 hy with rfl | hy
        · subst h2; simpa using hx
        · exact h1 y hy
      · obtain ⟨h1, h2, h3, h4⟩ := ih.ok h
        refine ⟨h1, ?_, fun y hy hmy => ?_, h4⟩
        · rcases h2 with h2 | h2
          · exact .inl (List.mem_cons_of_mem _ h2)
          · exact .inr h2
        · rcases List.mem_cons.1 hy with rfl | hy
          · rw [hmy] at hx
            simp at hx
            obtain ⟨hk1, hx⟩ := hx
            exact tr _ _ _ (by omega) (h4 hk1)
          · exact h3 y hy hmy
theorem bestG_perm {α : Type} {may : α → Bool} {cmp : α → α → Int} (irr : ∀ a, ¬ 0 < cmp a a) (tr : ∀ a b c, ¬ 0 < cmp a b → ¬ 0 < cmp b c → ¬ 0 < cmp a c) (asym : ∀ a b, 0 < cmp a b → ¬ 0 < cmp b a)
    (anti : ∀ a b, may a = true → may b = true → ¬ 0 < cmp a b → ¬ 0 < cmp b a → a = b) {l l' : List α} (hp : ∀ x, x ∈ l ↔ x ∈ l') (o : α) : bestG may cmp l o false = bestG may cmp l' o false := by
  have h1 := bestG_is (may := may) irr tr asym l o false (by intro h; cases h)
  have h2 := bestG_is (may := may) irr tr asym l' o false (by intro h; cases h)
  revert h1 h2
  generalize bestG may cmp l o false = r1
  generalize bestG may cmp l' o false = r2
  obtain ⟨a, b⟩ := r1
  obtain ⟨a', b'⟩ := r2
  intro h1 h2
  cases b with
  | false =>
    obtain ⟨n1, _, n2⟩ := h1.no rfl
    cases b' with
    | false => obtain ⟨_, _, n3⟩ := h2.no rfl; simp only [] at n2 n3; rw [n2, n3]
    | true =>
      obtain ⟨k1, k2, _⟩ := h2.ok rfl
      rcases k2 with k2 | ⟨k2, _⟩
      · have := n1 _ ((hp _).2 k2); simp only [] at k1; rw [k1] at this; cases this
      · cases k2
  | true =>
    obtain ⟨k1, k2, k3, _⟩ := h1.ok rfl
    rcases k2 with k2 | ⟨k2, _⟩
    · cases b' with
      | false =>
        obtain ⟨n1, _, _⟩ := h2.no rfl
        have := n1 _ ((hp _).1 k2); simp only [] at k1; rw [k1] at this; cases this
      | true =>
        obtain ⟨j1, j2, j3, _⟩ := h2.ok rfl
        rcases j2 with j2 | ⟨j2, _⟩
        · have := anti a a' k1 j1 (j3 a ((hp _).1 k2) k1) (k3 a' ((hp _).2 j2) j1)
          rw [this]
        · cases j2
    · cases k2
end Go.Proofs.Ytbmanooiphghmaa
