/- Laws on plain lists: what is selected does not hang on the order of the list. No condition. -/
import Derived.Test.YtbhkoipmojdkhaaPkG22
set_option linter.all false
namespace Go.Proofs.Ytbhkoipmojdkhaa
open Go Go.Gx
def valB : List UInt8 → Nat
  | [] => 0
  | x :: r => x.toNat * 256 ^ r.length + valB r
theorem valB_lt : ∀ l : List UInt8, valB l < 256 ^ l.length
  | [] => by simp [valB]
  | x :: r => by
    have := valB_lt r
    have hx : x.toNat < 256 := x.toNat_lt
    simp only [valB, List.length_cons, Nat.pow_succ]
    have h1 : (x.toNat + 1) * 256 ^ r.length ≤ 256 * 256 ^ r.length := Nat.mul_le_mul_right _ (by omega)
    rw [Nat.add_mul, Nat.one_mul] at h1
    rw [Nat.mul_comm (256 ^ r.length) 256]
    omega
theorem lessB_val : ∀ (a b : List UInt8), a.length = b.length → lessB a b = decide (valB a < valB b)
  | [], [], _ => by simp [lessB, valB]
  | x :: a, y :: b, h => by
    have hl : a.length = b.length := by simpa using h
    have ih := lessB_val a b hl
    have ha := valB_lt a
    have hb := valB_lt b
    simp only [lessB, valB, hl] at *
    by_cases hxy : x = y
    · subst hxy; simp [ih]
    · have h2 : ¬ x.toNat = y.toNat := fun h => hxy (UInt8.toNat_inj.1 h)
      have h3 : ((x.toNat : Int) != (y.toNat : Int)) = true := by simp; omega
      rw [h3]
      simp only [cond_true]
      rw [Bool.eq_iff_iff, decide_eq_true_eq, decide_eq_true_eq]
      rcases Nat.lt_or_gt_of_ne h2 with hlt | hlt
      · have : (x.toNat + 1) * 256 ^ b.length ≤ y.toNat * 256 ^ b.length := Nat.mul_le_mul_right _ hlt
        rw [Nat.add_mul, Nat.one_mul] at this
        constructor <;> intro <;> omega
      · have : (y.toNat + 1) * 256 ^ b.length ≤ x.toNat * 256 ^ b.length := Nat.mul_le_mul_right _ hlt
        rw [Nat.add_mul, Nat.one_mul] at this
        constructor <;> intro <;> omega
theorem valB_inj : ∀ (a b : List UInt8), a.length = b.length → valB a = valB b → a = b
  | [], [], _, _ => rfl
  | x :: a, y :: b, h, hv => by
    have hl : a.length = b.length := by simpa using h
    have ha := valB_lt a
    have hb := valB_lt b
    rw [hl] at ha
    simp only [valB, hl] at hv
    have hxy : x.toNat = y.toNat := by
      rcases Nat.lt_trichotomy x.toNat y.toNat with hlt | he | hlt
      · have : (x.toNat + 1) * 256 ^ b.length ≤ y.toNat * 256 ^ b.length := Nat.mul_le_mul_right _ hlt
        rw [Nat.add_mul, Nat.one_mul] at this; omega
      · exact he
      · have : (y.toNat + 1) * 256 ^ b.length ≤ x.toNat * 256 ^ b.length := Nat.mul_le_mul_right _ hlt
        rw [Nat.add_mul, Nat.one_mul] at this; omega
    rw [hxy] at hv
    rw [UInt8.toNat_inj.1 hxy, valB_inj a b hl (by omega)]
theorem dig_eq {a b : Dig} (h : valB a.l = valB b.l) : a = b := by
  have := valB_inj a.l b.l (by rw [a.h, b.h]) h
  cases a; cases b; simp at this; subst this; rfl
theorem better2 (x y : Int) (a b : Dig) : 0 < orI [cmpI x y, cmpB b.l a.l] ↔ (y < x ∨ (x = y ∧ valB a.l < valB b.l)) := by
  rw [← decide_eq_true_iff (p := 0 < orI [cmpI x y, cmpB b.l a.l]), better, lessB_val _ _ (by rw [a.h, b.h])]
  simp

/-- The best of a list, said without an order. -/
structure IsBest {α : Type} (may : α → Bool) (cmp : α → α → Int) (l : List α) (o : α) (k : Bool) (r : α × Bool) : Prop where
  no : r.2 = false → (∀ x ∈ l, may x = false) ∧ k = false ∧ r.1 = o
  ok : r.2 = true → may r.1 = true ∧ (r.1 ∈ l ∨ (k = true ∧ r.1 = o)) ∧ (∀ x ∈ l, may x = true → ¬ 0 < cmp x r.1) ∧ (k = true → ¬ 0 < cmp o r.1)
theorem bestG_is {α : Type} {may : α → Bool} {cmp : α → α → Int} (irr : ∀ a, ¬ 0 < cmp a a) (tr : ∀ a b c, ¬ 0 < cmp a b → ¬ 0 < cmp b c → ¬ 0 < cmp a c) (asym : ∀ a b, 0 < cmp a b → ¬ 0 < cmp b a) :
    ∀ (l : List α) (o : α) (k : Bool), (k = true → may o = true) → IsBest may cmp l o k (bestG may cmp l o k)
  | [], o, k, hk => ⟨fun h => ⟨by simp, h, rfl⟩, fun h => ⟨hk h, .inr ⟨h, rfl⟩, by simp, fun _ => irr o⟩⟩
  | x :: r, o, k, hk => by
    simp only [bestG]
    cases hx : may x && (!k || decide (0 < cmp x o)) with
    | true =>
      simp only [cond_true]
      have hm : may x = true := by simp at hx; exact hx.1
      have hx2 : k = true → 0 < cmp x o := by intro h; subst h; simp at hx; exact hx.2
      have ih := bestG_is (may := may) irr tr asym r x true (fun _ => hm)
      refine ⟨fun h => ?_, fun h => ?_⟩
      · have := (ih.no h).2.1; cases this
      · obtain ⟨h1, h2, h3, h4⟩ := ih.ok h
        refine ⟨h1, .inl ?_, fun y hy hmy => ?_, fun hk' => tr _ _ _ (asym _ _ (hx2 hk')) (h4 rfl)⟩
        · rcases h2 with h2 | ⟨_, h2⟩
          · exact List.mem_cons_of_mem _ h2
          · rw [h2]; exact List.mem_cons_self
        · rcases List.mem_cons.1 hy with rfl | hy
          · exact h4 rfl
          · exact h3 y hy hmy
    | false =>
      simp only [cond_false]
      have ih := bestG_is (may := may) irr tr asym r o k hk
      refine ⟨fun h => ?_, fun h => ?_⟩
      · obtain ⟨h1, h2, h3⟩ := ih.no h
        refine ⟨fun y hy => ?_, h2, h3⟩
        rcases List.mem_cons.1 hy with rfl | hy
        · subst h2; simpa using hx
        · exact h1 y hy
      · obtain ⟨h1, h2, h3, h4⟩ := ih.ok h
        refine ⟨h1, ?_, fun y hy hmy => ?_, h4⟩
        · rcases h2 with h2 | h2
          · exact .inl (List.mem_cons_of_mem _ h2)
          · exact .inr h2
        · rcases List.mem_cons.1 hy with rfl | hy
          · rw [hmy] at hx
            simp at hx
            obtain ⟨hk1, hx⟩ := hx
            exact tr _ _ _ (by omega) (h4 hk1)
          · exact h3 y hy hmy
theorem bestG_perm {α : Type} {may : α → Bool} {cmp : α → α → Int} (irr : ∀ a, ¬ 0 < cmp a a) (tr : ∀ a b c, ¬ 0 < cmp a b → ¬ 0 < cmp b c → ¬ 0 < cmp a c) (asym : ∀ a b, 0 < cmp a b → ¬ 0 < cmp b a)
    (anti : ∀ a b, may a = true → may b = true → ¬ 0 < cmp a b → ¬ 0 < cmp b a → a = b) {l l' : List α} (hp : ∀ x, x ∈ l ↔ x ∈ l') (o : α) : bestG may cmp l o false = bestG may cmp l' o false := by
  have h1 := bestG_is (may := may) irr tr asym l o false (by intro h; cases h)
  have h2 := bestG_is (may := may) irr tr asym l' o false (by intro h; cases h)
  revert h1 h2
  generalize bestG may cmp l o false = r1
  generalize bestG may cmp l' o false = r2
  obtain ⟨a, b⟩ := r1
  obtain ⟨a', b'⟩ := r2
  intro h1 h2
  cases b with
  | false =>
    obtain ⟨n1, _, n2⟩ := h1.no rfl
    cases b' with
    | false => obtain ⟨_, _, n3⟩ := h2.no rfl; simp only [] at n2 n3; rw [n2, n3]
    | true =>
      obtain ⟨k1, k2, _⟩ := h2.ok rfl
      rcases k2 with k2 | ⟨k2, _⟩
      · have := n1 _ ((hp _).2 k2); simp only [] at k1; rw [k1] at this; cases this
      · cases k2
  | true =>
    obtain ⟨k1, k2, k3, _⟩ := h1.ok rfl
    rcases k2 with k2 | ⟨k2, _⟩
    · cases b' with
      | false =>
        obtain ⟨n1, _, _⟩ := h2.no rfl
        have := n1 _ ((hp _).1 k2); simp only [] at k1; rw [k1] at this; cases this
      | true =>
        obtain ⟨j1, j2, j3, _⟩ := h2.ok rfl
        rcases j2 with j2 | ⟨j2, _⟩
        · have := anti a a' k1 j1 (j3 a ((hp _).1 k2) k1) (k3 a' ((hp _).2 j2) j1)
          rw [this]
        · cases j2
    · cases k2
theorem badB_iff (p : Int → Bool) : ∀ (l : List Change) (pre : List Int), badB p pre l = false ↔ (∀ x ∈ l, p x.node = true) ∧ (∀ x ∈ l, x.node ∉ pre) ∧ (l.map (·.node)).Nodup
  | [], pre => by simp [badB]
  | x :: r, pre => by
    simp only [badB]
    have ih := badB_iff p r (pre ++ [x.node])
    cases hx : !p x.node || pre.any (fun y => y == x.node) with
    | true =>
      simp only [cond_true]
      constructor
      · intro h; cases h
      · rintro ⟨h1, h2, _⟩
        have a1 := h1 x (by simp)
        have a2 := h2 x (by simp)
        rw [a1] at hx
        simp at hx
        exact absurd hx a2
    | false =>
      simp only [cond_false]
      rw [ih]
      simp only [Bool.or_eq_false_iff, Bool.not_eq_false'] at hx
      obtain ⟨g1, g2⟩ := hx
      have g3 : x.node ∉ pre := by
        intro h
        have : pre.any (fun y => y == x.node) = true := List.any_eq_true.2 ⟨_, h, by simp⟩
        rw [this] at g2; cases g2
      simp only [List.map_cons, List.nodup_cons, List.mem_cons, List.mem_map]
      constructor
      · rintro ⟨h1, h2, h3⟩
        refine ⟨?_, ?_, ?_, h3⟩
        · rintro y (rfl | hy)
          · exact g1
          · exact h1 y hy
        · rintro y (rfl | hy)
          · exact g3
          · exact fun h => h2 y hy (List.mem_append.2 (.inl h))
        · rintro ⟨y, hy, he⟩; exact h2 y hy (List.mem_append.2 (.inr (by rw [he]; simp)))
      · rintro ⟨h1, h2, h3, h4⟩
        refine ⟨fun y hy => h1 y (.inr hy), fun y hy h => ?_, h4⟩
        rcases List.mem_append.1 h with h | h
        · exact h2 y (.inr hy) h
        · exact h3 ⟨y, hy, by simpa using h⟩
theorem badB_perm (p : Int → Bool) {l l' : List Change} (hp : l.Perm l') : badB p [] l = badB p [] l' := by
  have h1 := badB_iff p l []
  have h2 := badB_iff p l' []
  have h3 : ((∀ x ∈ l, p x.node = true) ∧ (∀ x ∈ l, x.node ∉ ([] : List Int)) ∧ (l.map (·.node)).Nodup) ↔ ((∀ x ∈ l', p x.node = true) ∧ (∀ x ∈ l', x.node ∉ ([] : List Int)) ∧ (l'.map (·.node)).Nodup) := by
    rw [(hp.map (·.node)).nodup_iff]
    simp only [hp.mem_iff]
  rw [← h1, ← h2] at h3
  cases ha : badB p [] l <;> cases hb : badB p [] l' <;> simp_all
theorem cnt_perm {m s : Int} {l l' : List Change} (hp : l.Perm l') (q : Change → Bool) : cnt ⟨m, s, l⟩ q = cnt ⟨m, s, l'⟩ q := by simp only [cnt, hp.countP_eq]
theorem lowI_perm {m s : Int} {l l' : List Change} (hp : l.Perm l') : lowI ⟨m, s, l⟩ = lowI ⟨m, s, l'⟩ := by
  unfold lowI
  have hm : (fun x => lowMayB ⟨m, s, l⟩ x) = (fun x => lowMayB ⟨m, s, l'⟩ x) := by funext x; simp only [lowMayB, cnt_perm hp]
  rw [hm]
  refine bestG_perm (fun a => ?_) (fun a b c => ?_) (fun a b => ?_) (fun a b _ _ => ?_) (fun x => ?_) _
  · simp only [better2]; omega
  · simp only [better2]; omega
  · simp only [better2]; omega
  · simp only [better2]
    intro h1 h2
    have e1 : a.seq = b.seq := by omega
    have e2 : valB a.dig.l = valB b.dig.l := by omega
    cases a; cases b
    simp only [] at e1 e2
    rw [e1, dig_eq e2]
  · simp only [List.mem_flatMap, hp.mem_iff]
theorem atI_perm {m s : Int} {l l' : List Change} (hp : l.Perm l') (sq : Int) : atI ⟨m, s, l⟩ sq = atI ⟨m, s, l'⟩ sq := by
  have hb : atB ⟨m, s, l⟩ sq = atB ⟨m, s, l'⟩ sq := by
    unfold atB
    have hm : (fun x => at1B sq ⟨m, s, l⟩ x) = (fun x => at1B sq ⟨m, s, l'⟩ x) := by funext x; simp only [at1B, standsB, cnt_perm hp]
    rw [hm]
    refine bestG_perm (fun a => ?_) (fun a b c => ?_) (fun a b => ?_) (fun a b ha hb => ?_) (fun x => ?_) _
    · simp only [better2]; omega
    · simp only [better2]; omega
    · simp only [better2]; omega
    · simp only [better2]
      intro h1 h2
      have e1 : a.view = b.view := by omega
      have e2 : valB a.dig.l = valB b.dig.l := by omega
      have e3 : a.seq = b.seq := by
        simp only [at1B, Bool.and_eq_true, beq_iff_eq] at ha hb
        omega
      cases a; cases b
      simp only [] at e1 e2 e3
      rw [e1, e3, dig_eq e2]
    · simp only [List.mem_flatMap, hp.mem_iff]
  unfold atI
  rw [hb, cnt_perm hp]
theorem pickGo_congr {co co' : Council} (h : ∀ n, atI co n = atI co' n) (lo : Mark) : ∀ (f : Nat) (n : Int) (out : List Mark) (m : Nat), pickGo co lo f n out m = pickGo co' lo f n out m
  | 0, _, _, _ => rfl
  | f + 1, n, out, m => by simp only [pickGo, h]; rw [pickGo_congr h lo f]
theorem selI_perm (p : Int → Bool) (c : Crew) {l l' : List Change} (hp : l.Perm l') : selI p c l = selI p c l' := by
  unfold selI
  rw [badB_perm p hp, lowI_perm hp, hp.length_eq, pickGo_congr (fun n => atI_perm hp n)]
end Go.Proofs.Ytbhkoipmojdkhaa
