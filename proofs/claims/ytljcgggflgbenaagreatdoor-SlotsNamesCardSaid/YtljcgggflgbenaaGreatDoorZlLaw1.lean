/- The crew's order; how stands are ordered; one more among them. No condition. -/
import Derived.Test.YtljcgggflgbenaaGreatDoorZlSim
import Derived.Test.YtljcgggflgbenaaGreatDoorZlG11
set_option linter.all false
namespace Go.Proofs.YtljcgggflgbenaaGreatDoor
open Go Go.Gx
theorem ba_size (l : List UInt8) : ByteArray.size ⟨l.toArray⟩ = l.length := rfl
theorem ba_get0 (x : UInt8) (l : List UInt8) : (ByteArray.mk (x :: l).toArray)[0]! = x := rfl
theorem ba_getS (x : UInt8) (l : List UInt8) (i : Nat) : (ByteArray.mk (x :: l).toArray)[i + 1]! = (ByteArray.mk l.toArray)[i]! := by
  simp only [getElem!_def, getElem?_def, ba_size]
  by_cases h : i < l.length
  · simp [h]; rfl
  · simp [h]
theorem cmpB_nil : cmpB [] [] = 0 := rfl
theorem cmpB_cons (x y : UInt8) (a b : List UInt8) : cmpB (x :: a) (y :: b) = if x != y then (if x < y then -1 else 1) else cmpB a b := by
  unfold cmpB Extern.BytealgCompare.cmp
  simp only [ba_size, List.length_cons, Nat.succ_min_succ, List.range_succ_eq_map, List.find?_cons, ba_get0, List.find?_map, Function.comp_def, ba_getS]
  by_cases h : x = y
  · subst h
    simp only [bne_self_eq_false]
    cases List.find? (fun i => (ByteArray.mk a.toArray)[i]! != (ByteArray.mk b.toArray)[i]!) (List.range (min a.length b.length)) with
    | none => simp
    | some i => simp [ba_getS]
  · have : (x != y) = true := by simpa using h
    simp [this, ba_get0]; rfl
def valB : List UInt8 → Nat
  | [] => 0
  | x :: r => x.toNat * 256 ^ r.length + valB r
theorem valB_lt : ∀ l : List UInt8, valB l < 256 ^ l.length
  | [] => by simp [valB]
  | x :: r => by
    have := valB_lt r
    have hx : x.toNat < 256 := x.toNat_lt
    simp only [valB, List.length_cons, Nat.pow_succ]
    have h1 : (x.toNat + 1) * 256 ^ r.length ≤ 256 * 256 ^ r.length := Nat.mul_le_mul_right _ (by omega)
    rw [Nat.add_mul, Nat.one_mul] at h1
    rw [Nat.mul_comm (256 ^ r.length) 256]
    omega
theorem lessB_val : ∀ (a b : List UInt8), a.length = b.length → lessB a b = decide (valB a < valB b)
  | [], [], _ => by simp [lessB, valB]
  | x :: a, y :: b, h => by
    have hl : a.length = b.length := by simpa using h
    have ih := lessB_val a b hl
    have ha := valB_lt a
    have hb := valB_lt b
    simp only [lessB, valB, hl] at *
    by_cases hxy : x = y
    · subst hxy; simp [ih]
    · have h2 : ¬ x.toNat = y.toNat := fun h => hxy (UInt8.toNat_inj.1 h)
      have h3 : ((x.toNat : Int) != (y.toNat : Int)) = true := by simp; omega
      rw [h3]
      simp only [cond_true]
      rw [Bool.eq_iff_iff, decide_eq_true_eq, decide_eq_true_eq]
      rcases Nat.lt_or_gt_of_ne h2 with hlt | hlt
      · have : (x.toNat + 1) * 256 ^ b.length ≤ y.toNat * 256 ^ b.length := Nat.mul_le_mul_right _ hlt
        rw [Nat.add_mul, Nat.one_mul] at this
        constructor <;> intro <;> omega
      · have : (y.toNat + 1) * 256 ^ b.length ≤ x.toNat * 256 ^ b.length := Nat.mul_le_mul_right _ hlt
        rw [Nat.add_mul, Nat.one_mul] at this
        constructor <;> intro <;> omega
theorem valB_inj : ∀ (a b : List UInt8), a.length = b.length → valB a = valB b → a = b
  | [], [], _, _ => rfl
  | x :: a, y :: b, h, hv => by
    have hl : a.length = b.length := by simpa using h
    have ha := valB_lt a
    have hb := valB_lt b
    rw [hl] at ha
    simp only [valB, hl] at hv
    have hxy : x.toNat = y.toNat := by
      rcases Nat.lt_trichotomy x.toNat y.toNat with hlt | he | hlt
      · have : (x.toNat + 1) * 256 ^ b.length ≤ y.toNat * 256 ^ b.length := Nat.mul_le_mul_right _ hlt
        rw [Nat.add_mul, Nat.one_mul] at this; omega
      · exact he
      · have : (y.toNat + 1) * 256 ^ b.length ≤ x.toNat * 256 ^ b.length := Nat.mul_le_mul_right _ hlt
        rw [Nat.add_mul, Nat.one_mul] at this; omega
    rw [hxy] at hv
    rw [UInt8.toNat_inj.1 hxy, valB_inj a b hl (by omega)]
theorem dig_eq {a b : Dig} (h : valB a.l = valB b.l) : a = b := by
  have := valB_inj a.l b.l (by rw [a.h, b.h]) h
  cases a; cases b; simp at this; subst this; rfl

theorem cmpB_lt : ∀ (a b : List UInt8), a.length = b.length → decide (cmpB a b < 0) = lessB a b
  | [], [], _ => by simp [cmpB_nil, lessB]
  | x :: a, y :: b, h => by
    have ih := cmpB_lt a b (by simpa using h)
    rw [cmpB_cons]
    simp only [lessB]
    by_cases hxy : x = y
    · subst hxy; simp [ih]
    · have h1 : (x != y) = true := by simpa using hxy
      have h2 : ¬ x.toNat = y.toNat := fun h => hxy (UInt8.toNat_inj.1 h)
      have h3 : ((x.toNat : Int) != (y.toNat : Int)) = true := by simp; omega
      rw [if_pos h1, h3]
      simp only [cond_true]
      by_cases hlt : x < y
      · rw [if_pos hlt]; have : x.toNat < y.toNat := UInt8.lt_iff_toNat_lt.1 hlt; simp; omega
      · rw [if_neg hlt]; have : ¬ x.toNat < y.toNat := fun h => hlt (UInt8.lt_iff_toNat_lt.2 h); simp; omega
theorem ahead_iff {a b : Stand} : aheadB a b = true ↔ a.view < b.view ∨ a.view = b.view ∧ valB a.dig.l < valB b.dig.l := by
  unfold aheadB; rw [lessB_val _ _ (by rw [a.dig.h, b.dig.h])]; simp
theorem ahead_trans {a b c : Stand} (h : aheadB a b = true) (h2 : aheadB b c = true) : aheadB a c = true := by
  rw [ahead_iff] at *; omega
theorem ahead_total {a b : Stand} (h : aheadB a b = false) (hd : b.dig ≠ a.dig) : aheadB b a = true := by
  have h : ¬ aheadB a b = true := by rw [h]; decide
  rw [ahead_iff] at *
  have : valB a.dig.l ≠ valB b.dig.l := fun e => hd (dig_eq e).symm
  omega
theorem cmpI_lt (x y : Int) : cmpI x y < 0 ↔ x < y := by
  unfold cmpI; split
  · omega
  · split <;> omega
theorem cmpI_eq (x y : Int) : cmpI x y = 0 ↔ x = y := by
  unfold cmpI; split
  · omega
  · split <;> omega
theorem orI3 (p q r : Int) : orI [p, q, r] < 0 ↔ p < 0 ∨ p = 0 ∧ (q < 0 ∨ q = 0 ∧ r < 0) := by
  unfold orI orI orI orI
  by_cases hp : p = 0
  · subst hp; by_cases hq : q = 0
    · subst hq; by_cases hr : r = 0
      · subst hr; simp
      · have : (r != 0) = true := by simpa using hr
        simp [this]
    · have : (q != 0) = true := by simpa using hq
      simp [this, hq]
  · have : (p != 0) = true := by simpa using hp
    simp [this, hp]
theorem ordS_lt {a b : Stand} : ordS a b < 0 ↔ a.seq < b.seq ∨ a.seq = b.seq ∧ aheadB a b = true := by
  unfold ordS
  rw [orI3, cmpI_lt, cmpI_eq, cmpI_lt, cmpI_eq]
  have := cmpB_lt a.dig.l b.dig.l (by rw [a.dig.h, b.dig.h])
  unfold aheadB
  rw [← this]; simp
/-! ### One more -/
theorem mem_insR {x z : Stand} : ∀ {l : List Stand}, z ∈ insR x l ↔ z = x ∨ z ∈ l
  | [] => by simp [insR]
  | y :: r => by
    unfold insR
    cases aheadB x y with
    | true => simp
    | false =>
      simp only [cond_false, List.mem_cons, mem_insR (l := r)]
      exact ⟨fun h => by rcases h with h | h | h <;> simp [h], fun h => by rcases h with h | h | h <;> simp [h]⟩
theorem insR_pair {x : Stand} : ∀ {l : List Stand}, l.Pairwise (fun a b => aheadB a b = true) → (∀ y ∈ l, x.dig ≠ y.dig) → (insR x l).Pairwise (fun a b => aheadB a b = true)
  | [], _, _ => by simp [insR]
  | y :: r, h, hd => by
    unfold insR
    obtain ⟨h1, h2⟩ := List.pairwise_cons.1 h
    cases hc : aheadB x y with
    | true =>
      simp only [cond_true]
      refine List.pairwise_cons.2 ⟨fun z hz => ?_, h⟩
      rcases List.mem_cons.1 hz with rfl | hz
      · exact hc
      · exact ahead_trans hc (h1 z hz)
    | false =>
      simp only [cond_false]
      refine List.pairwise_cons.2 ⟨fun z hz => ?_, insR_pair h2 fun z hz => hd z (List.mem_cons_of_mem _ hz)⟩
      rcases mem_insR.1 hz with rfl | hz
      · exact ahead_total hc fun e => hd y (by simp) e.symm
      · exact h1 z hz
theorem insR_lt {x y : Stand} : ∀ {l : List Stand}, aheadB x y = true → insR x (l ++ [y]) = insR x l ++ [y]
  | [], h => by simp [insR, h]
  | z :: r, h => by
    show insR x (z :: (r ++ [y])) = _
    unfold insR
    cases aheadB x z with
    | true => rfl
    | false => simp only [cond_false, List.cons_append]; rw [insR_lt h]
theorem insR_ge {x y : Stand} : ∀ {l : List Stand}, aheadB x y = false → (∀ z ∈ l, aheadB z y = true) → insR x (l ++ [y]) = l ++ [y, x]
  | [], h, _ => by simp [insR, h]
  | z :: r, h, hl => by
    show insR x (z :: (r ++ [y])) = _
    unfold insR
    cases hc : aheadB x z with
    | true => rw [ahead_trans hc (hl z (by simp))] at h; cases h
    | false => simp only [cond_false, List.cons_append]; rw [insR_ge h fun z hz => hl z (List.mem_cons_of_mem _ hz)]
theorem isJ_ins {x : Stand} : ∀ (n : Nat) (X Y : List Stand), X.length = n → X.Pairwise (fun a b => aheadB a b = true) → (∀ y ∈ X, y.seq = x.seq) → isJ ordS n (X ++ x :: Y) = insR x X ++ Y
  | 0, X, Y, hn, _, _ => by
    have : X = [] := List.length_eq_zero_iff.1 hn
    subst this; rfl
  | n + 1, X, Y, hn, hp, hs => by
    obtain ⟨X', y, rfl⟩ : ∃ X' y, X = X' ++ [y] := by
      have hne : X ≠ [] := by intro h; subst h; cases hn
      exact ⟨X.dropLast, X.getLast hne, (List.dropLast_concat_getLast hne).symm⟩
    have hn' : X'.length = n := by simpa using hn
    have hy : y.seq = x.seq := hs y (by simp)
    rw [List.pairwise_append] at hp
    have e0 : (X' ++ [y] ++ x :: Y).getD (n + 1) default = x := by
      rw [List.getD_eq_getElem?_getD, List.getElem?_append_right (by simp; omega)]; simp [hn']
    have e1 : (X' ++ [y] ++ x :: Y).getD n default = y := by
      rw [List.getD_eq_getElem?_getD, List.append_assoc, List.getElem?_append_right (by omega)]; simp [hn']
    unfold isJ
    rw [e0, e1]
    cases hc : decide (ordS x y < 0) with
    | true =>
      have h1 := of_decide_eq_true hc
      rw [ordS_lt] at h1
      have hlt : aheadB x y = true := by
        rcases h1 with h1 | h1
        · omega
        · exact h1.2
      have e2 : ((X' ++ [y] ++ x :: Y).set (n + 1) y).set n x = X' ++ x :: (y :: Y) := by
        subst hn'
        rw [List.append_assoc]; simp
      simp only [cond_true]
      rw [e2, isJ_ins n X' (y :: Y) hn' hp.1 (fun z hz => hs z (by simp [hz])), insR_lt hlt]; simp
    | false =>
      have h1 := of_decide_eq_false hc
      rw [ordS_lt] at h1
      have hge : aheadB x y = false := by
        cases h : aheadB x y with
        | false => rfl
        | true => exact absurd (.inr ⟨hy.symm, h⟩) h1
      simp only [cond_false]
      rw [insR_ge hge fun z hz => hp.2.2 z hz y (by simp)]; simp
theorem isJ_id {p : Stand → Stand → Int} {l : List Stand} {j : Nat} (h : ¬ p (l.getD (j + 1) default) (l.getD j default) < 0) : isJ p (j + 1) l = l := by
  unfold isJ; rw [decide_eq_false h]; rfl
theorem isI_ins {x : Stand} {X : List Stand} (hp : X.Pairwise (fun a b => aheadB a b = true)) (hs : ∀ y ∈ X, y.seq = x.seq) : ∀ f i, 1 ≤ i → i + f = X.length + 1 → 1 ≤ f → isI ordS f i (X ++ [x]) = insR x X
  | 0, _, _, _, h => by omega
  | f + 1, i, h1, hf, _ => by
    unfold isI
    by_cases hi : i = X.length
    · subst hi
      rw [isJ_ins _ X [] rfl hp hs]
      obtain rfl : f = 0 := by omega
      simp [isI]
    · obtain ⟨j, rfl⟩ : ∃ j, i = j + 1 := ⟨i - 1, by omega⟩
      rw [isJ_id, isI_ins hp hs f _ (by omega) (by omega) (by omega)]
      have e0 := List.getElem?_eq_getElem (l := X) (i := j + 1) (by omega)
      have e1 := List.getElem?_eq_getElem (l := X) (i := j) (by omega)
      have hlt := List.pairwise_iff_getElem.1 hp j (j + 1) (by omega) (by omega) (by omega)
      have s0 := hs _ (List.mem_of_getElem? e0)
      have s1 := hs _ (List.mem_of_getElem? e1)
      rw [List.getD_eq_getElem?_getD, List.getD_eq_getElem?_getD, List.getElem?_append_left (by omega), List.getElem?_append_left (by omega), e0, e1, Option.getD_some, Option.getD_some, ordS_lt]
      intro h
      rcases h with h | ⟨_, h⟩
      · omega
      · rw [ahead_iff] at h hlt; omega
theorem isort_ins {x : Stand} {X : List Stand} (hp : X.Pairwise (fun a b => aheadB a b = true)) (hs : ∀ y ∈ X, y.seq = x.seq) : isortG ordS (X ++ [x]) = insR x X := by
  unfold isortG
  cases X with
  | nil => rfl
  | cons y r => exact isI_ins hp hs _ 1 (Nat.le_refl _) (by simp; omega) (by simp)
/-- A number's Q. -/
def QOk (k : Int) (q : List Stand) : Prop := (∀ y ∈ q, y.seq = k) ∧ q.Pairwise (fun a b => aheadB a b = true)
theorem prop_with {q : List Stand} {k v : Int} {d : Dig} (h : QOk k q) : propQ q k d v = withR q (Stand.mk k d v) := by
  unfold propQ withR
  rw [with_len (n := (q.filter (fun a => !decide (a.dig = d))).length) rfl]
  have hf : (q.filter (fun a => !decide (a.dig = d))).Pairwise (fun a b => aheadB a b = true) := h.2.sublist List.filter_sublist
  have hm : ∀ y ∈ q.filter (fun a => !decide (a.dig = d)), y.seq = k := fun y hy => h.1 y (List.mem_filter.1 hy).1
  cases decide ((4 : Int) ≤ (((q.filter (fun a => !decide (a.dig = d))).length : Nat) : Int)) with
  | true => exact isort_ins (x := Stand.mk k d v) (hf.sublist (List.drop_sublist _ _)) fun y hy => hm y (List.mem_of_mem_drop hy)
  | false => exact isort_ins (x := Stand.mk k d v) hf hm
theorem with_ok {q : List Stand} {k v : Int} {d : Dig} (h : QOk k q) : QOk k (withR q (Stand.mk k d v)) := by
  unfold withR
  have hf : (q.filter (fun a => !decide (a.dig = d))).Pairwise (fun a b => aheadB a b = true) := h.2.sublist List.filter_sublist
  have hm : ∀ y ∈ q.filter (fun a => !decide (a.dig = d)), y.seq = k ∧ d ≠ y.dig := fun y hy => by
    obtain ⟨h1, h2⟩ := List.mem_filter.1 hy
    exact ⟨h.1 y h1, fun e => by simp [e] at h2⟩
  have key : ∀ X : List Stand, X.Pairwise (fun a b => aheadB a b = true) → (∀ y ∈ X, y.seq = k ∧ d ≠ y.dig) → QOk k (insR (Stand.mk k d v) X) := fun X h1 h2 =>
    ⟨fun y hy => by
      rcases mem_insR.1 hy with rfl | hy
      · rfl
      · exact (h2 y hy).1, insR_pair h1 fun y hy => (h2 y hy).2⟩
  cases decide (4 ≤ (q.filter (fun a => !decide (a.dig = (Stand.mk k d v).dig))).length) with
  | true => exact key _ (hf.sublist (List.drop_sublist _ _)) fun y hy => hm y (List.mem_of_mem_drop hy)
  | false => exact key _ hf hm
/-! ### Who is in the crew -/
theorem rises_ok : ∀ {xs : List Int} {l : Int}, risesB l xs = true → xs.Pairwise (· < ·) ∧ ∀ x ∈ xs, l < x ∧ 1 ≤ x
  | [], _, _ => ⟨List.Pairwise.nil, fun _ h => (List.not_mem_nil h).elim⟩
  | x :: r, l, h => by
    unfold risesB at h
    cases hc : (decide (x ≤ l) || !nodeB x) with
    | true => rw [hc] at h; cases h
    | false =>
      rw [hc] at h
      obtain ⟨h1, h2⟩ := rises_ok (xs := r) (l := x) h
      simp at hc
      have hn := nodeB_pos' hc.2
      refine ⟨List.pairwise_cons.2 ⟨fun y hy => (h2 y hy).1, h1⟩, fun y hy => ?_⟩
      rcases List.mem_cons.1 hy with rfl | hy
      · exact ⟨hc.1, hn⟩
      · have := h2 y hy; omega
theorem check_rises {c : Crew} (h : check c = 0) : risesB 0 c.nodes = true := by
  unfold check at h
  cases h1 : (decide (c.faults < 0) || (decide (2 < c.faults) || ((c.nodes.length : Int) != IntKind.wrap .i64 (IntKind.wrap .i64 (3 * c.faults) + 1)))) with
  | true => rw [h1] at h; cases h
  | false =>
    rw [h1] at h
    cases h2 : risesB 0 c.nodes with
    | true => rfl
    | false => rw [h2] at h; cases h
theorem bsGo_spec {xs : List Int} (hp : xs.Pairwise (· < ·)) (t : Int) : ∀ (f i j : Nat), i ≤ j → j ≤ xs.length → j ≤ i + f → (∀ (k : Nat) (y : Int), k < i → xs[k]? = some y → y < t) → (∀ (k : Nat) (y : Int), j ≤ k → xs[k]? = some y → t ≤ y) →
    (∀ (k : Nat) (y : Int), k < bsGo xs t f i j → xs[k]? = some y → y < t) ∧ (∀ (k : Nat) (y : Int), bsGo xs t f i j ≤ k → xs[k]? = some y → t ≤ y)
  | f, i, j, h1, h2, h3, h4, h5 => by
    by_cases hij : i < j
    · obtain ⟨f', rfl⟩ : ∃ f', f = f' + 1 := ⟨f - 1, by omega⟩
      have hx := List.getElem?_eq_getElem (l := xs) (i := (i + j) / 2) (by omega)
      generalize xs[(i + j) / 2]'(by omega) = x at hx
      rw [bsGo_step xs t _ i j hij h3 hx, Nat.add_sub_cancel]
      have hmono : ∀ (a b : Nat) (y z : Int), a < b → xs[a]? = some y → xs[b]? = some z → y < z := fun a b y z hab ha hb => by
        obtain ⟨l1, rfl⟩ := List.getElem?_eq_some_iff.1 ha
        obtain ⟨l2, rfl⟩ := List.getElem?_eq_some_iff.1 hb
        exact List.pairwise_iff_getElem.1 hp a b l1 l2 hab
      cases hc : decide (x < t) with
      | true =>
        have hc := of_decide_eq_true hc
        refine bsGo_spec hp t f' ((i + j) / 2 + 1) j (by omega) h2 (by omega) (fun k y hk hy => ?_) h5
        by_cases he : k = (i + j) / 2
        · subst he; rw [hx] at hy; injection hy with hy; omega
        · have := hmono k _ y x (by omega) hy hx; omega
      | false =>
        have hc := of_decide_eq_false hc
        refine bsGo_spec hp t f' i ((i + j) / 2) (by omega) (by omega) (by omega) h4 (fun k y hk hy => ?_)
        by_cases he : k = (i + j) / 2
        · subst he; rw [hx] at hy; injection hy with hy; omega
        · have := hmono _ k x y (by omega) hx hy; omega
    · rw [bsGo_done xs t f i j hij]
      exact ⟨h4, fun k y hk => h5 k y (by omega)⟩
theorem bsF_any {xs : List Int} (hp : xs.Pairwise (· < ·)) (t : Int) : bsF xs t = xs.any (fun y => y == t) := by
  obtain ⟨h1, h2⟩ := bsGo_spec hp t xs.length 0 xs.length (Nat.zero_le _) (Nat.le_refl _) (by omega) (fun k y hk => by omega) (fun k y hk hy => by
    have := (List.getElem?_eq_some_iff.1 hy).1; omega)
  unfold bsF bsI
  generalize bsGo xs t xs.length 0 xs.length = r at h1 h2
  rw [Bool.eq_iff_iff, Bool.and_eq_true, decide_eq_true_eq, List.any_eq_true]
  constructor
  · rintro ⟨h3, h4⟩
    refine ⟨xs.getD r 0, ?_, h4⟩
    rw [List.getD_eq_getElem?_getD, List.getElem?_eq_getElem h3]; exact List.getElem_mem h3
  · rintro ⟨y, hy, he⟩
    obtain rfl := eq_of_beq he
    obtain ⟨k, hk⟩ := List.mem_iff_getElem?.1 hy
    have hkr : ¬ k < r := fun hlt => by have := h1 k _ hlt hk; omega
    have hr : r < xs.length := by have := (List.getElem?_eq_some_iff.1 hk).1; omega
    have hx := List.getElem?_eq_getElem hr
    have hge := h2 r _ (Nat.le_refl _) hx
    refine ⟨hr, ?_⟩
    rw [List.getD_eq_getElem?_getD, hx, Option.getD_some]
    by_cases he : k = r
    · subst he; rw [hk] at hx; injection hx with hx; simp [← hx]
    · obtain ⟨l1, e1⟩ := List.getElem?_eq_some_iff.1 hk
      have := List.pairwise_iff_getElem.1 hp r k hr l1 (by omega)
      omega
theorem has_any {c : Crew} (h : check c = 0) (n : Int) : has c n = c.nodes.any (fun y => y == n) := by
  unfold has; rw [h, bsF_any (rises_ok (check_rises h)).1]; rfl
theorem has_R (c : Crew) (n : Int) : has c n = rhasB c n := by
  unfold has rhasB
  cases h : check c == 0 with
  | false => rfl
  | true => rw [bsF_any (rises_ok (check_rises (eq_of_beq h))).1]
theorem newOk_eq (c : Crew) (self low : Int) : newOk c self low = newOkR c self low := by
  unfold newOk newOkR
  rw [has_R, show (!(check c != 0)) = (check c == 0) from by simp [bne]]
end Go.Proofs.YtljcgggflgbenaaGreatDoor
