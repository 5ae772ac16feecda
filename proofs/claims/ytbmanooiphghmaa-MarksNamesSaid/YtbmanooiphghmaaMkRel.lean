/- The laws of marks: what the code has and what the document has, call by call. No condition. -/
import Derived.Test.YtbmanooiphghmaaMkG9
set_option linter.all false
set_option linter.unusedSimpArgs false
namespace Go.Proofs.Ytbmanooiphghmaa
open Go Go.Gx
theorem rises_pw : ∀ (xs : List Int) (l : Int), risesB l xs = true → (∀ x ∈ xs, l < x) ∧ xs.Pairwise (· < ·)
  | [], _, _ => ⟨by simp, .nil⟩
  | x :: r, l, h => by
    simp only [risesB] at h
    cases hx : decide (x ≤ l) || !nodeB x with
    | true => rw [hx] at h; cases h
    | false =>
      rw [hx] at h
      obtain ⟨h1, h2⟩ := rises_pw r x h
      have hlx : l < x := by simp at hx; omega
      refine ⟨fun y hy => ?_, .cons h1 h2⟩
      rcases List.mem_cons.1 hy with rfl | hy
      · exact hlx
      · have := h1 y hy; omega
theorem getD_mono {α : Type} {d : α} {f : α → Int} {xs : List α} (hp : xs.Pairwise (fun a b => f a < f b)) {m m' : Nat} (h : m ≤ m') (h' : m' < xs.length) : f (xs.getD m d) ≤ f (xs.getD m' d) := by
  rw [List.getD_eq_getElem?_getD, List.getD_eq_getElem?_getD, List.getElem?_eq_getElem h', List.getElem?_eq_getElem (by omega)]
  simp only [Option.getD_some]
  by_cases he : m = m'
  · subst he; omega
  · have := (List.pairwise_iff_getElem.1 hp) m m' (by omega) h' (by omega); omega
theorem bsGo_law {xs : List Int} (hp : xs.Pairwise (· < ·)) (t : Int) : ∀ (f i j : Nat), i ≤ j → j ≤ xs.length → j ≤ i + f → (∀ m, m < i → xs.getD m 0 < t) → (∀ m, j ≤ m → m < xs.length → t ≤ xs.getD m 0) →
    bsGo xs t f i j ≤ xs.length ∧ (∀ m, m < bsGo xs t f i j → xs.getD m 0 < t) ∧ (∀ m, bsGo xs t f i j ≤ m → m < xs.length → t ≤ xs.getD m 0)
  | 0, i, j, h1, h2, h3, h4, h5 => by
    have : i = j := by omega
    subst this
    exact ⟨h2, h4, h5⟩
  | f + 1, i, j, h1, h2, h3, h4, h5 => by
    simp only [bsGo]
    cases hij : decide (i < j) with
    | false =>
      have : i = j := by have := of_decide_eq_false hij; omega
      subst this
      exact ⟨h2, h4, h5⟩
    | true =>
      have hij := of_decide_eq_true hij
      simp only [cond_true]
      cases hc : decide (xs.getD ((i + j) / 2) 0 < t) with
      | true =>
        have hc := of_decide_eq_true hc
        simp only [cond_true]
        exact bsGo_law hp t f _ j (by omega) h2 (by omega) (fun m hm => by have := getD_mono (d := 0) (f := id) hp (m := m) (m' := (i + j) / 2) (by omega) (by omega); simp only [id] at this; omega) h5
      | false =>
        have hc := of_decide_eq_false hc
        simp only [cond_false]
        exact bsGo_law hp t f i _ (by omega) (by omega) (by omega) h4 (fun m hm hl => by have := getD_mono (d := 0) (f := id) hp (m := (i + j) / 2) (m' := m) hm hl; simp only [id] at this; omega)
theorem bsF_mem {xs : List Int} (hp : xs.Pairwise (· < ·)) (t : Int) : bsF xs t = true ↔ t ∈ xs := by
  obtain ⟨h1, h2, h3⟩ := bsGo_law hp t xs.length 0 xs.length (Nat.zero_le _) (Nat.le_refl _) (by omega) (fun m hm => by omega) (fun m hm hl => by omega)
  simp only [bsF, bsI, Bool.and_eq_true, decide_eq_true_eq, beq_iff_eq]
  constructor
  · rintro ⟨g1, g2⟩
    rw [← g2, List.getD_eq_getElem?_getD, List.getElem?_eq_getElem (of_decide_eq_true g1)]
    simp
  · intro hx
    obtain ⟨m, hm, rfl⟩ := List.mem_iff_getElem.1 hx
    have hg : xs.getD m 0 = xs[m] := by rw [List.getD_eq_getElem?_getD, List.getElem?_eq_getElem hm]; rfl
    have hle : bsGo xs xs[m] xs.length 0 xs.length ≤ m := by
      rcases Nat.lt_or_ge m (bsGo xs xs[m] xs.length 0 xs.length) with h | h
      · have := h2 m h; omega
      · exact h
    have hr : bsGo xs xs[m] xs.length 0 xs.length < xs.length := by omega
    refine ⟨decide_eq_true hr, ?_⟩
    have e1 := h3 _ (Nat.le_refl _) hr
    have e2 := getD_mono (d := 0) (f := id) hp hle hm
    simp only [id] at e2
    omega
theorem check_rises {c : Crew} (h : check c = 0) : c.nodes.Pairwise (· < ·) := by
  have : risesB 0 c.nodes = true := by
    cases hr : risesB 0 c.nodes with
    | true => rfl
    | false =>
      unfold check at h
      rw [hr] at h
      revert h
      cases (decide (c.faults < 0) || (decide (2 < c.faults) || ((c.nodes.length : Int) != IntKind.wrap .i64 (IntKind.wrap .i64 (3 * c.faults) + 1)))) <;> simp
  exact (rises_pw _ _ this).2
theorem check_nodup {c : Crew} (h : check c = 0) : c.nodes.Nodup := (check_rises h).imp (fun h => by omega)
theorem has_iff {c : Crew} (h : check c = 0) (n : Int) : has c n = true ↔ n ∈ c.nodes := by
  simp only [has, Bool.and_eq_true, beq_iff_eq, bsF_mem (check_rises h), h, true_and]
theorem idxG_get {α : Type} {p : α → Bool} : ∀ (l : List α) (k : Nat), (idxG p l k = -1 ∧ ∀ x ∈ l, p x = false) ∨ ∃ i x, idxG p l k = ((k + i : Nat) : Int) ∧ l[i]? = some x ∧ p x = true
  | [], k => .inl ⟨rfl, by simp⟩
  | x :: r, k => by
    cases hp : p x with
    | true => exact .inr ⟨0, x, by simp [idxG, hp], rfl, hp⟩
    | false =>
      simp only [idxG, hp, cond_false]
      rcases idxG_get r (k + 1) with ⟨h1, h2⟩ | ⟨i, y, h1, h2, h3⟩
      · exact .inl ⟨h1, fun y hy => (List.mem_cons.1 hy).elim (fun e => by rw [e]; exact hp) (h2 y)⟩
      · exact .inr ⟨i + 1, y, by rw [h1]; congr 1; omega, by simpa using h2, h3⟩
theorem placeI_get (l : List Int) (n : Int) : (placeI l n = -1 ∧ n ∉ l) ∨ ∃ i : Nat, placeI l n = (i : Int) ∧ l[i]? = some n := by
  rcases idxG_get (p := fun y => y == n) l 0 with ⟨h1, h2⟩ | ⟨i, x, h1, h2, h3⟩
  · exact .inl ⟨h1, fun hm => by have := h2 n hm; simp at this⟩
  · have : x = n := by simpa using h3
    subst this
    exact .inr ⟨i, by rw [placeI, h1]; simp, h2⟩
theorem placeI_at {l : List Int} (hn : l.Nodup) {k : Nat} {n : Int} (h : l[k]? = some n) : placeI l n = (k : Int) := by
  rcases placeI_get l n with ⟨_, h2⟩ | ⟨i, h1, h2⟩
  · exact (h2 (List.mem_of_getElem? h)).elim
  · have hk := (List.getElem?_eq_some_iff.1 h).1
    have := (List.getElem?_inj hk hn).1 (h.trans h2.symm)
    rw [h1, this]
theorem place_lt {l : List Int} (n : Int) : decide (placeI l n < 0) = !decide (n ∈ l) := by
  rw [Bool.eq_iff_iff]
  rcases placeI_get l n with ⟨h1, h2⟩ | ⟨i, h1, h2⟩
  · simp [h1, h2]
  · have := List.mem_of_getElem? h2
    simp [h1, this]
/-! ### Rising lists -/
abbrev Ris (l : List Mark) : Prop := l.Pairwise (fun a b => a.seq < b.seq)
theorem bfGo_law {xs : List Mark} (hp : Ris xs) (t : Int) : ∀ (f i j : Nat), i ≤ j → j ≤ xs.length → j ≤ i + f → (∀ m, m < i → (xs.getD m default).seq < t) → (∀ m, j ≤ m → m < xs.length → t ≤ (xs.getD m default).seq) →
    bfGo (fun a => decide (cmpI a.seq t < 0)) xs f i j ≤ xs.length ∧ (∀ m, m < bfGo (fun a => decide (cmpI a.seq t < 0)) xs f i j → (xs.getD m default).seq < t) ∧ (∀ m, bfGo (fun a => decide (cmpI a.seq t < 0)) xs f i j ≤ m → m < xs.length → t ≤ (xs.getD m default).seq)
  | 0, i, j, h1, h2, h3, h4, h5 => by
    have : i = j := by omega
    subst this
    exact ⟨h2, h4, h5⟩
  | f + 1, i, j, h1, h2, h3, h4, h5 => by
    simp only [bfGo]
    cases hij : decide (i < j) with
    | false =>
      have : i = j := by have := of_decide_eq_false hij; omega
      subst this
      exact ⟨h2, h4, h5⟩
    | true =>
      have hij := of_decide_eq_true hij
      simp only [cond_true]
      cases hc : decide (cmpI (xs.getD ((i + j) / 2) default).seq t < 0) with
      | true =>
        have hc : (xs.getD ((i + j) / 2) default).seq < t := by
          have := of_decide_eq_true hc; unfold cmpI at this; split at this
          · assumption
          · split at this <;> omega
        simp only [cond_true]
        exact bfGo_law hp t f _ j (by omega) h2 (by omega) (fun m hm => by have := getD_mono (d := default) hp (m := m) (m' := (i + j) / 2) (by omega) (by omega); omega) h5
      | false =>
        have hc : t ≤ (xs.getD ((i + j) / 2) default).seq := by
          have := of_decide_eq_false hc; unfold cmpI at this; split at this
          · omega
          · omega
        simp only [cond_false]
        exact bfGo_law hp t f i _ (by omega) (by omega) (by omega) h4 (fun m hm hl => by have := getD_mono (d := default) hp (m := (i + j) / 2) (m' := m) hm hl; omega)
abbrev bI (l : List Mark) (t : Int) : Nat := bfI (fun a => decide (cmpI a.seq t < 0)) l
theorem bI_split {l : List Mark} (hp : Ris l) (t : Int) : (∀ y ∈ l.take (bI l t), y.seq < t) ∧ (∀ y ∈ l.drop (bI l t), t ≤ y.seq) ∧ bI l t ≤ l.length := by
  obtain ⟨h1, h2, h3⟩ := bfGo_law hp t l.length 0 l.length (Nat.zero_le _) (Nat.le_refl _) (by omega) (fun m hm => by omega) (fun m hm hl => by omega)
  have key : ∀ m (hm : m < l.length), l.getD m default = l[m] := fun m hm => by rw [List.getD_eq_getElem?_getD, List.getElem?_eq_getElem hm]; rfl
  refine ⟨fun y hy => ?_, fun y hy => ?_, h1⟩
  · obtain ⟨m, hm, rfl⟩ := List.mem_iff_getElem.1 hy
    rw [List.length_take] at hm
    rw [List.getElem_take, ← key m (by omega)]
    exact h2 m (by show m < bI l t; omega)
  · obtain ⟨m, hm, rfl⟩ := List.mem_iff_getElem.1 hy
    rw [List.length_drop] at hm
    rw [List.getElem_drop, ← key (bI l t + m) (by omega)]
    exact h3 _ (by show bI l t ≤ bI l t + m; omega) (by omega)
theorem rvGo_pre (x : Mark) : ∀ (a b out : List Mark), (∀ y ∈ a, y.seq < x.seq) → rvGo x (a ++ b) out false = rvGo x b (out ++ a) false
  | [], b, out, _ => by simp
  | y :: a, b, out, h => by
    have h1 := h y (by simp)
    have e1 : (y.seq == x.seq) = false := by simp; omega
    have e2 : decide (x.seq < y.seq) = false := by simp; omega
    rw [List.cons_append]
    simp only [rvGo, e1, e2, cond_false, Bool.and_false]
    rw [rvGo_pre x a b _ (fun z hz => h z (by simp [hz]))]
    simp
theorem rvGo_post (x : Mark) : ∀ (a out : List Mark), (∀ y ∈ a, x.seq < y.seq) → rvGo x a out true = (none, out ++ a)
  | [], out, _ => by simp [rvGo]
  | y :: a, out, h => by
    have h1 := h y (by simp)
    have e1 : (y.seq == x.seq) = false := by simp; omega
    simp only [rvGo, e1, cond_false, Bool.not_true, Bool.false_and]
    rw [rvGo_post x a _ (fun z hz => h z (by simp [hz]))]
    simp
theorem rvGo_law {l : List Mark} (hp : Ris l) (x : Mark) : rvGo x l [] false =
    bif bfF (fun g_x0 g_x1 => cmpI g_x0.seq g_x1) l x.seq then (some (bif !decide (l.getD (bI l x.seq) default = x) then 151 else 0), []) else (none, insA l (bI l x.seq) x) := by
  obtain ⟨h1, h2, h3⟩ := bI_split hp x.seq
  have hs : l = l.take (bI l x.seq) ++ l.drop (bI l x.seq) := (List.take_append_drop _ _).symm
  have e0 : rvGo x l [] false = rvGo x (l.drop (bI l x.seq)) (l.take (bI l x.seq)) false := by
    have := rvGo_pre x (l.take (bI l x.seq)) (l.drop (bI l x.seq)) [] h1
    rw [← hs, List.nil_append] at this
    exact this
  rw [e0]
  cases hd : l.drop (bI l x.seq) with
  | nil =>
    have hl : ¬ bI l x.seq < l.length := by have := List.drop_eq_nil_iff.1 hd; omega
    have hb : bfF (fun g_x0 g_x1 => cmpI g_x0.seq g_x1) l x.seq = false := by
      unfold bfF
      rw [show bfI (fun a => decide (cmpI a.seq x.seq < 0)) l = bI l x.seq from rfl]
      simp [hl]
    rw [hb]
    simp [rvGo, insA, hd]
  | cons y r =>
    have hl : bI l x.seq < l.length := by
      rcases Nat.lt_or_ge (bI l x.seq) l.length with h | h
      · exact h
      · rw [List.drop_eq_nil_of_le h] at hd; cases hd
    have hy : l.getD (bI l x.seq) default = y := by
      have : (l.drop (bI l x.seq))[0]? = some y := by rw [hd]; rfl
      rw [List.getElem?_drop, Nat.add_zero] at this
      simp [List.getD_eq_getElem?_getD, this]
    have hge : x.seq ≤ y.seq := h2 y (by rw [hd]; simp)
    have hr : Ris (y :: r) := by rw [← hd]; exact hp.sublist (List.drop_sublist _ _)
    have hrest : ∀ z ∈ r, y.seq < z.seq := (List.pairwise_cons.1 hr).1
    by_cases he : y.seq = x.seq
    · have hb : bfF (fun g_x0 g_x1 => cmpI g_x0.seq g_x1) l x.seq = true := by
        unfold bfF
        rw [show bfI (fun a => decide (cmpI a.seq x.seq < 0)) l = bI l x.seq from rfl, hy]
        simp [hl, he, cmpI]
      rw [hb]
      have e1 : (y.seq == x.seq) = true := by simpa using he
      simp only [rvGo, e1, cond_true, hy]
      congr 4
      rw [Bool.eq_iff_iff]
      cases y; cases x
      simp only [] at he
      subst he
      simp
    · have hb : bfF (fun g_x0 g_x1 => cmpI g_x0.seq g_x1) l x.seq = false := by
        unfold bfF
        rw [show bfI (fun a => decide (cmpI a.seq x.seq < 0)) l = bI l x.seq from rfl, hy]
        have : ¬ cmpI y.seq x.seq = 0 := by unfold cmpI; (repeat split) <;> omega
        simp [this]
      rw [hb]
      have e1 : (y.seq == x.seq) = false := by simpa using he
      have e2 : decide (x.seq < y.seq) = true := by simp; omega
      simp only [rvGo, e1, e2, cond_false, cond_true, Bool.not_false, Bool.and_self]
      rw [rvGo_post x r _ (fun z hz => by have := hrest z hz; omega)]
      simp [insA, hd]
theorem insA_ris {l : List Mark} (hp : Ris l) {x : Mark} (hb : bfF (fun g_x0 g_x1 => cmpI g_x0.seq g_x1) l x.seq = false) : Ris (insA l (bI l x.seq) x) := by
  obtain ⟨h1, h2, h3⟩ := bI_split hp x.seq
  have hne : ∀ y ∈ l.drop (bI l x.seq), x.seq < y.seq := by
    cases hd : l.drop (bI l x.seq) with
    | nil => simp
    | cons y r =>
      have hl : bI l x.seq < l.length := by
        rcases Nat.lt_or_ge (bI l x.seq) l.length with h | h
        · exact h
        · rw [List.drop_eq_nil_of_le h] at hd; cases hd
      have hy : l.getD (bI l x.seq) default = y := by
        have : (l.drop (bI l x.seq))[0]? = some y := by rw [hd]; rfl
        rw [List.getElem?_drop, Nat.add_zero] at this
        simp [List.getD_eq_getElem?_getD, this]
      have hge : x.seq ≤ y.seq := h2 y (by rw [hd]; simp)
      have hr : Ris (y :: r) := by rw [← hd]; exact hp.sublist (List.drop_sublist _ _)
      have hrest : ∀ z ∈ r, y.seq < z.seq := (List.pairwise_cons.1 hr).1
      have hney : y.seq ≠ x.seq := by
        intro he
        unfold bfF at hb
        rw [show bfI (fun a => decide (cmpI a.seq x.seq < 0)) l = bI l x.seq from rfl, hy] at hb
        simp [hl, he, cmpI] at hb
      intro z hz
      rcases List.mem_cons.1 hz with rfl | hz
      · omega
      · have := hrest z hz; omega
  unfold insA Ris
  rw [List.pairwise_append, List.cons_append, List.nil_append, List.pairwise_cons]
  refine ⟨hp.sublist (List.take_sublist _ _), ⟨hne, hp.sublist (List.drop_sublist _ _)⟩, fun a ha b hb => ?_⟩
  have := h1 a ha
  rcases List.mem_cons.1 hb with rfl | hb
  · exact this
  · have := hne b hb; omega
theorem cut_same {l : List Mark} (h : l.length ≤ 5) : cut4 l = cut1 l := by
  unfold cut4 cut1
  by_cases h5 : 4 < l.length
  · have : l.length - 4 = 1 := by omega
    have e : decide ((4 : Int) < ((l.length : Nat) : Int)) = true := by simp; omega
    rw [e, this]; rfl
  · have : l.length - 4 = 0 := by omega
    have e : decide ((4 : Int) < ((l.length : Nat) : Int)) = false := by simp; omega
    rw [e, this]; rfl
/-! ### Both tell the same -/
structure Rel (m : MSt) (r : RSt) : Prop where
  crew : m.crew = r.crew
  low : m.low = r.mark
  ok : check r.crew = 0
  nd : (m.list.map (·.1)).Nodup
  im : MInv m
  ir : RInv r
  of : ∀ n, (mget m.list n).getD [] = rofL r n
  ris : ∀ n, Ris (rofL r n)
theorem rofL_set {r : RSt} {n k : Int} {y : List Mark} (hc : check r.crew = 0) (ir : RInv r) (hn : n ∈ r.crew.nodes) :
    rofL ⟨r.crew, r.mark, r.l.set (placeI r.crew.nodes n).toNat y⟩ k = if n = k then y else rofL r k := by
  have hnd := check_nodup hc
  rcases placeI_get r.crew.nodes n with ⟨_, h2⟩ | ⟨i, h1, h2⟩
  · exact (h2 hn).elim
  have hil : i < r.l.length := by rw [ir.1]; exact (List.getElem?_eq_some_iff.1 h2).1
  unfold rofL
  simp only []
  by_cases hk : n = k
  · subst hk
    rw [h1]
    simp [List.getD_eq_getElem?_getD, List.getElem?_set, hil]
  · rw [if_neg hk]
    rcases placeI_get r.crew.nodes k with ⟨g1, g2⟩ | ⟨j, g1, g2⟩
    · simp [g1]
    · have hij : i ≠ j := by
        rintro rfl
        rw [h2] at g2
        exact hk (Option.some.inj g2)
      rw [g1, h1]
      simp only [Int.toNat_natCast]
      simp [List.getD_eq_getElem?_getD, List.getElem?_set, hij]
theorem ris_cut4 {l : List Mark} (h : Ris l) : Ris (cut4 l) := h.sublist (List.drop_sublist _ _)
theorem vote_rel {m : MSt} {r : RSt} (h : Rel m r) (n : Int) (x : Mark) : (voteM m n x).2 = (rvoteM r n x).2 ∧ Rel (voteM m n x).1 (rvoteM r n x).1 := by
  have hp : decide (placeI r.crew.nodes n < 0) = !has m.crew n := by
    rw [place_lt, h.crew]
    congr 1
    rw [Bool.eq_iff_iff, has_iff h.ok]; simp
  unfold voteM rvoteM
  rw [hp, h.low]
  cases hh : has m.crew n with
  | false => exact ⟨rfl, h⟩
  | true =>
    simp only [Bool.not_true, cond_false]
    cases h1 : decide (x.seq ≤ r.mark.seq) with
    | true => exact ⟨rfl, h⟩
    | false =>
      simp only [cond_false]
      cases h2 : mayB x.seq with
      | false => exact ⟨rfl, h⟩
      | true =>
        simp only [Bool.not_true, cond_false]
        have hn : n ∈ r.crew.nodes := by rw [← h.crew]; exact has_mem hh
        have hl : r.l.getD (placeI r.crew.nodes n).toNat [] = rofL r n := by
          unfold rofL
          rcases placeI_get r.crew.nodes n with ⟨_, g2⟩ | ⟨i, g1, g2⟩
          · exact (g2 hn).elim
          · rw [g1]; simp
        rw [hl, rvGo_law (h.ris n), h.of n]
        cases hb : bfF (fun g_x0 g_x1 => cmpI g_x0.seq g_x1) (rofL r n) x.seq with
        | true => exact ⟨rfl, h⟩
        | false =>
          simp only [cond_false]
          have h4 : (rofL r n).length ≤ 4 := by rw [← h.of n]; exact h.im.get n
          have h5 : (insA (rofL r n) (bI (rofL r n) x.seq) x).length ≤ 5 := by rw [insA_len]; omega
          have hc4 := cut4_le (insA (rofL r n) (bI (rofL r n) x.seq) x)
          refine ⟨trivial, ⟨h.crew, rfl, h.ok, mput_nodup _ _ h.nd, ?_, ?_, fun k => ?_, fun k => ?_⟩⟩
          · have := minv_put h.im hh hc4
            rw [h.low] at this; exact this
          · exact rinv_set h.ir (by rw [← cut_same h5]; exact hc4)
          · rw [rofL_set h.ok h.ir hn]
            show (mget (mput m.list n (cut4 (insA (rofL r n) (bI (rofL r n) x.seq) x))) k).getD [] = _
            rw [mget_mput]
            by_cases hk : n = k
            · rw [if_pos hk, if_pos hk, ← cut_same h5]; rfl
            · rw [if_neg hk, if_neg hk]; exact h.of k
          · rw [rofL_set h.ok h.ir hn]
            split
            · rw [← cut_same h5]; exact ris_cut4 (insA_ris (h.ris n) hb)
            · exact h.ris k
theorem mget_map {l : List (Int × List Mark)} {f : List Mark → List Mark} {n : Int} : mget (l.map (fun p => (p.1, f p.2))) n = (mget l n).map f := by
  induction l with
  | nil => rfl
  | cons p r ih =>
    by_cases hp : p.1 = n
    · simp [mget, hp]
    · simp only [List.map_cons, mget, hp, if_false]; exact ih
theorem filt_rfilt (x : Mark) (l : List Mark) : filt x l = rfilt x l := by
  unfold filt rfilt
  apply List.filter_congr
  intro a _
  rw [Bool.eq_iff_iff]; simp
theorem raise_rel {m : MSt} {r : RSt} (h : Rel m r) (x : Mark) : (raiseM m x).2 = (rraiseM r x).2 ∧ Rel (raiseM m x).1 (rraiseM r x).1 := by
  unfold raiseM rraiseM
  rw [h.low]
  cases h1 : decide (x.seq < r.mark.seq) with
  | true => exact ⟨rfl, h⟩
  | false =>
    simp only [cond_false]
    cases h2 : mayB x.seq with
    | false => exact ⟨rfl, h⟩
    | true =>
      simp only [Bool.not_true, cond_false]
      have hof : ∀ n, rofL ⟨r.crew, x, r.l.map (rfilt x)⟩ n = rfilt x (rofL r n) := fun n => by
        unfold rofL
        simp only []
        cases decide (0 ≤ placeI r.crew.nodes n) with
        | false => rfl
        | true =>
          simp only [cond_true, List.getD_eq_getElem?_getD, List.getElem?_map]
          cases r.l[(placeI r.crew.nodes n).toNat]? <;> rfl
      refine ⟨trivial, ⟨h.crew, rfl, h.ok, ?_, fun p hp => ?_, ⟨by simpa using h.ir.1, fun y hy => ?_⟩, fun n => ?_, fun n => ?_⟩⟩
      · rw [List.map_map]; exact h.nd
      · obtain ⟨q, hq, rfl⟩ := List.mem_map.1 hp
        have h1 : (filt x q.2).length ≤ q.2.length := List.length_filter_le _ _
        have h2 := h.im q hq
        exact ⟨Nat.le_trans h1 h2.1, h2.2⟩
      · obtain ⟨z, hz, rfl⟩ := List.mem_map.1 hy
        have h1 : (rfilt x z).length ≤ z.length := List.length_filter_le _ _
        exact Nat.le_trans h1 (h.ir.2 z hz)
      · rw [hof, ← h.of n]
        show (mget (m.list.map (fun p => (p.1, filt x p.2))) n).getD [] = _
        rw [mget_map]
        cases mget m.list n with
        | none => rfl
        | some y => exact filt_rfilt x y
      · rw [hof]; exact (h.ris n).sublist List.filter_sublist
theorem new_rel {c : Crew} {low : Mark} (h : newOk c low = true) : Rel ⟨c, low, []⟩ ⟨c, low, List.replicate c.nodes.length []⟩ := by
  have hk := newOk_1 h
  have hof : ∀ n, rofL ⟨c, low, List.replicate c.nodes.length []⟩ n = [] := fun n => by
    unfold rofL
    simp only []
    cases decide (0 ≤ placeI c.nodes n) with
    | false => rfl
    | true =>
      simp only [cond_true, List.getD_eq_getElem?_getD, List.getElem?_replicate]
      split <;> rfl
  exact ⟨rfl, rfl, by simpa using hk, by simp, newinv hk, rnewinv hk, fun n => (hof n).symm, fun n => by rw [hof]; exact .nil⟩
theorem sum_by {g : List Mark → Nat} (g0 : g [] = 0) : ∀ (l : List (Int × List Mark)) (ns : List Int), (l.map (·.1)).Nodup → ns.Nodup → (∀ p ∈ l, p.1 ∈ ns) → (ns.map (fun n => g ((mget l n).getD []))).sum = (l.map (fun p => g p.2)).sum
  | [], ns, _, _, _ => by
    have : ns.map (fun n => g ((mget ([] : List (Int × List Mark)) n).getD [])) = ns.map (fun _ => 0) := List.map_congr_left (fun n _ => by simp [mget, g0])
    rw [this]
    have : ∀ k : List Int, (k.map (fun _ => 0)).sum = 0 := fun k => by induction k with | nil => rfl | cons a r ih => simpa using ih
    rw [this]; rfl
  | p :: r, ns, hl, hn, hs => by
    rw [List.map_cons, List.nodup_cons] at hl
    have hp := hs p (by simp)
    have ih := sum_by g0 r ns hl.2 hn (fun q hq => hs q (by simp [hq]))
    have hperm := List.perm_cons_erase hp
    have hnp : p.1 ∉ ns.erase p.1 := by rw [hn.mem_erase_iff]; exact fun h => h.1 rfl
    have e1 : (ns.map (fun n => g ((mget (p :: r) n).getD []))).sum = g p.2 + ((ns.erase p.1).map (fun n => g ((mget r n).getD []))).sum := by
      rw [(hperm.map _).sum_nat, List.map_cons, List.sum_cons]
      congr 1
      · simp [mget]
      · congr 1
        apply List.map_congr_left
        intro n hne
        have : p.1 ≠ n := fun e => hnp (e.symm ▸ hne)
        simp [mget, this]
    have e2 : (ns.map (fun n => g ((mget r n).getD []))).sum = ((ns.erase p.1).map (fun n => g ((mget r n).getD []))).sum := by
      rw [(hperm.map _).sum_nat, List.map_cons, List.sum_cons]
      have : mget r p.1 = none := mget_none hl.1
      rw [this]; simp [g0]
    rw [e1, ← e2, ih, List.map_cons, List.sum_cons]
theorem l_by {r : RSt} (hc : check r.crew = 0) (ir : RInv r) : r.l = r.crew.nodes.map (rofL r) := by
  apply List.ext_getElem?
  intro i
  rw [List.getElem?_map]
  by_cases hi : i < r.crew.nodes.length
  · have hx : r.crew.nodes[i]? = some r.crew.nodes[i] := List.getElem?_eq_getElem hi
    have hl : r.l[i]? = some (r.l[i]'(by rw [ir.1]; exact hi)) := List.getElem?_eq_getElem (by rw [ir.1]; exact hi)
    rw [hx, Option.map_some, hl]
    congr 1
    unfold rofL
    rw [placeI_at (check_nodup hc) hx]
    simp [List.getD_eq_getElem?_getD, hl]
  · rw [List.getElem?_eq_none (by rw [ir.1]; omega), List.getElem?_eq_none (by omega)]; rfl
theorem Rel.cnt {m : MSt} {r : RSt} (h : Rel m r) (x : Mark) : cntL (lists m) x = cntL r.l x := by
  have e1 := sum_by (g := fun l => l.countP (fun y => decide (y = x))) rfl m.list r.crew.nodes h.nd (check_nodup h.ok) (fun p hp => by rw [← h.crew]; exact (h.im p hp).2)
  unfold cntL lists
  rw [List.map_map]
  rw [show ((fun l => List.countP (fun y => decide (y = x)) l) ∘ fun p : Int × List Mark => p.2) = (fun p => List.countP (fun y => decide (y = x)) p.2) from rfl, ← e1, l_by h.ok h.ir, List.map_map]
  congr 1
  apply List.map_congr_left
  intro n _
  simp only [Function.comp]
  rw [h.of n]
theorem gR_cnt {a b : List (List Mark)} (h : ∀ x, cntL a x = cntL b x) (many : Int) : gR a many = gR b many := by
  unfold gR
  have : mayG a many = mayG b many := by funext x; unfold mayG; rw [h]
  rw [this]
  exact gR_same (fun x => by rw [← cntL_pos, ← cntL_pos, h])
theorem Rel.gr {m : MSt} {r : RSt} (h : Rel m r) (many : Int) : gR (lists m) many = gR r.l many := gR_cnt h.cnt many
end Go.Proofs.Ytbmanooiphghmaa
