/- The laws of marks: what the code has and what the document has, call by call. No condition. -/
import Derived.Test.YtbmanooiphghmaaMkG9
set_option linter.all false
set_option linter.unusedSimpArgs false
namespace Go.Proofs.Ytbmanooiphghmaa
open Go Go.Gx
theorem rises_pw : ∀ (xs : List Int) (l : Int), risesB l xs = true → (∀ x ∈ xs, l < x) ∧ xs.Pairwise (· < ·)
  | [], _, _ => ⟨by simp, .nil⟩
  | x :: r, l, h => by
    simp only [risesB] at h
    cases hx : decide (x ≤ l) || !nodeB x with
    | true => rw [hx] at h; cases h
    | false =>
      rw [hx] at h
      obtain ⟨h1, h2⟩ := rises_pw r x h
      have hlx : l < x := by simp at hx; omega
      refine ⟨fun y hy => ?_, .cons h1 h2⟩
      rcases List.mem_cons.1 hy with rfl | hy
      · exact hlx
      · have := h1 y hy; omega
theorem getD_mono {α : Type} {d : α} {f : α → Int} {xs : List α} (hp : xs.Pairwise (fun a b => f a < f b)) {m m' : Nat} (h : m ≤ m') (h' : m' < xs.length) : f (xs.getD m d) ≤ f (xs.getD m' d) := by
  rw [List.getD_eq_getElem?_getD, List.getD_eq_getElem?_getD, List.getElem?_eq_getElem h', List.getElem?_eq_getElem (by omega)]
  simp only [Option.getD_some]
  by_cases he : m = m'
  · subst he; omega
  · have := (List.pairwise_iff_getElem.1 hp) m m' (by omega) h' (by omega); omega
theorem bsGo_law {xs : List Int} (hp : xs.Pairwise (· < ·)) (t : Int) : ∀ (f i j : Nat), i ≤ j → j ≤ xs.length → j ≤ i + f → (∀ m, m < i → xs.getD m 0 < t) → (∀ m, j ≤ m → m < xs.length → t ≤ xs.getD m 0) →
    bsGo xs t f i j ≤ xs.length ∧ (∀ m, m < bsGo xs t f i j → xs.getD m 0 < t) ∧ (∀ m, bsGo xs t f i j ≤ m → m < xs.length → t ≤ xs.getD m 0)
  | 0, i, j, h1, h2, h3, h4, h5 => by
    have : i = j := by omega
    subst this
    exact ⟨h2, h4, h5⟩
  | f + 1, i, j, h1, h2, h3, h4, h5 => by
    simp only [bsGo]
    cases hij : decide (i < j) with
    | false =>
      have : i = j := by have := of_decide_eq_false hij; omega
      subst this
      exact ⟨h2, h4, h5⟩
    | true =>
      have hij := of_decide_eq_true hij
      simp only [cond_true]
      cases hc : decide (xs.getD ((i + j) / 2) 0 < t) with
      | true =>
        have hc := of_decide_eq_true hc
        simp only [cond_true]
        exact bsGo_law hp t f _ j (by omega) h2 (by omega) (fun m hm => by have := getD_mono (d := 0) (f := id) hp (m := m) (m' := (i + j) / 2) (by omega) (by omega); simp only [id] at this; omega) h5
      | false =>
        have hc := of_decide_eq_false hc
        simp only [cond_false]
        exact bsGo_law hp t f i _ (by omega) (by omega) (by omega) h4 (fun m hm hl => by have := getD_mono (d := 0) (f := id) hp (m := (i + j) / 2) (m' := m) hm hl; simp only [id] at this; omega)
theorem bsF_mem {xs : List Int} (hp : xs.Pairwise (· < ·)) (t : Int) : bsF xs t = true ↔ t ∈ xs := by
  obtain ⟨h1, h2, h3⟩ := bsGo_law hp t xs.length 0 xs.length (Nat.zero_le _) (Nat.le_refl _) (by omega) (fun m hm => by omega) (fun m hm hl => by omega)
  simp only [bsF, bsI, Bool.and_eq_true, decide_eq_true_eq, beq_iff_eq]
  constructor
  · rintro ⟨g1, g2⟩
    rw [← g2, List.getD_eq_getElem?_getD, List.getElem?_eq_getElem (of_decide_eq_true g1)]
    simp
  · intro hx
    obtain ⟨m, hm, rfl⟩ := List.mem_iff_getElem.1 hx
    have hg : xs.getD m 0 = xs[m] := by rw [List.getD_eq_getElem?_getD, List.getElem?_eq_getElem hm]; rfl
    have hle : bsGo xs xs[m] xs.length 0 xs.length ≤ m := by
      rcases Nat.lt_or_ge m (bsGo xs xs[m] xs.length 0 xs.length) with h | h
      · have := h2 m h; omega
      · exact h
    have hr : bsGo xs xs[m] xs.length 0 xs.length < xs.length := by omega
    refine ⟨decide_eq_true hr, ?_⟩
    have e1 := h3 _ (Nat.le_refl _) hr
    have e2 := getD_mono (d := 0) (f := id) hp hle hm
    simp only [id] at e2
    omega
theorem check_rises {c : Crew} (h : check c = 0) : c.nodes.Pairwise (· < ·) := by
  have : risesB 0 c.nodes = true := by
    cases hr : risesB 0 c.nodes with
    | true => rfl
    | false =>
      unfold check at h
      rw [hr] at h
      revert h
      cases (decide (c.faults < 0) || (decide (2 < c.faults) || ((c.nodes.length : Int) != IntKind.wrap .i64 (IntKind.wrap .i64 (3 * c.faults) + 1)))) <;> simp
  exact (rises_pw _ _ this).2
theorem check_nodup {c : Crew} (h : check c = 0) : c.nodes.Nodup := (check_rises h).imp (fun h => by omega)
theorem has_iff {c : Crew} (h : check c = 0) (n : Int) : has c n = true ↔ n ∈ c.nodes := by
  simp only [has, Bool.and_eq_true, beq_iff_eq, bsF_mem (check_rises h), h, true_and]
/-! ### Rising lists -/
abbrev Ris (l : List Mark) : Prop := l.Pairwise (fun a b => a.seq < b.seq)
theorem bfGo_law {xs : List Mark} (hp : Ris xs) (t : Int) : ∀ (f i j : Nat), i ≤ j → j ≤ xs.length → j ≤ i + f → (∀ m, m < i → (xs.getD m default).seq < t) → (∀ m, j ≤ m → m < xs.length → t ≤ (xs.getD m default).seq) →
    bfGo (fun a => decide (cmpI a.seq t < 0)) xs f i j ≤ xs.length ∧ (∀ m, m < bfGo (fun a => decide (cmpI a.seq t < 0)) xs f i j → (xs.getD m default).seq < t) ∧ (∀ m, bfGo (fun a => decide (cmpI a.seq t < 0)) xs f i j ≤ m → m < xs.length → t ≤ (xs.getD m default).seq)
  | 0, i, j, h1, h2, h3, h4, h5 => by
    have : i = j := by omega
    subst this
    exact ⟨h2, h4, h5⟩
  | f + 1, i, j, h1, h2, h3, h4, h5 => by
    simp only [bfGo]
    cases hij : decide (i < j) with
    | false =>
      have : i = j := by have := of_decide_eq_false hij; omega
      subst this
      exact ⟨h2, h4, h5⟩
    | true =>
      have hij := of_decide_eq_true hij
      simp only [cond_true]
      cases hc : decide (cmpI (xs.getD ((i + j) / 2) default).seq t < 0) with
      | true =>
        have hc : (xs.getD ((i + j) / 2) default).seq < t := by
          have := of_decide_eq_true hc; unfold cmpI at this; split at this
          · assumption
          · split at this <;> omega
        simp only [cond_true]
        exact bfGo_law hp t f _ j (by omega) h2 (by omega) (fun m hm => by have := getD_mono (d := default) hp (m := m) (m' := (i + j) / 2) (by omega) (by omega); omega) h5
      | false =>
        have hc : t ≤ (xs.getD ((i + j) / 2) default).seq := by
          have := of_decide_eq_false hc; unfold cmpI at this; split at this
          · omega
          · omega
        simp only [cond_false]
        exact bfGo_law hp t f i _ (by omega) (by omega) (by omega) h4 (fun m hm hl => by have := getD_mono (d := default) hp (m := (i + j) / 2) (m' := m) hm hl; omega)
abbrev bI (l : List Mark) (t : Int) : Nat := bfI (fun a => decide (cmpI a.seq t < 0)) l
theorem bI_split {l : List Mark} (hp : Ris l) (t : Int) : (∀ y ∈ l.take (bI l t), y.seq < t) ∧ (∀ y ∈ l.drop (bI l t), t ≤ y.seq) ∧ bI l t ≤ l.length := by
  obtain ⟨h1, h2, h3⟩ := bfGo_law hp t l.length 0 l.length (Nat.zero_le _) (Nat.le_refl _) (by omega) (fun m hm => by omega) (fun m hm hl => by omega)
  have key : ∀ m (hm : m < l.length), l.getD m default = l[m] := fun m hm => by rw [List.getD_eq_getElem?_getD, List.getElem?_eq_getElem hm]; rfl
  refine ⟨fun y hy => ?_, fun y hy => ?_, h1⟩
  · obtain ⟨m, hm, rfl⟩ := List.mem_iff_getElem.1 hy
    rw [List.length_take] at hm
    rw [List.getElem_take, ← key m (by omega)]
    exact h2 m (by show m < bI l t; omega)
  · obtain ⟨m, hm, rfl⟩ := List.mem_iff_getElem.1 hy
    rw [List.length_drop] at hm
    rw [List.getElem_drop, ← key (bI l t + m) (by omega)]
    exact h3 _ (by show bI l t ≤ bI l t + m; omega) (by omega)
theorem insA_ris {l : List Mark} (hp : Ris l) {x : Mark} (hb : bfF (fun g_x0 g_x1 => cmpI g_x0.seq g_x1) l x.seq = false) : Ris (insA l (bI l x.seq) x) := by
  obtain ⟨h1, h2, h3⟩ := bI_split hp x.seq
  have hne : ∀ y ∈ l.drop (bI l x.seq), x.seq < y.seq := by
    cases hd : l.drop (bI l x.seq) with
    | nil => simp
    | cons y r =>
      have hl : bI l x.seq < l.length := by
        rcases Nat.lt_or_ge (bI l x.seq) l.length with h | h
        · exact h
        · rw [List.drop_eq_nil_of_le h] at hd; cases hd
      have hy : l.getD (bI l x.seq) default = y := by
        have : (l.drop (bI l x.seq))[0]? = some y := by rw [hd]; rfl
        rw [List.getElem?_drop, Nat.add_zero] at this
        simp [List.getD_eq_getElem?_getD, this]
      have hge : x.seq ≤ y.seq := h2 y (by rw [hd]; simp)
      have hr : Ris (y :: r) := by rw [← hd]; exact hp.sublist (List.drop_sublist _ _)
      have hrest : ∀ z ∈ r, y.seq < z.seq := (List.pairwise_cons.1 hr).1
      have hney : y.seq ≠ x.seq := by
        intro he
        unfold bfF at hb
        rw [show bfI (fun a => decide (cmpI a.seq x.seq < 0)) l = bI l x.seq from rfl, hy] at hb
        simp [hl, he, cmpI] at hb
      intro z hz
      rcases List.mem_cons.1 hz with rfl | hz
      · omega
      · have := hrest z hz; omega
  unfold insA Ris
  rw [List.pairwise_append, List.cons_append, List.nil_append, List.pairwise_cons]
  refine ⟨hp.sublist (List.take_sublist _ _), ⟨hne, hp.sublist (List.drop_sublist _ _)⟩, fun a ha b hb => ?_⟩
  have := h1 a ha
  rcases List.mem_cons.1 hb with rfl | hb
  · exact this
  · have := hne b hb; omega
/-! ### Both tell the same -/
structure Rel (m : MSt) (r : RSt) : Prop where
  crew : m.crew = r.crew
  low : m.low = r.mark
  ok : check r.crew = 0
  nd : (m.list.map (·.1)).Nodup
  im : MInv m
  ir : RInv r
  of : ∀ n, (mget m.list n).getD [] = rofL r n
  ris : ∀ n, Ris (rofL r n)
theorem ris_cut4 {l : List Mark} (h : Ris l) : Ris (cut4 l) := h.sublist (List.drop_sublist _ _)
theorem sum_by {g : List Mark → Nat} (g0 : g [] = 0) : ∀ (l : List (Int × List Mark)) (ns : List Int), (l.map (·.1)).Nodup → ns.Nodup → (∀ p ∈ l, p.1 ∈ ns) → (ns.map (fun n => g ((mget l n).getD []))).sum = (l.map (fun p => g p.2)).sum
  | [], ns, _, _, _ => by
    have : ns.map (fun n => g ((mget ([] : List (Int × List Mark)) n).getD [])) = ns.map (fun _ => 0) := List.map_congr_left (fun n _ => by simp [mget, g0])
    rw [this]
    have : ∀ k : List Int, (k.map (fun _ => 0)).sum = 0 := fun k => by induction k with | nil => rfl | cons a r ih => simpa using ih
    rw [this]; rfl
  | p :: r, ns, hl, hn, hs => by
    rw [List.map_cons, List.nodup_cons] at hl
    have hp := hs p (by simp)
    have ih := sum_by g0 r ns hl.2 hn (fun q hq => hs q (by simp [hq]))
    have hperm := List.perm_cons_erase hp
    have hnp : p.1 ∉ ns.erase p.1 := by rw [hn.mem_erase_iff]; exact fun h => h.1 rfl
    have e1 : (ns.map (fun n => g ((mget (p :: r) n).getD []))).sum = g p.2 + ((ns.erase p.1).map (fun n => g ((mget r n).getD []))).sum := by
      rw [(hperm.map _).sum_nat, List.map_cons, List.sum_cons]
      congr 1
      · simp [mget]
      · congr 1
        apply List.map_congr_left
        intro n hne
        have : p.1 ≠ n := fun e => hnp (e.symm ▸ hne)
        simp [mget, this]
    have e2 : (ns.map (fun n => g ((mget r n).getD []))).sum = ((ns.erase p.1).map (fun n => g ((mget r n).getD []))).sum := by
      rw [(hperm.map _).sum_nat, List.map_cons, List.sum_cons]
      have : mget r p.1 = none := mget_none hl.1
      rw [this]; simp [g0]
    rw [e1, ← e2, ih, List.map_cons, List.sum_cons]
theorem gR_cnt {a b : List (List Mark)} (h : ∀ x, cntL a x = cntL b x) (many : Int) : gR a many = gR b many := by
  unfold gR
  have : mayG a many = mayG b many := by funext x; unfold mayG; rw [h]
  rw [this]
  exact gR_same (fun x => by rw [← cntL_pos, ← cntL_pos, h])
end Go.Proofs.Ytbmanooiphghmaa
