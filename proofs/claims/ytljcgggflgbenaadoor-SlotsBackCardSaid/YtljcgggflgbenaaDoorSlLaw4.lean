/- The laws of slots: what is restored. No condition. -/
import Derived.Test.YtljcgggflgbenaaDoorSlLaw3
set_option linter.all false
namespace Go.Proofs.YtljcgggflgbenaaDoor
open Go Go.Gx Go.RowKit
/-! ### What is proposed and heard in three views -/
structure BSlot (t : SlotS) (j v : Int) : Prop where
  q : QInv j t.q
  qv : ∀ a ∈ t.q, 0 ≤ a.view ∧ a.view < v ∧ ∃ b : UInt8, a.dig = digN (b &&& 3)
  last : (t.q = [] ∧ t.last = silence) ∨ t.q.getLast? = some (Stand.mk j t.last.dig t.last.view)
  prep : t.prep = silence ∨ (0 ≤ t.prep.view ∧ t.prep.view < v)
theorem BSlot.lastv {t : SlotS} {j v : Int} (h : BSlot t j v) (hv : 0 ≤ v) : t.last = silence ∨ (0 ≤ t.last.view ∧ t.last.view < v) := by
  rcases h.last with ⟨_, h1⟩ | h1
  · exact .inl h1
  · have := h.qv _ (List.mem_of_getLast? h1); exact .inr ⟨this.1, this.2.1⟩
theorem BSlot.mono {t : SlotS} {j v v' : Int} (h : BSlot t j v) (hv : v ≤ v') : BSlot t j v' :=
  ⟨h.q, fun a ha => ⟨(h.qv a ha).1, Int.lt_of_lt_of_le (h.qv a ha).2.1 hv, (h.qv a ha).2.2⟩, h.last, h.prep.imp id fun ⟨a, b⟩ => ⟨a, Int.lt_of_lt_of_le b hv⟩⟩
theorem b_look {c : Crew} {t : SlotS} {j v : Int} (hv : 0 ≤ v) (h : BSlot t j v) : BSlot (lookS c t) j v := by
  obtain ⟨f1, f2, f3, f4⟩ := lookS_fields c t
  refine ⟨by rw [f4]; exact h.q, by rw [f4]; exact h.qv, by rw [f4, f1]; exact h.last, ?_⟩
  unfold lookS
  cases readyI c t with
  | false => exact h.prep
  | true => exact h.lastv hv
theorem b_prop {t : SlotS} {j v : Int} {b : UInt8} (hv : 0 ≤ v ∧ v ≤ 1048576) (h : BSlot t j v) (c : Crew) : BSlot (propT c t j v (digN (b &&& 3))) j (v + 1) := by
  have hE : propE t v (digN (b &&& 3)) = 0 := by
    unfold propE goesI
    have hb : viewB v = true := by unfold viewB; simp [hv.1, hv.2]
    have hl : t.last.view < v := by
      rcases h.lastv hv.1 with h1 | h1
      · rw [h1]; show (-1 : Int) < v; omega
      · exact h1.2
    rw [hb, decide_eq_false (by omega : ¬ v < t.last.view), show (t.last.view == v) = false by simp; omega]; rfl
  obtain ⟨h1, h2⟩ := propQ_eq (v := v) (d := digN (b &&& 3)) h.q (fun a ha _ => (h.qv a ha).2.1)
  unfold propT propS
  rw [hE, h1]
  show BSlot (lookS c _) j (v + 1)
  refine b_look (by omega) ⟨h2, fun a ha => ?_, .inr (by simp), h.prep.imp id fun ⟨a, b⟩ => ⟨a, by simp only []; omega⟩⟩
  rcases List.mem_append.1 ha with ha | ha
  · have := h.qv a ((keepQ_sub _ _).subset ha); exact ⟨this.1, by omega, this.2.2⟩
  · rw [List.mem_singleton.1 ha]; exact ⟨hv.1, by simp only []; omega, b, rfl⟩
theorem b_say {f : Int} {c : Crew} {t : SlotS} {j v : Int} {x : Word} (hv : 0 ≤ v) (h : BSlot t j v) : BSlot (sayT f c t x) j v := by
  unfold sayT
  cases x.commits with
  | true =>
    rw [cond_true]; unfold comT
    cases comE c t (wN f x) (bringI x.view 3) (wD x) == 0 with
    | true => exact ⟨h.q, h.qv, h.last, h.prep⟩
    | false => exact h
  | false =>
    rw [cond_false]; unfold prepT
    cases prepE c t (wN f x) (bringI x.view 3) (wD x) == 0 with
    | true => exact b_look hv ⟨h.q, h.qv, h.last, h.prep⟩
    | false => exact h
structure BJ (s : SlS) (v : Int) : Prop where
  crew : s.crew = crewI 1
  low : s.low = 0
  at_ : ∀ j, 1 ≤ j → j ≤ 8 → ∃ t, s.f j = some t ∧ BSlot t j v
theorem bj_new : BJ (newSl (crewI 1) 0) 0 := by
  refine ⟨rfl, rfl, fun j a b => ⟨newS, by show f0 0 j = _; rw [f0_eq, if_pos (by omega)], ⟨QInv.nil j, fun a h => (by cases h), .inl ⟨rfl, rfl⟩, .inl rfl⟩⟩⟩
theorem bj_say {s : SlS} {f v : Int} {x : Word} (hv : 0 ≤ v) (h : BJ s v) : BJ (sayI s f x).1 v := by
  obtain ⟨t, ht, hT⟩ := h.at_ (wJ x) (wJ_in x).1 (wJ_in x).2
  rw [sayI_at ht]
  refine ⟨h.crew, h.low, fun j a b => ?_⟩
  by_cases hj : wJ x = j
  · subst hj; exact ⟨_, upd_at _ _ _, b_say hv hT⟩
  · obtain ⟨u, hu, hU⟩ := h.at_ j a b; exact ⟨u, by show upd _ _ _ j = _; unfold upd; rw [if_neg hj]; exact hu, hU⟩
theorem bj_ps {s : SlS} {v : Int} {l : List UInt8} (hv : 0 ≤ v ∧ v ≤ 1048576) (h : BJ s v) : BJ (psN s v l 8) (v + 1) := by
  have hg : ∀ j, 1 ≤ j → j ≤ 8 → s.f j = some ((s.f j).getD newS) := fun j j1 j2 => by obtain ⟨t, ht, _⟩ := h.at_ j j1 j2; rw [ht]; rfl
  refine ⟨(ps_fields 8).1.trans h.crew, (ps_fields 8).2.trans h.low, fun j a b => ?_⟩
  obtain ⟨t, ht, hT⟩ := h.at_ j a b
  refine ⟨_, ps_8 hg j a b, ?_⟩
  rw [ht]; exact b_prop hv hT _
/-! ### What may be restored -/
theorem pMay_ok {f : Int → Option SlotS} : ∀ (l : List Stand) (p : Option Stand), (∀ a ∈ l, (f a.seq).isSome = true ∧ viewB a.view = true) → l.Pairwise (fun a b => a.seq < b.seq) → (∀ q, p = some q → ∀ a ∈ l, q.seq < a.seq) → pMayG f p l = true
  | [], _, _, _, _ => rfl
  | a :: r, p, h1, h2, h3 => by
    rw [List.pairwise_cons] at h2
    unfold pMayG
    obtain ⟨e1, e2⟩ := h1 a (by simp)
    have e3 : lePrev p a = false := by
      unfold lePrev
      cases p with
      | none => rfl
      | some q => have := h3 q rfl a (by simp); exact decide_eq_false (by omega)
    have e4 : (f a.seq).isNone = false := by cases hf : f a.seq with | none => rw [hf] at e1; cases e1 | some _ => rfl
    rw [e4, e2, e3]
    exact pMay_ok r (some a) (fun b hb => h1 b (by simp [hb])) h2.2 (fun q hq b hb => by injection hq with hq; subst hq; exact h2.1 b hb)
theorem qMay_ok {f : Int → Option SlotS} : ∀ (l : List Stand) (p : Option Stand) (D : List (Int × Int)) (E : List (Mark × Int)), (∀ a ∈ l, (f a.seq).isSome = true ∧ viewB a.view = true) → l.Pairwise (fun a b => ordS a b < 0) → (∀ q, p = some q → ∀ a ∈ l, ordS q a < 0) →
    (∀ x, 0 ≤ (mget D x).getD (0 : Int) ∧ (mget D x).getD (0 : Int) + (l.countP (fun a => decide (a.seq = x)) : Int) ≤ 4) → (∀ m, 0 ≤ (mget E m).getD (0 : Int) ∧ (mget E m).getD (0 : Int) + (l.countP (fun a => decide (Mark.mk a.seq a.dig = m)) : Int) ≤ 1) → qMayG f p D E l = true
  | [], _, _, _, _, _, _, _, _ => rfl
  | a :: r, p, D, E, h1, h2, h3, hD, hE => by
    rw [List.pairwise_cons] at h2
    unfold qMayG
    obtain ⟨e1, e2⟩ := h1 a (by simp)
    have e3 : gePrev p a = false := by
      unfold gePrev
      cases p with
      | none => rfl
      | some q => have := h3 q rfl a (by simp); exact decide_eq_false (by omega)
    have e4 : (f a.seq).isNone = false := by cases hf : f a.seq with | none => rw [hf] at e1; cases e1 | some _ => rfl
    have d1 := hD a.seq
    rw [List.countP_cons_of_pos (by simp)] at d1
    have m1 := hE (Mark.mk a.seq a.dig)
    rw [List.countP_cons_of_pos (by simp)] at m1
    have w1 : IntKind.wrap .i64 ((mget D a.seq).getD (0 : Int) + 1) = (mget D a.seq).getD (0 : Int) + 1 := IntWalk.i64_in _ (by omega)
    have w2 : IntKind.wrap .i64 ((mget E (Mark.mk a.seq a.dig)).getD (0 : Int) + 1) = (mget E (Mark.mk a.seq a.dig)).getD (0 : Int) + 1 := IntWalk.i64_in _ (by omega)
    rw [w1, w2, mget_mput, mget_mput, if_pos rfl, if_pos rfl, Option.getD_some, Option.getD_some, e4, e2, e3, decide_eq_false (by omega : ¬ 4 < (mget D a.seq).getD (0 : Int) + 1), decide_eq_false (by omega : ¬ 1 < (mget E (Mark.mk a.seq a.dig)).getD (0 : Int) + 1)]
    refine qMay_ok r (some a) _ _ (fun b hb => h1 b (by simp [hb])) h2.2 (fun q hq b hb => by injection hq with hq; subst hq; exact h2.1 b hb) (fun x => ?_) (fun m => ?_)
    · have d := hD x
      rw [mget_mput]
      by_cases hx : a.seq = x
      · subst hx; rw [if_pos rfl, Option.getD_some]; omega
      · rw [if_neg hx]; rw [List.countP_cons_of_neg (by simpa using hx)] at d; exact d
    · have d := hE m
      rw [mget_mput]
      by_cases hx : Mark.mk a.seq a.dig = m
      · subst hx; rw [if_pos rfl, Option.getD_some]; omega
      · rw [if_neg hx]; rw [List.countP_cons_of_neg (by simpa using hx)] at d; exact d
theorem ordS_lt_seq {a b : Stand} (h : a.seq < b.seq) : ordS a b < 0 := by
  unfold ordS cmpI; rw [if_pos h]; show (-1 : Int) < 0; decide
theorem ordS_lt_view {a b : Stand} (hs : a.seq = b.seq) (h : a.view < b.view) : ordS a b < 0 := by
  unfold ordS cmpI; rw [if_neg (by omega), if_neg (by omega), if_pos h]; show (-1 : Int) < 0; decide
theorem count_one {l : List Stand} (h : l.Pairwise (fun a b => Mark.mk a.seq a.dig ≠ Mark.mk b.seq b.dig)) (m : Mark) : l.countP (fun a => decide (Mark.mk a.seq a.dig = m)) ≤ 1 := by
  induction l with
  | nil => simp
  | cons a r ih =>
    rw [List.pairwise_cons] at h
    by_cases hm : Mark.mk a.seq a.dig = m
    · rw [List.countP_cons_of_pos (by simpa using hm)]
      have : r.countP (fun a => decide (Mark.mk a.seq a.dig = m)) = 0 := by
        rw [List.countP_eq_zero]; intro b hb hq
        exact h.1 b hb (hm.trans (of_decide_eq_true hq).symm)
      omega
    · rw [List.countP_cons_of_neg (by simpa using hm)]; exact ih h.2
section
variable {f : Int → Option SlotS} {g : Int → SlotS} (hg : ∀ j, 1 ≤ j → j ≤ 8 → f j = some (g j)) (hb : ∀ j, 1 ≤ j → j ≤ 8 → BSlot (g j) j 3)
include hg hb
theorem p_props : ∀ i, i ≤ 8 → (∀ a ∈ pI f (0 + 1) i, 1 ≤ a.seq ∧ a.seq ≤ i ∧ viewB a.view = true) ∧ (pI f (0 + 1) i).Pairwise (fun a b => a.seq < b.seq)
  | 0, _ => ⟨fun a h => (by cases h), .nil⟩
  | i + 1, hi => by
    obtain ⟨h1, h2⟩ := p_props i (by omega)
    have hp : ∀ a ∈ pAt f ((0 : Int) + 1 + (i : Int)), a.seq = (i : Int) + 1 ∧ viewB a.view = true := by
      intro a ha
      unfold pAt at ha
      rw [hg _ (by omega) (by omega)] at ha
      simp only [] at ha
      have hB := (hb ((0 : Int) + 1 + (i : Int)) (by omega) (by omega)).prep
      cases hs : decide ((g ((0 : Int) + 1 + (i : Int))).prep = silence) with
      | true => rw [hs] at ha; cases ha
      | false =>
        rw [hs] at ha
        rw [List.mem_singleton.1 ha]
        rcases hB with hB | hB
        · exact absurd hB (of_decide_eq_false hs)
        · refine ⟨by simp only []; omega, ?_⟩
          simp only [viewB, Bool.and_eq_true, decide_eq_true_eq]; omega
    refine ⟨fun a ha => ?_, ?_⟩
    · rw [pI] at ha
      rcases List.mem_append.1 ha with ha | ha
      · obtain ⟨a1, a2, a3⟩ := h1 a ha; exact ⟨a1, by omega, a3⟩
      · obtain ⟨a1, a2⟩ := hp a ha; exact ⟨by omega, by omega, a2⟩
    · rw [pI, List.pairwise_append]
      refine ⟨h2, ?_, fun a ha b hb' => ?_⟩
      · unfold pAt; rw [hg _ (by omega) (by omega)]; simp only []
        cases decide ((g ((0 : Int) + 1 + (i : Int))).prep = silence) with
        | true => exact .nil
        | false => exact List.pairwise_singleton _ _
      · have := (h1 a ha).2.1; have := (hp b hb').1; omega
theorem q_props : ∀ i, i ≤ 8 → (∀ a ∈ qI f (0 + 1) i, 1 ≤ a.seq ∧ a.seq ≤ i ∧ viewB a.view = true) ∧ (qI f (0 + 1) i).Pairwise (fun a b => ordS a b < 0) ∧ (qI f (0 + 1) i).Pairwise (fun a b => Mark.mk a.seq a.dig ≠ Mark.mk b.seq b.dig) ∧
    ∀ x, (qI f (0 + 1) i).countP (fun a => decide (a.seq = x)) = if 1 ≤ x ∧ x ≤ i then (g x).q.length else 0
  | 0, _ => ⟨fun a h => (by cases h), .nil, .nil, fun x => by rw [if_neg (by omega)]; rfl⟩
  | i + 1, hi => by
    obtain ⟨h1, h2, h3, h4⟩ := q_props i (by omega)
    have hq : qAt f ((0 : Int) + 1 + (i : Int)) = (g ((0 : Int) + 1 + (i : Int))).q := by unfold qAt; rw [hg _ (by omega) (by omega)]
    have hB := hb ((0 : Int) + 1 + (i : Int)) (by omega) (by omega)
    have hs := hB.q.seq
    refine ⟨fun a ha => ?_, ?_, ?_, fun x => ?_⟩
    · rw [qI, hq] at ha
      rcases List.mem_append.1 ha with ha | ha
      · obtain ⟨a1, a2, a3⟩ := h1 a ha; exact ⟨a1, by omega, a3⟩
      · have a1 := hs a ha; have a2 := hB.qv a ha
        refine ⟨by omega, by omega, ?_⟩
        simp only [viewB, Bool.and_eq_true, decide_eq_true_eq]; omega
    · rw [qI, hq, List.pairwise_append]
      refine ⟨h2, hB.q.up.imp_of_mem fun {a b} ha hb' hab => ordS_lt_view ((hs a ha).trans (hs b hb').symm) hab, fun a ha b hb' => ordS_lt_seq ?_⟩
      have := (h1 a ha).2.1; have := hs b hb'; omega
    · rw [qI, hq, List.pairwise_append]
      refine ⟨h3, hB.q.dig.imp fun {a b} hab e => hab (congrArg Mark.dig e), fun a ha b hb' e => ?_⟩
      have e1 := congrArg Mark.seq e
      simp only [] at e1
      have := (h1 a ha).2.1; have := hs b hb'; omega
    · rw [qI, hq, List.countP_append, h4 x]
      by_cases hx : x = (0 : Int) + 1 + (i : Int)
      · subst hx
        have : (g ((0 : Int) + 1 + (i : Int))).q.countP (fun a => decide (a.seq = (0 : Int) + 1 + (i : Int))) = (g ((0 : Int) + 1 + (i : Int))).q.length := by
          rw [List.countP_eq_length]; intro a ha; exact decide_eq_true (hs a ha)
        rw [this, if_neg (by omega), if_pos (by omega), Nat.zero_add]
      · have : (g ((0 : Int) + 1 + (i : Int))).q.countP (fun a => decide (a.seq = x)) = 0 := by
          rw [List.countP_eq_zero]; intro a ha hq'; exact hx ((of_decide_eq_true hq').symm.trans (hs a ha))
        rw [this, Nat.add_zero]
        by_cases h8 : 1 ≤ x ∧ x ≤ (i : Int)
        · rw [if_pos h8, if_pos (by omega)]
        · rw [if_neg h8, if_neg (by omega)]
theorem may_p : pMayG (f0 0) none (pI f (0 + 1) 8) = true := by
  obtain ⟨h1, h2⟩ := p_props hg hb 8 (Nat.le_refl _)
  refine pMay_ok _ _ (fun a ha => ⟨?_, (h1 a ha).2.2⟩) h2 (fun q hq => by cases hq)
  have := h1 a ha
  rw [f0_isSome]; simp; omega
theorem may_q : qMayG (f0 0) none [] [] (qI f (0 + 1) 8) = true := by
  obtain ⟨h1, h2, h3, h4⟩ := q_props hg hb 8 (Nat.le_refl _)
  refine qMay_ok _ _ _ _ (fun a ha => ⟨?_, (h1 a ha).2.2⟩) h2 (fun q hq => by cases hq) (fun x => ⟨Int.le_refl _, ?_⟩) (fun m => ⟨Int.le_refl _, ?_⟩)
  · have := h1 a ha
    rw [f0_isSome]; simp; omega
  · rw [h4 x]
    show (0 : Int) + _ ≤ 4
    split
    · rename_i hx; have := (hb x hx.1 (by omega)).q.len; omega
    · decide
  · have := count_one h3 m
    show (0 : Int) + _ ≤ 1
    omega
/-- What stands behind it. -/
def rT (t : SlotS) : SlotS := SlotS.mk t.last t.prep [] [] t.q
theorem r_p : ∀ i, i ≤ 8 → ∀ j, ((pI f (0 + 1) i).foldl setP (f0 0)) j = if 1 ≤ j ∧ j ≤ i then some (SlotS.mk silence (g j).prep [] [] []) else f0 0 j
  | 0, _, j => by rw [if_neg (by omega)]; rfl
  | i + 1, hi, j => by
    have ih := r_p i (by omega)
    rw [pI, List.foldl_append]
    have hk := ih ((0 : Int) + 1 + (i : Int))
    rw [if_neg (by omega), f0_eq, if_pos (by omega)] at hk
    have hF : (pAt f ((0 : Int) + 1 + (i : Int))).foldl setP ((pI f (0 + 1) i).foldl setP (f0 0)) = upd ((pI f (0 + 1) i).foldl setP (f0 0)) ((0 : Int) + 1 + (i : Int)) (SlotS.mk silence (g ((0 : Int) + 1 + (i : Int))).prep [] [] []) := by
      unfold pAt; rw [hg _ (by omega) (by omega)]; simp only []
      cases hs : decide ((g ((0 : Int) + 1 + (i : Int))).prep = silence) with
      | true => rw [of_decide_eq_true hs]; exact (upd_self hk).symm
      | false =>
        show setP _ (Stand.mk _ _ _) = _
        generalize List.foldl setP (f0 0) (pI f (0 + 1) i) = F at hk ⊢
        unfold setP; simp only [hk]; rfl
    rw [hF]
    unfold upd
    by_cases hj : (0 : Int) + 1 + (i : Int) = j
    · rw [if_pos hj, if_pos (by omega), hj]
    · rw [if_neg hj, ih j]
      by_cases h8 : 1 ≤ j ∧ j ≤ (i : Int)
      · rw [if_pos h8, if_pos (by omega)]
      · rw [if_neg h8, if_neg (by omega)]
omit hg hb in
theorem setQ_list {k : Int} {P : Wd} : ∀ (q : List Stand) (F : Int → Option SlotS) (L : Wd) (q0 : List Stand), (∀ a ∈ q, a.seq = k) → F k = some (SlotS.mk L P [] [] q0) →
    q.foldl setQ F = upd F k (SlotS.mk (match q.getLast? with | none => L | some a => Wd.mk a.view a.dig) P [] [] (q0 ++ q))
  | [], F, L, q0, _, hF => by rw [List.append_nil]; exact (upd_self hF).symm
  | a :: r, F, L, q0, hs, hF => by
    have ha := hs a (by simp)
    rw [List.foldl_cons]
    have h1 : setQ F a = upd F k (SlotS.mk (Wd.mk a.view a.dig) P [] [] (q0 ++ [a])) := by unfold setQ; rw [ha, hF]
    rw [h1, setQ_list r _ (Wd.mk a.view a.dig) (q0 ++ [a]) (fun b hb => hs b (by simp [hb])) (upd_at _ _ _), upd_upd]
    congr 2
    · cases r with
      | nil => rfl
      | cons b r => rw [List.getLast?_cons_cons]; cases h : (b :: r).getLast? with | none => simp at h | some z => rfl
    · simp
theorem r_q : ∀ i, i ≤ 8 → ∀ j, ((qI f (0 + 1) i).foldl setQ ((pI f (0 + 1) 8).foldl setP (f0 0))) j = if 1 ≤ j ∧ j ≤ i then some (rT (g j)) else ((pI f (0 + 1) 8).foldl setP (f0 0)) j
  | 0, _, j => by rw [if_neg (by omega)]; rfl
  | i + 1, hi, j => by
    have ih := r_q i (by omega)
    have hq : qAt f ((0 : Int) + 1 + (i : Int)) = (g ((0 : Int) + 1 + (i : Int))).q := by unfold qAt; rw [hg _ (by omega) (by omega)]
    have hB := hb ((0 : Int) + 1 + (i : Int)) (by omega) (by omega)
    rw [qI, List.foldl_append, hq]
    have hk := ih ((0 : Int) + 1 + (i : Int))
    rw [if_neg (by omega), r_p hg hb 8 (Nat.le_refl _), if_pos (by omega)] at hk
    rw [setQ_list _ _ silence [] hB.q.seq hk]
    have hl : (match (g ((0 : Int) + 1 + (i : Int))).q.getLast? with | none => silence | some a => Wd.mk a.view a.dig) = (g ((0 : Int) + 1 + (i : Int))).last := by
      rcases hB.last with ⟨h1, h2⟩ | h1
      · rw [h1, h2]; rfl
      · rw [h1]
    rw [hl]
    unfold upd
    by_cases hj : (0 : Int) + 1 + (i : Int) = j
    · rw [if_pos hj, if_pos (by omega), ← hj]; rfl
    · rw [if_neg hj, ih j]
      by_cases h8 : 1 ≤ j ∧ j ≤ (i : Int)
      · rw [if_pos h8, if_pos (by omega)]
      · rw [if_neg h8, if_neg (by omega)]
end
/-- What was restored, beside what it came from. -/
structure RB (s s' : SlS) : Prop where
  crew : s'.crew = crewI 1
  low : s.low = 0
  low' : s'.low = 0
  at_ : ∀ j, 1 ≤ j → j ≤ 8 → ∃ t, s.f j = some t ∧ BSlot t j 3 ∧ s'.f j = some (rT t)
theorem bk_rest {s : SlS} (h : BJ s 3) : (restI (newSl (crewI 1) 0) (pI s.f (s.low + 1) 8) (qI s.f (s.low + 1) 8)).2 = 0 ∧ RB s (restI (newSl (crewI 1) 0) (pI s.f (s.low + 1) 8) (qI s.f (s.low + 1) 8)).1 := by
  have hg : ∀ j, 1 ≤ j → j ≤ 8 → s.f j = some ((s.f j).getD newS) := fun j j1 j2 => by obtain ⟨t, ht, _⟩ := h.at_ j j1 j2; rw [ht]; rfl
  have hb : ∀ j, 1 ≤ j → j ≤ 8 → BSlot ((s.f j).getD newS) j 3 := fun j j1 j2 => by obtain ⟨t, ht, hT⟩ := h.at_ j j1 j2; rw [ht]; exact hT
  have e : restI (newSl (crewI 1) 0) (pI s.f (s.low + 1) 8) (qI s.f (s.low + 1) 8) = (SlS.mk (crewI 1) 0 ((qI s.f (0 + 1) 8).foldl setQ ((pI s.f (0 + 1) 8).foldl setP (f0 0))), 0) := by
    rw [h.low]
    unfold restI
    rw [show (newSl (crewI 1) 0).f = f0 0 from rfl, may_p hg hb, may_q hg hb]; rfl
  rw [e]
  refine ⟨rfl, rfl, h.low, rfl, fun j j1 j2 => ⟨_, hg j j1 j2, hb j j1 j2, ?_⟩⟩
  show ((qI s.f (0 + 1) 8).foldl setQ _) j = _
  rw [r_q hg hb 8 (Nat.le_refl _), if_pos (by omega)]
theorem rb_pq {s s' : SlS} (h : RB s s') : pI s'.f (s'.low + 1) 8 = pI s.f (s.low + 1) 8 ∧ qI s'.f (s'.low + 1) 8 = qI s.f (s.low + 1) 8 := by
  rw [h.low, h.low']
  have key : ∀ i, i ≤ 8 → pI s'.f (0 + 1) i = pI s.f (0 + 1) i ∧ qI s'.f (0 + 1) i = qI s.f (0 + 1) i := by
    intro i
    induction i with
    | zero => intro _; exact ⟨rfl, rfl⟩
    | succ i ih =>
      intro hi
      obtain ⟨i1, i2⟩ := ih (by omega)
      obtain ⟨t, ht, _, hu⟩ := h.at_ ((0 : Int) + 1 + (i : Int)) (by omega) (by omega)
      constructor
      · simp only [pI]; rw [i1]; unfold pAt; rw [ht, hu]; rfl
      · simp only [qI]; rw [i2]; unfold qAt; rw [ht, hu]; rfl
  exact key 8 (Nat.le_refl _)
theorem rb_at {s s' : SlS} (h : RB s s') {j : Int} (j1 : 1 ≤ j) (j2 : j ≤ 8) : atI s' j = atI s j ∧ preparedI s' j = false := by
  obtain ⟨t, ht, _, hu⟩ := h.at_ j j1 j2
  unfold atI preparedI
  rw [ht, hu, h.crew]
  exact ⟨rfl, ready_no (.inl rfl) (fun n hn => by cases hn)⟩
theorem dig_inj {a b : UInt8} (h : digN a = digN b) : a = b := by
  have := congrArg (fun d => d.l.head?) h
  simpa [digN] using this
theorem and3 (b : UInt8) : ¬ (b &&& 3) = 200 := by
  intro h
  have h1 := congrArg UInt8.toNat h
  have h2 : (b &&& 3).toNat ≤ 3 := by rw [UInt8.toNat_and]; exact Nat.and_le_right
  have h3 : (200 : UInt8).toNat = 200 := rfl
  omega
theorem rb_prop {s s' : SlS} (h : RB s s') {j : Int} (j1 : 1 ≤ j) (j2 : j ≤ 8) (hi : (atI s j).2 = true) : propI s' (atI s j).1.view j (digN 200) = (s', 151) := by
  obtain ⟨t, ht, hB, hu⟩ := h.at_ j j1 j2
  unfold atI at hi ⊢
  rw [ht] at hi ⊢
  simp only [] at hi ⊢
  cases hs : decide (t.last = silence) with
  | true => rw [hs] at hi; cases hi
  | false =>
    rw [cond_false]
    have hl : t.q.getLast? = some (Stand.mk j t.last.dig t.last.view) := by
      rcases hB.last with ⟨_, h1⟩ | h1
      · exact absurd h1 (of_decide_eq_false hs)
      · exact h1
    obtain ⟨v1, v2, b, hd⟩ := hB.qv _ (List.mem_of_getLast? hl)
    simp only [] at v1 v2 hd
    have hE : propE (rT t) t.last.view (digN 200) = 151 := by
      unfold propE goesI
      have hb : viewB t.last.view = true := by simp only [viewB, Bool.and_eq_true, decide_eq_true_eq]; omega
      rw [hb]
      show (bif !true then (190 : Int) else bif decide (t.last.view < t.last.view) then 190 else bif (t.last.view == t.last.view) && !decide (t.last.dig = digN 200) then 151 else 0) = 151
      rw [decide_eq_false (Int.lt_irrefl _), decide_eq_false (by rw [hd]; intro e; exact and3 b (dig_inj e)), beq_self_eq_true]; rfl
    show propI s' t.last.view j (digN 200) = _
    rw [propI_at hu, hE]
    have hT : propT s'.crew (rT t) j t.last.view (digN 200) = rT t := by unfold propT; rw [hE]; rfl
    rw [hT, slS_self hu]
theorem qI_len4 (f : Int → Option SlotS) (k : Int) (h : ∀ k t, f k = some t → t.q.length ≤ 4) : ∀ i, (qI f k i).length ≤ 4 * i
  | 0 => Nat.le_refl _
  | i + 1 => by
    have := qI_len4 f k h i
    have h : (qAt f (k + i)).length ≤ 4 := by
      unfold qAt; split
      · simp
      · rename_i x hx; exact h _ _ hx
    simp only [qI, List.length_append]; omega
end Go.Proofs.YtljcgggflgbenaaDoor
