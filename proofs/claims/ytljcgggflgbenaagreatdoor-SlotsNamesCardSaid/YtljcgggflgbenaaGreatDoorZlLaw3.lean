/- Both, call by call: Restore. No condition. -/
import Derived.Test.YtljcgggflgbenaaGreatDoorZlLaw2
set_option linter.all false
namespace Go.Proofs.YtljcgggflgbenaaGreatDoor
open Go Go.Gx
theorem Sim.none' {s : SlS} {m : RfS} {k : Int} (h : Sim s m) (hk : I6 k) : (s.f k).isNone = !inR m k := by
  rcases h.two hk with ⟨h1, h2⟩ | ⟨a, t, h1, h2, _⟩ <;> rw [h1, h2] <;> rfl
theorem pMay_eq {s : SlS} {m : RfS} (h : Sim s m) : ∀ (l : List Stand) (p : Option Stand), (∀ x ∈ l, I6 x.seq) → pMayG s.f p l = pRestG m p l
  | [], _, _ => rfl
  | a :: r, p, hl => by
    unfold pMayG pRestG
    rw [h.none' (hl a (by simp)), pMay_eq h r (some a) fun x hx => hl x (List.mem_cons_of_mem _ hx)]
    cases !inR m a.seq <;> cases !viewB a.view <;> cases lePrev p a <;> rfl
/-- What is known ahead of a stand. -/
structure RI (p : Option Stand) (run : List Stand) (D : List (Int × Int)) (E : List (Mark × Int)) (done : List Stand) : Prop where
  dn : ∀ s, (mget D s).getD 0 = ((done.countP (fun y => decide (y.seq = s)) : Nat) : Int)
  en : ∀ k : Mark, (mget E k).getD 0 = ((done.countP (fun y => decide (y.seq = k.seq) && decide (y.dig = k.dig)) : Nat) : Int)
  nil_ : p = none → done = []
  le : ∀ q, p = some q → ∀ y ∈ done, y.seq ≤ q.seq
  run : ∀ q, p = some q → run = done.filter (fun y => decide (y.seq = q.seq))
  d4 : ∀ s, done.countP (fun y => decide (y.seq = s)) ≤ 4
theorem RI.run' {p : Option Stand} {run : List Stand} {D : List (Int × Int)} {E : List (Mark × Int)} {done : List Stand} {a : Stand} (h : RI p run D E done) (hl : ltPrev p a = false) : runOf p run a = done.filter (fun y => decide (y.seq = a.seq)) := by
  cases p with
  | none => rw [h.nil_ rfl]; rfl
  | some q =>
    have hl : decide (a.seq < q.seq) = false := hl
    have hl := of_decide_eq_false hl
    show (bif decide (q.seq < a.seq) then [] else run) = _
    cases hc : decide (q.seq < a.seq) with
    | true =>
      have hc := of_decide_eq_true hc
      symm; rw [cond_true, List.filter_eq_nil_iff]
      intro y hy
      have := h.le q rfl y hy
      simp; omega
    | false =>
      have hc := of_decide_eq_false hc
      rw [cond_false, h.run q rfl, show q.seq = a.seq from by omega]
theorem ge_prev {p : Option Stand} {a : Stand} (h1 : ltPrev p a = false) : gePrev p a = badPrev p a := by
  cases p with
  | none => rfl
  | some q =>
    have h1 : decide (a.seq < q.seq) = false := h1
    have h1 := of_decide_eq_false h1
    show decide (0 ≤ ordS q a) = (!decide (q.seq < a.seq) && !aheadB q a)
    have ho := ordS_lt (a := q) (b := a)
    rw [Bool.eq_iff_iff, decide_eq_true_eq]
    constructor
    · intro h
      have hn : ¬ ordS q a < 0 := by omega
      rw [ho] at hn
      have hs : ¬ q.seq < a.seq := fun h => hn (.inl h)
      have ha : aheadB q a = false := by
        cases hc : aheadB q a with
        | false => rfl
        | true => exact absurd (.inr ⟨by omega, hc⟩) hn
      simp [hs, ha]
    · intro h
      simp at h
      have hn : ¬ ordS q a < 0 := by
        rw [ho]; rintro (h2 | ⟨_, h2⟩)
        · omega
        · rw [h.2] at h2; cases h2
      omega
theorem ge_lt {p : Option Stand} {a : Stand} (h1 : ltPrev p a = true) : gePrev p a = true := by
  cases p with
  | none => cases h1
  | some q =>
    have h1 : decide (a.seq < q.seq) = true := h1
    have h1 := of_decide_eq_true h1
    show decide (0 ≤ ordS q a) = true
    refine decide_eq_true ?_
    have ho := ordS_lt (a := q) (b := a)
    by_cases hn : ordS q a < 0
    · rw [ho] at hn; omega
    · omega
theorem RI.next {p : Option Stand} {run : List Stand} {D : List (Int × Int)} {E : List (Mark × Int)} {done : List Stand} {a : Stand} (h : RI p run D E done) (hl : ltPrev p a = false) (h4 : ((runOf p run a).length + 1 ≤ 4)) :
    RI (some a) (runOf p run a ++ [a]) (mput D a.seq (IntKind.wrap .i64 ((mget D a.seq).getD (0 : Int) + 1))) (mput E (Mark.mk a.seq a.dig) (IntKind.wrap .i64 ((mget E (Mark.mk a.seq a.dig)).getD (0 : Int) + 1))) (done ++ [a]) := by
  have hr := h.run' hl
  have hc : done.countP (fun y => decide (y.seq = a.seq)) + 1 ≤ 4 := by rw [hr, ← List.countP_eq_length_filter] at h4; exact h4
  have hce : done.countP (fun y => decide (y.seq = a.seq) && decide (y.dig = a.dig)) ≤ done.countP (fun y => decide (y.seq = a.seq)) :=
    List.countP_mono_left fun y _ hy => by simp at hy; simp [hy.1]
  refine ⟨fun s => ?_, fun k => ?_, fun hn => (nomatch hn), fun q hq y hy => ?_, fun q hq => ?_, fun s => ?_⟩
  · rw [mget_mput, List.countP_append]
    split
    · rename_i e; subst e
      rw [Option.getD_some, h.dn, IntWalk.i64_in _ (by omega)]; simp
    · rename_i e
      rw [h.dn]; simp [e]
  · rw [mget_mput, List.countP_append]
    split
    · rename_i e; subst e
      rw [Option.getD_some, h.en]
      simp only []
      rw [IntWalk.i64_in _ (by omega)]; simp
    · rename_i e
      rw [h.en]
      have hne : ¬ (a.seq = k.seq ∧ a.dig = k.dig) := fun ⟨e1, e2⟩ => e (by cases k; simp at e1 e2; subst e1; subst e2; rfl)
      have : ([a].countP fun y => decide (y.seq = k.seq) && decide (y.dig = k.dig)) = 0 := by
        rw [List.countP_cons_of_neg (by simpa using fun e1 e2 => hne ⟨e1, e2⟩)]; rfl
      rw [this]; rfl
  · injection hq with hq; subst hq
    rcases List.mem_append.1 hy with hy | hy
    · cases p with
      | none => rw [h.nil_ rfl] at hy; exact (List.not_mem_nil hy).elim
      | some q =>
        have hl : decide (a.seq < q.seq) = false := hl
        have hl := of_decide_eq_false hl
        have := h.le q rfl y hy; omega
    · simp at hy; subst hy; exact Int.le_refl _
  · injection hq with hq; subst hq
    rw [hr, List.filter_append]; simp
  · rw [List.countP_append]
    by_cases e : a.seq = s
    · subst e; simp only [List.countP_singleton]; simp; omega
    · have := h.d4 s
      simp [e]; exact this
theorem qMay_eq {s : SlS} {m : RfS} (h : Sim s m) : ∀ (l : List Stand) (p : Option Stand) (run : List Stand) (D : List (Int × Int)) (E : List (Mark × Int)) (done : List Stand), (∀ x ∈ l, I6 x.seq) → RI p run D E done → qMayG s.f p D E l = qRestG m p run l
  | [], _, _, _, _, _, _, _ => rfl
  | a :: r, p, run, D, E, done, hl, hR => by
    unfold qMayG qRestG
    rw [h.none' (hl a (by simp))]
    cases h1 : ltPrev p a with
    | true => rw [ge_lt h1]; simp
    | false =>
      rw [ge_prev h1]
      cases h2 : badPrev p a with
      | true => simp
      | false =>
        have hr := hR.run' h1
        have hc := hR.d4 a.seq
        have hce : done.countP (fun y => decide (y.seq = a.seq) && decide (y.dig = a.dig)) ≤ done.countP (fun y => decide (y.seq = a.seq)) :=
          List.countP_mono_left fun y _ hy => by simp at hy; simp [hy.1]
        have hlen : (runOf p run a).length = done.countP (fun y => decide (y.seq = a.seq)) := by rw [hr, ← List.countP_eq_length_filter]
        rw [mget_mput, if_pos rfl, Option.getD_some, hR.dn, IntWalk.i64_in _ (by omega), mget_mput, if_pos rfl, Option.getD_some, hR.en]
        simp only []
        rw [IntWalk.i64_in _ (by omega)]
        have e3 : decide ((4 : Int) < ((done.countP (fun y => decide (y.seq = a.seq)) : Nat) : Int) + 1) = decide ((4 : Int) < (((runOf p run a).length + 1 : Nat) : Int)) := by
          rw [hlen]; exact decide_eq_decide.2 (by omega)
        have e4 : decide ((1 : Int) < ((done.countP (fun y => decide (y.seq = a.seq) && decide (y.dig = a.dig)) : Nat) : Int) + 1) = (runOf p run a).any (fun y => decide (y.dig = a.dig)) := by
          rw [hr, Bool.eq_iff_iff, decide_eq_true_eq, List.any_eq_true]
          constructor
          · intro hlt
            have : 0 < done.countP (fun y => decide (y.seq = a.seq) && decide (y.dig = a.dig)) := by omega
            obtain ⟨y, hy, he⟩ := List.countP_pos_iff.1 this
            simp at he
            exact ⟨y, List.mem_filter.2 ⟨hy, by simp [he.1]⟩, by simp [he.2]⟩
          · rintro ⟨y, hy, he⟩
            obtain ⟨y1, y2⟩ := List.mem_filter.1 hy
            have : 0 < done.countP (fun y => decide (y.seq = a.seq) && decide (y.dig = a.dig)) := List.countP_pos_iff.2 ⟨y, y1, by simp at y2 he; simp [y2, he]⟩
            omega
        rw [e3, e4]
        cases h3 : decide ((4 : Int) < (((runOf p run a).length + 1 : Nat) : Int)) with
        | true => cases !inR m a.seq <;> cases !viewB a.view <;> rfl
        | false =>
          cases h4 : (runOf p run a).any (fun y => decide (y.dig = a.dig)) with
          | true => cases !inR m a.seq <;> cases !viewB a.view <;> rfl
          | false =>
            have h3 := of_decide_eq_false h3
            have hn := hR.next h1 (by omega)
            rw [hR.dn, IntWalk.i64_in _ (by omega), hR.en] at hn
            simp only [] at hn
            rw [IntWalk.i64_in _ (by omega)] at hn
            rw [qMay_eq h r (some a) (runOf p run a ++ [a]) _ _ (done ++ [a]) (fun x hx => hl x (List.mem_cons_of_mem _ hx)) hn]
            cases !inR m a.seq <;> cases !viewB a.view <;> rfl
theorem RI.nil' : RI none [] [] [] [] := ⟨fun _ => rfl, fun _ => rfl, fun _ => rfl, fun _ h => (nomatch h), fun _ h => (nomatch h), fun _ => Nat.zero_le _⟩
/-! ### What is restored -/
theorem clr_eq {m : RfS} (ok : RfOk m) : clrR m 8 = newR m.crew m.self m.low := by
  have hc : ∀ k, (clrR m k).crew = m.crew ∧ (clrR m k).self = m.self ∧ (clrR m k).low = m.low := fun k => by
    induction k with
    | zero => exact ⟨rfl, rfl, rfl⟩
    | succ k ih => exact ih
  have hl : ∀ (k i : Nat), i < k → k ≤ 8 → (clrR m k).l[i]? = some (emptyR m.crew.nodes.length) := fun k => by
    induction k with
    | zero => intro i hi; omega
    | succ k ih =>
      intro i hi h8
      show ((clrR m k).l.set k (emptyR (clrR m k).crew.nodes.length))[i]? = _
      rw [(hc k).1]
      by_cases e : k = i
      · subst e; rw [List.getElem?_set_self (by rw [clrR_len, ok.len]; omega)]
      · rw [List.getElem?_set_ne e]; exact ih i (by omega) (by omega)
  obtain ⟨h1, h2, h3⟩ := hc 8
  have h4 : (clrR m 8).l = List.replicate 8 (emptyR m.crew.nodes.length) := by
    apply List.ext_getElem?
    intro i
    by_cases hi : i < 8
    · rw [hl 8 i hi (Nat.le_refl _), List.getElem?_replicate, if_pos hi]
    · rw [List.getElem?_eq_none (by rw [clrR_len, ok.len]; omega), List.getElem?_eq_none (by simp; omega)]
  show clrR m 8 = RfS.mk _ _ _ _
  rw [← h1, ← h2, ← h3, show List.replicate 8 (emptyR (clrR m 8).crew.nodes.length) = (clrR m 8).l from by rw [h1, h4]]
theorem pRest_view {m : RfS} : ∀ {l : List Stand} {p : Option Stand}, pRestG m p l = true → ∀ a ∈ l, viewB a.view = true
  | [], _, _ => fun a h => (List.not_mem_nil h).elim
  | x :: r, p, h => by
    unfold pRestG at h
    cases hc : (!inR m x.seq || lePrev p x || !viewB x.view) with
    | true => rw [hc] at h; cases h
    | false =>
      rw [hc] at h
      intro a ha
      rcases List.mem_cons.1 ha with rfl | ha
      · simp at hc; exact hc.2
      · exact pRest_view h a ha
theorem ordS_trans {a b c : Stand} (h : ordS a b < 0) (h2 : ordS b c < 0) : ordS a c < 0 := by
  rw [ordS_lt] at *
  rcases h with h | ⟨h, k⟩ <;> rcases h2 with h2 | ⟨h2, k2⟩
  · left; omega
  · left; omega
  · left; omega
  · exact .inr ⟨by omega, ahead_trans k k2⟩
theorem qRest_all {m : RfS} : ∀ {l : List Stand} {p : Option Stand} {run : List Stand}, qRestG m p run l = true → (∀ q, p = some q → ∀ y ∈ l, ordS q y < 0) ∧ l.Pairwise (fun a b => ordS a b < 0) ∧ ∀ a ∈ l, viewB a.view = true
  | [], _, _, _ => ⟨fun _ _ y h => (List.not_mem_nil h).elim, List.Pairwise.nil, fun a h => (List.not_mem_nil h).elim⟩
  | x :: r, p, run, h => by
    unfold qRestG at h
    cases hc : (!inR m x.seq || !viewB x.view || ltPrev p x) with
    | true => rw [hc] at h; cases h
    | false =>
      rw [hc] at h
      cases h2 : badPrev p x with
      | true => rw [h2] at h; cases h
      | false =>
        rw [h2] at h
        cases h3 : decide ((4 : Int) < (((runOf p run x).length + 1 : Nat) : Int)) with
        | true => rw [h3] at h; cases h
        | false =>
          rw [h3] at h
          cases h4 : (runOf p run x).any (fun y => decide (y.dig = x.dig)) with
          | true => rw [h4] at h; cases h
          | false =>
            rw [h4] at h
            obtain ⟨i1, i2, i3⟩ := qRest_all (l := r) h
            simp at hc
            have hp : ∀ q, p = some q → ordS q x < 0 := fun q hq => by
              subst hq
              have hg := ge_prev hc.2
              rw [h2] at hg
              have hg : decide (0 ≤ ordS q x) = false := hg
              have := of_decide_eq_false hg; omega
            refine ⟨fun q hq y hy => ?_, List.pairwise_cons.2 ⟨fun y hy => i1 x rfl y hy, i2⟩, fun a ha => ?_⟩
            · rcases List.mem_cons.1 hy with rfl | hy
              · exact hp q hq
              · exact ordS_trans (hp q hq) (i1 x rfl y hy)
            · rcases List.mem_cons.1 ha with rfl | ha
              · exact hc.1.2
              · exact i3 a ha
theorem setP_at {f : Int → Option SlotS} {a : Stand} {t : SlotS} (h : f a.seq = some t) : setP f a = upd f a.seq (SlotS.mk t.last (Wd.mk a.view a.dig) t.pre t.com t.q) := by
  unfold setP; rw [h]
theorem setQ_at {f : Int → Option SlotS} {a : Stand} {t : SlotS} (h : f a.seq = some t) : setQ f a = upd f a.seq (SlotS.mk (Wd.mk a.view a.dig) t.prep t.pre t.com (t.q ++ [a])) := by
  unfold setQ; rw [h]
theorem Sim.foldP {s : SlS} {m : RfS} (h : Sim s m) (hq0 : ∀ (i : Nat) (t : RSlot), m.l[i]? = some t → t.q = []) {l : List Stand} (hl : ∀ x ∈ l, I6 x.seq ∧ inR m x.seq = true ∧ viewB x.view = true) : ∀ k, k ≤ l.length →
    Sim (SlS.mk s.crew s.low ((l.take k).foldl setP s.f)) (rpR m l k) ∧ ∀ (i : Nat) (t : RSlot), (rpR m l k).l[i]? = some t → t.q = []
  | 0, _ => ⟨h, hq0⟩
  | k + 1, hk => by
    obtain ⟨ih, iq⟩ := h.foldP hq0 hl k (by omega)
    have ha := List.getElem?_eq_getElem (l := l) (i := k) (by omega)
    generalize l[k]'(by omega) = a at ha
    obtain ⟨h6, hin, hv⟩ := hl a (List.mem_of_getElem? ha)
    have hin' : inR (rpR m l k) a.seq = true := (inR_low (rpR_low m l k) _).trans hin
    have hd : l.getD k default = a := by rw [List.getD_eq_getElem?_getD, ha]; rfl
    rcases ih.two h6 with ⟨_, h2⟩ | ⟨b, t, h1, h2, h3, h4, h5, h7⟩
    · rw [hin'] at h2; cases h2
    · have hst : ST (rpR m l k).crew.nodes (SlotS.mk b.last (Wd.mk a.view a.dig) b.pre b.com b.q) (RSlot.mk t.last t.pre t.com (RVt.mk true a.view a.dig) t.q) := ⟨h5.last, .inr ⟨rfl, rfl, viewB_nn hv⟩, h5.pre, h5.com, h5.q⟩
      have hp := ih.put h3 hst (show t.q.length ≤ 4 from ih.ok.q4 _ _ h3)
      rw [← h7] at hp
      have e1 : (l.take (k + 1)).foldl setP s.f = upd ((l.take k).foldl setP s.f) a.seq (SlotS.mk b.last (Wd.mk a.view a.dig) b.pre b.com b.q) := by
        rw [List.take_add_one, ha, List.foldl_append]
        exact setP_at h1
      have e2 : rpR m l (k + 1) = setL (rpR m l k) (ixR (rpR m l k) a.seq) (RSlot.mk t.last t.pre t.com (RVt.mk true a.view a.dig) t.q) := by
        show setL _ _ _ = _
        rw [hd, h4]
      rw [e1, e2]
      refine ⟨hp, fun i u hu => ?_⟩
      rcases set_get' hu with ⟨_, rfl⟩ | ⟨_, h8⟩
      · show t.q = []
        exact iq _ t h3
      · exact iq i u h8
theorem Sim.foldQ {s : SlS} {m : RfS} (h : Sim s m) (hq0 : ∀ (i : Nat) (t : RSlot), m.l[i]? = some t → t.q = []) {l : List Stand} (hl : ∀ x ∈ l, I6 x.seq ∧ inR m x.seq = true ∧ viewB x.view = true) (h4 : ∀ s, (l.filter (fun y => decide (y.seq = s))).length ≤ 4) : ∀ k, k ≤ l.length →
    Sim (SlS.mk s.crew s.low ((l.take k).foldl setQ s.f)) (rqR m l k) ∧ ∀ (i : Nat) (t : RSlot), (rqR m l k).l[i]? = some t → t.q = (l.take k).filter (fun y => decide (y.seq = m.low + 1 + i))
  | 0, _ => ⟨h, fun i t ht => by rw [hq0 i t ht]; rfl⟩
  | k + 1, hk => by
    obtain ⟨ih, iq⟩ := h.foldQ hq0 hl h4 k (by omega)
    have ha := List.getElem?_eq_getElem (l := l) (i := k) (by omega)
    generalize l[k]'(by omega) = a at ha
    obtain ⟨h6, hin, hv⟩ := hl a (List.mem_of_getElem? ha)
    have hlow := rqR_low m l k
    have hin' : inR (rqR m l k) a.seq = true := (inR_low hlow _).trans hin
    have hd : l.getD k default = a := by rw [List.getD_eq_getElem?_getD, ha]; rfl
    rcases ih.two h6 with ⟨_, h2⟩ | ⟨b, t, h1, h2, h3, h4', h5, h7⟩
    · rw [hin'] at h2; cases h2
    · have e0 : t.q ++ [a] = (l.take (k + 1)).filter (fun y => decide (y.seq = a.seq)) := by
        rw [List.take_add_one, ha, List.filter_append, iq _ _ h3, ← hlow, ← h7]; simp
      have hq4 : (t.q ++ [a]).length ≤ 4 := by
        rw [e0]
        exact Nat.le_trans ((List.take_sublist _ _).filter _).length_le (h4 a.seq)
      have hst : ST (rqR m l k).crew.nodes (SlotS.mk (Wd.mk a.view a.dig) b.prep b.pre b.com (b.q ++ [a])) (RSlot.mk (RVt.mk true a.view a.dig) t.pre t.com t.p (t.q ++ [a])) := ⟨.inr ⟨rfl, rfl, viewB_nn hv⟩, h5.prep, h5.pre, h5.com, by rw [h5.q]⟩
      have hp := ih.put h3 hst hq4
      rw [← h7] at hp
      have e1 : (l.take (k + 1)).foldl setQ s.f = upd ((l.take k).foldl setQ s.f) a.seq (SlotS.mk (Wd.mk a.view a.dig) b.prep b.pre b.com (b.q ++ [a])) := by
        rw [List.take_add_one, ha, List.foldl_append]
        exact setQ_at h1
      have e2 : rqR m l (k + 1) = setL (rqR m l k) (ixR (rqR m l k) a.seq) (RSlot.mk (RVt.mk true a.view a.dig) t.pre t.com t.p (t.q ++ [a])) := by
        show rq2 (rq1 (rqR m l k) (l.getD k default)) (ixR (rqR m l k) (l.getD k default).seq) (l.getD k default) = _
        rw [hd]
        unfold rq2
        rw [rq1_sl a h3]
        unfold rq1
        rw [setL2]
      rw [e1, e2]
      refine ⟨hp, fun i u hu => ?_⟩
      rcases set_get' hu with ⟨rfl, rfl⟩ | ⟨h8, h9⟩
      · show t.q ++ [a] = _
        rw [e0, ← hlow, ← h7]
      · rw [iq i u h9, List.take_add_one, ha, List.filter_append]
        have hne : ¬ a.seq = m.low + 1 + (i : Int) := by rw [h7, hlow]; omega
        simp [hne]
theorem SimQ.rest {s : SlS} {m : RfS} {pl ql : List Stand} (h : SimQ s m) (hps : ∀ x ∈ pl, I6 x.seq) (hqs : ∀ x ∈ ql, I6 x.seq) : SimQ (restI s pl ql).1 (restR m pl ql).1 ∧ (restI s pl ql).2 = (restR m pl ql).2 := by
  unfold restI restR
  rw [pMay_eq h.sim pl none hps, qMay_eq h.sim ql none [] [] [] [] hqs RI.nil']
  cases hp : pRestG m none pl with
  | false => exact ⟨h, rfl⟩
  | true =>
    cases hq : qRestG m none [] ql with
    | false => exact ⟨h, rfl⟩
    | true =>
      simp only [Bool.not_true, Bool.or_false, Bool.and_true, cond_false]
      refine ⟨?_, trivial⟩
      have hcl := clr_eq h.sim.ok
      have hlo : lowB m.low = true := by
        obtain ⟨l1, l2⟩ := h.sim.ok.low
        simp [lowB]; omega
      have h0 : SimQ (newSl m.crew m.low) (clrR m 8) := by rw [hcl]; exact sim_new0 h.sim.ok.crew hlo
      rw [show newSl m.crew m.low = SlS.mk s.crew s.low (f0 s.low) from by rw [h.sim.crew, h.sim.low]; rfl] at h0
      have hq0 : ∀ (i : Nat) (t : RSlot), (clrR m 8).l[i]? = some t → t.q = [] := fun i t ht => by
        rw [hcl] at ht
        rw [(List.mem_replicate.1 (List.mem_of_getElem? ht)).2]; rfl
      obtain ⟨p1, p2⟩ := h0.sim.foldP hq0 (l := pl) (fun x hx => ⟨hps x hx, (inR_low (clrR_low m 8) _).trans (pRest_mem hp x hx), pRest_view hp x hx⟩) pl.length (Nat.le_refl _)
      rw [List.take_length] at p1
      obtain ⟨o1, o2, o3⟩ := qRest_all hq
      have h4 : ∀ s, (ql.filter (fun y => decide (y.seq = s))).length ≤ 4 := fun s => by
        have := qRest_cnt s (l := ql) (p := none) (run := []) (by decide) hq
        simp only [onP] at this; omega
      have hlow : (rpR (clrR m 8) pl pl.length).low = m.low := by rw [rpR_low, clrR_low]
      obtain ⟨q1, q2⟩ := p1.foldQ p2 (l := ql) (fun x hx => ⟨hqs x hx, (inR_low hlow _).trans (qRest_mem hq x hx), o3 x hx⟩) h4 ql.length (Nat.le_refl _)
      rw [List.take_length] at q1 q2
      refine ⟨q1, fun i t ht => ?_⟩
      rw [q2 i t ht, rqR_low]
      refine ⟨fun y hy => by simpa using (List.mem_filter.1 hy).2, ?_⟩
      have hpw : (ql.filter (fun y => decide (y.seq = (rpR (clrR m 8) pl pl.length).low + 1 + (i : Int)))).Pairwise (fun a b => ordS a b < 0) := o2.sublist List.filter_sublist
      refine hpw.imp_of_mem fun {a b} ha hb hab => ?_
      have e1 : a.seq = (rpR (clrR m 8) pl pl.length).low + 1 + (i : Int) := by simpa using (List.mem_filter.1 ha).2
      have e2 : b.seq = (rpR (clrR m 8) pl pl.length).low + 1 + (i : Int) := by simpa using (List.mem_filter.1 hb).2
      rw [ordS_lt] at hab
      rcases hab with hab | hab
      · omega
      · exact hab.2
theorem sim_step {s : SlS} {m : RfS} {d : Do} (h : SimQ s m) (hok : SlOk s) (hd : DoOk d) : (stepS s d).2 = (stepR m d).2 ∧ SimQ (stepS s d).1 (stepR m d).1 := by
  unfold stepS stepR
  cases kdI d == 0 <;> simp only [cond_true, cond_false]
  · cases kdI d == 1 <;> simp only [cond_true, cond_false]
    · cases kdI d == 2 <;> simp only [cond_true, cond_false]
      · cases kdI d == 3 <;> simp only [cond_true, cond_false]
        · exact (h.rest hd.2.1 hd.2.2).symm
        · exact (h.raise hok).symm
      · exact (h.commit hd.1).symm
    · exact (h.prepare hd.1).symm
  · exact (h.propose hd.1).symm
end Go.Proofs.YtljcgggflgbenaaGreatDoor
