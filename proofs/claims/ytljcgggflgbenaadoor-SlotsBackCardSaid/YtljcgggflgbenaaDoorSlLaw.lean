/- What slots come to, number by number. No condition. -/
import Derived.Test.YtljcgggflgbenaaDoorSlG4
set_option linter.all false
namespace Go.Proofs.YtljcgggflgbenaaDoor
open Go Go.Gx Go.RowKit
/-! ### One number -/
def propE (t : SlotS) (v : Int) (d : Dig) : Int := bif !viewB v then 190 else goesI t.last v d
def propT (c : Crew) (t : SlotS) (k v : Int) (d : Dig) : SlotS := bif propE t v d == 0 then propS c t k d v else t
theorem propI_at {s : SlS} {k v : Int} {t : SlotS} {d : Dig} (h : s.f k = some t) : propI s v k d = (SlS.mk s.crew s.low (upd s.f k (propT s.crew t k v d)), propE t v d) := by
  unfold propI propT propE
  rw [h]
  cases viewB v with
  | false => simp [upd_self h]
  | true =>
    simp only [Bool.not_true, cond_false, bne]
    cases hg : goesI t.last v d == 0 with
    | false => simp only [Bool.not_false, cond_true, cond_false, upd_self h]
    | true => simp only [Bool.not_true, cond_true, cond_false]; rw [eq_of_beq hg]
def prepE (c : Crew) (t : SlotS) (n v : Int) (d : Dig) : Int := bif !has c n then 110 else bif !viewB v then 190 else bif leaderI c v == n then 2 else saysI t.pre n v d
def prepT (c : Crew) (t : SlotS) (n v : Int) (d : Dig) : SlotS := bif prepE c t n v d == 0 then lookS c (SlotS.mk t.last t.prep (mput t.pre n (Wd.mk v d)) t.com t.q) else t
theorem upd_upd {f : Int → Option SlotS} {k : Int} {a b : SlotS} : upd (upd f k a) k b = upd f k b := by
  funext x; unfold upd; split <;> rfl
theorem prepI_at {s : SlS} {k n v : Int} {t : SlotS} {d : Dig} (h : s.f k = some t) : prepI s n v k d = (SlS.mk s.crew s.low (upd s.f k (prepT s.crew t n v d)), prepE s.crew t n v d) := by
  have hs : SlS.mk s.crew s.low (upd s.f k t) = s := slS_self h
  unfold prepI prepT prepE hearI
  rw [h]
  cases has s.crew n <;> simp only [Bool.not_true, Bool.not_false, cond_true, cond_false]
  · simp [hs]
  cases viewB v <;> simp only [Bool.not_true, Bool.not_false, cond_true, cond_false, Bool.true_and]
  · simp [hs]
  cases leaderI s.crew v == n <;> simp only [Bool.not_true, Bool.not_false, cond_true, cond_false]
  · cases hg : saysI t.pre n v d == 0 with
    | false => simp only [bne, hg, Bool.not_false, cond_true, cond_false, hs]
    | true =>
      simp only [bne, hg, Bool.not_true, cond_false, cond_true, upd_at, upd_upd, beq_self_eq_true]
      rw [eq_of_beq hg]
  · simp [hs]
def comE (c : Crew) (t : SlotS) (n v : Int) (d : Dig) : Int := bif !has c n then 110 else bif !viewB v then 190 else saysI t.com n v d
def comT (c : Crew) (t : SlotS) (n v : Int) (d : Dig) : SlotS := bif comE c t n v d == 0 then SlotS.mk t.last t.prep t.pre (mput t.com n (Wd.mk v d)) t.q else t
theorem comI_at {s : SlS} {k n v : Int} {t : SlotS} {d : Dig} (h : s.f k = some t) : hearI false s n v k d true = (SlS.mk s.crew s.low (upd s.f k (comT s.crew t n v d)), comE s.crew t n v d) := by
  have hs : SlS.mk s.crew s.low (upd s.f k t) = s := slS_self h
  unfold hearI comT comE
  rw [h]
  cases has s.crew n <;> simp only [Bool.not_true, Bool.not_false, cond_true, cond_false, Bool.false_and]
  · simp [hs]
  cases viewB v <;> simp only [Bool.not_true, Bool.not_false, cond_true, cond_false]
  · simp [hs]
  cases hg : saysI t.com n v d == 0 with
  | false => simp only [bne, hg, Bool.not_false, cond_true, cond_false, hs]
  | true => simp only [bne, hg, Bool.not_true, cond_false, cond_true]; rw [eq_of_beq hg]
/-! ### Sorting what is sorted -/
theorem isJ_sorted {p : Stand → Stand → Int} {l : List Stand} (h : ∀ j, j + 1 < l.length → ¬ p (l.getD (j + 1) default) (l.getD j default) < 0) : ∀ j, j < l.length → isJ p j l = l
  | 0, _ => rfl
  | j + 1, hj => by unfold isJ; rw [decide_eq_false (h j hj)]; rfl
theorem isI_sorted {p : Stand → Stand → Int} {l : List Stand} (h : ∀ j, j + 1 < l.length → ¬ p (l.getD (j + 1) default) (l.getD j default) < 0) : ∀ f i, i + f ≤ l.length → isI p f i l = l
  | 0, _, _ => rfl
  | f + 1, i, hi => by unfold isI; rw [isJ_sorted h i (by omega)]; exact isI_sorted h f (i + 1) (by omega)
theorem isortG_sorted {p : Stand → Stand → Int} {l : List Stand} (h : ∀ j, j + 1 < l.length → ¬ p (l.getD (j + 1) default) (l.getD j default) < 0) : isortG p l = l := by
  unfold isortG
  cases l with
  | nil => rfl
  | cons x r => exact isI_sorted h _ 1 (by simp; omega)
theorem isortG_pair {l : List Stand} (h : l.Pairwise (fun a b => ¬ ordS b a < 0)) : isortG ordS l = l := by
  refine isortG_sorted fun j hj => ?_
  rw [List.pairwise_iff_getElem] at h
  have := h j (j + 1) (by omega) hj (by omega)
  rw [List.getD_eq_getElem?_getD, List.getD_eq_getElem?_getD, List.getElem?_eq_getElem hj, List.getElem?_eq_getElem (by omega : j < l.length)]
  exact this
theorem ordS_view {a b : Stand} (hs : a.seq = b.seq) (hv : a.view < b.view) : ordS b a = 1 := by
  unfold ordS cmpI
  rw [if_neg (by omega), if_neg (by omega), if_neg (by omega), if_pos hv]; rfl
/-- What a number's Q is, that grows by views. -/
structure QInv (k : Int) (q : List Stand) : Prop where
  seq : ∀ a ∈ q, a.seq = k
  up : q.Pairwise (fun a b => a.view < b.view)
  dig : q.Pairwise (fun a b => a.dig ≠ b.dig)
  len : q.length ≤ 4
theorem QInv.nil (k : Int) : QInv k [] := ⟨by simp, .nil, .nil, by simp⟩
theorem QInv.sub {k : Int} {q q' : List Stand} (h : QInv k q) (hs : q'.Sublist q) : QInv k q' :=
  ⟨fun a ha => h.seq a (hs.subset ha), h.up.sublist hs, h.dig.sublist hs, Nat.le_trans hs.length_le h.len⟩
/-- The rest that a new digest leaves. -/
def keepQ (q : List Stand) (d : Dig) : List Stand :=
  bif decide ((4 : Int) ≤ (((q.filter (fun a => !decide (a.dig = d))).length : Nat) : Int)) then List.drop 1 (q.filter (fun a => !decide (a.dig = d))) else q.filter (fun a => !decide (a.dig = d))
theorem keepQ_sub (q : List Stand) (d : Dig) : (keepQ q d).Sublist q := by
  unfold keepQ
  cases decide ((4 : Int) ≤ (((q.filter (fun a => !decide (a.dig = d))).length : Nat) : Int)) with
  | true => exact (List.drop_sublist _ _).trans List.filter_sublist
  | false => exact List.filter_sublist
theorem keepQ_ne {q : List Stand} {d : Dig} : ∀ a ∈ keepQ q d, a.dig ≠ d := by
  intro a ha
  have hs : (keepQ q d).Sublist (q.filter (fun a => !decide (a.dig = d))) := by
    unfold keepQ
    cases decide ((4 : Int) ≤ (((q.filter (fun a => !decide (a.dig = d))).length : Nat) : Int)) with
    | true => exact List.drop_sublist _ _
    | false => exact List.Sublist.refl _
  have := (List.mem_filter.1 (hs.subset ha)).2
  simpa using this
theorem keepQ_len {q : List Stand} {d : Dig} (h : q.length ≤ 4) : (keepQ q d).length ≤ 3 := by
  unfold keepQ
  have h1 := List.length_filter_le (fun a => !decide (a.dig = d)) q
  cases hc : decide ((4 : Int) ≤ (((q.filter (fun a => !decide (a.dig = d))).length : Nat) : Int)) with
  | true => rw [cond_true, List.length_drop]; omega
  | false => have := of_decide_eq_false hc; rw [cond_false]; omega
theorem propQ_eq {q : List Stand} {k v : Int} {d : Dig} (h : QInv k q) (hv : ∀ a ∈ q, a.dig ≠ d → a.view < v) : propQ q k d v = keepQ q d ++ [Stand.mk k d v] ∧ QInv k (keepQ q d ++ [Stand.mk k d v]) := by
  have hk := h.sub (keepQ_sub q d)
  have hlt : ∀ a ∈ keepQ q d, a.view < v := fun a ha => hv a ((keepQ_sub q d).subset ha) (keepQ_ne a ha)
  have hQ : QInv k (keepQ q d ++ [Stand.mk k d v]) := by
    refine ⟨fun a ha => ?_, ?_, ?_, by rw [List.length_append]; have := keepQ_len (d := d) h.len; simp; omega⟩
    · rcases List.mem_append.1 ha with ha | ha
      · exact hk.seq a ha
      · rw [List.mem_singleton.1 ha]
    · rw [List.pairwise_append]; exact ⟨hk.up, List.pairwise_singleton _ _, fun a ha b hb => by rw [List.mem_singleton.1 hb]; exact hlt a ha⟩
    · rw [List.pairwise_append]; exact ⟨hk.dig, List.pairwise_singleton _ _, fun a ha b hb => by rw [List.mem_singleton.1 hb]; exact keepQ_ne a ha⟩
  refine ⟨?_, hQ⟩
  show isortG ordS (keepQ q d ++ [Stand.mk k d v]) = _
  refine isortG_pair ?_
  refine hQ.up.imp_of_mem fun {a b} ha hb hab => ?_
  rw [ordS_view ((hQ.seq a ha).trans (hQ.seq b hb).symm) hab]; decide
/-! ### Counting -/
theorem count_over {p : Int → Bool} : ∀ {L K : List Int}, K.Nodup → L.Nodup → (∀ x ∈ K, x ∈ L) → (∀ x ∈ L, p x = true → x ∈ K) → K.countP p = L.countP p := by
  intro L K hK hL h1 h2
  have hp : (K.filter p).Perm (L.filter p) := by
    rw [List.perm_ext_iff_of_nodup (hK.filter _) (hL.filter _)]
    intro a
    simp only [List.mem_filter]
    exact ⟨fun ⟨x, y⟩ => ⟨h1 a x, y⟩, fun ⟨x, y⟩ => ⟨h2 a x y, y⟩⟩
  rw [List.countP_eq_length_filter, List.countP_eq_length_filter]; exact hp.length_eq
/-! ### SlotsKeeps -/
theorem ready_no {c : Crew} {t : SlotS} (hc : c.faults = 1 ∨ c.faults = 2) (h : ∀ n, mget t.pre n = some t.last → False) : readyI c t = false := by
  unfold readyI
  cases decide (t.last = silence) with
  | true => rfl
  | false =>
    have : cntK t (leaderI c t.last.view) (t.pre.map (·.1)) = 0 := by
      unfold cntK; rw [List.countP_eq_zero]; intro k _ hk
      simp only [Bool.and_eq_true, decide_eq_true_eq] at hk
      exact h k hk.1
    rw [this, cond_false]
    rcases hc with hc | hc <;> rw [hc] <;> rfl
structure KSlot (t : SlotS) (v : Int) : Prop where
  lastv : t.last.view < v
  pre : ∀ n w, mget t.pre n = some w → w.view < v
  nd : (t.pre.map (·.1)).Nodup
  ks : ∀ k ∈ t.pre.map (·.1), k ∈ [(1 : Int), 2, 3, 4]
  q : QInv 1 t.q
  qv : ∀ a ∈ t.q, a.view < v
/-- In the midst of a round. -/
structure KMid (t : SlotS) (v : Int) (d : Dig) (q : List Stand) : Prop where
  last : t.last = Wd.mk v d
  pre : ∀ n w, mget t.pre n = some w → w.view < v ∨ w = Wd.mk v d
  nd : (t.pre.map (·.1)).Nodup
  ks : ∀ k ∈ t.pre.map (·.1), k ∈ [(1 : Int), 2, 3, 4]
  qe : t.q = q
  rd : readyI (crewI 1) t = true → t.prep = t.last
theorem lookS_fields (c : Crew) (t : SlotS) : (lookS c t).last = t.last ∧ (lookS c t).pre = t.pre ∧ (lookS c t).com = t.com ∧ (lookS c t).q = t.q := by
  unfold lookS; cases readyI c t <;> exact ⟨rfl, rfl, rfl, rfl⟩
/-- What SlotsKeeps keeps to. -/
structure KJ (s : SlS) (k : Nat) (want : List Stand) : Prop where
  crew : s.crew = crewI 1
  low : s.low = 0
  others : ∀ j, j ≠ 1 → s.f j = f0 0 j
  at1 : ∃ t, s.f 1 = some t ∧ KSlot t k ∧ ((t.prep = silence ∧ want = []) ∨ (t.prep ≠ silence ∧ want = [Stand.mk 1 t.prep.dig t.prep.view]))
end Go.Proofs.YtljcgggflgbenaaDoor
