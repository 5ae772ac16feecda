/- Both, call by call: Propose, Prepare, Commit, Raise, New, and what is told. No condition. -/
import Derived.Test.YtljcgggflgbenaaGreatDoorZlLaw1
set_option linter.all false
namespace Go.Proofs.YtljcgggflgbenaaGreatDoor
open Go Go.Gx
def QS (m : RfS) : Prop := ∀ (i : Nat) (t : RSlot), m.l[i]? = some t → QOk (m.low + 1 + i) t.q
structure SimQ (s : SlS) (m : RfS) : Prop where
  sim : Sim s m
  q : QS m
theorem QS.set {m : RfS} {i : Nat} {t' : RSlot} (h : QS m) (hq : i < m.l.length → QOk (m.low + 1 + i) t'.q) : QS (setL m i t') := by
  intro j u hu
  rcases set_get' hu with ⟨rfl, rfl⟩ | ⟨_, h2⟩
  · have h3 := (List.getElem?_eq_some_iff.1 hu).1
    have h3 : i < (m.l.set i u).length := h3
    rw [List.length_set] at h3
    exact hq h3
  · exact h j u h2
theorem QS.keep {m : RfS} {i : Nat} {a d : RVt} {b c : List RVt} (h : QS m) : QS (setL m i (RSlot.mk a b c d (slR m i).q)) :=
  h.set fun hl => by
    have := h i _ (List.getElem?_eq_getElem hl)
    rw [slR_eq (List.getElem?_eq_getElem hl)]; exact this
theorem QS.look {m : RfS} {i : Nat} (h : QS m) : QS (lookR m i) := by
  unfold lookR
  cases prepR m i with
  | true => exact h.keep
  | false => exact h
theorem setL2 {m : RfS} {i : Nat} {a b : RSlot} : setL (setL m i a) i b = setL m i b := by
  show RfS.mk _ _ _ ((m.l.set i a).set i b) = _
  rw [List.set_set]
theorem SimQ.propose {s : SlS} {m : RfS} {v k : Int} {d : Dig} (h : SimQ s m) (hk : I6 k) : SimQ (propI s v k d).1 (propR m v k d).1 ∧ (propI s v k d).2 = (propR m v k d).2 := by
  unfold propI propR
  cases hv : viewB v with
  | false => exact ⟨h, rfl⟩
  | true =>
    simp only [Bool.not_true, cond_false]
    rcases h.sim.two hk with ⟨h1, h2⟩ | ⟨a, t, h1, h2, h3, h4, h5, h6⟩
    · rw [h1, h2]; exact ⟨h, rfl⟩
    · rw [h1, h2, h4]
      simp only [Bool.not_true, cond_false]
      rw [h5.last.goes (viewB_nn hv)]
      unfold saidI
      cases c1 : t.last.has && decide (v < t.last.view) with
      | true => exact ⟨h, rfl⟩
      | false =>
        simp only [cond_false]
        cases c2 : t.last.has && (t.last.view == v) && !decide (t.last.dig = d) with
        | true => exact ⟨h, rfl⟩
        | false =>
          simp only [cond_false, setL2]
          refine ⟨?_, rfl⟩
          have hq := h.q _ _ h3
          rw [← h6] at hq
          have hw : WV (Wd.mk v d) (RVt.mk true v d) := .inr ⟨rfl, rfl, viewB_nn hv⟩
          have hst : ST m.crew.nodes (SlotS.mk (Wd.mk v d) a.prep a.pre a.com (propQ a.q k d v)) (RSlot.mk (RVt.mk true v d) t.pre t.com t.p (withR t.q (Stand.mk k d v))) :=
            ⟨hw, h5.prep, h5.pre, h5.com, by rw [h5.q]; exact prop_with hq⟩
          have h4' : (withR t.q (Stand.mk k d v)).length ≤ 4 := withR_len (h.sim.ok.q4 _ _ h3)
          have hp := h.sim.put h3 hst h4'
          have hl := hp.look' (i := ixR m k) (setL_at h3) (upd_at _ _ _) hst
          refine ⟨?_, (QS.set h.q fun _ => ?_).look⟩
          · show Sim (SlS.mk s.crew s.low (upd s.f k (lookS s.crew _))) _
            have e : m.low + 1 + ((ixR m k : Nat) : Int) = k := h6.symm
            have hl : Sim (SlS.mk s.crew s.low (upd (upd s.f (m.low + 1 + ((ixR m k : Nat) : Int)) _) (m.low + 1 + ((ixR m k : Nat) : Int)) _)) _ := hl
            rw [upd2, e] at hl
            exact hl
          · rw [← h6]; exact with_ok hq
theorem SimQ.prepare {s : SlS} {m : RfS} {n v k : Int} {d : Dig} (h : SimQ s m) (hk : I6 k) : SimQ (prepI s n v k d).1 (preR m n v k d).1 ∧ (prepI s n v k d).2 = (preR m n v k d).2 := by
  obtain ⟨h1, h2⟩ := h.sim.prepare (n := n) (v := v) (d := d) hk (by rw [← h.sim.crew]; exact has_any h.sim.ok.crew n)
  refine ⟨⟨h1, ?_⟩, h2⟩
  unfold preR
  cases decide (plR m n < 0) <;> simp only [cond_true, cond_false]
  · cases !viewB v <;> simp only [cond_true, cond_false]
    · cases leaderI m.crew v == n <;> simp only [cond_true, cond_false]
      · cases !inR m k <;> simp only [cond_true, cond_false]
        · cases saidI ((slR m (ixR m k)).pre.getD (plR m n).toNat default) v d != 0 <;> simp only [cond_true, cond_false]
          · exact (QS.keep h.q).look
          · exact h.q
        · exact h.q
      · exact h.q
    · exact h.q
  · exact h.q
theorem SimQ.commit {s : SlS} {m : RfS} {n v k : Int} {d : Dig} (h : SimQ s m) (hk : I6 k) : SimQ (hearI false s n v k d true).1 (comR m n v k d).1 ∧ (hearI false s n v k d true).2 = (comR m n v k d).2 := by
  obtain ⟨h1, h2⟩ := h.sim.commit (n := n) (v := v) (d := d) hk (by rw [← h.sim.crew]; exact has_any h.sim.ok.crew n)
  refine ⟨⟨h1, ?_⟩, h2⟩
  unfold comR
  cases decide (plR m n < 0) <;> simp only [cond_true, cond_false]
  · cases !viewB v <;> simp only [cond_true, cond_false]
    · cases !inR m k <;> simp only [cond_true, cond_false]
      · cases saidI ((slR m (ixR m k)).com.getD (plR m n).toNat default) v d != 0 <;> simp only [cond_true, cond_false]
        · exact QS.keep h.q
        · exact h.q
      · exact h.q
    · exact h.q
  · exact h.q
theorem WV.nil_ : WV silence (RVt.mk false 0 Dig.zero) := .inl ⟨rfl, rfl⟩
theorem ST.nil_ (nodes : List Int) : ST nodes newS (emptyR nodes.length) := ⟨WV.nil_, WV.nil_, MV.nil_ nodes, MV.nil_ nodes, rfl⟩
theorem SimQ.raise {s : SlS} {m : RfS} {low : Int} (h : SimQ s m) (hok : SlOk s) : SimQ (raiseI s low).1 (raiseR m low).1 ∧ (raiseI s low).2 = (raiseR m low).2 := by
  have hd := (SlOk.raise (low := low) hok).dom
  unfold raiseI at hd
  unfold raiseI raiseR
  rw [h.sim.low]
  cases hb : (decide (low < s.low) || !lowB low) with
  | true => exact ⟨h, rfl⟩
  | false =>
    rw [hb] at hd
    simp only [cond_false] at hd ⊢
    refine ⟨?_, trivial⟩
    simp at hb
    have hge := hb.1
    have hlo := lowR_lo hb.2
    have hhi := lowR_hi hb.2
    rw [← h.sim.low] at hge ⊢
    have hlen := h.sim.ok.len
    have h8 : (m.l.drop (low - m.low).toNat ++ List.replicate (min (low - m.low).toNat 8) (emptyR m.crew.nodes.length)).length = 8 := by
      rw [List.length_append, List.length_drop, List.length_replicate, hlen]; omega
    have hro := h.sim.ok.raise rfl h8
    have key : ∀ (i : Nat) (t : RSlot), (m.l.drop (low - m.low).toNat ++ List.replicate (min (low - m.low).toNat 8) (emptyR m.crew.nodes.length))[i]? = some t →
        (m.l[(low - m.low).toNat + i]? = some t) ∨ (8 ≤ (low - m.low).toNat + i ∧ t = emptyR m.crew.nodes.length) := fun i t ht => by
      rw [List.getElem?_append] at ht
      split at ht
      · left; rw [List.getElem?_drop] at ht; exact ht
      · rename_i hi
        rw [List.length_drop, hlen] at hi
        exact .inr ⟨by omega, (List.mem_replicate.1 (List.mem_of_getElem? ht)).2⟩
    refine ⟨⟨h.sim.crew, rfl, ⟨hro.crew, ⟨hlo, hhi⟩, hro.len, hro.pre, hro.com, hro.q4⟩, h.sim.nd, h.sim.len, h.sim.pos, fun k => ?_, fun i t ht => ?_⟩, fun i t ht => ?_⟩
    · have := hd k
      show fillN (raiseF s.f low) (low + 1) 8 k = none ↔ ¬ (low < k ∧ k ≤ low + 8)
      cases hf : fillN (raiseF s.f low) (low + 1) 8 k with
      | none =>
        rw [hf] at this
        have this : false = (decide (low < k) && decide (k ≤ low + 8)) := this
        simp at this ⊢; omega
      | some u =>
        rw [hf] at this
        have this : true = (decide (low < k) && decide (k ≤ low + 8)) := this
        simp at this ⊢; omega
    · show ∃ a, fillN (raiseF s.f low) (low + 1) 8 (low + 1 + i) = some a ∧ ST m.crew.nodes a t
      have hi8 : i < 8 := by
        have := (List.getElem?_eq_some_iff.1 ht).1
        have this : i < (m.l.drop (low - m.low).toNat ++ List.replicate (min (low - m.low).toNat 8) (emptyR m.crew.nodes.length)).length := this
        omega
      rw [fillN_eq, if_pos (by omega)]
      have e0 : raiseF s.f low (low + 1 + i) = s.f (low + 1 + i) := by unfold raiseF; rw [if_neg (by omega)]
      rw [e0]
      rcases key i t ht with h1 | ⟨h1, rfl⟩
      · obtain ⟨a, ha, hs⟩ := h.sim.at_ _ _ h1
        rw [show low + 1 + (i : Int) = m.low + 1 + (((low - m.low).toNat + i : Nat) : Int) from by omega, ha]
        exact ⟨a, rfl, hs⟩
      · rw [(h.sim.none_ _).2 (by omega)]
        exact ⟨newS, rfl, ST.nil_ _⟩
    · show QOk (low + 1 + i) t.q
      rcases key i t ht with h1 | ⟨h1, rfl⟩
      · have := h.q _ _ h1
        rw [show low + 1 + (i : Int) = m.low + 1 + (((low - m.low).toNat + i : Nat) : Int) from by omega]; exact this
      · exact ⟨fun _ hy => (List.not_mem_nil hy).elim, List.Pairwise.nil⟩
theorem sim_new0 {c : Crew} {self low : Int} (hc : check c = 0) (hlo : lowB low = true) : SimQ (newSl c low) (newR c self low) := by
  obtain ⟨r1, r2⟩ := rises_ok (check_rises hc)
  have hat : ∀ (i : Nat) (t : RSlot), (newR c self low).l[i]? = some t → i < 8 ∧ t = emptyR c.nodes.length := fun i t ht => by
    have := (List.getElem?_eq_some_iff.1 ht).1
    exact ⟨by simpa [newR] using this, (List.mem_replicate.1 (List.mem_of_getElem? ht)).2⟩
  refine ⟨⟨rfl, rfl, ⟨hc, ⟨lowR_lo hlo, lowR_hi hlo⟩, by simp [newR], fun i t ht => ?_, fun i t ht => ?_, fun i t ht => ?_⟩, r1.imp (fun h => by omega), new_l7 (c := c) (by rw [hc]; rfl), fun n hn => (r2 n hn).2, fun k => ?_, fun i t ht => ?_⟩, fun i t ht => ?_⟩
  · obtain ⟨_, rfl⟩ := hat i t ht; exact List.length_replicate ..
  · obtain ⟨_, rfl⟩ := hat i t ht; exact List.length_replicate ..
  · obtain ⟨_, rfl⟩ := hat i t ht; exact Nat.zero_le _
  · show fillN (fun _ => none) (low + 1) 8 k = none ↔ ¬ (low < k ∧ k ≤ low + 8)
    rw [fillN_eq]
    split
    · exact ⟨fun h => (nomatch h), fun h => absurd h (by omega)⟩
    · exact ⟨fun _ => by omega, fun _ => rfl⟩
  · obtain ⟨h8, rfl⟩ := hat i t ht
    show ∃ a, fillN (fun _ => none) (low + 1) 8 (low + 1 + i) = some a ∧ ST c.nodes a _
    rw [fillN_eq, if_pos (by omega)]
    exact ⟨newS, rfl, ST.nil_ _⟩
  · obtain ⟨h8, rfl⟩ := hat i t ht
    exact ⟨fun _ hy => (List.not_mem_nil hy).elim, List.Pairwise.nil⟩
theorem sim_new {c : Crew} {self low : Int} (h : newOk c self low = true) : SimQ (newSl c low) (newR c self low) :=
  sim_new0 (by simpa using newOk_1 h) (newOk_3 h)
theorem newOk_R {c : Crew} {self low : Int} (h : newOk c self low = true) : newOkR c self low = true := by rw [← newOk_eq]; exact h
theorem newOk_N {c : Crew} {self low : Int} (h : newOk c self low = false) : newOkR c self low = false := by rw [← newOk_eq]; exact h
theorem sim_err {c : Crew} {self : Int} : errI c self = errR c self := by unfold errI errR; rw [has_R]
/-! ### What is told -/
theorem SimQ.p {s : SlS} {m : RfS} (h : SimQ s m) : ∀ i, i ≤ 8 → pI s.f (s.low + 1) i = pR m i
  | 0, _ => rfl
  | i + 1, hi => by
    have ht := List.getElem?_eq_getElem (l := m.l) (i := i) (by rw [h.sim.ok.len]; omega)
    generalize m.l[i]'(by rw [h.sim.ok.len]; omega) = t at ht
    obtain ⟨a, ha, hs⟩ := h.sim.at_ i t ht
    obtain ⟨l1, l2⟩ := h.sim.ok.low
    unfold pI pR pAt
    rw [h.p i (by omega), ← h.sim.low, ha, show m.l.getD i default = t from slR_eq ht]
    show pR m i ++ (bif decide (a.prep = silence) then [] else _) = _
    rw [hs.prep.has, IntWalk.i64_in (m.low + 1) (by omega), IntWalk.i64_in (m.low + 1 + (i : Int)) (by omega)]
    rcases hs.prep with ⟨e1, e2⟩ | ⟨e1, e2, e3⟩
    · rw [e1]; rfl
    · rw [e1, e2]; rfl
theorem SimQ.q' {s : SlS} {m : RfS} (h : SimQ s m) : ∀ i, i ≤ 8 → qI s.f (s.low + 1) i = qR m i
  | 0, _ => rfl
  | i + 1, hi => by
    have ht := List.getElem?_eq_getElem (l := m.l) (i := i) (by rw [h.sim.ok.len]; omega)
    generalize m.l[i]'(by rw [h.sim.ok.len]; omega) = t at ht
    obtain ⟨a, ha, hs⟩ := h.sim.at_ i t ht
    unfold qI qR qAt
    rw [h.q' i (by omega), ← h.sim.low, ha, show m.l.getD i default = t from slR_eq ht]
    show qR m i ++ a.q = _
    rw [hs.q]
theorem sim_tells {s : SlS} {m : RfS} (h : SimQ s m) : Tells s m :=
  ⟨h.sim.low.symm, h.p 8 (Nat.le_refl _), h.q' 8 (Nat.le_refl _), fun _ hk => (h.sim.at' hk).symm, fun _ hk => (h.sim.prepared hk).symm, fun _ hk => (h.sim.committed hk).symm⟩
end Go.Proofs.YtljcgggflgbenaaGreatDoor
