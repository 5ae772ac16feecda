/- What slots come to, number by number. No condition. -/
import Derived.Test.YtljcgggflgbenaaDoorSlG4
set_option linter.all false
namespace Go.Proofs.YtljcgggflgbenaaDoor
open Go Go.Gx Go.RowKit
/-! ### One number -/
def propE (t : SlotS) (v : Int) (d : Dig) : Int := bif !viewB v then 190 else goesI t.last v d
def propT (c : Crew) (t : SlotS) (k v : Int) (d : Dig) : SlotS := bif propE t v d == 0 then propS c t k d v else t
theorem propI_at {s : SlS} {k v : Int} {t : SlotS} {d : Dig} (h : s.f k = some t) : propI s v k d = (SlS.mk s.crew s.low (upd s.f k (propT s.crew t k v d)), propE t v d) := by
  unfold propI propT propE
  rw [h]
  cases viewB v with
  | false => simp [upd_self h]
  | true =>
    simp only [Bool.not_true, cond_false, bne]
    cases hg : goesI t.last v d == 0 with
    | false => simp only [Bool.not_false, cond_true, cond_false, upd_self h]
    | true => simp only [Bool.not_true, cond_true, cond_false]; rw [eq_of_beq hg]
def prepE (c : Crew) (t : SlotS) (n v : Int) (d : Dig) : Int := bif !has c n then 110 else bif !viewB v then 190 else bif leaderI c v == n then 2 else saysI t.pre n v d
def prepT (c : Crew) (t : SlotS) (n v : Int) (d : Dig) : SlotS := bif prepE c t n v d == 0 then lookS c (SlotS.mk t.last t.prep (mput t.pre n (Wd.mk v d)) t.com t.q) else t
theorem upd_upd {f : Int → Option SlotS} {k : Int} {a b : SlotS} : upd (upd f k a) k b = upd f k b := by
  funext x; unfold upd; split <;> rfl
theorem prepI_at {s : SlS} {k n v : Int} {t : SlotS} {d : Dig} (h : s.f k = some t) : prepI s n v k d = (SlS.mk s.crew s.low (upd s.f k (prepT s.crew t n v d)), prepE s.crew t n v d) := by
  have hs : SlS.mk s.crew s.low (upd s.f k t) = s := slS_self h
  unfold prepI prepT prepE hearI
  rw [h]
  cases has s.crew n <;> simp only [Bool.not_true, Bool.not_false, cond_true, cond_false]
  · simp [hs]
  cases viewB v <;> simp only [Bool.not_true, Bool.not_false, cond_true, cond_false, Bool.true_and]
  · simp [hs]
  cases leaderI s.crew v == n <;> simp only [Bool.not_true, Bool.not_false, cond_true, cond_false]
  · cases hg : saysI t.pre n v d == 0 with
    | false => simp only [bne, hg, Bool.not_false, cond_true, cond_false, hs]
    | true =>
      simp only [bne, hg, Bool.not_true, cond_false, cond_true, upd_at, upd_upd, beq_self_eq_true]
      rw [eq_of_beq hg]
  · simp [hs]
theorem prepI_mk {c : Crew} {lo n v k : Int} {f : Int → Option SlotS} {t : SlotS} {d : Dig} : prepI (SlS.mk c lo (upd f k t)) n v k d = (SlS.mk c lo (upd f k (prepT c t n v d)), prepE c t n v d) := by
  rw [prepI_at (s := SlS.mk c lo (upd f k t)) (upd_at f k t)]; simp only [upd_upd]
/-! ### Sorting what is sorted -/
theorem isJ_sorted {p : Stand → Stand → Int} {l : List Stand} (h : ∀ j, j + 1 < l.length → ¬ p (l.getD (j + 1) default) (l.getD j default) < 0) : ∀ j, j < l.length → isJ p j l = l
  | 0, _ => rfl
  | j + 1, hj => by unfold isJ; rw [decide_eq_false (h j hj)]; rfl
theorem isI_sorted {p : Stand → Stand → Int} {l : List Stand} (h : ∀ j, j + 1 < l.length → ¬ p (l.getD (j + 1) default) (l.getD j default) < 0) : ∀ f i, i + f ≤ l.length → isI p f i l = l
  | 0, _, _ => rfl
  | f + 1, i, hi => by unfold isI; rw [isJ_sorted h i (by omega)]; exact isI_sorted h f (i + 1) (by omega)
theorem isortG_sorted {p : Stand → Stand → Int} {l : List Stand} (h : ∀ j, j + 1 < l.length → ¬ p (l.getD (j + 1) default) (l.getD j default) < 0) : isortG p l = l := by
  unfold isortG
  cases l with
  | nil => rfl
  | cons x r => exact isI_sorted h _ 1 (by simp; omega)
theorem isortG_pair {l : List Stand} (h : l.Pairwise (fun a b => ¬ ordS b a < 0)) : isortG ordS l = l := by
  refine isortG_sorted fun j hj => ?_
  rw [List.pairwise_iff_getElem] at h
  have := h j (j + 1) (by omega) hj (by omega)
  rw [List.getD_eq_getElem?_getD, List.getD_eq_getElem?_getD, List.getElem?_eq_getElem hj, List.getElem?_eq_getElem (by omega : j < l.length)]
  exact this
theorem ordS_view {a b : Stand} (hs : a.seq = b.seq) (hv : a.view < b.view) : ordS b a = 1 := by
  unfold ordS cmpI
  rw [if_neg (by omega), if_neg (by omega), if_neg (by omega), if_pos hv]; rfl
/-- What a number's Q is, that grows by views. -/
structure QInv (k : Int) (q : List Stand) : Prop where
  seq : ∀ a ∈ q, a.seq = k
  up : q.Pairwise (fun a b => a.view < b.view)
  dig : q.Pairwise (fun a b => a.dig ≠ b.dig)
  len : q.length ≤ 4
theorem QInv.nil (k : Int) : QInv k [] := ⟨by simp, .nil, .nil, by simp⟩
theorem QInv.sub {k : Int} {q q' : List Stand} (h : QInv k q) (hs : q'.Sublist q) : QInv k q' :=
  ⟨fun a ha => h.seq a (hs.subset ha), h.up.sublist hs, h.dig.sublist hs, Nat.le_trans hs.length_le h.len⟩
/-- The rest that a new digest leaves. -/
def keepQ (q : List Stand) (d : Dig) : List Stand :=
  bif decide ((4 : Int) ≤ (((q.filter (fun a => !decide (a.dig = d))).length : Nat) : Int)) then List.drop 1 (q.filter (fun a => !decide (a.dig = d))) else q.filter (fun a => !decide (a.dig = d))
theorem keepQ_sub (q : List Stand) (d : Dig) : (keepQ q d).Sublist q := by
  unfold keepQ
  cases decide ((4 : Int) ≤ (((q.filter (fun a => !decide (a.dig = d))).length : Nat) : Int)) with
  | true => exact (List.drop_sublist _ _).trans List.filter_sublist
  | false => exact List.filter_sublist
theorem keepQ_ne {q : List Stand} {d : Dig} : ∀ a ∈ keepQ q d, a.dig ≠ d := by
  intro a ha
  have hs : (keepQ q d).Sublist (q.filter (fun a => !decide (a.dig = d))) := by
    unfold keepQ
    cases decide ((4 : Int) ≤ (((q.filter (fun a => !decide (a.dig = d))).length : Nat) : Int)) with
    | true => exact List.drop_sublist _ _
    | false => exact List.Sublist.refl _
  have := (List.mem_filter.1 (hs.subset ha)).2
  simpa using this
theorem keepQ_len {q : List Stand} {d : Dig} (h : q.length ≤ 4) : (keepQ q d).length ≤ 3 := by
  unfold keepQ
  have h1 := List.length_filter_le (fun a => !decide (a.dig = d)) q
  cases hc : decide ((4 : Int) ≤ (((q.filter (fun a => !decide (a.dig = d))).length : Nat) : Int)) with
  | true => rw [cond_true, List.length_drop]; omega
  | false => have := of_decide_eq_false hc; rw [cond_false]; omega
theorem propQ_eq {q : List Stand} {k v : Int} {d : Dig} (h : QInv k q) (hv : ∀ a ∈ q, a.dig ≠ d → a.view < v) : propQ q k d v = keepQ q d ++ [Stand.mk k d v] ∧ QInv k (keepQ q d ++ [Stand.mk k d v]) := by
  have hk := h.sub (keepQ_sub q d)
  have hlt : ∀ a ∈ keepQ q d, a.view < v := fun a ha => hv a ((keepQ_sub q d).subset ha) (keepQ_ne a ha)
  have hQ : QInv k (keepQ q d ++ [Stand.mk k d v]) := by
    refine ⟨fun a ha => ?_, ?_, ?_, by rw [List.length_append]; have := keepQ_len (d := d) h.len; simp; omega⟩
    · rcases List.mem_append.1 ha with ha | ha
      · exact hk.seq a ha
      · rw [List.mem_singleton.1 ha]
    · rw [List.pairwise_append]; exact ⟨hk.up, List.pairwise_singleton _ _, fun a ha b hb => by rw [List.mem_singleton.1 hb]; exact hlt a ha⟩
    · rw [List.pairwise_append]; exact ⟨hk.dig, List.pairwise_singleton _ _, fun a ha b hb => by rw [List.mem_singleton.1 hb]; exact keepQ_ne a ha⟩
  refine ⟨?_, hQ⟩
  show isortG ordS (keepQ q d ++ [Stand.mk k d v]) = _
  refine isortG_pair ?_
  refine hQ.up.imp_of_mem fun {a b} ha hb hab => ?_
  rw [ordS_view ((hQ.seq a ha).trans (hQ.seq b hb).symm) hab]; decide
/-! ### Counting -/
theorem count_over {p : Int → Bool} : ∀ {L K : List Int}, K.Nodup → L.Nodup → (∀ x ∈ K, x ∈ L) → (∀ x ∈ L, p x = true → x ∈ K) → K.countP p = L.countP p := by
  intro L K hK hL h1 h2
  have hp : (K.filter p).Perm (L.filter p) := by
    rw [List.perm_ext_iff_of_nodup (hK.filter _) (hL.filter _)]
    intro a
    simp only [List.mem_filter]
    exact ⟨fun ⟨x, y⟩ => ⟨h1 a x, y⟩, fun ⟨x, y⟩ => ⟨h2 a x y, y⟩⟩
  rw [List.countP_eq_length_filter, List.countP_eq_length_filter]; exact hp.length_eq
theorem mget_key {β : Type} {D : List (Int × β)} {x : Int} {y : β} (h : mget D x = some y) : x ∈ D.map (·.1) := mget_isSome.1 ⟨y, h⟩
/-- The count of those that say what was proposed, over any list that has all. -/
theorem cntK_over {x : SlotS} {ld : Int} {L : List Int} (hn : (x.pre.map (·.1)).Nodup) (hL : L.Nodup) (hs : ∀ k ∈ x.pre.map (·.1), k ∈ L) : cntK x ld (x.pre.map (·.1)) = cntK x ld L := by
  unfold cntK
  refine count_over hn hL hs (fun k _ hp => ?_)
  simp only [Bool.and_eq_true, decide_eq_true_eq] at hp
  exact mget_key hp.1
/-! ### SlotsKeeps -/
theorem view_sil {t : SlotS} {v : Int} (hv : 0 ≤ v) (h : t.last.view = v) : t.last ≠ silence := by
  intro e; rw [e] at h; have : (silence : Wd).view = -1 := rfl; omega
theorem ready_no {c : Crew} {t : SlotS} (hc : c.faults = 1 ∨ c.faults = 2) (h : ∀ n, mget t.pre n = some t.last → False) : readyI c t = false := by
  unfold readyI
  cases decide (t.last = silence) with
  | true => rfl
  | false =>
    have : cntK t (leaderI c t.last.view) (t.pre.map (·.1)) = 0 := by
      unfold cntK; rw [List.countP_eq_zero]; intro k _ hk
      simp only [Bool.and_eq_true, decide_eq_true_eq] at hk
      exact h k hk.1
    rw [this, cond_false]
    rcases hc with hc | hc <;> rw [hc] <;> rfl
theorem leader_in {v : Int} (hv : 0 ≤ v) : leaderI (crewI 1) v ∈ [(1 : Int), 2, 3, 4] := by
  unfold leaderI
  rw [show (check (crewI 1) != 0) = false from by decide +kernel, decide_eq_false (by omega : ¬ v < 0)]
  show (crewI 1).nodes.getD (v.toNat % 4) 0 ∈ _
  have : v.toNat % 4 < 4 := Nat.mod_lt _ (by decide)
  generalize v.toNat % 4 = m at this
  match m, this with
  | 0, _ => decide
  | 1, _ => decide
  | 2, _ => decide
  | 3, _ => decide
structure KSlot (t : SlotS) (v : Int) : Prop where
  lastv : t.last.view < v
  pre : ∀ n w, mget t.pre n = some w → w.view < v
  nd : (t.pre.map (·.1)).Nodup
  ks : ∀ k ∈ t.pre.map (·.1), k ∈ [(1 : Int), 2, 3, 4]
  q : QInv 1 t.q
  qv : ∀ a ∈ t.q, a.view < v
/-- In the midst of a round. -/
structure KMid (t : SlotS) (v : Int) (d : Dig) (q : List Stand) : Prop where
  last : t.last = Wd.mk v d
  pre : ∀ n w, mget t.pre n = some w → w.view < v ∨ w = Wd.mk v d
  nd : (t.pre.map (·.1)).Nodup
  ks : ∀ k ∈ t.pre.map (·.1), k ∈ [(1 : Int), 2, 3, 4]
  qe : t.q = q
  rd : readyI (crewI 1) t = true → t.prep = t.last
theorem lookS_fields (c : Crew) (t : SlotS) : (lookS c t).last = t.last ∧ (lookS c t).pre = t.pre ∧ (lookS c t).com = t.com ∧ (lookS c t).q = t.q := by
  unfold lookS; cases readyI c t <;> exact ⟨rfl, rfl, rfl, rfl⟩
theorem ready_look (c : Crew) (t : SlotS) : readyI c (lookS c t) = readyI c t := by
  unfold lookS; cases h : readyI c t with
  | false => exact h
  | true => exact h
theorem look_rd (c : Crew) (t : SlotS) : readyI c (lookS c t) = true → (lookS c t).prep = (lookS c t).last := by
  intro h; rw [ready_look] at h; unfold lookS; rw [h]; rfl
theorem mput_key {β : Type} {D : List (Int × β)} {n k : Int} {y : β} (h : k ∈ (mput D n y).map (·.1)) : k = n ∨ k ∈ D.map (·.1) := by
  obtain ⟨z, hz⟩ := mget_isSome.2 h
  rw [mget_mput] at hz
  by_cases hn : n = k
  · exact .inl hn.symm
  · rw [if_neg hn] at hz; exact .inr (mget_key hz)
theorem k_prop {t : SlotS} {v : Int} {d : Dig} (hv : 0 ≤ v ∧ v ≤ 1048576) (h : KSlot t v) : propE t v d = 0 ∧ KMid (propT (crewI 1) t 1 v d) v d (keepQ t.q d ++ [Stand.mk 1 d v]) ∧ (propT (crewI 1) t 1 v d).prep = t.prep ∧ QInv 1 (keepQ t.q d ++ [Stand.mk 1 d v]) ∧
    (propT (crewI 1) t 1 v d).pre = t.pre := by
  obtain ⟨hq1, hq2⟩ := propQ_eq (v := v) (d := d) h.q (fun a ha _ => h.qv a ha)
  have hE : propE t v d = 0 := by
    unfold propE goesI
    have hb : viewB v = true := by unfold viewB; simp [hv.1, hv.2]
    have hl := h.lastv
    rw [hb, decide_eq_false (by omega : ¬ v < t.last.view), show (t.last.view == v) = false by simp; omega]; rfl
  have hno : readyI (crewI 1) (SlotS.mk (Wd.mk v d) t.prep t.pre t.com (propQ t.q 1 d v)) = false :=
    ready_no (.inl rfl) (fun n hn => by have := h.pre n _ hn; simp at this)
  have hT : propT (crewI 1) t 1 v d = SlotS.mk (Wd.mk v d) t.prep t.pre t.com (propQ t.q 1 d v) := by
    unfold propT propS; rw [hE]; unfold lookS; rw [hno]; rfl
  refine ⟨hE, ?_, by rw [hT], hq2, by rw [hT]⟩
  rw [hT]
  exact ⟨rfl, fun n w hw => .inl (h.pre n w hw), h.nd, h.ks, hq1, fun hr => by rw [hno] at hr; cases hr⟩
theorem k_prep {t : SlotS} {v n : Int} {d : Dig} {q : List Stand} (hv : 0 ≤ v ∧ v ≤ 1048576) (hn : n ∈ [(1 : Int), 2, 3, 4]) (h : KMid t v d q) :
    KMid (prepT (crewI 1) t n v d) v d q ∧ (∀ m, mget t.pre m = some (Wd.mk v d) → mget (prepT (crewI 1) t n v d).pre m = some (Wd.mk v d)) ∧ (n ≠ leaderI (crewI 1) v → mget (prepT (crewI 1) t n v d).pre n = some (Wd.mk v d)) := by
  have hb : viewB v = true := by unfold viewB; simp [hv.1, hv.2]
  have hh : has (crewI 1) n = true := by
    simp only [List.mem_cons, List.not_mem_nil, or_false] at hn
    rcases hn with rfl | rfl | rfl | rfl <;> decide +kernel
  by_cases hl : leaderI (crewI 1) v = n
  · have hE : prepE (crewI 1) t n v d = 2 := by unfold prepE; rw [hh, hb, hl]; simp
    have hT : prepT (crewI 1) t n v d = t := by unfold prepT; rw [hE]; rfl
    rw [hT]; exact ⟨h, fun _ h => h, fun hne => absurd hl.symm hne⟩
  · have hE : prepE (crewI 1) t n v d = 0 := by
      unfold prepE; rw [hh, hb, show (leaderI (crewI 1) v == n) = false by simpa using hl]
      unfold saysI wordOf
      cases hm : mget t.pre n with
      | none => rfl
      | some w =>
        simp only [Option.isSome_some, Option.getD_some, cond_true, Bool.not_true, cond_false]
        unfold goesI
        rcases h.pre n w hm with h1 | h1
        · rw [decide_eq_false (by omega : ¬ v < w.view), show (w.view == v) = false by simp; omega]; rfl
        · subst h1; simp
    have hT : prepT (crewI 1) t n v d = lookS (crewI 1) (SlotS.mk t.last t.prep (mput t.pre n (Wd.mk v d)) t.com t.q) := by unfold prepT; rw [hE]; rfl
    obtain ⟨f1, f2, f3, f4⟩ := lookS_fields (crewI 1) (SlotS.mk t.last t.prep (mput t.pre n (Wd.mk v d)) t.com t.q)
    rw [hT]
    refine ⟨⟨f1.trans h.last, fun m w hw => ?_, ?_, fun k hk => ?_, f4.trans h.qe, look_rd _ _⟩, fun m hm => ?_, fun _ => ?_⟩
    · rw [f2] at hw; simp only [mget_mput] at hw; split at hw
      · simp at hw; exact .inr hw.symm
      · exact h.pre m w hw
    · rw [f2]; exact mput_nodup _ _ h.nd
    · rw [f2] at hk; rcases mput_key hk with rfl | hk
      · exact hn
      · exact h.ks k hk
    · rw [f2]; simp only [mget_mput]; split
      · rfl
      · exact hm
    · rw [f2]; simp [mget_mput]
def prep4 (c : Crew) (t : SlotS) (v : Int) (d : Dig) : SlotS := prepT c (prepT c (prepT c (prepT c t 1 v d) 2 v d) 3 v d) 4 v d
theorem k_four {t : SlotS} {v : Int} {d : Dig} {q : List Stand} (hv : 0 ≤ v ∧ v ≤ 1048576) (h : KMid t v d q) : KMid (prep4 (crewI 1) t v d) v d q ∧ (prep4 (crewI 1) t v d).prep = Wd.mk v d := by
  obtain ⟨a1, a2, a3⟩ := k_prep (n := 1) hv (by simp) h
  obtain ⟨b1, b2, b3⟩ := k_prep (n := 2) hv (by simp) a1
  obtain ⟨c1, c2, c3⟩ := k_prep (n := 3) hv (by simp) b1
  obtain ⟨d1, d2, d3⟩ := k_prep (n := 4) hv (by simp) c1
  refine ⟨d1, ?_⟩
  have hl := leader_in hv.1
  have hr : readyI (crewI 1) (prep4 (crewI 1) t v d) = true := by
    unfold readyI
    have hs : (prep4 (crewI 1) t v d).last ≠ silence := view_sil hv.1 (by show (prep4 (crewI 1) t v d).last.view = v; rw [show (prep4 (crewI 1) t v d).last = Wd.mk v d from d1.last])
    rw [decide_eq_false hs, cond_false, show (prep4 (crewI 1) t v d).last = Wd.mk v d from d1.last]
    rw [show (Wd.mk v d).view = v from rfl, cntK_over (x := prep4 (crewI 1) t v d) (L := [1, 2, 3, 4]) d1.nd (by decide) d1.ks]
    have hc : 2 ≤ cntK (prep4 (crewI 1) t v d) (leaderI (crewI 1) v) [1, 2, 3, 4] ∧ cntK (prep4 (crewI 1) t v d) (leaderI (crewI 1) v) [1, 2, 3, 4] ≤ 4 := by
      refine ⟨?_, List.countP_le_length⟩
      unfold cntK
      rw [show (prep4 (crewI 1) t v d).last = Wd.mk v d from d1.last]
      have g1 : 1 ≠ leaderI (crewI 1) v → mget (prep4 (crewI 1) t v d).pre 1 = some (Wd.mk v d) := fun hne => d2 _ (c2 _ (b2 _ (a3 hne)))
      have g2 : 2 ≠ leaderI (crewI 1) v → mget (prep4 (crewI 1) t v d).pre 2 = some (Wd.mk v d) := fun hne => d2 _ (c2 _ (b3 hne))
      have g3 : 3 ≠ leaderI (crewI 1) v → mget (prep4 (crewI 1) t v d).pre 3 = some (Wd.mk v d) := fun hne => d2 _ (c3 hne)
      have g4 : 4 ≠ leaderI (crewI 1) v → mget (prep4 (crewI 1) t v d).pre 4 = some (Wd.mk v d) := fun hne => d3 hne
      generalize prep4 (crewI 1) t v d = r at g1 g2 g3 g4
      generalize leaderI (crewI 1) v = ld at hl g1 g2 g3 g4
      simp only [List.mem_cons, List.not_mem_nil, or_false] at hl
      rcases hl with rfl | rfl | rfl | rfl
      · have e2 := g2 (by decide); have e3 := g3 (by decide); have e4 := g4 (by decide)
        simp [List.countP_cons, e2, e3, e4]
      · have e1 := g1 (by decide); have e3 := g3 (by decide); have e4 := g4 (by decide)
        simp [List.countP_cons, e1, e3, e4]
      · have e2 := g2 (by decide); have e1 := g1 (by decide); have e4 := g4 (by decide)
        simp [List.countP_cons, e2, e1, e4]
      · have e2 := g2 (by decide); have e3 := g3 (by decide); have e1 := g1 (by decide)
        simp [List.countP_cons, e2, e3, e1]
    refine decide_eq_true ?_
    rw [show IntKind.wrap .i64 (2 * (crewI 1).faults) = 2 from rfl, IntWalk.i64_in _ (by omega)]
    omega
  rw [show (prep4 (crewI 1) t v d).prep = (prep4 (crewI 1) t v d).last from d1.rd hr]
  exact d1.last
theorem k_next {t : SlotS} {v : Int} {d : Dig} {q : List Stand} (h : KMid t v d q) (hq : QInv 1 q) (hqv : ∀ a ∈ q, a.view ≤ v) : KSlot t (v + 1) := by
  refine ⟨by rw [h.last]; simp only []; omega, fun n w hw => ?_, h.nd, h.ks, by rw [h.qe]; exact hq, fun a ha => ?_⟩
  · rcases h.pre n w hw with h1 | rfl
    · omega
    · simp only []; omega
  · rw [h.qe] at ha; have := hqv a ha; omega
/-- What SlotsKeeps keeps to. -/
structure KJ (s : SlS) (k : Nat) (want : List Stand) : Prop where
  crew : s.crew = crewI 1
  low : s.low = 0
  others : ∀ j, j ≠ 1 → s.f j = f0 0 j
  at1 : ∃ t, s.f 1 = some t ∧ KSlot t k ∧ ((t.prep = silence ∧ want = []) ∨ (t.prep ≠ silence ∧ want = [Stand.mk 1 t.prep.dig t.prep.view]))
theorem kj_new : KJ (newSl (crewI 1) 0) 0 [] := by
  refine ⟨rfl, rfl, fun j _ => rfl, newS, rfl, ⟨by show (-1 : Int) < 0; decide, fun n w h => (by cases h), .nil, fun k h => (by cases h), QInv.nil 1, fun a h => (by cases h)⟩, .inl ⟨rfl, rfl⟩⟩
theorem kj_prop {s : SlS} {k : Nat} {want : List Stand} {d : Dig} (h : KJ s k want) (hk : k < 20) : (propI s k 1 d).2 = 0 ∧ KJ (propI s k 1 d).1 (k + 1) want ∧ (∃ t, (propI s k 1 d).1.f 1 = some t ∧ KMid t k d (t.q) ∧ t.q.getLast? = some (Stand.mk 1 d k)) := by
  obtain ⟨t, ht, hS, hw⟩ := h.at1
  have hv : 0 ≤ (k : Int) ∧ (k : Int) ≤ 1048576 := by omega
  obtain ⟨hE, hM, hp, hQ, _⟩ := k_prop (d := d) hv hS
  rw [propI_at ht, h.crew]
  refine ⟨hE, ⟨rfl, h.low, fun j hj => ?_, propT (crewI 1) t 1 k d, upd_at s.f 1 _, ?_, ?_⟩, propT (crewI 1) t 1 k d, upd_at s.f 1 _, ?_, ?_⟩
  · show upd s.f 1 _ j = _
    unfold upd; rw [if_neg (Ne.symm hj)]; exact h.others j hj
  · have := k_next hM hQ (fun a ha => by
      rcases List.mem_append.1 ha with ha | ha
      · have := hS.qv a ((keepQ_sub _ _).subset ha); omega
      · rw [List.mem_singleton.1 ha]; exact Int.le_refl _)
    simpa using this
  · rw [hp]; exact hw
  · rw [hM.qe]; exact hM
  · rw [hM.qe]; simp
theorem kj_four {s : SlS} {k : Nat} {want : List Stand} {d : Dig} (h : KJ s k want) (hk : k < 20) :
    KJ (prepI (prepI (prepI (prepI (propI s k 1 d).1 1 k 1 d).1 2 k 1 d).1 3 k 1 d).1 4 k 1 d).1 (k + 1) [Stand.mk 1 d k] ∧
      (∃ t, (prepI (prepI (prepI (prepI (propI s k 1 d).1 1 k 1 d).1 2 k 1 d).1 3 k 1 d).1 4 k 1 d).1.f 1 = some t ∧ t.q.getLast? = some (Stand.mk 1 d k)) := by
  obtain ⟨t, ht, hS, hw⟩ := h.at1
  have hv : 0 ≤ (k : Int) ∧ (k : Int) ≤ 1048576 := by omega
  obtain ⟨hE, hM, hp, hQ, _⟩ := k_prop (d := d) hv hS
  obtain ⟨hF, hP⟩ := k_four hv hM
  rw [propI_at ht, h.crew]
  simp only [prepI_mk]
  refine ⟨⟨rfl, h.low, fun j hj => ?_, prep4 (crewI 1) (propT (crewI 1) t 1 k d) k d, upd_at s.f 1 _, ?_, .inr ⟨?_, ?_⟩⟩, prep4 (crewI 1) (propT (crewI 1) t 1 k d) k d, upd_at s.f 1 _, ?_⟩
  · show upd s.f 1 _ j = _
    unfold upd; rw [if_neg (Ne.symm hj)]; exact h.others j hj
  · have := k_next hF hQ (fun a ha => by
      rcases List.mem_append.1 ha with ha | ha
      · have := hS.qv a ((keepQ_sub _ _).subset ha); omega
      · rw [List.mem_singleton.1 ha]; exact Int.le_refl _)
    simpa using this
  · intro e; have := hP.symm.trans e; have h2 := congrArg Wd.view this; simp only [] at h2; have : (silence : Wd).view = -1 := rfl; omega
  · rw [hP]
  · rw [hF.qe]; simp
theorem kj_p {s : SlS} {k : Nat} {want : List Stand} (h : KJ s k want) : pI s.f (s.low + 1) 8 = want := by
  obtain ⟨t, ht, hS, hw⟩ := h.at1
  rw [h.low]
  have hn : ∀ j : Int, j ≠ 1 → pAt s.f j = [] := fun j hj => by
    unfold pAt; rw [h.others j hj]; unfold f0; rw [fillN_eq]
    split
    · rfl
    · rename_i e
      split at e
      · simp at e; subst e; rfl
      · cases e
  have h1 : pAt s.f 1 = want := by
    unfold pAt; rw [ht]; simp only []
    rcases hw with ⟨a, b⟩ | ⟨a, b⟩
    · rw [a, b]; rfl
    · rw [decide_eq_false a, b]; rfl
  simp only [pI, List.nil_append]
  rw [show ((0 : Int) + 1 + ((0 : Nat) : Int)) = 1 from rfl, h1]
  simp [hn]
theorem kj_q {s : SlS} {k : Nat} {want : List Stand} {d : Dig} {v : Int} (h : KJ s k want) (hl : ∃ t, s.f 1 = some t ∧ t.q.getLast? = some (Stand.mk 1 d v)) : (qI s.f (s.low + 1) 8).getLast? = some (Stand.mk 1 d v) ∧ (qI s.f (s.low + 1) 8).length ≤ 4 := by
  obtain ⟨t, ht, hS, hw⟩ := h.at1
  obtain ⟨t', ht', hl⟩ := hl
  rw [ht] at ht'; injection ht' with ht'; subst ht'
  rw [h.low]
  have hn : ∀ j : Int, j ≠ 1 → qAt s.f j = [] := fun j hj => by
    unfold qAt; rw [h.others j hj]; unfold f0; rw [fillN_eq]
    split
    · rfl
    · rename_i e
      split at e
      · simp at e; subst e; rfl
      · cases e
  have h1 : qAt s.f 1 = t.q := by unfold qAt; rw [ht]
  have : qI s.f (0 + 1) 8 = t.q := by
    simp only [qI, List.nil_append]
    rw [show ((0 : Int) + 1 + ((0 : Nat) : Int)) = 1 from rfl, h1]
    simp [hn]
  rw [this]; exact ⟨hl, hS.q.len⟩
theorem kj_propL {s : SlS} {k : Nat} {want : List Stand} {d : Dig} (h : KJ s k want) (hk : k < 20) : ∃ t, (propI s k 1 d).1.f 1 = some t ∧ t.q.getLast? = some (Stand.mk 1 d k) := by
  obtain ⟨t, h1, _, h2⟩ := (kj_prop (d := d) h hk).2.2
  exact ⟨t, h1, h2⟩
theorem kj_q0 {s : SlS} {k : Nat} {want : List Stand} {d : Dig} {v : Int} (h : KJ s k want) (hl : ∃ t, s.f 1 = some t ∧ t.q.getLast? = some (Stand.mk 1 d v)) : 0 < (qI s.f (s.low + 1) 8).length := by
  have := (kj_q h hl).1
  cases hq : qI s.f (s.low + 1) 8 with
  | nil => rw [hq] at this; cases this
  | cons _ _ => simp
theorem len_ne {α : Type} {l : List α} (h : ((l.length : Nat) : Int) == 0) (h2 : 0 < l.length) : False := by
  have := eq_of_beq h; omega
theorem len4 {α : Type} {l : List α} (h : decide ((4 : Int) < ((l.length : Nat) : Int)) = true) (h2 : l.length ≤ 4) : False := by
  have := of_decide_eq_true h; omega
end Go.Proofs.YtljcgggflgbenaaDoor
