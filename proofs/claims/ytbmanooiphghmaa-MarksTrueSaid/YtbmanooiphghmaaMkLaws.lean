/- The laws of the statements on marks that do not ask the document. No condition. -/
import Derived.Test.YtbmanooiphghmaaMkRel
set_option linter.all false
set_option linter.unusedSimpArgs false
namespace Go.Proofs.Ytbmanooiphghmaa
open Go Go.Gx
theorem bring_rng (n : Int) {m : Nat} (h0 : 0 < m) (h : m < 1000000) : 0 ≤ bringI n m ∧ bringI n m < m := by
  unfold bringI
  have h1 : decide ((m : Int) ≤ 0) = false := by simp; omega
  rw [h1]
  simp only [cond_false]
  have h2 := Int.tmod_lt_of_pos n (b := (m : Int)) (by omega)
  have h3 : -(m : Int) < Int.tmod n m := Int.lt_tmod_of_pos n (by omega)
  cases h4 : decide (Int.tmod n (m : Int) < 0) with
  | true =>
    have := of_decide_eq_true h4
    simp only [cond_true]
    rw [IntWalk.i64_in _ (by omega)]; omega
  | false =>
    have := of_decide_eq_false h4
    simp only [cond_false]; omega
theorem f12 (n : Int) : IntKind.wrap .i64 (1 + bringI n 2) = 1 ∨ IntKind.wrap .i64 (1 + bringI n 2) = 2 := by
  have h : 0 ≤ bringI n 2 ∧ bringI n 2 < 2 := bring_rng n (m := 2) (by decide) (by decide)
  rw [IntWalk.i64_in _ (by omega)]; omega
theorem n3 {f : Int} (h : f = 1 ∨ f = 2) : IntKind.wrap .i64 (IntKind.wrap .i64 (3 * f) + 1) = 3 * f + 1 := by
  rcases h with rfl | rfl <;> rfl
theorem crew_ok {f : Int} (h : f = 1 ∨ f = 2) : check (crewI f) = 0 ∧ most (crewI f) = 2 * f + 1 ∧ some_ (crewI f) = f + 1 := by
  rcases h with rfl | rfl <;> decide
theorem crew_mem {f n : Int} (h : f = 1 ∨ f = 2) (hn : n ∈ (crewI f).nodes) : 1 ≤ n ∧ n ≤ 3 * f + 1 := by
  rcases h with rfl | rfl
  · have : ∀ n ∈ (crewI 1).nodes, 1 ≤ n ∧ n ≤ 3 * 1 + 1 := by decide
    exact this n hn
  · have : ∀ n ∈ (crewI 2).nodes, 1 ≤ n ∧ n ≤ 3 * 2 + 1 := by decide
    exact this n hn
/-! ### What most tell -/
structure MGood (m : MSt) : Prop where
  im : MInv m
  nd : (m.list.map (·.1)).Nodup
  ris : ∀ p ∈ m.list, Ris p.2
theorem MGood.get {m : MSt} (h : MGood m) (n : Int) : Ris ((mget m.list n).getD []) := by
  cases hg : mget m.list n with
  | none => exact .nil
  | some y => exact h.ris _ (mget_mem hg)
theorem mgood_vote {m : MSt} (h : MGood m) (n : Int) (x : Mark) : MGood (voteM m n x).1 := by
  unfold voteM
  cases hh : has m.crew n with
  | false => exact h
  | true =>
    simp only [Bool.not_true, cond_false]
    cases h1 : decide (x.seq ≤ m.low.seq) with
    | true => exact h
    | false =>
      simp only [cond_false]
      cases h2 : mayB x.seq with
      | false => exact h
      | true =>
        simp only [Bool.not_true, cond_false]
        cases hb : bfF (fun g_x0 g_x1 => cmpI g_x0.seq g_x1) ((mget m.list n).getD []) x.seq with
        | true => exact h
        | false =>
          simp only [cond_false]
          refine ⟨minv_put h.im hh (cut4_le _), mput_nodup _ _ h.nd, fun p hp => ?_⟩
          rcases mput_mem hp with hp | rfl
          · exact h.ris p hp
          · exact ris_cut4 (insA_ris (h.get n) hb)
theorem vote_crew (m : MSt) (n : Int) (x : Mark) : (voteM m n x).1.crew = m.crew ∧ (voteM m n x).1.low = m.low := by
  unfold voteM
  cases has m.crew n with
  | false => exact ⟨rfl, rfl⟩
  | true =>
    simp only [Bool.not_true, cond_false]
    cases decide (x.seq ≤ m.low.seq) with
    | true => exact ⟨rfl, rfl⟩
    | false =>
      simp only [cond_false]
      cases mayB x.seq with
      | false => exact ⟨rfl, rfl⟩
      | true =>
        simp only [Bool.not_true, cond_false]
        cases bfF (fun g_x0 g_x1 => cmpI g_x0.seq g_x1) ((mget m.list n).getD []) x.seq <;> exact ⟨rfl, rfl⟩
theorem cut4_mem {l : List Mark} {y : Mark} (h : y ∈ cut4 l) : y ∈ l := List.mem_of_mem_drop h
theorem insA_mem {l : List Mark} {i : Nat} {x y : Mark} : y ∈ insA l i x ↔ y = x ∨ y ∈ l := by
  unfold insA
  rw [List.mem_append, List.mem_append, List.mem_singleton]
  constructor
  · rintro (h | h | h)
    · exact .inr (List.mem_of_mem_take h)
    · exact .inl h
    · exact .inr (List.mem_of_mem_drop h)
  · rintro (h | h)
    · exact .inr (.inl h)
    · rw [← List.take_append_drop i l, List.mem_append] at h
      exact h.elim .inl (fun h => .inr (.inr h))
/-- What is told behind a vote was told ahead of it, or is what was voted. -/
theorem vote_told {m : MSt} {n k : Int} {x y : Mark} {l : List Mark} (hp : (k, l) ∈ (voteM m n x).1.list) (hy : y ∈ l) : (∃ l', (k, l') ∈ m.list ∧ y ∈ l') ∨ (k = n ∧ y = x) := by
  unfold voteM at hp
  cases hh : has m.crew n with
  | false => rw [hh] at hp; exact .inl ⟨l, hp, hy⟩
  | true =>
    rw [hh] at hp
    simp only [Bool.not_true, cond_false] at hp
    cases h1 : decide (x.seq ≤ m.low.seq) with
    | true => rw [h1] at hp; exact .inl ⟨l, hp, hy⟩
    | false =>
      rw [h1] at hp
      simp only [cond_false] at hp
      cases h2 : mayB x.seq with
      | false => rw [h2] at hp; exact .inl ⟨l, hp, hy⟩
      | true =>
        rw [h2] at hp
        simp only [Bool.not_true, cond_false] at hp
        cases hb : bfF (fun g_x0 g_x1 => cmpI g_x0.seq g_x1) ((mget m.list n).getD []) x.seq with
        | true => rw [hb] at hp; exact .inl ⟨l, hp, hy⟩
        | false =>
          rw [hb] at hp
          simp only [cond_false] at hp
          rcases mput_mem hp with hp | hp
          · exact .inl ⟨l, hp, hy⟩
          · injection hp with e1 e2
            subst e1; subst e2
            rcases insA_mem.1 (cut4_mem hy) with h | h
            · exact .inr ⟨rfl, h⟩
            · cases hg : mget m.list k with
              | none => rw [hg] at h; simp at h
              | some z => rw [hg] at h; exact .inl ⟨z, mget_mem hg, h⟩
theorem ris_count {l : List Mark} (h : Ris l) (x : Mark) : l.countP (fun y => decide (y = x)) ≤ 1 := by
  induction l with
  | nil => simp
  | cons y r ih =>
    rw [Ris, List.pairwise_cons] at h
    rw [List.countP_cons]
    by_cases hy : y = x
    · subst hy
      have : r.countP (fun z => decide (z = y)) = 0 := by
        rw [List.countP_eq_zero]
        intro z hz
        have := h.1 z hz
        simp; rintro rfl; omega
      rw [this]; simp
    · have := ih h.2
      simp [hy]; exact this
/-- A mark that only nodes below told is told by so many at most. -/
theorem cnt_few {m : MSt} (h : MGood m) {f : Nat} {x : Mark} (hx : ∀ p ∈ m.list, x ∈ p.2 → 1 ≤ p.1 ∧ p.1 ≤ (f : Int)) : cntL (lists m) x ≤ f := by
  have key : ∀ l : List (Int × List Mark), (∀ p ∈ l, Ris p.2) → (∀ p ∈ l, x ∈ p.2 → 1 ≤ p.1 ∧ p.1 ≤ (f : Int)) → cntL (l.map (·.2)) x ≤ ((l.map (·.1)).filter (fun k => decide (1 ≤ k) && decide (k ≤ (f : Int)))).length := by
    intro l
    induction l with
    | nil => intro _ _; simp [cntL]
    | cons p r ih =>
      intro hr hq
      have i := ih (fun q hq => hr q (by simp [hq])) (fun q hq2 => hq q (by simp [hq2]))
      rw [List.map_cons, List.map_cons, cntL_cons, List.filter_cons]
      by_cases hm : x ∈ p.2
      · have hk := hq p (by simp) hm
        have hc := ris_count (hr p (by simp)) x
        have e : (decide (1 ≤ p.1) && decide (p.1 ≤ (f : Int))) = true := by simp [hk.1, hk.2]
        rw [if_pos e, List.length_cons]; omega
      · have hc : p.2.countP (fun y => decide (y = x)) = 0 := by
          rw [List.countP_eq_zero]; intro z hz; simp; rintro rfl; exact hm hz
        rw [hc]
        split
        · rw [List.length_cons]; omega
        · omega
  have h1 := key m.list h.ris hx
  have h2 := nodup_sub (l := (m.list.map (·.1)).filter (fun k => decide (1 ≤ k) && decide (k ≤ (f : Int)))) (l' := (List.range f).map (fun i => ((i + 1 : Nat) : Int))) (List.filter_sublist.nodup h.nd) (fun k hk => by
    rw [List.mem_filter] at hk
    have hk := hk.2
    simp only [Bool.and_eq_true, decide_eq_true_eq] at hk
    rw [List.mem_map]
    exact ⟨(k - 1).toNat, List.mem_range.2 (by omega), by omega⟩)
  rw [List.length_map, List.length_range] at h2
  unfold lists
  omega
theorem gR_best (ls : List (List Mark)) (many : Int) : IsBest (mayG ls many) cmpM ls.flatten default false (gR ls many) := by
  unfold gR
  refine bestG_is (fun a => ?_) (fun a b c => ?_) (fun a b => ?_) _ _ _ (by intro h; cases h)
  · simp only [cmpM, better2]; omega
  · simp only [cmpM, better2]; omega
  · simp only [cmpM, better2]; omega
theorem gR_in {ls : List (List Mark)} {many : Int} (h : (gR ls many).2 = true) : (gR ls many).1 ∈ ls.flatten ∧ many ≤ ((cntL ls (gR ls many).1 : Nat) : Int) := by
  obtain ⟨h1, h2, _, _⟩ := (gR_best ls many).ok h
  refine ⟨h2.elim id (fun h => by cases h.1), ?_⟩
  unfold mayG at h1
  simpa using h1
theorem gR_more {ls : List (List Mark)} {a b : Int} (hab : b ≤ a) (h : (gR ls a).2 = true) : (gR ls b).2 = true ∧ ¬ (gR ls b).1.seq < (gR ls a).1.seq := by
  obtain ⟨h1, h2⟩ := gR_in h
  have hm : mayG ls b (gR ls a).1 = true := by unfold mayG; simp; omega
  have hb : (gR ls b).2 = true := by
    cases hc : (gR ls b).2 with
    | true => rfl
    | false => have := ((gR_best ls b).no hc).1 _ h1; rw [hm] at this; cases this
  refine ⟨hb, ?_⟩
  have := ((gR_best ls b).ok hb).2.2.1 _ h1 hm
  simp only [cmpM, better2] at this
  omega
/-! ### If f at most lie -/
structure TrJ (f : Int) (m : MSt) : Prop where
  crew : m.crew = crewI f
  good : MGood m
  so : ∀ k l y, (k, l) ∈ m.list → y ∈ l → f < k → y.dig = dig7 0
theorem tr_new {f : Int} : TrJ f ⟨crewI f, ⟨0, Dig.zero⟩, []⟩ := ⟨rfl, ⟨fun p hp => (List.not_mem_nil hp).elim, .nil, fun p hp => (List.not_mem_nil hp).elim⟩, fun k l y hp => (List.not_mem_nil hp).elim⟩
theorem tr_vote {f n : Int} {m : MSt} {x : Mark} (h : TrJ f m) (hx : f < n → x.dig = dig7 0) : TrJ f (voteM m n x).1 := by
  refine ⟨(vote_crew m n x).1.trans h.crew, mgood_vote h.good n x, fun k l y hp hy hk => ?_⟩
  rcases vote_told hp hy with ⟨l', h1, h2⟩ | ⟨rfl, rfl⟩
  · exact h.so k l' y h1 h2 hk
  · exact hx hk
theorem tr_law {f : Int} {m : MSt} (hf : f = 1 ∨ f = 2) (h : TrJ f m) :
    ((gR (lists m) (most m.crew)).2 = true → (gR (lists m) (most m.crew)).1.dig = (markI 0 0).dig) ∧ ((gR (lists m) (some_ m.crew)).2 = true → (gR (lists m) (some_ m.crew)).1.dig = (markI 0 0).dig) ∧
    ((gR (lists m) (most m.crew)).2 = true → (gR (lists m) (some_ m.crew)).2 = true ∧ ¬ (gR (lists m) (some_ m.crew)).1.seq < (gR (lists m) (most m.crew)).1.seq) := by
  obtain ⟨hc, hm, hs⟩ := crew_ok hf
  have key : ∀ many, f + 1 ≤ many → (gR (lists m) many).2 = true → (gR (lists m) many).1.dig = dig7 0 := by
    intro many hmany hg
    obtain ⟨h1, h2⟩ := gR_in hg
    refine Classical.byContradiction fun hne => ?_
    have := cnt_few (f := f.toNat) h.good (x := (gR (lists m) many).1) (fun p hp hx => by
      have hn := (h.good.im p hp).2
      rw [h.crew] at hn
      have hr := crew_mem hf hn
      refine ⟨hr.1, ?_⟩
      rcases Int.lt_or_le f p.1 with hlt | hle
      · exact (hne (h.so p.1 p.2 _ hp hx hlt)).elim
      · rcases hf with rfl | rfl <;> omega)
    rcases hf with rfl | rfl <;> omega
  rw [h.crew, hm, hs]
  exact ⟨key _ (by rcases hf with rfl | rfl <;> omega), key _ (Int.le_refl _), gR_more (by rcases hf with rfl | rfl <;> omega)⟩
theorem tr_liar {f : Int} {a : Int} {x : Mark} (hf : f = 1 ∨ f = 2) (h : decide (f ≤ bringI a (IntKind.wrap .i64 (IntKind.wrap .i64 (3 * f) + 1))) = false) :
    f < IntKind.wrap .i64 (1 + bringI a (IntKind.wrap .i64 (IntKind.wrap .i64 (3 * f) + 1))) → x.dig = dig7 0 := by
  intro hlt
  have h := of_decide_eq_false h
  rw [n3 hf] at h hlt
  have hr : 0 ≤ bringI a (3 * f + 1) ∧ bringI a (3 * f + 1) < 3 * f + 1 := by
    rcases hf with rfl | rfl
    · exact bring_rng a (m := 4) (by decide) (by decide)
    · exact bring_rng a (m := 7) (by decide) (by decide)
  rw [IntWalk.i64_in _ (by rcases hf with rfl | rfl <;> omega)] at hlt
  omega
end Go.Proofs.Ytbmanooiphghmaa
