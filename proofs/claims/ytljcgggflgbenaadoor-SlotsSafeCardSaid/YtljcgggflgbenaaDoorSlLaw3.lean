/- The laws of slots: safety, and what is restored. No condition. -/
import Derived.Test.YtljcgggflgbenaaDoorSlLaw2
set_option linter.all false
namespace Go.Proofs.YtljcgggflgbenaaDoor
open Go Go.Gx Go.RowKit
/-! ### SlotsSafe -/
structure SSlot (f : Int) (t u : SlotS) : Prop where
  l1 : t.last.view = 0
  l2 : u.last.view = 0
  n1 : (t.pre.map (·.1)).Nodup
  n2 : (u.pre.map (·.1)).Nodup
  k1 : ∀ k ∈ t.pre.map (·.1), k ∈ (crewI f).nodes
  k2 : ∀ k ∈ u.pre.map (·.1), k ∈ (crewI f).nodes
  same : ∀ n, f < n → mget t.pre n = mget u.pre n
theorem SSlot.swap {f : Int} {t u : SlotS} (h : SSlot f t u) : SSlot f u t := ⟨h.l2, h.l1, h.n2, h.n1, h.k2, h.k1, fun n hn => (h.same n hn).symm⟩
theorem sayT_last {f : Int} {c : Crew} {t : SlotS} {x : Word} (hv : x.view = 0) : (sayT f c t x).last = t.last ∧ (sayT f c t x).pre = bif (sayE f c t x == 0) && !x.commits then mput t.pre (wN f x) (Wd.mk 0 (wD x)) else t.pre := by
  rw [sayT_of hv]
  cases sayE f c t x == 0 with
  | false => exact ⟨rfl, rfl⟩
  | true =>
    cases x.commits with
    | true => exact ⟨rfl, rfl⟩
    | false => obtain ⟨f1, f2, _⟩ := lookS_fields c (SlotS.mk t.last t.prep (mput t.pre (wN f x) (Wd.mk 0 (wD x))) t.com t.q); exact ⟨f1, f2⟩
theorem sayE_has {f : Int} {c : Crew} {t : SlotS} {x : Word} (h : sayE f c t x = 0) : has c (wN f x) = true := by
  unfold sayE comE prepE at h
  cases hh : has c (wN f x) with
  | true => rfl
  | false => rw [hh] at h; cases hc : x.commits <;> rw [hc] at h <;> cases h
theorem ss_one {f : Int} {t u : SlotS} {x : Word} (h : SSlot f t u) (hv : x.view = 0) (hx : wN f x ≤ f ∨ x.commits = true ∨ ¬ sayE f (crewI f) t x = 0) : SSlot f (sayT f (crewI f) t x) u := by
  obtain ⟨e1, e2⟩ := sayT_last (f := f) (c := crewI f) (t := t) hv
  cases hE : sayE f (crewI f) t x == 0 with
  | false =>
    rw [hE] at e2
    exact ⟨by rw [e1]; exact h.l1, h.l2, by rw [e2]; exact h.n1, h.n2, by rw [e2]; exact h.k1, h.k2, by rw [e2]; exact h.same⟩
  | true =>
    have hh := sayE_has (eq_of_beq hE)
    cases hc : x.commits with
    | true => rw [hE, hc] at e2; exact ⟨by rw [e1]; exact h.l1, h.l2, by rw [e2]; exact h.n1, h.n2, by rw [e2]; exact h.k1, h.k2, by rw [e2]; exact h.same⟩
    | false =>
      rw [hE, hc] at e2
      have hn : wN f x ≤ f := by
        rcases hx with hx | hx | hx
        · exact hx
        · rw [hc] at hx; cases hx
        · exact absurd (eq_of_beq hE) hx
      refine ⟨by rw [e1]; exact h.l1, h.l2, by rw [e2]; exact mput_nodup _ _ h.n1, h.n2, fun k hk => ?_, h.k2, fun n hn' => ?_⟩
      · rw [e2] at hk; rcases mput_key hk with rfl | hk
        · exact has_mem hh
        · exact h.k1 k hk
      · rw [e2]; show mget (mput _ _ _) n = _; rw [mget_mput, if_neg (by omega)]; exact h.same n hn'
theorem ss_both {f : Int} {t u : SlotS} {x : Word} (h : SSlot f t u) (hv : x.view = 0) (hx : f < wN f x) (hc : x.commits = false) (hE : sayE f (crewI f) t x = 0) : SSlot f (sayT f (crewI f) t x) (sayT f (crewI f) u x) := by
  have hE' : sayE f (crewI f) u x = 0 := by
    unfold sayE prepE saysI wordOf at hE ⊢
    rw [hc] at hE ⊢
    rw [h.same _ hx] at hE
    exact hE
  obtain ⟨e1, e2⟩ := sayT_last (f := f) (c := crewI f) (t := t) hv
  obtain ⟨e3, e4⟩ := sayT_last (f := f) (c := crewI f) (t := u) hv
  have hh := sayE_has hE
  rw [hE, hc] at e2
  rw [hE', hc] at e4
  have e2 : (sayT f (crewI f) t x).pre = mput t.pre (wN f x) (Wd.mk 0 (wD x)) := e2
  have e4 : (sayT f (crewI f) u x).pre = mput u.pre (wN f x) (Wd.mk 0 (wD x)) := e4
  refine ⟨by rw [e1]; exact h.l1, by rw [e3]; exact h.l2, by rw [e2]; exact mput_nodup _ _ h.n1, by rw [e4]; exact mput_nodup _ _ h.n2, fun k hk => ?_, fun k hk => ?_, fun n hn => ?_⟩
  · rw [e2] at hk; rcases mput_key hk with rfl | hk
    · exact has_mem hh
    · exact h.k1 k hk
  · rw [e4] at hk; rcases mput_key hk with rfl | hk
    · exact has_mem hh
    · exact h.k2 k hk
  · rw [e2, e4, mget_mput, mget_mput, h.same n hn]
structure SJ (f : Int) (s s' : SlS) : Prop where
  c1 : s.crew = crewI f
  c2 : s'.crew = crewI f
  at_ : ∀ j, 1 ≤ j → j ≤ 8 → ∃ t u, s.f j = some t ∧ s'.f j = some u ∧ SSlot f t u
theorem SJ.swap {f : Int} {s s' : SlS} (h : SJ f s s') : SJ f s' s := ⟨h.c2, h.c1, fun j a b => by obtain ⟨t, u, h1, h2, h3⟩ := h.at_ j a b; exact ⟨u, t, h2, h1, h3.swap⟩⟩
theorem say_crew {s : SlS} {f : Int} {x : Word} {t : SlotS} (h : s.f (wJ x) = some t) : (sayI s f x).1.crew = s.crew := by rw [sayI_at h]
theorem say_f {s : SlS} {f : Int} {x : Word} {t : SlotS} (h : s.f (wJ x) = some t) (j : Int) : (sayI s f x).1.f j = if wJ x = j then some (sayT f s.crew t x) else s.f j := by rw [sayI_at h]; rfl
theorem sj_one {f : Int} {s s' : SlS} {x : Word} (h : SJ f s s') (hv : x.view = 0) (hx : wN f x ≤ f ∨ ¬ (sayI s f x).2 = 0) : SJ f (sayI s f x).1 s' := by
  obtain ⟨t, u, ht, hu, hS⟩ := h.at_ (wJ x) (wJ_in x).1 (wJ_in x).2
  refine ⟨(say_crew ht).trans h.c1, h.c2, fun j a b => ?_⟩
  rw [say_f ht, h.c1]
  by_cases hj : wJ x = j
  · subst hj
    rw [if_pos rfl]
    rw [sayI_at ht, h.c1] at hx
    exact ⟨_, u, rfl, hu, ss_one hS hv (hx.imp id .inr)⟩
  · rw [if_neg hj]; exact h.at_ j a b
theorem sj_both {f : Int} {s s' : SlS} {x : Word} (h : SJ f s s') (hv : x.view = 0) (hx : f < wN f x) (hE : (sayI s f x).2 = 0) : SJ f (sayI s f x).1 (sayI s' f x).1 := by
  obtain ⟨t, u, ht, hu, hS⟩ := h.at_ (wJ x) (wJ_in x).1 (wJ_in x).2
  refine ⟨(say_crew ht).trans h.c1, (say_crew hu).trans h.c2, fun j a b => ?_⟩
  rw [say_f ht, say_f hu, h.c1, h.c2]
  by_cases hj : wJ x = j
  · subst hj
    rw [if_pos rfl, if_pos rfl]
    rw [sayI_at ht, h.c1] at hE
    refine ⟨_, _, rfl, rfl, ?_⟩
    cases hc : x.commits with
    | false => exact ss_both hS hv hx hc hE
    | true => exact (ss_one (ss_one hS hv (.inr (.inl hc))).swap hv (.inr (.inl hc))).swap
  · rw [if_neg hj, if_neg hj]; exact h.at_ j a b
theorem sj_new {f : Int} (h12 : f = 1 ∨ f = 2) (l l' : List UInt8) : SJ f (psN (newSl (crewI f) 0) 0 l 8) (psN (newSl (crewI f) 0) 0 l' 8) := by
  have hg : ∀ j, 1 ≤ j → j ≤ 8 → (newSl (crewI f) 0).f j = some newS := fun j a b => by show f0 0 j = _; rw [f0_eq, if_pos (by omega)]
  refine ⟨(ps_fields 8).1, (ps_fields 8).1, fun j a b => ⟨_, _, ps_8 (g := fun _ => newS) hg j a b, ps_8 (g := fun _ => newS) hg j a b, ?_⟩⟩
  show SSlot f (propT (crewI f) newS j 0 _) (propT (crewI f) newS j 0 _)
  rw [(propT_new (by rw [crewI_faults]; exact h12) (by decide)).2, (propT_new (by rw [crewI_faults]; exact h12) (by decide)).2]
  exact ⟨rfl, rfl, .nil, .nil, fun k h => (by cases h), fun k h => (by cases h), fun _ _ => rfl⟩
def ind (b : Bool) : Nat := if b then 1 else 0
theorem ready_cnt {f : Int} (h12 : f = 1 ∨ f = 2) {t : SlotS} (hn : (t.pre.map (·.1)).Nodup) (hk : ∀ k ∈ t.pre.map (·.1), k ∈ (crewI f).nodes) (hl : t.last.view = 0) (h : readyI (crewI f) t = true) :
    2 * f ≤ ((crewI f).nodes.countP (fun k => decide (mget t.pre k = some t.last) && (k != 1)) : Int) := by
  unfold readyI at h
  cases hs : decide (t.last = silence) with
  | true => rw [hs] at h; cases h
  | false =>
    rw [hs, cond_false] at h
    have h := of_decide_eq_true h
    have hld : leaderI (crewI f) t.last.view = 1 := by rw [hl]; rcases h12 with rfl | rfl <;> decide +kernel
    rw [hld, cntK_over hn (nodes_nd h12).1 hk] at h
    have hle : cntK t 1 (crewI f).nodes ≤ 7 := Nat.le_trans List.countP_le_length (nodes_nd h12).2
    rw [IntWalk.i64_in ((cntK t 1 (crewI f).nodes : Nat) : Int) (by omega), crewI_faults, IntWalk.i64_in (2 * f) (by omega)] at h
    exact h
theorem s_law {f : Int} (h12 : f = 1 ∨ f = 2) {t u : SlotS} (h : SSlot f t u) (ht : readyI (crewI f) t = true) (hu : readyI (crewI f) u = true) : t.last = u.last := by
  have c1 := ready_cnt h12 h.n1 h.k1 h.l1 ht
  have c2 := ready_cnt h12 h.n2 h.k2 h.l2 hu
  by_cases he : t.last = u.last
  · exact he
  · exfalso
    have two : ∀ n, f < n → ind (decide (mget t.pre n = some t.last)) + ind (decide (mget u.pre n = some u.last)) ≤ 1 := by
      intro n hn
      rw [h.same n hn]
      unfold ind
      by_cases h1 : mget u.pre n = some t.last
      · have h2 : ¬ mget u.pre n = some u.last := fun h2 => he (Option.some.inj (h1.symm.trans h2))
        simp [h2]; split <;> omega
      · simp [h1]; split <;> omega
    have one : ∀ b, ind b ≤ 1 := fun b => by unfold ind; split <;> omega
    rcases h12 with rfl | rfl
    · have e : (crewI 1).nodes = [1, 2, 3, 4] := rfl
      rw [e] at c1 c2
      have a2 := two 2 (by decide); have a3 := two 3 (by decide); have a4 := two 4 (by decide)
      unfold ind at a2 a3 a4
      simp only [List.countP_cons, List.countP_nil, show ((1 : Int) != 1) = false from rfl, show ((2 : Int) != 1) = true from rfl, show ((3 : Int) != 1) = true from rfl, show ((4 : Int) != 1) = true from rfl, Bool.and_true, Bool.and_false] at c1 c2
      simp only [Bool.false_eq_true, if_false] at c1 c2
      omega
    · have e : (crewI 2).nodes = [1, 2, 3, 4, 5, 6, 7] := rfl
      rw [e] at c1 c2
      have a3 := two 3 (by decide); have a4 := two 4 (by decide); have a5 := two 5 (by decide); have a6 := two 6 (by decide); have a7 := two 7 (by decide)
      have b2 := one (decide (mget t.pre 2 = some t.last)); have d2 := one (decide (mget u.pre 2 = some u.last))
      unfold ind at a3 a4 a5 a6 a7 b2 d2
      simp only [List.countP_cons, List.countP_nil, show ((1 : Int) != 1) = false from rfl, show ((2 : Int) != 1) = true from rfl, show ((3 : Int) != 1) = true from rfl, show ((4 : Int) != 1) = true from rfl, show ((5 : Int) != 1) = true from rfl, show ((6 : Int) != 1) = true from rfl, show ((7 : Int) != 1) = true from rfl, Bool.and_true, Bool.and_false] at c1 c2
      simp only [Bool.false_eq_true, if_false] at c1 c2
      omega
theorem sj_law {f : Int} (h12 : f = 1 ∨ f = 2) {s s' : SlS} (h : SJ f s s') {j : Int} (j1 : 1 ≤ j) (j2 : j ≤ 8) (h1 : preparedI s j = true) (h2 : preparedI s' j = true) : (atI s j).1.dig = (atI s' j).1.dig := by
  obtain ⟨t, u, ht, hu, hS⟩ := h.at_ j j1 j2
  unfold preparedI at h1 h2
  rw [ht, h.c1] at h1
  rw [hu, h.c2] at h2
  have e := s_law h12 hS h1 h2
  unfold atI
  rw [ht, hu]
  simp only [e]
theorem f12 (faults : Int) : IntKind.wrap .i64 (1 + bringI faults 2) = 1 ∨ IntKind.wrap .i64 (1 + bringI faults 2) = 2 := by
  have := bring_in (n := faults) (m := 2) (by decide) (by decide)
  rw [IntWalk.i64_in _ (by omega)]; omega
theorem wN_le {f : Int} (h12 : f = 1 ∨ f = 2) {x : Word} (h : decide (bringI x.node (IntKind.wrap .i64 (IntKind.wrap .i64 (3 * f) + 1)) < f) = true) : wN f x ≤ f := by
  have h := of_decide_eq_true h
  have e : IntKind.wrap .i64 (IntKind.wrap .i64 (3 * f) + 1) = 3 * f + 1 := by rw [IntWalk.i64_in (3 * f) (by omega), IntWalk.i64_in _ (by omega)]
  unfold wN
  rw [e] at h ⊢
  have := bring_in (n := x.node) (m := 3 * f + 1) (by omega) (by omega)
  rw [IntWalk.i64_in _ (by omega)]; omega
theorem wN_gt {f : Int} (h12 : f = 1 ∨ f = 2) {x : Word} (h : decide (bringI x.node (IntKind.wrap .i64 (IntKind.wrap .i64 (3 * f) + 1)) < f) = false) : f < wN f x := by
  have h := of_decide_eq_false h
  have e : IntKind.wrap .i64 (IntKind.wrap .i64 (3 * f) + 1) = 3 * f + 1 := by rw [IntWalk.i64_in (3 * f) (by omega), IntWalk.i64_in _ (by omega)]
  unfold wN
  rw [e] at h ⊢
  have := bring_in (n := x.node) (m := 3 * f + 1) (by omega) (by omega)
  rw [IntWalk.i64_in _ (by omega)]; omega
theorem nk_a {f : Int} (h12 : f = 1 ∨ f = 2) : newOk (crewI f) (IntKind.wrap .i64 (IntKind.wrap .i64 (3 * f) + 1)) 0 = true := by rcases h12 with rfl | rfl <;> decide +kernel
theorem nk_b {f : Int} (h12 : f = 1 ∨ f = 2) : newOk (crewI f) (IntKind.wrap .i64 (3 * f)) 0 = true := by rcases h12 with rfl | rfl <;> decide +kernel
end Go.Proofs.YtljcgggflgbenaaDoor
