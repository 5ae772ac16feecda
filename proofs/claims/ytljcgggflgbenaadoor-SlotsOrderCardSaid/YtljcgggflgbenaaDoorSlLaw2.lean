/- The laws of slots: the window, the order, safety. No condition. -/
import Derived.Test.YtljcgggflgbenaaDoorSlLaw
set_option linter.all false
namespace Go.Proofs.YtljcgggflgbenaaDoor
open Go Go.Gx Go.RowKit
theorem bring_in {n m : Int} (h0 : 0 < m) (h1 : m ≤ 4611686018427387904) : 0 ≤ bringI n m ∧ bringI n m < m := by
  unfold bringI
  rw [decide_eq_false (by omega : ¬ m ≤ 0), cond_false]
  have h2 := Int.tmod_lt_of_pos n h0
  have h3 : -m < Int.tmod n m := by
    have := Int.tmod_lt_of_pos (-n) h0
    rw [Int.neg_tmod] at this; omega
  cases h4 : decide (Int.tmod n m < 0) with
  | true => have := of_decide_eq_true h4; rw [cond_true, IntWalk.i64_in _ (by omega)]; omega
  | false => have := of_decide_eq_false h4; rw [cond_false]; omega
theorem f0_eq (low x : Int) : f0 low x = if low + 1 ≤ x ∧ x < low + 9 then some newS else none := by
  unfold f0; rw [fillN_eq]
  by_cases h : low + 1 ≤ x ∧ x < low + 1 + ((8 : Nat) : Int)
  · rw [if_pos h, if_pos (by omega)]; rfl
  · rw [if_neg h, if_neg (by omega)]
section
variable {A n u : Int} {d : Dig} {b : Bool} (hA : 0 ≤ A ∧ A < 1099511627776) (hu : 0 ≤ u ∧ u < 12)
include hA
end
/-! ### All numbers -/
theorem ps_fields {s : SlS} {v : Int} {l : List UInt8} : ∀ i, (psN s v l i).crew = s.crew ∧ (psN s v l i).low = s.low
  | 0 => ⟨rfl, rfl⟩
  | i + 1 => by
    obtain ⟨h1, h2⟩ := ps_fields (s := s) (v := v) (l := l) i
    unfold psN propI
    generalize hv : viewB v = b
    cases b with
    | false => exact ⟨h1, h2⟩
    | true =>
      rw [Bool.not_true, cond_false]
      cases (psN s v l i).f (IntKind.wrap .i64 (1 + ((i : Nat) : Int))) with
      | none => exact ⟨h1, h2⟩
      | some t => simp only []; cases goesI t.last v (digN (l.getD i 0 &&& 3)) != 0 <;> exact ⟨h1, h2⟩
theorem ps_at_j {s : SlS} {v : Int} {l : List UInt8} {g : Int → SlotS} (hg : ∀ j, 1 ≤ j → j ≤ 8 → s.f j = some (g j)) : ∀ i, i ≤ 8 → ∀ j, 1 ≤ j → j ≤ 8 → (psN s v l i).f j = some (if j ≤ i then propT s.crew (g j) j v (digN (l.getD (j - 1).toNat 0 &&& 3)) else g j)
  | 0, _, j, h1, h2 => by rw [if_neg (by omega)]; exact hg j h1 h2
  | i + 1, hi, j, h1, h2 => by
    have ih := ps_at_j (v := v) (l := l) hg i (by omega)
    have hk := ih (1 + ((i : Nat) : Int)) (by omega) (by omega)
    rw [if_neg (by omega)] at hk
    have hw : IntKind.wrap .i64 (1 + ((i : Nat) : Int)) = 1 + ((i : Nat) : Int) := IntWalk.i64_in _ (by omega)
    unfold psN
    rw [hw, propI_at hk, (ps_fields i).1]
    show upd _ _ _ j = _
    unfold upd
    by_cases hj : 1 + ((i : Nat) : Int) = j
    · subst hj; rw [if_pos rfl, if_pos (by omega), show (1 + ((i : Nat) : Int) - 1).toNat = i by omega]
    · rw [if_neg hj, ih j h1 h2]
      by_cases hji : j ≤ i
      · rw [if_pos hji, if_pos (by omega)]
      · rw [if_neg hji, if_neg (by omega)]
theorem ps_8 {s : SlS} {v : Int} {l : List UInt8} {g : Int → SlotS} (hg : ∀ j, 1 ≤ j → j ≤ 8 → s.f j = some (g j)) : ∀ j, 1 ≤ j → j ≤ 8 → (psN s v l 8).f j = some (propT s.crew (g j) j v (digN (l.getD (j - 1).toNat 0 &&& 3))) := fun j h1 h2 => by
  rw [ps_at_j hg 8 (Nat.le_refl _) j h1 h2, if_pos (by omega)]
/-- A word's number, node, digest. -/
def wN (f : Int) (x : Word) : Int := IntKind.wrap .i64 (1 + bringI x.node (IntKind.wrap .i64 (IntKind.wrap .i64 (3 * f) + 1)))
def wJ (x : Word) : Int := IntKind.wrap .i64 (1 + bringI x.seq 8)
def wD (x : Word) : Dig := digN (x.b &&& 3)
theorem wJ_in (x : Word) : 1 ≤ wJ x ∧ wJ x ≤ 8 := by
  unfold wJ
  have := bring_in (n := x.seq) (m := 8) (by decide) (by decide)
  rw [IntWalk.i64_in _ (by omega)]; omega
/-- What a word makes of its number's slot. -/
def sayT (f : Int) (c : Crew) (t : SlotS) (x : Word) : SlotS := bif x.commits then comT c t (wN f x) (bringI x.view 3) (wD x) else prepT c t (wN f x) (bringI x.view 3) (wD x)
def sayE (f : Int) (c : Crew) (t : SlotS) (x : Word) : Int := bif x.commits then comE c t (wN f x) (bringI x.view 3) (wD x) else prepE c t (wN f x) (bringI x.view 3) (wD x)
theorem sayI_at {s : SlS} {f : Int} {x : Word} {t : SlotS} (h : s.f (wJ x) = some t) : sayI s f x = (SlS.mk s.crew s.low (upd s.f (wJ x) (sayT f s.crew t x)), sayE f s.crew t x) := by
  unfold sayI sayT sayE
  cases hc : x.commits with
  | true => exact comI_at h
  | false => exact prepI_at h
/-! ### SlotsOrder -/
/-- A word that its crew takes, of the view 0. -/
structure WOk (f : Int) (x : Word) : Prop where
  view : x.view = 0
  hs : has (crewI f) (wN f x) = true
  ld : x.commits = false → leaderI (crewI f) 0 ≠ wN f x
/-- What is in a map: the words of a list. -/
def InMap (f : Int) (D : List (Int × Wd)) (L : List Word) (cm : Bool) (j : Int) : Prop :=
  (D.map (·.1)).Nodup ∧ ∀ n w, mget D n = some w ↔ ∃ x ∈ L, x.commits = cm ∧ wJ x = j ∧ wN f x = n ∧ w = Wd.mk 0 (wD x)
theorem InMap.nil (f : Int) (cm : Bool) (j : Int) : InMap f [] [] cm j := ⟨.nil, fun n w => ⟨fun h => (by cases h), fun ⟨x, hx, _⟩ => (by cases hx)⟩⟩
theorem bring0 : bringI 0 3 = 0 := by decide
theorem InMap.other {f : Int} {D : List (Int × Wd)} {L : List Word} {cm : Bool} {j : Int} {x : Word} (h : InMap f D L cm j) (hx : x.commits ≠ cm ∨ wJ x ≠ j) (b : Bool) : InMap f D (bif b then L ++ [x] else x :: L) cm j := by
  refine ⟨h.1, fun n w => (h.2 n w).trans ?_⟩
  constructor
  · rintro ⟨y, hy, r⟩
    refine ⟨y, ?_, r⟩
    cases b <;> simp [hy]
  · rintro ⟨y, hy, r1, r2, r3⟩
    have hy' : y ∈ L ∨ y = x := by cases b <;> simp at hy <;> rcases hy with hy | hy <;> simp [hy]
    rcases hy' with hy' | rfl
    · exact ⟨y, hy', r1, r2, r3⟩
    · rcases hx with hx | hx
      · exact absurd r1 hx
      · exact absurd r2 hx
theorem InMap.add {f : Int} {D : List (Int × Wd)} {L : List Word} {cm : Bool} {j : Int} {x : Word} (h : InMap f D L cm j) (h1 : x.commits = cm) (h2 : wJ x = j) (h3 : ∀ w, mget D (wN f x) = some w → w = Wd.mk 0 (wD x)) (b : Bool) :
    InMap f (mput D (wN f x) (Wd.mk 0 (wD x))) (bif b then L ++ [x] else x :: L) cm j := by
  refine ⟨mput_nodup _ _ h.1, fun n w => ?_⟩
  rw [mget_mput]
  have hm : ∀ y, (y ∈ (bif b then L ++ [x] else x :: L)) ↔ (y ∈ L ∨ y = x) := fun y => by cases b <;> simp [or_comm]
  by_cases hn : wN f x = n
  · rw [if_pos hn]
    constructor
    · intro hw; simp at hw; exact ⟨x, (hm x).2 (.inr rfl), h1, h2, hn, hw.symm⟩
    · rintro ⟨y, hy, r1, r2, r3, rfl⟩
      rcases (hm y).1 hy with hy | rfl
      · have := (h.2 n (Wd.mk 0 (wD y))).2 ⟨y, hy, r1, r2, r3, rfl⟩
        rw [← hn] at this
        rw [h3 _ this]
      · rfl
  · rw [if_neg hn]
    refine (h.2 n w).trans ?_
    constructor
    · rintro ⟨y, hy, r⟩; exact ⟨y, (hm y).2 (.inl hy), r⟩
    · rintro ⟨y, hy, r1, r2, r3, r4⟩
      rcases (hm y).1 hy with hy | rfl
      · exact ⟨y, hy, r1, r2, r3, r4⟩
      · exact absurd r3 hn
/-- What a word asks of a map. -/
theorem says_zero {f : Int} {D : List (Int × Wd)} {L : List Word} {cm : Bool} {j n : Int} {d : Dig} (h : InMap f D L cm j) : saysI D n 0 d = 0 ↔ ∀ w, mget D n = some w → w = Wd.mk 0 d := by
  unfold saysI wordOf
  cases hm : mget D n with
  | none => simp
  | some w =>
    obtain ⟨x, hx, r1, r2, r3, rfl⟩ := (h.2 n w).1 hm
    simp only [Option.isSome_some, cond_true, Option.getD_some, Option.some.injEq, forall_eq']
    unfold goesI
    rw [show decide ((0 : Int) < (Wd.mk 0 (wD x)).view) = false from rfl, show ((Wd.mk 0 (wD x)).view == 0) = true from rfl]
    simp only [cond_false, Bool.true_and]
    by_cases hd : wD x = d
    · simp [hd]
    · simp [hd]
/-- A slot, that has heard L. -/
structure OSlot (f : Int) (c : Crew) (t : SlotS) (L : List Word) (j : Int) (last : Wd) (q : List Stand) : Prop where
  pre : InMap f t.pre L false j
  com : InMap f t.com L true j
  last : t.last = last
  q : t.q = q
  rd : (readyI c t = true → t.prep = t.last) ∧ (readyI c t = false → t.prep = silence)
theorem wrap_le {a b : Nat} (h : a ≤ b) (hb : b ≤ 4611686018427387904) : IntKind.wrap .i64 (a : Int) ≤ IntKind.wrap .i64 (b : Int) := by
  rw [IntWalk.i64_in (a : Int) (by omega), IntWalk.i64_in (b : Int) (by omega)]; exact Int.ofNat_le.2 h
theorem ready_mono {c : Crew} {t : SlotS} {n : Int} {w : Wd} (hf : c.faults = 1 ∨ c.faults = 2) (hn : (t.pre.map (·.1)).Nodup) (hk : ∀ u, mget t.pre n = some u → u = w) (hb : ((mput t.pre n w).map (·.1)).length ≤ 4611686018427387904)
    (h : readyI c t = true) : readyI c (SlotS.mk t.last t.prep (mput t.pre n w) t.com t.q) = true := by
  unfold readyI at h ⊢
  cases hs : decide (t.last = silence) with
  | true => rw [hs] at h; cases h
  | false =>
    rw [hs, cond_false] at h
    rw [cond_false]
    have h := of_decide_eq_true h
    refine decide_eq_true (Int.le_trans h ?_)
    have hsub : cntK t (leaderI c t.last.view) (t.pre.map (·.1)) ≤ cntK (SlotS.mk t.last t.prep (mput t.pre n w) t.com t.q) (leaderI c t.last.view) ((mput t.pre n w).map (·.1)) := by
      have h1 : cntK t (leaderI c t.last.view) (t.pre.map (·.1)) = cntK t (leaderI c t.last.view) ((mput t.pre n w).map (·.1)) := by
        unfold cntK
        refine count_over hn (mput_nodup _ _ hn) (fun k hk => ?_) (fun k _ hp => ?_)
        · obtain ⟨z, hz⟩ := mget_isSome.2 hk
          refine mget_isSome.1 ?_
          rw [mget_mput]; split
          · exact ⟨_, rfl⟩
          · exact ⟨z, hz⟩
        · simp only [Bool.and_eq_true, decide_eq_true_eq] at hp; exact mget_key hp.1
      rw [h1]
      unfold cntK
      refine List.countP_mono_left fun k _ hp => ?_
      simp only [Bool.and_eq_true, decide_eq_true_eq] at hp ⊢
      refine ⟨?_, hp.2⟩
      rw [mget_mput]; split
      · rename_i e; subst e; rw [hk _ hp.1]
      · exact hp.1
    have hle : cntK (SlotS.mk t.last t.prep (mput t.pre n w) t.com t.q) (leaderI c t.last.view) ((mput t.pre n w).map (·.1)) ≤ 4611686018427387904 := Nat.le_trans List.countP_le_length hb
    exact wrap_le hsub hle
theorem crewI_faults (f : Int) : (crewI f).faults = f := rfl
theorem has_mem {c : Crew} {n : Int} (h : has c n = true) : n ∈ c.nodes := by
  unfold has bsF at h
  simp only [Bool.and_eq_true, decide_eq_true_eq, beq_iff_eq] at h
  obtain ⟨_, h1, h2⟩ := h
  rw [List.getD_eq_getElem?_getD, List.getElem?_eq_getElem h1] at h2
  simp only [Option.getD_some] at h2
  rw [← h2]; exact List.getElem_mem _
theorem nodup_le {K L : List Int} (hK : K.Nodup) (hL : L.Nodup) (h : ∀ x ∈ K, x ∈ L) : K.length ≤ L.length := by
  have h1 := count_over (p := fun x => decide (x ∈ K)) hK hL h (fun x _ hx => of_decide_eq_true hx)
  have h2 : K.countP (fun x => decide (x ∈ K)) = K.length := by rw [List.countP_eq_length]; intro a ha; exact decide_eq_true ha
  rw [← h2, h1]; exact List.countP_le_length
theorem nodes_nd {f : Int} (h12 : f = 1 ∨ f = 2) : (crewI f).nodes.Nodup ∧ (crewI f).nodes.length ≤ 7 := by
  rcases h12 with rfl | rfl <;> decide
theorem InMap.keys {f : Int} {D : List (Int × Wd)} {L : List Word} {cm : Bool} {j : Int} (h : InMap f D L cm j) (hL : ∀ x ∈ L, WOk f x) : ∀ k ∈ D.map (·.1), k ∈ (crewI f).nodes := by
  intro k hk
  obtain ⟨w, hw⟩ := mget_isSome.2 hk
  obtain ⟨x, hx, _, _, r, _⟩ := (h.2 k w).1 hw
  rw [← r]; exact has_mem (hL x hx).hs
theorem InMap.len {f : Int} (h12 : f = 1 ∨ f = 2) {D : List (Int × Wd)} {L : List Word} {cm : Bool} {j : Int} (h : InMap f D L cm j) (hL : ∀ x ∈ L, WOk f x) : (D.map (·.1)).length ≤ 7 :=
  Nat.le_trans (nodup_le h.1 (nodes_nd h12).1 (h.keys hL)) (nodes_nd h12).2
theorem sayE_zero {f : Int} {t : SlotS} {x : Word} {L : List Word} {j : Int} (hv : x.view = 0) (hp : InMap f t.pre L false j) (hc : InMap f t.com L true j) :
    sayE f (crewI f) t x = 0 ↔ WOk f x ∧ ∀ w, mget (bif x.commits then t.com else t.pre) (wN f x) = some w → w = Wd.mk 0 (wD x) := by
  unfold sayE comE prepE
  rw [hv, bring0]
  have hb : viewB 0 = true := rfl
  cases hcm : x.commits with
  | true =>
    simp only [cond_true, hb, Bool.not_true, cond_false]
    cases hh : has (crewI f) (wN f x) with
    | false => simp only [Bool.not_false, cond_true]; exact ⟨fun h => (by cases h), fun ⟨h, _⟩ => (by have := h.hs; rw [hh] at this; cases this)⟩
    | true =>
      simp only [Bool.not_true, cond_false]
      rw [says_zero hc]
      exact ⟨fun h => ⟨⟨hv, hh, fun h => by rw [hcm] at h; cases h⟩, h⟩, fun h => h.2⟩
  | false =>
    simp only [cond_false, hb, Bool.not_true]
    cases hh : has (crewI f) (wN f x) with
    | false => simp only [Bool.not_false, cond_true]; exact ⟨fun h => (by cases h), fun ⟨h, _⟩ => (by have := h.hs; rw [hh] at this; cases this)⟩
    | true =>
      simp only [Bool.not_true, cond_false]
      cases hl : leaderI (crewI f) 0 == wN f x with
      | true => simp only [cond_true]; exact ⟨fun h => (by cases h), fun ⟨h, _⟩ => absurd (eq_of_beq hl) (h.ld hcm)⟩
      | false =>
        simp only [cond_false]
        rw [says_zero hp]
        exact ⟨fun h => ⟨⟨hv, hh, fun _ e => by rw [e] at hl; simp at hl⟩, h⟩, fun h => h.2⟩
theorem sayT_of {f : Int} {c : Crew} {t : SlotS} {x : Word} (hv : x.view = 0) : sayT f c t x = bif sayE f c t x == 0 then (bif x.commits then SlotS.mk t.last t.prep t.pre (mput t.com (wN f x) (Wd.mk 0 (wD x))) t.q else lookS c (SlotS.mk t.last t.prep (mput t.pre (wN f x) (Wd.mk 0 (wD x))) t.com t.q)) else t := by
  unfold sayT sayE comT prepT
  rw [hv, bring0]
  cases x.commits <;> rfl
/-- A word that its slot takes. -/
theorem o_say {f : Int} (h12 : f = 1 ∨ f = 2) {t : SlotS} {L : List Word} {j : Int} {last : Wd} {q : List Stand} {x : Word} (hL : ∀ y ∈ L, WOk f y) (h : OSlot f (crewI f) t L j last q) (hj : wJ x = j) (hv : x.view = 0) (hE : sayE f (crewI f) t x = 0) (b : Bool) :
    OSlot f (crewI f) (sayT f (crewI f) t x) (bif b then L ++ [x] else x :: L) j last q ∧ WOk f x := by
  obtain ⟨hW, hm⟩ := (sayE_zero hv h.pre h.com).1 hE
  refine ⟨?_, hW⟩
  rw [sayT_of hv, hE]
  show OSlot f (crewI f) (bif x.commits then _ else _) _ j last q
  cases hc : x.commits with
  | true =>
    rw [hc] at hm
    exact ⟨h.pre.other (.inl (by rw [hc]; decide)) b, h.com.add hc hj hm b, h.last, h.q, h.rd⟩
  | false =>
    rw [hc] at hm
    rw [cond_false]
    have hp := h.pre.add hc hj hm b
    have hcm := h.com.other (x := x) (.inl (by rw [hc]; decide)) b
    obtain ⟨f1, f2, f3, f4⟩ := lookS_fields (crewI f) (SlotS.mk t.last t.prep (mput t.pre (wN f x) (Wd.mk 0 (wD x))) t.com t.q)
    refine ⟨by rw [f2]; exact hp, by rw [f3]; exact hcm, f1.trans h.last, f4.trans h.q, ?_, ?_⟩
    · exact look_rd _ _
    · intro hr
      rw [ready_look] at hr
      unfold lookS; rw [hr, cond_false]
      refine h.rd.2 ?_
      cases hr0 : readyI (crewI f) t with
      | false => rfl
      | true =>
        have hlen := hp.len h12 (by
          intro y hy
          cases b <;> simp at hy <;> rcases hy with hy | hy <;> first | exact hL y hy | (rw [hy]; exact hW))
        have := ready_mono (c := crewI f) (by rw [crewI_faults]; exact h12) h.pre.1 hm (by rw [List.length_map] at hlen ⊢; omega) hr0
        rw [this] at hr; cases hr
theorem o_other {f : Int} {c : Crew} {t : SlotS} {L : List Word} {j : Int} {last : Wd} {q : List Stand} {x : Word} (h : OSlot f c t L j last q) (hj : wJ x ≠ j) (b : Bool) : OSlot f c t (bif b then L ++ [x] else x :: L) j last q :=
  ⟨h.pre.other (.inr hj) b, h.com.other (.inr hj) b, h.last, h.q, h.rd⟩
/-- Slots, that have heard L. -/
structure OJ (f : Int) (s : SlS) (L : List Word) (last : Int → Wd) (q : Int → List Stand) : Prop where
  crew : s.crew = crewI f
  low : s.low = 0
  ok : ∀ x ∈ L, WOk f x
  at_ : ∀ j, 1 ≤ j → j ≤ 8 → ∃ t, s.f j = some t ∧ OSlot f (crewI f) t L j (last j) (q j)
theorem oj_say {f : Int} (h12 : f = 1 ∨ f = 2) {s : SlS} {L : List Word} {last : Int → Wd} {q : Int → List Stand} {x : Word} (h : OJ f s L last q) (hv : x.view = 0) (hE : (sayI s f x).2 = 0) (b : Bool) : OJ f (sayI s f x).1 (bif b then L ++ [x] else x :: L) last q := by
  obtain ⟨t, ht, hS⟩ := h.at_ (wJ x) (wJ_in x).1 (wJ_in x).2
  rw [sayI_at ht, h.crew] at hE ⊢
  obtain ⟨h1, h2⟩ := o_say h12 h.ok hS rfl hv hE b
  refine ⟨rfl, h.low, fun y hy => ?_, fun j j1 j2 => ?_⟩
  · cases b <;> simp at hy <;> rcases hy with hy | hy <;> first | exact h.ok y hy | (rw [hy]; exact h2)
  · by_cases hj : wJ x = j
    · subst hj; exact ⟨_, upd_at _ _ _, h1⟩
    · obtain ⟨u, hu, hU⟩ := h.at_ j j1 j2
      exact ⟨u, by show upd _ _ _ j = _; unfold upd; rw [if_neg hj]; exact hu, o_other hU hj b⟩
theorem oj_no {f : Int} {s : SlS} {L : List Word} {last : Int → Wd} {q : Int → List Stand} {x : Word} (h : OJ f s L last q) (hE : ¬ (sayI s f x).2 = 0) : OJ f (sayI s f x).1 L last q := by
  obtain ⟨t, ht, hS⟩ := h.at_ (wJ x) (wJ_in x).1 (wJ_in x).2
  rw [sayI_at ht, h.crew] at hE ⊢
  have : sayT f (crewI f) t x = t := by
    unfold sayT sayE at *
    cases hc : x.commits with
    | true => rw [hc] at hE; simp only [cond_true] at hE ⊢; unfold comT; rw [show (comE (crewI f) t (wN f x) (bringI x.view 3) (wD x) == 0) = false by simpa using hE]; rfl
    | false => rw [hc] at hE; simp only [cond_false] at hE ⊢; unfold prepT; rw [show (prepE (crewI f) t (wN f x) (bringI x.view 3) (wD x) == 0) = false by simpa using hE]; rfl
  rw [this, upd_self ht]
  exact ⟨rfl, h.low, h.ok, h.at_⟩
/-- A word that others took is taken again. -/
theorem oj_again {f : Int} {s s' : SlS} {L M : List Word} {last last' : Int → Wd} {q q' : Int → List Stand} {x : Word} (h : OJ f s L last q) (h' : OJ f s' M last' q') (hM : ∀ y ∈ M, y ∈ L) (hx : x ∈ L) : (sayI s' f x).2 = 0 := by
  obtain ⟨t, ht, hS⟩ := h.at_ (wJ x) (wJ_in x).1 (wJ_in x).2
  obtain ⟨u, hu, hU⟩ := h'.at_ (wJ x) (wJ_in x).1 (wJ_in x).2
  rw [sayI_at hu, h'.crew]
  have hW := h.ok x hx
  show sayE f (crewI f) u x = 0
  rw [sayE_zero hW.view hU.pre hU.com]
  refine ⟨hW, fun w hw => ?_⟩
  cases hc : x.commits with
  | true =>
    rw [hc] at hw
    obtain ⟨y, hy, r1, r2, r3, r4⟩ := (hU.com.2 _ w).1 hw
    have e1 := (hS.com.2 (wN f x) (Wd.mk 0 (wD y))).2 ⟨y, hM y hy, r1, r2, r3, rfl⟩
    have e2 := (hS.com.2 (wN f x) (Wd.mk 0 (wD x))).2 ⟨x, hx, hc, rfl, rfl, rfl⟩
    rw [e1] at e2; rw [r4]; exact Option.some.inj e2
  | false =>
    rw [hc] at hw
    obtain ⟨y, hy, r1, r2, r3, r4⟩ := (hU.pre.2 _ w).1 hw
    have e1 := (hS.pre.2 (wN f x) (Wd.mk 0 (wD y))).2 ⟨y, hM y hy, r1, r2, r3, rfl⟩
    have e2 := (hS.pre.2 (wN f x) (Wd.mk 0 (wD x))).2 ⟨x, hx, hc, rfl, rfl, rfl⟩
    rw [e1] at e2; rw [r4]; exact Option.some.inj e2
theorem oj_new {f : Int} : OJ f (newSl (crewI f) 0) [] (fun _ => silence) (fun _ => []) := by
  refine ⟨rfl, rfl, fun x h => (by cases h), fun j j1 j2 => ⟨newS, ?_, ⟨InMap.nil _ _ _, InMap.nil _ _ _, rfl, rfl, fun h => ?_, fun _ => rfl⟩⟩⟩
  · show f0 0 j = _; rw [f0_eq, if_pos (by omega)]
  · unfold readyI at h; rw [show decide (newS.last = silence) = true from rfl] at h; cases h
/-- What was proposed at a number. -/
def pD (l : List UInt8) (j : Int) : Dig := digN (l.getD (j - 1).toNat 0 &&& 3)
theorem oj_ps {f : Int} (h12 : f = 1 ∨ f = 2) {s : SlS} {L : List Word} {l : List UInt8} (h : OJ f s L (fun _ => silence) (fun _ => [])) : OJ f (psN s 0 l 8) L (fun j => Wd.mk 0 (pD l j)) (fun j => [Stand.mk j (pD l j) 0]) := by
  have hg : ∀ j, 1 ≤ j → j ≤ 8 → s.f j = some ((s.f j).getD newS) := fun j j1 j2 => by obtain ⟨t, ht, _⟩ := h.at_ j j1 j2; rw [ht]; rfl
  refine ⟨(ps_fields 8).1.trans h.crew, (ps_fields 8).2.trans h.low, h.ok, fun j j1 j2 => ?_⟩
  obtain ⟨t, ht, hS⟩ := h.at_ j j1 j2
  refine ⟨_, ps_8 hg j j1 j2, ?_⟩
  rw [ht, h.crew]
  show OSlot f (crewI f) (propT (crewI f) t j 0 (pD l j)) L j _ _
  have hE : propE t 0 (pD l j) = 0 := by
    unfold propE goesI; rw [hS.last]; rfl
  have hT : propT (crewI f) t j 0 (pD l j) = lookS (crewI f) (SlotS.mk (Wd.mk 0 (pD l j)) t.prep t.pre t.com [Stand.mk j (pD l j) 0]) := by
    unfold propT propS; rw [hE, hS.q]
    obtain ⟨h1, _⟩ := propQ_eq (k := j) (v := 0) (d := pD l j) (QInv.nil j) (fun a h => by cases h)
    rw [show propQ [] j (pD l j) 0 = [Stand.mk j (pD l j) 0] from h1]; rfl
  obtain ⟨f1, f2, f3, f4⟩ := lookS_fields (crewI f) (SlotS.mk (Wd.mk 0 (pD l j)) t.prep t.pre t.com [Stand.mk j (pD l j) 0])
  rw [hT]
  refine ⟨by rw [f2]; exact hS.pre, by rw [f3]; exact hS.com, f1, f4, look_rd _ _, fun hr => ?_⟩
  rw [ready_look] at hr
  unfold lookS; rw [hr, cond_false]
  refine hS.rd.2 ?_
  unfold readyI; rw [hS.last]; rfl
/-- Two that have heard the same. -/
theorem oj_same {f : Int} {s s' : SlS} {L M : List Word} {last : Int → Wd} {q : Int → List Stand} (h : OJ f s L last q) (h' : OJ f s' M last q) (hM : ∀ y, y ∈ M ↔ y ∈ L) (j : Int) (j1 : 1 ≤ j) (j2 : j ≤ 8) :
    ∃ t u, s.f j = some t ∧ s'.f j = some u ∧ t.last = u.last ∧ t.q = u.q ∧ t.prep = u.prep ∧ readyI (crewI f) t = readyI (crewI f) u ∧ cntC t (t.com.map (·.1)) = cntC u (u.com.map (·.1)) := by
  obtain ⟨t, ht, hS⟩ := h.at_ j j1 j2
  obtain ⟨u, hu, hU⟩ := h'.at_ j j1 j2
  have hl : t.last = u.last := hS.last.trans hU.last.symm
  have me : ∀ {D E : List (Int × Wd)} {cm : Bool}, InMap f D L cm j → InMap f E M cm j → ∀ n, mget D n = mget E n := by
    intro D E cm hD hE n
    apply Option.ext
    intro w
    rw [hD.2 n w, hE.2 n w]
    exact ⟨fun ⟨x, a, b⟩ => ⟨x, (hM x).2 a, b⟩, fun ⟨x, a, b⟩ => ⟨x, (hM x).1 a, b⟩⟩
  have hr : readyI (crewI f) t = readyI (crewI f) u := ready_ext hl hS.pre.1 hU.pre.1 (me hS.pre hU.pre)
  refine ⟨t, u, ht, hu, hl, hS.q.trans hU.q.symm, ?_, hr, cntC_ext hl hS.com.1 hU.com.1 (me hS.com hU.com)⟩
  cases hb : readyI (crewI f) t with
  | true => rw [hS.rd.1 hb, hU.rd.1 (by rw [← hr]; exact hb), hl]
  | false => rw [hS.rd.2 hb, hU.rd.2 (by rw [← hr]; exact hb)]
theorem or_prep {f : Int} {s s' : SlS} {L M : List Word} {last : Int → Wd} {q : Int → List Stand} (h : OJ f s L last q) (h' : OJ f s' M last q) (hM : ∀ y, y ∈ M ↔ y ∈ L) {j : Int} (j1 : 1 ≤ j) (j2 : j ≤ 8) : preparedI s j = preparedI s' j ∧ committedI s j = committedI s' j := by
  obtain ⟨t, u, ht, hu, e1, e2, e3, e4, e5⟩ := oj_same h h' hM j j1 j2
  unfold preparedI committedI
  rw [ht, hu, h.crew, h'.crew]
  simp only [e4, e5, and_self]
theorem or_pq {f : Int} {s s' : SlS} {L M : List Word} {last : Int → Wd} {q : Int → List Stand} (h : OJ f s L last q) (h' : OJ f s' M last q) (hM : ∀ y, y ∈ M ↔ y ∈ L) : pI s.f (s.low + 1) 8 = pI s'.f (s'.low + 1) 8 ∧ qI s.f (s.low + 1) 8 = qI s'.f (s'.low + 1) 8 := by
  rw [h.low, h'.low]
  have key : ∀ i, i ≤ 8 → pI s.f (0 + 1) i = pI s'.f (0 + 1) i ∧ qI s.f (0 + 1) i = qI s'.f (0 + 1) i := by
    intro i
    induction i with
    | zero => intro _; exact ⟨rfl, rfl⟩
    | succ i ih =>
      intro hi
      obtain ⟨i1, i2⟩ := ih (by omega)
      obtain ⟨t, u, ht, hu, e1, e2, e3, e4, e5⟩ := oj_same h h' hM ((0 : Int) + 1 + (i : Int)) (by omega) (by omega)
      constructor
      · simp only [pI]; rw [i1]; unfold pAt; rw [ht, hu]; simp only [e3]
      · simp only [qI]; rw [i2]; unfold qAt; rw [ht, hu]; simp only [e2]
  exact key 8 (Nat.le_refl _)
end Go.Proofs.YtljcgggflgbenaaDoor
