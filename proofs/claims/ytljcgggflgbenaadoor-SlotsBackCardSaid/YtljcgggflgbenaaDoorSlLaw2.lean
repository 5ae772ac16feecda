/- The laws of slots: the window, the order, safety. No condition. -/
import Derived.Test.YtljcgggflgbenaaDoorSlLaw
set_option linter.all false
namespace Go.Proofs.YtljcgggflgbenaaDoor
open Go Go.Gx Go.RowKit
theorem bring_in {n m : Int} (h0 : 0 < m) (h1 : m ≤ 4611686018427387904) : 0 ≤ bringI n m ∧ bringI n m < m := by
  unfold bringI
  rw [decide_eq_false (by omega : ¬ m ≤ 0), cond_false]
  have h2 := Int.tmod_lt_of_pos n h0
  have h3 : -m < Int.tmod n m := by
    have := Int.tmod_lt_of_pos (-n) h0
    rw [Int.neg_tmod] at this; omega
  cases h4 : decide (Int.tmod n m < 0) with
  | true => have := of_decide_eq_true h4; rw [cond_true, IntWalk.i64_in _ (by omega)]; omega
  | false => have := of_decide_eq_false h4; rw [cond_false]; omega
theorem f0_eq (low x : Int) : f0 low x = if low + 1 ≤ x ∧ x < low + 9 then some newS else none := by
  unfold f0; rw [fillN_eq]
  by_cases h : low + 1 ≤ x ∧ x < low + 1 + ((8 : Nat) : Int)
  · rw [if_pos h, if_pos (by omega)]; rfl
  · rw [if_neg h, if_neg (by omega)]
section
variable {A n u : Int} {d : Dig} {b : Bool} (hA : 0 ≤ A ∧ A < 1099511627776) (hu : 0 ≤ u ∧ u < 12)
include hA
end
/-! ### All numbers -/
theorem ps_fields {s : SlS} {v : Int} {l : List UInt8} : ∀ i, (psN s v l i).crew = s.crew ∧ (psN s v l i).low = s.low
  | 0 => ⟨rfl, rfl⟩
  | i + 1 => by
    obtain ⟨h1, h2⟩ := ps_fields (s := s) (v := v) (l := l) i
    unfold psN propI
    generalize hv : viewB v = b
    cases b with
    | false => exact ⟨h1, h2⟩
    | true =>
      rw [Bool.not_true, cond_false]
      cases (psN s v l i).f (IntKind.wrap .i64 (1 + ((i : Nat) : Int))) with
      | none => exact ⟨h1, h2⟩
      | some t => simp only []; cases goesI t.last v (digN (l.getD i 0 &&& 3)) != 0 <;> exact ⟨h1, h2⟩
theorem ps_at_j {s : SlS} {v : Int} {l : List UInt8} {g : Int → SlotS} (hg : ∀ j, 1 ≤ j → j ≤ 8 → s.f j = some (g j)) : ∀ i, i ≤ 8 → ∀ j, 1 ≤ j → j ≤ 8 → (psN s v l i).f j = some (if j ≤ i then propT s.crew (g j) j v (digN (l.getD (j - 1).toNat 0 &&& 3)) else g j)
  | 0, _, j, h1, h2 => by rw [if_neg (by omega)]; exact hg j h1 h2
  | i + 1, hi, j, h1, h2 => by
    have ih := ps_at_j (v := v) (l := l) hg i (by omega)
    have hk := ih (1 + ((i : Nat) : Int)) (by omega) (by omega)
    rw [if_neg (by omega)] at hk
    have hw : IntKind.wrap .i64 (1 + ((i : Nat) : Int)) = 1 + ((i : Nat) : Int) := IntWalk.i64_in _ (by omega)
    unfold psN
    rw [hw, propI_at hk, (ps_fields i).1]
    show upd _ _ _ j = _
    unfold upd
    by_cases hj : 1 + ((i : Nat) : Int) = j
    · subst hj; rw [if_pos rfl, if_pos (by omega), show (1 + ((i : Nat) : Int) - 1).toNat = i by omega]
    · rw [if_neg hj, ih j h1 h2]
      by_cases hji : j ≤ i
      · rw [if_pos hji, if_pos (by omega)]
      · rw [if_neg hji, if_neg (by omega)]
theorem ps_8 {s : SlS} {v : Int} {l : List UInt8} {g : Int → SlotS} (hg : ∀ j, 1 ≤ j → j ≤ 8 → s.f j = some (g j)) : ∀ j, 1 ≤ j → j ≤ 8 → (psN s v l 8).f j = some (propT s.crew (g j) j v (digN (l.getD (j - 1).toNat 0 &&& 3))) := fun j h1 h2 => by
  rw [ps_at_j hg 8 (Nat.le_refl _) j h1 h2, if_pos (by omega)]
/-- A word's number, node, digest. -/
def wN (f : Int) (x : Word) : Int := IntKind.wrap .i64 (1 + bringI x.node (IntKind.wrap .i64 (IntKind.wrap .i64 (3 * f) + 1)))
def wJ (x : Word) : Int := IntKind.wrap .i64 (1 + bringI x.seq 8)
def wD (x : Word) : Dig := digN (x.b &&& 3)
theorem wJ_in (x : Word) : 1 ≤ wJ x ∧ wJ x ≤ 8 := by
  unfold wJ
  have := bring_in (n := x.seq) (m := 8) (by decide) (by decide)
  rw [IntWalk.i64_in _ (by omega)]; omega
/-- What a word makes of its number's slot. -/
def sayT (f : Int) (c : Crew) (t : SlotS) (x : Word) : SlotS := bif x.commits then comT c t (wN f x) (bringI x.view 3) (wD x) else prepT c t (wN f x) (bringI x.view 3) (wD x)
def sayE (f : Int) (c : Crew) (t : SlotS) (x : Word) : Int := bif x.commits then comE c t (wN f x) (bringI x.view 3) (wD x) else prepE c t (wN f x) (bringI x.view 3) (wD x)
theorem sayI_at {s : SlS} {f : Int} {x : Word} {t : SlotS} (h : s.f (wJ x) = some t) : sayI s f x = (SlS.mk s.crew s.low (upd s.f (wJ x) (sayT f s.crew t x)), sayE f s.crew t x) := by
  unfold sayI sayT sayE
  cases hc : x.commits with
  | true => exact comI_at h
  | false => exact prepI_at h
/-! ### SlotsOrder -/
/-- A word that its crew takes, of the view 0. -/
structure WOk (f : Int) (x : Word) : Prop where
  view : x.view = 0
  hs : has (crewI f) (wN f x) = true
  ld : x.commits = false → leaderI (crewI f) 0 ≠ wN f x
/-- What is in a map: the words of a list. -/
def InMap (f : Int) (D : List (Int × Wd)) (L : List Word) (cm : Bool) (j : Int) : Prop :=
  (D.map (·.1)).Nodup ∧ ∀ n w, mget D n = some w ↔ ∃ x ∈ L, x.commits = cm ∧ wJ x = j ∧ wN f x = n ∧ w = Wd.mk 0 (wD x)
theorem InMap.nil (f : Int) (cm : Bool) (j : Int) : InMap f [] [] cm j := ⟨.nil, fun n w => ⟨fun h => (by cases h), fun ⟨x, hx, _⟩ => (by cases hx)⟩⟩
theorem InMap.other {f : Int} {D : List (Int × Wd)} {L : List Word} {cm : Bool} {j : Int} {x : Word} (h : InMap f D L cm j) (hx : x.commits ≠ cm ∨ wJ x ≠ j) (b : Bool) : InMap f D (bif b then L ++ [x] else x :: L) cm j := by
  refine ⟨h.1, fun n w => (h.2 n w).trans ?_⟩
  constructor
  · rintro ⟨y, hy, r⟩
    refine ⟨y, ?_, r⟩
    cases b <;> simp [hy]
  · rintro ⟨y, hy, r1, r2, r3⟩
    have hy' : y ∈ L ∨ y = x := by cases b <;> simp at hy <;> rcases hy with hy | hy <;> simp [hy]
    rcases hy' with hy' | rfl
    · exact ⟨y, hy', r1, r2, r3⟩
    · rcases hx with hx | hx
      · exact absurd r1 hx
      · exact absurd r2 hx
theorem InMap.add {f : Int} {D : List (Int × Wd)} {L : List Word} {cm : Bool} {j : Int} {x : Word} (h : InMap f D L cm j) (h1 : x.commits = cm) (h2 : wJ x = j) (h3 : ∀ w, mget D (wN f x) = some w → w = Wd.mk 0 (wD x)) (b : Bool) :
    InMap f (mput D (wN f x) (Wd.mk 0 (wD x))) (bif b then L ++ [x] else x :: L) cm j := by
  refine ⟨mput_nodup _ _ h.1, fun n w => ?_⟩
  rw [mget_mput]
  have hm : ∀ y, (y ∈ (bif b then L ++ [x] else x :: L)) ↔ (y ∈ L ∨ y = x) := fun y => by cases b <;> simp [or_comm]
  by_cases hn : wN f x = n
  · rw [if_pos hn]
    constructor
    · intro hw; simp at hw; exact ⟨x, (hm x).2 (.inr rfl), h1, h2, hn, hw.symm⟩
    · rintro ⟨y, hy, r1, r2, r3, rfl⟩
      rcases (hm y).1 hy with hy | rfl
      · have := (h.2 n (Wd.mk 0 (wD y))).2 ⟨y, hy, r1, r2, r3, rfl⟩
        rw [← hn] at this
        rw [h3 _ this]
      · rfl
  · rw [if_neg hn]
    refine (h.2 n w).trans ?_
    constructor
    · rintro ⟨y, hy, r⟩; exact ⟨y, (hm y).2 (.inl hy), r⟩
    · rintro ⟨y, hy, r1, r2, r3, r4⟩
      rcases (hm y).1 hy with hy | rfl
      · exact ⟨y, hy, r1, r2, r3, r4⟩
      · exact absurd r3 hn
/-- A slot, that has heard L. -/
structure OSlot (f : Int) (c : Crew) (t : SlotS) (L : List Word) (j : Int) (last : Wd) (q : List Stand) : Prop where
  pre : InMap f t.pre L false j
  com : InMap f t.com L true j
  last : t.last = last
  q : t.q = q
  rd : (readyI c t = true → t.prep = t.last) ∧ (readyI c t = false → t.prep = silence)
theorem has_mem {c : Crew} {n : Int} (h : has c n = true) : n ∈ c.nodes := by
  unfold has bsF at h
  simp only [Bool.and_eq_true, decide_eq_true_eq, beq_iff_eq] at h
  obtain ⟨_, h1, h2⟩ := h
  rw [List.getD_eq_getElem?_getD, List.getElem?_eq_getElem h1] at h2
  simp only [Option.getD_some] at h2
  rw [← h2]; exact List.getElem_mem _
theorem nodup_le {K L : List Int} (hK : K.Nodup) (hL : L.Nodup) (h : ∀ x ∈ K, x ∈ L) : K.length ≤ L.length := by
  have h1 := count_over (p := fun x => decide (x ∈ K)) hK hL h (fun x _ hx => of_decide_eq_true hx)
  have h2 : K.countP (fun x => decide (x ∈ K)) = K.length := by rw [List.countP_eq_length]; intro a ha; exact decide_eq_true ha
  rw [← h2, h1]; exact List.countP_le_length
theorem nodes_nd {f : Int} (h12 : f = 1 ∨ f = 2) : (crewI f).nodes.Nodup ∧ (crewI f).nodes.length ≤ 7 := by
  rcases h12 with rfl | rfl <;> decide
theorem InMap.keys {f : Int} {D : List (Int × Wd)} {L : List Word} {cm : Bool} {j : Int} (h : InMap f D L cm j) (hL : ∀ x ∈ L, WOk f x) : ∀ k ∈ D.map (·.1), k ∈ (crewI f).nodes := by
  intro k hk
  obtain ⟨w, hw⟩ := mget_isSome.2 hk
  obtain ⟨x, hx, _, _, r, _⟩ := (h.2 k w).1 hw
  rw [← r]; exact has_mem (hL x hx).hs
theorem InMap.len {f : Int} (h12 : f = 1 ∨ f = 2) {D : List (Int × Wd)} {L : List Word} {cm : Bool} {j : Int} (h : InMap f D L cm j) (hL : ∀ x ∈ L, WOk f x) : (D.map (·.1)).length ≤ 7 :=
  Nat.le_trans (nodup_le h.1 (nodes_nd h12).1 (h.keys hL)) (nodes_nd h12).2
/-- Slots, that have heard L. -/
structure OJ (f : Int) (s : SlS) (L : List Word) (last : Int → Wd) (q : Int → List Stand) : Prop where
  crew : s.crew = crewI f
  low : s.low = 0
  ok : ∀ x ∈ L, WOk f x
  at_ : ∀ j, 1 ≤ j → j ≤ 8 → ∃ t, s.f j = some t ∧ OSlot f (crewI f) t L j (last j) (q j)
end Go.Proofs.YtljcgggflgbenaaDoor
