/- The laws of slots: the window, the order, safety. No condition. -/
import Derived.Test.YtljcgggflgbenaaDoorSlLaw
set_option linter.all false
namespace Go.Proofs.YtljcgggflgbenaaDoor
open Go Go.Gx Go.RowKit
theorem bring_in {n m : Int} (h0 : 0 < m) (h1 : m ≤ 4611686018427387904) : 0 ≤ bringI n m ∧ bringI n m < m := by
  unfold bringI
  rw [decide_eq_false (by omega : ¬ m ≤ 0), cond_false]
  have h2 := Int.tmod_lt_of_pos n h0
  have h3 : -m < Int.tmod n m := by
    have := Int.tmod_lt_of_pos (-n) h0
    rw [Int.neg_tmod] at this; omega
  cases h4 : decide (Int.tmod n m < 0) with
  | true => have := of_decide_eq_true h4; rw [cond_true, IntWalk.i64_in _ (by omega)]; omega
  | false => have := of_decide_eq_false h4; rw [cond_false]; omega
theorem f0_eq (low x : Int) : f0 low x = if low + 1 ≤ x ∧ x < low + 9 then some newS else none := by
  unfold f0; rw [fillN_eq]
  by_cases h : low + 1 ≤ x ∧ x < low + 1 + ((8 : Nat) : Int)
  · rw [if_pos h, if_pos (by omega)]; rfl
  · rw [if_neg h, if_neg (by omega)]
theorem propT_new {c : Crew} (hc : c.faults = 1 ∨ c.faults = 2) {k v : Int} {d : Dig} (hv : 0 ≤ v ∧ v ≤ 1048576) : propE newS v d = 0 ∧ propT c newS k v d = SlotS.mk (Wd.mk v d) silence [] [] [Stand.mk k d v] := by
  have hE : propE newS v d = 0 := by
    unfold propE goesI
    have hb : viewB v = true := by unfold viewB; simp [hv.1, hv.2]
    rw [hb]
    show (bif decide (v < -1) then (190 : Int) else bif ((-1 : Int) == v) && _ then 151 else 0) = 0
    rw [decide_eq_false (by omega : ¬ v < -1), show ((-1 : Int) == v) = false by simp; omega]; rfl
  refine ⟨hE, ?_⟩
  unfold propT propS; rw [hE]
  obtain ⟨h1, _⟩ := propQ_eq (k := k) (v := v) (d := d) (QInv.nil k) (fun a h => by cases h)
  have hq : propQ newS.q k d v = [Stand.mk k d v] := h1
  rw [hq]
  unfold lookS
  rw [ready_no hc (fun n hn => by cases hn)]; rfl
theorem w_new {A : Int} (hA : 0 ≤ A ∧ A < 1099511627776) : newOk (crewI 1) 1 A = true := by
  unfold newOk
  rw [show (check (crewI 1) != 0) = false from by decide +kernel, show has (crewI 1) 1 = true from by decide +kernel]
  unfold lowB; simp; omega
theorem w_prop {A n : Int} {d : Dig} (hA : 0 ≤ A ∧ A < 1099511627776) : (propI (newSl (crewI 1) A) 2 n d).2 = bif decide (A < n) && decide (n ≤ IntKind.wrap .i64 (A + 8)) then 0 else 150 := by
  rw [IntWalk.i64_in _ (by omega)]
  have hf : (newSl (crewI 1) A).f n = if A + 1 ≤ n ∧ n < A + 9 then some newS else none := f0_eq A n
  by_cases h : A + 1 ≤ n ∧ n < A + 9
  · rw [if_pos h] at hf
    rw [propI_at hf, decide_eq_true (by omega : A < n), decide_eq_true (by omega : n ≤ A + 8)]
    exact (propT_new (c := crewI 1) (k := n) (v := 2) (d := d) (.inl rfl) (by decide)).1
  · rw [if_neg h] at hf
    have : (decide (A < n) && decide (n ≤ A + 8)) = false := by rw [Bool.and_eq_false_iff, decide_eq_false_iff_not, decide_eq_false_iff_not]; omega
    rw [this]; unfold propI; rw [hf]; rfl
def wS (A n : Int) (d : Dig) : SlS := (propI (newSl (crewI 1) A) 2 n d).1
theorem wS_low (A n : Int) (d : Dig) : (wS A n d).low = A := by
  unfold wS propI
  cases viewB 2 with
  | false => rfl
  | true =>
    rw [Bool.not_true, cond_false]
    cases (newSl (crewI 1) A).f n with
    | none => rfl
    | some t => simp only []; cases goesI t.last 2 d != 0 <;> rfl
theorem w_raise {A n u : Int} {d : Dig} (hA : 0 ≤ A ∧ A < 1099511627776) (hu : 0 ≤ u ∧ u < 12) : raiseI (wS A n d) (IntKind.wrap .i64 (A + u)) = (SlS.mk (wS A n d).crew (A + u) (fillN (raiseF (wS A n d).f (A + u)) (A + u + 1) 8), 0) := by
  rw [IntWalk.i64_in _ (by omega)]
  unfold raiseI
  rw [wS_low, decide_eq_false (by omega : ¬ A + u < A), show lowB (A + u) = true from by unfold lowB; simp; omega]; rfl
theorem w_sum {A u : Int} (hA : 0 ≤ A ∧ A < 1099511627776) (hu : 0 ≤ u ∧ u < 12) : IntKind.wrap .i64 (A + u) = A + u := IntWalk.i64_in _ (by omega)
theorem w_again {A n u : Int} {d : Dig} (hA : 0 ≤ A ∧ A < 1099511627776) (hu : 0 ≤ u ∧ u < 12) : raiseI (raiseI (wS A n d) (IntKind.wrap .i64 (A + u))).1 (IntKind.wrap .i64 (IntKind.wrap .i64 (A + u) - 1)) = ((raiseI (wS A n d) (IntKind.wrap .i64 (A + u))).1, 9) := by
  rw [w_raise hA hu]
  rw [IntWalk.i64_in (A + u) (by omega), IntWalk.i64_in (A + u - 1) (by omega)]
  unfold raiseI
  rw [decide_eq_true (by simp only []; omega : A + u - 1 < (SlS.mk (wS A n d).crew (A + u) (fillN (raiseF (wS A n d).f (A + u)) (A + u + 1) 8)).low)]; rfl
theorem w_at {A n u : Int} {d : Dig} (hA : 0 ≤ A ∧ A < 1099511627776) (hu : 0 ≤ u ∧ u < 12) :
    atI (raiseI (raiseI (wS A n d) (IntKind.wrap .i64 (A + u))).1 (IntKind.wrap .i64 (IntKind.wrap .i64 (A + u) - 1))).1 n =
      bif (decide (A < n) && decide (n ≤ IntKind.wrap .i64 (A + 8))) && decide (IntKind.wrap .i64 (A + u) < n) then (Stand.mk n d 2, true) else (Stand.mk 0 Dig.zero 0, false) := by
  rw [w_again hA hu, w_raise hA hu, IntWalk.i64_in (A + u) (by omega), IntWalk.i64_in (A + 8) (by omega)]
  unfold atI
  simp only [fillN_eq]
  have hf : (newSl (crewI 1) A).f n = if A + 1 ≤ n ∧ n < A + 9 then some newS else none := f0_eq A n
  by_cases h : A + 1 ≤ n ∧ n < A + 9
  · rw [if_pos h] at hf
    have hw : (wS A n d).f n = some (SlotS.mk (Wd.mk 2 d) silence [] [] [Stand.mk n d 2]) := by
      unfold wS; rw [propI_at hf]; show upd _ n _ n = _; rw [upd_at]; rw [show (newSl (crewI 1) A).crew = crewI 1 from rfl, (propT_new (c := crewI 1) (k := n) (v := 2) (d := d) (.inl rfl) (by decide)).2]
    rw [decide_eq_true (by omega : A < n), decide_eq_true (by omega : n ≤ A + 8)]
    unfold raiseF
    by_cases hn : A + u < n
    · rw [decide_eq_true hn, if_neg (by omega : ¬ n ≤ A + u), hw]
      have : (if A + u + 1 ≤ n ∧ n < A + u + 1 + ((8 : Nat) : Int) then some ((some (SlotS.mk (Wd.mk 2 d) silence [] [] [Stand.mk n d 2])).getD newS) else some (SlotS.mk (Wd.mk 2 d) silence [] [] [Stand.mk n d 2])) = some (SlotS.mk (Wd.mk 2 d) silence [] [] [Stand.mk n d 2]) := by split <;> rfl
      rw [this]
      simp only [Bool.and_self, cond_true]
      rw [decide_eq_false (view_sil (t := SlotS.mk (Wd.mk 2 d) silence [] [] []) (v := 2) (by decide) rfl)]; rfl
    · rw [decide_eq_false hn, if_pos (by omega : n ≤ A + u), if_neg (by omega)]; rfl
  · rw [if_neg h] at hf
    have hw : (wS A n d).f n = none := by unfold wS; rw [propI_none hf]; exact hf
    have : (decide (A < n) && decide (n ≤ A + 8)) = false := by rw [Bool.and_eq_false_iff, decide_eq_false_iff_not, decide_eq_false_iff_not]; omega
    rw [this]
    unfold raiseF
    rw [hw]
    simp only [ite_self, Bool.false_and, cond_false]
    split
    · rename_i e; rfl
    · rename_i x e
      split at e
      · simp at e; subst e; rfl
      · cases e
section
variable {A n u : Int} {d : Dig} {b : Bool} (hA : 0 ≤ A ∧ A < 1099511627776) (hu : 0 ≤ u ∧ u < 12)
include hA
theorem wx_prop (h : (((propI (newSl (crewI 1) A) 2 n d).2 == 0) != b) = true) (hin : (decide (A < n) && decide (n ≤ IntKind.wrap .i64 (A + 8))) = b) : False := by
  rw [w_prop hA, hin] at h; cases b <;> cases h
theorem wx_prop2 (h : ((propI (newSl (crewI 1) A) 2 n d).2 != 150) = true) (hin : (decide (A < n) && decide (n ≤ IntKind.wrap .i64 (A + 8))) = false) : False := by
  rw [w_prop hA, hin] at h; cases h
include hu
theorem wx_raise (h : ((raiseI (propI (newSl (crewI 1) A) 2 n d).1 (IntKind.wrap .i64 (A + u))).2 != 0) = true) : False := by
  have q := w_raise (n := n) (d := d) hA hu; unfold wS at q; rw [q] at h; cases h
theorem wx_low (h : ((raiseI (propI (newSl (crewI 1) A) 2 n d).1 (IntKind.wrap .i64 (A + u))).1.low != IntKind.wrap .i64 (A + u)) = true) : False := by
  have q := w_raise (n := n) (d := d) hA hu; unfold wS at q; rw [q, w_sum hA hu] at h; simp at h
theorem wx_again (h : ((raiseI (raiseI (propI (newSl (crewI 1) A) 2 n d).1 (IntKind.wrap .i64 (A + u))).1 (IntKind.wrap .i64 (IntKind.wrap .i64 (A + u) - 1))).2 != 9) = true) : False := by
  have q := w_again (n := n) (d := d) hA hu; unfold wS at q; rw [q] at h; cases h
theorem wx_at1 (h : ((atI (raiseI (raiseI (propI (newSl (crewI 1) A) 2 n d).1 (IntKind.wrap .i64 (A + u))).1 (IntKind.wrap .i64 (IntKind.wrap .i64 (A + u) - 1))).1 n).2 == b) = false) (hin : ((decide (A < n) && decide (n ≤ IntKind.wrap .i64 (A + 8))) && decide (IntKind.wrap .i64 (A + u) < n)) = b) : False := by
  have q := w_at (n := n) (d := d) hA hu; unfold wS at q; rw [q, hin] at h; cases b <;> cases h
theorem wx_at2 (h : (atI (raiseI (raiseI (propI (newSl (crewI 1) A) 2 n d).1 (IntKind.wrap .i64 (A + u))).1 (IntKind.wrap .i64 (IntKind.wrap .i64 (A + u) - 1))).1 n).2 = !b) (hin : ((decide (A < n) && decide (n ≤ IntKind.wrap .i64 (A + 8))) && decide (IntKind.wrap .i64 (A + u) < n)) = b) : False := by
  have q := w_at (n := n) (d := d) hA hu; unfold wS at q; rw [q, hin] at h; cases b <;> cases h
theorem wx_at3 (h : decide ((atI (raiseI (raiseI (propI (newSl (crewI 1) A) 2 n d).1 (IntKind.wrap .i64 (A + u))).1 (IntKind.wrap .i64 (IntKind.wrap .i64 (A + u) - 1))).1 n).1 = Stand.mk n d 2) = false) (h2 : (atI (raiseI (raiseI (propI (newSl (crewI 1) A) 2 n d).1 (IntKind.wrap .i64 (A + u))).1 (IntKind.wrap .i64 (IntKind.wrap .i64 (A + u) - 1))).1 n).2 = true) : False := by
  have q := w_at (n := n) (d := d) hA hu; unfold wS at q; rw [q] at h h2
  generalize (_ && _ : Bool) = z at h h2
  cases z with
  | true => simp at h
  | false => cases h2
end
/-! ### All numbers -/
/-- A word's number, node, digest. -/
def wN (f : Int) (x : Word) : Int := IntKind.wrap .i64 (1 + bringI x.node (IntKind.wrap .i64 (IntKind.wrap .i64 (3 * f) + 1)))
def wJ (x : Word) : Int := IntKind.wrap .i64 (1 + bringI x.seq 8)
def wD (x : Word) : Dig := digN (x.b &&& 3)
/-! ### SlotsOrder -/
/-- A word that its crew takes, of the view 0. -/
structure WOk (f : Int) (x : Word) : Prop where
  view : x.view = 0
  hs : has (crewI f) (wN f x) = true
  ld : x.commits = false → leaderI (crewI f) 0 ≠ wN f x
/-- What is in a map: the words of a list. -/
def InMap (f : Int) (D : List (Int × Wd)) (L : List Word) (cm : Bool) (j : Int) : Prop :=
  (D.map (·.1)).Nodup ∧ ∀ n w, mget D n = some w ↔ ∃ x ∈ L, x.commits = cm ∧ wJ x = j ∧ wN f x = n ∧ w = Wd.mk 0 (wD x)
theorem InMap.nil (f : Int) (cm : Bool) (j : Int) : InMap f [] [] cm j := ⟨.nil, fun n w => ⟨fun h => (by cases h), fun ⟨x, hx, _⟩ => (by cases hx)⟩⟩
theorem InMap.other {f : Int} {D : List (Int × Wd)} {L : List Word} {cm : Bool} {j : Int} {x : Word} (h : InMap f D L cm j) (hx : x.commits ≠ cm ∨ wJ x ≠ j) (b : Bool) : InMap f D (bif b then L ++ [x] else x :: L) cm j := by
  refine ⟨h.1, fun n w => (h.2 n w).trans ?_⟩
  constructor
  · rintro ⟨y, hy, r⟩
    refine ⟨y, ?_, r⟩
    cases b <;> simp [hy]
  · rintro ⟨y, hy, r1, r2, r3⟩
    have hy' : y ∈ L ∨ y = x := by cases b <;> simp at hy <;> rcases hy with hy | hy <;> simp [hy]
    rcases hy' with hy' | rfl
    · exact ⟨y, hy', r1, r2, r3⟩
    · rcases hx with hx | hx
      · exact absurd r1 hx
      · exact absurd r2 hx
theorem InMap.add {f : Int} {D : List (Int × Wd)} {L : List Word} {cm : Bool} {j : Int} {x : Word} (h : InMap f D L cm j) (h1 : x.commits = cm) (h2 : wJ x = j) (h3 : ∀ w, mget D (wN f x) = some w → w = Wd.mk 0 (wD x)) (b : Bool) :
    InMap f (mput D (wN f x) (Wd.mk 0 (wD x))) (bif b then L ++ [x] else x :: L) cm j := by
  refine ⟨mput_nodup _ _ h.1, fun n w => ?_⟩
  rw [mget_mput]
  have hm : ∀ y, (y ∈ (bif b then L ++ [x] else x :: L)) ↔ (y ∈ L ∨ y = x) := fun y => by cases b <;> simp [or_comm]
  by_cases hn : wN f x = n
  · rw [if_pos hn]
    constructor
    · intro hw; simp at hw; exact ⟨x, (hm x).2 (.inr rfl), h1, h2, hn, hw.symm⟩
    · rintro ⟨y, hy, r1, r2, r3, rfl⟩
      rcases (hm y).1 hy with hy | rfl
      · have := (h.2 n (Wd.mk 0 (wD y))).2 ⟨y, hy, r1, r2, r3, rfl⟩
        rw [← hn] at this
        rw [h3 _ this]
      · rfl
  · rw [if_neg hn]
    refine (h.2 n w).trans ?_
    constructor
    · rintro ⟨y, hy, r⟩; exact ⟨y, (hm y).2 (.inl hy), r⟩
    · rintro ⟨y, hy, r1, r2, r3, r4⟩
      rcases (hm y).1 hy with hy | rfl
      · exact ⟨y, hy, r1, r2, r3, r4⟩
      · exact absurd r3 hn
/-- A slot, that has heard L. -/
structure OSlot (f : Int) (c : Crew) (t : SlotS) (L : List Word) (j : Int) (last : Wd) (q : List Stand) : Prop where
  pre : InMap f t.pre L false j
  com : InMap f t.com L true j
  last : t.last = last
  q : t.q = q
  rd : (readyI c t = true → t.prep = t.last) ∧ (readyI c t = false → t.prep = silence)
theorem has_mem {c : Crew} {n : Int} (h : has c n = true) : n ∈ c.nodes := by
  unfold has bsF at h
  simp only [Bool.and_eq_true, decide_eq_true_eq, beq_iff_eq] at h
  obtain ⟨_, h1, h2⟩ := h
  rw [List.getD_eq_getElem?_getD, List.getElem?_eq_getElem h1] at h2
  simp only [Option.getD_some] at h2
  rw [← h2]; exact List.getElem_mem _
theorem nodup_le {K L : List Int} (hK : K.Nodup) (hL : L.Nodup) (h : ∀ x ∈ K, x ∈ L) : K.length ≤ L.length := by
  have h1 := count_over (p := fun x => decide (x ∈ K)) hK hL h (fun x _ hx => of_decide_eq_true hx)
  have h2 : K.countP (fun x => decide (x ∈ K)) = K.length := by rw [List.countP_eq_length]; intro a ha; exact decide_eq_true ha
  rw [← h2, h1]; exact List.countP_le_length
theorem nodes_nd {f : Int} (h12 : f = 1 ∨ f = 2) : (crewI f).nodes.Nodup ∧ (crewI f).nodes.length ≤ 7 := by
  rcases h12 with rfl | rfl <;> decide
theorem InMap.keys {f : Int} {D : List (Int × Wd)} {L : List Word} {cm : Bool} {j : Int} (h : InMap f D L cm j) (hL : ∀ x ∈ L, WOk f x) : ∀ k ∈ D.map (·.1), k ∈ (crewI f).nodes := by
  intro k hk
  obtain ⟨w, hw⟩ := mget_isSome.2 hk
  obtain ⟨x, hx, _, _, r, _⟩ := (h.2 k w).1 hw
  rw [← r]; exact has_mem (hL x hx).hs
theorem InMap.len {f : Int} (h12 : f = 1 ∨ f = 2) {D : List (Int × Wd)} {L : List Word} {cm : Bool} {j : Int} (h : InMap f D L cm j) (hL : ∀ x ∈ L, WOk f x) : (D.map (·.1)).length ≤ 7 :=
  Nat.le_trans (nodup_le h.1 (nodes_nd h12).1 (h.keys hL)) (nodes_nd h12).2
/-- Slots, that have heard L. -/
structure OJ (f : Int) (s : SlS) (L : List Word) (last : Int → Wd) (q : Int → List Stand) : Prop where
  crew : s.crew = crewI f
  low : s.low = 0
  ok : ∀ x ∈ L, WOk f x
  at_ : ∀ j, 1 ≤ j → j ≤ 8 → ∃ t, s.f j = some t ∧ OSlot f (crewI f) t L j (last j) (q j)
end Go.Proofs.YtljcgggflgbenaaDoor
